/- Parts of the framework and of the proof: The heaviest sums and the least sizes are the same; The program's walls and orders are the specification's; The program's direct orders are the specification's; Sums and counts of cells; The least rectangle around cells, by the program; The least rectangle around a room and its cells, by the specification; Plans that are read are the specification's: grids and names; Plans that are read are the specification's: numbers of rooms and rectangles; Plans that are read are the specification's: rooms fill their rectangles; Areas by the program are the specification's; Areas by the program are the specification's, joined; Arguments of laws as plain data; A slice of bytes as an argument: plain data; strings.Count of one sign, in the model's own words; Terms: how a text is read, by the specification and by the program; Plans in which no four rooms meet: two orders of rooms go on without end, and each two rooms are in one; Two plans side by side, each stretched where they meet; The program's closures and walls in words of cells: left of is going on from just left of, above is going on from just above; Orders of a plain plan: each two rooms are in just one; Where rooms begin and how far they may be moved: the program's lists are the specification's; Shapes in plain words: the program's least shapes are the specification's; Sizes in plain words: areas, places, slacks, longest rows; Grids whose cells are alike are numbered alike; the text of a numbered grid is named as it should be; Orders of plans that are made of other plans: rows and columns exchanged, turned, seen from behind, made wide or tight; Rooms put in a row by how many are ahead of them; The two orders are orders of all rooms; the places of the second order in the first one; What the laws of sizes ask, of plans in plain words; Longest rows of rooms, as the specification finds them, in plain words; Longest growing parts of the permutation of a plan are longest rows of its rooms; Plans that are made of other plans: their orders, their permutations and their least sizes; Upright cuts are where the permutation falls apart; Two plans side by side: their orders; Two plans side by side: their orders are those of each, and the first one's rooms are left of the second one's; Grids that are made of cells told by a function, gone through; Plans made of plans, gone through; Rooms of two plans put together, beside each other or one below the other: the permutation; Plans made of two plans beside each other or one below the other, each stretched where they meet; Cut trees: parts of plans, their first cuts, and the tree of all; Parts of plans as texts: the specification's cut and its parts; Parts of plans in the program: the rooms of a part, its lines, its cut; Cut trees, gone down; what is told along them; Cuts and orders: what lies on the two sides of a cut; widths along cuts are least widths; Plans that are cuttable, by the orders of their rooms; so by their permutations; Permutations of plain plans are fair; Loose permutations are those that fall apart; Cuts in the specification, gone through; Texts along cuts and widths along cuts in the specification, gone through; Fair and loose permutations of plain plans, as the program asks; Terms: signs moved inwards; permutations of terms; Plans of terms; Plans have terms with their permutation; texts of terms are read back; Texts before and behind a sign; texts of terms and of plans have no white space; strings.IndexByte, in the model's own words; Texts cut at a sign; numbers of one digit; a builder and texts, gone through; Parts of plans in the program: rooms, lines, gone through. -/
import Derived.Test.YtclbmeloiefbaaaGreatDoorJ2
import Derived.Test.YtclbmeloiefbaaaGreatDoorRows
import Derived.ProofKit
import Derived.SliceStrings
import Derived.Test.YtclbmeloiefbaaaGreatDoorJ1
import Derived.Lib.Bytealg
import Derived.Lib.Walk
import Derived.WalkKit
import Derived.Laws.Externs
set_option linter.all false
namespace Go.Proofs.YtclbmeloiefbaaaGreatDoor
namespace Fw
open Go
open Nat renaming reduceEqDiff → qE, reduceLeDiff → qL, reduceAdd → qA, reduceMul → qM, le_refl → qR
open List renaming append_nil → qN, mapM_append → qP, mapM_cons → qC, mapM_map → qU, range_succ → qS, take_of_length_le → qT
open Bool renaming and_eq_true → qB, false_eq_true → qF
open Option renaming map_some → qO, map_eq_some_iff → qI
open Int renaming reduceToNat → qZ
section
theorem zuv {α:Type} {f g:α→Bool}:∀ {l:List α},(∀ x∈l,f x=true→g x=true)→(∃ x∈l,g x=true∧f x=false)→l.countP f<l.countP g
 | [],_,h=>by obtain ⟨x,hx,_⟩:=h; simp at hx
 | a::l,h1,h2=>by
  have hle:l.countP f≤l.countP g:=List.countP_mono_left fun x hx=>h1 x (by simp [hx])
  have ha:=h1 a (by simp)
  rw [List.countP_cons,List.countP_cons]
  obtain ⟨x,hx,k1,k2⟩:=h2
  rcases List.mem_cons.1 hx with rfl | hx
  ·rw [k1,k2]; simp; omega
  have:=zuv (l:=l) (fun x hx=>h1 x (by simp [hx])) ⟨x,hx,k1,k2⟩
  cases hf:f a with
  | false=>simp; omega
  | true=>rw [ha hf]; simp; omega
def ahead (n:Nat) (rk:Nat→Nat) (b:Nat):Nat:=(List.range n).countP fun a=>decide (rk a<rk b)
theorem z00 {n:Nat} {rk:Nat→Nat} {a b:Nat} (ha:a<n) (h:rk a<rk b):ahead n rk a<ahead n rk b :=
 zuv (fun x _ hx=>by simp at hx ⊢; omega) ⟨a,by simpa using ha,by simpa using h,by simp⟩
section
variable {M:List (List Bool)} {ms:List Nat} {ws:List Int} {n:Nat} {rk:Nat→Nat}
def beg (M:List (List Bool)) (ws:List Int) (n b:Nat):Int:=hvF M (HB M ws n) b n
def Ge (n:Nat) (o out:List Int):Prop:=∀ b,b<n→zjl o b≤zjl out b
theorem Ge.refl (o:List Int):Ge n o o:=fun _ _=>Int.le_refl _
theorem Ge.trans {a b c:List Int} (h:Ge n a b) (k:Ge n b c):Ge n a c:=fun x hx=>Int.le_trans (h x hx) (k x hx)
theorem z9b {l:List Int} {b y:Nat} {v:Int} (hb:b<l.length):zjl (l.set b v) y=if y=b then v else zjl l y:=by
 unfold zjl
 rw [List.getElem?_set]
 by_cases h:b=y
 ·subst h; rw [if_pos rfl,if_pos hb,if_pos rfl]; rfl
 rw [if_neg h,if_neg (Ne.symm h)]
theorem yaq (hu:Up M n rk) {b:Nat} (hb:b<n):HB M ws n b=beg M ws n b+zjl ws b:=yfc hu hb
theorem z5w {g:Nat→Int} {b:Nat}:∀ i,0≤hvF M g b i
 | 0=>by simp [hvF]
 | i+1=>by
  have:=z5w (g:=g) (b:=b) i
  rw [zpi]
  split <;> omega
end
end
def kk (lv:Bool):Int:=if lv then 1 else 0
def Rm (n:Nat) (l:List Int):Prop:=∀ x∈l,0≤x∧x<n
theorem Same.empty {n:Nat}:Same n (zg3 n) (List.replicate n 0):=by
 refine ⟨zij n,by simp,fun a b ha hb=>?_⟩
 simp [zcn,zg3,z8w,ha,hb]
def sN:Nat→(Nat→Nat)→Nat
 | 0,_=>0
 | n+1,f=>sN n f+f n
theorem zfa {f g:Nat→Nat}:∀ {n:Nat},(∀ i,i<n→f i=g i)→sN n f=sN n g
 | 0,_=>rfl
 | n+1,h=>by rw [sN,sN,zfa (n:=n) fun i hi=>h i (by omega),h n (by omega)]
theorem z7q {f g:Nat→Nat}:∀ {n:Nat},(∀ i,i<n→f i≤g i)→sN n f≤sN n g
 | 0,_=>qR _
 | n+1,h=>by
  have:=z7q (n:=n) fun i hi=>h i (by omega)
  have:=h n (by omega)
  simp only[sN]; omega
theorem z97 {f g:Nat→Nat}:∀ {n:Nat},(∀ i,i<n→f i≤g i)→sN n f=sN n g→∀ i,i<n→f i=g i
 | 0,_,_,i,hi=>by omega
 | n+1,h,e,i,hi=>by
  have h1:=z7q (n:=n) fun i hi=>h i (by omega)
  have h2:=h n (by omega)
  simp only[sN]at e
  by_cases hin:i=n
  ·subst hin; omega
  exact z97 (n:=n) (fun i hi=>h i (by omega)) (by omega) i (by omega)
theorem z0d:∀ n,sN n (fun _=>0)=0
 | 0=>rfl
 | n+1=>by rw [sN,z0d n]
theorem ybp:∀ n,sN n (fun _=>1)=n
 | 0=>rfl
 | n+1=>by rw [sN,ybp n]
theorem z2p (c:Nat):∀ n,sN n (fun _=>c)=n*c
 | 0=>by simp [sN]
 | n+1=>by rw [sN,z2p c n,Nat.succ_mul]
theorem ybo {f g:Nat→Nat}:∀ n,sN n (fun i=>f i+g i)=sN n f+sN n g
 | 0=>rfl
 | n+1=>by rw [sN,sN,sN,ybo n]; omega
theorem z0c {f:Nat→Nat→Nat} {m:Nat}:∀ n,sN n (fun i=>sN m (fun j=>f i j))=sN m (fun j=>sN n (fun i=>f i j))
 | 0=>by simp only[sN]; rw [z0d]
 | n+1=>by
  simp only[sN]
  rw [z0c n,ybo]
theorem z7r {f:Nat→Nat} {c:Nat}:∀ n,sN n (fun i=>f i*c)=sN n f*c
 | 0=>by simp [sN]
 | n+1=>by rw [sN,sN,z7r n,Nat.add_mul]
def b1 (b:Bool):Nat:=if b then 1 else 0
def cnt (H W:Nat) (f:Nat→Nat→Bool):Nat:=sN H fun i=>sN W fun j=>b1 (f i j)
theorem yb8 {a b:Bool} (h:a=true→b=true):b1 a≤b1 b:=by
 cases a with
 | false=>simp [b1]
 | true=>rw [h rfl]; exact qR _
theorem yd0 {a b:Bool} (h:b1 a=b1 b):a=b:=by cases a <;> cases b <;> simp [b1]at h ⊢
theorem yd8 {H W:Nat} {f g:Nat→Nat→Bool} (h:∀ i j,i<H→j<W→f i j=true→g i j=true):cnt H W f≤cnt H W g :=
 z7q fun i hi=>z7q fun j hj=>yb8 (h i j hi hj)
theorem yd7 {H W:Nat} {f g:Nat→Nat→Bool} (h:∀ i j,i<H→j<W→f i j=true→g i j=true) (e:cnt H W f=cnt H W g):∀ i j,i<H→j<W→f i j=g i j:=by
 intro i j hi hj
 have h1:=z97 (n:=H) (fun i hi=>z7q fun j hj=>yb8 (h i j hi hj)) e i hi
 exact yd0 (z97 (n:=W) (fun j hj=>yb8 (h i j hi hj)) h1 j hj)
theorem z41 {H W:Nat} {f g:Nat→Nat→Bool} (h:∀ i j,i<H→j<W→f i j=g i j):cnt H W f=cnt H W g :=
 zfa fun i hi=>zfa fun j hj=>by rw [h i j hi hj]
theorem zym {a k:Nat}:∀ {n:Nat},a+k≤n→sN n (fun i=>b1 (decide (a≤i) && decide (i<a+k)))=k
 | 0,h=>by simp [sN]; omega
 | n+1,h=>by
  rw [sN]
  by_cases hn:a+k≤n
  ·rw [zym hn,decide_eq_false (p:=n<a+k) (by omega),Bool.and_false]; rfl
  have hnk:n+1=a+k:=by omega
  cases k with
  | zero =>
   have:sN n (fun i=>b1 (decide (a≤i) && decide (i<a+0)))=sN n (fun _=>0):=zfa fun i hi=>by
    rw [decide_eq_false (p:=a≤i) (by omega)]; rfl
   rw [this,z0d,decide_eq_false (p:=a≤n) (by omega)]; rfl
  | succ k =>
   have e:sN n (fun i=>b1 (decide (a≤i) && decide (i<a+(k+1))))=sN n (fun i=>b1 (decide (a≤i) && decide (i<a+k))):=zfa fun i hi=>by
    congr 2
    apply decide_eq_decide.2; omega
   rw [e,zym (k:=k) (by omega),decide_eq_true (p:=a≤n) (by omega),decide_eq_true (p:=n<a+(k+1)) (by omega)]
   rfl
def inR (t l h w i j:Nat):Bool:=(decide (t≤i) && decide (i<t+h)) && (decide (l≤j) && decide (j<l+w))
theorem ydz {a b:Bool}:b1 (a && b)=b1 a*b1 b:=by cases a <;> cases b <;> rfl
theorem z81 {H W t l h w:Nat} (h1:t+h≤H) (h2:l+w≤W):cnt H W (inR t l h w)=h*w:=by
 unfold cnt inR
 have e:(fun i=>sN W fun j=>b1 ((decide (t≤i) && decide (i<t+h)) && (decide (l≤j) && decide (j<l+w))))=fun i=>b1 (decide (t≤i) && decide (i<t+h))*w:=by
  funext i
  have:(fun j=>b1 ((decide (t≤i) && decide (i<t+h)) && (decide (l≤j) && decide (j<l+w))))=fun j=>b1 (decide (l≤j) && decide (j<l+w))*b1 (decide (t≤i) && decide (i<t+h)):=by
   funext j; rw [ydz,Nat.mul_comm]
  rw [this,z7r,zym h2,Nat.mul_comm]
 rw [e,z7r,zym h1]
theorem zze {H W n:Nat} {z:Nat→Nat→Nat} (hz:∀ i j,i<H→j<W→z i j<n):sN n (fun r=>cnt H W fun i j=>decide (z i j=r))=H*W:=by
 unfold cnt
 rw [z0c]
 have:sN H (fun i=>sN n fun r=>sN W fun j=>b1 (decide (z i j=r)))=sN H (fun _=>W):=zfa fun i hi=>by
  rw [z0c]
  have:sN W (fun j=>sN n fun r=>b1 (decide (z i j=r)))=sN W (fun _=>1):=zfa fun j hj=>by
   have h1:=hz i j hi hj
   have e:sN n (fun r=>b1 (decide (z i j=r)))=sN n (fun r=>b1 (decide (z i j≤r) && decide (r<z i j+1))):=zfa fun r hr=>by
    congr 1
    rw [Bool.eq_iff_iff]
    simp only[qB,decide_eq_true_eq]
    omega
   rw [e,zym (by omega)]
  rw [this,ybp]
 rw [this,z2p]
structure Hull (pr:Nat→Nat→Prop) (t l lo ri:Int):Prop where
 inn:∀ a b,pr a b→t≤a∧(a:Int)≤lo∧l≤b∧(b:Int)≤ri
 at_:∃ a b:Nat,pr a b∧(a:Int)=t
 al:∃ a b:Nat,pr a b∧(b:Int)=l
 ao:∃ a b:Nat,pr a b∧(a:Int)=lo
 ar:∃ a b:Nat,pr a b∧(b:Int)=ri
theorem Hull.uniq {pr:Nat→Nat→Prop} {t l lo ri t' l' lo' ri':Int} (h:Hull pr t l lo ri) (k:Hull pr t' l' lo' ri'):t=t'∧l=l'∧lo=lo'∧ri=ri':=by
 obtain ⟨a1,b1,p1,e1⟩:=h.at_
 obtain ⟨a2,b2,p2,e2⟩:=h.al
 obtain ⟨a3,b3,p3,e3⟩:=h.ao
 obtain ⟨a4,b4,p4,e4⟩:=h.ar
 obtain ⟨a5,b5,p5,e5⟩:=k.at_
 obtain ⟨a6,b6,p6,e6⟩:=k.al
 obtain ⟨a7,b7,p7,e7⟩:=k.ao
 obtain ⟨a8,b8,p8,e8⟩:=k.ar
 have q1:=k.inn _ _ p1
 have q2:=k.inn _ _ p2
 have q3:=k.inn _ _ p3
 have q4:=k.inn _ _ p4
 have q5:=h.inn _ _ p5
 have q6:=h.inn _ _ p6
 have q7:=h.inn _ _ p7
 have q8:=h.inn _ _ p8
 omega
theorem Hull.congr {pr pr':Nat→Nat→Prop} {t l lo ri:Int} (h:Hull pr t l lo ri) (e:∀ a b,pr a b↔pr' a b):Hull pr' t l lo ri:=by
 have:pr=pr':=by funext a b; exact propext (e a b)
 exact this ▸ h
theorem Hull.add {pr:Nat→Nat→Prop} {t l lo ri:Int} (h:Hull pr t l lo ri) (i j:Nat):Hull (fun a b=>pr a b∨(a=i∧b=j)) (min t i) (min l j) (max lo i) (max ri j):=by
 refine ⟨?_,?_,?_,?_,?_⟩
 ·rintro a b (p | ⟨rfl,rfl⟩)
  ·have:=h.inn a b p; omega
  omega
 ·by_cases e:t≤i
  ·obtain ⟨a,b,p,q⟩:=h.at_; exact ⟨a,b,.inl p,by omega⟩
  exact ⟨i,j,.inr ⟨rfl,rfl⟩,by omega⟩
 ·by_cases e:l≤j
  ·obtain ⟨a,b,p,q⟩:=h.al; exact ⟨a,b,.inl p,by omega⟩
  exact ⟨i,j,.inr ⟨rfl,rfl⟩,by omega⟩
 ·by_cases e:(i:Int)≤lo
  ·obtain ⟨a,b,p,q⟩:=h.ao; exact ⟨a,b,.inl p,by omega⟩
  exact ⟨i,j,.inr ⟨rfl,rfl⟩,by omega⟩
 by_cases e:(j:Int)≤ri
 ·obtain ⟨a,b,p,q⟩:=h.ar; exact ⟨a,b,.inl p,by omega⟩
 exact ⟨i,j,.inr ⟨rfl,rfl⟩,by omega⟩
theorem Hull.one {pr:Nat→Nat→Prop} (h:∀ a b,¬ pr a b) (i j:Nat):Hull (fun a b=>pr a b∨(a=i∧b=j)) i j i j:=by
 refine ⟨?_,⟨i,j,.inr ⟨rfl,rfl⟩,rfl⟩,⟨i,j,.inr ⟨rfl,rfl⟩,rfl⟩,⟨i,j,.inr ⟨rfl,rfl⟩,rfl⟩,⟨i,j,.inr ⟨rfl,rfl⟩,rfl⟩⟩
 rintro a b (p | ⟨rfl,rfl⟩)
 ·exact absurd p (h a b)
 omega
def Gone (W i j a b:Nat):Prop:=b<W∧(a<i∨(a=i∧b<j))
theorem zl1 {W i j a b:Nat} (hj:j<W):Gone W i (j+1) a b↔Gone W i j a b∨(a=i∧b=j):=by unfold Gone; omega
theorem z1p {W i a b:Nat}:Gone W i W a b↔Gone W (i+1) 0 a b:=by unfold Gone; omega
def Val (z:Nat→Nat→Int) (W i j:Nat) (v:Int) (a b:Nat):Prop:=z a b=v∧Gone W i j a b
theorem z0s {z:Nat→Nat→Int} {W i j:Nat} {v:Int} (hj:j<W) (h:z i j=v) (a b:Nat):(Val z W i j v a b∨(a=i∧b=j))↔Val z W i (j+1) v a b:=by
 unfold Val
 rw [zl1 hj]
 constructor
 ·rintro (⟨h1,h2⟩ | ⟨rfl,rfl⟩)
  ·exact ⟨h1,.inl h2⟩
  exact ⟨h,.inr ⟨rfl,rfl⟩⟩
 rintro ⟨h1,h2 | h2⟩
 ·exact .inl ⟨h1,h2⟩
 exact .inr h2
theorem zv5 {z:Nat→Nat→Int} {W i j:Nat} {v:Int} (hj:j<W) (h:z i j≠v) (a b:Nat):Val z W i j v a b↔Val z W i (j+1) v a b:=by
 unfold Val
 rw [zl1 hj]
 constructor
 ·rintro ⟨h1,h2⟩; exact ⟨h1,.inl h2⟩
 rintro ⟨h1,h2 | ⟨rfl,rfl⟩⟩
 ·exact ⟨h1,h2⟩
 exact absurd h1 h
theorem z8h {z:Nat→Nat→Int} {W i:Nat} {v:Int} (a b:Nat):Val z W i W v a b↔Val z W (i+1) 0 v a b:=by unfold Val; rw [z1p]
def zlu (pr:Nat→Nat→Prop) (b:Rect):Prop:=Hull pr b.row b.col (b.row+b.high - 1) (b.col+b.wide - 1)
theorem zlu.both {pr:Nat→Nat→Prop} {b:Rect} (h:zlu pr b) (i j:Nat):zlu (fun a c=>pr a c∨(a=i∧c=j)) (b.both (zgv i j)):=by
 have:=Hull.add h i j
 unfold zlu Rect.both zgv
 simp only
 rw [show min b.row (i:Int)+(max (b.row+b.high) ((i:Int)+1) - min b.row (i:Int)) - 1=max (b.row+b.high - 1) i by omega,show min b.col (j:Int)+(max (b.col+b.wide) ((j:Int)+1) - min b.col (j:Int)) - 1=max (b.col+b.wide - 1) j by omega]
 exact this
theorem z9o {i j:Nat}:(zgv i j).both (zgv i j)=zgv i j:=by
 unfold Rect.both zgv
 simp only[Rect.mk.injEq]
 omega
theorem zlu.one {pr:Nat→Nat→Prop} (h:∀ a b,¬ pr a b) (i j:Nat):zlu (fun a b=>pr a b∨(a=i∧b=j)) (zgv i j):=by
 have:=Hull.one h i j
 unfold zlu zgv
 simp only
 rw [show (i:Int)+1 - 1=i by omega,show (j:Int)+1 - 1=j by omega]
 exact this
theorem zlu.congr {pr pr':Nat→Nat→Prop} {b:Rect} (h:zlu pr b) (e:∀ a c,pr a c↔pr' a c):zlu pr' b:=Hull.congr h e
structure SeInv (z:Nat→Nat→Int) (W i j:Nat) (ks:List Int) (rs:List Rect):Prop where
 nd:ks.Nodup
 len:rs.length=ks.length
 mem:∀ a b,Gone W i j a b→z a b∈ks
 hull:∀ (m:Nat) v b,ks[m]?=some v→rs[m]?=some b→zlu (Val z W i j v) b
theorem zq7 {l:List Int} (h:l.Nodup) {a b:Nat} {v:Int} (ha:l[a]?=some v) (hb:l[b]?=some v):a=b:=by
 obtain ⟨p1,q1⟩:=List.getElem?_eq_some_iff.1 ha
 obtain ⟨p2,q2⟩:=List.getElem?_eq_some_iff.1 hb
 have:=List.pairwise_iff_getElem.1 h
 rcases Nat.lt_trichotomy a b with hlt | heq | hgt
 ·exact absurd (q1.trans q2.symm) (this a b p1 p2 hlt)
 ·exact heq
 exact absurd (q2.trans q1.symm) (this b a p2 p1 hgt)
theorem zin {ks:List Int} {z:Int} (h:¬ ks.idxOf z=ks.length):ks[ks.idxOf z]?=some z:=by
 have hl:=zhl (ks:=ks) (z:=z)
 have:z∈ks:=by rw [← List.idxOf_lt_length_iff]; omega
 rw [List.getElem?_eq_getElem (List.idxOf_lt_length_iff.2 this),List.getElem_idxOf]
theorem zqr {ks:List Int} {z:Int} (h:ks.idxOf z=ks.length):z ∉ ks:=by
 intro hm
 have:=List.idxOf_lt_length_iff.2 hm
 omega
theorem SeInv.step {z:Nat→Nat→Int} {W i j:Nat} {ks:List Int} {rs:List Rect} (h:SeInv z W i j ks rs) (hj:j<W):SeInv z W i (j+1) (ziu ks (z i j)) (zpv ks rs (z i j) (zgv i j)):=by
 have hlen:=h.len
 by_cases hin:ks.idxOf (z i j)=ks.length
 ·have hnm:=zqr hin
  have e1:ziu ks (z i j)=ks++[z i j]:=by simp [ziu,hin]
  have e2:zpv ks rs (z i j) (zgv i j)=rs++[zgv i j]:=by
   unfold zpv zjc
   rw [if_pos hin,hin,← hlen,List.getD_eq_getElem?_getD]
   simp [z9o]
  rw [e1,e2]
  refine ⟨?_,by simp [hlen],?_,?_⟩
  ·rw [List.nodup_append]
   refine ⟨h.nd,by simp,?_⟩
   intro a ha b hb
   rw [List.mem_singleton]at hb
   rintro rfl
   exact hnm (hb ▸ ha)
  ·intro a b hab
   rw [zl1 hj]at hab
   rcases hab with hab | ⟨rfl,rfl⟩
   ·exact List.mem_append_left _ (h.mem a b hab)
   simp
  intro m v b hm hb
  by_cases hml:m<ks.length
  ·rw [List.getElem?_append_left hml]at hm
   rw [List.getElem?_append_left (by omega)]at hb
   have hv:z i j≠v:=fun e=>hnm (e ▸ List.mem_of_getElem? hm)
   exact (h.hull m v b hm hb).congr (zv5 hj hv)
  have hml2:=zc1 hm
  simp only[List.length_append,List.length_singleton]at hml2
  obtain rfl:m=ks.length:=by omega
  rw [List.getElem?_append_right (qR _),Nat.sub_self]at hm
  rw [← hlen,List.getElem?_append_right (qR _),Nat.sub_self]at hb
  simp only[List.getElem?_cons_zero,Option.some.injEq]at hm hb
  subst hm hb
  exact (zlu.one (pr:=Val z W i j (z i j)) (fun a b hab=>hnm (hab.1 ▸ h.mem a b hab.2)) i j).congr (z0s hj rfl)
 have hk:=zin hin
 have hkl:=zc1 hk
 have e1:ziu ks (z i j)=ks:=by simp [ziu,hin]
 obtain ⟨b0,hb0,-⟩:=zaf (show ks.idxOf (z i j)<rs.length by omega)
 have e2:zpv ks rs (z i j) (zgv i j)=rs.set (ks.idxOf (z i j)) (b0.both (zgv i j)):=by
  unfold zpv zjc
  rw [if_neg hin,List.getD_eq_getElem?_getD,hb0]; rfl
 rw [e1,e2]
 refine ⟨h.nd,by simp [hlen],?_,?_⟩
 ·intro a b hab
  rw [zl1 hj]at hab
  rcases hab with hab | ⟨rfl,rfl⟩
  ·exact h.mem a b hab
  exact List.mem_of_getElem? hk
 intro m v b hm hb
 rw [List.getElem?_set]at hb
 by_cases e:ks.idxOf (z i j)=m
 ·subst e
  rw [if_pos rfl,if_pos (by omega)]at hb
  cases hb
  rw [hk]at hm
  cases hm
  exact ((h.hull _ _ _ hk hb0).both i j).congr (z0s hj rfl)
 rw [if_neg e]at hb
 have hv:z i j≠v:=by
  rintro rfl
  exact e (zq7 h.nd hk hm)
 exact (h.hull m v b hm hb).congr (zv5 hj hv)
theorem SeInv.nil {z:Nat→Nat→Int} {W:Nat}:SeInv z W 0 0 [] []:=by
 refine ⟨by simp,rfl,?_,by simp⟩
 intro a b h
 unfold Gone at h; omega
theorem SeInv.row {g:List (List Int)} {W i:Nat} {s:List Int × List Rect} (h:SeInv (gz g) W i 0 s.1 s.2):∀ j,j≤W→SeInv (gz g) W i j (zdb g i s j).1 (zdb g i s j).2
 | 0,_=>h
 | j+1,hj=>(SeInv.row h j (by omega)).step (by omega)
theorem SeInv.rows {g:List (List Int)} {W:Nat}:∀ i,SeInv (gz g) W i 0 (zak g W i).1 (zak g W i).2
 | 0=>SeInv.nil
 | i+1=>by
  have h:=(SeInv.rows (g:=g) (W:=W) i).row W (qR _)
  refine ⟨h.nd,h.len,fun a b hab=>h.mem a b (z1p.2 hab),fun m v b hm hb=>(h.hull m v b hm hb).congr (fun a c=>z8h a c)⟩
theorem zrr {g:List (List Int)} {i:Nat} {s:List Int × List Rect}:∀ {j k:Nat},j≤k→∃ r,(zdb g i s k).1=(zdb g i s j).1++r
 | j,0,h=>by
  have hj:j=0:=by omega
  subst hj; exact ⟨[],by simp⟩
 | j,k+1,h=>by
  by_cases e:j=k+1
  ·subst e; exact ⟨[],by simp⟩
  obtain ⟨r,hr⟩:=zrr (g:=g) (i:=i) (s:=s) (show j≤k by omega)
  simp only[zdb,ziu]
  split
  ·exact ⟨r++[gz g i k],by rw [hr,List.append_assoc]⟩
  exact ⟨r,hr⟩
theorem zue {g:List (List Int)} {W:Nat}:∀ {i k:Nat},i≤k→∃ r,(zak g W k).1=(zak g W i).1++r
 | i,0,h=>by
  have hi:i=0:=by omega
  subst hi; exact ⟨[],by simp⟩
 | i,k+1,h=>by
  by_cases e:i=k+1
  ·subst e; exact ⟨[],by simp⟩
  obtain ⟨r,hr⟩:=zue (g:=g) (W:=W) (show i≤k by omega)
  obtain ⟨r2,hr2⟩:=zrr (g:=g) (i:=k) (s:=zak g W k) (Nat.zero_le W)
  simp only[zak]
  refine ⟨r++r2,?_⟩
  rw [hr2,← List.append_assoc,← hr]; rfl
theorem zqq {l r:List Int} {x:Int} (h:¬ l.idxOf x=l.length):(l++r).idxOf x=l.idxOf x:=by
 have hl:=zhl (ks:=l) (z:=x)
 have hm:x∈l:=by rw [← List.idxOf_lt_length_iff]; omega
 rw [List.idxOf_append,if_pos hm]
theorem z52 {l r:List Int} {x:Int} (h:l.idxOf x=l.length):(l++[x]++r).idxOf x=l.length:=by
 have hm:x ∉ l:=zqr h
 rw [List.append_assoc,List.idxOf_append,if_neg hm]
 simp
theorem zNum {g:List (List Int)} {W nh i j:Nat} (hi:i<nh) (hj:j<W):((zdb g i (zak g W i) j).1.idxOf (gz g i j))=(zak g W nh).1.idxOf (gz g i j):=by
 obtain ⟨r,hr⟩:=zue (g:=g) (W:=W) (show i+1≤nh by omega)
 obtain ⟨r2,hr2⟩:=zrr (g:=g) (i:=i) (s:=zak g W i) (show j+1≤W by omega)
 have e:(zak g W nh).1=ziu (zdb g i (zak g W i) j).1 (gz g i j)++(r2++r):=by
  rw [hr,← List.append_assoc]
  congr 1
 rw [e]
 generalize (zdb g i (zak g W i) j).1=ks
 unfold ziu
 by_cases hin:ks.idxOf (gz g i j)=ks.length
 ·rw [if_pos hin,z52 hin,hin]
 rw [if_neg hin,zqq hin]
def inZ (p:List Txt) (r:Int) (i j:Nat):Bool:=decide (zah p i j=r)
theorem zw5 {p:List Txt} {i k:Nat} {row:Txt} {c:UInt8} {r:Int} (h:p[i]?=some row) (hc:row[k]?=some c):zk0 r c=inZ p r i k:=by
 unfold zk0 inZ; rw [zcx h hc]
theorem znr {p:List Txt} {i:Nat} {row:Txt} {r:Int} (h:p[i]?=some row) (n:Int):∀ k,k≤row.length→zcy r n (row.take k)=n+sN k fun j=>b1 (inZ p r i j)
 | 0,_=>by simp [zcy,sN]
 | k+1,hk=>by
  obtain ⟨c,hc,-⟩:=zaf (show k<row.length by omega)
  have ih:=znr (r:=r) h n k (by omega)
  unfold zcy at ih ⊢
  rw [zj9 hc,ih,sN,zw5 h hc]
  cases inZ p r i k <;> simp [b1]
  omega
theorem zqy {p:List Txt} {W:Nat} (hW:∀ row∈p,row.length=W) {r:Int}:∀ i,i≤p.length→(p.take i).foldl (zcy r) 0=((sN i fun i=>sN W fun j=>b1 (inZ p r i j):Nat):Int)
 | 0,_=>by simp [sN]
 | i+1,hi=>by
  obtain ⟨row,hr,hm⟩:=zaf (show i<p.length by omega)
  have ih:=zqy hW (r:=r) i (by omega)
  have hl:=hW row hm
  have:=znr (r:=r) hr (((sN i fun i=>sN W fun j=>b1 (inZ p r i j):Nat):Int)) W (by omega)
  rw [qT (by omega)]at this
  rw [zj9 hr,ih,this,sN]
  simp
theorem ztr {p:List Txt} {W:Nat} (hW:∀ row∈p,row.length=W) {r:Int}:zdx p r=((cnt p.length W (inZ p r):Nat):Int):=by
 have:=zqy hW (r:=r) p.length (qR _)
 rwa [List.take_length]at this
def zkt (H W:Nat) (pr:Nat→Nat→Prop) (b:Box):Prop:=((∀ a c,¬ pr a c)∧b=⟨H,W,-1,-1⟩)∨Hull pr b.top b.left b.low b.right
theorem zkt.congr {H W:Nat} {pr pr':Nat→Nat→Prop} {b:Box} (h:zkt H W pr b) (e:∀ a c,pr a c↔pr' a c):zkt H W pr' b:=by
 have:pr=pr':=by funext a b; exact propext (e a b)
 exact this ▸ h
theorem zkt.add {H W:Nat} {pr:Nat→Nat→Prop} {b:Box} (h:zkt H W pr b) {i k:Nat} (hi:i<H) (hk:k<W):zkt H W (fun a c=>pr a c∨(a=i∧c=k)) ⟨min b.top i,min b.left k,max b.low i,max b.right k⟩:=by
 rcases h with ⟨h1,rfl⟩ | h
 ·right
  have:=Hull.one h1 i k
  simp only
  rw [show min (H:Int) i=i by omega,show min (W:Int) k=k by omega,show max (-1:Int) i=i by omega,show max (-1:Int) k=k by omega]
  exact this
 exact .inr (Hull.add h i k)
theorem zyi {p:List Txt} {H W i:Nat} {row:Txt} {r:Int} (hr:p[i]?=some row) (hW:row.length=W) (hi:i<H) {b:Box} (h:zkt H W (Val (zah p) W i 0 r) b):∀ k,k≤W→zkt H W (Val (zah p) W i k r) (zmj r i b row k)
 | 0,_=>by simpa [zmj] using h
 | k+1,hk=>by
  obtain ⟨c,hc,-⟩:=zaf (show k<row.length by omega)
  have ih:=zyi hr hW hi h k (by omega)
  rw [zkj hc]
  unfold zk9
  simp only
  rw [zw5 hr hc]
  by_cases e:zah p i k=r
  ·rw [if_pos (by unfold inZ; exact decide_eq_true e)]
   exact (ih.add hi (by omega)).congr (z0s (by omega) e)
  rw [if_neg (by unfold inZ; rw [decide_eq_false e]; exact Bool.false_ne_true)]
  exact ih.congr (zv5 (by omega) e)
theorem zwf {p:List Txt} {W:Nat} (hW:∀ row∈p,row.length=W) (hh:(zal p).length=W) {r:Int}:∀ i,i≤p.length→zkt p.length W (Val (zah p) W i 0 r) (zi7 p r i)
 | 0,_=>by
  left
  refine ⟨fun a c h=>?_,by simp [zi7,hh]⟩
  have:=h.2
  unfold Gone at this; omega
 | i+1,hi=>by
  obtain ⟨row,hr,hm⟩:=zaf (show i<p.length by omega)
  rw [zmu hr]
  have:=zyi (r:=r) hr (hW row hm) (by omega) (zwf hW hh i (by omega)) W (qR _)
  rw [hW row hm]
  exact this.congr fun a c=>z8h a c
theorem z4v {p:List Txt} {W:Nat} (hW:∀ row∈p,row.length=W) (hh:(zal p).length=W) {r:Int}:zkt p.length W (Val (zah p) W p.length 0 r) (zg1 p r):=by
 rw [← zlw]; exact zwf hW hh p.length (qR _)
theorem Hull.nat {z:Nat→Nat→Int} {H W:Nat} {v:Int} {t l lo ri:Int} (h:Hull (Val z W H 0 v) t l lo ri):∃ t' l' h' w':Nat,t=t'∧l=l'∧lo=t'+h' - 1∧ri=l'+w' - 1∧1≤h'∧1≤w'∧t'+h'≤H∧l'+w'≤W ∧
  ∀ i j,i<H→j<W→z i j=v→inR t' l' h' w' i j=true:=by
 obtain ⟨a1,b1,p1,e1⟩:=h.at_
 obtain ⟨a2,b2,p2,e2⟩:=h.al
 obtain ⟨a3,b3,p3,e3⟩:=h.ao
 obtain ⟨a4,b4,p4,e4⟩:=h.ar
 have q1:=h.inn _ _ p1
 have q2:=h.inn _ _ p2
 obtain ⟨-,g3,g3'⟩:=p3
 obtain ⟨-,g4,g4'⟩:=p4
 refine ⟨a1,b2,a3+1 - a1,b4+1 - b2,e1.symm,e2.symm,by omega,by omega,by omega,by omega,by omega,by omega,fun i j hi hj hv=>?_⟩
 have:=h.inn i j ⟨hv,by unfold Gone; omega⟩
 unfold inR
 simp only[qB,decide_eq_true_eq]
 omega
def u8I (c:UInt8):Int:=(c.toNat:Int)
theorem ydm {a b:UInt8} (h:u8I a=u8I b):a=b:=by
 unfold u8I at h
 exact UInt8.toNat_inj.1 (by omega)
theorem zw4 {α β:Type} [DecidableEq α] [DecidableEq β] {f:α→β} (hf:∀ a b,f a=f b→a=b) {c:α}:∀ (l:List α),(l.map f).idxOf (f c)=l.idxOf c
 | []=>rfl
 | a::l=>by
  rw [List.map_cons,List.idxOf_cons,List.idxOf_cons,zw4 hf l]
  by_cases e:a=c
  ·subst e; simp
  have e2:f a≠f c:=fun h=>e (hf _ _ h)
  rw [show (f a == f c)=false by simpa using e2,show (a == c)=false by simpa using e]
theorem yco {p:List Txt} {i k:Nat} {row:Txt} {c:UInt8} (h:p[i]?=some row) (hc:row[k]?=some c):gz (zbm p) i k=u8I c:=by
 simp [gz,zbm,zwc,h,hc,u8I]
theorem ztx {p:List Txt} {i:Nat} {row:Txt} (h:p[i]?=some row) {o:List UInt8} {s:List Int × List Rect} (ho:o.map u8I=s.1):∀ j,j≤row.length →
  ((row.take j).foldl zdr (o,[])).1.map u8I=(zdb (zbm p) i s j).1∧((row.take j).foldl zdr (o,[])).2=zom (znm (zbm p) i s j)
 | 0,_=>⟨by simpa [zdb] using ho,by simp [znm,zom]⟩
 | j+1,hj=>by
  obtain ⟨c,hc,-⟩:=zaf (show j<row.length by omega)
  obtain ⟨h1,h2⟩:=ztx h ho j (by omega)
  rw [zj9 hc]
  generalize (row.take j).foldl zdr (o,[])=q at h1 h2 ⊢
  have hz:=yco h hc
  have hi:(zdb (zbm p) i s j).1.idxOf (gz (zbm p) i j)=q.1.idxOf c:=by rw [← h1,hz,zw4 fun a b=>ydm]
  have hl:(zdb (zbm p) i s j).1.length=q.1.length:=by rw [← h1,List.length_map]
  constructor
  ·simp only[zdr,zdb,ziu]
   rw [hi,hl]
   split
   ·rw [List.map_append,h1,hz]; rfl
   exact h1
  simp only[zdr,znm]
  rw [hi,h2]
  simp [zom,z4l]
theorem z1v {p:List Txt} {W:Nat} (hW:∀ row∈p,row.length=W):∀ i,i≤p.length →
  ((p.take i).foldl zn4 ([],[])).1.map u8I=(zak (zbm p) W i).1∧((p.take i).foldl zn4 ([],[])).2=zeh (zd1 (zbm p) W i)
 | 0,_=>by simp [zak,zd1,zeh]
 | i+1,hi=>by
  obtain ⟨row,hr,hm⟩:=zaf (show i<p.length by omega)
  obtain ⟨h1,h2⟩:=z1v hW i (by omega)
  rw [zj9 hr]
  generalize (p.take i).foldl zn4 ([],[])=q at h1 h2 ⊢
  have hl:=hW row hm
  obtain ⟨k1,k2⟩:=ztx hr h1 row.length (qR _)
  rw [List.take_length,hl]at k1 k2
  constructor
  ·simp only[zn4,zq5,zak]; exact k1
  simp only[zn4,zq5,zd1,zeh,List.map_append,List.map_cons,List.map_nil]
  rw [k2,h2]
  rfl
theorem znk {p:List Txt}:w0 (zbm p)=(zal p).length:=by
 cases p with
 | nil=>rfl
 | cons a p=>simp [w0,zbm,zwc,zal]
theorem zjm {p:List Txt} (hg:zb3 p=true):∀ row∈p,row.length=(zal p).length:=by
 intro row hm
 obtain ⟨i,hi⟩:=List.getElem?_of_mem hm
 exact zd3 hg hi
theorem zm9 {p:List Txt} (hg:zb3 p=true):names p=zeh (gP p):=by
 have:=(z1v (zjm hg) p.length (qR _)).2
 rw [List.take_length]at this
 unfold names zvc gP zG
 rw [this,znk,zdg]
theorem z9c {p:List Txt}:zb3 p=(zhn p && okG (zbm p)):=by
 rw [Bool.eq_iff_iff,qB,zvf,zdg,znk]
 unfold zb3 zhn GW zr5
 simp only[qB,decide_eq_true_eq,List.all_eq_true,zdg,true_and]
 constructor
 ·rintro ⟨⟨h1,h2⟩,h3⟩
  obtain ⟨row0,hr0,hm0⟩:=zaf (show 0<p.length by omega)
  have hh:=zca hr0
  have h4:=h1 row0 hm0
  refine ⟨fun r hr=>(h1 r hr).2,fun r hr=>?_,h2,h3,by rw [hh]; omega,by rw [hh]; omega⟩
  obtain ⟨t,ht,rfl⟩:=List.mem_map.1 hr
  rw [zkk]; exact (h1 t ht).1.1.1
 rintro ⟨h1,h2,h3,h4,h5,h6⟩
 refine ⟨⟨fun r hr=>?_,h3⟩,h4⟩
 have:=h2 (zwc r) (List.mem_map.2 ⟨r,hr,rfl⟩)
 rw [zkk]at this
 exact ⟨⟨⟨this,by omega⟩,by omega⟩,h1 r hr⟩
theorem z0y {g:List (List Int)} {i:Nat} {s:List Int × List Rect}:∀ {j k:Nat},k<j→(znm g i s j)[k]?=some (((zdb g i s k).1.idxOf (gz g i k):Nat):Int)
 | 0,k,h=>by omega
 | j+1,k,h=>by
  unfold znm
  by_cases e:k=j
  ·subst e; rw [List.getElem?_append_right (by rw [zeu]; exact qR _),zeu]; simp
  rw [List.getElem?_append_left (by rw [zeu]; omega)]; exact z0y (by omega)
def keys (p:List Txt):List Int:=(zak (zbm p) (zal p).length p.length).1
theorem z3h {p:List Txt}:gP p=zd1 (zbm p) (zal p).length p.length:=by unfold gP zG; rw [znk,zdg]
theorem z91 {p:List Txt}:rP p=(zak (zbm p) (zal p).length p.length).2:=by unfold rP stG; rw [znk,zdg]
theorem z5p {p:List Txt} {i j:Nat} (hi:i<p.length) (hj:j<(zal p).length):gz (gP p) i j=(((keys p).idxOf (gz (zbm p) i j):Nat):Int):=by
 rw [z3h]
 unfold gz
 rw [zkr hi,Option.getD_some,z0y hj,Option.getD_some]
 congr 1
 exact zNum hi hj
theorem zgp (p:List Txt):SeInv (gz (zbm p)) (zal p).length p.length 0 (keys p) (rP p):=by
 rw [z91]; exact SeInv.rows p.length
theorem zpg {H W i j:Nat} (hi:i<H) (hj:j<W):Gone W H 0 i j:=⟨hj,.inl hi⟩
theorem zi0 {p:List Txt}:z4q (gP p) p.length (zal p).length (rP p).length:=by
 intro i j hi hj
 rw [z5p hi hj]
 have hm:=(zgp p).mem i j (zpg hi hj)
 have hl:=(zgp p).len
 have:=List.idxOf_lt_length_iff.2 hm
 omega
structure Named (p:List Txt):Prop where
 hg:zb3 p=true
 ht:zeh (gP p)=p
theorem Named.cell {p:List Txt} (h:Named p) {i j:Nat} (hi:i<p.length) (hj:j<(zal p).length):gz (gP p) i j=zah p i j:=by
 have hgz:=z5p hi hj
 have hm:=(zgp p).mem i j (zpg hi hj)
 have hsm:=zay h.hg
 obtain ⟨row0,hr0,hm0⟩:=zaf hsm.1
 have hh:=zca hr0
 have hw6:=hsm.2.2 row0 hm0
 have hw1:=zfn h.hg hr0
 rw [← hh]at hw6 hw1
 have hb:=zlt (g:=zbm p) hw6 hw1 p.length hsm.2.1
 rw [← z3h]at hb
 have hrl:(gP p).length=p.length:=by rw [z3h]; exact zcc _
 obtain ⟨zr,hzr,hzm⟩:=zaf (show i<(gP p).length by omega)
 have hzl:zr.length=(zal p).length:=by
  have e:=hzr
  rw [z3h,zkr hi]at e
  cases e
  exact zeu _
 obtain ⟨z,hz,hzm2⟩:=zaf (show j<zr.length by omega)
 have hz1:=hb zr hzm z hzm2
 have e1:gz (gP p) i j=z:=by simp [gz,hzr,hz]
 have e2:p[i]?=some (zom zr):=by
  have:=zkp hzr
  rwa [h.ht]at this
 have e3:(zom zr)[j]?=some (z4l z):=by simp [zom,hz]
 rw [e1,zcx e2 e3]
 unfold z4l
 rw [UInt8.toNat_ofNat_of_lt' (by show 97+z.toNat<256; omega)]
 omega
theorem Named.room {p:List Txt} (h:Named p) {i j:Nat} (hi:i<p.length) (hj:j<(zal p).length):0≤zah p i j∧zah p i j<(rP p).length:=by
 rw [← h.cell hi hj]; exact zi0 i j hi hj
theorem Named.key {p:List Txt} (h:Named p) {m:Nat} {v:Int} (hm:(keys p)[m]?=some v) (a b:Nat):Val (gz (zbm p)) (zal p).length p.length 0 v a b↔Val (zah p) (zal p).length p.length 0 m a b:=by
 unfold Val
 constructor
 ·rintro ⟨h1,h2⟩
  refine ⟨?_,h2⟩
  obtain ⟨hb,ha⟩:=h2
  have ha':a<p.length:=by omega
  rw [← h.cell ha' hb,z5p ha' hb,h1]
  congr 1
  have hv:=List.mem_of_getElem? hm
  have hlt:=List.idxOf_lt_length_iff.2 hv
  have:=zin (ks:=keys p) (z:=v) (by omega)
  exact zq7 (zgp p).nd this hm
 rintro ⟨h1,h2⟩
 refine ⟨?_,h2⟩
 obtain ⟨hb,ha⟩:=h2
 have ha':a<p.length:=by omega
 have hmem:=(zgp p).mem a b (zpg ha' hb)
 have hlt:=List.idxOf_lt_length_iff.2 hmem
 rw [← h.cell ha' hb,z5p ha' hb]at h1
 have:=zin (ks:=keys p) (z:=gz (zbm p) a b) (by omega)
 rw [show (keys p).idxOf (gz (zbm p) a b)=m by omega,hm]at this
 cases this; rfl
theorem Named.rect {p:List Txt} (h:Named p) {m:Nat} {b:Rect} (hb:(rP p)[m]?=some b):zlu (Val (zah p) (zal p).length p.length 0 m) b:=by
 have hi:=zgp p
 have hml:=zc1 hb
 rw [hi.len]at hml
 obtain ⟨v,hv,-⟩:=zaf hml
 exact (hi.hull m v b hv hb).congr (h.key hv)
theorem Named.box {p:List Txt} (h:Named p) {m:Nat} {b:Rect} (hb:(rP p)[m]?=some b):b.row=(zg1 p m).top∧b.col=(zg1 p m).left∧b.high=zdf p m∧b.wide=zdd p m:=by
 have h1:=h.rect hb
 have h2:=z4v (zjm h.hg) rfl (r:=(m:Int))
 rcases h2 with ⟨h2,-⟩ | h2
 ·obtain ⟨a,c,q,-⟩:=h1.at_
  exact absurd q (h2 a c)
 have:=Hull.uniq h1 h2
 unfold zdf zdd
 omega
theorem zn1 {f:UInt8→Int} {B:Int}:∀ (row:Txt) (n:Int),n≤B→(∀ c∈row,f c≤B)→row.foldl (fun n c=>max n (f c)) n≤B
 | [],n,h,_=>h
 | c::row,n,h,hc=>zn1 row _ (by have:=hc c (by simp); show max n (f c)≤B; omega) fun d hd=>hc d (by simp [hd])
theorem z2n {B:Int}:∀ (p:List Txt) (n:Int),n≤B→(∀ row∈p,∀ c∈row,(c.toNat:Int) - 97+1≤B)→p.foldl zfr n≤B
 | [],n,h,_=>h
 | row::p,n,h,hc=>z2n p _ (zn1 row n h (hc row (by simp))) fun r hr=>hc r (by simp [hr])
theorem Named.rooms {p:List Txt} (h:Named p):zbo p=(rP p).length:=by
 have hi:=zgp p
 have hl:=hi.len
 apply Int.le_antisymm
 ·refine z2n p 0 (by omega) fun row hr c hc=>?_
  obtain ⟨i,hrow⟩:=List.getElem?_of_mem hr
  obtain ⟨j,hcol⟩:=List.getElem?_of_mem hc
  have hil:=zc1 hrow
  have hjl:=zc1 hcol
  have:=h.room hil (by rw [← zd3 h.hg hrow]; exact hjl)
  rw [zcx hrow hcol]at this
  omega
 by_cases h0:(rP p).length=0
 ·have:=(zdq p).1; omega
 obtain ⟨b,hb,-⟩:=zaf (show (rP p).length - 1<(rP p).length by omega)
 obtain ⟨a,c,⟨q1,q2⟩,-⟩:=(h.rect hb).at_
 obtain ⟨hc,ha⟩:=q2
 have ha':a<p.length:=by omega
 obtain ⟨row,hrow,hrm⟩:=zaf ha'
 have hrl:=zd3 h.hg hrow
 obtain ⟨d,hd,-⟩:=zaf (show c<row.length by omega)
 have:=(z38 p 0).2 a c row d hrow hd
 rw [zcx hrow hd]at q1
 unfold zbo
 omega
def inB (b:Rect) (i j:Nat):Bool:=(decide (b.row≤i) && decide ((i:Int)<b.row+b.high)) && (decide (b.col≤j) && decide ((j:Int)<b.col+b.wide))
theorem zpr {z:Nat→Nat→Int} {H W:Nat} {v:Int} {b:Rect} (h:zlu (Val z W H 0 v) b):((cnt H W (inB b):Nat):Int)=b.high*b.wide∧∀ i j,i<H→j<W→z i j=v→inB b i j=true:=by
 obtain ⟨t,l,hh,w,e1,e2,e3,e4,h1,h2,h3,h4,h5⟩:=Hull.nat h
 have e5:b.high=hh:=by omega
 have e6:b.wide=w:=by omega
 have e:∀ i j,inB b i j=inR t l hh w i j:=by
  intro i j
  unfold inB inR
  rw [e1,e2,e5,e6,Bool.eq_iff_iff]
  simp only[qB,decide_eq_true_eq]
  omega
 have e7:inB b=inR t l hh w:=by funext i j; exact e i j
 rw [e7,z81 h3 h4,e5,e6]
 exact ⟨by simp,h5⟩
def arN (p:List Txt) (m:Nat):Nat :=
 match (rP p)[m]? with
 | some b=>cnt p.length (zal p).length (inB b)
 | none=>0
theorem z01 {p:List Txt} {m:Nat} {b:Rect} (h:(rP p)[m]?=some b):arN p m=cnt p.length (zal p).length (inB b):=by simp [arN,h]
theorem z74 {p:List Txt} (h:Named p):∀ k,k≤(rP p).length→z4e ((rP p).take k)=((sN k (arN p):Nat):Int)
 | 0,_=>by simp [z4e,sN]
 | k+1,hk=>by
  obtain ⟨b,hb,-⟩:=zaf (show k<(rP p).length by omega)
  rw [zrz hb,z74 h k (by omega),sN,z01 hb,← (zpr (h.rect hb)).1]
  simp
theorem Named.cells_le {p:List Txt} (h:Named p) {m:Nat} (hm:m<(rP p).length):cnt p.length (zal p).length (inZ p m)≤arN p m:=by
 obtain ⟨b,hb,-⟩:=zaf hm
 rw [z01 hb]
 exact yd8 fun i j hi hj hz=>(zpr (h.rect hb)).2 i j hi hj (by unfold inZ at hz; simpa using hz)
theorem Named.all {p:List Txt} (h:Named p):sN (rP p).length (fun m=>cnt p.length (zal p).length (inZ p m))=p.length*(zal p).length:=by
 rw [← zze (H:=p.length) (W:=(zal p).length) (n:=(rP p).length) (z:=fun i j=>(zah p i j).toNat) fun i j hi hj=>by have:=h.room hi hj; omega]
 refine zfa fun m hm=>z41 fun i j hi hj=>?_
 unfold inZ
 have:=h.room hi hj
 apply decide_eq_decide.2
 omega
theorem z9a {p:List Txt} (h:Named p):zlg (zbm p)=decide (sN (rP p).length (arN p)=p.length*(zal p).length):=by
 have:=z74 h (rP p).length (qR _)
 rw [List.take_length]at this
 unfold zlg
 rw [show (stG (zbm p)).2=rP p from rfl,this,zdg,znk]
 apply decide_eq_decide.2
 omega
theorem Named.area {p:List Txt} (h:Named p) {m:Nat} (hm:m<(rP p).length):(zdx p m=zdf p m*zdd p m)↔cnt p.length (zal p).length (inZ p m)=arN p m:=by
 obtain ⟨b,hb,-⟩:=zaf hm
 obtain ⟨-,-,e1,e2⟩:=h.box hb
 rw [ztr (zjm h.hg),← e1,← e2,← (zpr (h.rect hb)).1,z01 hb]
 omega
theorem Named.full {p:List Txt} (h:Named p):zlg (zbm p)=true↔∀ m,m<(rP p).length→cnt p.length (zal p).length (inZ p m)=arN p m:=by
 rw [z9a h,decide_eq_true_eq,← h.all]
 constructor
 ·intro e m hm
  exact z97 (fun m hm=>h.cells_le hm) e.symm m hm
 intro e
 exact zfa fun m hm=>(e m hm).symm
theorem Named.fill {p:List Txt} (h:Named p) (hf:zlg (zbm p)=true) {m:Nat} {b:Rect} (hb:(rP p)[m]?=some b) {i j:Nat} (hi:i<p.length) (hj:j<(zal p).length):inB b i j=decide (zah p i j=m):=by
 have e:=h.full.1 hf m (zc1 hb)
 rw [z01 hb]at e
 exact (yd7 (fun i j hi hj hz=>(zpr (h.rect hb)).2 i j hi hj (by unfold inZ at hz; simpa using hz)) e i j hi hj).symm
theorem zd6 {p:List Txt}:zd9 p=zaz p:=by
 unfold zd9 znz okB okS zaz
 rw [Bool.eq_iff_iff]
 simp only[qB,decide_eq_true_eq,List.all_eq_true,List.mem_range]
 have hgi:=z9c (p:=p)
 constructor
 ·rintro ⟨⟨h1,h2,h3⟩,h4,h5⟩
  have hg:zb3 p=true:=by rw [hgi,h1,h2]; rfl
  have hN:Named p:=⟨hg,h5⟩
  have hr:=hN.rooms
  have h3':(rP p).length≤9:=h3
  refine ⟨⟨⟨hg,by rw [zm9 hg]; exact h5⟩,by omega⟩,fun m hm=>?_⟩
  have hm':m<(rP p).length:=by omega
  exact (hN.area hm').2 (hN.full.1 h4 m hm')
 rintro ⟨⟨⟨hg,h2⟩,h3⟩,h4⟩
 have h5:zeh (gP p)=p:=by rw [← zm9 hg]; exact h2
 have hN:Named p:=⟨hg,h5⟩
 have hr:=hN.rooms
 rw [hgi,qB]at hg
 have h3':(rP p).length≤9:=by omega
 exact ⟨⟨hg.1,hg.2,h3'⟩,hN.full.2 fun m hm=>(hN.area hm).1 (h4 m (by omega)),h5⟩
theorem zdi {p:List Txt} (h:zaz p=true):Named p:=by
 have h2:=h
 rw [← zd6]at h2
 unfold zd9 znz at h2
 simp only[qB,decide_eq_true_eq]at h2
 exact ⟨zb8 h,h2.2.2⟩
theorem z63 {p:List Txt} (h:zaz p=true):zlg (zbm p)=true:=by
 rw [← zd6]at h
 unfold zd9 znz at h
 simp only[qB,decide_eq_true_eq]at h
 exact h.2.1
theorem z3z {p:List Txt} (h:zhp p=true):zaz p=true:=by
 unfold zhp at h
 rw [qB]at h
 exact h.1
theorem zvb {l:List Int} {x:Int}:x∈ddp l↔x∈l:=by
 have:∀ (l m:List Int),x∈l.foldl zx8 m↔x∈m∨x∈l:=by
  intro l
  induction l with
  | nil=>intro m; simp
  | cons a l ih=>intro m; rw [List.foldl_cons,ih,z1u,List.mem_cons,or_assoc]
 unfold ddp
 rw [this]
 simp
def Rise (n:Nat) (rk:Nat→Nat) (M:List (List Bool)):Prop:=Sq n M∧∀ a b,a<n→b<n→zcn M a b=true→rk a<rk b
theorem Rise.fold {n:Nat} {rk:Nat→Nat} {f:List (List Bool)→Nat→List (List Bool)}:∀ (i:Nat) {M:List (List Bool)},i≤n→(∀ M j,j<n→Rise n rk M→Rise n rk (f M j))→Rise n rk M→Rise n rk ((List.range i).foldl f M)
 | 0,_,_,_,h=>h
 | i+1,M,hi,hs,h=>by
  rw [ze5]
  exact hs _ i (by omega) (Rise.fold i (by omega) hs h)
theorem Rise.empty {n:Nat} {rk:Nat→Nat}:Rise n rk (zg3 n):=by
 refine ⟨zij n,fun a b ha hb h=>?_⟩
 simp [zcn,zg3,ha,hb]at h
theorem zmc {p:List Txt} (hp:zaz p=true) {i j:Nat} (hi:i<p.length) (hj:j<(zal p).length):∃ b,(rP p)[(zah p i j).toNat]?=some b∧inB b i j=true∧b.Fit∧∀ k l,k<p.length→l<(zal p).length→inB b k l=true→zah p k l=zah p i j:=by
 have hN:=zdi hp
 have hr:=hN.room hi hj
 obtain ⟨b,hb,hbm⟩:=zaf (show (zah p i j).toNat<(rP p).length by omega)
 have hf:=z63 hp
 have hsm:=zay hN.hg
 obtain ⟨row0,hr0,hm0⟩:=zaf hsm.1
 have hh:=zca hr0
 have hw6:=hsm.2.2 row0 hm0
 have hw1:=zfn hN.hg hr0
 rw [← hh]at hw6 hw1
 have hok:=(ziv (g:=zbm p) hw6 hw1 p.length hsm.2.1).1
 rw [← z91]at hok
 refine ⟨b,hb,?_,hok.2 b hbm,fun k l hk hl hkl=>?_⟩
 ·rw [hN.fill hf hb hi hj]; exact decide_eq_true (by omega)
 rw [hN.fill hf hb hk hl]at hkl
 have:=of_decide_eq_true hkl
 omega
section
open Go Go.ChangeShapes Go.WideShapes Go.ChangeAt Go.RowKit
set_option maxRecDepth 100000 in
theorem yab {W:World} {base:Nat} {t e:TypeId} {a:Addr} {len cap:Nat} (ht:Tryz.prog.underlying t=some (.slice e)) (hval:Value.okWide Tryz.prog W .any base t (.slice (some a) len cap)):a.spot=none∧a.block<W.heap.size:=by
 simp only[Value.okWide,ht,Cell.okWide,Cell.ok]at hval
 obtain ⟨-,-,-,hsp,row,cells,hsh,-⟩:=hval
 refine ⟨hsp,?_⟩
 unfold World.shape? at hsh
 rcases Nat.lt_or_ge a.block W.heap.size with h | h
 ·exact h
 rw [Array.getElem?_eq_none h]at hsh; cases hsh
end
section
open Go Go.ChangeShapes Go.WideShapes Go.ChangeAt Go.RowKit
set_option maxRecDepth 100000 in
theorem yal {H:Type} {enc:TypeId × Value→H} {W:World} {base:Nat} {v:Value} {d:DataW H} {ps:List MemPlace} (hval:Value.okWide Tryz.prog W .any base 22 v) (h:DataW.Trod enc Tryz.prog W 0 (fun _=>true) true 22 v d ps) :
  ∃ p:Txt,VI W.heap (fun b=>b<W.heap.size) (.sl (p.map eB) p.length) v∧p.length≤9223372036854775807:=by
 obtain ⟨a0,len,cap,rfl⟩:=okWide_slice Tryz.underlying22 hval
 obtain ⟨fuel,hf⟩:=h
 rcases open_ints Tryz.underlying22 Tryz.underlying5 (by kernel_rfl) hf with ⟨hcs,hx⟩ | ⟨a,len',cap',zs,hcs,-,hl,hm,hz,hx,hcell,hwf⟩
 ·simp [Value.cells]at hcs
  obtain ⟨rfl,rfl,rfl⟩:=hcs
  exact ⟨[],.sl0,by simp⟩
 simp [Value.cells]at hcs
 obtain ⟨rfl,rfl,rfl⟩:=hcs
 obtain ⟨hsp,hlt⟩:=yab Tryz.underlying22 hval
 obtain ⟨b,off,spot⟩:=a
 simp only at hsp hlt
 subst hsp
 simp only[if_true]at hz
 have hml:maxLen≤9223372036854775807:=by decide
 have hlen:((zs.take len).map fun n:Int=>UInt8.ofNat n.toNat).length=len:=by simp; omega
 have hget:∀ (i:Nat) c,((zs.take len).map fun n:Int=>UInt8.ofNat n.toNat)[i]?=some c→i<len∧(c.toNat:Int)=zs.getD i 0:=by
  intro i c hc
  rw [List.getElem?_map,qI]at hc
  obtain ⟨z,hz1,rfl⟩:=hc
  have hi:=zc1 hz1
  simp only[List.length_take]at hi
  rw [List.getElem?_take_of_lt (by omega)]at hz1
  refine ⟨by omega,?_⟩
  rw [List.getD_eq_getElem?_getD,hz1,Option.getD_some]
  have hw:=hwf z (List.mem_of_getElem? hz1)
  have hz8:0≤z∧z<256:=by
   have e:IntKind.u8.min≤z∧z≤IntKind.u8.max:=by simpa [Lit.wf] using hw
   have e1:IntKind.u8.min=0:=by decide
   have e2:IntKind.u8.max=255:=by decide
   omega
  have e3:(UInt8.ofNat z.toNat).toNat=z.toNat % 256:=rfl
  rw [e3]
  omega
 refine ⟨(zs.take len).map fun n:Int=>UInt8.ofNat n.toNat,?_,by rw [hlen]; omega⟩
 rw [hlen]
 refine .sl _ _ b off cap (fun i => .int .u8 (zs.getD i 0)) (fun _=>hlt) hl (fun i q hq=>?_) (fun i q hq=>?_)
 ·rw [List.getElem?_map,qI]at hq
  obtain ⟨c,hc,rfl⟩:=hq
  obtain ⟨hi,-⟩:=hget i c hc
  refine ⟨rfl,?_⟩
  rw [← ze4]
  have:=hcell i (by omega)
  rwa [add_lit]at this
 rw [List.getElem?_map,qI]at hq
 obtain ⟨c,hc,rfl⟩:=hq
 obtain ⟨-,e⟩:=hget i c hc
 show VI _ _ (.int .u8 (c.toNat:Int)) _
 rw [e]
 exact .int _ _
end
section
open Go Go.RowKit
end
inductive Tm where
 | o
 | un (s:UInt8) (t:Tm)
 | bin (s:UInt8) (a b:Tm)
section
structure Pl (c:Nat→Nat→Nat) (H W:Nat):Prop where
 rect:∀ {i j i' j':Nat} (k l:Nat),i<H→i'<H→j<W→j'<W→c i j=c i' j'→min i i'≤k→k≤max i i'→min j j'≤l→l≤max j j'→c k l=c i j
 plain:∀ {i j:Nat},i+1<H→j+1<W→c i j≠c i (j+1)→c (i+1) j≠c (i+1) (j+1)→c i j≠c (i+1) j→c i (j+1)=c (i+1) (j+1)
def DL (c:Nat→Nat→Nat) (H W a b:Nat):Prop:=∃ j i1 i2,j+1<W∧i1<H∧i2<H∧(∀ r,min i1 i2≤r→r≤max i1 i2→c r j≠c r (j+1))∧a=c i1 j∧b=c i2 (j+1)
def DU (c:Nat→Nat→Nat) (H W a b:Nat):Prop:=∃ i j1 j2,i+1<H∧j1<W∧j2<W∧(∀ k,min j1 j2≤k→k≤max j1 j2→c i k≠c (i+1) k)∧a=c i j1∧b=c (i+1) j2
theorem zu8 {P:Nat→Prop}:∀ {n:Nat},P n→∃ m,m≤n∧P m∧∀ k,k<m→¬ P k:=by
 intro n
 induction n using Nat.strongRecOn with
 | _ n ih =>
  intro h
  by_cases c:∃ k,k<n∧P k
  ·obtain ⟨k,hk,hp⟩:=c
   obtain ⟨m,h1,h2,h3⟩:=ih k hk hp
   exact ⟨m,by omega,h2,h3⟩
  exact ⟨n,qR _,h,fun k hk hp=>c ⟨k,hk,hp⟩⟩
theorem zzn {P:Nat→Prop} {i:Nat}:∀ {n:Nat},i≤n→P i→¬ P n→∃ e,i≤e∧e+1≤n∧P e∧¬ P (e+1)
 | 0,h,h1,h2=>by
    obtain rfl:i=0:=by omega
    exact absurd h1 h2
 | n+1,h,h1,h2=>by
  by_cases c:P n
  ·by_cases e:i=n+1
   ·subst e; exact absurd h1 h2
   exact ⟨n,by omega,qR _,c,h2⟩
  by_cases e:i=n+1
  ·subst e; exact absurd h1 h2
  obtain ⟨m,k1,k2,k3⟩:=zzn (P:=P) (i:=i) (n:=n) (by omega) h1 c
  exact ⟨m,k1,by omega,k3⟩
section
variable {c:Nat→Nat→Nat} {H W:Nat}
def Stair (c:Nat→Nat→Nat) (H W:Nat) (Z:Nat→Prop):Prop:=∀ {i j:Nat} (i' j':Nat),i<H→j<W→i'≤i→j'≤j→Z (c i j)→Z (c i' j')
def Free (c:Nat→Nat→Nat) (H W:Nat) (Z:Nat→Prop):Prop:=∃ i j,i<H∧j<W∧¬ Z (c i j)∧(∀ a,DL c H W a (c i j)∨DU c H W a (c i j)→Z a)∧Stair c H W fun x=>Z x∨x=c i j
theorem z5n (h:Pl c H W) {Z:Nat→Prop} (hZ:Stair c H W Z) {i j:Nat} (hi:i<H) (hj:j<W) (hn:¬ Z (c i j)) (hu:∀ i',i'+1=i→Z (c i' j)) (hl:∀ j',j'+1=j→Z (c i j'))
  (hN:∀ i',i'+1=i→∀ k,j≤k→k<W→(∀ l,j≤l→l≤k→c i' l≠c i l)→Z (c i' k))
  (hA:∀ j',j'+1=j→∀ k,i≤k→k<H→(∀ r,i≤r→r≤k→c r j'≠c r j)→Z (c k j')):Free c H W Z:=by
 have up:∀ {i2 j2:Nat},i2<H→j2<W→c i2 j2=c i j→i≤i2:=by
  intro i2 j2 h1 h2 h3
  by_cases q:i≤i2
  ·exact q
  have h4:=hu (i - 1) (by omega)
  rw [h.rect (i - 1) j h1 hi h2 hj h3 (by omega) (by omega) (by omega) (by omega),h3]at h4
  exact absurd h4 hn
 have lf:∀ {i2 j2:Nat},i2<H→j2<W→c i2 j2=c i j→j≤j2:=by
  intro i2 j2 h1 h2 h3
  by_cases q:j≤j2
  ·exact q
  have h4:=hl (j - 1) (by omega)
  rw [h.rect i (j - 1) h1 hi h2 hj h3 (by omega) (by omega) (by omega) (by omega),h3]at h4
  exact absurd h4 hn
 have runL:∀ {i2 j2 r j':Nat},i2<H→j2<W→c i2 j2=c i j→j'+1=j→i≤r→r≤i2→c r j'≠c r j:=by
  intro i2 j2 r j' h1 h2 h3 h4 h5 h6 h7
  have h8:=lf h1 h2 h3
  have e1:c r j=c i j:=by
   rw [h.rect r j h1 hi h2 hj h3 (by omega) (by omega) (by omega) (by omega),h3]
  have h9:=lf (i2:=r) (j2:=j') (by omega) (by omega) (by rw [h7,e1])
  omega
 have runU:∀ {i2 j2 l i':Nat},i2<H→j2<W→c i2 j2=c i j→i'+1=i→j≤l→l≤j2→c i' l≠c i l:=by
  intro i2 j2 l i' h1 h2 h3 h4 h5 h6 h7
  have h8:=up h1 h2 h3
  have e1:c i l=c i j:=by
   rw [h.rect i l h1 hi h2 hj h3 (by omega) (by omega) (by omega) (by omega),h3]
  have h9:=up (i2:=i') (j2:=l) (by omega) (by omega) (by rw [h7,e1])
  omega
 refine ⟨i,j,hi,hj,hn,?_,?_⟩
 ·rintro a (⟨j0,i1,i2,k1,k2,k3,run,rfl,k4⟩ | ⟨i0,j1,j2,k1,k2,k3,run,rfl,k4⟩)
  ·have h1:=lf k3 k1 k4.symm
   have e:j0+1=j:=by
    by_cases q:j0+1=j
    ·exact q
    have:=h.rect i2 j0 k3 hi k1 hj k4.symm (by omega) (by omega) (by omega) (by omega)
    exact absurd this (run i2 (by omega) (by omega))
   subst e
   have h2:=up k3 k1 k4.symm
   by_cases q:i1<i
   ·exact hZ i1 j0 hi (by omega) (by omega) (qR _) (hl j0 rfl)
   refine hA j0 rfl i1 (by omega) k2 fun r r1 r2=>?_
   by_cases q2:min i1 i2≤r
   ·exact run r q2 (by omega)
   exact runL k3 k1 k4.symm rfl r1 (by omega)
  have h1:=up k1 k3 k4.symm
  have e:i0+1=i:=by
   by_cases q:i0+1=i
   ·exact q
   have:=h.rect i0 j2 k1 hi k3 hj k4.symm (by omega) (by omega) (by omega) (by omega)
   exact absurd this (run j2 (by omega) (by omega))
  subst e
  have h2:=lf k1 k3 k4.symm
  by_cases q:j1<j
  ·exact hZ i0 j1 (by omega) hj (qR _) (by omega) (hu i0 rfl)
  refine hN i0 rfl j1 (by omega) k2 fun r r1 r2=>?_
  by_cases q2:min j1 j2≤r
  ·exact run r q2 (by omega)
  exact runU k1 k3 k4.symm rfl r1 (by omega)
 intro i2 k2 i' j' h1 h2 h3 h4 h5
 rcases h5 with h5 | h5
 ·exact .inl (hZ i' j' h1 h2 h3 h4 h5)
 have q1:=up h1 h2 h5
 have q2:=lf h1 h2 h5
 by_cases q3:i'<i
 ·left
  refine hZ i' j' (show i - 1<H by omega) h2 (by omega) h4 (hN (i - 1) (by omega) k2 q2 h2 fun l l1 l2=>runU h1 h2 h5 (by omega) l1 l2)
 by_cases q4:j'<j
 ·left
  exact hZ i' j' h1 (show j - 1<W by omega) h3 (by omega) (hA (j - 1) (by omega) i2 q1 h1 fun r r1 r2=>runL h1 h2 h5 (by omega) r1 r2)
 right
 rw [h.rect i' j' h1 hi h2 hj h5 (by omega) (by omega) (by omega) (by omega),h5]
theorem z5m (h:Pl c H W) {Z:Nat→Prop} (hZ:Stair c H W Z):∀ (j i:Nat),i<H→j<W→¬ Z (c i j)→(∀ i',i'+1=i→Z (c i' j))→(∀ j',j'+1=j→Z (c i j')) →
  (∀ i',i'+1=i→∀ k,j≤k→k<W→(∀ l,j≤l→l≤k→c i' l≠c i l)→Z (c i' k))→Free c H W Z:=by
 intro j
 induction j using Nat.strongRecOn with
 | _ j ih =>
  intro i hi hj hn hu hl hN
  by_cases hA:∀ j',j'+1=j→∀ k,i≤k→k<H→(∀ r,i≤r→r≤k→c r j'≠c r j)→Z (c k j')
  ·exact z5n h hZ hi hj hn hu hl hN hA
  simp only[Classical.not_forall]at hA
  obtain ⟨j',rfl,k,h1,h2,run,h3⟩:=hA
  obtain ⟨e,e1,e2,e3,e4⟩:=zzn (P:=fun r=>Z (c r j')) h1 (hl j' rfl) h3
  obtain ⟨m,m1,m2,m3⟩:=zu8 (P:=fun l=>¬ Z (c (e+1) l)) e4
  refine ih m (by omega) (e+1) (by omega) (by omega) m2 ?_ ?_ ?_
  ·intro i' hi'
   obtain rfl:i'=e:=by omega
   exact hZ i' m (by omega) (by omega) (qR _) m1 e3
  ·intro l hl'
   exact Classical.not_not.1 (m3 l (by omega))
  intro i' hi' k2 k3 k4 k5
  obtain rfl:i'=e:=by omega
  by_cases q:k2≤j'
  ·exact hZ i' k2 (by omega) (by omega) (qR _) q e3
  have q1:=k5 (j'+1) (by omega) (by omega)
  have q2:=h.plain (i:=i') (j:=j') (by omega) hj (run i' (by omega) (by omega)) (run (i'+1) (by omega) (by omega)) (fun q3=>e4 (by rw [← q3]; exact e3))
  exact absurd q2 q1
theorem yck (h:Pl c H W) {Z:Nat→Prop} (hZ:Stair c H W Z) (hx:∃ i j,i<H∧j<W∧¬ Z (c i j)):Free c H W Z:=by
 obtain ⟨i,hx⟩:=hx
 obtain ⟨i,-,⟨j,h1,h2,h3⟩,h4⟩:=zu8 (P:=fun i=>∃ j,i<H∧j<W∧¬ Z (c i j)) hx
 obtain ⟨j,j1,j2,j3⟩:=zu8 (P:=fun j=>¬ Z (c i j)) h3
 have all:∀ i',i'+1=i→∀ k,k<W→Z (c i' k):=fun i' e k hk=>Classical.byContradiction fun q=>h4 i' (by omega) ⟨k,by omega,hk,q⟩
 exact z5m h hZ j i h1 (by omega) j2 (fun i' e=>all i' e j (by omega)) (fun j' e=>Classical.not_not.1 (j3 j' (by omega))) (fun i' e k _ hk _=>all i' e k hk)
theorem z3s (h:Pl c H W) {n:Nat} (hc:∀ i j,i<H→j<W→c i j<n):∀ (m:Nat) (Z:Nat→Bool),Stair c H W (fun x=>Z x=true)→(List.range n).countP (fun x => !Z x)≤m→∃ f:Nat→Nat,∀ a b,Z a=false→Z b=false→DL c H W a b∨DU c H W a b→f a<f b:=by
 have cell:∀ {a b:Nat},DL c H W a b∨DU c H W a b→∃ i j,i<H∧j<W∧a=c i j:=by
  rintro a b (⟨j0,i1,i2,k1,k2,k3,run,rfl,k4⟩ | ⟨i0,j1,j2,k1,k2,k3,run,rfl,k4⟩)
  ·exact ⟨i1,j0,k2,by omega,rfl⟩
  exact ⟨i0,j1,by omega,k2,rfl⟩
 intro m
 induction m with
 | zero =>
  intro Z hZ hm
  refine ⟨fun _=>0,fun a b ha hb hd=>?_⟩
  obtain ⟨i,j,hi,hj,rfl⟩:=cell hd
  have h0:(List.range n).countP (fun x => !Z x)=0:=by omega
  rw [List.countP_eq_zero]at h0
  exact absurd (show (!Z (c i j))=true by rw [ha]; rfl) (h0 _ (by simpa using hc i j hi hj))
 | succ m ih =>
  intro Z hZ hm
  by_cases hx:∃ i j,i<H∧j<W∧¬ (Z (c i j)=true)
  ·obtain ⟨i,j,hi,hj,hn,hp,hs⟩:=yck h (Z:=fun x=>Z x=true) hZ hx
   have hZ':Stair c H W (fun x=>(Z x || x == c i j)=true):=by
    intro i1 j1 i' j' h1 h2 h3 h4 h5
    have h6:=hs i' j' h1 h2 h3 h4 (by simpa using h5)
    simpa using h6
   have hlt:(List.range n).countP (fun x => !(Z x || x == c i j))<(List.range n).countP (fun x => !Z x):=by
    refine zuv (fun x _ hx=>?_) ⟨c i j,by simpa using hc i j hi hj,by simpa using hn,by simp⟩
    cases hz:Z x with
    | false=>rfl
    | true=>rw [hz]at hx; simp at hx
   obtain ⟨f,hf⟩:=ih (fun x=>Z x || x == c i j) hZ' (by omega)
   refine ⟨fun x=>if x=c i j then 0 else f x+1,fun a b ha hb hd=>?_⟩
   have hbA:b≠c i j:=by
    rintro rfl
    have q:Z a=true:=hp a hd
    rw [ha]at q; cases q
   simp only[if_neg hbA]
   by_cases haA:a=c i j
   ·simp only[if_pos haA]; omega
   simp only[if_neg haA]
   have:=hf a b (by simp [ha,haA]) (by simp [hb,hbA]) hd
   omega
  refine ⟨fun _=>0,fun a b ha hb hd=>?_⟩
  obtain ⟨i,j,hi,hj,rfl⟩:=cell hd
  exact absurd ⟨i,j,hi,hj,by rw [ha]; exact Bool.false_ne_true⟩ hx
theorem z10 (h:Pl c H W) {n:Nat} (hc:∀ i j,i<H→j<W→c i j<n):∃ f:Nat→Nat,∀ a b,DL c H W a b∨DU c H W a b→f a<f b:=by
 obtain ⟨f,hf⟩:=z3s h hc _ (fun _=>false) (fun _ _ _ _ _ _ h=>h) (qR _)
 exact ⟨f,fun a b hd=>hf a b rfl rfl hd⟩
def fl (c:Nat→Nat→Nat) (H i j:Nat):Nat:=c (H - 1 - i) j
def tr (c:Nat→Nat→Nat) (i j:Nat):Nat:=c j i
theorem Pl.dn (h:Pl c H W):Pl (fl c H) H W:=by
 refine ⟨fun k l h1 h2 h3 h4 h5 h6 h7 h8 h9=>?_,fun {i j} h1 h2 h3 h4 h5=>?_⟩
 ·exact h.rect _ _ (by omega) (by omega) h3 h4 h5 (by omega) (by omega) h8 h9
 unfold Fw.fl at *
 obtain ⟨k,rfl⟩:∃ k,H=i+2+k:=⟨H - (i+2),by omega⟩
 rw [show i+2+k - 1 - i=k+1 by omega,show i+2+k - 1 - (i+1)=k by omega] at *
 exact (h.plain (i:=k) (j:=j) (by omega) h2 h4 h3 (Ne.symm h5)).symm
theorem Pl.ex (h:Pl c H W):Pl (tr c) W H :=
 ⟨fun k l h1 h2 h3 h4 h5 h6 h7 h8 h9=>h.rect l k h3 h4 h1 h2 h5 h8 h9 h6 h7,fun {i j} h1 h2 h3 h4 h5=>by
  unfold Fw.tr at *
  by_cases q:c j i=c j (i+1)
  ·exact absurd q h5
  by_cases q2:c (j+1) i=c (j+1) (i+1)
  ·exact q2
  exact absurd (h.plain (i:=j) (j:=i) h2 h1 h5 q2 h3) h4⟩
theorem DL.ex {a b:Nat} (h:DL (tr c) W H a b):DU c H W a b:=h
theorem DU.ex {a b:Nat} (h:DU (tr c) W H a b):DL c H W a b:=h
theorem DL.dn {a b:Nat} (h:DL (fl c H) H W a b):DL c H W a b:=by
 obtain ⟨j,i1,i2,h1,h2,h3,run,rfl,rfl⟩:=h
 refine ⟨j,H - 1 - i1,H - 1 - i2,h1,by omega,by omega,fun r r1 r2=>?_,rfl,rfl⟩
 have:=run (H - 1 - r) (by omega) (by omega)
 unfold Fw.fl at this
 rwa [show H - 1 - (H - 1 - r)=r by omega]at this
theorem DL.unfl {a b:Nat} (h:DL c H W a b):DL (fl c H) H W a b:=by
 obtain ⟨j,i1,i2,h1,h2,h3,run,rfl,rfl⟩:=h
 refine ⟨j,H - 1 - i1,H - 1 - i2,h1,by omega,by omega,fun r r1 r2=>?_,?_,?_⟩
 ·exact run (H - 1 - r) (by omega) (by omega)
 ·unfold Fw.fl; rw [show H - 1 - (H - 1 - i1)=i1 by omega]
 unfold Fw.fl; rw [show H - 1 - (H - 1 - i2)=i2 by omega]
theorem DU.dn {a b:Nat} (h:DU (fl c H) H W a b):DU c H W b a:=by
 obtain ⟨i,j1,j2,h1,h2,h3,run,rfl,rfl⟩:=h
 refine ⟨H - 1 - (i+1),j2,j1,by omega,h3,h2,fun k k1 k2=>?_,?_,?_⟩
 ·have:=run k (by omega) (by omega)
  unfold Fw.fl at this
  rw [show H - 1 - (i+1)+1=H - 1 - i by omega]
  exact Ne.symm this
 ·rfl
 unfold Fw.fl; rw [show H - 1 - (i+1)+1=H - 1 - i by omega]
theorem DU.unfl {a b:Nat} (h:DU c H W a b):DU (fl c H) H W b a:=by
 obtain ⟨i,j1,j2,h1,h2,h3,run,rfl,rfl⟩:=h
 refine ⟨H - 1 - (i+1),j2,j1,by omega,h3,h2,fun k k1 k2=>?_,?_,?_⟩
 ·unfold Fw.fl
  rw [show H - 1 - (H - 1 - (i+1))=i+1 by omega,show H - 1 - (H - 1 - (i+1)+1)=i by omega]
  exact Ne.symm (run k (by omega) (by omega))
 ·unfold Fw.fl; rw [show H - 1 - (H - 1 - (i+1))=i+1 by omega]
 unfold Fw.fl; rw [show H - 1 - (H - 1 - (i+1)+1)=i by omega]
theorem z6r (h:Pl c H W) {n:Nat} (hc:∀ i j,i<H→j<W→c i j<n):∃ f:Nat→Nat,∀ a b,DL c H W a b∨DU c H W b a→f a<f b:=by
 obtain ⟨f,hf⟩:=z10 h.dn (n:=n) (fun i j hi hj=>hc _ j (by omega) hj)
 refine ⟨f,fun a b hd=>hf a b ?_⟩
 rcases hd with hd | hd
 ·exact .inl hd.unfl
 exact .inr hd.unfl
inductive TC (R:Nat→Nat→Prop):Nat→Nat→Prop
 | one {a b:Nat}:R a b→TC R a b
 | tail {a b d:Nat}:TC R a b→R b d→TC R a d
theorem TC.mono {R S:Nat→Nat→Prop} (h:∀ a b,R a b→S a b) {a b:Nat} (k:TC R a b):TC S a b:=by
 induction k with
 | one k=>exact .one (h _ _ k)
 | tail _ k ih=>exact .tail ih (h _ _ k)
theorem TC.trans {R:Nat→Nat→Prop} {a b d:Nat} (h:TC R a b) (k:TC R b d):TC R a d:=by
 induction k with
 | one k=>exact .tail h k
 | tail _ k ih=>exact .tail ih k
theorem TC.rev {R S:Nat→Nat→Prop} (h:∀ a b,R a b→S b a) {a b:Nat} (k:TC R a b):TC S b a:=by
 induction k with
 | one k=>exact .one (h _ _ k)
 | tail _ k ih=>exact (TC.one (h _ _ k)).trans ih
theorem TC.last {R:Nat→Nat→Prop} {a b:Nat} (h:TC R a b):∃ x,(x=a∨TC R a x)∧R x b:=by
 cases h with
 | one k=>exact ⟨a,.inl rfl,k⟩
 | tail h k=>exact ⟨_,.inr h,k⟩
theorem TC.rise {R:Nat→Nat→Prop} {f:Nat→Nat} (h:∀ a b,R a b→f a<f b) {a b:Nat} (k:TC R a b):f a<f b:=by
 induction k with
 | one k=>exact h _ _ k
 | tail _ k ih=>exact Nat.lt_trans ih (h _ _ k)
theorem zpu {i:Nat} (hi:i<H) {j1:Nat}:∀ {j2:Nat},j1≤j2→j2<W→c i j1≠c i j2→TC (DL c H W) (c i j1) (c i j2)
 | 0,h1,_,h3=>by
    obtain rfl:j1=0:=by omega
    exact absurd rfl h3
 | j2+1,h1,h2,h3=>by
  by_cases e:j1=j2+1
  ·subst e; exact absurd rfl h3
  by_cases q:c i j2=c i (j2+1)
  ·rw [← q]at h3 ⊢
   exact zpu hi (by omega) (by omega) h3
  have hd:DL c H W (c i j2) (c i (j2+1)):=⟨j2,i,i,h2,hi,hi,fun r r1 r2=>by
  obtain rfl:r=i:=by omega
  exact q,rfl,rfl⟩
  by_cases q2:c i j1=c i j2
  ·rw [q2]; exact .one hd
  exact .tail (zpu hi (by omega) (by omega) q2) hd
theorem z82 {j:Nat} (hj:j<W) {i1 i2:Nat} (h1:i1≤i2) (h2:i2<H) (h3:c i1 j≠c i2 j):TC (DU c H W) (c i1 j) (c i2 j) :=
 (zpu (c:=tr c) (H:=W) (W:=H) hj h1 h2 h3).mono fun _ _ h=>h.ex
theorem pass (h:Pl c H W) {r q A:Nat} (hr:r+1<H) (hq:q+1<W) (hNP:c r q=c (r+1) q) (hP:c (r+1) q≠c (r+1) (q+1)) (hQ:c r (q+1)≠c (r+1) (q+1))
  (h1:c (r+1) q=A∨TC (DL c H W) A (c (r+1) q)∨TC (DU c H W) A (c (r+1) q)) (h2:c r (q+1)=A∨TC (DL c H W) A (c r (q+1))∨TC (DU c H W) A (c r (q+1))) :
  TC (DL c H W) A (c (r+1) (q+1))∨TC (DU c H W) A (c (r+1) (q+1)):=by
 have hNQ:c r q≠c r (q+1):=by
  intro e
  have:=h.rect (i:=r+1) (j:=q) (i':=r) (j':=q+1) (r+1) (q+1) hr (by omega) (by omega) hq (by rw [← hNP,e]) (by omega) (by omega) (by omega) (by omega)
  exact hP this.symm
 have dP:DL c H W (c (r+1) q) (c (r+1) (q+1)):=⟨q,r+1,r+1,hq,hr,hr,fun x x1 x2=>by
    obtain rfl:x=r+1:=by omega
    exact hP,rfl,rfl⟩
 have dQ:DU c H W (c r (q+1)) (c (r+1) (q+1)):=⟨r,q+1,q+1,hr,hq,hq,fun x x1 x2=>by
    obtain rfl:x=q+1:=by omega
    exact hQ,rfl,rfl⟩
 rcases h1 with rfl | h1 | h1
 ·exact .inl (.one dP)
 ·exact .inl (.tail h1 dP)
 rcases h2 with rfl | h2 | h2
 ·exact .inr (.one dQ)
 ·left
  obtain ⟨x,hx,j0,i1,i2,k1,k2,k3,run,rfl,k4⟩:=h2.last
  have e:j0=q:=by
   by_cases q1:j0<q
   ·have:=h.rect r q k3 (show r<H by omega) k1 hq k4.symm (by omega) (by omega) (by omega) (by omega)
    rw [← k4]at this
    exact absurd this hNQ
   by_cases q2:q<j0
   ·have:=h.rect i2 j0 k3 (show r<H by omega) k1 hq k4.symm (by omega) (by omega) (by omega) (by omega)
    exact absurd this (run i2 (by omega) (by omega))
   omega
  subst e
  have hd:DL c H W (c i1 j0) (c (r+1) (j0+1)):=by
   refine ⟨j0,i1,r+1,hq,k2,hr,fun x x1 x2=>?_,rfl,rfl⟩
   by_cases q1:min i1 i2≤x∧x≤max i1 i2
   ·exact run x q1.1 q1.2
   by_cases q2:x=r+1
   ·subst q2; exact hP
   intro q3
   have e1:=h.rect x (j0+1) k3 (show r<H by omega) k1 hq k4.symm (by omega) (by omega) (by omega) (by omega)
   rw [← k4]at e1
   have e2:=h.rect (i:=x) (j:=j0) (i':=r) (j':=j0+1) r j0 (by omega) (by omega) (by omega) hq (by rw [q3,e1]) (by omega) (by omega) (by omega) (by omega)
   rw [q3,e1]at e2
   exact hNQ e2
  rcases hx with hx | hx
  ·rw [hx]at hd; exact .one hd
  exact .tail hx hd
 exact .inr (.tail h2 dQ)
theorem z0z (h:Pl c H W) {x y:Nat}:∀ (s:Nat) {i j:Nat},i+j≤s→x≤i→y≤j→i<H→j<W→c x y≠c i j→TC (DL c H W) (c x y) (c i j)∨TC (DU c H W) (c x y) (c i j):=by
 intro s
 induction s with
 | zero =>
  intro i j h1 h2 h3 h4 h5 h6
  obtain rfl:i=0:=by omega
  obtain rfl:j=0:=by omega
  obtain rfl:x=0:=by omega
  obtain rfl:y=0:=by omega
  exact absurd rfl h6
 | succ s ih =>
  intro i j h1 h2 h3 h4 h5 h6
  by_cases e1:x=i
  ·subst e1; exact .inl (zpu h4 h3 h5 h6)
  by_cases e2:y=j
  ·subst e2; exact .inr (z82 h5 h2 h4 h6)
  obtain ⟨r,rfl⟩:∃ r,i=r+1:=⟨i - 1,by omega⟩
  obtain ⟨q,rfl⟩:∃ q,j=q+1:=⟨j - 1,by omega⟩
  by_cases e3:c r (q+1)=c (r+1) (q+1)
  ·rw [← e3]at h6 ⊢
   exact ih (by omega) (by omega) h3 (by omega) h5 h6
  by_cases e4:c (r+1) q=c (r+1) (q+1)
  ·rw [← e4]at h6 ⊢
   exact ih (by omega) h2 (by omega) h4 (by omega) h6
  have iP:c (r+1) q=c x y∨TC (DL c H W) (c x y) (c (r+1) q)∨TC (DU c H W) (c x y) (c (r+1) q):=by
   by_cases k:c x y=c (r+1) q
   ·exact .inl k.symm
   exact .inr (ih (by omega) h2 (by omega) h4 (by omega) k)
  have iQ:c r (q+1)=c x y∨TC (DL c H W) (c x y) (c r (q+1))∨TC (DU c H W) (c x y) (c r (q+1)):=by
   by_cases k:c x y=c r (q+1)
   ·exact .inl k.symm
   exact .inr (ih (by omega) (by omega) h3 (by omega) h5 k)
  by_cases hNP:c r q=c (r+1) q
  ·exact pass h h4 h5 hNP e4 e3 iP iQ
  by_cases hNQ:c r q=c r (q+1)
  ·have:=pass (c:=tr c) (H:=W) (W:=H) h.ex (r:=q) (q:=r) (A:=c x y) h5 h4 hNQ e3 e4 ?_ ?_
   ·rcases this with k | k
    ·exact .inr (k.mono fun _ _ h=>h.ex)
    exact .inl (k.mono fun _ _ h=>h.ex)
   ·rcases iQ with k | k | k
    ·exact .inl k
    ·exact .inr (.inr k)
    exact .inr (.inl k)
   rcases iP with k | k | k
   ·exact .inl k
   ·exact .inr (.inr k)
   exact .inr (.inl k)
  exact absurd (h.plain h4 h5 hNQ e4 hNP) e3
theorem yah (h:Pl c H W) {x y i j:Nat} (hx:x<H) (hy:y<W) (hi:i<H) (hj:j<W) (hne:c x y≠c i j) :
  TC (DL c H W) (c x y) (c i j)∨TC (DL c H W) (c i j) (c x y)∨TC (DU c H W) (c x y) (c i j)∨TC (DU c H W) (c i j) (c x y):=by
 have key:∀ {x y i j:Nat},x<H→y<W→i<H→j<W→c x y≠c i j→x≤i→TC (DL c H W) (c x y) (c i j)∨TC (DL c H W) (c i j) (c x y)∨TC (DU c H W) (c x y) (c i j)∨TC (DU c H W) (c i j) (c x y):=by
  intro x y i j hx hy hi hj hne hle
  by_cases q:y≤j
  ·rcases z0z h _ (qR _) hle q hi hj hne with k | k
   ·exact .inl k
   exact .inr (.inr (.inl k))
  have e1:fl c H (H - 1 - i) j=c i j:=by unfold fl; rw [show H - 1 - (H - 1 - i)=i by omega]
  have e2:fl c H (H - 1 - x) y=c x y:=by unfold fl; rw [show H - 1 - (H - 1 - x)=x by omega]
  have:=z0z h.dn (x:=H - 1 - i) (y:=j) _ (i:=H - 1 - x) (j:=y) (qR _) (by omega) (by omega) (by omega) hy (by rw [e1,e2]; exact Ne.symm hne)
  rw [e1,e2]at this
  rcases this with k | k
  ·exact .inr (.inl (k.mono fun _ _ h=>h.dn))
  exact .inr (.inr (.inl (k.rev fun _ _ h=>h.dn)))
 by_cases q:x≤i
 ·exact key hx hy hi hj hne q
 rcases key hi hj hx hy (Ne.symm hne) (by omega) with k | k | k | k
 ·exact .inr (.inl k)
 ·exact .inl k
 ·exact .inr (.inr (.inr k))
 exact .inr (.inr (.inl k))
end
end

section
section
variable {n:Nat} {M:List (List Bool)}
theorem absorb {p q:Bool}:(p || (q && p))=p:=by cases p <;> cases q <;> rfl
theorem z40 (h:Sq n M) {k:Nat} (hk:k<n):∀ i,i≤n→Sq n ((List.range i).foldl (clA n k) M) ∧
  ∀ x y,x<n→y<n→zcn ((List.range i).foldl (clA n k) M) x y=if x<i then zcn M x y || (zcn M x k && zcn M k y) else zcn M x y
 | 0,_=>⟨h,fun x y _ _=>by simp⟩
 | i+1,hi=>by
  obtain ⟨h1,h2⟩:=z40 h hk i (by omega)
  rw [ze5]
  generalize (List.range i).foldl (clA n k) M=X at h1 h2 ⊢
  obtain ⟨h3,h4⟩:=yaz h1 hk (show i<n by omega) n (qR _)
  refine ⟨h3,fun x y hx hy=>?_⟩
  unfold clA
  rw [h4 x y hx hy]
  by_cases e:x=i
  ·subst e
   have e1:zcn X x y=zcn M x y:=by rw [h2 x y hx hy,if_neg (Nat.lt_irrefl _)]
   have e2:zcn X x k=zcn M x k:=by rw [h2 x k hx hk,if_neg (Nat.lt_irrefl _)]
   have e3:zcn X k y=zcn M k y:=by
    rw [h2 k y hk hy]
    split
    ·exact absorb
    rfl
   rw [if_pos ⟨rfl,hy⟩,if_pos (by omega),e1,e2,e3]
  rw [if_neg (fun q=>e q.1),h2 x y hx hy]
  by_cases e2:x<i
  ·rw [if_pos e2,if_pos (by omega)]
  rw [if_neg e2,if_neg (by omega)]
theorem ycc (h:Sq n M) {k:Nat} (hk:k<n) {x y:Nat} (hx:x<n) (hy:y<n):zcn (clK n M k) x y=(zcn M x y || (zcn M x k && zcn M k y)):=by
 have:=(z40 h hk n (qR _)).2 x y hx hy
 rw [if_pos hx]at this
 exact this
theorem z08 (h:Sq n M):∀ i,i≤n→Sq n ((List.range i).foldl (clK n) M) ∧
  (∀ a b,a<n→b<n→zcn M a b=true→zcn ((List.range i).foldl (clK n) M) a b=true) ∧
  (∀ m a b,m<i→a<n→b<n→zcn ((List.range i).foldl (clK n) M) a m=true→zcn ((List.range i).foldl (clK n) M) m b=true→zcn ((List.range i).foldl (clK n) M) a b=true) ∧
  (∀ T:Nat→Nat→Prop,(∀ a b d,T a b→T b d→T a d)→(∀ a b,a<n→b<n→zcn M a b=true→T a b)→∀ a b,a<n→b<n→zcn ((List.range i).foldl (clK n) M) a b=true→T a b)
 | 0,_=>⟨h,fun a b _ _ k=>k,fun m a b k=>by omega,fun T _ k=>k⟩
 | i+1,hi=>by
  obtain ⟨h1,h2,h3,h4⟩:=z08 h i (by omega)
  rw [ze5]
  generalize (List.range i).foldl (clK n) M=X at h1 h2 h3 h4 ⊢
  have hin:i<n:=by omega
  have g:∀ {x y:Nat},x<n→y<n→(zcn (clK n X i) x y=true↔zcn X x y=true∨(zcn X x i=true∧zcn X i y=true)):=by
   intro x y hx hy
   rw [ycc h1 hin hx hy]; simp
  refine ⟨(z40 h1 hin n (qR _)).1,fun a b ha hb k=>(g ha hb).2 (.inl (h2 a b ha hb k)),fun m a b hm ha hb k1 k2=>?_,fun T tr hT a b ha hb k=>?_⟩
  ·have hmn:m<n:=by omega
   rw [g ha hmn]at k1
   rw [g hmn hb]at k2
   rw [g ha hb]
   by_cases e:m=i
   ·subst e
    rcases k1 with k1 | k1 <;> rcases k2 with k2 | k2
    ·exact .inr ⟨k1,k2⟩
    ·exact .inr ⟨k1,k2.2⟩
    ·exact .inr ⟨k1.1,k2⟩
    exact .inr ⟨k1.1,k2.2⟩
   have hmi:m<i:=by omega
   rcases k1 with k1 | k1 <;> rcases k2 with k2 | k2
   ·exact .inl (h3 m a b hmi ha hb k1 k2)
   ·exact .inr ⟨h3 m a i hmi ha hin k1 k2.1,k2.2⟩
   ·exact .inr ⟨k1.1,h3 m i b hmi hin hb k1.2 k2⟩
   exact .inr ⟨k1.1,k2.2⟩
  rw [g ha hb]at k
  rcases k with k | k
  ·exact h4 T tr hT a b ha hb k
  exact tr a i b (h4 T tr hT a i ha hin k.1) (h4 T tr hT i b hin hb k.2)
def MR (n:Nat) (M:List (List Bool)) (a b:Nat):Prop:=a<n∧b<n∧zcn M a b=true
theorem z07 (h:Sq n M) {a b:Nat} (ha:a<n) (hb:b<n):zcn (zwj M) a b=true↔TC (MR n M) a b:=by
 obtain ⟨h1,h2,h3,h4⟩:=z08 h n (qR _)
 have e:zwj M=(List.range n).foldl (clK n) M:=by unfold zwj; rw [h.1]
 rw [e]
 constructor
 ·exact h4 (TC (MR n M)) (fun _ _ _ p q=>p.trans q) (fun a b ha hb k => .one ⟨ha,hb,k⟩) a b ha hb
 intro k
 induction k with
 | one k=>exact h2 _ _ k.1 k.2.1 k.2.2
 | tail _ k ih=>exact h3 _ _ _ k.1 ha k.2.1 (ih k.1) (h2 _ _ k.1 k.2.1 k.2.2)
end
def Cov (ws:List Wall) (level:Bool) (line i1 i2:Nat):Prop:=∃ w∈ws,w.level=level∧w.line=line∧w.fr≤i1∧(i2:Int)<w.fr+w.long
theorem Cov.app {ws vs:List Wall} {level:Bool} {line i1 i2:Nat} (h:Cov ws level line i1 i2):Cov (ws++vs) level line i1 i2:=by
 obtain ⟨w,hw,k⟩:=h
 exact ⟨w,List.mem_append_left _ hw,k⟩
theorem Cov.long {ws:List Wall} {w:Wall} {level:Bool} {line i1 i2:Nat} (h:Cov (ws++[w]) level line i1 i2):Cov (ws++[{ w with long:=w.long+1 }]) level line i1 i2:=by
 obtain ⟨v,hv,k1,k2,k3,k4⟩:=h
 rcases List.mem_append.1 hv with hv | hv
 ·exact ⟨v,List.mem_append_left _ hv,k1,k2,k3,k4⟩
 rw [List.mem_singleton]at hv
 subst hv
 exact ⟨_,List.mem_append_right _ (List.mem_singleton.2 rfl),k1,k2,k3,by simp only; omega⟩
def Run (g:List (List Int)) (level:Bool) (line i1 i2:Nat):Prop:=∀ j,i1≤j→j≤i2→zns g level line j=true
theorem zul {g:List (List Int)} {level:Bool} {line:Nat} {ws:List Wall}:∀ n,(∀ lv ln i1 i2,Cov ws lv ln i1 i2→Cov (zff g level line ws n).1 lv ln i1 i2) ∧
  (∀ i1 i2,i1≤i2→i2<n→Run g level line i1 i2→Cov (zff g level line ws n).1 level line i1 i2) ∧
  ((zff g level line ws n).2=false→∀ m,n=m+1→zns g level line m=false) ∧
  ((zff g level line ws n).2=true→∃ (ws0:List Wall) (w:Wall),(zff g level line ws n).1=ws0++[w]∧w.level=level∧w.line=(line:Int)∧w.fr+w.long=(n:Int)∧1≤w.long∧∀ i:Nat,i<n→Run g level line i (n - 1)→w.fr≤(i:Int))
 | 0=>by
  rw [z0x]
  exact ⟨fun _ _ _ _ h=>h,fun i1 i2 _ h=>by omega,fun _ m h=>by omega,fun h=>by cases h⟩
 | n+1=>by
  obtain ⟨h1,h2,h3,h4⟩:=zul (g:=g) (level:=level) (line:=line) (ws:=ws) n
  rw [zr3]
  generalize zff g level line ws n=s at h1 h2 h3 h4
  obtain ⟨l,op⟩:=s
  simp only at h1 h2 h3 h4
  cases hd:zns g level line n with
  | false =>
   have e:zj2 false level line n (l,op)=(l,false):=by simp [zj2]
   rw [e]
   refine ⟨h1,fun i1 i2 k1 k2 k3=>?_,fun _ m hm=>(by have e0:m=n:=(by omega); rw [e0]; exact hd),fun h=>by cases h⟩
   by_cases e2:i2=n
   ·subst e2
    have:=k3 i2 k1 (qR _)
    rw [hd]at this; cases this
   exact h2 i1 i2 k1 (by omega) k3
  | true =>
   cases op with
   | false =>
    have e:zj2 true level line n (l,false)=(l++[⟨level,line,n,1⟩],true):=by simp [zj2]
    rw [e]
    have hno:∀ m,n=m+1→zns g level line m=false:=h3 rfl
    have first:∀ i,i<n+1→Run g level line i n→i=n:=by
     intro i hi hr
     by_cases e2:i=n
     ·exact e2
     have:=hr (n - 1) (by omega) (by omega)
     rw [hno (n - 1) (by omega)]at this; cases this
    refine ⟨fun lv ln i1 i2 k=>(h1 lv ln i1 i2 k).app,fun i1 i2 k1 k2 k3=>?_,fun h=>(by cases h),fun _=>⟨l,_,rfl,rfl,rfl,by simp,by simp,fun i hi hr=>?_⟩⟩
    ·by_cases e2:i2=n
     ·subst e2
      obtain rfl:=first i1 (by omega) k3
      exact ⟨_,List.mem_append_right _ (List.mem_singleton.2 rfl),rfl,rfl,Int.le_refl _,by simp only; omega⟩
     exact (h2 i1 i2 k1 (by omega) k3).app
    have:=first i hi hr
    simp only; omega
   | true =>
    obtain ⟨ws0,w,rfl,w1,w2,w3,w4,w5⟩:=h4 rfl
    have e:zj2 true level line n (ws0++[w],true)=(ws0++[{ w with long:=w.long+1 }],true):=by simp [zj2]
    rw [e]
    have hfr:∀ i:Nat,i<n+1→Run g level line i n→w.fr≤(i:Int):=by
     intro i hi hr
     by_cases e2:i=n
     ·omega
     exact w5 i (by omega) fun j j1 j2=>hr j j1 (by omega)
    refine ⟨fun lv ln i1 i2 k=>(h1 lv ln i1 i2 k).long,fun i1 i2 k1 k2 k3=>?_,fun h=>(by cases h),fun _=>⟨ws0,_,rfl,w1,w2,by simp only; omega,by simp only; omega,fun i hi hr=>hfr i hi hr⟩⟩
    by_cases e2:i2=n
    ·subst e2
     have:=hfr i1 (by omega) k3
     exact ⟨_,List.mem_append_right _ (List.mem_singleton.2 rfl),w1,w2,this,by simp only; omega⟩
    exact (h2 i1 i2 k1 (by omega) k3).long
theorem zls {g:List (List Int)} {level:Bool} {places:Nat} {ws:List Wall}:∀ lines,(∀ lv ln i1 i2,Cov ws lv ln i1 i2→Cov (zet g level places ws lines) lv ln i1 i2) ∧
  (∀ line i1 i2,1≤line→line<lines→i1≤i2→i2<places→Run g level line i1 i2→Cov (zet g level places ws lines) level line i1 i2)
 | 0=>⟨fun _ _ _ _ h=>h,fun line _ _ _ h=>by omega⟩
 | k+1=>by
  obtain ⟨h1,h2⟩:=zls (g:=g) (level:=level) (places:=places) (ws:=ws) k
  by_cases hk:1≤k
  ·rw [zof hk]
   obtain ⟨l1,l2,-,-⟩:=zul (g:=g) (level:=level) (line:=k) (ws:=zet g level places ws k) places
   refine ⟨fun lv ln i1 i2 q=>l1 _ _ _ _ (h1 _ _ _ _ q),fun line i1 i2 q1 q2 q3 q4 q5=>?_⟩
   by_cases e:line=k
   ·subst e; exact l2 i1 i2 q3 q4 q5
   exact l1 _ _ _ _ (h2 line i1 i2 q1 (by omega) q3 q4 q5)
  obtain rfl:k=0:=by omega
  rw [z0w]
  exact ⟨fun _ _ _ _ h=>h,fun line _ _ q1 q2=>by omega⟩
theorem zuk {g:List (List Int)} {H W:Nat} {level:Bool} {line i1 i2:Nat} (h1:1≤line) (h2:line<if level then H else W) (h3:i1≤i2) (h4:i2<if level then W else H) (hr:Run g level line i1 i2):Cov (zoe g H W) level line i1 i2:=by
 unfold zoe
 obtain ⟨a1,a2⟩:=zls (g:=g) (level:=false) (places:=H) (ws:=[]) W
 obtain ⟨b1,b2⟩:=zls (g:=g) (level:=true) (places:=W) (ws:=zet g false H [] W) H
 cases level with
 | false=>exact b1 _ _ _ _ (a2 line i1 i2 h1 h2 h3 h4 hr)
 | true=>exact b2 line i1 i2 h1 h2 h3 h4 hr
section
variable {n:Nat}
theorem z2k {a:Int} (ha:0≤a∧a<n):∀ {bs:List Int} {M:List (List Bool)},Rm n bs→Sq n M→Sq n (ybl a bs M)∧∀ x y,zcn (ybl a bs M) x y=true↔zcn M x y=true∨(x=a.toNat∧∃ b∈bs,y=b.toNat)
 | [],M,_,h=>⟨h,fun x y=>by simp [ybl]⟩
 | b::bs,M,hb,h=>by
  have hb0:=hb b (by simp)
  obtain ⟨k1,k2⟩:=z2k ha (bs:=bs) (M:=z8l M a.toNat b.toNat true) (fun x hx=>hb x (by simp [hx])) (h.set (by omega))
  refine ⟨k1,fun x y=>?_⟩
  have e:ybl a (b::bs) M=ybl a bs (z8l M a.toNat b.toNat true):=rfl
  rw [e,k2,zw3 h (by omega) (by omega)]
  by_cases q:x=a.toNat∧y=b.toNat
  ·rw [if_pos q]; simp [q.1,q.2]
  rw [if_neg q]
  constructor
  ·rintro (k | ⟨k,c,hc,rfl⟩)
   ·exact .inl k
   exact .inr ⟨k,c,by simp [hc],rfl⟩
  rintro (k | ⟨k,c,hc,rfl⟩)
  ·exact .inl k
  rcases List.mem_cons.1 hc with rfl | hc
  ·exact absurd ⟨k,rfl⟩ q
  exact .inr ⟨k,c,hc,rfl⟩
theorem zvn {bs:List Int} (hb:Rm n bs):∀ {la:List Int} {M:List (List Bool)},Rm n la→Sq n M→Sq n (z7f M la bs)∧∀ x y,zcn (z7f M la bs) x y=true↔zcn M x y=true∨(∃ a∈la,x=a.toNat)∧∃ b∈bs,y=b.toNat
 | [],M,_,h=>⟨h,fun x y=>by simp [z7f]⟩
 | a::la,M,ha,h=>by
  obtain ⟨j1,j2⟩:=z2k (ha a (by simp)) hb h
  obtain ⟨k1,k2⟩:=zvn hb (la:=la) (M:=ybl a bs M) (fun x hx=>ha x (by simp [hx])) j1
  refine ⟨k1,fun x y=>?_⟩
  have e:z7f M (a::la) bs=z7f (ybl a bs M) la bs:=rfl
  rw [e,k2,j2]
  constructor
  ·rintro ((k | ⟨k,q⟩) | ⟨⟨c,hc,k⟩,q⟩)
   ·exact .inl k
   ·exact .inr ⟨⟨a,by simp,k⟩,q⟩
   exact .inr ⟨⟨c,by simp [hc],k⟩,q⟩
  rintro (k | ⟨⟨c,hc,k⟩,q⟩)
  ·exact .inl (.inl k)
  rcases List.mem_cons.1 hc with rfl | hc
  ·exact .inl (.inr ⟨k,q⟩)
  exact .inr ⟨⟨c,hc,k⟩,q⟩
def By (g:List (List Int)) (ws:List Wall) (lv:Bool) (x y:Nat):Prop:=∃ w∈ws,w.level=lv∧(∃ a∈(zb9 g w).1,x=a.toNat)∧∃ b∈(zb9 g w).2,y=b.toNat
theorem By.cons {g:List (List Int)} {w:Wall} {ws:List Wall} {lv:Bool} {x y:Nat}:By g (w::ws) lv x y↔(w.level=lv∧(∃ a∈(zb9 g w).1,x=a.toNat)∧∃ b∈(zb9 g w).2,y=b.toNat)∨By g ws lv x y:=by
 unfold By; simp
theorem zvg {g:List (List Int)} {nh nw:Nat} (hrm:z4q g nh nw n):∀ (ws:List Wall),(∀ w∈ws,yb6 g nh nw w)→∀ {M:List (List Bool) × List (List Bool)},Sq n M.1→Sq n M.2 →
  (Sq n (ws.foldl (z9p g) M).1∧∀ x y,zcn (ws.foldl (z9p g) M).1 x y=true↔zcn M.1 x y=true∨By g ws false x y) ∧
  (Sq n (ws.foldl (z9p g) M).2∧∀ x y,zcn (ws.foldl (z9p g) M).2 x y=true↔zcn M.2 x y=true∨By g ws true x y)
 | [],_,M,h0,h1=>⟨⟨h0,fun x y=>by simp [By]⟩,⟨h1,fun x y=>by simp [By]⟩⟩
 | w::ws,hws,M,h0,h1=>by
  obtain ⟨r1,r2⟩:=zvu hrm (hws w (by simp))
  rw [List.foldl_cons]
  cases hlv:w.level with
  | false =>
   obtain ⟨k1,k2⟩:=zvn r2 r1 h0
   have e:z9p g M w=(z7f M.1 (zb9 g w).1 (zb9 g w).2,M.2):=by unfold z9p; rw [hlv]; rfl
   rw [e]
   obtain ⟨⟨a1,a2⟩,⟨b1,b2⟩⟩:=zvg hrm ws (fun w hw=>hws w (by simp [hw])) (M:=(z7f M.1 (zb9 g w).1 (zb9 g w).2,M.2)) k1 h1
   refine ⟨⟨a1,fun x y=>?_⟩,⟨b1,fun x y=>?_⟩⟩
   ·rw [a2,k2,By.cons,hlv]; simp only[true_and,or_assoc]
   rw [b2,By.cons,hlv]; simp
  | true =>
   obtain ⟨k1,k2⟩:=zvn r2 r1 h1
   have e:z9p g M w=(M.1,z7f M.2 (zb9 g w).1 (zb9 g w).2):=by unfold z9p; rw [hlv]; rfl
   rw [e]
   obtain ⟨⟨a1,a2⟩,⟨b1,b2⟩⟩:=zvg hrm ws (fun w hw=>hws w (by simp [hw])) (M:=(M.1,z7f M.2 (zb9 g w).1 (zb9 g w).2)) h0 k1
   refine ⟨⟨a1,fun x y=>?_⟩,⟨b1,fun x y=>?_⟩⟩
   ·rw [a2,By.cons,hlv]; simp
   rw [b2,k2,By.cons,hlv]; simp only[true_and,or_assoc]
theorem zwu {x y:Nat}:zcn (zg3 n) x y=false:=by
 unfold zcn zg3
 rw [List.getElem?_replicate]
 split
 ·rw [Option.getD_some,List.getElem?_replicate]; split <;> rfl
 rfl
def cn (g:List (List Int)) (i j:Nat):Nat:=(gz g i j).toNat
theorem z4q.ne {g:List (List Int)} {nh nw:Nat} (h:z4q g nh nw n) {i j i' j':Nat} (h1:i<nh) (h2:j<nw) (h3:i'<nh) (h4:j'<nw):gz g i j≠gz g i' j'↔cn g i j≠cn g i' j':=by
 have a:=h i j h1 h2
 have b:=h i' j' h3 h4
 unfold cn
 omega
theorem zyp {g:List (List Int)} {level:Bool} {line fr long j:Nat} (h1:fr≤j) (h2:j<fr+long):(zcj g level line j).1∈(zb9 g ⟨level,line,fr,long⟩).1:=by
 simp only[zb9,Int.toNat_natCast]
 rw [zvb]
 simp only[znq,List.mem_map,List.mem_range]
 exact ⟨j - fr,by omega,by rw [show fr+(j - fr)=j by omega]⟩
theorem zyq {g:List (List Int)} {level:Bool} {line fr long j:Nat} (h1:fr≤j) (h2:j<fr+long):(zcj g level line j).2∈(zb9 g ⟨level,line,fr,long⟩).2:=by
 simp only[zb9,Int.toNat_natCast]
 rw [zvb]
 simp only[znq,List.mem_map,List.mem_range]
 exact ⟨j - fr,by omega,by rw [show fr+(j - fr)=j by omega]⟩
theorem z2u {g:List (List Int)} {level:Bool} {line fr long:Nat} {x:Int} (h:x∈(zb9 g ⟨level,line,fr,long⟩).1):∃ j,fr≤j∧j<fr+long∧x=(zcj g level line j).1:=by
 simp only[zb9,Int.toNat_natCast]at h
 rw [zvb]at h
 simp only[znq,List.mem_map,List.mem_range]at h
 obtain ⟨j,hj,rfl⟩:=h
 exact ⟨fr+j,by omega,by omega,rfl⟩
theorem z2v {g:List (List Int)} {level:Bool} {line fr long:Nat} {x:Int} (h:x∈(zb9 g ⟨level,line,fr,long⟩).2):∃ j,fr≤j∧j<fr+long∧x=(zcj g level line j).2:=by
 simp only[zb9,Int.toNat_natCast]at h
 rw [zvb]at h
 simp only[znq,List.mem_map,List.mem_range]at h
 obtain ⟨j,hj,rfl⟩:=h
 exact ⟨fr+j,by omega,by omega,rfl⟩
theorem yca {g:List (List Int)} {nh nw:Nat} (h:z4q g nh nw n) {x y:Nat}:By g (zoe g nh nw) false x y↔DL (cn g) nh nw x y:=by
 constructor
 ·rintro ⟨w,hw,hlv,⟨a,ha,rfl⟩,b,hb,rfl⟩
  obtain ⟨line,fr,long,he,hl,hin⟩:=ziy w hw
  rw [hlv]at he hin
  subst he
  obtain ⟨j1,p1,p2,rfl⟩:=z2u ha
  obtain ⟨j2,q1,q2,rfl⟩:=z2v hb
  have i1:=(hin j1 p1 p2).1
  have i2:=(hin j2 q1 q2).1
  unfold InL at i1 i2
  simp only[qF,if_false]at i1 i2
  obtain ⟨L,rfl⟩:∃ L,line=L+1:=⟨line - 1,by omega⟩
  refine ⟨L,j1,j2,i1.2.1,i1.2.2,i2.2.2,fun r r1 r2=>?_,?_,?_⟩
  ·have hr:=hin r (by omega) (by omega)
   have hr1:=hr.1
   unfold InL at hr1
   simp only[qF,if_false]at hr1
   have hr2:=hr.2
   unfold zns zcj at hr2
   simp only[qF,if_false,decide_eq_true_eq,Nat.add_sub_cancel]at hr2
   exact (h.ne hr1.2.2 (by omega) hr1.2.2 hr1.2.1).1 hr2
  ·simp [zcj,cn]
  simp [zcj,cn]
 rintro ⟨L,i1,i2,h1,h2,h3,run,rfl,rfl⟩
 have hrun:Run g false (L+1) (min i1 i2) (max i1 i2):=by
  intro r r1 r2
  have:=run r r1 r2
  rw [← h.ne (by omega) (by omega) (by omega) h1]at this
  unfold zns zcj
  simpa using this
 obtain ⟨w,hw,w1,w2,w3,w4⟩:=zuk (g:=g) (H:=nh) (W:=nw) (level:=false) (line:=L+1) (by omega) (by simpa using h1) (by omega) (by simp only[qF,if_false]; omega) hrun
 obtain ⟨line,fr,long,he,hl,hin⟩:=ziy w hw
 rw [w1]at he
 subst he
 simp only at w2 w3 w4
 obtain rfl:line=L+1:=by omega
 refine ⟨_,hw,rfl,⟨_,zyp (j:=i1) (by omega) (by omega),?_⟩,_,zyq (j:=i2) (by omega) (by omega),?_⟩
 ·simp [zcj,cn]
 simp [zcj,cn]
theorem z8z {g:List (List Int)} {nh nw:Nat} (h:z4q g nh nw n) {x y:Nat}:By g (zoe g nh nw) true x y↔DU (cn g) nh nw x y:=by
 constructor
 ·rintro ⟨w,hw,hlv,⟨a,ha,rfl⟩,b,hb,rfl⟩
  obtain ⟨line,fr,long,he,hl,hin⟩:=ziy w hw
  rw [hlv]at he hin
  subst he
  obtain ⟨j1,p1,p2,rfl⟩:=z2u ha
  obtain ⟨j2,q1,q2,rfl⟩:=z2v hb
  have i1:=(hin j1 p1 p2).1
  have i2:=(hin j2 q1 q2).1
  unfold InL at i1 i2
  simp only[if_true]at i1 i2
  obtain ⟨L,rfl⟩:∃ L,line=L+1:=⟨line - 1,by omega⟩
  refine ⟨L,j1,j2,i1.2.1,i1.2.2,i2.2.2,fun r r1 r2=>?_,?_,?_⟩
  ·have hr:=hin r (by omega) (by omega)
   have hr1:=hr.1
   unfold InL at hr1
   simp only[if_true]at hr1
   have hr2:=hr.2
   unfold zns zcj at hr2
   simp only[if_true,decide_eq_true_eq,Nat.add_sub_cancel]at hr2
   exact (h.ne (by omega) hr1.2.2 hr1.2.1 hr1.2.2).1 hr2
  ·simp [zcj,cn]
  simp [zcj,cn]
 rintro ⟨L,i1,i2,h1,h2,h3,run,rfl,rfl⟩
 have hrun:Run g true (L+1) (min i1 i2) (max i1 i2):=by
  intro r r1 r2
  have:=run r r1 r2
  rw [← h.ne (by omega) (by omega) h1 (by omega)]at this
  unfold zns zcj
  simpa using this
 obtain ⟨w,hw,w1,w2,w3,w4⟩:=zuk (g:=g) (H:=nh) (W:=nw) (level:=true) (line:=L+1) (by omega) (by simpa using h1) (by omega) (by simp only[if_true]; omega) hrun
 obtain ⟨line,fr,long,he,hl,hin⟩:=ziy w hw
 rw [w1]at he
 subst he
 simp only at w2 w3 w4
 obtain rfl:line=L+1:=by omega
 refine ⟨_,hw,rfl,⟨_,zyp (j:=i1) (by omega) (by omega),?_⟩,_,zyq (j:=i2) (by omega) (by omega),?_⟩
 ·simp [zcj,cn]
 simp [zcj,cn]
theorem zr6 {g:List (List Int)} {nh nw:Nat} (h:z4q g nh nw n) {i j:Nat} (hi:i<nh) (hj:j<nw):cn g i j<n:=by
 have:=h i j hi hj
 unfold cn; omega
theorem ycv {g:List (List Int)} {nh nw:Nat} (h:z4q g nh nw n) {a b:Nat} (ha:a<n) (hb:b<n):zcn (ycu g nh nw n) a b=true↔TC (DL (cn g) nh nw) a b:=by
 obtain ⟨⟨k1,k2⟩,-⟩:=zvg h (zoe g nh nw) ziy (M:=(zg3 n,zg3 n)) (zij n) (zij n)
 have hd:∀ x y,zcn (ybi g nh nw n).1 x y=true↔DL (cn g) nh nw x y:=fun x y=>by
  unfold ybi; rw [k2,yca h]; simp [zwu]
 unfold ycu
 have k3:Sq n (ybi g nh nw n).1:=k1
 rw [z07 k3 ha hb]
 constructor
 ·exact TC.mono fun x y q=>(hd x y).1 q.2.2
 refine TC.mono fun x y q=>⟨?_,?_,(hd x y).2 q⟩
 ·obtain ⟨j,i1,i2,q1,q2,q3,-,rfl,-⟩:=q
  exact zr6 h q2 (by omega)
 obtain ⟨j,i1,i2,q1,q2,q3,-,-,rfl⟩:=q
 exact zr6 h q3 q1
theorem z8t {g:List (List Int)} {nh nw:Nat} (h:z4q g nh nw n) {a b:Nat} (ha:a<n) (hb:b<n):zcn (z4r g nh nw n) a b=true↔TC (DU (cn g) nh nw) a b:=by
 obtain ⟨-,⟨k1,k2⟩⟩:=zvg h (zoe g nh nw) ziy (M:=(zg3 n,zg3 n)) (zij n) (zij n)
 have hd:∀ x y,zcn (ybi g nh nw n).2 x y=true↔DU (cn g) nh nw x y:=fun x y=>by
  unfold ybi; rw [k2,z8z h]; simp [zwu]
 unfold z4r
 have k3:Sq n (ybi g nh nw n).2:=k1
 rw [z07 k3 ha hb]
 constructor
 ·exact TC.mono fun x y q=>(hd x y).1 q.2.2
 refine TC.mono fun x y q=>⟨?_,?_,(hd x y).2 q⟩
 ·obtain ⟨j,i1,i2,q1,q2,q3,-,rfl,-⟩:=q
  exact zr6 h (by omega) q2
 obtain ⟨j,i1,i2,q1,q2,q3,-,-,rfl⟩:=q
 exact zr6 h q1 q3
end
end
section
theorem zx6 {p:List Txt} {i:Nat}:∀ {w:Nat},zk3 p 4 i w=0→∀ k,1≤k→k<w→zva p i k≠4
 | w+1,h,k,h1,h2=>by
  have hb:=(zhq p 4 i w).1
  unfold zk3 at h
  by_cases e:k=w
  ·subst e
   intro q
   rw [if_pos ⟨h1,q⟩]at h
   omega
  have h0:zk3 p 4 i w=0:=by split at h <;> omega
  exact zx6 h0 k h1 (by omega)
theorem z2g {p:List Txt} {w:Nat}:∀ {n:Nat},zx7 p 4 w n=0→∀ i,1≤i→i<n→zk3 p 4 i w=0
 | n+1,h,i,h1,h2=>by
  have hb:0≤zx7 p 4 w n:=by
   clear h h1 h2
   induction n with
   | zero=>simp [zx7]
   | succ n ih =>
    have:=(zhq p 4 n w).1
    unfold zx7; split <;> omega
  have hr:=(zhq p 4 n w).1
  unfold zx7 at h
  by_cases e:i=n
  ·subst e
   rw [if_pos h1]at h
   omega
  have h0:zx7 p 4 w n=0:=by split at h <;> omega
  exact z2g h0 i h1 (by omega)
theorem z4i {a b:UInt8} (h:(a.toNat:Int) - 97≠(b.toNat:Int) - 97):a≠b:=by
 rintro rfl; exact h rfl
theorem z3q {p:List Txt} (hg:zb3 p=true) {i k:Nat} (hi:i+1<p.length) (hk:k+1<(zal p).length) (h1:zah p i k≠zah p i (k+1)) (h2:zah p i k≠zah p (i+1) k) (h3:zah p i k≠zah p (i+1) (k+1))
  (h4:zah p i (k+1)≠zah p (i+1) k) (h5:zah p i (k+1)≠zah p (i+1) (k+1)) (h6:zah p (i+1) k≠zah p (i+1) (k+1)):zva p (i+1) (k+1)=4:=by
 obtain ⟨r1,hr1,-⟩:=zaf (show i<p.length by omega)
 obtain ⟨r2,hr2,-⟩:=zaf hi
 have e1:=zd3 hg hr1
 have e2:=zd3 hg hr2
 obtain ⟨a,ha,-⟩:=zaf (show k<r1.length by omega)
 obtain ⟨b,hb,-⟩:=zaf (show k+1<r1.length by omega)
 obtain ⟨c,hc,-⟩:=zaf (show k<r2.length by omega)
 obtain ⟨d,hd,-⟩:=zaf (show k+1<r2.length by omega)
 rw [zcx hr1 ha]at h1 h2 h3
 rw [zcx hr1 hb]at h1 h4 h5
 rw [zcx hr2 hc]at h2 h4 h6
 rw [zcx hr2 hd]at h3 h5 h6
 have n1:=z4i h1
 have n2:=z4i h2
 have n3:=z4i h3
 have n4:=z4i h4
 have n5:=z4i h5
 have n6:=z4i h6
 unfold zva
 simp only[Nat.add_sub_cancel,hr1,hr2,ha,hb,hc,hd]
 simp [zqa,yej,yek,Ne.symm n1,Ne.symm n2,Ne.symm n3,Ne.symm n4,Ne.symm n5,Ne.symm n6]
theorem zld {p:List Txt} (hp:zaz p=true) {i j:Nat} (hi:i<p.length) (hj:j<(zal p).length):(cn (gP p) i j:Int)=zah p i j:=by
 have hN:=zdi hp
 have:=hN.room hi hj
 unfold cn
 rw [hN.cell hi hj]; omega
theorem z64 {p:List Txt} (hp:zhp p=true):Pl (cn (gP p)) p.length (zal p).length:=by
 have hpl:=z3z hp
 have hN:=zdi hpl
 have rect:∀ {i j i' j':Nat} (k l:Nat),i<p.length→i'<p.length→j<(zal p).length→j'<(zal p).length→cn (gP p) i j=cn (gP p) i' j'→min i i'≤k→k≤max i i'→min j j'≤l→l≤max j j'→cn (gP p) k l=cn (gP p) i j:=by
  intro i j i' j' k l h1 h2 h3 h4 e h5 h6 h7 h8
  have e1:=zld hpl h1 h3
  have e2:=zld hpl h2 h4
  have e3:=zld hpl (show k<p.length by omega) (show l<(zal p).length by omega)
  obtain ⟨b,hb,q1,-,c1⟩:=zmc hpl h1 h3
  obtain ⟨b',hb',q2,-,-⟩:=zmc hpl h2 h4
  have e4:zah p i j=zah p i' j':=by omega
  rw [e4,hb']at hb
  obtain rfl:=Option.some.inj hb
  have q3:inB b' k l=true:=by
   unfold inB at q1 q2 ⊢
   simp only[qB,decide_eq_true_eq]at q1 q2 ⊢
   omega
  have:=c1 k l (by omega) (by omega) q3
  omega
 refine ⟨rect,fun {i j} h1 h2 n1 n2 n3=>Classical.byContradiction fun n4=>?_⟩
 have h0:points p 4=0:=by
  unfold zhp at hp
  simp only[qB,decide_eq_true_eq]at hp
  exact hp.2
 have hno:=zx6 (z2g h0 (i+1) (by omega) h1) (j+1) (by omega) h2
 have n5:cn (gP p) i j≠cn (gP p) (i+1) (j+1):=by
  intro e
  exact n1 (rect i (j+1) (by omega) h1 (by omega) h2 e (by omega) (by omega) (by omega) (by omega)).symm
 have n6:cn (gP p) i (j+1)≠cn (gP p) (i+1) j:=by
  intro e
  exact n1 (rect i j (by omega) h1 h2 (by omega) e (by omega) (by omega) (by omega) (by omega))
 have c1:=zld hpl (show i<p.length by omega) (show j<(zal p).length by omega)
 have c2:=zld hpl (show i<p.length by omega) h2
 have c3:=zld hpl h1 (show j<(zal p).length by omega)
 have c4:=zld hpl h1 h2
 exact hno (z3q hN.hg h1 h2 (by omega) (by omega) (by omega) (by omega) (by omega) (by omega))
theorem zyg {p:List Txt} {a:Nat} (ha:a<(rP p).length):∃ i j,i<p.length∧j<(zal p).length∧cn (gP p) i j=a:=by
 have hi:=zgp p
 obtain ⟨b,hb,-⟩:=zaf ha
 obtain ⟨v,hv,-⟩:=zaf (show a<(keys p).length by rw [← hi.len]; exact ha)
 obtain ⟨i,j,⟨hz,hj,hij⟩,-⟩:=(hi.hull a v b hv hb).at_
 have hi2:i<p.length:=by omega
 refine ⟨i,j,hi2,hj,?_⟩
 unfold cn
 rw [z5p hi2 hj,hz,Int.toNat_natCast]
 have hlt:¬ (keys p).idxOf v=(keys p).length:=by
  have:=List.idxOf_lt_length_iff.2 (List.mem_of_getElem? hv)
  omega
 exact zq7 hi.nd (zin hlt) hv
def lfM (p:List Txt):List (List Bool):=ycu (gP p) p.length (zal p).length (rP p).length
def abM (p:List Txt):List (List Bool):=z4r (gP p) p.length (zal p).length (rP p).length
def Lf (p:List Txt) (a b:Nat):Prop:=zcn (lfM p) a b=true
def Ab (p:List Txt) (a b:Nat):Prop:=zcn (abM p) a b=true
section
variable {p:List Txt} {a b d:Nat}
theorem Lf.iff (ha:a<(rP p).length) (hb:b<(rP p).length):Lf p a b↔TC (DL (cn (gP p)) p.length (zal p).length) a b:=ycv zi0 ha hb
theorem Ab.iff (ha:a<(rP p).length) (hb:b<(rP p).length):Ab p a b↔TC (DU (cn (gP p)) p.length (zal p).length) a b:=z8t zi0 ha hb
theorem Lf.trans (ha:a<(rP p).length) (hb:b<(rP p).length) (hd:d<(rP p).length) (h:Lf p a b) (k:Lf p b d):Lf p a d:=by
 rw [Lf.iff ha hd]; exact ((Lf.iff ha hb).1 h).trans ((Lf.iff hb hd).1 k)
theorem Ab.trans (ha:a<(rP p).length) (hb:b<(rP p).length) (hd:d<(rP p).length) (h:Ab p a b) (k:Ab p b d):Ab p a d:=by
 rw [Ab.iff ha hd]; exact ((Ab.iff ha hb).1 h).trans ((Ab.iff hb hd).1 k)
theorem zz0 (hp:zhp p=true):∃ f g:Nat→Nat,∀ a b,a<(rP p).length→b<(rP p).length→(Lf p a b→f a<f b∧g a<g b)∧(Ab p a b→f a<f b∧g b<g a):=by
 have hpl:=z64 hp
 obtain ⟨f,hf⟩:=z10 hpl (n:=(rP p).length) (fun i j hi hj=>zr6 zi0 hi hj)
 obtain ⟨g,hg⟩:=z6r hpl (n:=(rP p).length) (fun i j hi hj=>zr6 zi0 hi hj)
 refine ⟨f,g,fun a b ha hb=>⟨fun h=>?_,fun h=>?_⟩⟩
 ·rw [Lf.iff ha hb]at h
  exact ⟨h.rise fun a b k=>hf a b (.inl k),h.rise fun a b k=>hg a b (.inl k)⟩
 rw [Ab.iff ha hb]at h
 exact ⟨h.rise fun a b k=>hf a b (.inr k),(h.rev (S:=fun x y=>DU (cn (gP p)) p.length (zal p).length y x) fun _ _ k=>k).rise fun a b k=>hg a b (.inr k)⟩
theorem z3t (hp:zhp p=true) (ha:a<(rP p).length) (hb:b<(rP p).length) (hne:a≠b):Lf p a b∨Lf p b a∨Ab p a b∨Ab p b a:=by
 obtain ⟨i,j,h1,h2,e1⟩:=zyg ha
 obtain ⟨k,l,h3,h4,e2⟩:=zyg hb
 have:=yah (z64 hp) h1 h2 h3 h4 (by rw [e1,e2]; exact hne)
 rw [e1,e2]at this
 rw [Lf.iff ha hb,Lf.iff hb ha,Ab.iff ha hb,Ab.iff hb ha]
 exact this
end
end
section
section
variable {M:List (List Bool)} {ms:List Nat} {ws:List Int} {n:Nat} {rk:Nat→Nat}
def revM (n:Nat) (M:List (List Bool)):List (List Bool):=(List.range n).map fun a=>(List.range n).map fun b=>zcn M b a
def bhB (sets:List Nat) (needs:List Int) (a:Nat) (out:List Int) (b:Nat):List Int :=
 if z8w sets a b then out.set a (max (zjl out a) (zjl out b+zjl needs b)) else out
def bhA (sets:List Nat) (needs:List Int) (out:List Int) (a:Nat):List Int:=(List.range needs.length).foldl (bhB sets needs a) out
def bhN (sets:List Nat) (needs:List Int) (out:List Int) (_:Nat):List Int:=(List.range needs.length).foldl (bhA sets needs) out
def behind (sets:List Nat) (needs:List Int):List Int:=(List.range needs.length).foldl (bhN sets needs) (List.replicate needs.length 0)
end
end
def domB (x:Int × Int) (w h:Int):Bool:=decide (x.1≤w) && decide (x.2≤h)
def yc2 (w h:Int) (s:List (Int × Int) × Bool) (x:Int × Int):List (Int × Int) × Bool :=
 if w≤x.1∧h≤x.2 then s else if s.2=false∧w<x.1 then (s.1++[(w,h),x],true) else (s.1++[x],s.2)
def yfk (l:List (Int × Int)) (w h:Int):List (Int × Int) × Bool:=l.foldl (yc2 w h) ([],false)
def put (l:List (Int × Int)) (w h:Int):List (Int × Int):=if l.any (fun x=>domB x w h) then l else if (yfk l w h).2 then (yfk l w h).1 else (yfk l w h).1++[(w,h)]
section
section
variable {M:List (List Bool)} {ws:List Int} {n:Nat} {rk:Nat→Nat}
theorem yd5 (b:Nat):0≤beg M ws n b:=z5w n
theorem yd4 {a b:Nat} (ha:a<n) (h:zcn M a b=true):HB M ws n a≤beg M ws n b:=ya2 ha h
end
end
def Pat (g1 g2:List (List Int)) (H W:Nat):Prop:=∀ i j i' j',i<H→j<W→i'<H→j'<W→(gz g1 i j=gz g1 i' j'↔gz g2 i j=gz g2 i' j')
theorem Pat.symm {g1 g2:List (List Int)} {H W:Nat} (h:Pat g1 g2 H W):Pat g2 g1 H W:=fun i j i' j' a b c d=>(h i j i' j' a b c d).symm
theorem Pat.trans {g1 g2 g3:List (List Int)} {H W:Nat} (h:Pat g1 g2 H W) (k:Pat g2 g3 H W):Pat g1 g3 H W:=fun i j i' j' a b c d=>(h i j i' j' a b c d).trans (k i j i' j' a b c d)
structure KC (g1 g2:List (List Int)) (H W:Nat) (k1 k2:List Int):Prop where
 len:k1.length=k2.length
 at_:∀ i j,i<H→j<W→k1.idxOf (gz g1 i j)=k2.idxOf (gz g2 i j)
theorem ztm {l:List Int} {z x:Int} (h:l.idxOf x=l.length):(l++[z]).idxOf x=if x=z then l.length else l.length+1:=by
 have hn:=zqr h
 rw [List.idxOf_append,if_neg hn]
 by_cases e:x=z
 ·subst e; simp
 rw [if_neg e]
 have e2:(z == x)=false:=by simpa using fun h=>e h.symm
 simp [List.idxOf_cons,e2]
 omega
theorem KC.step {g1 g2:List (List Int)} {H W:Nat} (hp:Pat g1 g2 H W) {k1 k2:List Int} (h:KC g1 g2 H W k1 k2) {a b:Nat} (ha:a<H) (hb:b<W):KC g1 g2 H W (ziu k1 (gz g1 a b)) (ziu k2 (gz g2 a b)):=by
 have h1:=h.at_ a b ha hb
 unfold ziu
 by_cases e:k1.idxOf (gz g1 a b)=k1.length
 ·have e2:k2.idxOf (gz g2 a b)=k2.length:=by rw [← h1,e,h.len]
  rw [if_pos e,if_pos e2]
  refine ⟨by simp [h.len],fun i j hi hj=>?_⟩
  have h2:=h.at_ i j hi hj
  have hpt:=hp i j a b hi hj ha hb
  by_cases q:k1.idxOf (gz g1 i j)=k1.length
  ·have q2:k2.idxOf (gz g2 i j)=k2.length:=by rw [← h2,q,h.len]
   rw [ztm q,ztm q2,h.len]
   by_cases r:gz g1 i j=gz g1 a b
   ·rw [if_pos r,if_pos (hpt.1 r)]
   rw [if_neg r,if_neg fun x=>r (hpt.2 x)]
  have q2:¬ k2.idxOf (gz g2 i j)=k2.length:=by rw [← h2,← h.len]; exact q
  rw [zqq q,zqq q2,h2]
 have e2:¬ k2.idxOf (gz g2 a b)=k2.length:=by rw [← h1,← h.len]; exact e
 rw [if_neg e,if_neg e2]
 exact h
theorem z7v {k1 k2 rs:List Int} {R:List Rect} {z1 z2:Int} {q:Rect} (hl:k1.length=k2.length) (hi:k1.idxOf z1=k2.idxOf z2):zpv k1 R z1 q=zpv k2 R z2 q:=by
 unfold zpv zjc
 rw [hl,hi]
theorem znh {g1 g2:List (List Int)} {H W:Nat} (hp:Pat g1 g2 H W) {i:Nat} (hi:i<H) {s1 s2:List Int × List Rect} (h:KC g1 g2 H W s1.1 s2.1) (hr:s1.2=s2.2):∀ j,j≤W →
  KC g1 g2 H W (zdb g1 i s1 j).1 (zdb g2 i s2 j).1∧(zdb g1 i s1 j).2=(zdb g2 i s2 j).2
 | 0,_=>⟨h,hr⟩
 | j+1,hj=>by
  obtain ⟨h1,h2⟩:=znh hp hi h hr j (by omega)
  unfold zdb
  refine ⟨h1.step hp hi (by omega),?_⟩
  show zpv _ _ _ _=zpv _ _ _ _
  rw [h2]
  exact z7v (rs:=[]) h1.len (h1.at_ i j hi (by omega))
theorem zlo {g1 g2:List (List Int)} {H W:Nat} (hp:Pat g1 g2 H W):∀ i,i≤H→KC g1 g2 H W (zak g1 W i).1 (zak g2 W i).1∧(zak g1 W i).2=(zak g2 W i).2
 | 0,_=>⟨⟨rfl,fun _ _ _ _=>rfl⟩,rfl⟩
 | i+1,hi=>by
  obtain ⟨h1,h2⟩:=zlo hp i (by omega)
  exact znh hp (by omega) h1 h2 W (qR _)
theorem zy4 {g1 g2:List (List Int)} {H W:Nat} (hp:Pat g1 g2 H W) {i:Nat} (hi:i<H) {s1 s2:List Int × List Rect} (h:KC g1 g2 H W s1.1 s2.1) (hr:s1.2=s2.2):∀ j,j≤W→znm g1 i s1 j=znm g2 i s2 j
 | 0,_=>rfl
 | j+1,hj=>by
  unfold znm
  rw [zy4 hp hi h hr j (by omega),(znh hp hi h hr j (by omega)).1.at_ i j hi (by omega)]
theorem zun {g1 g2:List (List Int)} {H W:Nat} (hp:Pat g1 g2 H W):∀ i,i≤H→zd1 g1 W i=zd1 g2 W i
 | 0,_=>rfl
 | i+1,hi=>by
  obtain ⟨h1,h2⟩:=zlo hp i (by omega)
  unfold zd1
  rw [zun hp i (by omega),zy4 hp (by omega) h1 h2 W (qR _)]
theorem GW.w0 {g:List (List Int)} {H W:Nat} (h:GW g H W):w0 g=W:=by
 obtain ⟨row,hrow,hl,-⟩:=h.at_ (show 0<H by have:=h.2.2.1; omega) (show 0<W by have:=h.2.2.2.2.1; omega)
 rw [yam hrow,hl]
theorem GW.zG {g:List (List Int)} {H W:Nat} (h:GW g H W):zG g=zd1 g W H∧stG g=zak g W H:=by
 unfold Fw.zG stG; rw [h.w0,h.1]; exact ⟨rfl,rfl⟩
theorem ydq {g:List (List Int)} {H W i j:Nat} (h:GW g H W) (hi:i<H) (hj:j<W):gz (zG g) i j=(((zak g W H).1.idxOf (gz g i j):Nat):Int):=by
 rw [h.zG.1]
 unfold gz
 rw [zkr hi,Option.getD_some,z0y hj,Option.getD_some]
 congr 1
 exact zNum hi hj
theorem z23 {g:List (List Int)} {H W:Nat} (h:GW g H W):GW (zG g) H W:=by
 rw [h.zG.1]
 refine ⟨zcc _,fun r hr=>?_,h.2.2⟩
 obtain ⟨k,hk⟩:=List.getElem?_of_mem hr
 have:=zc1 hk
 rw [zcc]at this
 rw [zkr this]at hk
 cases hk
 exact zeu _
theorem z8i {g:List (List Int)} {H W i j:Nat} (hi:i<H) (hj:j<W):gz g i j∈(zak g W H).1:=(SeInv.rows (g:=g) (W:=W) H).mem i j (zpg hi hj)
theorem ye8 {g:List (List Int)} {H W:Nat} (h:GW g H W):Pat (zG g) g H W:=by
 intro i j i' j' hi hj hi' hj'
 rw [ydq h hi hj,ydq h hi' hj']
 constructor
 ·intro e
  have h1:=zin (ks:=(zak g W H).1) (z:=gz g i j) (by have:=List.idxOf_lt_length_iff.2 (z8i (g:=g) hi hj); omega)
  have h2:=zin (ks:=(zak g W H).1) (z:=gz g i' j') (by have:=List.idxOf_lt_length_iff.2 (z8i (g:=g) hi' hj'); omega)
  rw [show (zak g W H).1.idxOf (gz g i j)=(zak g W H).1.idxOf (gz g i' j') by omega,h2]at h1
  exact (Option.some.inj h1).symm
 intro e; rw [e]
theorem yf9 {g:List (List Int)} {H W i j:Nat} (h:GW g H W) (hi:i<H) (hj:j<W):0≤gz (zG g) i j∧gz (zG g) i j<(zak g W H).2.length:=by
 rw [ydq h hi hj]
 have h1:=List.idxOf_lt_length_iff.2 (z8i (g:=g) hi hj)
 have h2:=(SeInv.rows (g:=g) (W:=W) H).len
 omega
theorem zub {g:List (List Int)} {H W i j:Nat} (h:GW g H W) (hi:i<H) (hj:j<W) (h0:0≤gz g i j) (h1:gz g i j≤100):gz (zbm (zeh g)) i j=gz g i j+97:=by
 obtain ⟨row,hrow,hl,hx⟩:=h.at_ hi hj
 have e1:(zbm (zeh g))[i]?=some (zwc (zom row)):=by simp [zbm,zkp hrow]
 have e2:(zwc (zom row))[j]?=some ((z4l (gz g i j)).toNat:Int):=by simp [zwc,zom,hx]
 have e3:gz (zbm (zeh g)) i j=((z4l (gz g i j)).toNat:Int):=by
  conv=>lhs; unfold gz
  rw [e1,Option.getD_some,e2,Option.getD_some]
 rw [e3]
 unfold z4l
 rw [UInt8.toNat_ofNat_of_lt' (by show 97+(gz g i j).toNat<256; omega)]
 omega
theorem z77 {g:List (List Int)} {H W:Nat} (h:GW g H W):(zeh g).length=H∧(zal (zeh g)).length=W:=by
 refine ⟨by rw [zyw,h.1],?_⟩
 obtain ⟨row,hrow,hl,-⟩:=h.at_ (show 0<H by have:=h.2.2.1; omega) (show 0<W by have:=h.2.2.2.2.1; omega)
 rw [zca (zkp hrow)]
 simp [zom,hl]
theorem z76 {g:List (List Int)} {H W:Nat} (h:GW g H W) (hz:∀ i j,i<H→j<W→0≤gz g i j∧gz g i j<26):zb3 (zeh g)=true:=by
 obtain ⟨t1,t2⟩:=z77 h
 unfold zb3
 rw [t1,t2]
 have h2:=h.2.2
 have:(zeh g).all (zr5 W)=true:=by
  rw [List.all_eq_true]
  intro r hr
  obtain ⟨i,hi⟩:=List.getElem?_of_mem hr
  have hil:=zc1 hi
  rw [t1]at hil
  obtain ⟨row,hrow,hrm⟩:=zaf (show i<g.length by rw [h.1]; exact hil)
  have hrl:=h.2.1 row hrm
  rw [zkp hrow]at hi
  cases hi
  unfold zr5
  simp only[qB,decide_eq_true_eq,List.all_eq_true]
  refine ⟨⟨⟨by simp [zom,hrl],by simp [zom]; omega⟩,by simp [zom]; omega⟩,fun c hc=>?_⟩
  obtain ⟨z,hzm,rfl⟩:=List.mem_map.1 hc
  obtain ⟨j,hj⟩:=List.getElem?_of_mem hzm
  have hjl:=zc1 hj
  have e:gz g i j=z:=by simp [gz,hrow,hj]
  have:=hz i j hil (by omega)
  rw [e]at this
  unfold zcb z4l
  rw [UInt8.toNat_ofNat_of_lt' (by show 97+z.toNat<256; omega)]
  simp only[qB,decide_eq_true_eq]
  omega
 rw [this]
 simp only[Bool.true_and,qB,decide_eq_true_eq]
 omega
def nm (g:List (List Int)):List Txt:=zeh (zG g)
structure NmOk (g:List (List Int)) (H W:Nat):Prop where
 gw:GW g H W
 le:(zak g W H).2.length≤9
theorem NmOk.bound {g:List (List Int)} {H W:Nat} (h:NmOk g H W) {i j:Nat} (hi:i<H) (hj:j<W):0≤gz (zG g) i j∧gz (zG g) i j≤8:=by
 have h1:=yf9 h.gw hi hj
 have h2:=h.le
 omega
theorem NmOk.hd {g:List (List Int)} {H W:Nat} (h:NmOk g H W):(nm g).length=H∧(zal (nm g)).length=W:=z77 (z23 h.gw)
theorem NmOk.pat {g:List (List Int)} {H W:Nat} (h:NmOk g H W):Pat (zbm (nm g)) g H W:=by
 refine Pat.trans (fun i j i' j' hi hj hi' hj'=>?_) (ye8 h.gw)
 have b1:=h.bound hi hj
 have b2:=h.bound hi' hj'
 unfold nm
 rw [zub (z23 h.gw) hi hj b1.1 (by omega),zub (z23 h.gw) hi' hj' b2.1 (by omega)]
 constructor <;> intro e <;> omega
theorem NmOk.gP {g:List (List Int)} {H W:Nat} (h:NmOk g H W):gP (nm g)=zG g∧rP (nm g)=(zak g W H).2:=by
 rw [z3h,z91,h.hd.1,h.hd.2,h.gw.zG.1]
 exact ⟨zun h.pat H (qR _),(zlo h.pat H (qR _)).2⟩
theorem NmOk.named {g:List (List Int)} {H W:Nat} (h:NmOk g H W):Named (nm g):=by
 refine ⟨z76 (z23 h.gw) fun i j hi hj=>by have:=h.bound hi hj; omega,?_⟩
 rw [h.gP.1]; rfl
theorem NmOk.cell {g:List (List Int)} {H W:Nat} (h:NmOk g H W) {i j:Nat} (hi:i<H) (hj:j<W):zah (nm g) i j=gz (zG g) i j:=by
 rw [← h.named.cell (by rw [h.hd.1]; exact hi) (by rw [h.hd.2]; exact hj),h.gP.1]
structure Cells (c:Nat→Nat→Nat) (g:List (List Int)) (H W:Nat):Prop where
 gw:GW g H W
 at_:∀ i j,i<H→j<W→gz g i j=((c i j:Nat):Int)
structure Ren (c:Nat→Nat→Nat) (H W:Nat) (t:List Txt):Prop where
 hl:t.length=H
 wl:(zal t).length=W
 pat:∀ i j i' j',i<H→j<W→i'<H→j'<W→(cn (gP t) i j=cn (gP t) i' j'↔c i j=c i' j')
section
variable {c c':Nat→Nat→Nat} {H W:Nat}
theorem TC.map {R S:Nat→Nat→Prop} {f:Nat→Nat} (h:∀ a b,R a b→S (f a) (f b)) {a b:Nat} (k:TC R a b):TC S (f a) (f b):=by
 induction k with
 | one k=>exact .one (h _ _ k)
 | tail _ k ih=>exact .tail ih (h _ _ k)
structure Iso (p t:List Txt) (L U:Nat→Nat→Prop) (σ:Nat→Nat):Prop where
 pl:zhp t=true
 n:(rP t).length=(rP p).length
 lt:∀ a,a<(rP p).length→σ a<(rP p).length
 inj:∀ a b,a<(rP p).length→b<(rP p).length→σ a=σ b→a=b
 lf:∀ a b,a<(rP p).length→b<(rP p).length→(Lf t (σ a) (σ b)↔L a b)
 ab:∀ a b,a<(rP p).length→b<(rP p).length→(Ab t (σ a) (σ b)↔U a b)
theorem Iso.imp {p t:List Txt} {L U L' U':Nat→Nat→Prop} {σ:Nat→Nat} (h:Iso p t L U σ) (hL:∀ a b,a<(rP p).length→b<(rP p).length→(L a b↔L' a b)) (hU:∀ a b,a<(rP p).length→b<(rP p).length→(U a b↔U' a b)):Iso p t L' U' σ :=
 ⟨h.pl,h.n,h.lt,h.inj,fun a b ha hb=>(h.lf a b ha hb).trans (hL a b ha hb),fun a b ha hb=>(h.ab a b ha hb).trans (hU a b ha hb)⟩
structure Fold1 (f:Nat→Nat) (m n:Nat):Prop where
 pos:1≤m
 z:f 0=0
 s:∀ i,i+1<m→f (i+1)=f i∨f (i+1)=f i+1
 e:f (m - 1)+1=n
theorem Fold1.mono {f:Nat→Nat} {m n:Nat} (h:Fold1 f m n):∀ {i j:Nat},i≤j→j<m→f i≤f j:=by
 intro i j hij
 induction j with
 | zero=>intro _; rw [show i=0 by omega]; exact qR _
 | succ j ih =>
  intro hj
  by_cases e:i=j+1
  ·subst e; exact qR _
  have h1:=ih (by omega) (by omega)
  have:=h.s j hj
  omega
theorem Fold1.lt {f:Nat→Nat} {m n i:Nat} (h:Fold1 f m n) (hi:i<m):f i<n:=by
 have:=h.mono (i:=i) (j:=m - 1) (by omega) (by have:=h.pos; omega)
 have:=h.e
 omega
theorem Fold1.mid {f:Nat→Nat} {m n i:Nat} (h:Fold1 f m n) {v:Nat}:∀ {j:Nat},i≤j→j<m→f i≤v→v≤f j→∃ r,i≤r∧r≤j∧f r=v:=by
 intro j
 induction j with
 | zero=>intro h1 h2 h3 h4; exact ⟨0,by omega,qR _,by rw [show i=0 by omega]at h3; omega⟩
 | succ j ih =>
  intro h1 h2 h3 h4
  by_cases e:f (j+1)=v
  ·exact ⟨j+1,h1,qR _,e⟩
  by_cases e2:i=j+1
  ·subst e2; omega
  have:=h.s j h2
  obtain ⟨r,r1,r2,r3⟩:=ih (by omega) (by omega) h3 (by omega)
  exact ⟨r,r1,by omega,r3⟩
theorem Fold1.last {f:Nat→Nat} {m n v:Nat} (h:Fold1 f m n) (hv:v+1<n):∃ r,r+1<m∧f r=v∧f (r+1)=v+1:=by
 have hp:=h.pos
 have he:=h.e
 obtain ⟨e,h1,h2,h3,h4⟩:=zzn (P:=fun r=>f r≤v) (i:=0) (n:=m - 1) (by omega) (by rw [h.z]; omega) (by omega)
 have:=h.s e (by omega)
 exact ⟨e,by omega,by omega,by omega⟩
theorem DL.fold {f g:Nat→Nat} {H' W':Nat} (hf:Fold1 f H H') (hg:Fold1 g W W') (hc:∀ i j,i<H→j<W→c i j=c' (f i) (g j)) {a b:Nat}:DL c H W a b↔DL c' H' W' a b:=by
 constructor
 ·rintro ⟨j,i1,i2,h1,h2,h3,run,rfl,rfl⟩
  have hgj:g (j+1)=g j+1:=by
   rcases hg.s j h1 with e | e
   ·have:=run i1 (by omega) (by omega)
    rw [hc i1 j h2 (by omega),hc i1 (j+1) h2 h1,e]at this
    exact absurd rfl this
   exact e
  have hlt:=hg.lt h1
  refine ⟨g j,f i1,f i2,by omega,hf.lt h2,hf.lt h3,fun r r1 r2=>?_,hc _ _ h2 (by omega),by rw [hc _ _ h3 h1,hgj]⟩
  have:∃ r0,min i1 i2≤r0∧r0≤max i1 i2∧f r0=r:=by
   rcases Nat.le_total i1 i2 with q | q
   ·have:=hf.mono q h3
    obtain ⟨r0,q1,q2,q3⟩:=hf.mid (v:=r) q h3 (by omega) (by omega)
    exact ⟨r0,by omega,by omega,q3⟩
   have:=hf.mono q h2
   obtain ⟨r0,q1,q2,q3⟩:=hf.mid (v:=r) q h2 (by omega) (by omega)
   exact ⟨r0,by omega,by omega,q3⟩
  obtain ⟨r0,q1,q2,rfl⟩:=this
  have:=run r0 q1 q2
  rw [hc r0 j (by omega) (by omega),hc r0 (j+1) (by omega) h1,hgj]at this
  exact this
 rintro ⟨j,i1,i2,h1,h2,h3,run,rfl,rfl⟩
 obtain ⟨j0,k1,k2,k3⟩:=hg.last h1
 have hfe:=hf.e
 have hfp:=hf.pos
 obtain ⟨r1,-,q2,q3⟩:=hf.mid (i:=0) (j:=H - 1) (v:=i1) (by omega) (by omega) (by rw [hf.z]; omega) (by omega)
 obtain ⟨r2,-,q5,q6⟩:=hf.mid (i:=0) (j:=H - 1) (v:=i2) (by omega) (by omega) (by rw [hf.z]; omega) (by omega)
 refine ⟨j0,r1,r2,k1,by omega,by omega,fun r s1 s2=>?_,by rw [hc _ _ (by omega) (by omega),q3,k2],by rw [hc _ _ (by omega) (by omega),q6,k3]⟩
 rw [hc r j0 (by omega) (by omega),hc r (j0+1) (by omega) k1,k2,k3]
 refine run (f r) ?_ ?_
 ·rcases Nat.le_total r1 r2 with q | q
  ·have:=hf.mono (show r1≤r by omega) (show r<H by omega); omega
  have:=hf.mono (show r2≤r by omega) (show r<H by omega); omega
 rcases Nat.le_total r1 r2 with q | q
 ·have:=hf.mono (show r≤r2 by omega) (show r2<H by omega); omega
 have:=hf.mono (show r≤r1 by omega) (show r1<H by omega); omega
theorem DU.fold {f g:Nat→Nat} {H' W':Nat} (hf:Fold1 f H H') (hg:Fold1 g W W') (hc:∀ i j,i<H→j<W→c i j=c' (f i) (g j)) {a b:Nat}:DU c H W a b↔DU c' H' W' a b :=
 DL.fold (c:=tr c) (c':=tr c') hg hf fun i j hi hj=>hc j i hj hi
theorem TC.iff {R S:Nat→Nat→Prop} (h:∀ a b,R a b↔S a b) {a b:Nat}:TC R a b↔TC S a b:=⟨TC.mono fun a b=>(h a b).1,TC.mono fun a b=>(h a b).2⟩
end
section
def rooms (n:Nat):List Int:=(List.range n).map fun i:Nat=>(i:Int)
section
variable {n:Nat} {f:Nat→Nat}
end
def bf1 (p:List Txt) (a b:Nat):Bool:=zcn (lfM p) a b || zcn (abM p) a b
def bf2 (p:List Txt) (a b:Nat):Bool:=zcn (lfM p) a b || zcn (abM p) b a
def bfK (p:List Txt) (below:Bool) (a b:Nat):Bool:=if below then bf2 p a b else bf1 p a b
def ahK (p:List Txt) (below:Bool) (a:Nat):Nat:=(List.range (rP p).length).countP fun b=>bfK p below b a
theorem yb9 {p:List Txt} (hp:zhp p=true) (below:Bool):∃ f:Nat→Nat,(∀ a b,a<(rP p).length→b<(rP p).length→(bfK p below a b=true↔f a<f b))∧∀ a b,a<(rP p).length→b<(rP p).length→f a=f b→a=b:=by
 obtain ⟨f,g,hfg⟩:=zz0 hp
 have tot:=fun a b ha hb hne=>z3t (a:=a) (b:=b) hp ha hb hne
 cases below with
 | false =>
  have h1:∀ a b,a<(rP p).length→b<(rP p).length→bfK p false a b=true→f a<f b:=by
   intro a b ha hb h
   simp only[bfK,bf1,qF,if_false,Bool.or_eq_true]at h
   rcases h with h | h
   ·exact ((hfg a b ha hb).1 h).1
   exact ((hfg a b ha hb).2 h).1
  have h2:∀ a b,a<(rP p).length→b<(rP p).length→a≠b→bfK p false a b=true∨bfK p false b a=true:=by
   intro a b ha hb hne
   simp only[bfK,bf1,qF,if_false,Bool.or_eq_true]
   rcases tot a b ha hb hne with h | h | h | h
   ·exact .inl (.inl h)
   ·exact .inr (.inl h)
   ·exact .inl (.inr h)
   exact .inr (.inr h)
  have h3:∀ a b,a<(rP p).length→b<(rP p).length→f a=f b→a=b:=by
   intro a b ha hb e
   refine Classical.byContradiction fun hne=>?_
   rcases h2 a b ha hb hne with h | h
   ·have:=h1 a b ha hb h; omega
   have:=h1 b a hb ha h; omega
  refine ⟨f,fun a b ha hb=>⟨h1 a b ha hb,fun h=>?_⟩,h3⟩
  rcases h2 a b ha hb (by rintro rfl; omega) with k | k
  ·exact k
  have:=h1 b a hb ha k; omega
 | true =>
  have h1:∀ a b,a<(rP p).length→b<(rP p).length→bfK p true a b=true→g a<g b:=by
   intro a b ha hb h
   simp only[bfK,bf2,if_true,Bool.or_eq_true]at h
   rcases h with h | h
   ·exact ((hfg a b ha hb).1 h).2
   exact ((hfg b a hb ha).2 h).2
  have h2:∀ a b,a<(rP p).length→b<(rP p).length→a≠b→bfK p true a b=true∨bfK p true b a=true:=by
   intro a b ha hb hne
   simp only[bfK,bf2,if_true,Bool.or_eq_true]
   rcases tot a b ha hb hne with h | h | h | h
   ·exact .inl (.inl h)
   ·exact .inr (.inl h)
   ·exact .inr (.inr h)
   exact .inl (.inr h)
  have h3:∀ a b,a<(rP p).length→b<(rP p).length→g a=g b→a=b:=by
   intro a b ha hb e
   refine Classical.byContradiction fun hne=>?_
   rcases h2 a b ha hb hne with h | h
   ·have:=h1 a b ha hb h; omega
   have:=h1 b a hb ha h; omega
  refine ⟨g,fun a b ha hb=>⟨h1 a b ha hb,fun h=>?_⟩,h3⟩
  rcases h2 a b ha hb (by rintro rfl; omega) with k | k
  ·exact k
  have:=h1 b a hb ha k; omega
theorem yar {p:List Txt} {below:Bool} {f:Nat→Nat} (hf:∀ a b,a<(rP p).length→b<(rP p).length→(bfK p below a b=true↔f a<f b)) {a:Nat} (ha:a<(rP p).length):ahK p below a=ahead (rP p).length f a:=by
 unfold ahK ahead
 apply List.countP_congr
 intro b hb
 rw [hf b a (by simpa using hb) ha]; simp
end
section
section
variable {p:List Txt} {below:Bool}
theorem zup (hp:zhp p=true) {a b:Nat} (ha:a<(rP p).length) (hb:b<(rP p).length):bfK p below a b=true↔ahK p below a<ahK p below b:=by
 obtain ⟨f,hf,hi⟩:=yb9 hp below
 rw [yar hf ha,yar hf hb,hf a b ha hb]
 constructor
 ·intro h; exact z00 ha h
 intro h
 refine Classical.byContradiction fun k=>?_
 rcases Nat.lt_trichotomy (f a) (f b) with q | q | q
 ·exact k q
 ·have:=hi a b ha hb q; subst this; omega
 have:=z00 (n:=(rP p).length) hb q; omega
end
end

section
variable {M:List (List Bool)} {ms:List Nat} {n:Nat} {rk:Nat→Nat} {ws out:List Int}
abbrev ones (n:Nat):List Int:=List.replicate n 1
def RB (M:List (List Bool)) (n b:Nat):Int:=HB (revM n M) (ones n) n b
def yfd (M:List (List Bool)) (n:Nat) (out:List Int):Prop:=out.length=n∧∀ a,a<n→0≤zjl out a∧zjl out a≤RB M n a
theorem yfd.set (h:yfd M n out) {a:Nat} {v:Int} (ha:a<n) (h0:0≤v) (h1:v≤RB M n a):yfd M n (out.set a v):=by
 refine ⟨by simp [h.1],fun y hy=>?_⟩
 rw [z9b (by rw [h.1]; exact ha)]
 split
 ·rename_i e; subst e; exact ⟨h0,h1⟩
 exact h.2 y hy
end
section
variable {p:List Txt}
end
section
variable {p t:List Txt} {L U:Nat→Nat→Prop} {σ:Nat→Nat}
theorem zuq {below:Bool} {a b:Nat}:bfK p below a b=true↔Lf p a b∨(if below then Ab p b a else Ab p a b):=by
 unfold bfK bf1 bf2 Lf Ab
 cases below <;> simp
end
section
variable {c:Nat→Nat→Nat} {H W:Nat}
theorem DL.cols (h:Pl c H W) {i j i' j':Nat} (hi:i<H) (hj:j<W) (hi':i'<H) (hj':j'<W) (hd:DL c H W (c i j) (c i' j')):j<j':=by
 obtain ⟨k,i1,i2,h1,h2,h3,run,e1,e2⟩:=hd
 have a1:j≤k:=by
  refine Classical.byContradiction fun hn=>?_
  have:=h.rect (i:=i1) (j:=k) (i':=i) (j':=j) i1 (k+1) h2 hi (by omega) hj e1.symm (by omega) (by omega) (by omega) (by omega)
  exact run i1 (by omega) (by omega) this.symm
 have a2:k+1≤j':=by
  refine Classical.byContradiction fun hn=>?_
  have:=h.rect (i:=i2) (j:=k+1) (i':=i') (j':=j') i2 k h3 hi' h1 hj' e2.symm (by omega) (by omega) (by omega) (by omega)
  exact run i2 (by omega) (by omega) this
 omega
theorem DL.cells {a b:Nat} (hd:DL c H W a b):(∃ i j,i<H∧j<W∧c i j=a)∧∃ i j,i<H∧j<W∧c i j=b:=by
 obtain ⟨k,i1,i2,h1,h2,h3,run,e1,e2⟩:=hd
 exact ⟨⟨i1,k,h2,by omega,e1.symm⟩,i2,k+1,h3,h1,e2.symm⟩
theorem TC.cols (h:Pl c H W) {a b:Nat} (hd:TC (DL c H W) a b):∀ {i j i' j':Nat},i<H→j<W→i'<H→j'<W→c i j=a→c i' j'=b→j<j':=by
 induction hd with
 | one hd=>intro i j i' j' h1 h2 h3 h4 e1 e2; subst e1; subst e2; exact hd.cols h h1 h2 h3 h4
 | tail _ hd ih =>
  intro i j i' j' h1 h2 h3 h4 e1 e2
  obtain ⟨⟨x,y,hx,hy,e3⟩,-⟩:=hd.cells
  have q1:=ih h1 h2 hx hy e1 e3
  subst e2; rw [← e3]at hd
  have q2:=hd.cols h hx hy h3 h4
  omega
variable {p:List Txt}
end
section
section
variable {cf cg:Nat→Nat→Nat} {H1 W1 H2 W2 n:Nat}
end
end
section
section
variable {cf cg:Nat→Nat→Nat} {H1 W1 H2 W2 n N:Nat}
end
end

structure Made (c:Nat→Nat→Nat) (H W:Nat) (g:List (List Int)):Prop where
 gw:GW g H W
 ok:okS g=true
 full:zlg g=true
 plan:zaz (nm g)=true
 ren:Ren c H W (nm g)
section
section
variable {p q t:List Txt} {L U:Nat→Nat→Prop} {σ:Nat→Nat}
structure Two (p q t:List Txt) (σ:Nat→Nat):Prop where
 hp:zhp p=true
 hq:zhp q=true
 pl:zhp t=true
 n:(rP t).length=(rP p).length+(rP q).length
 lt:∀ a,a<(rP t).length→σ a<(rP t).length
 inj:∀ a b,a<(rP t).length→b<(rP t).length→σ a=σ b→a=b
 l1:∀ a b,a<(rP p).length→b<(rP p).length→a≠b→(Lf t (σ a) (σ b)↔Lf p a b)∧(Ab t (σ a) (σ b)↔Ab p a b)
 l2:∀ a b,a<(rP q).length→b<(rP q).length→a≠b→(Lf t (σ ((rP p).length+a)) (σ ((rP p).length+b))↔Lf q a b)∧(Ab t (σ ((rP p).length+a)) (σ ((rP p).length+b))↔Ab q a b)
theorem Two.blk (h:Two p q t σ) (b1:Bool):(∀ a b,a<(rP p).length→b<(rP p).length→(ahK t b1 (σ a)<ahK t b1 (σ b)↔ahK p b1 a<ahK p b1 b)) ∧
  ∀ a b,a<(rP q).length→b<(rP q).length→(ahK t b1 (σ ((rP p).length+a))<ahK t b1 (σ ((rP p).length+b))↔ahK q b1 a<ahK q b1 b):=by
 have hn:=h.n
 constructor
 ·intro a b ha hb
  by_cases e:a=b
  ·subst e; simp
  rw [← zup h.pl (h.lt a (by omega)) (h.lt b (by omega)),← zup h.hp ha hb,zuq,zuq,(h.l1 a b ha hb e).1]
  cases b1 <;> simp [(h.l1 a b ha hb e).2,(h.l1 b a hb ha fun x=>e x.symm).2]
 intro a b ha hb
 by_cases e:a=b
 ·subst e; simp
 rw [← zup h.pl (h.lt _ (by omega)) (h.lt _ (by omega)),← zup h.hq ha hb,zuq,zuq,(h.l2 a b ha hb e).1]
 cases b1 <;> simp [(h.l2 a b ha hb e).2,(h.l2 b a hb ha fun x=>e x.symm).2]
end
end
section
section
variable {p q:List Txt}
end
end
structure Pt where
 r:Nat
 c:Nat
 h:Nat
 w:Nat
 deriving DecidableEq
def Pt.In (t:Pt) (H W:Nat):Prop:=1≤t.h∧1≤t.w∧t.r+t.h≤H∧t.c+t.w≤W
def zwb (f:Nat→Bool):Nat→Option Nat
 | 0=>none
 | k+1=>(zwb f k).or (if decide (1≤k) && f k then some k else none)
theorem zik {f:Nat→Bool}:∀ {n:Nat},zwb f n=none↔∀ k,1≤k→k<n→f k=false
 | 0=>by simp [zwb]
 | n+1=>by
  simp only[zwb,Option.or_eq_none_iff,zik (n:=n)]
  constructor
  ·rintro ⟨h1,h2⟩ k hk hn
   by_cases e:k=n
   ·subst e; cases hf:f k with
    | false=>rfl
    | true=>rw [hf]at h2; simp at h2; omega
   exact h1 k hk (by omega)
  intro h
  refine ⟨fun k hk hn=>h k hk (by omega),?_⟩
  by_cases hn:1≤n
  ·simp [h n hn (by omega)]
  simp [hn]
theorem zel {f:Nat→Bool} {k:Nat}:∀ {n:Nat},zwb f n=some k↔1≤k∧k<n∧f k=true∧∀ j,1≤j→j<k→f j=false
 | 0=>by simp [zwb]
 | n+1=>by
  simp only[zwb]
  cases h:zwb f n with
  | some m =>
   have hm:=(zel (n:=n)).1 h
   simp only[Option.some_or,Option.some.injEq]
   constructor
   ·rintro rfl; exact ⟨hm.1,by omega,hm.2.2.1,hm.2.2.2⟩
   rintro ⟨h1,h2,h3,h4⟩
   rcases Nat.lt_trichotomy m k with e | e | e
   ·have:=h4 m hm.1 e; rw [hm.2.2.1]at this; cases this
   ·exact e
   have:=hm.2.2.2 k h1 e; rw [h3]at this; cases this
  | none =>
   have hn:=zik.1 h
   simp only[Option.none_or]
   constructor
   ·intro e
    split at e
    ·rename_i hc
     cases e
     simp only[qB,decide_eq_true_eq]at hc
     exact ⟨hc.1,by omega,hc.2,hn⟩
    cases e
   rintro ⟨h1,h2,h3,h4⟩
   by_cases e:k=n
   ·subst e; simp [h1,h3]
   have:=hn k h1 (by omega); rw [h3]at this; cases this
def thU (z:Nat→Nat→Int) (t:Pt) (k:Nat):Bool:=(List.range t.h).all fun i=>decide (z (t.r+i) (t.c+k - 1)≠z (t.r+i) (t.c+k))
def thL (z:Nat→Nat→Int) (t:Pt) (k:Nat):Bool:=(List.range t.w).all fun j=>decide (z (t.r+k - 1) (t.c+j)≠z (t.r+k) (t.c+j))
theorem z0o {z:Nat→Nat→Int} {t:Pt} {k:Nat}:thU z t k=true↔∀ i,i<t.h→z (t.r+i) (t.c+k - 1)≠z (t.r+i) (t.c+k):=by simp [thU]
theorem z0n {z:Nat→Nat→Int} {t:Pt} {k:Nat}:thL z t k=true↔∀ j,j<t.w→z (t.r+k - 1) (t.c+j)≠z (t.r+k) (t.c+j):=by simp [thL]
def zcv (z:Nat→Nat→Int) (t:Pt):Option (Bool × Nat) :=
 match zwb (thU z t) t.w with
 | some k=>some (false,k)
 | none=>match zwb (thL z t) t.h with
  | some k=>some (true,k)
  | none=>none
def Pt.one (t:Pt) (q:Bool × Nat):Pt:=if q.1 then ⟨t.r,t.c,q.2,t.w⟩ else ⟨t.r,t.c,t.h,q.2⟩
def Pt.two (t:Pt) (q:Bool × Nat):Pt:=if q.1 then ⟨t.r+q.2,t.c,t.h - q.2,t.w⟩ else ⟨t.r,t.c+q.2,t.h,t.w - q.2⟩
theorem zd8 {z:Nat→Nat→Int} {t:Pt} {q:Bool × Nat} (h:zcv z t=some q):1≤q.2∧if q.1 then q.2<t.h∧thL z t q.2=true else q.2<t.w∧thU z t q.2=true:=by
 unfold zcv at h
 split at h
 ·rename_i k hk; cases h; have:=zel.1 hk; exact ⟨this.1,by simp [this.2.1,this.2.2.1]⟩
 split at h
 ·rename_i k hk; cases h; have:=zel.1 hk; exact ⟨this.1,by simp [this.2.1,this.2.2.1]⟩
 cases h
theorem z3a {z:Nat→Nat→Int} {t:Pt}:zcv z t=none↔(∀ k,1≤k→k<t.w→thU z t k=false)∧∀ k,1≤k→k<t.h→thL z t k=false:=by
 unfold zcv
 split
 ·rename_i k hk
  have:=zel.1 hk
  constructor
  ·intro h; cases h
  rintro ⟨h,_⟩; rw [h k this.1 this.2.1]at this; simp at this
 rename_i hn
 split
 ·rename_i k hk
  have:=zel.1 hk
  constructor
  ·intro h; cases h
  rintro ⟨_,h⟩; rw [h k this.1 this.2.1]at this; simp at this
 rename_i hn2
 exact ⟨fun _=>⟨zik.1 hn,zik.1 hn2⟩,fun _=>rfl⟩
theorem Pt.In.cut {t:Pt} {H W:Nat} (h:t.In H W) {z:Nat→Nat→Int} {q:Bool × Nat} (hq:zcv z t=some q):(t.one q).In H W∧(t.two q).In H W ∧
  (t.one q).h*(t.one q).w<t.h*t.w∧(t.two q).h*(t.two q).w<t.h*t.w:=by
 obtain ⟨h1,h2⟩:=zd8 hq
 obtain ⟨a,b,c,d⟩:=h
 obtain ⟨lv,k⟩:=q
 simp only at h1 h2
 cases lv with
 | true =>
  simp only[if_true]at h2
  simp only[Pt.one,Pt.two,if_true,Pt.In]
  refine ⟨⟨h1,b,by omega,d⟩,⟨by omega,b,by omega,d⟩,Nat.mul_lt_mul_of_pos_right h2.1 b,Nat.mul_lt_mul_of_pos_right (by omega) b⟩
 | false =>
  simp only[qF,if_false]at h2
  simp only[Pt.one,Pt.two,qF,if_false,Pt.In]
  refine ⟨⟨a,h1,c,by omega⟩,⟨a,by omega,c,by omega⟩,Nat.mul_lt_mul_of_pos_left h2.1 a,Nat.mul_lt_mul_of_pos_left (by omega) a⟩
def zl4 (z:Nat→Nat→Int) (t:Pt):Bool:=(List.range t.h).all fun i=>(List.range t.w).all fun j=>decide (z (t.r+i) (t.c+j)=z t.r t.c)
theorem zpk {z:Nat→Nat→Int} {t:Pt}:zl4 z t=true↔∀ i j,i<t.h→j<t.w→z (t.r+i) (t.c+j)=z t.r t.c:=by
 simp only[zl4,List.all_eq_true,List.mem_range,decide_eq_true_eq]
 exact ⟨fun h i j hi hj=>h i hi j hj,fun h i hi j hj=>h i j hi hj⟩
inductive CT where
 | leaf (a:Int)
 | node (lv:Bool) (x y:CT)
def tree (z:Nat→Nat→Int):Nat→Pt→Option CT
 | 0,_=>none
 | f+1,t=>if zl4 z t then some (.leaf (z t.r t.c)) else
  match zcv z t with
  | none=>none
  | some q=>match tree z f (t.one q),tree z f (t.two q) with
   | some x,some y=>some (.node q.1 x y)
   | _,_=>none
theorem zmq {z:Nat→Nat→Int} {H W:Nat}:∀ (n:Nat) {t:Pt} {f g:Nat},t.In H W→t.h*t.w≤n→t.h*t.w≤f→t.h*t.w≤g→tree z f t=tree z g t
 | 0,t,f,g,hi,hn,_,_=>by have:=Nat.mul_pos hi.1 hi.2.1; omega
 | n+1,t,f,g,hi,hn,hf,hg=>by
  have:=Nat.mul_pos hi.1 hi.2.1
  obtain ⟨f,rfl⟩:∃ f',f=f'+1:=⟨f - 1,by omega⟩
  obtain ⟨g,rfl⟩:∃ g',g=g'+1:=⟨g - 1,by omega⟩
  simp only[tree]
  split
  ·rfl
  cases hc:zcv z t with
  | none=>rfl
  | some q =>
   obtain ⟨i1,i2,a1,a2⟩:=hi.cut hc
   simp only
   rw [zmq n i1 (f:=f) (g:=g) (by omega) (by omega) (by omega),zmq n i2 (f:=f) (g:=g) (by omega) (by omega) (by omega)]
def CT.fold {α:Type} (room:Int→α) (cut:Bool→α→α→α):CT→α
 | .leaf a=>room a
 | .node lv x y=>cut lv (x.fold room cut) (y.fold room cut)
structure Whole (z:Nat→Nat→Int) (H W:Nat) (t:Pt):Prop where
 inn:t.In H W
 all:∀ i j i' j',i<H→j<W→i'<H→j'<W→z i j=z i' j'→t.r≤i→i<t.r+t.h→t.c≤j→j<t.c+t.w→t.r≤i'∧i'<t.r+t.h∧t.c≤j'∧j'<t.c+t.w
def z8s (z:Nat→Nat→Int) (H W:Nat):Prop:=∀ {i j i' j':Nat} (k l:Nat),i<H→i'<H→j<W→j'<W→z i j=z i' j'→min i i'≤k→k≤max i i'→min j j'≤l→l≤max j j'→z k l=z i j
theorem Whole.cut {z:Nat→Nat→Int} {H W:Nat} (hz:z8s z H W) {t:Pt} (h:Whole z H W t) {q:Bool × Nat} (hq:zcv z t=some q):Whole z H W (t.one q)∧Whole z H W (t.two q):=by
 obtain ⟨i1,i2,_,_⟩:=h.inn.cut hq
 obtain ⟨c1,c2⟩:=zd8 hq
 obtain ⟨lv,k⟩:=q
 have hin:=h.inn
 unfold Pt.In at hin
 cases lv with
 | true =>
  simp only[if_true]at c2
  have hth:=z0n.1 c2.2
  have key:∀ i j i' j',i<H→j<W→i'<H→j'<W→z i j=z i' j'→t.r≤i→i<t.r+k→t.c≤j→j<t.c+t.w→t.r+k≤i'→i'<t.r+t.h→t.c≤j'→j'<t.c+t.w→False:=by
   intro i j i' j' a b c d e f1 f2 f3 f4 g1 g2 g3 g4
   have e1:=hz (t.r+k - 1) j a c b d e (by omega) (by omega) (by omega) (by omega)
   have e2:=hz (t.r+k) j a c b d e (by omega) (by omega) (by omega) (by omega)
   have:=hth (j - t.c) (by omega)
   rw [show t.c+(j - t.c)=j by omega]at this
   exact this (e1.trans e2.symm)
  refine ⟨⟨i1,?_⟩,⟨i2,?_⟩⟩
  ·simp only[Pt.one,if_true]
   intro i j i' j' a b c d e f1 f2 f3 f4
   obtain ⟨g1,g2,g3,g4⟩:=h.all i j i' j' a b c d e f1 (by omega) f3 f4
   refine ⟨g1,?_,g3,g4⟩
   rcases Nat.lt_or_ge i' (t.r+k) with h1 | h1
   ·exact h1
   exact (key i j i' j' a b c d e f1 f2 f3 f4 h1 g2 g3 g4).elim
  simp only[Pt.two,if_true]
  intro i j i' j' a b c d e f1 f2 f3 f4
  obtain ⟨g1,g2,g3,g4⟩:=h.all i j i' j' a b c d e (by omega) (by omega) f3 f4
  refine ⟨?_,by omega,g3,g4⟩
  rcases Nat.lt_or_ge i' (t.r+k) with h1 | h1
  ·exact (key i' j' i j c d a b e.symm g1 h1 g3 g4 f1 (by omega) f3 f4).elim
  exact h1
 | false =>
  simp only[qF,if_false]at c2
  have hth:=z0o.1 c2.2
  have key:∀ i j i' j',i<H→j<W→i'<H→j'<W→z i j=z i' j'→t.r≤i→i<t.r+t.h→t.c≤j→j<t.c+k→t.r≤i'→i'<t.r+t.h→t.c+k≤j'→j'<t.c+t.w→False:=by
   intro i j i' j' a b c d e f1 f2 f3 f4 g1 g2 g3 g4
   have e1:=hz i (t.c+k - 1) a c b d e (by omega) (by omega) (by omega) (by omega)
   have e2:=hz i (t.c+k) a c b d e (by omega) (by omega) (by omega) (by omega)
   have:=hth (i - t.r) (by omega)
   rw [show t.r+(i - t.r)=i by omega]at this
   exact this (e1.trans e2.symm)
  refine ⟨⟨i1,?_⟩,⟨i2,?_⟩⟩
  ·simp only[Pt.one,qF,if_false]
   intro i j i' j' a b c d e f1 f2 f3 f4
   obtain ⟨g1,g2,g3,g4⟩:=h.all i j i' j' a b c d e f1 f2 f3 (by omega)
   refine ⟨g1,g2,g3,?_⟩
   rcases Nat.lt_or_ge j' (t.c+k) with h1 | h1
   ·exact h1
   exact (key i j i' j' a b c d e f1 f2 f3 f4 g1 g2 h1 g4).elim
  simp only[Pt.two,qF,if_false]
  intro i j i' j' a b c d e f1 f2 f3 f4
  obtain ⟨g1,g2,g3,g4⟩:=h.all i j i' j' a b c d e f1 f2 (by omega) (by omega)
  refine ⟨g1,g2,?_,by omega⟩
  rcases Nat.lt_or_ge j' (t.c+k) with h1 | h1
  ·exact (key i' j' i j c d a b e.symm g1 g2 g3 h1 f1 f2 f3 (by omega)).elim
  exact h1
section
def thW (p:List Txt) (k:Nat):Bool:=(List.range p.length).all fun i=>decide (zah p i (k - 1)≠zah p i k)
theorem z0p {p:List Txt} {k:Nat}:thW p k=true↔∀ i,i<p.length→zah p i (k - 1)≠zah p i k:=by simp [thW]
def zey (n:Nat) (w:List Int):Bool:=decide (zjl w 2=n)
theorem zy1 {p:List Txt} {k:Nat} {s0:List (List Int)}:∀ i,i≤p.length →
  ((∀ r,r<i→zjb p k r=true)∧zev p k s0 i=(if i=0 then -1 else 0,s0)) ∨
  ((¬ ∀ r,r<i→zjb p k r=true)∧((zev p k s0 i).1<0∨0<(zev p k s0 i).1) ∧ -1≤(zev p k s0 i).1∧∃ L,(zev p k s0 i).2=s0++L∧∀ w∈L,zey p.length w=false)
 | 0,_ => .inl ⟨fun r hr=>by omega,rfl⟩
 | i+1,hi=>by
  rcases zy1 (p:=p) (k:=k) (s0:=s0) i (by omega) with ⟨h1,h2⟩ | ⟨h1,h2,h3,L,h4,h5⟩
  ·cases hw:zjb p k i with
   | true =>
    refine .inl ⟨fun r hr=>?_,?_⟩
    ·by_cases e:r=i
     ·rw [e]; exact hw
     exact h1 r (by omega)
    simp only[zev,h2,hw,ze0]
    by_cases e:i=0
    ·subst e; simp
    simp [e]
   | false =>
    refine .inr ⟨fun h=>?_,?_⟩
    ·have:=h i (by omega); rw [hw]at this; cases this
    simp only[zev,h2,hw,ze0]
    by_cases e:i=0
    ·subst e; exact ⟨.inl (by simp),by simp,[],by simp,by simp⟩
    simp only[e,if_false,Bool.false_and,qF,Bool.not_false,Bool.true_and,Int.le_refl,decide_true,if_true]
    refine ⟨.inl (by simp),by simp,[[(k:Int),0,(i:Int) - 0]],rfl,?_⟩
    intro w hw'
    simp only[List.mem_singleton]at hw'
    subst hw'
    show decide (((i:Int) - 0)=p.length)=false
    exact decide_eq_false (by omega)
  refine .inr ⟨fun h=>h1 fun r hr=>h r (by omega),?_⟩
  simp only[zev,ze0]
  generalize (zev p k s0 i).1=f at h2 h3
  cases hw:zjb p k i with
  | true =>
   simp only[Bool.true_and,Bool.not_true,Bool.false_and,qF,if_false]
   have hi0:i≠0:=by rintro rfl; exact h1 fun r hr=>by omega
   refine ⟨?_,?_,L,h4,h5⟩
   ·by_cases hf:f<0
    ·simp only[hf,decide_true,if_true]; exact .inr (by omega)
    simp only[hf,decide_false,qF,if_false]; omega
   by_cases hf:f<0
   ·simp only[hf,decide_true,if_true]; omega
   simp only[hf,decide_false,qF,if_false]; omega
  | false =>
   simp only[Bool.false_and,qF,if_false,Bool.not_false,Bool.true_and,decide_eq_true_eq]
   by_cases hf:0≤f
   ·rw [if_pos hf]
    refine ⟨.inl (by simp),by simp,L++[[(k:Int),f,(i:Int) - f]],by simp only[h4,List.append_assoc],?_⟩
    intro w hw'
    simp only[List.mem_append,List.mem_singleton]at hw'
    rcases hw' with hw' | rfl
    ·exact h5 w hw'
    simp [zey,zjl]; omega
   rw [if_neg hf]
   exact ⟨.inl (by simp only; omega),by simp only; omega,L,h4,h5⟩
theorem z22 {p:List Txt} {k:Nat}:(∀ r,r<p.length→zjb p k r=true)↔thW p k=true:=by
 rw [z0p]
 constructor
 ·intro h r hr; have:=h r hr; simpa [zjb,hr] using this
 intro h r hr; simpa [zjb,hr] using h r hr
theorem ydp {p:List Txt} (hp:1≤p.length) {k:Nat} {s0:List (List Int)}:∃ L,(zev p k s0 (p.length+1)).2=s0++L∧L.find? (zey p.length)=if thW p k then some [(k:Int),0,(p.length:Int)] else none:=by
 rcases zy1 (p:=p) (k:=k) (s0:=s0) p.length (qR _) with ⟨h1,h2⟩ | ⟨h1,h2,h3,L,h4,h5⟩
 ·rw [z22]at h1
  refine ⟨[[(k:Int),0,(p.length:Int)]],?_,?_⟩
  ·simp only[zev,h2,ze0,zy2]
   have:p.length≠0:=by omega
   simp [this]
  rw [h1]; simp [zey,zjl]
 rw [z22]at h1
 simp only[h1,if_false,qF]
 simp only[zev,ze0,zy2]
 generalize (zev p k s0 p.length).1=f at h2 h3
 simp only[Bool.false_and,qF,if_false,Bool.not_false,Bool.true_and,decide_eq_true_eq]
 by_cases hf:0≤f
 ·rw [if_pos hf]
  refine ⟨L++[[(k:Int),f,(p.length:Int) - f]],by simp only[h4,List.append_assoc],List.find?_eq_none.2 ?_⟩
  intro w hw'
  simp only[List.mem_append,List.mem_singleton]at hw'
  rcases hw' with hw' | rfl
  ·simp [h5 w hw']
  simp [zey,zjl]; omega
 rw [if_neg hf]
 exact ⟨L,h4,List.find?_eq_none.2 fun w hw=>by simp [h5 w hw]⟩
theorem zp1 {p:List Txt} (hp:1≤p.length):∀ K,(zcl p K).find? (zey p.length)=(zwb (thW p) K).map fun k=>[(k:Int),0,(p.length:Int)]
 | 0=>rfl
 | K+1=>by
  simp only[zcl,zwb]
  split
  ·rename_i hk
   obtain ⟨L,h1,h2⟩:=ydp hp (k:=K) (s0:=zcl p K)
   rw [h1,List.find?_append,zp1 hp K,h2]
   cases zwb (thW p) K with
   | some k=>rfl
   | none=>simp only[Option.map_none,Option.none_or,hk,decide_true,Bool.true_and]; split <;> rfl
  rename_i hk
  rw [zp1 hp K]
  simp [hk]
def z8j (p:List Txt):Int × Int :=
 match (uprights p).find? (zey p.length) with
 | some w=>(0,zjl w 0)
 | none=>match (uprights (zck p)).find? (zey (zal p).length) with
  | some w=>(1,zjl w 0)
  | none=>(0,0)
theorem zwz {α:Type} {f:α→Bool} {l:List α} {i:Nat} {a:α} (h:l[i]?=some a) (h1:(l.take i).find? f=none) (h2:f a=true):l.find? f=some a:=by
 have hl:=(List.getElem?_eq_some_iff.1 h).1
 have:l=l.take i++(a::l.drop (i+1)):=by
  obtain ⟨_,e⟩:=List.getElem?_eq_some_iff.1 h
  rw [← e,List.getElem_cons_drop,List.take_append_drop]
 rw [this,List.find?_append,h1]
 simp [h2]
theorem zny {α:Type} {f:α→Bool} {l:List α} {i:Nat} {a:α} (h:l[i]?=some a) (h1:(l.take i).find? f=none) (h2:f a=false):(l.take (i+1)).find? f=none:=by
 rw [tk h,List.find?_append,h1]; simp [h2]
def zjx (t:Pt) (row:Txt):Txt:=(row.drop t.c).take t.w
def sub (p:List Txt) (t:Pt):List Txt:=((p.drop t.r).take t.h).map (zjx t)
section
variable {p:List Txt} {t:Pt}
theorem zhe {W:Nat} (hi:t.In p.length W):(sub p t).length=t.h:=by
 simp [sub]; have:=hi.2.2.1; omega
theorem ydc {W:Nat} (hi:t.In p.length W) {i:Nat} {row:Txt} (h:i<t.h) (hr:p[t.r+i]?=some row):(sub p t)[i]?=some (zjx t row):=by
 simp [sub,h,hr]
theorem zjy (hg:zb3 p=true) (hi:t.In p.length (zal p).length) {i:Nat} (h:i<t.h):∃ row,p[t.r+i]?=some row∧(sub p t)[i]?=some (zjx t row)∧(zjx t row).length=t.w∧row.length=(zal p).length:=by
 obtain ⟨row,hr,_⟩:=z5u (p:=p) (i:=t.r+i) (by have:=hi.2.2.1; omega)
 have hl:=zd3 hg hr
 exact ⟨row,hr,ydc hi h hr,by simp [zjx]; have:=hi.2.2.2; omega,hl⟩
theorem zry (hg:zb3 p=true) (hi:t.In p.length (zal p).length):(zal (sub p t)).length=t.w:=by
 obtain ⟨row,_,h2,h3,_⟩:=zjy hg hi (i:=0) hi.1
 rw [zca h2,h3]
theorem zhd {row:Txt} {j:Nat} (h:j<t.w):(zjx t row)[j]?=row[t.c+j]?:=by
 simp [zjx,List.getElem?_take,h]
theorem zi3 (hg:zb3 p=true) (hi:t.In p.length (zal p).length) {i j:Nat} (h:i<t.h) (hj:j<t.w):zah (sub p t) i j=zah p (t.r+i) (t.c+j):=by
 obtain ⟨row,h1,h2,_,_⟩:=zjy hg hi h
 simp only[zah,h1,h2,Option.getD_some,zhd hj]
theorem zpy (hg:zb3 p=true) (hi:t.In p.length (zal p).length):zb3 (sub p t)=true:=by
 have hsm:=zay hg
 have hl:=zhe hi
 have hh:=zry hg hi
 obtain ⟨i1,i2,i3,i4⟩:=hi
 obtain ⟨row0,hr0,hm0⟩:=z5u (p:=p) (i:=0) (by omega)
 have hw6:=hsm.2.2 row0 hm0
 have hhd:=zca hr0
 rw [hhd]at i4
 unfold zb3
 simp only[qB,decide_eq_true_eq,List.all_eq_true]
 refine ⟨⟨fun r hr=>?_,by omega⟩,by omega⟩
 obtain ⟨i,hi'⟩:=List.getElem?_of_mem hr
 have hil:=(List.getElem?_eq_some_iff.1 hi').1
 obtain ⟨row,h1,h2,h3,h4⟩:=zjy hg ⟨i1,i2,i3,by rw [hhd]; exact i4⟩ (t:=t) (i:=i) (by omega)
 rw [h2]at hi'; cases hi'
 simp only[zr5,qB,decide_eq_true_eq,List.all_eq_true]
 refine ⟨⟨⟨by omega,by omega⟩,by omega⟩,fun c hc=>?_⟩
 obtain ⟨j,hj⟩:=List.getElem?_of_mem hc
 have hjl:=(List.getElem?_eq_some_iff.1 hj).1
 rw [zhd (by omega)]at hj
 obtain ⟨c',hc',hl'⟩:=zka hg h1 (k:=t.c+j) (by rw [hhd]; omega)
 rw [hc']at hj; cases hj; exact hl'
theorem yde (hg:zb3 p=true) (hi:t.In p.length (zal p).length) {k:Nat} (h1:1≤k) (h2:k<t.w):thW (sub p t) k=thU (zah p) t k:=by
 apply Bool.eq_iff_iff.2
 rw [z0p,z0o,zhe hi]
 constructor
 ·intro h i hi'; have:=h i hi'; rw [zi3 hg hi hi' h2,zi3 hg hi hi' (by omega)]at this; rw [show t.c+k - 1=t.c+(k - 1) by omega]; exact this
 intro h i hi'; have:=h i hi'; rw [zi3 hg hi hi' h2,zi3 hg hi hi' (by omega)]; rw [show t.c+k - 1=t.c+(k - 1) by omega]at this; exact this
theorem ydd (hg:zb3 p=true) (hi:t.In p.length (zal p).length) {k:Nat} (h1:1≤k) (h2:k<t.h):thW (zck (sub p t)) k=thL (zah p) t k:=by
 apply Bool.eq_iff_iff.2
 rw [z0p,z0n,zj0,zry hg hi]
 have key:∀ i j,i<t.h→j<t.w→zah (zck (sub p t)) j i=zah p (t.r+i) (t.c+j):=fun i j a b=>by
  rw [zzd (by rw [zhe hi]; exact a) (by rw [zry hg hi]; exact b),zi3 hg hi a b]
 constructor
 ·intro h j hj; have:=h j hj; rw [key _ _ h2 hj,key _ _ (by omega) hj]at this; rw [show t.r+k - 1=t.r+(k - 1) by omega]; exact this
 intro h j hj; have:=h j hj; rw [key _ _ h2 hj,key _ _ (by omega) hj]; rw [show t.r+k - 1=t.r+(k - 1) by omega]at this; exact this
theorem zm0 {f g:Nat→Bool}:∀ {n:Nat},(∀ k,1≤k→k<n→f k=g k)→zwb f n=zwb g n
 | 0,_=>rfl
 | n+1,h=>by
  simp only[zwb]
  rw [zm0 fun k a b=>h k a (by omega)]
  by_cases hn:1≤n
  ·rw [h n hn (by omega)]
  simp [hn]
theorem z09 (hg:zb3 p=true) (hi:t.In p.length (zal p).length):z8j (sub p t)=match zcv (zah p) t with | some q=>(if q.1 then 1 else 0,(q.2:Int)) | none=>(0,0):=by
 have hl:=zhe hi
 have hh:=zry hg hi
 unfold z8j zcv
 rw [show uprights (sub p t)=zcl (sub p t) (zal (sub p t)).length from rfl,zp1 (by rw [hl]; exact hi.1),hh,zm0 fun k a b=>yde hg hi a b]
 cases zwb (thU (zah p) t) t.w with
 | some k=>simp [zjl]
 | none =>
  have h2:=zp1 (p:=zck (sub p t)) (by rw [zj0,hh]; exact hi.2.1) (zal (zck (sub p t))).length
  rw [zj0,hh,zpz (by rw [hh]; exact hi.2.1),hl,zm0 fun k a b=>ydd hg hi a b]at h2
  simp only[Option.map_none]
  rw [show uprights (zck (sub p t))=zcl (zck (sub p t)) t.h by unfold uprights; rw [zpz (by rw [hh]; exact hi.2.1),hl],h2]
  cases zwb (thL (zah p) t) t.h with
  | some k=>simp [zjl]
  | none=>rfl
def zgr (p:List Txt) (q:Bool × Nat):List Txt:=if q.1 then p.take q.2 else p.map (·.take q.2)
def zgs (p:List Txt) (q:Bool × Nat):List Txt:=if q.1 then p.drop q.2 else p.map (·.drop q.2)
theorem zvz {q:Bool × Nat} (h:if q.1 then q.2<t.h else q.2<t.w):zgr (sub p t) q=sub p (t.one q):=by
 obtain ⟨lv,k⟩:=q
 cases lv with
 | true =>
  simp only[if_true]at h
  simp only[zgr,Pt.one,if_true,sub,← List.map_take,List.take_take]
  rw [Nat.min_eq_left (by omega)]
  rfl
 | false =>
  simp only[qF,if_false]at h
  simp only[zgr,Pt.one,qF,if_false,sub,List.map_map]
  refine List.map_congr_left fun row _=>?_
  simp only[Function.comp,zjx,List.take_take]
  rw [Nat.min_eq_left (by omega)]
theorem zv0 {q:Bool × Nat} (h:if q.1 then q.2<t.h else q.2<t.w):zgs (sub p t) q=sub p (t.two q):=by
 obtain ⟨lv,k⟩:=q
 cases lv with
 | true =>
  simp only[if_true]at h
  simp only[zgs,Pt.two,if_true,sub,← List.map_drop,List.drop_take,List.drop_drop]
  rfl
 | false =>
  simp only[qF,if_false]at h
  simp only[zgs,Pt.two,qF,if_false,sub,List.map_map]
  refine List.map_congr_left fun row _=>?_
  simp only[Function.comp,zjx,List.drop_take,List.drop_drop]
def z8k (p:List Txt):Bool:=p.all fun row=>row.all fun c=>decide (some c=(zal p)[0]?)
theorem zpj (hg:zb3 p=true) (hi:t.In p.length (zal p).length):z8k (sub p t)=zl4 (zah p) t:=by
 apply Bool.eq_iff_iff.2
 rw [zpk]
 obtain ⟨row0,h1,h2,h3,h4⟩:=zjy hg hi (i:=0) hi.1
 have hc0:(zjx t row0)[0]?=row0[t.c+0]?:=zhd hi.2.1
 obtain ⟨c0,e0,_⟩:=zka hg h1 (k:=t.c+0) (by have:=hi.2.2.2; have:=hi.2.1; omega)
 rw [e0]at hc0
 have hz0:zah p t.r t.c=(c0.toNat:Int) - 97:=zcx (by simpa using h1) (by simpa using e0)
 simp only[z8k,List.all_eq_true,decide_eq_true_eq,zca h2,hc0,Option.some.injEq]
 constructor
 ·intro h i j hi' hj'
  obtain ⟨row,g1,g2,g3,g4⟩:=zjy hg hi hi'
  obtain ⟨c,e1,_⟩:=zka hg g1 (k:=t.c+j) (by have:=hi.2.2.2; omega)
  have:=h _ (List.mem_of_getElem? g2) c (List.mem_of_getElem? ((zhd hj').trans e1))
  rw [zcx g1 e1,hz0,this]
 intro h r hr c hc
 obtain ⟨i,hi'⟩:=List.getElem?_of_mem hr
 have hil:=(List.getElem?_eq_some_iff.1 hi').1
 rw [zhe hi]at hil
 obtain ⟨row,g1,g2,g3,g4⟩:=zjy hg hi hil
 rw [g2]at hi'; cases hi'
 obtain ⟨j,hj⟩:=List.getElem?_of_mem hc
 have hjl:=(List.getElem?_eq_some_iff.1 hj).1
 rw [zhd (by omega)]at hj
 have:=h i j hil (by omega)
 rw [zcx g1 hj,hz0]at this
 exact UInt8.toNat_inj.1 (by omega)
end
end
section
def Pt.rect (t:Pt):Rect:=⟨t.r,t.c,t.h,t.w⟩
abbrev zd0 (g:List (List Int)) (rs:List Rect) (t:Rect):PV := .agg (zaw g rs::t.cells)
def ydr (rs:List Rect) (t:Rect) (i:Nat):Bool:=match rs[i]? with | some b=>decide (t.both b=t) | none=>false
def zdm (rs:List Rect) (t:Rect) (k:Nat):List Int:=((List.range k).filter (ydr rs t)).map fun i:Nat=>(i:Int)
theorem zgy {rs:List Rect} {t:Rect} {k:Nat} {b:Rect} (h:rs[k]?=some b):zdm rs t (k+1)=if t.both b=t then zdm rs t k++[(k:Int)] else zdm rs t k:=by
 unfold zdm
 rw [qS,List.filter_append,List.map_append]
 simp only[List.filter_cons,List.filter_nil,ydr,h,decide_eq_true_eq]
 split <;> simp
theorem zrm {rs:List Rect} {t:Rect} {k:Nat}:(zdm rs t k).length≤k:=by
 unfold zdm
 rw [List.length_map]
 exact Nat.le_trans (List.length_filter_le _ _) (by simp)
def rms (rs:List Rect) (t:Rect):List Int:=zdm rs t rs.length
section
variable {p:List Txt} {t:Pt}
theorem zrj (hp:zaz p=true):z8s (zah p) p.length (zal p).length:=by
 intro i j i' j' k l hi hi' hj hj' he h1 h2 h3 h4
 obtain ⟨b,hb,hin,_,hall⟩:=zmc hp hi hj
 obtain ⟨b',hb',hin',_,_⟩:=zmc hp hi' hj'
 rw [← he,hb]at hb'
 cases hb'
 refine hall k l (by omega) (by omega) ?_
 simp only[inB,qB,decide_eq_true_eq]at hin hin' ⊢
 omega
theorem zms (hp:zaz p=true):Whole (zah p) p.length (zal p).length ⟨0,0,p.length,(zal p).length⟩:=by
 have hsm:=zay (zb8 hp)
 obtain ⟨row0,h0,hm0⟩:=zaf hsm.1
 have hw:=zfn (zb8 hp) h0
 rw [← zca h0]at hw
 exact ⟨⟨hsm.1,hw,by simp,by simp⟩,fun i j i' j' a b c d _ _ _ _ _=>by simp only; omega⟩
theorem ztn (hp:zaz p=true) (ht:Whole (zah p) p.length (zal p).length t) {i:Nat} {b:Rect} (hb:(rP p)[i]?=some b) :
  t.rect.both b=t.rect↔∃ a c,t.r≤a∧a<t.r+t.h∧t.c≤c∧c<t.c+t.w∧zah p a c=i:=by
 have hh:=(zdi hp).rect hb
 obtain ⟨a1,c1,p1,e1⟩:=hh.at_
 obtain ⟨a2,c2,p2,e2⟩:=hh.al
 obtain ⟨a3,c3,p3,e3⟩:=hh.ao
 obtain ⟨a4,c4,p4,e4⟩:=hh.ar
 have q1:=hh.inn _ _ p1
 obtain ⟨v1,g1⟩:=p1
 obtain ⟨v2,g2⟩:=p2
 obtain ⟨v3,g3⟩:=p3
 obtain ⟨v4,g4⟩:=p4
 unfold Gone at g1 g2 g3 g4
 constructor
 ·intro h
  refine ⟨a1,c1,?_⟩
  simp only[Rect.both,Pt.rect,Rect.mk.injEq]at h
  refine ⟨by omega,by omega,by omega,by omega,v1⟩
 rintro ⟨a,c,h1,h2,h3,h4,hv⟩
 have hin:=ht.inn
 unfold Pt.In at hin
 have k1:=ht.all a c a1 c1 (by omega) (by omega) (by omega) (by omega) (hv.trans v1.symm) h1 h2 h3 h4
 have k2:=ht.all a c a2 c2 (by omega) (by omega) (by omega) (by omega) (hv.trans v2.symm) h1 h2 h3 h4
 have k3:=ht.all a c a3 c3 (by omega) (by omega) (by omega) (by omega) (hv.trans v3.symm) h1 h2 h3 h4
 have k4:=ht.all a c a4 c4 (by omega) (by omega) (by omega) (by omega) (hv.trans v4.symm) h1 h2 h3 h4
 simp only[Rect.both,Pt.rect,Rect.mk.injEq]
 omega
theorem zje (hp:zaz p=true) {i j:Nat} (hi:i<p.length) (hj:j<(zal p).length):0≤zah p i j∧zah p i j<(rP p).length:=(zdi hp).room hi hj
theorem zm8 (hp:zaz p=true) (ht:Whole (zah p) p.length (zal p).length t) {x:Int} :
  x∈rms (rP p) t.rect↔∃ a c,t.r≤a∧a<t.r+t.h∧t.c≤c∧c<t.c+t.w∧zah p a c=x:=by
 have hin:=ht.inn
 unfold Pt.In at hin
 simp only[rms,zdm,List.mem_map,List.mem_filter,List.mem_range]
 constructor
 ·rintro ⟨i,⟨hi,hb⟩,rfl⟩
  obtain ⟨b,hb',_⟩:=zaf hi
  simp only[ydr,hb',decide_eq_true_eq]at hb
  exact (ztn hp ht hb').1 hb
 rintro ⟨a,c,h1,h2,h3,h4,hv⟩
 have hr:=zje hp (i:=a) (j:=c) (by omega) (by omega)
 rw [hv]at hr
 obtain ⟨b,hb',_⟩:=zaf (show x.toNat<(rP p).length by omega)
 refine ⟨x.toNat,⟨by omega,?_⟩,by omega⟩
 simp only[ydr,hb',decide_eq_true_eq]
 exact (ztn hp ht hb').2 ⟨a,c,h1,h2,h3,h4,by omega⟩
theorem z7i {rs:List Rect} {t:Rect}:(rms rs t).Nodup:=by
 unfold rms zdm
 rw [List.nodup_iff_pairwise_ne,List.pairwise_map]
 exact ((List.nodup_iff_pairwise_ne.1 List.nodup_range).filter _).imp fun h e=>h (Int.ofNat.inj e)
theorem z7j (hp:zaz p=true) (ht:Whole (zah p) p.length (zal p).length t) (h:zl4 (zah p) t=true):rms (rP p) t.rect=[zah p t.r t.c]:=by
 have hall:=zpk.1 h
 have hin:=ht.inn
 unfold Pt.In at hin
 have hm:∀ x,x∈rms (rP p) t.rect↔x=zah p t.r t.c:=by
  intro x
  rw [zm8 hp ht]
  constructor
  ·rintro ⟨a,c,h1,h2,h3,h4,rfl⟩
   have:=hall (a - t.r) (c - t.c) (by omega) (by omega)
   rwa [show t.r+(a - t.r)=a by omega,show t.c+(c - t.c)=c by omega]at this
  rintro rfl
  exact ⟨t.r,t.c,by omega,by omega,by omega,by omega,rfl⟩
 have hn:=z7i (rs:=rP p) (t:=t.rect)
 match hl:rms (rP p) t.rect,hm,hn with
 | [],hm,_=>exact absurd ((hm _).2 rfl) (by simp)
 | [x],hm,_=>rw [(hm x).1 (by simp)]
 | x::y::l,hm,hn =>
  have h1:=(hm x).1 (by simp)
  have h2:=(hm y).1 (by simp)
  rw [h1,h2]at hn
  simp at hn
theorem zvp (hp:zaz p=true) (ht:Whole (zah p) p.length (zal p).length t) (h:zl4 (zah p) t=false):2≤(rms (rP p) t.rect).length:=by
 have hin:=ht.inn
 unfold Pt.In at hin
 have hno:¬ ∀ i j,i<t.h→j<t.w→zah p (t.r+i) (t.c+j)=zah p t.r t.c:=by
  intro hc; rw [zpk.2 hc]at h; cases h
 match hl:rms (rP p) t.rect with
 | [] =>
  have:zah p t.r t.c∈rms (rP p) t.rect:=(zm8 hp ht).2 ⟨t.r,t.c,by omega,by omega,by omega,by omega,rfl⟩
  rw [hl]at this; simp at this
 | [x] =>
  exfalso
  apply hno
  intro i j hi hj
  have h1:zah p (t.r+i) (t.c+j)∈rms (rP p) t.rect:=(zm8 hp ht).2 ⟨t.r+i,t.c+j,by omega,by omega,by omega,by omega,rfl⟩
  have h2:zah p t.r t.c∈rms (rP p) t.rect:=(zm8 hp ht).2 ⟨t.r,t.c,by omega,by omega,by omega,by omega,rfl⟩
  rw [hl]at h1 h2
  simp at h1 h2
  omega
 | x::y::l=>simp
end
def thG (g:List (List Int)) (t:Pt) (level:Bool) (line:Nat):Bool:=if level then (List.range t.w).all fun j=>zns g true line (t.c+j) else (List.range t.h).all fun i=>zns g false line (t.r+i)
theorem yf4 {p:List Txt} (hp:zaz p=true) {t:Pt} (ht:t.In p.length (zal p).length) {k:Nat} (h1:1≤k) (h2:k<t.w):thG (gP p) t false (t.c+k)=thU (zah p) t k:=by
 have hN:=zdi hp
 obtain ⟨i1,i2,i3,i4⟩:=ht
 apply Bool.eq_iff_iff.2
 rw [z0o]
 simp only[thG,qF,if_false,List.all_eq_true,List.mem_range,zns,zcj,decide_eq_true_eq]
 constructor
 ·intro h i hi
  have:=h i hi
  rwa [hN.cell (by omega) (by omega),hN.cell (by omega) (by omega)]at this
 intro h i hi
 have:=h i hi
 rwa [hN.cell (by omega) (by omega),hN.cell (by omega) (by omega)]
theorem yf3 {p:List Txt} (hp:zaz p=true) {t:Pt} (ht:t.In p.length (zal p).length) {k:Nat} (h1:1≤k) (h2:k<t.h):thG (gP p) t true (t.r+k)=thL (zah p) t k:=by
 have hN:=zdi hp
 obtain ⟨i1,i2,i3,i4⟩:=ht
 apply Bool.eq_iff_iff.2
 rw [z0n]
 simp only[thG,if_true,List.all_eq_true,List.mem_range,zns,zcj,decide_eq_true_eq]
 constructor
 ·intro h i hi
  have:=h i hi
  rwa [hN.cell (by omega) (by omega),hN.cell (by omega) (by omega)]at this
 intro h i hi
 have:=h i hi
 rwa [hN.cell (by omega) (by omega),hN.cell (by omega) (by omega)]
def zrg (g:List (List Int)) (rs:List Rect) (lv:Bool) (x y:Rect):List PV := .bool lv::(zaw g rs::x.cells)++(zaw g rs::y.cells)
abbrev z1d (g:List (List Int)) (rs:List Rect) (t:Pt) (q:Bool × Nat):PV := .agg (zrg g rs q.1 (t.one q).rect (t.two q).rect)
end
section
def zc7 (z:Nat→Nat→Int) (t:Pt):Option CT:=tree z (t.h*t.w) t
section
variable {z:Nat→Nat→Int} {H W:Nat} {t:Pt}
theorem zfs (h:t.In H W):t.h*t.w=(t.h*t.w - 1)+1:=by have:=Nat.mul_pos h.1 h.2.1; omega
theorem zj1 (h:t.In H W) (h1:zl4 z t=true):zc7 z t=some (.leaf (z t.r t.c)):=by
 unfold zc7; rw [zfs h,tree,if_pos h1]
theorem zix (h:t.In H W) (h1:zl4 z t=false) (h2:zcv z t=none):zc7 z t=none:=by
 unfold zc7; rw [zfs h,tree,h1,h2]; rfl
theorem zhf (h:t.In H W) (h1:zl4 z t=false) {q:Bool × Nat} (h2:zcv z t=some q):zc7 z t=match zc7 z (t.one q),zc7 z (t.two q) with | some x,some y=>some (.node q.1 x y) | _,_=>none:=by
 obtain ⟨i1,i2,a1,a2⟩:=h.cut h2
 have:=zfs h
 rw [show zc7 z t=tree z ((t.h*t.w - 1)+1) t by unfold zc7; rw [← this]]
 simp only[tree,h1,h2,qF,if_false]
 unfold zc7
 rw [zmq (z:=z) _ i1 (qR _) (f:=t.h*t.w - 1) (g:=(t.one q).h*(t.one q).w) (by omega) (qR _),zmq (z:=z) _ i2 (qR _) (f:=t.h*t.w - 1) (g:=(t.two q).h*(t.two q).w) (by omega) (qR _)]
 all_goals (cases tree z ((t.one q).h*(t.one q).w) (t.one q) <;> cases tree z ((t.two q).h*(t.two q).w) (t.two q) <;> rfl)
def z4m (z:Nat→Nat→Int):Nat→Pt→Txt × Bool
 | 0,_=>([],false)
 | f+1,t=>if zl4 z t then ([UInt8.ofNat (z t.r t.c+65).toNat],true) else
  match zcv z t with
  | none=>([],false)
  | some q=>((if q.1 then [104] else [118])++(z4m z f (t.one q)).1++(z4m z f (t.two q)).1,(z4m z f (t.one q)).2 && (z4m z f (t.two q)).2)
theorem zp0:∀ (n:Nat) {t:Pt} {f g:Nat},t.In H W→t.h*t.w≤n→t.h*t.w≤f→t.h*t.w≤g→z4m z f t=z4m z g t
 | 0,t,f,g,hi,hn,_,_=>by have:=Nat.mul_pos hi.1 hi.2.1; omega
 | n+1,t,f,g,hi,hn,hf,hg=>by
  have:=Nat.mul_pos hi.1 hi.2.1
  obtain ⟨f,rfl⟩:∃ f',f=f'+1:=⟨f - 1,by omega⟩
  obtain ⟨g,rfl⟩:∃ g',g=g'+1:=⟨g - 1,by omega⟩
  simp only[z4m]
  split
  ·rfl
  cases hc:zcv z t with
  | none=>rfl
  | some q =>
   obtain ⟨i1,i2,a1,a2⟩:=hi.cut hc
   simp only
   rw [zp0 n i1 (f:=f) (g:=g) (by omega) (by omega) (by omega),zp0 n i2 (f:=f) (g:=g) (by omega) (by omega) (by omega)]
def zoo (z:Nat→Nat→Int) (t:Pt):Txt × Bool:=z4m z (t.h*t.w) t
theorem zv1 (h:t.In H W) (h1:zl4 z t=true):zoo z t=([UInt8.ofNat (z t.r t.c+65).toNat],true):=by
 unfold zoo; rw [zfs h,z4m,if_pos h1]
theorem zy0 (h:t.In H W) (h1:zl4 z t=false) (h2:zcv z t=none):zoo z t=([],false):=by
 unfold zoo; rw [zfs h,z4m,h1,h2]; rfl
theorem zkq (h:t.In H W) (h1:zl4 z t=false) {q:Bool × Nat} (h2:zcv z t=some q) :
  zoo z t=((if q.1 then [104] else [118])++(zoo z (t.one q)).1++(zoo z (t.two q)).1,(zoo z (t.one q)).2 && (zoo z (t.two q)).2):=by
 obtain ⟨i1,i2,a1,a2⟩:=h.cut h2
 have:=zfs h
 rw [show zoo z t=z4m z ((t.h*t.w - 1)+1) t by unfold zoo; rw [← this]]
 simp only[z4m,h1,h2,qF,if_false]
 unfold zoo
 rw [zp0 (z:=z) _ i1 (qR _) (f:=t.h*t.w - 1) (g:=(t.one q).h*(t.one q).w) (by omega) (qR _),zp0 (z:=z) _ i2 (qR _) (f:=t.h*t.w - 1) (g:=(t.two q).h*(t.two q).w) (by omega) (qR _)]
theorem z02 {q:Bool × Nat} (h2:zcv z t=some q):(t.one q).h*(t.one q).w+(t.two q).h*(t.two q).w=t.h*t.w:=by
 obtain ⟨h1,h3⟩:=zd8 h2
 obtain ⟨lv,k⟩:=q
 cases lv with
 | true =>
  simp only[if_true]at h3
  simp only[Pt.one,Pt.two,if_true]
  rw [← Nat.add_mul,show k+(t.h - k)=t.h by omega]
 | false =>
  simp only[qF,if_false]at h3
  simp only[Pt.one,Pt.two,qF,if_false]
  rw [← Nat.mul_add,show k+(t.w - k)=t.w by omega]
theorem zeq:∀ (n:Nat) {t:Pt},t.In H W→t.h*t.w≤n→(zoo z t).1.length+1≤2*(t.h*t.w)∧(zoo z t).2=(zc7 z t).isSome
 | 0,t,hi,hn=>by have:=Nat.mul_pos hi.1 hi.2.1; omega
 | n+1,t,hi,hn=>by
  have:=Nat.mul_pos hi.1 hi.2.1
  cases h1:zl4 z t with
  | true=>rw [zv1 hi h1,zj1 hi h1]; simp; omega
  | false =>
   cases hc:zcv z t with
   | none=>rw [zy0 hi h1 hc,zix hi h1 hc]; simp; omega
   | some q =>
    obtain ⟨i1,i2,a1,a2⟩:=hi.cut hc
    have ha:=z02 hc
    obtain ⟨b1,b2⟩:=zeq n i1 (by omega)
    obtain ⟨c1,c2⟩:=zeq n i2 (by omega)
    have p1:=Nat.mul_pos i1.1 i1.2.1
    rw [zkq hi h1 hc,zhf hi h1 hc]
    constructor
    ·simp only[List.length_append]
     have:(if q.1 then [(104:UInt8)] else [118]).length=1:=by split <;> rfl
     omega
    rw [b2,c2]
    cases zc7 z (t.one q) <;> cases zc7 z (t.two q) <;> rfl
def CT.leaves:CT→List Int
 | .leaf a=>[a]
 | .node _ x y=>x.leaves++y.leaves
theorem CT.pos (x:CT):1≤x.leaves.length:=by
 induction x with
 | leaf a=>simp [CT.leaves]
 | node lv x y h1 h2=>simp [CT.leaves]; omega
theorem zlr (hz:z8s z H W):∀ (n:Nat) {t:Pt} {x:CT},Whole z H W t→t.h*t.w≤n→zc7 z t=some x →
  x.leaves.Nodup∧(∀ v,v∈x.leaves↔∃ a c,t.r≤a∧a<t.r+t.h∧t.c≤c∧c<t.c+t.w∧z a c=v)∧x.leaves.length≤t.h*t.w
 | 0,t,x,hw,hn,_=>by have:=Nat.mul_pos hw.inn.1 hw.inn.2.1; omega
 | n+1,t,x,hw,hn,hx=>by
  have hi:=hw.inn
  have hpos:=Nat.mul_pos hi.1 hi.2.1
  cases h1:zl4 z t with
  | true =>
   rw [zj1 hi h1]at hx
   cases hx
   have hall:=zpk.1 h1
   refine ⟨by simp [CT.leaves],fun v=>?_,by simp [CT.leaves]; omega⟩
   simp only[CT.leaves,List.mem_singleton]
   constructor
   ·rintro rfl; exact ⟨t.r,t.c,by omega,by have:=hi.1; omega,by omega,by have:=hi.2.1; omega,rfl⟩
   rintro ⟨a,c,e1,e2,e3,e4,rfl⟩
   have:=hall (a - t.r) (c - t.c) (by omega) (by omega)
   rwa [show t.r+(a - t.r)=a by omega,show t.c+(c - t.c)=c by omega]at this
  | false =>
   cases hc:zcv z t with
   | none=>rw [zix hi h1 hc]at hx; cases hx
   | some q =>
    obtain ⟨i1,i2,a1,a2⟩:=hi.cut hc
    obtain ⟨w1,w2⟩:=hw.cut hz hc
    have ha:=z02 hc
    rw [zhf hi h1 hc]at hx
    cases hx1:zc7 z (t.one q) with
    | none=>rw [hx1]at hx; cases hx
    | some x1 =>
     cases hx2:zc7 z (t.two q) with
     | none=>rw [hx1,hx2]at hx; cases hx
     | some x2 =>
      rw [hx1,hx2]at hx
      cases hx
      obtain ⟨b1,b2,b3⟩:=zlr hz n w1 (by omega) hx1
      obtain ⟨c1,c2,c3⟩:=zlr hz n w2 (by omega) hx2
      obtain ⟨k1,k2⟩:=zd8 hc
      refine ⟨?_,fun v=>?_,by simp [CT.leaves]; omega⟩
      ·simp only[CT.leaves,List.nodup_append]
       refine ⟨b1,c1,fun v hv u hu e=>?_⟩
       subst e
       obtain ⟨a,c,e1,e2,e3,e4,e5⟩:=(b2 v).1 hv
       obtain ⟨a',c',f1,f2,f3,f4,f5⟩:=(c2 v).1 hu
       have hin1:=i1; have hin2:=i2
       unfold Pt.In at hin1 hin2
       have:=w1.all a c a' c' (by omega) (by omega) (by omega) (by omega) (e5.trans f5.symm) e1 e2 e3 e4
       obtain ⟨lv,k⟩:=q
       cases lv <;> simp only[Pt.one,Pt.two,qF,if_false,if_true] at * <;> omega
      simp only[CT.leaves,List.mem_append,b2,c2]
      obtain ⟨lv,k⟩:=q
      cases lv with
      | true =>
       simp only[Pt.one,Pt.two,if_true] at *
       constructor
       ·rintro (⟨a,c,e1,e2,e3,e4,e5⟩ | ⟨a,c,e1,e2,e3,e4,e5⟩)
        ·exact ⟨a,c,e1,by omega,e3,e4,e5⟩
        exact ⟨a,c,by omega,by omega,e3,e4,e5⟩
       rintro ⟨a,c,e1,e2,e3,e4,e5⟩
       rcases Nat.lt_or_ge a (t.r+k) with h | h
       ·exact .inl ⟨a,c,e1,h,e3,e4,e5⟩
       exact .inr ⟨a,c,h,by omega,e3,e4,e5⟩
      | false =>
       simp only[Pt.one,Pt.two,qF,if_false] at *
       constructor
       ·rintro (⟨a,c,e1,e2,e3,e4,e5⟩ | ⟨a,c,e1,e2,e3,e4,e5⟩)
        ·exact ⟨a,c,e1,e2,e3,by omega,e5⟩
        exact ⟨a,c,e1,e2,by omega,by omega,e5⟩
       rintro ⟨a,c,e1,e2,e3,e4,e5⟩
       rcases Nat.lt_or_ge c (t.c+k) with h | h
       ·exact .inl ⟨a,c,e1,e2,e3,h,e5⟩
       exact .inr ⟨a,c,e1,e2,h,by omega,e5⟩
end
theorem zvd:∀ {n:Nat} {l:List Int},l.Nodup→(∀ x∈l,0≤x∧x<n)→l.length≤n
 | 0,l,_,hb=>by
  cases l with
  | nil=>simp
  | cons a l=>have:=hb a (by simp); omega
 | n+1,l,h,hb=>by
  by_cases hm:(n:Int)∈l
  ·obtain ⟨l1,l2,rfl⟩:=List.append_of_mem hm
   have hnd:=List.nodup_append.1 h
   have:=zvd (n:=n) (l:=l1++l2) (h.sublist (by simp)) fun x hx=>by
    have h1:=hb x (by rcases List.mem_append.1 hx with h9 | h9 <;> simp [h9])
    have h2:x≠n:=by
     rintro rfl
     rcases List.mem_append.1 hx with h9 | h9
     ·exact hnd.2.2 _ h9 _ (by simp) rfl
     exact (List.nodup_cons.1 hnd.2.1).1 h9
    omega
   simp at this ⊢; omega
  have:=zvd (n:=n) h fun x hx=>by
   have h1:=hb x hx
   have h2:x≠n:=by rintro rfl; exact hm hx
   omega
  omega
end
section
section
variable {c:Nat→Nat→Nat} {H W:Nat}
def yex (c:Nat→Nat→Nat) (t:Pt) (i j:Nat):Nat:=c (t.r+i) (t.c+j)
theorem Pl.sub (h:Pl c H W) {t:Pt} (ht:t.In H W):Pl (yex c t) t.h t.w:=by
 obtain ⟨t1,t2,t3,t4⟩:=ht
 constructor
 ·intro i j i' j' k l a b c' d e f1 f2 f3 f4
  exact h.rect (t.r+k) (t.c+l) (by omega) (by omega) (by omega) (by omega) e (by omega) (by omega) (by omega) (by omega)
 intro i j a b e1 e2 e3
 exact h.plain (i:=t.r+i) (j:=t.c+j) (by omega) (by omega) e1 e2 e3
theorem DL.sub {t:Pt} (ht:t.In H W) {a b:Nat} (h:DL (yex c t) t.h t.w a b):DL c H W a b:=by
 obtain ⟨t1,t2,t3,t4⟩:=ht
 obtain ⟨j,i1,i2,a1,a2,a3,a4,a5,a6⟩:=h
 refine ⟨t.c+j,t.r+i1,t.r+i2,by omega,by omega,by omega,fun r h1 h2=>?_,a5,a6⟩
 have:=a4 (r - t.r) (by omega) (by omega)
 simp only[yex]at this
 rwa [show t.r+(r - t.r)=r by omega]at this
theorem DU.sub {t:Pt} (ht:t.In H W) {a b:Nat} (h:DU (yex c t) t.h t.w a b):DU c H W a b:=by
 obtain ⟨t1,t2,t3,t4⟩:=ht
 obtain ⟨i,j1,j2,a1,a2,a3,a4,a5,a6⟩:=h
 refine ⟨t.r+i,t.c+j1,t.c+j2,by omega,by omega,by omega,fun r h1 h2=>?_,a5,a6⟩
 have:=a4 (r - t.c) (by omega) (by omega)
 simp only[yex]at this
 rwa [show t.c+(r - t.c)=r by omega]at this
end
section
variable {p:List Txt}
end
inductive Ch (M:List (List Bool)) (ws:List Int) (a:Nat):Nat→Int→Prop
 | one:Ch M ws a a (zjl ws a)
 | snoc {b d:Nat} {s:Int}:Ch M ws a b s→zcn M b d=true→Ch M ws a d (s+zjl ws d)
section
variable {M:List (List Bool)} {ws:List Int} {n:Nat} {rk:Nat→Nat}
theorem Ch.le (hu:Up M n rk) (hsq:∀ a b,zcn M a b=true→a<n) {a b:Nat} {s:Int} (h:Ch M ws a b s):b<n→s≤HB M ws n b:=by
 induction h with
 | one=>intro hb; rw [yaq hu hb]; have:=yd5 (M:=M) (ws:=ws) (n:=n) a; omega
 | snoc k hk ih =>
  intro hb
  have h1:=ih (hsq _ _ hk)
  have h2:=yd4 (ws:=ws) (hsq _ _ hk) hk
  rw [yaq hu hb]; omega
end
section
variable {p:List Txt}
end
end
section
inductive Sp (L U:Nat→Nat→Prop):(Nat→Prop)→Prop
 | one {A:Nat→Prop} (a:Nat):A a→(∀ b,A b→b=a)→Sp L U A
 | left {A:Nat→Prop} (B:Nat→Prop):(∃ a,A a∧B a)→(∃ a,A a∧¬ B a)→(∀ a b,A a→B a→A b→¬ B b→L a b)→Sp L U (fun a=>A a∧B a)→Sp L U (fun a=>A a∧¬ B a)→Sp L U A
 | up {A:Nat→Prop} (B:Nat→Prop):(∃ a,A a∧B a)→(∃ a,A a∧¬ B a)→(∀ a b,A a→B a→A b→¬ B b→U a b)→Sp L U (fun a=>A a∧B a)→Sp L U (fun a=>A a∧¬ B a)→Sp L U A
theorem Sp.congr {L U:Nat→Nat→Prop} {A A':Nat→Prop} (h:Sp L U A) (e:∀ a,A a↔A' a):Sp L U A':=by
 have:A=A':=funext fun a=>propext (e a)
 rwa [← this]
theorem Sp.ne {L U:Nat→Nat→Prop} {A:Nat→Prop} (h:Sp L U A):∃ a,A a:=by
 cases h with
 | one a h _=>exact ⟨a,h⟩
 | left B h=>obtain ⟨a,h,_⟩:=h; exact ⟨a,h⟩
 | up B h=>obtain ⟨a,h,_⟩:=h; exact ⟨a,h⟩
theorem Sp.map {L U L' U':Nat→Nat→Prop} {A:Nat→Prop} (g:Nat→Nat) (h:Sp L U A):∀ {A':Nat→Prop},(∀ i,A' i→A (g i))→(∀ a,A a→∃ i,A' i∧g i=a)→(∀ i j,A' i→A' j→g i=g j→i=j) →
  (∀ i j,A' i→A' j→L (g i) (g j)→L' i j)→(∀ i j,A' i→A' j→U (g i) (g j)→U' i j)→Sp L' U' A':=by
 induction h with
 | one a ha hu =>
  intro A' h1 h2 h3 h4 h5
  obtain ⟨i,hi,e⟩:=h2 a ha
  exact .one i hi fun j hj=>h3 j i hj hi ((hu _ (h1 j hj)).trans e.symm)
 | left B hb hn hl _ _ i1 i2 =>
  intro A' h1 h2 h3 h4 h5
  refine .left (fun i=>B (g i)) ?_ ?_ (fun a b ha hba hb' hnb=>h4 a b ha hb' (hl _ _ (h1 a ha) hba (h1 b hb') hnb)) (i1 (fun i hi=>⟨h1 i hi.1,hi.2⟩) (fun a ha=>?_) (fun i j hi hj=>h3 i j hi.1 hj.1) (fun i j hi hj=>h4 i j hi.1 hj.1) fun i j hi hj=>h5 i j hi.1 hj.1)
   (i2 (fun i hi=>⟨h1 i hi.1,hi.2⟩) (fun a ha=>?_) (fun i j hi hj=>h3 i j hi.1 hj.1) (fun i j hi hj=>h4 i j hi.1 hj.1) fun i j hi hj=>h5 i j hi.1 hj.1)
  ·obtain ⟨a,ha,hb⟩:=hb; obtain ⟨i,hi,e⟩:=h2 a ha; exact ⟨i,hi,by rw [e]; exact hb⟩
  ·obtain ⟨a,ha,hb⟩:=hn; obtain ⟨i,hi,e⟩:=h2 a ha; exact ⟨i,hi,by rw [e]; exact hb⟩
  ·obtain ⟨i,hi,e⟩:=h2 a ha.1; exact ⟨i,⟨hi,by rw [e]; exact ha.2⟩,e⟩
  obtain ⟨i,hi,e⟩:=h2 a ha.1; exact ⟨i,⟨hi,by rw [e]; exact ha.2⟩,e⟩
 | up B hb hn hl _ _ i1 i2 =>
  intro A' h1 h2 h3 h4 h5
  refine .up (fun i=>B (g i)) ?_ ?_ (fun a b ha hba hb' hnb=>h5 a b ha hb' (hl _ _ (h1 a ha) hba (h1 b hb') hnb)) (i1 (fun i hi=>⟨h1 i hi.1,hi.2⟩) (fun a ha=>?_) (fun i j hi hj=>h3 i j hi.1 hj.1) (fun i j hi hj=>h4 i j hi.1 hj.1) fun i j hi hj=>h5 i j hi.1 hj.1)
   (i2 (fun i hi=>⟨h1 i hi.1,hi.2⟩) (fun a ha=>?_) (fun i j hi hj=>h3 i j hi.1 hj.1) (fun i j hi hj=>h4 i j hi.1 hj.1) fun i j hi hj=>h5 i j hi.1 hj.1)
  ·obtain ⟨a,ha,hb⟩:=hb; obtain ⟨i,hi,e⟩:=h2 a ha; exact ⟨i,hi,by rw [e]; exact hb⟩
  ·obtain ⟨a,ha,hb⟩:=hn; obtain ⟨i,hi,e⟩:=h2 a ha; exact ⟨i,hi,by rw [e]; exact hb⟩
  ·obtain ⟨i,hi,e⟩:=h2 a ha.1; exact ⟨i,⟨hi,by rw [e]; exact ha.2⟩,e⟩
  obtain ⟨i,hi,e⟩:=h2 a ha.1; exact ⟨i,⟨hi,by rw [e]; exact ha.2⟩,e⟩
theorem Sp.sub {L U:Nat→Nat→Prop} {A:Nat→Prop} (h:Sp L U A):∀ {A':Nat→Prop},(∀ a,A' a→A a)→(∃ a,A' a)→Sp L U A':=by
 induction h with
 | one a ha hu =>
  intro A' h1 ⟨b,hb⟩
  exact .one b hb fun d hd=>(hu d (h1 d hd)).trans (hu b (h1 b hb)).symm
 | left B _ _ hl _ _ i1 i2 =>
  intro A' h1 h2
  by_cases hb:∃ a,A' a∧B a
  ·by_cases hn:∃ a,A' a∧¬ B a
   ·exact .left B hb hn (fun a b ha hba hb' hnb=>hl a b (h1 a ha) hba (h1 b hb') hnb) (i1 (fun a ha=>⟨h1 a ha.1,ha.2⟩) hb) (i2 (fun a ha=>⟨h1 a ha.1,ha.2⟩) hn)
   exact i1 (fun a ha=>⟨h1 a ha,Classical.byContradiction fun h=>hn ⟨a,ha,h⟩⟩) h2
  exact i2 (fun a ha=>⟨h1 a ha,fun h=>hb ⟨a,ha,h⟩⟩) h2
 | up B _ _ hl _ _ i1 i2 =>
  intro A' h1 h2
  by_cases hb:∃ a,A' a∧B a
  ·by_cases hn:∃ a,A' a∧¬ B a
   ·exact .up B hb hn (fun a b ha hba hb' hnb=>hl a b (h1 a ha) hba (h1 b hb') hnb) (i1 (fun a ha=>⟨h1 a ha.1,ha.2⟩) hb) (i2 (fun a ha=>⟨h1 a ha.1,ha.2⟩) hn)
   exact i1 (fun a ha=>⟨h1 a ha,Classical.byContradiction fun h=>hn ⟨a,ha,h⟩⟩) h2
  exact i2 (fun a ha=>⟨h1 a ha,fun h=>hb ⟨a,ha,h⟩⟩) h2
section
variable {p:List Txt}
end
end
section
section
variable {c:Nat→Nat→Nat} {H W:Nat}
theorem DU.rows (h:Pl c H W) {u v:Nat} (hd:DU c H W u v) {i j i' j':Nat} (hi:i<H) (hj:j<W) (hi':i'<H) (hj':j'<W) (hu:c i j=u) (hv:c i' j'=v):i<i':=by
 obtain ⟨l,j1,j2,a1,a2,a3,a4,a5,a6⟩:=hd
 have k1:i≤l:=by
  refine Nat.le_of_not_lt fun hlt=>a4 j1 (by omega) (by omega) ?_
  have:=h.rect (i:=i) (j:=j) (i':=l) (j':=j1) (l+1) j1 hi (by omega) hj a2 (by rw [hu,a5]) (by omega) (by omega) (by omega) (by omega)
  rw [this,hu,a5]
 have k2:l+1≤i':=by
  refine Nat.le_of_not_lt fun hlt=>a4 j2 (by omega) (by omega) ?_
  have:=h.rect (i:=i') (j:=j') (i':=l+1) (j':=j2) l j2 hi' (by omega) hj' a3 (by rw [hv,a6]) (by omega) (by omega) (by omega) (by omega)
  rw [this,hv,a6]
 omega
theorem TCU.rows (h:Pl c H W) {u v:Nat} (hd:TC (DU c H W) u v):∀ {i j i' j':Nat},i<H→j<W→i'<H→j'<W→c i j=u→c i' j'=v→i<i':=by
 induction hd with
 | one hd=>exact DU.rows h hd
 | tail _ k ih =>
  intro i j i' j' hi hj hi' hj' hu hv
  obtain ⟨l,j1,j2,a1,a2,a3,a4,a5,a6⟩:=id k
  have h1:=ih hi hj (show l<H by omega) a2 hu a5.symm
  have h2:=DU.rows h k (show l<H by omega) a2 hi' hj' a5.symm hv
  omega
end
section
variable {p:List Txt}
theorem DL.lt (hp:zhp p=true) {a b:Nat} (h:DL (cn (gP p)) p.length (zal p).length a b):a<(rP p).length∧b<(rP p).length:=by
 obtain ⟨j,i1,i2,h1,h2,h3,-,rfl,rfl⟩:=h
 exact ⟨zr6 zi0 h2 (by omega),zr6 zi0 h3 h1⟩
theorem DU.lt (hp:zhp p=true) {a b:Nat} (h:DU (cn (gP p)) p.length (zal p).length a b):a<(rP p).length∧b<(rP p).length:=by
 obtain ⟨j,i1,i2,h1,h2,h3,-,rfl,rfl⟩:=h
 exact ⟨zr6 zi0 (by omega) h2,zr6 zi0 h1 h3⟩
end
end
section
def Tight (a b c d:Int):Prop:=(c<a∧a<d∧d<b)∨(b<d∧d<a∧a<c)
def Avoid (v:Nat→Int) (A:Nat→Prop):Prop:=∀ a b c d,A a→A b→A c→A d→a<b→b<c→c<d→¬ Tight (v a) (v b) (v c) (v d)
def Inj (v:Nat→Int) (A:Nat→Prop):Prop:=∀ a b,A a→A b→v a=v b→a=b
def LS (v:Nat→Int) (A B:Nat→Prop):Prop:=(∃ a,A a∧B a)∧(∃ a,A a∧¬ B a)∧∀ a b,A a→B a→A b→¬ B b→a<b∧v a<v b
def DS (v:Nat→Int) (A B:Nat→Prop):Prop:=(∃ a,A a∧B a)∧(∃ a,A a∧¬ B a)∧∀ a b,A a→B a→A b→¬ B b→a<b∧v b<v a
theorem LS.neg {v:Nat→Int} {A B:Nat→Prop} (h:LS (fun i => -v i) A B):DS v A B :=
 ⟨h.1,h.2.1,fun a b h1 h2 h3 h4=>by have:=h.2.2 a b h1 h2 h3 h4; simp only at this; omega⟩
theorem DS.neg {v:Nat→Int} {A B:Nat→Prop} (h:DS (fun i => -v i) A B):LS v A B :=
 ⟨h.1,h.2.1,fun a b h1 h2 h3 h4=>by have:=h.2.2 a b h1 h2 h3 h4; simp only at this; omega⟩
theorem DS.pos {v:Nat→Int} {A B:Nat→Prop} (h:DS v A B):LS (fun i => -v i) A B :=
 ⟨h.1,h.2.1,fun a b h1 h2 h3 h4=>by have:=h.2.2 a b h1 h2 h3 h4; refine ⟨this.1,?_⟩; show -v a < -v b; omega⟩
theorem Avoid.neg {v:Nat→Int} {A:Nat→Prop} (h:Avoid v A):Avoid (fun i => -v i) A:=fun a b c d h1 h2 h3 h4 h5 h6 h7 k =>
 h a b c d h1 h2 h3 h4 h5 h6 h7 (by unfold Tight at k ⊢; simp only at k; omega)
theorem Inj.neg {v:Nat→Int} {A:Nat→Prop} (h:Inj v A):Inj (fun i => -v i) A:=fun a b h1 h2 h3=>h a b h1 h2 (by simp only at h3; omega)
theorem Avoid.sub {v:Nat→Int} {A A':Nat→Prop} (h:Avoid v A) (k:∀ a,A' a→A a):Avoid v A':=fun a b c d h1 h2 h3 h4=>h a b c d (k a h1) (k b h2) (k c h3) (k d h4)
theorem Inj.sub {v:Nat→Int} {A A':Nat→Prop} (h:Inj v A) (k:∀ a,A' a→A a):Inj v A':=fun a b h1 h2=>h a b (k a h1) (k b h2)
section
variable {l:List Int}
end
end
theorem z1r {p:List Txt} (hs:Sm p) (hg:zb3 p=true):PC Tryz.prog 48 [zai p] (.bool (z8k p)) true:=by
 have hp:=hs.rows
 have hsm:=zay hg
 obtain ⟨row0,hrow0,hrm0⟩:=zaf hsm.1
 have hhd:=zca hrow0
 have hw6:=hsm.2.2 row0 hrm0
 have hw1:=zfn hg hrow0
 obtain ⟨c0,hc0,-⟩:=zaf (show 0<row0.length by omega)
 have hone:z8k p=p.all (fun row=>row.all fun c=>decide (c=c0)):=by simp [z8k,hhd,hc0]
 refine PC.of ⟨Tryz.func48,by kernel_rfl,rfl,by kernel_rfl⟩ zao mixed (by show 1≤Tryz.f48.ntmps; decide) ?_
 refine W.r fun K hK=>?_
 simp(disch:=omega)only[↓RU,RV,RH,↓reduceIte,qE,reduceCtorEq,if_pos]
 apply hK;clear hK K
 refine W.seq ?_
 refine W.r fun K hK=>?_
 simp(disch:=omega)only[↓RU,RV,RH,↓reduceIte,qE,reduceCtorEq,if_pos]
 apply hK;clear hK K
 refine W.block ?_
 refine W.loop [0,3] (fun n vs S=>∃ i:Nat,n=p.length - i∧i≤p.length∧((p.take i).all (fun row=>row.all fun c=>decide (c=c0))=true)∧vs=[zai p,.int .i64 i]∧S=⟨[],0⟩) (p.length) ?_ ?_
 ·refine ⟨0,0,rfl,Nat.zero_le _,rfl,?_,rfl⟩
  simp [Env.put,Env.of,zag]
 rintro n vs S - ⟨i,rfl,h_i,hall,rfl,rfl⟩
 refine W.seq ?_
 refine W.r fun K hK=>?_
 simp(disch:=omega)only[↓RU,RV,RH,↓reduceIte,qE,reduceCtorEq,if_pos,w64,ty4,zaa,zab]
 apply hK;clear hK K
 refine W.cond rfl (fun h=>?_) (fun h=>?_)
 ·try simp only[RL]at h
  obtain ⟨row,hrow,hrm⟩:=zaf (show i<p.length by omega)
  have hrl:=hsm.2.2 row hrm
  refine W.skip ?_
  refine xn ?_
  refine W.seq ?_
  refine W.block ?_
  refine W.r fun K hK=>?_
  simp(disch:=omega)only[↓RU,RV,RH,↓reduceIte,qE,reduceCtorEq,if_pos]
  apply hK;clear hK K
  refine W.block ?_
  refine W.loop [0,3,4] (fun n vs S=>∃ k:Nat,n=row.length - k∧k≤row.length∧((row.take k).all (fun c=>decide (c=c0))=true)∧vs=[zai p,.int .i64 i,.int .i64 k]∧S=⟨[],0⟩) (row.length) ?_ ?_
  ·refine ⟨0,0,rfl,Nat.zero_le _,rfl,?_,rfl⟩
   simp [Env.put,Env.of]
  rintro n vs S - ⟨k,rfl,h_k,hr2,rfl,rfl⟩
  refine W.seq ?_
  refine W.r fun K hK=>?_
  simp(disch:=omega)only[↓RU,RV,RH,↓reduceIte,qE,reduceCtorEq,if_pos,w64,ty4,zaa,zab,hrow]
  apply hK;clear hK K
  refine W.cond rfl (fun h1=>?_) (fun h1=>?_)
  ·try simp only[RL]at h1
   obtain ⟨c,hc,hcm⟩:=zaf (show k<row.length by omega)
   refine W.skip ?_
   refine xn ?_
   refine W.seq ?_
   refine W.block ?_
   refine W.seq_draw (by kernel_rfl) fun K hK=>?_
   simp(disch:=omega)only[↓RU,RV,RH,↓reduceIte,qE,reduceCtorEq,if_pos,w64,ty4,zab,zdw,hrow,hc,hrow0,hc0,Int.toNat_zero,Nat.zero_mul,qZ]
   apply hK;clear hK K
   refine W.cond rfl (fun h2=>?_) (fun h2=>?_)
   ·try simp only[RL]at h2
    have hne:¬ c=c0:=by rintro rfl; simp at h2
    refine W.r fun K hK=>?_
    simp(disch:=omega)only[↓RU,RV,RH,↓reduceIte,qE,reduceCtorEq,if_pos]
    apply hK;clear hK K
    refine W.ret ?_
    refine XBlock.ret ?_
    refine XThen.ret ?_
    refine XThen.ret ?_
    refine XBlock.ret ?_
    refine XBlock.ret ?_
    refine XThen.ret ?_
    refine XThen.ret ?_
    refine XBlock.ret ?_
    refine XThen.ret ?_
    refine Br rfl ?_
    have:z8k p=false:=by rw [hone,List.all_eq_false]; exact ⟨row,hrm,by simp only[Bool.not_eq_true,List.all_eq_false]; exact ⟨c,hcm,by simpa using hne⟩⟩
    rw [this]
    rfl
   try simp only[RL]at h2
   have heq:c=c0:=by simpa [ydo] using h2
   refine W.skip ?_
   refine XbN ?_
   refine xn ?_
   refine W.k fun K hK=>?_
   simp(disch:=omega)only[↓RU,RV,RH,↓reduceIte,qE,reduceCtorEq,if_pos,w64,zaa]
   apply hK;clear hK K
   refine xn ?_
   refine ⟨row.length - (k+1),by omega,0,k+1,rfl,by omega,zs0 hc hr2 (decide_eq_true heq),?_,rfl⟩
   simp [Env.put,Env.of]
  try simp only[RL]at h1
  have hrk:k=row.length:=by omega
  rw [hrk,List.take_length]at hr2
  refine W.exit ?_
  refine xe ?_
  refine xe ?_
  refine XBlock.hit ?_
  refine XbN ?_
  refine xn ?_
  refine W.k fun K hK=>?_
  simp(disch:=omega)only[↓RU,RV,RH,↓reduceIte,qE,reduceCtorEq,if_pos,w64,zaa]
  apply hK;clear hK K
  refine xn ?_
  refine ⟨p.length - (i+1),by omega,0,i+1,rfl,by omega,zs0 hrow hall hr2,?_,rfl⟩
  simp [Env.put,Env.of]
 try simp only[RL]at h
 refine W.exit ?_
 refine xe ?_
 refine xe ?_
 refine XBlock.hit ?_
 refine xn ?_
 refine W.r fun K hK=>?_
 simp(disch:=omega)only[↓RU,RV,RH,↓reduceIte,qE,reduceCtorEq,if_pos]
 apply hK;clear hK K
 refine W.ret ?_
 refine Br rfl ?_
 have hip:i=p.length:=by omega
 rw [hip,List.take_length]at hall
 rw [hone,hall]
 rfl
theorem zkc {p:List Txt} (hs:Sm p) (hg:zb3 p=true):PC Tryz.prog 49 [zai p] (.tup [.int .i64 (z8j p).1,.int .i64 (z8j p).2]) true:=by
 have hp:=hs.rows
 have hsm:=zay hg
 obtain ⟨row0,hrow0,hrm0⟩:=zaf hsm.1
 have hhd:=zca hrow0
 have hw6:=hsm.2.2 row0 hrm0
 have hw1:=zfn hg hrow0
 obtain ⟨c0,hc0,-⟩:=zaf (show 0<row0.length by omega)
 have hgt:=z4g hg
 have hst:=Sm.grid hgt
 have hsmt:=zay hgt
 have htl:=zj0 (p:=p)
 have hth:=zpz (p:=p) (by rw [hhd]; omega)
 have hul:(uprights p).length≤100:=by have h1:=zmr p (zal p).length; have h2:(p.length+1)*(zal p).length≤7*6:=Nat.mul_le_mul (by omega) (by rw [hhd]; omega); unfold uprights; omega
 have hvl:(uprights (zck p)).length≤100:=by have h1:=zmr (zck p) (zal (zck p)).length; have h2:((zck p).length+1)*(zal (zck p)).length≤7*6:=Nat.mul_le_mul (by omega) (by omega); unfold uprights; omega
 refine PC.of ⟨Tryz.func49,by kernel_rfl,rfl,by kernel_rfl⟩ zao mixed (by show 1≤Tryz.f49.ntmps; decide) ?_
 refine W.r fun K hK=>?_
 simp(disch:=omega)only[↓RU,RV,RH,↓reduceIte,qE,reduceCtorEq,if_pos]
 apply hK;clear hK K
 refine W.r fun K hK=>?_
 simp(disch:=omega)only[↓RU,RV,RH,↓reduceIte,qE,reduceCtorEq,if_pos,qN]
 refine zac.pc (zn2 hs hg) rfl (.inr rfl) ?_
 simp(disch:=omega)only[↓RU,RV,RH,↓reduceIte,qE,reduceCtorEq,if_pos,qN]
 apply hK;clear hK K
 refine W.seq ?_
 refine W.r fun K hK=>?_
 simp(disch:=omega)only[↓RU,RV,RH,↓reduceIte,qE,reduceCtorEq,if_pos]
 apply hK;clear hK K
 refine W.block ?_
 refine W.loop [0,4,5] (fun n vs S=>∃ i:Nat,n=(uprights p).length - i∧i≤(uprights p).length∧(((uprights p).take i).find? (zey p.length)=none)∧vs=[zai p,.sl ((uprights p).map eInts) (uprights p).length,.int .i64 i]∧S=⟨[],0⟩) ((uprights p).length) ?_ ?_
 ·refine ⟨0,0,rfl,Nat.zero_le _,rfl,?_,rfl⟩
  simp [Env.put,Env.of,zag]
 rintro n vs S - ⟨i,rfl,h_i,hno,rfl,rfl⟩
 refine W.seq ?_
 refine W.r fun K hK=>?_
 simp(disch:=omega)only[↓RU,RV,RH,↓reduceIte,qE,reduceCtorEq,if_pos,w64,ty1,zae,zaa]
 apply hK;clear hK K
 refine W.cond rfl (fun h=>?_) (fun h=>?_)
 ·try simp only[RL]at h
  obtain ⟨u,hu,hum⟩:=zaf (show i<(uprights p).length by omega)
  obtain ⟨k,f,l,rfl,hk⟩:=yb3 hum
  refine W.skip ?_
  refine xn ?_
  refine W.seq ?_
  refine W.block ?_
  refine W.r fun K hK=>?_
  simp(disch:=omega)only[↓RU,RV,RH,↓reduceIte,qE,reduceCtorEq,if_pos,w64,ty1,zae,ty4,zaa,zab,hu]
  apply hK;clear hK K
  refine W.cond rfl (fun h1=>?_) (fun h1=>?_)
  ·try simp only[RL]at h1
   have hlong:zey p.length [(k:Int),(f:Int),(l:Int)]=true:=by simp [zey,zjl]; omega
   refine W.seq_draw (by kernel_rfl) fun K hK=>?_
   simp(disch:=omega)only[↓RU,RV,RH,↓reduceIte,qE,reduceCtorEq,if_pos,ty1,zae,zaa,hu]
   apply hK;clear hK K
   refine W.ret ?_
   refine XBlock.ret ?_
   refine XThen.ret ?_
   refine XThen.ret ?_
   refine XBlock.ret ?_
   refine XThen.ret ?_
   refine Br rfl ?_
   rw [show z8j p=(0,(k:Int)) by unfold z8j; rw [zwz hu hno hlong]; rfl]
   rfl
  try simp only[RL]at h1
  have hlong:zey p.length [(k:Int),(f:Int),(l:Int)]=false:=by simp [zey,zjl]; omega
  refine W.skip ?_
  refine XbN ?_
  refine xn ?_
  refine W.k fun K hK=>?_
  simp(disch:=omega)only[↓RU,RV,RH,↓reduceIte,qE,reduceCtorEq,if_pos,w64,zaa]
  apply hK;clear hK K
  refine xn ?_
  refine ⟨(uprights p).length - (i+1),by omega,0,i+1,rfl,by omega,zny hu hno hlong,?_,rfl⟩
  simp [Env.put,Env.of]
 try simp only[RL]at h
 have hip:i=(uprights p).length:=by omega
 rw [hip,List.take_length]at hno
 refine W.exit ?_
 refine xe ?_
 refine xe ?_
 refine XBlock.hit ?_
 refine xn ?_
 refine W.r fun K hK=>?_
 simp(disch:=omega)only[↓RU,RV,RH,↓reduceIte,qE,reduceCtorEq,if_pos,qN]
 refine zac.pc (z3l hs hg) rfl (.inl rfl) ?_
 simp(disch:=omega)only[↓RU,RV,RH,↓reduceIte,qE,reduceCtorEq,if_pos,qN]
 refine zac.pc (zn2 hst hgt) rfl (.inr rfl) ?_
 simp(disch:=omega)only[↓RU,RV,RH,↓reduceIte,qE,reduceCtorEq,if_pos,qN]
 apply hK;clear hK K
 refine W.seq ?_
 refine W.r fun K hK=>?_
 simp(disch:=omega)only[↓RU,RV,RH,↓reduceIte,qE,reduceCtorEq,if_pos]
 apply hK;clear hK K
 refine W.block ?_
 refine W.loop [0,6,7] (fun n vs S=>∃ i:Nat,n=(uprights (zck p)).length - i∧i≤(uprights (zck p)).length∧(((uprights (zck p)).take i).find? (zey (zal p).length)=none)∧vs=[zai p,.sl ((uprights (zck p)).map eInts) (uprights (zck p)).length,.int .i64 i]∧S=⟨[],0⟩) ((uprights (zck p)).length) ?_ ?_
 ·refine ⟨0,0,rfl,Nat.zero_le _,rfl,?_,rfl⟩
  simp [Env.put,Env.of,zag]
 rintro n vs S - ⟨i,rfl,h_i,hno2,rfl,rfl⟩
 refine W.seq ?_
 refine W.r fun K hK=>?_
 simp(disch:=omega)only[↓RU,RV,RH,↓reduceIte,qE,reduceCtorEq,if_pos,w64,ty1,zae,zaa]
 apply hK;clear hK K
 refine W.cond rfl (fun h=>?_) (fun h=>?_)
 ·try simp only[RL]at h
  obtain ⟨u,hu,hum⟩:=zaf (show i<(uprights (zck p)).length by omega)
  obtain ⟨k,f,l,rfl,hk⟩:=yb3 hum
  refine W.skip ?_
  refine xn ?_
  refine W.seq ?_
  refine W.block ?_
  refine W.seq_draw (by kernel_rfl) fun K hK=>?_
  simp(disch:=omega)only[↓RU,RV,RH,↓reduceIte,qE,reduceCtorEq,if_pos,w64,ty1,zae,ty4,zaa,zab,hu,hrow0,Int.toNat_zero,Nat.zero_mul,qZ]
  apply hK;clear hK K
  refine W.cond rfl (fun h1=>?_) (fun h1=>?_)
  ·try simp only[RL]at h1
   have hlong:zey (zal p).length [(k:Int),(f:Int),(l:Int)]=true:=by simp [zey,zjl,hhd]; omega
   refine W.seq_draw (by kernel_rfl) fun K hK=>?_
   simp(disch:=omega)only[↓RU,RV,RH,↓reduceIte,qE,reduceCtorEq,if_pos,ty1,zae,zaa,hu]
   apply hK;clear hK K
   refine W.ret ?_
   refine XBlock.ret ?_
   refine XThen.ret ?_
   refine XThen.ret ?_
   refine XBlock.ret ?_
   refine XThen.ret ?_
   refine Br rfl ?_
   rw [show z8j p=(1,(k:Int)) by unfold z8j; rw [hno,zwz hu hno2 hlong]; rfl]
   rfl
  try simp only[RL]at h1
  have hlong:zey (zal p).length [(k:Int),(f:Int),(l:Int)]=false:=by simp [zey,zjl,hhd]; omega
  refine W.skip ?_
  refine XbN ?_
  refine xn ?_
  refine W.k fun K hK=>?_
  simp(disch:=omega)only[↓RU,RV,RH,↓reduceIte,qE,reduceCtorEq,if_pos,w64,zaa]
  apply hK;clear hK K
  refine xn ?_
  refine ⟨(uprights (zck p)).length - (i+1),by omega,0,i+1,rfl,by omega,zny hu hno2 hlong,?_,rfl⟩
  simp [Env.put,Env.of]
 try simp only[RL]at h
 have hip:i=(uprights (zck p)).length:=by omega
 rw [hip,List.take_length]at hno2
 refine W.exit ?_
 refine xe ?_
 refine xe ?_
 refine XBlock.hit ?_
 refine xn ?_
 refine W.r fun K hK=>?_
 simp(disch:=omega)only[↓RU,RV,RH,↓reduceIte,qE,reduceCtorEq,if_pos]
 apply hK;clear hK K
 refine W.ret ?_
 refine Br rfl ?_
 rw [show z8j p=(0,0) by unfold z8j; rw [hno,hno2]]
 rfl
theorem yc0 {p:List Txt} {i k:Nat} {row:Txt} (h:p[i]?=some row):zgr (p.take (i+1)) (false,k)=zgr (p.take i) (false,k)++[row.take k]:=by simp [zgr,tk h]
theorem yc1 {p:List Txt} {i k:Nat} {row:Txt} (h:p[i]?=some row):zgs (p.take (i+1)) (false,k)=zgs (p.take i) (false,k)++[row.drop k]:=by simp [zgs,tk h]
theorem z60 {p:List Txt} {i k:Nat} {row:Txt} (h:p[i]?=some row):zgr (p.take (i+1)) (true,k)=if i<k then zgr (p.take i) (true,k)++[row] else zgr (p.take i) (true,k):=by
 have hl:=(List.getElem?_eq_some_iff.1 h).1
 simp only[zgr,if_true,List.take_take]
 split
 ·rw [Nat.min_eq_right (by omega),Nat.min_eq_right (by omega),tk h]
 rw [Nat.min_eq_left (by omega),Nat.min_eq_left (by omega)]
theorem z61 {p:List Txt} {i k:Nat} {row:Txt} (h:p[i]?=some row):zgs (p.take (i+1)) (true,k)=if i<k then zgs (p.take i) (true,k) else zgs (p.take i) (true,k)++[row]:=by
 have hl:=(List.getElem?_eq_some_iff.1 h).1
 simp only[zgs,if_true]
 split
 ·rw [List.drop_of_length_le (by simp; omega),List.drop_of_length_le (by simp; omega)]
 rw [tk h,List.drop_append_of_le_length (by simp; omega)]
theorem z2e {p:List Txt} {q:Bool × Nat} (i:Nat):(zgr (p.take i) q).length≤i∧(zgs (p.take i) q).length≤i:=by
 obtain ⟨lv,k⟩:=q
 cases lv <;> simp [zgr,zgs] <;> omega
theorem zq1 {p:List Txt} (hs:Sm p) (hg:zb3 p=true) {k:Nat} (hk:k≤(zal p).length):PC Tryz.prog 50 [zai p,.int .i64 0,.int .i64 k] (.tup [zai (zgr p (false,k)),zai (zgs p (false,k))]) true:=by
 have hp:=hs.rows
 have hsm:=zay hg
 obtain ⟨row0,hrow0,hrm0⟩:=zaf hsm.1
 have hhd:=zca hrow0
 have hw6:=hsm.2.2 row0 hrm0
 have hw1:=zfn hg hrow0
 rw [hhd]at hk
 refine PC.of ⟨Tryz.func50,by kernel_rfl,rfl,by kernel_rfl⟩ zao mixed (by show 3≤Tryz.f50.ntmps; decide) ?_
 refine W.r fun K hK=>?_
 simp(disch:=omega)only[↓RU,RV,RH,↓reduceIte,qE,reduceCtorEq,if_pos,↓RS,RG,qA,qM,qL]
 apply hK;clear hK K
 refine W.r fun K hK=>?_
 simp(disch:=omega)only[↓RU,RV,RH,↓reduceIte,qE,reduceCtorEq,if_pos,↓RS,RG,qA,qM,qL,ty4,zab]
 apply hK;clear hK K
 refine W.r fun K hK=>?_
 simp(disch:=omega)only[↓RU,RV,RH,↓reduceIte,qE,reduceCtorEq,if_pos,↓RS,RG,qA,qM,qL,ty4,zab]
 apply hK;clear hK K
 refine W.seq ?_
 refine W.r fun K hK=>?_
 simp(disch:=omega)only[↓RU,RV,RH,↓reduceIte,qE,reduceCtorEq,if_pos,↓RS,RG,qA,qM,qL]
 apply hK;clear hK K
 refine W.block ?_
 refine W.loop [0,1,2,8,9,10] (fun n vs S=>∃ i v0 v1 tk:Nat,n=p.length - i∧i≤p.length∧vs=[zai p,.int .i64 0,.int .i64 k,.loc 0 v0 0 (zgr (p.take i) (false,k)).length,.loc 1 v1 0 (zgs (p.take i) (false,k)).length,.int .i64 i]∧S=⟨[.arr v0 9 1 ((zgr (p.take i) (false,k)).map .str),.arr v1 9 1 ((zgs (p.take i) (false,k)).map .str)],tk⟩) p.length ?_ ?_
 ·refine ⟨2,0,0,1,2,rfl,Nat.zero_le _,?_,?_⟩
  ·simp [Env.put,Env.of,zag,zgr,zgs]
  simp [zgr,zgs,Store.take]
 rintro n vs S - ⟨i,v0,v1,tk,rfl,h_i,rfl,rfl⟩
 refine W.seq ?_
 refine W.r fun K hK=>?_
 simp(disch:=omega)only[↓RU,RV,RH,↓reduceIte,qE,reduceCtorEq,if_pos,w64,↓RS,RG,qA,qM,qL,ty4,zaa,zab]
 apply hK;clear hK K
 refine W.cond rfl (fun h=>?_) (fun h=>?_)
 ·try simp only[RL]at h
  obtain ⟨row,hrow,hrm⟩:=zaf (show i<p.length by omega)
  have hrl:=hsm.2.2 row hrm
  have hrw:=zd3 hg hrow
  rw [hhd]at hrw
  have hpl:=z2e (p:=p) (q:=(false,k)) i
  generalize hA:zgr (p.take i) (false,k)=A at hpl
  generalize hB:zgs (p.take i) (false,k)=B at hpl
  refine W.skip ?_
  refine xn ?_
  refine W.seq ?_
  refine W.block ?_
  refine W.block ?_
  refine W.r fun K hK=>?_
  simp(disch:=omega)only[↓RU,RV,RH,↓reduceIte,qE,reduceCtorEq,if_pos,w64,↓RS,RG,qA,qM,qL,zaa]
  apply hK;clear hK K
  refine W.cond rfl (fun h1=>?_) (fun h1=>?_)
  ·try simp only[RL]at h1
   refine W.r fun K hK=>?_
   simp(disch:=omega)only[↓RU,RV,RH,↓reduceIte,qE,reduceCtorEq,if_pos,Option.map_none,↓RS,RG,qA,qM,qL,ty4,zab,hrow,List.drop_zero]
   apply hK;clear hK K
   refine W.k fun K hK=>?_
   simp(disch:=omega)only[↓RU,RV,RH,↓reduceIte,qE,reduceCtorEq,if_pos,Option.map_none,↓RS,RG,qA,qM,qL,ty4,zab,hrow,List.take_length]
   apply hK;clear hK K
   refine XbN ?_
   refine XbN ?_
   refine xn ?_
   refine W.k fun K hK=>?_
   simp(disch:=omega)only[↓RU,RV,RH,↓reduceIte,qE,reduceCtorEq,if_pos,w64,↓RS,RG,qA,qM,qL,zaa]
   apply hK;clear hK K
   refine xn ?_
   refine ⟨p.length - (i+1),by omega,2,i+1,(tk+1),(tk+3),(tk+4),rfl,by omega,?_,?_⟩
   all_goals rw [yc0 hrow,yc1 hrow,hA,hB]
   all_goals simp [Env.put,Env.of,zbl,hA,hB,Store.take]
  try simp only[RL]at h1
  exact absurd h1 (by simp)
 try simp only[RL]at h
 obtain rfl:i=p.length:=by omega
 rw [List.take_length]
 refine W.exit ?_
 refine xe ?_
 refine xe ?_
 refine XBlock.hit ?_
 refine xn ?_
 refine W.r fun K hK=>?_
 simp(disch:=omega)only[↓RU,RV,RH,↓reduceIte,qE,reduceCtorEq,if_pos,↓RS,RG,qA,qM,qL]
 apply hK;clear hK K
 refine W.ret ?_
 refine Br rfl ?_
 exact congrArg (Option.map PV.tup) (za0 (zci (k:=8) rfl (by simp) (zgq _)) (za0 (zci (k:=8) rfl (by simp) (zgq _)) rfl))
theorem zq0 {p:List Txt} (hs:Sm p) (hg:zb3 p=true) {k:Nat} (hk:k≤p.length):PC Tryz.prog 50 [zai p,.int .i64 1,.int .i64 k] (.tup [zai (zgr p (true,k)),zai (zgs p (true,k))]) true:=by
 have hp:=hs.rows
 have hsm:=zay hg
 obtain ⟨row0,hrow0,hrm0⟩:=zaf hsm.1
 have hhd:=zca hrow0
 have hw6:=hsm.2.2 row0 hrm0
 have hw1:=zfn hg hrow0
 skip
 refine PC.of ⟨Tryz.func50,by kernel_rfl,rfl,by kernel_rfl⟩ zao mixed (by show 3≤Tryz.f50.ntmps; decide) ?_
 refine W.r fun K hK=>?_
 simp(disch:=omega)only[↓RU,RV,RH,↓reduceIte,qE,reduceCtorEq,if_pos,↓RS,RG,qA,qM,qL]
 apply hK;clear hK K
 refine W.r fun K hK=>?_
 simp(disch:=omega)only[↓RU,RV,RH,↓reduceIte,qE,reduceCtorEq,if_pos,↓RS,RG,qA,qM,qL,ty4,zab]
 apply hK;clear hK K
 refine W.r fun K hK=>?_
 simp(disch:=omega)only[↓RU,RV,RH,↓reduceIte,qE,reduceCtorEq,if_pos,↓RS,RG,qA,qM,qL,ty4,zab]
 apply hK;clear hK K
 refine W.seq ?_
 refine W.r fun K hK=>?_
 simp(disch:=omega)only[↓RU,RV,RH,↓reduceIte,qE,reduceCtorEq,if_pos,↓RS,RG,qA,qM,qL]
 apply hK;clear hK K
 refine W.block ?_
 refine W.loop [0,1,2,8,9,10] (fun n vs S=>∃ i v0 v1 tk:Nat,n=p.length - i∧i≤p.length∧vs=[zai p,.int .i64 1,.int .i64 k,.loc 0 v0 0 (zgr (p.take i) (true,k)).length,.loc 1 v1 0 (zgs (p.take i) (true,k)).length,.int .i64 i]∧S=⟨[.arr v0 9 1 ((zgr (p.take i) (true,k)).map .str),.arr v1 9 1 ((zgs (p.take i) (true,k)).map .str)],tk⟩) p.length ?_ ?_
 ·refine ⟨2,0,0,1,2,rfl,Nat.zero_le _,?_,?_⟩
  ·simp [Env.put,Env.of,zag,zgr,zgs]
  simp [zgr,zgs,Store.take]
 rintro n vs S - ⟨i,v0,v1,tk,rfl,h_i,rfl,rfl⟩
 refine W.seq ?_
 refine W.r fun K hK=>?_
 simp(disch:=omega)only[↓RU,RV,RH,↓reduceIte,qE,reduceCtorEq,if_pos,w64,↓RS,RG,qA,qM,qL,ty4,zaa,zab]
 apply hK;clear hK K
 refine W.cond rfl (fun h=>?_) (fun h=>?_)
 ·try simp only[RL]at h
  obtain ⟨row,hrow,hrm⟩:=zaf (show i<p.length by omega)
  have hrl:=hsm.2.2 row hrm
  have hrw:=zd3 hg hrow
  rw [hhd]at hrw
  have hpl:=z2e (p:=p) (q:=(true,k)) i
  generalize hA:zgr (p.take i) (true,k)=A at hpl
  generalize hB:zgs (p.take i) (true,k)=B at hpl
  refine W.skip ?_
  refine xn ?_
  refine W.seq ?_
  refine W.block ?_
  refine W.block ?_
  refine W.r fun K hK=>?_
  simp(disch:=omega)only[↓RU,RV,RH,↓reduceIte,qE,reduceCtorEq,if_pos,w64,↓RS,RG,qA,qM,qL,zaa]
  apply hK;clear hK K
  refine W.cond rfl (fun h1=>?_) (fun h1=>?_)
  ·try simp only[RL]at h1
   exact absurd h1 (by simp)
  ·try simp only[RL]at h1
   refine W.r fun K hK=>?_
   simp(disch:=omega)only[↓RU,RV,RH,↓reduceIte,qE,reduceCtorEq,if_pos,w64,↓RS,RG,qA,qM,qL,zaa]
   apply hK;clear hK K
   refine W.cond rfl (fun h2=>?_) (fun h2=>?_)
   ·try simp only[RL]at h2
    refine W.k fun K hK=>?_
    simp(disch:=omega)only[↓RU,RV,RH,↓reduceIte,qE,reduceCtorEq,if_pos,↓RS,RG,qA,qM,qL,ty4,zab,hrow]
    apply hK;clear hK K
    refine XbN ?_
    refine XbN ?_
    refine xn ?_
    refine W.k fun K hK=>?_
    simp(disch:=omega)only[↓RU,RV,RH,↓reduceIte,qE,reduceCtorEq,if_pos,w64,↓RS,RG,qA,qM,qL,zaa]
    apply hK;clear hK K
    refine xn ?_
    refine ⟨p.length - (i+1),by omega,2,i+1,(tk+1),v1,(tk+2),rfl,by omega,?_,?_⟩
    all_goals rw [z60 hrow,z61 hrow,if_pos (show i<k by omega),if_pos (show i<k by omega),hA,hB]
    all_goals simp [Env.put,Env.of,zbl,hA,hB,Store.take]
   ·try simp only[RL]at h2
    refine W.k fun K hK=>?_
    simp(disch:=omega)only[↓RU,RV,RH,↓reduceIte,qE,reduceCtorEq,if_pos,↓RS,RG,qA,qM,qL,ty4,zab,hrow]
    apply hK;clear hK K
    refine XbN ?_
    refine XbN ?_
    refine xn ?_
    refine W.k fun K hK=>?_
    simp(disch:=omega)only[↓RU,RV,RH,↓reduceIte,qE,reduceCtorEq,if_pos,w64,↓RS,RG,qA,qM,qL,zaa]
    apply hK;clear hK K
    refine xn ?_
    refine ⟨p.length - (i+1),by omega,2,i+1,v0,(tk+1),(tk+2),rfl,by omega,?_,?_⟩
    all_goals rw [z60 hrow,z61 hrow,if_neg (show ¬ i<k by omega),if_neg (show ¬ i<k by omega),hA,hB]
    all_goals simp [Env.put,Env.of,zbl,hA,hB,Store.take]
 try simp only[RL]at h
 obtain rfl:i=p.length:=by omega
 rw [List.take_length]
 refine W.exit ?_
 refine xe ?_
 refine xe ?_
 refine XBlock.hit ?_
 refine xn ?_
 refine W.r fun K hK=>?_
 simp(disch:=omega)only[↓RU,RV,RH,↓reduceIte,qE,reduceCtorEq,if_pos,↓RS,RG,qA,qM,qL]
 apply hK;clear hK K
 refine W.ret ?_
 refine Br rfl ?_
 exact congrArg (Option.map PV.tup) (za0 (zci (k:=8) rfl (by simp) (zgq _)) (za0 (zci (k:=8) rfl (by simp) (zgq _)) rfl))
theorem zdc {a b:List UInt8} (h:a.length+b.length≤9223372036854775807):zn9 .add a b=some (.str (a++b)):=if_pos h
theorem zpw {c:UInt8} {b:List UInt8} (h:b.length+1≤9223372036854775807):zn9 .add [c] b=some (.str (c::b)):=if_pos (by simp; omega)
theorem zpx {c:UInt8} {b d:List UInt8} (h:b.length+1+d.length≤9223372036854775807):zn9 .add (c::b) d=some (.str (c::b++d)):=if_pos (by simp; omega)
theorem z56 {p:List Txt} (hg:zb3 p=true) {t:Pt} (hi:t.In p.length (zal p).length) (ih:∀ t':Pt,t'.In p.length (zal p).length→t'.h*t'.w<t.h*t.w→PC Tryz.prog 20 [zai (sub p t')] (.tup [.str (zoo (zah p) t').1,.bool (zoo (zah p) t').2]) true):PC Tryz.prog 20 [zai (sub p t)] (.tup [.str (zoo (zah p) t).1,.bool (zoo (zah p) t).2]) true:=by
 have hg2:=zpy hg hi
 have hs2:=Sm.grid hg2
 have hl2:=zhe hi
 have hh2:=zry hg hi
 have hib:=hi
 unfold Pt.In at hib
 obtain ⟨row0,hrow0,hq0,hl0,-⟩:=zjy hg hi (i:=0) hi.1
 obtain ⟨c0,hc0,hlet⟩:=zka hg hrow0 (k:=t.c+0) (by omega)
 have hqc:=(zhd (row:=row0) (t:=t) hib.2.1).trans hc0
 have hz0:zah p t.r t.c=(c0.toNat:Int) - 97:=zcx (by simpa using hrow0) (by simpa using hc0)
 simp only[zcb,qB,decide_eq_true_eq]at hlet
 have hcq:=z09 hg hi
 refine PC.of ⟨Tryz.func20,by kernel_rfl,rfl,by kernel_rfl⟩ zao mixed (by show 1≤Tryz.f20.ntmps; decide) ?_
 refine W.r fun K hK=>?_
 simp(disch:=omega)only[↓RU,RV,RH,↓reduceIte,qE,reduceCtorEq,if_pos,↓RS,RG,qA,qM,qL,w8]
 apply hK;clear hK K
 refine W.seq ?_
 refine W.r fun K hK=>?_
 simp(disch:=omega)only[↓RU,RV,RH,↓reduceIte,qE,reduceCtorEq,if_pos,qN,↓RS,RG,qA,qM,qL,w8]
 refine zac.pc (z1r hs2 hg2) rfl (.inl rfl) ?_
 simp(disch:=omega)only[↓RU,RV,RH,↓reduceIte,qE,reduceCtorEq,if_pos,qN,↓RS,RG,qA,qM,qL,w8]
 apply hK;clear hK K
 refine W.cond rfl (fun h0=>?_) (fun h0=>?_)
 ·skip
  have h0:z8k (sub p t)=true:=h0
  rw [zpj hg hi]at h0
  refine W.r fun K hK=>?_
  simp(disch:=omega)only[↓RU,RV,RH,↓reduceIte,qE,reduceCtorEq,if_pos,w64,w64,↓RS,RG,qA,qM,qL,ty4,ty5,zab,zdw,w8,hq0,hqc,Int.toNat_zero,Nat.zero_mul,qZ]
  apply hK;clear hK K
  refine W.ret ?_
  refine XThen.ret ?_
  refine Br rfl ?_
  rw [zv1 hi h0,hz0]
  rfl
 skip
 have h0:z8k (sub p t)=false:=h0
 rw [zpj hg hi]at h0
 refine W.skip ?_
 refine xn ?_
 refine W.r fun K hK=>?_
 rcases hq:zcv (zah p) t with _ | ⟨_ | _,k⟩
 ·skip
  rw [hq]at hcq
  simp only at hcq
  simp(disch:=omega)only[↓RU,RV,RH,↓reduceIte,qE,reduceCtorEq,if_pos,qN,↓RS,RG,qA,qM,qL,w8,hcq]
  refine zac.pc (zkc hs2 hg2) rfl (.inl rfl) ?_
  simp(disch:=omega)only[↓RU,RV,RH,↓reduceIte,qE,reduceCtorEq,if_pos,qN,↓RS,RG,qA,qM,qL,w8,hcq]
  apply hK;clear hK K
  refine W.seq ?_
  refine W.r fun K hK=>?_
  simp(disch:=omega)only[↓RU,RV,RH,↓reduceIte,qE,reduceCtorEq,if_pos,w64,↓RS,RG,qA,qM,qL,zaa,w8]
  apply hK;clear hK K
  refine W.cond rfl (fun h1=>?_) (fun h1=>?_)
  ·try simp only[RL]at h1
   refine W.r fun K hK=>?_
   simp(disch:=omega)only[↓RU,RV,RH,↓reduceIte,qE,reduceCtorEq,if_pos,↓RS,RG,qA,qM,qL,w8]
   apply hK;clear hK K
   refine W.ret ?_
   refine XThen.ret ?_
   refine Br rfl ?_
   rw [zy0 hi h0 hq]
   rfl
  try simp only[RL]at h1
  exact absurd h1 (by simp)
 ·skip
  rw [hq]at hcq
  simp only[qF,if_false]at hcq
  obtain ⟨i1,i2,a1,a2⟩:=hi.cut hq
  have hck:=zd8 hq
  simp only[qF,if_false]at hck
  simp(disch:=omega)only[↓RU,RV,RH,↓reduceIte,qE,reduceCtorEq,if_pos,qN,↓RS,RG,qA,qM,qL,w8,hcq]
  refine zac.pc (zkc hs2 hg2) rfl (.inl rfl) ?_
  simp(disch:=omega)only[↓RU,RV,RH,↓reduceIte,qE,reduceCtorEq,if_pos,qN,↓RS,RG,qA,qM,qL,w8,hcq]
  apply hK;clear hK K
  refine W.seq ?_
  refine W.r fun K hK=>?_
  simp(disch:=omega)only[↓RU,RV,RH,↓reduceIte,qE,reduceCtorEq,if_pos,w64,↓RS,RG,qA,qM,qL,zaa,w8]
  apply hK;clear hK K
  refine W.cond rfl (fun h1=>?_) (fun h1=>?_)
  ·try simp only[RL]at h1
   exact absurd h1 (by simp; omega)
  try simp only[RL]at h1
  refine W.skip ?_
  refine xn ?_
  refine W.r fun K hK=>?_
  have hP:=zq1 hs2 hg2 (k:=k) (by rw [hh2]; omega)
  rw [zvz (q:=(false,k)) (by simp; omega),zv0 (q:=(false,k)) (by simp; omega)]at hP
  simp(disch:=omega)only[↓RU,RV,RH,↓reduceIte,qE,reduceCtorEq,if_pos,qN,↓RS,RG,qA,qM,qL,w8]
  refine zac.pc (hP) rfl (.inl rfl) ?_
  simp(disch:=omega)only[↓RU,RV,RH,↓reduceIte,qE,reduceCtorEq,if_pos,qN,↓RS,RG,qA,qM,qL,w8]
  apply hK;clear hK K
  refine W.r fun K hK=>?_
  simp(disch:=omega)only[↓RU,RV,RH,↓reduceIte,qE,reduceCtorEq,if_pos,qN,↓RS,RG,qA,qM,qL,w8]
  refine zac.pc (ih (t.one (false,k)) i1 a1) rfl (.inl rfl) ?_
  simp(disch:=omega)only[↓RU,RV,RH,↓reduceIte,qE,reduceCtorEq,if_pos,qN,↓RS,RG,qA,qM,qL,w8]
  apply hK;clear hK K
  refine W.r fun K hK=>?_
  simp(disch:=omega)only[↓RU,RV,RH,↓reduceIte,qE,reduceCtorEq,if_pos,qN,↓RS,RG,qA,qM,qL,w8]
  refine zac.pc (ih (t.two (false,k)) i2 a2) rfl (.inl rfl) ?_
  simp(disch:=omega)only[↓RU,RV,RH,↓reduceIte,qE,reduceCtorEq,if_pos,qN,↓RS,RG,qA,qM,qL,w8]
  apply hK;clear hK K
  refine W.r fun K hK=>?_
  have f1:=(zeq (z:=zah p) _ i1 (qR _)).1
  have f2:=(zeq (z:=zah p) _ i2 (qR _)).1
  have f3:t.h*t.w≤6*6:=Nat.mul_le_mul (by have:=zay hg; omega) (by have:=(zay hg2).2.2 _ (List.mem_of_getElem? hq0); omega)
  cases hb:(zoo (zah p) (t.one (false,k))).2
  ·skip
   simp(disch:=omega)only[↓RU,RV,RH,↓reduceIte,qE,reduceCtorEq,if_pos,w64,Option.map_none,↓RS,RG,qA,qM,qL,zaa,zab,w8,zpw,zpx,Int.reduceAdd,qZ,List.take_succ_cons,List.take_zero,List.drop_zero,List.drop_succ_cons,List.length_append,List.length_cons,List.length_nil,hb]
   apply hK;clear hK K
   refine W.ret ?_
   refine Br rfl ?_
   rw [zkq hi h0 hq,hb]
   rfl
  skip
  simp(disch:=omega)only[↓RU,RV,RH,↓reduceIte,qE,reduceCtorEq,if_pos,w64,Option.map_none,↓RS,RG,qA,qM,qL,zaa,zab,w8,zpw,zpx,Int.reduceAdd,qZ,List.take_succ_cons,List.take_zero,List.drop_zero,List.drop_succ_cons,List.length_append,List.length_cons,List.length_nil,hb]
  apply hK;clear hK K
  refine W.ret ?_
  refine Br rfl ?_
  rw [zkq hi h0 hq,hb]
  rfl
 skip
 rw [hq]at hcq
 simp only[if_true]at hcq
 obtain ⟨i1,i2,a1,a2⟩:=hi.cut hq
 have hck:=zd8 hq
 simp only[if_true]at hck
 simp(disch:=omega)only[↓RU,RV,RH,↓reduceIte,qE,reduceCtorEq,if_pos,qN,↓RS,RG,qA,qM,qL,w8,hcq]
 refine zac.pc (zkc hs2 hg2) rfl (.inl rfl) ?_
 simp(disch:=omega)only[↓RU,RV,RH,↓reduceIte,qE,reduceCtorEq,if_pos,qN,↓RS,RG,qA,qM,qL,w8,hcq]
 apply hK;clear hK K
 refine W.seq ?_
 refine W.r fun K hK=>?_
 simp(disch:=omega)only[↓RU,RV,RH,↓reduceIte,qE,reduceCtorEq,if_pos,w64,↓RS,RG,qA,qM,qL,zaa,w8]
 apply hK;clear hK K
 refine W.cond rfl (fun h1=>?_) (fun h1=>?_)
 ·try simp only[RL]at h1
  exact absurd h1 (by simp; omega)
 try simp only[RL]at h1
 refine W.skip ?_
 refine xn ?_
 refine W.r fun K hK=>?_
 have hP:=zq0 hs2 hg2 (k:=k) (by rw [hl2]; omega)
 rw [zvz (q:=(true,k)) (by simp; omega),zv0 (q:=(true,k)) (by simp; omega)]at hP
 simp(disch:=omega)only[↓RU,RV,RH,↓reduceIte,qE,reduceCtorEq,if_pos,qN,↓RS,RG,qA,qM,qL,w8]
 refine zac.pc (hP) rfl (.inl rfl) ?_
 simp(disch:=omega)only[↓RU,RV,RH,↓reduceIte,qE,reduceCtorEq,if_pos,qN,↓RS,RG,qA,qM,qL,w8]
 apply hK;clear hK K
 refine W.r fun K hK=>?_
 simp(disch:=omega)only[↓RU,RV,RH,↓reduceIte,qE,reduceCtorEq,if_pos,qN,↓RS,RG,qA,qM,qL,w8]
 refine zac.pc (ih (t.one (true,k)) i1 a1) rfl (.inl rfl) ?_
 simp(disch:=omega)only[↓RU,RV,RH,↓reduceIte,qE,reduceCtorEq,if_pos,qN,↓RS,RG,qA,qM,qL,w8]
 apply hK;clear hK K
 refine W.r fun K hK=>?_
 simp(disch:=omega)only[↓RU,RV,RH,↓reduceIte,qE,reduceCtorEq,if_pos,qN,↓RS,RG,qA,qM,qL,w8]
 refine zac.pc (ih (t.two (true,k)) i2 a2) rfl (.inl rfl) ?_
 simp(disch:=omega)only[↓RU,RV,RH,↓reduceIte,qE,reduceCtorEq,if_pos,qN,↓RS,RG,qA,qM,qL,w8]
 apply hK;clear hK K
 refine W.r fun K hK=>?_
 have f1:=(zeq (z:=zah p) _ i1 (qR _)).1
 have f2:=(zeq (z:=zah p) _ i2 (qR _)).1
 have f3:t.h*t.w≤6*6:=Nat.mul_le_mul (by have:=zay hg; omega) (by have:=(zay hg2).2.2 _ (List.mem_of_getElem? hq0); omega)
 cases hb:(zoo (zah p) (t.one (true,k))).2
 ·skip
  simp(disch:=omega)only[↓RU,RV,RH,↓reduceIte,qE,reduceCtorEq,if_pos,w64,Option.map_none,↓RS,RG,qA,qM,qL,zaa,zab,w8,zpw,zpx,Int.reduceAdd,qZ,List.take_succ_cons,List.take_zero,List.drop_zero,List.drop_succ_cons,List.length_append,List.length_cons,List.length_nil,hb]
  apply hK;clear hK K
  refine W.ret ?_
  refine Br rfl ?_
  rw [zkq hi h0 hq,hb]
  rfl
 skip
 simp(disch:=omega)only[↓RU,RV,RH,↓reduceIte,qE,reduceCtorEq,if_pos,w64,Option.map_none,↓RS,RG,qA,qM,qL,zaa,zab,w8,zpw,zpx,Int.reduceAdd,qZ,List.take_succ_cons,List.take_zero,List.drop_zero,List.drop_succ_cons,List.length_append,List.length_cons,List.length_nil,hb]
 apply hK;clear hK K
 refine W.ret ?_
 refine Br rfl ?_
 rw [zkq hi h0 hq,hb]
 rfl
theorem zq2 {p:List Txt} (hg:zb3 p=true):∀ (n:Nat) {t:Pt},t.h*t.w≤n→t.In p.length (zal p).length→PC Tryz.prog 20 [zai (sub p t)] (.tup [.str (zoo (zah p) t).1,.bool (zoo (zah p) t).2]) true
 | 0,t,hn,hi=>by have:=Nat.mul_pos hi.1 hi.2.1; omega
 | n+1,t,hn,hi=>z56 hg hi fun t' hi' ha=>zq2 hg n (by omega) hi'
def zej (p:List Txt):Pt:=⟨0,0,p.length,(zal p).length⟩
theorem z0m {p:List Txt} (hg:zb3 p=true):sub p (zej p)=p:=by
 unfold sub zej
 simp only[List.drop_zero,List.take_length]
 conv=>rhs; rw [← List.map_id p]
 refine List.map_congr_left fun row hrow=>?_
 simp only[zjx,List.drop_zero,id_eq]
 rw [qT (by rw [zjm hg row hrow]; exact qR _)]
theorem znp {p:List Txt} (hg:zb3 p=true):(zej p).In p.length (zal p).length:=by
 have hsm:=zay hg
 obtain ⟨row0,h0,hm0⟩:=zaf hsm.1
 have hw:=zfn hg h0
 rw [← zca h0]at hw
 exact ⟨hsm.1,hw,by simp [zej],by simp [zej]⟩
def zuw (p:List Txt):Bool:=zaz p && (zc7 (zah p) (zej p)).isSome
section
section
variable {p:List Txt}
end
end
def Tm.ok:Tm→Prop
 | .o=>True
 | .un c t=>(c=62∨c=94)∧t.ok
 | .bin m a b=>(m=124∨m=45)∧a.ok∧b.ok
def Tm.n:Tm→Nat
 | .o=>1
 | .un _ t=>t.n
 | .bin _ a b=>a.n+b.n
theorem Tm.pos:∀ t:Tm,1≤t.n
 | .o=>qR _
 | .un _ t=>t.pos
 | .bin _ a b=>by have:=a.pos; simp only[Tm.n]; omega
def Tm.pure:Tm→Prop
 | .o=>True
 | .un _ _=>False
 | .bin m a b=>(m=124∨m=45)∧a.pure∧b.pure
theorem Tm.pure.ok {t:Tm} (h:t.pure):t.ok:=by
 induction t with
 | o=>trivial
 | un c t _=>exact h.elim
 | bin m a b h1 h2=>exact ⟨h.1,h1 h.2.1,h2 h.2.2⟩
def Full (l:List Int):Prop:=(∀ (i:Nat) v,l[i]?=some v→0≤v∧v<l.length)∧∀ v:Nat,v<l.length→∃ i:Nat,l[i]?=some (v:Int)
def To (g:Nat→Nat) (l l':List Int):Prop:=l'.length=l.length∧∀ (i:Nat) v,l[i]?=some v→l'[l.length - 1 - v.toNat]?=some ((g i:Nat):Int)
theorem To.uniq {g:Nat→Nat} {l l' l2:List Int} (hl:Full l) (h:To g l l') (k:To g l l2):l'=l2:=by
 apply List.ext_getElem?
 intro i
 by_cases hi:i<l.length
 ·obtain ⟨j,hj⟩:=hl.2 (l.length - 1 - i) (by omega)
  have h1:=h.2 _ _ hj
  have h2:=k.2 _ _ hj
  rw [show l.length - 1 - ((l.length - 1 - i:Nat):Int).toNat=i by omega]at h1 h2
  rw [h1,h2]
 rw [List.getElem?_eq_none (by rw [h.1]; omega),List.getElem?_eq_none (by rw [k.1]; omega)]
section
section
variable {p t:List Txt} {σ:Nat→Nat}
end
end

def zr9 (c:UInt8):Txt→Txt × Txt × Bool
 | []=>([],[],false)
 | x::r=>if x=c then ([],r,true) else (x::(zr9 c r).1,(zr9 c r).2.1,(zr9 c r).2.2)
theorem zop {c:UInt8} {r:Txt}:∀ {a:Txt},c ∉ a→zr9 c (a++c::r)=(a,r,true)
 | [],_=>by simp [zr9]
 | x::a,h=>by
  rw [List.mem_cons]at h
  have hx:¬ x=c:=fun e=>h (.inl e.symm)
  rw [List.cons_append,zr9,if_neg hx,zop fun hm=>h (.inr hm)]
theorem z45 {c:UInt8}:∀ {a:Txt},c ∉ a→zr9 c a=(a,[],false)
 | [],_=>rfl
 | x::a,h=>by
  rw [List.mem_cons]at h
  have hx:¬ x=c:=fun e=>h (.inl e.symm)
  rw [zr9,if_neg hx,z45 fun hm=>h (.inr hm)]
theorem zux {c:UInt8}:∀ {s:Txt},((zr9 c s).2.2=false∧Lib.indexByte s c = -1∧zr9 c s=(s,[],false)) ∨
  ∃ k:Nat,k<s.length∧(zr9 c s).2.2=true∧Lib.indexByte s c=(k:Int)∧zr9 c s=(s.take k,s.drop (k+1),true)
 | [] => .inl ⟨rfl,rfl,rfl⟩
 | x::r=>by
  by_cases hx:x=c
  ·refine .inr ⟨0,Nat.succ_pos _,?_,?_,?_⟩
   ·rw [zr9,if_pos hx]
   ·rw [Lib.indexByte,if_pos (beq_iff_eq.2 hx)]; rfl
   rw [zr9,if_pos hx]; rfl
  have hb:¬ (x == c)=true:=fun e=>hx (beq_iff_eq.1 e)
  rcases zux (c:=c) (s:=r) with ⟨h1,h2,h3⟩ | ⟨k,h0,h1,h2,h3⟩
  ·refine .inl ⟨?_,?_,?_⟩
   ·rw [zr9,if_neg hx]; exact h1
   ·rw [Lib.indexByte,if_neg hb,h2]; rfl
   rw [zr9,if_neg hx,h3]
  refine .inr ⟨k+1,by rw [List.length_cons]; omega,?_,?_,?_⟩
  ·rw [zr9,if_neg hx]; exact h1
  ·rw [Lib.indexByte,if_neg hb,h2,if_neg (by rw [beq_iff_eq]; omega)]; rfl
  rw [zr9,if_neg hx,h3]; rfl
section
open Go Go.RowKit
set_option maxHeartbeats 1000000 in
set_option maxRecDepth 100000 in
theorem zqt (s:ByteArray) (c:UInt8) (w:World) :
  Calls Tryz.prog 269 #[.string s,.int .u8 c.toNat] w fun e w'=>e = .returned (.int .i64 (Lib.indexByte s.data.toList c))∧w'=w:=by
 have hc:((c.toNat:Int)).toNat.toUInt8=c:=by simp
 go_enter Tryz.func269,Tryz.ntmps269
 go_wp2
 rw [run_callFunc_extern Tryz.func304 (by kernel_rfl) (by kernel_rfl) (by kernel_rfl) (e:=Extern.BytealgIndexByte.indexByte) (by kernel_rfl)]
 rw [Lib.run_indexByteString,hc]
 simp only[Result.andThen]
 rw [Oper.upon_value]
 go_wp2
 go_ret
 exact ⟨rfl,rfl⟩
theorem zw7 (s:List UInt8) (c:UInt8):PC Tryz.prog 269 [.str s,.int .u8 c.toNat] (.int .i64 (Lib.indexByte s c)) true:=by
 refine ⟨(⟨Tryz.func269,by kernel_rfl,rfl,by kernel_rfl⟩:Fn Tryz.prog 269 _ _).ent,fun F w cargs hF hl hv=>?_⟩
 obtain ⟨cs⟩:=cargs
 match cs,hl,hv with
 | [c0,c1],_,hv =>
  have h0:=hv 0 _ _ rfl rfl
  have h1:=hv 1 _ _ rfl rfl
  cases h0 with
  | str _ b0 e0 =>
   cases h1 with
   | int _ _ =>
    refine (zqt b0 c w).mono ?_
    rintro e w' ⟨rfl,rfl⟩
    exact ⟨_,rfl,⟨RowKit.Below.refl _ _,qR _⟩,by rw [e0]; exact .int _ _⟩
end
def zwk (c:UInt8) (s:Txt):PV := .tup [.str (zr9 c s).1,.str (zr9 c s).2.1,.bool (zr9 c s).2.2]
theorem ych {a:Txt}:(a == a)=true:=beq_self_eq_true a
theorem ycy:((1:Int) == 1)=true:=rfl
theorem z1y:((1:Int) == 0)=false:=rfl
theorem zw6 (s:Txt) (c:UInt8):PC Tryz.prog 222 [.str s,.str [c]] (.int .i64 (Lib.indexByte s c)) true:=by
 refine PC.of ⟨Tryz.func222,by kernel_rfl,rfl,by kernel_rfl⟩ zao mixed (by show 2≤Tryz.f222.ntmps; decide) ?_
 refine W.r fun K hK=>?_
 simp(disch:=omega)only[↓RU,RV,RH,↓reduceIte,qE,reduceCtorEq,if_pos]
 apply hK;clear hK K
 refine W.r fun K hK=>?_
 simp(disch:=omega)only[↓RU,RV,RH,↓reduceIte,qE,reduceCtorEq,if_pos,zab]
 apply hK;clear hK K
 refine W.seq ?_
 refine W.block ?_
 refine W.r fun K hK=>?_
 by_cases he:s=[c]
 ·skip
  subst he
  simp(disch:=omega)only[↓RU,RV,RH,↓reduceIte,qE,reduceCtorEq,if_pos,w64,zaa,zab,z1y,zn9,ych]
  apply hK;clear hK K
  refine W.cond rfl (fun h0=>?_) (fun h0=>?_)
  ·try simp only[RL]at h0
   refine W.r fun K hK=>?_
   simp(disch:=omega)only[↓RU,RV,RH,↓reduceIte,qE,reduceCtorEq,if_pos]
   apply hK;clear hK K
   refine W.ret ?_
   refine XBlock.ret ?_
   refine XThen.ret ?_
   refine Br rfl ?_
   rw [show Lib.indexByte [c] c=0 by rw [Lib.indexByte,if_pos (beq_self_eq_true c)]]
   rfl
  try simp only[RL]at h0
  exact absurd h0 (by simp)
 skip
 have heb:(([c]:Txt) == s)=false:=by rw [beq_eq_false_iff_ne]; exact fun h=>he h.symm
 simp(disch:=omega)only[↓RU,RV,RH,↓reduceIte,qE,reduceCtorEq,if_pos,w64,zaa,zab,z1y,zn9,heb]
 apply hK;clear hK K
 refine W.cond rfl (fun h0=>?_) (fun h0=>?_)
 ·try simp only[RL]at h0
  exact absurd h0 (by simp)
 try simp only[RL]at h0
 refine W.r fun K hK=>?_
 simp(disch:=omega)only[↓RU,RV,RH,↓reduceIte,qE,reduceCtorEq,if_pos,w64,zaa,ycy]
 apply hK;clear hK K
 refine W.cond rfl (fun h1=>?_) (fun h1=>?_)
 ·try simp only[RL]at h1
  refine W.r fun K hK=>?_
  simp(disch:=omega)only[↓RU,RV,RH,↓reduceIte,qE,reduceCtorEq,if_pos,qN,zab,qZ,List.getElem?_cons_zero]
  refine zac.pc (zw7 s c) rfl (.inl rfl) ?_
  simp(disch:=omega)only[↓RU,RV,RH,↓reduceIte,qE,reduceCtorEq,if_pos,qN,zab,qZ,List.getElem?_cons_zero]
  apply hK;clear hK K
  refine W.ret ?_
  refine XBlock.ret ?_
  refine XThen.ret ?_
  refine Br rfl ?_
  rfl
 try simp only[RL]at h1
 exact absurd h1 (by simp)
theorem ycd (s:Txt) (c:UInt8) (hs:s.length≤1048576):PC Tryz.prog 126 [.str s,.str [c]] (zwk c s) true:=by
 refine PC.of ⟨Tryz.func126,by kernel_rfl,rfl,by kernel_rfl⟩ zao mixed (by show 2≤Tryz.f126.ntmps; decide) ?_
 refine W.r fun K hK=>?_
 simp(disch:=omega)only[↓RU,RV,RH,↓reduceIte,qE,reduceCtorEq,if_pos]
 apply hK;clear hK K
 refine W.seq ?_
 refine W.r fun K hK=>?_
 simp(disch:=omega)only[↓RU,RV,RH,↓reduceIte,qE,reduceCtorEq,if_pos,qN]
 refine zac.pc (zw6 s c) rfl (.inl rfl) ?_
 simp(disch:=omega)only[↓RU,RV,RH,↓reduceIte,qE,reduceCtorEq,if_pos,qN]
 apply hK;clear hK K
 refine W.r fun K hK=>?_
 rcases zux (c:=c) (s:=s) with ⟨h1,h2,h3⟩ | ⟨k,hk,h1,h2,h3⟩
 ·skip
  rw [h2]
  simp(disch:=omega)only[↓RU,RV,RH,↓reduceIte,qE,reduceCtorEq,if_pos,w64,zaa]
  apply hK;clear hK K
  refine W.cond rfl (fun h0=>?_) (fun h0=>?_)
  ·try simp only[RL]at h0
   exact absurd h0 (by simp)
  try simp only[RL]at h0
  refine W.skip ?_
  refine xn ?_
  refine W.r fun K hK=>?_
  simp(disch:=omega)only[↓RU,RV,RH,↓reduceIte,qE,reduceCtorEq,if_pos]
  apply hK;clear hK K
  refine W.ret ?_
  refine Br rfl ?_
  rw [zwk,h3]
  rfl
 skip
 rw [h2]
 have dk:decide ((k:Int) ≥ 0)=true:=decide_eq_true (by omega)
 simp(disch:=omega)only[↓RU,RV,RH,↓reduceIte,qE,reduceCtorEq,if_pos,w64,zaa,dk]
 apply hK;clear hK K
 refine W.cond rfl (fun h0=>?_) (fun h0=>?_)
 ·try simp only[RL]at h0
  refine W.seq_draw (by kernel_rfl) fun K hK=>?_
  simp(disch:=omega)only[↓RU,RV,RH,↓reduceIte,qE,reduceCtorEq,if_pos,Option.map_none,w64,↓RS,RG,qA,qM,qL,zaa,zab]
  apply hK;clear hK K
  refine W.ret ?_
  refine XThen.ret ?_
  refine Br rfl ?_
  rw [zwk,h3,show s.drop (k+1)=((s.take s.length).drop (((k:Int)+((1:Nat):Int)).toNat)) by rw [List.take_length]; congr 1]
  rfl
 try simp only[RL]at h0
 exact absurd h0 (by simp)
theorem ya1 (s:Txt) (c:UInt8) (hs:s.length≤1048576):PC Tryz.prog 22 [.str s,.str [c]] (zwk c s) true:=by
 refine PC.of ⟨Tryz.func22,by kernel_rfl,rfl,by kernel_rfl⟩ zao mixed (by show 2≤Tryz.f22.ntmps; decide) ?_
 refine W.r fun K hK=>?_
 simp(disch:=omega)only[↓RU,RV,RH,↓reduceIte,qE,reduceCtorEq,if_pos]
 apply hK;clear hK K
 refine W.r fun K hK=>?_
 simp(disch:=omega)only[↓RU,RV,RH,↓reduceIte,qE,reduceCtorEq,if_pos,qN,zwk]
 refine zac.pc (ycd s c hs) rfl (.inl rfl) ?_
 simp(disch:=omega)only[↓RU,RV,RH,↓reduceIte,qE,reduceCtorEq,if_pos,qN,zwk]
 apply hK;clear hK K
 refine W.ret ?_
 refine Br rfl ?_
 rfl
theorem zzj {a r:Txt} {c:UInt8} (h:c ∉ a) (hl:(a++c::r).length≤1048576):PC Tryz.prog 22 [.str (a++c::r),.str [c]] (.tup [.str a,.str r,.bool true]) true:=by
 have:=ya1 (a++c::r) c hl
 rw [zwk,zop h]at this
 exact this
theorem ya0 {a:Txt} {c:UInt8} (h:c ∉ a) (hl:a.length≤1048576):PC Tryz.prog 22 [.str a,.str [c]] (.tup [.str a,.str [],.bool false]) true:=by
 have:=ya1 a c hl
 rw [zwk,z45 h]at this
 exact this
def zos (k:Nat):Txt:=[UInt8.ofNat (48+k)]
theorem z85 {k:Nat} (h:k<10):(([48,49,50,51,52,53,54,55,56,57,97,98,99,100,101,102,103,104,105,106,107,108,109,110,111,112,113,114,115,116,117,118,119,120,121,122]:Txt).take (k+1)).drop k=zos k:=by
 have:k=0∨k=1∨k=2∨k=3∨k=4∨k=5∨k=6∨k=7∨k=8∨k=9:=by omega
 rcases this with rfl | rfl | rfl | rfl | rfl | rfl | rfl | rfl | rfl | rfl <;> rfl
theorem yac {k:Nat} (hk:k<10):PC Tryz.prog 273 [.int .i64 k] (.str (zos k)) true:=by
 refine PC.of ⟨Tryz.func273,by kernel_rfl,rfl,by kernel_rfl⟩ zao mixed (by show 1≤Tryz.f273.ntmps; decide) ?_
 refine W.r fun K hK=>?_
 simp(disch:=omega)only[↓RU,RV,RH,↓reduceIte,qE,reduceCtorEq,if_pos]
 apply hK;clear hK K
 refine W.seq ?_
 refine W.r fun K hK=>?_
 simp(disch:=omega)only[↓RU,RV,RH,↓reduceIte,qE,reduceCtorEq,if_pos,w64,zaa]
 apply hK;clear hK K
 refine W.cond rfl (fun h0=>?_) (fun h0=>?_)
 ·try simp only[RL]at h0
  refine W.r fun K hK=>?_
  simp(disch:=omega)only[↓RU,RV,RH,↓reduceIte,qE,reduceCtorEq,if_pos,w64,Option.map_none,↓RS,RG,qA,qM,qL,zaa,zab]
  apply hK;clear hK K
  refine W.ret ?_
  refine XThen.ret ?_
  refine Br rfl ?_
  rw [← z85 hk]
  rfl
 try simp only[RL]at h0
 exfalso; omega
theorem zw2 {k:Nat} (hk:k<10):PC Tryz.prog 224 [.int .i64 k,.int .i64 10] (.str (zos k)) true:=by
 have d0:decide ((0:Int)≤(k:Int))=true:=decide_eq_true (by omega)
 have d1:decide ((k:Int)<100)=true:=decide_eq_true (by omega)
 have t10:((10:Int) == 10)=true:=rfl
 refine PC.of ⟨Tryz.func224,by kernel_rfl,rfl,by kernel_rfl⟩ zao mixed (by show 2≤Tryz.f224.ntmps; decide) ?_
 refine W.r fun K hK=>?_
 simp(disch:=omega)only[↓RU,RV,RH,↓reduceIte,qE,reduceCtorEq,if_pos]
 apply hK;clear hK K
 refine W.seq ?_
 refine W.r fun K hK=>?_
 simp(disch:=omega)only[↓RU,RV,RH,↓reduceIte,qE,reduceCtorEq,if_pos,w64,zaa,t10]
 apply hK;clear hK K
 refine W.cond rfl (fun h0=>?_) (fun h0=>?_)
 ·try simp only[RL]at h0
  refine W.seq ?_
  refine W.r fun K hK=>?_
  simp(disch:=omega)only[↓RU,RV,RH,↓reduceIte,qE,reduceCtorEq,if_pos,w64,ydl,d0,d1]
  apply hK;clear hK K
  refine W.cond rfl (fun h1=>?_) (fun h1=>?_)
  ·try simp only[RL]at h1
   refine W.r fun K hK=>?_
   simp(disch:=omega)only[↓RU,RV,RH,↓reduceIte,qE,reduceCtorEq,if_pos,qN]
   refine zac.pc (yac hk) rfl (.inl rfl) ?_
   simp(disch:=omega)only[↓RU,RV,RH,↓reduceIte,qE,reduceCtorEq,if_pos,qN]
   apply hK;clear hK K
   refine W.ret ?_
   refine XThen.ret ?_
   refine XThen.ret ?_
   refine Br rfl ?_
   rfl
  try simp only[RL]at h1
  exact absurd h1 (by simp)
 try simp only[RL]at h0
 exact absurd h0 (by simp)
theorem z9g {k:Nat} (hk:k<10):PC Tryz.prog 128 [.int .i64 k] (.str (zos k)) true:=by
 refine PC.of ⟨Tryz.func128,by kernel_rfl,rfl,by kernel_rfl⟩ zao mixed (by show 1≤Tryz.f128.ntmps; decide) ?_
 refine W.r fun K hK=>?_
 simp(disch:=omega)only[↓RU,RV,RH,↓reduceIte,qE,reduceCtorEq,if_pos]
 apply hK;clear hK K
 refine W.r fun K hK=>?_
 simp(disch:=omega)only[↓RU,RV,RH,↓reduceIte,qE,reduceCtorEq,if_pos,qN]
 refine zac.pc (zw2 hk) rfl (.inl rfl) ?_
 simp(disch:=omega)only[↓RU,RV,RH,↓reduceIte,qE,reduceCtorEq,if_pos,qN]
 apply hK;clear hK K
 refine W.ret ?_
 refine Br rfl ?_
 rfl
theorem ycq {k:Nat} (hk:k<10):PC Tryz.prog 24 [.int .i64 k] (.str (zos k)) true:=by
 refine PC.of ⟨Tryz.func24,by kernel_rfl,rfl,by kernel_rfl⟩ zao mixed (by show 1≤Tryz.f24.ntmps; decide) ?_
 refine W.r fun K hK=>?_
 simp(disch:=omega)only[↓RU,RV,RH,↓reduceIte,qE,reduceCtorEq,if_pos]
 apply hK;clear hK K
 refine W.r fun K hK=>?_
 simp(disch:=omega)only[↓RU,RV,RH,↓reduceIte,qE,reduceCtorEq,if_pos,qN]
 refine zac.pc (z9g hk) rfl (.inl rfl) ?_
 simp(disch:=omega)only[↓RU,RV,RH,↓reduceIte,qE,reduceCtorEq,if_pos,qN]
 apply hK;clear hK K
 refine W.ret ?_
 refine Br rfl ?_
 rfl
theorem z5b {s:Txt}:(s.map eB).take s.length=s.map eB:=qT (by simp)
theorem z4s {s:Txt}:ydy tab 22 9 (.str s)=some (.sl (s.map eB) s.length):=rfl
theorem zr4 {X0 X1 X2:Ob} {vb t:Nat} {s:Txt} (h0:s≠[]) (hs:s.length≤100000):Ev Tryz.prog 23 [.ref 3 vb 0,.str s] ⟨[X0,X1,X2,.arr vb 56 2 [.nilp,.nils]],t⟩ fun v S=>∃ vq t2:Nat,S=⟨[X0,X1,X2,.arr vb 56 2 [.ref 3 vb 0,.loc 4 vq 0 (s).length],.arr vq 5 1 ((s).map eB)],t2⟩:=by
 have hl:¬ s.length=0:=fun h=>h0 (List.eq_nil_of_length_eq_zero h)
 refine Ev.of ⟨Tryz.func23,by kernel_rfl,rfl,by kernel_rfl⟩ zao mixed (by show 2≤Tryz.f23.ntmps; decide) ?_
 refine W.r fun K hK=>?_
 simp(disch:=omega)only[↓RU,RV,RH,↓reduceIte,qE,reduceCtorEq,if_pos,↓RS,RG,qA,qM,qL]
 apply hK;clear hK K
 refine W.r fun K hK=>?_
 simp(disch:=omega)only[↓RU,RV,RH,↓reduceIte,qE,reduceCtorEq,if_pos,qN,↓RS,RG,qA,qM,qL,List.set_cons_succ,List.set_cons_zero]
 refine zac.ev (zd7 (S:=⟨[X0,X1,X2,.arr vb 56 2 [.nilp,.nils]],t⟩) (o:=3) rfl (.inl rfl)) ?_
 rintro _ _ ⟨rfl,rfl⟩
 simp(disch:=omega)only[↓RU,RV,RH,↓reduceIte,qE,reduceCtorEq,if_pos,qN,↓RS,RG,qA,qM,qL,List.set_cons_succ,List.set_cons_zero]
 apply hK;clear hK K
 refine W.r fun K hK=>?_
 simp(disch:=omega)only[↓RU,RV,RH,↓reduceIte,qE,reduceCtorEq,if_pos,↓RS,RG,qA,qM,qL,ty5,ty7,zab,z8m,z8n,zdw,z4s,List.length_map,hl,z5b]
 apply hK;clear hK K
 refine W.r fun K hK=>?_
 simp(disch:=omega)only[↓RU,RV,RH,↓reduceIte,qE,reduceCtorEq,if_pos,↓RS,RG,qA,qM,qL,zab]
 apply hK;clear hK K
 refine W.ret ?_
 refine Br rfl ?_
 exact ⟨5,_,_,rfl⟩
theorem zj3 {X0 X1 X2:Ob} {vb vq t:Nat} {l s:Txt} (hl:l.length≤100000) (hs:s.length≤100000):Ev Tryz.prog 23 [.ref 3 vb 0,.str s] ⟨[X0,X1,X2,.arr vb 56 2 [.ref 3 vb 0,.loc 4 vq 0 (l).length],.arr vq 5 1 ((l).map eB)],t⟩ fun v S=>∃ vq t2:Nat,S=⟨[X0,X1,X2,.arr vb 56 2 [.ref 3 vb 0,.loc 4 vq 0 ((l++s)).length],.arr vq 5 1 (((l++s)).map eB)],t2⟩:=by
 refine Ev.of ⟨Tryz.func23,by kernel_rfl,rfl,by kernel_rfl⟩ zao mixed (by show 2≤Tryz.f23.ntmps; decide) ?_
 refine W.r fun K hK=>?_
 simp(disch:=omega)only[↓RU,RV,RH,↓reduceIte,qE,reduceCtorEq,if_pos,↓RS,RG,qA,qM,qL]
 apply hK;clear hK K
 refine W.r fun K hK=>?_
 simp(disch:=omega)only[↓RU,RV,RH,↓reduceIte,qE,reduceCtorEq,if_pos,qN,↓RS,RG,qA,qM,qL,List.set_cons_succ,List.set_cons_zero]
 refine zac.ev (zd7 (S:=⟨[X0,X1,X2,.arr vb 56 2 [.ref 3 vb 0,.loc 4 vq 0 (l).length],.arr vq 5 1 ((l).map eB)],t⟩) (o:=3) rfl (.inr rfl)) ?_
 rintro _ _ ⟨rfl,rfl⟩
 simp(disch:=omega)only[↓RU,RV,RH,↓reduceIte,qE,reduceCtorEq,if_pos,qN,↓RS,RG,qA,qM,qL,List.set_cons_succ,List.set_cons_zero]
 apply hK;clear hK K
 refine W.r fun K hK=>?_
 simp(disch:=omega)only[↓RU,RV,RH,↓reduceIte,qE,reduceCtorEq,if_pos,↓RS,RG,qA,qM,qL,ty5,ty7,zab,z8m,z8n,zdw,z4s,List.length_map,z5b]
 apply hK;clear hK K
 refine W.r fun K hK=>?_
 simp(disch:=omega)only[↓RU,RV,RH,↓reduceIte,qE,reduceCtorEq,if_pos,↓RS,RG,qA,qM,qL,zab]
 apply hK;clear hK K
 refine W.ret ?_
 refine Br rfl ?_
 exact ⟨5,t,t+1,by simp [zbl]⟩
theorem zpl {S:Store} {x t:Rect}:pEq tab S 37 (zsa x) (.agg [.int .i64 t.row,.int .i64 t.col,.int .i64 t.high,.int .i64 t.wide])=some (decide (x=t)):=by
 have h:(tab 37).kd = .struct [(0,3),(1,3),(2,3),(3,3)]:=by kernel_rfl
 have h2:zg4 tab [(0,3),(1,3),(2,3),(3,3)] 0=true:=by kernel_rfl
 obtain ⟨b1,b2,b3,b4⟩:=x
 obtain ⟨o1,o2,o3,o4⟩:=t
 unfold pEq
 rw [h]
 simp [h2,Rect.cells,zqu]
def slO (l:List Int) (v:Nat):PV:=match l with | [] => .nils | _ => .loc 1 v 0 l.length
def stO (b:Ob) (l:List Int) (v t:Nat):Store:=match l with | []=>⟨[b],t⟩ | _=>⟨[b,.arr v 3 1 (l.map (.int .i64))],t⟩
theorem zvv {v:Nat}:slO [] v = .nils:=rfl
theorem zvw {b:Ob} {v t:Nat}:stO b [] v t=⟨[b],t⟩:=rfl
theorem zyr {l:List Int} {v:Nat} (h:l≠[]):slO l v = .loc 1 v 0 l.length:=by cases l with | nil=>exact absurd rfl h | cons a l=>rfl
theorem zyu {b:Ob} {l:List Int} {v t:Nat} (h:l≠[]):stO b l v t=⟨[b,.arr v 3 1 (l.map (.int .i64))],t⟩:=by cases l with | nil=>exact absurd rfl h | cons a l=>rfl
theorem z7d {b:Ob} {l:List Int} {v t:Nat} {im:Bool} {k:Nat}:reify (stO b l v t) im (k+2) (slO l v)=some (eInts l):=by
 cases l with
 | nil=>rfl
 | cons a l=>exact zci (k:=k+1) (S:=⟨[b,.arr v 3 1 ((a::l).map (.int .i64))],t⟩) (o:=1) rfl (by simp) (z9k _)
theorem zmv {g:List (List Int)} {rs:List Rect}:(zaw g rs).isDef=true:=rfl
theorem z53 (b:Rect) (t:Rect) (l:List Int):(t.both b≠t∧l=[])∨(t.both b≠t∧l≠[])∨(t.both b=t∧l=[])∨(t.both b=t∧l≠[]):=by
 by_cases h:t.both b=t <;> by_cases e:l=[] <;> simp [h,e]
theorem zu9 (g:List (List Int)) {rs:List Rect} (hrs:rs.length≤1000) (hfit:∀ b∈rs,b.Fit) {t:Rect} (ht:t.Fit):PC Tryz.prog 29 [zd0 g rs t] (eInts (rms rs t)) true:=by
 simp only[zd0,Rect.cells]
 refine PC.of ⟨Tryz.func29,by kernel_rfl,rfl,by kernel_rfl⟩ zao mixed (by show 1≤Tryz.f29.ntmps; decide) ?_
 refine W.r fun K hK=>?_
 simp(disch:=omega)only[↓RU,RV,RH,↓reduceIte,qE,reduceCtorEq,if_pos,↓RS,RG,qA,qM,qL,ty6,za5,zap,zaa,za6,zaq]
 apply hK;clear hK K
 refine W.r fun K hK=>?_
 simp(disch:=omega)only[↓RU,RV,RH,↓reduceIte,qE,reduceCtorEq,if_pos,↓RS,RG,qA,qM,qL]
 apply hK;clear hK K
 refine W.seq ?_
 refine W.r fun K hK=>?_
 simp(disch:=omega)only[↓RU,RV,RH,↓reduceIte,qE,reduceCtorEq,if_pos,↓RS,RG,qA,qM,qL,ty1,ty3,zae,ty6,zgz,zc9,za5,zap,zaa,za6,zg0,zaq]
 apply hK;clear hK K
 refine W.block ?_
 refine W.loopS [1,10,11,12,3] (fun n vs S=>∃ i v tk:Nat,n=rs.length - i∧i≤rs.length∧vs=[.ref 0 0 0,znt rs,.int .i64 rs.length,.int .i64 i,slO (zdm rs t i) v]∧S=stO (.arr 0 39 5 [zaw g rs,.int .i64 t.row,.int .i64 t.col,.int .i64 t.high,.int .i64 t.wide]) (zdm rs t i) v tk) rs.length ?_ ?_
 ·refine ⟨1,[],[.ref 0 0 0,znt rs,.int .i64 rs.length,.int .i64 (0:Nat),slO [] 0],stO (.arr 0 39 5 [zaw g rs,.int .i64 t.row,.int .i64 t.col,.int .i64 t.high,.int .i64 t.wide]) [] 0 2,?_,?_,0,0,2,rfl,by omega,rfl,rfl⟩
  ·simp [-qU,Env.put,Env.of,zag,zcm,zar,zax,zba,zbb,zcr,zcs,zef,zcq,zbw,zct,zee,zeg,zby,zbx,zbc,zcp,zcu,zed,zbu,zbt,za9,zbv,zco,zih,qS,qP,qC,zvv]
  simp [-qU,Env.put,Env.of,zag,zcm,zar,zax,zba,zbb,zcr,zcs,zef,zcq,zbw,zct,zee,zeg,zby,zbx,zbc,zcp,zcu,zed,zbu,zbt,za9,zbv,zco,zih,qS,qP,qC,zvw,zod,Rect.cells]
 rintro n vs S - ⟨i,v,tk,rfl,h_i,rfl,rfl⟩
 refine W.r fun K hK=>?_
 simp(disch:=omega)only[↓RU,RV,RH,↓reduceIte,qE,reduceCtorEq,if_pos,w64,↓RS,RG,qA,qM,qL,zaa]
 apply hK;clear hK K
 refine W.seq ?_
 refine W.cond rfl (fun h=>?_) (fun h=>?_)
 ·try simp only[RL]at h
  obtain ⟨b,hb,hbm⟩:=zaf (show i<rs.length by omega)
  have hbr:=zk4 hb
  have hlen:=zrm (rs:=rs) (t:=t) (k:=i)
  generalize hl:zdm rs t i=l at hlen
  refine W.skip ?_
  refine xn ?_
  refine W.seq ?_
  refine W.block ?_
  refine W.r fun K hK=>?_
  obtain ⟨hd,rfl⟩ | ⟨hd,hw⟩ | ⟨hd,rfl⟩ | ⟨hd,hw⟩:=z53 b t l
  ·skip
   rw [zvv,zvw]
   simp(disch:=omega)only[↓RU,RV,RH,↓reduceIte,qE,reduceCtorEq,if_pos,↓RS,RG,qA,qM,qL,ty3,zap,zaa,zaq,hbr,za8,Rect.cells]
   apply hK;clear hK K
   refine W.seq_draw (by kernel_rfl) fun K hK=>?_
   simp(disch:=omega)only[↓RU,RV,RH,↓reduceIte,qE,reduceCtorEq,if_pos,qN,w64,↓RS,RG,qA,qM,qL,ty6,za5,zap,zaa,za6,zaq]
   refine zac.pc (zk8 ht.in_ (hfit b hbm).in_) rfl (.inl rfl) ?_
   simp(disch:=omega)only[↓RU,RV,RH,↓reduceIte,qE,reduceCtorEq,if_pos,qN,w64,↓RS,RG,qA,qM,qL,ty6,za5,zap,zaa,za6,zaq,zpl,qO]
   apply hK;clear hK K
   refine W.cond rfl (fun h1=>?_) (fun h1=>?_)
   ·try simp only[RL]at h1
    exact absurd h1 (by simp [hd])
   try simp only[RL]at h1
   refine W.skip ?_
   refine XbN ?_
   refine xn ?_
   refine W.k fun K hK=>?_
   simp(disch:=omega)only[↓RU,RV,RH,↓reduceIte,qE,reduceCtorEq,if_pos,w64,↓RS,RG,qA,qM,qL,zaa]
   apply hK;clear hK K
   refine xn ?_
   have hnx:zdm rs t (i+1)=[]:=by rw [zgy hb,hl,if_neg hd] <;> rfl
   refine ⟨rs.length - (i+1),by omega,1,[],[.ref 0 0 0,znt rs,.int .i64 rs.length,.int .i64 ((i+1:Nat):Int),slO (zdm rs t (i+1)) v],stO (.arr 0 39 5 [zaw g rs,.int .i64 t.row,.int .i64 t.col,.int .i64 t.high,.int .i64 t.wide]) (zdm rs t (i+1)) v (tk+2),?_,?_,i+1,v,(tk+2),rfl,by omega,rfl,rfl⟩
   ·rw [hnx]; simp [-qU,Env.put,Env.of,zag,zcm,zar,zax,zba,zbb,zcr,zcs,zef,zcq,zbw,zct,zee,zeg,zby,zbx,zbc,zcp,zcu,zed,zbu,zbt,za9,zbv,zco,zih,qS,qP,qC,zvv]
   rw [hnx]; simp [-qU,Env.put,Env.of,zag,zcm,zar,zax,zba,zbb,zcr,zcs,zef,zcq,zbw,zct,zee,zeg,zby,zbx,zbc,zcp,zcu,zed,zbu,zbt,za9,zbv,zco,zih,qS,qP,qC,zvw,Rect.cells]
  ·skip
   rw [zyr hw,zyu hw]
   simp(disch:=omega)only[↓RU,RV,RH,↓reduceIte,qE,reduceCtorEq,if_pos,↓RS,RG,qA,qM,qL,ty3,zap,zaa,zaq,hbr,za8,Rect.cells]
   apply hK;clear hK K
   refine W.seq_draw (by kernel_rfl) fun K hK=>?_
   simp(disch:=omega)only[↓RU,RV,RH,↓reduceIte,qE,reduceCtorEq,if_pos,qN,w64,↓RS,RG,qA,qM,qL,ty6,za5,zap,zaa,za6,zaq]
   refine zac.pc (zk8 ht.in_ (hfit b hbm).in_) rfl (.inl rfl) ?_
   simp(disch:=omega)only[↓RU,RV,RH,↓reduceIte,qE,reduceCtorEq,if_pos,qN,w64,↓RS,RG,qA,qM,qL,ty6,za5,zap,zaa,za6,zaq,zpl,qO]
   apply hK;clear hK K
   refine W.cond rfl (fun h1=>?_) (fun h1=>?_)
   ·try simp only[RL]at h1
    exact absurd h1 (by simp [hd])
   try simp only[RL]at h1
   refine W.skip ?_
   refine XbN ?_
   refine xn ?_
   refine W.k fun K hK=>?_
   simp(disch:=omega)only[↓RU,RV,RH,↓reduceIte,qE,reduceCtorEq,if_pos,w64,↓RS,RG,qA,qM,qL,zaa]
   apply hK;clear hK K
   refine xn ?_
   have hnx:zdm rs t (i+1)=l:=by rw [zgy hb,hl,if_neg hd] <;> rfl
   refine ⟨rs.length - (i+1),by omega,2,[],[.ref 0 0 0,znt rs,.int .i64 rs.length,.int .i64 ((i+1:Nat):Int),slO (zdm rs t (i+1)) v],stO (.arr 0 39 5 [zaw g rs,.int .i64 t.row,.int .i64 t.col,.int .i64 t.high,.int .i64 t.wide]) (zdm rs t (i+1)) v (tk+2),?_,?_,i+1,v,(tk+2),rfl,by omega,rfl,rfl⟩
   ·rw [hnx]; simp [-qU,Env.put,Env.of,zag,zcm,zar,zax,zba,zbb,zcr,zcs,zef,zcq,zbw,zct,zee,zeg,zby,zbx,zbc,zcp,zcu,zed,zbu,zbt,za9,zbv,zco,zih,qS,qP,qC,zyr hw]
   rw [hnx]; simp [-qU,Env.put,Env.of,zag,zcm,zar,zax,zba,zbb,zcr,zcs,zef,zcq,zbw,zct,zee,zeg,zby,zbx,zbc,zcp,zcu,zed,zbu,zbt,za9,zbv,zco,zih,qS,qP,qC,zyu hw,zjt,Rect.cells]
  ·skip
   rw [zvv,zvw]
   simp(disch:=omega)only[↓RU,RV,RH,↓reduceIte,qE,reduceCtorEq,if_pos,↓RS,RG,qA,qM,qL,ty3,zap,zaa,zaq,hbr,za8,Rect.cells]
   apply hK;clear hK K
   refine W.seq_draw (by kernel_rfl) fun K hK=>?_
   simp(disch:=omega)only[↓RU,RV,RH,↓reduceIte,qE,reduceCtorEq,if_pos,qN,w64,↓RS,RG,qA,qM,qL,ty6,za5,zap,zaa,za6,zaq]
   refine zac.pc (zk8 ht.in_ (hfit b hbm).in_) rfl (.inl rfl) ?_
   simp(disch:=omega)only[↓RU,RV,RH,↓reduceIte,qE,reduceCtorEq,if_pos,qN,w64,↓RS,RG,qA,qM,qL,ty6,za5,zap,zaa,za6,zaq,zpl,qO]
   apply hK;clear hK K
   refine W.cond rfl (fun h1=>?_) (fun h1=>?_)
   ·try simp only[RL]at h1
    refine W.k fun K hK=>?_
    simp(disch:=omega)only[↓RU,RV,RH,↓reduceIte,qE,reduceCtorEq,if_pos,↓RS,RG,qA,qM,qL,zae,zaa]
    apply hK;clear hK K
    refine XbN ?_
    refine xn ?_
    refine W.k fun K hK=>?_
    simp(disch:=omega)only[↓RU,RV,RH,↓reduceIte,qE,reduceCtorEq,if_pos,w64,↓RS,RG,qA,qM,qL,zaa]
    apply hK;clear hK K
    refine xn ?_
    have hnx:zdm rs t (i+1)=[(i:Int)]:=by rw [zgy hb,hl,if_pos hd] <;> rfl
    refine ⟨rs.length - (i+1),by omega,1,[3],[.ref 0 0 0,znt rs,.int .i64 rs.length,.int .i64 ((i+1:Nat):Int),slO (zdm rs t (i+1)) (tk+3)],stO (.arr 0 39 5 [zaw g rs,.int .i64 t.row,.int .i64 t.col,.int .i64 t.high,.int .i64 t.wide]) (zdm rs t (i+1)) (tk+3) (tk+4),?_,?_,i+1,(tk+3),(tk+4),rfl,by omega,rfl,rfl⟩
    ·rw [hnx]; simp [-qU,Env.put,Env.of,zag,zcm,zar,zax,zba,zbb,zcr,zcs,zef,zcq,zbw,zct,zee,zeg,zby,zbx,zbc,zcp,zcu,zed,zbu,zbt,za9,zbv,zco,zih,qS,qP,qC,zyr]
    rw [hnx]; simp [-qU,Env.put,Env.of,zag,zcm,zar,zax,zba,zbb,zcr,zcs,zef,zcq,zbw,zct,zee,zeg,zby,zbx,zbc,zcp,zcu,zed,zbu,zbt,za9,zbv,zco,zih,qS,qP,qC,zyu,zod,Rect.cells]
   try simp only[RL]at h1
   exact absurd h1 (by simp [hd])
  skip
  rw [zyr hw,zyu hw]
  simp(disch:=omega)only[↓RU,RV,RH,↓reduceIte,qE,reduceCtorEq,if_pos,↓RS,RG,qA,qM,qL,ty3,zap,zaa,zaq,hbr,za8,Rect.cells]
  apply hK;clear hK K
  refine W.seq_draw (by kernel_rfl) fun K hK=>?_
  simp(disch:=omega)only[↓RU,RV,RH,↓reduceIte,qE,reduceCtorEq,if_pos,qN,w64,↓RS,RG,qA,qM,qL,ty6,za5,zap,zaa,za6,zaq]
  refine zac.pc (zk8 ht.in_ (hfit b hbm).in_) rfl (.inl rfl) ?_
  simp(disch:=omega)only[↓RU,RV,RH,↓reduceIte,qE,reduceCtorEq,if_pos,qN,w64,↓RS,RG,qA,qM,qL,ty6,za5,zap,zaa,za6,zaq,zpl,qO]
  apply hK;clear hK K
  refine W.cond rfl (fun h1=>?_) (fun h1=>?_)
  ·try simp only[RL]at h1
   refine W.k fun K hK=>?_
   simp(disch:=omega)only[↓RU,RV,RH,↓reduceIte,qE,reduceCtorEq,if_pos,↓RS,RG,qA,qM,qL,zae,zaa]
   apply hK;clear hK K
   refine XbN ?_
   refine xn ?_
   refine W.k fun K hK=>?_
   simp(disch:=omega)only[↓RU,RV,RH,↓reduceIte,qE,reduceCtorEq,if_pos,w64,↓RS,RG,qA,qM,qL,zaa]
   apply hK;clear hK K
   refine xn ?_
   have hnx:zdm rs t (i+1)=l++[(i:Int)]:=by rw [zgy hb,hl,if_pos hd] <;> rfl
   refine ⟨rs.length - (i+1),by omega,2,[],[.ref 0 0 0,znt rs,.int .i64 rs.length,.int .i64 ((i+1:Nat):Int),slO (zdm rs t (i+1)) (tk+2)],stO (.arr 0 39 5 [zaw g rs,.int .i64 t.row,.int .i64 t.col,.int .i64 t.high,.int .i64 t.wide]) (zdm rs t (i+1)) (tk+2) (tk+4),?_,?_,i+1,(tk+2),(tk+4),rfl,by omega,rfl,rfl⟩
   ·rw [hnx]; simp [-qU,Env.put,Env.of,zag,zcm,zar,zax,zba,zbb,zcr,zcs,zef,zcq,zbw,zct,zee,zeg,zby,zbx,zbc,zcp,zcu,zed,zbu,zbt,za9,zbv,zco,zih,qS,qP,qC,zyr (l:=l++[(i:Int)]) (by simp)]
   rw [hnx]; simp [-qU,Env.put,Env.of,zag,zcm,zar,zax,zba,zbb,zcr,zcs,zef,zcq,zbw,zct,zee,zeg,zby,zbx,zbc,zcp,zcu,zed,zbu,zbt,za9,zbv,zco,zih,qS,qP,qC,zyu (l:=l++[(i:Int)]) (by simp),zjt,Rect.cells]
  try simp only[RL]at h1
  exact absurd h1 (by simp [hd])
 try simp only[RL]at h
 obtain rfl:rs.length=i:=by omega
 refine W.exit ?_
 refine xe ?_
 refine xe ?_
 refine XBlock.hit ?_
 refine xn ?_
 refine W.r fun K hK=>?_
 simp(disch:=omega)only[↓RU,RV,RH,↓reduceIte,qE,reduceCtorEq,if_pos,↓RS,RG,qA,qM,qL]
 apply hK;clear hK K
 refine W.ret ?_
 refine Br rfl ?_
 exact z7d
theorem zec {g:List (List Int)} {nh nw:Nat} (hg:GW g nh nw) (rs:List Rect) {t:Pt} (ht:t.In nh nw) {level:Bool} {line:Nat} (hl1:1≤line) (hl2:if level then line<nh else line<nw):PC Tryz.prog 280 [zd0 g rs t.rect,.bool level,.int .i64 line] (.bool (thG g t level line)) true:=by
 obtain ⟨t1,t2,t3,t4⟩:=ht
 have hgg:=hg
 obtain ⟨g1,g2,g3,g4⟩:=hg.2.2
 obtain ⟨fr,hfr⟩:∃ fr:Nat,(if level then t.c else t.r)=fr:=⟨_,rfl⟩
 obtain ⟨lg,hlg⟩:∃ lg:Nat,(if level then t.w else t.h)=lg:=⟨_,rfl⟩
 have hth:thG g t level line=(List.range lg).all fun j=>zns g level line (fr+j):=by subst hfr hlg; cases level <;> rfl
 have hin:∀ j,j<lg→InL nh nw level line (fr+j):=by subst hfr hlg; intro j hj; refine ⟨hl1,?_⟩; cases level <;> simp at hj hl2 ⊢ <;> omega
 have hb:fr≤6∧lg≤6:=by subst hfr hlg; cases level <;> simp <;> omega
 have hln:line≤6:=by cases level <;> simp at hl2 <;> omega
 simp only[Pt.rect,zd0,Rect.cells]
 refine PC.of ⟨Tryz.func280,by kernel_rfl,rfl,by kernel_rfl⟩ zao mixed (by show 3≤Tryz.f280.ntmps; decide) ?_
 refine W.r fun K hK=>?_
 simp(disch:=omega)only[↓RU,RV,RH,↓reduceIte,qE,reduceCtorEq,if_pos,↓RS,RG,qA,qM,qL,ty6,za5,zap,zaa,za6,zaq]
 apply hK;clear hK K
 refine W.seq_draw (by kernel_rfl) fun K hK=>?_
 simp(disch:=omega)only[↓RU,RV,RH,↓reduceIte,qE,reduceCtorEq,if_pos,↓RS,RG,qA,qM,qL,ty6,za5,zap,zaa,za6,zaq]
 apply hK;clear hK K
 refine W.join [3,1,2,7,8] (fun vs S=>vs=[.ref 0 0 0,.bool level,.int .i64 line,.int .i64 fr,.int .i64 lg]∧S=⟨[.arr 0 39 5 [zaw g rs,.int .i64 t.r,.int .i64 t.c,.int .i64 t.h,.int .i64 t.w]],1⟩) ?_ ?_
 ·
  refine W.r fun K hK=>?_
  simp(disch:=omega)only[↓RU,RV,RH,↓reduceIte,qE,reduceCtorEq,if_pos,↓RS,RG,qA,qM,qL]
  apply hK;clear hK K
  refine W.cond rfl (fun h0=>?_) (fun h0=>?_)
  ·try simp only[RL]at h0
   refine W.draw_k (by kernel_rfl) fun K hK=>?_
   simp(disch:=omega)only[↓RU,RV,RH,↓reduceIte,qE,reduceCtorEq,if_pos,↓RS,RG,qA,qM,qL,ty6,za5,zap,zaa,za6,zaq]
   apply hK;clear hK K
   refine xn ?_
   refine ⟨1,?_,rfl⟩
   simp only[h0,if_true,qF,if_false]at hfr hlg
   subst hfr hlg h0
   simp [Env.put,Env.of,zag]
  try simp only[RL]at h0
  refine W.skip ?_
  refine xn ?_
  refine ⟨1,?_,rfl⟩
  simp only[h0,if_true,qF,if_false]at hfr hlg
  subst hfr hlg h0
  simp [Env.put,Env.of,zag]
 rintro vs S - ⟨rfl,rfl⟩
 refine W.seq ?_
 refine W.r fun K hK=>?_
 simp(disch:=omega)only[↓RU,RV,RH,↓reduceIte,qE,reduceCtorEq,if_pos,↓RS,RG,qA,qM,qL]
 apply hK;clear hK K
 refine W.block ?_
 refine W.loop [3,1,2,7,8,9] (fun n vs S=>∃ i:Nat,n=lg - i∧i≤lg∧(∀ j,j<i→zns g level line (fr+j)=true)∧vs=[.ref 0 0 0,.bool level,.int .i64 line,.int .i64 fr,.int .i64 lg,.int .i64 ((fr+i:Nat):Int)]∧S=⟨[.arr 0 39 5 [zaw g rs,.int .i64 t.r,.int .i64 t.c,.int .i64 t.h,.int .i64 t.w]],1⟩) (lg) ?_ ?_
 ·refine ⟨1,0,rfl,Nat.zero_le _,(fun j hj=>by omega),?_,rfl⟩
  simp [Env.put,Env.of,zag]
 rintro n vs S - ⟨i,rfl,h_i,hall,rfl,rfl⟩
 refine W.seq ?_
 refine W.r fun K hK=>?_
 simp(disch:=omega)only[↓RU,RV,RH,↓reduceIte,qE,reduceCtorEq,if_pos,w64,↓RS,RG,qA,qM,qL,zaa]
 apply hK;clear hK K
 refine W.cond rfl (fun h1=>?_) (fun h1=>?_)
 ·try simp only[RL]at h1
  refine W.skip ?_
  refine xn ?_
  refine W.seq ?_
  refine W.block ?_
  refine W.r fun K hK=>?_
  have hin2:=hin i (by omega)
  simp(disch:=omega)only[↓RU,RV,RH,↓reduceIte,qE,reduceCtorEq,if_pos,qN,↓RS,RG,qA,qM,qL,ty6,za5,zap,zaa,za6,zaq]
  refine zac.pc (z48 hgg rs hin2) rfl (.inl rfl) ?_
  simp(disch:=omega)only[↓RU,RV,RH,↓reduceIte,qE,reduceCtorEq,if_pos,qN,↓RS,RG,qA,qM,qL,ty6,za5,zap,zaa,za6,zaq]
  apply hK;clear hK K
  refine W.cond rfl (fun h2=>?_) (fun h2=>?_)
  ·try simp only[RL]at h2
   refine W.r fun K hK=>?_
   simp(disch:=omega)only[↓RU,RV,RH,↓reduceIte,qE,reduceCtorEq,if_pos,↓RS,RG,qA,qM,qL]
   apply hK;clear hK K
   refine W.ret ?_
   refine XBlock.ret ?_
   refine XThen.ret ?_
   refine XThen.ret ?_
   refine XBlock.ret ?_
   refine XThen.ret ?_
   refine Br rfl ?_
   rw [hth,show ((List.range lg).all fun j=>zns g level line (fr+j))=false from by rw [List.all_eq_false]; exact ⟨i,List.mem_range.2 (by omega),by simpa using h2⟩]
   rfl
  try simp only[RL]at h2
  refine W.skip ?_
  refine XbN ?_
  refine xn ?_
  refine W.k fun K hK=>?_
  simp(disch:=omega)only[↓RU,RV,RH,↓reduceIte,qE,reduceCtorEq,if_pos,w64,↓RS,RG,qA,qM,qL,zaa]
  apply hK;clear hK K
  refine xn ?_
  refine ⟨lg - (i+1),by omega,1,i+1,rfl,by omega,(fun j hj=>by rcases Nat.lt_succ_iff_lt_or_eq.1 hj with h | rfl; exact hall j h; simpa using h2),?_,rfl⟩
  simp [Env.put,Env.of]; omega
 try simp only[RL]at h1
 refine W.exit ?_
 refine xe ?_
 refine xe ?_
 refine XBlock.hit ?_
 refine xn ?_
 refine W.r fun K hK=>?_
 simp(disch:=omega)only[↓RU,RV,RH,↓reduceIte,qE,reduceCtorEq,if_pos,↓RS,RG,qA,qM,qL]
 apply hK;clear hK K
 refine W.ret ?_
 refine Br rfl ?_
 rw [hth,show ((List.range lg).all fun j=>zns g level line (fr+j))=true from by rw [List.all_eq_true]; intro j hj; exact hall j (by have:=List.mem_range.1 hj; omega)]
 rfl
theorem yan {g:List (List Int)} {row:List Int} (h:g[0]?=some row) (rs:List Rect):PC Tryz.prog 17 [zaw g rs] (zd0 g rs ⟨0,0,g.length,row.length⟩) false:=by
 refine PC.of ⟨Tryz.func17,by kernel_rfl,rfl,by kernel_rfl⟩ zao mixed (by show 1≤Tryz.f17.ntmps; decide) ?_
 refine W.r fun K hK=>?_
 simp(disch:=omega)only[↓RU,RV,RH,↓reduceIte,qE,reduceCtorEq,if_pos,↓RS,RG,qA,qM,qL,ty6,za5,zap,zaa,za6,zaq]
 apply hK;clear hK K
 refine W.r fun K hK=>?_
 simp(disch:=omega)only[↓RU,RV,RH,↓reduceIte,qE,reduceCtorEq,if_pos,qN,↓RS,RG,qA,qM,qL,ty6,za5,zap,zaa,za6,zaq,zmv]
 refine zac.pc (zqo g rs) rfl (.inl rfl) ?_
 simp(disch:=omega)only[↓RU,RV,RH,↓reduceIte,qE,reduceCtorEq,if_pos,qN,↓RS,RG,qA,qM,qL,ty6,za5,zap,zaa,za6,zaq,zmv]
 refine zac.pc (z0v h rs) rfl (.inl rfl) ?_
 simp(disch:=omega)only[↓RU,RV,RH,↓reduceIte,qE,reduceCtorEq,if_pos,qN,↓RS,RG,qA,qM,qL,ty6,za5,zap,zaa,za6,zaq,zmv]
 apply hK;clear hK K
 refine W.ret ?_
 refine Br rfl ?_
 rw [show (tab 39).size=5 by kernel_rfl]
 rfl
theorem yce (g:List (List Int)) (rs:List Rect) (t:Rect):PC Tryz.prog 227 [zd0 g rs t] (.fn 279 [.ip (zaw g rs::t.cells) 0]) false:=by
 simp only[zd0,Rect.cells]
 refine PC.of ⟨Tryz.func227,by kernel_rfl,rfl,by kernel_rfl⟩ zao mixed (by show 1≤Tryz.f227.ntmps; decide) ?_
 refine W.r fun K hK=>?_
 simp(disch:=omega)only[↓RU,RV,RH,↓reduceIte,qE,reduceCtorEq,if_pos,↓RS,RG,qA,qM,qL,ty6,za5,zap,zaa,za6,zaq]
 apply hK;clear hK K
 refine W.r fun K hK=>?_
 simp(disch:=omega)only[↓RU,RV,RH,↓reduceIte,qE,reduceCtorEq,if_pos,↓RS,RG,qA,qM,qL]
 apply hK;clear hK K
 refine W.ret ?_
 refine Br rfl ?_
 rfl
end Fw
end Go.Proofs.YtclbmeloiefbaaaGreatDoor
