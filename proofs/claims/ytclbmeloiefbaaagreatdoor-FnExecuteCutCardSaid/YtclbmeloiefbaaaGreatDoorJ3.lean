/- Parts of the framework and of the proof: The heaviest sums and the least sizes are the same; The program's walls and orders are the specification's; The program's direct orders are the specification's; Sums and counts of cells; The least rectangle around cells, by the program; The least rectangle around a room and its cells, by the specification; Plans that are read are the specification's: grids and names; Plans that are read are the specification's: numbers of rooms and rectangles; Plans that are read are the specification's: rooms fill their rectangles; Areas by the program are the specification's; Areas by the program are the specification's, joined; Arguments of laws as plain data; A slice of bytes as an argument: plain data; strings.Count of one sign, in the model's own words; Terms: how a text is read, by the specification and by the program; Plans in which no four rooms meet: two orders of rooms go on without end, and each two rooms are in one; Two plans side by side, each stretched where they meet; The program's closures and walls in words of cells: left of is going on from just left of, above is going on from just above; Orders of a plain plan: each two rooms are in just one; Where rooms begin and how far they may be moved: the program's lists are the specification's; Shapes in plain words: the program's least shapes are the specification's; Sizes in plain words: areas, places, slacks, longest rows; Grids whose cells are alike are numbered alike; the text of a numbered grid is named as it should be; Orders of plans that are made of other plans: rows and columns exchanged, turned, seen from behind, made wide or tight; Rooms put in a row by how many are ahead of them; The two orders are orders of all rooms; the places of the second order in the first one; What the laws of sizes ask, of plans in plain words; Longest rows of rooms, as the specification finds them, in plain words; Longest growing parts of the permutation of a plan are longest rows of its rooms; Plans that are made of other plans: their orders, their permutations and their least sizes; Upright cuts are where the permutation falls apart; Two plans side by side: their orders; Two plans side by side: their orders are those of each, and the first one's rooms are left of the second one's; Grids that are made of cells told by a function, gone through; Plans made of plans, gone through; Rooms of two plans put together, beside each other or one below the other: the permutation; Plans made of two plans beside each other or one below the other, each stretched where they meet; Cut trees: parts of plans, their first cuts, and the tree of all; Parts of plans as texts: the specification's cut and its parts; Parts of plans in the program: the rooms of a part, its lines, its cut; Cut trees, gone down; what is told along them; Cuts and orders: what lies on the two sides of a cut; widths along cuts are least widths; Plans that are cuttable, by the orders of their rooms; so by their permutations; Permutations of plain plans are fair; Loose permutations are those that fall apart; Cuts in the specification, gone through; Texts along cuts and widths along cuts in the specification, gone through; Fair and loose permutations of plain plans, as the program asks; Terms: signs moved inwards; permutations of terms; Plans of terms; Plans have terms with their permutation; texts of terms are read back; Texts before and behind a sign; texts of terms and of plans have no white space; strings.IndexByte, in the model's own words; Texts cut at a sign; numbers of one digit; a builder and texts, gone through; Parts of plans in the program: rooms, lines, gone through. -/
import Derived.Test.YtclbmeloiefbaaaGreatDoorJ2
import Derived.Test.YtclbmeloiefbaaaGreatDoorRows
import Derived.ProofKit
import Derived.SliceStrings
import Derived.Test.YtclbmeloiefbaaaGreatDoorJ1
import Derived.Lib.Bytealg
import Derived.Lib.Walk
import Derived.WalkKit
import Derived.Laws.Externs
set_option linter.all false
namespace Go.Proofs.YtclbmeloiefbaaaGreatDoor
namespace Fw
open Go
open Nat renaming reduceEqDiff → qE, reduceLeDiff → qL, reduceAdd → qA, reduceMul → qM, le_refl → qR
open List renaming append_nil → qN, mapM_append → qP, mapM_cons → qC, mapM_map → qU, range_succ → qS, take_of_length_le → qT
open Bool renaming and_eq_true → qB, false_eq_true → qF
open Option renaming map_some → qO, map_eq_some_iff → qI
open Int renaming reduceToNat → qZ
section
theorem ztu {α:Type} {f g:α→Bool}:∀ {l:List α},(∀ x∈l,f x=true→g x=true)→(∃ x∈l,g x=true∧f x=false)→l.countP f<l.countP g
 | [],_,h=>by obtain ⟨x,hx,_⟩:=h; simp at hx
 | a::l,h1,h2=>by
  have hle:l.countP f≤l.countP g:=List.countP_mono_left fun x hx=>h1 x (by simp [hx])
  have ha:=h1 a (by simp)
  rw [List.countP_cons,List.countP_cons]
  obtain ⟨x,hx,k1,k2⟩:=h2
  rcases List.mem_cons.1 hx with rfl | hx
  ·rw [k1,k2]; simp; omega
  have:=ztu (l:=l) (fun x hx=>h1 x (by simp [hx])) ⟨x,hx,k1,k2⟩
  cases hf:f a with
  | false=>simp; omega
  | true=>rw [ha hf]; simp; omega
def ahead (n:Nat) (rk:Nat→Nat) (b:Nat):Nat:=(List.range n).countP fun a=>decide (rk a<rk b)
theorem zzs {n:Nat} {rk:Nat→Nat} {a b:Nat} (ha:a<n) (h:rk a<rk b):ahead n rk a<ahead n rk b :=
 ztu (fun x _ hx=>by simp at hx ⊢; omega) ⟨a,by simpa using ha,by simpa using h,by simp⟩
section
variable {M:List (List Bool)} {ms:List Nat} {ws:List Int} {n:Nat} {rk:Nat→Nat}
def beg (M:List (List Bool)) (ws:List Int) (n b:Nat):Int:=hvF M (HB M ws n) b n
def Ge (n:Nat) (o out:List Int):Prop:=∀ b,b<n→zjb o b≤zjb out b
theorem Ge.refl (o:List Int):Ge n o o:=fun _ _=>Int.le_refl _
theorem Ge.trans {a b c:List Int} (h:Ge n a b) (k:Ge n b c):Ge n a c:=fun x hx=>Int.le_trans (h x hx) (k x hx)
theorem z78 {l:List Int} {b y:Nat} {v:Int} (hb:b<l.length):zjb (l.set b v) y=if y=b then v else zjb l y:=by
 unfold zjb
 rw [List.getElem?_set]
 by_cases h:b=y
 ·subst h; rw [if_pos rfl,if_pos hb,if_pos rfl]; rfl
 rw [if_neg h,if_neg (Ne.symm h)]
theorem z9o (hu:Up M n rk) {b:Nat} (hb:b<n):HB M ws n b=beg M ws n b+zjb ws b:=yd8 hu hb
theorem z4q {g:Nat→Int} {b:Nat}:∀ i,0≤hvF M g b i
 | 0=>by simp [hvF]
 | i+1=>by
  have:=z4q (g:=g) (b:=b) i
  rw [zo0]
  split <;> omega
end
end
def kk (lv:Bool):Int:=if lv then 1 else 0
def Rm (n:Nat) (l:List Int):Prop:=∀ x∈l,0≤x∧x<n
theorem Same.empty {n:Nat}:Same n (zgr n) (List.replicate n 0):=by
 refine ⟨zh6 n,by simp,fun a b ha hb=>?_⟩
 simp [zcq,zgr,z7s,ha,hb]
def sN:Nat→(Nat→Nat)→Nat
 | 0,_=>0
 | n+1,f=>sN n f+f n
theorem ze0 {f g:Nat→Nat}:∀ {n:Nat},(∀ i,i<n→f i=g i)→sN n f=sN n g
 | 0,_=>rfl
 | n+1,h=>by rw [sN,sN,ze0 (n:=n) fun i hi=>h i (by omega),h n (by omega)]
theorem z6n {f g:Nat→Nat}:∀ {n:Nat},(∀ i,i<n→f i≤g i)→sN n f≤sN n g
 | 0,_=>qR _
 | n+1,h=>by
  have:=z6n (n:=n) fun i hi=>h i (by omega)
  have:=h n (by omega)
  simp only[sN]; omega
theorem z85 {f g:Nat→Nat}:∀ {n:Nat},(∀ i,i<n→f i≤g i)→sN n f=sN n g→∀ i,i<n→f i=g i
 | 0,_,_,i,hi=>by omega
 | n+1,h,e,i,hi=>by
  have h1:=z6n (n:=n) fun i hi=>h i (by omega)
  have h2:=h n (by omega)
  simp only[sN]at e
  by_cases hin:i=n
  ·subst hin; omega
  exact z85 (n:=n) (fun i hi=>h i (by omega)) (by omega) i (by omega)
theorem zy6:∀ n,sN n (fun _=>0)=0
 | 0=>rfl
 | n+1=>by rw [sN,zy6 n]
theorem yal:∀ n,sN n (fun _=>1)=n
 | 0=>rfl
 | n+1=>by rw [sN,yal n]
theorem z1j (c:Nat):∀ n,sN n (fun _=>c)=n*c
 | 0=>by simp [sN]
 | n+1=>by rw [sN,z1j c n,Nat.succ_mul]
theorem yak {f g:Nat→Nat}:∀ n,sN n (fun i=>f i+g i)=sN n f+sN n g
 | 0=>rfl
 | n+1=>by rw [sN,sN,sN,yak n]; omega
theorem zy5 {f:Nat→Nat→Nat} {m:Nat}:∀ n,sN n (fun i=>sN m (fun j=>f i j))=sN m (fun j=>sN n (fun i=>f i j))
 | 0=>by simp only[sN]; rw [zy6]
 | n+1=>by
  simp only[sN]
  rw [zy5 n,yak]
theorem z6o {f:Nat→Nat} {c:Nat}:∀ n,sN n (fun i=>f i*c)=sN n f*c
 | 0=>by simp [sN]
 | n+1=>by rw [sN,sN,z6o n,Nat.add_mul]
def b1 (b:Bool):Nat:=if b then 1 else 0
def cnt (H W:Nat) (f:Nat→Nat→Bool):Nat:=sN H fun i=>sN W fun j=>b1 (f i j)
theorem ya3 {a b:Bool} (h:a=true→b=true):b1 a≤b1 b:=by
 cases a with
 | false=>simp [b1]
 | true=>rw [h rfl]; exact qR _
theorem ycx {a b:Bool} (h:b1 a=b1 b):a=b:=by cases a <;> cases b <;> simp [b1]at h ⊢
theorem yc5 {H W:Nat} {f g:Nat→Nat→Bool} (h:∀ i j,i<H→j<W→f i j=true→g i j=true):cnt H W f≤cnt H W g :=
 z6n fun i hi=>z6n fun j hj=>ya3 (h i j hi hj)
theorem yc4 {H W:Nat} {f g:Nat→Nat→Bool} (h:∀ i j,i<H→j<W→f i j=true→g i j=true) (e:cnt H W f=cnt H W g):∀ i j,i<H→j<W→f i j=g i j:=by
 intro i j hi hj
 have h1:=z85 (n:=H) (fun i hi=>z6n fun j hj=>ya3 (h i j hi hj)) e i hi
 exact ycx (z85 (n:=W) (fun j hj=>ya3 (h i j hi hj)) h1 j hj)
theorem z3v {H W:Nat} {f g:Nat→Nat→Bool} (h:∀ i j,i<H→j<W→f i j=g i j):cnt H W f=cnt H W g :=
 ze0 fun i hi=>ze0 fun j hj=>by rw [h i j hi hj]
theorem zxf {a k:Nat}:∀ {n:Nat},a+k≤n→sN n (fun i=>b1 (decide (a≤i) && decide (i<a+k)))=k
 | 0,h=>by simp [sN]; omega
 | n+1,h=>by
  rw [sN]
  by_cases hn:a+k≤n
  ·rw [zxf hn,decide_eq_false (p:=n<a+k) (by omega),Bool.and_false]; rfl
  have hnk:n+1=a+k:=by omega
  cases k with
  | zero =>
   have:sN n (fun i=>b1 (decide (a≤i) && decide (i<a+0)))=sN n (fun _=>0):=ze0 fun i hi=>by
    rw [decide_eq_false (p:=a≤i) (by omega)]; rfl
   rw [this,zy6,decide_eq_false (p:=a≤n) (by omega)]; rfl
  | succ k =>
   have e:sN n (fun i=>b1 (decide (a≤i) && decide (i<a+(k+1))))=sN n (fun i=>b1 (decide (a≤i) && decide (i<a+k))):=ze0 fun i hi=>by
    congr 2
    apply decide_eq_decide.2; omega
   rw [e,zxf (k:=k) (by omega),decide_eq_true (p:=a≤n) (by omega),decide_eq_true (p:=n<a+(k+1)) (by omega)]
   rfl
def inR (t l h w i j:Nat):Bool:=(decide (t≤i) && decide (i<t+h)) && (decide (l≤j) && decide (j<l+w))
theorem ycw {a b:Bool}:b1 (a && b)=b1 a*b1 b:=by cases a <;> cases b <;> rfl
theorem z7w {H W t l h w:Nat} (h1:t+h≤H) (h2:l+w≤W):cnt H W (inR t l h w)=h*w:=by
 unfold cnt inR
 have e:(fun i=>sN W fun j=>b1 ((decide (t≤i) && decide (i<t+h)) && (decide (l≤j) && decide (j<l+w))))=fun i=>b1 (decide (t≤i) && decide (i<t+h))*w:=by
  funext i
  have:(fun j=>b1 ((decide (t≤i) && decide (i<t+h)) && (decide (l≤j) && decide (j<l+w))))=fun j=>b1 (decide (l≤j) && decide (j<l+w))*b1 (decide (t≤i) && decide (i<t+h)):=by
   funext j; rw [ycw,Nat.mul_comm]
  rw [this,z6o,zxf h2,Nat.mul_comm]
 rw [e,z6o,zxf h1]
theorem zx7 {H W n:Nat} {z:Nat→Nat→Nat} (hz:∀ i j,i<H→j<W→z i j<n):sN n (fun r=>cnt H W fun i j=>decide (z i j=r))=H*W:=by
 unfold cnt
 rw [zy5]
 have:sN H (fun i=>sN n fun r=>sN W fun j=>b1 (decide (z i j=r)))=sN H (fun _=>W):=ze0 fun i hi=>by
  rw [zy5]
  have:sN W (fun j=>sN n fun r=>b1 (decide (z i j=r)))=sN W (fun _=>1):=ze0 fun j hj=>by
   have h1:=hz i j hi hj
   have e:sN n (fun r=>b1 (decide (z i j=r)))=sN n (fun r=>b1 (decide (z i j≤r) && decide (r<z i j+1))):=ze0 fun r hr=>by
    congr 1
    rw [Bool.eq_iff_iff]
    simp only[qB,decide_eq_true_eq]
    omega
   rw [e,zxf (by omega)]
  rw [this,yal]
 rw [this,z1j]
structure Hull (pr:Nat→Nat→Prop) (t l lo ri:Int):Prop where
 inn:∀ a b,pr a b→t≤a∧(a:Int)≤lo∧l≤b∧(b:Int)≤ri
 at_:∃ a b:Nat,pr a b∧(a:Int)=t
 al:∃ a b:Nat,pr a b∧(b:Int)=l
 ao:∃ a b:Nat,pr a b∧(a:Int)=lo
 ar:∃ a b:Nat,pr a b∧(b:Int)=ri
theorem Hull.uniq {pr:Nat→Nat→Prop} {t l lo ri t' l' lo' ri':Int} (h:Hull pr t l lo ri) (k:Hull pr t' l' lo' ri'):t=t'∧l=l'∧lo=lo'∧ri=ri':=by
 obtain ⟨a1,b1,p1,e1⟩:=h.at_
 obtain ⟨a2,b2,p2,e2⟩:=h.al
 obtain ⟨a3,b3,p3,e3⟩:=h.ao
 obtain ⟨a4,b4,p4,e4⟩:=h.ar
 obtain ⟨a5,b5,p5,e5⟩:=k.at_
 obtain ⟨a6,b6,p6,e6⟩:=k.al
 obtain ⟨a7,b7,p7,e7⟩:=k.ao
 obtain ⟨a8,b8,p8,e8⟩:=k.ar
 have q1:=k.inn _ _ p1
 have q2:=k.inn _ _ p2
 have q3:=k.inn _ _ p3
 have q4:=k.inn _ _ p4
 have q5:=h.inn _ _ p5
 have q6:=h.inn _ _ p6
 have q7:=h.inn _ _ p7
 have q8:=h.inn _ _ p8
 omega
theorem Hull.congr {pr pr':Nat→Nat→Prop} {t l lo ri:Int} (h:Hull pr t l lo ri) (e:∀ a b,pr a b↔pr' a b):Hull pr' t l lo ri:=by
 have:pr=pr':=by funext a b; exact propext (e a b)
 exact this ▸ h
theorem Hull.add {pr:Nat→Nat→Prop} {t l lo ri:Int} (h:Hull pr t l lo ri) (i j:Nat):Hull (fun a b=>pr a b∨(a=i∧b=j)) (min t i) (min l j) (max lo i) (max ri j):=by
 refine ⟨?_,?_,?_,?_,?_⟩
 ·rintro a b (p | ⟨rfl,rfl⟩)
  ·have:=h.inn a b p; omega
  omega
 ·by_cases e:t≤i
  ·obtain ⟨a,b,p,q⟩:=h.at_; exact ⟨a,b,.inl p,by omega⟩
  exact ⟨i,j,.inr ⟨rfl,rfl⟩,by omega⟩
 ·by_cases e:l≤j
  ·obtain ⟨a,b,p,q⟩:=h.al; exact ⟨a,b,.inl p,by omega⟩
  exact ⟨i,j,.inr ⟨rfl,rfl⟩,by omega⟩
 ·by_cases e:(i:Int)≤lo
  ·obtain ⟨a,b,p,q⟩:=h.ao; exact ⟨a,b,.inl p,by omega⟩
  exact ⟨i,j,.inr ⟨rfl,rfl⟩,by omega⟩
 by_cases e:(j:Int)≤ri
 ·obtain ⟨a,b,p,q⟩:=h.ar; exact ⟨a,b,.inl p,by omega⟩
 exact ⟨i,j,.inr ⟨rfl,rfl⟩,by omega⟩
theorem Hull.one {pr:Nat→Nat→Prop} (h:∀ a b,¬ pr a b) (i j:Nat):Hull (fun a b=>pr a b∨(a=i∧b=j)) i j i j:=by
 refine ⟨?_,⟨i,j,.inr ⟨rfl,rfl⟩,rfl⟩,⟨i,j,.inr ⟨rfl,rfl⟩,rfl⟩,⟨i,j,.inr ⟨rfl,rfl⟩,rfl⟩,⟨i,j,.inr ⟨rfl,rfl⟩,rfl⟩⟩
 rintro a b (p | ⟨rfl,rfl⟩)
 ·exact absurd p (h a b)
 omega
def Gone (W i j a b:Nat):Prop:=b<W∧(a<i∨(a=i∧b<j))
theorem zll {W i j a b:Nat} (hj:j<W):Gone W i (j+1) a b↔Gone W i j a b∨(a=i∧b=j):=by unfold Gone; omega
theorem z0i {W i a b:Nat}:Gone W i W a b↔Gone W (i+1) 0 a b:=by unfold Gone; omega
def Val (z:Nat→Nat→Int) (W i j:Nat) (v:Int) (a b:Nat):Prop:=z a b=v∧Gone W i j a b
theorem zzk {z:Nat→Nat→Int} {W i j:Nat} {v:Int} (hj:j<W) (h:z i j=v) (a b:Nat):(Val z W i j v a b∨(a=i∧b=j))↔Val z W i (j+1) v a b:=by
 unfold Val
 rw [zll hj]
 constructor
 ·rintro (⟨h1,h2⟩ | ⟨rfl,rfl⟩)
  ·exact ⟨h1,.inl h2⟩
  exact ⟨h,.inr ⟨rfl,rfl⟩⟩
 rintro ⟨h1,h2 | h2⟩
 ·exact .inl ⟨h1,h2⟩
 exact .inr h2
theorem zu0 {z:Nat→Nat→Int} {W i j:Nat} {v:Int} (hj:j<W) (h:z i j≠v) (a b:Nat):Val z W i j v a b↔Val z W i (j+1) v a b:=by
 unfold Val
 rw [zll hj]
 constructor
 ·rintro ⟨h1,h2⟩; exact ⟨h1,.inl h2⟩
 rintro ⟨h1,h2 | ⟨rfl,rfl⟩⟩
 ·exact ⟨h1,h2⟩
 exact absurd h1 h
theorem z7f {z:Nat→Nat→Int} {W i:Nat} {v:Int} (a b:Nat):Val z W i W v a b↔Val z W (i+1) 0 v a b:=by unfold Val; rw [z0i]
def zld (pr:Nat→Nat→Prop) (b:Rect):Prop:=Hull pr b.row b.col (b.row+b.high - 1) (b.col+b.wide - 1)
theorem zld.both {pr:Nat→Nat→Prop} {b:Rect} (h:zld pr b) (i j:Nat):zld (fun a c=>pr a c∨(a=i∧c=j)) (b.both (zgj i j)):=by
 have:=Hull.add h i j
 unfold zld Rect.both zgj
 simp only
 rw [show min b.row (i:Int)+(max (b.row+b.high) ((i:Int)+1) - min b.row (i:Int)) - 1=max (b.row+b.high - 1) i by omega,show min b.col (j:Int)+(max (b.col+b.wide) ((j:Int)+1) - min b.col (j:Int)) - 1=max (b.col+b.wide - 1) j by omega]
 exact this
theorem z8m {i j:Nat}:(zgj i j).both (zgj i j)=zgj i j:=by
 unfold Rect.both zgj
 simp only[Rect.mk.injEq]
 omega
theorem zld.one {pr:Nat→Nat→Prop} (h:∀ a b,¬ pr a b) (i j:Nat):zld (fun a b=>pr a b∨(a=i∧b=j)) (zgj i j):=by
 have:=Hull.one h i j
 unfold zld zgj
 simp only
 rw [show (i:Int)+1 - 1=i by omega,show (j:Int)+1 - 1=j by omega]
 exact this
theorem zld.congr {pr pr':Nat→Nat→Prop} {b:Rect} (h:zld pr b) (e:∀ a c,pr a c↔pr' a c):zld pr' b:=Hull.congr h e
structure SeInv (z:Nat→Nat→Int) (W i j:Nat) (ks:List Int) (rs:List Rect):Prop where
 nd:ks.Nodup
 len:rs.length=ks.length
 mem:∀ a b,Gone W i j a b→z a b∈ks
 hull:∀ (m:Nat) v b,ks[m]?=some v→rs[m]?=some b→zld (Val z W i j v) b
theorem zqf {l:List Int} (h:l.Nodup) {a b:Nat} {v:Int} (ha:l[a]?=some v) (hb:l[b]?=some v):a=b:=by
 obtain ⟨p1,q1⟩:=List.getElem?_eq_some_iff.1 ha
 obtain ⟨p2,q2⟩:=List.getElem?_eq_some_iff.1 hb
 have:=List.pairwise_iff_getElem.1 h
 rcases Nat.lt_trichotomy a b with hlt | heq | hgt
 ·exact absurd (q1.trans q2.symm) (this a b p1 p2 hlt)
 ·exact heq
 exact absurd (q2.trans q1.symm) (this b a p2 p1 hgt)
theorem zia {ks:List Int} {z:Int} (h:¬ ks.idxOf z=ks.length):ks[ks.idxOf z]?=some z:=by
 have hl:=zg8 (ks:=ks) (z:=z)
 have:z∈ks:=by rw [← List.idxOf_lt_length_iff]; omega
 rw [List.getElem?_eq_getElem (List.idxOf_lt_length_iff.2 this),List.getElem_idxOf]
theorem zp3 {ks:List Int} {z:Int} (h:ks.idxOf z=ks.length):z ∉ ks:=by
 intro hm
 have:=List.idxOf_lt_length_iff.2 hm
 omega
theorem SeInv.step {z:Nat→Nat→Int} {W i j:Nat} {ks:List Int} {rs:List Rect} (h:SeInv z W i j ks rs) (hj:j<W):SeInv z W i (j+1) (zii ks (z i j)) (zpb ks rs (z i j) (zgj i j)):=by
 have hlen:=h.len
 by_cases hin:ks.idxOf (z i j)=ks.length
 ·have hnm:=zp3 hin
  have e1:zii ks (z i j)=ks++[z i j]:=by simp [zii,hin]
  have e2:zpb ks rs (z i j) (zgj i j)=rs++[zgj i j]:=by
   unfold zpb zi2
   rw [if_pos hin,hin,← hlen,List.getD_eq_getElem?_getD]
   simp [z8m]
  rw [e1,e2]
  refine ⟨?_,by simp [hlen],?_,?_⟩
  ·rw [List.nodup_append]
   refine ⟨h.nd,by simp,?_⟩
   intro a ha b hb
   rw [List.mem_singleton]at hb
   rintro rfl
   exact hnm (hb ▸ ha)
  ·intro a b hab
   rw [zll hj]at hab
   rcases hab with hab | ⟨rfl,rfl⟩
   ·exact List.mem_append_left _ (h.mem a b hab)
   simp
  intro m v b hm hb
  by_cases hml:m<ks.length
  ·rw [List.getElem?_append_left hml]at hm
   rw [List.getElem?_append_left (by omega)]at hb
   have hv:z i j≠v:=fun e=>hnm (e ▸ List.mem_of_getElem? hm)
   exact (h.hull m v b hm hb).congr (zu0 hj hv)
  have hml2:=zcx hm
  simp only[List.length_append,List.length_singleton]at hml2
  obtain rfl:m=ks.length:=by omega
  rw [List.getElem?_append_right (qR _),Nat.sub_self]at hm
  rw [← hlen,List.getElem?_append_right (qR _),Nat.sub_self]at hb
  simp only[List.getElem?_cons_zero,Option.some.injEq]at hm hb
  subst hm hb
  exact (zld.one (pr:=Val z W i j (z i j)) (fun a b hab=>hnm (hab.1 ▸ h.mem a b hab.2)) i j).congr (zzk hj rfl)
 have hk:=zia hin
 have hkl:=zcx hk
 have e1:zii ks (z i j)=ks:=by simp [zii,hin]
 obtain ⟨b0,hb0,-⟩:=zaf (show ks.idxOf (z i j)<rs.length by omega)
 have e2:zpb ks rs (z i j) (zgj i j)=rs.set (ks.idxOf (z i j)) (b0.both (zgj i j)):=by
  unfold zpb zi2
  rw [if_neg hin,List.getD_eq_getElem?_getD,hb0]; rfl
 rw [e1,e2]
 refine ⟨h.nd,by simp [hlen],?_,?_⟩
 ·intro a b hab
  rw [zll hj]at hab
  rcases hab with hab | ⟨rfl,rfl⟩
  ·exact h.mem a b hab
  exact List.mem_of_getElem? hk
 intro m v b hm hb
 rw [List.getElem?_set]at hb
 by_cases e:ks.idxOf (z i j)=m
 ·subst e
  rw [if_pos rfl,if_pos (by omega)]at hb
  cases hb
  rw [hk]at hm
  cases hm
  exact ((h.hull _ _ _ hk hb0).both i j).congr (zzk hj rfl)
 rw [if_neg e]at hb
 have hv:z i j≠v:=by
  rintro rfl
  exact e (zqf h.nd hk hm)
 exact (h.hull m v b hm hb).congr (zu0 hj hv)
theorem SeInv.nil {z:Nat→Nat→Int} {W:Nat}:SeInv z W 0 0 [] []:=by
 refine ⟨by simp,rfl,?_,by simp⟩
 intro a b h
 unfold Gone at h; omega
theorem SeInv.row {g:List (List Int)} {W i:Nat} {s:List Int × List Rect} (h:SeInv (gz g) W i 0 s.1 s.2):∀ j,j≤W→SeInv (gz g) W i j (zc9 g i s j).1 (zc9 g i s j).2
 | 0,_=>h
 | j+1,hj=>(SeInv.row h j (by omega)).step (by omega)
theorem SeInv.rows {g:List (List Int)} {W:Nat}:∀ i,SeInv (gz g) W i 0 (zak g W i).1 (zak g W i).2
 | 0=>SeInv.nil
 | i+1=>by
  have h:=(SeInv.rows (g:=g) (W:=W) i).row W (qR _)
  refine ⟨h.nd,h.len,fun a b hab=>h.mem a b (z0i.2 hab),fun m v b hm hb=>(h.hull m v b hm hb).congr (fun a c=>z7f a c)⟩
theorem zqx {g:List (List Int)} {i:Nat} {s:List Int × List Rect}:∀ {j k:Nat},j≤k→∃ r,(zc9 g i s k).1=(zc9 g i s j).1++r
 | j,0,h=>by
  have hj:j=0:=by omega
  subst hj; exact ⟨[],by simp⟩
 | j,k+1,h=>by
  by_cases e:j=k+1
  ·subst e; exact ⟨[],by simp⟩
  obtain ⟨r,hr⟩:=zqx (g:=g) (i:=i) (s:=s) (show j≤k by omega)
  simp only[zc9,zii]
  split
  ·exact ⟨r++[gz g i k],by rw [hr,List.append_assoc]⟩
  exact ⟨r,hr⟩
theorem ztd {g:List (List Int)} {W:Nat}:∀ {i k:Nat},i≤k→∃ r,(zak g W k).1=(zak g W i).1++r
 | i,0,h=>by
  have hi:i=0:=by omega
  subst hi; exact ⟨[],by simp⟩
 | i,k+1,h=>by
  by_cases e:i=k+1
  ·subst e; exact ⟨[],by simp⟩
  obtain ⟨r,hr⟩:=ztd (g:=g) (W:=W) (show i≤k by omega)
  obtain ⟨r2,hr2⟩:=zqx (g:=g) (i:=k) (s:=zak g W k) (Nat.zero_le W)
  simp only[zak]
  refine ⟨r++r2,?_⟩
  rw [hr2,← List.append_assoc,← hr]; rfl
theorem zp2 {l r:List Int} {x:Int} (h:¬ l.idxOf x=l.length):(l++r).idxOf x=l.idxOf x:=by
 have hl:=zg8 (ks:=l) (z:=x)
 have hm:x∈l:=by rw [← List.idxOf_lt_length_iff]; omega
 rw [List.idxOf_append,if_pos hm]
theorem z4w {l r:List Int} {x:Int} (h:l.idxOf x=l.length):(l++[x]++r).idxOf x=l.length:=by
 have hm:x ∉ l:=zp3 h
 rw [List.append_assoc,List.idxOf_append,if_neg hm]
 simp
theorem zNum {g:List (List Int)} {W nh i j:Nat} (hi:i<nh) (hj:j<W):((zc9 g i (zak g W i) j).1.idxOf (gz g i j))=(zak g W nh).1.idxOf (gz g i j):=by
 obtain ⟨r,hr⟩:=ztd (g:=g) (W:=W) (show i+1≤nh by omega)
 obtain ⟨r2,hr2⟩:=zqx (g:=g) (i:=i) (s:=zak g W i) (show j+1≤W by omega)
 have e:(zak g W nh).1=zii (zc9 g i (zak g W i) j).1 (gz g i j)++(r2++r):=by
  rw [hr,← List.append_assoc]
  congr 1
 rw [e]
 generalize (zc9 g i (zak g W i) j).1=ks
 unfold zii
 by_cases hin:ks.idxOf (gz g i j)=ks.length
 ·rw [if_pos hin,z4w hin,hin]
 rw [if_neg hin,zp2 hin]
def inZ (p:List Txt) (r:Int) (i j:Nat):Bool:=decide (zaj p i j=r)
theorem zvy {p:List Txt} {i k:Nat} {row:Txt} {c:UInt8} {r:Int} (h:p[i]?=some row) (hc:row[k]?=some c):zkk r c=inZ p r i k:=by
 unfold zkk inZ; rw [zc6 h hc]
theorem znd {p:List Txt} {i:Nat} {row:Txt} {r:Int} (h:p[i]?=some row) (n:Int):∀ k,k≤row.length→zcr r n (row.take k)=n+sN k fun j=>b1 (inZ p r i j)
 | 0,_=>by simp [zcr,sN]
 | k+1,hk=>by
  obtain ⟨c,hc,-⟩:=zaf (show k<row.length by omega)
  have ih:=znd (r:=r) h n k (by omega)
  unfold zcr at ih ⊢
  rw [zjw hc,ih,sN,zvy h hc]
  cases inZ p r i k <;> simp [b1]
  omega
theorem zqa {p:List Txt} {W:Nat} (hW:∀ row∈p,row.length=W) {r:Int}:∀ i,i≤p.length→(p.take i).foldl (zcr r) 0=((sN i fun i=>sN W fun j=>b1 (inZ p r i j):Nat):Int)
 | 0,_=>by simp [sN]
 | i+1,hi=>by
  obtain ⟨row,hr,hm⟩:=zaf (show i<p.length by omega)
  have ih:=zqa hW (r:=r) i (by omega)
  have hl:=hW row hm
  have:=znd (r:=r) hr (((sN i fun i=>sN W fun j=>b1 (inZ p r i j):Nat):Int)) W (by omega)
  rw [qT (by omega)]at this
  rw [zjw hr,ih,this,sN]
  simp
theorem z2d {p:List Txt} {W:Nat} (hW:∀ row∈p,row.length=W) {r:Int}:zeq p r=((cnt p.length W (inZ p r):Nat):Int):=by
 have:=zqa hW (r:=r) p.length (qR _)
 rwa [List.take_length]at this
def zkd (H W:Nat) (pr:Nat→Nat→Prop) (b:Box):Prop:=((∀ a c,¬ pr a c)∧b=⟨H,W,-1,-1⟩)∨Hull pr b.top b.left b.low b.right
theorem zkd.congr {H W:Nat} {pr pr':Nat→Nat→Prop} {b:Box} (h:zkd H W pr b) (e:∀ a c,pr a c↔pr' a c):zkd H W pr' b:=by
 have:pr=pr':=by funext a b; exact propext (e a b)
 exact this ▸ h
theorem zkd.add {H W:Nat} {pr:Nat→Nat→Prop} {b:Box} (h:zkd H W pr b) {i k:Nat} (hi:i<H) (hk:k<W):zkd H W (fun a c=>pr a c∨(a=i∧c=k)) ⟨min b.top i,min b.left k,max b.low i,max b.right k⟩:=by
 rcases h with ⟨h1,rfl⟩ | h
 ·right
  have:=Hull.one h1 i k
  simp only
  rw [show min (H:Int) i=i by omega,show min (W:Int) k=k by omega,show max (-1:Int) i=i by omega,show max (-1:Int) k=k by omega]
  exact this
 exact .inr (Hull.add h i k)
theorem zxc {p:List Txt} {H W i:Nat} {row:Txt} {r:Int} (hr:p[i]?=some row) (hW:row.length=W) (hi:i<H) {b:Box} (h:zkd H W (Val (zaj p) W i 0 r) b):∀ k,k≤W→zkd H W (Val (zaj p) W i k r) (zl4 r i b row k)
 | 0,_=>by simpa [zl4] using h
 | k+1,hk=>by
  obtain ⟨c,hc,-⟩:=zaf (show k<row.length by omega)
  have ih:=zxc hr hW hi h k (by omega)
  rw [zj5 hc]
  unfold zkr
  simp only
  rw [zvy hr hc]
  by_cases e:zaj p i k=r
  ·rw [if_pos (by unfold inZ; exact decide_eq_true e)]
   exact (ih.add hi (by omega)).congr (zzk (by omega) e)
  rw [if_neg (by unfold inZ; rw [decide_eq_false e]; exact Bool.false_ne_true)]
  exact ih.congr (zu0 (by omega) e)
theorem zu7 {p:List Txt} {W:Nat} (hW:∀ row∈p,row.length=W) (hh:(zan p).length=W) {r:Int}:∀ i,i≤p.length→zkd p.length W (Val (zaj p) W i 0 r) (zix p r i)
 | 0,_=>by
  left
  refine ⟨fun a c h=>?_,by simp [zix,hh]⟩
  have:=h.2
  unfold Gone at this; omega
 | i+1,hi=>by
  obtain ⟨row,hr,hm⟩:=zaf (show i<p.length by omega)
  rw [zmh hr]
  have:=zxc (r:=r) hr (hW row hm) (by omega) (zu7 hW hh i (by omega)) W (qR _)
  rw [hW row hm]
  exact this.congr fun a c=>z7f a c
theorem z3p {p:List Txt} {W:Nat} (hW:∀ row∈p,row.length=W) (hh:(zan p).length=W) {r:Int}:zkd p.length W (Val (zaj p) W p.length 0 r) (zgp p r):=by
 rw [← zlf]; exact zu7 hW hh p.length (qR _)
theorem Hull.nat {z:Nat→Nat→Int} {H W:Nat} {v:Int} {t l lo ri:Int} (h:Hull (Val z W H 0 v) t l lo ri):∃ t' l' h' w':Nat,t=t'∧l=l'∧lo=t'+h' - 1∧ri=l'+w' - 1∧1≤h'∧1≤w'∧t'+h'≤H∧l'+w'≤W ∧
  ∀ i j,i<H→j<W→z i j=v→inR t' l' h' w' i j=true:=by
 obtain ⟨a1,b1,p1,e1⟩:=h.at_
 obtain ⟨a2,b2,p2,e2⟩:=h.al
 obtain ⟨a3,b3,p3,e3⟩:=h.ao
 obtain ⟨a4,b4,p4,e4⟩:=h.ar
 have q1:=h.inn _ _ p1
 have q2:=h.inn _ _ p2
 obtain ⟨-,g3,g3'⟩:=p3
 obtain ⟨-,g4,g4'⟩:=p4
 refine ⟨a1,b2,a3+1 - a1,b4+1 - b2,e1.symm,e2.symm,by omega,by omega,by omega,by omega,by omega,by omega,fun i j hi hj hv=>?_⟩
 have:=h.inn i j ⟨hv,by unfold Gone; omega⟩
 unfold inR
 simp only[qB,decide_eq_true_eq]
 omega
def u8I (c:UInt8):Int:=(c.toNat:Int)
theorem yck {a b:UInt8} (h:u8I a=u8I b):a=b:=by
 unfold u8I at h
 exact UInt8.toNat_inj.1 (by omega)
theorem zvx {α β:Type} [DecidableEq α] [DecidableEq β] {f:α→β} (hf:∀ a b,f a=f b→a=b) {c:α}:∀ (l:List α),(l.map f).idxOf (f c)=l.idxOf c
 | []=>rfl
 | a::l=>by
  rw [List.map_cons,List.idxOf_cons,List.idxOf_cons,zvx hf l]
  by_cases e:a=c
  ·subst e; simp
  have e2:f a≠f c:=fun h=>e (hf _ _ h)
  rw [show (f a == f c)=false by simpa using e2,show (a == c)=false by simpa using e]
theorem ybj {p:List Txt} {i k:Nat} {row:Txt} {c:UInt8} (h:p[i]?=some row) (hc:row[k]?=some c):gz (zbs p) i k=u8I c:=by
 simp [gz,zbs,zu4,h,hc,u8I]
theorem zsy {p:List Txt} {i:Nat} {row:Txt} (h:p[i]?=some row) {o:List UInt8} {s:List Int × List Rect} (ho:o.map u8I=s.1):∀ j,j≤row.length →
  ((row.take j).foldl zdq (o,[])).1.map u8I=(zc9 (zbs p) i s j).1∧((row.take j).foldl zdq (o,[])).2=zn6 (zm9 (zbs p) i s j)
 | 0,_=>⟨by simpa [zc9] using ho,by simp [zm9,zn6]⟩
 | j+1,hj=>by
  obtain ⟨c,hc,-⟩:=zaf (show j<row.length by omega)
  obtain ⟨h1,h2⟩:=zsy h ho j (by omega)
  rw [zjw hc]
  generalize (row.take j).foldl zdq (o,[])=q at h1 h2 ⊢
  have hz:=ybj h hc
  have hi:(zc9 (zbs p) i s j).1.idxOf (gz (zbs p) i j)=q.1.idxOf c:=by rw [← h1,hz,zvx fun a b=>yck]
  have hl:(zc9 (zbs p) i s j).1.length=q.1.length:=by rw [← h1,List.length_map]
  constructor
  ·simp only[zdq,zc9,zii]
   rw [hi,hl]
   split
   ·rw [List.map_append,h1,hz]; rfl
   exact h1
  simp only[zdq,zm9]
  rw [hi,h2]
  simp [zn6,z3f]
theorem z0n {p:List Txt} {W:Nat} (hW:∀ row∈p,row.length=W):∀ i,i≤p.length →
  ((p.take i).foldl znq ([],[])).1.map u8I=(zak (zbs p) W i).1∧((p.take i).foldl znq ([],[])).2=zd2 (zdx (zbs p) W i)
 | 0,_=>by simp [zak,zdx,zd2]
 | i+1,hi=>by
  obtain ⟨row,hr,hm⟩:=zaf (show i<p.length by omega)
  obtain ⟨h1,h2⟩:=z0n hW i (by omega)
  rw [zjw hr]
  generalize (p.take i).foldl znq ([],[])=q at h1 h2 ⊢
  have hl:=hW row hm
  obtain ⟨k1,k2⟩:=zsy hr h1 row.length (qR _)
  rw [List.take_length,hl]at k1 k2
  constructor
  ·simp only[znq,zqd,zak]; exact k1
  simp only[znq,zqd,zdx,zd2,List.map_append,List.map_cons,List.map_nil]
  rw [k2,h2]
  rfl
theorem zm7 {p:List Txt}:w0 (zbs p)=(zan p).length:=by
 cases p with
 | nil=>rfl
 | cons a p=>simp [w0,zbs,zu4,zan]
theorem zln {p:List Txt} (hg:zb7 p=true):∀ row∈p,row.length=(zan p).length:=by
 intro row hm
 obtain ⟨i,hi⟩:=List.getElem?_of_mem hm
 exact zdy hg hi
theorem zmv {p:List Txt} (hg:zb7 p=true):names p=zd2 (gP p):=by
 have:=(z0n (zln hg) p.length (qR _)).2
 rw [List.take_length]at this
 unfold names zub gP zG
 rw [this,zm7,zde]
theorem z79 {p:List Txt}:zb7 p=(zha p && okG (zbs p)):=by
 rw [Bool.eq_iff_iff,qB,zue,zde,zm7]
 unfold zb7 zha GW zq7
 simp only[qB,decide_eq_true_eq,List.all_eq_true,zde,true_and]
 constructor
 ·rintro ⟨⟨h1,h2⟩,h3⟩
  obtain ⟨row0,hr0,hm0⟩:=zaf (show 0<p.length by omega)
  have hh:=zb9 hr0
  have h4:=h1 row0 hm0
  refine ⟨fun r hr=>(h1 r hr).2,fun r hr=>?_,h2,h3,by rw [hh]; omega,by rw [hh]; omega⟩
  obtain ⟨t,ht,rfl⟩:=List.mem_map.1 hr
  rw [zj6]; exact (h1 t ht).1.1.1
 rintro ⟨h1,h2,h3,h4,h5,h6⟩
 refine ⟨⟨fun r hr=>?_,h3⟩,h4⟩
 have:=h2 (zu4 r) (List.mem_map.2 ⟨r,hr,rfl⟩)
 rw [zj6]at this
 exact ⟨⟨⟨this,by omega⟩,by omega⟩,h1 r hr⟩
theorem zzq {g:List (List Int)} {i:Nat} {s:List Int × List Rect}:∀ {j k:Nat},k<j→(zm9 g i s j)[k]?=some (((zc9 g i s k).1.idxOf (gz g i k):Nat):Int)
 | 0,k,h=>by omega
 | j+1,k,h=>by
  unfold zm9
  by_cases e:k=j
  ·subst e; rw [List.getElem?_append_right (by rw [zed]; exact qR _),zed]; simp
  rw [List.getElem?_append_left (by rw [zed]; omega)]; exact zzq (by omega)
def keys (p:List Txt):List Int:=(zak (zbs p) (zan p).length p.length).1
theorem z2a {p:List Txt}:gP p=zdx (zbs p) (zan p).length p.length:=by unfold gP zG; rw [zm7,zde]
theorem z8y {p:List Txt}:rP p=(zak (zbs p) (zan p).length p.length).2:=by unfold rP stG; rw [zm7,zde]
theorem z4j {p:List Txt} {i j:Nat} (hi:i<p.length) (hj:j<(zan p).length):gz (gP p) i j=(((keys p).idxOf (gz (zbs p) i j):Nat):Int):=by
 rw [z2a]
 unfold gz
 rw [zkb hi,Option.getD_some,zzq hj,Option.getD_some]
 congr 1
 exact zNum hi hj
theorem zgc (p:List Txt):SeInv (gz (zbs p)) (zan p).length p.length 0 (keys p) (rP p):=by
 rw [z8y]; exact SeInv.rows p.length
theorem zoy {H W i j:Nat} (hi:i<H) (hj:j<W):Gone W H 0 i j:=⟨hj,.inl hi⟩
theorem zir {p:List Txt}:z3k (gP p) p.length (zan p).length (rP p).length:=by
 intro i j hi hj
 rw [z4j hi hj]
 have hm:=(zgc p).mem i j (zoy hi hj)
 have hl:=(zgc p).len
 have:=List.idxOf_lt_length_iff.2 hm
 omega
structure Named (p:List Txt):Prop where
 hg:zb7 p=true
 ht:zd2 (gP p)=p
theorem Named.cell {p:List Txt} (h:Named p) {i j:Nat} (hi:i<p.length) (hj:j<(zan p).length):gz (gP p) i j=zaj p i j:=by
 have hgz:=z4j hi hj
 have hm:=(zgc p).mem i j (zoy hi hj)
 have hsm:=za3 h.hg
 obtain ⟨row0,hr0,hm0⟩:=zaf hsm.1
 have hh:=zb9 hr0
 have hw6:=hsm.2.2 row0 hm0
 have hw1:=zfc h.hg hr0
 rw [← hh]at hw6 hw1
 have hb:=zlc (g:=zbs p) hw6 hw1 p.length hsm.2.1
 rw [← z2a]at hb
 have hrl:(gP p).length=p.length:=by rw [z2a]; exact zcb _
 obtain ⟨zr,hzr,hzm⟩:=zaf (show i<(gP p).length by omega)
 have hzl:zr.length=(zan p).length:=by
  have e:=hzr
  rw [z2a,zkb hi]at e
  cases e
  exact zed _
 obtain ⟨z,hz,hzm2⟩:=zaf (show j<zr.length by omega)
 have hz1:=hb zr hzm z hzm2
 have e1:gz (gP p) i j=z:=by simp [gz,hzr,hz]
 have e2:p[i]?=some (zn6 zr):=by
  have:=zj8 hzr
  rwa [h.ht]at this
 have e3:(zn6 zr)[j]?=some (z3f z):=by simp [zn6,hz]
 rw [e1,zc6 e2 e3]
 unfold z3f
 rw [UInt8.toNat_ofNat_of_lt' (by show 97+z.toNat<256; omega)]
 omega
theorem Named.room {p:List Txt} (h:Named p) {i j:Nat} (hi:i<p.length) (hj:j<(zan p).length):0≤zaj p i j∧zaj p i j<(rP p).length:=by
 rw [← h.cell hi hj]; exact zir i j hi hj
theorem Named.key {p:List Txt} (h:Named p) {m:Nat} {v:Int} (hm:(keys p)[m]?=some v) (a b:Nat):Val (gz (zbs p)) (zan p).length p.length 0 v a b↔Val (zaj p) (zan p).length p.length 0 m a b:=by
 unfold Val
 constructor
 ·rintro ⟨h1,h2⟩
  refine ⟨?_,h2⟩
  obtain ⟨hb,ha⟩:=h2
  have ha':a<p.length:=by omega
  rw [← h.cell ha' hb,z4j ha' hb,h1]
  congr 1
  have hv:=List.mem_of_getElem? hm
  have hlt:=List.idxOf_lt_length_iff.2 hv
  have:=zia (ks:=keys p) (z:=v) (by omega)
  exact zqf (zgc p).nd this hm
 rintro ⟨h1,h2⟩
 refine ⟨?_,h2⟩
 obtain ⟨hb,ha⟩:=h2
 have ha':a<p.length:=by omega
 have hmem:=(zgc p).mem a b (zoy ha' hb)
 have hlt:=List.idxOf_lt_length_iff.2 hmem
 rw [← h.cell ha' hb,z4j ha' hb]at h1
 have:=zia (ks:=keys p) (z:=gz (zbs p) a b) (by omega)
 rw [show (keys p).idxOf (gz (zbs p) a b)=m by omega,hm]at this
 cases this; rfl
theorem Named.rect {p:List Txt} (h:Named p) {m:Nat} {b:Rect} (hb:(rP p)[m]?=some b):zld (Val (zaj p) (zan p).length p.length 0 m) b:=by
 have hi:=zgc p
 have hml:=zcx hb
 rw [hi.len]at hml
 obtain ⟨v,hv,-⟩:=zaf hml
 exact (hi.hull m v b hv hb).congr (h.key hv)
theorem Named.box {p:List Txt} (h:Named p) {m:Nat} {b:Rect} (hb:(rP p)[m]?=some b):b.row=(zgp p m).top∧b.col=(zgp p m).left∧b.high=zdd p m∧b.wide=zda p m:=by
 have h1:=h.rect hb
 have h2:=z3p (zln h.hg) rfl (r:=(m:Int))
 rcases h2 with ⟨h2,-⟩ | h2
 ·obtain ⟨a,c,q,-⟩:=h1.at_
  exact absurd q (h2 a c)
 have:=Hull.uniq h1 h2
 unfold zdd zda
 omega
theorem znn {f:UInt8→Int} {B:Int}:∀ (row:Txt) (n:Int),n≤B→(∀ c∈row,f c≤B)→row.foldl (fun n c=>max n (f c)) n≤B
 | [],n,h,_=>h
 | c::row,n,h,hc=>znn row _ (by have:=hc c (by simp); show max n (f c)≤B; omega) fun d hd=>hc d (by simp [hd])
theorem z1h {B:Int}:∀ (p:List Txt) (n:Int),n≤B→(∀ row∈p,∀ c∈row,(c.toNat:Int) - 97+1≤B)→p.foldl zff n≤B
 | [],n,h,_=>h
 | row::p,n,h,hc=>z1h p _ (znn row n h (hc row (by simp))) fun r hr=>hc r (by simp [hr])
theorem Named.rooms {p:List Txt} (h:Named p):zbt p=(rP p).length:=by
 have hi:=zgc p
 have hl:=hi.len
 apply Int.le_antisymm
 ·refine z1h p 0 (by omega) fun row hr c hc=>?_
  obtain ⟨i,hrow⟩:=List.getElem?_of_mem hr
  obtain ⟨j,hcol⟩:=List.getElem?_of_mem hc
  have hil:=zcx hrow
  have hjl:=zcx hcol
  have:=h.room hil (by rw [← zdy h.hg hrow]; exact hjl)
  rw [zc6 hrow hcol]at this
  omega
 by_cases h0:(rP p).length=0
 ·have:=(zdp p).1; omega
 obtain ⟨b,hb,-⟩:=zaf (show (rP p).length - 1<(rP p).length by omega)
 obtain ⟨a,c,⟨q1,q2⟩,-⟩:=(h.rect hb).at_
 obtain ⟨hc,ha⟩:=q2
 have ha':a<p.length:=by omega
 obtain ⟨row,hrow,hrm⟩:=zaf ha'
 have hrl:=zdy h.hg hrow
 obtain ⟨d,hd,-⟩:=zaf (show c<row.length by omega)
 have:=(z21 p 0).2 a c row d hrow hd
 rw [zc6 hrow hd]at q1
 unfold zbt
 omega
def inB (b:Rect) (i j:Nat):Bool:=(decide (b.row≤i) && decide ((i:Int)<b.row+b.high)) && (decide (b.col≤j) && decide ((j:Int)<b.col+b.wide))
theorem zo7 {z:Nat→Nat→Int} {H W:Nat} {v:Int} {b:Rect} (h:zld (Val z W H 0 v) b):((cnt H W (inB b):Nat):Int)=b.high*b.wide∧∀ i j,i<H→j<W→z i j=v→inB b i j=true:=by
 obtain ⟨t,l,hh,w,e1,e2,e3,e4,h1,h2,h3,h4,h5⟩:=Hull.nat h
 have e5:b.high=hh:=by omega
 have e6:b.wide=w:=by omega
 have e:∀ i j,inB b i j=inR t l hh w i j:=by
  intro i j
  unfold inB inR
  rw [e1,e2,e5,e6,Bool.eq_iff_iff]
  simp only[qB,decide_eq_true_eq]
  omega
 have e7:inB b=inR t l hh w:=by funext i j; exact e i j
 rw [e7,z7w h3 h4,e5,e6]
 exact ⟨by simp,h5⟩
def arN (p:List Txt) (m:Nat):Nat :=
 match (rP p)[m]? with
 | some b=>cnt p.length (zan p).length (inB b)
 | none=>0
theorem zzu {p:List Txt} {m:Nat} {b:Rect} (h:(rP p)[m]?=some b):arN p m=cnt p.length (zan p).length (inB b):=by simp [arN,h]
theorem z62 {p:List Txt} (h:Named p):∀ k,k≤(rP p).length→z27 ((rP p).take k)=((sN k (arN p):Nat):Int)
 | 0,_=>by simp [z27,sN]
 | k+1,hk=>by
  obtain ⟨b,hb,-⟩:=zaf (show k<(rP p).length by omega)
  rw [zq3 hb,z62 h k (by omega),sN,zzu hb,← (zo7 (h.rect hb)).1]
  simp
theorem Named.cells_le {p:List Txt} (h:Named p) {m:Nat} (hm:m<(rP p).length):cnt p.length (zan p).length (inZ p m)≤arN p m:=by
 obtain ⟨b,hb,-⟩:=zaf hm
 rw [zzu hb]
 exact yc5 fun i j hi hj hz=>(zo7 (h.rect hb)).2 i j hi hj (by unfold inZ at hz; simpa using hz)
theorem Named.all {p:List Txt} (h:Named p):sN (rP p).length (fun m=>cnt p.length (zan p).length (inZ p m))=p.length*(zan p).length:=by
 rw [← zx7 (H:=p.length) (W:=(zan p).length) (n:=(rP p).length) (z:=fun i j=>(zaj p i j).toNat) fun i j hi hj=>by have:=h.room hi hj; omega]
 refine ze0 fun m hm=>z3v fun i j hi hj=>?_
 unfold inZ
 have:=h.room hi hj
 apply decide_eq_decide.2
 omega
theorem z77 {p:List Txt} (h:Named p):zky (zbs p)=decide (sN (rP p).length (arN p)=p.length*(zan p).length):=by
 have:=z62 h (rP p).length (qR _)
 rw [List.take_length]at this
 unfold zky
 rw [show (stG (zbs p)).2=rP p from rfl,this,zde,zm7]
 apply decide_eq_decide.2
 omega
theorem Named.area {p:List Txt} (h:Named p) {m:Nat} (hm:m<(rP p).length):(zeq p m=zdd p m*zda p m)↔cnt p.length (zan p).length (inZ p m)=arN p m:=by
 obtain ⟨b,hb,-⟩:=zaf hm
 obtain ⟨-,-,e1,e2⟩:=h.box hb
 rw [z2d (zln h.hg),← e1,← e2,← (zo7 (h.rect hb)).1,zzu hb]
 omega
theorem Named.full {p:List Txt} (h:Named p):zky (zbs p)=true↔∀ m,m<(rP p).length→cnt p.length (zan p).length (inZ p m)=arN p m:=by
 rw [z77 h,decide_eq_true_eq,← h.all]
 constructor
 ·intro e m hm
  exact z85 (fun m hm=>h.cells_le hm) e.symm m hm
 intro e
 exact ze0 fun m hm=>(e m hm).symm
theorem Named.fill {p:List Txt} (h:Named p) (hf:zky (zbs p)=true) {m:Nat} {b:Rect} (hb:(rP p)[m]?=some b) {i j:Nat} (hi:i<p.length) (hj:j<(zan p).length):inB b i j=decide (zaj p i j=m):=by
 have e:=h.full.1 hf m (zcx hb)
 rw [zzu hb]at e
 exact (yc4 (fun i j hi hj hz=>(zo7 (h.rect hb)).2 i j hi hj (by unfold inZ at hz; simpa using hz)) e i j hi hj).symm
theorem zeo {p:List Txt}:zd0 p=zbc p:=by
 unfold zd0 znl okB okS zbc
 rw [Bool.eq_iff_iff]
 simp only[qB,decide_eq_true_eq,List.all_eq_true,List.mem_range]
 have hgi:=z79 (p:=p)
 constructor
 ·rintro ⟨⟨h1,h2,h3⟩,h4,h5⟩
  have hg:zb7 p=true:=by rw [hgi,h1,h2]; rfl
  have hN:Named p:=⟨hg,h5⟩
  have hr:=hN.rooms
  have h3':(rP p).length≤9:=h3
  refine ⟨⟨⟨hg,by rw [zmv hg]; exact h5⟩,by omega⟩,fun m hm=>?_⟩
  have hm':m<(rP p).length:=by omega
  exact (hN.area hm').2 (hN.full.1 h4 m hm')
 rintro ⟨⟨⟨hg,h2⟩,h3⟩,h4⟩
 have h5:zd2 (gP p)=p:=by rw [← zmv hg]; exact h2
 have hN:Named p:=⟨hg,h5⟩
 have hr:=hN.rooms
 rw [hgi,qB]at hg
 have h3':(rP p).length≤9:=by omega
 exact ⟨⟨hg.1,hg.2,h3'⟩,hN.full.2 fun m hm=>(hN.area hm).1 (h4 m (by omega)),h5⟩
theorem zds {p:List Txt} (h:zbc p=true):Named p:=by
 have h2:=h
 rw [← zeo]at h2
 unfold zd0 znl at h2
 simp only[qB,decide_eq_true_eq]at h2
 exact ⟨zc8 h,h2.2.2⟩
theorem z50 {p:List Txt} (h:zbc p=true):zky (zbs p)=true:=by
 rw [← zeo]at h
 unfold zd0 znl at h
 simp only[qB,decide_eq_true_eq]at h
 exact h.2.1
theorem z2s {p:List Txt} (h:zhc p=true):zbc p=true:=by
 unfold zhc at h
 rw [qB]at h
 exact h.1
theorem zt9 {l:List Int} {x:Int}:x∈ddp l↔x∈l:=by
 have:∀ (l m:List Int),x∈l.foldl zw2 m↔x∈m∨x∈l:=by
  intro l
  induction l with
  | nil=>intro m; simp
  | cons a l ih=>intro m; rw [List.foldl_cons,ih,z0m,List.mem_cons,or_assoc]
 unfold ddp
 rw [this]
 simp
def Rise (n:Nat) (rk:Nat→Nat) (M:List (List Bool)):Prop:=Sq n M∧∀ a b,a<n→b<n→zcq M a b=true→rk a<rk b
theorem Rise.fold {n:Nat} {rk:Nat→Nat} {f:List (List Bool)→Nat→List (List Bool)}:∀ (i:Nat) {M:List (List Bool)},i≤n→(∀ M j,j<n→Rise n rk M→Rise n rk (f M j))→Rise n rk M→Rise n rk ((List.range i).foldl f M)
 | 0,_,_,_,h=>h
 | i+1,M,hi,hs,h=>by
  rw [zev]
  exact hs _ i (by omega) (Rise.fold i (by omega) hs h)
theorem Rise.empty {n:Nat} {rk:Nat→Nat}:Rise n rk (zgr n):=by
 refine ⟨zh6 n,fun a b ha hb h=>?_⟩
 simp [zcq,zgr,ha,hb]at h
theorem zlx {p:List Txt} (hp:zbc p=true) {i j:Nat} (hi:i<p.length) (hj:j<(zan p).length):∃ b,(rP p)[(zaj p i j).toNat]?=some b∧inB b i j=true∧b.Fit∧∀ k l,k<p.length→l<(zan p).length→inB b k l=true→zaj p k l=zaj p i j:=by
 have hN:=zds hp
 have hr:=hN.room hi hj
 obtain ⟨b,hb,hbm⟩:=zaf (show (zaj p i j).toNat<(rP p).length by omega)
 have hf:=z50 hp
 have hsm:=za3 hN.hg
 obtain ⟨row0,hr0,hm0⟩:=zaf hsm.1
 have hh:=zb9 hr0
 have hw6:=hsm.2.2 row0 hm0
 have hw1:=zfc hN.hg hr0
 rw [← hh]at hw6 hw1
 have hok:=(zij (g:=zbs p) hw6 hw1 p.length hsm.2.1).1
 rw [← z8y]at hok
 refine ⟨b,hb,?_,hok.2 b hbm,fun k l hk hl hkl=>?_⟩
 ·rw [hN.fill hf hb hi hj]; exact decide_eq_true (by omega)
 rw [hN.fill hf hb hk hl]at hkl
 have:=of_decide_eq_true hkl
 omega
section
open Go Go.ChangeShapes Go.WideShapes Go.ChangeAt Go.RowKit
set_option maxRecDepth 100000 in
theorem z89 {W:World} {base:Nat} {t e:TypeId} {a:Addr} {len cap:Nat} (ht:Tryz.prog.underlying t=some (.slice e)) (hval:Value.okWide Tryz.prog W .any base t (.slice (some a) len cap)):a.spot=none∧a.block<W.heap.size:=by
 simp only[Value.okWide,ht,Cell.okWide,Cell.ok]at hval
 obtain ⟨-,-,-,hsp,row,cells,hsh,-⟩:=hval
 refine ⟨hsp,?_⟩
 unfold World.shape? at hsh
 rcases Nat.lt_or_ge a.block W.heap.size with h | h
 ·exact h
 rw [Array.getElem?_eq_none h]at hsh; cases hsh
end
section
open Go Go.ChangeShapes Go.WideShapes Go.ChangeAt Go.RowKit
set_option maxRecDepth 100000 in
theorem z9j {H:Type} {enc:TypeId × Value→H} {W:World} {base:Nat} {v:Value} {d:DataW H} {ps:List MemPlace} (hval:Value.okWide Tryz.prog W .any base 22 v) (h:DataW.Trod enc Tryz.prog W 0 (fun _=>true) true 22 v d ps) :
  ∃ p:Txt,VI W.heap (fun b=>b<W.heap.size) (.sl (p.map eB) p.length) v∧p.length≤9223372036854775807:=by
 obtain ⟨a0,len,cap,rfl⟩:=okWide_slice Tryz.underlying22 hval
 obtain ⟨fuel,hf⟩:=h
 rcases open_ints Tryz.underlying22 Tryz.underlying5 (by kernel_rfl) hf with ⟨hcs,hx⟩ | ⟨a,len',cap',zs,hcs,-,hl,hm,hz,hx,hcell,hwf⟩
 ·simp [Value.cells]at hcs
  obtain ⟨rfl,rfl,rfl⟩:=hcs
  exact ⟨[],.sl0,by simp⟩
 simp [Value.cells]at hcs
 obtain ⟨rfl,rfl,rfl⟩:=hcs
 obtain ⟨hsp,hlt⟩:=z89 Tryz.underlying22 hval
 obtain ⟨b,off,spot⟩:=a
 simp only at hsp hlt
 subst hsp
 simp only[if_true]at hz
 have hml:maxLen≤9223372036854775807:=by decide
 have hlen:((zs.take len).map fun n:Int=>UInt8.ofNat n.toNat).length=len:=by simp; omega
 have hget:∀ (i:Nat) c,((zs.take len).map fun n:Int=>UInt8.ofNat n.toNat)[i]?=some c→i<len∧(c.toNat:Int)=zs.getD i 0:=by
  intro i c hc
  rw [List.getElem?_map,qI]at hc
  obtain ⟨z,hz1,rfl⟩:=hc
  have hi:=zcx hz1
  simp only[List.length_take]at hi
  rw [List.getElem?_take_of_lt (by omega)]at hz1
  refine ⟨by omega,?_⟩
  rw [List.getD_eq_getElem?_getD,hz1,Option.getD_some]
  have hw:=hwf z (List.mem_of_getElem? hz1)
  have hz8:0≤z∧z<256:=by
   have e:IntKind.u8.min≤z∧z≤IntKind.u8.max:=by simpa [Lit.wf] using hw
   have e1:IntKind.u8.min=0:=by decide
   have e2:IntKind.u8.max=255:=by decide
   omega
  have e3:(UInt8.ofNat z.toNat).toNat=z.toNat % 256:=rfl
  rw [e3]
  omega
 refine ⟨(zs.take len).map fun n:Int=>UInt8.ofNat n.toNat,?_,by rw [hlen]; omega⟩
 rw [hlen]
 refine .sl _ _ b off cap (fun i => .int .u8 (zs.getD i 0)) (fun _=>hlt) hl (fun i q hq=>?_) (fun i q hq=>?_)
 ·rw [List.getElem?_map,qI]at hq
  obtain ⟨c,hc,rfl⟩:=hq
  obtain ⟨hi,-⟩:=hget i c hc
  refine ⟨rfl,?_⟩
  rw [← zeu]
  have:=hcell i (by omega)
  rwa [add_lit]at this
 rw [List.getElem?_map,qI]at hq
 obtain ⟨c,hc,rfl⟩:=hq
 obtain ⟨-,e⟩:=hget i c hc
 show VI _ _ (.int .u8 (c.toNat:Int)) _
 rw [e]
 exact .int _ _
end
section
open Go Go.RowKit
end
inductive Tm where
 | o
 | un (s:UInt8) (t:Tm)
 | bin (s:UInt8) (a b:Tm)
section
structure Pl (c:Nat→Nat→Nat) (H W:Nat):Prop where
 rect:∀ {i j i' j':Nat} (k l:Nat),i<H→i'<H→j<W→j'<W→c i j=c i' j'→min i i'≤k→k≤max i i'→min j j'≤l→l≤max j j'→c k l=c i j
 plain:∀ {i j:Nat},i+1<H→j+1<W→c i j≠c i (j+1)→c (i+1) j≠c (i+1) (j+1)→c i j≠c (i+1) j→c i (j+1)=c (i+1) (j+1)
def DL (c:Nat→Nat→Nat) (H W a b:Nat):Prop:=∃ j i1 i2,j+1<W∧i1<H∧i2<H∧(∀ r,min i1 i2≤r→r≤max i1 i2→c r j≠c r (j+1))∧a=c i1 j∧b=c i2 (j+1)
def DU (c:Nat→Nat→Nat) (H W a b:Nat):Prop:=∃ i j1 j2,i+1<H∧j1<W∧j2<W∧(∀ k,min j1 j2≤k→k≤max j1 j2→c i k≠c (i+1) k)∧a=c i j1∧b=c (i+1) j2
theorem zt7 {P:Nat→Prop}:∀ {n:Nat},P n→∃ m,m≤n∧P m∧∀ k,k<m→¬ P k:=by
 intro n
 induction n using Nat.strongRecOn with
 | _ n ih =>
  intro h
  by_cases c:∃ k,k<n∧P k
  ·obtain ⟨k,hk,hp⟩:=c
   obtain ⟨m,h1,h2,h3⟩:=ih k hk hp
   exact ⟨m,by omega,h2,h3⟩
  exact ⟨n,qR _,h,fun k hk hp=>c ⟨k,hk,hp⟩⟩
theorem zyf {P:Nat→Prop} {i:Nat}:∀ {n:Nat},i≤n→P i→¬ P n→∃ e,i≤e∧e+1≤n∧P e∧¬ P (e+1)
 | 0,h,h1,h2=>by
    obtain rfl:i=0:=by omega
    exact absurd h1 h2
 | n+1,h,h1,h2=>by
  by_cases c:P n
  ·by_cases e:i=n+1
   ·subst e; exact absurd h1 h2
   exact ⟨n,by omega,qR _,c,h2⟩
  by_cases e:i=n+1
  ·subst e; exact absurd h1 h2
  obtain ⟨m,k1,k2,k3⟩:=zyf (P:=P) (i:=i) (n:=n) (by omega) h1 c
  exact ⟨m,k1,by omega,k3⟩
section
variable {c:Nat→Nat→Nat} {H W:Nat}
def Stair (c:Nat→Nat→Nat) (H W:Nat) (Z:Nat→Prop):Prop:=∀ {i j:Nat} (i' j':Nat),i<H→j<W→i'≤i→j'≤j→Z (c i j)→Z (c i' j')
def Free (c:Nat→Nat→Nat) (H W:Nat) (Z:Nat→Prop):Prop:=∃ i j,i<H∧j<W∧¬ Z (c i j)∧(∀ a,DL c H W a (c i j)∨DU c H W a (c i j)→Z a)∧Stair c H W fun x=>Z x∨x=c i j
theorem z4h (h:Pl c H W) {Z:Nat→Prop} (hZ:Stair c H W Z) {i j:Nat} (hi:i<H) (hj:j<W) (hn:¬ Z (c i j)) (hu:∀ i',i'+1=i→Z (c i' j)) (hl:∀ j',j'+1=j→Z (c i j'))
  (hN:∀ i',i'+1=i→∀ k,j≤k→k<W→(∀ l,j≤l→l≤k→c i' l≠c i l)→Z (c i' k))
  (hA:∀ j',j'+1=j→∀ k,i≤k→k<H→(∀ r,i≤r→r≤k→c r j'≠c r j)→Z (c k j')):Free c H W Z:=by
 have up:∀ {i2 j2:Nat},i2<H→j2<W→c i2 j2=c i j→i≤i2:=by
  intro i2 j2 h1 h2 h3
  by_cases q:i≤i2
  ·exact q
  have h4:=hu (i - 1) (by omega)
  rw [h.rect (i - 1) j h1 hi h2 hj h3 (by omega) (by omega) (by omega) (by omega),h3]at h4
  exact absurd h4 hn
 have lf:∀ {i2 j2:Nat},i2<H→j2<W→c i2 j2=c i j→j≤j2:=by
  intro i2 j2 h1 h2 h3
  by_cases q:j≤j2
  ·exact q
  have h4:=hl (j - 1) (by omega)
  rw [h.rect i (j - 1) h1 hi h2 hj h3 (by omega) (by omega) (by omega) (by omega),h3]at h4
  exact absurd h4 hn
 have runL:∀ {i2 j2 r j':Nat},i2<H→j2<W→c i2 j2=c i j→j'+1=j→i≤r→r≤i2→c r j'≠c r j:=by
  intro i2 j2 r j' h1 h2 h3 h4 h5 h6 h7
  have h8:=lf h1 h2 h3
  have e1:c r j=c i j:=by
   rw [h.rect r j h1 hi h2 hj h3 (by omega) (by omega) (by omega) (by omega),h3]
  have h9:=lf (i2:=r) (j2:=j') (by omega) (by omega) (by rw [h7,e1])
  omega
 have runU:∀ {i2 j2 l i':Nat},i2<H→j2<W→c i2 j2=c i j→i'+1=i→j≤l→l≤j2→c i' l≠c i l:=by
  intro i2 j2 l i' h1 h2 h3 h4 h5 h6 h7
  have h8:=up h1 h2 h3
  have e1:c i l=c i j:=by
   rw [h.rect i l h1 hi h2 hj h3 (by omega) (by omega) (by omega) (by omega),h3]
  have h9:=up (i2:=i') (j2:=l) (by omega) (by omega) (by rw [h7,e1])
  omega
 refine ⟨i,j,hi,hj,hn,?_,?_⟩
 ·rintro a (⟨j0,i1,i2,k1,k2,k3,run,rfl,k4⟩ | ⟨i0,j1,j2,k1,k2,k3,run,rfl,k4⟩)
  ·have h1:=lf k3 k1 k4.symm
   have e:j0+1=j:=by
    by_cases q:j0+1=j
    ·exact q
    have:=h.rect i2 j0 k3 hi k1 hj k4.symm (by omega) (by omega) (by omega) (by omega)
    exact absurd this (run i2 (by omega) (by omega))
   subst e
   have h2:=up k3 k1 k4.symm
   by_cases q:i1<i
   ·exact hZ i1 j0 hi (by omega) (by omega) (qR _) (hl j0 rfl)
   refine hA j0 rfl i1 (by omega) k2 fun r r1 r2=>?_
   by_cases q2:min i1 i2≤r
   ·exact run r q2 (by omega)
   exact runL k3 k1 k4.symm rfl r1 (by omega)
  have h1:=up k1 k3 k4.symm
  have e:i0+1=i:=by
   by_cases q:i0+1=i
   ·exact q
   have:=h.rect i0 j2 k1 hi k3 hj k4.symm (by omega) (by omega) (by omega) (by omega)
   exact absurd this (run j2 (by omega) (by omega))
  subst e
  have h2:=lf k1 k3 k4.symm
  by_cases q:j1<j
  ·exact hZ i0 j1 (by omega) hj (qR _) (by omega) (hu i0 rfl)
  refine hN i0 rfl j1 (by omega) k2 fun r r1 r2=>?_
  by_cases q2:min j1 j2≤r
  ·exact run r q2 (by omega)
  exact runU k1 k3 k4.symm rfl r1 (by omega)
 intro i2 k2 i' j' h1 h2 h3 h4 h5
 rcases h5 with h5 | h5
 ·exact .inl (hZ i' j' h1 h2 h3 h4 h5)
 have q1:=up h1 h2 h5
 have q2:=lf h1 h2 h5
 by_cases q3:i'<i
 ·left
  refine hZ i' j' (show i - 1<H by omega) h2 (by omega) h4 (hN (i - 1) (by omega) k2 q2 h2 fun l l1 l2=>runU h1 h2 h5 (by omega) l1 l2)
 by_cases q4:j'<j
 ·left
  exact hZ i' j' h1 (show j - 1<W by omega) h3 (by omega) (hA (j - 1) (by omega) i2 q1 h1 fun r r1 r2=>runL h1 h2 h5 (by omega) r1 r2)
 right
 rw [h.rect i' j' h1 hi h2 hj h5 (by omega) (by omega) (by omega) (by omega),h5]
theorem z4g (h:Pl c H W) {Z:Nat→Prop} (hZ:Stair c H W Z):∀ (j i:Nat),i<H→j<W→¬ Z (c i j)→(∀ i',i'+1=i→Z (c i' j))→(∀ j',j'+1=j→Z (c i j')) →
  (∀ i',i'+1=i→∀ k,j≤k→k<W→(∀ l,j≤l→l≤k→c i' l≠c i l)→Z (c i' k))→Free c H W Z:=by
 intro j
 induction j using Nat.strongRecOn with
 | _ j ih =>
  intro i hi hj hn hu hl hN
  by_cases hA:∀ j',j'+1=j→∀ k,i≤k→k<H→(∀ r,i≤r→r≤k→c r j'≠c r j)→Z (c k j')
  ·exact z4h h hZ hi hj hn hu hl hN hA
  simp only[Classical.not_forall]at hA
  obtain ⟨j',rfl,k,h1,h2,run,h3⟩:=hA
  obtain ⟨e,e1,e2,e3,e4⟩:=zyf (P:=fun r=>Z (c r j')) h1 (hl j' rfl) h3
  obtain ⟨m,m1,m2,m3⟩:=zt7 (P:=fun l=>¬ Z (c (e+1) l)) e4
  refine ih m (by omega) (e+1) (by omega) (by omega) m2 ?_ ?_ ?_
  ·intro i' hi'
   obtain rfl:i'=e:=by omega
   exact hZ i' m (by omega) (by omega) (qR _) m1 e3
  ·intro l hl'
   exact Classical.not_not.1 (m3 l (by omega))
  intro i' hi' k2 k3 k4 k5
  obtain rfl:i'=e:=by omega
  by_cases q:k2≤j'
  ·exact hZ i' k2 (by omega) (by omega) (qR _) q e3
  have q1:=k5 (j'+1) (by omega) (by omega)
  have q2:=h.plain (i:=i') (j:=j') (by omega) hj (run i' (by omega) (by omega)) (run (i'+1) (by omega) (by omega)) (fun q3=>e4 (by rw [← q3]; exact e3))
  exact absurd q2 q1
theorem ybf (h:Pl c H W) {Z:Nat→Prop} (hZ:Stair c H W Z) (hx:∃ i j,i<H∧j<W∧¬ Z (c i j)):Free c H W Z:=by
 obtain ⟨i,hx⟩:=hx
 obtain ⟨i,-,⟨j,h1,h2,h3⟩,h4⟩:=zt7 (P:=fun i=>∃ j,i<H∧j<W∧¬ Z (c i j)) hx
 obtain ⟨j,j1,j2,j3⟩:=zt7 (P:=fun j=>¬ Z (c i j)) h3
 have all:∀ i',i'+1=i→∀ k,k<W→Z (c i' k):=fun i' e k hk=>Classical.byContradiction fun q=>h4 i' (by omega) ⟨k,by omega,hk,q⟩
 exact z4g h hZ j i h1 (by omega) j2 (fun i' e=>all i' e j (by omega)) (fun j' e=>Classical.not_not.1 (j3 j' (by omega))) (fun i' e k _ hk _=>all i' e k hk)
theorem z2l (h:Pl c H W) {n:Nat} (hc:∀ i j,i<H→j<W→c i j<n):∀ (m:Nat) (Z:Nat→Bool),Stair c H W (fun x=>Z x=true)→(List.range n).countP (fun x => !Z x)≤m→∃ f:Nat→Nat,∀ a b,Z a=false→Z b=false→DL c H W a b∨DU c H W a b→f a<f b:=by
 have cell:∀ {a b:Nat},DL c H W a b∨DU c H W a b→∃ i j,i<H∧j<W∧a=c i j:=by
  rintro a b (⟨j0,i1,i2,k1,k2,k3,run,rfl,k4⟩ | ⟨i0,j1,j2,k1,k2,k3,run,rfl,k4⟩)
  ·exact ⟨i1,j0,k2,by omega,rfl⟩
  exact ⟨i0,j1,by omega,k2,rfl⟩
 intro m
 induction m with
 | zero =>
  intro Z hZ hm
  refine ⟨fun _=>0,fun a b ha hb hd=>?_⟩
  obtain ⟨i,j,hi,hj,rfl⟩:=cell hd
  have h0:(List.range n).countP (fun x => !Z x)=0:=by omega
  rw [List.countP_eq_zero]at h0
  exact absurd (show (!Z (c i j))=true by rw [ha]; rfl) (h0 _ (by simpa using hc i j hi hj))
 | succ m ih =>
  intro Z hZ hm
  by_cases hx:∃ i j,i<H∧j<W∧¬ (Z (c i j)=true)
  ·obtain ⟨i,j,hi,hj,hn,hp,hs⟩:=ybf h (Z:=fun x=>Z x=true) hZ hx
   have hZ':Stair c H W (fun x=>(Z x || x == c i j)=true):=by
    intro i1 j1 i' j' h1 h2 h3 h4 h5
    have h6:=hs i' j' h1 h2 h3 h4 (by simpa using h5)
    simpa using h6
   have hlt:(List.range n).countP (fun x => !(Z x || x == c i j))<(List.range n).countP (fun x => !Z x):=by
    refine ztu (fun x _ hx=>?_) ⟨c i j,by simpa using hc i j hi hj,by simpa using hn,by simp⟩
    cases hz:Z x with
    | false=>rfl
    | true=>rw [hz]at hx; simp at hx
   obtain ⟨f,hf⟩:=ih (fun x=>Z x || x == c i j) hZ' (by omega)
   refine ⟨fun x=>if x=c i j then 0 else f x+1,fun a b ha hb hd=>?_⟩
   have hbA:b≠c i j:=by
    rintro rfl
    have q:Z a=true:=hp a hd
    rw [ha]at q; cases q
   simp only[if_neg hbA]
   by_cases haA:a=c i j
   ·simp only[if_pos haA]; omega
   simp only[if_neg haA]
   have:=hf a b (by simp [ha,haA]) (by simp [hb,hbA]) hd
   omega
  refine ⟨fun _=>0,fun a b ha hb hd=>?_⟩
  obtain ⟨i,j,hi,hj,rfl⟩:=cell hd
  exact absurd ⟨i,j,hi,hj,by rw [ha]; exact Bool.false_ne_true⟩ hx
theorem z0t (h:Pl c H W) {n:Nat} (hc:∀ i j,i<H→j<W→c i j<n):∃ f:Nat→Nat,∀ a b,DL c H W a b∨DU c H W a b→f a<f b:=by
 obtain ⟨f,hf⟩:=z2l h hc _ (fun _=>false) (fun _ _ _ _ _ _ h=>h) (qR _)
 exact ⟨f,fun a b hd=>hf a b rfl rfl hd⟩
def fl (c:Nat→Nat→Nat) (H i j:Nat):Nat:=c (H - 1 - i) j
def tr (c:Nat→Nat→Nat) (i j:Nat):Nat:=c j i
theorem Pl.dn (h:Pl c H W):Pl (fl c H) H W:=by
 refine ⟨fun k l h1 h2 h3 h4 h5 h6 h7 h8 h9=>?_,fun {i j} h1 h2 h3 h4 h5=>?_⟩
 ·exact h.rect _ _ (by omega) (by omega) h3 h4 h5 (by omega) (by omega) h8 h9
 unfold Fw.fl at *
 obtain ⟨k,rfl⟩:∃ k,H=i+2+k:=⟨H - (i+2),by omega⟩
 rw [show i+2+k - 1 - i=k+1 by omega,show i+2+k - 1 - (i+1)=k by omega] at *
 exact (h.plain (i:=k) (j:=j) (by omega) h2 h4 h3 (Ne.symm h5)).symm
theorem Pl.ex (h:Pl c H W):Pl (tr c) W H :=
 ⟨fun k l h1 h2 h3 h4 h5 h6 h7 h8 h9=>h.rect l k h3 h4 h1 h2 h5 h8 h9 h6 h7,fun {i j} h1 h2 h3 h4 h5=>by
  unfold Fw.tr at *
  by_cases q:c j i=c j (i+1)
  ·exact absurd q h5
  by_cases q2:c (j+1) i=c (j+1) (i+1)
  ·exact q2
  exact absurd (h.plain (i:=j) (j:=i) h2 h1 h5 q2 h3) h4⟩
theorem DL.ex {a b:Nat} (h:DL (tr c) W H a b):DU c H W a b:=h
theorem DU.ex {a b:Nat} (h:DU (tr c) W H a b):DL c H W a b:=h
theorem DL.dn {a b:Nat} (h:DL (fl c H) H W a b):DL c H W a b:=by
 obtain ⟨j,i1,i2,h1,h2,h3,run,rfl,rfl⟩:=h
 refine ⟨j,H - 1 - i1,H - 1 - i2,h1,by omega,by omega,fun r r1 r2=>?_,rfl,rfl⟩
 have:=run (H - 1 - r) (by omega) (by omega)
 unfold Fw.fl at this
 rwa [show H - 1 - (H - 1 - r)=r by omega]at this
theorem DL.unfl {a b:Nat} (h:DL c H W a b):DL (fl c H) H W a b:=by
 obtain ⟨j,i1,i2,h1,h2,h3,run,rfl,rfl⟩:=h
 refine ⟨j,H - 1 - i1,H - 1 - i2,h1,by omega,by omega,fun r r1 r2=>?_,?_,?_⟩
 ·exact run (H - 1 - r) (by omega) (by omega)
 ·unfold Fw.fl; rw [show H - 1 - (H - 1 - i1)=i1 by omega]
 unfold Fw.fl; rw [show H - 1 - (H - 1 - i2)=i2 by omega]
theorem DU.dn {a b:Nat} (h:DU (fl c H) H W a b):DU c H W b a:=by
 obtain ⟨i,j1,j2,h1,h2,h3,run,rfl,rfl⟩:=h
 refine ⟨H - 1 - (i+1),j2,j1,by omega,h3,h2,fun k k1 k2=>?_,?_,?_⟩
 ·have:=run k (by omega) (by omega)
  unfold Fw.fl at this
  rw [show H - 1 - (i+1)+1=H - 1 - i by omega]
  exact Ne.symm this
 ·rfl
 unfold Fw.fl; rw [show H - 1 - (i+1)+1=H - 1 - i by omega]
theorem DU.unfl {a b:Nat} (h:DU c H W a b):DU (fl c H) H W b a:=by
 obtain ⟨i,j1,j2,h1,h2,h3,run,rfl,rfl⟩:=h
 refine ⟨H - 1 - (i+1),j2,j1,by omega,h3,h2,fun k k1 k2=>?_,?_,?_⟩
 ·unfold Fw.fl
  rw [show H - 1 - (H - 1 - (i+1))=i+1 by omega,show H - 1 - (H - 1 - (i+1)+1)=i by omega]
  exact Ne.symm (run k (by omega) (by omega))
 ·unfold Fw.fl; rw [show H - 1 - (H - 1 - (i+1))=i+1 by omega]
 unfold Fw.fl; rw [show H - 1 - (H - 1 - (i+1)+1)=i by omega]
theorem z5o (h:Pl c H W) {n:Nat} (hc:∀ i j,i<H→j<W→c i j<n):∃ f:Nat→Nat,∀ a b,DL c H W a b∨DU c H W b a→f a<f b:=by
 obtain ⟨f,hf⟩:=z0t h.dn (n:=n) (fun i j hi hj=>hc _ j (by omega) hj)
 refine ⟨f,fun a b hd=>hf a b ?_⟩
 rcases hd with hd | hd
 ·exact .inl hd.unfl
 exact .inr hd.unfl
inductive TC (R:Nat→Nat→Prop):Nat→Nat→Prop
 | one {a b:Nat}:R a b→TC R a b
 | tail {a b d:Nat}:TC R a b→R b d→TC R a d
theorem TC.mono {R S:Nat→Nat→Prop} (h:∀ a b,R a b→S a b) {a b:Nat} (k:TC R a b):TC S a b:=by
 induction k with
 | one k=>exact .one (h _ _ k)
 | tail _ k ih=>exact .tail ih (h _ _ k)
theorem TC.trans {R:Nat→Nat→Prop} {a b d:Nat} (h:TC R a b) (k:TC R b d):TC R a d:=by
 induction k with
 | one k=>exact .tail h k
 | tail _ k ih=>exact .tail ih k
theorem TC.rev {R S:Nat→Nat→Prop} (h:∀ a b,R a b→S b a) {a b:Nat} (k:TC R a b):TC S b a:=by
 induction k with
 | one k=>exact .one (h _ _ k)
 | tail _ k ih=>exact (TC.one (h _ _ k)).trans ih
theorem TC.last {R:Nat→Nat→Prop} {a b:Nat} (h:TC R a b):∃ x,(x=a∨TC R a x)∧R x b:=by
 cases h with
 | one k=>exact ⟨a,.inl rfl,k⟩
 | tail h k=>exact ⟨_,.inr h,k⟩
theorem TC.rise {R:Nat→Nat→Prop} {f:Nat→Nat} (h:∀ a b,R a b→f a<f b) {a b:Nat} (k:TC R a b):f a<f b:=by
 induction k with
 | one k=>exact h _ _ k
 | tail _ k ih=>exact Nat.lt_trans ih (h _ _ k)
theorem zpa {i:Nat} (hi:i<H) {j1:Nat}:∀ {j2:Nat},j1≤j2→j2<W→c i j1≠c i j2→TC (DL c H W) (c i j1) (c i j2)
 | 0,h1,_,h3=>by
    obtain rfl:j1=0:=by omega
    exact absurd rfl h3
 | j2+1,h1,h2,h3=>by
  by_cases e:j1=j2+1
  ·subst e; exact absurd rfl h3
  by_cases q:c i j2=c i (j2+1)
  ·rw [← q]at h3 ⊢
   exact zpa hi (by omega) (by omega) h3
  have hd:DL c H W (c i j2) (c i (j2+1)):=⟨j2,i,i,h2,hi,hi,fun r r1 r2=>by
  obtain rfl:r=i:=by omega
  exact q,rfl,rfl⟩
  by_cases q2:c i j1=c i j2
  ·rw [q2]; exact .one hd
  exact .tail (zpa hi (by omega) (by omega) q2) hd
theorem z7x {j:Nat} (hj:j<W) {i1 i2:Nat} (h1:i1≤i2) (h2:i2<H) (h3:c i1 j≠c i2 j):TC (DU c H W) (c i1 j) (c i2 j) :=
 (zpa (c:=tr c) (H:=W) (W:=H) hj h1 h2 h3).mono fun _ _ h=>h.ex
theorem pass (h:Pl c H W) {r q A:Nat} (hr:r+1<H) (hq:q+1<W) (hNP:c r q=c (r+1) q) (hP:c (r+1) q≠c (r+1) (q+1)) (hQ:c r (q+1)≠c (r+1) (q+1))
  (h1:c (r+1) q=A∨TC (DL c H W) A (c (r+1) q)∨TC (DU c H W) A (c (r+1) q)) (h2:c r (q+1)=A∨TC (DL c H W) A (c r (q+1))∨TC (DU c H W) A (c r (q+1))) :
  TC (DL c H W) A (c (r+1) (q+1))∨TC (DU c H W) A (c (r+1) (q+1)):=by
 have hNQ:c r q≠c r (q+1):=by
  intro e
  have:=h.rect (i:=r+1) (j:=q) (i':=r) (j':=q+1) (r+1) (q+1) hr (by omega) (by omega) hq (by rw [← hNP,e]) (by omega) (by omega) (by omega) (by omega)
  exact hP this.symm
 have dP:DL c H W (c (r+1) q) (c (r+1) (q+1)):=⟨q,r+1,r+1,hq,hr,hr,fun x x1 x2=>by
    obtain rfl:x=r+1:=by omega
    exact hP,rfl,rfl⟩
 have dQ:DU c H W (c r (q+1)) (c (r+1) (q+1)):=⟨r,q+1,q+1,hr,hq,hq,fun x x1 x2=>by
    obtain rfl:x=q+1:=by omega
    exact hQ,rfl,rfl⟩
 rcases h1 with rfl | h1 | h1
 ·exact .inl (.one dP)
 ·exact .inl (.tail h1 dP)
 rcases h2 with rfl | h2 | h2
 ·exact .inr (.one dQ)
 ·left
  obtain ⟨x,hx,j0,i1,i2,k1,k2,k3,run,rfl,k4⟩:=h2.last
  have e:j0=q:=by
   by_cases q1:j0<q
   ·have:=h.rect r q k3 (show r<H by omega) k1 hq k4.symm (by omega) (by omega) (by omega) (by omega)
    rw [← k4]at this
    exact absurd this hNQ
   by_cases q2:q<j0
   ·have:=h.rect i2 j0 k3 (show r<H by omega) k1 hq k4.symm (by omega) (by omega) (by omega) (by omega)
    exact absurd this (run i2 (by omega) (by omega))
   omega
  subst e
  have hd:DL c H W (c i1 j0) (c (r+1) (j0+1)):=by
   refine ⟨j0,i1,r+1,hq,k2,hr,fun x x1 x2=>?_,rfl,rfl⟩
   by_cases q1:min i1 i2≤x∧x≤max i1 i2
   ·exact run x q1.1 q1.2
   by_cases q2:x=r+1
   ·subst q2; exact hP
   intro q3
   have e1:=h.rect x (j0+1) k3 (show r<H by omega) k1 hq k4.symm (by omega) (by omega) (by omega) (by omega)
   rw [← k4]at e1
   have e2:=h.rect (i:=x) (j:=j0) (i':=r) (j':=j0+1) r j0 (by omega) (by omega) (by omega) hq (by rw [q3,e1]) (by omega) (by omega) (by omega) (by omega)
   rw [q3,e1]at e2
   exact hNQ e2
  rcases hx with hx | hx
  ·rw [hx]at hd; exact .one hd
  exact .tail hx hd
 exact .inr (.tail h2 dQ)
theorem zzr (h:Pl c H W) {x y:Nat}:∀ (s:Nat) {i j:Nat},i+j≤s→x≤i→y≤j→i<H→j<W→c x y≠c i j→TC (DL c H W) (c x y) (c i j)∨TC (DU c H W) (c x y) (c i j):=by
 intro s
 induction s with
 | zero =>
  intro i j h1 h2 h3 h4 h5 h6
  obtain rfl:i=0:=by omega
  obtain rfl:j=0:=by omega
  obtain rfl:x=0:=by omega
  obtain rfl:y=0:=by omega
  exact absurd rfl h6
 | succ s ih =>
  intro i j h1 h2 h3 h4 h5 h6
  by_cases e1:x=i
  ·subst e1; exact .inl (zpa h4 h3 h5 h6)
  by_cases e2:y=j
  ·subst e2; exact .inr (z7x h5 h2 h4 h6)
  obtain ⟨r,rfl⟩:∃ r,i=r+1:=⟨i - 1,by omega⟩
  obtain ⟨q,rfl⟩:∃ q,j=q+1:=⟨j - 1,by omega⟩
  by_cases e3:c r (q+1)=c (r+1) (q+1)
  ·rw [← e3]at h6 ⊢
   exact ih (by omega) (by omega) h3 (by omega) h5 h6
  by_cases e4:c (r+1) q=c (r+1) (q+1)
  ·rw [← e4]at h6 ⊢
   exact ih (by omega) h2 (by omega) h4 (by omega) h6
  have iP:c (r+1) q=c x y∨TC (DL c H W) (c x y) (c (r+1) q)∨TC (DU c H W) (c x y) (c (r+1) q):=by
   by_cases k:c x y=c (r+1) q
   ·exact .inl k.symm
   exact .inr (ih (by omega) h2 (by omega) h4 (by omega) k)
  have iQ:c r (q+1)=c x y∨TC (DL c H W) (c x y) (c r (q+1))∨TC (DU c H W) (c x y) (c r (q+1)):=by
   by_cases k:c x y=c r (q+1)
   ·exact .inl k.symm
   exact .inr (ih (by omega) (by omega) h3 (by omega) h5 k)
  by_cases hNP:c r q=c (r+1) q
  ·exact pass h h4 h5 hNP e4 e3 iP iQ
  by_cases hNQ:c r q=c r (q+1)
  ·have:=pass (c:=tr c) (H:=W) (W:=H) h.ex (r:=q) (q:=r) (A:=c x y) h5 h4 hNQ e3 e4 ?_ ?_
   ·rcases this with k | k
    ·exact .inr (k.mono fun _ _ h=>h.ex)
    exact .inl (k.mono fun _ _ h=>h.ex)
   ·rcases iQ with k | k | k
    ·exact .inl k
    ·exact .inr (.inr k)
    exact .inr (.inl k)
   rcases iP with k | k | k
   ·exact .inl k
   ·exact .inr (.inr k)
   exact .inr (.inl k)
  exact absurd (h.plain h4 h5 hNQ e4 hNP) e3
theorem z9f (h:Pl c H W) {x y i j:Nat} (hx:x<H) (hy:y<W) (hi:i<H) (hj:j<W) (hne:c x y≠c i j) :
  TC (DL c H W) (c x y) (c i j)∨TC (DL c H W) (c i j) (c x y)∨TC (DU c H W) (c x y) (c i j)∨TC (DU c H W) (c i j) (c x y):=by
 have key:∀ {x y i j:Nat},x<H→y<W→i<H→j<W→c x y≠c i j→x≤i→TC (DL c H W) (c x y) (c i j)∨TC (DL c H W) (c i j) (c x y)∨TC (DU c H W) (c x y) (c i j)∨TC (DU c H W) (c i j) (c x y):=by
  intro x y i j hx hy hi hj hne hle
  by_cases q:y≤j
  ·rcases zzr h _ (qR _) hle q hi hj hne with k | k
   ·exact .inl k
   exact .inr (.inr (.inl k))
  have e1:fl c H (H - 1 - i) j=c i j:=by unfold fl; rw [show H - 1 - (H - 1 - i)=i by omega]
  have e2:fl c H (H - 1 - x) y=c x y:=by unfold fl; rw [show H - 1 - (H - 1 - x)=x by omega]
  have:=zzr h.dn (x:=H - 1 - i) (y:=j) _ (i:=H - 1 - x) (j:=y) (qR _) (by omega) (by omega) (by omega) hy (by rw [e1,e2]; exact Ne.symm hne)
  rw [e1,e2]at this
  rcases this with k | k
  ·exact .inr (.inl (k.mono fun _ _ h=>h.dn))
  exact .inr (.inr (.inl (k.rev fun _ _ h=>h.dn)))
 by_cases q:x≤i
 ·exact key hx hy hi hj hne q
 rcases key hi hj hx hy (Ne.symm hne) (by omega) with k | k | k | k
 ·exact .inr (.inl k)
 ·exact .inl k
 ·exact .inr (.inr (.inr k))
 exact .inr (.inr (.inl k))
end
end

section
section
variable {n:Nat} {M:List (List Bool)}
theorem absorb {p q:Bool}:(p || (q && p))=p:=by cases p <;> cases q <;> rfl
theorem z3u (h:Sq n M) {k:Nat} (hk:k<n):∀ i,i≤n→Sq n ((List.range i).foldl (clA n k) M) ∧
  ∀ x y,x<n→y<n→zcq ((List.range i).foldl (clA n k) M) x y=if x<i then zcq M x y || (zcq M x k && zcq M k y) else zcq M x y
 | 0,_=>⟨h,fun x y _ _=>by simp⟩
 | i+1,hi=>by
  obtain ⟨h1,h2⟩:=z3u h hk i (by omega)
  rw [zev]
  generalize (List.range i).foldl (clA n k) M=X at h1 h2 ⊢
  obtain ⟨h3,h4⟩:=z9v h1 hk (show i<n by omega) n (qR _)
  refine ⟨h3,fun x y hx hy=>?_⟩
  unfold clA
  rw [h4 x y hx hy]
  by_cases e:x=i
  ·subst e
   have e1:zcq X x y=zcq M x y:=by rw [h2 x y hx hy,if_neg (Nat.lt_irrefl _)]
   have e2:zcq X x k=zcq M x k:=by rw [h2 x k hx hk,if_neg (Nat.lt_irrefl _)]
   have e3:zcq X k y=zcq M k y:=by
    rw [h2 k y hk hy]
    split
    ·exact absorb
    rfl
   rw [if_pos ⟨rfl,hy⟩,if_pos (by omega),e1,e2,e3]
  rw [if_neg (fun q=>e q.1),h2 x y hx hy]
  by_cases e2:x<i
  ·rw [if_pos e2,if_pos (by omega)]
  rw [if_neg e2,if_neg (by omega)]
theorem ya7 (h:Sq n M) {k:Nat} (hk:k<n) {x y:Nat} (hx:x<n) (hy:y<n):zcq (clK n M k) x y=(zcq M x y || (zcq M x k && zcq M k y)):=by
 have:=(z3u h hk n (qR _)).2 x y hx hy
 rw [if_pos hx]at this
 exact this
theorem zz1 (h:Sq n M):∀ i,i≤n→Sq n ((List.range i).foldl (clK n) M) ∧
  (∀ a b,a<n→b<n→zcq M a b=true→zcq ((List.range i).foldl (clK n) M) a b=true) ∧
  (∀ m a b,m<i→a<n→b<n→zcq ((List.range i).foldl (clK n) M) a m=true→zcq ((List.range i).foldl (clK n) M) m b=true→zcq ((List.range i).foldl (clK n) M) a b=true) ∧
  (∀ T:Nat→Nat→Prop,(∀ a b d,T a b→T b d→T a d)→(∀ a b,a<n→b<n→zcq M a b=true→T a b)→∀ a b,a<n→b<n→zcq ((List.range i).foldl (clK n) M) a b=true→T a b)
 | 0,_=>⟨h,fun a b _ _ k=>k,fun m a b k=>by omega,fun T _ k=>k⟩
 | i+1,hi=>by
  obtain ⟨h1,h2,h3,h4⟩:=zz1 h i (by omega)
  rw [zev]
  generalize (List.range i).foldl (clK n) M=X at h1 h2 h3 h4 ⊢
  have hin:i<n:=by omega
  have g:∀ {x y:Nat},x<n→y<n→(zcq (clK n X i) x y=true↔zcq X x y=true∨(zcq X x i=true∧zcq X i y=true)):=by
   intro x y hx hy
   rw [ya7 h1 hin hx hy]; simp
  refine ⟨(z3u h1 hin n (qR _)).1,fun a b ha hb k=>(g ha hb).2 (.inl (h2 a b ha hb k)),fun m a b hm ha hb k1 k2=>?_,fun T tr hT a b ha hb k=>?_⟩
  ·have hmn:m<n:=by omega
   rw [g ha hmn]at k1
   rw [g hmn hb]at k2
   rw [g ha hb]
   by_cases e:m=i
   ·subst e
    rcases k1 with k1 | k1 <;> rcases k2 with k2 | k2
    ·exact .inr ⟨k1,k2⟩
    ·exact .inr ⟨k1,k2.2⟩
    ·exact .inr ⟨k1.1,k2⟩
    exact .inr ⟨k1.1,k2.2⟩
   have hmi:m<i:=by omega
   rcases k1 with k1 | k1 <;> rcases k2 with k2 | k2
   ·exact .inl (h3 m a b hmi ha hb k1 k2)
   ·exact .inr ⟨h3 m a i hmi ha hin k1 k2.1,k2.2⟩
   ·exact .inr ⟨k1.1,h3 m i b hmi hin hb k1.2 k2⟩
   exact .inr ⟨k1.1,k2.2⟩
  rw [g ha hb]at k
  rcases k with k | k
  ·exact h4 T tr hT a b ha hb k
  exact tr a i b (h4 T tr hT a i ha hin k.1) (h4 T tr hT i b hin hb k.2)
def MR (n:Nat) (M:List (List Bool)) (a b:Nat):Prop:=a<n∧b<n∧zcq M a b=true
theorem zz0 (h:Sq n M) {a b:Nat} (ha:a<n) (hb:b<n):zcq (zvb M) a b=true↔TC (MR n M) a b:=by
 obtain ⟨h1,h2,h3,h4⟩:=zz1 h n (qR _)
 have e:zvb M=(List.range n).foldl (clK n) M:=by unfold zvb; rw [h.1]
 rw [e]
 constructor
 ·exact h4 (TC (MR n M)) (fun _ _ _ p q=>p.trans q) (fun a b ha hb k => .one ⟨ha,hb,k⟩) a b ha hb
 intro k
 induction k with
 | one k=>exact h2 _ _ k.1 k.2.1 k.2.2
 | tail _ k ih=>exact h3 _ _ _ k.1 ha k.2.1 (ih k.1) (h2 _ _ k.1 k.2.1 k.2.2)
end
def Cov (ws:List Wall) (level:Bool) (line i1 i2:Nat):Prop:=∃ w∈ws,w.level=level∧w.line=line∧w.fr≤i1∧(i2:Int)<w.fr+w.long
theorem Cov.app {ws vs:List Wall} {level:Bool} {line i1 i2:Nat} (h:Cov ws level line i1 i2):Cov (ws++vs) level line i1 i2:=by
 obtain ⟨w,hw,k⟩:=h
 exact ⟨w,List.mem_append_left _ hw,k⟩
theorem Cov.long {ws:List Wall} {w:Wall} {level:Bool} {line i1 i2:Nat} (h:Cov (ws++[w]) level line i1 i2):Cov (ws++[{ w with long:=w.long+1 }]) level line i1 i2:=by
 obtain ⟨v,hv,k1,k2,k3,k4⟩:=h
 rcases List.mem_append.1 hv with hv | hv
 ·exact ⟨v,List.mem_append_left _ hv,k1,k2,k3,k4⟩
 rw [List.mem_singleton]at hv
 subst hv
 exact ⟨_,List.mem_append_right _ (List.mem_singleton.2 rfl),k1,k2,k3,by simp only; omega⟩
def Run (g:List (List Int)) (level:Bool) (line i1 i2:Nat):Prop:=∀ j,i1≤j→j≤i2→zne g level line j=true
theorem ztk {g:List (List Int)} {level:Bool} {line:Nat} {ws:List Wall}:∀ n,(∀ lv ln i1 i2,Cov ws lv ln i1 i2→Cov (ze6 g level line ws n).1 lv ln i1 i2) ∧
  (∀ i1 i2,i1≤i2→i2<n→Run g level line i1 i2→Cov (ze6 g level line ws n).1 level line i1 i2) ∧
  ((ze6 g level line ws n).2=false→∀ m,n=m+1→zne g level line m=false) ∧
  ((ze6 g level line ws n).2=true→∃ (ws0:List Wall) (w:Wall),(ze6 g level line ws n).1=ws0++[w]∧w.level=level∧w.line=(line:Int)∧w.fr+w.long=(n:Int)∧1≤w.long∧∀ i:Nat,i<n→Run g level line i (n - 1)→w.fr≤(i:Int))
 | 0=>by
  rw [zzp]
  exact ⟨fun _ _ _ _ h=>h,fun i1 i2 _ h=>by omega,fun _ m h=>by omega,fun h=>by cases h⟩
 | n+1=>by
  obtain ⟨h1,h2,h3,h4⟩:=ztk (g:=g) (level:=level) (line:=line) (ws:=ws) n
  rw [zq5]
  generalize ze6 g level line ws n=s at h1 h2 h3 h4
  obtain ⟨l,op⟩:=s
  simp only at h1 h2 h3 h4
  cases hd:zne g level line n with
  | false =>
   have e:zjp false level line n (l,op)=(l,false):=by simp [zjp]
   rw [e]
   refine ⟨h1,fun i1 i2 k1 k2 k3=>?_,fun _ m hm=>(by have e0:m=n:=(by omega); rw [e0]; exact hd),fun h=>by cases h⟩
   by_cases e2:i2=n
   ·subst e2
    have:=k3 i2 k1 (qR _)
    rw [hd]at this; cases this
   exact h2 i1 i2 k1 (by omega) k3
  | true =>
   cases op with
   | false =>
    have e:zjp true level line n (l,false)=(l++[⟨level,line,n,1⟩],true):=by simp [zjp]
    rw [e]
    have hno:∀ m,n=m+1→zne g level line m=false:=h3 rfl
    have first:∀ i,i<n+1→Run g level line i n→i=n:=by
     intro i hi hr
     by_cases e2:i=n
     ·exact e2
     have:=hr (n - 1) (by omega) (by omega)
     rw [hno (n - 1) (by omega)]at this; cases this
    refine ⟨fun lv ln i1 i2 k=>(h1 lv ln i1 i2 k).app,fun i1 i2 k1 k2 k3=>?_,fun h=>(by cases h),fun _=>⟨l,_,rfl,rfl,rfl,by simp,by simp,fun i hi hr=>?_⟩⟩
    ·by_cases e2:i2=n
     ·subst e2
      obtain rfl:=first i1 (by omega) k3
      exact ⟨_,List.mem_append_right _ (List.mem_singleton.2 rfl),rfl,rfl,Int.le_refl _,by simp only; omega⟩
     exact (h2 i1 i2 k1 (by omega) k3).app
    have:=first i hi hr
    simp only; omega
   | true =>
    obtain ⟨ws0,w,rfl,w1,w2,w3,w4,w5⟩:=h4 rfl
    have e:zjp true level line n (ws0++[w],true)=(ws0++[{ w with long:=w.long+1 }],true):=by simp [zjp]
    rw [e]
    have hfr:∀ i:Nat,i<n+1→Run g level line i n→w.fr≤(i:Int):=by
     intro i hi hr
     by_cases e2:i=n
     ·omega
     exact w5 i (by omega) fun j j1 j2=>hr j j1 (by omega)
    refine ⟨fun lv ln i1 i2 k=>(h1 lv ln i1 i2 k).long,fun i1 i2 k1 k2 k3=>?_,fun h=>(by cases h),fun _=>⟨ws0,_,rfl,w1,w2,by simp only; omega,by simp only; omega,fun i hi hr=>hfr i hi hr⟩⟩
    by_cases e2:i2=n
    ·subst e2
     have:=hfr i1 (by omega) k3
     exact ⟨_,List.mem_append_right _ (List.mem_singleton.2 rfl),w1,w2,this,by simp only; omega⟩
    exact (h2 i1 i2 k1 (by omega) k3).long
theorem zlb {g:List (List Int)} {level:Bool} {places:Nat} {ws:List Wall}:∀ lines,(∀ lv ln i1 i2,Cov ws lv ln i1 i2→Cov (zec g level places ws lines) lv ln i1 i2) ∧
  (∀ line i1 i2,1≤line→line<lines→i1≤i2→i2<places→Run g level line i1 i2→Cov (zec g level places ws lines) level line i1 i2)
 | 0=>⟨fun _ _ _ _ h=>h,fun line _ _ _ h=>by omega⟩
 | k+1=>by
  obtain ⟨h1,h2⟩:=zlb (g:=g) (level:=level) (places:=places) (ws:=ws) k
  by_cases hk:1≤k
  ·rw [zn0 hk]
   obtain ⟨l1,l2,-,-⟩:=ztk (g:=g) (level:=level) (line:=k) (ws:=zec g level places ws k) places
   refine ⟨fun lv ln i1 i2 q=>l1 _ _ _ _ (h1 _ _ _ _ q),fun line i1 i2 q1 q2 q3 q4 q5=>?_⟩
   by_cases e:line=k
   ·subst e; exact l2 i1 i2 q3 q4 q5
   exact l1 _ _ _ _ (h2 line i1 i2 q1 (by omega) q3 q4 q5)
  obtain rfl:k=0:=by omega
  rw [zzo]
  exact ⟨fun _ _ _ _ h=>h,fun line _ _ q1 q2=>by omega⟩
theorem ztj {g:List (List Int)} {H W:Nat} {level:Bool} {line i1 i2:Nat} (h1:1≤line) (h2:line<if level then H else W) (h3:i1≤i2) (h4:i2<if level then W else H) (hr:Run g level line i1 i2):Cov (znz g H W) level line i1 i2:=by
 unfold znz
 obtain ⟨a1,a2⟩:=zlb (g:=g) (level:=false) (places:=H) (ws:=[]) W
 obtain ⟨b1,b2⟩:=zlb (g:=g) (level:=true) (places:=W) (ws:=zec g false H [] W) H
 cases level with
 | false=>exact b1 _ _ _ _ (a2 line i1 i2 h1 h2 h3 h4 hr)
 | true=>exact b2 line i1 i2 h1 h2 h3 h4 hr
section
variable {n:Nat}
theorem z1e {a:Int} (ha:0≤a∧a<n):∀ {bs:List Int} {M:List (List Bool)},Rm n bs→Sq n M→Sq n (yah a bs M)∧∀ x y,zcq (yah a bs M) x y=true↔zcq M x y=true∨(x=a.toNat∧∃ b∈bs,y=b.toNat)
 | [],M,_,h=>⟨h,fun x y=>by simp [yah]⟩
 | b::bs,M,hb,h=>by
  have hb0:=hb b (by simp)
  obtain ⟨k1,k2⟩:=z1e ha (bs:=bs) (M:=z7l M a.toNat b.toNat true) (fun x hx=>hb x (by simp [hx])) (h.set (by omega))
  refine ⟨k1,fun x y=>?_⟩
  have e:yah a (b::bs) M=yah a bs (z7l M a.toNat b.toNat true):=rfl
  rw [e,k2,zvw h (by omega) (by omega)]
  by_cases q:x=a.toNat∧y=b.toNat
  ·rw [if_pos q]; simp [q.1,q.2]
  rw [if_neg q]
  constructor
  ·rintro (k | ⟨k,c,hc,rfl⟩)
   ·exact .inl k
   exact .inr ⟨k,c,by simp [hc],rfl⟩
  rintro (k | ⟨k,c,hc,rfl⟩)
  ·exact .inl k
  rcases List.mem_cons.1 hc with rfl | hc
  ·exact absurd ⟨k,rfl⟩ q
  exact .inr ⟨k,c,hc,rfl⟩
theorem zum {bs:List Int} (hb:Rm n bs):∀ {la:List Int} {M:List (List Bool)},Rm n la→Sq n M→Sq n (z6b M la bs)∧∀ x y,zcq (z6b M la bs) x y=true↔zcq M x y=true∨(∃ a∈la,x=a.toNat)∧∃ b∈bs,y=b.toNat
 | [],M,_,h=>⟨h,fun x y=>by simp [z6b]⟩
 | a::la,M,ha,h=>by
  obtain ⟨j1,j2⟩:=z1e (ha a (by simp)) hb h
  obtain ⟨k1,k2⟩:=zum hb (la:=la) (M:=yah a bs M) (fun x hx=>ha x (by simp [hx])) j1
  refine ⟨k1,fun x y=>?_⟩
  have e:z6b M (a::la) bs=z6b (yah a bs M) la bs:=rfl
  rw [e,k2,j2]
  constructor
  ·rintro ((k | ⟨k,q⟩) | ⟨⟨c,hc,k⟩,q⟩)
   ·exact .inl k
   ·exact .inr ⟨⟨a,by simp,k⟩,q⟩
   exact .inr ⟨⟨c,by simp [hc],k⟩,q⟩
  rintro (k | ⟨⟨c,hc,k⟩,q⟩)
  ·exact .inl (.inl k)
  rcases List.mem_cons.1 hc with rfl | hc
  ·exact .inl (.inr ⟨k,q⟩)
  exact .inr ⟨⟨c,hc,k⟩,q⟩
def By (g:List (List Int)) (ws:List Wall) (lv:Bool) (x y:Nat):Prop:=∃ w∈ws,w.level=lv∧(∃ a∈(zb8 g w).1,x=a.toNat)∧∃ b∈(zb8 g w).2,y=b.toNat
theorem By.cons {g:List (List Int)} {w:Wall} {ws:List Wall} {lv:Bool} {x y:Nat}:By g (w::ws) lv x y↔(w.level=lv∧(∃ a∈(zb8 g w).1,x=a.toNat)∧∃ b∈(zb8 g w).2,y=b.toNat)∨By g ws lv x y:=by
 unfold By; simp
theorem zuf {g:List (List Int)} {nh nw:Nat} (hrm:z3k g nh nw n):∀ (ws:List Wall),(∀ w∈ws,ya1 g nh nw w)→∀ {M:List (List Bool) × List (List Bool)},Sq n M.1→Sq n M.2 →
  (Sq n (ws.foldl (z8n g) M).1∧∀ x y,zcq (ws.foldl (z8n g) M).1 x y=true↔zcq M.1 x y=true∨By g ws false x y) ∧
  (Sq n (ws.foldl (z8n g) M).2∧∀ x y,zcq (ws.foldl (z8n g) M).2 x y=true↔zcq M.2 x y=true∨By g ws true x y)
 | [],_,M,h0,h1=>⟨⟨h0,fun x y=>by simp [By]⟩,⟨h1,fun x y=>by simp [By]⟩⟩
 | w::ws,hws,M,h0,h1=>by
  obtain ⟨r1,r2⟩:=zur hrm (hws w (by simp))
  rw [List.foldl_cons]
  cases hlv:w.level with
  | false =>
   obtain ⟨k1,k2⟩:=zum r2 r1 h0
   have e:z8n g M w=(z6b M.1 (zb8 g w).1 (zb8 g w).2,M.2):=by unfold z8n; rw [hlv]; rfl
   rw [e]
   obtain ⟨⟨a1,a2⟩,⟨b1,b2⟩⟩:=zuf hrm ws (fun w hw=>hws w (by simp [hw])) (M:=(z6b M.1 (zb8 g w).1 (zb8 g w).2,M.2)) k1 h1
   refine ⟨⟨a1,fun x y=>?_⟩,⟨b1,fun x y=>?_⟩⟩
   ·rw [a2,k2,By.cons,hlv]; simp only[true_and,or_assoc]
   rw [b2,By.cons,hlv]; simp
  | true =>
   obtain ⟨k1,k2⟩:=zum r2 r1 h1
   have e:z8n g M w=(M.1,z6b M.2 (zb8 g w).1 (zb8 g w).2):=by unfold z8n; rw [hlv]; rfl
   rw [e]
   obtain ⟨⟨a1,a2⟩,⟨b1,b2⟩⟩:=zuf hrm ws (fun w hw=>hws w (by simp [hw])) (M:=(M.1,z6b M.2 (zb8 g w).1 (zb8 g w).2)) h0 k1
   refine ⟨⟨a1,fun x y=>?_⟩,⟨b1,fun x y=>?_⟩⟩
   ·rw [a2,By.cons,hlv]; simp
   rw [b2,k2,By.cons,hlv]; simp only[true_and,or_assoc]
theorem zvn {x y:Nat}:zcq (zgr n) x y=false:=by
 unfold zcq zgr
 rw [List.getElem?_replicate]
 split
 ·rw [Option.getD_some,List.getElem?_replicate]; split <;> rfl
 rfl
def cn (g:List (List Int)) (i j:Nat):Nat:=(gz g i j).toNat
theorem z3k.ne {g:List (List Int)} {nh nw:Nat} (h:z3k g nh nw n) {i j i' j':Nat} (h1:i<nh) (h2:j<nw) (h3:i'<nh) (h4:j'<nw):gz g i j≠gz g i' j'↔cn g i j≠cn g i' j':=by
 have a:=h i j h1 h2
 have b:=h i' j' h3 h4
 unfold cn
 omega
theorem zxh {g:List (List Int)} {level:Bool} {line fr long j:Nat} (h1:fr≤j) (h2:j<fr+long):(zcj g level line j).1∈(zb8 g ⟨level,line,fr,long⟩).1:=by
 simp only[zb8,Int.toNat_natCast]
 rw [zt9]
 simp only[znc,List.mem_map,List.mem_range]
 exact ⟨j - fr,by omega,by rw [show fr+(j - fr)=j by omega]⟩
theorem zxi {g:List (List Int)} {level:Bool} {line fr long j:Nat} (h1:fr≤j) (h2:j<fr+long):(zcj g level line j).2∈(zb8 g ⟨level,line,fr,long⟩).2:=by
 simp only[zb8,Int.toNat_natCast]
 rw [zt9]
 simp only[znc,List.mem_map,List.mem_range]
 exact ⟨j - fr,by omega,by rw [show fr+(j - fr)=j by omega]⟩
theorem z1o {g:List (List Int)} {level:Bool} {line fr long:Nat} {x:Int} (h:x∈(zb8 g ⟨level,line,fr,long⟩).1):∃ j,fr≤j∧j<fr+long∧x=(zcj g level line j).1:=by
 simp only[zb8,Int.toNat_natCast]at h
 rw [zt9]at h
 simp only[znc,List.mem_map,List.mem_range]at h
 obtain ⟨j,hj,rfl⟩:=h
 exact ⟨fr+j,by omega,by omega,rfl⟩
theorem z1p {g:List (List Int)} {level:Bool} {line fr long:Nat} {x:Int} (h:x∈(zb8 g ⟨level,line,fr,long⟩).2):∃ j,fr≤j∧j<fr+long∧x=(zcj g level line j).2:=by
 simp only[zb8,Int.toNat_natCast]at h
 rw [zt9]at h
 simp only[znc,List.mem_map,List.mem_range]at h
 obtain ⟨j,hj,rfl⟩:=h
 exact ⟨fr+j,by omega,by omega,rfl⟩
theorem ya5 {g:List (List Int)} {nh nw:Nat} (h:z3k g nh nw n) {x y:Nat}:By g (znz g nh nw) false x y↔DL (cn g) nh nw x y:=by
 constructor
 ·rintro ⟨w,hw,hlv,⟨a,ha,rfl⟩,b,hb,rfl⟩
  obtain ⟨line,fr,long,he,hl,hin⟩:=zim w hw
  rw [hlv]at he hin
  subst he
  obtain ⟨j1,p1,p2,rfl⟩:=z1o ha
  obtain ⟨j2,q1,q2,rfl⟩:=z1p hb
  have i1:=(hin j1 p1 p2).1
  have i2:=(hin j2 q1 q2).1
  unfold InL at i1 i2
  simp only[qF,if_false]at i1 i2
  obtain ⟨L,rfl⟩:∃ L,line=L+1:=⟨line - 1,by omega⟩
  refine ⟨L,j1,j2,i1.2.1,i1.2.2,i2.2.2,fun r r1 r2=>?_,?_,?_⟩
  ·have hr:=hin r (by omega) (by omega)
   have hr1:=hr.1
   unfold InL at hr1
   simp only[qF,if_false]at hr1
   have hr2:=hr.2
   unfold zne zcj at hr2
   simp only[qF,if_false,decide_eq_true_eq,Nat.add_sub_cancel]at hr2
   exact (h.ne hr1.2.2 (by omega) hr1.2.2 hr1.2.1).1 hr2
  ·simp [zcj,cn]
  simp [zcj,cn]
 rintro ⟨L,i1,i2,h1,h2,h3,run,rfl,rfl⟩
 have hrun:Run g false (L+1) (min i1 i2) (max i1 i2):=by
  intro r r1 r2
  have:=run r r1 r2
  rw [← h.ne (by omega) (by omega) (by omega) h1]at this
  unfold zne zcj
  simpa using this
 obtain ⟨w,hw,w1,w2,w3,w4⟩:=ztj (g:=g) (H:=nh) (W:=nw) (level:=false) (line:=L+1) (by omega) (by simpa using h1) (by omega) (by simp only[qF,if_false]; omega) hrun
 obtain ⟨line,fr,long,he,hl,hin⟩:=zim w hw
 rw [w1]at he
 subst he
 simp only at w2 w3 w4
 obtain rfl:line=L+1:=by omega
 refine ⟨_,hw,rfl,⟨_,zxh (j:=i1) (by omega) (by omega),?_⟩,_,zxi (j:=i2) (by omega) (by omega),?_⟩
 ·simp [zcj,cn]
 simp [zcj,cn]
theorem z7v {g:List (List Int)} {nh nw:Nat} (h:z3k g nh nw n) {x y:Nat}:By g (znz g nh nw) true x y↔DU (cn g) nh nw x y:=by
 constructor
 ·rintro ⟨w,hw,hlv,⟨a,ha,rfl⟩,b,hb,rfl⟩
  obtain ⟨line,fr,long,he,hl,hin⟩:=zim w hw
  rw [hlv]at he hin
  subst he
  obtain ⟨j1,p1,p2,rfl⟩:=z1o ha
  obtain ⟨j2,q1,q2,rfl⟩:=z1p hb
  have i1:=(hin j1 p1 p2).1
  have i2:=(hin j2 q1 q2).1
  unfold InL at i1 i2
  simp only[if_true]at i1 i2
  obtain ⟨L,rfl⟩:∃ L,line=L+1:=⟨line - 1,by omega⟩
  refine ⟨L,j1,j2,i1.2.1,i1.2.2,i2.2.2,fun r r1 r2=>?_,?_,?_⟩
  ·have hr:=hin r (by omega) (by omega)
   have hr1:=hr.1
   unfold InL at hr1
   simp only[if_true]at hr1
   have hr2:=hr.2
   unfold zne zcj at hr2
   simp only[if_true,decide_eq_true_eq,Nat.add_sub_cancel]at hr2
   exact (h.ne (by omega) hr1.2.2 hr1.2.1 hr1.2.2).1 hr2
  ·simp [zcj,cn]
  simp [zcj,cn]
 rintro ⟨L,i1,i2,h1,h2,h3,run,rfl,rfl⟩
 have hrun:Run g true (L+1) (min i1 i2) (max i1 i2):=by
  intro r r1 r2
  have:=run r r1 r2
  rw [← h.ne (by omega) (by omega) h1 (by omega)]at this
  unfold zne zcj
  simpa using this
 obtain ⟨w,hw,w1,w2,w3,w4⟩:=ztj (g:=g) (H:=nh) (W:=nw) (level:=true) (line:=L+1) (by omega) (by simpa using h1) (by omega) (by simp only[if_true]; omega) hrun
 obtain ⟨line,fr,long,he,hl,hin⟩:=zim w hw
 rw [w1]at he
 subst he
 simp only at w2 w3 w4
 obtain rfl:line=L+1:=by omega
 refine ⟨_,hw,rfl,⟨_,zxh (j:=i1) (by omega) (by omega),?_⟩,_,zxi (j:=i2) (by omega) (by omega),?_⟩
 ·simp [zcj,cn]
 simp [zcj,cn]
theorem zq8 {g:List (List Int)} {nh nw:Nat} (h:z3k g nh nw n) {i j:Nat} (hi:i<nh) (hj:j<nw):cn g i j<n:=by
 have:=h i j hi hj
 unfold cn; omega
theorem ybq {g:List (List Int)} {nh nw:Nat} (h:z3k g nh nw n) {a b:Nat} (ha:a<n) (hb:b<n):zcq (ybp g nh nw n) a b=true↔TC (DL (cn g) nh nw) a b:=by
 obtain ⟨⟨k1,k2⟩,-⟩:=zuf h (znz g nh nw) zim (M:=(zgr n,zgr n)) (zh6 n) (zh6 n)
 have hd:∀ x y,zcq (yaf g nh nw n).1 x y=true↔DL (cn g) nh nw x y:=fun x y=>by
  unfold yaf; rw [k2,ya5 h]; simp [zvn]
 unfold ybp
 have k3:Sq n (yaf g nh nw n).1:=k1
 rw [zz0 k3 ha hb]
 constructor
 ·exact TC.mono fun x y q=>(hd x y).1 q.2.2
 refine TC.mono fun x y q=>⟨?_,?_,(hd x y).2 q⟩
 ·obtain ⟨j,i1,i2,q1,q2,q3,-,rfl,-⟩:=q
  exact zq8 h q2 (by omega)
 obtain ⟨j,i1,i2,q1,q2,q3,-,-,rfl⟩:=q
 exact zq8 h q3 q1
theorem z7q {g:List (List Int)} {nh nw:Nat} (h:z3k g nh nw n) {a b:Nat} (ha:a<n) (hb:b<n):zcq (z3l g nh nw n) a b=true↔TC (DU (cn g) nh nw) a b:=by
 obtain ⟨-,⟨k1,k2⟩⟩:=zuf h (znz g nh nw) zim (M:=(zgr n,zgr n)) (zh6 n) (zh6 n)
 have hd:∀ x y,zcq (yaf g nh nw n).2 x y=true↔DU (cn g) nh nw x y:=fun x y=>by
  unfold yaf; rw [k2,z7v h]; simp [zvn]
 unfold z3l
 have k3:Sq n (yaf g nh nw n).2:=k1
 rw [zz0 k3 ha hb]
 constructor
 ·exact TC.mono fun x y q=>(hd x y).1 q.2.2
 refine TC.mono fun x y q=>⟨?_,?_,(hd x y).2 q⟩
 ·obtain ⟨j,i1,i2,q1,q2,q3,-,rfl,-⟩:=q
  exact zq8 h (by omega) q2
 obtain ⟨j,i1,i2,q1,q2,q3,-,-,rfl⟩:=q
 exact zq8 h q1 q3
end
end
section
theorem zw0 {p:List Txt} {i:Nat}:∀ {w:Nat},zkn p 4 i w=0→∀ k,1≤k→k<w→zt8 p i k≠4
 | w+1,h,k,h1,h2=>by
  have hb:=(zhd p 4 i w).1
  unfold zkn at h
  by_cases e:k=w
  ·subst e
   intro q
   rw [if_pos ⟨h1,q⟩]at h
   omega
  have h0:zkn p 4 i w=0:=by split at h <;> omega
  exact zw0 h0 k h1 (by omega)
theorem z1a {p:List Txt} {w:Nat}:∀ {n:Nat},zw1 p 4 w n=0→∀ i,1≤i→i<n→zkn p 4 i w=0
 | n+1,h,i,h1,h2=>by
  have hb:0≤zw1 p 4 w n:=by
   clear h h1 h2
   induction n with
   | zero=>simp [zw1]
   | succ n ih =>
    have:=(zhd p 4 n w).1
    unfold zw1; split <;> omega
  have hr:=(zhd p 4 n w).1
  unfold zw1 at h
  by_cases e:i=n
  ·subst e
   rw [if_pos h1]at h
   omega
  have h0:zw1 p 4 w n=0:=by split at h <;> omega
  exact z1a h0 i h1 (by omega)
theorem z3b {a b:UInt8} (h:(a.toNat:Int) - 97≠(b.toNat:Int) - 97):a≠b:=by
 rintro rfl; exact h rfl
theorem z2j {p:List Txt} (hg:zb7 p=true) {i k:Nat} (hi:i+1<p.length) (hk:k+1<(zan p).length) (h1:zaj p i k≠zaj p i (k+1)) (h2:zaj p i k≠zaj p (i+1) k) (h3:zaj p i k≠zaj p (i+1) (k+1))
  (h4:zaj p i (k+1)≠zaj p (i+1) k) (h5:zaj p i (k+1)≠zaj p (i+1) (k+1)) (h6:zaj p (i+1) k≠zaj p (i+1) (k+1)):zt8 p (i+1) (k+1)=4:=by
 obtain ⟨r1,hr1,-⟩:=zaf (show i<p.length by omega)
 obtain ⟨r2,hr2,-⟩:=zaf hi
 have e1:=zdy hg hr1
 have e2:=zdy hg hr2
 obtain ⟨a,ha,-⟩:=zaf (show k<r1.length by omega)
 obtain ⟨b,hb,-⟩:=zaf (show k+1<r1.length by omega)
 obtain ⟨c,hc,-⟩:=zaf (show k<r2.length by omega)
 obtain ⟨d,hd,-⟩:=zaf (show k+1<r2.length by omega)
 rw [zc6 hr1 ha]at h1 h2 h3
 rw [zc6 hr1 hb]at h1 h4 h5
 rw [zc6 hr2 hc]at h2 h4 h6
 rw [zc6 hr2 hd]at h3 h5 h6
 have n1:=z3b h1
 have n2:=z3b h2
 have n3:=z3b h3
 have n4:=z3b h4
 have n5:=z3b h5
 have n6:=z3b h6
 unfold zt8
 simp only[Nat.add_sub_cancel,hr1,hr2,ha,hb,hc,hd]
 simp [zpp,ydg,ydh,Ne.symm n1,Ne.symm n2,Ne.symm n3,Ne.symm n4,Ne.symm n5,Ne.symm n6]
theorem zkv {p:List Txt} (hp:zbc p=true) {i j:Nat} (hi:i<p.length) (hj:j<(zan p).length):(cn (gP p) i j:Int)=zaj p i j:=by
 have hN:=zds hp
 have:=hN.room hi hj
 unfold cn
 rw [hN.cell hi hj]; omega
theorem z51 {p:List Txt} (hp:zhc p=true):Pl (cn (gP p)) p.length (zan p).length:=by
 have hpl:=z2s hp
 have hN:=zds hpl
 have rect:∀ {i j i' j':Nat} (k l:Nat),i<p.length→i'<p.length→j<(zan p).length→j'<(zan p).length→cn (gP p) i j=cn (gP p) i' j'→min i i'≤k→k≤max i i'→min j j'≤l→l≤max j j'→cn (gP p) k l=cn (gP p) i j:=by
  intro i j i' j' k l h1 h2 h3 h4 e h5 h6 h7 h8
  have e1:=zkv hpl h1 h3
  have e2:=zkv hpl h2 h4
  have e3:=zkv hpl (show k<p.length by omega) (show l<(zan p).length by omega)
  obtain ⟨b,hb,q1,-,c1⟩:=zlx hpl h1 h3
  obtain ⟨b',hb',q2,-,-⟩:=zlx hpl h2 h4
  have e4:zaj p i j=zaj p i' j':=by omega
  rw [e4,hb']at hb
  obtain rfl:=Option.some.inj hb
  have q3:inB b' k l=true:=by
   unfold inB at q1 q2 ⊢
   simp only[qB,decide_eq_true_eq]at q1 q2 ⊢
   omega
  have:=c1 k l (by omega) (by omega) q3
  omega
 refine ⟨rect,fun {i j} h1 h2 n1 n2 n3=>Classical.byContradiction fun n4=>?_⟩
 have h0:points p 4=0:=by
  unfold zhc at hp
  simp only[qB,decide_eq_true_eq]at hp
  exact hp.2
 have hno:=zw0 (z1a h0 (i+1) (by omega) h1) (j+1) (by omega) h2
 have n5:cn (gP p) i j≠cn (gP p) (i+1) (j+1):=by
  intro e
  exact n1 (rect i (j+1) (by omega) h1 (by omega) h2 e (by omega) (by omega) (by omega) (by omega)).symm
 have n6:cn (gP p) i (j+1)≠cn (gP p) (i+1) j:=by
  intro e
  exact n1 (rect i j (by omega) h1 h2 (by omega) e (by omega) (by omega) (by omega) (by omega))
 have c1:=zkv hpl (show i<p.length by omega) (show j<(zan p).length by omega)
 have c2:=zkv hpl (show i<p.length by omega) h2
 have c3:=zkv hpl h1 (show j<(zan p).length by omega)
 have c4:=zkv hpl h1 h2
 exact hno (z2j hN.hg h1 h2 (by omega) (by omega) (by omega) (by omega) (by omega) (by omega))
theorem zxa {p:List Txt} {a:Nat} (ha:a<(rP p).length):∃ i j,i<p.length∧j<(zan p).length∧cn (gP p) i j=a:=by
 have hi:=zgc p
 obtain ⟨b,hb,-⟩:=zaf ha
 obtain ⟨v,hv,-⟩:=zaf (show a<(keys p).length by rw [← hi.len]; exact ha)
 obtain ⟨i,j,⟨hz,hj,hij⟩,-⟩:=(hi.hull a v b hv hb).at_
 have hi2:i<p.length:=by omega
 refine ⟨i,j,hi2,hj,?_⟩
 unfold cn
 rw [z4j hi2 hj,hz,Int.toNat_natCast]
 have hlt:¬ (keys p).idxOf v=(keys p).length:=by
  have:=List.idxOf_lt_length_iff.2 (List.mem_of_getElem? hv)
  omega
 exact zqf hi.nd (zia hlt) hv
def lfM (p:List Txt):List (List Bool):=ybp (gP p) p.length (zan p).length (rP p).length
def abM (p:List Txt):List (List Bool):=z3l (gP p) p.length (zan p).length (rP p).length
def Lf (p:List Txt) (a b:Nat):Prop:=zcq (lfM p) a b=true
def Ab (p:List Txt) (a b:Nat):Prop:=zcq (abM p) a b=true
section
variable {p:List Txt} {a b d:Nat}
theorem Lf.iff (ha:a<(rP p).length) (hb:b<(rP p).length):Lf p a b↔TC (DL (cn (gP p)) p.length (zan p).length) a b:=ybq zir ha hb
theorem Ab.iff (ha:a<(rP p).length) (hb:b<(rP p).length):Ab p a b↔TC (DU (cn (gP p)) p.length (zan p).length) a b:=z7q zir ha hb
theorem Lf.trans (ha:a<(rP p).length) (hb:b<(rP p).length) (hd:d<(rP p).length) (h:Lf p a b) (k:Lf p b d):Lf p a d:=by
 rw [Lf.iff ha hd]; exact ((Lf.iff ha hb).1 h).trans ((Lf.iff hb hd).1 k)
theorem Ab.trans (ha:a<(rP p).length) (hb:b<(rP p).length) (hd:d<(rP p).length) (h:Ab p a b) (k:Ab p b d):Ab p a d:=by
 rw [Ab.iff ha hd]; exact ((Ab.iff ha hb).1 h).trans ((Ab.iff hb hd).1 k)
theorem zyu (hp:zhc p=true):∃ f g:Nat→Nat,∀ a b,a<(rP p).length→b<(rP p).length→(Lf p a b→f a<f b∧g a<g b)∧(Ab p a b→f a<f b∧g b<g a):=by
 have hpl:=z51 hp
 obtain ⟨f,hf⟩:=z0t hpl (n:=(rP p).length) (fun i j hi hj=>zq8 zir hi hj)
 obtain ⟨g,hg⟩:=z5o hpl (n:=(rP p).length) (fun i j hi hj=>zq8 zir hi hj)
 refine ⟨f,g,fun a b ha hb=>⟨fun h=>?_,fun h=>?_⟩⟩
 ·rw [Lf.iff ha hb]at h
  exact ⟨h.rise fun a b k=>hf a b (.inl k),h.rise fun a b k=>hg a b (.inl k)⟩
 rw [Ab.iff ha hb]at h
 exact ⟨h.rise fun a b k=>hf a b (.inr k),(h.rev (S:=fun x y=>DU (cn (gP p)) p.length (zan p).length y x) fun _ _ k=>k).rise fun a b k=>hg a b (.inr k)⟩
theorem z2m (hp:zhc p=true) (ha:a<(rP p).length) (hb:b<(rP p).length) (hne:a≠b):Lf p a b∨Lf p b a∨Ab p a b∨Ab p b a:=by
 obtain ⟨i,j,h1,h2,e1⟩:=zxa ha
 obtain ⟨k,l,h3,h4,e2⟩:=zxa hb
 have:=z9f (z51 hp) h1 h2 h3 h4 (by rw [e1,e2]; exact hne)
 rw [e1,e2]at this
 rw [Lf.iff ha hb,Lf.iff hb ha,Ab.iff ha hb,Ab.iff hb ha]
 exact this
end
end
section
section
variable {M:List (List Bool)} {ms:List Nat} {ws:List Int} {n:Nat} {rk:Nat→Nat}
def revM (n:Nat) (M:List (List Bool)):List (List Bool):=(List.range n).map fun a=>(List.range n).map fun b=>zcq M b a
def bhB (sets:List Nat) (needs:List Int) (a:Nat) (out:List Int) (b:Nat):List Int :=
 if z7s sets a b then out.set a (max (zjb out a) (zjb out b+zjb needs b)) else out
def bhA (sets:List Nat) (needs:List Int) (out:List Int) (a:Nat):List Int:=(List.range needs.length).foldl (bhB sets needs a) out
def bhN (sets:List Nat) (needs:List Int) (out:List Int) (_:Nat):List Int:=(List.range needs.length).foldl (bhA sets needs) out
def behind (sets:List Nat) (needs:List Int):List Int:=(List.range needs.length).foldl (bhN sets needs) (List.replicate needs.length 0)
end
end
def domB (x:Int × Int) (w h:Int):Bool:=decide (x.1≤w) && decide (x.2≤h)
def ybx (w h:Int) (s:List (Int × Int) × Bool) (x:Int × Int):List (Int × Int) × Bool :=
 if w≤x.1∧h≤x.2 then s else if s.2=false∧w<x.1 then (s.1++[(w,h),x],true) else (s.1++[x],s.2)
def yeg (l:List (Int × Int)) (w h:Int):List (Int × Int) × Bool:=l.foldl (ybx w h) ([],false)
def put (l:List (Int × Int)) (w h:Int):List (Int × Int):=if l.any (fun x=>domB x w h) then l else if (yeg l w h).2 then (yeg l w h).1 else (yeg l w h).1++[(w,h)]
section
section
variable {M:List (List Bool)} {ws:List Int} {n:Nat} {rk:Nat→Nat}
theorem yc2 (b:Nat):0≤beg M ws n b:=z4q n
theorem yc1 {a b:Nat} (ha:a<n) (h:zcq M a b=true):HB M ws n a≤beg M ws n b:=z9y ha h
end
end
def Pat (g1 g2:List (List Int)) (H W:Nat):Prop:=∀ i j i' j',i<H→j<W→i'<H→j'<W→(gz g1 i j=gz g1 i' j'↔gz g2 i j=gz g2 i' j')
theorem Pat.symm {g1 g2:List (List Int)} {H W:Nat} (h:Pat g1 g2 H W):Pat g2 g1 H W:=fun i j i' j' a b c d=>(h i j i' j' a b c d).symm
theorem Pat.trans {g1 g2 g3:List (List Int)} {H W:Nat} (h:Pat g1 g2 H W) (k:Pat g2 g3 H W):Pat g1 g3 H W:=fun i j i' j' a b c d=>(h i j i' j' a b c d).trans (k i j i' j' a b c d)
structure KC (g1 g2:List (List Int)) (H W:Nat) (k1 k2:List Int):Prop where
 len:k1.length=k2.length
 at_:∀ i j,i<H→j<W→k1.idxOf (gz g1 i j)=k2.idxOf (gz g2 i j)
theorem zsq {l:List Int} {z x:Int} (h:l.idxOf x=l.length):(l++[z]).idxOf x=if x=z then l.length else l.length+1:=by
 have hn:=zp3 h
 rw [List.idxOf_append,if_neg hn]
 by_cases e:x=z
 ·subst e; simp
 rw [if_neg e]
 have e2:(z == x)=false:=by simpa using fun h=>e h.symm
 simp [List.idxOf_cons,e2]
 omega
theorem KC.step {g1 g2:List (List Int)} {H W:Nat} (hp:Pat g1 g2 H W) {k1 k2:List Int} (h:KC g1 g2 H W k1 k2) {a b:Nat} (ha:a<H) (hb:b<W):KC g1 g2 H W (zii k1 (gz g1 a b)) (zii k2 (gz g2 a b)):=by
 have h1:=h.at_ a b ha hb
 unfold zii
 by_cases e:k1.idxOf (gz g1 a b)=k1.length
 ·have e2:k2.idxOf (gz g2 a b)=k2.length:=by rw [← h1,e,h.len]
  rw [if_pos e,if_pos e2]
  refine ⟨by simp [h.len],fun i j hi hj=>?_⟩
  have h2:=h.at_ i j hi hj
  have hpt:=hp i j a b hi hj ha hb
  by_cases q:k1.idxOf (gz g1 i j)=k1.length
  ·have q2:k2.idxOf (gz g2 i j)=k2.length:=by rw [← h2,q,h.len]
   rw [zsq q,zsq q2,h.len]
   by_cases r:gz g1 i j=gz g1 a b
   ·rw [if_pos r,if_pos (hpt.1 r)]
   rw [if_neg r,if_neg fun x=>r (hpt.2 x)]
  have q2:¬ k2.idxOf (gz g2 i j)=k2.length:=by rw [← h2,← h.len]; exact q
  rw [zp2 q,zp2 q2,h2]
 have e2:¬ k2.idxOf (gz g2 a b)=k2.length:=by rw [← h1,← h.len]; exact e
 rw [if_neg e,if_neg e2]
 exact h
theorem z6r {k1 k2 rs:List Int} {R:List Rect} {z1 z2:Int} {q:Rect} (hl:k1.length=k2.length) (hi:k1.idxOf z1=k2.idxOf z2):zpb k1 R z1 q=zpb k2 R z2 q:=by
 unfold zpb zi2
 rw [hl,hi]
theorem zm4 {g1 g2:List (List Int)} {H W:Nat} (hp:Pat g1 g2 H W) {i:Nat} (hi:i<H) {s1 s2:List Int × List Rect} (h:KC g1 g2 H W s1.1 s2.1) (hr:s1.2=s2.2):∀ j,j≤W →
  KC g1 g2 H W (zc9 g1 i s1 j).1 (zc9 g2 i s2 j).1∧(zc9 g1 i s1 j).2=(zc9 g2 i s2 j).2
 | 0,_=>⟨h,hr⟩
 | j+1,hj=>by
  obtain ⟨h1,h2⟩:=zm4 hp hi h hr j (by omega)
  unfold zc9
  refine ⟨h1.step hp hi (by omega),?_⟩
  show zpb _ _ _ _=zpb _ _ _ _
  rw [h2]
  exact z6r (rs:=[]) h1.len (h1.at_ i j hi (by omega))
theorem zk6 {g1 g2:List (List Int)} {H W:Nat} (hp:Pat g1 g2 H W):∀ i,i≤H→KC g1 g2 H W (zak g1 W i).1 (zak g2 W i).1∧(zak g1 W i).2=(zak g2 W i).2
 | 0,_=>⟨⟨rfl,fun _ _ _ _=>rfl⟩,rfl⟩
 | i+1,hi=>by
  obtain ⟨h1,h2⟩:=zk6 hp i (by omega)
  exact zm4 hp (by omega) h1 h2 W (qR _)
theorem zxx {g1 g2:List (List Int)} {H W:Nat} (hp:Pat g1 g2 H W) {i:Nat} (hi:i<H) {s1 s2:List Int × List Rect} (h:KC g1 g2 H W s1.1 s2.1) (hr:s1.2=s2.2):∀ j,j≤W→zm9 g1 i s1 j=zm9 g2 i s2 j
 | 0,_=>rfl
 | j+1,hj=>by
  unfold zm9
  rw [zxx hp hi h hr j (by omega),(zm4 hp hi h hr j (by omega)).1.at_ i j hi (by omega)]
theorem ztm {g1 g2:List (List Int)} {H W:Nat} (hp:Pat g1 g2 H W):∀ i,i≤H→zdx g1 W i=zdx g2 W i
 | 0,_=>rfl
 | i+1,hi=>by
  obtain ⟨h1,h2⟩:=zk6 hp i (by omega)
  unfold zdx
  rw [ztm hp i (by omega),zxx hp (by omega) h1 h2 W (qR _)]
theorem GW.w0 {g:List (List Int)} {H W:Nat} (h:GW g H W):w0 g=W:=by
 obtain ⟨row,hrow,hl,-⟩:=h.at_ (show 0<H by have:=h.2.2.1; omega) (show 0<W by have:=h.2.2.2.2.1; omega)
 rw [z9k hrow,hl]
theorem GW.zG {g:List (List Int)} {H W:Nat} (h:GW g H W):zG g=zdx g W H∧stG g=zak g W H:=by
 unfold Fw.zG stG; rw [h.w0,h.1]; exact ⟨rfl,rfl⟩
theorem yco {g:List (List Int)} {H W i j:Nat} (h:GW g H W) (hi:i<H) (hj:j<W):gz (zG g) i j=(((zak g W H).1.idxOf (gz g i j):Nat):Int):=by
 rw [h.zG.1]
 unfold gz
 rw [zkb hi,Option.getD_some,zzq hj,Option.getD_some]
 congr 1
 exact zNum hi hj
theorem z1w {g:List (List Int)} {H W:Nat} (h:GW g H W):GW (zG g) H W:=by
 rw [h.zG.1]
 refine ⟨zcb _,fun r hr=>?_,h.2.2⟩
 obtain ⟨k,hk⟩:=List.getElem?_of_mem hr
 have:=zcx hk
 rw [zcb]at this
 rw [zkb this]at hk
 cases hk
 exact zed _
theorem z7h {g:List (List Int)} {H W i j:Nat} (hi:i<H) (hj:j<W):gz g i j∈(zak g W H).1:=(SeInv.rows (g:=g) (W:=W) H).mem i j (zoy hi hj)
theorem yd3 {g:List (List Int)} {H W:Nat} (h:GW g H W):Pat (zG g) g H W:=by
 intro i j i' j' hi hj hi' hj'
 rw [yco h hi hj,yco h hi' hj']
 constructor
 ·intro e
  have h1:=zia (ks:=(zak g W H).1) (z:=gz g i j) (by have:=List.idxOf_lt_length_iff.2 (z7h (g:=g) hi hj); omega)
  have h2:=zia (ks:=(zak g W H).1) (z:=gz g i' j') (by have:=List.idxOf_lt_length_iff.2 (z7h (g:=g) hi' hj'); omega)
  rw [show (zak g W H).1.idxOf (gz g i j)=(zak g W H).1.idxOf (gz g i' j') by omega,h2]at h1
  exact (Option.some.inj h1).symm
 intro e; rw [e]
theorem ye6 {g:List (List Int)} {H W i j:Nat} (h:GW g H W) (hi:i<H) (hj:j<W):0≤gz (zG g) i j∧gz (zG g) i j<(zak g W H).2.length:=by
 rw [yco h hi hj]
 have h1:=List.idxOf_lt_length_iff.2 (z7h (g:=g) hi hj)
 have h2:=(SeInv.rows (g:=g) (W:=W) H).len
 omega
theorem zta {g:List (List Int)} {H W i j:Nat} (h:GW g H W) (hi:i<H) (hj:j<W) (h0:0≤gz g i j) (h1:gz g i j≤100):gz (zbs (zd2 g)) i j=gz g i j+97:=by
 obtain ⟨row,hrow,hl,hx⟩:=h.at_ hi hj
 have e1:(zbs (zd2 g))[i]?=some (zu4 (zn6 row)):=by simp [zbs,zj8 hrow]
 have e2:(zu4 (zn6 row))[j]?=some ((z3f (gz g i j)).toNat:Int):=by simp [zu4,zn6,hx]
 have e3:gz (zbs (zd2 g)) i j=((z3f (gz g i j)).toNat:Int):=by
  conv=>lhs; unfold gz
  rw [e1,Option.getD_some,e2,Option.getD_some]
 rw [e3]
 unfold z3f
 rw [UInt8.toNat_ofNat_of_lt' (by show 97+(gz g i j).toNat<256; omega)]
 omega
theorem z65 {g:List (List Int)} {H W:Nat} (h:GW g H W):(zd2 g).length=H∧(zan (zd2 g)).length=W:=by
 refine ⟨by rw [zxp,h.1],?_⟩
 obtain ⟨row,hrow,hl,-⟩:=h.at_ (show 0<H by have:=h.2.2.1; omega) (show 0<W by have:=h.2.2.2.2.1; omega)
 rw [zb9 (zj8 hrow)]
 simp [zn6,hl]
theorem z64 {g:List (List Int)} {H W:Nat} (h:GW g H W) (hz:∀ i j,i<H→j<W→0≤gz g i j∧gz g i j<26):zb7 (zd2 g)=true:=by
 obtain ⟨t1,t2⟩:=z65 h
 unfold zb7
 rw [t1,t2]
 have h2:=h.2.2
 have:(zd2 g).all (zq7 W)=true:=by
  rw [List.all_eq_true]
  intro r hr
  obtain ⟨i,hi⟩:=List.getElem?_of_mem hr
  have hil:=zcx hi
  rw [t1]at hil
  obtain ⟨row,hrow,hrm⟩:=zaf (show i<g.length by rw [h.1]; exact hil)
  have hrl:=h.2.1 row hrm
  rw [zj8 hrow]at hi
  cases hi
  unfold zq7
  simp only[qB,decide_eq_true_eq,List.all_eq_true]
  refine ⟨⟨⟨by simp [zn6,hrl],by simp [zn6]; omega⟩,by simp [zn6]; omega⟩,fun c hc=>?_⟩
  obtain ⟨z,hzm,rfl⟩:=List.mem_map.1 hc
  obtain ⟨j,hj⟩:=List.getElem?_of_mem hzm
  have hjl:=zcx hj
  have e:gz g i j=z:=by simp [gz,hrow,hj]
  have:=hz i j hil (by omega)
  rw [e]at this
  unfold zch z3f
  rw [UInt8.toNat_ofNat_of_lt' (by show 97+z.toNat<256; omega)]
  simp only[qB,decide_eq_true_eq]
  omega
 rw [this]
 simp only[Bool.true_and,qB,decide_eq_true_eq]
 omega
def nm (g:List (List Int)):List Txt:=zd2 (zG g)
structure NmOk (g:List (List Int)) (H W:Nat):Prop where
 gw:GW g H W
 le:(zak g W H).2.length≤9
theorem NmOk.bound {g:List (List Int)} {H W:Nat} (h:NmOk g H W) {i j:Nat} (hi:i<H) (hj:j<W):0≤gz (zG g) i j∧gz (zG g) i j≤8:=by
 have h1:=ye6 h.gw hi hj
 have h2:=h.le
 omega
theorem NmOk.hd {g:List (List Int)} {H W:Nat} (h:NmOk g H W):(nm g).length=H∧(zan (nm g)).length=W:=z65 (z1w h.gw)
theorem NmOk.pat {g:List (List Int)} {H W:Nat} (h:NmOk g H W):Pat (zbs (nm g)) g H W:=by
 refine Pat.trans (fun i j i' j' hi hj hi' hj'=>?_) (yd3 h.gw)
 have b1:=h.bound hi hj
 have b2:=h.bound hi' hj'
 unfold nm
 rw [zta (z1w h.gw) hi hj b1.1 (by omega),zta (z1w h.gw) hi' hj' b2.1 (by omega)]
 constructor <;> intro e <;> omega
theorem NmOk.gP {g:List (List Int)} {H W:Nat} (h:NmOk g H W):gP (nm g)=zG g∧rP (nm g)=(zak g W H).2:=by
 rw [z2a,z8y,h.hd.1,h.hd.2,h.gw.zG.1]
 exact ⟨ztm h.pat H (qR _),(zk6 h.pat H (qR _)).2⟩
theorem NmOk.named {g:List (List Int)} {H W:Nat} (h:NmOk g H W):Named (nm g):=by
 refine ⟨z64 (z1w h.gw) fun i j hi hj=>by have:=h.bound hi hj; omega,?_⟩
 rw [h.gP.1]; rfl
theorem NmOk.cell {g:List (List Int)} {H W:Nat} (h:NmOk g H W) {i j:Nat} (hi:i<H) (hj:j<W):zaj (nm g) i j=gz (zG g) i j:=by
 rw [← h.named.cell (by rw [h.hd.1]; exact hi) (by rw [h.hd.2]; exact hj),h.gP.1]
structure Cells (c:Nat→Nat→Nat) (g:List (List Int)) (H W:Nat):Prop where
 gw:GW g H W
 at_:∀ i j,i<H→j<W→gz g i j=((c i j:Nat):Int)
structure Ren (c:Nat→Nat→Nat) (H W:Nat) (t:List Txt):Prop where
 hl:t.length=H
 wl:(zan t).length=W
 pat:∀ i j i' j',i<H→j<W→i'<H→j'<W→(cn (gP t) i j=cn (gP t) i' j'↔c i j=c i' j')
section
variable {c c':Nat→Nat→Nat} {H W:Nat}
theorem TC.map {R S:Nat→Nat→Prop} {f:Nat→Nat} (h:∀ a b,R a b→S (f a) (f b)) {a b:Nat} (k:TC R a b):TC S (f a) (f b):=by
 induction k with
 | one k=>exact .one (h _ _ k)
 | tail _ k ih=>exact .tail ih (h _ _ k)
structure Iso (p t:List Txt) (L U:Nat→Nat→Prop) (σ:Nat→Nat):Prop where
 pl:zhc t=true
 n:(rP t).length=(rP p).length
 lt:∀ a,a<(rP p).length→σ a<(rP p).length
 inj:∀ a b,a<(rP p).length→b<(rP p).length→σ a=σ b→a=b
 lf:∀ a b,a<(rP p).length→b<(rP p).length→(Lf t (σ a) (σ b)↔L a b)
 ab:∀ a b,a<(rP p).length→b<(rP p).length→(Ab t (σ a) (σ b)↔U a b)
theorem Iso.imp {p t:List Txt} {L U L' U':Nat→Nat→Prop} {σ:Nat→Nat} (h:Iso p t L U σ) (hL:∀ a b,a<(rP p).length→b<(rP p).length→(L a b↔L' a b)) (hU:∀ a b,a<(rP p).length→b<(rP p).length→(U a b↔U' a b)):Iso p t L' U' σ :=
 ⟨h.pl,h.n,h.lt,h.inj,fun a b ha hb=>(h.lf a b ha hb).trans (hL a b ha hb),fun a b ha hb=>(h.ab a b ha hb).trans (hU a b ha hb)⟩
structure Fold1 (f:Nat→Nat) (m n:Nat):Prop where
 pos:1≤m
 z:f 0=0
 s:∀ i,i+1<m→f (i+1)=f i∨f (i+1)=f i+1
 e:f (m - 1)+1=n
theorem Fold1.mono {f:Nat→Nat} {m n:Nat} (h:Fold1 f m n):∀ {i j:Nat},i≤j→j<m→f i≤f j:=by
 intro i j hij
 induction j with
 | zero=>intro _; rw [show i=0 by omega]; exact qR _
 | succ j ih =>
  intro hj
  by_cases e:i=j+1
  ·subst e; exact qR _
  have h1:=ih (by omega) (by omega)
  have:=h.s j hj
  omega
theorem Fold1.lt {f:Nat→Nat} {m n i:Nat} (h:Fold1 f m n) (hi:i<m):f i<n:=by
 have:=h.mono (i:=i) (j:=m - 1) (by omega) (by have:=h.pos; omega)
 have:=h.e
 omega
theorem Fold1.mid {f:Nat→Nat} {m n i:Nat} (h:Fold1 f m n) {v:Nat}:∀ {j:Nat},i≤j→j<m→f i≤v→v≤f j→∃ r,i≤r∧r≤j∧f r=v:=by
 intro j
 induction j with
 | zero=>intro h1 h2 h3 h4; exact ⟨0,by omega,qR _,by rw [show i=0 by omega]at h3; omega⟩
 | succ j ih =>
  intro h1 h2 h3 h4
  by_cases e:f (j+1)=v
  ·exact ⟨j+1,h1,qR _,e⟩
  by_cases e2:i=j+1
  ·subst e2; omega
  have:=h.s j h2
  obtain ⟨r,r1,r2,r3⟩:=ih (by omega) (by omega) h3 (by omega)
  exact ⟨r,r1,by omega,r3⟩
theorem Fold1.last {f:Nat→Nat} {m n v:Nat} (h:Fold1 f m n) (hv:v+1<n):∃ r,r+1<m∧f r=v∧f (r+1)=v+1:=by
 have hp:=h.pos
 have he:=h.e
 obtain ⟨e,h1,h2,h3,h4⟩:=zyf (P:=fun r=>f r≤v) (i:=0) (n:=m - 1) (by omega) (by rw [h.z]; omega) (by omega)
 have:=h.s e (by omega)
 exact ⟨e,by omega,by omega,by omega⟩
theorem DL.fold {f g:Nat→Nat} {H' W':Nat} (hf:Fold1 f H H') (hg:Fold1 g W W') (hc:∀ i j,i<H→j<W→c i j=c' (f i) (g j)) {a b:Nat}:DL c H W a b↔DL c' H' W' a b:=by
 constructor
 ·rintro ⟨j,i1,i2,h1,h2,h3,run,rfl,rfl⟩
  have hgj:g (j+1)=g j+1:=by
   rcases hg.s j h1 with e | e
   ·have:=run i1 (by omega) (by omega)
    rw [hc i1 j h2 (by omega),hc i1 (j+1) h2 h1,e]at this
    exact absurd rfl this
   exact e
  have hlt:=hg.lt h1
  refine ⟨g j,f i1,f i2,by omega,hf.lt h2,hf.lt h3,fun r r1 r2=>?_,hc _ _ h2 (by omega),by rw [hc _ _ h3 h1,hgj]⟩
  have:∃ r0,min i1 i2≤r0∧r0≤max i1 i2∧f r0=r:=by
   rcases Nat.le_total i1 i2 with q | q
   ·have:=hf.mono q h3
    obtain ⟨r0,q1,q2,q3⟩:=hf.mid (v:=r) q h3 (by omega) (by omega)
    exact ⟨r0,by omega,by omega,q3⟩
   have:=hf.mono q h2
   obtain ⟨r0,q1,q2,q3⟩:=hf.mid (v:=r) q h2 (by omega) (by omega)
   exact ⟨r0,by omega,by omega,q3⟩
  obtain ⟨r0,q1,q2,rfl⟩:=this
  have:=run r0 q1 q2
  rw [hc r0 j (by omega) (by omega),hc r0 (j+1) (by omega) h1,hgj]at this
  exact this
 rintro ⟨j,i1,i2,h1,h2,h3,run,rfl,rfl⟩
 obtain ⟨j0,k1,k2,k3⟩:=hg.last h1
 have hfe:=hf.e
 have hfp:=hf.pos
 obtain ⟨r1,-,q2,q3⟩:=hf.mid (i:=0) (j:=H - 1) (v:=i1) (by omega) (by omega) (by rw [hf.z]; omega) (by omega)
 obtain ⟨r2,-,q5,q6⟩:=hf.mid (i:=0) (j:=H - 1) (v:=i2) (by omega) (by omega) (by rw [hf.z]; omega) (by omega)
 refine ⟨j0,r1,r2,k1,by omega,by omega,fun r s1 s2=>?_,by rw [hc _ _ (by omega) (by omega),q3,k2],by rw [hc _ _ (by omega) (by omega),q6,k3]⟩
 rw [hc r j0 (by omega) (by omega),hc r (j0+1) (by omega) k1,k2,k3]
 refine run (f r) ?_ ?_
 ·rcases Nat.le_total r1 r2 with q | q
  ·have:=hf.mono (show r1≤r by omega) (show r<H by omega); omega
  have:=hf.mono (show r2≤r by omega) (show r<H by omega); omega
 rcases Nat.le_total r1 r2 with q | q
 ·have:=hf.mono (show r≤r2 by omega) (show r2<H by omega); omega
 have:=hf.mono (show r≤r1 by omega) (show r1<H by omega); omega
theorem DU.fold {f g:Nat→Nat} {H' W':Nat} (hf:Fold1 f H H') (hg:Fold1 g W W') (hc:∀ i j,i<H→j<W→c i j=c' (f i) (g j)) {a b:Nat}:DU c H W a b↔DU c' H' W' a b :=
 DL.fold (c:=tr c) (c':=tr c') hg hf fun i j hi hj=>hc j i hj hi
theorem TC.iff {R S:Nat→Nat→Prop} (h:∀ a b,R a b↔S a b) {a b:Nat}:TC R a b↔TC S a b:=⟨TC.mono fun a b=>(h a b).1,TC.mono fun a b=>(h a b).2⟩
end
section
def rooms (n:Nat):List Int:=(List.range n).map fun i:Nat=>(i:Int)
section
variable {n:Nat} {f:Nat→Nat}
end
def bf1 (p:List Txt) (a b:Nat):Bool:=zcq (lfM p) a b || zcq (abM p) a b
def bf2 (p:List Txt) (a b:Nat):Bool:=zcq (lfM p) a b || zcq (abM p) b a
def bfK (p:List Txt) (below:Bool) (a b:Nat):Bool:=if below then bf2 p a b else bf1 p a b
def ahK (p:List Txt) (below:Bool) (a:Nat):Nat:=(List.range (rP p).length).countP fun b=>bfK p below b a
theorem ya4 {p:List Txt} (hp:zhc p=true) (below:Bool):∃ f:Nat→Nat,(∀ a b,a<(rP p).length→b<(rP p).length→(bfK p below a b=true↔f a<f b))∧∀ a b,a<(rP p).length→b<(rP p).length→f a=f b→a=b:=by
 obtain ⟨f,g,hfg⟩:=zyu hp
 have tot:=fun a b ha hb hne=>z2m (a:=a) (b:=b) hp ha hb hne
 cases below with
 | false =>
  have h1:∀ a b,a<(rP p).length→b<(rP p).length→bfK p false a b=true→f a<f b:=by
   intro a b ha hb h
   simp only[bfK,bf1,qF,if_false,Bool.or_eq_true]at h
   rcases h with h | h
   ·exact ((hfg a b ha hb).1 h).1
   exact ((hfg a b ha hb).2 h).1
  have h2:∀ a b,a<(rP p).length→b<(rP p).length→a≠b→bfK p false a b=true∨bfK p false b a=true:=by
   intro a b ha hb hne
   simp only[bfK,bf1,qF,if_false,Bool.or_eq_true]
   rcases tot a b ha hb hne with h | h | h | h
   ·exact .inl (.inl h)
   ·exact .inr (.inl h)
   ·exact .inl (.inr h)
   exact .inr (.inr h)
  have h3:∀ a b,a<(rP p).length→b<(rP p).length→f a=f b→a=b:=by
   intro a b ha hb e
   refine Classical.byContradiction fun hne=>?_
   rcases h2 a b ha hb hne with h | h
   ·have:=h1 a b ha hb h; omega
   have:=h1 b a hb ha h; omega
  refine ⟨f,fun a b ha hb=>⟨h1 a b ha hb,fun h=>?_⟩,h3⟩
  rcases h2 a b ha hb (by rintro rfl; omega) with k | k
  ·exact k
  have:=h1 b a hb ha k; omega
 | true =>
  have h1:∀ a b,a<(rP p).length→b<(rP p).length→bfK p true a b=true→g a<g b:=by
   intro a b ha hb h
   simp only[bfK,bf2,if_true,Bool.or_eq_true]at h
   rcases h with h | h
   ·exact ((hfg a b ha hb).1 h).2
   exact ((hfg b a hb ha).2 h).2
  have h2:∀ a b,a<(rP p).length→b<(rP p).length→a≠b→bfK p true a b=true∨bfK p true b a=true:=by
   intro a b ha hb hne
   simp only[bfK,bf2,if_true,Bool.or_eq_true]
   rcases tot a b ha hb hne with h | h | h | h
   ·exact .inl (.inl h)
   ·exact .inr (.inl h)
   ·exact .inr (.inr h)
   exact .inl (.inr h)
  have h3:∀ a b,a<(rP p).length→b<(rP p).length→g a=g b→a=b:=by
   intro a b ha hb e
   refine Classical.byContradiction fun hne=>?_
   rcases h2 a b ha hb hne with h | h
   ·have:=h1 a b ha hb h; omega
   have:=h1 b a hb ha h; omega
  refine ⟨g,fun a b ha hb=>⟨h1 a b ha hb,fun h=>?_⟩,h3⟩
  rcases h2 a b ha hb (by rintro rfl; omega) with k | k
  ·exact k
  have:=h1 b a hb ha k; omega
theorem z9p {p:List Txt} {below:Bool} {f:Nat→Nat} (hf:∀ a b,a<(rP p).length→b<(rP p).length→(bfK p below a b=true↔f a<f b)) {a:Nat} (ha:a<(rP p).length):ahK p below a=ahead (rP p).length f a:=by
 unfold ahK ahead
 apply List.countP_congr
 intro b hb
 rw [hf b a (by simpa using hb) ha]; simp
end
section
section
variable {p:List Txt} {below:Bool}
theorem zto (hp:zhc p=true) {a b:Nat} (ha:a<(rP p).length) (hb:b<(rP p).length):bfK p below a b=true↔ahK p below a<ahK p below b:=by
 obtain ⟨f,hf,hi⟩:=ya4 hp below
 rw [z9p hf ha,z9p hf hb,hf a b ha hb]
 constructor
 ·intro h; exact zzs ha h
 intro h
 refine Classical.byContradiction fun k=>?_
 rcases Nat.lt_trichotomy (f a) (f b) with q | q | q
 ·exact k q
 ·have:=hi a b ha hb q; subst this; omega
 have:=zzs (n:=(rP p).length) hb q; omega
end
end

section
variable {M:List (List Bool)} {ms:List Nat} {n:Nat} {rk:Nat→Nat} {ws out:List Int}
abbrev ones (n:Nat):List Int:=List.replicate n 1
def RB (M:List (List Bool)) (n b:Nat):Int:=HB (revM n M) (ones n) n b
def yd9 (M:List (List Bool)) (n:Nat) (out:List Int):Prop:=out.length=n∧∀ a,a<n→0≤zjb out a∧zjb out a≤RB M n a
theorem yd9.set (h:yd9 M n out) {a:Nat} {v:Int} (ha:a<n) (h0:0≤v) (h1:v≤RB M n a):yd9 M n (out.set a v):=by
 refine ⟨by simp [h.1],fun y hy=>?_⟩
 rw [z78 (by rw [h.1]; exact ha)]
 split
 ·rename_i e; subst e; exact ⟨h0,h1⟩
 exact h.2 y hy
end
section
variable {p:List Txt}
end
section
variable {p t:List Txt} {L U:Nat→Nat→Prop} {σ:Nat→Nat}
theorem ztp {below:Bool} {a b:Nat}:bfK p below a b=true↔Lf p a b∨(if below then Ab p b a else Ab p a b):=by
 unfold bfK bf1 bf2 Lf Ab
 cases below <;> simp
end
section
variable {c:Nat→Nat→Nat} {H W:Nat}
theorem DL.cols (h:Pl c H W) {i j i' j':Nat} (hi:i<H) (hj:j<W) (hi':i'<H) (hj':j'<W) (hd:DL c H W (c i j) (c i' j')):j<j':=by
 obtain ⟨k,i1,i2,h1,h2,h3,run,e1,e2⟩:=hd
 have a1:j≤k:=by
  refine Classical.byContradiction fun hn=>?_
  have:=h.rect (i:=i1) (j:=k) (i':=i) (j':=j) i1 (k+1) h2 hi (by omega) hj e1.symm (by omega) (by omega) (by omega) (by omega)
  exact run i1 (by omega) (by omega) this.symm
 have a2:k+1≤j':=by
  refine Classical.byContradiction fun hn=>?_
  have:=h.rect (i:=i2) (j:=k+1) (i':=i') (j':=j') i2 k h3 hi' h1 hj' e2.symm (by omega) (by omega) (by omega) (by omega)
  exact run i2 (by omega) (by omega) this
 omega
theorem DL.cells {a b:Nat} (hd:DL c H W a b):(∃ i j,i<H∧j<W∧c i j=a)∧∃ i j,i<H∧j<W∧c i j=b:=by
 obtain ⟨k,i1,i2,h1,h2,h3,run,e1,e2⟩:=hd
 exact ⟨⟨i1,k,h2,by omega,e1.symm⟩,i2,k+1,h3,h1,e2.symm⟩
theorem TC.cols (h:Pl c H W) {a b:Nat} (hd:TC (DL c H W) a b):∀ {i j i' j':Nat},i<H→j<W→i'<H→j'<W→c i j=a→c i' j'=b→j<j':=by
 induction hd with
 | one hd=>intro i j i' j' h1 h2 h3 h4 e1 e2; subst e1; subst e2; exact hd.cols h h1 h2 h3 h4
 | tail _ hd ih =>
  intro i j i' j' h1 h2 h3 h4 e1 e2
  obtain ⟨⟨x,y,hx,hy,e3⟩,-⟩:=hd.cells
  have q1:=ih h1 h2 hx hy e1 e3
  subst e2; rw [← e3]at hd
  have q2:=hd.cols h hx hy h3 h4
  omega
variable {p:List Txt}
end
section
section
variable {cf cg:Nat→Nat→Nat} {H1 W1 H2 W2 n:Nat}
end
end
section
section
variable {cf cg:Nat→Nat→Nat} {H1 W1 H2 W2 n N:Nat}
end
end

structure Made (c:Nat→Nat→Nat) (H W:Nat) (g:List (List Int)):Prop where
 gw:GW g H W
 ok:okS g=true
 full:zky g=true
 plan:zbc (nm g)=true
 ren:Ren c H W (nm g)
section
section
variable {p q t:List Txt} {L U:Nat→Nat→Prop} {σ:Nat→Nat}
structure Two (p q t:List Txt) (σ:Nat→Nat):Prop where
 hp:zhc p=true
 hq:zhc q=true
 pl:zhc t=true
 n:(rP t).length=(rP p).length+(rP q).length
 lt:∀ a,a<(rP t).length→σ a<(rP t).length
 inj:∀ a b,a<(rP t).length→b<(rP t).length→σ a=σ b→a=b
 l1:∀ a b,a<(rP p).length→b<(rP p).length→a≠b→(Lf t (σ a) (σ b)↔Lf p a b)∧(Ab t (σ a) (σ b)↔Ab p a b)
 l2:∀ a b,a<(rP q).length→b<(rP q).length→a≠b→(Lf t (σ ((rP p).length+a)) (σ ((rP p).length+b))↔Lf q a b)∧(Ab t (σ ((rP p).length+a)) (σ ((rP p).length+b))↔Ab q a b)
theorem Two.blk (h:Two p q t σ) (b1:Bool):(∀ a b,a<(rP p).length→b<(rP p).length→(ahK t b1 (σ a)<ahK t b1 (σ b)↔ahK p b1 a<ahK p b1 b)) ∧
  ∀ a b,a<(rP q).length→b<(rP q).length→(ahK t b1 (σ ((rP p).length+a))<ahK t b1 (σ ((rP p).length+b))↔ahK q b1 a<ahK q b1 b):=by
 have hn:=h.n
 constructor
 ·intro a b ha hb
  by_cases e:a=b
  ·subst e; simp
  rw [← zto h.pl (h.lt a (by omega)) (h.lt b (by omega)),← zto h.hp ha hb,ztp,ztp,(h.l1 a b ha hb e).1]
  cases b1 <;> simp [(h.l1 a b ha hb e).2,(h.l1 b a hb ha fun x=>e x.symm).2]
 intro a b ha hb
 by_cases e:a=b
 ·subst e; simp
 rw [← zto h.pl (h.lt _ (by omega)) (h.lt _ (by omega)),← zto h.hq ha hb,ztp,ztp,(h.l2 a b ha hb e).1]
 cases b1 <;> simp [(h.l2 a b ha hb e).2,(h.l2 b a hb ha fun x=>e x.symm).2]
end
end
section
section
variable {p q:List Txt}
end
end
structure Pt where
 r:Nat
 c:Nat
 h:Nat
 w:Nat
 deriving DecidableEq
def Pt.In (t:Pt) (H W:Nat):Prop:=1≤t.h∧1≤t.w∧t.r+t.h≤H∧t.c+t.w≤W
def zu3 (f:Nat→Bool):Nat→Option Nat
 | 0=>none
 | k+1=>(zu3 f k).or (if decide (1≤k) && f k then some k else none)
theorem zh7 {f:Nat→Bool}:∀ {n:Nat},zu3 f n=none↔∀ k,1≤k→k<n→f k=false
 | 0=>by simp [zu3]
 | n+1=>by
  simp only[zu3,Option.or_eq_none_iff,zh7 (n:=n)]
  constructor
  ·rintro ⟨h1,h2⟩ k hk hn
   by_cases e:k=n
   ·subst e; cases hf:f k with
    | false=>rfl
    | true=>rw [hf]at h2; simp at h2; omega
   exact h1 k hk (by omega)
  intro h
  refine ⟨fun k hk hn=>h k hk (by omega),?_⟩
  by_cases hn:1≤n
  ·simp [h n hn (by omega)]
  simp [hn]
theorem zd6 {f:Nat→Bool} {k:Nat}:∀ {n:Nat},zu3 f n=some k↔1≤k∧k<n∧f k=true∧∀ j,1≤j→j<k→f j=false
 | 0=>by simp [zu3]
 | n+1=>by
  simp only[zu3]
  cases h:zu3 f n with
  | some m =>
   have hm:=(zd6 (n:=n)).1 h
   simp only[Option.some_or,Option.some.injEq]
   constructor
   ·rintro rfl; exact ⟨hm.1,by omega,hm.2.2.1,hm.2.2.2⟩
   rintro ⟨h1,h2,h3,h4⟩
   rcases Nat.lt_trichotomy m k with e | e | e
   ·have:=h4 m hm.1 e; rw [hm.2.2.1]at this; cases this
   ·exact e
   have:=hm.2.2.2 k h1 e; rw [h3]at this; cases this
  | none =>
   have hn:=zh7.1 h
   simp only[Option.none_or]
   constructor
   ·intro e
    split at e
    ·rename_i hc
     cases e
     simp only[qB,decide_eq_true_eq]at hc
     exact ⟨hc.1,by omega,hc.2,hn⟩
    cases e
   rintro ⟨h1,h2,h3,h4⟩
   by_cases e:k=n
   ·subst e; simp [h1,h3]
   have:=hn k h1 (by omega); rw [h3]at this; cases this
def thU (z:Nat→Nat→Int) (t:Pt) (k:Nat):Bool:=(List.range t.h).all fun i=>decide (z (t.r+i) (t.c+k - 1)≠z (t.r+i) (t.c+k))
def thL (z:Nat→Nat→Int) (t:Pt) (k:Nat):Bool:=(List.range t.w).all fun j=>decide (z (t.r+k - 1) (t.c+j)≠z (t.r+k) (t.c+j))
theorem zzg {z:Nat→Nat→Int} {t:Pt} {k:Nat}:thU z t k=true↔∀ i,i<t.h→z (t.r+i) (t.c+k - 1)≠z (t.r+i) (t.c+k):=by simp [thU]
theorem zzf {z:Nat→Nat→Int} {t:Pt} {k:Nat}:thL z t k=true↔∀ j,j<t.w→z (t.r+k - 1) (t.c+j)≠z (t.r+k) (t.c+j):=by simp [thL]
def zdl (z:Nat→Nat→Int) (t:Pt):Option (Bool × Nat) :=
 match zu3 (thU z t) t.w with
 | some k=>some (false,k)
 | none=>match zu3 (thL z t) t.h with
  | some k=>some (true,k)
  | none=>none
def Pt.one (t:Pt) (q:Bool × Nat):Pt:=if q.1 then ⟨t.r,t.c,q.2,t.w⟩ else ⟨t.r,t.c,t.h,q.2⟩
def Pt.two (t:Pt) (q:Bool × Nat):Pt:=if q.1 then ⟨t.r+q.2,t.c,t.h - q.2,t.w⟩ else ⟨t.r,t.c+q.2,t.h,t.w - q.2⟩
theorem zgi {z:Nat→Nat→Int} {t:Pt} {q:Bool × Nat} (h:zdl z t=some q):1≤q.2∧if q.1 then q.2<t.h∧thL z t q.2=true else q.2<t.w∧thU z t q.2=true:=by
 unfold zdl at h
 split at h
 ·rename_i k hk; cases h; have:=zd6.1 hk; exact ⟨this.1,by simp [this.2.1,this.2.2.1]⟩
 split at h
 ·rename_i k hk; cases h; have:=zd6.1 hk; exact ⟨this.1,by simp [this.2.1,this.2.2.1]⟩
 cases h
theorem z13 {z:Nat→Nat→Int} {t:Pt}:zdl z t=none↔(∀ k,1≤k→k<t.w→thU z t k=false)∧∀ k,1≤k→k<t.h→thL z t k=false:=by
 unfold zdl
 split
 ·rename_i k hk
  have:=zd6.1 hk
  constructor
  ·intro h; cases h
  rintro ⟨h,_⟩; rw [h k this.1 this.2.1]at this; simp at this
 rename_i hn
 split
 ·rename_i k hk
  have:=zd6.1 hk
  constructor
  ·intro h; cases h
  rintro ⟨_,h⟩; rw [h k this.1 this.2.1]at this; simp at this
 rename_i hn2
 exact ⟨fun _=>⟨zh7.1 hn,zh7.1 hn2⟩,fun _=>rfl⟩
theorem Pt.In.cut {t:Pt} {H W:Nat} (h:t.In H W) {z:Nat→Nat→Int} {q:Bool × Nat} (hq:zdl z t=some q):(t.one q).In H W∧(t.two q).In H W ∧
  (t.one q).h*(t.one q).w<t.h*t.w∧(t.two q).h*(t.two q).w<t.h*t.w:=by
 obtain ⟨h1,h2⟩:=zgi hq
 obtain ⟨a,b,c,d⟩:=h
 obtain ⟨lv,k⟩:=q
 simp only at h1 h2
 cases lv with
 | true =>
  simp only[if_true]at h2
  simp only[Pt.one,Pt.two,if_true,Pt.In]
  refine ⟨⟨h1,b,by omega,d⟩,⟨by omega,b,by omega,d⟩,Nat.mul_lt_mul_of_pos_right h2.1 b,Nat.mul_lt_mul_of_pos_right (by omega) b⟩
 | false =>
  simp only[qF,if_false]at h2
  simp only[Pt.one,Pt.two,qF,if_false,Pt.In]
  refine ⟨⟨a,h1,c,by omega⟩,⟨a,by omega,c,by omega⟩,Nat.mul_lt_mul_of_pos_left h2.1 a,Nat.mul_lt_mul_of_pos_left (by omega) a⟩
def zwf (z:Nat→Nat→Int) (t:Pt):Bool:=(List.range t.h).all fun i=>(List.range t.w).all fun j=>decide (z (t.r+i) (t.c+j)=z t.r t.c)
theorem zo1 {z:Nat→Nat→Int} {t:Pt}:zwf z t=true↔∀ i j,i<t.h→j<t.w→z (t.r+i) (t.c+j)=z t.r t.c:=by
 simp only[zwf,List.all_eq_true,List.mem_range,decide_eq_true_eq]
 exact ⟨fun h i j hi hj=>h i hi j hj,fun h i hi j hj=>h i j hi hj⟩
inductive CT where
 | leaf (a:Int)
 | node (lv:Bool) (x y:CT)
def tree (z:Nat→Nat→Int):Nat→Pt→Option CT
 | 0,_=>none
 | f+1,t=>if zwf z t then some (.leaf (z t.r t.c)) else
  match zdl z t with
  | none=>none
  | some q=>match tree z f (t.one q),tree z f (t.two q) with
   | some x,some y=>some (.node q.1 x y)
   | _,_=>none
theorem zmd {z:Nat→Nat→Int} {H W:Nat}:∀ (n:Nat) {t:Pt} {f g:Nat},t.In H W→t.h*t.w≤n→t.h*t.w≤f→t.h*t.w≤g→tree z f t=tree z g t
 | 0,t,f,g,hi,hn,_,_=>by have:=Nat.mul_pos hi.1 hi.2.1; omega
 | n+1,t,f,g,hi,hn,hf,hg=>by
  have:=Nat.mul_pos hi.1 hi.2.1
  obtain ⟨f,rfl⟩:∃ f',f=f'+1:=⟨f - 1,by omega⟩
  obtain ⟨g,rfl⟩:∃ g',g=g'+1:=⟨g - 1,by omega⟩
  simp only[tree]
  split
  ·rfl
  cases hc:zdl z t with
  | none=>rfl
  | some q =>
   obtain ⟨i1,i2,a1,a2⟩:=hi.cut hc
   simp only
   rw [zmd n i1 (f:=f) (g:=g) (by omega) (by omega) (by omega),zmd n i2 (f:=f) (g:=g) (by omega) (by omega) (by omega)]
def CT.fold {α:Type} (room:Int→α) (cut:Bool→α→α→α):CT→α
 | .leaf a=>room a
 | .node lv x y=>cut lv (x.fold room cut) (y.fold room cut)
structure Whole (z:Nat→Nat→Int) (H W:Nat) (t:Pt):Prop where
 inn:t.In H W
 all:∀ i j i' j',i<H→j<W→i'<H→j'<W→z i j=z i' j'→t.r≤i→i<t.r+t.h→t.c≤j→j<t.c+t.w→t.r≤i'∧i'<t.r+t.h∧t.c≤j'∧j'<t.c+t.w
def yaz (z:Nat→Nat→Int) (H W:Nat):Prop:=∀ {i j i' j':Nat} (k l:Nat),i<H→i'<H→j<W→j'<W→z i j=z i' j'→min i i'≤k→k≤max i i'→min j j'≤l→l≤max j j'→z k l=z i j
theorem Whole.cut {z:Nat→Nat→Int} {H W:Nat} (hz:yaz z H W) {t:Pt} (h:Whole z H W t) {q:Bool × Nat} (hq:zdl z t=some q):Whole z H W (t.one q)∧Whole z H W (t.two q):=by
 obtain ⟨i1,i2,_,_⟩:=h.inn.cut hq
 obtain ⟨c1,c2⟩:=zgi hq
 obtain ⟨lv,k⟩:=q
 have hin:=h.inn
 unfold Pt.In at hin
 cases lv with
 | true =>
  simp only[if_true]at c2
  have hth:=zzf.1 c2.2
  have key:∀ i j i' j',i<H→j<W→i'<H→j'<W→z i j=z i' j'→t.r≤i→i<t.r+k→t.c≤j→j<t.c+t.w→t.r+k≤i'→i'<t.r+t.h→t.c≤j'→j'<t.c+t.w→False:=by
   intro i j i' j' a b c d e f1 f2 f3 f4 g1 g2 g3 g4
   have e1:=hz (t.r+k - 1) j a c b d e (by omega) (by omega) (by omega) (by omega)
   have e2:=hz (t.r+k) j a c b d e (by omega) (by omega) (by omega) (by omega)
   have:=hth (j - t.c) (by omega)
   rw [show t.c+(j - t.c)=j by omega]at this
   exact this (e1.trans e2.symm)
  refine ⟨⟨i1,?_⟩,⟨i2,?_⟩⟩
  ·simp only[Pt.one,if_true]
   intro i j i' j' a b c d e f1 f2 f3 f4
   obtain ⟨g1,g2,g3,g4⟩:=h.all i j i' j' a b c d e f1 (by omega) f3 f4
   refine ⟨g1,?_,g3,g4⟩
   rcases Nat.lt_or_ge i' (t.r+k) with h1 | h1
   ·exact h1
   exact (key i j i' j' a b c d e f1 f2 f3 f4 h1 g2 g3 g4).elim
  simp only[Pt.two,if_true]
  intro i j i' j' a b c d e f1 f2 f3 f4
  obtain ⟨g1,g2,g3,g4⟩:=h.all i j i' j' a b c d e (by omega) (by omega) f3 f4
  refine ⟨?_,by omega,g3,g4⟩
  rcases Nat.lt_or_ge i' (t.r+k) with h1 | h1
  ·exact (key i' j' i j c d a b e.symm g1 h1 g3 g4 f1 (by omega) f3 f4).elim
  exact h1
 | false =>
  simp only[qF,if_false]at c2
  have hth:=zzg.1 c2.2
  have key:∀ i j i' j',i<H→j<W→i'<H→j'<W→z i j=z i' j'→t.r≤i→i<t.r+t.h→t.c≤j→j<t.c+k→t.r≤i'→i'<t.r+t.h→t.c+k≤j'→j'<t.c+t.w→False:=by
   intro i j i' j' a b c d e f1 f2 f3 f4 g1 g2 g3 g4
   have e1:=hz i (t.c+k - 1) a c b d e (by omega) (by omega) (by omega) (by omega)
   have e2:=hz i (t.c+k) a c b d e (by omega) (by omega) (by omega) (by omega)
   have:=hth (i - t.r) (by omega)
   rw [show t.r+(i - t.r)=i by omega]at this
   exact this (e1.trans e2.symm)
  refine ⟨⟨i1,?_⟩,⟨i2,?_⟩⟩
  ·simp only[Pt.one,qF,if_false]
   intro i j i' j' a b c d e f1 f2 f3 f4
   obtain ⟨g1,g2,g3,g4⟩:=h.all i j i' j' a b c d e f1 f2 f3 (by omega)
   refine ⟨g1,g2,g3,?_⟩
   rcases Nat.lt_or_ge j' (t.c+k) with h1 | h1
   ·exact h1
   exact (key i j i' j' a b c d e f1 f2 f3 f4 g1 g2 h1 g4).elim
  simp only[Pt.two,qF,if_false]
  intro i j i' j' a b c d e f1 f2 f3 f4
  obtain ⟨g1,g2,g3,g4⟩:=h.all i j i' j' a b c d e f1 f2 (by omega) (by omega)
  refine ⟨g1,g2,?_,by omega⟩
  rcases Nat.lt_or_ge j' (t.c+k) with h1 | h1
  ·exact (key i' j' i j c d a b e.symm g1 g2 g3 h1 f1 f2 f3 (by omega)).elim
  exact h1
section
def thW (p:List Txt) (k:Nat):Bool:=(List.range p.length).all fun i=>decide (zaj p i (k - 1)≠zaj p i k)
theorem zzh {p:List Txt} {k:Nat}:thW p k=true↔∀ i,i<p.length→zaj p i (k - 1)≠zaj p i k:=by simp [thW]
def zel (n:Nat) (w:List Int):Bool:=decide (zjb w 2=n)
theorem zxt {p:List Txt} {k:Nat} {s0:List (List Int)}:∀ i,i≤p.length →
  ((∀ r,r<i→zi1 p k r=true)∧zee p k s0 i=(if i=0 then -1 else 0,s0)) ∨
  ((¬ ∀ r,r<i→zi1 p k r=true)∧((zee p k s0 i).1<0∨0<(zee p k s0 i).1) ∧ -1≤(zee p k s0 i).1∧∃ L,(zee p k s0 i).2=s0++L∧∀ w∈L,zel p.length w=false)
 | 0,_ => .inl ⟨fun r hr=>by omega,rfl⟩
 | i+1,hi=>by
  rcases zxt (p:=p) (k:=k) (s0:=s0) i (by omega) with ⟨h1,h2⟩ | ⟨h1,h2,h3,L,h4,h5⟩
  ·cases hw:zi1 p k i with
   | true =>
    refine .inl ⟨fun r hr=>?_,?_⟩
    ·by_cases e:r=i
     ·rw [e]; exact hw
     exact h1 r (by omega)
    simp only[zee,h2,hw,zen]
    by_cases e:i=0
    ·subst e; simp
    simp [e]
   | false =>
    refine .inr ⟨fun h=>?_,?_⟩
    ·have:=h i (by omega); rw [hw]at this; cases this
    simp only[zee,h2,hw,zen]
    by_cases e:i=0
    ·subst e; exact ⟨.inl (by simp),by simp,[],by simp,by simp⟩
    simp only[e,if_false,Bool.false_and,qF,Bool.not_false,Bool.true_and,Int.le_refl,decide_true,if_true]
    refine ⟨.inl (by simp),by simp,[[(k:Int),0,(i:Int) - 0]],rfl,?_⟩
    intro w hw'
    simp only[List.mem_singleton]at hw'
    subst hw'
    show decide (((i:Int) - 0)=p.length)=false
    exact decide_eq_false (by omega)
  refine .inr ⟨fun h=>h1 fun r hr=>h r (by omega),?_⟩
  simp only[zee,zen]
  generalize (zee p k s0 i).1=f at h2 h3
  cases hw:zi1 p k i with
  | true =>
   simp only[Bool.true_and,Bool.not_true,Bool.false_and,qF,if_false]
   have hi0:i≠0:=by rintro rfl; exact h1 fun r hr=>by omega
   refine ⟨?_,?_,L,h4,h5⟩
   ·by_cases hf:f<0
    ·simp only[hf,decide_true,if_true]; exact .inr (by omega)
    simp only[hf,decide_false,qF,if_false]; omega
   by_cases hf:f<0
   ·simp only[hf,decide_true,if_true]; omega
   simp only[hf,decide_false,qF,if_false]; omega
  | false =>
   simp only[Bool.false_and,qF,if_false,Bool.not_false,Bool.true_and,decide_eq_true_eq]
   by_cases hf:0≤f
   ·rw [if_pos hf]
    refine ⟨.inl (by simp),by simp,L++[[(k:Int),f,(i:Int) - f]],by simp only[h4,List.append_assoc],?_⟩
    intro w hw'
    simp only[List.mem_append,List.mem_singleton]at hw'
    rcases hw' with hw' | rfl
    ·exact h5 w hw'
    simp [zel,zjb]; omega
   rw [if_neg hf]
   exact ⟨.inl (by simp only; omega),by simp only; omega,L,h4,h5⟩
theorem z1v {p:List Txt} {k:Nat}:(∀ r,r<p.length→zi1 p k r=true)↔thW p k=true:=by
 rw [zzh]
 constructor
 ·intro h r hr; have:=h r hr; simpa [zi1,hr] using this
 intro h r hr; simpa [zi1,hr] using h r hr
theorem ycn {p:List Txt} (hp:1≤p.length) {k:Nat} {s0:List (List Int)}:∃ L,(zee p k s0 (p.length+1)).2=s0++L∧L.find? (zel p.length)=if thW p k then some [(k:Int),0,(p.length:Int)] else none:=by
 rcases zxt (p:=p) (k:=k) (s0:=s0) p.length (qR _) with ⟨h1,h2⟩ | ⟨h1,h2,h3,L,h4,h5⟩
 ·rw [z1v]at h1
  refine ⟨[[(k:Int),0,(p.length:Int)]],?_,?_⟩
  ·simp only[zee,h2,zen,zxu]
   have:p.length≠0:=by omega
   simp [this]
  rw [h1]; simp [zel,zjb]
 rw [z1v]at h1
 simp only[h1,if_false,qF]
 simp only[zee,zen,zxu]
 generalize (zee p k s0 p.length).1=f at h2 h3
 simp only[Bool.false_and,qF,if_false,Bool.not_false,Bool.true_and,decide_eq_true_eq]
 by_cases hf:0≤f
 ·rw [if_pos hf]
  refine ⟨L++[[(k:Int),f,(p.length:Int) - f]],by simp only[h4,List.append_assoc],List.find?_eq_none.2 ?_⟩
  intro w hw'
  simp only[List.mem_append,List.mem_singleton]at hw'
  rcases hw' with hw' | rfl
  ·simp [h5 w hw']
  simp [zel,zjb]; omega
 rw [if_neg hf]
 exact ⟨L,h4,List.find?_eq_none.2 fun w hw=>by simp [h5 w hw]⟩
theorem zph {p:List Txt} (hp:1≤p.length):∀ K,(zcp p K).find? (zel p.length)=(zu3 (thW p) K).map fun k=>[(k:Int),0,(p.length:Int)]
 | 0=>rfl
 | K+1=>by
  simp only[zcp,zu3]
  split
  ·rename_i hk
   obtain ⟨L,h1,h2⟩:=ycn hp (k:=K) (s0:=zcp p K)
   rw [h1,List.find?_append,zph hp K,h2]
   cases zu3 (thW p) K with
   | some k=>rfl
   | none=>simp only[Option.map_none,Option.none_or,hk,decide_true,Bool.true_and]; split <;> rfl
  rename_i hk
  rw [zph hp K]
  simp [hk]
def z7k (p:List Txt):Int × Int :=
 match (uprights p).find? (zel p.length) with
 | some w=>(0,zjb w 0)
 | none=>match (uprights (zck p)).find? (zel (zan p).length) with
  | some w=>(1,zjb w 0)
  | none=>(0,0)
theorem zvs {α:Type} {f:α→Bool} {l:List α} {i:Nat} {a:α} (h:l[i]?=some a) (h1:(l.take i).find? f=none) (h2:f a=true):l.find? f=some a:=by
 have hl:=(List.getElem?_eq_some_iff.1 h).1
 have:l=l.take i++(a::l.drop (i+1)):=by
  obtain ⟨_,e⟩:=List.getElem?_eq_some_iff.1 h
  rw [← e,List.getElem_cons_drop,List.take_append_drop]
 rw [this,List.find?_append,h1]
 simp [h2]
theorem znk {α:Type} {f:α→Bool} {l:List α} {i:Nat} {a:α} (h:l[i]?=some a) (h1:(l.take i).find? f=none) (h2:f a=false):(l.take (i+1)).find? f=none:=by
 rw [tk h,List.find?_append,h1]; simp [h2]
def zjm (t:Pt) (row:Txt):Txt:=(row.drop t.c).take t.w
def sub (p:List Txt) (t:Pt):List Txt:=((p.drop t.r).take t.h).map (zjm t)
section
variable {p:List Txt} {t:Pt}
theorem zm6 {W:Nat} (hi:t.In p.length W):(sub p t).length=t.h:=by
 simp [sub]; have:=hi.2.2.1; omega
theorem yb8 {W:Nat} (hi:t.In p.length W) {i:Nat} {row:Txt} (h:i<t.h) (hr:p[t.r+i]?=some row):(sub p t)[i]?=some (zjm t row):=by
 simp [sub,h,hr]
theorem zk9 (hg:zb7 p=true) (hi:t.In p.length (zan p).length) {i:Nat} (h:i<t.h):∃ row,p[t.r+i]?=some row∧(sub p t)[i]?=some (zjm t row)∧(zjm t row).length=t.w∧row.length=(zan p).length:=by
 obtain ⟨row,hr,_⟩:=z4o (p:=p) (i:=t.r+i) (by have:=hi.2.2.1; omega)
 have hl:=zdy hg hr
 exact ⟨row,hr,yb8 hi h hr,by simp [zjm]; have:=hi.2.2.2; omega,hl⟩
theorem zxn (hg:zb7 p=true) (hi:t.In p.length (zan p).length):(zan (sub p t)).length=t.w:=by
 obtain ⟨row,_,h2,h3,_⟩:=zk9 hg hi (i:=0) hi.1
 rw [zb9 h2,h3]
theorem zik {row:Txt} {j:Nat} (h:j<t.w):(zjm t row)[j]?=row[t.c+j]?:=by
 simp [zjm,List.getElem?_take,h]
theorem zmb (hg:zb7 p=true) (hi:t.In p.length (zan p).length) {i j:Nat} (h:i<t.h) (hj:j<t.w):zaj (sub p t) i j=zaj p (t.r+i) (t.c+j):=by
 obtain ⟨row,h1,h2,_,_⟩:=zk9 hg hi h
 simp only[zaj,h1,h2,Option.getD_some,zik hj]
theorem z9c (hg:zb7 p=true) (hi:t.In p.length (zan p).length):zb7 (sub p t)=true:=by
 have hsm:=za3 hg
 have hl:=zm6 hi
 have hh:=zxn hg hi
 obtain ⟨i1,i2,i3,i4⟩:=hi
 obtain ⟨row0,hr0,hm0⟩:=z4o (p:=p) (i:=0) (by omega)
 have hw6:=hsm.2.2 row0 hm0
 have hhd:=zb9 hr0
 rw [hhd]at i4
 unfold zb7
 simp only[qB,decide_eq_true_eq,List.all_eq_true]
 refine ⟨⟨fun r hr=>?_,by omega⟩,by omega⟩
 obtain ⟨i,hi'⟩:=List.getElem?_of_mem hr
 have hil:=(List.getElem?_eq_some_iff.1 hi').1
 obtain ⟨row,h1,h2,h3,h4⟩:=zk9 hg ⟨i1,i2,i3,by rw [hhd]; exact i4⟩ (t:=t) (i:=i) (by omega)
 rw [h2]at hi'; cases hi'
 simp only[zq7,qB,decide_eq_true_eq,List.all_eq_true]
 refine ⟨⟨⟨by omega,by omega⟩,by omega⟩,fun c hc=>?_⟩
 obtain ⟨j,hj⟩:=List.getElem?_of_mem hc
 have hjl:=(List.getElem?_eq_some_iff.1 hj).1
 rw [zik (by omega)]at hj
 obtain ⟨c',hc',hl'⟩:=zlm hg h1 (k:=t.c+j) (by rw [hhd]; omega)
 rw [hc']at hj; cases hj; exact hl'
theorem yca (hg:zb7 p=true) (hi:t.In p.length (zan p).length) {k:Nat} (h1:1≤k) (h2:k<t.w):thW (sub p t) k=thU (zaj p) t k:=by
 apply Bool.eq_iff_iff.2
 rw [zzh,zzg,zm6 hi]
 constructor
 ·intro h i hi'; have:=h i hi'; rw [zmb hg hi hi' h2,zmb hg hi hi' (by omega)]at this; rw [show t.c+k - 1=t.c+(k - 1) by omega]; exact this
 intro h i hi'; have:=h i hi'; rw [zmb hg hi hi' h2,zmb hg hi hi' (by omega)]; rw [show t.c+k - 1=t.c+(k - 1) by omega]at this; exact this
theorem yb9 (hg:zb7 p=true) (hi:t.In p.length (zan p).length) {k:Nat} (h1:1≤k) (h2:k<t.h):thW (zck (sub p t)) k=thL (zaj p) t k:=by
 apply Bool.eq_iff_iff.2
 rw [zzh,zzf,zjo,zxn hg hi]
 have key:∀ i j,i<t.h→j<t.w→zaj (zck (sub p t)) j i=zaj p (t.r+i) (t.c+j):=fun i j a b=>by
  rw [zx6 (by rw [zm6 hi]; exact a) (by rw [zxn hg hi]; exact b),zmb hg hi a b]
 constructor
 ·intro h j hj; have:=h j hj; rw [key _ _ h2 hj,key _ _ (by omega) hj]at this; rw [show t.r+k - 1=t.r+(k - 1) by omega]; exact this
 intro h j hj; have:=h j hj; rw [key _ _ h2 hj,key _ _ (by omega) hj]; rw [show t.r+k - 1=t.r+(k - 1) by omega]at this; exact this
theorem zmo {f g:Nat→Bool}:∀ {n:Nat},(∀ k,1≤k→k<n→f k=g k)→zu3 f n=zu3 g n
 | 0,_=>rfl
 | n+1,h=>by
  simp only[zu3]
  rw [zmo fun k a b=>h k a (by omega)]
  by_cases hn:1≤n
  ·rw [h n hn (by omega)]
  simp [hn]
theorem z7z (hg:zb7 p=true) (hi:t.In p.length (zan p).length):z7k (sub p t)=match zdl (zaj p) t with | some q=>(if q.1 then 1 else 0,(q.2:Int)) | none=>(0,0):=by
 have hl:=zm6 hi
 have hh:=zxn hg hi
 unfold z7k zdl
 rw [show uprights (sub p t)=zcp (sub p t) (zan (sub p t)).length from rfl,zph (by rw [hl]; exact hi.1),hh,zmo fun k a b=>yca hg hi a b]
 cases zu3 (thU (zaj p) t) t.w with
 | some k=>simp [zjb]
 | none =>
  have h2:=zph (p:=zck (sub p t)) (by rw [zjo,hh]; exact hi.2.1) (zan (zck (sub p t))).length
  rw [zjo,hh,zpe (by rw [hh]; exact hi.2.1),hl,zmo fun k a b=>yb9 hg hi a b]at h2
  simp only[Option.map_none]
  rw [show uprights (zck (sub p t))=zcp (zck (sub p t)) t.h by unfold uprights; rw [zpe (by rw [hh]; exact hi.2.1),hl],h2]
  cases zu3 (thL (zaj p) t) t.h with
  | some k=>simp [zjb]
  | none=>rfl
def zge (p:List Txt) (q:Bool × Nat):List Txt:=if q.1 then p.take q.2 else p.map (·.take q.2)
def zgf (p:List Txt) (q:Bool × Nat):List Txt:=if q.1 then p.drop q.2 else p.map (·.drop q.2)
theorem z60 {q:Bool × Nat} (h:if q.1 then q.2<t.h else q.2<t.w):zge (sub p t) q=sub p (t.one q):=by
 obtain ⟨lv,k⟩:=q
 cases lv with
 | true =>
  simp only[if_true]at h
  simp only[zge,Pt.one,if_true,sub,← List.map_take,List.take_take]
  rw [Nat.min_eq_left (by omega)]
  rfl
 | false =>
  simp only[qF,if_false]at h
  simp only[zge,Pt.one,qF,if_false,sub,List.map_map]
  refine List.map_congr_left fun row _=>?_
  simp only[Function.comp,zjm,List.take_take]
  rw [Nat.min_eq_left (by omega)]
theorem z61 {q:Bool × Nat} (h:if q.1 then q.2<t.h else q.2<t.w):zgf (sub p t) q=sub p (t.two q):=by
 obtain ⟨lv,k⟩:=q
 cases lv with
 | true =>
  simp only[if_true]at h
  simp only[zgf,Pt.two,if_true,sub,← List.map_drop,List.drop_take,List.drop_drop]
  rfl
 | false =>
  simp only[qF,if_false]at h
  simp only[zgf,Pt.two,qF,if_false,sub,List.map_map]
  refine List.map_congr_left fun row _=>?_
  simp only[Function.comp,zjm,List.drop_take,List.drop_drop]
def yae (p:List Txt):Bool:=p.all fun row=>row.all fun c=>decide (some c=(zan p)[0]?)
theorem z0q (hg:zb7 p=true) (hi:t.In p.length (zan p).length):yae (sub p t)=zwf (zaj p) t:=by
 apply Bool.eq_iff_iff.2
 rw [zo1]
 obtain ⟨row0,h1,h2,h3,h4⟩:=zk9 hg hi (i:=0) hi.1
 have hc0:(zjm t row0)[0]?=row0[t.c+0]?:=zik hi.2.1
 obtain ⟨c0,e0,_⟩:=zlm hg h1 (k:=t.c+0) (by have:=hi.2.2.2; have:=hi.2.1; omega)
 rw [e0]at hc0
 have hz0:zaj p t.r t.c=(c0.toNat:Int) - 97:=zc6 (by simpa using h1) (by simpa using e0)
 simp only[yae,List.all_eq_true,decide_eq_true_eq,zb9 h2,hc0,Option.some.injEq]
 constructor
 ·intro h i j hi' hj'
  obtain ⟨row,g1,g2,g3,g4⟩:=zk9 hg hi hi'
  obtain ⟨c,e1,_⟩:=zlm hg g1 (k:=t.c+j) (by have:=hi.2.2.2; omega)
  have:=h _ (List.mem_of_getElem? g2) c (List.mem_of_getElem? ((zik hj').trans e1))
  rw [zc6 g1 e1,hz0,this]
 intro h r hr c hc
 obtain ⟨i,hi'⟩:=List.getElem?_of_mem hr
 have hil:=(List.getElem?_eq_some_iff.1 hi').1
 rw [zm6 hi]at hil
 obtain ⟨row,g1,g2,g3,g4⟩:=zk9 hg hi hil
 rw [g2]at hi'; cases hi'
 obtain ⟨j,hj⟩:=List.getElem?_of_mem hc
 have hjl:=(List.getElem?_eq_some_iff.1 hj).1
 rw [zik (by omega)]at hj
 have:=h i j hil (by omega)
 rw [zc6 g1 hj,hz0]at this
 exact UInt8.toNat_inj.1 (by omega)
end
end
section
def Pt.rect (t:Pt):Rect:=⟨t.r,t.c,t.h,t.w⟩
abbrev ziq (g:List (List Int)) (rs:List Rect) (t:Rect):PV := .agg (za6 g rs::t.cells)
def yd5 (rs:List Rect) (t:Rect) (i:Nat):Bool:=match rs[i]? with | some b=>decide (t.both b=t) | none=>false
def zgg (rs:List Rect) (t:Rect) (k:Nat):List Int:=((List.range k).filter (yd5 rs t)).map fun i:Nat=>(i:Int)
theorem zj3 {rs:List Rect} {t:Rect} {k:Nat} {b:Rect} (h:rs[k]?=some b):zgg rs t (k+1)=if t.both b=t then zgg rs t k++[(k:Int)] else zgg rs t k:=by
 unfold zgg
 rw [qS,List.filter_append,List.map_append]
 simp only[List.filter_cons,List.filter_nil,yd5,h,decide_eq_true_eq]
 split <;> simp
theorem z6e {rs:List Rect} {t:Rect} {k:Nat}:(zgg rs t k).length≤k:=by
 unfold zgg
 rw [List.length_map]
 exact Nat.le_trans (List.length_filter_le _ _) (by simp)
def rms (rs:List Rect) (t:Rect):List Int:=zgg rs t rs.length
section
variable {p:List Txt} {t:Pt}
theorem zyv (hp:zbc p=true):yaz (zaj p) p.length (zan p).length:=by
 intro i j i' j' k l hi hi' hj hj' he h1 h2 h3 h4
 obtain ⟨b,hb,hin,_,hall⟩:=zlx hp hi hj
 obtain ⟨b',hb',hin',_,_⟩:=zlx hp hi' hj'
 rw [← he,hb]at hb'
 cases hb'
 refine hall k l (by omega) (by omega) ?_
 simp only[inB,qB,decide_eq_true_eq]at hin hin' ⊢
 omega
theorem zxv (hp:zbc p=true):Whole (zaj p) p.length (zan p).length ⟨0,0,p.length,(zan p).length⟩:=by
 have hsm:=za3 (zc8 hp)
 obtain ⟨row0,h0,hm0⟩:=zaf hsm.1
 have hw:=zfc (zc8 hp) h0
 rw [← zb9 h0]at hw
 exact ⟨⟨hsm.1,hw,by simp,by simp⟩,fun i j i' j' a b c d _ _ _ _ _=>by simp only; omega⟩
theorem zsr (hp:zbc p=true) (ht:Whole (zaj p) p.length (zan p).length t) {i:Nat} {b:Rect} (hb:(rP p)[i]?=some b) :
  t.rect.both b=t.rect↔∃ a c,t.r≤a∧a<t.r+t.h∧t.c≤c∧c<t.c+t.w∧zaj p a c=i:=by
 have hh:=(zds hp).rect hb
 obtain ⟨a1,c1,p1,e1⟩:=hh.at_
 obtain ⟨a2,c2,p2,e2⟩:=hh.al
 obtain ⟨a3,c3,p3,e3⟩:=hh.ao
 obtain ⟨a4,c4,p4,e4⟩:=hh.ar
 have q1:=hh.inn _ _ p1
 obtain ⟨v1,g1⟩:=p1
 obtain ⟨v2,g2⟩:=p2
 obtain ⟨v3,g3⟩:=p3
 obtain ⟨v4,g4⟩:=p4
 unfold Gone at g1 g2 g3 g4
 constructor
 ·intro h
  refine ⟨a1,c1,?_⟩
  simp only[Rect.both,Pt.rect,Rect.mk.injEq]at h
  refine ⟨by omega,by omega,by omega,by omega,v1⟩
 rintro ⟨a,c,h1,h2,h3,h4,hv⟩
 have hin:=ht.inn
 unfold Pt.In at hin
 have k1:=ht.all a c a1 c1 (by omega) (by omega) (by omega) (by omega) (hv.trans v1.symm) h1 h2 h3 h4
 have k2:=ht.all a c a2 c2 (by omega) (by omega) (by omega) (by omega) (hv.trans v2.symm) h1 h2 h3 h4
 have k3:=ht.all a c a3 c3 (by omega) (by omega) (by omega) (by omega) (hv.trans v3.symm) h1 h2 h3 h4
 have k4:=ht.all a c a4 c4 (by omega) (by omega) (by omega) (by omega) (hv.trans v4.symm) h1 h2 h3 h4
 simp only[Rect.both,Pt.rect,Rect.mk.injEq]
 omega
theorem zlg (hp:zbc p=true) {i j:Nat} (hi:i<p.length) (hj:j<(zan p).length):0≤zaj p i j∧zaj p i j<(rP p).length:=(zds hp).room hi hj
theorem zua (hp:zbc p=true) (ht:Whole (zaj p) p.length (zan p).length t) {x:Int} :
  x∈rms (rP p) t.rect↔∃ a c,t.r≤a∧a<t.r+t.h∧t.c≤c∧c<t.c+t.w∧zaj p a c=x:=by
 have hin:=ht.inn
 unfold Pt.In at hin
 simp only[rms,zgg,List.mem_map,List.mem_filter,List.mem_range]
 constructor
 ·rintro ⟨i,⟨hi,hb⟩,rfl⟩
  obtain ⟨b,hb',_⟩:=zaf hi
  simp only[yd5,hb',decide_eq_true_eq]at hb
  exact (zsr hp ht hb').1 hb
 rintro ⟨a,c,h1,h2,h3,h4,hv⟩
 have hr:=zlg hp (i:=a) (j:=c) (by omega) (by omega)
 rw [hv]at hr
 obtain ⟨b,hb',_⟩:=zaf (show x.toNat<(rP p).length by omega)
 refine ⟨x.toNat,⟨by omega,?_⟩,by omega⟩
 simp only[yd5,hb',decide_eq_true_eq]
 exact (zsr hp ht hb').2 ⟨a,c,h1,h2,h3,h4,by omega⟩
theorem z6f {rs:List Rect} {t:Rect}:(rms rs t).Nodup:=by
 unfold rms zgg
 rw [List.nodup_iff_pairwise_ne,List.pairwise_map]
 exact ((List.nodup_iff_pairwise_ne.1 List.nodup_range).filter _).imp fun h e=>h (Int.ofNat.inj e)
theorem yb0 (hp:zbc p=true) (ht:Whole (zaj p) p.length (zan p).length t) (h:zwf (zaj p) t=true):rms (rP p) t.rect=[zaj p t.r t.c]:=by
 have hall:=zo1.1 h
 have hin:=ht.inn
 unfold Pt.In at hin
 have hm:∀ x,x∈rms (rP p) t.rect↔x=zaj p t.r t.c:=by
  intro x
  rw [zua hp ht]
  constructor
  ·rintro ⟨a,c,h1,h2,h3,h4,rfl⟩
   have:=hall (a - t.r) (c - t.c) (by omega) (by omega)
   rwa [show t.r+(a - t.r)=a by omega,show t.c+(c - t.c)=c by omega]at this
  rintro rfl
  exact ⟨t.r,t.c,by omega,by omega,by omega,by omega,rfl⟩
 have hn:=z6f (rs:=rP p) (t:=t.rect)
 match hl:rms (rP p) t.rect,hm,hn with
 | [],hm,_=>exact absurd ((hm _).2 rfl) (by simp)
 | [x],hm,_=>rw [(hm x).1 (by simp)]
 | x::y::l,hm,hn =>
  have h1:=(hm x).1 (by simp)
  have h2:=(hm y).1 (by simp)
  rw [h1,h2]at hn
  simp at hn
theorem z82 (hp:zbc p=true) (ht:Whole (zaj p) p.length (zan p).length t) (h:zwf (zaj p) t=false):2≤(rms (rP p) t.rect).length:=by
 have hin:=ht.inn
 unfold Pt.In at hin
 have hno:¬ ∀ i j,i<t.h→j<t.w→zaj p (t.r+i) (t.c+j)=zaj p t.r t.c:=by
  intro hc; rw [zo1.2 hc]at h; cases h
 match hl:rms (rP p) t.rect with
 | [] =>
  have:zaj p t.r t.c∈rms (rP p) t.rect:=(zua hp ht).2 ⟨t.r,t.c,by omega,by omega,by omega,by omega,rfl⟩
  rw [hl]at this; simp at this
 | [x] =>
  exfalso
  apply hno
  intro i j hi hj
  have h1:zaj p (t.r+i) (t.c+j)∈rms (rP p) t.rect:=(zua hp ht).2 ⟨t.r+i,t.c+j,by omega,by omega,by omega,by omega,rfl⟩
  have h2:zaj p t.r t.c∈rms (rP p) t.rect:=(zua hp ht).2 ⟨t.r,t.c,by omega,by omega,by omega,by omega,rfl⟩
  rw [hl]at h1 h2
  simp at h1 h2
  omega
 | x::y::l=>simp
end
def thG (g:List (List Int)) (t:Pt) (level:Bool) (line:Nat):Bool:=if level then (List.range t.w).all fun j=>zne g true line (t.c+j) else (List.range t.h).all fun i=>zne g false line (t.r+i)
theorem ye1 {p:List Txt} (hp:zbc p=true) {t:Pt} (ht:t.In p.length (zan p).length) {k:Nat} (h1:1≤k) (h2:k<t.w):thG (gP p) t false (t.c+k)=thU (zaj p) t k:=by
 have hN:=zds hp
 obtain ⟨i1,i2,i3,i4⟩:=ht
 apply Bool.eq_iff_iff.2
 rw [zzg]
 simp only[thG,qF,if_false,List.all_eq_true,List.mem_range,zne,zcj,decide_eq_true_eq]
 constructor
 ·intro h i hi
  have:=h i hi
  rwa [hN.cell (by omega) (by omega),hN.cell (by omega) (by omega)]at this
 intro h i hi
 have:=h i hi
 rwa [hN.cell (by omega) (by omega),hN.cell (by omega) (by omega)]
theorem ye0 {p:List Txt} (hp:zbc p=true) {t:Pt} (ht:t.In p.length (zan p).length) {k:Nat} (h1:1≤k) (h2:k<t.h):thG (gP p) t true (t.r+k)=thL (zaj p) t k:=by
 have hN:=zds hp
 obtain ⟨i1,i2,i3,i4⟩:=ht
 apply Bool.eq_iff_iff.2
 rw [zzf]
 simp only[thG,if_true,List.all_eq_true,List.mem_range,zne,zcj,decide_eq_true_eq]
 constructor
 ·intro h i hi
  have:=h i hi
  rwa [hN.cell (by omega) (by omega),hN.cell (by omega) (by omega)]at this
 intro h i hi
 have:=h i hi
 rwa [hN.cell (by omega) (by omega),hN.cell (by omega) (by omega)]
def zqo (g:List (List Int)) (rs:List Rect) (lv:Bool) (x y:Rect):List PV := .bool lv::(za6 g rs::x.cells)++(za6 g rs::y.cells)
abbrev zz5 (g:List (List Int)) (rs:List Rect) (t:Pt) (q:Bool × Nat):PV := .agg (zqo g rs q.1 (t.one q).rect (t.two q).rect)
end
section
def zdc (z:Nat→Nat→Int) (t:Pt):Option CT:=tree z (t.h*t.w) t
section
variable {z:Nat→Nat→Int} {H W:Nat} {t:Pt}
theorem zjr (h:t.In H W):t.h*t.w=(t.h*t.w - 1)+1:=by have:=Nat.mul_pos h.1 h.2.1; omega
theorem zmc (h:t.In H W) (h1:zwf z t=true):zdc z t=some (.leaf (z t.r t.c)):=by
 unfold zdc; rw [zjr h,tree,if_pos h1]
theorem zj9 (h:t.In H W) (h1:zwf z t=false) (h2:zdl z t=none):zdc z t=none:=by
 unfold zdc; rw [zjr h,tree,h1,h2]; rfl
theorem zil (h:t.In H W) (h1:zwf z t=false) {q:Bool × Nat} (h2:zdl z t=some q):zdc z t=match zdc z (t.one q),zdc z (t.two q) with | some x,some y=>some (.node q.1 x y) | _,_=>none:=by
 obtain ⟨i1,i2,a1,a2⟩:=h.cut h2
 have:=zjr h
 rw [show zdc z t=tree z ((t.h*t.w - 1)+1) t by unfold zdc; rw [← this]]
 simp only[tree,h1,h2,qF,if_false]
 unfold zdc
 rw [zmd (z:=z) _ i1 (qR _) (f:=t.h*t.w - 1) (g:=(t.one q).h*(t.one q).w) (by omega) (qR _),zmd (z:=z) _ i2 (qR _) (f:=t.h*t.w - 1) (g:=(t.two q).h*(t.two q).w) (by omega) (qR _)]
 all_goals (cases tree z ((t.one q).h*(t.one q).w) (t.one q) <;> cases tree z ((t.two q).h*(t.two q).w) (t.two q) <;> rfl)
def z3g (z:Nat→Nat→Int):Nat→Pt→Txt × Bool
 | 0,_=>([],false)
 | f+1,t=>if zwf z t then ([UInt8.ofNat (z t.r t.c+65).toNat],true) else
  match zdl z t with
  | none=>([],false)
  | some q=>((if q.1 then [104] else [118])++(z3g z f (t.one q)).1++(z3g z f (t.two q)).1,(z3g z f (t.one q)).2 && (z3g z f (t.two q)).2)
theorem zpg:∀ (n:Nat) {t:Pt} {f g:Nat},t.In H W→t.h*t.w≤n→t.h*t.w≤f→t.h*t.w≤g→z3g z f t=z3g z g t
 | 0,t,f,g,hi,hn,_,_=>by have:=Nat.mul_pos hi.1 hi.2.1; omega
 | n+1,t,f,g,hi,hn,hf,hg=>by
  have:=Nat.mul_pos hi.1 hi.2.1
  obtain ⟨f,rfl⟩:∃ f',f=f'+1:=⟨f - 1,by omega⟩
  obtain ⟨g,rfl⟩:∃ g',g=g'+1:=⟨g - 1,by omega⟩
  simp only[z3g]
  split
  ·rfl
  cases hc:zdl z t with
  | none=>rfl
  | some q =>
   obtain ⟨i1,i2,a1,a2⟩:=hi.cut hc
   simp only
   rw [zpg n i1 (f:=f) (g:=g) (by omega) (by omega) (by omega),zpg n i2 (f:=f) (g:=g) (by omega) (by omega) (by omega)]
def zpf (z:Nat→Nat→Int) (t:Pt):Txt × Bool:=z3g z (t.h*t.w) t
theorem zuw (h:t.In H W) (h1:zwf z t=true):zpf z t=([UInt8.ofNat (z t.r t.c+65).toNat],true):=by
 unfold zpf; rw [zjr h,z3g,if_pos h1]
theorem zxs (h:t.In H W) (h1:zwf z t=false) (h2:zdl z t=none):zpf z t=([],false):=by
 unfold zpf; rw [zjr h,z3g,h1,h2]; rfl
theorem zka (h:t.In H W) (h1:zwf z t=false) {q:Bool × Nat} (h2:zdl z t=some q) :
  zpf z t=((if q.1 then [104] else [118])++(zpf z (t.one q)).1++(zpf z (t.two q)).1,(zpf z (t.one q)).2 && (zpf z (t.two q)).2):=by
 obtain ⟨i1,i2,a1,a2⟩:=h.cut h2
 have:=zjr h
 rw [show zpf z t=z3g z ((t.h*t.w - 1)+1) t by unfold zpf; rw [← this]]
 simp only[z3g,h1,h2,qF,if_false]
 unfold zpf
 rw [zpg (z:=z) _ i1 (qR _) (f:=t.h*t.w - 1) (g:=(t.one q).h*(t.one q).w) (by omega) (qR _),zpg (z:=z) _ i2 (qR _) (f:=t.h*t.w - 1) (g:=(t.two q).h*(t.two q).w) (by omega) (qR _)]
theorem zzv {q:Bool × Nat} (h2:zdl z t=some q):(t.one q).h*(t.one q).w+(t.two q).h*(t.two q).w=t.h*t.w:=by
 obtain ⟨h1,h3⟩:=zgi h2
 obtain ⟨lv,k⟩:=q
 cases lv with
 | true =>
  simp only[if_true]at h3
  simp only[Pt.one,Pt.two,if_true]
  rw [← Nat.add_mul,show k+(t.h - k)=t.h by omega]
 | false =>
  simp only[qF,if_false]at h3
  simp only[Pt.one,Pt.two,qF,if_false]
  rw [← Nat.mul_add,show k+(t.w - k)=t.w by omega]
theorem ze5:∀ (n:Nat) {t:Pt},t.In H W→t.h*t.w≤n→(zpf z t).1.length+1≤2*(t.h*t.w)∧(zpf z t).2=(zdc z t).isSome
 | 0,t,hi,hn=>by have:=Nat.mul_pos hi.1 hi.2.1; omega
 | n+1,t,hi,hn=>by
  have:=Nat.mul_pos hi.1 hi.2.1
  cases h1:zwf z t with
  | true=>rw [zuw hi h1,zmc hi h1]; simp; omega
  | false =>
   cases hc:zdl z t with
   | none=>rw [zxs hi h1 hc,zj9 hi h1 hc]; simp; omega
   | some q =>
    obtain ⟨i1,i2,a1,a2⟩:=hi.cut hc
    have ha:=zzv hc
    obtain ⟨b1,b2⟩:=ze5 n i1 (by omega)
    obtain ⟨c1,c2⟩:=ze5 n i2 (by omega)
    have p1:=Nat.mul_pos i1.1 i1.2.1
    rw [zka hi h1 hc,zil hi h1 hc]
    constructor
    ·simp only[List.length_append]
     have:(if q.1 then [(104:UInt8)] else [118]).length=1:=by split <;> rfl
     omega
    rw [b2,c2]
    cases zdc z (t.one q) <;> cases zdc z (t.two q) <;> rfl
def CT.leaves:CT→List Int
 | .leaf a=>[a]
 | .node _ x y=>x.leaves++y.leaves
theorem CT.pos (x:CT):1≤x.leaves.length:=by
 induction x with
 | leaf a=>simp [CT.leaves]
 | node lv x y h1 h2=>simp [CT.leaves]; omega
theorem zla (hz:yaz z H W):∀ (n:Nat) {t:Pt} {x:CT},Whole z H W t→t.h*t.w≤n→zdc z t=some x →
  x.leaves.Nodup∧(∀ v,v∈x.leaves↔∃ a c,t.r≤a∧a<t.r+t.h∧t.c≤c∧c<t.c+t.w∧z a c=v)∧x.leaves.length≤t.h*t.w
 | 0,t,x,hw,hn,_=>by have:=Nat.mul_pos hw.inn.1 hw.inn.2.1; omega
 | n+1,t,x,hw,hn,hx=>by
  have hi:=hw.inn
  have hpos:=Nat.mul_pos hi.1 hi.2.1
  cases h1:zwf z t with
  | true =>
   rw [zmc hi h1]at hx
   cases hx
   have hall:=zo1.1 h1
   refine ⟨by simp [CT.leaves],fun v=>?_,by simp [CT.leaves]; omega⟩
   simp only[CT.leaves,List.mem_singleton]
   constructor
   ·rintro rfl; exact ⟨t.r,t.c,by omega,by have:=hi.1; omega,by omega,by have:=hi.2.1; omega,rfl⟩
   rintro ⟨a,c,e1,e2,e3,e4,rfl⟩
   have:=hall (a - t.r) (c - t.c) (by omega) (by omega)
   rwa [show t.r+(a - t.r)=a by omega,show t.c+(c - t.c)=c by omega]at this
  | false =>
   cases hc:zdl z t with
   | none=>rw [zj9 hi h1 hc]at hx; cases hx
   | some q =>
    obtain ⟨i1,i2,a1,a2⟩:=hi.cut hc
    obtain ⟨w1,w2⟩:=hw.cut hz hc
    have ha:=zzv hc
    rw [zil hi h1 hc]at hx
    cases hx1:zdc z (t.one q) with
    | none=>rw [hx1]at hx; cases hx
    | some x1 =>
     cases hx2:zdc z (t.two q) with
     | none=>rw [hx1,hx2]at hx; cases hx
     | some x2 =>
      rw [hx1,hx2]at hx
      cases hx
      obtain ⟨b1,b2,b3⟩:=zla hz n w1 (by omega) hx1
      obtain ⟨c1,c2,c3⟩:=zla hz n w2 (by omega) hx2
      obtain ⟨k1,k2⟩:=zgi hc
      refine ⟨?_,fun v=>?_,by simp [CT.leaves]; omega⟩
      ·simp only[CT.leaves,List.nodup_append]
       refine ⟨b1,c1,fun v hv u hu e=>?_⟩
       subst e
       obtain ⟨a,c,e1,e2,e3,e4,e5⟩:=(b2 v).1 hv
       obtain ⟨a',c',f1,f2,f3,f4,f5⟩:=(c2 v).1 hu
       have hin1:=i1; have hin2:=i2
       unfold Pt.In at hin1 hin2
       have:=w1.all a c a' c' (by omega) (by omega) (by omega) (by omega) (e5.trans f5.symm) e1 e2 e3 e4
       obtain ⟨lv,k⟩:=q
       cases lv <;> simp only[Pt.one,Pt.two,qF,if_false,if_true] at * <;> omega
      simp only[CT.leaves,List.mem_append,b2,c2]
      obtain ⟨lv,k⟩:=q
      cases lv with
      | true =>
       simp only[Pt.one,Pt.two,if_true] at *
       constructor
       ·rintro (⟨a,c,e1,e2,e3,e4,e5⟩ | ⟨a,c,e1,e2,e3,e4,e5⟩)
        ·exact ⟨a,c,e1,by omega,e3,e4,e5⟩
        exact ⟨a,c,by omega,by omega,e3,e4,e5⟩
       rintro ⟨a,c,e1,e2,e3,e4,e5⟩
       rcases Nat.lt_or_ge a (t.r+k) with h | h
       ·exact .inl ⟨a,c,e1,h,e3,e4,e5⟩
       exact .inr ⟨a,c,h,by omega,e3,e4,e5⟩
      | false =>
       simp only[Pt.one,Pt.two,qF,if_false] at *
       constructor
       ·rintro (⟨a,c,e1,e2,e3,e4,e5⟩ | ⟨a,c,e1,e2,e3,e4,e5⟩)
        ·exact ⟨a,c,e1,e2,e3,by omega,e5⟩
        exact ⟨a,c,e1,e2,by omega,by omega,e5⟩
       rintro ⟨a,c,e1,e2,e3,e4,e5⟩
       rcases Nat.lt_or_ge c (t.c+k) with h | h
       ·exact .inl ⟨a,c,e1,e2,e3,h,e5⟩
       exact .inr ⟨a,c,e1,e2,h,by omega,e5⟩
end
theorem zuc:∀ {n:Nat} {l:List Int},l.Nodup→(∀ x∈l,0≤x∧x<n)→l.length≤n
 | 0,l,_,hb=>by
  cases l with
  | nil=>simp
  | cons a l=>have:=hb a (by simp); omega
 | n+1,l,h,hb=>by
  by_cases hm:(n:Int)∈l
  ·obtain ⟨l1,l2,rfl⟩:=List.append_of_mem hm
   have hnd:=List.nodup_append.1 h
   have:=zuc (n:=n) (l:=l1++l2) (h.sublist (by simp)) fun x hx=>by
    have h1:=hb x (by rcases List.mem_append.1 hx with h9 | h9 <;> simp [h9])
    have h2:x≠n:=by
     rintro rfl
     rcases List.mem_append.1 hx with h9 | h9
     ·exact hnd.2.2 _ h9 _ (by simp) rfl
     exact (List.nodup_cons.1 hnd.2.1).1 h9
    omega
   simp at this ⊢; omega
  have:=zuc (n:=n) h fun x hx=>by
   have h1:=hb x hx
   have h2:x≠n:=by rintro rfl; exact hm hx
   omega
  omega
end
section
section
variable {c:Nat→Nat→Nat} {H W:Nat}
def ydt (c:Nat→Nat→Nat) (t:Pt) (i j:Nat):Nat:=c (t.r+i) (t.c+j)
theorem Pl.sub (h:Pl c H W) {t:Pt} (ht:t.In H W):Pl (ydt c t) t.h t.w:=by
 obtain ⟨t1,t2,t3,t4⟩:=ht
 constructor
 ·intro i j i' j' k l a b c' d e f1 f2 f3 f4
  exact h.rect (t.r+k) (t.c+l) (by omega) (by omega) (by omega) (by omega) e (by omega) (by omega) (by omega) (by omega)
 intro i j a b e1 e2 e3
 exact h.plain (i:=t.r+i) (j:=t.c+j) (by omega) (by omega) e1 e2 e3
theorem DL.sub {t:Pt} (ht:t.In H W) {a b:Nat} (h:DL (ydt c t) t.h t.w a b):DL c H W a b:=by
 obtain ⟨t1,t2,t3,t4⟩:=ht
 obtain ⟨j,i1,i2,a1,a2,a3,a4,a5,a6⟩:=h
 refine ⟨t.c+j,t.r+i1,t.r+i2,by omega,by omega,by omega,fun r h1 h2=>?_,a5,a6⟩
 have:=a4 (r - t.r) (by omega) (by omega)
 simp only[ydt]at this
 rwa [show t.r+(r - t.r)=r by omega]at this
theorem DU.sub {t:Pt} (ht:t.In H W) {a b:Nat} (h:DU (ydt c t) t.h t.w a b):DU c H W a b:=by
 obtain ⟨t1,t2,t3,t4⟩:=ht
 obtain ⟨i,j1,j2,a1,a2,a3,a4,a5,a6⟩:=h
 refine ⟨t.r+i,t.c+j1,t.c+j2,by omega,by omega,by omega,fun r h1 h2=>?_,a5,a6⟩
 have:=a4 (r - t.c) (by omega) (by omega)
 simp only[ydt]at this
 rwa [show t.c+(r - t.c)=r by omega]at this
end
section
variable {p:List Txt}
end
inductive Ch (M:List (List Bool)) (ws:List Int) (a:Nat):Nat→Int→Prop
 | one:Ch M ws a a (zjb ws a)
 | snoc {b d:Nat} {s:Int}:Ch M ws a b s→zcq M b d=true→Ch M ws a d (s+zjb ws d)
section
variable {M:List (List Bool)} {ws:List Int} {n:Nat} {rk:Nat→Nat}
theorem Ch.le (hu:Up M n rk) (hsq:∀ a b,zcq M a b=true→a<n) {a b:Nat} {s:Int} (h:Ch M ws a b s):b<n→s≤HB M ws n b:=by
 induction h with
 | one=>intro hb; rw [z9o hu hb]; have:=yc2 (M:=M) (ws:=ws) (n:=n) a; omega
 | snoc k hk ih =>
  intro hb
  have h1:=ih (hsq _ _ hk)
  have h2:=yc1 (ws:=ws) (hsq _ _ hk) hk
  rw [z9o hu hb]; omega
end
section
variable {p:List Txt}
end
end
section
inductive Sp (L U:Nat→Nat→Prop):(Nat→Prop)→Prop
 | one {A:Nat→Prop} (a:Nat):A a→(∀ b,A b→b=a)→Sp L U A
 | left {A:Nat→Prop} (B:Nat→Prop):(∃ a,A a∧B a)→(∃ a,A a∧¬ B a)→(∀ a b,A a→B a→A b→¬ B b→L a b)→Sp L U (fun a=>A a∧B a)→Sp L U (fun a=>A a∧¬ B a)→Sp L U A
 | up {A:Nat→Prop} (B:Nat→Prop):(∃ a,A a∧B a)→(∃ a,A a∧¬ B a)→(∀ a b,A a→B a→A b→¬ B b→U a b)→Sp L U (fun a=>A a∧B a)→Sp L U (fun a=>A a∧¬ B a)→Sp L U A
theorem Sp.congr {L U:Nat→Nat→Prop} {A A':Nat→Prop} (h:Sp L U A) (e:∀ a,A a↔A' a):Sp L U A':=by
 have:A=A':=funext fun a=>propext (e a)
 rwa [← this]
theorem Sp.ne {L U:Nat→Nat→Prop} {A:Nat→Prop} (h:Sp L U A):∃ a,A a:=by
 cases h with
 | one a h _=>exact ⟨a,h⟩
 | left B h=>obtain ⟨a,h,_⟩:=h; exact ⟨a,h⟩
 | up B h=>obtain ⟨a,h,_⟩:=h; exact ⟨a,h⟩
theorem Sp.map {L U L' U':Nat→Nat→Prop} {A:Nat→Prop} (g:Nat→Nat) (h:Sp L U A):∀ {A':Nat→Prop},(∀ i,A' i→A (g i))→(∀ a,A a→∃ i,A' i∧g i=a)→(∀ i j,A' i→A' j→g i=g j→i=j) →
  (∀ i j,A' i→A' j→L (g i) (g j)→L' i j)→(∀ i j,A' i→A' j→U (g i) (g j)→U' i j)→Sp L' U' A':=by
 induction h with
 | one a ha hu =>
  intro A' h1 h2 h3 h4 h5
  obtain ⟨i,hi,e⟩:=h2 a ha
  exact .one i hi fun j hj=>h3 j i hj hi ((hu _ (h1 j hj)).trans e.symm)
 | left B hb hn hl _ _ i1 i2 =>
  intro A' h1 h2 h3 h4 h5
  refine .left (fun i=>B (g i)) ?_ ?_ (fun a b ha hba hb' hnb=>h4 a b ha hb' (hl _ _ (h1 a ha) hba (h1 b hb') hnb)) (i1 (fun i hi=>⟨h1 i hi.1,hi.2⟩) (fun a ha=>?_) (fun i j hi hj=>h3 i j hi.1 hj.1) (fun i j hi hj=>h4 i j hi.1 hj.1) fun i j hi hj=>h5 i j hi.1 hj.1)
   (i2 (fun i hi=>⟨h1 i hi.1,hi.2⟩) (fun a ha=>?_) (fun i j hi hj=>h3 i j hi.1 hj.1) (fun i j hi hj=>h4 i j hi.1 hj.1) fun i j hi hj=>h5 i j hi.1 hj.1)
  ·obtain ⟨a,ha,hb⟩:=hb; obtain ⟨i,hi,e⟩:=h2 a ha; exact ⟨i,hi,by rw [e]; exact hb⟩
  ·obtain ⟨a,ha,hb⟩:=hn; obtain ⟨i,hi,e⟩:=h2 a ha; exact ⟨i,hi,by rw [e]; exact hb⟩
  ·obtain ⟨i,hi,e⟩:=h2 a ha.1; exact ⟨i,⟨hi,by rw [e]; exact ha.2⟩,e⟩
  obtain ⟨i,hi,e⟩:=h2 a ha.1; exact ⟨i,⟨hi,by rw [e]; exact ha.2⟩,e⟩
 | up B hb hn hl _ _ i1 i2 =>
  intro A' h1 h2 h3 h4 h5
  refine .up (fun i=>B (g i)) ?_ ?_ (fun a b ha hba hb' hnb=>h5 a b ha hb' (hl _ _ (h1 a ha) hba (h1 b hb') hnb)) (i1 (fun i hi=>⟨h1 i hi.1,hi.2⟩) (fun a ha=>?_) (fun i j hi hj=>h3 i j hi.1 hj.1) (fun i j hi hj=>h4 i j hi.1 hj.1) fun i j hi hj=>h5 i j hi.1 hj.1)
   (i2 (fun i hi=>⟨h1 i hi.1,hi.2⟩) (fun a ha=>?_) (fun i j hi hj=>h3 i j hi.1 hj.1) (fun i j hi hj=>h4 i j hi.1 hj.1) fun i j hi hj=>h5 i j hi.1 hj.1)
  ·obtain ⟨a,ha,hb⟩:=hb; obtain ⟨i,hi,e⟩:=h2 a ha; exact ⟨i,hi,by rw [e]; exact hb⟩
  ·obtain ⟨a,ha,hb⟩:=hn; obtain ⟨i,hi,e⟩:=h2 a ha; exact ⟨i,hi,by rw [e]; exact hb⟩
  ·obtain ⟨i,hi,e⟩:=h2 a ha.1; exact ⟨i,⟨hi,by rw [e]; exact ha.2⟩,e⟩
  obtain ⟨i,hi,e⟩:=h2 a ha.1; exact ⟨i,⟨hi,by rw [e]; exact ha.2⟩,e⟩
theorem Sp.sub {L U:Nat→Nat→Prop} {A:Nat→Prop} (h:Sp L U A):∀ {A':Nat→Prop},(∀ a,A' a→A a)→(∃ a,A' a)→Sp L U A':=by
 induction h with
 | one a ha hu =>
  intro A' h1 ⟨b,hb⟩
  exact .one b hb fun d hd=>(hu d (h1 d hd)).trans (hu b (h1 b hb)).symm
 | left B _ _ hl _ _ i1 i2 =>
  intro A' h1 h2
  by_cases hb:∃ a,A' a∧B a
  ·by_cases hn:∃ a,A' a∧¬ B a
   ·exact .left B hb hn (fun a b ha hba hb' hnb=>hl a b (h1 a ha) hba (h1 b hb') hnb) (i1 (fun a ha=>⟨h1 a ha.1,ha.2⟩) hb) (i2 (fun a ha=>⟨h1 a ha.1,ha.2⟩) hn)
   exact i1 (fun a ha=>⟨h1 a ha,Classical.byContradiction fun h=>hn ⟨a,ha,h⟩⟩) h2
  exact i2 (fun a ha=>⟨h1 a ha,fun h=>hb ⟨a,ha,h⟩⟩) h2
 | up B _ _ hl _ _ i1 i2 =>
  intro A' h1 h2
  by_cases hb:∃ a,A' a∧B a
  ·by_cases hn:∃ a,A' a∧¬ B a
   ·exact .up B hb hn (fun a b ha hba hb' hnb=>hl a b (h1 a ha) hba (h1 b hb') hnb) (i1 (fun a ha=>⟨h1 a ha.1,ha.2⟩) hb) (i2 (fun a ha=>⟨h1 a ha.1,ha.2⟩) hn)
   exact i1 (fun a ha=>⟨h1 a ha,Classical.byContradiction fun h=>hn ⟨a,ha,h⟩⟩) h2
  exact i2 (fun a ha=>⟨h1 a ha,fun h=>hb ⟨a,ha,h⟩⟩) h2
section
variable {p:List Txt}
end
end
section
section
variable {c:Nat→Nat→Nat} {H W:Nat}
theorem DU.rows (h:Pl c H W) {u v:Nat} (hd:DU c H W u v) {i j i' j':Nat} (hi:i<H) (hj:j<W) (hi':i'<H) (hj':j'<W) (hu:c i j=u) (hv:c i' j'=v):i<i':=by
 obtain ⟨l,j1,j2,a1,a2,a3,a4,a5,a6⟩:=hd
 have k1:i≤l:=by
  refine Nat.le_of_not_lt fun hlt=>a4 j1 (by omega) (by omega) ?_
  have:=h.rect (i:=i) (j:=j) (i':=l) (j':=j1) (l+1) j1 hi (by omega) hj a2 (by rw [hu,a5]) (by omega) (by omega) (by omega) (by omega)
  rw [this,hu,a5]
 have k2:l+1≤i':=by
  refine Nat.le_of_not_lt fun hlt=>a4 j2 (by omega) (by omega) ?_
  have:=h.rect (i:=i') (j:=j') (i':=l+1) (j':=j2) l j2 hi' (by omega) hj' a3 (by rw [hv,a6]) (by omega) (by omega) (by omega) (by omega)
  rw [this,hv,a6]
 omega
theorem TCU.rows (h:Pl c H W) {u v:Nat} (hd:TC (DU c H W) u v):∀ {i j i' j':Nat},i<H→j<W→i'<H→j'<W→c i j=u→c i' j'=v→i<i':=by
 induction hd with
 | one hd=>exact DU.rows h hd
 | tail _ k ih =>
  intro i j i' j' hi hj hi' hj' hu hv
  obtain ⟨l,j1,j2,a1,a2,a3,a4,a5,a6⟩:=id k
  have h1:=ih hi hj (show l<H by omega) a2 hu a5.symm
  have h2:=DU.rows h k (show l<H by omega) a2 hi' hj' a5.symm hv
  omega
end
section
variable {p:List Txt}
theorem DL.lt (hp:zhc p=true) {a b:Nat} (h:DL (cn (gP p)) p.length (zan p).length a b):a<(rP p).length∧b<(rP p).length:=by
 obtain ⟨j,i1,i2,h1,h2,h3,-,rfl,rfl⟩:=h
 exact ⟨zq8 zir h2 (by omega),zq8 zir h3 h1⟩
theorem DU.lt (hp:zhc p=true) {a b:Nat} (h:DU (cn (gP p)) p.length (zan p).length a b):a<(rP p).length∧b<(rP p).length:=by
 obtain ⟨j,i1,i2,h1,h2,h3,-,rfl,rfl⟩:=h
 exact ⟨zq8 zir (by omega) h2,zq8 zir h1 h3⟩
end
end
section
def Tight (a b c d:Int):Prop:=(c<a∧a<d∧d<b)∨(b<d∧d<a∧a<c)
def Avoid (v:Nat→Int) (A:Nat→Prop):Prop:=∀ a b c d,A a→A b→A c→A d→a<b→b<c→c<d→¬ Tight (v a) (v b) (v c) (v d)
def Inj (v:Nat→Int) (A:Nat→Prop):Prop:=∀ a b,A a→A b→v a=v b→a=b
def LS (v:Nat→Int) (A B:Nat→Prop):Prop:=(∃ a,A a∧B a)∧(∃ a,A a∧¬ B a)∧∀ a b,A a→B a→A b→¬ B b→a<b∧v a<v b
def DS (v:Nat→Int) (A B:Nat→Prop):Prop:=(∃ a,A a∧B a)∧(∃ a,A a∧¬ B a)∧∀ a b,A a→B a→A b→¬ B b→a<b∧v b<v a
theorem LS.neg {v:Nat→Int} {A B:Nat→Prop} (h:LS (fun i => -v i) A B):DS v A B :=
 ⟨h.1,h.2.1,fun a b h1 h2 h3 h4=>by have:=h.2.2 a b h1 h2 h3 h4; simp only at this; omega⟩
theorem DS.neg {v:Nat→Int} {A B:Nat→Prop} (h:DS (fun i => -v i) A B):LS v A B :=
 ⟨h.1,h.2.1,fun a b h1 h2 h3 h4=>by have:=h.2.2 a b h1 h2 h3 h4; simp only at this; omega⟩
theorem DS.pos {v:Nat→Int} {A B:Nat→Prop} (h:DS v A B):LS (fun i => -v i) A B :=
 ⟨h.1,h.2.1,fun a b h1 h2 h3 h4=>by have:=h.2.2 a b h1 h2 h3 h4; refine ⟨this.1,?_⟩; show -v a < -v b; omega⟩
theorem Avoid.neg {v:Nat→Int} {A:Nat→Prop} (h:Avoid v A):Avoid (fun i => -v i) A:=fun a b c d h1 h2 h3 h4 h5 h6 h7 k =>
 h a b c d h1 h2 h3 h4 h5 h6 h7 (by unfold Tight at k ⊢; simp only at k; omega)
theorem Inj.neg {v:Nat→Int} {A:Nat→Prop} (h:Inj v A):Inj (fun i => -v i) A:=fun a b h1 h2 h3=>h a b h1 h2 (by simp only at h3; omega)
theorem Avoid.sub {v:Nat→Int} {A A':Nat→Prop} (h:Avoid v A) (k:∀ a,A' a→A a):Avoid v A':=fun a b c d h1 h2 h3 h4=>h a b c d (k a h1) (k b h2) (k c h3) (k d h4)
theorem Inj.sub {v:Nat→Int} {A A':Nat→Prop} (h:Inj v A) (k:∀ a,A' a→A a):Inj v A':=fun a b h1 h2=>h a b (k a h1) (k b h2)
section
variable {l:List Int}
end
end
theorem z8e {p:List Txt} (hs:Sm p) (hg:zb7 p=true):PC Tryz.prog 48 [zai p] (.bool (yae p)) true:=by
 have hp:=hs.rows
 have hsm:=za3 hg
 obtain ⟨row0,hrow0,hrm0⟩:=zaf hsm.1
 have hhd:=zb9 hrow0
 have hw6:=hsm.2.2 row0 hrm0
 have hw1:=zfc hg hrow0
 obtain ⟨c0,hc0,-⟩:=zaf (show 0<row0.length by omega)
 have hone:yae p=p.all (fun row=>row.all fun c=>decide (c=c0)):=by simp [yae,hhd,hc0]
 refine PC.of ⟨Tryz.func48,by kernel_rfl,rfl,by kernel_rfl⟩ zao mixed (by show 1≤Tryz.f48.ntmps; decide) ?_
 refine W.r fun K hK=>?_
 simp(disch:=omega)only[↓RU,RV,RH,↓reduceIte,qE,reduceCtorEq,if_pos]
 apply hK;clear hK K
 refine W.seq ?_
 refine W.r fun K hK=>?_
 simp(disch:=omega)only[↓RU,RV,RH,↓reduceIte,qE,reduceCtorEq,if_pos]
 apply hK;clear hK K
 refine W.block ?_
 refine W.loop [0,3] (fun n vs S=>∃ i:Nat,n=p.length - i∧i≤p.length∧((p.take i).all (fun row=>row.all fun c=>decide (c=c0))=true)∧vs=[zai p,.int .i64 i]∧S=⟨[],0⟩) (p.length) ?_ ?_
 ·refine ⟨0,0,rfl,Nat.zero_le _,rfl,?_,rfl⟩
  simp [Env.put,Env.of,zag]
 rintro n vs S - ⟨i,rfl,h_i,hall,rfl,rfl⟩
 refine W.seq ?_
 refine W.r fun K hK=>?_
 simp(disch:=omega)only[↓RU,RV,RH,↓reduceIte,qE,reduceCtorEq,if_pos,w64,ty4,zaa,zab]
 apply hK;clear hK K
 refine W.cond rfl (fun h=>?_) (fun h=>?_)
 ·try simp only[RL]at h
  obtain ⟨row,hrow,hrm⟩:=zaf (show i<p.length by omega)
  have hrl:=hsm.2.2 row hrm
  refine W.skip ?_
  refine xn ?_
  refine W.seq ?_
  refine W.block ?_
  refine W.r fun K hK=>?_
  simp(disch:=omega)only[↓RU,RV,RH,↓reduceIte,qE,reduceCtorEq,if_pos]
  apply hK;clear hK K
  refine W.block ?_
  refine W.loop [0,3,4] (fun n vs S=>∃ k:Nat,n=row.length - k∧k≤row.length∧((row.take k).all (fun c=>decide (c=c0))=true)∧vs=[zai p,.int .i64 i,.int .i64 k]∧S=⟨[],0⟩) (row.length) ?_ ?_
  ·refine ⟨0,0,rfl,Nat.zero_le _,rfl,?_,rfl⟩
   simp [Env.put,Env.of]
  rintro n vs S - ⟨k,rfl,h_k,hr2,rfl,rfl⟩
  refine W.seq ?_
  refine W.r fun K hK=>?_
  simp(disch:=omega)only[↓RU,RV,RH,↓reduceIte,qE,reduceCtorEq,if_pos,w64,ty4,zaa,zab,hrow]
  apply hK;clear hK K
  refine W.cond rfl (fun h1=>?_) (fun h1=>?_)
  ·try simp only[RL]at h1
   obtain ⟨c,hc,hcm⟩:=zaf (show k<row.length by omega)
   refine W.skip ?_
   refine xn ?_
   refine W.seq ?_
   refine W.block ?_
   refine W.seq_draw (by kernel_rfl) fun K hK=>?_
   simp(disch:=omega)only[↓RU,RV,RH,↓reduceIte,qE,reduceCtorEq,if_pos,w64,ty4,zab,zd3,hrow,hc,hrow0,hc0,Int.toNat_zero,Nat.zero_mul,qZ]
   apply hK;clear hK K
   refine W.cond rfl (fun h2=>?_) (fun h2=>?_)
   ·try simp only[RL]at h2
    have hne:¬ c=c0:=by rintro rfl; simp at h2
    refine W.r fun K hK=>?_
    simp(disch:=omega)only[↓RU,RV,RH,↓reduceIte,qE,reduceCtorEq,if_pos]
    apply hK;clear hK K
    refine W.ret ?_
    refine XBlock.ret ?_
    refine XThen.ret ?_
    refine XThen.ret ?_
    refine XBlock.ret ?_
    refine XBlock.ret ?_
    refine XThen.ret ?_
    refine XThen.ret ?_
    refine XBlock.ret ?_
    refine XThen.ret ?_
    refine Br rfl ?_
    have:yae p=false:=by rw [hone,List.all_eq_false]; exact ⟨row,hrm,by simp only[Bool.not_eq_true,List.all_eq_false]; exact ⟨c,hcm,by simpa using hne⟩⟩
    rw [this]
    rfl
   try simp only[RL]at h2
   have heq:c=c0:=by simpa [ycm] using h2
   refine W.skip ?_
   refine XbN ?_
   refine xn ?_
   refine W.k fun K hK=>?_
   simp(disch:=omega)only[↓RU,RV,RH,↓reduceIte,qE,reduceCtorEq,if_pos,w64,zaa]
   apply hK;clear hK K
   refine xn ?_
   refine ⟨row.length - (k+1),by omega,0,k+1,rfl,by omega,zr4 hc hr2 (decide_eq_true heq),?_,rfl⟩
   simp [Env.put,Env.of]
  try simp only[RL]at h1
  have hrk:k=row.length:=by omega
  rw [hrk,List.take_length]at hr2
  refine W.exit ?_
  refine xe ?_
  refine xe ?_
  refine XBlock.hit ?_
  refine XbN ?_
  refine xn ?_
  refine W.k fun K hK=>?_
  simp(disch:=omega)only[↓RU,RV,RH,↓reduceIte,qE,reduceCtorEq,if_pos,w64,zaa]
  apply hK;clear hK K
  refine xn ?_
  refine ⟨p.length - (i+1),by omega,0,i+1,rfl,by omega,zr4 hrow hall hr2,?_,rfl⟩
  simp [Env.put,Env.of]
 try simp only[RL]at h
 refine W.exit ?_
 refine xe ?_
 refine xe ?_
 refine XBlock.hit ?_
 refine xn ?_
 refine W.r fun K hK=>?_
 simp(disch:=omega)only[↓RU,RV,RH,↓reduceIte,qE,reduceCtorEq,if_pos]
 apply hK;clear hK K
 refine W.ret ?_
 refine Br rfl ?_
 have hip:i=p.length:=by omega
 rw [hip,List.take_length]at hall
 rw [hone,hall]
 rfl
theorem zt6 {p:List Txt} (hs:Sm p) (hg:zb7 p=true):PC Tryz.prog 49 [zai p] (.tup [.int .i64 (z7k p).1,.int .i64 (z7k p).2]) true:=by
 have hp:=hs.rows
 have hsm:=za3 hg
 obtain ⟨row0,hrow0,hrm0⟩:=zaf hsm.1
 have hhd:=zb9 hrow0
 have hw6:=hsm.2.2 row0 hrm0
 have hw1:=zfc hg hrow0
 obtain ⟨c0,hc0,-⟩:=zaf (show 0<row0.length by omega)
 have hgt:=z29 hg
 have hst:=Sm.grid hgt
 have hsmt:=za3 hgt
 have htl:=zjo (p:=p)
 have hth:=zpe (p:=p) (by rw [hhd]; omega)
 have hul:(uprights p).length≤100:=by have h1:=zme p (zan p).length; have h2:(p.length+1)*(zan p).length≤7*6:=Nat.mul_le_mul (by omega) (by rw [hhd]; omega); unfold uprights; omega
 have hvl:(uprights (zck p)).length≤100:=by have h1:=zme (zck p) (zan (zck p)).length; have h2:((zck p).length+1)*(zan (zck p)).length≤7*6:=Nat.mul_le_mul (by omega) (by omega); unfold uprights; omega
 refine PC.of ⟨Tryz.func49,by kernel_rfl,rfl,by kernel_rfl⟩ zao mixed (by show 1≤Tryz.f49.ntmps; decide) ?_
 refine W.r fun K hK=>?_
 simp(disch:=omega)only[↓RU,RV,RH,↓reduceIte,qE,reduceCtorEq,if_pos]
 apply hK;clear hK K
 refine W.r fun K hK=>?_
 simp(disch:=omega)only[↓RU,RV,RH,↓reduceIte,qE,reduceCtorEq,if_pos,qN]
 refine zac.pc (zno hs hg) rfl (.inr rfl) ?_
 simp(disch:=omega)only[↓RU,RV,RH,↓reduceIte,qE,reduceCtorEq,if_pos,qN]
 apply hK;clear hK K
 refine W.seq ?_
 refine W.r fun K hK=>?_
 simp(disch:=omega)only[↓RU,RV,RH,↓reduceIte,qE,reduceCtorEq,if_pos]
 apply hK;clear hK K
 refine W.block ?_
 refine W.loop [0,4,5] (fun n vs S=>∃ i:Nat,n=(uprights p).length - i∧i≤(uprights p).length∧(((uprights p).take i).find? (zel p.length)=none)∧vs=[zai p,.sl ((uprights p).map eInts) (uprights p).length,.int .i64 i]∧S=⟨[],0⟩) ((uprights p).length) ?_ ?_
 ·refine ⟨0,0,rfl,Nat.zero_le _,rfl,?_,rfl⟩
  simp [Env.put,Env.of,zag]
 rintro n vs S - ⟨i,rfl,h_i,hno,rfl,rfl⟩
 refine W.seq ?_
 refine W.r fun K hK=>?_
 simp(disch:=omega)only[↓RU,RV,RH,↓reduceIte,qE,reduceCtorEq,if_pos,w64,ty1,zae,zaa]
 apply hK;clear hK K
 refine W.cond rfl (fun h=>?_) (fun h=>?_)
 ·try simp only[RL]at h
  obtain ⟨u,hu,hum⟩:=zaf (show i<(uprights p).length by omega)
  obtain ⟨k,f,l,rfl,hk⟩:=yax hum
  refine W.skip ?_
  refine xn ?_
  refine W.seq ?_
  refine W.block ?_
  refine W.r fun K hK=>?_
  simp(disch:=omega)only[↓RU,RV,RH,↓reduceIte,qE,reduceCtorEq,if_pos,w64,ty1,zae,ty4,zaa,zab,hu]
  apply hK;clear hK K
  refine W.cond rfl (fun h1=>?_) (fun h1=>?_)
  ·try simp only[RL]at h1
   have hlong:zel p.length [(k:Int),(f:Int),(l:Int)]=true:=by simp [zel,zjb]; omega
   refine W.seq_draw (by kernel_rfl) fun K hK=>?_
   simp(disch:=omega)only[↓RU,RV,RH,↓reduceIte,qE,reduceCtorEq,if_pos,ty1,zae,zaa,hu]
   apply hK;clear hK K
   refine W.ret ?_
   refine XBlock.ret ?_
   refine XThen.ret ?_
   refine XThen.ret ?_
   refine XBlock.ret ?_
   refine XThen.ret ?_
   refine Br rfl ?_
   rw [show z7k p=(0,(k:Int)) by unfold z7k; rw [zvs hu hno hlong]; rfl]
   rfl
  try simp only[RL]at h1
  have hlong:zel p.length [(k:Int),(f:Int),(l:Int)]=false:=by simp [zel,zjb]; omega
  refine W.skip ?_
  refine XbN ?_
  refine xn ?_
  refine W.k fun K hK=>?_
  simp(disch:=omega)only[↓RU,RV,RH,↓reduceIte,qE,reduceCtorEq,if_pos,w64,zaa]
  apply hK;clear hK K
  refine xn ?_
  refine ⟨(uprights p).length - (i+1),by omega,0,i+1,rfl,by omega,znk hu hno hlong,?_,rfl⟩
  simp [Env.put,Env.of]
 try simp only[RL]at h
 have hip:i=(uprights p).length:=by omega
 rw [hip,List.take_length]at hno
 refine W.exit ?_
 refine xe ?_
 refine xe ?_
 refine XBlock.hit ?_
 refine xn ?_
 refine W.r fun K hK=>?_
 simp(disch:=omega)only[↓RU,RV,RH,↓reduceIte,qE,reduceCtorEq,if_pos,qN]
 refine zac.pc (z2g hs hg) rfl (.inl rfl) ?_
 simp(disch:=omega)only[↓RU,RV,RH,↓reduceIte,qE,reduceCtorEq,if_pos,qN]
 refine zac.pc (zno hst hgt) rfl (.inr rfl) ?_
 simp(disch:=omega)only[↓RU,RV,RH,↓reduceIte,qE,reduceCtorEq,if_pos,qN]
 apply hK;clear hK K
 refine W.seq ?_
 refine W.r fun K hK=>?_
 simp(disch:=omega)only[↓RU,RV,RH,↓reduceIte,qE,reduceCtorEq,if_pos]
 apply hK;clear hK K
 refine W.block ?_
 refine W.loop [0,6,7] (fun n vs S=>∃ i:Nat,n=(uprights (zck p)).length - i∧i≤(uprights (zck p)).length∧(((uprights (zck p)).take i).find? (zel (zan p).length)=none)∧vs=[zai p,.sl ((uprights (zck p)).map eInts) (uprights (zck p)).length,.int .i64 i]∧S=⟨[],0⟩) ((uprights (zck p)).length) ?_ ?_
 ·refine ⟨0,0,rfl,Nat.zero_le _,rfl,?_,rfl⟩
  simp [Env.put,Env.of,zag]
 rintro n vs S - ⟨i,rfl,h_i,hno2,rfl,rfl⟩
 refine W.seq ?_
 refine W.r fun K hK=>?_
 simp(disch:=omega)only[↓RU,RV,RH,↓reduceIte,qE,reduceCtorEq,if_pos,w64,ty1,zae,zaa]
 apply hK;clear hK K
 refine W.cond rfl (fun h=>?_) (fun h=>?_)
 ·try simp only[RL]at h
  obtain ⟨u,hu,hum⟩:=zaf (show i<(uprights (zck p)).length by omega)
  obtain ⟨k,f,l,rfl,hk⟩:=yax hum
  refine W.skip ?_
  refine xn ?_
  refine W.seq ?_
  refine W.block ?_
  refine W.seq_draw (by kernel_rfl) fun K hK=>?_
  simp(disch:=omega)only[↓RU,RV,RH,↓reduceIte,qE,reduceCtorEq,if_pos,w64,ty1,zae,ty4,zaa,zab,hu,hrow0,Int.toNat_zero,Nat.zero_mul,qZ]
  apply hK;clear hK K
  refine W.cond rfl (fun h1=>?_) (fun h1=>?_)
  ·try simp only[RL]at h1
   have hlong:zel (zan p).length [(k:Int),(f:Int),(l:Int)]=true:=by simp [zel,zjb,hhd]; omega
   refine W.seq_draw (by kernel_rfl) fun K hK=>?_
   simp(disch:=omega)only[↓RU,RV,RH,↓reduceIte,qE,reduceCtorEq,if_pos,ty1,zae,zaa,hu]
   apply hK;clear hK K
   refine W.ret ?_
   refine XBlock.ret ?_
   refine XThen.ret ?_
   refine XThen.ret ?_
   refine XBlock.ret ?_
   refine XThen.ret ?_
   refine Br rfl ?_
   rw [show z7k p=(1,(k:Int)) by unfold z7k; rw [hno,zvs hu hno2 hlong]; rfl]
   rfl
  try simp only[RL]at h1
  have hlong:zel (zan p).length [(k:Int),(f:Int),(l:Int)]=false:=by simp [zel,zjb,hhd]; omega
  refine W.skip ?_
  refine XbN ?_
  refine xn ?_
  refine W.k fun K hK=>?_
  simp(disch:=omega)only[↓RU,RV,RH,↓reduceIte,qE,reduceCtorEq,if_pos,w64,zaa]
  apply hK;clear hK K
  refine xn ?_
  refine ⟨(uprights (zck p)).length - (i+1),by omega,0,i+1,rfl,by omega,znk hu hno2 hlong,?_,rfl⟩
  simp [Env.put,Env.of]
 try simp only[RL]at h
 have hip:i=(uprights (zck p)).length:=by omega
 rw [hip,List.take_length]at hno2
 refine W.exit ?_
 refine xe ?_
 refine xe ?_
 refine XBlock.hit ?_
 refine xn ?_
 refine W.r fun K hK=>?_
 simp(disch:=omega)only[↓RU,RV,RH,↓reduceIte,qE,reduceCtorEq,if_pos]
 apply hK;clear hK K
 refine W.ret ?_
 refine Br rfl ?_
 rw [show z7k p=(0,0) by unfold z7k; rw [hno,hno2]]
 rfl
theorem ybv {p:List Txt} {i k:Nat} {row:Txt} (h:p[i]?=some row):zge (p.take (i+1)) (false,k)=zge (p.take i) (false,k)++[row.take k]:=by simp [zge,tk h]
theorem ybw {p:List Txt} {i k:Nat} {row:Txt} (h:p[i]?=some row):zgf (p.take (i+1)) (false,k)=zgf (p.take i) (false,k)++[row.drop k]:=by simp [zgf,tk h]
theorem z5x {p:List Txt} {i k:Nat} {row:Txt} (h:p[i]?=some row):zge (p.take (i+1)) (true,k)=if i<k then zge (p.take i) (true,k)++[row] else zge (p.take i) (true,k):=by
 have hl:=(List.getElem?_eq_some_iff.1 h).1
 simp only[zge,if_true,List.take_take]
 split
 ·rw [Nat.min_eq_right (by omega),Nat.min_eq_right (by omega),tk h]
 rw [Nat.min_eq_left (by omega),Nat.min_eq_left (by omega)]
theorem z5y {p:List Txt} {i k:Nat} {row:Txt} (h:p[i]?=some row):zgf (p.take (i+1)) (true,k)=if i<k then zgf (p.take i) (true,k) else zgf (p.take i) (true,k)++[row]:=by
 have hl:=(List.getElem?_eq_some_iff.1 h).1
 simp only[zgf,if_true]
 split
 ·rw [List.drop_of_length_le (by simp; omega),List.drop_of_length_le (by simp; omega)]
 rw [tk h,List.drop_append_of_le_length (by simp; omega)]
theorem z08 {p:List Txt} {q:Bool × Nat} (i:Nat):(zge (p.take i) q).length≤i∧(zgf (p.take i) q).length≤i:=by
 obtain ⟨lv,k⟩:=q
 cases lv <;> simp [zge,zgf] <;> omega
theorem zyn {p:List Txt} (hs:Sm p) (hg:zb7 p=true) {k:Nat} (hk:k≤(zan p).length):PC Tryz.prog 50 [zai p,.int .i64 0,.int .i64 k] (.tup [zai (zge p (false,k)),zai (zgf p (false,k))]) true:=by
 have hp:=hs.rows
 have hsm:=za3 hg
 obtain ⟨row0,hrow0,hrm0⟩:=zaf hsm.1
 have hhd:=zb9 hrow0
 have hw6:=hsm.2.2 row0 hrm0
 have hw1:=zfc hg hrow0
 rw [hhd]at hk
 refine PC.of ⟨Tryz.func50,by kernel_rfl,rfl,by kernel_rfl⟩ zao mixed (by show 3≤Tryz.f50.ntmps; decide) ?_
 refine W.r fun K hK=>?_
 simp(disch:=omega)only[↓RU,RV,RH,↓reduceIte,qE,reduceCtorEq,if_pos,↓RS,RG,qA,qM,qL]
 apply hK;clear hK K
 refine W.r fun K hK=>?_
 simp(disch:=omega)only[↓RU,RV,RH,↓reduceIte,qE,reduceCtorEq,if_pos,↓RS,RG,qA,qM,qL,ty4,zab]
 apply hK;clear hK K
 refine W.r fun K hK=>?_
 simp(disch:=omega)only[↓RU,RV,RH,↓reduceIte,qE,reduceCtorEq,if_pos,↓RS,RG,qA,qM,qL,ty4,zab]
 apply hK;clear hK K
 refine W.seq ?_
 refine W.r fun K hK=>?_
 simp(disch:=omega)only[↓RU,RV,RH,↓reduceIte,qE,reduceCtorEq,if_pos,↓RS,RG,qA,qM,qL]
 apply hK;clear hK K
 refine W.block ?_
 refine W.loop [0,1,2,8,9,10] (fun n vs S=>∃ i v0 v1 tk:Nat,n=p.length - i∧i≤p.length∧vs=[zai p,.int .i64 0,.int .i64 k,.loc 0 v0 0 (zge (p.take i) (false,k)).length,.loc 1 v1 0 (zgf (p.take i) (false,k)).length,.int .i64 i]∧S=⟨[.arr v0 9 1 ((zge (p.take i) (false,k)).map .str),.arr v1 9 1 ((zgf (p.take i) (false,k)).map .str)],tk⟩) p.length ?_ ?_
 ·refine ⟨2,0,0,1,2,rfl,Nat.zero_le _,?_,?_⟩
  ·simp [Env.put,Env.of,zag,zge,zgf]
  simp [zge,zgf,Store.take]
 rintro n vs S - ⟨i,v0,v1,tk,rfl,h_i,rfl,rfl⟩
 refine W.seq ?_
 refine W.r fun K hK=>?_
 simp(disch:=omega)only[↓RU,RV,RH,↓reduceIte,qE,reduceCtorEq,if_pos,w64,↓RS,RG,qA,qM,qL,ty4,zaa,zab]
 apply hK;clear hK K
 refine W.cond rfl (fun h=>?_) (fun h=>?_)
 ·try simp only[RL]at h
  obtain ⟨row,hrow,hrm⟩:=zaf (show i<p.length by omega)
  have hrl:=hsm.2.2 row hrm
  have hrw:=zdy hg hrow
  rw [hhd]at hrw
  have hpl:=z08 (p:=p) (q:=(false,k)) i
  generalize hA:zge (p.take i) (false,k)=A at hpl
  generalize hB:zgf (p.take i) (false,k)=B at hpl
  refine W.skip ?_
  refine xn ?_
  refine W.seq ?_
  refine W.block ?_
  refine W.block ?_
  refine W.r fun K hK=>?_
  simp(disch:=omega)only[↓RU,RV,RH,↓reduceIte,qE,reduceCtorEq,if_pos,w64,↓RS,RG,qA,qM,qL,zaa]
  apply hK;clear hK K
  refine W.cond rfl (fun h1=>?_) (fun h1=>?_)
  ·try simp only[RL]at h1
   refine W.r fun K hK=>?_
   simp(disch:=omega)only[↓RU,RV,RH,↓reduceIte,qE,reduceCtorEq,if_pos,Option.map_none,↓RS,RG,qA,qM,qL,ty4,zab,hrow,List.drop_zero]
   apply hK;clear hK K
   refine W.k fun K hK=>?_
   simp(disch:=omega)only[↓RU,RV,RH,↓reduceIte,qE,reduceCtorEq,if_pos,Option.map_none,↓RS,RG,qA,qM,qL,ty4,zab,hrow,List.take_length]
   apply hK;clear hK K
   refine XbN ?_
   refine XbN ?_
   refine xn ?_
   refine W.k fun K hK=>?_
   simp(disch:=omega)only[↓RU,RV,RH,↓reduceIte,qE,reduceCtorEq,if_pos,w64,↓RS,RG,qA,qM,qL,zaa]
   apply hK;clear hK K
   refine xn ?_
   refine ⟨p.length - (i+1),by omega,2,i+1,(tk+1),(tk+3),(tk+4),rfl,by omega,?_,?_⟩
   all_goals rw [ybv hrow,ybw hrow,hA,hB]
   all_goals simp [Env.put,Env.of,zby,hA,hB,Store.take]
  try simp only[RL]at h1
  exact absurd h1 (by simp)
 try simp only[RL]at h
 obtain rfl:i=p.length:=by omega
 rw [List.take_length]
 refine W.exit ?_
 refine xe ?_
 refine xe ?_
 refine XBlock.hit ?_
 refine xn ?_
 refine W.r fun K hK=>?_
 simp(disch:=omega)only[↓RU,RV,RH,↓reduceIte,qE,reduceCtorEq,if_pos,↓RS,RG,qA,qM,qL]
 apply hK;clear hK K
 refine W.ret ?_
 refine Br rfl ?_
 exact congrArg (Option.map PV.tup) (zay (zcl (k:=8) rfl (by simp) (zgd _)) (zay (zcl (k:=8) rfl (by simp) (zgd _)) rfl))
theorem zym {p:List Txt} (hs:Sm p) (hg:zb7 p=true) {k:Nat} (hk:k≤p.length):PC Tryz.prog 50 [zai p,.int .i64 1,.int .i64 k] (.tup [zai (zge p (true,k)),zai (zgf p (true,k))]) true:=by
 have hp:=hs.rows
 have hsm:=za3 hg
 obtain ⟨row0,hrow0,hrm0⟩:=zaf hsm.1
 have hhd:=zb9 hrow0
 have hw6:=hsm.2.2 row0 hrm0
 have hw1:=zfc hg hrow0
 skip
 refine PC.of ⟨Tryz.func50,by kernel_rfl,rfl,by kernel_rfl⟩ zao mixed (by show 3≤Tryz.f50.ntmps; decide) ?_
 refine W.r fun K hK=>?_
 simp(disch:=omega)only[↓RU,RV,RH,↓reduceIte,qE,reduceCtorEq,if_pos,↓RS,RG,qA,qM,qL]
 apply hK;clear hK K
 refine W.r fun K hK=>?_
 simp(disch:=omega)only[↓RU,RV,RH,↓reduceIte,qE,reduceCtorEq,if_pos,↓RS,RG,qA,qM,qL,ty4,zab]
 apply hK;clear hK K
 refine W.r fun K hK=>?_
 simp(disch:=omega)only[↓RU,RV,RH,↓reduceIte,qE,reduceCtorEq,if_pos,↓RS,RG,qA,qM,qL,ty4,zab]
 apply hK;clear hK K
 refine W.seq ?_
 refine W.r fun K hK=>?_
 simp(disch:=omega)only[↓RU,RV,RH,↓reduceIte,qE,reduceCtorEq,if_pos,↓RS,RG,qA,qM,qL]
 apply hK;clear hK K
 refine W.block ?_
 refine W.loop [0,1,2,8,9,10] (fun n vs S=>∃ i v0 v1 tk:Nat,n=p.length - i∧i≤p.length∧vs=[zai p,.int .i64 1,.int .i64 k,.loc 0 v0 0 (zge (p.take i) (true,k)).length,.loc 1 v1 0 (zgf (p.take i) (true,k)).length,.int .i64 i]∧S=⟨[.arr v0 9 1 ((zge (p.take i) (true,k)).map .str),.arr v1 9 1 ((zgf (p.take i) (true,k)).map .str)],tk⟩) p.length ?_ ?_
 ·refine ⟨2,0,0,1,2,rfl,Nat.zero_le _,?_,?_⟩
  ·simp [Env.put,Env.of,zag,zge,zgf]
  simp [zge,zgf,Store.take]
 rintro n vs S - ⟨i,v0,v1,tk,rfl,h_i,rfl,rfl⟩
 refine W.seq ?_
 refine W.r fun K hK=>?_
 simp(disch:=omega)only[↓RU,RV,RH,↓reduceIte,qE,reduceCtorEq,if_pos,w64,↓RS,RG,qA,qM,qL,ty4,zaa,zab]
 apply hK;clear hK K
 refine W.cond rfl (fun h=>?_) (fun h=>?_)
 ·try simp only[RL]at h
  obtain ⟨row,hrow,hrm⟩:=zaf (show i<p.length by omega)
  have hrl:=hsm.2.2 row hrm
  have hrw:=zdy hg hrow
  rw [hhd]at hrw
  have hpl:=z08 (p:=p) (q:=(true,k)) i
  generalize hA:zge (p.take i) (true,k)=A at hpl
  generalize hB:zgf (p.take i) (true,k)=B at hpl
  refine W.skip ?_
  refine xn ?_
  refine W.seq ?_
  refine W.block ?_
  refine W.block ?_
  refine W.r fun K hK=>?_
  simp(disch:=omega)only[↓RU,RV,RH,↓reduceIte,qE,reduceCtorEq,if_pos,w64,↓RS,RG,qA,qM,qL,zaa]
  apply hK;clear hK K
  refine W.cond rfl (fun h1=>?_) (fun h1=>?_)
  ·try simp only[RL]at h1
   exact absurd h1 (by simp)
  ·try simp only[RL]at h1
   refine W.r fun K hK=>?_
   simp(disch:=omega)only[↓RU,RV,RH,↓reduceIte,qE,reduceCtorEq,if_pos,w64,↓RS,RG,qA,qM,qL,zaa]
   apply hK;clear hK K
   refine W.cond rfl (fun h2=>?_) (fun h2=>?_)
   ·try simp only[RL]at h2
    refine W.k fun K hK=>?_
    simp(disch:=omega)only[↓RU,RV,RH,↓reduceIte,qE,reduceCtorEq,if_pos,↓RS,RG,qA,qM,qL,ty4,zab,hrow]
    apply hK;clear hK K
    refine XbN ?_
    refine XbN ?_
    refine xn ?_
    refine W.k fun K hK=>?_
    simp(disch:=omega)only[↓RU,RV,RH,↓reduceIte,qE,reduceCtorEq,if_pos,w64,↓RS,RG,qA,qM,qL,zaa]
    apply hK;clear hK K
    refine xn ?_
    refine ⟨p.length - (i+1),by omega,2,i+1,(tk+1),v1,(tk+2),rfl,by omega,?_,?_⟩
    all_goals rw [z5x hrow,z5y hrow,if_pos (show i<k by omega),if_pos (show i<k by omega),hA,hB]
    all_goals simp [Env.put,Env.of,zby,hA,hB,Store.take]
   ·try simp only[RL]at h2
    refine W.k fun K hK=>?_
    simp(disch:=omega)only[↓RU,RV,RH,↓reduceIte,qE,reduceCtorEq,if_pos,↓RS,RG,qA,qM,qL,ty4,zab,hrow]
    apply hK;clear hK K
    refine XbN ?_
    refine XbN ?_
    refine xn ?_
    refine W.k fun K hK=>?_
    simp(disch:=omega)only[↓RU,RV,RH,↓reduceIte,qE,reduceCtorEq,if_pos,w64,↓RS,RG,qA,qM,qL,zaa]
    apply hK;clear hK K
    refine xn ?_
    refine ⟨p.length - (i+1),by omega,2,i+1,v0,(tk+1),(tk+2),rfl,by omega,?_,?_⟩
    all_goals rw [z5x hrow,z5y hrow,if_neg (show ¬ i<k by omega),if_neg (show ¬ i<k by omega),hA,hB]
    all_goals simp [Env.put,Env.of,zby,hA,hB,Store.take]
 try simp only[RL]at h
 obtain rfl:i=p.length:=by omega
 rw [List.take_length]
 refine W.exit ?_
 refine xe ?_
 refine xe ?_
 refine XBlock.hit ?_
 refine xn ?_
 refine W.r fun K hK=>?_
 simp(disch:=omega)only[↓RU,RV,RH,↓reduceIte,qE,reduceCtorEq,if_pos,↓RS,RG,qA,qM,qL]
 apply hK;clear hK K
 refine W.ret ?_
 refine Br rfl ?_
 exact congrArg (Option.map PV.tup) (zay (zcl (k:=8) rfl (by simp) (zgd _)) (zay (zcl (k:=8) rfl (by simp) (zgd _)) rfl))
theorem zea {a b:List UInt8} (h:a.length+b.length≤9223372036854775807):zmf .add a b=some (.str (a++b)):=if_pos h
theorem zpc {c:UInt8} {b:List UInt8} (h:b.length+1≤9223372036854775807):zmf .add [c] b=some (.str (c::b)):=if_pos (by simp; omega)
theorem zpd {c:UInt8} {b d:List UInt8} (h:b.length+1+d.length≤9223372036854775807):zmf .add (c::b) d=some (.str (c::b++d)):=if_pos (by simp; omega)
theorem z40 {p:List Txt} (hg:zb7 p=true) {t:Pt} (hi:t.In p.length (zan p).length) (ih:∀ t':Pt,t'.In p.length (zan p).length→t'.h*t'.w<t.h*t.w→PC Tryz.prog 20 [zai (sub p t')] (.tup [.str (zpf (zaj p) t').1,.bool (zpf (zaj p) t').2]) true):PC Tryz.prog 20 [zai (sub p t)] (.tup [.str (zpf (zaj p) t).1,.bool (zpf (zaj p) t).2]) true:=by
 have hg2:=z9c hg hi
 have hs2:=Sm.grid hg2
 have hl2:=zm6 hi
 have hh2:=zxn hg hi
 have hib:=hi
 unfold Pt.In at hib
 obtain ⟨row0,hrow0,hq0,hl0,-⟩:=zk9 hg hi (i:=0) hi.1
 obtain ⟨c0,hc0,hlet⟩:=zlm hg hrow0 (k:=t.c+0) (by omega)
 have hqc:=(zik (row:=row0) (t:=t) hib.2.1).trans hc0
 have hz0:zaj p t.r t.c=(c0.toNat:Int) - 97:=zc6 (by simpa using hrow0) (by simpa using hc0)
 simp only[zch,qB,decide_eq_true_eq]at hlet
 have hcq:=z7z hg hi
 refine PC.of ⟨Tryz.func20,by kernel_rfl,rfl,by kernel_rfl⟩ zao mixed (by show 1≤Tryz.f20.ntmps; decide) ?_
 refine W.r fun K hK=>?_
 simp(disch:=omega)only[↓RU,RV,RH,↓reduceIte,qE,reduceCtorEq,if_pos,↓RS,RG,qA,qM,qL,w8]
 apply hK;clear hK K
 refine W.seq ?_
 refine W.r fun K hK=>?_
 simp(disch:=omega)only[↓RU,RV,RH,↓reduceIte,qE,reduceCtorEq,if_pos,qN,↓RS,RG,qA,qM,qL,w8]
 refine zac.pc (z8e hs2 hg2) rfl (.inl rfl) ?_
 simp(disch:=omega)only[↓RU,RV,RH,↓reduceIte,qE,reduceCtorEq,if_pos,qN,↓RS,RG,qA,qM,qL,w8]
 apply hK;clear hK K
 refine W.cond rfl (fun h0=>?_) (fun h0=>?_)
 ·skip
  have h0:yae (sub p t)=true:=h0
  rw [z0q hg hi]at h0
  refine W.r fun K hK=>?_
  simp(disch:=omega)only[↓RU,RV,RH,↓reduceIte,qE,reduceCtorEq,if_pos,w64,w64,↓RS,RG,qA,qM,qL,ty4,ty5,zab,zd3,w8,hq0,hqc,Int.toNat_zero,Nat.zero_mul,qZ]
  apply hK;clear hK K
  refine W.ret ?_
  refine XThen.ret ?_
  refine Br rfl ?_
  rw [zuw hi h0,hz0]
  rfl
 skip
 have h0:yae (sub p t)=false:=h0
 rw [z0q hg hi]at h0
 refine W.skip ?_
 refine xn ?_
 refine W.r fun K hK=>?_
 rcases hq:zdl (zaj p) t with _ | ⟨_ | _,k⟩
 ·skip
  rw [hq]at hcq
  simp only at hcq
  simp(disch:=omega)only[↓RU,RV,RH,↓reduceIte,qE,reduceCtorEq,if_pos,qN,↓RS,RG,qA,qM,qL,w8,hcq]
  refine zac.pc (zt6 hs2 hg2) rfl (.inl rfl) ?_
  simp(disch:=omega)only[↓RU,RV,RH,↓reduceIte,qE,reduceCtorEq,if_pos,qN,↓RS,RG,qA,qM,qL,w8,hcq]
  apply hK;clear hK K
  refine W.seq ?_
  refine W.r fun K hK=>?_
  simp(disch:=omega)only[↓RU,RV,RH,↓reduceIte,qE,reduceCtorEq,if_pos,w64,↓RS,RG,qA,qM,qL,zaa,w8]
  apply hK;clear hK K
  refine W.cond rfl (fun h1=>?_) (fun h1=>?_)
  ·try simp only[RL]at h1
   refine W.r fun K hK=>?_
   simp(disch:=omega)only[↓RU,RV,RH,↓reduceIte,qE,reduceCtorEq,if_pos,↓RS,RG,qA,qM,qL,w8]
   apply hK;clear hK K
   refine W.ret ?_
   refine XThen.ret ?_
   refine Br rfl ?_
   rw [zxs hi h0 hq]
   rfl
  try simp only[RL]at h1
  exact absurd h1 (by simp)
 ·skip
  rw [hq]at hcq
  simp only[qF,if_false]at hcq
  obtain ⟨i1,i2,a1,a2⟩:=hi.cut hq
  have hck:=zgi hq
  simp only[qF,if_false]at hck
  simp(disch:=omega)only[↓RU,RV,RH,↓reduceIte,qE,reduceCtorEq,if_pos,qN,↓RS,RG,qA,qM,qL,w8,hcq]
  refine zac.pc (zt6 hs2 hg2) rfl (.inl rfl) ?_
  simp(disch:=omega)only[↓RU,RV,RH,↓reduceIte,qE,reduceCtorEq,if_pos,qN,↓RS,RG,qA,qM,qL,w8,hcq]
  apply hK;clear hK K
  refine W.seq ?_
  refine W.r fun K hK=>?_
  simp(disch:=omega)only[↓RU,RV,RH,↓reduceIte,qE,reduceCtorEq,if_pos,w64,↓RS,RG,qA,qM,qL,zaa,w8]
  apply hK;clear hK K
  refine W.cond rfl (fun h1=>?_) (fun h1=>?_)
  ·try simp only[RL]at h1
   exact absurd h1 (by simp; omega)
  try simp only[RL]at h1
  refine W.skip ?_
  refine xn ?_
  refine W.r fun K hK=>?_
  have hP:=zyn hs2 hg2 (k:=k) (by rw [hh2]; omega)
  rw [z60 (q:=(false,k)) (by simp; omega),z61 (q:=(false,k)) (by simp; omega)]at hP
  simp(disch:=omega)only[↓RU,RV,RH,↓reduceIte,qE,reduceCtorEq,if_pos,qN,↓RS,RG,qA,qM,qL,w8]
  refine zac.pc (hP) rfl (.inl rfl) ?_
  simp(disch:=omega)only[↓RU,RV,RH,↓reduceIte,qE,reduceCtorEq,if_pos,qN,↓RS,RG,qA,qM,qL,w8]
  apply hK;clear hK K
  refine W.r fun K hK=>?_
  simp(disch:=omega)only[↓RU,RV,RH,↓reduceIte,qE,reduceCtorEq,if_pos,qN,↓RS,RG,qA,qM,qL,w8]
  refine zac.pc (ih (t.one (false,k)) i1 a1) rfl (.inl rfl) ?_
  simp(disch:=omega)only[↓RU,RV,RH,↓reduceIte,qE,reduceCtorEq,if_pos,qN,↓RS,RG,qA,qM,qL,w8]
  apply hK;clear hK K
  refine W.r fun K hK=>?_
  simp(disch:=omega)only[↓RU,RV,RH,↓reduceIte,qE,reduceCtorEq,if_pos,qN,↓RS,RG,qA,qM,qL,w8]
  refine zac.pc (ih (t.two (false,k)) i2 a2) rfl (.inl rfl) ?_
  simp(disch:=omega)only[↓RU,RV,RH,↓reduceIte,qE,reduceCtorEq,if_pos,qN,↓RS,RG,qA,qM,qL,w8]
  apply hK;clear hK K
  refine W.r fun K hK=>?_
  have f1:=(ze5 (z:=zaj p) _ i1 (qR _)).1
  have f2:=(ze5 (z:=zaj p) _ i2 (qR _)).1
  have f3:t.h*t.w≤6*6:=Nat.mul_le_mul (by have:=za3 hg; omega) (by have:=(za3 hg2).2.2 _ (List.mem_of_getElem? hq0); omega)
  cases hb:(zpf (zaj p) (t.one (false,k))).2
  ·skip
   simp(disch:=omega)only[↓RU,RV,RH,↓reduceIte,qE,reduceCtorEq,if_pos,w64,Option.map_none,↓RS,RG,qA,qM,qL,zaa,zab,w8,zpc,zpd,Int.reduceAdd,qZ,List.take_succ_cons,List.take_zero,List.drop_zero,List.drop_succ_cons,List.length_append,List.length_cons,List.length_nil,hb]
   apply hK;clear hK K
   refine W.ret ?_
   refine Br rfl ?_
   rw [zka hi h0 hq,hb]
   rfl
  skip
  simp(disch:=omega)only[↓RU,RV,RH,↓reduceIte,qE,reduceCtorEq,if_pos,w64,Option.map_none,↓RS,RG,qA,qM,qL,zaa,zab,w8,zpc,zpd,Int.reduceAdd,qZ,List.take_succ_cons,List.take_zero,List.drop_zero,List.drop_succ_cons,List.length_append,List.length_cons,List.length_nil,hb]
  apply hK;clear hK K
  refine W.ret ?_
  refine Br rfl ?_
  rw [zka hi h0 hq,hb]
  rfl
 skip
 rw [hq]at hcq
 simp only[if_true]at hcq
 obtain ⟨i1,i2,a1,a2⟩:=hi.cut hq
 have hck:=zgi hq
 simp only[if_true]at hck
 simp(disch:=omega)only[↓RU,RV,RH,↓reduceIte,qE,reduceCtorEq,if_pos,qN,↓RS,RG,qA,qM,qL,w8,hcq]
 refine zac.pc (zt6 hs2 hg2) rfl (.inl rfl) ?_
 simp(disch:=omega)only[↓RU,RV,RH,↓reduceIte,qE,reduceCtorEq,if_pos,qN,↓RS,RG,qA,qM,qL,w8,hcq]
 apply hK;clear hK K
 refine W.seq ?_
 refine W.r fun K hK=>?_
 simp(disch:=omega)only[↓RU,RV,RH,↓reduceIte,qE,reduceCtorEq,if_pos,w64,↓RS,RG,qA,qM,qL,zaa,w8]
 apply hK;clear hK K
 refine W.cond rfl (fun h1=>?_) (fun h1=>?_)
 ·try simp only[RL]at h1
  exact absurd h1 (by simp; omega)
 try simp only[RL]at h1
 refine W.skip ?_
 refine xn ?_
 refine W.r fun K hK=>?_
 have hP:=zym hs2 hg2 (k:=k) (by rw [hl2]; omega)
 rw [z60 (q:=(true,k)) (by simp; omega),z61 (q:=(true,k)) (by simp; omega)]at hP
 simp(disch:=omega)only[↓RU,RV,RH,↓reduceIte,qE,reduceCtorEq,if_pos,qN,↓RS,RG,qA,qM,qL,w8]
 refine zac.pc (hP) rfl (.inl rfl) ?_
 simp(disch:=omega)only[↓RU,RV,RH,↓reduceIte,qE,reduceCtorEq,if_pos,qN,↓RS,RG,qA,qM,qL,w8]
 apply hK;clear hK K
 refine W.r fun K hK=>?_
 simp(disch:=omega)only[↓RU,RV,RH,↓reduceIte,qE,reduceCtorEq,if_pos,qN,↓RS,RG,qA,qM,qL,w8]
 refine zac.pc (ih (t.one (true,k)) i1 a1) rfl (.inl rfl) ?_
 simp(disch:=omega)only[↓RU,RV,RH,↓reduceIte,qE,reduceCtorEq,if_pos,qN,↓RS,RG,qA,qM,qL,w8]
 apply hK;clear hK K
 refine W.r fun K hK=>?_
 simp(disch:=omega)only[↓RU,RV,RH,↓reduceIte,qE,reduceCtorEq,if_pos,qN,↓RS,RG,qA,qM,qL,w8]
 refine zac.pc (ih (t.two (true,k)) i2 a2) rfl (.inl rfl) ?_
 simp(disch:=omega)only[↓RU,RV,RH,↓reduceIte,qE,reduceCtorEq,if_pos,qN,↓RS,RG,qA,qM,qL,w8]
 apply hK;clear hK K
 refine W.r fun K hK=>?_
 have f1:=(ze5 (z:=zaj p) _ i1 (qR _)).1
 have f2:=(ze5 (z:=zaj p) _ i2 (qR _)).1
 have f3:t.h*t.w≤6*6:=Nat.mul_le_mul (by have:=za3 hg; omega) (by have:=(za3 hg2).2.2 _ (List.mem_of_getElem? hq0); omega)
 cases hb:(zpf (zaj p) (t.one (true,k))).2
 ·skip
  simp(disch:=omega)only[↓RU,RV,RH,↓reduceIte,qE,reduceCtorEq,if_pos,w64,Option.map_none,↓RS,RG,qA,qM,qL,zaa,zab,w8,zpc,zpd,Int.reduceAdd,qZ,List.take_succ_cons,List.take_zero,List.drop_zero,List.drop_succ_cons,List.length_append,List.length_cons,List.length_nil,hb]
  apply hK;clear hK K
  refine W.ret ?_
  refine Br rfl ?_
  rw [zka hi h0 hq,hb]
  rfl
 skip
 simp(disch:=omega)only[↓RU,RV,RH,↓reduceIte,qE,reduceCtorEq,if_pos,w64,Option.map_none,↓RS,RG,qA,qM,qL,zaa,zab,w8,zpc,zpd,Int.reduceAdd,qZ,List.take_succ_cons,List.take_zero,List.drop_zero,List.drop_succ_cons,List.length_append,List.length_cons,List.length_nil,hb]
 apply hK;clear hK K
 refine W.ret ?_
 refine Br rfl ?_
 rw [zka hi h0 hq,hb]
 rfl
theorem zv7 {p:List Txt} (hg:zb7 p=true):∀ (n:Nat) {t:Pt},t.h*t.w≤n→t.In p.length (zan p).length→PC Tryz.prog 20 [zai (sub p t)] (.tup [.str (zpf (zaj p) t).1,.bool (zpf (zaj p) t).2]) true
 | 0,t,hn,hi=>by have:=Nat.mul_pos hi.1 hi.2.1; omega
 | n+1,t,hn,hi=>z40 hg hi fun t' hi' ha=>zv7 hg n (by omega) hi'
def zhi (p:List Txt):Pt:=⟨0,0,p.length,(zan p).length⟩
theorem yb7 {p:List Txt} (hg:zb7 p=true):sub p (zhi p)=p:=by
 unfold sub zhi
 simp only[List.drop_zero,List.take_length]
 conv=>rhs; rw [← List.map_id p]
 refine List.map_congr_left fun row hrow=>?_
 simp only[zjm,List.drop_zero,id_eq]
 rw [qT (by rw [zln hg row hrow]; exact qR _)]
theorem zzt {p:List Txt} (hg:zb7 p=true):(zhi p).In p.length (zan p).length:=by
 have hsm:=za3 hg
 obtain ⟨row0,h0,hm0⟩:=zaf hsm.1
 have hw:=zfc hg h0
 rw [← zb9 h0]at hw
 exact ⟨hsm.1,hw,by simp [zhi],by simp [zhi]⟩
def z3e (p:List Txt):Bool:=zbc p && (zdc (zaj p) (zhi p)).isSome
section
section
variable {p:List Txt}
end
end
def Tm.ok:Tm→Prop
 | .o=>True
 | .un c t=>(c=62∨c=94)∧t.ok
 | .bin m a b=>(m=124∨m=45)∧a.ok∧b.ok
def Tm.n:Tm→Nat
 | .o=>1
 | .un _ t=>t.n
 | .bin _ a b=>a.n+b.n
theorem Tm.pos:∀ t:Tm,1≤t.n
 | .o=>qR _
 | .un _ t=>t.pos
 | .bin _ a b=>by have:=a.pos; simp only[Tm.n]; omega
def Tm.pure:Tm→Prop
 | .o=>True
 | .un _ _=>False
 | .bin m a b=>(m=124∨m=45)∧a.pure∧b.pure
theorem Tm.pure.ok {t:Tm} (h:t.pure):t.ok:=by
 induction t with
 | o=>trivial
 | un c t _=>exact h.elim
 | bin m a b h1 h2=>exact ⟨h.1,h1 h.2.1,h2 h.2.2⟩
def Full (l:List Int):Prop:=(∀ (i:Nat) v,l[i]?=some v→0≤v∧v<l.length)∧∀ v:Nat,v<l.length→∃ i:Nat,l[i]?=some (v:Int)
def To (g:Nat→Nat) (l l':List Int):Prop:=l'.length=l.length∧∀ (i:Nat) v,l[i]?=some v→l'[l.length - 1 - v.toNat]?=some ((g i:Nat):Int)
theorem To.uniq {g:Nat→Nat} {l l' l2:List Int} (hl:Full l) (h:To g l l') (k:To g l l2):l'=l2:=by
 apply List.ext_getElem?
 intro i
 by_cases hi:i<l.length
 ·obtain ⟨j,hj⟩:=hl.2 (l.length - 1 - i) (by omega)
  have h1:=h.2 _ _ hj
  have h2:=k.2 _ _ hj
  rw [show l.length - 1 - ((l.length - 1 - i:Nat):Int).toNat=i by omega]at h1 h2
  rw [h1,h2]
 rw [List.getElem?_eq_none (by rw [h.1]; omega),List.getElem?_eq_none (by rw [k.1]; omega)]
section
section
variable {p t:List Txt} {σ:Nat→Nat}
end
end

def zrb (c:UInt8):Txt→Txt × Txt × Bool
 | []=>([],[],false)
 | x::r=>if x=c then ([],r,true) else (x::(zrb c r).1,(zrb c r).2.1,(zrb c r).2.2)
theorem zn8 {c:UInt8} {r:Txt}:∀ {a:Txt},c ∉ a→zrb c (a++c::r)=(a,r,true)
 | [],_=>by simp [zrb]
 | x::a,h=>by
  rw [List.mem_cons]at h
  have hx:¬ x=c:=fun e=>h (.inl e.symm)
  rw [List.cons_append,zrb,if_neg hx,zn8 fun hm=>h (.inr hm)]
theorem z3z {c:UInt8}:∀ {a:Txt},c ∉ a→zrb c a=(a,[],false)
 | [],_=>rfl
 | x::a,h=>by
  rw [List.mem_cons]at h
  have hx:¬ x=c:=fun e=>h (.inl e.symm)
  rw [zrb,if_neg hx,z3z fun hm=>h (.inr hm)]
theorem ztv {c:UInt8}:∀ {s:Txt},((zrb c s).2.2=false∧Lib.indexByte s c = -1∧zrb c s=(s,[],false)) ∨
  ∃ k:Nat,k<s.length∧(zrb c s).2.2=true∧Lib.indexByte s c=(k:Int)∧zrb c s=(s.take k,s.drop (k+1),true)
 | [] => .inl ⟨rfl,rfl,rfl⟩
 | x::r=>by
  by_cases hx:x=c
  ·refine .inr ⟨0,Nat.succ_pos _,?_,?_,?_⟩
   ·rw [zrb,if_pos hx]
   ·rw [Lib.indexByte,if_pos (beq_iff_eq.2 hx)]; rfl
   rw [zrb,if_pos hx]; rfl
  have hb:¬ (x == c)=true:=fun e=>hx (beq_iff_eq.1 e)
  rcases ztv (c:=c) (s:=r) with ⟨h1,h2,h3⟩ | ⟨k,h0,h1,h2,h3⟩
  ·refine .inl ⟨?_,?_,?_⟩
   ·rw [zrb,if_neg hx]; exact h1
   ·rw [Lib.indexByte,if_neg hb,h2]; rfl
   rw [zrb,if_neg hx,h3]
  refine .inr ⟨k+1,by rw [List.length_cons]; omega,?_,?_,?_⟩
  ·rw [zrb,if_neg hx]; exact h1
  ·rw [Lib.indexByte,if_neg hb,h2,if_neg (by rw [beq_iff_eq]; omega)]; rfl
  rw [zrb,if_neg hx,h3]; rfl
section
open Go Go.RowKit
set_option maxHeartbeats 1000000 in
set_option maxRecDepth 100000 in
theorem zp5 (s:ByteArray) (c:UInt8) (w:World) :
  Calls Tryz.prog 269 #[.string s,.int .u8 c.toNat] w fun e w'=>e = .returned (.int .i64 (Lib.indexByte s.data.toList c))∧w'=w:=by
 have hc:((c.toNat:Int)).toNat.toUInt8=c:=by simp
 go_enter Tryz.func269,Tryz.ntmps269
 go_wp2
 rw [run_callFunc_extern Tryz.func304 (by kernel_rfl) (by kernel_rfl) (by kernel_rfl) (e:=Extern.BytealgIndexByte.indexByte) (by kernel_rfl)]
 rw [Lib.run_indexByteString,hc]
 simp only[Result.andThen]
 rw [Oper.upon_value]
 go_wp2
 go_ret
 exact ⟨rfl,rfl⟩
theorem zv0 (s:List UInt8) (c:UInt8):PC Tryz.prog 269 [.str s,.int .u8 c.toNat] (.int .i64 (Lib.indexByte s c)) true:=by
 refine ⟨(⟨Tryz.func269,by kernel_rfl,rfl,by kernel_rfl⟩:Fn Tryz.prog 269 _ _).ent,fun F w cargs hF hl hv=>?_⟩
 obtain ⟨cs⟩:=cargs
 match cs,hl,hv with
 | [c0,c1],_,hv =>
  have h0:=hv 0 _ _ rfl rfl
  have h1:=hv 1 _ _ rfl rfl
  cases h0 with
  | str _ b0 e0 =>
   cases h1 with
   | int _ _ =>
    refine (zp5 b0 c w).mono ?_
    rintro e w' ⟨rfl,rfl⟩
    exact ⟨_,rfl,⟨RowKit.Below.refl _ _,qR _⟩,by rw [e0]; exact .int _ _⟩
end
def zvc (c:UInt8) (s:Txt):PV := .tup [.str (zrb c s).1,.str (zrb c s).2.1,.bool (zrb c s).2.2]
theorem ybc {a:Txt}:(a == a)=true:=beq_self_eq_true a
theorem ybt:((1:Int) == 1)=true:=rfl
theorem z0r:((1:Int) == 0)=false:=rfl
theorem zvz (s:Txt) (c:UInt8):PC Tryz.prog 222 [.str s,.str [c]] (.int .i64 (Lib.indexByte s c)) true:=by
 refine PC.of ⟨Tryz.func222,by kernel_rfl,rfl,by kernel_rfl⟩ zao mixed (by show 2≤Tryz.f222.ntmps; decide) ?_
 refine W.r fun K hK=>?_
 simp(disch:=omega)only[↓RU,RV,RH,↓reduceIte,qE,reduceCtorEq,if_pos]
 apply hK;clear hK K
 refine W.r fun K hK=>?_
 simp(disch:=omega)only[↓RU,RV,RH,↓reduceIte,qE,reduceCtorEq,if_pos,zab]
 apply hK;clear hK K
 refine W.seq ?_
 refine W.block ?_
 refine W.r fun K hK=>?_
 by_cases he:s=[c]
 ·skip
  subst he
  simp(disch:=omega)only[↓RU,RV,RH,↓reduceIte,qE,reduceCtorEq,if_pos,w64,zaa,zab,z0r,zmf,ybc]
  apply hK;clear hK K
  refine W.cond rfl (fun h0=>?_) (fun h0=>?_)
  ·try simp only[RL]at h0
   refine W.r fun K hK=>?_
   simp(disch:=omega)only[↓RU,RV,RH,↓reduceIte,qE,reduceCtorEq,if_pos]
   apply hK;clear hK K
   refine W.ret ?_
   refine XBlock.ret ?_
   refine XThen.ret ?_
   refine Br rfl ?_
   rw [show Lib.indexByte [c] c=0 by rw [Lib.indexByte,if_pos (beq_self_eq_true c)]]
   rfl
  try simp only[RL]at h0
  exact absurd h0 (by simp)
 skip
 have heb:(([c]:Txt) == s)=false:=by rw [beq_eq_false_iff_ne]; exact fun h=>he h.symm
 simp(disch:=omega)only[↓RU,RV,RH,↓reduceIte,qE,reduceCtorEq,if_pos,w64,zaa,zab,z0r,zmf,heb]
 apply hK;clear hK K
 refine W.cond rfl (fun h0=>?_) (fun h0=>?_)
 ·try simp only[RL]at h0
  exact absurd h0 (by simp)
 try simp only[RL]at h0
 refine W.r fun K hK=>?_
 simp(disch:=omega)only[↓RU,RV,RH,↓reduceIte,qE,reduceCtorEq,if_pos,w64,zaa,ybt]
 apply hK;clear hK K
 refine W.cond rfl (fun h1=>?_) (fun h1=>?_)
 ·try simp only[RL]at h1
  refine W.r fun K hK=>?_
  simp(disch:=omega)only[↓RU,RV,RH,↓reduceIte,qE,reduceCtorEq,if_pos,qN,zab,qZ,List.getElem?_cons_zero]
  refine zac.pc (zv0 s c) rfl (.inl rfl) ?_
  simp(disch:=omega)only[↓RU,RV,RH,↓reduceIte,qE,reduceCtorEq,if_pos,qN,zab,qZ,List.getElem?_cons_zero]
  apply hK;clear hK K
  refine W.ret ?_
  refine XBlock.ret ?_
  refine XThen.ret ?_
  refine Br rfl ?_
  rfl
 try simp only[RL]at h1
 exact absurd h1 (by simp)
theorem ya8 (s:Txt) (c:UInt8) (hs:s.length≤1048576):PC Tryz.prog 126 [.str s,.str [c]] (zvc c s) true:=by
 refine PC.of ⟨Tryz.func126,by kernel_rfl,rfl,by kernel_rfl⟩ zao mixed (by show 2≤Tryz.f126.ntmps; decide) ?_
 refine W.r fun K hK=>?_
 simp(disch:=omega)only[↓RU,RV,RH,↓reduceIte,qE,reduceCtorEq,if_pos]
 apply hK;clear hK K
 refine W.seq ?_
 refine W.r fun K hK=>?_
 simp(disch:=omega)only[↓RU,RV,RH,↓reduceIte,qE,reduceCtorEq,if_pos,qN]
 refine zac.pc (zvz s c) rfl (.inl rfl) ?_
 simp(disch:=omega)only[↓RU,RV,RH,↓reduceIte,qE,reduceCtorEq,if_pos,qN]
 apply hK;clear hK K
 refine W.r fun K hK=>?_
 rcases ztv (c:=c) (s:=s) with ⟨h1,h2,h3⟩ | ⟨k,hk,h1,h2,h3⟩
 ·skip
  rw [h2]
  simp(disch:=omega)only[↓RU,RV,RH,↓reduceIte,qE,reduceCtorEq,if_pos,w64,zaa]
  apply hK;clear hK K
  refine W.cond rfl (fun h0=>?_) (fun h0=>?_)
  ·try simp only[RL]at h0
   exact absurd h0 (by simp)
  try simp only[RL]at h0
  refine W.skip ?_
  refine xn ?_
  refine W.r fun K hK=>?_
  simp(disch:=omega)only[↓RU,RV,RH,↓reduceIte,qE,reduceCtorEq,if_pos]
  apply hK;clear hK K
  refine W.ret ?_
  refine Br rfl ?_
  rw [zvc,h3]
  rfl
 skip
 rw [h2]
 have dk:decide ((k:Int) ≥ 0)=true:=decide_eq_true (by omega)
 simp(disch:=omega)only[↓RU,RV,RH,↓reduceIte,qE,reduceCtorEq,if_pos,w64,zaa,dk]
 apply hK;clear hK K
 refine W.cond rfl (fun h0=>?_) (fun h0=>?_)
 ·try simp only[RL]at h0
  refine W.seq_draw (by kernel_rfl) fun K hK=>?_
  simp(disch:=omega)only[↓RU,RV,RH,↓reduceIte,qE,reduceCtorEq,if_pos,Option.map_none,w64,↓RS,RG,qA,qM,qL,zaa,zab]
  apply hK;clear hK K
  refine W.ret ?_
  refine XThen.ret ?_
  refine Br rfl ?_
  rw [zvc,h3,show s.drop (k+1)=((s.take s.length).drop (((k:Int)+((1:Nat):Int)).toNat)) by rw [List.take_length]; congr 1]
  rfl
 try simp only[RL]at h0
 exact absurd h0 (by simp)
theorem z9x (s:Txt) (c:UInt8) (hs:s.length≤1048576):PC Tryz.prog 22 [.str s,.str [c]] (zvc c s) true:=by
 refine PC.of ⟨Tryz.func22,by kernel_rfl,rfl,by kernel_rfl⟩ zao mixed (by show 2≤Tryz.f22.ntmps; decide) ?_
 refine W.r fun K hK=>?_
 simp(disch:=omega)only[↓RU,RV,RH,↓reduceIte,qE,reduceCtorEq,if_pos]
 apply hK;clear hK K
 refine W.r fun K hK=>?_
 simp(disch:=omega)only[↓RU,RV,RH,↓reduceIte,qE,reduceCtorEq,if_pos,qN,zvc]
 refine zac.pc (ya8 s c hs) rfl (.inl rfl) ?_
 simp(disch:=omega)only[↓RU,RV,RH,↓reduceIte,qE,reduceCtorEq,if_pos,qN,zvc]
 apply hK;clear hK K
 refine W.ret ?_
 refine Br rfl ?_
 rfl
theorem zyb {a r:Txt} {c:UInt8} (h:c ∉ a) (hl:(a++c::r).length≤1048576):PC Tryz.prog 22 [.str (a++c::r),.str [c]] (.tup [.str a,.str r,.bool true]) true:=by
 have:=z9x (a++c::r) c hl
 rw [zvc,zn8 h]at this
 exact this
theorem z9w {a:Txt} {c:UInt8} (h:c ∉ a) (hl:a.length≤1048576):PC Tryz.prog 22 [.str a,.str [c]] (.tup [.str a,.str [],.bool false]) true:=by
 have:=z9x a c hl
 rw [zvc,z3z h]at this
 exact this
def zob (k:Nat):Txt:=[UInt8.ofNat (48+k)]
theorem z71 {k:Nat} (h:k<10):(([48,49,50,51,52,53,54,55,56,57,97,98,99,100,101,102,103,104,105,106,107,108,109,110,111,112,113,114,115,116,117,118,119,120,121,122]:Txt).take (k+1)).drop k=zob k:=by
 have:k=0∨k=1∨k=2∨k=3∨k=4∨k=5∨k=6∨k=7∨k=8∨k=9:=by omega
 rcases this with rfl | rfl | rfl | rfl | rfl | rfl | rfl | rfl | rfl | rfl <;> rfl
theorem z9a {k:Nat} (hk:k<10):PC Tryz.prog 273 [.int .i64 k] (.str (zob k)) true:=by
 refine PC.of ⟨Tryz.func273,by kernel_rfl,rfl,by kernel_rfl⟩ zao mixed (by show 1≤Tryz.f273.ntmps; decide) ?_
 refine W.r fun K hK=>?_
 simp(disch:=omega)only[↓RU,RV,RH,↓reduceIte,qE,reduceCtorEq,if_pos]
 apply hK;clear hK K
 refine W.seq ?_
 refine W.r fun K hK=>?_
 simp(disch:=omega)only[↓RU,RV,RH,↓reduceIte,qE,reduceCtorEq,if_pos,w64,zaa]
 apply hK;clear hK K
 refine W.cond rfl (fun h0=>?_) (fun h0=>?_)
 ·try simp only[RL]at h0
  refine W.r fun K hK=>?_
  simp(disch:=omega)only[↓RU,RV,RH,↓reduceIte,qE,reduceCtorEq,if_pos,w64,Option.map_none,↓RS,RG,qA,qM,qL,zaa,zab]
  apply hK;clear hK K
  refine W.ret ?_
  refine XThen.ret ?_
  refine Br rfl ?_
  rw [← z71 hk]
  rfl
 try simp only[RL]at h0
 exfalso; omega
theorem zvv {k:Nat} (hk:k<10):PC Tryz.prog 224 [.int .i64 k,.int .i64 10] (.str (zob k)) true:=by
 have d0:decide ((0:Int)≤(k:Int))=true:=decide_eq_true (by omega)
 have d1:decide ((k:Int)<100)=true:=decide_eq_true (by omega)
 have t10:((10:Int) == 10)=true:=rfl
 refine PC.of ⟨Tryz.func224,by kernel_rfl,rfl,by kernel_rfl⟩ zao mixed (by show 2≤Tryz.f224.ntmps; decide) ?_
 refine W.r fun K hK=>?_
 simp(disch:=omega)only[↓RU,RV,RH,↓reduceIte,qE,reduceCtorEq,if_pos]
 apply hK;clear hK K
 refine W.seq ?_
 refine W.r fun K hK=>?_
 simp(disch:=omega)only[↓RU,RV,RH,↓reduceIte,qE,reduceCtorEq,if_pos,w64,zaa,t10]
 apply hK;clear hK K
 refine W.cond rfl (fun h0=>?_) (fun h0=>?_)
 ·try simp only[RL]at h0
  refine W.seq ?_
  refine W.r fun K hK=>?_
  simp(disch:=omega)only[↓RU,RV,RH,↓reduceIte,qE,reduceCtorEq,if_pos,w64,ycj,d0,d1]
  apply hK;clear hK K
  refine W.cond rfl (fun h1=>?_) (fun h1=>?_)
  ·try simp only[RL]at h1
   refine W.r fun K hK=>?_
   simp(disch:=omega)only[↓RU,RV,RH,↓reduceIte,qE,reduceCtorEq,if_pos,qN]
   refine zac.pc (z9a hk) rfl (.inl rfl) ?_
   simp(disch:=omega)only[↓RU,RV,RH,↓reduceIte,qE,reduceCtorEq,if_pos,qN]
   apply hK;clear hK K
   refine W.ret ?_
   refine XThen.ret ?_
   refine XThen.ret ?_
   refine Br rfl ?_
   rfl
  try simp only[RL]at h1
  exact absurd h1 (by simp)
 try simp only[RL]at h0
 exact absurd h0 (by simp)
theorem z8d {k:Nat} (hk:k<10):PC Tryz.prog 128 [.int .i64 k] (.str (zob k)) true:=by
 refine PC.of ⟨Tryz.func128,by kernel_rfl,rfl,by kernel_rfl⟩ zao mixed (by show 1≤Tryz.f128.ntmps; decide) ?_
 refine W.r fun K hK=>?_
 simp(disch:=omega)only[↓RU,RV,RH,↓reduceIte,qE,reduceCtorEq,if_pos]
 apply hK;clear hK K
 refine W.r fun K hK=>?_
 simp(disch:=omega)only[↓RU,RV,RH,↓reduceIte,qE,reduceCtorEq,if_pos,qN]
 refine zac.pc (zvv hk) rfl (.inl rfl) ?_
 simp(disch:=omega)only[↓RU,RV,RH,↓reduceIte,qE,reduceCtorEq,if_pos,qN]
 apply hK;clear hK K
 refine W.ret ?_
 refine Br rfl ?_
 rfl
theorem ybl {k:Nat} (hk:k<10):PC Tryz.prog 24 [.int .i64 k] (.str (zob k)) true:=by
 refine PC.of ⟨Tryz.func24,by kernel_rfl,rfl,by kernel_rfl⟩ zao mixed (by show 1≤Tryz.f24.ntmps; decide) ?_
 refine W.r fun K hK=>?_
 simp(disch:=omega)only[↓RU,RV,RH,↓reduceIte,qE,reduceCtorEq,if_pos]
 apply hK;clear hK K
 refine W.r fun K hK=>?_
 simp(disch:=omega)only[↓RU,RV,RH,↓reduceIte,qE,reduceCtorEq,if_pos,qN]
 refine zac.pc (z8d hk) rfl (.inl rfl) ?_
 simp(disch:=omega)only[↓RU,RV,RH,↓reduceIte,qE,reduceCtorEq,if_pos,qN]
 apply hK;clear hK K
 refine W.ret ?_
 refine Br rfl ?_
 rfl
theorem z35 {s:Txt}:(s.map eB).take s.length=s.map eB:=qT (by simp)
theorem z3m {s:Txt}:ycv tab 22 9 (.str s)=some (.sl (s.map eB) s.length):=rfl
theorem zq6 {X0 X1 X2:Ob} {vb t:Nat} {s:Txt} (h0:s≠[]) (hs:s.length≤100000):Ev Tryz.prog 23 [.ref 3 vb 0,.str s] ⟨[X0,X1,X2,.arr vb 56 2 [.nilp,.nils]],t⟩ fun v S=>∃ vq t2:Nat,S=⟨[X0,X1,X2,.arr vb 56 2 [.ref 3 vb 0,.loc 4 vq 0 (s).length],.arr vq 5 1 ((s).map eB)],t2⟩:=by
 have hl:¬ s.length=0:=fun h=>h0 (List.eq_nil_of_length_eq_zero h)
 refine Ev.of ⟨Tryz.func23,by kernel_rfl,rfl,by kernel_rfl⟩ zao mixed (by show 2≤Tryz.f23.ntmps; decide) ?_
 refine W.r fun K hK=>?_
 simp(disch:=omega)only[↓RU,RV,RH,↓reduceIte,qE,reduceCtorEq,if_pos,↓RS,RG,qA,qM,qL]
 apply hK;clear hK K
 refine W.r fun K hK=>?_
 simp(disch:=omega)only[↓RU,RV,RH,↓reduceIte,qE,reduceCtorEq,if_pos,qN,↓RS,RG,qA,qM,qL,List.set_cons_succ,List.set_cons_zero]
 refine zac.ev (zg7 (S:=⟨[X0,X1,X2,.arr vb 56 2 [.nilp,.nils]],t⟩) (o:=3) rfl (.inl rfl)) ?_
 rintro _ _ ⟨rfl,rfl⟩
 simp(disch:=omega)only[↓RU,RV,RH,↓reduceIte,qE,reduceCtorEq,if_pos,qN,↓RS,RG,qA,qM,qL,List.set_cons_succ,List.set_cons_zero]
 apply hK;clear hK K
 refine W.r fun K hK=>?_
 simp(disch:=omega)only[↓RU,RV,RH,↓reduceIte,qE,reduceCtorEq,if_pos,↓RS,RG,qA,qM,qL,ty5,ty7,zab,ycg,ych,zd3,z3m,List.length_map,hl,z35]
 apply hK;clear hK K
 refine W.r fun K hK=>?_
 simp(disch:=omega)only[↓RU,RV,RH,↓reduceIte,qE,reduceCtorEq,if_pos,↓RS,RG,qA,qM,qL,zab]
 apply hK;clear hK K
 refine W.ret ?_
 refine Br rfl ?_
 exact ⟨5,_,_,rfl⟩
theorem zjq {X0 X1 X2:Ob} {vb vq t:Nat} {l s:Txt} (hl:l.length≤100000) (hs:s.length≤100000):Ev Tryz.prog 23 [.ref 3 vb 0,.str s] ⟨[X0,X1,X2,.arr vb 56 2 [.ref 3 vb 0,.loc 4 vq 0 (l).length],.arr vq 5 1 ((l).map eB)],t⟩ fun v S=>∃ vq t2:Nat,S=⟨[X0,X1,X2,.arr vb 56 2 [.ref 3 vb 0,.loc 4 vq 0 ((l++s)).length],.arr vq 5 1 (((l++s)).map eB)],t2⟩:=by
 refine Ev.of ⟨Tryz.func23,by kernel_rfl,rfl,by kernel_rfl⟩ zao mixed (by show 2≤Tryz.f23.ntmps; decide) ?_
 refine W.r fun K hK=>?_
 simp(disch:=omega)only[↓RU,RV,RH,↓reduceIte,qE,reduceCtorEq,if_pos,↓RS,RG,qA,qM,qL]
 apply hK;clear hK K
 refine W.r fun K hK=>?_
 simp(disch:=omega)only[↓RU,RV,RH,↓reduceIte,qE,reduceCtorEq,if_pos,qN,↓RS,RG,qA,qM,qL,List.set_cons_succ,List.set_cons_zero]
 refine zac.ev (zg7 (S:=⟨[X0,X1,X2,.arr vb 56 2 [.ref 3 vb 0,.loc 4 vq 0 (l).length],.arr vq 5 1 ((l).map eB)],t⟩) (o:=3) rfl (.inr rfl)) ?_
 rintro _ _ ⟨rfl,rfl⟩
 simp(disch:=omega)only[↓RU,RV,RH,↓reduceIte,qE,reduceCtorEq,if_pos,qN,↓RS,RG,qA,qM,qL,List.set_cons_succ,List.set_cons_zero]
 apply hK;clear hK K
 refine W.r fun K hK=>?_
 simp(disch:=omega)only[↓RU,RV,RH,↓reduceIte,qE,reduceCtorEq,if_pos,↓RS,RG,qA,qM,qL,ty5,ty7,zab,ycg,ych,zd3,z3m,List.length_map,z35]
 apply hK;clear hK K
 refine W.r fun K hK=>?_
 simp(disch:=omega)only[↓RU,RV,RH,↓reduceIte,qE,reduceCtorEq,if_pos,↓RS,RG,qA,qM,qL,zab]
 apply hK;clear hK K
 refine W.ret ?_
 refine Br rfl ?_
 exact ⟨5,t,t+1,by simp [zby]⟩
theorem zo2 {S:Store} {x t:Rect}:pEq tab S 37 (zrd x) (.agg [.int .i64 t.row,.int .i64 t.col,.int .i64 t.high,.int .i64 t.wide])=some (decide (x=t)):=by
 have h:(tab 37).kd = .struct [(0,3),(1,3),(2,3),(3,3)]:=by kernel_rfl
 have h2:zgs tab [(0,3),(1,3),(2,3),(3,3)] 0=true:=by kernel_rfl
 obtain ⟨b1,b2,b3,b4⟩:=x
 obtain ⟨o1,o2,o3,o4⟩:=t
 unfold pEq
 rw [h]
 simp [h2,Rect.cells,zp6]
def slO (l:List Int) (v:Nat):PV:=match l with | [] => .nils | _ => .loc 1 v 0 l.length
def stO (b:Ob) (l:List Int) (v t:Nat):Store:=match l with | []=>⟨[b],t⟩ | _=>⟨[b,.arr v 3 1 (l.map (.int .i64))],t⟩
theorem zus {v:Nat}:slO [] v = .nils:=rfl
theorem zut {b:Ob} {v t:Nat}:stO b [] v t=⟨[b],t⟩:=rfl
theorem zxj {l:List Int} {v:Nat} (h:l≠[]):slO l v = .loc 1 v 0 l.length:=by cases l with | nil=>exact absurd rfl h | cons a l=>rfl
theorem zxm {b:Ob} {l:List Int} {v t:Nat} (h:l≠[]):stO b l v t=⟨[b,.arr v 3 1 (l.map (.int .i64))],t⟩:=by cases l with | nil=>exact absurd rfl h | cons a l=>rfl
theorem z6a {b:Ob} {l:List Int} {v t:Nat} {im:Bool} {k:Nat}:reify (stO b l v t) im (k+2) (slO l v)=some (eInts l):=by
 cases l with
 | nil=>rfl
 | cons a l=>exact zcl (k:=k+1) (S:=⟨[b,.arr v 3 1 ((a::l).map (.int .i64))],t⟩) (o:=1) rfl (by simp) (z8i _)
theorem zmi {g:List (List Int)} {rs:List Rect}:(za6 g rs).isDef=true:=rfl
theorem z4x (b:Rect) (t:Rect) (l:List Int):(t.both b≠t∧l=[])∨(t.both b≠t∧l≠[])∨(t.both b=t∧l=[])∨(t.both b=t∧l≠[]):=by
 by_cases h:t.both b=t <;> by_cases e:l=[] <;> simp [h,e]
theorem z48 (g:List (List Int)) {rs:List Rect} (hrs:rs.length≤1000) (hfit:∀ b∈rs,b.Fit) {t:Rect} (ht:t.Fit):PC Tryz.prog 29 [ziq g rs t] (eInts (rms rs t)) true:=by
 simp only[ziq,Rect.cells]
 refine PC.of ⟨Tryz.func29,by kernel_rfl,rfl,by kernel_rfl⟩ zao mixed (by show 1≤Tryz.f29.ntmps; decide) ?_
 refine W.r fun K hK=>?_
 simp(disch:=omega)only[↓RU,RV,RH,↓reduceIte,qE,reduceCtorEq,if_pos,↓RS,RG,qA,qM,qL,ty6,zbq,zav,zaa,zbr,zaw]
 apply hK;clear hK K
 refine W.r fun K hK=>?_
 simp(disch:=omega)only[↓RU,RV,RH,↓reduceIte,qE,reduceCtorEq,if_pos,↓RS,RG,qA,qM,qL]
 apply hK;clear hK K
 refine W.seq ?_
 refine W.r fun K hK=>?_
 simp(disch:=omega)only[↓RU,RV,RH,↓reduceIte,qE,reduceCtorEq,if_pos,↓RS,RG,qA,qM,qL,ty1,ty3,zae,ty6,zgn,zc5,zbq,zav,zaa,zbr,zgo,zaw]
 apply hK;clear hK K
 refine W.block ?_
 refine W.loopS [1,10,11,12,3] (fun n vs S=>∃ i v tk:Nat,n=rs.length - i∧i≤rs.length∧vs=[.ref 0 0 0,znf rs,.int .i64 rs.length,.int .i64 i,slO (zgg rs t i) v]∧S=stO (.arr 0 39 5 [za6 g rs,.int .i64 t.row,.int .i64 t.col,.int .i64 t.high,.int .i64 t.wide]) (zgg rs t i) v tk) rs.length ?_ ?_
 ·refine ⟨1,[],[.ref 0 0 0,znf rs,.int .i64 rs.length,.int .i64 (0:Nat),slO [] 0],stO (.arr 0 39 5 [za6 g rs,.int .i64 t.row,.int .i64 t.col,.int .i64 t.high,.int .i64 t.wide]) [] 0 2,?_,?_,0,0,2,rfl,by omega,rfl,rfl⟩
  ·simp [-qU,Env.put,Env.of,zag,zcw,zau,za7,zbg,zbh,zc1,zc2,zei,zc0,zb3,zc3,zeh,zej,zb5,zb4,zbi,zcz,zc4,zeg,zb1,zb0,zbf,zb2,zcy,zin,qS,qP,qC,zus]
  simp [-qU,Env.put,Env.of,zag,zcw,zau,za7,zbg,zbh,zc1,zc2,zei,zc0,zb3,zc3,zeh,zej,zb5,zb4,zbi,zcz,zc4,zeg,zb1,zb0,zbf,zb2,zcy,zin,qS,qP,qC,zut,zny,Rect.cells]
 rintro n vs S - ⟨i,v,tk,rfl,h_i,rfl,rfl⟩
 refine W.r fun K hK=>?_
 simp(disch:=omega)only[↓RU,RV,RH,↓reduceIte,qE,reduceCtorEq,if_pos,w64,↓RS,RG,qA,qM,qL,zaa]
 apply hK;clear hK K
 refine W.seq ?_
 refine W.cond rfl (fun h=>?_) (fun h=>?_)
 ·try simp only[RL]at h
  obtain ⟨b,hb,hbm⟩:=zaf (show i<rs.length by omega)
  have hbr:=zko hb
  have hlen:=z6e (rs:=rs) (t:=t) (k:=i)
  generalize hl:zgg rs t i=l at hlen
  refine W.skip ?_
  refine xn ?_
  refine W.seq ?_
  refine W.block ?_
  refine W.r fun K hK=>?_
  obtain ⟨hd,rfl⟩ | ⟨hd,hw⟩ | ⟨hd,rfl⟩ | ⟨hd,hw⟩:=z4x b t l
  ·skip
   rw [zus,zut]
   simp(disch:=omega)only[↓RU,RV,RH,↓reduceIte,qE,reduceCtorEq,if_pos,↓RS,RG,qA,qM,qL,ty3,zav,zaa,zaw,hbr,zba,Rect.cells]
   apply hK;clear hK K
   refine W.seq_draw (by kernel_rfl) fun K hK=>?_
   simp(disch:=omega)only[↓RU,RV,RH,↓reduceIte,qE,reduceCtorEq,if_pos,qN,w64,↓RS,RG,qA,qM,qL,ty6,zbq,zav,zaa,zbr,zaw]
   refine zac.pc (zkq ht.in_ (hfit b hbm).in_) rfl (.inl rfl) ?_
   simp(disch:=omega)only[↓RU,RV,RH,↓reduceIte,qE,reduceCtorEq,if_pos,qN,w64,↓RS,RG,qA,qM,qL,ty6,zbq,zav,zaa,zbr,zaw,zo2,qO]
   apply hK;clear hK K
   refine W.cond rfl (fun h1=>?_) (fun h1=>?_)
   ·try simp only[RL]at h1
    exact absurd h1 (by simp [hd])
   try simp only[RL]at h1
   refine W.skip ?_
   refine XbN ?_
   refine xn ?_
   refine W.k fun K hK=>?_
   simp(disch:=omega)only[↓RU,RV,RH,↓reduceIte,qE,reduceCtorEq,if_pos,w64,↓RS,RG,qA,qM,qL,zaa]
   apply hK;clear hK K
   refine xn ?_
   have hnx:zgg rs t (i+1)=[]:=by rw [zj3 hb,hl,if_neg hd] <;> rfl
   refine ⟨rs.length - (i+1),by omega,1,[],[.ref 0 0 0,znf rs,.int .i64 rs.length,.int .i64 ((i+1:Nat):Int),slO (zgg rs t (i+1)) v],stO (.arr 0 39 5 [za6 g rs,.int .i64 t.row,.int .i64 t.col,.int .i64 t.high,.int .i64 t.wide]) (zgg rs t (i+1)) v (tk+2),?_,?_,i+1,v,(tk+2),rfl,by omega,rfl,rfl⟩
   ·rw [hnx]; simp [-qU,Env.put,Env.of,zag,zcw,zau,za7,zbg,zbh,zc1,zc2,zei,zc0,zb3,zc3,zeh,zej,zb5,zb4,zbi,zcz,zc4,zeg,zb1,zb0,zbf,zb2,zcy,zin,qS,qP,qC,zus]
   rw [hnx]; simp [-qU,Env.put,Env.of,zag,zcw,zau,za7,zbg,zbh,zc1,zc2,zei,zc0,zb3,zc3,zeh,zej,zb5,zb4,zbi,zcz,zc4,zeg,zb1,zb0,zbf,zb2,zcy,zin,qS,qP,qC,zut,Rect.cells]
  ·skip
   rw [zxj hw,zxm hw]
   simp(disch:=omega)only[↓RU,RV,RH,↓reduceIte,qE,reduceCtorEq,if_pos,↓RS,RG,qA,qM,qL,ty3,zav,zaa,zaw,hbr,zba,Rect.cells]
   apply hK;clear hK K
   refine W.seq_draw (by kernel_rfl) fun K hK=>?_
   simp(disch:=omega)only[↓RU,RV,RH,↓reduceIte,qE,reduceCtorEq,if_pos,qN,w64,↓RS,RG,qA,qM,qL,ty6,zbq,zav,zaa,zbr,zaw]
   refine zac.pc (zkq ht.in_ (hfit b hbm).in_) rfl (.inl rfl) ?_
   simp(disch:=omega)only[↓RU,RV,RH,↓reduceIte,qE,reduceCtorEq,if_pos,qN,w64,↓RS,RG,qA,qM,qL,ty6,zbq,zav,zaa,zbr,zaw,zo2,qO]
   apply hK;clear hK K
   refine W.cond rfl (fun h1=>?_) (fun h1=>?_)
   ·try simp only[RL]at h1
    exact absurd h1 (by simp [hd])
   try simp only[RL]at h1
   refine W.skip ?_
   refine XbN ?_
   refine xn ?_
   refine W.k fun K hK=>?_
   simp(disch:=omega)only[↓RU,RV,RH,↓reduceIte,qE,reduceCtorEq,if_pos,w64,↓RS,RG,qA,qM,qL,zaa]
   apply hK;clear hK K
   refine xn ?_
   have hnx:zgg rs t (i+1)=l:=by rw [zj3 hb,hl,if_neg hd] <;> rfl
   refine ⟨rs.length - (i+1),by omega,2,[],[.ref 0 0 0,znf rs,.int .i64 rs.length,.int .i64 ((i+1:Nat):Int),slO (zgg rs t (i+1)) v],stO (.arr 0 39 5 [za6 g rs,.int .i64 t.row,.int .i64 t.col,.int .i64 t.high,.int .i64 t.wide]) (zgg rs t (i+1)) v (tk+2),?_,?_,i+1,v,(tk+2),rfl,by omega,rfl,rfl⟩
   ·rw [hnx]; simp [-qU,Env.put,Env.of,zag,zcw,zau,za7,zbg,zbh,zc1,zc2,zei,zc0,zb3,zc3,zeh,zej,zb5,zb4,zbi,zcz,zc4,zeg,zb1,zb0,zbf,zb2,zcy,zin,qS,qP,qC,zxj hw]
   rw [hnx]; simp [-qU,Env.put,Env.of,zag,zcw,zau,za7,zbg,zbh,zc1,zc2,zei,zc0,zb3,zc3,zeh,zej,zb5,zb4,zbi,zcz,zc4,zeg,zb1,zb0,zbf,zb2,zcy,zin,qS,qP,qC,zxm hw,zji,Rect.cells]
  ·skip
   rw [zus,zut]
   simp(disch:=omega)only[↓RU,RV,RH,↓reduceIte,qE,reduceCtorEq,if_pos,↓RS,RG,qA,qM,qL,ty3,zav,zaa,zaw,hbr,zba,Rect.cells]
   apply hK;clear hK K
   refine W.seq_draw (by kernel_rfl) fun K hK=>?_
   simp(disch:=omega)only[↓RU,RV,RH,↓reduceIte,qE,reduceCtorEq,if_pos,qN,w64,↓RS,RG,qA,qM,qL,ty6,zbq,zav,zaa,zbr,zaw]
   refine zac.pc (zkq ht.in_ (hfit b hbm).in_) rfl (.inl rfl) ?_
   simp(disch:=omega)only[↓RU,RV,RH,↓reduceIte,qE,reduceCtorEq,if_pos,qN,w64,↓RS,RG,qA,qM,qL,ty6,zbq,zav,zaa,zbr,zaw,zo2,qO]
   apply hK;clear hK K
   refine W.cond rfl (fun h1=>?_) (fun h1=>?_)
   ·try simp only[RL]at h1
    refine W.k fun K hK=>?_
    simp(disch:=omega)only[↓RU,RV,RH,↓reduceIte,qE,reduceCtorEq,if_pos,↓RS,RG,qA,qM,qL,zae,zaa]
    apply hK;clear hK K
    refine XbN ?_
    refine xn ?_
    refine W.k fun K hK=>?_
    simp(disch:=omega)only[↓RU,RV,RH,↓reduceIte,qE,reduceCtorEq,if_pos,w64,↓RS,RG,qA,qM,qL,zaa]
    apply hK;clear hK K
    refine xn ?_
    have hnx:zgg rs t (i+1)=[(i:Int)]:=by rw [zj3 hb,hl,if_pos hd] <;> rfl
    refine ⟨rs.length - (i+1),by omega,1,[3],[.ref 0 0 0,znf rs,.int .i64 rs.length,.int .i64 ((i+1:Nat):Int),slO (zgg rs t (i+1)) (tk+3)],stO (.arr 0 39 5 [za6 g rs,.int .i64 t.row,.int .i64 t.col,.int .i64 t.high,.int .i64 t.wide]) (zgg rs t (i+1)) (tk+3) (tk+4),?_,?_,i+1,(tk+3),(tk+4),rfl,by omega,rfl,rfl⟩
    ·rw [hnx]; simp [-qU,Env.put,Env.of,zag,zcw,zau,za7,zbg,zbh,zc1,zc2,zei,zc0,zb3,zc3,zeh,zej,zb5,zb4,zbi,zcz,zc4,zeg,zb1,zb0,zbf,zb2,zcy,zin,qS,qP,qC,zxj]
    rw [hnx]; simp [-qU,Env.put,Env.of,zag,zcw,zau,za7,zbg,zbh,zc1,zc2,zei,zc0,zb3,zc3,zeh,zej,zb5,zb4,zbi,zcz,zc4,zeg,zb1,zb0,zbf,zb2,zcy,zin,qS,qP,qC,zxm,zny,Rect.cells]
   try simp only[RL]at h1
   exact absurd h1 (by simp [hd])
  skip
  rw [zxj hw,zxm hw]
  simp(disch:=omega)only[↓RU,RV,RH,↓reduceIte,qE,reduceCtorEq,if_pos,↓RS,RG,qA,qM,qL,ty3,zav,zaa,zaw,hbr,zba,Rect.cells]
  apply hK;clear hK K
  refine W.seq_draw (by kernel_rfl) fun K hK=>?_
  simp(disch:=omega)only[↓RU,RV,RH,↓reduceIte,qE,reduceCtorEq,if_pos,qN,w64,↓RS,RG,qA,qM,qL,ty6,zbq,zav,zaa,zbr,zaw]
  refine zac.pc (zkq ht.in_ (hfit b hbm).in_) rfl (.inl rfl) ?_
  simp(disch:=omega)only[↓RU,RV,RH,↓reduceIte,qE,reduceCtorEq,if_pos,qN,w64,↓RS,RG,qA,qM,qL,ty6,zbq,zav,zaa,zbr,zaw,zo2,qO]
  apply hK;clear hK K
  refine W.cond rfl (fun h1=>?_) (fun h1=>?_)
  ·try simp only[RL]at h1
   refine W.k fun K hK=>?_
   simp(disch:=omega)only[↓RU,RV,RH,↓reduceIte,qE,reduceCtorEq,if_pos,↓RS,RG,qA,qM,qL,zae,zaa]
   apply hK;clear hK K
   refine XbN ?_
   refine xn ?_
   refine W.k fun K hK=>?_
   simp(disch:=omega)only[↓RU,RV,RH,↓reduceIte,qE,reduceCtorEq,if_pos,w64,↓RS,RG,qA,qM,qL,zaa]
   apply hK;clear hK K
   refine xn ?_
   have hnx:zgg rs t (i+1)=l++[(i:Int)]:=by rw [zj3 hb,hl,if_pos hd] <;> rfl
   refine ⟨rs.length - (i+1),by omega,2,[],[.ref 0 0 0,znf rs,.int .i64 rs.length,.int .i64 ((i+1:Nat):Int),slO (zgg rs t (i+1)) (tk+2)],stO (.arr 0 39 5 [za6 g rs,.int .i64 t.row,.int .i64 t.col,.int .i64 t.high,.int .i64 t.wide]) (zgg rs t (i+1)) (tk+2) (tk+4),?_,?_,i+1,(tk+2),(tk+4),rfl,by omega,rfl,rfl⟩
   ·rw [hnx]; simp [-qU,Env.put,Env.of,zag,zcw,zau,za7,zbg,zbh,zc1,zc2,zei,zc0,zb3,zc3,zeh,zej,zb5,zb4,zbi,zcz,zc4,zeg,zb1,zb0,zbf,zb2,zcy,zin,qS,qP,qC,zxj (l:=l++[(i:Int)]) (by simp)]
   rw [hnx]; simp [-qU,Env.put,Env.of,zag,zcw,zau,za7,zbg,zbh,zc1,zc2,zei,zc0,zb3,zc3,zeh,zej,zb5,zb4,zbi,zcz,zc4,zeg,zb1,zb0,zbf,zb2,zcy,zin,qS,qP,qC,zxm (l:=l++[(i:Int)]) (by simp),zji,Rect.cells]
  try simp only[RL]at h1
  exact absurd h1 (by simp [hd])
 try simp only[RL]at h
 obtain rfl:rs.length=i:=by omega
 refine W.exit ?_
 refine xe ?_
 refine xe ?_
 refine XBlock.hit ?_
 refine xn ?_
 refine W.r fun K hK=>?_
 simp(disch:=omega)only[↓RU,RV,RH,↓reduceIte,qE,reduceCtorEq,if_pos,↓RS,RG,qA,qM,qL]
 apply hK;clear hK K
 refine W.ret ?_
 refine Br rfl ?_
 exact z6a
theorem zd1 {g:List (List Int)} {nh nw:Nat} (hg:GW g nh nw) (rs:List Rect) {t:Pt} (ht:t.In nh nw) {level:Bool} {line:Nat} (hl1:1≤line) (hl2:if level then line<nh else line<nw):PC Tryz.prog 280 [ziq g rs t.rect,.bool level,.int .i64 line] (.bool (thG g t level line)) true:=by
 obtain ⟨t1,t2,t3,t4⟩:=ht
 have hgg:=hg
 obtain ⟨g1,g2,g3,g4⟩:=hg.2.2
 obtain ⟨fr,hfr⟩:∃ fr:Nat,(if level then t.c else t.r)=fr:=⟨_,rfl⟩
 obtain ⟨lg,hlg⟩:∃ lg:Nat,(if level then t.w else t.h)=lg:=⟨_,rfl⟩
 have hth:thG g t level line=(List.range lg).all fun j=>zne g level line (fr+j):=by subst hfr hlg; cases level <;> rfl
 have hin:∀ j,j<lg→InL nh nw level line (fr+j):=by subst hfr hlg; intro j hj; refine ⟨hl1,?_⟩; cases level <;> simp at hj hl2 ⊢ <;> omega
 have hb:fr≤6∧lg≤6:=by subst hfr hlg; cases level <;> simp <;> omega
 have hln:line≤6:=by cases level <;> simp at hl2 <;> omega
 simp only[Pt.rect,ziq,Rect.cells]
 refine PC.of ⟨Tryz.func280,by kernel_rfl,rfl,by kernel_rfl⟩ zao mixed (by show 3≤Tryz.f280.ntmps; decide) ?_
 refine W.r fun K hK=>?_
 simp(disch:=omega)only[↓RU,RV,RH,↓reduceIte,qE,reduceCtorEq,if_pos,↓RS,RG,qA,qM,qL,ty6,zbq,zav,zaa,zbr,zaw]
 apply hK;clear hK K
 refine W.seq_draw (by kernel_rfl) fun K hK=>?_
 simp(disch:=omega)only[↓RU,RV,RH,↓reduceIte,qE,reduceCtorEq,if_pos,↓RS,RG,qA,qM,qL,ty6,zbq,zav,zaa,zbr,zaw]
 apply hK;clear hK K
 refine W.join [3,1,2,7,8] (fun vs S=>vs=[.ref 0 0 0,.bool level,.int .i64 line,.int .i64 fr,.int .i64 lg]∧S=⟨[.arr 0 39 5 [za6 g rs,.int .i64 t.r,.int .i64 t.c,.int .i64 t.h,.int .i64 t.w]],1⟩) ?_ ?_
 ·
  refine W.r fun K hK=>?_
  simp(disch:=omega)only[↓RU,RV,RH,↓reduceIte,qE,reduceCtorEq,if_pos,↓RS,RG,qA,qM,qL]
  apply hK;clear hK K
  refine W.cond rfl (fun h0=>?_) (fun h0=>?_)
  ·try simp only[RL]at h0
   refine W.draw_k (by kernel_rfl) fun K hK=>?_
   simp(disch:=omega)only[↓RU,RV,RH,↓reduceIte,qE,reduceCtorEq,if_pos,↓RS,RG,qA,qM,qL,ty6,zbq,zav,zaa,zbr,zaw]
   apply hK;clear hK K
   refine xn ?_
   refine ⟨1,?_,rfl⟩
   simp only[h0,if_true,qF,if_false]at hfr hlg
   subst hfr hlg h0
   simp [Env.put,Env.of,zag]
  try simp only[RL]at h0
  refine W.skip ?_
  refine xn ?_
  refine ⟨1,?_,rfl⟩
  simp only[h0,if_true,qF,if_false]at hfr hlg
  subst hfr hlg h0
  simp [Env.put,Env.of,zag]
 rintro vs S - ⟨rfl,rfl⟩
 refine W.seq ?_
 refine W.r fun K hK=>?_
 simp(disch:=omega)only[↓RU,RV,RH,↓reduceIte,qE,reduceCtorEq,if_pos,↓RS,RG,qA,qM,qL]
 apply hK;clear hK K
 refine W.block ?_
 refine W.loop [3,1,2,7,8,9] (fun n vs S=>∃ i:Nat,n=lg - i∧i≤lg∧(∀ j,j<i→zne g level line (fr+j)=true)∧vs=[.ref 0 0 0,.bool level,.int .i64 line,.int .i64 fr,.int .i64 lg,.int .i64 ((fr+i:Nat):Int)]∧S=⟨[.arr 0 39 5 [za6 g rs,.int .i64 t.r,.int .i64 t.c,.int .i64 t.h,.int .i64 t.w]],1⟩) (lg) ?_ ?_
 ·refine ⟨1,0,rfl,Nat.zero_le _,(fun j hj=>by omega),?_,rfl⟩
  simp [Env.put,Env.of,zag]
 rintro n vs S - ⟨i,rfl,h_i,hall,rfl,rfl⟩
 refine W.seq ?_
 refine W.r fun K hK=>?_
 simp(disch:=omega)only[↓RU,RV,RH,↓reduceIte,qE,reduceCtorEq,if_pos,w64,↓RS,RG,qA,qM,qL,zaa]
 apply hK;clear hK K
 refine W.cond rfl (fun h1=>?_) (fun h1=>?_)
 ·try simp only[RL]at h1
  refine W.skip ?_
  refine xn ?_
  refine W.seq ?_
  refine W.block ?_
  refine W.r fun K hK=>?_
  have hin2:=hin i (by omega)
  simp(disch:=omega)only[↓RU,RV,RH,↓reduceIte,qE,reduceCtorEq,if_pos,qN,↓RS,RG,qA,qM,qL,ty6,zbq,zav,zaa,zbr,zaw]
  refine zac.pc (z32 hgg rs hin2) rfl (.inl rfl) ?_
  simp(disch:=omega)only[↓RU,RV,RH,↓reduceIte,qE,reduceCtorEq,if_pos,qN,↓RS,RG,qA,qM,qL,ty6,zbq,zav,zaa,zbr,zaw]
  apply hK;clear hK K
  refine W.cond rfl (fun h2=>?_) (fun h2=>?_)
  ·try simp only[RL]at h2
   refine W.r fun K hK=>?_
   simp(disch:=omega)only[↓RU,RV,RH,↓reduceIte,qE,reduceCtorEq,if_pos,↓RS,RG,qA,qM,qL]
   apply hK;clear hK K
   refine W.ret ?_
   refine XBlock.ret ?_
   refine XThen.ret ?_
   refine XThen.ret ?_
   refine XBlock.ret ?_
   refine XThen.ret ?_
   refine Br rfl ?_
   rw [hth,show ((List.range lg).all fun j=>zne g level line (fr+j))=false from by rw [List.all_eq_false]; exact ⟨i,List.mem_range.2 (by omega),by simpa using h2⟩]
   rfl
  try simp only[RL]at h2
  refine W.skip ?_
  refine XbN ?_
  refine xn ?_
  refine W.k fun K hK=>?_
  simp(disch:=omega)only[↓RU,RV,RH,↓reduceIte,qE,reduceCtorEq,if_pos,w64,↓RS,RG,qA,qM,qL,zaa]
  apply hK;clear hK K
  refine xn ?_
  refine ⟨lg - (i+1),by omega,1,i+1,rfl,by omega,(fun j hj=>by rcases Nat.lt_succ_iff_lt_or_eq.1 hj with h | rfl; exact hall j h; simpa using h2),?_,rfl⟩
  simp [Env.put,Env.of]; omega
 try simp only[RL]at h1
 refine W.exit ?_
 refine xe ?_
 refine xe ?_
 refine XBlock.hit ?_
 refine xn ?_
 refine W.r fun K hK=>?_
 simp(disch:=omega)only[↓RU,RV,RH,↓reduceIte,qE,reduceCtorEq,if_pos,↓RS,RG,qA,qM,qL]
 apply hK;clear hK K
 refine W.ret ?_
 refine Br rfl ?_
 rw [hth,show ((List.range lg).all fun j=>zne g level line (fr+j))=true from by rw [List.all_eq_true]; intro j hj; exact hall j (by have:=List.mem_range.1 hj; omega)]
 rfl
theorem z9l {g:List (List Int)} {row:List Int} (h:g[0]?=some row) (rs:List Rect):PC Tryz.prog 17 [za6 g rs] (ziq g rs ⟨0,0,g.length,row.length⟩) false:=by
 refine PC.of ⟨Tryz.func17,by kernel_rfl,rfl,by kernel_rfl⟩ zao mixed (by show 1≤Tryz.f17.ntmps; decide) ?_
 refine W.r fun K hK=>?_
 simp(disch:=omega)only[↓RU,RV,RH,↓reduceIte,qE,reduceCtorEq,if_pos,↓RS,RG,qA,qM,qL,ty6,zbq,zav,zaa,zbr,zaw]
 apply hK;clear hK K
 refine W.r fun K hK=>?_
 simp(disch:=omega)only[↓RU,RV,RH,↓reduceIte,qE,reduceCtorEq,if_pos,qN,↓RS,RG,qA,qM,qL,ty6,zbq,zav,zaa,zbr,zaw,zmi]
 refine zac.pc (zp0 g rs) rfl (.inl rfl) ?_
 simp(disch:=omega)only[↓RU,RV,RH,↓reduceIte,qE,reduceCtorEq,if_pos,qN,↓RS,RG,qA,qM,qL,ty6,zbq,zav,zaa,zbr,zaw,zmi]
 refine zac.pc (zzn h rs) rfl (.inl rfl) ?_
 simp(disch:=omega)only[↓RU,RV,RH,↓reduceIte,qE,reduceCtorEq,if_pos,qN,↓RS,RG,qA,qM,qL,ty6,zbq,zav,zaa,zbr,zaw,zmi]
 apply hK;clear hK K
 refine W.ret ?_
 refine Br rfl ?_
 rw [show (tab 39).size=5 by kernel_rfl]
 rfl
theorem ya9 (g:List (List Int)) (rs:List Rect) (t:Rect):PC Tryz.prog 227 [ziq g rs t] (.fn 279 [.ip (za6 g rs::t.cells) 0]) false:=by
 simp only[ziq,Rect.cells]
 refine PC.of ⟨Tryz.func227,by kernel_rfl,rfl,by kernel_rfl⟩ zao mixed (by show 1≤Tryz.f227.ntmps; decide) ?_
 refine W.r fun K hK=>?_
 simp(disch:=omega)only[↓RU,RV,RH,↓reduceIte,qE,reduceCtorEq,if_pos,↓RS,RG,qA,qM,qL,ty6,zbq,zav,zaa,zbr,zaw]
 apply hK;clear hK K
 refine W.r fun K hK=>?_
 simp(disch:=omega)only[↓RU,RV,RH,↓reduceIte,qE,reduceCtorEq,if_pos,↓RS,RG,qA,qM,qL]
 apply hK;clear hK K
 refine W.ret ?_
 refine Br rfl ?_
 rfl
end Fw
end Go.Proofs.YtclbmeloiefbaaaGreatDoor
