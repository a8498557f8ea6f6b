/- Parts of the framework and of the proof: The program's closures and walls in words of cells: left of is going on from just left of, above is going on from just above; Orders of a plain plan: each two rooms are in just one; Where rooms begin and how far they may be moved: the program's lists are the specification's; Shapes in plain words: the program's least shapes are the specification's; Sizes in plain words: areas, places, slacks, longest rows; Grids whose cells are alike are numbered alike; the text of a numbered grid is named as it should be; Orders of plans that are made of other plans: rows and columns exchanged, turned, seen from behind, made wide or tight; Rooms put in a row by how many are ahead of them; The two orders are orders of all rooms; the places of the second order in the first one; What the laws of sizes ask, of plans in plain words; Longest rows of rooms, as the specification finds them, in plain words; Longest growing parts of the permutation of a plan are longest rows of its rooms; Plans that are made of other plans: their orders, their permutations and their least sizes; Upright cuts are where the permutation falls apart; Two plans side by side: their orders; Two plans side by side: their orders are those of each, and the first one's rooms are left of the second one's; Grids that are made of cells told by a function, gone through; Plans made of plans, gone through; Rooms of two plans put together, beside each other or one below the other: the permutation; Plans made of two plans beside each other or one below the other, each stretched where they meet; Cut trees: parts of plans, their first cuts, and the tree of all; Parts of plans as texts: the specification's cut and its parts; Parts of plans in the program: the rooms of a part, its lines, its cut; Cut trees, gone down; what is told along them; Cuts and orders: what lies on the two sides of a cut; widths along cuts are least widths; Plans that are cuttable, by the orders of their rooms; so by their permutations; Permutations of plain plans are fair; Loose permutations are those that fall apart; Cuts in the specification, gone through; Texts along cuts and widths along cuts in the specification, gone through; Fair and loose permutations of plain plans, as the program asks; Terms: signs moved inwards; permutations of terms; Plans of terms; The framework, part z: a region in which the bytes of a text become a new row that is written later; Drawing: the reader, gone through; Terms: the reader of the program, gone through; Plans that are cut, in plain words; Plans of terms by the specification: its texts are those of the grids; Plans of two plans by the program, gone through; Plans of terms by the program, gone through; Plans cut in two, gone through; Drawing plans, gone through; Drawing plans, gone through, continued; Drawing needs, gone through; Parts of plans in the program: rooms, lines, gone through; The framework, part ha: loops over functions: yield's contract out of the body's walk, and the statement; The framework, part hb: a region in which two variables are made, either of them ahead of the other; The cuts of a part, and the first one, gone through; Wider plans in the specification; draws of two plans, gone through; Terms by the specification, gone through; Plans turned, seen from behind and put beside each other by the specification, gone through; Plans of terms by the specification, gone through; Plans have terms with their permutation; texts of terms are read back; Texts before and behind a sign; texts of terms and of plans have no white space; What comes of parts along first cuts, gone through; Is a plan cuttable: the program, gone through; The framework: an open region op by op, with what is read late; Terms tidied, their texts, gone through; strings.IndexByte, in the model's own words. -/
import Derived.Test.YthbombjjioojeaaGreatDoorJ2
import Derived.Test.YthbombjjioojeaaGreatDoorJ1
import Derived.Lib.ConvBytes
import Derived.Lib.Bytealg
set_option linter.all false
namespace Go.Proofs.YthbombjjioojeaaGreatDoor
namespace Fw
open Go
open Nat renaming reduceEqDiff → qE, reduceLeDiff → qL, reduceAdd → qA, reduceMul → qM, le_refl → qR
open List renaming append_nil → qN, mapM_append → qP, mapM_cons → qC, mapM_map → qU, range_succ → qS, take_of_length_le → qT
open Bool renaming and_eq_true → qB, false_eq_true → qF
open Option renaming map_some → qO, map_eq_some_iff → qI
open Int renaming reduceToNat → qZ
section
section
variable {n:Nat} {M:List (List Bool)}
theorem absorb {p q:Bool}:(p || (q && p))=p:=by cases p <;> cases q <;> rfl
theorem zy0 (h:Sq n M) {k:Nat} (hk:k<n):∀ i,i≤n→Sq n ((List.range i).foldl (clA n k) M) ∧
  ∀ x y,x<n→y<n→za9 ((List.range i).foldl (clA n k) M) x y=if x<i then za9 M x y || (za9 M x k && za9 M k y) else za9 M x y
 | 0,_=>⟨h,fun x y _ _=>by simp⟩
 | i+1,hi=>by
  obtain ⟨h1,h2⟩:=zy0 h hk i (by omega)
  rw [zcw]
  generalize (List.range i).foldl (clA n k) M=X at h1 h2 ⊢
  obtain ⟨h3,h4⟩:=z4b h1 hk (show i<n by omega) n (qR _)
  refine ⟨h3,fun x y hx hy=>?_⟩
  unfold clA
  rw [h4 x y hx hy]
  by_cases e:x=i
  ·subst e
   have e1:za9 X x y=za9 M x y:=by rw [h2 x y hx hy,if_neg (Nat.lt_irrefl _)]
   have e2:za9 X x k=za9 M x k:=by rw [h2 x k hx hk,if_neg (Nat.lt_irrefl _)]
   have e3:za9 X k y=za9 M k y:=by
    rw [h2 k y hk hy]
    split
    ·exact absorb
    rfl
   rw [if_pos ⟨rfl,hy⟩,if_pos (by omega),e1,e2,e3]
  rw [if_neg (fun q=>e q.1),h2 x y hx hy]
  by_cases e2:x<i
  ·rw [if_pos e2,if_pos (by omega)]
  rw [if_neg e2,if_neg (by omega)]
theorem z5p (h:Sq n M) {k:Nat} (hk:k<n) {x y:Nat} (hx:x<n) (hy:y<n):za9 (clK n M k) x y=(za9 M x y || (za9 M x k && za9 M k y)):=by
 have:=(zy0 h hk n (qR _)).2 x y hx hy
 rw [if_pos hx]at this
 exact this
theorem zvc (h:Sq n M):∀ i,i≤n→Sq n ((List.range i).foldl (clK n) M) ∧
  (∀ a b,a<n→b<n→za9 M a b=true→za9 ((List.range i).foldl (clK n) M) a b=true) ∧
  (∀ m a b,m<i→a<n→b<n→za9 ((List.range i).foldl (clK n) M) a m=true→za9 ((List.range i).foldl (clK n) M) m b=true→za9 ((List.range i).foldl (clK n) M) a b=true) ∧
  (∀ T:Nat→Nat→Prop,(∀ a b d,T a b→T b d→T a d)→(∀ a b,a<n→b<n→za9 M a b=true→T a b)→∀ a b,a<n→b<n→za9 ((List.range i).foldl (clK n) M) a b=true→T a b)
 | 0,_=>⟨h,fun a b _ _ k=>k,fun m a b k=>by omega,fun T _ k=>k⟩
 | i+1,hi=>by
  obtain ⟨h1,h2,h3,h4⟩:=zvc h i (by omega)
  rw [zcw]
  generalize (List.range i).foldl (clK n) M=X at h1 h2 h3 h4 ⊢
  have hin:i<n:=by omega
  have g:∀ {x y:Nat},x<n→y<n→(za9 (clK n X i) x y=true↔za9 X x y=true∨(za9 X x i=true∧za9 X i y=true)):=by
   intro x y hx hy
   rw [z5p h1 hin hx hy]; simp
  refine ⟨(zy0 h1 hin n (qR _)).1,fun a b ha hb k=>(g ha hb).2 (.inl (h2 a b ha hb k)),fun m a b hm ha hb k1 k2=>?_,fun T tr hT a b ha hb k=>?_⟩
  ·have hmn:m<n:=by omega
   rw [g ha hmn]at k1
   rw [g hmn hb]at k2
   rw [g ha hb]
   by_cases e:m=i
   ·subst e
    rcases k1 with k1 | k1 <;> rcases k2 with k2 | k2
    ·exact .inr ⟨k1,k2⟩
    ·exact .inr ⟨k1,k2.2⟩
    ·exact .inr ⟨k1.1,k2⟩
    exact .inr ⟨k1.1,k2.2⟩
   have hmi:m<i:=by omega
   rcases k1 with k1 | k1 <;> rcases k2 with k2 | k2
   ·exact .inl (h3 m a b hmi ha hb k1 k2)
   ·exact .inr ⟨h3 m a i hmi ha hin k1 k2.1,k2.2⟩
   ·exact .inr ⟨k1.1,h3 m i b hmi hin hb k1.2 k2⟩
   exact .inr ⟨k1.1,k2.2⟩
  rw [g ha hb]at k
  rcases k with k | k
  ·exact h4 T tr hT a b ha hb k
  exact tr a i b (h4 T tr hT a i ha hin k.1) (h4 T tr hT i b hin hb k.2)
def MR (n:Nat) (M:List (List Bool)) (a b:Nat):Prop:=a<n∧b<n∧za9 M a b=true
theorem zvb (h:Sq n M) {a b:Nat} (ha:a<n) (hb:b<n):za9 (zre M) a b=true↔TC (MR n M) a b:=by
 obtain ⟨h1,h2,h3,h4⟩:=zvc h n (qR _)
 have e:zre M=(List.range n).foldl (clK n) M:=by unfold zre; rw [h.1]
 rw [e]
 constructor
 ·exact h4 (TC (MR n M)) (fun _ _ _ p q=>p.trans q) (fun a b ha hb k => .one ⟨ha,hb,k⟩) a b ha hb
 intro k
 induction k with
 | one k=>exact h2 _ _ k.1 k.2.1 k.2.2
 | tail _ k ih=>exact h3 _ _ _ k.1 ha k.2.1 (ih k.1) (h2 _ _ k.1 k.2.1 k.2.2)
end
def Cov (ws:List Wall) (level:Bool) (line i1 i2:Nat):Prop:=∃ w∈ws,w.level=level∧w.line=line∧w.fr≤i1∧(i2:Int)<w.fr+w.long
theorem Cov.app {ws vs:List Wall} {level:Bool} {line i1 i2:Nat} (h:Cov ws level line i1 i2):Cov (ws++vs) level line i1 i2:=by
 obtain ⟨w,hw,k⟩:=h
 exact ⟨w,List.mem_append_left _ hw,k⟩
theorem Cov.long {ws:List Wall} {w:Wall} {level:Bool} {line i1 i2:Nat} (h:Cov (ws++[w]) level line i1 i2):Cov (ws++[{ w with long:=w.long+1 }]) level line i1 i2:=by
 obtain ⟨v,hv,k1,k2,k3,k4⟩:=h
 rcases List.mem_append.1 hv with hv | hv
 ·exact ⟨v,List.mem_append_left _ hv,k1,k2,k3,k4⟩
 rw [List.mem_singleton]at hv
 subst hv
 exact ⟨_,List.mem_append_right _ (List.mem_singleton.2 rfl),k1,k2,k3,by simp only; omega⟩
def Run (g:List (List Int)) (level:Bool) (line i1 i2:Nat):Prop:=∀ j,i1≤j→j≤i2→ztz g level line j=true
theorem zpu {g:List (List Int)} {level:Bool} {line:Nat} {ws:List Wall}:∀ n,(∀ lv ln i1 i2,Cov ws lv ln i1 i2→Cov (zc1 g level line ws n).1 lv ln i1 i2) ∧
  (∀ i1 i2,i1≤i2→i2<n→Run g level line i1 i2→Cov (zc1 g level line ws n).1 level line i1 i2) ∧
  ((zc1 g level line ws n).2=false→∀ m,n=m+1→ztz g level line m=false) ∧
  ((zc1 g level line ws n).2=true→∃ (ws0:List Wall) (w:Wall),(zc1 g level line ws n).1=ws0++[w]∧w.level=level∧w.line=(line:Int)∧w.fr+w.long=(n:Int)∧1≤w.long∧∀ i:Nat,i<n→Run g level line i (n - 1)→w.fr≤(i:Int))
 | 0=>by
  rw [zu4]
  exact ⟨fun _ _ _ _ h=>h,fun i1 i2 _ h=>by omega,fun _ m h=>by omega,fun h=>by cases h⟩
 | n+1=>by
  obtain ⟨h1,h2,h3,h4⟩:=zpu (g:=g) (level:=level) (line:=line) (ws:=ws) n
  rw [znj]
  generalize zc1 g level line ws n=s at h1 h2 h3 h4
  obtain ⟨l,op⟩:=s
  simp only at h1 h2 h3 h4
  cases hd:ztz g level line n with
  | false =>
   have e:zg8 false level line n (l,op)=(l,false):=by simp [zg8]
   rw [e]
   refine ⟨h1,fun i1 i2 k1 k2 k3=>?_,fun _ m hm=>(by have e0:m=n:=(by omega); rw [e0]; exact hd),fun h=>by cases h⟩
   by_cases e2:i2=n
   ·subst e2
    have:=k3 i2 k1 (qR _)
    rw [hd]at this; cases this
   exact h2 i1 i2 k1 (by omega) k3
  | true =>
   cases op with
   | false =>
    have e:zg8 true level line n (l,false)=(l++[⟨level,line,n,1⟩],true):=by simp [zg8]
    rw [e]
    have hno:∀ m,n=m+1→ztz g level line m=false:=h3 rfl
    have first:∀ i,i<n+1→Run g level line i n→i=n:=by
     intro i hi hr
     by_cases e2:i=n
     ·exact e2
     have:=hr (n - 1) (by omega) (by omega)
     rw [hno (n - 1) (by omega)]at this; cases this
    refine ⟨fun lv ln i1 i2 k=>(h1 lv ln i1 i2 k).app,fun i1 i2 k1 k2 k3=>?_,fun h=>(by cases h),fun _=>⟨l,_,rfl,rfl,rfl,by simp,by simp,fun i hi hr=>?_⟩⟩
    ·by_cases e2:i2=n
     ·subst e2
      obtain rfl:=first i1 (by omega) k3
      exact ⟨_,List.mem_append_right _ (List.mem_singleton.2 rfl),rfl,rfl,Int.le_refl _,by simp only; omega⟩
     exact (h2 i1 i2 k1 (by omega) k3).app
    have:=first i hi hr
    simp only; omega
   | true =>
    obtain ⟨ws0,w,rfl,w1,w2,w3,w4,w5⟩:=h4 rfl
    have e:zg8 true level line n (ws0++[w],true)=(ws0++[{ w with long:=w.long+1 }],true):=by simp [zg8]
    rw [e]
    have hfr:∀ i:Nat,i<n+1→Run g level line i n→w.fr≤(i:Int):=by
     intro i hi hr
     by_cases e2:i=n
     ·omega
     exact w5 i (by omega) fun j j1 j2=>hr j j1 (by omega)
    refine ⟨fun lv ln i1 i2 k=>(h1 lv ln i1 i2 k).long,fun i1 i2 k1 k2 k3=>?_,fun h=>(by cases h),fun _=>⟨ws0,_,rfl,w1,w2,by simp only; omega,by simp only; omega,fun i hi hr=>hfr i hi hr⟩⟩
    by_cases e2:i2=n
    ·subst e2
     have:=hfr i1 (by omega) k3
     exact ⟨_,List.mem_append_right _ (List.mem_singleton.2 rfl),w1,w2,this,by simp only; omega⟩
    exact (h2 i1 i2 k1 (by omega) k3).long
theorem zie {g:List (List Int)} {level:Bool} {places:Nat} {ws:List Wall}:∀ lines,(∀ lv ln i1 i2,Cov ws lv ln i1 i2→Cov (zcl g level places ws lines) lv ln i1 i2) ∧
  (∀ line i1 i2,1≤line→line<lines→i1≤i2→i2<places→Run g level line i1 i2→Cov (zcl g level places ws lines) level line i1 i2)
 | 0=>⟨fun _ _ _ _ h=>h,fun line _ _ _ h=>by omega⟩
 | k+1=>by
  obtain ⟨h1,h2⟩:=zie (g:=g) (level:=level) (places:=places) (ws:=ws) k
  by_cases hk:1≤k
  ·rw [zkn hk]
   obtain ⟨l1,l2,-,-⟩:=zpu (g:=g) (level:=level) (line:=k) (ws:=zcl g level places ws k) places
   refine ⟨fun lv ln i1 i2 q=>l1 _ _ _ _ (h1 _ _ _ _ q),fun line i1 i2 q1 q2 q3 q4 q5=>?_⟩
   by_cases e:line=k
   ·subst e; exact l2 i1 i2 q3 q4 q5
   exact l1 _ _ _ _ (h2 line i1 i2 q1 (by omega) q3 q4 q5)
  obtain rfl:k=0:=by omega
  rw [zu3]
  exact ⟨fun _ _ _ _ h=>h,fun line _ _ q1 q2=>by omega⟩
theorem zpt {g:List (List Int)} {H W:Nat} {level:Bool} {line i1 i2:Nat} (h1:1≤line) (h2:line<if level then H else W) (h3:i1≤i2) (h4:i2<if level then W else H) (hr:Run g level line i1 i2):Cov (zkm g H W) level line i1 i2:=by
 unfold zkm
 obtain ⟨a1,a2⟩:=zie (g:=g) (level:=false) (places:=H) (ws:=[]) W
 obtain ⟨b1,b2⟩:=zie (g:=g) (level:=true) (places:=W) (ws:=zcl g false H [] W) H
 cases level with
 | false=>exact b1 _ _ _ _ (a2 line i1 i2 h1 h2 h3 h4 hr)
 | true=>exact b2 line i1 i2 h1 h2 h3 h4 hr
section
variable {n:Nat}
theorem zwu {a:Int} (ha:0≤a∧a<n):∀ {bs:List Int} {M:List (List Bool)},Rm n bs→Sq n M→Sq n (z40 a bs M)∧∀ x y,za9 (z40 a bs M) x y=true↔za9 M x y=true∨(x=a.toNat∧∃ b∈bs,y=b.toNat)
 | [],M,_,h=>⟨h,fun x y=>by simp [z40]⟩
 | b::bs,M,hb,h=>by
  have hb0:=hb b (by simp)
  obtain ⟨k1,k2⟩:=zwu ha (bs:=bs) (M:=z19 M a.toNat b.toNat true) (fun x hx=>hb x (by simp [hx])) (h.set (by omega))
  refine ⟨k1,fun x y=>?_⟩
  have e:z40 a (b::bs) M=z40 a bs (z19 M a.toNat b.toNat true):=rfl
  rw [e,k2,zru h (by omega) (by omega)]
  by_cases q:x=a.toNat∧y=b.toNat
  ·rw [if_pos q]; simp [q.1,q.2]
  rw [if_neg q]
  constructor
  ·rintro (k | ⟨k,c,hc,rfl⟩)
   ·exact .inl k
   exact .inr ⟨k,c,by simp [hc],rfl⟩
  rintro (k | ⟨k,c,hc,rfl⟩)
  ·exact .inl k
  rcases List.mem_cons.1 hc with rfl | hc
  ·exact absurd ⟨k,rfl⟩ q
  exact .inr ⟨k,c,hc,rfl⟩
theorem zqw {bs:List Int} (hb:Rm n bs):∀ {la:List Int} {M:List (List Bool)},Rm n la→Sq n M→Sq n (z08 M la bs)∧∀ x y,za9 (z08 M la bs) x y=true↔za9 M x y=true∨(∃ a∈la,x=a.toNat)∧∃ b∈bs,y=b.toNat
 | [],M,_,h=>⟨h,fun x y=>by simp [z08]⟩
 | a::la,M,ha,h=>by
  obtain ⟨j1,j2⟩:=zwu (ha a (by simp)) hb h
  obtain ⟨k1,k2⟩:=zqw hb (la:=la) (M:=z40 a bs M) (fun x hx=>ha x (by simp [hx])) j1
  refine ⟨k1,fun x y=>?_⟩
  have e:z08 M (a::la) bs=z08 (z40 a bs M) la bs:=rfl
  rw [e,k2,j2]
  constructor
  ·rintro ((k | ⟨k,q⟩) | ⟨⟨c,hc,k⟩,q⟩)
   ·exact .inl k
   ·exact .inr ⟨⟨a,by simp,k⟩,q⟩
   exact .inr ⟨⟨c,by simp [hc],k⟩,q⟩
  rintro (k | ⟨⟨c,hc,k⟩,q⟩)
  ·exact .inl (.inl k)
  rcases List.mem_cons.1 hc with rfl | hc
  ·exact .inl (.inr ⟨k,q⟩)
  exact .inr ⟨⟨c,hc,k⟩,q⟩
def By (g:List (List Int)) (ws:List Wall) (lv:Bool) (x y:Nat):Prop:=∃ w∈ws,w.level=lv∧(∃ a∈(za2 g w).1,x=a.toNat)∧∃ b∈(za2 g w).2,y=b.toNat
theorem By.cons {g:List (List Int)} {w:Wall} {ws:List Wall} {lv:Bool} {x y:Nat}:By g (w::ws) lv x y↔(w.level=lv∧(∃ a∈(za2 g w).1,x=a.toNat)∧∃ b∈(za2 g w).2,y=b.toNat)∨By g ws lv x y:=by
 unfold By; simp
theorem zqp {g:List (List Int)} {nh nw:Nat} (hrm:zyr g nh nw n):∀ (ws:List Wall),(∀ w∈ws,z5h g nh nw w)→∀ {M:List (List Bool) × List (List Bool)},Sq n M.1→Sq n M.2 →
  (Sq n (ws.foldl (z25 g) M).1∧∀ x y,za9 (ws.foldl (z25 g) M).1 x y=true↔za9 M.1 x y=true∨By g ws false x y) ∧
  (Sq n (ws.foldl (z25 g) M).2∧∀ x y,za9 (ws.foldl (z25 g) M).2 x y=true↔za9 M.2 x y=true∨By g ws true x y)
 | [],_,M,h0,h1=>⟨⟨h0,fun x y=>by simp [By]⟩,⟨h1,fun x y=>by simp [By]⟩⟩
 | w::ws,hws,M,h0,h1=>by
  obtain ⟨r1,r2⟩:=zq0 hrm (hws w (by simp))
  rw [List.foldl_cons]
  cases hlv:w.level with
  | false =>
   obtain ⟨k1,k2⟩:=zqw r2 r1 h0
   have e:z25 g M w=(z08 M.1 (za2 g w).1 (za2 g w).2,M.2):=by unfold z25; rw [hlv]; rfl
   rw [e]
   obtain ⟨⟨a1,a2⟩,⟨b1,b2⟩⟩:=zqp hrm ws (fun w hw=>hws w (by simp [hw])) (M:=(z08 M.1 (za2 g w).1 (za2 g w).2,M.2)) k1 h1
   refine ⟨⟨a1,fun x y=>?_⟩,⟨b1,fun x y=>?_⟩⟩
   ·rw [a2,k2,By.cons,hlv]; simp only[true_and,or_assoc]
   rw [b2,By.cons,hlv]; simp
  | true =>
   obtain ⟨k1,k2⟩:=zqw r2 r1 h1
   have e:z25 g M w=(M.1,z08 M.2 (za2 g w).1 (za2 g w).2):=by unfold z25; rw [hlv]; rfl
   rw [e]
   obtain ⟨⟨a1,a2⟩,⟨b1,b2⟩⟩:=zqp hrm ws (fun w hw=>hws w (by simp [hw])) (M:=(M.1,z08 M.2 (za2 g w).1 (za2 g w).2)) h0 k1
   refine ⟨⟨a1,fun x y=>?_⟩,⟨b1,fun x y=>?_⟩⟩
   ·rw [a2,By.cons,hlv]; simp
   rw [b2,k2,By.cons,hlv]; simp only[true_and,or_assoc]
theorem zro {x y:Nat}:za9 (zel n) x y=false:=by
 unfold za9 zel
 rw [List.getElem?_replicate]
 split
 ·rw [Option.getD_some,List.getElem?_replicate]; split <;> rfl
 rfl
def cn (g:List (List Int)) (i j:Nat):Nat:=(gz g i j).toNat
theorem zyr.ne {g:List (List Int)} {nh nw:Nat} (h:zyr g nh nw n) {i j i' j':Nat} (h1:i<nh) (h2:j<nw) (h3:i'<nh) (h4:j'<nw):gz g i j≠gz g i' j'↔cn g i j≠cn g i' j':=by
 have a:=h i j h1 h2
 have b:=h i' j' h3 h4
 unfold cn
 omega
theorem zte {g:List (List Int)} {level:Bool} {line fr long j:Nat} (h1:fr≤j) (h2:j<fr+long):(zbo g level line j).1∈(za2 g ⟨level,line,fr,long⟩).1:=by
 simp only[za2,Int.toNat_natCast]
 rw [zqh]
 simp only[zj7,List.mem_map,List.mem_range]
 exact ⟨j - fr,by omega,by rw [show fr+(j - fr)=j by omega]⟩
theorem ztf {g:List (List Int)} {level:Bool} {line fr long j:Nat} (h1:fr≤j) (h2:j<fr+long):(zbo g level line j).2∈(za2 g ⟨level,line,fr,long⟩).2:=by
 simp only[za2,Int.toNat_natCast]
 rw [zqh]
 simp only[zj7,List.mem_map,List.mem_range]
 exact ⟨j - fr,by omega,by rw [show fr+(j - fr)=j by omega]⟩
theorem zw4 {g:List (List Int)} {level:Bool} {line fr long:Nat} {x:Int} (h:x∈(za2 g ⟨level,line,fr,long⟩).1):∃ j,fr≤j∧j<fr+long∧x=(zbo g level line j).1:=by
 simp only[za2,Int.toNat_natCast]at h
 rw [zqh]at h
 simp only[zj7,List.mem_map,List.mem_range]at h
 obtain ⟨j,hj,rfl⟩:=h
 exact ⟨fr+j,by omega,by omega,rfl⟩
theorem zw5 {g:List (List Int)} {level:Bool} {line fr long:Nat} {x:Int} (h:x∈(za2 g ⟨level,line,fr,long⟩).2):∃ j,fr≤j∧j<fr+long∧x=(zbo g level line j).2:=by
 simp only[za2,Int.toNat_natCast]at h
 rw [zqh]at h
 simp only[zj7,List.mem_map,List.mem_range]at h
 obtain ⟨j,hj,rfl⟩:=h
 exact ⟨fr+j,by omega,by omega,rfl⟩
theorem z5o {g:List (List Int)} {nh nw:Nat} (h:zyr g nh nw n) {x y:Nat}:By g (zkm g nh nw) false x y↔DL (cn g) nh nw x y:=by
 constructor
 ·rintro ⟨w,hw,hlv,⟨a,ha,rfl⟩,b,hb,rfl⟩
  obtain ⟨line,fr,long,he,hl,hin⟩:=zgd w hw
  rw [hlv]at he hin
  subst he
  obtain ⟨j1,p1,p2,rfl⟩:=zw4 ha
  obtain ⟨j2,q1,q2,rfl⟩:=zw5 hb
  have i1:=(hin j1 p1 p2).1
  have i2:=(hin j2 q1 q2).1
  unfold InL at i1 i2
  simp only[qF,if_false]at i1 i2
  obtain ⟨L,rfl⟩:∃ L,line=L+1:=⟨line - 1,by omega⟩
  refine ⟨L,j1,j2,i1.2.1,i1.2.2,i2.2.2,fun r r1 r2=>?_,?_,?_⟩
  ·have hr:=hin r (by omega) (by omega)
   have hr1:=hr.1
   unfold InL at hr1
   simp only[qF,if_false]at hr1
   have hr2:=hr.2
   unfold ztz zbo at hr2
   simp only[qF,if_false,decide_eq_true_eq,Nat.add_sub_cancel]at hr2
   exact (h.ne hr1.2.2 (by omega) hr1.2.2 hr1.2.1).1 hr2
  ·simp [zbo,cn]
  simp [zbo,cn]
 rintro ⟨L,i1,i2,h1,h2,h3,run,rfl,rfl⟩
 have hrun:Run g false (L+1) (min i1 i2) (max i1 i2):=by
  intro r r1 r2
  have:=run r r1 r2
  rw [← h.ne (by omega) (by omega) (by omega) h1]at this
  unfold ztz zbo
  simpa using this
 obtain ⟨w,hw,w1,w2,w3,w4⟩:=zpt (g:=g) (H:=nh) (W:=nw) (level:=false) (line:=L+1) (by omega) (by simpa using h1) (by omega) (by simp only[qF,if_false]; omega) hrun
 obtain ⟨line,fr,long,he,hl,hin⟩:=zgd w hw
 rw [w1]at he
 subst he
 simp only at w2 w3 w4
 obtain rfl:line=L+1:=by omega
 refine ⟨_,hw,rfl,⟨_,zte (j:=i1) (by omega) (by omega),?_⟩,_,ztf (j:=i2) (by omega) (by omega),?_⟩
 ·simp [zbo,cn]
 simp [zbo,cn]
theorem z2j {g:List (List Int)} {nh nw:Nat} (h:zyr g nh nw n) {x y:Nat}:By g (zkm g nh nw) true x y↔DU (cn g) nh nw x y:=by
 constructor
 ·rintro ⟨w,hw,hlv,⟨a,ha,rfl⟩,b,hb,rfl⟩
  obtain ⟨line,fr,long,he,hl,hin⟩:=zgd w hw
  rw [hlv]at he hin
  subst he
  obtain ⟨j1,p1,p2,rfl⟩:=zw4 ha
  obtain ⟨j2,q1,q2,rfl⟩:=zw5 hb
  have i1:=(hin j1 p1 p2).1
  have i2:=(hin j2 q1 q2).1
  unfold InL at i1 i2
  simp only[if_true]at i1 i2
  obtain ⟨L,rfl⟩:∃ L,line=L+1:=⟨line - 1,by omega⟩
  refine ⟨L,j1,j2,i1.2.1,i1.2.2,i2.2.2,fun r r1 r2=>?_,?_,?_⟩
  ·have hr:=hin r (by omega) (by omega)
   have hr1:=hr.1
   unfold InL at hr1
   simp only[if_true]at hr1
   have hr2:=hr.2
   unfold ztz zbo at hr2
   simp only[if_true,decide_eq_true_eq,Nat.add_sub_cancel]at hr2
   exact (h.ne (by omega) hr1.2.2 hr1.2.1 hr1.2.2).1 hr2
  ·simp [zbo,cn]
  simp [zbo,cn]
 rintro ⟨L,i1,i2,h1,h2,h3,run,rfl,rfl⟩
 have hrun:Run g true (L+1) (min i1 i2) (max i1 i2):=by
  intro r r1 r2
  have:=run r r1 r2
  rw [← h.ne (by omega) (by omega) h1 (by omega)]at this
  unfold ztz zbo
  simpa using this
 obtain ⟨w,hw,w1,w2,w3,w4⟩:=zpt (g:=g) (H:=nh) (W:=nw) (level:=true) (line:=L+1) (by omega) (by simpa using h1) (by omega) (by simp only[if_true]; omega) hrun
 obtain ⟨line,fr,long,he,hl,hin⟩:=zgd w hw
 rw [w1]at he
 subst he
 simp only at w2 w3 w4
 obtain rfl:line=L+1:=by omega
 refine ⟨_,hw,rfl,⟨_,zte (j:=i1) (by omega) (by omega),?_⟩,_,ztf (j:=i2) (by omega) (by omega),?_⟩
 ·simp [zbo,cn]
 simp [zbo,cn]
theorem znm {g:List (List Int)} {nh nw:Nat} (h:zyr g nh nw n) {i j:Nat} (hi:i<nh) (hj:j<nw):cn g i j<n:=by
 have:=h i j hi hj
 unfold cn; omega
theorem z6a {g:List (List Int)} {nh nw:Nat} (h:zyr g nh nw n) {a b:Nat} (ha:a<n) (hb:b<n):za9 (z59 g nh nw n) a b=true↔TC (DL (cn g) nh nw) a b:=by
 obtain ⟨⟨k1,k2⟩,-⟩:=zqp h (zkm g nh nw) zgd (M:=(zel n,zel n)) (zf3 n) (zf3 n)
 have hd:∀ x y,za9 (z4x g nh nw n).1 x y=true↔DL (cn g) nh nw x y:=fun x y=>by
  unfold z4x; rw [k2,z5o h]; simp [zro]
 unfold z59
 have k3:Sq n (z4x g nh nw n).1:=k1
 rw [zvb k3 ha hb]
 constructor
 ·exact TC.mono fun x y q=>(hd x y).1 q.2.2
 refine TC.mono fun x y q=>⟨?_,?_,(hd x y).2 q⟩
 ·obtain ⟨j,i1,i2,q1,q2,q3,-,rfl,-⟩:=q
  exact znm h q2 (by omega)
 obtain ⟨j,i1,i2,q1,q2,q3,-,-,rfl⟩:=q
 exact znm h q3 q1
theorem z2e {g:List (List Int)} {nh nw:Nat} (h:zyr g nh nw n) {a b:Nat} (ha:a<n) (hb:b<n):za9 (zys g nh nw n) a b=true↔TC (DU (cn g) nh nw) a b:=by
 obtain ⟨-,⟨k1,k2⟩⟩:=zqp h (zkm g nh nw) zgd (M:=(zel n,zel n)) (zf3 n) (zf3 n)
 have hd:∀ x y,za9 (z4x g nh nw n).2 x y=true↔DU (cn g) nh nw x y:=fun x y=>by
  unfold z4x; rw [k2,z2j h]; simp [zro]
 unfold zys
 have k3:Sq n (z4x g nh nw n).2:=k1
 rw [zvb k3 ha hb]
 constructor
 ·exact TC.mono fun x y q=>(hd x y).1 q.2.2
 refine TC.mono fun x y q=>⟨?_,?_,(hd x y).2 q⟩
 ·obtain ⟨j,i1,i2,q1,q2,q3,-,rfl,-⟩:=q
  exact znm h (by omega) q2
 obtain ⟨j,i1,i2,q1,q2,q3,-,-,rfl⟩:=q
 exact znm h q1 q3
end
end
section
theorem zsw {p:List Txt} {i:Nat}:∀ {w:Nat},zhz p 4 i w=0→∀ k,1≤k→k<w→zqf p i k≠4
 | w+1,h,k,h1,h2=>by
  have hb:=(zfd p 4 i w).1
  unfold zhz at h
  by_cases e:k=w
  ·subst e
   intro q
   rw [if_pos ⟨h1,q⟩]at h
   omega
  have h0:zhz p 4 i w=0:=by split at h <;> omega
  exact zsw h0 k h1 (by omega)
theorem zwo {p:List Txt} {w:Nat}:∀ {n:Nat},zsx p 4 w n=0→∀ i,1≤i→i<n→zhz p 4 i w=0
 | n+1,h,i,h1,h2=>by
  have hb:0≤zsx p 4 w n:=by
   clear h h1 h2
   induction n with
   | zero=>simp [zsx]
   | succ n ih =>
    have:=(zfd p 4 n w).1
    unfold zsx; split <;> omega
  have hr:=(zfd p 4 n w).1
  unfold zsx at h
  by_cases e:i=n
  ·subst e
   rw [if_pos h1]at h
   omega
  have h0:zsx p 4 w n=0:=by split at h <;> omega
  exact zwo h0 i h1 (by omega)
theorem zyl {a b:UInt8} (h:(a.toNat:Int) - 97≠(b.toNat:Int) - 97):a≠b:=by
 rintro rfl; exact h rfl
theorem zxw {p:List Txt} (hg:zgw p=true) {i k:Nat} (hi:i+1<p.length) (hk:k+1<(za0 p).length) (h1:zbk p i k≠zbk p i (k+1)) (h2:zbk p i k≠zbk p (i+1) k) (h3:zbk p i k≠zbk p (i+1) (k+1))
  (h4:zbk p i (k+1)≠zbk p (i+1) k) (h5:zbk p i (k+1)≠zbk p (i+1) (k+1)) (h6:zbk p (i+1) k≠zbk p (i+1) (k+1)):zqf p (i+1) (k+1)=4:=by
 obtain ⟨r1,hr1,-⟩:=zaf (show i<p.length by omega)
 obtain ⟨r2,hr2,-⟩:=zaf hi
 have e1:=ziv hg hr1
 have e2:=ziv hg hr2
 obtain ⟨a,ha,-⟩:=zaf (show k<r1.length by omega)
 obtain ⟨b,hb,-⟩:=zaf (show k+1<r1.length by omega)
 obtain ⟨c,hc,-⟩:=zaf (show k<r2.length by omega)
 obtain ⟨d,hd,-⟩:=zaf (show k+1<r2.length by omega)
 rw [ze3 hr1 ha]at h1 h2 h3
 rw [ze3 hr1 hb]at h1 h4 h5
 rw [ze3 hr2 hc]at h2 h4 h6
 rw [ze3 hr2 hd]at h3 h5 h6
 have n1:=zyl h1
 have n2:=zyl h2
 have n3:=zyl h3
 have n4:=zyl h4
 have n5:=zyl h5
 have n6:=zyl h6
 unfold zqf
 simp only[Nat.add_sub_cancel,hr1,hr2,ha,hb,hc,hd]
 simp [zy8,z70,z71,Ne.symm n1,Ne.symm n2,Ne.symm n3,Ne.symm n4,Ne.symm n5,Ne.symm n6]
theorem zh1 {p:List Txt} (hp:zm1 p=true) {i j:Nat} (hi:i<p.length) (hj:j<(za0 p).length):(cn (gP p) i j:Int)=zbk p i j:=by
 have hN:=zju hp
 have:=hN.room hi hj
 unfold cn
 rw [hN.cell hi hj]; omega
theorem z0z {p:List Txt} (hp:zfc p=true):Pl (cn (gP p)) p.length (za0 p).length:=by
 have hpl:=zx4 hp
 have hN:=zju hpl
 have rect:∀ {i j i' j':Nat} (k l:Nat),i<p.length→i'<p.length→j<(za0 p).length→j'<(za0 p).length→cn (gP p) i j=cn (gP p) i' j'→min i i'≤k→k≤max i i'→min j j'≤l→l≤max j j'→cn (gP p) k l=cn (gP p) i j:=by
  intro i j i' j' k l h1 h2 h3 h4 e h5 h6 h7 h8
  have e1:=zh1 hpl h1 h3
  have e2:=zh1 hpl h2 h4
  have e3:=zh1 hpl (show k<p.length by omega) (show l<(za0 p).length by omega)
  obtain ⟨b,hb,q1,-,c1⟩:=zsu hpl h1 h3
  obtain ⟨b',hb',q2,-,-⟩:=zsu hpl h2 h4
  have e4:zbk p i j=zbk p i' j':=by omega
  rw [e4,hb']at hb
  obtain rfl:=Option.some.inj hb
  have q3:inB b' k l=true:=by
   unfold inB at q1 q2 ⊢
   simp only[qB,decide_eq_true_eq]at q1 q2 ⊢
   omega
  have:=c1 k l (by omega) (by omega) q3
  omega
 refine ⟨rect,fun {i j} h1 h2 n1 n2 n3=>Classical.byContradiction fun n4=>?_⟩
 have h0:points p 4=0:=by
  unfold zfc at hp
  simp only[qB,decide_eq_true_eq]at hp
  exact hp.2
 have hno:=zsw (zwo h0 (i+1) (by omega) h1) (j+1) (by omega) h2
 have n5:cn (gP p) i j≠cn (gP p) (i+1) (j+1):=by
  intro e
  exact n1 (rect i (j+1) (by omega) h1 (by omega) h2 e (by omega) (by omega) (by omega) (by omega)).symm
 have n6:cn (gP p) i (j+1)≠cn (gP p) (i+1) j:=by
  intro e
  exact n1 (rect i j (by omega) h1 h2 (by omega) e (by omega) (by omega) (by omega) (by omega))
 have c1:=zh1 hpl (show i<p.length by omega) (show j<(za0 p).length by omega)
 have c2:=zh1 hpl (show i<p.length by omega) h2
 have c3:=zh1 hpl h1 (show j<(za0 p).length by omega)
 have c4:=zh1 hpl h1 h2
 exact hno (zxw hN.hg h1 h2 (by omega) (by omega) (by omega) (by omega) (by omega) (by omega))
theorem zs6 {p:List Txt} {a:Nat} (ha:a<(rP p).length):∃ i j,i<p.length∧j<(za0 p).length∧cn (gP p) i j=a:=by
 have hi:=ze9 p
 obtain ⟨b,hb,-⟩:=zaf ha
 obtain ⟨v,hv,-⟩:=zaf (show a<(keys p).length by rw [← hi.len]; exact ha)
 obtain ⟨i,j,⟨hz,hj,hij⟩,-⟩:=(hi.hull a v b hv hb).at_
 have hi2:i<p.length:=by omega
 refine ⟨i,j,hi2,hj,?_⟩
 unfold cn
 rw [zzk hi2 hj,hz,Int.toNat_natCast]
 have hlt:¬ (keys p).idxOf v=(keys p).length:=by
  have:=List.idxOf_lt_length_iff.2 (List.mem_of_getElem? hv)
  omega
 exact zmq hi.nd (zf6 hlt) hv
def lfM (p:List Txt):List (List Bool):=z59 (gP p) p.length (za0 p).length (rP p).length
def abM (p:List Txt):List (List Bool):=zys (gP p) p.length (za0 p).length (rP p).length
def Lf (p:List Txt) (a b:Nat):Prop:=za9 (lfM p) a b=true
def Ab (p:List Txt) (a b:Nat):Prop:=za9 (abM p) a b=true
section
variable {p:List Txt} {a b d:Nat}
theorem Lf.iff (ha:a<(rP p).length) (hb:b<(rP p).length):Lf p a b↔TC (DL (cn (gP p)) p.length (za0 p).length) a b:=z6a zgh ha hb
theorem Ab.iff (ha:a<(rP p).length) (hb:b<(rP p).length):Ab p a b↔TC (DU (cn (gP p)) p.length (za0 p).length) a b:=z2e zgh ha hb
theorem Lf.trans (ha:a<(rP p).length) (hb:b<(rP p).length) (hd:d<(rP p).length) (h:Lf p a b) (k:Lf p b d):Lf p a d:=by
 rw [Lf.iff ha hd]; exact ((Lf.iff ha hb).1 h).trans ((Lf.iff hb hd).1 k)
theorem Ab.trans (ha:a<(rP p).length) (hb:b<(rP p).length) (hd:d<(rP p).length) (h:Ab p a b) (k:Ab p b d):Ab p a d:=by
 rw [Ab.iff ha hd]; exact ((Ab.iff ha hb).1 h).trans ((Ab.iff hb hd).1 k)
theorem zuj (hp:zfc p=true):∃ f g:Nat→Nat,∀ a b,a<(rP p).length→b<(rP p).length→(Lf p a b→f a<f b∧g a<g b)∧(Ab p a b→f a<f b∧g b<g a):=by
 have hpl:=z0z hp
 obtain ⟨f,hf⟩:=zv8 hpl (n:=(rP p).length) (fun i j hi hj=>znm zgh hi hj)
 obtain ⟨g,hg⟩:=z0p hpl (n:=(rP p).length) (fun i j hi hj=>znm zgh hi hj)
 refine ⟨f,g,fun a b ha hb=>⟨fun h=>?_,fun h=>?_⟩⟩
 ·rw [Lf.iff ha hb]at h
  exact ⟨h.rise fun a b k=>hf a b (.inl k),h.rise fun a b k=>hg a b (.inl k)⟩
 rw [Ab.iff ha hb]at h
 exact ⟨h.rise fun a b k=>hf a b (.inr k),(h.rev (S:=fun x y=>DU (cn (gP p)) p.length (za0 p).length y x) fun _ _ k=>k).rise fun a b k=>hg a b (.inr k)⟩
theorem zxz (hp:zfc p=true) (ha:a<(rP p).length) (hb:b<(rP p).length) (hne:a≠b):Lf p a b∨Lf p b a∨Ab p a b∨Ab p b a:=by
 obtain ⟨i,j,h1,h2,e1⟩:=zs6 ha
 obtain ⟨k,l,h3,h4,e2⟩:=zs6 hb
 have:=z3v (z0z hp) h1 h2 h3 h4 (by rw [e1,e2]; exact hne)
 rw [e1,e2]at this
 rw [Lf.iff ha hb,Lf.iff hb ha,Ab.iff ha hb,Ab.iff hb ha]
 exact this
end
end
section
section
variable {M:List (List Bool)} {ms:List Nat} {ws:List Int} {n:Nat} {rk:Nat→Nat}
def revM (n:Nat) (M:List (List Bool)):List (List Bool):=(List.range n).map fun a=>(List.range n).map fun b=>za9 M b a
def bhB (sets:List Nat) (needs:List Int) (a:Nat) (out:List Int) (b:Nat):List Int :=
 if z2g sets a b then out.set a (max (zmc out a) (zmc out b+zmc needs b)) else out
def bhA (sets:List Nat) (needs:List Int) (out:List Int) (a:Nat):List Int:=(List.range needs.length).foldl (bhB sets needs a) out
def bhN (sets:List Nat) (needs:List Int) (out:List Int) (_:Nat):List Int:=(List.range needs.length).foldl (bhA sets needs) out
def behind (sets:List Nat) (needs:List Int):List Int:=(List.range needs.length).foldl (bhN sets needs) (List.replicate needs.length 0)
end
end
def domB (x:Int × Int) (w h:Int):Bool:=decide (x.1≤w) && decide (x.2≤h)
def z6g (w h:Int) (s:List (Int × Int) × Bool) (x:Int × Int):List (Int × Int) × Bool :=
 if w≤x.1∧h≤x.2 then s else if s.2=false∧w<x.1 then (s.1++[(w,h),x],true) else (s.1++[x],s.2)
def z86 (l:List (Int × Int)) (w h:Int):List (Int × Int) × Bool:=l.foldl (z6g w h) ([],false)
def put (l:List (Int × Int)) (w h:Int):List (Int × Int):=if l.any (fun x=>domB x w h) then l else if (z86 l w h).2 then (z86 l w h).1 else (z86 l w h).1++[(w,h)]
section
section
variable {M:List (List Bool)} {ws:List Int} {n:Nat} {rk:Nat→Nat}
theorem z7m (b:Nat):0≤beg M ws n b:=zzr n
theorem z7l {a b:Nat} (ha:a<n) (h:za9 M a b=true):HB M ws n a≤beg M ws n b:=z4f ha h
end
end
def Pat (g1 g2:List (List Int)) (H W:Nat):Prop:=∀ i j i' j',i<H→j<W→i'<H→j'<W→(gz g1 i j=gz g1 i' j'↔gz g2 i j=gz g2 i' j')
theorem Pat.symm {g1 g2:List (List Int)} {H W:Nat} (h:Pat g1 g2 H W):Pat g2 g1 H W:=fun i j i' j' a b c d=>(h i j i' j' a b c d).symm
theorem Pat.trans {g1 g2 g3:List (List Int)} {H W:Nat} (h:Pat g1 g2 H W) (k:Pat g2 g3 H W):Pat g1 g3 H W:=fun i j i' j' a b c d=>(h i j i' j' a b c d).trans (k i j i' j' a b c d)
structure KC (g1 g2:List (List Int)) (H W:Nat) (k1 k2:List Int):Prop where
 len:k1.length=k2.length
 at_:∀ i j,i<H→j<W→k1.idxOf (gz g1 i j)=k2.idxOf (gz g2 i j)
theorem zo1 {l:List Int} {z x:Int} (h:l.idxOf x=l.length):(l++[z]).idxOf x=if x=z then l.length else l.length+1:=by
 have hn:=zmh h
 rw [List.idxOf_append,if_neg hn]
 by_cases e:x=z
 ·subst e; simp
 rw [if_neg e]
 have e2:(z == x)=false:=by simpa using fun h=>e h.symm
 simp [List.idxOf_cons,e2]
 omega
theorem KC.step {g1 g2:List (List Int)} {H W:Nat} (hp:Pat g1 g2 H W) {k1 k2:List Int} (h:KC g1 g2 H W k1 k2) {a b:Nat} (ha:a<H) (hb:b<W):KC g1 g2 H W (zgc k1 (gz g1 a b)) (zgc k2 (gz g2 a b)):=by
 have h1:=h.at_ a b ha hb
 unfold zgc
 by_cases e:k1.idxOf (gz g1 a b)=k1.length
 ·have e2:k2.idxOf (gz g2 a b)=k2.length:=by rw [← h1,e,h.len]
  rw [if_pos e,if_pos e2]
  refine ⟨by simp [h.len],fun i j hi hj=>?_⟩
  have h2:=h.at_ i j hi hj
  have hpt:=hp i j a b hi hj ha hb
  by_cases q:k1.idxOf (gz g1 i j)=k1.length
  ·have q2:k2.idxOf (gz g2 i j)=k2.length:=by rw [← h2,q,h.len]
   rw [zo1 q,zo1 q2,h.len]
   by_cases r:gz g1 i j=gz g1 a b
   ·rw [if_pos r,if_pos (hpt.1 r)]
   rw [if_neg r,if_neg fun x=>r (hpt.2 x)]
  have q2:¬ k2.idxOf (gz g2 i j)=k2.length:=by rw [← h2,← h.len]; exact q
  rw [zmg q,zmg q2,h2]
 have e2:¬ k2.idxOf (gz g2 a b)=k2.length:=by rw [← h1,← h.len]; exact e
 rw [if_neg e,if_neg e2]
 exact h
theorem z1k {k1 k2 rs:List Int} {R:List Rect} {z1 z2:Int} {q:Rect} (hl:k1.length=k2.length) (hi:k1.idxOf z1=k2.idxOf z2):zlq k1 R z1 q=zlq k2 R z2 q:=by
 unfold zlq zgq
 rw [hl,hi]
theorem zj0 {g1 g2:List (List Int)} {H W:Nat} (hp:Pat g1 g2 H W) {i:Nat} (hi:i<H) {s1 s2:List Int × List Rect} (h:KC g1 g2 H W s1.1 s2.1) (hr:s1.2=s2.2):∀ j,j≤W →
  KC g1 g2 H W (zbm g1 i s1 j).1 (zbm g2 i s2 j).1∧(zbm g1 i s1 j).2=(zbm g2 i s2 j).2
 | 0,_=>⟨h,hr⟩
 | j+1,hj=>by
  obtain ⟨h1,h2⟩:=zj0 hp hi h hr j (by omega)
  unfold zbm
  refine ⟨h1.step hp hi (by omega),?_⟩
  show zlq _ _ _ _=zlq _ _ _ _
  rw [h2]
  exact z1k (rs:=[]) h1.len (h1.at_ i j hi (by omega))
theorem zh9 {g1 g2:List (List Int)} {H W:Nat} (hp:Pat g1 g2 H W):∀ i,i≤H→KC g1 g2 H W (zae g1 W i).1 (zae g2 W i).1∧(zae g1 W i).2=(zae g2 W i).2
 | 0,_=>⟨⟨rfl,fun _ _ _ _=>rfl⟩,rfl⟩
 | i+1,hi=>by
  obtain ⟨h1,h2⟩:=zh9 hp i (by omega)
  exact zj0 hp (by omega) h1 h2 W (qR _)
theorem ztn {g1 g2:List (List Int)} {H W:Nat} (hp:Pat g1 g2 H W) {i:Nat} (hi:i<H) {s1 s2:List Int × List Rect} (h:KC g1 g2 H W s1.1 s2.1) (hr:s1.2=s2.2):∀ j,j≤W→zj5 g1 i s1 j=zj5 g2 i s2 j
 | 0,_=>rfl
 | j+1,hj=>by
  unfold zj5
  rw [ztn hp hi h hr j (by omega),(zj0 hp hi h hr j (by omega)).1.at_ i j hi (by omega)]
theorem zpw {g1 g2:List (List Int)} {H W:Nat} (hp:Pat g1 g2 H W):∀ i,i≤H→zb8 g1 W i=zb8 g2 W i
 | 0,_=>rfl
 | i+1,hi=>by
  obtain ⟨h1,h2⟩:=zh9 hp i (by omega)
  unfold zb8
  rw [zpw hp i (by omega),ztn hp (by omega) h1 h2 W (qR _)]
theorem GW.w0 {g:List (List Int)} {H W:Nat} (h:GW g H W):w0 g=W:=by
 obtain ⟨row,hrow,hl,-⟩:=h.at_ (show 0<H by have:=h.2.2.1; omega) (show 0<W by have:=h.2.2.2.2.1; omega)
 rw [z30 hrow,hl]
theorem GW.zG {g:List (List Int)} {H W:Nat} (h:GW g H W):zG g=zb8 g W H∧stG g=zae g W H:=by
 unfold Fw.zG stG; rw [h.w0,h.1]; exact ⟨rfl,rfl⟩
theorem z67 {g:List (List Int)} {H W i j:Nat} (h:GW g H W) (hi:i<H) (hj:j<W):gz (zG g) i j=(((zae g W H).1.idxOf (gz g i j):Nat):Int):=by
 rw [h.zG.1]
 unfold gz
 rw [zhk hi,Option.getD_some,zu5 hj,Option.getD_some]
 congr 1
 exact zNum hi hj
theorem zxb {g:List (List Int)} {H W:Nat} (h:GW g H W):GW (zG g) H W:=by
 rw [h.zG.1]
 refine ⟨za6 _,fun r hr=>?_,h.2.2⟩
 obtain ⟨k,hk⟩:=List.getElem?_of_mem hr
 have:=zbn hk
 rw [za6]at this
 rw [zhk this]at hk
 cases hk
 exact zcm _
theorem z17 {g:List (List Int)} {H W i j:Nat} (hi:i<H) (hj:j<W):gz g i j∈(zae g W H).1:=(SeInv.rows (g:=g) (W:=W) H).mem i j (zlg hi hj)
theorem z8r {g:List (List Int)} {H W:Nat} (h:GW g H W):Pat (zG g) g H W:=by
 intro i j i' j' hi hj hi' hj'
 rw [z67 h hi hj,z67 h hi' hj']
 constructor
 ·intro e
  have h1:=zf6 (ks:=(zae g W H).1) (z:=gz g i j) (by have:=List.idxOf_lt_length_iff.2 (z17 (g:=g) hi hj); omega)
  have h2:=zf6 (ks:=(zae g W H).1) (z:=gz g i' j') (by have:=List.idxOf_lt_length_iff.2 (z17 (g:=g) hi' hj'); omega)
  rw [show (zae g W H).1.idxOf (gz g i j)=(zae g W H).1.idxOf (gz g i' j') by omega,h2]at h1
  exact (Option.some.inj h1).symm
 intro e; rw [e]
theorem z9z {g:List (List Int)} {H W i j:Nat} (h:GW g H W) (hi:i<H) (hj:j<W):0≤gz (zG g) i j∧gz (zG g) i j<(zae g W H).2.length:=by
 rw [z67 h hi hj]
 have h1:=List.idxOf_lt_length_iff.2 (z17 (g:=g) hi hj)
 have h2:=(SeInv.rows (g:=g) (W:=W) H).len
 omega
theorem zpk {g:List (List Int)} {H W i j:Nat} (h:GW g H W) (hi:i<H) (hj:j<W) (h0:0≤gz g i j) (h1:gz g i j≤100):gz (zas (zc0 g)) i j=gz g i j+97:=by
 obtain ⟨row,hrow,hl,hx⟩:=h.at_ hi hj
 have e1:(zas (zc0 g))[i]?=some (zq7 (zm7 row)):=by simp [zas,zji hrow]
 have e2:(zq7 (zm7 row))[j]?=some ((zz7 (gz g i j)).toNat:Int):=by simp [zq7,zm7,hx]
 have e3:gz (zas (zc0 g)) i j=((zz7 (gz g i j)).toNat:Int):=by
  conv=>lhs; unfold gz
  rw [e1,Option.getD_some,e2,Option.getD_some]
 rw [e3]
 unfold zz7
 rw [UInt8.toNat_ofNat_of_lt' (by show 97+(gz g i j).toNat<256; omega)]
 omega
theorem z1x {g:List (List Int)} {H W:Nat} (h:GW g H W):(zc0 g).length=H∧(za0 (zc0 g)).length=W:=by
 refine ⟨by rw [zti,h.1],?_⟩
 obtain ⟨row,hrow,hl,-⟩:=h.at_ (show 0<H by have:=h.2.2.1; omega) (show 0<W by have:=h.2.2.2.2.1; omega)
 rw [ziw (zji hrow)]
 simp [zm7,hl]
theorem z1w {g:List (List Int)} {H W:Nat} (h:GW g H W) (hz:∀ i j,i<H→j<W→0≤gz g i j∧gz g i j<26):zgw (zc0 g)=true:=by
 obtain ⟨t1,t2⟩:=z1x h
 unfold zgw
 rw [t1,t2]
 have h2:=h.2.2
 have:(zc0 g).all (z6p W)=true:=by
  rw [List.all_eq_true]
  intro r hr
  obtain ⟨i,hi⟩:=List.getElem?_of_mem hr
  have hil:=zbn hi
  rw [t1]at hil
  obtain ⟨row,hrow,hrm⟩:=zaf (show i<g.length by rw [h.1]; exact hil)
  have hrl:=h.2.1 row hrm
  rw [zji hrow]at hi
  cases hi
  unfold z6p
  simp only[qB,decide_eq_true_eq,List.all_eq_true]
  refine ⟨⟨⟨by simp [zm7,hrl],by simp [zm7]; omega⟩,by simp [zm7]; omega⟩,fun c hc=>?_⟩
  obtain ⟨z,hzm,rfl⟩:=List.mem_map.1 hc
  obtain ⟨j,hj⟩:=List.getElem?_of_mem hzm
  have hjl:=zbn hj
  have e:gz g i j=z:=by simp [gz,hrow,hj]
  have:=hz i j hil (by omega)
  rw [e]at this
  unfold zcp zz7
  rw [UInt8.toNat_ofNat_of_lt' (by show 97+z.toNat<256; omega)]
  simp only[qB,decide_eq_true_eq]
  omega
 rw [this]
 simp only[Bool.true_and,qB,decide_eq_true_eq]
 omega
def nm (g:List (List Int)):List Txt:=zc0 (zG g)
structure NmOk (g:List (List Int)) (H W:Nat):Prop where
 gw:GW g H W
 le:(zae g W H).2.length≤9
theorem NmOk.bound {g:List (List Int)} {H W:Nat} (h:NmOk g H W) {i j:Nat} (hi:i<H) (hj:j<W):0≤gz (zG g) i j∧gz (zG g) i j≤8:=by
 have h1:=z9z h.gw hi hj
 have h2:=h.le
 omega
theorem NmOk.hd {g:List (List Int)} {H W:Nat} (h:NmOk g H W):(nm g).length=H∧(za0 (nm g)).length=W:=z1x (zxb h.gw)
theorem NmOk.pat {g:List (List Int)} {H W:Nat} (h:NmOk g H W):Pat (zas (nm g)) g H W:=by
 refine Pat.trans (fun i j i' j' hi hj hi' hj'=>?_) (z8r h.gw)
 have b1:=h.bound hi hj
 have b2:=h.bound hi' hj'
 unfold nm
 rw [zpk (zxb h.gw) hi hj b1.1 (by omega),zpk (zxb h.gw) hi' hj' b2.1 (by omega)]
 constructor <;> intro e <;> omega
theorem NmOk.gP {g:List (List Int)} {H W:Nat} (h:NmOk g H W):gP (nm g)=zG g∧rP (nm g)=(zae g W H).2:=by
 rw [zzl,z6h,h.hd.1,h.hd.2,h.gw.zG.1]
 exact ⟨zpw h.pat H (qR _),(zh9 h.pat H (qR _)).2⟩
theorem NmOk.named {g:List (List Int)} {H W:Nat} (h:NmOk g H W):Named (nm g):=by
 refine ⟨z1w (zxb h.gw) fun i j hi hj=>by have:=h.bound hi hj; omega,?_⟩
 rw [h.gP.1]; rfl
theorem NmOk.cell {g:List (List Int)} {H W:Nat} (h:NmOk g H W) {i j:Nat} (hi:i<H) (hj:j<W):zbk (nm g) i j=gz (zG g) i j:=by
 rw [← h.named.cell (by rw [h.hd.1]; exact hi) (by rw [h.hd.2]; exact hj),h.gP.1]
structure Cells (c:Nat→Nat→Nat) (g:List (List Int)) (H W:Nat):Prop where
 gw:GW g H W
 at_:∀ i j,i<H→j<W→gz g i j=((c i j:Nat):Int)
structure Ren (c:Nat→Nat→Nat) (H W:Nat) (t:List Txt):Prop where
 hl:t.length=H
 wl:(za0 t).length=W
 pat:∀ i j i' j',i<H→j<W→i'<H→j'<W→(cn (gP t) i j=cn (gP t) i' j'↔c i j=c i' j')
section
variable {c c':Nat→Nat→Nat} {H W:Nat}
theorem TC.map {R S:Nat→Nat→Prop} {f:Nat→Nat} (h:∀ a b,R a b→S (f a) (f b)) {a b:Nat} (k:TC R a b):TC S (f a) (f b):=by
 induction k with
 | one k=>exact .one (h _ _ k)
 | tail _ k ih=>exact .tail ih (h _ _ k)
structure Iso (p t:List Txt) (L U:Nat→Nat→Prop) (σ:Nat→Nat):Prop where
 pl:zfc t=true
 n:(rP t).length=(rP p).length
 lt:∀ a,a<(rP p).length→σ a<(rP p).length
 inj:∀ a b,a<(rP p).length→b<(rP p).length→σ a=σ b→a=b
 lf:∀ a b,a<(rP p).length→b<(rP p).length→(Lf t (σ a) (σ b)↔L a b)
 ab:∀ a b,a<(rP p).length→b<(rP p).length→(Ab t (σ a) (σ b)↔U a b)
theorem Iso.imp {p t:List Txt} {L U L' U':Nat→Nat→Prop} {σ:Nat→Nat} (h:Iso p t L U σ) (hL:∀ a b,a<(rP p).length→b<(rP p).length→(L a b↔L' a b)) (hU:∀ a b,a<(rP p).length→b<(rP p).length→(U a b↔U' a b)):Iso p t L' U' σ :=
 ⟨h.pl,h.n,h.lt,h.inj,fun a b ha hb=>(h.lf a b ha hb).trans (hL a b ha hb),fun a b ha hb=>(h.ab a b ha hb).trans (hU a b ha hb)⟩
structure Fold1 (f:Nat→Nat) (m n:Nat):Prop where
 pos:1≤m
 z:f 0=0
 s:∀ i,i+1<m→f (i+1)=f i∨f (i+1)=f i+1
 e:f (m - 1)+1=n
theorem Fold1.mono {f:Nat→Nat} {m n:Nat} (h:Fold1 f m n):∀ {i j:Nat},i≤j→j<m→f i≤f j:=by
 intro i j hij
 induction j with
 | zero=>intro _; rw [show i=0 by omega]; exact qR _
 | succ j ih =>
  intro hj
  by_cases e:i=j+1
  ·subst e; exact qR _
  have h1:=ih (by omega) (by omega)
  have:=h.s j hj
  omega
theorem Fold1.lt {f:Nat→Nat} {m n i:Nat} (h:Fold1 f m n) (hi:i<m):f i<n:=by
 have:=h.mono (i:=i) (j:=m - 1) (by omega) (by have:=h.pos; omega)
 have:=h.e
 omega
theorem Fold1.mid {f:Nat→Nat} {m n i:Nat} (h:Fold1 f m n) {v:Nat}:∀ {j:Nat},i≤j→j<m→f i≤v→v≤f j→∃ r,i≤r∧r≤j∧f r=v:=by
 intro j
 induction j with
 | zero=>intro h1 h2 h3 h4; exact ⟨0,by omega,qR _,by rw [show i=0 by omega]at h3; omega⟩
 | succ j ih =>
  intro h1 h2 h3 h4
  by_cases e:f (j+1)=v
  ·exact ⟨j+1,h1,qR _,e⟩
  by_cases e2:i=j+1
  ·subst e2; omega
  have:=h.s j h2
  obtain ⟨r,r1,r2,r3⟩:=ih (by omega) (by omega) h3 (by omega)
  exact ⟨r,r1,by omega,r3⟩
theorem Fold1.last {f:Nat→Nat} {m n v:Nat} (h:Fold1 f m n) (hv:v+1<n):∃ r,r+1<m∧f r=v∧f (r+1)=v+1:=by
 have hp:=h.pos
 have he:=h.e
 obtain ⟨e,h1,h2,h3,h4⟩:=zt5 (P:=fun r=>f r≤v) (i:=0) (n:=m - 1) (by omega) (by rw [h.z]; omega) (by omega)
 have:=h.s e (by omega)
 exact ⟨e,by omega,by omega,by omega⟩
theorem DL.fold {f g:Nat→Nat} {H' W':Nat} (hf:Fold1 f H H') (hg:Fold1 g W W') (hc:∀ i j,i<H→j<W→c i j=c' (f i) (g j)) {a b:Nat}:DL c H W a b↔DL c' H' W' a b:=by
 constructor
 ·rintro ⟨j,i1,i2,h1,h2,h3,run,rfl,rfl⟩
  have hgj:g (j+1)=g j+1:=by
   rcases hg.s j h1 with e | e
   ·have:=run i1 (by omega) (by omega)
    rw [hc i1 j h2 (by omega),hc i1 (j+1) h2 h1,e]at this
    exact absurd rfl this
   exact e
  have hlt:=hg.lt h1
  refine ⟨g j,f i1,f i2,by omega,hf.lt h2,hf.lt h3,fun r r1 r2=>?_,hc _ _ h2 (by omega),by rw [hc _ _ h3 h1,hgj]⟩
  have:∃ r0,min i1 i2≤r0∧r0≤max i1 i2∧f r0=r:=by
   rcases Nat.le_total i1 i2 with q | q
   ·have:=hf.mono q h3
    obtain ⟨r0,q1,q2,q3⟩:=hf.mid (v:=r) q h3 (by omega) (by omega)
    exact ⟨r0,by omega,by omega,q3⟩
   have:=hf.mono q h2
   obtain ⟨r0,q1,q2,q3⟩:=hf.mid (v:=r) q h2 (by omega) (by omega)
   exact ⟨r0,by omega,by omega,q3⟩
  obtain ⟨r0,q1,q2,rfl⟩:=this
  have:=run r0 q1 q2
  rw [hc r0 j (by omega) (by omega),hc r0 (j+1) (by omega) h1,hgj]at this
  exact this
 rintro ⟨j,i1,i2,h1,h2,h3,run,rfl,rfl⟩
 obtain ⟨j0,k1,k2,k3⟩:=hg.last h1
 have hfe:=hf.e
 have hfp:=hf.pos
 obtain ⟨r1,-,q2,q3⟩:=hf.mid (i:=0) (j:=H - 1) (v:=i1) (by omega) (by omega) (by rw [hf.z]; omega) (by omega)
 obtain ⟨r2,-,q5,q6⟩:=hf.mid (i:=0) (j:=H - 1) (v:=i2) (by omega) (by omega) (by rw [hf.z]; omega) (by omega)
 refine ⟨j0,r1,r2,k1,by omega,by omega,fun r s1 s2=>?_,by rw [hc _ _ (by omega) (by omega),q3,k2],by rw [hc _ _ (by omega) (by omega),q6,k3]⟩
 rw [hc r j0 (by omega) (by omega),hc r (j0+1) (by omega) k1,k2,k3]
 refine run (f r) ?_ ?_
 ·rcases Nat.le_total r1 r2 with q | q
  ·have:=hf.mono (show r1≤r by omega) (show r<H by omega); omega
  have:=hf.mono (show r2≤r by omega) (show r<H by omega); omega
 rcases Nat.le_total r1 r2 with q | q
 ·have:=hf.mono (show r≤r2 by omega) (show r2<H by omega); omega
 have:=hf.mono (show r≤r1 by omega) (show r1<H by omega); omega
theorem DU.fold {f g:Nat→Nat} {H' W':Nat} (hf:Fold1 f H H') (hg:Fold1 g W W') (hc:∀ i j,i<H→j<W→c i j=c' (f i) (g j)) {a b:Nat}:DU c H W a b↔DU c' H' W' a b :=
 DL.fold (c:=tr c) (c':=tr c') hg hf fun i j hi hj=>hc j i hj hi
theorem TC.iff {R S:Nat→Nat→Prop} (h:∀ a b,R a b↔S a b) {a b:Nat}:TC R a b↔TC S a b:=⟨TC.mono fun a b=>(h a b).1,TC.mono fun a b=>(h a b).2⟩
end
section
def rooms (n:Nat):List Int:=(List.range n).map fun i:Nat=>(i:Int)
section
variable {n:Nat} {f:Nat→Nat}
end
def bf1 (p:List Txt) (a b:Nat):Bool:=za9 (lfM p) a b || za9 (abM p) a b
def bf2 (p:List Txt) (a b:Nat):Bool:=za9 (lfM p) a b || za9 (abM p) b a
def bfK (p:List Txt) (below:Bool) (a b:Nat):Bool:=if below then bf2 p a b else bf1 p a b
def ahK (p:List Txt) (below:Bool) (a:Nat):Nat:=(List.range (rP p).length).countP fun b=>bfK p below b a
theorem z5m {p:List Txt} (hp:zfc p=true) (below:Bool):∃ f:Nat→Nat,(∀ a b,a<(rP p).length→b<(rP p).length→(bfK p below a b=true↔f a<f b))∧∀ a b,a<(rP p).length→b<(rP p).length→f a=f b→a=b:=by
 obtain ⟨f,g,hfg⟩:=zuj hp
 have tot:=fun a b ha hb hne=>zxz (a:=a) (b:=b) hp ha hb hne
 cases below with
 | false =>
  have h1:∀ a b,a<(rP p).length→b<(rP p).length→bfK p false a b=true→f a<f b:=by
   intro a b ha hb h
   simp only[bfK,bf1,qF,if_false,Bool.or_eq_true]at h
   rcases h with h | h
   ·exact ((hfg a b ha hb).1 h).1
   exact ((hfg a b ha hb).2 h).1
  have h2:∀ a b,a<(rP p).length→b<(rP p).length→a≠b→bfK p false a b=true∨bfK p false b a=true:=by
   intro a b ha hb hne
   simp only[bfK,bf1,qF,if_false,Bool.or_eq_true]
   rcases tot a b ha hb hne with h | h | h | h
   ·exact .inl (.inl h)
   ·exact .inr (.inl h)
   ·exact .inl (.inr h)
   exact .inr (.inr h)
  have h3:∀ a b,a<(rP p).length→b<(rP p).length→f a=f b→a=b:=by
   intro a b ha hb e
   refine Classical.byContradiction fun hne=>?_
   rcases h2 a b ha hb hne with h | h
   ·have:=h1 a b ha hb h; omega
   have:=h1 b a hb ha h; omega
  refine ⟨f,fun a b ha hb=>⟨h1 a b ha hb,fun h=>?_⟩,h3⟩
  rcases h2 a b ha hb (by rintro rfl; omega) with k | k
  ·exact k
  have:=h1 b a hb ha k; omega
 | true =>
  have h1:∀ a b,a<(rP p).length→b<(rP p).length→bfK p true a b=true→g a<g b:=by
   intro a b ha hb h
   simp only[bfK,bf2,if_true,Bool.or_eq_true]at h
   rcases h with h | h
   ·exact ((hfg a b ha hb).1 h).2
   exact ((hfg b a hb ha).2 h).2
  have h2:∀ a b,a<(rP p).length→b<(rP p).length→a≠b→bfK p true a b=true∨bfK p true b a=true:=by
   intro a b ha hb hne
   simp only[bfK,bf2,if_true,Bool.or_eq_true]
   rcases tot a b ha hb hne with h | h | h | h
   ·exact .inl (.inl h)
   ·exact .inr (.inl h)
   ·exact .inr (.inr h)
   exact .inl (.inr h)
  have h3:∀ a b,a<(rP p).length→b<(rP p).length→g a=g b→a=b:=by
   intro a b ha hb e
   refine Classical.byContradiction fun hne=>?_
   rcases h2 a b ha hb hne with h | h
   ·have:=h1 a b ha hb h; omega
   have:=h1 b a hb ha h; omega
  refine ⟨g,fun a b ha hb=>⟨h1 a b ha hb,fun h=>?_⟩,h3⟩
  rcases h2 a b ha hb (by rintro rfl; omega) with k | k
  ·exact k
  have:=h1 b a hb ha k; omega
theorem z34 {p:List Txt} {below:Bool} {f:Nat→Nat} (hf:∀ a b,a<(rP p).length→b<(rP p).length→(bfK p below a b=true↔f a<f b)) {a:Nat} (ha:a<(rP p).length):ahK p below a=ahead (rP p).length f a:=by
 unfold ahK ahead
 apply List.countP_congr
 intro b hb
 rw [hf b a (by simpa using hb) ha]; simp
end
section
section
variable {p:List Txt} {below:Bool}
theorem zpy (hp:zfc p=true) {a b:Nat} (ha:a<(rP p).length) (hb:b<(rP p).length):bfK p below a b=true↔ahK p below a<ahK p below b:=by
 obtain ⟨f,hf,hi⟩:=z5m hp below
 rw [z34 hf ha,z34 hf hb,hf a b ha hb]
 constructor
 ·intro h; exact zu7 ha h
 intro h
 refine Classical.byContradiction fun k=>?_
 rcases Nat.lt_trichotomy (f a) (f b) with q | q | q
 ·exact k q
 ·have:=hi a b ha hb q; subst this; omega
 have:=zu7 (n:=(rP p).length) hb q; omega
end
end

section
variable {M:List (List Bool)} {ms:List Nat} {n:Nat} {rk:Nat→Nat} {ws out:List Int}
abbrev ones (n:Nat):List Int:=List.replicate n 1
def RB (M:List (List Bool)) (n b:Nat):Int:=HB (revM n M) (ones n) n b
def z8x (M:List (List Bool)) (n:Nat) (out:List Int):Prop:=out.length=n∧∀ a,a<n→0≤zmc out a∧zmc out a≤RB M n a
theorem z8x.set (h:z8x M n out) {a:Nat} {v:Int} (ha:a<n) (h0:0≤v) (h1:v≤RB M n a):z8x M n (out.set a v):=by
 refine ⟨by simp [h.1],fun y hy=>?_⟩
 rw [z2r (by rw [h.1]; exact ha)]
 split
 ·rename_i e; subst e; exact ⟨h0,h1⟩
 exact h.2 y hy
end
section
variable {p:List Txt}
end
section
variable {p t:List Txt} {L U:Nat→Nat→Prop} {σ:Nat→Nat}
theorem zpz {below:Bool} {a b:Nat}:bfK p below a b=true↔Lf p a b∨(if below then Ab p b a else Ab p a b):=by
 unfold bfK bf1 bf2 Lf Ab
 cases below <;> simp
end
section
variable {c:Nat→Nat→Nat} {H W:Nat}
theorem DL.cols (h:Pl c H W) {i j i' j':Nat} (hi:i<H) (hj:j<W) (hi':i'<H) (hj':j'<W) (hd:DL c H W (c i j) (c i' j')):j<j':=by
 obtain ⟨k,i1,i2,h1,h2,h3,run,e1,e2⟩:=hd
 have a1:j≤k:=by
  refine Classical.byContradiction fun hn=>?_
  have:=h.rect (i:=i1) (j:=k) (i':=i) (j':=j) i1 (k+1) h2 hi (by omega) hj e1.symm (by omega) (by omega) (by omega) (by omega)
  exact run i1 (by omega) (by omega) this.symm
 have a2:k+1≤j':=by
  refine Classical.byContradiction fun hn=>?_
  have:=h.rect (i:=i2) (j:=k+1) (i':=i') (j':=j') i2 k h3 hi' h1 hj' e2.symm (by omega) (by omega) (by omega) (by omega)
  exact run i2 (by omega) (by omega) this
 omega
theorem DL.cells {a b:Nat} (hd:DL c H W a b):(∃ i j,i<H∧j<W∧c i j=a)∧∃ i j,i<H∧j<W∧c i j=b:=by
 obtain ⟨k,i1,i2,h1,h2,h3,run,e1,e2⟩:=hd
 exact ⟨⟨i1,k,h2,by omega,e1.symm⟩,i2,k+1,h3,h1,e2.symm⟩
theorem TC.cols (h:Pl c H W) {a b:Nat} (hd:TC (DL c H W) a b):∀ {i j i' j':Nat},i<H→j<W→i'<H→j'<W→c i j=a→c i' j'=b→j<j':=by
 induction hd with
 | one hd=>intro i j i' j' h1 h2 h3 h4 e1 e2; subst e1; subst e2; exact hd.cols h h1 h2 h3 h4
 | tail _ hd ih =>
  intro i j i' j' h1 h2 h3 h4 e1 e2
  obtain ⟨⟨x,y,hx,hy,e3⟩,-⟩:=hd.cells
  have q1:=ih h1 h2 hx hy e1 e3
  subst e2; rw [← e3]at hd
  have q2:=hd.cols h hx hy h3 h4
  omega
variable {p:List Txt}
end
section
section
variable {cf cg:Nat→Nat→Nat} {H1 W1 H2 W2 n:Nat}
end
end
section
section
variable {cf cg:Nat→Nat→Nat} {H1 W1 H2 W2 n N:Nat}
end
end

structure Made (c:Nat→Nat→Nat) (H W:Nat) (g:List (List Int)):Prop where
 gw:GW g H W
 ok:okS g=true
 full:zit g=true
 plan:zm1 (nm g)=true
 ren:Ren c H W (nm g)
section
section
variable {p q t:List Txt} {L U:Nat→Nat→Prop} {σ:Nat→Nat}
structure Two (p q t:List Txt) (σ:Nat→Nat):Prop where
 hp:zfc p=true
 hq:zfc q=true
 pl:zfc t=true
 n:(rP t).length=(rP p).length+(rP q).length
 lt:∀ a,a<(rP t).length→σ a<(rP t).length
 inj:∀ a b,a<(rP t).length→b<(rP t).length→σ a=σ b→a=b
 l1:∀ a b,a<(rP p).length→b<(rP p).length→a≠b→(Lf t (σ a) (σ b)↔Lf p a b)∧(Ab t (σ a) (σ b)↔Ab p a b)
 l2:∀ a b,a<(rP q).length→b<(rP q).length→a≠b→(Lf t (σ ((rP p).length+a)) (σ ((rP p).length+b))↔Lf q a b)∧(Ab t (σ ((rP p).length+a)) (σ ((rP p).length+b))↔Ab q a b)
theorem Two.blk (h:Two p q t σ) (b1:Bool):(∀ a b,a<(rP p).length→b<(rP p).length→(ahK t b1 (σ a)<ahK t b1 (σ b)↔ahK p b1 a<ahK p b1 b)) ∧
  ∀ a b,a<(rP q).length→b<(rP q).length→(ahK t b1 (σ ((rP p).length+a))<ahK t b1 (σ ((rP p).length+b))↔ahK q b1 a<ahK q b1 b):=by
 have hn:=h.n
 constructor
 ·intro a b ha hb
  by_cases e:a=b
  ·subst e; simp
  rw [← zpy h.pl (h.lt a (by omega)) (h.lt b (by omega)),← zpy h.hp ha hb,zpz,zpz,(h.l1 a b ha hb e).1]
  cases b1 <;> simp [(h.l1 a b ha hb e).2,(h.l1 b a hb ha fun x=>e x.symm).2]
 intro a b ha hb
 by_cases e:a=b
 ·subst e; simp
 rw [← zpy h.pl (h.lt _ (by omega)) (h.lt _ (by omega)),← zpy h.hq ha hb,zpz,zpz,(h.l2 a b ha hb e).1]
 cases b1 <;> simp [(h.l2 a b ha hb e).2,(h.l2 b a hb ha fun x=>e x.symm).2]
end
end
section
section
variable {p q:List Txt}
end
end
structure Pt where
 r:Nat
 c:Nat
 h:Nat
 w:Nat
 deriving DecidableEq
def Pt.In (t:Pt) (H W:Nat):Prop:=1≤t.h∧1≤t.w∧t.r+t.h≤H∧t.c+t.w≤W
def Pt.one (t:Pt) (q:Bool × Nat):Pt:=if q.1 then ⟨t.r,t.c,q.2,t.w⟩ else ⟨t.r,t.c,t.h,q.2⟩
inductive CT where
 | leaf (a:Int)
 | node (lv:Bool) (x y:CT)
def CT.fold {α:Type} (room:Int→α) (cut:Bool→α→α→α):CT→α
 | .leaf a=>room a
 | .node lv x y=>cut lv (x.fold room cut) (y.fold room cut)
structure Whole (z:Nat→Nat→Int) (H W:Nat) (t:Pt):Prop where
 inn:t.In H W
 all:∀ i j i' j',i<H→j<W→i'<H→j'<W→z i j=z i' j'→t.r≤i→i<t.r+t.h→t.c≤j→j<t.c+t.w→t.r≤i'∧i'<t.r+t.h∧t.c≤j'∧j'<t.c+t.w
section
def z8d (t:Pt) (row:Txt):Txt:=(row.drop t.c).take t.w
def sub (p:List Txt) (t:Pt):List Txt:=((p.drop t.r).take t.h).map (z8d t)
section
variable {p:List Txt} {t:Pt}
end
end
section
def Pt.rect (t:Pt):Rect:=⟨t.r,t.c,t.h,t.w⟩
section
variable {p:List Txt} {t:Pt}
end
end
section
section
variable {z:Nat→Nat→Int} {H W:Nat} {t:Pt}
def CT.leaves:CT→List Int
 | .leaf a=>[a]
 | .node _ x y=>x.leaves++y.leaves
theorem CT.pos (x:CT):1≤x.leaves.length:=by
 induction x with
 | leaf a=>simp [CT.leaves]
 | node lv x y h1 h2=>simp [CT.leaves]; omega
end
end
section
section
variable {c:Nat→Nat→Nat} {H W:Nat}
def z8c (c:Nat→Nat→Nat) (t:Pt) (i j:Nat):Nat:=c (t.r+i) (t.c+j)
theorem Pl.sub (h:Pl c H W) {t:Pt} (ht:t.In H W):Pl (z8c c t) t.h t.w:=by
 obtain ⟨t1,t2,t3,t4⟩:=ht
 constructor
 ·intro i j i' j' k l a b c' d e f1 f2 f3 f4
  exact h.rect (t.r+k) (t.c+l) (by omega) (by omega) (by omega) (by omega) e (by omega) (by omega) (by omega) (by omega)
 intro i j a b e1 e2 e3
 exact h.plain (i:=t.r+i) (j:=t.c+j) (by omega) (by omega) e1 e2 e3
theorem DL.sub {t:Pt} (ht:t.In H W) {a b:Nat} (h:DL (z8c c t) t.h t.w a b):DL c H W a b:=by
 obtain ⟨t1,t2,t3,t4⟩:=ht
 obtain ⟨j,i1,i2,a1,a2,a3,a4,a5,a6⟩:=h
 refine ⟨t.c+j,t.r+i1,t.r+i2,by omega,by omega,by omega,fun r h1 h2=>?_,a5,a6⟩
 have:=a4 (r - t.r) (by omega) (by omega)
 simp only[z8c]at this
 rwa [show t.r+(r - t.r)=r by omega]at this
theorem DU.sub {t:Pt} (ht:t.In H W) {a b:Nat} (h:DU (z8c c t) t.h t.w a b):DU c H W a b:=by
 obtain ⟨t1,t2,t3,t4⟩:=ht
 obtain ⟨i,j1,j2,a1,a2,a3,a4,a5,a6⟩:=h
 refine ⟨t.r+i,t.c+j1,t.c+j2,by omega,by omega,by omega,fun r h1 h2=>?_,a5,a6⟩
 have:=a4 (r - t.c) (by omega) (by omega)
 simp only[z8c]at this
 rwa [show t.c+(r - t.c)=r by omega]at this
end
section
variable {p:List Txt}
end
inductive Ch (M:List (List Bool)) (ws:List Int) (a:Nat):Nat→Int→Prop
 | one:Ch M ws a a (zmc ws a)
 | snoc {b d:Nat} {s:Int}:Ch M ws a b s→za9 M b d=true→Ch M ws a d (s+zmc ws d)
section
variable {M:List (List Bool)} {ws:List Int} {n:Nat} {rk:Nat→Nat}
theorem Ch.le (hu:Up M n rk) (hsq:∀ a b,za9 M a b=true→a<n) {a b:Nat} {s:Int} (h:Ch M ws a b s):b<n→s≤HB M ws n b:=by
 induction h with
 | one=>intro hb; rw [z33 hu hb]; have:=z7m (M:=M) (ws:=ws) (n:=n) a; omega
 | snoc k hk ih =>
  intro hb
  have h1:=ih (hsq _ _ hk)
  have h2:=z7l (ws:=ws) (hsq _ _ hk) hk
  rw [z33 hu hb]; omega
end
section
variable {p:List Txt}
end
end
section
inductive Sp (L U:Nat→Nat→Prop):(Nat→Prop)→Prop
 | one {A:Nat→Prop} (a:Nat):A a→(∀ b,A b→b=a)→Sp L U A
 | left {A:Nat→Prop} (B:Nat→Prop):(∃ a,A a∧B a)→(∃ a,A a∧¬ B a)→(∀ a b,A a→B a→A b→¬ B b→L a b)→Sp L U (fun a=>A a∧B a)→Sp L U (fun a=>A a∧¬ B a)→Sp L U A
 | up {A:Nat→Prop} (B:Nat→Prop):(∃ a,A a∧B a)→(∃ a,A a∧¬ B a)→(∀ a b,A a→B a→A b→¬ B b→U a b)→Sp L U (fun a=>A a∧B a)→Sp L U (fun a=>A a∧¬ B a)→Sp L U A
theorem Sp.congr {L U:Nat→Nat→Prop} {A A':Nat→Prop} (h:Sp L U A) (e:∀ a,A a↔A' a):Sp L U A':=by
 have:A=A':=funext fun a=>propext (e a)
 rwa [← this]
theorem Sp.ne {L U:Nat→Nat→Prop} {A:Nat→Prop} (h:Sp L U A):∃ a,A a:=by
 cases h with
 | one a h _=>exact ⟨a,h⟩
 | left B h=>obtain ⟨a,h,_⟩:=h; exact ⟨a,h⟩
 | up B h=>obtain ⟨a,h,_⟩:=h; exact ⟨a,h⟩
theorem Sp.map {L U L' U':Nat→Nat→Prop} {A:Nat→Prop} (g:Nat→Nat) (h:Sp L U A):∀ {A':Nat→Prop},(∀ i,A' i→A (g i))→(∀ a,A a→∃ i,A' i∧g i=a)→(∀ i j,A' i→A' j→g i=g j→i=j) →
  (∀ i j,A' i→A' j→L (g i) (g j)→L' i j)→(∀ i j,A' i→A' j→U (g i) (g j)→U' i j)→Sp L' U' A':=by
 induction h with
 | one a ha hu =>
  intro A' h1 h2 h3 h4 h5
  obtain ⟨i,hi,e⟩:=h2 a ha
  exact .one i hi fun j hj=>h3 j i hj hi ((hu _ (h1 j hj)).trans e.symm)
 | left B hb hn hl _ _ i1 i2 =>
  intro A' h1 h2 h3 h4 h5
  refine .left (fun i=>B (g i)) ?_ ?_ (fun a b ha hba hb' hnb=>h4 a b ha hb' (hl _ _ (h1 a ha) hba (h1 b hb') hnb)) (i1 (fun i hi=>⟨h1 i hi.1,hi.2⟩) (fun a ha=>?_) (fun i j hi hj=>h3 i j hi.1 hj.1) (fun i j hi hj=>h4 i j hi.1 hj.1) fun i j hi hj=>h5 i j hi.1 hj.1)
   (i2 (fun i hi=>⟨h1 i hi.1,hi.2⟩) (fun a ha=>?_) (fun i j hi hj=>h3 i j hi.1 hj.1) (fun i j hi hj=>h4 i j hi.1 hj.1) fun i j hi hj=>h5 i j hi.1 hj.1)
  ·obtain ⟨a,ha,hb⟩:=hb; obtain ⟨i,hi,e⟩:=h2 a ha; exact ⟨i,hi,by rw [e]; exact hb⟩
  ·obtain ⟨a,ha,hb⟩:=hn; obtain ⟨i,hi,e⟩:=h2 a ha; exact ⟨i,hi,by rw [e]; exact hb⟩
  ·obtain ⟨i,hi,e⟩:=h2 a ha.1; exact ⟨i,⟨hi,by rw [e]; exact ha.2⟩,e⟩
  obtain ⟨i,hi,e⟩:=h2 a ha.1; exact ⟨i,⟨hi,by rw [e]; exact ha.2⟩,e⟩
 | up B hb hn hl _ _ i1 i2 =>
  intro A' h1 h2 h3 h4 h5
  refine .up (fun i=>B (g i)) ?_ ?_ (fun a b ha hba hb' hnb=>h5 a b ha hb' (hl _ _ (h1 a ha) hba (h1 b hb') hnb)) (i1 (fun i hi=>⟨h1 i hi.1,hi.2⟩) (fun a ha=>?_) (fun i j hi hj=>h3 i j hi.1 hj.1) (fun i j hi hj=>h4 i j hi.1 hj.1) fun i j hi hj=>h5 i j hi.1 hj.1)
   (i2 (fun i hi=>⟨h1 i hi.1,hi.2⟩) (fun a ha=>?_) (fun i j hi hj=>h3 i j hi.1 hj.1) (fun i j hi hj=>h4 i j hi.1 hj.1) fun i j hi hj=>h5 i j hi.1 hj.1)
  ·obtain ⟨a,ha,hb⟩:=hb; obtain ⟨i,hi,e⟩:=h2 a ha; exact ⟨i,hi,by rw [e]; exact hb⟩
  ·obtain ⟨a,ha,hb⟩:=hn; obtain ⟨i,hi,e⟩:=h2 a ha; exact ⟨i,hi,by rw [e]; exact hb⟩
  ·obtain ⟨i,hi,e⟩:=h2 a ha.1; exact ⟨i,⟨hi,by rw [e]; exact ha.2⟩,e⟩
  obtain ⟨i,hi,e⟩:=h2 a ha.1; exact ⟨i,⟨hi,by rw [e]; exact ha.2⟩,e⟩
theorem Sp.sub {L U:Nat→Nat→Prop} {A:Nat→Prop} (h:Sp L U A):∀ {A':Nat→Prop},(∀ a,A' a→A a)→(∃ a,A' a)→Sp L U A':=by
 induction h with
 | one a ha hu =>
  intro A' h1 ⟨b,hb⟩
  exact .one b hb fun d hd=>(hu d (h1 d hd)).trans (hu b (h1 b hb)).symm
 | left B _ _ hl _ _ i1 i2 =>
  intro A' h1 h2
  by_cases hb:∃ a,A' a∧B a
  ·by_cases hn:∃ a,A' a∧¬ B a
   ·exact .left B hb hn (fun a b ha hba hb' hnb=>hl a b (h1 a ha) hba (h1 b hb') hnb) (i1 (fun a ha=>⟨h1 a ha.1,ha.2⟩) hb) (i2 (fun a ha=>⟨h1 a ha.1,ha.2⟩) hn)
   exact i1 (fun a ha=>⟨h1 a ha,Classical.byContradiction fun h=>hn ⟨a,ha,h⟩⟩) h2
  exact i2 (fun a ha=>⟨h1 a ha,fun h=>hb ⟨a,ha,h⟩⟩) h2
 | up B _ _ hl _ _ i1 i2 =>
  intro A' h1 h2
  by_cases hb:∃ a,A' a∧B a
  ·by_cases hn:∃ a,A' a∧¬ B a
   ·exact .up B hb hn (fun a b ha hba hb' hnb=>hl a b (h1 a ha) hba (h1 b hb') hnb) (i1 (fun a ha=>⟨h1 a ha.1,ha.2⟩) hb) (i2 (fun a ha=>⟨h1 a ha.1,ha.2⟩) hn)
   exact i1 (fun a ha=>⟨h1 a ha,Classical.byContradiction fun h=>hn ⟨a,ha,h⟩⟩) h2
  exact i2 (fun a ha=>⟨h1 a ha,fun h=>hb ⟨a,ha,h⟩⟩) h2
section
variable {p:List Txt}
end
end
section
section
variable {c:Nat→Nat→Nat} {H W:Nat}
theorem DU.rows (h:Pl c H W) {u v:Nat} (hd:DU c H W u v) {i j i' j':Nat} (hi:i<H) (hj:j<W) (hi':i'<H) (hj':j'<W) (hu:c i j=u) (hv:c i' j'=v):i<i':=by
 obtain ⟨l,j1,j2,a1,a2,a3,a4,a5,a6⟩:=hd
 have k1:i≤l:=by
  refine Nat.le_of_not_lt fun hlt=>a4 j1 (by omega) (by omega) ?_
  have:=h.rect (i:=i) (j:=j) (i':=l) (j':=j1) (l+1) j1 hi (by omega) hj a2 (by rw [hu,a5]) (by omega) (by omega) (by omega) (by omega)
  rw [this,hu,a5]
 have k2:l+1≤i':=by
  refine Nat.le_of_not_lt fun hlt=>a4 j2 (by omega) (by omega) ?_
  have:=h.rect (i:=i') (j:=j') (i':=l+1) (j':=j2) l j2 hi' (by omega) hj' a3 (by rw [hv,a6]) (by omega) (by omega) (by omega) (by omega)
  rw [this,hv,a6]
 omega
theorem TCU.rows (h:Pl c H W) {u v:Nat} (hd:TC (DU c H W) u v):∀ {i j i' j':Nat},i<H→j<W→i'<H→j'<W→c i j=u→c i' j'=v→i<i':=by
 induction hd with
 | one hd=>exact DU.rows h hd
 | tail _ k ih =>
  intro i j i' j' hi hj hi' hj' hu hv
  obtain ⟨l,j1,j2,a1,a2,a3,a4,a5,a6⟩:=id k
  have h1:=ih hi hj (show l<H by omega) a2 hu a5.symm
  have h2:=DU.rows h k (show l<H by omega) a2 hi' hj' a5.symm hv
  omega
end
section
variable {p:List Txt}
theorem DL.lt (hp:zfc p=true) {a b:Nat} (h:DL (cn (gP p)) p.length (za0 p).length a b):a<(rP p).length∧b<(rP p).length:=by
 obtain ⟨j,i1,i2,h1,h2,h3,-,rfl,rfl⟩:=h
 exact ⟨znm zgh h2 (by omega),znm zgh h3 h1⟩
theorem DU.lt (hp:zfc p=true) {a b:Nat} (h:DU (cn (gP p)) p.length (za0 p).length a b):a<(rP p).length∧b<(rP p).length:=by
 obtain ⟨j,i1,i2,h1,h2,h3,-,rfl,rfl⟩:=h
 exact ⟨znm zgh (by omega) h2,znm zgh h1 h3⟩
end
end
section
def Tight (a b c d:Int):Prop:=(c<a∧a<d∧d<b)∨(b<d∧d<a∧a<c)
def Avoid (v:Nat→Int) (A:Nat→Prop):Prop:=∀ a b c d,A a→A b→A c→A d→a<b→b<c→c<d→¬ Tight (v a) (v b) (v c) (v d)
def Inj (v:Nat→Int) (A:Nat→Prop):Prop:=∀ a b,A a→A b→v a=v b→a=b
def LS (v:Nat→Int) (A B:Nat→Prop):Prop:=(∃ a,A a∧B a)∧(∃ a,A a∧¬ B a)∧∀ a b,A a→B a→A b→¬ B b→a<b∧v a<v b
def DS (v:Nat→Int) (A B:Nat→Prop):Prop:=(∃ a,A a∧B a)∧(∃ a,A a∧¬ B a)∧∀ a b,A a→B a→A b→¬ B b→a<b∧v b<v a
theorem LS.neg {v:Nat→Int} {A B:Nat→Prop} (h:LS (fun i => -v i) A B):DS v A B :=
 ⟨h.1,h.2.1,fun a b h1 h2 h3 h4=>by have:=h.2.2 a b h1 h2 h3 h4; simp only at this; omega⟩
theorem DS.neg {v:Nat→Int} {A B:Nat→Prop} (h:DS (fun i => -v i) A B):LS v A B :=
 ⟨h.1,h.2.1,fun a b h1 h2 h3 h4=>by have:=h.2.2 a b h1 h2 h3 h4; simp only at this; omega⟩
theorem DS.pos {v:Nat→Int} {A B:Nat→Prop} (h:DS v A B):LS (fun i => -v i) A B :=
 ⟨h.1,h.2.1,fun a b h1 h2 h3 h4=>by have:=h.2.2 a b h1 h2 h3 h4; refine ⟨this.1,?_⟩; show -v a < -v b; omega⟩
theorem Avoid.neg {v:Nat→Int} {A:Nat→Prop} (h:Avoid v A):Avoid (fun i => -v i) A:=fun a b c d h1 h2 h3 h4 h5 h6 h7 k =>
 h a b c d h1 h2 h3 h4 h5 h6 h7 (by unfold Tight at k ⊢; simp only at k; omega)
theorem Inj.neg {v:Nat→Int} {A:Nat→Prop} (h:Inj v A):Inj (fun i => -v i) A:=fun a b h1 h2 h3=>h a b h1 h2 (by simp only at h3; omega)
theorem Avoid.sub {v:Nat→Int} {A A':Nat→Prop} (h:Avoid v A) (k:∀ a,A' a→A a):Avoid v A':=fun a b c d h1 h2 h3 h4=>h a b c d (k a h1) (k b h2) (k c h3) (k d h4)
theorem Inj.sub {v:Nat→Int} {A A':Nat→Prop} (h:Inj v A) (k:∀ a,A' a→A a):Inj v A':=fun a b h1 h2=>h a b (k a h1) (k b h2)
section
variable {l:List Int}
end
end

theorem za7 {a b:List UInt8} (h:a.length+b.length≤9223372036854775807):z0u .add a b=some (.str (a++b)):=if_pos h
section
section
variable {p:List Txt}
end
end
def Tm.ok:Tm→Prop
 | .o=>True
 | .un c t=>(c=62∨c=94)∧t.ok
 | .bin m a b=>(m=124∨m=45)∧a.ok∧b.ok
def Tm.n:Tm→Nat
 | .o=>1
 | .un _ t=>t.n
 | .bin _ a b=>a.n+b.n
theorem Tm.pos:∀ t:Tm,1≤t.n
 | .o=>qR _
 | .un _ t=>t.pos
 | .bin _ a b=>by have:=a.pos; simp only[Tm.n]; omega
def Tm.pure:Tm→Prop
 | .o=>True
 | .un _ _=>False
 | .bin m a b=>(m=124∨m=45)∧a.pure∧b.pure
theorem Tm.pure.ok {t:Tm} (h:t.pure):t.ok:=by
 induction t with
 | o=>trivial
 | un c t _=>exact h.elim
 | bin m a b h1 h2=>exact ⟨h.1,h1 h.2.1,h2 h.2.2⟩
def mv (s:UInt8):Tm→Tm
 | .o => .o
 | .un c t => .un c t
 | .bin m a b=>if s=62 then (if m=124 then .bin 45 (mv s a) (mv s b) else .bin 124 (mv s b) (mv s a))
  else if s=94∧m=124 then .bin 124 (mv s b) (mv s a) else .bin m (mv s a) (mv s b)
def td:Tm→Tm
 | .o => .o
 | .un c t=>mv c (td t)
 | .bin m a b => .bin m (td a) (td b)
theorem zjr {s:UInt8} {u:Tm} (h:u.pure):(mv s u).pure∧(mv s u).n=u.n:=by
 induction u with
 | o=>exact ⟨trivial,rfl⟩
 | un c t _=>exact h.elim
 | bin m a b h1 h2 =>
  obtain ⟨k1,k2⟩:=h1 h.2.1
  obtain ⟨k3,k4⟩:=h2 h.2.2
  have hm:=h.1
  unfold mv
  repeat' split
  all_goals simp only[Tm.pure,Tm.n,k2,k4]
  all_goals refine ⟨⟨?_,?_,?_⟩,?_⟩
  all_goals first | exact .inl rfl | exact .inr rfl | exact .inr trivial | exact .inl trivial | trivial | assumption | omega
theorem zj3 {t:Tm} (h:t.ok):(td t).pure∧(td t).n=t.n:=by
 induction t with
 | o=>exact ⟨trivial,rfl⟩
 | un c t ih =>
  obtain ⟨k1,k2⟩:=ih h.2
  have:=zjr (s:=c) k1
  exact ⟨this.1,by rw [td,this.2,k2]; rfl⟩
 | bin m a b h1 h2 =>
  obtain ⟨k1,k2⟩:=h1 h.2.1
  obtain ⟨k3,k4⟩:=h2 h.2.2
  exact ⟨⟨h.1,k1,k3⟩,by simp only[td,Tm.n,k2,k4]⟩
theorem z7z {u:Tm} (h:u.pure):mv 0 u=u:=by
 induction u with
 | o=>rfl
 | un c t _=>rfl
 | bin m a b h1 h2 =>
  unfold mv
  rw [if_neg (by decide),if_neg (by rintro ⟨h,-⟩; exact absurd h (by decide)),h1 h.2.1,h2 h.2.2]
theorem zmp {m:UInt8} {a b:Tm}:mv 62 (.bin m a b)=if m=124 then .bin 45 (mv 62 a) (mv 62 b) else .bin 124 (mv 62 b) (mv 62 a):=by
 conv=>lhs; unfold mv
 rw [if_pos rfl]
theorem zjq {m:UInt8} {a b:Tm}:mv 94 (.bin m a b)=if m=124 then .bin 124 (mv 94 b) (mv 94 a) else .bin m (mv 94 a) (mv 94 b):=by
 conv=>lhs; unfold mv
 rw [if_neg (by decide)]
 by_cases e:m=124
 ·rw [if_pos ⟨rfl,e⟩,if_pos e]
 rw [if_neg fun h=>e h.2,if_neg e]
theorem zzg {u:Tm} (h:u.pure):mv 62 (mv 62 (mv 62 (mv 62 u)))=u:=by
 induction u with
 | o=>rfl
 | un c t _=>exact h.elim
 | bin m a b h1 h2 =>
  rcases h.1 with rfl | rfl
  ·simp [zmp,h1 h.2.1,h2 h.2.2]
  simp [zmp,h1 h.2.1,h2 h.2.2]
theorem z5w {u:Tm} (h:u.pure):mv 94 (mv 94 u)=u:=by
 induction u with
 | o=>rfl
 | un c t _=>exact h.elim
 | bin m a b h1 h2 =>
  rcases h.1 with rfl | rfl
  ·simp [zjq,h1 h.2.1,h2 h.2.2]
  simp [zjq,h1 h.2.1,h2 h.2.2]
theorem zzf {u:Tm} (h:u.pure):mv 94 (mv 62 u)=mv 62 (mv 62 (mv 62 (mv 94 u))):=by
 induction u with
 | o=>rfl
 | un c t _=>exact h.elim
 | bin m a b h1 h2 =>
  rcases h.1 with rfl | rfl
  ·simp [zjq,zmp,h1 h.2.1,h2 h.2.2]
  simp [zjq,zmp,h1 h.2.1,h2 h.2.2]
def stS (m:UInt8) (f:Bool):Nat→UInt8 × Bool
 | 0=>(m,f && m == 124)
 | k+1=>if (stS m f k).1=124 then (45,(stS m f k).2) else (124,!(stS m f k).2)
def tdS:Tm→Nat→Bool→Tm
 | .o,_,_ => .o
 | .un c t,k,f=>if c=62 then tdS t (if f then (k+3) % 4 else (k+1) % 4) f else tdS t k (!f)
 | .bin m a b,k,f=>if (stS m f k).2 then .bin (stS m f k).1 (tdS b k f) (tdS a k f) else .bin (stS m f k).1 (tdS a k f) (tdS b k f)
def mvN:Nat→Tm→Tm
 | 0,u=>u
 | k+1,u=>mv 62 (mvN k u)
def mvF (f:Bool) (u:Tm):Tm:=if f then mv 94 u else u
theorem z22 {u:Tm} (h:u.pure):∀ k,(mvN k u).pure
 | 0=>h
 | k+1=>(zjr (z22 h k)).1
theorem z21 {u:Tm} (h:u.pure) (f:Bool):(mvF f u).pure:=by
 cases f
 ·exact h
 exact (zjr h).1
theorem z6u {m:UInt8} (hm:m=124∨m=45) (f:Bool):∀ k,(stS m f k).1=124∨(stS m f k).1=45
 | 0=>hm
 | k+1=>by
  unfold stS
  split
  ·exact .inr rfl
  exact .inl rfl
theorem z0b {m:UInt8} (hm:m=124∨m=45) (f:Bool) (a b:Tm):∀ k,mvN k (mvF f (.bin m a b)) =
  if (stS m f k).2 then .bin (stS m f k).1 (mvN k (mvF f b)) (mvN k (mvF f a)) else .bin (stS m f k).1 (mvN k (mvF f a)) (mvN k (mvF f b))
 | 0=>by
  cases f
  ·rfl
  rcases hm with rfl | rfl
  ·simp [mvN,mvF,stS,zjq]
  simp [mvN,mvF,stS,zjq]
 | k+1=>by
  have h2:=z6u hm f k
  unfold mvN stS
  rw [z0b hm f a b k]
  cases hs:(stS m f k).2 <;> rcases h2 with e | e <;> simp [e,zmp]
theorem z0c {u:Tm} (h:u.pure):∀ {k:Nat},k<4→mvN ((k+1) % 4) u=mvN k (mv 62 u)∧mvN ((k+3) % 4) u=mvN k (mv 62 (mv 62 (mv 62 u))):=by
 intro k hk
 have h4:=zzg h
 have h1:=(zjr (s:=62) h).1
 have k4:=zzg h1
 rcases (show k=0∨k=1∨k=2∨k=3 by omega) with rfl | rfl | rfl | rfl
 all_goals simp [mvN,h4,k4]
theorem z8f {t:Tm} (h:t.ok):∀ {k:Nat} {f:Bool},k<4→tdS t k f=mvN k (mvF f (td t)):=by
 induction t with
 | o =>
  intro k f _
  have:∀ k,mvN k Tm.o = .o:=fun k=>by induction k with | zero=>rfl | succ k ih=>unfold mvN; rw [ih]; rfl
  cases f <;> exact (this k).symm
 | un c t ih =>
  intro k f hk
  have hp:=(zj3 h.2).1
  rcases h.1 with rfl | rfl
  ·rw [tdS,if_pos rfl]
   cases f
   ·rw [if_neg (by decide),ih h.2 (Nat.mod_lt _ (by omega))]
    exact (z0c hp hk).1
   rw [if_pos rfl,ih h.2 (Nat.mod_lt _ (by omega))]
   rw [(z0c (z21 hp true) hk).2]
   show mvN k (mv 62 (mv 62 (mv 62 (mv 94 (td t)))))=mvN k (mv 94 (mv 62 (td t)))
   rw [zzf hp]
  rw [tdS,if_neg (by decide),ih h.2 hk]
  cases f
  ·rfl
  show mvN k (td t)=mvN k (mv 94 (mv 94 (td t)))
  rw [z5w hp]
 | bin m a b h1 h2 =>
  intro k f hk
  rw [td,z0b h.1,tdS,h1 h.2.1 hk,h2 h.2.2 hk]
def Full (l:List Int):Prop:=(∀ (i:Nat) v,l[i]?=some v→0≤v∧v<l.length)∧∀ v:Nat,v<l.length→∃ i:Nat,l[i]?=some (v:Int)
def To (g:Nat→Nat) (l l':List Int):Prop:=l'.length=l.length∧∀ (i:Nat) v,l[i]?=some v→l'[l.length - 1 - v.toNat]?=some ((g i:Nat):Int)
theorem To.uniq {g:Nat→Nat} {l l' l2:List Int} (hl:Full l) (h:To g l l') (k:To g l l2):l'=l2:=by
 apply List.ext_getElem?
 intro i
 by_cases hi:i<l.length
 ·obtain ⟨j,hj⟩:=hl.2 (l.length - 1 - i) (by omega)
  have h1:=h.2 _ _ hj
  have h2:=k.2 _ _ hj
  rw [show l.length - 1 - ((l.length - 1 - i:Nat):Int).toNat=i by omega]at h1 h2
  rw [h1,h2]
 rw [List.getElem?_eq_none (by rw [h.1]; omega),List.getElem?_eq_none (by rw [k.1]; omega)]
section
section
variable {p t:List Txt} {σ:Nat→Nat}
end
theorem z88:∀ (f:Nat) {s:Txt} {t:Tm} {r:Txt},rd f s=some (t,r)→t.ok∧t.n+r.count 111=s.count 111:=by
 intro f
 induction f with
 | zero=>intro s t r h; simp [rd]at h
 | succ f ih =>
  intro s t r h
  cases s with
  | nil=>simp [rd]at h
  | cons c s =>
   simp only[rd]at h
   split at h
   ·rename_i e
    cases h; subst e
    exact ⟨trivial,by simp [Tm.n]; omega⟩
   rename_i ne
   have hc:(c::s).count 111=s.count 111:=List.count_cons_of_ne ne
   rw [hc]
   split at h
   ·rename_i hcc
    split at h
    ·rename_i t' r' e
     cases h
     obtain ⟨h1,h2⟩:=ih e
     exact ⟨⟨hcc,h1⟩,h2⟩
    cases h
   split at h
   ·split at h
    ·rename_i a m r1 e
     obtain ⟨h1,h2⟩:=ih e
     split at h
     ·rename_i hm
      split at h
      ·rename_i b e2 r2 e3
       obtain ⟨h3,h4⟩:=ih e3
       split at h
       ·rename_i he
        cases h
        subst he
        rw [List.count_cons_of_ne (by decide)]at h4
        rw [List.count_cons_of_ne (by rcases hm with rfl | rfl <;> decide)]at h2
        exact ⟨⟨hm,h1,h3⟩,by simp only[Tm.n]; omega⟩
       cases h
      cases h
     cases h
    cases h
   cases h
def ofT (s:Txt):Option Tm:=if s.length>60∨s.count 111>7 then none else match rd (s.length+1) s with
 | some (t,[])=>some t
 | _=>none
theorem zr9 {s:Txt} {t:Tm} (h:ofT s=some t):t.ok∧t.n≤7∧s.length≤60∧s.count 111≤7∧rd (s.length+1) s=some (t,[]):=by
 unfold ofT at h
 split at h
 ·cases h
 rename_i hc
 split at h
 ·rename_i t' e
  cases h
  obtain ⟨h1,h2⟩:=z88 _ e
  simp only[List.count_nil]at h2
  exact ⟨h1,by omega,by omega,by omega,e⟩
 cases h
end
section
section
variable {P:Program} {T:Tab} {F:Nat→Prop} {G:GSt} {w:World} {e:Env} {a:Act} {F0:Nat→Prop} {G0:GSt} {w0:World} {N:Nat}
end
section
variable {P:Program} {T:Tab} {Q:Exit→Env→Store→Prop} {e:Env} {S:Store} {b:Code}
end
end
abbrev eBy (l:Txt):PV := .sl (l.map eB) l.length
theorem zu0 {a b:Nat}:((a:Nat):Int).tmod ((b:Nat):Int)=((a % b:Nat):Int):=(Int.ofNat_tmod a b).symm
theorem z6x {a b:Nat}:((a:Nat):Int).tdiv ((b:Nat):Int)=((a / b:Nat):Int):=(Int.ofNat_tdiv a b).symm
theorem z9w {a b:Nat} (ha:a<1099511627776) (hb:b<1099511627776):IntKind.i64.wrap ((BitVec.ofInt IntKind.i64.bits (a:Int) ^^^ BitVec.ofInt IntKind.i64.bits (b:Int)).toNat:Int)=((a ^^^ b:Nat):Int):=by
 have h1:(BitVec.ofInt 64 (a:Int)).toNat=a:=by simp [BitVec.toNat_ofInt]; omega
 have h2:(BitVec.ofInt 64 (b:Int)).toNat=b:=by simp [BitVec.toNat_ofInt]; omega
 have h3:(BitVec.ofInt IntKind.i64.bits (a:Int) ^^^ BitVec.ofInt IntKind.i64.bits (b:Int)).toNat=a ^^^ b:=by
  show (BitVec.ofInt 64 (a:Int) ^^^ BitVec.ofInt 64 (b:Int)).toNat=_
  rw [BitVec.toNat_xor,h1,h2]
 have h4:a ^^^ b<1099511627776:=Nat.xor_lt_two_pow (n:=40) ha hb
 rw [h3]
 exact w64 (by omega) (by omega)
theorem z8g {k:Nat}:((k:Nat):Int).tdiv 64=((k / 64:Nat):Int):=(Int.ofNat_tdiv k 64).symm
theorem sf0:((64:Int)=0)=False:=by simp
def rdO (vr:Nat) (code:Txt) (q:Nat):Ob := .arr vr 159 2 [eBy code,.int .i64 (q:Int)]
theorem zz4 {code:Txt} (hc:code.length≤1048576):PN Tryz.prog 43 [eBy code] (.ref 0 0 0) [rdO 0 (code.take 2000) 0] true:=by
 refine PN.of ⟨Tryz.func43,by kernel_rfl,rfl,by kernel_rfl⟩ zal mixed (by show 1≤Tryz.f43.ntmps; decide) ?_
 refine W.r fun K hK=>?_
 simp(disch:=omega)only[↓RU,RV,RH,↓reduceIte,qE,reduceCtorEq,if_pos,↓RS,RG,qA,qM,qL]
 apply hK;clear hK K
 refine W.seq ?_
 refine W.r fun K hK=>?_
 simp(disch:=omega)only[↓RU,RV,RH,↓reduceIte,qE,reduceCtorEq,if_pos,w64,↓RS,RG,qA,qM,qL,ty7,zab,zai]
 apply hK;clear hK K
 refine W.cond rfl (fun h=>?_) (fun h=>?_)
 ·try simp only[RL]at h
  refine W.k fun K hK=>?_
  simp(disch:=omega)only[↓RU,RV,RH,↓reduceIte,qE,reduceCtorEq,if_pos,Option.map_none,↓RS,RG,qA,qM,qL,ty7,zai]
  apply hK;clear hK K
  refine xn ?_
  refine W.r fun K hK=>?_
  simp(disch:=omega)only[↓RU,RV,RH,↓reduceIte,qE,reduceCtorEq,if_pos,↓RS,RG,qA,qM,qL,ty7,zab,z3w,z3x,zai]
  apply hK;clear hK K
  refine W.ret ?_
  refine Br rfl ?_
  have e:(code.take 2000).length=2000:=by rw [List.length_take]; omega
  refine ⟨1,rfl,?_⟩
  simp [Store.take,zoe,zyn,sh,rdO,eBy,e,List.map_take]
 try simp only[RL]at h
 refine W.skip ?_
 refine xn ?_
 refine W.r fun K hK=>?_
 simp(disch:=omega)only[↓RU,RV,RH,↓reduceIte,qE,reduceCtorEq,if_pos,↓RS,RG,qA,qM,qL,ty7,zab,z3w,z3x,zai]
 apply hK;clear hK K
 refine W.ret ?_
 refine Br rfl ?_
 have e:code.take 2000=code:=qT (by omega)
 refine ⟨1,rfl,?_⟩
 simp [Store.take,zoe,zyn,sh,rdO,eBy,e]
theorem z3a {code:Txt} {q vr t:Nat} {R:List Ob} (hc:code.length≤1048576) (hq:q≤1000000) (n:Int) (hn:n≤1000000) (hn0 : -1000000≤n):Ev Tryz.prog 145 [.ref 0 vr 0,.int .i64 n] ⟨.arr vr 159 2 [eBy code,.int .i64 (q:Int)]::R,t⟩ fun v S=>∃ k:Nat,v = .int .i64 (k:Int)∧(n<1→k=0)∧(1≤n→(k:Int)<n)∧S=⟨.arr vr 159 2 [eBy code,.int .i64 ((q:Int)+1)]::R,t⟩:=by
 refine Ev.of ⟨Tryz.func145,by kernel_rfl,rfl,by kernel_rfl⟩ zal mixed (by show 2≤Tryz.f145.ntmps; decide) ?_
 refine W.r fun K hK=>?_
 simp(disch:=omega)only[↓RU,RV,RH,↓reduceIte,qE,reduceCtorEq,if_pos,↓RS,RG,qA,qM,qL]
 apply hK;clear hK K
 refine W.r fun K hK=>?_
 simp(disch:=omega)only[↓RU,RV,RH,↓reduceIte,qE,reduceCtorEq,if_pos,w64,↓RS,RG,qA,qM,qL,ty7,zab,z3w,z3x,zai]
 apply hK;clear hK K
 refine W.seq ?_
 refine W.r fun K hK=>?_
 by_cases hn1:n<1
 ·skip
  have hd:decide (n<1)=true:=decide_eq_true hn1
  simp(disch:=omega)only[↓RU,RV,RH,↓reduceIte,qE,reduceCtorEq,if_pos,w64,↓RS,RG,qA,qM,qL,ty7,zab,z3w,z3x,zai,hd]
  apply hK;clear hK K
  refine W.cond rfl (fun h0=>?_) (fun h0=>?_)
  ·try simp only[RL]at h0
   refine W.r fun K hK=>?_
   simp(disch:=omega)only[↓RU,RV,RH,↓reduceIte,qE,reduceCtorEq,if_pos,↓RS,RG,qA,qM,qL]
   apply hK;clear hK K
   refine W.ret ?_
   refine XThen.ret ?_
   refine Br rfl ?_
   exact ⟨_,0,rfl,fun _=>rfl,fun h9=>by omega,zaq⟩
  try simp only[RL]at h0
  exact absurd h0 (by simp)
 skip
 have hd:decide (n<1)=false:=decide_eq_false hn1
 obtain ⟨m,rfl⟩:∃ m:Nat,n=m:=⟨n.toNat,by omega⟩
 simp(disch:=omega)only[↓RU,RV,RH,↓reduceIte,qE,reduceCtorEq,if_pos,w64,↓RS,RG,qA,qM,qL,ty7,zab,z3w,z3x,zai,hd]
 apply hK;clear hK K
 refine W.cond rfl (fun h0=>?_) (fun h0=>?_)
 ·try simp only[RL]at h0
  have hl0:code.length=0:=by simpa using h0
  refine W.r fun K hK=>?_
  simp(disch:=omega)only[↓RU,RV,RH,↓reduceIte,qE,reduceCtorEq,if_pos,↓RS,RG,qA,qM,qL]
  apply hK;clear hK K
  refine W.ret ?_
  refine XThen.ret ?_
  refine Br rfl ?_
  exact ⟨_,0,rfl,fun _=>rfl,fun h9=>by omega,zaq⟩
 try simp only[RL]at h0
 have hl0:code.length≠0:=by intro h9; rw [h9]at h0; simp at h0
 obtain ⟨L,hL⟩:∃ L:Nat,code.length=L:=⟨_,rfl⟩
 have hLi:((L:Int)=0)=False:=by simp; omega
 have hmi:((m:Int)=0)=False:=by simp; omega
 rw [hL]at hl0 hc
 refine W.skip ?_
 refine xn ?_
 refine W.r fun K hK=>?_
 simp(disch:=omega)only[↓RU,RV,RH,↓reduceIte,qE,reduceCtorEq,if_pos,w64,↓RS,RG,qA,qM,qL,ty7,zab,z3w,z3x,zai]
 apply hK;clear hK K
 simp only[show ((q:Int)+1 - 1)=(q:Int) from by omega]
 refine W.seq ?_
 refine W.r fun K hK=>?_
 simp(disch:=omega)only[↓RU,RV,RH,↓reduceIte,qE,reduceCtorEq,if_pos,w64,↓RS,RG,qA,qM,qL,ty7,zab,z3w,z3x,zai,hL]
 apply hK;clear hK K
 refine W.cond rfl (fun h1=>?_) (fun h1=>?_)
 ·try simp only[RL]at h1
  obtain ⟨c,hcq,-⟩:=zaf (show q<code.length by omega)
  have hc8:=c.toNat_lt
  refine W.r fun K hK=>?_
  simp(disch:=omega)only[↓RU,RV,RH,↓reduceIte,qE,reduceCtorEq,if_pos,w64,w64,↓RS,RG,qA,qM,qL,ty7,zab,z3w,z3x,zai,hcq,hmi,zu0]
  apply hK;clear hK K
  refine W.ret ?_
  refine XThen.ret ?_
  refine Br rfl ?_
  exact ⟨_,_,rfl,fun h9=>by omega,fun _=>by have:=Nat.mod_lt c.toNat (show 0<m by omega); omega,zaq⟩
 try simp only[RL]at h1
 obtain ⟨c1,hc1,-⟩:=zaf (show q % L<code.length by rw [hL]; exact Nat.mod_lt _ (by omega))
 obtain ⟨c2,hc2,-⟩:=zaf (show (q*7+3) % L<code.length by rw [hL]; exact Nat.mod_lt _ (by omega))
 have hb1:=c1.toNat_lt
 have hb2:=c2.toNat_lt
 have hq7:(q:Int)*7+3=((q*7+3:Nat):Int):=by omega
 obtain ⟨d,hd⟩:∃ d,q / L=d:=⟨_,rfl⟩
 have hqL:d≤q:=hd ▸ Nat.div_le_self _ _
 have hml1:=Nat.mod_lt q (show 0<L by omega)
 have hml2:=Nat.mod_lt (q*7+3) (show 0<L by omega)
 refine W.skip ?_
 refine xn ?_
 refine W.seq_draw (by kernel_rfl) fun K hK=>?_
 simp(disch:=omega)only[↓RU,RV,RH,↓reduceIte,qE,reduceCtorEq,if_pos,w64,w64,↓RS,RG,qA,qM,qL,ty7,zab,z3w,z3x,zai,hL,hLi,zu0,z6x,hc1,hc2,hq7,hd]
 apply hK;clear hK K
 obtain ⟨Y,hY⟩:∃ Y:Nat,(c1.toNat:Int)*131+(c2.toNat:Int)*1117+(q:Int)*29+(d:Int)*53=Y:=⟨c1.toNat*131+c2.toNat*1117+q*29+d*53,by omega⟩
 have hYb:Y<1099511627776:=by omega
 have hYd:Y / 64<1099511627776:=by omega
 simp only[hY]
 refine W.r fun K hK=>?_
 simp(disch:=omega)only[↓RU,RV,RH,↓reduceIte,qE,reduceCtorEq,if_pos,w64,↓RS,RG,qA,qM,qL,zab,sf0,z8g,z9w hYb hYd]
 apply hK;clear hK K
 refine W.r fun K hK=>?_
 simp(disch:=omega)only[↓RU,RV,RH,↓reduceIte,qE,reduceCtorEq,if_pos,w64,↓RS,RG,qA,qM,qL,zab,hmi,zu0]
 apply hK;clear hK K
 refine W.ret ?_
 refine Br rfl ?_
 exact ⟨_,_,rfl,fun h9=>by omega,fun _=>by have:=Nat.mod_lt (Y ^^^ Y / 64) (show 0<m by omega); omega,zaq⟩
def eT:Tm→PV
 | .o => .ip [.int .u8 111,.nils] 0
 | .un c t => .ip [eB c,.sl [eT t] 1] 0
 | .bin m a b => .ip [eB m,.sl [eT a,eT b] 2] 0
def eO:Option Tm→PV
 | some t=>eT t
 | none => .nilp
theorem zek (t:Tm):∃ cs,eT t = .ip cs 0:=by cases t <;> exact ⟨_,rfl⟩
theorem zt0:eO none = .nilp:=rfl
theorem zh2 {t:Tm}:eO (some t)=eT t:=rfl
def hd0 (s:Txt):UInt8:=s.headD 0
def rdT (s:Txt):Option (Tm × Txt):=rd (s.length+1) s
theorem zzq {s:Txt} (h:hd0 s≠0):s.length=s.tail.length+1:=by
 cases s with
 | nil=>exact absurd rfl h
 | cons c s=>rfl
theorem zws (s:Txt):rdT s=if hd0 s=111 then some (.o,s.tail) else if hd0 s=62∨hd0 s=94 then (match rdT s.tail with | some (t,r)=>some (.un (hd0 s) t,r) | none=>none)
  else if hd0 s=40 then (match rdT s.tail with | some (a,r)=>(if hd0 r=124∨hd0 r=45 then (match rdT r.tail with | some (b,r2)=>(if hd0 r2=41 then some (.bin (hd0 r) a b,r2.tail) else none) | none=>none) else none) | none=>none) else none:=by
 cases s with
 | nil=>simp [rdT,rd,hd0]
 | cons c s =>
  show rd (s.length+1+1) (c::s)=_
  rw [rd]
  by_cases e1:c=111
  ·rw [if_pos e1,if_pos (show hd0 (c::s)=111 from e1)]; rfl
  rw [if_neg e1,if_neg (show ¬ hd0 (c::s)=111 from e1)]
  by_cases e2:c=62∨c=94
  ·rw [if_pos e2,if_pos (show hd0 (c::s)=62∨hd0 (c::s)=94 from e2)]; rfl
  rw [if_neg e2,if_neg (show ¬ (hd0 (c::s)=62∨hd0 (c::s)=94) from e2)]
  by_cases e3:c=40
  ·rw [if_pos e3,if_pos (show hd0 (c::s)=40 from e3)]
   show (match rd (s.length+1) s with | some (a,m::r)=>_ | _=>none)=match rd (s.length+1) s with | some (a,r)=>_ | none=>none
   cases h:rd (s.length+1) s with
   | none=>rfl
   | some q =>
    obtain ⟨a,r⟩:=q
    cases r with
    | nil=>rfl
    | cons m r =>
     have hs:=(zwt _ h).1
     simp only[List.length_cons]at hs
     show (if m=124∨m=45 then _ else none)=if hd0 (m::r)=124∨hd0 (m::r)=45 then (match rd (r.length+1) r with | some (b,r2)=>_ | none=>none) else none
     by_cases e4:m=124∨m=45
     ·rw [if_pos e4,if_pos (show hd0 (m::r)=124∨hd0 (m::r)=45 from e4)]
      rw [z6j (s.length+1) (s:=r) (g:=r.length+1) (by omega) (by omega)]
      cases h2:rd (r.length+1) r with
      | none=>rfl
      | some q =>
       obtain ⟨b,r2⟩:=q
       cases r2 with
       | nil=>rfl
       | cons e r2=>rfl
     rw [if_neg e4,if_neg (show ¬ (hd0 (m::r)=124∨hd0 (m::r)=45) from e4)]
  rw [if_neg e3,if_neg (show ¬ hd0 (c::s)=40 from e3)]
def zig (s:Txt):Option Tm:=(rdT s).map (·.1)
theorem zj2 (s:Txt) {ver t:Nat} (hs:s.length≤1048576):Ev Tryz.prog 157 [.ref 0 ver 0] ⟨[.arr ver 92 1 [.str s]],t⟩ fun v S=>v=eB (hd0 s)∧∃ t2,S=⟨[.arr ver 92 1 [.str s.tail]],t2⟩:=by
 refine Ev.of ⟨Tryz.func157,by kernel_rfl,rfl,by kernel_rfl⟩ zal mixed (by show 1≤Tryz.f157.ntmps; decide) ?_
 refine W.r fun K hK=>?_
 simp(disch:=omega)only[↓RU,RV,RH,↓reduceIte,qE,reduceCtorEq,if_pos,↓RS,RG,qA,qM,qL]
 apply hK;clear hK K
 refine W.seq ?_
 refine W.r fun K hK=>?_
 rcases s with _ | ⟨c,s⟩
 ·skip
  simp(disch:=omega)only[↓RU,RV,RH,↓reduceIte,qE,reduceCtorEq,if_pos,w64,↓RS,RG,qA,qM,qL,z62,zaa,z63,Int.toNat_zero,Nat.zero_mul,qZ,qM,Nat.zero_add,Nat.mul_one,List.getElem?_cons_zero,List.getElem?_cons_succ]
  apply hK;clear hK K
  refine W.cond rfl (fun h0=>?_) (fun h0=>?_)
  ·try simp only[RL]at h0
   refine W.r fun K hK=>?_
   simp(disch:=omega)only[↓RU,RV,RH,↓reduceIte,qE,reduceCtorEq,if_pos,↓RS,RG,qA,qM,qL]
   apply hK;clear hK K
   refine W.ret ?_
   refine XThen.ret ?_
   refine Br rfl ?_
   exact ⟨1,rfl,_,rfl⟩
  try simp only[RL]at h0
  exact absurd h0 (by simp)
 skip
 simp(disch:=omega)only[↓RU,RV,RH,↓reduceIte,qE,reduceCtorEq,if_pos,w64,↓RS,RG,qA,qM,qL,z62,zaa,z63,Int.toNat_zero,Nat.zero_mul,qZ,qM,Nat.zero_add,Nat.mul_one,List.getElem?_cons_zero,List.getElem?_cons_succ]
 apply hK;clear hK K
 refine W.cond rfl (fun h0=>?_) (fun h0=>?_)
 ·try simp only[RL]at h0
  exact absurd h0 (by simp)
 try simp only[RL]at h0
 refine W.skip ?_
 refine xn ?_
 refine W.r fun K hK=>?_
 simp(disch:=omega)only[↓RU,RV,RH,↓reduceIte,qE,reduceCtorEq,if_pos,↓RS,RG,qA,qM,qL,z62,zaa,z63,Int.toNat_zero,Nat.zero_mul,qZ,qM,Nat.zero_add,Nat.mul_one,List.getElem?_cons_zero,List.getElem?_cons_succ]
 apply hK;clear hK K
 refine W.r fun K hK=>?_
 simp(disch:=omega)only[↓RU,RV,RH,↓reduceIte,qE,reduceCtorEq,if_pos,Option.map_none,↓RS,RG,qA,qM,qL,z62,zaa,z63,Int.toNat_zero,Nat.zero_mul,qZ,qM,Nat.zero_add,Nat.mul_one,List.getElem?_cons_zero,List.getElem?_cons_succ,List.drop_succ_cons,List.drop_zero,List.take_length]
 apply hK;clear hK K
 refine W.r fun K hK=>?_
 simp(disch:=omega)only[↓RU,RV,RH,↓reduceIte,qE,reduceCtorEq,if_pos,↓RS,RG,qA,qM,qL]
 apply hK;clear hK K
 refine W.ret ?_
 refine Br rfl ?_
 exact ⟨1,rfl,_,rfl⟩
def JT (s:Txt) (ver:Nat) (v:PV) (S:Store):Prop:=v=eO (zig s)∧∃ (s':Txt) (t2:Nat),S=⟨[.arr ver 92 1 [.str s']],t2⟩∧s'.length≤s.length∧∀ u r,rdT s=some (u,r)→s'=r
def JF (s:Txt) (ver:Nat) (v:PV) (S:Store):Prop:=∃ v' S',frz S 1 10 v=some v'∧S.frz 1=some S'∧JT s ver v' S'
theorem u8i {c:UInt8} {k:Nat} (h:c.toNat=k) (hk:k<256):c=UInt8.ofNat k:=by
 apply UInt8.toNat_inj.1
 rw [h,UInt8.toNat_ofNat_of_lt' (by show k<256; omega)]
theorem zer {S:Store} {lo k o ver off:Nat}:rfz S lo (k+1) (.ref o ver off)=if lo≤o then (S.cellsOf o ver).bind fun cells=>(cells.mapM (rfz S lo k)).map (.ip · off) else none:=rfl
theorem zg2 {S:Store} {lo k n:Nat} {cs:List PV}:rfz S lo (k+1) (.ip cs n)=some (.ip cs n):=rfl
theorem zck {S:Store} {lo k:Nat}:rfz S lo (k+1) .nils=some .nils:=rfl
theorem z9u {c:UInt8}:((c.toNat:Int) == 94)=decide (c=94):=by
 rw [Bool.eq_iff_iff,decide_eq_true_eq,beq_iff_eq]
 exact ⟨fun h=>u8i (k:=94) (by omega) (by decide),fun h=>by rw [h]; rfl⟩
theorem zka {cs:List PV} {n:Nat}:(PV.ip cs n).isDef=true:=rfl
theorem zyu {s s2 s4:Txt} (hb:rdT s=match rdT s.tail with | some (a,r)=>(if hd0 r=124∨hd0 r=45 then (match rdT r.tail with | some (b,r2)=>(if hd0 r2=41 then some (.bin (hd0 r) a b,r2.tail) else none) | none=>none) else none) | none=>none) (hr2:∀ u r,rdT s.tail=some (u,r)→s2=r) (hr4:∀ u r,rdT s2.tail=some (u,r)→s4=r) :
  (zig s.tail=none∧rdT s=none)∨(∃ a,zig s.tail=some a∧zig s2.tail=none∧rdT s=none)∨(∃ a b,zig s.tail=some a∧zig s2.tail=some b∧((hd0 s2≠124∧hd0 s2≠45∧rdT s=none)∨((hd0 s2=124∨hd0 s2=45)∧hd0 s4=41∧rdT s=some (.bin (hd0 s2) a b,s4.tail))∨((hd0 s2=124∨hd0 s2=45)∧hd0 s4≠41∧rdT s=none))):=by
 cases h1:rdT s.tail with
 | none=>rw [h1]at hb; exact .inl ⟨by rw [zig,h1]; rfl,hb⟩
 | some q =>
  obtain ⟨a,r⟩:=q
  rw [h1]at hb
  have e2:=hr2 a r h1
  subst e2
  simp only at hb
  cases h2:rdT s2.tail with
  | none=>exact .inr (.inl ⟨a,by rw [zig,h1]; rfl,by rw [zig,h2]; rfl,by rw [hb,h2]; split <;> rfl⟩)
  | some q =>
   obtain ⟨b,r⟩:=q
   have e4:=hr4 b r h2
   subst e4
   rw [h2]at hb
   simp only at hb
   refine .inr (.inr ⟨a,b,by rw [zig,h1]; rfl,by rw [zig,h2]; rfl,?_⟩)
   by_cases k:hd0 s2=124∨hd0 s2=45
   ·rw [if_pos k]at hb
    by_cases k2:hd0 s4=41
    ·rw [if_pos k2]at hb; exact .inr (.inl ⟨k,k2,hb⟩)
    rw [if_neg k2]at hb; exact .inr (.inr ⟨k,k2,hb⟩)
   rw [if_neg k]at hb
   exact .inl ⟨fun e=>k (.inl e),fun e=>k (.inr e),hb⟩
theorem zbf {c:UInt8} {k:Nat} (h:c≠UInt8.ofNat k) (hk:k<256):¬ (c.toNat:Int)=(k:Int):=fun e=>h (u8i (by omega) hk)
theorem ze4 {c:UInt8}:(eB c).cells=[eB c]:=rfl
theorem zj9 {c:UInt8}:(eB c).isDef=true:=rfl
theorem zrv {c:UInt8}:(eB c).isCell=true:=rfl
theorem zid {S:Store}:pEq tab S 35 .nilp .nilp=some true:=rfl
theorem zic {S:Store} {cs:List PV} {n:Nat}:pEq tab S 35 (.ip cs n) .nilp=some false:=rfl
theorem zxl {ver tk:Nat} {s:Txt} {obs:List Ob}:Store.frz ⟨.arr ver 92 1 [.str s]::obs,tk⟩ 1=some ⟨[.arr ver 92 1 [.str s]],tk⟩:=by simp [Store.frz,zhx,zf1,zma]
theorem JF.mk {s s':Txt} {ver tk:Nat} {v val:PV} {obs:List Ob} (h1:frz ⟨.arr ver 92 1 [.str s']::obs,tk⟩ 1 10 v=some val) (h3:val=eO (zig s)) (h4:s'.length≤s.length) (h5:∀ u r,rdT s=some (u,r)→s'=r):JF s ver v ⟨.arr ver 92 1 [.str s']::obs,tk⟩ :=
 ⟨val,_,h1,zxl,h3,s',tk,rfl,h4,h5⟩
theorem zg7 (s:Txt):s.tail.length≤s.length:=by rw [List.length_tail]; omega
theorem z3t (s:Txt) {ver:Nat} (hs:s.length≤1048576) (ih:∀ s2:Txt,s2.length<s.length→∀ t,Ev Tryz.prog 45 [.ref 0 ver 0] ⟨[.arr ver 92 1 [.str s2]],t⟩ (JT s2 ver)) (t:Nat):Ev Tryz.prog 45 [.ref 0 ver 0] ⟨[.arr ver 92 1 [.str s]],t⟩ fun v S=>JF s ver v S:=by
 refine Ev.of ⟨Tryz.func45,by kernel_rfl,rfl,by kernel_rfl⟩ zal mixed (by show 1≤Tryz.f45.ntmps; decide) ?_
 refine W.r fun K hK=>?_
 simp(disch:=omega)only[↓RU,RV,RH,↓reduceIte,qE,reduceCtorEq,if_pos,↓RS,RG,qA,qM,qL]
 apply hK;clear hK K
 refine W.seq ?_
 refine W.r fun K hK=>?_
 simp(disch:=omega)only[↓RU,RV,RH,↓reduceIte,qE,reduceCtorEq,if_pos,qN,↓RS,RG,qA,qM,qL]
 refine zac.ev (zj2 s hs) ?_
 rintro _ _ ⟨rfl,t1,rfl⟩
 simp(disch:=omega)only[↓RU,RV,RH,↓reduceIte,qE,reduceCtorEq,if_pos,qN,↓RS,RG,qA,qM,qL]
 apply hK;clear hK K
 refine W.r fun K hK=>?_
 simp(disch:=omega)only[↓RU,RV,RH,↓reduceIte,qE,reduceCtorEq,if_pos,↓RS,RG,qA,qM,qL]
 apply hK;clear hK K
 refine W.block ?_
 refine W.r fun K hK=>?_
 simp(disch:=omega)only[↓RU,RV,RH,↓reduceIte,qE,reduceCtorEq,if_pos,w64,↓RS,RG,qA,qM,qL,zai]
 apply hK;clear hK K
 refine W.cond rfl (fun h0=>?_) (fun h0=>?_)
 ·try simp only[RL]at h0
  have hc:hd0 s=111:=u8i (k:=111) (by omega) (by decide)
  have hl:=zzq (s:=s) (by rw [hc]; decide)
  have hrd:rdT s=some (.o,s.tail):=by rw [zws,if_pos hc]
  refine W.r fun K hK=>?_
  simp(disch:=omega)only[↓RU,RV,RH,↓reduceIte,qE,reduceCtorEq,if_pos,↓RS,RG,qA,qM,qL,ty2,ty9,zhq,zhr,zai]
  apply hK;clear hK K
  refine W.ret ?_
  refine XBlock.ret ?_
  refine XThen.ret ?_
  refine Br rfl ?_
  refine ⟨2,JF.mk (val:=eT .o) ?_ ?_ ?_ ?_⟩
  ·simp [Env.put,Env.of,zaj,Store.take,zem,zer,zcc,zcb,zg2,zck,Store.cellsOf,eB,eT,hc]
  ·rw [zig,hrd]; rfl
  ·omega
  intro u r h; rw [hrd]at h; cases h; rfl
 try simp only[RL]at h0
 have hc0:¬ hd0 s=111:=fun e=>h0 (by rw [e]; rfl)
 refine W.join [0,3,10,16] (fun vs S=>∃ b:Bool,(b=true↔(hd0 s=62∨hd0 s=94))∧vs=[.ref 0 ver 0,eB (hd0 s),eB (hd0 s),.bool b]∧S=⟨[.arr ver 92 1 [.str s.tail]],t1⟩) ?_ ?_
 ·
  refine W.r fun K hK=>?_
  simp(disch:=omega)only[↓RU,RV,RH,↓reduceIte,qE,reduceCtorEq,if_pos,w64,↓RS,RG,qA,qM,qL,zai]
  apply hK;clear hK K
  refine W.cond rfl (fun h1=>?_) (fun h1=>?_)
  ·try simp only[RL]at h1
   refine W.skip ?_
   refine xn ?_
   refine ⟨1,true,⟨fun _ => .inl (u8i (k:=62) (by omega) (by decide)),fun _=>rfl⟩,?_,rfl⟩
   simp [Env.put,Env.of,zaj]; simpa using h1
  try simp only[RL]at h1
  refine W.k fun K hK=>?_
  simp(disch:=omega)only[↓RU,RV,RH,↓reduceIte,qE,reduceCtorEq,if_pos,w64,↓RS,RG,qA,qM,qL,zai]
  apply hK;clear hK K
  refine xn ?_
  refine ⟨1,decide (hd0 s=94),⟨fun e => .inr (of_decide_eq_true e),fun e=>decide_eq_true (e.resolve_left fun e=>h1 (by rw [e]; rfl))⟩,?_,rfl⟩
  simp [Env.put,Env.of,zaj,z9u]
 rintro vs S - ⟨b,hb,rfl,rfl⟩
 refine W.cond rfl (fun h2=>?_) (fun h2=>?_)
 ·try simp only[RL]at h2
  have hcu:=hb.1 h2
  have hl:=zzq (s:=s) (by rcases hcu with e | e <;> rw [e] <;> decide)
  have hun:=zws s
  rw [if_neg hc0,if_pos hcu]at hun
  refine W.r fun K hK=>?_
  simp(disch:=omega)only[↓RU,RV,RH,↓reduceIte,qE,reduceCtorEq,if_pos,qN,↓RS,RG,qA,qM,qL]
  refine zac.ev (ih s.tail (by omega) t1) ?_
  rintro _ _ ⟨rfl,s2,t2,rfl,hs2,hr2⟩
  simp(disch:=omega)only[↓RU,RV,RH,↓reduceIte,qE,reduceCtorEq,if_pos,qN,↓RS,RG,qA,qM,qL]
  apply hK;clear hK K
  refine W.r fun K hK=>?_
  rcases hq:rdT s.tail with _ | ⟨u,r⟩
  ·skip
   have hno:rdT s=none:=by rw [hun,hq]
   have e1:zig s.tail=none:=by rw [zig,hq]; rfl
   rw [e1]
   simp only[eO]
   simp(disch:=omega)only[↓RU,RV,RH,↓reduceIte,qE,reduceCtorEq,if_pos,w64,↓RS,RG,qA,qM,qL,ty9,zid,zic,qO,Bool.not_true,Bool.not_false]
   apply hK;clear hK K
   refine W.cond rfl (fun h3=>?_) (fun h3=>?_)
   ·try simp only[RL]at h3
    exact absurd h3 (by simp)
   try simp only[RL]at h3
   refine W.skip ?_
   refine XbN ?_
   refine xn ?_
   refine W.r fun K hK=>?_
   simp(disch:=omega)only[↓RU,RV,RH,↓reduceIte,qE,reduceCtorEq,if_pos,↓RS,RG,qA,qM,qL]
   apply hK;clear hK K
   refine W.ret ?_
   refine Br rfl ?_
   refine ⟨1,JF.mk (val := .nilp) ?_ ?_ ?_ ?_⟩
   ·simp [Env.put,Env.of,zaj,Store.take,zem,zer,zcc,zcb,zg2,zck,Store.cellsOf,eB,eT,zgg]
   ·rw [zig,hno]; rfl
   ·omega
   intro u r h; rw [hno]at h; cases h
  skip
  have hyes:rdT s=some (.un (hd0 s) u,r):=by rw [hun,hq]
  have e1:zig s.tail=some u:=by rw [zig,hq]; rfl
  obtain ⟨cu,hcu2⟩:=zek u
  rw [e1]
  simp only[eO,hcu2]
  obtain rfl:=hr2 u r hq
  simp(disch:=omega)only[↓RU,RV,RH,↓reduceIte,qE,reduceCtorEq,if_pos,w64,↓RS,RG,qA,qM,qL,ty9,zid,zic,qO,Bool.not_true,Bool.not_false]
  apply hK;clear hK K
  refine W.cond rfl (fun h3=>?_) (fun h3=>?_)
  ·try simp only[RL]at h3
   refine W.r fun K hK=>?_
   simp(disch:=omega)only[↓RU,RV,RH,↓reduceIte,qE,reduceCtorEq,if_pos,↓RS,RG,qA,qM,qL,ty2,ty9,zhq,zhr,zai,zka,zoa,zcv,ze4,zj9,zrv]
   apply hK;clear hK K
   refine W.ret ?_
   refine XBlock.ret ?_
   refine XThen.ret ?_
   refine Br rfl ?_
   refine ⟨3,JF.mk (val:=eT (.un (hd0 s) u)) ?_ ?_ ?_ ?_⟩
   ·simp [Env.put,Env.of,zaj,Store.take,zem,zer,zcc,zcb,zg2,zck,Store.cellsOf,eB,eT,hcu2]
   ·rw [zig,hyes]; rfl
   ·omega
   intro u r h; rw [hyes]at h; cases h; rfl
  try simp only[RL]at h3
  exact absurd h3 (by simp)
 try simp only[RL]at h2
 have hcu:¬ (hd0 s=62∨hd0 s=94):=fun e=>by rw [hb.2 e]at h2; cases h2
 refine W.r fun K hK=>?_
 simp(disch:=omega)only[↓RU,RV,RH,↓reduceIte,qE,reduceCtorEq,if_pos,w64,↓RS,RG,qA,qM,qL,zai]
 apply hK;clear hK K
 refine W.cond rfl (fun h4=>?_) (fun h4=>?_)
 ·try simp only[RL]at h4
  have hc:hd0 s=40:=u8i (k:=40) (by omega) (by decide)
  have hl:=zzq (s:=s) (by rw [hc]; decide)
  have ht1:=zg7 s
  have hbin:=zws s
  rw [if_neg hc0,if_neg hcu,if_pos hc]at hbin
  refine W.r fun K hK=>?_
  simp(disch:=omega)only[↓RU,RV,RH,↓reduceIte,qE,reduceCtorEq,if_pos,qN,↓RS,RG,qA,qM,qL]
  refine zac.ev (ih s.tail (by omega) t1) ?_
  rintro _ _ ⟨rfl,s2,t2,rfl,hs2,hr2⟩
  simp(disch:=omega)only[↓RU,RV,RH,↓reduceIte,qE,reduceCtorEq,if_pos,qN,↓RS,RG,qA,qM,qL]
  apply hK;clear hK K
  refine W.r fun K hK=>?_
  simp(disch:=omega)only[↓RU,RV,RH,↓reduceIte,qE,reduceCtorEq,if_pos,qN,↓RS,RG,qA,qM,qL]
  refine zac.ev (zj2 s2 (by omega)) ?_
  rintro _ _ ⟨rfl,t3,rfl⟩
  simp(disch:=omega)only[↓RU,RV,RH,↓reduceIte,qE,reduceCtorEq,if_pos,qN,↓RS,RG,qA,qM,qL]
  apply hK;clear hK K
  refine W.r fun K hK=>?_
  have ht2:=zg7 s2
  simp(disch:=omega)only[↓RU,RV,RH,↓reduceIte,qE,reduceCtorEq,if_pos,qN,↓RS,RG,qA,qM,qL]
  refine zac.ev (ih s2.tail (by omega) t3) ?_
  rintro _ _ ⟨rfl,s4,t4,rfl,hs4,hr4⟩
  simp(disch:=omega)only[↓RU,RV,RH,↓reduceIte,qE,reduceCtorEq,if_pos,qN,↓RS,RG,qA,qM,qL]
  apply hK;clear hK K
  refine W.r fun K hK=>?_
  rcases zyu hbin hr2 hr4 with ⟨e1,hno⟩ | ⟨a,e1,e2,hno⟩ | ⟨a,b2,e1,e2,⟨n1,n2,hno⟩ | ⟨m1 | m1,k1,hyes⟩ | ⟨m1 | m1,k1,hno⟩⟩
  ·skip
   rw [e1,zt0]
   simp(disch:=omega)only[↓RU,RV,RH,↓reduceIte,qE,reduceCtorEq,if_pos,w64,qN,↓RS,RG,qA,qM,qL,ty9,zai,zid,zic,qO,Bool.not_true,Bool.not_false]
   apply hK;clear hK K
   refine W.cond rfl (fun h5=>?_) (fun h5=>?_)
   ·try simp only[RL]at h5
    exact absurd h5 (by simp)
   try simp only[RL]at h5
   refine W.skip ?_
   refine XbN ?_
   refine xn ?_
   refine W.r fun K hK=>?_
   simp(disch:=omega)only[↓RU,RV,RH,↓reduceIte,qE,reduceCtorEq,if_pos,↓RS,RG,qA,qM,qL]
   apply hK;clear hK K
   refine W.ret ?_
   refine Br rfl ?_
   refine ⟨1,JF.mk (val := .nilp) ?_ ?_ ?_ ?_⟩
   ·simp [Env.put,Env.of,zaj,Store.take,zem,zer,zcc,zcb,zg2,zck,Store.cellsOf,eB,eT,zgg]
   ·rw [zig,hno]; rfl
   ·omega
   intro u r h; rw [hno]at h; cases h
  ·skip
   rw [e1,e2]
   obtain ⟨ca,hca⟩:=zek a
   simp only[zt0,zh2,hca]
   simp(disch:=omega)only[↓RU,RV,RH,↓reduceIte,qE,reduceCtorEq,if_pos,w64,qN,↓RS,RG,qA,qM,qL,ty9,zai,zid,zic,qO,Bool.not_true,Bool.not_false]
   apply hK;clear hK K
   refine W.cond rfl (fun h5=>?_) (fun h5=>?_)
   ·try simp only[RL]at h5
    exact absurd h5 (by simp)
   try simp only[RL]at h5
   refine W.skip ?_
   refine XbN ?_
   refine xn ?_
   refine W.r fun K hK=>?_
   simp(disch:=omega)only[↓RU,RV,RH,↓reduceIte,qE,reduceCtorEq,if_pos,↓RS,RG,qA,qM,qL]
   apply hK;clear hK K
   refine W.ret ?_
   refine Br rfl ?_
   refine ⟨1,JF.mk (val := .nilp) ?_ ?_ ?_ ?_⟩
   ·simp [Env.put,Env.of,zaj,Store.take,zem,zer,zcc,zcb,zg2,zck,Store.cellsOf,eB,eT,zgg]
   ·rw [zig,hno]; rfl
   ·omega
   intro u r h; rw [hno]at h; cases h
  ·skip
   have ht4:=zg7 s4
   rw [e1,e2]
   obtain ⟨ca,hca⟩:=zek a
   obtain ⟨cb,hcb⟩:=zek b2
   simp only[zh2,hca,hcb]
   have d1:(((hd0 s2).toNat:Int) == 124)=false:=by rw [beq_eq_false_iff_ne]; exact zbf (k:=124) (by assumption) (by decide)
   have d2:(((hd0 s2).toNat:Int) == 45)=false:=by rw [beq_eq_false_iff_ne]; exact zbf (k:=45) (by assumption) (by decide)
   simp(disch:=omega)only[↓RU,RV,RH,↓reduceIte,qE,reduceCtorEq,if_pos,w64,qN,↓RS,RG,qA,qM,qL,ty9,zai,zid,zic,qO,Bool.not_true,Bool.not_false,d1,d2]
   apply hK;clear hK K
   refine W.cond rfl (fun h5=>?_) (fun h5=>?_)
   ·try simp only[RL]at h5
    exact absurd h5 (by simp)
   try simp only[RL]at h5
   refine W.skip ?_
   refine XbN ?_
   refine xn ?_
   refine W.r fun K hK=>?_
   simp(disch:=omega)only[↓RU,RV,RH,↓reduceIte,qE,reduceCtorEq,if_pos,↓RS,RG,qA,qM,qL]
   apply hK;clear hK K
   refine W.ret ?_
   refine Br rfl ?_
   refine ⟨1,JF.mk (val := .nilp) ?_ ?_ ?_ ?_⟩
   ·simp [Env.put,Env.of,zaj,Store.take,zem,zer,zcc,zcb,zg2,zck,Store.cellsOf,eB,eT,zgg]
   ·rw [zig,hno]; rfl
   ·omega
   intro u r h; rw [hno]at h; cases h
  ·skip
   have ht4:=zg7 s4
   rw [e1,e2]
   obtain ⟨ca,hca⟩:=zek a
   obtain ⟨cb,hcb⟩:=zek b2
   simp only[zh2,hca,hcb]
   have d1:(((hd0 s2).toNat:Int) == 124)=true:=by rw [m1]; rfl
   have d3:(((hd0 s4).toNat:Int) == 41)=true:=by rw [k1]; rfl
   simp(disch:=omega)only[↓RU,RV,RH,↓reduceIte,qE,reduceCtorEq,if_pos,w64,qN,↓RS,RG,qA,qM,qL,ty9,zai,zid,zic,qO,Bool.not_true,Bool.not_false,d1,d3]
   refine zac.ev (zj2 s4 (by omega)) ?_
   rintro _ _ ⟨rfl,t5,rfl⟩
   simp(disch:=omega)only[↓RU,RV,RH,↓reduceIte,qE,reduceCtorEq,if_pos,w64,qN,↓RS,RG,qA,qM,qL,ty9,zai,zid,zic,qO,Bool.not_true,Bool.not_false,d1,d3]
   apply hK;clear hK K
   refine W.cond rfl (fun h5=>?_) (fun h5=>?_)
   ·try simp only[RL]at h5
    refine W.r fun K hK=>?_
    simp(disch:=omega)only[↓RU,RV,RH,↓reduceIte,qE,reduceCtorEq,if_pos,↓RS,RG,qA,qM,qL,ty2,ty9,zhq,zhr,zai,zka,zoa,zcv,ze4,zj9,zrv]
    apply hK;clear hK K
    refine W.ret ?_
    refine XBlock.ret ?_
    refine XThen.ret ?_
    refine Br rfl ?_
    refine ⟨4,JF.mk (val:=eT (.bin (hd0 s2) a b2)) ?_ ?_ ?_ ?_⟩
    ·simp [Env.put,Env.of,zaj,Store.take,zem,zer,zcc,zcb,zg2,zck,Store.cellsOf,eB,eT,hca,hcb]
    ·rw [zig,hyes]; rfl
    ·omega
    intro u r h; rw [hyes]at h; cases h; rfl
   try simp only[RL]at h5
   exact absurd h5 (by simp)
  ·skip
   have ht4:=zg7 s4
   rw [e1,e2]
   obtain ⟨ca,hca⟩:=zek a
   obtain ⟨cb,hcb⟩:=zek b2
   simp only[zh2,hca,hcb]
   have m2:hd0 s2≠UInt8.ofNat 124:=by rw [m1]; decide
   have d1:(((hd0 s2).toNat:Int) == 124)=false:=by rw [beq_eq_false_iff_ne]; exact zbf (k:=124) (by assumption) (by decide)
   have d2:(((hd0 s2).toNat:Int) == 45)=true:=by rw [m1]; rfl
   have d3:(((hd0 s4).toNat:Int) == 41)=true:=by rw [k1]; rfl
   simp(disch:=omega)only[↓RU,RV,RH,↓reduceIte,qE,reduceCtorEq,if_pos,w64,qN,↓RS,RG,qA,qM,qL,ty9,zai,zid,zic,qO,Bool.not_true,Bool.not_false,d1,d2,d3]
   refine zac.ev (zj2 s4 (by omega)) ?_
   rintro _ _ ⟨rfl,t5,rfl⟩
   simp(disch:=omega)only[↓RU,RV,RH,↓reduceIte,qE,reduceCtorEq,if_pos,w64,qN,↓RS,RG,qA,qM,qL,ty9,zai,zid,zic,qO,Bool.not_true,Bool.not_false,d1,d2,d3]
   apply hK;clear hK K
   refine W.cond rfl (fun h5=>?_) (fun h5=>?_)
   ·try simp only[RL]at h5
    refine W.r fun K hK=>?_
    simp(disch:=omega)only[↓RU,RV,RH,↓reduceIte,qE,reduceCtorEq,if_pos,↓RS,RG,qA,qM,qL,ty2,ty9,zhq,zhr,zai,zka,zoa,zcv,ze4,zj9,zrv]
    apply hK;clear hK K
    refine W.ret ?_
    refine XBlock.ret ?_
    refine XThen.ret ?_
    refine Br rfl ?_
    refine ⟨4,JF.mk (val:=eT (.bin (hd0 s2) a b2)) ?_ ?_ ?_ ?_⟩
    ·simp [Env.put,Env.of,zaj,Store.take,zem,zer,zcc,zcb,zg2,zck,Store.cellsOf,eB,eT,hca,hcb]
    ·rw [zig,hyes]; rfl
    ·omega
    intro u r h; rw [hyes]at h; cases h; rfl
   try simp only[RL]at h5
   exact absurd h5 (by simp)
  ·skip
   have ht4:=zg7 s4
   rw [e1,e2]
   obtain ⟨ca,hca⟩:=zek a
   obtain ⟨cb,hcb⟩:=zek b2
   simp only[zh2,hca,hcb]
   have d1:(((hd0 s2).toNat:Int) == 124)=true:=by rw [m1]; rfl
   have d3:(((hd0 s4).toNat:Int) == 41)=false:=by rw [beq_eq_false_iff_ne]; exact zbf (k:=41) (by assumption) (by decide)
   simp(disch:=omega)only[↓RU,RV,RH,↓reduceIte,qE,reduceCtorEq,if_pos,w64,qN,↓RS,RG,qA,qM,qL,ty9,zai,zid,zic,qO,Bool.not_true,Bool.not_false,d1,d3]
   refine zac.ev (zj2 s4 (by omega)) ?_
   rintro _ _ ⟨rfl,t5,rfl⟩
   simp(disch:=omega)only[↓RU,RV,RH,↓reduceIte,qE,reduceCtorEq,if_pos,w64,qN,↓RS,RG,qA,qM,qL,ty9,zai,zid,zic,qO,Bool.not_true,Bool.not_false,d1,d3]
   apply hK;clear hK K
   refine W.cond rfl (fun h5=>?_) (fun h5=>?_)
   ·try simp only[RL]at h5
    exact absurd h5 (by simp)
   try simp only[RL]at h5
   refine W.skip ?_
   refine XbN ?_
   refine xn ?_
   refine W.r fun K hK=>?_
   simp(disch:=omega)only[↓RU,RV,RH,↓reduceIte,qE,reduceCtorEq,if_pos,↓RS,RG,qA,qM,qL]
   apply hK;clear hK K
   refine W.ret ?_
   refine Br rfl ?_
   refine ⟨1,JF.mk (val := .nilp) ?_ ?_ ?_ ?_⟩
   ·simp [Env.put,Env.of,zaj,Store.take,zem,zer,zcc,zcb,zg2,zck,Store.cellsOf,eB,eT,zgg]
   ·rw [zig,hno]; rfl
   ·omega
   intro u r h; rw [hno]at h; cases h
  skip
  have ht4:=zg7 s4
  rw [e1,e2]
  obtain ⟨ca,hca⟩:=zek a
  obtain ⟨cb,hcb⟩:=zek b2
  simp only[zh2,hca,hcb]
  have m2:hd0 s2≠UInt8.ofNat 124:=by rw [m1]; decide
  have d1:(((hd0 s2).toNat:Int) == 124)=false:=by rw [beq_eq_false_iff_ne]; exact zbf (k:=124) (by assumption) (by decide)
  have d2:(((hd0 s2).toNat:Int) == 45)=true:=by rw [m1]; rfl
  have d3:(((hd0 s4).toNat:Int) == 41)=false:=by rw [beq_eq_false_iff_ne]; exact zbf (k:=41) (by assumption) (by decide)
  simp(disch:=omega)only[↓RU,RV,RH,↓reduceIte,qE,reduceCtorEq,if_pos,w64,qN,↓RS,RG,qA,qM,qL,ty9,zai,zid,zic,qO,Bool.not_true,Bool.not_false,d1,d2,d3]
  refine zac.ev (zj2 s4 (by omega)) ?_
  rintro _ _ ⟨rfl,t5,rfl⟩
  simp(disch:=omega)only[↓RU,RV,RH,↓reduceIte,qE,reduceCtorEq,if_pos,w64,qN,↓RS,RG,qA,qM,qL,ty9,zai,zid,zic,qO,Bool.not_true,Bool.not_false,d1,d2,d3]
  apply hK;clear hK K
  refine W.cond rfl (fun h5=>?_) (fun h5=>?_)
  ·try simp only[RL]at h5
   exact absurd h5 (by simp)
  try simp only[RL]at h5
  refine W.skip ?_
  refine XbN ?_
  refine xn ?_
  refine W.r fun K hK=>?_
  simp(disch:=omega)only[↓RU,RV,RH,↓reduceIte,qE,reduceCtorEq,if_pos,↓RS,RG,qA,qM,qL]
  apply hK;clear hK K
  refine W.ret ?_
  refine Br rfl ?_
  refine ⟨1,JF.mk (val := .nilp) ?_ ?_ ?_ ?_⟩
  ·simp [Env.put,Env.of,zaj,Store.take,zem,zer,zcc,zcb,zg2,zck,Store.cellsOf,eB,eT,zgg]
  ·rw [zig,hno]; rfl
  ·omega
  intro u r h; rw [hno]at h; cases h
 try simp only[RL]at h4
 have hno:rdT s=none:=by rw [zws,if_neg hc0,if_neg hcu,if_neg fun e=>h4 (by rw [e]; rfl)]
 have ht1:=zg7 s
 refine W.skip ?_
 refine XbN ?_
 refine xn ?_
 refine W.r fun K hK=>?_
 simp(disch:=omega)only[↓RU,RV,RH,↓reduceIte,qE,reduceCtorEq,if_pos,↓RS,RG,qA,qM,qL]
 apply hK;clear hK K
 refine W.ret ?_
 refine Br rfl ?_
 refine ⟨1,JF.mk (val := .nilp) ?_ ?_ ?_ ?_⟩
 ·simp [Env.put,Env.of,zaj,Store.take,zem,zer,zcc,zcb,zg2,zck,Store.cellsOf,eB,eT,zgg]
 ·rw [zig,hno]; rfl
 ·omega
 intro u r h; rw [hno]at h; cases h
theorem z6y {ver:Nat}:∀ (n:Nat) (s:Txt),s.length≤n→s.length≤1048576→∀ t,Ev Tryz.prog 45 [.ref 0 ver 0] ⟨[.arr ver 92 1 [.str s]],t⟩ (JT s ver):=by
 intro n
 induction n using Nat.strongRecOn with
 | _ n ih =>
  intro s hn hs t
  exact (z3t s hs (fun s2 h2 t=>ih s2.length (by omega) s2 (qR _) (by omega) t) t).fz 1 fun v S1 h=>h
theorem z4u {s:Txt} (h1:s.length≤60) (h2:s.count 111≤7):ofT s=match rdT s with | some (t,[])=>some t | _=>none:=by
 unfold ofT
 rw [if_neg (by omega)]
 rfl
theorem zqk {s:Txt} (h:60<s.length∨7<s.count 111):ofT s=none:=by
 unfold ofT
 rw [if_pos h]
theorem zqv (t:Tm) {S:Store}:reify S true 10 (eT t)=some (eT t):=by cases t <;> rfl
theorem z1t (s:Txt) (hs:s.length≤1048576):PC Tryz.prog 20 [.str s] (eO (ofT s)) false:=by
 refine PC.of ⟨Tryz.func20,by kernel_rfl,rfl,by kernel_rfl⟩ zal mixed (by show 1≤Tryz.f20.ntmps; decide) ?_
 refine W.r fun K hK=>?_
 simp(disch:=omega)only[↓RU,RV,RH,↓reduceIte,qE,reduceCtorEq,if_pos,↓RS,RG,qA,qM,qL]
 apply hK;clear hK K
 refine W.seq ?_
 refine W.r fun K hK=>?_
 rcases (show 60<s.length∨(s.length≤60∧7<s.count 111)∨(s.length≤60∧s.count 111≤7) by omega) with q1 | ⟨q1,q2⟩ | ⟨q1,q2⟩
 ·skip
  have d1:decide ((s.length:Int)>60)=true:=decide_eq_true (by omega)
  simp(disch:=omega)only[↓RU,RV,RH,↓reduceIte,qE,reduceCtorEq,if_pos,w64,qN,↓RS,RG,qA,qM,qL,zab,zaa,d1]
  apply hK;clear hK K
  refine W.cond rfl (fun h0=>?_) (fun h0=>?_)
  ·try simp only[RL]at h0
   refine W.r fun K hK=>?_
   simp(disch:=omega)only[↓RU,RV,RH,↓reduceIte,qE,reduceCtorEq,if_pos,↓RS,RG,qA,qM,qL]
   apply hK;clear hK K
   refine W.ret ?_
   refine XThen.ret ?_
   refine Br rfl ?_
   rw [zqk (.inl q1)]
   rfl
  try simp only[RL]at h0
  exact absurd h0 (by simp)
 ·skip
  have d1:decide ((s.length:Int)>60)=false:=decide_eq_false (by omega)
  have d2:decide (((s.count 111:Nat):Int)>7)=true:=decide_eq_true (by omega)
  simp(disch:=omega)only[↓RU,RV,RH,↓reduceIte,qE,reduceCtorEq,if_pos,w64,qN,↓RS,RG,qA,qM,qL,zab,zaa,d1,d2]
  refine zac.pc (zvd s) rfl (.inl rfl) ?_
  simp(disch:=omega)only[↓RU,RV,RH,↓reduceIte,qE,reduceCtorEq,if_pos,w64,qN,↓RS,RG,qA,qM,qL,zab,zaa,d1,d2]
  apply hK;clear hK K
  refine W.cond rfl (fun h0=>?_) (fun h0=>?_)
  ·try simp only[RL]at h0
   refine W.r fun K hK=>?_
   simp(disch:=omega)only[↓RU,RV,RH,↓reduceIte,qE,reduceCtorEq,if_pos,↓RS,RG,qA,qM,qL]
   apply hK;clear hK K
   refine W.ret ?_
   refine XThen.ret ?_
   refine Br rfl ?_
   rw [zqk (.inr q2)]
   rfl
  try simp only[RL]at h0
  exact absurd h0 (by simp)
 skip
 have d1:decide ((s.length:Int)>60)=false:=decide_eq_false (by omega)
 have d2:decide (((s.count 111:Nat):Int)>7)=false:=decide_eq_false (by omega)
 simp(disch:=omega)only[↓RU,RV,RH,↓reduceIte,qE,reduceCtorEq,if_pos,w64,qN,↓RS,RG,qA,qM,qL,zab,zaa,d1,d2]
 refine zac.pc (zvd s) rfl (.inl rfl) ?_
 simp(disch:=omega)only[↓RU,RV,RH,↓reduceIte,qE,reduceCtorEq,if_pos,w64,qN,↓RS,RG,qA,qM,qL,zab,zaa,d1,d2]
 apply hK;clear hK K
 refine W.cond rfl (fun h0=>?_) (fun h0=>?_)
 ·try simp only[RL]at h0
  exact absurd h0 (by simp)
 try simp only[RL]at h0
 refine W.skip ?_
 refine xn ?_
 refine W.r fun K hK=>?_
 simp(disch:=omega)only[↓RU,RV,RH,↓reduceIte,qE,reduceCtorEq,if_pos,↓RS,RG,qA,qM,qL,z62,zaa,z63]
 apply hK;clear hK K
 refine W.r fun K hK=>?_
 simp(disch:=omega)only[↓RU,RV,RH,↓reduceIte,qE,reduceCtorEq,if_pos,qN,↓RS,RG,qA,qM,qL]
 refine zac.ev (z6y s.length s (qR _) hs _) ?_
 rintro _ _ ⟨rfl,s2,t2,rfl,hs2,hr2⟩
 simp(disch:=omega)only[↓RU,RV,RH,↓reduceIte,qE,reduceCtorEq,if_pos,qN,↓RS,RG,qA,qM,qL]
 apply hK;clear hK K
 refine W.seq ?_
 refine W.r fun K hK=>?_
 rcases s2 with _ | ⟨c,s2⟩
 ·skip
  simp(disch:=omega)only[↓RU,RV,RH,↓reduceIte,qE,reduceCtorEq,if_pos,w64,↓RS,RG,qA,qM,qL,z62,zaa,z63]
  apply hK;clear hK K
  refine W.cond rfl (fun h1=>?_) (fun h1=>?_)
  ·try simp only[RL]at h1
   exact absurd h1 (by simp)
  try simp only[RL]at h1
  refine W.skip ?_
  refine xn ?_
  refine W.r fun K hK=>?_
  simp(disch:=omega)only[↓RU,RV,RH,↓reduceIte,qE,reduceCtorEq,if_pos,↓RS,RG,qA,qM,qL]
  apply hK;clear hK K
  refine W.ret ?_
  refine Br rfl ?_
  have e:eO (ofT s)=eO (zig s):=by
   rw [z4u q1 q2,zig]
   cases h:rdT s with
   | none=>rfl
   | some q=>obtain ⟨t,r⟩:=q; obtain rfl:=hr2 t r h; rfl
  rw [e]
  cases h:zig s with
  | none=>rfl
  | some q=>exact zqv q
 skip
 simp(disch:=omega)only[↓RU,RV,RH,↓reduceIte,qE,reduceCtorEq,if_pos,w64,↓RS,RG,qA,qM,qL,z62,zaa,z63]
 apply hK;clear hK K
 refine W.cond rfl (fun h1=>?_) (fun h1=>?_)
 ·try simp only[RL]at h1
  refine W.r fun K hK=>?_
  simp(disch:=omega)only[↓RU,RV,RH,↓reduceIte,qE,reduceCtorEq,if_pos,↓RS,RG,qA,qM,qL]
  apply hK;clear hK K
  refine W.ret ?_
  refine XThen.ret ?_
  refine Br rfl ?_
  have e:ofT s=none:=by
   rw [z4u q1 q2]
   cases h:rdT s with
   | none=>rfl
   | some q=>obtain ⟨t,r⟩:=q; obtain rfl:=hr2 t r h; rfl
  rw [e]
  rfl
 try simp only[RL]at h1
 exact absurd h1 (by simp)
section
section
variable {p:List Txt} {room:Int} {s:Txt} {t l h w k:Nat}
end
end
section
def ch (p:List Txt) (i j:Nat):UInt8:=(p[i]?.getD [])[j]?.getD 0
structure Shp2 (X:List Txt) (H W:Nat):Prop where
 h:X.length=H
 w:∀ r∈X,r.length=W
theorem Shp2.row {X:List Txt} {H W:Nat} (h:Shp2 X H W) {i:Nat} (hi:i<H):∃ r,X[i]?=some r∧r.length=W∧∀ j,j<W→r[j]?=some (ch X i j):=by
 obtain ⟨r,hr,hm⟩:=zaf (show i<X.length by rw [h.h]; exact hi)
 refine ⟨r,hr,h.w r hm,fun j hj=>?_⟩
 obtain ⟨c,hc,-⟩:=zaf (show j<r.length by rw [h.w r hm]; exact hj)
 rw [hc,ch,hr,Option.getD_some,hc,Option.getD_some]
theorem Shp2.hd {X:List Txt} {H W:Nat} (h:Shp2 X H W) (h1:1≤H):(za0 X).length=W:=by
 obtain ⟨r,hr,hl,-⟩:=h.row (show 0<H by omega)
 rw [ziw hr,hl]
section
variable {p q:List Txt}
end
end



theorem zmz {code:Txt} {q vr t:Nat} {R:List Ob} (hc:code.length≤1048576) (hq:q≤1000000) (n:Int) (hn:n≤1000000) (hn0 : -1000000≤n) :
  Ev Tryz.prog 145 [.ref 0 vr 0,.int .i64 n] ⟨.arr vr 159 2 [eBy code,.int .i64 (q:Int)]::R,t⟩ fun v S=>∃ k:Nat,v = .int .i64 (k:Int)∧(n<1→k=0)∧(1≤n→(k:Int)<n)∧S=⟨.arr vr 159 2 [eBy code,.int .i64 ((q+1:Nat):Int)]::R,t⟩ :=
 z3a hc hq n hn hn0
theorem z23 {code:Txt} {q vr t v1:Nat} {R:List Ob} {l:List Txt} (hc:code.length≤1048576) (hq:q≤1000000) (hl:1≤l.length) (hl2:l.length≤1000):Ev Tryz.prog 153 [.ref 0 vr 0,.loc 1 v1 0 l.length] ⟨.arr vr 159 2 [eBy code,.int .i64 (q:Int)] :: .arr v1 9 1 (l.map .str)::R,t⟩ fun v S=>∃ s,s∈l∧v = .str s∧S=⟨.arr vr 159 2 [eBy code,.int .i64 ((q+1:Nat):Int)] :: .arr v1 9 1 (l.map .str)::R,t⟩:=by
 refine Ev.of ⟨Tryz.func153,by kernel_rfl,rfl,by kernel_rfl⟩ zal mixed (by show 2≤Tryz.f153.ntmps; decide) ?_
 refine W.r fun K hK=>?_
 simp(disch:=omega)only[↓RU,RV,RH,↓reduceIte,qE,reduceCtorEq,if_pos,↓RS,RG,qA,qM,qL]
 apply hK;clear hK K
 refine W.r fun K hK=>?_
 simp(disch:=omega)only[↓RU,RV,RH,↓reduceIte,qE,reduceCtorEq,if_pos,qN,↓RS,RG,qA,qM,qL,ty6,zaa]
 refine zac.ev (zmz hc hq (l.length:Int) (by omega) (by omega)) ?_
 rintro _ _ ⟨k,rfl,-,hk,rfl⟩
 have hk2:=hk (by omega)
 obtain ⟨s,hsk,hsm⟩:=zaf (show k<l.length by omega)
 simp(disch:=omega)only[↓RU,RV,RH,↓reduceIte,qE,reduceCtorEq,if_pos,qN,↓RS,RG,qA,qM,qL,ty6,zaa,hsk]
 apply hK;clear hK K
 refine W.ret ?_
 refine Br rfl ?_
 exact ⟨_,s,hsm,rfl,zaq⟩



section
structure LoopR (ps:Array Tmp) (asg body:Code) (r:Loop):Prop where
 hps:r.params=ps
 hasg:r.assign=asg
 hbody:r.body=body
 dps:∀ t∈ps.toList,t<r.tmps.size
 dasg:zej r.tmps.size asg=true
 dbody:zej r.tmps.size body=true
def Env.puts:List (Nat × PV)→Env→Env
 | [],e=>e
 | (t,v)::r,e=>Env.puts r (e.put (some t) v)
section
variable {P:Program} {T:Tab} {Q Q':Exit→Env→Store→Prop} {e:Env} {S:Store} {a b c:Code} {F:Nat→Prop} {G:GSt} {w:World}
theorem zrp {ds:List Deferred}:∀ (ps:List Nat) (xs:List PV) (cs:List Value) (e:Env) (t:Array Value),zct w.heap F G e ⟨t,ds⟩→(∀ p∈ps,p<t.size)→xs.length=cs.length →
  (∀ (i:Nat) p c,xs[i]?=some p→cs[i]?=some c→VR w.heap F G p c) →
  zct w.heap F G (Env.puts (ps.zip xs) e) ⟨(ps.zip cs).foldl (fun t (q:Nat × Value)=>t.setIfInBounds q.1 q.2) t,ds⟩
 | [],xs,cs,e,t,he,_,_,_=>by simpa [Env.puts] using he
 | p::ps,[],[],e,t,he,_,_,_=>by simpa [Env.puts] using he
 | p::ps,x::xs,c::cs,e,t,he,hp,hl,hv=>by
  simp only[List.zip_cons_cons,Env.puts,List.foldl_cons]
  refine zrp ps xs cs _ _ ?_ ?_ (by simpa using hl) fun i p c q1 q2=>hv (i+1) p c (by simpa using q1) (by simpa using q2)
  ·have:=he.put (a:=⟨t,ds⟩) (some p) (v:=x) (cv:=c) (fun t' ht=>by cases ht; exact hp p (by simp)) (hv 0 x c rfl rfl)
   exact this
  intro q hq
  have:=hp q (by simp [hq])
  simpa using this
 | p::ps,[],c::cs,_,_,_,_,hl,_=>by simp at hl
 | p::ps,x::xs,[],_,_,_,_,hl,_=>by simp at hl
theorem zxk (l:List (Nat × Value)) (t:Array Value):(l.foldl (fun t (q:Nat × Value)=>t.setIfInBounds q.1 q.2) t).size=t.size:=by
 induction l generalizing t with
 | nil=>rfl
 | cons q l ih=>simp [ih]
theorem z04 (hi:Inv F G w) {o ver l:Nat} {r:Loop × List Nat} {tm:List PV} {lc:Lc} (ho:G.obs[o]?=some (.lp ver l r tm,lc)) (s:LoopState) (pe:Option Code) :
  ∃ t:Array Value,w.heap[l]?=some (.loop { r.1 with tmps:=t }) ∧
   Inv F ⟨G.obs.set o (.lp ver l ({ r.1 with state:=s,pending:=pe },r.2) tm,lc),G.tick⟩ (w.putObj l (.loop { r.1 with tmps:=t,state:=s,pending:=pe })) ∧
   Next F G w F ⟨G.obs.set o (.lp ver l ({ r.1 with state:=s,pending:=pe },r.2) tm,lc),G.tick⟩ (w.putObj l (.loop { r.1 with tmps:=t,state:=s,pending:=pe })):=by
 obtain ⟨h0,t,h1,h2,h3⟩:=hi.lp o ver l r tm lc ho
 have hlt:=(Array.getElem?_eq_some_iff.1 h1).1
 refine ⟨t,h1,zf2 hi ho _ lc G.tick _ rfl rfl rfl (qR _) (by simp) (.inl rfl) (fun b hb hne=>World.putObj_heap_other (by rw [← h0]; exact hne)) (qR _) (show Ob.ver (.lp ver l r tm)<G.tick from hi.ver o _ lc ho)
  (.inl ⟨rfl,trivial,rfl⟩) ⟨h0,t,World.putObj_heap_same hlt,h2,h3⟩⟩
def z7d (o l:Nat) (J:PV→Store→Prop):Exit→Env→Store→Prop
 | .normal,_,S=>∃ ver r L tm k,S.obs[o]?=some (.lp ver l (r,L) tm)∧J (.bool true) (Store.take ⟨S.obs.set o (.lp ver l ({ r with state := .ready,pending:=none },L) tm),S.tick⟩ k)
 | .ret,_,S=>∃ ver r L tm k,S.obs[o]?=some (.lp ver l (r,L) tm)∧J (.bool false) (Store.take ⟨S.obs.set o (.lp ver l ({ r with state := .done,pending:=some .ret },L) tm),S.tick⟩ k)
 | .exit id,_,S=>∃ ver r L tm k,S.obs[o]?=some (.lp ver l (r,L) tm)∧J (.bool false) (Store.take ⟨S.obs.set o (.lp ver l ({ r with state := .done,pending:=some (.exit id) },L) tm),S.tick⟩ k)
 | _,_,_=>False
theorem VR.bool_of {H:Array Obj} {b:Bool}:VR H F G (.bool b) (.bool b) := .imm _ _ (.bool b)
theorem Ey.of (hT:zar P T) (hm:P.follows .mixedOrders=true) {l o ver:Nat} {r:Loop} {L:List Nat} {tm xs:List PV} {ps:Array Tmp} {asg body:Code} {J:PV→Store→Prop}
  (ho:S.obs[o]?=some (.lp ver l (r,L) tm)) (hr:LoopR ps asg body r) (hst:r.state = .ready) (hps:ps.size=xs.length)
  (hw:W P T asg (XThen (fun e1 S1=>∃ ver1 r1 L1 tm1,S1.obs[o]?=some (.lp ver1 l (r1,L1) tm1)∧r1.state = .ready ∧
   W P T body (z7d o l J) e1 ⟨S1.obs.set o (.lp ver1 l ({ r1 with state := .busy,pending:=r1.pending },L1) tm1),S1.tick⟩) (fun _ _ _=>False)) (Env.puts (ps.toList.zip xs) (Env.of L tm)) S) :
  Ey P l xs S J:=by
 refine ⟨fun F G w cargs hS hi hl hv=>?_⟩
 subst hS
 obtain ⟨lc,hG⟩:=zco ho
 obtain ⟨h0,t,h1,⟨h2,h2'⟩,h3⟩:=hi.lp o ver l (r,L) tm lc hG
 simp only at h1 h2 h2' h3
 refine ⟨_,_,_,_,run_yield h1 (by simp only; rw [hr.hps]; omega),fun R nn=>?_⟩
 refine roundIn_of_wpIn trivial ?_
 simp only
 have hE:zct w.heap F G (Env.puts (ps.toList.zip xs) (Env.of L tm)) ⟨(ps.toList.zip cargs.toList).foldl (fun t (q:Nat × Value)=>t.setIfInBounds q.1 q.2) t,[]⟩ :=
  zrp _ _ _ _ _ (zqm L tm h2'.symm fun i j v q1 q2=>h3 i v j q2 q1) (fun p hp=>Nat.lt_of_lt_of_eq (hr.dps p hp) h2.symm) (by simpa using hl) (fun i p c q1 q2=>hv i p c q1 (by simpa using q2))
 have hsz:((ps.toList.zip cargs.toList).foldl (fun t (q:Nat × Value)=>t.setIfInBounds q.1 q.2) t).size=r.tmps.size:=by rw [zxk]; exact h2
 have hfold:(r.params.zip cargs).foldl (fun tmps (x:Nat × Value)=>tmps.setIfInBounds x.1 x.2) t=(ps.toList.zip cargs.toList).foldl (fun t (q:Nat × Value)=>t.setIfInBounds q.1 q.2) t:=by
  rw [hr.hps,← Array.foldl_toList,Array.toList_zip]
 show (r.assign).wpIn (fnc (some l)) _ P _ { tmps:=(r.params.zip cargs).foldl (fun tmps (x:Nat × Value)=>tmps.setIfInBounds x.1 x.2) t,defers:=[] } w
 rw [hfold,hr.hasg,hr.hbody]
 refine wpIn_mono (hw.run hT hm F G w r.tmps.size F G _ w rfl hi hE (Next.refl w) hsz Marks.nil hr.dasg) ?_
 rintro x a1 w1 ⟨e1,F1,G1,k1,k2,k3,k4,k5,k6⟩
 cases x with
 | normal =>
  obtain ⟨ver1,r1,L1,tm1,g1,g2,g3⟩:=k1
  obtain ⟨lc1,hG1⟩:=zco g1
  obtain ⟨t1,q1,q2,q3⟩:=z04 k2 hG1 .busy r1.pending
  refine ⟨_,run_beginRound q1 g2,?_⟩
  refine wpIn_mono (g3.run hT hm F G w r.tmps.size F1 _ a1 _ (zgu G1 o _ lc1 G1.tick) q2 (k3.next k2 q3) (k4.trans q3) k5 (k6.next k2 q3) hr.dbody) ?_
  have fin:∀ {F2:Nat→Prop} {G2:GSt} {w2:World} {v:Bool} {s:LoopState} {pe:Option Code} {ver2:Nat} {r2:Loop} {L2:List Nat} {tm2:List PV} {k:Nat},Inv F2 G2 w2→Next F G w F2 G2 w2 →
    s=(if pe.isNone then .ready else .done)→v=pe.isNone→G2.er.obs[o]?=some (.lp ver2 l (r2,L2) tm2) →
    J (.bool v) (Store.take ⟨G2.er.obs.set o (.lp ver2 l ({ r2 with state:=s,pending:=pe },L2) tm2),G2.er.tick⟩ k) →
    ∃ cv w3,(Instr.endRound l pe).run P w2 = .ok cv w3∧∃ v cv' F' G',Ending.returned cv = .returned cv'∧J v G'.er∧Inv F' G' w3∧Next F G w F' G' w3∧VR w3.heap F' G' v cv':=by
   intro F2 G2 w2 v s pe ver2 r2 L2 tm2 k i2 n2 hs hv2 hg hJ
   obtain ⟨lc2,hG2⟩:=zco hg
   obtain ⟨t2,p1,p2,p3⟩:=z04 i2 hG2 s pe
   obtain ⟨i3,n3⟩:=zcz p2 k
   have hrun:=run_endRound (P:=P) pe p1
   rw [← hs]at hrun
   refine ⟨_,_,hrun,.bool v,_,F2,GSt.take ⟨G2.obs.set o (.lp ver2 l ({ r2 with state:=s,pending:=pe },L2) tm2,lc2),G2.tick⟩ k,rfl,?_,i3,(n2.trans p3).trans n3,by rw [← hv2]; exact VR.bool_of⟩
   rw [zib,zgu]; exact hJ
  rintro x a2 w2 ⟨e2,F2,G2,j1,j2,j3,j4,j5,j6⟩
  cases x with
  | normal=>obtain ⟨ver2,r2,L2,tm2,k,f1,f2⟩:=j1; exact fin j2 j4 rfl rfl f1 f2
  | ret=>obtain ⟨ver2,r2,L2,tm2,k,f1,f2⟩:=j1; exact fin j2 j4 rfl rfl f1 f2
  | exit id=>obtain ⟨ver2,r2,L2,tm2,k,f1,f2⟩:=j1; exact fin j2 j4 rfl rfl f1 f2
  | _=>exact j1.elim
 | _=>exact k1.elim
structure V (P:Program) (T:Tab) (c:Code) (Q:Exit→Env→Store→Prop) (e:Env) (S:Store):Prop where
 run:zar P T→P.follows .mixedOrders=true→∀ (F0:Nat→Prop) (G0:GSt) (w0:World) (N:Nat) (F:Nat→Prop) (G:GSt) (a:Act) (w:World),G.er=S→Inv F G w→zct w.heap F G e a →
  Next F0 G0 w0 F G w→a.tmps.size=N→Marks w0 a.defers w→zej N c=true→c.wpIn (fnc none) 0 P (Sto F0 G0 w0 N Q) a w
theorem W.v (h:W P T c Q e S):V P T c Q e S:=⟨fun h1 h2 F0 G0 w0 N F G a w h3 h4 h5 h6 h7 h8 h9=>h.run h1 h2 F0 G0 w0 N F G a w h3 h4 h5 h6 h7 h8 h9⟩
theorem V.mono (h:V P T c Q e S) (k:∀ x e S,Q x e S→Q' x e S):V P T c Q' e S :=
 ⟨fun h1 h2 F0 G0 w0 N F G a w h3 h4 h5 h6 h7 h8 h9=>wpIn_mono (h.run h1 h2 F0 G0 w0 N F G a w h3 h4 h5 h6 h7 h8 h9) fun _ _ _=>Sto.mono k⟩
theorem V.seq (h:V P T a (XThen (V P T b Q) Q) e S):V P T (.seq a b) Q e S:=by
 refine ⟨?_⟩
 intro hT hm F0 G0 w0 N F G a w h3 h4 h5 h6 h7 h8 h9
 simp only[zej,qB]at h9
 refine wpIn_seq (wpIn_mono (h.run hT hm F0 G0 w0 N F G a w h3 h4 h5 h6 h7 h8 h9.1) ?_)
 rintro x a' w' ⟨e',F',G',k1,k2,k3,k4,k5,k6⟩
 cases x with
 | normal=>exact k1.run hT hm F0 G0 w0 N F' G' a' w' rfl k2 k3 k4 k5 k6 h9.2
 | _=>exact ⟨e',F',G',k1,k2,k3,k4,k5,k6⟩
theorem V.seq_region {id:Nat} {l:List Oper} (h:∀ K:Env→Store→Prop,(∀ e S,V P T b Q e S→K e S)→zam false P T (dsts l) l e S K):V P T (.seq (.region id l.toArray false) b) Q e S :=
 V.seq (W.v (W.k fun K hK=>h K hK))
theorem V.seq_draw {id:Nat} {l:List Oper} (hc:zge l.toArray (List.range' 0 l.length) (ze6 l 0) []=true) (h:∀ K:Env→Store→Prop,(∀ e S,V P T b Q e S→K e S)→zam true P T (dsts l) l e S K) :
  V P T (.seq (.region id l.toArray true) b) Q e S :=
 V.seq (W.v (W.draw_k hc fun K hK=>h K hK))
theorem V.cond {x:Operand} {t:Bool} (hc:e.ev x = .bool t) (h1:t=true→V P T a Q e S) (h2:t=false→V P T b Q e S):V P T (.cond x a b) Q e S:=by
 refine ⟨?_⟩
 intro hT hm F0 G0 w0 N F G a w h3 h4 h5 h6 h7 h8 h9
 simp only[zej,qB]at h9
 have:=h5.ev x
 rw [hc]at this
 exact wpIn_cond_split this.bool (fun ht=>(h1 ht).run hT hm F0 G0 w0 N F G a w h3 h4 h5 h6 h7 h8 h9.1) (fun ht=>(h2 ht).run hT hm F0 G0 w0 N F G a w h3 h4 h5 h6 h7 h8 h9.2)
theorem V.block {id:Nat} (h:V P T c (XBlock id Q) e S):V P T (.block id c) Q e S:=by
 refine ⟨?_⟩
 intro hT hm F0 G0 w0 N F G a w h3 h4 h5 h6 h7 h8 h9
 refine wpIn_block (wpIn_mono (h.run hT hm F0 G0 w0 N F G a w h3 h4 h5 h6 h7 h8 h9) ?_)
 rintro x a' w' ⟨e',F',G',k1,k2⟩
 cases x with
 | exit i =>
  simp only[Exit.inBlock]
  simp only[XBlock]at k1
  split
  ·rename_i hi; rw [if_pos hi]at k1; exact ⟨e',F',G',k1,k2⟩
  rename_i hi; rw [if_neg hi]at k1; exact ⟨e',F',G',k1,k2⟩
 | _=>exact ⟨e',F',G',k1,k2⟩
def z57:Option Code→Option Exit
 | none=>some .normal
 | some .ret=>some .ret
 | some (.exit id)=>some (.exit id)
 | _=>none
theorem zto (hi:Inv F G w) (ob:Obj):Inv F G (w.alloc ob)∧Next F G w F G (w.alloc ob):=by
 have hkeep:∀ b,b<w.heap.size→(w.alloc ob).heap[b]?=w.heap[b]?:=fun b hb=>Go.RowKit.Below.heap_alloc w ob b hb
 have hn:Next F G w F G (w.alloc ob) :=
  ⟨rfl,rfl,rfl,by simp,fun _ h=>h,fun _ h => .inl h,fun o x h => .inr ⟨o,x,h,rfl⟩,qR _,fun b hb _=>hkeep b hb,fun _ ob' _ h _=>⟨ob',h,rfl,Ob.like.refl _⟩,qR _⟩
 exact ⟨zgx (fun b hb=>Nat.lt_of_lt_of_le (hi.fr b hb) hn.size) hi.ver hi.nF (fun o ob' l h=>(hi.holds h).next hi hn (hkeep _ (hi.blk_lt h))) hi.inj,hn⟩
theorem VR.fn_at {f:FuncId} {cap:List PV} {v:Value} (h:VR w.heap F G (.fn f cap) v):∃ vs:Array Value,v = .func (.func f) #[] vs∧cap.length=vs.size∧∀ (i:Nat) p c,cap[i]?=some p→vs[i]?=some c→VR w.heap F G p c:=by
 cases h with
 | imm _ _ h=>cases h with | fn _ _ vs h1 h2=>exact ⟨vs,rfl,h1,fun i p c q1 q2 => .imm _ _ (h2 i p c q1 q2)⟩
 | fn _ _ vs h1 h2=>exact ⟨vs,rfl,h1,h2⟩
theorem V.rangeFunc {g:Operand} {ps:Array Tmp} {asg body:Code} (L:List Nat) {f:FuncId} {cap:List PV} (hg:e.ev g = .fn f cap)
  (h:∀ (l:Nat) (r:Loop),LoopR ps asg body r→r.state = .ready→r.pending=none→∃ J,Ev P f (.yl l::cap) ⟨S.obs++[.lp S.tick l (r,L) (L.map e)],S.tick+1⟩ J ∧
   ∀ v S',J v S'→∃ ver r' L' tm x,S'.obs[S.obs.length]?=some (.lp ver l (r',L') tm)∧r'.state ≠ .busy∧z57 r'.pending=some x∧Q x e (S'.take S.obs.length)) :
  V P T (.rangeFunc g ps asg body) Q e S:=by
 refine ⟨?_⟩
 intro hT hm F0 G0 w0 N F G a w h3 h4 h5 h6 h7 h8 h9
 subst h3
 simp only[zej,qB,List.all_eq_true,decide_eq_true_eq]at h9
 obtain ⟨⟨d1,d2⟩,d3⟩:=h9
 refine wpIn_rangeFunc ?_
 intro fn _
 obtain ⟨rec,hrec⟩:∃ rec:Loop,rec={ state := .ready,pending:=none,fn,tmps:=a.tmps,params:=ps,assign:=asg,body,defers:=w.heap.size }:=⟨_,rfl⟩
 obtain ⟨i1,n1⟩:=zto h4 (.deferred (some []))
 obtain ⟨W0,hW0⟩:∃ W0,w.alloc (.deferred (some []))=W0:=⟨_,rfl⟩
 have hsz:W0.heap.size=w.heap.size+1:=by rw [← hW0]; simp
 rw [hW0]at i1 n1
 have hdef:W0.heap[w.heap.size]?=some (.deferred (some [])):=by rw [← hW0]; exact World.alloc_heap_new w _
 obtain ⟨W1,hW1⟩:∃ W1,W0.alloc (.loop rec)=W1:=⟨_,rfl⟩
 have hL1:W1.heap[W0.heap.size]?=some (.loop rec):=by rw [← hW1]; exact World.alloc_heap_new W0 _
 have hhold:Holds W0.heap F G W1.heap (.lp G.tick W0.heap.size (rec,L) (L.map e)) ⟨W0.heap.size,0⟩:=by
  refine ⟨rfl,a.tmps,by rw [hL1,hrec],⟨by rw [hrec],by simp⟩,fun i p j q1 q2=>?_⟩
  simp only at q2
  rw [List.getElem?_map,q2]at q1
  cases q1
  exact (h5 j).next h4 n1
 obtain ⟨i2,n2⟩:=zqs i1 (.lp G.tick W0.heap.size (rec,L) (L.map e)) 0 W1 W1.drawn (by rw [← hW1]; rfl) (by rw [← hW1]; exact qR _) ⟨_,by rw [← hW1]; rfl⟩ rfl hhold
 have n12:=n1.trans n2
 have hgv:=h5.ev g
 rw [hg]at hgv
 obtain ⟨vs,hge,hvl,hvr⟩:=hgv.fn_at
 obtain ⟨J,hev,hJ⟩:=h W0.heap.size rec (by rw [hrec]; exact ⟨rfl,rfl,rfl,fun t ht=>by rw [h7]; exact d1 t ht,by rw [h7]; exact d2,by rw [h7]; exact d3⟩) (by rw [hrec]) (by rw [hrec])
 refine ⟨w.heap.size+1,[{ target := .collected w.heap.size,args := #[] }],W1,{ target := .fn (.func f) vs,args := #[.func (.yield (w.heap.size+1)) #[] #[]] },W1,f,
  #[.func (.yield (w.heap.size+1)) #[] #[]]++vs,W1,?_,?_,fun _ _=>trivial,?_,fun q=>(by simp [Fence.wide]at q),?_⟩
 ·rw [← hW1,← hW0,hrec]; exact run_enterLoop_outer _ _ _ _ _
 ·simp only[resolve,hge]
  simp [go_sem]
 ·simp only[invoke]; exact hev.ent _ _
 ·refine callsIn_wide.2 ((hev.run F _ W1 _ (zt1 G _ _) i2 (by simp; omega) ?_).mono ?_)
  ·intro i p c q1 q2
   cases i with
   | zero=>rw [Array.getElem?_append_left (by simp)]at q2; simp at q1 q2; subst q1; subst q2; rw [hsz]; exact .imm _ _ (.yl _)
   | succ i =>
    simp only[List.getElem?_cons_succ]at q1
    rw [Array.getElem?_append_right (by simp)]at q2
    simp at q2
    exact (hvr i p c q1 q2).next h4 n12
  ·rintro en w2 ⟨v,cv,F2,G2,rfl,j1,j2,j3,j4⟩
   obtain ⟨ver,r',L',tm,x,g1,g2,g3,g4⟩:=hJ v _ j1
   obtain ⟨lc,hG2⟩:=zco g1
   rw [show (GSt.er G).obs.length=G.obs.length by simp [GSt.er]]at hG2 g4
   obtain ⟨t,p1,p2,p3⟩:=z04 j2 hG2 .exhausted r'.pending
   obtain ⟨i3,n3⟩:=zcz p2 G.obs.length
   rw [hsz]at p1
   refine ⟨_,_,run_endLoop p1 g2,?_⟩
   have hnx:=((h6.trans n12).trans (j3.trans p3)).trans n3
   have hmk:Marks w0 ([{ target := .collected w.heap.size,args := #[] }]++a.defers) (w2.putObj W0.heap.size (.loop { r' with tmps:=t,state := .exhausted,pending:=r'.pending })):=by
    have m1:=h8.next h4 n12
    have hd1:W1.heap[w.heap.size]?=some (.deferred (some [])):=(by rw [← hW1]; exact (Go.RowKit.Below.heap_alloc W0 _ _ (by omega)).trans hdef)
    have m2:Marks w0 ([{ target := .collected w.heap.size,args := #[] }]++a.defers) W1:=by
     obtain ⟨bs,b1,b2,b3⟩:=h8
     obtain ⟨bs',c1,c2,c3⟩:=m1
     have hb:bs'=bs:=by
      rw [b1]at c1
      have:=congrArg (List.map fun d:Deferred=>(match d.target with | .collected b=>b | _=>0)) c1
      simpa [List.map_map,Function.comp_def] using this.symm
     subst hb
     refine ⟨w.heap.size::bs',by rw [b1]; simp,?_,?_⟩
     ·refine List.nodup_cons.2 ⟨fun hm=>?_,b2⟩
      have:=(Array.getElem?_eq_some_iff.1 (b3 _ hm).2).1
      omega
     intro b hb
     rcases List.mem_cons.1 hb with rfl | hb
     ·exact ⟨h6.size,hd1⟩
     exact c3 b hb
    exact (m2.next i2 j3).next j2 p3
   have henv:zct (w2.putObj W0.heap.size (.loop { r' with tmps:=t,state := .exhausted,pending:=r'.pending })).heap F2 (GSt.take ⟨G2.obs.set G.obs.length (.lp ver W0.heap.size ({ r' with state := .exhausted,pending:=r'.pending },L') tm,lc),G2.tick⟩ G.obs.length) e { a with defers:=[{ target := .collected w.heap.size,args := #[] }]++a.defers } :=
    fun k=>((((h5 k).next h4 n12).next i2 j3).next j2 p3).next p2 n3
   have hst:Sto F0 G0 w0 N Q x { a with defers:=[{ target := .collected w.heap.size,args := #[] }]++a.defers } (w2.putObj W0.heap.size (.loop { r' with tmps:=t,state := .exhausted,pending:=r'.pending })):=by
    refine ⟨e,F2,_,?_,i3,henv,hnx,h7,hmk⟩
    have:(GSt.take ⟨G2.obs.set G.obs.length (.lp ver W0.heap.size ({ r' with state := .exhausted,pending:=r'.pending },L') tm,lc),G2.tick⟩ G.obs.length).er=G2.er.take G.obs.length:=by
     simp [GSt.take,GSt.er,Store.take,List.take_set_of_le]
    rw [this]; exact g4
   rw [hsz]at hst
   cases hpe:r'.pending with
   | none=>rw [hpe]at g3 hst ; simp only[z57]at g3; cases g3; exact hst
   | some c =>
    rw [hpe]at g3 hst
    cases c <;> simp only[z57]at g3 <;> cases g3
    ·exact wpIn_exit hst
    exact wpIn_ret hst
end
end
section
section
variable {P:Program} {T:Tab} {F0:Nat→Prop} {G0:GSt} {w0:World} {N:Nat}
end
end


def eS:Tm→List PV
 | .o=>[.int .u8 111,.sl [] 0]
 | .un c t=>[eB c,.sl (eS t) 1]
 | .bin m a b=>[eB m,.sl (eS a++eS b) 2]
theorem zcn (t:Tm):∃ (c:UInt8) (cs:List PV) (n:Nat),eS t=[eB c,.sl cs n]:=by
 cases t with
 | o=>exact ⟨111,_,_,rfl⟩
 | un c t=>exact ⟨_,_,_,rfl⟩
 | bin m a b=>exact ⟨_,_,_,rfl⟩
theorem z78:∀ (f:Nat) (s:Txt) (k:Nat),(rdS f s k).2=0∨k<(rdS f s k).2:=by
 intro f
 induction f with
 | zero=>intro s k; exact .inl rfl
 | succ f ih =>
  intro s k
  simp only[rdS]
  split
  ·exact .inl rfl
  split
  ·exact .inr (by simp)
  split
  ·have:=ih s (k+1)
   simp only
   omega
  split
  ·split
   ·exact .inl rfl
   split
   ·exact .inl rfl
   split
   ·split
    ·exact .inl rfl
    split
    ·exact .inl rfl
    split
    ·have h1:=ih s (k+1)
     have h2:=ih s ((rdS f s (k+1)).2+1)
     simp only
     omega
    exact .inl rfl
   exact .inl rfl
  exact .inl rfl
theorem z87 {f k:Nat} {s:Txt} {c:UInt8} (hc:s[k]?=some c):rdS (f+1) s k =
   if c=111 then (.o,k+1)
   else if c=62∨c=94 then (.un c (rdS f s (k+1)).1,(rdS f s (k+1)).2)
   else if c=40 then
    if (rdS f s (k+1)).2=0 then (.o,0) else
    match s[(rdS f s (k+1)).2]? with
    | none=>(.o,0)
    | some m=>if m=124∨m=45 then
      if (rdS f s ((rdS f s (k+1)).2+1)).2=0 then (.o,0) else
      match s[(rdS f s ((rdS f s (k+1)).2+1)).2]? with
      | none=>(.o,0)
      | some e=>if e=41 then (.bin m (rdS f s (k+1)).1 (rdS f s ((rdS f s (k+1)).2+1)).1,(rdS f s ((rdS f s (k+1)).2+1)).2+1) else (.o,0)
     else (.o,0)
   else (.o,0):=by simp only[rdS,hc]; rfl
def rdV (f:Nat) (s:Txt) (k:Nat):PV := .tup [.agg (eS (rdS f s k).1),.int .i64 ((rdS f s k).2:Nat)]
theorem zmm (s:Txt) (hs:s.length≤1048576):PC Tryz.prog 47 [.str s] (.int .i64 ((s.count 111:Nat):Int)) true:=by
 refine PC.of ⟨Tryz.func47,by kernel_rfl,rfl,by kernel_rfl⟩ zal mixed (by show 1≤Tryz.f47.ntmps; decide) ?_
 refine W.r fun K hK=>?_
 simp(disch:=omega)only[↓RU,RV,RH,↓reduceIte,qE,reduceCtorEq,if_pos,↓RS,RG,qA,qM,qL]
 apply hK;clear hK K
 refine W.r fun K hK=>?_
 simp(disch:=omega)only[↓RU,RV,RH,↓reduceIte,qE,reduceCtorEq,if_pos,↓RS,RG,qA,qM,qL]
 apply hK;clear hK K
 refine W.seq ?_
 refine W.r fun K hK=>?_
 simp(disch:=omega)only[↓RU,RV,RH,↓reduceIte,qE,reduceCtorEq,if_pos,↓RS,RG,qA,qM,qL]
 apply hK;clear hK K
 refine W.block ?_
 refine W.loop [0,3,4] (fun n vs S=>∃ i:Nat,n=s.length - i∧i≤s.length∧vs=[.str s,.int .i64 (((s.take i).count 111:Nat):Int),.int .i64 i]∧S=⟨[],0⟩) (s.length) ?_ ?_
 ·refine ⟨0,0,rfl,Nat.zero_le _,?_,rfl⟩
  simp [Env.put,Env.of,zaj]
 rintro n vs S - ⟨i,rfl,h_i,rfl,rfl⟩
 refine W.seq ?_
 refine W.r fun K hK=>?_
 simp(disch:=omega)only[↓RU,RV,RH,↓reduceIte,qE,reduceCtorEq,if_pos,w64,↓RS,RG,qA,qM,qL,zab,zaa]
 apply hK;clear hK K
 refine W.cond rfl (fun h0=>?_) (fun h0=>?_)
 ·try simp only[RL]at h0
  obtain ⟨c,hc,-⟩:=zaf (show i<s.length by omega)
  have hcn:=List.count_le_length (a:=111) (l:=s.take i)
  have htl:=List.length_take_le i s
  refine W.skip ?_
  refine xn ?_
  refine W.seq ?_
  refine W.block ?_
  refine W.r fun K hK=>?_
  simp(disch:=omega)only[↓RU,RV,RH,↓reduceIte,qE,reduceCtorEq,if_pos,w64,↓RS,RG,qA,qM,qL,zaa,zai,hc]
  apply hK;clear hK K
  refine W.cond rfl (fun h1=>?_) (fun h1=>?_)
  ·try simp only[RL]at h1
   refine W.k fun K hK=>?_
   simp(disch:=omega)only[↓RU,RV,RH,↓reduceIte,qE,reduceCtorEq,if_pos,w64,↓RS,RG,qA,qM,qL,zab]
   apply hK;clear hK K
   refine XbN ?_
   refine xn ?_
   refine W.k fun K hK=>?_
   simp(disch:=omega)only[↓RU,RV,RH,↓reduceIte,qE,reduceCtorEq,if_pos,w64,↓RS,RG,qA,qM,qL,zab]
   apply hK;clear hK K
   refine xn ?_
   refine ⟨s.length - (i+1),by omega,0,i+1,rfl,by omega,?_,rfl⟩
   have e:(s.take (i+1)).count 111=(s.take i).count 111+1:=by rw [tk hc,List.count_append,u8i (c:=c) (k:=111) (by omega) (by decide)]; rfl
   rw [e]
   simp [Env.put,Env.of,zaj]
  try simp only[RL]at h1
  refine W.skip ?_
  refine XbN ?_
  refine xn ?_
  refine W.k fun K hK=>?_
  simp(disch:=omega)only[↓RU,RV,RH,↓reduceIte,qE,reduceCtorEq,if_pos,w64,↓RS,RG,qA,qM,qL,zab]
  apply hK;clear hK K
  refine xn ?_
  refine ⟨s.length - (i+1),by omega,0,i+1,rfl,by omega,?_,rfl⟩
  have e:(s.take (i+1)).count 111=(s.take i).count 111:=by rw [tk hc,List.count_append,List.count_singleton,if_neg (by simp; intro e; exact h1 (by rw [e]; rfl))]; rfl
  rw [e]
  simp [Env.put,Env.of,zaj]
 try simp only[RL]at h0
 obtain rfl:i=s.length:=by omega
 rw [List.take_length]
 refine W.exit ?_
 refine xe ?_
 refine xe ?_
 refine XBlock.hit ?_
 refine xn ?_
 refine W.r fun K hK=>?_
 simp(disch:=omega)only[↓RU,RV,RH,↓reduceIte,qE,reduceCtorEq,if_pos,↓RS,RG,qA,qM,qL]
 apply hK;clear hK K
 refine W.ret ?_
 refine Br rfl ?_
 rfl
theorem zml {s:Txt} (hs:s.length≤1048576) {f k:Nat} (hk:s.length<f+1+k) (hk2:k≤s.length+1) (ih:∀ k2:Nat,s.length<f+k2∧k2≤s.length+1∧k<k2→PC Tryz.prog 48 [.str s,.int .i64 k2] (rdV f s k2) false):PC Tryz.prog 48 [.str s,.int .i64 k] (rdV (f+1) s k) false:=by
 refine PC.of ⟨Tryz.func48,by kernel_rfl,rfl,by kernel_rfl⟩ zal mixed (by show 2≤Tryz.f48.ntmps; decide) ?_
 refine W.r fun K hK=>?_
 simp(disch:=omega)only[↓RU,RV,RH,↓reduceIte,qE,reduceCtorEq,if_pos,↓RS,RG,qA,qM,qL,ty5,zb6,zb7,zai]
 apply hK;clear hK K
 refine W.r fun K hK=>?_
 simp(disch:=omega)only[↓RU,RV,RH,↓reduceIte,qE,reduceCtorEq,if_pos,↓RS,RG,qA,qM,qL,ty5,zb6,zb7,zai]
 apply hK;clear hK K
 refine W.seq ?_
 refine W.r fun K hK=>?_
 simp(disch:=omega)only[↓RU,RV,RH,↓reduceIte,qE,reduceCtorEq,if_pos,w64,↓RS,RG,qA,qM,qL,zab,zaa]
 apply hK;clear hK K
 refine W.cond rfl (fun h0=>?_) (fun h0=>?_)
 ·try simp only[RL]at h0
  have hno:rdS (f+1) s k=(.o,0):=by simp only[rdS]; rw [List.getElem?_eq_none (by omega)]
  refine W.r fun K hK=>?_
  simp(disch:=omega)only[↓RU,RV,RH,↓reduceIte,qE,reduceCtorEq,if_pos,↓RS,RG,qA,qM,qL,ty5,zb6,zb7,zai]
  apply hK;clear hK K
  refine W.ret ?_
  refine XThen.ret ?_
  refine Br rfl ?_
  rw [show rdV (f+1) s k = .tup [.agg (eS .o),.int .i64 0] by unfold rdV; rw [hno]; rfl]
  rfl
 try simp only[RL]at h0
 obtain ⟨c,hc,-⟩:=zaf (show k<s.length by omega)
 have hrd:=z87 (f:=f) hc
 refine W.skip ?_
 refine xn ?_
 refine W.r fun K hK=>?_
 simp(disch:=omega)only[↓RU,RV,RH,↓reduceIte,qE,reduceCtorEq,if_pos,↓RS,RG,qA,qM,qL,zaa,hc]
 apply hK;clear hK K
 refine W.seq ?_
 refine W.r fun K hK=>?_
 simp(disch:=omega)only[↓RU,RV,RH,↓reduceIte,qE,reduceCtorEq,if_pos,w64,↓RS,RG,qA,qM,qL,zai]
 apply hK;clear hK K
 refine W.cond rfl (fun h1=>?_) (fun h1=>?_)
 ·try simp only[RL]at h1
  have hc1:c=111:=u8i (k:=111) (by omega) (by decide)
  rw [if_pos hc1]at hrd
  refine W.r fun K hK=>?_
  simp(disch:=omega)only[↓RU,RV,RH,↓reduceIte,qE,reduceCtorEq,if_pos,w64,↓RS,RG,qA,qM,qL,ty5,zab,zb6,zb7,zai]
  apply hK;clear hK K
  refine W.ret ?_
  refine XThen.ret ?_
  refine Br rfl ?_
  rw [show rdV (f+1) s k = .tup [.agg (eS .o),.int .i64 ((k:Int)+1)] by unfold rdV; rw [hrd]; show PV.tup [.agg (eS .o),.int .i64 ((k+1:Nat):Int)]=_; rw [Int.natCast_add]; rfl]
  rfl
 try simp only[RL]at h1
 have hc1:¬ c=111:=fun e=>h1 (by rw [e]; rfl)
 rw [if_neg hc1]at hrd
 refine W.skip ?_
 refine xn ?_
 refine W.seq ?_
 refine W.r fun K hK=>?_
 rcases (show c=62∨(c≠62∧c=94)∨(c≠62∧c≠94) by by_cases e:c=62 <;> by_cases e2:c=94 <;> simp [e,e2]) with m1 | ⟨m0,m1⟩ | ⟨m0,m1⟩
 ·skip
  have d1:((c.toNat:Int) == 62)=true:=by rw [m1]; rfl
  simp(disch:=omega)only[↓RU,RV,RH,↓reduceIte,qE,reduceCtorEq,if_pos,w64,↓RS,RG,qA,qM,qL,zai,d1]
  apply hK;clear hK K
  refine W.cond rfl (fun h2=>?_) (fun h2=>?_)
  ·try simp only[RL]at h2
   rw [if_pos (.inl m1)]at hrd
   refine W.r fun K hK=>?_
   obtain ⟨u,e,hue⟩:∃ u e,rdS f s (k+1)=(u,e):=⟨_,_,rfl⟩
   have hI:=ih (k+1) (by omega)
   unfold rdV at hI
   rw [hue]at hI hrd
   obtain ⟨cu,us,un,hus⟩:=zcn u
   simp only[hus]at hI
   simp(disch:=omega)only[↓RU,RV,RH,↓reduceIte,qE,reduceCtorEq,if_pos,w64,qN,↓RS,RG,qA,qM,qL,ty5,zab,zb6,zb7,zai,Int.toNat_zero,Nat.zero_mul,qZ,qM,Nat.zero_add,Nat.mul_one,List.getElem?_cons_zero,List.getElem?_cons_succ]
   refine zac.pc (hI) rfl (.inr rfl) ?_
   simp(disch:=omega)only[↓RU,RV,RH,↓reduceIte,qE,reduceCtorEq,if_pos,w64,qN,↓RS,RG,qA,qM,qL,ty5,zab,zb6,zb7,zai,Int.toNat_zero,Nat.zero_mul,qZ,qM,Nat.zero_add,Nat.mul_one,List.getElem?_cons_zero,List.getElem?_cons_succ]
   apply hK;clear hK K
   refine W.r fun K hK=>?_
   simp(disch:=omega)only[↓RU,RV,RH,↓reduceIte,qE,reduceCtorEq,if_pos,↓RS,RG,qA,qM,qL,ty5,zb6,zb7,zai,Int.toNat_zero,Nat.zero_mul,qZ,qM,Nat.zero_add,Nat.mul_one,List.getElem?_cons_zero,List.getElem?_cons_succ]
   apply hK;clear hK K
   refine W.ret ?_
   refine XThen.ret ?_
   refine Br rfl ?_
   rw [show rdV (f+1) s k = .tup [.agg (eS (.un c u)),.int .i64 e] by unfold rdV; rw [hrd]]
   rw [show eS (.un c u)=[eB c,.sl [eB cu,.sl us un] 1] by rw [eS,hus]]
   rfl
  try simp only[RL]at h2
  exact absurd h2 (by simp)
 ·skip
  have d1:((c.toNat:Int) == 62)=false:=by rw [beq_eq_false_iff_ne]; exact zbf (k:=62) (by assumption) (by decide)
  have d2:((c.toNat:Int) == 94)=true:=by rw [m1]; rfl
  simp(disch:=omega)only[↓RU,RV,RH,↓reduceIte,qE,reduceCtorEq,if_pos,w64,↓RS,RG,qA,qM,qL,zai,d1,d2]
  apply hK;clear hK K
  refine W.cond rfl (fun h2=>?_) (fun h2=>?_)
  ·try simp only[RL]at h2
   rw [if_pos (.inr m1)]at hrd
   refine W.r fun K hK=>?_
   obtain ⟨u,e,hue⟩:∃ u e,rdS f s (k+1)=(u,e):=⟨_,_,rfl⟩
   have hI:=ih (k+1) (by omega)
   unfold rdV at hI
   rw [hue]at hI hrd
   obtain ⟨cu,us,un,hus⟩:=zcn u
   simp only[hus]at hI
   simp(disch:=omega)only[↓RU,RV,RH,↓reduceIte,qE,reduceCtorEq,if_pos,w64,qN,↓RS,RG,qA,qM,qL,ty5,zab,zb6,zb7,zai,Int.toNat_zero,Nat.zero_mul,qZ,qM,Nat.zero_add,Nat.mul_one,List.getElem?_cons_zero,List.getElem?_cons_succ]
   refine zac.pc (hI) rfl (.inr rfl) ?_
   simp(disch:=omega)only[↓RU,RV,RH,↓reduceIte,qE,reduceCtorEq,if_pos,w64,qN,↓RS,RG,qA,qM,qL,ty5,zab,zb6,zb7,zai,Int.toNat_zero,Nat.zero_mul,qZ,qM,Nat.zero_add,Nat.mul_one,List.getElem?_cons_zero,List.getElem?_cons_succ]
   apply hK;clear hK K
   refine W.r fun K hK=>?_
   simp(disch:=omega)only[↓RU,RV,RH,↓reduceIte,qE,reduceCtorEq,if_pos,↓RS,RG,qA,qM,qL,ty5,zb6,zb7,zai,Int.toNat_zero,Nat.zero_mul,qZ,qM,Nat.zero_add,Nat.mul_one,List.getElem?_cons_zero,List.getElem?_cons_succ]
   apply hK;clear hK K
   refine W.ret ?_
   refine XThen.ret ?_
   refine Br rfl ?_
   rw [show rdV (f+1) s k = .tup [.agg (eS (.un c u)),.int .i64 e] by unfold rdV; rw [hrd]]
   rw [show eS (.un c u)=[eB c,.sl [eB cu,.sl us un] 1] by rw [eS,hus]]
   rfl
  try simp only[RL]at h2
  exact absurd h2 (by simp)
 skip
 have m2:c≠UInt8.ofNat 94:=m1
 have d1:((c.toNat:Int) == 62)=false:=by rw [beq_eq_false_iff_ne]; exact zbf (k:=62) (by assumption) (by decide)
 have d2:((c.toNat:Int) == 94)=false:=by rw [beq_eq_false_iff_ne]; exact zbf (k:=94) (by assumption) (by decide)
 simp(disch:=omega)only[↓RU,RV,RH,↓reduceIte,qE,reduceCtorEq,if_pos,w64,↓RS,RG,qA,qM,qL,zai,d1,d2]
 apply hK;clear hK K
 refine W.cond rfl (fun h2=>?_) (fun h2=>?_)
 ·try simp only[RL]at h2
  exact absurd h2 (by simp)
 try simp only[RL]at h2
 rw [if_neg (fun e=>e.elim m0 m1)]at hrd
 refine W.skip ?_
 refine xn ?_
 refine W.seq ?_
 refine W.r fun K hK=>?_
 simp(disch:=omega)only[↓RU,RV,RH,↓reduceIte,qE,reduceCtorEq,if_pos,w64,↓RS,RG,qA,qM,qL,zai]
 apply hK;clear hK K
 refine W.cond rfl (fun h3=>?_) (fun h3=>?_)
 ·try simp only[RL]at h3
  have hc4:¬ c=40:=fun e=>h3 (by rw [e]; rfl)
  have hno:rdS (f+1) s k=(.o,0):=by rw [hrd,if_neg hc4]
  refine W.r fun K hK=>?_
  simp(disch:=omega)only[↓RU,RV,RH,↓reduceIte,qE,reduceCtorEq,if_pos,↓RS,RG,qA,qM,qL,ty5,zb6,zb7,zai]
  apply hK;clear hK K
  refine W.ret ?_
  refine XThen.ret ?_
  refine Br rfl ?_
  rw [show rdV (f+1) s k = .tup [.agg (eS .o),.int .i64 0] by unfold rdV; rw [hno]; rfl]
  rfl
 try simp only[RL]at h3
 have hc4:c=40:=u8i (k:=40) (by omega) (by decide)
 rw [if_pos hc4]at hrd
 refine W.skip ?_
 refine xn ?_
 refine W.r fun K hK=>?_
 obtain ⟨u,e,hue⟩:∃ u e,rdS f s (k+1)=(u,e):=⟨_,_,rfl⟩
 have hge:=z78 f s (k+1)
 have hI:=ih (k+1) (by omega)
 unfold rdV at hI
 rw [hue]at hI hrd hge
 obtain ⟨cu,us,un,hus⟩:=zcn u
 simp only[hus]at hI
 simp only at hrd hge
 simp(disch:=omega)only[↓RU,RV,RH,↓reduceIte,qE,reduceCtorEq,if_pos,w64,qN,↓RS,RG,qA,qM,qL,ty5,zab,zb6,zb7,zai,Int.toNat_zero,Nat.zero_mul,qZ,qM,Nat.zero_add,Nat.mul_one,List.getElem?_cons_zero,List.getElem?_cons_succ]
 refine zac.pc (hI) rfl (.inr rfl) ?_
 simp(disch:=omega)only[↓RU,RV,RH,↓reduceIte,qE,reduceCtorEq,if_pos,w64,qN,↓RS,RG,qA,qM,qL,ty5,zab,zb6,zb7,zai,Int.toNat_zero,Nat.zero_mul,qZ,qM,Nat.zero_add,Nat.mul_one,List.getElem?_cons_zero,List.getElem?_cons_succ]
 apply hK;clear hK K
 refine W.seq ?_
 refine W.r fun K hK=>?_
 rcases (show e=0∨(e≠0∧s.length≤e)∨(e≠0∧e<s.length∧∃ m,s[e]?=some m∧(m=124∨(m≠124∧m=45)∨(m≠124∧m≠45))) by
  by_cases e0:e=0
  ·exact .inl e0
  by_cases e1:e<s.length
  ·obtain ⟨m,hm,-⟩:=zaf e1
   exact .inr (.inr ⟨e0,e1,m,hm,by by_cases x:m=124 <;> by_cases y:m=45 <;> simp [x,y]⟩)
  exact .inr (.inl ⟨e0,by omega⟩)) with e0 | ⟨e0,el⟩ | ⟨e0,el,m,hm,m1 | ⟨m0,m1⟩ | ⟨m0,m1⟩⟩
 ·skip
  have ze:((e:Int) == 0)=true:=by rw [beq_iff_eq]; omega
  have hno:rdS (f+1) s k=(.o,0):=by rw [hrd,if_pos e0]
  simp(disch:=omega)only[↓RU,RV,RH,↓reduceIte,qE,reduceCtorEq,if_pos,w64,↓RS,RG,qA,qM,qL,zab,zaa,zai,ze]
  apply hK;clear hK K
  refine W.cond rfl (fun h4=>?_) (fun h4=>?_)
  ·try simp only[RL]at h4
   refine W.r fun K hK=>?_
   simp(disch:=omega)only[↓RU,RV,RH,↓reduceIte,qE,reduceCtorEq,if_pos,↓RS,RG,qA,qM,qL,ty5,zb6,zb7,zai]
   apply hK;clear hK K
   refine W.ret ?_
   refine XThen.ret ?_
   refine Br rfl ?_
   rw [show rdV (f+1) s k = .tup [.agg (eS .o),.int .i64 0] by unfold rdV; rw [hno]; rfl]
   rfl
  try simp only[RL]at h4
  exact absurd h4 (by simp)
 ·skip
  have ze:((e:Int) == 0)=false:=by rw [beq_eq_false_iff_ne]; omega
  have ge:decide ((e:Int) ≥ (s.length:Int))=true:=decide_eq_true (by omega)
  have hno:rdS (f+1) s k=(.o,0):=by rw [hrd,if_neg e0,List.getElem?_eq_none el]
  simp(disch:=omega)only[↓RU,RV,RH,↓reduceIte,qE,reduceCtorEq,if_pos,w64,↓RS,RG,qA,qM,qL,zab,zaa,zai,ze,ge]
  apply hK;clear hK K
  refine W.cond rfl (fun h4=>?_) (fun h4=>?_)
  ·try simp only[RL]at h4
   refine W.r fun K hK=>?_
   simp(disch:=omega)only[↓RU,RV,RH,↓reduceIte,qE,reduceCtorEq,if_pos,↓RS,RG,qA,qM,qL,ty5,zb6,zb7,zai]
   apply hK;clear hK K
   refine W.ret ?_
   refine XThen.ret ?_
   refine Br rfl ?_
   rw [show rdV (f+1) s k = .tup [.agg (eS .o),.int .i64 0] by unfold rdV; rw [hno]; rfl]
   rfl
  try simp only[RL]at h4
  exact absurd h4 (by simp)
 ·skip
  have ze:((e:Int) == 0)=false:=by rw [beq_eq_false_iff_ne]; omega
  have ge:decide ((e:Int) ≥ (s.length:Int))=false:=decide_eq_false (by omega)
  have n1:((m.toNat:Int) != 124)=false:=by rw [m1]; rfl
  rw [if_neg e0,hm]at hrd
  simp only at hrd
  rw [if_pos (.inl m1)]at hrd
  simp(disch:=omega)only[↓RU,RV,RH,↓reduceIte,qE,reduceCtorEq,if_pos,w64,↓RS,RG,qA,qM,qL,zab,zaa,zai,ze,ge,hm,n1]
  apply hK;clear hK K
  refine W.cond rfl (fun h4=>?_) (fun h4=>?_)
  ·try simp only[RL]at h4
   exact absurd h4 (by simp)
  try simp only[RL]at h4
  refine W.skip ?_
  refine xn ?_
  refine W.r fun K hK=>?_
  obtain ⟨u2,e2,hue2⟩:∃ u2 e2,rdS f s (e+1)=(u2,e2):=⟨_,_,rfl⟩
  have hI2:=ih (e+1) (by omega)
  unfold rdV at hI2
  rw [hue2]at hI2 hrd
  obtain ⟨cv,vs,vn,hvs⟩:=zcn u2
  simp only[hvs]at hI2
  simp only at hrd
  simp(disch:=omega)only[↓RU,RV,RH,↓reduceIte,qE,reduceCtorEq,if_pos,w64,qN,↓RS,RG,qA,qM,qL,ty5,zab,zb6,zb7,zai,Int.toNat_zero,Nat.zero_mul,qZ,qM,Nat.zero_add,Nat.mul_one,List.getElem?_cons_zero,List.getElem?_cons_succ]
  refine zac.pc (hI2) rfl (.inr rfl) ?_
  simp(disch:=omega)only[↓RU,RV,RH,↓reduceIte,qE,reduceCtorEq,if_pos,w64,qN,↓RS,RG,qA,qM,qL,ty5,zab,zb6,zb7,zai,Int.toNat_zero,Nat.zero_mul,qZ,qM,Nat.zero_add,Nat.mul_one,List.getElem?_cons_zero,List.getElem?_cons_succ]
  apply hK;clear hK K
  refine W.seq ?_
  refine W.r fun K hK=>?_
  rcases (show e2=0∨(e2≠0∧s.length≤e2)∨(e2≠0∧e2<s.length∧∃ x,s[e2]?=some x∧(x=41∨x≠41)) by
   by_cases e0:e2=0
   ·exact .inl e0
   by_cases e1:e2<s.length
   ·obtain ⟨m,hm,-⟩:=zaf e1
    exact .inr (.inr ⟨e0,e1,m,hm,Classical.em _⟩)
   exact .inr (.inl ⟨e0,by omega⟩)) with f0 | ⟨f0,fl⟩ | ⟨f0,fl,x,hx,x1 | x1⟩
  ·skip
   have ze2:((e2:Int) == 0)=true:=by rw [beq_iff_eq]; omega
   have hno:rdS (f+1) s k=(.o,0):=by rw [hrd,if_pos f0]
   simp(disch:=omega)only[↓RU,RV,RH,↓reduceIte,qE,reduceCtorEq,if_pos,w64,↓RS,RG,qA,qM,qL,zab,zaa,zai,ze2]
   apply hK;clear hK K
   refine W.cond rfl (fun h5=>?_) (fun h5=>?_)
   ·try simp only[RL]at h5
    refine W.r fun K hK=>?_
    simp(disch:=omega)only[↓RU,RV,RH,↓reduceIte,qE,reduceCtorEq,if_pos,↓RS,RG,qA,qM,qL,ty5,zb6,zb7,zai]
    apply hK;clear hK K
    refine W.ret ?_
    refine XThen.ret ?_
    refine Br rfl ?_
    rw [show rdV (f+1) s k = .tup [.agg (eS .o),.int .i64 0] by unfold rdV; rw [hno]; rfl]
    rfl
   try simp only[RL]at h5
   exact absurd h5 (by simp)
  ·skip
   have ze2:((e2:Int) == 0)=false:=by rw [beq_eq_false_iff_ne]; omega
   have ge2:decide ((e2:Int) ≥ (s.length:Int))=true:=decide_eq_true (by omega)
   have hno:rdS (f+1) s k=(.o,0):=by rw [hrd,if_neg f0,List.getElem?_eq_none fl]
   simp(disch:=omega)only[↓RU,RV,RH,↓reduceIte,qE,reduceCtorEq,if_pos,w64,↓RS,RG,qA,qM,qL,zab,zaa,zai,ze2,ge2]
   apply hK;clear hK K
   refine W.cond rfl (fun h5=>?_) (fun h5=>?_)
   ·try simp only[RL]at h5
    refine W.r fun K hK=>?_
    simp(disch:=omega)only[↓RU,RV,RH,↓reduceIte,qE,reduceCtorEq,if_pos,↓RS,RG,qA,qM,qL,ty5,zb6,zb7,zai]
    apply hK;clear hK K
    refine W.ret ?_
    refine XThen.ret ?_
    refine Br rfl ?_
    rw [show rdV (f+1) s k = .tup [.agg (eS .o),.int .i64 0] by unfold rdV; rw [hno]; rfl]
    rfl
   try simp only[RL]at h5
   exact absurd h5 (by simp)
  ·skip
   have ze2:((e2:Int) == 0)=false:=by rw [beq_eq_false_iff_ne]; omega
   have ge2:decide ((e2:Int) ≥ (s.length:Int))=false:=decide_eq_false (by omega)
   have n3:((x.toNat:Int) != 41)=false:=by rw [x1]; rfl
   rw [if_neg f0,hx]at hrd
   simp only at hrd
   rw [if_pos x1]at hrd
   simp(disch:=omega)only[↓RU,RV,RH,↓reduceIte,qE,reduceCtorEq,if_pos,w64,↓RS,RG,qA,qM,qL,zab,zaa,zai,ze2,ge2,hx,n3]
   apply hK;clear hK K
   refine W.cond rfl (fun h5=>?_) (fun h5=>?_)
   ·try simp only[RL]at h5
    exact absurd h5 (by simp)
   try simp only[RL]at h5
   refine W.skip ?_
   refine xn ?_
   refine W.seq_draw_p [0,1,2,3,4,7,8,5,6,9,10] [_,_,_,_,_,_,_,_,_,_,_] rfl (by kernel_rfl) fun K hK=>?_
   simp(disch:=omega)only[↓RU,RV,RH,↓reduceIte,qE,reduceCtorEq,if_pos,w64,↓RS,RG,qA,qM,qL,ty5,zab,zb6,zaa,zb7,zai,Int.toNat_zero,Nat.zero_mul,qZ,qM,Nat.zero_add,Nat.mul_one,List.getElem?_cons_zero,List.getElem?_cons_succ,hm]
   apply hK;clear hK K
   refine W.ret ?_
   refine Br rfl ?_
   rw [show rdV (f+1) s k = .tup [.agg (eS (.bin m u u2)),.int .i64 ((e2:Int)+1)] by unfold rdV; rw [hrd]; show PV.tup [.agg (eS (.bin m u u2)),.int .i64 ((e2+1:Nat):Int)]=_; rw [Int.natCast_add]; rfl]
   rw [show eS (.bin m u u2)=[eB m,.sl [eB cu,.sl us un,eB cv,.sl vs vn] 2] by rw [eS,hus,hvs]; rfl]
   rfl
  skip
  have ze2:((e2:Int) == 0)=false:=by rw [beq_eq_false_iff_ne]; omega
  have ge2:decide ((e2:Int) ≥ (s.length:Int))=false:=decide_eq_false (by omega)
  have n3:((x.toNat:Int) != 41)=true:=by rw [bne_iff_ne]; exact zbf (k:=41) (by assumption) (by decide)
  have hno:rdS (f+1) s k=(.o,0):=by rw [hrd,if_neg f0,hx]; simp only; rw [if_neg x1]
  simp(disch:=omega)only[↓RU,RV,RH,↓reduceIte,qE,reduceCtorEq,if_pos,w64,↓RS,RG,qA,qM,qL,zab,zaa,zai,ze2,ge2,hx,n3]
  apply hK;clear hK K
  refine W.cond rfl (fun h5=>?_) (fun h5=>?_)
  ·try simp only[RL]at h5
   refine W.r fun K hK=>?_
   simp(disch:=omega)only[↓RU,RV,RH,↓reduceIte,qE,reduceCtorEq,if_pos,↓RS,RG,qA,qM,qL,ty5,zb6,zb7,zai]
   apply hK;clear hK K
   refine W.ret ?_
   refine XThen.ret ?_
   refine Br rfl ?_
   rw [show rdV (f+1) s k = .tup [.agg (eS .o),.int .i64 0] by unfold rdV; rw [hno]; rfl]
   rfl
  try simp only[RL]at h5
  exact absurd h5 (by simp)
 ·skip
  have ze:((e:Int) == 0)=false:=by rw [beq_eq_false_iff_ne]; omega
  have ge:decide ((e:Int) ≥ (s.length:Int))=false:=decide_eq_false (by omega)
  have n1:((m.toNat:Int) != 124)=true:=by rw [bne_iff_ne]; exact zbf (k:=124) (by assumption) (by decide)
  have n2:((m.toNat:Int) != 45)=false:=by rw [m1]; rfl
  rw [if_neg e0,hm]at hrd
  simp only at hrd
  rw [if_pos (.inr m1)]at hrd
  simp(disch:=omega)only[↓RU,RV,RH,↓reduceIte,qE,reduceCtorEq,if_pos,w64,↓RS,RG,qA,qM,qL,zab,zaa,zai,ze,ge,hm,n1,n2]
  apply hK;clear hK K
  refine W.cond rfl (fun h4=>?_) (fun h4=>?_)
  ·try simp only[RL]at h4
   exact absurd h4 (by simp)
  try simp only[RL]at h4
  refine W.skip ?_
  refine xn ?_
  refine W.r fun K hK=>?_
  obtain ⟨u2,e2,hue2⟩:∃ u2 e2,rdS f s (e+1)=(u2,e2):=⟨_,_,rfl⟩
  have hI2:=ih (e+1) (by omega)
  unfold rdV at hI2
  rw [hue2]at hI2 hrd
  obtain ⟨cv,vs,vn,hvs⟩:=zcn u2
  simp only[hvs]at hI2
  simp only at hrd
  simp(disch:=omega)only[↓RU,RV,RH,↓reduceIte,qE,reduceCtorEq,if_pos,w64,qN,↓RS,RG,qA,qM,qL,ty5,zab,zb6,zb7,zai,Int.toNat_zero,Nat.zero_mul,qZ,qM,Nat.zero_add,Nat.mul_one,List.getElem?_cons_zero,List.getElem?_cons_succ]
  refine zac.pc (hI2) rfl (.inr rfl) ?_
  simp(disch:=omega)only[↓RU,RV,RH,↓reduceIte,qE,reduceCtorEq,if_pos,w64,qN,↓RS,RG,qA,qM,qL,ty5,zab,zb6,zb7,zai,Int.toNat_zero,Nat.zero_mul,qZ,qM,Nat.zero_add,Nat.mul_one,List.getElem?_cons_zero,List.getElem?_cons_succ]
  apply hK;clear hK K
  refine W.seq ?_
  refine W.r fun K hK=>?_
  rcases (show e2=0∨(e2≠0∧s.length≤e2)∨(e2≠0∧e2<s.length∧∃ x,s[e2]?=some x∧(x=41∨x≠41)) by
   by_cases e0:e2=0
   ·exact .inl e0
   by_cases e1:e2<s.length
   ·obtain ⟨m,hm,-⟩:=zaf e1
    exact .inr (.inr ⟨e0,e1,m,hm,Classical.em _⟩)
   exact .inr (.inl ⟨e0,by omega⟩)) with f0 | ⟨f0,fl⟩ | ⟨f0,fl,x,hx,x1 | x1⟩
  ·skip
   have ze2:((e2:Int) == 0)=true:=by rw [beq_iff_eq]; omega
   have hno:rdS (f+1) s k=(.o,0):=by rw [hrd,if_pos f0]
   simp(disch:=omega)only[↓RU,RV,RH,↓reduceIte,qE,reduceCtorEq,if_pos,w64,↓RS,RG,qA,qM,qL,zab,zaa,zai,ze2]
   apply hK;clear hK K
   refine W.cond rfl (fun h5=>?_) (fun h5=>?_)
   ·try simp only[RL]at h5
    refine W.r fun K hK=>?_
    simp(disch:=omega)only[↓RU,RV,RH,↓reduceIte,qE,reduceCtorEq,if_pos,↓RS,RG,qA,qM,qL,ty5,zb6,zb7,zai]
    apply hK;clear hK K
    refine W.ret ?_
    refine XThen.ret ?_
    refine Br rfl ?_
    rw [show rdV (f+1) s k = .tup [.agg (eS .o),.int .i64 0] by unfold rdV; rw [hno]; rfl]
    rfl
   try simp only[RL]at h5
   exact absurd h5 (by simp)
  ·skip
   have ze2:((e2:Int) == 0)=false:=by rw [beq_eq_false_iff_ne]; omega
   have ge2:decide ((e2:Int) ≥ (s.length:Int))=true:=decide_eq_true (by omega)
   have hno:rdS (f+1) s k=(.o,0):=by rw [hrd,if_neg f0,List.getElem?_eq_none fl]
   simp(disch:=omega)only[↓RU,RV,RH,↓reduceIte,qE,reduceCtorEq,if_pos,w64,↓RS,RG,qA,qM,qL,zab,zaa,zai,ze2,ge2]
   apply hK;clear hK K
   refine W.cond rfl (fun h5=>?_) (fun h5=>?_)
   ·try simp only[RL]at h5
    refine W.r fun K hK=>?_
    simp(disch:=omega)only[↓RU,RV,RH,↓reduceIte,qE,reduceCtorEq,if_pos,↓RS,RG,qA,qM,qL,ty5,zb6,zb7,zai]
    apply hK;clear hK K
    refine W.ret ?_
    refine XThen.ret ?_
    refine Br rfl ?_
    rw [show rdV (f+1) s k = .tup [.agg (eS .o),.int .i64 0] by unfold rdV; rw [hno]; rfl]
    rfl
   try simp only[RL]at h5
   exact absurd h5 (by simp)
  ·skip
   have ze2:((e2:Int) == 0)=false:=by rw [beq_eq_false_iff_ne]; omega
   have ge2:decide ((e2:Int) ≥ (s.length:Int))=false:=decide_eq_false (by omega)
   have n3:((x.toNat:Int) != 41)=false:=by rw [x1]; rfl
   rw [if_neg f0,hx]at hrd
   simp only at hrd
   rw [if_pos x1]at hrd
   simp(disch:=omega)only[↓RU,RV,RH,↓reduceIte,qE,reduceCtorEq,if_pos,w64,↓RS,RG,qA,qM,qL,zab,zaa,zai,ze2,ge2,hx,n3]
   apply hK;clear hK K
   refine W.cond rfl (fun h5=>?_) (fun h5=>?_)
   ·try simp only[RL]at h5
    exact absurd h5 (by simp)
   try simp only[RL]at h5
   refine W.skip ?_
   refine xn ?_
   refine W.seq_draw_p [0,1,2,3,4,7,8,5,6,9,10] [_,_,_,_,_,_,_,_,_,_,_] rfl (by kernel_rfl) fun K hK=>?_
   simp(disch:=omega)only[↓RU,RV,RH,↓reduceIte,qE,reduceCtorEq,if_pos,w64,↓RS,RG,qA,qM,qL,ty5,zab,zb6,zaa,zb7,zai,Int.toNat_zero,Nat.zero_mul,qZ,qM,Nat.zero_add,Nat.mul_one,List.getElem?_cons_zero,List.getElem?_cons_succ,hm]
   apply hK;clear hK K
   refine W.ret ?_
   refine Br rfl ?_
   rw [show rdV (f+1) s k = .tup [.agg (eS (.bin m u u2)),.int .i64 ((e2:Int)+1)] by unfold rdV; rw [hrd]; show PV.tup [.agg (eS (.bin m u u2)),.int .i64 ((e2+1:Nat):Int)]=_; rw [Int.natCast_add]; rfl]
   rw [show eS (.bin m u u2)=[eB m,.sl [eB cu,.sl us un,eB cv,.sl vs vn] 2] by rw [eS,hus,hvs]; rfl]
   rfl
  skip
  have ze2:((e2:Int) == 0)=false:=by rw [beq_eq_false_iff_ne]; omega
  have ge2:decide ((e2:Int) ≥ (s.length:Int))=false:=decide_eq_false (by omega)
  have n3:((x.toNat:Int) != 41)=true:=by rw [bne_iff_ne]; exact zbf (k:=41) (by assumption) (by decide)
  have hno:rdS (f+1) s k=(.o,0):=by rw [hrd,if_neg f0,hx]; simp only; rw [if_neg x1]
  simp(disch:=omega)only[↓RU,RV,RH,↓reduceIte,qE,reduceCtorEq,if_pos,w64,↓RS,RG,qA,qM,qL,zab,zaa,zai,ze2,ge2,hx,n3]
  apply hK;clear hK K
  refine W.cond rfl (fun h5=>?_) (fun h5=>?_)
  ·try simp only[RL]at h5
   refine W.r fun K hK=>?_
   simp(disch:=omega)only[↓RU,RV,RH,↓reduceIte,qE,reduceCtorEq,if_pos,↓RS,RG,qA,qM,qL,ty5,zb6,zb7,zai]
   apply hK;clear hK K
   refine W.ret ?_
   refine XThen.ret ?_
   refine Br rfl ?_
   rw [show rdV (f+1) s k = .tup [.agg (eS .o),.int .i64 0] by unfold rdV; rw [hno]; rfl]
   rfl
  try simp only[RL]at h5
  exact absurd h5 (by simp)
 skip
 have ze:((e:Int) == 0)=false:=by rw [beq_eq_false_iff_ne]; omega
 have ge:decide ((e:Int) ≥ (s.length:Int))=false:=decide_eq_false (by omega)
 have m2:m≠UInt8.ofNat 45:=m1
 have n1:((m.toNat:Int) != 124)=true:=by rw [bne_iff_ne]; exact zbf (k:=124) (by assumption) (by decide)
 have n2:((m.toNat:Int) != 45)=true:=by rw [bne_iff_ne]; exact zbf (k:=45) (by assumption) (by decide)
 have hno:rdS (f+1) s k=(.o,0):=by rw [hrd,if_neg e0,hm]; simp only; rw [if_neg (fun x=>x.elim m0 m1)]
 simp(disch:=omega)only[↓RU,RV,RH,↓reduceIte,qE,reduceCtorEq,if_pos,w64,↓RS,RG,qA,qM,qL,zab,zaa,zai,ze,ge,hm,n1,n2]
 apply hK;clear hK K
 refine W.cond rfl (fun h4=>?_) (fun h4=>?_)
 ·try simp only[RL]at h4
  refine W.r fun K hK=>?_
  simp(disch:=omega)only[↓RU,RV,RH,↓reduceIte,qE,reduceCtorEq,if_pos,↓RS,RG,qA,qM,qL,ty5,zb6,zb7,zai]
  apply hK;clear hK K
  refine W.ret ?_
  refine XThen.ret ?_
  refine Br rfl ?_
  rw [show rdV (f+1) s k = .tup [.agg (eS .o),.int .i64 0] by unfold rdV; rw [hno]; rfl]
  rfl
 try simp only[RL]at h4
 exact absurd h4 (by simp)

theorem zxm {s:Txt} (hs:s.length≤1048576):∀ (f k:Nat),s.length<f+k→k≤s.length+1→PC Tryz.prog 48 [.str s,.int .i64 k] (rdV f s k) false:=by
 intro f
 induction f with
 | zero =>
  intro k hk hk2
  have e:rdV 0 s k=rdV 1 s k:=by
   unfold rdV
   rw [show rdS 1 s k=(.o,0) by simp only[rdS]; rw [List.getElem?_eq_none (by omega)]]; rfl
  rw [e]
  exact zml hs (f:=0) (by omega) hk2 fun k2 h2=>absurd h2.2.2 (by omega)
 | succ f ih=>intro k hk hk2; exact zml hs hk hk2 fun k2 h2=>ih k2 h2.1 h2.2.1
def ofU (s:Txt):Tm:=if s.length>60∨s.count 111>7 then .o else (rdS (s.length+1) s 0).1
theorem z72 {s:Txt} {t:Tm} (h:ofT s=some t):ofU s=t:=by
 obtain ⟨h1,h2,h3,h4,h5⟩:=zr9 h
 unfold ofU
 rw [if_neg (by omega)]
 have:=z4z (s.length+1) s 0
 rw [List.drop_zero,h5]at this
 exact this.1
theorem zql {s:Txt} (h1:s.length≤60) (h2:s.count 111≤7):(ofT s).isSome=(decide (0<(rdS (s.length+1) s 0).2) && decide ((rdS (s.length+1) s 0).2=s.length)):=by
 have h:=z4z (s.length+1) s 0
 rw [List.drop_zero]at h
 unfold ofT
 rw [if_neg (by omega)]
 cases hr:rd (s.length+1) s with
 | none=>rw [hr]at h; simp only at h ⊢; rw [h]; rfl
 | some q =>
  obtain ⟨t,r⟩:=q
  rw [hr]at h
  simp only at h
  obtain ⟨-,k1,k2,k3⟩:=h
  rw [decide_eq_true (show 0<(rdS (s.length+1) s 0).2 by omega),Bool.true_and]
  cases r with
  | nil =>
   have:=congrArg List.length k3
   rw [List.length_drop,List.length_nil]at this
   rw [decide_eq_true (by omega)]; rfl
  | cons c r =>
   have:=congrArg List.length k3
   rw [List.length_drop,List.length_cons]at this
   rw [decide_eq_false (by omega)]; rfl
def ofV (s:Txt):PV := .tup [.agg (eS (ofU s)),.bool (ofT s).isSome]
theorem z2x (s:Txt) (hs:s.length≤1048576):PC Tryz.prog 23 [.str s] (ofV s) false:=by
 refine PC.of ⟨Tryz.func23,by kernel_rfl,rfl,by kernel_rfl⟩ zal mixed (by show 1≤Tryz.f23.ntmps; decide) ?_
 refine W.r fun K hK=>?_
 simp(disch:=omega)only[↓RU,RV,RH,↓reduceIte,qE,reduceCtorEq,if_pos,↓RS,RG,qA,qM,qL,ty5,zb6,zb7,zai]
 apply hK;clear hK K
 refine W.seq ?_
 refine W.r fun K hK=>?_
 rcases (show 60<s.length∨(s.length≤60∧7<s.count 111)∨(s.length≤60∧s.count 111≤7) by omega) with q1 | ⟨q1,q2⟩ | ⟨q1,q2⟩
 ·skip
  have d1:decide ((s.length:Int)>60)=true:=decide_eq_true (by omega)
  simp(disch:=omega)only[↓RU,RV,RH,↓reduceIte,qE,reduceCtorEq,if_pos,w64,qN,↓RS,RG,qA,qM,qL,zab,zaa,d1]
  apply hK;clear hK K
  refine W.cond rfl (fun h0=>?_) (fun h0=>?_)
  ·try simp only[RL]at h0
   have qf:s.length>60∨s.count 111>7 := .inl q1
   refine W.r fun K hK=>?_
   simp(disch:=omega)only[↓RU,RV,RH,↓reduceIte,qE,reduceCtorEq,if_pos,↓RS,RG,qA,qM,qL,ty5,zb6,zb7,zai]
   apply hK;clear hK K
   refine W.ret ?_
   refine XThen.ret ?_
   refine Br rfl ?_
   rw [show ofV s = .tup [.agg (eS .o),.bool false] by unfold ofV ofU; rw [if_pos qf,zqk qf]; rfl]
   rfl
  try simp only[RL]at h0
  exact absurd h0 (by simp)
 ·skip
  have d1:decide ((s.length:Int)>60)=false:=decide_eq_false (by omega)
  have d2:decide (((s.count 111:Nat):Int)>7)=true:=decide_eq_true (by omega)
  simp(disch:=omega)only[↓RU,RV,RH,↓reduceIte,qE,reduceCtorEq,if_pos,w64,qN,↓RS,RG,qA,qM,qL,zab,zaa,d1,d2]
  refine zac.pc (zmm s hs) rfl (.inl rfl) ?_
  simp(disch:=omega)only[↓RU,RV,RH,↓reduceIte,qE,reduceCtorEq,if_pos,w64,qN,↓RS,RG,qA,qM,qL,zab,zaa,d1,d2]
  apply hK;clear hK K
  refine W.cond rfl (fun h0=>?_) (fun h0=>?_)
  ·try simp only[RL]at h0
   have qf:s.length>60∨s.count 111>7 := .inr q2
   refine W.r fun K hK=>?_
   simp(disch:=omega)only[↓RU,RV,RH,↓reduceIte,qE,reduceCtorEq,if_pos,↓RS,RG,qA,qM,qL,ty5,zb6,zb7,zai]
   apply hK;clear hK K
   refine W.ret ?_
   refine XThen.ret ?_
   refine Br rfl ?_
   rw [show ofV s = .tup [.agg (eS .o),.bool false] by unfold ofV ofU; rw [if_pos qf,zqk qf]; rfl]
   rfl
  try simp only[RL]at h0
  exact absurd h0 (by simp)
 skip
 have d1:decide ((s.length:Int)>60)=false:=decide_eq_false (by omega)
 have d2:decide (((s.count 111:Nat):Int)>7)=false:=decide_eq_false (by omega)
 simp(disch:=omega)only[↓RU,RV,RH,↓reduceIte,qE,reduceCtorEq,if_pos,w64,qN,↓RS,RG,qA,qM,qL,zab,zaa,d1,d2]
 refine zac.pc (zmm s hs) rfl (.inl rfl) ?_
 simp(disch:=omega)only[↓RU,RV,RH,↓reduceIte,qE,reduceCtorEq,if_pos,w64,qN,↓RS,RG,qA,qM,qL,zab,zaa,d1,d2]
 apply hK;clear hK K
 refine W.cond rfl (fun h0=>?_) (fun h0=>?_)
 ·try simp only[RL]at h0
  exact absurd h0 (by simp)
 try simp only[RL]at h0
 have qn:¬ (s.length>60∨s.count 111>7):=by omega
 refine W.skip ?_
 refine xn ?_
 refine W.r fun K hK=>?_
 obtain ⟨u,e,hue⟩:∃ u e,rdS (s.length+1) s 0=(u,e):=⟨_,_,rfl⟩
 have hI:PC Tryz.prog 48 [.str s,.int .i64 0] _ false:=zxm hs (s.length+1) 0 (by omega) (by omega)
 unfold rdV at hI
 rw [hue]at hI
 obtain ⟨cu,us,un,hus⟩:=zcn u
 simp only[hus]at hI
 simp(disch:=omega)only[↓RU,RV,RH,↓reduceIte,qE,reduceCtorEq,if_pos,qN,↓RS,RG,qA,qM,qL,ty5,zb6,zb7,zai,Int.toNat_zero,Nat.zero_mul,qZ,qM,Nat.zero_add,Nat.mul_one,List.getElem?_cons_zero,List.getElem?_cons_succ]
 refine zac.pc (hI) rfl (.inr rfl) ?_
 simp(disch:=omega)only[↓RU,RV,RH,↓reduceIte,qE,reduceCtorEq,if_pos,qN,↓RS,RG,qA,qM,qL,ty5,zb6,zb7,zai,Int.toNat_zero,Nat.zero_mul,qZ,qM,Nat.zero_add,Nat.mul_one,List.getElem?_cons_zero,List.getElem?_cons_succ]
 apply hK;clear hK K
 refine W.r fun K hK=>?_
 rcases (show e=0∨(0<e∧e=s.length)∨(0<e∧e≠s.length) by omega) with e0 | ⟨e0,e1⟩ | ⟨e0,e1⟩
 ·skip
  have ze:decide ((e:Int)>0)=false:=decide_eq_false (by omega)
  have hbb:(decide (0<e) && decide (e=s.length))=false:=by rw [decide_eq_false (by omega)]; rfl
  simp(disch:=omega)only[↓RU,RV,RH,↓reduceIte,qE,reduceCtorEq,if_pos,w64,↓RS,RG,qA,qM,qL,ty5,zab,zb6,zaa,zb7,zai,Int.toNat_zero,Nat.zero_mul,qZ,qM,Nat.zero_add,Nat.mul_one,List.getElem?_cons_zero,List.getElem?_cons_succ,ze]
  apply hK;clear hK K
  refine W.ret ?_
  refine Br rfl ?_
  rw [show ofV s = .tup [.agg [eB cu,.sl us un],.bool false] by unfold ofV ofU; rw [if_neg qn,zql q1 q2,hue]; simp only[hbb]; rw [hus]]
  rfl
 ·skip
  have ze:decide ((e:Int)>0)=true:=decide_eq_true (by omega)
  have f1:((e:Int) == (s.length:Int))=true:=by rw [beq_iff_eq]; omega
  have hbb:(decide (0<e) && decide (e=s.length))=true:=by rw [decide_eq_true e0,decide_eq_true e1]; rfl
  simp(disch:=omega)only[↓RU,RV,RH,↓reduceIte,qE,reduceCtorEq,if_pos,w64,↓RS,RG,qA,qM,qL,ty5,zab,zb6,zaa,zb7,zai,Int.toNat_zero,Nat.zero_mul,qZ,qM,Nat.zero_add,Nat.mul_one,List.getElem?_cons_zero,List.getElem?_cons_succ,ze,f1]
  apply hK;clear hK K
  refine W.ret ?_
  refine Br rfl ?_
  rw [show ofV s = .tup [.agg [eB cu,.sl us un],.bool true] by unfold ofV ofU; rw [if_neg qn,zql q1 q2,hue]; simp only[hbb]; rw [hus]]
  rfl
 skip
 have ze:decide ((e:Int)>0)=true:=decide_eq_true (by omega)
 have f1:((e:Int) == (s.length:Int))=false:=by rw [beq_eq_false_iff_ne]; omega
 have hbb:(decide (0<e) && decide (e=s.length))=false:=by rw [decide_eq_false e1,Bool.and_false]
 simp(disch:=omega)only[↓RU,RV,RH,↓reduceIte,qE,reduceCtorEq,if_pos,w64,↓RS,RG,qA,qM,qL,ty5,zab,zb6,zaa,zb7,zai,Int.toNat_zero,Nat.zero_mul,qZ,qM,Nat.zero_add,Nat.mul_one,List.getElem?_cons_zero,List.getElem?_cons_succ,ze,f1]
 apply hK;clear hK K
 refine W.ret ?_
 refine Br rfl ?_
 rw [show ofV s = .tup [.agg [eB cu,.sl us un],.bool false] by unfold ofV ofU; rw [if_neg qn,zql q1 q2,hue]; simp only[hbb]; rw [hus]]
 rfl
def txT:Tm→Txt
 | .o=>[111]
 | .un c t=>c::txT t
 | .bin m a b=>40::(txT a++m::(txT b++[41]))
theorem znh {u:Tm} (h:u.pure):(txT u).length+3=4*u.n∧(txT u).count 111=u.n:=by
 induction u with
 | o=>exact ⟨rfl,rfl⟩
 | un c t _=>exact h.elim
 | bin m a b h1 h2 =>
  obtain ⟨k1,k2⟩:=h1 h.2.1
  obtain ⟨k3,k4⟩:=h2 h.2.2
  have e1:=List.count_cons_of_ne (a:=111) (b:=m) (l:=txT b++[41]) (by rcases h.1 with rfl | rfl <;> decide)
  constructor
  ·simp only[txT,List.length_cons,List.length_append,List.length_nil,Tm.n]; omega
  simp only[txT,Tm.n]
  rw [List.count_cons_of_ne (by decide),List.count_append,e1,List.count_append,k2,k4]
  rfl
def znp (c:UInt8):Txt→Txt × Txt × Bool
 | []=>([],[],false)
 | x::r=>if x=c then ([],r,true) else (x::(znp c r).1,(znp c r).2.1,(znp c r).2.2)
theorem zve {c:UInt8} {r:Txt}:∀ {a:Txt},c ∉ a→znp c (a++c::r)=(a,r,true)
 | [],_=>by simp [znp]
 | x::a,h=>by
  rw [List.mem_cons]at h
  have hx:¬ x=c:=fun e=>h (.inl e.symm)
  rw [List.cons_append,znp,if_neg hx,zve fun hm=>h (.inr hm)]
theorem zy4 {c:UInt8}:∀ {a:Txt},c ∉ a→znp c a=(a,[],false)
 | [],_=>rfl
 | x::a,h=>by
  rw [List.mem_cons]at h
  have hx:¬ x=c:=fun e=>h (.inl e.symm)
  rw [znp,if_neg hx,zy4 fun hm=>h (.inr hm)]
theorem zvf {c:UInt8}:∀ {s:Txt},((znp c s).2.2=false∧Lib.indexByte s c = -1∧znp c s=(s,[],false)) ∨
  ∃ k:Nat,k<s.length∧(znp c s).2.2=true∧Lib.indexByte s c=(k:Int)∧znp c s=(s.take k,s.drop (k+1),true)
 | [] => .inl ⟨rfl,rfl,rfl⟩
 | x::r=>by
  by_cases hx:x=c
  ·refine .inr ⟨0,Nat.succ_pos _,?_,?_,?_⟩
   ·rw [znp,if_pos hx]
   ·rw [Lib.indexByte,if_pos (beq_iff_eq.2 hx)]; rfl
   rw [znp,if_pos hx]; rfl
  have hb:¬ (x == c)=true:=fun e=>hx (beq_iff_eq.1 e)
  rcases zvf (c:=c) (s:=r) with ⟨h1,h2,h3⟩ | ⟨k,h0,h1,h2,h3⟩
  ·refine .inl ⟨?_,?_,?_⟩
   ·rw [znp,if_neg hx]; exact h1
   ·rw [Lib.indexByte,if_neg hb,h2]; rfl
   rw [znp,if_neg hx,h3]
  refine .inr ⟨k+1,by rw [List.length_cons]; omega,?_,?_,?_⟩
  ·rw [znp,if_neg hx]; exact h1
  ·rw [Lib.indexByte,if_neg hb,h2,if_neg (by rw [beq_iff_eq]; omega)]; rfl
  rw [znp,if_neg hx,h3]; rfl
theorem z3h:∀ (f:Nat) {s:Txt} {t:Tm} {r:Txt},rd f s=some (t,r)→∃ a,s=a++r∧∀ c∈a,c∈([111,62,94,40,124,45,41]:Txt):=by
 intro f
 induction f with
 | zero=>intro s t r h; simp [rd]at h
 | succ f ih =>
  intro s t r h
  cases s with
  | nil=>simp [rd]at h
  | cons c s =>
   simp only[rd]at h
   split at h
   ·rename_i hc; cases h; exact ⟨[c],rfl,by simp [hc]⟩
   split at h
   ·rename_i hc
    split at h
    ·rename_i t' r' e
     cases h
     obtain ⟨a,rfl,h2⟩:=ih e
     refine ⟨c::a,rfl,fun x hx=>?_⟩
     rcases List.mem_cons.1 hx with rfl | hx
     ·rcases hc with rfl | rfl <;> simp
     exact h2 x hx
    cases h
   split at h
   ·rename_i hc
    split at h
    ·rename_i a m r1 e
     obtain ⟨p,hp,h2⟩:=ih e
     split at h
     ·rename_i hm
      split at h
      ·rename_i b e2 r2 e3
       obtain ⟨q,hq,h4⟩:=ih e3
       split at h
       ·rename_i he
        cases h
        refine ⟨c::(p++m::(q++[e2])),by rw [hp,hq]; simp,fun x hx=>?_⟩
        simp only[List.mem_cons,List.mem_append,List.not_mem_nil,or_false]at hx
        rcases hx with rfl | hx | rfl | hx | rfl
        ·simp [hc]
        ·exact h2 x hx
        ·rcases hm with rfl | rfl <;> simp
        ·exact h4 x hx
        simp [he]
       cases h
      cases h
     cases h
    cases h
   cases h
theorem z0j {s:Txt} {t:Tm} (h:ofT s=some t):(10:UInt8) ∉ s∧(32:UInt8) ∉ s:=by
 obtain ⟨a,ha,hb⟩:=z3h _ (zr9 h).2.2.2.2
 rw [qN]at ha
 subst ha
 exact ⟨fun hm=>absurd (hb _ hm) (by decide),fun hm=>absurd (hb _ hm) (by decide)⟩

theorem z8u {x:Int} (h1:0≤x) (h2:x<1000):IntKind.i32.wrap x=x:=by
 simp [IntKind.wrap,IntKind.bits,IntKind.signed]; omega
section
section
variable {P:Program} {T:Tab} {e:Env} {S:Store} {K:Env→Store→Prop} {ops:Array Oper} {effs pend keep:List Nat}
theorem zcq {i:Nat} {r:List Nat} {o:Oper} (ho:ops[i]?=some o) (hg:o.guard=none) (he:effs.contains i=false) (v:PV) (h:∀ S',Keeps keep S S'→pFl P T S' e o.op v)
  (k:zbq P T ops effs pend keep K r (e.put o.dst v) S):zbq P T ops effs pend keep K (i::r) e S:=by
 simp only[zbq,ho]
 unfold zen gdec
 rw [hg]
 simp only
 rw [he]
 simp only[qF,if_false]
 rw [zcj]
 refine ⟨v,h S (fun _ _=>rfl),?_,k⟩
 split
 ·exact h
 trivial
theorem zmt {i:Nat} {r:List Nat} {o:Oper} (ho:ops[i]?=some o) (hg:o.guard=none) (he:effs.contains i=false) (hp:pend.contains i=false) (v:PV) (h:pFl P T S e o.op v)
  (k:zbq P T ops effs pend keep K r (e.put o.dst v) S):zbq P T ops effs pend keep K (i::r) e S:=by
 simp only[zbq,ho]
 unfold zen gdec
 rw [hg]
 simp only
 rw [he,hp]
 simp only[qF,if_false]
 rw [zcj]
 exact ⟨v,h,trivial,k⟩
theorem z74 {i:Nat} {r:List Nat} {o:Oper} (ho:ops[i]?=some o) (hg:o.guard=none) (he:effs.contains i=true)
  (h:pOp P T e S o.op fun v S'=>Keeps keep S S'∧zbq P T ops effs pend keep K r (e.put o.dst v) S'):zbq P T ops effs pend keep K (i::r) e S:=by
 simp only[zbq,ho]
 unfold zen gdec
 rw [hg]
 simp only
 rw [he]
 simp only[if_true]
 exact zfb (fun v S' hv=>⟨.inr hv.1,hv.2⟩) h
theorem z2w {S S':Store}:Keeps [] S S':=fun q h=>absurd h (by simp)
end
end
theorem z2o:((4:Int)=0)=False:=by simp
theorem z5a {a:Int} {n:Nat} (h:a=(n:Int)):a.tmod 4=((n % 4:Nat):Int):=by subst h; exact (Int.ofNat_tmod n 4).symm
theorem zr7 {s m:UInt8} {a b:Tm}:mv s (.bin m a b)=if s=62 then (if m=124 then .bin 45 (mv s a) (mv s b) else .bin 124 (mv s b) (mv s a))
  else if s=94∧m=124 then .bin 124 (mv s b) (mv s a) else .bin m (mv s a) (mv s b):=by
 conv=>lhs; unfold mv
theorem zvy (s:UInt8):PC Tryz.prog 46 [eT .o,eB s] (eT .o) false:=by
 simp only[eT]
 have d1:((111:Int) == 111)=true:=rfl
 refine PC.of ⟨Tryz.func46,by kernel_rfl,rfl,by kernel_rfl⟩ zal mixed (by show 2≤Tryz.f46.ntmps; decide) ?_
 refine W.r fun K hK=>?_
 simp(disch:=omega)only[↓RU,RV,RH,↓reduceIte,qE,reduceCtorEq,if_pos,↓RS,RG,qA,qM,qL]
 apply hK;clear hK K
 refine W.seq ?_
 refine W.block ?_
 refine W.r fun K hK=>?_
 simp(disch:=omega)only[↓RU,RV,RH,↓reduceIte,qE,reduceCtorEq,if_pos,w64,↓RS,RG,qA,qM,qL,ty2,ty9,zhq,zhr,zai,Int.toNat_zero,Nat.zero_mul,qZ,qM,Nat.zero_add,Nat.mul_one,List.getElem?_cons_zero,List.getElem?_cons_succ,d1]
 apply hK;clear hK K
 refine W.cond rfl (fun h0=>?_) (fun h0=>?_)
 ·try simp only[RL]at h0
  refine W.r fun K hK=>?_
  simp(disch:=omega)only[↓RU,RV,RH,↓reduceIte,qE,reduceCtorEq,if_pos,↓RS,RG,qA,qM,qL]
  apply hK;clear hK K
  refine W.ret ?_
  refine XBlock.ret ?_
  refine XThen.ret ?_
  refine Br rfl ?_
  rfl
 try simp only[RL]at h0
 exact absurd h0 (by simp)
theorem zz1 {s c:UInt8} {t u:Tm} (hc:c=62∨c=94) (hp:u.pure) (i1:PC Tryz.prog 46 [eT t,eB c] (eT (mv c u)) false) (i2:PC Tryz.prog 46 [eT (mv c u),eB s] (eT (mv s (mv c u))) false):PC Tryz.prog 46 [eT (.un c t),eB s] (eT (mv s (mv c u))) false:=by
 obtain ⟨ct,hct⟩:=zek t
 obtain ⟨cv,hcv⟩:=zek (mv c u)
 rw [hct,hcv]at i1
 rw [hcv]at i2
 simp only[eT,hct]
 have d1:((c.toNat:Int) == 111)=false:=by rcases hc with rfl | rfl <;> rfl
 have dl:(((1:Nat):Int) == 1)=true:=rfl
 refine PC.of ⟨Tryz.func46,by kernel_rfl,rfl,by kernel_rfl⟩ zal mixed (by show 2≤Tryz.f46.ntmps; decide) ?_
 refine W.r fun K hK=>?_
 simp(disch:=omega)only[↓RU,RV,RH,↓reduceIte,qE,reduceCtorEq,if_pos,↓RS,RG,qA,qM,qL]
 apply hK;clear hK K
 refine W.seq ?_
 refine W.block ?_
 refine W.r fun K hK=>?_
 simp(disch:=omega)only[↓RU,RV,RH,↓reduceIte,qE,reduceCtorEq,if_pos,w64,↓RS,RG,qA,qM,qL,ty2,ty9,zhq,zhr,zai,Int.toNat_zero,Nat.zero_mul,qZ,qM,Nat.zero_add,Nat.mul_one,List.getElem?_cons_zero,List.getElem?_cons_succ,d1]
 apply hK;clear hK K
 refine W.cond rfl (fun h0=>?_) (fun h0=>?_)
 ·try simp only[RL]at h0
  exact absurd h0 (by simp)
 try simp only[RL]at h0
 refine W.r fun K hK=>?_
 simp(disch:=omega)only[↓RU,RV,RH,↓reduceIte,qE,reduceCtorEq,if_pos,w64,↓RS,RG,qA,qM,qL,ty2,ty9,zhq,zab,zhr,zai,Int.toNat_zero,Nat.zero_mul,qZ,qM,Nat.zero_add,Nat.mul_one,List.getElem?_cons_zero,List.getElem?_cons_succ,dl]
 apply hK;clear hK K
 refine W.cond rfl (fun h1=>?_) (fun h1=>?_)
 ·try simp only[RL]at h1
  refine W.seq_draw (by kernel_rfl) fun K hK=>?_
  simp(disch:=omega)only[↓RU,RV,RH,↓reduceIte,qE,reduceCtorEq,if_pos,qN,↓RS,RG,qA,qM,qL,ty2,ty9,zhq,zhr,zai,Int.toNat_zero,Nat.zero_mul,qZ,qM,Nat.zero_add,Nat.mul_one,List.getElem?_cons_zero,List.getElem?_cons_succ]
  refine zac.pc (i1) rfl (.inr rfl) ?_
  simp(disch:=omega)only[↓RU,RV,RH,↓reduceIte,qE,reduceCtorEq,if_pos,qN,↓RS,RG,qA,qM,qL,ty2,ty9,zhq,zhr,zai,Int.toNat_zero,Nat.zero_mul,qZ,qM,Nat.zero_add,Nat.mul_one,List.getElem?_cons_zero,List.getElem?_cons_succ]
  apply hK;clear hK K
  refine W.seq ?_
  refine W.r fun K hK=>?_
  by_cases hs:s=0
  ·skip
   have d2:((s.toNat:Int) == 0)=true:=by rw [hs]; rfl
   simp(disch:=omega)only[↓RU,RV,RH,↓reduceIte,qE,reduceCtorEq,if_pos,w64,↓RS,RG,qA,qM,qL,zai,d2]
   apply hK;clear hK K
   refine W.cond rfl (fun h2=>?_) (fun h2=>?_)
   ·try simp only[RL]at h2
    refine W.r fun K hK=>?_
    simp(disch:=omega)only[↓RU,RV,RH,↓reduceIte,qE,reduceCtorEq,if_pos,↓RS,RG,qA,qM,qL]
    apply hK;clear hK K
    refine W.ret ?_
    refine XThen.ret ?_
    refine XBlock.ret ?_
    refine XThen.ret ?_
    refine Br rfl ?_
    rw [hs,z7z (zjr hp).1,hcv]
    rfl
   try simp only[RL]at h2
   exact absurd h2 (by simp)
  skip
  have hs2:s≠UInt8.ofNat 0:=hs
  have d2:((s.toNat:Int) == 0)=false:=by rw [beq_eq_false_iff_ne]; exact zbf (k:=0) (by assumption) (by decide)
  simp(disch:=omega)only[↓RU,RV,RH,↓reduceIte,qE,reduceCtorEq,if_pos,w64,↓RS,RG,qA,qM,qL,zai,d2]
  apply hK;clear hK K
  refine W.cond rfl (fun h2=>?_) (fun h2=>?_)
  ·try simp only[RL]at h2
   exact absurd h2 (by simp)
  try simp only[RL]at h2
  refine W.skip ?_
  refine xn ?_
  refine W.r fun K hK=>?_
  simp(disch:=omega)only[↓RU,RV,RH,↓reduceIte,qE,reduceCtorEq,if_pos,qN,↓RS,RG,qA,qM,qL]
  refine zac.pc (i2) rfl (.inr rfl) ?_
  simp(disch:=omega)only[↓RU,RV,RH,↓reduceIte,qE,reduceCtorEq,if_pos,qN,↓RS,RG,qA,qM,qL]
  apply hK;clear hK K
  refine W.ret ?_
  refine XBlock.ret ?_
  refine XThen.ret ?_
  refine Br rfl ?_
  exact zqv _
 try simp only[RL]at h1
 exact absurd h1 (by simp)
theorem zo3 {s m:UInt8} {a b a2 b2:Tm} (hm:m=124∨m=45) (i1:PC Tryz.prog 46 [eT a,eB s] (eT (mv s a2)) false) (i2:PC Tryz.prog 46 [eT b,eB s] (eT (mv s b2)) false):PC Tryz.prog 46 [eT (.bin m a b),eB s] (eT (mv s (.bin m a2 b2))) false:=by
 obtain ⟨ca,hca⟩:=zek a
 obtain ⟨cb,hcb⟩:=zek b
 obtain ⟨da,hda⟩:=zek (mv s a2)
 obtain ⟨db,hdb⟩:=zek (mv s b2)
 rw [hca,hda]at i1
 rw [hcb,hdb]at i2
 simp only[eT,hca,hcb]
 have d1:((m.toNat:Int) == 111)=false:=by rcases hm with rfl | rfl <;> rfl
 have dl:(((2:Nat):Int) == 1)=false:=rfl
 refine PC.of ⟨Tryz.func46,by kernel_rfl,rfl,by kernel_rfl⟩ zal mixed (by show 2≤Tryz.f46.ntmps; decide) ?_
 refine W.r fun K hK=>?_
 simp(disch:=omega)only[↓RU,RV,RH,↓reduceIte,qE,reduceCtorEq,if_pos,↓RS,RG,qA,qM,qL]
 apply hK;clear hK K
 refine W.seq ?_
 refine W.block ?_
 refine W.r fun K hK=>?_
 simp(disch:=omega)only[↓RU,RV,RH,↓reduceIte,qE,reduceCtorEq,if_pos,w64,↓RS,RG,qA,qM,qL,ty2,ty9,zhq,zhr,zai,Int.toNat_zero,Nat.zero_mul,qZ,qM,Nat.zero_add,Nat.mul_one,List.getElem?_cons_zero,List.getElem?_cons_succ,d1]
 apply hK;clear hK K
 refine W.cond rfl (fun h0=>?_) (fun h0=>?_)
 ·try simp only[RL]at h0
  exact absurd h0 (by simp)
 try simp only[RL]at h0
 refine W.r fun K hK=>?_
 simp(disch:=omega)only[↓RU,RV,RH,↓reduceIte,qE,reduceCtorEq,if_pos,w64,↓RS,RG,qA,qM,qL,ty2,ty9,zhq,zab,zhr,zai,Int.toNat_zero,Nat.zero_mul,qZ,qM,Nat.zero_add,Nat.mul_one,List.getElem?_cons_zero,List.getElem?_cons_succ,dl]
 apply hK;clear hK K
 refine W.cond rfl (fun h1=>?_) (fun h1=>?_)
 ·try simp only[RL]at h1
  exact absurd h1 (by simp)
 try simp only[RL]at h1
 refine W.skip ?_
 refine XbN ?_
 refine xn ?_
 refine W.seq_draw (by kernel_rfl) fun K hK=>?_
 simp(disch:=omega)only[↓RU,RV,RH,↓reduceIte,qE,reduceCtorEq,if_pos,qN,↓RS,RG,qA,qM,qL,ty2,ty9,zhq,zhr,zai,Int.toNat_zero,Nat.zero_mul,qZ,qM,Nat.zero_add,Nat.mul_one,List.getElem?_cons_zero,List.getElem?_cons_succ]
 refine zac.pc (i1) rfl (.inr rfl) ?_
 simp(disch:=omega)only[↓RU,RV,RH,↓reduceIte,qE,reduceCtorEq,if_pos,qN,↓RS,RG,qA,qM,qL,ty2,ty9,zhq,zhr,zai,Int.toNat_zero,Nat.zero_mul,qZ,qM,Nat.zero_add,Nat.mul_one,List.getElem?_cons_zero,List.getElem?_cons_succ]
 refine zac.pc (i2) rfl (.inr rfl) ?_
 simp(disch:=omega)only[↓RU,RV,RH,↓reduceIte,qE,reduceCtorEq,if_pos,qN,↓RS,RG,qA,qM,qL,ty2,ty9,zhq,zhr,zai,Int.toNat_zero,Nat.zero_mul,qZ,qM,Nat.zero_add,Nat.mul_one,List.getElem?_cons_zero,List.getElem?_cons_succ]
 apply hK;clear hK K
 refine W.seq ?_
 refine W.block ?_
 refine W.r fun K hK=>?_
 rcases (show (s=62∧m=124)∨(s=62∧m≠124)∨(s≠62∧s=94∧m=124)∨(s≠62∧s=94∧m≠124)∨(s≠62∧s≠94) by by_cases e1:s=62 <;> by_cases e2:s=94 <;> by_cases e3:m=124 <;> simp [e1,e2,e3]) with ⟨s1,m1⟩ | ⟨s1,m1⟩ | ⟨s1,s2,m1⟩ | ⟨s1,s2,m1⟩ | ⟨s1,s2⟩
 ·skip
  have e62:((s.toNat:Int) == 62)=true:=by rw [s1]; rfl
  have f124:((m.toNat:Int) == 124)=true:=by rw [m1]; rfl
  simp(disch:=omega)only[↓RU,RV,RH,↓reduceIte,qE,reduceCtorEq,if_pos,w64,↓RS,RG,qA,qM,qL,ty2,ty9,zhq,zhr,zai,Int.toNat_zero,Nat.zero_mul,qZ,qM,Nat.zero_add,Nat.mul_one,List.getElem?_cons_zero,List.getElem?_cons_succ,e62,f124]
  apply hK;clear hK K
  refine W.cond rfl (fun k2=>?_) (fun k2=>?_)
  ·try simp only[RL]at k2
   refine W.r fun K hK=>?_
   simp(disch:=omega)only[↓RU,RV,RH,↓reduceIte,qE,reduceCtorEq,if_pos,↓RS,RG,qA,qM,qL,ty2,ty9,zhq,zhr,zai,zka,zoa,zcv,ze4,zj9,zrv]
   apply hK;clear hK K
   refine W.ret ?_
   refine XBlock.ret ?_
   refine XThen.ret ?_
   refine Br rfl ?_
   rw [show mv s (.bin m a2 b2) = .bin 45 (mv s a2) (mv s b2) by rw [zr7,if_pos s1,if_pos m1],eT,hda,hdb]
   rfl
  try simp only[RL]at k2
  exact absurd k2 (by simp)
 ·skip
  have m2:m≠UInt8.ofNat 124:=m1
  have e62:((s.toNat:Int) == 62)=true:=by rw [s1]; rfl
  have f124:((m.toNat:Int) == 124)=false:=by rw [beq_eq_false_iff_ne]; exact zbf (k:=124) (by assumption) (by decide)
  simp(disch:=omega)only[↓RU,RV,RH,↓reduceIte,qE,reduceCtorEq,if_pos,w64,↓RS,RG,qA,qM,qL,ty2,ty9,zhq,zhr,zai,Int.toNat_zero,Nat.zero_mul,qZ,qM,Nat.zero_add,Nat.mul_one,List.getElem?_cons_zero,List.getElem?_cons_succ,e62,f124]
  apply hK;clear hK K
  refine W.cond rfl (fun k2=>?_) (fun k2=>?_)
  ·try simp only[RL]at k2
   exact absurd k2 (by simp)
  try simp only[RL]at k2
  refine W.r fun K hK=>?_
  simp(disch:=omega)only[↓RU,RV,RH,↓reduceIte,qE,reduceCtorEq,if_pos,w64,↓RS,RG,qA,qM,qL,zai,e62]
  apply hK;clear hK K
  refine W.cond rfl (fun k3=>?_) (fun k3=>?_)
  ·try simp only[RL]at k3
   refine W.r fun K hK=>?_
   simp(disch:=omega)only[↓RU,RV,RH,↓reduceIte,qE,reduceCtorEq,if_pos,↓RS,RG,qA,qM,qL,ty2,ty9,zhq,zhr,zai,zka,zoa,zcv,ze4,zj9,zrv]
   apply hK;clear hK K
   refine W.ret ?_
   refine XBlock.ret ?_
   refine XThen.ret ?_
   refine Br rfl ?_
   rw [show mv s (.bin m a2 b2) = .bin 124 (mv s b2) (mv s a2) by rw [zr7,if_pos s1,if_neg m1],eT,hda,hdb]
   rfl
  try simp only[RL]at k3
  exact absurd k3 (by simp)
 ·skip
  have s3:s≠UInt8.ofNat 62:=s1
  have e62:((s.toNat:Int) == 62)=false:=by rw [beq_eq_false_iff_ne]; exact zbf (k:=62) (by assumption) (by decide)
  have e94:((s.toNat:Int) == 94)=true:=by rw [s2]; rfl
  have f124:((m.toNat:Int) == 124)=true:=by rw [m1]; rfl
  simp(disch:=omega)only[↓RU,RV,RH,↓reduceIte,qE,reduceCtorEq,if_pos,w64,↓RS,RG,qA,qM,qL,ty2,ty9,zhq,zhr,zai,Int.toNat_zero,Nat.zero_mul,qZ,qM,Nat.zero_add,Nat.mul_one,List.getElem?_cons_zero,List.getElem?_cons_succ,e62]
  apply hK;clear hK K
  refine W.cond rfl (fun k2=>?_) (fun k2=>?_)
  ·try simp only[RL]at k2
   exact absurd k2 (by simp)
  try simp only[RL]at k2
  refine W.r fun K hK=>?_
  simp(disch:=omega)only[↓RU,RV,RH,↓reduceIte,qE,reduceCtorEq,if_pos,w64,↓RS,RG,qA,qM,qL,zai,e62]
  apply hK;clear hK K
  refine W.cond rfl (fun k3=>?_) (fun k3=>?_)
  ·try simp only[RL]at k3
   exact absurd k3 (by simp)
  try simp only[RL]at k3
  refine W.r fun K hK=>?_
  simp(disch:=omega)only[↓RU,RV,RH,↓reduceIte,qE,reduceCtorEq,if_pos,w64,↓RS,RG,qA,qM,qL,ty2,ty9,zhq,zhr,zai,Int.toNat_zero,Nat.zero_mul,qZ,qM,Nat.zero_add,Nat.mul_one,List.getElem?_cons_zero,List.getElem?_cons_succ,e94,f124]
  apply hK;clear hK K
  refine W.cond rfl (fun k4=>?_) (fun k4=>?_)
  ·try simp only[RL]at k4
   refine W.r fun K hK=>?_
   simp(disch:=omega)only[↓RU,RV,RH,↓reduceIte,qE,reduceCtorEq,if_pos,↓RS,RG,qA,qM,qL,ty2,ty9,zhq,zhr,zai,zka,zoa,zcv,ze4,zj9,zrv]
   apply hK;clear hK K
   refine W.ret ?_
   refine XBlock.ret ?_
   refine XThen.ret ?_
   refine Br rfl ?_
   rw [show mv s (.bin m a2 b2) = .bin 124 (mv s b2) (mv s a2) by rw [zr7,if_neg s1,if_pos ⟨s2,m1⟩],eT,hda,hdb]
   rfl
  try simp only[RL]at k4
  exact absurd k4 (by simp)
 ·skip
  have s3:s≠UInt8.ofNat 62:=s1
  have m2:m≠UInt8.ofNat 124:=m1
  have e62:((s.toNat:Int) == 62)=false:=by rw [beq_eq_false_iff_ne]; exact zbf (k:=62) (by assumption) (by decide)
  have e94:((s.toNat:Int) == 94)=true:=by rw [s2]; rfl
  have f124:((m.toNat:Int) == 124)=false:=by rw [beq_eq_false_iff_ne]; exact zbf (k:=124) (by assumption) (by decide)
  simp(disch:=omega)only[↓RU,RV,RH,↓reduceIte,qE,reduceCtorEq,if_pos,w64,↓RS,RG,qA,qM,qL,ty2,ty9,zhq,zhr,zai,Int.toNat_zero,Nat.zero_mul,qZ,qM,Nat.zero_add,Nat.mul_one,List.getElem?_cons_zero,List.getElem?_cons_succ,e62]
  apply hK;clear hK K
  refine W.cond rfl (fun k2=>?_) (fun k2=>?_)
  ·try simp only[RL]at k2
   exact absurd k2 (by simp)
  try simp only[RL]at k2
  refine W.r fun K hK=>?_
  simp(disch:=omega)only[↓RU,RV,RH,↓reduceIte,qE,reduceCtorEq,if_pos,w64,↓RS,RG,qA,qM,qL,zai,e62]
  apply hK;clear hK K
  refine W.cond rfl (fun k3=>?_) (fun k3=>?_)
  ·try simp only[RL]at k3
   exact absurd k3 (by simp)
  try simp only[RL]at k3
  refine W.r fun K hK=>?_
  simp(disch:=omega)only[↓RU,RV,RH,↓reduceIte,qE,reduceCtorEq,if_pos,w64,↓RS,RG,qA,qM,qL,ty2,ty9,zhq,zhr,zai,Int.toNat_zero,Nat.zero_mul,qZ,qM,Nat.zero_add,Nat.mul_one,List.getElem?_cons_zero,List.getElem?_cons_succ,e94,f124]
  apply hK;clear hK K
  refine W.cond rfl (fun k4=>?_) (fun k4=>?_)
  ·try simp only[RL]at k4
   exact absurd k4 (by simp)
  try simp only[RL]at k4
  refine W.skip ?_
  refine XbN ?_
  refine xn ?_
  refine W.r fun K hK=>?_
  simp(disch:=omega)only[↓RU,RV,RH,↓reduceIte,qE,reduceCtorEq,if_pos,↓RS,RG,qA,qM,qL,ty2,ty9,zhq,zhr,zai,Int.toNat_zero,Nat.zero_mul,qZ,qM,Nat.zero_add,Nat.mul_one,List.getElem?_cons_zero,List.getElem?_cons_succ,zka,zoa,zcv,ze4,zj9,zrv]
  apply hK;clear hK K
  refine W.ret ?_
  refine Br rfl ?_
  rw [show mv s (.bin m a2 b2) = .bin m (mv s a2) (mv s b2) by rw [zr7,if_neg s1,if_neg (fun x=>m1 x.2)],eT,hda,hdb]
  rfl
 skip
 have s3:s≠UInt8.ofNat 62:=s1
 have s4:s≠UInt8.ofNat 94:=s2
 have e62:((s.toNat:Int) == 62)=false:=by rw [beq_eq_false_iff_ne]; exact zbf (k:=62) (by assumption) (by decide)
 have e94:((s.toNat:Int) == 94)=false:=by rw [beq_eq_false_iff_ne]; exact zbf (k:=94) (by assumption) (by decide)
 simp(disch:=omega)only[↓RU,RV,RH,↓reduceIte,qE,reduceCtorEq,if_pos,w64,↓RS,RG,qA,qM,qL,ty2,ty9,zhq,zhr,zai,Int.toNat_zero,Nat.zero_mul,qZ,qM,Nat.zero_add,Nat.mul_one,List.getElem?_cons_zero,List.getElem?_cons_succ,e62]
 apply hK;clear hK K
 refine W.cond rfl (fun k2=>?_) (fun k2=>?_)
 ·try simp only[RL]at k2
  exact absurd k2 (by simp)
 try simp only[RL]at k2
 refine W.r fun K hK=>?_
 simp(disch:=omega)only[↓RU,RV,RH,↓reduceIte,qE,reduceCtorEq,if_pos,w64,↓RS,RG,qA,qM,qL,zai,e62]
 apply hK;clear hK K
 refine W.cond rfl (fun k3=>?_) (fun k3=>?_)
 ·try simp only[RL]at k3
  exact absurd k3 (by simp)
 try simp only[RL]at k3
 refine W.r fun K hK=>?_
 simp(disch:=omega)only[↓RU,RV,RH,↓reduceIte,qE,reduceCtorEq,if_pos,w64,↓RS,RG,qA,qM,qL,ty2,ty9,zhq,zhr,zai,Int.toNat_zero,Nat.zero_mul,qZ,qM,Nat.zero_add,Nat.mul_one,List.getElem?_cons_zero,List.getElem?_cons_succ,e94]
 apply hK;clear hK K
 refine W.cond rfl (fun k4=>?_) (fun k4=>?_)
 ·try simp only[RL]at k4
  exact absurd k4 (by simp)
 try simp only[RL]at k4
 refine W.skip ?_
 refine XbN ?_
 refine xn ?_
 refine W.r fun K hK=>?_
 simp(disch:=omega)only[↓RU,RV,RH,↓reduceIte,qE,reduceCtorEq,if_pos,↓RS,RG,qA,qM,qL,ty2,ty9,zhq,zhr,zai,Int.toNat_zero,Nat.zero_mul,qZ,qM,Nat.zero_add,Nat.mul_one,List.getElem?_cons_zero,List.getElem?_cons_succ,zka,zoa,zcv,ze4,zj9,zrv]
 apply hK;clear hK K
 refine W.ret ?_
 refine Br rfl ?_
 rw [show mv s (.bin m a2 b2) = .bin m (mv s a2) (mv s b2) by rw [zr7,if_neg s1,if_neg (fun x=>s2 x.1)],eT,hda,hdb]
 rfl
theorem zub:∀ (u:Tm),u.pure→∀ s,PC Tryz.prog 46 [eT u,eB s] (eT (mv s u)) false:=by
 intro u
 induction u with
 | o=>intro _ s; exact zvy s
 | un c t _=>intro h; exact h.elim
 | bin m a b h1 h2=>intro h s; exact zo3 h.1 (h1 h.2.1 s) (h2 h.2.2 s)
theorem zz0:∀ (t:Tm),t.ok→∀ s,PC Tryz.prog 46 [eT t,eB s] (eT (mv s (td t))) false:=by
 intro t
 induction t with
 | o=>intro _ s; exact zvy s
 | un c t ih =>
  intro h s
  have hp:=(zj3 h.2).1
  exact zz1 h.1 hp (ih h.2 c) (zub _ (zjr hp).1 s)
 | bin m a b h1 h2=>intro h s; exact zo3 h.1 (h1 h.2.1 s) (h2 h.2.2 s)
theorem z61 {t:Tm} (h:t.ok):PC Tryz.prog 21 [eT t] (eT (td t)) false:=by
 have hI:=zz0 t h 0
 rw [z7z (zj3 h).1]at hI
 obtain ⟨ct,hct⟩:=zek t
 rw [hct]at hI ⊢
 refine PC.of ⟨Tryz.func21,by kernel_rfl,rfl,by kernel_rfl⟩ zal mixed (by show 1≤Tryz.f21.ntmps; decide) ?_
 refine W.r fun K hK=>?_
 simp(disch:=omega)only[↓RU,RV,RH,↓reduceIte,qE,reduceCtorEq,if_pos,↓RS,RG,qA,qM,qL]
 apply hK;clear hK K
 refine W.r fun K hK=>?_
 simp(disch:=omega)only[↓RU,RV,RH,↓reduceIte,qE,reduceCtorEq,if_pos,qN,↓RS,RG,qA,qM,qL]
 refine zac.pc (hI) rfl (.inr rfl) ?_
 simp(disch:=omega)only[↓RU,RV,RH,↓reduceIte,qE,reduceCtorEq,if_pos,qN,↓RS,RG,qA,qM,qL]
 apply hK;clear hK K
 refine W.ret ?_
 refine Br rfl ?_
 exact zqv _
theorem z80:(Utf8.encode 111).data.toList=[111]:=by decide +kernel
theorem z5t {m:UInt8} (h:m=124∨m=45):(Utf8.encode (m.toNat:Int)).data.toList=[m]:=by rcases h with rfl | rfl <;> decide +kernel
theorem z6z  : PC Tryz.prog 22 [eT .o] (.str (txT .o)) true:=by
 simp only[eT]
 refine PC.of ⟨Tryz.func22,by kernel_rfl,rfl,by kernel_rfl⟩ zal mixed (by show 1≤Tryz.f22.ntmps; decide) ?_
 refine W.r fun K hK=>?_
 simp(disch:=omega)only[↓RU,RV,RH,↓reduceIte,qE,reduceCtorEq,if_pos,↓RS,RG,qA,qM,qL]
 apply hK;clear hK K
 refine W.seq ?_
 refine W.r fun K hK=>?_
 simp(disch:=omega)only[↓RU,RV,RH,↓reduceIte,qE,reduceCtorEq,if_pos,↓RS,RG,qA,qM,qL,ty2,ty9,zhq,zhr,zai,Int.toNat_zero,Nat.zero_mul,qZ,qM,Nat.zero_add,Nat.mul_one,List.getElem?_cons_zero,List.getElem?_cons_succ]
 apply hK;clear hK K
 refine W.block ?_
 refine W.r fun K hK=>?_
 simp(disch:=omega)only[↓RU,RV,RH,↓reduceIte,qE,reduceCtorEq,if_pos,w64,↓RS,RG,qA,qM,qL,zab]
 apply hK;clear hK K
 refine W.cond rfl (fun h0=>?_) (fun h0=>?_)
 ·try simp only[RL]at h0
  refine W.r fun K hK=>?_
  simp(disch:=omega)only[↓RU,RV,RH,↓reduceIte,qE,reduceCtorEq,if_pos,w64,↓RS,RG,qA,qM,qL,ty2,ty9,zhq,zq3,zaa,zhr,zai,Int.toNat_zero,Nat.zero_mul,qZ,qM,Nat.zero_add,Nat.mul_one,List.getElem?_cons_zero,List.getElem?_cons_succ,z8u,z80]
  apply hK;clear hK K
  refine W.ret ?_
  refine XBlock.ret ?_
  refine XThen.ret ?_
  refine Br rfl ?_
  rfl
 try simp only[RL]at h0
 exact absurd h0 (by simp)
theorem z1u {m:UInt8} {a b:Tm} {A B:Txt} (hm:m=124∨m=45) (hA:A.length≤1000) (hB:B.length≤1000) (i1:PC Tryz.prog 22 [eT a] (.str A) true) (i2:PC Tryz.prog 22 [eT b] (.str B) true):PC Tryz.prog 22 [eT (.bin m a b)] (.str (40::(A++m::(B++[41])))) true:=by
 obtain ⟨ca,hca⟩:=zek a
 obtain ⟨cb,hcb⟩:=zek b
 rw [hca]at i1
 rw [hcb]at i2
 simp only[eT,hca,hcb]
 have dl0:(((2:Nat):Int) == 0)=false:=rfl
 have dl1:(((2:Nat):Int) == 1)=false:=rfl
 have hmt:=m.toNat_lt
 have l0:([40]:Txt).length=1:=rfl
 have l1:([m]:Txt).length=1:=rfl
 have l2:([41]:Txt).length=1:=rfl
 have l3:(40::A:Txt).length=A.length+1:=rfl
 have l4:(40::A++[m]:Txt).length=A.length+2:=by simp
 have l4b:(40::(A++[m]):Txt).length=A.length+2:=by simp
 have l5:(40::A++[m]++B:Txt).length=A.length+2+B.length:=by simp; omega
 have l5b:(40::(A++[m]++B):Txt).length=A.length+2+B.length:=by simp; omega
 have l5c:(40::(A++[m])++B:Txt).length=A.length+2+B.length:=by simp; omega
 refine PC.of ⟨Tryz.func22,by kernel_rfl,rfl,by kernel_rfl⟩ zal mixed (by show 1≤Tryz.f22.ntmps; decide) ?_
 refine W.r fun K hK=>?_
 simp(disch:=omega)only[↓RU,RV,RH,↓reduceIte,qE,reduceCtorEq,if_pos,↓RS,RG,qA,qM,qL]
 apply hK;clear hK K
 refine W.seq ?_
 refine W.r fun K hK=>?_
 simp(disch:=omega)only[↓RU,RV,RH,↓reduceIte,qE,reduceCtorEq,if_pos,↓RS,RG,qA,qM,qL,ty2,ty9,zhq,zhr,zai,Int.toNat_zero,Nat.zero_mul,qZ,qM,Nat.zero_add,Nat.mul_one,List.getElem?_cons_zero,List.getElem?_cons_succ]
 apply hK;clear hK K
 refine W.block ?_
 refine W.r fun K hK=>?_
 simp(disch:=omega)only[↓RU,RV,RH,↓reduceIte,qE,reduceCtorEq,if_pos,w64,↓RS,RG,qA,qM,qL,zab,dl0]
 apply hK;clear hK K
 refine W.cond rfl (fun h0=>?_) (fun h0=>?_)
 ·try simp only[RL]at h0
  exact absurd h0 (by simp)
 try simp only[RL]at h0
 refine W.r fun K hK=>?_
 simp(disch:=omega)only[↓RU,RV,RH,↓reduceIte,qE,reduceCtorEq,if_pos,w64,↓RS,RG,qA,qM,qL,zab,dl1]
 apply hK;clear hK K
 refine W.cond rfl (fun h1=>?_) (fun h1=>?_)
 ·try simp only[RL]at h1
  exact absurd h1 (by simp)
 try simp only[RL]at h1
 refine W.skip ?_
 refine XbN ?_
 refine xn ?_
 refine W.seq_draw (by kernel_rfl) fun K hK=>?_
 simp(disch:=omega)only[↓RU,RV,RH,↓reduceIte,qE,reduceCtorEq,if_pos,qN,w64,w64,↓RS,RG,qA,qM,qL,ty2,ty9,zhq,zq3,zaa,zhr,zai,Int.toNat_zero,Nat.zero_mul,qZ,qM,Nat.zero_add,Nat.mul_one,List.getElem?_cons_zero,List.getElem?_cons_succ,z8u,z5t hm,za7]
 refine zac.pc (i1) rfl (.inl rfl) ?_
 simp(disch:=omega)only[↓RU,RV,RH,↓reduceIte,qE,reduceCtorEq,if_pos,qN,w64,w64,↓RS,RG,qA,qM,qL,ty2,ty9,zhq,zq3,zaa,zhr,zai,Int.toNat_zero,Nat.zero_mul,qZ,qM,Nat.zero_add,Nat.mul_one,List.getElem?_cons_zero,List.getElem?_cons_succ,z8u,z5t hm,za7]
 refine zac.pc (i2) rfl (.inl rfl) ?_
 simp(disch:=omega)only[↓RU,RV,RH,↓reduceIte,qE,reduceCtorEq,if_pos,qN,w64,w64,↓RS,RG,qA,qM,qL,ty2,ty9,zhq,zq3,zaa,zhr,zai,Int.toNat_zero,Nat.zero_mul,qZ,qM,Nat.zero_add,Nat.mul_one,List.getElem?_cons_zero,List.getElem?_cons_succ,z8u,z5t hm,za7]
 apply hK;clear hK K
 refine W.ret ?_
 refine Br rfl ?_
 simp [reify,Env.put]
theorem z3u:∀ (u:Tm),u.pure→u.n≤100→PC Tryz.prog 22 [eT u] (.str (txT u)) true:=by
 intro u
 induction u with
 | o=>intro _ _; exact z6z
 | un c t _=>intro h; exact h.elim
 | bin m a b h1 h2 =>
  intro h h7
  simp only[Tm.n]at h7
  have la:=(znh h.2.1).1
  have lb:=(znh h.2.2).1
  exact z1u h.1 (by omega) (by omega) (h1 h.2.1 (by omega)) (h2 h.2.2 (by omega))
def ttV (s:Txt):Option Txt:=(ofT s).map fun t=>txT (td t)
def ppT (o:Option Txt):PV := .tup [.str (o.getD []),.bool o.isSome]
theorem znf (s:Txt) (hs:s.length≤1048576):PC Tryz.prog 7 [.str s] (ppT (ttV s)) true:=by
 refine PC.of ⟨Tryz.func7,by kernel_rfl,rfl,by kernel_rfl⟩ zal mixed (by show 1≤Tryz.f7.ntmps; decide) ?_
 refine W.r fun K hK=>?_
 simp(disch:=omega)only[↓RU,RV,RH,↓reduceIte,qE,reduceCtorEq,if_pos,↓RS,RG,qA,qM,qL]
 apply hK;clear hK K
 refine W.r fun K hK=>?_
 simp(disch:=omega)only[↓RU,RV,RH,↓reduceIte,qE,reduceCtorEq,if_pos,qN,↓RS,RG,qA,qM,qL]
 refine zac.pc (z1t s hs) rfl (.inr rfl) ?_
 simp(disch:=omega)only[↓RU,RV,RH,↓reduceIte,qE,reduceCtorEq,if_pos,qN,↓RS,RG,qA,qM,qL]
 apply hK;clear hK K
 refine W.seq ?_
 refine W.r fun K hK=>?_
 rcases ho:ofT s with _ | t
 ·skip
  rw [zt0]
  simp(disch:=omega)only[↓RU,RV,RH,↓reduceIte,qE,reduceCtorEq,if_pos,w64,↓RS,RG,qA,qM,qL,ty9,zid,zic,qO]
  apply hK;clear hK K
  refine W.cond rfl (fun h0=>?_) (fun h0=>?_)
  ·try simp only[RL]at h0
   refine W.r fun K hK=>?_
   simp(disch:=omega)only[↓RU,RV,RH,↓reduceIte,qE,reduceCtorEq,if_pos,↓RS,RG,qA,qM,qL]
   apply hK;clear hK K
   refine W.ret ?_
   refine XThen.ret ?_
   refine Br rfl ?_
   rw [show ttV s=none by unfold ttV; rw [ho]; rfl]
   rfl
  try simp only[RL]at h0
  exact absurd h0 (by simp)
 skip
 obtain ⟨cs,hcs⟩:=zek t
 obtain ⟨ds,hds⟩:=zek (td t)
 have hok:=zr9 ho
 have hpu:=zj3 hok.1
 have hT:=z61 hok.1
 have hP:=z3u (td t) hpu.1 (by have:=hok.2.1; omega)
 rw [zh2,hcs]
 rw [hcs,hds]at hT
 rw [hds]at hP
 simp(disch:=omega)only[↓RU,RV,RH,↓reduceIte,qE,reduceCtorEq,if_pos,w64,↓RS,RG,qA,qM,qL,ty9,zid,zic,qO]
 apply hK;clear hK K
 refine W.cond rfl (fun h0=>?_) (fun h0=>?_)
 ·try simp only[RL]at h0
  exact absurd h0 (by simp)
 try simp only[RL]at h0
 refine W.skip ?_
 refine xn ?_
 refine W.r fun K hK=>?_
 simp(disch:=omega)only[↓RU,RV,RH,↓reduceIte,qE,reduceCtorEq,if_pos,qN,↓RS,RG,qA,qM,qL]
 refine zac.pc (hT) rfl (.inr rfl) ?_
 simp(disch:=omega)only[↓RU,RV,RH,↓reduceIte,qE,reduceCtorEq,if_pos,qN,↓RS,RG,qA,qM,qL]
 refine zac.pc (hP) rfl (.inl rfl) ?_
 simp(disch:=omega)only[↓RU,RV,RH,↓reduceIte,qE,reduceCtorEq,if_pos,qN,↓RS,RG,qA,qM,qL]
 apply hK;clear hK K
 refine W.ret ?_
 refine Br rfl ?_
 rw [show ttV s=some (txT (td t)) by unfold ttV; rw [ho]; rfl]
 rfl
theorem zz3 (k:Nat) (f:Bool):PC Tryz.prog 25 [.agg (eS .o),.int .i64 k,.bool f] (.agg (eS .o)) false:=by
 simp only[eS]
 have d1:((111:Int) == 62)=false:=rfl
 have d2:((111:Int) == 94)=false:=rfl
 have d3:((111:Int) == 111)=true:=rfl
 refine PC.of ⟨Tryz.func25,by kernel_rfl,rfl,by kernel_rfl⟩ zal mixed (by show 3≤Tryz.f25.ntmps; decide) ?_
 refine W.r fun K hK=>?_
 simp(disch:=omega)only[↓RU,RV,RH,↓reduceIte,qE,reduceCtorEq,if_pos,↓RS,RG,qA,qM,qL,ty5,zb6,zb7,zai]
 apply hK;clear hK K
 refine W.seq ?_
 refine W.r fun K hK=>?_
 simp(disch:=omega)only[↓RU,RV,RH,↓reduceIte,qE,reduceCtorEq,if_pos,↓RS,RG,qA,qM,qL,ty5,zb6,zb7,zai,Int.toNat_zero,Nat.zero_mul,qZ,qM,Nat.zero_add,Nat.mul_one,List.getElem?_cons_zero,List.getElem?_cons_succ]
 apply hK;clear hK K
 refine W.block ?_
 refine W.r fun K hK=>?_
 simp(disch:=omega)only[↓RU,RV,RH,↓reduceIte,qE,reduceCtorEq,if_pos,w64,↓RS,RG,qA,qM,qL,zai,d1]
 apply hK;clear hK K
 refine W.cond rfl (fun h0=>?_) (fun h0=>?_)
 ·try simp only[RL]at h0
  exact absurd h0 (by simp)
 try simp only[RL]at h0
 refine W.r fun K hK=>?_
 simp(disch:=omega)only[↓RU,RV,RH,↓reduceIte,qE,reduceCtorEq,if_pos,w64,↓RS,RG,qA,qM,qL,zai,d2]
 apply hK;clear hK K
 refine W.cond rfl (fun h1=>?_) (fun h1=>?_)
 ·try simp only[RL]at h1
  exact absurd h1 (by simp)
 try simp only[RL]at h1
 refine W.r fun K hK=>?_
 simp(disch:=omega)only[↓RU,RV,RH,↓reduceIte,qE,reduceCtorEq,if_pos,w64,↓RS,RG,qA,qM,qL,zai,d3]
 apply hK;clear hK K
 refine W.cond rfl (fun h2=>?_) (fun h2=>?_)
 ·try simp only[RL]at h2
  refine W.r fun K hK=>?_
  simp(disch:=omega)only[↓RU,RV,RH,↓reduceIte,qE,reduceCtorEq,if_pos,↓RS,RG,qA,qM,qL,ty5,zb6,zb7,zai,Int.toNat_zero,Nat.zero_mul,qZ,qM,Nat.zero_add,Nat.mul_one,List.getElem?_cons_zero,List.getElem?_cons_succ]
  apply hK;clear hK K
  refine W.ret ?_
  refine XBlock.ret ?_
  refine XThen.ret ?_
  refine Br rfl ?_
  rfl
 try simp only[RL]at h2
 exact absurd h2 (by simp)
theorem zxp {c:UInt8} {t:Tm} {k:Nat} {f:Bool} (hc:c=62∨c=94) (hk:k<4) (ih:∀ (k:Nat) (f:Bool),k<4→PC Tryz.prog 25 [.agg (eS t),.int .i64 k,.bool f] (.agg (eS (tdS t k f))) false):PC Tryz.prog 25 [.agg (eS (.un c t)),.int .i64 k,.bool f] (.agg (eS (tdS (.un c t) k f))) false:=by
 obtain ⟨cu,us,un,hus⟩:=zcn t
 rw [hus]at ih
 simp only[eS,hus]
 refine PC.of ⟨Tryz.func25,by kernel_rfl,rfl,by kernel_rfl⟩ zal mixed (by show 3≤Tryz.f25.ntmps; decide) ?_
 refine W.r fun K hK=>?_
 simp(disch:=omega)only[↓RU,RV,RH,↓reduceIte,qE,reduceCtorEq,if_pos,↓RS,RG,qA,qM,qL,ty5,zb6,zb7,zai]
 apply hK;clear hK K
 refine W.seq ?_
 refine W.r fun K hK=>?_
 simp(disch:=omega)only[↓RU,RV,RH,↓reduceIte,qE,reduceCtorEq,if_pos,↓RS,RG,qA,qM,qL,ty5,zb6,zb7,zai,Int.toNat_zero,Nat.zero_mul,qZ,qM,Nat.zero_add,Nat.mul_one,List.getElem?_cons_zero,List.getElem?_cons_succ]
 apply hK;clear hK K
 refine W.block ?_
 refine W.r fun K hK=>?_
 rcases hc with hcc | hcc
 ·skip
  have d1:((c.toNat:Int) == 62)=true:=by rw [hcc]; rfl
  simp(disch:=omega)only[↓RU,RV,RH,↓reduceIte,qE,reduceCtorEq,if_pos,w64,↓RS,RG,qA,qM,qL,zai,d1]
  apply hK;clear hK K
  refine W.cond rfl (fun h0=>?_) (fun h0=>?_)
  ·try simp only[RL]at h0
   refine W.seq ?_
   refine W.r fun K hK=>?_
   simp(disch:=omega)only[↓RU,RV,RH,↓reduceIte,qE,reduceCtorEq,if_pos,↓RS,RG,qA,qM,qL]
   apply hK;clear hK K
   refine W.cond rfl (fun hf=>?_) (fun hf=>?_)
   ·try simp only[RL]at hf
    refine W.r fun K hK=>?_
    obtain ⟨cx,xs,xn,hxx⟩:=zcn (tdS t ((k+3) % 4) true)
    have hI:=ih ((k+3) % 4) true (by omega)
    rw [hxx]at hI
    subst hf
    have hm4:=z5a (a:=(k:Int)+3) (n:=k+3) (by omega)
    simp(disch:=omega)only[↓RU,RV,RH,↓reduceIte,qE,reduceCtorEq,if_pos,w64,qN,↓RS,RG,qA,qM,qL,ty5,zab,zb6,zb7,zai,Int.toNat_zero,Nat.zero_mul,qZ,qM,Nat.zero_add,Nat.mul_one,List.getElem?_cons_zero,List.getElem?_cons_succ,z2o,hm4]
    refine zac.pc (hI) rfl (.inr rfl) ?_
    simp(disch:=omega)only[↓RU,RV,RH,↓reduceIte,qE,reduceCtorEq,if_pos,w64,qN,↓RS,RG,qA,qM,qL,ty5,zab,zb6,zb7,zai,Int.toNat_zero,Nat.zero_mul,qZ,qM,Nat.zero_add,Nat.mul_one,List.getElem?_cons_zero,List.getElem?_cons_succ,z2o,hm4]
    apply hK;clear hK K
    refine W.ret ?_
    refine XThen.ret ?_
    refine XBlock.ret ?_
    refine XThen.ret ?_
    refine Br rfl ?_
    rw [show tdS (.un c t) k true=tdS t ((k+3) % 4) true by rw [tdS,if_pos hcc,if_pos rfl],hxx]
    rfl
   try simp only[RL]at hf
   refine W.skip ?_
   refine xn ?_
   refine W.r fun K hK=>?_
   obtain ⟨cx,xs,xn,hxx⟩:=zcn (tdS t ((k+1) % 4) false)
   have hI:=ih ((k+1) % 4) false (by omega)
   rw [hxx]at hI
   subst hf
   have hm4:=z5a (a:=(k:Int)+1) (n:=k+1) (by omega)
   simp(disch:=omega)only[↓RU,RV,RH,↓reduceIte,qE,reduceCtorEq,if_pos,w64,qN,↓RS,RG,qA,qM,qL,ty5,zab,zb6,zb7,zai,Int.toNat_zero,Nat.zero_mul,qZ,qM,Nat.zero_add,Nat.mul_one,List.getElem?_cons_zero,List.getElem?_cons_succ,z2o,hm4]
   refine zac.pc (hI) rfl (.inr rfl) ?_
   simp(disch:=omega)only[↓RU,RV,RH,↓reduceIte,qE,reduceCtorEq,if_pos,w64,qN,↓RS,RG,qA,qM,qL,ty5,zab,zb6,zb7,zai,Int.toNat_zero,Nat.zero_mul,qZ,qM,Nat.zero_add,Nat.mul_one,List.getElem?_cons_zero,List.getElem?_cons_succ,z2o,hm4]
   apply hK;clear hK K
   refine W.ret ?_
   refine XBlock.ret ?_
   refine XThen.ret ?_
   refine Br rfl ?_
   rw [show tdS (.un c t) k false=tdS t ((k+1) % 4) false by rw [tdS,if_pos hcc,if_neg (by decide)],hxx]
   rfl
  try simp only[RL]at h0
  exact absurd h0 (by simp)
 skip
 have d1:((c.toNat:Int) == 62)=false:=by rw [hcc]; rfl
 have d2:((c.toNat:Int) == 94)=true:=by rw [hcc]; rfl
 simp(disch:=omega)only[↓RU,RV,RH,↓reduceIte,qE,reduceCtorEq,if_pos,w64,↓RS,RG,qA,qM,qL,zai,d1]
 apply hK;clear hK K
 refine W.cond rfl (fun h0=>?_) (fun h0=>?_)
 ·try simp only[RL]at h0
  exact absurd h0 (by simp)
 try simp only[RL]at h0
 refine W.r fun K hK=>?_
 simp(disch:=omega)only[↓RU,RV,RH,↓reduceIte,qE,reduceCtorEq,if_pos,w64,↓RS,RG,qA,qM,qL,zai,d2]
 apply hK;clear hK K
 refine W.cond rfl (fun h2=>?_) (fun h2=>?_)
 ·try simp only[RL]at h2
  refine W.r fun K hK=>?_
  obtain ⟨cx,xs,xn,hxx⟩:=zcn (tdS t k (!f))
  have hI:=ih k (!f) (by omega)
  rw [hxx]at hI
  simp(disch:=omega)only[↓RU,RV,RH,↓reduceIte,qE,reduceCtorEq,if_pos,qN,↓RS,RG,qA,qM,qL,ty5,zb6,zb7,zai,Int.toNat_zero,Nat.zero_mul,qZ,qM,Nat.zero_add,Nat.mul_one,List.getElem?_cons_zero,List.getElem?_cons_succ]
  refine zac.pc (hI) rfl (.inr rfl) ?_
  simp(disch:=omega)only[↓RU,RV,RH,↓reduceIte,qE,reduceCtorEq,if_pos,qN,↓RS,RG,qA,qM,qL,ty5,zb6,zb7,zai,Int.toNat_zero,Nat.zero_mul,qZ,qM,Nat.zero_add,Nat.mul_one,List.getElem?_cons_zero,List.getElem?_cons_succ]
  apply hK;clear hK K
  refine W.ret ?_
  refine XBlock.ret ?_
  refine XThen.ret ?_
  refine Br rfl ?_
  rw [show tdS (.un c t) k f=tdS t k (!f) by rw [tdS,if_neg (by rw [hcc]; decide)],hxx]
  rfl
 try simp only[RL]at h2
 exact absurd h2 (by simp)
theorem zw6 {m:UInt8} {f:Bool} {k:Nat}:stS m f (k+1)=if (stS m f k).1=124 then (45,(stS m f k).2) else (124,!(stS m f k).2):=rfl
theorem z5c {c:UInt8}:((c.toNat:Int) == 124)=(c == 124):=by
 rw [Bool.eq_iff_iff,beq_iff_eq,beq_iff_eq]
 exact ⟨fun h=>u8i (k:=124) (by omega) (by decide),fun h=>by rw [h]; rfl⟩
theorem zue {m:UInt8} {a b:Tm} {k:Nat} {f:Bool} (hm:m=124∨m=45) (hk:k<4) (i1:PC Tryz.prog 25 [.agg (eS a),.int .i64 k,.bool f] (.agg (eS (tdS a k f))) false) (i2:PC Tryz.prog 25 [.agg (eS b),.int .i64 k,.bool f] (.agg (eS (tdS b k f))) false):PC Tryz.prog 25 [.agg (eS (.bin m a b)),.int .i64 k,.bool f] (.agg (eS (tdS (.bin m a b) k f))) false:=by
 obtain ⟨cu,us,un,hus⟩:=zcn a
 obtain ⟨cv,vs2,vn,hvs⟩:=zcn b
 obtain ⟨ca,qa,na,hha⟩:=zcn (tdS a k f)
 obtain ⟨cb,qb,nb,hhb⟩:=zcn (tdS b k f)
 have hI:=i1
 have hJ:=i2
 rw [hus,hha]at hI
 rw [hvs,hhb]at hJ
 simp only[eS,hus,hvs,List.cons_append,List.nil_append]
 have d1:((m.toNat:Int) == 62)=false:=by rcases hm with rfl | rfl <;> rfl
 have d2:((m.toNat:Int) == 94)=false:=by rcases hm with rfl | rfl <;> rfl
 have d3:((m.toNat:Int) == 111)=false:=by rcases hm with rfl | rfl <;> rfl
 refine PC.of ⟨Tryz.func25,by kernel_rfl,rfl,by kernel_rfl⟩ zal mixed (by show 3≤Tryz.f25.ntmps; decide) ?_
 refine W.r fun K hK=>?_
 simp(disch:=omega)only[↓RU,RV,RH,↓reduceIte,qE,reduceCtorEq,if_pos,↓RS,RG,qA,qM,qL,ty5,zb6,zb7,zai]
 apply hK;clear hK K
 refine W.seq ?_
 refine W.r fun K hK=>?_
 simp(disch:=omega)only[↓RU,RV,RH,↓reduceIte,qE,reduceCtorEq,if_pos,↓RS,RG,qA,qM,qL,ty5,zb6,zb7,zai,Int.toNat_zero,Nat.zero_mul,qZ,qM,Nat.zero_add,Nat.mul_one,List.getElem?_cons_zero,List.getElem?_cons_succ]
 apply hK;clear hK K
 refine W.block ?_
 refine W.r fun K hK=>?_
 simp(disch:=omega)only[↓RU,RV,RH,↓reduceIte,qE,reduceCtorEq,if_pos,w64,↓RS,RG,qA,qM,qL,zai,d1]
 apply hK;clear hK K
 refine W.cond rfl (fun h0=>?_) (fun h0=>?_)
 ·try simp only[RL]at h0
  exact absurd h0 (by simp)
 try simp only[RL]at h0
 refine W.r fun K hK=>?_
 simp(disch:=omega)only[↓RU,RV,RH,↓reduceIte,qE,reduceCtorEq,if_pos,w64,↓RS,RG,qA,qM,qL,zai,d2]
 apply hK;clear hK K
 refine W.cond rfl (fun h1=>?_) (fun h1=>?_)
 ·try simp only[RL]at h1
  exact absurd h1 (by simp)
 try simp only[RL]at h1
 refine W.r fun K hK=>?_
 simp(disch:=omega)only[↓RU,RV,RH,↓reduceIte,qE,reduceCtorEq,if_pos,w64,↓RS,RG,qA,qM,qL,zai,d3]
 apply hK;clear hK K
 refine W.cond rfl (fun h2=>?_) (fun h2=>?_)
 ·try simp only[RL]at h2
  exact absurd h2 (by simp)
 try simp only[RL]at h2
 refine W.skip ?_
 refine XbN ?_
 refine xn ?_
 refine W.r fun K hK=>?_
 simp(disch:=omega)only[↓RU,RV,RH,↓reduceIte,qE,reduceCtorEq,if_pos,↓RS,RG,qA,qM,qL,ty5,zb6,zb7,zai,Int.toNat_zero,Nat.zero_mul,qZ,qM,Nat.zero_add,Nat.mul_one,List.getElem?_cons_zero,List.getElem?_cons_succ]
 apply hK;clear hK K
 refine W.r fun K hK=>?_
 simp(disch:=omega)only[↓RU,RV,RH,↓reduceIte,qE,reduceCtorEq,if_pos,qN,↓RS,RG,qA,qM,qL,ty5,zb6,zb7,zai,Int.toNat_zero,Nat.zero_mul,qZ,qM,Nat.zero_add,Nat.mul_one,List.getElem?_cons_zero,List.getElem?_cons_succ]
 refine zac.pc (hI) rfl (.inr rfl) ?_
 simp(disch:=omega)only[↓RU,RV,RH,↓reduceIte,qE,reduceCtorEq,if_pos,qN,↓RS,RG,qA,qM,qL,ty5,zb6,zb7,zai,Int.toNat_zero,Nat.zero_mul,qZ,qM,Nat.zero_add,Nat.mul_one,List.getElem?_cons_zero,List.getElem?_cons_succ]
 apply hK;clear hK K
 refine W.r fun K hK=>?_
 simp(disch:=omega)only[↓RU,RV,RH,↓reduceIte,qE,reduceCtorEq,if_pos,qN,↓RS,RG,qA,qM,qL,ty5,zb6,zb7,zai,Int.toNat_zero,Nat.zero_mul,qZ,qM,Nat.zero_add,Nat.mul_one,List.getElem?_cons_zero,List.getElem?_cons_succ]
 refine zac.pc (hJ) rfl (.inr rfl) ?_
 simp(disch:=omega)only[↓RU,RV,RH,↓reduceIte,qE,reduceCtorEq,if_pos,qN,↓RS,RG,qA,qM,qL,ty5,zb6,zb7,zai,Int.toNat_zero,Nat.zero_mul,qZ,qM,Nat.zero_add,Nat.mul_one,List.getElem?_cons_zero,List.getElem?_cons_succ]
 apply hK;clear hK K
 refine W.join [1,6,7,8,9,10] (fun vs S=>vs=[.int .i64 k,.ref 1 1 0,eB m,.ref 2 2 0,.ref 3 3 0,.bool (f && m == 124)]∧S=⟨[.arr 0 41 2 [eB m,.sl [eB cu,.sl us un,eB cv,.sl vs2 vn] 2],.arr 1 41 2 [.int .u8 0,.nils],.arr 2 41 2 [eB ca,.sl qa na],.arr 3 41 2 [eB cb,.sl qb nb]],4⟩) ?_ ?_
 ·
  refine W.k fun K hK=>?_
  rcases hff:f with _ | _
  ·skip
   simp(disch:=omega)only[↓RU,RV,RH,↓reduceIte,qE,reduceCtorEq,if_pos,w64,↓RS,RG,qA,qM,qL,zai]
   apply hK;clear hK K
   refine xn ?_
   refine ⟨4,?_,rfl⟩
   rw [hff]
   simp [Env.put,Env.of,zaj,z5c]
  skip
  simp(disch:=omega)only[↓RU,RV,RH,↓reduceIte,qE,reduceCtorEq,if_pos,w64,↓RS,RG,qA,qM,qL,zai]
  apply hK;clear hK K
  refine xn ?_
  refine ⟨4,?_,rfl⟩
  rw [hff]
  simp [Env.put,Env.of,zaj,z5c]
 rintro vs S - ⟨rfl,rfl⟩
 refine W.seq ?_
 refine W.r fun K hK=>?_
 simp(disch:=omega)only[↓RU,RV,RH,↓reduceIte,qE,reduceCtorEq,if_pos,↓RS,RG,qA,qM,qL]
 apply hK;clear hK K
 refine W.block ?_
 refine W.loop [1,6,7,8,9,10,11] (fun n vs S=>∃ i:Nat,n=k - i∧i≤k∧vs=[.int .i64 k,.ref 1 1 0,eB (stS m f i).1,.ref 2 2 0,.ref 3 3 0,.bool (stS m f i).2,.int .i64 i]∧S=⟨[.arr 0 41 2 [eB m,.sl [eB cu,.sl us un,eB cv,.sl vs2 vn] 2],.arr 1 41 2 [.int .u8 0,.nils],.arr 2 41 2 [eB ca,.sl qa na],.arr 3 41 2 [eB cb,.sl qb nb]],4⟩) k ?_ ?_
 ·refine ⟨4,0,rfl,Nat.zero_le _,?_,rfl⟩
  simp [Env.put,Env.of,stS]
 rintro n vs S - ⟨i,rfl,h_i,rfl,rfl⟩
 refine W.seq ?_
 refine W.r fun K hK=>?_
 simp(disch:=omega)only[↓RU,RV,RH,↓reduceIte,qE,reduceCtorEq,if_pos,w64,↓RS,RG,qA,qM,qL,zab]
 apply hK;clear hK K
 refine W.cond rfl (fun h3=>?_) (fun h3=>?_)
 ·try simp only[RL]at h3
  refine W.skip ?_
  refine xn ?_
  refine W.seq ?_
  refine W.block ?_
  refine W.r fun K hK=>?_
  simp(disch:=omega)only[↓RU,RV,RH,↓reduceIte,qE,reduceCtorEq,if_pos,w64,↓RS,RG,qA,qM,qL,zai]
  apply hK;clear hK K
  refine W.cond rfl (fun h4=>?_) (fun h4=>?_)
  ·try simp only[RL]at h4
   have e124:(stS m f i).1=124:=u8i (k:=124) (by omega) (by decide)
   refine W.k fun K hK=>?_
   simp(disch:=omega)only[↓RU,RV,RH,↓reduceIte,qE,reduceCtorEq,if_pos,↓RS,RG,qA,qM,qL]
   apply hK;clear hK K
   refine XbN ?_
   refine xn ?_
   refine W.k fun K hK=>?_
   simp(disch:=omega)only[↓RU,RV,RH,↓reduceIte,qE,reduceCtorEq,if_pos,w64,↓RS,RG,qA,qM,qL,zab]
   apply hK;clear hK K
   refine xn ?_
   refine ⟨k - (i+1),by omega,4,i+1,rfl,by omega,?_,rfl⟩
   rw [zw6,if_pos e124]
   simp [Env.put,Env.of]
  try simp only[RL]at h4
  have e124:¬ (stS m f i).1=124:=fun e=>h4 (by rw [e]; rfl)
  refine W.r fun K hK=>?_
  simp(disch:=omega)only[↓RU,RV,RH,↓reduceIte,qE,reduceCtorEq,if_pos,↓RS,RG,qA,qM,qL]
  apply hK;clear hK K
  refine W.k fun K hK=>?_
  simp(disch:=omega)only[↓RU,RV,RH,↓reduceIte,qE,reduceCtorEq,if_pos,↓RS,RG,qA,qM,qL]
  apply hK;clear hK K
  refine XbN ?_
  refine xn ?_
  refine W.k fun K hK=>?_
  simp(disch:=omega)only[↓RU,RV,RH,↓reduceIte,qE,reduceCtorEq,if_pos,w64,↓RS,RG,qA,qM,qL,zab]
  apply hK;clear hK K
  refine xn ?_
  refine ⟨k - (i+1),by omega,4,i+1,rfl,by omega,?_,rfl⟩
  rw [zw6,if_neg e124]
  simp [Env.put,Env.of]
 try simp only[RL]at h3
 obtain rfl:i=k:=by omega
 refine W.exit ?_
 refine xe ?_
 refine xe ?_
 refine XBlock.hit ?_
 refine xn ?_
 refine W.seq ?_
 refine W.r fun K hK=>?_
 simp(disch:=omega)only[↓RU,RV,RH,↓reduceIte,qE,reduceCtorEq,if_pos,↓RS,RG,qA,qM,qL]
 apply hK;clear hK K
 refine W.cond rfl (fun h5=>?_) (fun h5=>?_)
 ·try simp only[RL]at h5
  refine W.r fun K hK=>?_
  simp(disch:=omega)only[↓RU,RV,RH,↓reduceIte,qE,reduceCtorEq,if_pos,↓RS,RG,qA,qM,qL,ty5,zb6,zb7,zai,Int.toNat_zero,Nat.zero_mul,qZ,qM,Nat.zero_add,Nat.mul_one,List.getElem?_cons_zero,List.getElem?_cons_succ]
  apply hK;clear hK K
  refine W.ret ?_
  refine XThen.ret ?_
  refine Br rfl ?_
  rw [show tdS (.bin m a b) i f = .bin (stS m f i).1 (tdS b i f) (tdS a i f) by rw [tdS,if_pos h5],eS,hha,hhb]
  rfl
 try simp only[RL]at h5
 refine W.skip ?_
 refine xn ?_
 refine W.r fun K hK=>?_
 simp(disch:=omega)only[↓RU,RV,RH,↓reduceIte,qE,reduceCtorEq,if_pos,↓RS,RG,qA,qM,qL,ty5,zb6,zb7,zai,Int.toNat_zero,Nat.zero_mul,qZ,qM,Nat.zero_add,Nat.mul_one,List.getElem?_cons_zero,List.getElem?_cons_succ]
 apply hK;clear hK K
 refine W.ret ?_
 refine Br rfl ?_
 rw [show tdS (.bin m a b) i f = .bin (stS m f i).1 (tdS a i f) (tdS b i f) by rw [tdS,if_neg (by rw [h5]; decide)],eS,hha,hhb]
 rfl
theorem zxo:∀ (t:Tm),t.ok→∀ (k:Nat) (f:Bool),k<4→PC Tryz.prog 25 [.agg (eS t),.int .i64 k,.bool f] (.agg (eS (tdS t k f))) false:=by
 intro t
 induction t with
 | o=>intro _ k f _; exact zz3 k f
 | un c t ih=>intro h k f hk; exact zxp h.1 hk fun k f hk=>ih h.2 k f hk
 | bin m a b h1 h2=>intro h k f hk; exact zue h.1 hk (h1 h.2.1 k f hk) (h2 h.2.2 k f hk)
theorem zz2  : PC Tryz.prog 24 [.agg (eS .o)] (.str (txT .o)) true:=by
 simp only[eS]
 have d1:((111:Int) == 111)=true:=rfl
 refine PC.of ⟨Tryz.func24,by kernel_rfl,rfl,by kernel_rfl⟩ zal mixed (by show 1≤Tryz.f24.ntmps; decide) ?_
 refine W.r fun K hK=>?_
 simp(disch:=omega)only[↓RU,RV,RH,↓reduceIte,qE,reduceCtorEq,if_pos,↓RS,RG,qA,qM,qL,ty5,zb6,zb7,zai]
 apply hK;clear hK K
 refine W.seq ?_
 refine W.r fun K hK=>?_
 simp(disch:=omega)only[↓RU,RV,RH,↓reduceIte,qE,reduceCtorEq,if_pos,w64,↓RS,RG,qA,qM,qL,ty5,zb6,zb7,zai,Int.toNat_zero,Nat.zero_mul,qZ,qM,Nat.zero_add,Nat.mul_one,List.getElem?_cons_zero,List.getElem?_cons_succ,d1]
 apply hK;clear hK K
 refine W.cond rfl (fun h0=>?_) (fun h0=>?_)
 ·try simp only[RL]at h0
  refine W.r fun K hK=>?_
  simp(disch:=omega)only[↓RU,RV,RH,↓reduceIte,qE,reduceCtorEq,if_pos,↓RS,RG,qA,qM,qL]
  apply hK;clear hK K
  refine W.ret ?_
  refine XThen.ret ?_
  refine Br rfl ?_
  rfl
 try simp only[RL]at h0
 exact absurd h0 (by simp)
theorem by1 {m:UInt8}:zcf [.int .u8 (m.toNat:Int)]=some [m]:=by simp [zcf]
theorem zxu (A B:Txt) (m:UInt8):([40]:Txt).length=1∧([m]:Txt).length=1∧([41]:Txt).length=1∧(40::A:Txt).length=A.length+1∧(40::A++[m]:Txt).length=A.length+2∧(40::(A++[m]):Txt).length=A.length+2∧(40::A++[m]++B:Txt).length=A.length+2+B.length∧(40::(A++[m]++B):Txt).length=A.length+2+B.length∧(40::(A++[m])++B:Txt).length=A.length+2+B.length:=by
 refine ⟨rfl,rfl,rfl,rfl,?_,?_,?_,?_,?_⟩ <;> simp <;> omega
theorem zud {m:UInt8} {a b:Tm} {A B:Txt} (hm:m=124∨m=45) (hA:A.length≤1000) (hB:B.length≤1000) (i1:PC Tryz.prog 24 [.agg (eS a)] (.str A) true) (i2:PC Tryz.prog 24 [.agg (eS b)] (.str B) true):PC Tryz.prog 24 [.agg (eS (.bin m a b))] (.str (40::(A++m::(B++[41])))) true:=by
 obtain ⟨cu,us,un,hus⟩:=zcn a
 obtain ⟨cv,ws,wn,hvs⟩:=zcn b
 rw [hus]at i1
 rw [hvs]at i2
 simp only[eS,hus,hvs,List.cons_append,List.nil_append]
 have d1:((m.toNat:Int) == 111)=false:=by rcases hm with rfl | rfl <;> rfl
 obtain ⟨l0,l1,l2,l3,l4,l4b,l5,l5b,l5c⟩:=zxu A B m
 refine PC.of ⟨Tryz.func24,by kernel_rfl,rfl,by kernel_rfl⟩ zal mixed (by show 1≤Tryz.f24.ntmps; decide) ?_
 refine W.r fun K hK=>?_
 simp(disch:=omega)only[↓RU,RV,RH,↓reduceIte,qE,reduceCtorEq,if_pos,↓RS,RG,qA,qM,qL,ty5,zb6,zb7,zai]
 apply hK;clear hK K
 refine W.seq ?_
 refine W.r fun K hK=>?_
 simp(disch:=omega)only[↓RU,RV,RH,↓reduceIte,qE,reduceCtorEq,if_pos,w64,↓RS,RG,qA,qM,qL,ty5,zb6,zb7,zai,Int.toNat_zero,Nat.zero_mul,qZ,qM,Nat.zero_add,Nat.mul_one,List.getElem?_cons_zero,List.getElem?_cons_succ,d1]
 apply hK;clear hK K
 refine W.cond rfl (fun h0=>?_) (fun h0=>?_)
 ·try simp only[RL]at h0
  exact absurd h0 (by simp)
 try simp only[RL]at h0
 refine W.skip ?_
 refine xn ?_
 refine W.join [2] (fun vs S=>vs=[.str (40::(A++m::(B++[41])))]) ?_ ?_
 ·
  refine W.foldS [1] (I:=fun vs S=>∃ t:Nat,vs=[.ip [eB m,.sl [eB cu,.sl us un,eB cv,.sl ws wn] 2] 0]∧S=⟨[],t⟩) ⟨0,[],[.ip [eB m,.sl [eB cu,.sl us un,eB cv,.sl ws wn] 2] 0],⟨[],2⟩,?_,?_,2,rfl,rfl⟩ ?_
  ·rfl
  ·rfl
  rintro vs S - ⟨t,rfl,rfl⟩
  refine W.region_any [0,1,2,3,4,5,6,7,11,12,13,14,15,8,9,10,16,17,18] [8] [0,1,2,3,4,5,6,7,11,12,13,14,15] [] (by kernel_rfl) ?_
  refine zcq rfl rfl rfl (.ip [eB m,.sl [eB cu,.sl us un,eB cv,.sl ws wn] 2] 1) (fun _ _=>rfl) ?_
  refine zcq rfl rfl rfl (.sl [eB cu,.sl us un,eB cv,.sl ws wn] 2) (fun _ _=>rfl) ?_
  refine zcq rfl rfl rfl (.ip [eB cu,.sl us un,eB cv,.sl ws wn] 0) (fun _ _=>rfl) ?_
  refine zcq rfl rfl rfl (.agg [eB cu,.sl us un]) (fun _ _=>rfl) ?_
  refine zcq rfl rfl rfl (.str A) (fun _ _=>⟨_,_,rfl,.inl rfl,i1⟩) ?_
  refine zcq rfl rfl rfl (.str (40::A)) (fun _ _=>za7 (a:=[40]) (b:=A) (by omega)) ?_
  refine zcq rfl rfl rfl (.ip [eB m,.sl [eB cu,.sl us un,eB cv,.sl ws wn] 2] 0) (fun _ _=>rfl) ?_
  refine zcq rfl rfl rfl (eB m) (fun _ _=>rfl) ?_
  refine zcq rfl rfl rfl (.ip [eB m,.sl [eB cu,.sl us un,eB cv,.sl ws wn] 2] 1) (fun _ _=>rfl) ?_
  refine zcq rfl rfl rfl (.sl [eB cu,.sl us un,eB cv,.sl ws wn] 2) (fun _ _=>rfl) ?_
  refine zcq rfl rfl rfl (.ip [eB cu,.sl us un,eB cv,.sl ws wn] 2) (fun _ _=>rfl) ?_
  refine zcq rfl rfl rfl (.agg [eB cv,.sl ws wn]) (fun _ _=>rfl) ?_
  refine zcq rfl rfl rfl (.str B) (fun _ _=>⟨_,_,rfl,.inl rfl,i2⟩) ?_
  refine z74 rfl rfl rfl ?_
  refine ⟨by decide,by decide,?_⟩
  refine ⟨?_,z2w,?_⟩
  ·exact (show zao [eB m] from by intro p hp; rw [List.mem_singleton]at hp; subst hp; rfl)
  refine zmt rfl rfl rfl rfl (.str [m]) (by show (Option.bind (zaz (Store.push ⟨[],t⟩ 5 1 [eB m]) 1 (.loc 0 t 0 1)) fun q=>(zcf q.2).map PV.str)=some (.str [m]); simp [zaz,Store.cellsOf,Store.push,by1]) ?_
  refine zmt rfl rfl rfl rfl (.str (40::A++[m])) (za7 (a:=40::A) (b:=[m]) (by omega)) ?_
  refine zmt rfl rfl rfl rfl (.str (40::A++[m]++B)) (za7 (a:=40::A++[m]) (b:=B) (by omega)) ?_
  refine zmt rfl rfl rfl rfl (.str (40::A++[m]++B++[41])) (za7 (a:=40::A++[m]++B) (b:=[41]) (by omega)) ?_
  refine zmt rfl rfl rfl rfl (.str (40::A++[m]++B++[41])) (rfl) ?_
  simp only[zbq]
  refine xn ?_
  refine ⟨0,?_⟩
  simp [Env.put]
 rintro vs S - rfl
 refine W.ret ?_
 refine Br rfl ?_
 rfl
theorem zxn:∀ (u:Tm),u.pure→u.n≤100→PC Tryz.prog 24 [.agg (eS u)] (.str (txT u)) true:=by
 intro u
 induction u with
 | o=>intro _ _; exact zz2
 | un c t _=>intro h; exact h.elim
 | bin m a b h1 h2 =>
  intro h h7
  simp only[Tm.n]at h7
  have la:=(znh h.2.1).1
  have lb:=(znh h.2.2).1
  exact zud h.1 (by omega) (by omega) (h1 h.2.1 (by omega)) (h2 h.2.2 (by omega))
theorem ztc (s:Txt) (hs:s.length≤1048576):PC Tryz.prog 8 [.str s] (ppT (ttV s)) true:=by
 obtain ⟨cu,us,un,hus⟩:=zcn (ofU s)
 have hO:=z2x s hs
 unfold ofV at hO
 rw [hus]at hO
 refine PC.of ⟨Tryz.func8,by kernel_rfl,rfl,by kernel_rfl⟩ zal mixed (by show 1≤Tryz.f8.ntmps; decide) ?_
 refine W.r fun K hK=>?_
 simp(disch:=omega)only[↓RU,RV,RH,↓reduceIte,qE,reduceCtorEq,if_pos,↓RS,RG,qA,qM,qL]
 apply hK;clear hK K
 refine W.r fun K hK=>?_
 simp(disch:=omega)only[↓RU,RV,RH,↓reduceIte,qE,reduceCtorEq,if_pos,qN,↓RS,RG,qA,qM,qL,ty5,zb6,zb7,zai,Int.toNat_zero,Nat.zero_mul,qZ,qM,Nat.zero_add,Nat.mul_one,List.getElem?_cons_zero,List.getElem?_cons_succ]
 refine zac.pc (hO) rfl (.inr rfl) ?_
 simp(disch:=omega)only[↓RU,RV,RH,↓reduceIte,qE,reduceCtorEq,if_pos,qN,↓RS,RG,qA,qM,qL,ty5,zb6,zb7,zai,Int.toNat_zero,Nat.zero_mul,qZ,qM,Nat.zero_add,Nat.mul_one,List.getElem?_cons_zero,List.getElem?_cons_succ]
 apply hK;clear hK K
 refine W.seq ?_
 refine W.r fun K hK=>?_
 rcases ho:ofT s with _ | t
 ·skip
  simp(disch:=omega)only[↓RU,RV,RH,↓reduceIte,qE,reduceCtorEq,if_pos,↓RS,RG,qA,qM,qL,Option.isSome_none,Bool.not_false]
  apply hK;clear hK K
  refine W.cond rfl (fun h0=>?_) (fun h0=>?_)
  ·try simp only[RL]at h0
   refine W.r fun K hK=>?_
   simp(disch:=omega)only[↓RU,RV,RH,↓reduceIte,qE,reduceCtorEq,if_pos,↓RS,RG,qA,qM,qL]
   apply hK;clear hK K
   refine W.ret ?_
   refine XThen.ret ?_
   refine Br rfl ?_
   rw [show ttV s=none by unfold ttV; rw [ho]; rfl]
   rfl
  try simp only[RL]at h0
  exact absurd h0 (by simp)
 skip
 have hok:=zr9 ho
 have hpu:=zj3 hok.1
 have hT:=zxo t hok.1 0 false (by omega)
 have e0:tdS t 0 false=td t:=z8f hok.1 (by omega)
 rw [e0]at hT
 obtain ⟨cv,vs2,vn,hvs⟩:=zcn (td t)
 have hP:=zxn (td t) hpu.1 (by have:=hok.2.1; omega)
 rw [hvs]at hP
 rw [hvs,← z72 ho,hus]at hT
 simp(disch:=omega)only[↓RU,RV,RH,↓reduceIte,qE,reduceCtorEq,if_pos,↓RS,RG,qA,qM,qL,Option.isSome_some,Bool.not_true]
 apply hK;clear hK K
 refine W.cond rfl (fun h0=>?_) (fun h0=>?_)
 ·try simp only[RL]at h0
  exact absurd h0 (by simp)
 try simp only[RL]at h0
 refine W.skip ?_
 refine xn ?_
 refine W.r fun K hK=>?_
 simp(disch:=omega)only[↓RU,RV,RH,↓reduceIte,qE,reduceCtorEq,if_pos,qN,↓RS,RG,qA,qM,qL,ty5,zb6,zb7,zai,Int.toNat_zero,Nat.zero_mul,qZ,qM,Nat.zero_add,Nat.mul_one,List.getElem?_cons_zero,List.getElem?_cons_succ]
 refine zac.pc (hT) rfl (.inr rfl) ?_
 simp(disch:=omega)only[↓RU,RV,RH,↓reduceIte,qE,reduceCtorEq,if_pos,qN,↓RS,RG,qA,qM,qL,ty5,zb6,zb7,zai,Int.toNat_zero,Nat.zero_mul,qZ,qM,Nat.zero_add,Nat.mul_one,List.getElem?_cons_zero,List.getElem?_cons_succ]
 refine zac.pc (hP) rfl (.inl rfl) ?_
 simp(disch:=omega)only[↓RU,RV,RH,↓reduceIte,qE,reduceCtorEq,if_pos,qN,↓RS,RG,qA,qM,qL,ty5,zb6,zb7,zai,Int.toNat_zero,Nat.zero_mul,qZ,qM,Nat.zero_add,Nat.mul_one,List.getElem?_cons_zero,List.getElem?_cons_succ]
 apply hK;clear hK K
 refine W.ret ?_
 refine Br rfl ?_
 rw [show ttV s=some (txT (td t)) by unfold ttV; rw [ho]; rfl]
 rfl
section
open Go Go.RowKit
set_option maxHeartbeats 1000000 in
set_option maxRecDepth 100000 in
theorem zmj (s:ByteArray) (c:UInt8) (w:World) :
  Calls Tryz.prog 282 #[.string s,.int .u8 c.toNat] w fun e w'=>e = .returned (.int .i64 (Lib.indexByte s.data.toList c))∧w'=w:=by
 have hc:((c.toNat:Int)).toNat.toUInt8=c:=by simp
 go_enter Tryz.func282,Tryz.ntmps282
 go_wp2
 rw [run_callFunc_extern Tryz.func315 (by kernel_rfl) (by kernel_rfl) (by kernel_rfl) (e:=Extern.BytealgIndexByte.indexByte) (by kernel_rfl)]
 rw [Lib.run_indexByteString,hc]
 simp only[Result.andThen]
 rw [Oper.upon_value]
 go_wp2
 go_ret
 exact ⟨rfl,rfl⟩
theorem zry (s:List UInt8) (c:UInt8):PC Tryz.prog 282 [.str s,.int .u8 c.toNat] (.int .i64 (Lib.indexByte s c)) true:=by
 refine ⟨(⟨Tryz.func282,by kernel_rfl,rfl,by kernel_rfl⟩:Fn Tryz.prog 282 _ _).ent,fun F w cargs hF hl hv=>?_⟩
 obtain ⟨cs⟩:=cargs
 match cs,hl,hv with
 | [c0,c1],_,hv =>
  have h0:=hv 0 _ _ rfl rfl
  have h1:=hv 1 _ _ rfl rfl
  cases h0 with
  | str _ b0 e0 =>
   cases h1 with
   | int _ _ =>
    refine (zmj b0 c w).mono ?_
    rintro e w' ⟨rfl,rfl⟩
    exact ⟨_,rfl,⟨RowKit.Below.refl _ _,qR _⟩,by rw [e0]; exact .int _ _⟩
end
end Fw
end Go.Proofs.YthbombjjioojeaaGreatDoor
