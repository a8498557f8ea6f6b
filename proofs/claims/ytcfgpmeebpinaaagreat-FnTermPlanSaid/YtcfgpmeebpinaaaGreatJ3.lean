/- Parts of the framework and of the proof: The program's closures and walls in words of cells: left of is going on from just left of, above is going on from just above; Orders of a plain plan: each two rooms are in just one; Where rooms begin and how far they may be moved: the program's lists are the specification's; Shapes in plain words: the program's least shapes are the specification's; Sizes in plain words: areas, places, slacks, longest rows; Grids whose cells are alike are numbered alike; the text of a numbered grid is named as it should be; Orders of plans that are made of other plans: rows and columns exchanged, turned, seen from behind, made wide or tight; Rooms put in a row by how many are ahead of them; The two orders are orders of all rooms; the places of the second order in the first one; What the laws of sizes ask, of plans in plain words; Longest rows of rooms, as the specification finds them, in plain words; Longest growing parts of the permutation of a plan are longest rows of its rooms; Plans that are made of other plans: their orders, their permutations and their least sizes; Upright cuts are where the permutation falls apart; Two plans side by side: their orders; Two plans side by side: their orders are those of each, and the first one's rooms are left of the second one's; Grids that are made of cells told by a function, gone through; Plans made of plans, gone through; Rooms of two plans put together, beside each other or one below the other: the permutation; Plans made of two plans beside each other or one below the other, each stretched where they meet; Cut trees: parts of plans, their first cuts, and the tree of all; Parts of plans as texts: the specification's cut and its parts; Parts of plans in the program: the rooms of a part, its lines, its cut; Cut trees, gone down; what is told along them; Cuts and orders: what lies on the two sides of a cut; widths along cuts are least widths; Plans that are cuttable, by the orders of their rooms; so by their permutations; Permutations of plain plans are fair; Loose permutations are those that fall apart; Cuts in the specification, gone through; Texts along cuts and widths along cuts in the specification, gone through; Fair and loose permutations of plain plans, as the program asks; Terms: signs moved inwards; permutations of terms; Plans of terms; The framework, part z: a region in which the bytes of a text become a new row that is written later; Drawing: the reader, gone through. -/
import Derived.Test.YtcfgpmeebpinaaaGreatJ2
import Derived.Test.YtcfgpmeebpinaaaGreatJ1
import Derived.Lib.ConvBytes
set_option linter.all false
namespace Go.Proofs.YtcfgpmeebpinaaaGreat
namespace Fw
open Go
open Nat renaming reduceEqDiff → qE, reduceLeDiff → qL, reduceAdd → qA, reduceMul → qM, le_refl → qR
open List renaming append_nil → qN, mapM_append → qP, mapM_cons → qC, mapM_map → qU, range_succ → qS, take_of_length_le → qT
open Bool renaming and_eq_true → qB, false_eq_true → qF
open Option renaming map_some → qO, map_eq_some_iff → qI
open Int renaming reduceToNat → qZ
section
section
variable {n:Nat} {M:List (List Bool)}
theorem absorb {p q:Bool}:(p || (q && p))=p:=by cases p <;> cases q <;> rfl
theorem z19 (h:Sq n M) {k:Nat} (hk:k<n):∀ i,i≤n→Sq n ((List.range i).foldl (clA n k) M) ∧
  ∀ x y,x<n→y<n→zci ((List.range i).foldl (clA n k) M) x y=if x<i then zci M x y || (zci M x k && zci M k y) else zci M x y
 | 0,_=>⟨h,fun x y _ _=>by simp⟩
 | i+1,hi=>by
  obtain ⟨h1,h2⟩:=z19 h hk i (by omega)
  rw [zex]
  generalize (List.range i).foldl (clA n k) M=X at h1 h2 ⊢
  obtain ⟨h3,h4⟩:=z8t h1 hk (show i<n by omega) n (qR _)
  refine ⟨h3,fun x y hx hy=>?_⟩
  unfold clA
  rw [h4 x y hx hy]
  by_cases e:x=i
  ·subst e
   have e1:zci X x y=zci M x y:=by rw [h2 x y hx hy,if_neg (Nat.lt_irrefl _)]
   have e2:zci X x k=zci M x k:=by rw [h2 x k hx hk,if_neg (Nat.lt_irrefl _)]
   have e3:zci X k y=zci M k y:=by
    rw [h2 k y hk hy]
    split
    ·exact absorb
    rfl
   rw [if_pos ⟨rfl,hy⟩,if_pos (by omega),e1,e2,e3]
  rw [if_neg (fun q=>e q.1),h2 x y hx hy]
  by_cases e2:x<i
  ·rw [if_pos e2,if_pos (by omega)]
  rw [if_neg e2,if_neg (by omega)]
theorem yac (h:Sq n M) {k:Nat} (hk:k<n) {x y:Nat} (hx:x<n) (hy:y<n):zci (clK n M k) x y=(zci M x y || (zci M x k && zci M k y)):=by
 have:=(z19 h hk n (qR _)).2 x y hx hy
 rw [if_pos hx]at this
 exact this
theorem zxw (h:Sq n M):∀ i,i≤n→Sq n ((List.range i).foldl (clK n) M) ∧
  (∀ a b,a<n→b<n→zci M a b=true→zci ((List.range i).foldl (clK n) M) a b=true) ∧
  (∀ m a b,m<i→a<n→b<n→zci ((List.range i).foldl (clK n) M) a m=true→zci ((List.range i).foldl (clK n) M) m b=true→zci ((List.range i).foldl (clK n) M) a b=true) ∧
  (∀ T:Nat→Nat→Prop,(∀ a b d,T a b→T b d→T a d)→(∀ a b,a<n→b<n→zci M a b=true→T a b)→∀ a b,a<n→b<n→zci ((List.range i).foldl (clK n) M) a b=true→T a b)
 | 0,_=>⟨h,fun a b _ _ k=>k,fun m a b k=>by omega,fun T _ k=>k⟩
 | i+1,hi=>by
  obtain ⟨h1,h2,h3,h4⟩:=zxw h i (by omega)
  rw [zex]
  generalize (List.range i).foldl (clK n) M=X at h1 h2 h3 h4 ⊢
  have hin:i<n:=by omega
  have g:∀ {x y:Nat},x<n→y<n→(zci (clK n X i) x y=true↔zci X x y=true∨(zci X x i=true∧zci X i y=true)):=by
   intro x y hx hy
   rw [yac h1 hin hx hy]; simp
  refine ⟨(z19 h1 hin n (qR _)).1,fun a b ha hb k=>(g ha hb).2 (.inl (h2 a b ha hb k)),fun m a b hm ha hb k1 k2=>?_,fun T tr hT a b ha hb k=>?_⟩
  ·have hmn:m<n:=by omega
   rw [g ha hmn]at k1
   rw [g hmn hb]at k2
   rw [g ha hb]
   by_cases e:m=i
   ·subst e
    rcases k1 with k1 | k1 <;> rcases k2 with k2 | k2
    ·exact .inr ⟨k1,k2⟩
    ·exact .inr ⟨k1,k2.2⟩
    ·exact .inr ⟨k1.1,k2⟩
    exact .inr ⟨k1.1,k2.2⟩
   have hmi:m<i:=by omega
   rcases k1 with k1 | k1 <;> rcases k2 with k2 | k2
   ·exact .inl (h3 m a b hmi ha hb k1 k2)
   ·exact .inr ⟨h3 m a i hmi ha hin k1 k2.1,k2.2⟩
   ·exact .inr ⟨k1.1,h3 m i b hmi hin hb k1.2 k2⟩
   exact .inr ⟨k1.1,k2.2⟩
  rw [g ha hb]at k
  rcases k with k | k
  ·exact h4 T tr hT a b ha hb k
  exact tr a i b (h4 T tr hT a i ha hin k.1) (h4 T tr hT i b hin hb k.2)
def MR (n:Nat) (M:List (List Bool)) (a b:Nat):Prop:=a<n∧b<n∧zci M a b=true
theorem zxv (h:Sq n M) {a b:Nat} (ha:a<n) (hb:b<n):zci (ztm M) a b=true↔TC (MR n M) a b:=by
 obtain ⟨h1,h2,h3,h4⟩:=zxw h n (qR _)
 have e:ztm M=(List.range n).foldl (clK n) M:=by unfold ztm; rw [h.1]
 rw [e]
 constructor
 ·exact h4 (TC (MR n M)) (fun _ _ _ p q=>p.trans q) (fun a b ha hb k => .one ⟨ha,hb,k⟩) a b ha hb
 intro k
 induction k with
 | one k=>exact h2 _ _ k.1 k.2.1 k.2.2
 | tail _ k ih=>exact h3 _ _ _ k.1 ha k.2.1 (ih k.1) (h2 _ _ k.1 k.2.1 k.2.2)
end
def Cov (ws:List Wall) (level:Bool) (line i1 i2:Nat):Prop:=∃ w∈ws,w.level=level∧w.line=line∧w.fr≤i1∧(i2:Int)<w.fr+w.long
theorem Cov.app {ws vs:List Wall} {level:Bool} {line i1 i2:Nat} (h:Cov ws level line i1 i2):Cov (ws++vs) level line i1 i2:=by
 obtain ⟨w,hw,k⟩:=h
 exact ⟨w,List.mem_append_left _ hw,k⟩
theorem Cov.long {ws:List Wall} {w:Wall} {level:Bool} {line i1 i2:Nat} (h:Cov (ws++[w]) level line i1 i2):Cov (ws++[{ w with long:=w.long+1 }]) level line i1 i2:=by
 obtain ⟨v,hv,k1,k2,k3,k4⟩:=h
 rcases List.mem_append.1 hv with hv | hv
 ·exact ⟨v,List.mem_append_left _ hv,k1,k2,k3,k4⟩
 rw [List.mem_singleton]at hv
 subst hv
 exact ⟨_,List.mem_append_right _ (List.mem_singleton.2 rfl),k1,k2,k3,by simp only; omega⟩
def Run (g:List (List Int)) (level:Bool) (line i1 i2:Nat):Prop:=∀ j,i1≤j→j≤i2→zmi g level line j=true
theorem zrm {g:List (List Int)} {level:Bool} {line:Nat} {ws:List Wall}:∀ n,(∀ lv ln i1 i2,Cov ws lv ln i1 i2→Cov (ze4 g level line ws n).1 lv ln i1 i2) ∧
  (∀ i1 i2,i1≤i2→i2<n→Run g level line i1 i2→Cov (ze4 g level line ws n).1 level line i1 i2) ∧
  ((ze4 g level line ws n).2=false→∀ m,n=m+1→zmi g level line m=false) ∧
  ((ze4 g level line ws n).2=true→∃ (ws0:List Wall) (w:Wall),(ze4 g level line ws n).1=ws0++[w]∧w.level=level∧w.line=(line:Int)∧w.fr+w.long=(n:Int)∧1≤w.long∧∀ i:Nat,i<n→Run g level line i (n - 1)→w.fr≤(i:Int))
 | 0=>by
  rw [zxm]
  exact ⟨fun _ _ _ _ h=>h,fun i1 i2 _ h=>by omega,fun _ m h=>by omega,fun h=>by cases h⟩
 | n+1=>by
  obtain ⟨h1,h2,h3,h4⟩:=zrm (g:=g) (level:=level) (line:=line) (ws:=ws) n
  rw [zpu]
  generalize ze4 g level line ws n=s at h1 h2 h3 h4
  obtain ⟨l,op⟩:=s
  simp only at h1 h2 h3 h4
  cases hd:zmi g level line n with
  | false =>
   have e:zig false level line n (l,op)=(l,false):=by simp [zig]
   rw [e]
   refine ⟨h1,fun i1 i2 k1 k2 k3=>?_,fun _ m hm=>(by have e0:m=n:=(by omega); rw [e0]; exact hd),fun h=>by cases h⟩
   by_cases e2:i2=n
   ·subst e2
    have:=k3 i2 k1 (qR _)
    rw [hd]at this; cases this
   exact h2 i1 i2 k1 (by omega) k3
  | true =>
   cases op with
   | false =>
    have e:zig true level line n (l,false)=(l++[⟨level,line,n,1⟩],true):=by simp [zig]
    rw [e]
    have hno:∀ m,n=m+1→zmi g level line m=false:=h3 rfl
    have first:∀ i,i<n+1→Run g level line i n→i=n:=by
     intro i hi hr
     by_cases e2:i=n
     ·exact e2
     have:=hr (n - 1) (by omega) (by omega)
     rw [hno (n - 1) (by omega)]at this; cases this
    refine ⟨fun lv ln i1 i2 k=>(h1 lv ln i1 i2 k).app,fun i1 i2 k1 k2 k3=>?_,fun h=>(by cases h),fun _=>⟨l,_,rfl,rfl,rfl,by simp,by simp,fun i hi hr=>?_⟩⟩
    ·by_cases e2:i2=n
     ·subst e2
      obtain rfl:=first i1 (by omega) k3
      exact ⟨_,List.mem_append_right _ (List.mem_singleton.2 rfl),rfl,rfl,Int.le_refl _,by simp only; omega⟩
     exact (h2 i1 i2 k1 (by omega) k3).app
    have:=first i hi hr
    simp only; omega
   | true =>
    obtain ⟨ws0,w,rfl,w1,w2,w3,w4,w5⟩:=h4 rfl
    have e:zig true level line n (ws0++[w],true)=(ws0++[{ w with long:=w.long+1 }],true):=by simp [zig]
    rw [e]
    have hfr:∀ i:Nat,i<n+1→Run g level line i n→w.fr≤(i:Int):=by
     intro i hi hr
     by_cases e2:i=n
     ·omega
     exact w5 i (by omega) fun j j1 j2=>hr j j1 (by omega)
    refine ⟨fun lv ln i1 i2 k=>(h1 lv ln i1 i2 k).long,fun i1 i2 k1 k2 k3=>?_,fun h=>(by cases h),fun _=>⟨ws0,_,rfl,w1,w2,by simp only; omega,by simp only; omega,fun i hi hr=>hfr i hi hr⟩⟩
    by_cases e2:i2=n
    ·subst e2
     have:=hfr i1 (by omega) k3
     exact ⟨_,List.mem_append_right _ (List.mem_singleton.2 rfl),w1,w2,this,by simp only; omega⟩
    exact (h2 i1 i2 k1 (by omega) k3).long
theorem zj4 {g:List (List Int)} {level:Bool} {places:Nat} {ws:List Wall}:∀ lines,(∀ lv ln i1 i2,Cov ws lv ln i1 i2→Cov (zeh g level places ws lines) lv ln i1 i2) ∧
  (∀ line i1 i2,1≤line→line<lines→i1≤i2→i2<places→Run g level line i1 i2→Cov (zeh g level places ws lines) level line i1 i2)
 | 0=>⟨fun _ _ _ _ h=>h,fun line _ _ _ h=>by omega⟩
 | k+1=>by
  obtain ⟨h1,h2⟩:=zj4 (g:=g) (level:=level) (places:=places) (ws:=ws) k
  by_cases hk:1≤k
  ·rw [zm5 hk]
   obtain ⟨l1,l2,-,-⟩:=zrm (g:=g) (level:=level) (line:=k) (ws:=zeh g level places ws k) places
   refine ⟨fun lv ln i1 i2 q=>l1 _ _ _ _ (h1 _ _ _ _ q),fun line i1 i2 q1 q2 q3 q4 q5=>?_⟩
   by_cases e:line=k
   ·subst e; exact l2 i1 i2 q3 q4 q5
   exact l1 _ _ _ _ (h2 line i1 i2 q1 (by omega) q3 q4 q5)
  obtain rfl:k=0:=by omega
  rw [zxl]
  exact ⟨fun _ _ _ _ h=>h,fun line _ _ q1 q2=>by omega⟩
theorem zrl {g:List (List Int)} {H W:Nat} {level:Bool} {line i1 i2:Nat} (h1:1≤line) (h2:line<if level then H else W) (h3:i1≤i2) (h4:i2<if level then W else H) (hr:Run g level line i1 i2):Cov (zm4 g H W) level line i1 i2:=by
 unfold zm4
 obtain ⟨a1,a2⟩:=zj4 (g:=g) (level:=false) (places:=H) (ws:=[]) W
 obtain ⟨b1,b2⟩:=zj4 (g:=g) (level:=true) (places:=W) (ws:=zeh g false H [] W) H
 cases level with
 | false=>exact b1 _ _ _ _ (a2 line i1 i2 h1 h2 h3 h4 hr)
 | true=>exact b2 line i1 i2 h1 h2 h3 h4 hr
section
variable {n:Nat}
theorem zzd {a:Int} (ha:0≤a∧a<n):∀ {bs:List Int} {M:List (List Bool)},Rm n bs→Sq n M→Sq n (z9g a bs M)∧∀ x y,zci (z9g a bs M) x y=true↔zci M x y=true∨(x=a.toNat∧∃ b∈bs,y=b.toNat)
 | [],M,_,h=>⟨h,fun x y=>by simp [z9g]⟩
 | b::bs,M,hb,h=>by
  have hb0:=hb b (by simp)
  obtain ⟨k1,k2⟩:=zzd ha (bs:=bs) (M:=z6a M a.toNat b.toNat true) (fun x hx=>hb x (by simp [hx])) (h.set (by omega))
  refine ⟨k1,fun x y=>?_⟩
  have e:z9g a (b::bs) M=z9g a bs (z6a M a.toNat b.toNat true):=rfl
  rw [e,k2,zt4 h (by omega) (by omega)]
  by_cases q:x=a.toNat∧y=b.toNat
  ·rw [if_pos q]; simp [q.1,q.2]
  rw [if_neg q]
  constructor
  ·rintro (k | ⟨k,c,hc,rfl⟩)
   ·exact .inl k
   exact .inr ⟨k,c,by simp [hc],rfl⟩
  rintro (k | ⟨k,c,hc,rfl⟩)
  ·exact .inl k
  rcases List.mem_cons.1 hc with rfl | hc
  ·exact absurd ⟨k,rfl⟩ q
  exact .inr ⟨k,c,hc,rfl⟩
theorem zsq {bs:List Int} (hb:Rm n bs):∀ {la:List Int} {M:List (List Bool)},Rm n la→Sq n M→Sq n (z4p M la bs)∧∀ x y,zci (z4p M la bs) x y=true↔zci M x y=true∨(∃ a∈la,x=a.toNat)∧∃ b∈bs,y=b.toNat
 | [],M,_,h=>⟨h,fun x y=>by simp [z4p]⟩
 | a::la,M,ha,h=>by
  obtain ⟨j1,j2⟩:=zzd (ha a (by simp)) hb h
  obtain ⟨k1,k2⟩:=zsq hb (la:=la) (M:=z9g a bs M) (fun x hx=>ha x (by simp [hx])) j1
  refine ⟨k1,fun x y=>?_⟩
  have e:z4p M (a::la) bs=z4p (z9g a bs M) la bs:=rfl
  rw [e,k2,j2]
  constructor
  ·rintro ((k | ⟨k,q⟩) | ⟨⟨c,hc,k⟩,q⟩)
   ·exact .inl k
   ·exact .inr ⟨⟨a,by simp,k⟩,q⟩
   exact .inr ⟨⟨c,by simp [hc],k⟩,q⟩
  rintro (k | ⟨⟨c,hc,k⟩,q⟩)
  ·exact .inl (.inl k)
  rcases List.mem_cons.1 hc with rfl | hc
  ·exact .inl (.inr ⟨k,q⟩)
  exact .inr ⟨⟨c,hc,k⟩,q⟩
def By (g:List (List Int)) (ws:List Wall) (lv:Bool) (x y:Nat):Prop:=∃ w∈ws,w.level=lv∧(∃ a∈(zb1 g w).1,x=a.toNat)∧∃ b∈(zb1 g w).2,y=b.toNat
theorem By.cons {g:List (List Int)} {w:Wall} {ws:List Wall} {lv:Bool} {x y:Nat}:By g (w::ws) lv x y↔(w.level=lv∧(∃ a∈(zb1 g w).1,x=a.toNat)∧∃ b∈(zb1 g w).2,y=b.toNat)∨By g ws lv x y:=by
 unfold By; simp
theorem zsg {g:List (List Int)} {nh nw:Nat} (hrm:z1r g nh nw n):∀ (ws:List Wall),(∀ w∈ws,z91 g nh nw w)→∀ {M:List (List Bool) × List (List Bool)},Sq n M.1→Sq n M.2 →
  (Sq n (ws.foldl (z7h g) M).1∧∀ x y,zci (ws.foldl (z7h g) M).1 x y=true↔zci M.1 x y=true∨By g ws false x y) ∧
  (Sq n (ws.foldl (z7h g) M).2∧∀ x y,zci (ws.foldl (z7h g) M).2 x y=true↔zci M.2 x y=true∨By g ws true x y)
 | [],_,M,h0,h1=>⟨⟨h0,fun x y=>by simp [By]⟩,⟨h1,fun x y=>by simp [By]⟩⟩
 | w::ws,hws,M,h0,h1=>by
  obtain ⟨r1,r2⟩:=zsw hrm (hws w (by simp))
  rw [List.foldl_cons]
  cases hlv:w.level with
  | false =>
   obtain ⟨k1,k2⟩:=zsq r2 r1 h0
   have e:z7h g M w=(z4p M.1 (zb1 g w).1 (zb1 g w).2,M.2):=by unfold z7h; rw [hlv]; rfl
   rw [e]
   obtain ⟨⟨a1,a2⟩,⟨b1,b2⟩⟩:=zsg hrm ws (fun w hw=>hws w (by simp [hw])) (M:=(z4p M.1 (zb1 g w).1 (zb1 g w).2,M.2)) k1 h1
   refine ⟨⟨a1,fun x y=>?_⟩,⟨b1,fun x y=>?_⟩⟩
   ·rw [a2,k2,By.cons,hlv]; simp only[true_and,or_assoc]
   rw [b2,By.cons,hlv]; simp
  | true =>
   obtain ⟨k1,k2⟩:=zsq r2 r1 h1
   have e:z7h g M w=(M.1,z4p M.2 (zb1 g w).1 (zb1 g w).2):=by unfold z7h; rw [hlv]; rfl
   rw [e]
   obtain ⟨⟨a1,a2⟩,⟨b1,b2⟩⟩:=zsg hrm ws (fun w hw=>hws w (by simp [hw])) (M:=(M.1,z4p M.2 (zb1 g w).1 (zb1 g w).2)) h0 k1
   refine ⟨⟨a1,fun x y=>?_⟩,⟨b1,fun x y=>?_⟩⟩
   ·rw [a2,By.cons,hlv]; simp
   rw [b2,k2,By.cons,hlv]; simp only[true_and,or_assoc]
theorem ztx {x y:Nat}:zci (zfo n) x y=false:=by
 unfold zci zfo
 rw [List.getElem?_replicate]
 split
 ·rw [Option.getD_some,List.getElem?_replicate]; split <;> rfl
 rfl
def cn (g:List (List Int)) (i j:Nat):Nat:=(gz g i j).toNat
theorem z1r.ne {g:List (List Int)} {nh nw:Nat} (h:z1r g nh nw n) {i j i' j':Nat} (h1:i<nh) (h2:j<nw) (h3:i'<nh) (h4:j'<nw):gz g i j≠gz g i' j'↔cn g i j≠cn g i' j':=by
 have a:=h i j h1 h2
 have b:=h i' j' h3 h4
 unfold cn
 omega
theorem zvq {g:List (List Int)} {level:Bool} {line fr long j:Nat} (h1:fr≤j) (h2:j<fr+long):(zch g level line j).1∈(zb1 g ⟨level,line,fr,long⟩).1:=by
 simp only[zb1,Int.toNat_natCast]
 rw [zr8]
 simp only[zme,List.mem_map,List.mem_range]
 exact ⟨j - fr,by omega,by rw [show fr+(j - fr)=j by omega]⟩
theorem zvr {g:List (List Int)} {level:Bool} {line fr long j:Nat} (h1:fr≤j) (h2:j<fr+long):(zch g level line j).2∈(zb1 g ⟨level,line,fr,long⟩).2:=by
 simp only[zb1,Int.toNat_natCast]
 rw [zr8]
 simp only[zme,List.mem_map,List.mem_range]
 exact ⟨j - fr,by omega,by rw [show fr+(j - fr)=j by omega]⟩
theorem zzr {g:List (List Int)} {level:Bool} {line fr long:Nat} {x:Int} (h:x∈(zb1 g ⟨level,line,fr,long⟩).1):∃ j,fr≤j∧j<fr+long∧x=(zch g level line j).1:=by
 simp only[zb1,Int.toNat_natCast]at h
 rw [zr8]at h
 simp only[zme,List.mem_map,List.mem_range]at h
 obtain ⟨j,hj,rfl⟩:=h
 exact ⟨fr+j,by omega,by omega,rfl⟩
theorem zzs {g:List (List Int)} {level:Bool} {line fr long:Nat} {x:Int} (h:x∈(zb1 g ⟨level,line,fr,long⟩).2):∃ j,fr≤j∧j<fr+long∧x=(zch g level line j).2:=by
 simp only[zb1,Int.toNat_natCast]at h
 rw [zr8]at h
 simp only[zme,List.mem_map,List.mem_range]at h
 obtain ⟨j,hj,rfl⟩:=h
 exact ⟨fr+j,by omega,by omega,rfl⟩
theorem yaa {g:List (List Int)} {nh nw:Nat} (h:z1r g nh nw n) {x y:Nat}:By g (zm4 g nh nw) false x y↔DL (cn g) nh nw x y:=by
 constructor
 ·rintro ⟨w,hw,hlv,⟨a,ha,rfl⟩,b,hb,rfl⟩
  obtain ⟨line,fr,long,he,hl,hin⟩:=zg1 w hw
  rw [hlv]at he hin
  subst he
  obtain ⟨j1,p1,p2,rfl⟩:=zzr ha
  obtain ⟨j2,q1,q2,rfl⟩:=zzs hb
  have i1:=(hin j1 p1 p2).1
  have i2:=(hin j2 q1 q2).1
  unfold InL at i1 i2
  simp only[qF,if_false]at i1 i2
  obtain ⟨L,rfl⟩:∃ L,line=L+1:=⟨line - 1,by omega⟩
  refine ⟨L,j1,j2,i1.2.1,i1.2.2,i2.2.2,fun r r1 r2=>?_,?_,?_⟩
  ·have hr:=hin r (by omega) (by omega)
   have hr1:=hr.1
   unfold InL at hr1
   simp only[qF,if_false]at hr1
   have hr2:=hr.2
   unfold zmi zch at hr2
   simp only[qF,if_false,decide_eq_true_eq,Nat.add_sub_cancel]at hr2
   exact (h.ne hr1.2.2 (by omega) hr1.2.2 hr1.2.1).1 hr2
  ·simp [zch,cn]
  simp [zch,cn]
 rintro ⟨L,i1,i2,h1,h2,h3,run,rfl,rfl⟩
 have hrun:Run g false (L+1) (min i1 i2) (max i1 i2):=by
  intro r r1 r2
  have:=run r r1 r2
  rw [← h.ne (by omega) (by omega) (by omega) h1]at this
  unfold zmi zch
  simpa using this
 obtain ⟨w,hw,w1,w2,w3,w4⟩:=zrl (g:=g) (H:=nh) (W:=nw) (level:=false) (line:=L+1) (by omega) (by simpa using h1) (by omega) (by simp only[qF,if_false]; omega) hrun
 obtain ⟨line,fr,long,he,hl,hin⟩:=zg1 w hw
 rw [w1]at he
 subst he
 simp only at w2 w3 w4
 obtain rfl:line=L+1:=by omega
 refine ⟨_,hw,rfl,⟨_,zvq (j:=i1) (by omega) (by omega),?_⟩,_,zvr (j:=i2) (by omega) (by omega),?_⟩
 ·simp [zch,cn]
 simp [zch,cn]
theorem z6o {g:List (List Int)} {nh nw:Nat} (h:z1r g nh nw n) {x y:Nat}:By g (zm4 g nh nw) true x y↔DU (cn g) nh nw x y:=by
 constructor
 ·rintro ⟨w,hw,hlv,⟨a,ha,rfl⟩,b,hb,rfl⟩
  obtain ⟨line,fr,long,he,hl,hin⟩:=zg1 w hw
  rw [hlv]at he hin
  subst he
  obtain ⟨j1,p1,p2,rfl⟩:=zzr ha
  obtain ⟨j2,q1,q2,rfl⟩:=zzs hb
  have i1:=(hin j1 p1 p2).1
  have i2:=(hin j2 q1 q2).1
  unfold InL at i1 i2
  simp only[if_true]at i1 i2
  obtain ⟨L,rfl⟩:∃ L,line=L+1:=⟨line - 1,by omega⟩
  refine ⟨L,j1,j2,i1.2.1,i1.2.2,i2.2.2,fun r r1 r2=>?_,?_,?_⟩
  ·have hr:=hin r (by omega) (by omega)
   have hr1:=hr.1
   unfold InL at hr1
   simp only[if_true]at hr1
   have hr2:=hr.2
   unfold zmi zch at hr2
   simp only[if_true,decide_eq_true_eq,Nat.add_sub_cancel]at hr2
   exact (h.ne (by omega) hr1.2.2 hr1.2.1 hr1.2.2).1 hr2
  ·simp [zch,cn]
  simp [zch,cn]
 rintro ⟨L,i1,i2,h1,h2,h3,run,rfl,rfl⟩
 have hrun:Run g true (L+1) (min i1 i2) (max i1 i2):=by
  intro r r1 r2
  have:=run r r1 r2
  rw [← h.ne (by omega) (by omega) h1 (by omega)]at this
  unfold zmi zch
  simpa using this
 obtain ⟨w,hw,w1,w2,w3,w4⟩:=zrl (g:=g) (H:=nh) (W:=nw) (level:=true) (line:=L+1) (by omega) (by simpa using h1) (by omega) (by simp only[if_true]; omega) hrun
 obtain ⟨line,fr,long,he,hl,hin⟩:=zg1 w hw
 rw [w1]at he
 subst he
 simp only at w2 w3 w4
 obtain rfl:line=L+1:=by omega
 refine ⟨_,hw,rfl,⟨_,zvq (j:=i1) (by omega) (by omega),?_⟩,_,zvr (j:=i2) (by omega) (by omega),?_⟩
 ·simp [zch,cn]
 simp [zch,cn]
theorem ze5 {g:List (List Int)} {nh nw:Nat} (h:z1r g nh nw n) {i j:Nat} (hi:i<nh) (hj:j<nw):cn g i j<n:=by
 have:=h i j hi hj
 unfold cn; omega
theorem yav {g:List (List Int)} {nh nw:Nat} (h:z1r g nh nw n) {a b:Nat} (ha:a<n) (hb:b<n):zci (yau g nh nw n) a b=true↔TC (DL (cn g) nh nw) a b:=by
 obtain ⟨⟨k1,k2⟩,-⟩:=zsg h (zm4 g nh nw) zg1 (M:=(zfo n,zfo n)) (zgr n) (zgr n)
 have hd:∀ x y,zci (z9c g nh nw n).1 x y=true↔DL (cn g) nh nw x y:=fun x y=>by
  unfold z9c; rw [k2,yaa h]; simp [ztx]
 unfold yau
 have k3:Sq n (z9c g nh nw n).1:=k1
 rw [zxv k3 ha hb]
 constructor
 ·exact TC.mono fun x y q=>(hd x y).1 q.2.2
 refine TC.mono fun x y q=>⟨?_,?_,(hd x y).2 q⟩
 ·obtain ⟨j,i1,i2,q1,q2,q3,-,rfl,-⟩:=q
  exact ze5 h q2 (by omega)
 obtain ⟨j,i1,i2,q1,q2,q3,-,-,rfl⟩:=q
 exact ze5 h q3 q1
theorem z6e {g:List (List Int)} {nh nw:Nat} (h:z1r g nh nw n) {a b:Nat} (ha:a<n) (hb:b<n):zci (z1t g nh nw n) a b=true↔TC (DU (cn g) nh nw) a b:=by
 obtain ⟨-,⟨k1,k2⟩⟩:=zsg h (zm4 g nh nw) zg1 (M:=(zfo n,zfo n)) (zgr n) (zgr n)
 have hd:∀ x y,zci (z9c g nh nw n).2 x y=true↔DU (cn g) nh nw x y:=fun x y=>by
  unfold z9c; rw [k2,z6o h]; simp [ztx]
 unfold z1t
 have k3:Sq n (z9c g nh nw n).2:=k1
 rw [zxv k3 ha hb]
 constructor
 ·exact TC.mono fun x y q=>(hd x y).1 q.2.2
 refine TC.mono fun x y q=>⟨?_,?_,(hd x y).2 q⟩
 ·obtain ⟨j,i1,i2,q1,q2,q3,-,rfl,-⟩:=q
  exact ze5 h (by omega) q2
 obtain ⟨j,i1,i2,q1,q2,q3,-,-,rfl⟩:=q
 exact ze5 h q1 q3
end
end
section
theorem zva {p:List Txt} {i:Nat}:∀ {w:Nat},zhl p 4 i w=0→∀ k,1≤k→k<w→zlv p i k≠4
 | w+1,h,k,h1,h2=>by
  have hb:=(zgf p 4 i w).1
  unfold zhl at h
  by_cases e:k=w
  ·subst e
   intro q
   rw [if_pos ⟨h1,q⟩]at h
   omega
  have h0:zhl p 4 i w=0:=by split at h <;> omega
  exact zva h0 k h1 (by omega)
theorem zy6 {p:List Txt} {w:Nat}:∀ {n:Nat},zp2 p 4 w n=0→∀ i,1≤i→i<n→zhl p 4 i w=0
 | n+1,h,i,h1,h2=>by
  have hb:0≤zp2 p 4 w n:=by
   clear h h1 h2
   induction n with
   | zero=>simp [zp2]
   | succ n ih =>
    have:=(zgf p 4 n w).1
    unfold zp2; split <;> omega
  have hr:=(zgf p 4 n w).1
  unfold zp2 at h
  by_cases e:i=n
  ·subst e
   rw [if_pos h1]at h
   omega
  have h0:zp2 p 4 w n=0:=by split at h <;> omega
  exact zy6 h0 i h1 (by omega)
theorem z1k {a b:UInt8} (h:(a.toNat:Int) - 97≠(b.toNat:Int) - 97):a≠b:=by
 rintro rfl; exact h rfl
theorem z0r {p:List Txt} (hg:zcr p=true) {i k:Nat} (hi:i+1<p.length) (hk:k+1<(zad p).length) (h1:zam p i k≠zam p i (k+1)) (h2:zam p i k≠zam p (i+1) k) (h3:zam p i k≠zam p (i+1) (k+1))
  (h4:zam p i (k+1)≠zam p (i+1) k) (h5:zam p i (k+1)≠zam p (i+1) (k+1)) (h6:zam p (i+1) k≠zam p (i+1) (k+1)):zlv p (i+1) (k+1)=4:=by
 obtain ⟨r1,hr1,-⟩:=zag (show i<p.length by omega)
 obtain ⟨r2,hr2,-⟩:=zag hi
 have e1:=zha hg hr1
 have e2:=zha hg hr2
 obtain ⟨a,ha,-⟩:=zag (show k<r1.length by omega)
 obtain ⟨b,hb,-⟩:=zag (show k+1<r1.length by omega)
 obtain ⟨c,hc,-⟩:=zag (show k<r2.length by omega)
 obtain ⟨d,hd,-⟩:=zag (show k+1<r2.length by omega)
 rw [zdq hr1 ha]at h1 h2 h3
 rw [zdq hr1 hb]at h1 h4 h5
 rw [zdq hr2 hc]at h2 h4 h6
 rw [zdq hr2 hd]at h3 h5 h6
 have n1:=z1k h1
 have n2:=z1k h2
 have n3:=z1k h3
 have n4:=z1k h4
 have n5:=z1k h5
 have n6:=z1k h6
 unfold zlv
 simp only[Nat.add_sub_cancel,hr1,hr2,ha,hb,hc,hd]
 simp [zkd,ya0,ya1,Ne.symm n1,Ne.symm n2,Ne.symm n3,Ne.symm n4,Ne.symm n5,Ne.symm n6]
theorem zeo {p:List Txt} (hp:zbx p=true) {i j:Nat} (hi:i<p.length) (hj:j<(zad p).length):(cn (gP p) i j:Int)=zam p i j:=by
 have hN:=zbw hp
 have:=hN.room hi hj
 unfold cn
 rw [hN.cell hi hj]; omega
theorem zbv {p:List Txt} (hp:zak p=true):Pl (cn (gP p)) p.length (zad p).length:=by
 have hpl:=zbi hp
 have hN:=zbw hpl
 have rect:∀ {i j i' j':Nat} (k l:Nat),i<p.length→i'<p.length→j<(zad p).length→j'<(zad p).length→cn (gP p) i j=cn (gP p) i' j'→min i i'≤k→k≤max i i'→min j j'≤l→l≤max j j'→cn (gP p) k l=cn (gP p) i j:=by
  intro i j i' j' k l h1 h2 h3 h4 e h5 h6 h7 h8
  have e1:=zeo hpl h1 h3
  have e2:=zeo hpl h2 h4
  have e3:=zeo hpl (show k<p.length by omega) (show l<(zad p).length by omega)
  obtain ⟨b,hb,q1,-,c1⟩:=zk1 hpl h1 h3
  obtain ⟨b',hb',q2,-,-⟩:=zk1 hpl h2 h4
  have e4:zam p i j=zam p i' j':=by omega
  rw [e4,hb']at hb
  obtain rfl:=Option.some.inj hb
  have q3:inB b' k l=true:=by
   unfold inB at q1 q2 ⊢
   simp only[qB,decide_eq_true_eq]at q1 q2 ⊢
   omega
  have:=c1 k l (by omega) (by omega) q3
  omega
 refine ⟨rect,fun {i j} h1 h2 n1 n2 n3=>Classical.byContradiction fun n4=>?_⟩
 have h0:points p 4=0:=by
  unfold zak at hp
  simp only[qB,decide_eq_true_eq]at hp
  exact hp.2
 have hno:=zva (zy6 h0 (i+1) (by omega) h1) (j+1) (by omega) h2
 have n5:cn (gP p) i j≠cn (gP p) (i+1) (j+1):=by
  intro e
  exact n1 (rect i (j+1) (by omega) h1 (by omega) h2 e (by omega) (by omega) (by omega) (by omega)).symm
 have n6:cn (gP p) i (j+1)≠cn (gP p) (i+1) j:=by
  intro e
  exact n1 (rect i j (by omega) h1 h2 (by omega) e (by omega) (by omega) (by omega) (by omega))
 have c1:=zeo hpl (show i<p.length by omega) (show j<(zad p).length by omega)
 have c2:=zeo hpl (show i<p.length by omega) h2
 have c3:=zeo hpl h1 (show j<(zad p).length by omega)
 have c4:=zeo hpl h1 h2
 exact hno (z0r hN.hg h1 h2 (by omega) (by omega) (by omega) (by omega) (by omega) (by omega))
theorem za8 {p:List Txt} {a:Nat} (ha:a<(rP p).length):∃ i j,i<p.length∧j<(zad p).length∧cn (gP p) i j=a:=by
 have hi:=zgb p
 obtain ⟨b,hb,-⟩:=zag ha
 obtain ⟨v,hv,-⟩:=zag (show a<(keys p).length by rw [← hi.len]; exact ha)
 obtain ⟨i,j,⟨hz,hj,hij⟩,-⟩:=(hi.hull a v b hv hb).at_
 have hi2:i<p.length:=by omega
 refine ⟨i,j,hi2,hj,?_⟩
 unfold cn
 rw [z2v hi2 hj,hz,Int.toNat_natCast]
 have hlt:¬ (keys p).idxOf v=(keys p).length:=by
  have:=List.idxOf_lt_length_iff.2 (List.mem_of_getElem? hv)
  omega
 exact zkr hi.nd (zgu hlt) hv
def lfM (p:List Txt):List (List Bool):=yau (gP p) p.length (zad p).length (rP p).length
def abM (p:List Txt):List (List Bool):=z1t (gP p) p.length (zad p).length (rP p).length
def Lf (p:List Txt) (a b:Nat):Prop:=zci (lfM p) a b=true
def Ab (p:List Txt) (a b:Nat):Prop:=zci (abM p) a b=true
section
variable {p:List Txt} {a b d:Nat}
theorem Lf.iff (ha:a<(rP p).length) (hb:b<(rP p).length):Lf p a b↔TC (DL (cn (gP p)) p.length (zad p).length) a b:=yav zb0 ha hb
theorem Ab.iff (ha:a<(rP p).length) (hb:b<(rP p).length):Ab p a b↔TC (DU (cn (gP p)) p.length (zad p).length) a b:=z6e zb0 ha hb
theorem Lf.trans (ha:a<(rP p).length) (hb:b<(rP p).length) (hd:d<(rP p).length) (h:Lf p a b) (k:Lf p b d):Lf p a d:=by
 rw [Lf.iff ha hd]; exact ((Lf.iff ha hb).1 h).trans ((Lf.iff hb hd).1 k)
theorem Ab.trans (ha:a<(rP p).length) (hb:b<(rP p).length) (hd:d<(rP p).length) (h:Ab p a b) (k:Ab p b d):Ab p a d:=by
 rw [Ab.iff ha hd]; exact ((Ab.iff ha hb).1 h).trans ((Ab.iff hb hd).1 k)
theorem zju (hp:zak p=true):∃ f g:Nat→Nat,∀ a b,a<(rP p).length→b<(rP p).length→(Lf p a b→f a<f b∧g a<g b)∧(Ab p a b→f a<f b∧g b<g a):=by
 have hpl:=zbv hp
 obtain ⟨f,hf⟩:=zkt hpl (n:=(rP p).length) (fun i j hi hj=>ze5 zb0 hi hj)
 obtain ⟨g,hg⟩:=zup hpl (n:=(rP p).length) (fun i j hi hj=>ze5 zb0 hi hj)
 refine ⟨f,g,fun a b ha hb=>⟨fun h=>?_,fun h=>?_⟩⟩
 ·rw [Lf.iff ha hb]at h
  exact ⟨h.rise fun a b k=>hf a b (.inl k),h.rise fun a b k=>hg a b (.inl k)⟩
 rw [Ab.iff ha hb]at h
 exact ⟨h.rise fun a b k=>hf a b (.inr k),(h.rev (S:=fun x y=>DU (cn (gP p)) p.length (zad p).length y x) fun _ _ k=>k).rise fun a b k=>hg a b (.inr k)⟩
theorem Lf.only (hp:zak p=true) (ha:a<(rP p).length) (hb:b<(rP p).length) (h:Lf p a b):¬ Lf p b a∧¬ Ab p a b∧¬ Ab p b a:=by
 obtain ⟨f,g,k⟩:=zju hp
 have h1:=(k a b ha hb).1 h
 refine ⟨fun q=>?_,fun q=>?_,fun q=>?_⟩
 ·have:=(k b a hb ha).1 q; omega
 ·have:=(k a b ha hb).2 q; omega
 have:=(k b a hb ha).2 q; omega
theorem Ab.only (hp:zak p=true) (ha:a<(rP p).length) (hb:b<(rP p).length) (h:Ab p a b):¬ Ab p b a∧¬ Lf p a b∧¬ Lf p b a:=by
 obtain ⟨f,g,k⟩:=zju hp
 have h1:=(k a b ha hb).2 h
 refine ⟨fun q=>?_,fun q=>?_,fun q=>?_⟩
 ·have:=(k b a hb ha).2 q; omega
 ·have:=(k a b ha hb).1 q; omega
 have:=(k b a hb ha).1 q; omega
theorem z0v (hp:zak p=true) (ha:a<(rP p).length) (hb:b<(rP p).length) (hne:a≠b):Lf p a b∨Lf p b a∨Ab p a b∨Ab p b a:=by
 obtain ⟨i,j,h1,h2,e1⟩:=za8 ha
 obtain ⟨k,l,h3,h4,e2⟩:=za8 hb
 have:=zhg (zbv hp) h1 h2 h3 h4 (by rw [e1,e2]; exact hne)
 rw [e1,e2]at this
 rw [Lf.iff ha hb,Lf.iff hb ha,Ab.iff ha hb,Ab.iff hb ha]
 exact this
end
end
section
section
variable {M:List (List Bool)} {ms:List Nat} {ws:List Int} {n:Nat} {rk:Nat→Nat}
def revM (n:Nat) (M:List (List Bool)):List (List Bool):=(List.range n).map fun a=>(List.range n).map fun b=>zci M b a
def bhB (sets:List Nat) (needs:List Int) (a:Nat) (out:List Int) (b:Nat):List Int :=
 if z6l sets a b then out.set a (max (zei out a) (zei out b+zei needs b)) else out
def bhA (sets:List Nat) (needs:List Int) (out:List Int) (a:Nat):List Int:=(List.range needs.length).foldl (bhB sets needs a) out
def bhN (sets:List Nat) (needs:List Int) (out:List Int) (_:Nat):List Int:=(List.range needs.length).foldl (bhA sets needs) out
def behind (sets:List Nat) (needs:List Int):List Int:=(List.range needs.length).foldl (bhN sets needs) (List.replicate needs.length 0)
end
end
def domB (x:Int × Int) (w h:Int):Bool:=decide (x.1≤w) && decide (x.2≤h)
def ya8 (w h:Int) (s:List (Int × Int) × Bool) (x:Int × Int):List (Int × Int) × Bool :=
 if w≤x.1∧h≤x.2 then s else if s.2=false∧w<x.1 then (s.1++[(w,h),x],true) else (s.1++[x],s.2)
def ydv (l:List (Int × Int)) (w h:Int):List (Int × Int) × Bool:=l.foldl (ya8 w h) ([],false)
def put (l:List (Int × Int)) (w h:Int):List (Int × Int):=if l.any (fun x=>domB x w h) then l else if (ydv l w h).2 then (ydv l w h).1 else (ydv l w h).1++[(w,h)]
section
theorem z43 {f:Nat→Bool}:∀ {n:Nat},(∀ r s,r<n→s<n→f r=true→f s=true→r=s)→sN n (fun r=>b1 (f r))≤1:=by
 intro n
 induction n with
 | zero=>intro _; simp [sN]
 | succ n ih =>
  intro h
  show sN n (fun r=>b1 (f r))+b1 (f n)≤1
  have:=ih fun r s hr hs=>h r s (by omega) (by omega)
  cases hf:f n with
  | false=>simp [b1]; exact this
  | true =>
   have e:sN n (fun r=>b1 (f r))=sN n (fun _=>0):=zdj fun i hi=>by
    cases hi2:f i with
    | false=>rfl
    | true=>have:=h i n (by omega) (by omega) hi2 hf; omega
   rw [e,zph]; simp [b1]
section
variable {M:List (List Bool)} {ws:List Int} {n:Nat} {rk:Nat→Nat}
theorem yci (b:Nat):0≤beg M ws n b:=z23 n
theorem ych {a b:Nat} (ha:a<n) (h:zci M a b=true):HB M ws n a≤beg M ws n b:=z8v ha h
end
end
def Pat (g1 g2:List (List Int)) (H W:Nat):Prop:=∀ i j i' j',i<H→j<W→i'<H→j'<W→(gz g1 i j=gz g1 i' j'↔gz g2 i j=gz g2 i' j')
theorem Pat.symm {g1 g2:List (List Int)} {H W:Nat} (h:Pat g1 g2 H W):Pat g2 g1 H W:=fun i j i' j' a b c d=>(h i j i' j' a b c d).symm
theorem Pat.trans {g1 g2 g3:List (List Int)} {H W:Nat} (h:Pat g1 g2 H W) (k:Pat g2 g3 H W):Pat g1 g3 H W:=fun i j i' j' a b c d=>(h i j i' j' a b c d).trans (k i j i' j' a b c d)
structure KC (g1 g2:List (List Int)) (H W:Nat) (k1 k2:List Int):Prop where
 len:k1.length=k2.length
 at_:∀ i j,i<H→j<W→k1.idxOf (gz g1 i j)=k2.idxOf (gz g2 i j)
theorem zqu {l:List Int} {z x:Int} (h:l.idxOf x=l.length):(l++[z]).idxOf x=if x=z then l.length else l.length+1:=by
 have hn:=zon h
 rw [List.idxOf_append,if_neg hn]
 by_cases e:x=z
 ·subst e; simp
 rw [if_neg e]
 have e2:(z == x)=false:=by simpa using fun h=>e h.symm
 simp [List.idxOf_cons,e2]
 omega
theorem KC.step {g1 g2:List (List Int)} {H W:Nat} (hp:Pat g1 g2 H W) {k1 k2:List Int} (h:KC g1 g2 H W k1 k2) {a b:Nat} (ha:a<H) (hb:b<W):KC g1 g2 H W (zgz k1 (gz g1 a b)) (zgz k2 (gz g2 a b)):=by
 have h1:=h.at_ a b ha hb
 unfold zgz
 by_cases e:k1.idxOf (gz g1 a b)=k1.length
 ·have e2:k2.idxOf (gz g2 a b)=k2.length:=by rw [← h1,e,h.len]
  rw [if_pos e,if_pos e2]
  refine ⟨by simp [h.len],fun i j hi hj=>?_⟩
  have h2:=h.at_ i j hi hj
  have hpt:=hp i j a b hi hj ha hb
  by_cases q:k1.idxOf (gz g1 i j)=k1.length
  ·have q2:k2.idxOf (gz g2 i j)=k2.length:=by rw [← h2,q,h.len]
   rw [zqu q,zqu q2,h.len]
   by_cases r:gz g1 i j=gz g1 a b
   ·rw [if_pos r,if_pos (hpt.1 r)]
   rw [if_neg r,if_neg fun x=>r (hpt.2 x)]
  have q2:¬ k2.idxOf (gz g2 i j)=k2.length:=by rw [← h2,← h.len]; exact q
  rw [zom q,zom q2,h2]
 have e2:¬ k2.idxOf (gz g2 a b)=k2.length:=by rw [← h1,← h.len]; exact e
 rw [if_neg e,if_neg e2]
 exact h
theorem z46 {k1 k2 rs:List Int} {R:List Rect} {z1 z2:Int} {q:Rect} (hl:k1.length=k2.length) (hi:k1.idxOf z1=k2.idxOf z2):znx k1 R z1 q=znx k2 R z2 q:=by
 unfold znx zhs
 rw [hl,hi]
theorem zl5 {g1 g2:List (List Int)} {H W:Nat} (hp:Pat g1 g2 H W) {i:Nat} (hi:i<H) {s1 s2:List Int × List Rect} (h:KC g1 g2 H W s1.1 s2.1) (hr:s1.2=s2.2):∀ j,j≤W →
  KC g1 g2 H W (zcx g1 i s1 j).1 (zcx g2 i s2 j).1∧(zcx g1 i s1 j).2=(zcx g2 i s2 j).2
 | 0,_=>⟨h,hr⟩
 | j+1,hj=>by
  obtain ⟨h1,h2⟩:=zl5 hp hi h hr j (by omega)
  unfold zcx
  refine ⟨h1.step hp hi (by omega),?_⟩
  show znx _ _ _ _=znx _ _ _ _
  rw [h2]
  exact z46 (rs:=[]) h1.len (h1.at_ i j hi (by omega))
theorem zhf {g1 g2:List (List Int)} {H W:Nat} (hp:Pat g1 g2 H W):∀ i,i≤H→KC g1 g2 H W (zal g1 W i).1 (zal g2 W i).1∧(zal g1 W i).2=(zal g2 W i).2
 | 0,_=>⟨⟨rfl,fun _ _ _ _=>rfl⟩,rfl⟩
 | i+1,hi=>by
  obtain ⟨h1,h2⟩:=zhf hp i (by omega)
  exact zl5 hp (by omega) h1 h2 W (qR _)
theorem zv1 {g1 g2:List (List Int)} {H W:Nat} (hp:Pat g1 g2 H W) {i:Nat} (hi:i<H) {s1 s2:List Int × List Rect} (h:KC g1 g2 H W s1.1 s2.1) (hr:s1.2=s2.2):∀ j,j≤W→zmb g1 i s1 j=zmb g2 i s2 j
 | 0,_=>rfl
 | j+1,hj=>by
  unfold zmb
  rw [zv1 hp hi h hr j (by omega),(zl5 hp hi h hr j (by omega)).1.at_ i j hi (by omega)]
theorem zmc {g1 g2:List (List Int)} {H W:Nat} (hp:Pat g1 g2 H W):∀ i,i≤H→zdl g1 W i=zdl g2 W i
 | 0,_=>rfl
 | i+1,hi=>by
  obtain ⟨h1,h2⟩:=zhf hp i (by omega)
  unfold zdl
  rw [zmc hp i (by omega),zv1 hp (by omega) h1 h2 W (qR _)]
theorem GW.w0 {g:List (List Int)} {H W:Nat} (h:GW g H W):w0 g=W:=by
 obtain ⟨row,hrow,hl,-⟩:=h.at_ (show 0<H by have:=h.2.2.1; omega) (show 0<W by have:=h.2.2.2.2.1; omega)
 rw [z56 hrow,hl]
theorem GW.zG {g:List (List Int)} {H W:Nat} (h:GW g H W):zG g=zdl g W H∧stG g=zal g W H:=by
 unfold Fw.zG stG; rw [h.w0,h.1]; exact ⟨rfl,rfl⟩
theorem yb3 {g:List (List Int)} {H W i j:Nat} (h:GW g H W) (hi:i<H) (hj:j<W):gz (zG g) i j=(((zal g W H).1.idxOf (gz g i j):Nat):Int):=by
 rw [h.zG.1]
 unfold gz
 rw [zhh hi,Option.getD_some,zxn hj,Option.getD_some]
 congr 1
 exact zNum hi hj
theorem zrn {g:List (List Int)} {H W:Nat} (h:GW g H W):GW (zG g) H W:=by
 rw [h.zG.1]
 refine ⟨zbz _,fun r hr=>?_,h.2.2⟩
 obtain ⟨k,hk⟩:=List.getElem?_of_mem hr
 have:=zbc hk
 rw [zbz]at this
 rw [zhh this]at hk
 cases hk
 exact zdt _
theorem z58 {g:List (List Int)} {H W i j:Nat} (hi:i<H) (hj:j<W):gz g i j∈(zal g W H).1:=(SeInv.rows (g:=g) (W:=W) H).mem i j (znk hi hj)
theorem z9y {g:List (List Int)} {H W:Nat} (h:GW g H W):Pat (zG g) g H W:=by
 intro i j i' j' hi hj hi' hj'
 rw [yb3 h hi hj,yb3 h hi' hj']
 constructor
 ·intro e
  have h1:=zgu (ks:=(zal g W H).1) (z:=gz g i j) (by have:=List.idxOf_lt_length_iff.2 (z58 (g:=g) hi hj); omega)
  have h2:=zgu (ks:=(zal g W H).1) (z:=gz g i' j') (by have:=List.idxOf_lt_length_iff.2 (z58 (g:=g) hi' hj'); omega)
  rw [show (zal g W H).1.idxOf (gz g i j)=(zal g W H).1.idxOf (gz g i' j') by omega,h2]at h1
  exact (Option.some.inj h1).symm
 intro e; rw [e]
theorem yd7 {g:List (List Int)} {H W i j:Nat} (h:GW g H W) (hi:i<H) (hj:j<W):0≤gz (zG g) i j∧gz (zG g) i j<(zal g W H).2.length:=by
 rw [yb3 h hi hj]
 have h1:=List.idxOf_lt_length_iff.2 (z58 (g:=g) hi hj)
 have h2:=(SeInv.rows (g:=g) (W:=W) H).len
 omega
theorem zl1 {g:List (List Int)} {H W i j:Nat} (h:GW g H W) (hi:i<H) (hj:j<W) (h0:0≤gz g i j) (h1:gz g i j≤100):gz (za5 (zek g)) i j=gz g i j+97:=by
 obtain ⟨row,hrow,hl,hx⟩:=h.at_ hi hj
 have e1:(za5 (zek g))[i]?=some (zp3 (znw row)):=by simp [za5,zlh hrow]
 have e2:(zp3 (znw row))[j]?=some ((z3m (gz g i j)).toNat:Int):=by simp [zp3,znw,hx]
 have e3:gz (za5 (zek g)) i j=((z3m (gz g i j)).toNat:Int):=by
  conv=>lhs; unfold gz
  rw [e1,Option.getD_some,e2,Option.getD_some]
 rw [e3]
 unfold z3m
 rw [UInt8.toNat_ofNat_of_lt' (by show 97+(gz g i j).toNat<256; omega)]
 omega
theorem z5r {g:List (List Int)} {H W:Nat} (h:GW g H W):(zek g).length=H∧(zad (zek g)).length=W:=by
 refine ⟨by rw [zpq,h.1],?_⟩
 obtain ⟨row,hrow,hl,-⟩:=h.at_ (show 0<H by have:=h.2.2.1; omega) (show 0<W by have:=h.2.2.2.2.1; omega)
 rw [zd7 (zlh hrow)]
 simp [znw,hl]
theorem z5q {g:List (List Int)} {H W:Nat} (h:GW g H W) (hz:∀ i j,i<H→j<W→0≤gz g i j∧gz g i j<26):zcr (zek g)=true:=by
 obtain ⟨t1,t2⟩:=z5r h
 unfold zcr
 rw [t1,t2]
 have h2:=h.2.2
 have:(zek g).all (zre W)=true:=by
  rw [List.all_eq_true]
  intro r hr
  obtain ⟨i,hi⟩:=List.getElem?_of_mem hr
  have hil:=zbc hi
  rw [t1]at hil
  obtain ⟨row,hrow,hrm⟩:=zag (show i<g.length by rw [h.1]; exact hil)
  have hrl:=h.2.1 row hrm
  rw [zlh hrow]at hi
  cases hi
  unfold zre
  simp only[qB,decide_eq_true_eq,List.all_eq_true]
  refine ⟨⟨⟨by simp [znw,hrl],by simp [znw]; omega⟩,by simp [znw]; omega⟩,fun c hc=>?_⟩
  obtain ⟨z,hzm,rfl⟩:=List.mem_map.1 hc
  obtain ⟨j,hj⟩:=List.getElem?_of_mem hzm
  have hjl:=zbc hj
  have e:gz g i j=z:=by simp [gz,hrow,hj]
  have:=hz i j hil (by omega)
  rw [e]at this
  unfold zcj z3m
  rw [UInt8.toNat_ofNat_of_lt' (by show 97+z.toNat<256; omega)]
  simp only[qB,decide_eq_true_eq]
  omega
 rw [this]
 simp only[Bool.true_and,qB,decide_eq_true_eq]
 omega
def nm (g:List (List Int)):List Txt:=zek (zG g)
structure NmOk (g:List (List Int)) (H W:Nat):Prop where
 gw:GW g H W
 le:(zal g W H).2.length≤9
theorem NmOk.bound {g:List (List Int)} {H W:Nat} (h:NmOk g H W) {i j:Nat} (hi:i<H) (hj:j<W):0≤gz (zG g) i j∧gz (zG g) i j≤8:=by
 have h1:=yd7 h.gw hi hj
 have h2:=h.le
 omega
theorem NmOk.hd {g:List (List Int)} {H W:Nat} (h:NmOk g H W):(nm g).length=H∧(zad (nm g)).length=W:=z5r (zrn h.gw)
theorem NmOk.pat {g:List (List Int)} {H W:Nat} (h:NmOk g H W):Pat (za5 (nm g)) g H W:=by
 refine Pat.trans (fun i j i' j' hi hj hi' hj'=>?_) (z9y h.gw)
 have b1:=h.bound hi hj
 have b2:=h.bound hi' hj'
 unfold nm
 rw [zl1 (zrn h.gw) hi hj b1.1 (by omega),zl1 (zrn h.gw) hi' hj' b2.1 (by omega)]
 constructor <;> intro e <;> omega
theorem NmOk.gP {g:List (List Int)} {H W:Nat} (h:NmOk g H W):gP (nm g)=zG g∧rP (nm g)=(zal g W H).2:=by
 rw [z2w,z7v,h.hd.1,h.hd.2,h.gw.zG.1]
 exact ⟨zmc h.pat H (qR _),(zhf h.pat H (qR _)).2⟩
theorem NmOk.named {g:List (List Int)} {H W:Nat} (h:NmOk g H W):Named (nm g):=by
 refine ⟨z5q (zrn h.gw) fun i j hi hj=>by have:=h.bound hi hj; omega,?_⟩
 rw [h.gP.1]; rfl
theorem NmOk.cell {g:List (List Int)} {H W:Nat} (h:NmOk g H W) {i j:Nat} (hi:i<H) (hj:j<W):zam (nm g) i j=gz (zG g) i j:=by
 rw [← h.named.cell (by rw [h.hd.1]; exact hi) (by rw [h.hd.2]; exact hj),h.gP.1]
theorem Named.okB {p:List Txt} (h:Named p) (hn:(rP p).length≤9):okB p=true:=by
 unfold Fw.okB okS
 have hg:=h.hg
 rw [zr1,qB]at hg
 rw [hg.1,hg.2]
 show decide ((rP p).length≤9)=true
 exact decide_eq_true hn
theorem Named.full_of {p:List Txt} (h:Named p) (hr:∀ {i j i' j':Nat} (k l:Nat),i<p.length→i'<p.length→j<(zad p).length→j'<(zad p).length→zam p i j=zam p i' j'→min i i'≤k→k≤max i i'→min j j'≤l→l≤max j j'→zam p k l=zam p i j):zgt (za5 p)=true:=by
 rw [h.full]
 intro m hm
 obtain ⟨b,hb,-⟩:=zag hm
 rw [zta hb]
 refine ztn fun i j hi hj=>?_
 have hrect:=h.rect hb
 have hin:=(zk5 hrect).2
 rw [Bool.eq_iff_iff]
 constructor
 ·intro hz
  exact hin i j hi hj (by unfold inZ at hz; simpa using hz)
 intro hb2
 obtain ⟨a1,b1,⟨v1,g1⟩,e1⟩:=hrect.at_
 obtain ⟨a2,b2,⟨v2,g2⟩,e2⟩:=hrect.al
 obtain ⟨a3,b3,⟨v3,g3⟩,e3⟩:=hrect.ao
 obtain ⟨a4,b4,⟨v4,g4⟩,e4⟩:=hrect.ar
 unfold Gone at g1 g2 g3 g4
 have i1:=hrect.inn _ _ ⟨v1,g1⟩
 have i2:=hrect.inn _ _ ⟨v2,g2⟩
 have i3:=hrect.inn _ _ ⟨v3,g3⟩
 have i4:=hrect.inn _ _ ⟨v4,g4⟩
 unfold inB at hb2
 simp only[qB,decide_eq_true_eq]at hb2
 have c1:=hr (i:=a1) (j:=b1) (i':=a2) (j':=b2) a1 b2 (by omega) (by omega) (by omega) (by omega) (by omega) (by omega) (by omega) (by omega) (by omega)
 have c2:=hr (i:=a3) (j:=b3) (i':=a4) (j':=b4) a3 b4 (by omega) (by omega) (by omega) (by omega) (by omega) (by omega) (by omega) (by omega) (by omega)
 have c3:=hr (i:=a1) (j:=b2) (i':=a3) (j':=b4) i j (by omega) (by omega) (by omega) (by omega) (by omega) (by omega) (by omega) (by omega) (by omega)
 unfold inZ
 exact decide_eq_true (by omega)
structure Cells (c:Nat→Nat→Nat) (g:List (List Int)) (H W:Nat):Prop where
 gw:GW g H W
 at_:∀ i j,i<H→j<W→gz g i j=((c i j:Nat):Int)
structure Ren (c:Nat→Nat→Nat) (H W:Nat) (t:List Txt):Prop where
 hl:t.length=H
 wl:(zad t).length=W
 pat:∀ i j i' j',i<H→j<W→i'<H→j'<W→(cn (gP t) i j=cn (gP t) i' j'↔c i j=c i' j')
theorem z3v {c:Nat→Nat→Nat} {g:List (List Int)} {H W:Nat} (hc:Cells c g H W) (h9:(zal g W H).2.length≤9)
  (hr:∀ {i j i' j':Nat} (k l:Nat),i<H→i'<H→j<W→j'<W→c i j=c i' j'→min i i'≤k→k≤max i i'→min j j'≤l→l≤max j j'→c k l=c i j) :
  zbx (nm g)=true∧Ren c H W (nm g):=by
 have h:NmOk g H W:=⟨hc.gw,h9⟩
 have hN:=h.named
 obtain ⟨l1,l2⟩:=h.hd
 have hpat:∀ i j i' j',i<H→j<W→i'<H→j'<W→(gz (zG g) i j=gz (zG g) i' j'↔c i j=c i' j'):=by
  intro i j i' j' hi hj hi' hj'
  rw [z9y hc.gw i j i' j' hi hj hi' hj',hc.at_ i j hi hj,hc.at_ i' j' hi' hj']
  omega
 constructor
 ·rw [← zda]
  unfold ze0 zmq
  have hf:zgt (za5 (nm g))=true:=by
   refine hN.full_of fun {i j i' j'} k l hi hi' hj hj' e h1 h2 h3 h4=>?_
   rw [l1]at hi hi'
   rw [l2]at hj hj'
   rw [h.cell hi hj,h.cell hi' hj']at e
   rw [h.cell (by omega) (by omega),h.cell hi hj]
   exact (hpat _ _ _ _ (by omega) (by omega) hi hj).2 (hr k l hi hi' hj hj' ((hpat _ _ _ _ hi hj hi' hj').1 e) h1 h2 h3 h4)
  rw [hN.okB (by rw [h.gP.2]; exact h9),hf,decide_eq_true hN.ht]
  rfl
 refine ⟨l1,l2,fun i j i' j' hi hj hi' hj'=>?_⟩
 rw [← hpat i j i' j' hi hj hi' hj',h.gP.1]
 have b1:=h.bound hi hj
 have b2:=h.bound hi' hj'
 unfold cn
 omega
theorem pig0 {σ:Nat→Nat} {n m:Nat} (h:∀ a,a<n→σ a<m) (hi:∀ a b,a<n→b<n→σ a=σ b→a=b):n≤m:=by
 have h1:sN n (fun a=>sN m fun b=>b1 (decide (σ a=b)))=n:=by
  have:sN n (fun a=>sN m fun b=>b1 (decide (σ a=b)))=sN n (fun _=>1):=by
   refine zdj fun a ha=>?_
   have hs:∀ {k:Nat} (v:Nat),v<k→sN k (fun b=>b1 (decide (v=b)))=1:=by
    intro k
    induction k with
    | zero=>intro v hv; omega
    | succ k ih =>
     intro v hv
     unfold sN
     by_cases e:v=k
     ·subst e
      have hz:sN v (fun b=>b1 (decide (v=b)))=0:=by
       rw [← zph v]
       exact zdj fun b hb=>by rw [decide_eq_false (by omega)]; rfl
      rw [hz]; simp [b1]
     rw [ih v (by omega)]; simp [b1,e]
   exact hs _ (h a ha)
  rw [this,zzl]
 rw [zsv]at h1
 have h2:sN m (fun b=>sN n fun a=>b1 (decide (σ a=b)))≤sN m (fun _=>1) :=
  z1b fun b hb=>z43 fun r s hr hs e1 e2=>hi r s hr hs (by rw [of_decide_eq_true e1,of_decide_eq_true e2])
 rw [zzl]at h2
 omega
theorem z0s {c:Nat→Nat→Nat} {g:List (List Int)} {H W:Nat} (hc:Cells c g H W) (h9:(zal g W H).2.length≤9)
  (hr:∀ {i j i' j':Nat} (k l:Nat),i<H→i'<H→j<W→j'<W→c i j=c i' j'→min i i'≤k→k≤max i i'→min j j'≤l→l≤max j j'→c k l=c i j):okS g=true∧zgt g=true:=by
 have hpl:=(z3v hc h9 hr).1
 have h:NmOk g H W:=⟨hc.gw,h9⟩
 have hz:=hc.gw.zG
 have hf:=zu7 hpl
 constructor
 ·unfold okS
  rw [hz.2]
  have:okG g=true:=by rw [zjt,hc.gw.1,hc.gw.w0]; exact hc.gw
  rw [this]
  simpa using h9
 unfold zgt at hf ⊢
 have e1:(stG (za5 (nm g))).2=(stG g).2:=by rw [hz.2]; exact h.gP.2
 rw [e1,zco,zf5,h.hd.1,h.hd.2]at hf
 rw [hc.gw.1,hc.gw.w0]
 exact hf
theorem zvi {c:Nat→Nat→Nat} {g:List (List Int)} {H W n:Nat} (hc:Cells c g H W) (hn:∀ i j,i<H→j<W→c i j<n):(zal g W H).2.length≤n:=by
 have hi:=SeInv.rows (g:=g) (W:=W) H
 rw [hi.len]
 have hk:∀ m,m<(zal g W H).1.length→∃ i j,i<H∧j<W∧(zal g W H).1[m]?=some ((c i j:Nat):Int):=by
  intro m hm
  obtain ⟨v,hv,-⟩:=zag hm
  obtain ⟨b,hb,-⟩:=zag (show m<(zal g W H).2.length by rw [hi.len]; exact hm)
  obtain ⟨i,j,⟨hz,hj,hij⟩,-⟩:=(hi.hull m v b hv hb).at_
  have hi2:i<H:=by omega
  exact ⟨i,j,hi2,hj,by rw [hv,← hz,hc.at_ i j hi2 hj]⟩
 have key:=pig0 (σ:=fun m=>((zal g W H).1[m]?.getD 0).toNat) (n:=(zal g W H).1.length) (m:=n) (fun m hm=>by
  obtain ⟨i,j,q1,q2,q3⟩:=hk m hm
  have:=hn i j q1 q2
  simp only[q3,Option.getD_some,Int.toNat_natCast]
  exact this) (fun a b ha hb e=>by
  obtain ⟨i,j,q1,q2,q3⟩:=hk a ha
  obtain ⟨i',j',r1,r2,r3⟩:=hk b hb
  simp only[q3,r3,Option.getD_some,Int.toNat_natCast]at e
  exact zkr hi.nd q3 (by rw [r3,e]))
 exact key
section
theorem pig {σ:Nat→Nat} {n m:Nat} (h:∀ a,a<n→σ a<m) (hi:∀ a b,a<n→b<n→σ a=σ b→a=b):n≤m:=pig0 h hi
variable {c c':Nat→Nat→Nat} {H W:Nat}
theorem Pl.ren (h:Pl c H W) (hp:∀ i j i' j',i<H→j<W→i'<H→j'<W→(c' i j=c' i' j'↔c i j=c i' j')):Pl c' H W:=by
 refine ⟨fun {i j i' j'} k l h1 h2 h3 h4 h5 h6 h7 h8 h9=>?_,fun {i j} h1 h2 h3 h4 h5=>?_⟩
 ·exact (hp _ _ _ _ (by omega) (by omega) h1 h3).2 (h.rect k l h1 h2 h3 h4 ((hp _ _ _ _ h1 h3 h2 h4).1 h5) h6 h7 h8 h9)
 refine (hp _ _ _ _ (by omega) h2 h1 h2).2 (h.plain h1 h2 (fun e=>h3 ?_) (fun e=>h4 ?_) fun e=>h5 ?_)
 ·exact (hp _ _ _ _ (by omega) (by omega) (by omega) h2).2 e
 ·exact (hp _ _ _ _ h1 (by omega) h1 h2).2 e
 exact (hp _ _ _ _ (by omega) (by omega) h1 (by omega)).2 e
theorem zra {g:List (List Int)} {i:Nat}:∀ {w:Nat},(∀ k,1≤k→k<w→dn (four g i k)≠4)→zcw g 4 i w=0
 | 0,_=>rfl
 | w+1,h=>by
  unfold zcw
  rw [zra fun k h1 h2=>h k h1 (by omega)]
  by_cases e:1≤w
  ·have:=h w e (by omega)
   rw [if_neg (by omega)]; rfl
  rw [if_neg (by omega)]; rfl
theorem z4g {g:List (List Int)} {w:Nat}:∀ {n:Nat},(∀ i k,1≤i→i<n→1≤k→k<w→dn (four g i k)≠4)→zsk g 4 w n=0
 | 0,_=>rfl
 | n+1,h=>by
  unfold zsk
  rw [z4g fun i k h1 h2 h3 h4=>h i k h1 (by omega) h3 h4]
  by_cases e:1≤n
  ·rw [if_pos e,zra fun k h1 h2=>h n k e (by omega) h1 h2]; rfl
  rw [if_neg e]; rfl
theorem yai {a b x d:Int} (h:dn [a,b,x,d]=4):a≠b∧a≠x∧x≠d∧b≠d:=by
 unfold dn dn dn dn dn at h
 simp only[List.mem_cons,List.not_mem_nil,or_false,if_false]at h
 refine ⟨fun e=>?_,fun e=>?_,fun e=>?_,fun e=>?_⟩
 all_goals
  subst e
  simp at h
  repeat' split at h
  all_goals omega
theorem z7o {t:List Txt} (ht:zbx t=true) (h:Pl (cn (gP t)) t.length (zad t).length):zak t=true:=by
 rw [← zh6]
 unfold zfu
 rw [zda,ht,Bool.true_and,decide_eq_true_eq,zf5]
 refine z4g fun i k h1 h2 h3 h4 e=>?_
 obtain ⟨i,rfl⟩:∃ m,i=m+1:=⟨i - 1,by omega⟩
 obtain ⟨k,rfl⟩:∃ m,k=m+1:=⟨k - 1,by omega⟩
 obtain ⟨d1,d2,d3,d4⟩:=yai e
 simp only[Nat.add_sub_cancel]at d1 d2 d3 d4
 have hrm:=zb0 (p:=t)
 have n1:=(hrm.ne (i:=i) (j:=k) (i':=i) (j':=k+1) (by omega) (by omega) (by omega) h4).1 d1
 have n2:=(hrm.ne (i:=i) (j:=k) (i':=i+1) (j':=k) (by omega) (by omega) h2 (by omega)).1 d2
 have n3:=(hrm.ne (i:=i+1) (j:=k) (i':=i+1) (j':=k+1) h2 (by omega) h2 h4).1 d3
 have n4:=(hrm.ne (i:=i) (j:=k+1) (i':=i+1) (j':=k+1) (by omega) h4 h2 h4).1 d4
 exact n4 (h.plain h2 h4 n1 n3 n2)
theorem zzt (hp:∀ i j i' j',i<H→j<W→i'<H→j'<W→(c' i j=c' i' j'↔c i j=c i' j')):∃ σ:Nat→Nat,∀ i j,i<H→j<W→c' i j=σ (c i j):=by
 refine ⟨fun v => @dite _ (∃ q:Nat × Nat,q.1<H∧q.2<W∧c q.1 q.2=v) (Classical.propDecidable _) (fun h=>c' h.choose.1 h.choose.2) fun _=>0,fun i j hi hj=>?_⟩
 have hx:∃ q:Nat × Nat,q.1<H∧q.2<W∧c q.1 q.2=c i j:=⟨(i,j),hi,hj,rfl⟩
 simp only
 rw [dif_pos hx]
 obtain ⟨h1,h2,h3⟩:=hx.choose_spec
 exact ((hp _ _ _ _ h1 h2 hi hj).2 h3).symm
theorem DL.ren {σ:Nat→Nat} (hσ:∀ i j,i<H→j<W→c' i j=σ (c i j)) (hp:∀ i j i' j',i<H→j<W→i'<H→j'<W→(c' i j=c' i' j'↔c i j=c i' j')) {a b:Nat} (h:DL c H W a b):DL c' H W (σ a) (σ b):=by
 obtain ⟨j,i1,i2,h1,h2,h3,run,rfl,rfl⟩:=h
 exact ⟨j,i1,i2,h1,h2,h3,fun r r1 r2 e=>run r r1 r2 ((hp _ _ _ _ (by omega) (by omega) (by omega) h1).1 e),(hσ _ _ h2 (by omega)).symm,(hσ _ _ h3 h1).symm⟩
theorem DU.ren {σ:Nat→Nat} (hσ:∀ i j,i<H→j<W→c' i j=σ (c i j)) (hp:∀ i j i' j',i<H→j<W→i'<H→j'<W→(c' i j=c' i' j'↔c i j=c i' j')) {a b:Nat} (h:DU c H W a b):DU c' H W (σ a) (σ b):=by
 obtain ⟨i,j1,j2,h1,h2,h3,run,rfl,rfl⟩:=h
 exact ⟨i,j1,j2,h1,h2,h3,fun r r1 r2 e=>run r r1 r2 ((hp _ _ _ _ (by omega) (by omega) h1 (by omega)).1 e),(hσ _ _ (by omega) h2).symm,(hσ _ _ h1 h3).symm⟩
theorem TC.map {R S:Nat→Nat→Prop} {f:Nat→Nat} (h:∀ a b,R a b→S (f a) (f b)) {a b:Nat} (k:TC R a b):TC S (f a) (f b):=by
 induction k with
 | one k=>exact .one (h _ _ k)
 | tail _ k ih=>exact .tail ih (h _ _ k)
structure Iso (p t:List Txt) (L U:Nat→Nat→Prop) (σ:Nat→Nat):Prop where
 pl:zak t=true
 n:(rP t).length=(rP p).length
 lt:∀ a,a<(rP p).length→σ a<(rP p).length
 inj:∀ a b,a<(rP p).length→b<(rP p).length→σ a=σ b→a=b
 lf:∀ a b,a<(rP p).length→b<(rP p).length→(Lf t (σ a) (σ b)↔L a b)
 ab:∀ a b,a<(rP p).length→b<(rP p).length→(Ab t (σ a) (σ b)↔U a b)
theorem zyi {p t:List Txt} (hlt:∀ i j,i<H→j<W→c i j<(rP p).length) (hs:∀ a,a<(rP p).length→∃ i j,i<H∧j<W∧c i j=a) (hPl:Pl c H W) (ht:zbx t=true) (hR:Ren c H W t) :
  ∃ σ:Nat→Nat,(∀ i j,i<H→j<W→cn (gP t) i j=σ (c i j))∧Iso p t (TC (DL c H W)) (TC (DU c H W)) σ:=by
 obtain ⟨l1,l2,hpat⟩:=hR
 have hpl:zak t=true:=z7o ht (by rw [l1,l2]; exact hPl.ren hpat)
 obtain ⟨σ,hσ⟩:=zzt hpat
 obtain ⟨τ,hτ⟩:=zzt fun i j i' j' a b d e=>(hpat i j i' j' a b d e).symm
 have hrm:=zb0 (p:=t)
 have hcl:∀ i j,i<H→j<W→cn (gP t) i j<(rP t).length:=fun i j hi hj=>ze5 hrm (by rw [l1]; exact hi) (by rw [l2]; exact hj)
 have hστ:∀ a,a<(rP p).length→τ (σ a)=a∧σ a<(rP t).length:=by
  intro a ha
  obtain ⟨i,j,hi,hj,rfl⟩:=hs a ha
  rw [← hσ i j hi hj,← hτ i j hi hj]
  exact ⟨rfl,hcl i j hi hj⟩
 have hτσ:∀ b,b<(rP t).length→σ (τ b)=b∧τ b<(rP p).length:=by
  intro b hb
  obtain ⟨i,j,hi,hj,rfl⟩:=za8 hb
  rw [l1]at hi; rw [l2]at hj
  rw [← hτ i j hi hj,← hσ i j hi hj]
  exact ⟨rfl,hlt i j hi hj⟩
 have hn:(rP t).length=(rP p).length:=by
  apply Nat.le_antisymm
  ·exact pig (fun b hb=>(hτσ b hb).2) fun a b ha hb e=>by rw [← (hτσ a ha).1,e,(hτσ b hb).1]
  exact pig (fun a ha=>(hστ a ha).2) fun a b ha hb e=>by rw [← (hστ a ha).1,e,(hστ b hb).1]
 refine ⟨σ,hσ,hpl,hn,fun a ha=>by have:=(hστ a ha).2; omega,fun a b ha hb e=>by rw [← (hστ a ha).1,e,(hστ b hb).1],fun a b ha hb=>?_,fun a b ha hb=>?_⟩
 ·rw [Lf.iff (hστ a ha).2 (hστ b hb).2,l1,l2]
  constructor
  ·intro h
   have:=TC.map (f:=τ) (fun a b=>DL.ren hτ fun i j i' j' q w e r=>(hpat i j i' j' q w e r).symm) h
   rwa [(hστ a ha).1,(hστ b hb).1]at this
  exact TC.map (f:=σ) fun a b=>DL.ren hσ hpat
 rw [Ab.iff (hστ a ha).2 (hστ b hb).2,l1,l2]
 constructor
 ·intro h
  have:=TC.map (f:=τ) (fun a b=>DU.ren hτ fun i j i' j' q w e r=>(hpat i j i' j' q w e r).symm) h
  rwa [(hστ a ha).1,(hστ b hb).1]at this
 exact TC.map (f:=σ) fun a b=>DU.ren hσ hpat
theorem Iso.imp {p t:List Txt} {L U L' U':Nat→Nat→Prop} {σ:Nat→Nat} (h:Iso p t L U σ) (hL:∀ a b,a<(rP p).length→b<(rP p).length→(L a b↔L' a b)) (hU:∀ a b,a<(rP p).length→b<(rP p).length→(U a b↔U' a b)):Iso p t L' U' σ :=
 ⟨h.pl,h.n,h.lt,h.inj,fun a b ha hb=>(h.lf a b ha hb).trans (hL a b ha hb),fun a b ha hb=>(h.ab a b ha hb).trans (hU a b ha hb)⟩
structure Fold1 (f:Nat→Nat) (m n:Nat):Prop where
 pos:1≤m
 z:f 0=0
 s:∀ i,i+1<m→f (i+1)=f i∨f (i+1)=f i+1
 e:f (m - 1)+1=n
theorem Fold1.mono {f:Nat→Nat} {m n:Nat} (h:Fold1 f m n):∀ {i j:Nat},i≤j→j<m→f i≤f j:=by
 intro i j hij
 induction j with
 | zero=>intro _; rw [show i=0 by omega]; exact qR _
 | succ j ih =>
  intro hj
  by_cases e:i=j+1
  ·subst e; exact qR _
  have h1:=ih (by omega) (by omega)
  have:=h.s j hj
  omega
theorem Fold1.lt {f:Nat→Nat} {m n i:Nat} (h:Fold1 f m n) (hi:i<m):f i<n:=by
 have:=h.mono (i:=i) (j:=m - 1) (by omega) (by have:=h.pos; omega)
 have:=h.e
 omega
theorem Fold1.mid {f:Nat→Nat} {m n i:Nat} (h:Fold1 f m n) {v:Nat}:∀ {j:Nat},i≤j→j<m→f i≤v→v≤f j→∃ r,i≤r∧r≤j∧f r=v:=by
 intro j
 induction j with
 | zero=>intro h1 h2 h3 h4; exact ⟨0,by omega,qR _,by rw [show i=0 by omega]at h3; omega⟩
 | succ j ih =>
  intro h1 h2 h3 h4
  by_cases e:f (j+1)=v
  ·exact ⟨j+1,h1,qR _,e⟩
  by_cases e2:i=j+1
  ·subst e2; omega
  have:=h.s j h2
  obtain ⟨r,r1,r2,r3⟩:=ih (by omega) (by omega) h3 (by omega)
  exact ⟨r,r1,by omega,r3⟩
theorem Fold1.last {f:Nat→Nat} {m n v:Nat} (h:Fold1 f m n) (hv:v+1<n):∃ r,r+1<m∧f r=v∧f (r+1)=v+1:=by
 have hp:=h.pos
 have he:=h.e
 obtain ⟨e,h1,h2,h3,h4⟩:=zwm (P:=fun r=>f r≤v) (i:=0) (n:=m - 1) (by omega) (by rw [h.z]; omega) (by omega)
 have:=h.s e (by omega)
 exact ⟨e,by omega,by omega,by omega⟩
theorem DL.fold {f g:Nat→Nat} {H' W':Nat} (hf:Fold1 f H H') (hg:Fold1 g W W') (hc:∀ i j,i<H→j<W→c i j=c' (f i) (g j)) {a b:Nat}:DL c H W a b↔DL c' H' W' a b:=by
 constructor
 ·rintro ⟨j,i1,i2,h1,h2,h3,run,rfl,rfl⟩
  have hgj:g (j+1)=g j+1:=by
   rcases hg.s j h1 with e | e
   ·have:=run i1 (by omega) (by omega)
    rw [hc i1 j h2 (by omega),hc i1 (j+1) h2 h1,e]at this
    exact absurd rfl this
   exact e
  have hlt:=hg.lt h1
  refine ⟨g j,f i1,f i2,by omega,hf.lt h2,hf.lt h3,fun r r1 r2=>?_,hc _ _ h2 (by omega),by rw [hc _ _ h3 h1,hgj]⟩
  have:∃ r0,min i1 i2≤r0∧r0≤max i1 i2∧f r0=r:=by
   rcases Nat.le_total i1 i2 with q | q
   ·have:=hf.mono q h3
    obtain ⟨r0,q1,q2,q3⟩:=hf.mid (v:=r) q h3 (by omega) (by omega)
    exact ⟨r0,by omega,by omega,q3⟩
   have:=hf.mono q h2
   obtain ⟨r0,q1,q2,q3⟩:=hf.mid (v:=r) q h2 (by omega) (by omega)
   exact ⟨r0,by omega,by omega,q3⟩
  obtain ⟨r0,q1,q2,rfl⟩:=this
  have:=run r0 q1 q2
  rw [hc r0 j (by omega) (by omega),hc r0 (j+1) (by omega) h1,hgj]at this
  exact this
 rintro ⟨j,i1,i2,h1,h2,h3,run,rfl,rfl⟩
 obtain ⟨j0,k1,k2,k3⟩:=hg.last h1
 have hfe:=hf.e
 have hfp:=hf.pos
 obtain ⟨r1,-,q2,q3⟩:=hf.mid (i:=0) (j:=H - 1) (v:=i1) (by omega) (by omega) (by rw [hf.z]; omega) (by omega)
 obtain ⟨r2,-,q5,q6⟩:=hf.mid (i:=0) (j:=H - 1) (v:=i2) (by omega) (by omega) (by rw [hf.z]; omega) (by omega)
 refine ⟨j0,r1,r2,k1,by omega,by omega,fun r s1 s2=>?_,by rw [hc _ _ (by omega) (by omega),q3,k2],by rw [hc _ _ (by omega) (by omega),q6,k3]⟩
 rw [hc r j0 (by omega) (by omega),hc r (j0+1) (by omega) k1,k2,k3]
 refine run (f r) ?_ ?_
 ·rcases Nat.le_total r1 r2 with q | q
  ·have:=hf.mono (show r1≤r by omega) (show r<H by omega); omega
  have:=hf.mono (show r2≤r by omega) (show r<H by omega); omega
 rcases Nat.le_total r1 r2 with q | q
 ·have:=hf.mono (show r≤r2 by omega) (show r2<H by omega); omega
 have:=hf.mono (show r≤r1 by omega) (show r1<H by omega); omega
theorem DU.fold {f g:Nat→Nat} {H' W':Nat} (hf:Fold1 f H H') (hg:Fold1 g W W') (hc:∀ i j,i<H→j<W→c i j=c' (f i) (g j)) {a b:Nat}:DU c H W a b↔DU c' H' W' a b :=
 DL.fold (c:=tr c) (c':=tr c') hg hf fun i j hi hj=>hc j i hj hi
theorem TC.iff {R S:Nat→Nat→Prop} (h:∀ a b,R a b↔S a b) {a b:Nat}:TC R a b↔TC S a b:=⟨TC.mono fun a b=>(h a b).1,TC.mono fun a b=>(h a b).2⟩
end
section
def zh7 (ah:Nat→Nat) (n:Nat):Nat→List Int
 | 0=>List.replicate n 0
 | a+1=>(zh7 ah n a).set (ah a) (a:Int)
theorem ziq {ah:Nat→Nat} {n:Nat}:∀ k,(zh7 ah n k).length=n
 | 0=>by simp [zh7]
 | k+1=>by simp [zh7,ziq k]
theorem zo9 {ah:Nat→Nat} {n:Nat} (hn:∀ a,a<n→ah a<n) (hi:∀ a b,a<n→b<n→ah a=ah b→a=b):∀ k,k≤n→∀ a,a<k→(zh7 ah n k)[ah a]?=some (a:Int)
 | 0,_,a,h=>by omega
 | k+1,hk,a,h=>by
  unfold zh7
  rw [List.getElem?_set,ziq]
  by_cases e:a=k
  ·subst e; rw [if_pos rfl,if_pos (hn a (by omega))]
  rw [if_neg fun q=>e (hi a k (by omega) (by omega) q.symm)]
  exact zo9 hn hi k (by omega) a (by omega)
def rooms (n:Nat):List Int:=(List.range n).map fun i:Nat=>(i:Int)
theorem zvj {n:Nat}:(rooms n).length=n:=by simp [rooms]
theorem zui {n:Nat} {x:Int}:x∈rooms n↔0≤x∧x<n:=by
 unfold rooms
 rw [List.mem_map]
 constructor
 ·rintro ⟨i,hi,rfl⟩; simp at hi; omega
 rintro ⟨h1,h2⟩; exact ⟨x.toNat,by simp; omega,by omega⟩
theorem zzg {n i:Nat} (h:i<n):(rooms n)[i]?=some (i:Int):=by simp [rooms,h]
theorem z09 {n:Nat}:rooms (n+1)=rooms n++[(n:Int)]:=by simp [rooms,qS]
theorem z1e {z:List Int} {g:Int→Int} (hs:(z.map g).Pairwise (· ≤ ·)) (hd:∀ (i j:Nat) x y,z[i]?=some x→z[j]?=some y→g x=g y→i=j) {i:Nat} {x:Int} (hx:z[i]?=some x):z.countP (fun y=>decide (g y<g x))=i:=by
 have hil:=zbc hx
 have hp:=List.pairwise_iff_getElem.1 hs
 have lt:∀ (a b:Nat) u v,z[a]?=some u→z[b]?=some v→a<b→g u<g v:=by
  intro a b u v hu hv hab
  have h1:=zbc hu
  have h2:=zbc hv
  have h3:=hp a b (by simpa using h1) (by simpa using h2) hab
  simp only[List.getElem_map]at h3
  rw [List.getElem?_eq_getElem h1]at hu
  rw [List.getElem?_eq_getElem h2]at hv
  cases hu; cases hv
  rcases Int.lt_or_le (g z[a]) (g z[b]) with q | q
  ·exact q
  have e:=hd a b _ _ (List.getElem?_eq_getElem h1) (List.getElem?_eq_getElem h2) (by omega)
  omega
 have e:z=z.take i++z.drop i:=(List.take_append_drop i z).symm
 have c1:(z.take i).countP (fun y=>decide (g y<g x))=i:=by
  rw [List.countP_eq_length.2]
  ·rw [List.length_take]; omega
  intro y hy
  obtain ⟨j,hj⟩:=List.mem_iff_getElem?.1 hy
  rw [List.getElem?_take]at hj
  split at hj
  ·exact decide_eq_true (lt j i y x hj hx (by assumption))
  cases hj
 have c2:(z.drop i).countP (fun y=>decide (g y<g x))=0:=by
  rw [List.countP_eq_zero]
  intro y hy
  obtain ⟨j,hj⟩:=List.mem_iff_getElem?.1 hy
  rw [List.getElem?_drop]at hj
  by_cases q:j=0
  ·subst q; rw [Nat.add_zero,hx]at hj; cases hj; simp
  have:=lt i (i+j) x y hx hj (by omega)
  simp; omega
 rw [e,List.countP_append,c1,c2,Nat.add_zero]
theorem zmh {f:Int→Bool}:∀ n,(rooms n).countP f=(List.range n).countP fun a:Nat=>f (a:Int)
 | 0=>rfl
 | n+1=>by rw [z09,qS,List.countP_append,List.countP_append,zmh n]; rfl
theorem zw5 {n:Nat}:∀ (i j:Nat) x,(rooms n)[i]?=some x→(rooms n)[j]?=some x→i=j:=by
 intro i j x hi hj
 have h1:=zbc hi
 have h2:=zbc hj
 rw [zvj]at h1 h2
 rw [zzg h1]at hi
 rw [zzg h2]at hj
 cases hi; cases hj; rfl
theorem zuk {z:List Int} (h:z.Nodup) {i j:Nat} (hi:i<z.length) (hj:j<z.length) (e:z[i]=z[j]):i=j:=by
 unfold List.Nodup at h
 rw [List.pairwise_iff_getElem]at h
 rcases Nat.lt_trichotomy i j with q | q | q
 ·exact absurd e (h i j hi hj q)
 ·exact q
 exact absurd e.symm (h j i hj hi q)
theorem zoz (n:Nat):(rooms n).Nodup:=by
 unfold List.Nodup
 rw [List.pairwise_iff_getElem]
 intro i j hi hj hij e
 have:=zw5 i j _ (List.getElem?_eq_getElem hi) (e ▸ List.getElem?_eq_getElem hj)
 omega
section
variable {n:Nat} {f:Nat→Nat}
theorem zs7 (hf:∀ a b,a<n→b<n→f a=f b→a=b) {a b:Nat} (ha:a<n) (hb:b<n) (h:ahead n f a=ahead n f b):a=b:=by
 rcases Nat.lt_trichotomy (f a) (f b) with q | q | q
 ·have:=znb (n:=n) ha q; omega
 ·exact hf a b ha hb q
 have:=znb (n:=n) hb q; omega
theorem z1f (hf:∀ a b,a<n→b<n→f a=f b→a=b) {z:List Int} (hp:z.Perm (rooms n)) (hs:(z.map fun x=>((f x.toNat:Nat):Int)).Pairwise (· ≤ ·)):z=zh7 (ahead n f) n n:=by
 have hl:=hp.length_eq
 rw [zvj]at hl
 have hm:∀ x∈z,0≤x∧x<n:=fun x hx=>zui.1 (hp.mem_iff.1 hx)
 have hd:∀ (i j:Nat) x y,z[i]?=some x→z[j]?=some y→((f x.toNat:Nat):Int)=((f y.toNat:Nat):Int)→i=j:=by
  intro i j x y hx hy e
  have h1:=hm x (List.mem_of_getElem? hx)
  have h2:=hm y (List.mem_of_getElem? hy)
  have e2:=hf x.toNat y.toNat (by omega) (by omega) (by omega)
  have e3:x=y:=by omega
  subst e3
  have hnd:z.Nodup:=hp.nodup_iff.2 (zoz n)
  have hi:=zbc hx
  have hj:=zbc hy
  rw [List.getElem?_eq_getElem hi]at hx
  rw [List.getElem?_eq_getElem hj]at hy
  exact zuk hnd hi hj ((Option.some.inj hx).trans (Option.some.inj hy).symm)
 apply List.ext_getElem?
 intro i
 by_cases hi:i<n
 ·obtain ⟨x,hx,hxm⟩:=zag (show i<z.length by omega)
  have h1:=hm x hxm
  have e:=z1e hs hd hx
  rw [hp.countP_eq,zmh]at e
  have e2:ahead n f x.toNat=i:=by
   unfold ahead
   rw [← e]
   apply List.countP_congr
   intro a ha
   simp
  have:=zo9 (fun a ha=>z1u (rk:=f) ha) (fun a b ha hb h=>zs7 hf ha hb h) n (qR _) x.toNat (by omega)
  rw [e2]at this
  rw [hx,this,show ((x.toNat:Nat):Int)=x by omega]
 rw [List.getElem?_eq_none (by omega),List.getElem?_eq_none (by rw [ziq]; omega)]
end
def bf1 (p:List Txt) (a b:Nat):Bool:=zci (lfM p) a b || zci (abM p) a b
def bf2 (p:List Txt) (a b:Nat):Bool:=zci (lfM p) a b || zci (abM p) b a
def bfK (p:List Txt) (below:Bool) (a b:Nat):Bool:=if below then bf2 p a b else bf1 p a b
def ahK (p:List Txt) (below:Bool) (a:Nat):Nat:=(List.range (rP p).length).countP fun b=>bfK p below b a
theorem zrr {p:List Txt} (hp:zak p=true) (below:Bool):∃ f:Nat→Nat,(∀ a b,a<(rP p).length→b<(rP p).length→(bfK p below a b=true↔f a<f b))∧∀ a b,a<(rP p).length→b<(rP p).length→f a=f b→a=b:=by
 obtain ⟨f,g,hfg⟩:=zju hp
 have tot:=fun a b ha hb hne=>z0v (a:=a) (b:=b) hp ha hb hne
 cases below with
 | false =>
  have h1:∀ a b,a<(rP p).length→b<(rP p).length→bfK p false a b=true→f a<f b:=by
   intro a b ha hb h
   simp only[bfK,bf1,qF,if_false,Bool.or_eq_true]at h
   rcases h with h | h
   ·exact ((hfg a b ha hb).1 h).1
   exact ((hfg a b ha hb).2 h).1
  have h2:∀ a b,a<(rP p).length→b<(rP p).length→a≠b→bfK p false a b=true∨bfK p false b a=true:=by
   intro a b ha hb hne
   simp only[bfK,bf1,qF,if_false,Bool.or_eq_true]
   rcases tot a b ha hb hne with h | h | h | h
   ·exact .inl (.inl h)
   ·exact .inr (.inl h)
   ·exact .inl (.inr h)
   exact .inr (.inr h)
  have h3:∀ a b,a<(rP p).length→b<(rP p).length→f a=f b→a=b:=by
   intro a b ha hb e
   refine Classical.byContradiction fun hne=>?_
   rcases h2 a b ha hb hne with h | h
   ·have:=h1 a b ha hb h; omega
   have:=h1 b a hb ha h; omega
  refine ⟨f,fun a b ha hb=>⟨h1 a b ha hb,fun h=>?_⟩,h3⟩
  rcases h2 a b ha hb (by rintro rfl; omega) with k | k
  ·exact k
  have:=h1 b a hb ha k; omega
 | true =>
  have h1:∀ a b,a<(rP p).length→b<(rP p).length→bfK p true a b=true→g a<g b:=by
   intro a b ha hb h
   simp only[bfK,bf2,if_true,Bool.or_eq_true]at h
   rcases h with h | h
   ·exact ((hfg a b ha hb).1 h).2
   exact ((hfg b a hb ha).2 h).2
  have h2:∀ a b,a<(rP p).length→b<(rP p).length→a≠b→bfK p true a b=true∨bfK p true b a=true:=by
   intro a b ha hb hne
   simp only[bfK,bf2,if_true,Bool.or_eq_true]
   rcases tot a b ha hb hne with h | h | h | h
   ·exact .inl (.inl h)
   ·exact .inr (.inl h)
   ·exact .inr (.inr h)
   exact .inl (.inr h)
  have h3:∀ a b,a<(rP p).length→b<(rP p).length→g a=g b→a=b:=by
   intro a b ha hb e
   refine Classical.byContradiction fun hne=>?_
   rcases h2 a b ha hb hne with h | h
   ·have:=h1 a b ha hb h; omega
   have:=h1 b a hb ha h; omega
  refine ⟨g,fun a b ha hb=>⟨h1 a b ha hb,fun h=>?_⟩,h3⟩
  rcases h2 a b ha hb (by rintro rfl; omega) with k | k
  ·exact k
  have:=h1 b a hb ha k; omega
theorem zp8 {p:List Txt} {below:Bool} {f:Nat→Nat} (hf:∀ a b,a<(rP p).length→b<(rP p).length→(bfK p below a b=true↔f a<f b)) {a:Nat} (ha:a<(rP p).length):ahK p below a=ahead (rP p).length f a:=by
 unfold ahK ahead
 apply List.countP_congr
 intro b hb
 rw [hf b a (by simpa using hb) ha]; simp
theorem zm0 {f g:Nat→Nat} {n:Nat}:∀ k,(∀ a,a<k→f a=g a)→zh7 f n k=zh7 g n k
 | 0,_=>rfl
 | k+1,h=>by unfold zh7; rw [zm0 k fun a ha=>h a (by omega),h k (by omega)]
def srt (p:List Txt) (below:Bool):List Int:=zh7 (ahK p below) (rP p).length (rP p).length
theorem z5h {p:List Txt} {below:Bool}:(srt p below).length=(rP p).length:=ziq _
theorem yc6 {p:List Txt} {below:Bool} {f:Nat→Nat} (hf:∀ a b,a<(rP p).length→b<(rP p).length→(bfK p below a b=true↔f a<f b)) (hi:∀ a b,a<(rP p).length→b<(rP p).length→f a=f b→a=b)
  {z:List Int} (hz:z.Perm (rooms (rP p).length)) (hs:(z.map fun x=>((f x.toNat:Nat):Int)).Pairwise (· ≤ ·)):z=srt p below:=by
 rw [z1f hi hz hs]
 exact (zm0 _ fun a ha=>zp8 hf ha).symm
end
section
section
variable {p:List Txt} {below:Bool}
theorem zzu (hp:zak p=true) (below:Bool):(srt p below).Perm (rooms (rP p).length):=by
 obtain ⟨f,hf,hi⟩:=zrr hp below
 have h1:((rooms (rP p).length).mergeSort fun x y=>decide (f x.toNat≤f y.toNat)).Perm (rooms (rP p).length):=List.mergeSort_perm _ _
 have h2:(((rooms (rP p).length).mergeSort fun x y=>decide (f x.toNat≤f y.toNat)).map fun x=>((f x.toNat:Nat):Int)).Pairwise (· ≤ ·):=by
  rw [List.pairwise_map]
  refine (List.pairwise_mergeSort (fun a b c h k=>?_) (fun a b=>?_) _).imp fun {a b} h=>?_
  ·simp only[decide_eq_true_eq]at h k ⊢; omega
  ·simp only[Bool.or_eq_true,decide_eq_true_eq]; omega
  simp only[decide_eq_true_eq]at h; omega
 rw [← yc6 hf hi h1 h2]
 exact h1
theorem ybn (hp:zak p=true) {x:Int}:x∈srt p below↔0≤x∧x<(rP p).length:=by
 rw [(zzu hp below).mem_iff,zui]
theorem z5i (hp:zak p=true):(srt p below).Nodup:=(zzu hp below).nodup_iff.2 (zoz _)
theorem zcq (hp:zak p=true) {a:Nat} (ha:a<(rP p).length):ahK p below a<(rP p).length:=by
 obtain ⟨f,hf,hi⟩:=zrr hp below
 rw [zp8 hf ha]; exact z1u ha
theorem zc1 (hp:zak p=true) {a b:Nat} (ha:a<(rP p).length) (hb:b<(rP p).length):bfK p below a b=true↔ahK p below a<ahK p below b:=by
 obtain ⟨f,hf,hi⟩:=zrr hp below
 rw [zp8 hf ha,zp8 hf hb,hf a b ha hb]
 constructor
 ·intro h; exact znb ha h
 intro h
 refine Classical.byContradiction fun k=>?_
 rcases Nat.lt_trichotomy (f a) (f b) with q | q | q
 ·exact k q
 ·have:=hi a b ha hb q; subst this; omega
 have:=znb (n:=(rP p).length) hb q; omega
theorem zen (hp:zak p=true) {a b:Nat} (ha:a<(rP p).length) (hb:b<(rP p).length) (h:ahK p below a=ahK p below b):a=b:=by
 obtain ⟨f,hf,hi⟩:=zrr hp below
 rw [zp8 hf ha,zp8 hf hb]at h
 exact zs7 hi ha hb h
theorem z5f (hp:zak p=true) {a:Nat} (ha:a<(rP p).length):(srt p below)[ahK p below a]?=some (a:Int) :=
 zo9 (fun a ha=>zcq hp ha) (fun a b ha hb h=>zen hp ha hb h) _ (qR _) a ha
theorem z5g (hp:zak p=true) {i:Nat} (hi:i<(rP p).length):∃ a,a<(rP p).length∧ahK p below a=i∧(srt p below)[i]?=some (a:Int):=by
 obtain ⟨x,hx,hm⟩:=zag (show i<(srt p below).length by rw [z5h]; exact hi)
 obtain ⟨h1,h2⟩:=(ybn hp).1 hm
 refine ⟨x.toNat,by omega,?_,by rw [hx]; congr 1; omega⟩
 have h3:=z5f (below:=below) hp (a:=x.toNat) (by omega)
 have e:((x.toNat:Nat):Int)=x:=by omega
 rw [e]at h3
 have k1:=zbc h3
 have k2:=zbc hx
 rw [List.getElem?_eq_getElem k1]at h3
 rw [List.getElem?_eq_getElem k2]at hx
 exact zuk (z5i hp) k1 k2 ((Option.some.inj h3).trans (Option.some.inj hx).symm)
def zcv (p:List Txt):List Int:=(srt p true).map fun x=>((ahK p false x.toNat:Nat):Int)
theorem zbu:(zcv p).length=(rP p).length:=by simp [zcv,z5h]
theorem zy4 (hp:zak p=true) {i a:Nat} (h:(srt p true)[i]?=some (a:Int)):(zcv p)[i]?=some ((ahK p false a:Nat):Int):=by
 unfold zcv
 rw [List.getElem?_map,h]
 simp
end
end

section
variable {M:List (List Bool)} {ms:List Nat} {n:Nat} {rk:Nat→Nat} {ws out:List Int}
abbrev ones (n:Nat):List Int:=List.replicate n 1
def RB (M:List (List Bool)) (n b:Nat):Int:=HB (revM n M) (ones n) n b
def ydo (M:List (List Bool)) (n:Nat) (out:List Int):Prop:=out.length=n∧∀ a,a<n→0≤zei out a∧zei out a≤RB M n a
theorem ydo.set (h:ydo M n out) {a:Nat} {v:Int} (ha:a<n) (h0:0≤v) (h1:v≤RB M n a):ydo M n (out.set a v):=by
 refine ⟨by simp [h.1],fun y hy=>?_⟩
 rw [z61 (by rw [h.1]; exact ha)]
 split
 ·rename_i e; subst e; exact ⟨h0,h1⟩
 exact h.2 y hy
end
section
variable {p:List Txt}
def zv4 (p:List Txt) (i:Nat):Nat:=((srt p true)[i]?.getD 0).toNat
theorem zet (hp:zak p=true) {i:Nat} (hi:i<(rP p).length):zv4 p i<(rP p).length∧ahK p true (zv4 p i)=i∧(srt p true)[i]?=some (zv4 p i:Int):=by
 obtain ⟨a,h1,h2,h3⟩:=z5g (below:=true) hp hi
 have e:zv4 p i=a:=by unfold zv4; rw [h3]; simp
 rw [e]; exact ⟨h1,h2,h3⟩
theorem zjy (hp:zak p=true) {a:Nat} (ha:a<(rP p).length):zv4 p (ahK p true a)=a:=by
 have h:=z5f (below:=true) hp ha
 unfold zv4; rw [h]; simp
def xI (p:List Txt) (i:Nat):Int:=((ahK p false (zv4 p i):Nat):Int)
theorem ydh (hp:zak p=true) {i:Nat} (hi:i<(rP p).length):(zcv p)[i]?=some (xI p i):=zy4 hp (zet hp hi).2.2
theorem x_lt (hp:zak p=true) {k i:Nat} (hk:k<i) (hi:i<(rP p).length) :
  (xI p k<xI p i→zci (lfM p) (zv4 p k) (zv4 p i)=true)∧(¬ xI p k<xI p i→zci (abM p) (zv4 p i) (zv4 p k)=true):=by
 obtain ⟨a1,a2,-⟩:=zet hp hi
 obtain ⟨b1,b2,-⟩:=zet hp (show k<(rP p).length by omega)
 have h2:=(zc1 (below:=true) hp b1 a1).2 (by omega)
 have h1:=zc1 (below:=false) hp b1 a1
 simp only[bfK,bf1,bf2,if_true,qF,if_false,Bool.or_eq_true]at h1 h2
 unfold xI
 constructor
 ·intro h
  have h3:=h1.2 (by omega)
  rcases h2 with h2 | h2
  ·exact h2
  rcases h3 with h3 | h3
  ·exact h3
  exact absurd h3 (Ab.only hp a1 b1 h2).1
 intro h
 rcases h2 with h2 | h2
 ·exact absurd (h1.1 (.inl h2)) (by omega)
 exact h2
theorem z3o (hp:zak p=true) {a i:Nat} (ha:a<(rP p).length) (hi:i<(rP p).length) (h:zci (lfM p) a (zv4 p i)=true):ahK p true a<i∧xI p (ahK p true a)<xI p i:=by
 obtain ⟨a1,a2,-⟩:=zet hp hi
 have h2:=(zc1 (below:=true) hp ha a1).1 (by simp only[bfK,bf2,if_true,Bool.or_eq_true]; exact .inl h)
 have h1:=(zc1 (below:=false) hp ha a1).1 (by simp only[bfK,bf1,qF,if_false,Bool.or_eq_true]; exact .inl h)
 unfold xI
 rw [zjy hp ha]
 omega
theorem z1s (hp:zak p=true) {b i:Nat} (hb:b<(rP p).length) (hi:i<(rP p).length) (h:zci (abM p) (zv4 p i) b=true):ahK p true b<i∧¬ xI p (ahK p true b)<xI p i:=by
 obtain ⟨a1,a2,-⟩:=zet hp hi
 have h2:=(zc1 (below:=true) hp hb a1).1 (by simp only[bfK,bf2,if_true,Bool.or_eq_true]; exact .inr h)
 have h1:=(zc1 (below:=false) hp a1 hb).1 (by simp only[bfK,bf1,qF,if_false,Bool.or_eq_true]; exact .inr h)
 unfold xI
 rw [zjy hp hb]
 omega
def stp (f:Nat→Int) (i n:Nat):List Int:=(List.range n).map fun k=>if k<i then f k else 0
theorem z5j {f:Nat→Int} {i n:Nat}:(stp f i n).length=n:=by simp [stp]
theorem z78 {f:Nat→Int} {n:Nat}:stp f 0 n=List.replicate n 0:=by
 apply List.ext_getElem?
 intro j
 by_cases h:j<n <;> simp [stp,h]
theorem ybp {f:Nat→Int} {i n:Nat}:(stp f i n).set i (f i)=stp f (i+1) n:=by
 apply List.ext_getElem?
 intro j
 rw [List.getElem?_set,z5j]
 by_cases e:i=j
 ·subst e
  by_cases h:i<n <;> simp [stp,h]
 rw [if_neg e]
 by_cases h:j<n
 ·simp only[stp,List.getElem?_map,List.getElem?_range h,qO]
  congr 1
  by_cases h2:j<i
  ·rw [if_pos h2,if_pos (by omega)]
  rw [if_neg h2,if_neg (by omega)]
 simp [stp,h]
end
section
theorem zs0 {σ:Nat→Nat} {n:Nat} (h:∀ a,a<n→σ a<n) (hi:∀ a b,a<n→b<n→σ a=σ b→a=b) {v:Nat} (hv:v<n):∃ a,a<n∧σ a=v:=by
 refine Classical.byContradiction fun hno=>?_
 have hno':∀ a,a<n→σ a≠v:=fun a ha e=>hno ⟨a,ha,e⟩
 have:=pig (σ:=fun a=>if σ a<v then σ a else σ a - 1) (n:=n) (m:=n - 1) (fun a ha=>by
  have h1:=h a ha
  have h2:=hno' a ha
  split <;> omega) (fun a b ha hb e=>by
  have h2:=hno' a ha
  have h3:=hno' b hb
  refine hi a b ha hb ?_
  split at e <;> split at e <;> omega)
 omega
theorem zsn {f g:Nat→Nat} {n:Nat} (f1:∀ a,a<n→f a<n) (f2:∀ a b,a<n→b<n→f a=f b→a=b) (g1:∀ a,a<n→g a<n) (g2:∀ a b,a<n→b<n→g a=g b→a=b)
  (h:∀ a b,a<n→b<n→(f a<f b↔g a<g b)):∀ a,a<n→f a=g a:=by
 have key:∀ v a,a<n→f a=v→g a=v:=by
  intro v
  induction v using Nat.strongRecOn with
  | _ v ih =>
   intro a ha e
   have hga:=g1 a ha
   have hfa:=f1 a ha
   rcases Nat.lt_trichotomy (g a) v with q | q | q
   ·obtain ⟨b,hb,e2⟩:=zs0 f1 f2 (v:=g a) hga
    have e3:=ih (g a) q b hb e2
    have:=g2 b a hb ha e3
    subst this; omega
   ·exact q
   obtain ⟨d,hd,e2⟩:=zs0 g1 g2 (v:=v) (by omega)
   have h1:=(h d a hd ha).2 (by omega)
   have:=ih (f d) (by omega) d hd rfl
   omega
 exact fun a ha=>(key (f a) a ha rfl).symm
variable {p t:List Txt} {L U:Nat→Nat→Prop} {σ:Nat→Nat}
theorem zdu {below:Bool} {a b:Nat}:bfK p below a b=true↔Lf p a b∨(if below then Ab p b a else Ab p a b):=by
 unfold bfK bf1 bf2 Lf Ab
 cases below <;> simp
theorem Iso.ah (h:Iso p t L U σ) (hp:zak p=true) {b1 b2:Bool} (he:∀ a b,a<(rP p).length→b<(rP p).length→(bfK t b1 (σ a) (σ b)=true↔bfK p b2 a b=true)):∀ a,a<(rP p).length→ahK t b1 (σ a)=ahK p b2 a:=by
 refine zsn (n:=(rP p).length) (f:=fun a=>ahK t b1 (σ a)) (g:=ahK p b2) (fun a ha=>?_) (fun a b ha hb e=>?_) (fun a ha=>zcq hp ha) (fun a b ha hb e=>zen hp ha hb e) fun a b ha hb=>?_
 ·have:=zcq (below:=b1) h.pl (a:=σ a) (by rw [h.n]; exact h.lt a ha)
  rwa [h.n]at this
 ·exact h.inj a b ha hb (zen h.pl (by rw [h.n]; exact h.lt a ha) (by rw [h.n]; exact h.lt b hb) e)
 rw [← zc1 h.pl (by rw [h.n]; exact h.lt a ha) (by rw [h.n]; exact h.lt b hb),he a b ha hb]
 exact zc1 hp ha hb
theorem Iso.ah_rev (h:Iso p t L U σ) (hp:zak p=true) {b1 b2:Bool} (he:∀ a b,a<(rP p).length→b<(rP p).length→(bfK t b1 (σ a) (σ b)=true↔bfK p b2 b a=true)):∀ a,a<(rP p).length→ahK t b1 (σ a)=(rP p).length - 1 - ahK p b2 a:=by
 refine zsn (n:=(rP p).length) (f:=fun a=>ahK t b1 (σ a)) (g:=fun a=>(rP p).length - 1 - ahK p b2 a) (fun a ha=>?_) (fun a b ha hb e=>?_) (fun a ha=>?_) (fun a b ha hb e=>?_) fun a b ha hb=>?_
 ·have:=zcq (below:=b1) h.pl (a:=σ a) (by rw [h.n]; exact h.lt a ha)
  rwa [h.n]at this
 ·exact h.inj a b ha hb (zen h.pl (by rw [h.n]; exact h.lt a ha) (by rw [h.n]; exact h.lt b hb) e)
 ·omega
 ·have h1:=zcq (below:=b2) hp ha
  have h2:=zcq (below:=b2) hp hb
  exact zen hp ha hb (by omega:ahK p b2 a=ahK p b2 b)
 rw [← zc1 h.pl (by rw [h.n]; exact h.lt a ha) (by rw [h.n]; exact h.lt b hb),he a b ha hb,zc1 hp hb ha]
 have h1:=zcq (below:=b2) hp ha
 have h2:=zcq (below:=b2) hp hb
 omega
theorem zcz (hp:zak p=true) {a:Nat} (ha:a<(rP p).length):(zcv p)[ahK p true a]?=some ((ahK p false a:Nat):Int):=zy4 hp (z5f hp ha)
theorem zss (hp:zak p=true) {i:Nat} (hi:i<(rP p).length):∃ a,a<(rP p).length∧ahK p true a=i:=by
 obtain ⟨a,h1,h2,-⟩:=z5g (below:=true) hp hi
 exact ⟨a,h1,h2⟩
theorem Iso.perm_turn (h:Iso p t (fun a b=>Ab p b a) (Lf p) σ) (hp:zak p=true) {a:Nat} (ha:a<(rP p).length):(zcv t)[(rP p).length - 1 - ahK p false a]?=some ((ahK p true a:Nat):Int):=by
 have e1:∀ a,a<(rP p).length→ahK t false (σ a)=ahK p true a:=h.ah hp fun x y hx hy=>by
  rw [zdu,zdu,h.lf x y hx hy]
  simp only[qF,if_false,if_true,h.ab _ _ hx hy]
  exact or_comm
 have e2:∀ a,a<(rP p).length→ahK t true (σ a)=(rP p).length - 1 - ahK p false a:=h.ah_rev hp fun x y hx hy=>by
  rw [zdu,zdu,h.lf x y hx hy]
  simp only[qF,if_false,if_true,h.ab _ _ hy hx]
  exact or_comm
 rw [← e2 a ha,zcz h.pl (by rw [h.n]; exact h.lt a ha),e1 a ha]
theorem z67 (hp:zak p=true) (ht:zbx t=true) (hR:Ren (tr (fl (cn (gP p)) p.length)) (zad p).length p.length t):∃ σ:Nat→Nat,(∀ i j,i<(zad p).length→j<p.length→cn (gP t) i j=σ (cn (gP p) (p.length - 1 - j) i))∧Iso p t (fun a b=>Ab p b a) (Lf p) σ:=by
 obtain ⟨σ,h1,h2⟩:=zyi (p:=p) (fun i j hi hj=>ze5 zb0 (by omega) hi) (fun a ha=>by obtain ⟨i,j,hi,hj,e⟩:=za8 ha; exact ⟨j,p.length - 1 - i,hj,by omega,by show cn (gP p) (p.length - 1 - (p.length - 1 - i)) j=a; rw [show p.length - 1 - (p.length - 1 - i)=i by omega]; exact e⟩) (zbv hp).dn.ex ht hR
 refine ⟨σ,h1,h2.imp (fun a b ha hb=>?_) fun a b ha hb=>?_⟩
 ·rw [Ab.iff hb ha]
  constructor
  ·exact fun h=>TC.rev (fun x y (q:DL (tr (fl (cn (gP p)) p.length)) _ _ x y)=>DU.dn q) h
  exact fun h=>TC.rev (fun x y q=>(DU.unfl q:DU (fl (cn (gP p)) p.length) _ _ y x)) h
 rw [Lf.iff ha hb]
 exact TC.iff fun x y=>⟨fun (q:DL (fl (cn (gP p)) p.length) _ _ x y)=>q.dn,fun q=>q.unfl⟩
theorem z66 (hp:zak p=true) (ht:zbx t=true) (hR:Ren (tr (fl (tr (cn (gP p))) (zad p).length)) p.length (zad p).length t):∃ σ:Nat→Nat,(∀ i j,i<p.length→j<(zad p).length→cn (gP t) i j=σ (cn (gP p) i ((zad p).length - 1 - j)))∧Iso p t (fun a b=>Lf p b a) (Ab p) σ:=by
 obtain ⟨σ,h1,h2⟩:=zyi (p:=p) (fun i j hi hj=>ze5 zb0 hi (by omega)) (fun a ha=>by obtain ⟨i,j,hi,hj,e⟩:=za8 ha; exact ⟨i,(zad p).length - 1 - j,hi,by omega,by show cn (gP p) i ((zad p).length - 1 - ((zad p).length - 1 - j))=a; rw [show (zad p).length - 1 - ((zad p).length - 1 - j)=j by omega]; exact e⟩) (zbv hp).ex.dn.ex ht hR
 refine ⟨σ,h1,h2.imp (fun a b ha hb=>?_) fun a b ha hb=>?_⟩
 ·rw [Lf.iff hb ha]
  constructor
  ·exact fun h=>TC.rev (fun x y (q:DU (fl (tr (cn (gP p))) (zad p).length) _ _ x y)=>(DU.dn q:DU (tr (cn (gP p))) _ _ y x)) h
  exact fun h=>TC.rev (fun x y (q:DU (tr (cn (gP p))) _ _ x y)=>(DU.unfl q:DU (fl (tr (cn (gP p))) (zad p).length) _ _ y x)) h
 rw [Ab.iff ha hb]
 exact TC.iff fun x y=>⟨fun (q:DL (fl (tr (cn (gP p))) (zad p).length) _ _ x y)=>(q.dn:DL (tr (cn (gP p))) _ _ x y),fun (q:DL (tr (cn (gP p))) _ _ x y)=>q.unfl⟩
end
section
variable {c:Nat→Nat→Nat} {H W:Nat}
theorem DL.cols (h:Pl c H W) {i j i' j':Nat} (hi:i<H) (hj:j<W) (hi':i'<H) (hj':j'<W) (hd:DL c H W (c i j) (c i' j')):j<j':=by
 obtain ⟨k,i1,i2,h1,h2,h3,run,e1,e2⟩:=hd
 have a1:j≤k:=by
  refine Classical.byContradiction fun hn=>?_
  have:=h.rect (i:=i1) (j:=k) (i':=i) (j':=j) i1 (k+1) h2 hi (by omega) hj e1.symm (by omega) (by omega) (by omega) (by omega)
  exact run i1 (by omega) (by omega) this.symm
 have a2:k+1≤j':=by
  refine Classical.byContradiction fun hn=>?_
  have:=h.rect (i:=i2) (j:=k+1) (i':=i') (j':=j') i2 k h3 hi' h1 hj' e2.symm (by omega) (by omega) (by omega) (by omega)
  exact run i2 (by omega) (by omega) this
 omega
theorem DL.cells {a b:Nat} (hd:DL c H W a b):(∃ i j,i<H∧j<W∧c i j=a)∧∃ i j,i<H∧j<W∧c i j=b:=by
 obtain ⟨k,i1,i2,h1,h2,h3,run,e1,e2⟩:=hd
 exact ⟨⟨i1,k,h2,by omega,e1.symm⟩,i2,k+1,h3,h1,e2.symm⟩
theorem TC.cols (h:Pl c H W) {a b:Nat} (hd:TC (DL c H W) a b):∀ {i j i' j':Nat},i<H→j<W→i'<H→j'<W→c i j=a→c i' j'=b→j<j':=by
 induction hd with
 | one hd=>intro i j i' j' h1 h2 h3 h4 e1 e2; subst e1; subst e2; exact hd.cols h h1 h2 h3 h4
 | tail _ hd ih =>
  intro i j i' j' h1 h2 h3 h4 e1 e2
  obtain ⟨⟨x,y,hx,hy,e3⟩,-⟩:=hd.cells
  have q1:=ih h1 h2 hx hy e1 e3
  subst e2; rw [← e3]at hd
  have q2:=hd.cols h hx hy h3 h4
  omega
def Thru (c:Nat→Nat→Nat) (H k:Nat):Prop:=∀ r,r<H→c r (k - 1)≠c r k
theorem zpr (h:Pl c H W) {k:Nat} (h1:1≤k) (h2:k<W) (ht:Thru c H k) {i j i' j':Nat} (hi:i<H) (hj:j<k) (hi':i'<H) (hj':k≤j') (hw:j'<W):TC (DL c H W) (c i j) (c i' j'):=by
 have q:TC (DL c H W) (c i (k - 1)) (c i' k) := .one ⟨k - 1,i,i',by omega,hi,hi',fun r r1 r2=>by
  have:=ht r (by omega)
  rw [show k - 1+1=k by omega]; exact this,rfl,by rw [show k - 1+1=k by omega]⟩
 have q1:c i j=c i (k - 1)∨TC (DL c H W) (c i j) (c i (k - 1)):=by
  by_cases e:c i j=c i (k - 1)
  ·exact .inl e
  exact .inr (zix hi (by omega) (by omega) e)
 have q2:c i' k=c i' j'∨TC (DL c H W) (c i' k) (c i' j'):=by
  by_cases e:c i' k=c i' j'
  ·exact .inl e
  exact .inr (zix hi' hj' hw e)
 have q3:TC (DL c H W) (c i j) (c i' k):=by
  rcases q1 with e | e
  ·rw [e]; exact q
  exact e.trans q
 rcases q2 with e | e
 ·rw [← e]; exact q3
 exact q3.trans e
theorem zud (h:Pl c H W) (hH:1≤H) {P:Nat→Prop} (ha:∃ i j,i<H∧j<W∧P (c i j)) (hb:∃ i j,i<H∧j<W∧¬ P (c i j))
  (hl:∀ i j i' j',i<H→j<W→i'<H→j'<W→P (c i j)→¬ P (c i' j')→TC (DL c H W) (c i j) (c i' j')):∃ k,1≤k∧k<W∧Thru c H k∧∀ i j,i<H→j<W→(P (c i j)↔j<k):=by
 obtain ⟨i0,j0,hi0,hj0,hp0⟩:=ha
 obtain ⟨i1,j1,hi1,hj1,hp1⟩:=hb
 -- the first column with a cell that isn't in P
 obtain ⟨k,hk,⟨r,hr,hrp⟩,hmin⟩:=zko (P:=fun k=>∃ r,r<H∧¬ P (c r k)) ⟨i1,hi1,hp1⟩
 have hkW:k<W:=by omega
 have all:∀ i j,i<H→j<W→(P (c i j)↔j<k):=by
  intro i j hi hj
  constructor
  ·intro hp
   have:=TC.cols h (hl i j r k hi hj hr hkW hp hrp) hi hj hr hkW rfl rfl
   exact this
  intro hlt
  exact Classical.byContradiction fun hn=>hmin j hlt ⟨i,hi,hn⟩
 refine ⟨k,?_,hkW,fun r hr e=>?_,all⟩
 ·have:=(all i0 j0 hi0 hj0).1 hp0; omega
 have hk1:1≤k:=by have:=(all i0 j0 hi0 hj0).1 hp0; omega
 have q1:=(all r (k - 1) hr (by omega)).2 (by omega)
 have q2:=(all r k hr hkW)
 rw [e]at q1
 have:=q2.1 q1; omega
variable {p:List Txt}
end
section
section
variable {cf cg:Nat→Nat→Nat} {H1 W1 H2 W2 n:Nat}
theorem z6g (w1:1≤W1) (hn:∀ i j,i<H1→j<W1→cf i j<n) (h1:1≤H1):Thru (asd cf H1 W1 cg n) (H1+H2 - 1) W1:=by
 intro r hr e
 unfold asd at e
 rw [if_pos (by omega),if_neg (by omega)]at e
 have:=hn (min r (H1 - 1)) (W1 - 1) (by omega) (by omega)
 omega
theorem ztb (hf:Pl cf H1 W1) (hg:Pl cg H2 W2) (h1:1≤H1) (h2:1≤H2) (w1:1≤W1) (w2:1≤W2) (hn:∀ i j,i<H1→j<W1→cf i j<n) {i j i' j':Nat} (hi:i<H1) (hj:j<W1) (hi':i'<H2) (hj':j'<W2) :
  TC (DL (asd cf H1 W1 cg n) (H1+H2 - 1) (W1+W2)) (cf i j) (n+cg i' j'):=by
 have h:=zpr (zn2 hf hg h1 h2 hn) w1 (by omega) (z6g (H2:=H2) w1 hn h1) (i:=i) (j:=j) (i':=i'+(H1 - 1)) (j':=W1+j') (by omega) hj (by omega) (by omega) (by omega)
 have e1:asd cf H1 W1 cg n i j=cf i j:=by unfold asd; rw [if_pos hj,Nat.min_eq_left (by omega)]
 have e2:asd cf H1 W1 cg n (i'+(H1 - 1)) (W1+j')=n+cg i' j':=by
  unfold asd; rw [if_neg (by omega),Nat.add_sub_cancel,Nat.add_sub_cancel_left]
 rwa [e1,e2]at h
theorem yb9 {a b:Nat} (w1:1≤W1) (h2:1≤H2):(DL cf H1 W1 a b→DL (asd cf H1 W1 cg n) (H1+H2 - 1) (W1+W2) a b)∧(DU cf H1 W1 a b→DU (asd cf H1 W1 cg n) (H1+H2 - 1) (W1+W2) a b):=by
 have at_:∀ {i j},i<H1→j<W1→asd cf H1 W1 cg n i j=cf i j:=fun hi hj=>by unfold asd; rw [if_pos hj,Nat.min_eq_left (by omega)]
 constructor
 ·rintro ⟨j,i1,i2,q1,q2,q3,q4,rfl,rfl⟩
  refine ⟨j,i1,i2,by omega,by omega,by omega,fun r r1 r2=>?_,(at_ q2 (by omega)).symm,(at_ q3 q1).symm⟩
  rw [at_ (by omega) (by omega),at_ (by omega) q1]; exact q4 r r1 r2
 rintro ⟨i,j1,j2,q1,q2,q3,q4,rfl,rfl⟩
 refine ⟨i,j1,j2,by omega,by omega,by omega,fun r r1 r2=>?_,(at_ (by omega) q2).symm,(at_ q1 q3).symm⟩
 rw [at_ (by omega) (by omega),at_ q1 (by omega)]; exact q4 r r1 r2
theorem yca {a b:Nat} (h1:1≤H1):(DL cg H2 W2 a b→DL (asd cf H1 W1 cg n) (H1+H2 - 1) (W1+W2) (n+a) (n+b))∧(DU cg H2 W2 a b→DU (asd cf H1 W1 cg n) (H1+H2 - 1) (W1+W2) (n+a) (n+b)):=by
 have at_:∀ {i j},asd cf H1 W1 cg n (i+(H1 - 1)) (W1+j)=n+cg i j:=by
  intro i j
  unfold asd; rw [if_neg (by omega),Nat.add_sub_cancel,Nat.add_sub_cancel_left]
 constructor
 ·rintro ⟨j,i1,i2,q1,q2,q3,q4,rfl,rfl⟩
  refine ⟨W1+j,i1+(H1 - 1),i2+(H1 - 1),by omega,by omega,by omega,fun r r1 r2=>?_,at_.symm,?_⟩
  ·have:=q4 (r - (H1 - 1)) (by omega) (by omega)
   rw [show r=r - (H1 - 1)+(H1 - 1) by omega,at_,Nat.add_assoc,at_]
   omega
  rw [Nat.add_assoc,at_]
 rintro ⟨i,j1,j2,q1,q2,q3,q4,rfl,rfl⟩
 refine ⟨i+(H1 - 1),W1+j1,W1+j2,by omega,by omega,by omega,fun r r1 r2=>?_,at_.symm,?_⟩
 ·have:=q4 (r - W1) (by omega) (by omega)
  rw [show r=W1+(r - W1) by omega,at_,show i+(H1 - 1)+1=i+1+(H1 - 1) by omega,at_]
  omega
 rw [show i+(H1 - 1)+1=i+1+(H1 - 1) by omega,at_]
end
end
section
theorem zlz {c:Nat→Nat→Nat} {H W N:Nat} (h:Pl c H W) (hc:∀ i j,i<H→j<W→c i j<N) {a b:Nat} (hl:TC (DL c H W) a b):¬ TC (DL c H W) b a∧¬ TC (DU c H W) a b∧¬ TC (DU c H W) b a:=by
 obtain ⟨f,hf⟩:=zkt h hc
 obtain ⟨g,hg⟩:=zup h hc
 have f1:f a<f b:=hl.rise fun a b k=>hf a b (.inl k)
 have g1:g a<g b:=hl.rise fun a b k=>hg a b (.inl k)
 refine ⟨fun k=>?_,fun k=>?_,fun k=>?_⟩
 ·have:f b<f a:=k.rise fun a b k=>hf a b (.inl k)
  omega
 ·have:g b<g a:=TC.rise (f:=g) (R:=fun x y=>DU c H W y x) (fun a b k=>hg a b (.inr k)) (k.rev fun _ _ h=>h)
  omega
 have:f b<f a:=k.rise fun a b k=>hf a b (.inr k)
 omega
section
variable {cf cg:Nat→Nat→Nat} {H1 W1 H2 W2 n N:Nat}
theorem zxr (hf:Pl cf H1 W1) (hg:Pl cg H2 W2) (h1:1≤H1) (h2:1≤H2) (w1:1≤W1) (hn:∀ i j,i<H1→j<W1→cf i j<n) (hN:∀ i j,i<H1+H2 - 1→j<W1+W2→asd cf H1 W1 cg n i j<N)
  {i j i' j':Nat} (hi:i<H1) (hj:j<W1) (hi':i'<H1) (hj':j'<W1) (hne:cf i j≠cf i' j') :
  (TC (DL (asd cf H1 W1 cg n) (H1+H2 - 1) (W1+W2)) (cf i j) (cf i' j')↔TC (DL cf H1 W1) (cf i j) (cf i' j'))∧(TC (DU (asd cf H1 W1 cg n) (H1+H2 - 1) (W1+W2)) (cf i j) (cf i' j')↔TC (DU cf H1 W1) (cf i j) (cf i' j')):=by
 have hP:=zn2 hf hg h1 h2 hn
 have ml:∀ {a b},TC (DL cf H1 W1) a b→TC (DL (asd cf H1 W1 cg n) (H1+H2 - 1) (W1+W2)) a b:=fun h=>h.mono fun _ _=>(yb9 w1 h2).1
 have mu:∀ {a b},TC (DU cf H1 W1) a b→TC (DU (asd cf H1 W1 cg n) (H1+H2 - 1) (W1+W2)) a b:=fun h=>h.mono fun _ _=>(yb9 w1 h2).2
 refine ⟨⟨fun h=>?_,ml⟩,⟨fun h=>?_,mu⟩⟩
 ·obtain ⟨e1,e2,e3⟩:=zlz hP hN h
  rcases zhg hf hi hj hi' hj' hne with k | k | k | k
  ·exact k
  ·exact absurd (ml k) e1
  ·exact absurd (mu k) e2
  exact absurd (mu k) e3
 rcases zhg hf hi hj hi' hj' hne with k | k | k | k
 ·exact absurd h (zlz hP hN (ml k)).2.1
 ·exact absurd h (zlz hP hN (ml k)).2.2
 ·exact k
 have k2:=mu k
 obtain ⟨f,hf'⟩:=zkt hP hN
 have q1:f (cf i j)<f (cf i' j'):=h.rise fun a b k=>hf' a b (.inr k)
 have q2:f (cf i' j')<f (cf i j):=k2.rise fun a b k=>hf' a b (.inr k)
 omega
theorem ztd (hf:Pl cf H1 W1) (hg:Pl cg H2 W2) (h1:1≤H1) (h2:1≤H2) (hn:∀ i j,i<H1→j<W1→cf i j<n) (hN:∀ i j,i<H1+H2 - 1→j<W1+W2→asd cf H1 W1 cg n i j<N)
  {i j i' j':Nat} (hi:i<H2) (hj:j<W2) (hi':i'<H2) (hj':j'<W2) (hne:cg i j≠cg i' j') :
  (TC (DL (asd cf H1 W1 cg n) (H1+H2 - 1) (W1+W2)) (n+cg i j) (n+cg i' j')↔TC (DL cg H2 W2) (cg i j) (cg i' j'))∧(TC (DU (asd cf H1 W1 cg n) (H1+H2 - 1) (W1+W2)) (n+cg i j) (n+cg i' j')↔TC (DU cg H2 W2) (cg i j) (cg i' j')):=by
 have hP:=zn2 hf hg h1 h2 hn
 have gen:∀ {R S:Nat→Nat→Prop},(∀ a b,R a b→S (n+a) (n+b))→∀ {a b},TC R a b→TC S (n+a) (n+b):=by
  intro R S hRS a b h
  induction h with
  | one h=>exact .one (hRS _ _ h)
  | tail _ k ih=>exact .tail ih (hRS _ _ k)
 have ml:∀ {a b},TC (DL cg H2 W2) a b→TC (DL (asd cf H1 W1 cg n) (H1+H2 - 1) (W1+W2)) (n+a) (n+b):=fun h=>gen (fun _ _=>(yca h1).1) h
 have mu:∀ {a b},TC (DU cg H2 W2) a b→TC (DU (asd cf H1 W1 cg n) (H1+H2 - 1) (W1+W2)) (n+a) (n+b):=fun h=>gen (fun _ _=>(yca h1).2) h
 refine ⟨⟨fun h=>?_,ml⟩,⟨fun h=>?_,mu⟩⟩
 ·obtain ⟨e1,e2,e3⟩:=zlz hP hN h
  rcases zhg hg hi hj hi' hj' hne with k | k | k | k
  ·exact k
  ·exact absurd (ml k) e1
  ·exact absurd (mu k) e2
  exact absurd (mu k) e3
 rcases zhg hg hi hj hi' hj' hne with k | k | k | k
 ·exact absurd h (zlz hP hN (ml k)).2.1
 ·exact absurd h (zlz hP hN (ml k)).2.2
 ·exact k
 have k2:=mu k
 obtain ⟨f,hf'⟩:=zkt hP hN
 have q1:f (n+cg i j)<f (n+cg i' j'):=h.rise fun a b k=>hf' a b (.inr k)
 have q2:f (n+cg i' j')<f (n+cg i j):=k2.rise fun a b k=>hf' a b (.inr k)
 omega
end
end
theorem zwp {S:Store} {lo k:Nat} {g:FuncId} {cap:List PV} (h:cap.mapM (frz S lo k)=some cap):frz S lo (k+1) (.fn g cap)=some (.fn g cap):=by
 show (cap.mapM (frz S lo k)).map (PV.fn g)=_
 rw [h]; rfl
def bgT (c:Nat→Nat→Int) (nw i:Nat):List (List Int):=(List.range i).map fun r=>(List.range nw).map (c r)
theorem zje {c:Nat→Nat→Int} {nw i:Nat}:(bgT c nw i).length=i:=by simp [bgT]
theorem z6k {c:Nat→Nat→Int} {nw i:Nat}:bgT c nw (i+1)=bgT c nw i++[(List.range nw).map (c i)]:=by simp [bgT,qS]
theorem ybo {f:Nat→Int} {n:Nat}:stp f n n=(List.range n).map f:=by
 unfold stp
 refine List.map_congr_left fun k hk=>?_
 rw [if_pos (List.mem_range.1 hk)]
theorem yao {S:Store} {lo f:Nat} {d:List (List Int)} {cur cur2:PV} {m:Nat} (h:frz S lo (f+1) cur=some cur2):(gcs d cur m).mapM (frz S lo (f+1))=some (gcs d cur2 m):=by
 unfold gcs
 rw [qP,zbq (l:=d.map eInts) (fun x hx=>by obtain ⟨a,_,rfl⟩:=List.mem_map.1 hx; rfl),qC,h,zbq (l:=List.replicate m PV.nils) (fun x hx=>by obtain rfl:=List.eq_of_mem_replicate hx; rfl)]
 rfl
theorem zoj {S:Store} {lo k m:Nat}:(List.replicate m PV.nils).mapM (frz S lo (k+1))=some (List.replicate m PV.nils):=zbq fun x hx=>by obtain rfl:=List.eq_of_mem_replicate hx; rfl
theorem z6z {v0 tk tk2 m et n:Nat} {d:List (List Int)} {l:List Int} (hn:l.length=n):Store.frz ⟨[.arr v0 et 1 (gcs d (.loc 1 tk 0 n) m),.arr tk 3 1 (l.map (.int .i64))],tk2⟩ 1=some ⟨[.arr v0 et 1 (gc0 (d++[l]) m)],tk2⟩:=by
 subst hn
 have h:frz ⟨[.arr v0 et 1 (gcs d (.loc 1 tk 0 l.length) m),.arr tk 3 1 (l.map (.int .i64))],tk2⟩ 1 10 (.loc 1 tk 0 l.length)=some (eInts l):=by
  have ht:(l.map (PV.int .i64)).take l.length=l.map (PV.int .i64):=qT (by simp)
  simp [-qU,-List.map_take,zhy,zcy,ht,zgh]
 simp [Store.frz,zf9,ze6,yao h,z2y]
theorem zne {c:Nat→Nat→Int} {nh nw:Nat} (hh:nh≤100) (hw:nw≤100) {g:FuncId} {cap:List PV} (hc:∀ (S:Store) (k:Nat),cap.mapM (reify S true (k+1))=some cap) (hz:∀ (S:Store) (lo k:Nat),cap.mapM (frz S lo (k+1))=some cap) (hcell:∀ r w:Nat,r<nh→w<nw→PC Tryz.prog g (.int .i64 r :: .int .i64 w::cap) (.int .i64 (c r w)) true):PC Tryz.prog 72 [.int .i64 nh,.int .i64 nw,.fn g cap] (zc3 (bgT c nw nh)) false:=by
 refine PC.of ⟨Tryz.func72,by kernel_rfl,rfl,by kernel_rfl⟩ zav mixed (by show 3≤Tryz.f72.ntmps; decide) ?_
 refine W.r fun K hK=>?_
 simp(disch:=omega)only[↓RU,RV,RH,↓reduceIte,qE,reduceCtorEq,if_pos,↓RS,RG,qA,qM,qL]
 apply hK;clear hK K
 refine W.r fun K hK=>?_
 simp(disch:=omega)only[↓RU,RV,RH,↓reduceIte,qE,reduceCtorEq,if_pos,↓RS,RG,qA,qM,qL,ty0,zaf,zb4,zaa,zpa,zhb]
 apply hK;clear hK K
 refine W.seq ?_
 refine W.r fun K hK=>?_
 simp(disch:=omega)only[↓RU,RV,RH,↓reduceIte,qE,reduceCtorEq,if_pos,↓RS,RG,qA,qM,qL,ty0,zaf,zb4,zaa]
 apply hK;clear hK K
 refine W.block ?_
 refine W.loopZ [1,2,7,13,14] (fun n vs S=>∃ i v0 tk:Nat,n=nh - i∧i≤nh∧vs=[.int .i64 nw,.fn g cap,.loc 0 v0 0 nh,.int .i64 nh,.int .i64 i]∧S=⟨[.arr v0 31 1 (gc0 (bgT c nw i) (nh - i))],tk⟩) (nh) ?_ ?_
 ·refine ⟨1,[.int .i64 nw,.fn g cap,.loc 0 0 0 nh,.int .i64 nh,.int .i64 0],⟨[.arr 0 31 1 (gc0 (bgT c nw 0) (nh - 0))],1⟩,?_,?_,0,0,1,rfl,by omega,rfl,rfl⟩
  ·simp [-qU,Store.frz,zf9,ze6,zfq,zhy,zcy,zjm,zok,zg7,zgh,zg9,zfp,zfx,zjx,zhe,zhz,zg6,Env.put,Env.of,zaj,zc6,qP,qC,zr0,zwp (hz _ _ _),bgT,zoj]
  simp [-qU,Store.frz,zf9,ze6,zfq,zhy,zcy,zjm,zok,zg7,zgh,zg9,zfp,zfx,zjx,zhe,zhz,zg6,Env.put,Env.of,zaj,zc6,qP,qC,zr0,zwp (hz _ _ _),bgT,zoj]
 rintro n vs S - ⟨i,v0,tk,rfl,h_i,rfl,rfl⟩
 refine W.r fun K hK=>?_
 simp(disch:=omega)only[↓RU,RV,RH,↓reduceIte,qE,reduceCtorEq,if_pos,w64,↓RS,RG,qA,qM,qL,zaa]
 apply hK;clear hK K
 refine W.seq ?_
 refine W.cond rfl (fun h=>?_) (fun h=>?_)
 ·try simp only[RL]at h
  have hil:i<nh:=by omega
  have hbl:=zje (c:=c) (nw:=nw) (i:=i)
  refine W.skip ?_
  refine xn ?_
  refine W.seq ?_
  refine W.block ?_
  refine W.r fun K hK=>?_
  simp(disch:=omega)only[↓RU,RV,RH,↓reduceIte,qE,reduceCtorEq,if_pos,↓RS,RG,qA,qM,qL]
  apply hK;clear hK K
  refine W.r fun K hK=>?_
  simp(disch:=omega)only[↓RU,RV,RH,↓reduceIte,qE,reduceCtorEq,if_pos,↓RS,RG,qA,qM,qL,ty0,zaf,zb4,zaa,zfg,zhb,zwq,hbl,zwr]
  apply hK;clear hK K
  refine W.r fun K hK=>?_
  simp(disch:=omega)only[↓RU,RV,RH,↓reduceIte,qE,reduceCtorEq,if_pos,↓RS,RG,qA,qM,qL,ty0,zaf,zb4,zaa,zdv,zdw,hbl]
  apply hK;clear hK K
  refine W.block ?_
  refine W.loop [1,2,7,8,13,14,26,27] (fun n vs S=>∃ (j tk2:Nat),n=nw - j∧j≤nw∧vs=[.int .i64 nw,.fn g cap,.loc 0 v0 0 nh,.int .i64 i,.int .i64 nh,.int .i64 i,.int .i64 nw,.int .i64 j]∧S=⟨[.arr v0 31 1 (gcs (bgT c nw i) (.loc 1 tk 0 nw) (nh - i - 1)),.arr tk 3 1 ((stp (c i) j nw).map (.int .i64))],tk2⟩) nw ?_ ?_
  ·refine ⟨2,0,tk+1,rfl,Nat.zero_le _,?_,?_⟩
   ·simp [Env.put,Env.of]
   simp [zb8,z78]
  rintro n vs S - ⟨j,tk2,rfl,h_j,rfl,rfl⟩
  refine W.r fun K hK=>?_
  simp(disch:=omega)only[↓RU,RV,RH,↓reduceIte,qE,reduceCtorEq,if_pos,w64,↓RS,RG,qA,qM,qL,zaa]
  apply hK;clear hK K
  refine W.seq ?_
  refine W.cond rfl (fun h1=>?_) (fun h1=>?_)
  ·try simp only[RL]at h1
   have hjw:j<nw:=by omega
   have hsl:=z5j (f:=c i) (i:=j) (n:=nw)
   refine W.skip ?_
   refine xn ?_
   refine W.seq ?_
   refine W.block ?_
   refine W.r fun K hK=>?_
   simp(disch:=omega)only[↓RU,RV,RH,↓reduceIte,qE,reduceCtorEq,if_pos,↓RS,RG,qA,qM,qL]
   apply hK;clear hK K
   refine W.draw_k (by kernel_rfl) fun K hK=>?_
   simp(disch:=omega)only[↓RU,RV,RH,↓reduceIte,qE,reduceCtorEq,if_pos,qN,↓RS,RG,qA,qM,qL,ty0,zaf,zb4,zaa,zdv,zdw,hbl,hsl,zdd,zdy]
   refine zae.pc (hcell i j hil hjw) (zax rfl (zax rfl (hc _ 9))) (.inl rfl) ?_
   simp(disch:=omega)only[↓RU,RV,RH,↓reduceIte,qE,reduceCtorEq,if_pos,qN,↓RS,RG,qA,qM,qL,ty0,zaf,zb4,zaa,zdv,zdw,hbl,hsl,zdd,zdy]
   apply hK;clear hK K
   refine XbN ?_
   refine xn ?_
   refine W.k fun K hK=>?_
   simp(disch:=omega)only[↓RU,RV,RH,↓reduceIte,qE,reduceCtorEq,if_pos,w64,↓RS,RG,qA,qM,qL,zaa]
   apply hK;clear hK K
   refine xn ?_
   refine ⟨nw - (j+1),by omega,2,j+1,tk2,rfl,by omega,?_,?_⟩
   ·simp [Env.put,Env.of]
   simp only[zb8,← ybp (i:=j)]; rfl
  try simp only[RL]at h1
  obtain rfl:nw=j:=by omega
  refine W.exit ?_
  refine xe ?_
  refine xe ?_
  refine XBlock.hit ?_
  refine XbN ?_
  refine xn ?_
  refine W.k fun K hK=>?_
  simp(disch:=omega)only[↓RU,RV,RH,↓reduceIte,qE,reduceCtorEq,if_pos,w64,↓RS,RG,qA,qM,qL,zaa]
  apply hK;clear hK K
  refine xn ?_
  refine ⟨nh - (i+1),by omega,1,[.int .i64 nw,.fn g cap,.loc 0 v0 0 nh,.int .i64 nh,.int .i64 (i+1)],⟨[.arr v0 31 1 (gc0 (bgT c nw (i+1)) (nh - (i+1)))],tk2⟩,?_,?_,(i+1),v0,tk2,rfl,by omega,rfl,rfl⟩
  ·simp [-qU,Store.frz,zf9,ze6,zfq,zhy,zcy,zjm,zok,zg7,zgh,zg9,zfp,zfx,zjx,zhe,zhz,zg6,Env.put,Env.of,zaj,zc6,qP,qC,zr0,zwp (hz _ _ _),bgT,zoj]
  rw [ybo,z6z (by simp),z6k]; rfl
 try simp only[RL]at h
 obtain rfl:nh=i:=by omega
 refine W.exit ?_
 refine xe ?_
 refine xe ?_
 refine XBlock.hit ?_
 refine xn ?_
 refine W.r fun K hK=>?_
 simp(disch:=omega)only[↓RU,RV,RH,↓reduceIte,qE,reduceCtorEq,if_pos,↓RS,RG,qA,qM,qL]
 apply hK;clear hK K
 refine W.ret ?_
 refine Br rfl ?_
 rw [Nat.sub_self,z2x]
 have hbl:=zje (c:=c) (nw:=nw) (i:=nh)
 exact (zd9 (k:=9) (n:=nh) (cells:=(bgT c nw nh).map eInts) rfl (by simp [hbl]) (zqz _)).trans (by show _=some (PV.sl _ (bgT c nw nh).length); rw [hbl])
theorem z1j {g:List (List Int)} {nh nw:Nat} (hg:GW g nh nw) (rs:List Rect) {r c:Nat} (hr:r<nw) (hc:c<nh):PC Tryz.prog 74 [.int .i64 r,.int .i64 c,.ip [zap g rs] 0] (.int .i64 (gz g (nh - 1 - c) r)) true:=by
 obtain ⟨row,hrow,hrl,hx⟩:=hg.at_ (i:=nh - 1 - c) (j:=r) (by omega) (by omega)
 obtain ⟨q1,q2,q3,q4,-⟩:=hg
 have hgl:=q1
 have hcz:((nh:Int) - 1 - (c:Int)).toNat=nh - 1 - c:=by omega
 refine PC.of ⟨Tryz.func74,by kernel_rfl,rfl,by kernel_rfl⟩ zav mixed (by show 3≤Tryz.f74.ntmps; decide) ?_
 refine W.r fun K hK=>?_
 simp(disch:=omega)only[↓RU,RV,RH,↓reduceIte,qE,reduceCtorEq,if_pos]
 apply hK;clear hK K
 refine W.seq_draw (by kernel_rfl) fun K hK=>?_
 simp(disch:=omega)only[↓RU,RV,RH,↓reduceIte,qE,reduceCtorEq,if_pos,qN,w64,↓RS,RG,qA,qM,qL,ty0,ty3,zaf,ty7,zd3,zb4,zas,zaa,zd4,zat,hrow,hx,hcz,hgl]
 refine zae.pc (zdx g rs) rfl (.inl rfl) ?_
 simp(disch:=omega)only[↓RU,RV,RH,↓reduceIte,qE,reduceCtorEq,if_pos,qN,w64,↓RS,RG,qA,qM,qL,ty0,ty3,zaf,ty7,zd3,zb4,zas,zaa,zd4,zat,hrow,hx,hcz,hgl]
 apply hK;clear hK K
 refine W.ret ?_
 refine Br rfl ?_
 rfl
theorem zvx {g:List (List Int)} {nh nw:Nat} (hg:GW g nh nw) (rs:List Rect):PC Tryz.prog 31 [zap g rs] (zc3 (bgT (fun r w=>gz g (nh - 1 - w) r) nh nw)) false:=by
 obtain ⟨q1,q2,q3,q4,q5,q6⟩:=hg
 have hg:GW g nh nw:=⟨q1,q2,q3,q4,q5,q6⟩
 have hgl:=q1
 obtain ⟨row0,hrow0,hrl0,-⟩:=hg.at_ (i:=0) (j:=0) (by omega) (by omega)
 refine PC.of ⟨Tryz.func31,by kernel_rfl,rfl,by kernel_rfl⟩ zav mixed (by show 1≤Tryz.f31.ntmps; decide) ?_
 refine W.joinZ [1] (fun vs S=>∃ tk:Nat,vs=[.ip [zap g rs] 0]∧S=⟨[],tk⟩) ?_ ?_
 ·
  refine W.k fun K hK=>?_
  simp(disch:=omega)only[↓RU,RV,RH,↓reduceIte,qE,reduceCtorEq,if_pos,↓RS,RG,qA,qM,qL,ty7]
  apply hK;clear hK K
  refine xn ?_
  refine ⟨0,[.ip [zap g rs] 0],⟨[],1⟩,?_,?_,1,rfl,rfl⟩
  ·rfl
  rfl
 rintro vs S - ⟨tk,rfl,rfl⟩
 refine W.seq_draw (by kernel_rfl) fun K hK=>?_
 simp(disch:=omega)only[↓RU,RV,RH,↓reduceIte,qE,reduceCtorEq,if_pos,qN,↓RS,RG,qA,qM,qL,ty7,hgl,hrl0]
 refine zae.pc (zeg hrow0 rs) rfl (.inl rfl) ?_
 simp(disch:=omega)only[↓RU,RV,RH,↓reduceIte,qE,reduceCtorEq,if_pos,qN,↓RS,RG,qA,qM,qL,ty7,hgl,hrl0]
 refine zae.pc (zdx g rs) rfl (.inl rfl) ?_
 simp(disch:=omega)only[↓RU,RV,RH,↓reduceIte,qE,reduceCtorEq,if_pos,qN,↓RS,RG,qA,qM,qL,ty7,hgl,hrl0]
 refine zae.pc (zne (c:=fun r w=>gz g (nh - 1 - w) r) (nh:=nw) (nw:=nh) (by omega) (by omega) (fun _ _=>rfl) (fun _ _ _=>rfl) (fun r w h1 h2=>z1j hg rs h1 h2)) rfl (.inr rfl) ?_
 simp(disch:=omega)only[↓RU,RV,RH,↓reduceIte,qE,reduceCtorEq,if_pos,qN,↓RS,RG,qA,qM,qL,ty7,hgl,hrl0]
 apply hK;clear hK K
 refine W.ret ?_
 refine Br rfl ?_
 rfl
theorem z62 {g:List (List Int)} {nh nw:Nat} (hg:GW g nh nw) (hok:okS g=true) (hf:zgt g=true):PC Tryz.prog 71 [zc3 g] (.tup [zaz (nm g),.bool true]) false:=by
 have hgl:g.length<2147483648:=by have:=hg.1; have:=hg.2.2.2.1; omega
 have hgr:∀ r∈g,r.length<2147483648:=fun r hr=>by have:=hg.2.1 r hr; have:=hg.2.2.2.2.2; omega
 have hz:=zrn hg
 have hb:∀ r∈zG g,∀ z∈r,0≤z∧z≤100:=by rw [hg.zG.1]; exact zhi hg.2.2.2.2.2 hg.2.2.2.2.1 nh hg.2.2.2.1
 refine PC.of ⟨Tryz.func71,by kernel_rfl,rfl,by kernel_rfl⟩ zav mixed (by show 1≤Tryz.f71.ntmps; decide) ?_
 refine W.r fun K hK=>?_
 simp(disch:=omega)only[↓RU,RV,RH,↓reduceIte,qE,reduceCtorEq,if_pos,↓RS,RG,qA,qM,qL]
 apply hK;clear hK K
 refine W.r fun K hK=>?_
 simp(disch:=omega)only[↓RU,RV,RH,↓reduceIte,qE,reduceCtorEq,if_pos,qN,↓RS,RG,qA,qM,qL,hf]
 refine zae.pc (zpl hgl hgr hok) rfl (.inr rfl) ?_
 simp(disch:=omega)only[↓RU,RV,RH,↓reduceIte,qE,reduceCtorEq,if_pos,qN,↓RS,RG,qA,qM,qL,hf]
 apply hK;clear hK K
 refine W.seq ?_
 refine W.r fun K hK=>?_
 simp(disch:=omega)only[↓RU,RV,RH,↓reduceIte,qE,reduceCtorEq,if_pos,↓RS,RG,qA,qM,qL]
 apply hK;clear hK K
 refine W.cond rfl (fun h=>?_) (fun h=>?_)
 ·try simp only[RL]at h
  exact absurd h (by simp)
 try simp only[RL]at h
 refine W.skip ?_
 refine xn ?_
 refine W.r fun K hK=>?_
 simp(disch:=omega)only[↓RU,RV,RH,↓reduceIte,qE,reduceCtorEq,if_pos,qN,↓RS,RG,qA,qM,qL]
 refine zae.pc (zxf hz (stG g).2 hb) rfl (.inl rfl) ?_
 simp(disch:=omega)only[↓RU,RV,RH,↓reduceIte,qE,reduceCtorEq,if_pos,qN,↓RS,RG,qA,qM,qL]
 apply hK;clear hK K
 refine W.ret ?_
 refine Br rfl ?_
 rfl
theorem z4q {p:List Txt} (hs:Sm p) (hv:ze0 p=true) {f:FuncId} {cap:List PV} (hc:∀ (S:Store) (k:Nat),cap.mapM (reify S true (k+1))=some cap) {g:List (List Int)} {nh nw:Nat} (hg:GW g nh nw) (hok:okS g=true) (hf:zgt g=true) (hF:PC Tryz.prog f (zap (gP p) (rP p)::cap) (zc3 g) false):PC Tryz.prog 30 [zaz p,.fn f cap] (.tup [zaz (nm g),.bool true]) false:=by
 obtain ⟨x,hx,hxy,hxr⟩:=zlr hs
 obtain rfl:=hxy hv
 refine PC.of ⟨Tryz.func30,by kernel_rfl,rfl,by kernel_rfl⟩ zav mixed (by show 2≤Tryz.f30.ntmps; decide) ?_
 refine W.r fun K hK=>?_
 simp(disch:=omega)only[↓RU,RV,RH,↓reduceIte,qE,reduceCtorEq,if_pos,↓RS,RG,qA,qM,qL]
 apply hK;clear hK K
 refine W.r fun K hK=>?_
 simp(disch:=omega)only[↓RU,RV,RH,↓reduceIte,qE,reduceCtorEq,if_pos,qN,↓RS,RG,qA,qM,qL,hv]
 refine zae.pc (hx) rfl (.inr rfl) ?_
 simp(disch:=omega)only[↓RU,RV,RH,↓reduceIte,qE,reduceCtorEq,if_pos,qN,↓RS,RG,qA,qM,qL,hv]
 apply hK;clear hK K
 refine W.seq ?_
 refine W.r fun K hK=>?_
 simp(disch:=omega)only[↓RU,RV,RH,↓reduceIte,qE,reduceCtorEq,if_pos,↓RS,RG,qA,qM,qL]
 apply hK;clear hK K
 refine W.cond rfl (fun h=>?_) (fun h=>?_)
 ·try simp only[RL]at h
  exact absurd h (by simp)
 try simp only[RL]at h
 refine W.skip ?_
 refine xn ?_
 refine W.r fun K hK=>?_
 simp(disch:=omega)only[↓RU,RV,RH,↓reduceIte,qE,reduceCtorEq,if_pos,qN,↓RS,RG,qA,qM,qL]
 refine zae.pc (hF) (zax rfl (hc _ 9)) (.inr (zax rfl (hc _ 9))) ?_
 simp(disch:=omega)only[↓RU,RV,RH,↓reduceIte,qE,reduceCtorEq,if_pos,qN,↓RS,RG,qA,qM,qL]
 refine zae.pc (z62 hg hok hf) rfl (.inr rfl) ?_
 simp(disch:=omega)only[↓RU,RV,RH,↓reduceIte,qE,reduceCtorEq,if_pos,qN,↓RS,RG,qA,qM,qL]
 apply hK;clear hK K
 refine W.ret ?_
 refine Br rfl ?_
 rfl
theorem zi3 {c:Nat→Nat→Int} {nw n i j:Nat} (hi:i<n) (hj:j<nw):gz (bgT c nw n) i j=c i j:=by
 simp [gz,bgT,hi,hj]
theorem zka {c:Nat→Nat→Int} {c0:Nat→Nat→Nat} {H W:Nat} (h1:1≤H) (h2:H≤6) (h3:1≤W) (h4:W≤6) (h:∀ i j,i<H→j<W→c i j=((c0 i j:Nat):Int)):Cells c0 (bgT c W H) H W:=by
 refine ⟨⟨zje,fun r hr=>?_,h1,h2,h3,h4⟩,fun i j hi hj=>by rw [zi3 hi hj,h i j hi hj]⟩
 obtain ⟨a,-,rfl⟩:=List.mem_map.1 hr
 simp
structure Made (c:Nat→Nat→Nat) (H W:Nat) (g:List (List Int)):Prop where
 gw:GW g H W
 ok:okS g=true
 full:zgt g=true
 plan:zbx (nm g)=true
 ren:Ren c H W (nm g)
theorem zox {c0:Nat→Nat→Nat} {g:List (List Int)} {H W n:Nat} (hc:Cells c0 g H W) (hn:∀ i j,i<H→j<W→c0 i j<n) (h9:n≤9) (hPl:Pl c0 H W):Made c0 H W g:=by
 have hle:=zvi hc hn
 obtain ⟨h1,h2⟩:=z3v hc (by omega) hPl.rect
 obtain ⟨h3,h4⟩:=z0s hc (by omega) hPl.rect
 exact ⟨hc.gw,h3,h4,h1,h2⟩
theorem zai {p:List Txt} (hp:zak p=true):1≤p.length∧p.length≤6∧1≤(zad p).length∧(zad p).length≤6∧GW (gP p) p.length (zad p).length∧ze0 p=true∧(rP p).length≤9∧∀ i j,i<p.length→j<(zad p).length→gz (gP p) i j=((cn (gP p) i j:Nat):Int):=by
 have hv:zfu p=true:=by rw [zh6]; exact hp
 have hok:=(z4e hv).1
 have hg:=zyo hok
 rw [zf5]at hg
 have hg2:=hg
 obtain ⟨-,-,q3,q4,q5,q6⟩:=hg2
 refine ⟨q3,q4,q5,q6,hg,by rw [zda]; exact zbi hp,z35 hok,fun i j hi hj=>?_⟩
 have:=zb0 (p:=p) i j hi hj
 unfold cn; omega
theorem Made.sm {c:Nat→Nat→Nat} {H W:Nat} {g:List (List Int)} (h:Made c H W g):Sm (nm g):=Sm.grid (zc0 h.plan)
def zl8 (p:List Txt):List (List Int):=bgT (fun r w=>gz (gP p) (p.length - 1 - w) r) p.length (zad p).length
theorem zif {p:List Txt} (hp:zak p=true):Made (tr (fl (cn (gP p)) p.length)) (zad p).length p.length (zl8 p):=by
 obtain ⟨q1,q2,q3,q4,-,-,q7,q8⟩:=zai hp
 exact zox (zka q3 q4 q1 q2 fun i j hi hj=>q8 (p.length - 1 - j) i (by omega) hi) (fun i j hi hj=>ze5 zb0 (by omega) hi) q7 (zbv hp).dn.ex
theorem zwz {p:List Txt} (hs:Sm p) (hp:zak p=true):PC Tryz.prog 10 [zaz p] (.tup [zaz (nm (zl8 p)),.bool true]) false:=by
 obtain ⟨-,-,-,-,hg,hf,-,-⟩:=zai hp
 have hm:=zif hp
 refine PC.of ⟨Tryz.func10,by kernel_rfl,rfl,by kernel_rfl⟩ zav mixed (by show 1≤Tryz.f10.ntmps; decide) ?_
 refine W.r fun K hK=>?_
 simp(disch:=omega)only[↓RU,RV,RH,↓reduceIte,qE,reduceCtorEq,if_pos,↓RS,RG,qA,qM,qL]
 apply hK;clear hK K
 refine W.r fun K hK=>?_
 simp(disch:=omega)only[↓RU,RV,RH,↓reduceIte,qE,reduceCtorEq,if_pos,qN,↓RS,RG,qA,qM,qL]
 refine zae.pc (z4q (cap:=[]) hs hf (fun _ _=>rfl) hm.gw hm.ok hm.full (zvx hg (rP p))) rfl (.inr rfl) ?_
 simp(disch:=omega)only[↓RU,RV,RH,↓reduceIte,qE,reduceCtorEq,if_pos,qN,↓RS,RG,qA,qM,qL]
 apply hK;clear hK K
 refine W.ret ?_
 refine Br rfl ?_
 rfl
section
theorem yc2 {c:Nat→Nat→Nat} {H W n:Nat} {t:List Txt} (ht:zbx t=true) (hR:Ren c H W t) (hlt:∀ i j,i<H→j<W→c i j<n) (hs:∀ a,a<n→∃ i j,i<H∧j<W∧c i j=a):(rP t).length=n:=by
 obtain ⟨l1,l2,hpat⟩:=hR
 obtain ⟨σ,hσ⟩:=zzt hpat
 obtain ⟨τ,hτ⟩:=zzt fun i j i' j' a b d e=>(hpat i j i' j' a b d e).symm
 have hcl:∀ i j,i<H→j<W→cn (gP t) i j<(rP t).length:=fun i j hi hj=>ze5 zb0 (by rw [l1]; exact hi) (by rw [l2]; exact hj)
 apply Nat.le_antisymm
 ·refine pig (σ:=τ) (fun b hb=>?_) fun a b ha hb e=>?_
  ·obtain ⟨i,j,hi,hj,rfl⟩:=za8 hb
   rw [l1]at hi; rw [l2]at hj
   rw [← hτ i j hi hj]; exact hlt i j hi hj
  obtain ⟨i,j,hi,hj,rfl⟩:=za8 ha
  obtain ⟨i',j',hi',hj',rfl⟩:=za8 hb
  rw [l1]at hi hi'; rw [l2]at hj hj'
  rw [← hτ i j hi hj,← hτ i' j' hi' hj']at e
  exact (hpat i j i' j' hi hj hi' hj').2 e
 refine pig (σ:=σ) (fun b hb=>?_) fun a b ha hb e=>?_
 ·obtain ⟨i,j,hi,hj,rfl⟩:=hs b hb
  rw [← hσ i j hi hj]; exact hcl i j hi hj
 obtain ⟨i,j,hi,hj,rfl⟩:=hs a ha
 obtain ⟨i',j',hi',hj',rfl⟩:=hs b hb
 rw [← hσ i j hi hj,← hσ i' j' hi' hj']at e
 exact (hpat i j i' j' hi hj hi' hj').1 e
section
variable {p q t:List Txt} {L U:Nat→Nat→Prop} {σ:Nat→Nat}
structure Two (p q t:List Txt) (σ:Nat→Nat):Prop where
 hp:zak p=true
 hq:zak q=true
 pl:zak t=true
 n:(rP t).length=(rP p).length+(rP q).length
 lt:∀ a,a<(rP t).length→σ a<(rP t).length
 inj:∀ a b,a<(rP t).length→b<(rP t).length→σ a=σ b→a=b
 l1:∀ a b,a<(rP p).length→b<(rP p).length→a≠b→(Lf t (σ a) (σ b)↔Lf p a b)∧(Ab t (σ a) (σ b)↔Ab p a b)
 l2:∀ a b,a<(rP q).length→b<(rP q).length→a≠b→(Lf t (σ ((rP p).length+a)) (σ ((rP p).length+b))↔Lf q a b)∧(Ab t (σ ((rP p).length+a)) (σ ((rP p).length+b))↔Ab q a b)
theorem Two.blk (h:Two p q t σ) (b1:Bool):(∀ a b,a<(rP p).length→b<(rP p).length→(ahK t b1 (σ a)<ahK t b1 (σ b)↔ahK p b1 a<ahK p b1 b)) ∧
  ∀ a b,a<(rP q).length→b<(rP q).length→(ahK t b1 (σ ((rP p).length+a))<ahK t b1 (σ ((rP p).length+b))↔ahK q b1 a<ahK q b1 b):=by
 have hn:=h.n
 constructor
 ·intro a b ha hb
  by_cases e:a=b
  ·subst e; simp
  rw [← zc1 h.pl (h.lt a (by omega)) (h.lt b (by omega)),← zc1 h.hp ha hb,zdu,zdu,(h.l1 a b ha hb e).1]
  cases b1 <;> simp [(h.l1 a b ha hb e).2,(h.l1 b a hb ha fun x=>e x.symm).2]
 intro a b ha hb
 by_cases e:a=b
 ·subst e; simp
 rw [← zc1 h.pl (h.lt _ (by omega)) (h.lt _ (by omega)),← zc1 h.hq ha hb,zdu,zdu,(h.l2 a b ha hb e).1]
 cases b1 <;> simp [(h.l2 a b ha hb e).2,(h.l2 b a hb ha fun x=>e x.symm).2]
theorem Two.fst (h:Two p q t σ) {b1:Bool} (hc:∀ a b,a<(rP p).length→b<(rP q).length→bfK t b1 (σ a) (σ ((rP p).length+b))=true) {a:Nat} (ha:a<(rP t).length) :
  ahK t b1 (σ a)=if a<(rP p).length then ahK p b1 a else (rP p).length+ahK q b1 (a - (rP p).length):=by
 have hn:=h.n
 refine zsn (n:=(rP t).length) (f:=fun a=>ahK t b1 (σ a)) (g:=fun a=>if a<(rP p).length then ahK p b1 a else (rP p).length+ahK q b1 (a - (rP p).length)) (fun a ha=>zcq h.pl (h.lt a ha)) (fun a b ha hb e=>h.inj a b ha hb (zen h.pl (h.lt a ha) (h.lt b hb) e)) (fun a ha=>?_) (fun a b ha hb e=>?_) (fun a b ha hb=>?_) a ha
 ·skip
  split
  ·rename_i q1; have:=zcq (below:=b1) h.hp q1; omega
  have:=zcq (below:=b1) h.hq (show a - (rP p).length<(rP q).length by omega); omega
 ·try simp only at e
  split at e <;> split at e
  ·rename_i q1 q2; exact zen h.hp q1 q2 e
  ·rename_i q1 q2; have:=zcq (below:=b1) h.hp q1; omega
  ·rename_i q1 q2; have:=zcq (below:=b1) h.hp q2; omega
  have:=zen (below:=b1) h.hq (show a - (rP p).length<(rP q).length by omega) (show b - (rP p).length<(rP q).length by omega) (by omega)
  omega
 skip
 obtain ⟨k1,k2⟩:=h.blk b1
 by_cases q1:a<(rP p).length <;> by_cases q2:b<(rP p).length
 ·rw [if_pos q1,if_pos q2]; exact k1 a b q1 q2
 ·rw [if_pos q1,if_neg q2]
  have h1:=zcq (below:=b1) h.hp q1
  have h2:=hc a (b - (rP p).length) q1 (by omega)
  rw [show (rP p).length+(b - (rP p).length)=b by omega,zc1 h.pl (h.lt a ha) (h.lt b hb)]at h2
  omega
 ·rw [if_neg q1,if_pos q2]
  have h1:=zcq (below:=b1) h.hp q2
  have h2:=hc b (a - (rP p).length) q2 (by omega)
  rw [show (rP p).length+(a - (rP p).length)=a by omega,zc1 h.pl (h.lt b hb) (h.lt a ha)]at h2
  omega
 rw [if_neg q1,if_neg q2]
 have:=k2 (a - (rP p).length) (b - (rP p).length) (by omega) (by omega)
 rw [show (rP p).length+(a - (rP p).length)=a by omega,show (rP p).length+(b - (rP p).length)=b by omega]at this
 omega
theorem Two.snd (h:Two p q t σ) {b1:Bool} (hc:∀ a b,a<(rP p).length→b<(rP q).length→bfK t b1 (σ ((rP p).length+b)) (σ a)=true) {a:Nat} (ha:a<(rP t).length) :
  ahK t b1 (σ a)=if a<(rP p).length then (rP q).length+ahK p b1 a else ahK q b1 (a - (rP p).length):=by
 have hn:=h.n
 refine zsn (n:=(rP t).length) (f:=fun a=>ahK t b1 (σ a)) (g:=fun a=>if a<(rP p).length then (rP q).length+ahK p b1 a else ahK q b1 (a - (rP p).length)) (fun a ha=>zcq h.pl (h.lt a ha)) (fun a b ha hb e=>h.inj a b ha hb (zen h.pl (h.lt a ha) (h.lt b hb) e)) (fun a ha=>?_) (fun a b ha hb e=>?_) (fun a b ha hb=>?_) a ha
 ·skip
  split
  ·rename_i q1; have:=zcq (below:=b1) h.hp q1; omega
  have:=zcq (below:=b1) h.hq (show a - (rP p).length<(rP q).length by omega); omega
 ·try simp only at e
  split at e <;> split at e
  ·rename_i q1 q2; exact zen h.hp q1 q2 (Nat.add_left_cancel e)
  ·rename_i q1 q2; have:=zcq (below:=b1) h.hq (show b - (rP p).length<(rP q).length by omega); omega
  ·rename_i q1 q2; have:=zcq (below:=b1) h.hq (show a - (rP p).length<(rP q).length by omega); omega
  have:=zen (below:=b1) h.hq (show a - (rP p).length<(rP q).length by omega) (show b - (rP p).length<(rP q).length by omega) (by omega)
  omega
 skip
 obtain ⟨k1,k2⟩:=h.blk b1
 by_cases q1:a<(rP p).length <;> by_cases q2:b<(rP p).length
 ·rw [if_pos q1,if_pos q2]; have:=k1 a b q1 q2; omega
 ·rw [if_pos q1,if_neg q2]
  have h1:=zcq (below:=b1) h.hq (show b - (rP p).length<(rP q).length by omega)
  have h2:=hc a (b - (rP p).length) q1 (by omega)
  rw [show (rP p).length+(b - (rP p).length)=b by omega,zc1 h.pl (h.lt b hb) (h.lt a ha)]at h2
  omega
 ·rw [if_neg q1,if_pos q2]
  have h1:=zcq (below:=b1) h.hq (show a - (rP p).length<(rP q).length by omega)
  have h2:=hc b (a - (rP p).length) q2 (by omega)
  rw [show (rP p).length+(a - (rP p).length)=a by omega,zc1 h.pl (h.lt a ha) (h.lt b hb)]at h2
  omega
 rw [if_neg q1,if_neg q2]
 have:=k2 (a - (rP p).length) (b - (rP p).length) (by omega) (by omega)
 rw [show (rP p).length+(a - (rP p).length)=a by omega,show (rP p).length+(b - (rP p).length)=b by omega]at this
 exact this
def upL (l:List Int) (k:Nat):List Int:=l.map (· + (k:Int))
theorem Two.beside (h:Two p q t σ) (hc:∀ a b,a<(rP p).length→b<(rP q).length→Lf t (σ a) (σ ((rP p).length+b))):zcv t=zcv p++upL (zcv q) (rP p).length:=by
 have hn:=h.n
 have e:∀ b1,∀ a,a<(rP t).length→_:=fun b1 a ha=>h.fst (b1:=b1) (fun a b ha hb=>by rw [zdu]; exact .inl (hc a b ha hb)) ha
 apply List.ext_getElem?
 intro i
 by_cases hi:i<(rP t).length
 ·obtain ⟨r,hr,rfl⟩:=zss h.pl hi
  obtain ⟨a,ha,rfl⟩:=zs0 h.lt h.inj hr
  rw [zcz h.pl hr,e true a ha,e false a ha]
  by_cases q1:a<(rP p).length
  ·rw [if_pos q1,if_pos q1,List.getElem?_append_left (by rw [zbu]; exact zcq h.hp q1),zcz h.hp q1]
  rw [if_neg q1,if_neg q1,List.getElem?_append_right (by rw [zbu]; omega),zbu,Nat.add_sub_cancel_left]
  unfold upL
  rw [List.getElem?_map,zcz h.hq (by omega),qO]
  congr 1; omega
 rw [List.getElem?_eq_none (by rw [zbu]; omega),List.getElem?_eq_none (by simp [upL,zbu]; omega)]
theorem Two.under (h:Two p q t σ) (hc:∀ a b,a<(rP p).length→b<(rP q).length→Ab t (σ a) (σ ((rP p).length+b))):zcv t=upL (zcv q) (rP p).length++zcv p:=by
 have hn:=h.n
 have e1:∀ a,a<(rP t).length→_:=fun a ha=>h.fst (b1:=false) (fun a b ha hb=>by rw [zdu]; exact .inr (hc a b ha hb)) ha
 have e2:∀ a,a<(rP t).length→_:=fun a ha=>h.snd (b1:=true) (fun a b ha hb=>by rw [zdu]; exact .inr (hc a b ha hb)) ha
 apply List.ext_getElem?
 intro i
 by_cases hi:i<(rP t).length
 ·obtain ⟨r,hr,rfl⟩:=zss h.pl hi
  obtain ⟨a,ha,rfl⟩:=zs0 h.lt h.inj hr
  rw [zcz h.pl hr,e1 a ha,e2 a ha]
  have hul:(upL (zcv q) (rP p).length).length=(rP q).length:=by simp [upL,zbu]
  by_cases q1:a<(rP p).length
  ·rw [if_pos q1,if_pos q1,List.getElem?_append_right (by omega),hul,Nat.add_sub_cancel_left,zcz h.hp q1]
  have:=zcq (below:=true) h.hq (show a - (rP p).length<(rP q).length by omega)
  rw [if_neg q1,if_neg q1,List.getElem?_append_left (by omega)]
  unfold upL
  rw [List.getElem?_map,zcz h.hq (by omega),qO]
  congr 1; omega
 rw [List.getElem?_eq_none (by rw [zbu]; omega),List.getElem?_eq_none (by simp [upL,zbu]; omega)]
end
end
section
def zv2 (p q:List Txt):List (List Int):=bgT (fun r w=>if w<(zad p).length then gz (gP p) (min r (p.length - 1)) w else ((rP p).length:Int)+gz (gP q) (r - (p.length - 1)) (w - (zad p).length)) ((zad p).length+(zad q).length) (p.length+q.length - 1)
def zpv (p q:List Txt):List (List Int):=bgT (fun r w=>if r<p.length then gz (gP p) r (min w ((zad p).length - 1)) else ((rP p).length:Int)+gz (gP q) (r - p.length) (w - ((zad p).length - 1))) ((zad p).length+(zad q).length - 1) (p.length+q.length)
def z93 (p q:List Txt):Nat→Nat→Nat:=asd (cn (gP p)) p.length (zad p).length (cn (gP q)) (rP p).length
def z6i (p q:List Txt):Nat→Nat→Nat:=tr (asd (tr (cn (gP p))) (zad p).length p.length (tr (cn (gP q))) (rP p).length)
section
variable {p q:List Txt}
theorem ztc (hp:zak p=true) (hq:zak q=true):∀ i j,i<p.length+q.length - 1→j<(zad p).length+(zad q).length→z93 p q i j<(rP p).length+(rP q).length:=by
 obtain ⟨a1,a2,a3,a4,-⟩:=zai hp
 obtain ⟨b1,b2,b3,b4,-⟩:=zai hq
 intro i j hi hj
 unfold z93 asd
 by_cases k:j<(zad p).length
 ·rw [if_pos k]
  have:=ze5 (zb0 (p:=p)) (i:=min i (p.length - 1)) (j:=j) (by omega) k
  omega
 rw [if_neg k]
 have:=ze5 (zb0 (p:=q)) (i:=i - (p.length - 1)) (j:=j - (zad p).length) (by omega) (by omega)
 omega
theorem zte (hp:zak p=true) (hq:zak q=true):∀ i j,i<p.length+q.length→j<(zad p).length+(zad q).length - 1→z6i p q i j<(rP p).length+(rP q).length:=by
 obtain ⟨a1,a2,a3,a4,-⟩:=zai hp
 obtain ⟨b1,b2,b3,b4,-⟩:=zai hq
 intro i j hi hj
 simp only[z6i,tr,asd]
 by_cases k:i<p.length
 ·rw [if_pos k]
  have:=ze5 (zb0 (p:=p)) (i:=i) (j:=min j ((zad p).length - 1)) k (by omega)
  omega
 rw [if_neg k]
 have:=ze5 (zb0 (p:=q)) (i:=i - p.length) (j:=j - ((zad p).length - 1)) (by omega) (by omega)
 omega
theorem znc (hp:zak p=true) (hq:zak q=true) (hH:p.length+q.length - 1≤6) (hW:(zad p).length+(zad q).length≤6) (h9:(rP p).length+(rP q).length≤9) :
  Made (z93 p q) (p.length+q.length - 1) ((zad p).length+(zad q).length) (zv2 p q):=by
 obtain ⟨a1,a2,a3,a4,-,-,-,a8⟩:=zai hp
 obtain ⟨b1,b2,b3,b4,-,-,-,b8⟩:=zai hq
 refine zox (zka (by omega) hH (by omega) hW fun i j hi hj=>?_) (ztc hp hq) h9 (zn2 (zbv hp) (zbv hq) a1 b1 fun i j hi hj=>ze5 zb0 hi hj)
 unfold z93 asd
 split
 ·rename_i k; exact a8 _ _ (by omega) k
 rw [b8 _ _ (by omega) (by omega),Int.natCast_add]
theorem zj9 (hp:zak p=true) (hq:zak q=true) (hH:p.length+q.length≤6) (hW:(zad p).length+(zad q).length - 1≤6) (h9:(rP p).length+(rP q).length≤9) :
  Made (z6i p q) (p.length+q.length) ((zad p).length+(zad q).length - 1) (zpv p q):=by
 obtain ⟨a1,a2,a3,a4,-,-,-,a8⟩:=zai hp
 obtain ⟨b1,b2,b3,b4,-,-,-,b8⟩:=zai hq
 refine zox (zka (by omega) hH (by omega) hW fun i j hi hj=>?_) (zte hp hq) h9 (zn2 (zbv hp).ex (zbv hq).ex a3 b3 fun i j hi hj=>ze5 zb0 hj hi).ex
 simp only[z6i,tr,asd]
 split
 ·rename_i k; exact a8 _ _ k (by omega)
 rw [b8 _ _ (by omega) (by omega),Int.natCast_add]
theorem z1w (hp:zak p=true) (hq:zak q=true):∀ a,a<(rP p).length+(rP q).length→∃ i j,i<p.length+q.length - 1∧j<(zad p).length+(zad q).length∧z93 p q i j=a:=by
 obtain ⟨a1,a2,a3,a4,-⟩:=zai hp
 obtain ⟨b1,b2,b3,b4,-⟩:=zai hq
 intro a ha
 by_cases k:a<(rP p).length
 ·obtain ⟨i,j,hi,hj,e⟩:=za8 k
  refine ⟨i,j,by omega,by omega,?_⟩
  unfold z93 asd
  rw [if_pos hj,Nat.min_eq_left (by omega)]; exact e
 obtain ⟨i,j,hi,hj,e⟩:=za8 (p:=q) (a:=a - (rP p).length) (by omega)
 refine ⟨i+(p.length - 1),(zad p).length+j,by omega,by omega,?_⟩
 unfold z93 asd
 rw [if_neg (by omega),Nat.add_sub_cancel,Nat.add_sub_cancel_left,e]; omega
theorem z1y (hp:zak p=true) (hq:zak q=true):∀ a,a<(rP p).length+(rP q).length→∃ i j,i<p.length+q.length∧j<(zad p).length+(zad q).length - 1∧z6i p q i j=a:=by
 obtain ⟨a1,a2,a3,a4,-⟩:=zai hp
 obtain ⟨b1,b2,b3,b4,-⟩:=zai hq
 intro a ha
 by_cases k:a<(rP p).length
 ·obtain ⟨i,j,hi,hj,e⟩:=za8 k
  refine ⟨i,j,by omega,by omega,?_⟩
  simp only[z6i,tr,asd]
  rw [if_pos hi,Nat.min_eq_left (by omega)]; exact e
 obtain ⟨i,j,hi,hj,e⟩:=za8 (p:=q) (a:=a - (rP p).length) (by omega)
 refine ⟨p.length+i,j+((zad p).length - 1),by omega,by omega,?_⟩
 simp only[z6i,tr,asd]
 rw [if_neg (by omega),Nat.add_sub_cancel,Nat.add_sub_cancel_left,e]; omega
theorem z94 (hp:zak p=true) (hq:zak q=true) (hH:p.length+q.length - 1≤6) (hW:(zad p).length+(zad q).length≤6) (h9:(rP p).length+(rP q).length≤9) :
  zak (nm (zv2 p q))=true∧(rP (nm (zv2 p q))).length=(rP p).length+(rP q).length∧zcv (nm (zv2 p q))=zcv p++upL (zcv q) (rP p).length:=by
 have hm:=znc hp hq hH hW h9
 obtain ⟨a1,a2,a3,a4,-⟩:=zai hp
 obtain ⟨b1,b2,b3,b4,-⟩:=zai hq
 have hN:=yc2 hm.plan hm.ren (ztc hp hq) (z1w hp hq)
 have hcl:∀ i j,i<p.length→j<(zad p).length→cn (gP p) i j<(rP p).length:=fun i j hi hj=>ze5 zb0 hi hj
 have hPl:=zn2 (zbv hp) (zbv hq) a1 b1 hcl
 obtain ⟨σ,hσ,hI⟩:=zyi (p:=nm (zv2 p q)) (by rw [hN]; exact ztc hp hq) (by rw [hN]; exact z1w hp hq) hPl hm.plan hm.ren
 have hT:Two p q (nm (zv2 p q)) σ:=by
  refine ⟨hp,hq,hI.pl,hN,hI.lt,hI.inj,fun a b ha hb hne=>?_,fun a b ha hb hne=>?_⟩
  ·obtain ⟨i,j,hi,hj,rfl⟩:=za8 ha
   obtain ⟨i',j',hi',hj',rfl⟩:=za8 hb
   rw [hI.lf _ _ (by omega) (by omega),hI.ab _ _ (by omega) (by omega),Lf.iff ha hb,Ab.iff ha hb]
   exact zxr (zbv hp) (zbv hq) a1 b1 a3 hcl (ztc hp hq) hi hj hi' hj' hne
  obtain ⟨i,j,hi,hj,rfl⟩:=za8 ha
  obtain ⟨i',j',hi',hj',rfl⟩:=za8 hb
  rw [hI.lf _ _ (by omega) (by omega),hI.ab _ _ (by omega) (by omega),Lf.iff ha hb,Ab.iff ha hb]
  exact ztd (zbv hp) (zbv hq) a1 b1 hcl (ztc hp hq) hi hj hi' hj' hne
 refine ⟨hI.pl,hN,hT.beside fun a b ha hb=>?_⟩
 obtain ⟨i,j,hi,hj,rfl⟩:=za8 ha
 obtain ⟨i',j',hi',hj',rfl⟩:=za8 hb
 rw [hI.lf _ _ (by omega) (by omega)]
 exact ztb (zbv hp) (zbv hq) a1 b1 a3 b3 hcl hi hj hi' hj'
theorem z98 (hp:zak p=true) (hq:zak q=true) (hH:p.length+q.length≤6) (hW:(zad p).length+(zad q).length - 1≤6) (h9:(rP p).length+(rP q).length≤9) :
  zak (nm (zpv p q))=true∧(rP (nm (zpv p q))).length=(rP p).length+(rP q).length∧zcv (nm (zpv p q))=upL (zcv q) (rP p).length++zcv p:=by
 have hm:=zj9 hp hq hH hW h9
 obtain ⟨a1,a2,a3,a4,-⟩:=zai hp
 obtain ⟨b1,b2,b3,b4,-⟩:=zai hq
 have hN:=yc2 hm.plan hm.ren (zte hp hq) (z1y hp hq)
 have hcl:∀ i j,i<(zad p).length→j<p.length→tr (cn (gP p)) i j<(rP p).length:=fun i j hi hj=>ze5 zb0 hj hi
 have hlt2:∀ i j,i<(zad p).length+(zad q).length - 1→j<p.length+q.length→asd (tr (cn (gP p))) (zad p).length p.length (tr (cn (gP q))) (rP p).length i j<(rP p).length+(rP q).length:=fun i j hi hj=>zte hp hq j i hj hi
 have hPl:=(zn2 (zbv hp).ex (zbv hq).ex a3 b3 hcl).ex
 obtain ⟨σ,hσ,hI⟩:=zyi (p:=nm (zpv p q)) (by rw [hN]; exact zte hp hq) (by rw [hN]; exact z1y hp hq) hPl hm.plan hm.ren
 have hT:Two p q (nm (zpv p q)) σ:=by
  refine ⟨hp,hq,hI.pl,hN,hI.lt,hI.inj,fun a b ha hb hne=>?_,fun a b ha hb hne=>?_⟩
  ·obtain ⟨i,j,hi,hj,rfl⟩:=za8 ha
   obtain ⟨i',j',hi',hj',rfl⟩:=za8 hb
   rw [hI.lf _ _ (by omega) (by omega),hI.ab _ _ (by omega) (by omega),Lf.iff ha hb,Ab.iff ha hb]
   exact (zxr (cf:=tr (cn (gP p))) (cg:=tr (cn (gP q))) (zbv hp).ex (zbv hq).ex a3 b3 a1 hcl hlt2 hj hi hj' hi' hne).symm
  obtain ⟨i,j,hi,hj,rfl⟩:=za8 ha
  obtain ⟨i',j',hi',hj',rfl⟩:=za8 hb
  rw [hI.lf _ _ (by omega) (by omega),hI.ab _ _ (by omega) (by omega),Lf.iff ha hb,Ab.iff ha hb]
  exact (ztd (cf:=tr (cn (gP p))) (cg:=tr (cn (gP q))) (zbv hp).ex (zbv hq).ex a3 b3 hcl hlt2 hj hi hj' hi' hne).symm
 refine ⟨hI.pl,hN,hT.under fun a b ha hb=>?_⟩
 obtain ⟨i,j,hi,hj,rfl⟩:=za8 ha
 obtain ⟨i',j',hi',hj',rfl⟩:=za8 hb
 rw [hI.ab _ _ (by omega) (by omega)]
 exact ztb (cf:=tr (cn (gP p))) (cg:=tr (cn (gP q))) (zbv hp).ex (zbv hq).ex a3 b3 a1 b1 hcl hj hi hj' hi'
end
end
structure Pt where
 r:Nat
 c:Nat
 h:Nat
 w:Nat
 deriving DecidableEq
def Pt.In (t:Pt) (H W:Nat):Prop:=1≤t.h∧1≤t.w∧t.r+t.h≤H∧t.c+t.w≤W
def z59 (f:Nat→Bool):Nat→Option Nat
 | 0=>none
 | k+1=>(z59 f k).or (if decide (1≤k) && f k then some k else none)
theorem zgs {f:Nat→Bool}:∀ {n:Nat},z59 f n=none↔∀ k,1≤k→k<n→f k=false
 | 0=>by simp [z59]
 | n+1=>by
  simp only[z59,Option.or_eq_none_iff,zgs (n:=n)]
  constructor
  ·rintro ⟨h1,h2⟩ k hk hn
   by_cases e:k=n
   ·subst e; cases hf:f k with
    | false=>rfl
    | true=>rw [hf]at h2; simp at h2; omega
   exact h1 k hk (by omega)
  intro h
  refine ⟨fun k hk hn=>h k hk (by omega),?_⟩
  by_cases hn:1≤n
  ·simp [h n hn (by omega)]
  simp [hn]
theorem zd6 {f:Nat→Bool} {k:Nat}:∀ {n:Nat},z59 f n=some k↔1≤k∧k<n∧f k=true∧∀ j,1≤j→j<k→f j=false
 | 0=>by simp [z59]
 | n+1=>by
  simp only[z59]
  cases h:z59 f n with
  | some m =>
   have hm:=(zd6 (n:=n)).1 h
   simp only[Option.some_or,Option.some.injEq]
   constructor
   ·rintro rfl; exact ⟨hm.1,by omega,hm.2.2.1,hm.2.2.2⟩
   rintro ⟨h1,h2,h3,h4⟩
   rcases Nat.lt_trichotomy m k with e | e | e
   ·have:=h4 m hm.1 e; rw [hm.2.2.1]at this; cases this
   ·exact e
   have:=hm.2.2.2 k h1 e; rw [h3]at this; cases this
  | none =>
   have hn:=zgs.1 h
   simp only[Option.none_or]
   constructor
   ·intro e
    split at e
    ·rename_i hc
     cases e
     simp only[qB,decide_eq_true_eq]at hc
     exact ⟨hc.1,by omega,hc.2,hn⟩
    cases e
   rintro ⟨h1,h2,h3,h4⟩
   by_cases e:k=n
   ·subst e; simp [h1,h3]
   have:=hn k h1 (by omega); rw [h3]at this; cases this
def thU (z:Nat→Nat→Int) (t:Pt) (k:Nat):Bool:=(List.range t.h).all fun i=>decide (z (t.r+i) (t.c+k - 1)≠z (t.r+i) (t.c+k))
def thL (z:Nat→Nat→Int) (t:Pt) (k:Nat):Bool:=(List.range t.w).all fun j=>decide (z (t.r+k - 1) (t.c+j)≠z (t.r+k) (t.c+j))
theorem zs2 {z:Nat→Nat→Int} {t:Pt} {k:Nat}:thU z t k=true↔∀ i,i<t.h→z (t.r+i) (t.c+k - 1)≠z (t.r+i) (t.c+k):=by simp [thU]
theorem zs1 {z:Nat→Nat→Int} {t:Pt} {k:Nat}:thL z t k=true↔∀ j,j<t.w→z (t.r+k - 1) (t.c+j)≠z (t.r+k) (t.c+j):=by simp [thL]
def zc2 (z:Nat→Nat→Int) (t:Pt):Option (Bool × Nat) :=
 match z59 (thU z t) t.w with
 | some k=>some (false,k)
 | none=>match z59 (thL z t) t.h with
  | some k=>some (true,k)
  | none=>none
def Pt.one (t:Pt) (q:Bool × Nat):Pt:=if q.1 then ⟨t.r,t.c,q.2,t.w⟩ else ⟨t.r,t.c,t.h,q.2⟩
def Pt.two (t:Pt) (q:Bool × Nat):Pt:=if q.1 then ⟨t.r+q.2,t.c,t.h - q.2,t.w⟩ else ⟨t.r,t.c+q.2,t.h,t.w - q.2⟩
theorem zfi {z:Nat→Nat→Int} {t:Pt} {q:Bool × Nat} (h:zc2 z t=some q):1≤q.2∧if q.1 then q.2<t.h∧thL z t q.2=true else q.2<t.w∧thU z t q.2=true:=by
 unfold zc2 at h
 split at h
 ·rename_i k hk; cases h; have:=zd6.1 hk; exact ⟨this.1,by simp [this.2.1,this.2.2.1]⟩
 split at h
 ·rename_i k hk; cases h; have:=zd6.1 hk; exact ⟨this.1,by simp [this.2.1,this.2.2.1]⟩
 cases h
theorem zqf {z:Nat→Nat→Int} {t:Pt}:zc2 z t=none↔(∀ k,1≤k→k<t.w→thU z t k=false)∧∀ k,1≤k→k<t.h→thL z t k=false:=by
 unfold zc2
 split
 ·rename_i k hk
  have:=zd6.1 hk
  constructor
  ·intro h; cases h
  rintro ⟨h,_⟩; rw [h k this.1 this.2.1]at this; simp at this
 rename_i hn
 split
 ·rename_i k hk
  have:=zd6.1 hk
  constructor
  ·intro h; cases h
  rintro ⟨_,h⟩; rw [h k this.1 this.2.1]at this; simp at this
 rename_i hn2
 exact ⟨fun _=>⟨zgs.1 hn,zgs.1 hn2⟩,fun _=>rfl⟩
theorem Pt.In.cut {t:Pt} {H W:Nat} (h:t.In H W) {z:Nat→Nat→Int} {q:Bool × Nat} (hq:zc2 z t=some q):(t.one q).In H W∧(t.two q).In H W ∧
  (t.one q).h*(t.one q).w<t.h*t.w∧(t.two q).h*(t.two q).w<t.h*t.w:=by
 obtain ⟨h1,h2⟩:=zfi hq
 obtain ⟨a,b,c,d⟩:=h
 obtain ⟨lv,k⟩:=q
 simp only at h1 h2
 cases lv with
 | true =>
  simp only[if_true]at h2
  simp only[Pt.one,Pt.two,if_true,Pt.In]
  refine ⟨⟨h1,b,by omega,d⟩,⟨by omega,b,by omega,d⟩,Nat.mul_lt_mul_of_pos_right h2.1 b,Nat.mul_lt_mul_of_pos_right (by omega) b⟩
 | false =>
  simp only[qF,if_false]at h2
  simp only[Pt.one,Pt.two,qF,if_false,Pt.In]
  refine ⟨⟨a,h1,c,by omega⟩,⟨a,by omega,c,by omega⟩,Nat.mul_lt_mul_of_pos_left h2.1 a,Nat.mul_lt_mul_of_pos_left (by omega) a⟩
def zun (z:Nat→Nat→Int) (t:Pt):Bool:=(List.range t.h).all fun i=>(List.range t.w).all fun j=>decide (z (t.r+i) (t.c+j)=z t.r t.c)
theorem znn {z:Nat→Nat→Int} {t:Pt}:zun z t=true↔∀ i j,i<t.h→j<t.w→z (t.r+i) (t.c+j)=z t.r t.c:=by
 simp only[zun,List.all_eq_true,List.mem_range,decide_eq_true_eq]
 exact ⟨fun h i j hi hj=>h i hi j hj,fun h i hi j hj=>h i j hi hj⟩
inductive CT where
 | leaf (a:Int)
 | node (lv:Bool) (x y:CT)
def tree (z:Nat→Nat→Int):Nat→Pt→Option CT
 | 0,_=>none
 | f+1,t=>if zun z t then some (.leaf (z t.r t.c)) else
  match zc2 z t with
  | none=>none
  | some q=>match tree z f (t.one q),tree z f (t.two q) with
   | some x,some y=>some (.node q.1 x y)
   | _,_=>none
theorem zlj {z:Nat→Nat→Int} {H W:Nat}:∀ (n:Nat) {t:Pt} {f g:Nat},t.In H W→t.h*t.w≤n→t.h*t.w≤f→t.h*t.w≤g→tree z f t=tree z g t
 | 0,t,f,g,hi,hn,_,_=>by have:=Nat.mul_pos hi.1 hi.2.1; omega
 | n+1,t,f,g,hi,hn,hf,hg=>by
  have:=Nat.mul_pos hi.1 hi.2.1
  obtain ⟨f,rfl⟩:∃ f',f=f'+1:=⟨f - 1,by omega⟩
  obtain ⟨g,rfl⟩:∃ g',g=g'+1:=⟨g - 1,by omega⟩
  simp only[tree]
  split
  ·rfl
  cases hc:zc2 z t with
  | none=>rfl
  | some q =>
   obtain ⟨i1,i2,a1,a2⟩:=hi.cut hc
   simp only
   rw [zlj n i1 (f:=f) (g:=g) (by omega) (by omega) (by omega),zlj n i2 (f:=f) (g:=g) (by omega) (by omega) (by omega)]
def CT.fold {α:Type} (room:Int→α) (cut:Bool→α→α→α):CT→α
 | .leaf a=>room a
 | .node lv x y=>cut lv (x.fold room cut) (y.fold room cut)
structure Whole (z:Nat→Nat→Int) (H W:Nat) (t:Pt):Prop where
 inn:t.In H W
 all:∀ i j i' j',i<H→j<W→i'<H→j'<W→z i j=z i' j'→t.r≤i→i<t.r+t.h→t.c≤j→j<t.c+t.w→t.r≤i'∧i'<t.r+t.h∧t.c≤j'∧j'<t.c+t.w
def z90 (z:Nat→Nat→Int) (H W:Nat):Prop:=∀ {i j i' j':Nat} (k l:Nat),i<H→i'<H→j<W→j'<W→z i j=z i' j'→min i i'≤k→k≤max i i'→min j j'≤l→l≤max j j'→z k l=z i j
theorem Whole.cut {z:Nat→Nat→Int} {H W:Nat} (hz:z90 z H W) {t:Pt} (h:Whole z H W t) {q:Bool × Nat} (hq:zc2 z t=some q):Whole z H W (t.one q)∧Whole z H W (t.two q):=by
 obtain ⟨i1,i2,_,_⟩:=h.inn.cut hq
 obtain ⟨c1,c2⟩:=zfi hq
 obtain ⟨lv,k⟩:=q
 have hin:=h.inn
 unfold Pt.In at hin
 cases lv with
 | true =>
  simp only[if_true]at c2
  have hth:=zs1.1 c2.2
  have key:∀ i j i' j',i<H→j<W→i'<H→j'<W→z i j=z i' j'→t.r≤i→i<t.r+k→t.c≤j→j<t.c+t.w→t.r+k≤i'→i'<t.r+t.h→t.c≤j'→j'<t.c+t.w→False:=by
   intro i j i' j' a b c d e f1 f2 f3 f4 g1 g2 g3 g4
   have e1:=hz (t.r+k - 1) j a c b d e (by omega) (by omega) (by omega) (by omega)
   have e2:=hz (t.r+k) j a c b d e (by omega) (by omega) (by omega) (by omega)
   have:=hth (j - t.c) (by omega)
   rw [show t.c+(j - t.c)=j by omega]at this
   exact this (e1.trans e2.symm)
  refine ⟨⟨i1,?_⟩,⟨i2,?_⟩⟩
  ·simp only[Pt.one,if_true]
   intro i j i' j' a b c d e f1 f2 f3 f4
   obtain ⟨g1,g2,g3,g4⟩:=h.all i j i' j' a b c d e f1 (by omega) f3 f4
   refine ⟨g1,?_,g3,g4⟩
   rcases Nat.lt_or_ge i' (t.r+k) with h1 | h1
   ·exact h1
   exact (key i j i' j' a b c d e f1 f2 f3 f4 h1 g2 g3 g4).elim
  simp only[Pt.two,if_true]
  intro i j i' j' a b c d e f1 f2 f3 f4
  obtain ⟨g1,g2,g3,g4⟩:=h.all i j i' j' a b c d e (by omega) (by omega) f3 f4
  refine ⟨?_,by omega,g3,g4⟩
  rcases Nat.lt_or_ge i' (t.r+k) with h1 | h1
  ·exact (key i' j' i j c d a b e.symm g1 h1 g3 g4 f1 (by omega) f3 f4).elim
  exact h1
 | false =>
  simp only[qF,if_false]at c2
  have hth:=zs2.1 c2.2
  have key:∀ i j i' j',i<H→j<W→i'<H→j'<W→z i j=z i' j'→t.r≤i→i<t.r+t.h→t.c≤j→j<t.c+k→t.r≤i'→i'<t.r+t.h→t.c+k≤j'→j'<t.c+t.w→False:=by
   intro i j i' j' a b c d e f1 f2 f3 f4 g1 g2 g3 g4
   have e1:=hz i (t.c+k - 1) a c b d e (by omega) (by omega) (by omega) (by omega)
   have e2:=hz i (t.c+k) a c b d e (by omega) (by omega) (by omega) (by omega)
   have:=hth (i - t.r) (by omega)
   rw [show t.r+(i - t.r)=i by omega]at this
   exact this (e1.trans e2.symm)
  refine ⟨⟨i1,?_⟩,⟨i2,?_⟩⟩
  ·simp only[Pt.one,qF,if_false]
   intro i j i' j' a b c d e f1 f2 f3 f4
   obtain ⟨g1,g2,g3,g4⟩:=h.all i j i' j' a b c d e f1 f2 f3 (by omega)
   refine ⟨g1,g2,g3,?_⟩
   rcases Nat.lt_or_ge j' (t.c+k) with h1 | h1
   ·exact h1
   exact (key i j i' j' a b c d e f1 f2 f3 f4 g1 g2 h1 g4).elim
  simp only[Pt.two,qF,if_false]
  intro i j i' j' a b c d e f1 f2 f3 f4
  obtain ⟨g1,g2,g3,g4⟩:=h.all i j i' j' a b c d e f1 f2 (by omega) (by omega)
  refine ⟨g1,g2,?_,by omega⟩
  rcases Nat.lt_or_ge j' (t.c+k) with h1 | h1
  ·exact (key i' j' i j c d a b e.symm g1 g2 g3 h1 f1 f2 f3 (by omega)).elim
  exact h1
section
def yc8 (t:Pt) (row:Txt):Txt:=(row.drop t.c).take t.w
def sub (p:List Txt) (t:Pt):List Txt:=((p.drop t.r).take t.h).map (yc8 t)
section
variable {p:List Txt} {t:Pt}
end
end
section
def Pt.rect (t:Pt):Rect:=⟨t.r,t.c,t.h,t.w⟩
abbrev zg5 (g:List (List Int)) (rs:List Rect) (t:Rect):PV := .agg (zap g rs::t.cells)
def ydl (rs:List Rect) (t:Rect) (i:Nat):Bool:=match rs[i]? with | some b=>decide (t.both b=t) | none=>false
def zfh (rs:List Rect) (t:Rect) (k:Nat):List Int:=((List.range k).filter (ydl rs t)).map fun i:Nat=>(i:Int)
theorem zit {rs:List Rect} {t:Rect} {k:Nat} {b:Rect} (h:rs[k]?=some b):zfh rs t (k+1)=if t.both b=t then zfh rs t k++[(k:Int)] else zfh rs t k:=by
 unfold zfh
 rw [qS,List.filter_append,List.map_append]
 simp only[List.filter_cons,List.filter_nil,ydl,h,decide_eq_true_eq]
 split <;> simp
theorem z4t {rs:List Rect} {t:Rect} {k:Nat}:(zfh rs t k).length≤k:=by
 unfold zfh
 rw [List.length_map]
 exact Nat.le_trans (List.length_filter_le _ _) (by simp)
def rms (rs:List Rect) (t:Rect):List Int:=zfh rs t rs.length
section
variable {p:List Txt} {t:Pt}
theorem zgp (hp:zbx p=true):z90 (zam p) p.length (zad p).length:=by
 intro i j i' j' k l hi hi' hj hj' he h1 h2 h3 h4
 obtain ⟨b,hb,hin,_,hall⟩:=zk1 hp hi hj
 obtain ⟨b',hb',hin',_,_⟩:=zk1 hp hi' hj'
 rw [← he,hb]at hb'
 cases hb'
 refine hall k l (by omega) (by omega) ?_
 simp only[inB,qB,decide_eq_true_eq]at hin hin' ⊢
 omega
theorem zpt (hp:zbx p=true):Whole (zam p) p.length (zad p).length ⟨0,0,p.length,(zad p).length⟩:=by
 have hsm:=zdz (zc0 hp)
 obtain ⟨row0,h0,hm0⟩:=zag hsm.1
 have hw:=zpg (zc0 hp) h0
 rw [← zd7 h0]at hw
 exact ⟨⟨hsm.1,hw,by simp,by simp⟩,fun i j i' j' a b c d _ _ _ _ _=>by simp only; omega⟩
theorem zqv (hp:zbx p=true) (ht:Whole (zam p) p.length (zad p).length t) {i:Nat} {b:Rect} (hb:(rP p)[i]?=some b) :
  t.rect.both b=t.rect↔∃ a c,t.r≤a∧a<t.r+t.h∧t.c≤c∧c<t.c+t.w∧zam p a c=i:=by
 have hh:=(zbw hp).rect hb
 obtain ⟨a1,c1,p1,e1⟩:=hh.at_
 obtain ⟨a2,c2,p2,e2⟩:=hh.al
 obtain ⟨a3,c3,p3,e3⟩:=hh.ao
 obtain ⟨a4,c4,p4,e4⟩:=hh.ar
 have q1:=hh.inn _ _ p1
 obtain ⟨v1,g1⟩:=p1
 obtain ⟨v2,g2⟩:=p2
 obtain ⟨v3,g3⟩:=p3
 obtain ⟨v4,g4⟩:=p4
 unfold Gone at g1 g2 g3 g4
 constructor
 ·intro h
  refine ⟨a1,c1,?_⟩
  simp only[Rect.both,Pt.rect,Rect.mk.injEq]at h
  refine ⟨by omega,by omega,by omega,by omega,v1⟩
 rintro ⟨a,c,h1,h2,h3,h4,hv⟩
 have hin:=ht.inn
 unfold Pt.In at hin
 have k1:=ht.all a c a1 c1 (by omega) (by omega) (by omega) (by omega) (hv.trans v1.symm) h1 h2 h3 h4
 have k2:=ht.all a c a2 c2 (by omega) (by omega) (by omega) (by omega) (hv.trans v2.symm) h1 h2 h3 h4
 have k3:=ht.all a c a3 c3 (by omega) (by omega) (by omega) (by omega) (hv.trans v3.symm) h1 h2 h3 h4
 have k4:=ht.all a c a4 c4 (by omega) (by omega) (by omega) (by omega) (hv.trans v4.symm) h1 h2 h3 h4
 simp only[Rect.both,Pt.rect,Rect.mk.injEq]
 omega
theorem zc9 (hp:zbx p=true) {i j:Nat} (hi:i<p.length) (hj:j<(zad p).length):0≤zam p i j∧zam p i j<(rP p).length:=(zbw hp).room hi hj
theorem zr9 (hp:zbx p=true) (ht:Whole (zam p) p.length (zad p).length t) {x:Int} :
  x∈rms (rP p) t.rect↔∃ a c,t.r≤a∧a<t.r+t.h∧t.c≤c∧c<t.c+t.w∧zam p a c=x:=by
 have hin:=ht.inn
 unfold Pt.In at hin
 simp only[rms,zfh,List.mem_map,List.mem_filter,List.mem_range]
 constructor
 ·rintro ⟨i,⟨hi,hb⟩,rfl⟩
  obtain ⟨b,hb',_⟩:=zag hi
  simp only[ydl,hb',decide_eq_true_eq]at hb
  exact (zqv hp ht hb').1 hb
 rintro ⟨a,c,h1,h2,h3,h4,hv⟩
 have hr:=zc9 hp (i:=a) (j:=c) (by omega) (by omega)
 rw [hv]at hr
 obtain ⟨b,hb',_⟩:=zag (show x.toNat<(rP p).length by omega)
 refine ⟨x.toNat,⟨by omega,?_⟩,by omega⟩
 simp only[ydl,hb',decide_eq_true_eq]
 exact (zqv hp ht hb').2 ⟨a,c,h1,h2,h3,h4,by omega⟩
theorem z4v {rs:List Rect} {t:Rect}:(rms rs t).Nodup:=by
 unfold rms zfh
 rw [List.nodup_iff_pairwise_ne,List.pairwise_map]
 exact ((List.nodup_iff_pairwise_ne.1 List.nodup_range).filter _).imp fun h e=>h (Int.ofNat.inj e)
theorem ybc (hp:zbx p=true) (ht:Whole (zam p) p.length (zad p).length t) (h:zun (zam p) t=true):rms (rP p) t.rect=[zam p t.r t.c]:=by
 have hall:=znn.1 h
 have hin:=ht.inn
 unfold Pt.In at hin
 have hm:∀ x,x∈rms (rP p) t.rect↔x=zam p t.r t.c:=by
  intro x
  rw [zr9 hp ht]
  constructor
  ·rintro ⟨a,c,h1,h2,h3,h4,rfl⟩
   have:=hall (a - t.r) (c - t.c) (by omega) (by omega)
   rwa [show t.r+(a - t.r)=a by omega,show t.c+(c - t.c)=c by omega]at this
  rintro rfl
  exact ⟨t.r,t.c,by omega,by omega,by omega,by omega,rfl⟩
 have hn:=z4v (rs:=rP p) (t:=t.rect)
 match hl:rms (rP p) t.rect,hm,hn with
 | [],hm,_=>exact absurd ((hm _).2 rfl) (by simp)
 | [x],hm,_=>rw [(hm x).1 (by simp)]
 | x::y::l,hm,hn =>
  have h1:=(hm x).1 (by simp)
  have h2:=(hm y).1 (by simp)
  rw [h1,h2]at hn
  simp at hn
theorem z70 (hp:zbx p=true) (ht:Whole (zam p) p.length (zad p).length t) (h:zun (zam p) t=false):2≤(rms (rP p) t.rect).length:=by
 have hin:=ht.inn
 unfold Pt.In at hin
 have hno:¬ ∀ i j,i<t.h→j<t.w→zam p (t.r+i) (t.c+j)=zam p t.r t.c:=by
  intro hc; rw [znn.2 hc]at h; cases h
 match hl:rms (rP p) t.rect with
 | [] =>
  have:zam p t.r t.c∈rms (rP p) t.rect:=(zr9 hp ht).2 ⟨t.r,t.c,by omega,by omega,by omega,by omega,rfl⟩
  rw [hl]at this; simp at this
 | [x] =>
  exfalso
  apply hno
  intro i j hi hj
  have h1:zam p (t.r+i) (t.c+j)∈rms (rP p) t.rect:=(zr9 hp ht).2 ⟨t.r+i,t.c+j,by omega,by omega,by omega,by omega,rfl⟩
  have h2:zam p t.r t.c∈rms (rP p) t.rect:=(zr9 hp ht).2 ⟨t.r,t.c,by omega,by omega,by omega,by omega,rfl⟩
  rw [hl]at h1 h2
  simp at h1 h2
  omega
 | x::y::l=>simp
end
def thG (g:List (List Int)) (t:Pt) (level:Bool) (line:Nat):Bool:=if level then (List.range t.w).all fun j=>zmi g true line (t.c+j) else (List.range t.h).all fun i=>zmi g false line (t.r+i)
theorem ydz {p:List Txt} (hp:zbx p=true) {t:Pt} (ht:t.In p.length (zad p).length) {k:Nat} (h1:1≤k) (h2:k<t.w):thG (gP p) t false (t.c+k)=thU (zam p) t k:=by
 have hN:=zbw hp
 obtain ⟨i1,i2,i3,i4⟩:=ht
 apply Bool.eq_iff_iff.2
 rw [zs2]
 simp only[thG,qF,if_false,List.all_eq_true,List.mem_range,zmi,zch,decide_eq_true_eq]
 constructor
 ·intro h i hi
  have:=h i hi
  rwa [hN.cell (by omega) (by omega),hN.cell (by omega) (by omega)]at this
 intro h i hi
 have:=h i hi
 rwa [hN.cell (by omega) (by omega),hN.cell (by omega) (by omega)]
theorem ydy {p:List Txt} (hp:zbx p=true) {t:Pt} (ht:t.In p.length (zad p).length) {k:Nat} (h1:1≤k) (h2:k<t.h):thG (gP p) t true (t.r+k)=thL (zam p) t k:=by
 have hN:=zbw hp
 obtain ⟨i1,i2,i3,i4⟩:=ht
 apply Bool.eq_iff_iff.2
 rw [zs1]
 simp only[thG,if_true,List.all_eq_true,List.mem_range,zmi,zch,decide_eq_true_eq]
 constructor
 ·intro h i hi
  have:=h i hi
  rwa [hN.cell (by omega) (by omega),hN.cell (by omega) (by omega)]at this
 intro h i hi
 have:=h i hi
 rwa [hN.cell (by omega) (by omega),hN.cell (by omega) (by omega)]
def zo6 (g:List (List Int)) (rs:List Rect) (lv:Bool) (x y:Rect):List PV := .bool lv::(zap g rs::x.cells)++(zap g rs::y.cells)
abbrev zx3 (g:List (List Int)) (rs:List Rect) (t:Pt) (q:Bool × Nat):PV := .agg (zo6 g rs q.1 (t.one q).rect (t.two q).rect)
end
section
def zck (z:Nat→Nat→Int) (t:Pt):Option CT:=tree z (t.h*t.w) t
section
variable {z:Nat→Nat→Int} {H W:Nat} {t:Pt}
theorem zih (h:t.In H W):t.h*t.w=(t.h*t.w - 1)+1:=by have:=Nat.mul_pos h.1 h.2.1; omega
theorem zie (h:t.In H W) (h1:zun z t=true):zck z t=some (.leaf (z t.r t.c)):=by
 unfold zck; rw [zih h,tree,if_pos h1]
theorem ziz (h:t.In H W) (h1:zun z t=false) (h2:zc2 z t=none):zck z t=none:=by
 unfold zck; rw [zih h,tree,h1,h2]; rfl
theorem zf2 (h:t.In H W) (h1:zun z t=false) {q:Bool × Nat} (h2:zc2 z t=some q):zck z t=match zck z (t.one q),zck z (t.two q) with | some x,some y=>some (.node q.1 x y) | _,_=>none:=by
 obtain ⟨i1,i2,a1,a2⟩:=h.cut h2
 have:=zih h
 rw [show zck z t=tree z ((t.h*t.w - 1)+1) t by unfold zck; rw [← this]]
 simp only[tree,h1,h2,qF,if_false]
 unfold zck
 rw [zlj (z:=z) _ i1 (qR _) (f:=t.h*t.w - 1) (g:=(t.one q).h*(t.one q).w) (by omega) (qR _),zlj (z:=z) _ i2 (qR _) (f:=t.h*t.w - 1) (g:=(t.two q).h*(t.two q).w) (by omega) (qR _)]
 all_goals (cases tree z ((t.one q).h*(t.one q).w) (t.one q) <;> cases tree z ((t.two q).h*(t.two q).w) (t.two q) <;> rfl)
def z1n (z:Nat→Nat→Int):Nat→Pt→Txt × Bool
 | 0,_=>([],false)
 | f+1,t=>if zun z t then ([UInt8.ofNat (z t.r t.c+65).toNat],true) else
  match zc2 z t with
  | none=>([],false)
  | some q=>((if q.1 then [104] else [118])++(z1n z f (t.one q)).1++(z1n z f (t.two q)).1,(z1n z f (t.one q)).2 && (z1n z f (t.two q)).2)
theorem zny:∀ (n:Nat) {t:Pt} {f g:Nat},t.In H W→t.h*t.w≤n→t.h*t.w≤f→t.h*t.w≤g→z1n z f t=z1n z g t
 | 0,t,f,g,hi,hn,_,_=>by have:=Nat.mul_pos hi.1 hi.2.1; omega
 | n+1,t,f,g,hi,hn,hf,hg=>by
  have:=Nat.mul_pos hi.1 hi.2.1
  obtain ⟨f,rfl⟩:∃ f',f=f'+1:=⟨f - 1,by omega⟩
  obtain ⟨g,rfl⟩:∃ g',g=g'+1:=⟨g - 1,by omega⟩
  simp only[z1n]
  split
  ·rfl
  cases hc:zc2 z t with
  | none=>rfl
  | some q =>
   obtain ⟨i1,i2,a1,a2⟩:=hi.cut hc
   simp only
   rw [zny n i1 (f:=f) (g:=g) (by omega) (by omega) (by omega),zny n i2 (f:=f) (g:=g) (by omega) (by omega) (by omega)]
def zzx (z:Nat→Nat→Int) (t:Pt):Txt × Bool:=z1n z (t.h*t.w) t
theorem z8f (h:t.In H W) (h1:zun z t=true):zzx z t=([UInt8.ofNat (z t.r t.c+65).toNat],true):=by
 unfold zzx; rw [zih h,z1n,if_pos h1]
theorem z5x (h:t.In H W) (h1:zun z t=false) (h2:zc2 z t=none):zzx z t=([],false):=by
 unfold zzx; rw [zih h,z1n,h1,h2]; rfl
theorem z8e (h:t.In H W) (h1:zun z t=false) {q:Bool × Nat} (h2:zc2 z t=some q) :
  zzx z t=((if q.1 then [104] else [118])++(zzx z (t.one q)).1++(zzx z (t.two q)).1,(zzx z (t.one q)).2 && (zzx z (t.two q)).2):=by
 obtain ⟨i1,i2,a1,a2⟩:=h.cut h2
 have:=zih h
 rw [show zzx z t=z1n z ((t.h*t.w - 1)+1) t by unfold zzx; rw [← this]]
 simp only[z1n,h1,h2,qF,if_false]
 unfold zzx
 rw [zny (z:=z) _ i1 (qR _) (f:=t.h*t.w - 1) (g:=(t.one q).h*(t.one q).w) (by omega) (qR _),zny (z:=z) _ i2 (qR _) (f:=t.h*t.w - 1) (g:=(t.two q).h*(t.two q).w) (by omega) (qR _)]
theorem zxq {q:Bool × Nat} (h2:zc2 z t=some q):(t.one q).h*(t.one q).w+(t.two q).h*(t.two q).w=t.h*t.w:=by
 obtain ⟨h1,h3⟩:=zfi h2
 obtain ⟨lv,k⟩:=q
 cases lv with
 | true =>
  simp only[if_true]at h3
  simp only[Pt.one,Pt.two,if_true]
  rw [← Nat.add_mul,show k+(t.h - k)=t.h by omega]
 | false =>
  simp only[qF,if_false]at h3
  simp only[Pt.one,Pt.two,qF,if_false]
  rw [← Nat.mul_add,show k+(t.w - k)=t.w by omega]
theorem zvy:∀ (n:Nat) {t:Pt},t.In H W→t.h*t.w≤n→(zzx z t).1.length+1≤2*(t.h*t.w)∧(zzx z t).2=(zck z t).isSome
 | 0,t,hi,hn=>by have:=Nat.mul_pos hi.1 hi.2.1; omega
 | n+1,t,hi,hn=>by
  have:=Nat.mul_pos hi.1 hi.2.1
  cases h1:zun z t with
  | true=>rw [z8f hi h1,zie hi h1]; simp; omega
  | false =>
   cases hc:zc2 z t with
   | none=>rw [z5x hi h1 hc,ziz hi h1 hc]; simp; omega
   | some q =>
    obtain ⟨i1,i2,a1,a2⟩:=hi.cut hc
    have ha:=zxq hc
    obtain ⟨b1,b2⟩:=zvy n i1 (by omega)
    obtain ⟨c1,c2⟩:=zvy n i2 (by omega)
    have p1:=Nat.mul_pos i1.1 i1.2.1
    rw [z8e hi h1 hc,zf2 hi h1 hc]
    constructor
    ·simp only[List.length_append]
     have:(if q.1 then [(104:UInt8)] else [118]).length=1:=by split <;> rfl
     omega
    rw [b2,c2]
    cases zck z (t.one q) <;> cases zck z (t.two q) <;> rfl
def CT.leaves:CT→List Int
 | .leaf a=>[a]
 | .node _ x y=>x.leaves++y.leaves
theorem CT.pos (x:CT):1≤x.leaves.length:=by
 induction x with
 | leaf a=>simp [CT.leaves]
 | node lv x y h1 h2=>simp [CT.leaves]; omega
theorem zew (hz:z90 z H W):∀ (n:Nat) {t:Pt} {x:CT},Whole z H W t→t.h*t.w≤n→zck z t=some x →
  x.leaves.Nodup∧(∀ v,v∈x.leaves↔∃ a c,t.r≤a∧a<t.r+t.h∧t.c≤c∧c<t.c+t.w∧z a c=v)∧x.leaves.length≤t.h*t.w
 | 0,t,x,hw,hn,_=>by have:=Nat.mul_pos hw.inn.1 hw.inn.2.1; omega
 | n+1,t,x,hw,hn,hx=>by
  have hi:=hw.inn
  have hpos:=Nat.mul_pos hi.1 hi.2.1
  cases h1:zun z t with
  | true =>
   rw [zie hi h1]at hx
   cases hx
   have hall:=znn.1 h1
   refine ⟨by simp [CT.leaves],fun v=>?_,by simp [CT.leaves]; omega⟩
   simp only[CT.leaves,List.mem_singleton]
   constructor
   ·rintro rfl; exact ⟨t.r,t.c,by omega,by have:=hi.1; omega,by omega,by have:=hi.2.1; omega,rfl⟩
   rintro ⟨a,c,e1,e2,e3,e4,rfl⟩
   have:=hall (a - t.r) (c - t.c) (by omega) (by omega)
   rwa [show t.r+(a - t.r)=a by omega,show t.c+(c - t.c)=c by omega]at this
  | false =>
   cases hc:zc2 z t with
   | none=>rw [ziz hi h1 hc]at hx; cases hx
   | some q =>
    obtain ⟨i1,i2,a1,a2⟩:=hi.cut hc
    obtain ⟨w1,w2⟩:=hw.cut hz hc
    have ha:=zxq hc
    rw [zf2 hi h1 hc]at hx
    cases hx1:zck z (t.one q) with
    | none=>rw [hx1]at hx; cases hx
    | some x1 =>
     cases hx2:zck z (t.two q) with
     | none=>rw [hx1,hx2]at hx; cases hx
     | some x2 =>
      rw [hx1,hx2]at hx
      cases hx
      obtain ⟨b1,b2,b3⟩:=zew hz n w1 (by omega) hx1
      obtain ⟨c1,c2,c3⟩:=zew hz n w2 (by omega) hx2
      obtain ⟨k1,k2⟩:=zfi hc
      refine ⟨?_,fun v=>?_,by simp [CT.leaves]; omega⟩
      ·simp only[CT.leaves,List.nodup_append]
       refine ⟨b1,c1,fun v hv u hu e=>?_⟩
       subst e
       obtain ⟨a,c,e1,e2,e3,e4,e5⟩:=(b2 v).1 hv
       obtain ⟨a',c',f1,f2,f3,f4,f5⟩:=(c2 v).1 hu
       have hin1:=i1; have hin2:=i2
       unfold Pt.In at hin1 hin2
       have:=w1.all a c a' c' (by omega) (by omega) (by omega) (by omega) (e5.trans f5.symm) e1 e2 e3 e4
       obtain ⟨lv,k⟩:=q
       cases lv <;> simp only[Pt.one,Pt.two,qF,if_false,if_true] at * <;> omega
      simp only[CT.leaves,List.mem_append,b2,c2]
      obtain ⟨lv,k⟩:=q
      cases lv with
      | true =>
       simp only[Pt.one,Pt.two,if_true] at *
       constructor
       ·rintro (⟨a,c,e1,e2,e3,e4,e5⟩ | ⟨a,c,e1,e2,e3,e4,e5⟩)
        ·exact ⟨a,c,e1,by omega,e3,e4,e5⟩
        exact ⟨a,c,by omega,by omega,e3,e4,e5⟩
       rintro ⟨a,c,e1,e2,e3,e4,e5⟩
       rcases Nat.lt_or_ge a (t.r+k) with h | h
       ·exact .inl ⟨a,c,e1,h,e3,e4,e5⟩
       exact .inr ⟨a,c,h,by omega,e3,e4,e5⟩
      | false =>
       simp only[Pt.one,Pt.two,qF,if_false] at *
       constructor
       ·rintro (⟨a,c,e1,e2,e3,e4,e5⟩ | ⟨a,c,e1,e2,e3,e4,e5⟩)
        ·exact ⟨a,c,e1,e2,e3,by omega,e5⟩
        exact ⟨a,c,e1,e2,by omega,by omega,e5⟩
       rintro ⟨a,c,e1,e2,e3,e4,e5⟩
       rcases Nat.lt_or_ge c (t.c+k) with h | h
       ·exact .inl ⟨a,c,e1,e2,e3,h,e5⟩
       exact .inr ⟨a,c,e1,e2,h,by omega,e5⟩
end
theorem zsc:∀ {n:Nat} {l:List Int},l.Nodup→(∀ x∈l,0≤x∧x<n)→l.length≤n
 | 0,l,_,hb=>by
  cases l with
  | nil=>simp
  | cons a l=>have:=hb a (by simp); omega
 | n+1,l,h,hb=>by
  by_cases hm:(n:Int)∈l
  ·obtain ⟨l1,l2,rfl⟩:=List.append_of_mem hm
   have hnd:=List.nodup_append.1 h
   have:=zsc (n:=n) (l:=l1++l2) (h.sublist (by simp)) fun x hx=>by
    have h1:=hb x (by rcases List.mem_append.1 hx with h9 | h9 <;> simp [h9])
    have h2:x≠n:=by
     rintro rfl
     rcases List.mem_append.1 hx with h9 | h9
     ·exact hnd.2.2 _ h9 _ (by simp) rfl
     exact (List.nodup_cons.1 hnd.2.1).1 h9
    omega
   simp at this ⊢; omega
  have:=zsc (n:=n) h fun x hx=>by
   have h1:=hb x hx
   have h2:x≠n:=by rintro rfl; exact hm hx
   omega
  omega
end
section
section
variable {c:Nat→Nat→Nat} {H W:Nat}
def zht (c:Nat→Nat→Nat) (t:Pt) (i j:Nat):Nat:=c (t.r+i) (t.c+j)
theorem Pl.sub (h:Pl c H W) {t:Pt} (ht:t.In H W):Pl (zht c t) t.h t.w:=by
 obtain ⟨t1,t2,t3,t4⟩:=ht
 constructor
 ·intro i j i' j' k l a b c' d e f1 f2 f3 f4
  exact h.rect (t.r+k) (t.c+l) (by omega) (by omega) (by omega) (by omega) e (by omega) (by omega) (by omega) (by omega)
 intro i j a b e1 e2 e3
 exact h.plain (i:=t.r+i) (j:=t.c+j) (by omega) (by omega) e1 e2 e3
theorem DL.sub {t:Pt} (ht:t.In H W) {a b:Nat} (h:DL (zht c t) t.h t.w a b):DL c H W a b:=by
 obtain ⟨t1,t2,t3,t4⟩:=ht
 obtain ⟨j,i1,i2,a1,a2,a3,a4,a5,a6⟩:=h
 refine ⟨t.c+j,t.r+i1,t.r+i2,by omega,by omega,by omega,fun r h1 h2=>?_,a5,a6⟩
 have:=a4 (r - t.r) (by omega) (by omega)
 simp only[zht]at this
 rwa [show t.r+(r - t.r)=r by omega]at this
theorem DU.sub {t:Pt} (ht:t.In H W) {a b:Nat} (h:DU (zht c t) t.h t.w a b):DU c H W a b:=by
 obtain ⟨t1,t2,t3,t4⟩:=ht
 obtain ⟨i,j1,j2,a1,a2,a3,a4,a5,a6⟩:=h
 refine ⟨t.r+i,t.c+j1,t.c+j2,by omega,by omega,by omega,fun r h1 h2=>?_,a5,a6⟩
 have:=a4 (r - t.c) (by omega) (by omega)
 simp only[zht]at this
 rwa [show t.c+(r - t.c)=r by omega]at this
end
section
variable {p:List Txt}
theorem z2e (hp:zak p=true) {t:Pt} (hw:Whole (zam p) p.length (zad p).length t) {q:Bool × Nat} (hq:zc2 (zam p) t=some q) {x y:CT} (hx:zck (zam p) (t.one q)=some x) (hy:zck (zam p) (t.two q)=some y) :
  ∀ a b,a∈x.leaves→b∈y.leaves→(q.1=false→Lf p a.toNat b.toNat)∧(q.1=true→Ab p a.toNat b.toNat):=by
 intro a b ha hb
 have hpl:=zbi hp
 have hi:=hw.inn
 obtain ⟨i1,i2,_,_⟩:=hi.cut hq
 obtain ⟨w1,w2⟩:=hw.cut (zgp hpl) hq
 obtain ⟨_,m1,_⟩:=zew (zgp hpl) _ w1 (qR _) hx
 obtain ⟨_,m2,_⟩:=zew (zgp hpl) _ w2 (qR _) hy
 obtain ⟨r1,c1,e1,e2,e3,e4,e5⟩:=(m1 a).1 ha
 obtain ⟨r2,c2,f1,f2,f3,f4,f5⟩:=(m2 b).1 hb
 have hin:=hi
 unfold Pt.In at hin i1 i2
 have hP:=(zbv hp).sub hi
 obtain ⟨k1,k2⟩:=zfi hq
 obtain ⟨lv,k⟩:=q
 have hra:=zc9 hpl (i:=r1) (j:=c1) (by omega) (by omega)
 have hrb:=zc9 hpl (i:=r2) (j:=c2) (by omega) (by omega)
 have ca:=zeo hpl (i:=r1) (j:=c1) (by omega) (by omega)
 have cb:=zeo hpl (i:=r2) (j:=c2) (by omega) (by omega)
 have ha':a.toNat<(rP p).length:=by omega
 have hb':b.toNat<(rP p).length:=by omega
 have ea:cn (gP p) r1 c1=a.toNat:=by omega
 have eb:cn (gP p) r2 c2=b.toNat:=by omega
 have cz:∀ i j,i<p.length→j<(zad p).length→(cn (gP p) i j:Int)=zam p i j:=fun i j h1 h2=>zeo hpl h1 h2
 constructor
 ·rintro rfl
  simp only[qF,if_false]at k2
  simp only[Pt.one,Pt.two,qF,if_false] at *
  have hth:=zs2.1 k2.2
  have hT:Thru (zht (cn (gP p)) t) t.h k:=by
   intro r hr e
   have:=hth r hr
   have g1:=cz (t.r+r) (t.c+k - 1) (by omega) (by omega)
   have g2:=cz (t.r+r) (t.c+k) (by omega) (by omega)
   simp only[zht]at e
   rw [show t.c+(k - 1)=t.c+k - 1 by omega]at e
   omega
  have h:=zpr hP k1 k2.1 hT (i:=r1 - t.r) (j:=c1 - t.c) (i':=r2 - t.r) (j':=c2 - t.c) (by omega) (by omega) (by omega) (by omega) (by omega)
  have h2:TC (DL (cn (gP p)) p.length (zad p).length) (zht (cn (gP p)) t (r1 - t.r) (c1 - t.c)) (zht (cn (gP p)) t (r2 - t.r) (c2 - t.c)):=h.mono fun a b hd=>DL.sub hi hd
  simp only[zht]at h2
  rw [show t.r+(r1 - t.r)=r1 by omega,show t.c+(c1 - t.c)=c1 by omega,show t.r+(r2 - t.r)=r2 by omega,show t.c+(c2 - t.c)=c2 by omega,ea,eb]at h2
  exact (Lf.iff ha' hb').2 h2
 rintro rfl
 simp only[if_true]at k2
 simp only[Pt.one,Pt.two,if_true] at *
 have hth:=zs1.1 k2.2
 have hT:Thru (tr (zht (cn (gP p)) t)) t.w k:=by
  intro r hr e
  have:=hth r hr
  have g1:=cz (t.r+k - 1) (t.c+r) (by omega) (by omega)
  have g2:=cz (t.r+k) (t.c+r) (by omega) (by omega)
  simp only[tr,zht]at e
  rw [show t.r+(k - 1)=t.r+k - 1 by omega]at e
  omega
 have h:=zpr hP.ex k1 k2.1 hT (i:=c1 - t.c) (j:=r1 - t.r) (i':=c2 - t.c) (j':=r2 - t.r) (by omega) (by omega) (by omega) (by omega) (by omega)
 have h2:TC (DU (cn (gP p)) p.length (zad p).length) (zht (cn (gP p)) t (r1 - t.r) (c1 - t.c)) (zht (cn (gP p)) t (r2 - t.r) (c2 - t.c)):=h.mono fun a b hd=>DU.sub hi hd.ex
 simp only[zht]at h2
 rw [show t.r+(r1 - t.r)=r1 by omega,show t.c+(c1 - t.c)=c1 by omega,show t.r+(r2 - t.r)=r2 by omega,show t.c+(c2 - t.c)=c2 by omega,ea,eb]at h2
 exact (Ab.iff ha' hb').2 h2
end
inductive Ch (M:List (List Bool)) (ws:List Int) (a:Nat):Nat→Int→Prop
 | one:Ch M ws a a (zei ws a)
 | snoc {b d:Nat} {s:Int}:Ch M ws a b s→zci M b d=true→Ch M ws a d (s+zei ws d)
section
variable {M:List (List Bool)} {ws:List Int} {n:Nat} {rk:Nat→Nat}
theorem Ch.le (hu:Up M n rk) (hsq:∀ a b,zci M a b=true→a<n) {a b:Nat} {s:Int} (h:Ch M ws a b s):b<n→s≤HB M ws n b:=by
 induction h with
 | one=>intro hb; rw [z8n hu hb]; have:=yci (M:=M) (ws:=ws) (n:=n) a; omega
 | snoc k hk ih =>
  intro hb
  have h1:=ih (hsq _ _ hk)
  have h2:=ych (ws:=ws) (hsq _ _ hk) hk
  rw [z8n hu hb]; omega
end
section
variable {p:List Txt}
end
end
section
inductive Sp (L U:Nat→Nat→Prop):(Nat→Prop)→Prop
 | one {A:Nat→Prop} (a:Nat):A a→(∀ b,A b→b=a)→Sp L U A
 | left {A:Nat→Prop} (B:Nat→Prop):(∃ a,A a∧B a)→(∃ a,A a∧¬ B a)→(∀ a b,A a→B a→A b→¬ B b→L a b)→Sp L U (fun a=>A a∧B a)→Sp L U (fun a=>A a∧¬ B a)→Sp L U A
 | up {A:Nat→Prop} (B:Nat→Prop):(∃ a,A a∧B a)→(∃ a,A a∧¬ B a)→(∀ a b,A a→B a→A b→¬ B b→U a b)→Sp L U (fun a=>A a∧B a)→Sp L U (fun a=>A a∧¬ B a)→Sp L U A
theorem Sp.congr {L U:Nat→Nat→Prop} {A A':Nat→Prop} (h:Sp L U A) (e:∀ a,A a↔A' a):Sp L U A':=by
 have:A=A':=funext fun a=>propext (e a)
 rwa [← this]
theorem Sp.ne {L U:Nat→Nat→Prop} {A:Nat→Prop} (h:Sp L U A):∃ a,A a:=by
 cases h with
 | one a h _=>exact ⟨a,h⟩
 | left B h=>obtain ⟨a,h,_⟩:=h; exact ⟨a,h⟩
 | up B h=>obtain ⟨a,h,_⟩:=h; exact ⟨a,h⟩
theorem Sp.map {L U L' U':Nat→Nat→Prop} {A:Nat→Prop} (g:Nat→Nat) (h:Sp L U A):∀ {A':Nat→Prop},(∀ i,A' i→A (g i))→(∀ a,A a→∃ i,A' i∧g i=a)→(∀ i j,A' i→A' j→g i=g j→i=j) →
  (∀ i j,A' i→A' j→L (g i) (g j)→L' i j)→(∀ i j,A' i→A' j→U (g i) (g j)→U' i j)→Sp L' U' A':=by
 induction h with
 | one a ha hu =>
  intro A' h1 h2 h3 h4 h5
  obtain ⟨i,hi,e⟩:=h2 a ha
  exact .one i hi fun j hj=>h3 j i hj hi ((hu _ (h1 j hj)).trans e.symm)
 | left B hb hn hl _ _ i1 i2 =>
  intro A' h1 h2 h3 h4 h5
  refine .left (fun i=>B (g i)) ?_ ?_ (fun a b ha hba hb' hnb=>h4 a b ha hb' (hl _ _ (h1 a ha) hba (h1 b hb') hnb)) (i1 (fun i hi=>⟨h1 i hi.1,hi.2⟩) (fun a ha=>?_) (fun i j hi hj=>h3 i j hi.1 hj.1) (fun i j hi hj=>h4 i j hi.1 hj.1) fun i j hi hj=>h5 i j hi.1 hj.1)
   (i2 (fun i hi=>⟨h1 i hi.1,hi.2⟩) (fun a ha=>?_) (fun i j hi hj=>h3 i j hi.1 hj.1) (fun i j hi hj=>h4 i j hi.1 hj.1) fun i j hi hj=>h5 i j hi.1 hj.1)
  ·obtain ⟨a,ha,hb⟩:=hb; obtain ⟨i,hi,e⟩:=h2 a ha; exact ⟨i,hi,by rw [e]; exact hb⟩
  ·obtain ⟨a,ha,hb⟩:=hn; obtain ⟨i,hi,e⟩:=h2 a ha; exact ⟨i,hi,by rw [e]; exact hb⟩
  ·obtain ⟨i,hi,e⟩:=h2 a ha.1; exact ⟨i,⟨hi,by rw [e]; exact ha.2⟩,e⟩
  obtain ⟨i,hi,e⟩:=h2 a ha.1; exact ⟨i,⟨hi,by rw [e]; exact ha.2⟩,e⟩
 | up B hb hn hl _ _ i1 i2 =>
  intro A' h1 h2 h3 h4 h5
  refine .up (fun i=>B (g i)) ?_ ?_ (fun a b ha hba hb' hnb=>h5 a b ha hb' (hl _ _ (h1 a ha) hba (h1 b hb') hnb)) (i1 (fun i hi=>⟨h1 i hi.1,hi.2⟩) (fun a ha=>?_) (fun i j hi hj=>h3 i j hi.1 hj.1) (fun i j hi hj=>h4 i j hi.1 hj.1) fun i j hi hj=>h5 i j hi.1 hj.1)
   (i2 (fun i hi=>⟨h1 i hi.1,hi.2⟩) (fun a ha=>?_) (fun i j hi hj=>h3 i j hi.1 hj.1) (fun i j hi hj=>h4 i j hi.1 hj.1) fun i j hi hj=>h5 i j hi.1 hj.1)
  ·obtain ⟨a,ha,hb⟩:=hb; obtain ⟨i,hi,e⟩:=h2 a ha; exact ⟨i,hi,by rw [e]; exact hb⟩
  ·obtain ⟨a,ha,hb⟩:=hn; obtain ⟨i,hi,e⟩:=h2 a ha; exact ⟨i,hi,by rw [e]; exact hb⟩
  ·obtain ⟨i,hi,e⟩:=h2 a ha.1; exact ⟨i,⟨hi,by rw [e]; exact ha.2⟩,e⟩
  obtain ⟨i,hi,e⟩:=h2 a ha.1; exact ⟨i,⟨hi,by rw [e]; exact ha.2⟩,e⟩
theorem Sp.sub {L U:Nat→Nat→Prop} {A:Nat→Prop} (h:Sp L U A):∀ {A':Nat→Prop},(∀ a,A' a→A a)→(∃ a,A' a)→Sp L U A':=by
 induction h with
 | one a ha hu =>
  intro A' h1 ⟨b,hb⟩
  exact .one b hb fun d hd=>(hu d (h1 d hd)).trans (hu b (h1 b hb)).symm
 | left B _ _ hl _ _ i1 i2 =>
  intro A' h1 h2
  by_cases hb:∃ a,A' a∧B a
  ·by_cases hn:∃ a,A' a∧¬ B a
   ·exact .left B hb hn (fun a b ha hba hb' hnb=>hl a b (h1 a ha) hba (h1 b hb') hnb) (i1 (fun a ha=>⟨h1 a ha.1,ha.2⟩) hb) (i2 (fun a ha=>⟨h1 a ha.1,ha.2⟩) hn)
   exact i1 (fun a ha=>⟨h1 a ha,Classical.byContradiction fun h=>hn ⟨a,ha,h⟩⟩) h2
  exact i2 (fun a ha=>⟨h1 a ha,fun h=>hb ⟨a,ha,h⟩⟩) h2
 | up B _ _ hl _ _ i1 i2 =>
  intro A' h1 h2
  by_cases hb:∃ a,A' a∧B a
  ·by_cases hn:∃ a,A' a∧¬ B a
   ·exact .up B hb hn (fun a b ha hba hb' hnb=>hl a b (h1 a ha) hba (h1 b hb') hnb) (i1 (fun a ha=>⟨h1 a ha.1,ha.2⟩) hb) (i2 (fun a ha=>⟨h1 a ha.1,ha.2⟩) hn)
   exact i1 (fun a ha=>⟨h1 a ha,Classical.byContradiction fun h=>hn ⟨a,ha,h⟩⟩) h2
  exact i2 (fun a ha=>⟨h1 a ha,fun h=>hb ⟨a,ha,h⟩⟩) h2
section
variable {p:List Txt}
def Rms (p:List Txt) (t:Pt) (v:Nat):Prop:=∃ a c,t.r≤a∧a<t.r+t.h∧t.c≤c∧c<t.c+t.w∧zam p a c=v
theorem yc3 (hp:zbx p=true) {t:Pt} (h:t.In p.length (zad p).length) {v:Nat} (hv:Rms p t v):v<(rP p).length:=by
 obtain ⟨a,c,e1,e2,e3,e4,e5⟩:=hv
 unfold Pt.In at h
 have:=zc9 hp (i:=a) (j:=c) (by omega) (by omega)
 omega
theorem zr5 (hp:zbx p=true) {t:Pt} (hw:Whole (zam p) p.length (zad p).length t) {x:CT} (hx:zck (zam p) t=some x) (v:Nat):(v:Int)∈x.leaves↔Rms p t v :=
 (zew (zgp hp) _ hw (qR _) hx).2.1 v
theorem z4u (hp:zbx p=true) {t:Pt} (hw:Whole (zam p) p.length (zad p).length t) {q:Bool × Nat} (hq:zc2 (zam p) t=some q) (v:Nat) :
  (Rms p t v∧Rms p (t.one q) v↔Rms p (t.one q) v)∧(Rms p t v∧¬ Rms p (t.one q) v↔Rms p (t.two q) v):=by
 obtain ⟨w1,w2⟩:=hw.cut (zgp hp) hq
 have i1:=w1.inn; have i2:=w2.inn; have i0:=hw.inn
 obtain ⟨k1,k2⟩:=zfi hq
 obtain ⟨lv,k⟩:=q
 have h1:Rms p (t.one (lv,k)) v→Rms p t v:=by
  rintro ⟨a,c,e1,e2,e3,e4,e5⟩
  refine ⟨a,c,?_⟩
  cases lv <;> simp only[Pt.one,qF,if_false,if_true] at * <;> exact ⟨by omega,by omega,by omega,by omega,e5⟩
 have h2:Rms p (t.two (lv,k)) v→Rms p t v∧¬ Rms p (t.one (lv,k)) v:=by
  rintro ⟨a,c,e1,e2,e3,e4,e5⟩
  refine ⟨⟨a,c,?_⟩,?_⟩
  ·cases lv <;> simp only[Pt.two,qF,if_false,if_true] at * <;> exact ⟨by omega,by omega,by omega,by omega,e5⟩
  rintro ⟨a',c',f1,f2,f3,f4,f5⟩
  unfold Pt.In at i1 i2
  have:=w1.all a' c' a c (by omega) (by omega) (by omega) (by omega) (f5.trans e5.symm) f1 f2 f3 f4
  cases lv <;> simp only[Pt.one,Pt.two,qF,if_false,if_true] at * <;> omega
 refine ⟨⟨fun h=>h.2,fun h=>⟨h1 h,h⟩⟩,⟨?_,h2⟩⟩
 rintro ⟨⟨a,c,e1,e2,e3,e4,e5⟩,hn⟩
 cases lv with
 | true =>
  simp only[Pt.one,Pt.two,if_true] at *
  rcases Nat.lt_or_ge a (t.r+k) with h | h
  ·exact absurd ⟨a,c,e1,h,e3,e4,e5⟩ hn
  exact ⟨a,c,h,by simp only; omega,e3,e4,e5⟩
 | false =>
  simp only[Pt.one,Pt.two,qF,if_false] at *
  rcases Nat.lt_or_ge c (t.c+k) with h | h
  ·exact absurd ⟨a,c,e1,e2,e3,h,e5⟩ hn
  exact ⟨a,c,e1,e2,h,by simp only; omega,e5⟩
theorem zxh (hp:zak p=true):∀ (n:Nat) {t:Pt} {x:CT},Whole (zam p) p.length (zad p).length t→t.h*t.w≤n→zck (zam p) t=some x→Sp (Lf p) (Ab p) (Rms p t)
 | 0,t,x,hw,hn',_=>by have:=Nat.mul_pos hw.inn.1 hw.inn.2.1; omega
 | n+1,t,x,hw,hn',hx=>by
  have hpl:=zbi hp
  have hi:=hw.inn
  cases h1:zun (zam p) t with
  | true =>
   have hl:=zr5 hpl hw (zie hi h1)
   have hc:=zc9 hpl (i:=t.r) (j:=t.c) (by unfold Pt.In at hi; omega) (by unfold Pt.In at hi; omega)
   refine .one (zam p t.r t.c).toNat ((hl _).1 (by simp [CT.leaves]; omega)) fun b hb=>?_
   have:=(hl b).2 hb
   simp only[CT.leaves,List.mem_singleton]at this
   omega
  | false =>
   cases hq:zc2 (zam p) t with
   | none=>rw [ziz hi h1 hq]at hx; cases hx
   | some q =>
    obtain ⟨i1,i2,a1,a2⟩:=hi.cut hq
    obtain ⟨w1,w2⟩:=hw.cut (zgp hpl) hq
    rw [zf2 hi h1 hq]at hx
    cases hx1:zck (zam p) (t.one q) with
    | none=>rw [hx1]at hx; cases hx
    | some x1 =>
     cases hx2:zck (zam p) (t.two q) with
     | none=>rw [hx1,hx2]at hx; cases hx
     | some x2 =>
      have s1:=zxh hp n w1 (by omega) hx1
      have s2:=zxh hp n w2 (by omega) hx2
      have hc:=z4u hpl hw hq
      have hs:=z2e hp hw hq hx1 hx2
      obtain ⟨b1,hb1⟩:=s1.ne
      obtain ⟨b2,hb2⟩:=s2.ne
      have e1:=s1.congr fun a=>((hc a).1).symm
      have e2:=s2.congr fun a=>((hc a).2).symm
      have key:∀ a b,Rms p t a→Rms p (t.one q) a→Rms p t b→¬ Rms p (t.one q) b→(q.1=false→Lf p a b)∧(q.1=true→Ab p a b):=by
       intro a b _ ha hb hnb
       have:=hs a b ((zr5 hpl w1 hx1 a).2 ha) ((zr5 hpl w2 hx2 b).2 (((hc b).2).1 ⟨hb,hnb⟩))
       simpa using this
      cases hlv:q.1 with
      | false=>exact .left (Rms p (t.one q)) ⟨b1,((hc b1).1).2 hb1⟩ ⟨b2,((hc b2).2).2 hb2⟩ (fun a b h1 h2 h3 h4=>(key a b h1 h2 h3 h4).1 hlv) e1 e2
      | true=>exact .up (Rms p (t.one q)) ⟨b1,((hc b1).1).2 hb1⟩ ⟨b2,((hc b2).2).2 hb2⟩ (fun a b h1 h2 h3 h4=>(key a b h1 h2 h3 h4).2 hlv) e1 e2
theorem zu5 (hp:zak p=true) {t:Pt} (hi:t.In p.length (zad p).length) {i j i' j':Nat} (h1:i<t.h) (h2:j<t.w) (h3:i'<t.h) (h4:j'<t.w) :
  (Lf p (zht (cn (gP p)) t i j) (zht (cn (gP p)) t i' j')→TC (DL (zht (cn (gP p)) t) t.h t.w) (zht (cn (gP p)) t i j) (zht (cn (gP p)) t i' j')) ∧
  (Ab p (zht (cn (gP p)) t i j) (zht (cn (gP p)) t i' j')→TC (DU (zht (cn (gP p)) t) t.h t.w) (zht (cn (gP p)) t i j) (zht (cn (gP p)) t i' j')):=by
 have hpl:=zbi hp
 have hP:=(zbv hp).sub hi
 have hin:=hi
 unfold Pt.In at hin
 have hr:∀ i j,i<t.h→j<t.w→zht (cn (gP p)) t i j<(rP p).length:=by
  intro i j hi' hj'
  have:=zc9 hpl (i:=t.r+i) (j:=t.c+j) (by omega) (by omega)
  have:=zeo hpl (i:=t.r+i) (j:=t.c+j) (by omega) (by omega)
  simp only[zht]; omega
 have ha:=hr i j h1 h2
 have hb:=hr i' j' h3 h4
 have gl:∀ {a b:Nat},a<(rP p).length→b<(rP p).length→TC (DL (zht (cn (gP p)) t) t.h t.w) a b→Lf p a b:=fun x y h=>(Lf.iff x y).2 (h.mono fun _ _=>DL.sub hi)
 have gu:∀ {a b:Nat},a<(rP p).length→b<(rP p).length→TC (DU (zht (cn (gP p)) t) t.h t.w) a b→Ab p a b:=fun x y h=>(Ab.iff x y).2 (h.mono fun _ _=>DU.sub hi)
 constructor
 ·intro h
  have hne:zht (cn (gP p)) t i j≠zht (cn (gP p)) t i' j':=fun e=>(Lf.only hp ha hb h).1 (by rw [e]at h ⊢; exact h)
  rcases zhg hP h1 h2 h3 h4 hne with k | k | k | k
  ·exact k
  ·exact absurd (gl hb ha k) (Lf.only hp ha hb h).1
  ·exact absurd (gu ha hb k) (Lf.only hp ha hb h).2.1
  exact absurd (gu hb ha k) (Lf.only hp ha hb h).2.2
 intro h
 have hne:zht (cn (gP p)) t i j≠zht (cn (gP p)) t i' j':=fun e=>(Ab.only hp ha hb h).1 (by rw [e]at h ⊢; exact h)
 rcases zhg hP h1 h2 h3 h4 hne with k | k | k | k
 ·exact absurd (gl ha hb k) (Ab.only hp ha hb h).2.1
 ·exact absurd (gl hb ha k) (Ab.only hp ha hb h).2.2
 ·exact k
 exact absurd (gu hb ha k) (Ab.only hp ha hb h).1
theorem zxb (hp:zak p=true):∀ (n:Nat) {t:Pt},Whole (zam p) p.length (zad p).length t→t.h*t.w≤n→Sp (Lf p) (Ab p) (Rms p t)→∃ x,zck (zam p) t=some x
 | 0,t,hw,hn',_=>by have:=Nat.mul_pos hw.inn.1 hw.inn.2.1; omega
 | n+1,t,hw,hn',hsp=>by
  have hpl:=zbi hp
  have hi:=hw.inn
  have hP:=(zbv hp).sub hi
  have hin:=hi
  unfold Pt.In at hin
  have sc:∀ i j,i<t.h→j<t.w→(zht (cn (gP p)) t i j:Int)=zam p (t.r+i) (t.c+j):=fun i j a b=>zeo hpl (by omega) (by omega)
  have srm:∀ i j,i<t.h→j<t.w→Rms p t (zht (cn (gP p)) t i j):=fun i j a b=>⟨t.r+i,t.c+j,by omega,by omega,by omega,by omega,(sc i j a b).symm⟩
  have rsc:∀ v,Rms p t v→∃ i j,i<t.h∧j<t.w∧zht (cn (gP p)) t i j=v:=by
   rintro v ⟨a,c,e1,e2,e3,e4,e5⟩
   refine ⟨a - t.r,c - t.c,by omega,by omega,?_⟩
   have:=sc (a - t.r) (c - t.c) (by omega) (by omega)
   rw [show t.r+(a - t.r)=a by omega,show t.c+(c - t.c)=c by omega]at this
   omega
  cases h1:zun (zam p) t with
  | true=>exact ⟨_,zie hi h1⟩
  | false =>
   have hcut:∃ q,zc2 (zam p) t=some q:=by
    cases hq:zc2 (zam p) t with
    | some q=>exact ⟨q,rfl⟩
    | none =>
     exfalso
     obtain ⟨nu,nl⟩:=zqf.1 hq
     have hno:¬ ∀ i j,i<t.h→j<t.w→zam p (t.r+i) (t.c+j)=zam p t.r t.c:=fun hc=>by rw [znn.2 hc]at h1; cases h1
     cases hsp with
     | one a ha hu =>
      apply hno
      intro i j hi' hj'
      have e1:=hu _ (srm i j hi' hj')
      have e2:=hu _ (srm 0 0 (by omega) (by omega))
      have f1:=sc i j hi' hj'
      have f2:=sc 0 0 (by omega) (by omega)
      simp only[Nat.add_zero]at f2
      omega
     | left B hb hnb hl _ _ =>
      obtain ⟨a,ha,hba⟩:=hb
      obtain ⟨b,hb',hbb⟩:=hnb
      obtain ⟨i0,j0,g1,g2,rfl⟩:=rsc a ha
      obtain ⟨i1,j1,g3,g4,rfl⟩:=rsc b hb'
      obtain ⟨k,k1,k2,k3,_⟩:=zud hP (by omega) (P:=B) ⟨i0,j0,g1,g2,hba⟩ ⟨i1,j1,g3,g4,hbb⟩ fun i j i' j' q1 q2 q3 q4 q5 q6=>(zu5 hp hi q1 q2 q3 q4).1 (hl _ _ (srm i j q1 q2) q5 (srm i' j' q3 q4) q6)
      have:=nu k k1 k2
      rw [Bool.eq_false_iff,ne_eq,zs2]at this
      apply this
      intro i hi' e
      apply k3 i hi'
      have f1:=sc i (k - 1) hi' (by omega)
      have f2:=sc i k hi' k2
      rw [show t.c+(k - 1)=t.c+k - 1 by omega]at f1
      omega
     | up B hb hnb hl _ _ =>
      obtain ⟨a,ha,hba⟩:=hb
      obtain ⟨b,hb',hbb⟩:=hnb
      obtain ⟨i0,j0,g1,g2,rfl⟩:=rsc a ha
      obtain ⟨i1,j1,g3,g4,rfl⟩:=rsc b hb'
      obtain ⟨k,k1,k2,k3,_⟩:=zud hP.ex (by omega) (P:=B) ⟨j0,i0,g2,g1,hba⟩ ⟨j1,i1,g4,g3,hbb⟩ fun j i j' i' q2 q1 q4 q3 q5 q6=>(zu5 hp hi q1 q2 q3 q4).2 (hl _ _ (srm i j q1 q2) q5 (srm i' j' q3 q4) q6)
      have:=nl k k1 k2
      rw [Bool.eq_false_iff,ne_eq,zs1]at this
      apply this
      intro j hj' e
      apply k3 j hj'
      have f1:=sc (k - 1) j (by omega) hj'
      have f2:=sc k j k2 hj'
      rw [show t.r+(k - 1)=t.r+k - 1 by omega]at f1
      simp only[tr]
      omega
   obtain ⟨q,hq⟩:=hcut
   obtain ⟨i1,i2,a1,a2⟩:=hi.cut hq
   obtain ⟨w1,w2⟩:=hw.cut (zgp hpl) hq
   have hc:=z4u hpl hw hq
   have n1:∃ a,Rms p (t.one q) a:=by
    unfold Pt.In at i1
    have:=zc9 hpl (i:=(t.one q).r) (j:=(t.one q).c) (by omega) (by omega)
    exact ⟨(zam p (t.one q).r (t.one q).c).toNat,(t.one q).r,(t.one q).c,by omega,by omega,by omega,by omega,by omega⟩
   have n2:∃ a,Rms p (t.two q) a:=by
    unfold Pt.In at i2
    have:=zc9 hpl (i:=(t.two q).r) (j:=(t.two q).c) (by omega) (by omega)
    exact ⟨(zam p (t.two q).r (t.two q).c).toNat,(t.two q).r,(t.two q).c,by omega,by omega,by omega,by omega,by omega⟩
   obtain ⟨x1,hx1⟩:=zxb hp n w1 (by omega) (hsp.sub (fun a ha=>(((hc a).1).2 ha).1) n1)
   obtain ⟨x2,hx2⟩:=zxb hp n w2 (by omega) (hsp.sub (fun a ha=>(((hc a).2).2 ha).1) n2)
   exact ⟨_,by rw [zf2 hi h1 hq,hx1,hx2]⟩
def PL (l:List Int) (i j:Nat):Prop:=i<j∧zei l i<zei l j
def PU (l:List Int) (i j:Nat):Prop:=j<i∧¬ zei l j<zei l i
theorem zgk (hp:zbx p=true) (v:Nat):Rms p ⟨0,0,p.length,(zad p).length⟩ v↔v<(rP p).length:=by
 constructor
 ·exact yc3 hp (zpt hp).inn
 intro hv
 obtain ⟨i,j,hi,hj,e⟩:=za8 hv
 have:=zeo hp hi hj
 exact ⟨i,j,Nat.zero_le _,by simpa using hi,Nat.zero_le _,by simpa using hj,by omega⟩
theorem z6t (hp:zak p=true):(∃ x,zck (zam p) ⟨0,0,p.length,(zad p).length⟩=some x)↔Sp (PL (zcv p)) (PU (zcv p)) (· < (zcv p).length):=by
 have hpl:=zbi hp
 have hw:=zpt hpl
 have hn:(zcv p).length=(rP p).length:=zbu
 have hx:∀ i,i<(rP p).length→zei (zcv p) i=xI p i:=fun i hi=>zgn (ydh hp hi)
 have step:Sp (Lf p) (Ab p) (Rms p ⟨0,0,p.length,(zad p).length⟩)↔Sp (PL (zcv p)) (PU (zcv p)) (· < (zcv p).length):=by
  constructor
  ·intro h
   refine h.map (zv4 p) (fun i hi=>(zgk hpl _).2 (zet hp (by omega)).1) (fun a ha=>?_) (fun i j hi hj e=>?_) (fun i j hi hj hl=>?_) fun i j hi hj hl=>?_
   ·have ha:=(zgk hpl a).1 ha
    exact ⟨ahK p true a,by rw [hn]; exact zcq hp ha,zjy hp ha⟩
   ·have h1:=(zet hp (i:=i) (by omega)).2.1
    have h2:=(zet hp (i:=j) (by omega)).2.1
    rw [e]at h1; omega
   ·have h1:=zet hp (i:=i) (by omega)
    have:=z3o hp h1.1 (i:=j) (by omega) hl
    rw [h1.2.1]at this
    unfold PL
    rw [hx i (by omega),hx j (by omega)]; exact this
   have h1:=zet hp (i:=j) (by omega)
   have:=z1s hp h1.1 (i:=i) (by omega) hl
   rw [h1.2.1]at this
   unfold PU
   rw [hx i (by omega),hx j (by omega)]; exact this
  intro h
  refine h.map (ahK p true) (fun a ha=>by rw [hn]; exact zcq hp ((zgk hpl a).1 ha)) (fun i hi=>?_) (fun a b ha hb e=>zen hp ((zgk hpl a).1 ha) ((zgk hpl b).1 hb) e) (fun a b ha hb hl=>?_) fun a b ha hb hl=>?_
  ·have h1:=zet hp (i:=i) (by omega)
   exact ⟨zv4 p i,(zgk hpl _).2 h1.1,h1.2.1⟩
  ·have ha:=(zgk hpl a).1 ha
   have hb:=(zgk hpl b).1 hb
   obtain ⟨h1,h2⟩:=hl
   have l2:=zcq (below:=true) hp hb
   rw [hx _ (by omega),hx _ l2]at h2
   have:=(x_lt hp h1 l2).1 h2
   rw [zjy hp ha,zjy hp hb]at this
   exact this
  have ha:=(zgk hpl a).1 ha
  have hb:=(zgk hpl b).1 hb
  obtain ⟨h1,h2⟩:=hl
  have l2:=zcq (below:=true) hp ha
  rw [hx _ (by omega),hx _ l2]at h2
  have:=(x_lt hp h1 l2).2 h2
  rw [zjy hp ha,zjy hp hb]at this
  exact this
 rw [← step]
 exact ⟨fun ⟨x,hx⟩=>zxh hp _ hw (qR _) hx,fun h=>zxb hp _ hw (qR _) h⟩
end
end
section
section
variable {c:Nat→Nat→Nat} {H W:Nat}
theorem DU.rows (h:Pl c H W) {u v:Nat} (hd:DU c H W u v) {i j i' j':Nat} (hi:i<H) (hj:j<W) (hi':i'<H) (hj':j'<W) (hu:c i j=u) (hv:c i' j'=v):i<i':=by
 obtain ⟨l,j1,j2,a1,a2,a3,a4,a5,a6⟩:=hd
 have k1:i≤l:=by
  refine Nat.le_of_not_lt fun hlt=>a4 j1 (by omega) (by omega) ?_
  have:=h.rect (i:=i) (j:=j) (i':=l) (j':=j1) (l+1) j1 hi (by omega) hj a2 (by rw [hu,a5]) (by omega) (by omega) (by omega) (by omega)
  rw [this,hu,a5]
 have k2:l+1≤i':=by
  refine Nat.le_of_not_lt fun hlt=>a4 j2 (by omega) (by omega) ?_
  have:=h.rect (i:=i') (j:=j') (i':=l+1) (j':=j2) l j2 hi' (by omega) hj' a3 (by rw [hv,a6]) (by omega) (by omega) (by omega) (by omega)
  rw [this,hv,a6]
 omega
theorem TCU.rows (h:Pl c H W) {u v:Nat} (hd:TC (DU c H W) u v):∀ {i j i' j':Nat},i<H→j<W→i'<H→j'<W→c i j=u→c i' j'=v→i<i':=by
 induction hd with
 | one hd=>exact DU.rows h hd
 | tail _ k ih =>
  intro i j i' j' hi hj hi' hj' hu hv
  obtain ⟨l,j1,j2,a1,a2,a3,a4,a5,a6⟩:=id k
  have h1:=ih hi hj (show l<H by omega) a2 hu a5.symm
  have h2:=DU.rows h k (show l<H by omega) a2 hi' hj' a5.symm hv
  omega
end
section
variable {p:List Txt}
theorem DL.lt (hp:zak p=true) {a b:Nat} (h:DL (cn (gP p)) p.length (zad p).length a b):a<(rP p).length∧b<(rP p).length:=by
 obtain ⟨j,i1,i2,h1,h2,h3,-,rfl,rfl⟩:=h
 exact ⟨ze5 zb0 h2 (by omega),ze5 zb0 h3 h1⟩
theorem DU.lt (hp:zak p=true) {a b:Nat} (h:DU (cn (gP p)) p.length (zad p).length a b):a<(rP p).length∧b<(rP p).length:=by
 obtain ⟨j,i1,i2,h1,h2,h3,-,rfl,rfl⟩:=h
 exact ⟨ze5 zb0 (by omega) h2,ze5 zb0 h1 h3⟩
end
end
section
def Tight (a b c d:Int):Prop:=(c<a∧a<d∧d<b)∨(b<d∧d<a∧a<c)
def Avoid (v:Nat→Int) (A:Nat→Prop):Prop:=∀ a b c d,A a→A b→A c→A d→a<b→b<c→c<d→¬ Tight (v a) (v b) (v c) (v d)
def Inj (v:Nat→Int) (A:Nat→Prop):Prop:=∀ a b,A a→A b→v a=v b→a=b
def LS (v:Nat→Int) (A B:Nat→Prop):Prop:=(∃ a,A a∧B a)∧(∃ a,A a∧¬ B a)∧∀ a b,A a→B a→A b→¬ B b→a<b∧v a<v b
def DS (v:Nat→Int) (A B:Nat→Prop):Prop:=(∃ a,A a∧B a)∧(∃ a,A a∧¬ B a)∧∀ a b,A a→B a→A b→¬ B b→a<b∧v b<v a
theorem LS.neg {v:Nat→Int} {A B:Nat→Prop} (h:LS (fun i => -v i) A B):DS v A B :=
 ⟨h.1,h.2.1,fun a b h1 h2 h3 h4=>by have:=h.2.2 a b h1 h2 h3 h4; simp only at this; omega⟩
theorem DS.neg {v:Nat→Int} {A B:Nat→Prop} (h:DS (fun i => -v i) A B):LS v A B :=
 ⟨h.1,h.2.1,fun a b h1 h2 h3 h4=>by have:=h.2.2 a b h1 h2 h3 h4; simp only at this; omega⟩
theorem DS.pos {v:Nat→Int} {A B:Nat→Prop} (h:DS v A B):LS (fun i => -v i) A B :=
 ⟨h.1,h.2.1,fun a b h1 h2 h3 h4=>by have:=h.2.2 a b h1 h2 h3 h4; refine ⟨this.1,?_⟩; show -v a < -v b; omega⟩
theorem Avoid.neg {v:Nat→Int} {A:Nat→Prop} (h:Avoid v A):Avoid (fun i => -v i) A:=fun a b c d h1 h2 h3 h4 h5 h6 h7 k =>
 h a b c d h1 h2 h3 h4 h5 h6 h7 (by unfold Tight at k ⊢; simp only at k; omega)
theorem Inj.neg {v:Nat→Int} {A:Nat→Prop} (h:Inj v A):Inj (fun i => -v i) A:=fun a b h1 h2 h3=>h a b h1 h2 (by simp only at h3; omega)
theorem Avoid.sub {v:Nat→Int} {A A':Nat→Prop} (h:Avoid v A) (k:∀ a,A' a→A a):Avoid v A':=fun a b c d h1 h2 h3 h4=>h a b c d (k a h1) (k b h2) (k c h3) (k d h4)
theorem Inj.sub {v:Nat→Int} {A A':Nat→Prop} (h:Inj v A) (k:∀ a,A' a→A a):Inj v A':=fun a b h1 h2=>h a b (k a h1) (k b h2)
theorem zx0 {v:Nat→Int} {A:Nat→Prop} {m:Nat} (hm:A m) (hA:∀ i,A i→i<m+1) (hi:Inj v A) (ha:Avoid v A)
  (ih:∀ k,k≤m→∀ A',(∀ i,A' i→i<k)→(∃ a b,A' a∧A' b∧a≠b)→(∀ a,A' a→A a)→(∃ B,LS v A' B)∨∃ B,DS v A' B)
  {B0:Nat→Prop} (h0:LS v (fun a=>A a∧a<m) B0):(∃ B,LS v A B)∨∃ B,DS v A B:=by
 obtain ⟨k,hk,⟨B,hB,hBk⟩,hmin⟩:=zko (P:=fun k=>∃ B,LS v (fun a=>A a∧a<m) B∧∀ a,A a→a<m→B a→a<k) (n:=m) ⟨B0,h0,fun a _ h _=>h⟩
 obtain ⟨⟨b0,hb0,hb0'⟩,⟨q,hq,hq'⟩,hall⟩:=hB
 have hlt:∀ {a},A a→a≠m→a<m:=fun h1 h2=>by have:=hA _ h1; omega
 by_cases h1:∀ x,A x→x<m→B x→v x<v m
 ·refine .inl ⟨fun a=>B a∧a<m,⟨b0,hb0.1,hb0',hb0.2⟩,⟨m,hm,fun h=>Nat.lt_irrefl _ h.2⟩,fun a b g1 g2 g3 g4=>?_⟩
  by_cases hb:b=m
  ·subst hb; exact ⟨g2.2,h1 a g1 g2.2 g2.1⟩
  exact hall a b ⟨g1,g2.2⟩ g2.1 ⟨g3,hlt g3 hb⟩ fun h=>g4 ⟨h,hlt g3 hb⟩
 obtain ⟨w,hw⟩:=Classical.not_forall.1 h1
 simp only[Classical.not_imp]at hw
 obtain ⟨w1,w2,w3,w4⟩:=hw
 have hwm:v m<v w:=by
  have:v w≠v m:=fun e=>by have:=hi w m w1 hm e; omega
  omega
 by_cases h2:∀ x,A x→x<m→v m<v x
 ·refine .inr ⟨fun a=>a<m,⟨w,w1,w2⟩,⟨m,hm,Nat.lt_irrefl _⟩,fun a b g1 g2 g3 g4=>?_⟩
  obtain rfl:b=m:=Classical.byContradiction fun h=>g4 (hlt g3 h)
  exact ⟨g2,h2 a g1 g2⟩
 obtain ⟨u,hu⟩:=Classical.not_forall.1 h2
 simp only[Classical.not_imp]at hu
 obtain ⟨u1,u2,u3⟩:=hu
 have hum:v u<v m:=by
  have:v u≠v m:=fun e=>by have:=hi u m u1 hm e; omega
  omega
 have huB:B u:=Classical.byContradiction fun h=>by
  have:=hall w u ⟨w1,w2⟩ w3 ⟨u1,u2⟩ h
  omega
 rcases ih k hk (fun a=>(A a∧a<m)∧B a) (fun i h=>hBk i h.1.1 h.1.2 h.2) ⟨u,w,⟨⟨u1,u2⟩,huB⟩,⟨⟨w1,w2⟩,w3⟩,fun e=>by subst e; omega⟩ (fun a h=>h.1.1) with ⟨X,⟨x0,hx0,hx0'⟩,⟨y0,hy0,hy0'⟩,hX⟩ | ⟨X,⟨x0,hx0,hx0'⟩,⟨y0,hy0,hy0'⟩,hX⟩
 ·refine absurd ⟨fun a=>B a∧X a,⟨⟨x0,hx0.1,hx0.2,hx0'⟩,⟨y0,hy0.1,fun h=>hy0' h.2⟩,fun a b g1 g2 g3 g4=>?_⟩,fun a g1 g2 g3=>(hX a y0 ⟨⟨g1,g2⟩,g3.1⟩ g3.2 hy0 hy0').1⟩ (hmin y0 (hBk y0 hy0.1.1 hy0.1.2 hy0.2))
  by_cases hb:B b
  ·exact hX a b ⟨g1,g2.1⟩ g2.2 ⟨g3,hb⟩ fun h=>g4 ⟨hb,h⟩
  exact hall a b g1 g2.1 g3 hb
 exfalso
 obtain ⟨x,y,hx,hx',hy,hy',e1,e2⟩:∃ x y,((A x∧x<m)∧B x)∧X x∧((A y∧y<m)∧B y)∧¬ X y∧v y<v m∧v m<v x:=by
  by_cases hXu:X u
  ·have hXw:X w:=Classical.byContradiction fun h=>by
    have:=hX u w ⟨⟨u1,u2⟩,huB⟩ hXu ⟨⟨w1,w2⟩,w3⟩ h
    omega
   have:=hX u y0 ⟨⟨u1,u2⟩,huB⟩ hXu hy0 hy0'
   exact ⟨w,y0,⟨⟨w1,w2⟩,w3⟩,hXw,hy0,hy0',by omega,hwm⟩
  by_cases hXw:X w
  ·exact ⟨w,u,⟨⟨w1,w2⟩,w3⟩,hXw,⟨⟨u1,u2⟩,huB⟩,hXu,hum,hwm⟩
  have:=hX x0 w hx0 hx0' ⟨⟨w1,w2⟩,w3⟩ hXw
  exact ⟨x0,u,hx0,hx0',⟨⟨u1,u2⟩,huB⟩,hXu,hum,by omega⟩
 have f1:=hX x y hx hx' hy hy'
 have f2:=hall x q hx.1 hx.2 hq hq'
 have f3:=hall y q hy.1 hy.2 hq hq'
 exact ha x y q m hx.1.1 hy.1.1 hq.1 hm f1.1 f3.1 hq.2 (.inr ⟨e1,e2,f2.2⟩)
theorem yag:∀ (m:Nat) (v:Nat→Int) (A:Nat→Prop),(∀ i,A i→i<m)→(∃ a b,A a∧A b∧a≠b)→Inj v A→Avoid v A→(∃ B,LS v A B)∨∃ B,DS v A B:=by
 intro m
 induction m using Nat.strongRecOn with
 | _ m ih =>
  intro v A hA h2 hi ha
  match m,hA,ih with
  | 0,hA,_=>obtain ⟨a,b,h,-⟩:=h2; exact absurd (hA a h) (by omega)
  | m+1,hA,ih =>
   by_cases hm:A m
   ·by_cases h3:∃ a b,(A a∧a<m)∧(A b∧b<m)∧a≠b
    ·have ihv:∀ k,k≤m→∀ A',(∀ i,A' i→i<k)→(∃ a b,A' a∧A' b∧a≠b)→(∀ a,A' a→A a)→(∃ B,LS v A' B)∨∃ B,DS v A' B:=fun k hk A' q1 q2 q3=>ih k (by omega) v A' q1 q2 (hi.sub q3) (ha.sub q3)
     rcases ih m (by omega) v (fun a=>A a∧a<m) (fun i h=>h.2) h3 (hi.sub fun a h=>h.1) (ha.sub fun a h=>h.1) with ⟨B,hB⟩ | ⟨B,hB⟩
     ·exact zx0 hm hA hi ha ihv hB
     have ihn:∀ k,k≤m→∀ A',(∀ i,A' i→i<k)→(∃ a b,A' a∧A' b∧a≠b)→(∀ a,A' a→A a)→(∃ B,LS (fun i => -v i) A' B)∨∃ B,DS (fun i => -v i) A' B:=fun k hk A' q1 q2 q3=>ih k (by omega) (fun i => -v i) A' q1 q2 (hi.sub q3).neg (ha.sub q3).neg
     rcases zx0 hm hA hi.neg ha.neg ihn hB.pos with ⟨B,h⟩ | ⟨B,h⟩
     ·exact .inr ⟨B,h.neg⟩
     exact .inl ⟨B,h.neg⟩
    obtain ⟨u,hu,hum⟩:∃ u,A u∧u≠m:=by
     obtain ⟨a,b,h4,h5,h6⟩:=h2
     by_cases ham:a=m
     ·exact ⟨b,h5,fun e=>h6 (ham.trans e.symm)⟩
     exact ⟨a,h4,ham⟩
    have hul:u<m:=by have:=hA u hu; omega
    have only:∀ x,A x→x≠m→x=u:=fun x hx hxm=>Classical.byContradiction fun hne=>h3 ⟨x,u,⟨hx,by have:=hA x hx; omega⟩,⟨hu,hul⟩,hne⟩
    rcases Int.lt_or_le (v u) (v m) with hv | hv
    ·refine .inl ⟨fun a=>a=u,⟨u,hu,rfl⟩,⟨m,hm,fun e=>hum e.symm⟩,fun a b g1 g2 g3 g4=>?_⟩
     obtain rfl:b=m:=Classical.byContradiction fun h=>g4 (only b g3 h)
     rw [g2]; exact ⟨hul,hv⟩
    have hne:v u≠v m:=fun e=>hum (hi u m hu hm e)
    refine .inr ⟨fun a=>a=u,⟨u,hu,rfl⟩,⟨m,hm,fun e=>hum e.symm⟩,fun a b g1 g2 g3 g4=>?_⟩
    obtain rfl:b=m:=Classical.byContradiction fun h=>g4 (only b g3 h)
    rw [g2]; exact ⟨hul,by omega⟩
   exact ih m (by omega) v A (fun i h=>by have:=hA i h; have:i≠m:=fun e=>hm (e ▸ h); omega) h2 hi ha
section
variable {l:List Int}
theorem z5d:∀ (N lo hi:Nat) {A:Nat→Prop},hi - lo≤N→(∀ i,A i→lo≤i∧i<hi)→(∃ a,A a)→Inj (zei l) A→Avoid (zei l) A→Sp (PL l) (PU l) A
 | 0,lo,hi,A,h,hA,⟨a,ha⟩,_,_=>by have:=hA a ha; omega
 | N+1,lo,hi,A,h,hA,⟨a,ha⟩,hj,hv=>by
  by_cases h1:∀ b,A b→b=a
  ·exact .one a ha h1
  obtain ⟨b,hb⟩:=Classical.not_forall.1 h1
  simp only[Classical.not_imp]at hb
  rcases yag hi (zei l) A (fun i h=>(hA i h).2) ⟨b,a,hb.1,ha,hb.2⟩ hj hv with ⟨B,⟨x,hx,hx'⟩,⟨y,hy,hy'⟩,hB⟩ | ⟨B,⟨x,hx,hx'⟩,⟨y,hy,hy'⟩,hB⟩
  ·have p1:=hA x hx
   have p2:=hA y hy
   have p3:=hB x y hx hx' hy hy'
   exact .left B ⟨x,hx,hx'⟩ ⟨y,hy,hy'⟩ (fun a b h1 h2 h3 h4=>hB a b h1 h2 h3 h4)
    (z5d N lo y (by omega) (fun i h=>⟨(hA i h.1).1,(hB i y h.1 h.2 hy hy').1⟩) ⟨x,hx,hx'⟩ (hj.sub fun a h=>h.1) (hv.sub fun a h=>h.1))
    (z5d N (x+1) hi (by omega) (fun i h=>⟨(hB x i hx hx' h.1 h.2).1,(hA i h.1).2⟩) ⟨y,hy,hy'⟩ (hj.sub fun a h=>h.1) (hv.sub fun a h=>h.1))
  have p1:=hA x hx
  have p2:=hA y hy
  have p3:=hB x y hx hx' hy hy'
  refine .up (fun a=>¬ B a) ⟨y,hy,hy'⟩ ⟨x,hx,fun h=>h hx'⟩ (fun a b h1 h2 h3 h4=>?_)
   (z5d N (x+1) hi (by omega) (fun i h=>⟨(hB x i hx hx' h.1 h.2).1,(hA i h.1).2⟩) ⟨y,hy,hy'⟩ (hj.sub fun a h=>h.1) (hv.sub fun a h=>h.1))
   (z5d N lo y (by omega) (fun i h=>⟨(hA i h.1).1,(hB i y h.1 (Classical.byContradiction h.2) hy hy').1⟩) ⟨x,hx,fun h=>h hx'⟩ (hj.sub fun a h=>h.1) (hv.sub fun a h=>h.1))
  have:=hB b a h3 (Classical.byContradiction h4) h1 h2
  exact ⟨this.1,by omega⟩
theorem z77 {A:Nat→Prop} (h:Sp (PL l) (PU l) A):Avoid (zei l) A:=by
 induction h with
 | one a ha hu =>
  intro a b c d h1 h2 _ _ h3 _ _ _
  have:=hu a h1; have:=hu b h2; omega
 | left B _ _ hl _ _ i1 i2 =>
  intro a b c d ha hb hc hd hab hbc hcd
  have key:∀ x y,_→_→B x→¬ B y→x<y∧zei l x<zei l y:=fun x y h1 h2 h3 h4=>hl x y h1 h3 h2 h4
  by_cases hD:B d
  ·have hC:B c:=Classical.byContradiction fun h=>by have:=key d c hd hc hD h; omega
   have hB:B b:=Classical.byContradiction fun h=>by have:=key d b hd hb hD h; omega
   have hA:B a:=Classical.byContradiction fun h=>by have:=key d a hd ha hD h; omega
   exact i1 a b c d ⟨ha,hA⟩ ⟨hb,hB⟩ ⟨hc,hC⟩ ⟨hd,hD⟩ hab hbc hcd
  by_cases hA:B a
  ·have k1:=key a d ha hd hA hD
   unfold Tight
   by_cases hB:B b
   ·have k2:=key b d hb hd hB hD
    by_cases hC:B c
    ·have k3:=key c d hc hd hC hD; omega
    have k3:=key a c ha hc hA hC; have k4:=key b c hb hc hB hC; omega
   have k2:=key a b ha hb hA hB
   by_cases hC:B c
   ·have k3:=key c b hc hb hC hB; omega
   have k3:=key a c ha hc hA hC; omega
  have hB:¬ B b:=fun h=>by have:=key b a hb ha h hA; omega
  have hC:¬ B c:=fun h=>by have:=key c a hc ha h hA; omega
  exact i2 a b c d ⟨ha,hA⟩ ⟨hb,hB⟩ ⟨hc,hC⟩ ⟨hd,hD⟩ hab hbc hcd
 | up B _ _ hl _ _ i1 i2 =>
  intro a b c d ha hb hc hd hab hbc hcd
  have key:∀ x y,_→_→B x→¬ B y→y<x∧zei l x≤zei l y:=fun x y h1 h2 h3 h4=>by have:=hl x y h1 h3 h2 h4; exact ⟨this.1,by have:=this.2; omega⟩
  by_cases hA:B a
  ·have hB:B b:=Classical.byContradiction fun h=>by have:=key a b ha hb hA h; omega
   have hC:B c:=Classical.byContradiction fun h=>by have:=key a c ha hc hA h; omega
   have hD:B d:=Classical.byContradiction fun h=>by have:=key a d ha hd hA h; omega
   exact i1 a b c d ⟨ha,hA⟩ ⟨hb,hB⟩ ⟨hc,hC⟩ ⟨hd,hD⟩ hab hbc hcd
  by_cases hD:B d
  ·have k1:=key d a hd ha hD hA
   unfold Tight
   by_cases hB:B b
   ·have k2:=key b a hb ha hB hA
    by_cases hC:B c
    ·have k3:=key c a hc ha hC hA; omega
    have k3:=key b c hb hc hB hC; omega
   have k2:=key d b hd hb hD hB
   by_cases hC:B c
   ·have k3:=key c a hc ha hC hA; have k4:=key c b hc hb hC hB; omega
   have k3:=key d c hd hc hD hC; omega
  have hB:¬ B b:=fun h=>by have:=key b d hb hd h hD; omega
  have hC:¬ B c:=fun h=>by have:=key c d hc hd h hD; omega
  exact i2 a b c d ⟨ha,hA⟩ ⟨hb,hB⟩ ⟨hc,hC⟩ ⟨hd,hD⟩ hab hbc hcd
end
end

theorem zev {a b:List UInt8} (h:a.length+b.length≤9223372036854775807):z7m .add a b=some (.str (a++b)):=if_pos h
def zj8 (p:List Txt):Pt:=⟨0,0,p.length,(zad p).length⟩
def yad (p:List Txt):Bool:=zbx p && (zck (zam p) (zj8 p)).isSome
section
def z5s (a b c d:Int):Bool:=(decide (c<a) && decide (a<d) && decide (d<b)) || (decide (b<d) && decide (d<a) && decide (a<c))
theorem zrj {a b c d:Int}:z5s a b c d=true↔Tight a b c d:=by
 unfold z5s Tight
 simp only[Bool.or_eq_true,qB,decide_eq_true_eq,and_assoc]
def Fine (n:Nat) (bad:Nat→Nat→Nat→Nat→Bool):Prop:=∀ x y z w,x<y→y<z→z<w→w<n→bad x y z w=false
def ycg (l:List Int) (x y z w:Nat):Bool:=z5s (zei l x) (zei l y) (zei l z) (zei l w)
section
variable {p:List Txt}
theorem zu6 (hp:zak p=true) {i:Nat} (hi:i<(rP p).length):zei (zcv p) i=xI p i:=zgn (ydh hp hi)
theorem ydi (hp:zak p=true) {i j:Nat} (hi:i<(rP p).length) (hj:j<(rP p).length) (h:xI p i=xI p j):i=j:=by
 obtain ⟨a1,a2,-⟩:=zet hp hi
 obtain ⟨b1,b2,-⟩:=zet hp hj
 unfold xI at h
 have:=zen (below:=false) hp a1 b1 (by omega)
 rw [this]at a2
 omega
theorem zqp {l:List Int}:Fine l.length (ycg l)↔Avoid (zei l) (· < l.length):=by
 constructor
 ·intro h a b c d ha hb hc hd h1 h2 h3 k
  have:=h a b c d h1 h2 h3 hd
  unfold ycg at this
  rw [zrj.2 k]at this; cases this
 intro h x y z w h1 h2 h3 h4
 unfold ycg
 rw [Bool.eq_false_iff]
 intro k
 exact h x y z w (by omega) (by omega) (by omega) h4 h1 h2 h3 (zrj.1 k)
theorem z3q (hp:zak p=true):Fine (zcv p).length (ycg (zcv p))↔yad p=true:=by
 have hn:=zbu (p:=p)
 have hn1:1≤(rP p).length:=by
  have hsm:=zdz (zc0 (zbi hp))
  obtain ⟨row0,h0,hm0⟩:=zag hsm.1
  have hw:=zpg (zc0 (zbi hp)) h0
  rw [← zd7 h0]at hw
  have:=ze5 zb0 (g:=gP p) (i:=0) (j:=0) (nh:=p.length) (nw:=(zad p).length) (n:=(rP p).length) hsm.1 hw
  omega
 rw [zqp]
 have hc:yad p=true↔∃ x,zck (zam p) ⟨0,0,p.length,(zad p).length⟩=some x:=by
  unfold yad zj8
  rw [zbi hp,Bool.true_and,Option.isSome_iff_exists]
 rw [hc,z6t hp]
 constructor
 ·intro h
  refine z5d (zcv p).length 0 (zcv p).length (by omega) (fun i hi=>⟨Nat.zero_le _,hi⟩) ⟨0,by omega⟩ (fun a b ha hb e=>?_) h
  rw [zu6 hp (by omega),zu6 hp (by omega)]at e
  exact ydi hp (by omega) (by omega) e
 exact z77
end
end
def Tm.ok:Tm→Prop
 | .o=>True
 | .un c t=>(c=62∨c=94)∧t.ok
 | .bin m a b=>(m=124∨m=45)∧a.ok∧b.ok
def Tm.n:Tm→Nat
 | .o=>1
 | .un _ t=>t.n
 | .bin _ a b=>a.n+b.n
theorem Tm.pos:∀ t:Tm,1≤t.n
 | .o=>qR _
 | .un _ t=>t.pos
 | .bin _ a b=>by have:=a.pos; simp only[Tm.n]; omega
def Tm.pure:Tm→Prop
 | .o=>True
 | .un _ _=>False
 | .bin m a b=>(m=124∨m=45)∧a.pure∧b.pure
theorem Tm.pure.ok {t:Tm} (h:t.pure):t.ok:=by
 induction t with
 | o=>trivial
 | un c t _=>exact h.elim
 | bin m a b h1 h2=>exact ⟨h.1,h1 h.2.1,h2 h.2.2⟩
def mv (s:UInt8):Tm→Tm
 | .o => .o
 | .un c t => .un c t
 | .bin m a b=>if s=62 then (if m=124 then .bin 45 (mv s a) (mv s b) else .bin 124 (mv s b) (mv s a))
  else if s=94∧m=124 then .bin 124 (mv s b) (mv s a) else .bin m (mv s a) (mv s b)
def td:Tm→Tm
 | .o => .o
 | .un c t=>mv c (td t)
 | .bin m a b => .bin m (td a) (td b)
theorem yay {s:UInt8} {u:Tm} (h:u.pure):(mv s u).pure∧(mv s u).n=u.n:=by
 induction u with
 | o=>exact ⟨trivial,rfl⟩
 | un c t _=>exact h.elim
 | bin m a b h1 h2 =>
  obtain ⟨k1,k2⟩:=h1 h.2.1
  obtain ⟨k3,k4⟩:=h2 h.2.2
  have hm:=h.1
  unfold mv
  repeat' split
  all_goals simp only[Tm.pure,Tm.n,k2,k4]
  all_goals refine ⟨⟨?_,?_,?_⟩,?_⟩
  all_goals first | exact .inl rfl | exact .inr rfl | exact .inr trivial | exact .inl trivial | trivial | assumption | omega
theorem z5n {t:Tm} (h:t.ok):(td t).pure∧(td t).n=t.n:=by
 induction t with
 | o=>exact ⟨trivial,rfl⟩
 | un c t ih =>
  obtain ⟨k1,k2⟩:=ih h.2
  have:=yay (s:=c) k1
  exact ⟨this.1,by rw [td,this.2,k2]; rfl⟩
 | bin m a b h1 h2 =>
  obtain ⟨k1,k2⟩:=h1 h.2.1
  obtain ⟨k3,k4⟩:=h2 h.2.2
  exact ⟨⟨h.1,k1,k3⟩,by simp only[td,Tm.n,k2,k4]⟩
theorem yaz {m:UInt8} {a b:Tm}:mv 62 (.bin m a b)=if m=124 then .bin 45 (mv 62 a) (mv 62 b) else .bin 124 (mv 62 b) (mv 62 a):=by
 conv=>lhs; unfold mv
 rw [if_pos rfl]
theorem yax {m:UInt8} {a b:Tm}:mv 94 (.bin m a b)=if m=124 then .bin 124 (mv 94 b) (mv 94 a) else .bin m (mv 94 a) (mv 94 b):=by
 conv=>lhs; unfold mv
 rw [if_neg (by decide)]
 by_cases e:m=124
 ·rw [if_pos ⟨rfl,e⟩,if_pos e]
 rw [if_neg fun h=>e h.2,if_neg e]
def pm:Tm→List Int
 | .o=>[0]
 | .un _ t=>pm t
 | .bin m a b=>if m=124 then pm a++upL (pm b) (pm a).length else upL (pm b) (pm a).length++pm a
theorem zbe {l:List Int} {k:Nat}:(upL l k).length=l.length:=by simp [upL]
theorem zgj {l:List Int} {k i:Nat}:(upL l k)[i]?=l[i]?.map (· + (k:Int)):=by simp [upL]
def Full (l:List Int):Prop:=(∀ (i:Nat) v,l[i]?=some v→0≤v∧v<l.length)∧∀ v:Nat,v<l.length→∃ i:Nat,l[i]?=some (v:Int)
theorem Full.beside {A B:List Int} (hA:Full A) (hB:Full B):Full (A++upL B A.length):=by
 constructor
 ·intro i v h
  rw [List.length_append,zbe]
  by_cases k:i<A.length
  ·rw [List.getElem?_append_left k]at h
   have:=hA.1 i v h; omega
  rw [List.getElem?_append_right (by omega),zgj,qI]at h
  obtain ⟨w,h,rfl⟩:=h
  have:=hB.1 _ w h; omega
 intro v hv
 rw [List.length_append,zbe]at hv
 by_cases k:v<A.length
 ·obtain ⟨i,hi⟩:=hA.2 v k
  exact ⟨i,by rw [List.getElem?_append_left (zbc hi)]; exact hi⟩
 obtain ⟨i,hi⟩:=hB.2 (v - A.length) (by omega)
 exact ⟨A.length+i,by rw [List.getElem?_append_right (by omega),Nat.add_sub_cancel_left,zgj,hi,qO]; congr 1; omega⟩
theorem Full.under {A B:List Int} (hA:Full A) (hB:Full B):Full (upL B A.length++A):=by
 constructor
 ·intro i v h
  rw [List.length_append,zbe]
  by_cases k:i<B.length
  ·rw [List.getElem?_append_left (by rw [zbe]; exact k),zgj,qI]at h
   obtain ⟨w,h,rfl⟩:=h
   have:=hB.1 _ w h; omega
  rw [List.getElem?_append_right (by rw [zbe]; omega)]at h
  have:=hA.1 _ v h; omega
 intro v hv
 rw [List.length_append,zbe]at hv
 by_cases k:v<A.length
 ·obtain ⟨i,hi⟩:=hA.2 v k
  exact ⟨B.length+i,by rw [List.getElem?_append_right (by rw [zbe]; omega),zbe,Nat.add_sub_cancel_left]; exact hi⟩
 obtain ⟨i,hi⟩:=hB.2 (v - A.length) (by omega)
 exact ⟨i,by rw [List.getElem?_append_left (by rw [zbe]; exact zbc hi),zgj,hi,qO]; congr 1; omega⟩
theorem zes:∀ (u:Tm),Full (pm u)
 | .o=>⟨fun i v h=>by cases i with | zero=>simp [pm]at h; subst h; simp [pm] | succ i=>simp [pm]at h,fun v hv=>⟨0,by simp [pm]at hv ⊢; omega⟩⟩
 | .un _ t=>zes t
 | .bin m a b=>by
  unfold pm
  split
  ·exact (zes a).beside (zes b)
  exact (zes a).under (zes b)
def To (g:Nat→Nat) (l l':List Int):Prop:=l'.length=l.length∧∀ (i:Nat) v,l[i]?=some v→l'[l.length - 1 - v.toNat]?=some ((g i:Nat):Int)
theorem To.uniq {g:Nat→Nat} {l l' l2:List Int} (hl:Full l) (h:To g l l') (k:To g l l2):l'=l2:=by
 apply List.ext_getElem?
 intro i
 by_cases hi:i<l.length
 ·obtain ⟨j,hj⟩:=hl.2 (l.length - 1 - i) (by omega)
  have h1:=h.2 _ _ hj
  have h2:=k.2 _ _ hj
  rw [show l.length - 1 - ((l.length - 1 - i:Nat):Int).toNat=i by omega]at h1 h2
  rw [h1,h2]
 rw [List.getElem?_eq_none (by rw [h.1]; omega),List.getElem?_eq_none (by rw [k.1]; omega)]
theorem ya6 {u:Tm} (h:u.pure):To (fun i=>i) (pm u) (pm (mv 62 u)):=by
 induction u with
 | o=>exact ⟨rfl,fun i v h=>by cases i with | zero=>simp [pm]at h; subst h; rfl | succ i=>simp [pm]at h⟩
 | un c t _=>exact h.elim
 | bin m a b h1 h2 =>
  obtain ⟨a1,a2⟩:=h1 h.2.1
  obtain ⟨b1,b2⟩:=h2 h.2.2
  have fA:=(zes a).1
  have fB:=(zes b).1
  rw [yaz]
  rcases h.1 with rfl | rfl
  ·rw [if_pos rfl,pm,if_pos rfl,pm,if_neg (by decide),a1]
   generalize pm a=A at *
   generalize pm b=B at *
   refine ⟨by simp [zbe,a1,b1]; omega,fun i v hv=>?_⟩
   rw [List.length_append,zbe]
   by_cases k:i<A.length
   ·rw [List.getElem?_append_left k]at hv
    have q:=fA i v hv
    rw [List.getElem?_append_right (by rw [zbe,b1]; omega),zbe,b1,show A.length+B.length - 1 - v.toNat - B.length=A.length - 1 - v.toNat by omega]
    exact a2 i v hv
   rw [List.getElem?_append_right (by omega),zgj,qI]at hv
   obtain ⟨w,hw,rfl⟩:=hv
   have q:=fB _ w hw
   rw [List.getElem?_append_left (by rw [zbe,b1]; omega),zgj,show A.length+B.length - 1 - (w+(A.length:Int)).toNat=B.length - 1 - w.toNat by omega,b2 _ w hw,qO]
   simp only[Option.some.injEq]; omega
  rw [if_neg (by decide),pm,if_neg (by decide),pm,if_pos rfl,b1]
  generalize pm a=A at *
  generalize pm b=B at *
  refine ⟨by simp [zbe,a1,b1],fun i v hv=>?_⟩
  rw [List.length_append,zbe]
  by_cases k:i<B.length
  ·rw [List.getElem?_append_left (by rw [zbe]; exact k),zgj,qI]at hv
   obtain ⟨w,hw,rfl⟩:=hv
   have q:=fB _ w hw
   rw [List.getElem?_append_left (by rw [b1]; omega),show B.length+A.length - 1 - (w+(A.length:Int)).toNat=B.length - 1 - w.toNat by omega,b2 _ w hw]
  rw [List.getElem?_append_right (by rw [zbe]; omega),zbe]at hv
  have q:=fA _ v hv
  rw [List.getElem?_append_right (by rw [b1]; omega),b1,zgj,show B.length+A.length - 1 - v.toNat - B.length=A.length - 1 - v.toNat by omega,a2 _ v hv,qO]
  simp only[Option.some.injEq]; omega
theorem ya5 {u:Tm} (h:u.pure):To (fun i=>(pm u).length - 1 - i) (pm u) (pm (mv 94 u)):=by
 induction u with
 | o=>exact ⟨rfl,fun i v h=>by cases i with | zero=>simp [pm]at h; subst h; rfl | succ i=>simp [pm]at h⟩
 | un c t _=>exact h.elim
 | bin m a b h1 h2 =>
  obtain ⟨a1,a2⟩:=h1 h.2.1
  obtain ⟨b1,b2⟩:=h2 h.2.2
  have fA:=(zes a).1
  have fB:=(zes b).1
  rw [yax]
  rcases h.1 with rfl | rfl
  ·rw [if_pos rfl,pm,if_pos rfl,pm,if_pos rfl,b1]
   generalize pm a=A at *
   generalize pm b=B at *
   refine ⟨by simp [zbe,a1,b1]; omega,fun i v hv=>?_⟩
   rw [List.length_append,zbe]
   by_cases k:i<A.length
   ·rw [List.getElem?_append_left k]at hv
    have q:=fA i v hv
    rw [List.getElem?_append_right (by rw [b1]; omega),b1,zgj,show A.length+B.length - 1 - v.toNat - B.length=A.length - 1 - v.toNat by omega,a2 i v hv,qO]
    simp only[Option.some.injEq]; omega
   rw [List.getElem?_append_right (by omega),zgj,qI]at hv
   obtain ⟨w,hw,rfl⟩:=hv
   have q:=fB _ w hw
   have:=zbc hw
   rw [List.getElem?_append_left (by rw [b1]; omega),show A.length+B.length - 1 - (w+(A.length:Int)).toNat=B.length - 1 - w.toNat by omega,b2 _ w hw]
   simp only[Option.some.injEq]; omega
  rw [if_neg (by decide),pm,if_neg (by decide),pm,if_neg (by decide),a1]
  generalize pm a=A at *
  generalize pm b=B at *
  refine ⟨by simp [zbe,a1,b1],fun i v hv=>?_⟩
  rw [List.length_append,zbe]
  by_cases k:i<B.length
  ·rw [List.getElem?_append_left (by rw [zbe]; exact k),zgj,qI]at hv
   obtain ⟨w,hw,rfl⟩:=hv
   have q:=fB _ w hw
   rw [List.getElem?_append_left (by rw [zbe,b1]; omega),zgj,show B.length+A.length - 1 - (w+(A.length:Int)).toNat=B.length - 1 - w.toNat by omega,b2 _ w hw,qO]
   simp only[Option.some.injEq]; omega
  rw [List.getElem?_append_right (by rw [zbe]; omega),zbe]at hv
  have q:=fA _ v hv
  have:=zbc hv
  rw [List.getElem?_append_right (by rw [zbe,b1]; omega),zbe,b1,show B.length+A.length - 1 - v.toNat - B.length=A.length - 1 - v.toNat by omega,a2 _ v hv]
  simp only[Option.some.injEq]; omega
theorem z7r (u:Tm) (h:u.pure):Fine (pm u).length (ycg (pm u)):=by
 rw [zqp]
 induction u with
 | o =>
  intro a b c d ha hb hc hd h1 h2 h3
  simp [pm]at hd; omega
 | un c t _=>exact h.elim
 | bin m a b h1 h2 =>
  have i1:=h1 h.2.1
  have i2:=h2 h.2.2
  have fA:=(zes a).1
  have fB:=(zes b).1
  unfold pm
  split
  ·generalize pm a=A at *
   generalize pm b=B at *
   have gl:∀ i,i<A.length→zei (A++upL B A.length) i=zei A i∧0≤zei A i∧zei A i<A.length:=by
    intro i hi
    obtain ⟨v,hv,-⟩:=zag hi
    rw [zgn hv,zgn (x:=v) (by rw [List.getElem?_append_left hi]; exact hv)]
    exact ⟨rfl,fA i v hv⟩
   have gr:∀ i,A.length≤i→i<A.length+B.length→zei (A++upL B A.length) i=zei B (i - A.length)+A.length∧0≤zei B (i - A.length):=by
    intro i hi hi2
    obtain ⟨v,hv,-⟩:=zag (show i - A.length<B.length by omega)
    rw [zgn hv,zgn (x:=v+A.length) (by rw [List.getElem?_append_right hi,zgj,hv]; rfl)]
    exact ⟨rfl,(fB _ v hv).1⟩
   intro x y z w hx hy hz hw h1 h2 h3 ht
   rw [List.length_append,zbe]at hx hy hz hw
   by_cases k1:x<A.length
   ·by_cases k4:w<A.length
    ·have q:=i1 x y z w k1 (by omega) (by omega) k4 h1 h2 h3
     rw [(gl x k1).1,(gl y (by omega)).1,(gl z (by omega)).1,(gl w k4).1]at ht
     exact q ht
    have e1:=gl x k1
    have e4:=gr w (by omega) hw
    unfold Tight at ht
    by_cases k2:y<A.length
    ·have e2:=gl y k2
     by_cases k3:z<A.length
     ·have e3:=gl z k3; omega
     have e3:=gr z (by omega) (by omega); omega
    have e2:=gr y (by omega) (by omega)
    have e3:=gr z (by omega) (by omega); omega
   have q:=i2 (x - A.length) (y - A.length) (z - A.length) (w - A.length) (by omega) (by omega) (by omega) (by omega) (by omega) (by omega) (by omega)
   rw [(gr x (by omega) hx).1,(gr y (by omega) hy).1,(gr z (by omega) hz).1,(gr w (by omega) hw).1]at ht
   refine q ?_
   unfold Tight at ht ⊢
   omega
  generalize pm a=A at *
  generalize pm b=B at *
  have gr:∀ i,B.length≤i→i<B.length+A.length→zei (upL B A.length++A) i=zei A (i - B.length)∧0≤zei A (i - B.length)∧zei A (i - B.length)<A.length:=by
   intro i hi hi2
   obtain ⟨v,hv,-⟩:=zag (show i - B.length<A.length by omega)
   rw [zgn hv,zgn (x:=v) (by rw [List.getElem?_append_right (by rw [zbe]; exact hi),zbe]; exact hv)]
   exact ⟨rfl,fA _ v hv⟩
  have gl:∀ i,i<B.length→zei (upL B A.length++A) i=zei B i+A.length∧0≤zei B i:=by
   intro i hi
   obtain ⟨v,hv,-⟩:=zag hi
   rw [zgn hv,zgn (x:=v+A.length) (by rw [List.getElem?_append_left (by rw [zbe]; exact hi),zgj,hv]; rfl)]
   exact ⟨rfl,(fB _ v hv).1⟩
  intro x y z w hx hy hz hw h1 h2 h3 ht
  rw [List.length_append,zbe]at hx hy hz hw
  by_cases k1:x<B.length
  ·by_cases k4:w<B.length
   ·have q:=i2 x y z w k1 (by omega) (by omega) k4 h1 h2 h3
    rw [(gl x k1).1,(gl y (by omega)).1,(gl z (by omega)).1,(gl w k4).1]at ht
    refine q ?_
    unfold Tight at ht ⊢
    omega
   have e1:=gl x k1
   have e4:=gr w (by omega) hw
   unfold Tight at ht
   by_cases k2:y<B.length
   ·have e2:=gl y k2
    by_cases k3:z<B.length
    ·have e3:=gl z k3; omega
    have e3:=gr z (by omega) (by omega); omega
   have e2:=gr y (by omega) (by omega)
   have e3:=gr z (by omega) (by omega); omega
  have q:=i1 (x - B.length) (y - B.length) (z - B.length) (w - B.length) (by omega) (by omega) (by omega) (by omega) (by omega) (by omega) (by omega)
  rw [(gr x (by omega) hx).1,(gr y (by omega) hy).1,(gr z (by omega) hz).1,(gr w (by omega) hw).1]at ht
  exact q ht
section
def zrw (p:List Txt):List (List Int):=bgT (fun r w=>gz (gP p) r ((zad p).length - 1 - w)) (zad p).length p.length
section
variable {p t:List Txt} {σ:Nat→Nat}
theorem zoi (hp:zak p=true):Made (tr (fl (tr (cn (gP p))) (zad p).length)) p.length (zad p).length (zrw p):=by
 obtain ⟨q1,q2,q3,q4,-,-,q7,q8⟩:=zai hp
 exact zox (zka q1 q2 q3 q4 fun i j hi hj=>q8 i ((zad p).length - 1 - j) hi (by omega)) (fun i j hi hj=>ze5 zb0 hi (by omega)) q7 (zbv hp).ex.dn.ex
theorem Iso.perm_flip (h:Iso p t (fun a b=>Lf p b a) (Ab p) σ) (hp:zak p=true) {a:Nat} (ha:a<(rP p).length):(zcv t)[(rP p).length - 1 - ahK p false a]?=some (((rP p).length - 1 - ahK p true a:Nat):Int):=by
 have e1:∀ a,a<(rP p).length→ahK t false (σ a)=(rP p).length - 1 - ahK p true a:=h.ah_rev hp fun x y hx hy=>by
  rw [zdu,zdu,h.lf x y hx hy]
  simp only[qF,if_false,if_true,h.ab _ _ hx hy]
 have e2:∀ a,a<(rP p).length→ahK t true (σ a)=(rP p).length - 1 - ahK p false a:=h.ah_rev hp fun x y hx hy=>by
  rw [zdu,zdu,h.lf x y hx hy]
  simp only[qF,if_false,if_true,h.ab _ _ hy hx]
 rw [← e2 a ha,zcz h.pl (by rw [h.n]; exact h.lt a ha),e1 a ha]
theorem ybv (hp:zak p=true):zak (nm (zl8 p))=true∧(rP (nm (zl8 p))).length=(rP p).length∧To (fun i=>i) (zcv p) (zcv (nm (zl8 p))):=by
 have hm:=zif hp
 obtain ⟨σ,-,hI⟩:=z67 hp hm.plan hm.ren
 refine ⟨hI.pl,hI.n,by rw [zbu,zbu,hI.n],fun i v hv=>?_⟩
 have hi:=zbc hv
 rw [zbu]at hi ⊢
 obtain ⟨a,ha,rfl⟩:=zss hp hi
 rw [zcz hp ha]at hv
 cases hv
 exact hI.perm_turn hp ha
theorem yal (hp:zak p=true):zak (nm (zrw p))=true∧(rP (nm (zrw p))).length=(rP p).length∧To (fun i=>(rP p).length - 1 - i) (zcv p) (zcv (nm (zrw p))):=by
 have hm:=zoi hp
 obtain ⟨σ,-,hI⟩:=z66 hp hm.plan hm.ren
 refine ⟨hI.pl,hI.n,by rw [zbu,zbu,hI.n],fun i v hv=>?_⟩
 have hi:=zbc hv
 rw [zbu]at hi ⊢
 obtain ⟨a,ha,rfl⟩:=zss hp hi
 rw [zcz hp ha]at hv
 cases hv
 exact hI.perm_flip hp ha
end
def zjq (m:UInt8) (p q:List Txt):Option (List Txt) :=
 if m=124 then (if p.length+q.length - 1≤6∧(zad p).length+(zad q).length≤6 then some (nm (zv2 p q)) else none)
 else if p.length+q.length≤6∧(zad p).length+(zad q).length - 1≤6 then some (nm (zpv p q)) else none
def zbp:Tm→Option (List Txt)
 | .o=>some [[97]]
 | .un c t=>(zbp t).map fun p=>nm (if c=62 then zl8 p else zrw p)
 | .bin m a b=>(zbp a).bind fun p=>(zbp b).bind fun q=>zjq m p q
theorem z7p:zak [[97]]=true∧(rP [[97]]).length=1∧zcv [[97]]=[0]:=by
 refine ⟨by decide +kernel,by decide +kernel,by decide +kernel⟩
theorem ze3 {t:Tm} (h:t.ok) (h9:t.n≤9):∀ {p:List Txt},zbp t=some p→zak p=true∧(rP p).length=t.n∧zcv p=pm (td t):=by
 induction t with
 | o=>intro p e; cases e; exact z7p
 | un c t ih =>
  intro p e
  simp only[zbp,qI]at e
  obtain ⟨q,hq,rfl⟩:=e
  obtain ⟨k1,k2,k3⟩:=ih h.2 h9 hq
  have hpu:=(z5n h.2).1
  rcases h.1 with rfl | rfl
  ·rw [if_pos rfl]
   obtain ⟨j1,j2,j3⟩:=ybv k1
   refine ⟨j1,by rw [j2,k2]; rfl,?_⟩
   have:=ya6 hpu
   rw [k3]at j3
   exact j3.uniq (zes _) this
  rw [if_neg (by decide)]
  obtain ⟨j1,j2,j3⟩:=yal k1
  refine ⟨j1,by rw [j2,k2]; rfl,?_⟩
  have:=ya5 hpu
  rw [k3,← zbu (p:=q),k3]at j3
  exact j3.uniq (zes _) this
 | bin m a b h1 h2 =>
  intro p e
  simp only[zbp,Option.bind_eq_some_iff]at e
  obtain ⟨x,hx,y,hy,e⟩:=e
  have pa:=a.pos
  have pb:=b.pos
  simp only[Tm.n]at h9
  obtain ⟨k1,k2,k3⟩:=h1 h.2.1 (by omega) hx
  obtain ⟨j1,j2,j3⟩:=h2 h.2.2 (by omega) hy
  unfold zjq at e
  rcases h.1 with rfl | rfl
  ·rw [if_pos rfl]at e
   split at e
   ·rename_i hf
    cases e
    obtain ⟨l1,l2,l3⟩:=z94 k1 j1 hf.1 hf.2 (by omega)
    exact ⟨l1,by rw [l2,k2,j2]; rfl,by rw [l3,td,pm,if_pos rfl,← k3,← j3,zbu]⟩
   cases e
  rw [if_neg (by decide)]at e
  split at e
  ·rename_i hf
   cases e
   obtain ⟨l1,l2,l3⟩:=z98 k1 j1 hf.1 hf.2 (by omega)
   exact ⟨l1,by rw [l2,k2,j2]; rfl,by rw [l3,td,pm,if_neg (by decide),← k3,← j3,zbu]⟩
  cases e
theorem ydx:∀ (f:Nat) {s:Txt} {t:Tm} {r:Txt},rd f s=some (t,r)→t.ok∧t.n+r.count 111=s.count 111:=by
 intro f
 induction f with
 | zero=>intro s t r h; simp [rd]at h
 | succ f ih =>
  intro s t r h
  cases s with
  | nil=>simp [rd]at h
  | cons c s =>
   simp only[rd]at h
   split at h
   ·rename_i e
    cases h; subst e
    exact ⟨trivial,by simp [Tm.n]; omega⟩
   rename_i ne
   have hc:(c::s).count 111=s.count 111:=List.count_cons_of_ne ne
   rw [hc]
   split at h
   ·rename_i hcc
    split at h
    ·rename_i t' r' e
     cases h
     obtain ⟨h1,h2⟩:=ih e
     exact ⟨⟨hcc,h1⟩,h2⟩
    cases h
   split at h
   ·split at h
    ·rename_i a m r1 e
     obtain ⟨h1,h2⟩:=ih e
     split at h
     ·rename_i hm
      split at h
      ·rename_i b e2 r2 e3
       obtain ⟨h3,h4⟩:=ih e3
       split at h
       ·rename_i he
        cases h
        subst he
        rw [List.count_cons_of_ne (by decide)]at h4
        rw [List.count_cons_of_ne (by rcases hm with rfl | rfl <;> decide)]at h2
        exact ⟨⟨hm,h1,h3⟩,by simp only[Tm.n]; omega⟩
       cases h
      cases h
     cases h
    cases h
   cases h
def ofT (s:Txt):Option Tm:=if s.length>60∨s.count 111>7 then none else match rd (s.length+1) s with
 | some (t,[])=>some t
 | _=>none
theorem zum {s:Txt} {t:Tm} (h:ofT s=some t):t.ok∧t.n≤7∧s.length≤60∧s.count 111≤7∧rd (s.length+1) s=some (t,[]):=by
 unfold ofT at h
 split at h
 ·cases h
 rename_i hc
 split at h
 ·rename_i t' e
  cases h
  obtain ⟨h1,h2⟩:=ydx _ e
  simp only[List.count_nil]at h2
  exact ⟨h1,by omega,by omega,by omega,e⟩
 cases h
theorem z7e {s:Txt} {t:Tm} (h:ofT s=some t) (hl:s.length≤59):ofT (62::s)=some (.un 62 t):=by
 obtain ⟨h1,h2,h3,h4,h5⟩:=zum h
 unfold ofT
 rw [if_neg (by rw [List.count_cons_of_ne (by decide),List.length_cons]; omega),List.length_cons]
 rw [show rd (s.length+1+1) (62::s)=some (.un 62 t,[]) by rw [rd,if_neg (by decide),if_pos (.inl rfl),h5]]
def tpV (s:Txt):Option (List Txt):=(ofT s).bind zbp
theorem z9r {s:Txt} {p:List Txt} (h:tpV s=some p):∃ t,ofT s=some t∧zbp t=some p∧zak p=true∧(rP p).length≤7∧zcv p=pm (td t)∧yad p=true:=by
 unfold tpV at h
 rw [Option.bind_eq_some_iff]at h
 obtain ⟨t,h1,h2⟩:=h
 obtain ⟨k1,k2,-⟩:=zum h1
 obtain ⟨j1,j2,j3⟩:=ze3 k1 (by omega) h2
 refine ⟨t,h1,h2,j1,by omega,j3,(z3q j1).1 ?_⟩
 rw [j3]
 exact z7r _ (z5n k1).1
theorem z8c {s:Txt} {p:List Txt} (h:tpV s=some p) (hl:s.length≤59):tpV (62::s)=some (nm (zl8 p)):=by
 obtain ⟨t,h1,h2,-⟩:=z9r h
 unfold tpV
 rw [z7e h1 hl,Option.bind_some,zbp,h2,qO,if_pos rfl]
end
section
section
variable {P:Program} {T:Tab} {F:Nat→Prop} {G:GSt} {w:World} {e:Env} {a:Act} {F0:Nat→Prop} {G0:GSt} {w0:World} {N:Nat}
end
section
variable {P:Program} {T:Tab} {Q:Exit→Env→Store→Prop} {e:Env} {S:Store} {b:Code}
end
end
abbrev eBy (l:Txt):PV := .sl (l.map eB) l.length
theorem zxg {a b:Nat}:((a:Nat):Int).tmod ((b:Nat):Int)=((a % b:Nat):Int):=(Int.ofNat_tmod a b).symm
theorem ybs {a b:Nat}:((a:Nat):Int).tdiv ((b:Nat):Int)=((a / b:Nat):Int):=(Int.ofNat_tdiv a b).symm
theorem yd4 {a b:Nat} (ha:a<1099511627776) (hb:b<1099511627776):IntKind.i64.wrap ((BitVec.ofInt IntKind.i64.bits (a:Int) ^^^ BitVec.ofInt IntKind.i64.bits (b:Int)).toNat:Int)=((a ^^^ b:Nat):Int):=by
 have h1:(BitVec.ofInt 64 (a:Int)).toNat=a:=by simp [BitVec.toNat_ofInt]; omega
 have h2:(BitVec.ofInt 64 (b:Int)).toNat=b:=by simp [BitVec.toNat_ofInt]; omega
 have h3:(BitVec.ofInt IntKind.i64.bits (a:Int) ^^^ BitVec.ofInt IntKind.i64.bits (b:Int)).toNat=a ^^^ b:=by
  show (BitVec.ofInt 64 (a:Int) ^^^ BitVec.ofInt 64 (b:Int)).toNat=_
  rw [BitVec.toNat_xor,h1,h2]
 have h4:a ^^^ b<1099511627776:=Nat.xor_lt_two_pow (n:=40) ha hb
 rw [h3]
 exact w64 (by omega) (by omega)
theorem yda {k:Nat}:((k:Nat):Int).tdiv 64=((k / 64:Nat):Int):=(Int.ofNat_tdiv k 64).symm
theorem sf0:((64:Int)=0)=False:=by simp
def rdO (vr:Nat) (code:Txt) (q:Nat):Ob := .arr vr 131 2 [eBy code,.int .i64 (q:Int)]
theorem z3i {code:Txt} (hc:code.length≤1048576):PN Tryz.prog 43 [eBy code] (.ref 0 0 0) [rdO 0 (code.take 2000) 0] true:=by
 refine PN.of ⟨Tryz.func43,by kernel_rfl,rfl,by kernel_rfl⟩ zav mixed (by show 1≤Tryz.f43.ntmps; decide) ?_
 refine W.r fun K hK=>?_
 simp(disch:=omega)only[↓RU,RV,RH,↓reduceIte,qE,reduceCtorEq,if_pos,↓RS,RG,qA,qM,qL]
 apply hK;clear hK K
 refine W.seq ?_
 refine W.r fun K hK=>?_
 simp(disch:=omega)only[↓RU,RV,RH,↓reduceIte,qE,reduceCtorEq,if_pos,w64,↓RS,RG,qA,qM,qL,ty6,zaa,za0]
 apply hK;clear hK K
 refine W.cond rfl (fun h=>?_) (fun h=>?_)
 ·try simp only[RL]at h
  refine W.k fun K hK=>?_
  simp(disch:=omega)only[↓RU,RV,RH,↓reduceIte,qE,reduceCtorEq,if_pos,Option.map_none,↓RS,RG,qA,qM,qL,ty6,za0]
  apply hK;clear hK K
  refine xn ?_
  refine W.r fun K hK=>?_
  simp(disch:=omega)only[↓RU,RV,RH,↓reduceIte,qE,reduceCtorEq,if_pos,↓RS,RG,qA,qM,qL,ty6,zaa,z8g,z8h,za0]
  apply hK;clear hK K
  refine W.ret ?_
  refine Br rfl ?_
  have e:(code.take 2000).length=2000:=by rw [List.length_take]; omega
  refine ⟨1,rfl,?_⟩
  simp [Store.take,zp4,z1m,sh,rdO,eBy,e,List.map_take]
 try simp only[RL]at h
 refine W.skip ?_
 refine xn ?_
 refine W.r fun K hK=>?_
 simp(disch:=omega)only[↓RU,RV,RH,↓reduceIte,qE,reduceCtorEq,if_pos,↓RS,RG,qA,qM,qL,ty6,zaa,z8g,z8h,za0]
 apply hK;clear hK K
 refine W.ret ?_
 refine Br rfl ?_
 have e:code.take 2000=code:=qT (by omega)
 refine ⟨1,rfl,?_⟩
 simp [Store.take,zp4,z1m,sh,rdO,eBy,e]
theorem z7n {code:Txt} {q vr t:Nat} {R:List Ob} (hc:code.length≤1048576) (hq:q≤1000000) (n:Int) (hn:n≤1000000) (hn0 : -1000000≤n):Ev Tryz.prog 99 [.ref 0 vr 0,.int .i64 n] ⟨.arr vr 131 2 [eBy code,.int .i64 (q:Int)]::R,t⟩ fun v S=>∃ k:Nat,v = .int .i64 (k:Int)∧(n<1→k=0)∧(1≤n→(k:Int)<n)∧S=⟨.arr vr 131 2 [eBy code,.int .i64 ((q:Int)+1)]::R,t⟩:=by
 refine Ev.of ⟨Tryz.func99,by kernel_rfl,rfl,by kernel_rfl⟩ zav mixed (by show 2≤Tryz.f99.ntmps; decide) ?_
 refine W.r fun K hK=>?_
 simp(disch:=omega)only[↓RU,RV,RH,↓reduceIte,qE,reduceCtorEq,if_pos,↓RS,RG,qA,qM,qL]
 apply hK;clear hK K
 refine W.r fun K hK=>?_
 simp(disch:=omega)only[↓RU,RV,RH,↓reduceIte,qE,reduceCtorEq,if_pos,w64,↓RS,RG,qA,qM,qL,ty6,zaa,z8g,z8h,za0]
 apply hK;clear hK K
 refine W.seq ?_
 refine W.r fun K hK=>?_
 by_cases hn1:n<1
 ·skip
  have hd:decide (n<1)=true:=decide_eq_true hn1
  simp(disch:=omega)only[↓RU,RV,RH,↓reduceIte,qE,reduceCtorEq,if_pos,w64,↓RS,RG,qA,qM,qL,ty6,zaa,z8g,z8h,za0,hd]
  apply hK;clear hK K
  refine W.cond rfl (fun h0=>?_) (fun h0=>?_)
  ·try simp only[RL]at h0
   refine W.r fun K hK=>?_
   simp(disch:=omega)only[↓RU,RV,RH,↓reduceIte,qE,reduceCtorEq,if_pos,↓RS,RG,qA,qM,qL]
   apply hK;clear hK K
   refine W.ret ?_
   refine XThen.ret ?_
   refine Br rfl ?_
   exact ⟨_,0,rfl,fun _=>rfl,fun h9=>by omega,zbd⟩
  try simp only[RL]at h0
  exact absurd h0 (by simp)
 skip
 have hd:decide (n<1)=false:=decide_eq_false hn1
 obtain ⟨m,rfl⟩:∃ m:Nat,n=m:=⟨n.toNat,by omega⟩
 simp(disch:=omega)only[↓RU,RV,RH,↓reduceIte,qE,reduceCtorEq,if_pos,w64,↓RS,RG,qA,qM,qL,ty6,zaa,z8g,z8h,za0,hd]
 apply hK;clear hK K
 refine W.cond rfl (fun h0=>?_) (fun h0=>?_)
 ·try simp only[RL]at h0
  have hl0:code.length=0:=by simpa using h0
  refine W.r fun K hK=>?_
  simp(disch:=omega)only[↓RU,RV,RH,↓reduceIte,qE,reduceCtorEq,if_pos,↓RS,RG,qA,qM,qL]
  apply hK;clear hK K
  refine W.ret ?_
  refine XThen.ret ?_
  refine Br rfl ?_
  exact ⟨_,0,rfl,fun _=>rfl,fun h9=>by omega,zbd⟩
 try simp only[RL]at h0
 have hl0:code.length≠0:=by intro h9; rw [h9]at h0; simp at h0
 obtain ⟨L,hL⟩:∃ L:Nat,code.length=L:=⟨_,rfl⟩
 have hLi:((L:Int)=0)=False:=by simp; omega
 have hmi:((m:Int)=0)=False:=by simp; omega
 rw [hL]at hl0 hc
 refine W.skip ?_
 refine xn ?_
 refine W.r fun K hK=>?_
 simp(disch:=omega)only[↓RU,RV,RH,↓reduceIte,qE,reduceCtorEq,if_pos,w64,↓RS,RG,qA,qM,qL,ty6,zaa,z8g,z8h,za0]
 apply hK;clear hK K
 simp only[show ((q:Int)+1 - 1)=(q:Int) from by omega]
 refine W.seq ?_
 refine W.r fun K hK=>?_
 simp(disch:=omega)only[↓RU,RV,RH,↓reduceIte,qE,reduceCtorEq,if_pos,w64,↓RS,RG,qA,qM,qL,ty6,zaa,z8g,z8h,za0,hL]
 apply hK;clear hK K
 refine W.cond rfl (fun h1=>?_) (fun h1=>?_)
 ·try simp only[RL]at h1
  obtain ⟨c,hcq,-⟩:=zag (show q<code.length by omega)
  have hc8:=c.toNat_lt
  refine W.r fun K hK=>?_
  simp(disch:=omega)only[↓RU,RV,RH,↓reduceIte,qE,reduceCtorEq,if_pos,w64,w64,↓RS,RG,qA,qM,qL,ty6,zaa,z8g,z8h,za0,hcq,hmi,zxg]
  apply hK;clear hK K
  refine W.ret ?_
  refine XThen.ret ?_
  refine Br rfl ?_
  exact ⟨_,_,rfl,fun h9=>by omega,fun _=>by have:=Nat.mod_lt c.toNat (show 0<m by omega); omega,zbd⟩
 try simp only[RL]at h1
 obtain ⟨c1,hc1,-⟩:=zag (show q % L<code.length by rw [hL]; exact Nat.mod_lt _ (by omega))
 obtain ⟨c2,hc2,-⟩:=zag (show (q*7+3) % L<code.length by rw [hL]; exact Nat.mod_lt _ (by omega))
 have hb1:=c1.toNat_lt
 have hb2:=c2.toNat_lt
 have hq7:(q:Int)*7+3=((q*7+3:Nat):Int):=by omega
 obtain ⟨d,hd⟩:∃ d,q / L=d:=⟨_,rfl⟩
 have hqL:d≤q:=hd ▸ Nat.div_le_self _ _
 have hml1:=Nat.mod_lt q (show 0<L by omega)
 have hml2:=Nat.mod_lt (q*7+3) (show 0<L by omega)
 refine W.skip ?_
 refine xn ?_
 refine W.seq_draw (by kernel_rfl) fun K hK=>?_
 simp(disch:=omega)only[↓RU,RV,RH,↓reduceIte,qE,reduceCtorEq,if_pos,w64,w64,↓RS,RG,qA,qM,qL,ty6,zaa,z8g,z8h,za0,hL,hLi,zxg,ybs,hc1,hc2,hq7,hd]
 apply hK;clear hK K
 obtain ⟨Y,hY⟩:∃ Y:Nat,(c1.toNat:Int)*131+(c2.toNat:Int)*1117+(q:Int)*29+(d:Int)*53=Y:=⟨c1.toNat*131+c2.toNat*1117+q*29+d*53,by omega⟩
 have hYb:Y<1099511627776:=by omega
 have hYd:Y / 64<1099511627776:=by omega
 simp only[hY]
 refine W.r fun K hK=>?_
 simp(disch:=omega)only[↓RU,RV,RH,↓reduceIte,qE,reduceCtorEq,if_pos,w64,↓RS,RG,qA,qM,qL,zaa,sf0,yda,yd4 hYb hYd]
 apply hK;clear hK K
 refine W.r fun K hK=>?_
 simp(disch:=omega)only[↓RU,RV,RH,↓reduceIte,qE,reduceCtorEq,if_pos,w64,↓RS,RG,qA,qM,qL,zaa,hmi,zxg]
 apply hK;clear hK K
 refine W.ret ?_
 refine Br rfl ?_
 exact ⟨_,_,rfl,fun h9=>by omega,fun _=>by have:=Nat.mod_lt (Y ^^^ Y / 64) (show 0<m by omega); omega,zbd⟩
end Fw
end Go.Proofs.YtcfgpmeebpinaaaGreat
