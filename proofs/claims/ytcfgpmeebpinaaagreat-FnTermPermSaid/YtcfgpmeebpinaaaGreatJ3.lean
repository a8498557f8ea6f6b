/- Parts of the framework and of the proof: The program's direct orders are the specification's; Sums and counts of cells; The least rectangle around cells, by the program; The least rectangle around a room and its cells, by the specification; Plans that are read are the specification's: grids and names; Plans that are read are the specification's: numbers of rooms and rectangles; Plans that are read are the specification's: rooms fill their rectangles; Areas by the program are the specification's; Areas by the program are the specification's, joined; Arguments of laws as plain data; A slice of bytes as an argument: plain data; What holds of all arguments holds of frozen ones; The framework: what a call leaves is frozen from some object on; a call freezes all that there is; strings.Count of one sign, in the model's own words; Terms: how a text is read, by the specification and by the program; Plans in which no four rooms meet: two orders of rooms go on without end, and each two rooms are in one; Two plans side by side, each stretched where they meet; The program's closures and walls in words of cells: left of is going on from just left of, above is going on from just above; Orders of a plain plan: each two rooms are in just one; Where rooms begin and how far they may be moved: the program's lists are the specification's; Shapes in plain words: the program's least shapes are the specification's; Sizes in plain words: areas, places, slacks, longest rows; Grids whose cells are alike are numbered alike; the text of a numbered grid is named as it should be; Orders of plans that are made of other plans: rows and columns exchanged, turned, seen from behind, made wide or tight; Rooms put in a row by how many are ahead of them; The two orders are orders of all rooms; the places of the second order in the first one; What the laws of sizes ask, of plans in plain words; Longest rows of rooms, as the specification finds them, in plain words; Longest growing parts of the permutation of a plan are longest rows of its rooms; Plans that are made of other plans: their orders, their permutations and their least sizes; Upright cuts are where the permutation falls apart; Two plans side by side: their orders; Two plans side by side: their orders are those of each, and the first one's rooms are left of the second one's; Grids that are made of cells told by a function, gone through; Plans made of plans, gone through; Rooms of two plans put together, beside each other or one below the other: the permutation; Plans made of two plans beside each other or one below the other, each stretched where they meet; Cut trees: parts of plans, their first cuts, and the tree of all; Parts of plans as texts: the specification's cut and its parts; Parts of plans in the program: the rooms of a part, its lines, its cut; Cut trees, gone down; what is told along them; Cuts and orders: what lies on the two sides of a cut; widths along cuts are least widths. -/
import Derived.Test.YtcfgpmeebpinaaaGreatJ2
import Derived.Test.YtcfgpmeebpinaaaGreatRows
import Derived.ProofKit
import Derived.SliceStrings
import Derived.Test.YtcfgpmeebpinaaaGreatJ1
import Derived.Lib.Bytealg
import Derived.Lib.Walk
import Derived.WalkKit
import Derived.Laws.Externs
set_option linter.all false
namespace Go.Proofs.YtcfgpmeebpinaaaGreat
namespace Fw
open Go
open Nat renaming reduceEqDiff → qE, reduceLeDiff → qL, reduceAdd → qA, reduceMul → qM, le_refl → qR
open List renaming append_nil → qN, mapM_append → qP, mapM_cons → qC, mapM_map → qU, range_succ → qS, take_of_length_le → qT
open Bool renaming and_eq_true → qB, false_eq_true → qF
open Option renaming map_some → qO, map_eq_some_iff → qI
open Int renaming reduceToNat → qZ
theorem Same.orBit {n:Nat} {M:List (List Bool)} {ms:List Nat} (h:Same n M ms) {a b:Nat} (ha:a<n) (hb:b<n):Same n (z11 M a b true) (orBit ms a b):=by
 obtain ⟨h1,h2,h3⟩:=h
 obtain ⟨m,hm,-⟩:=zai (show a<ms.length by omega)
 rw [z7y hm]
 refine ⟨h1.set ha,by simp [h2],fun x y hx hy=>?_⟩
 rw [zkm h1 ha hb,zs9 (by omega)]
 by_cases hxa:x=a
 ·subst hxa
  rw [if_pos rfl,Nat.testBit_or,Nat.testBit_two_pow,h3 x y hx hy,znc hm]
  by_cases hyb:y=b
  ·subst hyb; simp
  rw [if_neg (fun h=>hyb h.2),decide_eq_false (fun h=>hyb h.symm),Bool.or_false]
 rw [if_neg (fun h=>hxa h.1),if_neg hxa,h3 x y hx hy]
def Rm (n:Nat) (l:List Int):Prop:=∀ x∈l,0≤x∧x<n
theorem Same.relB {n:Nat} {a:Int} (ha:0≤a∧a<n):∀ {bs:List Int} {M:List (List Bool)} {ms:List Nat},Rm n bs→Same n M ms→Same n (relB a bs M) (yd8 a.toNat ms bs)
 | [],_,_,_,h=>h
 | b::bs,M,ms,hb,h=>by
  have hb0:=hb b (by simp)
  exact Same.relB ha (bs:=bs) (fun x hx=>hb x (by simp [hx])) (h.orBit (by omega) (by omega))
theorem Same.relW {n:Nat} {bs:List Int} (hb:Rm n bs):∀ {la:List Int} {M:List (List Bool)} {ms:List Nat},Rm n la→Same n M ms→Same n (relW M la bs) (yd7 bs ms la)
 | [],_,_,_,h=>h
 | a::la,M,ms,ha,h=>Same.relW hb (la:=la) (fun x hx=>ha x (by simp [hx])) (h.relB (ha a (by simp)) hb)
theorem Same.empty {n:Nat}:Same n (zbj n) (List.replicate n 0):=by
 refine ⟨zdy n,by simp,fun a b ha hb=>?_⟩
 simp [zb9,zbj,zrk,ha,hb]
def sN:Nat→(Nat→Nat)→Nat
 | 0,_=>0
 | n+1,f=>sN n f+f n
theorem zdw {f g:Nat→Nat}:∀ {n:Nat},(∀ i,i<n→f i=g i)→sN n f=sN n g
 | 0,_=>rfl
 | n+1,h=>by rw [sN,sN,zdw (n:=n) fun i hi=>h i (by omega),h n (by omega)]
theorem z10 {f g:Nat→Nat}:∀ {n:Nat},(∀ i,i<n→f i≤g i)→sN n f≤sN n g
 | 0,_=>qR _
 | n+1,h=>by
  have:=z10 (n:=n) fun i hi=>h i (by omega)
  have:=h n (by omega)
  simp only[sN]; omega
theorem z8p {f g:Nat→Nat}:∀ {n:Nat},(∀ i,i<n→f i≤g i)→sN n f=sN n g→∀ i,i<n→f i=g i
 | 0,_,_,i,hi=>by omega
 | n+1,h,e,i,hi=>by
  have h1:=z10 (n:=n) fun i hi=>h i (by omega)
  have h2:=h n (by omega)
  simp only[sN]at e
  by_cases hin:i=n
  ·subst hin; omega
  exact z8p (n:=n) (fun i hi=>h i (by omega)) (by omega) i (by omega)
theorem zpe:∀ n,sN n (fun _=>0)=0
 | 0=>rfl
 | n+1=>by rw [sN,zpe n]
theorem zzy:∀ n,sN n (fun _=>1)=n
 | 0=>rfl
 | n+1=>by rw [sN,zzy n]
theorem zzx (c:Nat):∀ n,sN n (fun _=>c)=n*c
 | 0=>by simp [sN]
 | n+1=>by rw [sN,zzx c n,Nat.succ_mul]
theorem yab {f g:Nat→Nat}:∀ n,sN n (fun i=>f i+g i)=sN n f+sN n g
 | 0=>rfl
 | n+1=>by rw [sN,sN,sN,yab n]; omega
theorem zss {f:Nat→Nat→Nat} {m:Nat}:∀ n,sN n (fun i=>sN m (fun j=>f i j))=sN m (fun j=>sN n (fun i=>f i j))
 | 0=>by simp only[sN]; rw [zpe]
 | n+1=>by
  simp only[sN]
  rw [zss n,yab]
theorem z5o {f:Nat→Nat} {c:Nat}:∀ n,sN n (fun i=>f i*c)=sN n f*c
 | 0=>by simp [sN]
 | n+1=>by rw [sN,sN,z5o n,Nat.add_mul]
def b1 (b:Bool):Nat:=if b then 1 else 0
def cnt (H W:Nat) (f:Nat→Nat→Bool):Nat:=sN H fun i=>sN W fun j=>b1 (f i j)
theorem yav {a b:Bool} (h:a=true→b=true):b1 a≤b1 b:=by
 cases a with
 | false=>simp [b1]
 | true=>rw [h rfl]; exact qR _
theorem ydn {a b:Bool} (h:b1 a=b1 b):a=b:=by cases a <;> cases b <;> simp [b1]at h ⊢
theorem ydw {H W:Nat} {f g:Nat→Nat→Bool} (h:∀ i j,i<H→j<W→f i j=true→g i j=true):cnt H W f≤cnt H W g :=
 z10 fun i hi=>z10 fun j hj=>yav (h i j hi hj)
theorem ydv {H W:Nat} {f g:Nat→Nat→Bool} (h:∀ i j,i<H→j<W→f i j=true→g i j=true) (e:cnt H W f=cnt H W g):∀ i j,i<H→j<W→f i j=g i j:=by
 intro i j hi hj
 have h1:=z8p (n:=H) (fun i hi=>z10 fun j hj=>yav (h i j hi hj)) e i hi
 exact ydn (z8p (n:=W) (fun j hj=>yav (h i j hi hj)) h1 j hj)
theorem zth {H W:Nat} {f g:Nat→Nat→Bool} (h:∀ i j,i<H→j<W→f i j=g i j):cnt H W f=cnt H W g :=
 zdw fun i hi=>zdw fun j hj=>by rw [h i j hi hj]
theorem zvo {a k:Nat}:∀ {n:Nat},a+k≤n→sN n (fun i=>b1 (decide (a≤i) && decide (i<a+k)))=k
 | 0,h=>by simp [sN]; omega
 | n+1,h=>by
  rw [sN]
  by_cases hn:a+k≤n
  ·rw [zvo hn,decide_eq_false (p:=n<a+k) (by omega),Bool.and_false]; rfl
  have hnk:n+1=a+k:=by omega
  cases k with
  | zero =>
   have:sN n (fun i=>b1 (decide (a≤i) && decide (i<a+0)))=sN n (fun _=>0):=zdw fun i hi=>by
    rw [decide_eq_false (p:=a≤i) (by omega)]; rfl
   rw [this,zpe,decide_eq_false (p:=a≤n) (by omega)]; rfl
  | succ k =>
   have e:sN n (fun i=>b1 (decide (a≤i) && decide (i<a+(k+1))))=sN n (fun i=>b1 (decide (a≤i) && decide (i<a+k))):=zdw fun i hi=>by
    congr 2
    apply decide_eq_decide.2; omega
   rw [e,zvo (k:=k) (by omega),decide_eq_true (p:=a≤n) (by omega),decide_eq_true (p:=n<a+(k+1)) (by omega)]
   rfl
def inR (t l h w i j:Nat):Bool:=(decide (t≤i) && decide (i<t+h)) && (decide (l≤j) && decide (j<l+w))
theorem ydm {a b:Bool}:b1 (a && b)=b1 a*b1 b:=by cases a <;> cases b <;> rfl
theorem z67 {H W t l h w:Nat} (h1:t+h≤H) (h2:l+w≤W):cnt H W (inR t l h w)=h*w:=by
 unfold cnt inR
 have e:(fun i=>sN W fun j=>b1 ((decide (t≤i) && decide (i<t+h)) && (decide (l≤j) && decide (j<l+w))))=fun i=>b1 (decide (t≤i) && decide (i<t+h))*w:=by
  funext i
  have:(fun j=>b1 ((decide (t≤i) && decide (i<t+h)) && (decide (l≤j) && decide (j<l+w))))=fun j=>b1 (decide (l≤j) && decide (j<l+w))*b1 (decide (t≤i) && decide (i<t+h)):=by
   funext j; rw [ydm,Nat.mul_comm]
  rw [this,z5o,zvo h2,Nat.mul_comm]
 rw [e,z5o,zvo h1]
theorem zwg {H W n:Nat} {z:Nat→Nat→Nat} (hz:∀ i j,i<H→j<W→z i j<n):sN n (fun r=>cnt H W fun i j=>decide (z i j=r))=H*W:=by
 unfold cnt
 rw [zss]
 have:sN H (fun i=>sN n fun r=>sN W fun j=>b1 (decide (z i j=r)))=sN H (fun _=>W):=zdw fun i hi=>by
  rw [zss]
  have:sN W (fun j=>sN n fun r=>b1 (decide (z i j=r)))=sN W (fun _=>1):=zdw fun j hj=>by
   have h1:=hz i j hi hj
   have e:sN n (fun r=>b1 (decide (z i j=r)))=sN n (fun r=>b1 (decide (z i j≤r) && decide (r<z i j+1))):=zdw fun r hr=>by
    congr 1
    rw [Bool.eq_iff_iff]
    simp only[qB,decide_eq_true_eq]
    omega
   rw [e,zvo (by omega)]
  rw [this,zzy]
 rw [this,zzx]
structure Hull (pr:Nat→Nat→Prop) (t l lo ri:Int):Prop where
 inn:∀ a b,pr a b→t≤a∧(a:Int)≤lo∧l≤b∧(b:Int)≤ri
 at_:∃ a b:Nat,pr a b∧(a:Int)=t
 al:∃ a b:Nat,pr a b∧(b:Int)=l
 ao:∃ a b:Nat,pr a b∧(a:Int)=lo
 ar:∃ a b:Nat,pr a b∧(b:Int)=ri
theorem Hull.uniq {pr:Nat→Nat→Prop} {t l lo ri t' l' lo' ri':Int} (h:Hull pr t l lo ri) (k:Hull pr t' l' lo' ri'):t=t'∧l=l'∧lo=lo'∧ri=ri':=by
 obtain ⟨a1,b1,p1,e1⟩:=h.at_
 obtain ⟨a2,b2,p2,e2⟩:=h.al
 obtain ⟨a3,b3,p3,e3⟩:=h.ao
 obtain ⟨a4,b4,p4,e4⟩:=h.ar
 obtain ⟨a5,b5,p5,e5⟩:=k.at_
 obtain ⟨a6,b6,p6,e6⟩:=k.al
 obtain ⟨a7,b7,p7,e7⟩:=k.ao
 obtain ⟨a8,b8,p8,e8⟩:=k.ar
 have q1:=k.inn _ _ p1
 have q2:=k.inn _ _ p2
 have q3:=k.inn _ _ p3
 have q4:=k.inn _ _ p4
 have q5:=h.inn _ _ p5
 have q6:=h.inn _ _ p6
 have q7:=h.inn _ _ p7
 have q8:=h.inn _ _ p8
 omega
theorem Hull.congr {pr pr':Nat→Nat→Prop} {t l lo ri:Int} (h:Hull pr t l lo ri) (e:∀ a b,pr a b↔pr' a b):Hull pr' t l lo ri:=by
 have:pr=pr':=by funext a b; exact propext (e a b)
 exact this ▸ h
theorem Hull.add {pr:Nat→Nat→Prop} {t l lo ri:Int} (h:Hull pr t l lo ri) (i j:Nat):Hull (fun a b=>pr a b∨(a=i∧b=j)) (min t i) (min l j) (max lo i) (max ri j):=by
 refine ⟨?_,?_,?_,?_,?_⟩
 ·rintro a b (p | ⟨rfl,rfl⟩)
  ·have:=h.inn a b p; omega
  omega
 ·by_cases e:t≤i
  ·obtain ⟨a,b,p,q⟩:=h.at_; exact ⟨a,b,.inl p,by omega⟩
  exact ⟨i,j,.inr ⟨rfl,rfl⟩,by omega⟩
 ·by_cases e:l≤j
  ·obtain ⟨a,b,p,q⟩:=h.al; exact ⟨a,b,.inl p,by omega⟩
  exact ⟨i,j,.inr ⟨rfl,rfl⟩,by omega⟩
 ·by_cases e:(i:Int)≤lo
  ·obtain ⟨a,b,p,q⟩:=h.ao; exact ⟨a,b,.inl p,by omega⟩
  exact ⟨i,j,.inr ⟨rfl,rfl⟩,by omega⟩
 by_cases e:(j:Int)≤ri
 ·obtain ⟨a,b,p,q⟩:=h.ar; exact ⟨a,b,.inl p,by omega⟩
 exact ⟨i,j,.inr ⟨rfl,rfl⟩,by omega⟩
theorem Hull.one {pr:Nat→Nat→Prop} (h:∀ a b,¬ pr a b) (i j:Nat):Hull (fun a b=>pr a b∨(a=i∧b=j)) i j i j:=by
 refine ⟨?_,⟨i,j,.inr ⟨rfl,rfl⟩,rfl⟩,⟨i,j,.inr ⟨rfl,rfl⟩,rfl⟩,⟨i,j,.inr ⟨rfl,rfl⟩,rfl⟩,⟨i,j,.inr ⟨rfl,rfl⟩,rfl⟩⟩
 rintro a b (p | ⟨rfl,rfl⟩)
 ·exact absurd p (h a b)
 omega
def Gone (W i j a b:Nat):Prop:=b<W∧(a<i∨(a=i∧b<j))
theorem zkn {W i j a b:Nat} (hj:j<W):Gone W i (j+1) a b↔Gone W i j a b∨(a=i∧b=j):=by unfold Gone; omega
theorem zyt {W i a b:Nat}:Gone W i W a b↔Gone W (i+1) 0 a b:=by unfold Gone; omega
def Val (z:Nat→Nat→Int) (W i j:Nat) (v:Int) (a b:Nat):Prop:=z a b=v∧Gone W i j a b
theorem zxy {z:Nat→Nat→Int} {W i j:Nat} {v:Int} (hj:j<W) (h:z i j=v) (a b:Nat):(Val z W i j v a b∨(a=i∧b=j))↔Val z W i (j+1) v a b:=by
 unfold Val
 rw [zkn hj]
 constructor
 ·rintro (⟨h1,h2⟩ | ⟨rfl,rfl⟩)
  ·exact ⟨h1,.inl h2⟩
  exact ⟨h,.inr ⟨rfl,rfl⟩⟩
 rintro ⟨h1,h2 | h2⟩
 ·exact .inl ⟨h1,h2⟩
 exact .inr h2
theorem zsx {z:Nat→Nat→Int} {W i j:Nat} {v:Int} (hj:j<W) (h:z i j≠v) (a b:Nat):Val z W i j v a b↔Val z W i (j+1) v a b:=by
 unfold Val
 rw [zkn hj]
 constructor
 ·rintro ⟨h1,h2⟩; exact ⟨h1,.inl h2⟩
 rintro ⟨h1,h2 | ⟨rfl,rfl⟩⟩
 ·exact ⟨h1,h2⟩
 exact absurd h1 h
theorem z6j {z:Nat→Nat→Int} {W i:Nat} {v:Int} (a b:Nat):Val z W i W v a b↔Val z W (i+1) 0 v a b:=by unfold Val; rw [zyt]
def zka (pr:Nat→Nat→Prop) (b:Rect):Prop:=Hull pr b.row b.col (b.row+b.high - 1) (b.col+b.wide - 1)
theorem zka.both {pr:Nat→Nat→Prop} {b:Rect} (h:zka pr b) (i j:Nat):zka (fun a c=>pr a c∨(a=i∧c=j)) (b.both (zfw i j)):=by
 have:=Hull.add h i j
 unfold zka Rect.both zfw
 simp only
 rw [show min b.row (i:Int)+(max (b.row+b.high) ((i:Int)+1) - min b.row (i:Int)) - 1=max (b.row+b.high - 1) i by omega,show min b.col (j:Int)+(max (b.col+b.wide) ((j:Int)+1) - min b.col (j:Int)) - 1=max (b.col+b.wide - 1) j by omega]
 exact this
theorem z7x {i j:Nat}:(zfw i j).both (zfw i j)=zfw i j:=by
 unfold Rect.both zfw
 simp only[Rect.mk.injEq]
 omega
theorem zka.one {pr:Nat→Nat→Prop} (h:∀ a b,¬ pr a b) (i j:Nat):zka (fun a b=>pr a b∨(a=i∧b=j)) (zfw i j):=by
 have:=Hull.one h i j
 unfold zka zfw
 simp only
 rw [show (i:Int)+1 - 1=i by omega,show (j:Int)+1 - 1=j by omega]
 exact this
theorem zka.congr {pr pr':Nat→Nat→Prop} {b:Rect} (h:zka pr b) (e:∀ a c,pr a c↔pr' a c):zka pr' b:=Hull.congr h e
structure SeInv (z:Nat→Nat→Int) (W i j:Nat) (ks:List Int) (rs:List Rect):Prop where
 nd:ks.Nodup
 len:rs.length=ks.length
 mem:∀ a b,Gone W i j a b→z a b∈ks
 hull:∀ (m:Nat) v b,ks[m]?=some v→rs[m]?=some b→zka (Val z W i j v) b
theorem zks {l:List Int} (h:l.Nodup) {a b:Nat} {v:Int} (ha:l[a]?=some v) (hb:l[b]?=some v):a=b:=by
 obtain ⟨p1,q1⟩:=List.getElem?_eq_some_iff.1 ha
 obtain ⟨p2,q2⟩:=List.getElem?_eq_some_iff.1 hb
 have:=List.pairwise_iff_getElem.1 h
 rcases Nat.lt_trichotomy a b with hlt | heq | hgt
 ·exact absurd (q1.trans q2.symm) (this a b p1 p2 hlt)
 ·exact heq
 exact absurd (q2.trans q1.symm) (this b a p2 p1 hgt)
theorem zg3 {ks:List Int} {z:Int} (h:¬ ks.idxOf z=ks.length):ks[ks.idxOf z]?=some z:=by
 have hl:=zgp (ks:=ks) (z:=z)
 have:z∈ks:=by rw [← List.idxOf_lt_length_iff]; omega
 rw [List.getElem?_eq_getElem (List.idxOf_lt_length_iff.2 this),List.getElem_idxOf]
theorem zoh {ks:List Int} {z:Int} (h:ks.idxOf z=ks.length):z ∉ ks:=by
 intro hm
 have:=List.idxOf_lt_length_iff.2 hm
 omega
theorem SeInv.step {z:Nat→Nat→Int} {W i j:Nat} {ks:List Int} {rs:List Rect} (h:SeInv z W i j ks rs) (hj:j<W):SeInv z W i (j+1) (zg9 ks (z i j)) (zns ks rs (z i j) (zfw i j)):=by
 have hlen:=h.len
 by_cases hin:ks.idxOf (z i j)=ks.length
 ·have hnm:=zoh hin
  have e1:zg9 ks (z i j)=ks++[z i j]:=by simp [zg9,hin]
  have e2:zns ks rs (z i j) (zfw i j)=rs++[zfw i j]:=by
   unfold zns zhy
   rw [if_pos hin,hin,← hlen,List.getD_eq_getElem?_getD]
   simp [z7x]
  rw [e1,e2]
  refine ⟨?_,by simp [hlen],?_,?_⟩
  ·rw [List.nodup_append]
   refine ⟨h.nd,by simp,?_⟩
   intro a ha b hb
   rw [List.mem_singleton]at hb
   rintro rfl
   exact hnm (hb ▸ ha)
  ·intro a b hab
   rw [zkn hj]at hab
   rcases hab with hab | ⟨rfl,rfl⟩
   ·exact List.mem_append_left _ (h.mem a b hab)
   simp
  intro m v b hm hb
  by_cases hml:m<ks.length
  ·rw [List.getElem?_append_left hml]at hm
   rw [List.getElem?_append_left (by omega)]at hb
   have hv:z i j≠v:=fun e=>hnm (e ▸ List.mem_of_getElem? hm)
   exact (h.hull m v b hm hb).congr (zsx hj hv)
  have hml2:=zbd hm
  simp only[List.length_append,List.length_singleton]at hml2
  obtain rfl:m=ks.length:=by omega
  rw [List.getElem?_append_right (qR _),Nat.sub_self]at hm
  rw [← hlen,List.getElem?_append_right (qR _),Nat.sub_self]at hb
  simp only[List.getElem?_cons_zero,Option.some.injEq]at hm hb
  subst hm hb
  exact (zka.one (pr:=Val z W i j (z i j)) (fun a b hab=>hnm (hab.1 ▸ h.mem a b hab.2)) i j).congr (zxy hj rfl)
 have hk:=zg3 hin
 have hkl:=zbd hk
 have e1:zg9 ks (z i j)=ks:=by simp [zg9,hin]
 obtain ⟨b0,hb0,-⟩:=zai (show ks.idxOf (z i j)<rs.length by omega)
 have e2:zns ks rs (z i j) (zfw i j)=rs.set (ks.idxOf (z i j)) (b0.both (zfw i j)):=by
  unfold zns zhy
  rw [if_neg hin,List.getD_eq_getElem?_getD,hb0]; rfl
 rw [e1,e2]
 refine ⟨h.nd,by simp [hlen],?_,?_⟩
 ·intro a b hab
  rw [zkn hj]at hab
  rcases hab with hab | ⟨rfl,rfl⟩
  ·exact h.mem a b hab
  exact List.mem_of_getElem? hk
 intro m v b hm hb
 rw [List.getElem?_set]at hb
 by_cases e:ks.idxOf (z i j)=m
 ·subst e
  rw [if_pos rfl,if_pos (by omega)]at hb
  cases hb
  rw [hk]at hm
  cases hm
  exact ((h.hull _ _ _ hk hb0).both i j).congr (zxy hj rfl)
 rw [if_neg e]at hb
 have hv:z i j≠v:=by
  rintro rfl
  exact e (zks h.nd hk hm)
 exact (h.hull m v b hm hb).congr (zsx hj hv)
theorem SeInv.nil {z:Nat→Nat→Int} {W:Nat}:SeInv z W 0 0 [] []:=by
 refine ⟨by simp,rfl,?_,by simp⟩
 intro a b h
 unfold Gone at h; omega
theorem SeInv.row {g:List (List Int)} {W i:Nat} {s:List Int × List Rect} (h:SeInv (gz g) W i 0 s.1 s.2):∀ j,j≤W→SeInv (gz g) W i j (zcz g i s j).1 (zcz g i s j).2
 | 0,_=>h
 | j+1,hj=>(SeInv.row h j (by omega)).step (by omega)
theorem SeInv.rows {g:List (List Int)} {W:Nat}:∀ i,SeInv (gz g) W i 0 (zaj g W i).1 (zaj g W i).2
 | 0=>SeInv.nil
 | i+1=>by
  have h:=(SeInv.rows (g:=g) (W:=W) i).row W (qR _)
  refine ⟨h.nd,h.len,fun a b hab=>h.mem a b (zyt.2 hab),fun m v b hm hb=>(h.hull m v b hm hb).congr (fun a c=>z6j a c)⟩
theorem zpf {g:List (List Int)} {i:Nat} {s:List Int × List Rect}:∀ {j k:Nat},j≤k→∃ r,(zcz g i s k).1=(zcz g i s j).1++r
 | j,0,h=>by
  have hj:j=0:=by omega
  subst hj; exact ⟨[],by simp⟩
 | j,k+1,h=>by
  by_cases e:j=k+1
  ·subst e; exact ⟨[],by simp⟩
  obtain ⟨r,hr⟩:=zpf (g:=g) (i:=i) (s:=s) (show j≤k by omega)
  simp only[zcz,zg9]
  split
  ·exact ⟨r++[gz g i k],by rw [hr,List.append_assoc]⟩
  exact ⟨r,hr⟩
theorem zq9 {g:List (List Int)} {W:Nat}:∀ {i k:Nat},i≤k→∃ r,(zaj g W k).1=(zaj g W i).1++r
 | i,0,h=>by
  have hi:i=0:=by omega
  subst hi; exact ⟨[],by simp⟩
 | i,k+1,h=>by
  by_cases e:i=k+1
  ·subst e; exact ⟨[],by simp⟩
  obtain ⟨r,hr⟩:=zq9 (g:=g) (W:=W) (show i≤k by omega)
  obtain ⟨r2,hr2⟩:=zpf (g:=g) (i:=k) (s:=zaj g W k) (Nat.zero_le W)
  simp only[zaj]
  refine ⟨r++r2,?_⟩
  rw [hr2,← List.append_assoc,← hr]; rfl
theorem zog {l r:List Int} {x:Int} (h:¬ l.idxOf x=l.length):(l++r).idxOf x=l.idxOf x:=by
 have hl:=zgp (ks:=l) (z:=x)
 have hm:x∈l:=by rw [← List.idxOf_lt_length_iff]; omega
 rw [List.idxOf_append,if_pos hm]
theorem z3y {l r:List Int} {x:Int} (h:l.idxOf x=l.length):(l++[x]++r).idxOf x=l.length:=by
 have hm:x ∉ l:=zoh h
 rw [List.append_assoc,List.idxOf_append,if_neg hm]
 simp
theorem zNum {g:List (List Int)} {W nh i j:Nat} (hi:i<nh) (hj:j<W):((zcz g i (zaj g W i) j).1.idxOf (gz g i j))=(zaj g W nh).1.idxOf (gz g i j):=by
 obtain ⟨r,hr⟩:=zq9 (g:=g) (W:=W) (show i+1≤nh by omega)
 obtain ⟨r2,hr2⟩:=zpf (g:=g) (i:=i) (s:=zaj g W i) (show j+1≤W by omega)
 have e:(zaj g W nh).1=zg9 (zcz g i (zaj g W i) j).1 (gz g i j)++(r2++r):=by
  rw [hr,← List.append_assoc]
  congr 1
 rw [e]
 generalize (zcz g i (zaj g W i) j).1=ks
 unfold zg9
 by_cases hin:ks.idxOf (gz g i j)=ks.length
 ·rw [if_pos hin,z3y hin,hin]
 rw [if_neg hin,zog hin]
def inZ (p:List Txt) (r:Int) (i j:Nat):Bool:=decide (zbb p i j=r)
theorem zt4 {p:List Txt} {i k:Nat} {row:Txt} {c:UInt8} {r:Int} (h:p[i]?=some row) (hc:row[k]?=some c):zyw r c=inZ p r i k:=by
 unfold zyw inZ; rw [zd3 h hc]
theorem zmh {p:List Txt} {i:Nat} {row:Txt} {r:Int} (h:p[i]?=some row) (n:Int):∀ k,k≤row.length→zkc r n (row.take k)=n+sN k fun j=>b1 (inZ p r i j)
 | 0,_=>by simp [zkc,sN]
 | k+1,hk=>by
  obtain ⟨c,hc,-⟩:=zai (show k<row.length by omega)
  have ih:=zmh (r:=r) h n k (by omega)
  unfold zkc at ih ⊢
  rw [zfp hc,ih,sN,zt4 h hc]
  cases inZ p r i k <;> simp [b1]
  omega
theorem zoo {p:List Txt} {W:Nat} (hW:∀ row∈p,row.length=W) {r:Int}:∀ i,i≤p.length→(p.take i).foldl (zkc r) 0=((sN i fun i=>sN W fun j=>b1 (inZ p r i j):Nat):Int)
 | 0,_=>by simp [sN]
 | i+1,hi=>by
  obtain ⟨row,hr,hm⟩:=zai (show i<p.length by omega)
  have ih:=zoo hW (r:=r) i (by omega)
  have hl:=hW row hm
  have:=zmh (r:=r) hr (((sN i fun i=>sN W fun j=>b1 (inZ p r i j):Nat):Int)) W (by omega)
  rw [qT (by omega)]at this
  rw [zfp hr,ih,this,sN]
  simp
theorem z08 {p:List Txt} {W:Nat} (hW:∀ row∈p,row.length=W) {r:Int}:zw2 p r=((cnt p.length W (inZ p r):Nat):Int):=by
 have:=zoo hW (r:=r) p.length (qR _)
 rwa [List.take_length]at this
def zi9 (H W:Nat) (pr:Nat→Nat→Prop) (b:Box):Prop:=((∀ a c,¬ pr a c)∧b=⟨H,W,-1,-1⟩)∨Hull pr b.top b.left b.low b.right
theorem zi9.congr {H W:Nat} {pr pr':Nat→Nat→Prop} {b:Box} (h:zi9 H W pr b) (e:∀ a c,pr a c↔pr' a c):zi9 H W pr' b:=by
 have:pr=pr':=by funext a b; exact propext (e a b)
 exact this ▸ h
theorem zi9.add {H W:Nat} {pr:Nat→Nat→Prop} {b:Box} (h:zi9 H W pr b) {i k:Nat} (hi:i<H) (hk:k<W):zi9 H W (fun a c=>pr a c∨(a=i∧c=k)) ⟨min b.top i,min b.left k,max b.low i,max b.right k⟩:=by
 rcases h with ⟨h1,rfl⟩ | h
 ·right
  have:=Hull.one h1 i k
  simp only
  rw [show min (H:Int) i=i by omega,show min (W:Int) k=k by omega,show max (-1:Int) i=i by omega,show max (-1:Int) k=k by omega]
  exact this
 exact .inr (Hull.add h i k)
theorem zvl {p:List Txt} {H W i:Nat} {row:Txt} {r:Int} (hr:p[i]?=some row) (hW:row.length=W) (hi:i<H) {b:Box} (h:zi9 H W (Val (zbb p) W i 0 r) b):∀ k,k≤W→zi9 H W (Val (zbb p) W i k r) (zxe r i b row k)
 | 0,_=>by simpa [zxe] using h
 | k+1,hk=>by
  obtain ⟨c,hc,-⟩:=zai (show k<row.length by omega)
  have ih:=zvl hr hW hi h k (by omega)
  rw [z1z hc]
  unfold zrl
  simp only
  rw [zt4 hr hc]
  by_cases e:zbb p i k=r
  ·rw [if_pos (by unfold inZ; exact decide_eq_true e)]
   exact (ih.add hi (by omega)).congr (zxy (by omega) e)
  rw [if_neg (by unfold inZ; rw [decide_eq_false e]; exact Bool.false_ne_true)]
  exact ih.congr (zsx (by omega) e)
theorem zta {p:List Txt} {W:Nat} (hW:∀ row∈p,row.length=W) (hh:(zag p).length=W) {r:Int}:∀ i,i≤p.length→zi9 p.length W (Val (zbb p) W i 0 r) (zwd p r i)
 | 0,_=>by
  left
  refine ⟨fun a c h=>?_,by simp [zwd,hh]⟩
  have:=h.2
  unfold Gone at this; omega
 | i+1,hi=>by
  obtain ⟨row,hr,hm⟩:=zai (show i<p.length by omega)
  rw [z0n hr]
  have:=zvl (r:=r) hr (hW row hm) (by omega) (zta hW hh i (by omega)) W (qR _)
  rw [hW row hm]
  exact this.congr fun a c=>z6j a c
theorem z2u {p:List Txt} {W:Nat} (hW:∀ row∈p,row.length=W) (hh:(zag p).length=W) {r:Int}:zi9 p.length W (Val (zbb p) W p.length 0 r) (zrm p r):=by
 rw [← z2w]; exact zta hW hh p.length (qR _)
theorem Hull.nat {z:Nat→Nat→Int} {H W:Nat} {v:Int} {t l lo ri:Int} (h:Hull (Val z W H 0 v) t l lo ri):∃ t' l' h' w':Nat,t=t'∧l=l'∧lo=t'+h' - 1∧ri=l'+w' - 1∧1≤h'∧1≤w'∧t'+h'≤H∧l'+w'≤W ∧
  ∀ i j,i<H→j<W→z i j=v→inR t' l' h' w' i j=true:=by
 obtain ⟨a1,b1,p1,e1⟩:=h.at_
 obtain ⟨a2,b2,p2,e2⟩:=h.al
 obtain ⟨a3,b3,p3,e3⟩:=h.ao
 obtain ⟨a4,b4,p4,e4⟩:=h.ar
 have q1:=h.inn _ _ p1
 have q2:=h.inn _ _ p2
 obtain ⟨-,g3,g3'⟩:=p3
 obtain ⟨-,g4,g4'⟩:=p4
 refine ⟨a1,b2,a3+1 - a1,b4+1 - b2,e1.symm,e2.symm,by omega,by omega,by omega,by omega,by omega,by omega,fun i j hi hj hv=>?_⟩
 have:=h.inn i j ⟨hv,by unfold Gone; omega⟩
 unfold inR
 simp only[qB,decide_eq_true_eq]
 omega
def u8I (c:UInt8):Int:=(c.toNat:Int)
theorem yc6 {a b:UInt8} (h:u8I a=u8I b):a=b:=by
 unfold u8I at h
 exact UInt8.toNat_inj.1 (by omega)
theorem zt3 {α β:Type} [DecidableEq α] [DecidableEq β] {f:α→β} (hf:∀ a b,f a=f b→a=b) {c:α}:∀ (l:List α),(l.map f).idxOf (f c)=l.idxOf c
 | []=>rfl
 | a::l=>by
  rw [List.map_cons,List.idxOf_cons,List.idxOf_cons,zt3 hf l]
  by_cases e:a=c
  ·subst e; simp
  have e2:f a≠f c:=fun h=>e (hf _ _ h)
  rw [show (f a == f c)=false by simpa using e2,show (a == c)=false by simpa using e]
theorem ybi {p:List Txt} {i k:Nat} {row:Txt} {c:UInt8} (h:p[i]?=some row) (hc:row[k]?=some c):gz (zbg p) i k=u8I c:=by
 simp [gz,zbg,zs1,h,hc,u8I]
theorem zqp {p:List Txt} {i:Nat} {row:Txt} (h:p[i]?=some row) {o:List UInt8} {s:List Int × List Rect} (ho:o.map u8I=s.1):∀ j,j≤row.length →
  ((row.take j).foldl ziz (o,[])).1.map u8I=(zcz (zbg p) i s j).1∧((row.take j).foldl ziz (o,[])).2=zpc (zmf (zbg p) i s j)
 | 0,_=>⟨by simpa [zcz] using ho,by simp [zmf,zpc]⟩
 | j+1,hj=>by
  obtain ⟨c,hc,-⟩:=zai (show j<row.length by omega)
  obtain ⟨h1,h2⟩:=zqp h ho j (by omega)
  rw [zfp hc]
  generalize (row.take j).foldl ziz (o,[])=q at h1 h2 ⊢
  have hz:=ybi h hc
  have hi:(zcz (zbg p) i s j).1.idxOf (gz (zbg p) i j)=q.1.idxOf c:=by rw [← h1,hz,zt3 fun a b=>yc6]
  have hl:(zcz (zbg p) i s j).1.length=q.1.length:=by rw [← h1,List.length_map]
  constructor
  ·simp only[ziz,zcz,zg9]
   rw [hi,hl]
   split
   ·rw [List.map_append,h1,hz]; rfl
   exact h1
  simp only[ziz,zmf]
  rw [hi,h2]
  simp [zpc,z37]
theorem zy5 {p:List Txt} {W:Nat} (hW:∀ row∈p,row.length=W):∀ i,i≤p.length →
  ((p.take i).foldl zqo ([],[])).1.map u8I=(zaj (zbg p) W i).1∧((p.take i).foldl zqo ([],[])).2=zfa (zd2 (zbg p) W i)
 | 0,_=>by simp [zaj,zd2,zfa]
 | i+1,hi=>by
  obtain ⟨row,hr,hm⟩:=zai (show i<p.length by omega)
  obtain ⟨h1,h2⟩:=zy5 hW i (by omega)
  rw [zfp hr]
  generalize (p.take i).foldl zqo ([],[])=q at h1 h2 ⊢
  have hl:=hW row hm
  obtain ⟨k1,k2⟩:=zqp hr h1 row.length (qR _)
  rw [List.take_length,hl]at k1 k2
  constructor
  ·simp only[zqo,zr0,zaj]; exact k1
  simp only[zqo,zr0,zd2,zfa,List.map_append,List.map_cons,List.map_nil]
  rw [k2,h2]
  rfl
theorem zfj {p:List Txt}:w0 (zbg p)=(zag p).length:=by
 cases p with
 | nil=>rfl
 | cons a p=>simp [w0,zbg,zs1,zag]
theorem zko {p:List Txt} (hg:zhg p=true):∀ row∈p,row.length=(zag p).length:=by
 intro row hm
 obtain ⟨i,hi⟩:=List.getElem?_of_mem hm
 exact zhh hg hi
theorem zqq {p:List Txt} (hg:zhg p=true):names p=zfa (gP p):=by
 have:=(zy5 (zko hg) p.length (qR _)).2
 rw [List.take_length]at this
 unfold names zy4 gP zG
 rw [this,zfj,zcy]
theorem zyu {p:List Txt}:zhg p=(zgr p && okG (zbg p)):=by
 rw [Bool.eq_iff_iff,qB,zlz,zcy,zfj]
 unfold zhg zgr GW yck
 simp only[qB,decide_eq_true_eq,List.all_eq_true,zcy,true_and]
 constructor
 ·rintro ⟨⟨h1,h2⟩,h3⟩
  obtain ⟨row0,hr0,hm0⟩:=zai (show 0<p.length by omega)
  have hh:=zgo hr0
  have h4:=h1 row0 hm0
  refine ⟨fun r hr=>(h1 r hr).2,fun r hr=>?_,h2,h3,by rw [hh]; omega,by rw [hh]; omega⟩
  obtain ⟨t,ht,rfl⟩:=List.mem_map.1 hr
  rw [zi4]; exact (h1 t ht).1.1.1
 rintro ⟨h1,h2,h3,h4,h5,h6⟩
 refine ⟨⟨fun r hr=>?_,h3⟩,h4⟩
 have:=h2 (zs1 r) (List.mem_map.2 ⟨r,hr,rfl⟩)
 rw [zi4]at this
 exact ⟨⟨⟨this,by omega⟩,by omega⟩,h1 r hr⟩
theorem zx1 {g:List (List Int)} {i:Nat} {s:List Int × List Rect}:∀ {j k:Nat},k<j→(zmf g i s j)[k]?=some (((zcz g i s k).1.idxOf (gz g i k):Nat):Int)
 | 0,k,h=>by omega
 | j+1,k,h=>by
  unfold zmf
  by_cases e:k=j
  ·subst e; rw [List.getElem?_append_right (by rw [zen]; exact qR _),zen]; simp
  rw [List.getElem?_append_left (by rw [zen]; omega)]; exact zx1 (by omega)
def keys (p:List Txt):List Int:=(zaj (zbg p) (zag p).length p.length).1
theorem z3m {p:List Txt}:gP p=zd2 (zbg p) (zag p).length p.length:=by unfold gP zG; rw [zfj,zcy]
theorem z8i {p:List Txt}:rP p=(zaj (zbg p) (zag p).length p.length).2:=by unfold rP stG; rw [zfj,zcy]
theorem z3l {p:List Txt} {i j:Nat} (hi:i<p.length) (hj:j<(zag p).length):gz (gP p) i j=(((keys p).idxOf (gz (zbg p) i j):Nat):Int):=by
 rw [z3m]
 unfold gz
 rw [zi7 hi,Option.getD_some,zx1 hj,Option.getD_some]
 congr 1
 exact zNum hi hj
theorem zgq (p:List Txt):SeInv (gz (zbg p)) (zag p).length p.length 0 (keys p) (rP p):=by
 rw [z8i]; exact SeInv.rows p.length
theorem znj {H W i j:Nat} (hi:i<H) (hj:j<W):Gone W H 0 i j:=⟨hj,.inl hi⟩
theorem zb2 {p:List Txt}:zv6 (gP p) p.length (zag p).length (rP p).length:=by
 intro i j hi hj
 rw [z3l hi hj]
 have hm:=(zgq p).mem i j (znj hi hj)
 have hl:=(zgq p).len
 have:=List.idxOf_lt_length_iff.2 hm
 omega
structure Named (p:List Txt):Prop where
 hg:zhg p=true
 ht:zfa (gP p)=p
theorem Named.cell {p:List Txt} (h:Named p) {i j:Nat} (hi:i<p.length) (hj:j<(zag p).length):gz (gP p) i j=zbb p i j:=by
 have hgz:=z3l hi hj
 have hm:=(zgq p).mem i j (znj hi hj)
 have hsm:=zfv h.hg
 obtain ⟨row0,hr0,hm0⟩:=zai hsm.1
 have hh:=zgo hr0
 have hw6:=hsm.2.2 row0 hm0
 have hw1:=zpd h.hg hr0
 rw [← hh]at hw6 hw1
 have hb:=zj7 (g:=zbg p) hw6 hw1 p.length hsm.2.1
 rw [← z3m]at hb
 have hrl:(gP p).length=p.length:=by rw [z3m]; exact zcd _
 obtain ⟨zr,hzr,hzm⟩:=zai (show i<(gP p).length by omega)
 have hzl:zr.length=(zag p).length:=by
  have e:=hzr
  rw [z3m,zi7 hi]at e
  cases e
  exact zen _
 obtain ⟨z,hz,hzm2⟩:=zai (show j<zr.length by omega)
 have hz1:=hb zr hzm z hzm2
 have e1:gz (gP p) i j=z:=by simp [gz,hzr,hz]
 have e2:p[i]?=some (zpc zr):=by
  have:=zlh hzr
  rwa [h.ht]at this
 have e3:(zpc zr)[j]?=some (z37 z):=by simp [zpc,hz]
 rw [e1,zd3 e2 e3]
 unfold z37
 rw [UInt8.toNat_ofNat_of_lt' (by show 97+z.toNat<256; omega)]
 omega
theorem Named.room {p:List Txt} (h:Named p) {i j:Nat} (hi:i<p.length) (hj:j<(zag p).length):0≤zbb p i j∧zbb p i j<(rP p).length:=by
 rw [← h.cell hi hj]; exact zb2 i j hi hj
theorem Named.key {p:List Txt} (h:Named p) {m:Nat} {v:Int} (hm:(keys p)[m]?=some v) (a b:Nat):Val (gz (zbg p)) (zag p).length p.length 0 v a b↔Val (zbb p) (zag p).length p.length 0 m a b:=by
 unfold Val
 constructor
 ·rintro ⟨h1,h2⟩
  refine ⟨?_,h2⟩
  obtain ⟨hb,ha⟩:=h2
  have ha':a<p.length:=by omega
  rw [← h.cell ha' hb,z3l ha' hb,h1]
  congr 1
  have hv:=List.mem_of_getElem? hm
  have hlt:=List.idxOf_lt_length_iff.2 hv
  have:=zg3 (ks:=keys p) (z:=v) (by omega)
  exact zks (zgq p).nd this hm
 rintro ⟨h1,h2⟩
 refine ⟨?_,h2⟩
 obtain ⟨hb,ha⟩:=h2
 have ha':a<p.length:=by omega
 have hmem:=(zgq p).mem a b (znj ha' hb)
 have hlt:=List.idxOf_lt_length_iff.2 hmem
 rw [← h.cell ha' hb,z3l ha' hb]at h1
 have:=zg3 (ks:=keys p) (z:=gz (zbg p) a b) (by omega)
 rw [show (keys p).idxOf (gz (zbg p) a b)=m by omega,hm]at this
 cases this; rfl
theorem Named.rect {p:List Txt} (h:Named p) {m:Nat} {b:Rect} (hb:(rP p)[m]?=some b):zka (Val (zbb p) (zag p).length p.length 0 m) b:=by
 have hi:=zgq p
 have hml:=zbd hb
 rw [hi.len]at hml
 obtain ⟨v,hv,-⟩:=zai hml
 exact (hi.hull m v b hv hb).congr (h.key hv)
theorem Named.box {p:List Txt} (h:Named p) {m:Nat} {b:Rect} (hb:(rP p)[m]?=some b):b.row=(zrm p m).top∧b.col=(zrm p m).left∧b.high=zyv p m∧b.wide=z0k p m:=by
 have h1:=h.rect hb
 have h2:=z2u (zko h.hg) rfl (r:=(m:Int))
 rcases h2 with ⟨h2,-⟩ | h2
 ·obtain ⟨a,c,q,-⟩:=h1.at_
  exact absurd q (h2 a c)
 have:=Hull.uniq h1 h2
 unfold zyv z0k
 omega
theorem zmt {f:UInt8→Int} {B:Int}:∀ (row:Txt) (n:Int),n≤B→(∀ c∈row,f c≤B)→row.foldl (fun n c=>max n (f c)) n≤B
 | [],n,h,_=>h
 | c::row,n,h,hc=>zmt row _ (by have:=hc c (by simp); show max n (f c)≤B; omega) fun d hd=>hc d (by simp [hd])
theorem zzv {B:Int}:∀ (p:List Txt) (n:Int),n≤B→(∀ row∈p,∀ c∈row,(c.toNat:Int) - 97+1≤B)→p.foldl zg8 n≤B
 | [],n,h,_=>h
 | row::p,n,h,hc=>zzv p _ (zmt row n h (hc row (by simp))) fun r hr=>hc r (by simp [hr])
theorem Named.rooms {p:List Txt} (h:Named p):zib p=(rP p).length:=by
 have hi:=zgq p
 have hl:=hi.len
 apply Int.le_antisymm
 ·refine zzv p 0 (by omega) fun row hr c hc=>?_
  obtain ⟨i,hrow⟩:=List.getElem?_of_mem hr
  obtain ⟨j,hcol⟩:=List.getElem?_of_mem hc
  have hil:=zbd hrow
  have hjl:=zbd hcol
  have:=h.room hil (by rw [← zhh h.hg hrow]; exact hjl)
  rw [zd3 hrow hcol]at this
  omega
 by_cases h0:(rP p).length=0
 ·have:=(zrx p).1; omega
 obtain ⟨b,hb,-⟩:=zai (show (rP p).length - 1<(rP p).length by omega)
 obtain ⟨a,c,⟨q1,q2⟩,-⟩:=(h.rect hb).at_
 obtain ⟨hc,ha⟩:=q2
 have ha':a<p.length:=by omega
 obtain ⟨row,hrow,hrm⟩:=zai ha'
 have hrl:=zhh h.hg hrow
 obtain ⟨d,hd,-⟩:=zai (show c<row.length by omega)
 have:=(z1x p 0).2 a c row d hrow hd
 rw [zd3 hrow hd]at q1
 unfold zib
 omega
def inB (b:Rect) (i j:Nat):Bool:=(decide (b.row≤i) && decide ((i:Int)<b.row+b.high)) && (decide (b.col≤j) && decide ((j:Int)<b.col+b.wide))
theorem zk7 {z:Nat→Nat→Int} {H W:Nat} {v:Int} {b:Rect} (h:zka (Val z W H 0 v) b):((cnt H W (inB b):Nat):Int)=b.high*b.wide∧∀ i j,i<H→j<W→z i j=v→inB b i j=true:=by
 obtain ⟨t,l,hh,w,e1,e2,e3,e4,h1,h2,h3,h4,h5⟩:=Hull.nat h
 have e5:b.high=hh:=by omega
 have e6:b.wide=w:=by omega
 have e:∀ i j,inB b i j=inR t l hh w i j:=by
  intro i j
  unfold inB inR
  rw [e1,e2,e5,e6,Bool.eq_iff_iff]
  simp only[qB,decide_eq_true_eq]
  omega
 have e7:inB b=inR t l hh w:=by funext i j; exact e i j
 rw [e7,z67 h3 h4,e5,e6]
 exact ⟨by simp,h5⟩
def arN (p:List Txt) (m:Nat):Nat :=
 match (rP p)[m]? with
 | some b=>cnt p.length (zag p).length (inB b)
 | none=>0
theorem zs5 {p:List Txt} {m:Nat} {b:Rect} (h:(rP p)[m]?=some b):arN p m=cnt p.length (zag p).length (inB b):=by simp [arN,h]
theorem z54 {p:List Txt} (h:Named p):∀ k,k≤(rP p).length→z18 ((rP p).take k)=((sN k (arN p):Nat):Int)
 | 0,_=>by simp [z18,sN]
 | k+1,hk=>by
  obtain ⟨b,hb,-⟩:=zai (show k<(rP p).length by omega)
  rw [zpk hb,z54 h k (by omega),sN,zs5 hb,← (zk7 (h.rect hb)).1]
  simp
theorem Named.cells_le {p:List Txt} (h:Named p) {m:Nat} (hm:m<(rP p).length):cnt p.length (zag p).length (inZ p m)≤arN p m:=by
 obtain ⟨b,hb,-⟩:=zai hm
 rw [zs5 hb]
 exact ydw fun i j hi hj hz=>(zk7 (h.rect hb)).2 i j hi hj (by unfold inZ at hz; simpa using hz)
theorem Named.all {p:List Txt} (h:Named p):sN (rP p).length (fun m=>cnt p.length (zag p).length (inZ p m))=p.length*(zag p).length:=by
 rw [← zwg (H:=p.length) (W:=(zag p).length) (n:=(rP p).length) (z:=fun i j=>(zbb p i j).toNat) fun i j hi hj=>by have:=h.room hi hj; omega]
 refine zdw fun m hm=>zth fun i j hi hj=>?_
 unfold inZ
 have:=h.room hi hj
 apply decide_eq_decide.2
 omega
theorem z7g {p:List Txt} (h:Named p):zhu (zbg p)=decide (sN (rP p).length (arN p)=p.length*(zag p).length):=by
 have:=z54 h (rP p).length (qR _)
 rw [List.take_length]at this
 unfold zhu
 rw [show (stG (zbg p)).2=rP p from rfl,this,zcy,zfj]
 apply decide_eq_decide.2
 omega
theorem Named.area {p:List Txt} (h:Named p) {m:Nat} (hm:m<(rP p).length):(zw2 p m=zyv p m*z0k p m)↔cnt p.length (zag p).length (inZ p m)=arN p m:=by
 obtain ⟨b,hb,-⟩:=zai hm
 obtain ⟨-,-,e1,e2⟩:=h.box hb
 rw [z08 (zko h.hg),← e1,← e2,← (zk7 (h.rect hb)).1,zs5 hb]
 omega
theorem Named.full {p:List Txt} (h:Named p):zhu (zbg p)=true↔∀ m,m<(rP p).length→cnt p.length (zag p).length (inZ p m)=arN p m:=by
 rw [z7g h,decide_eq_true_eq,← h.all]
 constructor
 ·intro e m hm
  exact z8p (fun m hm=>h.cells_le hm) e.symm m hm
 intro e
 exact zdw fun m hm=>(e m hm).symm
theorem Named.fill {p:List Txt} (h:Named p) (hf:zhu (zbg p)=true) {m:Nat} {b:Rect} (hb:(rP p)[m]?=some b) {i j:Nat} (hi:i<p.length) (hj:j<(zag p).length):inB b i j=decide (zbb p i j=m):=by
 have e:=h.full.1 hf m (zbd hb)
 rw [zs5 hb]at e
 exact (ydv (fun i j hi hj hz=>(zk7 (h.rect hb)).2 i j hi hj (by unfold inZ at hz; simpa using hz)) e i j hi hj).symm
theorem zex {p:List Txt}:zf1 p=zec p:=by
 unfold zf1 zms okB okS zec
 rw [Bool.eq_iff_iff]
 simp only[qB,decide_eq_true_eq,List.all_eq_true,List.mem_range]
 have hgi:=zyu (p:=p)
 constructor
 ·rintro ⟨⟨h1,h2,h3⟩,h4,h5⟩
  have hg:zhg p=true:=by rw [hgi,h1,h2]; rfl
  have hN:Named p:=⟨hg,h5⟩
  have hr:=hN.rooms
  have h3':(rP p).length≤9:=h3
  refine ⟨⟨⟨hg,by rw [zqq hg]; exact h5⟩,by omega⟩,fun m hm=>?_⟩
  have hm':m<(rP p).length:=by omega
  exact (hN.area hm').2 (hN.full.1 h4 m hm')
 rintro ⟨⟨⟨hg,h2⟩,h3⟩,h4⟩
 have h5:zfa (gP p)=p:=by rw [← zqq hg]; exact h2
 have hN:Named p:=⟨hg,h5⟩
 have hr:=hN.rooms
 rw [hgi,qB]at hg
 have h3':(rP p).length≤9:=by omega
 exact ⟨⟨hg.1,hg.2,h3'⟩,hN.full.2 fun m hm=>(hN.area hm).1 (h4 m (by omega)),h5⟩
theorem zdv {p:List Txt} (h:zec p=true):Named p:=by
 have h2:=h
 rw [← zex]at h2
 unfold zf1 zms at h2
 simp only[qB,decide_eq_true_eq]at h2
 exact ⟨ze1 h,h2.2.2⟩
theorem zu4 {p:List Txt} (h:zec p=true):zhu (zbg p)=true:=by
 rw [← zex]at h
 unfold zf1 zms at h
 simp only[qB,decide_eq_true_eq]at h
 exact h.2.1
def cz (c:UInt8):Int:=(c.toNat:Int) - 97
theorem ydy {a b:UInt8}:(cz a=cz b)=(a=b):=by
 rw [yf5]
 unfold cz
 apply propext; omega
theorem ya4 (a b c d:UInt8):((dn [cz a,cz b,cz c,cz d]:Nat):Int)=zkd [a,b,c,d] 4:=by
 simp only[dn,zkd,ybz,yb0,List.mem_cons,List.not_mem_nil,or_false,ydy]
 by_cases h1:a=b <;> by_cases h2:a=c <;> by_cases h3:a=d <;> by_cases h4:b=c <;> by_cases h5:b=d <;> by_cases h6:c=d <;> simp_all [eq_comm]
theorem z0y {p:List Txt} (h:Named p) {i k:Nat} (hi:1≤i) (hi2:i<p.length) (hk:1≤k) (hk2:k<(zag p).length):((dn (four (gP p) i k):Nat):Int)=zlu p i k:=by
 obtain ⟨r1,hr1,-⟩:=zai (show i - 1<p.length by omega)
 obtain ⟨r2,hr2,-⟩:=zai hi2
 have l1:=zhh h.hg hr1
 have l2:=zhh h.hg hr2
 obtain ⟨a,ha,-⟩:=zai (show k - 1<r1.length by omega)
 obtain ⟨b,hb,-⟩:=zai (show k<r1.length by omega)
 obtain ⟨c,hc,-⟩:=zai (show k - 1<r2.length by omega)
 obtain ⟨d,hd,-⟩:=zai (show k<r2.length by omega)
 unfold four zlu
 rw [h.cell (by omega) (by omega),h.cell (by omega) (by omega),h.cell (by omega) (by omega),h.cell (by omega) (by omega),zd3 hr1 ha,zd3 hr1 hb,zd3 hr2 hc,zd3 hr2 hd]
 simp only[hr1,hr2,ha,hb,hc,hd]
 exact ya4 a b c d
theorem zu6 {p:List Txt} (h:Named p) {many:Int} {i:Nat} (hi:1≤i) (hi2:i<p.length):∀ k,k≤(zag p).length→zcx (gP p) many i k=zhr p many i k
 | 0,_=>rfl
 | k+1,hk=>by
  unfold zcx zhr
  rw [zu6 h hi hi2 k (by omega)]
  by_cases h1:1≤k
  ·rw [z0y h hi hi2 h1 (by omega)]
  rw [if_neg (fun e=>h1 e.1),if_neg (fun e=>h1 e.1)]
theorem z97 {p:List Txt} (h:Named p) {many:Int}:∀ i,i≤p.length→zsd (gP p) many (zag p).length i=zpt p many (zag p).length i
 | 0,_=>rfl
 | i+1,hi=>by
  unfold zsd zpt
  rw [z97 h i (by omega)]
  by_cases h1:1≤i
  ·rw [zu6 h h1 (by omega) _ (qR _)]
  rw [if_neg h1,if_neg h1]
theorem zea {p:List Txt}:zcw p=zal p:=by
 unfold zcw zal
 rw [zex]
 cases hp:zec p with
 | false=>rfl
 | true =>
  rw [zfj,z97 (zdv hp) p.length (qR _)]
  rfl
theorem zcb {p:List Txt} (h:zal p=true):zec p=true:=by
 unfold zal at h
 rw [qB]at h
 exact h.1
theorem zlv {l:List Int} {x:Int}:x∈ddp l↔x∈l:=by
 have:∀ (l m:List Int),x∈l.foldl zpu m↔x∈m∨x∈l:=by
  intro l
  induction l with
  | nil=>intro m; simp
  | cons a l ih=>intro m; rw [List.foldl_cons,ih,zy3,List.mem_cons,or_assoc]
 unfold ddp
 rw [this]
 simp
def Rise (n:Nat) (rk:Nat→Nat) (M:List (List Bool)):Prop:=Sq n M∧∀ a b,a<n→b<n→zb9 M a b=true→rk a<rk b
theorem Rise.clA {n:Nat} {rk:Nat→Nat} {M:List (List Bool)} (h:Rise n rk M) {k a:Nat} (hk:k<n) (ha:a<n):Rise n rk (clA n k M a):=by
 obtain ⟨h1,h2⟩:=zya h.1 hk ha n (qR _)
 refine ⟨h1,fun x y hx hy hxy=>?_⟩
 unfold Fw.clA at hxy
 rw [h2 x y hx hy]at hxy
 split at hxy
 ·rename_i e
  obtain ⟨rfl,-⟩:=e
  rw [Bool.or_eq_true,qB]at hxy
  rcases hxy with hxy | ⟨h3,h4⟩
  ·exact h.2 x y hx hy hxy
  exact Nat.lt_trans (h.2 x k hx hk h3) (h.2 k y hk hy h4)
 exact h.2 x y hx hy hxy
theorem Rise.fold {n:Nat} {rk:Nat→Nat} {f:List (List Bool)→Nat→List (List Bool)}:∀ (i:Nat) {M:List (List Bool)},i≤n→(∀ M j,j<n→Rise n rk M→Rise n rk (f M j))→Rise n rk M→Rise n rk ((List.range i).foldl f M)
 | 0,_,_,_,h=>h
 | i+1,M,hi,hs,h=>by
  rw [zca]
  exact hs _ i (by omega) (Rise.fold i (by omega) hs h)
theorem Rise.close {n:Nat} {rk:Nat→Nat} {M:List (List Bool)} (h:Rise n rk M):Rise n rk (ze8 M):=by
 unfold ze8
 rw [h.1.1]
 exact Rise.fold n (qR _) (fun _ k hk h=>Rise.fold n (qR _) (fun _ a ha h=>h.clA hk ha) h) h
theorem Rise.relB {n:Nat} {rk:Nat→Nat} {a:Int} (ha:0≤a∧a<n):∀ {bs:List Int} {M:List (List Bool)},Rm n bs→(∀ b∈bs,rk a.toNat<rk b.toNat)→Rise n rk M→Rise n rk (relB a bs M)
 | [],_,_,_,h=>h
 | b::bs,M,hb,hr,h=>by
  have hb0:=hb b (by simp)
  refine Rise.relB ha (bs:=bs) (fun x hx=>hb x (by simp [hx])) (fun x hx=>hr x (by simp [hx])) ⟨h.1.set (by omega),fun x y hx hy hxy=>?_⟩
  rw [zkm h.1 (by omega) (by omega)]at hxy
  split at hxy
  ·rename_i e
   rw [e.1,e.2]; exact hr b (by simp)
  exact h.2 x y hx hy hxy
theorem Rise.relW {n:Nat} {rk:Nat→Nat} {bs:List Int} (hb:Rm n bs):∀ {la:List Int} {M:List (List Bool)},Rm n la→(∀ a∈la,∀ b∈bs,rk a.toNat<rk b.toNat)→Rise n rk M→Rise n rk (relW M la bs)
 | [],_,_,_,h=>h
 | a::la,M,ha,hr,h=>Rise.relW hb (la:=la) (fun x hx=>ha x (by simp [hx])) (fun x hx=>hr x (by simp [hx])) (h.relB (ha a (by simp)) hb (hr a (by simp)))
theorem Rise.empty {n:Nat} {rk:Nat→Nat}:Rise n rk (zbj n):=by
 refine ⟨zdy n,fun a b ha hb h=>?_⟩
 simp [zb9,zbj,ha,hb]at h
theorem Rise.ord {g:List (List Int)} {nh nw n:Nat} {r0 r1:Nat→Nat} (hrm:zv6 g nh nw n) (h0:∀ w,zs2 g nh nw w→w.level=false→∀ a∈(zay g w).1,∀ b∈(zay g w).2,r0 a.toNat<r0 b.toNat)
  (h1:∀ w,zs2 g nh nw w→w.level=true→∀ a∈(zay g w).1,∀ b∈(zay g w).2,r1 a.toNat<r1 b.toNat):∀ (ws:List Wall),(∀ w∈ws,zs2 g nh nw w)→∀ {M:List (List Bool) × List (List Bool)},Rise n r0 M.1→Rise n r1 M.2 →
  Rise n r0 (ws.foldl (znm g) M).1∧Rise n r1 (ws.foldl (znm g) M).2
 | [],_,_,k0,k1=>⟨k0,k1⟩
 | w::ws,hws,M,k0,k1=>by
  have hw:=hws w (by simp)
  obtain ⟨hr1,hr2⟩:=zfr hrm hw
  rw [List.foldl_cons]
  refine Rise.ord hrm h0 h1 ws (fun w hw=>hws w (by simp [hw])) ?_ ?_
  ·unfold znm
   cases hlv:w.level with
   | false=>simpa using k0.relW hr2 hr1 (h0 w hw hlv)
   | true=>simpa using k0
  unfold znm
  cases hlv:w.level with
  | false=>simpa using k1
  | true=>simpa using k1.relW hr2 hr1 (h1 w hw hlv)
theorem yeo {g:List (List Int)} {nh nw:Nat} {w:Wall} (hw:zs2 g nh nw w) {x:Int} (hx:x∈(zay g w).1):∃ line j:Nat,w.line=line∧x=(zb7 g w.level line j).1∧InL nh nw w.level line j∧znh g w.level line j=true:=by
 obtain ⟨line,fr,long,e,h1,h2⟩:=hw
 have e1:w.line.toNat=line:=by rw [e]; simp
 have e2:w.fr.toNat=fr:=by rw [e]; simp
 have e3:w.long.toNat=long:=by rw [e]; simp
 simp only[zay,e1,e2,e3]at hx
 have:=zlv.1 hx
 simp only[zbc,List.mem_map,List.mem_range]at this
 obtain ⟨j,hj,rfl⟩:=this
 have h3:=h2 (fr+j) (by omega) (by omega)
 exact ⟨line,fr+j,by rw [e],rfl,h3.1,h3.2⟩
theorem yep {g:List (List Int)} {nh nw:Nat} {w:Wall} (hw:zs2 g nh nw w) {x:Int} (hx:x∈(zay g w).2):∃ line j:Nat,w.line=line∧x=(zb7 g w.level line j).2∧InL nh nw w.level line j∧znh g w.level line j=true:=by
 obtain ⟨line,fr,long,e,h1,h2⟩:=hw
 have e1:w.line.toNat=line:=by rw [e]; simp
 have e2:w.fr.toNat=fr:=by rw [e]; simp
 have e3:w.long.toNat=long:=by rw [e]; simp
 simp only[zay,e1,e2,e3]at hx
 have:=zlv.1 hx
 simp only[zbc,List.mem_map,List.mem_range]at this
 obtain ⟨j,hj,rfl⟩:=this
 have h3:=h2 (fr+j) (by omega) (by omega)
 exact ⟨line,fr+j,by rw [e],rfl,h3.1,h3.2⟩
def rkL (p:List Txt) (a:Nat):Nat:=match (rP p)[a]? with | some b=>b.col.toNat | none=>0
def rkA (p:List Txt) (a:Nat):Nat:=match (rP p)[a]? with | some b=>b.row.toNat | none=>0
theorem ze9 {p:List Txt} (hp:zec p=true) {i j:Nat} (hi:i<p.length) (hj:j<(zag p).length):∃ b,(rP p)[(zbb p i j).toNat]?=some b∧inB b i j=true∧b.Fit∧∀ k l,k<p.length→l<(zag p).length→inB b k l=true→zbb p k l=zbb p i j:=by
 have hN:=zdv hp
 have hr:=hN.room hi hj
 obtain ⟨b,hb,hbm⟩:=zai (show (zbb p i j).toNat<(rP p).length by omega)
 have hf:=zu4 hp
 have hsm:=zfv hN.hg
 obtain ⟨row0,hr0,hm0⟩:=zai hsm.1
 have hh:=zgo hr0
 have hw6:=hsm.2.2 row0 hm0
 have hw1:=zpd hN.hg hr0
 rw [← hh]at hw6 hw1
 have hok:=(zgb (g:=zbg p) hw6 hw1 p.length hsm.2.1).1
 rw [← z8i]at hok
 refine ⟨b,hb,?_,hok.2 b hbm,fun k l hk hl hkl=>?_⟩
 ·rw [hN.fill hf hb hi hj]; exact decide_eq_true (by omega)
 rw [hN.fill hf hb hk hl]at hkl
 have:=of_decide_eq_true hkl
 omega
theorem z42 {p:List Txt} (hp:zec p=true) {w:Wall} (hw:zs2 (gP p) p.length (zag p).length w) (hl:w.level=false):∀ a∈(zay (gP p) w).1,∀ b∈(zay (gP p) w).2,rkL p a.toNat<rkL p b.toNat:=by
 intro a ha b hb
 have hN:=zdv hp
 obtain ⟨L,j,e1,rfl,⟨h1,h2⟩,h3⟩:=yeo hw ha
 obtain ⟨L',j',e2,rfl,⟨k1,k2⟩,k3⟩:=yep hw hb
 obtain rfl:L=L':=by omega
 simp only[hl,qF,if_false]at h2 k2
 unfold znh at k3
 simp only[hl,zb7,qF,if_false,decide_eq_true_eq]at k3 ⊢
 rw [hN.cell k2.2 (by omega),hN.cell k2.2 k2.1]at k3
 rw [hN.cell h2.2 (by omega),hN.cell k2.2 k2.1]
 obtain ⟨r1,hr1,q1,f1,-⟩:=ze9 hp h2.2 (show L - 1<(zag p).length by omega)
 obtain ⟨r2,hr2,q2,f2,c2⟩:=ze9 hp k2.2 k2.1
 unfold rkL
 rw [hr1,hr2]
 simp only
 have c3:=c2 j' (L - 1) k2.2 (by omega)
 unfold inB at q1 q2 c3
 unfold Rect.Fit at f1 f2
 simp only[qB,decide_eq_true_eq]at q1 q2 c3
 by_cases hc:r2.col<(L:Int)
 ·exact absurd (c3 (by omega)) k3
 omega
theorem z1m {p:List Txt} (hp:zec p=true) {w:Wall} (hw:zs2 (gP p) p.length (zag p).length w) (hl:w.level=true):∀ a∈(zay (gP p) w).1,∀ b∈(zay (gP p) w).2,rkA p a.toNat<rkA p b.toNat:=by
 intro a ha b hb
 have hN:=zdv hp
 obtain ⟨L,j,e1,rfl,⟨h1,h2⟩,h3⟩:=yeo hw ha
 obtain ⟨L',j',e2,rfl,⟨k1,k2⟩,k3⟩:=yep hw hb
 obtain rfl:L=L':=by omega
 simp only[hl,if_true]at h2 k2
 unfold znh at k3
 simp only[hl,zb7,if_true,decide_eq_true_eq]at k3 ⊢
 rw [hN.cell (by omega) k2.2,hN.cell k2.1 k2.2]at k3
 rw [hN.cell (by omega) h2.2,hN.cell k2.1 k2.2]
 obtain ⟨r1,hr1,q1,f1,-⟩:=ze9 hp (show L - 1<p.length by omega) h2.2
 obtain ⟨r2,hr2,q2,f2,c2⟩:=ze9 hp k2.1 k2.2
 unfold rkA
 rw [hr1,hr2]
 simp only
 have c3:=c2 (L - 1) j' (by omega) k2.2
 unfold inB at q1 q2 c3
 unfold Rect.Fit at f1 f2
 simp only[qB,decide_eq_true_eq]at q1 q2 c3
 by_cases hc:r2.row<(L:Int)
 ·exact absurd (c3 (by omega)) k3
 omega
theorem yel {p:List Txt} (hp:zec p=true) (b:Nat):rkL p b≤100∧rkA p b≤100:=by
 have hN:=zdv hp
 have hsm:=zfv hN.hg
 obtain ⟨row0,hr0,hm0⟩:=zai hsm.1
 have hh:=zgo hr0
 have hw6:=hsm.2.2 row0 hm0
 have hw1:=zpd hN.hg hr0
 rw [← hh]at hw6 hw1
 have hok:=(zgb (g:=zbg p) hw6 hw1 p.length hsm.2.1).1
 rw [← z8i]at hok
 unfold rkL rkA
 cases hb:(rP p)[b]? with
 | none=>simp
 | some r =>
  have:=hok.2 r (List.mem_of_getElem? hb)
  unfold Rect.Fit at this
  simp only
  omega
theorem yb6 {p:List Txt} (hp:zec p=true):Up (zw4 (gP p) p.length (zag p).length (rP p).length) (rP p).length (rkL p)∧Up (znv (gP p) p.length (zag p).length (rP p).length) (rP p).length (rkA p):=by
 have h:=Rise.ord (r0:=rkL p) (r1:=rkA p) (zb2 (p:=p)) (fun w hw hl=>z42 hp hw hl) (fun w hw hl=>z1m hp hw hl) (zb8 (gP p) p.length (zag p).length) zc7 (M:=(zbj (rP p).length,zbj (rP p).length)) Rise.empty Rise.empty
 have h0:=h.1.close
 have h1:=h.2.close
 exact ⟨⟨h0.1,h0.2,fun b=>(yel hp b).1⟩,⟨h1.1,h1.2,fun b=>(yel hp b).2⟩⟩
theorem zsa {p:List Txt} (hp:zcw p=true):zv6 (gP p) p.length (w0 (zbg p)) (rP p).length∧(∃ rk,Up (zw4 (gP p) p.length (w0 (zbg p)) (rP p).length) (rP p).length rk)∧∃ rk,Up (znv (gP p) p.length (w0 (zbg p)) (rP p).length) (rP p).length rk:=by
 rw [zea]at hp
 have h:=yb6 (zcb hp)
 rw [zfj]
 exact ⟨zb2,⟨_,h.1⟩,⟨_,h.2⟩⟩
section
open Go Go.ChangeShapes Go.WideShapes Go.ChangeAt Go.RowKit
set_option maxRecDepth 100000 in
theorem z8t {W:World} {base:Nat} {t e:TypeId} {a:Addr} {len cap:Nat} (ht:Tryz.prog.underlying t=some (.slice e)) (hval:Value.okWide Tryz.prog W .any base t (.slice (some a) len cap)):a.spot=none∧a.block<W.heap.size:=by
 simp only[Value.okWide,ht,Cell.okWide,Cell.ok]at hval
 obtain ⟨-,-,-,hsp,row,cells,hsh,-⟩:=hval
 refine ⟨hsp,?_⟩
 unfold World.shape? at hsh
 rcases Nat.lt_or_ge a.block W.heap.size with h | h
 ·exact h
 rw [Array.getElem?_eq_none h]at hsh; cases hsh
end
section
open Go Go.ChangeShapes Go.WideShapes Go.ChangeAt Go.RowKit
set_option maxRecDepth 100000 in
theorem z85 {H:Type} {enc:TypeId × Value→H} {W:World} {base:Nat} {v:Value} {d:DataW H} {ps:List MemPlace} (hval:Value.okWide Tryz.prog W .any base 22 v) (h:DataW.Trod enc Tryz.prog W 0 (fun _=>true) true 22 v d ps) :
  ∃ p:Txt,VI W.heap (fun b=>b<W.heap.size) (.sl (p.map eB) p.length) v∧p.length≤9223372036854775807:=by
 obtain ⟨a0,len,cap,rfl⟩:=okWide_slice Tryz.underlying22 hval
 obtain ⟨fuel,hf⟩:=h
 rcases open_ints Tryz.underlying22 Tryz.underlying5 (by kernel_rfl) hf with ⟨hcs,hx⟩ | ⟨a,len',cap',zs,hcs,-,hl,hm,hz,hx,hcell,hwf⟩
 ·simp [Value.cells]at hcs
  obtain ⟨rfl,rfl,rfl⟩:=hcs
  exact ⟨[],.sl0,by simp⟩
 simp [Value.cells]at hcs
 obtain ⟨rfl,rfl,rfl⟩:=hcs
 obtain ⟨hsp,hlt⟩:=z8t Tryz.underlying22 hval
 obtain ⟨b,off,spot⟩:=a
 simp only at hsp hlt
 subst hsp
 simp only[if_true]at hz
 have hml:maxLen≤9223372036854775807:=by decide
 have hlen:((zs.take len).map fun n:Int=>UInt8.ofNat n.toNat).length=len:=by simp; omega
 have hget:∀ (i:Nat) c,((zs.take len).map fun n:Int=>UInt8.ofNat n.toNat)[i]?=some c→i<len∧(c.toNat:Int)=zs.getD i 0:=by
  intro i c hc
  rw [List.getElem?_map,qI]at hc
  obtain ⟨z,hz1,rfl⟩:=hc
  have hi:=zbd hz1
  simp only[List.length_take]at hi
  rw [List.getElem?_take_of_lt (by omega)]at hz1
  refine ⟨by omega,?_⟩
  rw [List.getD_eq_getElem?_getD,hz1,Option.getD_some]
  have hw:=hwf z (List.mem_of_getElem? hz1)
  have hz8:0≤z∧z<256:=by
   have e:IntKind.u8.min≤z∧z≤IntKind.u8.max:=by simpa [Lit.wf] using hw
   have e1:IntKind.u8.min=0:=by decide
   have e2:IntKind.u8.max=255:=by decide
   omega
  have e3:(UInt8.ofNat z.toNat).toNat=z.toNat % 256:=rfl
  rw [e3]
  omega
 refine ⟨(zs.take len).map fun n:Int=>UInt8.ofNat n.toNat,?_,by rw [hlen]; omega⟩
 rw [hlen]
 refine .sl _ _ b off cap (fun i => .int .u8 (zs.getD i 0)) (fun _=>hlt) hl (fun i q hq=>?_) (fun i q hq=>?_)
 ·rw [List.getElem?_map,qI]at hq
  obtain ⟨c,hc,rfl⟩:=hq
  obtain ⟨hi,-⟩:=hget i c hc
  refine ⟨rfl,?_⟩
  rw [← zfm]
  have:=hcell i (by omega)
  rwa [add_lit]at this
 rw [List.getElem?_map,qI]at hq
 obtain ⟨c,hc,rfl⟩:=hq
 obtain ⟨-,e⟩:=hget i c hc
 show VI _ _ (.int .u8 (c.toNat:Int)) _
 rw [e]
 exact .int _ _
end
theorem PC.old {P:Program} {f:FuncId} {args:List PV} {r:PV} (h:PC P f args r true):PC P f args r false :=
 ⟨h.ent,fun F w c h1 h2 h3=>(h.run F w c h1 h2 h3).mono fun _ _ ⟨cv,a,b,d⟩=>⟨cv,a,b,d.mono (fun _ hb => .inl (hb.resolve_right (by simp))) (fun _ _=>rfl)⟩⟩
section
theorem Ev.fz {P:Program} {f:FuncId} {args:List PV} {S:Store} {J J':PV→Store→Prop} (h:Ev P f args S J) (lo:Nat)
  (hJ:∀ v S1,J v S1→∃ v' S',frz S1 lo 10 v=some v'∧S1.frz lo=some S'∧J' v' S'):Ev P f args S J':=by
 refine ⟨h.ent,fun F G w cargs h1 h2 h3 h4=>(h.run F G w cargs h1 h2 h3 h4).mono ?_⟩
 rintro en w' ⟨v,cv,F',G',rfl,k1,k2,k3,k4⟩
 obtain ⟨v',S',j1,j2,j3⟩:=hJ _ _ k1
 obtain ⟨G2,rfl,i1,i2⟩:=zyr k2 j2
 exact ⟨v',cv,_,G2,rfl,j3,i1,k3.trans i2,zkk k2 (fun _ h=>h) i2 k4 j1⟩
theorem PC.all {P:Program} {f:FuncId} {xs ts:List PV} {r:PV} {fr:Bool} {S:Store} (h:PC P f ts r fr) (h1:xs.mapM (rfz S 0 10)=some ts):Ev P f xs S fun v S'=>v=r∧S'=⟨[],S.tick⟩:=by
 refine ⟨h.ent,fun F G w cargs hS hi hl hv=>?_⟩
 subst hS
 obtain ⟨m1,m2⟩:=zby _ _ h1
 have hF:∀ b,zm6 F G 0 b→b<w.heap.size:=by
  rintro b (hb | ⟨o,x,-,hx,rfl⟩)
  ·exact hi.fr b hb
  exact hi.blk_lt hx
 refine (h.run (zm6 F G 0) w cargs hF (by omega) fun i p c q1 q2=>?_).mono ?_
 ·obtain ⟨x,x1,x2⟩:=m2 i p q1
  exact zlb hi (hv i x c x1 q2) x2
 rintro e w' ⟨cv,rfl,⟨hb,hd⟩,hvi⟩
 refine ⟨r,cv,fun b=>zm6 F G 0 b∨(w.heap.size≤b∧b<w'.heap.size),⟨[],G.tick⟩,rfl,⟨rfl,rfl⟩,⟨?_,by simp,by simp,by simp,by simp,by simp,by simp⟩,⟨hb.os,hb.tape,hb.output,hb.size,fun b hb => .inl (.inl hb),?_,by simp,qR _,fun b h2 _=>hb.block b h2,by simp,hd⟩,.imm _ _ (hvi.mono ?_ (fun _ _=>rfl))⟩
 ·rintro b (h2 | h2)
  ·exact Nat.lt_of_lt_of_le (hF b h2) hb.size
  exact h2.2
 ·rintro b ((h2 | ⟨o,x,-,hx,rfl⟩) | h2)
  ·exact .inl h2
  ·exact .inr (.inr ⟨o,x,hx,rfl⟩)
  exact .inr (.inl h2.1)
 rintro b (h2 | ⟨-,h2⟩)
 ·exact .inr h2
 exact .inl h2
section
variable {P:Program} {T:Tab} {Q:Exit→Env→Store→Prop} {e:Env} {S:Store} {b:Code}
theorem zkh {all:List Oper} {K:Env→Store→Prop}:∀ (ix:List Nat) (r:List Oper) (e:Env) (S:Store),(ix.map fun i=>all[i]?)=r.map some→za8 true P T (dsts all) r e S K →
  zc5 P T all.toArray (zgl all 0) [] [] K ix e S
 | [],[],_,_,_,h=>h
 | [],_::_,_,_,hr,_=>by simp at hr
 | _::_,[],_,_,hr,_=>by simp at hr
 | i::ix,o::r,e,S,hr,h=>by
  simp only[List.map_cons,List.cons.injEq]at hr
  obtain ⟨ho,hr⟩:=hr
  unfold za8 at h
  simp only[zc5,List.getElem?_toArray,ho]
  rw [zh8]at h
  unfold zdg
  split at h
  ·rename_i hg
   rw [hg]
   simp only
   split
   ·exact zdu (fun v S' hv=>⟨.inr (by intro o ho; cases ho),zkh ix r _ _ hr hv⟩) (zil h)
   rename_i hc
   have hflat:=zjj all 0 i o ho (by simpa using hc)
   have:=zwo hflat h
   rw [zcf]at this ⊢
   obtain ⟨v,h1,h2⟩:=this
   exact ⟨v,h1,by simp,zkh ix r _ _ hr h2⟩
  ·rename_i hg; rw [hg]; exact zkh ix r _ _ hr h
  exact h.elim
theorem W.draw_p {id:Nat} {l:List Oper} (ix:List Nat) (r:List Oper) (hr:(ix.map fun i=>l[i]?)=r.map some) (hc:zfd l.toArray ix (zgl l 0) []=true) (h:∀ K:Env→Store→Prop,(∀ e S,Q .normal e S→K e S)→za8 true P T (dsts l) r e S K) :
  W P T (.region id l.toArray true) Q e S :=
 W.region_any ix (zgl l 0) [] [] hc (zkh ix r _ _ hr (h _ fun _ _ h=>h))
theorem W.seq_draw_p {id:Nat} {l:List Oper} (ix:List Nat) (r:List Oper) (hr:(ix.map fun i=>l[i]?)=r.map some) (hc:zfd l.toArray ix (zgl l 0) []=true) (h:∀ K:Env→Store→Prop,(∀ e S,W P T b Q e S→K e S)→za8 true P T (dsts l) r e S K) :
  W P T (.seq (.region id l.toArray true) b) Q e S :=
 W.seq (W.draw_p ix r hr hc fun K hK=>h K hK)
end
end
section
open Go Go.RowKit
set_option maxHeartbeats 1000000 in
set_option maxRecDepth 100000 in
theorem zwj (s:ByteArray) (w:World) :
  Calls Tryz.prog 54 #[.string s,.string ⟨#[111]⟩] w fun e w'=>e = .returned (.int .i64 ((s.data.toList.count 111:Nat):Int))∧w'=w:=by
 go_enter Tryz.func54,Tryz.ntmps54
 go_wp2
 rw [run_callFunc_extern Tryz.func102 (by kernel_rfl) (by kernel_rfl) (by kernel_rfl) (e:=Extern.BytealgCount.count) (by kernel_rfl)]
 rw [Lib.run_countString]
 simp only[Result.andThen]
 rw [Oper.upon_value]
 go_wp2
 go_ret
 exact ⟨rfl,rfl⟩
theorem zye (s:List UInt8):PC Tryz.prog 54 [.str s,.str [111]] (.int .i64 ((s.count 111:Nat):Int)) true:=by
 refine ⟨(⟨Tryz.func54,by kernel_rfl,rfl,by kernel_rfl⟩:Fn Tryz.prog 54 _ _).ent,fun F w cargs hF hl hv=>?_⟩
 obtain ⟨cs⟩:=cargs
 match cs,hl,hv with
 | [c0,c1],_,hv =>
  have h0:=hv 0 _ _ rfl rfl
  have h1:=hv 1 _ _ rfl rfl
  cases h0 with
  | str _ b0 e0 =>
   cases h1 with
   | str _ b1 e1 =>
    have hb:b1=⟨#[111]⟩:=by
     obtain ⟨d⟩:=b1
     congr 1
     exact Array.toList_inj.1 e1
    subst hb
    refine (zwj b0 w).mono ?_
    rintro e w' ⟨rfl,rfl⟩
    exact ⟨_,rfl,⟨RowKit.Below.refl _ _,qR _⟩,by rw [e0]; exact .int _ _⟩
end
inductive Tm where
 | o
 | un (s:UInt8) (t:Tm)
 | bin (s:UInt8) (a b:Tm)
def rd:Nat→Txt→Option (Tm × Txt)
 | 0,_=>none
 | _+1,[]=>none
 | f+1,c::r =>
  if c=111 then some (.o,r)
  else if c=62∨c=94 then match rd f r with
   | some (t,r)=>some (.un c t,r)
   | none=>none
  else if c=40 then match rd f r with
   | some (a,m::r)=>if m=124∨m=45 then match rd f r with
    | some (b,e::r)=>if e=41 then some (.bin m a b,r) else none
    | _=>none else none
   | _=>none
  else none
theorem zzs:∀ (f:Nat) {s:Txt} {t:Tm} {r:Txt},rd f s=some (t,r)→r.length<s.length∧∃ k,r=s.drop k:=by
 intro f
 induction f with
 | zero=>intro s t r h; simp [rd]at h
 | succ f ih =>
  intro s t r h
  cases s with
  | nil=>simp [rd]at h
  | cons c s =>
   simp only[rd]at h
   split at h
   ·cases h; exact ⟨by simp,1,rfl⟩
   split at h
   ·split at h
    ·rename_i t' r' e
     cases h
     obtain ⟨h1,k,h2⟩:=ih e
     exact ⟨by simp; omega,k+1,by simpa using h2⟩
    cases h
   split at h
   ·split at h
    ·rename_i a m r1 e
     obtain ⟨h1,k,h2⟩:=ih e
     split at h
     ·split at h
      ·rename_i b e2 r2 e3
       obtain ⟨h3,k3,h4⟩:=ih e3
       split at h
       ·cases h
        simp only[List.length_cons]at h1 h3 ⊢
        refine ⟨by omega,k+k3+3,?_⟩
        have e4:r1=s.drop (k+1):=by
         have:=congrArg (List.drop 1) h2
         simpa [List.drop_drop,Nat.add_comm] using this
        have e5:r=r1.drop (k3+1):=by
         have:=congrArg (List.drop 1) h4
         simpa [List.drop_drop,Nat.add_comm] using this
        rw [e5,e4,List.drop_drop,show k+k3+3=(k+1+(k3+1))+1 by omega,List.drop_succ_cons]
       cases h
      cases h
     cases h
    cases h
   cases h
theorem ycc:∀ (f:Nat) {s:Txt} {g:Nat},s.length<f→s.length<g→rd f s=rd g s:=by
 intro f
 induction f with
 | zero=>intro s g h; omega
 | succ f ih =>
  intro s g hf hg
  obtain ⟨g,rfl⟩:∃ k,g=k+1:=⟨g - 1,by omega⟩
  cases s with
  | nil=>simp [rd]
  | cons c s =>
   simp only[List.length_cons]at hf hg
   have e:=ih (s:=s) (g:=g) (by omega) (by omega)
   simp only[rd,e]
   cases h:rd g s with
   | none=>rfl
   | some q =>
    obtain ⟨a,r⟩:=q
    have hs:=(zzs g h).1
    cases r with
    | nil=>rfl
    | cons m r =>
     simp only[List.length_cons]at hs
     have e2:=ih (s:=r) (g:=g) (by omega) (by omega)
     simp only[e2]
def rdS:Nat→Txt→Nat→Tm × Nat
 | 0,_,_=>(.o,0)
 | f+1,s,k=>match s[k]? with
  | none=>(.o,0)
  | some c =>
   if c=111 then (.o,k+1)
   else if c=62∨c=94 then (.un c (rdS f s (k+1)).1,(rdS f s (k+1)).2)
   else if c=40 then
    if (rdS f s (k+1)).2=0 then (.o,0) else
    match s[(rdS f s (k+1)).2]? with
    | none=>(.o,0)
    | some m=>if m=124∨m=45 then
      if (rdS f s ((rdS f s (k+1)).2+1)).2=0 then (.o,0) else
      match s[(rdS f s ((rdS f s (k+1)).2+1)).2]? with
      | none=>(.o,0)
      | some e=>if e=41 then (.bin m (rdS f s (k+1)).1 (rdS f s ((rdS f s (k+1)).2+1)).1,(rdS f s ((rdS f s (k+1)).2+1)).2+1) else (.o,0)
     else (.o,0)
   else (.o,0)
theorem z99:∀ (f:Nat) (s:Txt) (k:Nat),match rd f (s.drop k) with
  | some (t,r)=>(rdS f s k).1=t∧1≤(rdS f s k).2∧(rdS f s k).2≤s.length∧r=s.drop (rdS f s k).2
  | none=>(rdS f s k).2=0:=by
 intro f
 induction f with
 | zero=>intro s k; simp [rd,rdS]
 | succ f ih =>
  intro s k
  cases hk:s[k]? with
  | none =>
   rw [List.drop_of_length_le (List.getElem?_eq_none_iff.1 hk)]
   simp [rd,rdS,hk]
  | some c =>
   have hlt:=(List.getElem?_eq_some_iff.1 hk).1
   have hd:s.drop k=c::s.drop (k+1):=by
    rw [List.drop_eq_getElem_cons hlt,(List.getElem?_eq_some_iff.1 hk).2]
   rw [hd]
   have i1:=ih s (k+1)
   simp only[rd,rdS,hk]
   by_cases c1:c=111
   ·simp only[c1,if_true]; exact ⟨trivial,by omega,by omega,trivial⟩
   simp only[c1,if_false]
   by_cases c2:c=62∨c=94
   ·simp only[c2,if_true]
    cases h:rd f (s.drop (k+1)) with
    | none=>rw [h]at i1; simpa using i1
    | some q =>
     obtain ⟨t,r⟩:=q
     rw [h]at i1
     simp only at i1 ⊢
     exact ⟨by rw [i1.1],i1.2⟩
   simp only[c2,if_false]
   by_cases c3:c=40
   ·simp only[c3,if_true]
    cases h:rd f (s.drop (k+1)) with
    | none=>rw [h]at i1; simp only at i1 ⊢; rw [if_pos i1]
    | some q =>
     obtain ⟨a,r⟩:=q
     rw [h]at i1
     simp only at i1
     obtain ⟨j1,j2,j3,j4⟩:=i1
     generalize hp:rdS f s (k+1)=p at *
     obtain ⟨pa,pe⟩:=p
     simp only at j1 j2 j3 j4 ⊢
     rw [if_neg (show ¬ pe=0 by omega)]
     cases hm:s[pe]? with
     | none =>
      rw [List.drop_of_length_le (List.getElem?_eq_none_iff.1 hm)]at j4
      subst j4; simp
     | some m =>
      have hmlt:=(List.getElem?_eq_some_iff.1 hm).1
      have hdm:s.drop pe=m::s.drop (pe+1):=by rw [List.drop_eq_getElem_cons hmlt,(List.getElem?_eq_some_iff.1 hm).2]
      rw [hdm]at j4
      subst j4
      simp only
      by_cases c4:m=124∨m=45
      ·simp only[c4,if_true]
       have i2:=ih s (pe+1)
       cases h2:rd f (s.drop (pe+1)) with
       | none=>rw [h2]at i2; simp only at i2 ⊢; rw [if_pos i2]
       | some q2 =>
        obtain ⟨b,r2⟩:=q2
        rw [h2]at i2
        simp only at i2
        obtain ⟨k1,k2,k3,k4⟩:=i2
        generalize hp2:rdS f s (pe+1)=p2 at *
        obtain ⟨pb,pf⟩:=p2
        simp only at k1 k2 k3 k4 ⊢
        rw [if_neg (show ¬ pf=0 by omega)]
        cases he:s[pf]? with
        | none =>
         rw [List.drop_of_length_le (List.getElem?_eq_none_iff.1 he)]at k4
         subst k4; simp
        | some e =>
         have helt:=(List.getElem?_eq_some_iff.1 he).1
         have hde:s.drop pf=e::s.drop (pf+1):=by rw [List.drop_eq_getElem_cons helt,(List.getElem?_eq_some_iff.1 he).2]
         rw [hde]at k4
         subst k4
         simp only
         by_cases c5:e=41
         ·simp only[c5,if_true]
          exact ⟨by rw [j1,k1],by omega,by omega,trivial⟩
         simp only[c5,if_false]
      simp only[c4,if_false]
   simp only[c3,if_false]
section
structure Pl (c:Nat→Nat→Nat) (H W:Nat):Prop where
 rect:∀ {i j i' j':Nat} (k l:Nat),i<H→i'<H→j<W→j'<W→c i j=c i' j'→min i i'≤k→k≤max i i'→min j j'≤l→l≤max j j'→c k l=c i j
 plain:∀ {i j:Nat},i+1<H→j+1<W→c i j≠c i (j+1)→c (i+1) j≠c (i+1) (j+1)→c i j≠c (i+1) j→c i (j+1)=c (i+1) (j+1)
def DL (c:Nat→Nat→Nat) (H W a b:Nat):Prop:=∃ j i1 i2,j+1<W∧i1<H∧i2<H∧(∀ r,min i1 i2≤r→r≤max i1 i2→c r j≠c r (j+1))∧a=c i1 j∧b=c i2 (j+1)
def DU (c:Nat→Nat→Nat) (H W a b:Nat):Prop:=∃ i j1 j2,i+1<H∧j1<W∧j2<W∧(∀ k,min j1 j2≤k→k≤max j1 j2→c i k≠c (i+1) k)∧a=c i j1∧b=c (i+1) j2
theorem zix {P:Nat→Prop}:∀ {n:Nat},P n→∃ m,m≤n∧P m∧∀ k,k<m→¬ P k:=by
 intro n
 induction n using Nat.strongRecOn with
 | _ n ih =>
  intro h
  by_cases c:∃ k,k<n∧P k
  ·obtain ⟨k,hk,hp⟩:=c
   obtain ⟨m,h1,h2,h3⟩:=ih k hk hp
   exact ⟨m,by omega,h2,h3⟩
  exact ⟨n,qR _,h,fun k hk hp=>c ⟨k,hk,hp⟩⟩
theorem zwq {P:Nat→Prop} {i:Nat}:∀ {n:Nat},i≤n→P i→¬ P n→∃ e,i≤e∧e+1≤n∧P e∧¬ P (e+1)
 | 0,h,h1,h2=>by
    obtain rfl:i=0:=by omega
    exact absurd h1 h2
 | n+1,h,h1,h2=>by
  by_cases c:P n
  ·by_cases e:i=n+1
   ·subst e; exact absurd h1 h2
   exact ⟨n,by omega,qR _,c,h2⟩
  by_cases e:i=n+1
  ·subst e; exact absurd h1 h2
  obtain ⟨m,k1,k2,k3⟩:=zwq (P:=P) (i:=i) (n:=n) (by omega) h1 c
  exact ⟨m,k1,by omega,k3⟩
section
variable {c:Nat→Nat→Nat} {H W:Nat}
def Stair (c:Nat→Nat→Nat) (H W:Nat) (Z:Nat→Prop):Prop:=∀ {i j:Nat} (i' j':Nat),i<H→j<W→i'≤i→j'≤j→Z (c i j)→Z (c i' j')
def Free (c:Nat→Nat→Nat) (H W:Nat) (Z:Nat→Prop):Prop:=∃ i j,i<H∧j<W∧¬ Z (c i j)∧(∀ a,DL c H W a (c i j)∨DU c H W a (c i j)→Z a)∧Stair c H W fun x=>Z x∨x=c i j
theorem z3k (h:Pl c H W) {Z:Nat→Prop} (hZ:Stair c H W Z) {i j:Nat} (hi:i<H) (hj:j<W) (hn:¬ Z (c i j)) (hu:∀ i',i'+1=i→Z (c i' j)) (hl:∀ j',j'+1=j→Z (c i j'))
  (hN:∀ i',i'+1=i→∀ k,j≤k→k<W→(∀ l,j≤l→l≤k→c i' l≠c i l)→Z (c i' k))
  (hA:∀ j',j'+1=j→∀ k,i≤k→k<H→(∀ r,i≤r→r≤k→c r j'≠c r j)→Z (c k j')):Free c H W Z:=by
 have up:∀ {i2 j2:Nat},i2<H→j2<W→c i2 j2=c i j→i≤i2:=by
  intro i2 j2 h1 h2 h3
  by_cases q:i≤i2
  ·exact q
  have h4:=hu (i - 1) (by omega)
  rw [h.rect (i - 1) j h1 hi h2 hj h3 (by omega) (by omega) (by omega) (by omega),h3]at h4
  exact absurd h4 hn
 have lf:∀ {i2 j2:Nat},i2<H→j2<W→c i2 j2=c i j→j≤j2:=by
  intro i2 j2 h1 h2 h3
  by_cases q:j≤j2
  ·exact q
  have h4:=hl (j - 1) (by omega)
  rw [h.rect i (j - 1) h1 hi h2 hj h3 (by omega) (by omega) (by omega) (by omega),h3]at h4
  exact absurd h4 hn
 have runL:∀ {i2 j2 r j':Nat},i2<H→j2<W→c i2 j2=c i j→j'+1=j→i≤r→r≤i2→c r j'≠c r j:=by
  intro i2 j2 r j' h1 h2 h3 h4 h5 h6 h7
  have h8:=lf h1 h2 h3
  have e1:c r j=c i j:=by
   rw [h.rect r j h1 hi h2 hj h3 (by omega) (by omega) (by omega) (by omega),h3]
  have h9:=lf (i2:=r) (j2:=j') (by omega) (by omega) (by rw [h7,e1])
  omega
 have runU:∀ {i2 j2 l i':Nat},i2<H→j2<W→c i2 j2=c i j→i'+1=i→j≤l→l≤j2→c i' l≠c i l:=by
  intro i2 j2 l i' h1 h2 h3 h4 h5 h6 h7
  have h8:=up h1 h2 h3
  have e1:c i l=c i j:=by
   rw [h.rect i l h1 hi h2 hj h3 (by omega) (by omega) (by omega) (by omega),h3]
  have h9:=up (i2:=i') (j2:=l) (by omega) (by omega) (by rw [h7,e1])
  omega
 refine ⟨i,j,hi,hj,hn,?_,?_⟩
 ·rintro a (⟨j0,i1,i2,k1,k2,k3,run,rfl,k4⟩ | ⟨i0,j1,j2,k1,k2,k3,run,rfl,k4⟩)
  ·have h1:=lf k3 k1 k4.symm
   have e:j0+1=j:=by
    by_cases q:j0+1=j
    ·exact q
    have:=h.rect i2 j0 k3 hi k1 hj k4.symm (by omega) (by omega) (by omega) (by omega)
    exact absurd this (run i2 (by omega) (by omega))
   subst e
   have h2:=up k3 k1 k4.symm
   by_cases q:i1<i
   ·exact hZ i1 j0 hi (by omega) (by omega) (qR _) (hl j0 rfl)
   refine hA j0 rfl i1 (by omega) k2 fun r r1 r2=>?_
   by_cases q2:min i1 i2≤r
   ·exact run r q2 (by omega)
   exact runL k3 k1 k4.symm rfl r1 (by omega)
  have h1:=up k1 k3 k4.symm
  have e:i0+1=i:=by
   by_cases q:i0+1=i
   ·exact q
   have:=h.rect i0 j2 k1 hi k3 hj k4.symm (by omega) (by omega) (by omega) (by omega)
   exact absurd this (run j2 (by omega) (by omega))
  subst e
  have h2:=lf k1 k3 k4.symm
  by_cases q:j1<j
  ·exact hZ i0 j1 (by omega) hj (qR _) (by omega) (hu i0 rfl)
  refine hN i0 rfl j1 (by omega) k2 fun r r1 r2=>?_
  by_cases q2:min j1 j2≤r
  ·exact run r q2 (by omega)
  exact runU k1 k3 k4.symm rfl r1 (by omega)
 intro i2 k2 i' j' h1 h2 h3 h4 h5
 rcases h5 with h5 | h5
 ·exact .inl (hZ i' j' h1 h2 h3 h4 h5)
 have q1:=up h1 h2 h5
 have q2:=lf h1 h2 h5
 by_cases q3:i'<i
 ·left
  refine hZ i' j' (show i - 1<H by omega) h2 (by omega) h4 (hN (i - 1) (by omega) k2 q2 h2 fun l l1 l2=>runU h1 h2 h5 (by omega) l1 l2)
 by_cases q4:j'<j
 ·left
  exact hZ i' j' h1 (show j - 1<W by omega) h3 (by omega) (hA (j - 1) (by omega) i2 q1 h1 fun r r1 r2=>runL h1 h2 h5 (by omega) r1 r2)
 right
 rw [h.rect i' j' h1 hi h2 hj h5 (by omega) (by omega) (by omega) (by omega),h5]
theorem z3j (h:Pl c H W) {Z:Nat→Prop} (hZ:Stair c H W Z):∀ (j i:Nat),i<H→j<W→¬ Z (c i j)→(∀ i',i'+1=i→Z (c i' j))→(∀ j',j'+1=j→Z (c i j')) →
  (∀ i',i'+1=i→∀ k,j≤k→k<W→(∀ l,j≤l→l≤k→c i' l≠c i l)→Z (c i' k))→Free c H W Z:=by
 intro j
 induction j using Nat.strongRecOn with
 | _ j ih =>
  intro i hi hj hn hu hl hN
  by_cases hA:∀ j',j'+1=j→∀ k,i≤k→k<H→(∀ r,i≤r→r≤k→c r j'≠c r j)→Z (c k j')
  ·exact z3k h hZ hi hj hn hu hl hN hA
  simp only[Classical.not_forall]at hA
  obtain ⟨j',rfl,k,h1,h2,run,h3⟩:=hA
  obtain ⟨e,e1,e2,e3,e4⟩:=zwq (P:=fun r=>Z (c r j')) h1 (hl j' rfl) h3
  obtain ⟨m,m1,m2,m3⟩:=zix (P:=fun l=>¬ Z (c (e+1) l)) e4
  refine ih m (by omega) (e+1) (by omega) (by omega) m2 ?_ ?_ ?_
  ·intro i' hi'
   obtain rfl:i'=e:=by omega
   exact hZ i' m (by omega) (by omega) (qR _) m1 e3
  ·intro l hl'
   exact Classical.not_not.1 (m3 l (by omega))
  intro i' hi' k2 k3 k4 k5
  obtain rfl:i'=e:=by omega
  by_cases q:k2≤j'
  ·exact hZ i' k2 (by omega) (by omega) (qR _) q e3
  have q1:=k5 (j'+1) (by omega) (by omega)
  have q2:=h.plain (i:=i') (j:=j') (by omega) hj (run i' (by omega) (by omega)) (run (i'+1) (by omega) (by omega)) (fun q3=>e4 (by rw [← q3]; exact e3))
  exact absurd q2 q1
theorem ybc (h:Pl c H W) {Z:Nat→Prop} (hZ:Stair c H W Z) (hx:∃ i j,i<H∧j<W∧¬ Z (c i j)):Free c H W Z:=by
 obtain ⟨i,hx⟩:=hx
 obtain ⟨i,-,⟨j,h1,h2,h3⟩,h4⟩:=zix (P:=fun i=>∃ j,i<H∧j<W∧¬ Z (c i j)) hx
 obtain ⟨j,j1,j2,j3⟩:=zix (P:=fun j=>¬ Z (c i j)) h3
 have all:∀ i',i'+1=i→∀ k,k<W→Z (c i' k):=fun i' e k hk=>Classical.byContradiction fun q=>h4 i' (by omega) ⟨k,by omega,hk,q⟩
 exact z3j h hZ j i h1 (by omega) j2 (fun i' e=>all i' e j (by omega)) (fun j' e=>Classical.not_not.1 (j3 j' (by omega))) (fun i' e k _ hk _=>all i' e k hk)
theorem z1g (h:Pl c H W) {n:Nat} (hc:∀ i j,i<H→j<W→c i j<n):∀ (m:Nat) (Z:Nat→Bool),Stair c H W (fun x=>Z x=true)→(List.range n).countP (fun x => !Z x)≤m→∃ f:Nat→Nat,∀ a b,Z a=false→Z b=false→DL c H W a b∨DU c H W a b→f a<f b:=by
 have cell:∀ {a b:Nat},DL c H W a b∨DU c H W a b→∃ i j,i<H∧j<W∧a=c i j:=by
  rintro a b (⟨j0,i1,i2,k1,k2,k3,run,rfl,k4⟩ | ⟨i0,j1,j2,k1,k2,k3,run,rfl,k4⟩)
  ·exact ⟨i1,j0,k2,by omega,rfl⟩
  exact ⟨i0,j1,by omega,k2,rfl⟩
 intro m
 induction m with
 | zero =>
  intro Z hZ hm
  refine ⟨fun _=>0,fun a b ha hb hd=>?_⟩
  obtain ⟨i,j,hi,hj,rfl⟩:=cell hd
  have h0:(List.range n).countP (fun x => !Z x)=0:=by omega
  rw [List.countP_eq_zero]at h0
  exact absurd (show (!Z (c i j))=true by rw [ha]; rfl) (h0 _ (by simpa using hc i j hi hj))
 | succ m ih =>
  intro Z hZ hm
  by_cases hx:∃ i j,i<H∧j<W∧¬ (Z (c i j)=true)
  ·obtain ⟨i,j,hi,hj,hn,hp,hs⟩:=ybc h (Z:=fun x=>Z x=true) hZ hx
   have hZ':Stair c H W (fun x=>(Z x || x == c i j)=true):=by
    intro i1 j1 i' j' h1 h2 h3 h4 h5
    have h6:=hs i' j' h1 h2 h3 h4 (by simpa using h5)
    simpa using h6
   have hlt:(List.range n).countP (fun x => !(Z x || x == c i j))<(List.range n).countP (fun x => !Z x):=by
    refine zne (fun x _ hx=>?_) ⟨c i j,by simpa using hc i j hi hj,by simpa using hn,by simp⟩
    cases hz:Z x with
    | false=>rfl
    | true=>rw [hz]at hx; simp at hx
   obtain ⟨f,hf⟩:=ih (fun x=>Z x || x == c i j) hZ' (by omega)
   refine ⟨fun x=>if x=c i j then 0 else f x+1,fun a b ha hb hd=>?_⟩
   have hbA:b≠c i j:=by
    rintro rfl
    have q:Z a=true:=hp a hd
    rw [ha]at q; cases q
   simp only[if_neg hbA]
   by_cases haA:a=c i j
   ·simp only[if_pos haA]; omega
   simp only[if_neg haA]
   have:=hf a b (by simp [ha,haA]) (by simp [hb,hbA]) hd
   omega
  refine ⟨fun _=>0,fun a b ha hb hd=>?_⟩
  obtain ⟨i,j,hi,hj,rfl⟩:=cell hd
  exact absurd ⟨i,j,hi,hj,by rw [ha]; exact Bool.false_ne_true⟩ hx
theorem zku (h:Pl c H W) {n:Nat} (hc:∀ i j,i<H→j<W→c i j<n):∃ f:Nat→Nat,∀ a b,DL c H W a b∨DU c H W a b→f a<f b:=by
 obtain ⟨f,hf⟩:=z1g h hc _ (fun _=>false) (fun _ _ _ _ _ _ h=>h) (qR _)
 exact ⟨f,fun a b hd=>hf a b rfl rfl hd⟩
def fl (c:Nat→Nat→Nat) (H i j:Nat):Nat:=c (H - 1 - i) j
def tr (c:Nat→Nat→Nat) (i j:Nat):Nat:=c j i
theorem Pl.dn (h:Pl c H W):Pl (fl c H) H W:=by
 refine ⟨fun k l h1 h2 h3 h4 h5 h6 h7 h8 h9=>?_,fun {i j} h1 h2 h3 h4 h5=>?_⟩
 ·exact h.rect _ _ (by omega) (by omega) h3 h4 h5 (by omega) (by omega) h8 h9
 unfold Fw.fl at *
 obtain ⟨k,rfl⟩:∃ k,H=i+2+k:=⟨H - (i+2),by omega⟩
 rw [show i+2+k - 1 - i=k+1 by omega,show i+2+k - 1 - (i+1)=k by omega] at *
 exact (h.plain (i:=k) (j:=j) (by omega) h2 h4 h3 (Ne.symm h5)).symm
theorem Pl.ex (h:Pl c H W):Pl (tr c) W H :=
 ⟨fun k l h1 h2 h3 h4 h5 h6 h7 h8 h9=>h.rect l k h3 h4 h1 h2 h5 h8 h9 h6 h7,fun {i j} h1 h2 h3 h4 h5=>by
  unfold Fw.tr at *
  by_cases q:c j i=c j (i+1)
  ·exact absurd q h5
  by_cases q2:c (j+1) i=c (j+1) (i+1)
  ·exact q2
  exact absurd (h.plain (i:=j) (j:=i) h2 h1 h5 q2 h3) h4⟩
theorem DL.ex {a b:Nat} (h:DL (tr c) W H a b):DU c H W a b:=h
theorem DU.ex {a b:Nat} (h:DU (tr c) W H a b):DL c H W a b:=h
theorem DL.dn {a b:Nat} (h:DL (fl c H) H W a b):DL c H W a b:=by
 obtain ⟨j,i1,i2,h1,h2,h3,run,rfl,rfl⟩:=h
 refine ⟨j,H - 1 - i1,H - 1 - i2,h1,by omega,by omega,fun r r1 r2=>?_,rfl,rfl⟩
 have:=run (H - 1 - r) (by omega) (by omega)
 unfold Fw.fl at this
 rwa [show H - 1 - (H - 1 - r)=r by omega]at this
theorem DL.unfl {a b:Nat} (h:DL c H W a b):DL (fl c H) H W a b:=by
 obtain ⟨j,i1,i2,h1,h2,h3,run,rfl,rfl⟩:=h
 refine ⟨j,H - 1 - i1,H - 1 - i2,h1,by omega,by omega,fun r r1 r2=>?_,?_,?_⟩
 ·exact run (H - 1 - r) (by omega) (by omega)
 ·unfold Fw.fl; rw [show H - 1 - (H - 1 - i1)=i1 by omega]
 unfold Fw.fl; rw [show H - 1 - (H - 1 - i2)=i2 by omega]
theorem DU.dn {a b:Nat} (h:DU (fl c H) H W a b):DU c H W b a:=by
 obtain ⟨i,j1,j2,h1,h2,h3,run,rfl,rfl⟩:=h
 refine ⟨H - 1 - (i+1),j2,j1,by omega,h3,h2,fun k k1 k2=>?_,?_,?_⟩
 ·have:=run k (by omega) (by omega)
  unfold Fw.fl at this
  rw [show H - 1 - (i+1)+1=H - 1 - i by omega]
  exact Ne.symm this
 ·rfl
 unfold Fw.fl; rw [show H - 1 - (i+1)+1=H - 1 - i by omega]
theorem DU.unfl {a b:Nat} (h:DU c H W a b):DU (fl c H) H W b a:=by
 obtain ⟨i,j1,j2,h1,h2,h3,run,rfl,rfl⟩:=h
 refine ⟨H - 1 - (i+1),j2,j1,by omega,h3,h2,fun k k1 k2=>?_,?_,?_⟩
 ·unfold Fw.fl
  rw [show H - 1 - (H - 1 - (i+1))=i+1 by omega,show H - 1 - (H - 1 - (i+1)+1)=i by omega]
  exact Ne.symm (run k (by omega) (by omega))
 ·unfold Fw.fl; rw [show H - 1 - (H - 1 - (i+1))=i+1 by omega]
 unfold Fw.fl; rw [show H - 1 - (H - 1 - (i+1)+1)=i by omega]
theorem zum (h:Pl c H W) {n:Nat} (hc:∀ i j,i<H→j<W→c i j<n):∃ f:Nat→Nat,∀ a b,DL c H W a b∨DU c H W b a→f a<f b:=by
 obtain ⟨f,hf⟩:=zku h.dn (n:=n) (fun i j hi hj=>hc _ j (by omega) hj)
 refine ⟨f,fun a b hd=>hf a b ?_⟩
 rcases hd with hd | hd
 ·exact .inl hd.unfl
 exact .inr hd.unfl
inductive TC (R:Nat→Nat→Prop):Nat→Nat→Prop
 | one {a b:Nat}:R a b→TC R a b
 | tail {a b d:Nat}:TC R a b→R b d→TC R a d
theorem TC.mono {R S:Nat→Nat→Prop} (h:∀ a b,R a b→S a b) {a b:Nat} (k:TC R a b):TC S a b:=by
 induction k with
 | one k=>exact .one (h _ _ k)
 | tail _ k ih=>exact .tail ih (h _ _ k)
theorem TC.trans {R:Nat→Nat→Prop} {a b d:Nat} (h:TC R a b) (k:TC R b d):TC R a d:=by
 induction k with
 | one k=>exact .tail h k
 | tail _ k ih=>exact .tail ih k
theorem TC.rev {R S:Nat→Nat→Prop} (h:∀ a b,R a b→S b a) {a b:Nat} (k:TC R a b):TC S b a:=by
 induction k with
 | one k=>exact .one (h _ _ k)
 | tail _ k ih=>exact (TC.one (h _ _ k)).trans ih
theorem TC.last {R:Nat→Nat→Prop} {a b:Nat} (h:TC R a b):∃ x,(x=a∨TC R a x)∧R x b:=by
 cases h with
 | one k=>exact ⟨a,.inl rfl,k⟩
 | tail h k=>exact ⟨_,.inr h,k⟩
theorem TC.rise {R:Nat→Nat→Prop} {f:Nat→Nat} (h:∀ a b,R a b→f a<f b) {a b:Nat} (k:TC R a b):f a<f b:=by
 induction k with
 | one k=>exact h _ _ k
 | tail _ k ih=>exact Nat.lt_trans ih (h _ _ k)
theorem zi5 {i:Nat} (hi:i<H) {j1:Nat}:∀ {j2:Nat},j1≤j2→j2<W→c i j1≠c i j2→TC (DL c H W) (c i j1) (c i j2)
 | 0,h1,_,h3=>by
    obtain rfl:j1=0:=by omega
    exact absurd rfl h3
 | j2+1,h1,h2,h3=>by
  by_cases e:j1=j2+1
  ·subst e; exact absurd rfl h3
  by_cases q:c i j2=c i (j2+1)
  ·rw [← q]at h3 ⊢
   exact zi5 hi (by omega) (by omega) h3
  have hd:DL c H W (c i j2) (c i (j2+1)):=⟨j2,i,i,h2,hi,hi,fun r r1 r2=>by
  obtain rfl:r=i:=by omega
  exact q,rfl,rfl⟩
  by_cases q2:c i j1=c i j2
  ·rw [q2]; exact .one hd
  exact .tail (zi5 hi (by omega) (by omega) q2) hd
theorem z68 {j:Nat} (hj:j<W) {i1 i2:Nat} (h1:i1≤i2) (h2:i2<H) (h3:c i1 j≠c i2 j):TC (DU c H W) (c i1 j) (c i2 j) :=
 (zi5 (c:=tr c) (H:=W) (W:=H) hj h1 h2 h3).mono fun _ _ h=>h.ex
theorem pass (h:Pl c H W) {r q A:Nat} (hr:r+1<H) (hq:q+1<W) (hNP:c r q=c (r+1) q) (hP:c (r+1) q≠c (r+1) (q+1)) (hQ:c r (q+1)≠c (r+1) (q+1))
  (h1:c (r+1) q=A∨TC (DL c H W) A (c (r+1) q)∨TC (DU c H W) A (c (r+1) q)) (h2:c r (q+1)=A∨TC (DL c H W) A (c r (q+1))∨TC (DU c H W) A (c r (q+1))) :
  TC (DL c H W) A (c (r+1) (q+1))∨TC (DU c H W) A (c (r+1) (q+1)):=by
 have hNQ:c r q≠c r (q+1):=by
  intro e
  have:=h.rect (i:=r+1) (j:=q) (i':=r) (j':=q+1) (r+1) (q+1) hr (by omega) (by omega) hq (by rw [← hNP,e]) (by omega) (by omega) (by omega) (by omega)
  exact hP this.symm
 have dP:DL c H W (c (r+1) q) (c (r+1) (q+1)):=⟨q,r+1,r+1,hq,hr,hr,fun x x1 x2=>by
    obtain rfl:x=r+1:=by omega
    exact hP,rfl,rfl⟩
 have dQ:DU c H W (c r (q+1)) (c (r+1) (q+1)):=⟨r,q+1,q+1,hr,hq,hq,fun x x1 x2=>by
    obtain rfl:x=q+1:=by omega
    exact hQ,rfl,rfl⟩
 rcases h1 with rfl | h1 | h1
 ·exact .inl (.one dP)
 ·exact .inl (.tail h1 dP)
 rcases h2 with rfl | h2 | h2
 ·exact .inr (.one dQ)
 ·left
  obtain ⟨x,hx,j0,i1,i2,k1,k2,k3,run,rfl,k4⟩:=h2.last
  have e:j0=q:=by
   by_cases q1:j0<q
   ·have:=h.rect r q k3 (show r<H by omega) k1 hq k4.symm (by omega) (by omega) (by omega) (by omega)
    rw [← k4]at this
    exact absurd this hNQ
   by_cases q2:q<j0
   ·have:=h.rect i2 j0 k3 (show r<H by omega) k1 hq k4.symm (by omega) (by omega) (by omega) (by omega)
    exact absurd this (run i2 (by omega) (by omega))
   omega
  subst e
  have hd:DL c H W (c i1 j0) (c (r+1) (j0+1)):=by
   refine ⟨j0,i1,r+1,hq,k2,hr,fun x x1 x2=>?_,rfl,rfl⟩
   by_cases q1:min i1 i2≤x∧x≤max i1 i2
   ·exact run x q1.1 q1.2
   by_cases q2:x=r+1
   ·subst q2; exact hP
   intro q3
   have e1:=h.rect x (j0+1) k3 (show r<H by omega) k1 hq k4.symm (by omega) (by omega) (by omega) (by omega)
   rw [← k4]at e1
   have e2:=h.rect (i:=x) (j:=j0) (i':=r) (j':=j0+1) r j0 (by omega) (by omega) (by omega) hq (by rw [q3,e1]) (by omega) (by omega) (by omega) (by omega)
   rw [q3,e1]at e2
   exact hNQ e2
  rcases hx with hx | hx
  ·rw [hx]at hd; exact .one hd
  exact .tail hx hd
 exact .inr (.tail h2 dQ)
theorem zx2 (h:Pl c H W) {x y:Nat}:∀ (s:Nat) {i j:Nat},i+j≤s→x≤i→y≤j→i<H→j<W→c x y≠c i j→TC (DL c H W) (c x y) (c i j)∨TC (DU c H W) (c x y) (c i j):=by
 intro s
 induction s with
 | zero =>
  intro i j h1 h2 h3 h4 h5 h6
  obtain rfl:i=0:=by omega
  obtain rfl:j=0:=by omega
  obtain rfl:x=0:=by omega
  obtain rfl:y=0:=by omega
  exact absurd rfl h6
 | succ s ih =>
  intro i j h1 h2 h3 h4 h5 h6
  by_cases e1:x=i
  ·subst e1; exact .inl (zi5 h4 h3 h5 h6)
  by_cases e2:y=j
  ·subst e2; exact .inr (z68 h5 h2 h4 h6)
  obtain ⟨r,rfl⟩:∃ r,i=r+1:=⟨i - 1,by omega⟩
  obtain ⟨q,rfl⟩:∃ q,j=q+1:=⟨j - 1,by omega⟩
  by_cases e3:c r (q+1)=c (r+1) (q+1)
  ·rw [← e3]at h6 ⊢
   exact ih (by omega) (by omega) h3 (by omega) h5 h6
  by_cases e4:c (r+1) q=c (r+1) (q+1)
  ·rw [← e4]at h6 ⊢
   exact ih (by omega) h2 (by omega) h4 (by omega) h6
  have iP:c (r+1) q=c x y∨TC (DL c H W) (c x y) (c (r+1) q)∨TC (DU c H W) (c x y) (c (r+1) q):=by
   by_cases k:c x y=c (r+1) q
   ·exact .inl k.symm
   exact .inr (ih (by omega) h2 (by omega) h4 (by omega) k)
  have iQ:c r (q+1)=c x y∨TC (DL c H W) (c x y) (c r (q+1))∨TC (DU c H W) (c x y) (c r (q+1)):=by
   by_cases k:c x y=c r (q+1)
   ·exact .inl k.symm
   exact .inr (ih (by omega) (by omega) h3 (by omega) h5 k)
  by_cases hNP:c r q=c (r+1) q
  ·exact pass h h4 h5 hNP e4 e3 iP iQ
  by_cases hNQ:c r q=c r (q+1)
  ·have:=pass (c:=tr c) (H:=W) (W:=H) h.ex (r:=q) (q:=r) (A:=c x y) h5 h4 hNQ e3 e4 ?_ ?_
   ·rcases this with k | k
    ·exact .inr (k.mono fun _ _ h=>h.ex)
    exact .inl (k.mono fun _ _ h=>h.ex)
   ·rcases iQ with k | k | k
    ·exact .inl k
    ·exact .inr (.inr k)
    exact .inr (.inl k)
   rcases iP with k | k | k
   ·exact .inl k
   ·exact .inr (.inr k)
   exact .inr (.inl k)
  exact absurd (h.plain h4 h5 hNQ e4 hNP) e3
theorem zhn (h:Pl c H W) {x y i j:Nat} (hx:x<H) (hy:y<W) (hi:i<H) (hj:j<W) (hne:c x y≠c i j) :
  TC (DL c H W) (c x y) (c i j)∨TC (DL c H W) (c i j) (c x y)∨TC (DU c H W) (c x y) (c i j)∨TC (DU c H W) (c i j) (c x y):=by
 have key:∀ {x y i j:Nat},x<H→y<W→i<H→j<W→c x y≠c i j→x≤i→TC (DL c H W) (c x y) (c i j)∨TC (DL c H W) (c i j) (c x y)∨TC (DU c H W) (c x y) (c i j)∨TC (DU c H W) (c i j) (c x y):=by
  intro x y i j hx hy hi hj hne hle
  by_cases q:y≤j
  ·rcases zx2 h _ (qR _) hle q hi hj hne with k | k
   ·exact .inl k
   exact .inr (.inr (.inl k))
  have e1:fl c H (H - 1 - i) j=c i j:=by unfold fl; rw [show H - 1 - (H - 1 - i)=i by omega]
  have e2:fl c H (H - 1 - x) y=c x y:=by unfold fl; rw [show H - 1 - (H - 1 - x)=x by omega]
  have:=zx2 h.dn (x:=H - 1 - i) (y:=j) _ (i:=H - 1 - x) (j:=y) (qR _) (by omega) (by omega) (by omega) hy (by rw [e1,e2]; exact Ne.symm hne)
  rw [e1,e2]at this
  rcases this with k | k
  ·exact .inr (.inl (k.mono fun _ _ h=>h.dn))
  exact .inr (.inr (.inl (k.rev fun _ _ h=>h.dn)))
 by_cases q:x≤i
 ·exact key hx hy hi hj hne q
 rcases key hi hj hx hy (Ne.symm hne) (by omega) with k | k | k | k
 ·exact .inr (.inl k)
 ·exact .inl k
 ·exact .inr (.inr (.inr k))
 exact .inr (.inr (.inl k))
end
end
def asd (cf:Nat→Nat→Nat) (H1 W1:Nat) (cg:Nat→Nat→Nat) (n r k:Nat):Nat:=if k<W1 then cf (min r (H1 - 1)) k else n+cg (r - (H1 - 1)) (k - W1)
theorem zny {cf cg:Nat→Nat→Nat} {H1 W1 H2 W2 n:Nat} (hf:Pl cf H1 W1) (hg:Pl cg H2 W2) (h1:1≤H1) (h2:1≤H2) (hn:∀ i j,i<H1→j<W1→cf i j<n) :
  Pl (asd cf H1 W1 cg n) (H1+H2 - 1) (W1+W2):=by
 constructor
 ·intro i j i' j' k l hi hi' hj hj' e k1 k2 l1 l2
  unfold asd at e ⊢
  by_cases a:j<W1 <;> by_cases b:j'<W1
  ·rw [if_pos a,if_pos b]at e
   rw [if_pos a,if_pos (by omega)]
   exact hf.rect (min k (H1 - 1)) l (by omega) (by omega) a b e (by omega) (by omega) l1 l2
  ·rw [if_pos a,if_neg b]at e
   have:=hn (min i (H1 - 1)) j (by omega) a
   omega
  ·rw [if_neg a,if_pos b]at e
   have:=hn (min i' (H1 - 1)) j' (by omega) b
   omega
  rw [if_neg a,if_neg b]at e
  rw [if_neg a,if_neg (by omega)]
  rw [hg.rect (i:=i - (H1 - 1)) (j:=j - W1) (i':=i' - (H1 - 1)) (j':=j' - W1) (k - (H1 - 1)) (l - W1) (by omega) (by omega) (by omega) (by omega) (by omega) (by omega) (by omega) (by omega) (by omega)]
 intro i j hi hj e1 e2 e3
 unfold asd at e1 e2 e3 ⊢
 by_cases a:j+1<W1
 ·simp only[if_pos a,if_pos (show j<W1 by omega)]at e1 e2 e3 ⊢
  by_cases b:i+1≤H1 - 1
  ·rw [Nat.min_eq_left (show i≤H1 - 1 by omega),Nat.min_eq_left b] at *
   exact hf.plain (by omega) a e1 e2 e3
  rw [Nat.min_eq_right (show H1 - 1≤i by omega),Nat.min_eq_right (show H1 - 1≤i+1 by omega)]at e3
  exact absurd rfl e3
 by_cases b:j<W1
 ·simp only[if_pos b]at e3
  by_cases d:i+1≤H1 - 1
  ·rw [if_neg a,if_neg a,show i - (H1 - 1)=i+1 - (H1 - 1) by omega]
  rw [Nat.min_eq_right (show H1 - 1≤i by omega),Nat.min_eq_right (show H1 - 1≤i+1 by omega)]at e3
  exact absurd rfl e3
 simp only[if_neg a,if_neg b]at e1 e2 e3 ⊢
 by_cases d:i+1≤H1 - 1
 ·rw [show i - (H1 - 1)=i+1 - (H1 - 1) by omega]
 have:=hg.plain (i:=i - (H1 - 1)) (j:=j - W1) (by omega) (by omega) (by rw [show j - W1+1=j+1 - W1 by omega]; omega) (by rw [show j - W1+1=j+1 - W1 by omega,show i - (H1 - 1)+1=i+1 - (H1 - 1) by omega]; omega) (by rw [show i - (H1 - 1)+1=i+1 - (H1 - 1) by omega]; omega)
 rw [show j - W1+1=j+1 - W1 by omega,show i - (H1 - 1)+1=i+1 - (H1 - 1) by omega]at this
 rw [this]
section
section
variable {n:Nat} {M:List (List Bool)}
theorem absorb {p q:Bool}:(p || (q && p))=p:=by cases p <;> cases q <;> rfl
theorem z2z (h:Sq n M) {k:Nat} (hk:k<n):∀ i,i≤n→Sq n ((List.range i).foldl (clA n k) M) ∧
  ∀ x y,x<n→y<n→zb9 ((List.range i).foldl (clA n k) M) x y=if x<i then zb9 M x y || (zb9 M x k && zb9 M k y) else zb9 M x y
 | 0,_=>⟨h,fun x y _ _=>by simp⟩
 | i+1,hi=>by
  obtain ⟨h1,h2⟩:=z2z h hk i (by omega)
  rw [zca]
  generalize (List.range i).foldl (clA n k) M=X at h1 h2 ⊢
  obtain ⟨h3,h4⟩:=zya h1 hk (show i<n by omega) n (qR _)
  refine ⟨h3,fun x y hx hy=>?_⟩
  unfold clA
  rw [h4 x y hx hy]
  by_cases e:x=i
  ·subst e
   have e1:zb9 X x y=zb9 M x y:=by rw [h2 x y hx hy,if_neg (Nat.lt_irrefl _)]
   have e2:zb9 X x k=zb9 M x k:=by rw [h2 x k hx hk,if_neg (Nat.lt_irrefl _)]
   have e3:zb9 X k y=zb9 M k y:=by
    rw [h2 k y hk hy]
    split
    ·exact absorb
    rfl
   rw [if_pos ⟨rfl,hy⟩,if_pos (by omega),e1,e2,e3]
  rw [if_neg (fun q=>e q.1),h2 x y hx hy]
  by_cases e2:x<i
  ·rw [if_pos e2,if_pos (by omega)]
  rw [if_neg e2,if_neg (by omega)]
theorem ya0 (h:Sq n M) {k:Nat} (hk:k<n) {x y:Nat} (hx:x<n) (hy:y<n):zb9 (clK n M k) x y=(zb9 M x y || (zb9 M x k && zb9 M k y)):=by
 have:=(z2z h hk n (qR _)).2 x y hx hy
 rw [if_pos hx]at this
 exact this
theorem zyd (h:Sq n M):∀ i,i≤n→Sq n ((List.range i).foldl (clK n) M) ∧
  (∀ a b,a<n→b<n→zb9 M a b=true→zb9 ((List.range i).foldl (clK n) M) a b=true) ∧
  (∀ m a b,m<i→a<n→b<n→zb9 ((List.range i).foldl (clK n) M) a m=true→zb9 ((List.range i).foldl (clK n) M) m b=true→zb9 ((List.range i).foldl (clK n) M) a b=true) ∧
  (∀ T:Nat→Nat→Prop,(∀ a b d,T a b→T b d→T a d)→(∀ a b,a<n→b<n→zb9 M a b=true→T a b)→∀ a b,a<n→b<n→zb9 ((List.range i).foldl (clK n) M) a b=true→T a b)
 | 0,_=>⟨h,fun a b _ _ k=>k,fun m a b k=>by omega,fun T _ k=>k⟩
 | i+1,hi=>by
  obtain ⟨h1,h2,h3,h4⟩:=zyd h i (by omega)
  rw [zca]
  generalize (List.range i).foldl (clK n) M=X at h1 h2 h3 h4 ⊢
  have hin:i<n:=by omega
  have g:∀ {x y:Nat},x<n→y<n→(zb9 (clK n X i) x y=true↔zb9 X x y=true∨(zb9 X x i=true∧zb9 X i y=true)):=by
   intro x y hx hy
   rw [ya0 h1 hin hx hy]; simp
  refine ⟨(z2z h1 hin n (qR _)).1,fun a b ha hb k=>(g ha hb).2 (.inl (h2 a b ha hb k)),fun m a b hm ha hb k1 k2=>?_,fun T tr hT a b ha hb k=>?_⟩
  ·have hmn:m<n:=by omega
   rw [g ha hmn]at k1
   rw [g hmn hb]at k2
   rw [g ha hb]
   by_cases e:m=i
   ·subst e
    rcases k1 with k1 | k1 <;> rcases k2 with k2 | k2
    ·exact .inr ⟨k1,k2⟩
    ·exact .inr ⟨k1,k2.2⟩
    ·exact .inr ⟨k1.1,k2⟩
    exact .inr ⟨k1.1,k2.2⟩
   have hmi:m<i:=by omega
   rcases k1 with k1 | k1 <;> rcases k2 with k2 | k2
   ·exact .inl (h3 m a b hmi ha hb k1 k2)
   ·exact .inr ⟨h3 m a i hmi ha hin k1 k2.1,k2.2⟩
   ·exact .inr ⟨k1.1,h3 m i b hmi hin hb k1.2 k2⟩
   exact .inr ⟨k1.1,k2.2⟩
  rw [g ha hb]at k
  rcases k with k | k
  ·exact h4 T tr hT a b ha hb k
  exact tr a i b (h4 T tr hT a i ha hin k.1) (h4 T tr hT i b hin hb k.2)
def MR (n:Nat) (M:List (List Bool)) (a b:Nat):Prop:=a<n∧b<n∧zb9 M a b=true
theorem zyc (h:Sq n M) {a b:Nat} (ha:a<n) (hb:b<n):zb9 (ze8 M) a b=true↔TC (MR n M) a b:=by
 obtain ⟨h1,h2,h3,h4⟩:=zyd h n (qR _)
 have e:ze8 M=(List.range n).foldl (clK n) M:=by unfold ze8; rw [h.1]
 rw [e]
 constructor
 ·exact h4 (TC (MR n M)) (fun _ _ _ p q=>p.trans q) (fun a b ha hb k => .one ⟨ha,hb,k⟩) a b ha hb
 intro k
 induction k with
 | one k=>exact h2 _ _ k.1 k.2.1 k.2.2
 | tail _ k ih=>exact h3 _ _ _ k.1 ha k.2.1 (ih k.1) (h2 _ _ k.1 k.2.1 k.2.2)
end
def Cov (ws:List Wall) (level:Bool) (line i1 i2:Nat):Prop:=∃ w∈ws,w.level=level∧w.line=line∧w.fr≤i1∧(i2:Int)<w.fr+w.long
theorem Cov.app {ws vs:List Wall} {level:Bool} {line i1 i2:Nat} (h:Cov ws level line i1 i2):Cov (ws++vs) level line i1 i2:=by
 obtain ⟨w,hw,k⟩:=h
 exact ⟨w,List.mem_append_left _ hw,k⟩
theorem Cov.long {ws:List Wall} {w:Wall} {level:Bool} {line i1 i2:Nat} (h:Cov (ws++[w]) level line i1 i2):Cov (ws++[{ w with long:=w.long+1 }]) level line i1 i2:=by
 obtain ⟨v,hv,k1,k2,k3,k4⟩:=h
 rcases List.mem_append.1 hv with hv | hv
 ·exact ⟨v,List.mem_append_left _ hv,k1,k2,k3,k4⟩
 rw [List.mem_singleton]at hv
 subst hv
 exact ⟨_,List.mem_append_right _ (List.mem_singleton.2 rfl),k1,k2,k3,by simp only; omega⟩
def Run (g:List (List Int)) (level:Bool) (line i1 i2:Nat):Prop:=∀ j,i1≤j→j≤i2→znh g level line j=true
theorem zrg {g:List (List Int)} {level:Bool} {line:Nat} {ws:List Wall}:∀ n,(∀ lv ln i1 i2,Cov ws lv ln i1 i2→Cov (zbs g level line ws n).1 lv ln i1 i2) ∧
  (∀ i1 i2,i1≤i2→i2<n→Run g level line i1 i2→Cov (zbs g level line ws n).1 level line i1 i2) ∧
  ((zbs g level line ws n).2=false→∀ m,n=m+1→znh g level line m=false) ∧
  ((zbs g level line ws n).2=true→∃ (ws0:List Wall) (w:Wall),(zbs g level line ws n).1=ws0++[w]∧w.level=level∧w.line=(line:Int)∧w.fr+w.long=(n:Int)∧1≤w.long∧∀ i:Nat,i<n→Run g level line i (n - 1)→w.fr≤(i:Int))
 | 0=>by
  rw [zxz]
  exact ⟨fun _ _ _ _ h=>h,fun i1 i2 _ h=>by omega,fun _ m h=>by omega,fun h=>by cases h⟩
 | n+1=>by
  obtain ⟨h1,h2,h3,h4⟩:=zrg (g:=g) (level:=level) (line:=line) (ws:=ws) n
  rw [zdr]
  generalize zbs g level line ws n=s at h1 h2 h3 h4
  obtain ⟨l,op⟩:=s
  simp only at h1 h2 h3 h4
  cases hd:znh g level line n with
  | false =>
   have e:zd1 false level line n (l,op)=(l,false):=by simp [zd1]
   rw [e]
   refine ⟨h1,fun i1 i2 k1 k2 k3=>?_,fun _ m hm=>(by have e0:m=n:=(by omega); rw [e0]; exact hd),fun h=>by cases h⟩
   by_cases e2:i2=n
   ·subst e2
    have:=k3 i2 k1 (qR _)
    rw [hd]at this; cases this
   exact h2 i1 i2 k1 (by omega) k3
  | true =>
   cases op with
   | false =>
    have e:zd1 true level line n (l,false)=(l++[⟨level,line,n,1⟩],true):=by simp [zd1]
    rw [e]
    have hno:∀ m,n=m+1→znh g level line m=false:=h3 rfl
    have first:∀ i,i<n+1→Run g level line i n→i=n:=by
     intro i hi hr
     by_cases e2:i=n
     ·exact e2
     have:=hr (n - 1) (by omega) (by omega)
     rw [hno (n - 1) (by omega)]at this; cases this
    refine ⟨fun lv ln i1 i2 k=>(h1 lv ln i1 i2 k).app,fun i1 i2 k1 k2 k3=>?_,fun h=>(by cases h),fun _=>⟨l,_,rfl,rfl,rfl,by simp,by simp,fun i hi hr=>?_⟩⟩
    ·by_cases e2:i2=n
     ·subst e2
      obtain rfl:=first i1 (by omega) k3
      exact ⟨_,List.mem_append_right _ (List.mem_singleton.2 rfl),rfl,rfl,Int.le_refl _,by simp only; omega⟩
     exact (h2 i1 i2 k1 (by omega) k3).app
    have:=first i hi hr
    simp only; omega
   | true =>
    obtain ⟨ws0,w,rfl,w1,w2,w3,w4,w5⟩:=h4 rfl
    have e:zd1 true level line n (ws0++[w],true)=(ws0++[{ w with long:=w.long+1 }],true):=by simp [zd1]
    rw [e]
    have hfr:∀ i:Nat,i<n+1→Run g level line i n→w.fr≤(i:Int):=by
     intro i hi hr
     by_cases e2:i=n
     ·omega
     exact w5 i (by omega) fun j j1 j2=>hr j j1 (by omega)
    refine ⟨fun lv ln i1 i2 k=>(h1 lv ln i1 i2 k).long,fun i1 i2 k1 k2 k3=>?_,fun h=>(by cases h),fun _=>⟨ws0,_,rfl,w1,w2,by simp only; omega,by simp only; omega,fun i hi hr=>hfr i hi hr⟩⟩
    by_cases e2:i2=n
    ·subst e2
     have:=hfr i1 (by omega) k3
     exact ⟨_,List.mem_append_right _ (List.mem_singleton.2 rfl),w1,w2,this,by simp only; omega⟩
    exact (h2 i1 i2 k1 (by omega) k3).long
theorem zj3 {g:List (List Int)} {level:Bool} {places:Nat} {ws:List Wall}:∀ lines,(∀ lv ln i1 i2,Cov ws lv ln i1 i2→Cov (zbz g level places ws lines) lv ln i1 i2) ∧
  (∀ line i1 i2,1≤line→line<lines→i1≤i2→i2<places→Run g level line i1 i2→Cov (zbz g level places ws lines) level line i1 i2)
 | 0=>⟨fun _ _ _ _ h=>h,fun line _ _ _ h=>by omega⟩
 | k+1=>by
  obtain ⟨h1,h2⟩:=zj3 (g:=g) (level:=level) (places:=places) (ws:=ws) k
  by_cases hk:1≤k
  ·rw [zeb hk]
   obtain ⟨l1,l2,-,-⟩:=zrg (g:=g) (level:=level) (line:=k) (ws:=zbz g level places ws k) places
   refine ⟨fun lv ln i1 i2 q=>l1 _ _ _ _ (h1 _ _ _ _ q),fun line i1 i2 q1 q2 q3 q4 q5=>?_⟩
   by_cases e:line=k
   ·subst e; exact l2 i1 i2 q3 q4 q5
   exact l1 _ _ _ _ (h2 line i1 i2 q1 (by omega) q3 q4 q5)
  obtain rfl:k=0:=by omega
  rw [zj4]
  exact ⟨fun _ _ _ _ h=>h,fun line _ _ q1 q2=>by omega⟩
theorem zrf {g:List (List Int)} {H W:Nat} {level:Bool} {line i1 i2:Nat} (h1:1≤line) (h2:line<if level then H else W) (h3:i1≤i2) (h4:i2<if level then W else H) (hr:Run g level line i1 i2):Cov (zb8 g H W) level line i1 i2:=by
 unfold zb8
 obtain ⟨a1,a2⟩:=zj3 (g:=g) (level:=false) (places:=H) (ws:=[]) W
 obtain ⟨b1,b2⟩:=zj3 (g:=g) (level:=true) (places:=W) (ws:=zbz g false H [] W) H
 cases level with
 | false=>exact b1 _ _ _ _ (a2 line i1 i2 h1 h2 h3 h4 hr)
 | true=>exact b2 line i1 i2 h1 h2 h3 h4 hr
section
variable {n:Nat}
theorem zzt {a:Int} (ha:0≤a∧a<n):∀ {bs:List Int} {M:List (List Bool)},Rm n bs→Sq n M→Sq n (relB a bs M)∧∀ x y,zb9 (relB a bs M) x y=true↔zb9 M x y=true∨(x=a.toNat∧∃ b∈bs,y=b.toNat)
 | [],M,_,h=>⟨h,fun x y=>by simp [relB]⟩
 | b::bs,M,hb,h=>by
  have hb0:=hb b (by simp)
  obtain ⟨k1,k2⟩:=zzt ha (bs:=bs) (M:=z11 M a.toNat b.toNat true) (fun x hx=>hb x (by simp [hx])) (h.set (by omega))
  refine ⟨k1,fun x y=>?_⟩
  have e:relB a (b::bs) M=relB a bs (z11 M a.toNat b.toNat true):=rfl
  rw [e,k2,zkm h (by omega) (by omega)]
  by_cases q:x=a.toNat∧y=b.toNat
  ·rw [if_pos q]; simp [q.1,q.2]
  rw [if_neg q]
  constructor
  ·rintro (k | ⟨k,c,hc,rfl⟩)
   ·exact .inl k
   exact .inr ⟨k,c,by simp [hc],rfl⟩
  rintro (k | ⟨k,c,hc,rfl⟩)
  ·exact .inl k
  rcases List.mem_cons.1 hc with rfl | hc
  ·exact absurd ⟨k,rfl⟩ q
  exact .inr ⟨k,c,hc,rfl⟩
theorem zsk {bs:List Int} (hb:Rm n bs):∀ {la:List Int} {M:List (List Bool)},Rm n la→Sq n M→Sq n (relW M la bs)∧∀ x y,zb9 (relW M la bs) x y=true↔zb9 M x y=true∨(∃ a∈la,x=a.toNat)∧∃ b∈bs,y=b.toNat
 | [],M,_,h=>⟨h,fun x y=>by simp [relW]⟩
 | a::la,M,ha,h=>by
  obtain ⟨j1,j2⟩:=zzt (ha a (by simp)) hb h
  obtain ⟨k1,k2⟩:=zsk hb (la:=la) (M:=relB a bs M) (fun x hx=>ha x (by simp [hx])) j1
  refine ⟨k1,fun x y=>?_⟩
  have e:relW M (a::la) bs=relW (relB a bs M) la bs:=rfl
  rw [e,k2,j2]
  constructor
  ·rintro ((k | ⟨k,q⟩) | ⟨⟨c,hc,k⟩,q⟩)
   ·exact .inl k
   ·exact .inr ⟨⟨a,by simp,k⟩,q⟩
   exact .inr ⟨⟨c,by simp [hc],k⟩,q⟩
  rintro (k | ⟨⟨c,hc,k⟩,q⟩)
  ·exact .inl (.inl k)
  rcases List.mem_cons.1 hc with rfl | hc
  ·exact .inl (.inr ⟨k,q⟩)
  exact .inr ⟨⟨c,hc,k⟩,q⟩
def By (g:List (List Int)) (ws:List Wall) (lv:Bool) (x y:Nat):Prop:=∃ w∈ws,w.level=lv∧(∃ a∈(zay g w).1,x=a.toNat)∧∃ b∈(zay g w).2,y=b.toNat
theorem By.cons {g:List (List Int)} {w:Wall} {ws:List Wall} {lv:Bool} {x y:Nat}:By g (w::ws) lv x y↔(w.level=lv∧(∃ a∈(zay g w).1,x=a.toNat)∧∃ b∈(zay g w).2,y=b.toNat)∨By g ws lv x y:=by
 unfold By; simp
theorem zr6 {g:List (List Int)} {nh nw:Nat} (hrm:zv6 g nh nw n):∀ (ws:List Wall),(∀ w∈ws,zs2 g nh nw w)→∀ {M:List (List Bool) × List (List Bool)},Sq n M.1→Sq n M.2 →
  (Sq n (ws.foldl (znm g) M).1∧∀ x y,zb9 (ws.foldl (znm g) M).1 x y=true↔zb9 M.1 x y=true∨By g ws false x y) ∧
  (Sq n (ws.foldl (znm g) M).2∧∀ x y,zb9 (ws.foldl (znm g) M).2 x y=true↔zb9 M.2 x y=true∨By g ws true x y)
 | [],_,M,h0,h1=>⟨⟨h0,fun x y=>by simp [By]⟩,⟨h1,fun x y=>by simp [By]⟩⟩
 | w::ws,hws,M,h0,h1=>by
  obtain ⟨r1,r2⟩:=zfr hrm (hws w (by simp))
  rw [List.foldl_cons]
  cases hlv:w.level with
  | false =>
   obtain ⟨k1,k2⟩:=zsk r2 r1 h0
   have e:znm g M w=(relW M.1 (zay g w).1 (zay g w).2,M.2):=by unfold znm; rw [hlv]; rfl
   rw [e]
   obtain ⟨⟨a1,a2⟩,⟨b1,b2⟩⟩:=zr6 hrm ws (fun w hw=>hws w (by simp [hw])) (M:=(relW M.1 (zay g w).1 (zay g w).2,M.2)) k1 h1
   refine ⟨⟨a1,fun x y=>?_⟩,⟨b1,fun x y=>?_⟩⟩
   ·rw [a2,k2,By.cons,hlv]; simp only[true_and,or_assoc]
   rw [b2,By.cons,hlv]; simp
  | true =>
   obtain ⟨k1,k2⟩:=zsk r2 r1 h1
   have e:znm g M w=(M.1,relW M.2 (zay g w).1 (zay g w).2):=by unfold znm; rw [hlv]; rfl
   rw [e]
   obtain ⟨⟨a1,a2⟩,⟨b1,b2⟩⟩:=zr6 hrm ws (fun w hw=>hws w (by simp [hw])) (M:=(M.1,relW M.2 (zay g w).1 (zay g w).2)) h0 k1
   refine ⟨⟨a1,fun x y=>?_⟩,⟨b1,fun x y=>?_⟩⟩
   ·rw [a2,By.cons,hlv]; simp
   rw [b2,k2,By.cons,hlv]; simp only[true_and,or_assoc]
theorem ztw {x y:Nat}:zb9 (zbj n) x y=false:=by
 unfold zb9 zbj
 rw [List.getElem?_replicate]
 split
 ·rw [Option.getD_some,List.getElem?_replicate]; split <;> rfl
 rfl
def cn (g:List (List Int)) (i j:Nat):Nat:=(gz g i j).toNat
theorem zv6.ne {g:List (List Int)} {nh nw:Nat} (h:zv6 g nh nw n) {i j i' j':Nat} (h1:i<nh) (h2:j<nw) (h3:i'<nh) (h4:j'<nw):gz g i j≠gz g i' j'↔cn g i j≠cn g i' j':=by
 have a:=h i j h1 h2
 have b:=h i' j' h3 h4
 unfold cn
 omega
theorem zvr {g:List (List Int)} {level:Bool} {line fr long j:Nat} (h1:fr≤j) (h2:j<fr+long):(zb7 g level line j).1∈(zay g ⟨level,line,fr,long⟩).1:=by
 simp only[zay,Int.toNat_natCast]
 rw [zlv]
 simp only[zbc,List.mem_map,List.mem_range]
 exact ⟨j - fr,by omega,by rw [show fr+(j - fr)=j by omega]⟩
theorem zvs {g:List (List Int)} {level:Bool} {line fr long j:Nat} (h1:fr≤j) (h2:j<fr+long):(zb7 g level line j).2∈(zay g ⟨level,line,fr,long⟩).2:=by
 simp only[zay,Int.toNat_natCast]
 rw [zlv]
 simp only[zbc,List.mem_map,List.mem_range]
 exact ⟨j - fr,by omega,by rw [show fr+(j - fr)=j by omega]⟩
theorem zz6 {g:List (List Int)} {level:Bool} {line fr long:Nat} {x:Int} (h:x∈(zay g ⟨level,line,fr,long⟩).1):∃ j,fr≤j∧j<fr+long∧x=(zb7 g level line j).1:=by
 simp only[zay,Int.toNat_natCast]at h
 rw [zlv]at h
 simp only[zbc,List.mem_map,List.mem_range]at h
 obtain ⟨j,hj,rfl⟩:=h
 exact ⟨fr+j,by omega,by omega,rfl⟩
theorem zz7 {g:List (List Int)} {level:Bool} {line fr long:Nat} {x:Int} (h:x∈(zay g ⟨level,line,fr,long⟩).2):∃ j,fr≤j∧j<fr+long∧x=(zb7 g level line j).2:=by
 simp only[zay,Int.toNat_natCast]at h
 rw [zlv]at h
 simp only[zbc,List.mem_map,List.mem_range]at h
 obtain ⟨j,hj,rfl⟩:=h
 exact ⟨fr+j,by omega,by omega,rfl⟩
theorem yaz {g:List (List Int)} {nh nw:Nat} (h:zv6 g nh nw n) {x y:Nat}:By g (zb8 g nh nw) false x y↔DL (cn g) nh nw x y:=by
 constructor
 ·rintro ⟨w,hw,hlv,⟨a,ha,rfl⟩,b,hb,rfl⟩
  obtain ⟨line,fr,long,he,hl,hin⟩:=zc7 w hw
  rw [hlv]at he hin
  subst he
  obtain ⟨j1,p1,p2,rfl⟩:=zz6 ha
  obtain ⟨j2,q1,q2,rfl⟩:=zz7 hb
  have i1:=(hin j1 p1 p2).1
  have i2:=(hin j2 q1 q2).1
  unfold InL at i1 i2
  simp only[qF,if_false]at i1 i2
  obtain ⟨L,rfl⟩:∃ L,line=L+1:=⟨line - 1,by omega⟩
  refine ⟨L,j1,j2,i1.2.1,i1.2.2,i2.2.2,fun r r1 r2=>?_,?_,?_⟩
  ·have hr:=hin r (by omega) (by omega)
   have hr1:=hr.1
   unfold InL at hr1
   simp only[qF,if_false]at hr1
   have hr2:=hr.2
   unfold znh zb7 at hr2
   simp only[qF,if_false,decide_eq_true_eq,Nat.add_sub_cancel]at hr2
   exact (h.ne hr1.2.2 (by omega) hr1.2.2 hr1.2.1).1 hr2
  ·simp [zb7,cn]
  simp [zb7,cn]
 rintro ⟨L,i1,i2,h1,h2,h3,run,rfl,rfl⟩
 have hrun:Run g false (L+1) (min i1 i2) (max i1 i2):=by
  intro r r1 r2
  have:=run r r1 r2
  rw [← h.ne (by omega) (by omega) (by omega) h1]at this
  unfold znh zb7
  simpa using this
 obtain ⟨w,hw,w1,w2,w3,w4⟩:=zrf (g:=g) (H:=nh) (W:=nw) (level:=false) (line:=L+1) (by omega) (by simpa using h1) (by omega) (by simp only[qF,if_false]; omega) hrun
 obtain ⟨line,fr,long,he,hl,hin⟩:=zc7 w hw
 rw [w1]at he
 subst he
 simp only at w2 w3 w4
 obtain rfl:line=L+1:=by omega
 refine ⟨_,hw,rfl,⟨_,zvr (j:=i1) (by omega) (by omega),?_⟩,_,zvs (j:=i2) (by omega) (by omega),?_⟩
 ·simp [zb7,cn]
 simp [zb7,cn]
theorem z65 {g:List (List Int)} {nh nw:Nat} (h:zv6 g nh nw n) {x y:Nat}:By g (zb8 g nh nw) true x y↔DU (cn g) nh nw x y:=by
 constructor
 ·rintro ⟨w,hw,hlv,⟨a,ha,rfl⟩,b,hb,rfl⟩
  obtain ⟨line,fr,long,he,hl,hin⟩:=zc7 w hw
  rw [hlv]at he hin
  subst he
  obtain ⟨j1,p1,p2,rfl⟩:=zz6 ha
  obtain ⟨j2,q1,q2,rfl⟩:=zz7 hb
  have i1:=(hin j1 p1 p2).1
  have i2:=(hin j2 q1 q2).1
  unfold InL at i1 i2
  simp only[if_true]at i1 i2
  obtain ⟨L,rfl⟩:∃ L,line=L+1:=⟨line - 1,by omega⟩
  refine ⟨L,j1,j2,i1.2.1,i1.2.2,i2.2.2,fun r r1 r2=>?_,?_,?_⟩
  ·have hr:=hin r (by omega) (by omega)
   have hr1:=hr.1
   unfold InL at hr1
   simp only[if_true]at hr1
   have hr2:=hr.2
   unfold znh zb7 at hr2
   simp only[if_true,decide_eq_true_eq,Nat.add_sub_cancel]at hr2
   exact (h.ne (by omega) hr1.2.2 hr1.2.1 hr1.2.2).1 hr2
  ·simp [zb7,cn]
  simp [zb7,cn]
 rintro ⟨L,i1,i2,h1,h2,h3,run,rfl,rfl⟩
 have hrun:Run g true (L+1) (min i1 i2) (max i1 i2):=by
  intro r r1 r2
  have:=run r r1 r2
  rw [← h.ne (by omega) (by omega) h1 (by omega)]at this
  unfold znh zb7
  simpa using this
 obtain ⟨w,hw,w1,w2,w3,w4⟩:=zrf (g:=g) (H:=nh) (W:=nw) (level:=true) (line:=L+1) (by omega) (by simpa using h1) (by omega) (by simp only[if_true]; omega) hrun
 obtain ⟨line,fr,long,he,hl,hin⟩:=zc7 w hw
 rw [w1]at he
 subst he
 simp only at w2 w3 w4
 obtain rfl:line=L+1:=by omega
 refine ⟨_,hw,rfl,⟨_,zvr (j:=i1) (by omega) (by omega),?_⟩,_,zvs (j:=i2) (by omega) (by omega),?_⟩
 ·simp [zb7,cn]
 simp [zb7,cn]
theorem zfe {g:List (List Int)} {nh nw:Nat} (h:zv6 g nh nw n) {i j:Nat} (hi:i<nh) (hj:j<nw):cn g i j<n:=by
 have:=h i j hi hj
 unfold cn; omega
theorem ybn {g:List (List Int)} {nh nw:Nat} (h:zv6 g nh nw n) {a b:Nat} (ha:a<n) (hb:b<n):zb9 (zw4 g nh nw n) a b=true↔TC (DL (cn g) nh nw) a b:=by
 obtain ⟨⟨k1,k2⟩,-⟩:=zr6 h (zb8 g nh nw) zc7 (M:=(zbj n,zbj n)) (zdy n) (zdy n)
 have hd:∀ x y,zb9 (z70 g nh nw n).1 x y=true↔DL (cn g) nh nw x y:=fun x y=>by
  unfold z70; rw [k2,yaz h]; simp [ztw]
 unfold zw4
 have k3:Sq n (z70 g nh nw n).1:=k1
 rw [zyc k3 ha hb]
 constructor
 ·exact TC.mono fun x y q=>(hd x y).1 q.2.2
 refine TC.mono fun x y q=>⟨?_,?_,(hd x y).2 q⟩
 ·obtain ⟨j,i1,i2,q1,q2,q3,-,rfl,-⟩:=q
  exact zfe h q2 (by omega)
 obtain ⟨j,i1,i2,q1,q2,q3,-,-,rfl⟩:=q
 exact zfe h q3 q1
theorem z6s {g:List (List Int)} {nh nw:Nat} (h:zv6 g nh nw n) {a b:Nat} (ha:a<n) (hb:b<n):zb9 (znv g nh nw n) a b=true↔TC (DU (cn g) nh nw) a b:=by
 obtain ⟨-,⟨k1,k2⟩⟩:=zr6 h (zb8 g nh nw) zc7 (M:=(zbj n,zbj n)) (zdy n) (zdy n)
 have hd:∀ x y,zb9 (z70 g nh nw n).2 x y=true↔DU (cn g) nh nw x y:=fun x y=>by
  unfold z70; rw [k2,z65 h]; simp [ztw]
 unfold znv
 have k3:Sq n (z70 g nh nw n).2:=k1
 rw [zyc k3 ha hb]
 constructor
 ·exact TC.mono fun x y q=>(hd x y).1 q.2.2
 refine TC.mono fun x y q=>⟨?_,?_,(hd x y).2 q⟩
 ·obtain ⟨j,i1,i2,q1,q2,q3,-,rfl,-⟩:=q
  exact zfe h (by omega) q2
 obtain ⟨j,i1,i2,q1,q2,q3,-,-,rfl⟩:=q
 exact zfe h q1 q3
end
end
section
theorem zu7 {p:List Txt} {i:Nat}:∀ {w:Nat},zhr p 4 i w=0→∀ k,1≤k→k<w→zlu p i k≠4
 | w+1,h,k,h1,h2=>by
  have hb:=(zgu p 4 i w).1
  unfold zhr at h
  by_cases e:k=w
  ·subst e
   intro q
   rw [if_pos ⟨h1,q⟩]at h
   omega
  have h0:zhr p 4 i w=0:=by split at h <;> omega
  exact zu7 h0 k h1 (by omega)
theorem zzn {p:List Txt} {w:Nat}:∀ {n:Nat},zpt p 4 w n=0→∀ i,1≤i→i<n→zhr p 4 i w=0
 | n+1,h,i,h1,h2=>by
  have hb:0≤zpt p 4 w n:=by
   clear h h1 h2
   induction n with
   | zero=>simp [zpt]
   | succ n ih =>
    have:=(zgu p 4 n w).1
    unfold zpt; split <;> omega
  have hr:=(zgu p 4 n w).1
  unfold zpt at h
  by_cases e:i=n
  ·subst e
   rw [if_pos h1]at h
   omega
  have h0:zpt p 4 w n=0:=by split at h <;> omega
  exact zzn h0 i h1 (by omega)
theorem z2b {a b:UInt8} (h:(a.toNat:Int) - 97≠(b.toNat:Int) - 97):a≠b:=by
 rintro rfl; exact h rfl
theorem z1c {p:List Txt} (hg:zhg p=true) {i k:Nat} (hi:i+1<p.length) (hk:k+1<(zag p).length) (h1:zbb p i k≠zbb p i (k+1)) (h2:zbb p i k≠zbb p (i+1) k) (h3:zbb p i k≠zbb p (i+1) (k+1))
  (h4:zbb p i (k+1)≠zbb p (i+1) k) (h5:zbb p i (k+1)≠zbb p (i+1) (k+1)) (h6:zbb p (i+1) k≠zbb p (i+1) (k+1)):zlu p (i+1) (k+1)=4:=by
 obtain ⟨r1,hr1,-⟩:=zai (show i<p.length by omega)
 obtain ⟨r2,hr2,-⟩:=zai hi
 have e1:=zhh hg hr1
 have e2:=zhh hg hr2
 obtain ⟨a,ha,-⟩:=zai (show k<r1.length by omega)
 obtain ⟨b,hb,-⟩:=zai (show k+1<r1.length by omega)
 obtain ⟨c,hc,-⟩:=zai (show k<r2.length by omega)
 obtain ⟨d,hd,-⟩:=zai (show k+1<r2.length by omega)
 rw [zd3 hr1 ha]at h1 h2 h3
 rw [zd3 hr1 hb]at h1 h4 h5
 rw [zd3 hr2 hc]at h2 h4 h6
 rw [zd3 hr2 hd]at h3 h5 h6
 have n1:=z2b h1
 have n2:=z2b h2
 have n3:=z2b h3
 have n4:=z2b h4
 have n5:=z2b h5
 have n6:=z2b h6
 unfold zlu
 simp only[Nat.add_sub_cancel,hr1,hr2,ha,hb,hc,hd]
 simp [zkd,ybz,yb0,Ne.symm n1,Ne.symm n2,Ne.symm n3,Ne.symm n4,Ne.symm n5,Ne.symm n6]
theorem zew {p:List Txt} (hp:zec p=true) {i j:Nat} (hi:i<p.length) (hj:j<(zag p).length):(cn (gP p) i j:Int)=zbb p i j:=by
 have hN:=zdv hp
 have:=hN.room hi hj
 unfold cn
 rw [hN.cell hi hj]; omega
theorem zb4 {p:List Txt} (hp:zal p=true):Pl (cn (gP p)) p.length (zag p).length:=by
 have hpl:=zcb hp
 have hN:=zdv hpl
 have rect:∀ {i j i' j':Nat} (k l:Nat),i<p.length→i'<p.length→j<(zag p).length→j'<(zag p).length→cn (gP p) i j=cn (gP p) i' j'→min i i'≤k→k≤max i i'→min j j'≤l→l≤max j j'→cn (gP p) k l=cn (gP p) i j:=by
  intro i j i' j' k l h1 h2 h3 h4 e h5 h6 h7 h8
  have e1:=zew hpl h1 h3
  have e2:=zew hpl h2 h4
  have e3:=zew hpl (show k<p.length by omega) (show l<(zag p).length by omega)
  obtain ⟨b,hb,q1,-,c1⟩:=ze9 hpl h1 h3
  obtain ⟨b',hb',q2,-,-⟩:=ze9 hpl h2 h4
  have e4:zbb p i j=zbb p i' j':=by omega
  rw [e4,hb']at hb
  obtain rfl:=Option.some.inj hb
  have q3:inB b' k l=true:=by
   unfold inB at q1 q2 ⊢
   simp only[qB,decide_eq_true_eq]at q1 q2 ⊢
   omega
  have:=c1 k l (by omega) (by omega) q3
  omega
 refine ⟨rect,fun {i j} h1 h2 n1 n2 n3=>Classical.byContradiction fun n4=>?_⟩
 have h0:points p 4=0:=by
  unfold zal at hp
  simp only[qB,decide_eq_true_eq]at hp
  exact hp.2
 have hno:=zu7 (zzn h0 (i+1) (by omega) h1) (j+1) (by omega) h2
 have n5:cn (gP p) i j≠cn (gP p) (i+1) (j+1):=by
  intro e
  exact n1 (rect i (j+1) (by omega) h1 (by omega) h2 e (by omega) (by omega) (by omega) (by omega)).symm
 have n6:cn (gP p) i (j+1)≠cn (gP p) (i+1) j:=by
  intro e
  exact n1 (rect i j (by omega) h1 h2 (by omega) e (by omega) (by omega) (by omega) (by omega))
 have c1:=zew hpl (show i<p.length by omega) (show j<(zag p).length by omega)
 have c2:=zew hpl (show i<p.length by omega) h2
 have c3:=zew hpl h1 (show j<(zag p).length by omega)
 have c4:=zew hpl h1 h2
 exact hno (z1c hN.hg h1 h2 (by omega) (by omega) (by omega) (by omega) (by omega) (by omega))
theorem zbe {p:List Txt} {a:Nat} (ha:a<(rP p).length):∃ i j,i<p.length∧j<(zag p).length∧cn (gP p) i j=a:=by
 have hi:=zgq p
 obtain ⟨b,hb,-⟩:=zai ha
 obtain ⟨v,hv,-⟩:=zai (show a<(keys p).length by rw [← hi.len]; exact ha)
 obtain ⟨i,j,⟨hz,hj,hij⟩,-⟩:=(hi.hull a v b hv hb).at_
 have hi2:i<p.length:=by omega
 refine ⟨i,j,hi2,hj,?_⟩
 unfold cn
 rw [z3l hi2 hj,hz,Int.toNat_natCast]
 have hlt:¬ (keys p).idxOf v=(keys p).length:=by
  have:=List.idxOf_lt_length_iff.2 (List.mem_of_getElem? hv)
  omega
 exact zks hi.nd (zg3 hlt) hv
def lfM (p:List Txt):List (List Bool):=zw4 (gP p) p.length (zag p).length (rP p).length
def abM (p:List Txt):List (List Bool):=znv (gP p) p.length (zag p).length (rP p).length
def Lf (p:List Txt) (a b:Nat):Prop:=zb9 (lfM p) a b=true
def Ab (p:List Txt) (a b:Nat):Prop:=zb9 (abM p) a b=true
section
variable {p:List Txt} {a b d:Nat}
theorem Lf.iff (ha:a<(rP p).length) (hb:b<(rP p).length):Lf p a b↔TC (DL (cn (gP p)) p.length (zag p).length) a b:=ybn zb2 ha hb
theorem Ab.iff (ha:a<(rP p).length) (hb:b<(rP p).length):Ab p a b↔TC (DU (cn (gP p)) p.length (zag p).length) a b:=z6s zb2 ha hb
theorem Lf.trans (ha:a<(rP p).length) (hb:b<(rP p).length) (hd:d<(rP p).length) (h:Lf p a b) (k:Lf p b d):Lf p a d:=by
 rw [Lf.iff ha hd]; exact ((Lf.iff ha hb).1 h).trans ((Lf.iff hb hd).1 k)
theorem Ab.trans (ha:a<(rP p).length) (hb:b<(rP p).length) (hd:d<(rP p).length) (h:Ab p a b) (k:Ab p b d):Ab p a d:=by
 rw [Ab.iff ha hd]; exact ((Ab.iff ha hb).1 h).trans ((Ab.iff hb hd).1 k)
theorem zjt (hp:zal p=true):∃ f g:Nat→Nat,∀ a b,a<(rP p).length→b<(rP p).length→(Lf p a b→f a<f b∧g a<g b)∧(Ab p a b→f a<f b∧g b<g a):=by
 have hpl:=zb4 hp
 obtain ⟨f,hf⟩:=zku hpl (n:=(rP p).length) (fun i j hi hj=>zfe zb2 hi hj)
 obtain ⟨g,hg⟩:=zum hpl (n:=(rP p).length) (fun i j hi hj=>zfe zb2 hi hj)
 refine ⟨f,g,fun a b ha hb=>⟨fun h=>?_,fun h=>?_⟩⟩
 ·rw [Lf.iff ha hb]at h
  exact ⟨h.rise fun a b k=>hf a b (.inl k),h.rise fun a b k=>hg a b (.inl k)⟩
 rw [Ab.iff ha hb]at h
 exact ⟨h.rise fun a b k=>hf a b (.inr k),(h.rev (S:=fun x y=>DU (cn (gP p)) p.length (zag p).length y x) fun _ _ k=>k).rise fun a b k=>hg a b (.inr k)⟩
theorem Lf.only (hp:zal p=true) (ha:a<(rP p).length) (hb:b<(rP p).length) (h:Lf p a b):¬ Lf p b a∧¬ Ab p a b∧¬ Ab p b a:=by
 obtain ⟨f,g,k⟩:=zjt hp
 have h1:=(k a b ha hb).1 h
 refine ⟨fun q=>?_,fun q=>?_,fun q=>?_⟩
 ·have:=(k b a hb ha).1 q; omega
 ·have:=(k a b ha hb).2 q; omega
 have:=(k b a hb ha).2 q; omega
theorem Ab.only (hp:zal p=true) (ha:a<(rP p).length) (hb:b<(rP p).length) (h:Ab p a b):¬ Ab p b a∧¬ Lf p a b∧¬ Lf p b a:=by
 obtain ⟨f,g,k⟩:=zjt hp
 have h1:=(k a b ha hb).2 h
 refine ⟨fun q=>?_,fun q=>?_,fun q=>?_⟩
 ·have:=(k b a hb ha).2 q; omega
 ·have:=(k a b ha hb).1 q; omega
 have:=(k b a hb ha).1 q; omega
theorem z1h (hp:zal p=true) (ha:a<(rP p).length) (hb:b<(rP p).length) (hne:a≠b):Lf p a b∨Lf p b a∨Ab p a b∨Ab p b a:=by
 obtain ⟨i,j,h1,h2,e1⟩:=zbe ha
 obtain ⟨k,l,h3,h4,e2⟩:=zbe hb
 have:=zhn (zb4 hp) h1 h2 h3 h4 (by rw [e1,e2]; exact hne)
 rw [e1,e2]at this
 rw [Lf.iff ha hb,Lf.iff hb ha,Ab.iff ha hb,Ab.iff hb ha]
 exact this
end
end
section
section
variable {M:List (List Bool)} {ms:List Nat} {ws:List Int} {n:Nat} {rk:Nat→Nat}
def revM (n:Nat) (M:List (List Bool)):List (List Bool):=(List.range n).map fun a=>(List.range n).map fun b=>zb9 M b a
def bhB (sets:List Nat) (needs:List Int) (a:Nat) (out:List Int) (b:Nat):List Int :=
 if zrk sets a b then out.set a (max (zdf out a) (zdf out b+zdf needs b)) else out
def bhA (sets:List Nat) (needs:List Int) (out:List Int) (a:Nat):List Int:=(List.range needs.length).foldl (bhB sets needs a) out
def bhN (sets:List Nat) (needs:List Int) (out:List Int) (_:Nat):List Int:=(List.range needs.length).foldl (bhA sets needs) out
def behind (sets:List Nat) (needs:List Int):List Int:=(List.range needs.length).foldl (bhN sets needs) (List.replicate needs.length 0)
end
end
def domB (x:Int × Int) (w h:Int):Bool:=decide (x.1≤w) && decide (x.2≤h)
def yca (w h:Int) (s:List (Int × Int) × Bool) (x:Int × Int):List (Int × Int) × Bool :=
 if w≤x.1∧h≤x.2 then s else if s.2=false∧w<x.1 then (s.1++[(w,h),x],true) else (s.1++[x],s.2)
def yfx (l:List (Int × Int)) (w h:Int):List (Int × Int) × Bool:=l.foldl (yca w h) ([],false)
def put (l:List (Int × Int)) (w h:Int):List (Int × Int):=if l.any (fun x=>domB x w h) then l else if (yfx l w h).2 then (yfx l w h).1 else (yfx l w h).1++[(w,h)]
section
theorem z5p {f:Nat→Bool}:∀ {n:Nat},(∀ r s,r<n→s<n→f r=true→f s=true→r=s)→sN n (fun r=>b1 (f r))≤1:=by
 intro n
 induction n with
 | zero=>intro _; simp [sN]
 | succ n ih =>
  intro h
  show sN n (fun r=>b1 (f r))+b1 (f n)≤1
  have:=ih fun r s hr hs=>h r s (by omega) (by omega)
  cases hf:f n with
  | false=>simp [b1]; exact this
  | true =>
   have e:sN n (fun r=>b1 (f r))=sN n (fun _=>0):=zdw fun i hi=>by
    cases hi2:f i with
    | false=>rfl
    | true=>have:=h i n (by omega) (by omega) hi2 hf; omega
   rw [e,zpe]; simp [b1]
section
variable {M:List (List Bool)} {ws:List Int} {n:Nat} {rk:Nat→Nat}
theorem yds (b:Nat):0≤beg M ws n b:=z3s n
theorem ydr {a b:Nat} (ha:a<n) (h:zb9 M a b=true):HB M ws n a≤beg M ws n b:=z9q ha h
end
end
def Pat (g1 g2:List (List Int)) (H W:Nat):Prop:=∀ i j i' j',i<H→j<W→i'<H→j'<W→(gz g1 i j=gz g1 i' j'↔gz g2 i j=gz g2 i' j')
theorem Pat.symm {g1 g2:List (List Int)} {H W:Nat} (h:Pat g1 g2 H W):Pat g2 g1 H W:=fun i j i' j' a b c d=>(h i j i' j' a b c d).symm
theorem Pat.trans {g1 g2 g3:List (List Int)} {H W:Nat} (h:Pat g1 g2 H W) (k:Pat g2 g3 H W):Pat g1 g3 H W:=fun i j i' j' a b c d=>(h i j i' j' a b c d).trans (k i j i' j' a b c d)
structure KC (g1 g2:List (List Int)) (H W:Nat) (k1 k2:List Int):Prop where
 len:k1.length=k2.length
 at_:∀ i j,i<H→j<W→k1.idxOf (gz g1 i j)=k2.idxOf (gz g2 i j)
theorem zqh {l:List Int} {z x:Int} (h:l.idxOf x=l.length):(l++[z]).idxOf x=if x=z then l.length else l.length+1:=by
 have hn:=zoh h
 rw [List.idxOf_append,if_neg hn]
 by_cases e:x=z
 ·subst e; simp
 rw [if_neg e]
 have e2:(z == x)=false:=by simpa using fun h=>e h.symm
 simp [List.idxOf_cons,e2]
 omega
theorem KC.step {g1 g2:List (List Int)} {H W:Nat} (hp:Pat g1 g2 H W) {k1 k2:List Int} (h:KC g1 g2 H W k1 k2) {a b:Nat} (ha:a<H) (hb:b<W):KC g1 g2 H W (zg9 k1 (gz g1 a b)) (zg9 k2 (gz g2 a b)):=by
 have h1:=h.at_ a b ha hb
 unfold zg9
 by_cases e:k1.idxOf (gz g1 a b)=k1.length
 ·have e2:k2.idxOf (gz g2 a b)=k2.length:=by rw [← h1,e,h.len]
  rw [if_pos e,if_pos e2]
  refine ⟨by simp [h.len],fun i j hi hj=>?_⟩
  have h2:=h.at_ i j hi hj
  have hpt:=hp i j a b hi hj ha hb
  by_cases q:k1.idxOf (gz g1 i j)=k1.length
  ·have q2:k2.idxOf (gz g2 i j)=k2.length:=by rw [← h2,q,h.len]
   rw [zqh q,zqh q2,h.len]
   by_cases r:gz g1 i j=gz g1 a b
   ·rw [if_pos r,if_pos (hpt.1 r)]
   rw [if_neg r,if_neg fun x=>r (hpt.2 x)]
  have q2:¬ k2.idxOf (gz g2 i j)=k2.length:=by rw [← h2,← h.len]; exact q
  rw [zog q,zog q2,h2]
 have e2:¬ k2.idxOf (gz g2 a b)=k2.length:=by rw [← h1,← h.len]; exact e
 rw [if_neg e,if_neg e2]
 exact h
theorem z5s {k1 k2 rs:List Int} {R:List Rect} {z1 z2:Int} {q:Rect} (hl:k1.length=k2.length) (hi:k1.idxOf z1=k2.idxOf z2):zns k1 R z1 q=zns k2 R z2 q:=by
 unfold zns zhy
 rw [hl,hi]
theorem zl9 {g1 g2:List (List Int)} {H W:Nat} (hp:Pat g1 g2 H W) {i:Nat} (hi:i<H) {s1 s2:List Int × List Rect} (h:KC g1 g2 H W s1.1 s2.1) (hr:s1.2=s2.2):∀ j,j≤W →
  KC g1 g2 H W (zcz g1 i s1 j).1 (zcz g2 i s2 j).1∧(zcz g1 i s1 j).2=(zcz g2 i s2 j).2
 | 0,_=>⟨h,hr⟩
 | j+1,hj=>by
  obtain ⟨h1,h2⟩:=zl9 hp hi h hr j (by omega)
  unfold zcz
  refine ⟨h1.step hp hi (by omega),?_⟩
  show zns _ _ _ _=zns _ _ _ _
  rw [h2]
  exact z5s (rs:=[]) h1.len (h1.at_ i j hi (by omega))
theorem zj1 {g1 g2:List (List Int)} {H W:Nat} (hp:Pat g1 g2 H W):∀ i,i≤H→KC g1 g2 H W (zaj g1 W i).1 (zaj g2 W i).1∧(zaj g1 W i).2=(zaj g2 W i).2
 | 0,_=>⟨⟨rfl,fun _ _ _ _=>rfl⟩,rfl⟩
 | i+1,hi=>by
  obtain ⟨h1,h2⟩:=zj1 hp i (by omega)
  exact zl9 hp (by omega) h1 h2 W (qR _)
theorem zv5 {g1 g2:List (List Int)} {H W:Nat} (hp:Pat g1 g2 H W) {i:Nat} (hi:i<H) {s1 s2:List Int × List Rect} (h:KC g1 g2 H W s1.1 s2.1) (hr:s1.2=s2.2):∀ j,j≤W→zmf g1 i s1 j=zmf g2 i s2 j
 | 0,_=>rfl
 | j+1,hj=>by
  unfold zmf
  rw [zv5 hp hi h hr j (by omega),(zl9 hp hi h hr j (by omega)).1.at_ i j hi (by omega)]
theorem zri {g1 g2:List (List Int)} {H W:Nat} (hp:Pat g1 g2 H W):∀ i,i≤H→zd2 g1 W i=zd2 g2 W i
 | 0,_=>rfl
 | i+1,hi=>by
  obtain ⟨h1,h2⟩:=zj1 hp i (by omega)
  unfold zd2
  rw [zri hp i (by omega),zv5 hp (by omega) h1 h2 W (qR _)]
theorem GW.w0 {g:List (List Int)} {H W:Nat} (h:GW g H W):w0 g=W:=by
 obtain ⟨row,hrow,hl,-⟩:=h.at_ (show 0<H by have:=h.2.2.1; omega) (show 0<W by have:=h.2.2.2.2.1; omega)
 rw [z6k hrow,hl]
theorem GW.zG {g:List (List Int)} {H W:Nat} (h:GW g H W):zG g=zd2 g W H∧stG g=zaj g W H:=by
 unfold Fw.zG stG; rw [h.w0,h.1]; exact ⟨rfl,rfl⟩
theorem ydb {g:List (List Int)} {H W i j:Nat} (h:GW g H W) (hi:i<H) (hj:j<W):gz (zG g) i j=(((zaj g W H).1.idxOf (gz g i j):Nat):Int):=by
 rw [h.zG.1]
 unfold gz
 rw [zi7 hi,Option.getD_some,zx1 hj,Option.getD_some]
 congr 1
 exact zNum hi hj
theorem z0l {g:List (List Int)} {H W:Nat} (h:GW g H W):GW (zG g) H W:=by
 rw [h.zG.1]
 refine ⟨zcd _,fun r hr=>?_,h.2.2⟩
 obtain ⟨k,hk⟩:=List.getElem?_of_mem hr
 have:=zbd hk
 rw [zcd]at this
 rw [zi7 this]at hk
 cases hk
 exact zen _
theorem z6m {g:List (List Int)} {H W i j:Nat} (hi:i<H) (hj:j<W):gz g i j∈(zaj g W H).1:=(SeInv.rows (g:=g) (W:=W) H).mem i j (znj hi hj)
theorem yao {g:List (List Int)} {H W:Nat} (h:GW g H W):Pat (zG g) g H W:=by
 intro i j i' j' hi hj hi' hj'
 rw [ydb h hi hj,ydb h hi' hj']
 constructor
 ·intro e
  have h1:=zg3 (ks:=(zaj g W H).1) (z:=gz g i j) (by have:=List.idxOf_lt_length_iff.2 (z6m (g:=g) hi hj); omega)
  have h2:=zg3 (ks:=(zaj g W H).1) (z:=gz g i' j') (by have:=List.idxOf_lt_length_iff.2 (z6m (g:=g) hi' hj'); omega)
  rw [show (zaj g W H).1.idxOf (gz g i j)=(zaj g W H).1.idxOf (gz g i' j') by omega,h2]at h1
  exact (Option.some.inj h1).symm
 intro e; rw [e]
theorem yf9 {g:List (List Int)} {H W i j:Nat} (h:GW g H W) (hi:i<H) (hj:j<W):0≤gz (zG g) i j∧gz (zG g) i j<(zaj g W H).2.length:=by
 rw [ydb h hi hj]
 have h1:=List.idxOf_lt_length_iff.2 (z6m (g:=g) hi hj)
 have h2:=(SeInv.rows (g:=g) (W:=W) H).len
 omega
theorem zq5 {g:List (List Int)} {H W i j:Nat} (h:GW g H W) (hi:i<H) (hj:j<W) (h0:0≤gz g i j) (h1:gz g i j≤100):gz (zbg (zfa g)) i j=gz g i j+97:=by
 obtain ⟨row,hrow,hl,hx⟩:=h.at_ hi hj
 have e1:(zbg (zfa g))[i]?=some (zs1 (zpc row)):=by simp [zbg,zlh hrow]
 have e2:(zs1 (zpc row))[j]?=some ((z37 (gz g i j)).toNat:Int):=by simp [zs1,zpc,hx]
 have e3:gz (zbg (zfa g)) i j=((z37 (gz g i j)).toNat:Int):=by
  conv=>lhs; unfold gz
  rw [e1,Option.getD_some,e2,Option.getD_some]
 rw [e3]
 unfold z37
 rw [UInt8.toNat_ofNat_of_lt' (by show 97+(gz g i j).toNat<256; omega)]
 omega
theorem z57 {g:List (List Int)} {H W:Nat} (h:GW g H W):(zfa g).length=H∧(zag (zfa g)).length=W:=by
 refine ⟨by rw [zvz,h.1],?_⟩
 obtain ⟨row,hrow,hl,-⟩:=h.at_ (show 0<H by have:=h.2.2.1; omega) (show 0<W by have:=h.2.2.2.2.1; omega)
 rw [zgo (zlh hrow)]
 simp [zpc,hl]
theorem z56 {g:List (List Int)} {H W:Nat} (h:GW g H W) (hz:∀ i j,i<H→j<W→0≤gz g i j∧gz g i j<26):zhg (zfa g)=true:=by
 obtain ⟨t1,t2⟩:=z57 h
 unfold zhg
 rw [t1,t2]
 have h2:=h.2.2
 have:(zfa g).all (yck W)=true:=by
  rw [List.all_eq_true]
  intro r hr
  obtain ⟨i,hi⟩:=List.getElem?_of_mem hr
  have hil:=zbd hi
  rw [t1]at hil
  obtain ⟨row,hrow,hrm⟩:=zai (show i<g.length by rw [h.1]; exact hil)
  have hrl:=h.2.1 row hrm
  rw [zlh hrow]at hi
  cases hi
  unfold yck
  simp only[qB,decide_eq_true_eq,List.all_eq_true]
  refine ⟨⟨⟨by simp [zpc,hrl],by simp [zpc]; omega⟩,by simp [zpc]; omega⟩,fun c hc=>?_⟩
  obtain ⟨z,hzm,rfl⟩:=List.mem_map.1 hc
  obtain ⟨j,hj⟩:=List.getElem?_of_mem hzm
  have hjl:=zbd hj
  have e:gz g i j=z:=by simp [gz,hrow,hj]
  have:=hz i j hil (by omega)
  rw [e]at this
  unfold zey z37
  rw [UInt8.toNat_ofNat_of_lt' (by show 97+z.toNat<256; omega)]
  simp only[qB,decide_eq_true_eq]
  omega
 rw [this]
 simp only[Bool.true_and,qB,decide_eq_true_eq]
 omega
def nm (g:List (List Int)):List Txt:=zfa (zG g)
structure NmOk (g:List (List Int)) (H W:Nat):Prop where
 gw:GW g H W
 le:(zaj g W H).2.length≤9
theorem NmOk.bound {g:List (List Int)} {H W:Nat} (h:NmOk g H W) {i j:Nat} (hi:i<H) (hj:j<W):0≤gz (zG g) i j∧gz (zG g) i j≤8:=by
 have h1:=yf9 h.gw hi hj
 have h2:=h.le
 omega
theorem NmOk.hd {g:List (List Int)} {H W:Nat} (h:NmOk g H W):(nm g).length=H∧(zag (nm g)).length=W:=z57 (z0l h.gw)
theorem NmOk.pat {g:List (List Int)} {H W:Nat} (h:NmOk g H W):Pat (zbg (nm g)) g H W:=by
 refine Pat.trans (fun i j i' j' hi hj hi' hj'=>?_) (yao h.gw)
 have b1:=h.bound hi hj
 have b2:=h.bound hi' hj'
 unfold nm
 rw [zq5 (z0l h.gw) hi hj b1.1 (by omega),zq5 (z0l h.gw) hi' hj' b2.1 (by omega)]
 constructor <;> intro e <;> omega
theorem NmOk.gP {g:List (List Int)} {H W:Nat} (h:NmOk g H W):gP (nm g)=zG g∧rP (nm g)=(zaj g W H).2:=by
 rw [z3m,z8i,h.hd.1,h.hd.2,h.gw.zG.1]
 exact ⟨zri h.pat H (qR _),(zj1 h.pat H (qR _)).2⟩
theorem NmOk.named {g:List (List Int)} {H W:Nat} (h:NmOk g H W):Named (nm g):=by
 refine ⟨z56 (z0l h.gw) fun i j hi hj=>by have:=h.bound hi hj; omega,?_⟩
 rw [h.gP.1]; rfl
theorem NmOk.cell {g:List (List Int)} {H W:Nat} (h:NmOk g H W) {i j:Nat} (hi:i<H) (hj:j<W):zbb (nm g) i j=gz (zG g) i j:=by
 rw [← h.named.cell (by rw [h.hd.1]; exact hi) (by rw [h.hd.2]; exact hj),h.gP.1]
theorem Named.okB {p:List Txt} (h:Named p) (hn:(rP p).length≤9):okB p=true:=by
 unfold Fw.okB okS
 have hg:=h.hg
 rw [zyu,qB]at hg
 rw [hg.1,hg.2]
 show decide ((rP p).length≤9)=true
 exact decide_eq_true hn
theorem Named.full_of {p:List Txt} (h:Named p) (hr:∀ {i j i' j':Nat} (k l:Nat),i<p.length→i'<p.length→j<(zag p).length→j'<(zag p).length→zbb p i j=zbb p i' j'→min i i'≤k→k≤max i i'→min j j'≤l→l≤max j j'→zbb p k l=zbb p i j):zhu (zbg p)=true:=by
 rw [h.full]
 intro m hm
 obtain ⟨b,hb,-⟩:=zai hm
 rw [zs5 hb]
 refine zth fun i j hi hj=>?_
 have hrect:=h.rect hb
 have hin:=(zk7 hrect).2
 rw [Bool.eq_iff_iff]
 constructor
 ·intro hz
  exact hin i j hi hj (by unfold inZ at hz; simpa using hz)
 intro hb2
 obtain ⟨a1,b1,⟨v1,g1⟩,e1⟩:=hrect.at_
 obtain ⟨a2,b2,⟨v2,g2⟩,e2⟩:=hrect.al
 obtain ⟨a3,b3,⟨v3,g3⟩,e3⟩:=hrect.ao
 obtain ⟨a4,b4,⟨v4,g4⟩,e4⟩:=hrect.ar
 unfold Gone at g1 g2 g3 g4
 have i1:=hrect.inn _ _ ⟨v1,g1⟩
 have i2:=hrect.inn _ _ ⟨v2,g2⟩
 have i3:=hrect.inn _ _ ⟨v3,g3⟩
 have i4:=hrect.inn _ _ ⟨v4,g4⟩
 unfold inB at hb2
 simp only[qB,decide_eq_true_eq]at hb2
 have c1:=hr (i:=a1) (j:=b1) (i':=a2) (j':=b2) a1 b2 (by omega) (by omega) (by omega) (by omega) (by omega) (by omega) (by omega) (by omega) (by omega)
 have c2:=hr (i:=a3) (j:=b3) (i':=a4) (j':=b4) a3 b4 (by omega) (by omega) (by omega) (by omega) (by omega) (by omega) (by omega) (by omega) (by omega)
 have c3:=hr (i:=a1) (j:=b2) (i':=a3) (j':=b4) i j (by omega) (by omega) (by omega) (by omega) (by omega) (by omega) (by omega) (by omega) (by omega)
 unfold inZ
 exact decide_eq_true (by omega)
structure Cells (c:Nat→Nat→Nat) (g:List (List Int)) (H W:Nat):Prop where
 gw:GW g H W
 at_:∀ i j,i<H→j<W→gz g i j=((c i j:Nat):Int)
structure Ren (c:Nat→Nat→Nat) (H W:Nat) (t:List Txt):Prop where
 hl:t.length=H
 wl:(zag t).length=W
 pat:∀ i j i' j',i<H→j<W→i'<H→j'<W→(cn (gP t) i j=cn (gP t) i' j'↔c i j=c i' j')
theorem z4g {c:Nat→Nat→Nat} {g:List (List Int)} {H W:Nat} (hc:Cells c g H W) (h9:(zaj g W H).2.length≤9)
  (hr:∀ {i j i' j':Nat} (k l:Nat),i<H→i'<H→j<W→j'<W→c i j=c i' j'→min i i'≤k→k≤max i i'→min j j'≤l→l≤max j j'→c k l=c i j) :
  zec (nm g)=true∧Ren c H W (nm g):=by
 have h:NmOk g H W:=⟨hc.gw,h9⟩
 have hN:=h.named
 obtain ⟨l1,l2⟩:=h.hd
 have hpat:∀ i j i' j',i<H→j<W→i'<H→j'<W→(gz (zG g) i j=gz (zG g) i' j'↔c i j=c i' j'):=by
  intro i j i' j' hi hj hi' hj'
  rw [yao hc.gw i j i' j' hi hj hi' hj',hc.at_ i j hi hj,hc.at_ i' j' hi' hj']
  omega
 constructor
 ·rw [← zex]
  unfold zf1 zms
  have hf:zhu (zbg (nm g))=true:=by
   refine hN.full_of fun {i j i' j'} k l hi hi' hj hj' e h1 h2 h3 h4=>?_
   rw [l1]at hi hi'
   rw [l2]at hj hj'
   rw [h.cell hi hj,h.cell hi' hj']at e
   rw [h.cell (by omega) (by omega),h.cell hi hj]
   exact (hpat _ _ _ _ (by omega) (by omega) hi hj).2 (hr k l hi hi' hj hj' ((hpat _ _ _ _ hi hj hi' hj').1 e) h1 h2 h3 h4)
  rw [hN.okB (by rw [h.gP.2]; exact h9),hf,decide_eq_true hN.ht]
  rfl
 refine ⟨l1,l2,fun i j i' j' hi hj hi' hj'=>?_⟩
 rw [← hpat i j i' j' hi hj hi' hj',h.gP.1]
 have b1:=h.bound hi hj
 have b2:=h.bound hi' hj'
 unfold cn
 omega
theorem pig0 {σ:Nat→Nat} {n m:Nat} (h:∀ a,a<n→σ a<m) (hi:∀ a b,a<n→b<n→σ a=σ b→a=b):n≤m:=by
 have h1:sN n (fun a=>sN m fun b=>b1 (decide (σ a=b)))=n:=by
  have:sN n (fun a=>sN m fun b=>b1 (decide (σ a=b)))=sN n (fun _=>1):=by
   refine zdw fun a ha=>?_
   have hs:∀ {k:Nat} (v:Nat),v<k→sN k (fun b=>b1 (decide (v=b)))=1:=by
    intro k
    induction k with
    | zero=>intro v hv; omega
    | succ k ih =>
     intro v hv
     unfold sN
     by_cases e:v=k
     ·subst e
      have hz:sN v (fun b=>b1 (decide (v=b)))=0:=by
       rw [← zpe v]
       exact zdw fun b hb=>by rw [decide_eq_false (by omega)]; rfl
      rw [hz]; simp [b1]
     rw [ih v (by omega)]; simp [b1,e]
   exact hs _ (h a ha)
  rw [this,zzy]
 rw [zss]at h1
 have h2:sN m (fun b=>sN n fun a=>b1 (decide (σ a=b)))≤sN m (fun _=>1) :=
  z10 fun b hb=>z5p fun r s hr hs e1 e2=>hi r s hr hs (by rw [of_decide_eq_true e1,of_decide_eq_true e2])
 rw [zzy]at h2
 omega
theorem z1d {c:Nat→Nat→Nat} {g:List (List Int)} {H W:Nat} (hc:Cells c g H W) (h9:(zaj g W H).2.length≤9)
  (hr:∀ {i j i' j':Nat} (k l:Nat),i<H→i'<H→j<W→j'<W→c i j=c i' j'→min i i'≤k→k≤max i i'→min j j'≤l→l≤max j j'→c k l=c i j):okS g=true∧zhu g=true:=by
 have hpl:=(z4g hc h9 hr).1
 have h:NmOk g H W:=⟨hc.gw,h9⟩
 have hz:=hc.gw.zG
 have hf:=zu4 hpl
 constructor
 ·unfold okS
  rw [hz.2]
  have:okG g=true:=by rw [zlz,hc.gw.1,hc.gw.w0]; exact hc.gw
  rw [this]
  simpa using h9
 unfold zhu at hf ⊢
 have e1:(stG (zbg (nm g))).2=(stG g).2:=by rw [hz.2]; exact h.gP.2
 rw [e1,zcy,zfj,h.hd.1,h.hd.2]at hf
 rw [hc.gw.1,hc.gw.w0]
 exact hf
theorem z5k {c:Nat→Nat→Nat} {g:List (List Int)} {H W n:Nat} (hc:Cells c g H W) (hn:∀ i j,i<H→j<W→c i j<n):(zaj g W H).2.length≤n:=by
 have hi:=SeInv.rows (g:=g) (W:=W) H
 rw [hi.len]
 have hk:∀ m,m<(zaj g W H).1.length→∃ i j,i<H∧j<W∧(zaj g W H).1[m]?=some ((c i j:Nat):Int):=by
  intro m hm
  obtain ⟨v,hv,-⟩:=zai hm
  obtain ⟨b,hb,-⟩:=zai (show m<(zaj g W H).2.length by rw [hi.len]; exact hm)
  obtain ⟨i,j,⟨hz,hj,hij⟩,-⟩:=(hi.hull m v b hv hb).at_
  have hi2:i<H:=by omega
  exact ⟨i,j,hi2,hj,by rw [hv,← hz,hc.at_ i j hi2 hj]⟩
 have key:=pig0 (σ:=fun m=>((zaj g W H).1[m]?.getD 0).toNat) (n:=(zaj g W H).1.length) (m:=n) (fun m hm=>by
  obtain ⟨i,j,q1,q2,q3⟩:=hk m hm
  have:=hn i j q1 q2
  simp only[q3,Option.getD_some,Int.toNat_natCast]
  exact this) (fun a b ha hb e=>by
  obtain ⟨i,j,q1,q2,q3⟩:=hk a ha
  obtain ⟨i',j',r1,r2,r3⟩:=hk b hb
  simp only[q3,r3,Option.getD_some,Int.toNat_natCast]at e
  exact zks hi.nd q3 (by rw [r3,e]))
 exact key
section
theorem pig {σ:Nat→Nat} {n m:Nat} (h:∀ a,a<n→σ a<m) (hi:∀ a b,a<n→b<n→σ a=σ b→a=b):n≤m:=pig0 h hi
variable {c c':Nat→Nat→Nat} {H W:Nat}
theorem Pl.ren (h:Pl c H W) (hp:∀ i j i' j',i<H→j<W→i'<H→j'<W→(c' i j=c' i' j'↔c i j=c i' j')):Pl c' H W:=by
 refine ⟨fun {i j i' j'} k l h1 h2 h3 h4 h5 h6 h7 h8 h9=>?_,fun {i j} h1 h2 h3 h4 h5=>?_⟩
 ·exact (hp _ _ _ _ (by omega) (by omega) h1 h3).2 (h.rect k l h1 h2 h3 h4 ((hp _ _ _ _ h1 h3 h2 h4).1 h5) h6 h7 h8 h9)
 refine (hp _ _ _ _ (by omega) h2 h1 h2).2 (h.plain h1 h2 (fun e=>h3 ?_) (fun e=>h4 ?_) fun e=>h5 ?_)
 ·exact (hp _ _ _ _ (by omega) (by omega) (by omega) h2).2 e
 ·exact (hp _ _ _ _ h1 (by omega) h1 h2).2 e
 exact (hp _ _ _ _ (by omega) (by omega) h1 (by omega)).2 e
theorem zq3 {g:List (List Int)} {i:Nat}:∀ {w:Nat},(∀ k,1≤k→k<w→dn (four g i k)≠4)→zcx g 4 i w=0
 | 0,_=>rfl
 | w+1,h=>by
  unfold zcx
  rw [zq3 fun k h1 h2=>h k h1 (by omega)]
  by_cases e:1≤w
  ·have:=h w e (by omega)
   rw [if_neg (by omega)]; rfl
  rw [if_neg (by omega)]; rfl
theorem z44 {g:List (List Int)} {w:Nat}:∀ {n:Nat},(∀ i k,1≤i→i<n→1≤k→k<w→dn (four g i k)≠4)→zsd g 4 w n=0
 | 0,_=>rfl
 | n+1,h=>by
  unfold zsd
  rw [z44 fun i k h1 h2 h3 h4=>h i k h1 (by omega) h3 h4]
  by_cases e:1≤n
  ·rw [if_pos e,zq3 fun k h1 h2=>h n k e (by omega) h1 h2]; rfl
  rw [if_neg e]; rfl
theorem ya5 {a b x d:Int} (h:dn [a,b,x,d]=4):a≠b∧a≠x∧x≠d∧b≠d:=by
 unfold dn dn dn dn dn at h
 simp only[List.mem_cons,List.not_mem_nil,or_false,if_false]at h
 refine ⟨fun e=>?_,fun e=>?_,fun e=>?_,fun e=>?_⟩
 all_goals
  subst e
  simp at h
  repeat' split at h
  all_goals omega
theorem z77 {t:List Txt} (ht:zec t=true) (h:Pl (cn (gP t)) t.length (zag t).length):zal t=true:=by
 rw [← zea]
 unfold zcw
 rw [zex,ht,Bool.true_and,decide_eq_true_eq,zfj]
 refine z44 fun i k h1 h2 h3 h4 e=>?_
 obtain ⟨i,rfl⟩:∃ m,i=m+1:=⟨i - 1,by omega⟩
 obtain ⟨k,rfl⟩:∃ m,k=m+1:=⟨k - 1,by omega⟩
 obtain ⟨d1,d2,d3,d4⟩:=ya5 e
 simp only[Nat.add_sub_cancel]at d1 d2 d3 d4
 have hrm:=zb2 (p:=t)
 have n1:=(hrm.ne (i:=i) (j:=k) (i':=i) (j':=k+1) (by omega) (by omega) (by omega) h4).1 d1
 have n2:=(hrm.ne (i:=i) (j:=k) (i':=i+1) (j':=k) (by omega) (by omega) h2 (by omega)).1 d2
 have n3:=(hrm.ne (i:=i+1) (j:=k) (i':=i+1) (j':=k+1) h2 (by omega) h2 h4).1 d3
 have n4:=(hrm.ne (i:=i) (j:=k+1) (i':=i+1) (j':=k+1) (by omega) h4 h2 h4).1 d4
 exact n4 (h.plain h2 h4 n1 n3 n2)
theorem zz9 (hp:∀ i j i' j',i<H→j<W→i'<H→j'<W→(c' i j=c' i' j'↔c i j=c i' j')):∃ σ:Nat→Nat,∀ i j,i<H→j<W→c' i j=σ (c i j):=by
 refine ⟨fun v => @dite _ (∃ q:Nat × Nat,q.1<H∧q.2<W∧c q.1 q.2=v) (Classical.propDecidable _) (fun h=>c' h.choose.1 h.choose.2) fun _=>0,fun i j hi hj=>?_⟩
 have hx:∃ q:Nat × Nat,q.1<H∧q.2<W∧c q.1 q.2=c i j:=⟨(i,j),hi,hj,rfl⟩
 simp only
 rw [dif_pos hx]
 obtain ⟨h1,h2,h3⟩:=hx.choose_spec
 exact ((hp _ _ _ _ h1 h2 hi hj).2 h3).symm
theorem DL.ren {σ:Nat→Nat} (hσ:∀ i j,i<H→j<W→c' i j=σ (c i j)) (hp:∀ i j i' j',i<H→j<W→i'<H→j'<W→(c' i j=c' i' j'↔c i j=c i' j')) {a b:Nat} (h:DL c H W a b):DL c' H W (σ a) (σ b):=by
 obtain ⟨j,i1,i2,h1,h2,h3,run,rfl,rfl⟩:=h
 exact ⟨j,i1,i2,h1,h2,h3,fun r r1 r2 e=>run r r1 r2 ((hp _ _ _ _ (by omega) (by omega) (by omega) h1).1 e),(hσ _ _ h2 (by omega)).symm,(hσ _ _ h3 h1).symm⟩
theorem DU.ren {σ:Nat→Nat} (hσ:∀ i j,i<H→j<W→c' i j=σ (c i j)) (hp:∀ i j i' j',i<H→j<W→i'<H→j'<W→(c' i j=c' i' j'↔c i j=c i' j')) {a b:Nat} (h:DU c H W a b):DU c' H W (σ a) (σ b):=by
 obtain ⟨i,j1,j2,h1,h2,h3,run,rfl,rfl⟩:=h
 exact ⟨i,j1,j2,h1,h2,h3,fun r r1 r2 e=>run r r1 r2 ((hp _ _ _ _ (by omega) (by omega) h1 (by omega)).1 e),(hσ _ _ (by omega) h2).symm,(hσ _ _ h1 h3).symm⟩
theorem TC.map {R S:Nat→Nat→Prop} {f:Nat→Nat} (h:∀ a b,R a b→S (f a) (f b)) {a b:Nat} (k:TC R a b):TC S (f a) (f b):=by
 induction k with
 | one k=>exact .one (h _ _ k)
 | tail _ k ih=>exact .tail ih (h _ _ k)
structure Iso (p t:List Txt) (L U:Nat→Nat→Prop) (σ:Nat→Nat):Prop where
 pl:zal t=true
 n:(rP t).length=(rP p).length
 lt:∀ a,a<(rP p).length→σ a<(rP p).length
 inj:∀ a b,a<(rP p).length→b<(rP p).length→σ a=σ b→a=b
 lf:∀ a b,a<(rP p).length→b<(rP p).length→(Lf t (σ a) (σ b)↔L a b)
 ab:∀ a b,a<(rP p).length→b<(rP p).length→(Ab t (σ a) (σ b)↔U a b)
theorem zyz {p t:List Txt} (hlt:∀ i j,i<H→j<W→c i j<(rP p).length) (hs:∀ a,a<(rP p).length→∃ i j,i<H∧j<W∧c i j=a) (hPl:Pl c H W) (ht:zec t=true) (hR:Ren c H W t) :
  ∃ σ:Nat→Nat,(∀ i j,i<H→j<W→cn (gP t) i j=σ (c i j))∧Iso p t (TC (DL c H W)) (TC (DU c H W)) σ:=by
 obtain ⟨l1,l2,hpat⟩:=hR
 have hpl:zal t=true:=z77 ht (by rw [l1,l2]; exact hPl.ren hpat)
 obtain ⟨σ,hσ⟩:=zz9 hpat
 obtain ⟨τ,hτ⟩:=zz9 fun i j i' j' a b d e=>(hpat i j i' j' a b d e).symm
 have hrm:=zb2 (p:=t)
 have hcl:∀ i j,i<H→j<W→cn (gP t) i j<(rP t).length:=fun i j hi hj=>zfe hrm (by rw [l1]; exact hi) (by rw [l2]; exact hj)
 have hστ:∀ a,a<(rP p).length→τ (σ a)=a∧σ a<(rP t).length:=by
  intro a ha
  obtain ⟨i,j,hi,hj,rfl⟩:=hs a ha
  rw [← hσ i j hi hj,← hτ i j hi hj]
  exact ⟨rfl,hcl i j hi hj⟩
 have hτσ:∀ b,b<(rP t).length→σ (τ b)=b∧τ b<(rP p).length:=by
  intro b hb
  obtain ⟨i,j,hi,hj,rfl⟩:=zbe hb
  rw [l1]at hi; rw [l2]at hj
  rw [← hτ i j hi hj,← hσ i j hi hj]
  exact ⟨rfl,hlt i j hi hj⟩
 have hn:(rP t).length=(rP p).length:=by
  apply Nat.le_antisymm
  ·exact pig (fun b hb=>(hτσ b hb).2) fun a b ha hb e=>by rw [← (hτσ a ha).1,e,(hτσ b hb).1]
  exact pig (fun a ha=>(hστ a ha).2) fun a b ha hb e=>by rw [← (hστ a ha).1,e,(hστ b hb).1]
 refine ⟨σ,hσ,hpl,hn,fun a ha=>by have:=(hστ a ha).2; omega,fun a b ha hb e=>by rw [← (hστ a ha).1,e,(hστ b hb).1],fun a b ha hb=>?_,fun a b ha hb=>?_⟩
 ·rw [Lf.iff (hστ a ha).2 (hστ b hb).2,l1,l2]
  constructor
  ·intro h
   have:=TC.map (f:=τ) (fun a b=>DL.ren hτ fun i j i' j' q w e r=>(hpat i j i' j' q w e r).symm) h
   rwa [(hστ a ha).1,(hστ b hb).1]at this
  exact TC.map (f:=σ) fun a b=>DL.ren hσ hpat
 rw [Ab.iff (hστ a ha).2 (hστ b hb).2,l1,l2]
 constructor
 ·intro h
  have:=TC.map (f:=τ) (fun a b=>DU.ren hτ fun i j i' j' q w e r=>(hpat i j i' j' q w e r).symm) h
  rwa [(hστ a ha).1,(hστ b hb).1]at this
 exact TC.map (f:=σ) fun a b=>DU.ren hσ hpat
theorem Iso.imp {p t:List Txt} {L U L' U':Nat→Nat→Prop} {σ:Nat→Nat} (h:Iso p t L U σ) (hL:∀ a b,a<(rP p).length→b<(rP p).length→(L a b↔L' a b)) (hU:∀ a b,a<(rP p).length→b<(rP p).length→(U a b↔U' a b)):Iso p t L' U' σ :=
 ⟨h.pl,h.n,h.lt,h.inj,fun a b ha hb=>(h.lf a b ha hb).trans (hL a b ha hb),fun a b ha hb=>(h.ab a b ha hb).trans (hU a b ha hb)⟩
structure Fold1 (f:Nat→Nat) (m n:Nat):Prop where
 pos:1≤m
 z:f 0=0
 s:∀ i,i+1<m→f (i+1)=f i∨f (i+1)=f i+1
 e:f (m - 1)+1=n
theorem Fold1.mono {f:Nat→Nat} {m n:Nat} (h:Fold1 f m n):∀ {i j:Nat},i≤j→j<m→f i≤f j:=by
 intro i j hij
 induction j with
 | zero=>intro _; rw [show i=0 by omega]; exact qR _
 | succ j ih =>
  intro hj
  by_cases e:i=j+1
  ·subst e; exact qR _
  have h1:=ih (by omega) (by omega)
  have:=h.s j hj
  omega
theorem Fold1.lt {f:Nat→Nat} {m n i:Nat} (h:Fold1 f m n) (hi:i<m):f i<n:=by
 have:=h.mono (i:=i) (j:=m - 1) (by omega) (by have:=h.pos; omega)
 have:=h.e
 omega
theorem Fold1.mid {f:Nat→Nat} {m n i:Nat} (h:Fold1 f m n) {v:Nat}:∀ {j:Nat},i≤j→j<m→f i≤v→v≤f j→∃ r,i≤r∧r≤j∧f r=v:=by
 intro j
 induction j with
 | zero=>intro h1 h2 h3 h4; exact ⟨0,by omega,qR _,by rw [show i=0 by omega]at h3; omega⟩
 | succ j ih =>
  intro h1 h2 h3 h4
  by_cases e:f (j+1)=v
  ·exact ⟨j+1,h1,qR _,e⟩
  by_cases e2:i=j+1
  ·subst e2; omega
  have:=h.s j h2
  obtain ⟨r,r1,r2,r3⟩:=ih (by omega) (by omega) h3 (by omega)
  exact ⟨r,r1,by omega,r3⟩
theorem Fold1.last {f:Nat→Nat} {m n v:Nat} (h:Fold1 f m n) (hv:v+1<n):∃ r,r+1<m∧f r=v∧f (r+1)=v+1:=by
 have hp:=h.pos
 have he:=h.e
 obtain ⟨e,h1,h2,h3,h4⟩:=zwq (P:=fun r=>f r≤v) (i:=0) (n:=m - 1) (by omega) (by rw [h.z]; omega) (by omega)
 have:=h.s e (by omega)
 exact ⟨e,by omega,by omega,by omega⟩
theorem DL.fold {f g:Nat→Nat} {H' W':Nat} (hf:Fold1 f H H') (hg:Fold1 g W W') (hc:∀ i j,i<H→j<W→c i j=c' (f i) (g j)) {a b:Nat}:DL c H W a b↔DL c' H' W' a b:=by
 constructor
 ·rintro ⟨j,i1,i2,h1,h2,h3,run,rfl,rfl⟩
  have hgj:g (j+1)=g j+1:=by
   rcases hg.s j h1 with e | e
   ·have:=run i1 (by omega) (by omega)
    rw [hc i1 j h2 (by omega),hc i1 (j+1) h2 h1,e]at this
    exact absurd rfl this
   exact e
  have hlt:=hg.lt h1
  refine ⟨g j,f i1,f i2,by omega,hf.lt h2,hf.lt h3,fun r r1 r2=>?_,hc _ _ h2 (by omega),by rw [hc _ _ h3 h1,hgj]⟩
  have:∃ r0,min i1 i2≤r0∧r0≤max i1 i2∧f r0=r:=by
   rcases Nat.le_total i1 i2 with q | q
   ·have:=hf.mono q h3
    obtain ⟨r0,q1,q2,q3⟩:=hf.mid (v:=r) q h3 (by omega) (by omega)
    exact ⟨r0,by omega,by omega,q3⟩
   have:=hf.mono q h2
   obtain ⟨r0,q1,q2,q3⟩:=hf.mid (v:=r) q h2 (by omega) (by omega)
   exact ⟨r0,by omega,by omega,q3⟩
  obtain ⟨r0,q1,q2,rfl⟩:=this
  have:=run r0 q1 q2
  rw [hc r0 j (by omega) (by omega),hc r0 (j+1) (by omega) h1,hgj]at this
  exact this
 rintro ⟨j,i1,i2,h1,h2,h3,run,rfl,rfl⟩
 obtain ⟨j0,k1,k2,k3⟩:=hg.last h1
 have hfe:=hf.e
 have hfp:=hf.pos
 obtain ⟨r1,-,q2,q3⟩:=hf.mid (i:=0) (j:=H - 1) (v:=i1) (by omega) (by omega) (by rw [hf.z]; omega) (by omega)
 obtain ⟨r2,-,q5,q6⟩:=hf.mid (i:=0) (j:=H - 1) (v:=i2) (by omega) (by omega) (by rw [hf.z]; omega) (by omega)
 refine ⟨j0,r1,r2,k1,by omega,by omega,fun r s1 s2=>?_,by rw [hc _ _ (by omega) (by omega),q3,k2],by rw [hc _ _ (by omega) (by omega),q6,k3]⟩
 rw [hc r j0 (by omega) (by omega),hc r (j0+1) (by omega) k1,k2,k3]
 refine run (f r) ?_ ?_
 ·rcases Nat.le_total r1 r2 with q | q
  ·have:=hf.mono (show r1≤r by omega) (show r<H by omega); omega
  have:=hf.mono (show r2≤r by omega) (show r<H by omega); omega
 rcases Nat.le_total r1 r2 with q | q
 ·have:=hf.mono (show r≤r2 by omega) (show r2<H by omega); omega
 have:=hf.mono (show r≤r1 by omega) (show r1<H by omega); omega
theorem DU.fold {f g:Nat→Nat} {H' W':Nat} (hf:Fold1 f H H') (hg:Fold1 g W W') (hc:∀ i j,i<H→j<W→c i j=c' (f i) (g j)) {a b:Nat}:DU c H W a b↔DU c' H' W' a b :=
 DL.fold (c:=tr c) (c':=tr c') hg hf fun i j hi hj=>hc j i hj hi
theorem TC.iff {R S:Nat→Nat→Prop} (h:∀ a b,R a b↔S a b) {a b:Nat}:TC R a b↔TC S a b:=⟨TC.mono fun a b=>(h a b).1,TC.mono fun a b=>(h a b).2⟩
end
section
def zig (ah:Nat→Nat) (n:Nat):Nat→List Int
 | 0=>List.replicate n 0
 | a+1=>(zig ah n a).set (ah a) (a:Int)
theorem zi2 {ah:Nat→Nat} {n:Nat}:∀ k,(zig ah n k).length=n
 | 0=>by simp [zig]
 | k+1=>by simp [zig,zi2 k]
theorem zo6 {ah:Nat→Nat} {n:Nat} (hn:∀ a,a<n→ah a<n) (hi:∀ a b,a<n→b<n→ah a=ah b→a=b):∀ k,k≤n→∀ a,a<k→(zig ah n k)[ah a]?=some (a:Int)
 | 0,_,a,h=>by omega
 | k+1,hk,a,h=>by
  unfold zig
  rw [List.getElem?_set,zi2]
  by_cases e:a=k
  ·subst e; rw [if_pos rfl,if_pos (hn a (by omega))]
  rw [if_neg fun q=>e (hi a k (by omega) (by omega) q.symm)]
  exact zo6 hn hi k (by omega) a (by omega)
def rooms (n:Nat):List Int:=(List.range n).map fun i:Nat=>(i:Int)
theorem zpb {n:Nat}:(rooms n).length=n:=by simp [rooms]
theorem zor {n:Nat} {x:Int}:x∈rooms n↔0≤x∧x<n:=by
 unfold rooms
 rw [List.mem_map]
 constructor
 ·rintro ⟨i,hi,rfl⟩; simp at hi; omega
 rintro ⟨h1,h2⟩; exact ⟨x.toNat,by simp; omega,by omega⟩
theorem zsq {n i:Nat} (h:i<n):(rooms n)[i]?=some (i:Int):=by simp [rooms,h]
theorem z1y {n:Nat}:rooms (n+1)=rooms n++[(n:Int)]:=by simp [rooms,qS]
theorem z15 {z:List Int} {g:Int→Int} (hs:(z.map g).Pairwise (· ≤ ·)) (hd:∀ (i j:Nat) x y,z[i]?=some x→z[j]?=some y→g x=g y→i=j) {i:Nat} {x:Int} (hx:z[i]?=some x):z.countP (fun y=>decide (g y<g x))=i:=by
 have hil:=zbd hx
 have hp:=List.pairwise_iff_getElem.1 hs
 have lt:∀ (a b:Nat) u v,z[a]?=some u→z[b]?=some v→a<b→g u<g v:=by
  intro a b u v hu hv hab
  have h1:=zbd hu
  have h2:=zbd hv
  have h3:=hp a b (by simpa using h1) (by simpa using h2) hab
  simp only[List.getElem_map]at h3
  rw [List.getElem?_eq_getElem h1]at hu
  rw [List.getElem?_eq_getElem h2]at hv
  cases hu; cases hv
  rcases Int.lt_or_le (g z[a]) (g z[b]) with q | q
  ·exact q
  have e:=hd a b _ _ (List.getElem?_eq_getElem h1) (List.getElem?_eq_getElem h2) (by omega)
  omega
 have e:z=z.take i++z.drop i:=(List.take_append_drop i z).symm
 have c1:(z.take i).countP (fun y=>decide (g y<g x))=i:=by
  rw [List.countP_eq_length.2]
  ·rw [List.length_take]; omega
  intro y hy
  obtain ⟨j,hj⟩:=List.mem_iff_getElem?.1 hy
  rw [List.getElem?_take]at hj
  split at hj
  ·exact decide_eq_true (lt j i y x hj hx (by assumption))
  cases hj
 have c2:(z.drop i).countP (fun y=>decide (g y<g x))=0:=by
  rw [List.countP_eq_zero]
  intro y hy
  obtain ⟨j,hj⟩:=List.mem_iff_getElem?.1 hy
  rw [List.getElem?_drop]at hj
  by_cases q:j=0
  ·subst q; rw [Nat.add_zero,hx]at hj; cases hj; simp
  have:=lt i (i+j) x y hx hj (by omega)
  simp; omega
 rw [e,List.countP_append,c1,c2,Nat.add_zero]
theorem zmj {f:Int→Bool}:∀ n,(rooms n).countP f=(List.range n).countP fun a:Nat=>f (a:Int)
 | 0=>rfl
 | n+1=>by rw [z1y,qS,List.countP_append,List.countP_append,zmj n]; rfl
theorem zxd {n:Nat}:∀ (i j:Nat) x,(rooms n)[i]?=some x→(rooms n)[j]?=some x→i=j:=by
 intro i j x hi hj
 have h1:=zbd hi
 have h2:=zbd hj
 rw [zpb]at h1 h2
 rw [zsq h1]at hi
 rw [zsq h2]at hj
 cases hi; cases hj; rfl
theorem zos {z:List Int} (h:z.Nodup) {i j:Nat} (hi:i<z.length) (hj:j<z.length) (e:z[i]=z[j]):i=j:=by
 unfold List.Nodup at h
 rw [List.pairwise_iff_getElem]at h
 rcases Nat.lt_trichotomy i j with q | q | q
 ·exact absurd e (h i j hi hj q)
 ·exact q
 exact absurd e.symm (h j i hj hi q)
theorem zot (n:Nat):(rooms n).Nodup:=by
 unfold List.Nodup
 rw [List.pairwise_iff_getElem]
 intro i j hi hj hij e
 have:=zxd i j _ (List.getElem?_eq_getElem hi) (e ▸ List.getElem?_eq_getElem hj)
 omega
section
variable {n:Nat} {f:Nat→Nat}
theorem zs3 (hf:∀ a b,a<n→b<n→f a=f b→a=b) {a b:Nat} (ha:a<n) (hb:b<n) (h:ahead n f a=ahead n f b):a=b:=by
 rcases Nat.lt_trichotomy (f a) (f b) with q | q | q
 ·have:=zm9 (n:=n) ha q; omega
 ·exact hf a b ha hb q
 have:=zm9 (n:=n) hb q; omega
theorem z16 (hf:∀ a b,a<n→b<n→f a=f b→a=b) {z:List Int} (hp:z.Perm (rooms n)) (hs:(z.map fun x=>((f x.toNat:Nat):Int)).Pairwise (· ≤ ·)):z=zig (ahead n f) n n:=by
 have hl:=hp.length_eq
 rw [zpb]at hl
 have hm:∀ x∈z,0≤x∧x<n:=fun x hx=>zor.1 (hp.mem_iff.1 hx)
 have hd:∀ (i j:Nat) x y,z[i]?=some x→z[j]?=some y→((f x.toNat:Nat):Int)=((f y.toNat:Nat):Int)→i=j:=by
  intro i j x y hx hy e
  have h1:=hm x (List.mem_of_getElem? hx)
  have h2:=hm y (List.mem_of_getElem? hy)
  have e2:=hf x.toNat y.toNat (by omega) (by omega) (by omega)
  have e3:x=y:=by omega
  subst e3
  have hnd:z.Nodup:=hp.nodup_iff.2 (zot n)
  have hi:=zbd hx
  have hj:=zbd hy
  rw [List.getElem?_eq_getElem hi]at hx
  rw [List.getElem?_eq_getElem hj]at hy
  exact zos hnd hi hj ((Option.some.inj hx).trans (Option.some.inj hy).symm)
 apply List.ext_getElem?
 intro i
 by_cases hi:i<n
 ·obtain ⟨x,hx,hxm⟩:=zai (show i<z.length by omega)
  have h1:=hm x hxm
  have e:=z15 hs hd hx
  rw [hp.countP_eq,zmj]at e
  have e2:ahead n f x.toNat=i:=by
   unfold ahead
   rw [← e]
   apply List.countP_congr
   intro a ha
   simp
  have:=zo6 (fun a ha=>z2k (rk:=f) ha) (fun a b ha hb h=>zs3 hf ha hb h) n (qR _) x.toNat (by omega)
  rw [e2]at this
  rw [hx,this,show ((x.toNat:Nat):Int)=x by omega]
 rw [List.getElem?_eq_none (by omega),List.getElem?_eq_none (by rw [zi2]; omega)]
end
def bf1 (p:List Txt) (a b:Nat):Bool:=zb9 (lfM p) a b || zb9 (abM p) a b
def bf2 (p:List Txt) (a b:Nat):Bool:=zb9 (lfM p) a b || zb9 (abM p) b a
def bfK (p:List Txt) (below:Bool) (a b:Nat):Bool:=if below then bf2 p a b else bf1 p a b
def ahK (p:List Txt) (below:Bool) (a:Nat):Nat:=(List.range (rP p).length).countP fun b=>bfK p below b a
theorem zln {p:List Txt} (hp:zal p=true) (below:Bool):∃ f:Nat→Nat,(∀ a b,a<(rP p).length→b<(rP p).length→(bfK p below a b=true↔f a<f b))∧∀ a b,a<(rP p).length→b<(rP p).length→f a=f b→a=b:=by
 obtain ⟨f,g,hfg⟩:=zjt hp
 have tot:=fun a b ha hb hne=>z1h (a:=a) (b:=b) hp ha hb hne
 cases below with
 | false =>
  have h1:∀ a b,a<(rP p).length→b<(rP p).length→bfK p false a b=true→f a<f b:=by
   intro a b ha hb h
   simp only[bfK,bf1,qF,if_false,Bool.or_eq_true]at h
   rcases h with h | h
   ·exact ((hfg a b ha hb).1 h).1
   exact ((hfg a b ha hb).2 h).1
  have h2:∀ a b,a<(rP p).length→b<(rP p).length→a≠b→bfK p false a b=true∨bfK p false b a=true:=by
   intro a b ha hb hne
   simp only[bfK,bf1,qF,if_false,Bool.or_eq_true]
   rcases tot a b ha hb hne with h | h | h | h
   ·exact .inl (.inl h)
   ·exact .inr (.inl h)
   ·exact .inl (.inr h)
   exact .inr (.inr h)
  have h3:∀ a b,a<(rP p).length→b<(rP p).length→f a=f b→a=b:=by
   intro a b ha hb e
   refine Classical.byContradiction fun hne=>?_
   rcases h2 a b ha hb hne with h | h
   ·have:=h1 a b ha hb h; omega
   have:=h1 b a hb ha h; omega
  refine ⟨f,fun a b ha hb=>⟨h1 a b ha hb,fun h=>?_⟩,h3⟩
  rcases h2 a b ha hb (by rintro rfl; omega) with k | k
  ·exact k
  have:=h1 b a hb ha k; omega
 | true =>
  have h1:∀ a b,a<(rP p).length→b<(rP p).length→bfK p true a b=true→g a<g b:=by
   intro a b ha hb h
   simp only[bfK,bf2,if_true,Bool.or_eq_true]at h
   rcases h with h | h
   ·exact ((hfg a b ha hb).1 h).2
   exact ((hfg b a hb ha).2 h).2
  have h2:∀ a b,a<(rP p).length→b<(rP p).length→a≠b→bfK p true a b=true∨bfK p true b a=true:=by
   intro a b ha hb hne
   simp only[bfK,bf2,if_true,Bool.or_eq_true]
   rcases tot a b ha hb hne with h | h | h | h
   ·exact .inl (.inl h)
   ·exact .inr (.inl h)
   ·exact .inr (.inr h)
   exact .inl (.inr h)
  have h3:∀ a b,a<(rP p).length→b<(rP p).length→g a=g b→a=b:=by
   intro a b ha hb e
   refine Classical.byContradiction fun hne=>?_
   rcases h2 a b ha hb hne with h | h
   ·have:=h1 a b ha hb h; omega
   have:=h1 b a hb ha h; omega
  refine ⟨g,fun a b ha hb=>⟨h1 a b ha hb,fun h=>?_⟩,h3⟩
  rcases h2 a b ha hb (by rintro rfl; omega) with k | k
  ·exact k
  have:=h1 b a hb ha k; omega
theorem zpw {p:List Txt} {below:Bool} {f:Nat→Nat} (hf:∀ a b,a<(rP p).length→b<(rP p).length→(bfK p below a b=true↔f a<f b)) {a:Nat} (ha:a<(rP p).length):ahK p below a=ahead (rP p).length f a:=by
 unfold ahK ahead
 apply List.countP_congr
 intro b hb
 rw [hf b a (by simpa using hb) ha]; simp
theorem zm2 {f g:Nat→Nat} {n:Nat}:∀ k,(∀ a,a<k→f a=g a)→zig f n k=zig g n k
 | 0,_=>rfl
 | k+1,h=>by unfold zig; rw [zm2 k fun a ha=>h a (by omega),h k (by omega)]
def srt (p:List Txt) (below:Bool):List Int:=zig (ahK p below) (rP p).length (rP p).length
theorem zmb {p:List Txt} {below:Bool}:(srt p below).length=(rP p).length:=zi2 _
theorem z51 {p:List Txt} {below:Bool} {f:Nat→Nat} (hf:∀ a b,a<(rP p).length→b<(rP p).length→(bfK p below a b=true↔f a<f b)) (hi:∀ a b,a<(rP p).length→b<(rP p).length→f a=f b→a=b)
  {z:List Int} (hz:z.Perm (rooms (rP p).length)) (hs:(z.map fun x=>((f x.toNat:Nat):Int)).Pairwise (· ≤ ·)):z=srt p below:=by
 rw [z16 hi hz hs]
 exact (zm2 _ fun a ha=>zpw hf ha).symm
end
section
section
variable {p:List Txt} {below:Bool}
theorem z0b (hp:zal p=true) (below:Bool):(srt p below).Perm (rooms (rP p).length):=by
 obtain ⟨f,hf,hi⟩:=zln hp below
 have h1:((rooms (rP p).length).mergeSort fun x y=>decide (f x.toNat≤f y.toNat)).Perm (rooms (rP p).length):=List.mergeSort_perm _ _
 have h2:(((rooms (rP p).length).mergeSort fun x y=>decide (f x.toNat≤f y.toNat)).map fun x=>((f x.toNat:Nat):Int)).Pairwise (· ≤ ·):=by
  rw [List.pairwise_map]
  refine (List.pairwise_mergeSort (fun a b c h k=>?_) (fun a b=>?_) _).imp fun {a b} h=>?_
  ·simp only[decide_eq_true_eq]at h k ⊢; omega
  ·simp only[Bool.or_eq_true,decide_eq_true_eq]; omega
  simp only[decide_eq_true_eq]at h; omega
 rw [← z51 hf hi h1 h2]
 exact h1
theorem ycs (hp:zal p=true) {x:Int}:x∈srt p below↔0≤x∧x<(rP p).length:=by
 rw [(z0b hp below).mem_iff,zor]
theorem zvu (hp:zal p=true):(srt p below).Nodup:=(z0b hp below).nodup_iff.2 (zot _)
theorem zcs (hp:zal p=true) {a:Nat} (ha:a<(rP p).length):ahK p below a<(rP p).length:=by
 obtain ⟨f,hf,hi⟩:=zln hp below
 rw [zpw hf ha]; exact z2k ha
theorem zdb (hp:zal p=true) {a b:Nat} (ha:a<(rP p).length) (hb:b<(rP p).length):bfK p below a b=true↔ahK p below a<ahK p below b:=by
 obtain ⟨f,hf,hi⟩:=zln hp below
 rw [zpw hf ha,zpw hf hb,hf a b ha hb]
 constructor
 ·intro h; exact zm9 ha h
 intro h
 refine Classical.byContradiction fun k=>?_
 rcases Nat.lt_trichotomy (f a) (f b) with q | q | q
 ·exact k q
 ·have:=hi a b ha hb q; subst this; omega
 have:=zm9 (n:=(rP p).length) hb q; omega
theorem zev (hp:zal p=true) {a b:Nat} (ha:a<(rP p).length) (hb:b<(rP p).length) (h:ahK p below a=ahK p below b):a=b:=by
 obtain ⟨f,hf,hi⟩:=zln hp below
 rw [zpw hf ha,zpw hf hb]at h
 exact zs3 hi ha hb h
theorem z0a (hp:zal p=true) {a:Nat} (ha:a<(rP p).length):(srt p below)[ahK p below a]?=some (a:Int) :=
 zo6 (fun a ha=>zcs hp ha) (fun a b ha hb h=>zev hp ha hb h) _ (qR _) a ha
theorem zxo (hp:zal p=true) {i:Nat} (hi:i<(rP p).length):∃ a,a<(rP p).length∧ahK p below a=i∧(srt p below)[i]?=some (a:Int):=by
 obtain ⟨x,hx,hm⟩:=zai (show i<(srt p below).length by rw [zmb]; exact hi)
 obtain ⟨h1,h2⟩:=(ycs hp).1 hm
 refine ⟨x.toNat,by omega,?_,by rw [hx]; congr 1; omega⟩
 have h3:=z0a (below:=below) hp (a:=x.toNat) (by omega)
 have e:((x.toNat:Nat):Int)=x:=by omega
 rw [e]at h3
 have k1:=zbd h3
 have k2:=zbd hx
 rw [List.getElem?_eq_getElem k1]at h3
 rw [List.getElem?_eq_getElem k2]at hx
 exact zos (zvu hp) k1 k2 ((Option.some.inj h3).trans (Option.some.inj hx).symm)
def zci (p:List Txt):List Int:=(srt p true).map fun x=>((ahK p false x.toNat:Nat):Int)
theorem zbv:(zci p).length=(rP p).length:=by simp [zci,zmb]
theorem zr9 (hp:zal p=true) {i a:Nat} (h:(srt p true)[i]?=some (a:Int)):(zci p)[i]?=some ((ahK p false a:Nat):Int):=by
 unfold zci
 rw [List.getElem?_map,h]
 simp
end
end

section
variable {M:List (List Bool)} {ms:List Nat} {n:Nat} {rk:Nat→Nat} {ws out:List Int}
abbrev ones (n:Nat):List Int:=List.replicate n 1
def RB (M:List (List Bool)) (n b:Nat):Int:=HB (revM n M) (ones n) n b
def yff (M:List (List Bool)) (n:Nat) (out:List Int):Prop:=out.length=n∧∀ a,a<n→0≤zdf out a∧zdf out a≤RB M n a
theorem yff.set (h:yff M n out) {a:Nat} {v:Int} (ha:a<n) (h0:0≤v) (h1:v≤RB M n a):yff M n (out.set a v):=by
 refine ⟨by simp [h.1],fun y hy=>?_⟩
 rw [z7h (by rw [h.1]; exact ha)]
 split
 ·rename_i e; subst e; exact ⟨h0,h1⟩
 exact h.2 y hy
end
section
variable {p:List Txt}
def zv7 (p:List Txt) (i:Nat):Nat:=((srt p true)[i]?.getD 0).toNat
theorem ze4 (hp:zal p=true) {i:Nat} (hi:i<(rP p).length):zv7 p i<(rP p).length∧ahK p true (zv7 p i)=i∧(srt p true)[i]?=some (zv7 p i:Int):=by
 obtain ⟨a,h1,h2,h3⟩:=zxo (below:=true) hp hi
 have e:zv7 p i=a:=by unfold zv7; rw [h3]; simp
 rw [e]; exact ⟨h1,h2,h3⟩
theorem zjz (hp:zal p=true) {a:Nat} (ha:a<(rP p).length):zv7 p (ahK p true a)=a:=by
 have h:=z0a (below:=true) hp ha
 unfold zv7; rw [h]; simp
def xI (p:List Txt) (i:Nat):Int:=((ahK p false (zv7 p i):Nat):Int)
theorem ye9 (hp:zal p=true) {i:Nat} (hi:i<(rP p).length):(zci p)[i]?=some (xI p i):=zr9 hp (ze4 hp hi).2.2
theorem x_lt (hp:zal p=true) {k i:Nat} (hk:k<i) (hi:i<(rP p).length) :
  (xI p k<xI p i→zb9 (lfM p) (zv7 p k) (zv7 p i)=true)∧(¬ xI p k<xI p i→zb9 (abM p) (zv7 p i) (zv7 p k)=true):=by
 obtain ⟨a1,a2,-⟩:=ze4 hp hi
 obtain ⟨b1,b2,-⟩:=ze4 hp (show k<(rP p).length by omega)
 have h2:=(zdb (below:=true) hp b1 a1).2 (by omega)
 have h1:=zdb (below:=false) hp b1 a1
 simp only[bfK,bf1,bf2,if_true,qF,if_false,Bool.or_eq_true]at h1 h2
 unfold xI
 constructor
 ·intro h
  have h3:=h1.2 (by omega)
  rcases h2 with h2 | h2
  ·exact h2
  rcases h3 with h3 | h3
  ·exact h3
  exact absurd h3 (Ab.only hp a1 b1 h2).1
 intro h
 rcases h2 with h2 | h2
 ·exact absurd (h1.1 (.inl h2)) (by omega)
 exact h2
theorem z38 (hp:zal p=true) {a i:Nat} (ha:a<(rP p).length) (hi:i<(rP p).length) (h:zb9 (lfM p) a (zv7 p i)=true):ahK p true a<i∧xI p (ahK p true a)<xI p i:=by
 obtain ⟨a1,a2,-⟩:=ze4 hp hi
 have h2:=(zdb (below:=true) hp ha a1).1 (by simp only[bfK,bf2,if_true,Bool.or_eq_true]; exact .inl h)
 have h1:=(zdb (below:=false) hp ha a1).1 (by simp only[bfK,bf1,qF,if_false,Bool.or_eq_true]; exact .inl h)
 unfold xI
 rw [zjz hp ha]
 omega
theorem z2j (hp:zal p=true) {b i:Nat} (hb:b<(rP p).length) (hi:i<(rP p).length) (h:zb9 (abM p) (zv7 p i) b=true):ahK p true b<i∧¬ xI p (ahK p true b)<xI p i:=by
 obtain ⟨a1,a2,-⟩:=ze4 hp hi
 have h2:=(zdb (below:=true) hp hb a1).1 (by simp only[bfK,bf2,if_true,Bool.or_eq_true]; exact .inr h)
 have h1:=(zdb (below:=false) hp a1 hb).1 (by simp only[bfK,bf1,qF,if_false,Bool.or_eq_true]; exact .inr h)
 unfold xI
 rw [zjz hp hb]
 omega
def stp (f:Nat→Int) (i n:Nat):List Int:=(List.range n).map fun k=>if k<i then f k else 0
theorem z52 {f:Nat→Int} {i n:Nat}:(stp f i n).length=n:=by simp [stp]
theorem z8w {f:Nat→Int} {n:Nat}:stp f 0 n=List.replicate n 0:=by
 apply List.ext_getElem?
 intro j
 by_cases h:j<n <;> simp [stp,h]
theorem ycw {f:Nat→Int} {i n:Nat}:(stp f i n).set i (f i)=stp f (i+1) n:=by
 apply List.ext_getElem?
 intro j
 rw [List.getElem?_set,z52]
 by_cases e:i=j
 ·subst e
  by_cases h:i<n <;> simp [stp,h]
 rw [if_neg e]
 by_cases h:j<n
 ·simp only[stp,List.getElem?_map,List.getElem?_range h,qO]
  congr 1
  by_cases h2:j<i
  ·rw [if_pos h2,if_pos (by omega)]
  rw [if_neg h2,if_neg (by omega)]
 simp [stp,h]
end
section
theorem zsv {σ:Nat→Nat} {n:Nat} (h:∀ a,a<n→σ a<n) (hi:∀ a b,a<n→b<n→σ a=σ b→a=b) {v:Nat} (hv:v<n):∃ a,a<n∧σ a=v:=by
 refine Classical.byContradiction fun hno=>?_
 have hno':∀ a,a<n→σ a≠v:=fun a ha e=>hno ⟨a,ha,e⟩
 have:=pig (σ:=fun a=>if σ a<v then σ a else σ a - 1) (n:=n) (m:=n - 1) (fun a ha=>by
  have h1:=h a ha
  have h2:=hno' a ha
  split <;> omega) (fun a b ha hb e=>by
  have h2:=hno' a ha
  have h3:=hno' b hb
  refine hi a b ha hb ?_
  split at e <;> split at e <;> omega)
 omega
theorem zsh {f g:Nat→Nat} {n:Nat} (f1:∀ a,a<n→f a<n) (f2:∀ a b,a<n→b<n→f a=f b→a=b) (g1:∀ a,a<n→g a<n) (g2:∀ a b,a<n→b<n→g a=g b→a=b)
  (h:∀ a b,a<n→b<n→(f a<f b↔g a<g b)):∀ a,a<n→f a=g a:=by
 have key:∀ v a,a<n→f a=v→g a=v:=by
  intro v
  induction v using Nat.strongRecOn with
  | _ v ih =>
   intro a ha e
   have hga:=g1 a ha
   have hfa:=f1 a ha
   rcases Nat.lt_trichotomy (g a) v with q | q | q
   ·obtain ⟨b,hb,e2⟩:=zsv f1 f2 (v:=g a) hga
    have e3:=ih (g a) q b hb e2
    have:=g2 b a hb ha e3
    subst this; omega
   ·exact q
   obtain ⟨d,hd,e2⟩:=zsv g1 g2 (v:=v) (by omega)
   have h1:=(h d a hd ha).2 (by omega)
   have:=ih (f d) (by omega) d hd rfl
   omega
 exact fun a ha=>(key (f a) a ha rfl).symm
variable {p t:List Txt} {L U:Nat→Nat→Prop} {σ:Nat→Nat}
theorem zd5 {below:Bool} {a b:Nat}:bfK p below a b=true↔Lf p a b∨(if below then Ab p b a else Ab p a b):=by
 unfold bfK bf1 bf2 Lf Ab
 cases below <;> simp
theorem Iso.ah (h:Iso p t L U σ) (hp:zal p=true) {b1 b2:Bool} (he:∀ a b,a<(rP p).length→b<(rP p).length→(bfK t b1 (σ a) (σ b)=true↔bfK p b2 a b=true)):∀ a,a<(rP p).length→ahK t b1 (σ a)=ahK p b2 a:=by
 refine zsh (n:=(rP p).length) (f:=fun a=>ahK t b1 (σ a)) (g:=ahK p b2) (fun a ha=>?_) (fun a b ha hb e=>?_) (fun a ha=>zcs hp ha) (fun a b ha hb e=>zev hp ha hb e) fun a b ha hb=>?_
 ·have:=zcs (below:=b1) h.pl (a:=σ a) (by rw [h.n]; exact h.lt a ha)
  rwa [h.n]at this
 ·exact h.inj a b ha hb (zev h.pl (by rw [h.n]; exact h.lt a ha) (by rw [h.n]; exact h.lt b hb) e)
 rw [← zdb h.pl (by rw [h.n]; exact h.lt a ha) (by rw [h.n]; exact h.lt b hb),he a b ha hb]
 exact zdb hp ha hb
theorem Iso.ah_rev (h:Iso p t L U σ) (hp:zal p=true) {b1 b2:Bool} (he:∀ a b,a<(rP p).length→b<(rP p).length→(bfK t b1 (σ a) (σ b)=true↔bfK p b2 b a=true)):∀ a,a<(rP p).length→ahK t b1 (σ a)=(rP p).length - 1 - ahK p b2 a:=by
 refine zsh (n:=(rP p).length) (f:=fun a=>ahK t b1 (σ a)) (g:=fun a=>(rP p).length - 1 - ahK p b2 a) (fun a ha=>?_) (fun a b ha hb e=>?_) (fun a ha=>?_) (fun a b ha hb e=>?_) fun a b ha hb=>?_
 ·have:=zcs (below:=b1) h.pl (a:=σ a) (by rw [h.n]; exact h.lt a ha)
  rwa [h.n]at this
 ·exact h.inj a b ha hb (zev h.pl (by rw [h.n]; exact h.lt a ha) (by rw [h.n]; exact h.lt b hb) e)
 ·omega
 ·have h1:=zcs (below:=b2) hp ha
  have h2:=zcs (below:=b2) hp hb
  exact zev hp ha hb (by omega:ahK p b2 a=ahK p b2 b)
 rw [← zdb h.pl (by rw [h.n]; exact h.lt a ha) (by rw [h.n]; exact h.lt b hb),he a b ha hb,zdb hp hb ha]
 have h1:=zcs (below:=b2) hp ha
 have h2:=zcs (below:=b2) hp hb
 omega
theorem zc8 (hp:zal p=true) {a:Nat} (ha:a<(rP p).length):(zci p)[ahK p true a]?=some ((ahK p false a:Nat):Int):=zr9 hp (z0a hp ha)
theorem zsn (hp:zal p=true) {i:Nat} (hi:i<(rP p).length):∃ a,a<(rP p).length∧ahK p true a=i:=by
 obtain ⟨a,h1,h2,-⟩:=zxo (below:=true) hp hi
 exact ⟨a,h1,h2⟩
theorem Iso.perm_turn (h:Iso p t (fun a b=>Ab p b a) (Lf p) σ) (hp:zal p=true) {a:Nat} (ha:a<(rP p).length):(zci t)[(rP p).length - 1 - ahK p false a]?=some ((ahK p true a:Nat):Int):=by
 have e1:∀ a,a<(rP p).length→ahK t false (σ a)=ahK p true a:=h.ah hp fun x y hx hy=>by
  rw [zd5,zd5,h.lf x y hx hy]
  simp only[qF,if_false,if_true,h.ab _ _ hx hy]
  exact or_comm
 have e2:∀ a,a<(rP p).length→ahK t true (σ a)=(rP p).length - 1 - ahK p false a:=h.ah_rev hp fun x y hx hy=>by
  rw [zd5,zd5,h.lf x y hx hy]
  simp only[qF,if_false,if_true,h.ab _ _ hy hx]
  exact or_comm
 rw [← e2 a ha,zc8 h.pl (by rw [h.n]; exact h.lt a ha),e1 a ha]
theorem z7p (hp:zal p=true) (ht:zec t=true) (hR:Ren (tr (fl (cn (gP p)) p.length)) (zag p).length p.length t):∃ σ:Nat→Nat,(∀ i j,i<(zag p).length→j<p.length→cn (gP t) i j=σ (cn (gP p) (p.length - 1 - j) i))∧Iso p t (fun a b=>Ab p b a) (Lf p) σ:=by
 obtain ⟨σ,h1,h2⟩:=zyz (p:=p) (fun i j hi hj=>zfe zb2 (by omega) hi) (fun a ha=>by obtain ⟨i,j,hi,hj,e⟩:=zbe ha; exact ⟨j,p.length - 1 - i,hj,by omega,by show cn (gP p) (p.length - 1 - (p.length - 1 - i)) j=a; rw [show p.length - 1 - (p.length - 1 - i)=i by omega]; exact e⟩) (zb4 hp).dn.ex ht hR
 refine ⟨σ,h1,h2.imp (fun a b ha hb=>?_) fun a b ha hb=>?_⟩
 ·rw [Ab.iff hb ha]
  constructor
  ·exact fun h=>TC.rev (fun x y (q:DL (tr (fl (cn (gP p)) p.length)) _ _ x y)=>DU.dn q) h
  exact fun h=>TC.rev (fun x y q=>(DU.unfl q:DU (fl (cn (gP p)) p.length) _ _ y x)) h
 rw [Lf.iff ha hb]
 exact TC.iff fun x y=>⟨fun (q:DL (fl (cn (gP p)) p.length) _ _ x y)=>q.dn,fun q=>q.unfl⟩
theorem z7o (hp:zal p=true) (ht:zec t=true) (hR:Ren (tr (fl (tr (cn (gP p))) (zag p).length)) p.length (zag p).length t):∃ σ:Nat→Nat,(∀ i j,i<p.length→j<(zag p).length→cn (gP t) i j=σ (cn (gP p) i ((zag p).length - 1 - j)))∧Iso p t (fun a b=>Lf p b a) (Ab p) σ:=by
 obtain ⟨σ,h1,h2⟩:=zyz (p:=p) (fun i j hi hj=>zfe zb2 hi (by omega)) (fun a ha=>by obtain ⟨i,j,hi,hj,e⟩:=zbe ha; exact ⟨i,(zag p).length - 1 - j,hi,by omega,by show cn (gP p) i ((zag p).length - 1 - ((zag p).length - 1 - j))=a; rw [show (zag p).length - 1 - ((zag p).length - 1 - j)=j by omega]; exact e⟩) (zb4 hp).ex.dn.ex ht hR
 refine ⟨σ,h1,h2.imp (fun a b ha hb=>?_) fun a b ha hb=>?_⟩
 ·rw [Lf.iff hb ha]
  constructor
  ·exact fun h=>TC.rev (fun x y (q:DU (fl (tr (cn (gP p))) (zag p).length) _ _ x y)=>(DU.dn q:DU (tr (cn (gP p))) _ _ y x)) h
  exact fun h=>TC.rev (fun x y (q:DU (tr (cn (gP p))) _ _ x y)=>(DU.unfl q:DU (fl (tr (cn (gP p))) (zag p).length) _ _ y x)) h
 rw [Ab.iff ha hb]
 exact TC.iff fun x y=>⟨fun (q:DL (fl (tr (cn (gP p))) (zag p).length) _ _ x y)=>(q.dn:DL (tr (cn (gP p))) _ _ x y),fun (q:DL (tr (cn (gP p))) _ _ x y)=>q.unfl⟩
end
section
variable {c:Nat→Nat→Nat} {H W:Nat}
theorem DL.cols (h:Pl c H W) {i j i' j':Nat} (hi:i<H) (hj:j<W) (hi':i'<H) (hj':j'<W) (hd:DL c H W (c i j) (c i' j')):j<j':=by
 obtain ⟨k,i1,i2,h1,h2,h3,run,e1,e2⟩:=hd
 have a1:j≤k:=by
  refine Classical.byContradiction fun hn=>?_
  have:=h.rect (i:=i1) (j:=k) (i':=i) (j':=j) i1 (k+1) h2 hi (by omega) hj e1.symm (by omega) (by omega) (by omega) (by omega)
  exact run i1 (by omega) (by omega) this.symm
 have a2:k+1≤j':=by
  refine Classical.byContradiction fun hn=>?_
  have:=h.rect (i:=i2) (j:=k+1) (i':=i') (j':=j') i2 k h3 hi' h1 hj' e2.symm (by omega) (by omega) (by omega) (by omega)
  exact run i2 (by omega) (by omega) this
 omega
theorem DL.cells {a b:Nat} (hd:DL c H W a b):(∃ i j,i<H∧j<W∧c i j=a)∧∃ i j,i<H∧j<W∧c i j=b:=by
 obtain ⟨k,i1,i2,h1,h2,h3,run,e1,e2⟩:=hd
 exact ⟨⟨i1,k,h2,by omega,e1.symm⟩,i2,k+1,h3,h1,e2.symm⟩
theorem TC.cols (h:Pl c H W) {a b:Nat} (hd:TC (DL c H W) a b):∀ {i j i' j':Nat},i<H→j<W→i'<H→j'<W→c i j=a→c i' j'=b→j<j':=by
 induction hd with
 | one hd=>intro i j i' j' h1 h2 h3 h4 e1 e2; subst e1; subst e2; exact hd.cols h h1 h2 h3 h4
 | tail _ hd ih =>
  intro i j i' j' h1 h2 h3 h4 e1 e2
  obtain ⟨⟨x,y,hx,hy,e3⟩,-⟩:=hd.cells
  have q1:=ih h1 h2 hx hy e1 e3
  subst e2; rw [← e3]at hd
  have q2:=hd.cols h hx hy h3 h4
  omega
def Thru (c:Nat→Nat→Nat) (H k:Nat):Prop:=∀ r,r<H→c r (k - 1)≠c r k
theorem zpl (h:Pl c H W) {k:Nat} (h1:1≤k) (h2:k<W) (ht:Thru c H k) {i j i' j':Nat} (hi:i<H) (hj:j<k) (hi':i'<H) (hj':k≤j') (hw:j'<W):TC (DL c H W) (c i j) (c i' j'):=by
 have q:TC (DL c H W) (c i (k - 1)) (c i' k) := .one ⟨k - 1,i,i',by omega,hi,hi',fun r r1 r2=>by
  have:=ht r (by omega)
  rw [show k - 1+1=k by omega]; exact this,rfl,by rw [show k - 1+1=k by omega]⟩
 have q1:c i j=c i (k - 1)∨TC (DL c H W) (c i j) (c i (k - 1)):=by
  by_cases e:c i j=c i (k - 1)
  ·exact .inl e
  exact .inr (zi5 hi (by omega) (by omega) e)
 have q2:c i' k=c i' j'∨TC (DL c H W) (c i' k) (c i' j'):=by
  by_cases e:c i' k=c i' j'
  ·exact .inl e
  exact .inr (zi5 hi' hj' hw e)
 have q3:TC (DL c H W) (c i j) (c i' k):=by
  rcases q1 with e | e
  ·rw [e]; exact q
  exact e.trans q
 rcases q2 with e | e
 ·rw [← e]; exact q3
 exact q3.trans e
theorem zua (h:Pl c H W) (hH:1≤H) {P:Nat→Prop} (ha:∃ i j,i<H∧j<W∧P (c i j)) (hb:∃ i j,i<H∧j<W∧¬ P (c i j))
  (hl:∀ i j i' j',i<H→j<W→i'<H→j'<W→P (c i j)→¬ P (c i' j')→TC (DL c H W) (c i j) (c i' j')):∃ k,1≤k∧k<W∧Thru c H k∧∀ i j,i<H→j<W→(P (c i j)↔j<k):=by
 obtain ⟨i0,j0,hi0,hj0,hp0⟩:=ha
 obtain ⟨i1,j1,hi1,hj1,hp1⟩:=hb
 -- the first column with a cell that isn't in P
 obtain ⟨k,hk,⟨r,hr,hrp⟩,hmin⟩:=zix (P:=fun k=>∃ r,r<H∧¬ P (c r k)) ⟨i1,hi1,hp1⟩
 have hkW:k<W:=by omega
 have all:∀ i j,i<H→j<W→(P (c i j)↔j<k):=by
  intro i j hi hj
  constructor
  ·intro hp
   have:=TC.cols h (hl i j r k hi hj hr hkW hp hrp) hi hj hr hkW rfl rfl
   exact this
  intro hlt
  exact Classical.byContradiction fun hn=>hmin j hlt ⟨i,hi,hn⟩
 refine ⟨k,?_,hkW,fun r hr e=>?_,all⟩
 ·have:=(all i0 j0 hi0 hj0).1 hp0; omega
 have hk1:1≤k:=by have:=(all i0 j0 hi0 hj0).1 hp0; omega
 have q1:=(all r (k - 1) hr (by omega)).2 (by omega)
 have q2:=(all r k hr hkW)
 rw [e]at q1
 have:=q2.1 q1; omega
variable {p:List Txt}
end
section
section
variable {cf cg:Nat→Nat→Nat} {H1 W1 H2 W2 n:Nat}
theorem z6x (w1:1≤W1) (hn:∀ i j,i<H1→j<W1→cf i j<n) (h1:1≤H1):Thru (asd cf H1 W1 cg n) (H1+H2 - 1) W1:=by
 intro r hr e
 unfold asd at e
 rw [if_pos (by omega),if_neg (by omega)]at e
 have:=hn (min r (H1 - 1)) (W1 - 1) (by omega) (by omega)
 omega
theorem zs6 (hf:Pl cf H1 W1) (hg:Pl cg H2 W2) (h1:1≤H1) (h2:1≤H2) (w1:1≤W1) (w2:1≤W2) (hn:∀ i j,i<H1→j<W1→cf i j<n) {i j i' j':Nat} (hi:i<H1) (hj:j<W1) (hi':i'<H2) (hj':j'<W2) :
  TC (DL (asd cf H1 W1 cg n) (H1+H2 - 1) (W1+W2)) (cf i j) (n+cg i' j'):=by
 have h:=zpl (zny hf hg h1 h2 hn) w1 (by omega) (z6x (H2:=H2) w1 hn h1) (i:=i) (j:=j) (i':=i'+(H1 - 1)) (j':=W1+j') (by omega) hj (by omega) (by omega) (by omega)
 have e1:asd cf H1 W1 cg n i j=cf i j:=by unfold asd; rw [if_pos hj,Nat.min_eq_left (by omega)]
 have e2:asd cf H1 W1 cg n (i'+(H1 - 1)) (W1+j')=n+cg i' j':=by
  unfold asd; rw [if_neg (by omega),Nat.add_sub_cancel,Nat.add_sub_cancel_left]
 rwa [e1,e2]at h
theorem ydk {a b:Nat} (w1:1≤W1) (h2:1≤H2):(DL cf H1 W1 a b→DL (asd cf H1 W1 cg n) (H1+H2 - 1) (W1+W2) a b)∧(DU cf H1 W1 a b→DU (asd cf H1 W1 cg n) (H1+H2 - 1) (W1+W2) a b):=by
 have at_:∀ {i j},i<H1→j<W1→asd cf H1 W1 cg n i j=cf i j:=fun hi hj=>by unfold asd; rw [if_pos hj,Nat.min_eq_left (by omega)]
 constructor
 ·rintro ⟨j,i1,i2,q1,q2,q3,q4,rfl,rfl⟩
  refine ⟨j,i1,i2,by omega,by omega,by omega,fun r r1 r2=>?_,(at_ q2 (by omega)).symm,(at_ q3 q1).symm⟩
  rw [at_ (by omega) (by omega),at_ (by omega) q1]; exact q4 r r1 r2
 rintro ⟨i,j1,j2,q1,q2,q3,q4,rfl,rfl⟩
 refine ⟨i,j1,j2,by omega,by omega,by omega,fun r r1 r2=>?_,(at_ (by omega) q2).symm,(at_ q1 q3).symm⟩
 rw [at_ (by omega) (by omega),at_ q1 (by omega)]; exact q4 r r1 r2
theorem ydl {a b:Nat} (h1:1≤H1):(DL cg H2 W2 a b→DL (asd cf H1 W1 cg n) (H1+H2 - 1) (W1+W2) (n+a) (n+b))∧(DU cg H2 W2 a b→DU (asd cf H1 W1 cg n) (H1+H2 - 1) (W1+W2) (n+a) (n+b)):=by
 have at_:∀ {i j},asd cf H1 W1 cg n (i+(H1 - 1)) (W1+j)=n+cg i j:=by
  intro i j
  unfold asd; rw [if_neg (by omega),Nat.add_sub_cancel,Nat.add_sub_cancel_left]
 constructor
 ·rintro ⟨j,i1,i2,q1,q2,q3,q4,rfl,rfl⟩
  refine ⟨W1+j,i1+(H1 - 1),i2+(H1 - 1),by omega,by omega,by omega,fun r r1 r2=>?_,at_.symm,?_⟩
  ·have:=q4 (r - (H1 - 1)) (by omega) (by omega)
   rw [show r=r - (H1 - 1)+(H1 - 1) by omega,at_,Nat.add_assoc,at_]
   omega
  rw [Nat.add_assoc,at_]
 rintro ⟨i,j1,j2,q1,q2,q3,q4,rfl,rfl⟩
 refine ⟨i+(H1 - 1),W1+j1,W1+j2,by omega,by omega,by omega,fun r r1 r2=>?_,at_.symm,?_⟩
 ·have:=q4 (r - W1) (by omega) (by omega)
  rw [show r=W1+(r - W1) by omega,at_,show i+(H1 - 1)+1=i+1+(H1 - 1) by omega,at_]
  omega
 rw [show i+(H1 - 1)+1=i+1+(H1 - 1) by omega,at_]
end
end
section
theorem zl2 {c:Nat→Nat→Nat} {H W N:Nat} (h:Pl c H W) (hc:∀ i j,i<H→j<W→c i j<N) {a b:Nat} (hl:TC (DL c H W) a b):¬ TC (DL c H W) b a∧¬ TC (DU c H W) a b∧¬ TC (DU c H W) b a:=by
 obtain ⟨f,hf⟩:=zku h hc
 obtain ⟨g,hg⟩:=zum h hc
 have f1:f a<f b:=hl.rise fun a b k=>hf a b (.inl k)
 have g1:g a<g b:=hl.rise fun a b k=>hg a b (.inl k)
 refine ⟨fun k=>?_,fun k=>?_,fun k=>?_⟩
 ·have:f b<f a:=k.rise fun a b k=>hf a b (.inl k)
  omega
 ·have:g b<g a:=TC.rise (f:=g) (R:=fun x y=>DU c H W y x) (fun a b k=>hg a b (.inr k)) (k.rev fun _ _ h=>h)
  omega
 have:f b<f a:=k.rise fun a b k=>hf a b (.inr k)
 omega
section
variable {cf cg:Nat→Nat→Nat} {H1 W1 H2 W2 n N:Nat}
theorem zx4 (hf:Pl cf H1 W1) (hg:Pl cg H2 W2) (h1:1≤H1) (h2:1≤H2) (w1:1≤W1) (hn:∀ i j,i<H1→j<W1→cf i j<n) (hN:∀ i j,i<H1+H2 - 1→j<W1+W2→asd cf H1 W1 cg n i j<N)
  {i j i' j':Nat} (hi:i<H1) (hj:j<W1) (hi':i'<H1) (hj':j'<W1) (hne:cf i j≠cf i' j') :
  (TC (DL (asd cf H1 W1 cg n) (H1+H2 - 1) (W1+W2)) (cf i j) (cf i' j')↔TC (DL cf H1 W1) (cf i j) (cf i' j'))∧(TC (DU (asd cf H1 W1 cg n) (H1+H2 - 1) (W1+W2)) (cf i j) (cf i' j')↔TC (DU cf H1 W1) (cf i j) (cf i' j')):=by
 have hP:=zny hf hg h1 h2 hn
 have ml:∀ {a b},TC (DL cf H1 W1) a b→TC (DL (asd cf H1 W1 cg n) (H1+H2 - 1) (W1+W2)) a b:=fun h=>h.mono fun _ _=>(ydk w1 h2).1
 have mu:∀ {a b},TC (DU cf H1 W1) a b→TC (DU (asd cf H1 W1 cg n) (H1+H2 - 1) (W1+W2)) a b:=fun h=>h.mono fun _ _=>(ydk w1 h2).2
 refine ⟨⟨fun h=>?_,ml⟩,⟨fun h=>?_,mu⟩⟩
 ·obtain ⟨e1,e2,e3⟩:=zl2 hP hN h
  rcases zhn hf hi hj hi' hj' hne with k | k | k | k
  ·exact k
  ·exact absurd (ml k) e1
  ·exact absurd (mu k) e2
  exact absurd (mu k) e3
 rcases zhn hf hi hj hi' hj' hne with k | k | k | k
 ·exact absurd h (zl2 hP hN (ml k)).2.1
 ·exact absurd h (zl2 hP hN (ml k)).2.2
 ·exact k
 have k2:=mu k
 obtain ⟨f,hf'⟩:=zku hP hN
 have q1:f (cf i j)<f (cf i' j'):=h.rise fun a b k=>hf' a b (.inr k)
 have q2:f (cf i' j')<f (cf i j):=k2.rise fun a b k=>hf' a b (.inr k)
 omega
theorem zs8 (hf:Pl cf H1 W1) (hg:Pl cg H2 W2) (h1:1≤H1) (h2:1≤H2) (hn:∀ i j,i<H1→j<W1→cf i j<n) (hN:∀ i j,i<H1+H2 - 1→j<W1+W2→asd cf H1 W1 cg n i j<N)
  {i j i' j':Nat} (hi:i<H2) (hj:j<W2) (hi':i'<H2) (hj':j'<W2) (hne:cg i j≠cg i' j') :
  (TC (DL (asd cf H1 W1 cg n) (H1+H2 - 1) (W1+W2)) (n+cg i j) (n+cg i' j')↔TC (DL cg H2 W2) (cg i j) (cg i' j'))∧(TC (DU (asd cf H1 W1 cg n) (H1+H2 - 1) (W1+W2)) (n+cg i j) (n+cg i' j')↔TC (DU cg H2 W2) (cg i j) (cg i' j')):=by
 have hP:=zny hf hg h1 h2 hn
 have gen:∀ {R S:Nat→Nat→Prop},(∀ a b,R a b→S (n+a) (n+b))→∀ {a b},TC R a b→TC S (n+a) (n+b):=by
  intro R S hRS a b h
  induction h with
  | one h=>exact .one (hRS _ _ h)
  | tail _ k ih=>exact .tail ih (hRS _ _ k)
 have ml:∀ {a b},TC (DL cg H2 W2) a b→TC (DL (asd cf H1 W1 cg n) (H1+H2 - 1) (W1+W2)) (n+a) (n+b):=fun h=>gen (fun _ _=>(ydl h1).1) h
 have mu:∀ {a b},TC (DU cg H2 W2) a b→TC (DU (asd cf H1 W1 cg n) (H1+H2 - 1) (W1+W2)) (n+a) (n+b):=fun h=>gen (fun _ _=>(ydl h1).2) h
 refine ⟨⟨fun h=>?_,ml⟩,⟨fun h=>?_,mu⟩⟩
 ·obtain ⟨e1,e2,e3⟩:=zl2 hP hN h
  rcases zhn hg hi hj hi' hj' hne with k | k | k | k
  ·exact k
  ·exact absurd (ml k) e1
  ·exact absurd (mu k) e2
  exact absurd (mu k) e3
 rcases zhn hg hi hj hi' hj' hne with k | k | k | k
 ·exact absurd h (zl2 hP hN (ml k)).2.1
 ·exact absurd h (zl2 hP hN (ml k)).2.2
 ·exact k
 have k2:=mu k
 obtain ⟨f,hf'⟩:=zku hP hN
 have q1:f (n+cg i j)<f (n+cg i' j'):=h.rise fun a b k=>hf' a b (.inr k)
 have q2:f (n+cg i' j')<f (n+cg i j):=k2.rise fun a b k=>hf' a b (.inr k)
 omega
end
end
theorem zwt {S:Store} {lo k:Nat} {g:FuncId} {cap:List PV} (h:cap.mapM (frz S lo k)=some cap):frz S lo (k+1) (.fn g cap)=some (.fn g cap):=by
 show (cap.mapM (frz S lo k)).map (PV.fn g)=_
 rw [h]; rfl
def bgT (c:Nat→Nat→Int) (nw i:Nat):List (List Int):=(List.range i).map fun r=>(List.range nw).map (c r)
theorem zjg {c:Nat→Nat→Int} {nw i:Nat}:(bgT c nw i).length=i:=by simp [bgT]
theorem z62 {c:Nat→Nat→Int} {nw i:Nat}:bgT c nw (i+1)=bgT c nw i++[(List.range nw).map (c i)]:=by simp [bgT,qS]
theorem ycv {f:Nat→Int} {n:Nat}:stp f n n=(List.range n).map f:=by
 unfold stp
 refine List.map_congr_left fun k hk=>?_
 rw [if_pos (List.mem_range.1 hk)]
theorem ybd {S:Store} {lo f:Nat} {d:List (List Int)} {cur cur2:PV} {m:Nat} (h:frz S lo (f+1) cur=some cur2):(gcs d cur m).mapM (frz S lo (f+1))=some (gcs d cur2 m):=by
 unfold gcs
 rw [qP,zbk (l:=d.map eInts) (fun x hx=>by obtain ⟨a,_,rfl⟩:=List.mem_map.1 hx; rfl),qC,h,zbk (l:=List.replicate m PV.nils) (fun x hx=>by obtain rfl:=List.eq_of_mem_replicate hx; rfl)]
 rfl
theorem zod {S:Store} {lo k m:Nat}:(List.replicate m PV.nils).mapM (frz S lo (k+1))=some (List.replicate m PV.nils):=zbk fun x hx=>by obtain rfl:=List.eq_of_mem_replicate hx; rfl
theorem z7f {v0 tk tk2 m et n:Nat} {d:List (List Int)} {l:List Int} (hn:l.length=n):Store.frz ⟨[.arr v0 et 1 (gcs d (.loc 1 tk 0 n) m),.arr tk 3 1 (l.map (.int .i64))],tk2⟩ 1=some ⟨[.arr v0 et 1 (gc0 (d++[l]) m)],tk2⟩:=by
 subst hn
 have h:frz ⟨[.arr v0 et 1 (gcs d (.loc 1 tk 0 l.length) m),.arr tk 3 1 (l.map (.int .i64))],tk2⟩ 1 10 (.loc 1 tk 0 l.length)=some (eInts l):=by
  have ht:(l.map (PV.int .i64)).take l.length=l.map (PV.int .i64):=qT (by simp)
  simp [-qU,-List.map_take,zh4,zc4,ht,zgv]
 simp [Store.frz,zgn,zff,ybd h,z3o]
theorem znd {c:Nat→Nat→Int} {nh nw:Nat} (hh:nh≤100) (hw:nw≤100) {g:FuncId} {cap:List PV} (hc:∀ (S:Store) (k:Nat),cap.mapM (reify S true (k+1))=some cap) (hz:∀ (S:Store) (lo k:Nat),cap.mapM (frz S lo (k+1))=some cap) (hcell:∀ r w:Nat,r<nh→w<nw→PC Tryz.prog g (.int .i64 r :: .int .i64 w::cap) (.int .i64 (c r w)) true):PC Tryz.prog 72 [.int .i64 nh,.int .i64 nw,.fn g cap] (zdl (bgT c nw nh)) false:=by
 refine PC.of ⟨Tryz.func72,by kernel_rfl,rfl,by kernel_rfl⟩ zao mixed (by show 3≤Tryz.f72.ntmps; decide) ?_
 refine W.r fun K hK=>?_
 simp(disch:=omega)only[↓RU,RV,RH,↓reduceIte,qE,reduceCtorEq,if_pos,↓RS,RG,qA,qM,qL]
 apply hK;clear hK K
 refine W.r fun K hK=>?_
 simp(disch:=omega)only[↓RU,RV,RH,↓reduceIte,qE,reduceCtorEq,if_pos,↓RS,RG,qA,qM,qL,ty1,zab,zb0,zaa,zk9,zef]
 apply hK;clear hK K
 refine W.seq ?_
 refine W.r fun K hK=>?_
 simp(disch:=omega)only[↓RU,RV,RH,↓reduceIte,qE,reduceCtorEq,if_pos,↓RS,RG,qA,qM,qL,ty1,zab,zb0,zaa]
 apply hK;clear hK K
 refine W.block ?_
 refine W.loopZ [1,2,7,13,14] (fun n vs S=>∃ i v0 tk:Nat,n=nh - i∧i≤nh∧vs=[.int .i64 nw,.fn g cap,.loc 0 v0 0 nh,.int .i64 nh,.int .i64 i]∧S=⟨[.arr v0 31 1 (gc0 (bgT c nw i) (nh - i))],tk⟩) (nh) ?_ ?_
 ·refine ⟨1,[.int .i64 nw,.fn g cap,.loc 0 0 0 nh,.int .i64 nh,.int .i64 0],⟨[.arr 0 31 1 (gc0 (bgT c nw 0) (nh - 0))],1⟩,?_,?_,0,0,1,rfl,by omega,rfl,rfl⟩
  ·simp [-qU,Store.frz,zgn,zff,zf3,zh4,zc4,zjl,zoe,zhd,zgv,zhf,zf2,zf7,zjy,zhl,zh5,zhc,Env.put,Env.of,zaf,zdd,qP,qC,zrv,zwt (hz _ _ _),bgT,zod]
  simp [-qU,Store.frz,zgn,zff,zf3,zh4,zc4,zjl,zoe,zhd,zgv,zhf,zf2,zf7,zjy,zhl,zh5,zhc,Env.put,Env.of,zaf,zdd,qP,qC,zrv,zwt (hz _ _ _),bgT,zod]
 rintro n vs S - ⟨i,v0,tk,rfl,h_i,rfl,rfl⟩
 refine W.r fun K hK=>?_
 simp(disch:=omega)only[↓RU,RV,RH,↓reduceIte,qE,reduceCtorEq,if_pos,w64,↓RS,RG,qA,qM,qL,zaa]
 apply hK;clear hK K
 refine W.seq ?_
 refine W.cond rfl (fun h=>?_) (fun h=>?_)
 ·try simp only[RL]at h
  have hil:i<nh:=by omega
  have hbl:=zjg (c:=c) (nw:=nw) (i:=i)
  refine W.skip ?_
  refine xn ?_
  refine W.seq ?_
  refine W.block ?_
  refine W.r fun K hK=>?_
  simp(disch:=omega)only[↓RU,RV,RH,↓reduceIte,qE,reduceCtorEq,if_pos,↓RS,RG,qA,qM,qL]
  apply hK;clear hK K
  refine W.r fun K hK=>?_
  simp(disch:=omega)only[↓RU,RV,RH,↓reduceIte,qE,reduceCtorEq,if_pos,↓RS,RG,qA,qM,qL,ty1,zab,zb0,zaa,zei,zef,zwu,hbl,zwv]
  apply hK;clear hK K
  refine W.r fun K hK=>?_
  simp(disch:=omega)only[↓RU,RV,RH,↓reduceIte,qE,reduceCtorEq,if_pos,↓RS,RG,qA,qM,qL,ty1,zab,zb0,zaa,zd6,zd7,hbl]
  apply hK;clear hK K
  refine W.block ?_
  refine W.loop [1,2,7,8,13,14,26,27] (fun n vs S=>∃ (j tk2:Nat),n=nw - j∧j≤nw∧vs=[.int .i64 nw,.fn g cap,.loc 0 v0 0 nh,.int .i64 i,.int .i64 nh,.int .i64 i,.int .i64 nw,.int .i64 j]∧S=⟨[.arr v0 31 1 (gcs (bgT c nw i) (.loc 1 tk 0 nw) (nh - i - 1)),.arr tk 3 1 ((stp (c i) j nw).map (.int .i64))],tk2⟩) nw ?_ ?_
  ·refine ⟨2,0,tk+1,rfl,Nat.zero_le _,?_,?_⟩
   ·simp [Env.put,Env.of]
   simp [zde,z8w]
  rintro n vs S - ⟨j,tk2,rfl,h_j,rfl,rfl⟩
  refine W.r fun K hK=>?_
  simp(disch:=omega)only[↓RU,RV,RH,↓reduceIte,qE,reduceCtorEq,if_pos,w64,↓RS,RG,qA,qM,qL,zaa]
  apply hK;clear hK K
  refine W.seq ?_
  refine W.cond rfl (fun h1=>?_) (fun h1=>?_)
  ·try simp only[RL]at h1
   have hjw:j<nw:=by omega
   have hsl:=z52 (f:=c i) (i:=j) (n:=nw)
   refine W.skip ?_
   refine xn ?_
   refine W.seq ?_
   refine W.block ?_
   refine W.r fun K hK=>?_
   simp(disch:=omega)only[↓RU,RV,RH,↓reduceIte,qE,reduceCtorEq,if_pos,↓RS,RG,qA,qM,qL]
   apply hK;clear hK K
   refine W.draw_k (by kernel_rfl) fun K hK=>?_
   simp(disch:=omega)only[↓RU,RV,RH,↓reduceIte,qE,reduceCtorEq,if_pos,qN,↓RS,RG,qA,qM,qL,ty1,zab,zb0,zaa,zd6,zd7,hbl,hsl,zbw,zc0]
   refine zac.pc (hcell i j hil hjw) (zgs rfl (zgs rfl (hc _ 9))) (.inl rfl) ?_
   simp(disch:=omega)only[↓RU,RV,RH,↓reduceIte,qE,reduceCtorEq,if_pos,qN,↓RS,RG,qA,qM,qL,ty1,zab,zb0,zaa,zd6,zd7,hbl,hsl,zbw,zc0]
   apply hK;clear hK K
   refine XbN ?_
   refine xn ?_
   refine W.k fun K hK=>?_
   simp(disch:=omega)only[↓RU,RV,RH,↓reduceIte,qE,reduceCtorEq,if_pos,w64,↓RS,RG,qA,qM,qL,zaa]
   apply hK;clear hK K
   refine xn ?_
   refine ⟨nw - (j+1),by omega,2,j+1,tk2,rfl,by omega,?_,?_⟩
   ·simp [Env.put,Env.of]
   simp only[zde,← ycw (i:=j)]; rfl
  try simp only[RL]at h1
  obtain rfl:nw=j:=by omega
  refine W.exit ?_
  refine xe ?_
  refine xe ?_
  refine XBlock.hit ?_
  refine XbN ?_
  refine xn ?_
  refine W.k fun K hK=>?_
  simp(disch:=omega)only[↓RU,RV,RH,↓reduceIte,qE,reduceCtorEq,if_pos,w64,↓RS,RG,qA,qM,qL,zaa]
  apply hK;clear hK K
  refine xn ?_
  refine ⟨nh - (i+1),by omega,1,[.int .i64 nw,.fn g cap,.loc 0 v0 0 nh,.int .i64 nh,.int .i64 (i+1)],⟨[.arr v0 31 1 (gc0 (bgT c nw (i+1)) (nh - (i+1)))],tk2⟩,?_,?_,(i+1),v0,tk2,rfl,by omega,rfl,rfl⟩
  ·simp [-qU,Store.frz,zgn,zff,zf3,zh4,zc4,zjl,zoe,zhd,zgv,zhf,zf2,zf7,zjy,zhl,zh5,zhc,Env.put,Env.of,zaf,zdd,qP,qC,zrv,zwt (hz _ _ _),bgT,zod]
  rw [ycv,z7f (by simp),z62]; rfl
 try simp only[RL]at h
 obtain rfl:nh=i:=by omega
 refine W.exit ?_
 refine xe ?_
 refine xe ?_
 refine XBlock.hit ?_
 refine xn ?_
 refine W.r fun K hK=>?_
 simp(disch:=omega)only[↓RU,RV,RH,↓reduceIte,qE,reduceCtorEq,if_pos,↓RS,RG,qA,qM,qL]
 apply hK;clear hK K
 refine W.ret ?_
 refine Br rfl ?_
 rw [Nat.sub_self,z3n]
 have hbl:=zjg (c:=c) (nw:=nw) (i:=nh)
 exact (zc6 (k:=9) (n:=nh) (cells:=(bgT c nw nh).map eInts) rfl (by simp [hbl]) (zqn _)).trans (by show _=some (PV.sl _ (bgT c nw nh).length); rw [hbl])
theorem z2a {g:List (List Int)} {nh nw:Nat} (hg:GW g nh nw) (rs:List Rect) {r c:Nat} (hr:r<nw) (hc:c<nh):PC Tryz.prog 74 [.int .i64 r,.int .i64 c,.ip [zat g rs] 0] (.int .i64 (gz g (nh - 1 - c) r)) true:=by
 obtain ⟨row,hrow,hrl,hx⟩:=hg.at_ (i:=nh - 1 - c) (j:=r) (by omega) (by omega)
 obtain ⟨q1,q2,q3,q4,-⟩:=hg
 have hgl:=q1
 have hcz:((nh:Int) - 1 - (c:Int)).toNat=nh - 1 - c:=by omega
 refine PC.of ⟨Tryz.func74,by kernel_rfl,rfl,by kernel_rfl⟩ zao mixed (by show 3≤Tryz.f74.ntmps; decide) ?_
 refine W.r fun K hK=>?_
 simp(disch:=omega)only[↓RU,RV,RH,↓reduceIte,qE,reduceCtorEq,if_pos]
 apply hK;clear hK K
 refine W.seq_draw (by kernel_rfl) fun K hK=>?_
 simp(disch:=omega)only[↓RU,RV,RH,↓reduceIte,qE,reduceCtorEq,if_pos,qN,w64,↓RS,RG,qA,qM,qL,ty1,ty5,zab,zce,zc9,zb0,zct,zaa,zda,zcu,hrow,hx,hcz,hgl]
 refine zac.pc (zd8 g rs) rfl (.inl rfl) ?_
 simp(disch:=omega)only[↓RU,RV,RH,↓reduceIte,qE,reduceCtorEq,if_pos,qN,w64,↓RS,RG,qA,qM,qL,ty1,ty5,zab,zce,zc9,zb0,zct,zaa,zda,zcu,hrow,hx,hcz,hgl]
 apply hK;clear hK K
 refine W.ret ?_
 refine Br rfl ?_
 rfl
theorem z6a {g:List (List Int)} {nh nw:Nat} (hg:GW g nh nw) (rs:List Rect):PC Tryz.prog 31 [zat g rs] (zdl (bgT (fun r w=>gz g (nh - 1 - w) r) nh nw)) false:=by
 obtain ⟨q1,q2,q3,q4,q5,q6⟩:=hg
 have hg:GW g nh nw:=⟨q1,q2,q3,q4,q5,q6⟩
 have hgl:=q1
 obtain ⟨row0,hrow0,hrl0,-⟩:=hg.at_ (i:=0) (j:=0) (by omega) (by omega)
 refine PC.of ⟨Tryz.func31,by kernel_rfl,rfl,by kernel_rfl⟩ zao mixed (by show 1≤Tryz.f31.ntmps; decide) ?_
 refine W.joinZ [1] (fun vs S=>∃ tk:Nat,vs=[.ip [zat g rs] 0]∧S=⟨[],tk⟩) ?_ ?_
 ·
  refine W.k fun K hK=>?_
  simp(disch:=omega)only[↓RU,RV,RH,↓reduceIte,qE,reduceCtorEq,if_pos,↓RS,RG,qA,qM,qL,zce]
  apply hK;clear hK K
  refine xn ?_
  refine ⟨0,[.ip [zat g rs] 0],⟨[],1⟩,?_,?_,1,rfl,rfl⟩
  ·rfl
  rfl
 rintro vs S - ⟨tk,rfl,rfl⟩
 refine W.seq_draw (by kernel_rfl) fun K hK=>?_
 simp(disch:=omega)only[↓RU,RV,RH,↓reduceIte,qE,reduceCtorEq,if_pos,qN,↓RS,RG,qA,qM,qL,zce,hgl,hrl0]
 refine zac.pc (zem hrow0 rs) rfl (.inl rfl) ?_
 simp(disch:=omega)only[↓RU,RV,RH,↓reduceIte,qE,reduceCtorEq,if_pos,qN,↓RS,RG,qA,qM,qL,zce,hgl,hrl0]
 refine zac.pc (zd8 g rs) rfl (.inl rfl) ?_
 simp(disch:=omega)only[↓RU,RV,RH,↓reduceIte,qE,reduceCtorEq,if_pos,qN,↓RS,RG,qA,qM,qL,zce,hgl,hrl0]
 refine zac.pc (znd (c:=fun r w=>gz g (nh - 1 - w) r) (nh:=nw) (nw:=nh) (by omega) (by omega) (fun _ _=>rfl) (fun _ _ _=>rfl) (fun r w h1 h2=>z2a hg rs h1 h2)) rfl (.inr rfl) ?_
 simp(disch:=omega)only[↓RU,RV,RH,↓reduceIte,qE,reduceCtorEq,if_pos,qN,↓RS,RG,qA,qM,qL,zce,hgl,hrl0]
 apply hK;clear hK K
 refine W.ret ?_
 refine Br rfl ?_
 rfl
theorem ydt {c:Nat→Nat→Int} {nw n i j:Nat} (hi:i<n) (hj:j<nw):gz (bgT c nw n) i j=c i j:=by
 simp [gz,bgT,hi,hj]
theorem znb {c:Nat→Nat→Int} {c0:Nat→Nat→Nat} {H W:Nat} (h1:1≤H) (h2:H≤6) (h3:1≤W) (h4:W≤6) (h:∀ i j,i<H→j<W→c i j=((c0 i j:Nat):Int)):Cells c0 (bgT c W H) H W:=by
 refine ⟨⟨zjg,fun r hr=>?_,h1,h2,h3,h4⟩,fun i j hi hj=>by rw [ydt hi hj,h i j hi hj]⟩
 obtain ⟨a,-,rfl⟩:=List.mem_map.1 hr
 simp
structure Made (c:Nat→Nat→Nat) (H W:Nat) (g:List (List Int)):Prop where
 gw:GW g H W
 ok:okS g=true
 full:zhu g=true
 plan:zec (nm g)=true
 ren:Ren c H W (nm g)
theorem zoq {c0:Nat→Nat→Nat} {g:List (List Int)} {H W n:Nat} (hc:Cells c0 g H W) (hn:∀ i j,i<H→j<W→c0 i j<n) (h9:n≤9) (hPl:Pl c0 H W):Made c0 H W g:=by
 have hle:=z5k hc hn
 obtain ⟨h1,h2⟩:=z4g hc (by omega) hPl.rect
 obtain ⟨h3,h4⟩:=z1d hc (by omega) hPl.rect
 exact ⟨hc.gw,h3,h4,h1,h2⟩
theorem zau {p:List Txt} (hp:zal p=true):1≤p.length∧p.length≤6∧1≤(zag p).length∧(zag p).length≤6∧GW (gP p) p.length (zag p).length∧zf1 p=true∧(rP p).length≤9∧∀ i j,i<p.length→j<(zag p).length→gz (gP p) i j=((cn (gP p) i j:Nat):Int):=by
 have hv:zcw p=true:=by rw [zea]; exact hp
 have hok:=(zk1 hv).1
 have hg:=zy6 hok
 rw [zfj]at hg
 have hg2:=hg
 obtain ⟨-,-,q3,q4,q5,q6⟩:=hg2
 refine ⟨q3,q4,q5,q6,hg,by rw [zex]; exact zcb hp,zkt hok,fun i j hi hj=>?_⟩
 have:=zb2 (p:=p) i j hi hj
 unfold cn; omega
def zxv (p:List Txt):List (List Int):=bgT (fun r w=>gz (gP p) (p.length - 1 - w) r) p.length (zag p).length
theorem zv0 {p:List Txt} (hp:zal p=true):Made (tr (fl (cn (gP p)) p.length)) (zag p).length p.length (zxv p):=by
 obtain ⟨q1,q2,q3,q4,-,-,q7,q8⟩:=zau hp
 exact zoq (znb q3 q4 q1 q2 fun i j hi hj=>q8 (p.length - 1 - j) i (by omega) hi) (fun i j hi hj=>zfe zb2 (by omega) hi) q7 (zb4 hp).dn.ex
section
theorem yej {c:Nat→Nat→Nat} {H W n:Nat} {t:List Txt} (ht:zec t=true) (hR:Ren c H W t) (hlt:∀ i j,i<H→j<W→c i j<n) (hs:∀ a,a<n→∃ i j,i<H∧j<W∧c i j=a):(rP t).length=n:=by
 obtain ⟨l1,l2,hpat⟩:=hR
 obtain ⟨σ,hσ⟩:=zz9 hpat
 obtain ⟨τ,hτ⟩:=zz9 fun i j i' j' a b d e=>(hpat i j i' j' a b d e).symm
 have hcl:∀ i j,i<H→j<W→cn (gP t) i j<(rP t).length:=fun i j hi hj=>zfe zb2 (by rw [l1]; exact hi) (by rw [l2]; exact hj)
 apply Nat.le_antisymm
 ·refine pig (σ:=τ) (fun b hb=>?_) fun a b ha hb e=>?_
  ·obtain ⟨i,j,hi,hj,rfl⟩:=zbe hb
   rw [l1]at hi; rw [l2]at hj
   rw [← hτ i j hi hj]; exact hlt i j hi hj
  obtain ⟨i,j,hi,hj,rfl⟩:=zbe ha
  obtain ⟨i',j',hi',hj',rfl⟩:=zbe hb
  rw [l1]at hi hi'; rw [l2]at hj hj'
  rw [← hτ i j hi hj,← hτ i' j' hi' hj']at e
  exact (hpat i j i' j' hi hj hi' hj').2 e
 refine pig (σ:=σ) (fun b hb=>?_) fun a b ha hb e=>?_
 ·obtain ⟨i,j,hi,hj,rfl⟩:=hs b hb
  rw [← hσ i j hi hj]; exact hcl i j hi hj
 obtain ⟨i,j,hi,hj,rfl⟩:=hs a ha
 obtain ⟨i',j',hi',hj',rfl⟩:=hs b hb
 rw [← hσ i j hi hj,← hσ i' j' hi' hj']at e
 exact (hpat i j i' j' hi hj hi' hj').1 e
section
variable {p q t:List Txt} {L U:Nat→Nat→Prop} {σ:Nat→Nat}
structure Two (p q t:List Txt) (σ:Nat→Nat):Prop where
 hp:zal p=true
 hq:zal q=true
 pl:zal t=true
 n:(rP t).length=(rP p).length+(rP q).length
 lt:∀ a,a<(rP t).length→σ a<(rP t).length
 inj:∀ a b,a<(rP t).length→b<(rP t).length→σ a=σ b→a=b
 l1:∀ a b,a<(rP p).length→b<(rP p).length→a≠b→(Lf t (σ a) (σ b)↔Lf p a b)∧(Ab t (σ a) (σ b)↔Ab p a b)
 l2:∀ a b,a<(rP q).length→b<(rP q).length→a≠b→(Lf t (σ ((rP p).length+a)) (σ ((rP p).length+b))↔Lf q a b)∧(Ab t (σ ((rP p).length+a)) (σ ((rP p).length+b))↔Ab q a b)
theorem Two.blk (h:Two p q t σ) (b1:Bool):(∀ a b,a<(rP p).length→b<(rP p).length→(ahK t b1 (σ a)<ahK t b1 (σ b)↔ahK p b1 a<ahK p b1 b)) ∧
  ∀ a b,a<(rP q).length→b<(rP q).length→(ahK t b1 (σ ((rP p).length+a))<ahK t b1 (σ ((rP p).length+b))↔ahK q b1 a<ahK q b1 b):=by
 have hn:=h.n
 constructor
 ·intro a b ha hb
  by_cases e:a=b
  ·subst e; simp
  rw [← zdb h.pl (h.lt a (by omega)) (h.lt b (by omega)),← zdb h.hp ha hb,zd5,zd5,(h.l1 a b ha hb e).1]
  cases b1 <;> simp [(h.l1 a b ha hb e).2,(h.l1 b a hb ha fun x=>e x.symm).2]
 intro a b ha hb
 by_cases e:a=b
 ·subst e; simp
 rw [← zdb h.pl (h.lt _ (by omega)) (h.lt _ (by omega)),← zdb h.hq ha hb,zd5,zd5,(h.l2 a b ha hb e).1]
 cases b1 <;> simp [(h.l2 a b ha hb e).2,(h.l2 b a hb ha fun x=>e x.symm).2]
theorem Two.fst (h:Two p q t σ) {b1:Bool} (hc:∀ a b,a<(rP p).length→b<(rP q).length→bfK t b1 (σ a) (σ ((rP p).length+b))=true) {a:Nat} (ha:a<(rP t).length) :
  ahK t b1 (σ a)=if a<(rP p).length then ahK p b1 a else (rP p).length+ahK q b1 (a - (rP p).length):=by
 have hn:=h.n
 refine zsh (n:=(rP t).length) (f:=fun a=>ahK t b1 (σ a)) (g:=fun a=>if a<(rP p).length then ahK p b1 a else (rP p).length+ahK q b1 (a - (rP p).length)) (fun a ha=>zcs h.pl (h.lt a ha)) (fun a b ha hb e=>h.inj a b ha hb (zev h.pl (h.lt a ha) (h.lt b hb) e)) (fun a ha=>?_) (fun a b ha hb e=>?_) (fun a b ha hb=>?_) a ha
 ·skip
  split
  ·rename_i q1; have:=zcs (below:=b1) h.hp q1; omega
  have:=zcs (below:=b1) h.hq (show a - (rP p).length<(rP q).length by omega); omega
 ·try simp only at e
  split at e <;> split at e
  ·rename_i q1 q2; exact zev h.hp q1 q2 e
  ·rename_i q1 q2; have:=zcs (below:=b1) h.hp q1; omega
  ·rename_i q1 q2; have:=zcs (below:=b1) h.hp q2; omega
  have:=zev (below:=b1) h.hq (show a - (rP p).length<(rP q).length by omega) (show b - (rP p).length<(rP q).length by omega) (by omega)
  omega
 skip
 obtain ⟨k1,k2⟩:=h.blk b1
 by_cases q1:a<(rP p).length <;> by_cases q2:b<(rP p).length
 ·rw [if_pos q1,if_pos q2]; exact k1 a b q1 q2
 ·rw [if_pos q1,if_neg q2]
  have h1:=zcs (below:=b1) h.hp q1
  have h2:=hc a (b - (rP p).length) q1 (by omega)
  rw [show (rP p).length+(b - (rP p).length)=b by omega,zdb h.pl (h.lt a ha) (h.lt b hb)]at h2
  omega
 ·rw [if_neg q1,if_pos q2]
  have h1:=zcs (below:=b1) h.hp q2
  have h2:=hc b (a - (rP p).length) q2 (by omega)
  rw [show (rP p).length+(a - (rP p).length)=a by omega,zdb h.pl (h.lt b hb) (h.lt a ha)]at h2
  omega
 rw [if_neg q1,if_neg q2]
 have:=k2 (a - (rP p).length) (b - (rP p).length) (by omega) (by omega)
 rw [show (rP p).length+(a - (rP p).length)=a by omega,show (rP p).length+(b - (rP p).length)=b by omega]at this
 omega
theorem Two.snd (h:Two p q t σ) {b1:Bool} (hc:∀ a b,a<(rP p).length→b<(rP q).length→bfK t b1 (σ ((rP p).length+b)) (σ a)=true) {a:Nat} (ha:a<(rP t).length) :
  ahK t b1 (σ a)=if a<(rP p).length then (rP q).length+ahK p b1 a else ahK q b1 (a - (rP p).length):=by
 have hn:=h.n
 refine zsh (n:=(rP t).length) (f:=fun a=>ahK t b1 (σ a)) (g:=fun a=>if a<(rP p).length then (rP q).length+ahK p b1 a else ahK q b1 (a - (rP p).length)) (fun a ha=>zcs h.pl (h.lt a ha)) (fun a b ha hb e=>h.inj a b ha hb (zev h.pl (h.lt a ha) (h.lt b hb) e)) (fun a ha=>?_) (fun a b ha hb e=>?_) (fun a b ha hb=>?_) a ha
 ·skip
  split
  ·rename_i q1; have:=zcs (below:=b1) h.hp q1; omega
  have:=zcs (below:=b1) h.hq (show a - (rP p).length<(rP q).length by omega); omega
 ·try simp only at e
  split at e <;> split at e
  ·rename_i q1 q2; exact zev h.hp q1 q2 (Nat.add_left_cancel e)
  ·rename_i q1 q2; have:=zcs (below:=b1) h.hq (show b - (rP p).length<(rP q).length by omega); omega
  ·rename_i q1 q2; have:=zcs (below:=b1) h.hq (show a - (rP p).length<(rP q).length by omega); omega
  have:=zev (below:=b1) h.hq (show a - (rP p).length<(rP q).length by omega) (show b - (rP p).length<(rP q).length by omega) (by omega)
  omega
 skip
 obtain ⟨k1,k2⟩:=h.blk b1
 by_cases q1:a<(rP p).length <;> by_cases q2:b<(rP p).length
 ·rw [if_pos q1,if_pos q2]; have:=k1 a b q1 q2; omega
 ·rw [if_pos q1,if_neg q2]
  have h1:=zcs (below:=b1) h.hq (show b - (rP p).length<(rP q).length by omega)
  have h2:=hc a (b - (rP p).length) q1 (by omega)
  rw [show (rP p).length+(b - (rP p).length)=b by omega,zdb h.pl (h.lt b hb) (h.lt a ha)]at h2
  omega
 ·rw [if_neg q1,if_pos q2]
  have h1:=zcs (below:=b1) h.hq (show a - (rP p).length<(rP q).length by omega)
  have h2:=hc b (a - (rP p).length) q2 (by omega)
  rw [show (rP p).length+(a - (rP p).length)=a by omega,zdb h.pl (h.lt a ha) (h.lt b hb)]at h2
  omega
 rw [if_neg q1,if_neg q2]
 have:=k2 (a - (rP p).length) (b - (rP p).length) (by omega) (by omega)
 rw [show (rP p).length+(a - (rP p).length)=a by omega,show (rP p).length+(b - (rP p).length)=b by omega]at this
 exact this
def upL (l:List Int) (k:Nat):List Int:=l.map (· + (k:Int))
theorem Two.beside (h:Two p q t σ) (hc:∀ a b,a<(rP p).length→b<(rP q).length→Lf t (σ a) (σ ((rP p).length+b))):zci t=zci p++upL (zci q) (rP p).length:=by
 have hn:=h.n
 have e:∀ b1,∀ a,a<(rP t).length→_:=fun b1 a ha=>h.fst (b1:=b1) (fun a b ha hb=>by rw [zd5]; exact .inl (hc a b ha hb)) ha
 apply List.ext_getElem?
 intro i
 by_cases hi:i<(rP t).length
 ·obtain ⟨r,hr,rfl⟩:=zsn h.pl hi
  obtain ⟨a,ha,rfl⟩:=zsv h.lt h.inj hr
  rw [zc8 h.pl hr,e true a ha,e false a ha]
  by_cases q1:a<(rP p).length
  ·rw [if_pos q1,if_pos q1,List.getElem?_append_left (by rw [zbv]; exact zcs h.hp q1),zc8 h.hp q1]
  rw [if_neg q1,if_neg q1,List.getElem?_append_right (by rw [zbv]; omega),zbv,Nat.add_sub_cancel_left]
  unfold upL
  rw [List.getElem?_map,zc8 h.hq (by omega),qO]
  congr 1; omega
 rw [List.getElem?_eq_none (by rw [zbv]; omega),List.getElem?_eq_none (by simp [upL,zbv]; omega)]
theorem Two.under (h:Two p q t σ) (hc:∀ a b,a<(rP p).length→b<(rP q).length→Ab t (σ a) (σ ((rP p).length+b))):zci t=upL (zci q) (rP p).length++zci p:=by
 have hn:=h.n
 have e1:∀ a,a<(rP t).length→_:=fun a ha=>h.fst (b1:=false) (fun a b ha hb=>by rw [zd5]; exact .inr (hc a b ha hb)) ha
 have e2:∀ a,a<(rP t).length→_:=fun a ha=>h.snd (b1:=true) (fun a b ha hb=>by rw [zd5]; exact .inr (hc a b ha hb)) ha
 apply List.ext_getElem?
 intro i
 by_cases hi:i<(rP t).length
 ·obtain ⟨r,hr,rfl⟩:=zsn h.pl hi
  obtain ⟨a,ha,rfl⟩:=zsv h.lt h.inj hr
  rw [zc8 h.pl hr,e1 a ha,e2 a ha]
  have hul:(upL (zci q) (rP p).length).length=(rP q).length:=by simp [upL,zbv]
  by_cases q1:a<(rP p).length
  ·rw [if_pos q1,if_pos q1,List.getElem?_append_right (by omega),hul,Nat.add_sub_cancel_left,zc8 h.hp q1]
  have:=zcs (below:=true) h.hq (show a - (rP p).length<(rP q).length by omega)
  rw [if_neg q1,if_neg q1,List.getElem?_append_left (by omega)]
  unfold upL
  rw [List.getElem?_map,zc8 h.hq (by omega),qO]
  congr 1; omega
 rw [List.getElem?_eq_none (by rw [zbv]; omega),List.getElem?_eq_none (by simp [upL,zbv]; omega)]
end
end
section
def z6o (p q:List Txt):List (List Int):=bgT (fun r w=>if w<(zag p).length then gz (gP p) (min r (p.length - 1)) w else ((rP p).length:Int)+gz (gP q) (r - (p.length - 1)) (w - (zag p).length)) ((zag p).length+(zag q).length) (p.length+q.length - 1)
def z6p (p q:List Txt):List (List Int):=bgT (fun r w=>if r<p.length then gz (gP p) r (min w ((zag p).length - 1)) else ((rP p).length:Int)+gz (gP q) (r - p.length) (w - ((zag p).length - 1))) ((zag p).length+(zag q).length - 1) (p.length+q.length)
def yat (p q:List Txt):Nat→Nat→Nat:=asd (cn (gP p)) p.length (zag p).length (cn (gP q)) (rP p).length
def yaw (p q:List Txt):Nat→Nat→Nat:=tr (asd (tr (cn (gP p))) (zag p).length p.length (tr (cn (gP q))) (rP p).length)
section
variable {p q:List Txt}
theorem zs7 (hp:zal p=true) (hq:zal q=true):∀ i j,i<p.length+q.length - 1→j<(zag p).length+(zag q).length→yat p q i j<(rP p).length+(rP q).length:=by
 obtain ⟨a1,a2,a3,a4,-⟩:=zau hp
 obtain ⟨b1,b2,b3,b4,-⟩:=zau hq
 intro i j hi hj
 unfold yat asd
 by_cases k:j<(zag p).length
 ·rw [if_pos k]
  have:=zfe (zb2 (p:=p)) (i:=min i (p.length - 1)) (j:=j) (by omega) k
  omega
 rw [if_neg k]
 have:=zfe (zb2 (p:=q)) (i:=i - (p.length - 1)) (j:=j - (zag p).length) (by omega) (by omega)
 omega
theorem zx6 (hp:zal p=true) (hq:zal q=true):∀ i j,i<p.length+q.length→j<(zag p).length+(zag q).length - 1→yaw p q i j<(rP p).length+(rP q).length:=by
 obtain ⟨a1,a2,a3,a4,-⟩:=zau hp
 obtain ⟨b1,b2,b3,b4,-⟩:=zau hq
 intro i j hi hj
 simp only[yaw,tr,asd]
 by_cases k:i<p.length
 ·rw [if_pos k]
  have:=zfe (zb2 (p:=p)) (i:=i) (j:=min j ((zag p).length - 1)) k (by omega)
  omega
 rw [if_neg k]
 have:=zfe (zb2 (p:=q)) (i:=i - p.length) (j:=j - ((zag p).length - 1)) (by omega) (by omega)
 omega
theorem zx5 (hp:zal p=true) (hq:zal q=true) (hH:p.length+q.length - 1≤6) (hW:(zag p).length+(zag q).length≤6) (h9:(rP p).length+(rP q).length≤9) :
  Made (yat p q) (p.length+q.length - 1) ((zag p).length+(zag q).length) (z6o p q):=by
 obtain ⟨a1,a2,a3,a4,-,-,-,a8⟩:=zau hp
 obtain ⟨b1,b2,b3,b4,-,-,-,b8⟩:=zau hq
 refine zoq (znb (by omega) hH (by omega) hW fun i j hi hj=>?_) (zs7 hp hq) h9 (zny (zb4 hp) (zb4 hq) a1 b1 fun i j hi hj=>zfe zb2 hi hj)
 unfold yat asd
 split
 ·rename_i k; exact a8 _ _ (by omega) k
 rw [b8 _ _ (by omega) (by omega),Int.natCast_add]
theorem zx7 (hp:zal p=true) (hq:zal q=true) (hH:p.length+q.length≤6) (hW:(zag p).length+(zag q).length - 1≤6) (h9:(rP p).length+(rP q).length≤9) :
  Made (yaw p q) (p.length+q.length) ((zag p).length+(zag q).length - 1) (z6p p q):=by
 obtain ⟨a1,a2,a3,a4,-,-,-,a8⟩:=zau hp
 obtain ⟨b1,b2,b3,b4,-,-,-,b8⟩:=zau hq
 refine zoq (znb (by omega) hH (by omega) hW fun i j hi hj=>?_) (zx6 hp hq) h9 (zny (zb4 hp).ex (zb4 hq).ex a3 b3 fun i j hi hj=>zfe zb2 hj hi).ex
 simp only[yaw,tr,asd]
 split
 ·rename_i k; exact a8 _ _ k (by omega)
 rw [b8 _ _ (by omega) (by omega),Int.natCast_add]
theorem z2m (hp:zal p=true) (hq:zal q=true):∀ a,a<(rP p).length+(rP q).length→∃ i j,i<p.length+q.length - 1∧j<(zag p).length+(zag q).length∧yat p q i j=a:=by
 obtain ⟨a1,a2,a3,a4,-⟩:=zau hp
 obtain ⟨b1,b2,b3,b4,-⟩:=zau hq
 intro a ha
 by_cases k:a<(rP p).length
 ·obtain ⟨i,j,hi,hj,e⟩:=zbe k
  refine ⟨i,j,by omega,by omega,?_⟩
  unfold yat asd
  rw [if_pos hj,Nat.min_eq_left (by omega)]; exact e
 obtain ⟨i,j,hi,hj,e⟩:=zbe (p:=q) (a:=a - (rP p).length) (by omega)
 refine ⟨i+(p.length - 1),(zag p).length+j,by omega,by omega,?_⟩
 unfold yat asd
 rw [if_neg (by omega),Nat.add_sub_cancel,Nat.add_sub_cancel_left,e]; omega
theorem z2p (hp:zal p=true) (hq:zal q=true):∀ a,a<(rP p).length+(rP q).length→∃ i j,i<p.length+q.length∧j<(zag p).length+(zag q).length - 1∧yaw p q i j=a:=by
 obtain ⟨a1,a2,a3,a4,-⟩:=zau hp
 obtain ⟨b1,b2,b3,b4,-⟩:=zau hq
 intro a ha
 by_cases k:a<(rP p).length
 ·obtain ⟨i,j,hi,hj,e⟩:=zbe k
  refine ⟨i,j,by omega,by omega,?_⟩
  simp only[yaw,tr,asd]
  rw [if_pos hi,Nat.min_eq_left (by omega)]; exact e
 obtain ⟨i,j,hi,hj,e⟩:=zbe (p:=q) (a:=a - (rP p).length) (by omega)
 refine ⟨p.length+i,j+((zag p).length - 1),by omega,by omega,?_⟩
 simp only[yaw,tr,asd]
 rw [if_neg (by omega),Nat.add_sub_cancel,Nat.add_sub_cancel_left,e]; omega
theorem yau (hp:zal p=true) (hq:zal q=true) (hH:p.length+q.length - 1≤6) (hW:(zag p).length+(zag q).length≤6) (h9:(rP p).length+(rP q).length≤9) :
  zal (nm (z6o p q))=true∧(rP (nm (z6o p q))).length=(rP p).length+(rP q).length∧zci (nm (z6o p q))=zci p++upL (zci q) (rP p).length:=by
 have hm:=zx5 hp hq hH hW h9
 obtain ⟨a1,a2,a3,a4,-⟩:=zau hp
 obtain ⟨b1,b2,b3,b4,-⟩:=zau hq
 have hN:=yej hm.plan hm.ren (zs7 hp hq) (z2m hp hq)
 have hcl:∀ i j,i<p.length→j<(zag p).length→cn (gP p) i j<(rP p).length:=fun i j hi hj=>zfe zb2 hi hj
 have hPl:=zny (zb4 hp) (zb4 hq) a1 b1 hcl
 obtain ⟨σ,hσ,hI⟩:=zyz (p:=nm (z6o p q)) (by rw [hN]; exact zs7 hp hq) (by rw [hN]; exact z2m hp hq) hPl hm.plan hm.ren
 have hT:Two p q (nm (z6o p q)) σ:=by
  refine ⟨hp,hq,hI.pl,hN,hI.lt,hI.inj,fun a b ha hb hne=>?_,fun a b ha hb hne=>?_⟩
  ·obtain ⟨i,j,hi,hj,rfl⟩:=zbe ha
   obtain ⟨i',j',hi',hj',rfl⟩:=zbe hb
   rw [hI.lf _ _ (by omega) (by omega),hI.ab _ _ (by omega) (by omega),Lf.iff ha hb,Ab.iff ha hb]
   exact zx4 (zb4 hp) (zb4 hq) a1 b1 a3 hcl (zs7 hp hq) hi hj hi' hj' hne
  obtain ⟨i,j,hi,hj,rfl⟩:=zbe ha
  obtain ⟨i',j',hi',hj',rfl⟩:=zbe hb
  rw [hI.lf _ _ (by omega) (by omega),hI.ab _ _ (by omega) (by omega),Lf.iff ha hb,Ab.iff ha hb]
  exact zs8 (zb4 hp) (zb4 hq) a1 b1 hcl (zs7 hp hq) hi hj hi' hj' hne
 refine ⟨hI.pl,hN,hT.beside fun a b ha hb=>?_⟩
 obtain ⟨i,j,hi,hj,rfl⟩:=zbe ha
 obtain ⟨i',j',hi',hj',rfl⟩:=zbe hb
 rw [hI.lf _ _ (by omega) (by omega)]
 exact zs6 (zb4 hp) (zb4 hq) a1 b1 a3 b3 hcl hi hj hi' hj'
theorem yay (hp:zal p=true) (hq:zal q=true) (hH:p.length+q.length≤6) (hW:(zag p).length+(zag q).length - 1≤6) (h9:(rP p).length+(rP q).length≤9) :
  zal (nm (z6p p q))=true∧(rP (nm (z6p p q))).length=(rP p).length+(rP q).length∧zci (nm (z6p p q))=upL (zci q) (rP p).length++zci p:=by
 have hm:=zx7 hp hq hH hW h9
 obtain ⟨a1,a2,a3,a4,-⟩:=zau hp
 obtain ⟨b1,b2,b3,b4,-⟩:=zau hq
 have hN:=yej hm.plan hm.ren (zx6 hp hq) (z2p hp hq)
 have hcl:∀ i j,i<(zag p).length→j<p.length→tr (cn (gP p)) i j<(rP p).length:=fun i j hi hj=>zfe zb2 hj hi
 have hlt2:∀ i j,i<(zag p).length+(zag q).length - 1→j<p.length+q.length→asd (tr (cn (gP p))) (zag p).length p.length (tr (cn (gP q))) (rP p).length i j<(rP p).length+(rP q).length:=fun i j hi hj=>zx6 hp hq j i hj hi
 have hPl:=(zny (zb4 hp).ex (zb4 hq).ex a3 b3 hcl).ex
 obtain ⟨σ,hσ,hI⟩:=zyz (p:=nm (z6p p q)) (by rw [hN]; exact zx6 hp hq) (by rw [hN]; exact z2p hp hq) hPl hm.plan hm.ren
 have hT:Two p q (nm (z6p p q)) σ:=by
  refine ⟨hp,hq,hI.pl,hN,hI.lt,hI.inj,fun a b ha hb hne=>?_,fun a b ha hb hne=>?_⟩
  ·obtain ⟨i,j,hi,hj,rfl⟩:=zbe ha
   obtain ⟨i',j',hi',hj',rfl⟩:=zbe hb
   rw [hI.lf _ _ (by omega) (by omega),hI.ab _ _ (by omega) (by omega),Lf.iff ha hb,Ab.iff ha hb]
   exact (zx4 (cf:=tr (cn (gP p))) (cg:=tr (cn (gP q))) (zb4 hp).ex (zb4 hq).ex a3 b3 a1 hcl hlt2 hj hi hj' hi' hne).symm
  obtain ⟨i,j,hi,hj,rfl⟩:=zbe ha
  obtain ⟨i',j',hi',hj',rfl⟩:=zbe hb
  rw [hI.lf _ _ (by omega) (by omega),hI.ab _ _ (by omega) (by omega),Lf.iff ha hb,Ab.iff ha hb]
  exact (zs8 (cf:=tr (cn (gP p))) (cg:=tr (cn (gP q))) (zb4 hp).ex (zb4 hq).ex a3 b3 hcl hlt2 hj hi hj' hi' hne).symm
 refine ⟨hI.pl,hN,hT.under fun a b ha hb=>?_⟩
 obtain ⟨i,j,hi,hj,rfl⟩:=zbe ha
 obtain ⟨i',j',hi',hj',rfl⟩:=zbe hb
 rw [hI.ab _ _ (by omega) (by omega)]
 exact zs6 (cf:=tr (cn (gP p))) (cg:=tr (cn (gP q))) (zb4 hp).ex (zb4 hq).ex a3 b3 a1 b1 hcl hj hi hj' hi'
end
end
structure Pt where
 r:Nat
 c:Nat
 h:Nat
 w:Nat
 deriving DecidableEq
def Pt.In (t:Pt) (H W:Nat):Prop:=1≤t.h∧1≤t.w∧t.r+t.h≤H∧t.c+t.w≤W
def z6q (f:Nat→Bool):Nat→Option Nat
 | 0=>none
 | k+1=>(z6q f k).or (if decide (1≤k) && f k then some k else none)
theorem zkl {f:Nat→Bool}:∀ {n:Nat},z6q f n=none↔∀ k,1≤k→k<n→f k=false
 | 0=>by simp [z6q]
 | n+1=>by
  simp only[z6q,Option.or_eq_none_iff,zkl (n:=n)]
  constructor
  ·rintro ⟨h1,h2⟩ k hk hn
   by_cases e:k=n
   ·subst e; cases hf:f k with
    | false=>rfl
    | true=>rw [hf]at h2; simp at h2; omega
   exact h1 k hk (by omega)
  intro h
  refine ⟨fun k hk hn=>h k hk (by omega),?_⟩
  by_cases hn:1≤n
  ·simp [h n hn (by omega)]
  simp [hn]
theorem zh6 {f:Nat→Bool} {k:Nat}:∀ {n:Nat},z6q f n=some k↔1≤k∧k<n∧f k=true∧∀ j,1≤j→j<k→f j=false
 | 0=>by simp [z6q]
 | n+1=>by
  simp only[z6q]
  cases h:z6q f n with
  | some m =>
   have hm:=(zh6 (n:=n)).1 h
   simp only[Option.some_or,Option.some.injEq]
   constructor
   ·rintro rfl; exact ⟨hm.1,by omega,hm.2.2.1,hm.2.2.2⟩
   rintro ⟨h1,h2,h3,h4⟩
   rcases Nat.lt_trichotomy m k with e | e | e
   ·have:=h4 m hm.1 e; rw [hm.2.2.1]at this; cases this
   ·exact e
   have:=hm.2.2.2 k h1 e; rw [h3]at this; cases this
  | none =>
   have hn:=zkl.1 h
   simp only[Option.none_or]
   constructor
   ·intro e
    split at e
    ·rename_i hc
     cases e
     simp only[qB,decide_eq_true_eq]at hc
     exact ⟨hc.1,by omega,hc.2,hn⟩
    cases e
   rintro ⟨h1,h2,h3,h4⟩
   by_cases e:k=n
   ·subst e; simp [h1,h3]
   have:=hn k h1 (by omega); rw [h3]at this; cases this
def thU (z:Nat→Nat→Int) (t:Pt) (k:Nat):Bool:=(List.range t.h).all fun i=>decide (z (t.r+i) (t.c+k - 1)≠z (t.r+i) (t.c+k))
def thL (z:Nat→Nat→Int) (t:Pt) (k:Nat):Bool:=(List.range t.w).all fun j=>decide (z (t.r+k - 1) (t.c+j)≠z (t.r+k) (t.c+j))
theorem zxs {z:Nat→Nat→Int} {t:Pt} {k:Nat}:thU z t k=true↔∀ i,i<t.h→z (t.r+i) (t.c+k - 1)≠z (t.r+i) (t.c+k):=by simp [thU]
theorem zxr {z:Nat→Nat→Int} {t:Pt} {k:Nat}:thL z t k=true↔∀ j,j<t.w→z (t.r+k - 1) (t.c+j)≠z (t.r+k) (t.c+j):=by simp [thL]
def zgf (z:Nat→Nat→Int) (t:Pt):Option (Bool × Nat) :=
 match z6q (thU z t) t.w with
 | some k=>some (false,k)
 | none=>match z6q (thL z t) t.h with
  | some k=>some (true,k)
  | none=>none
def Pt.one (t:Pt) (q:Bool × Nat):Pt:=if q.1 then ⟨t.r,t.c,q.2,t.w⟩ else ⟨t.r,t.c,t.h,q.2⟩
def Pt.two (t:Pt) (q:Bool × Nat):Pt:=if q.1 then ⟨t.r+q.2,t.c,t.h - q.2,t.w⟩ else ⟨t.r,t.c+q.2,t.h,t.w - q.2⟩
theorem zfu {z:Nat→Nat→Int} {t:Pt} {q:Bool × Nat} (h:zgf z t=some q):1≤q.2∧if q.1 then q.2<t.h∧thL z t q.2=true else q.2<t.w∧thU z t q.2=true:=by
 unfold zgf at h
 split at h
 ·rename_i k hk; cases h; have:=zh6.1 hk; exact ⟨this.1,by simp [this.2.1,this.2.2.1]⟩
 split at h
 ·rename_i k hk; cases h; have:=zh6.1 hk; exact ⟨this.1,by simp [this.2.1,this.2.2.1]⟩
 cases h
theorem z0r {z:Nat→Nat→Int} {t:Pt}:zgf z t=none↔(∀ k,1≤k→k<t.w→thU z t k=false)∧∀ k,1≤k→k<t.h→thL z t k=false:=by
 unfold zgf
 split
 ·rename_i k hk
  have:=zh6.1 hk
  constructor
  ·intro h; cases h
  rintro ⟨h,_⟩; rw [h k this.1 this.2.1]at this; simp at this
 rename_i hn
 split
 ·rename_i k hk
  have:=zh6.1 hk
  constructor
  ·intro h; cases h
  rintro ⟨_,h⟩; rw [h k this.1 this.2.1]at this; simp at this
 rename_i hn2
 exact ⟨fun _=>⟨zkl.1 hn,zkl.1 hn2⟩,fun _=>rfl⟩
theorem Pt.In.cut {t:Pt} {H W:Nat} (h:t.In H W) {z:Nat→Nat→Int} {q:Bool × Nat} (hq:zgf z t=some q):(t.one q).In H W∧(t.two q).In H W ∧
  (t.one q).h*(t.one q).w<t.h*t.w∧(t.two q).h*(t.two q).w<t.h*t.w:=by
 obtain ⟨h1,h2⟩:=zfu hq
 obtain ⟨a,b,c,d⟩:=h
 obtain ⟨lv,k⟩:=q
 simp only at h1 h2
 cases lv with
 | true =>
  simp only[if_true]at h2
  simp only[Pt.one,Pt.two,if_true,Pt.In]
  refine ⟨⟨h1,b,by omega,d⟩,⟨by omega,b,by omega,d⟩,Nat.mul_lt_mul_of_pos_right h2.1 b,Nat.mul_lt_mul_of_pos_right (by omega) b⟩
 | false =>
  simp only[qF,if_false]at h2
  simp only[Pt.one,Pt.two,qF,if_false,Pt.In]
  refine ⟨⟨a,h1,c,by omega⟩,⟨a,by omega,c,by omega⟩,Nat.mul_lt_mul_of_pos_left h2.1 a,Nat.mul_lt_mul_of_pos_left (by omega) a⟩
def zy7 (z:Nat→Nat→Int) (t:Pt):Bool:=(List.range t.h).all fun i=>(List.range t.w).all fun j=>decide (z (t.r+i) (t.c+j)=z t.r t.c)
theorem zy8 {z:Nat→Nat→Int} {t:Pt}:zy7 z t=true↔∀ i j,i<t.h→j<t.w→z (t.r+i) (t.c+j)=z t.r t.c:=by
 simp only[zy7,List.all_eq_true,List.mem_range,decide_eq_true_eq]
 exact ⟨fun h i j hi hj=>h i hi j hj,fun h i hi j hj=>h i j hi hj⟩
inductive CT where
 | leaf (a:Int)
 | node (lv:Bool) (x y:CT)
def tree (z:Nat→Nat→Int):Nat→Pt→Option CT
 | 0,_=>none
 | f+1,t=>if zy7 z t then some (.leaf (z t.r t.c)) else
  match zgf z t with
  | none=>none
  | some q=>match tree z f (t.one q),tree z f (t.two q) with
   | some x,some y=>some (.node q.1 x y)
   | _,_=>none
theorem zlk {z:Nat→Nat→Int} {H W:Nat}:∀ (n:Nat) {t:Pt} {f g:Nat},t.In H W→t.h*t.w≤n→t.h*t.w≤f→t.h*t.w≤g→tree z f t=tree z g t
 | 0,t,f,g,hi,hn,_,_=>by have:=Nat.mul_pos hi.1 hi.2.1; omega
 | n+1,t,f,g,hi,hn,hf,hg=>by
  have:=Nat.mul_pos hi.1 hi.2.1
  obtain ⟨f,rfl⟩:∃ f',f=f'+1:=⟨f - 1,by omega⟩
  obtain ⟨g,rfl⟩:∃ g',g=g'+1:=⟨g - 1,by omega⟩
  simp only[tree]
  split
  ·rfl
  cases hc:zgf z t with
  | none=>rfl
  | some q =>
   obtain ⟨i1,i2,a1,a2⟩:=hi.cut hc
   simp only
   rw [zlk n i1 (f:=f) (g:=g) (by omega) (by omega) (by omega),zlk n i2 (f:=f) (g:=g) (by omega) (by omega) (by omega)]
def CT.fold {α:Type} (room:Int→α) (cut:Bool→α→α→α):CT→α
 | .leaf a=>room a
 | .node lv x y=>cut lv (x.fold room cut) (y.fold room cut)
structure Whole (z:Nat→Nat→Int) (H W:Nat) (t:Pt):Prop where
 inn:t.In H W
 all:∀ i j i' j',i<H→j<W→i'<H→j'<W→z i j=z i' j'→t.r≤i→i<t.r+t.h→t.c≤j→j<t.c+t.w→t.r≤i'∧i'<t.r+t.h∧t.c≤j'∧j'<t.c+t.w
def yaq (z:Nat→Nat→Int) (H W:Nat):Prop:=∀ {i j i' j':Nat} (k l:Nat),i<H→i'<H→j<W→j'<W→z i j=z i' j'→min i i'≤k→k≤max i i'→min j j'≤l→l≤max j j'→z k l=z i j
theorem Whole.cut {z:Nat→Nat→Int} {H W:Nat} (hz:yaq z H W) {t:Pt} (h:Whole z H W t) {q:Bool × Nat} (hq:zgf z t=some q):Whole z H W (t.one q)∧Whole z H W (t.two q):=by
 obtain ⟨i1,i2,_,_⟩:=h.inn.cut hq
 obtain ⟨c1,c2⟩:=zfu hq
 obtain ⟨lv,k⟩:=q
 have hin:=h.inn
 unfold Pt.In at hin
 cases lv with
 | true =>
  simp only[if_true]at c2
  have hth:=zxr.1 c2.2
  have key:∀ i j i' j',i<H→j<W→i'<H→j'<W→z i j=z i' j'→t.r≤i→i<t.r+k→t.c≤j→j<t.c+t.w→t.r+k≤i'→i'<t.r+t.h→t.c≤j'→j'<t.c+t.w→False:=by
   intro i j i' j' a b c d e f1 f2 f3 f4 g1 g2 g3 g4
   have e1:=hz (t.r+k - 1) j a c b d e (by omega) (by omega) (by omega) (by omega)
   have e2:=hz (t.r+k) j a c b d e (by omega) (by omega) (by omega) (by omega)
   have:=hth (j - t.c) (by omega)
   rw [show t.c+(j - t.c)=j by omega]at this
   exact this (e1.trans e2.symm)
  refine ⟨⟨i1,?_⟩,⟨i2,?_⟩⟩
  ·simp only[Pt.one,if_true]
   intro i j i' j' a b c d e f1 f2 f3 f4
   obtain ⟨g1,g2,g3,g4⟩:=h.all i j i' j' a b c d e f1 (by omega) f3 f4
   refine ⟨g1,?_,g3,g4⟩
   rcases Nat.lt_or_ge i' (t.r+k) with h1 | h1
   ·exact h1
   exact (key i j i' j' a b c d e f1 f2 f3 f4 h1 g2 g3 g4).elim
  simp only[Pt.two,if_true]
  intro i j i' j' a b c d e f1 f2 f3 f4
  obtain ⟨g1,g2,g3,g4⟩:=h.all i j i' j' a b c d e (by omega) (by omega) f3 f4
  refine ⟨?_,by omega,g3,g4⟩
  rcases Nat.lt_or_ge i' (t.r+k) with h1 | h1
  ·exact (key i' j' i j c d a b e.symm g1 h1 g3 g4 f1 (by omega) f3 f4).elim
  exact h1
 | false =>
  simp only[qF,if_false]at c2
  have hth:=zxs.1 c2.2
  have key:∀ i j i' j',i<H→j<W→i'<H→j'<W→z i j=z i' j'→t.r≤i→i<t.r+t.h→t.c≤j→j<t.c+k→t.r≤i'→i'<t.r+t.h→t.c+k≤j'→j'<t.c+t.w→False:=by
   intro i j i' j' a b c d e f1 f2 f3 f4 g1 g2 g3 g4
   have e1:=hz i (t.c+k - 1) a c b d e (by omega) (by omega) (by omega) (by omega)
   have e2:=hz i (t.c+k) a c b d e (by omega) (by omega) (by omega) (by omega)
   have:=hth (i - t.r) (by omega)
   rw [show t.r+(i - t.r)=i by omega]at this
   exact this (e1.trans e2.symm)
  refine ⟨⟨i1,?_⟩,⟨i2,?_⟩⟩
  ·simp only[Pt.one,qF,if_false]
   intro i j i' j' a b c d e f1 f2 f3 f4
   obtain ⟨g1,g2,g3,g4⟩:=h.all i j i' j' a b c d e f1 f2 f3 (by omega)
   refine ⟨g1,g2,g3,?_⟩
   rcases Nat.lt_or_ge j' (t.c+k) with h1 | h1
   ·exact h1
   exact (key i j i' j' a b c d e f1 f2 f3 f4 g1 g2 h1 g4).elim
  simp only[Pt.two,qF,if_false]
  intro i j i' j' a b c d e f1 f2 f3 f4
  obtain ⟨g1,g2,g3,g4⟩:=h.all i j i' j' a b c d e f1 f2 (by omega) (by omega)
  refine ⟨g1,g2,?_,by omega⟩
  rcases Nat.lt_or_ge j' (t.c+k) with h1 | h1
  ·exact (key i' j' i j c d a b e.symm g1 g2 g3 h1 f1 f2 f3 (by omega)).elim
  exact h1
section
def yet (t:Pt) (row:Txt):Txt:=(row.drop t.c).take t.w
def sub (p:List Txt) (t:Pt):List Txt:=((p.drop t.r).take t.h).map (yet t)
section
variable {p:List Txt} {t:Pt}
end
end
section
def Pt.rect (t:Pt):Rect:=⟨t.r,t.c,t.h,t.w⟩
section
variable {p:List Txt} {t:Pt}
theorem zju (hp:zec p=true):yaq (zbb p) p.length (zag p).length:=by
 intro i j i' j' k l hi hi' hj hj' he h1 h2 h3 h4
 obtain ⟨b,hb,hin,_,hall⟩:=ze9 hp hi hj
 obtain ⟨b',hb',hin',_,_⟩:=ze9 hp hi' hj'
 rw [← he,hb]at hb'
 cases hb'
 refine hall k l (by omega) (by omega) ?_
 simp only[inB,qB,decide_eq_true_eq]at hin hin' ⊢
 omega
theorem zv2 (hp:zec p=true):Whole (zbb p) p.length (zag p).length ⟨0,0,p.length,(zag p).length⟩:=by
 have hsm:=zfv (ze1 hp)
 obtain ⟨row0,h0,hm0⟩:=zai hsm.1
 have hw:=zpd (ze1 hp) h0
 rw [← zgo h0]at hw
 exact ⟨⟨hsm.1,hw,by simp,by simp⟩,fun i j i' j' a b c d _ _ _ _ _=>by simp only; omega⟩
theorem zfy (hp:zec p=true) {i j:Nat} (hi:i<p.length) (hj:j<(zag p).length):0≤zbb p i j∧zbb p i j<(rP p).length:=(zdv hp).room hi hj
end
end
section
def zfb (z:Nat→Nat→Int) (t:Pt):Option CT:=tree z (t.h*t.w) t
section
variable {z:Nat→Nat→Int} {H W:Nat} {t:Pt}
theorem zis (h:t.In H W):t.h*t.w=(t.h*t.w - 1)+1:=by have:=Nat.mul_pos h.1 h.2.1; omega
theorem zlj (h:t.In H W) (h1:zy7 z t=true):zfb z t=some (.leaf (z t.r t.c)):=by
 unfold zfb; rw [zis h,tree,if_pos h1]
theorem zmd (h:t.In H W) (h1:zy7 z t=false) (h2:zgf z t=none):zfb z t=none:=by
 unfold zfb; rw [zis h,tree,h1,h2]; rfl
theorem zli (h:t.In H W) (h1:zy7 z t=false) {q:Bool × Nat} (h2:zgf z t=some q):zfb z t=match zfb z (t.one q),zfb z (t.two q) with | some x,some y=>some (.node q.1 x y) | _,_=>none:=by
 obtain ⟨i1,i2,a1,a2⟩:=h.cut h2
 have:=zis h
 rw [show zfb z t=tree z ((t.h*t.w - 1)+1) t by unfold zfb; rw [← this]]
 simp only[tree,h1,h2,qF,if_false]
 unfold zfb
 rw [zlk (z:=z) _ i1 (qR _) (f:=t.h*t.w - 1) (g:=(t.one q).h*(t.one q).w) (by omega) (qR _),zlk (z:=z) _ i2 (qR _) (f:=t.h*t.w - 1) (g:=(t.two q).h*(t.two q).w) (by omega) (qR _)]
 all_goals (cases tree z ((t.one q).h*(t.one q).w) (t.one q) <;> cases tree z ((t.two q).h*(t.two q).w) (t.two q) <;> rfl)
def z2f (z:Nat→Nat→Int):Nat→Pt→Txt × Bool
 | 0,_=>([],false)
 | f+1,t=>if zy7 z t then ([UInt8.ofNat (z t.r t.c+65).toNat],true) else
  match zgf z t with
  | none=>([],false)
  | some q=>((if q.1 then [104] else [118])++(z2f z f (t.one q)).1++(z2f z f (t.two q)).1,(z2f z f (t.one q)).2 && (z2f z f (t.two q)).2)
theorem znt:∀ (n:Nat) {t:Pt} {f g:Nat},t.In H W→t.h*t.w≤n→t.h*t.w≤f→t.h*t.w≤g→z2f z f t=z2f z g t
 | 0,t,f,g,hi,hn,_,_=>by have:=Nat.mul_pos hi.1 hi.2.1; omega
 | n+1,t,f,g,hi,hn,hf,hg=>by
  have:=Nat.mul_pos hi.1 hi.2.1
  obtain ⟨f,rfl⟩:∃ f',f=f'+1:=⟨f - 1,by omega⟩
  obtain ⟨g,rfl⟩:∃ g',g=g'+1:=⟨g - 1,by omega⟩
  simp only[z2f]
  split
  ·rfl
  cases hc:zgf z t with
  | none=>rfl
  | some q =>
   obtain ⟨i1,i2,a1,a2⟩:=hi.cut hc
   simp only
   rw [znt n i1 (f:=f) (g:=g) (by omega) (by omega) (by omega),znt n i2 (f:=f) (g:=g) (by omega) (by omega) (by omega)]
def z0f (z:Nat→Nat→Int) (t:Pt):Txt × Bool:=z2f z (t.h*t.w) t
theorem z80 (h:t.In H W) (h1:zy7 z t=true):z0f z t=([UInt8.ofNat (z t.r t.c+65).toNat],true):=by
 unfold z0f; rw [zis h,z2f,if_pos h1]
theorem z6b (h:t.In H W) (h1:zy7 z t=false) (h2:zgf z t=none):z0f z t=([],false):=by
 unfold z0f; rw [zis h,z2f,h1,h2]; rfl
theorem z8z (h:t.In H W) (h1:zy7 z t=false) {q:Bool × Nat} (h2:zgf z t=some q) :
  z0f z t=((if q.1 then [104] else [118])++(z0f z (t.one q)).1++(z0f z (t.two q)).1,(z0f z (t.one q)).2 && (z0f z (t.two q)).2):=by
 obtain ⟨i1,i2,a1,a2⟩:=h.cut h2
 have:=zis h
 rw [show z0f z t=z2f z ((t.h*t.w - 1)+1) t by unfold z0f; rw [← this]]
 simp only[z2f,h1,h2,qF,if_false]
 unfold z0f
 rw [znt (z:=z) _ i1 (qR _) (f:=t.h*t.w - 1) (g:=(t.one q).h*(t.one q).w) (by omega) (qR _),znt (z:=z) _ i2 (qR _) (f:=t.h*t.w - 1) (g:=(t.two q).h*(t.two q).w) (by omega) (qR _)]
theorem zx3 {q:Bool × Nat} (h2:zgf z t=some q):(t.one q).h*(t.one q).w+(t.two q).h*(t.two q).w=t.h*t.w:=by
 obtain ⟨h1,h3⟩:=zfu h2
 obtain ⟨lv,k⟩:=q
 cases lv with
 | true =>
  simp only[if_true]at h3
  simp only[Pt.one,Pt.two,if_true]
  rw [← Nat.add_mul,show k+(t.h - k)=t.h by omega]
 | false =>
  simp only[qF,if_false]at h3
  simp only[Pt.one,Pt.two,qF,if_false]
  rw [← Nat.mul_add,show k+(t.w - k)=t.w by omega]
theorem zv1:∀ (n:Nat) {t:Pt},t.In H W→t.h*t.w≤n→(z0f z t).1.length+1≤2*(t.h*t.w)∧(z0f z t).2=(zfb z t).isSome
 | 0,t,hi,hn=>by have:=Nat.mul_pos hi.1 hi.2.1; omega
 | n+1,t,hi,hn=>by
  have:=Nat.mul_pos hi.1 hi.2.1
  cases h1:zy7 z t with
  | true=>rw [z80 hi h1,zlj hi h1]; simp; omega
  | false =>
   cases hc:zgf z t with
   | none=>rw [z6b hi h1 hc,zmd hi h1 hc]; simp; omega
   | some q =>
    obtain ⟨i1,i2,a1,a2⟩:=hi.cut hc
    have ha:=zx3 hc
    obtain ⟨b1,b2⟩:=zv1 n i1 (by omega)
    obtain ⟨c1,c2⟩:=zv1 n i2 (by omega)
    have p1:=Nat.mul_pos i1.1 i1.2.1
    rw [z8z hi h1 hc,zli hi h1 hc]
    constructor
    ·simp only[List.length_append]
     have:(if q.1 then [(104:UInt8)] else [118]).length=1:=by split <;> rfl
     omega
    rw [b2,c2]
    cases zfb z (t.one q) <;> cases zfb z (t.two q) <;> rfl
def CT.leaves:CT→List Int
 | .leaf a=>[a]
 | .node _ x y=>x.leaves++y.leaves
theorem CT.pos (x:CT):1≤x.leaves.length:=by
 induction x with
 | leaf a=>simp [CT.leaves]
 | node lv x y h1 h2=>simp [CT.leaves]; omega
theorem zge (hz:yaq z H W):∀ (n:Nat) {t:Pt} {x:CT},Whole z H W t→t.h*t.w≤n→zfb z t=some x →
  x.leaves.Nodup∧(∀ v,v∈x.leaves↔∃ a c,t.r≤a∧a<t.r+t.h∧t.c≤c∧c<t.c+t.w∧z a c=v)∧x.leaves.length≤t.h*t.w
 | 0,t,x,hw,hn,_=>by have:=Nat.mul_pos hw.inn.1 hw.inn.2.1; omega
 | n+1,t,x,hw,hn,hx=>by
  have hi:=hw.inn
  have hpos:=Nat.mul_pos hi.1 hi.2.1
  cases h1:zy7 z t with
  | true =>
   rw [zlj hi h1]at hx
   cases hx
   have hall:=zy8.1 h1
   refine ⟨by simp [CT.leaves],fun v=>?_,by simp [CT.leaves]; omega⟩
   simp only[CT.leaves,List.mem_singleton]
   constructor
   ·rintro rfl; exact ⟨t.r,t.c,by omega,by have:=hi.1; omega,by omega,by have:=hi.2.1; omega,rfl⟩
   rintro ⟨a,c,e1,e2,e3,e4,rfl⟩
   have:=hall (a - t.r) (c - t.c) (by omega) (by omega)
   rwa [show t.r+(a - t.r)=a by omega,show t.c+(c - t.c)=c by omega]at this
  | false =>
   cases hc:zgf z t with
   | none=>rw [zmd hi h1 hc]at hx; cases hx
   | some q =>
    obtain ⟨i1,i2,a1,a2⟩:=hi.cut hc
    obtain ⟨w1,w2⟩:=hw.cut hz hc
    have ha:=zx3 hc
    rw [zli hi h1 hc]at hx
    cases hx1:zfb z (t.one q) with
    | none=>rw [hx1]at hx; cases hx
    | some x1 =>
     cases hx2:zfb z (t.two q) with
     | none=>rw [hx1,hx2]at hx; cases hx
     | some x2 =>
      rw [hx1,hx2]at hx
      cases hx
      obtain ⟨b1,b2,b3⟩:=zge hz n w1 (by omega) hx1
      obtain ⟨c1,c2,c3⟩:=zge hz n w2 (by omega) hx2
      obtain ⟨k1,k2⟩:=zfu hc
      refine ⟨?_,fun v=>?_,by simp [CT.leaves]; omega⟩
      ·simp only[CT.leaves,List.nodup_append]
       refine ⟨b1,c1,fun v hv u hu e=>?_⟩
       subst e
       obtain ⟨a,c,e1,e2,e3,e4,e5⟩:=(b2 v).1 hv
       obtain ⟨a',c',f1,f2,f3,f4,f5⟩:=(c2 v).1 hu
       have hin1:=i1; have hin2:=i2
       unfold Pt.In at hin1 hin2
       have:=w1.all a c a' c' (by omega) (by omega) (by omega) (by omega) (e5.trans f5.symm) e1 e2 e3 e4
       obtain ⟨lv,k⟩:=q
       cases lv <;> simp only[Pt.one,Pt.two,qF,if_false,if_true] at * <;> omega
      simp only[CT.leaves,List.mem_append,b2,c2]
      obtain ⟨lv,k⟩:=q
      cases lv with
      | true =>
       simp only[Pt.one,Pt.two,if_true] at *
       constructor
       ·rintro (⟨a,c,e1,e2,e3,e4,e5⟩ | ⟨a,c,e1,e2,e3,e4,e5⟩)
        ·exact ⟨a,c,e1,by omega,e3,e4,e5⟩
        exact ⟨a,c,by omega,by omega,e3,e4,e5⟩
       rintro ⟨a,c,e1,e2,e3,e4,e5⟩
       rcases Nat.lt_or_ge a (t.r+k) with h | h
       ·exact .inl ⟨a,c,e1,h,e3,e4,e5⟩
       exact .inr ⟨a,c,h,by omega,e3,e4,e5⟩
      | false =>
       simp only[Pt.one,Pt.two,qF,if_false] at *
       constructor
       ·rintro (⟨a,c,e1,e2,e3,e4,e5⟩ | ⟨a,c,e1,e2,e3,e4,e5⟩)
        ·exact ⟨a,c,e1,e2,e3,by omega,e5⟩
        exact ⟨a,c,e1,e2,by omega,by omega,e5⟩
       rintro ⟨a,c,e1,e2,e3,e4,e5⟩
       rcases Nat.lt_or_ge c (t.c+k) with h | h
       ·exact .inl ⟨a,c,e1,e2,e3,h,e5⟩
       exact .inr ⟨a,c,e1,e2,h,by omega,e5⟩
end
end
section
section
variable {c:Nat→Nat→Nat} {H W:Nat}
def zhz (c:Nat→Nat→Nat) (t:Pt) (i j:Nat):Nat:=c (t.r+i) (t.c+j)
theorem Pl.sub (h:Pl c H W) {t:Pt} (ht:t.In H W):Pl (zhz c t) t.h t.w:=by
 obtain ⟨t1,t2,t3,t4⟩:=ht
 constructor
 ·intro i j i' j' k l a b c' d e f1 f2 f3 f4
  exact h.rect (t.r+k) (t.c+l) (by omega) (by omega) (by omega) (by omega) e (by omega) (by omega) (by omega) (by omega)
 intro i j a b e1 e2 e3
 exact h.plain (i:=t.r+i) (j:=t.c+j) (by omega) (by omega) e1 e2 e3
theorem DL.sub {t:Pt} (ht:t.In H W) {a b:Nat} (h:DL (zhz c t) t.h t.w a b):DL c H W a b:=by
 obtain ⟨t1,t2,t3,t4⟩:=ht
 obtain ⟨j,i1,i2,a1,a2,a3,a4,a5,a6⟩:=h
 refine ⟨t.c+j,t.r+i1,t.r+i2,by omega,by omega,by omega,fun r h1 h2=>?_,a5,a6⟩
 have:=a4 (r - t.r) (by omega) (by omega)
 simp only[zhz]at this
 rwa [show t.r+(r - t.r)=r by omega]at this
theorem DU.sub {t:Pt} (ht:t.In H W) {a b:Nat} (h:DU (zhz c t) t.h t.w a b):DU c H W a b:=by
 obtain ⟨t1,t2,t3,t4⟩:=ht
 obtain ⟨i,j1,j2,a1,a2,a3,a4,a5,a6⟩:=h
 refine ⟨t.r+i,t.c+j1,t.c+j2,by omega,by omega,by omega,fun r h1 h2=>?_,a5,a6⟩
 have:=a4 (r - t.c) (by omega) (by omega)
 simp only[zhz]at this
 rwa [show t.c+(r - t.c)=r by omega]at this
end
section
variable {p:List Txt}
theorem z25 (hp:zal p=true) {t:Pt} (hw:Whole (zbb p) p.length (zag p).length t) {q:Bool × Nat} (hq:zgf (zbb p) t=some q) {x y:CT} (hx:zfb (zbb p) (t.one q)=some x) (hy:zfb (zbb p) (t.two q)=some y) :
  ∀ a b,a∈x.leaves→b∈y.leaves→(q.1=false→Lf p a.toNat b.toNat)∧(q.1=true→Ab p a.toNat b.toNat):=by
 intro a b ha hb
 have hpl:=zcb hp
 have hi:=hw.inn
 obtain ⟨i1,i2,_,_⟩:=hi.cut hq
 obtain ⟨w1,w2⟩:=hw.cut (zju hpl) hq
 obtain ⟨_,m1,_⟩:=zge (zju hpl) _ w1 (qR _) hx
 obtain ⟨_,m2,_⟩:=zge (zju hpl) _ w2 (qR _) hy
 obtain ⟨r1,c1,e1,e2,e3,e4,e5⟩:=(m1 a).1 ha
 obtain ⟨r2,c2,f1,f2,f3,f4,f5⟩:=(m2 b).1 hb
 have hin:=hi
 unfold Pt.In at hin i1 i2
 have hP:=(zb4 hp).sub hi
 obtain ⟨k1,k2⟩:=zfu hq
 obtain ⟨lv,k⟩:=q
 have hra:=zfy hpl (i:=r1) (j:=c1) (by omega) (by omega)
 have hrb:=zfy hpl (i:=r2) (j:=c2) (by omega) (by omega)
 have ca:=zew hpl (i:=r1) (j:=c1) (by omega) (by omega)
 have cb:=zew hpl (i:=r2) (j:=c2) (by omega) (by omega)
 have ha':a.toNat<(rP p).length:=by omega
 have hb':b.toNat<(rP p).length:=by omega
 have ea:cn (gP p) r1 c1=a.toNat:=by omega
 have eb:cn (gP p) r2 c2=b.toNat:=by omega
 have cz:∀ i j,i<p.length→j<(zag p).length→(cn (gP p) i j:Int)=zbb p i j:=fun i j h1 h2=>zew hpl h1 h2
 constructor
 ·rintro rfl
  simp only[qF,if_false]at k2
  simp only[Pt.one,Pt.two,qF,if_false] at *
  have hth:=zxs.1 k2.2
  have hT:Thru (zhz (cn (gP p)) t) t.h k:=by
   intro r hr e
   have:=hth r hr
   have g1:=cz (t.r+r) (t.c+k - 1) (by omega) (by omega)
   have g2:=cz (t.r+r) (t.c+k) (by omega) (by omega)
   simp only[zhz]at e
   rw [show t.c+(k - 1)=t.c+k - 1 by omega]at e
   omega
  have h:=zpl hP k1 k2.1 hT (i:=r1 - t.r) (j:=c1 - t.c) (i':=r2 - t.r) (j':=c2 - t.c) (by omega) (by omega) (by omega) (by omega) (by omega)
  have h2:TC (DL (cn (gP p)) p.length (zag p).length) (zhz (cn (gP p)) t (r1 - t.r) (c1 - t.c)) (zhz (cn (gP p)) t (r2 - t.r) (c2 - t.c)):=h.mono fun a b hd=>DL.sub hi hd
  simp only[zhz]at h2
  rw [show t.r+(r1 - t.r)=r1 by omega,show t.c+(c1 - t.c)=c1 by omega,show t.r+(r2 - t.r)=r2 by omega,show t.c+(c2 - t.c)=c2 by omega,ea,eb]at h2
  exact (Lf.iff ha' hb').2 h2
 rintro rfl
 simp only[if_true]at k2
 simp only[Pt.one,Pt.two,if_true] at *
 have hth:=zxr.1 k2.2
 have hT:Thru (tr (zhz (cn (gP p)) t)) t.w k:=by
  intro r hr e
  have:=hth r hr
  have g1:=cz (t.r+k - 1) (t.c+r) (by omega) (by omega)
  have g2:=cz (t.r+k) (t.c+r) (by omega) (by omega)
  simp only[tr,zhz]at e
  rw [show t.r+(k - 1)=t.r+k - 1 by omega]at e
  omega
 have h:=zpl hP.ex k1 k2.1 hT (i:=c1 - t.c) (j:=r1 - t.r) (i':=c2 - t.c) (j':=r2 - t.r) (by omega) (by omega) (by omega) (by omega) (by omega)
 have h2:TC (DU (cn (gP p)) p.length (zag p).length) (zhz (cn (gP p)) t (r1 - t.r) (c1 - t.c)) (zhz (cn (gP p)) t (r2 - t.r) (c2 - t.c)):=h.mono fun a b hd=>DU.sub hi hd.ex
 simp only[zhz]at h2
 rw [show t.r+(r1 - t.r)=r1 by omega,show t.c+(c1 - t.c)=c1 by omega,show t.r+(r2 - t.r)=r2 by omega,show t.c+(c2 - t.c)=c2 by omega,ea,eb]at h2
 exact (Ab.iff ha' hb').2 h2
end
inductive Ch (M:List (List Bool)) (ws:List Int) (a:Nat):Nat→Int→Prop
 | one:Ch M ws a a (zdf ws a)
 | snoc {b d:Nat} {s:Int}:Ch M ws a b s→zb9 M b d=true→Ch M ws a d (s+zdf ws d)
section
variable {M:List (List Bool)} {ws:List Int} {n:Nat} {rk:Nat→Nat}
theorem Ch.le (hu:Up M n rk) (hsq:∀ a b,zb9 M a b=true→a<n) {a b:Nat} {s:Int} (h:Ch M ws a b s):b<n→s≤HB M ws n b:=by
 induction h with
 | one=>intro hb; rw [z9f hu hb]; have:=yds (M:=M) (ws:=ws) (n:=n) a; omega
 | snoc k hk ih =>
  intro hb
  have h1:=ih (hsq _ _ hk)
  have h2:=ydr (ws:=ws) (hsq _ _ hk) hk
  rw [z9f hu hb]; omega
end
section
variable {p:List Txt}
end
end
end Fw
end Go.Proofs.YtcfgpmeebpinaaaGreat
