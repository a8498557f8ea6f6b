/- Parts of the framework and of the proof: Orders of a plain plan: each two rooms are in just one; Parts of plans in the program: the rooms of a part, its lines, its cut; A room's first cell stands behind those of the rooms of smaller number; Cut trees, gone down; what is told along them; Rooms put in a row by how many are ahead of them; The two orders are orders of all rooms; the places of the second order in the first one; Where rooms begin and how far they may be moved: the program's lists are the specification's; Shapes in plain words: the program's least shapes are the specification's; Sizes in plain words: areas, places, slacks, longest rows; What the laws of sizes ask, of plans in plain words; Longest rows of rooms, as the specification finds them, in plain words; Longest growing parts of the permutation of a plan are longest rows of its rooms; Grids that are made of cells told by a function, gone through; Grids whose cells are alike are numbered alike; the text of a numbered grid is named as it should be; Orders of plans that are made of other plans: rows and columns exchanged, turned, seen from behind, made wide or tight; Plans that are made of other plans: their orders, their permutations and their least sizes; Upright cuts are where the permutation falls apart; Plans made of plans, gone through; Plans turned, exchanged and seen from behind, crosses or not: what stays; Crosses, cuts and cuttability of plans turned; What holds of all arguments holds of frozen ones; The framework: what a call leaves is frozen from some object on; a call freezes all that there is; The framework: objects that stand behind are lent to a call as data that does not turn, and are taken back when it ends; Grids that are made of cells told by a function, as rows that may be written; How long two rooms touch; colours by trying; How long rooms touch, and neighbours, gone through; Heaviest sums, gone through; Colours, gone through; Parts of plans in the program: rooms, lines, gone through; The framework, part ha: loops over functions: yield's contract out of the body's walk, and the statement. -/
import Derived.Test.YtbbphnladjdllaaGreatJ3
import Derived.Test.YtbbphnladjdllaaGreatJ1
import Derived.Test.YtbbphnladjdllaaGreatJ2
set_option linter.all false
namespace Go.Proofs.YtbbphnladjdllaaGreat
namespace Fw
open Go
open Nat renaming reduceEqDiff → qE, reduceLeDiff → qL, reduceAdd → qA, reduceMul → qM, le_refl → qR
open List renaming append_nil → qN, mapM_append → qP, mapM_cons → qC, mapM_map → qU, range_succ → qS, take_of_length_le → qT
open Bool renaming and_eq_true → qB, false_eq_true → qF
open Option renaming map_some → qO, map_eq_some_iff → qI
open Int renaming reduceToNat → qZ
section
theorem zy3 {p:List Txt} {i:Nat}:∀ {w:Nat},zix p 4 i w=0→∀ k,1≤k→k<w→znu p i k≠4
 | w+1,h,k,h1,h2=>by
  have hb:=(zht p 4 i w).1
  unfold zix at h
  by_cases e:k=w
  ·subst e
   intro q
   rw [if_pos ⟨h1,q⟩]at h
   omega
  have h0:zix p 4 i w=0:=by split at h <;> omega
  exact zy3 h0 k h1 (by omega)
theorem z37 {p:List Txt} {w:Nat}:∀ {n:Nat},zsl p 4 w n=0→∀ i,1≤i→i<n→zix p 4 i w=0
 | n+1,h,i,h1,h2=>by
  have hb:0≤zsl p 4 w n:=by
   clear h h1 h2
   induction n with
   | zero=>simp [zsl]
   | succ n ih =>
    have:=(zht p 4 n w).1
    unfold zsl; split <;> omega
  have hr:=(zht p 4 n w).1
  unfold zsl at h
  by_cases e:i=n
  ·subst e
   rw [if_pos h1]at h
   omega
  have h0:zsl p 4 w n=0:=by split at h <;> omega
  exact z37 h0 i h1 (by omega)
theorem z6z {a b:UInt8} (h:(a.toNat:Int) - 97≠(b.toNat:Int) - 97):a≠b:=by
 rintro rfl; exact h rfl
theorem z5y {p:List Txt} (hg:zcx p=true) {i k:Nat} (hi:i+1<p.length) (hk:k+1<(zag p).length) (h1:zaf p i k≠zaf p i (k+1)) (h2:zaf p i k≠zaf p (i+1) k) (h3:zaf p i k≠zaf p (i+1) (k+1))
  (h4:zaf p i (k+1)≠zaf p (i+1) k) (h5:zaf p i (k+1)≠zaf p (i+1) (k+1)) (h6:zaf p (i+1) k≠zaf p (i+1) (k+1)):znu p (i+1) (k+1)=4:=by
 obtain ⟨r1,hr1,-⟩:=zaj (show i<p.length by omega)
 obtain ⟨r2,hr2,-⟩:=zaj hi
 have e1:=zew hg hr1
 have e2:=zew hg hr2
 obtain ⟨a,ha,-⟩:=zaj (show k<r1.length by omega)
 obtain ⟨b,hb,-⟩:=zaj (show k+1<r1.length by omega)
 obtain ⟨c,hc,-⟩:=zaj (show k<r2.length by omega)
 obtain ⟨d,hd,-⟩:=zaj (show k+1<r2.length by omega)
 rw [zcy hr1 ha]at h1 h2 h3
 rw [zcy hr1 hb]at h1 h4 h5
 rw [zcy hr2 hc]at h2 h4 h6
 rw [zcy hr2 hd]at h3 h5 h6
 have n1:=z6z h1
 have n2:=z6z h2
 have n3:=z6z h3
 have n4:=z6z h4
 have n5:=z6z h5
 have n6:=z6z h6
 unfold znu
 simp only[Nat.add_sub_cancel,hr1,hr2,ha,hb,hc,hd]
 simp [zlw,yh4,yh5,Ne.symm n1,Ne.symm n2,Ne.symm n3,Ne.symm n4,Ne.symm n5,Ne.symm n6]
theorem zdy {p:List Txt} (hp:zbk p=true) {i j:Nat} (hi:i<p.length) (hj:j<(zag p).length):(cn (gP p) i j:Int)=zaf p i j:=by
 have hN:=zb6 hp
 have:=hN.room hi hj
 unfold cn
 rw [hN.cell hi hj]; omega
theorem zn0 {p:List Txt} (hp:zcd p=true):Pl (cn (gP p)) p.length (zag p).length:=by
 have hpl:=zee hp
 have hN:=zb6 hpl
 have rect:∀ {i j i' j':Nat} (k l:Nat),i<p.length→i'<p.length→j<(zag p).length→j'<(zag p).length→cn (gP p) i j=cn (gP p) i' j'→min i i'≤k→k≤max i i'→min j j'≤l→l≤max j j'→cn (gP p) k l=cn (gP p) i j:=by
  intro i j i' j' k l h1 h2 h3 h4 e h5 h6 h7 h8
  have e1:=zdy hpl h1 h3
  have e2:=zdy hpl h2 h4
  have e3:=zdy hpl (show k<p.length by omega) (show l<(zag p).length by omega)
  obtain ⟨b,hb,q1,-,c1⟩:=zgl hpl h1 h3
  obtain ⟨b',hb',q2,-,-⟩:=zgl hpl h2 h4
  have e4:zaf p i j=zaf p i' j':=by omega
  rw [e4,hb']at hb
  obtain rfl:=Option.some.inj hb
  have q3:inB b' k l=true:=by
   unfold inB at q1 q2 ⊢
   simp only[qB,decide_eq_true_eq]at q1 q2 ⊢
   omega
  have:=c1 k l (by omega) (by omega) q3
  omega
 refine ⟨rect,fun {i j} h1 h2 n1 n2 n3=>Classical.byContradiction fun n4=>?_⟩
 have h0:points p 4=0:=by
  unfold zcd at hp
  simp only[qB,decide_eq_true_eq]at hp
  exact hp.2
 have hno:=zy3 (z37 h0 (i+1) (by omega) h1) (j+1) (by omega) h2
 have n5:cn (gP p) i j≠cn (gP p) (i+1) (j+1):=by
  intro e
  exact n1 (rect i (j+1) (by omega) h1 (by omega) h2 e (by omega) (by omega) (by omega) (by omega)).symm
 have n6:cn (gP p) i (j+1)≠cn (gP p) (i+1) j:=by
  intro e
  exact n1 (rect i j (by omega) h1 h2 (by omega) e (by omega) (by omega) (by omega) (by omega))
 have c1:=zdy hpl (show i<p.length by omega) (show j<(zag p).length by omega)
 have c2:=zdy hpl (show i<p.length by omega) h2
 have c3:=zdy hpl h1 (show j<(zag p).length by omega)
 have c4:=zdy hpl h1 h2
 exact hno (z5y hN.hg h1 h2 (by omega) (by omega) (by omega) (by omega) (by omega) (by omega))
theorem zrr {p:List Txt} {a:Nat} (ha:a<(rP p).length):∃ i j,i<p.length∧j<(zag p).length∧cn (gP p) i j=a:=by
 have hi:=zhr p
 obtain ⟨b,hb,-⟩:=zaj ha
 obtain ⟨v,hv,-⟩:=zaj (show a<(keys p).length by rw [← hi.len]; exact ha)
 obtain ⟨i,j,⟨hz,hj,hij⟩,-⟩:=(hi.hull a v b hv hb).at_
 have hi2:i<p.length:=by omega
 refine ⟨i,j,hi2,hj,?_⟩
 unfold cn
 rw [z5q hi2 hj,hz,Int.toNat_natCast]
 have hlt:¬ (keys p).idxOf v=(keys p).length:=by
  have:=List.idxOf_lt_length_iff.2 (List.mem_of_getElem? hv)
  omega
 exact zmf hi.nd (zh8 hlt) hv
def lfM (p:List Txt):List (List Bool):=z1f (gP p) p.length (zag p).length (rP p).length
def abM (p:List Txt):List (List Bool):=zp1 (gP p) p.length (zag p).length (rP p).length
def Lf (p:List Txt) (a b:Nat):Prop:=zcv (lfM p) a b=true
def Ab (p:List Txt) (a b:Nat):Prop:=zcv (abM p) a b=true
section
variable {p:List Txt} {a b d:Nat}
theorem Lf.iff (ha:a<(rP p).length) (hb:b<(rP p).length):Lf p a b↔TC (DL (cn (gP p)) p.length (zag p).length) a b:=yhp ze2 ha hb
theorem Ab.iff (ha:a<(rP p).length) (hb:b<(rP p).length):Ab p a b↔TC (DU (cn (gP p)) p.length (zag p).length) a b:=ycp ze2 ha hb
theorem Lf.trans (ha:a<(rP p).length) (hb:b<(rP p).length) (hd:d<(rP p).length) (h:Lf p a b) (k:Lf p b d):Lf p a d:=by
 rw [Lf.iff ha hd]; exact ((Lf.iff ha hb).1 h).trans ((Lf.iff hb hd).1 k)
theorem Ab.trans (ha:a<(rP p).length) (hb:b<(rP p).length) (hd:d<(rP p).length) (h:Ab p a b) (k:Ab p b d):Ab p a d:=by
 rw [Ab.iff ha hd]; exact ((Ab.iff ha hb).1 h).trans ((Ab.iff hb hd).1 k)
theorem zk7 (hp:zcd p=true):∃ f g:Nat→Nat,∀ a b,a<(rP p).length→b<(rP p).length→(Lf p a b→f a<f b∧g a<g b)∧(Ab p a b→f a<f b∧g b<g a):=by
 have hpl:=zn0 hp
 obtain ⟨f,hf⟩:=z3p hpl (n:=(rP p).length) (fun i j hi hj=>zlu ze2 hi hj)
 obtain ⟨g,hg⟩:=z90 hpl (n:=(rP p).length) (fun i j hi hj=>zlu ze2 hi hj)
 refine ⟨f,g,fun a b ha hb=>⟨fun h=>?_,fun h=>?_⟩⟩
 ·rw [Lf.iff ha hb]at h
  exact ⟨h.rise fun a b k=>hf a b (.inl k),h.rise fun a b k=>hg a b (.inl k)⟩
 rw [Ab.iff ha hb]at h
 exact ⟨h.rise fun a b k=>hf a b (.inr k),(h.rev (S:=fun x y=>DU (cn (gP p)) p.length (zag p).length y x) fun _ _ k=>k).rise fun a b k=>hg a b (.inr k)⟩
theorem Lf.only (hp:zcd p=true) (ha:a<(rP p).length) (hb:b<(rP p).length) (h:Lf p a b):¬ Lf p b a∧¬ Ab p a b∧¬ Ab p b a:=by
 obtain ⟨f,g,k⟩:=zk7 hp
 have h1:=(k a b ha hb).1 h
 refine ⟨fun q=>?_,fun q=>?_,fun q=>?_⟩
 ·have:=(k b a hb ha).1 q; omega
 ·have:=(k a b ha hb).2 q; omega
 have:=(k b a hb ha).2 q; omega
theorem Ab.only (hp:zcd p=true) (ha:a<(rP p).length) (hb:b<(rP p).length) (h:Ab p a b):¬ Ab p b a∧¬ Lf p a b∧¬ Lf p b a:=by
 obtain ⟨f,g,k⟩:=zk7 hp
 have h1:=(k a b ha hb).2 h
 refine ⟨fun q=>?_,fun q=>?_,fun q=>?_⟩
 ·have:=(k b a hb ha).2 q; omega
 ·have:=(k a b ha hb).1 q; omega
 have:=(k b a hb ha).1 q; omega
theorem z53 (hp:zcd p=true) (ha:a<(rP p).length) (hb:b<(rP p).length) (hne:a≠b):Lf p a b∨Lf p b a∨Ab p a b∨Ab p b a:=by
 obtain ⟨i,j,h1,h2,e1⟩:=zrr ha
 obtain ⟨k,l,h3,h4,e2⟩:=zrr hb
 have:=zwa (zn0 hp) h1 h2 h3 h4 (by rw [e1,e2]; exact hne)
 rw [e1,e2]at this
 rw [Lf.iff ha hb,Lf.iff hb ha,Ab.iff ha hb,Ab.iff hb ha]
 exact this
end
end
section
def Pt.rect (t:Pt):Rect:=⟨t.r,t.c,t.h,t.w⟩
abbrev zfb (g:List (List Int)) (rs:List Rect) (t:Rect):PV := .agg (zar g rs::t.cells)
def yk5 (rs:List Rect) (t:Rect) (i:Nat):Bool:=match rs[i]? with | some b=>decide (t.both b=t) | none=>false
def zgz (rs:List Rect) (t:Rect) (k:Nat):List Int:=((List.range k).filter (yk5 rs t)).map fun i:Nat=>(i:Int)
theorem zj7 {rs:List Rect} {t:Rect} {k:Nat} {b:Rect} (h:rs[k]?=some b):zgz rs t (k+1)=if t.both b=t then zgz rs t k++[(k:Int)] else zgz rs t k:=by
 unfold zgz
 rw [qS,List.filter_append,List.map_append]
 simp only[List.filter_cons,List.filter_nil,yk5,h,decide_eq_true_eq]
 split <;> simp
theorem yaw {rs:List Rect} {t:Rect} {k:Nat}:(zgz rs t k).length≤k:=by
 unfold zgz
 rw [List.length_map]
 exact Nat.le_trans (List.length_filter_le _ _) (by simp)
def rms (rs:List Rect) (t:Rect):List Int:=zgz rs t rs.length
section
variable {p:List Txt} {t:Pt}
theorem ze3 (hp:zbk p=true):yco (zaf p) p.length (zag p).length:=by
 intro i j i' j' k l hi hi' hj hj' he h1 h2 h3 h4
 obtain ⟨b,hb,hin,_,hall⟩:=zgl hp hi hj
 obtain ⟨b',hb',hin',_,_⟩:=zgl hp hi' hj'
 rw [← he,hb]at hb'
 cases hb'
 refine hall k l (by omega) (by omega) ?_
 simp only[inB,qB,decide_eq_true_eq]at hin hin' ⊢
 omega
theorem zne (hp:zbk p=true):Whole (zaf p) p.length (zag p).length ⟨0,0,p.length,(zag p).length⟩:=by
 have hsm:=zbo (zde hp)
 obtain ⟨row0,h0,hm0⟩:=zaj hsm.1
 have hw:=zfr (zde hp) h0
 rw [← zcf h0]at hw
 exact ⟨⟨hsm.1,hw,by simp,by simp⟩,fun i j i' j' a b c d _ _ _ _ _=>by simp only; omega⟩
theorem zte (hp:zbk p=true) (ht:Whole (zaf p) p.length (zag p).length t) {i:Nat} {b:Rect} (hb:(rP p)[i]?=some b) :
  t.rect.both b=t.rect↔∃ a c,t.r≤a∧a<t.r+t.h∧t.c≤c∧c<t.c+t.w∧zaf p a c=i:=by
 have hh:=(zb6 hp).rect hb
 obtain ⟨a1,c1,p1,e1⟩:=hh.at_
 obtain ⟨a2,c2,p2,e2⟩:=hh.al
 obtain ⟨a3,c3,p3,e3⟩:=hh.ao
 obtain ⟨a4,c4,p4,e4⟩:=hh.ar
 have q1:=hh.inn _ _ p1
 obtain ⟨v1,g1⟩:=p1
 obtain ⟨v2,g2⟩:=p2
 obtain ⟨v3,g3⟩:=p3
 obtain ⟨v4,g4⟩:=p4
 unfold Gone at g1 g2 g3 g4
 constructor
 ·intro h
  refine ⟨a1,c1,?_⟩
  simp only[Rect.both,Pt.rect,Rect.mk.injEq]at h
  refine ⟨by omega,by omega,by omega,by omega,v1⟩
 rintro ⟨a,c,h1,h2,h3,h4,hv⟩
 have hin:=ht.inn
 unfold Pt.In at hin
 have k1:=ht.all a c a1 c1 (by omega) (by omega) (by omega) (by omega) (hv.trans v1.symm) h1 h2 h3 h4
 have k2:=ht.all a c a2 c2 (by omega) (by omega) (by omega) (by omega) (hv.trans v2.symm) h1 h2 h3 h4
 have k3:=ht.all a c a3 c3 (by omega) (by omega) (by omega) (by omega) (hv.trans v3.symm) h1 h2 h3 h4
 have k4:=ht.all a c a4 c4 (by omega) (by omega) (by omega) (by omega) (hv.trans v4.symm) h1 h2 h3 h4
 simp only[Rect.both,Pt.rect,Rect.mk.injEq]
 omega
theorem zcg (hp:zbk p=true) {i j:Nat} (hi:i<p.length) (hj:j<(zag p).length):0≤zaf p i j∧zaf p i j<(rP p).length:=(zb6 hp).room hi hj
theorem zve (hp:zbk p=true) (ht:Whole (zaf p) p.length (zag p).length t) {x:Int} :
  x∈rms (rP p) t.rect↔∃ a c,t.r≤a∧a<t.r+t.h∧t.c≤c∧c<t.c+t.w∧zaf p a c=x:=by
 have hin:=ht.inn
 unfold Pt.In at hin
 simp only[rms,zgz,List.mem_map,List.mem_filter,List.mem_range]
 constructor
 ·rintro ⟨i,⟨hi,hb⟩,rfl⟩
  obtain ⟨b,hb',_⟩:=zaj hi
  simp only[yk5,hb',decide_eq_true_eq]at hb
  exact (zte hp ht hb').1 hb
 rintro ⟨a,c,h1,h2,h3,h4,hv⟩
 have hr:=zcg hp (i:=a) (j:=c) (by omega) (by omega)
 rw [hv]at hr
 obtain ⟨b,hb',_⟩:=zaj (show x.toNat<(rP p).length by omega)
 refine ⟨x.toNat,⟨by omega,?_⟩,by omega⟩
 simp only[yk5,hb',decide_eq_true_eq]
 exact (zte hp ht hb').2 ⟨a,c,h1,h2,h3,h4,by omega⟩
theorem yay {rs:List Rect} {t:Rect}:(rms rs t).Nodup:=by
 unfold rms zgz
 rw [List.nodup_iff_pairwise_ne,List.pairwise_map]
 exact ((List.nodup_iff_pairwise_ne.1 List.nodup_range).filter _).imp fun h e=>h (Int.ofNat.inj e)
theorem yaz (hp:zbk p=true) (ht:Whole (zaf p) p.length (zag p).length t) (h:zlp (zaf p) t=true):rms (rP p) t.rect=[zaf p t.r t.c]:=by
 have hall:=zfp.1 h
 have hin:=ht.inn
 unfold Pt.In at hin
 have hm:∀ x,x∈rms (rP p) t.rect↔x=zaf p t.r t.c:=by
  intro x
  rw [zve hp ht]
  constructor
  ·rintro ⟨a,c,h1,h2,h3,h4,rfl⟩
   have:=hall (a - t.r) (c - t.c) (by omega) (by omega)
   rwa [show t.r+(a - t.r)=a by omega,show t.c+(c - t.c)=c by omega]at this
  rintro rfl
  exact ⟨t.r,t.c,by omega,by omega,by omega,by omega,rfl⟩
 have hn:=yay (rs:=rP p) (t:=t.rect)
 match hl:rms (rP p) t.rect,hm,hn with
 | [],hm,_=>exact absurd ((hm _).2 rfl) (by simp)
 | [x],hm,_=>rw [(hm x).1 (by simp)]
 | x::y::l,hm,hn =>
  have h1:=(hm x).1 (by simp)
  have h2:=(hm y).1 (by simp)
  rw [h1,h2]at hn
  simp at hn
theorem z4d (hp:zbk p=true) (ht:Whole (zaf p) p.length (zag p).length t) (h:zlp (zaf p) t=false):2≤(rms (rP p) t.rect).length:=by
 have hin:=ht.inn
 unfold Pt.In at hin
 have hno:¬ ∀ i j,i<t.h→j<t.w→zaf p (t.r+i) (t.c+j)=zaf p t.r t.c:=by
  intro hc; rw [zfp.2 hc]at h; cases h
 match hl:rms (rP p) t.rect with
 | [] =>
  have:zaf p t.r t.c∈rms (rP p) t.rect:=(zve hp ht).2 ⟨t.r,t.c,by omega,by omega,by omega,by omega,rfl⟩
  rw [hl]at this; simp at this
 | [x] =>
  exfalso
  apply hno
  intro i j hi hj
  have h1:zaf p (t.r+i) (t.c+j)∈rms (rP p) t.rect:=(zve hp ht).2 ⟨t.r+i,t.c+j,by omega,by omega,by omega,by omega,rfl⟩
  have h2:zaf p t.r t.c∈rms (rP p) t.rect:=(zve hp ht).2 ⟨t.r,t.c,by omega,by omega,by omega,by omega,rfl⟩
  rw [hl]at h1 h2
  simp at h1 h2
  omega
 | x::y::l=>simp
end
def thG (g:List (List Int)) (t:Pt) (level:Bool) (line:Nat):Bool:=if level then (List.range t.w).all fun j=>zh0 g true line (t.c+j) else (List.range t.h).all fun i=>zh0 g false line (t.r+i)
theorem yls {p:List Txt} (hp:zbk p=true) {t:Pt} (ht:t.In p.length (zag p).length) {k:Nat} (h1:1≤k) (h2:k<t.w):thG (gP p) t false (t.c+k)=thU (zaf p) t k:=by
 have hN:=zb6 hp
 obtain ⟨i1,i2,i3,i4⟩:=ht
 apply Bool.eq_iff_iff.2
 rw [ziq]
 simp only[thG,qF,if_false,List.all_eq_true,List.mem_range,zh0,zbx,decide_eq_true_eq]
 constructor
 ·intro h i hi
  have:=h i hi
  rwa [hN.cell (by omega) (by omega),hN.cell (by omega) (by omega)]at this
 intro h i hi
 have:=h i hi
 rwa [hN.cell (by omega) (by omega),hN.cell (by omega) (by omega)]
theorem ylr {p:List Txt} (hp:zbk p=true) {t:Pt} (ht:t.In p.length (zag p).length) {k:Nat} (h1:1≤k) (h2:k<t.h):thG (gP p) t true (t.r+k)=thL (zaf p) t k:=by
 have hN:=zb6 hp
 obtain ⟨i1,i2,i3,i4⟩:=ht
 apply Bool.eq_iff_iff.2
 rw [zio]
 simp only[thG,if_true,List.all_eq_true,List.mem_range,zh0,zbx,decide_eq_true_eq]
 constructor
 ·intro h i hi
  have:=h i hi
  rwa [hN.cell (by omega) (by omega),hN.cell (by omega) (by omega)]at this
 intro h i hi
 have:=h i hi
 rwa [hN.cell (by omega) (by omega),hN.cell (by omega) (by omega)]
def zrh (g:List (List Int)) (rs:List Rect) (lv:Bool) (x y:Rect):List PV := .bool lv::(zar g rs::x.cells)++(zar g rs::y.cells)
abbrev z2v (g:List (List Int)) (rs:List Rect) (t:Pt) (q:Bool × Nat):PV := .agg (zrh g rs q.1 (t.one q).rect (t.two q).rect)
end
theorem yel {ks:List Int} {z:Int}:ks <+: zhj ks z:=by
 unfold zhj
 split
 ·exact List.prefix_append _ _
 exact List.prefix_refl _
theorem zm3 {g:List (List Int)} {i:Nat} {s:List Int × List Rect}:∀ {j k:Nat},j≤k→(zdf g i s j).1 <+: (zdf g i s k).1
 | j,0,h=>by rw [Nat.le_zero.1 h]; exact List.prefix_refl _
 | j,k+1,h=>by
  by_cases e:j=k+1
  ·rw [e]; exact List.prefix_refl _
  exact (zm3 (k:=k) (by omega)).trans yel
theorem zt3 {g:List (List Int)} {W:Nat}:∀ {i k:Nat},i≤k→(zas g W i).1 <+: (zas g W k).1
 | i,0,h=>by rw [Nat.le_zero.1 h]; exact List.prefix_refl _
 | i,k+1,h=>by
  by_cases e:i=k+1
  ·rw [e]; exact List.prefix_refl _
  exact (zt3 (k:=k) (by omega)).trans (zm3 (j:=0) (Nat.zero_le _))
theorem yf2 {p:List Txt} {i j:Nat} (hi:i<p.length) (hj:j≤(zag p).length):(zdf (zbm p) i (zas (zbm p) (zag p).length i) j).1 <+: keys p :=
 (zm3 hj).trans (zt3 (i:=i+1) (k:=p.length) (by omega))
theorem zoq {p:List Txt} (hp:zbk p=true) {i j:Nat} (hi:i<p.length) (hj:j<(zag p).length) {m:Nat} (hm:(m:Int)<zaf p i j):∃ a b,(a<i∨(a=i∧b<j))∧b<(zag p).length∧zaf p a b=m:=by
 have hN:=zb6 hp
 have hI:=(SeInv.rows (g:=zbm p) (W:=(zag p).length) i).row j (by omega)
 have hpre:=yf2 hi (j:=j) (by omega)
 obtain ⟨ks,hks⟩:∃ ks,zdf (zbm p) i (zas (zbm p) (zag p).length i) j=ks:=⟨_,rfl⟩
 rw [hks]at hI hpre
 have hz:zaf p i j=(((keys p).idxOf (gz (zbm p) i j):Nat):Int):=by rw [← hN.cell hi hj]; exact z5q hi hj
 -- m is the place of a key that is already there
 have hml:m<ks.1.length:=by
  refine Classical.byContradiction fun h=>?_
  have hin:=(zm3 (g:=zbm p) (i:=i) (s:=zas (zbm p) (zag p).length i) (j:=j) (k:=j+1) (by omega))
  have hpre2:=yf2 hi (j:=j+1) (by omega)
  have hI2:=(SeInv.rows (g:=zbm p) (W:=(zag p).length) i).row (j+1) (by omega)
  have hmem:=hI2.mem i j ⟨hj,.inr ⟨rfl,by omega⟩⟩
  have hle:(zdf (zbm p) i (zas (zbm p) (zag p).length i) (j+1)).1.length≤ks.1.length+1:=by
   show (zhj (zdf (zbm p) i (zas (zbm p) (zag p).length i) j).1 (gz (zbm p) i j)).length≤_
   rw [hks]; unfold zhj; split <;> simp
  have h1:=List.idxOf_lt_length_of_mem hmem
  obtain ⟨t,ht⟩:=hpre2
  have h2:(keys p).idxOf (gz (zbm p) i j)=(zdf (zbm p) i (zas (zbm p) (zag p).length i) (j+1)).1.idxOf (gz (zbm p) i j):=by
   rw [← ht,List.idxOf_append,if_pos hmem]
  omega
 obtain ⟨v,hv⟩:∃ v,ks.1[m]?=some v:=⟨_,List.getElem?_eq_getElem hml⟩
 obtain ⟨b,hb⟩:∃ b,ks.2[m]?=some b:=⟨_,List.getElem?_eq_getElem (by rw [hI.len]; exact hml)⟩
 obtain ⟨a,c,⟨e1,e2,e3⟩,-⟩:=(hI.hull m v b hv hb).at_
 obtain ⟨t,ht⟩:=hpre
 have hkv:(keys p)[m]?=some v:=by rw [← ht,List.getElem?_append_left hml]; exact hv
 have:=(hN.key hkv a c).1 ⟨e1,⟨e2,.inl (by omega)⟩⟩
 exact ⟨a,c,e3,e2,this.1⟩
theorem z7x {p:List Txt} (hp:zbk p=true) {i i' j:Nat} (hii:i<i') (hi:i'<p.length) (hj:j<(zag p).length):zaf p i j≤zaf p i' j:=by
 refine Classical.byContradiction fun h=>?_
 have h0:=(zcg hp (i:=i') hi hj).1
 obtain ⟨m,hm⟩:=Int.eq_ofNat_of_zero_le h0
 obtain ⟨a,b,h1,h2,h3⟩:=zoq hp (i:=i) (j:=j) (by omega) hj (m:=m) (by omega)
 have hr:=ze3 hp (i:=a) (j:=b) (i':=i') (j':=j) i j (by omega) hi h2 hj (by rw [h3,hm]) (by omega) (by omega) (by omega) (by omega)
 omega
def cR (p:List Txt) (k:Nat):Nat:=match (rP p)[k]? with | some b=>b.col.toNat | none=>0
def dR (p:List Txt) (k:Nat):Nat:=match (rP p)[k]? with | some b=>b.wide.toNat | none=>0
def frR (p:List Txt):Nat→Nat→Nat
 | 0,_=>100
 | k+1,x=>if cR p k≤x∧x<cR p k+dR p k then k else frR p k x
theorem zlv {p:List Txt} (hp:zbk p=true) {k x:Nat} (hk:k<(rP p).length) (hx:x<(zag p).length):(cR p k≤x∧x<cR p k+dR p k)↔∃ i,i<p.length∧zaf p i x=k:=by
 have hN:=zb6 hp
 obtain ⟨b,hb,-⟩:=zaj hk
 have hR:=hN.rect hb
 unfold cR dR
 rw [hb]
 simp only
 constructor
 ·rintro ⟨h1,h2⟩
  obtain ⟨a1,b1,⟨v1,w1,g1⟩,e1⟩:=hR.al
  obtain ⟨a2,b2,⟨v2,w2,g2⟩,e2⟩:=hR.ar
  have ga:a1<p.length:=by omega
  have gb:a2<p.length:=by omega
  exact ⟨a1,ga,by have:=ze3 hp (i:=a1) (j:=b1) (i':=a2) (j':=b2) a1 x ga gb w1 w2 (by rw [v1,v2]) (by omega) (by omega) (by omega) (by omega); omega⟩
 rintro ⟨i,hi,e⟩
 have:=hR.inn i x ⟨e,hx,.inl hi⟩
 omega
theorem z8l {p:List Txt} (hp:zbk p=true):∀ {k:Nat},k≤(rP p).length→∀ {i x:Nat},i<p.length→x<(zag p).length→zaf p i x<k→(i+1<p.length→(k:Int)≤zaf p (i+1) x)→((frR p k x:Nat):Int)=zaf p i x
 | 0,_,i,x,hi,hx,h,_=>by have:=(zcg hp hi hx).1; omega
 | k+1,hk,i,x,hi,hx,h,hn=>by
  unfold frR
  by_cases hc:cR p k≤x∧x<cR p k+dR p k
  ·rw [if_pos hc]
   obtain ⟨i',hi',e⟩:=(zlv hp (by omega) hx).1 hc
   by_cases h1:i'≤i
   ·by_cases h2:i'=i
    ·rw [← h2,e]
    have:=z7x hp (i:=i') (i':=i) (by omega) hi hx; omega
   by_cases h2:i'=i+1
   ·have:=hn (by omega); rw [← h2]at this; omega
   have:=hn (by omega)
   have:=z7x hp (i:=i+1) (i':=i') (by omega) hi' hx; omega
  rw [if_neg hc]
  have hne:∀ i',i'<p.length→zaf p i' x≠k:=fun i' hi' e=>hc ((zlv hp (by omega) hx).2 ⟨i',hi',e⟩)
  have h0:=hne i hi
  exact z8l hp (by omega) hi hx (by omega) fun h1=>by have:=hn h1; have:=hne (i+1) h1; omega
theorem z3d {p:List Txt} {k:Int} {x:Nat}:∀ (n:Nat) {i:Nat},i+n+1=p.length→zaf p i x<k→∃ j,i≤j∧j<p.length∧zaf p j x<k∧(j+1<p.length→k≤zaf p (j+1) x)
 | 0,i,h,hz=>⟨i,qR _,by omega,hz,fun h2=>by omega⟩
 | n+1,i,h,hz=>by
  by_cases h1:zaf p (i+1) x<k
  ·obtain ⟨j,a,b,c,d⟩:=z3d n (i:=i+1) (by omega) h1
   exact ⟨j,by omega,b,c,d⟩
  exact ⟨i,qR _,by omega,hz,fun _=>by omega⟩
theorem z29 {p:List Txt} (hp:zbk p=true) {k i x y:Nat} {a:Nat} (hi:i<p.length) (hx:x<(zag p).length) (hy:y<(zag p).length) (hk:zaf p i x=k) (ha:zaf p i y=a) (hak:a<k):frR p k y=a:=by
 have hkn:=(zcg hp hi hx).2
 obtain ⟨j,j1,j2,j3,j4⟩:=z3d (p:=p) (k:=(k:Int)) (x:=y) (p.length - 1 - i) (i:=i) (by omega) (by omega)
 have h1:=z8l hp (k:=k) (by omega) j2 hy j3 j4
 have h0:=(zcg hp j2 hy).1
 obtain ⟨m,hm⟩:=Int.eq_ofNat_of_zero_le h0
 obtain ⟨a0,b0,q1,q2,q3⟩:=zoq hp (i:=i) (j:=x) hi hx (m:=m) (by omega)
 have:=ze3 hp (i:=a0) (j:=b0) (i':=j) (j':=y) i y (by omega) j2 q2 hy (by rw [q3,hm]) (by omega) (by omega) (by omega) (by omega)
 omega
def Tch (p:List Txt) (a b:Nat):Prop:=a≠b∧∃ i x,i<p.length∧x<(zag p).length∧((i+1<p.length∧((zaf p i x=a∧zaf p (i+1) x=b)∨(zaf p i x=b∧zaf p (i+1) x=a)))∨(x+1<(zag p).length∧((zaf p i x=a∧zaf p i (x+1)=b)∨(zaf p i x=b∧zaf p i (x+1)=a))))
theorem Tch.sym {p:List Txt} {a b:Nat} (h:Tch p a b):Tch p b a:=by
 obtain ⟨h1,i,x,h2,h3,h4⟩:=h
 refine ⟨h1.symm,i,x,h2,h3,?_⟩
 rcases h4 with ⟨h4,h5⟩ | ⟨h4,h5⟩
 ·exact .inl ⟨h4,h5.symm⟩
 exact .inr ⟨h4,h5.symm⟩
theorem ybv {p:List Txt} (hp:zbk p=true) {k a:Nat} (hk:k<(rP p).length) (hak:a<k) (h:Tch p a k):∃ x,x<6∧cR p k≤x+1∧x≤cR p k+dR p k∧frR p k x=a:=by
 have hw:(zag p).length≤6:=by
  obtain ⟨g1,g2,g3⟩:=zbo (zde hp)
  obtain ⟨row,hr,hm⟩:=zaj g1
  rw [zcf hr]; exact g3 row hm
 obtain ⟨-,i,x,hi,hx,⟨h1,⟨e1,e2⟩ | ⟨e1,e2⟩⟩ | ⟨h1,⟨e1,e2⟩ | ⟨e1,e2⟩⟩⟩:=h
 ·have hc:=(zlv hp hk hx).2 ⟨i+1,h1,e2⟩
  have:=z8l hp (k:=k) (by omega) hi hx (by omega) fun _=>by omega
  exact ⟨x,by omega,by omega,by omega,by omega⟩
 ·have:=z7x hp (i:=i) (i':=i+1) (by omega) h1 hx; omega
 ·have hc:=(zlv hp hk h1).2 ⟨i,hi,e2⟩
  exact ⟨x,by omega,by omega,by omega,z29 hp hi h1 hx e2 e1 hak⟩
 have hc:=(zlv hp hk hx).2 ⟨i,hi,e1⟩
 exact ⟨x+1,by omega,by omega,by omega,z29 hp hi hx h1 e1 e2 hak⟩
theorem yad {p:List Txt} (hp:zbk p=true):∃ f:Nat→Nat,(∀ a,f a<4)∧∀ a b,a<(rP p).length→b<(rP p).length→Tch p a b→f a≠f b:=by
 have hw:(zag p).length≤6:=by
  obtain ⟨g1,g2,g3⟩:=zbo (zde hp)
  obtain ⟨row,hr,hm⟩:=zaj g1
  rw [zcf hr]; exact g3 row hm
 have h9:(rP p).length≤9:=by
  have h1:=(zb6 hp).rooms
  have h2:zdt p≤9:=by unfold zbk at hp; simp only[qB,decide_eq_true_eq]at hp; exact hp.1.2
  omega
 refine z8j h9 (fun a b=>Tch.sym) (fun a h=>h.1 rfl) (c:=cR p) (d:=dR p) (F:=frR p) (fun _ _=>rfl) (fun _ _ _ _=>rfl) (fun k hk=>?_) fun k hk a ha h=>ybv hp hk ha h
 obtain ⟨b,hb,-⟩:=zaj hk
 have hR:=(zb6 hp).rect hb
 obtain ⟨a1,b1,⟨v1,w1,g1⟩,e1⟩:=hR.al
 obtain ⟨a2,b2,⟨v2,w2,g2⟩,e2⟩:=hR.ar
 have:=hR.inn _ _ ⟨v1,w1,g1⟩
 unfold cR dR
 rw [hb]
 simp only
 omega
section
def zck (z:Nat→Nat→Int) (t:Pt):Option CT:=tree z (t.h*t.w) t
section
variable {z:Nat→Nat→Int} {H W:Nat} {t:Pt}
theorem zgu (h:t.In H W):t.h*t.w=(t.h*t.w - 1)+1:=by have:=Nat.mul_pos h.1 h.2.1; omega
theorem zhg (h:t.In H W) (h1:zlp z t=true):zck z t=some (.leaf (z t.r t.c)):=by
 unfold zck; rw [zgu h,tree,if_pos h1]
theorem zg5 (h:t.In H W) (h1:zlp z t=false) (h2:zdc z t=none):zck z t=none:=by
 unfold zck; rw [zgu h,tree,h1,h2]; rfl
theorem zfv (h:t.In H W) (h1:zlp z t=false) {q:Bool × Nat} (h2:zdc z t=some q):zck z t=match zck z (t.one q),zck z (t.two q) with | some x,some y=>some (.node q.1 x y) | _,_=>none:=by
 obtain ⟨i1,i2,a1,a2⟩:=h.cut h2
 have:=zgu h
 rw [show zck z t=tree z ((t.h*t.w - 1)+1) t by unfold zck; rw [← this]]
 simp only[tree,h1,h2,qF,if_false]
 unfold zck
 rw [zm8 (z:=z) _ i1 (qR _) (f:=t.h*t.w - 1) (g:=(t.one q).h*(t.one q).w) (by omega) (qR _),zm8 (z:=z) _ i2 (qR _) (f:=t.h*t.w - 1) (g:=(t.two q).h*(t.two q).w) (by omega) (qR _)]
 all_goals (cases tree z ((t.one q).h*(t.one q).w) (t.one q) <;> cases tree z ((t.two q).h*(t.two q).w) (t.two q) <;> rfl)
def z66 (z:Nat→Nat→Int):Nat→Pt→Txt × Bool
 | 0,_=>([],false)
 | f+1,t=>if zlp z t then ([UInt8.ofNat (z t.r t.c+65).toNat],true) else
  match zdc z t with
  | none=>([],false)
  | some q=>((if q.1 then [104] else [118])++(z66 z f (t.one q)).1++(z66 z f (t.two q)).1,(z66 z f (t.one q)).2 && (z66 z f (t.two q)).2)
theorem zpv:∀ (n:Nat) {t:Pt} {f g:Nat},t.In H W→t.h*t.w≤n→t.h*t.w≤f→t.h*t.w≤g→z66 z f t=z66 z g t
 | 0,t,f,g,hi,hn,_,_=>by have:=Nat.mul_pos hi.1 hi.2.1; omega
 | n+1,t,f,g,hi,hn,hf,hg=>by
  have:=Nat.mul_pos hi.1 hi.2.1
  obtain ⟨f,rfl⟩:∃ f',f=f'+1:=⟨f - 1,by omega⟩
  obtain ⟨g,rfl⟩:∃ g',g=g'+1:=⟨g - 1,by omega⟩
  simp only[z66]
  split
  ·rfl
  cases hc:zdc z t with
  | none=>rfl
  | some q =>
   obtain ⟨i1,i2,a1,a2⟩:=hi.cut hc
   simp only
   rw [zpv n i1 (f:=f) (g:=g) (by omega) (by omega) (by omega),zpv n i2 (f:=f) (g:=g) (by omega) (by omega) (by omega)]
def zr8 (z:Nat→Nat→Int) (t:Pt):Txt × Bool:=z66 z (t.h*t.w) t
theorem z42 (h:t.In H W) (h1:zlp z t=true):zr8 z t=([UInt8.ofNat (z t.r t.c+65).toNat],true):=by
 unfold zr8; rw [zgu h,z66,if_pos h1]
theorem zz5 (h:t.In H W) (h1:zlp z t=false) (h2:zdc z t=none):zr8 z t=([],false):=by
 unfold zr8; rw [zgu h,z66,h1,h2]; rfl
theorem zm9 (h:t.In H W) (h1:zlp z t=false) {q:Bool × Nat} (h2:zdc z t=some q) :
  zr8 z t=((if q.1 then [104] else [118])++(zr8 z (t.one q)).1++(zr8 z (t.two q)).1,(zr8 z (t.one q)).2 && (zr8 z (t.two q)).2):=by
 obtain ⟨i1,i2,a1,a2⟩:=h.cut h2
 have:=zgu h
 rw [show zr8 z t=z66 z ((t.h*t.w - 1)+1) t by unfold zr8; rw [← this]]
 simp only[z66,h1,h2,qF,if_false]
 unfold zr8
 rw [zpv (z:=z) _ i1 (qR _) (f:=t.h*t.w - 1) (g:=(t.one q).h*(t.one q).w) (by omega) (qR _),zpv (z:=z) _ i2 (qR _) (f:=t.h*t.w - 1) (g:=(t.two q).h*(t.two q).w) (by omega) (qR _)]
theorem z2i {q:Bool × Nat} (h2:zdc z t=some q):(t.one q).h*(t.one q).w+(t.two q).h*(t.two q).w=t.h*t.w:=by
 obtain ⟨h1,h3⟩:=zeu h2
 obtain ⟨lv,k⟩:=q
 cases lv with
 | true =>
  simp only[if_true]at h3
  simp only[Pt.one,Pt.two,if_true]
  rw [← Nat.add_mul,show k+(t.h - k)=t.h by omega]
 | false =>
  simp only[qF,if_false]at h3
  simp only[Pt.one,Pt.two,qF,if_false]
  rw [← Nat.mul_add,show k+(t.w - k)=t.w by omega]
theorem zhh:∀ (n:Nat) {t:Pt},t.In H W→t.h*t.w≤n→(zr8 z t).1.length+1≤2*(t.h*t.w)∧(zr8 z t).2=(zck z t).isSome
 | 0,t,hi,hn=>by have:=Nat.mul_pos hi.1 hi.2.1; omega
 | n+1,t,hi,hn=>by
  have:=Nat.mul_pos hi.1 hi.2.1
  cases h1:zlp z t with
  | true=>rw [z42 hi h1,zhg hi h1]; simp; omega
  | false =>
   cases hc:zdc z t with
   | none=>rw [zz5 hi h1 hc,zg5 hi h1 hc]; simp; omega
   | some q =>
    obtain ⟨i1,i2,a1,a2⟩:=hi.cut hc
    have ha:=z2i hc
    obtain ⟨b1,b2⟩:=zhh n i1 (by omega)
    obtain ⟨c1,c2⟩:=zhh n i2 (by omega)
    have p1:=Nat.mul_pos i1.1 i1.2.1
    rw [zm9 hi h1 hc,zfv hi h1 hc]
    constructor
    ·simp only[List.length_append]
     have:(if q.1 then [(104:UInt8)] else [118]).length=1:=by split <;> rfl
     omega
    rw [b2,c2]
    cases zck z (t.one q) <;> cases zck z (t.two q) <;> rfl
def CT.leaves:CT→List Int
 | .leaf a=>[a]
 | .node _ x y=>x.leaves++y.leaves
theorem CT.pos (x:CT):1≤x.leaves.length:=by
 induction x with
 | leaf a=>simp [CT.leaves]
 | node lv x y h1 h2=>simp [CT.leaves]; omega
theorem zga (hz:yco z H W):∀ (n:Nat) {t:Pt} {x:CT},Whole z H W t→t.h*t.w≤n→zck z t=some x →
  x.leaves.Nodup∧(∀ v,v∈x.leaves↔∃ a c,t.r≤a∧a<t.r+t.h∧t.c≤c∧c<t.c+t.w∧z a c=v)∧x.leaves.length≤t.h*t.w
 | 0,t,x,hw,hn,_=>by have:=Nat.mul_pos hw.inn.1 hw.inn.2.1; omega
 | n+1,t,x,hw,hn,hx=>by
  have hi:=hw.inn
  have hpos:=Nat.mul_pos hi.1 hi.2.1
  cases h1:zlp z t with
  | true =>
   rw [zhg hi h1]at hx
   cases hx
   have hall:=zfp.1 h1
   refine ⟨by simp [CT.leaves],fun v=>?_,by simp [CT.leaves]; omega⟩
   simp only[CT.leaves,List.mem_singleton]
   constructor
   ·rintro rfl; exact ⟨t.r,t.c,by omega,by have:=hi.1; omega,by omega,by have:=hi.2.1; omega,rfl⟩
   rintro ⟨a,c,e1,e2,e3,e4,rfl⟩
   have:=hall (a - t.r) (c - t.c) (by omega) (by omega)
   rwa [show t.r+(a - t.r)=a by omega,show t.c+(c - t.c)=c by omega]at this
  | false =>
   cases hc:zdc z t with
   | none=>rw [zg5 hi h1 hc]at hx; cases hx
   | some q =>
    obtain ⟨i1,i2,a1,a2⟩:=hi.cut hc
    obtain ⟨w1,w2⟩:=hw.cut hz hc
    have ha:=z2i hc
    rw [zfv hi h1 hc]at hx
    cases hx1:zck z (t.one q) with
    | none=>rw [hx1]at hx; cases hx
    | some x1 =>
     cases hx2:zck z (t.two q) with
     | none=>rw [hx1,hx2]at hx; cases hx
     | some x2 =>
      rw [hx1,hx2]at hx
      cases hx
      obtain ⟨b1,b2,b3⟩:=zga hz n w1 (by omega) hx1
      obtain ⟨c1,c2,c3⟩:=zga hz n w2 (by omega) hx2
      obtain ⟨k1,k2⟩:=zeu hc
      refine ⟨?_,fun v=>?_,by simp [CT.leaves]; omega⟩
      ·simp only[CT.leaves,List.nodup_append]
       refine ⟨b1,c1,fun v hv u hu e=>?_⟩
       subst e
       obtain ⟨a,c,e1,e2,e3,e4,e5⟩:=(b2 v).1 hv
       obtain ⟨a',c',f1,f2,f3,f4,f5⟩:=(c2 v).1 hu
       have hin1:=i1; have hin2:=i2
       unfold Pt.In at hin1 hin2
       have:=w1.all a c a' c' (by omega) (by omega) (by omega) (by omega) (e5.trans f5.symm) e1 e2 e3 e4
       obtain ⟨lv,k⟩:=q
       cases lv <;> simp only[Pt.one,Pt.two,qF,if_false,if_true] at * <;> omega
      simp only[CT.leaves,List.mem_append,b2,c2]
      obtain ⟨lv,k⟩:=q
      cases lv with
      | true =>
       simp only[Pt.one,Pt.two,if_true] at *
       constructor
       ·rintro (⟨a,c,e1,e2,e3,e4,e5⟩ | ⟨a,c,e1,e2,e3,e4,e5⟩)
        ·exact ⟨a,c,e1,by omega,e3,e4,e5⟩
        exact ⟨a,c,by omega,by omega,e3,e4,e5⟩
       rintro ⟨a,c,e1,e2,e3,e4,e5⟩
       rcases Nat.lt_or_ge a (t.r+k) with h | h
       ·exact .inl ⟨a,c,e1,h,e3,e4,e5⟩
       exact .inr ⟨a,c,h,by omega,e3,e4,e5⟩
      | false =>
       simp only[Pt.one,Pt.two,qF,if_false] at *
       constructor
       ·rintro (⟨a,c,e1,e2,e3,e4,e5⟩ | ⟨a,c,e1,e2,e3,e4,e5⟩)
        ·exact ⟨a,c,e1,e2,e3,by omega,e5⟩
        exact ⟨a,c,e1,e2,by omega,by omega,e5⟩
       rintro ⟨a,c,e1,e2,e3,e4,e5⟩
       rcases Nat.lt_or_ge c (t.c+k) with h | h
       ·exact .inl ⟨a,c,e1,e2,e3,h,e5⟩
       exact .inr ⟨a,c,e1,e2,h,by omega,e5⟩
end
theorem zvh:∀ {n:Nat} {l:List Int},l.Nodup→(∀ x∈l,0≤x∧x<n)→l.length≤n
 | 0,l,_,hb=>by
  cases l with
  | nil=>simp
  | cons a l=>have:=hb a (by simp); omega
 | n+1,l,h,hb=>by
  by_cases hm:(n:Int)∈l
  ·obtain ⟨l1,l2,rfl⟩:=List.append_of_mem hm
   have hnd:=List.nodup_append.1 h
   have:=zvh (n:=n) (l:=l1++l2) (h.sublist (by simp)) fun x hx=>by
    have h1:=hb x (by rcases List.mem_append.1 hx with h9 | h9 <;> simp [h9])
    have h2:x≠n:=by
     rintro rfl
     rcases List.mem_append.1 hx with h9 | h9
     ·exact hnd.2.2 _ h9 _ (by simp) rfl
     exact (List.nodup_cons.1 hnd.2.1).1 h9
    omega
   simp at this ⊢; omega
  have:=zvh (n:=n) h fun x hx=>by
   have h1:=hb x hx
   have h2:x≠n:=by rintro rfl; exact hm hx
   omega
  omega
end
section
def zjh (ah:Nat→Nat) (n:Nat):Nat→List Int
 | 0=>List.replicate n 0
 | a+1=>(zjh ah n a).set (ah a) (a:Int)
theorem zj5 {ah:Nat→Nat} {n:Nat}:∀ k,(zjh ah n k).length=n
 | 0=>by simp [zjh]
 | k+1=>by simp [zjh,zj5 k]
theorem zrl {ah:Nat→Nat} {n:Nat} (hn:∀ a,a<n→ah a<n) (hi:∀ a b,a<n→b<n→ah a=ah b→a=b):∀ k,k≤n→∀ a,a<k→(zjh ah n k)[ah a]?=some (a:Int)
 | 0,_,a,h=>by omega
 | k+1,hk,a,h=>by
  unfold zjh
  rw [List.getElem?_set,zj5]
  by_cases e:a=k
  ·subst e; rw [if_pos rfl,if_pos (hn a (by omega))]
  rw [if_neg fun q=>e (hi a k (by omega) (by omega) q.symm)]
  exact zrl hn hi k (by omega) a (by omega)
def rooms (n:Nat):List Int:=(List.range n).map fun i:Nat=>(i:Int)
theorem zrs {n:Nat}:(rooms n).length=n:=by simp [rooms]
theorem zq4 {n:Nat} {x:Int}:x∈rooms n↔0≤x∧x<n:=by
 unfold rooms
 rw [List.mem_map]
 constructor
 ·rintro ⟨i,hi,rfl⟩; simp at hi; omega
 rintro ⟨h1,h2⟩; exact ⟨x.toNat,by simp; omega,by omega⟩
theorem zv1 {n i:Nat} (h:i<n):(rooms n)[i]?=some (i:Int):=by simp [rooms,h]
theorem z6k {n:Nat}:rooms (n+1)=rooms n++[(n:Int)]:=by simp [rooms,qS]
theorem z6q {z:List Int} {g:Int→Int} (hs:(z.map g).Pairwise (· ≤ ·)) (hd:∀ (i j:Nat) x y,z[i]?=some x→z[j]?=some y→g x=g y→i=j) {i:Nat} {x:Int} (hx:z[i]?=some x):z.countP (fun y=>decide (g y<g x))=i:=by
 have hil:=zb5 hx
 have hp:=List.pairwise_iff_getElem.1 hs
 have lt:∀ (a b:Nat) u v,z[a]?=some u→z[b]?=some v→a<b→g u<g v:=by
  intro a b u v hu hv hab
  have h1:=zb5 hu
  have h2:=zb5 hv
  have h3:=hp a b (by simpa using h1) (by simpa using h2) hab
  simp only[List.getElem_map]at h3
  rw [List.getElem?_eq_getElem h1]at hu
  rw [List.getElem?_eq_getElem h2]at hv
  cases hu; cases hv
  rcases Int.lt_or_le (g z[a]) (g z[b]) with q | q
  ·exact q
  have e:=hd a b _ _ (List.getElem?_eq_getElem h1) (List.getElem?_eq_getElem h2) (by omega)
  omega
 have e:z=z.take i++z.drop i:=(List.take_append_drop i z).symm
 have c1:(z.take i).countP (fun y=>decide (g y<g x))=i:=by
  rw [List.countP_eq_length.2]
  ·rw [List.length_take]; omega
  intro y hy
  obtain ⟨j,hj⟩:=List.mem_iff_getElem?.1 hy
  rw [List.getElem?_take]at hj
  split at hj
  ·exact decide_eq_true (lt j i y x hj hx (by assumption))
  cases hj
 have c2:(z.drop i).countP (fun y=>decide (g y<g x))=0:=by
  rw [List.countP_eq_zero]
  intro y hy
  obtain ⟨j,hj⟩:=List.mem_iff_getElem?.1 hy
  rw [List.getElem?_drop]at hj
  by_cases q:j=0
  ·subst q; rw [Nat.add_zero,hx]at hj; cases hj; simp
  have:=lt i (i+j) x y hx hj (by omega)
  simp; omega
 rw [e,List.countP_append,c1,c2,Nat.add_zero]
theorem zoi {f:Int→Bool}:∀ n,(rooms n).countP f=(List.range n).countP fun a:Nat=>f (a:Int)
 | 0=>rfl
 | n+1=>by rw [z6k,qS,List.countP_append,List.countP_append,zoi n]; rfl
theorem z1t {n:Nat}:∀ (i j:Nat) x,(rooms n)[i]?=some x→(rooms n)[j]?=some x→i=j:=by
 intro i j x hi hj
 have h1:=zb5 hi
 have h2:=zb5 hj
 rw [zrs]at h1 h2
 rw [zv1 h1]at hi
 rw [zv1 h2]at hj
 cases hi; cases hj; rfl
theorem zq7 {z:List Int} (h:z.Nodup) {i j:Nat} (hi:i<z.length) (hj:j<z.length) (e:z[i]=z[j]):i=j:=by
 unfold List.Nodup at h
 rw [List.pairwise_iff_getElem]at h
 rcases Nat.lt_trichotomy i j with q | q | q
 ·exact absurd e (h i j hi hj q)
 ·exact q
 exact absurd e.symm (h j i hj hi q)
theorem zq8 (n:Nat):(rooms n).Nodup:=by
 unfold List.Nodup
 rw [List.pairwise_iff_getElem]
 intro i j hi hj hij e
 have:=z1t i j _ (List.getElem?_eq_getElem hi) (e ▸ List.getElem?_eq_getElem hj)
 omega
section
variable {n:Nat} {f:Nat→Nat}
theorem zwp (hf:∀ a b,a<n→b<n→f a=f b→a=b) {a b:Nat} (ha:a<n) (hb:b<n) (h:ahead n f a=ahead n f b):a=b:=by
 rcases Nat.lt_trichotomy (f a) (f b) with q | q | q
 ·have:=zo9 (n:=n) ha q; omega
 ·exact hf a b ha hb q
 have:=zo9 (n:=n) hb q; omega
theorem z6r (hf:∀ a b,a<n→b<n→f a=f b→a=b) {z:List Int} (hp:z.Perm (rooms n)) (hs:(z.map fun x=>((f x.toNat:Nat):Int)).Pairwise (· ≤ ·)):z=zjh (ahead n f) n n:=by
 have hl:=hp.length_eq
 rw [zrs]at hl
 have hm:∀ x∈z,0≤x∧x<n:=fun x hx=>zq4.1 (hp.mem_iff.1 hx)
 have hd:∀ (i j:Nat) x y,z[i]?=some x→z[j]?=some y→((f x.toNat:Nat):Int)=((f y.toNat:Nat):Int)→i=j:=by
  intro i j x y hx hy e
  have h1:=hm x (List.mem_of_getElem? hx)
  have h2:=hm y (List.mem_of_getElem? hy)
  have e2:=hf x.toNat y.toNat (by omega) (by omega) (by omega)
  have e3:x=y:=by omega
  subst e3
  have hnd:z.Nodup:=hp.nodup_iff.2 (zq8 n)
  have hi:=zb5 hx
  have hj:=zb5 hy
  rw [List.getElem?_eq_getElem hi]at hx
  rw [List.getElem?_eq_getElem hj]at hy
  exact zq7 hnd hi hj ((Option.some.inj hx).trans (Option.some.inj hy).symm)
 apply List.ext_getElem?
 intro i
 by_cases hi:i<n
 ·obtain ⟨x,hx,hxm⟩:=zaj (show i<z.length by omega)
  have h1:=hm x hxm
  have e:=z6q hs hd hx
  rw [hp.countP_eq,zoi]at e
  have e2:ahead n f x.toNat=i:=by
   unfold ahead
   rw [← e]
   apply List.countP_congr
   intro a ha
   simp
  have:=zrl (fun a ha=>z7b (rk:=f) ha) (fun a b ha hb h=>zwp hf ha hb h) n (qR _) x.toNat (by omega)
  rw [e2]at this
  rw [hx,this,show ((x.toNat:Nat):Int)=x by omega]
 rw [List.getElem?_eq_none (by omega),List.getElem?_eq_none (by rw [zj5]; omega)]
end
def bf1 (p:List Txt) (a b:Nat):Bool:=zcv (lfM p) a b || zcv (abM p) a b
def bf2 (p:List Txt) (a b:Nat):Bool:=zcv (lfM p) a b || zcv (abM p) b a
def bfK (p:List Txt) (below:Bool) (a b:Nat):Bool:=if below then bf2 p a b else bf1 p a b
def ahK (p:List Txt) (below:Bool) (a:Nat):Nat:=(List.range (rP p).length).countP fun b=>bfK p below b a
theorem znh {p:List Txt} (hp:zcd p=true) (below:Bool):∃ f:Nat→Nat,(∀ a b,a<(rP p).length→b<(rP p).length→(bfK p below a b=true↔f a<f b))∧∀ a b,a<(rP p).length→b<(rP p).length→f a=f b→a=b:=by
 obtain ⟨f,g,hfg⟩:=zk7 hp
 have tot:=fun a b ha hb hne=>z53 (a:=a) (b:=b) hp ha hb hne
 cases below with
 | false =>
  have h1:∀ a b,a<(rP p).length→b<(rP p).length→bfK p false a b=true→f a<f b:=by
   intro a b ha hb h
   simp only[bfK,bf1,qF,if_false,Bool.or_eq_true]at h
   rcases h with h | h
   ·exact ((hfg a b ha hb).1 h).1
   exact ((hfg a b ha hb).2 h).1
  have h2:∀ a b,a<(rP p).length→b<(rP p).length→a≠b→bfK p false a b=true∨bfK p false b a=true:=by
   intro a b ha hb hne
   simp only[bfK,bf1,qF,if_false,Bool.or_eq_true]
   rcases tot a b ha hb hne with h | h | h | h
   ·exact .inl (.inl h)
   ·exact .inr (.inl h)
   ·exact .inl (.inr h)
   exact .inr (.inr h)
  have h3:∀ a b,a<(rP p).length→b<(rP p).length→f a=f b→a=b:=by
   intro a b ha hb e
   refine Classical.byContradiction fun hne=>?_
   rcases h2 a b ha hb hne with h | h
   ·have:=h1 a b ha hb h; omega
   have:=h1 b a hb ha h; omega
  refine ⟨f,fun a b ha hb=>⟨h1 a b ha hb,fun h=>?_⟩,h3⟩
  rcases h2 a b ha hb (by rintro rfl; omega) with k | k
  ·exact k
  have:=h1 b a hb ha k; omega
 | true =>
  have h1:∀ a b,a<(rP p).length→b<(rP p).length→bfK p true a b=true→g a<g b:=by
   intro a b ha hb h
   simp only[bfK,bf2,if_true,Bool.or_eq_true]at h
   rcases h with h | h
   ·exact ((hfg a b ha hb).1 h).2
   exact ((hfg b a hb ha).2 h).2
  have h2:∀ a b,a<(rP p).length→b<(rP p).length→a≠b→bfK p true a b=true∨bfK p true b a=true:=by
   intro a b ha hb hne
   simp only[bfK,bf2,if_true,Bool.or_eq_true]
   rcases tot a b ha hb hne with h | h | h | h
   ·exact .inl (.inl h)
   ·exact .inr (.inl h)
   ·exact .inr (.inr h)
   exact .inl (.inr h)
  have h3:∀ a b,a<(rP p).length→b<(rP p).length→g a=g b→a=b:=by
   intro a b ha hb e
   refine Classical.byContradiction fun hne=>?_
   rcases h2 a b ha hb hne with h | h
   ·have:=h1 a b ha hb h; omega
   have:=h1 b a hb ha h; omega
  refine ⟨g,fun a b ha hb=>⟨h1 a b ha hb,fun h=>?_⟩,h3⟩
  rcases h2 a b ha hb (by rintro rfl; omega) with k | k
  ·exact k
  have:=h1 b a hb ha k; omega
theorem zsp {p:List Txt} {below:Bool} {f:Nat→Nat} (hf:∀ a b,a<(rP p).length→b<(rP p).length→(bfK p below a b=true↔f a<f b)) {a:Nat} (ha:a<(rP p).length):ahK p below a=ahead (rP p).length f a:=by
 unfold ahK ahead
 apply List.countP_congr
 intro b hb
 rw [hf b a (by simpa using hb) ha]; simp
theorem zo1 {f g:Nat→Nat} {n:Nat}:∀ k,(∀ a,a<k→f a=g a)→zjh f n k=zjh g n k
 | 0,_=>rfl
 | k+1,h=>by unfold zjh; rw [zo1 k fun a ha=>h a (by omega),h k (by omega)]
def srt (p:List Txt) (below:Bool):List Int:=zjh (ahK p below) (rP p).length (rP p).length
theorem zn7 {p:List Txt} {below:Bool}:(srt p below).length=(rP p).length:=zj5 _
theorem ybn {p:List Txt} {below:Bool} {f:Nat→Nat} (hf:∀ a b,a<(rP p).length→b<(rP p).length→(bfK p below a b=true↔f a<f b)) (hi:∀ a b,a<(rP p).length→b<(rP p).length→f a=f b→a=b)
  {z:List Int} (hz:z.Perm (rooms (rP p).length)) (hs:(z.map fun x=>((f x.toNat:Nat):Int)).Pairwise (· ≤ ·)):z=srt p below:=by
 rw [z6r hi hz hs]
 exact (zo1 _ fun a ha=>zsp hf ha).symm
end
section
section
variable {p:List Txt} {below:Bool}
theorem z4u (hp:zcd p=true) (below:Bool):(srt p below).Perm (rooms (rP p).length):=by
 obtain ⟨f,hf,hi⟩:=znh hp below
 have h1:((rooms (rP p).length).mergeSort fun x y=>decide (f x.toNat≤f y.toNat)).Perm (rooms (rP p).length):=List.mergeSort_perm _ _
 have h2:(((rooms (rP p).length).mergeSort fun x y=>decide (f x.toNat≤f y.toNat)).map fun x=>((f x.toNat:Nat):Int)).Pairwise (· ≤ ·):=by
  rw [List.pairwise_map]
  refine (List.pairwise_mergeSort (fun a b c h k=>?_) (fun a b=>?_) _).imp fun {a b} h=>?_
  ·simp only[decide_eq_true_eq]at h k ⊢; omega
  ·simp only[Bool.or_eq_true,decide_eq_true_eq]; omega
  simp only[decide_eq_true_eq]at h; omega
 rw [← ybn hf hi h1 h2]
 exact h1
theorem yiw (hp:zcd p=true) {x:Int}:x∈srt p below↔0≤x∧x<(rP p).length:=by
 rw [(z4u hp below).mem_iff,zq4]
theorem zzr (hp:zcd p=true):(srt p below).Nodup:=(z4u hp below).nodup_iff.2 (zq8 _)
theorem zp2 (hp:zcd p=true) {a:Nat} (ha:a<(rP p).length):ahK p below a<(rP p).length:=by
 obtain ⟨f,hf,hi⟩:=znh hp below
 rw [zsp hf ha]; exact z7b ha
theorem znf (hp:zcd p=true) {a b:Nat} (ha:a<(rP p).length) (hb:b<(rP p).length):bfK p below a b=true↔ahK p below a<ahK p below b:=by
 obtain ⟨f,hf,hi⟩:=znh hp below
 rw [zsp hf ha,zsp hf hb,hf a b ha hb]
 constructor
 ·intro h; exact zo9 ha h
 intro h
 refine Classical.byContradiction fun k=>?_
 rcases Nat.lt_trichotomy (f a) (f b) with q | q | q
 ·exact k q
 ·have:=hi a b ha hb q; subst this; omega
 have:=zo9 (n:=(rP p).length) hb q; omega
theorem z0c (hp:zcd p=true) {a b:Nat} (ha:a<(rP p).length) (hb:b<(rP p).length) (h:ahK p below a=ahK p below b):a=b:=by
 obtain ⟨f,hf,hi⟩:=znh hp below
 rw [zsp hf ha,zsp hf hb]at h
 exact zwp hi ha hb h
theorem z4t (hp:zcd p=true) {a:Nat} (ha:a<(rP p).length):(srt p below)[ahK p below a]?=some (a:Int) :=
 zrl (fun a ha=>zp2 hp ha) (fun a b ha hb h=>z0c hp ha hb h) _ (qR _) a ha
theorem z16 (hp:zcd p=true) {i:Nat} (hi:i<(rP p).length):∃ a,a<(rP p).length∧ahK p below a=i∧(srt p below)[i]?=some (a:Int):=by
 obtain ⟨x,hx,hm⟩:=zaj (show i<(srt p below).length by rw [zn7]; exact hi)
 obtain ⟨h1,h2⟩:=(yiw hp).1 hm
 refine ⟨x.toNat,by omega,?_,by rw [hx]; congr 1; omega⟩
 have h3:=z4t (below:=below) hp (a:=x.toNat) (by omega)
 have e:((x.toNat:Nat):Int)=x:=by omega
 rw [e]at h3
 have k1:=zb5 h3
 have k2:=zb5 hx
 rw [List.getElem?_eq_getElem k1]at h3
 rw [List.getElem?_eq_getElem k2]at hx
 exact zq7 (zzr hp) k1 k2 ((Option.some.inj h3).trans (Option.some.inj hx).symm)
def zf2 (p:List Txt):List Int:=(srt p true).map fun x=>((ahK p false x.toNat:Nat):Int)
theorem zgj:(zf2 p).length=(rP p).length:=by simp [zf2,zn7]
theorem zvn (hp:zcd p=true) {i a:Nat} (h:(srt p true)[i]?=some (a:Int)):(zf2 p)[i]?=some ((ahK p false a:Nat):Int):=by
 unfold zf2
 rw [List.getElem?_map,h]
 simp
end
end
section
section
variable {M:List (List Bool)} {ms:List Nat} {ws:List Int} {n:Nat} {rk:Nat→Nat}
def revM (n:Nat) (M:List (List Bool)):List (List Bool):=(List.range n).map fun a=>(List.range n).map fun b=>zcv M b a
def bhB (sets:List Nat) (needs:List Int) (a:Nat) (out:List Int) (b:Nat):List Int :=
 if zum sets a b then out.set a (max (zcw out a) (zcw out b+zcw needs b)) else out
def bhA (sets:List Nat) (needs:List Int) (out:List Int) (a:Nat):List Int:=(List.range needs.length).foldl (bhB sets needs a) out
def bhN (sets:List Nat) (needs:List Int) (out:List Int) (_:Nat):List Int:=(List.range needs.length).foldl (bhA sets needs) out
def behind (sets:List Nat) (needs:List Int):List Int:=(List.range needs.length).foldl (bhN sets needs) (List.replicate needs.length 0)
end
end
def domB (x:Int × Int) (w h:Int):Bool:=decide (x.1≤w) && decide (x.2≤h)
def yii (w h:Int) (s:List (Int × Int) × Bool) (x:Int × Int):List (Int × Int) × Bool :=
 if w≤x.1∧h≤x.2 then s else if s.2=false∧w<x.1 then (s.1++[(w,h),x],true) else (s.1++[x],s.2)
def ylq (l:List (Int × Int)) (w h:Int):List (Int × Int) × Bool:=l.foldl (yii w h) ([],false)
def put (l:List (Int × Int)) (w h:Int):List (Int × Int):=if l.any (fun x=>domB x w h) then l else if (ylq l w h).2 then (ylq l w h).1 else (ylq l w h).1++[(w,h)]
section
theorem zux {l:List Int}:∀ {m:Int},l.foldl max m=m∨l.foldl max m∈l:=by
 induction l with
 | nil=>intro m; simp
 | cons a l ih =>
  intro m
  simp only[List.foldl_cons]
  rcases ih (m:=max m a) with h | h
  ·rw [h]
   by_cases q:a≤m
   ·left; omega
   right; rw [show max m a=a by omega]; simp
  right; exact List.mem_cons_of_mem _ h
theorem z3h {l:List Int} (h:l≠[]):yjd l∈l:=by
 cases l with
 | nil=>exact absurd rfl h
 | cons a l =>
  show l.foldl max a∈a::l
  rcases zux (l:=l) (m:=a) with h | h
  ·rw [h]; simp
  exact List.mem_cons_of_mem _ h
theorem ya8 {f:Nat→Bool}:∀ {n:Nat},(∀ r s,r<n→s<n→f r=true→f s=true→r=s)→sN n (fun r=>b1 (f r))≤1:=by
 intro n
 induction n with
 | zero=>intro _; simp [sN]
 | succ n ih =>
  intro h
  show sN n (fun r=>b1 (f r))+b1 (f n)≤1
  have:=ih fun r s hr hs=>h r s (by omega) (by omega)
  cases hf:f n with
  | false=>simp [b1]; exact this
  | true =>
   have e:sN n (fun r=>b1 (f r))=sN n (fun _=>0):=zez fun i hi=>by
    cases hi2:f i with
    | false=>rfl
    | true=>have:=h i n (by omega) (by omega) hi2 hf; omega
   rw [e,zrw]; simp [b1]
section
variable {M:List (List Bool)} {ws:List Int} {n:Nat} {rk:Nat→Nat}
theorem yjr (b:Nat):0≤beg M ws n b:=z8v n
theorem yjq {a b:Nat} (ha:a<n) (h:zcv M a b=true):HB M ws n a≤beg M ws n b:=yfr ha h
end
end

section
variable {M:List (List Bool)} {ms:List Nat} {n:Nat} {rk:Nat→Nat} {ws out:List Int}
abbrev ones (n:Nat):List Int:=List.replicate n 1
def RB (M:List (List Bool)) (n b:Nat):Int:=HB (revM n M) (ones n) n b
def yk7 (M:List (List Bool)) (n:Nat) (out:List Int):Prop:=out.length=n∧∀ a,a<n→0≤zcw out a∧zcw out a≤RB M n a
theorem yk7.set (h:yk7 M n out) {a:Nat} {v:Int} (ha:a<n) (h0:0≤v) (h1:v≤RB M n a):yk7 M n (out.set a v):=by
 refine ⟨by simp [h.1],fun y hy=>?_⟩
 rw [ydj (by rw [h.1]; exact ha)]
 split
 ·rename_i e; subst e; exact ⟨h0,h1⟩
 exact h.2 y hy
end
section
variable {p:List Txt}
def zhu (p:List Txt) (i:Nat):Nat:=((srt p true)[i]?.getD 0).toNat
theorem zen (hp:zcd p=true) {i:Nat} (hi:i<(rP p).length):zhu p i<(rP p).length∧ahK p true (zhu p i)=i∧(srt p true)[i]?=some (zhu p i:Int):=by
 obtain ⟨a,h1,h2,h3⟩:=z16 (below:=true) hp hi
 have e:zhu p i=a:=by unfold zhu; rw [h3]; simp
 rw [e]; exact ⟨h1,h2,h3⟩
theorem zim (hp:zcd p=true) {a:Nat} (ha:a<(rP p).length):zhu p (ahK p true a)=a:=by
 have h:=z4t (below:=true) hp ha
 unfold zhu; rw [h]; simp
def xI (p:List Txt) (i:Nat):Int:=((ahK p false (zhu p i):Nat):Int)
theorem yfa (hp:zcd p=true) {i:Nat} (hi:i<(rP p).length):(zf2 p)[i]?=some (xI p i):=zvn hp (zen hp hi).2.2
theorem ycl (hp:zcd p=true) {k i:Nat} (hk:k<i) (hi:i<(rP p).length) :
  (xI p k<xI p i→zcv (lfM p) (zhu p k) (zhu p i)=true)∧(¬ xI p k<xI p i→zcv (abM p) (zhu p i) (zhu p k)=true):=by
 obtain ⟨a1,a2,-⟩:=zen hp hi
 obtain ⟨b1,b2,-⟩:=zen hp (show k<(rP p).length by omega)
 have h2:=(znf (below:=true) hp b1 a1).2 (by omega)
 have h1:=znf (below:=false) hp b1 a1
 simp only[bfK,bf1,bf2,if_true,qF,if_false,Bool.or_eq_true]at h1 h2
 unfold xI
 constructor
 ·intro h
  have h3:=h1.2 (by omega)
  rcases h2 with h2 | h2
  ·exact h2
  rcases h3 with h3 | h3
  ·exact h3
  exact absurd h3 (Ab.only hp a1 b1 h2).1
 intro h
 rcases h2 with h2 | h2
 ·exact absurd (h1.1 (.inl h2)) (by omega)
 exact h2
theorem zq1 (hp:zcd p=true) {a i:Nat} (ha:a<(rP p).length) (hi:i<(rP p).length) (h:zcv (lfM p) a (zhu p i)=true):ahK p true a<i∧xI p (ahK p true a)<xI p i:=by
 obtain ⟨a1,a2,-⟩:=zen hp hi
 have h2:=(znf (below:=true) hp ha a1).1 (by simp only[bfK,bf2,if_true,Bool.or_eq_true]; exact .inl h)
 have h1:=(znf (below:=false) hp ha a1).1 (by simp only[bfK,bf1,qF,if_false,Bool.or_eq_true]; exact .inl h)
 unfold xI
 rw [zim hp ha]
 omega
theorem zp0 (hp:zcd p=true) {b i:Nat} (hb:b<(rP p).length) (hi:i<(rP p).length) (h:zcv (abM p) (zhu p i) b=true):ahK p true b<i∧¬ xI p (ahK p true b)<xI p i:=by
 obtain ⟨a1,a2,-⟩:=zen hp hi
 have h2:=(znf (below:=true) hp hb a1).1 (by simp only[bfK,bf2,if_true,Bool.or_eq_true]; exact .inr h)
 have h1:=(znf (below:=false) hp a1 hb).1 (by simp only[bfK,bf1,qF,if_false,Bool.or_eq_true]; exact .inr h)
 unfold xI
 rw [zim hp hb]
 omega
def stp (f:Nat→Int) (i n:Nat):List Int:=(List.range n).map fun k=>if k<i then f k else 0
theorem z17 {f:Nat→Int} {i n:Nat}:(stp f i n).length=n:=by simp [stp]
theorem z4v {f:Nat→Int} {n:Nat}:stp f 0 n=List.replicate n 0:=by
 apply List.ext_getElem?
 intro j
 by_cases h:j<n <;> simp [stp,h]
theorem ybp {f:Nat→Int} {i n:Nat}:(stp f i n).set i (f i)=stp f (i+1) n:=by
 apply List.ext_getElem?
 intro j
 rw [List.getElem?_set,z17]
 by_cases e:i=j
 ·subst e
  by_cases h:i<n <;> simp [stp,h]
 rw [if_neg e]
 by_cases h:j<n
 ·simp only[stp,List.getElem?_map,List.getElem?_range h,qO]
  congr 1
  by_cases h2:j<i
  ·rw [if_pos h2,if_pos (by omega)]
  rw [if_neg h2,if_neg (by omega)]
 simp [stp,h]
end
theorem z00 {S:Store} {lo k:Nat} {g:FuncId} {cap:List PV} (h:cap.mapM (frz S lo k)=some cap):frz S lo (k+1) (.fn g cap)=some (.fn g cap):=by
 show (cap.mapM (frz S lo k)).map (PV.fn g)=_
 rw [h]; rfl
def bgT (c:Nat→Nat→Int) (nw i:Nat):List (List Int):=(List.range i).map fun r=>(List.range nw).map (c r)
theorem zuk {c:Nat→Nat→Int} {nw i:Nat}:(bgT c nw i).length=i:=by simp [bgT]
theorem ycw {c:Nat→Nat→Int} {nw i:Nat}:bgT c nw (i+1)=bgT c nw i++[(List.range nw).map (c i)]:=by simp [bgT,qS]
theorem ybo {f:Nat→Int} {n:Nat}:stp f n n=(List.range n).map f:=by
 unfold stp
 refine List.map_congr_left fun k hk=>?_
 rw [if_pos (List.mem_range.1 hk)]
theorem yhg {S:Store} {lo f:Nat} {d:List (List Int)} {cur cur2:PV} {m:Nat} (h:frz S lo (f+1) cur=some cur2):(gcs d cur m).mapM (frz S lo (f+1))=some (gcs d cur2 m):=by
 unfold gcs
 rw [qP,zb7 (l:=d.map eInts) (fun x hx=>by obtain ⟨a,_,rfl⟩:=List.mem_map.1 hx; rfl),qC,h,zb7 (l:=List.replicate m PV.nils) (fun x hx=>by obtain rfl:=List.eq_of_mem_replicate hx; rfl)]
 rfl
theorem zqp {S:Store} {lo k m:Nat}:(List.replicate m PV.nils).mapM (frz S lo (k+1))=some (List.replicate m PV.nils):=zb7 fun x hx=>by obtain rfl:=List.eq_of_mem_replicate hx; rfl
theorem ydh {v0 tk tk2 m et n:Nat} {d:List (List Int)} {l:List Int} (hn:l.length=n):Store.frz ⟨[.arr v0 et 1 (gcs d (.loc 1 tk 0 n) m),.arr tk 3 1 (l.map (.int .i64))],tk2⟩ 1=some ⟨[.arr v0 et 1 (gc0 (d++[l]) m)],tk2⟩:=by
 subst hn
 have h:frz ⟨[.arr v0 et 1 (gcs d (.loc 1 tk 0 l.length) m),.arr tk 3 1 (l.map (.int .i64))],tk2⟩ 1 10 (.loc 1 tk 0 l.length)=some (eInts l):=by
  have ht:(l.map (PV.int .i64)).take l.length=l.map (PV.int .i64):=qT (by simp)
  simp [-qU,-List.map_take,zds,zdj,ht,zcu]
 simp [Store.frz,zec,zej,yhg h,z8q]
theorem zun {c:Nat→Nat→Int} {nh nw:Nat} (hh:nh≤100) (hw:nw≤100) {g:FuncId} {cap:List PV} (hc:∀ (S:Store) (k:Nat),cap.mapM (reify S true (k+1))=some cap) (hz:∀ (S:Store) (lo k:Nat),cap.mapM (frz S lo (k+1))=some cap) (hcell:∀ r w:Nat,r<nh→w<nw→PC Tryz.prog g (.int .i64 r :: .int .i64 w::cap) (.int .i64 (c r w)) true):PC Tryz.prog 57 [.int .i64 nh,.int .i64 nw,.fn g cap] (zct (bgT c nw nh)) false:=by
 refine PC.of ⟨Tryz.func57,by kernel_rfl,rfl,by kernel_rfl⟩ zav mixed (by show 3≤Tryz.f57.ntmps; decide) ?_
 refine W.r fun K hK=>?_
 simp(disch:=omega)only[↓RU,RW,↓reduceIte,qE,reduceCtorEq,iP,↓RS,RG,qA,qM,qL]
 apply hK;clear hK K
 refine W.r fun K hK=>?_
 simp(disch:=omega)only[↓RU,RW,↓reduceIte,qE,reduceCtorEq,iP,↓RS,RG,qA,qM,qL,ty1,zab,zcl,zaa,zji,zex]
 apply hK;clear hK K
 refine W.seq ?_
 refine W.r fun K hK=>?_
 simp(disch:=omega)only[↓RU,RW,↓reduceIte,qE,reduceCtorEq,iP,↓RS,RG,qA,qM,qL,ty1,zab,zcl,zaa]
 apply hK;clear hK K
 refine W.block ?_
 refine W.loopZ [1,2,7,13,14] (fun n vs S=>∃ i v0 tk:Nat,n=nh - i∧i≤nh∧vs=[.int .i64 nw,.fn g cap,.loc 0 v0 0 nh,.int .i64 nh,.int .i64 i]∧S=⟨[.arr v0 28 1 (gc0 (bgT c nw i) (nh - i))],tk⟩) (nh) ?_ ?_
 ·refine ⟨1,[.int .i64 nw,.fn g cap,.loc 0 0 0 nh,.int .i64 nh,.int .i64 0],⟨[.arr 0 28 1 (gc0 (bgT c nw 0) (nh - 0))],1⟩,?_,?_,0,0,1,rfl,by omega,rfl,rfl⟩
  ·simp [-qU,Store.frz,zec,zej,zcn,zds,zdj,zd4,zfl,zc8,zcu,zc9,zcm,zcp,zd9,zdb,zd5,zc7,Env.put,Env.of,zai,zd8,qP,qC,zu1,z00 (hz _ _ _),bgT,zqp]
  simp [-qU,Store.frz,zec,zej,zcn,zds,zdj,zd4,zfl,zc8,zcu,zc9,zcm,zcp,zd9,zdb,zd5,zc7,Env.put,Env.of,zai,zd8,qP,qC,zu1,z00 (hz _ _ _),bgT,zqp]
 rintro n vs S - ⟨i,v0,tk,rfl,h_i,rfl,rfl⟩
 refine W.r fun K hK=>?_
 simp(disch:=omega)only[↓RU,RW,↓reduceIte,qE,reduceCtorEq,iP,w64,↓RS,RG,qA,qM,qL,zaa]
 apply hK;clear hK K
 refine W.seq ?_
 refine W.cond rfl (fun h=>?_) (fun h=>?_)
 ·try simp only[RL]at h
  have hil:i<nh:=by omega
  have hbl:=zuk (c:=c) (nw:=nw) (i:=i)
  refine W.skip ?_
  refine xn ?_
  refine W.seq ?_
  refine W.block ?_
  refine W.r fun K hK=>?_
  simp(disch:=omega)only[↓RU,RW,↓reduceIte,qE,reduceCtorEq,iP,↓RS,RG,qA,qM,qL]
  apply hK;clear hK K
  refine W.r fun K hK=>?_
  simp(disch:=omega)only[↓RU,RW,↓reduceIte,qE,reduceCtorEq,iP,↓RS,RG,qA,qM,qL,ty1,zab,zcl,zaa,ze8,zex,z06,hbl,z07]
  apply hK;clear hK K
  refine W.r fun K hK=>?_
  simp(disch:=omega)only[↓RU,RW,↓reduceIte,qE,reduceCtorEq,iP,↓RS,RG,qA,qM,qL,ty1,zab,zcl,zaa,zfc,zfd,hbl]
  apply hK;clear hK K
  refine W.block ?_
  refine W.loop [1,2,7,8,13,14,26,27] (fun n vs S=>∃ (j tk2:Nat),n=nw - j∧j≤nw∧vs=[.int .i64 nw,.fn g cap,.loc 0 v0 0 nh,.int .i64 i,.int .i64 nh,.int .i64 i,.int .i64 nw,.int .i64 j]∧S=⟨[.arr v0 28 1 (gcs (bgT c nw i) (.loc 1 tk 0 nw) (nh - i - 1)),.arr tk 3 1 ((stp (c i) j nw).map (.int .i64))],tk2⟩) nw ?_ ?_
  ·refine ⟨2,0,tk+1,rfl,Nat.zero_le _,?_,?_⟩
   ·simp [Env.put,Env.of]
   simp [zcs,z4v]
  rintro n vs S - ⟨j,tk2,rfl,h_j,rfl,rfl⟩
  refine W.r fun K hK=>?_
  simp(disch:=omega)only[↓RU,RW,↓reduceIte,qE,reduceCtorEq,iP,w64,↓RS,RG,qA,qM,qL,zaa]
  apply hK;clear hK K
  refine W.seq ?_
  refine W.cond rfl (fun h1=>?_) (fun h1=>?_)
  ·try simp only[RL]at h1
   have hjw:j<nw:=by omega
   have hsl:=z17 (f:=c i) (i:=j) (n:=nw)
   refine W.skip ?_
   refine xn ?_
   refine W.seq ?_
   refine W.block ?_
   refine W.r fun K hK=>?_
   simp(disch:=omega)only[↓RU,RW,↓reduceIte,qE,reduceCtorEq,iP,↓RS,RG,qA,qM,qL]
   apply hK;clear hK K
   refine W.draw_k (by kernel_rfl) fun K hK=>?_
   simp(disch:=omega)only[↓RU,RW,↓reduceIte,qE,reduceCtorEq,iP,qN,↓RS,RG,qA,qM,qL,ty1,zab,zcl,zaa,zfc,zfd,hbl,hsl,zb8,zdh]
   refine zac.pc (hcell i j hil hjw) (za5 rfl (za5 rfl (hc _ 9))) (.inl rfl) ?_
   simp(disch:=omega)only[↓RU,RW,↓reduceIte,qE,reduceCtorEq,iP,qN,↓RS,RG,qA,qM,qL,ty1,zab,zcl,zaa,zfc,zfd,hbl,hsl,zb8,zdh]
   apply hK;clear hK K
   refine XbN ?_
   refine xn ?_
   refine W.k fun K hK=>?_
   simp(disch:=omega)only[↓RU,RW,↓reduceIte,qE,reduceCtorEq,iP,w64,↓RS,RG,qA,qM,qL,zaa]
   apply hK;clear hK K
   refine xn ?_
   refine ⟨nw - (j+1),by omega,2,j+1,tk2,rfl,by omega,?_,?_⟩
   ·simp [Env.put,Env.of]
   simp only[zcs,← ybp (i:=j)]; rfl
  try simp only[RL]at h1
  obtain rfl:nw=j:=by omega
  refine W.exit ?_
  refine xe ?_
  refine xe ?_
  refine XBlock.hit ?_
  refine XbN ?_
  refine xn ?_
  refine W.k fun K hK=>?_
  simp(disch:=omega)only[↓RU,RW,↓reduceIte,qE,reduceCtorEq,iP,w64,↓RS,RG,qA,qM,qL,zaa]
  apply hK;clear hK K
  refine xn ?_
  refine ⟨nh - (i+1),by omega,1,[.int .i64 nw,.fn g cap,.loc 0 v0 0 nh,.int .i64 nh,.int .i64 (i+1)],⟨[.arr v0 28 1 (gc0 (bgT c nw (i+1)) (nh - (i+1)))],tk2⟩,?_,?_,(i+1),v0,tk2,rfl,by omega,rfl,rfl⟩
  ·simp [-qU,Store.frz,zec,zej,zcn,zds,zdj,zd4,zfl,zc8,zcu,zc9,zcm,zcp,zd9,zdb,zd5,zc7,Env.put,Env.of,zai,zd8,qP,qC,zu1,z00 (hz _ _ _),bgT,zqp]
  rw [ybo,ydh (by simp),ycw]; rfl
 try simp only[RL]at h
 obtain rfl:nh=i:=by omega
 refine W.exit ?_
 refine xe ?_
 refine xe ?_
 refine XBlock.hit ?_
 refine xn ?_
 refine W.r fun K hK=>?_
 simp(disch:=omega)only[↓RU,RW,↓reduceIte,qE,reduceCtorEq,iP,↓RS,RG,qA,qM,qL]
 apply hK;clear hK K
 refine W.ret ?_
 refine Br rfl ?_
 rw [Nat.sub_self,z8p]
 have hbl:=zuk (c:=c) (nw:=nw) (i:=nh)
 exact (zce (k:=9) (n:=nh) (cells:=(bgT c nw nh).map eInts) rfl (by simp [hbl]) (znt _)).trans (by show _=some (PV.sl _ (bgT c nw nh).length); rw [hbl])
def Pat (g1 g2:List (List Int)) (H W:Nat):Prop:=∀ i j i' j',i<H→j<W→i'<H→j'<W→(gz g1 i j=gz g1 i' j'↔gz g2 i j=gz g2 i' j')
theorem Pat.symm {g1 g2:List (List Int)} {H W:Nat} (h:Pat g1 g2 H W):Pat g2 g1 H W:=fun i j i' j' a b c d=>(h i j i' j' a b c d).symm
theorem Pat.trans {g1 g2 g3:List (List Int)} {H W:Nat} (h:Pat g1 g2 H W) (k:Pat g2 g3 H W):Pat g1 g3 H W:=fun i j i' j' a b c d=>(h i j i' j' a b c d).trans (k i j i' j' a b c d)
structure KC (g1 g2:List (List Int)) (H W:Nat) (k1 k2:List Int):Prop where
 len:k1.length=k2.length
 at_:∀ i j,i<H→j<W→k1.idxOf (gz g1 i j)=k2.idxOf (gz g2 i j)
theorem ztc {l:List Int} {z x:Int} (h:l.idxOf x=l.length):(l++[z]).idxOf x=if x=z then l.length else l.length+1:=by
 have hn:=zqt h
 rw [List.idxOf_append,if_neg hn]
 by_cases e:x=z
 ·subst e; simp
 rw [if_neg e]
 have e2:(z == x)=false:=by simpa using fun h=>e h.symm
 simp [List.idxOf_cons,e2]
 omega
theorem KC.step {g1 g2:List (List Int)} {H W:Nat} (hp:Pat g1 g2 H W) {k1 k2:List Int} (h:KC g1 g2 H W k1 k2) {a b:Nat} (ha:a<H) (hb:b<W):KC g1 g2 H W (zhj k1 (gz g1 a b)) (zhj k2 (gz g2 a b)):=by
 have h1:=h.at_ a b ha hb
 unfold zhj
 by_cases e:k1.idxOf (gz g1 a b)=k1.length
 ·have e2:k2.idxOf (gz g2 a b)=k2.length:=by rw [← h1,e,h.len]
  rw [if_pos e,if_pos e2]
  refine ⟨by simp [h.len],fun i j hi hj=>?_⟩
  have h2:=h.at_ i j hi hj
  have hpt:=hp i j a b hi hj ha hb
  by_cases q:k1.idxOf (gz g1 i j)=k1.length
  ·have q2:k2.idxOf (gz g2 i j)=k2.length:=by rw [← h2,q,h.len]
   rw [ztc q,ztc q2,h.len]
   by_cases r:gz g1 i j=gz g1 a b
   ·rw [if_pos r,if_pos (hpt.1 r)]
   rw [if_neg r,if_neg fun x=>r (hpt.2 x)]
  have q2:¬ k2.idxOf (gz g2 i j)=k2.length:=by rw [← h2,← h.len]; exact q
  rw [zqs q,zqs q2,h2]
 have e2:¬ k2.idxOf (gz g2 a b)=k2.length:=by rw [← h1,← h.len]; exact e
 rw [if_neg e,if_neg e2]
 exact h
theorem ybb {k1 k2 rs:List Int} {R:List Rect} {z1 z2:Int} {q:Rect} (hl:k1.length=k2.length) (hi:k1.idxOf z1=k2.idxOf z2):zps k1 R z1 q=zps k2 R z2 q:=by
 unfold zps zi4
 rw [hl,hi]
theorem zn5 {g1 g2:List (List Int)} {H W:Nat} (hp:Pat g1 g2 H W) {i:Nat} (hi:i<H) {s1 s2:List Int × List Rect} (h:KC g1 g2 H W s1.1 s2.1) (hr:s1.2=s2.2):∀ j,j≤W →
  KC g1 g2 H W (zdf g1 i s1 j).1 (zdf g2 i s2 j).1∧(zdf g1 i s1 j).2=(zdf g2 i s2 j).2
 | 0,_=>⟨h,hr⟩
 | j+1,hj=>by
  obtain ⟨h1,h2⟩:=zn5 hp hi h hr j (by omega)
  unfold zdf
  refine ⟨h1.step hp hi (by omega),?_⟩
  show zps _ _ _ _=zps _ _ _ _
  rw [h2]
  exact ybb (rs:=[]) h1.len (h1.at_ i j hi (by omega))
theorem zlc {g1 g2:List (List Int)} {H W:Nat} (hp:Pat g1 g2 H W):∀ i,i≤H→KC g1 g2 H W (zas g1 W i).1 (zas g2 W i).1∧(zas g1 W i).2=(zas g2 W i).2
 | 0,_=>⟨⟨rfl,fun _ _ _ _=>rfl⟩,rfl⟩
 | i+1,hi=>by
  obtain ⟨h1,h2⟩:=zlc hp i (by omega)
  exact zn5 hp (by omega) h1 h2 W (qR _)
theorem z0a {g1 g2:List (List Int)} {H W:Nat} (hp:Pat g1 g2 H W) {i:Nat} (hi:i<H) {s1 s2:List Int × List Rect} (h:KC g1 g2 H W s1.1 s2.1) (hr:s1.2=s2.2):∀ j,j≤W→zod g1 i s1 j=zod g2 i s2 j
 | 0,_=>rfl
 | j+1,hj=>by
  unfold zod
  rw [z0a hp hi h hr j (by omega),(zn5 hp hi h hr j (by omega)).1.at_ i j hi (by omega)]
theorem zoe {g1 g2:List (List Int)} {H W:Nat} (hp:Pat g1 g2 H W):∀ i,i≤H→ze7 g1 W i=ze7 g2 W i
 | 0,_=>rfl
 | i+1,hi=>by
  obtain ⟨h1,h2⟩:=zlc hp i (by omega)
  unfold ze7
  rw [zoe hp i (by omega),z0a hp (by omega) h1 h2 W (qR _)]
theorem GW.w0 {g:List (List Int)} {H W:Nat} (h:GW g H W):w0 g=W:=by
 obtain ⟨row,hrow,hl,-⟩:=h.at_ (show 0<H by have:=h.2.2.1; omega) (show 0<W by have:=h.2.2.2.2.1; omega)
 rw [ye4 hrow,hl]
theorem GW.zG {g:List (List Int)} {H W:Nat} (h:GW g H W):zG g=ze7 g W H∧stG g=zas g W H:=by
 unfold Fw.zG stG; rw [h.w0,h.1]; exact ⟨rfl,rfl⟩
theorem yjb {g:List (List Int)} {H W i j:Nat} (h:GW g H W) (hi:i<H) (hj:j<W):gz (zG g) i j=(((zas g W H).1.idxOf (gz g i j):Nat):Int):=by
 rw [h.zG.1]
 unfold gz
 rw [zkf hi,Option.getD_some,z2e hj,Option.getD_some]
 congr 1
 exact zNum hi hj
theorem zz9 {g:List (List Int)} {H W:Nat} (h:GW g H W):GW (zG g) H W:=by
 rw [h.zG.1]
 refine ⟨zc6 _,fun r hr=>?_,h.2.2⟩
 obtain ⟨k,hk⟩:=List.getElem?_of_mem hr
 have:=zb5 hk
 rw [zc6]at this
 rw [zkf this]at hk
 cases hk
 exact zf0 _
theorem ycg {g:List (List Int)} {H W i j:Nat} (hi:i<H) (hj:j<W):gz g i j∈(zas g W H).1:=(SeInv.rows (g:=g) (W:=W) H).mem i j (zph hi hj)
theorem ych {g:List (List Int)} {H W:Nat} (h:GW g H W):Pat (zG g) g H W:=by
 intro i j i' j' hi hj hi' hj'
 rw [yjb h hi hj,yjb h hi' hj']
 constructor
 ·intro e
  have h1:=zh8 (ks:=(zas g W H).1) (z:=gz g i j) (by have:=List.idxOf_lt_length_iff.2 (ycg (g:=g) hi hj); omega)
  have h2:=zh8 (ks:=(zas g W H).1) (z:=gz g i' j') (by have:=List.idxOf_lt_length_iff.2 (ycg (g:=g) hi' hj'); omega)
  rw [show (zas g W H).1.idxOf (gz g i j)=(zas g W H).1.idxOf (gz g i' j') by omega,h2]at h1
  exact (Option.some.inj h1).symm
 intro e; rw [e]
theorem ylx {g:List (List Int)} {H W i j:Nat} (h:GW g H W) (hi:i<H) (hj:j<W):0≤gz (zG g) i j∧gz (zG g) i j<(zas g W H).2.length:=by
 rw [yjb h hi hj]
 have h1:=List.idxOf_lt_length_iff.2 (ycg (g:=g) hi hj)
 have h2:=(SeInv.rows (g:=g) (W:=W) H).len
 omega
theorem zt0 {g:List (List Int)} {H W i j:Nat} (h:GW g H W) (hi:i<H) (hj:j<W) (h0:0≤gz g i j) (h1:gz g i j≤100):gz (zbm (zf9 g)) i j=gz g i j+97:=by
 obtain ⟨row,hrow,hl,hx⟩:=h.at_ hi hj
 have e1:(zbm (zf9 g))[i]?=some (zwo (zru row)):=by simp [zbm,zm7 hrow]
 have e2:(zwo (zru row))[j]?=some ((z9e (gz g i j)).toNat:Int):=by simp [zwo,zru,hx]
 have e3:gz (zbm (zf9 g)) i j=((z9e (gz g i j)).toNat:Int):=by
  conv=>lhs; unfold gz
  rw [e1,Option.getD_some,e2,Option.getD_some]
 rw [e3]
 unfold z9e
 rw [UInt8.toNat_ofNat_of_lt' (by show 97+(gz g i j).toNat<256; omega)]
 omega
theorem yby {g:List (List Int)} {H W:Nat} (h:GW g H W):(zf9 g).length=H∧(zag (zf9 g)).length=W:=by
 refine ⟨by rw [zzw,h.1],?_⟩
 obtain ⟨row,hrow,hl,-⟩:=h.at_ (show 0<H by have:=h.2.2.1; omega) (show 0<W by have:=h.2.2.2.2.1; omega)
 rw [zcf (zm7 hrow)]
 simp [zru,hl]
theorem ybx {g:List (List Int)} {H W:Nat} (h:GW g H W) (hz:∀ i j,i<H→j<W→0≤gz g i j∧gz g i j<26):zcx (zf9 g)=true:=by
 obtain ⟨t1,t2⟩:=yby h
 unfold zcx
 rw [t1,t2]
 have h2:=h.2.2
 have:(zf9 g).all (zsn W)=true:=by
  rw [List.all_eq_true]
  intro r hr
  obtain ⟨i,hi⟩:=List.getElem?_of_mem hr
  have hil:=zb5 hi
  rw [t1]at hil
  obtain ⟨row,hrow,hrm⟩:=zaj (show i<g.length by rw [h.1]; exact hil)
  have hrl:=h.2.1 row hrm
  rw [zm7 hrow]at hi
  cases hi
  unfold zsn
  simp only[qB,decide_eq_true_eq,List.all_eq_true]
  refine ⟨⟨⟨by simp [zru,hrl],by simp [zru]; omega⟩,by simp [zru]; omega⟩,fun c hc=>?_⟩
  obtain ⟨z,hzm,rfl⟩:=List.mem_map.1 hc
  obtain ⟨j,hj⟩:=List.getElem?_of_mem hzm
  have hjl:=zb5 hj
  have e:gz g i j=z:=by simp [gz,hrow,hj]
  have:=hz i j hil (by omega)
  rw [e]at this
  unfold zda z9e
  rw [UInt8.toNat_ofNat_of_lt' (by show 97+z.toNat<256; omega)]
  simp only[qB,decide_eq_true_eq]
  omega
 rw [this]
 simp only[Bool.true_and,qB,decide_eq_true_eq]
 omega
def nm (g:List (List Int)):List Txt:=zf9 (zG g)
structure NmOk (g:List (List Int)) (H W:Nat):Prop where
 gw:GW g H W
 le:(zas g W H).2.length≤9
theorem NmOk.bound {g:List (List Int)} {H W:Nat} (h:NmOk g H W) {i j:Nat} (hi:i<H) (hj:j<W):0≤gz (zG g) i j∧gz (zG g) i j≤8:=by
 have h1:=ylx h.gw hi hj
 have h2:=h.le
 omega
theorem NmOk.hd {g:List (List Int)} {H W:Nat} (h:NmOk g H W):(nm g).length=H∧(zag (nm g)).length=W:=yby (zz9 h.gw)
theorem NmOk.pat {g:List (List Int)} {H W:Nat} (h:NmOk g H W):Pat (zbm (nm g)) g H W:=by
 refine Pat.trans (fun i j i' j' hi hj hi' hj'=>?_) (ych h.gw)
 have b1:=h.bound hi hj
 have b2:=h.bound hi' hj'
 unfold nm
 rw [zt0 (zz9 h.gw) hi hj b1.1 (by omega),zt0 (zz9 h.gw) hi' hj' b2.1 (by omega)]
 constructor <;> intro e <;> omega
theorem NmOk.gP {g:List (List Int)} {H W:Nat} (h:NmOk g H W):gP (nm g)=zG g∧rP (nm g)=(zas g W H).2:=by
 rw [z8o,yal,h.hd.1,h.hd.2,h.gw.zG.1]
 exact ⟨zoe h.pat H (qR _),(zlc h.pat H (qR _)).2⟩
theorem NmOk.named {g:List (List Int)} {H W:Nat} (h:NmOk g H W):Named (nm g):=by
 refine ⟨ybx (zz9 h.gw) fun i j hi hj=>by have:=h.bound hi hj; omega,?_⟩
 rw [h.gP.1]; rfl
theorem NmOk.cell {g:List (List Int)} {H W:Nat} (h:NmOk g H W) {i j:Nat} (hi:i<H) (hj:j<W):zaf (nm g) i j=gz (zG g) i j:=by
 rw [← h.named.cell (by rw [h.hd.1]; exact hi) (by rw [h.hd.2]; exact hj),h.gP.1]
theorem Named.okB {p:List Txt} (h:Named p) (hn:(rP p).length≤9):okB p=true:=by
 unfold Fw.okB okS
 have hg:=h.hg
 rw [zu2,qB]at hg
 rw [hg.1,hg.2]
 show decide ((rP p).length≤9)=true
 exact decide_eq_true hn
theorem Named.full_of {p:List Txt} (h:Named p) (hr:∀ {i j i' j':Nat} (k l:Nat),i<p.length→i'<p.length→j<(zag p).length→j'<(zag p).length→zaf p i j=zaf p i' j'→min i i'≤k→k≤max i i'→min j j'≤l→l≤max j j'→zaf p k l=zaf p i j):zh5 (zbm p)=true:=by
 rw [h.full]
 intro m hm
 obtain ⟨b,hb,-⟩:=zaj hm
 rw [zwt hb]
 refine zw1 fun i j hi hj=>?_
 have hrect:=h.rect hb
 have hin:=(zmu hrect).2
 rw [Bool.eq_iff_iff]
 constructor
 ·intro hz
  exact hin i j hi hj (by unfold inZ at hz; simpa using hz)
 intro hb2
 obtain ⟨a1,b1,⟨v1,g1⟩,e1⟩:=hrect.at_
 obtain ⟨a2,b2,⟨v2,g2⟩,e2⟩:=hrect.al
 obtain ⟨a3,b3,⟨v3,g3⟩,e3⟩:=hrect.ao
 obtain ⟨a4,b4,⟨v4,g4⟩,e4⟩:=hrect.ar
 unfold Gone at g1 g2 g3 g4
 have i1:=hrect.inn _ _ ⟨v1,g1⟩
 have i2:=hrect.inn _ _ ⟨v2,g2⟩
 have i3:=hrect.inn _ _ ⟨v3,g3⟩
 have i4:=hrect.inn _ _ ⟨v4,g4⟩
 unfold inB at hb2
 simp only[qB,decide_eq_true_eq]at hb2
 have c1:=hr (i:=a1) (j:=b1) (i':=a2) (j':=b2) a1 b2 (by omega) (by omega) (by omega) (by omega) (by omega) (by omega) (by omega) (by omega) (by omega)
 have c2:=hr (i:=a3) (j:=b3) (i':=a4) (j':=b4) a3 b4 (by omega) (by omega) (by omega) (by omega) (by omega) (by omega) (by omega) (by omega) (by omega)
 have c3:=hr (i:=a1) (j:=b2) (i':=a3) (j':=b4) i j (by omega) (by omega) (by omega) (by omega) (by omega) (by omega) (by omega) (by omega) (by omega)
 unfold inZ
 exact decide_eq_true (by omega)
structure Cells (c:Nat→Nat→Nat) (g:List (List Int)) (H W:Nat):Prop where
 gw:GW g H W
 at_:∀ i j,i<H→j<W→gz g i j=((c i j:Nat):Int)
structure Ren (c:Nat→Nat→Nat) (H W:Nat) (t:List Txt):Prop where
 hl:t.length=H
 wl:(zag t).length=W
 pat:∀ i j i' j',i<H→j<W→i'<H→j'<W→(cn (gP t) i j=cn (gP t) i' j'↔c i j=c i' j')
theorem z9p {c:Nat→Nat→Nat} {g:List (List Int)} {H W:Nat} (hc:Cells c g H W) (h9:(zas g W H).2.length≤9)
  (hr:∀ {i j i' j':Nat} (k l:Nat),i<H→i'<H→j<W→j'<W→c i j=c i' j'→min i i'≤k→k≤max i i'→min j j'≤l→l≤max j j'→c k l=c i j) :
  zbk (nm g)=true∧Ren c H W (nm g):=by
 have h:NmOk g H W:=⟨hc.gw,h9⟩
 have hN:=h.named
 obtain ⟨l1,l2⟩:=h.hd
 have hpat:∀ i j i' j',i<H→j<W→i'<H→j'<W→(gz (zG g) i j=gz (zG g) i' j'↔c i j=c i' j'):=by
  intro i j i' j' hi hj hi' hj'
  rw [ych hc.gw i j i' j' hi hj hi' hj',hc.at_ i j hi hj,hc.at_ i' j' hi' hj']
  omega
 constructor
 ·rw [← zc3]
  unfold zeb zor
  have hf:zh5 (zbm (nm g))=true:=by
   refine hN.full_of fun {i j i' j'} k l hi hi' hj hj' e h1 h2 h3 h4=>?_
   rw [l1]at hi hi'
   rw [l2]at hj hj'
   rw [h.cell hi hj,h.cell hi' hj']at e
   rw [h.cell (by omega) (by omega),h.cell hi hj]
   exact (hpat _ _ _ _ (by omega) (by omega) hi hj).2 (hr k l hi hi' hj hj' ((hpat _ _ _ _ hi hj hi' hj').1 e) h1 h2 h3 h4)
  rw [hN.okB (by rw [h.gP.2]; exact h9),hf,decide_eq_true hN.ht]
  rfl
 refine ⟨l1,l2,fun i j i' j' hi hj hi' hj'=>?_⟩
 rw [← hpat i j i' j' hi hj hi' hj',h.gP.1]
 have b1:=h.bound hi hj
 have b2:=h.bound hi' hj'
 unfold cn
 omega
theorem pig0 {σ:Nat→Nat} {n m:Nat} (h:∀ a,a<n→σ a<m) (hi:∀ a b,a<n→b<n→σ a=σ b→a=b):n≤m:=by
 have h1:sN n (fun a=>sN m fun b=>b1 (decide (σ a=b)))=n:=by
  have:sN n (fun a=>sN m fun b=>b1 (decide (σ a=b)))=sN n (fun _=>1):=by
   refine zez fun a ha=>?_
   have hs:∀ {k:Nat} (v:Nat),v<k→sN k (fun b=>b1 (decide (v=b)))=1:=by
    intro k
    induction k with
    | zero=>intro v hv; omega
    | succ k ih =>
     intro v hv
     unfold sN
     by_cases e:v=k
     ·subst e
      have hz:sN v (fun b=>b1 (decide (v=b)))=0:=by
       rw [← zrw v]
       exact zez fun b hb=>by rw [decide_eq_false (by omega)]; rfl
      rw [hz]; simp [b1]
     rw [ih v (by omega)]; simp [b1,e]
   exact hs _ (h a ha)
  rw [this,z4j]
 rw [zv3]at h1
 have h2:sN m (fun b=>sN n fun a=>b1 (decide (σ a=b)))≤sN m (fun _=>1) :=
  z6l fun b hb=>ya8 fun r s hr hs e1 e2=>hi r s hr hs (by rw [of_decide_eq_true e1,of_decide_eq_true e2])
 rw [z4j]at h2
 omega
theorem z5z {c:Nat→Nat→Nat} {g:List (List Int)} {H W:Nat} (hc:Cells c g H W) (h9:(zas g W H).2.length≤9)
  (hr:∀ {i j i' j':Nat} (k l:Nat),i<H→i'<H→j<W→j'<W→c i j=c i' j'→min i i'≤k→k≤max i i'→min j j'≤l→l≤max j j'→c k l=c i j):okS g=true∧zh5 g=true:=by
 have hpl:=(z9p hc h9 hr).1
 have h:NmOk g H W:=⟨hc.gw,h9⟩
 have hz:=hc.gw.zG
 have hf:=zyz hpl
 constructor
 ·unfold okS
  rw [hz.2]
  have:okG g=true:=by rw [znx,hc.gw.1,hc.gw.w0]; exact hc.gw
  rw [this]
  simpa using h9
 unfold zh5 at hf ⊢
 have e1:(stG (zbm (nm g))).2=(stG g).2:=by rw [hz.2]; exact h.gP.2
 rw [e1,zdn,zfy,h.hd.1,h.hd.2]at hf
 rw [hc.gw.1,hc.gw.w0]
 exact hf
theorem ya3 {c:Nat→Nat→Nat} {g:List (List Int)} {H W n:Nat} (hc:Cells c g H W) (hn:∀ i j,i<H→j<W→c i j<n):(zas g W H).2.length≤n:=by
 have hi:=SeInv.rows (g:=g) (W:=W) H
 rw [hi.len]
 have hk:∀ m,m<(zas g W H).1.length→∃ i j,i<H∧j<W∧(zas g W H).1[m]?=some ((c i j:Nat):Int):=by
  intro m hm
  obtain ⟨v,hv,-⟩:=zaj hm
  obtain ⟨b,hb,-⟩:=zaj (show m<(zas g W H).2.length by rw [hi.len]; exact hm)
  obtain ⟨i,j,⟨hz,hj,hij⟩,-⟩:=(hi.hull m v b hv hb).at_
  have hi2:i<H:=by omega
  exact ⟨i,j,hi2,hj,by rw [hv,← hz,hc.at_ i j hi2 hj]⟩
 have key:=pig0 (σ:=fun m=>((zas g W H).1[m]?.getD 0).toNat) (n:=(zas g W H).1.length) (m:=n) (fun m hm=>by
  obtain ⟨i,j,q1,q2,q3⟩:=hk m hm
  have:=hn i j q1 q2
  simp only[q3,Option.getD_some,Int.toNat_natCast]
  exact this) (fun a b ha hb e=>by
  obtain ⟨i,j,q1,q2,q3⟩:=hk a ha
  obtain ⟨i',j',r1,r2,r3⟩:=hk b hb
  simp only[q3,r3,Option.getD_some,Int.toNat_natCast]at e
  exact zmf hi.nd q3 (by rw [r3,e]))
 exact key
section
variable {c c':Nat→Nat→Nat} {H W:Nat}
theorem Pl.ren (h:Pl c H W) (hp:∀ i j i' j',i<H→j<W→i'<H→j'<W→(c' i j=c' i' j'↔c i j=c i' j')):Pl c' H W:=by
 refine ⟨fun {i j i' j'} k l h1 h2 h3 h4 h5 h6 h7 h8 h9=>?_,fun {i j} h1 h2 h3 h4 h5=>?_⟩
 ·exact (hp _ _ _ _ (by omega) (by omega) h1 h3).2 (h.rect k l h1 h2 h3 h4 ((hp _ _ _ _ h1 h3 h2 h4).1 h5) h6 h7 h8 h9)
 refine (hp _ _ _ _ (by omega) h2 h1 h2).2 (h.plain h1 h2 (fun e=>h3 ?_) (fun e=>h4 ?_) fun e=>h5 ?_)
 ·exact (hp _ _ _ _ (by omega) (by omega) (by omega) h2).2 e
 ·exact (hp _ _ _ _ h1 (by omega) h1 h2).2 e
 exact (hp _ _ _ _ (by omega) (by omega) h1 (by omega)).2 e
theorem DL.ren {σ:Nat→Nat} (hσ:∀ i j,i<H→j<W→c' i j=σ (c i j)) (hp:∀ i j i' j',i<H→j<W→i'<H→j'<W→(c' i j=c' i' j'↔c i j=c i' j')) {a b:Nat} (h:DL c H W a b):DL c' H W (σ a) (σ b):=by
 obtain ⟨j,i1,i2,h1,h2,h3,run,rfl,rfl⟩:=h
 exact ⟨j,i1,i2,h1,h2,h3,fun r r1 r2 e=>run r r1 r2 ((hp _ _ _ _ (by omega) (by omega) (by omega) h1).1 e),(hσ _ _ h2 (by omega)).symm,(hσ _ _ h3 h1).symm⟩
theorem DU.ren {σ:Nat→Nat} (hσ:∀ i j,i<H→j<W→c' i j=σ (c i j)) (hp:∀ i j i' j',i<H→j<W→i'<H→j'<W→(c' i j=c' i' j'↔c i j=c i' j')) {a b:Nat} (h:DU c H W a b):DU c' H W (σ a) (σ b):=by
 obtain ⟨i,j1,j2,h1,h2,h3,run,rfl,rfl⟩:=h
 exact ⟨i,j1,j2,h1,h2,h3,fun r r1 r2 e=>run r r1 r2 ((hp _ _ _ _ (by omega) (by omega) h1 (by omega)).1 e),(hσ _ _ (by omega) h2).symm,(hσ _ _ h1 h3).symm⟩
theorem TC.map {R S:Nat→Nat→Prop} {f:Nat→Nat} (h:∀ a b,R a b→S (f a) (f b)) {a b:Nat} (k:TC R a b):TC S (f a) (f b):=by
 induction k with
 | one k=>exact .one (h _ _ k)
 | tail _ k ih=>exact .tail ih (h _ _ k)
structure Iso (p t:List Txt) (L U:Nat→Nat→Prop) (σ:Nat→Nat):Prop where
 pl:zcd t=true
 n:(rP t).length=(rP p).length
 lt:∀ a,a<(rP p).length→σ a<(rP p).length
 inj:∀ a b,a<(rP p).length→b<(rP p).length→σ a=σ b→a=b
 lf:∀ a b,a<(rP p).length→b<(rP p).length→(Lf t (σ a) (σ b)↔L a b)
 ab:∀ a b,a<(rP p).length→b<(rP p).length→(Ab t (σ a) (σ b)↔U a b)
theorem Iso.imp {p t:List Txt} {L U L' U':Nat→Nat→Prop} {σ:Nat→Nat} (h:Iso p t L U σ) (hL:∀ a b,a<(rP p).length→b<(rP p).length→(L a b↔L' a b)) (hU:∀ a b,a<(rP p).length→b<(rP p).length→(U a b↔U' a b)):Iso p t L' U' σ :=
 ⟨h.pl,h.n,h.lt,h.inj,fun a b ha hb=>(h.lf a b ha hb).trans (hL a b ha hb),fun a b ha hb=>(h.ab a b ha hb).trans (hU a b ha hb)⟩
structure Fold1 (f:Nat→Nat) (m n:Nat):Prop where
 pos:1≤m
 z:f 0=0
 s:∀ i,i+1<m→f (i+1)=f i∨f (i+1)=f i+1
 e:f (m - 1)+1=n
theorem Fold1.mono {f:Nat→Nat} {m n:Nat} (h:Fold1 f m n):∀ {i j:Nat},i≤j→j<m→f i≤f j:=by
 intro i j hij
 induction j with
 | zero=>intro _; rw [show i=0 by omega]; exact qR _
 | succ j ih =>
  intro hj
  by_cases e:i=j+1
  ·subst e; exact qR _
  have h1:=ih (by omega) (by omega)
  have:=h.s j hj
  omega
theorem Fold1.lt {f:Nat→Nat} {m n i:Nat} (h:Fold1 f m n) (hi:i<m):f i<n:=by
 have:=h.mono (i:=i) (j:=m - 1) (by omega) (by have:=h.pos; omega)
 have:=h.e
 omega
theorem Fold1.mid {f:Nat→Nat} {m n i:Nat} (h:Fold1 f m n) {v:Nat}:∀ {j:Nat},i≤j→j<m→f i≤v→v≤f j→∃ r,i≤r∧r≤j∧f r=v:=by
 intro j
 induction j with
 | zero=>intro h1 h2 h3 h4; exact ⟨0,by omega,qR _,by rw [show i=0 by omega]at h3; omega⟩
 | succ j ih =>
  intro h1 h2 h3 h4
  by_cases e:f (j+1)=v
  ·exact ⟨j+1,h1,qR _,e⟩
  by_cases e2:i=j+1
  ·subst e2; omega
  have:=h.s j h2
  obtain ⟨r,r1,r2,r3⟩:=ih (by omega) (by omega) h3 (by omega)
  exact ⟨r,r1,by omega,r3⟩
theorem Fold1.last {f:Nat→Nat} {m n v:Nat} (h:Fold1 f m n) (hv:v+1<n):∃ r,r+1<m∧f r=v∧f (r+1)=v+1:=by
 have hp:=h.pos
 have he:=h.e
 obtain ⟨e,h1,h2,h3,h4⟩:=z0x (P:=fun r=>f r≤v) (i:=0) (n:=m - 1) (by omega) (by rw [h.z]; omega) (by omega)
 have:=h.s e (by omega)
 exact ⟨e,by omega,by omega,by omega⟩
theorem DL.fold {f g:Nat→Nat} {H' W':Nat} (hf:Fold1 f H H') (hg:Fold1 g W W') (hc:∀ i j,i<H→j<W→c i j=c' (f i) (g j)) {a b:Nat}:DL c H W a b↔DL c' H' W' a b:=by
 constructor
 ·rintro ⟨j,i1,i2,h1,h2,h3,run,rfl,rfl⟩
  have hgj:g (j+1)=g j+1:=by
   rcases hg.s j h1 with e | e
   ·have:=run i1 (by omega) (by omega)
    rw [hc i1 j h2 (by omega),hc i1 (j+1) h2 h1,e]at this
    exact absurd rfl this
   exact e
  have hlt:=hg.lt h1
  refine ⟨g j,f i1,f i2,by omega,hf.lt h2,hf.lt h3,fun r r1 r2=>?_,hc _ _ h2 (by omega),by rw [hc _ _ h3 h1,hgj]⟩
  have:∃ r0,min i1 i2≤r0∧r0≤max i1 i2∧f r0=r:=by
   rcases Nat.le_total i1 i2 with q | q
   ·have:=hf.mono q h3
    obtain ⟨r0,q1,q2,q3⟩:=hf.mid (v:=r) q h3 (by omega) (by omega)
    exact ⟨r0,by omega,by omega,q3⟩
   have:=hf.mono q h2
   obtain ⟨r0,q1,q2,q3⟩:=hf.mid (v:=r) q h2 (by omega) (by omega)
   exact ⟨r0,by omega,by omega,q3⟩
  obtain ⟨r0,q1,q2,rfl⟩:=this
  have:=run r0 q1 q2
  rw [hc r0 j (by omega) (by omega),hc r0 (j+1) (by omega) h1,hgj]at this
  exact this
 rintro ⟨j,i1,i2,h1,h2,h3,run,rfl,rfl⟩
 obtain ⟨j0,k1,k2,k3⟩:=hg.last h1
 have hfe:=hf.e
 have hfp:=hf.pos
 obtain ⟨r1,-,q2,q3⟩:=hf.mid (i:=0) (j:=H - 1) (v:=i1) (by omega) (by omega) (by rw [hf.z]; omega) (by omega)
 obtain ⟨r2,-,q5,q6⟩:=hf.mid (i:=0) (j:=H - 1) (v:=i2) (by omega) (by omega) (by rw [hf.z]; omega) (by omega)
 refine ⟨j0,r1,r2,k1,by omega,by omega,fun r s1 s2=>?_,by rw [hc _ _ (by omega) (by omega),q3,k2],by rw [hc _ _ (by omega) (by omega),q6,k3]⟩
 rw [hc r j0 (by omega) (by omega),hc r (j0+1) (by omega) k1,k2,k3]
 refine run (f r) ?_ ?_
 ·rcases Nat.le_total r1 r2 with q | q
  ·have:=hf.mono (show r1≤r by omega) (show r<H by omega); omega
  have:=hf.mono (show r2≤r by omega) (show r<H by omega); omega
 rcases Nat.le_total r1 r2 with q | q
 ·have:=hf.mono (show r≤r2 by omega) (show r2<H by omega); omega
 have:=hf.mono (show r≤r1 by omega) (show r1<H by omega); omega
theorem DU.fold {f g:Nat→Nat} {H' W':Nat} (hf:Fold1 f H H') (hg:Fold1 g W W') (hc:∀ i j,i<H→j<W→c i j=c' (f i) (g j)) {a b:Nat}:DU c H W a b↔DU c' H' W' a b :=
 DL.fold (c:=tr c) (c':=tr c') hg hf fun i j hi hj=>hc j i hj hi
theorem TC.iff {R S:Nat→Nat→Prop} (h:∀ a b,R a b↔S a b) {a b:Nat}:TC R a b↔TC S a b:=⟨TC.mono fun a b=>(h a b).1,TC.mono fun a b=>(h a b).2⟩
end
section
variable {p t:List Txt} {L U:Nat→Nat→Prop} {σ:Nat→Nat}
end
section
variable {c:Nat→Nat→Nat} {H W:Nat}
theorem DL.cols (h:Pl c H W) {i j i' j':Nat} (hi:i<H) (hj:j<W) (hi':i'<H) (hj':j'<W) (hd:DL c H W (c i j) (c i' j')):j<j':=by
 obtain ⟨k,i1,i2,h1,h2,h3,run,e1,e2⟩:=hd
 have a1:j≤k:=by
  refine Classical.byContradiction fun hn=>?_
  have:=h.rect (i:=i1) (j:=k) (i':=i) (j':=j) i1 (k+1) h2 hi (by omega) hj e1.symm (by omega) (by omega) (by omega) (by omega)
  exact run i1 (by omega) (by omega) this.symm
 have a2:k+1≤j':=by
  refine Classical.byContradiction fun hn=>?_
  have:=h.rect (i:=i2) (j:=k+1) (i':=i') (j':=j') i2 k h3 hi' h1 hj' e2.symm (by omega) (by omega) (by omega) (by omega)
  exact run i2 (by omega) (by omega) this
 omega
theorem DL.cells {a b:Nat} (hd:DL c H W a b):(∃ i j,i<H∧j<W∧c i j=a)∧∃ i j,i<H∧j<W∧c i j=b:=by
 obtain ⟨k,i1,i2,h1,h2,h3,run,e1,e2⟩:=hd
 exact ⟨⟨i1,k,h2,by omega,e1.symm⟩,i2,k+1,h3,h1,e2.symm⟩
theorem TC.cols (h:Pl c H W) {a b:Nat} (hd:TC (DL c H W) a b):∀ {i j i' j':Nat},i<H→j<W→i'<H→j'<W→c i j=a→c i' j'=b→j<j':=by
 induction hd with
 | one hd=>intro i j i' j' h1 h2 h3 h4 e1 e2; subst e1; subst e2; exact hd.cols h h1 h2 h3 h4
 | tail _ hd ih =>
  intro i j i' j' h1 h2 h3 h4 e1 e2
  obtain ⟨⟨x,y,hx,hy,e3⟩,-⟩:=hd.cells
  have q1:=ih h1 h2 hx hy e1 e3
  subst e2; rw [← e3]at hd
  have q2:=hd.cols h hx hy h3 h4
  omega
def Thru (c:Nat→Nat→Nat) (H k:Nat):Prop:=∀ r,r<H→c r (k - 1)≠c r k
theorem zzx (h:Pl c H W) {k:Nat} (h1:1≤k) (h2:k<W) (ht:Thru c H k) {i j i' j':Nat} (hi:i<H) (hj:j<k) (hi':i'<H) (hj':k≤j') (hw:j'<W):TC (DL c H W) (c i j) (c i' j'):=by
 have q:TC (DL c H W) (c i (k - 1)) (c i' k) := .one ⟨k - 1,i,i',by omega,hi,hi',fun r r1 r2=>by
  have:=ht r (by omega)
  rw [show k - 1+1=k by omega]; exact this,rfl,by rw [show k - 1+1=k by omega]⟩
 have q1:c i j=c i (k - 1)∨TC (DL c H W) (c i j) (c i (k - 1)):=by
  by_cases e:c i j=c i (k - 1)
  ·exact .inl e
  exact .inr (zin hi (by omega) (by omega) e)
 have q2:c i' k=c i' j'∨TC (DL c H W) (c i' k) (c i' j'):=by
  by_cases e:c i' k=c i' j'
  ·exact .inl e
  exact .inr (zin hi' hj' hw e)
 have q3:TC (DL c H W) (c i j) (c i' k):=by
  rcases q1 with e | e
  ·rw [e]; exact q
  exact e.trans q
 rcases q2 with e | e
 ·rw [← e]; exact q3
 exact q3.trans e
theorem zxx (h:Pl c H W) (hH:1≤H) {P:Nat→Prop} (ha:∃ i j,i<H∧j<W∧P (c i j)) (hb:∃ i j,i<H∧j<W∧¬ P (c i j))
  (hl:∀ i j i' j',i<H→j<W→i'<H→j'<W→P (c i j)→¬ P (c i' j')→TC (DL c H W) (c i j) (c i' j')):∃ k,1≤k∧k<W∧Thru c H k∧∀ i j,i<H→j<W→(P (c i j)↔j<k):=by
 obtain ⟨i0,j0,hi0,hj0,hp0⟩:=ha
 obtain ⟨i1,j1,hi1,hj1,hp1⟩:=hb
 -- the first column with a cell that isn't in P
 obtain ⟨k,hk,⟨r,hr,hrp⟩,hmin⟩:=zma (P:=fun k=>∃ r,r<H∧¬ P (c r k)) ⟨i1,hi1,hp1⟩
 have hkW:k<W:=by omega
 have all:∀ i j,i<H→j<W→(P (c i j)↔j<k):=by
  intro i j hi hj
  constructor
  ·intro hp
   have:=TC.cols h (hl i j r k hi hj hr hkW hp hrp) hi hj hr hkW rfl rfl
   exact this
  intro hlt
  exact Classical.byContradiction fun hn=>hmin j hlt ⟨i,hi,hn⟩
 refine ⟨k,?_,hkW,fun r hr e=>?_,all⟩
 ·have:=(all i0 j0 hi0 hj0).1 hp0; omega
 have hk1:1≤k:=by have:=(all i0 j0 hi0 hj0).1 hp0; omega
 have q1:=(all r (k - 1) hr (by omega)).2 (by omega)
 have q2:=(all r k hr hkW)
 rw [e]at q1
 have:=q2.1 q1; omega
variable {p:List Txt}
end
theorem z0p {g:List (List Int)} {nh nw:Nat} (hg:GW g nh nw) (rs:List Rect) {r c:Nat} (hr:r<nw) (hc:c<nh):PC Tryz.prog 66 [.int .i64 r,.int .i64 c,.ip [zar g rs] 0] (.int .i64 (gz g c r)) true:=by
 obtain ⟨row,hrow,hrl,hx⟩:=hg.at_ (i:=c) (j:=r) (by omega) (by omega)
 have hgl:=hg.1
 refine PC.of ⟨Tryz.func66,by kernel_rfl,rfl,by kernel_rfl⟩ zav mixed (by show 3≤Tryz.f66.ntmps; decide) ?_
 refine W.r fun K hK=>?_
 simp(disch:=omega)only[↓RU,RW,↓reduceIte,qE,reduceCtorEq,iP]
 apply hK;clear hK K
 refine W.r fun K hK=>?_
 simp(disch:=omega)only[↓RU,RW,↓reduceIte,qE,reduceCtorEq,iP,↓RS,RG,qA,qM,qL,ty1,ty3,zab,ty7,zeo,zcl,za7,zaa,zep,za8,hrow,hx,hgl]
 apply hK;clear hK K
 refine W.ret ?_
 refine Br rfl ?_
 rfl
theorem z6y {g:List (List Int)} {nh nw:Nat} (hg:GW g nh nw) (rs:List Rect) {r c:Nat} (hr:r<nw) (hc:c<nh):PC Tryz.prog 60 [.int .i64 r,.int .i64 c,.ip [zar g rs] 0] (.int .i64 (gz g (nh - 1 - c) r)) true:=by
 obtain ⟨row,hrow,hrl,hx⟩:=hg.at_ (i:=nh - 1 - c) (j:=r) (by omega) (by omega)
 obtain ⟨q1,q2,q3,q4,-⟩:=hg
 have hgl:=q1
 have hcz:((nh:Int) - 1 - (c:Int)).toNat=nh - 1 - c:=by omega
 refine PC.of ⟨Tryz.func60,by kernel_rfl,rfl,by kernel_rfl⟩ zav mixed (by show 3≤Tryz.f60.ntmps; decide) ?_
 refine W.r fun K hK=>?_
 simp(disch:=omega)only[↓RU,RW,↓reduceIte,qE,reduceCtorEq,iP]
 apply hK;clear hK K
 refine W.seq_draw (by kernel_rfl) fun K hK=>?_
 simp(disch:=omega)only[↓RU,RW,↓reduceIte,qE,reduceCtorEq,iP,qN,w64,↓RS,RG,qA,qM,qL,ty1,ty3,zab,ty7,zeo,zcl,za7,zaa,zep,za8,hrow,hx,hcz,hgl]
 refine zac.pc (zh1 g rs) rfl (.inl rfl) ?_
 simp(disch:=omega)only[↓RU,RW,↓reduceIte,qE,reduceCtorEq,iP,qN,w64,↓RS,RG,qA,qM,qL,ty1,ty3,zab,ty7,zeo,zcl,za7,zaa,zep,za8,hrow,hx,hcz,hgl]
 apply hK;clear hK K
 refine W.ret ?_
 refine Br rfl ?_
 rfl
theorem z5f {g:List (List Int)} {nh nw:Nat} (hg:GW g nh nw) (rs:List Rect):PC Tryz.prog 38 [zar g rs] (zct (bgT (fun r w=>gz g w r) nh nw)) false:=by
 obtain ⟨q1,q2,q3,q4,q5,q6⟩:=hg
 have hg:GW g nh nw:=⟨q1,q2,q3,q4,q5,q6⟩
 have hgl:=q1
 obtain ⟨row0,hrow0,hrl0,-⟩:=hg.at_ (i:=0) (j:=0) (by omega) (by omega)
 refine PC.of ⟨Tryz.func38,by kernel_rfl,rfl,by kernel_rfl⟩ zav mixed (by show 1≤Tryz.f38.ntmps; decide) ?_
 refine W.joinZ [1] (fun vs S=>∃ tk:Nat,vs=[.ip [zar g rs] 0]∧S=⟨[],tk⟩) ?_ ?_
 ·
  refine W.k fun K hK=>?_
  simp(disch:=omega)only[↓RU,RW,↓reduceIte,qE,reduceCtorEq,iP,↓RS,RG,qA,qM,qL,ty7]
  apply hK;clear hK K
  refine xn ?_
  refine ⟨0,[.ip [zar g rs] 0],⟨[],1⟩,?_,?_,1,rfl,rfl⟩
  ·rfl
  rfl
 rintro vs S - ⟨tk,rfl,rfl⟩
 refine W.seq_draw (by kernel_rfl) fun K hK=>?_
 simp(disch:=omega)only[↓RU,RW,↓reduceIte,qE,reduceCtorEq,iP,qN,↓RS,RG,qA,qM,qL,ty7,hgl,hrl0]
 refine zac.pc (zir hrow0 rs) rfl (.inl rfl) ?_
 simp(disch:=omega)only[↓RU,RW,↓reduceIte,qE,reduceCtorEq,iP,qN,↓RS,RG,qA,qM,qL,ty7,hgl,hrl0]
 refine zac.pc (zh1 g rs) rfl (.inl rfl) ?_
 simp(disch:=omega)only[↓RU,RW,↓reduceIte,qE,reduceCtorEq,iP,qN,↓RS,RG,qA,qM,qL,ty7,hgl,hrl0]
 refine zac.pc (zun (c:=fun r w=>gz g w r) (nh:=nw) (nw:=nh) (by omega) (by omega) (fun _ _=>rfl) (fun _ _ _=>rfl) (fun r w h1 h2=>z0p hg rs h1 h2)) rfl (.inr rfl) ?_
 simp(disch:=omega)only[↓RU,RW,↓reduceIte,qE,reduceCtorEq,iP,qN,↓RS,RG,qA,qM,qL,ty7,hgl,hrl0]
 apply hK;clear hK K
 refine W.ret ?_
 refine Br rfl ?_
 rfl
theorem yb5 {g:List (List Int)} {nh nw:Nat} (hg:GW g nh nw) (rs:List Rect):PC Tryz.prog 34 [zar g rs] (zct (bgT (fun r w=>gz g (nh - 1 - w) r) nh nw)) false:=by
 obtain ⟨q1,q2,q3,q4,q5,q6⟩:=hg
 have hg:GW g nh nw:=⟨q1,q2,q3,q4,q5,q6⟩
 have hgl:=q1
 obtain ⟨row0,hrow0,hrl0,-⟩:=hg.at_ (i:=0) (j:=0) (by omega) (by omega)
 refine PC.of ⟨Tryz.func34,by kernel_rfl,rfl,by kernel_rfl⟩ zav mixed (by show 1≤Tryz.f34.ntmps; decide) ?_
 refine W.joinZ [1] (fun vs S=>∃ tk:Nat,vs=[.ip [zar g rs] 0]∧S=⟨[],tk⟩) ?_ ?_
 ·
  refine W.k fun K hK=>?_
  simp(disch:=omega)only[↓RU,RW,↓reduceIte,qE,reduceCtorEq,iP,↓RS,RG,qA,qM,qL,ty7]
  apply hK;clear hK K
  refine xn ?_
  refine ⟨0,[.ip [zar g rs] 0],⟨[],1⟩,?_,?_,1,rfl,rfl⟩
  ·rfl
  rfl
 rintro vs S - ⟨tk,rfl,rfl⟩
 refine W.seq_draw (by kernel_rfl) fun K hK=>?_
 simp(disch:=omega)only[↓RU,RW,↓reduceIte,qE,reduceCtorEq,iP,qN,↓RS,RG,qA,qM,qL,ty7,hgl,hrl0]
 refine zac.pc (zir hrow0 rs) rfl (.inl rfl) ?_
 simp(disch:=omega)only[↓RU,RW,↓reduceIte,qE,reduceCtorEq,iP,qN,↓RS,RG,qA,qM,qL,ty7,hgl,hrl0]
 refine zac.pc (zh1 g rs) rfl (.inl rfl) ?_
 simp(disch:=omega)only[↓RU,RW,↓reduceIte,qE,reduceCtorEq,iP,qN,↓RS,RG,qA,qM,qL,ty7,hgl,hrl0]
 refine zac.pc (zun (c:=fun r w=>gz g (nh - 1 - w) r) (nh:=nw) (nw:=nh) (by omega) (by omega) (fun _ _=>rfl) (fun _ _ _=>rfl) (fun r w h1 h2=>z6y hg rs h1 h2)) rfl (.inr rfl) ?_
 simp(disch:=omega)only[↓RU,RW,↓reduceIte,qE,reduceCtorEq,iP,qN,↓RS,RG,qA,qM,qL,ty7,hgl,hrl0]
 apply hK;clear hK K
 refine W.ret ?_
 refine Br rfl ?_
 rfl
theorem z0y {g:List (List Int)} {nh nw:Nat} (hg:GW g nh nw) (rs:List Rect) {r c:Nat} (hr:r<nh) (hc:c<nw):PC Tryz.prog 65 [.int .i64 r,.int .i64 c,.ip [zar g rs] 0] (.int .i64 (gz g r (nw - 1 - c))) true:=by
 obtain ⟨row0,hrow0,hrl0,-⟩:=hg.at_ (i:=0) (j:=0) (by omega) (by omega)
 obtain ⟨row,hrow,hrl,hx⟩:=hg.at_ (i:=r) (j:=nw - 1 - c) (by omega) (by omega)
 obtain ⟨q1,q2,q3,q4,q5,q6⟩:=hg
 have hgl:=q1
 have hcz:((nw:Int) - 1 - (c:Int)).toNat=nw - 1 - c:=by omega
 refine PC.of ⟨Tryz.func65,by kernel_rfl,rfl,by kernel_rfl⟩ zav mixed (by show 3≤Tryz.f65.ntmps; decide) ?_
 refine W.r fun K hK=>?_
 simp(disch:=omega)only[↓RU,RW,↓reduceIte,qE,reduceCtorEq,iP]
 apply hK;clear hK K
 refine W.seq_draw (by kernel_rfl) fun K hK=>?_
 simp(disch:=omega)only[↓RU,RW,↓reduceIte,qE,reduceCtorEq,iP,qN,w64,↓RS,RG,qA,qM,qL,ty1,ty3,zab,ty7,zeo,zcl,za7,zaa,zep,za8,hrow,hx,hcz,hrl0,hrl,hgl]
 refine zac.pc (zir hrow0 rs) rfl (.inl rfl) ?_
 simp(disch:=omega)only[↓RU,RW,↓reduceIte,qE,reduceCtorEq,iP,qN,w64,↓RS,RG,qA,qM,qL,ty1,ty3,zab,ty7,zeo,zcl,za7,zaa,zep,za8,hrow,hx,hcz,hrl0,hrl,hgl]
 apply hK;clear hK K
 refine W.ret ?_
 refine Br rfl ?_
 rfl
theorem z5m {g:List (List Int)} {nh nw:Nat} (hg:GW g nh nw) (rs:List Rect):PC Tryz.prog 37 [zar g rs] (zct (bgT (fun r w=>gz g r (nw - 1 - w)) nw nh)) false:=by
 obtain ⟨q1,q2,q3,q4,q5,q6⟩:=hg
 have hg:GW g nh nw:=⟨q1,q2,q3,q4,q5,q6⟩
 have hgl:=q1
 obtain ⟨row0,hrow0,hrl0,-⟩:=hg.at_ (i:=0) (j:=0) (by omega) (by omega)
 refine PC.of ⟨Tryz.func37,by kernel_rfl,rfl,by kernel_rfl⟩ zav mixed (by show 1≤Tryz.f37.ntmps; decide) ?_
 refine W.joinZ [1] (fun vs S=>∃ tk:Nat,vs=[.ip [zar g rs] 0]∧S=⟨[],tk⟩) ?_ ?_
 ·
  refine W.k fun K hK=>?_
  simp(disch:=omega)only[↓RU,RW,↓reduceIte,qE,reduceCtorEq,iP,↓RS,RG,qA,qM,qL,ty7]
  apply hK;clear hK K
  refine xn ?_
  refine ⟨0,[.ip [zar g rs] 0],⟨[],1⟩,?_,?_,1,rfl,rfl⟩
  ·rfl
  rfl
 rintro vs S - ⟨tk,rfl,rfl⟩
 refine W.seq_draw (by kernel_rfl) fun K hK=>?_
 simp(disch:=omega)only[↓RU,RW,↓reduceIte,qE,reduceCtorEq,iP,qN,↓RS,RG,qA,qM,qL,ty7,hgl,hrl0]
 refine zac.pc (zh1 g rs) rfl (.inl rfl) ?_
 simp(disch:=omega)only[↓RU,RW,↓reduceIte,qE,reduceCtorEq,iP,qN,↓RS,RG,qA,qM,qL,ty7,hgl,hrl0]
 refine zac.pc (zir hrow0 rs) rfl (.inl rfl) ?_
 simp(disch:=omega)only[↓RU,RW,↓reduceIte,qE,reduceCtorEq,iP,qN,↓RS,RG,qA,qM,qL,ty7,hgl,hrl0]
 refine zac.pc (zun (c:=fun r w=>gz g r (nw - 1 - w)) (nh:=nh) (nw:=nw) (by omega) (by omega) (fun _ _=>rfl) (fun _ _ _=>rfl) (fun r w h1 h2=>z0y hg rs h1 h2)) rfl (.inr rfl) ?_
 simp(disch:=omega)only[↓RU,RW,↓reduceIte,qE,reduceCtorEq,iP,qN,↓RS,RG,qA,qM,qL,ty7,hgl,hrl0]
 apply hK;clear hK K
 refine W.ret ?_
 refine Br rfl ?_
 rfl
theorem ydk {g:List (List Int)} {nh nw:Nat} (hg:GW g nh nw) (hok:okS g=true) (hf:zh5 g=true):PC Tryz.prog 56 [zct g] (.tup [zbi (nm g),.bool true]) false:=by
 have hgl:g.length<2147483648:=by have:=hg.1; have:=hg.2.2.2.1; omega
 have hgr:∀ r∈g,r.length<2147483648:=fun r hr=>by have:=hg.2.1 r hr; have:=hg.2.2.2.2.2; omega
 have hz:=zz9 hg
 have hb:∀ r∈zG g,∀ z∈r,0≤z∧z≤100:=by rw [hg.zG.1]; exact zit hg.2.2.2.2.2 hg.2.2.2.2.1 nh hg.2.2.2.1
 refine PC.of ⟨Tryz.func56,by kernel_rfl,rfl,by kernel_rfl⟩ zav mixed (by show 1≤Tryz.f56.ntmps; decide) ?_
 refine W.r fun K hK=>?_
 simp(disch:=omega)only[↓RU,RW,↓reduceIte,qE,reduceCtorEq,iP,↓RS,RG,qA,qM,qL]
 apply hK;clear hK K
 refine W.r fun K hK=>?_
 simp(disch:=omega)only[↓RU,RW,↓reduceIte,qE,reduceCtorEq,iP,qN,↓RS,RG,qA,qM,qL,hf]
 refine zac.pc (zr0 hgl hgr hok) rfl (.inr rfl) ?_
 simp(disch:=omega)only[↓RU,RW,↓reduceIte,qE,reduceCtorEq,iP,qN,↓RS,RG,qA,qM,qL,hf]
 apply hK;clear hK K
 refine W.seq ?_
 refine W.r fun K hK=>?_
 simp(disch:=omega)only[↓RU,RW,↓reduceIte,qE,reduceCtorEq,iP,↓RS,RG,qA,qM,qL]
 apply hK;clear hK K
 refine W.cond rfl (fun h=>?_) (fun h=>?_)
 ·try simp only[RL]at h
  exact absurd h (by simp)
 try simp only[RL]at h
 refine W.skip ?_
 refine xn ?_
 refine W.r fun K hK=>?_
 simp(disch:=omega)only[↓RU,RW,↓reduceIte,qE,reduceCtorEq,iP,qN,↓RS,RG,qA,qM,qL]
 refine zac.pc (ybz hz (stG g).2 hb) rfl (.inl rfl) ?_
 simp(disch:=omega)only[↓RU,RW,↓reduceIte,qE,reduceCtorEq,iP,qN,↓RS,RG,qA,qM,qL]
 apply hK;clear hK K
 refine W.ret ?_
 refine Br rfl ?_
 rfl
theorem zrm {p:List Txt} (hs:Sm p) (hv:zeb p=true) {f:FuncId} {cap:List PV} (hc:∀ (S:Store) (k:Nat),cap.mapM (reify S true (k+1))=some cap) {g:List (List Int)} {nh nw:Nat} (hg:GW g nh nw) (hok:okS g=true) (hf:zh5 g=true) (hF:PC Tryz.prog f (zar (gP p) (rP p)::cap) (zct g) false):PC Tryz.prog 33 [zbi p,.fn f cap] (.tup [zbi (nm g),.bool true]) false:=by
 obtain ⟨x,hx,hxy,hxr⟩:=zdd hs
 obtain rfl:=hxy hv
 refine PC.of ⟨Tryz.func33,by kernel_rfl,rfl,by kernel_rfl⟩ zav mixed (by show 2≤Tryz.f33.ntmps; decide) ?_
 refine W.r fun K hK=>?_
 simp(disch:=omega)only[↓RU,RW,↓reduceIte,qE,reduceCtorEq,iP,↓RS,RG,qA,qM,qL]
 apply hK;clear hK K
 refine W.r fun K hK=>?_
 simp(disch:=omega)only[↓RU,RW,↓reduceIte,qE,reduceCtorEq,iP,qN,↓RS,RG,qA,qM,qL,hv]
 refine zac.pc (hx) rfl (.inr rfl) ?_
 simp(disch:=omega)only[↓RU,RW,↓reduceIte,qE,reduceCtorEq,iP,qN,↓RS,RG,qA,qM,qL,hv]
 apply hK;clear hK K
 refine W.seq ?_
 refine W.r fun K hK=>?_
 simp(disch:=omega)only[↓RU,RW,↓reduceIte,qE,reduceCtorEq,iP,↓RS,RG,qA,qM,qL]
 apply hK;clear hK K
 refine W.cond rfl (fun h=>?_) (fun h=>?_)
 ·try simp only[RL]at h
  exact absurd h (by simp)
 try simp only[RL]at h
 refine W.skip ?_
 refine xn ?_
 refine W.r fun K hK=>?_
 simp(disch:=omega)only[↓RU,RW,↓reduceIte,qE,reduceCtorEq,iP,qN,↓RS,RG,qA,qM,qL]
 refine zac.pc (hF) (za5 rfl (hc _ 9)) (.inr (za5 rfl (hc _ 9))) ?_
 simp(disch:=omega)only[↓RU,RW,↓reduceIte,qE,reduceCtorEq,iP,qN,↓RS,RG,qA,qM,qL]
 refine zac.pc (ydk hg hok hf) rfl (.inr rfl) ?_
 simp(disch:=omega)only[↓RU,RW,↓reduceIte,qE,reduceCtorEq,iP,qN,↓RS,RG,qA,qM,qL]
 apply hK;clear hK K
 refine W.ret ?_
 refine Br rfl ?_
 rfl
theorem yfp {c:Nat→Nat→Int} {nw n i j:Nat} (hi:i<n) (hj:j<nw):gz (bgT c nw n) i j=c i j:=by
 simp [gz,bgT,hi,hj]
theorem zul {c:Nat→Nat→Int} {c0:Nat→Nat→Nat} {H W:Nat} (h1:1≤H) (h2:H≤6) (h3:1≤W) (h4:W≤6) (h:∀ i j,i<H→j<W→c i j=((c0 i j:Nat):Int)):Cells c0 (bgT c W H) H W:=by
 refine ⟨⟨zuk,fun r hr=>?_,h1,h2,h3,h4⟩,fun i j hi hj=>by rw [yfp hi hj,h i j hi hj]⟩
 obtain ⟨a,-,rfl⟩:=List.mem_map.1 hr
 simp
structure Made (c:Nat→Nat→Nat) (H W:Nat) (g:List (List Int)):Prop where
 gw:GW g H W
 ok:okS g=true
 full:zh5 g=true
 plan:zbk (nm g)=true
 ren:Ren c H W (nm g)
theorem Made.sm {c:Nat→Nat→Nat} {H W:Nat} {g:List (List Int)} (h:Made c H W g):Sm (nm g):=Sm.grid (zde h.plan)
def yb3 (p:List Txt):List (List Int):=bgT (fun r w=>gz (gP p) w r) p.length (zag p).length
def yi5 (p:List Txt):List (List Int):=bgT (fun r w=>gz (gP p) (p.length - 1 - w) r) p.length (zag p).length
theorem z1g {c0:Nat→Nat→Nat} {g:List (List Int)} {H W n:Nat} (hc:Cells c0 g H W) (hn:∀ i j,i<H→j<W→c0 i j<n) (h9:n≤9)
  (hr:∀ {i j i' j':Nat} (k l:Nat),i<H→i'<H→j<W→j'<W→c0 i j=c0 i' j'→min i i'≤k→k≤max i i'→min j j'≤l→l≤max j j'→c0 k l=c0 i j):Made c0 H W g:=by
 have hle:=ya3 hc hn
 obtain ⟨h1,h2⟩:=z9p hc (by omega) hr
 obtain ⟨h3,h4⟩:=z5z hc (by omega) hr
 exact ⟨hc.gw,h3,h4,h1,h2⟩
theorem zco {p:List Txt} (hp:zbk p=true):1≤p.length∧p.length≤6∧1≤(zag p).length∧(zag p).length≤6∧GW (gP p) p.length (zag p).length∧zeb p=true∧(rP p).length≤9∧∀ i j,i<p.length→j<(zag p).length→gz (gP p) i j=((cn (gP p) i j:Nat):Int):=by
 have hv:zeb p=true:=by rw [zc3]; exact hp
 have hok:=hv
 unfold zeb at hok
 rw [qB]at hok
 have hg:=zx8 hok.1
 rw [zfy]at hg
 have hg2:=hg
 obtain ⟨-,-,q3,q4,q5,q6⟩:=hg2
 refine ⟨q3,q4,q5,q6,hg,hv,zmg hok.1,fun i j hi hj=>?_⟩
 have:=ze2 (p:=p) i j hi hj
 unfold cn; omega
theorem z0j {p:List Txt} (hp:zbk p=true) {i j i' j':Nat} (k l:Nat) (hi:i<p.length) (hi':i'<p.length) (hj:j<(zag p).length) (hj':j'<(zag p).length) (e:cn (gP p) i j=cn (gP p) i' j')
  (h1:min i i'≤k) (h2:k≤max i i') (h3:min j j'≤l) (h4:l≤max j j'):cn (gP p) k l=cn (gP p) i j:=by
 have a:=zdy hp hi hj
 have b:=zdy hp hi' hj'
 have c:=zdy hp (i:=k) (j:=l) (by omega) (by omega)
 have:=ze3 hp (i:=i) (j:=j) (i':=i') (j':=j') k l hi hi' hj hj' (by omega) h1 h2 h3 h4
 omega
def yhe (p:List Txt):List (List Int):=bgT (fun r w=>gz (gP p) r ((zag p).length - 1 - w)) (zag p).length p.length
theorem z41 {p:List Txt} (hp:zbk p=true):Made (fun i j=>cn (gP p) j i) (zag p).length p.length (yb3 p):=by
 obtain ⟨q1,q2,q3,q4,-,-,q7,q8⟩:=zco hp
 exact z1g (zul q3 q4 q1 q2 fun i j hi hj=>q8 j i hj hi) (fun i j hi hj=>zlu ze2 hj hi) q7 fun k l a b c d e f1 f2 f3 f4=>z0j hp l k c d a b e f3 f4 f1 f2
theorem yb4 {p:List Txt} (hp:zbk p=true):Made (fun i j=>cn (gP p) (p.length - 1 - j) i) (zag p).length p.length (yi5 p):=by
 obtain ⟨q1,q2,q3,q4,-,-,q7,q8⟩:=zco hp
 exact z1g (zul q3 q4 q1 q2 fun i j hi hj=>q8 (p.length - 1 - j) i (by omega) hi) (fun i j hi hj=>zlu ze2 (by omega) hi) q7 fun k l a b c d e f1 f2 f3 f4=>z0j hp _ _ (by omega) (by omega) a b e (by omega) (by omega) f1 f2
theorem z8i {p:List Txt} (hp:zbk p=true):Made (fun i j=>cn (gP p) i ((zag p).length - 1 - j)) p.length (zag p).length (yhe p):=by
 obtain ⟨q1,q2,q3,q4,-,-,q7,q8⟩:=zco hp
 exact z1g (zul q1 q2 q3 q4 fun i j hi hj=>q8 i ((zag p).length - 1 - j) hi (by omega)) (fun i j hi hj=>zlu ze2 hi (by omega)) q7 fun k l a b c d e f1 f2 f3 f4=>z0j hp _ _ a b (by omega) (by omega) e f1 f2 (by omega) (by omega)
structure Of (p t:List Txt) (H W:Nat) (f g:Nat→Nat→Nat):Prop where
 src:zbk p=true
 plan:zbk t=true
 h:t.length=H
 w:(zag t).length=W
 pat:∀ i j i' j',i<H→j<W→i'<H→j'<W→(zaf t i j=zaf t i' j'↔zaf p (f i j) (g i j)=zaf p (f i' j') (g i' j'))
theorem z1j {p:List Txt} {H W:Nat} {f g:Nat→Nat→Nat} {G:List (List Int)} (hp:zbk p=true) (h:∀ i j,i<H→j<W→f i j<p.length∧g i j<(zag p).length) (m:Made (fun i j=>cn (gP p) (f i j) (g i j)) H W G):Of p (nm G) H W f g:=by
 refine ⟨hp,m.plan,m.ren.hl,m.ren.wl,fun i j i' j' hi hj hi' hj'=>?_⟩
 have h0:=m.ren.pat i j i' j' hi hj hi' hj'
 have a1:=zdy m.plan (i:=i) (j:=j) (by rw [m.ren.hl]; exact hi) (by rw [m.ren.wl]; exact hj)
 have a2:=zdy m.plan (i:=i') (j:=j') (by rw [m.ren.hl]; exact hi') (by rw [m.ren.wl]; exact hj')
 have b1:=zdy hp (h i j hi hj).1 (h i j hi hj).2
 have b2:=zdy hp (h i' j' hi' hj').1 (h i' j' hi' hj').2
 omega
abbrev Turn (p t:List Txt):Prop:=Of p t (zag p).length p.length (fun _ j=>p.length - 1 - j) fun i _=>i
abbrev Flip (p t:List Txt):Prop:=Of p t p.length (zag p).length (fun i _=>i) fun _ j=>(zag p).length - 1 - j
abbrev Tran (p t:List Txt):Prop:=Of p t (zag p).length p.length (fun _ j=>j) fun i _=>i
theorem zlh {p:List Txt} (hp:zbk p=true):Turn p (nm (yi5 p)):=z1j hp (fun _ _ _ _=>by omega) (yb4 hp)
theorem z8h {p:List Txt} (hp:zbk p=true):Flip p (nm (yhe p)):=z1j hp (fun _ _ _ _=>by omega) (z8i hp)
theorem yb2 {p:List Txt} (hp:zbk p=true):Tran p (nm (yb3 p)):=z1j hp (fun _ _ _ _=>by omega) (z41 hp)
theorem ye2 {p q:List Txt} (hp:zbk p=true) (hq:zbk q=true) (hl:q.length=p.length) (hw:(zag q).length=(zag p).length)
  (h:∀ i j i' j',i<p.length→j<(zag p).length→i'<p.length→j'<(zag p).length→(zaf q i j=zaf q i' j'↔zaf p i j=zaf p i' j')):q=p:=by
 have key:∀ {x:List Txt},zbk x=true→GW (zbm x) x.length (zag x).length∧(∀ i j i' j',i<x.length→j<(zag x).length→i'<x.length→j'<(zag x).length→(gz (zbm x) i j=gz (zbm x) i' j'↔zaf x i j=zaf x i' j'))∧zf9 (gP x)=x:=by
  intro x hx
  have hN:=zb6 hx
  have hg:=zde hx
  rw [zu2,qB,znx,zdn,zfy]at hg
  refine ⟨hg.2,fun i j i' j' a b c d=>?_,hN.ht⟩
  rw [← hN.cell a b,← hN.cell c d]
  exact (ych hg.2 i j i' j' a b c d).symm
 obtain ⟨a1,a2,a3⟩:=key hp
 obtain ⟨b1,b2,b3⟩:=key hq
 rw [hl,hw]at b1
 rw [hl,hw]at b2
 rw [← a3,← b3]
 unfold gP
 rw [a1.zG.1,b1.zG.1,zoe (g1:=zbm q) (g2:=zbm p) (fun i j i' j' a b c d=>by rw [a2 i j i' j' a b c d,b2 i j i' j' a b c d,h i j i' j' a b c d]) p.length (qR _)]
theorem Of.comp {p t u:List Txt} {H W H' W':Nat} {f g f' g':Nat→Nat→Nat} (h:Of p t H W f g) (k:Of t u H' W' f' g') (hi:∀ i j,i<H'→j<W'→f' i j<H∧g' i j<W):Of p u H' W' (fun i j=>f (f' i j) (g' i j)) fun i j=>g (f' i j) (g' i j) :=
 ⟨h.src,k.plan,k.h,k.w,fun i j i' j' a b c d=>by rw [k.pat i j i' j' a b c d,h.pat _ _ _ _ (hi i j a b).1 (hi i j a b).2 (hi i' j' c d).1 (hi i' j' c d).2]⟩
theorem Of.same {p t:List Txt} {f g:Nat→Nat→Nat} (h:Of p t p.length (zag p).length f g) (hf:∀ i j,i<p.length→j<(zag p).length→f i j=i∧g i j=j):t=p :=
 ye2 h.src h.plan h.h h.w fun i j i' j' a b c d=>by rw [h.pat i j i' j' a b c d,(hf i j a b).1,(hf i j a b).2,(hf i' j' c d).1,(hf i' j' c d).2]
theorem zz4 {p a b c d:List Txt} (h1:Turn p a) (h2:Turn a b) (h3:Turn b c) (h4:Turn c d):d=p:=by
 unfold Turn at h2 h3 h4
 have e1:=h1.h; have e2:=h1.w; have e3:=h2.h; have e4:=h2.w; have e5:=h3.h; have e6:=h3.w
 simp only[e1,e2,e3,e4,e5,e6]at h2 h3 h4
 exact (((h1.comp h2 fun _ _ _ _=>by omega).comp h3 fun _ _ _ _=>by omega).comp h4 fun _ _ _ _=>by omega).same fun i j _ _=>by omega
theorem ydd {p a b:List Txt} (h1:Flip p a) (h2:Flip a b):b=p:=by
 unfold Flip at h2
 have e1:=h1.h; have e2:=h1.w
 simp only[e1,e2]at h2
 exact (h1.comp h2 fun _ _ _ _=>by omega).same fun i j _ _=>by omega
theorem yey {p a b:List Txt} (h1:Tran p a) (h2:Tran a b):b=p:=by
 unfold Tran at h2
 have e1:=h1.h; have e2:=h1.w
 simp only[e1,e2]at h2
 exact (h1.comp h2 fun _ _ _ _=>by omega).same fun i j _ _=>by omega
section
def sm (f:Nat→Nat):Nat→Nat
 | 0=>0
 | n+1=>sm f n+f n
theorem zgf {f g:Nat→Nat}:∀ {n:Nat},(∀ i,i<n→f i=g i)→sm f n=sm g n
 | 0,_=>rfl
 | n+1,h=>by unfold sm; rw [zgf fun i hi=>h i (by omega),h n (by omega)]
theorem ygh {f g:Nat→Nat}:∀ {n:Nat},sm (fun i=>f i+g i) n=sm f n+sm g n
 | 0=>rfl
 | n+1=>by unfold sm; rw [ygh]; omega
theorem ybl:∀ {n:Nat},sm (fun _=>0) n=0
 | 0=>rfl
 | n+1=>by unfold sm; rw [ybl]
theorem ybk {f:Nat→Nat→Nat} {m:Nat}:∀ {n:Nat},sm (fun i=>sm (fun j=>f i j) m) n=sm (fun j=>sm (fun i=>f i j) n) m
 | 0=>ybl.symm
 | n+1=>by
  have e:sm (fun j=>sm (fun i=>f i j) (n+1)) m=sm (fun j=>sm (fun i=>f i j) n+f n j) m:=rfl
  rw [e,ygh,← ybk (n:=n)]
  rfl
theorem ybj {f:Nat→Nat}:∀ {n:Nat},sm f (n+1)=f 0+sm (fun i=>f (i+1)) n
 | 0=>by simp [sm]
 | n+1=>by
  have e:sm f (n+2)=sm f (n+1)+f (n+1):=rfl
  have e2:sm (fun i=>f (i+1)) (n+1)=sm (fun i=>f (i+1)) n+f (n+1):=rfl
  rw [e,e2,ybj]
  omega
theorem z4s {f:Nat→Nat}:∀ {n:Nat},sm f n=sm (fun i=>f (n - 1 - i)) n
 | 0=>rfl
 | n+1=>by
  rw [ybj (f:=fun i=>f (n+1 - 1 - i))]
  have e:sm f (n+1)=sm f n+f n:=rfl
  rw [e,z4s (n:=n),Nat.add_comm]
  congr 1
  exact zgf fun i hi=>by rw [show n+1 - 1 - (i+1)=n - 1 - i by omega]
def D4 (a b c d:Int):Bool:=decide (a≠b∧a≠c∧a≠d∧b≠c∧b≠d∧c≠d)
theorem yk9 {a b c d:Int}:((dn [a,b,c,d]:Nat):Int)=4↔D4 a b c d=true:=by
 unfold D4 dn dn dn dn dn
 simp only[List.mem_cons,List.not_mem_nil,or_false,decide_eq_true_eq]
 by_cases h1:a=b∨a=c∨a=d
 ·rw [if_pos h1]
  have:(if b=c∨b=d then 0 else 1)≤1:=by split <;> omega
  have:(if c=d then 0 else 1)≤1:=by split <;> omega
  constructor
  ·intro h; simp only[if_false]at h; omega
  rintro ⟨x,y,z,-⟩; rcases h1 with h | h | h <;> contradiction
 rw [if_neg h1]
 by_cases h2:b=c∨b=d
 ·rw [if_pos h2]
  have:(if c=d then 0 else 1)≤1:=by split <;> omega
  constructor
  ·intro h; simp only[if_false]at h; omega
  rintro ⟨-,-,-,x,y,-⟩; rcases h2 with h | h <;> contradiction
 rw [if_neg h2]
 by_cases h3:c=d
 ·rw [if_pos h3]
  constructor
  ·intro h; simp only[if_false]at h; omega
  rintro ⟨-,-,-,-,-,x⟩; exact absurd h3 x
 rw [if_neg h3]
 constructor
 ·intro _; exact ⟨fun h=>h1 (.inl h),fun h=>h1 (.inr (.inl h)),fun h=>h1 (.inr (.inr h)),fun h=>h2 (.inl h),fun h=>h2 (.inr h),h3⟩
 intro _; rfl
def crs (z:Nat→Nat→Int) (H W:Nat):Nat:=sm (fun i=>sm (fun k=>if D4 (z i k) (z i (k+1)) (z (i+1) k) (z (i+1) (k+1)) then 1 else 0) (W - 1)) (H - 1)
theorem zty {g:List (List Int)} {i:Nat}:∀ {w:Nat},zdu g 4 (i+1) (w+1)=((sm (fun k=>if D4 (gz g i k) (gz g i (k+1)) (gz g (i+1) k) (gz g (i+1) (k+1)) then 1 else 0) w:Nat):Int)
 | 0=>by simp [zdu,sm]
 | w+1=>by
  unfold zdu sm
  rw [zty (w:=w)]
  have e:(((dn (four g (i+1) (w+1)):Nat):Int)=4)↔D4 (gz g i w) (gz g i (w+1)) (gz g (i+1) w) (gz g (i+1) (w+1))=true:=yk9
  by_cases h:D4 (gz g i w) (gz g i (w+1)) (gz g (i+1) w) (gz g (i+1) (w+1))=true
  ·rw [if_pos ⟨by omega,e.2 h⟩,if_pos h]; omega
  rw [if_neg fun h2=>h (e.1 h2.2),if_neg h]; omega
theorem yaf {g:List (List Int)} {w:Nat} (hw:1≤w):∀ {h:Nat},zsk g 4 w (h+1)=((sm (fun i=>sm (fun k=>if D4 (gz g i k) (gz g i (k+1)) (gz g (i+1) k) (gz g (i+1) (k+1)) then 1 else 0) (w - 1)) h:Nat):Int)
 | 0=>by simp [zsk,sm]
 | h+1=>by
  unfold zsk sm
  rw [yaf hw (h:=h),if_pos (by omega)]
  have:=zty (g:=g) (i:=h) (w:=w - 1)
  rw [show w - 1+1=w by omega]at this
  rw [this]
  omega
theorem yah {p:List Txt} (hp:zbk p=true):zsk (gP p) 4 (zag p).length p.length=((crs (zaf p) p.length (zag p).length:Nat):Int):=by
 obtain ⟨q1,-,q3,-⟩:=zco hp
 have hN:=zb6 hp
 have:=yaf (g:=gP p) q3 (h:=p.length - 1)
 rw [show p.length - 1+1=p.length by omega]at this
 rw [this]
 unfold crs
 congr 1
 refine zgf fun i hi=>zgf fun k hk=>?_
 rw [hN.cell (by omega) (by omega),hN.cell (by omega) (by omega),hN.cell (by omega) (by omega),hN.cell (by omega) (by omega)]
section
variable {p t:List Txt}
theorem yc8 (h:Turn p t):crs (zaf t) t.length (zag t).length=crs (zaf p) p.length (zag p).length:=by
 have key:∀ k i k' i',k<p.length→i<(zag p).length→k'<p.length→i'<(zag p).length→(zaf t i (p.length - 1 - k)=zaf t i' (p.length - 1 - k')↔zaf p k i=zaf p k' i'):=fun k i k' i' a b c d=>by
  rw [h.pat i _ i' _ b (by omega) d (by omega),show p.length - 1 - (p.length - 1 - k)=k by omega,show p.length - 1 - (p.length - 1 - k')=k' by omega]
 rw [h.h,h.w]
 unfold crs
 rw [ybk,z4s]
 refine zgf fun r hr=>zgf fun i hi=>?_
 rw [show p.length - 1 - 1 - r+1=p.length - 1 - r by omega,show p.length - 1 - 1 - r=p.length - 1 - (r+1) by omega]
 congr 2
 unfold D4
 simp(disch:=omega)only[ne_eq,key]
 apply decide_eq_decide.2
 exact ⟨fun ⟨u1,u2,u3,u4,u5,u6⟩=>⟨u5,Ne.symm u1,u4,Ne.symm u3,Ne.symm u6,u2⟩,fun ⟨v1,v2,v3,v4,v5,v6⟩=>⟨Ne.symm v2,v6,Ne.symm v4,v3,v1,Ne.symm v5⟩⟩
theorem yc7 (h:Flip p t):crs (zaf t) t.length (zag t).length=crs (zaf p) p.length (zag p).length:=by
 have key:∀ i k i' k',i<p.length→k<(zag p).length→i'<p.length→k'<(zag p).length→(zaf t i ((zag p).length - 1 - k)=zaf t i' ((zag p).length - 1 - k')↔zaf p i k=zaf p i' k'):=fun i k i' k' a b c d=>by
  rw [h.pat i _ i' _ a (by omega) c (by omega),show (zag p).length - 1 - ((zag p).length - 1 - k)=k by omega,show (zag p).length - 1 - ((zag p).length - 1 - k')=k' by omega]
 rw [h.h,h.w]
 unfold crs
 refine zgf fun i hi=>?_
 rw [z4s]
 refine zgf fun r hr=>?_
 rw [show (zag p).length - 1 - 1 - r+1=(zag p).length - 1 - r by omega,show (zag p).length - 1 - 1 - r=(zag p).length - 1 - (r+1) by omega]
 congr 2
 unfold D4
 simp(disch:=omega)only[ne_eq,key]
 apply decide_eq_decide.2
 exact ⟨fun ⟨u1,u2,u3,u4,u5,u6⟩=>⟨Ne.symm u1,u5,u4,u3,u2,Ne.symm u6⟩,fun ⟨v1,v2,v3,v4,v5,v6⟩=>⟨Ne.symm v1,v5,v4,v3,v2,Ne.symm v6⟩⟩
def z71 (p:List Txt):Nat:=sm (fun k=>if thW p (k+1) then 1 else 0) ((zag p).length - 1)+sm (fun k=>if thW (zcq p) (k+1) then 1 else 0) (p.length - 1)
theorem yb0 {k:Nat} (hk:k+1<p.length):thW (zcq p) (k+1)=true↔∀ j,j<(zag p).length→zaf p k j≠zaf p (k+1) j:=by
 rw [zob,zfu]
 constructor
 ·intro h j hj; have:=h j hj; rwa [zfa (by omega) hj,zfa hk hj]at this
 intro h j hj; rw [zfa (by omega) hj,zfa hk hj]; exact h j hj
theorem z72 (h:Turn p t):z71 t=z71 p:=by
 unfold z71
 rw [h.h,h.w,Nat.add_comm]
 congr 1
 ·refine zgf fun k hk=>?_
  have e:thW (zcq t) (k+1)=thW p (k+1):=by
   rw [Bool.eq_iff_iff,yb0 (by rw [h.h]; omega),zob,h.w]
   constructor
   ·intro H i hi e
    refine H (p.length - 1 - i) (by omega) ((h.pat _ _ _ _ (by omega) (by omega) (by omega) (by omega)).2 ?_)
    rwa [show p.length - 1 - (p.length - 1 - i)=i by omega]
   intro H j hj e
   exact H (p.length - 1 - j) (by omega) ((h.pat _ _ _ _ (by omega) (by omega) (by omega) (by omega)).1 e)
  rw [e]
 rw [z4s]
 refine zgf fun k hk=>?_
 have e:thW t (p.length - 1 - 1 - k+1)=thW (zcq p) (k+1):=by
  rw [Bool.eq_iff_iff,yb0 (by omega),zob,h.h]
  have hx:∀ i,i<(zag p).length→(zaf t i (p.length - 1 - 1 - k+1 - 1)=zaf t i (p.length - 1 - 1 - k+1)↔zaf p k i=zaf p (k+1) i):=by
   intro i hi
   rw [h.pat i _ i _ hi (by omega) hi (by omega),show p.length - 1 - (p.length - 1 - 1 - k+1 - 1)=k+1 by omega,show p.length - 1 - (p.length - 1 - 1 - k+1)=k by omega]
   exact eq_comm
  constructor
  ·intro H j hj e; exact H j hj ((hx j hj).2 e)
  intro H i hi e; exact H i hi ((hx i hi).1 e)
 rw [e]
theorem ye3 (hp:1≤p.length) {k:Nat} {s0:List (List Int)}:((zeh p k s0 (p.length+1)).2).countP (zd0 p.length)=s0.countP (zd0 p.length)+if thW p k then 1 else 0:=by
 have no:∀ {L:List (List Int)},(∀ w∈L,zd0 p.length w=false)→L.countP (zd0 p.length)=0:=fun h=>List.countP_eq_zero.2 fun w hw=>by simp [h w hw]
 rcases zr6 (p:=p) (k:=k) (s0:=s0) p.length (qR _) with ⟨h1,h2⟩ | ⟨h1,h2,h3,L,h4,h5⟩
 ·rw [zpx]at h1
  have h0:p.length≠0:=by omega
  rw [h1]
  simp only[zeh,h2,zeq,zjs]
  simp [h0,zd0,zcw]
 rw [zpx]at h1
 simp only[h1,if_false,qF]
 simp only[zeh,zeq,zjs]
 generalize (zeh p k s0 p.length).1=f at h2 h3
 simp only[Bool.false_and,qF,if_false,Bool.not_false,Bool.true_and,decide_eq_true_eq]
 by_cases hf:0≤f
 ·rw [if_pos hf,h4,List.countP_append,List.countP_append,no h5,List.countP_singleton]
  have:zd0 p.length [(k:Int),f,(p.length:Int) - f]=false:=by simp [zd0,zcw]; omega
  rw [this]; simp
 rw [if_neg hf,h4,List.countP_append,no h5]
theorem zr7 (hp:1≤p.length):∀ K,(zc5 p (K+1)).countP (zd0 p.length)=sm (fun k=>if thW p (k+1) then 1 else 0) K
 | 0=>by simp [zc5,sm]
 | K+1=>by
  rw [zke (by omega),ye3 hp,zr7 hp K]
  rfl
def zon (H W:Nat) (w:Wall):Bool:=decide (w.long=if w.level then (W:Int) else H)
theorem z5j (hp:zbk p=true):(zau (gP p) p.length (zag p).length).countP (zon p.length (zag p).length)=z71 p:=by
 obtain ⟨q1,-,q3,-⟩:=zco hp
 have hN:=zb6 hp
 have he:=z61 (g:=gP p) (zde hp) fun i j hi hj=>hN.cell hi hj
 have hc:(zau (gP p) p.length (zag p).length).countP (zon p.length (zag p).length)=(walls p).countP fun e=>decide (zcw e 3=if zcw e 0=1 then ((zag p).length:Int) else p.length):=by
  rw [← he,List.countP_map]
  refine List.countP_congr fun w _=>?_
  obtain ⟨lv,ln,fr,lg⟩:=w
  cases lv <;> simp [zcw,zon,z8b,kk]
 rw [hc]
 unfold walls z71 uprights
 rw [List.countP_append,List.countP_map,List.countP_map,zkd (by omega)]
 have e1:=zr7 (p:=p) q1 ((zag p).length - 1)
 have e2:=zr7 (p:=zcq p) (by rw [zfu]; exact q3) (p.length - 1)
 rw [show (zag p).length - 1+1=(zag p).length by omega]at e1
 rw [show p.length - 1+1=p.length by omega,zfu]at e2
 rw [← e1,← e2]
 congr 1 <;> refine List.countP_congr fun w _=>?_ <;> simp [zcw,zd0]
end
inductive Cb (z:Nat→Nat→Int):Pt→Prop where
 | one (t:Pt):zlp z t=true→Cb z t
 | cut (t:Pt) (lv:Bool) (k:Nat):1≤k→(if lv then k<t.h∧thL z t k=true else k<t.w∧thU z t k=true)→Cb z (t.one (lv,k))→Cb z (t.two (lv,k))→Cb z t
def Pt.inP (s t:Pt):Prop:=1≤s.h∧1≤s.w∧t.r≤s.r∧s.r+s.h≤t.r+t.h∧t.c≤s.c∧s.c+s.w≤t.c+t.w
theorem Cb.sub {z:Nat→Nat→Int} {t:Pt} (h:Cb z t):∀ {s:Pt},s.inP t→Cb z s:=by
 induction h with
 | one t h =>
  rintro s ⟨s1,s2,s3,s4,s5,s6⟩
  refine .one s (zfp.2 fun i j hi hj=>?_)
  have a:=zfp.1 h (s.r - t.r+i) (s.c - t.c+j) (by omega) (by omega)
  have b:=zfp.1 h (s.r - t.r) (s.c - t.c) (by omega) (by omega)
  rw [show t.r+(s.r - t.r+i)=s.r+i by omega,show t.c+(s.c - t.c+j)=s.c+j by omega]at a
  rw [show t.r+(s.r - t.r)=s.r by omega,show t.c+(s.c - t.c)=s.c by omega]at b
  rw [a,b]
 | cut t lv k hk hc _ _ ih1 ih2 =>
  rintro s ⟨s1,s2,s3,s4,s5,s6⟩
  cases lv with
  | true =>
   simp only[if_true]at hc
   simp only[Pt.one,Pt.two,if_true]at ih1 ih2
   by_cases h1:s.r+s.h≤t.r+k
   ·exact ih1 ⟨s1,s2,s3,h1,s5,s6⟩
   by_cases h2:t.r+k≤s.r
   ·exact ih2 ⟨s1,s2,h2,by simp only; omega,s5,s6⟩
   refine .cut s true (t.r+k - s.r) (by omega) ?_ ?_ ?_
   ·simp only[if_true]
    refine ⟨by omega,zio.2 fun j hj=>?_⟩
    have:=zio.1 hc.2 (s.c - t.c+j) (by omega)
    rwa [show t.c+(s.c - t.c+j)=s.c+j by omega,show t.r+k=s.r+(t.r+k - s.r) by omega]at this
   ·exact ih1 ⟨by simp only[Pt.one,if_true]; omega,by simp only[Pt.one,if_true]; omega,by simp only[Pt.one,if_true]; omega,by simp only[Pt.one,if_true]; omega,by simp only[Pt.one,if_true]; omega,by simp only[Pt.one,if_true]; omega⟩
   exact ih2 ⟨by simp only[Pt.two,if_true]; omega,by simp only[Pt.two,if_true]; omega,by simp only[Pt.two,if_true]; omega,by simp only[Pt.two,if_true]; omega,by simp only[Pt.two,if_true]; omega,by simp only[Pt.two,if_true]; omega⟩
  | false =>
   simp only[qF,if_false]at hc
   simp only[Pt.one,Pt.two,qF,if_false]at ih1 ih2
   by_cases h1:s.c+s.w≤t.c+k
   ·exact ih1 ⟨s1,s2,s3,s4,s5,h1⟩
   by_cases h2:t.c+k≤s.c
   ·exact ih2 ⟨s1,s2,s3,s4,h2,by simp only; omega⟩
   refine .cut s false (t.c+k - s.c) (by omega) ?_ ?_ ?_
   ·simp only[qF,if_false]
    refine ⟨by omega,ziq.2 fun i hi=>?_⟩
    have:=ziq.1 hc.2 (s.r - t.r+i) (by omega)
    rwa [show t.r+(s.r - t.r+i)=s.r+i by omega,show t.c+k=s.c+(t.c+k - s.c) by omega]at this
   ·exact ih1 ⟨by simp only[Pt.one,qF,if_false]; omega,by simp only[Pt.one,qF,if_false]; omega,by simp only[Pt.one,qF,if_false]; omega,by simp only[Pt.one,qF,if_false]; omega,by simp only[Pt.one,qF,if_false]; omega,by simp only[Pt.one,qF,if_false]; omega⟩
   exact ih2 ⟨by simp only[Pt.two,qF,if_false]; omega,by simp only[Pt.two,qF,if_false]; omega,by simp only[Pt.two,qF,if_false]; omega,by simp only[Pt.two,qF,if_false]; omega,by simp only[Pt.two,qF,if_false]; omega,by simp only[Pt.two,qF,if_false]; omega⟩
theorem zwb {z:Nat→Nat→Int} {H W:Nat}:∀ (n:Nat) {t:Pt},t.In H W→t.h*t.w≤n→((zck z t).isSome=true↔Cb z t)
 | 0,t,hi,hn=>by have:=Nat.mul_pos hi.1 hi.2.1; omega
 | n+1,t,hi,hn=>by
  cases h1:zlp z t with
  | true=>rw [zhg hi h1]; exact ⟨fun _ => .one t h1,fun _=>rfl⟩
  | false =>
   cases hc:zdc z t with
   | none =>
    rw [zg5 hi h1 hc]
    refine ⟨fun h=>absurd h (by simp),fun h=>?_⟩
    obtain ⟨c1,c2⟩:=znk.1 hc
    cases h with
    | one _ h=>rw [h1]at h; cases h
    | cut _ lv k hk h _ _ =>
     cases lv with
     | true=>simp only[if_true]at h; have:=c2 k hk h.1; rw [h.2]at this; cases this
     | false=>simp only[qF,if_false]at h; have:=c1 k hk h.1; rw [h.2]at this; cases this
   | some q =>
    obtain ⟨i1,i2,a1,a2⟩:=hi.cut hc
    obtain ⟨c1,c2⟩:=zeu hc
    have b1:=zwb n i1 (by omega) (z:=z)
    have b2:=zwb n i2 (by omega) (z:=z)
    have hin:(t.one q).inP t∧(t.two q).inP t:=by
     have j1:=i1; have j2:=i2
     obtain ⟨lv,k⟩:=q
     unfold Pt.In at j1 j2
     unfold Pt.inP
     cases lv with
     | true=>simp only[Pt.one,Pt.two,if_true]at c2 j1 j2 ⊢; omega
     | false=>simp only[Pt.one,Pt.two,qF,if_false]at c2 j1 j2 ⊢; omega
    rw [zfv hi h1 hc]
    constructor
    ·intro h
     cases h3:zck z (t.one q) with
     | none=>rw [h3]at h; cases h
     | some x =>
      cases h4:zck z (t.two q) with
      | none=>rw [h3,h4]at h; cases h
      | some y=>exact .cut t q.1 q.2 c1 c2 (b1.1 (by rw [h3]; rfl)) (b2.1 (by rw [h4]; rfl))
    intro h
    have d1:=b1.2 (h.sub hin.1)
    have d2:=b2.2 (h.sub hin.2)
    cases h3:zck z (t.one q) with
    | none=>rw [h3]at d1; cases d1
    | some x =>
     cases h4:zck z (t.two q) with
     | none=>rw [h4]at d2; cases d2
     | some y=>rfl
def Pt.trn (H:Nat) (t:Pt):Pt:=⟨t.c,H - (t.r+t.h),t.w,t.h⟩
theorem Cb.turn {p u:List Txt} (h:Turn p u) {t:Pt} (k:Cb (zaf p) t):t.In p.length (zag p).length→Cb (zaf u) (t.trn p.length):=by
 induction k with
 | one t h1 =>
  intro hi
  unfold Pt.In at hi
  refine .one _ (zfp.2 fun i j h2 h3=>?_)
  simp only[Pt.trn]at h2 h3 ⊢
  rw [h.pat _ _ _ _ (by omega) (by omega) (by omega) (by omega)]
  have a:=zfp.1 h1 (t.h - 1 - j) i (by omega) (by omega)
  have b:=zfp.1 h1 (t.h - 1) 0 (by omega) (by omega)
  rw [show p.length - 1 - (p.length - (t.r+t.h)+j)=t.r+(t.h - 1 - j) by omega,show p.length - 1 - (p.length - (t.r+t.h))=t.r+(t.h - 1) by omega,a]
  exact b.symm
 | cut t lv k hk hc _ _ ih1 ih2 =>
  intro hi
  unfold Pt.In at hi ih1 ih2
  cases lv with
  | true =>
   simp only[if_true]at hc
   simp only[Pt.one,Pt.two,if_true,Pt.trn]at ih1 ih2
   refine .cut _ false (t.h - k) (by omega) ?_ ?_ ?_
   ·simp only[qF,if_false,Pt.trn]
    refine ⟨by omega,ziq.2 fun i h2 e=>?_⟩
    simp only at h2 e
    rw [h.pat _ _ _ _ (by omega) (by omega) (by omega) (by omega),show p.length - 1 - (p.length - (t.r+t.h)+(t.h - k) - 1)=t.r+k by omega,show p.length - 1 - (p.length - (t.r+t.h)+(t.h - k))=t.r+k - 1 by omega]at e
    exact zio.1 hc.2 i h2 e.symm
   ·simp only[Pt.one,qF,if_false,Pt.trn]
    have:=ih2 (by omega)
    rwa [show p.length - (t.r+k+(t.h - k))=p.length - (t.r+t.h) by omega]at this
   simp only[Pt.two,qF,if_false,Pt.trn]
   have:=ih1 (by omega)
   rwa [show p.length - (t.r+t.h)+(t.h - k)=p.length - (t.r+k) by omega,show t.h - (t.h - k)=k by omega]
  | false =>
   simp only[qF,if_false]at hc
   simp only[Pt.one,Pt.two,qF,if_false,Pt.trn]at ih1 ih2
   refine .cut _ true k hk ?_ ?_ ?_
   ·simp only[if_true,Pt.trn]
    refine ⟨hc.1,zio.2 fun j h2 e=>?_⟩
    simp only at h2 e
    rw [h.pat _ _ _ _ (by omega) (by omega) (by omega) (by omega),show p.length - 1 - (p.length - (t.r+t.h)+j)=t.r+(t.h - 1 - j) by omega]at e
    exact ziq.1 hc.2 (t.h - 1 - j) (by omega) e
   ·simp only[Pt.one,if_true,Pt.trn]
    exact ih1 (by omega)
   simp only[Pt.two,if_true,Pt.trn]
   exact ih2 (by omega)
def cbP (p:List Txt):Bool:=(zck (zaf p) ⟨0,0,p.length,(zag p).length⟩).isSome
theorem zpb {p t:List Txt} (h:Turn p t) (k:cbP p=true):cbP t=true:=by
 obtain ⟨q1,-,q3,-⟩:=zco h.src
 have hi:(⟨0,0,p.length,(zag p).length⟩:Pt).In p.length (zag p).length:=by unfold Pt.In; simp only; omega
 have hj:(⟨0,0,t.length,(zag t).length⟩:Pt).In t.length (zag t).length:=by rw [h.h,h.w]; unfold Pt.In; simp only; omega
 unfold cbP at k ⊢
 rw [zwb _ hj (qR _)]
 rw [zwb _ hi (qR _)]at k
 have:=k.turn h hi
 simp only[Pt.trn,Nat.zero_add,Nat.sub_self]at this
 rw [h.h,h.w]
 exact this
theorem yg1 {p t:List Txt} (h:Turn p t):cbP t=cbP p:=by
 rw [Bool.eq_iff_iff]
 refine ⟨fun k=>?_,zpb h⟩
 have h2:=zlh h.plan
 have h3:=zlh h2.plan
 have h4:=zlh h3.plan
 have:=zpb h4 (zpb h3 (zpb h2 k))
 rwa [zz4 h h2 h3 h4]at this
end

section
theorem PC.all {P:Program} {f:FuncId} {xs ts:List PV} {r:PV} {fr:Bool} {S:Store} (h:PC P f ts r fr) (h1:xs.mapM (rfz S 0 10)=some ts):Ev P f xs S fun v S'=>v=r∧S'=⟨[],S.tick⟩:=by
 refine ⟨h.ent,fun F G w cargs hS hi hl hv=>?_⟩
 subst hS
 obtain ⟨m1,m2⟩:=zcj _ _ h1
 have hF:∀ b,zo4 F G 0 b→b<w.heap.size:=by
  rintro b (hb | ⟨o,x,-,hx,rfl⟩)
  ·exact hi.fr b hb
  exact hi.blk_lt hx
 refine (h.run (zo4 F G 0) w cargs hF (by omega) fun i p c q1 q2=>?_).mono ?_
 ·obtain ⟨x,x1,x2⟩:=m2 i p q1
  exact zmx hi (hv i x c x1 q2) x2
 rintro e w' ⟨cv,rfl,⟨hb,hd⟩,hvi⟩
 refine ⟨r,cv,fun b=>zo4 F G 0 b∨(w.heap.size≤b∧b<w'.heap.size),⟨[],G.tick⟩,rfl,⟨rfl,rfl⟩,⟨?_,by simp,by simp,by simp,by simp,by simp,by simp⟩,⟨hb.os,hb.tape,hb.output,hb.size,fun b hb => .inl (.inl hb),?_,by simp,qR _,fun b h2 _=>hb.block b h2,by simp,hd⟩,.imm _ _ (hvi.mono ?_ (fun _ _=>rfl))⟩
 ·rintro b (h2 | h2)
  ·exact Nat.lt_of_lt_of_le (hF b h2) hb.size
  exact h2.2
 ·rintro b ((h2 | ⟨o,x,-,hx,rfl⟩) | h2)
  ·exact .inl h2
  ·exact .inr (.inr ⟨o,x,hx,rfl⟩)
  exact .inr (.inl h2.1)
 rintro b (h2 | ⟨-,h2⟩)
 ·exact .inr h2
 exact .inl h2
section
variable {P:Program} {T:Tab} {Q:Exit→Env→Store→Prop} {e:Env} {S:Store} {b:Code}
end
end
def z7a:List Ob→List Ob→Prop
 | _,[]=>True
 | obs,ob1::r1 =>
  (match ob1 with
  | .lp _ l q tm=>(match obs with
   | .lp _ l0 q0 tm0::_=>l=l0∧q.1.tmps=q0.1.tmps∧q.2=q0.2∧tm=tm0
   | _=>False)
  | _=>True)∧z7a obs.tail r1
theorem z7a.get:∀ {obs obs1:List Ob},z7a obs obs1→∀ (i:Nat) ver l q tm,obs1[i]?=some (.lp ver l q tm)→∃ ver0 q0,obs[i]?=some (.lp ver0 l q0 tm)∧q.1.tmps=q0.1.tmps∧q.2=q0.2
 | obs,[],_,i,_,_,_,_,h=>by simp at h
 | obs,ob1::r1,h,0,ver,l,q,tm,hi=>by
  simp at hi
  subst hi
  obtain ⟨h1,-⟩:=h
  cases obs with
  | nil=>exact h1.elim
  | cons a obs =>
   cases a with
   | lp v0 l0 q0 tm0=>obtain ⟨rfl,e2,e3,rfl⟩:=h1; exact ⟨v0,q0,rfl,e2,e3⟩
   | _=>exact h1.elim
 | obs,ob1::r1,h,i+1,ver,l,q,tm,hi=>by
  obtain ⟨ver0,q0,k1,k2⟩:=h.2.get i ver l q tm (by simpa using hi)
  refine ⟨ver0,q0,?_,k2⟩
  cases obs with
  | nil=>simp at k1
  | cons a obs=>simpa using k1
def Lent (S:Store) (lo:Nat):List PV→List PV→Prop
 | [],[]=>True
 | p::ps,q::qs=>(q = .undef∨frz S lo 10 p=some q)∧Lent S lo ps qs
 | _,_=>False
theorem Lent.get {S:Store} {lo:Nat}:∀ {ps qs:List PV},Lent S lo ps qs→ps.length=qs.length∧∀ (i:Nat) q,qs[i]?=some q→∃ p,ps[i]?=some p∧(q = .undef∨frz S lo 10 p=some q)
 | [],[],_=>by simp
 | p::ps,q::qs,h=>by
  obtain ⟨h1,h2⟩:=h
  obtain ⟨k1,k2⟩:=h2.get
  refine ⟨by simp [k1],?_⟩
  rintro (_ | i) z hz
  ·simp at hz; subst hz; exact ⟨p,rfl,h1⟩
  simp at hz; obtain ⟨u,u1,u2⟩:=k2 i z hz; exact ⟨u,by simpa using u1,u2⟩
 | [],_::_,h=>h.elim
 | _::_,[],h=>h.elim
def lcW (b v n w:Nat):List PV:=(List.range n).map fun j => .loc (b+j) v 0 w
def rwO (v:Nat) (rows:List (List Int)):List Ob:=rows.map fun r => .arr v 3 1 (r.map (.int .i64))
theorem zu9 {b v n w:Nat}:(lcW b v n w).length=n:=by simp [lcW]
theorem yj9 {b v n w i:Nat} (h:i<n):(lcW b v n w)[i]?=some (.loc (b+i) v 0 w):=by simp [lcW,h]
theorem zc4 {v:Nat} {rows:List (List Int)}:(rwO v rows).length=rows.length:=by simp [rwO]
theorem z44 {b v n w k t f:Nat}:(lcW b v n w).map (up k t (f+1))=lcW (b+k) t n w:=by
 unfold lcW
 rw [List.map_map]
 refine List.map_congr_left fun j _=>?_
 show PV.loc (b+j+k) t 0 w=_
 rw [show b+j+k=b+k+j by omega]
theorem z47 {v k t:Nat} {rows:List (List Int)}:(rwO v rows).map (z67 k t)=rwO t rows:=by
 unfold rwO
 rw [List.map_map]
 refine List.map_congr_left fun r _=>?_
 show Ob.arr t _ 1 ((r.map (PV.int .i64)).map (up k t 10))=_
 rw [zwe]
def blR (nh nw i:Nat):List PV:=(List.range i).map (fun j=>PV.loc (j+1) (j+1) 0 nw)++List.replicate (nh - i) .nils
def blX (c:Nat→Nat→Int) (nw i:Nat):List Ob:=(List.range i).map fun j => .arr (j+1) 3 1 (((List.range nw).map (c j)).map (.int .i64))
theorem z7h {nh nw i:Nat} (h:i≤nh):(blR nh nw i).length=nh:=by simp [blR]; omega
theorem zi6 {c:Nat→Nat→Int} {nw i:Nat}:(blX c nw i).length=i:=by simp [blX]
theorem z7i {nh nw i:Nat} (h:i<nh):(blR nh nw i).take i++[.loc (i+1) (i+1) 0 nw]++(blR nh nw i).drop (i+1)=blR nh nw (i+1):=by
 have e:(blR nh nw i).take i=(List.range i).map fun j=>PV.loc (j+1) (j+1) 0 nw:=by
  unfold blR; rw [List.take_append_of_le_length (by simp),qT (by simp)]
 have e2:(blR nh nw i).drop (i+1)=List.replicate (nh - (i+1)) .nils:=by
  unfold blR
  rw [List.drop_append,List.drop_of_length_le (by simp)]
  simp
  omega
 rw [e,e2]
 unfold blR
 rw [qS,List.map_append]
 rfl
theorem z7g {nh nw i:Nat}:(blR nh nw (i+1))[i]?=some (.loc (i+1) (i+1) 0 nw):=by
 unfold blR
 rw [List.getElem?_append_left (by simp),List.getElem?_map,List.getElem?_range (by omega)]; rfl
theorem ygy {c:Nat→Nat→Int} {nw i:Nat} {ys:List Ob}:(blX c nw i++ys)[i]?=ys[0]?:=by rw [List.getElem?_append_right (by rw [zi6]; omega),zi6,Nat.sub_self]
theorem yjs {c:Nat→Nat→Int} {nw i:Nat} {ys:List Ob} {b:Ob}:(blX c nw i++ys).set i b=blX c nw i++ys.set 0 b:=by rw [List.set_append_right _ _ (by rw [zi6]; omega),zi6,Nat.sub_self]
theorem ycx {c:Nat→Nat→Int} {nw i:Nat}:blX c nw (i+1)=blX c nw i++[.arr (i+1) 3 1 ((stp (c i) nw nw).map (.int .i64))]:=by
 unfold blX
 rw [qS,List.map_append,ybo]; rfl
theorem zvd {γ:Type} {f:PV→Option PV} {g h:γ→PV}:∀ {l:List γ},(∀ j∈l,f (g j)=some (h j))→(l.map g).mapM f=some (l.map h)
 | [],_=>rfl
 | a::l,k=>by
  rw [List.map_cons,List.map_cons]
  exact za5 (k a (by simp)) (zvd (f:=f) (g:=g) (h:=h) (l:=l) fun j hj=>k j (List.mem_cons_of_mem _ hj))
theorem yk8 {c:Nat→Nat→Int} {nh nw:Nat}:∃ k,sh ((⟨.arr 0 28 1 (blR nh nw nh)::blX c nw nh,nh+1⟩:Store).take k) false 10 (.loc 0 0 0 nh)=some (.loc 0 0 0 nh) ∧
  zgq ((⟨.arr 0 28 1 (blR nh nw nh)::blX c nw nh,nh+1⟩:Store).take k) false ((⟨.arr 0 28 1 (blR nh nw nh)::blX c nw nh,nh+1⟩:Store).take k).obs=some (.arr 0 28 1 (lcW 1 0 nh nw)::rwO 0 (bgT c nw nh)):=by
 refine ⟨nh+1,?_⟩
 have e:(⟨.arr 0 28 1 (blR nh nw nh)::blX c nw nh,nh+1⟩:Store).take (nh+1)=⟨.arr 0 28 1 (blR nh nw nh)::blX c nw nh,nh+1⟩:=by
  show (⟨List.take _ _,_⟩:Store)=_
  rw [qT (by simp [zi6])]
 rw [e]
 refine ⟨by simp [sh],?_⟩
 have hx:∀ j,j<nh→(blX c nw nh)[j]?=some (.arr (j+1) 3 1 (((List.range nw).map (c j)).map (.int .i64))):=fun j hj=>by unfold blX; rw [List.getElem?_map,List.getElem?_range hj]; rfl
 have h1:∀ S:Store,(∀ j,j<nh→S.obs[j+1]?=some (.arr (j+1) 3 1 (((List.range nw).map (c j)).map (.int .i64))))→(blR nh nw nh).mapM (sh S false 10)=some (lcW 1 0 nh nw):=by
  intro S hS
  unfold blR lcW
  rw [Nat.sub_self,List.replicate_zero,qN]
  refine zvd ?_
  intro j hj
  have:=List.mem_range.1 hj
  show (match S.obs[j+1]? with | some (.arr v _ _ _)=>if v=j+1 then some (PV.loc (j+1) 0 0 nw) else none | _=>none)=_
  rw [hS j this]
  simp [Nat.add_comm]
 have h2:∀ (S:Store) (l:List Nat),zgq S false (l.map fun j=>Ob.arr (j+1) 3 1 (((List.range nw).map (c j)).map (.int .i64)))=some (rwO 0 (l.map fun r=>(List.range nw).map (c r))):=by
  intro S l
  induction l with
  | nil=>rfl
  | cons a l ih =>
   rw [List.map_cons,zgq,ih]
   show (((((List.range nw).map (c a)).map (PV.int .i64)).mapM (sh S false 10)).map (Ob.arr 0 3 1 ·)).bind _=_
   rw [zr1]; rfl
 rw [zgq]
 show (((blR nh nw nh).mapM (sh _ false 10)).map (Ob.arr 0 28 1 ·)).bind _=_
 rw [h1 _ (fun j hj=>by rw [List.getElem?_cons_succ]; exact hx j hj)]
 unfold blX
 rw [h2]; rfl
theorem z5a {c:Nat→Nat→Int} {nh nw:Nat} (hh:nh≤100) (hw:nw≤100) {g:FuncId} {cap:List PV} (hc:∀ (S:Store) (k:Nat),cap.mapM (reify S true (k+1))=some cap) (hcell:∀ r w:Nat,r<nh→w<nw→PC Tryz.prog g (.int .i64 r :: .int .i64 w::cap) (.int .i64 (c r w)) true):PN Tryz.prog 57 [.int .i64 nh,.int .i64 nw,.fn g cap] (.loc 0 0 0 nh) (.arr 0 28 1 (lcW 1 0 nh nw)::rwO 0 (bgT c nw nh)) false:=by
 refine PN.of ⟨Tryz.func57,by kernel_rfl,rfl,by kernel_rfl⟩ zav mixed (by show 3≤Tryz.f57.ntmps; decide) ?_
 refine W.r fun K hK=>?_
 simp(disch:=omega)only[↓RU,RW,↓reduceIte,qE,reduceCtorEq,iP,↓RS,RG,qA,qM,qL]
 apply hK;clear hK K
 refine W.r fun K hK=>?_
 simp(disch:=omega)only[↓RU,RW,↓reduceIte,qE,reduceCtorEq,iP,↓RS,RG,qA,qM,qL,ty1,zab,zcl,zaa,zji,zex]
 apply hK;clear hK K
 refine W.seq ?_
 refine W.r fun K hK=>?_
 simp(disch:=omega)only[↓RU,RW,↓reduceIte,qE,reduceCtorEq,iP,↓RS,RG,qA,qM,qL,ty1,zab,zcl,zaa]
 apply hK;clear hK K
 refine W.block ?_
 refine W.loop [1,2,7,13,14] (fun n vs S=>∃ i:Nat,n=nh - i∧i≤nh∧vs=[.int .i64 nw,.fn g cap,.loc 0 0 0 nh,.int .i64 nh,.int .i64 i]∧S=⟨.arr 0 28 1 (blR nh nw i)::blX c nw i,i+1⟩) nh ?_ ?_
 ·refine ⟨1,0,rfl,Nat.zero_le _,?_,?_⟩
  ·simp [Env.put,Env.of,zai]
  simp [zcs,blR,blX]
 rintro n vs S - ⟨i,rfl,h_i,rfl,rfl⟩
 refine W.r fun K hK=>?_
 simp(disch:=omega)only[↓RU,RW,↓reduceIte,qE,reduceCtorEq,iP,w64,↓RS,RG,qA,qM,qL,zaa]
 apply hK;clear hK K
 refine W.seq ?_
 refine W.cond rfl (fun h=>?_) (fun h=>?_)
 ·try simp only[RL]at h
  have hil:i<nh:=by omega
  have hrl:=z7h (nw:=nw) (show i≤nh by omega)
  have hrl2:=z7h (nw:=nw) (show i+1≤nh by omega)
  have hrs:=z7i (nw:=nw) hil
  refine W.skip ?_
  refine xn ?_
  refine W.seq ?_
  refine W.block ?_
  refine W.r fun K hK=>?_
  simp(disch:=omega)only[↓RU,RW,↓reduceIte,qE,reduceCtorEq,iP,↓RS,RG,qA,qM,qL]
  apply hK;clear hK K
  refine W.r fun K hK=>?_
  simp(disch:=omega)only[↓RU,RW,↓reduceIte,qE,reduceCtorEq,iP,↓RS,RG,qA,qM,qL,ty1,zab,zcl,zaa,ze8,zex,hrl,zi6,hrs,z7i hil]
  apply hK;clear hK K
  refine W.r fun K hK=>?_
  simp(disch:=omega)only[↓RU,RW,↓reduceIte,qE,reduceCtorEq,iP,↓RS,RG,qA,qM,qL,ty1,zab,zcl,zaa,z7g,hrl2,ygy]
  apply hK;clear hK K
  refine W.block ?_
  refine W.loop [1,2,7,8,13,14,26,27] (fun n vs S=>∃ j:Nat,n=nw - j∧j≤nw∧vs=[.int .i64 nw,.fn g cap,.loc 0 0 0 nh,.int .i64 i,.int .i64 nh,.int .i64 i,.int .i64 nw,.int .i64 j]∧S=⟨.arr 0 28 1 (blR nh nw (i+1))::(blX c nw i++[.arr (i+1) 3 1 ((stp (c i) j nw).map (.int .i64))]),i+1+1⟩) nw ?_ ?_
  ·refine ⟨_,0,rfl,Nat.zero_le _,?_,za2 ?_⟩
   rotate_left
   ·rw [z4v]
   simp [Env.put,Env.of]
  rintro n vs S - ⟨j,rfl,h_j,rfl,rfl⟩
  refine W.r fun K hK=>?_
  simp(disch:=omega)only[↓RU,RW,↓reduceIte,qE,reduceCtorEq,iP,w64,↓RS,RG,qA,qM,qL,zaa]
  apply hK;clear hK K
  refine W.seq ?_
  refine W.cond rfl (fun h1=>?_) (fun h1=>?_)
  ·try simp only[RL]at h1
   have hjw:j<nw:=by omega
   have hsl:=z17 (f:=c i) (i:=j) (n:=nw)
   refine W.skip ?_
   refine xn ?_
   refine W.seq ?_
   refine W.block ?_
   refine W.r fun K hK=>?_
   simp(disch:=omega)only[↓RU,RW,↓reduceIte,qE,reduceCtorEq,iP,↓RS,RG,qA,qM,qL]
   apply hK;clear hK K
   refine W.draw_k (by kernel_rfl) fun K hK=>?_
   simp(disch:=omega)only[↓RU,RW,↓reduceIte,qE,reduceCtorEq,iP,qN,↓RS,RG,qA,qM,qL,ty1,zab,zcl,zaa,z7g,hrl2,hsl,zb8,zdh,ygy,yjs,zi6]
   refine zac.pc (hcell i j hil hjw) (za5 rfl (za5 rfl (hc _ 9))) (.inl rfl) ?_
   simp(disch:=omega)only[↓RU,RW,↓reduceIte,qE,reduceCtorEq,iP,qN,↓RS,RG,qA,qM,qL,ty1,zab,zcl,zaa,z7g,hrl2,hsl,zb8,zdh,ygy,yjs,zi6]
   apply hK;clear hK K
   refine XbN ?_
   refine xn ?_
   refine W.k fun K hK=>?_
   simp(disch:=omega)only[↓RU,RW,↓reduceIte,qE,reduceCtorEq,iP,w64,↓RS,RG,qA,qM,qL,zaa]
   apply hK;clear hK K
   refine xn ?_
   refine ⟨nw - (j+1),by omega,_,j+1,rfl,by omega,?_,za2 ?_⟩
   rotate_left
   ·rw [← ybp]
   simp [Env.put,Env.of]
  ·try simp only[RL]at h1
   obtain rfl:nw=j:=by omega
   refine W.exit ?_
   refine xe ?_
   refine xe ?_
   refine XBlock.hit ?_
   refine XbN ?_
   refine xn ?_
   refine W.k fun K hK=>?_
   simp(disch:=omega)only[↓RU,RW,↓reduceIte,qE,reduceCtorEq,iP,w64,↓RS,RG,qA,qM,qL,zaa]
   apply hK;clear hK K
   refine xn ?_
   refine ⟨nh - (i+1),by omega,_,i+1,rfl,by omega,?_,za2 ?_⟩
   rotate_left
   ·rw [ycx]
   simp [Env.put,Env.of]
 try simp only[RL]at h
 obtain rfl:nh=i:=by omega
 refine W.exit ?_
 refine xe ?_
 refine xe ?_
 refine XBlock.hit ?_
 refine xn ?_
 refine W.r fun K hK=>?_
 simp(disch:=omega)only[↓RU,RW,↓reduceIte,qE,reduceCtorEq,iP,↓RS,RG,qA,qM,qL]
 apply hK;clear hK K
 refine W.ret ?_
 refine Br rfl ?_
 exact yk8
section
def z83 (M:List (List Int)) (a b:Nat):List (List Int):=M.set a ((M[a]?.getD []).set b (gz M a b+1))
theorem zqu {M:List (List Int)} {a b:Nat} {row:List Int} (h:M[a]?=some row):z83 M a b=M.set a (row.set b (gz M a b+1)):=by unfold z83; rw [h]; rfl
structure TcI (n:Nat) (T:Nat→Nat→Prop) (N:Int) (M:List (List Int)):Prop where
 len:M.length=n
 row:∀ r∈M,r.length=n
 val:∀ a b,a<n→b<n→0≤gz M a b∧gz M a b≤N∧(0<gz M a b→T a b)
section
variable {n:Nat} {T:Nat→Nat→Prop} {N:Int} {M:List (List Int)}
theorem TcI.at_ (h:TcI n T N M) {a b:Nat} (ha:a<n) (hb:b<n):∃ row,M[a]?=some row∧row.length=n∧row[b]?=some (gz M a b):=by
 obtain ⟨row,hr,hm⟩:=zaj (show a<M.length by rw [h.len]; exact ha)
 obtain ⟨x,hx,-⟩:=zaj (show b<row.length by rw [h.row row hm]; exact hb)
 exact ⟨row,hr,h.row row hm,by unfold gz; rw [hr,Option.getD_some,hx,Option.getD_some]⟩
theorem yhm (h:TcI n T N M) {a b:Nat} (ha:a<n) (hb:b<n) {x y:Nat}:gz (z83 M a b) x y=if x=a∧y=b then gz M a b+1 else gz M x y:=by
 obtain ⟨row,hr,hl,hx⟩:=h.at_ ha hb
 rw [zqu hr]
 unfold gz
 by_cases e:x=a
 ·subst e
  rw [List.getElem?_set,if_pos rfl,if_pos (zb5 hr),Option.getD_some,List.getElem?_set,hr]
  by_cases e2:y=b
  ·subst e2; rw [if_pos rfl,if_pos (zb5 hx),if_pos ⟨rfl,rfl⟩]; rfl
  rw [if_neg (Ne.symm e2),if_neg (by omega)]; rfl
 rw [List.getElem?_set,if_neg (Ne.symm e),if_neg (by omega)]
theorem TcI.inc (h:TcI n T N M) {a b:Nat} (ha:a<n) (hb:b<n) (hT:T a b):TcI n T (N+1) (z83 M a b):=by
 obtain ⟨row,hr,hl,hx⟩:=h.at_ ha hb
 refine ⟨?_,fun r hm=>?_,fun x y hx hy=>?_⟩
 ·rw [zqu hr,List.length_set]; exact h.len
 ·rw [zqu hr]at hm
  rcases List.mem_or_eq_of_mem_set hm with hm | rfl
  ·exact h.row r hm
  rw [List.length_set]; exact hl
 rw [yhm h ha hb]
 obtain ⟨v1,v2,v3⟩:=h.val x y hx hy
 split
 ·rename_i e
  obtain ⟨rfl,rfl⟩:=e
  exact ⟨by omega,by omega,fun _=>hT⟩
 exact ⟨v1,by omega,v3⟩
theorem TcI.up (h:TcI n T N M) {N2:Int} (hN:N≤N2):TcI n T N2 M:=⟨h.len,h.row,fun a b ha hb=>by obtain ⟨v1,v2,v3⟩:=h.val a b ha hb; exact ⟨v1,by omega,v3⟩⟩
theorem z18:TcI n T 0 (bgT (fun _ _=>0) n n):=by
 refine ⟨zuk,fun r hr=>?_,fun a b ha hb=>?_⟩
 ·obtain ⟨a,-,rfl⟩:=List.mem_map.1 hr; simp
 rw [yfp ha hb]; exact ⟨Int.le_refl _,Int.le_refl _,fun h=>absurd h (by omega)⟩
end
def tcA (g:List (List Int)) (lv:Bool) (ln:Nat) (M:List (List Int)) (j:Nat):List (List Int):=z83 (z83 M (zbx g lv ln j).1.toNat (zbx g lv ln j).2.toNat) (zbx g lv ln j).2.toNat (zbx g lv ln j).1.toNat
def tcW (g:List (List Int)) (M:List (List Int)) (w:Wall):List (List Int):=(List.range w.long.toNat).foldl (fun M j=>tcA g w.level w.line.toNat M (w.fr.toNat+j)) M
def tcM (g:List (List Int)) (nh nw n:Nat):List (List Int):=(zau g nh nw).foldl (tcW g) (bgT (fun _ _=>0) n n)
def ygs (g:List (List Int)) (nh nw n:Nat) (T:Nat→Nat→Prop):Prop:=∀ lv ln j,InL nh nw lv ln j→zh0 g lv ln j=true→∃ a b:Nat,zbx g lv ln j=((a:Int),(b:Int))∧a<n∧b<n∧T a b∧T b a
section
variable {g:List (List Int)} {nh nw n:Nat} {T:Nat→Nat→Prop}
theorem TcI.place (hT:ygs g nh nw n T) {N:Int} {M:List (List Int)} (h:TcI n T N M) {lv:Bool} {ln j:Nat} (h1:InL nh nw lv ln j) (h2:zh0 g lv ln j=true):TcI n T (N+2) (tcA g lv ln M j):=by
 obtain ⟨a,b,e,ha,hb,t1,t2⟩:=hT lv ln j h1 h2
 unfold tcA
 rw [e]
 simp only[Int.toNat_natCast]
 have:=(h.inc ha hb t1).inc hb ha t2
 rwa [show N+1+1=N+2 by omega]at this
theorem TcI.part (hT:ygs g nh nw n T) {N:Int} {M:List (List Int)} (h:TcI n T N M) {lv:Bool} {ln fr:Nat}:∀ {k:Nat},(∀ j,fr≤j→j<fr+k→InL nh nw lv ln j∧zh0 g lv ln j=true)→TcI n T (N+2*k) ((List.range k).foldl (fun M j=>tcA g lv ln M (fr+j)) M)
 | 0,_=>by simpa using h
 | k+1,hw=>by
  rw [qS,List.foldl_append,List.foldl_cons,List.foldl_nil]
  obtain ⟨w1,w2⟩:=hw (fr+k) (by omega) (by omega)
  have:=(TcI.part hT h (k:=k) fun j a b=>hw j a (by omega)).place hT w1 w2
  exact this.up (by omega)
theorem TcI.wall (hT:ygs g nh nw n T) {N:Int} {M:List (List Int)} (h:TcI n T N M) {w:Wall} (hw:zr9 g nh nw w) (hl:w.long≤100):TcI n T (N+200) (tcW g M w):=by
 obtain ⟨ln,fr,lg,e,-,hin⟩:=hw
 obtain ⟨lv,wl,wf,wg⟩:=w
 simp only[Wall.mk.injEq,true_and]at e hin
 obtain ⟨rfl,rfl,rfl⟩:=e
 have:=h.part hT (lv:=lv) (ln:=ln) (fr:=fr) (k:=lg) hin
 exact this.up (by simp only at hl; omega)
theorem TcI.walls (hT:ygs g nh nw n T):∀ {ws:List Wall},(∀ w∈ws,zr9 g nh nw w∧w.long≤100)→∀ {N:Int} {M:List (List Int)},TcI n T N M→TcI n T (N+200*ws.length) (ws.foldl (tcW g) M)
 | [],_,N,M,h=>by simpa using h
 | w::ws,hw,N,M,h=>by
  obtain ⟨w1,w2⟩:=hw w (by simp)
  have:=TcI.walls hT (ws:=ws) (fun w h=>hw w (by simp [h])) (h.wall hT w1 w2)
  exact this.up (by simp only[List.length_cons]; omega)
end
theorem ygk {p:List Txt} (hp:zbk p=true):ygs (gP p) p.length (zag p).length (rP p).length (Tch p):=by
 intro lv ln j hi hd
 have hN:=zb6 hp
 unfold InL at hi
 unfold zh0 at hd
 have hd:=of_decide_eq_true hd
 cases lv with
 | true =>
  simp only[if_true]at hi
  obtain ⟨a0,a1⟩:=zcg hp (i:=ln - 1) (j:=j) (by omega) (by omega)
  obtain ⟨b0,b1⟩:=zcg hp (i:=ln) (j:=j) (by omega) (by omega)
  have e:zbx (gP p) true ln j=(zaf p (ln - 1) j,zaf p ln j):=by
   show (gz (gP p) (ln - 1) j,gz (gP p) ln j)=_
   rw [hN.cell (by omega) (by omega),hN.cell (by omega) (by omega)]
  rw [e]at hd
  have ht:Tch p (zaf p (ln - 1) j).toNat (zaf p ln j).toNat:=by
   refine ⟨by simp only at hd; omega,ln - 1,j,by omega,by omega,.inl ⟨by omega,.inl ⟨by omega,?_⟩⟩⟩
   rw [show ln - 1+1=ln by omega]; omega
  exact ⟨_,_,by rw [e,Int.toNat_of_nonneg a0,Int.toNat_of_nonneg b0],by omega,by omega,ht,ht.sym⟩
 | false =>
  simp only[qF,if_false]at hi
  obtain ⟨a0,a1⟩:=zcg hp (i:=j) (j:=ln - 1) (by omega) (by omega)
  obtain ⟨b0,b1⟩:=zcg hp (i:=j) (j:=ln) (by omega) (by omega)
  have e:zbx (gP p) false ln j=(zaf p j (ln - 1),zaf p j ln):=by
   show (gz (gP p) j (ln - 1),gz (gP p) j ln)=_
   rw [hN.cell (by omega) (by omega),hN.cell (by omega) (by omega)]
  rw [e]at hd
  have ht:Tch p (zaf p j (ln - 1)).toNat (zaf p j ln).toNat:=by
   refine ⟨by simp only at hd; omega,j,ln - 1,by omega,by omega,.inr ⟨by omega,.inl ⟨by omega,?_⟩⟩⟩
   rw [show ln - 1+1=ln by omega]; omega
  exact ⟨_,_,by rw [e,Int.toNat_of_nonneg a0,Int.toNat_of_nonneg b0],by omega,by omega,ht,ht.sym⟩
def clash (M:List (List Int)) (out:List Int) (c:Int):Bool:=(List.range out.length).any fun b=>decide (0<gz M out.length b) && decide (zcw out b=c)
def zz0 (f:List Int→Option (List Int)) (M:List (List Int)) (out:List Int):Nat→Option (List Int)
 | 0=>none
 | c+1=>match zz0 f M out c with
  | some r=>some r
  | none=>if clash M out (c:Int) then none else f (out++[(c:Int)])
def zi8 (M:List (List Int)) (m:Nat):Nat→List Int→Option (List Int)
 | 0,out=>some out
 | k+1,out=>zz0 (zi8 M m k) M out m
theorem zz3 {f:List Int→Option (List Int)} {M:List (List Int)} {out r:List Int}:∀ {m:Nat},zz0 f M out m=some r→∃ c:Nat,c<m∧f (out++[(c:Int)])=some r
 | 0,h=>by cases h
 | c+1,h=>by
  unfold zz0 at h
  cases h2:zz0 f M out c with
  | some r2 =>
   rw [h2]at h; cases h
   obtain ⟨c0,a,b⟩:=zz3 h2
   exact ⟨c0,by omega,b⟩
  | none =>
   rw [h2]at h
   simp only at h
   split at h
   ·cases h
   exact ⟨c,by omega,h⟩
theorem zz2 {f:List Int→Option (List Int)} {M:List (List Int)} {out:List Int}:∀ {m:Nat},zz0 f M out m=none→∀ c:Nat,c<m→clash M out c=true∨f (out++[(c:Int)])=none
 | 0,_,c,hc=>by omega
 | m+1,h,c,hc=>by
  unfold zz0 at h
  cases h2:zz0 f M out m with
  | some r2=>rw [h2]at h; cases h
  | none =>
   rw [h2]at h
   simp only at h
   by_cases e:c=m
   ·subst e
    split at h
    ·exact .inl (by assumption)
    exact .inr h
   exact zz2 h2 c (by omega)
theorem z7v {M:List (List Int)} {m:Nat}:∀ {k:Nat} {out r:List Int},zi8 M m k out=some r→(∀ x∈out,0≤x∧x<m)→r.length=out.length+k∧∀ x∈r,0≤x∧x<m
 | 0,out,r,h,ho=>by cases h; exact ⟨rfl,ho⟩
 | k+1,out,r,h,ho=>by
  obtain ⟨c,hc,h2⟩:=zz3 (f:=zi8 M m k) h
  obtain ⟨h3,h4⟩:=z7v h2 fun x hx=>by
   rcases List.mem_append.1 hx with hx | hx
   ·exact ho x hx
   simp only[List.mem_singleton]at hx; omega
  refine ⟨?_,h4⟩
  rw [h3,List.length_append,List.length_singleton]; omega
theorem z7u {M:List (List Int)} {m n:Nat} {f:Nat→Nat} (hf:∀ a,f a<m) (hd:∀ a b,a<n→b<n→0<gz M a b→f a≠f b):∀ {k a:Nat},a+k=n→(zi8 M m k ((List.range a).map fun i=>(f i:Int))).isSome=true
 | 0,a,_=>rfl
 | k+1,a,h=>by
  cases hc:zi8 M m (k+1) ((List.range a).map fun i=>(f i:Int)) with
  | some r=>rfl
  | none =>
   have ih:=z7u (M:=M) hf hd (k:=k) (a:=a+1) (by omega)
   rw [qS,List.map_append]at ih
   rcases zz2 (f:=zi8 M m k) hc (f a) (hf a) with h2 | h2
   ·unfold clash at h2
    simp only[List.length_map,List.length_range,List.any_eq_true,List.mem_range,qB,decide_eq_true_eq]at h2
    obtain ⟨b,hb,h3,h4⟩:=h2
    rw [zcw,List.getElem?_map,List.getElem?_range hb,qO,Option.getD_some]at h4
    exact absurd (show f b=f a by omega) fun e=>hd a b (by omega) (by omega) h3 e.symm
   rw [show ((List.range a).map fun i=>(f i:Int))++[((f a:Nat):Int)]=((List.range a).map fun i=>(f i:Int))++List.map (fun i=>(f i:Int)) [a] from rfl]at h2
   rw [h2]at ih; cases ih
end
section
theorem z9b {v n w i:Nat} (h:i<n):(lcW 1 v n w)[i]?=some (.loc (i+1) v 0 w):=by rw [yj9 h,Nat.add_comm]
section
variable {v n:Nat} {M:List (List Int)} {tl:List Ob}
theorem tg_r {a:Nat} {row:List Int} (h:M[a]?=some row):(rwO v M++tl)[a]?=some (.arr v 3 1 (row.map (.int .i64))):=by
 have hl:=zb5 h
 rw [List.getElem?_append_left (by rw [zc4]; exact hl)]
 unfold rwO
 rw [List.getElem?_map,h]; rfl
theorem tg_s {a:Nat} {row:List Int} (h:a<M.length):(rwO v M++tl).set a (.arr v 3 1 (row.map (.int .i64)))=rwO v (M.set a row)++tl:=by
 rw [List.set_append_left _ _ (by rw [zc4]; exact h)]
 unfold rwO
 rw [← List.map_set]
theorem ykv {w:Ob} (h:M.length=n):(rwO v M++w::tl)[n]?=some w:=by
 rw [List.getElem?_append_right (by rw [zc4]; omega),zc4,h,Nat.sub_self]; rfl
theorem tw_s {w y:Ob} (h:M.length=n):(rwO v M++w::tl).set n y=rwO v M++y::tl:=by
 rw [List.set_append_right _ _ (by rw [zc4]; omega),zc4,h,Nat.sub_self]; rfl
end
theorem yks {g M:List (List Int)} {lv:Bool} {ln fr lg:Nat}:tcW g M ⟨lv,ln,fr,lg⟩=(List.range lg).foldl (fun M j=>tcA g lv ln M (fr+j)) M:=rfl
theorem zzy (r w:Nat):PC Tryz.prog 96 [.int .i64 r,.int .i64 w] (.int .i64 0) true:=by
 refine PC.of ⟨Tryz.func96,by kernel_rfl,rfl,by kernel_rfl⟩ zav mixed (by show 2≤Tryz.f96.ntmps; decide) ?_
 refine W.r fun K hK=>?_
 simp(disch:=omega)only[↓RU,RW,↓reduceIte,qE,reduceCtorEq,iP]
 apply hK;clear hK K
 refine W.r fun K hK=>?_
 simp(disch:=omega)only[↓RU,RW,↓reduceIte,qE,reduceCtorEq,iP]
 apply hK;clear hK K
 refine W.ret ?_
 refine Br rfl ?_
 rfl
theorem yjt {M:List (List Int)} {n tk:Nat} (hM:M.length=n):∃ k,sh ((⟨.arr 0 28 1 (lcW 1 0 n n)::rwO 0 M,tk⟩:Store).take k) false 10 (.loc 0 0 0 n)=some (.loc 0 0 0 n) ∧
  zgq ((⟨.arr 0 28 1 (lcW 1 0 n n)::rwO 0 M,tk⟩:Store).take k) false ((⟨.arr 0 28 1 (lcW 1 0 n n)::rwO 0 M,tk⟩:Store).take k).obs=some (.arr 0 28 1 (lcW 1 0 n n)::rwO 0 M):=by
 refine ⟨n+1,?_⟩
 have e:(⟨.arr 0 28 1 (lcW 1 0 n n)::rwO 0 M,tk⟩:Store).take (n+1)=⟨.arr 0 28 1 (lcW 1 0 n n)::rwO 0 M,tk⟩:=by
  show (⟨List.take _ _,_⟩:Store)=_
  rw [qT (by simp [zc4,hM])]
 rw [e]
 refine ⟨by simp [sh],?_⟩
 have h1:∀ S:Store,(∀ j,j<n→∃ row:List Int,S.obs[j+1]?=some (.arr 0 3 1 (row.map (.int .i64))))→(lcW 1 0 n n).mapM (sh S false 10)=some (lcW 1 0 n n):=by
  intro S hS
  unfold lcW
  refine zvd fun j hj=>?_
  obtain ⟨row,hr⟩:=hS j (List.mem_range.1 hj)
  rw [Nat.add_comm 1 j]
  show (match S.obs[j+1]? with | some (.arr v _ _ _)=>if v=0 then some (PV.loc (j+1) 0 0 n) else none | _=>none)=_
  rw [hr]; rfl
 have h2:∀ (S:Store) (l:List (List Int)),zgq S false (rwO 0 l)=some (rwO 0 l):=by
  intro S l
  induction l with
  | nil=>rfl
  | cons a l ih =>
   show zgq S false (Ob.arr 0 3 1 (a.map (.int .i64))::rwO 0 l)=_
   rw [zgq,ih]
   show (((a.map (PV.int .i64)).mapM (sh S false 10)).map (Ob.arr 0 3 1 ·)).bind _=_
   rw [zr1]; rfl
 rw [zgq]
 show (((lcW 1 0 n n).mapM (sh _ false 10)).map (Ob.arr 0 28 1 ·)).bind _=_
 rw [h1 _ (fun j hj=>?_),h2]
 ·rfl
 obtain ⟨row,hr,-⟩:=zaj (show j<M.length by omega)
 exact ⟨row,by rw [List.getElem?_cons_succ]; unfold rwO; rw [List.getElem?_map,hr]; rfl⟩
theorem yi4 {g:List (List Int)} {nh nw n:Nat} {T:Nat→Nat→Prop} (hT:ygs g nh nw n T) (hw:∀ w∈zau g nh nw,zr9 g nh nw w∧w.long≤100):(tcM g nh nw n).length=n:=(TcI.walls hT hw (z18 (n:=n) (T:=T))).len
theorem ykt {x y:Ob} {v n tk:Nat} {M:List (List Int)} (h:M.length=n):(⟨x::(rwO v M++[y]),tk⟩:Store).take (n+1)=⟨x::rwO v M,tk⟩:=by
 show (⟨List.take _ _,_⟩:Store)=_
 rw [List.take_succ_cons,List.take_append_of_le_length (by rw [zc4]; omega),qT (by rw [zc4]; omega)]
theorem z19 {g:List (List Int)} {nh nw nr:Nat} (hg:GW g nh nw) {rs:List Rect} (hrs:rs.length=nr) (hn:nr≤9) {T:Nat→Nat→Prop} (hT:ygs g nh nw nr T):PN Tryz.prog 74 [zar g rs] (.loc 0 0 0 nr) (.arr 0 28 1 (lcW 1 0 nr nr)::rwO 0 (tcM g nh nw nr)) false:=by
 have hwsl:=zwl (g:=g) (nh:=nh) (nw:=nw) (i:=2) hg.2.2.2.1 hg.2.2.2.2.2
 rw [show wsI g nh nw 2=zau g nh nw from rfl]at hwsl
 have hwk:∀ w∈zau g nh nw,zr9 g nh nw w∧w.long≤100:=fun w hw=>⟨zdp w hw,(zwm (i:=2) hg.2.2.2.1 hg.2.2.2.2.2 w hw).2⟩
 refine PN.of ⟨Tryz.func74,by kernel_rfl,rfl,by kernel_rfl⟩ zav mixed (by show 1≤Tryz.f74.ntmps; decide) ?_
 refine W.r fun K hK=>?_
 simp(disch:=omega)only[↓RU,RW,↓reduceIte,qE,reduceCtorEq,iP,↓RS,RG,qA,qM,qL,zc4]
 apply hK;clear hK K
 refine W.seq_drawE (by kernel_rfl) fun K hK=>?_
 simp(disch:=omega)only[↓RU,RW,↓reduceIte,qE,reduceCtorEq,iP,qN,↓RS,RG,qA,qM,qL,ty1,ty3,zab,zeo,zcl,za7,zaa,zep,za8,zc4,z44,z47,hrs]
 refine zac.pn (z5a (c:=fun _ _=>0) (nh:=nr) (nw:=nr) (by omega) (by omega) (cap:=[]) (fun _ _=>rfl) fun r w _ _=>zzy r w) rfl (.inl rfl) ?_
 simp(disch:=omega)only[↓RU,RW,↓reduceIte,qE,reduceCtorEq,iP,qN,↓RS,RG,qA,qM,qL,ty1,ty3,zab,zeo,zcl,za7,zaa,zep,za8,zc4,z44,z47,hrs,RN]
 apply hK;clear hK K
 refine W.seq ?_
 refine W.r fun K hK=>?_
 simp(disch:=omega)only[↓RU,RW,↓reduceIte,qE,reduceCtorEq,iP,qN,↓RS,RG,qA,qM,qL,ty4,zad,zi2,zaa,zi3,zc4]
 refine zac.pc (zwh hg rs) rfl (.inl rfl) ?_
 simp(disch:=omega)only[↓RU,RW,↓reduceIte,qE,reduceCtorEq,iP,qN,↓RS,RG,qA,qM,qL,ty4,zad,zi2,zaa,zi3,zc4]
 apply hK;clear hK K
 refine W.block ?_
 refine W.loop [0,3,21,22,23] (fun n vs S=>∃ i tk:Nat,n=(zau g nh nw).length - i∧i≤(zau g nh nw).length∧vs=[zar g rs,.loc 0 0 0 nr,zho (zau g nh nw),.int .i64 (zau g nh nw).length,.int .i64 i]∧S=⟨.arr 0 28 1 (lcW 1 0 nr nr)::rwO 0 (((zau g nh nw).take i).foldl (tcW g) (bgT (fun _ _=>0) nr nr)),tk⟩) (zau g nh nw).length ?_ ?_
 ·refine ⟨_,0,1,rfl,Nat.zero_le _,?_,za2 rfl⟩
  simp [Env.put,Env.of,zai]
 rintro n vs S - ⟨i,tk,rfl,h_i,rfl,rfl⟩
 refine W.r fun K hK=>?_
 simp(disch:=omega)only[↓RU,RW,↓reduceIte,qE,reduceCtorEq,iP,w64,↓RS,RG,qA,qM,qL,zaa,zc4]
 apply hK;clear hK K
 refine W.seq ?_
 refine W.cond rfl (fun h=>?_) (fun h=>?_)
 ·try simp only[RL]at h
  obtain ⟨w,hw,hwm⟩:=zaj (show i<(zau g nh nw).length by omega)
  have hM:=TcI.walls hT (ws:=(zau g nh nw).take i) (fun w hw=>hwk w (List.mem_of_mem_take hw)) (z18 (n:=nr) (T:=T))
  rw [List.length_take]at hM
  generalize hMe:(((zau g nh nw).take i).foldl (tcW g) (bgT (fun _ _=>0) nr nr))=M at hM
  obtain ⟨ln,fr,lg,hwe,hlg,hin⟩:=(hwk w hwm).1
  have hlong:=(hwk w hwm).2
  obtain ⟨lv,wl,wf,wg⟩:=w
  simp only[Wall.mk.injEq,true_and]at hwe hin hlong
  obtain ⟨rfl,rfl,rfl⟩:=hwe
  have hMl:=hM.len
  have hfr:fr+lg≤6:=by
   have h:=(hin (fr+lg - 1) (by omega) (by omega)).1
   unfold InL at h
   obtain ⟨-,-,-,g1,-,g2⟩:=hg
   cases lv <;> simp only[if_true,if_false,qF]at h <;> omega
  refine W.skip ?_
  refine xn ?_
  refine W.seq ?_
  refine W.block ?_
  refine W.r fun K hK=>?_
  simp(disch:=omega)only[↓RU,RW,↓reduceIte,qE,reduceCtorEq,iP,↓RS,RG,qA,qM,qL,ty4,zad,zi2,zaa,zi3,zc4,hMe,hw,yce hw,zfz,Wall.cells,hMl,ykv hMl,tw_s hMl]
  apply hK;clear hK K
  refine W.r fun K hK=>?_
  simp(disch:=omega)only[↓RU,RW,↓reduceIte,qE,reduceCtorEq,iP,↓RS,RG,qA,qM,qL,zad,zi2,zaa,zi3,zc4,ykv hMl]
  apply hK;clear hK K
  refine W.block ?_
  refine W.loop [0,3,21,22,23,5,6] (fun n vs S=>∃ k:Nat,n=lg - k∧k≤lg∧vs=[zar g rs,.loc 0 0 0 nr,zho (zau g nh nw),.int .i64 (zau g nh nw).length,.int .i64 i,.ref (nr+1) tk 0,.int .i64 ((fr+k:Nat):Int)]∧S=⟨.arr 0 28 1 (lcW 1 0 nr nr)::(rwO 0 ((List.range k).foldl (fun M j=>tcA g lv ln M (fr+j)) M)++[.arr tk 94 4 [.bool lv,.int .i64 ln,.int .i64 fr,.int .i64 lg]]),tk+1⟩) lg ?_ ?_
  ·refine ⟨_,0,rfl,Nat.zero_le _,?_,za2 rfl⟩
   simp [Env.put,Env.of]
  rintro n vs S - ⟨k,rfl,h_k,rfl,rfl⟩
  have hM1:=hM.part hT (lv:=lv) (ln:=ln) (fr:=fr) (k:=k) fun j a b=>hin j a (by omega)
  generalize hM1e:((List.range k).foldl (fun M j=>tcA g lv ln M (fr+j)) M)=M1 at hM1
  have hM1l:=hM1.len
  refine W.seq ?_
  refine W.r fun K hK=>?_
  simp(disch:=omega)only[↓RU,RW,↓reduceIte,qE,reduceCtorEq,iP,w64,↓RS,RG,qA,qM,qL,zad,zi2,zaa,zi3,zc4,ykv hM1l]
  apply hK;clear hK K
  refine W.cond rfl (fun h1=>?_) (fun h1=>?_)
  ·try simp only[RL]at h1
   have hkl:k<lg:=by omega
   obtain ⟨hi1,hi2⟩:=hin (fr+k) (by omega) (by omega)
   obtain ⟨a,b,hsd,ha,hb,t1,t2⟩:=hT lv ln (fr+k) hi1 hi2
   have hSD:=zv5 hg rs hi1
   rw [hsd]at hSD
   obtain ⟨row,hrow,hrl,hrx⟩:=hM1.at_ ha hb
   have hv1:=hM1.val a b ha hb
   refine W.skip ?_
   refine xn ?_
   refine W.seq ?_
   refine W.block ?_
   refine W.r fun K hK=>?_
   simp(disch:=omega)only[↓RU,RW,↓reduceIte,qE,reduceCtorEq,iP,qN,↓RS,RG,qA,qM,qL,zad,zi2,zaa,zi3,zc4,ykv hM1l]
   refine zac.pc (hSD) rfl (.inl rfl) ?_
   simp(disch:=omega)only[↓RU,RW,↓reduceIte,qE,reduceCtorEq,iP,qN,↓RS,RG,qA,qM,qL,zad,zi2,zaa,zi3,zc4,ykv hM1l]
   apply hK;clear hK K
   refine W.r fun K hK=>?_
   simp(disch:=omega)only[↓RU,RW,↓reduceIte,qE,reduceCtorEq,iP,w64,↓RS,RG,qA,qM,qL,ty1,zab,zcl,zaa,zc4,z9b ha,zu9,tg_r hrow,tg_s (show a<M1.length by omega),hrl,hrx,zb8,zdh]
   apply hK;clear hK K
   rw [← zqu hrow]
   have hN:=hM1.inc ha hb t1
   obtain ⟨row2,hrow2,hrl2,hrx2⟩:=hN.at_ hb ha
   have hv2:=hN.val b a hb ha
   have hN2:=hN.inc hb ha t2
   have hNl:=hN.len
   refine W.k fun K hK=>?_
   simp(disch:=omega)only[↓RU,RW,↓reduceIte,qE,reduceCtorEq,iP,w64,↓RS,RG,qA,qM,qL,ty1,zab,zcl,zaa,zc4,z9b hb,zu9,tg_r hrow2,tg_s (show b<(z83 M1 a b).length by omega),hrl2,hrx2,zb8,zdh]
   apply hK;clear hK K
   rw [← zqu hrow2]
   generalize hM2e:z83 (z83 M1 a b) b a=M2 at hN2
   refine XbN ?_
   refine xn ?_
   refine W.k fun K hK=>?_
   simp(disch:=omega)only[↓RU,RW,↓reduceIte,qE,reduceCtorEq,iP,w64,↓RS,RG,qA,qM,qL,zaa,zc4]
   apply hK;clear hK K
   refine xn ?_
   refine ⟨lg - (k+1),by omega,_,k+1,rfl,by omega,?_,za2 ?_⟩
   ·simp [Env.put,Env.of]; omega
   rw [qS,List.foldl_append,List.foldl_cons,List.foldl_nil,hM1e]
   show _=(⟨_::(rwO 0 (z83 (z83 M1 (zbx g lv ln (fr+k)).1.toNat (zbx g lv ln (fr+k)).2.toNat) (zbx g lv ln (fr+k)).2.toNat (zbx g lv ln (fr+k)).1.toNat)++_),_⟩:Store)
   rw [hsd]
   simp only[Int.toNat_natCast]
   rw [hM2e]
  try simp only[RL]at h1
  obtain rfl:lg=k:=by omega
  have hM2:=hM1
  refine W.exit ?_
  refine xe ?_
  refine xe ?_
  refine XBlock.hit ?_
  refine XbN ?_
  refine xn ?_
  refine W.k fun K hK=>?_
  simp(disch:=omega)only[↓RU,RW,↓reduceIte,qE,reduceCtorEq,iP,w64,↓RS,RG,qA,qM,qL,zaa,zc4]
  apply hK;clear hK K
  refine xn ?_
  refine ⟨(zau g nh nw).length - (i+1),by omega,nr+1,i+1,tk+1,rfl,by omega,?_,?_⟩
  ·simp [Env.put,Env.of]
  rw [zgc hw,hMe,yks,hM1e]
  exact ykt (hM2.len)
 try simp only[RL]at h
 obtain rfl:i=(zau g nh nw).length:=by omega
 rw [List.take_length]
 refine W.exit ?_
 refine xe ?_
 refine xe ?_
 refine XBlock.hit ?_
 refine xn ?_
 refine W.r fun K hK=>?_
 simp(disch:=omega)only[↓RU,RW,↓reduceIte,qE,reduceCtorEq,iP,↓RS,RG,qA,qM,qL,zc4]
 apply hK;clear hK K
 refine W.ret ?_
 refine Br rfl ?_
 exact yjt (M:=tcM g nh nw nr) (yi4 hT hwk)
def zq6 (row:List Int) (k:Nat):List Int:=((List.range k).filter fun b=>decide (0<zcw row b)).map fun b:Nat=>(b:Int)
theorem zme {row:List Int} {k:Nat} {x:Int} (h:row[k]?=some x):zq6 row (k+1)=if 0<x then zq6 row k++[(k:Int)] else zq6 row k:=by
 unfold zq6
 rw [qS,List.filter_append,List.map_append]
 by_cases h1:0<x <;> simp [zf5 h,h1]
theorem z3k {row:List Int} {k:Nat}:(zq6 row k).length≤k:=by
 unfold zq6
 rw [List.length_map]
 exact Nat.le_trans (List.length_filter_le _ _) (by rw [List.length_range]; exact qR _)
def nbV (row:List Int):List Int:=zq6 row row.length
theorem ydz (x:Int) (l:List Int):(¬ 0<x∧l=[])∨(¬ 0<x∧l≠[])∨(0<x∧l=[])∨(0<x∧l≠[]):=by
 by_cases h:0<x <;> by_cases e:l=[] <;> simp [h,e]
def slN (l:List Int) (v:Nat):PV:=match l with | [] => .nils | _ => .loc 0 v 0 l.length
def stN (l:List Int) (v t:Nat):Store:=match l with | []=>⟨[],t⟩ | _=>⟨[.arr v 3 1 (l.map (.int .i64))],t⟩
theorem zjo {v:Nat}:slN [] v = .nils:=rfl
theorem zjp {v t:Nat}:stN [] v t=⟨[],t⟩:=rfl
theorem zku {l:List Int} {v:Nat} (h:l≠[]):slN l v = .loc 0 v 0 l.length:=by cases l with | nil=>exact absurd rfl h | cons a l=>rfl
theorem zkv {l:List Int} {v t:Nat} (h:l≠[]):stN l v t=⟨[.arr v 3 1 (l.map (.int .i64))],t⟩:=by cases l with | nil=>exact absurd rfl h | cons a l=>rfl
theorem zy8 {l:List Int} {v t:Nat} {im:Bool} {k:Nat}:reify (stN l v t) im (k+2) (slN l v)=some (eInts l):=by
 cases l with
 | nil=>rfl
 | cons a l=>exact zce (k:=k+1) (S:=⟨[.arr v 3 1 ((a::l).map (.int .i64))],t⟩) (o:=0) rfl (by simp) (zmc _)
theorem yh3 {M:List (List Int)} {a:Nat} {row:List Int} (hrow:M[a]?=some row) (hr:row.length≤1000):PC Tryz.prog 101 [zct M,.int .i64 a] (eInts (nbV row)) true:=by
 have hal:=zb5 hrow
 refine PC.of ⟨Tryz.func101,by kernel_rfl,rfl,by kernel_rfl⟩ zav mixed (by show 2≤Tryz.f101.ntmps; decide) ?_
 refine W.r fun K hK=>?_
 simp(disch:=omega)only[↓RU,RW,↓reduceIte,qE,reduceCtorEq,iP,↓RS,RG,qA,qM,qL]
 apply hK;clear hK K
 refine W.r fun K hK=>?_
 simp(disch:=omega)only[↓RU,RW,↓reduceIte,qE,reduceCtorEq,iP,↓RS,RG,qA,qM,qL]
 apply hK;clear hK K
 refine W.seq ?_
 refine W.r fun K hK=>?_
 simp(disch:=omega)only[↓RU,RW,↓reduceIte,qE,reduceCtorEq,iP,↓RS,RG,qA,qM,qL,ty1,zab,zaa,hrow]
 apply hK;clear hK K
 refine W.block ?_
 refine W.loopS [11,12,13,5] (fun n vs S=>∃ i v tk:Nat,n=row.length - i∧i≤row.length∧vs=[eInts row,.int .i64 row.length,.int .i64 i,slN (zq6 row i) v]∧S=stN (zq6 row i) v tk) row.length ?_ ?_
 ·refine ⟨0,[],[eInts row,.int .i64 row.length,.int .i64 (0:Nat),slN [] 0],stN [] 0 1,?_,?_,0,0,1,rfl,by omega,rfl,rfl⟩
  ·simp [-qU,Env.put,Env.of,zai,za9,zae,zak,zam,zao,zbd,zbe,zb2,zbc,zaz,zbf,zb1,zb3,za1,za0,zap,zbb,zbg,zb0,zax,zaw,zan,zay,zba,zdr,qS,qP,qC,zjo]
  simp [-qU,Env.put,Env.of,zai,za9,zae,zak,zam,zao,zbd,zbe,zb2,zbc,zaz,zbf,zb1,zb3,za1,za0,zap,zbb,zbg,zb0,zax,zaw,zan,zay,zba,zdr,qS,qP,qC,zjp]
 rintro n vs S - ⟨i,v,tk,rfl,h_i,rfl,rfl⟩
 refine W.r fun K hK=>?_
 simp(disch:=omega)only[↓RU,RW,↓reduceIte,qE,reduceCtorEq,iP,w64,↓RS,RG,qA,qM,qL,zaa]
 apply hK;clear hK K
 refine W.seq ?_
 refine W.cond rfl (fun h=>?_) (fun h=>?_)
 ·try simp only[RL]at h
  obtain ⟨x,hx,-⟩:=zaj (show i<row.length by omega)
  have hlen:=z3k (row:=row) (k:=i)
  generalize hl:zq6 row i=l at hlen
  refine W.skip ?_
  refine xn ?_
  refine W.seq ?_
  refine W.block ?_
  refine W.r fun K hK=>?_
  obtain ⟨hd,rfl⟩ | ⟨hd,hw⟩ | ⟨hd,rfl⟩ | ⟨hd,hw⟩:=ydz x l
  ·skip
   rw [zjo,zjp]
   simp(disch:=omega)only[↓RU,RW,↓reduceIte,qE,reduceCtorEq,iP,↓RS,RG,qA,qM,qL,zab,zaa,hx]
   apply hK;clear hK K
   refine W.r fun K hK=>?_
   simp(disch:=omega)only[↓RU,RW,↓reduceIte,qE,reduceCtorEq,iP,w64,↓RS,RG,qA,qM,qL,zaa]
   apply hK;clear hK K
   refine W.cond rfl (fun h1=>?_) (fun h1=>?_)
   ·try simp only[RL]at h1
    exact absurd h1 (by omega)
   try simp only[RL]at h1
   refine W.skip ?_
   refine XbN ?_
   refine xn ?_
   refine W.k fun K hK=>?_
   simp(disch:=omega)only[↓RU,RW,↓reduceIte,qE,reduceCtorEq,iP,w64,↓RS,RG,qA,qM,qL,zaa]
   apply hK;clear hK K
   refine xn ?_
   have hnx:(zq6 row (i+1))=[]:=by rw [zme hx,hl,if_neg hd]
   refine ⟨row.length - (i+1),by omega,0,[],[eInts row,.int .i64 row.length,.int .i64 ((i+1:Nat):Int),slN (zq6 row (i+1)) v],stN (zq6 row (i+1)) v (tk+1),?_,?_,i+1,v,(tk+1),rfl,by omega,rfl,rfl⟩
   ·rw [hnx]; simp [-qU,Env.put,Env.of,zai,za9,zae,zak,zam,zao,zbd,zbe,zb2,zbc,zaz,zbf,zb1,zb3,za1,za0,zap,zbb,zbg,zb0,zax,zaw,zan,zay,zba,zdr,qS,qP,qC,zjo]
   rw [hnx]; simp [-qU,Env.put,Env.of,zai,za9,zae,zak,zam,zao,zbd,zbe,zb2,zbc,zaz,zbf,zb1,zb3,za1,za0,zap,zbb,zbg,zb0,zax,zaw,zan,zay,zba,zdr,qS,qP,qC,zjp]
  ·skip
   rw [zku hw,zkv hw]
   simp(disch:=omega)only[↓RU,RW,↓reduceIte,qE,reduceCtorEq,iP,↓RS,RG,qA,qM,qL,zab,zaa,hx]
   apply hK;clear hK K
   refine W.r fun K hK=>?_
   simp(disch:=omega)only[↓RU,RW,↓reduceIte,qE,reduceCtorEq,iP,w64,↓RS,RG,qA,qM,qL,zaa]
   apply hK;clear hK K
   refine W.cond rfl (fun h1=>?_) (fun h1=>?_)
   ·try simp only[RL]at h1
    exact absurd h1 (by omega)
   try simp only[RL]at h1
   refine W.skip ?_
   refine XbN ?_
   refine xn ?_
   refine W.k fun K hK=>?_
   simp(disch:=omega)only[↓RU,RW,↓reduceIte,qE,reduceCtorEq,iP,w64,↓RS,RG,qA,qM,qL,zaa]
   apply hK;clear hK K
   refine xn ?_
   have hnx:(zq6 row (i+1))=l:=by rw [zme hx,hl,if_neg hd]
   refine ⟨row.length - (i+1),by omega,1,[],[eInts row,.int .i64 row.length,.int .i64 ((i+1:Nat):Int),slN (zq6 row (i+1)) v],stN (zq6 row (i+1)) v (tk+1),?_,?_,i+1,v,(tk+1),rfl,by omega,rfl,rfl⟩
   ·rw [hnx]; simp [-qU,Env.put,Env.of,zai,za9,zae,zak,zam,zao,zbd,zbe,zb2,zbc,zaz,zbf,zb1,zb3,za1,za0,zap,zbb,zbg,zb0,zax,zaw,zan,zay,zba,zdr,qS,qP,qC,zku hw]
   rw [hnx]; simp [-qU,Env.put,Env.of,zai,za9,zae,zak,zam,zao,zbd,zbe,zb2,zbc,zaz,zbf,zb1,zb3,za1,za0,zap,zbb,zbg,zb0,zax,zaw,zan,zay,zba,zdr,qS,qP,qC,zkv hw,zff]
  ·skip
   rw [zjo,zjp]
   simp(disch:=omega)only[↓RU,RW,↓reduceIte,qE,reduceCtorEq,iP,↓RS,RG,qA,qM,qL,zab,zaa,hx]
   apply hK;clear hK K
   refine W.r fun K hK=>?_
   simp(disch:=omega)only[↓RU,RW,↓reduceIte,qE,reduceCtorEq,iP,w64,↓RS,RG,qA,qM,qL,zaa]
   apply hK;clear hK K
   refine W.cond rfl (fun h1=>?_) (fun h1=>?_)
   ·try simp only[RL]at h1
    refine W.k fun K hK=>?_
    simp(disch:=omega)only[↓RU,RW,↓reduceIte,qE,reduceCtorEq,iP,↓RS,RG,qA,qM,qL,zab,zaa]
    apply hK;clear hK K
    refine XbN ?_
    refine xn ?_
    refine W.k fun K hK=>?_
    simp(disch:=omega)only[↓RU,RW,↓reduceIte,qE,reduceCtorEq,iP,w64,↓RS,RG,qA,qM,qL,zaa]
    apply hK;clear hK K
    refine xn ?_
    have hnx:(zq6 row (i+1))=[(i:Int)]:=by rw [zme hx,hl,if_pos hd]; rfl
    refine ⟨row.length - (i+1),by omega,0,[1],[eInts row,.int .i64 row.length,.int .i64 ((i+1:Nat):Int),slN (zq6 row (i+1)) (tk+2)],stN (zq6 row (i+1)) (tk+2) (tk+3),?_,?_,i+1,(tk+2),(tk+3),rfl,by omega,rfl,rfl⟩
    ·rw [hnx]; simp [-qU,Env.put,Env.of,zai,za9,zae,zak,zam,zao,zbd,zbe,zb2,zbc,zaz,zbf,zb1,zb3,za1,za0,zap,zbb,zbg,zb0,zax,zaw,zan,zay,zba,zdr,qS,qP,qC,zku]
    rw [hnx]; simp [-qU,Env.put,Env.of,zai,za9,zae,zak,zam,zao,zbd,zbe,zb2,zbc,zaz,zbf,zb1,zb3,za1,za0,zap,zbb,zbg,zb0,zax,zaw,zan,zay,zba,zdr,qS,qP,qC,zkv]
   try simp only[RL]at h1
   exact absurd h1 (by omega)
  skip
  rw [zku hw,zkv hw]
  simp(disch:=omega)only[↓RU,RW,↓reduceIte,qE,reduceCtorEq,iP,↓RS,RG,qA,qM,qL,zab,zaa,hx]
  apply hK;clear hK K
  refine W.r fun K hK=>?_
  simp(disch:=omega)only[↓RU,RW,↓reduceIte,qE,reduceCtorEq,iP,w64,↓RS,RG,qA,qM,qL,zaa]
  apply hK;clear hK K
  refine W.cond rfl (fun h1=>?_) (fun h1=>?_)
  ·try simp only[RL]at h1
   refine W.k fun K hK=>?_
   simp(disch:=omega)only[↓RU,RW,↓reduceIte,qE,reduceCtorEq,iP,↓RS,RG,qA,qM,qL,zab,zaa]
   apply hK;clear hK K
   refine XbN ?_
   refine xn ?_
   refine W.k fun K hK=>?_
   simp(disch:=omega)only[↓RU,RW,↓reduceIte,qE,reduceCtorEq,iP,w64,↓RS,RG,qA,qM,qL,zaa]
   apply hK;clear hK K
   refine xn ?_
   have hnx:(zq6 row (i+1))=l++[(i:Int)]:=by rw [zme hx,hl,if_pos hd]
   refine ⟨row.length - (i+1),by omega,1,[],[eInts row,.int .i64 row.length,.int .i64 ((i+1:Nat):Int),slN (zq6 row (i+1)) (tk+1)],stN (zq6 row (i+1)) (tk+1) (tk+3),?_,?_,i+1,(tk+1),(tk+3),rfl,by omega,rfl,rfl⟩
   ·rw [hnx]; simp [-qU,Env.put,Env.of,zai,za9,zae,zak,zam,zao,zbd,zbe,zb2,zbc,zaz,zbf,zb1,zb3,za1,za0,zap,zbb,zbg,zb0,zax,zaw,zan,zay,zba,zdr,qS,qP,qC,zku (l:=l++[(i:Int)]) (by simp)]
   rw [hnx]; simp [-qU,Env.put,Env.of,zai,za9,zae,zak,zam,zao,zbd,zbe,zb2,zbc,zaz,zbf,zb1,zb3,za1,za0,zap,zbb,zbg,zb0,zax,zaw,zan,zay,zba,zdr,qS,qP,qC,zkv (l:=l++[(i:Int)]) (by simp),zff]
  try simp only[RL]at h1
  exact absurd h1 (by omega)
 try simp only[RL]at h
 obtain rfl:row.length=i:=by omega
 refine W.exit ?_
 refine xe ?_
 refine xe ?_
 refine XBlock.hit ?_
 refine xn ?_
 refine W.r fun K hK=>?_
 simp(disch:=omega)only[↓RU,RW,↓reduceIte,qE,reduceCtorEq,iP,↓RS,RG,qA,qM,qL]
 apply hK;clear hK K
 refine W.ret ?_
 refine Br rfl ?_
 exact zy8
end
theorem yke {l:List Int} {x0:Int} (h0:l[0]?=some x0) (hl:l.length<2147483648):PC Tryz.prog 45 [eInts l] (.int .i64 (yjd l)) true:=by
 have hl0:=zb5 h0
 refine PC.of ⟨Tryz.func45,by kernel_rfl,rfl,by kernel_rfl⟩ zav mixed (by show 1≤Tryz.f45.ntmps; decide) ?_
 refine W.r fun K hK=>?_
 simp(disch:=omega)only[↓RU,RW,↓reduceIte,qE,reduceCtorEq,iP]
 apply hK;clear hK K
 refine W.seq ?_
 refine W.r fun K hK=>?_
 simp(disch:=omega)only[↓RU,RW,↓reduceIte,qE,reduceCtorEq,iP,w64,zab,zaa]
 apply hK;clear hK K
 refine W.cond rfl (fun h=>?_) (fun h=>?_)
 ·try simp only[RL]at h
  exfalso; omega
 try simp only[RL]at h
 refine W.skip ?_
 refine xn ?_
 refine W.r fun K hK=>?_
 simp(disch:=omega)only[↓RU,RW,↓reduceIte,qE,reduceCtorEq,iP,zab,zaa,h0,Int.toNat_zero,Nat.zero_mul,qZ]
 apply hK;clear hK K
 refine W.seq ?_
 refine W.r fun K hK=>?_
 simp(disch:=omega)only[↓RU,RW,↓reduceIte,qE,reduceCtorEq,iP]
 apply hK;clear hK K
 refine W.block ?_
 refine W.loop [0,3,4] (fun n vs S=>∃ i:Nat,n=l.length - i∧i≤l.length∧(1≤i)∧vs=[eInts l,.int .i64 (((l.take i).drop 1).foldl max x0),.int .i64 i]∧S=⟨[],0⟩) (l.length - 1) ?_ ?_
 ·refine ⟨0,1,rfl,by omega,qR _,?_,rfl⟩
  simp [Env.put,Env.of,zai,z5x]
 rintro n vs S - ⟨i,rfl,h_i,h1i,rfl,rfl⟩
 refine W.seq ?_
 refine W.r fun K hK=>?_
 simp(disch:=omega)only[↓RU,RW,↓reduceIte,qE,reduceCtorEq,iP,w64,zab,zaa]
 apply hK;clear hK K
 refine W.cond rfl (fun h1=>?_) (fun h1=>?_)
 ·try simp only[RL]at h1
  obtain ⟨x,hx,-⟩:=zaj (show i<l.length by omega)
  refine W.skip ?_
  refine xn ?_
  refine W.seq ?_
  refine W.block ?_
  refine W.k fun K hK=>?_
  simp(disch:=omega)only[↓RU,RW,↓reduceIte,qE,reduceCtorEq,iP,zk3,zab,zaa,hx]
  apply hK;clear hK K
  refine XbN ?_
  refine xn ?_
  refine W.k fun K hK=>?_
  simp(disch:=omega)only[↓RU,RW,↓reduceIte,qE,reduceCtorEq,iP,w64,zaa]
  apply hK;clear hK K
  refine xn ?_
  refine ⟨l.length - (i+1),by omega,0,i+1,rfl,by omega,by omega,?_,rfl⟩
  rw [z9k h1i hx]
  simp [Env.put,Env.of]
 try simp only[RL]at h1
 refine W.exit ?_
 refine xe ?_
 refine xe ?_
 refine XBlock.hit ?_
 refine xn ?_
 refine W.r fun K hK=>?_
 simp(disch:=omega)only[↓RU,RW,↓reduceIte,qE,reduceCtorEq,iP]
 apply hK;clear hK K
 refine W.ret ?_
 refine Br rfl ?_
 rw [ydw h0 (by omega)]
 rfl
def zsy (out:List Int) (c:Int) (b:Int):Bool:=decide (b<out.length) && decide (zcw out b.toNat=c)
theorem yd0 {M:List (List Int)} {row out:List Int} {c:Int} (hr:M[out.length]?=some row) (hl:out.length≤row.length):(nbV row).any (zsy out c)=clash M out c:=by
 have hg:∀ b,gz M out.length b=zcw row b:=fun b=>by unfold gz zcw; rw [hr,Option.getD_some]
 unfold nbV zq6 clash zsy
 rw [Bool.eq_iff_iff]
 simp only[List.any_eq_true,List.mem_map,List.mem_filter,List.mem_range,qB,decide_eq_true_eq,hg]
 constructor
 ·rintro ⟨x,⟨b,⟨h1,h2⟩,rfl⟩,h3,h4⟩
  exact ⟨b,by omega,h2,by simpa using h4⟩
 rintro ⟨b,h1,h2,h3⟩
 exact ⟨(b:Int),⟨b,⟨by omega,h2⟩,rfl⟩,by omega,by simpa using h3⟩
theorem ygx {k:Nat} {l:List Int}:∀ c∈l.map (PV.int .i64),Bel k c:=fun c hc=>by obtain ⟨x,-,rfl⟩:=List.mem_map.1 hc; exact .int _ _
theorem yaq {S:Store} {im:Bool} {k o ver et n:Nat} {rz out:List Int} (h:S.obs[o]?=some (.arr ver et 1 (rz.map (.int .i64)))) (ht:rz.take n=out) (hn:out.length=n):reify S im (k+2) (.loc o ver 0 n)=some (eInts out):=by
 have hl:n≤rz.length:=by rw [← ht,List.length_take]at hn; omega
 show (match S.obs[o]? with | some (.arr v _ sz cells)=>if v=ver∧0+n*sz≤cells.length then (((cells.drop 0).take (n*sz)).mapM (reify S im (k+1))).map (PV.sl · n) else none | _=>none)=_
 rw [h]
 simp only[true_and,Nat.zero_add,Nat.mul_one,List.length_map,hl,if_true,List.drop_zero]
 rw [← List.map_take,ht,zb7 fun x hx=>by obtain ⟨z,_,rfl⟩:=List.mem_map.1 hx; rfl]
 rw [eInts,hn]; rfl
theorem zz1 {f:List Int→Option (List Int)} {M:List (List Int)} {out:List Int} {c:Nat} (h:zz0 f M out c=none) (h2:clash M out (c:Int)=true∨f (out++[(c:Int)])=none):zz0 f M out (c+1)=none:=by
 unfold zz0
 rw [h]
 simp only
 rcases h2 with h2 | h2
 ·rw [h2]; rfl
 rw [h2]; split <;> rfl
theorem yez {f:List Int→Option (List Int)} {M:List (List Int)} {out r:List Int} {c:Nat} (h:zz0 f M out c=none) (h1:clash M out (c:Int)=false) (h2:f (out++[(c:Int)])=some r):∀ {m:Nat},c<m→zz0 f M out m=some r:=by
 have h0:zz0 f M out (c+1)=some r:=by unfold zz0; rw [h]; simp only; rw [h1,h2]; rfl
 intro m
 induction m with
 | zero=>intro h; omega
 | succ m ih =>
  intro hm
  by_cases e:c=m
  ·rw [← e]; exact h0
  unfold zz0; rw [ih (by omega)]
theorem z7q {out:List Int} {c b:Int} (h0:0≤b):PC Tryz.prog 99 [.int .i64 b,.ip [.int .i64 out.length] 0,.ip [eInts out] 0,.ip [.int .i64 c] 0] (.bool (zsy out c b)) true:=by
 refine PC.of ⟨Tryz.func99,by kernel_rfl,rfl,by kernel_rfl⟩ zav mixed (by show 4≤Tryz.f99.ntmps; decide) ?_
 refine W.r fun K hK=>?_
 simp(disch:=omega)only[↓RU,RW,↓reduceIte,qE,reduceCtorEq,iP,↓RS,RG,qA,qM,qL]
 apply hK;clear hK K
 refine W.seq_draw (by kernel_rfl) fun K hK=>?_
 cases hd:decide (b<(out.length:Int))
 ·skip
  simp(disch:=omega)only[↓RU,RW,↓reduceIte,qE,reduceCtorEq,iP,w64,↓RS,RG,qA,qM,qL,zab,zaa,hd]
  apply hK;clear hK K
  refine W.ret ?_
  refine Br rfl ?_
  unfold zsy
  rw [hd]
  rfl
 skip
 have hlt:=of_decide_eq_true hd
 obtain ⟨x,hx,-⟩:=zaj (show b.toNat<out.length by omega)
 simp(disch:=omega)only[↓RU,RW,↓reduceIte,qE,reduceCtorEq,iP,w64,↓RS,RG,qA,qM,qL,zab,zaa,hd,hx]
 apply hK;clear hK K
 refine W.ret ?_
 refine Br rfl ?_
 unfold zsy
 rw [hd,zf5 hx]
 rfl
theorem yev {rz out:List Int} {c:Int} (h:rz.take (out++[c]).length=out++[c]):rz.take out.length=out:=by
 rw [List.length_append,List.length_singleton]at h
 have:=congrArg (List.take out.length) h
 rw [List.take_take,Nat.min_eq_left (by omega),List.take_left']at this
 ·exact this
 rfl
theorem z7w {M:List (List Int)} {rz:List Int} {m v a:Nat}:∀ ob∈([.arr 0 38 1 [zct M],.arr 1 3 1 [.int .i64 m],.arr v 3 1 ((rz).map (.int .i64)),.arr 3 28 1 [.loc 2 v 0 a],.arr 4 83 1 [.fn 98 [.ref 3 3 0,.ref 0 0 0,.ref 1 1 0,.ref 4 4 0]]]:List Ob),ob.bel 5:=by
 intro ob hob
 simp only[List.mem_cons,List.not_mem_nil,or_false]at hob
 rcases hob with rfl | rfl | rfl | rfl | rfl
 ·intro c hc; simp only[List.mem_singleton]at hc; subst hc; exact .sl _ _
 ·intro c hc; simp only[List.mem_singleton]at hc; subst hc; exact .int _ _
 ·exact ygx
 ·intro c hc; simp only[List.mem_singleton]at hc; subst hc; exact .loc _ _ _ _ (by decide)
 intro c hc
 simp only[List.mem_singleton]at hc; subst hc
 refine .fn _ _ fun c hc=>?_
 simp only[List.mem_cons,List.not_mem_nil,or_false]at hc
 rcases hc with rfl | rfl | rfl | rfl <;> exact .ref _ _ _ (by decide)
theorem ylp {row:List Int}:∀ x∈nbV row,0≤x:=fun x hx=>by
 obtain ⟨b,-,rfl⟩:=List.mem_map.1 hx
 omega
theorem yap {S:Store} {f:FuncId} {oa va ob vb or vr oc vc ea eb er ec n:Nat} {rz out:List Int} {c:Int} (ha:S.obs[oa]?=some (.arr va ea 1 [.int .i64 n])) (hb:S.obs[ob]?=some (.arr vb eb 1 [.loc or vr 0 n])) (hr:S.obs[or]?=some (.arr vr er 1 (rz.map (.int .i64)))) (ht:rz.take n=out) (hn:out.length=n) (hc:S.obs[oc]?=some (.arr vc ec 1 [.int .i64 c])) :
  reify S true 10 (.fn f [.ref oa va 0,.ref ob vb 0,.ref oc vc 0])=some (.fn f [.ip [.int .i64 n] 0,.ip [eInts out] 0,.ip [.int .i64 c] 0]):=by
 have r1:reify S true 9 (.ref oa va 0)=some (.ip [.int .i64 n] 0):=by
  show (S.cellsOf oa va).bind (fun cells=>(cells.mapM (reify S true 8)).map (PV.ip · 0))=_
  rw [show S.cellsOf oa va=some [.int .i64 n] by simp [Store.cellsOf,ha]]; rfl
 have r3:reify S true 9 (.ref oc vc 0)=some (.ip [.int .i64 c] 0):=by
  show (S.cellsOf oc vc).bind (fun cells=>(cells.mapM (reify S true 8)).map (PV.ip · 0))=_
  rw [show S.cellsOf oc vc=some [.int .i64 c] by simp [Store.cellsOf,hc]]; rfl
 have r2:reify S true 9 (.ref ob vb 0)=some (.ip [eInts out] 0):=by
  show (S.cellsOf ob vb).bind (fun cells=>(cells.mapM (reify S true 8)).map (PV.ip · 0))=_
  rw [show S.cellsOf ob vb=some [.loc or vr 0 n] by simp [Store.cellsOf,hb]]
  show (List.mapM (reify S true 8) [.loc or vr 0 n]).map (PV.ip · 0)=_
  rw [za5 (yaq (k:=6) hr ht hn) (l:=[]) rfl]; rfl
 rw [zd7,za5 r1 (za5 r2 (za5 r3 rfl))]; rfl
theorem yg4 {M:List (List Int)} {m n:Nat} (hM:M.length=n) (hR:∀ r∈M,r.length=n) (hn:n≤9) (hm:m≤100) {k:Nat} {out:List Int} (hk:out.length+k=n) {v0 t0:Nat}
  (ih:∀ k2:Nat,k2<k→∀ out2:List Int,out2.length+k2=n→∀ v0 t0:Nat,Ev Tryz.prog 98 [.ref 3 3 0,.ref 0 0 0,.ref 1 1 0,.ref 4 4 0] ⟨[.arr 0 38 1 [zct M],.arr 1 3 1 [.int .i64 m],.arr v0 3 1 ((out2).map (.int .i64)),.arr 3 28 1 [.loc 2 v0 0 out2.length],.arr 4 83 1 [.fn 98 [.ref 3 3 0,.ref 0 0 0,.ref 1 1 0,.ref 4 4 0]]],t0⟩ (fun v S=>v = .bool (zi8 M m k2 out2).isSome∧∃ (rw2:List Int) (v2 t2:Nat),(rw2.take ((zi8 M m k2 out2).getD out2).length=(zi8 M m k2 out2).getD out2∧((zi8 M m k2 out2).isSome=true→rw2=(zi8 M m k2 out2).getD out2))∧S=⟨[.arr 0 38 1 [zct M],.arr 1 3 1 [.int .i64 m],.arr v2 3 1 ((rw2).map (.int .i64)),.arr 3 28 1 [.loc 2 v2 0 ((zi8 M m k2 out2).getD out2).length],.arr 4 83 1 [.fn 98 [.ref 3 3 0,.ref 0 0 0,.ref 1 1 0,.ref 4 4 0]]],t2⟩)):Ev Tryz.prog 98 [.ref 3 3 0,.ref 0 0 0,.ref 1 1 0,.ref 4 4 0] ⟨[.arr 0 38 1 [zct M],.arr 1 3 1 [.int .i64 m],.arr v0 3 1 ((out).map (.int .i64)),.arr 3 28 1 [.loc 2 v0 0 out.length],.arr 4 83 1 [.fn 98 [.ref 3 3 0,.ref 0 0 0,.ref 1 1 0,.ref 4 4 0]]],t0⟩ fun v S=>v = .bool (zi8 M m k out).isSome∧∃ (rw2:List Int) (v2 t2:Nat),(rw2.take ((zi8 M m k out).getD out).length=(zi8 M m k out).getD out∧((zi8 M m k out).isSome=true→rw2=(zi8 M m k out).getD out))∧S=⟨[.arr 0 38 1 [zct M],.arr 1 3 1 [.int .i64 m],.arr v2 3 1 ((rw2).map (.int .i64)),.arr 3 28 1 [.loc 2 v2 0 ((zi8 M m k out).getD out).length],.arr 4 83 1 [.fn 98 [.ref 3 3 0,.ref 0 0 0,.ref 1 1 0,.ref 4 4 0]]],t2⟩:=by
 refine Ev.of ⟨Tryz.func98,by kernel_rfl,rfl,by kernel_rfl⟩ zav mixed (by show 4≤Tryz.f98.ntmps; decide) ?_
 refine W.r fun K hK=>?_
 simp(disch:=omega)only[↓RU,RW,↓reduceIte,qE,reduceCtorEq,iP,↓RS,RG,qA,qM,qL]
 apply hK;clear hK K
 refine W.r fun K hK=>?_
 simp(disch:=omega)only[↓RU,RW,↓reduceIte,qE,reduceCtorEq,iP,↓RS,RG,qA,qM,qL,zab,zaa]
 apply hK;clear hK K
 refine W.seq ?_
 refine W.r fun K hK=>?_
 simp(disch:=omega)only[↓RU,RW,↓reduceIte,qE,reduceCtorEq,iP,w64,↓RS,RG,qA,qM,qL,ty1,zab,zaa,hM]
 apply hK;clear hK K
 refine W.cond rfl (fun h0=>?_) (fun h0=>?_)
 ·try simp only[RL]at h0
  obtain rfl:k=0:=by omega
  refine W.r fun K hK=>?_
  simp(disch:=omega)only[↓RU,RW,↓reduceIte,qE,reduceCtorEq,iP,↓RS,RG,qA,qM,qL]
  apply hK;clear hK K
  refine W.ret ?_
  refine XThen.ret ?_
  refine Br rfl ?_
  exact ⟨5,rfl,out,v0,_,⟨List.take_length,fun _=>rfl⟩,rfl⟩
 try simp only[RL]at h0
 obtain ⟨k,rfl⟩:∃ k2,k=k2+1:=⟨k - 1,by omega⟩
 obtain ⟨row,hrow,hrm⟩:=zaj (show out.length<M.length by omega)
 have hrl:=hR row hrm
 refine W.skip ?_
 refine xn ?_
 refine W.seq ?_
 refine W.r fun K hK=>?_
 simp(disch:=omega)only[↓RU,RW,↓reduceIte,qE,reduceCtorEq,iP,↓RS,RG,qA,qM,qL,zaa]
 apply hK;clear hK K
 refine W.block ?_
 refine W.loop [0,1,2,3,5,14,15] (fun n vs S=>∃ (c:Nat) (rz:List Int) (v tk0 tk:Nat),n=m - c∧c≤m∧rz.take out.length=out∧zz0 (zi8 M m k) M out c=none∧vs=[.ref 3 3 0,.ref 0 0 0,.ref 1 1 0,.ref 4 4 0,.ref 5 tk0 0,.int .i64 m,.int .i64 c]∧S=⟨[.arr 0 38 1 [zct M],.arr 1 3 1 [.int .i64 m],.arr v 3 1 ((rz).map (.int .i64)),.arr 3 28 1 [.loc 2 v 0 out.length],.arr 4 83 1 [.fn 98 [.ref 3 3 0,.ref 0 0 0,.ref 1 1 0,.ref 4 4 0]],.arr tk0 3 1 [.int .i64 out.length]],tk⟩) m ?_ ?_
 ·refine ⟨_,0,out,v0,_,_,rfl,Nat.zero_le _,List.take_length,rfl,?_,za2 rfl⟩
  simp [Env.put,Env.of,zai]
 rintro n vs S - ⟨c,rz,v,tk0,tk,rfl,h_c,hrw,htc,rfl,rfl⟩
 refine W.r fun K hK=>?_
 simp(disch:=omega)only[↓RU,RW,↓reduceIte,qE,reduceCtorEq,iP,w64,↓RS,RG,qA,qM,qL,zaa]
 apply hK;clear hK K
 refine W.seq ?_
 refine W.cond rfl (fun h1=>?_) (fun h1=>?_)
 ·try simp only[RL]at h1
  have hcl:c<m:=by omega
  have hrwl:out.length≤rz.length:=by have:=congrArg List.length hrw; rw [List.length_take]at this; omega
  refine W.skip ?_
  refine xn ?_
  refine W.seq ?_
  refine W.block ?_
  refine W.r fun K hK=>?_
  simp(disch:=omega)only[↓RU,RW,↓reduceIte,qE,reduceCtorEq,iP,↓RS,RG,qA,qM,qL,zaa]
  apply hK;clear hK K
  refine W.r fun K hK=>?_
  simp(disch:=omega)only[↓RU,RW,↓reduceIte,qE,reduceCtorEq,iP,↓RS,RG,qA,qM,qL]
  apply hK;clear hK K
  refine W.seq ?_
  refine W.r fun K hK=>?_
  simp(disch:=omega)only[↓RU,RW,↓reduceIte,qE,reduceCtorEq,iP,qN,↓RS,RG,qA,qM,qL,ty1,zab,zaa]
  refine zac.pc (yh3 hrow (by omega)) rfl (.inl rfl) ?_
  simp(disch:=omega)only[↓RU,RW,↓reduceIte,qE,reduceCtorEq,iP,qN,↓RS,RG,qA,qM,qL,ty1,zab,zaa]
  refine zac.pc (zsa (l:=nbV row) (by have:=z3k (row:=row) (k:=row.length); unfold nbV; omega) (g:=99) (cap:=[.ip [.int .i64 out.length] 0,.ip [eInts out] 0,.ip [.int .i64 c] 0]) rfl rfl (test:=zsy out c) (fun x hx=>z7q (ylp x hx))) (za5 rfl (za5 (yap rfl rfl rfl hrw rfl rfl) rfl)) (.inl rfl) ?_
  simp(disch:=omega)only[↓RU,RW,↓reduceIte,qE,reduceCtorEq,iP,qN,↓RS,RG,qA,qM,qL,ty1,zab,zaa,yd0 hrow (show out.length≤row.length by omega)]
  apply hK;clear hK K
  refine W.cond rfl (fun h2=>?_) (fun h2=>?_)
  ·try simp only[RL]at h2
   have hnx:=zz1 htc (.inl h2)
   refine W.exit ?_
   refine xe ?_
   refine XBlock.hit ?_
   refine xn ?_
   refine W.k fun K hK=>?_
   simp(disch:=omega)only[↓RU,RW,↓reduceIte,qE,reduceCtorEq,iP,w64,↓RS,RG,qA,qM,qL,zaa]
   apply hK;clear hK K
   refine xn ?_
   refine ⟨m - (c+1),by omega,6,c+1,rz,v,tk0,_,rfl,by omega,hrw,hnx,?_,rfl⟩
   simp [Env.put,Env.of]
  try simp only[RL]at h2
  have hcf:clash M out (c:Int)=false:=by simpa using h2
  have hI:=ih k (by omega) (out++[(c:Int)]) (by rw [List.length_append,List.length_singleton]; omega) (tk+1+1) (tk+1+1+1)
  rw [show (out++[(c:Int)]).length=out.length+1 by simp]at hI
  refine W.skip ?_
  refine xn ?_
  refine W.r fun K hK=>?_
  simp(disch:=omega)only[↓RU,RW,↓reduceIte,qE,reduceCtorEq,iP,↓RS,RG,qA,qM,qL,zab,zaa,yb1,hrw]
  apply hK;clear hK K
  rw [show (rz.map (PV.int .i64)).take out.length++[.int .i64 (c:Int)]=(out++[(c:Int)]).map (PV.int .i64) by rw [← List.map_take,hrw]; simp]
  refine W.seq ?_
  refine W.r fun K hK=>?_
  rcases hcv:zi8 M m k (out++[(c:Int)]) with _ | r
  ·skip
   rw [hcv]at hI
   simp only[Option.isSome_none,Option.getD_none,qF,false_implies,and_true]at hI
   have hnx:=zz1 htc (.inr hcv)
   simp(disch:=omega)only[↓RU,RW,↓reduceIte,qE,reduceCtorEq,iP,qN,↓RS,RG,qA,qM,qL,ty9]
   refine zac.ev ((hI.frame (fun v S hJ=>by obtain ⟨rfl,rw2,v2,t2,-,rfl⟩:=hJ; exact ⟨rfl,.bool _,z7w⟩) [.arr tk0 3 1 [.int .i64 out.length],.arr tk 3 1 [.int .i64 (c:Int)],.arr (tk+1) 3 1 [.int .i64 (c:Int)]])) ?_
   rintro _ _ ⟨S1,⟨rfl,rw2,v2,t2,hrw2,rfl⟩,rfl⟩
   simp(disch:=omega)only[↓RU,RW,↓reduceIte,qE,reduceCtorEq,iP,qN,↓RS,RG,qA,qM,qL,ty9]
   apply hK;clear hK K
   refine W.cond rfl (fun h3=>?_) (fun h3=>?_)
   ·try simp only[RL]at h3
    exact absurd h3 (by simp)
   try simp only[RL]at h3
   refine W.skip ?_
   refine xn ?_
   refine W.k fun K hK=>?_
   simp(disch:=omega)only[↓RU,RW,↓reduceIte,qE,reduceCtorEq,iP,Option.map_none,↓RS,RG,qA,qM,qL,zab,zaa,List.length_append,List.length_singleton]
   apply hK;clear hK K
   refine XbN ?_
   refine xn ?_
   refine W.k fun K hK=>?_
   simp(disch:=omega)only[↓RU,RW,↓reduceIte,qE,reduceCtorEq,iP,w64,↓RS,RG,qA,qM,qL,zaa]
   apply hK;clear hK K
   refine xn ?_
   refine ⟨m - (c+1),by omega,6,c+1,rw2,v2,tk0,_,rfl,by omega,yev hrw2,hnx,?_,rfl⟩
   simp [Env.put,Env.of]
  skip
  rw [hcv]at hI
  simp only[Option.isSome_some,Option.getD_some,forall_const]at hI
  have hE:zi8 M m (k+1) out=some r:=yez htc hcf hcv hcl
  simp(disch:=omega)only[↓RU,RW,↓reduceIte,qE,reduceCtorEq,iP,qN,↓RS,RG,qA,qM,qL,ty9]
  refine zac.ev ((hI.frame (fun v S hJ=>by obtain ⟨rfl,rw2,v2,t2,-,rfl⟩:=hJ; exact ⟨rfl,.bool _,z7w⟩) [.arr tk0 3 1 [.int .i64 out.length],.arr tk 3 1 [.int .i64 (c:Int)],.arr (tk+1) 3 1 [.int .i64 (c:Int)]])) ?_
  rintro _ _ ⟨S1,⟨rfl,rw2,v2,t2,hrw2,rfl⟩,rfl⟩
  simp(disch:=omega)only[↓RU,RW,↓reduceIte,qE,reduceCtorEq,iP,qN,↓RS,RG,qA,qM,qL,ty9]
  apply hK;clear hK K
  refine W.cond rfl (fun h3=>?_) (fun h3=>?_)
  ·try simp only[RL]at h3
   refine W.r fun K hK=>?_
   simp(disch:=omega)only[↓RU,RW,↓reduceIte,qE,reduceCtorEq,iP,↓RS,RG,qA,qM,qL]
   apply hK;clear hK K
   refine W.ret ?_
   refine XThen.ret ?_
   refine XBlock.ret ?_
   refine XThen.ret ?_
   refine XThen.ret ?_
   refine XBlock.ret ?_
   refine XThen.ret ?_
   refine Br rfl ?_
   exact ⟨5,by rw [hE]; rfl,rw2,v2,_,by rw [hE]; exact ⟨hrw2.1,fun _=>hrw2.2⟩,by rw [hE]; rfl⟩
  try simp only[RL]at h3
  exact absurd h3 (by simp)
 try simp only[RL]at h1
 obtain rfl:m=c:=by omega
 refine W.exit ?_
 refine xe ?_
 refine xe ?_
 refine XBlock.hit ?_
 refine xn ?_
 refine W.r fun K hK=>?_
 simp(disch:=omega)only[↓RU,RW,↓reduceIte,qE,reduceCtorEq,iP,↓RS,RG,qA,qM,qL]
 apply hK;clear hK K
 refine W.ret ?_
 refine Br rfl ?_
 exact ⟨5,by rw [show zi8 M m (k+1) out=none from htc]; rfl,rz,v,_,by rw [show zi8 M m (k+1) out=none from htc]; exact ⟨hrw,fun h=>by cases h⟩,by rw [show zi8 M m (k+1) out=none from htc]; rfl⟩
theorem yfq {M:List (List Int)} {m n:Nat} (hM:M.length=n) (hR:∀ r∈M,r.length=n) (hn:n≤9) (hm:m≤100):∀ (k:Nat) (out:List Int),out.length+k=n→∀ (v0 t0:Nat),Ev Tryz.prog 98 [.ref 3 3 0,.ref 0 0 0,.ref 1 1 0,.ref 4 4 0] ⟨[.arr 0 38 1 [zct M],.arr 1 3 1 [.int .i64 m],.arr v0 3 1 ((out).map (.int .i64)),.arr 3 28 1 [.loc 2 v0 0 out.length],.arr 4 83 1 [.fn 98 [.ref 3 3 0,.ref 0 0 0,.ref 1 1 0,.ref 4 4 0]]],t0⟩ (fun v S=>v = .bool (zi8 M m k out).isSome∧∃ (rw2:List Int) (v2 t2:Nat),(rw2.take ((zi8 M m k out).getD out).length=(zi8 M m k out).getD out∧((zi8 M m k out).isSome=true→rw2=(zi8 M m k out).getD out))∧S=⟨[.arr 0 38 1 [zct M],.arr 1 3 1 [.int .i64 m],.arr v2 3 1 ((rw2).map (.int .i64)),.arr 3 28 1 [.loc 2 v2 0 ((zi8 M m k out).getD out).length],.arr 4 83 1 [.fn 98 [.ref 3 3 0,.ref 0 0 0,.ref 1 1 0,.ref 4 4 0]]],t2⟩):=by
 intro k
 induction k using Nat.strongRecOn with
 | _ k ih=>exact fun out hk v0 t0=>yg4 hM hR hn hm hk fun k2 h2 out2 h3 v0 t0=>ih k2 h2 out2 h3 v0 t0
theorem z0l {M:List (List Int)} {m n:Nat} (hM:M.length=n) (hR:∀ r∈M,r.length=n) (hn:n≤9) (hm:m≤100) (hcv:zi8 M m n []=none):PN Tryz.prog 75 [zct M,.int .i64 m] .nils [] false:=by
 refine PN.of ⟨Tryz.func75,by kernel_rfl,rfl,by kernel_rfl⟩ zav mixed (by show 2≤Tryz.f75.ntmps; decide) ?_
 refine W.r fun K hK=>?_
 simp(disch:=omega)only[↓RU,RW,↓reduceIte,qE,reduceCtorEq,iP,↓RS,RG,qA,qM,qL,ty1,zab,zaa,List.length_nil]
 apply hK;clear hK K
 refine W.r fun K hK=>?_
 simp(disch:=omega)only[↓RU,RW,↓reduceIte,qE,reduceCtorEq,iP,↓RS,RG,qA,qM,qL,zab,zaa,List.length_nil]
 apply hK;clear hK K
 refine W.r fun K hK=>?_
 simp(disch:=omega)only[↓RU,RW,↓reduceIte,qE,reduceCtorEq,iP,↓RS,RG,qA,qM,qL,ty9,List.length_nil]
 apply hK;clear hK K
 refine W.r fun K hK=>?_
 simp(disch:=omega)only[↓RU,RW,↓reduceIte,qE,reduceCtorEq,iP,↓RS,RG,qA,qM,qL,ty9,List.length_nil,z2k,yj1]
 apply hK;clear hK K
 refine W.seq ?_
 refine W.r fun K hK=>?_
 have hI:=yfq hM hR hn hm n [] (by simp) 2 5
 rw [hcv]at hI
 simp only[Option.isSome_none,Option.getD_none,qF,false_implies,and_true]at hI
 simp(disch:=omega)only[↓RU,RW,↓reduceIte,qE,reduceCtorEq,iP,qN,↓RS,RG,qA,qM,qL,ty9,List.length_nil]
 refine zac.ev (hI) ?_
 rintro _ _ ⟨rfl,rw2,v2,t2,hrw2,rfl⟩
 simp(disch:=omega)only[↓RU,RW,↓reduceIte,qE,reduceCtorEq,iP,qN,↓RS,RG,qA,qM,qL,ty9,List.length_nil]
 apply hK;clear hK K
 refine W.cond rfl (fun h0=>?_) (fun h0=>?_)
 ·try simp only[RL]at h0
  refine W.r fun K hK=>?_
  simp(disch:=omega)only[↓RU,RW,↓reduceIte,qE,reduceCtorEq,iP,↓RS,RG,qA,qM,qL,List.length_nil]
  apply hK;clear hK K
  refine W.ret ?_
  refine XThen.ret ?_
  refine Br rfl ?_
  exact ⟨0,rfl,rfl⟩
 try simp only[RL]at h0
 exact absurd h0 (by simp)
theorem zw2 {M:List (List Int)} {m n:Nat} (hM:M.length=n) (hR:∀ r∈M,r.length=n) (hn:n≤9) (hm:m≤100) {r:List Int} (hcv:zi8 M m n []=some r):PN Tryz.prog 75 [zct M,.int .i64 m] (.loc 0 0 0 r.length) [.arr 0 3 1 (r.map (.int .i64))] false:=by
 refine PN.of ⟨Tryz.func75,by kernel_rfl,rfl,by kernel_rfl⟩ zav mixed (by show 2≤Tryz.f75.ntmps; decide) ?_
 refine W.r fun K hK=>?_
 simp(disch:=omega)only[↓RU,RW,↓reduceIte,qE,reduceCtorEq,iP,↓RS,RG,qA,qM,qL,ty1,zab,zaa,List.length_nil]
 apply hK;clear hK K
 refine W.r fun K hK=>?_
 simp(disch:=omega)only[↓RU,RW,↓reduceIte,qE,reduceCtorEq,iP,↓RS,RG,qA,qM,qL,zab,zaa,List.length_nil]
 apply hK;clear hK K
 refine W.r fun K hK=>?_
 simp(disch:=omega)only[↓RU,RW,↓reduceIte,qE,reduceCtorEq,iP,↓RS,RG,qA,qM,qL,ty9,List.length_nil]
 apply hK;clear hK K
 refine W.r fun K hK=>?_
 simp(disch:=omega)only[↓RU,RW,↓reduceIte,qE,reduceCtorEq,iP,↓RS,RG,qA,qM,qL,ty9,List.length_nil,z2k,yj1]
 apply hK;clear hK K
 refine W.seq ?_
 refine W.r fun K hK=>?_
 have hI:=yfq hM hR hn hm n [] (by simp) 2 5
 rw [hcv]at hI
 simp only[Option.isSome_some,Option.getD_some,forall_const]at hI
 simp(disch:=omega)only[↓RU,RW,↓reduceIte,qE,reduceCtorEq,iP,qN,↓RS,RG,qA,qM,qL,ty9,List.length_nil]
 refine zac.ev (hI) ?_
 rintro _ _ ⟨rfl,rw2,v2,t2,hrw2,rfl⟩
 simp(disch:=omega)only[↓RU,RW,↓reduceIte,qE,reduceCtorEq,iP,qN,↓RS,RG,qA,qM,qL,ty9,List.length_nil]
 apply hK;clear hK K
 refine W.cond rfl (fun h0=>?_) (fun h0=>?_)
 ·try simp only[RL]at h0
  exact absurd h0 (by simp)
 try simp only[RL]at h0
 refine W.skip ?_
 refine xn ?_
 refine W.joinS [4] (fun vs S=>∃ v t:Nat,vs=[.loc 0 v 0 r.length]∧S=⟨[.arr v 3 1 (r.map (.int .i64))],t⟩) ?_ ?_
 ·
  refine W.k fun K hK=>?_
  simp(disch:=omega)only[↓RU,RW,↓reduceIte,qE,reduceCtorEq,iP,↓RS,RG,qA,qM,qL,zab,zaa,List.length_nil]
  apply hK;clear hK K
  obtain rfl:r=rw2:=hrw2.2.symm
  refine xn ?_
  refine ⟨0,[2],[.loc 0 t2 0 r.length],⟨[.arr t2 3 1 (r.map (.int .i64))],t2+1⟩,?_,?_,_,_,rfl,rfl⟩
  ·simp [-qU,Env.put,Env.of,zai,za9,zae,zak,zam,zao,zbd,zbe,zb2,zbc,zaz,zbf,zb1,zb3,za1,za0,zap,zbb,zbg,zb0,zax,zaw,zan,zay,zba,zdr,qS,qP,qC]
  simp [-qU,Env.put,Env.of,zai,za9,zae,zak,zam,zao,zbd,zbe,zb2,zbc,zaz,zbf,zb1,zb3,za1,za0,zap,zbb,zbg,zb0,zax,zaw,zan,zay,zba,zdr,qS,qP,qC,zff]
 rintro vs S - ⟨v,t,rfl,rfl⟩
 refine W.ret ?_
 refine Br rfl ?_
 exact ybf rfl (zr1 _)
theorem yd7 {v f n et sz:Nat} {cells:List PV} {tk:Nat}:pEq tab ⟨[.arr v et sz cells],tk⟩ 28 (.loc 0 v f n) .nils=some false:=by
 have h1:(tab 28).kd = .slice 3:=by kernel_rfl
 unfold pEq
 rw [h1]
 show ((⟨[.arr v et sz cells],tk⟩:Store).cellsOf 0 v).map (fun _=>false)=_
 rw [show (⟨[.arr v et sz cells],tk⟩:Store).cellsOf 0 v=some cells by simp [Store.cellsOf]]; rfl
theorem yku {M:List (List Int)} {n tk:Nat} (hM:M.length=n) (hR:∀ r∈M,r.length=n):frz ⟨.arr 0 28 1 (lcW 1 0 n n)::rwO 0 M,tk⟩ 0 10 (.loc 0 0 0 n)=some (zct M):=by
 obtain ⟨S,hS⟩:∃ S:Store,(⟨.arr 0 28 1 (lcW 1 0 n n)::rwO 0 M,tk⟩:Store)=S:=⟨_,rfl⟩
 rw [hS,zds,if_neg (by omega),zdj]
 have e1:S.obs[0]?=some (.arr 0 28 1 (lcW 1 0 n n)):=by rw [← hS]; rfl
 have e3:(lcW 1 0 n n).mapM (rfz S 0 9)=some (M.map eInts):=by
  have h:∀ j∈List.range n,rfz S 0 9 (.loc (1+j) 0 0 n)=some (eInts (M[j]?.getD [])):=by
   intro j hj
   obtain ⟨row,hr,hm⟩:=zaj (show j<M.length by rw [hM]; exact List.mem_range.1 hj)
   have hl:=hR row hm
   have e2:S.obs[1+j]?=some (.arr 0 3 1 (row.map (.int .i64))):=by
    rw [← hS,Nat.add_comm,List.getElem?_cons_succ]; unfold rwO; rw [List.getElem?_map,hr]; rfl
   rw [zdj,e2,hr,Option.getD_some]
   have ht:(row.map (PV.int .i64)).take n=row.map (.int .i64):=qT (by simp [hl])
   simp only[Nat.zero_add,Nat.mul_one,List.length_map,hl,qR,Nat.zero_le,and_self,if_true,List.drop_zero,ht,zcu,qO]
   rw [eInts,hl]
  have e:=zvd (f:=rfz S 0 9) (g:=fun j=>PV.loc (1+j) 0 0 n) (h:=fun j=>eInts (M[j]?.getD [])) h
  have e2:M.map eInts=(List.range n).map fun j=>eInts (M[j]?.getD []):=by
   refine List.ext_getElem? fun j=>?_
   by_cases hj:j<n
   ·obtain ⟨row,hr,-⟩:=zaj (show j<M.length by omega)
    rw [List.getElem?_map,List.getElem?_map,List.getElem?_range hj,hr]
    simp [hr]
   rw [List.getElem?_eq_none (by rw [List.length_map]; omega),List.getElem?_eq_none (by simp; omega)]
  rw [e2]; exact e
 have ht:(lcW 1 0 n n).take n=lcW 1 0 n n:=qT (by rw [zu9]; omega)
 rw [e1]
 simp only[Nat.zero_add,Nat.mul_one,zu9,qR,Nat.zero_le,and_self,if_true,List.drop_zero,ht,e3,qO]
 rw [zct,hM]
def zkp (M:List (List Int)) (n:Nat):Nat→Nat→Option (List Int)
 | 0,_=>none
 | f+1,m=>match zi8 M m n [] with
  | some r=>some r
  | none=>zkp M n f (m+1)
theorem zxn {M:List (List Int)} {n:Nat}:∀ {f m:Nat} {r:List Int},zkp M n f m=some r→r.length=n∧∀ x∈r,0≤x∧x+1<m+f
 | 0,m,r,h=>by cases h
 | f+1,m,r,h=>by
  unfold zkp at h
  cases hc:zi8 M m n [] with
  | some r2 =>
   rw [hc]at h; cases h
   obtain ⟨h1,h2⟩:=z7v hc (by simp)
   exact ⟨by simpa using h1,fun x hx=>by have:=h2 x hx; omega⟩
  | none =>
   rw [hc]at h
   obtain ⟨h1,h2⟩:=zxn (f:=f) h
   exact ⟨h1,fun x hx=>by have:=h2 x hx; omega⟩
theorem z8f {M:List (List Int)} {n:Nat} {f:Nat→Nat} (hf:∀ a,f a<4) (hd:∀ a b,a<n→b<n→0<gz M a b→f a≠f b):∃ r,zkp M n 4 1=some r:=by
 have h4:=z7u (M:=M) (m:=4) (n:=n) hf hd (k:=n) (a:=0) (by omega)
 simp only[List.range_zero,List.map_nil]at h4
 simp only[zkp]
 split
 ·exact ⟨_,rfl⟩
 split
 ·exact ⟨_,rfl⟩
 split
 ·exact ⟨_,rfl⟩
 split
 ·exact ⟨_,rfl⟩
 rename_i h; rw [h]at h4; cases h4
def tcP (p:List Txt):List (List Int):=tcM (gP p) p.length (zag p).length (rP p).length
theorem ygj {p:List Txt} (hp:zbk p=true):∃ N,TcI (rP p).length (Tch p) N (tcP p):=by
 obtain ⟨-,q2,-,q4,hg,-⟩:=zco hp
 exact ⟨_,TcI.walls (ygk hp) (fun w hw=>⟨zdp w hw,(zwm (i:=2) q2 q4 w hw).2⟩) (z18 (n:=(rP p).length) (T:=Tch p))⟩
theorem zx6 {p:List Txt} (hp:zbk p=true):∃ r,zkp (tcP p) (rP p).length 4 1=some r∧r.length=(rP p).length∧∀ x∈r,0≤x∧x<4:=by
 obtain ⟨f,f1,f2⟩:=yad hp
 obtain ⟨N,hM⟩:=ygj hp
 obtain ⟨r,hr⟩:=z8f (M:=tcP p) (n:=(rP p).length) f1 fun a b ha hb h=>f2 a b ha hb ((hM.val a b ha hb).2.2 h)
 obtain ⟨h1,h2⟩:=zxn hr
 exact ⟨r,hr,h1,fun x hx=>by have:=h2 x hx; omega⟩
theorem zx5 {p:List Txt} (hs:Sm p) (hp:zbk p=true) {r:List Int} (hr:zkp (tcP p) (rP p).length 4 1=some r):PC Tryz.prog 44 [zbi p] (.tup [eInts r,.bool true]) true:=by
 obtain ⟨-,-,-,-,hg,hv,h9,-⟩:=zco hp
 obtain ⟨x,hx,hxy,hxr⟩:=zdd hs
 obtain rfl:=hxy hv
 obtain ⟨N,hM⟩:=ygj hp
 refine PC.of ⟨Tryz.func44,by kernel_rfl,rfl,by kernel_rfl⟩ zav mixed (by show 1≤Tryz.f44.ntmps; decide) ?_
 refine W.r fun K hK=>?_
 simp(disch:=omega)only[↓RU,RW,↓reduceIte,qE,reduceCtorEq,iP,↓RS,RG,qA,qM,qL]
 apply hK;clear hK K
 refine W.r fun K hK=>?_
 simp(disch:=omega)only[↓RU,RW,↓reduceIte,qE,reduceCtorEq,iP,qN,↓RS,RG,qA,qM,qL,hv]
 refine zac.pc (hx) rfl (.inr rfl) ?_
 simp(disch:=omega)only[↓RU,RW,↓reduceIte,qE,reduceCtorEq,iP,qN,↓RS,RG,qA,qM,qL,hv]
 apply hK;clear hK K
 refine W.seq ?_
 refine W.r fun K hK=>?_
 simp(disch:=omega)only[↓RU,RW,↓reduceIte,qE,reduceCtorEq,iP,↓RS,RG,qA,qM,qL]
 apply hK;clear hK K
 refine W.cond rfl (fun h=>?_) (fun h=>?_)
 ·try simp only[RL]at h
  exact absurd h (by simp)
 try simp only[RL]at h
 refine W.skip ?_
 refine xn ?_
 refine W.joinZ [6] (fun vs S=>∃ tk:Nat,vs=[zct (tcP p)]∧S=⟨[],tk⟩) ?_ ?_
 ·
  refine W.k fun K hK=>?_
  simp(disch:=omega)only[↓RU,RW,↓reduceIte,qE,reduceCtorEq,iP,qN,↓RS,RG,qA,qM,qL,z44,z47]
  refine zac.pn (z19 hg rfl h9 (ygk hp)) rfl (.inl rfl) ?_
  simp(disch:=omega)only[↓RU,RW,↓reduceIte,qE,reduceCtorEq,iP,qN,↓RS,RG,qA,qM,qL,z44,z47,RN]
  apply hK;clear hK K
  refine xn ?_
  refine ⟨0,[zct (tcP p)],⟨[],1⟩,?_,?_,1,rfl,rfl⟩
  ·exact za5 (yku (M:=tcP p) hM.len hM.row) rfl
  rfl
 rintro vs S - ⟨tk,rfl,rfl⟩
 refine W.r fun K hK=>?_
 simp(disch:=omega)only[↓RU,RW,↓reduceIte,qE,reduceCtorEq,iP,↓RS,RG,qA,qM,qL]
 apply hK;clear hK K
 refine W.block ?_
 refine W.loopS [6,7] (fun n vs S=>∃ m tk:Nat,n=4 - m∧m<4∧zkp (tcP p) (rP p).length (4 - m) (1+m)=some r∧vs=[zct (tcP p),.int .i64 ((1+m:Nat):Int)]∧S=⟨[],tk⟩) 4 ?_ ?_
 ·refine ⟨0,[],[zct (tcP p),.int .i64 1],⟨[],tk+1⟩,?_,?_,0,_,rfl,by omega,hr,rfl,rfl⟩
  ·simp [-qU,Env.put,Env.of,zai,za9,zae,zak,zam,zao,zbd,zbe,zb2,zbc,zaz,zbf,zb1,zb3,za1,za0,zap,zbb,zbg,zb0,zax,zaw,zan,zay,zba,zdr,qS,qP,qC]
  simp [-qU,Env.put,Env.of,zai,za9,zae,zak,zam,zao,zbd,zbe,zb2,zbc,zaz,zbf,zb1,zb3,za1,za0,zap,zbb,zbg,zb0,zax,zaw,zan,zay,zba,zdr,qS,qP,qC]
 rintro n vs S - ⟨m,tk,rfl,h_m,hfc,rfl,rfl⟩
 refine W.seq ?_
 refine W.block ?_
 refine W.r fun K hK=>?_
 obtain ⟨f,hf⟩:∃ f,4 - m=f+1:=⟨3 - m,by omega⟩
 rw [hf,zkp]at hfc
 rcases hcv:zi8 (tcP p) (1+m) (rP p).length [] with _ | r2
 ·skip
  rw [hcv]at hfc
  simp(disch:=omega)only[↓RU,RW,↓reduceIte,qE,reduceCtorEq,iP,qN,↓RS,RG,qA,qM,qL]
  refine zac.pn (z0l hM.len hM.row h9 (by omega) hcv) rfl (.inl rfl) ?_
  simp(disch:=omega)only[↓RU,RW,↓reduceIte,qE,reduceCtorEq,iP,qN,↓RS,RG,qA,qM,qL,RN]
  apply hK;clear hK K
  refine W.r fun K hK=>?_
  simp(disch:=omega)only[↓RU,RW,↓reduceIte,qE,reduceCtorEq,iP,w64,↓RS,RG,qA,qM,qL,zab,zaa]
  apply hK;clear hK K
  refine W.cond rfl (fun h1=>?_) (fun h1=>?_)
  ·try simp only[RL]at h1
   exact absurd h1 (by simp)
  try simp only[RL]at h1
  refine W.skip ?_
  refine XbN ?_
  refine xn ?_
  refine W.k fun K hK=>?_
  simp(disch:=omega)only[↓RU,RW,↓reduceIte,qE,reduceCtorEq,iP,w64,↓RS,RG,qA,qM,qL,zaa]
  apply hK;clear hK K
  refine xn ?_
  have hm3:m+1<4:=by
   rcases Nat.lt_or_ge (m+1) 4 with h | h
   ·exact h
   obtain rfl:f=0:=by omega
   cases hfc
  refine ⟨4 - (m+1),by omega,0,[],[zct (tcP p),.int .i64 ((1+(m+1):Nat):Int)],⟨[],tk+2⟩,?_,?_,m+1,tk+2,rfl,hm3,by rw [show 4 - (m+1)=f by omega]; exact hfc,rfl,rfl⟩
  ·simp [-qU,Env.put,Env.of,zai,za9,zae,zak,zam,zao,zbd,zbe,zb2,zbc,zaz,zbf,zb1,zb3,za1,za0,zap,zbb,zbg,zb0,zax,zaw,zan,zay,zba,zdr,qS,qP,qC,Int.add_assoc]
  simp [-qU,Env.put,Env.of,zai,za9,zae,zak,zam,zao,zbd,zbe,zb2,zbc,zaz,zbf,zb1,zb3,za1,za0,zap,zbb,zbg,zb0,zax,zaw,zan,zay,zba,zdr,qS,qP,qC]
 skip
 rw [hcv]at hfc
 obtain rfl:r2=r:=Option.some.inj hfc
 simp(disch:=omega)only[↓RU,RW,↓reduceIte,qE,reduceCtorEq,iP,qN,↓RS,RG,qA,qM,qL]
 refine zac.pn (zw2 hM.len hM.row h9 (by omega) hcv) rfl (.inl rfl) ?_
 simp(disch:=omega)only[↓RU,RW,↓reduceIte,qE,reduceCtorEq,iP,qN,↓RS,RG,qA,qM,qL,RN]
 apply hK;clear hK K
 refine W.r fun K hK=>?_
 simp(disch:=omega)only[↓RU,RW,↓reduceIte,qE,reduceCtorEq,iP,w64,↓RS,RG,qA,qM,qL,zab,zaa,yd7,qO]
 apply hK;clear hK K
 refine W.cond rfl (fun h1=>?_) (fun h1=>?_)
 ·try simp only[RL]at h1
  refine W.r fun K hK=>?_
  simp(disch:=omega)only[↓RU,RW,↓reduceIte,qE,reduceCtorEq,iP,↓RS,RG,qA,qM,qL]
  apply hK;clear hK K
  refine W.ret ?_
  refine XBlock.ret ?_
  refine XThen.ret ?_
  refine XThen.ret ?_
  refine XBlock.ret ?_
  refine Br rfl ?_
  exact congrArg (Option.map PV.tup) (za5 (zce (k:=8) rfl (by simp) (zmc _)) rfl)
 try simp only[RL]at h1
 exact absurd h1 (by simp)
theorem zrj {p:List Txt} (hp:zbk p=true):0<(rP p).length:=by
 obtain ⟨q1,-,q3,-⟩:=zco hp
 have:=zcg hp (i:=0) (j:=0) (by omega) (by omega)
 omega
theorem zsh {p:List Txt} (hs:Sm p) (hp:zbk p=true) {r:List Int} (hr:zkp (tcP p) (rP p).length 4 1=some r):PC Tryz.prog 20 [zbi p] (.tup [.int .i64 (yjd r+1),.bool true]) true:=by
 obtain ⟨-,-,-,-,-,-,h9,-⟩:=zco hp
 obtain ⟨r2,e2,hl,hb⟩:=zx6 hp
 obtain rfl:r=r2:=Option.some.inj (hr.symm.trans e2)
 obtain ⟨x0,h0,-⟩:=zaj (show 0<r.length by rw [hl]; exact zrj hp)
 have hmx:=hb _ (z3h (by rintro rfl; cases h0))
 refine PC.of ⟨Tryz.func20,by kernel_rfl,rfl,by kernel_rfl⟩ zav mixed (by show 1≤Tryz.f20.ntmps; decide) ?_
 refine W.r fun K hK=>?_
 simp(disch:=omega)only[↓RU,RW,↓reduceIte,qE,reduceCtorEq,iP,↓RS,RG,qA,qM,qL]
 apply hK;clear hK K
 refine W.r fun K hK=>?_
 simp(disch:=omega)only[↓RU,RW,↓reduceIte,qE,reduceCtorEq,iP,qN,↓RS,RG,qA,qM,qL]
 refine zac.pc (zx5 hs hp hr) rfl (.inl rfl) ?_
 simp(disch:=omega)only[↓RU,RW,↓reduceIte,qE,reduceCtorEq,iP,qN,↓RS,RG,qA,qM,qL]
 apply hK;clear hK K
 refine W.seq ?_
 refine W.r fun K hK=>?_
 simp(disch:=omega)only[↓RU,RW,↓reduceIte,qE,reduceCtorEq,iP,↓RS,RG,qA,qM,qL]
 apply hK;clear hK K
 refine W.cond rfl (fun h=>?_) (fun h=>?_)
 ·try simp only[RL]at h
  exact absurd h (by simp)
 try simp only[RL]at h
 refine W.skip ?_
 refine xn ?_
 refine W.r fun K hK=>?_
 simp(disch:=omega)only[↓RU,RW,↓reduceIte,qE,reduceCtorEq,iP,qN,w64,↓RS,RG,qA,qM,qL,zaa]
 refine zac.pc (yke h0 (by omega)) rfl (.inl rfl) ?_
 simp(disch:=omega)only[↓RU,RW,↓reduceIte,qE,reduceCtorEq,iP,qN,w64,↓RS,RG,qA,qM,qL,zaa]
 apply hK;clear hK K
 refine W.ret ?_
 refine Br rfl ?_
 rfl
theorem zpl {S:Store} {x t:Rect}:pEq tab S 56 (zsd x) (.agg [.int .i64 t.row,.int .i64 t.col,.int .i64 t.high,.int .i64 t.wide])=some (decide (x=t)):=by
 have h:(tab 56).kd = .struct [(0,3),(1,3),(2,3),(3,3)]:=by kernel_rfl
 have h2:zg9 tab [(0,3),(1,3),(2,3),(3,3)] 0=true:=by kernel_rfl
 obtain ⟨b1,b2,b3,b4⟩:=x
 obtain ⟨o1,o2,o3,o4⟩:=t
 unfold pEq
 rw [h]
 simp [h2,Rect.cells,zqw]
def slO (l:List Int) (v:Nat):PV:=match l with | [] => .nils | _ => .loc 1 v 0 l.length
def stO (b:Ob) (l:List Int) (v t:Nat):Store:=match l with | []=>⟨[b],t⟩ | _=>⟨[b,.arr v 3 1 (l.map (.int .i64))],t⟩
theorem zv6 {v:Nat}:slO [] v = .nils:=rfl
theorem zv7 {b:Ob} {v t:Nat}:stO b [] v t=⟨[b],t⟩:=rfl
theorem zzp {l:List Int} {v:Nat} (h:l≠[]):slO l v = .loc 1 v 0 l.length:=by cases l with | nil=>exact absurd rfl h | cons a l=>rfl
theorem zzs {b:Ob} {l:List Int} {v t:Nat} (h:l≠[]):stO b l v t=⟨[b,.arr v 3 1 (l.map (.int .i64))],t⟩:=by cases l with | nil=>exact absurd rfl h | cons a l=>rfl
theorem yar {b:Ob} {l:List Int} {v t:Nat} {im:Bool} {k:Nat}:reify (stO b l v t) im (k+2) (slO l v)=some (eInts l):=by
 cases l with
 | nil=>rfl
 | cons a l=>exact zce (k:=k+1) (S:=⟨[b,.arr v 3 1 ((a::l).map (.int .i64))],t⟩) (o:=1) rfl (by simp) (zmc _)
theorem znm {g:List (List Int)} {rs:List Rect}:(zar g rs).isDef=true:=rfl
theorem z84 (b:Rect) (t:Rect) (l:List Int):(t.both b≠t∧l=[])∨(t.both b≠t∧l≠[])∨(t.both b=t∧l=[])∨(t.both b=t∧l≠[]):=by
 by_cases h:t.both b=t <;> by_cases e:l=[] <;> simp [h,e]
theorem zvb (g:List (List Int)) {rs:List Rect} (hrs:rs.length≤1000) (hfit:∀ b∈rs,b.Fit) {t:Rect} (ht:t.Fit):PC Tryz.prog 42 [zfb g rs t] (eInts (rms rs t)) true:=by
 simp only[zfb,Rect.cells]
 refine PC.of ⟨Tryz.func42,by kernel_rfl,rfl,by kernel_rfl⟩ zav mixed (by show 1≤Tryz.f42.ntmps; decide) ?_
 refine W.r fun K hK=>?_
 simp(disch:=omega)only[↓RU,RW,↓reduceIte,qE,reduceCtorEq,iP,↓RS,RG,qA,qM,qL,ty7,zbr,za7,zaa,zbs,za8]
 apply hK;clear hK K
 refine W.r fun K hK=>?_
 simp(disch:=omega)only[↓RU,RW,↓reduceIte,qE,reduceCtorEq,iP,↓RS,RG,qA,qM,qL]
 apply hK;clear hK K
 refine W.seq ?_
 refine W.r fun K hK=>?_
 simp(disch:=omega)only[↓RU,RW,↓reduceIte,qE,reduceCtorEq,iP,↓RS,RG,qA,qM,qL,ty1,ty3,zab,ty7,zeo,zcl,zbr,za7,zaa,zbs,zep,za8]
 apply hK;clear hK K
 refine W.block ?_
 refine W.loopS [1,10,11,12,3] (fun n vs S=>∃ i v tk:Nat,n=rs.length - i∧i≤rs.length∧vs=[.ref 0 0 0,zoj rs,.int .i64 rs.length,.int .i64 i,slO (zgz rs t i) v]∧S=stO (.arr 0 58 5 [zar g rs,.int .i64 t.row,.int .i64 t.col,.int .i64 t.high,.int .i64 t.wide]) (zgz rs t i) v tk) rs.length ?_ ?_
 ·refine ⟨1,[],[.ref 0 0 0,zoj rs,.int .i64 rs.length,.int .i64 (0:Nat),slO [] 0],stO (.arr 0 58 5 [zar g rs,.int .i64 t.row,.int .i64 t.col,.int .i64 t.high,.int .i64 t.wide]) [] 0 2,?_,?_,0,0,2,rfl,by omega,rfl,rfl⟩
  ·simp [-qU,Env.put,Env.of,zai,za9,zae,zak,zam,zao,zbd,zbe,zb2,zbc,zaz,zbf,zb1,zb3,za1,za0,zap,zbb,zbg,zb0,zax,zaw,zan,zay,zba,zdr,qS,qP,qC,zv6]
  simp [-qU,Env.put,Env.of,zai,za9,zae,zak,zam,zao,zbd,zbe,zb2,zbc,zaz,zbf,zb1,zb3,za1,za0,zap,zbb,zbg,zb0,zax,zaw,zan,zay,zba,zdr,qS,qP,qC,zv7,zo2,Rect.cells]
 rintro n vs S - ⟨i,v,tk,rfl,h_i,rfl,rfl⟩
 refine W.r fun K hK=>?_
 simp(disch:=omega)only[↓RU,RW,↓reduceIte,qE,reduceCtorEq,iP,w64,↓RS,RG,qA,qM,qL,zaa]
 apply hK;clear hK K
 refine W.seq ?_
 refine W.cond rfl (fun h=>?_) (fun h=>?_)
 ·try simp only[RL]at h
  obtain ⟨b,hb,hbm⟩:=zaj (show i<rs.length by omega)
  have hbr:=zks hb
  have hlen:=yaw (rs:=rs) (t:=t) (k:=i)
  generalize hl:zgz rs t i=l at hlen
  refine W.skip ?_
  refine xn ?_
  refine W.seq ?_
  refine W.block ?_
  refine W.r fun K hK=>?_
  obtain ⟨hd,rfl⟩ | ⟨hd,hw⟩ | ⟨hd,rfl⟩ | ⟨hd,hw⟩:=z84 b t l
  ·skip
   rw [zv6,zv7]
   simp(disch:=omega)only[↓RU,RW,↓reduceIte,qE,reduceCtorEq,iP,↓RS,RG,qA,qM,qL,ty3,za7,zaa,za8,hbr,zbw,Rect.cells]
   apply hK;clear hK K
   refine W.seq_draw (by kernel_rfl) fun K hK=>?_
   simp(disch:=omega)only[↓RU,RW,↓reduceIte,qE,reduceCtorEq,iP,qN,w64,↓RS,RG,qA,qM,qL,ty7,zbr,za7,zaa,zbs,za8]
   refine zac.pc (zkx ht.in_ (hfit b hbm).in_) rfl (.inl rfl) ?_
   simp(disch:=omega)only[↓RU,RW,↓reduceIte,qE,reduceCtorEq,iP,qN,w64,↓RS,RG,qA,qM,qL,ty7,zbr,za7,zaa,zbs,za8,zpl,qO]
   apply hK;clear hK K
   refine W.cond rfl (fun h1=>?_) (fun h1=>?_)
   ·try simp only[RL]at h1
    exact absurd h1 (by simp [hd])
   try simp only[RL]at h1
   refine W.skip ?_
   refine XbN ?_
   refine xn ?_
   refine W.k fun K hK=>?_
   simp(disch:=omega)only[↓RU,RW,↓reduceIte,qE,reduceCtorEq,iP,w64,↓RS,RG,qA,qM,qL,zaa]
   apply hK;clear hK K
   refine xn ?_
   have hnx:zgz rs t (i+1)=[]:=by rw [zj7 hb,hl,if_neg hd] <;> rfl
   refine ⟨rs.length - (i+1),by omega,1,[],[.ref 0 0 0,zoj rs,.int .i64 rs.length,.int .i64 ((i+1:Nat):Int),slO (zgz rs t (i+1)) v],stO (.arr 0 58 5 [zar g rs,.int .i64 t.row,.int .i64 t.col,.int .i64 t.high,.int .i64 t.wide]) (zgz rs t (i+1)) v (tk+2),?_,?_,i+1,v,(tk+2),rfl,by omega,rfl,rfl⟩
   ·rw [hnx]; simp [-qU,Env.put,Env.of,zai,za9,zae,zak,zam,zao,zbd,zbe,zb2,zbc,zaz,zbf,zb1,zb3,za1,za0,zap,zbb,zbg,zb0,zax,zaw,zan,zay,zba,zdr,qS,qP,qC,zv6]
   rw [hnx]; simp [-qU,Env.put,Env.of,zai,za9,zae,zak,zam,zao,zbd,zbe,zb2,zbc,zaz,zbf,zb1,zb3,za1,za0,zap,zbb,zbg,zb0,zax,zaw,zan,zay,zba,zdr,qS,qP,qC,zv7,Rect.cells]
  ·skip
   rw [zzp hw,zzs hw]
   simp(disch:=omega)only[↓RU,RW,↓reduceIte,qE,reduceCtorEq,iP,↓RS,RG,qA,qM,qL,ty3,za7,zaa,za8,hbr,zbw,Rect.cells]
   apply hK;clear hK K
   refine W.seq_draw (by kernel_rfl) fun K hK=>?_
   simp(disch:=omega)only[↓RU,RW,↓reduceIte,qE,reduceCtorEq,iP,qN,w64,↓RS,RG,qA,qM,qL,ty7,zbr,za7,zaa,zbs,za8]
   refine zac.pc (zkx ht.in_ (hfit b hbm).in_) rfl (.inl rfl) ?_
   simp(disch:=omega)only[↓RU,RW,↓reduceIte,qE,reduceCtorEq,iP,qN,w64,↓RS,RG,qA,qM,qL,ty7,zbr,za7,zaa,zbs,za8,zpl,qO]
   apply hK;clear hK K
   refine W.cond rfl (fun h1=>?_) (fun h1=>?_)
   ·try simp only[RL]at h1
    exact absurd h1 (by simp [hd])
   try simp only[RL]at h1
   refine W.skip ?_
   refine XbN ?_
   refine xn ?_
   refine W.k fun K hK=>?_
   simp(disch:=omega)only[↓RU,RW,↓reduceIte,qE,reduceCtorEq,iP,w64,↓RS,RG,qA,qM,qL,zaa]
   apply hK;clear hK K
   refine xn ?_
   have hnx:zgz rs t (i+1)=l:=by rw [zj7 hb,hl,if_neg hd] <;> rfl
   refine ⟨rs.length - (i+1),by omega,2,[],[.ref 0 0 0,zoj rs,.int .i64 rs.length,.int .i64 ((i+1:Nat):Int),slO (zgz rs t (i+1)) v],stO (.arr 0 58 5 [zar g rs,.int .i64 t.row,.int .i64 t.col,.int .i64 t.high,.int .i64 t.wide]) (zgz rs t (i+1)) v (tk+2),?_,?_,i+1,v,(tk+2),rfl,by omega,rfl,rfl⟩
   ·rw [hnx]; simp [-qU,Env.put,Env.of,zai,za9,zae,zak,zam,zao,zbd,zbe,zb2,zbc,zaz,zbf,zb1,zb3,za1,za0,zap,zbb,zbg,zb0,zax,zaw,zan,zay,zba,zdr,qS,qP,qC,zzp hw]
   rw [hnx]; simp [-qU,Env.put,Env.of,zai,za9,zae,zak,zam,zao,zbd,zbe,zb2,zbc,zaz,zbf,zb1,zb3,za1,za0,zap,zbb,zbg,zb0,zax,zaw,zan,zay,zba,zdr,qS,qP,qC,zzs hw,zff,Rect.cells]
  ·skip
   rw [zv6,zv7]
   simp(disch:=omega)only[↓RU,RW,↓reduceIte,qE,reduceCtorEq,iP,↓RS,RG,qA,qM,qL,ty3,za7,zaa,za8,hbr,zbw,Rect.cells]
   apply hK;clear hK K
   refine W.seq_draw (by kernel_rfl) fun K hK=>?_
   simp(disch:=omega)only[↓RU,RW,↓reduceIte,qE,reduceCtorEq,iP,qN,w64,↓RS,RG,qA,qM,qL,ty7,zbr,za7,zaa,zbs,za8]
   refine zac.pc (zkx ht.in_ (hfit b hbm).in_) rfl (.inl rfl) ?_
   simp(disch:=omega)only[↓RU,RW,↓reduceIte,qE,reduceCtorEq,iP,qN,w64,↓RS,RG,qA,qM,qL,ty7,zbr,za7,zaa,zbs,za8,zpl,qO]
   apply hK;clear hK K
   refine W.cond rfl (fun h1=>?_) (fun h1=>?_)
   ·try simp only[RL]at h1
    refine W.k fun K hK=>?_
    simp(disch:=omega)only[↓RU,RW,↓reduceIte,qE,reduceCtorEq,iP,↓RS,RG,qA,qM,qL,zab,zaa]
    apply hK;clear hK K
    refine XbN ?_
    refine xn ?_
    refine W.k fun K hK=>?_
    simp(disch:=omega)only[↓RU,RW,↓reduceIte,qE,reduceCtorEq,iP,w64,↓RS,RG,qA,qM,qL,zaa]
    apply hK;clear hK K
    refine xn ?_
    have hnx:zgz rs t (i+1)=[(i:Int)]:=by rw [zj7 hb,hl,if_pos hd] <;> rfl
    refine ⟨rs.length - (i+1),by omega,1,[3],[.ref 0 0 0,zoj rs,.int .i64 rs.length,.int .i64 ((i+1:Nat):Int),slO (zgz rs t (i+1)) (tk+3)],stO (.arr 0 58 5 [zar g rs,.int .i64 t.row,.int .i64 t.col,.int .i64 t.high,.int .i64 t.wide]) (zgz rs t (i+1)) (tk+3) (tk+4),?_,?_,i+1,(tk+3),(tk+4),rfl,by omega,rfl,rfl⟩
    ·rw [hnx]; simp [-qU,Env.put,Env.of,zai,za9,zae,zak,zam,zao,zbd,zbe,zb2,zbc,zaz,zbf,zb1,zb3,za1,za0,zap,zbb,zbg,zb0,zax,zaw,zan,zay,zba,zdr,qS,qP,qC,zzp]
    rw [hnx]; simp [-qU,Env.put,Env.of,zai,za9,zae,zak,zam,zao,zbd,zbe,zb2,zbc,zaz,zbf,zb1,zb3,za1,za0,zap,zbb,zbg,zb0,zax,zaw,zan,zay,zba,zdr,qS,qP,qC,zzs,zo2,Rect.cells]
   try simp only[RL]at h1
   exact absurd h1 (by simp [hd])
  skip
  rw [zzp hw,zzs hw]
  simp(disch:=omega)only[↓RU,RW,↓reduceIte,qE,reduceCtorEq,iP,↓RS,RG,qA,qM,qL,ty3,za7,zaa,za8,hbr,zbw,Rect.cells]
  apply hK;clear hK K
  refine W.seq_draw (by kernel_rfl) fun K hK=>?_
  simp(disch:=omega)only[↓RU,RW,↓reduceIte,qE,reduceCtorEq,iP,qN,w64,↓RS,RG,qA,qM,qL,ty7,zbr,za7,zaa,zbs,za8]
  refine zac.pc (zkx ht.in_ (hfit b hbm).in_) rfl (.inl rfl) ?_
  simp(disch:=omega)only[↓RU,RW,↓reduceIte,qE,reduceCtorEq,iP,qN,w64,↓RS,RG,qA,qM,qL,ty7,zbr,za7,zaa,zbs,za8,zpl,qO]
  apply hK;clear hK K
  refine W.cond rfl (fun h1=>?_) (fun h1=>?_)
  ·try simp only[RL]at h1
   refine W.k fun K hK=>?_
   simp(disch:=omega)only[↓RU,RW,↓reduceIte,qE,reduceCtorEq,iP,↓RS,RG,qA,qM,qL,zab,zaa]
   apply hK;clear hK K
   refine XbN ?_
   refine xn ?_
   refine W.k fun K hK=>?_
   simp(disch:=omega)only[↓RU,RW,↓reduceIte,qE,reduceCtorEq,iP,w64,↓RS,RG,qA,qM,qL,zaa]
   apply hK;clear hK K
   refine xn ?_
   have hnx:zgz rs t (i+1)=l++[(i:Int)]:=by rw [zj7 hb,hl,if_pos hd] <;> rfl
   refine ⟨rs.length - (i+1),by omega,2,[],[.ref 0 0 0,zoj rs,.int .i64 rs.length,.int .i64 ((i+1:Nat):Int),slO (zgz rs t (i+1)) (tk+2)],stO (.arr 0 58 5 [zar g rs,.int .i64 t.row,.int .i64 t.col,.int .i64 t.high,.int .i64 t.wide]) (zgz rs t (i+1)) (tk+2) (tk+4),?_,?_,i+1,(tk+2),(tk+4),rfl,by omega,rfl,rfl⟩
   ·rw [hnx]; simp [-qU,Env.put,Env.of,zai,za9,zae,zak,zam,zao,zbd,zbe,zb2,zbc,zaz,zbf,zb1,zb3,za1,za0,zap,zbb,zbg,zb0,zax,zaw,zan,zay,zba,zdr,qS,qP,qC,zzp (l:=l++[(i:Int)]) (by simp)]
   rw [hnx]; simp [-qU,Env.put,Env.of,zai,za9,zae,zak,zam,zao,zbd,zbe,zb2,zbc,zaz,zbf,zb1,zb3,za1,za0,zap,zbb,zbg,zb0,zax,zaw,zan,zay,zba,zdr,qS,qP,qC,zzs (l:=l++[(i:Int)]) (by simp),zff,Rect.cells]
  try simp only[RL]at h1
  exact absurd h1 (by simp [hd])
 try simp only[RL]at h
 obtain rfl:rs.length=i:=by omega
 refine W.exit ?_
 refine xe ?_
 refine xe ?_
 refine XBlock.hit ?_
 refine xn ?_
 refine W.r fun K hK=>?_
 simp(disch:=omega)only[↓RU,RW,↓reduceIte,qE,reduceCtorEq,iP,↓RS,RG,qA,qM,qL]
 apply hK;clear hK K
 refine W.ret ?_
 refine Br rfl ?_
 exact yar
theorem zfg {g:List (List Int)} {nh nw:Nat} (hg:GW g nh nw) (rs:List Rect) {t:Pt} (ht:t.In nh nw) {level:Bool} {line:Nat} (hl1:1≤line) (hl2:if level then line<nh else line<nw):PC Tryz.prog 125 [zfb g rs t.rect,.bool level,.int .i64 line] (.bool (thG g t level line)) true:=by
 obtain ⟨t1,t2,t3,t4⟩:=ht
 have hgg:=hg
 obtain ⟨g1,g2,g3,g4⟩:=hg.2.2
 obtain ⟨fr,hfr⟩:∃ fr:Nat,(if level then t.c else t.r)=fr:=⟨_,rfl⟩
 obtain ⟨lg,hlg⟩:∃ lg:Nat,(if level then t.w else t.h)=lg:=⟨_,rfl⟩
 have hth:thG g t level line=(List.range lg).all fun j=>zh0 g level line (fr+j):=by subst hfr hlg; cases level <;> rfl
 have hin:∀ j,j<lg→InL nh nw level line (fr+j):=by subst hfr hlg; intro j hj; refine ⟨hl1,?_⟩; cases level <;> simp at hj hl2 ⊢ <;> omega
 have hb:fr≤6∧lg≤6:=by subst hfr hlg; cases level <;> simp <;> omega
 have hln:line≤6:=by cases level <;> simp at hl2 <;> omega
 simp only[Pt.rect,zfb,Rect.cells]
 refine PC.of ⟨Tryz.func125,by kernel_rfl,rfl,by kernel_rfl⟩ zav mixed (by show 3≤Tryz.f125.ntmps; decide) ?_
 refine W.r fun K hK=>?_
 simp(disch:=omega)only[↓RU,RW,↓reduceIte,qE,reduceCtorEq,iP,↓RS,RG,qA,qM,qL,ty7,zbr,za7,zaa,zbs,za8]
 apply hK;clear hK K
 refine W.seq_draw (by kernel_rfl) fun K hK=>?_
 simp(disch:=omega)only[↓RU,RW,↓reduceIte,qE,reduceCtorEq,iP,↓RS,RG,qA,qM,qL,ty7,zbr,za7,zaa,zbs,za8]
 apply hK;clear hK K
 refine W.join [3,1,2,7,8] (fun vs S=>vs=[.ref 0 0 0,.bool level,.int .i64 line,.int .i64 fr,.int .i64 lg]∧S=⟨[.arr 0 58 5 [zar g rs,.int .i64 t.r,.int .i64 t.c,.int .i64 t.h,.int .i64 t.w]],1⟩) ?_ ?_
 ·
  refine W.r fun K hK=>?_
  simp(disch:=omega)only[↓RU,RW,↓reduceIte,qE,reduceCtorEq,iP,↓RS,RG,qA,qM,qL]
  apply hK;clear hK K
  refine W.cond rfl (fun h0=>?_) (fun h0=>?_)
  ·try simp only[RL]at h0
   refine W.draw_k (by kernel_rfl) fun K hK=>?_
   simp(disch:=omega)only[↓RU,RW,↓reduceIte,qE,reduceCtorEq,iP,↓RS,RG,qA,qM,qL,ty7,zbr,za7,zaa,zbs,za8]
   apply hK;clear hK K
   refine xn ?_
   refine ⟨1,?_,rfl⟩
   simp only[h0,if_true,qF,if_false]at hfr hlg
   subst hfr hlg h0
   simp [Env.put,Env.of,zai]
  try simp only[RL]at h0
  refine W.skip ?_
  refine xn ?_
  refine ⟨1,?_,rfl⟩
  simp only[h0,if_true,qF,if_false]at hfr hlg
  subst hfr hlg h0
  simp [Env.put,Env.of,zai]
 rintro vs S - ⟨rfl,rfl⟩
 refine W.seq ?_
 refine W.r fun K hK=>?_
 simp(disch:=omega)only[↓RU,RW,↓reduceIte,qE,reduceCtorEq,iP,↓RS,RG,qA,qM,qL]
 apply hK;clear hK K
 refine W.block ?_
 refine W.loop [3,1,2,7,8,9] (fun n vs S=>∃ i:Nat,n=lg - i∧i≤lg∧(∀ j,j<i→zh0 g level line (fr+j)=true)∧vs=[.ref 0 0 0,.bool level,.int .i64 line,.int .i64 fr,.int .i64 lg,.int .i64 ((fr+i:Nat):Int)]∧S=⟨[.arr 0 58 5 [zar g rs,.int .i64 t.r,.int .i64 t.c,.int .i64 t.h,.int .i64 t.w]],1⟩) (lg) ?_ ?_
 ·refine ⟨1,0,rfl,Nat.zero_le _,(fun j hj=>by omega),?_,rfl⟩
  simp [Env.put,Env.of,zai]
 rintro n vs S - ⟨i,rfl,h_i,hall,rfl,rfl⟩
 refine W.seq ?_
 refine W.r fun K hK=>?_
 simp(disch:=omega)only[↓RU,RW,↓reduceIte,qE,reduceCtorEq,iP,w64,↓RS,RG,qA,qM,qL,zaa]
 apply hK;clear hK K
 refine W.cond rfl (fun h1=>?_) (fun h1=>?_)
 ·try simp only[RL]at h1
  refine W.skip ?_
  refine xn ?_
  refine W.seq ?_
  refine W.block ?_
  refine W.r fun K hK=>?_
  have hin2:=hin i (by omega)
  simp(disch:=omega)only[↓RU,RW,↓reduceIte,qE,reduceCtorEq,iP,qN,↓RS,RG,qA,qM,qL,ty7,zbr,za7,zaa,zbs,za8]
  refine zac.pc (zw6 hgg rs hin2) rfl (.inl rfl) ?_
  simp(disch:=omega)only[↓RU,RW,↓reduceIte,qE,reduceCtorEq,iP,qN,↓RS,RG,qA,qM,qL,ty7,zbr,za7,zaa,zbs,za8]
  apply hK;clear hK K
  refine W.cond rfl (fun h2=>?_) (fun h2=>?_)
  ·try simp only[RL]at h2
   refine W.r fun K hK=>?_
   simp(disch:=omega)only[↓RU,RW,↓reduceIte,qE,reduceCtorEq,iP,↓RS,RG,qA,qM,qL]
   apply hK;clear hK K
   refine W.ret ?_
   refine XBlock.ret ?_
   refine XThen.ret ?_
   refine XThen.ret ?_
   refine XBlock.ret ?_
   refine XThen.ret ?_
   refine Br rfl ?_
   rw [hth,show ((List.range lg).all fun j=>zh0 g level line (fr+j))=false from by rw [List.all_eq_false]; exact ⟨i,List.mem_range.2 (by omega),by simpa using h2⟩]
   rfl
  try simp only[RL]at h2
  refine W.skip ?_
  refine XbN ?_
  refine xn ?_
  refine W.k fun K hK=>?_
  simp(disch:=omega)only[↓RU,RW,↓reduceIte,qE,reduceCtorEq,iP,w64,↓RS,RG,qA,qM,qL,zaa]
  apply hK;clear hK K
  refine xn ?_
  refine ⟨lg - (i+1),by omega,1,i+1,rfl,by omega,(fun j hj=>by rcases Nat.lt_succ_iff_lt_or_eq.1 hj with h | rfl; exact hall j h; simpa using h2),?_,rfl⟩
  simp [Env.put,Env.of]; omega
 try simp only[RL]at h1
 refine W.exit ?_
 refine xe ?_
 refine xe ?_
 refine XBlock.hit ?_
 refine xn ?_
 refine W.r fun K hK=>?_
 simp(disch:=omega)only[↓RU,RW,↓reduceIte,qE,reduceCtorEq,iP,↓RS,RG,qA,qM,qL]
 apply hK;clear hK K
 refine W.ret ?_
 refine Br rfl ?_
 rw [hth,show ((List.range lg).all fun j=>zh0 g level line (fr+j))=true from by rw [List.all_eq_true]; intro j hj; exact hall j (by have:=List.mem_range.1 hj; omega)]
 rfl
theorem z48 {g:List (List Int)} {row:List Int} (h:g[0]?=some row) (rs:List Rect):PC Tryz.prog 40 [zar g rs] (zfb g rs ⟨0,0,g.length,row.length⟩) false:=by
 refine PC.of ⟨Tryz.func40,by kernel_rfl,rfl,by kernel_rfl⟩ zav mixed (by show 1≤Tryz.f40.ntmps; decide) ?_
 refine W.r fun K hK=>?_
 simp(disch:=omega)only[↓RU,RW,↓reduceIte,qE,reduceCtorEq,iP,↓RS,RG,qA,qM,qL,ty7,zbr,za7,zaa,zbs,za8]
 apply hK;clear hK K
 refine W.r fun K hK=>?_
 simp(disch:=omega)only[↓RU,RW,↓reduceIte,qE,reduceCtorEq,iP,qN,↓RS,RG,qA,qM,qL,ty7,zbr,za7,zaa,zbs,za8,znm]
 refine zac.pc (zh1 g rs) rfl (.inl rfl) ?_
 simp(disch:=omega)only[↓RU,RW,↓reduceIte,qE,reduceCtorEq,iP,qN,↓RS,RG,qA,qM,qL,ty7,zbr,za7,zaa,zbs,za8,znm]
 refine zac.pc (zir h rs) rfl (.inl rfl) ?_
 simp(disch:=omega)only[↓RU,RW,↓reduceIte,qE,reduceCtorEq,iP,qN,↓RS,RG,qA,qM,qL,ty7,zbr,za7,zaa,zbs,za8,znm]
 apply hK;clear hK K
 refine W.ret ?_
 refine Br rfl ?_
 rw [show (tab 58).size=5 by kernel_rfl]
 rfl
theorem yg5 (g:List (List Int)) (rs:List Rect) (t:Rect):PC Tryz.prog 94 [zfb g rs t] (.fn 124 [.ip (zar g rs::t.cells) 0]) false:=by
 simp only[zfb,Rect.cells]
 refine PC.of ⟨Tryz.func94,by kernel_rfl,rfl,by kernel_rfl⟩ zav mixed (by show 1≤Tryz.f94.ntmps; decide) ?_
 refine W.r fun K hK=>?_
 simp(disch:=omega)only[↓RU,RW,↓reduceIte,qE,reduceCtorEq,iP,↓RS,RG,qA,qM,qL,ty7,zbr,za7,zaa,zbs,za8]
 apply hK;clear hK K
 refine W.r fun K hK=>?_
 simp(disch:=omega)only[↓RU,RW,↓reduceIte,qE,reduceCtorEq,iP,↓RS,RG,qA,qM,qL]
 apply hK;clear hK K
 refine W.ret ?_
 refine Br rfl ?_
 rfl
section
structure LoopR (ps:Array Tmp) (asg body:Code) (r:Loop):Prop where
 hps:r.params=ps
 hasg:r.assign=asg
 hbody:r.body=body
 dps:∀ t∈ps.toList,t<r.tmps.size
 dasg:zg7 r.tmps.size asg=true
 dbody:zg7 r.tmps.size body=true
theorem LoopR.turn {ps:Array Tmp} {asg body:Code} {r:Loop} (h:LoopR ps asg body r) (s:LoopState) (p:Option Code):LoopR ps asg body { r with state:=s,pending:=p } :=
 ⟨h.hps,h.hasg,h.hbody,h.dps,h.dasg,h.dbody⟩
def Env.puts:List (Nat × PV)→Env→Env
 | [],e=>e
 | (t,v)::r,e=>Env.puts r (e.put (some t) v)
section
variable {P:Program} {T:Tab} {Q Q':Exit→Env→Store→Prop} {e:Env} {S:Store} {a b c:Code} {F:Nat→Prop} {G:GSt} {w:World}
theorem zxi {ds:List Deferred}:∀ (ps:List Nat) (xs:List PV) (cs:List Value) (e:Env) (t:Array Value),zfi w.heap F G e ⟨t,ds⟩→(∀ p∈ps,p<t.size)→xs.length=cs.length →
  (∀ (i:Nat) p c,xs[i]?=some p→cs[i]?=some c→VR w.heap F G p c) →
  zfi w.heap F G (Env.puts (ps.zip xs) e) ⟨(ps.zip cs).foldl (fun t (q:Nat × Value)=>t.setIfInBounds q.1 q.2) t,ds⟩
 | [],xs,cs,e,t,he,_,_,_=>by simpa [Env.puts] using he
 | p::ps,[],[],e,t,he,_,_,_=>by simpa [Env.puts] using he
 | p::ps,x::xs,c::cs,e,t,he,hp,hl,hv=>by
  simp only[List.zip_cons_cons,Env.puts,List.foldl_cons]
  refine zxi ps xs cs _ _ ?_ ?_ (by simpa using hl) fun i p c q1 q2=>hv (i+1) p c (by simpa using q1) (by simpa using q2)
  ·have:=he.put (a:=⟨t,ds⟩) (some p) (v:=x) (cv:=c) (fun t' ht=>by cases ht; exact hp p (by simp)) (hv 0 x c rfl rfl)
   exact this
  intro q hq
  have:=hp q (by simp [hq])
  simpa using this
 | p::ps,[],c::cs,_,_,_,_,hl,_=>by simp at hl
 | p::ps,x::xs,[],_,_,_,_,hl,_=>by simp at hl
theorem z5o (l:List (Nat × Value)) (t:Array Value):(l.foldl (fun t (q:Nat × Value)=>t.setIfInBounds q.1 q.2) t).size=t.size:=by
 induction l generalizing t with
 | nil=>rfl
 | cons q l ih=>simp [ih]
theorem yak (hi:Inv F G w) {o ver l:Nat} {r:Loop × List Nat} {tm:List PV} {lc:Lc} (ho:G.obs[o]?=some (.lp ver l r tm,lc)) (s:LoopState) (pe:Option Code) :
  ∃ t:Array Value,w.heap[l]?=some (.loop { r.1 with tmps:=t }) ∧
   Inv F ⟨G.obs.set o (.lp ver l ({ r.1 with state:=s,pending:=pe },r.2) tm,lc),G.tick⟩ (w.putObj l (.loop { r.1 with tmps:=t,state:=s,pending:=pe })) ∧
   Next F G w F ⟨G.obs.set o (.lp ver l ({ r.1 with state:=s,pending:=pe },r.2) tm,lc),G.tick⟩ (w.putObj l (.loop { r.1 with tmps:=t,state:=s,pending:=pe })):=by
 obtain ⟨h0,t,h1,h2,h3⟩:=hi.lp o ver l r tm lc ho
 have hlt:=(Array.getElem?_eq_some_iff.1 h1).1
 refine ⟨t,h1,zh2 hi ho _ lc G.tick _ rfl rfl rfl (qR _) (by simp) (.inl rfl) (fun b hb hne=>World.putObj_heap_other (by rw [← h0]; exact hne)) (qR _) (show Ob.ver (.lp ver l r tm)<G.tick from hi.ver o _ lc ho)
  (.inl ⟨rfl,trivial,rfl⟩) ⟨h0,t,World.putObj_heap_same hlt,h2,h3⟩⟩
def yji (o l:Nat) (J:PV→Store→Prop):Exit→Env→Store→Prop
 | .normal,_,S=>∃ ver r L tm k,S.obs[o]?=some (.lp ver l (r,L) tm)∧J (.bool true) (Store.take ⟨S.obs.set o (.lp ver l ({ r with state := .ready,pending:=none },L) tm),S.tick⟩ k)
 | .ret,_,S=>∃ ver r L tm k,S.obs[o]?=some (.lp ver l (r,L) tm)∧J (.bool false) (Store.take ⟨S.obs.set o (.lp ver l ({ r with state := .done,pending:=some .ret },L) tm),S.tick⟩ k)
 | .exit id,_,S=>∃ ver r L tm k,S.obs[o]?=some (.lp ver l (r,L) tm)∧J (.bool false) (Store.take ⟨S.obs.set o (.lp ver l ({ r with state := .done,pending:=some (.exit id) },L) tm),S.tick⟩ k)
 | _,_,_=>False
theorem VR.bool_of {H:Array Obj} {b:Bool}:VR H F G (.bool b) (.bool b) := .imm _ _ (.bool b)
theorem Ey.of (hT:zby P T) (hm:P.follows .mixedOrders=true) {l o ver:Nat} {r:Loop} {L:List Nat} {tm xs:List PV} {ps:Array Tmp} {asg body:Code} {J:PV→Store→Prop}
  (ho:S.obs[o]?=some (.lp ver l (r,L) tm)) (hr:LoopR ps asg body r) (hst:r.state = .ready) (hps:ps.size=xs.length)
  (hw:W P T asg (XThen (fun e1 S1=>∃ ver1 r1 L1 tm1,S1.obs[o]?=some (.lp ver1 l (r1,L1) tm1)∧r1.state = .ready ∧
   W P T body (yji o l J) e1 ⟨S1.obs.set o (.lp ver1 l ({ r1 with state := .busy,pending:=r1.pending },L1) tm1),S1.tick⟩) (fun _ _ _=>False)) (Env.puts (ps.toList.zip xs) (Env.of L tm)) S) :
  Ey P l xs S J:=by
 refine ⟨fun F G w cargs hS hi hl hv=>?_⟩
 subst hS
 obtain ⟨lc,hG⟩:=zf3 ho
 obtain ⟨h0,t,h1,⟨h2,h2'⟩,h3⟩:=hi.lp o ver l (r,L) tm lc hG
 simp only at h1 h2 h2' h3
 refine ⟨_,_,_,_,run_yield h1 (by simp only; rw [hr.hps]; omega),fun R nn=>?_⟩
 refine roundIn_of_wpIn trivial ?_
 simp only
 have hE:zfi w.heap F G (Env.puts (ps.toList.zip xs) (Env.of L tm)) ⟨(ps.toList.zip cargs.toList).foldl (fun t (q:Nat × Value)=>t.setIfInBounds q.1 q.2) t,[]⟩ :=
  zxi _ _ _ _ _ (zvi L tm h2'.symm fun i j v q1 q2=>h3 i v j q2 q1) (fun p hp=>Nat.lt_of_lt_of_eq (hr.dps p hp) (congrArg Array.size h2).symm) (by simpa using hl) (fun i p c q1 q2=>hv i p c q1 (by simpa using q2))
 have hsz:((ps.toList.zip cargs.toList).foldl (fun t (q:Nat × Value)=>t.setIfInBounds q.1 q.2) t).size=r.tmps.size:=by rw [z5o]; exact congrArg Array.size h2
 have hfold:(r.params.zip cargs).foldl (fun tmps (x:Nat × Value)=>tmps.setIfInBounds x.1 x.2) t=(ps.toList.zip cargs.toList).foldl (fun t (q:Nat × Value)=>t.setIfInBounds q.1 q.2) t:=by
  rw [hr.hps,← Array.foldl_toList,Array.toList_zip]
 show (r.assign).wpIn (fnc (some l)) _ P _ { tmps:=(r.params.zip cargs).foldl (fun tmps (x:Nat × Value)=>tmps.setIfInBounds x.1 x.2) t,defers:=[] } w
 rw [hfold,hr.hasg,hr.hbody]
 refine wpIn_mono (hw.run hT hm F G w r.tmps.size F G _ w rfl hi hE (Next.refl w) hsz Marks.nil hr.dasg) ?_
 rintro x a1 w1 ⟨e1,F1,G1,k1,k2,k3,k4,k5,k6⟩
 cases x with
 | normal =>
  obtain ⟨ver1,r1,L1,tm1,g1,g2,g3⟩:=k1
  obtain ⟨lc1,hG1⟩:=zf3 g1
  obtain ⟨t1,q1,q2,q3⟩:=yak k2 hG1 .busy r1.pending
  refine ⟨_,run_beginRound q1 g2,?_⟩
  refine wpIn_mono (g3.run hT hm F G w r.tmps.size F1 _ a1 _ (zja G1 o _ lc1 G1.tick) q2 (k3.next k2 q3) (k4.trans q3) k5 (k6.next k2 q3) hr.dbody) ?_
  have fin:∀ {F2:Nat→Prop} {G2:GSt} {w2:World} {v:Bool} {s:LoopState} {pe:Option Code} {ver2:Nat} {r2:Loop} {L2:List Nat} {tm2:List PV} {k:Nat},Inv F2 G2 w2→Next F G w F2 G2 w2 →
    s=(if pe.isNone then .ready else .done)→v=pe.isNone→G2.er.obs[o]?=some (.lp ver2 l (r2,L2) tm2) →
    J (.bool v) (Store.take ⟨G2.er.obs.set o (.lp ver2 l ({ r2 with state:=s,pending:=pe },L2) tm2),G2.er.tick⟩ k) →
    ∃ cv w3,(Instr.endRound l pe).run P w2 = .ok cv w3∧∃ v cv' F' G',Ending.returned cv = .returned cv'∧J v G'.er∧Inv F' G' w3∧Next F G w F' G' w3∧VR w3.heap F' G' v cv':=by
   intro F2 G2 w2 v s pe ver2 r2 L2 tm2 k i2 n2 hs hv2 hg hJ
   obtain ⟨lc2,hG2⟩:=zf3 hg
   obtain ⟨t2,p1,p2,p3⟩:=yak i2 hG2 s pe
   obtain ⟨i3,n3⟩:=zft p2 k
   have hrun:=run_endRound (P:=P) pe p1
   rw [← hs]at hrun
   refine ⟨_,_,hrun,.bool v,_,F2,GSt.take ⟨G2.obs.set o (.lp ver2 l ({ r2 with state:=s,pending:=pe },L2) tm2,lc2),G2.tick⟩ k,rfl,?_,i3,(n2.trans p3).trans n3,by rw [← hv2]; exact VR.bool_of⟩
   rw [zjr,zja]; exact hJ
  rintro x a2 w2 ⟨e2,F2,G2,j1,j2,j3,j4,j5,j6⟩
  cases x with
  | normal=>obtain ⟨ver2,r2,L2,tm2,k,f1,f2⟩:=j1; exact fin j2 j4 rfl rfl f1 f2
  | ret=>obtain ⟨ver2,r2,L2,tm2,k,f1,f2⟩:=j1; exact fin j2 j4 rfl rfl f1 f2
  | exit id=>obtain ⟨ver2,r2,L2,tm2,k,f1,f2⟩:=j1; exact fin j2 j4 rfl rfl f1 f2
  | _=>exact j1.elim
 | _=>exact k1.elim
structure V (P:Program) (T:Tab) (c:Code) (Q:Exit→Env→Store→Prop) (e:Env) (S:Store):Prop where
 run:zby P T→P.follows .mixedOrders=true→∀ (F0:Nat→Prop) (G0:GSt) (w0:World) (N:Nat) (F:Nat→Prop) (G:GSt) (a:Act) (w:World),G.er=S→Inv F G w→zfi w.heap F G e a →
  Next F0 G0 w0 F G w→a.tmps.size=N→Marks w0 a.defers w→zg7 N c=true→c.wpIn (fnc none) 0 P (Sto F0 G0 w0 N Q) a w
theorem W.v (h:W P T c Q e S):V P T c Q e S:=⟨fun h1 h2 F0 G0 w0 N F G a w h3 h4 h5 h6 h7 h8 h9=>h.run h1 h2 F0 G0 w0 N F G a w h3 h4 h5 h6 h7 h8 h9⟩
theorem V.mono (h:V P T c Q e S) (k:∀ x e S,Q x e S→Q' x e S):V P T c Q' e S :=
 ⟨fun h1 h2 F0 G0 w0 N F G a w h3 h4 h5 h6 h7 h8 h9=>wpIn_mono (h.run h1 h2 F0 G0 w0 N F G a w h3 h4 h5 h6 h7 h8 h9) fun _ _ _=>Sto.mono k⟩
theorem V.seq (h:V P T a (XThen (V P T b Q) Q) e S):V P T (.seq a b) Q e S:=by
 refine ⟨?_⟩
 intro hT hm F0 G0 w0 N F G a w h3 h4 h5 h6 h7 h8 h9
 simp only[zg7,qB]at h9
 refine wpIn_seq (wpIn_mono (h.run hT hm F0 G0 w0 N F G a w h3 h4 h5 h6 h7 h8 h9.1) ?_)
 rintro x a' w' ⟨e',F',G',k1,k2,k3,k4,k5,k6⟩
 cases x with
 | normal=>exact k1.run hT hm F0 G0 w0 N F' G' a' w' rfl k2 k3 k4 k5 k6 h9.2
 | _=>exact ⟨e',F',G',k1,k2,k3,k4,k5,k6⟩
theorem V.seq_region {id:Nat} {l:List Oper} (h:∀ K:Env→Store→Prop,(∀ e S,V P T b Q e S→K e S)→zbq false P T (dsts l) l e S K):V P T (.seq (.region id l.toArray false) b) Q e S :=
 V.seq (W.v (W.k fun K hK=>h K hK))
theorem V.seq_draw {id:Nat} {l:List Oper} (hc:zhy l.toArray (List.range' 0 l.length) (zko l 0) []=true) (h:∀ K:Env→Store→Prop,(∀ e S,V P T b Q e S→K e S)→zbq true P T (dsts l) l e S K) :
  V P T (.seq (.region id l.toArray true) b) Q e S :=
 V.seq (W.v (W.draw_k hc fun K hK=>h K hK))
theorem V.seq_drawE {id:Nat} {l:List Oper} (hc:zhy l.toArray (List.range' 0 l.length) (zcc l 0) []=true) (h:∀ K:Env→Store→Prop,(∀ e S,V P T b Q e S→K e S)→zbq false P T (dsts l) l e S K) :
  V P T (.seq (.region id l.toArray true) b) Q e S :=
 V.seq (W.v (W.drawE_k hc fun K hK=>h K hK))
theorem V.cond {x:Operand} {t:Bool} (hc:e.ev x = .bool t) (h1:t=true→V P T a Q e S) (h2:t=false→V P T b Q e S):V P T (.cond x a b) Q e S:=by
 refine ⟨?_⟩
 intro hT hm F0 G0 w0 N F G a w h3 h4 h5 h6 h7 h8 h9
 simp only[zg7,qB]at h9
 have:=h5.ev x
 rw [hc]at this
 exact wpIn_cond_split this.bool (fun ht=>(h1 ht).run hT hm F0 G0 w0 N F G a w h3 h4 h5 h6 h7 h8 h9.1) (fun ht=>(h2 ht).run hT hm F0 G0 w0 N F G a w h3 h4 h5 h6 h7 h8 h9.2)
theorem V.block {id:Nat} (h:V P T c (XBlock id Q) e S):V P T (.block id c) Q e S:=by
 refine ⟨?_⟩
 intro hT hm F0 G0 w0 N F G a w h3 h4 h5 h6 h7 h8 h9
 refine wpIn_block (wpIn_mono (h.run hT hm F0 G0 w0 N F G a w h3 h4 h5 h6 h7 h8 h9) ?_)
 rintro x a' w' ⟨e',F',G',k1,k2⟩
 cases x with
 | exit i =>
  simp only[Exit.inBlock]
  simp only[XBlock]at k1
  split
  ·rename_i hi; rw [if_pos hi]at k1; exact ⟨e',F',G',k1,k2⟩
  rename_i hi; rw [if_neg hi]at k1; exact ⟨e',F',G',k1,k2⟩
 | _=>exact ⟨e',F',G',k1,k2⟩
def yhn:Option Code→Option Exit
 | none=>some .normal
 | some .ret=>some .ret
 | some (.exit id)=>some (.exit id)
 | _=>none
theorem z0d (hi:Inv F G w) (ob:Obj):Inv F G (w.alloc ob)∧Next F G w F G (w.alloc ob):=by
 have hkeep:∀ b,b<w.heap.size→(w.alloc ob).heap[b]?=w.heap[b]?:=fun b hb=>Go.RowKit.Below.heap_alloc w ob b hb
 have hn:Next F G w F G (w.alloc ob) :=
  ⟨rfl,rfl,rfl,by simp,fun _ h=>h,fun _ h => .inl h,fun o x h => .inr ⟨o,x,h,rfl⟩,qR _,fun b hb _=>hkeep b hb,fun _ ob' _ h _=>⟨ob',h,rfl,Ob.like.refl _⟩,qR _⟩
 exact ⟨zje (fun b hb=>Nat.lt_of_lt_of_le (hi.fr b hb) hn.size) hi.ver hi.nF (fun o ob' l h=>(hi.holds h).next hi hn (hkeep _ (hi.blk_lt h))) hi.inj,hn⟩
theorem VR.fn_at {f:FuncId} {cap:List PV} {v:Value} (h:VR w.heap F G (.fn f cap) v):∃ vs:Array Value,v = .func (.func f) #[] vs∧cap.length=vs.size∧∀ (i:Nat) p c,cap[i]?=some p→vs[i]?=some c→VR w.heap F G p c:=by
 cases h with
 | imm _ _ h=>cases h with | fn _ _ vs h1 h2=>exact ⟨vs,rfl,h1,fun i p c q1 q2 => .imm _ _ (h2 i p c q1 q2)⟩
 | fn _ _ vs h1 h2=>exact ⟨vs,rfl,h1,h2⟩
theorem V.rangeFunc {g:Operand} {ps:Array Tmp} {asg body:Code} (L:List Nat) {f:FuncId} {cap:List PV} (hg:e.ev g = .fn f cap)
  (h:∀ (l:Nat) (r:Loop),LoopR ps asg body r→r.state = .ready→r.pending=none→∃ J,Ev P f (.yl l::cap) ⟨S.obs++[.lp S.tick l (r,L) (L.map e)],S.tick+1⟩ J ∧
   ∀ v S',J v S'→∃ ver r' L' tm x,S'.obs[S.obs.length]?=some (.lp ver l (r',L') tm)∧r'.state ≠ .busy∧yhn r'.pending=some x∧Q x e (S'.take S.obs.length)) :
  V P T (.rangeFunc g ps asg body) Q e S:=by
 refine ⟨?_⟩
 intro hT hm F0 G0 w0 N F G a w h3 h4 h5 h6 h7 h8 h9
 subst h3
 simp only[zg7,qB,List.all_eq_true,decide_eq_true_eq]at h9
 obtain ⟨⟨d1,d2⟩,d3⟩:=h9
 refine wpIn_rangeFunc ?_
 intro fn _
 obtain ⟨rec,hrec⟩:∃ rec:Loop,rec={ state := .ready,pending:=none,fn,tmps:=a.tmps,params:=ps,assign:=asg,body,defers:=w.heap.size }:=⟨_,rfl⟩
 obtain ⟨i1,n1⟩:=z0d h4 (.deferred (some []))
 obtain ⟨W0,hW0⟩:∃ W0,w.alloc (.deferred (some []))=W0:=⟨_,rfl⟩
 have hsz:W0.heap.size=w.heap.size+1:=by rw [← hW0]; simp
 rw [hW0]at i1 n1
 have hdef:W0.heap[w.heap.size]?=some (.deferred (some [])):=by rw [← hW0]; exact World.alloc_heap_new w _
 obtain ⟨W1,hW1⟩:∃ W1,W0.alloc (.loop rec)=W1:=⟨_,rfl⟩
 have hL1:W1.heap[W0.heap.size]?=some (.loop rec):=by rw [← hW1]; exact World.alloc_heap_new W0 _
 have hhold:Holds W0.heap F G W1.heap (.lp G.tick W0.heap.size (rec,L) (L.map e)) ⟨W0.heap.size,0⟩:=by
  refine ⟨rfl,a.tmps,by rw [hL1,hrec],⟨by rw [hrec],by simp⟩,fun i p j q1 q2=>?_⟩
  simp only at q2
  rw [List.getElem?_map,q2]at q1
  cases q1
  exact (h5 j).next h4 n1
 obtain ⟨i2,n2⟩:=zvr i1 (.lp G.tick W0.heap.size (rec,L) (L.map e)) 0 W1 W1.drawn (by rw [← hW1]; rfl) (by rw [← hW1]; exact qR _) ⟨_,by rw [← hW1]; rfl⟩ rfl hhold
 have n12:=n1.trans n2
 have hgv:=h5.ev g
 rw [hg]at hgv
 obtain ⟨vs,hge,hvl,hvr⟩:=hgv.fn_at
 obtain ⟨J,hev,hJ⟩:=h W0.heap.size rec (by rw [hrec]; exact ⟨rfl,rfl,rfl,fun t ht=>by rw [h7]; exact d1 t ht,by rw [h7]; exact d2,by rw [h7]; exact d3⟩) (by rw [hrec]) (by rw [hrec])
 refine ⟨w.heap.size+1,[{ target := .collected w.heap.size,args := #[] }],W1,{ target := .fn (.func f) vs,args := #[.func (.yield (w.heap.size+1)) #[] #[]] },W1,f,
  #[.func (.yield (w.heap.size+1)) #[] #[]]++vs,W1,?_,?_,fun _ _=>trivial,?_,fun q=>(by simp [Fence.wide]at q),?_⟩
 ·rw [← hW1,← hW0,hrec]; exact run_enterLoop_outer _ _ _ _ _
 ·simp only[resolve,hge]
  simp [go_sem]
 ·simp only[invoke]; exact hev.ent _ _
 ·refine callsIn_wide.2 ((hev.run F _ W1 _ (z0v G _ _) i2 (by simp; omega) ?_).mono ?_)
  ·intro i p c q1 q2
   cases i with
   | zero=>rw [Array.getElem?_append_left (by simp)]at q2; simp at q1 q2; subst q1; subst q2; rw [hsz]; exact .imm _ _ (.yl _)
   | succ i =>
    simp only[List.getElem?_cons_succ]at q1
    rw [Array.getElem?_append_right (by simp)]at q2
    simp at q2
    exact (hvr i p c q1 q2).next h4 n12
  ·rintro en w2 ⟨v,cv,F2,G2,rfl,j1,j2,j3,j4⟩
   obtain ⟨ver,r',L',tm,x,g1,g2,g3,g4⟩:=hJ v _ j1
   obtain ⟨lc,hG2⟩:=zf3 g1
   rw [show (GSt.er G).obs.length=G.obs.length by simp [GSt.er]]at hG2 g4
   obtain ⟨t,p1,p2,p3⟩:=yak j2 hG2 .exhausted r'.pending
   obtain ⟨i3,n3⟩:=zft p2 G.obs.length
   rw [hsz]at p1
   refine ⟨_,_,run_endLoop p1 g2,?_⟩
   have hnx:=((h6.trans n12).trans (j3.trans p3)).trans n3
   have hmk:Marks w0 ([{ target := .collected w.heap.size,args := #[] }]++a.defers) (w2.putObj W0.heap.size (.loop { r' with tmps:=t,state := .exhausted,pending:=r'.pending })):=by
    have m1:=h8.next h4 n12
    have hd1:W1.heap[w.heap.size]?=some (.deferred (some [])):=(by rw [← hW1]; exact (Go.RowKit.Below.heap_alloc W0 _ _ (by omega)).trans hdef)
    have m2:Marks w0 ([{ target := .collected w.heap.size,args := #[] }]++a.defers) W1:=by
     obtain ⟨bs,b1,b2,b3⟩:=h8
     obtain ⟨bs',c1,c2,c3⟩:=m1
     have hb:bs'=bs:=by
      rw [b1]at c1
      have:=congrArg (List.map fun d:Deferred=>(match d.target with | .collected b=>b | _=>0)) c1
      simpa [List.map_map,Function.comp_def] using this.symm
     subst hb
     refine ⟨w.heap.size::bs',by rw [b1]; simp,?_,?_⟩
     ·refine List.nodup_cons.2 ⟨fun hm=>?_,b2⟩
      have:=(Array.getElem?_eq_some_iff.1 (b3 _ hm).2).1
      omega
     intro b hb
     rcases List.mem_cons.1 hb with rfl | hb
     ·exact ⟨h6.size,hd1⟩
     exact c3 b hb
    exact (m2.next i2 j3).next j2 p3
   have henv:zfi (w2.putObj W0.heap.size (.loop { r' with tmps:=t,state := .exhausted,pending:=r'.pending })).heap F2 (GSt.take ⟨G2.obs.set G.obs.length (.lp ver W0.heap.size ({ r' with state := .exhausted,pending:=r'.pending },L') tm,lc),G2.tick⟩ G.obs.length) e { a with defers:=[{ target := .collected w.heap.size,args := #[] }]++a.defers } :=
    fun k=>((((h5 k).next h4 n12).next i2 j3).next j2 p3).next p2 n3
   have hst:Sto F0 G0 w0 N Q x { a with defers:=[{ target := .collected w.heap.size,args := #[] }]++a.defers } (w2.putObj W0.heap.size (.loop { r' with tmps:=t,state := .exhausted,pending:=r'.pending })):=by
    refine ⟨e,F2,_,?_,i3,henv,hnx,h7,hmk⟩
    have:(GSt.take ⟨G2.obs.set G.obs.length (.lp ver W0.heap.size ({ r' with state := .exhausted,pending:=r'.pending },L') tm,lc),G2.tick⟩ G.obs.length).er=G2.er.take G.obs.length:=by
     simp [GSt.take,GSt.er,Store.take,List.take_set_of_le]
    rw [this]; exact g4
   rw [hsz]at hst
   cases hpe:r'.pending with
   | none=>rw [hpe]at g3 hst ; simp only[yhn]at g3; cases g3; exact hst
   | some c =>
    rw [hpe]at g3 hst
    cases c <;> simp only[yhn]at g3 <;> cases g3
    ·exact wpIn_exit hst
    exact wpIn_ret hst
theorem Fn.callsV {f:FuncId} {fn:Func} (h:Fn P f fn c) (hT:zby P T) (hm:P.follows .mixedOrders=true) {args:List PV} {K:PV→Store→Prop} (hn:args.length≤fn.ntmps)
  (hw:V P T c (zfj T fn.results.toList K) (zai args) S) {F:Nat→Prop} {G:GSt} {w:World} {cargs:Array Value} (hS:G.er=S) (hi:Inv F G w) (hl:args.length=cargs.size)
  (hv:∀ (i:Nat) p c,args[i]?=some p→cargs[i]?=some c→VR w.heap F G p c) :
  Calls P f cargs w fun e w'=>∃ v cv F' G',e = .returned cv∧K v G'.er∧Inv F' G' w'∧Next F G w F' G' w'∧VR w'.heap F' G' v cv :=
 h.calls_of hT hn hi hl (hw.run hT hm F G w fn.ntmps F G _ w hS hi (z7c hl hv _ _) (Next.refl w) (by simp; omega) Marks.nil h.dst)
theorem Ev.ofV {f:FuncId} {fn:Func} (h:Fn P f fn c) (hT:zby P T) (hm:P.follows .mixedOrders=true) {args:List PV} {J:PV→Store→Prop} (hn:args.length≤fn.ntmps)
  (hw:V P T c (zfj T fn.results.toList fun v S1=>∃ k,J v (S1.take k)) (zai args) S):Ev P f args S J:=by
 refine ⟨h.ent,fun F G w cargs hS hi hl hv=>(h.callsV hT hm hn hw hS hi hl hv).mono ?_⟩
 rintro en w' ⟨v',cv,F',G',k1,⟨k,k2⟩,k3,k4,k5⟩
 obtain ⟨i1,i2⟩:=zft k3 k
 exact ⟨v',cv,F',G'.take k,k1,(zjr G' k).symm ▸ k2,i1,k4.trans i2,k5.next k3 i2⟩
theorem PC.ofV {f:FuncId} {fn:Func} (h:Fn P f fn c) (hT:zby P T) (hm:P.follows .mixedOrders=true) {args:List PV} {r:PV} {fr:Bool} (hn:args.length≤fn.ntmps)
  (hw:V P T c (zfj T fn.results.toList fun v S=>reify S (!fr) 10 v=some r) (zai args) ⟨[],0⟩):PC P f args r fr:=by
 refine ⟨h.ent,fun F w cargs hF hl hv=>?_⟩
 have hi:Inv F ⟨[],0⟩ w:=⟨hF,by simp,by simp,by simp,by simp,by simp,by simp⟩
 refine (h.callsV hT hm hn hw rfl hi hl fun i p c q1 q2 => .imm _ _ (hv i p c q1 q2)).mono ?_
 rintro en w' ⟨v',cv,F',G',rfl,k2,k3,k4,k5⟩
 refine ⟨cv,rfl,⟨⟨k4.os,k4.tape,k4.output,k4.size,fun b hb=>k4.keep b hb (by simp)⟩,k4.drawn⟩,(zem k3 k5 k2).mono ?_ (fun _ _=>rfl)⟩
 rintro b (⟨h1,h2⟩ | ⟨o,x,hx,rfl⟩)
 ·rcases k4.fnew b h2 with h3 | h3 | ⟨o,x,hx,_⟩
  ·exact .inr ⟨by simpa using h1,h3⟩
  ·exact .inl ⟨h3,k3.fr b h2⟩
  simp at hx
 rcases k4.gnew o x hx with h3 | ⟨o',y,hy,_⟩
 ·exact .inl ⟨h3,k3.blk_lt hx⟩
 simp at hy
end
end
end Fw
end Go.Proofs.YtbbphnladjdllaaGreat
