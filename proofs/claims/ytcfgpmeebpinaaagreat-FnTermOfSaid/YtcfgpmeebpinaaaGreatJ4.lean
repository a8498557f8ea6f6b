/- Parts of the framework and of the proof: Cut trees, gone down; what is told along them; Cuts and orders: what lies on the two sides of a cut; widths along cuts are least widths; Plans that are cuttable, by the orders of their rooms; so by their permutations; Permutations of plain plans are fair; Loose permutations are those that fall apart; Cuts in the specification, gone through; Texts along cuts and widths along cuts in the specification, gone through; Fair and loose permutations of plain plans, as the program asks; Terms: signs moved inwards; permutations of terms; Plans of terms; The framework, part z: a region in which the bytes of a text become a new row that is written later; Drawing: the reader, gone through; Terms: the reader of the program, gone through; slices.Grow of nil, in the model's own words; Terms tidied and their permutations by the program, gone through; Plans have terms with their permutation; texts of terms are read back; Parts of plans in the program: rooms, lines, gone through; The framework, part ha: loops over functions: yield's contract out of the body's walk, and the statement; The framework, part hb: a region in which two variables are made, either of them ahead of the other. -/
import Derived.Test.YtcfgpmeebpinaaaGreatJ3
import Derived.Test.YtcfgpmeebpinaaaGreatJ2
import Derived.Test.YtcfgpmeebpinaaaGreatJ1
import Derived.Lib.ConvBytes
import Derived.Lib.AppendZeros
set_option linter.all false
namespace Go.Proofs.YtcfgpmeebpinaaaGreat
namespace Fw
open Go
open Nat renaming reduceEqDiff → qE, reduceLeDiff → qL, reduceAdd → qA, reduceMul → qM, le_refl → qR
open List renaming append_nil → qN, mapM_append → qP, mapM_cons → qC, mapM_map → qU, range_succ → qS, take_of_length_le → qT
open Bool renaming and_eq_true → qB, false_eq_true → qF
open Option renaming map_some → qO, map_eq_some_iff → qI
open Int renaming reduceToNat → qZ
section
def zdq (z:Nat→Nat→Int) (t:Pt):Option CT:=tree z (t.h*t.w) t
section
variable {z:Nat→Nat→Int} {H W:Nat} {t:Pt}
theorem zj1 (h:t.In H W):t.h*t.w=(t.h*t.w - 1)+1:=by have:=Nat.mul_pos h.1 h.2.1; omega
theorem zjz (h:t.In H W) (h1:zw4 z t=true):zdq z t=some (.leaf (z t.r t.c)):=by
 unfold zdq; rw [zj1 h,tree,if_pos h1]
theorem zii (h:t.In H W) (h1:zw4 z t=false) (h2:zd2 z t=none):zdq z t=none:=by
 unfold zdq; rw [zj1 h,tree,h1,h2]; rfl
theorem zge (h:t.In H W) (h1:zw4 z t=false) {q:Bool × Nat} (h2:zd2 z t=some q):zdq z t=match zdq z (t.one q),zdq z (t.two q) with | some x,some y=>some (.node q.1 x y) | _,_=>none:=by
 obtain ⟨i1,i2,a1,a2⟩:=h.cut h2
 have:=zj1 h
 rw [show zdq z t=tree z ((t.h*t.w - 1)+1) t by unfold zdq; rw [← this]]
 simp only[tree,h1,h2,qF,if_false]
 unfold zdq
 rw [zm5 (z:=z) _ i1 (qR _) (f:=t.h*t.w - 1) (g:=(t.one q).h*(t.one q).w) (by omega) (qR _),zm5 (z:=z) _ i2 (qR _) (f:=t.h*t.w - 1) (g:=(t.two q).h*(t.two q).w) (by omega) (qR _)]
 all_goals (cases tree z ((t.one q).h*(t.one q).w) (t.one q) <;> cases tree z ((t.two q).h*(t.two q).w) (t.two q) <;> rfl)
def z5a (z:Nat→Nat→Int):Nat→Pt→Txt × Bool
 | 0,_=>([],false)
 | f+1,t=>if zw4 z t then ([UInt8.ofNat (z t.r t.c+65).toNat],true) else
  match zd2 z t with
  | none=>([],false)
  | some q=>((if q.1 then [104] else [118])++(z5a z f (t.one q)).1++(z5a z f (t.two q)).1,(z5a z f (t.one q)).2 && (z5a z f (t.two q)).2)
theorem zpq:∀ (n:Nat) {t:Pt} {f g:Nat},t.In H W→t.h*t.w≤n→t.h*t.w≤f→t.h*t.w≤g→z5a z f t=z5a z g t
 | 0,t,f,g,hi,hn,_,_=>by have:=Nat.mul_pos hi.1 hi.2.1; omega
 | n+1,t,f,g,hi,hn,hf,hg=>by
  have:=Nat.mul_pos hi.1 hi.2.1
  obtain ⟨f,rfl⟩:∃ f',f=f'+1:=⟨f - 1,by omega⟩
  obtain ⟨g,rfl⟩:∃ g',g=g'+1:=⟨g - 1,by omega⟩
  simp only[z5a]
  split
  ·rfl
  cases hc:zd2 z t with
  | none=>rfl
  | some q =>
   obtain ⟨i1,i2,a1,a2⟩:=hi.cut hc
   simp only
   rw [zpq n i1 (f:=f) (g:=g) (by omega) (by omega) (by omega),zpq n i2 (f:=f) (g:=g) (by omega) (by omega) (by omega)]
def zrx (z:Nat→Nat→Int) (t:Pt):Txt × Bool:=z5a z (t.h*t.w) t
theorem z24 (h:t.In H W) (h1:zw4 z t=true):zrx z t=([UInt8.ofNat (z t.r t.c+65).toNat],true):=by
 unfold zrx; rw [zj1 h,z5a,if_pos h1]
theorem zyq (h:t.In H W) (h1:zw4 z t=false) (h2:zd2 z t=none):zrx z t=([],false):=by
 unfold zrx; rw [zj1 h,z5a,h1,h2]; rfl
theorem zm6 (h:t.In H W) (h1:zw4 z t=false) {q:Bool × Nat} (h2:zd2 z t=some q) :
  zrx z t=((if q.1 then [104] else [118])++(zrx z (t.one q)).1++(zrx z (t.two q)).1,(zrx z (t.one q)).2 && (zrx z (t.two q)).2):=by
 obtain ⟨i1,i2,a1,a2⟩:=h.cut h2
 have:=zj1 h
 rw [show zrx z t=z5a z ((t.h*t.w - 1)+1) t by unfold zrx; rw [← this]]
 simp only[z5a,h1,h2,qF,if_false]
 unfold zrx
 rw [zpq (z:=z) _ i1 (qR _) (f:=t.h*t.w - 1) (g:=(t.one q).h*(t.one q).w) (by omega) (qR _),zpq (z:=z) _ i2 (qR _) (f:=t.h*t.w - 1) (g:=(t.two q).h*(t.two q).w) (by omega) (qR _)]
theorem z0v {q:Bool × Nat} (h2:zd2 z t=some q):(t.one q).h*(t.one q).w+(t.two q).h*(t.two q).w=t.h*t.w:=by
 obtain ⟨h1,h3⟩:=zeo h2
 obtain ⟨lv,k⟩:=q
 cases lv with
 | true =>
  simp only[if_true]at h3
  simp only[Pt.one,Pt.two,if_true]
  rw [← Nat.add_mul,show k+(t.h - k)=t.h by omega]
 | false =>
  simp only[qF,if_false]at h3
  simp only[Pt.one,Pt.two,qF,if_false]
  rw [← Nat.mul_add,show k+(t.w - k)=t.w by omega]
theorem zho:∀ (n:Nat) {t:Pt},t.In H W→t.h*t.w≤n→(zrx z t).1.length+1≤2*(t.h*t.w)∧(zrx z t).2=(zdq z t).isSome
 | 0,t,hi,hn=>by have:=Nat.mul_pos hi.1 hi.2.1; omega
 | n+1,t,hi,hn=>by
  have:=Nat.mul_pos hi.1 hi.2.1
  cases h1:zw4 z t with
  | true=>rw [z24 hi h1,zjz hi h1]; simp; omega
  | false =>
   cases hc:zd2 z t with
   | none=>rw [zyq hi h1 hc,zii hi h1 hc]; simp; omega
   | some q =>
    obtain ⟨i1,i2,a1,a2⟩:=hi.cut hc
    have ha:=z0v hc
    obtain ⟨b1,b2⟩:=zho n i1 (by omega)
    obtain ⟨c1,c2⟩:=zho n i2 (by omega)
    have p1:=Nat.mul_pos i1.1 i1.2.1
    rw [zm6 hi h1 hc,zge hi h1 hc]
    constructor
    ·simp only[List.length_append]
     have:(if q.1 then [(104:UInt8)] else [118]).length=1:=by split <;> rfl
     omega
    rw [b2,c2]
    cases zdq z (t.one q) <;> cases zdq z (t.two q) <;> rfl
def CT.leaves:CT→List Int
 | .leaf a=>[a]
 | .node _ x y=>x.leaves++y.leaves
theorem CT.pos (x:CT):1≤x.leaves.length:=by
 induction x with
 | leaf a=>simp [CT.leaves]
 | node lv x y h1 h2=>simp [CT.leaves]; omega
theorem zds (hz:yc3 z H W):∀ (n:Nat) {t:Pt} {x:CT},Whole z H W t→t.h*t.w≤n→zdq z t=some x →
  x.leaves.Nodup∧(∀ v,v∈x.leaves↔∃ a c,t.r≤a∧a<t.r+t.h∧t.c≤c∧c<t.c+t.w∧z a c=v)∧x.leaves.length≤t.h*t.w
 | 0,t,x,hw,hn,_=>by have:=Nat.mul_pos hw.inn.1 hw.inn.2.1; omega
 | n+1,t,x,hw,hn,hx=>by
  have hi:=hw.inn
  have hpos:=Nat.mul_pos hi.1 hi.2.1
  cases h1:zw4 z t with
  | true =>
   rw [zjz hi h1]at hx
   cases hx
   have hall:=zpc.1 h1
   refine ⟨by simp [CT.leaves],fun v=>?_,by simp [CT.leaves]; omega⟩
   simp only[CT.leaves,List.mem_singleton]
   constructor
   ·rintro rfl; exact ⟨t.r,t.c,by omega,by have:=hi.1; omega,by omega,by have:=hi.2.1; omega,rfl⟩
   rintro ⟨a,c,e1,e2,e3,e4,rfl⟩
   have:=hall (a - t.r) (c - t.c) (by omega) (by omega)
   rwa [show t.r+(a - t.r)=a by omega,show t.c+(c - t.c)=c by omega]at this
  | false =>
   cases hc:zd2 z t with
   | none=>rw [zii hi h1 hc]at hx; cases hx
   | some q =>
    obtain ⟨i1,i2,a1,a2⟩:=hi.cut hc
    obtain ⟨w1,w2⟩:=hw.cut hz hc
    have ha:=z0v hc
    rw [zge hi h1 hc]at hx
    cases hx1:zdq z (t.one q) with
    | none=>rw [hx1]at hx; cases hx
    | some x1 =>
     cases hx2:zdq z (t.two q) with
     | none=>rw [hx1,hx2]at hx; cases hx
     | some x2 =>
      rw [hx1,hx2]at hx
      cases hx
      obtain ⟨b1,b2,b3⟩:=zds hz n w1 (by omega) hx1
      obtain ⟨c1,c2,c3⟩:=zds hz n w2 (by omega) hx2
      obtain ⟨k1,k2⟩:=zeo hc
      refine ⟨?_,fun v=>?_,by simp [CT.leaves]; omega⟩
      ·simp only[CT.leaves,List.nodup_append]
       refine ⟨b1,c1,fun v hv u hu e=>?_⟩
       subst e
       obtain ⟨a,c,e1,e2,e3,e4,e5⟩:=(b2 v).1 hv
       obtain ⟨a',c',f1,f2,f3,f4,f5⟩:=(c2 v).1 hu
       have hin1:=i1; have hin2:=i2
       unfold Pt.In at hin1 hin2
       have:=w1.all a c a' c' (by omega) (by omega) (by omega) (by omega) (e5.trans f5.symm) e1 e2 e3 e4
       obtain ⟨lv,k⟩:=q
       cases lv <;> simp only[Pt.one,Pt.two,qF,if_false,if_true] at * <;> omega
      simp only[CT.leaves,List.mem_append,b2,c2]
      obtain ⟨lv,k⟩:=q
      cases lv with
      | true =>
       simp only[Pt.one,Pt.two,if_true] at *
       constructor
       ·rintro (⟨a,c,e1,e2,e3,e4,e5⟩ | ⟨a,c,e1,e2,e3,e4,e5⟩)
        ·exact ⟨a,c,e1,by omega,e3,e4,e5⟩
        exact ⟨a,c,by omega,by omega,e3,e4,e5⟩
       rintro ⟨a,c,e1,e2,e3,e4,e5⟩
       rcases Nat.lt_or_ge a (t.r+k) with h | h
       ·exact .inl ⟨a,c,e1,h,e3,e4,e5⟩
       exact .inr ⟨a,c,h,by omega,e3,e4,e5⟩
      | false =>
       simp only[Pt.one,Pt.two,qF,if_false] at *
       constructor
       ·rintro (⟨a,c,e1,e2,e3,e4,e5⟩ | ⟨a,c,e1,e2,e3,e4,e5⟩)
        ·exact ⟨a,c,e1,e2,e3,by omega,e5⟩
        exact ⟨a,c,e1,e2,by omega,by omega,e5⟩
       rintro ⟨a,c,e1,e2,e3,e4,e5⟩
       rcases Nat.lt_or_ge c (t.c+k) with h | h
       ·exact .inl ⟨a,c,e1,e2,e3,h,e5⟩
       exact .inr ⟨a,c,e1,e2,h,by omega,e5⟩
end
theorem zuk:∀ {n:Nat} {l:List Int},l.Nodup→(∀ x∈l,0≤x∧x<n)→l.length≤n
 | 0,l,_,hb=>by
  cases l with
  | nil=>simp
  | cons a l=>have:=hb a (by simp); omega
 | n+1,l,h,hb=>by
  by_cases hm:(n:Int)∈l
  ·obtain ⟨l1,l2,rfl⟩:=List.append_of_mem hm
   have hnd:=List.nodup_append.1 h
   have:=zuk (n:=n) (l:=l1++l2) (h.sublist (by simp)) fun x hx=>by
    have h1:=hb x (by rcases List.mem_append.1 hx with h9 | h9 <;> simp [h9])
    have h2:x≠n:=by
     rintro rfl
     rcases List.mem_append.1 hx with h9 | h9
     ·exact hnd.2.2 _ h9 _ (by simp) rfl
     exact (List.nodup_cons.1 hnd.2.1).1 h9
    omega
   simp at this ⊢; omega
  have:=zuk (n:=n) h fun x hx=>by
   have h1:=hb x hx
   have h2:x≠n:=by rintro rfl; exact hm hx
   omega
  omega
end
section
section
variable {c:Nat→Nat→Nat} {H W:Nat}
def z0f (c:Nat→Nat→Nat) (t:Pt) (i j:Nat):Nat:=c (t.r+i) (t.c+j)
theorem Pl.sub (h:Pl c H W) {t:Pt} (ht:t.In H W):Pl (z0f c t) t.h t.w:=by
 obtain ⟨t1,t2,t3,t4⟩:=ht
 constructor
 ·intro i j i' j' k l a b c' d e f1 f2 f3 f4
  exact h.rect (t.r+k) (t.c+l) (by omega) (by omega) (by omega) (by omega) e (by omega) (by omega) (by omega) (by omega)
 intro i j a b e1 e2 e3
 exact h.plain (i:=t.r+i) (j:=t.c+j) (by omega) (by omega) e1 e2 e3
theorem DL.sub {t:Pt} (ht:t.In H W) {a b:Nat} (h:DL (z0f c t) t.h t.w a b):DL c H W a b:=by
 obtain ⟨t1,t2,t3,t4⟩:=ht
 obtain ⟨j,i1,i2,a1,a2,a3,a4,a5,a6⟩:=h
 refine ⟨t.c+j,t.r+i1,t.r+i2,by omega,by omega,by omega,fun r h1 h2=>?_,a5,a6⟩
 have:=a4 (r - t.r) (by omega) (by omega)
 simp only[z0f]at this
 rwa [show t.r+(r - t.r)=r by omega]at this
theorem DU.sub {t:Pt} (ht:t.In H W) {a b:Nat} (h:DU (z0f c t) t.h t.w a b):DU c H W a b:=by
 obtain ⟨t1,t2,t3,t4⟩:=ht
 obtain ⟨i,j1,j2,a1,a2,a3,a4,a5,a6⟩:=h
 refine ⟨t.r+i,t.c+j1,t.c+j2,by omega,by omega,by omega,fun r h1 h2=>?_,a5,a6⟩
 have:=a4 (r - t.c) (by omega) (by omega)
 simp only[z0f]at this
 rwa [show t.c+(r - t.c)=r by omega]at this
end
section
variable {p:List Txt}
theorem z5x (hp:zb5 p=true) {t:Pt} (hw:Whole (zak p) p.length (zao p).length t) {q:Bool × Nat} (hq:zd2 (zak p) t=some q) {x y:CT} (hx:zdq (zak p) (t.one q)=some x) (hy:zdq (zak p) (t.two q)=some y) :
  ∀ a b,a∈x.leaves→b∈y.leaves→(q.1=false→Lf p a.toNat b.toNat)∧(q.1=true→Ab p a.toNat b.toNat):=by
 intro a b ha hb
 have hpl:=zd6 hp
 have hi:=hw.inn
 obtain ⟨i1,i2,_,_⟩:=hi.cut hq
 obtain ⟨w1,w2⟩:=hw.cut (zfx hpl) hq
 obtain ⟨_,m1,_⟩:=zds (zfx hpl) _ w1 (qR _) hx
 obtain ⟨_,m2,_⟩:=zds (zfx hpl) _ w2 (qR _) hy
 obtain ⟨r1,c1,e1,e2,e3,e4,e5⟩:=(m1 a).1 ha
 obtain ⟨r2,c2,f1,f2,f3,f4,f5⟩:=(m2 b).1 hb
 have hin:=hi
 unfold Pt.In at hin i1 i2
 have hP:=(zzw hp).sub hi
 obtain ⟨k1,k2⟩:=zeo hq
 obtain ⟨lv,k⟩:=q
 have hra:=zei hpl (i:=r1) (j:=c1) (by omega) (by omega)
 have hrb:=zei hpl (i:=r2) (j:=c2) (by omega) (by omega)
 have ca:=zg9 hpl (i:=r1) (j:=c1) (by omega) (by omega)
 have cb:=zg9 hpl (i:=r2) (j:=c2) (by omega) (by omega)
 have ha':a.toNat<(rP p).length:=by omega
 have hb':b.toNat<(rP p).length:=by omega
 have ea:cn (gP p) r1 c1=a.toNat:=by omega
 have eb:cn (gP p) r2 c2=b.toNat:=by omega
 have cz:∀ i j,i<p.length→j<(zao p).length→(cn (gP p) i j:Int)=zak p i j:=fun i j h1 h2=>zg9 hpl h1 h2
 constructor
 ·rintro rfl
  simp only[qF,if_false]at k2
  simp only[Pt.one,Pt.two,qF,if_false] at *
  have hth:=zvg.1 k2.2
  have hT:Thru (z0f (cn (gP p)) t) t.h k:=by
   intro r hr e
   have:=hth r hr
   have g1:=cz (t.r+r) (t.c+k - 1) (by omega) (by omega)
   have g2:=cz (t.r+r) (t.c+k) (by omega) (by omega)
   simp only[z0f]at e
   rw [show t.c+(k - 1)=t.c+k - 1 by omega]at e
   omega
  have h:=zyn hP k1 k2.1 hT (i:=r1 - t.r) (j:=c1 - t.c) (i':=r2 - t.r) (j':=c2 - t.c) (by omega) (by omega) (by omega) (by omega) (by omega)
  have h2:TC (DL (cn (gP p)) p.length (zao p).length) (z0f (cn (gP p)) t (r1 - t.r) (c1 - t.c)) (z0f (cn (gP p)) t (r2 - t.r) (c2 - t.c)):=h.mono fun a b hd=>DL.sub hi hd
  simp only[z0f]at h2
  rw [show t.r+(r1 - t.r)=r1 by omega,show t.c+(c1 - t.c)=c1 by omega,show t.r+(r2 - t.r)=r2 by omega,show t.c+(c2 - t.c)=c2 by omega,ea,eb]at h2
  exact (Lf.iff ha' hb').2 h2
 rintro rfl
 simp only[if_true]at k2
 simp only[Pt.one,Pt.two,if_true] at *
 have hth:=zvf.1 k2.2
 have hT:Thru (tr (z0f (cn (gP p)) t)) t.w k:=by
  intro r hr e
  have:=hth r hr
  have g1:=cz (t.r+k - 1) (t.c+r) (by omega) (by omega)
  have g2:=cz (t.r+k) (t.c+r) (by omega) (by omega)
  simp only[tr,z0f]at e
  rw [show t.r+(k - 1)=t.r+k - 1 by omega]at e
  omega
 have h:=zyn hP.ex k1 k2.1 hT (i:=c1 - t.c) (j:=r1 - t.r) (i':=c2 - t.c) (j':=r2 - t.r) (by omega) (by omega) (by omega) (by omega) (by omega)
 have h2:TC (DU (cn (gP p)) p.length (zao p).length) (z0f (cn (gP p)) t (r1 - t.r) (c1 - t.c)) (z0f (cn (gP p)) t (r2 - t.r) (c2 - t.c)):=h.mono fun a b hd=>DU.sub hi hd.ex
 simp only[z0f]at h2
 rw [show t.r+(r1 - t.r)=r1 by omega,show t.c+(c1 - t.c)=c1 by omega,show t.r+(r2 - t.r)=r2 by omega,show t.c+(c2 - t.c)=c2 by omega,ea,eb]at h2
 exact (Ab.iff ha' hb').2 h2
end
inductive Ch (M:List (List Bool)) (ws:List Int) (a:Nat):Nat→Int→Prop
 | one:Ch M ws a a (zjk ws a)
 | snoc {b d:Nat} {s:Int}:Ch M ws a b s→zc7 M b d=true→Ch M ws a d (s+zjk ws d)
section
variable {M:List (List Bool)} {ws:List Int} {n:Nat} {rk:Nat→Nat}
theorem Ch.le (hu:Up M n rk) (hsq:∀ a b,zc7 M a b=true→a<n) {a b:Nat} {s:Int} (h:Ch M ws a b s):b<n→s≤HB M ws n b:=by
 induction h with
 | one=>intro hb; rw [ybv hu hb]; have:=yfv (M:=M) (ws:=ws) (n:=n) a; omega
 | snoc k hk ih =>
  intro hb
  have h1:=ih (hsq _ _ hk)
  have h2:=yfu (ws:=ws) (hsq _ _ hk) hk
  rw [ybv hu hb]; omega
end
section
variable {p:List Txt}
end
end
section
inductive Sp (L U:Nat→Nat→Prop):(Nat→Prop)→Prop
 | one {A:Nat→Prop} (a:Nat):A a→(∀ b,A b→b=a)→Sp L U A
 | left {A:Nat→Prop} (B:Nat→Prop):(∃ a,A a∧B a)→(∃ a,A a∧¬ B a)→(∀ a b,A a→B a→A b→¬ B b→L a b)→Sp L U (fun a=>A a∧B a)→Sp L U (fun a=>A a∧¬ B a)→Sp L U A
 | up {A:Nat→Prop} (B:Nat→Prop):(∃ a,A a∧B a)→(∃ a,A a∧¬ B a)→(∀ a b,A a→B a→A b→¬ B b→U a b)→Sp L U (fun a=>A a∧B a)→Sp L U (fun a=>A a∧¬ B a)→Sp L U A
theorem Sp.congr {L U:Nat→Nat→Prop} {A A':Nat→Prop} (h:Sp L U A) (e:∀ a,A a↔A' a):Sp L U A':=by
 have:A=A':=funext fun a=>propext (e a)
 rwa [← this]
theorem Sp.ne {L U:Nat→Nat→Prop} {A:Nat→Prop} (h:Sp L U A):∃ a,A a:=by
 cases h with
 | one a h _=>exact ⟨a,h⟩
 | left B h=>obtain ⟨a,h,_⟩:=h; exact ⟨a,h⟩
 | up B h=>obtain ⟨a,h,_⟩:=h; exact ⟨a,h⟩
theorem Sp.map {L U L' U':Nat→Nat→Prop} {A:Nat→Prop} (g:Nat→Nat) (h:Sp L U A):∀ {A':Nat→Prop},(∀ i,A' i→A (g i))→(∀ a,A a→∃ i,A' i∧g i=a)→(∀ i j,A' i→A' j→g i=g j→i=j) →
  (∀ i j,A' i→A' j→L (g i) (g j)→L' i j)→(∀ i j,A' i→A' j→U (g i) (g j)→U' i j)→Sp L' U' A':=by
 induction h with
 | one a ha hu =>
  intro A' h1 h2 h3 h4 h5
  obtain ⟨i,hi,e⟩:=h2 a ha
  exact .one i hi fun j hj=>h3 j i hj hi ((hu _ (h1 j hj)).trans e.symm)
 | left B hb hn hl _ _ i1 i2 =>
  intro A' h1 h2 h3 h4 h5
  refine .left (fun i=>B (g i)) ?_ ?_ (fun a b ha hba hb' hnb=>h4 a b ha hb' (hl _ _ (h1 a ha) hba (h1 b hb') hnb)) (i1 (fun i hi=>⟨h1 i hi.1,hi.2⟩) (fun a ha=>?_) (fun i j hi hj=>h3 i j hi.1 hj.1) (fun i j hi hj=>h4 i j hi.1 hj.1) fun i j hi hj=>h5 i j hi.1 hj.1)
   (i2 (fun i hi=>⟨h1 i hi.1,hi.2⟩) (fun a ha=>?_) (fun i j hi hj=>h3 i j hi.1 hj.1) (fun i j hi hj=>h4 i j hi.1 hj.1) fun i j hi hj=>h5 i j hi.1 hj.1)
  ·obtain ⟨a,ha,hb⟩:=hb; obtain ⟨i,hi,e⟩:=h2 a ha; exact ⟨i,hi,by rw [e]; exact hb⟩
  ·obtain ⟨a,ha,hb⟩:=hn; obtain ⟨i,hi,e⟩:=h2 a ha; exact ⟨i,hi,by rw [e]; exact hb⟩
  ·obtain ⟨i,hi,e⟩:=h2 a ha.1; exact ⟨i,⟨hi,by rw [e]; exact ha.2⟩,e⟩
  obtain ⟨i,hi,e⟩:=h2 a ha.1; exact ⟨i,⟨hi,by rw [e]; exact ha.2⟩,e⟩
 | up B hb hn hl _ _ i1 i2 =>
  intro A' h1 h2 h3 h4 h5
  refine .up (fun i=>B (g i)) ?_ ?_ (fun a b ha hba hb' hnb=>h5 a b ha hb' (hl _ _ (h1 a ha) hba (h1 b hb') hnb)) (i1 (fun i hi=>⟨h1 i hi.1,hi.2⟩) (fun a ha=>?_) (fun i j hi hj=>h3 i j hi.1 hj.1) (fun i j hi hj=>h4 i j hi.1 hj.1) fun i j hi hj=>h5 i j hi.1 hj.1)
   (i2 (fun i hi=>⟨h1 i hi.1,hi.2⟩) (fun a ha=>?_) (fun i j hi hj=>h3 i j hi.1 hj.1) (fun i j hi hj=>h4 i j hi.1 hj.1) fun i j hi hj=>h5 i j hi.1 hj.1)
  ·obtain ⟨a,ha,hb⟩:=hb; obtain ⟨i,hi,e⟩:=h2 a ha; exact ⟨i,hi,by rw [e]; exact hb⟩
  ·obtain ⟨a,ha,hb⟩:=hn; obtain ⟨i,hi,e⟩:=h2 a ha; exact ⟨i,hi,by rw [e]; exact hb⟩
  ·obtain ⟨i,hi,e⟩:=h2 a ha.1; exact ⟨i,⟨hi,by rw [e]; exact ha.2⟩,e⟩
  obtain ⟨i,hi,e⟩:=h2 a ha.1; exact ⟨i,⟨hi,by rw [e]; exact ha.2⟩,e⟩
theorem Sp.sub {L U:Nat→Nat→Prop} {A:Nat→Prop} (h:Sp L U A):∀ {A':Nat→Prop},(∀ a,A' a→A a)→(∃ a,A' a)→Sp L U A':=by
 induction h with
 | one a ha hu =>
  intro A' h1 ⟨b,hb⟩
  exact .one b hb fun d hd=>(hu d (h1 d hd)).trans (hu b (h1 b hb)).symm
 | left B _ _ hl _ _ i1 i2 =>
  intro A' h1 h2
  by_cases hb:∃ a,A' a∧B a
  ·by_cases hn:∃ a,A' a∧¬ B a
   ·exact .left B hb hn (fun a b ha hba hb' hnb=>hl a b (h1 a ha) hba (h1 b hb') hnb) (i1 (fun a ha=>⟨h1 a ha.1,ha.2⟩) hb) (i2 (fun a ha=>⟨h1 a ha.1,ha.2⟩) hn)
   exact i1 (fun a ha=>⟨h1 a ha,Classical.byContradiction fun h=>hn ⟨a,ha,h⟩⟩) h2
  exact i2 (fun a ha=>⟨h1 a ha,fun h=>hb ⟨a,ha,h⟩⟩) h2
 | up B _ _ hl _ _ i1 i2 =>
  intro A' h1 h2
  by_cases hb:∃ a,A' a∧B a
  ·by_cases hn:∃ a,A' a∧¬ B a
   ·exact .up B hb hn (fun a b ha hba hb' hnb=>hl a b (h1 a ha) hba (h1 b hb') hnb) (i1 (fun a ha=>⟨h1 a ha.1,ha.2⟩) hb) (i2 (fun a ha=>⟨h1 a ha.1,ha.2⟩) hn)
   exact i1 (fun a ha=>⟨h1 a ha,Classical.byContradiction fun h=>hn ⟨a,ha,h⟩⟩) h2
  exact i2 (fun a ha=>⟨h1 a ha,fun h=>hb ⟨a,ha,h⟩⟩) h2
section
variable {p:List Txt}
def Rms (p:List Txt) (t:Pt) (v:Nat):Prop:=∃ a c,t.r≤a∧a<t.r+t.h∧t.c≤c∧c<t.c+t.w∧zak p a c=v
theorem z2n (hp:zbs p=true) {t:Pt} (h:t.In p.length (zao p).length) {v:Nat} (hv:Rms p t v):v<(rP p).length:=by
 obtain ⟨a,c,e1,e2,e3,e4,e5⟩:=hv
 unfold Pt.In at h
 have:=zei hp (i:=a) (j:=c) (by omega) (by omega)
 omega
theorem zpa (hp:zbs p=true) {t:Pt} (hw:Whole (zak p) p.length (zao p).length t) {x:CT} (hx:zdq (zak p) t=some x) (v:Nat):(v:Int)∈x.leaves↔Rms p t v :=
 (zds (zfx hp) _ hw (qR _) hx).2.1 v
theorem yc6 (hp:zbs p=true) (v:Nat):Rms p ⟨0,0,p.length,(zao p).length⟩ v↔v<(rP p).length:=by
 constructor
 ·exact z2n hp (zna hp).inn
 intro hv
 obtain ⟨i,j,hi,hj,e⟩:=zrj hv
 have:=zg9 hp hi hj
 exact ⟨i,j,Nat.zero_le _,by simpa using hi,Nat.zero_le _,by simpa using hj,by omega⟩
end
end
section
section
variable {c:Nat→Nat→Nat} {H W:Nat}
theorem DU.rows (h:Pl c H W) {u v:Nat} (hd:DU c H W u v) {i j i' j':Nat} (hi:i<H) (hj:j<W) (hi':i'<H) (hj':j'<W) (hu:c i j=u) (hv:c i' j'=v):i<i':=by
 obtain ⟨l,j1,j2,a1,a2,a3,a4,a5,a6⟩:=hd
 have k1:i≤l:=by
  refine Nat.le_of_not_lt fun hlt=>a4 j1 (by omega) (by omega) ?_
  have:=h.rect (i:=i) (j:=j) (i':=l) (j':=j1) (l+1) j1 hi (by omega) hj a2 (by rw [hu,a5]) (by omega) (by omega) (by omega) (by omega)
  rw [this,hu,a5]
 have k2:l+1≤i':=by
  refine Nat.le_of_not_lt fun hlt=>a4 j2 (by omega) (by omega) ?_
  have:=h.rect (i:=i') (j:=j') (i':=l+1) (j':=j2) l j2 hi' (by omega) hj' a3 (by rw [hv,a6]) (by omega) (by omega) (by omega) (by omega)
  rw [this,hv,a6]
 omega
theorem TCU.rows (h:Pl c H W) {u v:Nat} (hd:TC (DU c H W) u v):∀ {i j i' j':Nat},i<H→j<W→i'<H→j'<W→c i j=u→c i' j'=v→i<i':=by
 induction hd with
 | one hd=>exact DU.rows h hd
 | tail _ k ih =>
  intro i j i' j' hi hj hi' hj' hu hv
  obtain ⟨l,j1,j2,a1,a2,a3,a4,a5,a6⟩:=id k
  have h1:=ih hi hj (show l<H by omega) a2 hu a5.symm
  have h2:=DU.rows h k (show l<H by omega) a2 hi' hj' a5.symm hv
  omega
end
section
variable {p:List Txt}
theorem DL.lt (hp:zb5 p=true) {a b:Nat} (h:DL (cn (gP p)) p.length (zao p).length a b):a<(rP p).length∧b<(rP p).length:=by
 obtain ⟨j,i1,i2,h1,h2,h3,-,rfl,rfl⟩:=h
 exact ⟨zry zhd h2 (by omega),zry zhd h3 h1⟩
theorem DU.lt (hp:zb5 p=true) {a b:Nat} (h:DU (cn (gP p)) p.length (zao p).length a b):a<(rP p).length∧b<(rP p).length:=by
 obtain ⟨j,i1,i2,h1,h2,h3,-,rfl,rfl⟩:=h
 exact ⟨zry zhd (by omega) h2,zry zhd h1 h3⟩
end
end
section
def Tight (a b c d:Int):Prop:=(c<a∧a<d∧d<b)∨(b<d∧d<a∧a<c)
def Avoid (v:Nat→Int) (A:Nat→Prop):Prop:=∀ a b c d,A a→A b→A c→A d→a<b→b<c→c<d→¬ Tight (v a) (v b) (v c) (v d)
def Inj (v:Nat→Int) (A:Nat→Prop):Prop:=∀ a b,A a→A b→v a=v b→a=b
def LS (v:Nat→Int) (A B:Nat→Prop):Prop:=(∃ a,A a∧B a)∧(∃ a,A a∧¬ B a)∧∀ a b,A a→B a→A b→¬ B b→a<b∧v a<v b
def DS (v:Nat→Int) (A B:Nat→Prop):Prop:=(∃ a,A a∧B a)∧(∃ a,A a∧¬ B a)∧∀ a b,A a→B a→A b→¬ B b→a<b∧v b<v a
theorem LS.neg {v:Nat→Int} {A B:Nat→Prop} (h:LS (fun i => -v i) A B):DS v A B :=
 ⟨h.1,h.2.1,fun a b h1 h2 h3 h4=>by have:=h.2.2 a b h1 h2 h3 h4; simp only at this; omega⟩
theorem DS.neg {v:Nat→Int} {A B:Nat→Prop} (h:DS (fun i => -v i) A B):LS v A B :=
 ⟨h.1,h.2.1,fun a b h1 h2 h3 h4=>by have:=h.2.2 a b h1 h2 h3 h4; simp only at this; omega⟩
theorem DS.pos {v:Nat→Int} {A B:Nat→Prop} (h:DS v A B):LS (fun i => -v i) A B :=
 ⟨h.1,h.2.1,fun a b h1 h2 h3 h4=>by have:=h.2.2 a b h1 h2 h3 h4; refine ⟨this.1,?_⟩; show -v a < -v b; omega⟩
theorem Avoid.neg {v:Nat→Int} {A:Nat→Prop} (h:Avoid v A):Avoid (fun i => -v i) A:=fun a b c d h1 h2 h3 h4 h5 h6 h7 k =>
 h a b c d h1 h2 h3 h4 h5 h6 h7 (by unfold Tight at k ⊢; simp only at k; omega)
theorem Inj.neg {v:Nat→Int} {A:Nat→Prop} (h:Inj v A):Inj (fun i => -v i) A:=fun a b h1 h2 h3=>h a b h1 h2 (by simp only at h3; omega)
theorem Avoid.sub {v:Nat→Int} {A A':Nat→Prop} (h:Avoid v A) (k:∀ a,A' a→A a):Avoid v A':=fun a b c d h1 h2 h3 h4=>h a b c d (k a h1) (k b h2) (k c h3) (k d h4)
theorem Inj.sub {v:Nat→Int} {A A':Nat→Prop} (h:Inj v A) (k:∀ a,A' a→A a):Inj v A':=fun a b h1 h2=>h a b (k a h1) (k b h2)
section
variable {l:List Int}
end
end
theorem z1o {p:List Txt} (hs:Sm p) (hg:zcw p=true):PC Tryz.prog 95 [zay p] (.bool (z9p p)) true:=by
 have hp:=hs.rows
 have hsm:=zbl hg
 obtain ⟨row0,hrow0,hrm0⟩:=zag hsm.1
 have hhd:=zcu hrow0
 have hw6:=hsm.2.2 row0 hrm0
 have hw1:=zfg hg hrow0
 obtain ⟨c0,hc0,-⟩:=zag (show 0<row0.length by omega)
 have hone:z9p p=p.all (fun row=>row.all fun c=>decide (c=c0)):=by simp [z9p,hhd,hc0]
 refine PC.of ⟨Tryz.func95,by kernel_rfl,rfl,by kernel_rfl⟩ zap mixed (by show 1≤Tryz.f95.ntmps; decide) ?_
 refine W.r fun K hK=>?_
 simp(disch:=omega)only[↓RU,RV,RH,↓reduceIte,qE,reduceCtorEq,if_pos]
 apply hK;clear hK K
 refine W.seq ?_
 refine W.r fun K hK=>?_
 simp(disch:=omega)only[↓RU,RV,RH,↓reduceIte,qE,reduceCtorEq,if_pos]
 apply hK;clear hK K
 refine W.block ?_
 refine W.loop [0,3] (fun n vs S=>∃ i:Nat,n=p.length - i∧i≤p.length∧((p.take i).all (fun row=>row.all fun c=>decide (c=c0))=true)∧vs=[zay p,.int .i64 i]∧S=⟨[],0⟩) (p.length) ?_ ?_
 ·refine ⟨0,0,rfl,Nat.zero_le _,rfl,?_,rfl⟩
  simp [Env.put,Env.of,zae]
 rintro n vs S - ⟨i,rfl,h_i,hall,rfl,rfl⟩
 refine W.seq ?_
 refine W.r fun K hK=>?_
 simp(disch:=omega)only[↓RU,RV,RH,↓reduceIte,qE,reduceCtorEq,if_pos,w64,ty6,zaa,zab]
 apply hK;clear hK K
 refine W.cond rfl (fun h=>?_) (fun h=>?_)
 ·try simp only[RL]at h
  obtain ⟨row,hrow,hrm⟩:=zag (show i<p.length by omega)
  have hrl:=hsm.2.2 row hrm
  refine W.skip ?_
  refine xn ?_
  refine W.seq ?_
  refine W.block ?_
  refine W.r fun K hK=>?_
  simp(disch:=omega)only[↓RU,RV,RH,↓reduceIte,qE,reduceCtorEq,if_pos]
  apply hK;clear hK K
  refine W.block ?_
  refine W.loop [0,3,4] (fun n vs S=>∃ k:Nat,n=row.length - k∧k≤row.length∧((row.take k).all (fun c=>decide (c=c0))=true)∧vs=[zay p,.int .i64 i,.int .i64 k]∧S=⟨[],0⟩) (row.length) ?_ ?_
  ·refine ⟨0,0,rfl,Nat.zero_le _,rfl,?_,rfl⟩
   simp [Env.put,Env.of]
  rintro n vs S - ⟨k,rfl,h_k,hr2,rfl,rfl⟩
  refine W.seq ?_
  refine W.r fun K hK=>?_
  simp(disch:=omega)only[↓RU,RV,RH,↓reduceIte,qE,reduceCtorEq,if_pos,w64,ty6,zaa,zab,hrow]
  apply hK;clear hK K
  refine W.cond rfl (fun h1=>?_) (fun h1=>?_)
  ·try simp only[RL]at h1
   obtain ⟨c,hc,hcm⟩:=zag (show k<row.length by omega)
   refine W.skip ?_
   refine xn ?_
   refine W.seq ?_
   refine W.block ?_
   refine W.seq_draw (by kernel_rfl) fun K hK=>?_
   simp(disch:=omega)only[↓RU,RV,RH,↓reduceIte,qE,reduceCtorEq,if_pos,w64,ty6,zab,zce,hrow,hc,hrow0,hc0,Int.toNat_zero,Nat.zero_mul,qZ]
   apply hK;clear hK K
   refine W.cond rfl (fun h2=>?_) (fun h2=>?_)
   ·try simp only[RL]at h2
    have hne:¬ c=c0:=by rintro rfl; simp at h2
    refine W.r fun K hK=>?_
    simp(disch:=omega)only[↓RU,RV,RH,↓reduceIte,qE,reduceCtorEq,if_pos]
    apply hK;clear hK K
    refine W.ret ?_
    refine XBlock.ret ?_
    refine XThen.ret ?_
    refine XThen.ret ?_
    refine XBlock.ret ?_
    refine XBlock.ret ?_
    refine XThen.ret ?_
    refine XThen.ret ?_
    refine XBlock.ret ?_
    refine XThen.ret ?_
    refine Br rfl ?_
    have:z9p p=false:=by rw [hone,List.all_eq_false]; exact ⟨row,hrm,by simp only[Bool.not_eq_true,List.all_eq_false]; exact ⟨c,hcm,by simpa using hne⟩⟩
    rw [this]
    rfl
   try simp only[RL]at h2
   have heq:c=c0:=by simpa [ybg] using h2
   refine W.skip ?_
   refine XbN ?_
   refine xn ?_
   refine W.k fun K hK=>?_
   simp(disch:=omega)only[↓RU,RV,RH,↓reduceIte,qE,reduceCtorEq,if_pos,w64,zaa]
   apply hK;clear hK K
   refine xn ?_
   refine ⟨row.length - (k+1),by omega,0,k+1,rfl,by omega,zsc hc hr2 (decide_eq_true heq),?_,rfl⟩
   simp [Env.put,Env.of]
  try simp only[RL]at h1
  have hrk:k=row.length:=by omega
  rw [hrk,List.take_length]at hr2
  refine W.exit ?_
  refine xe ?_
  refine xe ?_
  refine XBlock.hit ?_
  refine XbN ?_
  refine xn ?_
  refine W.k fun K hK=>?_
  simp(disch:=omega)only[↓RU,RV,RH,↓reduceIte,qE,reduceCtorEq,if_pos,w64,zaa]
  apply hK;clear hK K
  refine xn ?_
  refine ⟨p.length - (i+1),by omega,0,i+1,rfl,by omega,zsc hrow hall hr2,?_,rfl⟩
  simp [Env.put,Env.of]
 try simp only[RL]at h
 refine W.exit ?_
 refine xe ?_
 refine xe ?_
 refine XBlock.hit ?_
 refine xn ?_
 refine W.r fun K hK=>?_
 simp(disch:=omega)only[↓RU,RV,RH,↓reduceIte,qE,reduceCtorEq,if_pos]
 apply hK;clear hK K
 refine W.ret ?_
 refine Br rfl ?_
 have hip:i=p.length:=by omega
 rw [hip,List.take_length]at hall
 rw [hone,hall]
 rfl
theorem zma {p:List Txt} (hs:Sm p) (hg:zcw p=true):PC Tryz.prog 96 [zay p] (.tup [.int .i64 (z9o p).1,.int .i64 (z9o p).2]) true:=by
 have hp:=hs.rows
 have hsm:=zbl hg
 obtain ⟨row0,hrow0,hrm0⟩:=zag hsm.1
 have hhd:=zcu hrow0
 have hw6:=hsm.2.2 row0 hrm0
 have hw1:=zfg hg hrow0
 obtain ⟨c0,hc0,-⟩:=zag (show 0<row0.length by omega)
 have hgt:=z43 hg
 have hst:=Sm.grid hgt
 have hsmt:=zbl hgt
 have htl:=zjy (p:=p)
 have hth:=zpp (p:=p) (by rw [hhd]; omega)
 have hul:(uprights p).length≤100:=by have h1:=zm9 p (zao p).length; have h2:(p.length+1)*(zao p).length≤7*6:=Nat.mul_le_mul (by omega) (by rw [hhd]; omega); unfold uprights; omega
 have hvl:(uprights (zde p)).length≤100:=by have h1:=zm9 (zde p) (zao (zde p)).length; have h2:((zde p).length+1)*(zao (zde p)).length≤7*6:=Nat.mul_le_mul (by omega) (by omega); unfold uprights; omega
 refine PC.of ⟨Tryz.func96,by kernel_rfl,rfl,by kernel_rfl⟩ zap mixed (by show 1≤Tryz.f96.ntmps; decide) ?_
 refine W.r fun K hK=>?_
 simp(disch:=omega)only[↓RU,RV,RH,↓reduceIte,qE,reduceCtorEq,if_pos]
 apply hK;clear hK K
 refine W.r fun K hK=>?_
 simp(disch:=omega)only[↓RU,RV,RH,↓reduceIte,qE,reduceCtorEq,if_pos,qN]
 refine zac.pc (zoi hs hg) rfl (.inr rfl) ?_
 simp(disch:=omega)only[↓RU,RV,RH,↓reduceIte,qE,reduceCtorEq,if_pos,qN]
 apply hK;clear hK K
 refine W.seq ?_
 refine W.r fun K hK=>?_
 simp(disch:=omega)only[↓RU,RV,RH,↓reduceIte,qE,reduceCtorEq,if_pos]
 apply hK;clear hK K
 refine W.block ?_
 refine W.loop [0,4,5] (fun n vs S=>∃ i:Nat,n=(uprights p).length - i∧i≤(uprights p).length∧(((uprights p).take i).find? (zfm p.length)=none)∧vs=[zay p,.sl ((uprights p).map eInts) (uprights p).length,.int .i64 i]∧S=⟨[],0⟩) ((uprights p).length) ?_ ?_
 ·refine ⟨0,0,rfl,Nat.zero_le _,rfl,?_,rfl⟩
  simp [Env.put,Env.of,zae]
 rintro n vs S - ⟨i,rfl,h_i,hno,rfl,rfl⟩
 refine W.seq ?_
 refine W.r fun K hK=>?_
 simp(disch:=omega)only[↓RU,RV,RH,↓reduceIte,qE,reduceCtorEq,if_pos,w64,ty1,zad,zaa]
 apply hK;clear hK K
 refine W.cond rfl (fun h=>?_) (fun h=>?_)
 ·try simp only[RL]at h
  obtain ⟨u,hu,hum⟩:=zag (show i<(uprights p).length by omega)
  obtain ⟨k,f,l,rfl,hk⟩:=ycz hum
  refine W.skip ?_
  refine xn ?_
  refine W.seq ?_
  refine W.block ?_
  refine W.r fun K hK=>?_
  simp(disch:=omega)only[↓RU,RV,RH,↓reduceIte,qE,reduceCtorEq,if_pos,w64,ty1,zad,ty6,zaa,zab,hu]
  apply hK;clear hK K
  refine W.cond rfl (fun h1=>?_) (fun h1=>?_)
  ·try simp only[RL]at h1
   have hlong:zfm p.length [(k:Int),(f:Int),(l:Int)]=true:=by simp [zfm,zjk]; omega
   refine W.seq_draw (by kernel_rfl) fun K hK=>?_
   simp(disch:=omega)only[↓RU,RV,RH,↓reduceIte,qE,reduceCtorEq,if_pos,ty1,zad,zaa,hu]
   apply hK;clear hK K
   refine W.ret ?_
   refine XBlock.ret ?_
   refine XThen.ret ?_
   refine XThen.ret ?_
   refine XBlock.ret ?_
   refine XThen.ret ?_
   refine Br rfl ?_
   rw [show z9o p=(0,(k:Int)) by unfold z9o; rw [zwj hu hno hlong]; rfl]
   rfl
  try simp only[RL]at h1
  have hlong:zfm p.length [(k:Int),(f:Int),(l:Int)]=false:=by simp [zfm,zjk]; omega
  refine W.skip ?_
  refine XbN ?_
  refine xn ?_
  refine W.k fun K hK=>?_
  simp(disch:=omega)only[↓RU,RV,RH,↓reduceIte,qE,reduceCtorEq,if_pos,w64,zaa]
  apply hK;clear hK K
  refine xn ?_
  refine ⟨(uprights p).length - (i+1),by omega,0,i+1,rfl,by omega,zog hu hno hlong,?_,rfl⟩
  simp [Env.put,Env.of]
 try simp only[RL]at h
 have hip:i=(uprights p).length:=by omega
 rw [hip,List.take_length]at hno
 refine W.exit ?_
 refine xe ?_
 refine xe ?_
 refine XBlock.hit ?_
 refine xn ?_
 refine W.r fun K hK=>?_
 simp(disch:=omega)only[↓RU,RV,RH,↓reduceIte,qE,reduceCtorEq,if_pos,qN]
 refine zac.pc (z3y hs hg) rfl (.inl rfl) ?_
 simp(disch:=omega)only[↓RU,RV,RH,↓reduceIte,qE,reduceCtorEq,if_pos,qN]
 refine zac.pc (zoi hst hgt) rfl (.inr rfl) ?_
 simp(disch:=omega)only[↓RU,RV,RH,↓reduceIte,qE,reduceCtorEq,if_pos,qN]
 apply hK;clear hK K
 refine W.seq ?_
 refine W.r fun K hK=>?_
 simp(disch:=omega)only[↓RU,RV,RH,↓reduceIte,qE,reduceCtorEq,if_pos]
 apply hK;clear hK K
 refine W.block ?_
 refine W.loop [0,6,7] (fun n vs S=>∃ i:Nat,n=(uprights (zde p)).length - i∧i≤(uprights (zde p)).length∧(((uprights (zde p)).take i).find? (zfm (zao p).length)=none)∧vs=[zay p,.sl ((uprights (zde p)).map eInts) (uprights (zde p)).length,.int .i64 i]∧S=⟨[],0⟩) ((uprights (zde p)).length) ?_ ?_
 ·refine ⟨0,0,rfl,Nat.zero_le _,rfl,?_,rfl⟩
  simp [Env.put,Env.of,zae]
 rintro n vs S - ⟨i,rfl,h_i,hno2,rfl,rfl⟩
 refine W.seq ?_
 refine W.r fun K hK=>?_
 simp(disch:=omega)only[↓RU,RV,RH,↓reduceIte,qE,reduceCtorEq,if_pos,w64,ty1,zad,zaa]
 apply hK;clear hK K
 refine W.cond rfl (fun h=>?_) (fun h=>?_)
 ·try simp only[RL]at h
  obtain ⟨u,hu,hum⟩:=zag (show i<(uprights (zde p)).length by omega)
  obtain ⟨k,f,l,rfl,hk⟩:=ycz hum
  refine W.skip ?_
  refine xn ?_
  refine W.seq ?_
  refine W.block ?_
  refine W.seq_draw (by kernel_rfl) fun K hK=>?_
  simp(disch:=omega)only[↓RU,RV,RH,↓reduceIte,qE,reduceCtorEq,if_pos,w64,ty1,zad,ty6,zaa,zab,hu,hrow0,Int.toNat_zero,Nat.zero_mul,qZ]
  apply hK;clear hK K
  refine W.cond rfl (fun h1=>?_) (fun h1=>?_)
  ·try simp only[RL]at h1
   have hlong:zfm (zao p).length [(k:Int),(f:Int),(l:Int)]=true:=by simp [zfm,zjk,hhd]; omega
   refine W.seq_draw (by kernel_rfl) fun K hK=>?_
   simp(disch:=omega)only[↓RU,RV,RH,↓reduceIte,qE,reduceCtorEq,if_pos,ty1,zad,zaa,hu]
   apply hK;clear hK K
   refine W.ret ?_
   refine XBlock.ret ?_
   refine XThen.ret ?_
   refine XThen.ret ?_
   refine XBlock.ret ?_
   refine XThen.ret ?_
   refine Br rfl ?_
   rw [show z9o p=(1,(k:Int)) by unfold z9o; rw [hno,zwj hu hno2 hlong]; rfl]
   rfl
  try simp only[RL]at h1
  have hlong:zfm (zao p).length [(k:Int),(f:Int),(l:Int)]=false:=by simp [zfm,zjk,hhd]; omega
  refine W.skip ?_
  refine XbN ?_
  refine xn ?_
  refine W.k fun K hK=>?_
  simp(disch:=omega)only[↓RU,RV,RH,↓reduceIte,qE,reduceCtorEq,if_pos,w64,zaa]
  apply hK;clear hK K
  refine xn ?_
  refine ⟨(uprights (zde p)).length - (i+1),by omega,0,i+1,rfl,by omega,zog hu hno2 hlong,?_,rfl⟩
  simp [Env.put,Env.of]
 try simp only[RL]at h
 have hip:i=(uprights (zde p)).length:=by omega
 rw [hip,List.take_length]at hno2
 refine W.exit ?_
 refine xe ?_
 refine xe ?_
 refine XBlock.hit ?_
 refine xn ?_
 refine W.r fun K hK=>?_
 simp(disch:=omega)only[↓RU,RV,RH,↓reduceIte,qE,reduceCtorEq,if_pos]
 apply hK;clear hK K
 refine W.ret ?_
 refine Br rfl ?_
 rw [show z9o p=(0,0) by unfold z9o; rw [hno,hno2]]
 rfl
theorem yea {p:List Txt} {i k:Nat} {row:Txt} (h:p[i]?=some row):zgz (p.take (i+1)) (false,k)=zgz (p.take i) (false,k)++[row.take k]:=by simp [zgz,tk h]
theorem yeb {p:List Txt} {i k:Nat} {row:Txt} (h:p[i]?=some row):zg0 (p.take (i+1)) (false,k)=zg0 (p.take i) (false,k)++[row.drop k]:=by simp [zg0,tk h]
theorem z7w {p:List Txt} {i k:Nat} {row:Txt} (h:p[i]?=some row):zgz (p.take (i+1)) (true,k)=if i<k then zgz (p.take i) (true,k)++[row] else zgz (p.take i) (true,k):=by
 have hl:=(List.getElem?_eq_some_iff.1 h).1
 simp only[zgz,if_true,List.take_take]
 split
 ·rw [Nat.min_eq_right (by omega),Nat.min_eq_right (by omega),tk h]
 rw [Nat.min_eq_left (by omega),Nat.min_eq_left (by omega)]
theorem z7x {p:List Txt} {i k:Nat} {row:Txt} (h:p[i]?=some row):zg0 (p.take (i+1)) (true,k)=if i<k then zg0 (p.take i) (true,k) else zg0 (p.take i) (true,k)++[row]:=by
 have hl:=(List.getElem?_eq_some_iff.1 h).1
 simp only[zg0,if_true]
 split
 ·rw [List.drop_of_length_le (by simp; omega),List.drop_of_length_le (by simp; omega)]
 rw [tk h,List.drop_append_of_le_length (by simp; omega)]
theorem z2b {p:List Txt} {q:Bool × Nat} (i:Nat):(zgz (p.take i) q).length≤i∧(zg0 (p.take i) q).length≤i:=by
 obtain ⟨lv,k⟩:=q
 cases lv <;> simp [zgz,zg0] <;> omega
theorem zqq {p:List Txt} (hs:Sm p) (hg:zcw p=true) {k:Nat} (hk:k≤(zao p).length):PC Tryz.prog 97 [zay p,.int .i64 0,.int .i64 k] (.tup [zay (zgz p (false,k)),zay (zg0 p (false,k))]) true:=by
 have hp:=hs.rows
 have hsm:=zbl hg
 obtain ⟨row0,hrow0,hrm0⟩:=zag hsm.1
 have hhd:=zcu hrow0
 have hw6:=hsm.2.2 row0 hrm0
 have hw1:=zfg hg hrow0
 rw [hhd]at hk
 refine PC.of ⟨Tryz.func97,by kernel_rfl,rfl,by kernel_rfl⟩ zap mixed (by show 3≤Tryz.f97.ntmps; decide) ?_
 refine W.r fun K hK=>?_
 simp(disch:=omega)only[↓RU,RV,RH,↓reduceIte,qE,reduceCtorEq,if_pos,↓RS,RG,qA,qM,qL]
 apply hK;clear hK K
 refine W.r fun K hK=>?_
 simp(disch:=omega)only[↓RU,RV,RH,↓reduceIte,qE,reduceCtorEq,if_pos,↓RS,RG,qA,qM,qL,ty6,zab]
 apply hK;clear hK K
 refine W.r fun K hK=>?_
 simp(disch:=omega)only[↓RU,RV,RH,↓reduceIte,qE,reduceCtorEq,if_pos,↓RS,RG,qA,qM,qL,ty6,zab]
 apply hK;clear hK K
 refine W.seq ?_
 refine W.r fun K hK=>?_
 simp(disch:=omega)only[↓RU,RV,RH,↓reduceIte,qE,reduceCtorEq,if_pos,↓RS,RG,qA,qM,qL]
 apply hK;clear hK K
 refine W.block ?_
 refine W.loop [0,1,2,8,9,10] (fun n vs S=>∃ i v0 v1 tk:Nat,n=p.length - i∧i≤p.length∧vs=[zay p,.int .i64 0,.int .i64 k,.loc 0 v0 0 (zgz (p.take i) (false,k)).length,.loc 1 v1 0 (zg0 (p.take i) (false,k)).length,.int .i64 i]∧S=⟨[.arr v0 9 1 ((zgz (p.take i) (false,k)).map .str),.arr v1 9 1 ((zg0 (p.take i) (false,k)).map .str)],tk⟩) p.length ?_ ?_
 ·refine ⟨2,0,0,1,2,rfl,Nat.zero_le _,?_,?_⟩
  ·simp [Env.put,Env.of,zae,zgz,zg0]
  simp [zgz,zg0,Store.take]
 rintro n vs S - ⟨i,v0,v1,tk,rfl,h_i,rfl,rfl⟩
 refine W.seq ?_
 refine W.r fun K hK=>?_
 simp(disch:=omega)only[↓RU,RV,RH,↓reduceIte,qE,reduceCtorEq,if_pos,w64,↓RS,RG,qA,qM,qL,ty6,zaa,zab]
 apply hK;clear hK K
 refine W.cond rfl (fun h=>?_) (fun h=>?_)
 ·try simp only[RL]at h
  obtain ⟨row,hrow,hrm⟩:=zag (show i<p.length by omega)
  have hrl:=hsm.2.2 row hrm
  have hrw:=zdt hg hrow
  rw [hhd]at hrw
  have hpl:=z2b (p:=p) (q:=(false,k)) i
  generalize hA:zgz (p.take i) (false,k)=A at hpl
  generalize hB:zg0 (p.take i) (false,k)=B at hpl
  refine W.skip ?_
  refine xn ?_
  refine W.seq ?_
  refine W.block ?_
  refine W.block ?_
  refine W.r fun K hK=>?_
  simp(disch:=omega)only[↓RU,RV,RH,↓reduceIte,qE,reduceCtorEq,if_pos,w64,↓RS,RG,qA,qM,qL,zaa]
  apply hK;clear hK K
  refine W.cond rfl (fun h1=>?_) (fun h1=>?_)
  ·try simp only[RL]at h1
   refine W.r fun K hK=>?_
   simp(disch:=omega)only[↓RU,RV,RH,↓reduceIte,qE,reduceCtorEq,if_pos,Option.map_none,↓RS,RG,qA,qM,qL,ty6,zab,hrow,List.drop_zero]
   apply hK;clear hK K
   refine W.k fun K hK=>?_
   simp(disch:=omega)only[↓RU,RV,RH,↓reduceIte,qE,reduceCtorEq,if_pos,Option.map_none,↓RS,RG,qA,qM,qL,ty6,zab,hrow,List.take_length]
   apply hK;clear hK K
   refine XbN ?_
   refine XbN ?_
   refine xn ?_
   refine W.k fun K hK=>?_
   simp(disch:=omega)only[↓RU,RV,RH,↓reduceIte,qE,reduceCtorEq,if_pos,w64,↓RS,RG,qA,qM,qL,zaa]
   apply hK;clear hK K
   refine xn ?_
   refine ⟨p.length - (i+1),by omega,2,i+1,(tk+1),(tk+3),(tk+4),rfl,by omega,?_,?_⟩
   all_goals rw [yea hrow,yeb hrow,hA,hB]
   all_goals simp [Env.put,Env.of,zck,hA,hB,Store.take]
  try simp only[RL]at h1
  exact absurd h1 (by simp)
 try simp only[RL]at h
 obtain rfl:i=p.length:=by omega
 rw [List.take_length]
 refine W.exit ?_
 refine xe ?_
 refine xe ?_
 refine XBlock.hit ?_
 refine xn ?_
 refine W.r fun K hK=>?_
 simp(disch:=omega)only[↓RU,RV,RH,↓reduceIte,qE,reduceCtorEq,if_pos,↓RS,RG,qA,qM,qL]
 apply hK;clear hK K
 refine W.ret ?_
 refine Br rfl ?_
 exact congrArg (Option.map PV.tup) (zas (zcl (k:=8) rfl (by simp) (zhw _)) (zas (zcl (k:=8) rfl (by simp) (zhw _)) rfl))
theorem zqp {p:List Txt} (hs:Sm p) (hg:zcw p=true) {k:Nat} (hk:k≤p.length):PC Tryz.prog 97 [zay p,.int .i64 1,.int .i64 k] (.tup [zay (zgz p (true,k)),zay (zg0 p (true,k))]) true:=by
 have hp:=hs.rows
 have hsm:=zbl hg
 obtain ⟨row0,hrow0,hrm0⟩:=zag hsm.1
 have hhd:=zcu hrow0
 have hw6:=hsm.2.2 row0 hrm0
 have hw1:=zfg hg hrow0
 skip
 refine PC.of ⟨Tryz.func97,by kernel_rfl,rfl,by kernel_rfl⟩ zap mixed (by show 3≤Tryz.f97.ntmps; decide) ?_
 refine W.r fun K hK=>?_
 simp(disch:=omega)only[↓RU,RV,RH,↓reduceIte,qE,reduceCtorEq,if_pos,↓RS,RG,qA,qM,qL]
 apply hK;clear hK K
 refine W.r fun K hK=>?_
 simp(disch:=omega)only[↓RU,RV,RH,↓reduceIte,qE,reduceCtorEq,if_pos,↓RS,RG,qA,qM,qL,ty6,zab]
 apply hK;clear hK K
 refine W.r fun K hK=>?_
 simp(disch:=omega)only[↓RU,RV,RH,↓reduceIte,qE,reduceCtorEq,if_pos,↓RS,RG,qA,qM,qL,ty6,zab]
 apply hK;clear hK K
 refine W.seq ?_
 refine W.r fun K hK=>?_
 simp(disch:=omega)only[↓RU,RV,RH,↓reduceIte,qE,reduceCtorEq,if_pos,↓RS,RG,qA,qM,qL]
 apply hK;clear hK K
 refine W.block ?_
 refine W.loop [0,1,2,8,9,10] (fun n vs S=>∃ i v0 v1 tk:Nat,n=p.length - i∧i≤p.length∧vs=[zay p,.int .i64 1,.int .i64 k,.loc 0 v0 0 (zgz (p.take i) (true,k)).length,.loc 1 v1 0 (zg0 (p.take i) (true,k)).length,.int .i64 i]∧S=⟨[.arr v0 9 1 ((zgz (p.take i) (true,k)).map .str),.arr v1 9 1 ((zg0 (p.take i) (true,k)).map .str)],tk⟩) p.length ?_ ?_
 ·refine ⟨2,0,0,1,2,rfl,Nat.zero_le _,?_,?_⟩
  ·simp [Env.put,Env.of,zae,zgz,zg0]
  simp [zgz,zg0,Store.take]
 rintro n vs S - ⟨i,v0,v1,tk,rfl,h_i,rfl,rfl⟩
 refine W.seq ?_
 refine W.r fun K hK=>?_
 simp(disch:=omega)only[↓RU,RV,RH,↓reduceIte,qE,reduceCtorEq,if_pos,w64,↓RS,RG,qA,qM,qL,ty6,zaa,zab]
 apply hK;clear hK K
 refine W.cond rfl (fun h=>?_) (fun h=>?_)
 ·try simp only[RL]at h
  obtain ⟨row,hrow,hrm⟩:=zag (show i<p.length by omega)
  have hrl:=hsm.2.2 row hrm
  have hrw:=zdt hg hrow
  rw [hhd]at hrw
  have hpl:=z2b (p:=p) (q:=(true,k)) i
  generalize hA:zgz (p.take i) (true,k)=A at hpl
  generalize hB:zg0 (p.take i) (true,k)=B at hpl
  refine W.skip ?_
  refine xn ?_
  refine W.seq ?_
  refine W.block ?_
  refine W.block ?_
  refine W.r fun K hK=>?_
  simp(disch:=omega)only[↓RU,RV,RH,↓reduceIte,qE,reduceCtorEq,if_pos,w64,↓RS,RG,qA,qM,qL,zaa]
  apply hK;clear hK K
  refine W.cond rfl (fun h1=>?_) (fun h1=>?_)
  ·try simp only[RL]at h1
   exact absurd h1 (by simp)
  ·try simp only[RL]at h1
   refine W.r fun K hK=>?_
   simp(disch:=omega)only[↓RU,RV,RH,↓reduceIte,qE,reduceCtorEq,if_pos,w64,↓RS,RG,qA,qM,qL,zaa]
   apply hK;clear hK K
   refine W.cond rfl (fun h2=>?_) (fun h2=>?_)
   ·try simp only[RL]at h2
    refine W.k fun K hK=>?_
    simp(disch:=omega)only[↓RU,RV,RH,↓reduceIte,qE,reduceCtorEq,if_pos,↓RS,RG,qA,qM,qL,ty6,zab,hrow]
    apply hK;clear hK K
    refine XbN ?_
    refine XbN ?_
    refine xn ?_
    refine W.k fun K hK=>?_
    simp(disch:=omega)only[↓RU,RV,RH,↓reduceIte,qE,reduceCtorEq,if_pos,w64,↓RS,RG,qA,qM,qL,zaa]
    apply hK;clear hK K
    refine xn ?_
    refine ⟨p.length - (i+1),by omega,2,i+1,(tk+1),v1,(tk+2),rfl,by omega,?_,?_⟩
    all_goals rw [z7w hrow,z7x hrow,if_pos (show i<k by omega),if_pos (show i<k by omega),hA,hB]
    all_goals simp [Env.put,Env.of,zck,hA,hB,Store.take]
   ·try simp only[RL]at h2
    refine W.k fun K hK=>?_
    simp(disch:=omega)only[↓RU,RV,RH,↓reduceIte,qE,reduceCtorEq,if_pos,↓RS,RG,qA,qM,qL,ty6,zab,hrow]
    apply hK;clear hK K
    refine XbN ?_
    refine XbN ?_
    refine xn ?_
    refine W.k fun K hK=>?_
    simp(disch:=omega)only[↓RU,RV,RH,↓reduceIte,qE,reduceCtorEq,if_pos,w64,↓RS,RG,qA,qM,qL,zaa]
    apply hK;clear hK K
    refine xn ?_
    refine ⟨p.length - (i+1),by omega,2,i+1,v0,(tk+1),(tk+2),rfl,by omega,?_,?_⟩
    all_goals rw [z7w hrow,z7x hrow,if_neg (show ¬ i<k by omega),if_neg (show ¬ i<k by omega),hA,hB]
    all_goals simp [Env.put,Env.of,zck,hA,hB,Store.take]
 try simp only[RL]at h
 obtain rfl:i=p.length:=by omega
 rw [List.take_length]
 refine W.exit ?_
 refine xe ?_
 refine xe ?_
 refine XBlock.hit ?_
 refine xn ?_
 refine W.r fun K hK=>?_
 simp(disch:=omega)only[↓RU,RV,RH,↓reduceIte,qE,reduceCtorEq,if_pos,↓RS,RG,qA,qM,qL]
 apply hK;clear hK K
 refine W.ret ?_
 refine Br rfl ?_
 exact congrArg (Option.map PV.tup) (zas (zcl (k:=8) rfl (by simp) (zhw _)) (zas (zcl (k:=8) rfl (by simp) (zhw _)) rfl))
theorem zgm {a b:List UInt8} (h:a.length+b.length≤9223372036854775807):zq8 .add a b=some (.str (a++b)):=if_pos h
theorem zpn {c:UInt8} {b:List UInt8} (h:b.length+1≤9223372036854775807):zq8 .add [c] b=some (.str (c::b)):=if_pos (by simp; omega)
theorem zpo {c:UInt8} {b d:List UInt8} (h:b.length+1+d.length≤9223372036854775807):zq8 .add (c::b) d=some (.str (c::b++d)):=if_pos (by simp; omega)
theorem z6w {p:List Txt} (hg:zcw p=true) {t:Pt} (hi:t.In p.length (zao p).length) (ih:∀ t':Pt,t'.In p.length (zao p).length→t'.h*t'.w<t.h*t.w→PC Tryz.prog 94 [zay (sub p t')] (.tup [.str (zrx (zak p) t').1,.bool (zrx (zak p) t').2]) true):PC Tryz.prog 94 [zay (sub p t)] (.tup [.str (zrx (zak p) t).1,.bool (zrx (zak p) t).2]) true:=by
 have hg2:=z21 hg hi
 have hs2:=Sm.grid hg2
 have hl2:=zln hi
 have hh2:=ztr hg hi
 have hib:=hi
 unfold Pt.In at hib
 obtain ⟨row0,hrow0,hq0,hl0,-⟩:=zju hg hi (i:=0) hi.1
 obtain ⟨c0,hc0,hlet⟩:=zj7 hg hrow0 (k:=t.c+0) (by omega)
 have hqc:=(zhn (row:=row0) (t:=t) hib.2.1).trans hc0
 have hz0:zak p t.r t.c=(c0.toNat:Int) - 97:=zcy (by simpa using hrow0) (by simpa using hc0)
 simp only[zc5,qB,decide_eq_true_eq]at hlet
 have hcq:=z03 hg hi
 refine PC.of ⟨Tryz.func94,by kernel_rfl,rfl,by kernel_rfl⟩ zap mixed (by show 1≤Tryz.f94.ntmps; decide) ?_
 refine W.r fun K hK=>?_
 simp(disch:=omega)only[↓RU,RV,RH,↓reduceIte,qE,reduceCtorEq,if_pos,↓RS,RG,qA,qM,qL,w8]
 apply hK;clear hK K
 refine W.seq ?_
 refine W.r fun K hK=>?_
 simp(disch:=omega)only[↓RU,RV,RH,↓reduceIte,qE,reduceCtorEq,if_pos,qN,↓RS,RG,qA,qM,qL,w8]
 refine zac.pc (z1o hs2 hg2) rfl (.inl rfl) ?_
 simp(disch:=omega)only[↓RU,RV,RH,↓reduceIte,qE,reduceCtorEq,if_pos,qN,↓RS,RG,qA,qM,qL,w8]
 apply hK;clear hK K
 refine W.cond rfl (fun h0=>?_) (fun h0=>?_)
 ·skip
  have h0:z9p (sub p t)=true:=h0
  rw [zpb hg hi]at h0
  refine W.r fun K hK=>?_
  simp(disch:=omega)only[↓RU,RV,RH,↓reduceIte,qE,reduceCtorEq,if_pos,w64,w64,↓RS,RG,qA,qM,qL,ty6,ty7,zab,zce,w8,hq0,hqc,Int.toNat_zero,Nat.zero_mul,qZ]
  apply hK;clear hK K
  refine W.ret ?_
  refine XThen.ret ?_
  refine Br rfl ?_
  rw [z24 hi h0,hz0]
  rfl
 skip
 have h0:z9p (sub p t)=false:=h0
 rw [zpb hg hi]at h0
 refine W.skip ?_
 refine xn ?_
 refine W.r fun K hK=>?_
 rcases hq:zd2 (zak p) t with _ | ⟨_ | _,k⟩
 ·skip
  rw [hq]at hcq
  simp only at hcq
  simp(disch:=omega)only[↓RU,RV,RH,↓reduceIte,qE,reduceCtorEq,if_pos,qN,↓RS,RG,qA,qM,qL,w8,hcq]
  refine zac.pc (zma hs2 hg2) rfl (.inl rfl) ?_
  simp(disch:=omega)only[↓RU,RV,RH,↓reduceIte,qE,reduceCtorEq,if_pos,qN,↓RS,RG,qA,qM,qL,w8,hcq]
  apply hK;clear hK K
  refine W.seq ?_
  refine W.r fun K hK=>?_
  simp(disch:=omega)only[↓RU,RV,RH,↓reduceIte,qE,reduceCtorEq,if_pos,w64,↓RS,RG,qA,qM,qL,zaa,w8]
  apply hK;clear hK K
  refine W.cond rfl (fun h1=>?_) (fun h1=>?_)
  ·try simp only[RL]at h1
   refine W.r fun K hK=>?_
   simp(disch:=omega)only[↓RU,RV,RH,↓reduceIte,qE,reduceCtorEq,if_pos,↓RS,RG,qA,qM,qL,w8]
   apply hK;clear hK K
   refine W.ret ?_
   refine XThen.ret ?_
   refine Br rfl ?_
   rw [zyq hi h0 hq]
   rfl
  try simp only[RL]at h1
  exact absurd h1 (by simp)
 ·skip
  rw [hq]at hcq
  simp only[qF,if_false]at hcq
  obtain ⟨i1,i2,a1,a2⟩:=hi.cut hq
  have hck:=zeo hq
  simp only[qF,if_false]at hck
  simp(disch:=omega)only[↓RU,RV,RH,↓reduceIte,qE,reduceCtorEq,if_pos,qN,↓RS,RG,qA,qM,qL,w8,hcq]
  refine zac.pc (zma hs2 hg2) rfl (.inl rfl) ?_
  simp(disch:=omega)only[↓RU,RV,RH,↓reduceIte,qE,reduceCtorEq,if_pos,qN,↓RS,RG,qA,qM,qL,w8,hcq]
  apply hK;clear hK K
  refine W.seq ?_
  refine W.r fun K hK=>?_
  simp(disch:=omega)only[↓RU,RV,RH,↓reduceIte,qE,reduceCtorEq,if_pos,w64,↓RS,RG,qA,qM,qL,zaa,w8]
  apply hK;clear hK K
  refine W.cond rfl (fun h1=>?_) (fun h1=>?_)
  ·try simp only[RL]at h1
   exact absurd h1 (by simp; omega)
  try simp only[RL]at h1
  refine W.skip ?_
  refine xn ?_
  refine W.r fun K hK=>?_
  have hP:=zqq hs2 hg2 (k:=k) (by rw [hh2]; omega)
  rw [zvb (q:=(false,k)) (by simp; omega),zvc (q:=(false,k)) (by simp; omega)]at hP
  simp(disch:=omega)only[↓RU,RV,RH,↓reduceIte,qE,reduceCtorEq,if_pos,qN,↓RS,RG,qA,qM,qL,w8]
  refine zac.pc (hP) rfl (.inl rfl) ?_
  simp(disch:=omega)only[↓RU,RV,RH,↓reduceIte,qE,reduceCtorEq,if_pos,qN,↓RS,RG,qA,qM,qL,w8]
  apply hK;clear hK K
  refine W.r fun K hK=>?_
  simp(disch:=omega)only[↓RU,RV,RH,↓reduceIte,qE,reduceCtorEq,if_pos,qN,↓RS,RG,qA,qM,qL,w8]
  refine zac.pc (ih (t.one (false,k)) i1 a1) rfl (.inl rfl) ?_
  simp(disch:=omega)only[↓RU,RV,RH,↓reduceIte,qE,reduceCtorEq,if_pos,qN,↓RS,RG,qA,qM,qL,w8]
  apply hK;clear hK K
  refine W.r fun K hK=>?_
  simp(disch:=omega)only[↓RU,RV,RH,↓reduceIte,qE,reduceCtorEq,if_pos,qN,↓RS,RG,qA,qM,qL,w8]
  refine zac.pc (ih (t.two (false,k)) i2 a2) rfl (.inl rfl) ?_
  simp(disch:=omega)only[↓RU,RV,RH,↓reduceIte,qE,reduceCtorEq,if_pos,qN,↓RS,RG,qA,qM,qL,w8]
  apply hK;clear hK K
  refine W.r fun K hK=>?_
  have f1:=(zho (z:=zak p) _ i1 (qR _)).1
  have f2:=(zho (z:=zak p) _ i2 (qR _)).1
  have f3:t.h*t.w≤6*6:=Nat.mul_le_mul (by have:=zbl hg; omega) (by have:=(zbl hg2).2.2 _ (List.mem_of_getElem? hq0); omega)
  cases hb:(zrx (zak p) (t.one (false,k))).2
  ·skip
   simp(disch:=omega)only[↓RU,RV,RH,↓reduceIte,qE,reduceCtorEq,if_pos,w64,Option.map_none,↓RS,RG,qA,qM,qL,zaa,zab,w8,zpn,zpo,Int.reduceAdd,qZ,List.take_succ_cons,List.take_zero,List.drop_zero,List.drop_succ_cons,List.length_append,List.length_cons,List.length_nil,hb]
   apply hK;clear hK K
   refine W.ret ?_
   refine Br rfl ?_
   rw [zm6 hi h0 hq,hb]
   rfl
  skip
  simp(disch:=omega)only[↓RU,RV,RH,↓reduceIte,qE,reduceCtorEq,if_pos,w64,Option.map_none,↓RS,RG,qA,qM,qL,zaa,zab,w8,zpn,zpo,Int.reduceAdd,qZ,List.take_succ_cons,List.take_zero,List.drop_zero,List.drop_succ_cons,List.length_append,List.length_cons,List.length_nil,hb]
  apply hK;clear hK K
  refine W.ret ?_
  refine Br rfl ?_
  rw [zm6 hi h0 hq,hb]
  rfl
 skip
 rw [hq]at hcq
 simp only[if_true]at hcq
 obtain ⟨i1,i2,a1,a2⟩:=hi.cut hq
 have hck:=zeo hq
 simp only[if_true]at hck
 simp(disch:=omega)only[↓RU,RV,RH,↓reduceIte,qE,reduceCtorEq,if_pos,qN,↓RS,RG,qA,qM,qL,w8,hcq]
 refine zac.pc (zma hs2 hg2) rfl (.inl rfl) ?_
 simp(disch:=omega)only[↓RU,RV,RH,↓reduceIte,qE,reduceCtorEq,if_pos,qN,↓RS,RG,qA,qM,qL,w8,hcq]
 apply hK;clear hK K
 refine W.seq ?_
 refine W.r fun K hK=>?_
 simp(disch:=omega)only[↓RU,RV,RH,↓reduceIte,qE,reduceCtorEq,if_pos,w64,↓RS,RG,qA,qM,qL,zaa,w8]
 apply hK;clear hK K
 refine W.cond rfl (fun h1=>?_) (fun h1=>?_)
 ·try simp only[RL]at h1
  exact absurd h1 (by simp; omega)
 try simp only[RL]at h1
 refine W.skip ?_
 refine xn ?_
 refine W.r fun K hK=>?_
 have hP:=zqp hs2 hg2 (k:=k) (by rw [hl2]; omega)
 rw [zvb (q:=(true,k)) (by simp; omega),zvc (q:=(true,k)) (by simp; omega)]at hP
 simp(disch:=omega)only[↓RU,RV,RH,↓reduceIte,qE,reduceCtorEq,if_pos,qN,↓RS,RG,qA,qM,qL,w8]
 refine zac.pc (hP) rfl (.inl rfl) ?_
 simp(disch:=omega)only[↓RU,RV,RH,↓reduceIte,qE,reduceCtorEq,if_pos,qN,↓RS,RG,qA,qM,qL,w8]
 apply hK;clear hK K
 refine W.r fun K hK=>?_
 simp(disch:=omega)only[↓RU,RV,RH,↓reduceIte,qE,reduceCtorEq,if_pos,qN,↓RS,RG,qA,qM,qL,w8]
 refine zac.pc (ih (t.one (true,k)) i1 a1) rfl (.inl rfl) ?_
 simp(disch:=omega)only[↓RU,RV,RH,↓reduceIte,qE,reduceCtorEq,if_pos,qN,↓RS,RG,qA,qM,qL,w8]
 apply hK;clear hK K
 refine W.r fun K hK=>?_
 simp(disch:=omega)only[↓RU,RV,RH,↓reduceIte,qE,reduceCtorEq,if_pos,qN,↓RS,RG,qA,qM,qL,w8]
 refine zac.pc (ih (t.two (true,k)) i2 a2) rfl (.inl rfl) ?_
 simp(disch:=omega)only[↓RU,RV,RH,↓reduceIte,qE,reduceCtorEq,if_pos,qN,↓RS,RG,qA,qM,qL,w8]
 apply hK;clear hK K
 refine W.r fun K hK=>?_
 have f1:=(zho (z:=zak p) _ i1 (qR _)).1
 have f2:=(zho (z:=zak p) _ i2 (qR _)).1
 have f3:t.h*t.w≤6*6:=Nat.mul_le_mul (by have:=zbl hg; omega) (by have:=(zbl hg2).2.2 _ (List.mem_of_getElem? hq0); omega)
 cases hb:(zrx (zak p) (t.one (true,k))).2
 ·skip
  simp(disch:=omega)only[↓RU,RV,RH,↓reduceIte,qE,reduceCtorEq,if_pos,w64,Option.map_none,↓RS,RG,qA,qM,qL,zaa,zab,w8,zpn,zpo,Int.reduceAdd,qZ,List.take_succ_cons,List.take_zero,List.drop_zero,List.drop_succ_cons,List.length_append,List.length_cons,List.length_nil,hb]
  apply hK;clear hK K
  refine W.ret ?_
  refine Br rfl ?_
  rw [zm6 hi h0 hq,hb]
  rfl
 skip
 simp(disch:=omega)only[↓RU,RV,RH,↓reduceIte,qE,reduceCtorEq,if_pos,w64,Option.map_none,↓RS,RG,qA,qM,qL,zaa,zab,w8,zpn,zpo,Int.reduceAdd,qZ,List.take_succ_cons,List.take_zero,List.drop_zero,List.drop_succ_cons,List.length_append,List.length_cons,List.length_nil,hb]
 apply hK;clear hK K
 refine W.ret ?_
 refine Br rfl ?_
 rw [zm6 hi h0 hq,hb]
 rfl
theorem zwt {p:List Txt} (hg:zcw p=true):∀ (n:Nat) {t:Pt},t.h*t.w≤n→t.In p.length (zao p).length→PC Tryz.prog 94 [zay (sub p t)] (.tup [.str (zrx (zak p) t).1,.bool (zrx (zak p) t).2]) true
 | 0,t,hn,hi=>by have:=Nat.mul_pos hi.1 hi.2.1; omega
 | n+1,t,hn,hi=>z6w hg hi fun t' hi' ha=>zwt hg n (by omega) hi'
def zk2 (p:List Txt):Pt:=⟨0,0,p.length,(zao p).length⟩
theorem z84 {p:List Txt} (hg:zcw p=true):sub p (zk2 p)=p:=by
 unfold sub zk2
 simp only[List.drop_zero,List.take_length]
 conv=>rhs; rw [← List.map_id p]
 refine List.map_congr_left fun row hrow=>?_
 simp only[zjt,List.drop_zero,id_eq]
 rw [qT (by rw [zl8 hg row hrow]; exact qR _)]
theorem ybz {p:List Txt} (hg:zcw p=true):(zk2 p).In p.length (zao p).length:=by
 have hsm:=zbl hg
 obtain ⟨row0,h0,hm0⟩:=zag hsm.1
 have hw:=zfg hg h0
 rw [← zcu h0]at hw
 exact ⟨hsm.1,hw,by simp [zk2],by simp [zk2]⟩
def z5w (p:List Txt):Bool:=zbs p && (zdq (zak p) (zk2 p)).isSome
theorem zrn {p:List Txt} (hs:Sm p):PC Tryz.prog 50 [zay p] (.bool (z5w p)) true:=by
 refine PC.of ⟨Tryz.func50,by kernel_rfl,rfl,by kernel_rfl⟩ zap mixed (by show 1≤Tryz.f50.ntmps; decide) ?_
 refine W.r fun K hK=>?_
 simp(disch:=omega)only[↓RU,RV,RH,↓reduceIte,qE,reduceCtorEq,if_pos]
 apply hK;clear hK K
 refine W.seq ?_
 refine W.r fun K hK=>?_
 simp(disch:=omega)only[↓RU,RV,RH,↓reduceIte,qE,reduceCtorEq,if_pos,qN]
 refine zac.pc (zfy hs) rfl (.inl rfl) ?_
 simp(disch:=omega)only[↓RU,RV,RH,↓reduceIte,qE,reduceCtorEq,if_pos,qN]
 apply hK;clear hK K
 refine W.cond rfl (fun h0=>?_) (fun h0=>?_)
 ·skip
  have h0:zbs p=false:=by simpa using h0
  refine W.r fun K hK=>?_
  simp(disch:=omega)only[↓RU,RV,RH,↓reduceIte,qE,reduceCtorEq,if_pos]
  apply hK;clear hK K
  refine W.ret ?_
  refine XThen.ret ?_
  refine Br rfl ?_
  rw [show z5w p=false by simp [z5w,h0]]
  rfl
 skip
 have h0:zbs p=true:=by simpa using h0
 have hg:=zd7 h0
 have hT:=zwt hg _ (qR _) (ybz hg)
 rw [z84 hg,(zho (z:=zak p) _ (ybz hg) (qR _)).2]at hT
 refine W.skip ?_
 refine xn ?_
 refine W.r fun K hK=>?_
 simp(disch:=omega)only[↓RU,RV,RH,↓reduceIte,qE,reduceCtorEq,if_pos,qN]
 refine zac.pc (hT) rfl (.inl rfl) ?_
 simp(disch:=omega)only[↓RU,RV,RH,↓reduceIte,qE,reduceCtorEq,if_pos,qN]
 apply hK;clear hK K
 refine W.r fun K hK=>?_
 simp(disch:=omega)only[↓RU,RV,RH,↓reduceIte,qE,reduceCtorEq,if_pos]
 apply hK;clear hK K
 refine W.ret ?_
 refine Br rfl ?_
 rw [show z5w p=(zdq (zak p) (zk2 p)).isSome by simp [z5w,h0]]
 rfl
section
section
variable {p:List Txt}
end
end
def Tm.ok:Tm→Prop
 | .o=>True
 | .un c t=>(c=62∨c=94)∧t.ok
 | .bin m a b=>(m=124∨m=45)∧a.ok∧b.ok
def Tm.n:Tm→Nat
 | .o=>1
 | .un _ t=>t.n
 | .bin _ a b=>a.n+b.n
theorem Tm.pos:∀ t:Tm,1≤t.n
 | .o=>qR _
 | .un _ t=>t.pos
 | .bin _ a b=>by have:=a.pos; simp only[Tm.n]; omega
def Tm.pure:Tm→Prop
 | .o=>True
 | .un _ _=>False
 | .bin m a b=>(m=124∨m=45)∧a.pure∧b.pure
theorem Tm.pure.ok {t:Tm} (h:t.pure):t.ok:=by
 induction t with
 | o=>trivial
 | un c t _=>exact h.elim
 | bin m a b h1 h2=>exact ⟨h.1,h1 h.2.1,h2 h.2.2⟩
def mv (s:UInt8):Tm→Tm
 | .o => .o
 | .un c t => .un c t
 | .bin m a b=>if s=62 then (if m=124 then .bin 45 (mv s a) (mv s b) else .bin 124 (mv s b) (mv s a))
  else if s=94∧m=124 then .bin 124 (mv s b) (mv s a) else .bin m (mv s a) (mv s b)
def td:Tm→Tm
 | .o => .o
 | .un c t=>mv c (td t)
 | .bin m a b => .bin m (td a) (td b)
theorem zzp {s:UInt8} {u:Tm} (h:u.pure):(mv s u).pure∧(mv s u).n=u.n:=by
 induction u with
 | o=>exact ⟨trivial,rfl⟩
 | un c t _=>exact h.elim
 | bin m a b h1 h2 =>
  obtain ⟨k1,k2⟩:=h1 h.2.1
  obtain ⟨k3,k4⟩:=h2 h.2.2
  have hm:=h.1
  unfold mv
  repeat' split
  all_goals simp only[Tm.pure,Tm.n,k2,k4]
  all_goals refine ⟨⟨?_,?_,?_⟩,?_⟩
  all_goals first | exact .inl rfl | exact .inr rfl | exact .inr trivial | exact .inl trivial | trivial | assumption | omega
theorem zve {t:Tm} (h:t.ok):(td t).pure∧(td t).n=t.n:=by
 induction t with
 | o=>exact ⟨trivial,rfl⟩
 | un c t ih =>
  obtain ⟨k1,k2⟩:=ih h.2
  have:=zzp (s:=c) k1
  exact ⟨this.1,by rw [td,this.2,k2]; rfl⟩
 | bin m a b h1 h2 =>
  obtain ⟨k1,k2⟩:=h1 h.2.1
  obtain ⟨k3,k4⟩:=h2 h.2.2
  exact ⟨⟨h.1,k1,k3⟩,by simp only[td,Tm.n,k2,k4]⟩
theorem ygg {u:Tm} (h:u.pure):mv 0 u=u:=by
 induction u with
 | o=>rfl
 | un c t _=>rfl
 | bin m a b h1 h2 =>
  unfold mv
  rw [if_neg (by decide),if_neg (by rintro ⟨h,-⟩; exact absurd h (by decide)),h1 h.2.1,h2 h.2.2]
theorem yhv {u:Tm} (h:u.pure):td u=u:=by
 induction u with
 | o=>rfl
 | un c t _=>exact h.elim
 | bin m a b h1 h2=>rw [td,h1 h.2.1,h2 h.2.2]
def pm:Tm→List Int
 | .o=>[0]
 | .un _ t=>pm t
 | .bin m a b=>if m=124 then pm a++upL (pm b) (pm a).length else upL (pm b) (pm a).length++pm a
theorem zdx {l:List Int} {k:Nat}:(upL l k).length=l.length:=by simp [upL]
theorem zrw {l:List Int} {k i:Nat}:(upL l k)[i]?=l[i]?.map (· + (k:Int)):=by simp [upL]
theorem zmm:∀ (u:Tm),(pm u).length=u.n
 | .o=>rfl
 | .un _ t=>zmm t
 | .bin m a b=>by
  have h1:=zmm a
  have h2:=zmm b
  unfold pm Tm.n
  split <;> simp [zdx,h1,h2]
  omega
def Full (l:List Int):Prop:=(∀ (i:Nat) v,l[i]?=some v→0≤v∧v<l.length)∧∀ v:Nat,v<l.length→∃ i:Nat,l[i]?=some (v:Int)
theorem Full.beside {A B:List Int} (hA:Full A) (hB:Full B):Full (A++upL B A.length):=by
 constructor
 ·intro i v h
  rw [List.length_append,zdx]
  by_cases k:i<A.length
  ·rw [List.getElem?_append_left k]at h
   have:=hA.1 i v h; omega
  rw [List.getElem?_append_right (by omega),zrw,qI]at h
  obtain ⟨w,h,rfl⟩:=h
  have:=hB.1 _ w h; omega
 intro v hv
 rw [List.length_append,zdx]at hv
 by_cases k:v<A.length
 ·obtain ⟨i,hi⟩:=hA.2 v k
  exact ⟨i,by rw [List.getElem?_append_left (zbp hi)]; exact hi⟩
 obtain ⟨i,hi⟩:=hB.2 (v - A.length) (by omega)
 exact ⟨A.length+i,by rw [List.getElem?_append_right (by omega),Nat.add_sub_cancel_left,zrw,hi,qO]; congr 1; omega⟩
theorem Full.under {A B:List Int} (hA:Full A) (hB:Full B):Full (upL B A.length++A):=by
 constructor
 ·intro i v h
  rw [List.length_append,zdx]
  by_cases k:i<B.length
  ·rw [List.getElem?_append_left (by rw [zdx]; exact k),zrw,qI]at h
   obtain ⟨w,h,rfl⟩:=h
   have:=hB.1 _ w h; omega
  rw [List.getElem?_append_right (by rw [zdx]; omega)]at h
  have:=hA.1 _ v h; omega
 intro v hv
 rw [List.length_append,zdx]at hv
 by_cases k:v<A.length
 ·obtain ⟨i,hi⟩:=hA.2 v k
  exact ⟨B.length+i,by rw [List.getElem?_append_right (by rw [zdx]; omega),zdx,Nat.add_sub_cancel_left]; exact hi⟩
 obtain ⟨i,hi⟩:=hB.2 (v - A.length) (by omega)
 exact ⟨i,by rw [List.getElem?_append_left (by rw [zdx]; exact zbp hi),zrw,hi,qO]; congr 1; omega⟩
theorem znu:∀ (u:Tm),Full (pm u)
 | .o=>⟨fun i v h=>by cases i with | zero=>simp [pm]at h; subst h; simp [pm] | succ i=>simp [pm]at h,fun v hv=>⟨0,by simp [pm]at hv ⊢; omega⟩⟩
 | .un _ t=>znu t
 | .bin m a b=>by
  unfold pm
  split
  ·exact (znu a).beside (znu b)
  exact (znu a).under (znu b)
def To (g:Nat→Nat) (l l':List Int):Prop:=l'.length=l.length∧∀ (i:Nat) v,l[i]?=some v→l'[l.length - 1 - v.toNat]?=some ((g i:Nat):Int)
theorem To.uniq {g:Nat→Nat} {l l' l2:List Int} (hl:Full l) (h:To g l l') (k:To g l l2):l'=l2:=by
 apply List.ext_getElem?
 intro i
 by_cases hi:i<l.length
 ·obtain ⟨j,hj⟩:=hl.2 (l.length - 1 - i) (by omega)
  have h1:=h.2 _ _ hj
  have h2:=k.2 _ _ hj
  rw [show l.length - 1 - ((l.length - 1 - i:Nat):Int).toNat=i by omega]at h1 h2
  rw [h1,h2]
 rw [List.getElem?_eq_none (by rw [h.1]; omega),List.getElem?_eq_none (by rw [k.1]; omega)]
section
section
variable {p t:List Txt} {σ:Nat→Nat}
end
theorem yhu:∀ (f:Nat) {s:Txt} {t:Tm} {r:Txt},rd f s=some (t,r)→t.ok∧t.n+r.count 111=s.count 111:=by
 intro f
 induction f with
 | zero=>intro s t r h; simp [rd]at h
 | succ f ih =>
  intro s t r h
  cases s with
  | nil=>simp [rd]at h
  | cons c s =>
   simp only[rd]at h
   split at h
   ·rename_i e
    cases h; subst e
    exact ⟨trivial,by simp [Tm.n]; omega⟩
   rename_i ne
   have hc:(c::s).count 111=s.count 111:=List.count_cons_of_ne ne
   rw [hc]
   split at h
   ·rename_i hcc
    split at h
    ·rename_i t' r' e
     cases h
     obtain ⟨h1,h2⟩:=ih e
     exact ⟨⟨hcc,h1⟩,h2⟩
    cases h
   split at h
   ·split at h
    ·rename_i a m r1 e
     obtain ⟨h1,h2⟩:=ih e
     split at h
     ·rename_i hm
      split at h
      ·rename_i b e2 r2 e3
       obtain ⟨h3,h4⟩:=ih e3
       split at h
       ·rename_i he
        cases h
        subst he
        rw [List.count_cons_of_ne (by decide)]at h4
        rw [List.count_cons_of_ne (by rcases hm with rfl | rfl <;> decide)]at h2
        exact ⟨⟨hm,h1,h3⟩,by simp only[Tm.n]; omega⟩
       cases h
      cases h
     cases h
    cases h
   cases h
def ofT (s:Txt):Option Tm:=if s.length>60∨s.count 111>7 then none else match rd (s.length+1) s with
 | some (t,[])=>some t
 | _=>none
theorem yck {s:Txt} {t:Tm} (h:ofT s=some t):t.ok∧t.n≤7∧s.length≤60∧s.count 111≤7∧rd (s.length+1) s=some (t,[]):=by
 unfold ofT at h
 split at h
 ·cases h
 rename_i hc
 split at h
 ·rename_i t' e
  cases h
  obtain ⟨h1,h2⟩:=yhu _ e
  simp only[List.count_nil]at h2
  exact ⟨h1,by omega,by omega,by omega,e⟩
 cases h
end
section
section
variable {P:Program} {T:Tab} {F:Nat→Prop} {G:GSt} {w:World} {e:Env} {a:Act} {F0:Nat→Prop} {G0:GSt} {w0:World} {N:Nat}
theorem z93 (hT:zbw P T) (hi:Inv F G w) (he:ze9 w.heap F G e a) {o:Oper} {s d el:TypeId} {x:Operand} {str:List UInt8} (hop:o.op = .convert s d x) (hs:(T s).kd = .str) (hd:(T d).kd = .slice el) (hu8:(T el).kd = .int .u8)
  (hx0:e.ev x = .str str) (hlen63:str.length≤1048576) {K:PV→Store→Prop} (h:K (.loc G.er.obs.length G.er.tick 0 str.length) (G.er.push el 1 (str.map eB))) {next:Act→World→Prop} {Q:Exit→Act→World→Prop}
  (hk:Goes F G w K fun cv w'=>next (a.put o.dst cv) w'):o.wp P a w next Q:=by
 have hx:=he.ev x
 rw [hx0]at hx
 obtain ⟨b,ex,hb⟩:=hx.str
 have hr:(execOp a.eval o).run P w = .ok (.value (.slice (some ⟨w.heap.size,0,none⟩) b.size (grownCap w b.size 0 el))) (Lib.bytesWorld w el b):=by
  simp only[execOp,hop,ex]
  rw [Sem.run_bind,Lib.run_convert_string_bytes w s d el b (zi1 hT hs) (zcn hT hd) (zkx hT hu8)]
  rfl
 have hlen:str.length=b.size:=by rw [← hb]; simp
 have hsz:(Lib.bytesWorld w el b).heap.size=w.heap.size+1:=Lib.bytesWorld_size w el b
 have hge:=grownCap_ge w b.size 0 el
 have hcs:(Lib.bytesCells w el b).size=grownCap w b.size 0 el:=by
  simp [Lib.bytesCells]; omega
 have hpush:(Lib.bytesWorld w el b).heap=w.heap.push (.cells (Lib.bytesCells w el b) el ((Lib.bytesCells w el b).size,(Lib.bytesCells w el b).size+1)):=by
  apply Array.ext_getElem?
  intro j
  rw [Array.getElem?_push]
  by_cases hj:j=w.heap.size
  ·subst hj; rw [if_pos rfl]; exact Lib.bytesWorld_at_new w el b
  rw [if_neg hj]
  by_cases hj2:j<w.heap.size
  ·exact Lib.bytesWorld_at_old w el b j hj2
  rw [Array.getElem?_eq_none (by omega),Array.getElem?_eq_none (by omega)]
 obtain ⟨k1,k2⟩:=zph hi (.arr G.tick el 1 (str.map eB)) (Lib.bytesCells w el b).size (Lib.bytesWorld w el b) (w.drawn+1) rfl (Nat.le_succ _) ⟨_,hpush⟩ rfl
  ⟨_,⟨_,Lib.bytesWorld_at_new w el b,.inr (qR _)⟩,rfl,by show (str.map eB).length≤(Lib.bytesCells w el b).size; rw [List.length_map,hcs]; omega,fun i p hp=>by
   have hil:i<str.length:=by have:=(List.getElem?_eq_some_iff.1 hp).1; simpa using this
   rw [List.getElem?_map,List.getElem?_eq_getElem hil]at hp
   cases hp
   refine ⟨rfl,.int .u8 (str[i].toNat:Int),?_,.imm _ _ (.int _ _)⟩
   have:=Lib.bytesWorld_cell w el b i (by omega)
   simp only[World.cell?,Lib.bytesWorld_at_new,Option.isSome_none,qF,if_false]at this
   rw [this,hb,List.getD_eq_getElem?_getD,List.getElem?_eq_getElem hil]
   rfl⟩
 unfold Oper.wp
 rw [hr]
 refine hk (.loc G.er.obs.length G.er.tick 0 str.length) _ _ _ _ (by rw [zt9]; exact h) k1 k2 ?_
 rw [hlen]
 exact zqu (et:=el) (sz:=1) (cells:=str.map eB) (l:=⟨w.heap.size,(Lib.bytesCells w el b).size⟩) _ _ _ (by simp) (Nat.lt_succ_self _) rfl hge (grownCap_le_maxLen w _ _ _ (by unfold maxLen; omega)) (by rw [Nat.mul_one]; exact hcs.symm)
def zzr (P:Program) (T:Tab) (ops:Array Oper) (Q:Env→Store→Prop):Nat→List Oper→Env→Store→Prop
 | _,[],e,S=>Q e S
 | 0,o::l,e,S=>∃ (s d el:TypeId) (x:Operand) (str:List UInt8),o.guard=none∧o.op = .convert s d x∧(T s).kd = .str∧(T d).kd = .slice el∧(T el).kd = .int .u8∧e.ev x = .str str∧str.length≤1048576 ∧
   z17 P T ops Q l (e.put o.dst (.loc S.obs.length S.tick 0 str.length)) (S.push el 1 (str.map eB))
 | k+1,o::l,e,S=>o.guard=none∧pOp P T e S o.op fun v S'=>zzr P T ops Q k l (e.put o.dst v) S'
theorem zq5 {R:Option Nat} {nn:Nat} (hT:zbw P T) {ops:Array Oper} {Q:Env→Store→Prop}:∀ (k:Nat) (l:List Oper) {e:Env} {F:Nat→Prop} {G:GSt} {a:Act} {w:World},zzr P T ops Q k l e G.er→Inv F G w→ze9 w.heap F G e a →
  Next F0 G0 w0 F G w→a.tmps.size=N→Marks w0 a.defers w→(∀ o∈l,∀ d,o.dst=some d→d<N)→wpListIn (fnc R) nn P ops (Sto F0 G0 w0 N (Nrm Q)) l a w
 | _,[],e,F,G,a,w,h,hi,he,hn,hs,hd,_=>by
  have h':Q e G.er:=by unfold zzr at h; exact h
  exact ⟨e,F,G,h',hi,he,hn,hs,hd⟩
 | 0,o::l,e,F,G,a,w,h,hi,he,hn,hs,hd,hdst=>by
  have ho:∀ t,o.dst=some t→t<a.tmps.size:=fun t ht=>by rw [hs]; exact hdst o (by simp) t ht
  have hl:∀ o∈l,∀ d,o.dst=some d→d<N:=fun o' h'=>hdst o' (by simp [h'])
  unfold zzr at h
  obtain ⟨s,d,el,x,str,hg,hop,q1,q2,q3,q4,q5,h⟩:=h
  unfold wpListIn
  have hw:Region.wanted o (yielded ops a.tmps)=true:=by unfold Region.wanted; rw [hg]
  rw [if_pos hw]
  refine yg6 (by rw [hop]; intro c q; cases q) (z93 hT hi he hop q1 q2 q3 q4 q5 (K:=fun v S'=>v = .loc G.er.obs.length G.er.tick 0 str.length∧S'=G.er.push el 1 (str.map eB)) ⟨rfl,rfl⟩ ?_)
  rintro v cv F' G' w' ⟨rfl,hE⟩ i1 i2 i3
  refine zka hT l (by rw [hE]; exact h) i1 ((he.next hi i2).put _ ho i3) (hn.trans i2) (by rw [ze1]; exact hs) (by rw [zc6]; exact hd.next hi i2) hl
 | k+1,o::l,e,F,G,a,w,h,hi,he,hn,hs,hd,hdst=>by
  have ho:∀ t,o.dst=some t→t<a.tmps.size:=fun t ht=>by rw [hs]; exact hdst o (by simp) t ht
  have hl:∀ o∈l,∀ d,o.dst=some d→d<N:=fun o' h'=>hdst o' (by simp [h'])
  unfold zzr at h
  obtain ⟨hg,h⟩:=h
  unfold wpListIn
  have hw:Region.wanted o (yielded ops a.tmps)=true:=by unfold Region.wanted; rw [hg]
  rw [if_pos hw]
  refine zis hT hi he h ?_
  intro v cv F' G' w' hK i1 i2 i3
  exact zq5 hT k l hK i1 ((he.next hi i2).put _ ho i3) (hn.trans i2) (by rw [ze1]; exact hs) (by rw [zc6]; exact hd.next hi i2) hl
end
section
variable {P:Program} {T:Tab} {Q:Exit→Env→Store→Prop} {e:Env} {S:Store} {b:Code}
theorem W.region_t (k:Nat) {id:Nat} {ops:Array Oper} (h:zzr P T ops (Q .normal) k ops.toList e S):W P T (.region id ops false) Q e S:=by
 refine ⟨?_⟩
 intro hT hm F0 G0 w0 N F G a w h3 h4 h5 h6 h7 h8 h9 R nn
 subst h3
 refine wpIn_mono (wpIn_region_list (zq5 hT k _ h h4 h5 h6 h7 h8 (zp3 h9))) ?_
 exact zw3
def yhd (P:Program) (T:Tab) (ds:List (Option Tmp)) (o:Oper) (l:List Oper) (e:Env) (S:Store) (K:Env→Store→Prop):Prop :=
 ∃ (s d el:TypeId) (x:Operand) (str:List UInt8),o.guard=none∧o.op = .convert s d x∧(T s).kd = .str∧(T d).kd = .slice el∧(T el).kd = .int .u8∧e.ev x = .str str∧str.length≤1048576 ∧
  zbr false P T ds l (e.put o.dst (.loc S.obs.length S.tick 0 str.length)) (S.push el 1 (str.map eB)) K
theorem zq6 {ops:Array Oper} {K K':Env→Store→Prop} (h:∀ e S,K e S→K' e S):∀ (l:List Oper) {e:Env} {S:Store},z17 P T ops K l e S→z17 P T ops K' l e S
 | [],e,S,k=>h e S k
 | o::l,e,S,k=>by
  unfold z17 zdp at k ⊢
  cases hg:gdec ops o e with
  | none=>rw [hg]at k; exact k.elim
  | some b =>
   rw [hg]at k
   cases b with
   | true=>exact zee (fun v S' k=>zq6 h l k) k
   | false=>exact zq6 h l k
theorem zxm {ops:Array Oper} {K:Env→Store→Prop} {o:Oper} {l2:List Oper}:∀ (l1:List Oper) {e:Env} {S:Store},l1.all (fun o=>o.guard.isNone)=true →
  z17 P T ops (fun e S=>∃ (s d el:TypeId) (x:Operand) (str:List UInt8),o.guard=none∧o.op = .convert s d x∧(T s).kd = .str∧(T d).kd = .slice el∧(T el).kd = .int .u8∧e.ev x = .str str∧str.length≤1048576 ∧
   z17 P T ops K l2 (e.put o.dst (.loc S.obs.length S.tick 0 str.length)) (S.push el 1 (str.map eB))) l1 e S→zzr P T ops K l1.length (l1++o::l2) e S
 | [],e,S,_,h=>h
 | q::l1,e,S,hg,h=>by
  simp only[List.all_cons,qB,Option.isNone_iff_eq_none]at hg
  show q.guard=none∧_
  refine ⟨hg.1,?_⟩
  unfold z17 zdp gdec at h
  rw [hg.1]at h
  exact zee (fun v S' h=>zxm l1 hg.2 h) h
theorem W.seq_thaw {id:Nat} {l1 l2:List Oper} {o:Oper} (hg:l1.all (fun o=>o.guard.isNone)=true) (h:∀ K:Env→Store→Prop,(∀ e S,W P T b Q e S→K e S)→zbr false P T (dsts (l1++o::l2)) l1 e S fun e S=>yhd P T (dsts (l1++o::l2)) o l2 e S K) :
  W P T (.seq (.region id (l1++o::l2).toArray false) b) Q e S:=by
 refine W.seq (W.region_t l1.length ?_)
 have h1:=zjg l1 e S (h _ fun _ _ h=>h)
 refine zxm l1 hg (zq6 ?_ l1 h1)
 rintro e S ⟨s,d,el,x,str,q1,q2,q3,q4,q5,q6,q7,q8⟩
 exact ⟨s,d,el,x,str,q1,q2,q3,q4,q5,q6,q7,zjg l2 _ _ q8⟩
end
end
abbrev eBy (l:Txt):PV := .sl (l.map eB) l.length
theorem z0j {a b:Nat}:((a:Nat):Int).tmod ((b:Nat):Int)=((a % b:Nat):Int):=(Int.ofNat_tmod a b).symm
theorem ye4 {a b:Nat}:((a:Nat):Int).tdiv ((b:Nat):Int)=((a / b:Nat):Int):=(Int.ofNat_tdiv a b).symm
theorem yh2 {a b:Nat} (ha:a<1099511627776) (hb:b<1099511627776):IntKind.i64.wrap ((BitVec.ofInt IntKind.i64.bits (a:Int) ^^^ BitVec.ofInt IntKind.i64.bits (b:Int)).toNat:Int)=((a ^^^ b:Nat):Int):=by
 have h1:(BitVec.ofInt 64 (a:Int)).toNat=a:=by simp [BitVec.toNat_ofInt]; omega
 have h2:(BitVec.ofInt 64 (b:Int)).toNat=b:=by simp [BitVec.toNat_ofInt]; omega
 have h3:(BitVec.ofInt IntKind.i64.bits (a:Int) ^^^ BitVec.ofInt IntKind.i64.bits (b:Int)).toNat=a ^^^ b:=by
  show (BitVec.ofInt 64 (a:Int) ^^^ BitVec.ofInt 64 (b:Int)).toNat=_
  rw [BitVec.toNat_xor,h1,h2]
 have h4:a ^^^ b<1099511627776:=Nat.xor_lt_two_pow (n:=40) ha hb
 rw [h3]
 exact w64 (by omega) (by omega)
theorem ygw {k:Nat}:((k:Nat):Int).tdiv 64=((k / 64:Nat):Int):=(Int.ofNat_tdiv k 64).symm
theorem sf0:((64:Int)=0)=False:=by simp
def rdO (vr:Nat) (code:Txt) (q:Nat):Ob := .arr vr 131 2 [eBy code,.int .i64 (q:Int)]
theorem z6x {code:Txt} (hc:code.length≤1048576):PN Tryz.prog 43 [eBy code] (.ref 0 0 0) [rdO 0 (code.take 2000) 0] true:=by
 refine PN.of ⟨Tryz.func43,by kernel_rfl,rfl,by kernel_rfl⟩ zap mixed (by show 1≤Tryz.f43.ntmps; decide) ?_
 refine W.r fun K hK=>?_
 simp(disch:=omega)only[↓RU,RV,RH,↓reduceIte,qE,reduceCtorEq,if_pos,↓RS,RG,qA,qM,qL]
 apply hK;clear hK K
 refine W.seq ?_
 refine W.r fun K hK=>?_
 simp(disch:=omega)only[↓RU,RV,RH,↓reduceIte,qE,reduceCtorEq,if_pos,w64,↓RS,RG,qA,qM,qL,ty7,zaa,zce]
 apply hK;clear hK K
 refine W.cond rfl (fun h=>?_) (fun h=>?_)
 ·try simp only[RL]at h
  refine W.k fun K hK=>?_
  simp(disch:=omega)only[↓RU,RV,RH,↓reduceIte,qE,reduceCtorEq,if_pos,Option.map_none,↓RS,RG,qA,qM,qL,ty7,zce]
  apply hK;clear hK K
  refine xn ?_
  refine W.r fun K hK=>?_
  simp(disch:=omega)only[↓RU,RV,RH,↓reduceIte,qE,reduceCtorEq,if_pos,↓RS,RG,qA,qM,qL,ty7,zaa,ybe,ybf,zce]
  apply hK;clear hK K
  refine W.ret ?_
  refine Br rfl ?_
  have e:(code.take 2000).length=2000:=by rw [List.length_take]; omega
  refine ⟨1,rfl,?_⟩
  simp [Store.take,zi8,zyy,sh,rdO,eBy,e,List.map_take]
 try simp only[RL]at h
 refine W.skip ?_
 refine xn ?_
 refine W.r fun K hK=>?_
 simp(disch:=omega)only[↓RU,RV,RH,↓reduceIte,qE,reduceCtorEq,if_pos,↓RS,RG,qA,qM,qL,ty7,zaa,ybe,ybf,zce]
 apply hK;clear hK K
 refine W.ret ?_
 refine Br rfl ?_
 have e:code.take 2000=code:=qT (by omega)
 refine ⟨1,rfl,?_⟩
 simp [Store.take,zi8,zyy,sh,rdO,eBy,e]
theorem yas {code:Txt} {q vr t:Nat} {R:List Ob} (hc:code.length≤1048576) (hq:q≤1000000) (n:Int) (hn:n≤1000000) (hn0 : -1000000≤n):Ev Tryz.prog 99 [.ref 0 vr 0,.int .i64 n] ⟨.arr vr 131 2 [eBy code,.int .i64 (q:Int)]::R,t⟩ fun v S=>∃ k:Nat,v = .int .i64 (k:Int)∧(n<1→k=0)∧(1≤n→(k:Int)<n)∧S=⟨.arr vr 131 2 [eBy code,.int .i64 ((q:Int)+1)]::R,t⟩:=by
 refine Ev.of ⟨Tryz.func99,by kernel_rfl,rfl,by kernel_rfl⟩ zap mixed (by show 2≤Tryz.f99.ntmps; decide) ?_
 refine W.r fun K hK=>?_
 simp(disch:=omega)only[↓RU,RV,RH,↓reduceIte,qE,reduceCtorEq,if_pos,↓RS,RG,qA,qM,qL]
 apply hK;clear hK K
 refine W.r fun K hK=>?_
 simp(disch:=omega)only[↓RU,RV,RH,↓reduceIte,qE,reduceCtorEq,if_pos,w64,↓RS,RG,qA,qM,qL,ty7,zaa,ybe,ybf,zce]
 apply hK;clear hK K
 refine W.seq ?_
 refine W.r fun K hK=>?_
 by_cases hn1:n<1
 ·skip
  have hd:decide (n<1)=true:=decide_eq_true hn1
  simp(disch:=omega)only[↓RU,RV,RH,↓reduceIte,qE,reduceCtorEq,if_pos,w64,↓RS,RG,qA,qM,qL,ty7,zaa,ybe,ybf,zce,hd]
  apply hK;clear hK K
  refine W.cond rfl (fun h0=>?_) (fun h0=>?_)
  ·try simp only[RL]at h0
   refine W.r fun K hK=>?_
   simp(disch:=omega)only[↓RU,RV,RH,↓reduceIte,qE,reduceCtorEq,if_pos,↓RS,RG,qA,qM,qL]
   apply hK;clear hK K
   refine W.ret ?_
   refine XThen.ret ?_
   refine Br rfl ?_
   exact ⟨_,0,rfl,fun _=>rfl,fun h9=>by omega,zal⟩
  try simp only[RL]at h0
  exact absurd h0 (by simp)
 skip
 have hd:decide (n<1)=false:=decide_eq_false hn1
 obtain ⟨m,rfl⟩:∃ m:Nat,n=m:=⟨n.toNat,by omega⟩
 simp(disch:=omega)only[↓RU,RV,RH,↓reduceIte,qE,reduceCtorEq,if_pos,w64,↓RS,RG,qA,qM,qL,ty7,zaa,ybe,ybf,zce,hd]
 apply hK;clear hK K
 refine W.cond rfl (fun h0=>?_) (fun h0=>?_)
 ·try simp only[RL]at h0
  have hl0:code.length=0:=by simpa using h0
  refine W.r fun K hK=>?_
  simp(disch:=omega)only[↓RU,RV,RH,↓reduceIte,qE,reduceCtorEq,if_pos,↓RS,RG,qA,qM,qL]
  apply hK;clear hK K
  refine W.ret ?_
  refine XThen.ret ?_
  refine Br rfl ?_
  exact ⟨_,0,rfl,fun _=>rfl,fun h9=>by omega,zal⟩
 try simp only[RL]at h0
 have hl0:code.length≠0:=by intro h9; rw [h9]at h0; simp at h0
 obtain ⟨L,hL⟩:∃ L:Nat,code.length=L:=⟨_,rfl⟩
 have hLi:((L:Int)=0)=False:=by simp; omega
 have hmi:((m:Int)=0)=False:=by simp; omega
 rw [hL]at hl0 hc
 refine W.skip ?_
 refine xn ?_
 refine W.r fun K hK=>?_
 simp(disch:=omega)only[↓RU,RV,RH,↓reduceIte,qE,reduceCtorEq,if_pos,w64,↓RS,RG,qA,qM,qL,ty7,zaa,ybe,ybf,zce]
 apply hK;clear hK K
 simp only[show ((q:Int)+1 - 1)=(q:Int) from by omega]
 refine W.seq ?_
 refine W.r fun K hK=>?_
 simp(disch:=omega)only[↓RU,RV,RH,↓reduceIte,qE,reduceCtorEq,if_pos,w64,↓RS,RG,qA,qM,qL,ty7,zaa,ybe,ybf,zce,hL]
 apply hK;clear hK K
 refine W.cond rfl (fun h1=>?_) (fun h1=>?_)
 ·try simp only[RL]at h1
  obtain ⟨c,hcq,-⟩:=zag (show q<code.length by omega)
  have hc8:=c.toNat_lt
  refine W.r fun K hK=>?_
  simp(disch:=omega)only[↓RU,RV,RH,↓reduceIte,qE,reduceCtorEq,if_pos,w64,w64,↓RS,RG,qA,qM,qL,ty7,zaa,ybe,ybf,zce,hcq,hmi,z0j]
  apply hK;clear hK K
  refine W.ret ?_
  refine XThen.ret ?_
  refine Br rfl ?_
  exact ⟨_,_,rfl,fun h9=>by omega,fun _=>by have:=Nat.mod_lt c.toNat (show 0<m by omega); omega,zal⟩
 try simp only[RL]at h1
 obtain ⟨c1,hc1,-⟩:=zag (show q % L<code.length by rw [hL]; exact Nat.mod_lt _ (by omega))
 obtain ⟨c2,hc2,-⟩:=zag (show (q*7+3) % L<code.length by rw [hL]; exact Nat.mod_lt _ (by omega))
 have hb1:=c1.toNat_lt
 have hb2:=c2.toNat_lt
 have hq7:(q:Int)*7+3=((q*7+3:Nat):Int):=by omega
 obtain ⟨d,hd⟩:∃ d,q / L=d:=⟨_,rfl⟩
 have hqL:d≤q:=hd ▸ Nat.div_le_self _ _
 have hml1:=Nat.mod_lt q (show 0<L by omega)
 have hml2:=Nat.mod_lt (q*7+3) (show 0<L by omega)
 refine W.skip ?_
 refine xn ?_
 refine W.seq_draw (by kernel_rfl) fun K hK=>?_
 simp(disch:=omega)only[↓RU,RV,RH,↓reduceIte,qE,reduceCtorEq,if_pos,w64,w64,↓RS,RG,qA,qM,qL,ty7,zaa,ybe,ybf,zce,hL,hLi,z0j,ye4,hc1,hc2,hq7,hd]
 apply hK;clear hK K
 obtain ⟨Y,hY⟩:∃ Y:Nat,(c1.toNat:Int)*131+(c2.toNat:Int)*1117+(q:Int)*29+(d:Int)*53=Y:=⟨c1.toNat*131+c2.toNat*1117+q*29+d*53,by omega⟩
 have hYb:Y<1099511627776:=by omega
 have hYd:Y / 64<1099511627776:=by omega
 simp only[hY]
 refine W.r fun K hK=>?_
 simp(disch:=omega)only[↓RU,RV,RH,↓reduceIte,qE,reduceCtorEq,if_pos,w64,↓RS,RG,qA,qM,qL,zaa,sf0,ygw,yh2 hYb hYd]
 apply hK;clear hK K
 refine W.r fun K hK=>?_
 simp(disch:=omega)only[↓RU,RV,RH,↓reduceIte,qE,reduceCtorEq,if_pos,w64,↓RS,RG,qA,qM,qL,zaa,hmi,z0j]
 apply hK;clear hK K
 refine W.ret ?_
 refine Br rfl ?_
 exact ⟨_,_,rfl,fun h9=>by omega,fun _=>by have:=Nat.mod_lt (Y ^^^ Y / 64) (show 0<m by omega); omega,zal⟩
def eT:Tm→PV
 | .o => .ip [.int .u8 111,.nils] 0
 | .un c t => .ip [eB c,.sl [eT t] 1] 0
 | .bin m a b => .ip [eB m,.sl [eT a,eT b] 2] 0
def eO:Option Tm→PV
 | some t=>eT t
 | none => .nilp
theorem zfq (t:Tm):∃ cs,eT t = .ip cs 0:=by cases t <;> exact ⟨_,rfl⟩
theorem zt8:eO none = .nilp:=rfl
theorem zjd {t:Tm}:eO (some t)=eT t:=rfl
def hd0 (s:Txt):UInt8:=s.headD 0
def rdT (s:Txt):Option (Tm × Txt):=rd (s.length+1) s
theorem z6j {s:Txt} (h:hd0 s≠0):s.length=s.tail.length+1:=by
 cases s with
 | nil=>exact absurd rfl h
 | cons c s=>rfl
theorem z2i (s:Txt):rdT s=if hd0 s=111 then some (.o,s.tail) else if hd0 s=62∨hd0 s=94 then (match rdT s.tail with | some (t,r)=>some (.un (hd0 s) t,r) | none=>none)
  else if hd0 s=40 then (match rdT s.tail with | some (a,r)=>(if hd0 r=124∨hd0 r=45 then (match rdT r.tail with | some (b,r2)=>(if hd0 r2=41 then some (.bin (hd0 r) a b,r2.tail) else none) | none=>none) else none) | none=>none) else none:=by
 cases s with
 | nil=>simp [rdT,rd,hd0]
 | cons c s =>
  show rd (s.length+1+1) (c::s)=_
  rw [rd]
  by_cases e1:c=111
  ·rw [if_pos e1,if_pos (show hd0 (c::s)=111 from e1)]; rfl
  rw [if_neg e1,if_neg (show ¬ hd0 (c::s)=111 from e1)]
  by_cases e2:c=62∨c=94
  ·rw [if_pos e2,if_pos (show hd0 (c::s)=62∨hd0 (c::s)=94 from e2)]; rfl
  rw [if_neg e2,if_neg (show ¬ (hd0 (c::s)=62∨hd0 (c::s)=94) from e2)]
  by_cases e3:c=40
  ·rw [if_pos e3,if_pos (show hd0 (c::s)=40 from e3)]
   show (match rd (s.length+1) s with | some (a,m::r)=>_ | _=>none)=match rd (s.length+1) s with | some (a,r)=>_ | none=>none
   cases h:rd (s.length+1) s with
   | none=>rfl
   | some q =>
    obtain ⟨a,r⟩:=q
    cases r with
    | nil=>rfl
    | cons m r =>
     have hs:=(z2j _ h).1
     simp only[List.length_cons]at hs
     show (if m=124∨m=45 then _ else none)=if hd0 (m::r)=124∨hd0 (m::r)=45 then (match rd (r.length+1) r with | some (b,r2)=>_ | none=>none) else none
     by_cases e4:m=124∨m=45
     ·rw [if_pos e4,if_pos (show hd0 (m::r)=124∨hd0 (m::r)=45 from e4)]
      rw [yei (s.length+1) (s:=r) (g:=r.length+1) (by omega) (by omega)]
      cases h2:rd (r.length+1) r with
      | none=>rfl
      | some q =>
       obtain ⟨b,r2⟩:=q
       cases r2 with
       | nil=>rfl
       | cons e r2=>rfl
     rw [if_neg e4,if_neg (show ¬ (hd0 (m::r)=124∨hd0 (m::r)=45) from e4)]
  rw [if_neg e3,if_neg (show ¬ hd0 (c::s)=40 from e3)]
def zlu (s:Txt):Option Tm:=(rdT s).map (·.1)
theorem zn1 (s:Txt) {ver t:Nat} (hs:s.length≤1048576):Ev Tryz.prog 104 [.ref 0 ver 0] ⟨[.arr ver 97 1 [.str s]],t⟩ fun v S=>v=eB (hd0 s)∧∃ t2,S=⟨[.arr ver 97 1 [.str s.tail]],t2⟩:=by
 refine Ev.of ⟨Tryz.func104,by kernel_rfl,rfl,by kernel_rfl⟩ zap mixed (by show 1≤Tryz.f104.ntmps; decide) ?_
 refine W.r fun K hK=>?_
 simp(disch:=omega)only[↓RU,RV,RH,↓reduceIte,qE,reduceCtorEq,if_pos,↓RS,RG,qA,qM,qL]
 apply hK;clear hK K
 refine W.seq ?_
 refine W.r fun K hK=>?_
 rcases s with _ | ⟨c,s⟩
 ·skip
  simp(disch:=omega)only[↓RU,RV,RH,↓reduceIte,qE,reduceCtorEq,if_pos,w64,↓RS,RG,qA,qM,qL,ye9,zab,yfa,Int.toNat_zero,Nat.zero_mul,qZ,qM,Nat.zero_add,Nat.mul_one,List.getElem?_cons_zero,List.getElem?_cons_succ]
  apply hK;clear hK K
  refine W.cond rfl (fun h0=>?_) (fun h0=>?_)
  ·try simp only[RL]at h0
   refine W.r fun K hK=>?_
   simp(disch:=omega)only[↓RU,RV,RH,↓reduceIte,qE,reduceCtorEq,if_pos,↓RS,RG,qA,qM,qL]
   apply hK;clear hK K
   refine W.ret ?_
   refine XThen.ret ?_
   refine Br rfl ?_
   exact ⟨1,rfl,_,rfl⟩
  try simp only[RL]at h0
  exact absurd h0 (by simp)
 skip
 simp(disch:=omega)only[↓RU,RV,RH,↓reduceIte,qE,reduceCtorEq,if_pos,w64,↓RS,RG,qA,qM,qL,ye9,zab,yfa,Int.toNat_zero,Nat.zero_mul,qZ,qM,Nat.zero_add,Nat.mul_one,List.getElem?_cons_zero,List.getElem?_cons_succ]
 apply hK;clear hK K
 refine W.cond rfl (fun h0=>?_) (fun h0=>?_)
 ·try simp only[RL]at h0
  exact absurd h0 (by simp)
 try simp only[RL]at h0
 refine W.skip ?_
 refine xn ?_
 refine W.r fun K hK=>?_
 simp(disch:=omega)only[↓RU,RV,RH,↓reduceIte,qE,reduceCtorEq,if_pos,↓RS,RG,qA,qM,qL,ye9,zab,yfa,Int.toNat_zero,Nat.zero_mul,qZ,qM,Nat.zero_add,Nat.mul_one,List.getElem?_cons_zero,List.getElem?_cons_succ]
 apply hK;clear hK K
 refine W.r fun K hK=>?_
 simp(disch:=omega)only[↓RU,RV,RH,↓reduceIte,qE,reduceCtorEq,if_pos,Option.map_none,↓RS,RG,qA,qM,qL,ye9,zab,yfa,Int.toNat_zero,Nat.zero_mul,qZ,qM,Nat.zero_add,Nat.mul_one,List.getElem?_cons_zero,List.getElem?_cons_succ,List.drop_succ_cons,List.drop_zero,List.take_length]
 apply hK;clear hK K
 refine W.r fun K hK=>?_
 simp(disch:=omega)only[↓RU,RV,RH,↓reduceIte,qE,reduceCtorEq,if_pos,↓RS,RG,qA,qM,qL]
 apply hK;clear hK K
 refine W.ret ?_
 refine Br rfl ?_
 exact ⟨1,rfl,_,rfl⟩
def JT (s:Txt) (ver:Nat) (v:PV) (S:Store):Prop:=v=eO (zlu s)∧∃ (s':Txt) (t2:Nat),S=⟨[.arr ver 97 1 [.str s']],t2⟩∧s'.length≤s.length∧∀ u r,rdT s=some (u,r)→s'=r
def JF (s:Txt) (ver:Nat) (v:PV) (S:Store):Prop:=∃ v' S',frz S 1 10 v=some v'∧S.frz 1=some S'∧JT s ver v' S'
theorem u8i {c:UInt8} {k:Nat} (h:c.toNat=k) (hk:k<256):c=UInt8.ofNat k:=by
 apply UInt8.toNat_inj.1
 rw [h,UInt8.toNat_ofNat_of_lt' (by show k<256; omega)]
theorem zhi {S:Store} {lo k o ver off:Nat}:rfz S lo (k+1) (.ref o ver off)=if lo≤o then (S.cellsOf o ver).bind fun cells=>(cells.mapM (rfz S lo k)).map (.ip · off) else none:=rfl
theorem zjp {S:Store} {lo k n:Nat} {cs:List PV}:rfz S lo (k+1) (.ip cs n)=some (.ip cs n):=rfl
theorem zff {S:Store} {lo k:Nat}:rfz S lo (k+1) .nils=some .nils:=rfl
theorem yh1 {c:UInt8}:((c.toNat:Int) == 94)=decide (c=94):=by
 rw [Bool.eq_iff_iff,decide_eq_true_eq,beq_iff_eq]
 exact ⟨fun h=>u8i (k:=94) (by omega) (by decide),fun h=>by rw [h]; rfl⟩
theorem zi0 {cs:List PV} {n:Nat}:(PV.ip cs n).isDef=true:=rfl
theorem z5g {s s2 s4:Txt} (hb:rdT s=match rdT s.tail with | some (a,r)=>(if hd0 r=124∨hd0 r=45 then (match rdT r.tail with | some (b,r2)=>(if hd0 r2=41 then some (.bin (hd0 r) a b,r2.tail) else none) | none=>none) else none) | none=>none) (hr2:∀ u r,rdT s.tail=some (u,r)→s2=r) (hr4:∀ u r,rdT s2.tail=some (u,r)→s4=r) :
  (zlu s.tail=none∧rdT s=none)∨(∃ a,zlu s.tail=some a∧zlu s2.tail=none∧rdT s=none)∨(∃ a b,zlu s.tail=some a∧zlu s2.tail=some b∧((hd0 s2≠124∧hd0 s2≠45∧rdT s=none)∨((hd0 s2=124∨hd0 s2=45)∧hd0 s4=41∧rdT s=some (.bin (hd0 s2) a b,s4.tail))∨((hd0 s2=124∨hd0 s2=45)∧hd0 s4≠41∧rdT s=none))):=by
 cases h1:rdT s.tail with
 | none=>rw [h1]at hb; exact .inl ⟨by rw [zlu,h1]; rfl,hb⟩
 | some q =>
  obtain ⟨a,r⟩:=q
  rw [h1]at hb
  have e2:=hr2 a r h1
  subst e2
  simp only at hb
  cases h2:rdT s2.tail with
  | none=>exact .inr (.inl ⟨a,by rw [zlu,h1]; rfl,by rw [zlu,h2]; rfl,by rw [hb,h2]; split <;> rfl⟩)
  | some q =>
   obtain ⟨b,r⟩:=q
   have e4:=hr4 b r h2
   subst e4
   rw [h2]at hb
   simp only at hb
   refine .inr (.inr ⟨a,b,by rw [zlu,h1]; rfl,by rw [zlu,h2]; rfl,?_⟩)
   by_cases k:hd0 s2=124∨hd0 s2=45
   ·rw [if_pos k]at hb
    by_cases k2:hd0 s4=41
    ·rw [if_pos k2]at hb; exact .inr (.inl ⟨k,k2,hb⟩)
    rw [if_neg k2]at hb; exact .inr (.inr ⟨k,k2,hb⟩)
   rw [if_neg k]at hb
   exact .inl ⟨fun e=>k (.inl e),fun e=>k (.inr e),hb⟩
theorem zf0 {c:UInt8} {k:Nat} (h:c≠UInt8.ofNat k) (hk:k<256):¬ (c.toNat:Int)=(k:Int):=fun e=>h (u8i (by omega) hk)
theorem ze0 {c:UInt8}:(eB c).cells=[eB c]:=rfl
theorem ziz {c:UInt8}:(eB c).isDef=true:=rfl
theorem zoz {c:UInt8}:(eB c).isCell=true:=rfl
theorem zjx {S:Store}:pEq tab S 41 .nilp .nilp=some true:=rfl
theorem zjw {S:Store} {cs:List PV} {n:Nat}:pEq tab S 41 (.ip cs n) .nilp=some false:=rfl
theorem z3p {ver tk:Nat} {s:Txt} {obs:List Ob}:Store.frz ⟨.arr ver 97 1 [.str s]::obs,tk⟩ 1=some ⟨[.arr ver 97 1 [.str s]],tk⟩:=by simp [Store.frz,zcq,zc4,zb7]
theorem JF.mk {s s':Txt} {ver tk:Nat} {v val:PV} {obs:List Ob} (h1:frz ⟨.arr ver 97 1 [.str s']::obs,tk⟩ 1 10 v=some val) (h3:val=eO (zlu s)) (h4:s'.length≤s.length) (h5:∀ u r,rdT s=some (u,r)→s'=r):JF s ver v ⟨.arr ver 97 1 [.str s']::obs,tk⟩ :=
 ⟨val,_,h1,z3p,h3,s',tk,rfl,h4,h5⟩
theorem zjv (s:Txt):s.tail.length≤s.length:=by rw [List.length_tail]; omega
theorem yba (s:Txt) {ver:Nat} (hs:s.length≤1048576) (ih:∀ s2:Txt,s2.length<s.length→∀ t,Ev Tryz.prog 55 [.ref 0 ver 0] ⟨[.arr ver 97 1 [.str s2]],t⟩ (JT s2 ver)) (t:Nat):Ev Tryz.prog 55 [.ref 0 ver 0] ⟨[.arr ver 97 1 [.str s]],t⟩ fun v S=>JF s ver v S:=by
 refine Ev.of ⟨Tryz.func55,by kernel_rfl,rfl,by kernel_rfl⟩ zap mixed (by show 1≤Tryz.f55.ntmps; decide) ?_
 refine W.r fun K hK=>?_
 simp(disch:=omega)only[↓RU,RV,RH,↓reduceIte,qE,reduceCtorEq,if_pos,↓RS,RG,qA,qM,qL]
 apply hK;clear hK K
 refine W.seq ?_
 refine W.r fun K hK=>?_
 simp(disch:=omega)only[↓RU,RV,RH,↓reduceIte,qE,reduceCtorEq,if_pos,qN,↓RS,RG,qA,qM,qL]
 refine zac.ev (zn1 s hs) ?_
 rintro _ _ ⟨rfl,t1,rfl⟩
 simp(disch:=omega)only[↓RU,RV,RH,↓reduceIte,qE,reduceCtorEq,if_pos,qN,↓RS,RG,qA,qM,qL]
 apply hK;clear hK K
 refine W.r fun K hK=>?_
 simp(disch:=omega)only[↓RU,RV,RH,↓reduceIte,qE,reduceCtorEq,if_pos,↓RS,RG,qA,qM,qL]
 apply hK;clear hK K
 refine W.block ?_
 refine W.r fun K hK=>?_
 simp(disch:=omega)only[↓RU,RV,RH,↓reduceIte,qE,reduceCtorEq,if_pos,w64,↓RS,RG,qA,qM,qL,zce]
 apply hK;clear hK K
 refine W.cond rfl (fun h0=>?_) (fun h0=>?_)
 ·try simp only[RL]at h0
  have hc:hd0 s=111:=u8i (k:=111) (by omega) (by decide)
  have hl:=z6j (s:=s) (by rw [hc]; decide)
  have hrd:rdT s=some (.o,s.tail):=by rw [z2i,if_pos hc]
  refine W.r fun K hK=>?_
  simp(disch:=omega)only[↓RU,RV,RH,↓reduceIte,qE,reduceCtorEq,if_pos,↓RS,RG,qA,qM,qL,ty2,ty9,zg4,zg6,zce]
  apply hK;clear hK K
  refine W.ret ?_
  refine XBlock.ret ?_
  refine XThen.ret ?_
  refine Br rfl ?_
  refine ⟨2,JF.mk (val:=eT .o) ?_ ?_ ?_ ?_⟩
  ·simp [Env.put,Env.of,zae,Store.take,zhc,zhi,zbg,zbf,zjp,zff,Store.cellsOf,eB,eT,hc]
  ·rw [zlu,hrd]; rfl
  ·omega
  intro u r h; rw [hrd]at h; cases h; rfl
 try simp only[RL]at h0
 have hc0:¬ hd0 s=111:=fun e=>h0 (by rw [e]; rfl)
 refine W.join [0,3,10,16] (fun vs S=>∃ b:Bool,(b=true↔(hd0 s=62∨hd0 s=94))∧vs=[.ref 0 ver 0,eB (hd0 s),eB (hd0 s),.bool b]∧S=⟨[.arr ver 97 1 [.str s.tail]],t1⟩) ?_ ?_
 ·
  refine W.r fun K hK=>?_
  simp(disch:=omega)only[↓RU,RV,RH,↓reduceIte,qE,reduceCtorEq,if_pos,w64,↓RS,RG,qA,qM,qL,zce]
  apply hK;clear hK K
  refine W.cond rfl (fun h1=>?_) (fun h1=>?_)
  ·try simp only[RL]at h1
   refine W.skip ?_
   refine xn ?_
   refine ⟨1,true,⟨fun _ => .inl (u8i (k:=62) (by omega) (by decide)),fun _=>rfl⟩,?_,rfl⟩
   simp [Env.put,Env.of,zae]; simpa using h1
  try simp only[RL]at h1
  refine W.k fun K hK=>?_
  simp(disch:=omega)only[↓RU,RV,RH,↓reduceIte,qE,reduceCtorEq,if_pos,w64,↓RS,RG,qA,qM,qL,zce]
  apply hK;clear hK K
  refine xn ?_
  refine ⟨1,decide (hd0 s=94),⟨fun e => .inr (of_decide_eq_true e),fun e=>decide_eq_true (e.resolve_left fun e=>h1 (by rw [e]; rfl))⟩,?_,rfl⟩
  simp [Env.put,Env.of,zae,yh1]
 rintro vs S - ⟨b,hb,rfl,rfl⟩
 refine W.cond rfl (fun h2=>?_) (fun h2=>?_)
 ·try simp only[RL]at h2
  have hcu:=hb.1 h2
  have hl:=z6j (s:=s) (by rcases hcu with e | e <;> rw [e] <;> decide)
  have hun:=z2i s
  rw [if_neg hc0,if_pos hcu]at hun
  refine W.r fun K hK=>?_
  simp(disch:=omega)only[↓RU,RV,RH,↓reduceIte,qE,reduceCtorEq,if_pos,qN,↓RS,RG,qA,qM,qL]
  refine zac.ev (ih s.tail (by omega) t1) ?_
  rintro _ _ ⟨rfl,s2,t2,rfl,hs2,hr2⟩
  simp(disch:=omega)only[↓RU,RV,RH,↓reduceIte,qE,reduceCtorEq,if_pos,qN,↓RS,RG,qA,qM,qL]
  apply hK;clear hK K
  refine W.r fun K hK=>?_
  rcases hq:rdT s.tail with _ | ⟨u,r⟩
  ·skip
   have hno:rdT s=none:=by rw [hun,hq]
   have e1:zlu s.tail=none:=by rw [zlu,hq]; rfl
   rw [e1]
   simp only[eO]
   simp(disch:=omega)only[↓RU,RV,RH,↓reduceIte,qE,reduceCtorEq,if_pos,w64,↓RS,RG,qA,qM,qL,ty9,zjx,zjw,qO,Bool.not_true,Bool.not_false]
   apply hK;clear hK K
   refine W.cond rfl (fun h3=>?_) (fun h3=>?_)
   ·try simp only[RL]at h3
    exact absurd h3 (by simp)
   try simp only[RL]at h3
   refine W.skip ?_
   refine XbN ?_
   refine xn ?_
   refine W.r fun K hK=>?_
   simp(disch:=omega)only[↓RU,RV,RH,↓reduceIte,qE,reduceCtorEq,if_pos,↓RS,RG,qA,qM,qL]
   apply hK;clear hK K
   refine W.ret ?_
   refine Br rfl ?_
   refine ⟨1,JF.mk (val := .nilp) ?_ ?_ ?_ ?_⟩
   ·simp [Env.put,Env.of,zae,Store.take,zhc,zhi,zbg,zbf,zjp,zff,Store.cellsOf,eB,eT,zio]
   ·rw [zlu,hno]; rfl
   ·omega
   intro u r h; rw [hno]at h; cases h
  skip
  have hyes:rdT s=some (.un (hd0 s) u,r):=by rw [hun,hq]
  have e1:zlu s.tail=some u:=by rw [zlu,hq]; rfl
  obtain ⟨cu,hcu2⟩:=zfq u
  rw [e1]
  simp only[eO,hcu2]
  obtain rfl:=hr2 u r hq
  simp(disch:=omega)only[↓RU,RV,RH,↓reduceIte,qE,reduceCtorEq,if_pos,w64,↓RS,RG,qA,qM,qL,ty9,zjx,zjw,qO,Bool.not_true,Bool.not_false]
  apply hK;clear hK K
  refine W.cond rfl (fun h3=>?_) (fun h3=>?_)
  ·try simp only[RL]at h3
   refine W.r fun K hK=>?_
   simp(disch:=omega)only[↓RU,RV,RH,↓reduceIte,qE,reduceCtorEq,if_pos,↓RS,RG,qA,qM,qL,ty2,ty9,zg4,zg6,zce,zi0,zl9,zed,ze0,ziz,zoz]
   apply hK;clear hK K
   refine W.ret ?_
   refine XBlock.ret ?_
   refine XThen.ret ?_
   refine Br rfl ?_
   refine ⟨3,JF.mk (val:=eT (.un (hd0 s) u)) ?_ ?_ ?_ ?_⟩
   ·simp [Env.put,Env.of,zae,Store.take,zhc,zhi,zbg,zbf,zjp,zff,Store.cellsOf,eB,eT,hcu2]
   ·rw [zlu,hyes]; rfl
   ·omega
   intro u r h; rw [hyes]at h; cases h; rfl
  try simp only[RL]at h3
  exact absurd h3 (by simp)
 try simp only[RL]at h2
 have hcu:¬ (hd0 s=62∨hd0 s=94):=fun e=>by rw [hb.2 e]at h2; cases h2
 refine W.r fun K hK=>?_
 simp(disch:=omega)only[↓RU,RV,RH,↓reduceIte,qE,reduceCtorEq,if_pos,w64,↓RS,RG,qA,qM,qL,zce]
 apply hK;clear hK K
 refine W.cond rfl (fun h4=>?_) (fun h4=>?_)
 ·try simp only[RL]at h4
  have hc:hd0 s=40:=u8i (k:=40) (by omega) (by decide)
  have hl:=z6j (s:=s) (by rw [hc]; decide)
  have ht1:=zjv s
  have hbin:=z2i s
  rw [if_neg hc0,if_neg hcu,if_pos hc]at hbin
  refine W.r fun K hK=>?_
  simp(disch:=omega)only[↓RU,RV,RH,↓reduceIte,qE,reduceCtorEq,if_pos,qN,↓RS,RG,qA,qM,qL]
  refine zac.ev (ih s.tail (by omega) t1) ?_
  rintro _ _ ⟨rfl,s2,t2,rfl,hs2,hr2⟩
  simp(disch:=omega)only[↓RU,RV,RH,↓reduceIte,qE,reduceCtorEq,if_pos,qN,↓RS,RG,qA,qM,qL]
  apply hK;clear hK K
  refine W.r fun K hK=>?_
  simp(disch:=omega)only[↓RU,RV,RH,↓reduceIte,qE,reduceCtorEq,if_pos,qN,↓RS,RG,qA,qM,qL]
  refine zac.ev (zn1 s2 (by omega)) ?_
  rintro _ _ ⟨rfl,t3,rfl⟩
  simp(disch:=omega)only[↓RU,RV,RH,↓reduceIte,qE,reduceCtorEq,if_pos,qN,↓RS,RG,qA,qM,qL]
  apply hK;clear hK K
  refine W.r fun K hK=>?_
  have ht2:=zjv s2
  simp(disch:=omega)only[↓RU,RV,RH,↓reduceIte,qE,reduceCtorEq,if_pos,qN,↓RS,RG,qA,qM,qL]
  refine zac.ev (ih s2.tail (by omega) t3) ?_
  rintro _ _ ⟨rfl,s4,t4,rfl,hs4,hr4⟩
  simp(disch:=omega)only[↓RU,RV,RH,↓reduceIte,qE,reduceCtorEq,if_pos,qN,↓RS,RG,qA,qM,qL]
  apply hK;clear hK K
  refine W.r fun K hK=>?_
  rcases z5g hbin hr2 hr4 with ⟨e1,hno⟩ | ⟨a,e1,e2,hno⟩ | ⟨a,b2,e1,e2,⟨n1,n2,hno⟩ | ⟨m1 | m1,k1,hyes⟩ | ⟨m1 | m1,k1,hno⟩⟩
  ·skip
   rw [e1,zt8]
   simp(disch:=omega)only[↓RU,RV,RH,↓reduceIte,qE,reduceCtorEq,if_pos,w64,qN,↓RS,RG,qA,qM,qL,ty9,zce,zjx,zjw,qO,Bool.not_true,Bool.not_false]
   apply hK;clear hK K
   refine W.cond rfl (fun h5=>?_) (fun h5=>?_)
   ·try simp only[RL]at h5
    exact absurd h5 (by simp)
   try simp only[RL]at h5
   refine W.skip ?_
   refine XbN ?_
   refine xn ?_
   refine W.r fun K hK=>?_
   simp(disch:=omega)only[↓RU,RV,RH,↓reduceIte,qE,reduceCtorEq,if_pos,↓RS,RG,qA,qM,qL]
   apply hK;clear hK K
   refine W.ret ?_
   refine Br rfl ?_
   refine ⟨1,JF.mk (val := .nilp) ?_ ?_ ?_ ?_⟩
   ·simp [Env.put,Env.of,zae,Store.take,zhc,zhi,zbg,zbf,zjp,zff,Store.cellsOf,eB,eT,zio]
   ·rw [zlu,hno]; rfl
   ·omega
   intro u r h; rw [hno]at h; cases h
  ·skip
   rw [e1,e2]
   obtain ⟨ca,hca⟩:=zfq a
   simp only[zt8,zjd,hca]
   simp(disch:=omega)only[↓RU,RV,RH,↓reduceIte,qE,reduceCtorEq,if_pos,w64,qN,↓RS,RG,qA,qM,qL,ty9,zce,zjx,zjw,qO,Bool.not_true,Bool.not_false]
   apply hK;clear hK K
   refine W.cond rfl (fun h5=>?_) (fun h5=>?_)
   ·try simp only[RL]at h5
    exact absurd h5 (by simp)
   try simp only[RL]at h5
   refine W.skip ?_
   refine XbN ?_
   refine xn ?_
   refine W.r fun K hK=>?_
   simp(disch:=omega)only[↓RU,RV,RH,↓reduceIte,qE,reduceCtorEq,if_pos,↓RS,RG,qA,qM,qL]
   apply hK;clear hK K
   refine W.ret ?_
   refine Br rfl ?_
   refine ⟨1,JF.mk (val := .nilp) ?_ ?_ ?_ ?_⟩
   ·simp [Env.put,Env.of,zae,Store.take,zhc,zhi,zbg,zbf,zjp,zff,Store.cellsOf,eB,eT,zio]
   ·rw [zlu,hno]; rfl
   ·omega
   intro u r h; rw [hno]at h; cases h
  ·skip
   have ht4:=zjv s4
   rw [e1,e2]
   obtain ⟨ca,hca⟩:=zfq a
   obtain ⟨cb,hcb⟩:=zfq b2
   simp only[zjd,hca,hcb]
   have d1:(((hd0 s2).toNat:Int) == 124)=false:=by rw [beq_eq_false_iff_ne]; exact zf0 (k:=124) (by assumption) (by decide)
   have d2:(((hd0 s2).toNat:Int) == 45)=false:=by rw [beq_eq_false_iff_ne]; exact zf0 (k:=45) (by assumption) (by decide)
   simp(disch:=omega)only[↓RU,RV,RH,↓reduceIte,qE,reduceCtorEq,if_pos,w64,qN,↓RS,RG,qA,qM,qL,ty9,zce,zjx,zjw,qO,Bool.not_true,Bool.not_false,d1,d2]
   apply hK;clear hK K
   refine W.cond rfl (fun h5=>?_) (fun h5=>?_)
   ·try simp only[RL]at h5
    exact absurd h5 (by simp)
   try simp only[RL]at h5
   refine W.skip ?_
   refine XbN ?_
   refine xn ?_
   refine W.r fun K hK=>?_
   simp(disch:=omega)only[↓RU,RV,RH,↓reduceIte,qE,reduceCtorEq,if_pos,↓RS,RG,qA,qM,qL]
   apply hK;clear hK K
   refine W.ret ?_
   refine Br rfl ?_
   refine ⟨1,JF.mk (val := .nilp) ?_ ?_ ?_ ?_⟩
   ·simp [Env.put,Env.of,zae,Store.take,zhc,zhi,zbg,zbf,zjp,zff,Store.cellsOf,eB,eT,zio]
   ·rw [zlu,hno]; rfl
   ·omega
   intro u r h; rw [hno]at h; cases h
  ·skip
   have ht4:=zjv s4
   rw [e1,e2]
   obtain ⟨ca,hca⟩:=zfq a
   obtain ⟨cb,hcb⟩:=zfq b2
   simp only[zjd,hca,hcb]
   have d1:(((hd0 s2).toNat:Int) == 124)=true:=by rw [m1]; rfl
   have d3:(((hd0 s4).toNat:Int) == 41)=true:=by rw [k1]; rfl
   simp(disch:=omega)only[↓RU,RV,RH,↓reduceIte,qE,reduceCtorEq,if_pos,w64,qN,↓RS,RG,qA,qM,qL,ty9,zce,zjx,zjw,qO,Bool.not_true,Bool.not_false,d1,d3]
   refine zac.ev (zn1 s4 (by omega)) ?_
   rintro _ _ ⟨rfl,t5,rfl⟩
   simp(disch:=omega)only[↓RU,RV,RH,↓reduceIte,qE,reduceCtorEq,if_pos,w64,qN,↓RS,RG,qA,qM,qL,ty9,zce,zjx,zjw,qO,Bool.not_true,Bool.not_false,d1,d3]
   apply hK;clear hK K
   refine W.cond rfl (fun h5=>?_) (fun h5=>?_)
   ·try simp only[RL]at h5
    refine W.r fun K hK=>?_
    simp(disch:=omega)only[↓RU,RV,RH,↓reduceIte,qE,reduceCtorEq,if_pos,↓RS,RG,qA,qM,qL,ty2,ty9,zg4,zg6,zce,zi0,zl9,zed,ze0,ziz,zoz]
    apply hK;clear hK K
    refine W.ret ?_
    refine XBlock.ret ?_
    refine XThen.ret ?_
    refine Br rfl ?_
    refine ⟨4,JF.mk (val:=eT (.bin (hd0 s2) a b2)) ?_ ?_ ?_ ?_⟩
    ·simp [Env.put,Env.of,zae,Store.take,zhc,zhi,zbg,zbf,zjp,zff,Store.cellsOf,eB,eT,hca,hcb]
    ·rw [zlu,hyes]; rfl
    ·omega
    intro u r h; rw [hyes]at h; cases h; rfl
   try simp only[RL]at h5
   exact absurd h5 (by simp)
  ·skip
   have ht4:=zjv s4
   rw [e1,e2]
   obtain ⟨ca,hca⟩:=zfq a
   obtain ⟨cb,hcb⟩:=zfq b2
   simp only[zjd,hca,hcb]
   have m2:hd0 s2≠UInt8.ofNat 124:=by rw [m1]; decide
   have d1:(((hd0 s2).toNat:Int) == 124)=false:=by rw [beq_eq_false_iff_ne]; exact zf0 (k:=124) (by assumption) (by decide)
   have d2:(((hd0 s2).toNat:Int) == 45)=true:=by rw [m1]; rfl
   have d3:(((hd0 s4).toNat:Int) == 41)=true:=by rw [k1]; rfl
   simp(disch:=omega)only[↓RU,RV,RH,↓reduceIte,qE,reduceCtorEq,if_pos,w64,qN,↓RS,RG,qA,qM,qL,ty9,zce,zjx,zjw,qO,Bool.not_true,Bool.not_false,d1,d2,d3]
   refine zac.ev (zn1 s4 (by omega)) ?_
   rintro _ _ ⟨rfl,t5,rfl⟩
   simp(disch:=omega)only[↓RU,RV,RH,↓reduceIte,qE,reduceCtorEq,if_pos,w64,qN,↓RS,RG,qA,qM,qL,ty9,zce,zjx,zjw,qO,Bool.not_true,Bool.not_false,d1,d2,d3]
   apply hK;clear hK K
   refine W.cond rfl (fun h5=>?_) (fun h5=>?_)
   ·try simp only[RL]at h5
    refine W.r fun K hK=>?_
    simp(disch:=omega)only[↓RU,RV,RH,↓reduceIte,qE,reduceCtorEq,if_pos,↓RS,RG,qA,qM,qL,ty2,ty9,zg4,zg6,zce,zi0,zl9,zed,ze0,ziz,zoz]
    apply hK;clear hK K
    refine W.ret ?_
    refine XBlock.ret ?_
    refine XThen.ret ?_
    refine Br rfl ?_
    refine ⟨4,JF.mk (val:=eT (.bin (hd0 s2) a b2)) ?_ ?_ ?_ ?_⟩
    ·simp [Env.put,Env.of,zae,Store.take,zhc,zhi,zbg,zbf,zjp,zff,Store.cellsOf,eB,eT,hca,hcb]
    ·rw [zlu,hyes]; rfl
    ·omega
    intro u r h; rw [hyes]at h; cases h; rfl
   try simp only[RL]at h5
   exact absurd h5 (by simp)
  ·skip
   have ht4:=zjv s4
   rw [e1,e2]
   obtain ⟨ca,hca⟩:=zfq a
   obtain ⟨cb,hcb⟩:=zfq b2
   simp only[zjd,hca,hcb]
   have d1:(((hd0 s2).toNat:Int) == 124)=true:=by rw [m1]; rfl
   have d3:(((hd0 s4).toNat:Int) == 41)=false:=by rw [beq_eq_false_iff_ne]; exact zf0 (k:=41) (by assumption) (by decide)
   simp(disch:=omega)only[↓RU,RV,RH,↓reduceIte,qE,reduceCtorEq,if_pos,w64,qN,↓RS,RG,qA,qM,qL,ty9,zce,zjx,zjw,qO,Bool.not_true,Bool.not_false,d1,d3]
   refine zac.ev (zn1 s4 (by omega)) ?_
   rintro _ _ ⟨rfl,t5,rfl⟩
   simp(disch:=omega)only[↓RU,RV,RH,↓reduceIte,qE,reduceCtorEq,if_pos,w64,qN,↓RS,RG,qA,qM,qL,ty9,zce,zjx,zjw,qO,Bool.not_true,Bool.not_false,d1,d3]
   apply hK;clear hK K
   refine W.cond rfl (fun h5=>?_) (fun h5=>?_)
   ·try simp only[RL]at h5
    exact absurd h5 (by simp)
   try simp only[RL]at h5
   refine W.skip ?_
   refine XbN ?_
   refine xn ?_
   refine W.r fun K hK=>?_
   simp(disch:=omega)only[↓RU,RV,RH,↓reduceIte,qE,reduceCtorEq,if_pos,↓RS,RG,qA,qM,qL]
   apply hK;clear hK K
   refine W.ret ?_
   refine Br rfl ?_
   refine ⟨1,JF.mk (val := .nilp) ?_ ?_ ?_ ?_⟩
   ·simp [Env.put,Env.of,zae,Store.take,zhc,zhi,zbg,zbf,zjp,zff,Store.cellsOf,eB,eT,zio]
   ·rw [zlu,hno]; rfl
   ·omega
   intro u r h; rw [hno]at h; cases h
  skip
  have ht4:=zjv s4
  rw [e1,e2]
  obtain ⟨ca,hca⟩:=zfq a
  obtain ⟨cb,hcb⟩:=zfq b2
  simp only[zjd,hca,hcb]
  have m2:hd0 s2≠UInt8.ofNat 124:=by rw [m1]; decide
  have d1:(((hd0 s2).toNat:Int) == 124)=false:=by rw [beq_eq_false_iff_ne]; exact zf0 (k:=124) (by assumption) (by decide)
  have d2:(((hd0 s2).toNat:Int) == 45)=true:=by rw [m1]; rfl
  have d3:(((hd0 s4).toNat:Int) == 41)=false:=by rw [beq_eq_false_iff_ne]; exact zf0 (k:=41) (by assumption) (by decide)
  simp(disch:=omega)only[↓RU,RV,RH,↓reduceIte,qE,reduceCtorEq,if_pos,w64,qN,↓RS,RG,qA,qM,qL,ty9,zce,zjx,zjw,qO,Bool.not_true,Bool.not_false,d1,d2,d3]
  refine zac.ev (zn1 s4 (by omega)) ?_
  rintro _ _ ⟨rfl,t5,rfl⟩
  simp(disch:=omega)only[↓RU,RV,RH,↓reduceIte,qE,reduceCtorEq,if_pos,w64,qN,↓RS,RG,qA,qM,qL,ty9,zce,zjx,zjw,qO,Bool.not_true,Bool.not_false,d1,d2,d3]
  apply hK;clear hK K
  refine W.cond rfl (fun h5=>?_) (fun h5=>?_)
  ·try simp only[RL]at h5
   exact absurd h5 (by simp)
  try simp only[RL]at h5
  refine W.skip ?_
  refine XbN ?_
  refine xn ?_
  refine W.r fun K hK=>?_
  simp(disch:=omega)only[↓RU,RV,RH,↓reduceIte,qE,reduceCtorEq,if_pos,↓RS,RG,qA,qM,qL]
  apply hK;clear hK K
  refine W.ret ?_
  refine Br rfl ?_
  refine ⟨1,JF.mk (val := .nilp) ?_ ?_ ?_ ?_⟩
  ·simp [Env.put,Env.of,zae,Store.take,zhc,zhi,zbg,zbf,zjp,zff,Store.cellsOf,eB,eT,zio]
  ·rw [zlu,hno]; rfl
  ·omega
  intro u r h; rw [hno]at h; cases h
 try simp only[RL]at h4
 have hno:rdT s=none:=by rw [z2i,if_neg hc0,if_neg hcu,if_neg fun e=>h4 (by rw [e]; rfl)]
 have ht1:=zjv s
 refine W.skip ?_
 refine XbN ?_
 refine xn ?_
 refine W.r fun K hK=>?_
 simp(disch:=omega)only[↓RU,RV,RH,↓reduceIte,qE,reduceCtorEq,if_pos,↓RS,RG,qA,qM,qL]
 apply hK;clear hK K
 refine W.ret ?_
 refine Br rfl ?_
 refine ⟨1,JF.mk (val := .nilp) ?_ ?_ ?_ ?_⟩
 ·simp [Env.put,Env.of,zae,Store.take,zhc,zhi,zbg,zbf,zjp,zff,Store.cellsOf,eB,eT,zio]
 ·rw [zlu,hno]; rfl
 ·omega
 intro u r h; rw [hno]at h; cases h
theorem ye5 {ver:Nat}:∀ (n:Nat) (s:Txt),s.length≤n→s.length≤1048576→∀ t,Ev Tryz.prog 55 [.ref 0 ver 0] ⟨[.arr ver 97 1 [.str s]],t⟩ (JT s ver):=by
 intro n
 induction n using Nat.strongRecOn with
 | _ n ih =>
  intro s hn hs t
  exact (yba s hs (fun s2 h2 t=>ih s2.length (by omega) s2 (qR _) (by omega) t) t).fz 1 fun v S1 h=>h
theorem ycl {s:Txt} (h1:s.length≤60) (h2:s.count 111≤7):ofT s=match rdT s with | some (t,[])=>some t | _=>none:=by
 unfold ofT
 rw [if_neg (by omega)]
 rfl
theorem z7f {s:Txt} (h:60<s.length∨7<s.count 111):ofT s=none:=by
 unfold ofT
 rw [if_pos h]
theorem zux (t:Tm) {S:Store}:reify S true 10 (eT t)=some (eT t):=by cases t <;> rfl
theorem zyk (s:Txt) (hs:s.length≤1048576):PC Tryz.prog 24 [.str s] (eO (ofT s)) false:=by
 refine PC.of ⟨Tryz.func24,by kernel_rfl,rfl,by kernel_rfl⟩ zap mixed (by show 1≤Tryz.f24.ntmps; decide) ?_
 refine W.r fun K hK=>?_
 simp(disch:=omega)only[↓RU,RV,RH,↓reduceIte,qE,reduceCtorEq,if_pos,↓RS,RG,qA,qM,qL]
 apply hK;clear hK K
 refine W.seq ?_
 refine W.r fun K hK=>?_
 rcases (show 60<s.length∨(s.length≤60∧7<s.count 111)∨(s.length≤60∧s.count 111≤7) by omega) with q1 | ⟨q1,q2⟩ | ⟨q1,q2⟩
 ·skip
  have d1:decide ((s.length:Int)>60)=true:=decide_eq_true (by omega)
  simp(disch:=omega)only[↓RU,RV,RH,↓reduceIte,qE,reduceCtorEq,if_pos,w64,qN,↓RS,RG,qA,qM,qL,zaa,zab,d1]
  apply hK;clear hK K
  refine W.cond rfl (fun h0=>?_) (fun h0=>?_)
  ·try simp only[RL]at h0
   refine W.r fun K hK=>?_
   simp(disch:=omega)only[↓RU,RV,RH,↓reduceIte,qE,reduceCtorEq,if_pos,↓RS,RG,qA,qM,qL]
   apply hK;clear hK K
   refine W.ret ?_
   refine XThen.ret ?_
   refine Br rfl ?_
   rw [z7f (.inl q1)]
   rfl
  try simp only[RL]at h0
  exact absurd h0 (by simp)
 ·skip
  have d1:decide ((s.length:Int)>60)=false:=decide_eq_false (by omega)
  have d2:decide (((s.count 111:Nat):Int)>7)=true:=decide_eq_true (by omega)
  simp(disch:=omega)only[↓RU,RV,RH,↓reduceIte,qE,reduceCtorEq,if_pos,w64,qN,↓RS,RG,qA,qM,qL,zaa,zab,d1,d2]
  refine zac.pc (z02 s) rfl (.inl rfl) ?_
  simp(disch:=omega)only[↓RU,RV,RH,↓reduceIte,qE,reduceCtorEq,if_pos,w64,qN,↓RS,RG,qA,qM,qL,zaa,zab,d1,d2]
  apply hK;clear hK K
  refine W.cond rfl (fun h0=>?_) (fun h0=>?_)
  ·try simp only[RL]at h0
   refine W.r fun K hK=>?_
   simp(disch:=omega)only[↓RU,RV,RH,↓reduceIte,qE,reduceCtorEq,if_pos,↓RS,RG,qA,qM,qL]
   apply hK;clear hK K
   refine W.ret ?_
   refine XThen.ret ?_
   refine Br rfl ?_
   rw [z7f (.inr q2)]
   rfl
  try simp only[RL]at h0
  exact absurd h0 (by simp)
 skip
 have d1:decide ((s.length:Int)>60)=false:=decide_eq_false (by omega)
 have d2:decide (((s.count 111:Nat):Int)>7)=false:=decide_eq_false (by omega)
 simp(disch:=omega)only[↓RU,RV,RH,↓reduceIte,qE,reduceCtorEq,if_pos,w64,qN,↓RS,RG,qA,qM,qL,zaa,zab,d1,d2]
 refine zac.pc (z02 s) rfl (.inl rfl) ?_
 simp(disch:=omega)only[↓RU,RV,RH,↓reduceIte,qE,reduceCtorEq,if_pos,w64,qN,↓RS,RG,qA,qM,qL,zaa,zab,d1,d2]
 apply hK;clear hK K
 refine W.cond rfl (fun h0=>?_) (fun h0=>?_)
 ·try simp only[RL]at h0
  exact absurd h0 (by simp)
 try simp only[RL]at h0
 refine W.skip ?_
 refine xn ?_
 refine W.r fun K hK=>?_
 simp(disch:=omega)only[↓RU,RV,RH,↓reduceIte,qE,reduceCtorEq,if_pos,↓RS,RG,qA,qM,qL,ye9,zab,yfa]
 apply hK;clear hK K
 refine W.r fun K hK=>?_
 simp(disch:=omega)only[↓RU,RV,RH,↓reduceIte,qE,reduceCtorEq,if_pos,qN,↓RS,RG,qA,qM,qL]
 refine zac.ev (ye5 s.length s (qR _) hs _) ?_
 rintro _ _ ⟨rfl,s2,t2,rfl,hs2,hr2⟩
 simp(disch:=omega)only[↓RU,RV,RH,↓reduceIte,qE,reduceCtorEq,if_pos,qN,↓RS,RG,qA,qM,qL]
 apply hK;clear hK K
 refine W.seq ?_
 refine W.r fun K hK=>?_
 rcases s2 with _ | ⟨c,s2⟩
 ·skip
  simp(disch:=omega)only[↓RU,RV,RH,↓reduceIte,qE,reduceCtorEq,if_pos,w64,↓RS,RG,qA,qM,qL,ye9,zab,yfa]
  apply hK;clear hK K
  refine W.cond rfl (fun h1=>?_) (fun h1=>?_)
  ·try simp only[RL]at h1
   exact absurd h1 (by simp)
  try simp only[RL]at h1
  refine W.skip ?_
  refine xn ?_
  refine W.r fun K hK=>?_
  simp(disch:=omega)only[↓RU,RV,RH,↓reduceIte,qE,reduceCtorEq,if_pos,↓RS,RG,qA,qM,qL]
  apply hK;clear hK K
  refine W.ret ?_
  refine Br rfl ?_
  have e:eO (ofT s)=eO (zlu s):=by
   rw [ycl q1 q2,zlu]
   cases h:rdT s with
   | none=>rfl
   | some q=>obtain ⟨t,r⟩:=q; obtain rfl:=hr2 t r h; rfl
  rw [e]
  cases h:zlu s with
  | none=>rfl
  | some q=>exact zux q
 skip
 simp(disch:=omega)only[↓RU,RV,RH,↓reduceIte,qE,reduceCtorEq,if_pos,w64,↓RS,RG,qA,qM,qL,ye9,zab,yfa]
 apply hK;clear hK K
 refine W.cond rfl (fun h1=>?_) (fun h1=>?_)
 ·try simp only[RL]at h1
  refine W.r fun K hK=>?_
  simp(disch:=omega)only[↓RU,RV,RH,↓reduceIte,qE,reduceCtorEq,if_pos,↓RS,RG,qA,qM,qL]
  apply hK;clear hK K
  refine W.ret ?_
  refine XThen.ret ?_
  refine Br rfl ?_
  have e:ofT s=none:=by
   rw [ycl q1 q2]
   cases h:rdT s with
   | none=>rfl
   | some q=>obtain ⟨t,r⟩:=q; obtain rfl:=hr2 t r h; rfl
  rw [e]
  rfl
 try simp only[RL]at h1
 exact absurd h1 (by simp)
section
open Go Go.RowKit
theorem yac (n:Nat) (h2:n≤1000000) (w:World):∃ cs:Array Value,n≤cs.size∧cs.size≤maxLen∧Ending.returned (Value.slice (some ⟨w.heap.size,0,none⟩) 0 (grownCap w n 0 3)) = .returned (.slice (some ⟨w.heap.size,0,none⟩) 0 cs.size) ∧
  (w.alloc (.cells (Builtin.zeroCells #[Value.int IntKind.i64 0] n++Builtin.zeroCells #[Value.int IntKind.i64 0] (grownCap w n 0 3 - n)) 3)).drew=w.drew.alloc (.cells cs 3):=by
 have h1:=grownCap_ge w n 0 3
 have h3:=grownCap_le_maxLen w n 0 3 (by unfold maxLen; omega)
 have hs:(Builtin.zeroCells #[Value.int IntKind.i64 0] n++Builtin.zeroCells #[Value.int IntKind.i64 0] (grownCap w n 0 3 - n)).size=grownCap w n 0 3:=by
  rw [Array.size_append,size_zeroCells,size_zeroCells]
  simp
  omega
 exact ⟨_,by omega,by omega,congrArg (fun k=>Ending.returned (Value.slice (some { block:=w.heap.size,off:=0 }) 0 k)) hs.symm,rfl⟩
set_option maxHeartbeats 1000000 in
set_option maxRecDepth 100000 in
theorem z3r (n:Nat) (h1:1≤n) (h2:n≤1000000) (w:World) :
  Calls Tryz.prog 124 #[.slice none 0 0,.int .i64 n] w fun e w'=>∃ cs:Array Value,n≤cs.size∧cs.size≤maxLen∧e = .returned (.slice (some ⟨w.heap.size,0,none⟩) 0 cs.size)∧w'=w.drew.alloc (.cells cs 3):=by
 go_enter Tryz.func124,Tryz.ntmps124
 go_wp2
 all_goals have hb:Tryz.t3.bytes=8:=rfl
 all_goals try (exfalso; have hns:=nextslicecap_zero (show 0<n by omega); simp only[hb,hns] at *; omega)
 all_goals go_ret
 all_goals exact yac n h2 w
theorem ydo {n t:Nat} (h1:1≤n) (h2:n≤1000000):Ev Tryz.prog 124 [.nils,.int .i64 n] ⟨[],t⟩ fun v S=>v = .loc 0 t 0 0∧S=⟨[.arr t 3 1 []],t+1⟩:=by
 refine ⟨Fn.ent ⟨Tryz.func124,by kernel_rfl,rfl,by kernel_rfl⟩,fun F G w cargs hE hi hl hv=>?_⟩
 obtain ⟨c0,c1,rfl⟩:∃ c0 c1,cargs = #[c0,c1]:=by
  match cargs,hl with
  | ⟨[c0,c1]⟩,_=>exact ⟨c0,c1,rfl⟩
 obtain rfl:c0 = .slice none 0 0:=by
  cases hv 0 _ c0 rfl rfl with
  | imm _ _ h=>cases h; rfl
 obtain rfl:=(hv 1 _ c1 rfl rfl).int
 refine (z3r n h1 h2 w).mono ?_
 rintro e w' ⟨cs,k1,k2,rfl,rfl⟩
 refine zib (K:=fun v S=>v = .loc 0 t 0 0∧S=⟨[.arr t 3 1 []],t+1⟩) (R:=fun cv w'=>∃ v cv' F' G',Ending.returned cv = .returned cv'∧(v = .loc 0 t 0 0∧G'.er=⟨[.arr t 3 1 []],t+1⟩)∧Inv F' G' w'∧Next F G w F' G' w'∧VR w'.heap F' G' v cv') hi
  (fun v cv F' G' w' q1 q2 q3 q4=>⟨v,cv,F',G',rfl,q1,q2,q3,q4⟩) (d:=w.drawn+1) (Nat.le_succ _) (et:=3) (sz:=1) (cells:=[]) (cs:=cs) (by simp) (by simp) (.loc G.er.obs.length G.er.tick 0 0) _
  (fun F' G' w' q1 q2=>zqu F' G' w' q1 q2 rfl (Nat.zero_le _) k2 (by simp)) ?_
 rw [hE]
 exact ⟨rfl,rfl⟩
end
theorem zw1 {s m:UInt8} {a b:Tm}:mv s (.bin m a b)=if s=62 then (if m=124 then .bin 45 (mv s a) (mv s b) else .bin 124 (mv s b) (mv s a))
  else if s=94∧m=124 then .bin 124 (mv s b) (mv s a) else .bin m (mv s a) (mv s b):=by
 conv=>lhs; unfold mv
theorem z1l (s:UInt8):PC Tryz.prog 77 [eT .o,eB s] (eT .o) false:=by
 simp only[eT]
 have d1:((111:Int) == 111)=true:=rfl
 refine PC.of ⟨Tryz.func77,by kernel_rfl,rfl,by kernel_rfl⟩ zap mixed (by show 2≤Tryz.f77.ntmps; decide) ?_
 refine W.r fun K hK=>?_
 simp(disch:=omega)only[↓RU,RV,RH,↓reduceIte,qE,reduceCtorEq,if_pos,↓RS,RG,qA,qM,qL]
 apply hK;clear hK K
 refine W.seq ?_
 refine W.block ?_
 refine W.r fun K hK=>?_
 simp(disch:=omega)only[↓RU,RV,RH,↓reduceIte,qE,reduceCtorEq,if_pos,w64,↓RS,RG,qA,qM,qL,ty2,ty9,zg4,zg6,zce,Int.toNat_zero,Nat.zero_mul,qZ,qM,Nat.zero_add,Nat.mul_one,List.getElem?_cons_zero,List.getElem?_cons_succ,d1]
 apply hK;clear hK K
 refine W.cond rfl (fun h0=>?_) (fun h0=>?_)
 ·try simp only[RL]at h0
  refine W.r fun K hK=>?_
  simp(disch:=omega)only[↓RU,RV,RH,↓reduceIte,qE,reduceCtorEq,if_pos,↓RS,RG,qA,qM,qL]
  apply hK;clear hK K
  refine W.ret ?_
  refine XBlock.ret ?_
  refine XThen.ret ?_
  refine Br rfl ?_
  rfl
 try simp only[RL]at h0
 exact absurd h0 (by simp)
theorem z6u {s c:UInt8} {t u:Tm} (hc:c=62∨c=94) (hp:u.pure) (i1:PC Tryz.prog 77 [eT t,eB c] (eT (mv c u)) false) (i2:PC Tryz.prog 77 [eT (mv c u),eB s] (eT (mv s (mv c u))) false):PC Tryz.prog 77 [eT (.un c t),eB s] (eT (mv s (mv c u))) false:=by
 obtain ⟨ct,hct⟩:=zfq t
 obtain ⟨cv,hcv⟩:=zfq (mv c u)
 rw [hct,hcv]at i1
 rw [hcv]at i2
 simp only[eT,hct]
 have d1:((c.toNat:Int) == 111)=false:=by rcases hc with rfl | rfl <;> rfl
 have dl:(((1:Nat):Int) == 1)=true:=rfl
 refine PC.of ⟨Tryz.func77,by kernel_rfl,rfl,by kernel_rfl⟩ zap mixed (by show 2≤Tryz.f77.ntmps; decide) ?_
 refine W.r fun K hK=>?_
 simp(disch:=omega)only[↓RU,RV,RH,↓reduceIte,qE,reduceCtorEq,if_pos,↓RS,RG,qA,qM,qL]
 apply hK;clear hK K
 refine W.seq ?_
 refine W.block ?_
 refine W.r fun K hK=>?_
 simp(disch:=omega)only[↓RU,RV,RH,↓reduceIte,qE,reduceCtorEq,if_pos,w64,↓RS,RG,qA,qM,qL,ty2,ty9,zg4,zg6,zce,Int.toNat_zero,Nat.zero_mul,qZ,qM,Nat.zero_add,Nat.mul_one,List.getElem?_cons_zero,List.getElem?_cons_succ,d1]
 apply hK;clear hK K
 refine W.cond rfl (fun h0=>?_) (fun h0=>?_)
 ·try simp only[RL]at h0
  exact absurd h0 (by simp)
 try simp only[RL]at h0
 refine W.r fun K hK=>?_
 simp(disch:=omega)only[↓RU,RV,RH,↓reduceIte,qE,reduceCtorEq,if_pos,w64,↓RS,RG,qA,qM,qL,ty2,ty9,zg4,zaa,zg6,zce,Int.toNat_zero,Nat.zero_mul,qZ,qM,Nat.zero_add,Nat.mul_one,List.getElem?_cons_zero,List.getElem?_cons_succ,dl]
 apply hK;clear hK K
 refine W.cond rfl (fun h1=>?_) (fun h1=>?_)
 ·try simp only[RL]at h1
  refine W.seq_draw (by kernel_rfl) fun K hK=>?_
  simp(disch:=omega)only[↓RU,RV,RH,↓reduceIte,qE,reduceCtorEq,if_pos,qN,↓RS,RG,qA,qM,qL,ty2,ty9,zg4,zg6,zce,Int.toNat_zero,Nat.zero_mul,qZ,qM,Nat.zero_add,Nat.mul_one,List.getElem?_cons_zero,List.getElem?_cons_succ]
  refine zac.pc (i1) rfl (.inr rfl) ?_
  simp(disch:=omega)only[↓RU,RV,RH,↓reduceIte,qE,reduceCtorEq,if_pos,qN,↓RS,RG,qA,qM,qL,ty2,ty9,zg4,zg6,zce,Int.toNat_zero,Nat.zero_mul,qZ,qM,Nat.zero_add,Nat.mul_one,List.getElem?_cons_zero,List.getElem?_cons_succ]
  apply hK;clear hK K
  refine W.seq ?_
  refine W.r fun K hK=>?_
  by_cases hs:s=0
  ·skip
   have d2:((s.toNat:Int) == 0)=true:=by rw [hs]; rfl
   simp(disch:=omega)only[↓RU,RV,RH,↓reduceIte,qE,reduceCtorEq,if_pos,w64,↓RS,RG,qA,qM,qL,zce,d2]
   apply hK;clear hK K
   refine W.cond rfl (fun h2=>?_) (fun h2=>?_)
   ·try simp only[RL]at h2
    refine W.r fun K hK=>?_
    simp(disch:=omega)only[↓RU,RV,RH,↓reduceIte,qE,reduceCtorEq,if_pos,↓RS,RG,qA,qM,qL]
    apply hK;clear hK K
    refine W.ret ?_
    refine XThen.ret ?_
    refine XBlock.ret ?_
    refine XThen.ret ?_
    refine Br rfl ?_
    rw [hs,ygg (zzp hp).1,hcv]
    rfl
   try simp only[RL]at h2
   exact absurd h2 (by simp)
  skip
  have hs2:s≠UInt8.ofNat 0:=hs
  have d2:((s.toNat:Int) == 0)=false:=by rw [beq_eq_false_iff_ne]; exact zf0 (k:=0) (by assumption) (by decide)
  simp(disch:=omega)only[↓RU,RV,RH,↓reduceIte,qE,reduceCtorEq,if_pos,w64,↓RS,RG,qA,qM,qL,zce,d2]
  apply hK;clear hK K
  refine W.cond rfl (fun h2=>?_) (fun h2=>?_)
  ·try simp only[RL]at h2
   exact absurd h2 (by simp)
  try simp only[RL]at h2
  refine W.skip ?_
  refine xn ?_
  refine W.r fun K hK=>?_
  simp(disch:=omega)only[↓RU,RV,RH,↓reduceIte,qE,reduceCtorEq,if_pos,qN,↓RS,RG,qA,qM,qL]
  refine zac.pc (i2) rfl (.inr rfl) ?_
  simp(disch:=omega)only[↓RU,RV,RH,↓reduceIte,qE,reduceCtorEq,if_pos,qN,↓RS,RG,qA,qM,qL]
  apply hK;clear hK K
  refine W.ret ?_
  refine XBlock.ret ?_
  refine XThen.ret ?_
  refine Br rfl ?_
  exact zux _
 try simp only[RL]at h1
 exact absurd h1 (by simp)
theorem zsz {s m:UInt8} {a b a2 b2:Tm} (hm:m=124∨m=45) (i1:PC Tryz.prog 77 [eT a,eB s] (eT (mv s a2)) false) (i2:PC Tryz.prog 77 [eT b,eB s] (eT (mv s b2)) false):PC Tryz.prog 77 [eT (.bin m a b),eB s] (eT (mv s (.bin m a2 b2))) false:=by
 obtain ⟨ca,hca⟩:=zfq a
 obtain ⟨cb,hcb⟩:=zfq b
 obtain ⟨da,hda⟩:=zfq (mv s a2)
 obtain ⟨db,hdb⟩:=zfq (mv s b2)
 rw [hca,hda]at i1
 rw [hcb,hdb]at i2
 simp only[eT,hca,hcb]
 have d1:((m.toNat:Int) == 111)=false:=by rcases hm with rfl | rfl <;> rfl
 have dl:(((2:Nat):Int) == 1)=false:=rfl
 refine PC.of ⟨Tryz.func77,by kernel_rfl,rfl,by kernel_rfl⟩ zap mixed (by show 2≤Tryz.f77.ntmps; decide) ?_
 refine W.r fun K hK=>?_
 simp(disch:=omega)only[↓RU,RV,RH,↓reduceIte,qE,reduceCtorEq,if_pos,↓RS,RG,qA,qM,qL]
 apply hK;clear hK K
 refine W.seq ?_
 refine W.block ?_
 refine W.r fun K hK=>?_
 simp(disch:=omega)only[↓RU,RV,RH,↓reduceIte,qE,reduceCtorEq,if_pos,w64,↓RS,RG,qA,qM,qL,ty2,ty9,zg4,zg6,zce,Int.toNat_zero,Nat.zero_mul,qZ,qM,Nat.zero_add,Nat.mul_one,List.getElem?_cons_zero,List.getElem?_cons_succ,d1]
 apply hK;clear hK K
 refine W.cond rfl (fun h0=>?_) (fun h0=>?_)
 ·try simp only[RL]at h0
  exact absurd h0 (by simp)
 try simp only[RL]at h0
 refine W.r fun K hK=>?_
 simp(disch:=omega)only[↓RU,RV,RH,↓reduceIte,qE,reduceCtorEq,if_pos,w64,↓RS,RG,qA,qM,qL,ty2,ty9,zg4,zaa,zg6,zce,Int.toNat_zero,Nat.zero_mul,qZ,qM,Nat.zero_add,Nat.mul_one,List.getElem?_cons_zero,List.getElem?_cons_succ,dl]
 apply hK;clear hK K
 refine W.cond rfl (fun h1=>?_) (fun h1=>?_)
 ·try simp only[RL]at h1
  exact absurd h1 (by simp)
 try simp only[RL]at h1
 refine W.skip ?_
 refine XbN ?_
 refine xn ?_
 refine W.seq_draw (by kernel_rfl) fun K hK=>?_
 simp(disch:=omega)only[↓RU,RV,RH,↓reduceIte,qE,reduceCtorEq,if_pos,qN,↓RS,RG,qA,qM,qL,ty2,ty9,zg4,zg6,zce,Int.toNat_zero,Nat.zero_mul,qZ,qM,Nat.zero_add,Nat.mul_one,List.getElem?_cons_zero,List.getElem?_cons_succ]
 refine zac.pc (i1) rfl (.inr rfl) ?_
 simp(disch:=omega)only[↓RU,RV,RH,↓reduceIte,qE,reduceCtorEq,if_pos,qN,↓RS,RG,qA,qM,qL,ty2,ty9,zg4,zg6,zce,Int.toNat_zero,Nat.zero_mul,qZ,qM,Nat.zero_add,Nat.mul_one,List.getElem?_cons_zero,List.getElem?_cons_succ]
 refine zac.pc (i2) rfl (.inr rfl) ?_
 simp(disch:=omega)only[↓RU,RV,RH,↓reduceIte,qE,reduceCtorEq,if_pos,qN,↓RS,RG,qA,qM,qL,ty2,ty9,zg4,zg6,zce,Int.toNat_zero,Nat.zero_mul,qZ,qM,Nat.zero_add,Nat.mul_one,List.getElem?_cons_zero,List.getElem?_cons_succ]
 apply hK;clear hK K
 refine W.seq ?_
 refine W.block ?_
 refine W.r fun K hK=>?_
 rcases (show (s=62∧m=124)∨(s=62∧m≠124)∨(s≠62∧s=94∧m=124)∨(s≠62∧s=94∧m≠124)∨(s≠62∧s≠94) by by_cases e1:s=62 <;> by_cases e2:s=94 <;> by_cases e3:m=124 <;> simp [e1,e2,e3]) with ⟨s1,m1⟩ | ⟨s1,m1⟩ | ⟨s1,s2,m1⟩ | ⟨s1,s2,m1⟩ | ⟨s1,s2⟩
 ·skip
  have e62:((s.toNat:Int) == 62)=true:=by rw [s1]; rfl
  have f124:((m.toNat:Int) == 124)=true:=by rw [m1]; rfl
  simp(disch:=omega)only[↓RU,RV,RH,↓reduceIte,qE,reduceCtorEq,if_pos,w64,↓RS,RG,qA,qM,qL,ty2,ty9,zg4,zg6,zce,Int.toNat_zero,Nat.zero_mul,qZ,qM,Nat.zero_add,Nat.mul_one,List.getElem?_cons_zero,List.getElem?_cons_succ,e62,f124]
  apply hK;clear hK K
  refine W.cond rfl (fun k2=>?_) (fun k2=>?_)
  ·try simp only[RL]at k2
   refine W.r fun K hK=>?_
   simp(disch:=omega)only[↓RU,RV,RH,↓reduceIte,qE,reduceCtorEq,if_pos,↓RS,RG,qA,qM,qL,ty2,ty9,zg4,zg6,zce,zi0,zl9,zed,ze0,ziz,zoz]
   apply hK;clear hK K
   refine W.ret ?_
   refine XBlock.ret ?_
   refine XThen.ret ?_
   refine Br rfl ?_
   rw [show mv s (.bin m a2 b2) = .bin 45 (mv s a2) (mv s b2) by rw [zw1,if_pos s1,if_pos m1],eT,hda,hdb]
   rfl
  try simp only[RL]at k2
  exact absurd k2 (by simp)
 ·skip
  have m2:m≠UInt8.ofNat 124:=m1
  have e62:((s.toNat:Int) == 62)=true:=by rw [s1]; rfl
  have f124:((m.toNat:Int) == 124)=false:=by rw [beq_eq_false_iff_ne]; exact zf0 (k:=124) (by assumption) (by decide)
  simp(disch:=omega)only[↓RU,RV,RH,↓reduceIte,qE,reduceCtorEq,if_pos,w64,↓RS,RG,qA,qM,qL,ty2,ty9,zg4,zg6,zce,Int.toNat_zero,Nat.zero_mul,qZ,qM,Nat.zero_add,Nat.mul_one,List.getElem?_cons_zero,List.getElem?_cons_succ,e62,f124]
  apply hK;clear hK K
  refine W.cond rfl (fun k2=>?_) (fun k2=>?_)
  ·try simp only[RL]at k2
   exact absurd k2 (by simp)
  try simp only[RL]at k2
  refine W.r fun K hK=>?_
  simp(disch:=omega)only[↓RU,RV,RH,↓reduceIte,qE,reduceCtorEq,if_pos,w64,↓RS,RG,qA,qM,qL,zce,e62]
  apply hK;clear hK K
  refine W.cond rfl (fun k3=>?_) (fun k3=>?_)
  ·try simp only[RL]at k3
   refine W.r fun K hK=>?_
   simp(disch:=omega)only[↓RU,RV,RH,↓reduceIte,qE,reduceCtorEq,if_pos,↓RS,RG,qA,qM,qL,ty2,ty9,zg4,zg6,zce,zi0,zl9,zed,ze0,ziz,zoz]
   apply hK;clear hK K
   refine W.ret ?_
   refine XBlock.ret ?_
   refine XThen.ret ?_
   refine Br rfl ?_
   rw [show mv s (.bin m a2 b2) = .bin 124 (mv s b2) (mv s a2) by rw [zw1,if_pos s1,if_neg m1],eT,hda,hdb]
   rfl
  try simp only[RL]at k3
  exact absurd k3 (by simp)
 ·skip
  have s3:s≠UInt8.ofNat 62:=s1
  have e62:((s.toNat:Int) == 62)=false:=by rw [beq_eq_false_iff_ne]; exact zf0 (k:=62) (by assumption) (by decide)
  have e94:((s.toNat:Int) == 94)=true:=by rw [s2]; rfl
  have f124:((m.toNat:Int) == 124)=true:=by rw [m1]; rfl
  simp(disch:=omega)only[↓RU,RV,RH,↓reduceIte,qE,reduceCtorEq,if_pos,w64,↓RS,RG,qA,qM,qL,ty2,ty9,zg4,zg6,zce,Int.toNat_zero,Nat.zero_mul,qZ,qM,Nat.zero_add,Nat.mul_one,List.getElem?_cons_zero,List.getElem?_cons_succ,e62]
  apply hK;clear hK K
  refine W.cond rfl (fun k2=>?_) (fun k2=>?_)
  ·try simp only[RL]at k2
   exact absurd k2 (by simp)
  try simp only[RL]at k2
  refine W.r fun K hK=>?_
  simp(disch:=omega)only[↓RU,RV,RH,↓reduceIte,qE,reduceCtorEq,if_pos,w64,↓RS,RG,qA,qM,qL,zce,e62]
  apply hK;clear hK K
  refine W.cond rfl (fun k3=>?_) (fun k3=>?_)
  ·try simp only[RL]at k3
   exact absurd k3 (by simp)
  try simp only[RL]at k3
  refine W.r fun K hK=>?_
  simp(disch:=omega)only[↓RU,RV,RH,↓reduceIte,qE,reduceCtorEq,if_pos,w64,↓RS,RG,qA,qM,qL,ty2,ty9,zg4,zg6,zce,Int.toNat_zero,Nat.zero_mul,qZ,qM,Nat.zero_add,Nat.mul_one,List.getElem?_cons_zero,List.getElem?_cons_succ,e94,f124]
  apply hK;clear hK K
  refine W.cond rfl (fun k4=>?_) (fun k4=>?_)
  ·try simp only[RL]at k4
   refine W.r fun K hK=>?_
   simp(disch:=omega)only[↓RU,RV,RH,↓reduceIte,qE,reduceCtorEq,if_pos,↓RS,RG,qA,qM,qL,ty2,ty9,zg4,zg6,zce,zi0,zl9,zed,ze0,ziz,zoz]
   apply hK;clear hK K
   refine W.ret ?_
   refine XBlock.ret ?_
   refine XThen.ret ?_
   refine Br rfl ?_
   rw [show mv s (.bin m a2 b2) = .bin 124 (mv s b2) (mv s a2) by rw [zw1,if_neg s1,if_pos ⟨s2,m1⟩],eT,hda,hdb]
   rfl
  try simp only[RL]at k4
  exact absurd k4 (by simp)
 ·skip
  have s3:s≠UInt8.ofNat 62:=s1
  have m2:m≠UInt8.ofNat 124:=m1
  have e62:((s.toNat:Int) == 62)=false:=by rw [beq_eq_false_iff_ne]; exact zf0 (k:=62) (by assumption) (by decide)
  have e94:((s.toNat:Int) == 94)=true:=by rw [s2]; rfl
  have f124:((m.toNat:Int) == 124)=false:=by rw [beq_eq_false_iff_ne]; exact zf0 (k:=124) (by assumption) (by decide)
  simp(disch:=omega)only[↓RU,RV,RH,↓reduceIte,qE,reduceCtorEq,if_pos,w64,↓RS,RG,qA,qM,qL,ty2,ty9,zg4,zg6,zce,Int.toNat_zero,Nat.zero_mul,qZ,qM,Nat.zero_add,Nat.mul_one,List.getElem?_cons_zero,List.getElem?_cons_succ,e62]
  apply hK;clear hK K
  refine W.cond rfl (fun k2=>?_) (fun k2=>?_)
  ·try simp only[RL]at k2
   exact absurd k2 (by simp)
  try simp only[RL]at k2
  refine W.r fun K hK=>?_
  simp(disch:=omega)only[↓RU,RV,RH,↓reduceIte,qE,reduceCtorEq,if_pos,w64,↓RS,RG,qA,qM,qL,zce,e62]
  apply hK;clear hK K
  refine W.cond rfl (fun k3=>?_) (fun k3=>?_)
  ·try simp only[RL]at k3
   exact absurd k3 (by simp)
  try simp only[RL]at k3
  refine W.r fun K hK=>?_
  simp(disch:=omega)only[↓RU,RV,RH,↓reduceIte,qE,reduceCtorEq,if_pos,w64,↓RS,RG,qA,qM,qL,ty2,ty9,zg4,zg6,zce,Int.toNat_zero,Nat.zero_mul,qZ,qM,Nat.zero_add,Nat.mul_one,List.getElem?_cons_zero,List.getElem?_cons_succ,e94,f124]
  apply hK;clear hK K
  refine W.cond rfl (fun k4=>?_) (fun k4=>?_)
  ·try simp only[RL]at k4
   exact absurd k4 (by simp)
  try simp only[RL]at k4
  refine W.skip ?_
  refine XbN ?_
  refine xn ?_
  refine W.r fun K hK=>?_
  simp(disch:=omega)only[↓RU,RV,RH,↓reduceIte,qE,reduceCtorEq,if_pos,↓RS,RG,qA,qM,qL,ty2,ty9,zg4,zg6,zce,Int.toNat_zero,Nat.zero_mul,qZ,qM,Nat.zero_add,Nat.mul_one,List.getElem?_cons_zero,List.getElem?_cons_succ,zi0,zl9,zed,ze0,ziz,zoz]
  apply hK;clear hK K
  refine W.ret ?_
  refine Br rfl ?_
  rw [show mv s (.bin m a2 b2) = .bin m (mv s a2) (mv s b2) by rw [zw1,if_neg s1,if_neg (fun x=>m1 x.2)],eT,hda,hdb]
  rfl
 skip
 have s3:s≠UInt8.ofNat 62:=s1
 have s4:s≠UInt8.ofNat 94:=s2
 have e62:((s.toNat:Int) == 62)=false:=by rw [beq_eq_false_iff_ne]; exact zf0 (k:=62) (by assumption) (by decide)
 have e94:((s.toNat:Int) == 94)=false:=by rw [beq_eq_false_iff_ne]; exact zf0 (k:=94) (by assumption) (by decide)
 simp(disch:=omega)only[↓RU,RV,RH,↓reduceIte,qE,reduceCtorEq,if_pos,w64,↓RS,RG,qA,qM,qL,ty2,ty9,zg4,zg6,zce,Int.toNat_zero,Nat.zero_mul,qZ,qM,Nat.zero_add,Nat.mul_one,List.getElem?_cons_zero,List.getElem?_cons_succ,e62]
 apply hK;clear hK K
 refine W.cond rfl (fun k2=>?_) (fun k2=>?_)
 ·try simp only[RL]at k2
  exact absurd k2 (by simp)
 try simp only[RL]at k2
 refine W.r fun K hK=>?_
 simp(disch:=omega)only[↓RU,RV,RH,↓reduceIte,qE,reduceCtorEq,if_pos,w64,↓RS,RG,qA,qM,qL,zce,e62]
 apply hK;clear hK K
 refine W.cond rfl (fun k3=>?_) (fun k3=>?_)
 ·try simp only[RL]at k3
  exact absurd k3 (by simp)
 try simp only[RL]at k3
 refine W.r fun K hK=>?_
 simp(disch:=omega)only[↓RU,RV,RH,↓reduceIte,qE,reduceCtorEq,if_pos,w64,↓RS,RG,qA,qM,qL,ty2,ty9,zg4,zg6,zce,Int.toNat_zero,Nat.zero_mul,qZ,qM,Nat.zero_add,Nat.mul_one,List.getElem?_cons_zero,List.getElem?_cons_succ,e94]
 apply hK;clear hK K
 refine W.cond rfl (fun k4=>?_) (fun k4=>?_)
 ·try simp only[RL]at k4
  exact absurd k4 (by simp)
 try simp only[RL]at k4
 refine W.skip ?_
 refine XbN ?_
 refine xn ?_
 refine W.r fun K hK=>?_
 simp(disch:=omega)only[↓RU,RV,RH,↓reduceIte,qE,reduceCtorEq,if_pos,↓RS,RG,qA,qM,qL,ty2,ty9,zg4,zg6,zce,Int.toNat_zero,Nat.zero_mul,qZ,qM,Nat.zero_add,Nat.mul_one,List.getElem?_cons_zero,List.getElem?_cons_succ,zi0,zl9,zed,ze0,ziz,zoz]
 apply hK;clear hK K
 refine W.ret ?_
 refine Br rfl ?_
 rw [show mv s (.bin m a2 b2) = .bin m (mv s a2) (mv s b2) by rw [zw1,if_neg s1,if_neg (fun x=>s2 x.1)],eT,hda,hdb]
 rfl
theorem zzh:∀ (u:Tm),u.pure→∀ s,PC Tryz.prog 77 [eT u,eB s] (eT (mv s u)) false:=by
 intro u
 induction u with
 | o=>intro _ s; exact z1l s
 | un c t _=>intro h; exact h.elim
 | bin m a b h1 h2=>intro h s; exact zsz h.1 (h1 h.2.1 s) (h2 h.2.2 s)
theorem z6t:∀ (t:Tm),t.ok→∀ s,PC Tryz.prog 77 [eT t,eB s] (eT (mv s (td t))) false:=by
 intro t
 induction t with
 | o=>intro _ s; exact z1l s
 | un c t ih =>
  intro h s
  have hp:=(zve h.2).1
  exact z6u h.1 hp (ih h.2 c) (zzh _ (zzp hp).1 s)
 | bin m a b h1 h2=>intro h s; exact zsz h.1 (h1 h.2.1 s) (h2 h.2.2 s)
theorem z9b {t:Tm} (h:t.ok):PC Tryz.prog 34 [eT t] (eT (td t)) false:=by
 have hI:=z6t t h 0
 rw [ygg (zve h).1]at hI
 obtain ⟨ct,hct⟩:=zfq t
 rw [hct]at hI ⊢
 refine PC.of ⟨Tryz.func34,by kernel_rfl,rfl,by kernel_rfl⟩ zap mixed (by show 1≤Tryz.f34.ntmps; decide) ?_
 refine W.r fun K hK=>?_
 simp(disch:=omega)only[↓RU,RV,RH,↓reduceIte,qE,reduceCtorEq,if_pos,↓RS,RG,qA,qM,qL]
 apply hK;clear hK K
 refine W.r fun K hK=>?_
 simp(disch:=omega)only[↓RU,RV,RH,↓reduceIte,qE,reduceCtorEq,if_pos,qN,↓RS,RG,qA,qM,qL]
 refine zac.pc (hI) rfl (.inr rfl) ?_
 simp(disch:=omega)only[↓RU,RV,RH,↓reduceIte,qE,reduceCtorEq,if_pos,qN,↓RS,RG,qA,qM,qL]
 apply hK;clear hK K
 refine W.ret ?_
 refine Br rfl ?_
 exact zux _
theorem z7p {S:Store} {l:List Int} (h:1≤l.length):pEq tab S 31 (eInts l) .nils=some false:=by
 show (if l.length=0 then none else some false)=some false
 rw [if_neg (by omega)]
theorem z5p {l:List Int} (h1:1≤l.length) (hl:l.length≤1048576):PN Tryz.prog 125 [eInts l] (.loc 0 0 0 l.length) [.arr 0 3 1 (l.map (.int .i64))] false:=by
 refine PN.of ⟨Tryz.func125,by kernel_rfl,rfl,by kernel_rfl⟩ zap mixed (by show 1≤Tryz.f125.ntmps; decide) ?_
 refine W.r fun K hK=>?_
 simp(disch:=omega)only[↓RU,RV,RH,↓reduceIte,qE,reduceCtorEq,if_pos,↓RS,RG,qA,qM,qL]
 apply hK;clear hK K
 refine W.seq ?_
 refine W.r fun K hK=>?_
 simp(disch:=omega)only[↓RU,RV,RH,↓reduceIte,qE,reduceCtorEq,if_pos,w64,↓RS,RG,qA,qM,qL,zad,zaa,z7p h1]
 apply hK;clear hK K
 refine W.cond rfl (fun h=>?_) (fun h=>?_)
 ·try simp only[RL]at h
  exact absurd h (by simp)
 try simp only[RL]at h
 refine W.skip ?_
 refine xn ?_
 refine W.r fun K hK=>?_
 simp(disch:=omega)only[↓RU,RV,RH,↓reduceIte,qE,reduceCtorEq,if_pos,↓RS,RG,qA,qM,qL,zad,zaa]
 apply hK;clear hK K
 refine W.ret ?_
 refine Br rfl ?_
 exact z8w rfl (z0b _)
theorem ybi {l:List Int} {k i:Nat} {x:Int} (h:l[i]?=some x):((upL l k).take i++l.drop i).set i (x+(k:Int))=(upL l k).take (i+1)++l.drop (i+1):=by
 have hi:=zbp h
 have hl:((upL l k).take i).length=i:=by rw [List.length_take,zdx]; omega
 have hu:(upL l k)[i]?=some (x+(k:Int)):=by rw [zrw,h]; rfl
 rw [List.set_append_right _ _ (by omega),hl,Nat.sub_self,tk hu,List.drop_eq_getElem_cons hi,List.set_cons_zero]
 simp
theorem yfd {l:List Int} {k i:Nat} {x:Int} (h:l[i]?=some x):((upL l k).take i++l.drop i)[i]?=some x:=by
 have hi:=zbp h
 have hl:((upL l k).take i).length=i:=by rw [List.length_take,zdx]; omega
 rw [List.getElem?_append_right (by omega),hl,Nat.sub_self,List.getElem?_drop,Nat.add_zero,h]
theorem yfe {l:List Int} {k i:Nat} (h:i≤l.length):((upL l k).take i++l.drop i).length=l.length:=by
 rw [List.length_append,List.length_take,zdx,List.length_drop]; omega
theorem zxu {l:List Int} {k:Nat} (h1:1≤l.length) (hl:l.length≤1000) (hk:k≤1000) (hb:∀ (i:Nat) x,l[i]?=some x→0≤x∧x≤1000):PC Tryz.prog 79 [eInts l,.int .i64 k] (eInts (upL l k)) true:=by
 refine PC.of ⟨Tryz.func79,by kernel_rfl,rfl,by kernel_rfl⟩ zap mixed (by show 2≤Tryz.f79.ntmps; decide) ?_
 refine W.r fun K hK=>?_
 simp(disch:=omega)only[↓RU,RV,RH,↓reduceIte,qE,reduceCtorEq,if_pos,↓RS,RG,qA,qM,qL]
 apply hK;clear hK K
 refine W.r fun K hK=>?_
 simp(disch:=omega)only[↓RU,RV,RH,↓reduceIte,qE,reduceCtorEq,if_pos,qN,↓RS,RG,qA,qM,qL]
 refine zac.pn (z5p h1 (by omega)) rfl (.inr rfl) ?_
 simp(disch:=omega)only[↓RU,RV,RH,↓reduceIte,qE,reduceCtorEq,if_pos,qN,↓RS,RG,qA,qM,qL,RN]
 apply hK;clear hK K
 refine W.seq ?_
 refine W.r fun K hK=>?_
 simp(disch:=omega)only[↓RU,RV,RH,↓reduceIte,qE,reduceCtorEq,if_pos,↓RS,RG,qA,qM,qL,zad,zaa]
 apply hK;clear hK K
 refine W.block ?_
 refine W.loop [1,5,10,11] (fun n vs S=>∃ i v tq:Nat,n=l.length - i∧i≤l.length∧vs=[.int .i64 k,.loc 0 v 0 l.length,.int .i64 l.length,.int .i64 i]∧S=⟨[.arr v 3 1 (((upL l k).take i++l.drop i).map (.int .i64))],tq⟩) l.length ?_ ?_
 ·refine ⟨1,0,0,1,rfl,Nat.zero_le _,?_,?_⟩
  all_goals simp [Env.put,Env.of,zae,zck]
 rintro n vs S - ⟨i,v,tq,rfl,h_i,rfl,rfl⟩
 refine W.r fun K hK=>?_
 simp(disch:=omega)only[↓RU,RV,RH,↓reduceIte,qE,reduceCtorEq,if_pos,w64,↓RS,RG,qA,qM,qL,zaa]
 apply hK;clear hK K
 refine W.seq ?_
 refine W.cond rfl (fun h0=>?_) (fun h0=>?_)
 ·try simp only[RL]at h0
  obtain ⟨x,hx,-⟩:=zag (show i<l.length by omega)
  have hxb:=hb i x hx
  have hg:=yfd (k:=k) hx
  have hml:=yfe (l:=l) (k:=k) (i:=i) h_i
  refine W.skip ?_
  refine xn ?_
  refine W.seq ?_
  refine W.block ?_
  refine W.r fun K hK=>?_
  simp(disch:=omega)only[↓RU,RV,RH,↓reduceIte,qE,reduceCtorEq,if_pos,↓RS,RG,qA,qM,qL]
  apply hK;clear hK K
  refine W.k fun K hK=>?_
  simp(disch:=omega)only[↓RU,RV,RH,↓reduceIte,qE,reduceCtorEq,if_pos,w64,↓RS,RG,qA,qM,qL,zad,zaa,hg,zcb,zeb,hml]
  apply hK;clear hK K
  refine XbN ?_
  refine xn ?_
  refine W.k fun K hK=>?_
  simp(disch:=omega)only[↓RU,RV,RH,↓reduceIte,qE,reduceCtorEq,if_pos,w64,↓RS,RG,qA,qM,qL,zaa]
  apply hK;clear hK K
  refine xn ?_
  refine ⟨l.length - (i+1),by omega,1,i+1,v,tq,rfl,by omega,?_,?_⟩
  ·simp [Env.put,Env.of]
  simp only[zck,← ybi hx]; rfl
 try simp only[RL]at h0
 obtain rfl:i=l.length:=by omega
 rw [List.drop_length,qN,qT (by rw [zdx]; exact qR _)]
 refine W.exit ?_
 refine xe ?_
 refine xe ?_
 refine XBlock.hit ?_
 refine xn ?_
 refine W.r fun K hK=>?_
 simp(disch:=omega)only[↓RU,RV,RH,↓reduceIte,qE,reduceCtorEq,if_pos,↓RS,RG,qA,qM,qL]
 apply hK;clear hK K
 refine W.ret ?_
 refine Br rfl ?_
 exact (zcl (k:=9) rfl (by simp [zdx]) (zmc _)).trans (by simp [zdx])
theorem zji {Ls:List (List Int)} {i:Nat} {L:List Int} (h:Ls[i]?=some L):(Ls.take (i+1)).flatten=(Ls.take i).flatten++L:=by rw [tk h]; simp
theorem z57 {Ls:List (List Int)} (i:Nat):(Ls.take i).flatten.length≤Ls.flatten.length:=by
 conv=>rhs; rw [← List.take_append_drop i Ls,List.flatten_append,List.length_append]
 omega
theorem zv1 {Ls:List (List Int)} (hn:Ls.length≤100) (h1:1≤Ls.flatten.length) (hl:Ls.flatten.length≤100000):PC Tryz.prog 78 [.sl (Ls.map eInts) Ls.length] (eInts Ls.flatten) true:=by
 refine PC.of ⟨Tryz.func78,by kernel_rfl,rfl,by kernel_rfl⟩ zap mixed (by show 1≤Tryz.f78.ntmps; decide) ?_
 refine W.r fun K hK=>?_
 simp(disch:=omega)only[↓RU,RV,RH,↓reduceIte,qE,reduceCtorEq,if_pos,↓RS,RG,qA,qM,qL]
 apply hK;clear hK K
 refine W.r fun K hK=>?_
 simp(disch:=omega)only[↓RU,RV,RH,↓reduceIte,qE,reduceCtorEq,if_pos,↓RS,RG,qA,qM,qL]
 apply hK;clear hK K
 refine W.seq ?_
 refine W.r fun K hK=>?_
 simp(disch:=omega)only[↓RU,RV,RH,↓reduceIte,qE,reduceCtorEq,if_pos,↓RS,RG,qA,qM,qL,ty1,zad,zaa]
 apply hK;clear hK K
 refine W.block ?_
 refine W.loop [0,3,9,10,11] (fun n vs S=>∃ i:Nat,n=Ls.length - i∧i≤Ls.length∧vs=[.sl (Ls.map eInts) Ls.length,.int .i64 (Ls.take i).flatten.length,.sl (Ls.map eInts) Ls.length,.int .i64 Ls.length,.int .i64 i]∧S=⟨[],0⟩) Ls.length ?_ ?_
 ·refine ⟨0,0,rfl,Nat.zero_le _,?_,rfl⟩
  simp [Env.put,Env.of,zae]
 rintro n vs S - ⟨i,rfl,h_i,rfl,rfl⟩
 refine W.r fun K hK=>?_
 simp(disch:=omega)only[↓RU,RV,RH,↓reduceIte,qE,reduceCtorEq,if_pos,w64,↓RS,RG,qA,qM,qL,zaa]
 apply hK;clear hK K
 refine W.seq ?_
 refine W.cond rfl (fun h0=>?_) (fun h0=>?_)
 ·try simp only[RL]at h0
  obtain ⟨L,hL,-⟩:=zag (show i<Ls.length by omega)
  have hLe:(Ls.map eInts)[i]?=some (eInts L):=by rw [List.getElem?_map,hL]; rfl
  have hf1:=z57 (Ls:=Ls) (i+1)
  rw [zji hL,List.length_append]at hf1
  refine W.skip ?_
  refine xn ?_
  refine W.seq ?_
  refine W.block ?_
  refine W.r fun K hK=>?_
  simp(disch:=omega)only[↓RU,RV,RH,↓reduceIte,qE,reduceCtorEq,if_pos,↓RS,RG,qA,qM,qL,ty1,zad,zaa,hLe]
  apply hK;clear hK K
  refine W.r fun K hK=>?_
  simp(disch:=omega)only[↓RU,RV,RH,↓reduceIte,qE,reduceCtorEq,if_pos,w64,↓RS,RG,qA,qM,qL,zad,zaa]
  apply hK;clear hK K
  refine W.r fun K hK=>?_
  simp(disch:=omega)only[↓RU,RV,RH,↓reduceIte,qE,reduceCtorEq,if_pos,w64,↓RS,RG,qA,qM,qL,zaa]
  apply hK;clear hK K
  refine W.cond rfl (fun h1x=>?_) (fun h1x=>?_)
  ·try simp only[RL]at h1x
   exfalso; omega
  try simp only[RL]at h1x
  refine W.skip ?_
  refine XbN ?_
  refine xn ?_
  refine W.k fun K hK=>?_
  simp(disch:=omega)only[↓RU,RV,RH,↓reduceIte,qE,reduceCtorEq,if_pos,w64,↓RS,RG,qA,qM,qL,zaa]
  apply hK;clear hK K
  refine xn ?_
  refine ⟨Ls.length - (i+1),by omega,0,i+1,rfl,by omega,?_,rfl⟩
  simp [Env.put,Env.of,zji hL]
 try simp only[RL]at h0
 obtain rfl:i=Ls.length:=by omega
 rw [List.take_length]
 refine W.exit ?_
 refine xe ?_
 refine xe ?_
 refine XBlock.hit ?_
 refine xn ?_
 refine W.r fun K hK=>?_
 simp(disch:=omega)only[↓RU,RV,RH,↓reduceIte,qE,reduceCtorEq,if_pos,qN,↓RS,RG,qA,qM,qL]
 refine zac.ev (ydo (t:=0) h1 (by omega)) ?_
 rintro _ _ ⟨rfl,rfl⟩
 simp(disch:=omega)only[↓RU,RV,RH,↓reduceIte,qE,reduceCtorEq,if_pos,qN,↓RS,RG,qA,qM,qL]
 apply hK;clear hK K
 refine W.seq ?_
 refine W.r fun K hK=>?_
 simp(disch:=omega)only[↓RU,RV,RH,↓reduceIte,qE,reduceCtorEq,if_pos,↓RS,RG,qA,qM,qL,ty1,zad,zaa]
 apply hK;clear hK K
 refine W.block ?_
 refine W.loop [6,25,26,27] (fun n vs S=>∃ i v tq:Nat,n=Ls.length - i∧i≤Ls.length∧vs=[.loc 0 v 0 (Ls.take i).flatten.length,.sl (Ls.map eInts) Ls.length,.int .i64 Ls.length,.int .i64 i]∧S=⟨[.arr v 3 1 ((Ls.take i).flatten.map (.int .i64))],tq⟩) Ls.length ?_ ?_
 ·refine ⟨1,0,0,1,rfl,Nat.zero_le _,?_,rfl⟩
  simp [Env.put,Env.of,zae]
 rintro n vs S - ⟨i,v,tq,rfl,h_i,rfl,rfl⟩
 refine W.r fun K hK=>?_
 simp(disch:=omega)only[↓RU,RV,RH,↓reduceIte,qE,reduceCtorEq,if_pos,w64,↓RS,RG,qA,qM,qL,zaa]
 apply hK;clear hK K
 refine W.seq ?_
 refine W.cond rfl (fun h2=>?_) (fun h2=>?_)
 ·try simp only[RL]at h2
  obtain ⟨L,hL,-⟩:=zag (show i<Ls.length by omega)
  have hLe:(Ls.map eInts)[i]?=some (eInts L):=by rw [List.getElem?_map,hL]; rfl
  have hf1:=z57 (Ls:=Ls) (i+1)
  rw [zji hL,List.length_append]at hf1
  refine W.skip ?_
  refine xn ?_
  refine W.seq ?_
  refine W.block ?_
  refine W.r fun K hK=>?_
  simp(disch:=omega)only[↓RU,RV,RH,↓reduceIte,qE,reduceCtorEq,if_pos,↓RS,RG,qA,qM,qL,ty1,zad,zaa,hLe]
  apply hK;clear hK K
  refine W.k fun K hK=>?_
  simp(disch:=omega)only[↓RU,RV,RH,↓reduceIte,qE,reduceCtorEq,if_pos,↓RS,RG,qA,qM,qL,zad,zaa]
  apply hK;clear hK K
  refine XbN ?_
  refine xn ?_
  refine W.k fun K hK=>?_
  simp(disch:=omega)only[↓RU,RV,RH,↓reduceIte,qE,reduceCtorEq,if_pos,w64,↓RS,RG,qA,qM,qL,zaa]
  apply hK;clear hK K
  refine xn ?_
  refine ⟨Ls.length - (i+1),by omega,1,i+1,tq,tq+1,rfl,by omega,?_,?_⟩
  ·simp [Env.put,Env.of,zji hL]
  rw [zji hL]; simp [zck]
 try simp only[RL]at h2
 obtain rfl:i=Ls.length:=by omega
 rw [List.take_length]
 refine W.exit ?_
 refine xe ?_
 refine xe ?_
 refine XBlock.hit ?_
 refine xn ?_
 refine W.r fun K hK=>?_
 simp(disch:=omega)only[↓RU,RV,RH,↓reduceIte,qE,reduceCtorEq,if_pos,↓RS,RG,qA,qM,qL]
 apply hK;clear hK K
 refine W.ret ?_
 refine Br rfl ?_
 generalize Ls.flatten=F
 exact (zcl (k:=9) rfl (by simp) (zmc _)).trans rfl
theorem yec  : PC Tryz.prog 35 [eT .o] (eInts [0]) true:=by
 simp only[eT]
 refine PC.of ⟨Tryz.func35,by kernel_rfl,rfl,by kernel_rfl⟩ zap mixed (by show 1≤Tryz.f35.ntmps; decide) ?_
 refine W.r fun K hK=>?_
 simp(disch:=omega)only[↓RU,RV,RH,↓reduceIte,qE,reduceCtorEq,if_pos,↓RS,RG,qA,qM,qL]
 apply hK;clear hK K
 refine W.seq ?_
 refine W.r fun K hK=>?_
 simp(disch:=omega)only[↓RU,RV,RH,↓reduceIte,qE,reduceCtorEq,if_pos,w64,↓RS,RG,qA,qM,qL,ty2,ty9,zg4,zaa,zg6,zce,Int.toNat_zero,Nat.zero_mul,qZ,qM,Nat.zero_add,Nat.mul_one,List.getElem?_cons_zero,List.getElem?_cons_succ]
 apply hK;clear hK K
 refine W.cond rfl (fun h0=>?_) (fun h0=>?_)
 ·try simp only[RL]at h0
  refine W.r fun K hK=>?_
  simp(disch:=omega)only[↓RU,RV,RH,↓reduceIte,qE,reduceCtorEq,if_pos,↓RS,RG,qA,qM,qL,zad,zaa]
  apply hK;clear hK K
  refine W.ret ?_
  refine XThen.ret ?_
  refine Br rfl ?_
  rfl
 try simp only[RL]at h0
 exact absurd h0 (by simp)
theorem z7y {m:UInt8} {a b:Tm} {A B:List Int} (hm:m=124∨m=45) (ha1:1≤A.length) (ha:A.length≤100) (hb1:1≤B.length) (hb:B.length≤100) (hbb:∀ (i:Nat) x,B[i]?=some x→0≤x∧x≤1000) (i1:PC Tryz.prog 35 [eT a] (eInts A) false) (i2:PC Tryz.prog 35 [eT b] (eInts B) false):PC Tryz.prog 35 [eT (.bin m a b)] (eInts (if m=124 then A++upL B A.length else upL B A.length++A)) false:=by
 obtain ⟨ca,hca⟩:=zfq a
 obtain ⟨cb,hcb⟩:=zfq b
 rw [hca]at i1
 rw [hcb]at i2
 simp only[eT,hca,hcb]
 have dl:(((2:Nat):Int) == 0)=false:=rfl
 refine PC.of ⟨Tryz.func35,by kernel_rfl,rfl,by kernel_rfl⟩ zap mixed (by show 1≤Tryz.f35.ntmps; decide) ?_
 refine W.r fun K hK=>?_
 simp(disch:=omega)only[↓RU,RV,RH,↓reduceIte,qE,reduceCtorEq,if_pos,↓RS,RG,qA,qM,qL]
 apply hK;clear hK K
 refine W.seq ?_
 refine W.r fun K hK=>?_
 simp(disch:=omega)only[↓RU,RV,RH,↓reduceIte,qE,reduceCtorEq,if_pos,w64,↓RS,RG,qA,qM,qL,ty2,ty9,zg4,zaa,zg6,zce,Int.toNat_zero,Nat.zero_mul,qZ,qM,Nat.zero_add,Nat.mul_one,List.getElem?_cons_zero,List.getElem?_cons_succ,dl]
 apply hK;clear hK K
 refine W.cond rfl (fun h0=>?_) (fun h0=>?_)
 ·try simp only[RL]at h0
  exact absurd h0 (by simp)
 try simp only[RL]at h0
 refine W.skip ?_
 refine xn ?_
 refine W.seq_draw (by kernel_rfl) fun K hK=>?_
 simp(disch:=omega)only[↓RU,RV,RH,↓reduceIte,qE,reduceCtorEq,if_pos,qN,↓RS,RG,qA,qM,qL,ty2,ty9,zg4,zg6,zce,Int.toNat_zero,Nat.zero_mul,qZ,qM,Nat.zero_add,Nat.mul_one,List.getElem?_cons_zero,List.getElem?_cons_succ]
 refine zac.pc (i1) rfl (.inr rfl) ?_
 simp(disch:=omega)only[↓RU,RV,RH,↓reduceIte,qE,reduceCtorEq,if_pos,qN,↓RS,RG,qA,qM,qL,ty2,ty9,zg4,zg6,zce,Int.toNat_zero,Nat.zero_mul,qZ,qM,Nat.zero_add,Nat.mul_one,List.getElem?_cons_zero,List.getElem?_cons_succ]
 refine zac.pc (i2) rfl (.inr rfl) ?_
 simp(disch:=omega)only[↓RU,RV,RH,↓reduceIte,qE,reduceCtorEq,if_pos,qN,↓RS,RG,qA,qM,qL,ty2,ty9,zg4,zg6,zce,Int.toNat_zero,Nat.zero_mul,qZ,qM,Nat.zero_add,Nat.mul_one,List.getElem?_cons_zero,List.getElem?_cons_succ]
 apply hK;clear hK K
 refine W.seq ?_
 refine W.r fun K hK=>?_
 rcases hm with rfl | rfl
 ·skip
  have f1:(((124:UInt8).toNat:Int) == 124)=true:=rfl
  simp(disch:=omega)only[↓RU,RV,RH,↓reduceIte,qE,reduceCtorEq,if_pos,w64,↓RS,RG,qA,qM,qL,ty2,ty9,zg4,zg6,zce,Int.toNat_zero,Nat.zero_mul,qZ,qM,Nat.zero_add,Nat.mul_one,List.getElem?_cons_zero,List.getElem?_cons_succ,f1]
  apply hK;clear hK K
  refine W.cond rfl (fun h1=>?_) (fun h1=>?_)
  ·try simp only[RL]at h1
   refine W.r fun K hK=>?_
   have hC:=zv1 (Ls:=[A,upL B A.length]) (by simp) (by simp; omega) (by simp [zdx]; omega)
   simp(disch:=omega)only[↓RU,RV,RH,↓reduceIte,qE,reduceCtorEq,if_pos,qN,↓RS,RG,qA,qM,qL,ty1,zad,zaa]
   refine zac.pc (zxu (k:=A.length) hb1 (by omega) (by omega) hbb) rfl (.inl rfl) ?_
   simp(disch:=omega)only[↓RU,RV,RH,↓reduceIte,qE,reduceCtorEq,if_pos,qN,↓RS,RG,qA,qM,qL,ty1,zad,zaa]
   refine zac.pc (hC) rfl (.inl rfl) ?_
   simp(disch:=omega)only[↓RU,RV,RH,↓reduceIte,qE,reduceCtorEq,if_pos,qN,↓RS,RG,qA,qM,qL,ty1,zad,zaa]
   apply hK;clear hK K
   refine W.ret ?_
   refine XThen.ret ?_
   refine Br rfl ?_
   rw [if_pos rfl,show A++upL B A.length=[A,upL B A.length].flatten by simp]
   rfl
  try simp only[RL]at h1
  exact absurd h1 (by simp)
 skip
 have f1:(((45:UInt8).toNat:Int) == 124)=false:=rfl
 simp(disch:=omega)only[↓RU,RV,RH,↓reduceIte,qE,reduceCtorEq,if_pos,w64,↓RS,RG,qA,qM,qL,ty2,ty9,zg4,zg6,zce,Int.toNat_zero,Nat.zero_mul,qZ,qM,Nat.zero_add,Nat.mul_one,List.getElem?_cons_zero,List.getElem?_cons_succ,f1]
 apply hK;clear hK K
 refine W.cond rfl (fun h1=>?_) (fun h1=>?_)
 ·try simp only[RL]at h1
  exact absurd h1 (by simp)
 try simp only[RL]at h1
 refine W.skip ?_
 refine xn ?_
 refine W.r fun K hK=>?_
 have hC:=zv1 (Ls:=[upL B A.length,A]) (by simp) (by simp; omega) (by simp [zdx]; omega)
 simp(disch:=omega)only[↓RU,RV,RH,↓reduceIte,qE,reduceCtorEq,if_pos,qN,↓RS,RG,qA,qM,qL,ty1,zad,zaa]
 refine zac.pc (zxu (k:=A.length) hb1 (by omega) (by omega) hbb) rfl (.inl rfl) ?_
 simp(disch:=omega)only[↓RU,RV,RH,↓reduceIte,qE,reduceCtorEq,if_pos,qN,↓RS,RG,qA,qM,qL,ty1,zad,zaa]
 refine zac.pc (hC) rfl (.inl rfl) ?_
 simp(disch:=omega)only[↓RU,RV,RH,↓reduceIte,qE,reduceCtorEq,if_pos,qN,↓RS,RG,qA,qM,qL,ty1,zad,zaa]
 apply hK;clear hK K
 refine W.ret ?_
 refine Br rfl ?_
 rw [if_neg (by decide),show upL B A.length++A=[upL B A.length,A].flatten by simp]
 rfl
theorem yar:∀ (u:Tm),u.pure→u.n≤100→PC Tryz.prog 35 [eT u] (eInts (pm u)) false:=by
 intro u
 induction u with
 | o=>intro _ _; exact yec.old
 | un c t _=>intro h; exact h.elim
 | bin m a b h1 h2 =>
  intro h h7
  have pa:=a.pos
  have pb:=b.pos
  have la:=zmm a
  have lb:=zmm b
  simp only[Tm.n]at h7
  have fB:=(znu b).1
  have:=z7y h.1 (by omega) (by omega) (by omega) (by omega) (fun i x hx=>by have:=fB i x hx; omega) (h1 h.2.1 (by omega)) (h2 h.2.2 (by omega))
  rw [pm]
  exact this
def tqV (s:Txt):Option (List Int):=(ofT s).map fun t=>pm (td t)
def ppI:Option (List Int)→PV
 | some l=>eInts l
 | none => .sl [] 0
theorem z2e {l:List Int}:ppI (some l)=eInts l:=rfl
def ppQ (o:Option (List Int)):PV := .tup [ppI o,.bool o.isSome]
theorem zyl (s:Txt) (hs:s.length≤1048576):PC Tryz.prog 14 [.str s] (ppQ (tqV s)) false:=by
 refine PC.of ⟨Tryz.func14,by kernel_rfl,rfl,by kernel_rfl⟩ zap mixed (by show 1≤Tryz.f14.ntmps; decide) ?_
 refine W.r fun K hK=>?_
 simp(disch:=omega)only[↓RU,RV,RH,↓reduceIte,qE,reduceCtorEq,if_pos,↓RS,RG,qA,qM,qL]
 apply hK;clear hK K
 refine W.r fun K hK=>?_
 simp(disch:=omega)only[↓RU,RV,RH,↓reduceIte,qE,reduceCtorEq,if_pos,qN,↓RS,RG,qA,qM,qL]
 refine zac.pc (zyk s hs) rfl (.inr rfl) ?_
 simp(disch:=omega)only[↓RU,RV,RH,↓reduceIte,qE,reduceCtorEq,if_pos,qN,↓RS,RG,qA,qM,qL]
 apply hK;clear hK K
 refine W.seq ?_
 refine W.r fun K hK=>?_
 rcases ho:ofT s with _ | t
 ·skip
  rw [zt8]
  simp(disch:=omega)only[↓RU,RV,RH,↓reduceIte,qE,reduceCtorEq,if_pos,w64,↓RS,RG,qA,qM,qL,ty9,zjx,zjw,qO]
  apply hK;clear hK K
  refine W.cond rfl (fun h0=>?_) (fun h0=>?_)
  ·try simp only[RL]at h0
   refine W.r fun K hK=>?_
   simp(disch:=omega)only[↓RU,RV,RH,↓reduceIte,qE,reduceCtorEq,if_pos,↓RS,RG,qA,qM,qL]
   apply hK;clear hK K
   refine W.ret ?_
   refine XThen.ret ?_
   refine Br rfl ?_
   rw [show tqV s=none by unfold tqV; rw [ho]; rfl]
   rfl
  try simp only[RL]at h0
  exact absurd h0 (by simp)
 skip
 obtain ⟨cs,hcs⟩:=zfq t
 obtain ⟨ds,hds⟩:=zfq (td t)
 have hok:=yck ho
 have hpu:=zve hok.1
 have hT:=z9b hok.1
 have hP:=yar (td t) hpu.1 (by have:=hok.2.1; omega)
 rw [zjd,hcs]
 rw [hcs,hds]at hT
 rw [hds]at hP
 simp(disch:=omega)only[↓RU,RV,RH,↓reduceIte,qE,reduceCtorEq,if_pos,w64,↓RS,RG,qA,qM,qL,ty9,zjx,zjw,qO]
 apply hK;clear hK K
 refine W.cond rfl (fun h0=>?_) (fun h0=>?_)
 ·try simp only[RL]at h0
  exact absurd h0 (by simp)
 try simp only[RL]at h0
 refine W.skip ?_
 refine xn ?_
 refine W.r fun K hK=>?_
 simp(disch:=omega)only[↓RU,RV,RH,↓reduceIte,qE,reduceCtorEq,if_pos,qN,↓RS,RG,qA,qM,qL]
 refine zac.pc (hT) rfl (.inr rfl) ?_
 simp(disch:=omega)only[↓RU,RV,RH,↓reduceIte,qE,reduceCtorEq,if_pos,qN,↓RS,RG,qA,qM,qL]
 refine zac.pc (hP) rfl (.inr rfl) ?_
 simp(disch:=omega)only[↓RU,RV,RH,↓reduceIte,qE,reduceCtorEq,if_pos,qN,↓RS,RG,qA,qM,qL]
 apply hK;clear hK K
 refine W.ret ?_
 refine Br rfl ?_
 rw [show tqV s=some (pm (td t)) by unfold tqV; rw [ho]; rfl]
 rfl
def zgt:CT→Tm:=CT.fold (fun _=>Tm.o) fun lv x y => .bin (if lv then 45 else 124) x y
theorem zj3 {lv:Bool} {x y:CT}:zgt (.node lv x y) = .bin (if lv then 45 else 124) (zgt x) (zgt y):=rfl
theorem zdf (x:CT):(zgt x).pure∧(zgt x).n=x.leaves.length:=by
 induction x with
 | leaf a=>exact ⟨trivial,rfl⟩
 | node lv x y h1 h2 =>
  rw [zj3]
  refine ⟨⟨?_,h1.1,h2.1⟩,?_⟩
  ·cases lv
   ·exact .inl rfl
   exact .inr rfl
  simp only[Tm.n,CT.leaves,List.length_append,h1.2,h2.2]
def rkC (p:List Txt) (x:CT) (b1:Bool) (a:Nat):Nat:=x.leaves.countP fun b=>bfK p b1 b.toNat a
theorem z2m {p:List Txt} {lv:Bool} {x y:CT} {b1:Bool} {a:Nat}:rkC p (.node lv x y) b1 a=rkC p x b1 a+rkC p y b1 a:=by
 show (x.leaves++y.leaves).countP _=_
 rw [List.countP_append]
 rfl
theorem zu2 {p:List Txt} {x:CT} {b1:Bool} {a:Nat} (h:∀ b∈x.leaves,bfK p b1 b.toNat a=true):rkC p x b1 a=x.leaves.length:=by
 unfold rkC
 rw [List.countP_eq_length]
 exact h
theorem zx3 {p:List Txt} {x:CT} {b1:Bool} {a:Nat} (h:∀ b∈x.leaves,bfK p b1 b.toNat a=false):rkC p x b1 a=0:=by
 unfold rkC
 rw [List.countP_eq_zero]
 intro b hb
 rw [h b hb]; decide
theorem zt5 {p:List Txt} (hp:zb5 p=true):∀ (n:Nat) {t:Pt} {x:CT},Whole (zak p) p.length (zao p).length t→t.h*t.w≤n→zdq (zak p) t=some x →
  ∀ a∈x.leaves,(pm (zgt x))[rkC p x true a.toNat]?=some ((rkC p x false a.toNat:Nat):Int)
 | 0,t,x,hw,hn',_=>by have:=Nat.mul_pos hw.inn.1 hw.inn.2.1; omega
 | n+1,t,x,hw,hn',hx=>by
  have hpl:=zd6 hp
  have hi:=hw.inn
  cases h1:zw4 (zak p) t with
  | true =>
   have hx2:=zjz hi h1
   rw [hx]at hx2
   cases hx2
   intro a ha
   have hal:=(zpa hpl hw hx a.toNat).1 (by
    simp only[CT.leaves,List.mem_singleton]at ha ⊢
    have hc:=zei hpl (i:=t.r) (j:=t.c) (by unfold Pt.In at hi; omega) (by unfold Pt.In at hi; omega)
    omega)
   have hlt:=z2n hpl hi hal
   have irr:∀ b1,bfK p b1 a.toNat a.toNat=false:=by
    intro b1
    cases h:bfK p b1 a.toNat a.toNat with
    | false=>rfl
    | true=>have:=(zik hp hlt hlt).1 h; omega
   have e:∀ b1,rkC p (.leaf (zak p t.r t.c)) b1 a.toNat=0:=fun b1=>zx3 fun b hb=>by
    simp only[CT.leaves,List.mem_singleton]at ha hb
    subst ha; subst hb; exact irr b1
   rw [e,e]; rfl
  | false =>
   cases hq:zd2 (zak p) t with
   | none=>rw [zii hi h1 hq]at hx; cases hx
   | some q =>
    obtain ⟨i1,i2,a1,a2⟩:=hi.cut hq
    obtain ⟨w1,w2⟩:=hw.cut (zfx hpl) hq
    rw [zge hi h1 hq]at hx
    cases hx1:zdq (zak p) (t.one q) with
    | none=>rw [hx1]at hx; cases hx
    | some x1 =>
     cases hx2:zdq (zak p) (t.two q) with
     | none=>rw [hx1,hx2]at hx; cases hx
     | some x2 =>
      rw [hx1,hx2]at hx
      cases hx
      have s1:=zt5 hp n w1 (by omega) hx1
      have s2:=zt5 hp n w2 (by omega) hx2
      have hs:=z5x hp hw hq hx1 hx2
      have l1:∀ a∈x1.leaves,a.toNat<(rP p).length:=fun a ha=>by
       have hnn:((a.toNat:Nat):Int)=a:=by
        obtain ⟨i,j,e1,e2,e3,e4,e5⟩:=((zds (zfx hpl) _ w1 (qR _) hx1).2.1 a).1 ha
        have:=zei hpl (i:=i) (j:=j) (by unfold Pt.In at i1; omega) (by unfold Pt.In at i1; omega)
        omega
       exact z2n hpl i1 ((zpa hpl w1 hx1 a.toNat).1 (by rw [hnn]; exact ha))
      have l2:∀ a∈x2.leaves,a.toNat<(rP p).length:=fun a ha=>by
       have hnn:((a.toNat:Nat):Int)=a:=by
        obtain ⟨i,j,e1,e2,e3,e4,e5⟩:=((zds (zfx hpl) _ w2 (qR _) hx2).2.1 a).1 ha
        have:=zei hpl (i:=i) (j:=j) (by unfold Pt.In at i2; omega) (by unfold Pt.In at i2; omega)
        omega
       exact z2n hpl i2 ((zpa hpl w2 hx2 a.toNat).1 (by rw [hnn]; exact ha))
      have n1:(pm (zgt x1)).length=x1.leaves.length:=by rw [zmm,(zdf x1).2]
      have n2:(pm (zgt x2)).length=x2.leaves.length:=by rw [zmm,(zdf x2).2]
      intro a ha
      rw [zj3,z2m,z2m]
      cases hlv:q.1 with
      | false =>
       have key:∀ c d,c∈x1.leaves→d∈x2.leaves→Lf p c.toNat d.toNat:=fun c d hc hd=>(hs c d hc hd).1 hlv
       have t1:∀ b1 c d,c∈x1.leaves→d∈x2.leaves→bfK p b1 c.toNat d.toNat=true∧bfK p b1 d.toNat c.toNat=false:=by
        intro b1 c d hc hd
        have hL:=key c d hc hd
        refine ⟨zfp.2 (.inl hL),?_⟩
        obtain ⟨o1,o2,o3⟩:=hL.only hp (l1 c hc) (l2 d hd)
        cases h:bfK p b1 d.toNat c.toNat with
        | false=>rfl
        | true =>
         rw [zfp]at h
         cases b1 <;> simp only[qF,if_false,if_true]at h <;> rcases h with h | h
         ·exact absurd h o1
         ·exact absurd h o3
         ·exact absurd h o1
         exact absurd h o2
       simp only[qF,if_false]
       rw [pm,if_pos rfl]
       rcases List.mem_append.1 ha with h | h
       ·rw [zx3 (x:=x2) (b1:=true) fun b hb=>(t1 true a b h hb).2,zx3 (x:=x2) (b1:=false) fun b hb=>(t1 false a b h hb).2,Nat.add_zero,Nat.add_zero]
        have e:=s1 a h
        rw [List.getElem?_append_left (zbp e)]; exact e
       rw [zu2 (x:=x1) (b1:=true) fun b hb=>(t1 true b a hb h).1,zu2 (x:=x1) (b1:=false) fun b hb=>(t1 false b a hb h).1]
       rw [List.getElem?_append_right (by omega),n1,Nat.add_sub_cancel_left,zrw,s2 a h,qO]
       congr 1; omega
      | true =>
       have key:∀ c d,c∈x1.leaves→d∈x2.leaves→Ab p c.toNat d.toNat:=fun c d hc hd=>(hs c d hc hd).2 hlv
       have t1:∀ c d,c∈x1.leaves→d∈x2.leaves→bfK p false c.toNat d.toNat=true∧bfK p false d.toNat c.toNat=false∧bfK p true d.toNat c.toNat=true∧bfK p true c.toNat d.toNat=false:=by
        intro c d hc hd
        have hA:=key c d hc hd
        obtain ⟨o1,o2,o3⟩:=hA.only hp (l1 c hc) (l2 d hd)
        refine ⟨zfp.2 (.inr hA),?_,zfp.2 (.inr hA),?_⟩
        ·cases h:bfK p false d.toNat c.toNat with
         | false=>rfl
         | true =>
          rw [zfp]at h
          simp only[qF,if_false]at h
          rcases h with h | h
          ·exact absurd h o3
          exact absurd h o1
        cases h:bfK p true c.toNat d.toNat with
        | false=>rfl
        | true =>
         rw [zfp]at h
         simp only[if_true]at h
         rcases h with h | h
         ·exact absurd h o2
         exact absurd h o1
       simp only[if_true]
       rw [pm,if_neg (by decide)]
       have hu:(upL (pm (zgt x2)) (pm (zgt x1)).length).length=x2.leaves.length:=by rw [zdx,n2]
       rcases List.mem_append.1 ha with h | h
       ·rw [zu2 (x:=x2) (b1:=true) fun b hb=>(t1 a b h hb).2.2.1,zx3 (x:=x2) (b1:=false) fun b hb=>(t1 a b h hb).2.1,Nat.add_zero]
        rw [List.getElem?_append_right (by omega),hu,Nat.add_sub_cancel]; exact s1 a h
       rw [zx3 (x:=x1) (b1:=true) fun b hb=>(t1 b a hb h).2.2.2,zu2 (x:=x1) (b1:=false) fun b hb=>(t1 b a hb h).1,Nat.zero_add]
       have e:=s2 a h
       rw [List.getElem?_append_left (by rw [zdx]; exact zbp e),zrw,e,qO,n1]
       congr 1; omega
theorem zp2 {p:List Txt} (hp:zb5 p=true) {x:CT} (hx:zdq (zak p) (zk2 p)=some x):zif p=pm (zgt x)∧x.leaves.length=(rP p).length:=by
 have hpl:=zd6 hp
 have hw:=zna hpl
 obtain ⟨nd,-,-⟩:=zds (zfx hpl) _ hw (qR _) hx
 have hmem:∀ v:Nat,(v:Int)∈x.leaves↔v<(rP p).length:=fun v=>by rw [zpa hpl hw hx,yc6 hpl]
 have hnn:∀ a∈x.leaves,((a.toNat:Nat):Int)=a:=fun a ha=>by
  obtain ⟨i,j,e1,e2,e3,e4,e5⟩:=((zds (zfx hpl) _ hw (qR _) hx).2.1 a).1 ha
  have hi:=hw.inn
  have:=zei hpl (i:=i) (j:=j) (by unfold Pt.In at hi; omega) (by unfold Pt.In at hi; omega)
  omega
 have hperm:(x.leaves.map Int.toNat).Perm (List.range (rP p).length):=by
  refine (List.perm_ext_iff_of_nodup ?_ List.nodup_range).2 fun v=>?_
  ·rw [List.nodup_iff_pairwise_ne]at nd ⊢
   rw [List.pairwise_map]
   refine nd.imp_of_mem fun {a b} ha hb hne e=>hne ?_
   rw [← hnn a ha,← hnn b hb,e]
  rw [List.mem_range,← hmem v,List.mem_map]
  constructor
  ·rintro ⟨a,ha,rfl⟩; rw [hnn a ha]; exact ha
  intro h; exact ⟨(v:Int),h,by simp⟩
 have hrk:∀ b1 a,rkC p x b1 a=ahK p b1 a:=by
  intro b1 a
  unfold rkC ahK
  rw [← hperm.countP_eq,List.countP_map]
  rfl
 have hlen:x.leaves.length=(rP p).length:=by
  have:=hperm.length_eq
  rw [List.length_map,List.length_range]at this
  exact this
 refine ⟨?_,hlen⟩
 apply List.ext_getElem?
 intro i
 by_cases hi:i<(rP p).length
 ·obtain ⟨a,ha,rfl⟩:=zz0 hp hi
  have:=zt5 hp _ hw (qR _) hx (a:Int) ((hmem a).2 ha)
  rw [Int.toNat_natCast,hrk,hrk]at this
  rw [zfv hp ha,this]
 rw [List.getElem?_eq_none (by rw [zej]; omega),List.getElem?_eq_none (by rw [zmm,(zdf x).2]; omega)]
def txT:Tm→Txt
 | .o=>[111]
 | .un c t=>c::txT t
 | .bin m a b=>40::(txT a++m::(txT b++[41]))
theorem zh6 {u:Tm} (h:u.pure):(txT u).length+3=4*u.n∧(txT u).count 111=u.n:=by
 induction u with
 | o=>exact ⟨rfl,rfl⟩
 | un c t _=>exact h.elim
 | bin m a b h1 h2 =>
  obtain ⟨k1,k2⟩:=h1 h.2.1
  obtain ⟨k3,k4⟩:=h2 h.2.2
  have e1:=List.count_cons_of_ne (a:=111) (b:=m) (l:=txT b++[41]) (by rcases h.1 with rfl | rfl <;> decide)
  constructor
  ·simp only[txT,List.length_cons,List.length_append,List.length_nil,Tm.n]; omega
  simp only[txT,Tm.n]
  rw [List.count_cons_of_ne (by decide),List.count_append,e1,List.count_append,k2,k4]
  rfl
theorem ygm {u:Tm} (h:u.pure):∀ (f:Nat) (r:Txt),(txT u).length≤f→rd f (txT u++r)=some (u,r):=by
 induction u with
 | o =>
  intro f r hf
  obtain ⟨f,rfl⟩:∃ k,f=k+1:=⟨f - 1,by simp [txT]at hf; omega⟩
  rfl
 | un c t _=>exact h.elim
 | bin m a b h1 h2 =>
  intro f r hf
  simp only[txT,List.length_cons,List.length_append,List.length_nil]at hf
  obtain ⟨f,rfl⟩:∃ k,f=k+1:=⟨f - 1,by omega⟩
  have e1:=h1 h.2.1 f (m::(txT b++[41]++r)) (by omega)
  have e2:=h2 h.2.2 f (41::r) (by omega)
  rw [show txT (.bin m a b)++r=40::(txT a++m::(txT b++[41]++r)) by simp [txT]]
  rw [rd,if_neg (by decide),if_neg (by decide),if_pos rfl,e1]
  simp only
  rw [if_pos h.1,show txT b++[41]++r=txT b++41::r by simp,e2]
  simp
theorem yd8 {u:Tm} (h:u.pure) (h7:u.n≤7):ofT (txT u)=some u:=by
 obtain ⟨k1,k2⟩:=zh6 h
 unfold ofT
 rw [if_neg (by omega)]
 have:=ygm h ((txT u).length+1) [] (by omega)
 rw [qN]at this
 rw [this]
theorem zpe {S:Store} {x t:Rect}:pEq tab S 79 (zr1 x) (.agg [.int .i64 t.row,.int .i64 t.col,.int .i64 t.high,.int .i64 t.wide])=some (decide (x=t)):=by
 have h:(tab 79).kd = .struct [(0,3),(1,3),(2,3),(3,3)]:=by kernel_rfl
 have h2:zhe tab [(0,3),(1,3),(2,3),(3,3)] 0=true:=by kernel_rfl
 obtain ⟨b1,b2,b3,b4⟩:=x
 obtain ⟨o1,o2,o3,o4⟩:=t
 unfold pEq
 rw [h]
 simp [h2,Rect.cells,zqj]
def slO (l:List Int) (v:Nat):PV:=match l with | [] => .nils | _ => .loc 1 v 0 l.length
def stO (b:Ob) (l:List Int) (v t:Nat):Store:=match l with | []=>⟨[b],t⟩ | _=>⟨[b,.arr v 3 1 (l.map (.int .i64))],t⟩
theorem zu8 {v:Nat}:slO [] v = .nils:=rfl
theorem zu9 {b:Ob} {v t:Nat}:stO b [] v t=⟨[b],t⟩:=rfl
theorem zye {l:List Int} {v:Nat} (h:l≠[]):slO l v = .loc 1 v 0 l.length:=by cases l with | nil=>exact absurd rfl h | cons a l=>rfl
theorem zyi {b:Ob} {l:List Int} {v t:Nat} (h:l≠[]):stO b l v t=⟨[b,.arr v 3 1 (l.map (.int .i64))],t⟩:=by cases l with | nil=>exact absurd rfl h | cons a l=>rfl
theorem z8b {b:Ob} {l:List Int} {v t:Nat} {im:Bool} {k:Nat}:reify (stO b l v t) im (k+2) (slO l v)=some (eInts l):=by
 cases l with
 | nil=>rfl
 | cons a l=>exact zcl (k:=k+1) (S:=⟨[b,.arr v 3 1 ((a::l).map (.int .i64))],t⟩) (o:=1) rfl (by simp) (zmc _)
theorem zng {g:List (List Int)} {rs:List Rect}:(zaz g rs).isDef=true:=rfl
theorem z6r (b:Rect) (t:Rect) (l:List Int):(t.both b≠t∧l=[])∨(t.both b≠t∧l≠[])∨(t.both b=t∧l=[])∨(t.both b=t∧l≠[]):=by
 by_cases h:t.both b=t <;> by_cases e:l=[] <;> simp [h,e]
theorem z62 (g:List (List Int)) {rs:List Rect} (hrs:rs.length≤1000) (hfit:∀ b∈rs,b.Fit) {t:Rect} (ht:t.Fit):PC Tryz.prog 91 [zje g rs t] (eInts (rms rs t)) true:=by
 simp only[zje,Rect.cells]
 refine PC.of ⟨Tryz.func91,by kernel_rfl,rfl,by kernel_rfl⟩ zap mixed (by show 1≤Tryz.f91.ntmps; decide) ?_
 refine W.r fun K hK=>?_
 simp(disch:=omega)only[↓RU,RV,RH,↓reduceIte,qE,reduceCtorEq,if_pos,↓RS,RG,qA,qM,qL,ty8,zch,za5,zaa,zci,za6]
 apply hK;clear hK K
 refine W.r fun K hK=>?_
 simp(disch:=omega)only[↓RU,RV,RH,↓reduceIte,qE,reduceCtorEq,if_pos,↓RS,RG,qA,qM,qL]
 apply hK;clear hK K
 refine W.seq ?_
 refine W.r fun K hK=>?_
 simp(disch:=omega)only[↓RU,RV,RH,↓reduceIte,qE,reduceCtorEq,if_pos,↓RS,RG,qA,qM,qL,ty1,ty4,zad,ty8,zet,zc8,zch,za5,zaa,zci,zeu,za6]
 apply hK;clear hK K
 refine W.block ?_
 refine W.loopS [1,10,11,12,3] (fun n vs S=>∃ i v tk:Nat,n=rs.length - i∧i≤rs.length∧vs=[.ref 0 0 0,zn9 rs,.int .i64 rs.length,.int .i64 i,slO (zg1 rs t i) v]∧S=stO (.arr 0 81 5 [zaz g rs,.int .i64 t.row,.int .i64 t.col,.int .i64 t.high,.int .i64 t.wide]) (zg1 rs t i) v tk) rs.length ?_ ?_
 ·refine ⟨1,[],[.ref 0 0 0,zn9 rs,.int .i64 rs.length,.int .i64 (0:Nat),slO [] 0],stO (.arr 0 81 5 [zaz g rs,.int .i64 t.row,.int .i64 t.col,.int .i64 t.high,.int .i64 t.wide]) [] 0 2,?_,?_,0,0,2,rfl,by omega,rfl,rfl⟩
  ·simp [-qU,Env.put,Env.of,zae,zbv,zaj,zan,zau,zaw,zb1,zb2,zdc,zb0,zbb,zb3,zdb,zdd,zbd,zbc,zax,zbz,zb4,zda,za9,za8,zav,zba,zby,ze8,qS,qP,qC,zu8]
  simp [-qU,Env.put,Env.of,zae,zbv,zaj,zan,zau,zaw,zb1,zb2,zdc,zb0,zbb,zb3,zdb,zdd,zbd,zbc,zax,zbz,zb4,zda,za9,za8,zav,zba,zby,ze8,qS,qP,qC,zu9,zor,Rect.cells]
 rintro n vs S - ⟨i,v,tk,rfl,h_i,rfl,rfl⟩
 refine W.r fun K hK=>?_
 simp(disch:=omega)only[↓RU,RV,RH,↓reduceIte,qE,reduceCtorEq,if_pos,w64,↓RS,RG,qA,qM,qL,zaa]
 apply hK;clear hK K
 refine W.seq ?_
 refine W.cond rfl (fun h=>?_) (fun h=>?_)
 ·try simp only[RL]at h
  obtain ⟨b,hb,hbm⟩:=zag (show i<rs.length by omega)
  have hbr:=zkz hb
  have hlen:=z8g (rs:=rs) (t:=t) (k:=i)
  generalize hl:zg1 rs t i=l at hlen
  refine W.skip ?_
  refine xn ?_
  refine W.seq ?_
  refine W.block ?_
  refine W.r fun K hK=>?_
  obtain ⟨hd,rfl⟩ | ⟨hd,hw⟩ | ⟨hd,rfl⟩ | ⟨hd,hw⟩:=z6r b t l
  ·skip
   rw [zu8,zu9]
   simp(disch:=omega)only[↓RU,RV,RH,↓reduceIte,qE,reduceCtorEq,if_pos,↓RS,RG,qA,qM,qL,ty4,za5,zaa,za6,hbr,zbt,Rect.cells]
   apply hK;clear hK K
   refine W.seq_draw (by kernel_rfl) fun K hK=>?_
   simp(disch:=omega)only[↓RU,RV,RH,↓reduceIte,qE,reduceCtorEq,if_pos,qN,w64,↓RS,RG,qA,qM,qL,ty8,zch,za5,zaa,zci,za6]
   refine zac.pc (zk3 ht.in_ (hfit b hbm).in_) rfl (.inl rfl) ?_
   simp(disch:=omega)only[↓RU,RV,RH,↓reduceIte,qE,reduceCtorEq,if_pos,qN,w64,↓RS,RG,qA,qM,qL,ty8,zch,za5,zaa,zci,za6,zpe,qO]
   apply hK;clear hK K
   refine W.cond rfl (fun h1=>?_) (fun h1=>?_)
   ·try simp only[RL]at h1
    exact absurd h1 (by simp [hd])
   try simp only[RL]at h1
   refine W.skip ?_
   refine XbN ?_
   refine xn ?_
   refine W.k fun K hK=>?_
   simp(disch:=omega)only[↓RU,RV,RH,↓reduceIte,qE,reduceCtorEq,if_pos,w64,↓RS,RG,qA,qM,qL,zaa]
   apply hK;clear hK K
   refine xn ?_
   have hnx:zg1 rs t (i+1)=[]:=by rw [zkf hb,hl,if_neg hd] <;> rfl
   refine ⟨rs.length - (i+1),by omega,1,[],[.ref 0 0 0,zn9 rs,.int .i64 rs.length,.int .i64 ((i+1:Nat):Int),slO (zg1 rs t (i+1)) v],stO (.arr 0 81 5 [zaz g rs,.int .i64 t.row,.int .i64 t.col,.int .i64 t.high,.int .i64 t.wide]) (zg1 rs t (i+1)) v (tk+2),?_,?_,i+1,v,(tk+2),rfl,by omega,rfl,rfl⟩
   ·rw [hnx]; simp [-qU,Env.put,Env.of,zae,zbv,zaj,zan,zau,zaw,zb1,zb2,zdc,zb0,zbb,zb3,zdb,zdd,zbd,zbc,zax,zbz,zb4,zda,za9,za8,zav,zba,zby,ze8,qS,qP,qC,zu8]
   rw [hnx]; simp [-qU,Env.put,Env.of,zae,zbv,zaj,zan,zau,zaw,zb1,zb2,zdc,zb0,zbb,zb3,zdb,zdd,zbd,zbc,zax,zbz,zb4,zda,za9,za8,zav,zba,zby,ze8,qS,qP,qC,zu9,Rect.cells]
  ·skip
   rw [zye hw,zyi hw]
   simp(disch:=omega)only[↓RU,RV,RH,↓reduceIte,qE,reduceCtorEq,if_pos,↓RS,RG,qA,qM,qL,ty4,za5,zaa,za6,hbr,zbt,Rect.cells]
   apply hK;clear hK K
   refine W.seq_draw (by kernel_rfl) fun K hK=>?_
   simp(disch:=omega)only[↓RU,RV,RH,↓reduceIte,qE,reduceCtorEq,if_pos,qN,w64,↓RS,RG,qA,qM,qL,ty8,zch,za5,zaa,zci,za6]
   refine zac.pc (zk3 ht.in_ (hfit b hbm).in_) rfl (.inl rfl) ?_
   simp(disch:=omega)only[↓RU,RV,RH,↓reduceIte,qE,reduceCtorEq,if_pos,qN,w64,↓RS,RG,qA,qM,qL,ty8,zch,za5,zaa,zci,za6,zpe,qO]
   apply hK;clear hK K
   refine W.cond rfl (fun h1=>?_) (fun h1=>?_)
   ·try simp only[RL]at h1
    exact absurd h1 (by simp [hd])
   try simp only[RL]at h1
   refine W.skip ?_
   refine XbN ?_
   refine xn ?_
   refine W.k fun K hK=>?_
   simp(disch:=omega)only[↓RU,RV,RH,↓reduceIte,qE,reduceCtorEq,if_pos,w64,↓RS,RG,qA,qM,qL,zaa]
   apply hK;clear hK K
   refine xn ?_
   have hnx:zg1 rs t (i+1)=l:=by rw [zkf hb,hl,if_neg hd] <;> rfl
   refine ⟨rs.length - (i+1),by omega,2,[],[.ref 0 0 0,zn9 rs,.int .i64 rs.length,.int .i64 ((i+1:Nat):Int),slO (zg1 rs t (i+1)) v],stO (.arr 0 81 5 [zaz g rs,.int .i64 t.row,.int .i64 t.col,.int .i64 t.high,.int .i64 t.wide]) (zg1 rs t (i+1)) v (tk+2),?_,?_,i+1,v,(tk+2),rfl,by omega,rfl,rfl⟩
   ·rw [hnx]; simp [-qU,Env.put,Env.of,zae,zbv,zaj,zan,zau,zaw,zb1,zb2,zdc,zb0,zbb,zb3,zdb,zdd,zbd,zbc,zax,zbz,zb4,zda,za9,za8,zav,zba,zby,ze8,qS,qP,qC,zye hw]
   rw [hnx]; simp [-qU,Env.put,Env.of,zae,zbv,zaj,zan,zau,zaw,zb1,zb2,zdc,zb0,zbb,zb3,zdb,zdd,zbd,zbc,zax,zbz,zb4,zda,za9,za8,zav,zba,zby,ze8,qS,qP,qC,zyi hw,zh5,Rect.cells]
  ·skip
   rw [zu8,zu9]
   simp(disch:=omega)only[↓RU,RV,RH,↓reduceIte,qE,reduceCtorEq,if_pos,↓RS,RG,qA,qM,qL,ty4,za5,zaa,za6,hbr,zbt,Rect.cells]
   apply hK;clear hK K
   refine W.seq_draw (by kernel_rfl) fun K hK=>?_
   simp(disch:=omega)only[↓RU,RV,RH,↓reduceIte,qE,reduceCtorEq,if_pos,qN,w64,↓RS,RG,qA,qM,qL,ty8,zch,za5,zaa,zci,za6]
   refine zac.pc (zk3 ht.in_ (hfit b hbm).in_) rfl (.inl rfl) ?_
   simp(disch:=omega)only[↓RU,RV,RH,↓reduceIte,qE,reduceCtorEq,if_pos,qN,w64,↓RS,RG,qA,qM,qL,ty8,zch,za5,zaa,zci,za6,zpe,qO]
   apply hK;clear hK K
   refine W.cond rfl (fun h1=>?_) (fun h1=>?_)
   ·try simp only[RL]at h1
    refine W.k fun K hK=>?_
    simp(disch:=omega)only[↓RU,RV,RH,↓reduceIte,qE,reduceCtorEq,if_pos,↓RS,RG,qA,qM,qL,zad,zaa]
    apply hK;clear hK K
    refine XbN ?_
    refine xn ?_
    refine W.k fun K hK=>?_
    simp(disch:=omega)only[↓RU,RV,RH,↓reduceIte,qE,reduceCtorEq,if_pos,w64,↓RS,RG,qA,qM,qL,zaa]
    apply hK;clear hK K
    refine xn ?_
    have hnx:zg1 rs t (i+1)=[(i:Int)]:=by rw [zkf hb,hl,if_pos hd] <;> rfl
    refine ⟨rs.length - (i+1),by omega,1,[3],[.ref 0 0 0,zn9 rs,.int .i64 rs.length,.int .i64 ((i+1:Nat):Int),slO (zg1 rs t (i+1)) (tk+3)],stO (.arr 0 81 5 [zaz g rs,.int .i64 t.row,.int .i64 t.col,.int .i64 t.high,.int .i64 t.wide]) (zg1 rs t (i+1)) (tk+3) (tk+4),?_,?_,i+1,(tk+3),(tk+4),rfl,by omega,rfl,rfl⟩
    ·rw [hnx]; simp [-qU,Env.put,Env.of,zae,zbv,zaj,zan,zau,zaw,zb1,zb2,zdc,zb0,zbb,zb3,zdb,zdd,zbd,zbc,zax,zbz,zb4,zda,za9,za8,zav,zba,zby,ze8,qS,qP,qC,zye]
    rw [hnx]; simp [-qU,Env.put,Env.of,zae,zbv,zaj,zan,zau,zaw,zb1,zb2,zdc,zb0,zbb,zb3,zdb,zdd,zbd,zbc,zax,zbz,zb4,zda,za9,za8,zav,zba,zby,ze8,qS,qP,qC,zyi,zor,Rect.cells]
   try simp only[RL]at h1
   exact absurd h1 (by simp [hd])
  skip
  rw [zye hw,zyi hw]
  simp(disch:=omega)only[↓RU,RV,RH,↓reduceIte,qE,reduceCtorEq,if_pos,↓RS,RG,qA,qM,qL,ty4,za5,zaa,za6,hbr,zbt,Rect.cells]
  apply hK;clear hK K
  refine W.seq_draw (by kernel_rfl) fun K hK=>?_
  simp(disch:=omega)only[↓RU,RV,RH,↓reduceIte,qE,reduceCtorEq,if_pos,qN,w64,↓RS,RG,qA,qM,qL,ty8,zch,za5,zaa,zci,za6]
  refine zac.pc (zk3 ht.in_ (hfit b hbm).in_) rfl (.inl rfl) ?_
  simp(disch:=omega)only[↓RU,RV,RH,↓reduceIte,qE,reduceCtorEq,if_pos,qN,w64,↓RS,RG,qA,qM,qL,ty8,zch,za5,zaa,zci,za6,zpe,qO]
  apply hK;clear hK K
  refine W.cond rfl (fun h1=>?_) (fun h1=>?_)
  ·try simp only[RL]at h1
   refine W.k fun K hK=>?_
   simp(disch:=omega)only[↓RU,RV,RH,↓reduceIte,qE,reduceCtorEq,if_pos,↓RS,RG,qA,qM,qL,zad,zaa]
   apply hK;clear hK K
   refine XbN ?_
   refine xn ?_
   refine W.k fun K hK=>?_
   simp(disch:=omega)only[↓RU,RV,RH,↓reduceIte,qE,reduceCtorEq,if_pos,w64,↓RS,RG,qA,qM,qL,zaa]
   apply hK;clear hK K
   refine xn ?_
   have hnx:zg1 rs t (i+1)=l++[(i:Int)]:=by rw [zkf hb,hl,if_pos hd] <;> rfl
   refine ⟨rs.length - (i+1),by omega,2,[],[.ref 0 0 0,zn9 rs,.int .i64 rs.length,.int .i64 ((i+1:Nat):Int),slO (zg1 rs t (i+1)) (tk+2)],stO (.arr 0 81 5 [zaz g rs,.int .i64 t.row,.int .i64 t.col,.int .i64 t.high,.int .i64 t.wide]) (zg1 rs t (i+1)) (tk+2) (tk+4),?_,?_,i+1,(tk+2),(tk+4),rfl,by omega,rfl,rfl⟩
   ·rw [hnx]; simp [-qU,Env.put,Env.of,zae,zbv,zaj,zan,zau,zaw,zb1,zb2,zdc,zb0,zbb,zb3,zdb,zdd,zbd,zbc,zax,zbz,zb4,zda,za9,za8,zav,zba,zby,ze8,qS,qP,qC,zye (l:=l++[(i:Int)]) (by simp)]
   rw [hnx]; simp [-qU,Env.put,Env.of,zae,zbv,zaj,zan,zau,zaw,zb1,zb2,zdc,zb0,zbb,zb3,zdb,zdd,zbd,zbc,zax,zbz,zb4,zda,za9,za8,zav,zba,zby,ze8,qS,qP,qC,zyi (l:=l++[(i:Int)]) (by simp),zh5,Rect.cells]
  try simp only[RL]at h1
  exact absurd h1 (by simp [hd])
 try simp only[RL]at h
 obtain rfl:rs.length=i:=by omega
 refine W.exit ?_
 refine xe ?_
 refine xe ?_
 refine XBlock.hit ?_
 refine xn ?_
 refine W.r fun K hK=>?_
 simp(disch:=omega)only[↓RU,RV,RH,↓reduceIte,qE,reduceCtorEq,if_pos,↓RS,RG,qA,qM,qL]
 apply hK;clear hK K
 refine W.ret ?_
 refine Br rfl ?_
 exact z8b
theorem ze5 {g:List (List Int)} {nh nw:Nat} (hg:GW g nh nw) (rs:List Rect) {t:Pt} (ht:t.In nh nw) {level:Bool} {line:Nat} (hl1:1≤line) (hl2:if level then line<nh else line<nw):PC Tryz.prog 154 [zje g rs t.rect,.bool level,.int .i64 line] (.bool (thG g t level line)) true:=by
 obtain ⟨t1,t2,t3,t4⟩:=ht
 have hgg:=hg
 obtain ⟨g1,g2,g3,g4⟩:=hg.2.2
 obtain ⟨fr,hfr⟩:∃ fr:Nat,(if level then t.c else t.r)=fr:=⟨_,rfl⟩
 obtain ⟨lg,hlg⟩:∃ lg:Nat,(if level then t.w else t.h)=lg:=⟨_,rfl⟩
 have hth:thG g t level line=(List.range lg).all fun j=>zkp g level line (fr+j):=by subst hfr hlg; cases level <;> rfl
 have hin:∀ j,j<lg→InL nh nw level line (fr+j):=by subst hfr hlg; intro j hj; refine ⟨hl1,?_⟩; cases level <;> simp at hj hl2 ⊢ <;> omega
 have hb:fr≤6∧lg≤6:=by subst hfr hlg; cases level <;> simp <;> omega
 have hln:line≤6:=by cases level <;> simp at hl2 <;> omega
 simp only[Pt.rect,zje,Rect.cells]
 refine PC.of ⟨Tryz.func154,by kernel_rfl,rfl,by kernel_rfl⟩ zap mixed (by show 3≤Tryz.f154.ntmps; decide) ?_
 refine W.r fun K hK=>?_
 simp(disch:=omega)only[↓RU,RV,RH,↓reduceIte,qE,reduceCtorEq,if_pos,↓RS,RG,qA,qM,qL,ty8,zch,za5,zaa,zci,za6]
 apply hK;clear hK K
 refine W.seq_draw (by kernel_rfl) fun K hK=>?_
 simp(disch:=omega)only[↓RU,RV,RH,↓reduceIte,qE,reduceCtorEq,if_pos,↓RS,RG,qA,qM,qL,ty8,zch,za5,zaa,zci,za6]
 apply hK;clear hK K
 refine W.join [3,1,2,7,8] (fun vs S=>vs=[.ref 0 0 0,.bool level,.int .i64 line,.int .i64 fr,.int .i64 lg]∧S=⟨[.arr 0 81 5 [zaz g rs,.int .i64 t.r,.int .i64 t.c,.int .i64 t.h,.int .i64 t.w]],1⟩) ?_ ?_
 ·
  refine W.r fun K hK=>?_
  simp(disch:=omega)only[↓RU,RV,RH,↓reduceIte,qE,reduceCtorEq,if_pos,↓RS,RG,qA,qM,qL]
  apply hK;clear hK K
  refine W.cond rfl (fun h0=>?_) (fun h0=>?_)
  ·try simp only[RL]at h0
   refine W.draw_k (by kernel_rfl) fun K hK=>?_
   simp(disch:=omega)only[↓RU,RV,RH,↓reduceIte,qE,reduceCtorEq,if_pos,↓RS,RG,qA,qM,qL,ty8,zch,za5,zaa,zci,za6]
   apply hK;clear hK K
   refine xn ?_
   refine ⟨1,?_,rfl⟩
   simp only[h0,if_true,qF,if_false]at hfr hlg
   subst hfr hlg h0
   simp [Env.put,Env.of,zae]
  try simp only[RL]at h0
  refine W.skip ?_
  refine xn ?_
  refine ⟨1,?_,rfl⟩
  simp only[h0,if_true,qF,if_false]at hfr hlg
  subst hfr hlg h0
  simp [Env.put,Env.of,zae]
 rintro vs S - ⟨rfl,rfl⟩
 refine W.seq ?_
 refine W.r fun K hK=>?_
 simp(disch:=omega)only[↓RU,RV,RH,↓reduceIte,qE,reduceCtorEq,if_pos,↓RS,RG,qA,qM,qL]
 apply hK;clear hK K
 refine W.block ?_
 refine W.loop [3,1,2,7,8,9] (fun n vs S=>∃ i:Nat,n=lg - i∧i≤lg∧(∀ j,j<i→zkp g level line (fr+j)=true)∧vs=[.ref 0 0 0,.bool level,.int .i64 line,.int .i64 fr,.int .i64 lg,.int .i64 ((fr+i:Nat):Int)]∧S=⟨[.arr 0 81 5 [zaz g rs,.int .i64 t.r,.int .i64 t.c,.int .i64 t.h,.int .i64 t.w]],1⟩) (lg) ?_ ?_
 ·refine ⟨1,0,rfl,Nat.zero_le _,(fun j hj=>by omega),?_,rfl⟩
  simp [Env.put,Env.of,zae]
 rintro n vs S - ⟨i,rfl,h_i,hall,rfl,rfl⟩
 refine W.seq ?_
 refine W.r fun K hK=>?_
 simp(disch:=omega)only[↓RU,RV,RH,↓reduceIte,qE,reduceCtorEq,if_pos,w64,↓RS,RG,qA,qM,qL,zaa]
 apply hK;clear hK K
 refine W.cond rfl (fun h1=>?_) (fun h1=>?_)
 ·try simp only[RL]at h1
  refine W.skip ?_
  refine xn ?_
  refine W.seq ?_
  refine W.block ?_
  refine W.r fun K hK=>?_
  have hin2:=hin i (by omega)
  simp(disch:=omega)only[↓RU,RV,RH,↓reduceIte,qE,reduceCtorEq,if_pos,qN,↓RS,RG,qA,qM,qL,ty8,zch,za5,zaa,zci,za6]
  refine zac.pc (zv4 hgg rs hin2) rfl (.inl rfl) ?_
  simp(disch:=omega)only[↓RU,RV,RH,↓reduceIte,qE,reduceCtorEq,if_pos,qN,↓RS,RG,qA,qM,qL,ty8,zch,za5,zaa,zci,za6]
  apply hK;clear hK K
  refine W.cond rfl (fun h2=>?_) (fun h2=>?_)
  ·try simp only[RL]at h2
   refine W.r fun K hK=>?_
   simp(disch:=omega)only[↓RU,RV,RH,↓reduceIte,qE,reduceCtorEq,if_pos,↓RS,RG,qA,qM,qL]
   apply hK;clear hK K
   refine W.ret ?_
   refine XBlock.ret ?_
   refine XThen.ret ?_
   refine XThen.ret ?_
   refine XBlock.ret ?_
   refine XThen.ret ?_
   refine Br rfl ?_
   rw [hth,show ((List.range lg).all fun j=>zkp g level line (fr+j))=false from by rw [List.all_eq_false]; exact ⟨i,List.mem_range.2 (by omega),by simpa using h2⟩]
   rfl
  try simp only[RL]at h2
  refine W.skip ?_
  refine XbN ?_
  refine xn ?_
  refine W.k fun K hK=>?_
  simp(disch:=omega)only[↓RU,RV,RH,↓reduceIte,qE,reduceCtorEq,if_pos,w64,↓RS,RG,qA,qM,qL,zaa]
  apply hK;clear hK K
  refine xn ?_
  refine ⟨lg - (i+1),by omega,1,i+1,rfl,by omega,(fun j hj=>by rcases Nat.lt_succ_iff_lt_or_eq.1 hj with h | rfl; exact hall j h; simpa using h2),?_,rfl⟩
  simp [Env.put,Env.of]; omega
 try simp only[RL]at h1
 refine W.exit ?_
 refine xe ?_
 refine xe ?_
 refine XBlock.hit ?_
 refine xn ?_
 refine W.r fun K hK=>?_
 simp(disch:=omega)only[↓RU,RV,RH,↓reduceIte,qE,reduceCtorEq,if_pos,↓RS,RG,qA,qM,qL]
 apply hK;clear hK K
 refine W.ret ?_
 refine Br rfl ?_
 rw [hth,show ((List.range lg).all fun j=>zkp g level line (fr+j))=true from by rw [List.all_eq_true]; intro j hj; exact hall j (by have:=List.mem_range.1 hj; omega)]
 rfl
theorem ybo {g:List (List Int)} {row:List Int} (h:g[0]?=some row) (rs:List Rect):PC Tryz.prog 45 [zaz g rs] (zje g rs ⟨0,0,g.length,row.length⟩) false:=by
 refine PC.of ⟨Tryz.func45,by kernel_rfl,rfl,by kernel_rfl⟩ zap mixed (by show 1≤Tryz.f45.ntmps; decide) ?_
 refine W.r fun K hK=>?_
 simp(disch:=omega)only[↓RU,RV,RH,↓reduceIte,qE,reduceCtorEq,if_pos,↓RS,RG,qA,qM,qL,ty8,zch,za5,zaa,zci,za6]
 apply hK;clear hK K
 refine W.r fun K hK=>?_
 simp(disch:=omega)only[↓RU,RV,RH,↓reduceIte,qE,reduceCtorEq,if_pos,qN,↓RS,RG,qA,qM,qL,ty8,zch,za5,zaa,zci,za6,zng]
 refine zac.pc (zqe g rs) rfl (.inl rfl) ?_
 simp(disch:=omega)only[↓RU,RV,RH,↓reduceIte,qE,reduceCtorEq,if_pos,qN,↓RS,RG,qA,qM,qL,ty8,zch,za5,zaa,zci,za6,zng]
 refine zac.pc (zvm h rs) rfl (.inl rfl) ?_
 simp(disch:=omega)only[↓RU,RV,RH,↓reduceIte,qE,reduceCtorEq,if_pos,qN,↓RS,RG,qA,qM,qL,ty8,zch,za5,zaa,zci,za6,zng]
 apply hK;clear hK K
 refine W.ret ?_
 refine Br rfl ?_
 rw [show (tab 81).size=5 by kernel_rfl]
 rfl
theorem ydc (g:List (List Int)) (rs:List Rect) (t:Rect):PC Tryz.prog 135 [zje g rs t] (.fn 153 [.ip (zaz g rs::t.cells) 0]) false:=by
 simp only[zje,Rect.cells]
 refine PC.of ⟨Tryz.func135,by kernel_rfl,rfl,by kernel_rfl⟩ zap mixed (by show 1≤Tryz.f135.ntmps; decide) ?_
 refine W.r fun K hK=>?_
 simp(disch:=omega)only[↓RU,RV,RH,↓reduceIte,qE,reduceCtorEq,if_pos,↓RS,RG,qA,qM,qL,ty8,zch,za5,zaa,zci,za6]
 apply hK;clear hK K
 refine W.r fun K hK=>?_
 simp(disch:=omega)only[↓RU,RV,RH,↓reduceIte,qE,reduceCtorEq,if_pos,↓RS,RG,qA,qM,qL]
 apply hK;clear hK K
 refine W.ret ?_
 refine Br rfl ?_
 rfl
section
structure LoopR (ps:Array Tmp) (asg body:Code) (r:Loop):Prop where
 hps:r.params=ps
 hasg:r.assign=asg
 hbody:r.body=body
 dps:∀ t∈ps.toList,t<r.tmps.size
 dasg:zha r.tmps.size asg=true
 dbody:zha r.tmps.size body=true
def Env.puts:List (Nat × PV)→Env→Env
 | [],e=>e
 | (t,v)::r,e=>Env.puts r (e.put (some t) v)
section
variable {P:Program} {T:Tab} {Q Q':Exit→Env→Store→Prop} {e:Env} {S:Store} {a b c:Code} {F:Nat→Prop} {G:GSt} {w:World}
theorem zwf {ds:List Deferred}:∀ (ps:List Nat) (xs:List PV) (cs:List Value) (e:Env) (t:Array Value),ze9 w.heap F G e ⟨t,ds⟩→(∀ p∈ps,p<t.size)→xs.length=cs.length →
  (∀ (i:Nat) p c,xs[i]?=some p→cs[i]?=some c→VR w.heap F G p c) →
  ze9 w.heap F G (Env.puts (ps.zip xs) e) ⟨(ps.zip cs).foldl (fun t (q:Nat × Value)=>t.setIfInBounds q.1 q.2) t,ds⟩
 | [],xs,cs,e,t,he,_,_,_=>by simpa [Env.puts] using he
 | p::ps,[],[],e,t,he,_,_,_=>by simpa [Env.puts] using he
 | p::ps,x::xs,c::cs,e,t,he,hp,hl,hv=>by
  simp only[List.zip_cons_cons,Env.puts,List.foldl_cons]
  refine zwf ps xs cs _ _ ?_ ?_ (by simpa using hl) fun i p c q1 q2=>hv (i+1) p c (by simpa using q1) (by simpa using q2)
  ·have:=he.put (a:=⟨t,ds⟩) (some p) (v:=x) (cv:=c) (fun t' ht=>by cases ht; exact hp p (by simp)) (hv 0 x c rfl rfl)
   exact this
  intro q hq
  have:=hp q (by simp [hq])
  simpa using this
 | p::ps,[],c::cs,_,_,_,_,hl,_=>by simp at hl
 | p::ps,x::xs,[],_,_,_,_,hl,_=>by simp at hl
theorem z3n (l:List (Nat × Value)) (t:Array Value):(l.foldl (fun t (q:Nat × Value)=>t.setIfInBounds q.1 q.2) t).size=t.size:=by
 induction l generalizing t with
 | nil=>rfl
 | cons q l ih=>simp [ih]
theorem z75 (hi:Inv F G w) {o ver l:Nat} {r:Loop × List Nat} {tm:List PV} {lc:Lc} (ho:G.obs[o]?=some (.lp ver l r tm,lc)) (s:LoopState) (pe:Option Code) :
  ∃ t:Array Value,w.heap[l]?=some (.loop { r.1 with tmps:=t }) ∧
   Inv F ⟨G.obs.set o (.lp ver l ({ r.1 with state:=s,pending:=pe },r.2) tm,lc),G.tick⟩ (w.putObj l (.loop { r.1 with tmps:=t,state:=s,pending:=pe })) ∧
   Next F G w F ⟨G.obs.set o (.lp ver l ({ r.1 with state:=s,pending:=pe },r.2) tm,lc),G.tick⟩ (w.putObj l (.loop { r.1 with tmps:=t,state:=s,pending:=pe })):=by
 obtain ⟨h0,t,h1,h2,h3⟩:=hi.lp o ver l r tm lc ho
 have hlt:=(Array.getElem?_eq_some_iff.1 h1).1
 refine ⟨t,h1,zlg hi ho _ lc G.tick _ rfl rfl rfl (qR _) (by simp) (.inl rfl) (fun b hb hne=>World.putObj_heap_other (by rw [← h0]; exact hne)) (qR _) (show Ob.ver (.lp ver l r tm)<G.tick from hi.ver o _ lc ho)
  (.inl ⟨rfl,trivial,rfl⟩) ⟨h0,t,World.putObj_heap_same hlt,h2,h3⟩⟩
def yfl (o l:Nat) (J:PV→Store→Prop):Exit→Env→Store→Prop
 | .normal,_,S=>∃ ver r L tm k,S.obs[o]?=some (.lp ver l (r,L) tm)∧J (.bool true) (Store.take ⟨S.obs.set o (.lp ver l ({ r with state := .ready,pending:=none },L) tm),S.tick⟩ k)
 | .ret,_,S=>∃ ver r L tm k,S.obs[o]?=some (.lp ver l (r,L) tm)∧J (.bool false) (Store.take ⟨S.obs.set o (.lp ver l ({ r with state := .done,pending:=some .ret },L) tm),S.tick⟩ k)
 | .exit id,_,S=>∃ ver r L tm k,S.obs[o]?=some (.lp ver l (r,L) tm)∧J (.bool false) (Store.take ⟨S.obs.set o (.lp ver l ({ r with state := .done,pending:=some (.exit id) },L) tm),S.tick⟩ k)
 | _,_,_=>False
theorem VR.bool_of {H:Array Obj} {b:Bool}:VR H F G (.bool b) (.bool b) := .imm _ _ (.bool b)
theorem Ey.of (hT:zbw P T) (hm:P.follows .mixedOrders=true) {l o ver:Nat} {r:Loop} {L:List Nat} {tm xs:List PV} {ps:Array Tmp} {asg body:Code} {J:PV→Store→Prop}
  (ho:S.obs[o]?=some (.lp ver l (r,L) tm)) (hr:LoopR ps asg body r) (hst:r.state = .ready) (hps:ps.size=xs.length)
  (hw:W P T asg (XThen (fun e1 S1=>∃ ver1 r1 L1 tm1,S1.obs[o]?=some (.lp ver1 l (r1,L1) tm1)∧r1.state = .ready ∧
   W P T body (yfl o l J) e1 ⟨S1.obs.set o (.lp ver1 l ({ r1 with state := .busy,pending:=r1.pending },L1) tm1),S1.tick⟩) (fun _ _ _=>False)) (Env.puts (ps.toList.zip xs) (Env.of L tm)) S) :
  Ey P l xs S J:=by
 refine ⟨fun F G w cargs hS hi hl hv=>?_⟩
 subst hS
 obtain ⟨lc,hG⟩:=zgo ho
 obtain ⟨h0,t,h1,⟨h2,h2'⟩,h3⟩:=hi.lp o ver l (r,L) tm lc hG
 simp only at h1 h2 h2' h3
 refine ⟨_,_,_,_,run_yield h1 (by simp only; rw [hr.hps]; omega),fun R nn=>?_⟩
 refine roundIn_of_wpIn trivial ?_
 simp only
 have hE:ze9 w.heap F G (Env.puts (ps.toList.zip xs) (Env.of L tm)) ⟨(ps.toList.zip cargs.toList).foldl (fun t (q:Nat × Value)=>t.setIfInBounds q.1 q.2) t,[]⟩ :=
  zwf _ _ _ _ _ (zul L tm h2'.symm fun i j v q1 q2=>h3 i v j q2 q1) (fun p hp=>Nat.lt_of_lt_of_eq (hr.dps p hp) h2.symm) (by simpa using hl) (fun i p c q1 q2=>hv i p c q1 (by simpa using q2))
 have hsz:((ps.toList.zip cargs.toList).foldl (fun t (q:Nat × Value)=>t.setIfInBounds q.1 q.2) t).size=r.tmps.size:=by rw [z3n]; exact h2
 have hfold:(r.params.zip cargs).foldl (fun tmps (x:Nat × Value)=>tmps.setIfInBounds x.1 x.2) t=(ps.toList.zip cargs.toList).foldl (fun t (q:Nat × Value)=>t.setIfInBounds q.1 q.2) t:=by
  rw [hr.hps,← Array.foldl_toList,Array.toList_zip]
 show (r.assign).wpIn (fnc (some l)) _ P _ { tmps:=(r.params.zip cargs).foldl (fun tmps (x:Nat × Value)=>tmps.setIfInBounds x.1 x.2) t,defers:=[] } w
 rw [hfold,hr.hasg,hr.hbody]
 refine wpIn_mono (hw.run hT hm F G w r.tmps.size F G _ w rfl hi hE (Next.refl w) hsz Marks.nil hr.dasg) ?_
 rintro x a1 w1 ⟨e1,F1,G1,k1,k2,k3,k4,k5,k6⟩
 cases x with
 | normal =>
  obtain ⟨ver1,r1,L1,tm1,g1,g2,g3⟩:=k1
  obtain ⟨lc1,hG1⟩:=zgo g1
  obtain ⟨t1,q1,q2,q3⟩:=z75 k2 hG1 .busy r1.pending
  refine ⟨_,run_beginRound q1 g2,?_⟩
  refine wpIn_mono (g3.run hT hm F G w r.tmps.size F1 _ a1 _ (zod G1 o _ lc1 G1.tick) q2 (k3.next k2 q3) (k4.trans q3) k5 (k6.next k2 q3) hr.dbody) ?_
  have fin:∀ {F2:Nat→Prop} {G2:GSt} {w2:World} {v:Bool} {s:LoopState} {pe:Option Code} {ver2:Nat} {r2:Loop} {L2:List Nat} {tm2:List PV} {k:Nat},Inv F2 G2 w2→Next F G w F2 G2 w2 →
    s=(if pe.isNone then .ready else .done)→v=pe.isNone→G2.er.obs[o]?=some (.lp ver2 l (r2,L2) tm2) →
    J (.bool v) (Store.take ⟨G2.er.obs.set o (.lp ver2 l ({ r2 with state:=s,pending:=pe },L2) tm2),G2.er.tick⟩ k) →
    ∃ cv w3,(Instr.endRound l pe).run P w2 = .ok cv w3∧∃ v cv' F' G',Ending.returned cv = .returned cv'∧J v G'.er∧Inv F' G' w3∧Next F G w F' G' w3∧VR w3.heap F' G' v cv':=by
   intro F2 G2 w2 v s pe ver2 r2 L2 tm2 k i2 n2 hs hv2 hg hJ
   obtain ⟨lc2,hG2⟩:=zgo hg
   obtain ⟨t2,p1,p2,p3⟩:=z75 i2 hG2 s pe
   obtain ⟨i3,n3⟩:=zgd p2 k
   have hrun:=run_endRound (P:=P) pe p1
   rw [← hs]at hrun
   refine ⟨_,_,hrun,.bool v,_,F2,GSt.take ⟨G2.obs.set o (.lp ver2 l ({ r2 with state:=s,pending:=pe },L2) tm2,lc2),G2.tick⟩ k,rfl,?_,i3,(n2.trans p3).trans n3,by rw [← hv2]; exact VR.bool_of⟩
   rw [zlo,zod]; exact hJ
  rintro x a2 w2 ⟨e2,F2,G2,j1,j2,j3,j4,j5,j6⟩
  cases x with
  | normal=>obtain ⟨ver2,r2,L2,tm2,k,f1,f2⟩:=j1; exact fin j2 j4 rfl rfl f1 f2
  | ret=>obtain ⟨ver2,r2,L2,tm2,k,f1,f2⟩:=j1; exact fin j2 j4 rfl rfl f1 f2
  | exit id=>obtain ⟨ver2,r2,L2,tm2,k,f1,f2⟩:=j1; exact fin j2 j4 rfl rfl f1 f2
  | _=>exact j1.elim
 | _=>exact k1.elim
structure V (P:Program) (T:Tab) (c:Code) (Q:Exit→Env→Store→Prop) (e:Env) (S:Store):Prop where
 run:zbw P T→P.follows .mixedOrders=true→∀ (F0:Nat→Prop) (G0:GSt) (w0:World) (N:Nat) (F:Nat→Prop) (G:GSt) (a:Act) (w:World),G.er=S→Inv F G w→ze9 w.heap F G e a →
  Next F0 G0 w0 F G w→a.tmps.size=N→Marks w0 a.defers w→zha N c=true→c.wpIn (fnc none) 0 P (Sto F0 G0 w0 N Q) a w
theorem W.v (h:W P T c Q e S):V P T c Q e S:=⟨fun h1 h2 F0 G0 w0 N F G a w h3 h4 h5 h6 h7 h8 h9=>h.run h1 h2 F0 G0 w0 N F G a w h3 h4 h5 h6 h7 h8 h9⟩
theorem V.mono (h:V P T c Q e S) (k:∀ x e S,Q x e S→Q' x e S):V P T c Q' e S :=
 ⟨fun h1 h2 F0 G0 w0 N F G a w h3 h4 h5 h6 h7 h8 h9=>wpIn_mono (h.run h1 h2 F0 G0 w0 N F G a w h3 h4 h5 h6 h7 h8 h9) fun _ _ _=>Sto.mono k⟩
theorem V.seq (h:V P T a (XThen (V P T b Q) Q) e S):V P T (.seq a b) Q e S:=by
 refine ⟨?_⟩
 intro hT hm F0 G0 w0 N F G a w h3 h4 h5 h6 h7 h8 h9
 simp only[zha,qB]at h9
 refine wpIn_seq (wpIn_mono (h.run hT hm F0 G0 w0 N F G a w h3 h4 h5 h6 h7 h8 h9.1) ?_)
 rintro x a' w' ⟨e',F',G',k1,k2,k3,k4,k5,k6⟩
 cases x with
 | normal=>exact k1.run hT hm F0 G0 w0 N F' G' a' w' rfl k2 k3 k4 k5 k6 h9.2
 | _=>exact ⟨e',F',G',k1,k2,k3,k4,k5,k6⟩
theorem V.seq_region {id:Nat} {l:List Oper} (h:∀ K:Env→Store→Prop,(∀ e S,V P T b Q e S→K e S)→zbr false P T (dsts l) l e S K):V P T (.seq (.region id l.toArray false) b) Q e S :=
 V.seq (W.v (W.k fun K hK=>h K hK))
theorem V.seq_draw {id:Nat} {l:List Oper} (hc:zk7 l.toArray (List.range' 0 l.length) (zku l 0) []=true) (h:∀ K:Env→Store→Prop,(∀ e S,V P T b Q e S→K e S)→zbr true P T (dsts l) l e S K) :
  V P T (.seq (.region id l.toArray true) b) Q e S :=
 V.seq (W.v (W.draw_k hc fun K hK=>h K hK))
theorem V.cond {x:Operand} {t:Bool} (hc:e.ev x = .bool t) (h1:t=true→V P T a Q e S) (h2:t=false→V P T b Q e S):V P T (.cond x a b) Q e S:=by
 refine ⟨?_⟩
 intro hT hm F0 G0 w0 N F G a w h3 h4 h5 h6 h7 h8 h9
 simp only[zha,qB]at h9
 have:=h5.ev x
 rw [hc]at this
 exact wpIn_cond_split this.bool (fun ht=>(h1 ht).run hT hm F0 G0 w0 N F G a w h3 h4 h5 h6 h7 h8 h9.1) (fun ht=>(h2 ht).run hT hm F0 G0 w0 N F G a w h3 h4 h5 h6 h7 h8 h9.2)
theorem V.block {id:Nat} (h:V P T c (XBlock id Q) e S):V P T (.block id c) Q e S:=by
 refine ⟨?_⟩
 intro hT hm F0 G0 w0 N F G a w h3 h4 h5 h6 h7 h8 h9
 refine wpIn_block (wpIn_mono (h.run hT hm F0 G0 w0 N F G a w h3 h4 h5 h6 h7 h8 h9) ?_)
 rintro x a' w' ⟨e',F',G',k1,k2⟩
 cases x with
 | exit i =>
  simp only[Exit.inBlock]
  simp only[XBlock]at k1
  split
  ·rename_i hi; rw [if_pos hi]at k1; exact ⟨e',F',G',k1,k2⟩
  rename_i hi; rw [if_neg hi]at k1; exact ⟨e',F',G',k1,k2⟩
 | _=>exact ⟨e',F',G',k1,k2⟩
def yds:Option Code→Option Exit
 | none=>some .normal
 | some .ret=>some .ret
 | some (.exit id)=>some (.exit id)
 | _=>none
theorem zy0 (hi:Inv F G w) (ob:Obj):Inv F G (w.alloc ob)∧Next F G w F G (w.alloc ob):=by
 have hkeep:∀ b,b<w.heap.size→(w.alloc ob).heap[b]?=w.heap[b]?:=fun b hb=>Go.RowKit.Below.heap_alloc w ob b hb
 have hn:Next F G w F G (w.alloc ob) :=
  ⟨rfl,rfl,rfl,by simp,fun _ h=>h,fun _ h => .inl h,fun o x h => .inr ⟨o,x,h,rfl⟩,qR _,fun b hb _=>hkeep b hb,fun _ ob' _ h _=>⟨ob',h,rfl,Ob.like.refl _⟩,qR _⟩
 exact ⟨zkw (fun b hb=>Nat.lt_of_lt_of_le (hi.fr b hb) hn.size) hi.ver hi.nF (fun o ob' l h=>(hi.holds h).next hi hn (hkeep _ (hi.blk_lt h))) hi.inj,hn⟩
theorem VR.fn_at {f:FuncId} {cap:List PV} {v:Value} (h:VR w.heap F G (.fn f cap) v):∃ vs:Array Value,v = .func (.func f) #[] vs∧cap.length=vs.size∧∀ (i:Nat) p c,cap[i]?=some p→vs[i]?=some c→VR w.heap F G p c:=by
 cases h with
 | imm _ _ h=>cases h with | fn _ _ vs h1 h2=>exact ⟨vs,rfl,h1,fun i p c q1 q2 => .imm _ _ (h2 i p c q1 q2)⟩
 | fn _ _ vs h1 h2=>exact ⟨vs,rfl,h1,h2⟩
theorem V.rangeFunc {g:Operand} {ps:Array Tmp} {asg body:Code} (L:List Nat) {f:FuncId} {cap:List PV} (hg:e.ev g = .fn f cap)
  (h:∀ (l:Nat) (r:Loop),LoopR ps asg body r→r.state = .ready→r.pending=none→∃ J,Ev P f (.yl l::cap) ⟨S.obs++[.lp S.tick l (r,L) (L.map e)],S.tick+1⟩ J ∧
   ∀ v S',J v S'→∃ ver r' L' tm x,S'.obs[S.obs.length]?=some (.lp ver l (r',L') tm)∧r'.state ≠ .busy∧yds r'.pending=some x∧Q x e (S'.take S.obs.length)) :
  V P T (.rangeFunc g ps asg body) Q e S:=by
 refine ⟨?_⟩
 intro hT hm F0 G0 w0 N F G a w h3 h4 h5 h6 h7 h8 h9
 subst h3
 simp only[zha,qB,List.all_eq_true,decide_eq_true_eq]at h9
 obtain ⟨⟨d1,d2⟩,d3⟩:=h9
 refine wpIn_rangeFunc ?_
 intro fn _
 obtain ⟨rec,hrec⟩:∃ rec:Loop,rec={ state := .ready,pending:=none,fn,tmps:=a.tmps,params:=ps,assign:=asg,body,defers:=w.heap.size }:=⟨_,rfl⟩
 obtain ⟨i1,n1⟩:=zy0 h4 (.deferred (some []))
 obtain ⟨W0,hW0⟩:∃ W0,w.alloc (.deferred (some []))=W0:=⟨_,rfl⟩
 have hsz:W0.heap.size=w.heap.size+1:=by rw [← hW0]; simp
 rw [hW0]at i1 n1
 have hdef:W0.heap[w.heap.size]?=some (.deferred (some [])):=by rw [← hW0]; exact World.alloc_heap_new w _
 obtain ⟨W1,hW1⟩:∃ W1,W0.alloc (.loop rec)=W1:=⟨_,rfl⟩
 have hL1:W1.heap[W0.heap.size]?=some (.loop rec):=by rw [← hW1]; exact World.alloc_heap_new W0 _
 have hhold:Holds W0.heap F G W1.heap (.lp G.tick W0.heap.size (rec,L) (L.map e)) ⟨W0.heap.size,0⟩:=by
  refine ⟨rfl,a.tmps,by rw [hL1,hrec],⟨by rw [hrec],by simp⟩,fun i p j q1 q2=>?_⟩
  simp only at q2
  rw [List.getElem?_map,q2]at q1
  cases q1
  exact (h5 j).next h4 n1
 obtain ⟨i2,n2⟩:=zph i1 (.lp G.tick W0.heap.size (rec,L) (L.map e)) 0 W1 W1.drawn (by rw [← hW1]; rfl) (by rw [← hW1]; exact qR _) ⟨_,by rw [← hW1]; rfl⟩ rfl hhold
 have n12:=n1.trans n2
 have hgv:=h5.ev g
 rw [hg]at hgv
 obtain ⟨vs,hge,hvl,hvr⟩:=hgv.fn_at
 obtain ⟨J,hev,hJ⟩:=h W0.heap.size rec (by rw [hrec]; exact ⟨rfl,rfl,rfl,fun t ht=>by rw [h7]; exact d1 t ht,by rw [h7]; exact d2,by rw [h7]; exact d3⟩) (by rw [hrec]) (by rw [hrec])
 refine ⟨w.heap.size+1,[{ target := .collected w.heap.size,args := #[] }],W1,{ target := .fn (.func f) vs,args := #[.func (.yield (w.heap.size+1)) #[] #[]] },W1,f,
  #[.func (.yield (w.heap.size+1)) #[] #[]]++vs,W1,?_,?_,fun _ _=>trivial,?_,fun q=>(by simp [Fence.wide]at q),?_⟩
 ·rw [← hW1,← hW0,hrec]; exact run_enterLoop_outer _ _ _ _ _
 ·simp only[resolve,hge]
  simp [go_sem]
 ·simp only[invoke]; exact hev.ent _ _
 ·refine callsIn_wide.2 ((hev.run F _ W1 _ (zt9 G _ _) i2 (by simp; omega) ?_).mono ?_)
  ·intro i p c q1 q2
   cases i with
   | zero=>rw [Array.getElem?_append_left (by simp)]at q2; simp at q1 q2; subst q1; subst q2; rw [hsz]; exact .imm _ _ (.yl _)
   | succ i =>
    simp only[List.getElem?_cons_succ]at q1
    rw [Array.getElem?_append_right (by simp)]at q2
    simp at q2
    exact (hvr i p c q1 q2).next h4 n12
  ·rintro en w2 ⟨v,cv,F2,G2,rfl,j1,j2,j3,j4⟩
   obtain ⟨ver,r',L',tm,x,g1,g2,g3,g4⟩:=hJ v _ j1
   obtain ⟨lc,hG2⟩:=zgo g1
   rw [show (GSt.er G).obs.length=G.obs.length by simp [GSt.er]]at hG2 g4
   obtain ⟨t,p1,p2,p3⟩:=z75 j2 hG2 .exhausted r'.pending
   obtain ⟨i3,n3⟩:=zgd p2 G.obs.length
   rw [hsz]at p1
   refine ⟨_,_,run_endLoop p1 g2,?_⟩
   have hnx:=((h6.trans n12).trans (j3.trans p3)).trans n3
   have hmk:Marks w0 ([{ target := .collected w.heap.size,args := #[] }]++a.defers) (w2.putObj W0.heap.size (.loop { r' with tmps:=t,state := .exhausted,pending:=r'.pending })):=by
    have m1:=h8.next h4 n12
    have hd1:W1.heap[w.heap.size]?=some (.deferred (some [])):=(by rw [← hW1]; exact (Go.RowKit.Below.heap_alloc W0 _ _ (by omega)).trans hdef)
    have m2:Marks w0 ([{ target := .collected w.heap.size,args := #[] }]++a.defers) W1:=by
     obtain ⟨bs,b1,b2,b3⟩:=h8
     obtain ⟨bs',c1,c2,c3⟩:=m1
     have hb:bs'=bs:=by
      rw [b1]at c1
      have:=congrArg (List.map fun d:Deferred=>(match d.target with | .collected b=>b | _=>0)) c1
      simpa [List.map_map,Function.comp_def] using this.symm
     subst hb
     refine ⟨w.heap.size::bs',by rw [b1]; simp,?_,?_⟩
     ·refine List.nodup_cons.2 ⟨fun hm=>?_,b2⟩
      have:=(Array.getElem?_eq_some_iff.1 (b3 _ hm).2).1
      omega
     intro b hb
     rcases List.mem_cons.1 hb with rfl | hb
     ·exact ⟨h6.size,hd1⟩
     exact c3 b hb
    exact (m2.next i2 j3).next j2 p3
   have henv:ze9 (w2.putObj W0.heap.size (.loop { r' with tmps:=t,state := .exhausted,pending:=r'.pending })).heap F2 (GSt.take ⟨G2.obs.set G.obs.length (.lp ver W0.heap.size ({ r' with state := .exhausted,pending:=r'.pending },L') tm,lc),G2.tick⟩ G.obs.length) e { a with defers:=[{ target := .collected w.heap.size,args := #[] }]++a.defers } :=
    fun k=>((((h5 k).next h4 n12).next i2 j3).next j2 p3).next p2 n3
   have hst:Sto F0 G0 w0 N Q x { a with defers:=[{ target := .collected w.heap.size,args := #[] }]++a.defers } (w2.putObj W0.heap.size (.loop { r' with tmps:=t,state := .exhausted,pending:=r'.pending })):=by
    refine ⟨e,F2,_,?_,i3,henv,hnx,h7,hmk⟩
    have:(GSt.take ⟨G2.obs.set G.obs.length (.lp ver W0.heap.size ({ r' with state := .exhausted,pending:=r'.pending },L') tm,lc),G2.tick⟩ G.obs.length).er=G2.er.take G.obs.length:=by
     simp [GSt.take,GSt.er,Store.take,List.take_set_of_le]
    rw [this]; exact g4
   rw [hsz]at hst
   cases hpe:r'.pending with
   | none=>rw [hpe]at g3 hst ; simp only[yds]at g3; cases g3; exact hst
   | some c =>
    rw [hpe]at g3 hst
    cases c <;> simp only[yds]at g3 <;> cases g3
    ·exact wpIn_exit hst
    exact wpIn_ret hst
theorem Fn.callsV {f:FuncId} {fn:Func} (h:Fn P f fn c) (hT:zbw P T) (hm:P.follows .mixedOrders=true) {args:List PV} {K:PV→Store→Prop} (hn:args.length≤fn.ntmps)
  (hw:V P T c (zfk T fn.results.toList K) (zae args) S) {F:Nat→Prop} {G:GSt} {w:World} {cargs:Array Value} (hS:G.er=S) (hi:Inv F G w) (hl:args.length=cargs.size)
  (hv:∀ (i:Nat) p c,args[i]?=some p→cargs[i]?=some c→VR w.heap F G p c) :
  Calls P f cargs w fun e w'=>∃ v cv F' G',e = .returned cv∧K v G'.er∧Inv F' G' w'∧Next F G w F' G' w'∧VR w'.heap F' G' v cv :=
 h.calls_of hT hn hi hl (hw.run hT hm F G w fn.ntmps F G _ w hS hi (z5e hl hv _ _) (Next.refl w) (by simp; omega) Marks.nil h.dst)
theorem Ev.ofV {f:FuncId} {fn:Func} (h:Fn P f fn c) (hT:zbw P T) (hm:P.follows .mixedOrders=true) {args:List PV} {J:PV→Store→Prop} (hn:args.length≤fn.ntmps)
  (hw:V P T c (zfk T fn.results.toList fun v S1=>∃ k,J v (S1.take k)) (zae args) S):Ev P f args S J:=by
 refine ⟨h.ent,fun F G w cargs hS hi hl hv=>(h.callsV hT hm hn hw hS hi hl hv).mono ?_⟩
 rintro en w' ⟨v',cv,F',G',k1,⟨k,k2⟩,k3,k4,k5⟩
 obtain ⟨i1,i2⟩:=zgd k3 k
 exact ⟨v',cv,F',G'.take k,k1,(zlo G' k).symm ▸ k2,i1,k4.trans i2,k5.next k3 i2⟩
theorem PC.ofV {f:FuncId} {fn:Func} (h:Fn P f fn c) (hT:zbw P T) (hm:P.follows .mixedOrders=true) {args:List PV} {r:PV} {fr:Bool} (hn:args.length≤fn.ntmps)
  (hw:V P T c (zfk T fn.results.toList fun v S=>reify S (!fr) 10 v=some r) (zae args) ⟨[],0⟩):PC P f args r fr:=by
 refine ⟨h.ent,fun F w cargs hF hl hv=>?_⟩
 have hi:Inv F ⟨[],0⟩ w:=⟨hF,by simp,by simp,by simp,by simp,by simp,by simp⟩
 refine (h.callsV hT hm hn hw rfl hi hl fun i p c q1 q2 => .imm _ _ (hv i p c q1 q2)).mono ?_
 rintro en w' ⟨v',cv,F',G',rfl,k2,k3,k4,k5⟩
 refine ⟨cv,rfl,⟨⟨k4.os,k4.tape,k4.output,k4.size,fun b hb=>k4.keep b hb (by simp)⟩,k4.drawn⟩,(zek k3 k5 k2).mono ?_ (fun _ _=>rfl)⟩
 rintro b (⟨h1,h2⟩ | ⟨o,x,hx,rfl⟩)
 ·rcases k4.fnew b h2 with h3 | h3 | ⟨o,x,hx,_⟩
  ·exact .inr ⟨by simpa using h1,h3⟩
  ·exact .inl ⟨h3,k3.fr b h2⟩
  simp at hx
 rcases k4.gnew o x hx with h3 | ⟨o',y,hy,_⟩
 ·exact .inl ⟨h3,k3.blk_lt hx⟩
 simp at hy
end
end
section
section
variable {P:Program} {T:Tab} {F0:Nat→Prop} {G0:GSt} {w0:World} {N:Nat}
theorem z7r {e:Env} {S:Store} {o:Op} (hc:∀ c,o ≠ .call c) {K1 K2:PV→Store→Prop} (h1:pOp P T e S o K1) (h2:pOp P T e S o K2):pOp P T e S o fun v S'=>K1 v S'∧K2 v S':=by
 cases o with
 | call c=>exact absurd rfl (hc c)
 | alloc t=>exact ⟨h1.1,h1.2,h2.2⟩
 | box t x=>exact ⟨h1.1,h1.2.1,h1.2.2.1,h1.2.2.2,h2.2.2.2⟩
 | buildSlice t n ps =>
  simp only[pOp]at h1 h2 ⊢
  split at h1
  ·rename_i et hk
   rw [hk]at h2
   simp only at h2 ⊢
   refine ⟨h1.1,h1.2.1,?_⟩
   have h1:=h1.2.2
   have h2:=h2.2.2
   split at h1
   ·rename_i cells hf
    rw [hf]at h2
    simp only at h2 ⊢
    exact ⟨h1.1,h1.2,h2.2⟩
   exact h1.elim
  exact h1.elim
 | makeSlice t l c =>
  simp only[pOp]at h1 h2 ⊢
  split at h1
  ·rename_i et q l' q' c' hk e1 e2
   rw [hk,e1,e2]at h2
   simp only at h2 ⊢
   exact ⟨h1.1,h1.2.1,h1.2.2.1,h1.2.2.2.1,h1.2.2.2.2,h2.2.2.2.2⟩
  exact h1.elim
 | makeMap t r=>exact ⟨h1.1,h1.2,h2.2⟩
 | store t a x =>
  simp only[pOp]at h1 h2 ⊢
  split at h1
  ·rename_i o ver off ha
   rw [ha]at h2
   simp only at h2 ⊢
   split at h1
   ·rename_i v et sz cells ho
    rw [ho]at h2
    simp only at h2 ⊢
    exact ⟨h1.1,h1.2.1,h1.2.2.1,h1.2.2.2.1,h1.2.2.2.2.1,h1.2.2.2.2.2,h2.2.2.2.2.2⟩
   exact h1.elim
  exact h1.elim
 | mapUpdate t m k x =>
  simp only[pOp]at h1 h2 ⊢
  split at h1
  ·rename_i kt vt o ver hk hm
   rw [hk,hm]at h2
   simp only at h2 ⊢
   split at h1
   ·rename_i v es ho
    rw [ho]at h2
    simp only at h2 ⊢
    refine ⟨h1.1,h1.2.1,?_⟩
    have h1:=h1.2.2
    have h2:=h2.2.2
    split at h1
    ·rename_i hf; rw [hf]at h2; exact ⟨h1,h2⟩
    ·rename_i hf; rw [hf]at h2; exact ⟨h1,h2⟩
    exact h1.elim
   exact h1.elim
  exact h1.elim
 | _ =>
  simp only[pOp]at h1 h2 ⊢
  rw [zmg]at h1 h2 ⊢
  obtain ⟨v,e1,k1⟩:=h1
  obtain ⟨v',e2,k2⟩:=h2
  rw [e1]at e2
  cases e2
  exact ⟨v,e1,k1,k2⟩
theorem z37 {ops:Array Oper} {o:Oper} {e:Env} {y1 n1 y2 n2:Prop} (h1:zdp ops o e y1 n1) (h2:zdp ops o e y2 n2):zdp ops o e (y1∧y2) (n1∧n2):=by
 unfold zdp at *
 split at h1
 ·rename_i h; rw [h]at h2; exact ⟨h1,h2⟩
 ·rename_i h; rw [h]at h2; exact ⟨h1,h2⟩
 exact h1.elim
theorem z9c {R:Option Nat} {nn:Nat} (hT:zbw P T) {ops:Array Oper} {effs pend keep:List Nat} {Q:Env→Store→Prop} {i:Nat} {r1 r2:List Nat} {e:Env} {F:Nat→Prop} {G:GSt} {a:Act} {w:World}
  (hnc:∀ o:Oper,ops[i]?=some o→∀ c,o.op ≠ .call c)
  (h1:zdl P T ops effs pend keep Q (i::r1) e G.er) (h2:zdl P T ops effs pend keep Q (i::r2) e G.er) (hi:Inv F G w) (he:ze9 w.heap F G e a) (hn:Next F0 G0 w0 F G w) (hs:a.tmps.size=N) (hd:Marks w0 a.defers w)
  (hdst:∀ o∈ops.toList,∀ d,o.dst=some d→d<N) {Qx:Exit→Act→World→Prop} {K:Act→World→Prop}
  (hK:∀ e' F' G' a' w',zdl P T ops effs pend keep Q r1 e' G'.er→zdl P T ops effs pend keep Q r2 e' G'.er→Inv F' G' w'→ze9 w'.heap F' G' e' a'→Next F0 G0 w0 F' G' w'→a'.tmps.size=N→Marks w0 a'.defers w'→K a' w') :
  wpOpIn (fnc R) nn P ops Qx i K a w:=by
 simp only[zdl]at h1 h2
 unfold wpOpIn
 cases ho:ops[i]? with
 | none=>rw [ho]at h1; exact h1.elim
 | some o =>
  rw [ho]at h1 h2
  have hnc:=hnc o ho
  have hd1:∀ t,o.dst=some t→t<a.tmps.size:=fun t ht=>by
   rw [hs]; exact hdst o (List.mem_of_getElem? (i:=i) (by simpa using ho)) t ht
  simp only at h1 h2 ⊢
  rcases ziq he (z37 h1 h2) with ⟨hw,h1,h2⟩ | ⟨hw,h1,h2⟩
  ·rw [if_pos hw]
   split at h1
   ·rename_i hc
    rw [if_pos hc]at h2
    refine zis hT hi he (z7r hnc h1 h2) ?_
    intro v cv F' G' w' hk i1 i2 i3
    exact hK _ _ _ _ _ hk.1.2 hk.2.2 i1 ((he.next hi i2).put _ hd1 i3) (hn.trans i2) (by rw [ze1]; exact hs) (by rw [zc6]; exact hd.next hi i2)
   ·rename_i hc
    rw [if_neg hc]at h2
    rw [zc9]at h1 h2
    obtain ⟨v,f1,_,f3⟩:=h1
    obtain ⟨v',g1,_,g3⟩:=h2
    have hv:v=v':=by
     have hop:=z7r hnc (zq1 f1) (zq1 g1)
     have key:∀ {op:Op},(∀ c,op ≠ .call c)→pFl P T G.er e op v→pFl P T G.er e op v'→v=v':=by
      intro op hc a1 a2
      cases op with
      | call c=>exact absurd rfl (hc c)
      | _=>exact Option.some.inj (a1.symm.trans a2)
     exact key hnc f1 g1
    subst hv
    refine zis hT hi he (zq1 f1) ?_
    rintro v' cv F' G' w' ⟨rfl,hS⟩ i1 i2 i3
    exact hK _ _ _ _ _ (by rw [hS]; exact f3) (by rw [hS]; exact g3) i1 ((he.next hi i2).put _ hd1 i3) (hn.trans i2) (by rw [ze1]; exact hs) (by rw [zc6]; exact hd.next hi i2)
  rw [if_neg (by simp [hw])]
  exact ⟨fun _ _=>trivial,hK _ _ _ _ _ h1 h2 hi (zm7 hi he _ hd1) hn (by rw [ze1]; exact hs) (by rw [zc6]; exact hd)⟩
theorem z51 {R:Option Nat} {nn:Nat} (hT:zbw P T) {ops:Array Oper} {effs pend keep:List Nat} {Q:Env→Store→Prop} (hdst:∀ o∈ops.toList,∀ d,o.dst=some d→d<N)
  (hdep:∀ (i:Nat) o,ops[i]?=some o→∀ e∈o.after.toList,Region.binds .any e=true→e.on<ops.size) {x0 y0:Nat} (hxy:x0≠y0) (hno1:((prs ops).getD x0 0).testBit y0=false) (hno2:((prs ops).getD y0 0).testBit x0=false)
  (hnc:∀ (i:Nat) (o:Oper),ops[i]?=some o→∀ c,o.op ≠ .call c) :
  ∀ (fuel:Nat) (listed:Array Bool) (l l':List Nat) {e:Env} {F:Nat→Prop} {G:GSt} {a:Act} {w:World},l.length=fuel→l'.length=fuel→x0∈l→y0∈l →
   l.Pairwise (fun x i=>zgp ops (prs ops) effs pend x i=true∨(x=x0∧i=y0))→l'.Pairwise (fun x i=>zgp ops (prs ops) effs pend x i=true∨(x=y0∧i=x0))→l.Nodup→l'.Nodup→(∀ x∈l,((prs ops).getD x 0).testBit x=false) →
   listed.size=ops.size→(∀ i,i∈l↔i<ops.size∧listed.getD i true=false)→(∀ i,i∈l'↔i<ops.size∧listed.getD i true=false) →
   (∀ i x,listed.getD i false=true→((prs ops).getD i 0).testBit x=true→x<ops.size→listed.getD x true=true) →
   zdl P T ops effs pend keep Q l e G.er→zdl P T ops effs pend keep Q l' e G.er→Inv F G w→ze9 w.heap F G e a→Next F0 G0 w0 F G w→a.tmps.size=N→Marks w0 a.defers w →
   wpAnyIn (fnc R) nn P .any ops (Sto F0 G0 w0 N (Nrm Q)) fuel listed a w:=by
 intro fuel
 induction fuel with
 | zero =>
  intro listed l l' e F G a w hl hl' hx0 hy0 hp hp' hnd hnd' hself hsz hmem hmem' hcl h h' hi he hn hs hd
  have hl0:l=[]:=List.eq_nil_of_length_eq_zero hl
  subst hl0
  simp at hx0
 | succ fuel ih =>
  intro listed l l' e F G a w hl hl' hx0 hy0 hp hp' hnd hnd' hself hsz hmem hmem' hcl h h' hi he hn hs hd
  have hmm:∀ i,i∈l↔i∈l':=fun i=>(hmem i).trans (hmem' i).symm
  have bound:∀ i x,((prs ops).getD i 0).testBit x=true→x<ops.size:=by
   have key:∀ n i x,i<n→((prs ops).getD i 0).testBit x=true→x<ops.size:=by
    intro n
    induction n with
    | zero=>intro i x h; omega
    | succ n ihn =>
     intro i x hin hx
     obtain ⟨o,ho,ed,h1,h2,h3⟩:=ziu hx
     rcases h3 with rfl | ⟨h3,h4⟩
     ·exact hdep i o ho ed h1 h2
     exact ihn ed.on x (by omega) h4
   exact fun i x=>key (i+1) i x (Nat.lt_succ_self _)
  have facts:∀ i,i∈Region.ready .any ops listed→i∈l∧∃ q,ops[i]?=some q∧∀ e∈q.after.toList,Region.binds .any e=true→listed.getD e.on false=true:=by
   intro i hr
   unfold Region.ready at hr
   rw [List.mem_filter]at hr
   obtain ⟨h1,h2⟩:=hr
   have hlt:i<ops.size:=by simpa using h1
   rw [Array.getElem?_eq_getElem hlt]at h2
   simp only[qO,Option.getD_some,qB,Bool.not_eq_true']at h2
   refine ⟨(hmem i).2 ⟨hlt,h2.1⟩,ops[i],Array.getElem?_eq_getElem hlt,fun e he hb=>?_⟩
   have:=h2.2
   rw [Array.all_eq_true_iff_forall_mem]at this
   have:=this e (by simpa using he)
   simpa [hb] using this
  have preds:∀ i,i∈Region.ready .any ops listed→∀ x,((prs ops).getD i 0).testBit x=true→listed.getD x true=true:=by
   intro i hr x hx
   obtain ⟨_,q,hq,hdeps⟩:=facts i hr
   have hxl:=bound i x hx
   obtain ⟨o,ho,ed,h1,h2,h3⟩:=ziu hx
   rw [hq]at ho
   cases ho
   have hl1:=hdeps ed h1 h2
   rcases h3 with rfl | ⟨_,h3⟩
   ·have hlt:ed.on<listed.size:=by rw [hsz]; exact hxl
    rw [Array.getD_eq_getD_getElem?,Array.getElem?_eq_getElem hlt]at hl1 ⊢
    exact hl1
   exact hcl _ _ hl1 h3 hxl
  refine ⟨fun hr0=>?_,fun i hr=>?_⟩
  ·exfalso
   cases l with
   | nil=>simp at hl
   | cons x l =>
    have hx:=(hmem x).1 (by simp)
    have hready:x∈Region.ready .any ops listed:=by
     unfold Region.ready
     rw [List.mem_filter]
     refine ⟨by simpa using hx.1,?_⟩
     rw [Array.getElem?_eq_getElem hx.1]
     simp only[qO,Option.getD_some,qB,Bool.not_eq_true']
     refine ⟨hx.2,?_⟩
     rw [Array.all_eq_true_iff_forall_mem]
     intro ed hed
     cases hb:Region.binds .any ed with
     | false=>simp
     | true =>
      have hon:=hdep x _ (Array.getElem?_eq_getElem hx.1) ed (by simpa using hed) hb
      have hbit:=ztg (Array.getElem?_eq_getElem hx.1) (by simpa using hed) hb
      cases hq:listed.getD ed.on true with
      | true =>
       have hlt:ed.on<listed.size:=by rw [hsz]; exact hon
       rw [Array.getD_eq_getD_getElem?,Array.getElem?_eq_getElem hlt]at hq ⊢
       simpa using hq
      | false =>
       exfalso
       have hm:=(hmem ed.on).2 ⟨hon,hq⟩
       rcases List.mem_cons.1 hm with he1 | hm
       ·have:=hself x (by simp)
        rw [he1]at hbit
        rw [hbit]at this
        cases this
       rcases List.rel_of_pairwise_cons hp hm with this | ⟨e1,e2⟩
       ·unfold zgp at this
        rw [hbit]at this
        simp at this
       rw [e1,e2,hno1]at hbit; cases hbit
    rw [hr0]at hready
    simp at hready
  obtain ⟨hil,q,hq,_⟩:=facts i hr
  have hil':=(hmm i).1 hil
  obtain ⟨l1,l2,rfl⟩:=List.append_of_mem hil
  obtain ⟨l3,l4,rfl⟩:=List.append_of_mem hil'
  have good:∀ x,x∈l1++i::l2→zgp ops (prs ops) effs pend x i=true→∃ p,ops[x]?=some p∧effs.contains x=false∧Oper.apart ops p q=true∧(effs.contains i=true→(pend.contains x=true∧pend.contains i=false)∨zmy p.op=true):=by
   intro x hx hpair
   have hxm:=(hmem x).1 hx
   have hnb:((prs ops).getD i 0).testBit x=false:=by
    cases hb:((prs ops).getD i 0).testBit x with
    | false=>rfl
    | true=>have:=preds i hr x hb; rw [hxm.2]at this; cases this
   unfold zgp at hpair
   rw [hnb,hq,Array.getElem?_eq_getElem hxm.1]at hpair
   simp only[Bool.false_or,qB,Bool.not_eq_true',Bool.or_eq_true]at hpair
   refine ⟨ops[x],Array.getElem?_eq_getElem hxm.1,hpair.2.1.1,hpair.2.1.2,fun hc=>?_⟩
   rcases hpair.2.2 with (h1 | h1) | h1
   ·rw [hc]at h1; cases h1
   ·exact .inl h1
   exact .inr h1
  have hlt:i<ops.size:=((hmem i).1 hil).1
  have hgetD:∀ j d,(listed.setIfInBounds i true).getD j d=if j=i then true else listed.getD j d:=by
   intro j d
   rw [Array.getD_eq_getD_getElem?,Array.getD_eq_getD_getElem?]
   by_cases hj:j=i
   ·subst hj; simp [hsz,hlt]
   rw [Array.getElem?_setIfInBounds_ne (Ne.symm hj),if_neg hj]
  have nmem:∀ {m1 m2:List Nat},(m1++i::m2).Nodup→i ∉ m1++m2:=by
   intro m1 m2 hnd hm
   have:=List.nodup_append.1 hnd
   rcases List.mem_append.1 hm with h1 | h1
   ·exact this.2.2 i h1 i (by simp) rfl
   exact (List.nodup_cons.1 this.2.1).1 h1
  have nlist:∀ {m1 m2:List Nat},(m1++i::m2).Nodup→(∀ j,j∈m1++i::m2↔j<ops.size∧listed.getD j true=false)→∀ j,j∈m1++m2↔j<ops.size∧(listed.setIfInBounds i true).getD j true=false:=by
   intro m1 m2 hnd hm j
   rw [hgetD]
   by_cases hj:j=i
   ·subst hj
    rw [if_pos rfl]
    exact ⟨fun h=>(nmem hnd h).elim,fun h=>(by cases h.2)⟩
   rw [if_neg hj,← hm j]
   simp [hj]
  have ncl:∀ (j x:Nat),(listed.setIfInBounds i true).getD j false=true→((prs ops).getD j 0).testBit x=true→x<ops.size→(listed.setIfInBounds i true).getD x true=true:=by
   intro j x h1 h2 h3
   rw [hgetD]at h1 ⊢
   by_cases hx:x=i
   ·rw [if_pos hx]
   rw [if_neg hx]
   by_cases hj:j=i
   ·subst hj; exact preds j hr x h2
   rw [if_neg hj]at h1; exact hcl j x h1 h2 h3
  by_cases ix:i=x0
  ·subst ix
   have hfront:=ze3 hq l1 (fun x hx=>good x (by simp [hx]) (by
    rcases (List.pairwise_append.1 hp).2.2 x hx i (by simp) with h1 | ⟨e1,e2⟩
    ·exact h1
    exact absurd e2 hxy)) h
   refine zme hT hfront hi he hn hs hd hdst ?_
   intro e' F' G' a' w' k1 k2 k3 k4 k5 k6
   refine zlz hT hdst hdep _ _ (l1++l2) (by simp at hl ⊢; omega) ?_ (hnd.sublist (by simp)) (fun x hx=>hself x (by rcases List.mem_append.1 hx with h9 | h9 <;> simp [h9])) (by simp [hsz]) (nlist hnd hmem) ncl k1 k2 k3 k4 k5 k6
   refine (hp.sublist (by simp)).imp_of_mem (S:=fun x i=>zgp ops (prs ops) effs pend x i=true) fun {x y} hx hy hh=>?_
   rcases hh with h1 | ⟨e1,e2⟩
   ·exact h1
   exact absurd (e1 ▸ hx) (nmem hnd)
  by_cases iy:i=y0
  ·subst iy
   have hfront:=ze3 hq l3 (fun x hx=>good x ((hmm x).2 (by simp [hx])) (by
    rcases (List.pairwise_append.1 hp').2.2 x hx i (by simp) with h1 | ⟨e1,e2⟩
    ·exact h1
    exact absurd e2 ix)) h'
   refine zme hT hfront hi he hn hs hd hdst ?_
   intro e' F' G' a' w' k1 k2 k3 k4 k5 k6
   refine zlz hT hdst hdep _ _ (l3++l4) (by simp at hl' ⊢; omega) ?_ (hnd'.sublist (by simp)) (fun x hx=>hself x ((hmm x).2 (by rcases List.mem_append.1 hx with h9 | h9 <;> simp [h9]))) (by simp [hsz]) (nlist hnd' hmem') ncl k1 k2 k3 k4 k5 k6
   refine (hp'.sublist (by simp)).imp_of_mem (S:=fun x i=>zgp ops (prs ops) effs pend x i=true) fun {x y} hx hy hh=>?_
   rcases hh with h1 | ⟨e1,e2⟩
   ·exact h1
   exact absurd (e1 ▸ hx) (nmem hnd')
  have hf1:=ze3 hq l1 (fun x hx=>good x (by simp [hx]) (by
   rcases (List.pairwise_append.1 hp).2.2 x hx i (by simp) with h1 | ⟨e1,e2⟩
   ·exact h1
   exact absurd e2 iy)) h
  have hf2:=ze3 hq l3 (fun x hx=>good x ((hmm x).2 (by simp [hx])) (by
   rcases (List.pairwise_append.1 hp').2.2 x hx i (by simp) with h1 | ⟨e1,e2⟩
   ·exact h1
   exact absurd e2 ix)) h'
  refine z9c hT (hnc i) hf1 hf2 hi he hn hs hd hdst ?_
  intro e' F' G' a' w' k1 k1' k2 k3 k4 k5 k6
  have hx1:x0∈l1++l2:=by have:=hx0; simp only[List.mem_append,List.mem_cons]at this ⊢; rcases this with h9 | h9 | h9 <;> first | exact .inl h9 | exact .inr h9 | exact absurd h9.symm ix
  have hy1:y0∈l1++l2:=by have:=hy0; simp only[List.mem_append,List.mem_cons]at this ⊢; rcases this with h9 | h9 | h9 <;> first | exact .inl h9 | exact .inr h9 | exact absurd h9.symm iy
  exact ih _ (l1++l2) (l3++l4) (by simp at hl ⊢; omega) (by simp at hl' ⊢; omega) hx1 hy1 (hp.sublist (by simp)) (hp'.sublist (by simp)) (hnd.sublist (by simp)) (hnd'.sublist (by simp)) (fun x hx=>hself x (by rcases List.mem_append.1 hx with h9 | h9 <;> simp [h9])) (by simp [hsz])
   (nlist hnd hmem) (nlist hnd' hmem') ncl k1 k1' k2 k3 k4 k5 k6
def z5m (ops:Array Oper) (l l' effs pend:List Nat) (a b:Nat):Bool :=
 let B:=prs ops
 zle (fun x i=>zgp ops B effs pend x i || (x == a && i == b)) l && zle (fun x i=>zgp ops B effs pend x i || (x == b && i == a)) l' && l.length == ops.size && l'.length == ops.size && l.all (fun x=>decide (x<ops.size) && !(B.getD x 0).testBit x) && l'.all (fun x=>decide (x<ops.size)) &&
 ((List.range ops.size).all l.contains) && ((List.range ops.size).all l'.contains) && (ops.toList.all fun o=>o.after.toList.all fun e => !Region.binds .any e || decide (e.on<ops.size)) &&
 !(a == b) && l.contains a && l.contains b && !(B.getD a 0).testBit b && !(B.getD b 0).testBit a && ops.toList.all fun o=>match o.op with | .call _=>false | _=>true
theorem W.region_two {Q:Exit→Env→Store→Prop} {e:Env} {S:Store} {id:Nat} {ops:Array Oper} (l l' effs pend keep:List Nat) (a b:Nat) (hc:z5m ops l l' effs pend a b=true) (h:zdl P T ops effs pend keep (Q .normal) l e S) (h':zdl P T ops effs pend keep (Q .normal) l' e S) :
  W P T (.region id ops true) Q e S:=by
 refine ⟨?_⟩
 intro hT hm F0 G0 w0 N F G act w h3 h4 h5 h6 h7 h8 h9 R nn
 subst h3
 unfold z5m at hc
 simp only[qB,beq_iff_eq,List.all_eq_true,decide_eq_true_eq,Bool.not_eq_true',List.contains_eq_mem,List.mem_range,Bool.or_eq_true,beq_eq_false_iff_ne]at hc
 obtain ⟨⟨⟨⟨⟨⟨⟨⟨⟨⟨⟨⟨⟨⟨c1,c1'⟩,c2⟩,c2'⟩,c3⟩,c3'⟩,c4⟩,c4'⟩,c5⟩,c6⟩,c7⟩,c8⟩,c9⟩,c10⟩,c11⟩:=hc
 obtain ⟨p1,p2⟩:=zf8 c1
 obtain ⟨p1',p2'⟩:=zf8 c1'
 have hin:∀ i,i<ops.size↔i<ops.size∧(Array.replicate ops.size false).getD i true=false:=by
  intro i
  constructor
  ·intro hi; refine ⟨hi,?_⟩; rw [Array.getD_eq_getD_getElem?]; simp [hi]
  exact fun h=>h.1
 refine wpIn_mono (wpIn_region_any hm (z51 (Q:=Q .normal) hT (zp3 h9) ?_ c6 c9 c10 ?_ ops.size (Array.replicate ops.size false) l l' c2 c2' (by simpa using c7) (by simpa using c8) (p1.imp fun h=>by simpa using h) (p1'.imp fun h=>by simpa using h) p2 p2' (fun x hx=>(c3 x hx).2) (by simp) ?_ ?_ ?_ h h' (h4.drew) h5 (h6.drew) h7 h8)) zw3
 ·intro i o ho ed hed hb
  have hmem:o∈ops.toList:=by
   have:=Array.mem_of_getElem? ho
   simpa using this
  have:=c5 o hmem ed hed
  rw [hb]at this
  simpa using this
 ·intro i o ho c hcc
  have hmem:o∈ops.toList:=by
   have:=Array.mem_of_getElem? ho
   simpa using this
  have:=c11 o hmem
  rw [hcc]at this
  simp at this
 ·exact fun i=>⟨fun hi=>(hin i).1 (c3 i hi).1,fun hi=>c4 i hi.1⟩
 ·exact fun i=>⟨fun hi=>(hin i).1 (c3' i hi),fun hi=>c4' i hi.1⟩
 intro i x hx
 rw [Array.getD_eq_getD_getElem?]at hx
 simp only[Array.getElem?_replicate]at hx
 split at hx <;> cases hx
theorem zp6 {all:List Oper} {effs pend:List Nat} {K:Env→Store→Prop} (heff:∀ (i:Nat) (o:Oper),all[i]?=some o→effs.contains i=false→zdu o.op=true) {x:Nat} {cs:List PV} {off:Nat}
  (hx:∀ (i:Nat) (o:Oper),all[i]?=some o→o.dst≠some x) (hpe:∀ (i:Nat) (o:Oper),all[i]?=some o→pend.contains i=true→∃ t,o.op = .load t (.tmp x)):∀ (r:List Nat) (l:List Oper) {e:Env} {S:Store},e x = .ip cs off→r.map (all[·]?)=l.map some →
  zbr false P T (dsts all) l e S K→zdl P T all.toArray effs pend [] K r e S
 | [],l,e,S,_,hl,h=>by
  cases l with
  | nil=>exact h
  | cons o l=>simp at hl
 | i::r,l,e,S,hex,hl,h=>by
  cases l with
  | nil=>simp at hl
  | cons o l =>
   simp only[List.map_cons,List.cons.injEq]at hl
   obtain ⟨ho,hl⟩:=hl
   have hput:∀ v,(e.put o.dst v) x = .ip cs off:=fun v=>by
    have:=hx i o ho
    cases hd:o.dst with
    | none=>exact hex
    | some d=>rw [zuu,if_neg (fun e1=>this (by rw [hd,e1]))]; exact hex
   unfold zbr at h
   simp only[zdl,List.getElem?_toArray,ho]
   rw [zla]at h
   unfold zdp
   split at h
   ·rename_i hg
    rw [hg]
    simp only
    split
    ·exact zee (fun v S' hv=>⟨.inr (by intro o ho; cases ho),zp6 heff hx hpe r l (hput v) hl hv⟩) (zlk h)
    rename_i hc
    have:=zl3 (heff i o ho (by simpa using hc)) h
    rw [zc9]at this ⊢
    obtain ⟨v,h1,h2⟩:=this
    refine ⟨v,h1,?_,zp6 heff hx hpe r l (hput v) hl h2⟩
    split
    ·rename_i hp
     obtain ⟨t,ht⟩:=hpe i o ho hp
     intro S' _
     rw [ht]at h1 ⊢
     simp only[pFl,zd0,z55,hex,zr6]at h1 ⊢
     exact h1
    trivial
   ·rename_i hg; rw [hg]; exact zp6 heff hx hpe r l (hput _) hl h
   exact h.elim
def ygj (l:List Oper) (effs pend:List Nat) (x:Nat):Bool :=
 l.all (fun o=>o.dst != some x) && (l.zipIdx.all fun q => !pend.contains q.2 || (match q.1.op with | .load _ (.tmp y)=>y == x | _=>false))
theorem W.draw_two {Q:Exit→Env→Store→Prop} {e:Env} {S:Store} {id:Nat} {l r1 r2:List Oper} (l1 l2 pend:List Nat) (a b x:Nat) {cs:List PV} {off:Nat} (hex:e x = .ip cs off) (hc:z5m l.toArray l1 l2 (zct l 0) pend a b=true) (ho:ygj l (zct l 0) pend x=true)
  (hr:l1.map (l[·]?)=r1.map some) (hr2:l2.map (l[·]?)=r2.map some)
  (h1:∀ K:Env→Store→Prop,(∀ e S,Q .normal e S→K e S)→zbr false P T (dsts l) r1 e S K) (h2:∀ K:Env→Store→Prop,(∀ e S,Q .normal e S→K e S)→zbr false P T (dsts l) r2 e S K):W P T (.region id l.toArray true) Q e S:=by
 unfold ygj at ho
 simp only[qB,List.all_eq_true,bne_iff_ne,Bool.or_eq_true,Bool.not_eq_true']at ho
 have heff:∀ (i:Nat) (o:Oper),l[i]?=some o→(zct l 0).contains i=false→zdu o.op=true:=by
  intro i o hio hc
  have:=zim l 0 i o hio
  rw [Nat.zero_add]at this
  cases hf:zdu o.op with
  | true=>rfl
  | false=>have:=this.2 hf; simp at hc; exact absurd this hc
 have hx:∀ (i:Nat) (o:Oper),l[i]?=some o→o.dst≠some x:=fun i o hio=>ho.1 o (List.mem_of_getElem? hio)
 have hpe:∀ (i:Nat) (o:Oper),l[i]?=some o→pend.contains i=true→∃ t,o.op = .load t (.tmp x):=by
  intro i o hio hp
  rcases ho.2 (o,i) (List.mem_of_getElem? (i:=i) (by simp [List.getElem?_zipIdx,hio])) with h | h
  ·rw [hp]at h; cases h
  simp only at h
  split at h
  ·rename_i t y hop; exact ⟨t,by rw [hop,beq_iff_eq.1 h]⟩
  cases h
 exact W.region_two l1 l2 (zct l 0) pend [] a b hc (zp6 heff hx hpe _ _ hex hr (h1 _ fun _ _ h=>h)) (zp6 heff hx hpe _ _ hex hr2 (h2 _ fun _ _ h=>h))
end
end
end Fw
end Go.Proofs.YtcfgpmeebpinaaaGreat
