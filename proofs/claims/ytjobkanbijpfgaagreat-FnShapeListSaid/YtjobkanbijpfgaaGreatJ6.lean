/- Best shapes along cuts are all best shapes: the law FnShapeList answers true for all codes. No condition. -/
import Derived.Test.YtjobkanbijpfgaaGreatJ5
import Derived.Test.YtjobkanbijpfgaaGreatJ4
import Derived.Test.YtjobkanbijpfgaaGreatJ3
set_option linter.all false
namespace Go.Proofs.YtjobkanbijpfgaaGreat
namespace Fw
open Go
open Nat renaming reduceEqDiff → qE, reduceLeDiff → qL, reduceAdd → qA, reduceMul → qM, le_refl → qR
open List renaming append_nil → qN, mapM_append → qP, mapM_cons → qC, mapM_map → qU, range_succ → qS, take_of_length_le → qT
open Bool renaming and_eq_true → qB, false_eq_true → qF
open Option renaming map_some → qO, map_eq_some_iff → qI
open Int renaming reduceToNat → qZ
section
section
variable {c:Nat→Nat→Nat} {H W:Nat}
def z1y (c:Nat→Nat→Nat) (t:Pt) (i j:Nat):Nat:=c (t.r+i) (t.c+j)
theorem Pl.sub (h:Pl c H W) {t:Pt} (ht:t.In H W):Pl (z1y c t) t.h t.w:=by
 obtain ⟨t1,t2,t3,t4⟩:=ht
 constructor
 ·intro i j i' j' k l a b c' d e f1 f2 f3 f4
  exact h.rect (t.r+k) (t.c+l) (by omega) (by omega) (by omega) (by omega) e (by omega) (by omega) (by omega) (by omega)
 intro i j a b e1 e2 e3
 exact h.plain (i:=t.r+i) (j:=t.c+j) (by omega) (by omega) e1 e2 e3
theorem DL.sub {t:Pt} (ht:t.In H W) {a b:Nat} (h:DL (z1y c t) t.h t.w a b):DL c H W a b:=by
 obtain ⟨t1,t2,t3,t4⟩:=ht
 obtain ⟨j,i1,i2,a1,a2,a3,a4,a5,a6⟩:=h
 refine ⟨t.c+j,t.r+i1,t.r+i2,by omega,by omega,by omega,fun r h1 h2=>?_,a5,a6⟩
 have:=a4 (r - t.r) (by omega) (by omega)
 simp only[z1y]at this
 rwa [show t.r+(r - t.r)=r by omega]at this
theorem DU.sub {t:Pt} (ht:t.In H W) {a b:Nat} (h:DU (z1y c t) t.h t.w a b):DU c H W a b:=by
 obtain ⟨t1,t2,t3,t4⟩:=ht
 obtain ⟨i,j1,j2,a1,a2,a3,a4,a5,a6⟩:=h
 refine ⟨t.r+i,t.c+j1,t.c+j2,by omega,by omega,by omega,fun r h1 h2=>?_,a5,a6⟩
 have:=a4 (r - t.c) (by omega) (by omega)
 simp only[z1y]at this
 rwa [show t.c+(r - t.c)=r by omega]at this
end
section
variable {p:List Txt}
theorem zxk (hp:ze6 p=true) {t:Pt} (hw:Whole (zat p) p.length (za1 p).length t) {q:Bool × Nat} (hq:zd4 (zat p) t=some q) {x y:CT} (hx:zc4 (zat p) (t.one q)=some x) (hy:zc4 (zat p) (t.two q)=some y) :
  ∀ a b,a∈x.leaves→b∈y.leaves→(q.1=false→Lf p a.toNat b.toNat)∧(q.1=true→Ab p a.toNat b.toNat):=by
 intro a b ha hb
 have hpl:=zec hp
 have hi:=hw.inn
 obtain ⟨i1,i2,_,_⟩:=hi.cut hq
 obtain ⟨w1,w2⟩:=hw.cut (ze4 hpl) hq
 obtain ⟨_,m1,_⟩:=zdv (ze4 hpl) _ w1 (qR _) hx
 obtain ⟨_,m2,_⟩:=zdv (ze4 hpl) _ w2 (qR _) hy
 obtain ⟨r1,c1,e1,e2,e3,e4,e5⟩:=(m1 a).1 ha
 obtain ⟨r2,c2,f1,f2,f3,f4,f5⟩:=(m2 b).1 hb
 have hin:=hi
 unfold Pt.In at hin i1 i2
 have hP:=(z9p hp).sub hi
 obtain ⟨k1,k2⟩:=zew hq
 obtain ⟨lv,k⟩:=q
 have hra:=zen hpl (i:=r1) (j:=c1) (by omega) (by omega)
 have hrb:=zen hpl (i:=r2) (j:=c2) (by omega) (by omega)
 have ca:=zg2 hpl (i:=r1) (j:=c1) (by omega) (by omega)
 have cb:=zg2 hpl (i:=r2) (j:=c2) (by omega) (by omega)
 have ha':a.toNat<(rP p).length:=by omega
 have hb':b.toNat<(rP p).length:=by omega
 have ea:cn (gP p) r1 c1=a.toNat:=by omega
 have eb:cn (gP p) r2 c2=b.toNat:=by omega
 have cz:∀ i j,i<p.length→j<(za1 p).length→(cn (gP p) i j:Int)=zat p i j:=fun i j h1 h2=>zg2 hpl h1 h2
 constructor
 ·rintro rfl
  simp only[qF,if_false]at k2
  simp only[Pt.one,Pt.two,qF,if_false] at *
  have hth:=zwv.1 k2.2
  have hT:Thru (z1y (cn (gP p)) t) t.h k:=by
   intro r hr e
   have:=hth r hr
   have g1:=cz (t.r+r) (t.c+k - 1) (by omega) (by omega)
   have g2:=cz (t.r+r) (t.c+k) (by omega) (by omega)
   simp only[z1y]at e
   rw [show t.c+(k - 1)=t.c+k - 1 by omega]at e
   omega
  have h:=zz6 hP k1 k2.1 hT (i:=r1 - t.r) (j:=c1 - t.c) (i':=r2 - t.r) (j':=c2 - t.c) (by omega) (by omega) (by omega) (by omega) (by omega)
  have h2:TC (DL (cn (gP p)) p.length (za1 p).length) (z1y (cn (gP p)) t (r1 - t.r) (c1 - t.c)) (z1y (cn (gP p)) t (r2 - t.r) (c2 - t.c)):=h.mono fun a b hd=>DL.sub hi hd
  simp only[z1y]at h2
  rw [show t.r+(r1 - t.r)=r1 by omega,show t.c+(c1 - t.c)=c1 by omega,show t.r+(r2 - t.r)=r2 by omega,show t.c+(c2 - t.c)=c2 by omega,ea,eb]at h2
  exact (Lf.iff ha' hb').2 h2
 rintro rfl
 simp only[if_true]at k2
 simp only[Pt.one,Pt.two,if_true] at *
 have hth:=zwu.1 k2.2
 have hT:Thru (tr (z1y (cn (gP p)) t)) t.w k:=by
  intro r hr e
  have:=hth r hr
  have g1:=cz (t.r+k - 1) (t.c+r) (by omega) (by omega)
  have g2:=cz (t.r+k) (t.c+r) (by omega) (by omega)
  simp only[tr,z1y]at e
  rw [show t.r+(k - 1)=t.r+k - 1 by omega]at e
  omega
 have h:=zz6 hP.ex k1 k2.1 hT (i:=c1 - t.c) (j:=r1 - t.r) (i':=c2 - t.c) (j':=r2 - t.r) (by omega) (by omega) (by omega) (by omega) (by omega)
 have h2:TC (DU (cn (gP p)) p.length (za1 p).length) (z1y (cn (gP p)) t (r1 - t.r) (c1 - t.c)) (z1y (cn (gP p)) t (r2 - t.r) (c2 - t.c)):=h.mono fun a b hd=>DU.sub hi hd.ex
 simp only[z1y]at h2
 rw [show t.r+(r1 - t.r)=r1 by omega,show t.c+(c1 - t.c)=c1 by omega,show t.r+(r2 - t.r)=r2 by omega,show t.c+(c2 - t.c)=c2 by omega,ea,eb]at h2
 exact (Ab.iff ha' hb').2 h2
end
inductive Ch (M:List (List Bool)) (ws:List Int) (a:Nat):Nat→Int→Prop
 | one:Ch M ws a a (zdm ws a)
 | snoc {b d:Nat} {s:Int}:Ch M ws a b s→zdg M b d=true→Ch M ws a d (s+zdm ws d)
theorem Ch.cat {M:List (List Bool)} {ws:List Int} {a b d e:Nat} {s u:Int} (h:Ch M ws a b s) (hbd:zdg M b d=true) (k:Ch M ws d e u):Ch M ws a e (s+u):=by
 induction k with
 | one=>exact .snoc h hbd
 | snoc k hk ih=>rw [← Int.add_assoc]; exact .snoc ih hk
section
variable {M:List (List Bool)} {ws:List Int} {n:Nat} {rk:Nat→Nat}
theorem Ch.le (hu:Up M n rk) (hsq:∀ a b,zdg M a b=true→a<n) {a b:Nat} {s:Int} (h:Ch M ws a b s):b<n→s≤HB M ws n b:=by
 induction h with
 | one=>intro hb; rw [zs5 hu hb]; have:=yhl (M:=M) (ws:=ws) (n:=n) a; omega
 | snoc k hk ih =>
  intro hb
  have h1:=ih (hsq _ _ hk)
  have h2:=yhk (ws:=ws) (hsq _ _ hk) hk
  rw [zs5 hu hb]; omega
theorem yha (hu:Up M n rk) {pos:Nat→Int} (h0:∀ b,b<n→0≤pos b) (hp:∀ a b,a<n→b<n→zdg M a b=true→pos a+zdm ws a≤pos b):∀ k b,b<n→rk b<k→HB M ws n b≤pos b+zdm ws b:=by
 intro k
 induction k with
 | zero=>intro b _ h; omega
 | succ k ih =>
  intro b hb hk
  rw [zs5 hu hb]
  rcases yhj (M:=M) (ws:=ws) (n:=n) b with e | ⟨a,ha,hab,e⟩
  ·have:=h0 b hb; omega
  have h1:=hu.up a b ha hb hab
  have h2:=ih a ha (by omega)
  have h3:=hp a b ha hb hab
  omega
end
section
variable {p:List Txt}
theorem z0t (hp:ze6 p=true) {ws:List Int} (hn:zd9 ws) (hl:ws.length=(rP p).length):∀ (n:Nat) {t:Pt} {x:CT},Whole (zat p) p.length (za1 p).length t→t.h*t.w≤n→zc4 (zat p) t=some x →
  (∃ pos:Int→Int,(∀ a∈x.leaves,0≤pos a∧pos a+zdm ws a.toNat≤z0g ws x)∧∀ a∈x.leaves,∀ b∈x.leaves,Lf p a.toNat b.toNat→pos a+zdm ws a.toNat≤pos b) ∧
  ∃ a∈x.leaves,∃ b∈x.leaves,Ch (lfM p) ws a.toNat b.toNat (z0g ws x)
 | 0,t,x,hw,hn',_=>by have:=Nat.mul_pos hw.inn.1 hw.inn.2.1; omega
 | n+1,t,x,hw,hn',hx=>by
  have hpl:=zec hp
  have hi:=hw.inn
  have hlv:∀ {t:Pt} {x:CT},Whole (zat p) p.length (za1 p).length t→zc4 (zat p) t=some x→∀ a∈x.leaves,0≤a∧a.toNat<(rP p).length:=by
   intro t x hw hx a ha
   obtain ⟨i,j,e1,e2,e3,e4,e5⟩:=((zdv (ze4 hpl) _ hw (qR _) hx).2.1 a).1 ha
   have hin:=hw.inn
   unfold Pt.In at hin
   have:=zen hpl (i:=i) (j:=j) (by omega) (by omega)
   omega
  cases h1:zw7 (zat p) t with
  | true =>
   rw [zgy hi h1]at hx
   cases hx
   have hb:=hlv hw (zgy hi h1) (zat p t.r t.c) (by simp [CT.leaves])
   refine ⟨⟨fun _=>0,fun a ha=>?_,fun a ha b hb' hab=>?_⟩,_,by simp [CT.leaves],_,by simp [CT.leaves],.one⟩
   ·simp only[CT.leaves,List.mem_singleton]at ha; subst ha; simp [z0g,CT.fold]
   simp only[CT.leaves,List.mem_singleton]at ha hb'
   subst ha; subst hb'
   exact absurd hab (Lf.only hp hb.2 hb.2 hab).1
  | false =>
   cases hq:zd4 (zat p) t with
   | none=>rw [zhq hi h1 hq]at hx; cases hx
   | some q =>
    obtain ⟨i1,i2,a1,a2⟩:=hi.cut hq
    obtain ⟨w1,w2⟩:=hw.cut (ze4 hpl) hq
    rw [zd0 hi h1 hq]at hx
    cases hx1:zc4 (zat p) (t.one q) with
    | none=>rw [hx1]at hx; cases hx
    | some x1 =>
     cases hx2:zc4 (zat p) (t.two q) with
     | none=>rw [hx1,hx2]at hx; cases hx
     | some x2 =>
      rw [hx1,hx2]at hx
      cases hx
      have hs:=zxk hp hw hq hx1 hx2
      have l1:=hlv w1 hx1
      have l2:=hlv w2 hx2
      obtain ⟨⟨p1,b1,b2⟩,c1,c2,c3,c4,c5⟩:=z0t hp hn hl n w1 (by omega) hx1
      obtain ⟨⟨p2,d1,d2⟩,e1,e2,e3,e4,e5⟩:=z0t hp hn hl n w2 (by omega) hx2
      have v1:0≤z0g ws x1:=by have:=b1 c1 c2; have:=zkc hn (b:=c1.toNat) (by rw [hl]; exact (l1 c1 c2).2); omega
      have hdis:∀ a,a∈x1.leaves→a∈x2.leaves→False:=by
       intro a ha hb
       have:=hs a a ha hb
       have hr:=(l1 a ha).2
       obtain ⟨lv,k⟩:=q
       cases lv with
       | false=>exact (Lf.only hp hr hr (this.1 rfl)).1 (this.1 rfl)
       | true=>exact (Ab.only hp hr hr (this.2 rfl)).1 (this.2 rfl)
      obtain ⟨lv,k⟩:=q
      cases lv with
      | false =>
       have hv:z0g ws (.node false x1 x2)=z0g ws x1+z0g ws x2:=rfl
       simp only at hv ⊢
       rw [hv]
       refine ⟨⟨fun a=>if a∈x1.leaves then p1 a else z0g ws x1+p2 a,fun a ha=>?_,fun a ha b hb hab=>?_⟩,c1,by simp [CT.leaves,c2],e3,by simp [CT.leaves,e4],c5.cat ((hs c3 e1 c4 e2).1 rfl) e5⟩
       ·simp only[CT.leaves,List.mem_append]at ha
        by_cases hm:a∈x1.leaves
        ·simp only[hm,if_true]; have:=b1 a hm; have:=d1 e1 e2; have:=zkc hn (b:=e1.toNat) (by rw [hl]; exact (l2 e1 e2).2); omega
        simp only[hm,if_false]; have:=d1 a (ha.resolve_left hm); omega
       simp only[CT.leaves,List.mem_append]at ha hb
       by_cases hm:a∈x1.leaves <;> by_cases hm':b∈x1.leaves
       ·simp only[hm,hm',if_true]; exact b2 a hm b hm' hab
       ·simp only[hm,hm',if_true,if_false]; have:=b1 a hm; have:=d1 b (hb.resolve_left hm'); omega
       ·exact absurd hab (Lf.only hp (l1 b hm').2 (l2 a (ha.resolve_left hm)).2 ((hs b a hm' (ha.resolve_left hm)).1 rfl)).1
       simp only[hm,hm',if_false]; have:=d2 a (ha.resolve_left hm) b (hb.resolve_left hm') hab; omega
      | true =>
       have hv:z0g ws (.node true x1 x2)=max (z0g ws x1) (z0g ws x2):=rfl
       simp only at hv ⊢
       rw [hv]
       refine ⟨⟨fun a=>if a∈x1.leaves then p1 a else p2 a,fun a ha=>?_,fun a ha b hb hab=>?_⟩,?_⟩
       ·simp only[CT.leaves,List.mem_append]at ha
        by_cases hm:a∈x1.leaves
        ·simp only[hm,if_true]; have:=b1 a hm; omega
        simp only[hm,if_false]; have:=d1 a (ha.resolve_left hm); omega
       ·simp only[CT.leaves,List.mem_append]at ha hb
        by_cases hm:a∈x1.leaves <;> by_cases hm':b∈x1.leaves
        ·simp only[hm,hm',if_true]; exact b2 a hm b hm' hab
        ·exact absurd hab (Ab.only hp (l1 a hm).2 (l2 b (hb.resolve_left hm')).2 ((hs a b hm (hb.resolve_left hm')).2 rfl)).2.1
        ·exact absurd hab (Ab.only hp (l1 b hm').2 (l2 a (ha.resolve_left hm)).2 ((hs b a hm' (ha.resolve_left hm)).2 rfl)).2.2
        simp only[hm,hm',if_false]; exact d2 a (ha.resolve_left hm) b (hb.resolve_left hm') hab
       rcases Int.le_total (z0g ws x1) (z0g ws x2) with h | h
       ·rw [Int.max_eq_right h]; exact ⟨e1,by simp [CT.leaves,e2],e3,by simp [CT.leaves,e4],e5⟩
       rw [Int.max_eq_left h]; exact ⟨c1,by simp [CT.leaves,c2],c3,by simp [CT.leaves,c4],c5⟩
theorem yb1 {ws:List Int} (hv:zdp p [ws]=true) {x:CT} (hx:zc4 (zat p) ⟨0,0,p.length,(za1 p).length⟩=some x):z0g ws x=z6p (heaviest (lfM p) ws (rP p).length):=by
 obtain ⟨u1,u2,q1,q2,q3,q4,hp⟩:=zm5 hv
 have hpl:=zec hp
 have hw:=zg0 hpl
 obtain ⟨_,hm,_⟩:=zdv (ze4 hpl) _ hw (qR _) hx
 obtain ⟨⟨pos,h1,h2⟩,a,ha,b,hb,hch⟩:=z0t hp q4 q1 _ hw (qR _) hx
 have hall:∀ b,b<(rP p).length→(b:Int)∈x.leaves:=by
  intro b hb
  obtain ⟨i,j,hi,hj,e⟩:=zzo hb
  have:=zg2 hpl hi hj
  exact (hm b).2 ⟨i,j,by simp,by simpa using hi,by simp,by simpa using hj,by omega⟩
 have hbl:b.toNat<(rP p).length:=by
  obtain ⟨i,j,e1,e2,e3,e4,e5⟩:=(hm b).1 hb
  simp only[Nat.zero_add]at e2 e4
  have:=zen hpl e2 e4
  omega
 apply Int.le_antisymm
 ·refine Int.le_trans (hch.le u1 (fun a b h=>?_) hbl) (yht hbl)
  by_cases hlt:a<(rP p).length
  ·exact hlt
  exfalso
  have hsq:=u1.sq.1
  unfold zdg at h
  have hge:(lfM p).length≤a:=by omega
  rw [List.getElem?_eq_none hge]at h
  simp at h
 obtain ⟨c,hc,e⟩:=yhs (M:=lfM p) (ws:=ws) q2
 rw [← e]
 have h3:=yha (ws:=ws) u1 (pos:=fun b=>pos (b:Int)) (fun b hb=>(h1 b (hall b hb)).1) (fun a b ha hb hab=>by have:=h2 a (hall a ha) b (hall b hb) (show Lf p a b from hab); simpa using this) _ c hc (Nat.lt_succ_self _)
 have h4:=(h1 c (hall c hc)).2
 simp only[Int.toNat_natCast]at h4
 omega
end
end
section
def z0f (needs:List Int) (x:CT):Int:=x.fold (fun a=>zdm needs a.toNat) fun lv a b=>if lv then a+b else max a b
section
variable {p:List Txt}
theorem zvi (hp:ze6 p=true) {ws:List Int} (hn:zd9 ws) (hl:ws.length=(rP p).length):∀ (n:Nat) {t:Pt} {x:CT},Whole (zat p) p.length (za1 p).length t→t.h*t.w≤n→zc4 (zat p) t=some x →
  (∃ pos:Int→Int,(∀ a∈x.leaves,0≤pos a∧pos a+zdm ws a.toNat≤z0f ws x)∧∀ a∈x.leaves,∀ b∈x.leaves,Ab p a.toNat b.toNat→pos a+zdm ws a.toNat≤pos b) ∧
  ∃ a∈x.leaves,∃ b∈x.leaves,Ch (abM p) ws a.toNat b.toNat (z0f ws x)
 | 0,t,x,hw,hn',_=>by have:=Nat.mul_pos hw.inn.1 hw.inn.2.1; omega
 | n+1,t,x,hw,hn',hx=>by
  have hpl:=zec hp
  have hi:=hw.inn
  have hlv:∀ {t:Pt} {x:CT},Whole (zat p) p.length (za1 p).length t→zc4 (zat p) t=some x→∀ a∈x.leaves,0≤a∧a.toNat<(rP p).length:=by
   intro t x hw hx a ha
   obtain ⟨i,j,e1,e2,e3,e4,e5⟩:=((zdv (ze4 hpl) _ hw (qR _) hx).2.1 a).1 ha
   have hin:=hw.inn
   unfold Pt.In at hin
   have:=zen hpl (i:=i) (j:=j) (by omega) (by omega)
   omega
  cases h1:zw7 (zat p) t with
  | true =>
   rw [zgy hi h1]at hx
   cases hx
   have hb:=hlv hw (zgy hi h1) (zat p t.r t.c) (by simp [CT.leaves])
   refine ⟨⟨fun _=>0,fun a ha=>?_,fun a ha b hb' hab=>?_⟩,_,by simp [CT.leaves],_,by simp [CT.leaves],.one⟩
   ·simp only[CT.leaves,List.mem_singleton]at ha; subst ha; simp [z0f,CT.fold]
   simp only[CT.leaves,List.mem_singleton]at ha hb'
   subst ha; subst hb'
   exact absurd hab (Ab.only hp hb.2 hb.2 hab).1
  | false =>
   cases hq:zd4 (zat p) t with
   | none=>rw [zhq hi h1 hq]at hx; cases hx
   | some q =>
    obtain ⟨i1,i2,a1,a2⟩:=hi.cut hq
    obtain ⟨w1,w2⟩:=hw.cut (ze4 hpl) hq
    rw [zd0 hi h1 hq]at hx
    cases hx1:zc4 (zat p) (t.one q) with
    | none=>rw [hx1]at hx; cases hx
    | some x1 =>
     cases hx2:zc4 (zat p) (t.two q) with
     | none=>rw [hx1,hx2]at hx; cases hx
     | some x2 =>
      rw [hx1,hx2]at hx
      cases hx
      have hs:=zxk hp hw hq hx1 hx2
      have l1:=hlv w1 hx1
      have l2:=hlv w2 hx2
      obtain ⟨⟨p1,b1,b2⟩,c1,c2,c3,c4,c5⟩:=zvi hp hn hl n w1 (by omega) hx1
      obtain ⟨⟨p2,d1,d2⟩,e1,e2,e3,e4,e5⟩:=zvi hp hn hl n w2 (by omega) hx2
      have v1:0≤z0f ws x1:=by have:=b1 c1 c2; have:=zkc hn (b:=c1.toNat) (by rw [hl]; exact (l1 c1 c2).2); omega
      have hdis:∀ a,a∈x1.leaves→a∈x2.leaves→False:=by
       intro a ha hb
       have:=hs a a ha hb
       have hr:=(l1 a ha).2
       obtain ⟨lv,k⟩:=q
       cases lv with
       | true=>exact (Ab.only hp hr hr (this.2 rfl)).1 (this.2 rfl)
       | false=>exact (Lf.only hp hr hr (this.1 rfl)).1 (this.1 rfl)
      obtain ⟨lv,k⟩:=q
      cases lv with
      | true =>
       have hv:z0f ws (.node true x1 x2)=z0f ws x1+z0f ws x2:=rfl
       simp only at hv ⊢
       rw [hv]
       refine ⟨⟨fun a=>if a∈x1.leaves then p1 a else z0f ws x1+p2 a,fun a ha=>?_,fun a ha b hb hab=>?_⟩,c1,by simp [CT.leaves,c2],e3,by simp [CT.leaves,e4],c5.cat ((hs c3 e1 c4 e2).2 rfl) e5⟩
       ·simp only[CT.leaves,List.mem_append]at ha
        by_cases hm:a∈x1.leaves
        ·simp only[hm,if_true]; have:=b1 a hm; have:=d1 e1 e2; have:=zkc hn (b:=e1.toNat) (by rw [hl]; exact (l2 e1 e2).2); omega
        simp only[hm,if_false]; have:=d1 a (ha.resolve_left hm); omega
       simp only[CT.leaves,List.mem_append]at ha hb
       by_cases hm:a∈x1.leaves <;> by_cases hm':b∈x1.leaves
       ·simp only[hm,hm',if_true]; exact b2 a hm b hm' hab
       ·simp only[hm,hm',if_true,if_false]; have:=b1 a hm; have:=d1 b (hb.resolve_left hm'); omega
       ·exact absurd hab (Ab.only hp (l1 b hm').2 (l2 a (ha.resolve_left hm)).2 ((hs b a hm' (ha.resolve_left hm)).2 rfl)).1
       simp only[hm,hm',if_false]; have:=d2 a (ha.resolve_left hm) b (hb.resolve_left hm') hab; omega
      | false =>
       have hv:z0f ws (.node false x1 x2)=max (z0f ws x1) (z0f ws x2):=rfl
       simp only at hv ⊢
       rw [hv]
       refine ⟨⟨fun a=>if a∈x1.leaves then p1 a else p2 a,fun a ha=>?_,fun a ha b hb hab=>?_⟩,?_⟩
       ·simp only[CT.leaves,List.mem_append]at ha
        by_cases hm:a∈x1.leaves
        ·simp only[hm,if_true]; have:=b1 a hm; omega
        simp only[hm,if_false]; have:=d1 a (ha.resolve_left hm); omega
       ·simp only[CT.leaves,List.mem_append]at ha hb
        by_cases hm:a∈x1.leaves <;> by_cases hm':b∈x1.leaves
        ·simp only[hm,hm',if_true]; exact b2 a hm b hm' hab
        ·exact absurd hab (Lf.only hp (l1 a hm).2 (l2 b (hb.resolve_left hm')).2 ((hs a b hm (hb.resolve_left hm')).1 rfl)).2.1
        ·exact absurd hab (Lf.only hp (l1 b hm').2 (l2 a (ha.resolve_left hm)).2 ((hs b a hm' (ha.resolve_left hm)).1 rfl)).2.2
        simp only[hm,hm',if_false]; exact d2 a (ha.resolve_left hm) b (hb.resolve_left hm') hab
       rcases Int.le_total (z0f ws x1) (z0f ws x2) with h | h
       ·rw [Int.max_eq_right h]; exact ⟨e1,by simp [CT.leaves,e2],e3,by simp [CT.leaves,e4],e5⟩
       rw [Int.max_eq_left h]; exact ⟨c1,by simp [CT.leaves,c2],c3,by simp [CT.leaves,c4],c5⟩
theorem yb0 {ws:List Int} (hv:zdp p [ws]=true) {x:CT} (hx:zc4 (zat p) ⟨0,0,p.length,(za1 p).length⟩=some x):z0f ws x=z6p (heaviest (abM p) ws (rP p).length):=by
 obtain ⟨u1,u2,q1,q2,q3,q4,hp⟩:=zm5 hv
 have hpl:=zec hp
 have hw:=zg0 hpl
 obtain ⟨_,hm,_⟩:=zdv (ze4 hpl) _ hw (qR _) hx
 obtain ⟨⟨pos,h1,h2⟩,a,ha,b,hb,hch⟩:=zvi hp q4 q1 _ hw (qR _) hx
 have hall:∀ b,b<(rP p).length→(b:Int)∈x.leaves:=by
  intro b hb
  obtain ⟨i,j,hi,hj,e⟩:=zzo hb
  have:=zg2 hpl hi hj
  exact (hm b).2 ⟨i,j,by simp,by simpa using hi,by simp,by simpa using hj,by omega⟩
 have hbl:b.toNat<(rP p).length:=by
  obtain ⟨i,j,e1,e2,e3,e4,e5⟩:=(hm b).1 hb
  simp only[Nat.zero_add]at e2 e4
  have:=zen hpl e2 e4
  omega
 apply Int.le_antisymm
 ·refine Int.le_trans (hch.le u2 (fun a b h=>?_) hbl) (yht hbl)
  by_cases hlt:a<(rP p).length
  ·exact hlt
  exfalso
  have hsq:=u2.sq.1
  unfold zdg at h
  have hge:(abM p).length≤a:=by omega
  rw [List.getElem?_eq_none hge]at h
  simp at h
 obtain ⟨c,hc,e⟩:=yhs (M:=abM p) (ws:=ws) q2
 rw [← e]
 have h3:=yha (ws:=ws) u2 (pos:=fun b=>pos (b:Int)) (fun b hb=>(h1 b (hall b hb)).1) (fun a b ha hb hab=>by have:=h2 a (hall a ha) b (hall b hb) (show Ab p a b from hab); simpa using this) _ c hc (Nat.lt_succ_self _)
 have h4:=(h1 c (hall c hc)).2
 simp only[Int.toNat_natCast]at h4
 omega
end
def comb (lv:Bool) (a b:Shp):Shp:=if lv then (max a.1 b.1,a.2+b.2) else (a.1+b.1,max a.2 b.2)
theorem zy5 {lv:Bool} {X Y:List Shp} {s:Shp}:s∈prods lv X Y↔∃ a∈X,∃ b∈Y,s=comb lv a b:=by
 unfold prods comb
 simp only[List.mem_flatMap,List.mem_map]
 constructor
 ·rintro ⟨a,ha,b,hb,rfl⟩; exact ⟨a,ha,b,hb,rfl⟩
 rintro ⟨a,ha,b,hb,rfl⟩; exact ⟨a,ha,b,hb,rfl⟩
def shT (ws ht:List Int) (τ:Int→Bool):CT→Shp
 | .leaf a=>if τ a then (zdm ht a.toNat,zdm ws a.toNat) else (zdm ws a.toNat,zdm ht a.toNat)
 | .node lv x y=>comb lv (shT ws ht τ x) (shT ws ht τ y)
theorem zkk {ws ht:List Int} {τ υ:Int→Bool}:∀ {x:CT},(∀ a∈x.leaves,τ a=υ a)→shT ws ht τ x=shT ws ht υ x
 | .leaf a,h=>by simp only[shT]; rw [h a (by simp [CT.leaves])]
 | .node lv x y,h=>by
  simp only[shT]
  rw [zkk (x:=x) fun a ha=>h a (by simp [CT.leaves,ha]),zkk (x:=y) fun a ha=>h a (by simp [CT.leaves,ha])]
theorem yfh {lv:Bool} {a b c d:Shp} (h1:a.1≤c.1∧a.2≤c.2) (h2:b.1≤d.1∧b.2≤d.2):(comb lv a b).1≤(comb lv c d).1∧(comb lv a b).2≤(comb lv c d).2:=by
 cases lv <;> simp [comb] <;> omega
theorem zso {ws ht:List Int}:∀ {x:CT},x.leaves.Nodup→(∀ s∈ziq ws ht x,∃ τ,shT ws ht τ x=s)∧∀ τ,Dom (ziq ws ht x) (shT ws ht τ x)
 | .leaf a,_=>by
  have hb:=zeo [(zdm ws a.toNat,zdm ht a.toNat),(zdm ht a.toNat,zdm ws a.toNat)]
  refine ⟨fun s hs=>?_,fun τ=>?_⟩
  ·have:=hb.sub s hs
   simp only[List.mem_cons,List.not_mem_nil,or_false]at this
   rcases this with rfl | rfl
   ·exact ⟨fun _=>false,rfl⟩
   exact ⟨fun _=>true,rfl⟩
  refine hb.dom _ ?_
  simp only[shT]
  cases τ a <;> simp
 | .node lv x y,hnd=>by
  rw [CT.leaves,List.nodup_append]at hnd
  obtain ⟨n1,n2,n3⟩:=hnd
  obtain ⟨h1,h2⟩:=zso (x:=x) n1
  obtain ⟨k1,k2⟩:=zso (x:=y) n2
  have hb:=zeo (prods lv (ziq ws ht x) (ziq ws ht y))
  refine ⟨fun s hs=>?_,fun τ=>?_⟩
  ·obtain ⟨a,ha,b,hb',rfl⟩:=zy5.1 (hb.sub s hs)
   obtain ⟨τ,rfl⟩:=h1 a ha
   obtain ⟨υ,rfl⟩:=k1 b hb'
   refine ⟨fun r=>if r∈x.leaves then τ r else υ r,?_⟩
   simp only[shT]
   rw [zkk (x:=x) (υ:=τ) fun a ha=>by simp only[ha,if_true],zkk (x:=y) (υ:=υ) fun a ha=>by
    have:a ∉ x.leaves:=fun h=>n3 a h a ha rfl
    simp only[this,if_false]]
  obtain ⟨a,ha,a1,a2⟩:=h2 τ
  obtain ⟨b,hb',b1,b2⟩:=k2 τ
  obtain ⟨s,hs,s1,s2⟩:=hb.dom _ (zy5.2 ⟨a,ha,b,hb',rfl⟩)
  have:=yfh (lv:=lv) ⟨a1,a2⟩ ⟨b1,b2⟩
  exact ⟨s,hs,Int.le_trans s1 this.1,Int.le_trans s2 this.2⟩
theorem yao {ws ht w h:List Int} {τ:Int→Bool}:∀ {x:CT},(∀ a∈x.leaves,zdm w a.toNat=(if τ a then zdm ht a.toNat else zdm ws a.toNat)∧zdm h a.toNat=(if τ a then zdm ws a.toNat else zdm ht a.toNat))→shT ws ht τ x=(z0g w x,z0f h x)
 | .leaf a,hh=>by
  obtain ⟨h1,h2⟩:=hh a (by simp [CT.leaves])
  simp only[shT,z0g,z0f,CT.fold,h1,h2]
  cases τ a <;> rfl
 | .node lv x y,hh=>by
  simp only[shT]
  rw [yao (x:=x) fun a ha=>hh a (by simp [CT.leaves,ha]),yao (x:=y) fun a ha=>hh a (by simp [CT.leaves,ha])]
  cases lv <;> rfl
theorem z60 (τ:Nat→Bool):∀ n:Nat,∃ s,s<2 ^ n∧∀ r,r<n→s.testBit r=τ r
 | 0=>⟨0,by simp,fun r h=>by omega⟩
 | n+1=>by
  obtain ⟨s,h1,h2⟩:=z60 τ n
  refine ⟨2 ^ n*(τ n).toNat+s,?_,fun r hr=>?_⟩
  ·rw [Nat.pow_succ]
   cases τ n <;> simp <;> omega
  rw [Nat.testBit_two_pow_mul_add _ h1]
  split
  ·rename_i h; exact h2 r h
  obtain rfl:r=n:=by omega
  rw [Nat.sub_self]
  cases τ r <;> rfl
theorem z24 {ws ht:List Int} {s r:Nat} (hr:r<ws.length):zdm (swp ws ht s) r=if s.testBit r then zdm ht r else zdm ws r:=by
 simp [swp,zdm,hr]
end
theorem z3h {p:List Txt} {w h:List Int} (h1:zdp p [w]=true) (h2:zdp p [h]=true) (s:Nat):zdp p [swp w h s]=true:=by
 obtain ⟨a1,a2,a3⟩:=zgq h1
 obtain ⟨-,b2,b3⟩:=zgq h2
 have hok:=zz4 (set:=s) a3 b3 (by omega)
 unfold zdp zio
 simp only[List.all_cons,List.all_nil,Bool.and_true,qB,decide_eq_true_eq,List.all_eq_true,zlb]
 exact ⟨a1,by rw [zjj,a2],fun x hx=>hok x hx⟩
theorem yfc {p:List Txt} {ws ht:List Int} (h:bcB p ws ht=true):bcV p ws ht=zxc p ws ht:=by
 obtain ⟨x,hg,hx,e,-,-⟩:=zqv h
 obtain ⟨hp,g2,g3,g4,g5,-⟩:=zf5 hg
 obtain ⟨n1,n2,-⟩:=zj8 hg
 have hw:=zg0 hp
 obtain ⟨hnd,hm,-⟩:=zdv (ze4 hp) _ hw (qR _) hx
 have hl9:=(zro hp hw hx).1
 obtain ⟨t1,t2⟩:=zso (ws:=ws) (ht:=ht) hnd
 have key:∀ s:Nat,shT ws ht (fun a=>s.testBit a.toNat) x=shS p ws ht s:=by
  intro s
  rw [yao (w:=swp ws ht s) (h:=swp ht ws s) fun a ha=>by
   have:=hl9 a ha
   exact ⟨z24 (by omega),z24 (by omega)⟩]
  rw [yb1 (z3h n1 n2 s) hx,yb0 (z3h n2 n1 s) hx,← yie n1 n2 s]
  unfold shI
  rw [yi8,yi2]
 have tau:∀ τ:Int→Bool,∃ s,s<2 ^ ws.length∧shT ws ht τ x=shS p ws ht s:=by
  intro τ
  obtain ⟨s,h1,h2⟩:=z60 (fun r=>τ (r:Int)) ws.length
  refine ⟨s,h1,?_⟩
  rw [← key s]
  refine zkk fun a ha=>?_
  have:=hl9 a ha
  rw [h2 a.toNat (by omega),show ((a.toNat:Nat):Int)=a by omega]
 rw [e,z6w hg]
 have hb:=zva (sh:=shS p ws ht) (2 ^ ws.length)
 have hst:Stc (ziq ws ht x):=(zuu (x:=x) (fun a ha=>zkc g2 (by have:=hl9 a ha; omega)) fun a ha=>zkc g3 (by have:=hl9 a ha; omega)).2.1
 refine z4o hst hb.st (fun y hy=>?_) fun y hy=>?_
 ·obtain ⟨τ,rfl⟩:=t1 y hy
  obtain ⟨s,h1,h2⟩:=tau τ
  rw [h2]
  exact hb.dom _ (List.mem_map.2 ⟨s,List.mem_range.2 h1,rfl⟩)
 obtain ⟨s,-,rfl⟩:=List.mem_map.1 (hb.sub y hy)
 rw [← key s]
 exact t2 _
theorem zps {code:Txt} (hc:code.length≤1048576):Ev Tryz.prog 28 [eBy code] ⟨[],0⟩ fun v S=>∃ (p:List Txt) (ws ht:List Int) (t:Nat),Sm p∧ws.length≤400∧ht.length≤400∧v = .tup [zbc p,eInts ws,eInts ht]∧S=⟨[],t⟩:=by
 refine Ev.of ⟨Tryz.func28,by kernel_rfl,rfl,by kernel_rfl⟩ zbl mixed (by show 1≤Tryz.f28.ntmps; decide) ?_
 refine W.r fun K hK=>?_
 simp(disch:=omega)only[↓RU,RV,RH,↓reduceIte,qE,reduceCtorEq,if_pos,↓RS,RG,qA,qM,qL]
 apply hK;clear hK K
 refine W.r fun K hK=>?_
 simp(disch:=omega)only[↓RU,RV,RH,↓reduceIte,qE,reduceCtorEq,if_pos,qN,↓RS,RG,qA,qM,qL]
 refine zaf.ev (zyf hc) ?_
 rintro _ _ ⟨p,ws,ht,t,hs,hwsl,hhtl,rfl,rfl⟩
 simp(disch:=omega)only[↓RU,RV,RH,↓reduceIte,qE,reduceCtorEq,if_pos,qN,↓RS,RG,qA,qM,qL]
 apply hK;clear hK K
 refine W.ret ?_
 refine Br rfl ?_
 exact ⟨0,p,ws,ht,_,hs,hwsl,hhtl,rfl,rfl⟩
theorem zwl {code:Txt} (hcode:code.length≤9223372036854775807):PC Tryz.prog 6 [eBy code] (.bool true) true:=by
 refine PC.of ⟨Tryz.func6,by kernel_rfl,rfl,by kernel_rfl⟩ zbl mixed (by show 1≤Tryz.f6.ntmps; decide) ?_
 refine W.r fun K hK=>?_
 simp(disch:=omega)only[↓RU,RV,RH,↓reduceIte,qE,reduceCtorEq,if_pos,↓RS,RG,qA,qM,qL]
 apply hK;clear hK K
 refine W.seq ?_
 refine W.r fun K hK=>?_
 simp(disch:=omega)only[↓RU,RV,RH,↓reduceIte,qE,reduceCtorEq,if_pos,w64,↓RS,RG,qA,qM,qL,ty7,zaa,zfz]
 apply hK;clear hK K
 refine W.cond rfl (fun h0=>?_) (fun h0=>?_)
 ·try simp only[RL]at h0
  refine W.r fun K hK=>?_
  simp(disch:=omega)only[↓RU,RV,RH,↓reduceIte,qE,reduceCtorEq,if_pos,↓RS,RG,qA,qM,qL]
  apply hK;clear hK K
  refine W.ret ?_
  refine XThen.ret ?_
  refine Br rfl ?_
  rfl
 try simp only[RL]at h0
 have hcl:code.length≤1048576:=by omega
 refine W.skip ?_
 refine xn ?_
 refine W.r fun K hK=>?_
 simp(disch:=omega)only[↓RU,RV,RH,↓reduceIte,qE,reduceCtorEq,if_pos,qN,↓RS,RG,qA,qM,qL]
 refine zaf.ev (zps hcl) ?_
 rintro _ _ ⟨p,ws,ht,t,hs,hwl,htl,rfl,rfl⟩
 simp(disch:=omega)only[↓RU,RV,RH,↓reduceIte,qE,reduceCtorEq,if_pos,qN,↓RS,RG,qA,qM,qL]
 apply hK;clear hK K
 refine W.r fun K hK=>?_
 simp(disch:=omega)only[↓RU,RV,RH,↓reduceIte,qE,reduceCtorEq,if_pos,qN,↓RS,RG,qA,qM,qL]
 refine zaf.pc (zs4 (ws:=ws) (ht:=ht) hs (by omega) (by omega)) rfl (.inr rfl) ?_
 simp(disch:=omega)only[↓RU,RV,RH,↓reduceIte,qE,reduceCtorEq,if_pos,qN,↓RS,RG,qA,qM,qL]
 apply hK;clear hK K
 refine W.r fun K hK=>?_
 simp(disch:=omega)only[↓RU,RV,RH,↓reduceIte,qE,reduceCtorEq,if_pos,qN,↓RS,RG,qA,qM,qL]
 refine zaf.pc (zwi hs (by omega) (by omega)) rfl (.inr rfl) ?_
 simp(disch:=omega)only[↓RU,RV,RH,↓reduceIte,qE,reduceCtorEq,if_pos,qN,↓RS,RG,qA,qM,qL]
 apply hK;clear hK K
 refine W.seq ?_
 refine W.r fun K hK=>?_
 cases hv:bcB p ws ht
 ·skip
  simp(disch:=omega)only[↓RU,RV,RH,↓reduceIte,qE,reduceCtorEq,if_pos,w64,qN,↓RS,RG,qA,qM,qL,zau,zua,qO,bne_self_eq_false,beq_self_eq_true,Bool.not_true,Bool.not_false,hv]
  refine zaf.pc (zjh (l:=(bcV p ws ht)) (by have:=zvb (p:=p) (ws:=ws) (ht:=ht); omega)) rfl (.inl rfl) ?_
  simp(disch:=omega)only[↓RU,RV,RH,↓reduceIte,qE,reduceCtorEq,if_pos,w64,qN,↓RS,RG,qA,qM,qL,zau,zua,qO,bne_self_eq_false,beq_self_eq_true,Bool.not_true,Bool.not_false,hv]
  apply hK;clear hK K
  refine W.cond rfl (fun h1=>?_) (fun h1=>?_)
  ·try simp only[RL]at h1
   refine W.r fun K hK=>?_
   simp(disch:=omega)only[↓RU,RV,RH,↓reduceIte,qE,reduceCtorEq,if_pos,w64,qN,↓RS,RG,qA,qM,qL,zau,zua,qO,bne_self_eq_false,beq_self_eq_true,Bool.not_true,Bool.not_false]
   refine zaf.pc (zjh (l:=(bcV p ws ht)) (by have:=zvb (p:=p) (ws:=ws) (ht:=ht); omega)) rfl (.inl rfl) ?_
   simp(disch:=omega)only[↓RU,RV,RH,↓reduceIte,qE,reduceCtorEq,if_pos,w64,qN,↓RS,RG,qA,qM,qL,zau,zua,qO,bne_self_eq_false,beq_self_eq_true,Bool.not_true,Bool.not_false]
   apply hK;clear hK K
   refine W.ret ?_
   refine XThen.ret ?_
   refine Br rfl ?_
   rfl
  try simp only[RL]at h1
  exact absurd h1 (by simp)
 skip
 simp(disch:=omega)only[↓RU,RV,RH,↓reduceIte,qE,reduceCtorEq,if_pos,w64,qN,↓RS,RG,qA,qM,qL,zau,zua,qO,bne_self_eq_false,beq_self_eq_true,Bool.not_true,Bool.not_false,hv]
 refine zaf.pc (zjh (l:=(bcV p ws ht)) (by have:=zvb (p:=p) (ws:=ws) (ht:=ht); omega)) rfl (.inl rfl) ?_
 simp(disch:=omega)only[↓RU,RV,RH,↓reduceIte,qE,reduceCtorEq,if_pos,w64,qN,↓RS,RG,qA,qM,qL,zau,zua,qO,bne_self_eq_false,beq_self_eq_true,Bool.not_true,Bool.not_false,hv]
 apply hK;clear hK K
 refine W.cond rfl (fun h1=>?_) (fun h1=>?_)
 ·try simp only[RL]at h1
  exact absurd h1 (by simp)
 try simp only[RL]at h1
 have hbe:=yfc hv
 obtain ⟨x,hg,-⟩:=zqv hv
 refine W.skip ?_
 refine xn ?_
 refine W.r fun K hK=>?_
 simp(disch:=omega)only[↓RU,RV,RH,↓reduceIte,qE,reduceCtorEq,if_pos,qN,↓RS,RG,qA,qM,qL,hg,← hbe]
 refine zaf.pc (z1u (ws:=ws) (ht:=ht) hs (by omega) (by omega)) rfl (.inr rfl) ?_
 simp(disch:=omega)only[↓RU,RV,RH,↓reduceIte,qE,reduceCtorEq,if_pos,qN,↓RS,RG,qA,qM,qL,hg,← hbe]
 apply hK;clear hK K
 refine W.r fun K hK=>?_
 simp(disch:=omega)only[↓RU,RV,RH,↓reduceIte,qE,reduceCtorEq,if_pos,qN,↓RS,RG,qA,qM,qL]
 refine zaf.pc (zjh (l:=(bcV p ws ht)) (by have:=zvb (p:=p) (ws:=ws) (ht:=ht); omega)) rfl (.inl rfl) ?_
 simp(disch:=omega)only[↓RU,RV,RH,↓reduceIte,qE,reduceCtorEq,if_pos,qN,↓RS,RG,qA,qM,qL]
 apply hK;clear hK K
 refine W.ret ?_
 refine Br rfl ?_
 rfl
end Fw
end Go.Proofs.YtjobkanbijpfgaaGreat
namespace Go.Proofs.YtjobkanbijpfgaaGreat
open Go Go.ChangeShapes Go.WideShapes Go.ChangeAt Go.RowKit Fw
theorem Tryz.ownRnd:ownKnob Tryz.prog.godebug=none:=by kernel_rfl
theorem Tryz.laidOutRnd:laidOutB Tryz.prog=true:=by kernel_rfl
set_option maxRecDepth 100000 in
theorem rnd_lifted (os:Os) (started:os.Started) (H:Type) (enc:TypeId × Value→H) :
  ReturnsInHanded {} Tryz.checked os 6 .any (Rows.fnShapeListSpec.pre6 enc Tryz.prog Tryz.f6 Rows.fnShapeListRow.domain false) (Rows.fnShapeListSpec.post enc Tryz.prog Tryz.f6 false true false false):=by
 refine returnsInHanded_of_change (C:=Tryz.checked) Tryz.ownRnd started (by kernel_rfl) Tryz.func6
  (ChangeSpec.witness6 (enc:=enc) (C:=Tryz.checked) false ⟨#[],#[.slice none 0 0],[]⟩ 8 (by kernel_rfl) (by kernel_rfl) (by kernel_rfl) (by kernel_rfl)) ?_
 intro W base args ds gs before hval0 hW hcnd _
 have hval:∀ (j:Nat) t v,Tryz.f6.params[j]?=some t→args[j]?=some v→Value.okWide Tryz.prog W .any base t v:=hval0
 have hW':=hW
 obtain ⟨p,q,hA0,hV,rfl,hfz,hnd⟩:=hW
 have hA:DataW.TrodAll enc Tryz.prog W 0 (fun _=>true) true Tryz.f6.params.toList args.toList ds p:=hA0
 rw [Tryz.params6]at hA hval
 obtain ⟨v0,d0,rfl,rfl,h0⟩:=trodAll_one hA
 obtain ⟨rfl,rfl⟩:=trodVars_none hV
 obtain ⟨l0,i0,b0⟩:=ydj (hval 0 _ v0 rfl rfl) h0
 have hlt:∀ x∈p,x.block<W.heap.size:=fun x hx=>hW'.lt x (by simp [hx])
 refine ((zwl b0).run (fun b=>b<W.heap.size) W #[v0] (fun _ h=>h) rfl ?_).mono ?_
 ·rintro (_ | i) p c hp hc
  ·cases hp; cases hc; exact i0
  simp at hp
 rintro e W' ⟨cv,rfl,⟨hB,_⟩,hr⟩
 have hcv:cv = .bool true:=by cases hr; rfl
 subst hcv
 have t0:=Below.trod Tryz.laidOutRnd (by kernel_rfl) (of_decide_eq_true (by kernel_rfl)) h0 hB fun x hx=>hlt x (by simp [hx])
 refine ⟨_,rfl,_,_,_,[],p,[],hW',?_,?_,?_,hB.frame _,fun h=>by cases h⟩
 ·exact trodAll_mk1 (shut_bool Tryz.underlying4 true)
 ·rw [Tryz.params6]; exact trodAll_mk1 t0
 trivial
theorem rnd_holds:Rows.FnShapeListSaid :=
 OpenClaim.holds_of_wide 6 Tryz.f6 rfl rfl rfl rfl rfl rfl rfl ⟨rfl,rfl,rfl,rfl,rfl⟩ rfl rfl rfl rfl rfl (by kernel_rfl) Tryz.func6 (by kernel_rfl)
  (of_decide_eq_true (by kernel_rfl)) (by unfold Func.isWrapper; first | (rw [if_pos (by decide +kernel)]; kernel_rfl) | (rw [if_neg (by decide +kernel)]; exact ⟨rfl,rfl⟩))
  (fun os started H enc _=>rnd_lifted os started H enc)
end Go.Proofs.YtjobkanbijpfgaaGreat
