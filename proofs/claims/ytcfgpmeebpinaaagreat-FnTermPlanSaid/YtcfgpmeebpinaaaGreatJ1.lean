/- Parts of the framework and of the proof: The framework, part q: a table of types is checked by one computation; The framework, part r: going through a region step by step; The framework, part s: small laws for going through code; The framework, part t: letting go of objects and freezing what names them; The framework, part u: bundles of small laws for simp; a call in a store with more objects behind; The framework, part v: calls that take data and give new objects, which may be written; The framework, part w: at a fold, objects are put in another order, frozen, or let go; The framework, part x: a region in which a variable is made at an open time; The framework, part y: a region whose order is open, in the order of its text, in which something might be read behind what writes elsewhere; Plans in plain words: the specification's functions on lists of texts; Points, walls and orders of plans in plain words; The table of the types of this translation, written by a program (tabgen.py), and that it is right; Small functions of the specification, gone through; The specification of plans, gone through; What a plan is, gone through; Points where rooms meet, gone through; Walls, gone through; Walls and their sides, gone through; The sides of a wall, gone through; Upright walls, gone through; Walls and orders of plans in plain words; All walls; sets of rooms, gone through; Sizes of plans in plain words; The program's own data in plain words; Small functions of the program and of the library, gone through; The program's walls in plain words; Walls of the program, gone through. -/
import Derived.Test.YtcfgpmeebpinaaaGreatJ0
import Derived.Test.YtcfgpmeebpinaaaGreatChecked
set_option linter.all false
namespace Go.Proofs.YtcfgpmeebpinaaaGreat
namespace Fw
open Go
open Nat renaming reduceEqDiff → qE, reduceLeDiff → qL, reduceAdd → qA, reduceMul → qM, le_refl → qR
open List renaming append_nil → qN, mapM_append → qP, mapM_cons → qC, mapM_map → qU, range_succ → qS, take_of_length_le → qT
open Bool renaming and_eq_true → qB, false_eq_true → qF
open Option renaming map_some → qO, map_eq_some_iff → qI
open Int renaming reduceToNat → qZ
def yak:TK→TypeDesc→Bool
 | .bool,.bool=>true
 | .int k,.int k'=>k == k'
 | .str,.string=>true
 | .slice e,.slice e'=>e == e'
 | .ptr e,.pointer e'=>e == e'
 | .arr n e,.array n' e'=>n == n' && e == e'
 | .struct fs,.struct gs=>decide (fs=gs.toList.map fun f=>(f.offset,f.type))
 | .map k v,.map k' v'=>k == k' && v == v'
 | .func,.func _ _ _=>true
 | _,_=>false
theorem zz9 {k:TK} {d:TypeDesc} (h:yak k d=true):k.fits d:=by
 cases k <;> cases d <;> simp_all [yak,TK.fits]
def okZ (ti:TI) (z:Value):Bool :=
 ti.zero.length == z.cells.size && z.cells.size == ti.size && ((List.range ti.size).all fun k=>match ti.zero[k]?,z.cells[k]? with | some p,some v=>z6c p v | _,_=>true) &&
  (ti.kd.isAgg == match z with | .agg _=>true | _=>false)
def ycw (T:Tab) (k:TK):Bool :=
 match k with
 | .slice e | .arr _ e => !decide ((T e).kd = .none)
 | .struct fs=>fs.all fun f => !decide ((T f.2).kd = .none)
 | .map k v => !decide ((T k).kd = .none) && !decide ((T v).kd = .none)
 | _=>true
def okEq (P:Program) (T:Tab) (t:TypeId) (k:TK):Bool :=
 match k with
 | .struct fs => !zfs T fs 0 || eqT P t
 | _=>true
def okT (P:Program) (T:Tab) (t:TypeId) (ti:TI):Bool :=
 match P.info? t,P.underlying t with
 | some i,some d=>yak ti.kd d && i.size == ti.size && i.bytes == ti.bytes && (match i.zero with | some z=>okZ ti z | none=>false) && ycw T ti.kd && okEq P T t ti.kd
 | _,_=>false
theorem z36 {P:Program} {T:Tab} {t:TypeId} (h:okT P T t (T t)=true):TOk P T t:=by
 unfold okT at h
 split at h
 ·rename_i i d h1 h2
  simp only[qB,beq_iff_eq]at h
  obtain ⟨⟨⟨⟨⟨h3,h4⟩,h5⟩,h6⟩,h7⟩,h8⟩:=h
  split at h6
  ·rename_i z hz
   unfold okZ at h6
   simp only[qB,beq_iff_eq,List.all_eq_true,List.mem_range]at h6
   obtain ⟨⟨⟨k1,k2⟩,k3⟩,k4⟩:=h6
   refine ⟨⟨i,d,z,h1,h2,zz9 h3,h4,h5,hz,k1,k2,fun k p v q1 q2=>?_,k4⟩,?_,?_⟩
   ·have hk:k<(T t).size:=by
     have:=(List.getElem?_eq_some_iff.1 q1).1
     omega
    have:=k3 k hk
    rw [q1,q2]at this
    exact this
   ·unfold ycw at h7
    cases hk:(T t).kd <;> rw [hk]at h7 <;> first
     | trivial
     | (intro f hf; simp only[List.all_eq_true]at h7; simpa using h7 f hf)
     | (simp_all; done)
   unfold okEq at h8
   cases hk:(T t).kd <;> rw [hk]at h8 <;> first
    | trivial
    | (intro hf; simpa [hf] using h8)
  cases h6
 cases h
def lk:List (Nat × TI)→Tab
 | [],_=>⟨.none,0,0,[]⟩
 | (k,v)::r,t=>if t=k then v else lk r t
theorem ycv {P:Program} {T:Tab}:∀ {L:List (Nat × TI)},L.all (fun x=>okT P T x.1 x.2)=true→∀ t,(lk L t).kd ≠ .none→okT P T t (lk L t)=true
 | [],_,t,h=>absurd rfl h
 | (k,v)::r,h,t,hk=>by
  simp only[List.all_cons,qB]at h
  unfold lk at hk ⊢
  split
  ·rename_i e; rw [e]; exact h.1
  rename_i e; rw [if_neg e]at hk; exact ycv h.2 t hk
theorem yc9 {P:Program} {L:List (Nat × TI)} (h:L.all (fun x=>okT P (lk L) x.1 x.2)=true):zbb P (lk L) :=
 fun t ht=>z36 (ycv h t ht)
section
def dsts:List Oper→List (Option Tmp)
 | []=>[]
 | o::r=>o.dst::dsts r
theorem zx2:dsts []=[]:=rfl
theorem ztq {d:Option Tmp} {op:Op} {t:TypeId} {p:String} {a:Array Edge} {g:Option (Nat × Bool)} {r:List Oper}:dsts (⟨d,op,t,p,a,g⟩::r)=d::dsts r:=rfl
def gd (ds:List (Option Tmp)) (g:Option (Nat × Bool)) (e:Env):Option Bool :=
 match g with
 | none=>some true
 | some (j,want) =>
  match ds[j]? with
  | some (some d)=>match e d with
   | .bool b=>some (b == want)
   | .tup []=>some false
   | _=>none
  | _=>none
def sOp (D:Bool) (P:Program) (T:Tab) (e:Env) (S:Store) (o:Op) (K:PV→Store→Prop):Prop :=
 match o with
 | .call ⟨.value f,xs,ts⟩ =>
  match e.ev f with
  | .fn g cap =>
   match D with
   | true=>∃ v tx fr,(xs.toList.map e.ev++cap).mapM (reify S true 10)=some tx∧(fr=true∨(xs.toList.map e.ev++cap).mapM (reify ⟨[],0⟩ true 10)=some tx)∧PC P g tx v fr∧K v S
   | false=>∃ J,Ev P g (xs.toList.map e.ev++cap) S J∧∀ v S',J v S'→K v S'
  | .bm g b =>
   match D with
   | true=>∃ v tx fr,(b::xs.toList.map e.ev).mapM (reify S true 10)=some tx∧(fr=true∨(b::xs.toList.map e.ev).mapM (reify ⟨[],0⟩ true 10)=some tx)∧PC P g tx v fr∧K v S
   | false=>∃ J,Ev P g (b::xs.toList.map e.ev) S J∧∀ v S',J v S'→K v S'
  | .yl l =>
   match D with
   | true=>False
   | false=>∃ J,Ey P l (xs.toList.map e.ev) S J∧∀ v S',J v S'→K v S'
  | _=>False
 | o=>pOp P T e S o K
theorem zj0 {D:Bool} {P:Program} {T:Tab} {e:Env} {S:Store} {o:Op} {K:PV→Store→Prop} (h:sOp D P T e S o K):pOp P T e S o K:=by
 unfold sOp at h
 split at h
 ·rename_i f xs ts
  unfold pOp
  simp only[zp1]
  split at h
  ·rename_i g cap hf
   simp only[hf]
   cases D with
   | true=>obtain ⟨v,tx,fr,h1,h2,h3,h4⟩:=h; exact ⟨_,h3.ev h1 h2,by rintro v' S' ⟨rfl,rfl⟩; exact h4⟩
   | false=>exact h
  ·rename_i g cap hf
   simp only[hf]
   cases D with
   | true=>obtain ⟨v,tx,fr,h1,h2,h3,h4⟩:=h; exact ⟨_,h3.ev h1 h2,by rintro v' S' ⟨rfl,rfl⟩; exact h4⟩
   | false=>exact h
  ·rename_i l hf
   simp only[hf]
   cases D with
   | true=>exact h.elim
   | false=>exact h
  exact h.elim
 exact h
def za7 (D:Bool) (P:Program) (T:Tab) (ds:List (Option Tmp)):List Oper→Env→Store→(Env→Store→Prop)→Prop
 | [],e,S,Q=>Q e S
 | o::r,e,S,Q =>
  match gd ds o.guard e with
  | some true=>sOp D P T e S o.op fun v S'=>za7 D P T ds r (e.put o.dst v) S' Q
  | some false=>za7 D P T ds r (e.put o.dst (.tup [])) S Q
  | none=>False
theorem zx1:∀ (l:List Oper) (j:Nat),(dsts l)[j]?=(l[j]?).map (·.dst)
 | [],j=>by simp [dsts]
 | o::l,0=>by simp [dsts]
 | o::l,j+1=>by simp [dsts,zx1 l j]
theorem zjn {l:List Oper} {o:Oper} {e:Env}:gd (dsts l) o.guard e=gdec l.toArray o e:=by
 unfold gd gdec
 cases o.guard with
 | none=>rfl
 | some q =>
  obtain ⟨j,want⟩:=q
  simp only[zx1,List.getElem?_toArray]
  cases l[j]? with
  | none=>rfl
  | some o'=>simp only[qO,Option.bind_some]; cases o'.dst <;> rfl
section
variable {P:Program} {T:Tab} {Q:Exit→Env→Store→Prop} {e:Env} {S:Store} {a b c:Code}
theorem zog {D:Bool} {l:List Oper} {K:Env→Store→Prop}:∀ (r:List Oper) (e:Env) (S:Store),za7 D P T (dsts l) r e S K→ya4 P T l.toArray K r e S
 | [],_,_,h=>h
 | o::r,e,S,h=>by
  unfold za7 at h
  unfold ya4 zel
  rw [zjn]at h
  split at h
  ·rename_i hg; rw [hg]; exact zff (fun v S'=>zog r _ _) (zj0 h)
  ·rename_i hg; rw [hg]; exact zog r _ _ h
  exact h.elim
theorem W.k {id:Nat} {l:List Oper} (h:∀ K:Env→Store→Prop,(∀ e S,Q .normal e S→K e S)→za7 false P T (dsts l) l e S K):W P T (.region id l.toArray false) Q e S :=
 W.region (zog _ _ _ (h _ fun _ _ h=>h))
theorem W.r {id:Nat} {l:List Oper} (h:∀ K:Env→Store→Prop,(∀ e S,W P T b Q e S→K e S)→za7 false P T (dsts l) l e S K):W P T (.seq (.region id l.toArray false) b) Q e S :=
 W.seq (W.k fun K hK=>h K hK)
theorem xn {n:Env→Store→Prop} (h:n e S):XThen n Q .normal e S:=h
theorem xe {n:Env→Store→Prop} {i:Nat} (h:Q (.exit i) e S):XThen n Q (.exit i) e S:=h
theorem XThen.ret {n:Env→Store→Prop} (h:Q .ret e S):XThen n Q .ret e S:=h
theorem XbN {i:Nat} (h:Q .normal e S):XBlock i Q .normal e S:=h
theorem XBlock.ret {i:Nat} (h:Q .ret e S):XBlock i Q .ret e S:=h
theorem XBlock.hit {i:Nat} (h:Q .normal e S):XBlock i Q (.exit i) e S:=by simpa [XBlock] using h
theorem z2p {t:Tmp}:e.ev (.tmp t)=e t:=rfl
theorem zyb {v:Value}:e.ev (.const v)=ze8 v:=rfl
theorem z2o {f:FuncId}:e.ev (.func f) = .fn f []:=rfl
def evS (e:Env) (x:Operand):Option PV:=some (e.ev x)
theorem z2n {t:Tmp}:evS e (.tmp t)=some (e t):=rfl
theorem zt0 {v:Value}:evS e (.const v)=some (ze8 v):=rfl
theorem zya {f:FuncId}:evS e (.func f)=some (.fn f []):=rfl
theorem zsm {d t:Nat} {v:PV}:(e.put (some d) v) t=if t=d then v else e t:=rfl
theorem zy7 {v:PV}:e.put none v=e:=rfl
def zae (D:Bool) (P:Program) (T:Tab) (ds:List (Option Tmp)) (g:FuncId) (xs:List PV) (S:Store) (d:Option Tmp) (r:List Oper) (e:Env) (Q:Env→Store→Prop):Prop :=
 match D with
 | true=>∃ v tx fr,xs.mapM (reify S true 10)=some tx∧(fr=true∨xs.mapM (reify ⟨[],0⟩ true 10)=some tx)∧PC P g tx v fr∧za7 true P T ds r (e.put d v) S Q
 | false=>∃ J,Ev P g xs S J∧∀ v S',J v S'→za7 false P T ds r (e.put d v) S' Q
def zv5 (D:Bool) (P:Program) (T:Tab) (ds:List (Option Tmp)) (l:Nat) (xs:List PV) (S:Store) (d:Option Tmp) (r:List Oper) (e:Env) (Q:Env→Store→Prop):Prop :=
 match D with
 | true=>False
 | false=>∃ J,Ey P l xs S J∧∀ v S',J v S'→za7 false P T ds r (e.put d v) S' Q
variable {D:Bool} {ds:List (Option Tmp)} {d:Option Tmp} {t:TypeId} {p:String} {af:Array Edge} {g:Option (Nat × Bool)} {r:List Oper} {K:Env→Store→Prop}
theorem zae.ev {f:FuncId} {xs:List PV} {J:PV→Store→Prop} (h:Ev P f xs S J) (k:∀ v S',J v S'→za7 false P T ds r (e.put d v) S' K):zae false P T ds f xs S d r e K:=⟨J,h,k⟩
theorem zv5.ey {l:Nat} {xs:List PV} {J:PV→Store→Prop} (h:Ey P l xs S J) (k:∀ v S',J v S'→za7 false P T ds r (e.put d v) S' K):zv5 false P T ds l xs S d r e K:=⟨J,h,k⟩
theorem zae.pc {f:FuncId} {xs ts:List PV} {v:PV} {fr:Bool} (h:PC P f ts v fr) (h1:xs.mapM (reify S true 10)=some ts) (h2:fr=true∨xs.mapM (reify ⟨[],0⟩ true 10)=some ts)
  (k:za7 D P T ds r (e.put d v) S K):zae D P T ds f xs S d r e K:=by
 cases D with
 | true=>exact ⟨v,ts,fr,h1,h2,h,k⟩
 | false=>exact ⟨_,h.ev h1 h2,by rintro v' S' ⟨rfl,rfl⟩; exact k⟩
def zqw:Op→Bool
 | .alloc _ | .box .. | .buildSlice .. | .makeSlice .. | .makeMap .. | .store .. | .mapUpdate .. => false
 | .call ⟨.builtin .append,_,_⟩=>false
 | .call ⟨.builtin .clear,_,_⟩=>false
 | .call ⟨.builtin .copy,_,_⟩=>false
 | _=>true
def zf7:List Oper→Nat→List Nat
 | [],_=>[]
 | o::r,i=>if zqw o.op then zf7 r (i+1) else i::zf7 r (i+1)
theorem zjk:∀ (l:List Oper) (k i:Nat) (o:Oper),l[i]?=some o→k+i ∉ zf7 l k→zqw o.op=true
 | [],_,_,_,h,_=>by simp at h
 | o'::l,k,0,o,h,hn=>by
  simp at h; subst h
  unfold zf7 at hn
  split at hn
  ·assumption
  simp at hn
 | o'::l,k,i+1,o,h,hn=>by
  simp only[List.getElem?_cons_succ]at h
  refine zjk l (k+1) i o h fun hm=>hn ?_
  unfold zf7
  split
  ·rwa [show k+(i+1)=k+1+i by omega]
  rw [show k+(i+1)=k+1+i by omega]; exact List.mem_cons_of_mem _ hm
theorem zwl {o:Op} {K:PV→Store→Prop} (hf:zqw o=true) (h:sOp true P T e S o K):z7i P T S e o fun v=>K v S:=by
 unfold sOp at h
 split at h
 ·rename_i f xs ts
  simp only[z7i]
  split at h
  ·rename_i g cap hf
   simp only[hf]
   obtain ⟨v,tx,fr,h1,h2,h3,h4⟩:=h
   exact ⟨v,tx,fr,h1,h2,h3,h4⟩
  ·rename_i g cap hf
   simp only[hf]
   obtain ⟨v,tx,fr,h1,h2,h3,h4⟩:=h
   exact ⟨v,tx,fr,h1,h2,h3,h4⟩
  ·exact h.elim
  exact h.elim
 rename_i hne
 cases o with
 | call c =>
  obtain ⟨cal,xs,ts⟩:=c
  cases cal with
  | value f=>exact absurd rfl (hne f xs ts)
  | builtin b =>
   cases b <;> first
    | (simp [zqw]at hf; done)
    | exact h
  | _=>exact h
 | _=>first
  | (simp [zqw]at hf; done)
  | exact h
theorem zij {all:List Oper} {K:Env→Store→Prop}:∀ (r:List Oper) (k:Nat) (e:Env) (S:Store),all.drop k=r→za7 true P T (dsts all) r e S K →
  zcs P T all.toArray (zf7 all 0) [] [] K (List.range' k r.length) e S
 | [],_,_,_,_,h=>h
 | o::r,k,e,S,hk,h=>by
  have ho:all[k]?=some o:=by
   have:=congrArg (fun l=>l[0]?) hk
   simpa using this
  have hr:all.drop (k+1)=r:=by
   have:=congrArg (List.drop 1) hk
   simpa [List.drop_drop] using this
  unfold za7 at h
  simp only[List.length_cons,List.range'_succ,zcs,List.getElem?_toArray,ho]
  rw [zjn]at h
  unfold zel
  split at h
  ·rename_i hg
   rw [hg]
   simp only
   split
   ·rename_i hc
    exact zff (fun v S' hv=>⟨.inr (by intro o ho; cases ho),zij r (k+1) _ _ hr hv⟩) (zj0 h)
   rename_i hc
   have hflat:=zjk all 0 k o ho (by simpa using hc)
   have:=zwl hflat h
   rw [zdr]at this ⊢
   obtain ⟨v,h1,h2⟩:=this
   exact ⟨v,h1,by simp,zij r (k+1) _ _ hr h2⟩
  ·rename_i hg; rw [hg]; exact zij r (k+1) _ _ hr h
  exact h.elim
theorem W.draw_k {id:Nat} {l:List Oper} (hc:zg3 l.toArray (List.range' 0 l.length) (zf7 l 0) []=true) (h:∀ K:Env→Store→Prop,(∀ e S,Q .normal e S→K e S)→za7 true P T (dsts l) l e S K) :
  W P T (.region id l.toArray true) Q e S :=
 W.region_any (List.range' 0 l.length) (zf7 l 0) [] [] hc (zij l 0 _ _ rfl (h _ fun _ _ h=>h))
theorem W.seq_draw {id:Nat} {l:List Oper} (hc:zg3 l.toArray (List.range' 0 l.length) (zf7 l 0) []=true) (h:∀ K:Env→Store→Prop,(∀ e S,W P T b Q e S→K e S)→za7 true P T (dsts l) l e S K) :
  W P T (.seq (.region id l.toArray true) b) Q e S :=
 W.seq (W.draw_k hc fun K hK=>h K hK)
theorem zx8:za7 D P T ds [] e S K=K e S:=rfl
theorem ztu {x:Operand}:za7 D P T ds (⟨d,.move x,t,p,af,g⟩::r) e S K =
  (match gd ds g e with | some true=>(match evS e x with | some v=>za7 D P T ds r (e.put d v) S K | none=>False) | some false=>za7 D P T ds r (e.put d (.tup [])) S K | none=>False):=by
 rw [za7]; cases D <;> rfl
theorem zoe {x:Operand}:za7 D P T ds (⟨d,.assign x,t,p,af,g⟩::r) e S K =
  (match gd ds g e with | some true=>(match evS e x with | some v=>za7 D P T ds r (e.put d v) S K | none=>False) | some false=>za7 D P T ds r (e.put d (.tup [])) S K | none=>False):=by
 rw [za7]; cases D <;> rfl
theorem ztv {x y z:Operand}:za7 D P T ds (⟨d,.pick x y z,t,p,af,g⟩::r) e S K =
  (match gd ds g e with | some true=>(match z7l (e.ev x) (e.ev y) (e.ev z) with | some v=>za7 D P T ds r (e.put d v) S K | none=>False) | some false=>za7 D P T ds r (e.put d (.tup [])) S K | none=>False):=by
 rw [za7]; cases D <;> rfl
theorem ztt {t1:TypeId} {x:Operand}:za7 D P T ds (⟨d,.load t1 x,t,p,af,g⟩::r) e S K =
  (match gd ds g e with | some true=>(match zsi (T t1) S (e.ev x) with | some v=>za7 D P T ds r (e.put d v) S K | none=>False) | some false=>za7 D P T ds r (e.put d (.tup [])) S K | none=>False):=by
 rw [za7]; cases D <;> rfl
theorem zkf {x:Operand}:za7 D P T ds (⟨d,.nilCheck x,t,p,af,g⟩::r) e S K =
  (match gd ds g e with | some true=>(match zgw S (e.ev x) with | some v=>za7 D P T ds r (e.put d v) S K | none=>False) | some false=>za7 D P T ds r (e.put d (.tup [])) S K | none=>False):=by
 rw [za7]; cases D <;> rfl
theorem zqi {op:BinOp} {t1 t2:TypeId} {x y:Operand}:za7 D P T ds (⟨d,.binOp op t1 x y t2,t,p,af,g⟩::r) e S K =
  (match gd ds g e with | some true=>(match yb4 T S op t1 (e.ev x) (e.ev y) with | some v=>za7 D P T ds r (e.put d v) S K | none=>False) | some false=>za7 D P T ds r (e.put d (.tup [])) S K | none=>False):=by
 rw [za7]; cases D <;> rfl
theorem ztw {op:UnOp} {t1:TypeId} {x:Operand}:za7 D P T ds (⟨d,.unOp op t1 x,t,p,af,g⟩::r) e S K =
  (match gd ds g e with | some true=>(match pUn op (e.ev x) with | some v=>za7 D P T ds r (e.put d v) S K | none=>False) | some false=>za7 D P T ds r (e.put d (.tup [])) S K | none=>False):=by
 rw [za7]; cases D <;> rfl
theorem zmk {t1 t2:TypeId} {x:Operand}:za7 D P T ds (⟨d,.convert t1 t2 x,t,p,af,g⟩::r) e S K =
  (match gd ds g e with | some true=>(match zin T S t1 t2 (e.ev x) with | some v=>za7 D P T ds r (e.put d v) S K | none=>False) | some false=>za7 D P T ds r (e.put d (.tup [])) S K | none=>False):=by
 rw [za7]; cases D <;> rfl
theorem zke {fn:Go.Fn} {xs ys:Array Operand}:za7 D P T ds (⟨d,.makeFunc fn xs ys,t,p,af,g⟩::r) e S K =
  (match gd ds g e with | some true=>(match zkx fn (xs.toList.map e.ev) (ys.toList.map e.ev) with | some v=>za7 D P T ds r (e.put d v) S K | none=>False) | some false=>za7 D P T ds r (e.put d (.tup [])) S K | none=>False):=by
 rw [za7]; cases D <;> rfl
theorem zqn {t1:TypeId} {x:Operand} {lo hi:Option Operand}:za7 D P T ds (⟨d,.slice t1 x lo hi none,t,p,af,g⟩::r) e S K =
  (match gd ds g e with | some true=>(match zu3 T S t1 (e.ev x) (lo.map e.ev) (hi.map e.ev) with | some v=>za7 D P T ds r (e.put d v) S K | none=>False) | some false=>za7 D P T ds r (e.put d (.tup [])) S K | none=>False):=by
 rw [za7]; cases D <;> rfl
theorem zi5 {t1:TypeId} {x:Operand} {n:Nat}:za7 D P T ds (⟨d,.fieldAddr t1 x n,t,p,af,g⟩::r) e S K =
  (match gd ds g e with | some true=>(match zfk T S t1 (e.ev x) n with | some v=>za7 D P T ds r (e.put d v) S K | none=>False) | some false=>za7 D P T ds r (e.put d (.tup [])) S K | none=>False):=by
 rw [za7]; cases D <;> rfl
theorem zql {t1:TypeId} {x:Operand} {n:Nat}:za7 D P T ds (⟨d,.field t1 x n,t,p,af,g⟩::r) e S K =
  (match gd ds g e with | some true=>(match zuv T t1 (e.ev x) n with | some v=>za7 D P T ds r (e.put d v) S K | none=>False) | some false=>za7 D P T ds r (e.put d (.tup [])) S K | none=>False):=by
 rw [za7]; cases D <;> rfl
theorem zi6 {t1:TypeId} {x y:Operand}:za7 D P T ds (⟨d,.indexAddr t1 x y,t,p,af,g⟩::r) e S K =
  (match gd ds g e with | some true=>(match zfl T S t1 (e.ev x) (e.ev y) with | some v=>za7 D P T ds r (e.put d v) S K | none=>False) | some false=>za7 D P T ds r (e.put d (.tup [])) S K | none=>False):=by
 rw [za7]; cases D <;> rfl
theorem zqm {t1:TypeId} {x y:Operand}:za7 D P T ds (⟨d,.index t1 x y,t,p,af,g⟩::r) e S K =
  (match gd ds g e with | some true=>(match zuz T t1 (e.ev x) (e.ev y) with | some v=>za7 D P T ds r (e.put d v) S K | none=>False) | some false=>za7 D P T ds r (e.put d (.tup [])) S K | none=>False):=by
 rw [za7]; cases D <;> rfl
theorem zml {x:Operand} {n:Nat}:za7 D P T ds (⟨d,.extract x n,t,p,af,g⟩::r) e S K =
  (match gd ds g e with | some true=>(match znp (e.ev x) n with | some v=>za7 D P T ds r (e.put d v) S K | none=>False) | some false=>za7 D P T ds r (e.put d (.tup [])) S K | none=>False):=by
 rw [za7]; cases D <;> rfl
theorem zqj {t1:TypeId} {ps:Array (Nat × Operand)}:za7 D P T ds (⟨d,.build t1 ps,t,p,af,g⟩::r) e S K =
  (match gd ds g e with | some true=>(match zus T t1 (ps.toList.map fun p=>(p.1,e.ev p.2)) with | some v=>za7 D P T ds r (e.put d v) S K | none=>False) | some false=>za7 D P T ds r (e.put d (.tup [])) S K | none=>False):=by
 rw [za7]; cases D <;> rfl
theorem zof {t1:TypeId} {x y:Operand} {ok:Bool}:za7 D P T ds (⟨d,.lookup t1 x y ok,t,p,af,g⟩::r) e S K =
  (match gd ds g e with | some true=>(match zo3 T S t1 (e.ev x) (e.ev y) ok with | some v=>za7 D P T ds r (e.put d v) S K | none=>False) | some false=>za7 D P T ds r (e.put d (.tup [])) S K | none=>False):=by
 rw [za7]; cases D <;> rfl
theorem zx5 {xs:Array Operand} {ts:Array TypeId}:za7 D P T ds (⟨d,.call ⟨.builtin .len,xs,ts⟩,t,p,af,g⟩::r) e S K =
  (match gd ds g e with | some true=>(match zey T S (.builtin .len) (xs.toList.map e.ev) ts.toList with | some v=>za7 D P T ds r (e.put d v) S K | none=>False) | some false=>za7 D P T ds r (e.put d (.tup [])) S K | none=>False):=by
 rw [za7]; cases D <;> rfl
theorem zx6 {xs:Array Operand} {ts:Array TypeId}:za7 D P T ds (⟨d,.call ⟨.builtin .max,xs,ts⟩,t,p,af,g⟩::r) e S K =
  (match gd ds g e with | some true=>(match z7j (xs.toList.map e.ev) with | some v=>za7 D P T ds r (e.put d v) S K | none=>False) | some false=>za7 D P T ds r (e.put d (.tup [])) S K | none=>False):=by
 rw [za7]; cases D <;> rfl
theorem zx7 {xs:Array Operand} {ts:Array TypeId}:za7 D P T ds (⟨d,.call ⟨.builtin .min,xs,ts⟩,t,p,af,g⟩::r) e S K =
  (match gd ds g e with | some true=>(match z7k (xs.toList.map e.ev) with | some v=>za7 D P T ds r (e.put d v) S K | none=>False) | some false=>za7 D P T ds r (e.put d (.tup [])) S K | none=>False):=by
 rw [za7]; cases D <;> rfl
theorem zod {x y:Operand} {t1 t2:TypeId}:za7 D P T ds (⟨d,.call ⟨.builtin .append,#[x,y],#[t1,t2]⟩,t,p,af,g⟩::r) e S K =
  (match gd ds g e with | some true=>(t1=t2∧zlw T t1 S (e.ev x) (e.ev y) fun v S=>za7 D P T ds r (e.put d v) S K) | some false=>za7 D P T ds r (e.put d (.tup [])) S K | none=>False):=by
 rw [za7]; cases D <;> rfl
theorem zts {x y:Operand} {t1 t2:TypeId}:za7 D P T ds (⟨d,.call ⟨.builtin .copy,#[x,y],#[t1,t2]⟩,t,p,af,g⟩::r) e S K =
  (match gd ds g e with | some true=>(z0w T t1 S (e.ev x) (e.ev y) fun v S=>za7 D P T ds r (e.put d v) S K) | some false=>za7 D P T ds r (e.put d (.tup [])) S K | none=>False):=by
 rw [za7]; cases D <;> rfl
theorem zqk {x:Operand} {t1:TypeId}:za7 D P T ds (⟨d,.call ⟨.builtin .clear,#[x],#[t1]⟩,t,p,af,g⟩::r) e S K =
  (match gd ds g e with | some true=>(zq3 T t1 S (e.ev x) fun v S=>za7 D P T ds r (e.put d v) S K) | some false=>za7 D P T ds r (e.put d (.tup [])) S K | none=>False):=by
 rw [za7]; cases D <;> rfl
theorem ztr {f:Operand} {xs:Array Operand} {ts:Array TypeId}:za7 D P T ds (⟨d,.call ⟨.value f,xs,ts⟩,t,p,af,g⟩::r) e S K =
  (match gd ds g e with | some true=>(match e.ev f with | .fn f1 cap=>zae D P T ds f1 (xs.toList.map e.ev++cap) S d r e K | .bm f1 b=>zae D P T ds f1 (b::xs.toList.map e.ev) S d r e K | .yl l=>zv5 D P T ds l (xs.toList.map e.ev) S d r e K | _=>False) | some false=>za7 D P T ds r (e.put d (.tup [])) S K | none=>False):=by
 rw [za7]; cases D <;> rfl
theorem zqh {t1:TypeId}:za7 D P T ds (⟨d,.alloc t1,t,p,af,g⟩::r) e S K =
  (match gd ds g e with | some true=>((T t1).kd ≠ .none∧za7 D P T ds r (e.put d (.ref S.obs.length S.tick 0)) (S.push t1 (T t1).size (T t1).zero) K) | some false=>za7 D P T ds r (e.put d (.tup [])) S K | none=>False):=by
 rw [za7]; cases D <;> rfl
theorem zx4 {t1:TypeId} {x:Operand}:za7 D P T ds (⟨d,.box t1 x,t,p,af,g⟩::r) e S K =
  (match gd ds g e with | some true=>((T t1).kd ≠ .none∧(e.ev x).cells.length=(T t1).size∧zbh (e.ev x).cells∧za7 D P T ds r (e.put d (.ref S.obs.length S.tick 0)) (S.push t1 (T t1).size (e.ev x).cells) K) | some false=>za7 D P T ds r (e.put d (.tup [])) S K | none=>False):=by
 rw [za7]; cases D <;> rfl
theorem zmm {t1:TypeId}:za7 D P T ds (⟨d,.makeMap t1 none,t,p,af,g⟩::r) e S K =
  (match gd ds g e with | some true=>(za7 D P T ds r (e.put d (.mp S.obs.length S.tick)) S.pushMap K) | some false=>za7 D P T ds r (e.put d (.tup [])) S K | none=>False):=by
 rw [za7]; simp only[sOp,pOp,Option.isNone_none,true_and]
theorem zqo {t1:TypeId} {x y:Operand}:za7 D P T ds (⟨d,.store t1 x y,t,p,af,g⟩::r) e S K =
  (match gd ds g e with | some true=>(pOp P T e S (.store t1 x y) fun v S=>za7 D P T ds r (e.put d v) S K) | some false=>za7 D P T ds r (e.put d (.tup [])) S K | none=>False):=by
 rw [za7]; rfl
theorem zhw {t1:TypeId} {n:Nat} {ps:Array (Nat × Operand)}:za7 D P T ds (⟨d,.buildSlice t1 n ps,t,p,af,g⟩::r) e S K =
  (match gd ds g e with | some true=>(pOp P T e S (.buildSlice t1 n ps) fun v S=>za7 D P T ds r (e.put d v) S K) | some false=>za7 D P T ds r (e.put d (.tup [])) S K | none=>False):=by
 rw [za7]; rfl
theorem zi7 {t1:TypeId} {x y:Operand}:za7 D P T ds (⟨d,.makeSlice t1 x y,t,p,af,g⟩::r) e S K =
  (match gd ds g e with | some true=>(pOp P T e S (.makeSlice t1 x y) fun v S=>za7 D P T ds r (e.put d v) S K) | some false=>za7 D P T ds r (e.put d (.tup [])) S K | none=>False):=by
 rw [za7]; rfl
theorem zi8 {t1:TypeId} {x y z:Operand}:za7 D P T ds (⟨d,.mapUpdate t1 x y z,t,p,af,g⟩::r) e S K =
  (match gd ds g e with | some true=>(pOp P T e S (.mapUpdate t1 x y z) fun v S=>za7 D P T ds r (e.put d v) S K) | some false=>za7 D P T ds r (e.put d (.tup [])) S K | none=>False):=by
 rw [za7]; rfl
theorem zu2 {t1:TypeId} {a x:Operand} {K:PV→Store→Prop}:pOp P T e S (.store t1 a x) K=(    match e.ev a with
  | .ref o ver off =>
   match S.obs[o]? with
   | some (.arr v et sz cells) =>
    v=ver∧(T t1).kd ≠ .none∧(e.ev x).cells.length=(T t1).size∧off+(T t1).size≤cells.length∧zbh (e.ev x).cells ∧
     K (.tup []) (S.set o (.arr v et sz (spl cells off (e.ev x).cells)))
   | _=>False
  | _=>False):=rfl
theorem zjb {t1:TypeId} {n:Nat} {parts:Array (Nat × Operand)} {K:PV→Store→Prop}:pOp P T e S (.buildSlice t1 n parts) K=(    match (T t1).kd with
  | .slice et =>
   n≤16777216∧n*(T et).size≤16777216 ∧
   match zhq T (fun i=>some (i*(T et).size,(T et).size)) (repz (T et).zero n) (parts.toList.map fun p=>(p.1,e.ev p.2)) with
   | some cells=>zbh cells∧K (.loc S.obs.length S.tick 0 n) (S.push et (T et).size cells)
   | none=>False
  | _=>False):=rfl
theorem zkz {t1:TypeId} {l c:Operand} {K:PV→Store→Prop}:pOp P T e S (.makeSlice t1 l c) K=(    match (T t1).kd,e.ev l,e.ev c with
  | .slice et,.int _ l,.int _ c=>l=c∧0≤l∧(T et).bytes*l≤281474976710656∧l≤9223372036854775807 ∧
    K (.loc S.obs.length S.tick 0 l.toNat) (S.push et (T et).size (repz (T et).zero l.toNat))
  | _,_,_=>False):=rfl
theorem zk0 {t1:TypeId} {m k x:Operand} {K:PV→Store→Prop}:pOp P T e S (.mapUpdate t1 m k x) K=(    match (T t1).kd,e.ev m with
  | .map kt _,.mp o ver =>
   match S.obs[o]? with
   | some (.map v es) =>
    v=ver∧TK.keyed T kt (e.ev k)=true ∧
     match findKey (e.ev k) es 0 with
     | some (some (i,_))=>K (.tup []) (S.set o (.map v (es.set i (e.ev k,e.ev x))))
     | some none=>K (.tup []) (S.set o (.map v (es++[(e.ev k,e.ev x)])))
     | none=>False
   | _=>False
  | _,_=>False):=rfl
theorem zuu {t:TypeId} {x:PV} {K:PV→Store→Prop}:zq3 T t S x K=(
 match (T t).kd with
 | .slice e =>
  match x with
  | .loc o ver off n =>
   match S.obs[o]? with
   | some (.arr v et sz cells)=>v=ver∧(T e).kd ≠ .none∧off+(repz (T e).zero n).length≤cells.length∧zbh (repz (T e).zero n)∧K (.tup []) (S.set o (.arr v et sz (spl cells off (repz (T e).zero n))))
   | _=>False
  | _=>False
 | _=>False):=rfl
theorem zyr {t:TypeId} {x y:PV} {K:PV→Store→Prop}:z0w T t S x y K=(
 match (T t).kd with
 | .slice e =>
  match zcl S (T e).size y with
  | some (m,ys) =>
   match x with
   | .loc o ver off n =>
    match S.obs[o]? with
    | some (.arr v et sz cells)=>v=ver∧sz=(T e).size∧off+(ys.take (min m n*sz)).length≤cells.length ∧
      K (.int .i64 ((min m n:Nat):Int)) (S.set o (.arr v et sz (spl cells off (ys.take (min m n*sz)))))
    | _=>False
   | _=>False
  | none=>False
 | _=>False):=rfl
theorem zq1 {t:TypeId} {x y:PV} {K:PV→Store→Prop}:zlw T t S x y K=(
 match (T t).kd with
 | .slice e =>
  match zcl S (T e).size y with
  | some (m,ys) =>
   match x with
   | .nils=>if m=0 then K .nils S else m*(T e).bytes≤140737488355328∧m≤maxLen∧K (.loc S.obs.length S.tick 0 m) (S.push e (T e).size ys)
   | .loc o ver 0 n =>
    match S.obs[o]? with
    | some (.arr v et sz cells) =>
     v=ver∧et=e∧sz=(T e).size∧n*sz≤cells.length∧(n+m)*(T e).bytes≤140737488355328∧n+m≤maxLen ∧
      K (.loc o S.tick 0 (n+m)) ⟨S.obs.set o (.arr S.tick et sz (cells.take (n*sz)++ys)),S.tick+1⟩
    | _=>False
   | _=>False
  | none=>False
 | _=>False):=rfl
end
end
theorem z32 {t i:Nat} {ts:List Nat} {v:PV} {vs:List PV}:Env.of (t::ts) (v::vs) i=if i=t then v else Env.of ts vs i:=rfl
theorem zn0 {v:PV} {vs:List PV}:zaj (v::vs) 0=v:=rfl
theorem zn1 {v:PV} {vs:List PV} {t:Nat}:zaj (v::vs) (t+1)=zaj vs t:=rfl
theorem Br {T:Tab} {rs:List ResultVar} {K:PV→Store→Prop} {e:Env} {S:Store} {v:PV} (h:zvg T S e rs=some v) (k:K v S):zhu T rs K .ret e S:=by
 simp only[zhu,h]; exact k
theorem zhu.norm {T:Tab} {rs:List ResultVar} {K:PV→Store→Prop} {e:Env} {S:Store} {v:PV} (h:zvg T S e rs=some v) (k:K v S):zhu T rs K .normal e S:=by
 simp only[zhu,h]; exact k
theorem w64 {x:Int} (h1 : -9223372036854775808≤x) (h2:x<9223372036854775808):IntKind.i64.wrap x=x:=by
 rw [IntKind.wrap_i64]; omega
abbrev zaz (p:List (List UInt8)):PV := .sl (p.map .str) p.length
abbrev eInts (p:List Int):PV := .sl (p.map (.int .i64)) p.length
theorem tk {α:Type} {l:List α} {i:Nat} {a:α} (h:l[i]?=some a):l.take (i+1)=l.take i++[a]:=by
 rw [List.take_add_one,h]; rfl
theorem zag {α:Type} {l:List α} {i:Nat} (h:i<l.length):∃ a,l[i]?=some a∧a∈l:=⟨l[i],List.getElem?_eq_getElem h,List.getElem_mem h⟩
theorem ze7 {a b:Int}:(if b>a then b else a)=max a b:=by omega
theorem zh2 {a b:Int}:(if b<a then b else a)=min a b:=by omega
-- BUNDLES
theorem bq1:(true == false)=false:=rfl
theorem bq2:(false == true)=false:=rfl
theorem bq3:(true == true)=true:=rfl
theorem bq4:(false == false)=true:=rfl
theorem nb1:(!true)=false:=rfl
theorem nb2:(!false)=true:=rfl
theorem z2z {ds:List (Option Tmp)} {e:Env}:gd ds none e=some true:=rfl
theorem z20 {ds:List (Option Tmp)} {e:Env} {j:Nat} {want:Bool}:gd ds (some (j,want)) e=(match ds[j]? with
  | some (some d)=>match e d with
   | .bool b=>some (b == want)
   | .tup []=>some false
   | _=>none
  | _=>none):=rfl
theorem z87 {k:IntKind} {n:Int}:ze8 (.int k n) = .int k n:=rfl
theorem z3x {b:Bool}:ze8 (.bool b) = .bool b:=rfl
theorem z30:ze8 (.pointer none) = .nilp:=rfl
theorem z31:ze8 (.slice none 0 0) = .nils:=rfl
theorem z3y:ze8 .nilFunc = .nilf:=rfl
theorem z3z:ze8 (.map none) = .nilm:=rfl
theorem z88 {s:ByteArray}:ze8 (.string s) = .str s.data.toList:=rfl
theorem gl0 {a:Option Tmp} {l:List (Option Tmp)}:(a::l)[0]?=some a:=rfl
theorem gls {a:Option Tmp} {l:List (Option Tmp)} {i:Nat}:(a::l)[i+1]?=l[i]?:=rfl
theorem ztg {cs:List PV}:(PV.agg cs).cells=cs:=rfl
theorem z4c {k:IntKind} {n:Int}:pUn .neg (.int k n)=some (.int k (k.wrap (0 - n))):=rfl
theorem z4d {b:Bool}:pUn .not (.bool b)=some (.bool (!b)):=rfl
theorem zq6 {t:Bool} {a b:PV}:z7l (.bool t) a b=some (if t then a else b):=rfl
theorem zmw {vs:List PV} {i:Nat}:znp (.tup vs) i=vs[i]?:=rfl
theorem zyw {ti:TI} {S:Store} {cs:List PV} {off:Nat}:zsi ti S (.ip cs off)=zjo ti cs off:=rfl
theorem zu1 {ti:TI} {S:Store} {o ver off:Nat}:zsi ti S (.ref o ver off)=(S.cellsOf o ver).bind fun cells=>zjo ti cells off:=rfl
theorem zmz {S:Store} {cs:List PV} {off:Nat}:zgw S (.ip cs off)=some (.ip cs off):=rfl
theorem zky {S:Store} {o ver off:Nat}:zgw S (.ref o ver off)=(S.cellsOf o ver).map fun _ => .ref o ver off:=rfl
theorem zyx {x:PV}:z7j [x]=some x:=rfl
theorem zyy {k k':IntKind} {a b:Int} {r:List PV}:z7j (.int k a :: .int k' b::r)=z7j (.int k (if b>a then b else a)::r):=rfl
theorem zyz {x:PV}:z7k [x]=some x:=rfl
theorem zy0 {k k':IntKind} {a b:Int} {r:List PV}:z7k (.int k a :: .int k' b::r)=z7k (.int k (if b<a then b else a)::r):=rfl
theorem zyh {k:TK}:k.isAgg=(match k with | .struct _ | .arr _ _=>true | _=>false):=rfl
theorem z37 {T:Tab} {S:Store} {op:BinOp} {t:TypeId} {x y:PV}:yb4 T S op t x y=(
 match x,y with
 | .int k a,.int k' b =>
  match op with
  | .shl | .shr=>zy2 op k a b
  | _=>if k=k' then zuq op k a b else none
 | .str a,.str b=>z7m op a b
 | _,_ =>
  match op with
  | .eql=>(pEq T S t x y).map .bool
  | .neq=>(pEq T S t x y).map fun b => .bool (!b)
  | _=>none):=rfl
theorem zur {op:BinOp} {k:IntKind} {a b:Int}:zuq op k a b=(
 match op with
 | .add=>some (.int k (k.wrap (a+b)))
 | .sub=>some (.int k (k.wrap (a - b)))
 | .mul=>some (.int k (k.wrap (a*b)))
 | .quo=>if b=0 then none else some (.int k (k.wrap (a.tdiv b)))
 | .rem=>if b=0 then none else some (.int k (a.tmod b))
 | .and=>some (.int k (k.wrap (BitVec.ofInt k.bits a &&& BitVec.ofInt k.bits b).toNat))
 | .or=>some (.int k (k.wrap (BitVec.ofInt k.bits a ||| BitVec.ofInt k.bits b).toNat))
 | .xor=>some (.int k (k.wrap (BitVec.ofInt k.bits a ^^^ BitVec.ofInt k.bits b).toNat))
 | .eql=>some (.bool (a == b))
 | .neq=>some (.bool (a != b))
 | .lss=>some (.bool (a<b))
 | .leq=>some (.bool (a≤b))
 | .gtr=>some (.bool (a>b))
 | .geq=>some (.bool (a ≥ b))
 | _=>none):=rfl
theorem zkw {T:Tab} {S:Store} {t:TypeId} {x i:PV}:zfl T S t x i=(
 match i with
 | .int _ i =>
  match (T t).kd,x with
  | .slice e,.sl cs n=>if 0≤i∧i<n then some (.ip cs (i.toNat*(T e).size)) else none
  | .slice e,.loc o ver off n=>(S.cellsOf o ver).bind fun _=>if 0≤i∧i<n then some (.ref o ver (off+i.toNat*(T e).size)) else none
  | .arr n e,.ref o ver off=>(S.cellsOf o ver).bind fun _=>if 0≤i∧i<n then some (.ref o ver (off+i.toNat*(T e).size)) else none
  | .arr n e,.ip cs off=>if 0≤i∧i<n then some (.ip cs (off+i.toNat*(T e).size)) else none
  | _,_=>none
 | _=>none):=rfl
theorem zu0 {T:Tab} {t:TypeId} {x i:PV}:zuz T t x i=(
 match i with
 | .int _ i =>
  match (T t).kd,x with
  | .str,.str s=>if 0≤i then (s[i.toNat]?).map fun b => .int .u8 b.toNat else none
  | .arr n e,.agg cs=>if 0≤i∧i<n then z4b (T e) cs (i.toNat*(T e).size) else none
  | _,_=>none
 | _=>none):=rfl
theorem zo1 {T:Tab} {S:Store} {c:Callee} {xs:List PV} {ts:List TypeId}:zey T S c xs ts=(
 match c with
 | .builtin .len=>match xs,ts with
  | [x],[t]=>ycy T S t x
  | _,_=>none
 | .builtin .max=>z7j xs
 | .builtin .min=>z7k xs
 | _=>none):=rfl
theorem z38 {T:Tab} {S:Store} {t:TypeId} {x:PV}:ycy T S t x=(
 match (T t).kd,x with
 | .str,.str s=>some (.int .i64 s.length)
 | .arr n _,_=>some (.int .i64 n)
 | .slice _,.nils=>some (.int .i64 0)
 | .slice _,.sl _ n=>some (.int .i64 n)
 | .slice _,.loc o ver _ n=>(S.cellsOf o ver).map fun _ => .int .i64 n
 | .map _ _,.mp o ver=>match S.obs[o]? with
  | some (.map v es)=>if v=ver then some (.int .i64 es.length) else none
  | _=>none
 | _,_=>none):=rfl
theorem zo2 {T:Tab} {S:Store} {src dst:TypeId} {x:PV}:zin T S src dst x=(
 match (T src).kd,(T dst).kd,x with
 | .int _,.int k,.int _ n=>some (.int k (k.wrap n))
 | .int _,.str,.int _ n=>some (.str (Utf8.encode n).data.toList)
 | .str,.str,.str s=>some (.str s)
 | .slice e,.str,x =>
  match (T e).kd with
  | .int .u8=>(zcl S 1 x).bind fun q=>(zfm q.2).map .str
  | _=>none
 | .str,.slice e,.str s =>
  match (T e).kd with
  | .int .u8=>some (.sl (s.map fun b => .int .u8 b.toNat) s.length)
  | _=>none
 | _,_,_=>none):=rfl
theorem zuw {T:Tab} {t:TypeId} {x:PV} {f:Nat}:zuv T t x f=(
 match (T t).kd,x with
 | .struct fs,.agg cs =>
  match fs[f]? with
  | some (fo,ft)=>z4b (T ft) cs fo
  | none=>none
 | _,_=>none):=rfl
theorem zy1 {ti:TI} {cs:List PV} {off:Nat}:z4b ti cs off=(
zjo ti cs off):=rfl
theorem zku {T:Tab} {S:Store} {t:TypeId} {x:PV} {f:Nat}:zfk T S t x f=(
 match (T t).kd with
 | .struct fs =>
  match fs[f]?,x with
  | some (fo,ft),.ip cs off=>if (T ft).size=0 then none else some (.ip cs (off+fo))
  | some (fo,ft),.ref o ver off=>if (T ft).size=0 then none else (S.cellsOf o ver).map fun _ => .ref o ver (off+fo)
  | _,_=>none
 | _=>none):=rfl
theorem zu4 {T:Tab} {S:Store} {t:TypeId} {x:PV} {lo hi:Option PV}:zu3 T S t x lo hi=(
 match (T t).kd,x with
 | .str,.str s=>(ze9 s.length lo hi).map fun (l,h) => .str ((s.take h).drop l)
 | .slice e,.sl cs n=>(ze9 n lo hi).map fun (l,h) => .sl ((cs.take (h*(T e).size)).drop (l*(T e).size)) (h - l)
 | .slice e,.loc o ver off n =>
  match S.obs[o]? with
  | some (.arr v _ sz _) =>
   if v=ver∧sz=(T e).size then (ze9 n lo hi).bind fun (l,h)=>if l=0∨l<n then some (.loc o ver (off+l*sz) (h - l)) else none
   else none
  | _=>none
 | _,_=>none):=rfl
theorem zq5 {T:Tab} {S:Store} {t:TypeId} {m k:PV} {ok:Bool}:zo3 T S t m k ok=(
 match (T t).kd,m with
 | .map kt vt,.mp o ver =>
  match S.obs[o]? with
  | some (.map v es) =>
   if v=ver∧TK.keyed T kt k=true∧(T vt).kd.isAgg=false then
    (findKey k es 0).bind fun r=>match r with
     | some (_,x)=>some (if ok then .tup [x,.bool true] else x)
     | none=>((T vt).zero[0]?).map fun z=>if ok then .tup [z,.bool false] else z
   else none
  | _=>none
 | _,_=>none):=rfl
theorem zmy {fn:Go.Fn} {first cap:List PV}:zkx fn first cap=(
 match fn,first with
 | .func f,[]=>some (.fn f cap)
 | .func f,[x]=>if zl0 10 x && cap.isEmpty then some (.bm f x) else none
 | _,_=>none):=rfl
theorem zyf {ti:TI} {cs:List PV} {off:Nat}:zjo ti cs off=(
 if ti.kd = .none then none else if ti.kd.isAgg then (if off+ti.size≤cs.length then some (.agg ((cs.drop off).take ti.size)) else none) else cs[off]?):=rfl
theorem zut {T:Tab} {t:TypeId} {parts:List (Nat × PV)}:zus T t parts=(
 match (T t).kd with
 | .struct fs=>(zhq T (fun i=>(fs[i]?).map fun f=>(f.1,(T f.2).size)) (T t).zero parts).map .agg
 | .arr _ e=>(zhq T (fun i=>some (i*(T e).size,(T e).size)) (T t).zero parts).map .agg
 | _=>none):=rfl
theorem RU:(type_of% @z2p)∧(type_of% @zyb)∧(type_of% @z2o)∧(type_of% @zsm)∧(type_of% @zy7)∧(type_of% @zx8)∧(type_of% @ztu)∧(type_of% @zoe)∧(type_of% @ztv)∧(type_of% @ztt)∧(type_of% @zkf)∧(type_of% @zqi)∧(type_of% @ztw)∧(type_of% @zmk)∧(type_of% @zke)∧(type_of% @zqn)∧(type_of% @zi5)∧(type_of% @zql)∧(type_of% @zi6)∧(type_of% @zqm)∧(type_of% @zml)∧(type_of% @zqj)∧(type_of% @zof)∧(type_of% @zx5)∧(type_of% @zx6)∧(type_of% @zx7)∧(type_of% @zod)∧(type_of% @ztr)∧(type_of% @zqk)∧(type_of% @zts)∧(type_of% @zqh)∧(type_of% @zx4)∧(type_of% @zmm)∧(type_of% @zqo)∧(type_of% @zhw)∧(type_of% @zi7)∧(type_of% @zi8)∧(type_of% @zu2)∧(type_of% @zjb)∧(type_of% @zkz)∧(type_of% @zk0)∧(type_of% @zq1)∧(type_of% @zuu)∧(type_of% @zyr)∧(type_of% @z32):=⟨@z2p,@zyb,@z2o,@zsm,@zy7,@zx8,@ztu,@zoe,@ztv,@ztt,@zkf,@zqi,@ztw,@zmk,@zke,@zqn,@zi5,@zql,@zi6,@zqm,@zml,@zqj,@zof,@zx5,@zx6,@zx7,@zod,@ztr,@zqk,@zts,@zqh,@zx4,@zmm,@zqo,@zhw,@zi7,@zi8,@zu2,@zjb,@zkz,@zk0,@zq1,@zuu,@zyr,@z32⟩
theorem RV:(type_of% @ztq)∧(type_of% @zx2)∧(type_of% @z2n)∧(type_of% @zt0)∧(type_of% @zya)∧(type_of% @zn0)∧(type_of% @zn1)∧(type_of% @bq1)∧(type_of% @bq2)∧(type_of% @bq3)∧(type_of% @bq4)∧(type_of% @nb1)∧(type_of% @nb2)∧(type_of% @z2z)∧(type_of% @z20)∧(type_of% @z87)∧(type_of% @z3x)∧(type_of% @z30)∧(type_of% @z31)∧(type_of% @z3y)∧(type_of% @z3z)∧(type_of% @z88)∧(type_of% @gl0)∧(type_of% @gls)∧(type_of% @ztg)∧(type_of% @z4c)∧(type_of% @z4d)∧(type_of% @zq6)∧(type_of% @zmw)∧(type_of% @zyw)∧(type_of% @zu1)∧(type_of% @zmz)∧(type_of% @zky)∧(type_of% @zyx)∧(type_of% @zyy)∧(type_of% @zyz)∧(type_of% @zy0)∧(type_of% @zyh)∧(type_of% @z37)∧(type_of% @zur)∧(type_of% @zkw)∧(type_of% @zu0)∧(type_of% @zo1)∧(type_of% @z38)∧(type_of% @zo2)∧(type_of% @zuw)∧(type_of% @zy1)∧(type_of% @zku)∧(type_of% @zu4)∧(type_of% @zq5)∧(type_of% @zmy)∧(type_of% @zut)∧(type_of% @zyf):=⟨@ztq,@zx2,@z2n,@zt0,@zya,@zn0,@zn1,@bq1,@bq2,@bq3,@bq4,@nb1,@nb2,@z2z,@z20,@z87,@z3x,@z30,@z31,@z3y,@z3z,@z88,@gl0,@gls,@ztg,@z4c,@z4d,@zq6,@zmw,@zyw,@zu1,@zmz,@zky,@zyx,@zyy,@zyz,@zy0,@zyh,@z37,@zur,@zkw,@zu0,@zo1,@z38,@zo2,@zuw,@zy1,@zku,@zu4,@zq5,@zmy,@zut,@zyf⟩
theorem zmd:zbh []:=fun _ h=>by cases h
theorem zj7 {p:PV} {ps:List PV}:zbh (p::ps)↔p.isCell=true∧zbh ps:=by
 unfold zbh; simp
theorem zs8 {α:Type} {f:α→PV} (h:∀ a,(f a).isCell=true) (l:List α):zbh (l.map f):=by
 intro p hp; obtain ⟨a,_,rfl⟩:=List.mem_map.1 hp; exact h a
theorem z9n {S:Store} {sz o ver off n:Nat}:zcl S sz (.loc o ver off n)=(S.cellsOf o ver).bind fun cells=>if off+n*sz≤cells.length then some (n,(cells.drop off).take (n*sz)) else none:=rfl
theorem yc5 {S:Store} {sz n:Nat} {cs:List PV}:zcl S sz (.sl cs n)=if cs.length=n*sz then some (n,cs) else none:=rfl
theorem z5c {S:Store} {sz:Nat}:zcl S sz .nils=some (0,[]):=rfl
theorem ycl {S:Store} {o ver:Nat}:S.cellsOf o ver=(match S.obs[o]? with | some (.arr v _ _ cells)=>if v=ver then some cells else none | _=>none):=rfl
theorem z4i {l:List Ob} {t et sz:Nat} {cells:List PV}:Store.push ⟨l,t⟩ et sz cells=⟨l++[.arr t et sz cells],t+1⟩:=rfl
theorem zrb {l:List Ob} {t:Nat}:Store.pushMap ⟨l,t⟩=⟨l++[.map t []],t+1⟩:=rfl
theorem z9k {l:List Ob} {t o:Nat} {ob:Ob}:Store.set ⟨l,t⟩ o ob=⟨l.set o ob,t⟩:=rfl
theorem zb8 {l:List Ob} {t k:Nat}:Store.take ⟨l,t⟩ k=⟨l.take k,t⟩:=rfl
theorem zti {k:IntKind} {n:Int}:(PV.int k n).cells=[.int k n]:=rfl
theorem zqc {b:Bool}:(PV.bool b).cells=[.bool b]:=rfl
theorem ztl {b:List UInt8}:(PV.str b).cells=[.str b]:=rfl
theorem zqe:PV.nils.cells=[.nils]:=rfl
theorem zqd:PV.nilp.cells=[.nilp]:=rfl
theorem ztj {o v f n:Nat}:(PV.loc o v f n).cells=[.loc o v f n]:=rfl
theorem ztk {o v f:Nat}:(PV.ref o v f).cells=[.ref o v f]:=rfl
theorem zxt {o v:Nat}:(PV.mp o v).cells=[.mp o v]:=rfl
theorem zxu {cs:List PV} {n:Nat}:(PV.sl cs n).cells=[.sl cs n]:=rfl
theorem zkc {cs:List PV} {n:Nat}:(PV.ip cs n).cells=[.ip cs n]:=rfl
theorem z8x {k:IntKind} {n:Int}:(PV.int k n).isCell=true:=rfl
theorem z24 {b:Bool}:(PV.bool b).isCell=true:=rfl
theorem z80 {b:List UInt8}:(PV.str b).isCell=true:=rfl
theorem z27:PV.nils.isCell=true:=rfl
theorem z26:PV.nilp.isCell=true:=rfl
theorem z8y {o v f n:Nat}:(PV.loc o v f n).isCell=true:=rfl
theorem z8z {o v f:Nat}:(PV.ref o v f).isCell=true:=rfl
theorem ycp {o v:Nat}:(PV.mp o v).isCell=true:=rfl
theorem ycq {cs:List PV} {n:Nat}:(PV.sl cs n).isCell=true:=rfl
theorem z25 {cs:List PV} {n:Nat}:(PV.ip cs n).isCell=true:=rfl
theorem z82 {k:IntKind} {n:Int}:(PV.int k n).isDef=true:=rfl
theorem z28 {b:Bool}:(PV.bool b).isDef=true:=rfl
theorem z85 {b:List UInt8}:(PV.str b).isDef=true:=rfl
theorem z81 {cs:List PV}:(PV.agg cs).isDef=true:=rfl
theorem z29:PV.nils.isDef=true:=rfl
theorem z83 {o v f n:Nat}:(PV.loc o v f n).isDef=true:=rfl
theorem z84 {o v f:Nat}:(PV.ref o v f).isDef=true:=rfl
theorem ycr {cs:List PV} {n:Nat}:(PV.sl cs n).isDef=true:=rfl
theorem zux {T:Tab} {pl:Nat→Option (Nat × Nat)} {cs:List PV}:zhq T pl cs []=some cs:=rfl
theorem zq4 {T:Tab} {pl:Nat→Option (Nat × Nat)} {cs:List PV} {i:Nat} {v:PV} {r:List (Nat × PV)}:zhq T pl cs ((i,v)::r)=(match pl i with
  | none=>none
  | some (off,size)=>if v.cells.length=size∧off+size≤cs.length∧v.isDef=true then zhq T pl (spl cs off v.cells) r else none):=rfl
theorem z9o {cs vs:List PV} {off:Nat}:spl cs off vs=cs.take off++vs++cs.drop (off+vs.length):=rfl
theorem zve {z:List PV}:repz z 0=[]:=rfl
theorem zgy {z:List PV} {n:Nat}:repz z (n+1)=z++repz z n:=rfl
theorem zys {n:Nat}:pHi n none=some n:=rfl
theorem zyt {n:Nat} {k:IntKind} {h:Int}:pHi n (some (.int k h))=if 0≤h∧h≤n then some h.toNat else none:=rfl
theorem zyu {n:Nat}:pLo n none=some 0:=rfl
theorem zyv {n:Nat} {k:IntKind} {h:Int}:pLo n (some (.int k h))=if 0≤h∧h≤n then some h.toNat else none:=rfl
theorem zq2 {n:Nat} {lo hi:Option PV}:ze9 n lo hi=(pHi n hi).bind fun h=>(pLo h lo).map fun l=>(l,h):=rfl
theorem RS:(type_of% @zmd)∧(type_of% @zj7)∧(type_of% @z9n)∧(type_of% @yc5)∧(type_of% @z5c)∧(type_of% @ycl)∧(type_of% @z4i)∧(type_of% @zrb)∧(type_of% @z9k)∧(type_of% @zb8)∧(type_of% @zti)∧(type_of% @zqc)∧(type_of% @ztl)∧(type_of% @zqe)∧(type_of% @zqd)∧(type_of% @ztj)∧(type_of% @ztk)∧(type_of% @zxt)∧(type_of% @zxu)∧(type_of% @zkc)∧(type_of% @z8x)∧(type_of% @z24)∧(type_of% @z80)∧(type_of% @z27)∧(type_of% @z26)∧(type_of% @z8y)∧(type_of% @z8z)∧(type_of% @ycp)∧(type_of% @ycq)∧(type_of% @z25)∧(type_of% @z82)∧(type_of% @z28)∧(type_of% @z85)∧(type_of% @z81)∧(type_of% @z29)∧(type_of% @z83)∧(type_of% @z84)∧(type_of% @ycr)∧(type_of% @zux)∧(type_of% @zq4)∧(type_of% @z9o)∧(type_of% @zve)∧(type_of% @zgy)∧(type_of% @zys)∧(type_of% @zyt)∧(type_of% @zyu)∧(type_of% @zyv)∧(type_of% @zq2):=⟨@zmd,@zj7,@z9n,@yc5,@z5c,@ycl,@z4i,@zrb,@z9k,@zb8,@zti,@zqc,@ztl,@zqe,@zqd,@ztj,@ztk,@zxt,@zxu,@zkc,@z8x,@z24,@z80,@z27,@z26,@z8y,@z8z,@ycp,@ycq,@z25,@z82,@z28,@z85,@z81,@z29,@z83,@z84,@ycr,@zux,@zq4,@z9o,@zve,@zgy,@zys,@zyt,@zyu,@zyv,@zq2⟩
abbrev eB (b:UInt8):PV := .int .u8 b.toNat
theorem z9p {α:Type} {f:α→PV} {l:List α}:(l.map f).take l.length=l.map f:=by
 rw [← List.length_map f,List.take_length]
theorem zp5 {α:Type} {f:α→PV} {l:List α} {n:Nat} (h:l.length≤n):(l.map f).take n=l.map f:=qT (by simpa using h)
theorem z3k {a b:Nat} (h:a≤b):(a≤b)=True:=eq_true h
theorem zuh:maxLen=9223372036854775807:=rfl
theorem ydb {n a:Nat}:IntKind.u8.wrap ((n:Int)+(a:Int))=((UInt8.ofNat (n+a)).toNat:Int):=by
 have:((n:Int)+(a:Int))=((n+a:Nat):Int):=by omega
 rw [this]
 simp [IntKind.wrap,IntKind.bits,IntKind.signed,UInt8.toNat_ofNat']
theorem yb0 {a:Nat}:IntKind.u8.wrap (97+(a:Int))=((UInt8.ofNat (97+a)).toNat:Int):=ydb (n:=97)
theorem zd2 {i:Nat}:((i:Int) - 1).toNat=i - 1:=by omega
theorem zbc {α:Type} {l:List α} {i:Nat} {a:α} (h:l[i]?=some a):i<l.length:=(List.getElem?_eq_some_iff.1 h).1
theorem zd9 {S:Store} {im:Bool} {k o ver et sz n:Nat} {cells ts:List PV} (h:S.obs[o]?=some (.arr ver et sz cells)) (hl:cells.length=n*sz) (hm:cells.mapM (reify S im k)=some ts) :
  reify S im (k+1) (.loc o ver 0 n)=some (.sl ts n):=by
 simp only[reify,h,Nat.zero_add,hl,qR,and_self,if_true,List.drop_zero]
 rw [← hl,List.take_length,hm]; rfl
theorem zbq {f:PV→Option PV}:∀ {l:List PV},(∀ x∈l,f x=some x)→l.mapM f=some l
 | [],_=>rfl
 | x::l,h=>by rw [qC,h x (by simp),zbq (l:=l) fun y hy=>h y (by simp [hy])]; rfl
theorem zr6 {S:Store} {im:Bool} {k:Nat} (l:List (List UInt8)):(l.map PV.str).mapM (reify S im (k+1))=some (l.map PV.str) :=
 zbq fun x hx=>by obtain ⟨a,_,rfl⟩:=List.mem_map.1 hx; rfl
theorem z7b {S:Store} {im:Bool} {k:Nat} {q:IntKind} (l:List Int):(l.map (PV.int q)).mapM (reify S im (k+1))=some (l.map (PV.int q)) :=
 zbq fun x hx=>by obtain ⟨a,_,rfl⟩:=List.mem_map.1 hx; rfl
theorem zn5 (l:List UInt8):zfm (l.map fun b=>PV.int .u8 b.toNat)=some l:=by
 induction l with
 | nil=>rfl
 | cons a l ih=>simp only[List.map_cons,zfm,ih]; simp
section
def rfz (S:Store) (lo:Nat):Nat→PV→Option PV
 | 0,_=>none
 | k+1,p =>
  match p with
  | .int a b=>some (.int a b)
  | .bool b=>some (.bool b)
  | .str s=>some (.str s)
  | .nilp=>some .nilp
  | .nilf=>some .nilf
  | .yl l=>some (.yl l)
  | .nilm=>some .nilm
  | .nils=>some .nils
  | .agg cs=>(cs.mapM (rfz S lo k)).map .agg
  | .tup cs=>(cs.mapM (rfz S lo k)).map .tup
  | .fn f cs=>(cs.mapM (rfz S lo k)).map (.fn f)
  | .sl cs n=>some (.sl cs n)
  | .ip cs off=>some (.ip cs off)
  | .bm f b=>some (.bm f b)
  | .loc o ver off n =>
   match S.obs[o]? with
   | some (.arr v _ sz cells)=>if lo≤o∧v=ver∧off+n*sz≤cells.length then (((cells.drop off).take (n*sz)).mapM (rfz S lo k)).map (.sl · n) else none
   | _=>none
  | .ref o ver off=>if lo≤o then (S.cellsOf o ver).bind fun cells=>(cells.mapM (rfz S lo k)).map (.ip · off) else none
  | _=>none
section
variable {P:Program} {T:Tab} {F:Nat→Prop} {G:GSt} {w:World} {e:Env} {a:Act}
def zm6 (F:Nat→Prop) (G:GSt) (lo:Nat) (b:Nat):Prop:=F b∨∃ (o:Nat) (x:Ob × Lc),lo≤o∧G.obs[o]?=some x∧x.2.blk=b
theorem znv {S:Store} {lo:Nat}:∀ {k:Nat} {p t:PV},rfz S lo k p=some t→p.isCell=true→t.isCell=true
 | 0,p,t,h,_=>by simp [rfz]at h
 | k+1,p,t,h,hp=>by
  cases p <;> simp only[rfz]at h <;> first
   | (cases h; rfl)
   | (simp [PV.isCell]at hp; done)
   | (cases h; done)
   | (split at h <;> first | (cases h; rfl) | (cases h; done) | (split at h <;> first | (cases h; done) | (rw [qI]at h; obtain ⟨_,_,rfl⟩:=h; rfl)))
   | (rw [qI]at h; obtain ⟨_,_,rfl⟩:=h; rfl)
   | (split at h <;> first | (cases h; done) | (rw [Option.bind_eq_some_iff]at h; obtain ⟨_,_,h⟩:=h; rw [qI]at h; obtain ⟨_,_,rfl⟩:=h; rfl))
theorem zk7 (hi:Inv F G w) {lo:Nat}:∀ {k:Nat} {p t:PV} {cv:Value},VR w.heap F G p cv→rfz G.er lo k p=some t→VI w.heap (zm6 F G lo) t cv
 | 0,p,t,cv,_,h=>by simp [rfz]at h
 | k+1,p,t,cv,hv,h=>by
  have cellsVI:∀ {b off:Nat} {cs ts:List PV},zcp w.heap F G b off cs→cs.mapM (rfz G.er lo k)=some ts →
    ∃ g:Nat→Value,(∀ (i:Nat) p,ts[i]?=some p→p.isCell=true∧zgl w.heap b (off+i)=some (g i))∧∀ (i:Nat) p,ts[i]?=some p→VI w.heap (zm6 F G lo) p (g i):=by
   intro b off cs ts hc hm
   obtain ⟨h1,h2⟩:=zbs _ _ hm
   refine ⟨fun i=>(zgl w.heap b (off+i)).getD undef,fun i p hp=>?_,fun i p hp=>?_⟩
   ·obtain ⟨x,h3,h4⟩:=h2 i p hp
    obtain ⟨h5,v,h6,h7⟩:=hc i x h3
    exact ⟨znv h4 h5,by simp [h6]⟩
   obtain ⟨x,h3,h4⟩:=h2 i p hp
   obtain ⟨h5,v,h6,h7⟩:=hc i x h3
   simp only[h6]
   exact zk7 hi h7 h4
  have rowVI:∀ {cs ts:List PV} {vs:Array Value},cs.length=vs.size→(∀ (i:Nat) p v,cs[i]?=some p→vs[i]?=some v→VR w.heap F G p v)→cs.mapM (rfz G.er lo k)=some ts →
    ts.length=vs.size∧∀ (i:Nat) p v,ts[i]?=some p→vs[i]?=some v→VI w.heap (zm6 F G lo) p v:=by
   intro cs ts vs hl hp hm
   obtain ⟨h1,h2⟩:=zbs _ _ hm
   refine ⟨by omega,fun i p v q1 q2=>?_⟩
   obtain ⟨x,h3,h4⟩:=h2 i p q1
   exact zk7 hi (hp i x v h3 q2) h4
  cases p with
  | int q n=>simp only[rfz]at h; cases h; rw [hv.int]; exact .int _ _
  | bool b=>simp only[rfz]at h; cases h; rw [hv.bool]; exact .bool _
  | str s=>simp only[rfz]at h; cases h; obtain ⟨b,rfl,hb⟩:=hv.str; exact .str _ _ hb
  | nilp=>simp only[rfz]at h; cases h; cases hv with | imm _ _ hv=>cases hv; exact .nilp
  | nilf=>simp only[rfz]at h; cases h; cases hv with | imm _ _ hv=>cases hv; exact .nilf
  | yl l=>simp only[rfz]at h; cases h; cases hv with | imm _ _ hv=>cases hv; exact .yl _
  | nilm=>simp only[rfz]at h; cases h; cases hv with | imm _ _ hv=>cases hv; exact .nilm
  | nils=>simp only[rfz]at h; cases h; cases hv with | imm _ _ hv=>cases hv; exact .nils
  | agg cs =>
   simp only[rfz]at h
   rw [qI]at h
   obtain ⟨ts,h1,rfl⟩:=h
   obtain ⟨vs,rfl,h2,h3⟩:=hv.agg'
   obtain ⟨h4,h5⟩:=rowVI h2 h3 h1
   exact .agg _ _ h4 h5
  | tup cs =>
   simp only[rfz]at h
   rw [qI]at h
   obtain ⟨ts,h1,rfl⟩:=h
   obtain ⟨vs,rfl,h2,h3⟩:=hv.tup'
   obtain ⟨h4,h5⟩:=rowVI h2 h3 h1
   exact .tup _ _ h4 h5
  | fn f cs =>
   simp only[rfz]at h
   rw [qI]at h
   obtain ⟨ts,h1,rfl⟩:=h
   have:∃ vs:Array Value,cv = .func (.func f) #[] vs∧cs.length=vs.size∧∀ (i:Nat) p v,cs[i]?=some p→vs[i]?=some v→VR w.heap F G p v:=by
    cases hv with
    | imm _ _ hv=>cases hv with | fn _ _ vs h2 h3=>exact ⟨vs,rfl,h2,fun i p v a b => .imm _ _ (h3 i p v a b)⟩
    | fn _ _ vs h2 h3=>exact ⟨vs,rfl,h2,h3⟩
   obtain ⟨vs,rfl,h2,h3⟩:=this
   obtain ⟨h4,h5⟩:=rowVI h2 h3 h1
   exact .fn _ _ _ h4 h5
  | sl cs n =>
   simp only[rfz]at h
   cases h
   cases hv with
   | imm _ _ hv=>exact hv.mono (fun b hb => .inl hb) (fun _ _=>rfl)
  | ip cs off =>
   simp only[rfz]at h
   cases h
   cases hv with
   | imm _ _ hv=>exact hv.mono (fun b hb => .inl hb) (fun _ _=>rfl)
  | bm f b =>
   simp only[rfz]at h
   cases h
   cases hv with
   | imm _ _ hv=>exact hv.mono (fun b hb => .inl hb) (fun _ _=>rfl)
  | loc o ver off n =>
   simp only[rfz]at h
   split at h
   ·rename_i v et sz cells hob
    split at h
    ·rename_i hc
     obtain ⟨hlo,rfl,hle⟩:=hc
     rw [qI]at h
     obtain ⟨ts,h1,rfl⟩:=h
     obtain ⟨_,_,l,cap,ho,rfl,_,hn,_⟩:=hv.loc_at hi (cells:=cells) (by simp [Store.cellsOf,hob])
     obtain ⟨l',hG⟩:=zfb hob
     rw [hG]at ho
     cases ho
     have hc2:zcp w.heap F G l.blk off ((cells.drop off).take (n*sz)):=by
      have:=((hi.cellsAt hG).drop off).take (n*sz)
      rwa [Nat.zero_add]at this
     obtain ⟨g,g1,g2⟩:=cellsVI hc2 h1
     exact .sl _ _ _ _ _ g (fun _ => .inr ⟨o,_,hlo,hG,rfl⟩) hn g1 g2
    cases h
   cases h
  | ref o ver off =>
   simp only[rfz]at h
   split at h
   case isFalse=>cases h
   rename_i hlo
   rw [Option.bind_eq_some_iff]at h
   obtain ⟨cells,hc,h⟩:=h
   rw [qI]at h
   obtain ⟨ts,h1,rfl⟩:=h
   obtain ⟨et,sz,l,hG,rfl,_⟩:=hv.ref_at hi hc
   obtain ⟨g,g1,g2⟩:=cellsVI (hi.cellsAt hG) h1
   have:=VI.ip (F:=zm6 F G lo) ts off l.blk 0 g (fun _ => .inr ⟨o,_,hlo,hG,rfl⟩) g1 g2
   rwa [Nat.zero_add]at this
  | mp o ver=>simp only[rfz]at h; cases h
  | undef=>simp only[rfz]at h; cases h
def frz (S:Store) (lo:Nat):Nat→PV→Option PV
 | 0,_=>none
 | k+1,p =>
  match p with
  | .agg cs=>(cs.mapM (frz S lo k)).map .agg
  | .tup cs=>(cs.mapM (frz S lo k)).map .tup
  | .fn f cs=>(cs.mapM (frz S lo k)).map (.fn f)
  | .loc o ver off n=>if o<lo then some (.loc o ver off n) else rfz S lo 10 (.loc o ver off n)
  | .ref o ver off=>if o<lo then some (.ref o ver off) else rfz S lo 10 (.ref o ver off)
  | .mp o ver=>if o<lo then some (.mp o ver) else none
  | .undef=>some .undef
  | p=>rfz S lo 10 p
theorem zkj (hi:Inv F G w) {lo:Nat} {F':Nat→Prop} {G':GSt} (hF:∀ b,zm6 F G lo b→F' b) (hn:Next F G w F' G' w):∀ {k:Nat} {p t:PV} {cv:Value},VR w.heap F G p cv→frz G.er lo k p=some t→VR w.heap F' G' t cv
 | 0,p,t,cv,_,h=>by simp [frz]at h
 | k+1,p,t,cv,hv,h=>by
  have rowVR:∀ {cs ts:List PV} {vs:Array Value},cs.length=vs.size→(∀ (i:Nat) p v,cs[i]?=some p→vs[i]?=some v→VR w.heap F G p v)→cs.mapM (frz G.er lo k)=some ts →
    ts.length=vs.size∧∀ (i:Nat) p v,ts[i]?=some p→vs[i]?=some v→VR w.heap F' G' p v:=by
   intro cs ts vs hl hp hm
   obtain ⟨h1,h2⟩:=zbs _ _ hm
   refine ⟨by omega,fun i p v q1 q2=>?_⟩
   obtain ⟨x,h3,h4⟩:=h2 i p q1
   exact zkj hi hF hn (hp i x v h3 q2) h4
  have data:∀ {p:PV},VR w.heap F G p cv→rfz G.er lo 10 p=some t→VR w.heap F' G' t cv:=fun hv h => .imm _ _ ((zk7 hi hv h).mono hF fun _ _=>rfl)
  cases p with
  | agg cs =>
   simp only[frz]at h
   rw [qI]at h
   obtain ⟨ts,h1,rfl⟩:=h
   obtain ⟨vs,rfl,h2,h3⟩:=hv.agg'
   obtain ⟨h4,h5⟩:=rowVR h2 h3 h1
   exact .agg _ _ h4 h5
  | tup cs =>
   simp only[frz]at h
   rw [qI]at h
   obtain ⟨ts,h1,rfl⟩:=h
   obtain ⟨vs,rfl,h2,h3⟩:=hv.tup'
   obtain ⟨h4,h5⟩:=rowVR h2 h3 h1
   exact .tup _ _ h4 h5
  | fn f cs =>
   simp only[frz]at h
   rw [qI]at h
   obtain ⟨ts,h1,rfl⟩:=h
   have:∃ vs:Array Value,cv = .func (.func f) #[] vs∧cs.length=vs.size∧∀ (i:Nat) p v,cs[i]?=some p→vs[i]?=some v→VR w.heap F G p v:=by
    cases hv with
    | imm _ _ hv=>cases hv with | fn _ _ vs h2 h3=>exact ⟨vs,rfl,h2,fun i p v a b => .imm _ _ (h3 i p v a b)⟩
    | fn _ _ vs h2 h3=>exact ⟨vs,rfl,h2,h3⟩
   obtain ⟨vs,rfl,h2,h3⟩:=this
   obtain ⟨h4,h5⟩:=rowVR h2 h3 h1
   exact .fn _ _ _ h4 h5
  | loc o ver off n =>
   simp only[frz]at h
   split at h
   ·cases h; exact hv.next hi hn
   exact data hv h
  | ref o ver off =>
   simp only[frz]at h
   split at h
   ·cases h; exact hv.next hi hn
   exact data hv h
  | mp o ver =>
   simp only[frz]at h
   split at h
   ·cases h; exact hv.next hi hn
   cases h
  | undef=>simp only[frz]at h; cases h; exact .imm _ _ (.undef _)
  | _=>simp only[frz]at h; exact data hv h
theorem z6y {S:Store} {lo:Nat}:∀ {k:Nat} {p t:PV},frz S lo k p=some t→p.isCell=true→t.isCell=true
 | 0,p,t,h,_=>by simp [frz]at h
 | k+1,p,t,h,hp=>by
  cases p with
  | agg cs=>simp [PV.isCell]at hp
  | tup cs=>simp [PV.isCell]at hp
  | undef=>simp [PV.isCell]at hp
  | fn f cs=>simp only[frz]at h; rw [qI]at h; obtain ⟨_,_,rfl⟩:=h; rfl
  | loc o ver off n=>simp only[frz]at h; split at h; (· cases h; rfl); exact znv h hp
  | ref o ver off=>simp only[frz]at h; split at h; (· cases h; rfl); exact znv h hp
  | mp o ver=>simp only[frz]at h; split at h; (· cases h; rfl); cases h
  | _=>simp only[frz]at h; exact znv h hp
def ze6 (S:Store) (lo:Nat):Ob→Option Ob
 | .arr ver et sz cells=>(cells.mapM (frz S lo 10)).map (.arr ver et sz ·)
 | .map ver es=>(es.mapM fun q=>(frz S lo 10 q.1).bind fun a=>(frz S lo 10 q.2).map fun b=>(a,b)).map (.map ver ·)
 | .lp ver l r tmps=>(tmps.mapM (frz S lo 10)).map (.lp ver l r ·)
def zf9 (S:Store) (lo:Nat):List Ob→Option (List Ob)
 | []=>some []
 | o::r=>(ze6 S lo o).bind fun a=>(zf9 S lo r).map (a :: ·)
def Store.frz (S:Store) (lo:Nat):Option Store:=(zf9 S lo (S.obs.take lo)).map (⟨·,S.tick⟩)
theorem zqs {S:Store} {lo:Nat}:∀ {l l':List Ob},zf9 S lo l=some l'→l.length=l'.length∧∀ (i:Nat) ob',l'[i]?=some ob'→∃ ob,l[i]?=some ob∧ze6 S lo ob=some ob'
 | [],l',h=>by simp [zf9]at h; subst h; simp
 | o::l,l',h=>by
  simp only[zf9]at h
  rw [Option.bind_eq_some_iff]at h
  obtain ⟨a,h1,h⟩:=h
  rw [qI]at h
  obtain ⟨r,h2,rfl⟩:=h
  obtain ⟨h3,h4⟩:=zqs h2
  refine ⟨by simp [h3],?_⟩
  rintro (_ | i) ob' hi
  ·simp at hi; subst hi; exact ⟨o,rfl,h1⟩
  simp at hi; obtain ⟨ob,h5,h6⟩:=h4 i ob' hi; exact ⟨ob,by simpa using h5,h6⟩
theorem zlt {S:Store} {lo:Nat} {ob ob':Ob} (h:ze6 S lo ob=some ob'):ob.ver=ob'.ver∧ob.like ob':=by
 cases ob with
 | arr v et sz cells=>simp only[ze6]at h; rw [qI]at h; obtain ⟨_,_,rfl⟩:=h; simp [Ob.ver,Ob.like]
 | map v es=>simp only[ze6]at h; rw [qI]at h; obtain ⟨_,_,rfl⟩:=h; simp [Ob.ver,Ob.like]
 | lp _ _ _ _=>simp only[ze6]at h; rw [qI]at h; obtain ⟨_,_,rfl⟩:=h; simp [Ob.ver,Ob.like]
theorem zkp {f:PV × PV→Option (PV × PV)}:∀ (xs ys:List (PV × PV)),xs.mapM f=some ys→xs.length=ys.length∧∀ (i:Nat) y,ys[i]?=some y→∃ x,xs[i]?=some x∧f x=some y
 | [],ys,h=>by simp at h; subst h; simp
 | x::xs,ys,h=>by
  rw [qC]at h
  cases hx:f x with
  | none=>simp [hx]at h
  | some y =>
   cases hr:xs.mapM f with
   | none=>simp [hx,hr]at h
   | some ys' =>
    simp [hx,hr]at h
    subst h
    obtain ⟨h1,h2⟩:=zkp xs ys' hr
    refine ⟨by simp [h1],?_⟩
    rintro (_ | i) z hz
    ·simp at hz; subst hz; exact ⟨x,rfl,hx⟩
    simp at hz; obtain ⟨u,h3,h4⟩:=h2 i z hz; exact ⟨u,by simpa using h3,h4⟩
theorem zye (hi:Inv F G w) {lo:Nat} {S':Store} (h:G.er.frz lo=some S'):∃ G',G'.er=S'∧Inv (zm6 F G lo) G' w∧Next F G w (zm6 F G lo) G' w:=by
 unfold Store.frz at h
 rw [qI]at h
 obtain ⟨obs',h1,rfl⟩:=h
 obtain ⟨h2,h3⟩:=zqs h1
 let G':GSt:=⟨List.zipWith (fun ob (x:Ob × Lc)=>(ob,x.2)) obs' (G.obs.take lo),G.tick⟩
 have hlen:obs'.length=(G.obs.take lo).length:=by rw [← h2]; simp [GSt.er]
 have her:G'.er=⟨obs',G.er.tick⟩:=by
  simp only[GSt.er,G',Store.mk.injEq,and_true]
  apply List.ext_getElem
  ·simp [hlen]
  intro i a b; simp
 have hget:∀ (o:Nat) ob' l,G'.obs[o]?=some (ob',l)→o<lo∧∃ ob,G.obs[o]?=some (ob,l)∧ze6 G.er lo ob=some ob':=by
  intro o ob' l ho
  simp only[G',List.getElem?_zipWith]at ho
  cases ha:obs'[o]? with
  | none=>rw [ha]at ho; simp at ho
  | some a =>
   cases hb:(G.obs.take lo)[o]? with
   | none=>rw [ha,hb]at ho; simp at ho
   | some x =>
    rw [ha,hb]at ho
    simp at ho
    obtain ⟨rfl,rfl⟩:=ho
    obtain ⟨ob,k1,k2⟩:=h3 o a ha
    rw [List.getElem?_take]at hb
    split at hb
    ·rename_i hlt
     refine ⟨hlt,ob,?_,k2⟩
     have:(G.er.obs.take lo)[o]?=some x.1:=by
      rw [List.getElem?_take,if_pos hlt]; simp [GSt.er,hb]
     rw [this]at k1
     cases k1
     exact hb
    cases hb
 have hn:Next F G w (zm6 F G lo) G' w:=by
  refine ⟨rfl,rfl,rfl,qR _,fun b hb => .inl hb,?_,?_,qR _,fun _ _ _=>rfl,?_,qR _⟩
  ·rintro b (hb | ⟨o,x,_,hx,rfl⟩)
   ·exact .inl hb
   exact .inr (.inr ⟨o,x,hx,rfl⟩)
  ·rintro o ⟨ob',l⟩ hx
   obtain ⟨_,ob,k1,_⟩:=hget o ob' l hx
   exact .inr ⟨o,_,k1,rfl⟩
  intro o ob' l hx _
  obtain ⟨_,ob,k1,k2⟩:=hget o ob' l hx
  exact ⟨ob,k1,(zlt k2).1,(zlt k2).2⟩
 have hsound:∀ {k:Nat} {p t:PV} {cv:Value},VR w.heap F G p cv→frz G.er lo k p=some t→VR w.heap (zm6 F G lo) G' t cv:=fun hv h=>zkj hi (fun _ h=>h) hn hv h
 refine ⟨G',her,⟨?_,?_,?_,?_,?_,?_,?_⟩,hn⟩
 ·rintro b (hb | ⟨o,x,_,hx,rfl⟩)
  ·exact hi.fr b hb
  exact hi.blk_lt hx
 ·intro o ob' l hx
  obtain ⟨_,ob,k1,k2⟩:=hget o ob' l hx
  have:=hi.ver o ob l k1
  rw [(zlt k2).1]at this
  exact this
 ·intro o ob' l hx hb
  obtain ⟨hlt,ob,k1,k2⟩:=hget o ob' l hx
  rcases hb with hb | ⟨o',x,hlo,hx',e⟩
  ·exact hi.nF o ob l k1 hb
  have:=hi.inj o' o _ _ hx' k1 e
  omega
 ·intro o ver et sz cells l hx
  obtain ⟨_,ob,k1,k2⟩:=hget o _ l hx
  cases ob with
  | map v es=>simp only[ze6]at k2; rw [qI]at k2; obtain ⟨_,_,k3⟩:=k2; cases k3
  | lp _ _ _ _=>simp only[ze6]at k2; rw [qI]at k2; obtain ⟨_,_,k3⟩:=k2; cases k3
  | arr v et2 sz2 cells2 =>
   simp only[ze6]at k2
   rw [qI]at k2
   obtain ⟨cs',k3,k4⟩:=k2
   cases k4
   obtain ⟨m1,m2⟩:=zbs _ _ k3
   obtain ⟨cs,q1,q2,q3,q4⟩:=hi.arr o _ _ _ _ l k1
   refine ⟨cs,q1,q2,by omega,fun i p hp=>?_⟩
   obtain ⟨x,x1,x2⟩:=m2 i p hp
   obtain ⟨c1,v1,v2,v3⟩:=q4 i x x1
   exact ⟨z6y x2 c1,v1,v2,hsound v3 x2⟩
 ·intro o ver es l hx
  obtain ⟨_,ob,k1,k2⟩:=hget o _ l hx
  cases ob with
  | arr v et2 sz2 cells2=>simp only[ze6]at k2; rw [qI]at k2; obtain ⟨_,_,k3⟩:=k2; cases k3
  | lp _ _ _ _=>simp only[ze6]at k2; rw [qI]at k2; obtain ⟨_,_,k3⟩:=k2; cases k3
  | map v es2 =>
   simp only[ze6]at k2
   rw [qI]at k2
   obtain ⟨es',k3,k4⟩:=k2
   cases k4
   obtain ⟨m1,m2⟩:=zkp _ _ k3
   obtain ⟨ents,clock,q1,q2,q3⟩:=hi.map o _ _ l k1
   refine ⟨ents,clock,q1,by omega,fun i k v hp=>?_⟩
   obtain ⟨x,x1,x2⟩:=m2 i (k,v) hp
   obtain ⟨en,e1,e2,e3⟩:=q3 i x.1 x.2 x1
   rw [Option.bind_eq_some_iff]at x2
   obtain ⟨a,y1,y2⟩:=x2
   rw [qI]at y2
   obtain ⟨b,y3,y4⟩:=y2
   cases y4
   exact ⟨en,e1,hsound e2 y1,hsound e3 y3⟩
 ·rintro o o' ⟨ob,l⟩ ⟨ob',l'⟩ hx hx' e
  obtain ⟨_,a,k1,_⟩:=hget o _ _ hx
  obtain ⟨_,a',k1',_⟩:=hget o' _ _ hx'
  exact hi.inj o o' _ _ k1 k1' e
 intro o ver b r tmps l hx
 obtain ⟨_,ob,k1,k2⟩:=hget o _ l hx
 cases ob with
 | arr v et2 sz2 cells2=>simp only[ze6]at k2; rw [qI]at k2; obtain ⟨_,_,k3⟩:=k2; cases k3
 | map v es=>simp only[ze6]at k2; rw [qI]at k2; obtain ⟨_,_,k3⟩:=k2; cases k3
 | lp v b2 r2 tmps2 =>
  simp only[ze6]at k2
  rw [qI]at k2
  obtain ⟨cs',k3,k4⟩:=k2
  cases k4
  obtain ⟨m1,m2⟩:=zbs _ _ k3
  obtain ⟨q0,t,q1,q2,q3⟩:=hi.lp o _ _ _ _ l k1
  refine ⟨q0,t,q1,⟨q2.1,by omega⟩,fun i p v hp hv=>?_⟩
  obtain ⟨x,x1,x2⟩:=m2 i p hp
  exact hsound (q3 i x v x1 hv) x2
variable {Q:Exit→Env→Store→Prop} {S:Store} {a b c:Code}
def z1q (L:List Nat) (I:List PV→Store→Prop) (e:Env) (S:Store):Prop :=
 ∃ lo vs S',(L.map e).mapM (frz S lo 10)=some vs∧S.frz lo=some S'∧I vs S'
theorem zsf {H:Array Obj} {F:Nat→Prop} {G:GSt} {a:Act}:∀ (L:List Nat) (vs:List PV),L.length=vs.length→(∀ (i t:Nat) v,L[i]?=some t→vs[i]?=some v→VR H F G v (a.tmps.getD t undef))→zem H F G (Env.of L vs) a
 | [],_,_,_,t => .imm _ _ (.undef _)
 | x::L,[],h,_,t=>by simp at h
 | x::L,v::vs,hl,h,t=>by
  simp only[Env.of]
  split
  ·rename_i e; rw [e]; exact h 0 x v rfl rfl
  exact zsf L vs (by simpa using hl) (fun i t v q1 q2=>h (i+1) t v (by simpa using q1) (by simpa using q2)) t
theorem zqr (hi:Inv F G w) {e:Env} {act:Act} (he:zem w.heap F G e act) {L:List Nat} {I:List PV→Store→Prop} (h:z1q L I e G.er) :
  ∃ vs F' G',I vs G'.er∧vs.length=L.length∧Inv F' G' w∧Next F G w F' G' w∧zem w.heap F' G' (Env.of L vs) act:=by
 obtain ⟨lo,vs,S',h1,h2,h3⟩:=h
 obtain ⟨G',rfl,k2,k3⟩:=zye hi h2
 obtain ⟨m1,m2⟩:=zbs _ _ h1
 refine ⟨vs,_,G',h3,by rw [← m1]; simp,k2,k3,zsf L vs (by rw [← m1]; simp) fun i t v q1 q2=>?_⟩
 obtain ⟨x,x1,x2⟩:=m2 i v q2
 rw [List.getElem?_map,q1]at x1
 cases x1
 exact zkj hi (fun _ h=>h) k3 (he t) x2
theorem W.foldZ (L:List Nat) {I:List PV→Store→Prop} (hI:z1q L I e S) (h:∀ vs S,vs.length=L.length→I vs S→W P T c Q (Env.of L vs) S):W P T c Q e S:=by
 refine ⟨?_⟩
 intro hT hm F0 G0 w0 N F G a w h3 h4 h5 h6 h7 h8 h9 R nn
 subst h3
 obtain ⟨vs,F',G',k1,k2,k3,k4,k5⟩:=zqr h4 h5 hI
 exact (h vs _ k2 k1).run hT hm F0 G0 w0 N F' G' a w rfl k3 k5 (h6.trans k4) h7 h8 h9
theorem W.joinZ (L:List Nat) (I:List PV→Store→Prop) (h:W P T a (XThen (z1q L I) Q) e S) (k:∀ vs S,vs.length=L.length→I vs S→W P T b Q (Env.of L vs) S):W P T (.seq a b) Q e S:=by
 refine W.seq (h.mono ?_)
 intro x e S hx
 cases x with
 | normal=>exact W.foldZ L hx k
 | _=>exact hx
theorem W.loopZ (L:List Nat) (I:Nat→List PV→Store→Prop) (n:Nat) (h0:z1q L (I n) e S)
  (h:∀ n vs S,vs.length=L.length→I n vs S→W P T c (XThen (fun e S=>∃ m,m<n∧z1q L (I m) e S) Q) (Env.of L vs) S):W P T (.loop c) Q e S:=by
 refine W.foldZ L h0 fun vs S hl hI=>?_
 refine ⟨?_⟩
 intro hT hm F0 G0 w0 N F G a w h3 h4 h5 h6 h7 h8 h9 R nn
 refine wpIn_loop_rounds (n+1) ?_
 clear h0
 induction n using Nat.strongRecOn generalizing vs S F G a w with
 | _ n ih =>
  refine wpIn_mono ((h n vs S hl hI).run hT hm F0 G0 w0 N F G a w h3 h4 h5 h6 h7 h8 (by simpa [zfn] using h9)) ?_
  rintro x a' w' ⟨e',F',G',k1,k2,k3,k4,k5,k6⟩
  cases x with
  | normal =>
   obtain ⟨m,hmn,hk⟩:=k1
   obtain ⟨vs',F2,G2,q1,q2,q3,q4,q5⟩:=zqr k2 k3 hk
   exact zjz (by omega) _ _ (ih m hmn vs' _ q2 q1 F2 G2 a' w' rfl q3 q5 (k4.trans q4) k5 k6)
  | _=>exact ⟨e',F',G',k1,k2,k3,k4,k5,k6⟩
theorem zjm {S:Store} {lo k:Nat} {q:IntKind} {n:Int}:frz S lo (k+1) (.int q n)=some (.int q n):=rfl
theorem zg6 {S:Store} {lo k:Nat} {b:Bool}:frz S lo (k+1) (.bool b)=some (.bool b):=rfl
theorem zhz {S:Store} {lo k:Nat} {b:List UInt8}:frz S lo (k+1) (.str b)=some (.str b):=rfl
theorem zok {S:Store} {lo k n:Nat} {cs:List PV}:frz S lo (k+1) (.sl cs n)=some (.sl cs n):=rfl
theorem zg8 {S:Store} {lo k:Nat}:frz S lo (k+1) .nilp=some .nilp:=rfl
theorem zhy {S:Store} {lo k o ver off n:Nat}:frz S lo (k+1) (.loc o ver off n)=if o<lo then some (.loc o ver off n) else rfz S lo 10 (.loc o ver off n):=rfl
theorem zfr {S:Store} {lo k o ver off:Nat}:frz S lo (k+1) (.ref o ver off)=if o<lo then some (.ref o ver off) else rfz S lo 10 (.ref o ver off):=rfl
theorem zc6 {S:Store} {lo k:Nat} {q:IntKind} {n:Int}:rfz S lo (k+1) (.int q n)=some (.int q n):=rfl
theorem zhe {S:Store} {lo k:Nat} {b:Bool}:rfz S lo (k+1) (.bool b)=some (.bool b):=rfl
theorem zjx {S:Store} {lo k:Nat} {b:List UInt8}:rfz S lo (k+1) (.str b)=some (.str b):=rfl
theorem zcy {S:Store} {lo k o ver off n:Nat}:rfz S lo (k+1) (.loc o ver off n)=(match S.obs[o]? with
  | some (.arr v _ sz cells)=>if lo≤o∧v=ver∧off+n*sz≤cells.length then (((cells.drop off).take (n*sz)).mapM (rfz S lo k)).map (.sl · n) else none
  | _=>none):=rfl
theorem zrz {α:Type} {f:α→PV} {S:Store} {lo k:Nat} (h:∀ a,frz S lo k (f a)=some (f a)) (l:List α):(l.map f).mapM (frz S lo k)=some (l.map f) :=
 zbq fun x hx=>by obtain ⟨a,_,rfl⟩:=List.mem_map.1 hx; exact h a
theorem zw3 {α:Type} {f:α→PV} {S:Store} {lo k:Nat} (h:∀ a,rfz S lo k (f a)=some (f a)) (l:List α):(l.map f).mapM (rfz S lo k)=some (l.map f) :=
 zbq fun x hx=>by obtain ⟨a,_,rfl⟩:=List.mem_map.1 hx; exact h a
theorem zfq {S:Store} {lo k:Nat} (l:List (List Int)):(l.map eInts).mapM (frz S lo (k+1))=some (l.map eInts):=zrz (fun _=>rfl) l
theorem zg9 {S:Store} {lo k:Nat} (l:List (List UInt8)):(l.map PV.str).mapM (frz S lo (k+1))=some (l.map PV.str):=zrz (fun _=>rfl) l
theorem zg7 {S:Store} {lo k:Nat} (l:List Int):(l.map (PV.int .i64)).mapM (frz S lo (k+1))=some (l.map (PV.int .i64)):=zrz (fun _=>rfl) l
theorem zfp {S:Store} {lo k:Nat} (l:List UInt8):(l.map eB).mapM (frz S lo (k+1))=some (l.map eB):=zrz (fun _=>rfl) l
theorem zgh {S:Store} {lo k:Nat} (l:List Int):(l.map (PV.int .i64)).mapM (rfz S lo (k+1))=some (l.map (PV.int .i64)):=zw3 (fun _=>rfl) l
theorem zfx {S:Store} {lo k:Nat} (l:List UInt8):(l.map eB).mapM (rfz S lo (k+1))=some (l.map eB):=zw3 (fun _=>rfl) l
theorem zax {f:PV→Option PV} {a b:PV} {l l':List PV} (h1:f a=some b) (h2:l.mapM f=some l'):(a::l).mapM f=some (b::l'):=by
 rw [qC,h1]; simp [h2]
end
section
variable {P:Program} {T:Tab} {Q:Exit→Env→Store→Prop} {e:Env} {S:Store} {b:Code}
def zep (o:Op):Bool:=zqw o && (match o with | .call ⟨.value _,_,_⟩=>false | _=>true)
def zb5:List Oper→Nat→List Nat
 | [],_=>[]
 | o::r,i=>if zep o.op then zb5 r (i+1) else i::zb5 r (i+1)
theorem zhx:∀ (l:List Oper) (k i:Nat) (o:Oper),l[i]?=some o→k+i ∉ zb5 l k→zep o.op=true
 | [],_,_,_,h,_=>by simp at h
 | o'::l,k,0,o,h,hn=>by
  simp at h; subst h
  unfold zb5 at hn
  split at hn
  ·assumption
  simp at hn
 | o'::l,k,i+1,o,h,hn=>by
  simp only[List.getElem?_cons_succ]at h
  refine zhx l (k+1) i o h fun hm=>hn ?_
  unfold zb5
  split
  ·rwa [show k+(i+1)=k+1+i by omega]
  rw [show k+(i+1)=k+1+i by omega]; exact List.mem_cons_of_mem _ hm
theorem znj {o:Op} {K:PV→Store→Prop} (hf:zep o=true) (h:sOp false P T e S o K):z7i P T S e o fun v=>K v S:=by
 refine zwl (by unfold zep at hf; simp only[qB]at hf; exact hf.1) ?_
 cases o with
 | call c =>
  obtain ⟨cal,xs,ts⟩:=c
  cases cal with
  | value f=>simp [zep]at hf
  | _=>exact h
 | _=>exact h
end
end
theorem b_mc {α β:Type} {f:α→β} {a:α} {l:List α}:(a::l).map f=f a::l.map f:=rfl
theorem b_mn {α β:Type} {f:α→β}:([]:List α).map f=[]:=rfl
theorem ycd {α:Type} [BEq α] [ReflBEq α] {a:α}:(a == a)=true:=beq_self_eq_true a
theorem yce:(false=true)=False:=by simp
theorem b_tn {n:Nat}:((n:Int)).toNat=n:=Int.toNat_natCast n
theorem b_gm {α β:Type} {f:α→β} {l:List α} {i:Nat}:(l.map f)[i]?=(l[i]?).map f:=List.getElem?_map
theorem b_os {α β:Type} {f:α→β} {a:α}:(some a).map f=some (f a):=rfl
theorem b_ob {α β:Type} {f:α→Option β} {a:α}:(some a).bind f=f a:=rfl
theorem b_g0 {α:Type} {a:α} {l:List α}:(a::l)[0]?=some a:=rfl
theorem b_gs {α:Type} {a:α} {l:List α} {i:Nat}:(a::l)[i+1]?=l[i]?:=by simp
theorem RH:(type_of% @b_mc)∧(type_of% @b_mn)∧(type_of% @ycd)∧(type_of% yce)∧(type_of% @b_tn)∧(type_of% @Nat.mul_one)∧(type_of% @b_gm)∧(type_of% @b_os)∧(type_of% @b_ob)∧(type_of% @b_g0)∧(type_of% @b_gs) :=
 ⟨@b_mc,@b_mn,@ycd,yce,@b_tn,@Nat.mul_one,@b_gm,@b_os,@b_ob,@b_g0,@b_gs⟩
theorem b_ca {α:Type} {a:α} {l m:List α}:(a::l)++m=a::(l++m):=rfl
theorem b_na {α:Type} {m:List α}:([]:List α)++m=m:=rfl
theorem b_lc {α:Type} {a:α} {l:List α}:(a::l).length=l.length+1:=rfl
theorem b_ln {α:Type}:([]:List α).length=0:=rfl
theorem b_s0 {α:Type} {a b:α} {l:List α}:(a::l).set 0 b=b::l:=rfl
theorem b_ss {α:Type} {a b:α} {l:List α} {n:Nat}:(a::l).set (n+1) b=a::l.set n b:=rfl
theorem b_d0 {α:Type} {l:List α}:l.drop 0=l:=rfl
theorem b_t0 {α:Type} {l:List α}:l.take 0=[]:=List.take_zero
theorem b_ts {α:Type} {a:α} {l:List α} {n:Nat}:(a::l).take (n+1)=a::l.take n:=rfl
theorem b_ds {α:Type} {a:α} {l:List α} {n:Nat}:(a::l).drop (n+1)=l.drop n:=rfl
theorem b_dn {α:Type} {n:Nat}:([]:List α).drop n=[]:=List.drop_nil
theorem ycf {α:Type} {n:Nat}:([]:List α).take n=[]:=List.take_nil
theorem b_lm {α β:Type} {f:α→β} {l:List α}:(l.map f).length=l.length:=List.length_map f
theorem b_nt:(¬ False)=True:=not_false_eq_true
theorem ydk {α:Type} {a b:α}:(a≠b)=¬ (a=b):=rfl
theorem RG:(type_of% @b_ca)∧(type_of% @b_na)∧(type_of% @b_lc)∧(type_of% @b_ln)∧(type_of% @b_s0)∧(type_of% @b_ss)∧(type_of% @b_d0)∧(type_of% @b_t0)∧(type_of% @b_ts)∧(type_of% @b_ds)∧(type_of% @b_dn)∧(type_of% @ycf)∧(type_of% Nat.zero_add)∧(type_of% Nat.add_zero)∧(type_of% true_and)∧(type_of% and_true)∧(type_of% @b_lm)∧(type_of% @ydk)∧(type_of% b_nt)∧(type_of% @z9p)∧(type_of% @zp5)∧(type_of% @z3k)∧(type_of% zuh)∧(type_of% @zn5) :=
 ⟨@b_ca,@b_na,@b_lc,@b_ln,@b_s0,@b_ss,@b_d0,@b_t0,@b_ts,@b_ds,@b_dn,@ycf,Nat.zero_add,Nat.add_zero,true_and,and_true,@b_lm,@ydk,b_nt,@z9p,@zp5,@z3k,zuh,@zn5⟩
theorem z8q {α:Type} [BEq α] [LawfulBEq α] {a b:α}:((a == b)=true)=(a=b):=propext beq_iff_eq
theorem z8p {α:Type} [BEq α] [LawfulBEq α] {a b:α}:((a == b)=false)=¬ (a=b):=propext beq_eq_false_iff_ne
theorem z8s {α:Type} [BEq α] [LawfulBEq α] {a b:α}:((a != b)=true)=¬ (a=b):=propext bne_iff_ne
theorem z8r {α:Type} [BEq α] [LawfulBEq α] {a b:α}:((a != b)=false)=(a=b):=propext bne_eq_false_iff_eq
theorem b_gt {a b:Int}:(a>b)=(b<a):=rfl
theorem b_ge {a b:Int}:(a ≥ b)=(b≤a):=rfl
theorem RL:(type_of% @decide_eq_true_eq)∧(type_of% @decide_eq_false_iff_not)∧(type_of% @z8q)∧(type_of% @z8p)∧(type_of% @z8s)∧(type_of% @z8r)∧(type_of% @ydk)∧(type_of% @Classical.not_not)∧(type_of% @Bool.not_eq_true')∧(type_of% @Bool.not_eq_false')∧(type_of% @b_gt)∧(type_of% @b_ge) :=
 ⟨@decide_eq_true_eq,@decide_eq_false_iff_not,@z8q,@z8p,@z8s,@z8r,@ydk,@Classical.not_not,@Bool.not_eq_true',@Bool.not_eq_false',@b_gt,@b_ge⟩
inductive Bel (k:Nat):PV→Prop where
 | int (q n):Bel k (.int q n)
 | bool (b):Bel k (.bool b)
 | str (s):Bel k (.str s)
 | agg (cs):(∀ c∈cs,Bel k c)→Bel k (.agg cs)
 | tup (cs):(∀ c∈cs,Bel k c)→Bel k (.tup cs)
 | fn (f cs):(∀ c∈cs,Bel k c)→Bel k (.fn f cs)
 | sl (cs n):Bel k (.sl cs n)
 | nils:Bel k .nils
 | bm (f b):Bel k (.bm f b)
 | ip (cs n):Bel k (.ip cs n)
 | nilp:Bel k .nilp
 | nilm:Bel k .nilm
 | nilf:Bel k .nilf
 | yl (l:Nat):Bel k (.yl l)
 | undef:Bel k .undef
 | loc (o v f n):o<k→Bel k (.loc o v f n)
 | ref (o v f):o<k→Bel k (.ref o v f)
 | mp (o v):o<k→Bel k (.mp o v)
def Ob.bel (k:Nat):Ob→Prop
 | .arr _ _ _ cells=>∀ c∈cells,Bel k c
 | .map _ es=>∀ e∈es,Bel k e.1∧Bel k e.2
 | .lp _ _ _ tmps=>∀ c∈tmps,Bel k c
theorem VR.grow {H:Array Obj} {F:Nat→Prop} {G G':GSt} {k:Nat} (ht:G.tick≤G'.tick) (hg:∀ o,o<k→G'.obs[o]?=G.obs[o]?) {p:PV} {v:Value} (hb:Bel k p) (h:VR H F G p v):VR H F G' p v:=by
 induction h with
 | imm p v h=>exact .imm p v h
 | agg cs vs e _ ih=>cases hb with | agg _ hb=>exact .agg cs vs e fun i p v h1 h2=>ih i p v h1 h2 (hb p (List.mem_of_getElem? h1))
 | tup cs vs e _ ih=>cases hb with | tup _ hb=>exact .tup cs vs e fun i p v h1 h2=>ih i p v h1 h2 (hb p (List.mem_of_getElem? h1))
 | fn f cs vs e _ ih=>cases hb with | fn _ _ hb=>exact .fn f cs vs e fun i p v h1 h2=>ih i p v h1 h2 (hb p (List.mem_of_getElem? h1))
 | loc o ver off n a len cap hv k'=>cases hb with | loc _ _ _ _ hb=>exact .loc o ver off n a len cap (Nat.lt_of_lt_of_le hv ht) fun ob l h=>k' ob l (by rw [← hg o hb]; exact h)
 | ref o ver off a hv k'=>cases hb with | ref _ _ _ hb=>exact .ref o ver off a (Nat.lt_of_lt_of_le hv ht) fun ob l h=>k' ob l (by rw [← hg o hb]; exact h)
 | mp o ver r hv k'=>cases hb with | mp _ _ hb=>exact .mp o ver r (Nat.lt_of_lt_of_le hv ht) fun ob l h=>k' ob l (by rw [← hg o hb]; exact h)
theorem Ev.frame {P:Program} {f:FuncId} {args:List PV} {obs:List Ob} {t:Nat} {J:PV→Store→Prop} (h:Ev P f args ⟨obs,t⟩ J)
  (hJ:∀ v S,J v S→S.obs.length=obs.length∧Bel obs.length v∧∀ ob∈S.obs,ob.bel obs.length) (R:List Ob) :
  Ev P f args ⟨obs++R,t⟩ fun v S=>∃ S1,J v S1∧S=⟨S1.obs++R,S1.tick⟩:=by
 refine ⟨h.ent,?_⟩
 intro F G w cargs hS hi hl hv
 have hobs:G.obs.map (·.1)=obs++R:=congrArg Store.obs hS
 have htk:G.tick=t:=congrArg Store.tick hS
 have hlen:G.obs.length=obs.length+R.length:=by rw [← List.length_map (f:=(·.1)),hobs,List.length_append]
 obtain ⟨i1,n1⟩:=zeb hi obs.length
 have e1:(G.take obs.length).er=⟨obs,t⟩:=by
  rw [zid,hS]; simp [Store.take]
 refine Calls.mono (h.run F (G.take obs.length) w cargs e1 i1 hl fun i p c h1 h2=>(hv i p c h1 h2).next hi n1) ?_
 rintro e w' ⟨v,cv,F',G1,rfl,hj,i2,n2,r2⟩
 obtain ⟨j1,j2,j3⟩:=hJ _ _ hj
 have hG1:G1.obs.length=obs.length:=by rw [← j1]; simp [GSt.er]
 let G':GSt:=⟨G1.obs++G.obs.drop obs.length,G1.tick⟩
 have lo:∀ o,o<obs.length→G'.obs[o]?=G1.obs[o]?:=fun o ho=>by simp only[G']; rw [List.getElem?_append_left (by omega)]
 have hi':∀ o,obs.length≤o→G'.obs[o]?=G.obs[o]?:=fun o ho=>by
  simp only[G']; rw [List.getElem?_append_right (by omega),List.getElem?_drop]; congr 1; omega
 have tk:∀ o,o<obs.length→(G.take obs.length).obs[o]?=G.obs[o]?:=fun o ho=>by simp [GSt.take,List.getElem?_take,ho]
 have old:∀ o x,obs.length≤o→G.obs[o]?=some x→∀ (o':Nat) y,(G.take obs.length).obs[o']?=some y→y.2.blk≠x.2.blk:=by
  intro o x ho hx o' y hy e
  have h1:=zb3 hy
  have:=hi.inj o' o y x h1 hx e
  have:o'<obs.length:=by
   have:=(List.getElem?_eq_some_iff.1 hy).1
   simp only[GSt.take,List.length_take]at this; omega
  omega
 have nx:Next F G w F' G' w':=by
  refine ⟨n2.os,n2.tape,n2.output,n2.size,n2.fsub,?_,?_,n2.tick,?_,?_,n2.drawn⟩
  ·intro b hb
   rcases n2.fnew b hb with h1 | h1 | ⟨o,x,hx,e⟩
   ·exact .inl h1
   ·exact .inr (.inl h1)
   exact .inr (.inr ⟨o,x,zb3 hx,e⟩)
  ·intro o x hx
   by_cases ho:o<obs.length
   ·rw [lo o ho]at hx
    rcases n2.gnew o x hx with h1 | ⟨o',y,hy,e⟩
    ·exact .inl h1
    exact .inr ⟨o',y,zb3 hy,e⟩
   rw [hi' o (by omega)]at hx
   exact .inr ⟨o,x,hx,rfl⟩
  ·intro b hb hG
   exact n2.keep b hb fun o x hx=>hG o x (zb3 hx)
  intro o ob' l' hx hv
  by_cases ho:o<obs.length
  ·rw [lo o ho]at hx
   obtain ⟨ob,h1,h2,h3⟩:=n2.hand o ob' l' hx hv
   exact ⟨ob,zb3 h1,h2,h3⟩
  rw [hi' o (by omega)]at hx
  exact ⟨ob',hx,rfl,Ob.like.refl _⟩
 have bel1:∀ (o:Nat) (ob:Ob) (l:Lc),G1.obs[o]?=some (ob,l)→ob.bel obs.length:=fun o ob l ho=>j3 ob (by
  simp only[GSt.er]; exact List.mem_map.2 ⟨(ob,l),List.mem_of_getElem? ho,rfl⟩)
 refine ⟨v,cv,F',G',rfl,⟨_,hj,?_⟩,zh1 i2.fr ?_ ?_ ?_ ?_,nx,VR.grow (G:=G1) (G':=G') (qR _) lo j2 r2⟩
 ·simp only[GSt.er,G',List.map_append,Store.mk.injEq,and_true]
  congr 1
  rw [List.map_drop,hobs]; simp
 ·intro o ob l hx
  by_cases ho:o<obs.length
  ·rw [lo o ho]at hx; exact i2.ver o ob l hx
  rw [hi' o (by omega)]at hx; exact Nat.lt_of_lt_of_le (hi.ver o ob l hx) n2.tick
 ·intro o ob l hx hF
  by_cases ho:o<obs.length
  ·rw [lo o ho]at hx; exact i2.nF o ob l hx hF
  rw [hi' o (by omega)]at hx
  rcases n2.fnew _ hF with h1 | h1 | ⟨o',x,hx',e⟩
  ·exact hi.nF o ob l hx h1
  ·have:=hi.blk_lt hx; simp only at this; omega
  exact old o _ (by omega) hx o' x hx' e
 ·intro o ob l hx
  by_cases ho:o<obs.length
  ·rw [lo o ho]at hx
   have hb:=bel1 o ob l hx
   have:=i2.holds hx
   cases ob with
   | arr ver et sz cells =>
    obtain ⟨cs,h1,h2,h3,h4⟩:=this
    refine ⟨cs,h1,h2,h3,fun i p hp=>?_⟩
    obtain ⟨a1,v,a2,a3⟩:=h4 i p hp
    exact ⟨a1,v,a2,VR.grow (G:=G1) (G':=G') (qR _) lo (hb p (List.mem_of_getElem? hp)) a3⟩
   | map ver es =>
    obtain ⟨ents,clock,h1,h2,h3⟩:=this
    refine ⟨ents,clock,h1,h2,fun i k v hp=>?_⟩
    obtain ⟨en,a1,a2,a3⟩:=h3 i k v hp
    have hb':=hb (k,v) (List.mem_of_getElem? hp)
    exact ⟨en,a1,VR.grow (G:=G1) (G':=G') (qR _) lo hb'.1 a2,VR.grow (G:=G1) (G':=G') (qR _) lo hb'.2 a3⟩
   | lp ver b r tmps =>
    obtain ⟨h0,t,h1,h2,h3⟩:=this
    exact ⟨h0,t,h1,h2,fun i p v hp hv=>VR.grow (G:=G1) (G':=G') (qR _) lo (hb p (List.mem_of_getElem? hp)) (h3 i p v hp hv)⟩
  ·rw [hi' o (by omega)]at hx
   exact (hi.holds hx).next hi nx (n2.keep _ (hi.blk_lt hx) (fun o' y hy=>old o _ (by omega) hx o' y hy))
 intro o o' x x' hx hx' e
 by_cases ho:o<obs.length <;> by_cases ho':o'<obs.length
 ·rw [lo o ho]at hx; rw [lo o' ho']at hx'; exact i2.inj o o' x x' hx hx' e
 ·rw [lo o ho]at hx; rw [hi' o' (by omega)]at hx'
  exfalso
  rcases n2.gnew o x hx with h1 | ⟨o2,y,hy,e2⟩
  ·have:=hi.blk_lt hx'; omega
  exact old o' x' (by omega) hx' o2 y hy (by omega)
 ·rw [hi' o (by omega)]at hx; rw [lo o' ho']at hx'
  exfalso
  rcases n2.gnew o' x' hx' with h1 | ⟨o2,y,hy,e2⟩
  ·have:=hi.blk_lt hx; omega
  exact old o x (by omega) hx o2 y hy (by omega)
 rw [hi' o (by omega)]at hx; rw [hi' o' (by omega)]at hx'; exact hi.inj o o' x x' hx hx' e
section
def sh (S:Store) (im:Bool):Nat→PV→Option PV
 | 0,_=>none
 | k+1,p =>
  match p with
  | .int a b=>some (.int a b)
  | .bool b=>some (.bool b)
  | .str s=>some (.str s)
  | .nilp=>some .nilp
  | .nilf=>some .nilf
  | .yl l=>some (.yl l)
  | .nilm=>some .nilm
  | .nils=>some .nils
  | .agg cs=>(cs.mapM (sh S im k)).map .agg
  | .tup cs=>(cs.mapM (sh S im k)).map .tup
  | .fn f cs=>(cs.mapM (sh S im k)).map (.fn f)
  | .sl cs n=>if im || cs.isEmpty then some (.sl cs n) else none
  | .ip cs off=>if im then some (.ip cs off) else none
  | .bm f b=>if im then some (.bm f b) else none
  | .loc o ver off n =>
   match S.obs[o]? with
   | some (.arr v _ _ _)=>if v=ver then some (.loc o 0 off n) else none
   | _=>none
  | .ref o ver off =>
   match S.obs[o]? with
   | some (.arr v _ _ _)=>if v=ver then some (.ref o 0 off) else none
   | _=>none
  | .mp o ver =>
   match S.obs[o]? with
   | some (.map v _)=>if v=ver then some (.mp o 0) else none
   | _=>none
  | .undef=>none
def z1m (S:Store) (im:Bool):Ob→Option Ob
 | .arr _ et sz cells=>(cells.mapM (sh S im 10)).map (.arr 0 et sz ·)
 | .map _ es=>(es.mapM fun q=>(sh S im 10 q.1).bind fun a=>(sh S im 10 q.2).map fun b=>(a,b)).map (.map 0 ·)
 | .lp _ _ _ _=>none
def zp4 (S:Store) (im:Bool):List Ob→Option (List Ob)
 | []=>some []
 | o::r=>(z1m S im o).bind fun a=>(zp4 S im r).map (a :: ·)
def up (k t:Nat):Nat→PV→PV
 | f+1,.loc o _ off n => .loc (o+k) t off n
 | f+1,.ref o _ off => .ref (o+k) t off
 | f+1,.mp o _ => .mp (o+k) t
 | f+1,.agg cs => .agg (cs.map (up k t f))
 | f+1,.tup cs => .tup (cs.map (up k t f))
 | f+1,.fn g cs => .fn g (cs.map (up k t f))
 | _,p=>p
def z6b (k t:Nat):Ob→Ob
 | .arr _ et sz cells => .arr t et sz (cells.map (up k t 10))
 | .map _ es => .map t (es.map fun q=>(up k t 10 q.1,up k t 10 q.2))
 | .lp _ l r tmps => .lp t l r tmps
def PN (P:Program) (f:FuncId) (args:List PV) (r:PV) (obs:List Ob) (im:Bool):Prop :=
 Ev P f args ⟨[],0⟩ fun v S=>∃ k,sh (S.take k) im 10 v=some r∧zp4 (S.take k) im (S.take k).obs=some obs
section
variable {P:Program} {T:Tab} {F:Nat→Prop} {G:GSt} {w:World} {e:Env} {a:Act}
theorem ybk {S:Store} {im:Bool} {k t:Nat}:∀ {f:Nat} {p q:PV},sh S im f p=some q→p.isCell=true→(up k t f q).isCell=true
 | 0,p,q,h,_=>by simp [sh]at h
 | f+1,p,q,h,hp=>by
  cases p <;> simp only[sh]at h <;> first
   | (cases h; rfl)
   | (simp [PV.isCell]at hp; done)
   | (cases h; done)
   | (split at h <;> first | (cases h; rfl) | (cases h; done) | (split at h <;> first | (cases h; done) | (cases h; rfl)))
   | (rw [qI]at h; obtain ⟨_,_,rfl⟩:=h; rfl)
structure Beh (G' G'':GSt) (k t:Nat):Prop where
 tick:t<G''.tick
 get:∀ (o:Nat) ob l,G''.obs[o+k]?=some (ob,l)→∃ ob',G'.obs[o]?=some (ob',l)∧ob'.like ob∧ob.ver=t
theorem zlg {w':World} {F' F'':Nat→Prop} {G' G'':GSt} {im:Bool} {k t:Nat} (hb:Beh G' G'' k t) (hF:im=true→∀ b,F' b→F'' b) :
  ∀ {f:Nat} {p q:PV} {cv:Value},VR w'.heap F' G' p cv→sh G'.er im f p=some q→VR w'.heap F'' G'' (up k t f q) cv
 | 0,p,q,cv,_,h=>by simp [sh]at h
 | f+1,p,q,cv,hv,h=>by
  have rowVR:∀ {cs ts:List PV} {vs:Array Value},cs.length=vs.size→(∀ (i:Nat) p v,cs[i]?=some p→vs[i]?=some v→VR w'.heap F' G' p v)→cs.mapM (sh G'.er im f)=some ts →
    (ts.map (up k t f)).length=vs.size∧∀ (i:Nat) p v,(ts.map (up k t f))[i]?=some p→vs[i]?=some v→VR w'.heap F'' G'' p v:=by
   intro cs ts vs hl hp hm
   obtain ⟨h1,h2⟩:=zbs _ _ hm
   refine ⟨by simp; omega,fun i p v q1 q2=>?_⟩
   rw [List.getElem?_map,qI]at q1
   obtain ⟨y,y1,rfl⟩:=q1
   obtain ⟨x,h3,h4⟩:=h2 i y y1
   exact zlg hb hF (hp i x v h3 q2) h4
  cases p with
  | int a b=>simp only[sh]at h; cases h; rw [hv.int]; exact .imm _ _ (.int _ _)
  | bool b=>simp only[sh]at h; cases h; rw [hv.bool]; exact .imm _ _ (.bool _)
  | str s=>simp only[sh]at h; cases h; obtain ⟨b,rfl,hb⟩:=hv.str; exact .imm _ _ (.str _ _ hb)
  | nilp=>simp only[sh]at h; cases h; cases hv with | imm _ _ hv=>cases hv; exact .imm _ _ .nilp
  | nilf=>simp only[sh]at h; cases h; cases hv with | imm _ _ hv=>cases hv; exact .imm _ _ .nilf
  | yl l=>simp only[sh]at h; cases h; cases hv with | imm _ _ hv=>cases hv; exact .imm _ _ (.yl _)
  | nilm=>simp only[sh]at h; cases h; cases hv with | imm _ _ hv=>cases hv; exact .imm _ _ .nilm
  | nils=>simp only[sh]at h; cases h; cases hv with | imm _ _ hv=>cases hv; exact .imm _ _ .nils
  | agg cs =>
   simp only[sh]at h
   rw [qI]at h
   obtain ⟨ts,h1,rfl⟩:=h
   obtain ⟨vs,rfl,h2,h3⟩:=hv.agg'
   obtain ⟨h4,h5⟩:=rowVR h2 h3 h1
   exact .agg _ _ h4 h5
  | tup cs =>
   simp only[sh]at h
   rw [qI]at h
   obtain ⟨ts,h1,rfl⟩:=h
   obtain ⟨vs,rfl,h2,h3⟩:=hv.tup'
   obtain ⟨h4,h5⟩:=rowVR h2 h3 h1
   exact .tup _ _ h4 h5
  | fn g cs =>
   simp only[sh]at h
   rw [qI]at h
   obtain ⟨ts,h1,rfl⟩:=h
   have:∃ vs:Array Value,cv = .func (.func g) #[] vs∧cs.length=vs.size∧∀ (i:Nat) p v,cs[i]?=some p→vs[i]?=some v→VR w'.heap F' G' p v:=by
    cases hv with
    | imm _ _ hv=>cases hv with | fn _ _ vs h2 h3=>exact ⟨vs,rfl,h2,fun i p v a b => .imm _ _ (h3 i p v a b)⟩
    | fn _ _ vs h2 h3=>exact ⟨vs,rfl,h2,h3⟩
   obtain ⟨vs,rfl,h2,h3⟩:=this
   obtain ⟨h4,h5⟩:=rowVR h2 h3 h1
   exact .fn _ _ _ h4 h5
  | sl cs n =>
   simp only[sh]at h
   split at h
   ·rename_i hc
    cases h
    simp only[Bool.or_eq_true,List.isEmpty_iff]at hc
    cases hv with
    | imm _ _ hv =>
     rcases hc with hc | hc
     ·exact .imm _ _ (hv.mono (hF hc) (fun _ _=>rfl))
     subst hc
     cases hv with
     | sl0=>exact .imm _ _ .sl0
     | sl _ _ b off cap g h1 h2 h3 h4=>exact .imm _ _ (.sl _ _ b off cap g (fun h=>absurd rfl h) h2 (by simp) (by simp))
   cases h
  | ip cs n =>
   simp only[sh]at h
   split at h
   ·rename_i hc
    cases h
    cases hv with
    | imm _ _ hv=>exact .imm _ _ (hv.mono (hF hc) (fun _ _=>rfl))
   cases h
  | bm g b =>
   simp only[sh]at h
   split at h
   ·rename_i hc
    cases h
    cases hv with
    | imm _ _ hv=>exact .imm _ _ (hv.mono (hF hc) (fun _ _=>rfl))
   cases h
  | loc o ver off n =>
   simp only[sh]at h
   split at h
   case h_2=>cases h
   rename_i v et sz cells hob
   split at h
   case isFalse=>cases h
   rename_i hver
   cases h
   cases hv with
   | imm _ _ hv=>cases hv
   | loc _ _ _ _ a len cap hv k' =>
    refine .loc _ _ _ _ a len cap hb.tick fun ob l hg he=>?_
    obtain ⟨ob',h1,h2,h3⟩:=hb.get o ob l hg
    have hob':ob' = .arr v et sz cells:=by
     have:G'.er.obs[o]?=some ob':=by simp [GSt.er,h1]
     rw [hob]at this; cases this; rfl
    subst hob'
    obtain ⟨et2,sz2,cells2,q1,q2⟩:=k' _ l h1 (by simp only[Ob.ver]; exact hver)
    cases q1
    cases ob with
    | arr v3 et3 sz3 cells3 =>
     simp only[Ob.like]at h2
     obtain ⟨rfl,rfl⟩:=h2
     exact ⟨_,_,cells3,by simp only[Ob.ver]at h3; rw [h3],q2⟩
    | map v3 es=>exact h2.elim
    | lp _ _ _ _=>exact h2.elim
  | ref o ver off =>
   simp only[sh]at h
   split at h
   case h_2=>cases h
   rename_i v et sz cells hob
   split at h
   case isFalse=>cases h
   rename_i hver
   cases h
   cases hv with
   | imm _ _ hv=>cases hv
   | ref _ _ _ a hv k' =>
    refine .ref _ _ _ a hb.tick fun ob l hg he=>?_
    obtain ⟨ob',h1,h2,h3⟩:=hb.get o ob l hg
    have hob':ob' = .arr v et sz cells:=by
     have:G'.er.obs[o]?=some ob':=by simp [GSt.er,h1]
     rw [hob]at this; cases this; rfl
    subst hob'
    obtain ⟨et2,sz2,cells2,q1,q2⟩:=k' _ l h1 (by simp only[Ob.ver]; exact hver)
    cases q1
    cases ob with
    | arr v3 et3 sz3 cells3 =>
     simp only[Ob.like]at h2
     obtain ⟨rfl,rfl⟩:=h2
     exact ⟨_,_,cells3,by simp only[Ob.ver]at h3; rw [h3],q2⟩
    | map v3 es=>exact h2.elim
    | lp _ _ _ _=>exact h2.elim
  | mp o ver =>
   simp only[sh]at h
   split at h
   case h_2=>cases h
   rename_i v es hob
   split at h
   case isFalse=>cases h
   rename_i hver
   cases h
   cases hv with
   | imm _ _ hv=>cases hv
   | mp _ _ r hv k' =>
    refine .mp _ _ r hb.tick fun ob l hg he=>?_
    obtain ⟨ob',h1,h2,h3⟩:=hb.get o ob l hg
    have hob':ob' = .map v es:=by
     have:G'.er.obs[o]?=some ob':=by simp [GSt.er,h1]
     rw [hob]at this; cases this; rfl
    subst hob'
    obtain ⟨es2,q1,q2⟩:=k' _ l h1 (by simp only[Ob.ver]; exact hver)
    cases q1
    cases ob with
    | arr v3 et3 sz3 cells3=>exact h2.elim
    | map v3 es3=>exact ⟨es3,by simp only[Ob.ver]at h3; rw [h3],q2⟩
    | lp _ _ _ _=>exact h2.elim
  | undef=>simp only[sh]at h; cases h
theorem zvp {S:Store} {im:Bool}:∀ {l l':List Ob},zp4 S im l=some l'→l.length=l'.length∧∀ (i:Nat) ob',l'[i]?=some ob'→∃ ob,l[i]?=some ob∧z1m S im ob=some ob'
 | [],l',h=>by simp [zp4]at h; subst h; simp
 | o::l,l',h=>by
  simp only[zp4]at h
  rw [Option.bind_eq_some_iff]at h
  obtain ⟨a,h1,h⟩:=h
  rw [qI]at h
  obtain ⟨r,h2,rfl⟩:=h
  obtain ⟨h3,h4⟩:=zvp h2
  refine ⟨by simp [h3],?_⟩
  rintro (_ | i) ob' hi
  ·simp at hi; subst hi; exact ⟨o,rfl,h1⟩
  simp at hi; obtain ⟨ob,h5,h6⟩:=h4 i ob' hi; exact ⟨ob,by simpa using h5,h6⟩
theorem zlf {S:Store} {im:Bool} {k t:Nat} {ob ob':Ob} (h:z1m S im ob=some ob'):ob.like (z6b k t ob')∧(z6b k t ob').ver=t:=by
 cases ob with
 | arr v et sz cells=>simp only[z1m]at h; rw [qI]at h; obtain ⟨_,_,rfl⟩:=h; simp [z6b,Ob.ver,Ob.like]
 | map v es=>simp only[z1m]at h; rw [qI]at h; obtain ⟨_,_,rfl⟩:=h; simp [z6b,Ob.ver,Ob.like]
 | lp _ _ _ _=>simp [z1m]at h
theorem zvd {o:List Ob} {t t':Nat} {im:Bool}:∀ {k:Nat} {p:PV},reify ⟨o,t⟩ im k p=reify ⟨o,t'⟩ im k p
 | 0,_=>rfl
 | k+1,p=>by
  have ih:reify ⟨o,t⟩ im k=reify ⟨o,t'⟩ im k:=funext fun p=>zvd
  cases p <;> simp only[reify,ih,Store.cellsOf]
theorem PN.ev {f:FuncId} {args ts:List PV} {r:PV} {obs:List Ob} {im:Bool} {S:Store} {k:Nat} (h:PN P f ts r obs im) (h1:args.mapM (reify S true k)=some ts)
  (h2:im=false∨args.mapM (reify ⟨[],0⟩ true k)=some ts) :
  Ev P f args S fun v S'=>v=up S.obs.length S.tick 10 r∧S'=⟨S.obs++obs.map (z6b S.obs.length S.tick),S.tick+1⟩:=by
 refine ⟨h.ent,fun F G w cargs hS hi hl hv=>?_⟩
 subst hS
 -- the blocks that the call takes for data
 obtain ⟨F1,hF1,hF1',hF1s,hvi⟩:∃ F1:Nat→Prop,(∀ b,F1 b→b<w.heap.size)∧(im=true→∀ b,F1 b→F b)∧(∀ b,F b→F1 b) ∧
   (∀ (i:Nat) p c,ts[i]?=some p→cargs[i]?=some c→VI w.heap F1 p c):=by
  cases him:im with
  | false =>
   obtain ⟨m1,m2⟩:=zbs _ _ h1
   refine ⟨Foot F G true,fun b hb=>?_,by simp,fun b hb => .inl ⟨rfl,hb⟩,fun i p c q1 q2=>?_⟩
   ·rcases hb with ⟨_,hb⟩ | ⟨o,x,hx,rfl⟩
    ·exact hi.fr b hb
    exact hi.blk_lt hx
   obtain ⟨x,x1,x2⟩:=m2 i p q1
   exact zdc hi (hv i x c x1 q2) x2
  | true =>
   have h2':=h2.resolve_left (by simp [him])
   obtain ⟨m1,m2⟩:=zbs _ _ h2'
   obtain ⟨i1,n1⟩:=zeb hi 0
   refine ⟨F,fun b hb=>hi.fr b hb,fun _ _ h=>h,fun _ h=>h,fun i p c q1 q2=>?_⟩
   obtain ⟨x,x1,x2⟩:=m2 i p q1
   have e0:(G.take 0).er=⟨[],G.tick⟩:=by simp [GSt.take,GSt.er]
   have:=zdc (im:=true) (k:=k) i1 ((hv i x c x1 q2).next hi n1) (by rw [e0,zvd (t':=0)]; exact x2)
   refine this.mono ?_ (fun _ _=>rfl)
   rintro b (⟨_,hb⟩ | ⟨o,y,hy,_⟩)
   ·exact hb
   simp [GSt.take]at hy
 have hlen:args.length=ts.length:=(zbs _ _ h1).1
 have hi1:Inv F1 ⟨[],0⟩ w:=⟨hF1,by simp,by simp,by simp,by simp,by simp,by simp⟩
 refine (h.run F1 ⟨[],0⟩ w cargs rfl hi1 (by omega) fun i p c q1 q2 => .imm _ _ (hvi i p c q1 q2)).mono ?_
 rintro en w' ⟨v,cv,F',G0,rfl,⟨kk,j1,j2⟩,i2,n2,r2⟩
 obtain ⟨i3,n3⟩:=zeb i2 kk
 rw [← zid]at j1 j2
 have n4:=n2.trans n3
 have r3:=r2.next i2 n3
 generalize G0.take kk=G' at j1 j2 i3 n4 r3
 clear i2 n2 n3 r2
 obtain ⟨l1,l2⟩:=zvp j2
 have hlG:G'.obs.length=obs.length:=by rw [← l1]; simp [GSt.er]
 let N:List (Ob × Lc):=List.zipWith (fun ob (x:Ob × Lc)=>(z6b G.obs.length G.tick ob,x.2)) obs G'.obs
 let G2:GSt:=⟨G.obs++N,G.tick+1⟩
 have hN:∀ (o:Nat) ob l,N[o]?=some (ob,l)→∃ ob0 ob',G'.obs[o]?=some (ob0,l)∧z1m G'.er im ob0=some ob'∧ob=z6b G.obs.length G.tick ob':=by
  intro o ob l ho
  simp only[N,List.getElem?_zipWith]at ho
  cases ha:obs[o]? with
  | none=>rw [ha]at ho; simp at ho
  | some q =>
   cases hb:G'.obs[o]? with
   | none=>rw [ha,hb]at ho; simp at ho
   | some x =>
    rw [ha,hb]at ho
    simp at ho
    obtain ⟨rfl,rfl⟩:=ho
    obtain ⟨ob0,k1,k2⟩:=l2 o q ha
    simp only[GSt.er,List.getElem?_map,hb,qO,Option.some.injEq]at k1
    exact ⟨x.1,q,rfl,k1 ▸ k2,rfl⟩
 have lo:∀ o,o<G.obs.length→G2.obs[o]?=G.obs[o]?:=fun o ho=>by simp only[G2]; rw [List.getElem?_append_left ho]
 have hi':∀ o,G.obs.length≤o→G2.obs[o]?=N[o - G.obs.length]?:=fun o ho=>by simp only[G2]; rw [List.getElem?_append_right ho]
 have beh:Beh G' G2 G.obs.length G.tick:=by
  refine ⟨Nat.lt_succ_self _,fun o ob l ho=>?_⟩
  rw [hi' _ (by omega),Nat.add_sub_cancel]at ho
  obtain ⟨ob0,ob',h3,h4,rfl⟩:=hN o ob l ho
  exact ⟨ob0,h3,(zlf h4).1,(zlf h4).2⟩
 let F2:Nat→Prop:=fun b=>F b∨(w.heap.size≤b∧F' b)
 have hFF:im=true→∀ b,F' b→F2 b:=by
  intro him b hb
  rcases n4.fnew b hb with h3 | h3 | ⟨o,x,hx,_⟩
  ·exact .inl (hF1' him b h3)
  ·exact .inr ⟨h3,hb⟩
  simp at hx
 have newb:∀ (o:Nat) x,G'.obs[o]?=some x→w.heap.size≤x.2.blk:=by
  intro o x hx
  rcases n4.gnew o x hx with h3 | ⟨o',y,hy,_⟩
  ·exact h3
  simp at hy
 have nx:Next F G w F2 G2 w':=by
  refine ⟨n4.os,n4.tape,n4.output,n4.size,fun b hb => .inl hb,?_,?_,Nat.le_succ _,fun b hb _=>n4.keep b hb (by simp),?_,n4.drawn⟩
  ·rintro b (hb | ⟨hb,_⟩)
   ·exact .inl hb
   exact .inr (.inl hb)
  ·rintro o ⟨ob,l⟩ hx
   by_cases ho:o<G.obs.length
   ·rw [lo o ho]at hx; exact .inr ⟨o,_,hx,rfl⟩
   rw [hi' o (by omega)]at hx
   obtain ⟨ob0,ob',h3,_⟩:=hN _ _ _ hx
   have:=newb _ _ h3
   exact .inl this
  intro o ob' l' hx hver
  by_cases ho:o<G.obs.length
  ·rw [lo o ho]at hx; exact ⟨ob',hx,rfl,Ob.like.refl _⟩
  rw [hi' o (by omega)]at hx
  obtain ⟨ob0,ob2,h3,h4,rfl⟩:=hN _ _ _ hx
  rw [(zlf h4).2]at hver
  omega
 refine ⟨_,cv,F2,G2,rfl,⟨rfl,?_⟩,zh1 ?_ ?_ ?_ ?_ ?_,nx,by
  have hlo:G.er.obs.length=G.obs.length:=by simp [GSt.er]
  rw [hlo]; exact zlg beh hFF r3 j1⟩
 ·have hlo:G.er.obs.length=G.obs.length:=by simp [GSt.er]
  have htk:G.er.tick=G.tick:=rfl
  rw [hlo,htk]
  simp only[GSt.er,G2,List.map_append,Store.mk.injEq,and_true]
  congr 1
  apply List.ext_getElem
  ·simp [N,hlG]
  intro i a b; simp [N]
 ·rintro b (hb | ⟨_,hb⟩)
  ·exact Nat.lt_of_lt_of_le (hi.fr b hb) n4.size
  exact i3.fr b hb
 ·intro o ob l hx
  by_cases ho:o<G.obs.length
  ·rw [lo o ho]at hx; exact Nat.lt_succ_of_lt (hi.ver o ob l hx)
  rw [hi' o (by omega)]at hx
  obtain ⟨ob0,ob2,h3,h4,rfl⟩:=hN _ _ _ hx
  rw [(zlf h4).2]; exact Nat.lt_succ_self _
 ·rintro o ob l hx (hF | ⟨hs,hF⟩)
  ·by_cases ho:o<G.obs.length
   ·rw [lo o ho]at hx; exact hi.nF o ob l hx hF
   rw [hi' o (by omega)]at hx
   obtain ⟨ob0,ob2,h3,_⟩:=hN _ _ _ hx
   have h5:=newb _ _ h3
   have h6:=hi.fr _ hF
   simp only at h5
   omega
  by_cases ho:o<G.obs.length
  ·rw [lo o ho]at hx
   have:=hi.blk_lt hx
   simp only at this; omega
  rw [hi' o (by omega)]at hx
  obtain ⟨ob0,ob2,h3,_⟩:=hN _ _ _ hx
  exact i3.nF _ _ _ h3 hF
 ·intro o ob l hx
  by_cases ho:o<G.obs.length
  ·rw [lo o ho]at hx
   exact (hi.holds hx).next hi nx (n4.keep _ (hi.blk_lt hx) (by simp))
  rw [hi' o (by omega)]at hx
  obtain ⟨ob0,ob2,h3,h4,rfl⟩:=hN _ _ _ hx
  have hh:=i3.holds h3
  cases ob0 with
  | arr ver et sz cells =>
   simp only[z1m]at h4
   rw [qI]at h4
   obtain ⟨cs2,m1,rfl⟩:=h4
   obtain ⟨cs,q1,q2,q3,q4⟩:=hh
   obtain ⟨m2,m3⟩:=zbs _ _ m1
   refine ⟨cs,q1,q2,by simp; omega,fun i p hp=>?_⟩
   rw [List.getElem?_map,qI]at hp
   obtain ⟨y,y1,rfl⟩:=hp
   obtain ⟨x,x1,x2⟩:=m3 i y y1
   obtain ⟨c1,v1,v2,v3⟩:=q4 i x x1
   exact ⟨ybk x2 c1,v1,v2,zlg beh hFF v3 x2⟩
  | map ver es =>
   simp only[z1m]at h4
   rw [qI]at h4
   obtain ⟨es2,m1,rfl⟩:=h4
   obtain ⟨ents,clock,q1,q2,q3⟩:=hh
   obtain ⟨m2,m3⟩:=zkp _ _ m1
   refine ⟨ents,clock,q1,by simp; omega,fun i k v hp=>?_⟩
   rw [List.getElem?_map,qI]at hp
   obtain ⟨y,y1,y2⟩:=hp
   cases y2
   obtain ⟨x,x1,x2⟩:=m3 i y y1
   obtain ⟨en,e1,e2,e3⟩:=q3 i x.1 x.2 x1
   rw [Option.bind_eq_some_iff]at x2
   obtain ⟨b1,b2,x2⟩:=x2
   rw [qI]at x2
   obtain ⟨b3,b4,x2⟩:=x2
   cases x2
   exact ⟨en,e1,zlg beh hFF e2 b2,zlg beh hFF e3 b4⟩
  | lp _ _ _ _=>simp [z1m]at h4
 rintro o o' ⟨ob,l⟩ ⟨ob',l'⟩ hx hx' e
 simp only at e
 by_cases ho:o<G.obs.length <;> by_cases ho':o'<G.obs.length
 ·rw [lo o ho]at hx; rw [lo o' ho']at hx'; exact hi.inj o o' _ _ hx hx' e
 ·rw [lo o ho]at hx; rw [hi' o' (by omega)]at hx'
  obtain ⟨ob0,ob2,h3,_⟩:=hN _ _ _ hx'
  have h5:=newb _ _ h3; have h6:=hi.blk_lt hx
  simp only at h5 h6; omega
 ·rw [hi' o (by omega)]at hx; rw [lo o' ho']at hx'
  obtain ⟨ob0,ob2,h3,_⟩:=hN _ _ _ hx
  have h5:=newb _ _ h3; have h6:=hi.blk_lt hx'
  simp only at h5 h6; omega
 rw [hi' o (by omega)]at hx; rw [hi' o' (by omega)]at hx'
 obtain ⟨ob0,ob2,h3,_⟩:=hN _ _ _ hx
 obtain ⟨ob0',ob2',h3',_⟩:=hN _ _ _ hx'
 have:=i3.inj _ _ _ _ h3 h3' e
 omega
theorem PN.of {f:FuncId} {fn:Func} {c:Code} (h:Fn P f fn c) (hT:zbb P T) (hm:P.follows .mixedOrders=true) {args:List PV} {r:PV} {obs:List Ob} {im:Bool} (hn:args.length≤fn.ntmps)
  (hw:W P T c (zhu T fn.results.toList fun v S=>∃ k,sh (S.take k) im 10 v=some r∧zp4 (S.take k) im (S.take k).obs=some obs) (zaj args) ⟨[],0⟩):PN P f args r obs im :=
 Ev.of h hT hm hn (hw.mono fun x e S hx=>by
  have key:∀ (v:PV) (S:Store),(∃ k,sh (S.take k) im 10 v=some r∧zp4 (S.take k) im (S.take k).obs=some obs) →
    ∃ k1 k,sh ((S.take k1).take k) im 10 v=some r∧zp4 ((S.take k1).take k) im ((S.take k1).take k).obs=some obs:=by
   rintro v S ⟨k,h1,h2⟩
   have e:(S.take k).take k=S.take k:=by simp [Store.take,List.take_take]
   exact ⟨k,k,by rw [e]; exact h1,by rw [e]; exact h2⟩
  cases x <;> simp only[zhu,zhr]at hx ⊢ <;> (try exact hx)
  all_goals
   split at hx
   ·exact key _ _ hx
   exact hx)
theorem Ev.pc {f:FuncId} {args:List PV} {q:PV} {fr:Bool} {J:PV→Store→Prop} (h:Ev P f args ⟨[],0⟩ J) (hJ:∀ v S,J v S→reify S (!fr) 10 v=some q):PC P f args q fr:=by
 refine ⟨h.ent,fun F w cargs hF hl hv=>?_⟩
 have hi:Inv F ⟨[],0⟩ w:=⟨hF,by simp,by simp,by simp,by simp,by simp,by simp⟩
 refine (h.run F ⟨[],0⟩ w cargs rfl hi hl fun i p c q1 q2 => .imm _ _ (hv i p c q1 q2)).mono ?_
 rintro en w' ⟨v',cv,F',G',rfl,k2,k3,k4,k5⟩
 refine ⟨cv,rfl,⟨⟨k4.os,k4.tape,k4.output,k4.size,fun b hb=>k4.keep b hb (by simp)⟩,k4.drawn⟩,(zdc k3 k5 (hJ _ _ k2)).mono ?_ (fun _ _=>rfl)⟩
 rintro b (⟨h1,h2⟩ | ⟨o,x,hx,rfl⟩)
 ·rcases k4.fnew b h2 with h3 | h3 | ⟨o,x,hx,_⟩
  ·exact .inr ⟨by simpa using h1,h3⟩
  ·exact .inl ⟨h3,k3.fr b h2⟩
  simp at hx
 rcases k4.gnew o x hx with h3 | ⟨o',y,hy,_⟩
 ·exact .inl ⟨h3,k3.blk_lt hx⟩
 simp at hy
theorem PN.pc {f:FuncId} {args:List PV} {r q:PV} {obs:List Ob} {im fr:Bool} (h:PN P f args r obs im) (h1:args.mapM (reify ⟨[],0⟩ true 10)=some args)
  (hq:reify ⟨obs.map (z6b 0 0),1⟩ (!fr) 10 (up 0 0 10 r)=some q):PC P f args q fr :=
 Ev.pc (PN.ev h h1 (.inr h1)) (by rintro _ _ ⟨rfl,rfl⟩; simpa using hq)
variable {S:Store} {d:Option Tmp} {r:List Oper} {ds:List (Option Tmp)} {K:Env→Store→Prop}
theorem zae.pn {f:FuncId} {xs ts:List PV} {v:PV} {obs:List Ob} {im:Bool} (h:PN P f ts v obs im) (h1:xs.mapM (reify S true 10)=some ts) (h2:im=false∨xs.mapM (reify ⟨[],0⟩ true 10)=some ts)
  (k:za7 false P T ds r (e.put d (up S.obs.length S.tick 10 v)) ⟨S.obs++obs.map (z6b S.obs.length S.tick),S.tick+1⟩ K):zae false P T ds f xs S d r e K :=
 zae.ev (PN.ev h h1 h2) (by rintro _ _ ⟨rfl,rfl⟩; exact k)
end
theorem z9v {k t f o v off n:Nat}:up k t (f+1) (.loc o v off n) = .loc (o+k) t off n:=rfl
theorem z9w {k t f o v off:Nat}:up k t (f+1) (.ref o v off) = .ref (o+k) t off:=rfl
theorem z9x {k t f:Nat} {cs:List PV}:up k t (f+1) (.tup cs) = .tup (cs.map (up k t f)):=rfl
theorem zz1 {k t f:Nat} {q:IntKind} {n:Int}:up k t f (.int q n) = .int q n:=by cases f <;> rfl
theorem zxj {k t f:Nat} {b:Bool}:up k t f (.bool b) = .bool b:=by cases f <;> rfl
theorem z53 {k t f:Nat} {b:List UInt8}:up k t f (.str b) = .str b:=by cases f <;> rfl
theorem z52 {k t f:Nat}:up k t f .nils = .nils:=by cases f <;> rfl
theorem z51 {k t f:Nat}:up k t f .nilp = .nilp:=by cases f <;> rfl
theorem ydf {k t f n:Nat} {cs:List PV}:up k t f (.sl cs n) = .sl cs n:=by cases f <;> rfl
theorem yde {k t f n:Nat} {cs:List PV}:up k t f (.ip cs n) = .ip cs n:=by cases f <;> rfl
theorem z5z {k t f:Nat} {q:IntKind} {l:List Int}:(l.map (PV.int q)).map (up k t f)=l.map (PV.int q):=by
 rw [List.map_map]; exact List.map_congr_left fun a _=>zz1
theorem z50 {k t f:Nat} {q:IntKind} {l:List Nat}:(l.map fun m:Nat=>PV.int q m).map (up k t f)=l.map fun m:Nat=>PV.int q m:=by
 rw [List.map_map]; exact List.map_congr_left fun a _=>zz1
theorem z54 {k t f:Nat} {l:List (List UInt8)}:(l.map PV.str).map (up k t f)=l.map PV.str:=by
 rw [List.map_map]; exact List.map_congr_left fun a _=>z53
theorem zz0 {k t f:Nat} {l:List Bool}:(l.map PV.bool).map (up k t f)=l.map PV.bool:=by
 rw [List.map_map]; exact List.map_congr_left fun a _=>zxj
theorem zzz {k t v et sz:Nat} {cells:List PV}:z6b k t (.arr v et sz cells) = .arr t et sz (cells.map (up k t 10)):=rfl
theorem RN:(type_of% @z9v)∧(type_of% @z9w)∧(type_of% @z9x)∧(type_of% @zz1)∧(type_of% @zxj)∧(type_of% @z53)∧(type_of% @z52)∧(type_of% @z51)∧(type_of% @ydf)∧(type_of% @yde)∧(type_of% @z5z)∧(type_of% @z50)∧(type_of% @z54)∧(type_of% @zz0)∧(type_of% @zzz) :=
 ⟨@z9v,@z9w,@z9x,@zz1,@zxj,@z53,@z52,@z51,@ydf,@yde,@z5z,@z50,@z54,@zz0,@zzz⟩
end
section
def rfq (S:Store) (fr:Nat→Bool):Nat→PV→Option PV
 | 0,_=>none
 | k+1,p =>
  match p with
  | .int a b=>some (.int a b)
  | .bool b=>some (.bool b)
  | .str s=>some (.str s)
  | .nilp=>some .nilp
  | .nilf=>some .nilf
  | .yl l=>some (.yl l)
  | .nilm=>some .nilm
  | .nils=>some .nils
  | .agg cs=>(cs.mapM (rfq S fr k)).map .agg
  | .tup cs=>(cs.mapM (rfq S fr k)).map .tup
  | .fn f cs=>(cs.mapM (rfq S fr k)).map (.fn f)
  | .sl cs n=>some (.sl cs n)
  | .ip cs off=>some (.ip cs off)
  | .bm f b=>some (.bm f b)
  | .loc o ver off n =>
   match S.obs[o]? with
   | some (.arr v _ sz cells)=>if fr o=true∧v=ver∧off+n*sz≤cells.length then (((cells.drop off).take (n*sz)).mapM (rfq S fr k)).map (.sl · n) else none
   | _=>none
  | .ref o ver off=>if fr o=true then (S.cellsOf o ver).bind fun cells=>(cells.mapM (rfq S fr k)).map (.ip · off) else none
  | _=>none
section
variable {P:Program} {T:Tab} {F:Nat→Prop} {G:GSt} {w:World} {e:Env} {a:Act}
def zrp (F:Nat→Prop) (G:GSt) (fr:Nat→Bool) (b:Nat):Prop:=F b∨∃ (o:Nat) (x:Ob × Lc),fr o=true∧G.obs[o]?=some x∧x.2.blk=b
theorem znu {S:Store} {fr:Nat→Bool}:∀ {k:Nat} {p t:PV},rfq S fr k p=some t→p.isCell=true→t.isCell=true
 | 0,p,t,h,_=>by simp [rfq]at h
 | k+1,p,t,h,hp=>by
  cases p <;> simp only[rfq]at h <;> first
   | (cases h; rfl)
   | (simp [PV.isCell]at hp; done)
   | (cases h; done)
   | (split at h <;> first | (cases h; rfl) | (cases h; done) | (split at h <;> first | (cases h; done) | (rw [qI]at h; obtain ⟨_,_,rfl⟩:=h; rfl)))
   | (rw [qI]at h; obtain ⟨_,_,rfl⟩:=h; rfl)
   | (split at h <;> first | (cases h; done) | (rw [Option.bind_eq_some_iff]at h; obtain ⟨_,_,h⟩:=h; rw [qI]at h; obtain ⟨_,_,rfl⟩:=h; rfl))
theorem zpb (hi:Inv F G w) {fr:Nat→Bool}:∀ {k:Nat} {p t:PV} {cv:Value},VR w.heap F G p cv→rfq G.er fr k p=some t→VI w.heap (zrp F G fr) t cv
 | 0,p,t,cv,_,h=>by simp [rfq]at h
 | k+1,p,t,cv,hv,h=>by
  have cellsVI:∀ {b off:Nat} {cs ts:List PV},zcp w.heap F G b off cs→cs.mapM (rfq G.er fr k)=some ts →
    ∃ g:Nat→Value,(∀ (i:Nat) p,ts[i]?=some p→p.isCell=true∧zgl w.heap b (off+i)=some (g i))∧∀ (i:Nat) p,ts[i]?=some p→VI w.heap (zrp F G fr) p (g i):=by
   intro b off cs ts hc hm
   obtain ⟨h1,h2⟩:=zbs _ _ hm
   refine ⟨fun i=>(zgl w.heap b (off+i)).getD undef,fun i p hp=>?_,fun i p hp=>?_⟩
   ·obtain ⟨x,h3,h4⟩:=h2 i p hp
    obtain ⟨h5,v,h6,h7⟩:=hc i x h3
    exact ⟨znu h4 h5,by simp [h6]⟩
   obtain ⟨x,h3,h4⟩:=h2 i p hp
   obtain ⟨h5,v,h6,h7⟩:=hc i x h3
   simp only[h6]
   exact zpb hi h7 h4
  have rowVI:∀ {cs ts:List PV} {vs:Array Value},cs.length=vs.size→(∀ (i:Nat) p v,cs[i]?=some p→vs[i]?=some v→VR w.heap F G p v)→cs.mapM (rfq G.er fr k)=some ts →
    ts.length=vs.size∧∀ (i:Nat) p v,ts[i]?=some p→vs[i]?=some v→VI w.heap (zrp F G fr) p v:=by
   intro cs ts vs hl hp hm
   obtain ⟨h1,h2⟩:=zbs _ _ hm
   refine ⟨by omega,fun i p v q1 q2=>?_⟩
   obtain ⟨x,h3,h4⟩:=h2 i p q1
   exact zpb hi (hp i x v h3 q2) h4
  cases p with
  | int q n=>simp only[rfq]at h; cases h; rw [hv.int]; exact .int _ _
  | bool b=>simp only[rfq]at h; cases h; rw [hv.bool]; exact .bool _
  | str s=>simp only[rfq]at h; cases h; obtain ⟨b,rfl,hb⟩:=hv.str; exact .str _ _ hb
  | nilp=>simp only[rfq]at h; cases h; cases hv with | imm _ _ hv=>cases hv; exact .nilp
  | nilf=>simp only[rfq]at h; cases h; cases hv with | imm _ _ hv=>cases hv; exact .nilf
  | yl l=>simp only[rfq]at h; cases h; cases hv with | imm _ _ hv=>cases hv; exact .yl _
  | nilm=>simp only[rfq]at h; cases h; cases hv with | imm _ _ hv=>cases hv; exact .nilm
  | nils=>simp only[rfq]at h; cases h; cases hv with | imm _ _ hv=>cases hv; exact .nils
  | agg cs =>
   simp only[rfq]at h
   rw [qI]at h
   obtain ⟨ts,h1,rfl⟩:=h
   obtain ⟨vs,rfl,h2,h3⟩:=hv.agg'
   obtain ⟨h4,h5⟩:=rowVI h2 h3 h1
   exact .agg _ _ h4 h5
  | tup cs =>
   simp only[rfq]at h
   rw [qI]at h
   obtain ⟨ts,h1,rfl⟩:=h
   obtain ⟨vs,rfl,h2,h3⟩:=hv.tup'
   obtain ⟨h4,h5⟩:=rowVI h2 h3 h1
   exact .tup _ _ h4 h5
  | fn f cs =>
   simp only[rfq]at h
   rw [qI]at h
   obtain ⟨ts,h1,rfl⟩:=h
   have:∃ vs:Array Value,cv = .func (.func f) #[] vs∧cs.length=vs.size∧∀ (i:Nat) p v,cs[i]?=some p→vs[i]?=some v→VR w.heap F G p v:=by
    cases hv with
    | imm _ _ hv=>cases hv with | fn _ _ vs h2 h3=>exact ⟨vs,rfl,h2,fun i p v a b => .imm _ _ (h3 i p v a b)⟩
    | fn _ _ vs h2 h3=>exact ⟨vs,rfl,h2,h3⟩
   obtain ⟨vs,rfl,h2,h3⟩:=this
   obtain ⟨h4,h5⟩:=rowVI h2 h3 h1
   exact .fn _ _ _ h4 h5
  | sl cs n =>
   simp only[rfq]at h
   cases h
   cases hv with
   | imm _ _ hv=>exact hv.mono (fun b hb => .inl hb) (fun _ _=>rfl)
  | ip cs off =>
   simp only[rfq]at h
   cases h
   cases hv with
   | imm _ _ hv=>exact hv.mono (fun b hb => .inl hb) (fun _ _=>rfl)
  | bm f b =>
   simp only[rfq]at h
   cases h
   cases hv with
   | imm _ _ hv=>exact hv.mono (fun b hb => .inl hb) (fun _ _=>rfl)
  | loc o ver off n =>
   simp only[rfq]at h
   split at h
   ·rename_i v et sz cells hob
    split at h
    ·rename_i hc
     obtain ⟨hlo,rfl,hle⟩:=hc
     rw [qI]at h
     obtain ⟨ts,h1,rfl⟩:=h
     obtain ⟨_,_,l,cap,ho,rfl,_,hn,_⟩:=hv.loc_at hi (cells:=cells) (by simp [Store.cellsOf,hob])
     obtain ⟨l',hG⟩:=zfb hob
     rw [hG]at ho
     cases ho
     have hc2:zcp w.heap F G l.blk off ((cells.drop off).take (n*sz)):=by
      have:=((hi.cellsAt hG).drop off).take (n*sz)
      rwa [Nat.zero_add]at this
     obtain ⟨g,g1,g2⟩:=cellsVI hc2 h1
     exact .sl _ _ _ _ _ g (fun _ => .inr ⟨o,_,hlo,hG,rfl⟩) hn g1 g2
    cases h
   cases h
  | ref o ver off =>
   simp only[rfq]at h
   split at h
   case isFalse=>cases h
   rename_i hlo
   rw [Option.bind_eq_some_iff]at h
   obtain ⟨cells,hc,h⟩:=h
   rw [qI]at h
   obtain ⟨ts,h1,rfl⟩:=h
   obtain ⟨et,sz,l,hG,rfl,_⟩:=hv.ref_at hi hc
   obtain ⟨g,g1,g2⟩:=cellsVI (hi.cellsAt hG) h1
   have:=VI.ip (F:=zrp F G fr) ts off l.blk 0 g (fun _ => .inr ⟨o,_,hlo,hG,rfl⟩) g1 g2
   rwa [Nat.zero_add]at this
  | mp o ver=>simp only[rfq]at h; cases h
  | undef=>simp only[rfq]at h; cases h
def zf8 (k:Nat) (sel:List Nat) (o:Nat):Bool:=decide (k≤o) && !sel.contains o
def rn (S:Store) (k:Nat) (sel:List Nat):Nat→PV→Option PV
 | 0,_=>none
 | f+1,p =>
  match p with
  | .agg cs=>(cs.mapM (rn S k sel f)).map .agg
  | .tup cs=>(cs.mapM (rn S k sel f)).map .tup
  | .fn g cs=>(cs.mapM (rn S k sel f)).map (.fn g)
  | .loc o ver off n =>
   if o<k then some (.loc o ver off n) else
   if sel.contains o then (match S.obs[o]? with | some (.arr v _ _ _)=>if v=ver then some (.loc (k+sel.idxOf o) S.tick off n) else none | _=>none)
   else rfq S (zf8 k sel) 10 (.loc o ver off n)
  | .ref o ver off =>
   if o<k then some (.ref o ver off) else
   if sel.contains o then (match S.obs[o]? with | some (.arr v _ _ _)=>if v=ver then some (.ref (k+sel.idxOf o) S.tick off) else none | _=>none)
   else rfq S (zf8 k sel) 10 (.ref o ver off)
  | .mp o ver =>
   if o<k then some (.mp o ver) else
   if sel.contains o then (match S.obs[o]? with | some (.map v _)=>if v=ver then some (.mp (k+sel.idxOf o) S.tick) else none | _=>none)
   else none
  | .undef=>some .undef
  | p=>rfq S (zf8 k sel) 10 p
def z07 (S:Store) (k:Nat) (sel:List Nat) (old:Bool):Ob→Option Ob
 | .arr ver et sz cells=>(cells.mapM (rn S k sel 10)).map (.arr (if old then ver else S.tick) et sz ·)
 | .map ver es=>(es.mapM fun q=>(rn S k sel 10 q.1).bind fun a=>(rn S k sel 10 q.2).map fun b=>(a,b)).map (.map (if old then ver else S.tick) ·)
 | .lp ver l r tmps=>(tmps.mapM (rn S k sel 10)).map (.lp (if old then ver else S.tick) l r ·)
def zpd (S:Store) (k:Nat) (sel:List Nat) (old:Bool):List Nat→Option (List Ob)
 | []=>some []
 | o::r=>((S.obs[o]?).bind (z07 S k sel old)).bind fun a=>(zpd S k sel old r).map (a :: ·)
def Store.rn (S:Store) (k:Nat) (sel:List Nat):Option Store :=
 if sel.all (fun o=>decide (k≤o)) && decide sel.Nodup && decide (k≤S.obs.length) then
  (zpd S k sel true (List.range k)).bind fun a=>(zpd S k sel false sel).map fun b=>⟨a++b,S.tick+1⟩
 else none
theorem zul:∀ {l:List Nat},l.Nodup→∀ {i j:Nat} (hi:i<l.length) (hj:j<l.length),l[i]=l[j]→i=j
 | [],_,i,_,hi,_,_=>absurd hi (by simp)
 | a::l,h,0,0,_,_,_=>rfl
 | a::l,h,0,j+1,_,hj,e=>by
  rw [List.nodup_cons]at h
  simp only[List.getElem_cons_zero,List.getElem_cons_succ]at e
  exact absurd (e ▸ List.getElem_mem _) h.1
 | a::l,h,i+1,0,hi,_,e=>by
  rw [List.nodup_cons]at h
  simp only[List.getElem_cons_zero,List.getElem_cons_succ]at e
  exact absurd (e ▸ List.getElem_mem _) h.1
 | a::l,h,i+1,j+1,hi,hj,e=>by
  rw [List.nodup_cons]at h
  simp only[List.getElem_cons_succ]at e
  rw [zul h.2 (by simpa using hi) (by simpa using hj) e]
theorem zpe {S:Store} {k:Nat} {sel:List Nat} {old:Bool}:∀ {l:List Nat} {l':List Ob},zpd S k sel old l=some l'→l.length=l'.length ∧
  ∀ (i:Nat) ob',l'[i]?=some ob'→∃ o ob,l[i]?=some o∧S.obs[o]?=some ob∧z07 S k sel old ob=some ob'
 | [],l',h=>by simp [zpd]at h; subst h; simp
 | o::l,l',h=>by
  simp only[zpd]at h
  rw [Option.bind_eq_some_iff]at h
  obtain ⟨a,h1,h⟩:=h
  rw [Option.bind_eq_some_iff]at h1
  obtain ⟨ob,h0,h1⟩:=h1
  rw [qI]at h
  obtain ⟨r,h2,rfl⟩:=h
  obtain ⟨h3,h4⟩:=zpe h2
  refine ⟨by simp [h3],?_⟩
  rintro (_ | i) ob' hi
  ·simp at hi; subst hi; exact ⟨o,ob,rfl,h0,h1⟩
  simp at hi; obtain ⟨o2,ob2,h5,h6⟩:=h4 i ob' hi; exact ⟨o2,ob2,by simpa using h5,h6⟩
theorem zpc {S:Store} {k:Nat} {sel:List Nat} {old:Bool} {ob ob':Ob} (h:z07 S k sel old ob=some ob'):ob.like ob'∧ob'.ver=if old then ob.ver else S.tick:=by
 cases ob with
 | arr v et sz cells=>simp only[z07]at h; rw [qI]at h; obtain ⟨_,_,rfl⟩:=h; simp [Ob.ver,Ob.like]
 | map v es=>simp only[z07]at h; rw [qI]at h; obtain ⟨_,_,rfl⟩:=h; simp [Ob.ver,Ob.like]
 | lp _ _ _ _=>simp only[z07]at h; rw [qI]at h; obtain ⟨_,_,rfl⟩:=h; simp [Ob.ver,Ob.like]
theorem ybd {S:Store} {k:Nat} {sel:List Nat}:∀ {f:Nat} {p t:PV},rn S k sel f p=some t→p.isCell=true→t.isCell=true
 | 0,p,t,h,_=>by simp [rn]at h
 | f+1,p,t,h,hp=>by
  cases p with
  | agg cs=>simp [PV.isCell]at hp
  | tup cs=>simp [PV.isCell]at hp
  | undef=>simp [PV.isCell]at hp
  | fn f cs=>simp only[rn]at h; rw [qI]at h; obtain ⟨_,_,rfl⟩:=h; rfl
  | loc o ver off n =>
   simp only[rn]at h
   split at h
   ·cases h; rfl
   split at h
   ·split at h
    ·split at h
     ·cases h; rfl
     cases h
    cases h
   exact znu h hp
  | ref o ver off =>
   simp only[rn]at h
   split at h
   ·cases h; rfl
   split at h
   ·split at h
    ·split at h
     ·cases h; rfl
     cases h
    cases h
   exact znu h hp
  | mp o ver =>
   simp only[rn]at h
   split at h
   ·cases h; rfl
   split at h
   ·split at h
    ·split at h
     ·cases h; rfl
     cases h
    cases h
   cases h
  | _=>simp only[rn]at h; exact znu h hp
structure Sel (G G':GSt) (k:Nat) (sel:List Nat):Prop where
 tick:G.tick<G'.tick
 get:∀ (o:Nat),sel.contains o=true→∀ ob l,G'.obs[k+sel.idxOf o]?=some (ob,l)→∃ ob',G.obs[o]?=some (ob',l)∧ob'.like ob∧ob.ver=G.tick
theorem zst (hi:Inv F G w) {k:Nat} {sel:List Nat} {F':Nat→Prop} {G':GSt} (hF:∀ b,zrp F G (zf8 k sel) b→F' b) (hn:Next F G w F' G' w) (hs:Sel G G' k sel) :
  ∀ {f:Nat} {p t:PV} {cv:Value},VR w.heap F G p cv→rn G.er k sel f p=some t→VR w.heap F' G' t cv
 | 0,p,t,cv,_,h=>by simp [rn]at h
 | f+1,p,t,cv,hv,h=>by
  have rowVR:∀ {cs ts:List PV} {vs:Array Value},cs.length=vs.size→(∀ (i:Nat) p v,cs[i]?=some p→vs[i]?=some v→VR w.heap F G p v)→cs.mapM (rn G.er k sel f)=some ts →
    ts.length=vs.size∧∀ (i:Nat) p v,ts[i]?=some p→vs[i]?=some v→VR w.heap F' G' p v:=by
   intro cs ts vs hl hp hm
   obtain ⟨h1,h2⟩:=zbs _ _ hm
   refine ⟨by omega,fun i p v q1 q2=>?_⟩
   obtain ⟨x,h3,h4⟩:=h2 i p q1
   exact zst hi hF hn hs (hp i x v h3 q2) h4
  have data:∀ {p:PV},VR w.heap F G p cv→rfq G.er (zf8 k sel) 10 p=some t→VR w.heap F' G' t cv:=fun hv h => .imm _ _ ((zpb hi hv h).mono hF fun _ _=>rfl)
  cases p with
  | agg cs =>
   simp only[rn]at h
   rw [qI]at h
   obtain ⟨ts,h1,rfl⟩:=h
   obtain ⟨vs,rfl,h2,h3⟩:=hv.agg'
   obtain ⟨h4,h5⟩:=rowVR h2 h3 h1
   exact .agg _ _ h4 h5
  | tup cs =>
   simp only[rn]at h
   rw [qI]at h
   obtain ⟨ts,h1,rfl⟩:=h
   obtain ⟨vs,rfl,h2,h3⟩:=hv.tup'
   obtain ⟨h4,h5⟩:=rowVR h2 h3 h1
   exact .tup _ _ h4 h5
  | fn g cs =>
   simp only[rn]at h
   rw [qI]at h
   obtain ⟨ts,h1,rfl⟩:=h
   have:∃ vs:Array Value,cv = .func (.func g) #[] vs∧cs.length=vs.size∧∀ (i:Nat) p v,cs[i]?=some p→vs[i]?=some v→VR w.heap F G p v:=by
    cases hv with
    | imm _ _ hv=>cases hv with | fn _ _ vs h2 h3=>exact ⟨vs,rfl,h2,fun i p v a b => .imm _ _ (h3 i p v a b)⟩
    | fn _ _ vs h2 h3=>exact ⟨vs,rfl,h2,h3⟩
   obtain ⟨vs,rfl,h2,h3⟩:=this
   obtain ⟨h4,h5⟩:=rowVR h2 h3 h1
   exact .fn _ _ _ h4 h5
  | loc o ver off n =>
   simp only[rn]at h
   split at h
   ·cases h; exact hv.next hi hn
   split at h
   case isFalse=>exact data hv h
   rename_i hc
   split at h
   case h_2=>cases h
   rename_i v et sz cells hob
   split at h
   case isFalse=>cases h
   rename_i hver
   cases h
   cases hv with
   | imm _ _ hv=>cases hv
   | loc _ _ _ _ a len cap hv k' =>
    refine .loc _ _ _ _ a len cap hs.tick fun ob l hg he=>?_
    obtain ⟨ob',h1,h2,h3⟩:=hs.get o hc ob l hg
    have hob':ob' = .arr v et sz cells:=by
     have:G.er.obs[o]?=some ob':=by simp [GSt.er,h1]
     rw [hob]at this; cases this; rfl
    subst hob'
    obtain ⟨et2,sz2,cells2,q1,q2⟩:=k' _ l h1 (by simp only[Ob.ver]; exact hver)
    cases q1
    cases ob with
    | arr v3 et3 sz3 cells3 =>
     simp only[Ob.like]at h2
     obtain ⟨rfl,rfl⟩:=h2
     exact ⟨_,_,cells3,by simp only[Ob.ver]at h3; rw [h3]; rfl,q2⟩
    | map v3 es=>exact h2.elim
    | lp _ _ _ _=>exact h2.elim
  | ref o ver off =>
   simp only[rn]at h
   split at h
   ·cases h; exact hv.next hi hn
   split at h
   case isFalse=>exact data hv h
   rename_i hc
   split at h
   case h_2=>cases h
   rename_i v et sz cells hob
   split at h
   case isFalse=>cases h
   rename_i hver
   cases h
   cases hv with
   | imm _ _ hv=>cases hv
   | ref _ _ _ a hv k' =>
    refine .ref _ _ _ a hs.tick fun ob l hg he=>?_
    obtain ⟨ob',h1,h2,h3⟩:=hs.get o hc ob l hg
    have hob':ob' = .arr v et sz cells:=by
     have:G.er.obs[o]?=some ob':=by simp [GSt.er,h1]
     rw [hob]at this; cases this; rfl
    subst hob'
    obtain ⟨et2,sz2,cells2,q1,q2⟩:=k' _ l h1 (by simp only[Ob.ver]; exact hver)
    cases q1
    cases ob with
    | arr v3 et3 sz3 cells3 =>
     simp only[Ob.like]at h2
     obtain ⟨rfl,rfl⟩:=h2
     exact ⟨_,_,cells3,by simp only[Ob.ver]at h3; rw [h3]; rfl,q2⟩
    | map v3 es=>exact h2.elim
    | lp _ _ _ _=>exact h2.elim
  | mp o ver =>
   simp only[rn]at h
   split at h
   ·cases h; exact hv.next hi hn
   split at h
   case isFalse=>cases h
   rename_i hc
   split at h
   case h_2=>cases h
   rename_i v es hob
   split at h
   case isFalse=>cases h
   rename_i hver
   cases h
   cases hv with
   | imm _ _ hv=>cases hv
   | mp _ _ r hv k' =>
    refine .mp _ _ r hs.tick fun ob l hg he=>?_
    obtain ⟨ob',h1,h2,h3⟩:=hs.get o hc ob l hg
    have hob':ob' = .map v es:=by
     have:G.er.obs[o]?=some ob':=by simp [GSt.er,h1]
     rw [hob]at this; cases this; rfl
    subst hob'
    obtain ⟨es2,q1,q2⟩:=k' _ l h1 (by simp only[Ob.ver]; exact hver)
    cases q1
    cases ob with
    | arr v3 et3 sz3 cells3=>exact h2.elim
    | map v3 es3=>exact ⟨es3,by simp only[Ob.ver]at h3; rw [h3]; rfl,q2⟩
    | lp _ _ _ _=>exact h2.elim
  | undef=>simp only[rn]at h; cases h; exact .imm _ _ (.undef _)
  | _=>simp only[rn]at h; exact data hv h
theorem ybf (hi:Inv F G w) {k:Nat} {sel:List Nat} {S':Store} (h:G.er.rn k sel=some S') :
  ∃ G',G'.er=S'∧Inv (zrp F G (zf8 k sel)) G' w∧Next F G w (zrp F G (zf8 k sel)) G' w∧Sel G G' k sel:=by
 unfold Store.rn at h
 split at h
 case isFalse=>cases h
 rename_i hc
 simp only[qB,List.all_eq_true,decide_eq_true_eq]at hc
 obtain ⟨⟨hge,hnd⟩,hkl⟩:=hc
 rw [Option.bind_eq_some_iff]at h
 obtain ⟨A,hA,h⟩:=h
 rw [qI]at h
 obtain ⟨B,hB,rfl⟩:=h
 obtain ⟨a1,a2⟩:=zpe hA
 obtain ⟨b1,b2⟩:=zpe hB
 rw [List.length_range]at a1
 have hlen:G.er.obs.length=G.obs.length:=by simp [GSt.er]
 rw [hlen]at hkl
 have er_get':∀ {o:Nat} {ob:Ob},G.er.obs[o]?=some ob→∃ l,G.obs[o]?=some (ob,l):=fun h=>zfb h
 -- where the objects lie
 let lcOf:Nat→Lc:=fun i=>((G.obs[if i<k then i else sel.getD (i - k) 0]?).map (·.2)).getD ⟨0,0⟩
 let G':GSt:=⟨(A++B).zipIdx.map fun q=>(q.1,lcOf q.2),G.tick+1⟩
 have hget:∀ (i:Nat) ob' l,G'.obs[i]?=some (ob',l)→∃ o ob,(if i<k then i else sel.getD (i - k) 0)=o∧(i<k∨sel[i - k]?=some o)∧G.obs[o]?=some (ob,l)∧z07 G.er k sel (decide (i<k)) ob=some ob':=by
  intro i ob' l hx
  simp only[G',List.getElem?_map,qI,List.getElem?_zipIdx]at hx
  obtain ⟨q,⟨ob2,hq,rfl⟩,e⟩:=hx
  simp only[Nat.zero_add,Prod.mk.injEq]at e
  obtain ⟨rfl,e⟩:=e
  by_cases hik:i<k
  ·rw [List.getElem?_append_left (by omega)]at hq
   obtain ⟨o,ob,h1,h2,h3⟩:=a2 i _ hq
   rw [List.getElem?_range hik]at h1
   cases h1
   obtain ⟨l2,h4⟩:=er_get' h2
   have:lcOf i=l2:=by simp [lcOf,hik,h4]
   rw [this]at e; subst e
   exact ⟨i,ob,by simp [hik],.inl hik,h4,by simpa [hik] using h3⟩
  rw [List.getElem?_append_right (by omega),← a1]at hq
  obtain ⟨o,ob,h1,h2,h3⟩:=b2 _ _ hq
  obtain ⟨l2,h4⟩:=er_get' h2
  have hsel:sel.getD (i - k) 0=o:=by simp [List.getD_eq_getElem?_getD,h1]
  have:lcOf i=l2:=by simp only[lcOf,if_neg hik,hsel,h4]; rfl
  rw [this]at e; subst e
  exact ⟨o,ob,by rw [if_neg hik,hsel],.inr h1,h4,by simpa [hik] using h3⟩
 have hn:Next F G w (zrp F G (zf8 k sel)) G' w:=by
  refine ⟨rfl,rfl,rfl,qR _,fun b hb => .inl hb,?_,?_,Nat.le_succ _,fun _ _ _=>rfl,?_,qR _⟩
  ·rintro b (hb | ⟨o,x,_,hx,rfl⟩)
   ·exact .inl hb
   exact .inr (.inr ⟨o,x,hx,rfl⟩)
  ·rintro i ⟨ob',l⟩ hx
   obtain ⟨o,ob,_,_,h4,_⟩:=hget i ob' l hx
   exact .inr ⟨o,_,h4,rfl⟩
  intro i ob' l hx hver
  obtain ⟨o,ob,h1,h2,h4,h5⟩:=hget i ob' l hx
  obtain ⟨h6,h7⟩:=zpc h5
  by_cases hik:i<k
  ·rw [if_pos hik]at h1; subst h1
   simp only[hik,decide_true,if_true]at h7
   exact ⟨ob,h4,h7.symm,h6⟩
  simp only[hik,decide_false,qF,if_false]at h7
  have:G.er.tick=G.tick:=rfl
  omega
 have hs:Sel G G' k sel:=by
  refine ⟨Nat.lt_succ_self _,fun o hc ob l hx=>?_⟩
  obtain ⟨o2,ob2,h1,h2,h4,h5⟩:=hget _ ob l hx
  have hnk:¬ k+sel.idxOf o<k:=by omega
  rcases h2 with h2 | h2
  ·exact absurd h2 hnk
  rw [Nat.add_sub_cancel_left]at h2
  have hmem:o∈sel:=by simpa using hc
  have hlt:=List.idxOf_lt_length_of_mem hmem
  rw [List.getElem?_eq_getElem hlt,List.getElem_idxOf hlt]at h2
  cases h2
  obtain ⟨h6,h7⟩:=zpc h5
  simp only[hnk,decide_false,qF,if_false]at h7
  exact ⟨ob2,h4,h6,h7⟩
 have hsound:∀ {f:Nat} {p t:PV} {cv:Value},VR w.heap F G p cv→rn G.er k sel f p=some t→VR w.heap (zrp F G (zf8 k sel)) G' t cv:=fun hv h=>zst hi (fun _ h=>h) hn hs hv h
 refine ⟨G',?_,zh1 ?_ ?_ ?_ ?_ ?_,hn,hs⟩
 ·simp only[GSt.er,G',Store.mk.injEq,and_true]
  apply List.ext_getElem
  ·simp
  intro i a b; simp
 ·rintro b (hb | ⟨o,x,_,hx,rfl⟩)
  ·exact hi.fr b hb
  exact hi.blk_lt hx
 ·intro i ob' l hx
  obtain ⟨o,ob,h1,h2,h4,h5⟩:=hget i ob' l hx
  obtain ⟨h6,h7⟩:=zpc h5
  have h8:=hi.ver o ob l h4
  have:G.er.tick=G.tick:=rfl
  show ob'.ver<G.tick+1
  rw [h7]; split <;> omega
 ·intro i ob' l hx hb
  obtain ⟨o,ob,h1,h2,h4,h5⟩:=hget i ob' l hx
  rcases hb with hb | ⟨o',x,hfr,hx',e⟩
  ·exact hi.nF o ob l h4 hb
  have:=hi.inj o' o _ _ hx' h4 e
  subst this
  simp only[zf8,qB,decide_eq_true_eq,Bool.not_eq_true',List.contains_eq_mem,decide_eq_false_iff_not]at hfr
  rcases h2 with h2 | h2
  ·rw [if_pos h2]at h1; omega
  exact hfr.2 (List.mem_of_getElem? h2)
 ·intro i ob' l hx
  obtain ⟨o,ob,h1,h2,h4,h5⟩:=hget i ob' l hx
  have hh:=hi.holds h4
  cases ob with
  | arr v et2 sz2 cells2 =>
   simp only[z07]at h5
   rw [qI]at h5
   obtain ⟨cs',k3,rfl⟩:=h5
   obtain ⟨m1,m2⟩:=zbs _ _ k3
   obtain ⟨cs,q1,q2,q3,q4⟩:=hh
   refine ⟨cs,q1,q2,by omega,fun i p hp=>?_⟩
   obtain ⟨x,x1,x2⟩:=m2 i p hp
   obtain ⟨c1,v1,v2,v3⟩:=q4 i x x1
   exact ⟨ybd x2 c1,v1,v2,hsound v3 x2⟩
  | map v es2 =>
   simp only[z07]at h5
   rw [qI]at h5
   obtain ⟨es',k3,rfl⟩:=h5
   obtain ⟨m1,m2⟩:=zkp _ _ k3
   obtain ⟨ents,clock,q1,q2,q3⟩:=hh
   refine ⟨ents,clock,q1,by omega,fun i k v hp=>?_⟩
   obtain ⟨x,x1,x2⟩:=m2 i (k,v) hp
   obtain ⟨en,e1,e2,e3⟩:=q3 i x.1 x.2 x1
   rw [Option.bind_eq_some_iff]at x2
   obtain ⟨a,y1,y2⟩:=x2
   rw [qI]at y2
   obtain ⟨b,y3,y4⟩:=y2
   cases y4
   exact ⟨en,e1,hsound e2 y1,hsound e3 y3⟩
  | lp v b2 r2 tmps2 =>
   simp only[z07]at h5
   rw [qI]at h5
   obtain ⟨cs',k3,rfl⟩:=h5
   obtain ⟨m1,m2⟩:=zbs _ _ k3
   obtain ⟨q0,t,q1,q2,q3⟩:=hh
   refine ⟨q0,t,q1,⟨q2.1,by omega⟩,fun i p v hp hv=>?_⟩
   obtain ⟨x,x1,x2⟩:=m2 i p hp
   exact hsound (q3 i x v x1 hv) x2
 rintro i i' ⟨ob,l⟩ ⟨ob',l'⟩ hx hx' e
 obtain ⟨o,a,h1,h2,h3,_⟩:=hget i _ _ hx
 obtain ⟨o',a',h1',h2',h3',_⟩:=hget i' _ _ hx'
 have:=hi.inj o o' _ _ h3 h3' e
 subst this
 rcases h2 with h2 | h2 <;> rcases h2' with h2' | h2'
 ·rw [if_pos h2]at h1; rw [if_pos h2']at h1'; omega
 ·rw [if_pos h2]at h1
  have:=hge o (List.mem_of_getElem? h2')
  omega
 ·rw [if_pos h2']at h1'
  have:=hge o (List.mem_of_getElem? h2)
  omega
 have l1:=(List.getElem?_eq_some_iff.1 h2)
 have l2:=(List.getElem?_eq_some_iff.1 h2')
 obtain ⟨l1,e1⟩:=l1
 obtain ⟨l2,e2⟩:=l2
 have:=zul hnd l1 l2 (e1.trans e2.symm)
 by_cases c1:i<k
 ·rw [if_pos c1]at h1; have:=hge o (List.mem_of_getElem? h2); omega
 by_cases c2:i'<k
 ·rw [if_pos c2]at h1'; have:=hge o (List.mem_of_getElem? h2'); omega
 omega
variable {Q:Exit→Env→Store→Prop} {S:Store} {a b c:Code}
def z1p (L:List Nat) (I:List PV→Store→Prop) (e:Env) (S:Store):Prop :=
 ∃ k sel vs S',(L.map e).mapM (rn S k sel 10)=some vs∧S.rn k sel=some S'∧I vs S'
theorem zqq (hi:Inv F G w) {e:Env} {act:Act} (he:zem w.heap F G e act) {L:List Nat} {I:List PV→Store→Prop} (h:z1p L I e G.er) :
  ∃ vs F' G',I vs G'.er∧vs.length=L.length∧Inv F' G' w∧Next F G w F' G' w∧zem w.heap F' G' (Env.of L vs) act:=by
 obtain ⟨k,sel,vs,S',h1,h2,h3⟩:=h
 obtain ⟨G',rfl,k2,k3,k4⟩:=ybf hi h2
 obtain ⟨m1,m2⟩:=zbs _ _ h1
 refine ⟨vs,_,G',h3,by rw [← m1]; simp,k2,k3,zsf L vs (by rw [← m1]; simp) fun i t v q1 q2=>?_⟩
 obtain ⟨x,x1,x2⟩:=m2 i v q2
 rw [List.getElem?_map,q1]at x1
 cases x1
 exact zst hi (fun _ h=>h) k3 k4 (he t) x2
theorem W.foldS (L:List Nat) {I:List PV→Store→Prop} (hI:z1p L I e S) (h:∀ vs S,vs.length=L.length→I vs S→W P T c Q (Env.of L vs) S):W P T c Q e S:=by
 refine ⟨?_⟩
 intro hT hm F0 G0 w0 N F G a w h3 h4 h5 h6 h7 h8 h9 R nn
 subst h3
 obtain ⟨vs,F',G',k1,k2,k3,k4,k5⟩:=zqq h4 h5 hI
 exact (h vs _ k2 k1).run hT hm F0 G0 w0 N F' G' a w rfl k3 k5 (h6.trans k4) h7 h8 h9
theorem W.joinS (L:List Nat) (I:List PV→Store→Prop) (h:W P T a (XThen (z1p L I) Q) e S) (k:∀ vs S,vs.length=L.length→I vs S→W P T b Q (Env.of L vs) S):W P T (.seq a b) Q e S:=by
 refine W.seq (h.mono ?_)
 intro x e S hx
 cases x with
 | normal=>exact W.foldS L hx k
 | _=>exact hx
theorem W.loopS (L:List Nat) (I:Nat→List PV→Store→Prop) (n:Nat) (h0:z1p L (I n) e S)
  (h:∀ n vs S,vs.length=L.length→I n vs S→W P T c (XThen (fun e S=>∃ m,m<n∧z1p L (I m) e S) Q) (Env.of L vs) S):W P T (.loop c) Q e S:=by
 refine W.foldS L h0 fun vs S hl hI=>?_
 refine ⟨?_⟩
 intro hT hm F0 G0 w0 N F G a w h3 h4 h5 h6 h7 h8 h9 R nn
 refine wpIn_loop_rounds (n+1) ?_
 clear h0
 induction n using Nat.strongRecOn generalizing vs S F G a w with
 | _ n ih =>
  refine wpIn_mono ((h n vs S hl hI).run hT hm F0 G0 w0 N F G a w h3 h4 h5 h6 h7 h8 (by simpa [zfn] using h9)) ?_
  rintro x a' w' ⟨e',F',G',k1,k2,k3,k4,k5,k6⟩
  cases x with
  | normal =>
   obtain ⟨m,hmn,hk⟩:=k1
   obtain ⟨vs',F2,G2,q1,q2,q3,q4,q5⟩:=zqq k2 k3 hk
   exact zjz (by omega) _ _ (ih m hmn vs' _ q2 q1 F2 G2 a' w' rfl q3 q5 (k4.trans q4) k5 k6)
  | _=>exact ⟨e',F',G',k1,k2,k3,k4,k5,k6⟩
end
end
section
section
variable {P:Program} {T:Tab}
def More (S S':Store):Prop:=∀ (o:Nat) x,S.obs[o]?=some x→S'.obs[o]?=some x
theorem More.cells {S S':Store} (h:More S S') {o ver:Nat} {c:List PV} (hc:S.cellsOf o ver=some c):S'.cellsOf o ver=some c:=by
 unfold Store.cellsOf at hc ⊢
 cases ho:S.obs[o]? with
 | none=>rw [ho]at hc; cases hc
 | some x=>rw [ho]at hc; rw [h o x ho]; exact hc
theorem More.push {S:Store} {et sz:Nat} {cells:List PV}:More S (S.push et sz cells):=by
 intro o x hx
 have:=(List.getElem?_eq_some_iff.1 hx).1
 simp only[Store.push]
 rw [List.getElem?_append_left this]; exact hx
variable (P T)
def z1o (ops:Array Oper) (effs pend:List Nat) (t d:Nat) (Q:Env→Store→Prop) (l:List Nat) (e:Env) (S:Store):Prop :=
 (T t).kd ≠ .none∧zcs P T ops effs pend [] Q l (e.put (some d) (.ref S.obs.length S.tick 0)) (S.push t (T t).size (T t).zero)
variable {P T}
variable {ops:Array Oper} {effs pend:List Nat} {t d:Nat} {Q:Env→Store→Prop} {l2:List Nat}
theorem z1o.imp {l l':List Nat} {e:Env} {S:Store} (h:∀ e S,zcs P T ops effs pend [] Q l e S→zcs P T ops effs pend [] Q l' e S) (k:z1o P T ops effs pend t d Q l e S):z1o P T ops effs pend t d Q l' e S:=⟨k.1,h _ _ k.2⟩
variable {F0:Nat→Prop} {G0:GSt} {w0:World} {N:Nat}
end
section
variable {P:Program} {T:Tab} {Q:Exit→Env→Store→Prop} {e:Env} {S:Store} {b:Code}
section
variable {ds pd:List (Option Tmp)} {t d:Nat} {o:Oper} {r l2:List Oper} {K:Env→Store→Prop}
end
theorem z2m {all:List Oper} {effs pend:List Nat} {K:Env→Store→Prop} (heff:∀ i o,all[i]?=some o→effs.contains i=false→zep o.op=true):∀ (r:List Nat) (l:List Oper) {e:Env} {S:Store},r.all (fun i => !pend.contains i)=true→r.map (all[·]?)=l.map some →
  za7 false P T (dsts all) l e S K→zcs P T all.toArray effs pend [] K r e S
 | [],l,e,S,_,hl,h=>by
  cases l with
  | nil=>exact h
  | cons o l=>simp at hl
 | i::r,l,e,S,hp,hl,h=>by
  cases l with
  | nil=>simp at hl
  | cons o l =>
   simp only[List.map_cons,List.cons.injEq]at hl
   obtain ⟨ho,hl⟩:=hl
   simp only[List.all_cons,qB,Bool.not_eq_true']at hp
   obtain ⟨hp1,hp2⟩:=hp
   unfold za7 at h
   simp only[zcs,List.getElem?_toArray,ho]
   rw [zjn]at h
   unfold zel
   split at h
   ·rename_i hg
    rw [hg]
    simp only
    split
    ·exact zff (fun v S' hv=>⟨.inr (by intro o ho; cases ho),z2m heff r l hp2 hl hv⟩) (zj0 h)
    rename_i hc
    have:=znj (heff i o ho (by simpa using hc)) h
    rw [zdr]at this ⊢
    obtain ⟨v,h1,h2⟩:=this
    exact ⟨v,h1,by rw [hp1]; trivial,z2m heff r l hp2 hl h2⟩
   ·rename_i hg; rw [hg]; exact z2m heff r l hp2 hl h
   exact h.elim
theorem zjj:∀ (l:List Oper) (k i:Nat) (o:Oper),l[i]?=some o→(k+i∈zb5 l k↔zep o.op=false)
 | [],_,_,_,h=>by simp at h
 | a::l,k,0,o,h=>by
  simp at h; subst h
  have hge:∀ (l:List Oper) (k j:Nat),j∈zb5 l k→k≤j:=by
   intro l
   induction l with
   | nil=>intro k j h; simp [zb5]at h
   | cons b l ih =>
    intro k j h
    unfold zb5 at h
    split at h
    ·have:=ih _ _ h; omega
    rcases List.mem_cons.1 h with h | h
    ·omega
    have:=ih _ _ h; omega
  unfold zb5
  split
  ·rename_i hf
   constructor
   ·intro h; have:=hge _ _ _ h; omega
   intro h; rw [hf]at h; cases h
  rename_i hf
  simp; simpa using hf
 | a::l,k,i+1,o,h=>by
  simp only[List.getElem?_cons_succ]at h
  have ih:=zjj l (k+1) i o h
  unfold zb5
  split
  ·rw [show k+(i+1)=k+1+i by omega]; exact ih
  rw [show k+(i+1)=k+1+i by omega,List.mem_cons]
  constructor
  ·rintro (h | h)
   ·omega
   exact ih.1 h
  exact fun h => .inr (ih.2 h)
end
end
section
section
variable {P:Program} {T:Tab} {e:Env} {S:Store} {Q:Exit→Env→Store→Prop} {b:Code}
def zlo (P:Program) (T:Tab) (ds:List (Option Tmp)) (pd:List (Option Tmp)) (keep:List Nat) (l2:List Oper):List Oper→Env→Store→(Env→Store→Prop)→Prop
 | [],e,S,K=>za7 false P T ds l2 e S K
 | o::r,e,S,K =>
  if pd.contains o.dst then zep o.op=true∧o.guard=none∧∃ v,(∀ S',Keeps keep S S'→zdk T S' e o.op=some v)∧zlo P T ds pd keep l2 r (e.put o.dst v) S K
  else za7 false P T ds [o] e S fun e' S'=>Keeps keep S S'∧zlo P T ds pd keep l2 r e' S' K
theorem Keeps.refl (keep:List Nat) (S:Store):Keeps keep S S:=fun _ _=>rfl
theorem zan {S S':Store}:Keeps [] S S'=True:=eq_true fun _ h=>by cases h
theorem zah {o:Nat} {k:List Nat} {S S':Store}:Keeps (o::k) S S'=(S'.obs[o]?=S.obs[o]?∧Keeps k S S'):=by
 apply propext; constructor
 ·exact fun h=>⟨h o (by simp),fun x hx=>h x (by simp [hx])⟩
 rintro ⟨h1,h2⟩ x hx
 rcases List.mem_cons.1 hx with rfl | hx
 ·exact h1
 exact h2 x hx
theorem zar {ds pd:List (Option Tmp)} {keep:List Nat} {l2 r:List Oper} {o:Oper} {K:Env→Store→Prop} (h0:pd.contains o.dst=false)
  (h:za7 false P T ds [o] e S fun e' S'=>Keeps keep S S'∧zlo P T ds pd keep l2 r e' S' K):zlo P T ds pd keep l2 (o::r) e S K:=by
 rw [zlo,if_neg (by rw [h0]; exact Bool.false_ne_true)]; exact h
theorem zao {ds pd:List (Option Tmp)} {keep:List Nat} {l2 r:List Oper} {o:Oper} {K:Env→Store→Prop} (v:PV) (h0:pd.contains o.dst=true) (h1:zep o.op=true) (h2:o.guard=none)
  (h3:∀ S',Keeps keep S S'→zdk T S' e o.op=some v) (h:zlo P T ds pd keep l2 r (e.put o.dst v) S K):zlo P T ds pd keep l2 (o::r) e S K:=by
 rw [zlo,if_pos h0]; exact ⟨h1,h2,v,h3,h⟩
theorem zez {ds pd:List (Option Tmp)} {keep:List Nat} {l2:List Oper} {K:Env→Store→Prop} (h:za7 false P T ds l2 e S K):zlo P T ds pd keep l2 [] e S K:=h
theorem zni {all:List Oper} {pend:List Nat} {keep:List Nat} {K:Env→Store→Prop}:∀ (r:List Oper) (k:Nat) (e:Env) (S:Store),all.drop k=r →
  (∀ i,k≤i→i<all.length→(pend.contains i=true↔i∈zb5 all 0))→za7 false P T (dsts all) r e S K→zcs P T all.toArray (zb5 all 0) pend keep K (List.range' k r.length) e S
 | [],_,_,_,_,_,h=>h
 | o::r,k,e,S,hk,hp,h=>by
  have ho:all[k]?=some o:=by
   have:=congrArg (fun l=>l[0]?) hk
   simpa using this
  have hkl:k<all.length:=(List.getElem?_eq_some_iff.1 ho).1
  have hr:all.drop (k+1)=r:=by
   have:=congrArg (List.drop 1) hk
   simpa [List.drop_drop] using this
  have hp':∀ i,k+1≤i→i<all.length→(pend.contains i=true↔i∈zb5 all 0):=fun i h1 h2=>hp i (by omega) h2
  unfold za7 at h
  simp only[List.length_cons,List.range'_succ,zcs,List.getElem?_toArray,ho]
  rw [zjn]at h
  unfold zel
  split at h
  ·rename_i hg
   rw [hg]
   simp only
   split
   ·rename_i hc
    exact zff (fun v S' hv=>⟨.inl ((hp k (qR _) hkl).2 (by simpa using hc)),zni r (k+1) _ _ hr hp' hv⟩) (zj0 h)
   rename_i hc
   have hflat:=zhx all 0 k o ho (by simpa using hc)
   have:=znj hflat h
   rw [zdr]at this ⊢
   obtain ⟨v,h1,h2⟩:=this
   refine ⟨v,h1,?_,zni r (k+1) _ _ hr hp' h2⟩
   rw [if_neg]
   ·trivial
   intro h9; exact hc (by simpa using (hp k (qR _) hkl).1 h9)
  ·rename_i hg; rw [hg]; exact zni r (k+1) _ _ hr hp' h
  exact h.elim
theorem zob {all l2:List Oper} {pd:List (Option Tmp)} {pend keep:List Nat} {K:Env→Store→Prop} (n1:Nat) (hn1:all.drop n1=l2) (hn:n1≤all.length) (hp2:∀ i,n1≤i→i<all.length→(pend.contains i=true↔i∈zb5 all 0))
  (hp1:∀ i o,i<n1→all[i]?=some o→pend.contains i=pd.contains o.dst) :
  ∀ (r:List Oper) (k:Nat) (e:Env) (S:Store),all.drop k=r++l2→k+r.length=n1→zlo P T (dsts all) pd keep l2 r e S K →
  zcs P T all.toArray (zb5 all 0) pend keep K (List.range' k (r++l2).length) e S
 | [],k,e,S,hk,hkn,h=>by
  obtain rfl:k=n1:=by simpa using hkn
  exact zni l2 k e S hn1 hp2 h
 | o::r,k,e,S,hk,hkn,h=>by
  have ho:all[k]?=some o:=by
   have:=congrArg (fun l=>l[0]?) hk
   simpa using this
  have hkl:k<all.length:=(List.getElem?_eq_some_iff.1 ho).1
  have hr:all.drop (k+1)=r++l2:=by
   have:=congrArg (List.drop 1) hk
   simpa [List.drop_drop] using this
  have hkn':k+1+r.length=n1:=by rw [List.length_cons]at hkn; omega
  have hkp:=hp1 k o (by rw [List.length_cons]at hkn; omega) ho
  rw [List.cons_append,List.length_cons,List.range'_succ]
  simp only[zcs,List.getElem?_toArray,ho]
  unfold zlo at h
  split at h
  ·rename_i hpd
   obtain ⟨hf,hg,v,h1,h2⟩:=h
   unfold zel gdec
   rw [hg]
   simp only
   have hce:¬ ((zb5 all 0).contains k=true):=by
    intro hc
    have:=(zjj all 0 k o ho).1 (by rw [Nat.zero_add]; simpa using hc)
    rw [hf]at this; cases this
   rw [if_neg hce,zdr]
   have hfl:∀ S',Keeps keep S S'→pFl P T S' e o.op v:=by
    intro S' hS'
    have:=h1 S' hS'
    have:z7i P T S' e o.op fun u=>u=v:=by
     revert this hf
     generalize o.op=op
     intro hf this
     have hpg:zhr (zdk T S' e op) fun u=>u=v:=by rw [this]; rfl
     cases op with
     | call c =>
      obtain ⟨cal,xs,ts⟩:=c
      cases cal with
      | value f=>simp [zep]at hf
      | _=>exact hpg
     | _=>exact hpg
    obtain ⟨u,h3,rfl⟩:=zdr.1 this
    exact h3
   refine ⟨v,hfl S (Keeps.refl _ _),?_,zob n1 hn1 hn hp2 hp1 r (k+1) _ _ hr hkn' h2⟩
   split
   ·exact hfl
   trivial
  rename_i hpd
  unfold za7 at h
  rw [zjn]at h
  unfold zel
  split at h
  ·rename_i hg
   rw [hg]
   simp only
   split
   ·rename_i hc
    exact zff (fun v S' hv=>⟨.inr hv.1,zob n1 hn1 hn hp2 hp1 r (k+1) _ _ hr hkn' hv.2⟩) (zj0 h)
   rename_i hc
   have hflat:=zhx all 0 k o ho (by simpa using hc)
   have:=znj hflat h
   rw [zdr]at this ⊢
   obtain ⟨v,h1,h2⟩:=this
   refine ⟨v,h1,?_,zob n1 hn1 hn hp2 hp1 r (k+1) _ _ hr hkn' h2.2⟩
   rw [if_neg (by rw [hkp]; exact hpd)]
   trivial
  ·rename_i hg; rw [hg]
   exact zob n1 hn1 hn hp2 hp1 r (k+1) _ _ hr hkn' h.2
  exact h.elim
def zq7 (all:List Oper) (pd:List (Option Tmp)) (n1:Nat):List Nat :=
 (List.range all.length).filter fun i=>if i<n1 then (match all[i]? with | some o=>pd.contains o.dst | none=>false) else (zb5 all 0).contains i
theorem W.region_pk {id:Nat} {l:List Oper} (n1:Nat) (pd:List (Option Tmp)) (keep:List Nat) (hn:n1≤l.length) (hc:zg3 l.toArray (List.range' 0 l.length) (zb5 l 0) (zq7 l pd n1)=true)
  (h:∀ K:Env→Store→Prop,(∀ e S,Q .normal e S→K e S)→zlo P T (dsts l) pd keep (l.drop n1) (l.take n1) e S K):W P T (.region id l.toArray true) Q e S:=by
 refine W.region_any (List.range' 0 l.length) (zb5 l 0) (zq7 l pd n1) keep hc ?_
 have:=zob (pend:=zq7 l pd n1) n1 rfl hn ?_ ?_ (l.take n1) 0 e S (by simp) (by simp; omega) (h _ fun _ _ h=>h)
 ·rwa [List.take_append_drop]at this
 ·intro i h1 h2
  simp [zq7,Nat.not_lt.2 h1,h2]
 intro i o h1 h2
 have hil:=(List.getElem?_eq_some_iff.1 h2).1
 rw [Bool.eq_iff_iff]
 obtain ⟨_,rfl⟩:=List.getElem?_eq_some_iff.1 h2
 simp [zq7,h1,hil]
theorem W.seq_pk {id:Nat} {l:List Oper} (n1:Nat) (pd:List (Option Tmp)) (keep:List Nat) (hn:n1≤l.length) (hc:zg3 l.toArray (List.range' 0 l.length) (zb5 l 0) (zq7 l pd n1)=true)
  (h:∀ K:Env→Store→Prop,(∀ e S,W P T b Q e S→K e S)→zlo P T (dsts l) pd keep (l.drop n1) (l.take n1) e S K):W P T (.seq (.region id l.toArray true) b) Q e S :=
 W.seq (W.region_pk n1 pd keep hn hc fun K hK=>h K hK)
end
end
abbrev Txt:=List UInt8
def Sm (p:List Txt):Prop:=p.length≤1048576∧∀ r∈p,r.length≤1048576
theorem Sm.rows {p:List Txt} (h:Sm p):p.length<2147483648:=by have:=h.1; omega
theorem Sm.cols {p:List Txt} (h:Sm p):∀ r∈p,r.length<2147483648:=fun r hr=>by have:=h.2 r hr; omega
def zad:List Txt→Txt
 | []=>[]
 | a::_=>a
def zcj (c:UInt8):Bool:=decide (97≤c.toNat) && decide (c.toNat≤122)
def zre (w:Nat) (row:Txt):Bool:=decide (row.length=w) && decide (1≤row.length) && decide (row.length≤6) && row.all zcj
def zcr (p:List Txt):Bool:=p.all (zre (zad p).length) && decide (1≤p.length) && decide (p.length≤6)
def zfc (n:Int) (row:Txt):Int:=row.foldl (fun n c=>max n ((c.toNat:Int) - 97+1)) n
def zct (p:List Txt):Int:=p.foldl zfc 0
def zdh (s:List UInt8 × Txt) (c:UInt8):List UInt8 × Txt:=(if s.1.idxOf c=s.1.length then s.1++[c] else s.1,s.2++[UInt8.ofNat (97+s.1.idxOf c)])
def zoy (o:List UInt8) (row:Txt):List UInt8 × Txt:=row.foldl zdh (o,[])
def zmv (s:List UInt8 × List Txt) (row:Txt):List UInt8 × List Txt:=((zoy s.1 row).1,s.2++[(zoy s.1 row).2])
def zsa (p:List Txt):List UInt8 × List Txt:=p.foldl zmv ([],[])
def names (p:List Txt):List Txt:=(zsa p).2
def zja (room:Int) (c:UInt8):Bool:=decide ((c.toNat:Int) - 97=room)
def zcm (room:Int) (n:Int) (row:Txt):Int:=row.foldl (fun n c=>if zja room c then n+1 else n) n
def zeq (p:List Txt) (room:Int):Int:=p.foldl (zcm room) 0
structure Box where
 top:Int
 left:Int
 low:Int
 right:Int
def zjg (room:Int) (i:Nat) (b:Box) (q:UInt8 × Nat):Box:=if zja room q.1 then ⟨min b.top i,min b.left q.2,max b.low i,max b.right q.2⟩ else b
def z15 (room:Int) (b:Box) (q:Txt × Nat):Box:=(q.1.zipIdx).foldl (zjg room q.2) b
def zn3 (p:List Txt) (room:Int):Box:=p.zipIdx.foldl (z15 room) ⟨p.length,(zad p).length,-1,-1⟩
def zhk (p:List Txt) (room:Int):Int:=(zn3 p room).low - (zn3 p room).top+1
def zhn (p:List Txt) (room:Int):Int:=(zn3 p room).right - (zn3 p room).left+1
def zbx (p:List Txt):Bool:=zcr p && decide (names p=p) && decide (zct p≤9) && (List.range (zct p).toNat).all fun r=>decide (zeq p r=zhk p r*zhn p r)
theorem zr2 {α:Type} [DecidableEq α]:∀ {l:List α} {c:α} {n:Nat},(∀ j,j<n→l[j]?≠some c)→(n=l.length∨l[n]?=some c)→l.idxOf c=n
 | [],c,n,_,h=>by rcases h with h | h <;> simp at h ⊢; omega
 | a::l,c,0,_,h=>by
  rcases h with h | h
  ·simp at h
  simp at h; simp [h,List.idxOf_cons]
 | a::l,c,n+1,h1,h2=>by
  have h0:a≠c:=fun e=>h1 0 (by omega) (by simp [e])
  have:=zr2 (l:=l) (c:=c) (n:=n) (fun j hj=>by simpa using h1 (j+1) (by omega)) (by simpa using h2)
  rw [List.idxOf_cons,this]
  have h0':(a == c)=false:=by simpa using h0
  rw [h0']; rfl
theorem z9z {α:Type} {l:List α} {i:Nat} {a:α} (h:l[i]?=some a):(l.take (i+1)).zipIdx=(l.take i).zipIdx++[(a,i)]:=by
 have hi:=(List.getElem?_eq_some_iff.1 h).1
 rw [tk h,List.zipIdx_append]
 simp [Nat.min_eq_left (Nat.le_of_lt hi)]
theorem zia:∀ (row:Txt) (n:Int),0≤n→n≤200→0≤zfc n row∧zfc n row≤200
 | [],n,h1,h2=>⟨h1,h2⟩
 | c::row,n,h1,h2=>by
  have:=c.toNat_lt
  exact zia row (max n ((c.toNat:Int) - 97+1)) (by omega) (by omega)
theorem zkn (p:List Txt):0≤zct p∧zct p≤200:=by
 unfold zct
 have:∀ (p:List Txt) (n:Int),0≤n→n≤200→0≤p.foldl zfc n∧p.foldl zfc n≤200:=by
  intro p
  induction p with
  | nil=>exact fun n h1 h2=>⟨h1,h2⟩
  | cons row p ih=>exact fun n h1 h2=>ih _ (zia row n h1 h2).1 (zia row n h1 h2).2
 exact this p 0 (by omega) (by omega)
theorem zgm (room:Int):∀ (row:Txt) (n:Int),n≤zcm room n row∧zcm room n row≤n+row.length
 | [],n=>⟨Int.le_refl _,by simp [zcm]⟩
 | c::row,n=>by
  have h:=zgm room row (if zja room c then n+1 else n)
  have e:zcm room n (c::row)=zcm room (if zja room c then n+1 else n) row:=rfl
  rw [e,List.length_cons]
  split at h <;> rename_i hc <;> simp only[hc,if_true,if_false,qF] <;> omega
theorem zr4 (room:Int) (p:List Txt) (h:∀ r∈p,r.length≤1000):0≤zeq p room∧zeq p room≤1000*p.length:=by
 have:∀ (p:List Txt) (n:Int),(∀ r∈p,r.length≤1000)→n≤p.foldl (zcm room) n∧p.foldl (zcm room) n≤n+1000*p.length:=by
  intro p
  induction p with
  | nil=>intro n _; simp
  | cons row p ih =>
   intro n h
   have h1:=zgm room row n
   have h2:=ih (zcm room n row) fun r hr=>h r (by simp [hr])
   have h3:=h row (by simp)
   simp only[List.foldl_cons,List.length_cons]
   omega
 have:=this p 0 h
 unfold zeq
 omega
def zho (p:List Txt) (room:Int) (i:Nat):Box:=((p.take i).zipIdx).foldl (z15 room) ⟨p.length,(zad p).length,-1,-1⟩
def zla (room:Int) (i:Nat) (b:Box) (row:Txt) (k:Nat):Box:=((row.take k).zipIdx).foldl (zjg room i) b
theorem zkb {p:List Txt} {room:Int}:zho p room p.length=zn3 p room:=by simp [zho,zn3]
theorem zlm {p:List Txt} {room:Int} {i:Nat} {row:Txt} (h:p[i]?=some row):zho p room (i+1)=zla room i (zho p room i) row row.length:=by
 simp [zho,z9z h,List.foldl_append,z15,zla]
theorem ziv {room:Int} {i k:Nat} {b:Box} {row:Txt} {c:UInt8} (h:row[k]?=some c):zla room i b row (k+1)=zjg room i (zla room i b row k) (c,k):=by
 simp [zla,z9z h,List.foldl_append]
def Box.In (M:Nat) (b:Box):Prop := -1≤b.top∧b.top≤M ∧ -1≤b.left∧b.left≤M ∧ -1≤b.low∧b.low≤M ∧ -1≤b.right∧b.right≤M
theorem zpf {M:Nat} {room:Int} {i:Nat} (hi:i≤M) {row:Txt} (hr:row.length≤M):∀ (k:Nat) {b:Box},b.In M→k≤row.length→(zla room i b row k).In M
 | 0,b,h,_=>by simpa [zla] using h
 | k+1,b,h,hk=>by
  obtain ⟨c,hc,-⟩:=zag (show k<row.length by omega)
  have ih:=zpf (room:=room) hi hr k h (by omega)
  rw [ziv hc]
  unfold zjg
  split
  ·simp only[Box.In]at ih ⊢; omega
  exact ih
theorem zjh {M:Nat} {p:List Txt} (room:Int) (hp:p.length≤M) (hr:∀ r∈p,r.length≤M):∀ i,i≤p.length→(zho p room i).In M
 | 0,_=>by
  have:(zad p).length≤M:=by cases p with | nil=>exact Nat.zero_le _ | cons a p=>exact hr a (by simp)
  simp only[zho,List.take_zero,List.zipIdx_nil,List.foldl_nil,Box.In]
  omega
 | i+1,h=>by
  obtain ⟨row,hrow,hm⟩:=zag (show i<p.length by omega)
  rw [zlm hrow]
  exact zpf (by omega) (hr row hm) _ (zjh room hp hr i (by omega)) (qR _)
theorem z16 {p:List Txt} (room:Int) (hp:p.length≤6) (hr:∀ r∈p,r.length≤6) : -8≤zhk p room∧zhk p room≤8 ∧ -8≤zhn p room∧zhn p room≤8 ∧ -64≤zhk p room*zhn p room∧zhk p room*zhn p room≤64:=by
 have h:=zjh room hp hr p.length (qR _)
 rw [zkb]at h
 simp only[Box.In]at h
 have h1:(zhk p room).natAbs≤8:=by unfold zhk; omega
 have h2:(zhn p room).natAbs≤8:=by unfold zhn; omega
 have h3:=Nat.mul_le_mul h1 h2
 rw [← Int.natAbs_mul]at h3
 omega
theorem zdz {p:List Txt} (h:zcr p=true):0<p.length∧p.length≤6∧∀ r∈p,r.length≤6:=by
 unfold zcr at h
 simp only[qB,decide_eq_true_eq,List.all_eq_true]at h
 refine ⟨by omega,by omega,fun r hr=>?_⟩
 have:=h.1.1 r hr
 simp only[zre,qB,decide_eq_true_eq]at this
 omega
theorem zd7 {p:List Txt} {row:Txt} (h:p[0]?=some row):zad p=row:=by
 cases p with
 | nil=>simp at h
 | cons a p=>simpa [zad] using h
theorem znl {p:List Txt} {i:Nat} {row:Txt} (h:p[i]?=some row) (hb:zre (zad p).length row=false):zcr p=false:=by
 unfold zcr
 have:p.all (zre (zad p).length)=false:=by
  rw [List.all_eq_false]
  exact ⟨row,List.mem_of_getElem? h,by simp [hb]⟩
 rw [this]; rfl
theorem z21 {p:List Txt} (h:p.all (zre (zad p).length)=true):zcr p=(decide (1≤p.length) && decide (p.length≤6)):=by
 unfold zcr; rw [h]; rfl
theorem zxp {α:Type} {f:α→Bool} {l:List α} {i:Nat} {a:α} (h:l[i]?=some a) (h1:(l.take i).all f=true) (h2:f a=true):(l.take (i+1)).all f=true:=by
 rw [tk h,List.all_append,h1]; simp [h2]
theorem zlc {w k:Nat} {row:Txt} {c:UInt8} (h:row[k]?=some c) (hb:zcj c=false):zre w row=false:=by
 unfold zre
 have:row.all zcj=false:=by
  rw [List.all_eq_false]
  exact ⟨c,List.mem_of_getElem? h,by simp [hb]⟩
 rw [this]; simp
theorem ycs (n:Nat):(decide ((1:Int)≤n) && decide ((n:Int)≤6))=(decide (1≤n) && decide (n≤6)):=by
 congr 1 <;> (apply decide_eq_decide.2; omega)
def zk8 (o:List UInt8) (row:Txt) (k:Nat):List UInt8 × Txt:=(row.take k).foldl zdh (o,[])
def zej (p:List Txt) (i:Nat):List UInt8 × List Txt:=(p.take i).foldl zmv ([],[])
theorem zl4 {o:List UInt8} {row:Txt} {k:Nat} {c:UInt8} (h:row[k]?=some c):zk8 o row (k+1)=zdh (zk8 o row k) c:=by
 simp [zk8,tk h,List.foldl_append]
theorem zll {p:List Txt} {i:Nat} {row:Txt} (h:p[i]?=some row):zej p (i+1)=((zk8 (zej p i).1 row row.length).1,(zej p i).2++[(zk8 (zej p i).1 row row.length).2]):=by
 simp [zej,tk h,List.foldl_append,zmv,zk8,zoy]
theorem zs9 {p:List Txt}:(zej p p.length).2=names p:=by simp [zej,names,zsa]
theorem zk9 {o:List UInt8} {row:Txt}:∀ {k:Nat},k≤row.length→(zk8 o row k).2.length=k∧(zk8 o row k).1.length≤o.length+k
 | 0,_=>⟨rfl,qR _⟩
 | k+1,h=>by
  obtain ⟨c,hc,-⟩:=zag (show k<row.length by omega)
  have ih:=zk9 (o:=o) (row:=row) (k:=k) (by omega)
  rw [zl4 hc]
  unfold zdh
  simp only[List.length_append,List.length_singleton]
  split
  ·simp only[List.length_append,List.length_singleton]; omega
  omega
theorem znz {p:List Txt} (hr:∀ r∈p,r.length≤1048576):∀ {i:Nat},i≤p.length→(zej p i).2.length=i∧(zej p i).1.length≤1048576*i
 | 0,_=>⟨rfl,qR _⟩
 | i+1,h=>by
  obtain ⟨row,hrow,hm⟩:=zag (show i<p.length by omega)
  have ih:=znz hr (i:=i) (by omega)
  have h1:=zk9 (o:=(zej p i).1) (row:=row) (qR _)
  have h2:=hr row hm
  rw [zll hrow]
  simp only[List.length_append,List.length_singleton]
  omega
theorem z7c {s:List UInt8 × Txt} {c:UInt8} {a:Nat} (ha:s.1.idxOf c=a) (hl:a=s.1.length):zdh s c=(s.1++[c],s.2++[UInt8.ofNat (97+a)]):=by
 simp [zdh,ha,hl]
theorem z7d {s:List UInt8 × Txt} {c:UInt8} {a:Nat} (ha:s.1.idxOf c=a) (hl:a<s.1.length):zdh s c=(s.1,s.2++[UInt8.ofNat (97+a)]):=by
 have:¬ a=s.1.length:=by omega
 simp [zdh,ha,this]
theorem zp9 {p:List Txt} (hr:∀ r∈p,r.length≤1048576):∀ {i:Nat},i≤p.length→∀ r∈(zej p i).2,r.length≤1048576
 | 0,_,r,h=>by simp [zej]at h
 | i+1,hi,r,h=>by
  obtain ⟨row,hrow,hm⟩:=zag (show i<p.length by omega)
  rw [zll hrow]at h
  rcases List.mem_append.1 h with h | h
  ·exact zp9 hr (by omega) r h
  have:=(zk9 (o:=(zej p i).1) (row:=row) (qR _)).1
  have h2:=hr row hm
  simp only[List.mem_singleton]at h
  rw [h]; omega
theorem Sm.names {p:List Txt} (h:Sm p):Sm (names p):=by
 rw [← zs9]
 exact ⟨by rw [(znz h.2 (qR _)).1]; exact h.1,zp9 h.2 (qR _)⟩
def z4y (p:List Txt) (r:Nat):Bool:=decide (zeq p r=zhk p r*zhn p r)
theorem znq {p:List Txt} (h:zcr p=false∨decide (names p=p)=false∨9<zct p):zbx p=false:=by
 unfold zbx
 rcases h with h | h | h
 ·simp [h]
 ·rw [h]; simp
 have:decide (zct p≤9)=false:=by simp; omega
 rw [this]; simp
theorem zy5 {p:List Txt} (h1:zcr p=true) (h2:decide (names p=p)=true) (h3:zct p≤9) {R:Nat} (hR:zct p=R):zbx p=(List.range R).all (z4y p):=by
 have h4:decide (zct p≤9)=true:=by simpa using h3
 unfold zbx
 rw [h1,h2,h4,hR]
 rfl
def ya1 (cs:List UInt8) (cx:UInt8) (y:Nat):Bool:=(cs.take y).all fun z=>decide (cx≠z)
def ya0 (cs:List UInt8) (x:Nat):Bool :=
 match cs[x]? with
 | some cx=>ya1 cs cx x
 | none=>false
def zkd (cs:List UInt8):Nat→Int
 | 0=>0
 | x+1=>zkd cs x+if ya0 cs x then 1 else 0
theorem ztp (cs:List UInt8):∀ x,0≤zkd cs x∧zkd cs x≤x
 | 0=>by simp [zkd]
 | x+1=>by have:=ztp cs x; unfold zkd; split <;> omega
def zlv (p:List Txt) (i k:Nat):Int :=
 match p[i - 1]?,p[i]? with
 | some r1,some r2 =>
  match r1[k - 1]?,r1[k]?,r2[k - 1]?,r2[k]? with
  | some a,some b,some c,some d=>zkd [a,b,c,d] 4
  | _,_,_,_=>0
 | _,_=>0
def zhl (p:List Txt) (many:Int) (i:Nat):Nat→Int
 | 0=>0
 | k+1=>zhl p many i k+if 1≤k∧zlv p i k=many then 1 else 0
def zp2 (p:List Txt) (many:Int) (w:Nat):Nat→Int
 | 0=>0
 | i+1=>zp2 p many w i+if 1≤i then zhl p many i w else 0
theorem zgf (p:List Txt) (many:Int) (i:Nat):∀ k,0≤zhl p many i k∧zhl p many i k≤k
 | 0=>by simp [zhl]
 | k+1=>by have:=zgf p many i k; unfold zhl; split <;> omega
def points (p:List Txt) (many:Int):Int:=zp2 p many (zad p).length p.length
def zak (p:List Txt):Bool:=zbx p && decide (points p 4=0)
theorem zha {p:List Txt} (h:zcr p=true) {i:Nat} {row:Txt} (hr:p[i]?=some row):row.length=(zad p).length:=by
 unfold zcr at h
 simp only[qB,decide_eq_true_eq,List.all_eq_true]at h
 have:=h.1.1 row (List.mem_of_getElem? hr)
 simp only[zre,qB,decide_eq_true_eq]at this
 omega
theorem zc0 {p:List Txt} (h:zbx p=true):zcr p=true:=by
 unfold zbx at h; simp only[qB]at h; exact h.1.1.1
theorem zpg {p:List Txt} (h:zcr p=true) {i:Nat} {row:Txt} (hr:p[i]?=some row):1≤row.length:=by
 unfold zcr at h
 simp only[qB,decide_eq_true_eq,List.all_eq_true]at h
 have:=h.1.1 row (List.mem_of_getElem? hr)
 simp only[zre,qB,decide_eq_true_eq]at this
 omega
def zm8 (p:List Txt) (k i:Nat):Txt:=(p.take i).map fun row=>row.getD k 0
def zi4 (p:List Txt) (k:Nat):List Txt:=(List.range k).map fun j=>zm8 p j p.length
def zb2 (p:List Txt):List Txt:=zi4 p (zad p).length
theorem zz6 {p:List Txt} {k i:Nat} {row:Txt} {c:UInt8} (h:p[i]?=some row) (hc:row[k]?=some c):zm8 p k (i+1)=zm8 p k i++[c]:=by
 simp [zm8,tk h,List.getD_eq_getElem?_getD,hc]
theorem zn7 {p:List Txt} {k i:Nat} (h:i≤p.length):(zm8 p k i).length=i:=by simp [zm8]; omega
theorem zwc {p:List Txt} {k:Nat}:zi4 p (k+1)=zi4 p k++[zm8 p k p.length]:=by simp [zi4,qS]
theorem zii {p:List Txt} {k:Nat}:(zi4 p k).length=k:=by simp [zi4]
def zvb (l:List Int) (x:Int):List Int:=if l.getLast?=some x then l else l++[x]
def zam (p:List Txt) (i k:Nat):Int:=(((p[i]?.getD [])[k]?.getD 0).toNat:Int) - 97
theorem zdq {p:List Txt} {i k:Nat} {row:Txt} {c:UInt8} (h:p[i]?=some row) (hc:row[k]?=some c):zam p i k=(c.toNat:Int) - 97:=by
 simp [zam,h,hc]
def z5a (p:List Txt) (kind line fr:Nat):Nat→List Int × List Int
 | 0=>([],[])
 | n+1 =>
  let s:=z5a p kind line fr n
  if kind=0 then (zvb s.1 (zam p (fr+n) (line - 1)),zvb s.2 (zam p (fr+n) line))
  else (zvb s.1 (zam p (line - 1) (fr+n)),zvb s.2 (zam p line (fr+n)))
def ydg (p:List Txt) (k i:Nat):Bool:=decide (i<p.length) && decide (zam p i (k - 1)≠zam p i k)
def ydd (wall:Bool) (k i:Nat) (s:Int × List (List Int)):Int × List (List Int) :=
 let f:=if wall && decide (s.1<0) then (i:Int) else s.1
 if !wall && decide (0≤f) then (-1,s.2++[[(k:Int),f,i - f]]) else (f,s.2)
def upTo (p:List Txt) (k:Nat) (s0:List (List Int)):Nat→Int × List (List Int)
 | 0=>(-1,s0)
 | i+1=>ydd (ydg p k i) k i (upTo p k s0 i)
def yb1 (p:List Txt):Nat→List (List Int)
 | 0=>[]
 | k+1=>if 1≤k then (upTo p k (yb1 p k) (p.length+1)).2 else yb1 p k
def uprights (p:List Txt):List (List Int):=yb1 p (zad p).length
theorem yd3 {a b:UInt8}:(a=b)=((a.toNat:Int)=b.toNat):=by
 apply propext; constructor
 ·rintro rfl; rfl
 intro h; exact UInt8.toNat_inj.1 (by omega)
theorem z13 {a b:Int}:(a != b) = !decide (a=b):=by by_cases h:a=b <;> simp [h]
theorem zqz {S:Store} {k:Nat} (l:List (List Int)):(l.map eInts).mapM (reify S true (k+1))=some (l.map eInts) :=
 zbq fun x hx=>by obtain ⟨a,_,rfl⟩:=List.mem_map.1 hx; simp [eInts,reify]
def ybr:List (Nat × TI):=[
 (1,⟨.func,1,8,[.nilf]⟩),
 (2,⟨.int .i64,1,8,[.int .i64 0]⟩),
 (3,⟨.int .i64,1,8,[.int .i64 0]⟩),
 (4,⟨.bool,1,1,[.bool false]⟩),
 (5,⟨.int .u8,1,1,[.int .u8 0]⟩),
 (6,⟨.int .u8,1,1,[.int .u8 0]⟩),
 (7,⟨.struct [(0,2),(1,3),(2,4),(3,6)],4,24,[.int .i64 0,.int .i64 0,.bool false,.int .u8 0]⟩),
 (8,⟨.struct [(0,2),(1,3),(2,4),(3,6)],4,24,[.int .i64 0,.int .i64 0,.bool false,.int .u8 0]⟩),
 (9,⟨.str,1,16,[.str []]⟩),
 (10,⟨.str,1,16,[.str []]⟩),
 (11,⟨.str,1,16,[.str []]⟩),
 (12,⟨.int .u64,1,8,[.int .u64 0]⟩),
 (13,⟨.struct [(0,9),(1,12)],2,24,[.str [],.int .u64 0]⟩),
 (14,⟨.struct [(0,9),(1,12)],2,24,[.str [],.int .u64 0]⟩),
 (15,⟨.ptr 219,1,8,[.nilp]⟩),
 (16,⟨.ptr 222,1,8,[.nilp]⟩),
 (17,⟨.ptr 229,1,8,[.nilp]⟩),
 (18,⟨.struct [(0,17)],1,8,[.nilp]⟩),
 (19,⟨.struct [(0,17)],1,8,[.nilp]⟩),
 (21,⟨.int .i32,1,4,[.int .i32 0]⟩),
 (22,⟨.slice 5,1,24,[.nils]⟩),
 (23,⟨.func,1,8,[.nilf]⟩),
 (24,⟨.slice 9,1,24,[.nils]⟩),
 (26,⟨.func,1,8,[.nilf]⟩),
 (27,⟨.func,1,8,[.nilf]⟩),
 (28,⟨.func,1,8,[.nilf]⟩),
 (29,⟨.func,1,8,[.nilf]⟩),
 (30,⟨.func,1,8,[.nilf]⟩),
 (31,⟨.slice 3,1,24,[.nils]⟩),
 (33,⟨.func,1,8,[.nilf]⟩),
 (34,⟨.func,1,8,[.nilf]⟩),
 (35,⟨.func,1,8,[.nilf]⟩),
 (36,⟨.func,1,8,[.nilf]⟩),
 (37,⟨.func,1,8,[.nilf]⟩),
 (39,⟨.func,1,8,[.nilf]⟩),
 (40,⟨.func,1,8,[.nilf]⟩),
 (41,⟨.ptr 85,1,8,[.nilp]⟩),
 (42,⟨.func,1,8,[.nilf]⟩),
 (43,⟨.ptr 75,1,8,[.nilp]⟩),
 (45,⟨.func,1,8,[.nilf]⟩),
 (46,⟨.func,1,8,[.nilf]⟩),
 (47,⟨.slice 49,1,24,[.nils]⟩),
 (48,⟨.struct [(0,5),(1,47)],2,32,[.int .u8 0,.nils]⟩),
 (49,⟨.struct [(0,5),(1,47)],2,32,[.int .u8 0,.nils]⟩),
 (51,⟨.func,1,8,[.nilf]⟩),
 (52,⟨.func,1,8,[.nilf]⟩),
 (53,⟨.func,1,8,[.nilf]⟩),
 (54,⟨.func,1,8,[.nilf]⟩),
 (55,⟨.func,1,8,[.nilf]⟩),
 (56,⟨.func,1,8,[.nilf]⟩),
 (57,⟨.func,1,8,[.nilf]⟩),
 (58,⟨.func,1,8,[.nilf]⟩),
 (59,⟨.func,1,8,[.nilf]⟩),
 (60,⟨.func,1,8,[.nilf]⟩),
 (61,⟨.func,1,8,[.nilf]⟩),
 (62,⟨.slice 159,1,24,[.nils]⟩),
 (63,⟨.slice 159,1,24,[.nils]⟩),
 (64,⟨.struct [(0,63),(1,63)],2,48,[.nils,.nils]⟩),
 (65,⟨.struct [(0,63),(1,63)],2,48,[.nils,.nils]⟩),
 (67,⟨.func,1,8,[.nilf]⟩),
 (68,⟨.func,1,8,[.nilf]⟩),
 (69,⟨.ptr 131,1,8,[.nilp]⟩),
 (70,⟨.func,1,8,[.nilf]⟩),
 (71,⟨.slice 31,1,24,[.nils]⟩),
 (72,⟨.slice 31,1,24,[.nils]⟩),
 (73,⟨.slice 79,1,24,[.nils]⟩),
 (74,⟨.struct [(0,72),(1,73)],2,48,[.nils,.nils]⟩),
 (75,⟨.struct [(0,72),(1,73)],2,48,[.nils,.nils]⟩),
 (77,⟨.func,1,8,[.nilf]⟩),
 (78,⟨.struct [(0,3),(1,3),(2,3),(3,3)],4,32,[.int .i64 0,.int .i64 0,.int .i64 0,.int .i64 0]⟩),
 (79,⟨.struct [(0,3),(1,3),(2,3),(3,3)],4,32,[.int .i64 0,.int .i64 0,.int .i64 0,.int .i64 0]⟩),
 (80,⟨.struct [(0,43),(1,79)],5,40,[.nilp,.int .i64 0,.int .i64 0,.int .i64 0,.int .i64 0]⟩),
 (81,⟨.struct [(0,43),(1,79)],5,40,[.nilp,.int .i64 0,.int .i64 0,.int .i64 0,.int .i64 0]⟩),
 (82,⟨.func,1,8,[.nilf]⟩),
 (83,⟨.slice 41,1,24,[.nils]⟩),
 (84,⟨.struct [(0,5),(1,83)],2,32,[.int .u8 0,.nils]⟩),
 (85,⟨.struct [(0,5),(1,83)],2,32,[.int .u8 0,.nils]⟩),
 (86,⟨.func,1,8,[.nilf]⟩),
 (87,⟨.struct [(0,4),(1,81),(6,81)],11,88,[.bool false,.nilp,.int .i64 0,.int .i64 0,.int .i64 0,.int .i64 0,.nilp,.int .i64 0,.int .i64 0,.int .i64 0,.int .i64 0]⟩),
 (88,⟨.struct [(0,4),(1,81),(6,81)],11,88,[.bool false,.nilp,.int .i64 0,.int .i64 0,.int .i64 0,.int .i64 0,.nilp,.int .i64 0,.int .i64 0,.int .i64 0,.int .i64 0]⟩),
 (89,⟨.func,1,8,[.nilf]⟩),
 (90,⟨.func,1,8,[.nilf]⟩),
 (91,⟨.func,1,8,[.nilf]⟩),
 (92,⟨.func,1,8,[.nilf]⟩),
 (93,⟨.func,1,8,[.nilf]⟩),
 (94,⟨.func,1,8,[.nilf]⟩),
 (95,⟨.ptr 97,1,8,[.nilp]⟩),
 (96,⟨.struct [(0,9)],1,16,[.str []]⟩),
 (97,⟨.struct [(0,9)],1,16,[.str []]⟩),
 (98,⟨.slice 43,1,24,[.nils]⟩),
 (99,⟨.func,1,8,[.nilf]⟩),
 (100,⟨.func,1,8,[.nilf]⟩),
 (101,⟨.func,1,8,[.nilf]⟩),
 (102,⟨.ptr 104,1,8,[.nilp]⟩),
 (103,⟨.struct [(0,102),(1,22)],2,32,[.nilp,.nils]⟩),
 (104,⟨.struct [(0,102),(1,22)],2,32,[.nilp,.nils]⟩),
 (107,⟨.func,1,8,[.nilf]⟩),
 (108,⟨.func,1,8,[.nilf]⟩),
 (110,⟨.func,1,8,[.nilf]⟩),
 (111,⟨.func,1,8,[.nilf]⟩),
 (112,⟨.func,1,8,[.nilf]⟩),
 (113,⟨.func,1,8,[.nilf]⟩),
 (114,⟨.func,1,8,[.nilf]⟩),
 (115,⟨.func,1,8,[.nilf]⟩),
 (116,⟨.func,1,8,[.nilf]⟩),
 (117,⟨.func,1,8,[.nilf]⟩),
 (118,⟨.func,1,8,[.nilf]⟩),
 (119,⟨.func,1,8,[.nilf]⟩),
 (120,⟨.func,1,8,[.nilf]⟩),
 (121,⟨.func,1,8,[.nilf]⟩),
 (122,⟨.func,1,8,[.nilf]⟩),
 (123,⟨.func,1,8,[.nilf]⟩),
 (124,⟨.func,1,8,[.nilf]⟩),
 (125,⟨.func,1,8,[.nilf]⟩),
 (126,⟨.func,1,8,[.nilf]⟩),
 (127,⟨.func,1,8,[.nilf]⟩),
 (128,⟨.arr 4 3,4,32,[.int .i64 0,.int .i64 0,.int .i64 0,.int .i64 0]⟩),
 (129,⟨.func,1,8,[.nilf]⟩),
 (130,⟨.struct [(0,22),(1,3)],2,32,[.nils,.int .i64 0]⟩),
 (131,⟨.struct [(0,22),(1,3)],2,32,[.nils,.int .i64 0]⟩),
 (133,⟨.func,1,8,[.nilf]⟩),
 (135,⟨.func,1,8,[.nilf]⟩),
 (137,⟨.func,1,8,[.nilf]⟩),
 (138,⟨.func,1,8,[.nilf]⟩),
 (139,⟨.func,1,8,[.nilf]⟩),
 (140,⟨.func,1,8,[.nilf]⟩),
 (141,⟨.func,1,8,[.nilf]⟩),
 (142,⟨.func,1,8,[.nilf]⟩),
 (143,⟨.map 3 3,1,8,[.nilm]⟩),
 (145,⟨.func,1,8,[.nilf]⟩),
 (146,⟨.ptr 5,1,8,[.nilp]⟩),
 (147,⟨.func,1,8,[.nilf]⟩),
 (148,⟨.func,1,8,[.nilf]⟩),
 (149,⟨.func,1,8,[.nilf]⟩),
 (150,⟨.func,1,8,[.nilf]⟩),
 (151,⟨.func,1,8,[.nilf]⟩),
 (152,⟨.func,1,8,[.nilf]⟩),
 (153,⟨.slice 156,1,24,[.nils]⟩),
 (154,⟨.func,1,8,[.nilf]⟩),
 (155,⟨.struct [(0,4),(1,3),(2,3),(3,3)],4,32,[.bool false,.int .i64 0,.int .i64 0,.int .i64 0]⟩),
 (156,⟨.struct [(0,4),(1,3),(2,3),(3,3)],4,32,[.bool false,.int .i64 0,.int .i64 0,.int .i64 0]⟩),
 (158,⟨.func,1,8,[.nilf]⟩),
 (159,⟨.slice 4,1,24,[.nils]⟩),
 (160,⟨.func,1,8,[.nilf]⟩),
 (161,⟨.func,1,8,[.nilf]⟩),
 (162,⟨.func,1,8,[.nilf]⟩),
 (163,⟨.func,1,8,[.nilf]⟩),
 (164,⟨.func,1,8,[.nilf]⟩),
 (165,⟨.func,1,8,[.nilf]⟩),
 (167,⟨.func,1,8,[.nilf]⟩),
 (168,⟨.func,1,8,[.nilf]⟩),
 (169,⟨.func,1,8,[.nilf]⟩),
 (171,⟨.func,1,8,[.nilf]⟩),
 (172,⟨.func,1,8,[.nilf]⟩),
 (173,⟨.func,1,8,[.nilf]⟩),
 (174,⟨.func,1,8,[.nilf]⟩),
 (175,⟨.func,1,8,[.nilf]⟩),
 (176,⟨.func,1,8,[.nilf]⟩),
 (177,⟨.func,1,8,[.nilf]⟩),
 (178,⟨.int .u64,1,8,[.int .u64 0]⟩),
 (179,⟨.func,1,8,[.nilf]⟩),
 (180,⟨.func,1,8,[.nilf]⟩),
 (181,⟨.func,1,8,[.nilf]⟩),
 (182,⟨.func,1,8,[.nilf]⟩),
 (183,⟨.func,1,8,[.nilf]⟩),
 (184,⟨.func,1,8,[.nilf]⟩),
 (185,⟨.func,1,8,[.nilf]⟩),
 (186,⟨.int .i64,1,8,[.int .i64 0]⟩),
 (188,⟨.func,1,8,[.nilf]⟩),
 (189,⟨.func,1,8,[.nilf]⟩),
 (190,⟨.func,1,8,[.nilf]⟩),
 (191,⟨.func,1,8,[.nilf]⟩),
 (192,⟨.func,1,8,[.nilf]⟩),
 (193,⟨.int .u32,1,4,[.int .u32 0]⟩),
 (194,⟨.func,1,8,[.nilf]⟩),
 (195,⟨.int .u64,1,8,[.int .u64 0]⟩),
 (196,⟨.func,1,8,[.nilf]⟩),
 (198,⟨.func,1,8,[.nilf]⟩),
 (199,⟨.func,1,8,[.nilf]⟩),
 (200,⟨.func,1,8,[.nilf]⟩),
 (201,⟨.func,1,8,[.nilf]⟩),
 (202,⟨.func,1,8,[.nilf]⟩),
 (203,⟨.func,1,8,[.nilf]⟩),
 (204,⟨.int .u64,1,8,[.int .u64 0]⟩),
 (205,⟨.func,1,8,[.nilf]⟩),
 (206,⟨.func,1,8,[.nilf]⟩),
 (207,⟨.func,1,8,[.nilf]⟩),
 (208,⟨.ptr 3,1,8,[.nilp]⟩),
 (209,⟨.func,1,8,[.nilf]⟩),
 (210,⟨.func,1,8,[.nilf]⟩),
 (211,⟨.func,1,8,[.nilf]⟩),
 (212,⟨.func,1,8,[.nilf]⟩),
 (213,⟨.func,1,8,[.nilf]⟩),
 (214,⟨.func,1,8,[.nilf]⟩),
 (215,⟨.ptr 204,1,8,[.nilp]⟩),
 (216,⟨.func,1,8,[.nilf]⟩),
 (217,⟨.func,1,8,[.nilf]⟩),
 (218,⟨.struct [(0,17),(1,17),(2,17),(3,9)],4,40,[.nilp,.nilp,.nilp,.str []]⟩),
 (219,⟨.struct [(0,17),(1,17),(2,17),(3,9)],4,40,[.nilp,.nilp,.nilp,.str []]⟩),
 (220,⟨.arr 0 16,0,0,[]⟩),
 (221,⟨.struct [(0,220)],0,0,[]⟩),
 (222,⟨.struct [(0,220)],0,0,[]⟩),
 (223,⟨.int .u8,1,1,[.int .u8 0]⟩),
 (224,⟨.int .u8,1,1,[.int .u8 0]⟩),
 (225,⟨.func,1,8,[.nilf]⟩),
 (226,⟨.int .i32,1,4,[.int .i32 0]⟩),
 (227,⟨.int .i32,1,4,[.int .i32 0]⟩),
 (228,⟨.struct [(0,12),(1,12),(2,193),(3,223),(4,5),(5,5),(6,224),(7,225),(8,146),(9,226),(10,227)],11,48,[.int .u64 0,.int .u64 0,.int .u32 0,.int .u8 0,.int .u8 0,.int .u8 0,.int .u8 0,.nilf,.nilp,.int .i32 0,.int .i32 0]⟩),
 (229,⟨.struct [(0,12),(1,12),(2,193),(3,223),(4,5),(5,5),(6,224),(7,225),(8,146),(9,226),(10,227)],11,48,[.int .u64 0,.int .u64 0,.int .u32 0,.int .u8 0,.int .u8 0,.int .u8 0,.int .u8 0,.nilf,.nilp,.int .i32 0,.int .i32 0]⟩)]
def tab:Tab:=lk ybr
theorem zav:zbb Tryz.prog tab:=yc9 (by kernel_rfl)
theorem mixed:Tryz.prog.follows .mixedOrders=true:=Checked.mixed Tryz.checked
theorem zaa:tab 3=⟨.int .i64,1,8,[.int .i64 0]⟩:=by kernel_rfl
theorem za6:tab 4=⟨.bool,1,1,[.bool false]⟩:=by kernel_rfl
theorem za0:tab 5=⟨.int .u8,1,1,[.int .u8 0]⟩:=by kernel_rfl
theorem zab:tab 9=⟨.str,1,16,[.str []]⟩:=by kernel_rfl
theorem yby:tab 21=⟨.int .i32,1,4,[.int .i32 0]⟩:=by kernel_rfl
theorem ty6:tab 22=⟨.slice 5,1,24,[.nils]⟩:=by kernel_rfl
theorem ty5:tab 24=⟨.slice 9,1,24,[.nils]⟩:=by kernel_rfl
theorem zaf:tab 31=⟨.slice 3,1,24,[.nils]⟩:=by kernel_rfl
theorem ty8:tab 41=⟨.ptr 85,1,8,[.nilp]⟩:=by kernel_rfl
theorem ty7:tab 43=⟨.ptr 75,1,8,[.nilp]⟩:=by kernel_rfl
theorem ty4:tab 47=⟨.slice 49,1,24,[.nils]⟩:=by kernel_rfl
theorem zee:tab 48=⟨.struct [(0,5),(1,47)],2,32,[.int .u8 0,.nils]⟩:=by kernel_rfl
theorem zed:tab 49=⟨.struct [(0,5),(1,47)],2,32,[.int .u8 0,.nils]⟩:=by kernel_rfl
theorem ty0:tab 71=⟨.slice 31,1,24,[.nils]⟩:=by kernel_rfl
theorem zb4:tab 72=⟨.slice 31,1,24,[.nils]⟩:=by kernel_rfl
theorem ty3:tab 73=⟨.slice 79,1,24,[.nils]⟩:=by kernel_rfl
theorem zd4:tab 74=⟨.struct [(0,72),(1,73)],2,48,[.nils,.nils]⟩:=by kernel_rfl
theorem zd3:tab 75=⟨.struct [(0,72),(1,73)],2,48,[.nils,.nils]⟩:=by kernel_rfl
theorem zat:tab 78=⟨.struct [(0,3),(1,3),(2,3),(3,3)],4,32,[.int .i64 0,.int .i64 0,.int .i64 0,.int .i64 0]⟩:=by kernel_rfl
theorem zas:tab 79=⟨.struct [(0,3),(1,3),(2,3),(3,3)],4,32,[.int .i64 0,.int .i64 0,.int .i64 0,.int .i64 0]⟩:=by kernel_rfl
theorem zbg:tab 80=⟨.struct [(0,43),(1,79)],5,40,[.nilp,.int .i64 0,.int .i64 0,.int .i64 0,.int .i64 0]⟩:=by kernel_rfl
theorem zbf:tab 81=⟨.struct [(0,43),(1,79)],5,40,[.nilp,.int .i64 0,.int .i64 0,.int .i64 0,.int .i64 0]⟩:=by kernel_rfl
theorem ty2:tab 83=⟨.slice 41,1,24,[.nils]⟩:=by kernel_rfl
theorem z9u:tab 84=⟨.struct [(0,5),(1,83)],2,32,[.int .u8 0,.nils]⟩:=by kernel_rfl
theorem z9s:tab 85=⟨.struct [(0,5),(1,83)],2,32,[.int .u8 0,.nils]⟩:=by kernel_rfl
theorem zf4:tab 87=⟨.struct [(0,4),(1,81),(6,81)],11,88,[.bool false,.nilp,.int .i64 0,.int .i64 0,.int .i64 0,.int .i64 0,.nilp,.int .i64 0,.int .i64 0,.int .i64 0,.int .i64 0]⟩:=by kernel_rfl
theorem zf3:tab 88=⟨.struct [(0,4),(1,81),(6,81)],11,88,[.bool false,.nilp,.int .i64 0,.int .i64 0,.int .i64 0,.int .i64 0,.nilp,.int .i64 0,.int .i64 0,.int .i64 0,.int .i64 0]⟩:=by kernel_rfl
theorem ybx:tab 96=⟨.struct [(0,9)],1,16,[.str []]⟩:=by kernel_rfl
theorem ybw:tab 97=⟨.struct [(0,9)],1,16,[.str []]⟩:=by kernel_rfl
theorem ty1:tab 98=⟨.slice 43,1,24,[.nils]⟩:=by kernel_rfl
theorem ty9:tab 102=⟨.ptr 104,1,8,[.nilp]⟩:=by kernel_rfl
theorem yd1:tab 103=⟨.struct [(0,102),(1,22)],2,32,[.nilp,.nils]⟩:=by kernel_rfl
theorem yd0:tab 104=⟨.struct [(0,102),(1,22)],2,32,[.nilp,.nils]⟩:=by kernel_rfl
theorem z8h:tab 130=⟨.struct [(0,22),(1,3)],2,32,[.nils,.int .i64 0]⟩:=by kernel_rfl
theorem z8g:tab 131=⟨.struct [(0,22),(1,3)],2,32,[.nils,.int .i64 0]⟩:=by kernel_rfl
theorem z9t:tab 143=⟨.map 3 3,1,8,[.nilm]⟩:=by kernel_rfl
theorem z5y:tab 178=⟨.int .u64,1,8,[.int .u64 0]⟩:=by kernel_rfl
theorem ydm:tab 195=⟨.int .u64,1,8,[.int .u64 0]⟩:=by kernel_rfl
theorem z3h (n low high:Int):PC Tryz.prog 143 [.int .i64 n,.int .i64 low,.int .i64 high] (.bool (decide (low≤n) && decide (n≤high))) true:=by
 refine PC.of ⟨Tryz.func143,by kernel_rfl,rfl,by kernel_rfl⟩ zav mixed (by show 3≤Tryz.f143.ntmps; decide) ?_
 refine W.r fun K hK=>?_
 simp(disch:=omega)only[↓RU,RV,RH,↓reduceIte,qE,reduceCtorEq,if_pos]
 apply hK;clear hK K
 refine W.r fun K hK=>?_
 by_cases h:low≤n
 ·skip
  simp(disch:=omega)only[↓RU,RV,RH,↓reduceIte,qE,reduceCtorEq,if_pos,w64,zaa,ge_iff_le,h,decide_true]
  apply hK;clear hK K
  refine W.ret ?_
  refine Br rfl ?_
  simp only[decide_true,Bool.true_and,h]; rfl
 skip
 simp(disch:=omega)only[↓RU,RV,RH,↓reduceIte,qE,reduceCtorEq,if_pos,w64,zaa,ge_iff_le,h,decide_false]
 apply hK;clear hK K
 refine W.ret ?_
 refine Br rfl ?_
 simp only[decide_false,Bool.false_and,h]; rfl
theorem zqx {p:List Txt} (hs:Sm p):PC Tryz.prog 51 [zaz p] (.int .i64 (zct p)) true:=by
 have hp:=hs.rows
 have hr:=hs.cols
 refine PC.of ⟨Tryz.func51,by kernel_rfl,rfl,by kernel_rfl⟩ zav mixed (by show 1≤Tryz.f51.ntmps; decide) ?_
 refine W.r fun K hK=>?_
 simp(disch:=omega)only[↓RU,RV,RH,↓reduceIte,qE,reduceCtorEq,if_pos]
 apply hK;clear hK K
 refine W.r fun K hK=>?_
 simp(disch:=omega)only[↓RU,RV,RH,↓reduceIte,qE,reduceCtorEq,if_pos]
 apply hK;clear hK K
 refine W.seq ?_
 refine W.r fun K hK=>?_
 simp(disch:=omega)only[↓RU,RV,RH,↓reduceIte,qE,reduceCtorEq,if_pos]
 apply hK;clear hK K
 refine W.block ?_
 refine W.loop [0,3,4] (fun n vs S=>∃ i:Nat,n=p.length - i∧i≤p.length∧vs=[zaz p,.int .i64 (zct (p.take i)),.int .i64 i]∧S=⟨[],0⟩) (p.length) ?_ ?_
 ·refine ⟨0,0,rfl,Nat.zero_le _,?_,rfl⟩
  simp [Env.put,zaj,zct]
 rintro n vs S - ⟨i,rfl,h_i,rfl,rfl⟩
 refine W.seq ?_
 refine W.r fun K hK=>?_
 simp(disch:=omega)only[↓RU,RV,RH,↓reduceIte,qE,reduceCtorEq,if_pos,w64,ty5,zaa,zab]
 apply hK;clear hK K
 refine W.cond rfl (fun h=>?_) (fun h=>?_)
 ·try simp only[RL]at h
  obtain ⟨row,hrow,hrm⟩:=zag (show i<p.length by omega)
  have hrl:=hr row hrm
  refine W.skip ?_
  refine xn ?_
  refine W.seq ?_
  refine W.block ?_
  refine W.r fun K hK=>?_
  simp(disch:=omega)only[↓RU,RV,RH,↓reduceIte,qE,reduceCtorEq,if_pos]
  apply hK;clear hK K
  refine W.block ?_
  refine W.loop [0,3,4,5] (fun n vs S=>∃ k:Nat,n=row.length - k∧k≤row.length∧vs=[zaz p,.int .i64 (zfc (zct (p.take i)) (row.take k)),.int .i64 i,.int .i64 k]∧S=⟨[],0⟩) (row.length) ?_ ?_
  ·refine ⟨0,0,rfl,Nat.zero_le _,?_,rfl⟩
   simp [Env.put,Env.of,zfc]
  rintro n vs S - ⟨k,rfl,h_k,rfl,rfl⟩
  refine W.seq ?_
  refine W.r fun K hK=>?_
  simp(disch:=omega)only[↓RU,RV,RH,↓reduceIte,qE,reduceCtorEq,if_pos,w64,ty5,zaa,zab,hrow]
  apply hK;clear hK K
  refine W.cond rfl (fun h1=>?_) (fun h1=>?_)
  ·try simp only[RL]at h1
   obtain ⟨c,hc,-⟩:=zag (show k<row.length by omega)
   have hcl:=c.toNat_lt
   refine W.skip ?_
   refine xn ?_
   refine W.seq ?_
   refine W.block ?_
   refine W.k fun K hK=>?_
   simp(disch:=omega)only[↓RU,RV,RH,↓reduceIte,qE,reduceCtorEq,if_pos,w64,w64,ze7,ty5,zaa,zab,za0,hrow,hc,ze7]
   apply hK;clear hK K
   refine XbN ?_
   refine xn ?_
   refine W.k fun K hK=>?_
   simp(disch:=omega)only[↓RU,RV,RH,↓reduceIte,qE,reduceCtorEq,if_pos,w64,zaa]
   apply hK;clear hK K
   refine xn ?_
   refine ⟨row.length - (k+1),by omega,0,k+1,rfl,by omega,?_,rfl⟩
   rw [tk hc]
   simp [Env.put,Env.of,zfc,List.foldl_append]
  try simp only[RL]at h1
  refine W.exit ?_
  refine xe ?_
  refine xe ?_
  refine XBlock.hit ?_
  refine XbN ?_
  refine xn ?_
  refine W.k fun K hK=>?_
  simp(disch:=omega)only[↓RU,RV,RH,↓reduceIte,qE,reduceCtorEq,if_pos,w64,zaa]
  apply hK;clear hK K
  refine xn ?_
  refine ⟨p.length - (i+1),by omega,0,i+1,rfl,by omega,?_,rfl⟩
  rw [tk hrow]
  simp [Env.put,Env.of,zct,List.foldl_append,show k=row.length by omega]
 try simp only[RL]at h
 refine W.exit ?_
 refine xe ?_
 refine xe ?_
 refine XBlock.hit ?_
 refine xn ?_
 refine W.r fun K hK=>?_
 simp(disch:=omega)only[↓RU,RV,RH,↓reduceIte,qE,reduceCtorEq,if_pos]
 apply hK;clear hK K
 refine W.ret ?_
 refine Br rfl ?_
 have hip:i=p.length:=by omega
 subst hip
 rw [List.take_length]
 rfl
theorem zuc {p q:List Txt} (hs:Sm p):PC Tryz.prog 136 [zaz p,zaz q] (.bool (decide (p=q))) true:=by
 have hp:=hs.rows
 have hr:=hs.cols
 refine PC.of ⟨Tryz.func136,by kernel_rfl,rfl,by kernel_rfl⟩ zav mixed (by show 2≤Tryz.f136.ntmps; decide) ?_
 refine W.r fun K hK=>?_
 simp(disch:=omega)only[↓RU,RV,RH,↓reduceIte,qE,reduceCtorEq,if_pos]
 apply hK;clear hK K
 refine W.seq ?_
 refine W.r fun K hK=>?_
 simp(disch:=omega)only[↓RU,RV,RH,↓reduceIte,qE,reduceCtorEq,if_pos,w64,ty5,zaa,zab]
 apply hK;clear hK K
 refine W.cond rfl (fun h0=>?_) (fun h0=>?_)
 ·try simp only[RL]at h0
  skip
  refine W.r fun K hK=>?_
  simp(disch:=omega)only[↓RU,RV,RH,↓reduceIte,qE,reduceCtorEq,if_pos]
  apply hK;clear hK K
  refine W.ret ?_
  refine XThen.ret ?_
  refine Br rfl ?_
  have:p≠q:=fun e=>h0 (by rw [e])
  simp [this]; rfl
 try simp only[RL]at h0
 refine W.skip ?_
 refine xn ?_
 refine W.seq ?_
 refine W.r fun K hK=>?_
 simp(disch:=omega)only[↓RU,RV,RH,↓reduceIte,qE,reduceCtorEq,if_pos]
 apply hK;clear hK K
 refine W.block ?_
 refine W.loop [0,1,5] (fun n vs S=>∃ i:Nat,n=p.length - i∧i≤p.length∧(p.take i=q.take i)∧vs=[zaz p,zaz q,.int .i64 i]∧S=⟨[],0⟩) (p.length) ?_ ?_
 ·refine ⟨0,0,rfl,Nat.zero_le _,rfl,?_,rfl⟩
  simp [Env.put,Env.of,zaj]
 rintro n vs S - ⟨i,rfl,h_i,hq,rfl,rfl⟩
 refine W.seq ?_
 refine W.r fun K hK=>?_
 simp(disch:=omega)only[↓RU,RV,RH,↓reduceIte,qE,reduceCtorEq,if_pos,w64,ty5,zaa,zab]
 apply hK;clear hK K
 refine W.cond rfl (fun h1=>?_) (fun h1=>?_)
 ·try simp only[RL]at h1
  obtain ⟨row,hrow,hrm⟩:=zag (show i<p.length by omega)
  obtain ⟨row2,hrow2,-⟩:=zag (show i<q.length by omega)
  refine W.skip ?_
  refine xn ?_
  refine W.seq ?_
  refine W.block ?_
  refine W.seq_draw (by kernel_rfl) fun K hK=>?_
  simp(disch:=omega)only[↓RU,RV,RH,↓reduceIte,qE,reduceCtorEq,if_pos,w64,ty5,zab,hrow,hrow2,z7m]
  apply hK;clear hK K
  refine W.cond rfl (fun h2=>?_) (fun h2=>?_)
  ·try simp only[RL]at h2
   refine W.r fun K hK=>?_
   simp(disch:=omega)only[↓RU,RV,RH,↓reduceIte,qE,reduceCtorEq,if_pos]
   apply hK;clear hK K
   refine W.ret ?_
   refine XBlock.ret ?_
   refine XThen.ret ?_
   refine XThen.ret ?_
   refine XBlock.ret ?_
   refine XThen.ret ?_
   refine Br rfl ?_
   have:p≠q:=fun e=>h2 (by rw [e,hrow2]at hrow; exact (Option.some.inj hrow).symm)
   simp [this]; rfl
  try simp only[RL]at h2
  refine W.skip ?_
  refine XbN ?_
  refine xn ?_
  refine W.k fun K hK=>?_
  simp(disch:=omega)only[↓RU,RV,RH,↓reduceIte,qE,reduceCtorEq,if_pos,w64,zaa]
  apply hK;clear hK K
  refine xn ?_
  refine ⟨p.length - (i+1),by omega,0,i+1,rfl,by omega,by rw [tk hrow,tk hrow2,hq,h2],?_,rfl⟩
  simp [Env.put,Env.of]
 try simp only[RL]at h1
 refine W.exit ?_
 refine xe ?_
 refine xe ?_
 refine XBlock.hit ?_
 refine xn ?_
 refine W.r fun K hK=>?_
 simp(disch:=omega)only[↓RU,RV,RH,↓reduceIte,qE,reduceCtorEq,if_pos]
 apply hK;clear hK K
 refine W.ret ?_
 refine Br rfl ?_
 have hip:i=p.length:=by omega
 have h0n:p.length=q.length:=by omega
 have:p=q:=by rw [hip,List.take_length,h0n,List.take_length]at hq; exact hq
 simp [this]; rfl
theorem z0m {p:List Txt} (hs:Sm p) (hc1:p.length≤1000) (hc2:∀ r∈p,r.length≤1000) (room:Int):PC Tryz.prog 138 [zaz p,.int .i64 room] (.int .i64 (zeq p room)) true:=by
 have hp:=hs.rows
 have hr:=hs.cols
 refine PC.of ⟨Tryz.func138,by kernel_rfl,rfl,by kernel_rfl⟩ zav mixed (by show 2≤Tryz.f138.ntmps; decide) ?_
 refine W.r fun K hK=>?_
 simp(disch:=omega)only[↓RU,RV,RH,↓reduceIte,qE,reduceCtorEq,if_pos]
 apply hK;clear hK K
 refine W.r fun K hK=>?_
 simp(disch:=omega)only[↓RU,RV,RH,↓reduceIte,qE,reduceCtorEq,if_pos]
 apply hK;clear hK K
 refine W.seq ?_
 refine W.r fun K hK=>?_
 simp(disch:=omega)only[↓RU,RV,RH,↓reduceIte,qE,reduceCtorEq,if_pos]
 apply hK;clear hK K
 refine W.block ?_
 refine W.loop [0,1,5,6] (fun n vs S=>∃ i:Nat,n=p.length - i∧i≤p.length∧vs=[zaz p,.int .i64 room,.int .i64 (zeq (p.take i) room),.int .i64 i]∧S=⟨[],0⟩) (p.length) ?_ ?_
 ·refine ⟨0,0,rfl,Nat.zero_le _,?_,rfl⟩
  simp [Env.put,zaj,zeq]
 rintro n vs S - ⟨i,rfl,h_i,rfl,rfl⟩
 refine W.seq ?_
 refine W.r fun K hK=>?_
 simp(disch:=omega)only[↓RU,RV,RH,↓reduceIte,qE,reduceCtorEq,if_pos,w64,ty5,zaa,zab]
 apply hK;clear hK K
 refine W.cond rfl (fun h=>?_) (fun h=>?_)
 ·try simp only[RL]at h
  obtain ⟨row,hrow,hrm⟩:=zag (show i<p.length by omega)
  have hrl:=hr row hrm
  refine W.skip ?_
  refine xn ?_
  refine W.seq ?_
  refine W.block ?_
  refine W.r fun K hK=>?_
  simp(disch:=omega)only[↓RU,RV,RH,↓reduceIte,qE,reduceCtorEq,if_pos]
  apply hK;clear hK K
  refine W.block ?_
  refine W.loop [0,1,5,6,7] (fun n vs S=>∃ k:Nat,n=row.length - k∧k≤row.length∧vs=[zaz p,.int .i64 room,.int .i64 (zcm room (zeq (p.take i) room) (row.take k)),.int .i64 i,.int .i64 k]∧S=⟨[],0⟩) (row.length) ?_ ?_
  ·refine ⟨0,0,rfl,Nat.zero_le _,?_,rfl⟩
   simp [Env.put,Env.of,zcm]
  rintro n vs S - ⟨k,rfl,h_k,rfl,rfl⟩
  refine W.seq ?_
  refine W.r fun K hK=>?_
  simp(disch:=omega)only[↓RU,RV,RH,↓reduceIte,qE,reduceCtorEq,if_pos,w64,ty5,zaa,zab,hrow]
  apply hK;clear hK K
  refine W.cond rfl (fun h1=>?_) (fun h1=>?_)
  ·try simp only[RL]at h1
   obtain ⟨c,hc,-⟩:=zag (show k<row.length by omega)
   have hcl:=c.toNat_lt
   have hb1:=zr4 room (p.take i) fun r hr=>hc2 r (List.mem_of_mem_take hr)
   have hb2:=zgm room (row.take k) (zeq (p.take i) room)
   have hb3:=List.length_take_le i p
   have hb4:=List.length_take_le k row
   refine W.skip ?_
   refine xn ?_
   refine W.seq ?_
   refine W.block ?_
   refine W.r fun K hK=>?_
   simp(disch:=omega)only[↓RU,RV,RH,↓reduceIte,qE,reduceCtorEq,if_pos,w64,w64,ty5,zaa,zab,za0,hrow,hc]
   apply hK;clear hK K
   refine W.cond rfl (fun h2=>?_) (fun h2=>?_)
   ·try simp only[RL]at h2
    refine W.k fun K hK=>?_
    simp(disch:=omega)only[↓RU,RV,RH,↓reduceIte,qE,reduceCtorEq,if_pos,w64,zaa]
    apply hK;clear hK K
    refine XbN ?_
    refine xn ?_
    refine W.k fun K hK=>?_
    simp(disch:=omega)only[↓RU,RV,RH,↓reduceIte,qE,reduceCtorEq,if_pos,w64,zaa]
    apply hK;clear hK K
    refine xn ?_
    refine ⟨row.length - (k+1),by omega,0,k+1,rfl,by omega,?_,rfl⟩
    rw [tk hc]
    simp [Env.put,Env.of,zcm,List.foldl_append,zja,h2]
   try simp only[RL]at h2
   refine W.skip ?_
   refine XbN ?_
   refine xn ?_
   refine W.k fun K hK=>?_
   simp(disch:=omega)only[↓RU,RV,RH,↓reduceIte,qE,reduceCtorEq,if_pos,w64,zaa]
   apply hK;clear hK K
   refine xn ?_
   refine ⟨row.length - (k+1),by omega,0,k+1,rfl,by omega,?_,rfl⟩
   rw [tk hc]
   simp [Env.put,Env.of,zcm,List.foldl_append,zja,h2]
  try simp only[RL]at h1
  refine W.exit ?_
  refine xe ?_
  refine xe ?_
  refine XBlock.hit ?_
  refine XbN ?_
  refine xn ?_
  refine W.k fun K hK=>?_
  simp(disch:=omega)only[↓RU,RV,RH,↓reduceIte,qE,reduceCtorEq,if_pos,w64,zaa]
  apply hK;clear hK K
  refine xn ?_
  refine ⟨p.length - (i+1),by omega,0,i+1,rfl,by omega,?_,rfl⟩
  rw [tk hrow]
  simp [Env.put,Env.of,zeq,List.foldl_append,show k=row.length by omega]
 try simp only[RL]at h
 refine W.exit ?_
 refine xe ?_
 refine xe ?_
 refine XBlock.hit ?_
 refine xn ?_
 refine W.r fun K hK=>?_
 simp(disch:=omega)only[↓RU,RV,RH,↓reduceIte,qE,reduceCtorEq,if_pos]
 apply hK;clear hK K
 refine W.ret ?_
 refine Br rfl ?_
 have hip:i=p.length:=by omega
 subst hip
 rw [List.take_length]
 rfl
theorem z3f {p:List Txt} (hs:Sm p) (hne:0<p.length) (room:Int):PC Tryz.prog 137 [zaz p,.int .i64 room] (.tup [.int .i64 (zn3 p room).top,.int .i64 (zn3 p room).left,.int .i64 (zhk p room),.int .i64 (zhn p room)]) true:=by
 have hp:=hs.rows
 have hr:=hs.cols
 obtain ⟨row0,hrow0,hrm0⟩:=zag hne
 have hrl0:=hr row0 hrm0
 have hhd:=zd7 hrow0
 refine PC.of ⟨Tryz.func137,by kernel_rfl,rfl,by kernel_rfl⟩ zav mixed (by show 2≤Tryz.f137.ntmps; decide) ?_
 refine W.r fun K hK=>?_
 simp(disch:=omega)only[↓RU,RV,RH,↓reduceIte,qE,reduceCtorEq,if_pos]
 apply hK;clear hK K
 refine W.r fun K hK=>?_
 simp(disch:=omega)only[↓RU,RV,RH,↓reduceIte,qE,reduceCtorEq,if_pos,ty5,zab]
 apply hK;clear hK K
 refine W.r fun K hK=>?_
 simp(disch:=omega)only[↓RU,RV,RH,↓reduceIte,qE,reduceCtorEq,if_pos,ty5,zab,hrow0,Int.toNat_zero,Nat.zero_mul,qZ]
 apply hK;clear hK K
 refine W.r fun K hK=>?_
 simp(disch:=omega)only[↓RU,RV,RH,↓reduceIte,qE,reduceCtorEq,if_pos]
 apply hK;clear hK K
 refine W.r fun K hK=>?_
 simp(disch:=omega)only[↓RU,RV,RH,↓reduceIte,qE,reduceCtorEq,if_pos]
 apply hK;clear hK K
 refine W.seq ?_
 refine W.r fun K hK=>?_
 simp(disch:=omega)only[↓RU,RV,RH,↓reduceIte,qE,reduceCtorEq,if_pos]
 apply hK;clear hK K
 refine W.block ?_
 refine W.loop [0,1,8,9,10,11,12] (fun n vs S=>∃ i:Nat,n=p.length - i∧i≤p.length∧vs=[zaz p,.int .i64 room,.int .i64 (zho p room i).top,.int .i64 (zho p room i).left,.int .i64 (zho p room i).low,.int .i64 (zho p room i).right,.int .i64 i]∧S=⟨[],0⟩) (p.length) ?_ ?_
 ·refine ⟨0,0,rfl,Nat.zero_le _,?_,rfl⟩
  simp [Env.put,zaj,zho,hhd]
 rintro n vs S - ⟨i,rfl,h_i,rfl,rfl⟩
 refine W.seq ?_
 refine W.r fun K hK=>?_
 simp(disch:=omega)only[↓RU,RV,RH,↓reduceIte,qE,reduceCtorEq,if_pos,w64,ty5,zaa,zab]
 apply hK;clear hK K
 refine W.cond rfl (fun h=>?_) (fun h=>?_)
 ·try simp only[RL]at h
  obtain ⟨row,hrow,hrm⟩:=zag (show i<p.length by omega)
  have hrl:=hr row hrm
  refine W.skip ?_
  refine xn ?_
  refine W.seq ?_
  refine W.block ?_
  refine W.r fun K hK=>?_
  simp(disch:=omega)only[↓RU,RV,RH,↓reduceIte,qE,reduceCtorEq,if_pos]
  apply hK;clear hK K
  refine W.block ?_
  refine W.loop [0,1,8,9,10,11,12,13] (fun n vs S=>∃ k:Nat,n=row.length - k∧k≤row.length∧vs=[zaz p,.int .i64 room,.int .i64 (zla room i (zho p room i) row k).top,.int .i64 (zla room i (zho p room i) row k).left,.int .i64 (zla room i (zho p room i) row k).low,.int .i64 (zla room i (zho p room i) row k).right,.int .i64 i,.int .i64 k]∧S=⟨[],0⟩) (row.length) ?_ ?_
  ·refine ⟨0,0,rfl,Nat.zero_le _,?_,rfl⟩
   simp [Env.put,Env.of,zla]
  rintro n vs S - ⟨k,rfl,h_k,rfl,rfl⟩
  refine W.seq ?_
  refine W.r fun K hK=>?_
  simp(disch:=omega)only[↓RU,RV,RH,↓reduceIte,qE,reduceCtorEq,if_pos,w64,ty5,zaa,zab,hrow]
  apply hK;clear hK K
  refine W.cond rfl (fun h1=>?_) (fun h1=>?_)
  ·try simp only[RL]at h1
   obtain ⟨c,hc,-⟩:=zag (show k<row.length by omega)
   have hcl:=c.toNat_lt
   refine W.skip ?_
   refine xn ?_
   refine W.seq ?_
   refine W.block ?_
   refine W.r fun K hK=>?_
   simp(disch:=omega)only[↓RU,RV,RH,↓reduceIte,qE,reduceCtorEq,if_pos,w64,w64,ty5,zaa,zab,za0,hrow,hc]
   apply hK;clear hK K
   refine W.cond rfl (fun h2=>?_) (fun h2=>?_)
   ·try simp only[RL]at h2
    refine W.r fun K hK=>?_
    simp(disch:=omega)only[↓RU,RV,RH,↓reduceIte,qE,reduceCtorEq,if_pos,zh2,zaa]
    apply hK;clear hK K
    refine W.r fun K hK=>?_
    simp(disch:=omega)only[↓RU,RV,RH,↓reduceIte,qE,reduceCtorEq,if_pos,zh2,zaa]
    apply hK;clear hK K
    refine W.r fun K hK=>?_
    simp(disch:=omega)only[↓RU,RV,RH,↓reduceIte,qE,reduceCtorEq,if_pos,ze7,zaa]
    apply hK;clear hK K
    refine W.k fun K hK=>?_
    simp(disch:=omega)only[↓RU,RV,RH,↓reduceIte,qE,reduceCtorEq,if_pos,ze7,zaa]
    apply hK;clear hK K
    refine XbN ?_
    refine xn ?_
    refine W.k fun K hK=>?_
    simp(disch:=omega)only[↓RU,RV,RH,↓reduceIte,qE,reduceCtorEq,if_pos,w64,zaa]
    apply hK;clear hK K
    refine xn ?_
    refine ⟨row.length - (k+1),by omega,0,k+1,rfl,by omega,?_,rfl⟩
    rw [ziv hc]
    simp [Env.put,Env.of,zjg,zja,h2]
   try simp only[RL]at h2
   refine W.skip ?_
   refine XbN ?_
   refine xn ?_
   refine W.k fun K hK=>?_
   simp(disch:=omega)only[↓RU,RV,RH,↓reduceIte,qE,reduceCtorEq,if_pos,w64,zaa]
   apply hK;clear hK K
   refine xn ?_
   refine ⟨row.length - (k+1),by omega,0,k+1,rfl,by omega,?_,rfl⟩
   rw [ziv hc]
   simp [Env.put,Env.of,zjg,zja,h2]
  try simp only[RL]at h1
  refine W.exit ?_
  refine xe ?_
  refine xe ?_
  refine XBlock.hit ?_
  refine XbN ?_
  refine xn ?_
  refine W.k fun K hK=>?_
  simp(disch:=omega)only[↓RU,RV,RH,↓reduceIte,qE,reduceCtorEq,if_pos,w64,zaa]
  apply hK;clear hK K
  refine xn ?_
  refine ⟨p.length - (i+1),by omega,0,i+1,rfl,by omega,?_,rfl⟩
  rw [zlm hrow]
  simp [Env.put,Env.of,show k=row.length by omega]
 try simp only[RL]at h
 refine W.exit ?_
 refine xe ?_
 refine xe ?_
 refine XBlock.hit ?_
 refine xn ?_
 refine W.r fun K hK=>?_
 have hip:i=p.length:=by omega
 subst hip
 have hbb:=zjh room hs.1 hs.2 p.length (qR _)
 rw [zkb]at hbb
 simp only[Box.In]at hbb
 simp(disch:=omega)only[↓RU,RV,RH,↓reduceIte,qE,reduceCtorEq,if_pos,w64,zaa,zkb]
 apply hK;clear hK K
 refine W.ret ?_
 refine Br rfl ?_
 rfl
theorem ze1 {p:List Txt} (hs:Sm p):PC Tryz.prog 115 [zaz p] (.bool (zcr p)) true:=by
 have hp:=hs.rows
 have hr:=hs.cols
 refine PC.of ⟨Tryz.func115,by kernel_rfl,rfl,by kernel_rfl⟩ zav mixed (by show 1≤Tryz.f115.ntmps; decide) ?_
 refine W.r fun K hK=>?_
 simp(disch:=omega)only[↓RU,RV,RH,↓reduceIte,qE,reduceCtorEq,if_pos]
 apply hK;clear hK K
 refine W.seq ?_
 refine W.r fun K hK=>?_
 simp(disch:=omega)only[↓RU,RV,RH,↓reduceIte,qE,reduceCtorEq,if_pos]
 apply hK;clear hK K
 refine W.block ?_
 refine W.loop [0,3] (fun n vs S=>∃ i:Nat,n=p.length - i∧i≤p.length∧((p.take i).all (zre (zad p).length)=true)∧vs=[zaz p,.int .i64 i]∧S=⟨[],0⟩) (p.length) ?_ ?_
 ·refine ⟨0,0,rfl,Nat.zero_le _,rfl,?_,rfl⟩
  simp [Env.put,Env.of,zaj]
 rintro n vs S - ⟨i,rfl,h_i,hg,rfl,rfl⟩
 refine W.seq ?_
 refine W.r fun K hK=>?_
 simp(disch:=omega)only[↓RU,RV,RH,↓reduceIte,qE,reduceCtorEq,if_pos,w64,ty5,zaa,zab]
 apply hK;clear hK K
 refine W.cond rfl (fun h=>?_) (fun h=>?_)
 ·try simp only[RL]at h
  obtain ⟨row,hrow,hrm⟩:=zag (show i<p.length by omega)
  have hrl:=hr row hrm
  obtain ⟨row0,hrow0,hrm0⟩:=zag (show 0<p.length by omega)
  have hhd:=zd7 hrow0
  refine W.skip ?_
  refine xn ?_
  refine W.seq ?_
  refine W.block ?_
  refine W.seq ?_
  refine W.seq_draw (by kernel_rfl) fun K hK=>?_
  cases hw:((row.length:Int) != (row0.length:Int))
  ·skip
   simp(disch:=omega)only[↓RU,RV,RH,↓reduceIte,qE,reduceCtorEq,if_pos,w64,qN,ty5,zaa,zab,hrow,hrow0,Int.toNat_zero,Nat.zero_mul,qZ,hw]
   refine zae.pc (z3h _ _ _) rfl (.inl rfl) ?_
   simp(disch:=omega)only[↓RU,RV,RH,↓reduceIte,qE,reduceCtorEq,if_pos,w64,qN,ty5,zaa,zab,hrow,hrow0,Int.toNat_zero,Nat.zero_mul,qZ,hw]
   apply hK;clear hK K
   simp only[bne_eq_false_iff_eq]at hw
   refine W.cond rfl (fun h2=>?_) (fun h2=>?_)
   ·skip
    simp only[Bool.not_eq_true',Bool.and_eq_false_iff,decide_eq_false_iff_not]at h2
    refine W.r fun K hK=>?_
    simp(disch:=omega)only[↓RU,RV,RH,↓reduceIte,qE,reduceCtorEq,if_pos]
    apply hK;clear hK K
    refine W.ret ?_
    refine XThen.ret ?_
    refine XBlock.ret ?_
    refine XThen.ret ?_
    refine XThen.ret ?_
    refine XBlock.ret ?_
    refine XThen.ret ?_
    refine Br rfl ?_
    rw [znl hrow (by cases hb:zre (zad p).length row with | false=>rfl | true=>exfalso; simp only[zre,qB,decide_eq_true_eq]at hb; rw [hhd]at hb; omega)]
    rfl
   skip
   simp only[Bool.not_eq_false',qB,decide_eq_true_eq]at h2
   refine W.skip ?_
   refine xn ?_
   refine W.r fun K hK=>?_
   simp(disch:=omega)only[↓RU,RV,RH,↓reduceIte,qE,reduceCtorEq,if_pos]
   apply hK;clear hK K
   refine W.block ?_
   refine W.loop [0,3,4] (fun n vs S=>∃ k:Nat,n=row.length - k∧k≤row.length∧((row.take k).all zcj=true)∧vs=[zaz p,.int .i64 i,.int .i64 k]∧S=⟨[],0⟩) (row.length) ?_ ?_
   ·refine ⟨0,0,rfl,Nat.zero_le _,rfl,?_,rfl⟩
    simp [Env.put,Env.of,zaj]
   rintro n vs S - ⟨k,rfl,h_k,hl,rfl,rfl⟩
   refine W.seq ?_
   refine W.r fun K hK=>?_
   simp(disch:=omega)only[↓RU,RV,RH,↓reduceIte,qE,reduceCtorEq,if_pos,w64,ty5,zaa,zab,hrow]
   apply hK;clear hK K
   refine W.cond rfl (fun h3=>?_) (fun h3=>?_)
   ·try simp only[RL]at h3
    obtain ⟨c,hc,-⟩:=zag (show k<row.length by omega)
    have hcl:=c.toNat_lt
    refine W.skip ?_
    refine xn ?_
    refine W.seq ?_
    refine W.block ?_
    refine W.r fun K hK=>?_
    cases hlo:decide ((c.toNat:Int)<97)
    ·skip
     simp(disch:=omega)only[↓RU,RV,RH,↓reduceIte,qE,reduceCtorEq,if_pos,w64,ty5,zab,za0,hrow,hc,hlo]
     apply hK;clear hK K
     refine W.cond rfl (fun h4=>?_) (fun h4=>?_)
     ·try simp only[RL]at h4
      refine W.r fun K hK=>?_
      simp(disch:=omega)only[↓RU,RV,RH,↓reduceIte,qE,reduceCtorEq,if_pos]
      apply hK;clear hK K
      refine W.ret ?_
      refine XBlock.ret ?_
      refine XThen.ret ?_
      refine XThen.ret ?_
      refine XBlock.ret ?_
      refine XBlock.ret ?_
      refine XThen.ret ?_
      refine XThen.ret ?_
      refine XBlock.ret ?_
      refine XThen.ret ?_
      refine Br rfl ?_
      rw [znl hrow (zlc hc (by cases hb:zcj c with | false=>rfl | true=>exfalso; simp only[zcj,qB,decide_eq_true_eq]at hb; omega))]
      rfl
     try simp only[RL]at h4
     refine W.skip ?_
     refine XbN ?_
     refine xn ?_
     refine W.k fun K hK=>?_
     simp(disch:=omega)only[↓RU,RV,RH,↓reduceIte,qE,reduceCtorEq,if_pos,w64,zaa]
     apply hK;clear hK K
     refine xn ?_
     refine ⟨row.length - (k+1),by omega,0,k+1,rfl,by omega,zxp hc hl (by simp only[decide_eq_false_iff_not]at hlo; simp only[zcj,qB,decide_eq_true_eq]; omega),?_,rfl⟩
     simp [Env.put,Env.of]
    skip
    simp(disch:=omega)only[↓RU,RV,RH,↓reduceIte,qE,reduceCtorEq,if_pos,w64,ty5,zab,za0,hrow,hc,hlo]
    apply hK;clear hK K
    refine W.cond rfl (fun h4=>?_) (fun h4=>?_)
    ·try simp only[RL]at h4
     refine W.r fun K hK=>?_
     simp(disch:=omega)only[↓RU,RV,RH,↓reduceIte,qE,reduceCtorEq,if_pos]
     apply hK;clear hK K
     refine W.ret ?_
     refine XBlock.ret ?_
     refine XThen.ret ?_
     refine XThen.ret ?_
     refine XBlock.ret ?_
     refine XBlock.ret ?_
     refine XThen.ret ?_
     refine XThen.ret ?_
     refine XBlock.ret ?_
     refine XThen.ret ?_
     refine Br rfl ?_
     simp only[decide_eq_true_eq]at hlo
     rw [znl hrow (zlc hc (by cases hb:zcj c with | false=>rfl | true=>exfalso; simp only[zcj,qB,decide_eq_true_eq]at hb; omega))]
     rfl
    try simp only[RL]at h4
    exact absurd h4 (by simp)
   try simp only[RL]at h3
   have hl2:row.all zcj=true:=by rw [show k=row.length by omega,List.take_length]at hl; exact hl
   refine W.exit ?_
   refine xe ?_
   refine xe ?_
   refine XBlock.hit ?_
   refine XbN ?_
   refine xn ?_
   refine W.k fun K hK=>?_
   simp(disch:=omega)only[↓RU,RV,RH,↓reduceIte,qE,reduceCtorEq,if_pos,w64,zaa]
   apply hK;clear hK K
   refine xn ?_
   refine ⟨p.length - (i+1),by omega,0,i+1,rfl,by omega,zxp hrow hg (by rw [hhd]; simp only[zre,hl2,Bool.and_true,qB,decide_eq_true_eq]; omega),?_,rfl⟩
   simp [Env.put,Env.of]
  skip
  simp(disch:=omega)only[↓RU,RV,RH,↓reduceIte,qE,reduceCtorEq,if_pos,w64,qN,ty5,zaa,zab,hrow,hrow0,Int.toNat_zero,Nat.zero_mul,qZ,hw]
  apply hK;clear hK K
  simp only[bne_iff_ne,ne_eq]at hw
  refine W.cond rfl (fun h2=>?_) (fun h2=>?_)
  ·try simp only[RL]at h2
   refine W.r fun K hK=>?_
   simp(disch:=omega)only[↓RU,RV,RH,↓reduceIte,qE,reduceCtorEq,if_pos]
   apply hK;clear hK K
   refine W.ret ?_
   refine XThen.ret ?_
   refine XBlock.ret ?_
   refine XThen.ret ?_
   refine XThen.ret ?_
   refine XBlock.ret ?_
   refine XThen.ret ?_
   refine Br rfl ?_
   rw [znl hrow (by cases hb:zre (zad p).length row with | false=>rfl | true=>exfalso; simp only[zre,qB,decide_eq_true_eq]at hb; rw [hhd]at hb; omega)]
   rfl
  try simp only[RL]at h2
  exact absurd h2 (by simp)
 try simp only[RL]at h
 refine W.exit ?_
 refine xe ?_
 refine xe ?_
 refine XBlock.hit ?_
 refine xn ?_
 refine W.r fun K hK=>?_
 simp(disch:=omega)only[↓RU,RV,RH,↓reduceIte,qE,reduceCtorEq,if_pos,qN,ty5,zab]
 refine zae.pc (z3h _ _ _) rfl (.inl rfl) ?_
 simp(disch:=omega)only[↓RU,RV,RH,↓reduceIte,qE,reduceCtorEq,if_pos,qN,ty5,zab]
 apply hK;clear hK K
 refine W.ret ?_
 refine Br rfl ?_
 have hip:i=p.length:=by omega
 rw [hip,List.take_length]at hg
 rw [z21 hg,← ycs]
 rfl
theorem zd0 {p:List Txt} (hs:Sm p):PC Tryz.prog 114 [zaz p] (zaz (names p)) true:=by
 have hp:=hs.rows
 have hr:=hs.cols
 refine PC.of ⟨Tryz.func114,by kernel_rfl,rfl,by kernel_rfl⟩ zav mixed (by show 1≤Tryz.f114.ntmps; decide) ?_
 refine W.r fun K hK=>?_
 simp(disch:=omega)only[↓RU,RV,RH,↓reduceIte,qE,reduceCtorEq,if_pos,↓RS,RG,qA,qM,qL]
 apply hK;clear hK K
 refine W.r fun K hK=>?_
 simp(disch:=omega)only[↓RU,RV,RH,↓reduceIte,qE,reduceCtorEq,if_pos,↓RS,RG,qA,qM,qL,ty6,za0]
 apply hK;clear hK K
 refine W.r fun K hK=>?_
 simp(disch:=omega)only[↓RU,RV,RH,↓reduceIte,qE,reduceCtorEq,if_pos,↓RS,RG,qA,qM,qL,ty5,zab]
 apply hK;clear hK K
 refine W.seq ?_
 refine W.r fun K hK=>?_
 simp(disch:=omega)only[↓RU,RV,RH,↓reduceIte,qE,reduceCtorEq,if_pos,↓RS,RG,qA,qM,qL]
 apply hK;clear hK K
 refine W.block ?_
 refine W.loop [0,3,4,5] (fun n vs S=>∃ i v0 v1 tk:Nat,n=p.length - i∧i≤p.length∧vs=[zaz p,.loc 0 v0 0 (zej p i).1.length,.loc 1 v1 0 (zej p i).2.length,.int .i64 i]∧S=⟨[.arr v0 5 1 ((zej p i).1.map eB),.arr v1 9 1 ((zej p i).2.map .str)],tk⟩) (p.length) ?_ ?_
 ·refine ⟨2,0,0,1,2,rfl,Nat.zero_le _,?_,rfl⟩
  simp [Env.put,Env.of,zaj,zej]
 rintro n vs S - ⟨i,v0,v1,tk,rfl,h_i,rfl,rfl⟩
 refine W.seq ?_
 refine W.r fun K hK=>?_
 simp(disch:=omega)only[↓RU,RV,RH,↓reduceIte,qE,reduceCtorEq,if_pos,w64,↓RS,RG,qA,qM,qL,ty5,zaa,zab]
 apply hK;clear hK K
 refine W.cond rfl (fun h=>?_) (fun h=>?_)
 ·try simp only[RL]at h
  obtain ⟨row,hrow,hrm⟩:=zag (show i<p.length by omega)
  have hrl:=hr row hrm
  have hal:=znz hs.2 h_i
  have hs1:=hs.1
  refine W.skip ?_
  refine xn ?_
  refine W.seq ?_
  refine W.block ?_
  refine W.r fun K hK=>?_
  simp(disch:=omega)only[↓RU,RV,RH,↓reduceIte,qE,reduceCtorEq,if_pos,↓RS,RG,qA,qM,qL,ty6,za0]
  apply hK;clear hK K
  refine W.seq ?_
  refine W.r fun K hK=>?_
  simp(disch:=omega)only[↓RU,RV,RH,↓reduceIte,qE,reduceCtorEq,if_pos,↓RS,RG,qA,qM,qL]
  apply hK;clear hK K
  refine W.block ?_
  refine W.loop [0,3,4,5,6,7] (fun n vs S=>∃ k v0 v2 tk:Nat,n=row.length - k∧k≤row.length∧vs=[zaz p,.loc 0 v0 0 (zk8 (zej p i).1 row k).1.length,.loc 1 v1 0 (zej p i).2.length,.int .i64 i,.loc 2 v2 0 (zk8 (zej p i).1 row k).2.length,.int .i64 k]∧S=⟨[.arr v0 5 1 ((zk8 (zej p i).1 row k).1.map eB),.arr v1 9 1 ((zej p i).2.map .str),.arr v2 5 1 ((zk8 (zej p i).1 row k).2.map eB)],tk⟩) (row.length) ?_ ?_
  ·refine ⟨3,0,v0,tk,tk+1,rfl,Nat.zero_le _,?_,rfl⟩
   simp [Env.put,Env.of,zaj,zk8]
  rintro n vs S - ⟨k,v0,v2,tk,rfl,h_k,rfl,rfl⟩
  refine W.seq ?_
  refine W.r fun K hK=>?_
  simp(disch:=omega)only[↓RU,RV,RH,↓reduceIte,qE,reduceCtorEq,if_pos,w64,↓RS,RG,qA,qM,qL,ty5,zaa,zab,hrow]
  apply hK;clear hK K
  refine W.cond rfl (fun h1=>?_) (fun h1=>?_)
  ·try simp only[RL]at h1
   obtain ⟨c,hc,-⟩:=zag (show k<row.length by omega)
   have hcl:=c.toNat_lt
   have hrs:=zk9 (o:=(zej p i).1) h_k
   generalize hst:zk8 (zej p i).1 row k=st at hrs ⊢
   refine W.skip ?_
   refine xn ?_
   refine W.seq ?_
   refine W.block ?_
   refine W.r fun K hK=>?_
   simp(disch:=omega)only[↓RU,RV,RH,↓reduceIte,qE,reduceCtorEq,if_pos,↓RS,RG,qA,qM,qL]
   apply hK;clear hK K
   refine W.seq ?_
   refine W.block ?_
   refine W.loop [0,3,4,5,6,7,8] (fun n vs S=>∃ a:Nat,n=st.1.length - a∧a≤st.1.length∧(∀ j,j<a→st.1[j]?≠some c)∧vs=[zaz p,.loc 0 v0 0 st.1.length,.loc 1 v1 0 (zej p i).2.length,.int .i64 i,.loc 2 v2 0 st.2.length,.int .i64 k,.int .i64 a]∧S=⟨[.arr v0 5 1 (st.1.map eB),.arr v1 9 1 ((zej p i).2.map .str),.arr v2 5 1 (st.2.map eB)],tk⟩) (st.1.length) ?_ ?_
   ·refine ⟨3,0,rfl,Nat.zero_le _,fun j hj=>absurd hj (Nat.not_lt_zero _),?_,rfl⟩
    simp [Env.put,Env.of,zaj]
   rintro n vs S - ⟨a,rfl,h_a,ha,rfl,rfl⟩
   refine W.seq ?_
   refine W.seq_draw (by kernel_rfl) fun K hK=>?_
   cases ho:decide ((a:Int)<(st.1.length:Int))
   ·skip
    simp(disch:=omega)only[↓RU,RV,RH,↓reduceIte,qE,reduceCtorEq,if_pos,w64,↓RS,RG,qA,qM,qL,ty5,ty6,zaa,zab,za0,hrow,hc,ho]
    apply hK;clear hK K
    refine W.cond rfl (fun h2=>?_) (fun h2=>?_)
    ·try simp only[RL]at h2
     exact absurd h2 (by simp)
    ·try simp only[RL]at h2
     have hal2:a=st.1.length:=by simp at ho; omega
     have hix:st.1.idxOf c=a:=zr2 ha (.inl hal2)
     refine W.exit ?_
     refine xe ?_
     refine xe ?_
     refine XBlock.hit ?_
     refine xn ?_
     refine W.seq ?_
     refine W.r fun K hK=>?_
     simp(disch:=omega)only[↓RU,RV,RH,↓reduceIte,qE,reduceCtorEq,if_pos,w64,↓RS,RG,qA,qM,qL,ty6,zaa,za0]
     apply hK;clear hK K
     refine W.cond rfl (fun h3=>?_) (fun h3=>?_)
     ·try simp only[RL]at h3
      refine W.k fun K hK=>?_
      simp(disch:=omega)only[↓RU,RV,RH,↓reduceIte,qE,reduceCtorEq,if_pos,↓RS,RG,qA,qM,qL,ty5,ty6,zab,za0,hrow,hc]
      apply hK;clear hK K
      refine xn ?_
      refine W.k fun K hK=>?_
      simp(disch:=omega)only[↓RU,RV,RH,↓reduceIte,qE,reduceCtorEq,if_pos,w64,w64,↓RS,RG,qA,qM,qL,ty6,zaa,za0,yb0]
      apply hK;clear hK K
      refine XbN ?_
      refine xn ?_
      refine W.k fun K hK=>?_
      simp(disch:=omega)only[↓RU,RV,RH,↓reduceIte,qE,reduceCtorEq,if_pos,w64,↓RS,RG,qA,qM,qL,zaa]
      apply hK;clear hK K
      refine xn ?_
      refine ⟨row.length - (k+1),by omega,3,k+1,tk+1,tk+3,tk+4,rfl,by omega,?_,?_⟩
      all_goals rw [zl4 hc,hst,z7c hix hal2]
      all_goals simp [Env.put,Env.of,zb8]
     try simp only[RL]at h3
     simp at ho; omega
   ·skip
    obtain ⟨x,hx,-⟩:=zag (show a<st.1.length by simpa using ho)
    have ho2:a<st.1.length:=by simpa using ho
    simp(disch:=omega)only[↓RU,RV,RH,↓reduceIte,qE,reduceCtorEq,if_pos,w64,↓RS,RG,qA,qM,qL,ty5,ty6,zaa,zab,za0,hrow,hc,ho,hx]
    apply hK;clear hK K
    refine W.cond rfl (fun h2=>?_) (fun h2=>?_)
    ·try simp only[RL]at h2
     refine W.skip ?_
     refine xn ?_
     refine W.block ?_
     refine W.k fun K hK=>?_
     simp(disch:=omega)only[↓RU,RV,RH,↓reduceIte,qE,reduceCtorEq,if_pos,w64,↓RS,RG,qA,qM,qL,zaa]
     apply hK;clear hK K
     refine XbN ?_
     refine xn ?_
     refine ⟨st.1.length - (a+1),by omega,3,a+1,rfl,by omega,fun j hj=>(Nat.lt_succ_iff_lt_or_eq.1 hj).elim (ha j) fun e=>by rw [e,hx]; intro e2; exact h2 (by rw [Option.some.inj e2]),?_,rfl⟩
     simp [Env.put,Env.of]
    ·try simp only[RL]at h2
     have hal2:a<st.1.length:=by simpa using ho
     have hix:st.1.idxOf c=a:=zr2 ha (.inr (by rw [hx,UInt8.toNat_inj.1 (show x.toNat=c.toNat by omega)]))
     refine W.exit ?_
     refine xe ?_
     refine xe ?_
     refine XBlock.hit ?_
     refine xn ?_
     refine W.seq ?_
     refine W.r fun K hK=>?_
     simp(disch:=omega)only[↓RU,RV,RH,↓reduceIte,qE,reduceCtorEq,if_pos,w64,↓RS,RG,qA,qM,qL,ty6,zaa,za0]
     apply hK;clear hK K
     refine W.cond rfl (fun h3=>?_) (fun h3=>?_)
     ·try simp only[RL]at h3
      simp at ho; omega
     ·try simp only[RL]at h3
      refine W.skip ?_
      refine xn ?_
      refine W.k fun K hK=>?_
      simp(disch:=omega)only[↓RU,RV,RH,↓reduceIte,qE,reduceCtorEq,if_pos,w64,w64,↓RS,RG,qA,qM,qL,ty6,zaa,za0,yb0]
      apply hK;clear hK K
      refine XbN ?_
      refine xn ?_
      refine W.k fun K hK=>?_
      simp(disch:=omega)only[↓RU,RV,RH,↓reduceIte,qE,reduceCtorEq,if_pos,w64,↓RS,RG,qA,qM,qL,zaa]
      apply hK;clear hK K
      refine xn ?_
      refine ⟨row.length - (k+1),by omega,3,k+1,v0,tk+1,tk+2,rfl,by omega,?_,?_⟩
      all_goals rw [zl4 hc,hst,z7d hix hal2]
      all_goals simp [Env.put,Env.of,zb8]
  ·try simp only[RL]at h1
   have hkr:k=row.length:=by omega
   subst hkr
   refine W.exit ?_
   refine xe ?_
   refine xe ?_
   refine XBlock.hit ?_
   refine xn ?_
   refine W.k fun K hK=>?_
   simp(disch:=omega)only[↓RU,RV,RH,↓reduceIte,qE,reduceCtorEq,if_pos,w64,↓RS,RG,qA,qM,qL,ty5,ty6,zab,za0]
   apply hK;clear hK K
   refine XbN ?_
   refine xn ?_
   refine W.k fun K hK=>?_
   simp(disch:=omega)only[↓RU,RV,RH,↓reduceIte,qE,reduceCtorEq,if_pos,w64,↓RS,RG,qA,qM,qL,zaa]
   apply hK;clear hK K
   refine xn ?_
   refine ⟨p.length - (i+1),by omega,2,i+1,v0,tk+1,tk+2,rfl,by omega,?_,?_⟩
   all_goals rw [zll hrow]
   all_goals simp [Env.put,Env.of,zb8]
 try simp only[RL]at h
 refine W.exit ?_
 refine xe ?_
 refine xe ?_
 refine XBlock.hit ?_
 refine xn ?_
 refine W.r fun K hK=>?_
 simp(disch:=omega)only[↓RU,RV,RH,↓reduceIte,qE,reduceCtorEq,if_pos,↓RS,RG,qA,qM,qL]
 apply hK;clear hK K
 refine W.ret ?_
 refine Br rfl ?_
 have hip:i=p.length:=by omega
 subst hip
 rw [zs9]
 exact zd9 (k:=9) rfl (by simp) (zr6 _)
theorem zrf {p:List Txt} (hs:Sm p):PC Tryz.prog 93 [zaz p] (.bool (zbx p)) true:=by
 have hp:=hs.rows
 have hrb:=zkn p
 obtain ⟨R,hR⟩:∃ R:Nat,zct p=R:=⟨_,(Int.toNat_of_nonneg hrb.1).symm⟩
 refine PC.of ⟨Tryz.func93,by kernel_rfl,rfl,by kernel_rfl⟩ zav mixed (by show 1≤Tryz.f93.ntmps; decide) ?_
 refine W.r fun K hK=>?_
 simp(disch:=omega)only[↓RU,RV,RH,↓reduceIte,qE,reduceCtorEq,if_pos]
 apply hK;clear hK K
 refine W.seq ?_
 refine W.r fun K hK=>?_
 rcases hx:(zcr p,decide (names p=p)) with ⟨_ | _,_ | _⟩
 ·skip
  simp only[Prod.mk.injEq]at hx
  obtain ⟨hg,hn⟩:=hx
  simp(disch:=omega)only[↓RU,RV,RH,↓reduceIte,qE,reduceCtorEq,if_pos,qN,w64,zaa,hg]
  refine zae.pc (ze1 hs) rfl (.inl rfl) ?_
  simp(disch:=omega)only[↓RU,RV,RH,↓reduceIte,qE,reduceCtorEq,if_pos,qN,w64,zaa,hg]
  apply hK;clear hK K
  refine W.cond rfl (fun h0=>?_) (fun h0=>?_)
  ·try simp only[RL]at h0
   refine W.r fun K hK=>?_
   simp(disch:=omega)only[↓RU,RV,RH,↓reduceIte,qE,reduceCtorEq,if_pos]
   apply hK;clear hK K
   refine W.ret ?_
   refine XThen.ret ?_
   refine Br rfl ?_
   rw [znq (.inl hg)]
   rfl
  try simp only[RL]at h0
  exact absurd h0 (by simp)
 ·skip
  simp only[Prod.mk.injEq]at hx
  obtain ⟨hg,hn⟩:=hx
  simp(disch:=omega)only[↓RU,RV,RH,↓reduceIte,qE,reduceCtorEq,if_pos,qN,w64,zaa,hg]
  refine zae.pc (ze1 hs) rfl (.inl rfl) ?_
  simp(disch:=omega)only[↓RU,RV,RH,↓reduceIte,qE,reduceCtorEq,if_pos,qN,w64,zaa,hg]
  apply hK;clear hK K
  refine W.cond rfl (fun h0=>?_) (fun h0=>?_)
  ·try simp only[RL]at h0
   refine W.r fun K hK=>?_
   simp(disch:=omega)only[↓RU,RV,RH,↓reduceIte,qE,reduceCtorEq,if_pos]
   apply hK;clear hK K
   refine W.ret ?_
   refine XThen.ret ?_
   refine Br rfl ?_
   rw [znq (.inl hg)]
   rfl
  try simp only[RL]at h0
  exact absurd h0 (by simp)
 ·skip
  simp only[Prod.mk.injEq]at hx
  obtain ⟨hg,hn⟩:=hx
  simp(disch:=omega)only[↓RU,RV,RH,↓reduceIte,qE,reduceCtorEq,if_pos,qN,w64,zaa,hg,hn]
  refine zae.pc (ze1 hs) rfl (.inl rfl) ?_
  simp(disch:=omega)only[↓RU,RV,RH,↓reduceIte,qE,reduceCtorEq,if_pos,qN,w64,zaa,hg,hn]
  refine zae.pc (zd0 hs) rfl (.inl rfl) ?_
  simp(disch:=omega)only[↓RU,RV,RH,↓reduceIte,qE,reduceCtorEq,if_pos,qN,w64,zaa,hg,hn]
  refine zae.pc (zuc hs.names) rfl (.inl rfl) ?_
  simp(disch:=omega)only[↓RU,RV,RH,↓reduceIte,qE,reduceCtorEq,if_pos,qN,w64,zaa,hg,hn]
  apply hK;clear hK K
  refine W.cond rfl (fun h0=>?_) (fun h0=>?_)
  ·try simp only[RL]at h0
   refine W.r fun K hK=>?_
   simp(disch:=omega)only[↓RU,RV,RH,↓reduceIte,qE,reduceCtorEq,if_pos]
   apply hK;clear hK K
   refine W.ret ?_
   refine XThen.ret ?_
   refine Br rfl ?_
   rw [znq (.inr (.inl hn))]
   rfl
  try simp only[RL]at h0
  exact absurd h0 (by simp)
 skip
 simp only[Prod.mk.injEq]at hx
 obtain ⟨hg,hn⟩:=hx
 simp(disch:=omega)only[↓RU,RV,RH,↓reduceIte,qE,reduceCtorEq,if_pos,qN,w64,zaa,hg,hn]
 refine zae.pc (ze1 hs) rfl (.inl rfl) ?_
 simp(disch:=omega)only[↓RU,RV,RH,↓reduceIte,qE,reduceCtorEq,if_pos,qN,w64,zaa,hg,hn]
 refine zae.pc (zd0 hs) rfl (.inl rfl) ?_
 simp(disch:=omega)only[↓RU,RV,RH,↓reduceIte,qE,reduceCtorEq,if_pos,qN,w64,zaa,hg,hn]
 refine zae.pc (zuc hs.names) rfl (.inl rfl) ?_
 simp(disch:=omega)only[↓RU,RV,RH,↓reduceIte,qE,reduceCtorEq,if_pos,qN,w64,zaa,hg,hn]
 refine zae.pc (zqx hs) rfl (.inl rfl) ?_
 simp(disch:=omega)only[↓RU,RV,RH,↓reduceIte,qE,reduceCtorEq,if_pos,qN,w64,zaa,hg,hn]
 apply hK;clear hK K
 refine W.cond rfl (fun h0=>?_) (fun h0=>?_)
 ·try simp only[RL]at h0
  refine W.r fun K hK=>?_
  simp(disch:=omega)only[↓RU,RV,RH,↓reduceIte,qE,reduceCtorEq,if_pos]
  apply hK;clear hK K
  refine W.ret ?_
  refine XThen.ret ?_
  refine Br rfl ?_
  rw [znq (.inr (.inr h0))]
  rfl
 try simp only[RL]at h0
 have hsm:=zdz hg
 refine W.skip ?_
 refine xn ?_
 refine W.seq ?_
 refine W.r fun K hK=>?_
 simp(disch:=omega)only[↓RU,RV,RH,↓reduceIte,qE,reduceCtorEq,if_pos]
 apply hK;clear hK K
 refine W.block ?_
 refine W.loop [0,3] (fun n vs S=>∃ i:Nat,n=R - i∧i≤R∧((List.range i).all (z4y p)=true)∧vs=[zaz p,.int .i64 i]∧S=⟨[],0⟩) (R) ?_ ?_
 ·refine ⟨0,0,rfl,Nat.zero_le _,rfl,?_,rfl⟩
  simp [Env.put,Env.of,zaj]
 rintro n vs S - ⟨i,rfl,h_i,hi,rfl,rfl⟩
 refine W.seq ?_
 refine W.r fun K hK=>?_
 simp(disch:=omega)only[↓RU,RV,RH,↓reduceIte,qE,reduceCtorEq,if_pos,qN,w64,zaa,hR]
 refine zae.pc (zqx hs) rfl (.inl rfl) ?_
 simp(disch:=omega)only[↓RU,RV,RH,↓reduceIte,qE,reduceCtorEq,if_pos,qN,w64,zaa,hR]
 apply hK;clear hK K
 refine W.cond rfl (fun h1=>?_) (fun h1=>?_)
 ·try simp only[RL]at h1
  have hbs:=z16 (i:Int) hsm.2.1 hsm.2.2
  refine W.skip ?_
  refine xn ?_
  refine W.seq ?_
  refine W.block ?_
  refine W.r fun K hK=>?_
  simp(disch:=omega)only[↓RU,RV,RH,↓reduceIte,qE,reduceCtorEq,if_pos,qN]
  refine zae.pc (z3f hs hsm.1 (i:Int)) rfl (.inl rfl) ?_
  simp(disch:=omega)only[↓RU,RV,RH,↓reduceIte,qE,reduceCtorEq,if_pos,qN]
  apply hK;clear hK K
  refine W.r fun K hK=>?_
  simp(disch:=omega)only[↓RU,RV,RH,↓reduceIte,qE,reduceCtorEq,if_pos,qN,w64,zaa]
  refine zae.pc (z0m hs (by omega) (fun r hr=>by have:=hsm.2.2 r hr; omega) (i:Int)) rfl (.inl rfl) ?_
  simp(disch:=omega)only[↓RU,RV,RH,↓reduceIte,qE,reduceCtorEq,if_pos,qN,w64,zaa]
  apply hK;clear hK K
  refine W.cond rfl (fun h2=>?_) (fun h2=>?_)
  ·try simp only[RL]at h2
   refine W.r fun K hK=>?_
   simp(disch:=omega)only[↓RU,RV,RH,↓reduceIte,qE,reduceCtorEq,if_pos]
   apply hK;clear hK K
   refine W.ret ?_
   refine XBlock.ret ?_
   refine XThen.ret ?_
   refine XThen.ret ?_
   refine XBlock.ret ?_
   refine XThen.ret ?_
   refine Br rfl ?_
   have:(List.range R).all (z4y p)=false:=by
    rw [List.all_eq_false]
    exact ⟨i,by simp; omega,by simpa [z4y] using h2⟩
   rw [zy5 hg hn (by omega) hR,this]
   rfl
  try simp only[RL]at h2
  refine W.skip ?_
  refine XbN ?_
  refine xn ?_
  refine W.k fun K hK=>?_
  simp(disch:=omega)only[↓RU,RV,RH,↓reduceIte,qE,reduceCtorEq,if_pos,w64,zaa]
  apply hK;clear hK K
  refine xn ?_
  refine ⟨R - (i+1),by omega,0,i+1,rfl,by omega,by rw [qS,List.all_append,hi]; simpa [z4y] using h2,?_,rfl⟩
  simp [Env.put,Env.of]
 try simp only[RL]at h1
 refine W.exit ?_
 refine xe ?_
 refine xe ?_
 refine XBlock.hit ?_
 refine xn ?_
 refine W.r fun K hK=>?_
 simp(disch:=omega)only[↓RU,RV,RH,↓reduceIte,qE,reduceCtorEq,if_pos]
 apply hK;clear hK K
 refine W.ret ?_
 refine Br rfl ?_
 have hip:i=R:=by omega
 rw [hip]at hi
 rw [zy5 hg hn (by omega) hR,hi]
 rfl



theorem zl2 {S:Store} {im:Bool} {k:Nat} {a b a2 b2:PV} (h1:reify S im k a=some a2) (h2:reify S im k b=some b2):reify S im (k+1) (.tup [a,b])=some (.tup [a2,b2]):=by
 simp [reify,h1,h2]

def ydp (p:List Txt) (k0:Nat) (w:List Int):Prop :=
 ∃ k f l:Nat,w=[(k:Int),(f:Int),(l:Int)]∧1≤k∧k<k0∧1≤l∧f+l≤p.length∧∀ j,f≤j→j<f+l→ydg p k j=true
theorem ydp.up {p:List Txt} {k k':Nat} (h:k≤k') {w:List Int} (hw:ydp p k w):ydp p k' w:=by
 obtain ⟨a,f,l,h1,h2,h3,h4⟩:=hw
 exact ⟨a,f,l,h1,h2,by omega,h4⟩
theorem z2a {p:List Txt} {k i:Nat} {row:Txt} (h:p[i]?=some row):(zm8 p k p.length)[i]?=some (row.getD k 0):=by
 simp [zm8,h]
theorem z5u {p:List Txt} {k:Nat} (h:k<(zad p).length):(zb2 p)[k]?=some (zm8 p k p.length):=by
 simp [zb2,zi4,h]
theorem z5v {p:List Txt}:(zb2 p).length=(zad p).length:=by simp [zb2,zii]
theorem Sm.grid {p:List Txt} (h:zcr p=true):Sm p:=by
 have:=zdz h
 exact ⟨by omega,fun r hr=>by have:=this.2.2 r hr; omega⟩
def walls (p:List Txt):List (List Int):=(uprights p).map (0 :: ·)++(uprights (zb2 p)).map (1 :: ·)
theorem z4z (row:Txt):∀ (n:Int),n≤zfc n row∧∀ (k:Nat) (c:UInt8),row[k]?=some c→(c.toNat:Int) - 97+1≤zfc n row:=by
 induction row with
 | nil=>intro n; exact ⟨Int.le_refl _,by simp⟩
 | cons a row ih =>
  intro n
  have h:=ih (max n ((a.toNat:Int) - 97+1))
  have e:zfc n (a::row)=zfc (max n ((a.toNat:Int) - 97+1)) row:=rfl
  rw [e]
  refine ⟨by omega,?_⟩
  rintro (_ | k) c hc
  ·simp at hc; subst hc; omega
  simp at hc; exact h.2 k c hc
theorem z08 (p:List Txt):∀ (n:Int),n≤p.foldl zfc n∧∀ (i k:Nat) (row:Txt) (c:UInt8),p[i]?=some row→row[k]?=some c→(c.toNat:Int) - 97+1≤p.foldl zfc n:=by
 induction p with
 | nil=>intro n; exact ⟨Int.le_refl _,by simp⟩
 | cons r p ih =>
  intro n
  have h:=ih (zfc n r)
  have h2:=z4z r n
  simp only[List.foldl_cons]
  refine ⟨by omega,?_⟩
  rintro (_ | i) k row c hr hc
  ·simp at hr; subst hr
   have:=h2.2 k c hc; omega
  simp at hr; exact h.2 i k row c hr hc
def ydu (ms:List Nat) (a b:Nat):List Nat:=ms.set a ((ms[a]?.getD 0) ||| 2 ^ b)
def ydr (a:Nat) (ms:List Nat) (bs:List Int):List Nat:=bs.foldl (fun ms b=>ydu ms a b.toNat) ms
def ydq (bs:List Int) (ms:List Nat) (la:List Int):List Nat:=la.foldl (fun ms a=>ydr a.toNat ms bs) ms
def z9m (p:List Txt) (w:List Int):List Int × List Int :=
 match w with
 | [kind,line,fr,long]=>z5a p kind.toNat line.toNat fr.toNat long.toNat
 | _=>([],[])
def yds (p:List Txt) (kind:Int) (ms:List Nat) (w:List Int):List Nat :=
 if w[0]?.getD 0=kind then ydq (z9m p w).2 ms (z9m p w).1 else ms
def just (p:List Txt) (kind:Int):List Nat:=(walls p).foldl (yds p kind) (List.replicate (zct p).toNat 0)
def Msk (n:Nat) (ms:List Nat):Prop:=ms.length=n∧∀ m∈ms,m<512
theorem Msk.get {n:Nat} {ms:List Nat} (h:Msk n ms) (a:Nat):ms[a]?.getD 0<512:=by
 cases e:ms[a]? with
 | none=>simp
 | some m=>simpa using h.2 m (List.mem_of_getElem? e)
theorem Msk.set {n:Nat} {ms:List Nat} (h:Msk n ms) {a m:Nat} (hm:m<512):Msk n (ms.set a m):=by
 refine ⟨by simpa using h.1,fun x hx=>?_⟩
 rcases List.mem_or_eq_of_mem_set hx with h1 | rfl
 ·exact h.2 x h1
 exact hm
theorem Msk.foldl {n:Nat} {α:Type} {f:List Nat→α→List Nat}:∀ {l:List α} {ms:List Nat},(∀ ms,Msk n ms→∀ a∈l,Msk n (f ms a))→Msk n ms→Msk n (l.foldl f ms)
 | [],ms,_,h=>h
 | a::l,ms,hf,h=>Msk.foldl (l:=l) (fun ms hm x hx=>hf ms hm x (by simp [hx])) (hf ms h a (by simp))
theorem z7t {l:List Int} {x y:Int} (h:y∈zvb l x):y∈l∨y=x:=by
 unfold zvb at h
 split at h
 ·exact .inl h
 simpa using h
theorem zil {α β:Type} {f:β→α→β} {z:β} {l:List α} {i:Nat} {a:α} (h:l[i]?=some a):(l.take (i+1)).foldl f z=f ((l.take i).foldl f z) a:=by
 simp [tk h,List.foldl_append]
theorem Msk.at_ {n:Nat} {ms:List Nat} (h:Msk n ms) {a:Nat} (ha:a<n):∃ m,ms[a]?=some m∧m<512:=by
 obtain ⟨m,hm,h2⟩:=zag (show a<ms.length by rw [h.1]; exact ha)
 exact ⟨m,hm,h.2 m h2⟩
theorem zhb {a b:Int} (h:a≤b):(a≤b)=True:=eq_true h
theorem zdd {α:Type} {f:α→PV} {l:List α} {a:Nat} {v:PV} (h:a<l.length):(l.map f).take a++[v]++(l.map f).drop (a+1)=(l.map f).set a v:=by
 rw [List.set_eq_take_append_cons_drop,if_pos (by simpa using h)]; simp
theorem zdy {l:List Int} {q:IntKind} {a:Nat} {m:Int}:(l.map (PV.int q)).set a (.int q m)=(l.set a m).map (PV.int q):=by
 rw [List.map_set]
theorem zex {β:Type} {f:β→Nat→β} {z:β} {i:Nat}:(List.range (i+1)).foldl f z=f ((List.range i).foldl f z) i:=by
 simp [qS,List.foldl_append]

def Bnd (n:Nat) (M:Int) (l:List Int):Prop:=l.length=n∧∀ x∈l,0≤x∧x≤M
theorem Bnd.at_ {n:Nat} {M:Int} {l:List Int} (h:Bnd n M l) {a:Nat} (ha:a<n):∃ x,l[a]?=some x∧0≤x∧x≤M:=by
 obtain ⟨x,hx,hm⟩:=zag (show a<l.length by rw [h.1]; exact ha)
 exact ⟨x,hx,h.2 x hm⟩
theorem Bnd.up {n:Nat} {M M':Int} {l:List Int} (h:Bnd n M l) (hM:M≤M'):Bnd n M' l:=⟨h.1,fun x hx=>by have:=h.2 x hx; omega⟩
theorem Bnd.set {n:Nat} {M:Int} {l:List Int} (h:Bnd n M l) {a:Nat} {x:Int} (h0:0≤x) (hx:x≤M):Bnd n M (l.set a x):=by
 refine ⟨by simpa using h.1,fun y hy=>?_⟩
 rcases List.mem_or_eq_of_mem_set hy with h1 | rfl
 ·exact h.2 y h1
 exact ⟨h0,hx⟩
theorem Bnd.zero {n:Nat}:Bnd n 0 (List.replicate n 0):=⟨by simp,fun x hx=>by rw [(List.mem_replicate.1 hx).2]; omega⟩
def zei (l:List Int) (a:Nat):Int:=l[a]?.getD 0
theorem zgn {l:List Int} {a:Nat} {x:Int} (h:l[a]?=some x):zei l a=x:=by simp [zei,h]
def z6l (ms:List Nat) (a b:Nat):Bool:=(ms[a]?.getD 0).testBit b
def plB (sets:List Nat) (needs:List Int) (a:Nat) (out:List Int) (b:Nat):List Int :=
 if z6l sets a b then out.set b (max (zei out b) (zei out a+zei needs a)) else out
def plA (sets:List Nat) (needs:List Int) (out:List Int) (a:Nat):List Int:=(List.range needs.length).foldl (plB sets needs a) out
def plN (sets:List Nat) (needs:List Int) (out:List Int) (_:Nat):List Int:=(List.range needs.length).foldl (plA sets needs) out
def places (sets:List Nat) (needs:List Int):List Int:=(List.range needs.length).foldl (plN sets needs) (List.replicate needs.length 0)
def least (sets:List Nat) (needs:List Int):Int:=(List.range needs.length).foldl (fun m a=>max m (zei (places sets needs) a+zei needs a)) 0
theorem zfg:∀ (n:Nat),repz [PV.int .i64 0] n=(List.replicate n 0).map (PV.int .i64)
 | 0=>rfl
 | n+1=>by rw [zgy,zfg n,List.replicate_succ]; rfl
theorem znt:∀ (n:Nat),repz [PV.str []] n=(List.replicate n []).map PV.str
 | 0=>rfl
 | n+1=>by rw [zgy,znt n,List.replicate_succ]; rfl
theorem z48 {l:List Txt} {a:Nat} {m:Txt}:(l.map PV.str).set a (.str m)=(l.set a m).map PV.str:=by
 rw [List.map_set]
def ybq:List Txt→Nat
 | []=>0
 | r::p=>r.length+ybq p
def sz (p:List Txt) (left:Int):Int:=if (p.length+ybq p:Nat)≤left then left - (p.length+ybq p:Nat) else -1
theorem zvu {α:Type} {p q:List α} {i:Nat} {x y:α} (h:p.take i=q.take i) (hx:p[i]?=some x) (hy:q[i]?=some y) (e:x=y):p.take (i+1)=q.take (i+1):=by
 rw [tk hx,tk hy,h,e]
section
abbrev zc3 (g:List (List Int)):PV := .sl (g.map eInts) g.length
structure Rect where
 row:Int
 col:Int
 high:Int
 wide:Int
 deriving DecidableEq
def Rect.cells (r:Rect):List PV:=[.int .i64 r.row,.int .i64 r.col,.int .i64 r.high,.int .i64 r.wide]
abbrev zpy (r:Rect):PV := .agg r.cells
def rcs (rs:List Rect):List PV:=rs.flatMap Rect.cells
abbrev zmj (rs:List Rect):PV := .sl (rcs rs) rs.length
abbrev zap (g:List (List Int)) (rs:List Rect):PV := .ip [zc3 g,zmj rs] 0
theorem zba (rs:List Rect):(rcs rs).length=rs.length*4:=by
 induction rs with
 | nil=>rfl
 | cons r rs ih=>simp only[rcs,List.flatMap_cons,List.length_append,List.length_cons]at ih ⊢; rw [ih]; simp [Rect.cells]; omega
theorem zso (rs ss:List Rect):rcs (rs++ss)=rcs rs++rcs ss:=by simp [rcs]
theorem zk4 (r:Rect) (rs:List Rect):rcs (r::rs)=r.cells++rcs rs:=rfl
theorem z7w (rs:List Rect) (n:Nat):(rcs rs).take (n*4)=rcs (rs.take n):=by
 induction rs generalizing n with
 | nil=>simp [rcs]
 | cons r rs ih =>
  cases n with
  | zero=>simp [rcs]
  | succ n =>
   rw [zk4,List.take_succ_cons,zk4,← ih n]
   rw [show (n+1)*4=r.cells.length+n*4 by simp [Rect.cells]; omega,List.take_length_add_append]
theorem zy8 (rs:List Rect) (n:Nat):(rcs rs).drop (n*4)=rcs (rs.drop n):=by
 induction rs generalizing n with
 | nil=>simp [rcs]
 | cons r rs ih =>
  cases n with
  | zero=>simp
  | succ n =>
   rw [zk4,List.drop_succ_cons,← ih n]
   rw [show (n+1)*4=r.cells.length+n*4 by simp [Rect.cells]; omega,List.drop_length_add_append]
theorem zjc {rs:List Rect} {n:Nat} {r:Rect} (h:rs[n]?=some r):((rcs rs).drop (n*4)).take 4=r.cells:=by
 rw [zy8]
 have:rs.drop n=r::rs.drop (n+1):=by
  obtain ⟨hn,rfl⟩:=List.getElem?_eq_some_iff.1 h
  exact List.drop_eq_getElem_cons hn
 rw [this,zk4]
 simp [Rect.cells]
theorem ya9 {rs:List Rect} {n:Nat} {r:Rect} (h:n<rs.length):(rcs rs).take (n*4)++r.cells++(rcs rs).drop (n*4+4)=rcs (rs.set n r):=by
 rw [z7w,show n*4+4=(n+1)*4 by omega,zy8,show r.cells=rcs [r] by simp [rcs],← zso,← zso]
 congr 1
 rw [List.set_eq_take_append_cons_drop,if_pos h]
 simp
def ixf {α:Type} (test:α→Bool) (l:List α):Int :=
 match l.findIdx? test with
 | some i=>i
 | none => -1
theorem yct {α:Type} {test:α→Bool} {l:List α} {i:Nat} {x:α} (h:l[i]?=some x) (hall:(l.take i).any test=false) (hx:test x=true):ixf test l=i:=by
 have:l.findIdx? test=some i:=by
  obtain ⟨hi,rfl⟩:=List.getElem?_eq_some_iff.1 h
  rw [List.findIdx?_eq_some_iff_getElem]
  refine ⟨hi,hx,fun j hj=>?_⟩
  rw [List.any_eq_false]at hall
  have:=hall l[j] (by rw [List.mem_take_iff_getElem]; exact ⟨j,by omega,rfl⟩)
  simpa using this
 simp [ixf,this]
theorem zyj {α:Type} {test:α→Bool} {l:List α} (hall:l.any test=false):ixf test l = -1:=by
 have:l.findIdx? test=none:=by
  rw [List.findIdx?_eq_none_iff]
  intro x hx
  rw [List.any_eq_false]at hall
  simpa using hall x hx
 simp [ixf,this]
theorem yar {α:Type} {test:α→Bool} {l:List α}:decide (0≤ixf test l)=l.any test:=by
 cases h:l.any test with
 | false=>rw [zyj h]; rfl
 | true =>
  unfold ixf
  cases hi:l.findIdx? test with
  | none =>
   rw [List.findIdx?_eq_none_iff]at hi
   rw [List.any_eq_true]at h
   obtain ⟨x,hx,hx2⟩:=h
   rw [hi x hx]at hx2; cases hx2
  | some i=>simp
theorem yb8 {α:Type} {f:α→Bool} {l:List α} {i:Nat} {a:α} (h:l[i]?=some a) (h1:(l.take i).any f=false) (h2:f a=false):(l.take (i+1)).any f=false:=by
 rw [tk h,List.any_append,h1]; simp [h2]
def Rect.both (b o:Rect):Rect:=⟨min b.row o.row,min b.col o.col,max (b.row+b.high) (o.row+o.high) - min b.row o.row,max (b.col+b.wide) (o.col+o.wide) - min b.col o.col⟩
def Rect.In (M:Int) (r:Rect):Prop:=0≤r.row∧r.row≤M∧0≤r.col∧r.col≤M∧0≤r.high∧r.high≤M∧0≤r.wide∧r.wide≤M
theorem zdi {S:Store} {im:Bool} {k:Nat} {g:FuncId} {cap:List PV}:reify S im (k+1) (.fn g cap)=(cap.mapM (reify S im k)).map (.fn g):=rfl
section
variable {S:Store} {k f lo:Nat} {sel:List Nat} {fr:Nat→Bool} {im:Bool}
theorem zcc {q:IntKind} {n:Int}:rn S k sel (f+1) (.int q n)=some (.int q n):=rfl
theorem zbm {b:Bool}:rn S k sel (f+1) (.bool b)=some (.bool b):=rfl
theorem zcf {b:Txt}:rn S k sel (f+1) (.str b)=some (.str b):=rfl
theorem zdp {cs:List PV} {n:Nat}:rn S k sel (f+1) (.sl cs n)=some (.sl cs n):=rfl
theorem zdn {cs:List PV} {n:Nat}:rn S k sel (f+1) (.ip cs n)=some (.ip cs n):=rfl
theorem zbo:rn S k sel (f+1) .nils=some .nils:=rfl
theorem zbn:rn S k sel (f+1) .nilp=some .nilp:=rfl
theorem za4:rn S k sel (f+1) .undef=some .undef:=rfl
theorem zcb {cs:List PV}:rn S k sel (f+1) (.agg cs)=(cs.mapM (rn S k sel f)).map .agg:=rfl
theorem zcg {cs:List PV}:rn S k sel (f+1) (.tup cs)=(cs.mapM (rn S k sel f)).map .tup:=rfl
theorem zdm {g:FuncId} {cs:List PV}:rn S k sel (f+1) (.fn g cs)=(cs.mapM (rn S k sel f)).map (.fn g):=rfl
theorem zcd {o ver off n:Nat}:rn S k sel (f+1) (.loc o ver off n)=(if o<k then some (.loc o ver off n) else
   if sel.contains o then (match S.obs[o]? with | some (.arr v _ _ _)=>if v=ver then some (.loc (k+sel.idxOf o) S.tick off n) else none | _=>none)
   else rfq S (zf8 k sel) 10 (.loc o ver off n)):=rfl
theorem zce {o ver off:Nat}:rn S k sel (f+1) (.ref o ver off)=(if o<k then some (.ref o ver off) else
   if sel.contains o then (match S.obs[o]? with | some (.arr v _ _ _)=>if v=ver then some (.ref (k+sel.idxOf o) S.tick off) else none | _=>none)
   else rfq S (zf8 k sel) 10 (.ref o ver off)):=rfl
theorem zdo {o ver:Nat}:rn S k sel (f+1) (.mp o ver)=(if o<k then some (.mp o ver) else
   if sel.contains o then (match S.obs[o]? with | some (.map v _)=>if v=ver then some (.mp (k+sel.idxOf o) S.tick) else none | _=>none)
   else none):=rfl
theorem zbk {o ver off n:Nat}:rfq S fr (f+1) (.loc o ver off n)=(match S.obs[o]? with
   | some (.arr v _ sz cells)=>if fr o=true∧v=ver∧off+n*sz≤cells.length then (((cells.drop off).take (n*sz)).mapM (rfq S fr f)).map (.sl · n) else none
   | _=>none):=rfl
theorem zbj {q:IntKind} {n:Int}:rfq S fr (f+1) (.int q n)=some (.int q n):=rfl
theorem za1 {b:Bool}:rfq S fr (f+1) (.bool b)=some (.bool b):=rfl
theorem zbl {b:Txt}:rfq S fr (f+1) (.str b)=some (.str b):=rfl
theorem zca {cs:List PV} {n:Nat}:rfq S fr (f+1) (.sl cs n)=some (.sl cs n):=rfl
theorem zau {old:Bool}:zpd S k sel old []=some []:=rfl
theorem zaq {old:Bool} {o:Nat} {r:List Nat}:zpd S k sel old (o::r)=((S.obs[o]?).bind (z07 S k sel old)).bind fun a=>(zpd S k sel old r).map (a :: ·):=rfl
theorem za2 {old:Bool} {ver et sz:Nat} {cells:List PV}:z07 S k sel old (.arr ver et sz cells)=(cells.mapM (rn S k sel 10)).map (.arr (if old then ver else S.tick) et sz ·):=rfl
theorem za3 {old:Bool} {ver:Nat} {es:List (PV × PV)}:z07 S k sel old (.map ver es)=(es.mapM fun q=>(rn S k sel 10 q.1).bind fun a=>(rn S k sel 10 q.2).map fun b=>(a,b)).map (.map (if old then ver else S.tick) ·):=rfl
theorem zb9:S.rn k sel=(if sel.all (fun o=>decide (k≤o)) && decide sel.Nodup && decide (k≤S.obs.length) then
  (zpd S k sel true (List.range k)).bind fun a=>(zpd S k sel false sel).map fun b=>⟨a++b,S.tick+1⟩
 else none):=rfl
def scal:PV→Bool
 | .int _ _ | .bool _ | .str _=>true
 | _=>false
theorem z4x {l:List PV} (h:l.all scal=true):l.mapM (rn S k sel (f+1))=some l:=by
 rw [List.all_eq_true]at h
 exact zbq fun x hx=>by have:=h x hx; cases x <;> simp [scal]at this <;> rfl
theorem zrc {l:List PV} (h:l.all scal=true):l.mapM (reify S im (f+1))=some l:=by
 rw [List.all_eq_true]at h
 exact zbq fun x hx=>by have:=h x hx; cases x <;> simp [scal]at this <;> rfl
theorem zzm (rs:List Rect):(rcs rs).all scal=true:=by
 induction rs with
 | nil=>rfl
 | cons r rs ih=>rw [zk4,List.all_append,ih]; rfl
end
end
theorem zdx (g:List (List Int)) (rs:List Rect):PC Tryz.prog 60 [zap g rs] (.int .i64 g.length) true:=by
 refine PC.of ⟨Tryz.func60,by kernel_rfl,rfl,by kernel_rfl⟩ zav mixed (by show 1≤Tryz.f60.ntmps; decide) ?_
 refine W.r fun K hK=>?_
 simp(disch:=omega)only[↓RU,RV,RH,↓reduceIte,qE,reduceCtorEq,if_pos,↓RS,RG,qA,qM,qL]
 apply hK;clear hK K
 refine W.r fun K hK=>?_
 simp(disch:=omega)only[↓RU,RV,RH,↓reduceIte,qE,reduceCtorEq,if_pos,↓RS,RG,qA,qM,qL,ty0,ty3,zaf,zd3,zb4,zas,zaa,zd4,zat]
 apply hK;clear hK K
 refine W.ret ?_
 refine Br rfl ?_
 rfl
theorem zeg {g:List (List Int)} {row:List Int} (h:g[0]?=some row) (rs:List Rect):PC Tryz.prog 73 [zap g rs] (.int .i64 row.length) true:=by
 have hl:=zbc h
 refine PC.of ⟨Tryz.func73,by kernel_rfl,rfl,by kernel_rfl⟩ zav mixed (by show 1≤Tryz.f73.ntmps; decide) ?_
 refine W.r fun K hK=>?_
 simp(disch:=omega)only[↓RU,RV,RH,↓reduceIte,qE,reduceCtorEq,if_pos,↓RS,RG,qA,qM,qL]
 apply hK;clear hK K
 refine W.r fun K hK=>?_
 simp(disch:=omega)only[↓RU,RV,RH,↓reduceIte,qE,reduceCtorEq,if_pos,↓RS,RG,qA,qM,qL,ty0,ty3,zaf,zd3,zb4,zas,zaa,zd4,zat,h,Int.toNat_zero,Nat.zero_mul,qZ]
 apply hK;clear hK K
 refine W.ret ?_
 refine Br rfl ?_
 rfl
theorem z92 {r:Rect} (h1:0≤r.high*r.wide) (h2:r.high*r.wide≤1048576):PC Tryz.prog 109 [zpy r] (.int .i64 (r.high*r.wide)) true:=by
 simp only[zpy,Rect.cells]
 refine PC.of ⟨Tryz.func109,by kernel_rfl,rfl,by kernel_rfl⟩ zav mixed (by show 1≤Tryz.f109.ntmps; decide) ?_
 refine W.r fun K hK=>?_
 simp(disch:=omega)only[↓RU,RV,RH,↓reduceIte,qE,reduceCtorEq,if_pos,↓RS,RG,qA,qM,qL,zas,zaa,zat]
 apply hK;clear hK K
 refine W.r fun K hK=>?_
 simp(disch:=omega)only[↓RU,RV,RH,↓reduceIte,qE,reduceCtorEq,if_pos,w64,↓RS,RG,qA,qM,qL,zas,zaa,zat]
 apply hK;clear hK K
 refine W.ret ?_
 refine Br rfl ?_
 rfl
theorem zjf {b o:Rect} (hb:b.In 1000) (ho:o.In 1000):PC Tryz.prog 108 [zpy b,zpy o] (zpy (b.both o)) true:=by
 unfold Rect.In at hb ho
 simp only[zpy,Rect.cells,Rect.both]
 refine PC.of ⟨Tryz.func108,by kernel_rfl,rfl,by kernel_rfl⟩ zav mixed (by show 2≤Tryz.f108.ntmps; decide) ?_
 refine W.r fun K hK=>?_
 simp(disch:=omega)only[↓RU,RV,RH,↓reduceIte,qE,reduceCtorEq,if_pos,↓RS,RG,qA,qM,qL,zas,zaa,zat]
 apply hK;clear hK K
 refine W.seq_draw (by kernel_rfl) fun K hK=>?_
 simp(disch:=omega)only[↓RU,RV,RH,↓reduceIte,qE,reduceCtorEq,if_pos,zh2,↓RS,RG,qA,qM,qL,zas,zaa,zat]
 apply hK;clear hK K
 refine W.r fun K hK=>?_
 simp(disch:=omega)only[↓RU,RV,RH,↓reduceIte,qE,reduceCtorEq,if_pos,w64,ze7,↓RS,RG,qA,qM,qL,zas,zaa,zat]
 apply hK;clear hK K
 refine W.ret ?_
 refine Br rfl ?_
 rfl
theorem zw8 (row:List Int) (w:Int) (hr:row.length<2147483648):PC Tryz.prog 106 [eInts row,.ip [.int .i64 w] 0] (.bool (decide ((row.length:Int)≠w))) true:=by
 refine PC.of ⟨Tryz.func106,by kernel_rfl,rfl,by kernel_rfl⟩ zav mixed (by show 2≤Tryz.f106.ntmps; decide) ?_
 refine W.r fun K hK=>?_
 simp(disch:=omega)only[↓RU,RV,RH,↓reduceIte,qE,reduceCtorEq,if_pos,↓RS,RG,qA,qM,qL]
 apply hK;clear hK K
 refine W.r fun K hK=>?_
 simp(disch:=omega)only[↓RU,RV,RH,↓reduceIte,qE,reduceCtorEq,if_pos,w64,↓RS,RG,qA,qM,qL,zaf,zaa]
 apply hK;clear hK K
 refine W.ret ?_
 refine Br rfl ?_
 rw [show decide ((row.length:Int)≠w)=((row.length:Int) != w) by rw [z13]; simp]
 rfl
theorem zws {l:List (List Int)} (hl:l.length<2147483648) {g:FuncId} {cap:List PV} (hc:cap.mapM (reify ⟨[],0⟩ true 10)=some cap) {test:(List Int)→Bool} (hg:∀ x∈l,PC Tryz.prog g (eInts x::cap) (.bool (test x)) true):PC Tryz.prog 141 [zc3 l,.fn g cap] (.int .i64 (ixf test l)) true:=by
 refine PC.of ⟨Tryz.func141,by kernel_rfl,rfl,by kernel_rfl⟩ zav mixed (by show 2≤Tryz.f141.ntmps; decide) ?_
 refine W.r fun K hK=>?_
 simp(disch:=omega)only[↓RU,RV,RH,↓reduceIte,qE,reduceCtorEq,if_pos]
 apply hK;clear hK K
 refine W.seq ?_
 refine W.r fun K hK=>?_
 simp(disch:=omega)only[↓RU,RV,RH,↓reduceIte,qE,reduceCtorEq,if_pos,ty0,zaf,zb4,zaa]
 apply hK;clear hK K
 refine W.block ?_
 refine W.loop [0,1,6,7,8] (fun n vs S=>∃ i:Nat,n=l.length - i∧i≤l.length∧((l.take i).any test=false)∧vs=[zc3 l,.fn g cap,zc3 l,.int .i64 l.length,.int .i64 i]∧S=⟨[],0⟩) (l.length) ?_ ?_
 ·refine ⟨0,0,rfl,Nat.zero_le _,rfl,?_,rfl⟩
  simp [Env.put,Env.of,zaj]
 rintro n vs S - ⟨i,rfl,h_i,hall,rfl,rfl⟩
 refine W.r fun K hK=>?_
 simp(disch:=omega)only[↓RU,RV,RH,↓reduceIte,qE,reduceCtorEq,if_pos,w64,zaa]
 apply hK;clear hK K
 refine W.seq ?_
 refine W.cond rfl (fun h=>?_) (fun h=>?_)
 ·try simp only[RL]at h
  obtain ⟨x,hx,hxm⟩:=zag (show i<l.length by omega)
  refine W.skip ?_
  refine xn ?_
  refine W.seq ?_
  refine W.block ?_
  refine W.r fun K hK=>?_
  simp(disch:=omega)only[↓RU,RV,RH,↓reduceIte,qE,reduceCtorEq,if_pos]
  apply hK;clear hK K
  refine W.r fun K hK=>?_
  simp(disch:=omega)only[↓RU,RV,RH,↓reduceIte,qE,reduceCtorEq,if_pos,qN,ty0,zaf,zb4,zaa,hx]
  refine zae.pc (hg x hxm) (zax rfl hc) (.inl rfl) ?_
  simp(disch:=omega)only[↓RU,RV,RH,↓reduceIte,qE,reduceCtorEq,if_pos,qN,ty0,zaf,zb4,zaa,hx]
  apply hK;clear hK K
  refine W.cond rfl (fun h1=>?_) (fun h1=>?_)
  ·try simp only[RL]at h1
   refine W.r fun K hK=>?_
   simp(disch:=omega)only[↓RU,RV,RH,↓reduceIte,qE,reduceCtorEq,if_pos]
   apply hK;clear hK K
   refine W.ret ?_
   refine XBlock.ret ?_
   refine XThen.ret ?_
   refine XThen.ret ?_
   refine XBlock.ret ?_
   refine XThen.ret ?_
   refine Br rfl ?_
   rw [yct hx hall h1]
   rfl
  try simp only[RL]at h1
  refine W.skip ?_
  refine XbN ?_
  refine xn ?_
  refine W.k fun K hK=>?_
  simp(disch:=omega)only[↓RU,RV,RH,↓reduceIte,qE,reduceCtorEq,if_pos,w64,zaa]
  apply hK;clear hK K
  refine xn ?_
  refine ⟨l.length - (i+1),by omega,0,i+1,rfl,by omega,yb8 hx (by assumption) h1,?_,rfl⟩
  simp [Env.put,Env.of]
 try simp only[RL]at h
 refine W.exit ?_
 refine xe ?_
 refine xe ?_
 refine XBlock.hit ?_
 refine xn ?_
 refine W.r fun K hK=>?_
 simp(disch:=omega)only[↓RU,RV,RH,↓reduceIte,qE,reduceCtorEq,if_pos]
 apply hK;clear hK K
 refine W.ret ?_
 refine Br rfl ?_
 have hip:l.take i=l:=qT (by omega)
 rw [hip]at hall
 rw [zyj hall]
 rfl
theorem zpw {l:List (List Int)} (hl:l.length<2147483648) {g:FuncId} {cap:List PV} (hc9:cap.mapM (reify ⟨[],0⟩ true 9)=some cap) (hc:cap.mapM (reify ⟨[],0⟩ true 10)=some cap) {test:(List Int)→Bool} (hg:∀ x∈l,PC Tryz.prog g (eInts x::cap) (.bool (test x)) true):PC Tryz.prog 105 [zc3 l,.fn g cap] (.bool (l.any test)) true:=by
 have hcr:[zc3 l,.fn g cap].mapM (reify ⟨[],0⟩ true 10)=some [zc3 l,.fn g cap]:=zax rfl (zax (by rw [zdi,hc9]; rfl) rfl)
 refine PC.of ⟨Tryz.func105,by kernel_rfl,rfl,by kernel_rfl⟩ zav mixed (by show 2≤Tryz.f105.ntmps; decide) ?_
 refine W.r fun K hK=>?_
 simp(disch:=omega)only[↓RU,RV,RH,↓reduceIte,qE,reduceCtorEq,if_pos]
 apply hK;clear hK K
 refine W.r fun K hK=>?_
 simp(disch:=omega)only[↓RU,RV,RH,↓reduceIte,qE,reduceCtorEq,if_pos,qN,w64,zaa]
 refine zae.pc (zws hl hc hg) hcr (.inl rfl) ?_
 simp(disch:=omega)only[↓RU,RV,RH,↓reduceIte,qE,reduceCtorEq,if_pos,qN,w64,zaa]
 apply hK;clear hK K
 refine W.ret ?_
 refine Br rfl ?_
 rw [← yar]
 rfl
theorem ztz {p q:List Txt} (hp:p.length<2147483648) (hq:q.length<2147483648):PC Tryz.prog 118 [zaz p,zaz q] (.bool (decide (p=q))) true:=by
 refine PC.of ⟨Tryz.func118,by kernel_rfl,rfl,by kernel_rfl⟩ zav mixed (by show 2≤Tryz.f118.ntmps; decide) ?_
 refine W.r fun K hK=>?_
 simp(disch:=omega)only[↓RU,RV,RH,↓reduceIte,qE,reduceCtorEq,if_pos]
 apply hK;clear hK K
 refine W.seq ?_
 refine W.r fun K hK=>?_
 simp(disch:=omega)only[↓RU,RV,RH,↓reduceIte,qE,reduceCtorEq,if_pos,w64,ty5,zaa,zab]
 apply hK;clear hK K
 refine W.cond rfl (fun h=>?_) (fun h=>?_)
 ·try simp only[RL]at h
  refine W.r fun K hK=>?_
  simp(disch:=omega)only[↓RU,RV,RH,↓reduceIte,qE,reduceCtorEq,if_pos]
  apply hK;clear hK K
  refine W.ret ?_
  refine XThen.ret ?_
  refine Br rfl ?_
  rw [show decide (p=q)=false by simp; rintro rfl; exact h rfl]
  rfl
 try simp only[RL]at h
 refine W.skip ?_
 refine xn ?_
 refine W.seq ?_
 refine W.r fun K hK=>?_
 simp(disch:=omega)only[↓RU,RV,RH,↓reduceIte,qE,reduceCtorEq,if_pos,ty5,zab]
 apply hK;clear hK K
 refine W.block ?_
 refine W.loop [0,1,11,12,13] (fun n vs S=>∃ i:Nat,n=p.length - i∧i≤p.length∧(p.take i=q.take i)∧vs=[zaz p,zaz q,zaz p,.int .i64 p.length,.int .i64 i]∧S=⟨[],0⟩) (p.length) ?_ ?_
 ·refine ⟨0,0,rfl,Nat.zero_le _,rfl,?_,rfl⟩
  simp [Env.put,Env.of,zaj]
 rintro n vs S - ⟨i,rfl,h_i,htk,rfl,rfl⟩
 refine W.r fun K hK=>?_
 simp(disch:=omega)only[↓RU,RV,RH,↓reduceIte,qE,reduceCtorEq,if_pos,w64,zaa]
 apply hK;clear hK K
 refine W.seq ?_
 refine W.cond rfl (fun h1=>?_) (fun h1=>?_)
 ·try simp only[RL]at h1
  obtain ⟨x,hx,-⟩:=zag (show i<p.length by omega)
  obtain ⟨y,hy,-⟩:=zag (show i<q.length by omega)
  refine W.skip ?_
  refine xn ?_
  refine W.seq ?_
  refine W.block ?_
  refine W.r fun K hK=>?_
  simp(disch:=omega)only[↓RU,RV,RH,↓reduceIte,qE,reduceCtorEq,if_pos]
  apply hK;clear hK K
  refine W.seq_draw (by kernel_rfl) fun K hK=>?_
  simp(disch:=omega)only[↓RU,RV,RH,↓reduceIte,qE,reduceCtorEq,if_pos,w64,ty5,zab,hx,hy]
  apply hK;clear hK K
  refine W.cond rfl (fun h2=>?_) (fun h2=>?_)
  ·try simp only[RL]at h2
   refine W.r fun K hK=>?_
   simp(disch:=omega)only[↓RU,RV,RH,↓reduceIte,qE,reduceCtorEq,if_pos]
   apply hK;clear hK K
   refine W.ret ?_
   refine XBlock.ret ?_
   refine XThen.ret ?_
   refine XThen.ret ?_
   refine XBlock.ret ?_
   refine XThen.ret ?_
   refine Br rfl ?_
   rw [show decide (p=q)=false by simp; rintro rfl; rw [hx]at hy; simp_all]
   rfl
  try simp only[RL]at h2
  refine W.skip ?_
  refine XbN ?_
  refine xn ?_
  refine W.k fun K hK=>?_
  simp(disch:=omega)only[↓RU,RV,RH,↓reduceIte,qE,reduceCtorEq,if_pos,w64,zaa]
  apply hK;clear hK K
  refine xn ?_
  refine ⟨p.length - (i+1),by omega,0,i+1,rfl,by omega,zvu htk hx hy h2,?_,rfl⟩
  simp [Env.put,Env.of]
 try simp only[RL]at h1
 refine W.exit ?_
 refine xe ?_
 refine xe ?_
 refine XBlock.hit ?_
 refine xn ?_
 refine W.r fun K hK=>?_
 simp(disch:=omega)only[↓RU,RV,RH,↓reduceIte,qE,reduceCtorEq,if_pos]
 apply hK;clear hK K
 refine W.ret ?_
 refine Br rfl ?_
 have h1:p.take i=p:=qT (by omega)
 have h2:q.take i=q:=qT (by omega)
 rw [show decide (p=q)=true by simp; rw [← h1,← h2]; exact htk]
 rfl
def GW (g:List (List Int)) (H W:Nat):Prop:=g.length=H∧(∀ r∈g,r.length=W)∧1≤H∧H≤6∧1≤W∧W≤6
def gz (g:List (List Int)) (i j:Nat):Int:=(g[i]?.getD [])[j]?.getD 0
theorem GW.at_ {g:List (List Int)} {H W:Nat} (h:GW g H W) {i j:Nat} (hi:i<H) (hj:j<W):∃ row,g[i]?=some row∧row.length=W∧row[j]?=some (gz g i j):=by
 obtain ⟨row,hr,hm⟩:=zag (show i<g.length by rw [h.1]; exact hi)
 have hl:=h.2.1 row hm
 obtain ⟨x,hx,-⟩:=zag (show j<row.length by omega)
 exact ⟨row,hr,hl,by simp [gz,hr,hx]⟩
def zch (g:List (List Int)) (level:Bool) (line at_:Nat):Int × Int:=if level then (gz g (line - 1) at_,gz g line at_) else (gz g at_ (line - 1),gz g at_ line)
def InL (H W:Nat) (level:Bool) (line at_:Nat):Prop:=1≤line∧if level then line<H∧at_<W else line<W∧at_<H
structure Wall where
 level:Bool
 line:Int
 fr:Int
 long:Int
def Wall.cells (w:Wall):List PV:=[.bool w.level,.int .i64 w.line,.int .i64 w.fr,.int .i64 w.long]
def zig (d:Bool) (level:Bool) (line at_:Nat) (s:List Wall × Bool):List Wall × Bool :=
 if d && s.2 then (s.1.dropLast++(s.1.getLast?.map fun w=>{ w with long:=w.long+1 }).toList,d)
 else if d then (s.1++[⟨level,line,at_,1⟩],d) else (s.1,d)
def zmi (g:List (List Int)) (level:Bool) (line at_:Nat):Bool:=decide ((zch g level line at_).1≠(zch g level line at_).2)
def ze4 (g:List (List Int)) (level:Bool) (line:Nat) (ws:List Wall) (n:Nat):List Wall × Bool :=
 (List.range n).foldl (fun s at_=>zig (zmi g level line at_) level line at_ s) (ws,false)
def zeh (g:List (List Int)) (level:Bool) (places:Nat) (ws:List Wall) (line:Nat):List Wall :=
 (List.range line).foldl (fun ws l=>if 1≤l then (ze4 g level l ws places).1 else ws) ws
def zm4 (g:List (List Int)) (H W:Nat):List Wall:=zeh g true W (zeh g false H [] W) H
theorem zpu {g:List (List Int)} {level:Bool} {line:Nat} {ws:List Wall} {n:Nat}:ze4 g level line ws (n+1)=zig (zmi g level line n) level line n (ze4 g level line ws n):=by
 unfold ze4; rw [zex]
theorem zm5 {g:List (List Int)} {level:Bool} {places:Nat} {ws:List Wall} {line:Nat} (h:1≤line):zeh g level places ws (line+1)=(ze4 g level line (zeh g level places ws line) places).1:=by
 unfold zeh; rw [zex,if_pos h]
theorem zxl {g:List (List Int)} {level:Bool} {places:Nat} {ws:List Wall}:zeh g level places ws 1=ws:=by simp [zeh]
theorem zxm {g:List (List Int)} {level:Bool} {line:Nat} {ws:List Wall}:ze4 g level line ws 0=(ws,false):=rfl
theorem zbd {S:Store}:S.take S.obs.length=S:=by simp [Store.take]
theorem z75 {g:List (List Int)} {nh nw:Nat} (hg:GW g nh nw) (rs:List Rect) {level:Bool} {line at_:Nat} (hi:InL nh nw level line at_):PC Tryz.prog 147 [zap g rs,.bool level,.int .i64 line,.int .i64 at_] (.tup [.int .i64 (zch g level line at_).1,.int .i64 (zch g level line at_).2]) true:=by
 have hl:=hg.1
 obtain ⟨hi1,hi2⟩:=hi
 have hb:line≤6∧at_≤6:=by have:=hg.2.2; cases level <;> simp at hi2 <;> omega
 refine PC.of ⟨Tryz.func147,by kernel_rfl,rfl,by kernel_rfl⟩ zav mixed (by show 4≤Tryz.f147.ntmps; decide) ?_
 refine W.r fun K hK=>?_
 simp(disch:=omega)only[↓RU,RV,RH,↓reduceIte,qE,reduceCtorEq,if_pos,↓RS,RG,qA,qM,qL]
 apply hK;clear hK K
 refine W.seq ?_
 refine W.r fun K hK=>?_
 simp(disch:=omega)only[↓RU,RV,RH,↓reduceIte,qE,reduceCtorEq,if_pos,↓RS,RG,qA,qM,qL]
 apply hK;clear hK K
 refine W.cond rfl (fun h0=>?_) (fun h0=>?_)
 ·try simp only[RL]at h0
  subst h0
  simp only[if_true]at hi2
  obtain ⟨r1,hr1,hl1,hx1⟩:=hg.at_ (i:=line - 1) (j:=at_) (by omega) hi2.2
  obtain ⟨r2,hr2,hl2,hx2⟩:=hg.at_ (i:=line) (j:=at_) hi2.1 hi2.2
  refine W.seq_draw (by kernel_rfl) fun K hK=>?_
  simp(disch:=omega)only[↓RU,RV,RH,↓reduceIte,qE,reduceCtorEq,if_pos,w64,↓RS,RG,qA,qM,qL,ty0,ty3,zaf,zd3,zb4,zas,zaa,zd4,zat,hr1,hx1,hr2,hx2,zd2]
  apply hK;clear hK K
  refine W.ret ?_
  refine XThen.ret ?_
  refine Br rfl ?_
  rfl
 try simp only[RL]at h0
 subst h0
 simp only[qF,if_false]at hi2
 obtain ⟨r1,hr1,hl1,hx1⟩:=hg.at_ (i:=at_) (j:=line - 1) hi2.2 (by omega)
 obtain ⟨r2,hr2,hl2,hx2⟩:=hg.at_ (i:=at_) (j:=line) hi2.2 hi2.1
 obtain rfl:r1=r2:=by rw [hr1]at hr2; exact Option.some.inj hr2
 refine W.skip ?_
 refine xn ?_
 refine W.seq_draw (by kernel_rfl) fun K hK=>?_
 simp(disch:=omega)only[↓RU,RV,RH,↓reduceIte,qE,reduceCtorEq,if_pos,w64,↓RS,RG,qA,qM,qL,ty0,ty3,zaf,zd3,zb4,zas,zaa,zd4,zat,hr1,hx1,hr2,hx2,zd2]
 apply hK;clear hK K
 refine W.ret ?_
 refine Br rfl ?_
 rfl
theorem z2k {g:List (List Int)} {nh nw:Nat} (hg:GW g nh nw) (rs:List Rect) {level:Bool} {line at_:Nat} (hi:InL nh nw level line at_):PC Tryz.prog 146 [zap g rs,.bool level,.int .i64 line,.int .i64 at_] (.bool (zmi g level line at_)) true:=by
 refine PC.of ⟨Tryz.func146,by kernel_rfl,rfl,by kernel_rfl⟩ zav mixed (by show 4≤Tryz.f146.ntmps; decide) ?_
 refine W.r fun K hK=>?_
 simp(disch:=omega)only[↓RU,RV,RH,↓reduceIte,qE,reduceCtorEq,if_pos]
 apply hK;clear hK K
 refine W.r fun K hK=>?_
 simp(disch:=omega)only[↓RU,RV,RH,↓reduceIte,qE,reduceCtorEq,if_pos,qN]
 refine zae.pc (z75 hg rs hi) rfl (.inl rfl) ?_
 simp(disch:=omega)only[↓RU,RV,RH,↓reduceIte,qE,reduceCtorEq,if_pos,qN]
 apply hK;clear hK K
 refine W.r fun K hK=>?_
 simp(disch:=omega)only[↓RU,RV,RH,↓reduceIte,qE,reduceCtorEq,if_pos,w64,zaa]
 apply hK;clear hK K
 refine W.ret ?_
 refine Br rfl ?_
 rw [show zmi g level line at_=((zch g level line at_).1 != (zch g level line at_).2) by rw [z13,zmi]; simp]
 rfl
end Fw
end Go.Proofs.YtcfgpmeebpinaaaGreat
