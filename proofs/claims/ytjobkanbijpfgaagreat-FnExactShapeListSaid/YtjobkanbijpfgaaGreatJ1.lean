/- Parts of the framework and of the proof: The framework, part q: a table of types is checked by one computation; The framework, part r: going through a region step by step; The framework, part s: small laws for going through code; The framework, part t: letting go of objects and freezing what names them; The framework, part u: bundles of small laws for simp; a call in a store with more objects behind; The framework, part v: calls that take data and give new objects, which may be written; The framework, part w: at a fold, objects are put in another order, frozen, or let go; The framework, part x: a region in which a variable is made at an open time; The framework, part y: a region whose order is open, in the order of its text, in which something might be read behind what writes elsewhere; Plans in plain words: the specification's functions on lists of texts; Points, walls and orders of plans in plain words; The table of the types of this translation, written by a program (tabgen.py), and that it is right; Small functions of the specification, gone through; The specification of plans, gone through; What a plan is, gone through; Points where rooms meet, gone through; Walls, gone through; Walls and their sides, gone through; The sides of a wall, gone through; Upright walls, gone through; Walls and orders of plans in plain words. -/
import Derived.Test.YtjobkanbijpfgaaGreatJ0
import Derived.Test.YtjobkanbijpfgaaGreatChecked
set_option linter.all false
namespace Go.Proofs.YtjobkanbijpfgaaGreat
namespace Fw
open Go
open Nat renaming reduceEqDiff → qE, reduceLeDiff → qL, reduceAdd → qA, reduceMul → qM, le_refl → qR
open List renaming append_nil → qN, mapM_append → qP, mapM_cons → qC, mapM_map → qU, range_succ → qS, take_of_length_le → qT
open Bool renaming and_eq_true → qB, false_eq_true → qF
open Option renaming map_some → qO, map_eq_some_iff → qI
open Int renaming reduceToNat → qZ
def z9x:TK→TypeDesc→Bool
 | .bool,.bool=>true
 | .int k,.int k'=>k == k'
 | .str,.string=>true
 | .slice e,.slice e'=>e == e'
 | .ptr e,.pointer e'=>e == e'
 | .arr n e,.array n' e'=>n == n' && e == e'
 | .struct fs,.struct gs=>decide (fs=gs.toList.map fun f=>(f.offset,f.type))
 | .map k v,.map k' v'=>k == k' && v == v'
 | .func,.func _ _ _=>true
 | _,_=>false
theorem z0r {k:TK} {d:TypeDesc} (h:z9x k d=true):k.fits d:=by
 cases k <;> cases d <;> simp_all [z9x,TK.fits]
def okZ (ti:TI) (z:Value):Bool :=
 ti.zero.length == z.cells.size && z.cells.size == ti.size && ((List.range ti.size).all fun k=>match ti.zero[k]?,z.cells[k]? with | some p,some v=>z58 p v | _,_=>true) &&
  (ti.kd.isAgg == match z with | .agg _=>true | _=>false)
def yb5 (T:Tab) (k:TK):Bool :=
 match k with
 | .slice e | .arr _ e => !decide ((T e).kd = .none)
 | .struct fs=>fs.all fun f => !decide ((T f.2).kd = .none)
 | .map k v => !decide ((T k).kd = .none) && !decide ((T v).kd = .none)
 | _=>true
def okEq (P:Program) (T:Tab) (t:TypeId) (k:TK):Bool :=
 match k with
 | .struct fs => !zgd T fs 0 || eqT P t
 | _=>true
def okT (P:Program) (T:Tab) (t:TypeId) (ti:TI):Bool :=
 match P.info? t,P.underlying t with
 | some i,some d=>z9x ti.kd d && i.size == ti.size && i.bytes == ti.bytes && (match i.zero with | some z=>okZ ti z | none=>false) && yb5 T ti.kd && okEq P T t ti.kd
 | _,_=>false
theorem z3z {P:Program} {T:Tab} {t:TypeId} (h:okT P T t (T t)=true):TOk P T t:=by
 unfold okT at h
 split at h
 ·rename_i i d h1 h2
  simp only[qB,beq_iff_eq]at h
  obtain ⟨⟨⟨⟨⟨h3,h4⟩,h5⟩,h6⟩,h7⟩,h8⟩:=h
  split at h6
  ·rename_i z hz
   unfold okZ at h6
   simp only[qB,beq_iff_eq,List.all_eq_true,List.mem_range]at h6
   obtain ⟨⟨⟨k1,k2⟩,k3⟩,k4⟩:=h6
   refine ⟨⟨i,d,z,h1,h2,z0r h3,h4,h5,hz,k1,k2,fun k p v q1 q2=>?_,k4⟩,?_,?_⟩
   ·have hk:k<(T t).size:=by
     have:=(List.getElem?_eq_some_iff.1 q1).1
     omega
    have:=k3 k hk
    rw [q1,q2]at this
    exact this
   ·unfold yb5 at h7
    cases hk:(T t).kd <;> rw [hk]at h7 <;> first
     | trivial
     | (intro f hf; simp only[List.all_eq_true]at h7; simpa using h7 f hf)
     | (simp_all; done)
   unfold okEq at h8
   cases hk:(T t).kd <;> rw [hk]at h8 <;> first
    | trivial
    | (intro hf; simpa [hf] using h8)
  cases h6
 cases h
def lk:List (Nat × TI)→Tab
 | [],_=>⟨.none,0,0,[]⟩
 | (k,v)::r,t=>if t=k then v else lk r t
theorem yb3 {P:Program} {T:Tab}:∀ {L:List (Nat × TI)},L.all (fun x=>okT P T x.1 x.2)=true→∀ t,(lk L t).kd ≠ .none→okT P T t (lk L t)=true
 | [],_,t,h=>absurd rfl h
 | (k,v)::r,h,t,hk=>by
  simp only[List.all_cons,qB]at h
  unfold lk at hk ⊢
  split
  ·rename_i e; rw [e]; exact h.1
  rename_i e; rw [if_neg e]at hk; exact yb3 h.2 t hk
theorem yci {P:Program} {L:List (Nat × TI)} (h:L.all (fun x=>okT P (lk L) x.1 x.2)=true):zb1 P (lk L) :=
 fun t ht=>z3z (yb3 h t ht)
section
def dsts:List Oper→List (Option Tmp)
 | []=>[]
 | o::r=>o.dst::dsts r
theorem zyp:dsts []=[]:=rfl
theorem zt3 {d:Option Tmp} {op:Op} {t:TypeId} {p:String} {a:Array Edge} {g:Option (Nat × Bool)} {r:List Oper}:dsts (⟨d,op,t,p,a,g⟩::r)=d::dsts r:=rfl
def gd (ds:List (Option Tmp)) (g:Option (Nat × Bool)) (e:Env):Option Bool :=
 match g with
 | none=>some true
 | some (j,want) =>
  match ds[j]? with
  | some (some d)=>match e d with
   | .bool b=>some (b == want)
   | .tup []=>some false
   | _=>none
  | _=>none
def sOp (D:Bool) (P:Program) (T:Tab) (e:Env) (S:Store) (o:Op) (K:PV→Store→Prop):Prop :=
 match o with
 | .call ⟨.value f,xs,ts⟩ =>
  match e.ev f with
  | .fn g cap =>
   match D with
   | true=>∃ v tx fr,(xs.toList.map e.ev++cap).mapM (reify S true 10)=some tx∧(fr=true∨(xs.toList.map e.ev++cap).mapM (reify ⟨[],0⟩ true 10)=some tx)∧PC P g tx v fr∧K v S
   | false=>∃ J,Ev P g (xs.toList.map e.ev++cap) S J∧∀ v S',J v S'→K v S'
  | .bm g b =>
   match D with
   | true=>∃ v tx fr,(b::xs.toList.map e.ev).mapM (reify S true 10)=some tx∧(fr=true∨(b::xs.toList.map e.ev).mapM (reify ⟨[],0⟩ true 10)=some tx)∧PC P g tx v fr∧K v S
   | false=>∃ J,Ev P g (b::xs.toList.map e.ev) S J∧∀ v S',J v S'→K v S'
  | .yl l =>
   match D with
   | true=>False
   | false=>∃ J,Ey P l (xs.toList.map e.ev) S J∧∀ v S',J v S'→K v S'
  | _=>False
 | o=>pOp P T e S o K
theorem zjz {D:Bool} {P:Program} {T:Tab} {e:Env} {S:Store} {o:Op} {K:PV→Store→Prop} (h:sOp D P T e S o K):pOp P T e S o K:=by
 unfold sOp at h
 split at h
 ·rename_i f xs ts
  unfold pOp
  simp only[zqa]
  split at h
  ·rename_i g cap hf
   simp only[hf]
   cases D with
   | true=>obtain ⟨v,tx,fr,h1,h2,h3,h4⟩:=h; exact ⟨_,h3.ev h1 h2,by rintro v' S' ⟨rfl,rfl⟩; exact h4⟩
   | false=>exact h
  ·rename_i g cap hf
   simp only[hf]
   cases D with
   | true=>obtain ⟨v,tx,fr,h1,h2,h3,h4⟩:=h; exact ⟨_,h3.ev h1 h2,by rintro v' S' ⟨rfl,rfl⟩; exact h4⟩
   | false=>exact h
  ·rename_i l hf
   simp only[hf]
   cases D with
   | true=>exact h.elim
   | false=>exact h
  exact h.elim
 exact h
def zbu (D:Bool) (P:Program) (T:Tab) (ds:List (Option Tmp)):List Oper→Env→Store→(Env→Store→Prop)→Prop
 | [],e,S,Q=>Q e S
 | o::r,e,S,Q =>
  match gd ds o.guard e with
  | some true=>sOp D P T e S o.op fun v S'=>zbu D P T ds r (e.put o.dst v) S' Q
  | some false=>zbu D P T ds r (e.put o.dst (.tup [])) S Q
  | none=>False
theorem zyo:∀ (l:List Oper) (j:Nat),(dsts l)[j]?=(l[j]?).map (·.dst)
 | [],j=>by simp [dsts]
 | o::l,0=>by simp [dsts]
 | o::l,j+1=>by simp [dsts,zyo l j]
theorem zjs {l:List Oper} {o:Oper} {e:Env}:gd (dsts l) o.guard e=gdec l.toArray o e:=by
 unfold gd gdec
 cases o.guard with
 | none=>rfl
 | some q =>
  obtain ⟨j,want⟩:=q
  simp only[zyo,List.getElem?_toArray]
  cases l[j]? with
  | none=>rfl
  | some o'=>simp only[qO,Option.bind_some]; cases o'.dst <;> rfl
section
variable {P:Program} {T:Tab} {Q:Exit→Env→Store→Prop} {e:Env} {S:Store} {a b c:Code}
theorem zot {D:Bool} {l:List Oper} {K:Env→Store→Prop}:∀ (r:List Oper) (e:Env) (S:Store),zbu D P T (dsts l) r e S K→yab P T l.toArray K r e S
 | [],_,_,h=>h
 | o::r,e,S,h=>by
  unfold zbu at h
  unfold yab zet
  rw [zjs]at h
  split at h
  ·rename_i hg; rw [hg]; exact zfv (fun v S'=>zot r _ _) (zjz h)
  ·rename_i hg; rw [hg]; exact zot r _ _ h
  exact h.elim
theorem W.k {id:Nat} {l:List Oper} (h:∀ K:Env→Store→Prop,(∀ e S,Q .normal e S→K e S)→zbu false P T (dsts l) l e S K):W P T (.region id l.toArray false) Q e S :=
 W.region (zot _ _ _ (h _ fun _ _ h=>h))
theorem W.r {id:Nat} {l:List Oper} (h:∀ K:Env→Store→Prop,(∀ e S,W P T b Q e S→K e S)→zbu false P T (dsts l) l e S K):W P T (.seq (.region id l.toArray false) b) Q e S :=
 W.seq (W.k fun K hK=>h K hK)
theorem xn {n:Env→Store→Prop} (h:n e S):XThen n Q .normal e S:=h
theorem xe {n:Env→Store→Prop} {i:Nat} (h:Q (.exit i) e S):XThen n Q (.exit i) e S:=h
theorem XThen.ret {n:Env→Store→Prop} (h:Q .ret e S):XThen n Q .ret e S:=h
theorem XbN {i:Nat} (h:Q .normal e S):XBlock i Q .normal e S:=h
theorem XBlock.ret {i:Nat} (h:Q .ret e S):XBlock i Q .ret e S:=h
theorem XBlock.hit {i:Nat} (h:Q .normal e S):XBlock i Q (.exit i) e S:=by simpa [XBlock] using h
theorem z2i {t:Tmp}:e.ev (.tmp t)=e t:=rfl
theorem zyy {v:Value}:e.ev (.const v)=zfl v:=rfl
theorem z2h {f:FuncId}:e.ev (.func f) = .fn f []:=rfl
def evS (e:Env) (x:Operand):Option PV:=some (e.ev x)
theorem z2g {t:Tmp}:evS e (.tmp t)=some (e t):=rfl
theorem zud {v:Value}:evS e (.const v)=some (zfl v):=rfl
theorem zyx {f:FuncId}:evS e (.func f)=some (.fn f []):=rfl
theorem zst {d t:Nat} {v:PV}:(e.put (some d) v) t=if t=d then v else e t:=rfl
theorem zzs {v:PV}:e.put none v=e:=rfl
def zag (D:Bool) (P:Program) (T:Tab) (ds:List (Option Tmp)) (g:FuncId) (xs:List PV) (S:Store) (d:Option Tmp) (r:List Oper) (e:Env) (Q:Env→Store→Prop):Prop :=
 match D with
 | true=>∃ v tx fr,xs.mapM (reify S true 10)=some tx∧(fr=true∨xs.mapM (reify ⟨[],0⟩ true 10)=some tx)∧PC P g tx v fr∧zbu true P T ds r (e.put d v) S Q
 | false=>∃ J,Ev P g xs S J∧∀ v S',J v S'→zbu false P T ds r (e.put d v) S' Q
def zwl (D:Bool) (P:Program) (T:Tab) (ds:List (Option Tmp)) (l:Nat) (xs:List PV) (S:Store) (d:Option Tmp) (r:List Oper) (e:Env) (Q:Env→Store→Prop):Prop :=
 match D with
 | true=>False
 | false=>∃ J,Ey P l xs S J∧∀ v S',J v S'→zbu false P T ds r (e.put d v) S' Q
variable {D:Bool} {ds:List (Option Tmp)} {d:Option Tmp} {t:TypeId} {p:String} {af:Array Edge} {g:Option (Nat × Bool)} {r:List Oper} {K:Env→Store→Prop}
theorem zag.ev {f:FuncId} {xs:List PV} {J:PV→Store→Prop} (h:Ev P f xs S J) (k:∀ v S',J v S'→zbu false P T ds r (e.put d v) S' K):zag false P T ds f xs S d r e K:=⟨J,h,k⟩
theorem zwl.ey {l:Nat} {xs:List PV} {J:PV→Store→Prop} (h:Ey P l xs S J) (k:∀ v S',J v S'→zbu false P T ds r (e.put d v) S' K):zwl false P T ds l xs S d r e K:=⟨J,h,k⟩
theorem zag.pc {f:FuncId} {xs ts:List PV} {v:PV} {fr:Bool} (h:PC P f ts v fr) (h1:xs.mapM (reify S true 10)=some ts) (h2:fr=true∨xs.mapM (reify ⟨[],0⟩ true 10)=some ts)
  (k:zbu D P T ds r (e.put d v) S K):zag D P T ds f xs S d r e K:=by
 cases D with
 | true=>exact ⟨v,ts,fr,h1,h2,h,k⟩
 | false=>exact ⟨_,h.ev h1 h2,by rintro v' S' ⟨rfl,rfl⟩; exact k⟩
def zq0:Op→Bool
 | .alloc _ | .box .. | .buildSlice .. | .makeSlice .. | .makeMap .. | .store .. | .mapUpdate .. => false
 | .call ⟨.builtin .append,_,_⟩=>false
 | .call ⟨.builtin .clear,_,_⟩=>false
 | .call ⟨.builtin .copy,_,_⟩=>false
 | _=>true
def zjd:List Oper→Nat→List Nat
 | [],_=>[]
 | o::r,i=>if zq0 o.op then zjd r (i+1) else i::zjd r (i+1)
theorem zou:∀ (l:List Oper) (k i:Nat) (o:Oper),l[i]?=some o→k+i ∉ zjd l k→zq0 o.op=true
 | [],_,_,_,h,_=>by simp at h
 | o'::l,k,0,o,h,hn=>by
  simp at h; subst h
  unfold zjd at hn
  split at hn
  ·assumption
  simp at hn
 | o'::l,k,i+1,o,h,hn=>by
  simp only[List.getElem?_cons_succ]at h
  refine zou l (k+1) i o h fun hm=>hn ?_
  unfold zjd
  split
  ·rwa [show k+(i+1)=k+1+i by omega]
  rw [show k+(i+1)=k+1+i by omega]; exact List.mem_cons_of_mem _ hm
theorem z2j {o:Op} {K:PV→Store→Prop} (hf:zq0 o=true) (h:sOp true P T e S o K):z7a P T S e o fun v=>K v S:=by
 unfold sOp at h
 split at h
 ·rename_i f xs ts
  simp only[z7a]
  split at h
  ·rename_i g cap hf
   simp only[hf]
   obtain ⟨v,tx,fr,h1,h2,h3,h4⟩:=h
   exact ⟨v,tx,fr,h1,h2,h3,h4⟩
  ·rename_i g cap hf
   simp only[hf]
   obtain ⟨v,tx,fr,h1,h2,h3,h4⟩:=h
   exact ⟨v,tx,fr,h1,h2,h3,h4⟩
  ·exact h.elim
  exact h.elim
 rename_i hne
 cases o with
 | call c =>
  obtain ⟨cal,xs,ts⟩:=c
  cases cal with
  | value f=>exact absurd rfl (hne f xs ts)
  | builtin b =>
   cases b <;> first
    | (simp [zq0]at hf; done)
    | exact h
  | _=>exact h
 | _=>first
  | (simp [zq0]at hf; done)
  | exact h
theorem zis {all:List Oper} {K:Env→Store→Prop}:∀ (r:List Oper) (k:Nat) (e:Env) (S:Store),all.drop k=r→zbu true P T (dsts all) r e S K →
  zc8 P T all.toArray (zjd all 0) [] [] K (List.range' k r.length) e S
 | [],_,_,_,_,h=>h
 | o::r,k,e,S,hk,h=>by
  have ho:all[k]?=some o:=by
   have:=congrArg (fun l=>l[0]?) hk
   simpa using this
  have hr:all.drop (k+1)=r:=by
   have:=congrArg (List.drop 1) hk
   simpa [List.drop_drop] using this
  unfold zbu at h
  simp only[List.length_cons,List.range'_succ,zc8,List.getElem?_toArray,ho]
  rw [zjs]at h
  unfold zet
  split at h
  ·rename_i hg
   rw [hg]
   simp only
   split
   ·rename_i hc
    exact zfv (fun v S' hv=>⟨.inr (by intro o ho; cases ho),zis r (k+1) _ _ hr hv⟩) (zjz h)
   rename_i hc
   have hflat:=zou all 0 k o ho (by simpa using hc)
   have:=z2j hflat h
   rw [zd5]at this ⊢
   obtain ⟨v,h1,h2⟩:=this
   exact ⟨v,h1,by simp,zis r (k+1) _ _ hr h2⟩
  ·rename_i hg; rw [hg]; exact zis r (k+1) _ _ hr h
  exact h.elim
theorem W.draw_k {id:Nat} {l:List Oper} (hc:zgy l.toArray (List.range' 0 l.length) (zjd l 0) []=true) (h:∀ K:Env→Store→Prop,(∀ e S,Q .normal e S→K e S)→zbu true P T (dsts l) l e S K) :
  W P T (.region id l.toArray true) Q e S :=
 W.region_any (List.range' 0 l.length) (zjd l 0) [] [] hc (zis l 0 _ _ rfl (h _ fun _ _ h=>h))
theorem W.seq_draw {id:Nat} {l:List Oper} (hc:zgy l.toArray (List.range' 0 l.length) (zjd l 0) []=true) (h:∀ K:Env→Store→Prop,(∀ e S,W P T b Q e S→K e S)→zbu true P T (dsts l) l e S K) :
  W P T (.seq (.region id l.toArray true) b) Q e S :=
 W.seq (W.draw_k hc fun K hK=>h K hK)
theorem zyv:zbu D P T ds [] e S K=K e S:=rfl
theorem zt7 {x:Operand}:zbu D P T ds (⟨d,.move x,t,p,af,g⟩::r) e S K =
  (match gd ds g e with | some true=>(match evS e x with | some v=>zbu D P T ds r (e.put d v) S K | none=>False) | some false=>zbu D P T ds r (e.put d (.tup [])) S K | none=>False):=by
 rw [zbu]; cases D <;> rfl
theorem zor {x:Operand}:zbu D P T ds (⟨d,.assign x,t,p,af,g⟩::r) e S K =
  (match gd ds g e with | some true=>(match evS e x with | some v=>zbu D P T ds r (e.put d v) S K | none=>False) | some false=>zbu D P T ds r (e.put d (.tup [])) S K | none=>False):=by
 rw [zbu]; cases D <;> rfl
theorem zt8 {x y z:Operand}:zbu D P T ds (⟨d,.pick x y z,t,p,af,g⟩::r) e S K =
  (match gd ds g e with | some true=>(match z7d (e.ev x) (e.ev y) (e.ev z) with | some v=>zbu D P T ds r (e.put d v) S K | none=>False) | some false=>zbu D P T ds r (e.put d (.tup [])) S K | none=>False):=by
 rw [zbu]; cases D <;> rfl
theorem zt6 {t1:TypeId} {x:Operand}:zbu D P T ds (⟨d,.load t1 x,t,p,af,g⟩::r) e S K =
  (match gd ds g e with | some true=>(match zsq (T t1) S (e.ev x) with | some v=>zbu D P T ds r (e.put d v) S K | none=>False) | some false=>zbu D P T ds r (e.put d (.tup [])) S K | none=>False):=by
 rw [zbu]; cases D <;> rfl
theorem zkg {x:Operand}:zbu D P T ds (⟨d,.nilCheck x,t,p,af,g⟩::r) e S K =
  (match gd ds g e with | some true=>(match zg8 S (e.ev x) with | some v=>zbu D P T ds r (e.put d v) S K | none=>False) | some false=>zbu D P T ds r (e.put d (.tup [])) S K | none=>False):=by
 rw [zbu]; cases D <;> rfl
theorem zqn {op:BinOp} {t1 t2:TypeId} {x y:Operand}:zbu D P T ds (⟨d,.binOp op t1 x y t2,t,p,af,g⟩::r) e S K =
  (match gd ds g e with | some true=>(match ybf T S op t1 (e.ev x) (e.ev y) with | some v=>zbu D P T ds r (e.put d v) S K | none=>False) | some false=>zbu D P T ds r (e.put d (.tup [])) S K | none=>False):=by
 rw [zbu]; cases D <;> rfl
theorem zt9 {op:UnOp} {t1:TypeId} {x:Operand}:zbu D P T ds (⟨d,.unOp op t1 x,t,p,af,g⟩::r) e S K =
  (match gd ds g e with | some true=>(match pUn op (e.ev x) with | some v=>zbu D P T ds r (e.put d v) S K | none=>False) | some false=>zbu D P T ds r (e.put d (.tup [])) S K | none=>False):=by
 rw [zbu]; cases D <;> rfl
theorem zmv {t1 t2:TypeId} {x:Operand}:zbu D P T ds (⟨d,.convert t1 t2 x,t,p,af,g⟩::r) e S K =
  (match gd ds g e with | some true=>(match zix T S t1 t2 (e.ev x) with | some v=>zbu D P T ds r (e.put d v) S K | none=>False) | some false=>zbu D P T ds r (e.put d (.tup [])) S K | none=>False):=by
 rw [zbu]; cases D <;> rfl
theorem zkf {fn:Go.Fn} {xs ys:Array Operand}:zbu D P T ds (⟨d,.makeFunc fn xs ys,t,p,af,g⟩::r) e S K =
  (match gd ds g e with | some true=>(match zkx fn (xs.toList.map e.ev) (ys.toList.map e.ev) with | some v=>zbu D P T ds r (e.put d v) S K | none=>False) | some false=>zbu D P T ds r (e.put d (.tup [])) S K | none=>False):=by
 rw [zbu]; cases D <;> rfl
theorem zqs {t1:TypeId} {x:Operand} {lo hi:Option Operand}:zbu D P T ds (⟨d,.slice t1 x lo hi none,t,p,af,g⟩::r) e S K =
  (match gd ds g e with | some true=>(match zvi T S t1 (e.ev x) (lo.map e.ev) (hi.map e.ev) with | some v=>zbu D P T ds r (e.put d v) S K | none=>False) | some false=>zbu D P T ds r (e.put d (.tup [])) S K | none=>False):=by
 rw [zbu]; cases D <;> rfl
theorem zi9 {t1:TypeId} {x:Operand} {n:Nat}:zbu D P T ds (⟨d,.fieldAddr t1 x n,t,p,af,g⟩::r) e S K =
  (match gd ds g e with | some true=>(match zf5 T S t1 (e.ev x) n with | some v=>zbu D P T ds r (e.put d v) S K | none=>False) | some false=>zbu D P T ds r (e.put d (.tup [])) S K | none=>False):=by
 rw [zbu]; cases D <;> rfl
theorem zqq {t1:TypeId} {x:Operand} {n:Nat}:zbu D P T ds (⟨d,.field t1 x n,t,p,af,g⟩::r) e S K =
  (match gd ds g e with | some true=>(match zva T t1 (e.ev x) n with | some v=>zbu D P T ds r (e.put d v) S K | none=>False) | some false=>zbu D P T ds r (e.put d (.tup [])) S K | none=>False):=by
 rw [zbu]; cases D <;> rfl
theorem zja {t1:TypeId} {x y:Operand}:zbu D P T ds (⟨d,.indexAddr t1 x y,t,p,af,g⟩::r) e S K =
  (match gd ds g e with | some true=>(match zf6 T S t1 (e.ev x) (e.ev y) with | some v=>zbu D P T ds r (e.put d v) S K | none=>False) | some false=>zbu D P T ds r (e.put d (.tup [])) S K | none=>False):=by
 rw [zbu]; cases D <;> rfl
theorem zqr {t1:TypeId} {x y:Operand}:zbu D P T ds (⟨d,.index t1 x y,t,p,af,g⟩::r) e S K =
  (match gd ds g e with | some true=>(match zve T t1 (e.ev x) (e.ev y) with | some v=>zbu D P T ds r (e.put d v) S K | none=>False) | some false=>zbu D P T ds r (e.put d (.tup [])) S K | none=>False):=by
 rw [zbu]; cases D <;> rfl
theorem zmw {x:Operand} {n:Nat}:zbu D P T ds (⟨d,.extract x n,t,p,af,g⟩::r) e S K =
  (match gd ds g e with | some true=>(match zn0 (e.ev x) n with | some v=>zbu D P T ds r (e.put d v) S K | none=>False) | some false=>zbu D P T ds r (e.put d (.tup [])) S K | none=>False):=by
 rw [zbu]; cases D <;> rfl
theorem zqo {t1:TypeId} {ps:Array (Nat × Operand)}:zbu D P T ds (⟨d,.build t1 ps,t,p,af,g⟩::r) e S K =
  (match gd ds g e with | some true=>(match zu7 T t1 (ps.toList.map fun p=>(p.1,e.ev p.2)) with | some v=>zbu D P T ds r (e.put d v) S K | none=>False) | some false=>zbu D P T ds r (e.put d (.tup [])) S K | none=>False):=by
 rw [zbu]; cases D <;> rfl
theorem zos {t1:TypeId} {x y:Operand} {ok:Bool}:zbu D P T ds (⟨d,.lookup t1 x y ok,t,p,af,g⟩::r) e S K =
  (match gd ds g e with | some true=>(match zpf T S t1 (e.ev x) (e.ev y) ok with | some v=>zbu D P T ds r (e.put d v) S K | none=>False) | some false=>zbu D P T ds r (e.put d (.tup [])) S K | none=>False):=by
 rw [zbu]; cases D <;> rfl
theorem zys {xs:Array Operand} {ts:Array TypeId}:zbu D P T ds (⟨d,.call ⟨.builtin .len,xs,ts⟩,t,p,af,g⟩::r) e S K =
  (match gd ds g e with | some true=>(match ze7 T S (.builtin .len) (xs.toList.map e.ev) ts.toList with | some v=>zbu D P T ds r (e.put d v) S K | none=>False) | some false=>zbu D P T ds r (e.put d (.tup [])) S K | none=>False):=by
 rw [zbu]; cases D <;> rfl
theorem zyt {xs:Array Operand} {ts:Array TypeId}:zbu D P T ds (⟨d,.call ⟨.builtin .max,xs,ts⟩,t,p,af,g⟩::r) e S K =
  (match gd ds g e with | some true=>(match z7b (xs.toList.map e.ev) with | some v=>zbu D P T ds r (e.put d v) S K | none=>False) | some false=>zbu D P T ds r (e.put d (.tup [])) S K | none=>False):=by
 rw [zbu]; cases D <;> rfl
theorem zyu {xs:Array Operand} {ts:Array TypeId}:zbu D P T ds (⟨d,.call ⟨.builtin .min,xs,ts⟩,t,p,af,g⟩::r) e S K =
  (match gd ds g e with | some true=>(match z7c (xs.toList.map e.ev) with | some v=>zbu D P T ds r (e.put d v) S K | none=>False) | some false=>zbu D P T ds r (e.put d (.tup [])) S K | none=>False):=by
 rw [zbu]; cases D <;> rfl
theorem zoq {x y:Operand} {t1 t2:TypeId}:zbu D P T ds (⟨d,.call ⟨.builtin .append,#[x,y],#[t1,t2]⟩,t,p,af,g⟩::r) e S K =
  (match gd ds g e with | some true=>(t1=t2∧zl4 T t1 S (e.ev x) (e.ev y) fun v S=>zbu D P T ds r (e.put d v) S K) | some false=>zbu D P T ds r (e.put d (.tup [])) S K | none=>False):=by
 rw [zbu]; cases D <;> rfl
theorem zt5 {x y:Operand} {t1 t2:TypeId}:zbu D P T ds (⟨d,.call ⟨.builtin .copy,#[x,y],#[t1,t2]⟩,t,p,af,g⟩::r) e S K =
  (match gd ds g e with | some true=>(z04 T t1 S (e.ev x) (e.ev y) fun v S=>zbu D P T ds r (e.put d v) S K) | some false=>zbu D P T ds r (e.put d (.tup [])) S K | none=>False):=by
 rw [zbu]; cases D <;> rfl
theorem zqp {x:Operand} {t1:TypeId}:zbu D P T ds (⟨d,.call ⟨.builtin .clear,#[x],#[t1]⟩,t,p,af,g⟩::r) e S K =
  (match gd ds g e with | some true=>(zra T t1 S (e.ev x) fun v S=>zbu D P T ds r (e.put d v) S K) | some false=>zbu D P T ds r (e.put d (.tup [])) S K | none=>False):=by
 rw [zbu]; cases D <;> rfl
theorem zt4 {f:Operand} {xs:Array Operand} {ts:Array TypeId}:zbu D P T ds (⟨d,.call ⟨.value f,xs,ts⟩,t,p,af,g⟩::r) e S K =
  (match gd ds g e with | some true=>(match e.ev f with | .fn f1 cap=>zag D P T ds f1 (xs.toList.map e.ev++cap) S d r e K | .bm f1 b=>zag D P T ds f1 (b::xs.toList.map e.ev) S d r e K | .yl l=>zwl D P T ds l (xs.toList.map e.ev) S d r e K | _=>False) | some false=>zbu D P T ds r (e.put d (.tup [])) S K | none=>False):=by
 rw [zbu]; cases D <;> rfl
theorem zqm {t1:TypeId}:zbu D P T ds (⟨d,.alloc t1,t,p,af,g⟩::r) e S K =
  (match gd ds g e with | some true=>((T t1).kd ≠ .none∧zbu D P T ds r (e.put d (.ref S.obs.length S.tick 0)) (S.push t1 (T t1).size (T t1).zero) K) | some false=>zbu D P T ds r (e.put d (.tup [])) S K | none=>False):=by
 rw [zbu]; cases D <;> rfl
theorem zyr {t1:TypeId} {x:Operand}:zbu D P T ds (⟨d,.box t1 x,t,p,af,g⟩::r) e S K =
  (match gd ds g e with | some true=>((T t1).kd ≠ .none∧(e.ev x).cells.length=(T t1).size∧zb3 (e.ev x).cells∧zbu D P T ds r (e.put d (.ref S.obs.length S.tick 0)) (S.push t1 (T t1).size (e.ev x).cells) K) | some false=>zbu D P T ds r (e.put d (.tup [])) S K | none=>False):=by
 rw [zbu]; cases D <;> rfl
theorem zmx {t1:TypeId}:zbu D P T ds (⟨d,.makeMap t1 none,t,p,af,g⟩::r) e S K =
  (match gd ds g e with | some true=>(zbu D P T ds r (e.put d (.mp S.obs.length S.tick)) S.pushMap K) | some false=>zbu D P T ds r (e.put d (.tup [])) S K | none=>False):=by
 rw [zbu]; simp only[sOp,pOp,Option.isNone_none,true_and]
theorem zqt {t1:TypeId} {x y:Operand}:zbu D P T ds (⟨d,.store t1 x y,t,p,af,g⟩::r) e S K =
  (match gd ds g e with | some true=>(pOp P T e S (.store t1 x y) fun v S=>zbu D P T ds r (e.put d v) S K) | some false=>zbu D P T ds r (e.put d (.tup [])) S K | none=>False):=by
 rw [zbu]; rfl
theorem zh6 {t1:TypeId} {n:Nat} {ps:Array (Nat × Operand)}:zbu D P T ds (⟨d,.buildSlice t1 n ps,t,p,af,g⟩::r) e S K =
  (match gd ds g e with | some true=>(pOp P T e S (.buildSlice t1 n ps) fun v S=>zbu D P T ds r (e.put d v) S K) | some false=>zbu D P T ds r (e.put d (.tup [])) S K | none=>False):=by
 rw [zbu]; rfl
theorem zjb {t1:TypeId} {x y:Operand}:zbu D P T ds (⟨d,.makeSlice t1 x y,t,p,af,g⟩::r) e S K =
  (match gd ds g e with | some true=>(pOp P T e S (.makeSlice t1 x y) fun v S=>zbu D P T ds r (e.put d v) S K) | some false=>zbu D P T ds r (e.put d (.tup [])) S K | none=>False):=by
 rw [zbu]; rfl
theorem zjc {t1:TypeId} {x y z:Operand}:zbu D P T ds (⟨d,.mapUpdate t1 x y z,t,p,af,g⟩::r) e S K =
  (match gd ds g e with | some true=>(pOp P T e S (.mapUpdate t1 x y z) fun v S=>zbu D P T ds r (e.put d v) S K) | some false=>zbu D P T ds r (e.put d (.tup [])) S K | none=>False):=by
 rw [zbu]; rfl
theorem zvh {t1:TypeId} {a x:Operand} {K:PV→Store→Prop}:pOp P T e S (.store t1 a x) K=(    match e.ev a with
  | .ref o ver off =>
   match S.obs[o]? with
   | some (.arr v et sz cells) =>
    v=ver∧(T t1).kd ≠ .none∧(e.ev x).cells.length=(T t1).size∧off+(T t1).size≤cells.length∧zb3 (e.ev x).cells ∧
     K (.tup []) (S.set o (.arr v et sz (spl cells off (e.ev x).cells)))
   | _=>False
  | _=>False):=rfl
theorem zjh {t1:TypeId} {n:Nat} {parts:Array (Nat × Operand)} {K:PV→Store→Prop}:pOp P T e S (.buildSlice t1 n parts) K=(    match (T t1).kd with
  | .slice et =>
   n≤16777216∧n*(T et).size≤16777216 ∧
   match zh0 T (fun i=>some (i*(T et).size,(T et).size)) (repz (T et).zero n) (parts.toList.map fun p=>(p.1,e.ev p.2)) with
   | some cells=>zb3 cells∧K (.loc S.obs.length S.tick 0 n) (S.push et (T et).size cells)
   | none=>False
  | _=>False):=rfl
theorem zkz {t1:TypeId} {l c:Operand} {K:PV→Store→Prop}:pOp P T e S (.makeSlice t1 l c) K=(    match (T t1).kd,e.ev l,e.ev c with
  | .slice et,.int _ l,.int _ c=>l=c∧0≤l∧(T et).bytes*l≤281474976710656∧l≤9223372036854775807 ∧
    K (.loc S.obs.length S.tick 0 l.toNat) (S.push et (T et).size (repz (T et).zero l.toNat))
  | _,_,_=>False):=rfl
theorem zk0 {t1:TypeId} {m k x:Operand} {K:PV→Store→Prop}:pOp P T e S (.mapUpdate t1 m k x) K=(    match (T t1).kd,e.ev m with
  | .map kt _,.mp o ver =>
   match S.obs[o]? with
   | some (.map v es) =>
    v=ver∧TK.keyed T kt (e.ev k)=true ∧
     match findKey (e.ev k) es 0 with
     | some (some (i,_))=>K (.tup []) (S.set o (.map v (es.set i (e.ev k,e.ev x))))
     | some none=>K (.tup []) (S.set o (.map v (es++[(e.ev k,e.ev x)])))
     | none=>False
   | _=>False
  | _,_=>False):=rfl
theorem zu9 {t:TypeId} {x:PV} {K:PV→Store→Prop}:zra T t S x K=(
 match (T t).kd with
 | .slice e =>
  match x with
  | .loc o ver off n =>
   match S.obs[o]? with
   | some (.arr v et sz cells)=>v=ver∧(T e).kd ≠ .none∧off+(repz (T e).zero n).length≤cells.length∧zb3 (repz (T e).zero n)∧K (.tup []) (S.set o (.arr v et sz (spl cells off (repz (T e).zero n))))
   | _=>False
  | _=>False
 | _=>False):=rfl
theorem zzd {t:TypeId} {x y:PV} {K:PV→Store→Prop}:z04 T t S x y K=(
 match (T t).kd with
 | .slice e =>
  match zc2 S (T e).size y with
  | some (m,ys) =>
   match x with
   | .loc o ver off n =>
    match S.obs[o]? with
    | some (.arr v et sz cells)=>v=ver∧sz=(T e).size∧off+(ys.take (min m n*sz)).length≤cells.length ∧
      K (.int .i64 ((min m n:Nat):Int)) (S.set o (.arr v et sz (spl cells off (ys.take (min m n*sz)))))
    | _=>False
   | _=>False
  | none=>False
 | _=>False):=rfl
theorem zq8 {t:TypeId} {x y:PV} {K:PV→Store→Prop}:zl4 T t S x y K=(
 match (T t).kd with
 | .slice e =>
  match zc2 S (T e).size y with
  | some (m,ys) =>
   match x with
   | .nils=>if m=0 then K .nils S else m*(T e).bytes≤140737488355328∧m≤maxLen∧K (.loc S.obs.length S.tick 0 m) (S.push e (T e).size ys)
   | .loc o ver 0 n =>
    match S.obs[o]? with
    | some (.arr v et sz cells) =>
     v=ver∧et=e∧sz=(T e).size∧n*sz≤cells.length∧(n+m)*(T e).bytes≤140737488355328∧n+m≤maxLen ∧
      K (.loc o S.tick 0 (n+m)) ⟨S.obs.set o (.arr S.tick et sz (cells.take (n*sz)++ys)),S.tick+1⟩
    | _=>False
   | _=>False
  | none=>False
 | _=>False):=rfl
end
end
theorem z3u {t i:Nat} {ts:List Nat} {v:PV} {vs:List PV}:Env.of (t::ts) (v::vs) i=if i=t then v else Env.of ts vs i:=rfl
theorem zoe {v:PV} {vs:List PV}:zad (v::vs) 0=v:=rfl
theorem zof {v:PV} {vs:List PV} {t:Nat}:zad (v::vs) (t+1)=zad vs t:=rfl
theorem Br {T:Tab} {rs:List ResultVar} {K:PV→Store→Prop} {e:Env} {S:Store} {v:PV} (h:zvw T S e rs=some v) (k:K v S):zhi T rs K .ret e S:=by
 simp only[zhi,h]; exact k
theorem zhi.norm {T:Tab} {rs:List ResultVar} {K:PV→Store→Prop} {e:Env} {S:Store} {v:PV} (h:zvw T S e rs=some v) (k:K v S):zhi T rs K .normal e S:=by
 simp only[zhi,h]; exact k
theorem w64 {x:Int} (h1 : -9223372036854775808≤x) (h2:x<9223372036854775808):IntKind.i64.wrap x=x:=by
 rw [IntKind.wrap_i64]; omega
theorem w8 {x:Int} (h1:0≤x) (h2:x<256):IntKind.u8.wrap x=x:=by
 simp [IntKind.wrap,IntKind.bits,IntKind.signed]; omega
abbrev za1 (p:List (List UInt8)):PV := .sl (p.map .str) p.length
abbrev eInts (p:List Int):PV := .sl (p.map (.int .i64)) p.length
theorem tk {α:Type} {l:List α} {i:Nat} {a:α} (h:l[i]?=some a):l.take (i+1)=l.take i++[a]:=by
 rw [List.take_add_one,h]; rfl
theorem zaf {α:Type} {l:List α} {i:Nat} (h:i<l.length):∃ a,l[i]?=some a∧a∈l:=⟨l[i],List.getElem?_eq_getElem h,List.getElem_mem h⟩
theorem zex {a b:Int}:(if b>a then b else a)=max a b:=by omega
theorem zw6 {a b:Int}:(if b<a then b else a)=min a b:=by omega
-- BUNDLES
theorem bq1:(true == false)=false:=rfl
theorem bq2:(false == true)=false:=rfl
theorem bq3:(true == true)=true:=rfl
theorem bq4:(false == false)=true:=rfl
theorem nb1:(!true)=false:=rfl
theorem nb2:(!false)=true:=rfl
theorem z2q {ds:List (Option Tmp)} {e:Env}:gd ds none e=some true:=rfl
theorem z2r {ds:List (Option Tmp)} {e:Env} {j:Nat} {want:Bool}:gd ds (some (j,want)) e=(match ds[j]? with
  | some (some d)=>match e d with
   | .bool b=>some (b == want)
   | .tup []=>some false
   | _=>none
  | _=>none):=rfl
theorem z8u {k:IntKind} {n:Int}:zfl (.int k n) = .int k n:=rfl
theorem z3p {b:Bool}:zfl (.bool b) = .bool b:=rfl
theorem z3s:zfl (.pointer none) = .nilp:=rfl
theorem z3t:zfl (.slice none 0 0) = .nils:=rfl
theorem z3q:zfl .nilFunc = .nilf:=rfl
theorem z3r:zfl (.map none) = .nilm:=rfl
theorem z8v {s:ByteArray}:zfl (.string s) = .str s.data.toList:=rfl
theorem gl0 {a:Option Tmp} {l:List (Option Tmp)}:(a::l)[0]?=some a:=rfl
theorem gls {a:Option Tmp} {l:List (Option Tmp)} {i:Nat}:(a::l)[i+1]?=l[i]?:=rfl
theorem ztw {cs:List PV}:(PV.agg cs).cells=cs:=rfl
theorem z36 {k:IntKind} {n:Int}:pUn .neg (.int k n)=some (.int k (k.wrap (0 - n))):=rfl
theorem z37 {b:Bool}:pUn .not (.bool b)=some (.bool (!b)):=rfl
theorem zrd {t:Bool} {a b:PV}:z7d (.bool t) a b=some (if t then a else b):=rfl
theorem zm8 {vs:List PV} {i:Nat}:zn0 (.tup vs) i=vs[i]?:=rfl
theorem zzi {ti:TI} {S:Store} {cs:List PV} {off:Nat}:zsq ti S (.ip cs off)=zjt ti cs off:=rfl
theorem zvg {ti:TI} {S:Store} {o ver off:Nat}:zsq ti S (.ref o ver off)=(S.cellsOf o ver).bind fun cells=>zjt ti cells off:=rfl
theorem znb {S:Store} {cs:List PV} {off:Nat}:zg8 S (.ip cs off)=some (.ip cs off):=rfl
theorem zky {S:Store} {o ver off:Nat}:zg8 S (.ref o ver off)=(S.cellsOf o ver).map fun _ => .ref o ver off:=rfl
theorem zzj {x:PV}:z7b [x]=some x:=rfl
theorem zzk {k k':IntKind} {a b:Int} {r:List PV}:z7b (.int k a :: .int k' b::r)=z7b (.int k (if b>a then b else a)::r):=rfl
theorem zzl {x:PV}:z7c [x]=some x:=rfl
theorem zzm {k k':IntKind} {a b:Int} {r:List PV}:z7c (.int k a :: .int k' b::r)=z7c (.int k (if b<a then b else a)::r):=rfl
theorem zy3 {k:TK}:k.isAgg=(match k with | .struct _ | .arr _ _=>true | _=>false):=rfl
theorem z31 {T:Tab} {S:Store} {op:BinOp} {t:TypeId} {x y:PV}:ybf T S op t x y=(
 match x,y with
 | .int k a,.int k' b =>
  match op with
  | .shl | .shr=>zzo op k a b
  | _=>if k=k' then zu5 op k a b else none
 | .str a,.str b=>z7e op a b
 | _,_ =>
  match op with
  | .eql=>(pEq T S t x y).map .bool
  | .neq=>(pEq T S t x y).map fun b => .bool (!b)
  | _=>none):=rfl
theorem zu6 {op:BinOp} {k:IntKind} {a b:Int}:zu5 op k a b=(
 match op with
 | .add=>some (.int k (k.wrap (a+b)))
 | .sub=>some (.int k (k.wrap (a - b)))
 | .mul=>some (.int k (k.wrap (a*b)))
 | .quo=>if b=0 then none else some (.int k (k.wrap (a.tdiv b)))
 | .rem=>if b=0 then none else some (.int k (a.tmod b))
 | .and=>some (.int k (k.wrap (BitVec.ofInt k.bits a &&& BitVec.ofInt k.bits b).toNat))
 | .or=>some (.int k (k.wrap (BitVec.ofInt k.bits a ||| BitVec.ofInt k.bits b).toNat))
 | .xor=>some (.int k (k.wrap (BitVec.ofInt k.bits a ^^^ BitVec.ofInt k.bits b).toNat))
 | .eql=>some (.bool (a == b))
 | .neq=>some (.bool (a != b))
 | .lss=>some (.bool (a<b))
 | .leq=>some (.bool (a≤b))
 | .gtr=>some (.bool (a>b))
 | .geq=>some (.bool (a ≥ b))
 | _=>none):=rfl
theorem zkw {T:Tab} {S:Store} {t:TypeId} {x i:PV}:zf6 T S t x i=(
 match i with
 | .int _ i =>
  match (T t).kd,x with
  | .slice e,.sl cs n=>if 0≤i∧i<n then some (.ip cs (i.toNat*(T e).size)) else none
  | .slice e,.loc o ver off n=>(S.cellsOf o ver).bind fun _=>if 0≤i∧i<n then some (.ref o ver (off+i.toNat*(T e).size)) else none
  | .arr n e,.ref o ver off=>(S.cellsOf o ver).bind fun _=>if 0≤i∧i<n then some (.ref o ver (off+i.toNat*(T e).size)) else none
  | .arr n e,.ip cs off=>if 0≤i∧i<n then some (.ip cs (off+i.toNat*(T e).size)) else none
  | _,_=>none
 | _=>none):=rfl
theorem zvf {T:Tab} {t:TypeId} {x i:PV}:zve T t x i=(
 match i with
 | .int _ i =>
  match (T t).kd,x with
  | .str,.str s=>if 0≤i then (s[i.toNat]?).map fun b => .int .u8 b.toNat else none
  | .arr n e,.agg cs=>if 0≤i∧i<n then z35 (T e) cs (i.toNat*(T e).size) else none
  | _,_=>none
 | _=>none):=rfl
theorem zpd {T:Tab} {S:Store} {c:Callee} {xs:List PV} {ts:List TypeId}:ze7 T S c xs ts=(
 match c with
 | .builtin .len=>match xs,ts with
  | [x],[t]=>yb7 T S t x
  | _,_=>none
 | .builtin .max=>z7b xs
 | .builtin .min=>z7c xs
 | _=>none):=rfl
theorem z32 {T:Tab} {S:Store} {t:TypeId} {x:PV}:yb7 T S t x=(
 match (T t).kd,x with
 | .str,.str s=>some (.int .i64 s.length)
 | .arr n _,_=>some (.int .i64 n)
 | .slice _,.nils=>some (.int .i64 0)
 | .slice _,.sl _ n=>some (.int .i64 n)
 | .slice _,.loc o ver _ n=>(S.cellsOf o ver).map fun _ => .int .i64 n
 | .map _ _,.mp o ver=>match S.obs[o]? with
  | some (.map v es)=>if v=ver then some (.int .i64 es.length) else none
  | _=>none
 | _,_=>none):=rfl
theorem zpe {T:Tab} {S:Store} {src dst:TypeId} {x:PV}:zix T S src dst x=(
 match (T src).kd,(T dst).kd,x with
 | .int _,.int k,.int _ n=>some (.int k (k.wrap n))
 | .int _,.str,.int _ n=>some (.str (Utf8.encode n).data.toList)
 | .str,.str,.str s=>some (.str s)
 | .slice e,.str,x =>
  match (T e).kd with
  | .int .u8=>(zc2 S 1 x).bind fun q=>(zev q.2).map .str
  | _=>none
 | .str,.slice e,.str s =>
  match (T e).kd with
  | .int .u8=>some (.sl (s.map fun b => .int .u8 b.toNat) s.length)
  | _=>none
 | _,_,_=>none):=rfl
theorem zvb {T:Tab} {t:TypeId} {x:PV} {f:Nat}:zva T t x f=(
 match (T t).kd,x with
 | .struct fs,.agg cs =>
  match fs[f]? with
  | some (fo,ft)=>z35 (T ft) cs fo
  | none=>none
 | _,_=>none):=rfl
theorem zzn {ti:TI} {cs:List PV} {off:Nat}:z35 ti cs off=(
zjt ti cs off):=rfl
theorem zku {T:Tab} {S:Store} {t:TypeId} {x:PV} {f:Nat}:zf5 T S t x f=(
 match (T t).kd with
 | .struct fs =>
  match fs[f]?,x with
  | some (fo,ft),.ip cs off=>if (T ft).size=0 then none else some (.ip cs (off+fo))
  | some (fo,ft),.ref o ver off=>if (T ft).size=0 then none else (S.cellsOf o ver).map fun _ => .ref o ver (off+fo)
  | _,_=>none
 | _=>none):=rfl
theorem zvj {T:Tab} {S:Store} {t:TypeId} {x:PV} {lo hi:Option PV}:zvi T S t x lo hi=(
 match (T t).kd,x with
 | .str,.str s=>(zfm s.length lo hi).map fun (l,h) => .str ((s.take h).drop l)
 | .slice e,.sl cs n=>(zfm n lo hi).map fun (l,h) => .sl ((cs.take (h*(T e).size)).drop (l*(T e).size)) (h - l)
 | .slice e,.loc o ver off n =>
  match S.obs[o]? with
  | some (.arr v _ sz _) =>
   if v=ver∧sz=(T e).size then (zfm n lo hi).bind fun (l,h)=>if l=0∨l<n then some (.loc o ver (off+l*sz) (h - l)) else none
   else none
  | _=>none
 | _,_=>none):=rfl
theorem zrc {T:Tab} {S:Store} {t:TypeId} {m k:PV} {ok:Bool}:zpf T S t m k ok=(
 match (T t).kd,m with
 | .map kt vt,.mp o ver =>
  match S.obs[o]? with
  | some (.map v es) =>
   if v=ver∧TK.keyed T kt k=true∧(T vt).kd.isAgg=false then
    (findKey k es 0).bind fun r=>match r with
     | some (_,x)=>some (if ok then .tup [x,.bool true] else x)
     | none=>((T vt).zero[0]?).map fun z=>if ok then .tup [z,.bool false] else z
   else none
  | _=>none
 | _,_=>none):=rfl
theorem zna {fn:Go.Fn} {first cap:List PV}:zkx fn first cap=(
 match fn,first with
 | .func f,[]=>some (.fn f cap)
 | .func f,[x]=>if zma 10 x && cap.isEmpty then some (.bm f x) else none
 | _,_=>none):=rfl
theorem zy1 {ti:TI} {cs:List PV} {off:Nat}:zjt ti cs off=(
 if ti.kd = .none then none else if ti.kd.isAgg then (if off+ti.size≤cs.length then some (.agg ((cs.drop off).take ti.size)) else none) else cs[off]?):=rfl
theorem zu8 {T:Tab} {t:TypeId} {parts:List (Nat × PV)}:zu7 T t parts=(
 match (T t).kd with
 | .struct fs=>(zh0 T (fun i=>(fs[i]?).map fun f=>(f.1,(T f.2).size)) (T t).zero parts).map .agg
 | .arr _ e=>(zh0 T (fun i=>some (i*(T e).size,(T e).size)) (T t).zero parts).map .agg
 | _=>none):=rfl
theorem RU:(type_of% @z2i)∧(type_of% @zyy)∧(type_of% @z2h)∧(type_of% @zst)∧(type_of% @zzs)∧(type_of% @zyv)∧(type_of% @zt7)∧(type_of% @zor)∧(type_of% @zt8)∧(type_of% @zt6)∧(type_of% @zkg)∧(type_of% @zqn)∧(type_of% @zt9)∧(type_of% @zmv)∧(type_of% @zkf)∧(type_of% @zqs)∧(type_of% @zi9)∧(type_of% @zqq)∧(type_of% @zja)∧(type_of% @zqr)∧(type_of% @zmw)∧(type_of% @zqo)∧(type_of% @zos)∧(type_of% @zys)∧(type_of% @zyt)∧(type_of% @zyu)∧(type_of% @zoq)∧(type_of% @zt4)∧(type_of% @zqp)∧(type_of% @zt5)∧(type_of% @zqm)∧(type_of% @zyr)∧(type_of% @zmx)∧(type_of% @zqt)∧(type_of% @zh6)∧(type_of% @zjb)∧(type_of% @zjc)∧(type_of% @zvh)∧(type_of% @zjh)∧(type_of% @zkz)∧(type_of% @zk0)∧(type_of% @zq8)∧(type_of% @zu9)∧(type_of% @zzd)∧(type_of% @z3u):=⟨@z2i,@zyy,@z2h,@zst,@zzs,@zyv,@zt7,@zor,@zt8,@zt6,@zkg,@zqn,@zt9,@zmv,@zkf,@zqs,@zi9,@zqq,@zja,@zqr,@zmw,@zqo,@zos,@zys,@zyt,@zyu,@zoq,@zt4,@zqp,@zt5,@zqm,@zyr,@zmx,@zqt,@zh6,@zjb,@zjc,@zvh,@zjh,@zkz,@zk0,@zq8,@zu9,@zzd,@z3u⟩
theorem RV:(type_of% @zt3)∧(type_of% @zyp)∧(type_of% @z2g)∧(type_of% @zud)∧(type_of% @zyx)∧(type_of% @zoe)∧(type_of% @zof)∧(type_of% @bq1)∧(type_of% @bq2)∧(type_of% @bq3)∧(type_of% @bq4)∧(type_of% @nb1)∧(type_of% @nb2)∧(type_of% @z2q)∧(type_of% @z2r)∧(type_of% @z8u)∧(type_of% @z3p)∧(type_of% @z3s)∧(type_of% @z3t)∧(type_of% @z3q)∧(type_of% @z3r)∧(type_of% @z8v)∧(type_of% @gl0)∧(type_of% @gls)∧(type_of% @ztw)∧(type_of% @z36)∧(type_of% @z37)∧(type_of% @zrd)∧(type_of% @zm8)∧(type_of% @zzi)∧(type_of% @zvg)∧(type_of% @znb)∧(type_of% @zky)∧(type_of% @zzj)∧(type_of% @zzk)∧(type_of% @zzl)∧(type_of% @zzm)∧(type_of% @zy3)∧(type_of% @z31)∧(type_of% @zu6)∧(type_of% @zkw)∧(type_of% @zvf)∧(type_of% @zpd)∧(type_of% @z32)∧(type_of% @zpe)∧(type_of% @zvb)∧(type_of% @zzn)∧(type_of% @zku)∧(type_of% @zvj)∧(type_of% @zrc)∧(type_of% @zna)∧(type_of% @zu8)∧(type_of% @zy1):=⟨@zt3,@zyp,@z2g,@zud,@zyx,@zoe,@zof,@bq1,@bq2,@bq3,@bq4,@nb1,@nb2,@z2q,@z2r,@z8u,@z3p,@z3s,@z3t,@z3q,@z3r,@z8v,@gl0,@gls,@ztw,@z36,@z37,@zrd,@zm8,@zzi,@zvg,@znb,@zky,@zzj,@zzk,@zzl,@zzm,@zy3,@z31,@zu6,@zkw,@zvf,@zpd,@z32,@zpe,@zvb,@zzn,@zku,@zvj,@zrc,@zna,@zu8,@zy1⟩
theorem zmo:zb3 []:=fun _ h=>by cases h
theorem zkd {p:PV} {ps:List PV}:zb3 (p::ps)↔p.isCell=true∧zb3 ps:=by
 unfold zb3; simp
theorem ztp {α:Type} {f:α→PV} (h:∀ a,(f a).isCell=true) (l:List α):zb3 (l.map f):=by
 intro p hp; obtain ⟨a,_,rfl⟩:=List.mem_map.1 hp; exact h a
theorem z88 {S:Store} {sz o ver off n:Nat}:zc2 S sz (.loc o ver off n)=(S.cellsOf o ver).bind fun cells=>if off+n*sz≤cells.length then some (n,(cells.drop off).take (n*sz)) else none:=rfl
theorem ycf {S:Store} {sz n:Nat} {cs:List PV}:zc2 S sz (.sl cs n)=if cs.length=n*sz then some (n,cs) else none:=rfl
theorem z5g {S:Store} {sz:Nat}:zc2 S sz .nils=some (0,[]):=rfl
theorem ybr {S:Store} {o ver:Nat}:S.cellsOf o ver=(match S.obs[o]? with | some (.arr v _ _ cells)=>if v=ver then some cells else none | _=>none):=rfl
theorem z4i {l:List Ob} {t et sz:Nat} {cells:List PV}:Store.push ⟨l,t⟩ et sz cells=⟨l++[.arr t et sz cells],t+1⟩:=rfl
theorem zri {l:List Ob} {t:Nat}:Store.pushMap ⟨l,t⟩=⟨l++[.map t []],t+1⟩:=rfl
theorem z84 {l:List Ob} {t o:Nat} {ob:Ob}:Store.set ⟨l,t⟩ o ob=⟨l.set o ob,t⟩:=rfl
theorem zch {l:List Ob} {t k:Nat}:Store.take ⟨l,t⟩ k=⟨l.take k,t⟩:=rfl
theorem zok {k:IntKind} {n:Int}:(PV.int k n).cells=[.int k n]:=rfl
theorem zqh {b:Bool}:(PV.bool b).cells=[.bool b]:=rfl
theorem ztz {b:List UInt8}:(PV.str b).cells=[.str b]:=rfl
theorem zqj:PV.nils.cells=[.nils]:=rfl
theorem zqi:PV.nilp.cells=[.nilp]:=rfl
theorem ztx {o v f n:Nat}:(PV.loc o v f n).cells=[.loc o v f n]:=rfl
theorem zty {o v f:Nat}:(PV.ref o v f).cells=[.ref o v f]:=rfl
theorem zyg {o v:Nat}:(PV.mp o v).cells=[.mp o v]:=rfl
theorem zyh {cs:List PV} {n:Nat}:(PV.sl cs n).cells=[.sl cs n]:=rfl
theorem zyf {cs:List PV} {n:Nat}:(PV.ip cs n).cells=[.ip cs n]:=rfl
theorem z8j {k:IntKind} {n:Int}:(PV.int k n).isCell=true:=rfl
theorem z2w {b:Bool}:(PV.bool b).isCell=true:=rfl
theorem z8m {b:List UInt8}:(PV.str b).isCell=true:=rfl
theorem z2y:PV.nils.isCell=true:=rfl
theorem z2x:PV.nilp.isCell=true:=rfl
theorem z8k {o v f n:Nat}:(PV.loc o v f n).isCell=true:=rfl
theorem z8l {o v f:Nat}:(PV.ref o v f).isCell=true:=rfl
theorem ybv {o v:Nat}:(PV.mp o v).isCell=true:=rfl
theorem ybw {cs:List PV} {n:Nat}:(PV.sl cs n).isCell=true:=rfl
theorem ybu {cs:List PV} {n:Nat}:(PV.ip cs n).isCell=true:=rfl
theorem z8o {k:IntKind} {n:Int}:(PV.int k n).isDef=true:=rfl
theorem z2z {b:Bool}:(PV.bool b).isDef=true:=rfl
theorem z8r {b:List UInt8}:(PV.str b).isDef=true:=rfl
theorem z8n {cs:List PV}:(PV.agg cs).isDef=true:=rfl
theorem z20:PV.nils.isDef=true:=rfl
theorem z8p {o v f n:Nat}:(PV.loc o v f n).isDef=true:=rfl
theorem z8q {o v f:Nat}:(PV.ref o v f).isDef=true:=rfl
theorem ybx {cs:List PV} {n:Nat}:(PV.sl cs n).isDef=true:=rfl
theorem zvc {T:Tab} {pl:Nat→Option (Nat × Nat)} {cs:List PV}:zh0 T pl cs []=some cs:=rfl
theorem zrb {T:Tab} {pl:Nat→Option (Nat × Nat)} {cs:List PV} {i:Nat} {v:PV} {r:List (Nat × PV)}:zh0 T pl cs ((i,v)::r)=(match pl i with
  | none=>none
  | some (off,size)=>if v.cells.length=size∧off+size≤cs.length∧v.isDef=true then zh0 T pl (spl cs off v.cells) r else none):=rfl
theorem z89 {cs vs:List PV} {off:Nat}:spl cs off vs=cs.take off++vs++cs.drop (off+vs.length):=rfl
theorem zvu {z:List PV}:repz z 0=[]:=rfl
theorem zhc {z:List PV} {n:Nat}:repz z (n+1)=z++repz z n:=rfl
theorem zze {n:Nat}:pHi n none=some n:=rfl
theorem zzf {n:Nat} {k:IntKind} {h:Int}:pHi n (some (.int k h))=if 0≤h∧h≤n then some h.toNat else none:=rfl
theorem zzg {n:Nat}:pLo n none=some 0:=rfl
theorem zzh {n:Nat} {k:IntKind} {h:Int}:pLo n (some (.int k h))=if 0≤h∧h≤n then some h.toNat else none:=rfl
theorem zq9 {n:Nat} {lo hi:Option PV}:zfm n lo hi=(pHi n hi).bind fun h=>(pLo h lo).map fun l=>(l,h):=rfl
theorem RS:(type_of% @zmo)∧(type_of% @zkd)∧(type_of% @z88)∧(type_of% @ycf)∧(type_of% @z5g)∧(type_of% @ybr)∧(type_of% @z4i)∧(type_of% @zri)∧(type_of% @z84)∧(type_of% @zch)∧(type_of% @zok)∧(type_of% @zqh)∧(type_of% @ztz)∧(type_of% @zqj)∧(type_of% @zqi)∧(type_of% @ztx)∧(type_of% @zty)∧(type_of% @zyg)∧(type_of% @zyh)∧(type_of% @zyf)∧(type_of% @z8j)∧(type_of% @z2w)∧(type_of% @z8m)∧(type_of% @z2y)∧(type_of% @z2x)∧(type_of% @z8k)∧(type_of% @z8l)∧(type_of% @ybv)∧(type_of% @ybw)∧(type_of% @ybu)∧(type_of% @z8o)∧(type_of% @z2z)∧(type_of% @z8r)∧(type_of% @z8n)∧(type_of% @z20)∧(type_of% @z8p)∧(type_of% @z8q)∧(type_of% @ybx)∧(type_of% @zvc)∧(type_of% @zrb)∧(type_of% @z89)∧(type_of% @zvu)∧(type_of% @zhc)∧(type_of% @zze)∧(type_of% @zzf)∧(type_of% @zzg)∧(type_of% @zzh)∧(type_of% @zq9):=⟨@zmo,@zkd,@z88,@ycf,@z5g,@ybr,@z4i,@zri,@z84,@zch,@zok,@zqh,@ztz,@zqj,@zqi,@ztx,@zty,@zyg,@zyh,@zyf,@z8j,@z2w,@z8m,@z2y,@z2x,@z8k,@z8l,@ybv,@ybw,@ybu,@z8o,@z2z,@z8r,@z8n,@z20,@z8p,@z8q,@ybx,@zvc,@zrb,@z89,@zvu,@zhc,@zze,@zzf,@zzg,@zzh,@zq9⟩
abbrev eB (b:UInt8):PV := .int .u8 b.toNat
theorem z9a {α:Type} {f:α→PV} {l:List α}:(l.map f).take l.length=l.map f:=by
 rw [← List.length_map f,List.take_length]
theorem zqd {α:Type} {f:α→PV} {l:List α} {n:Nat} (h:l.length≤n):(l.map f).take n=l.map f:=qT (by simpa using h)
theorem z3e {a b:Nat} (h:a≤b):(a≤b)=True:=eq_true h
theorem zux:maxLen=9223372036854775807:=rfl
theorem yck {n a:Nat}:IntKind.u8.wrap ((n:Int)+(a:Int))=((UInt8.ofNat (n+a)).toNat:Int):=by
 have:((n:Int)+(a:Int))=((n+a:Nat):Int):=by omega
 rw [this]
 simp [IntKind.wrap,IntKind.bits,IntKind.signed,UInt8.toNat_ofNat']
theorem ya8 {a:Nat}:IntKind.u8.wrap (97+(a:Int))=((UInt8.ofNat (97+a)).toNat:Int):=yck (n:=97)
theorem zcq {i:Nat}:((i:Int) - 1).toNat=i - 1:=by omega
theorem ybo {a b:UInt8}:((a.toNat:Int) != (b.toNat:Int))=decide (a≠b):=by
 by_cases h:a=b
 ·simp [h]
 have:(a.toNat:Int)≠(b.toNat:Int):=fun e=>h (UInt8.toNat_inj.1 (by omega))
 rw [bne_iff_ne.2 this]; simp [h]
theorem zci {α:Type} {l:List α} {i:Nat} {a:α} (h:l[i]?=some a):i<l.length:=(List.getElem?_eq_some_iff.1 h).1
theorem zbc {S:Store} {im:Bool} {k o ver et sz n:Nat} {cells ts:List PV} (h:S.obs[o]?=some (.arr ver et sz cells)) (hl:cells.length=n*sz) (hm:cells.mapM (reify S im k)=some ts) :
  reify S im (k+1) (.loc o ver 0 n)=some (.sl ts n):=by
 simp only[reify,h,Nat.zero_add,hl,qR,and_self,if_true,List.drop_zero]
 rw [← hl,List.take_length,hm]; rfl
theorem zce {f:PV→Option PV}:∀ {l:List PV},(∀ x∈l,f x=some x)→l.mapM f=some l
 | [],_=>rfl
 | x::l,h=>by rw [qC,h x (by simp),zce (l:=l) fun y hy=>h y (by simp [hy])]; rfl
theorem zem {S:Store} {im:Bool} {k:Nat} (l:List (List UInt8)):(l.map PV.str).mapM (reify S im (k+1))=some (l.map PV.str) :=
 zce fun x hx=>by obtain ⟨a,_,rfl⟩:=List.mem_map.1 hx; rfl
theorem zdw {S:Store} {im:Bool} {k:Nat} {q:IntKind} (l:List Int):(l.map (PV.int q)).mapM (reify S im (k+1))=some (l.map (PV.int q)) :=
 zce fun x hx=>by obtain ⟨a,_,rfl⟩:=List.mem_map.1 hx; rfl
theorem zoj (l:List UInt8):zev (l.map fun b=>PV.int .u8 b.toNat)=some l:=by
 induction l with
 | nil=>rfl
 | cons a l ih=>simp only[List.map_cons,zev,ih]; simp
theorem yc4 {n:Nat}:IntKind.u8.wrap (n:Int)=((UInt8.ofNat n).toNat:Int):=by
 simp [IntKind.wrap,IntKind.bits,IntKind.signed,UInt8.toNat_ofNat']
section
def rfz (S:Store) (lo:Nat):Nat→PV→Option PV
 | 0,_=>none
 | k+1,p =>
  match p with
  | .int a b=>some (.int a b)
  | .bool b=>some (.bool b)
  | .str s=>some (.str s)
  | .nilp=>some .nilp
  | .nilf=>some .nilf
  | .yl l=>some (.yl l)
  | .nilm=>some .nilm
  | .nils=>some .nils
  | .agg cs=>(cs.mapM (rfz S lo k)).map .agg
  | .tup cs=>(cs.mapM (rfz S lo k)).map .tup
  | .fn f cs=>(cs.mapM (rfz S lo k)).map (.fn f)
  | .sl cs n=>some (.sl cs n)
  | .ip cs off=>some (.ip cs off)
  | .bm f b=>some (.bm f b)
  | .loc o ver off n =>
   match S.obs[o]? with
   | some (.arr v _ sz cells)=>if lo≤o∧v=ver∧off+n*sz≤cells.length then (((cells.drop off).take (n*sz)).mapM (rfz S lo k)).map (.sl · n) else none
   | _=>none
  | .ref o ver off=>if lo≤o then (S.cellsOf o ver).bind fun cells=>(cells.mapM (rfz S lo k)).map (.ip · off) else none
  | _=>none
section
variable {P:Program} {T:Tab} {F:Nat→Prop} {G:GSt} {w:World} {e:Env} {a:Act}
def zrz (F:Nat→Prop) (G:GSt) (lo:Nat) (b:Nat):Prop:=F b∨∃ (o:Nat) (x:Ob × Lc),lo≤o∧G.obs[o]?=some x∧x.2.blk=b
theorem zn6 {S:Store} {lo:Nat}:∀ {k:Nat} {p t:PV},rfz S lo k p=some t→p.isCell=true→t.isCell=true
 | 0,p,t,h,_=>by simp [rfz]at h
 | k+1,p,t,h,hp=>by
  cases p <;> simp only[rfz]at h <;> first
   | (cases h; rfl)
   | (simp [PV.isCell]at hp; done)
   | (cases h; done)
   | (split at h <;> first | (cases h; rfl) | (cases h; done) | (split at h <;> first | (cases h; done) | (rw [qI]at h; obtain ⟨_,_,rfl⟩:=h; rfl)))
   | (rw [qI]at h; obtain ⟨_,_,rfl⟩:=h; rfl)
   | (split at h <;> first | (cases h; done) | (rw [Option.bind_eq_some_iff]at h; obtain ⟨_,_,h⟩:=h; rw [qI]at h; obtain ⟨_,_,rfl⟩:=h; rfl))
theorem zpl (hi:Inv F G w) {lo:Nat}:∀ {k:Nat} {p t:PV} {cv:Value},VR w.heap F G p cv→rfz G.er lo k p=some t→VI w.heap (zrz F G lo) t cv
 | 0,p,t,cv,_,h=>by simp [rfz]at h
 | k+1,p,t,cv,hv,h=>by
  have cellsVI:∀ {b off:Nat} {cs ts:List PV},zc6 w.heap F G b off cs→cs.mapM (rfz G.er lo k)=some ts →
    ∃ g:Nat→Value,(∀ (i:Nat) p,ts[i]?=some p→p.isCell=true∧zgz w.heap b (off+i)=some (g i))∧∀ (i:Nat) p,ts[i]?=some p→VI w.heap (zrz F G lo) p (g i):=by
   intro b off cs ts hc hm
   obtain ⟨h1,h2⟩:=zcl _ _ hm
   refine ⟨fun i=>(zgz w.heap b (off+i)).getD undef,fun i p hp=>?_,fun i p hp=>?_⟩
   ·obtain ⟨x,h3,h4⟩:=h2 i p hp
    obtain ⟨h5,v,h6,h7⟩:=hc i x h3
    exact ⟨zn6 h4 h5,by simp [h6]⟩
   obtain ⟨x,h3,h4⟩:=h2 i p hp
   obtain ⟨h5,v,h6,h7⟩:=hc i x h3
   simp only[h6]
   exact zpl hi h7 h4
  have rowVI:∀ {cs ts:List PV} {vs:Array Value},cs.length=vs.size→(∀ (i:Nat) p v,cs[i]?=some p→vs[i]?=some v→VR w.heap F G p v)→cs.mapM (rfz G.er lo k)=some ts →
    ts.length=vs.size∧∀ (i:Nat) p v,ts[i]?=some p→vs[i]?=some v→VI w.heap (zrz F G lo) p v:=by
   intro cs ts vs hl hp hm
   obtain ⟨h1,h2⟩:=zcl _ _ hm
   refine ⟨by omega,fun i p v q1 q2=>?_⟩
   obtain ⟨x,h3,h4⟩:=h2 i p q1
   exact zpl hi (hp i x v h3 q2) h4
  cases p with
  | int q n=>simp only[rfz]at h; cases h; rw [hv.int]; exact .int _ _
  | bool b=>simp only[rfz]at h; cases h; rw [hv.bool]; exact .bool _
  | str s=>simp only[rfz]at h; cases h; obtain ⟨b,rfl,hb⟩:=hv.str; exact .str _ _ hb
  | nilp=>simp only[rfz]at h; cases h; cases hv with | imm _ _ hv=>cases hv; exact .nilp
  | nilf=>simp only[rfz]at h; cases h; cases hv with | imm _ _ hv=>cases hv; exact .nilf
  | yl l=>simp only[rfz]at h; cases h; cases hv with | imm _ _ hv=>cases hv; exact .yl _
  | nilm=>simp only[rfz]at h; cases h; cases hv with | imm _ _ hv=>cases hv; exact .nilm
  | nils=>simp only[rfz]at h; cases h; cases hv with | imm _ _ hv=>cases hv; exact .nils
  | agg cs =>
   simp only[rfz]at h
   rw [qI]at h
   obtain ⟨ts,h1,rfl⟩:=h
   obtain ⟨vs,rfl,h2,h3⟩:=hv.agg'
   obtain ⟨h4,h5⟩:=rowVI h2 h3 h1
   exact .agg _ _ h4 h5
  | tup cs =>
   simp only[rfz]at h
   rw [qI]at h
   obtain ⟨ts,h1,rfl⟩:=h
   obtain ⟨vs,rfl,h2,h3⟩:=hv.tup'
   obtain ⟨h4,h5⟩:=rowVI h2 h3 h1
   exact .tup _ _ h4 h5
  | fn f cs =>
   simp only[rfz]at h
   rw [qI]at h
   obtain ⟨ts,h1,rfl⟩:=h
   have:∃ vs:Array Value,cv = .func (.func f) #[] vs∧cs.length=vs.size∧∀ (i:Nat) p v,cs[i]?=some p→vs[i]?=some v→VR w.heap F G p v:=by
    cases hv with
    | imm _ _ hv=>cases hv with | fn _ _ vs h2 h3=>exact ⟨vs,rfl,h2,fun i p v a b => .imm _ _ (h3 i p v a b)⟩
    | fn _ _ vs h2 h3=>exact ⟨vs,rfl,h2,h3⟩
   obtain ⟨vs,rfl,h2,h3⟩:=this
   obtain ⟨h4,h5⟩:=rowVI h2 h3 h1
   exact .fn _ _ _ h4 h5
  | sl cs n =>
   simp only[rfz]at h
   cases h
   cases hv with
   | imm _ _ hv=>exact hv.mono (fun b hb => .inl hb) (fun _ _=>rfl)
  | ip cs off =>
   simp only[rfz]at h
   cases h
   cases hv with
   | imm _ _ hv=>exact hv.mono (fun b hb => .inl hb) (fun _ _=>rfl)
  | bm f b =>
   simp only[rfz]at h
   cases h
   cases hv with
   | imm _ _ hv=>exact hv.mono (fun b hb => .inl hb) (fun _ _=>rfl)
  | loc o ver off n =>
   simp only[rfz]at h
   split at h
   ·rename_i v et sz cells hob
    split at h
    ·rename_i hc
     obtain ⟨hlo,rfl,hle⟩:=hc
     rw [qI]at h
     obtain ⟨ts,h1,rfl⟩:=h
     obtain ⟨_,_,l,cap,ho,rfl,_,hn,_⟩:=hv.loc_at hi (cells:=cells) (by simp [Store.cellsOf,hob])
     obtain ⟨l',hG⟩:=zfa hob
     rw [hG]at ho
     cases ho
     have hc2:zc6 w.heap F G l.blk off ((cells.drop off).take (n*sz)):=by
      have:=((hi.cellsAt hG).drop off).take (n*sz)
      rwa [Nat.zero_add]at this
     obtain ⟨g,g1,g2⟩:=cellsVI hc2 h1
     exact .sl _ _ _ _ _ g (fun _ => .inr ⟨o,_,hlo,hG,rfl⟩) hn g1 g2
    cases h
   cases h
  | ref o ver off =>
   simp only[rfz]at h
   split at h
   case isFalse=>cases h
   rename_i hlo
   rw [Option.bind_eq_some_iff]at h
   obtain ⟨cells,hc,h⟩:=h
   rw [qI]at h
   obtain ⟨ts,h1,rfl⟩:=h
   obtain ⟨et,sz,l,hG,rfl,_⟩:=hv.ref_at hi hc
   obtain ⟨g,g1,g2⟩:=cellsVI (hi.cellsAt hG) h1
   have:=VI.ip (F:=zrz F G lo) ts off l.blk 0 g (fun _ => .inr ⟨o,_,hlo,hG,rfl⟩) g1 g2
   rwa [Nat.zero_add]at this
  | mp o ver=>simp only[rfz]at h; cases h
  | undef=>simp only[rfz]at h; cases h
def frz (S:Store) (lo:Nat):Nat→PV→Option PV
 | 0,_=>none
 | k+1,p =>
  match p with
  | .agg cs=>(cs.mapM (frz S lo k)).map .agg
  | .tup cs=>(cs.mapM (frz S lo k)).map .tup
  | .fn f cs=>(cs.mapM (frz S lo k)).map (.fn f)
  | .loc o ver off n=>if o<lo then some (.loc o ver off n) else rfz S lo 10 (.loc o ver off n)
  | .ref o ver off=>if o<lo then some (.ref o ver off) else rfz S lo 10 (.ref o ver off)
  | .mp o ver=>if o<lo then some (.mp o ver) else none
  | .undef=>some .undef
  | p=>rfz S lo 10 p
theorem zox (hi:Inv F G w) {lo:Nat} {F':Nat→Prop} {G':GSt} (hF:∀ b,zrz F G lo b→F' b) (hn:Next F G w F' G' w):∀ {k:Nat} {p t:PV} {cv:Value},VR w.heap F G p cv→frz G.er lo k p=some t→VR w.heap F' G' t cv
 | 0,p,t,cv,_,h=>by simp [frz]at h
 | k+1,p,t,cv,hv,h=>by
  have rowVR:∀ {cs ts:List PV} {vs:Array Value},cs.length=vs.size→(∀ (i:Nat) p v,cs[i]?=some p→vs[i]?=some v→VR w.heap F G p v)→cs.mapM (frz G.er lo k)=some ts →
    ts.length=vs.size∧∀ (i:Nat) p v,ts[i]?=some p→vs[i]?=some v→VR w.heap F' G' p v:=by
   intro cs ts vs hl hp hm
   obtain ⟨h1,h2⟩:=zcl _ _ hm
   refine ⟨by omega,fun i p v q1 q2=>?_⟩
   obtain ⟨x,h3,h4⟩:=h2 i p q1
   exact zox hi hF hn (hp i x v h3 q2) h4
  have data:∀ {p:PV},VR w.heap F G p cv→rfz G.er lo 10 p=some t→VR w.heap F' G' t cv:=fun hv h => .imm _ _ ((zpl hi hv h).mono hF fun _ _=>rfl)
  cases p with
  | agg cs =>
   simp only[frz]at h
   rw [qI]at h
   obtain ⟨ts,h1,rfl⟩:=h
   obtain ⟨vs,rfl,h2,h3⟩:=hv.agg'
   obtain ⟨h4,h5⟩:=rowVR h2 h3 h1
   exact .agg _ _ h4 h5
  | tup cs =>
   simp only[frz]at h
   rw [qI]at h
   obtain ⟨ts,h1,rfl⟩:=h
   obtain ⟨vs,rfl,h2,h3⟩:=hv.tup'
   obtain ⟨h4,h5⟩:=rowVR h2 h3 h1
   exact .tup _ _ h4 h5
  | fn f cs =>
   simp only[frz]at h
   rw [qI]at h
   obtain ⟨ts,h1,rfl⟩:=h
   have:∃ vs:Array Value,cv = .func (.func f) #[] vs∧cs.length=vs.size∧∀ (i:Nat) p v,cs[i]?=some p→vs[i]?=some v→VR w.heap F G p v:=by
    cases hv with
    | imm _ _ hv=>cases hv with | fn _ _ vs h2 h3=>exact ⟨vs,rfl,h2,fun i p v a b => .imm _ _ (h3 i p v a b)⟩
    | fn _ _ vs h2 h3=>exact ⟨vs,rfl,h2,h3⟩
   obtain ⟨vs,rfl,h2,h3⟩:=this
   obtain ⟨h4,h5⟩:=rowVR h2 h3 h1
   exact .fn _ _ _ h4 h5
  | loc o ver off n =>
   simp only[frz]at h
   split at h
   ·cases h; exact hv.next hi hn
   exact data hv h
  | ref o ver off =>
   simp only[frz]at h
   split at h
   ·cases h; exact hv.next hi hn
   exact data hv h
  | mp o ver =>
   simp only[frz]at h
   split at h
   ·cases h; exact hv.next hi hn
   cases h
  | undef=>simp only[frz]at h; cases h; exact .imm _ _ (.undef _)
  | _=>simp only[frz]at h; exact data hv h
theorem z6p {S:Store} {lo:Nat}:∀ {k:Nat} {p t:PV},frz S lo k p=some t→p.isCell=true→t.isCell=true
 | 0,p,t,h,_=>by simp [frz]at h
 | k+1,p,t,h,hp=>by
  cases p with
  | agg cs=>simp [PV.isCell]at hp
  | tup cs=>simp [PV.isCell]at hp
  | undef=>simp [PV.isCell]at hp
  | fn f cs=>simp only[frz]at h; rw [qI]at h; obtain ⟨_,_,rfl⟩:=h; rfl
  | loc o ver off n=>simp only[frz]at h; split at h; (· cases h; rfl); exact zn6 h hp
  | ref o ver off=>simp only[frz]at h; split at h; (· cases h; rfl); exact zn6 h hp
  | mp o ver=>simp only[frz]at h; split at h; (· cases h; rfl); cases h
  | _=>simp only[frz]at h; exact zn6 h hp
def zcx (S:Store) (lo:Nat):Ob→Option Ob
 | .arr ver et sz cells=>(cells.mapM (frz S lo 10)).map (.arr ver et sz ·)
 | .map ver es=>(es.mapM fun q=>(frz S lo 10 q.1).bind fun a=>(frz S lo 10 q.2).map fun b=>(a,b)).map (.map ver ·)
 | .lp ver l r tmps=>(tmps.mapM (frz S lo 10)).map (.lp ver l r ·)
def zcn (S:Store) (lo:Nat):List Ob→Option (List Ob)
 | []=>some []
 | o::r=>(zcx S lo o).bind fun a=>(zcn S lo r).map (a :: ·)
def Store.frz (S:Store) (lo:Nat):Option Store:=(zcn S lo (S.obs.take lo)).map (⟨·,S.tick⟩)
theorem zqw {S:Store} {lo:Nat}:∀ {l l':List Ob},zcn S lo l=some l'→l.length=l'.length∧∀ (i:Nat) ob',l'[i]?=some ob'→∃ ob,l[i]?=some ob∧zcx S lo ob=some ob'
 | [],l',h=>by simp [zcn]at h; subst h; simp
 | o::l,l',h=>by
  simp only[zcn]at h
  rw [Option.bind_eq_some_iff]at h
  obtain ⟨a,h1,h⟩:=h
  rw [qI]at h
  obtain ⟨r,h2,rfl⟩:=h
  obtain ⟨h3,h4⟩:=zqw h2
  refine ⟨by simp [h3],?_⟩
  rintro (_ | i) ob' hi
  ·simp at hi; subst hi; exact ⟨o,rfl,h1⟩
  simp at hi; obtain ⟨ob,h5,h6⟩:=h4 i ob' hi; exact ⟨ob,by simpa using h5,h6⟩
theorem zly {S:Store} {lo:Nat} {ob ob':Ob} (h:zcx S lo ob=some ob'):ob.ver=ob'.ver∧ob.like ob':=by
 cases ob with
 | arr v et sz cells=>simp only[zcx]at h; rw [qI]at h; obtain ⟨_,_,rfl⟩:=h; simp [Ob.ver,Ob.like]
 | map v es=>simp only[zcx]at h; rw [qI]at h; obtain ⟨_,_,rfl⟩:=h; simp [Ob.ver,Ob.like]
 | lp _ _ _ _=>simp only[zcx]at h; rw [qI]at h; obtain ⟨_,_,rfl⟩:=h; simp [Ob.ver,Ob.like]
theorem zkr {f:PV × PV→Option (PV × PV)}:∀ (xs ys:List (PV × PV)),xs.mapM f=some ys→xs.length=ys.length∧∀ (i:Nat) y,ys[i]?=some y→∃ x,xs[i]?=some x∧f x=some y
 | [],ys,h=>by simp at h; subst h; simp
 | x::xs,ys,h=>by
  rw [qC]at h
  cases hx:f x with
  | none=>simp [hx]at h
  | some y =>
   cases hr:xs.mapM f with
   | none=>simp [hx,hr]at h
   | some ys' =>
    simp [hx,hr]at h
    subst h
    obtain ⟨h1,h2⟩:=zkr xs ys' hr
    refine ⟨by simp [h1],?_⟩
    rintro (_ | i) z hz
    ·simp at hz; subst hz; exact ⟨x,rfl,hx⟩
    simp at hz; obtain ⟨u,h3,h4⟩:=h2 i z hz; exact ⟨u,by simpa using h3,h4⟩
theorem z6q (hi:Inv F G w) {lo:Nat} {S':Store} (h:G.er.frz lo=some S'):∃ G',G'.er=S'∧Inv (zrz F G lo) G' w∧Next F G w (zrz F G lo) G' w:=by
 unfold Store.frz at h
 rw [qI]at h
 obtain ⟨obs',h1,rfl⟩:=h
 obtain ⟨h2,h3⟩:=zqw h1
 let G':GSt:=⟨List.zipWith (fun ob (x:Ob × Lc)=>(ob,x.2)) obs' (G.obs.take lo),G.tick⟩
 have hlen:obs'.length=(G.obs.take lo).length:=by rw [← h2]; simp [GSt.er]
 have her:G'.er=⟨obs',G.er.tick⟩:=by
  simp only[GSt.er,G',Store.mk.injEq,and_true]
  apply List.ext_getElem
  ·simp [hlen]
  intro i a b; simp
 have hget:∀ (o:Nat) ob' l,G'.obs[o]?=some (ob',l)→o<lo∧∃ ob,G.obs[o]?=some (ob,l)∧zcx G.er lo ob=some ob':=by
  intro o ob' l ho
  simp only[G',List.getElem?_zipWith]at ho
  cases ha:obs'[o]? with
  | none=>rw [ha]at ho; simp at ho
  | some a =>
   cases hb:(G.obs.take lo)[o]? with
   | none=>rw [ha,hb]at ho; simp at ho
   | some x =>
    rw [ha,hb]at ho
    simp at ho
    obtain ⟨rfl,rfl⟩:=ho
    obtain ⟨ob,k1,k2⟩:=h3 o a ha
    rw [List.getElem?_take]at hb
    split at hb
    ·rename_i hlt
     refine ⟨hlt,ob,?_,k2⟩
     have:(G.er.obs.take lo)[o]?=some x.1:=by
      rw [List.getElem?_take,if_pos hlt]; simp [GSt.er,hb]
     rw [this]at k1
     cases k1
     exact hb
    cases hb
 have hn:Next F G w (zrz F G lo) G' w:=by
  refine ⟨rfl,rfl,rfl,qR _,fun b hb => .inl hb,?_,?_,qR _,fun _ _ _=>rfl,?_,qR _⟩
  ·rintro b (hb | ⟨o,x,_,hx,rfl⟩)
   ·exact .inl hb
   exact .inr (.inr ⟨o,x,hx,rfl⟩)
  ·rintro o ⟨ob',l⟩ hx
   obtain ⟨_,ob,k1,_⟩:=hget o ob' l hx
   exact .inr ⟨o,_,k1,rfl⟩
  intro o ob' l hx _
  obtain ⟨_,ob,k1,k2⟩:=hget o ob' l hx
  exact ⟨ob,k1,(zly k2).1,(zly k2).2⟩
 have hsound:∀ {k:Nat} {p t:PV} {cv:Value},VR w.heap F G p cv→frz G.er lo k p=some t→VR w.heap (zrz F G lo) G' t cv:=fun hv h=>zox hi (fun _ h=>h) hn hv h
 refine ⟨G',her,⟨?_,?_,?_,?_,?_,?_,?_⟩,hn⟩
 ·rintro b (hb | ⟨o,x,_,hx,rfl⟩)
  ·exact hi.fr b hb
  exact hi.blk_lt hx
 ·intro o ob' l hx
  obtain ⟨_,ob,k1,k2⟩:=hget o ob' l hx
  have:=hi.ver o ob l k1
  rw [(zly k2).1]at this
  exact this
 ·intro o ob' l hx hb
  obtain ⟨hlt,ob,k1,k2⟩:=hget o ob' l hx
  rcases hb with hb | ⟨o',x,hlo,hx',e⟩
  ·exact hi.nF o ob l k1 hb
  have:=hi.inj o' o _ _ hx' k1 e
  omega
 ·intro o ver et sz cells l hx
  obtain ⟨_,ob,k1,k2⟩:=hget o _ l hx
  cases ob with
  | map v es=>simp only[zcx]at k2; rw [qI]at k2; obtain ⟨_,_,k3⟩:=k2; cases k3
  | lp _ _ _ _=>simp only[zcx]at k2; rw [qI]at k2; obtain ⟨_,_,k3⟩:=k2; cases k3
  | arr v et2 sz2 cells2 =>
   simp only[zcx]at k2
   rw [qI]at k2
   obtain ⟨cs',k3,k4⟩:=k2
   cases k4
   obtain ⟨m1,m2⟩:=zcl _ _ k3
   obtain ⟨cs,q1,q2,q3,q4⟩:=hi.arr o _ _ _ _ l k1
   refine ⟨cs,q1,q2,by omega,fun i p hp=>?_⟩
   obtain ⟨x,x1,x2⟩:=m2 i p hp
   obtain ⟨c1,v1,v2,v3⟩:=q4 i x x1
   exact ⟨z6p x2 c1,v1,v2,hsound v3 x2⟩
 ·intro o ver es l hx
  obtain ⟨_,ob,k1,k2⟩:=hget o _ l hx
  cases ob with
  | arr v et2 sz2 cells2=>simp only[zcx]at k2; rw [qI]at k2; obtain ⟨_,_,k3⟩:=k2; cases k3
  | lp _ _ _ _=>simp only[zcx]at k2; rw [qI]at k2; obtain ⟨_,_,k3⟩:=k2; cases k3
  | map v es2 =>
   simp only[zcx]at k2
   rw [qI]at k2
   obtain ⟨es',k3,k4⟩:=k2
   cases k4
   obtain ⟨m1,m2⟩:=zkr _ _ k3
   obtain ⟨ents,clock,q1,q2,q3⟩:=hi.map o _ _ l k1
   refine ⟨ents,clock,q1,by omega,fun i k v hp=>?_⟩
   obtain ⟨x,x1,x2⟩:=m2 i (k,v) hp
   obtain ⟨en,e1,e2,e3⟩:=q3 i x.1 x.2 x1
   rw [Option.bind_eq_some_iff]at x2
   obtain ⟨a,y1,y2⟩:=x2
   rw [qI]at y2
   obtain ⟨b,y3,y4⟩:=y2
   cases y4
   exact ⟨en,e1,hsound e2 y1,hsound e3 y3⟩
 ·rintro o o' ⟨ob,l⟩ ⟨ob',l'⟩ hx hx' e
  obtain ⟨_,a,k1,_⟩:=hget o _ _ hx
  obtain ⟨_,a',k1',_⟩:=hget o' _ _ hx'
  exact hi.inj o o' _ _ k1 k1' e
 intro o ver b r tmps l hx
 obtain ⟨_,ob,k1,k2⟩:=hget o _ l hx
 cases ob with
 | arr v et2 sz2 cells2=>simp only[zcx]at k2; rw [qI]at k2; obtain ⟨_,_,k3⟩:=k2; cases k3
 | map v es=>simp only[zcx]at k2; rw [qI]at k2; obtain ⟨_,_,k3⟩:=k2; cases k3
 | lp v b2 r2 tmps2 =>
  simp only[zcx]at k2
  rw [qI]at k2
  obtain ⟨cs',k3,k4⟩:=k2
  cases k4
  obtain ⟨m1,m2⟩:=zcl _ _ k3
  obtain ⟨q0,t,q1,q2,q3⟩:=hi.lp o _ _ _ _ l k1
  refine ⟨q0,t,q1,⟨q2.1,by omega⟩,fun i p v hp hv=>?_⟩
  obtain ⟨x,x1,x2⟩:=m2 i p hp
  exact hsound (q3 i x v x1 hv) x2
variable {Q:Exit→Env→Store→Prop} {S:Store} {a b c:Code}
def z1v (L:List Nat) (I:List PV→Store→Prop) (e:Env) (S:Store):Prop :=
 ∃ lo vs S',(L.map e).mapM (frz S lo 10)=some vs∧S.frz lo=some S'∧I vs S'
theorem zsm {H:Array Obj} {F:Nat→Prop} {G:GSt} {a:Act}:∀ (L:List Nat) (vs:List PV),L.length=vs.length→(∀ (i t:Nat) v,L[i]?=some t→vs[i]?=some v→VR H F G v (a.tmps.getD t undef))→zeu H F G (Env.of L vs) a
 | [],_,_,_,t => .imm _ _ (.undef _)
 | x::L,[],h,_,t=>by simp at h
 | x::L,v::vs,hl,h,t=>by
  simp only[Env.of]
  split
  ·rename_i e; rw [e]; exact h 0 x v rfl rfl
  exact zsm L vs (by simpa using hl) (fun i t v q1 q2=>h (i+1) t v (by simpa using q1) (by simpa using q2)) t
theorem zqv (hi:Inv F G w) {e:Env} {act:Act} (he:zeu w.heap F G e act) {L:List Nat} {I:List PV→Store→Prop} (h:z1v L I e G.er) :
  ∃ vs F' G',I vs G'.er∧vs.length=L.length∧Inv F' G' w∧Next F G w F' G' w∧zeu w.heap F' G' (Env.of L vs) act:=by
 obtain ⟨lo,vs,S',h1,h2,h3⟩:=h
 obtain ⟨G',rfl,k2,k3⟩:=z6q hi h2
 obtain ⟨m1,m2⟩:=zcl _ _ h1
 refine ⟨vs,_,G',h3,by rw [← m1]; simp,k2,k3,zsm L vs (by rw [← m1]; simp) fun i t v q1 q2=>?_⟩
 obtain ⟨x,x1,x2⟩:=m2 i v q2
 rw [List.getElem?_map,q1]at x1
 cases x1
 exact zox hi (fun _ h=>h) k3 (he t) x2
theorem W.foldZ (L:List Nat) {I:List PV→Store→Prop} (hI:z1v L I e S) (h:∀ vs S,vs.length=L.length→I vs S→W P T c Q (Env.of L vs) S):W P T c Q e S:=by
 refine ⟨?_⟩
 intro hT hm F0 G0 w0 N F G a w h3 h4 h5 h6 h7 h8 h9 R nn
 subst h3
 obtain ⟨vs,F',G',k1,k2,k3,k4,k5⟩:=zqv h4 h5 hI
 exact (h vs _ k2 k1).run hT hm F0 G0 w0 N F' G' a w rfl k3 k5 (h6.trans k4) h7 h8 h9
theorem W.joinZ (L:List Nat) (I:List PV→Store→Prop) (h:W P T a (XThen (z1v L I) Q) e S) (k:∀ vs S,vs.length=L.length→I vs S→W P T b Q (Env.of L vs) S):W P T (.seq a b) Q e S:=by
 refine W.seq (h.mono ?_)
 intro x e S hx
 cases x with
 | normal=>exact W.foldZ L hx k
 | _=>exact hx
theorem W.loopZ (L:List Nat) (I:Nat→List PV→Store→Prop) (n:Nat) (h0:z1v L (I n) e S)
  (h:∀ n vs S,vs.length=L.length→I n vs S→W P T c (XThen (fun e S=>∃ m,m<n∧z1v L (I m) e S) Q) (Env.of L vs) S):W P T (.loop c) Q e S:=by
 refine W.foldZ L h0 fun vs S hl hI=>?_
 refine ⟨?_⟩
 intro hT hm F0 G0 w0 N F G a w h3 h4 h5 h6 h7 h8 h9 R nn
 refine wpIn_loop_rounds (n+1) ?_
 clear h0
 induction n using Nat.strongRecOn generalizing vs S F G a w with
 | _ n ih =>
  refine wpIn_mono ((h n vs S hl hI).run hT hm F0 G0 w0 N F G a w h3 h4 h5 h6 h7 h8 (by simpa [zgb] using h9)) ?_
  rintro x a' w' ⟨e',F',G',k1,k2,k3,k4,k5,k6⟩
  cases x with
  | normal =>
   obtain ⟨m,hmn,hk⟩:=k1
   obtain ⟨vs',F2,G2,q1,q2,q3,q4,q5⟩:=zqv k2 k3 hk
   exact zjy (by omega) _ _ (ih m hmn vs' _ q2 q1 F2 G2 a' w' rfl q3 q5 (k4.trans q4) k5 k6)
  | _=>exact ⟨e',F',G',k1,k2,k3,k4,k5,k6⟩
theorem zb6 {S:Store} {lo k:Nat} {q:IntKind} {n:Int}:frz S lo (k+1) (.int q n)=some (.int q n):=rfl
theorem zbp {S:Store} {lo k:Nat} {b:Bool}:frz S lo (k+1) (.bool b)=some (.bool b):=rfl
theorem zb8 {S:Store} {lo k:Nat} {b:List UInt8}:frz S lo (k+1) (.str b)=some (.str b):=rfl
theorem zcw {S:Store} {lo k n:Nat} {cs:List PV}:frz S lo (k+1) (.sl cs n)=some (.sl cs n):=rfl
theorem zb7 {S:Store} {lo k o ver off n:Nat}:frz S lo (k+1) (.loc o ver off n)=if o<lo then some (.loc o ver off n) else rfz S lo 10 (.loc o ver off n):=rfl
theorem zb9 {S:Store} {lo k:Nat} {q:IntKind} {n:Int}:rfz S lo (k+1) (.int q n)=some (.int q n):=rfl
theorem zbs {S:Store} {lo k:Nat} {b:Bool}:rfz S lo (k+1) (.bool b)=some (.bool b):=rfl
theorem zcb {S:Store} {lo k:Nat} {b:List UInt8}:rfz S lo (k+1) (.str b)=some (.str b):=rfl
theorem zca {S:Store} {lo k o ver off n:Nat}:rfz S lo (k+1) (.loc o ver off n)=(match S.obs[o]? with
  | some (.arr v _ sz cells)=>if lo≤o∧v=ver∧off+n*sz≤cells.length then (((cells.drop off).take (n*sz)).mapM (rfz S lo k)).map (.sl · n) else none
  | _=>none):=rfl
theorem zr9 {α:Type} {f:α→PV} {S:Store} {lo k:Nat} (h:∀ a,frz S lo k (f a)=some (f a)) (l:List α):(l.map f).mapM (frz S lo k)=some (l.map f) :=
 zce fun x hx=>by obtain ⟨a,_,rfl⟩:=List.mem_map.1 hx; exact h a
theorem zxm {α:Type} {f:α→PV} {S:Store} {lo k:Nat} (h:∀ a,rfz S lo k (f a)=some (f a)) (l:List α):(l.map f).mapM (rfz S lo k)=some (l.map f) :=
 zce fun x hx=>by obtain ⟨a,_,rfl⟩:=List.mem_map.1 hx; exact h a
theorem zbe {S:Store} {lo k:Nat} (l:List (List Int)):(l.map eInts).mapM (frz S lo (k+1))=some (l.map eInts):=zr9 (fun _=>rfl) l
theorem zbr {S:Store} {lo k:Nat} (l:List (List UInt8)):(l.map PV.str).mapM (frz S lo (k+1))=some (l.map PV.str):=zr9 (fun _=>rfl) l
theorem zbq {S:Store} {lo k:Nat} (l:List Int):(l.map (PV.int .i64)).mapM (frz S lo (k+1))=some (l.map (PV.int .i64)):=zr9 (fun _=>rfl) l
theorem zbd {S:Store} {lo k:Nat} (l:List UInt8):(l.map eB).mapM (frz S lo (k+1))=some (l.map eB):=zr9 (fun _=>rfl) l
theorem zbt {S:Store} {lo k:Nat} (l:List Int):(l.map (PV.int .i64)).mapM (rfz S lo (k+1))=some (l.map (PV.int .i64)):=zxm (fun _=>rfl) l
theorem zbf {S:Store} {lo k:Nat} (l:List UInt8):(l.map eB).mapM (rfz S lo (k+1))=some (l.map eB):=zxm (fun _=>rfl) l
theorem zaj {f:PV→Option PV} {a b:PV} {l l':List PV} (h1:f a=some b) (h2:l.mapM f=some l'):(a::l).mapM f=some (b::l'):=by
 rw [qC,h1]; simp [h2]
end
section
variable {P:Program} {T:Tab} {Q:Exit→Env→Store→Prop} {e:Env} {S:Store} {b:Code}
def zew (o:Op):Bool:=zq0 o && (match o with | .call ⟨.value _,_,_⟩=>false | _=>true)
def zcg:List Oper→Nat→List Nat
 | [],_=>[]
 | o::r,i=>if zew o.op then zcg r (i+1) else i::zcg r (i+1)
theorem zgs:∀ (l:List Oper) (k i:Nat) (o:Oper),l[i]?=some o→k+i ∉ zcg l k→zew o.op=true
 | [],_,_,_,h,_=>by simp at h
 | o'::l,k,0,o,h,hn=>by
  simp at h; subst h
  unfold zcg at hn
  split at hn
  ·assumption
  simp at hn
 | o'::l,k,i+1,o,h,hn=>by
  simp only[List.getElem?_cons_succ]at h
  refine zgs l (k+1) i o h fun hm=>hn ?_
  unfold zcg
  split
  ·rwa [show k+(i+1)=k+1+i by omega]
  rw [show k+(i+1)=k+1+i by omega]; exact List.mem_cons_of_mem _ hm
theorem zki {o:Op} {K:PV→Store→Prop} (hf:zew o=true) (h:sOp false P T e S o K):z7a P T S e o fun v=>K v S:=by
 refine z2j (by unfold zew at hf; simp only[qB]at hf; exact hf.1) ?_
 cases o with
 | call c =>
  obtain ⟨cal,xs,ts⟩:=c
  cases cal with
  | value f=>simp [zew]at hf
  | _=>exact h
 | _=>exact h
theorem zit {all:List Oper} {K:Env→Store→Prop}:∀ (r:List Oper) (k:Nat) (e:Env) (S:Store),all.drop k=r→zbu false P T (dsts all) r e S K →
  zc8 P T all.toArray (zcg all 0) [] [] K (List.range' k r.length) e S
 | [],_,_,_,_,h=>h
 | o::r,k,e,S,hk,h=>by
  have ho:all[k]?=some o:=by
   have:=congrArg (fun l=>l[0]?) hk
   simpa using this
  have hr:all.drop (k+1)=r:=by
   have:=congrArg (List.drop 1) hk
   simpa [List.drop_drop] using this
  unfold zbu at h
  simp only[List.length_cons,List.range'_succ,zc8,List.getElem?_toArray,ho]
  rw [zjs]at h
  unfold zet
  split at h
  ·rename_i hg
   rw [hg]
   simp only
   split
   ·rename_i hc
    exact zfv (fun v S' hv=>⟨.inr (by intro o ho; cases ho),zit r (k+1) _ _ hr hv⟩) (zjz h)
   rename_i hc
   have hflat:=zgs all 0 k o ho (by simpa using hc)
   have:=zki hflat h
   rw [zd5]at this ⊢
   obtain ⟨v,h1,h2⟩:=this
   exact ⟨v,h1,by simp,zit r (k+1) _ _ hr h2⟩
  ·rename_i hg; rw [hg]; exact zit r (k+1) _ _ hr h
  exact h.elim
theorem W.drawE_k {id:Nat} {l:List Oper} (hc:zgy l.toArray (List.range' 0 l.length) (zcg l 0) []=true) (h:∀ K:Env→Store→Prop,(∀ e S,Q .normal e S→K e S)→zbu false P T (dsts l) l e S K) :
  W P T (.region id l.toArray true) Q e S :=
 W.region_any (List.range' 0 l.length) (zcg l 0) [] [] hc (zit l 0 _ _ rfl (h _ fun _ _ h=>h))
theorem W.seq_drawE {id:Nat} {l:List Oper} (hc:zgy l.toArray (List.range' 0 l.length) (zcg l 0) []=true) (h:∀ K:Env→Store→Prop,(∀ e S,W P T b Q e S→K e S)→zbu false P T (dsts l) l e S K) :
  W P T (.seq (.region id l.toArray true) b) Q e S :=
 W.seq (W.drawE_k hc fun K hK=>h K hK)
end
end
theorem b_mc {α β:Type} {f:α→β} {a:α} {l:List α}:(a::l).map f=f a::l.map f:=rfl
theorem b_mn {α β:Type} {f:α→β}:([]:List α).map f=[]:=rfl
theorem ybl {α:Type} [BEq α] [ReflBEq α] {a:α}:(a == a)=true:=beq_self_eq_true a
theorem ybm:(false=true)=False:=by simp
theorem b_tn {n:Nat}:((n:Int)).toNat=n:=Int.toNat_natCast n
theorem b_gm {α β:Type} {f:α→β} {l:List α} {i:Nat}:(l.map f)[i]?=(l[i]?).map f:=List.getElem?_map
theorem b_os {α β:Type} {f:α→β} {a:α}:(some a).map f=some (f a):=rfl
theorem b_ob {α β:Type} {f:α→Option β} {a:α}:(some a).bind f=f a:=rfl
theorem b_g0 {α:Type} {a:α} {l:List α}:(a::l)[0]?=some a:=rfl
theorem b_gs {α:Type} {a:α} {l:List α} {i:Nat}:(a::l)[i+1]?=l[i]?:=by simp
theorem RH:(type_of% @b_mc)∧(type_of% @b_mn)∧(type_of% @ybl)∧(type_of% ybm)∧(type_of% @b_tn)∧(type_of% @Nat.mul_one)∧(type_of% @b_gm)∧(type_of% @b_os)∧(type_of% @b_ob)∧(type_of% @b_g0)∧(type_of% @b_gs) :=
 ⟨@b_mc,@b_mn,@ybl,ybm,@b_tn,@Nat.mul_one,@b_gm,@b_os,@b_ob,@b_g0,@b_gs⟩
theorem b_ca {α:Type} {a:α} {l m:List α}:(a::l)++m=a::(l++m):=rfl
theorem b_na {α:Type} {m:List α}:([]:List α)++m=m:=rfl
theorem b_lc {α:Type} {a:α} {l:List α}:(a::l).length=l.length+1:=rfl
theorem b_ln {α:Type}:([]:List α).length=0:=rfl
theorem b_s0 {α:Type} {a b:α} {l:List α}:(a::l).set 0 b=b::l:=rfl
theorem b_ss {α:Type} {a b:α} {l:List α} {n:Nat}:(a::l).set (n+1) b=a::l.set n b:=rfl
theorem b_d0 {α:Type} {l:List α}:l.drop 0=l:=rfl
theorem b_t0 {α:Type} {l:List α}:l.take 0=[]:=List.take_zero
theorem b_ts {α:Type} {a:α} {l:List α} {n:Nat}:(a::l).take (n+1)=a::l.take n:=rfl
theorem b_ds {α:Type} {a:α} {l:List α} {n:Nat}:(a::l).drop (n+1)=l.drop n:=rfl
theorem b_dn {α:Type} {n:Nat}:([]:List α).drop n=[]:=List.drop_nil
theorem ybn {α:Type} {n:Nat}:([]:List α).take n=[]:=List.take_nil
theorem b_lm {α β:Type} {f:α→β} {l:List α}:(l.map f).length=l.length:=List.length_map f
theorem b_nt:(¬ False)=True:=not_false_eq_true
theorem ycr {α:Type} {a b:α}:(a≠b)=¬ (a=b):=rfl
theorem RG:(type_of% @b_ca)∧(type_of% @b_na)∧(type_of% @b_lc)∧(type_of% @b_ln)∧(type_of% @b_s0)∧(type_of% @b_ss)∧(type_of% @b_d0)∧(type_of% @b_t0)∧(type_of% @b_ts)∧(type_of% @b_ds)∧(type_of% @b_dn)∧(type_of% @ybn)∧(type_of% Nat.zero_add)∧(type_of% Nat.add_zero)∧(type_of% true_and)∧(type_of% and_true)∧(type_of% @b_lm)∧(type_of% @ycr)∧(type_of% b_nt)∧(type_of% @z9a)∧(type_of% @zqd)∧(type_of% @z3e)∧(type_of% zux)∧(type_of% @zoj) :=
 ⟨@b_ca,@b_na,@b_lc,@b_ln,@b_s0,@b_ss,@b_d0,@b_t0,@b_ts,@b_ds,@b_dn,@ybn,Nat.zero_add,Nat.add_zero,true_and,and_true,@b_lm,@ycr,b_nt,@z9a,@zqd,@z3e,zux,@zoj⟩
theorem z8f {α:Type} [BEq α] [LawfulBEq α] {a b:α}:((a == b)=true)=(a=b):=propext beq_iff_eq
theorem z8e {α:Type} [BEq α] [LawfulBEq α] {a b:α}:((a == b)=false)=¬ (a=b):=propext beq_eq_false_iff_ne
theorem z8h {α:Type} [BEq α] [LawfulBEq α] {a b:α}:((a != b)=true)=¬ (a=b):=propext bne_iff_ne
theorem z8g {α:Type} [BEq α] [LawfulBEq α] {a b:α}:((a != b)=false)=(a=b):=propext bne_eq_false_iff_eq
theorem b_gt {a b:Int}:(a>b)=(b<a):=rfl
theorem b_ge {a b:Int}:(a ≥ b)=(b≤a):=rfl
theorem RL:(type_of% @decide_eq_true_eq)∧(type_of% @decide_eq_false_iff_not)∧(type_of% @z8f)∧(type_of% @z8e)∧(type_of% @z8h)∧(type_of% @z8g)∧(type_of% @ycr)∧(type_of% @Classical.not_not)∧(type_of% @Bool.not_eq_true')∧(type_of% @Bool.not_eq_false')∧(type_of% @b_gt)∧(type_of% @b_ge) :=
 ⟨@decide_eq_true_eq,@decide_eq_false_iff_not,@z8f,@z8e,@z8h,@z8g,@ycr,@Classical.not_not,@Bool.not_eq_true',@Bool.not_eq_false',@b_gt,@b_ge⟩
inductive Bel (k:Nat):PV→Prop where
 | int (q n):Bel k (.int q n)
 | bool (b):Bel k (.bool b)
 | str (s):Bel k (.str s)
 | agg (cs):(∀ c∈cs,Bel k c)→Bel k (.agg cs)
 | tup (cs):(∀ c∈cs,Bel k c)→Bel k (.tup cs)
 | fn (f cs):(∀ c∈cs,Bel k c)→Bel k (.fn f cs)
 | sl (cs n):Bel k (.sl cs n)
 | nils:Bel k .nils
 | bm (f b):Bel k (.bm f b)
 | ip (cs n):Bel k (.ip cs n)
 | nilp:Bel k .nilp
 | nilm:Bel k .nilm
 | nilf:Bel k .nilf
 | yl (l:Nat):Bel k (.yl l)
 | undef:Bel k .undef
 | loc (o v f n):o<k→Bel k (.loc o v f n)
 | ref (o v f):o<k→Bel k (.ref o v f)
 | mp (o v):o<k→Bel k (.mp o v)
theorem VR.grow {H:Array Obj} {F:Nat→Prop} {G G':GSt} {k:Nat} (ht:G.tick≤G'.tick) (hg:∀ o,o<k→G'.obs[o]?=G.obs[o]?) {p:PV} {v:Value} (hb:Bel k p) (h:VR H F G p v):VR H F G' p v:=by
 induction h with
 | imm p v h=>exact .imm p v h
 | agg cs vs e _ ih=>cases hb with | agg _ hb=>exact .agg cs vs e fun i p v h1 h2=>ih i p v h1 h2 (hb p (List.mem_of_getElem? h1))
 | tup cs vs e _ ih=>cases hb with | tup _ hb=>exact .tup cs vs e fun i p v h1 h2=>ih i p v h1 h2 (hb p (List.mem_of_getElem? h1))
 | fn f cs vs e _ ih=>cases hb with | fn _ _ hb=>exact .fn f cs vs e fun i p v h1 h2=>ih i p v h1 h2 (hb p (List.mem_of_getElem? h1))
 | loc o ver off n a len cap hv k'=>cases hb with | loc _ _ _ _ hb=>exact .loc o ver off n a len cap (Nat.lt_of_lt_of_le hv ht) fun ob l h=>k' ob l (by rw [← hg o hb]; exact h)
 | ref o ver off a hv k'=>cases hb with | ref _ _ _ hb=>exact .ref o ver off a (Nat.lt_of_lt_of_le hv ht) fun ob l h=>k' ob l (by rw [← hg o hb]; exact h)
 | mp o ver r hv k'=>cases hb with | mp _ _ hb=>exact .mp o ver r (Nat.lt_of_lt_of_le hv ht) fun ob l h=>k' ob l (by rw [← hg o hb]; exact h)
section
def sh (S:Store) (im:Bool):Nat→PV→Option PV
 | 0,_=>none
 | k+1,p =>
  match p with
  | .int a b=>some (.int a b)
  | .bool b=>some (.bool b)
  | .str s=>some (.str s)
  | .nilp=>some .nilp
  | .nilf=>some .nilf
  | .yl l=>some (.yl l)
  | .nilm=>some .nilm
  | .nils=>some .nils
  | .agg cs=>(cs.mapM (sh S im k)).map .agg
  | .tup cs=>(cs.mapM (sh S im k)).map .tup
  | .fn f cs=>(cs.mapM (sh S im k)).map (.fn f)
  | .sl cs n=>if im || cs.isEmpty then some (.sl cs n) else none
  | .ip cs off=>if im then some (.ip cs off) else none
  | .bm f b=>if im then some (.bm f b) else none
  | .loc o ver off n =>
   match S.obs[o]? with
   | some (.arr v _ _ _)=>if v=ver then some (.loc o 0 off n) else none
   | _=>none
  | .ref o ver off =>
   match S.obs[o]? with
   | some (.arr v _ _ _)=>if v=ver then some (.ref o 0 off) else none
   | _=>none
  | .mp o ver =>
   match S.obs[o]? with
   | some (.map v _)=>if v=ver then some (.mp o 0) else none
   | _=>none
  | .undef=>none
def z5b (S:Store) (im:Bool):Ob→Option Ob
 | .arr _ et sz cells=>(cells.mapM (sh S im 10)).map (.arr 0 et sz ·)
 | .map _ es=>(es.mapM fun q=>(sh S im 10 q.1).bind fun a=>(sh S im 10 q.2).map fun b=>(a,b)).map (.map 0 ·)
 | .lp _ _ _ _=>none
def zld (S:Store) (im:Bool):List Ob→Option (List Ob)
 | []=>some []
 | o::r=>(z5b S im o).bind fun a=>(zld S im r).map (a :: ·)
def up (k t:Nat):Nat→PV→PV
 | f+1,.loc o _ off n => .loc (o+k) t off n
 | f+1,.ref o _ off => .ref (o+k) t off
 | f+1,.mp o _ => .mp (o+k) t
 | f+1,.agg cs => .agg (cs.map (up k t f))
 | f+1,.tup cs => .tup (cs.map (up k t f))
 | f+1,.fn g cs => .fn g (cs.map (up k t f))
 | _,p=>p
def z5u (k t:Nat):Ob→Ob
 | .arr _ et sz cells => .arr t et sz (cells.map (up k t 10))
 | .map _ es => .map t (es.map fun q=>(up k t 10 q.1,up k t 10 q.2))
 | .lp _ l r tmps => .lp t l r tmps
def PN (P:Program) (f:FuncId) (args:List PV) (r:PV) (obs:List Ob) (im:Bool):Prop :=
 Ev P f args ⟨[],0⟩ fun v S=>∃ k,sh (S.take k) im 10 v=some r∧zld (S.take k) im (S.take k).obs=some obs
section
variable {P:Program} {T:Tab} {F:Nat→Prop} {G:GSt} {w:World} {e:Env} {a:Act}
theorem yav {S:Store} {im:Bool} {k t:Nat}:∀ {f:Nat} {p q:PV},sh S im f p=some q→p.isCell=true→(up k t f q).isCell=true
 | 0,p,q,h,_=>by simp [sh]at h
 | f+1,p,q,h,hp=>by
  cases p <;> simp only[sh]at h <;> first
   | (cases h; rfl)
   | (simp [PV.isCell]at hp; done)
   | (cases h; done)
   | (split at h <;> first | (cases h; rfl) | (cases h; done) | (split at h <;> first | (cases h; done) | (cases h; rfl)))
   | (rw [qI]at h; obtain ⟨_,_,rfl⟩:=h; rfl)
structure Beh (G' G'':GSt) (k t:Nat):Prop where
 tick:t<G''.tick
 get:∀ (o:Nat) ob l,G''.obs[o+k]?=some (ob,l)→∃ ob',G'.obs[o]?=some (ob',l)∧ob'.like ob∧ob.ver=t
theorem zle {w':World} {F' F'':Nat→Prop} {G' G'':GSt} {im:Bool} {k t:Nat} (hb:Beh G' G'' k t) (hF:im=true→∀ b,F' b→F'' b) :
  ∀ {f:Nat} {p q:PV} {cv:Value},VR w'.heap F' G' p cv→sh G'.er im f p=some q→VR w'.heap F'' G'' (up k t f q) cv
 | 0,p,q,cv,_,h=>by simp [sh]at h
 | f+1,p,q,cv,hv,h=>by
  have rowVR:∀ {cs ts:List PV} {vs:Array Value},cs.length=vs.size→(∀ (i:Nat) p v,cs[i]?=some p→vs[i]?=some v→VR w'.heap F' G' p v)→cs.mapM (sh G'.er im f)=some ts →
    (ts.map (up k t f)).length=vs.size∧∀ (i:Nat) p v,(ts.map (up k t f))[i]?=some p→vs[i]?=some v→VR w'.heap F'' G'' p v:=by
   intro cs ts vs hl hp hm
   obtain ⟨h1,h2⟩:=zcl _ _ hm
   refine ⟨by simp; omega,fun i p v q1 q2=>?_⟩
   rw [List.getElem?_map,qI]at q1
   obtain ⟨y,y1,rfl⟩:=q1
   obtain ⟨x,h3,h4⟩:=h2 i y y1
   exact zle hb hF (hp i x v h3 q2) h4
  cases p with
  | int a b=>simp only[sh]at h; cases h; rw [hv.int]; exact .imm _ _ (.int _ _)
  | bool b=>simp only[sh]at h; cases h; rw [hv.bool]; exact .imm _ _ (.bool _)
  | str s=>simp only[sh]at h; cases h; obtain ⟨b,rfl,hb⟩:=hv.str; exact .imm _ _ (.str _ _ hb)
  | nilp=>simp only[sh]at h; cases h; cases hv with | imm _ _ hv=>cases hv; exact .imm _ _ .nilp
  | nilf=>simp only[sh]at h; cases h; cases hv with | imm _ _ hv=>cases hv; exact .imm _ _ .nilf
  | yl l=>simp only[sh]at h; cases h; cases hv with | imm _ _ hv=>cases hv; exact .imm _ _ (.yl _)
  | nilm=>simp only[sh]at h; cases h; cases hv with | imm _ _ hv=>cases hv; exact .imm _ _ .nilm
  | nils=>simp only[sh]at h; cases h; cases hv with | imm _ _ hv=>cases hv; exact .imm _ _ .nils
  | agg cs =>
   simp only[sh]at h
   rw [qI]at h
   obtain ⟨ts,h1,rfl⟩:=h
   obtain ⟨vs,rfl,h2,h3⟩:=hv.agg'
   obtain ⟨h4,h5⟩:=rowVR h2 h3 h1
   exact .agg _ _ h4 h5
  | tup cs =>
   simp only[sh]at h
   rw [qI]at h
   obtain ⟨ts,h1,rfl⟩:=h
   obtain ⟨vs,rfl,h2,h3⟩:=hv.tup'
   obtain ⟨h4,h5⟩:=rowVR h2 h3 h1
   exact .tup _ _ h4 h5
  | fn g cs =>
   simp only[sh]at h
   rw [qI]at h
   obtain ⟨ts,h1,rfl⟩:=h
   have:∃ vs:Array Value,cv = .func (.func g) #[] vs∧cs.length=vs.size∧∀ (i:Nat) p v,cs[i]?=some p→vs[i]?=some v→VR w'.heap F' G' p v:=by
    cases hv with
    | imm _ _ hv=>cases hv with | fn _ _ vs h2 h3=>exact ⟨vs,rfl,h2,fun i p v a b => .imm _ _ (h3 i p v a b)⟩
    | fn _ _ vs h2 h3=>exact ⟨vs,rfl,h2,h3⟩
   obtain ⟨vs,rfl,h2,h3⟩:=this
   obtain ⟨h4,h5⟩:=rowVR h2 h3 h1
   exact .fn _ _ _ h4 h5
  | sl cs n =>
   simp only[sh]at h
   split at h
   ·rename_i hc
    cases h
    simp only[Bool.or_eq_true,List.isEmpty_iff]at hc
    cases hv with
    | imm _ _ hv =>
     rcases hc with hc | hc
     ·exact .imm _ _ (hv.mono (hF hc) (fun _ _=>rfl))
     subst hc
     cases hv with
     | sl0=>exact .imm _ _ .sl0
     | sl _ _ b off cap g h1 h2 h3 h4=>exact .imm _ _ (.sl _ _ b off cap g (fun h=>absurd rfl h) h2 (by simp) (by simp))
   cases h
  | ip cs n =>
   simp only[sh]at h
   split at h
   ·rename_i hc
    cases h
    cases hv with
    | imm _ _ hv=>exact .imm _ _ (hv.mono (hF hc) (fun _ _=>rfl))
   cases h
  | bm g b =>
   simp only[sh]at h
   split at h
   ·rename_i hc
    cases h
    cases hv with
    | imm _ _ hv=>exact .imm _ _ (hv.mono (hF hc) (fun _ _=>rfl))
   cases h
  | loc o ver off n =>
   simp only[sh]at h
   split at h
   case h_2=>cases h
   rename_i v et sz cells hob
   split at h
   case isFalse=>cases h
   rename_i hver
   cases h
   cases hv with
   | imm _ _ hv=>cases hv
   | loc _ _ _ _ a len cap hv k' =>
    refine .loc _ _ _ _ a len cap hb.tick fun ob l hg he=>?_
    obtain ⟨ob',h1,h2,h3⟩:=hb.get o ob l hg
    have hob':ob' = .arr v et sz cells:=by
     have:G'.er.obs[o]?=some ob':=by simp [GSt.er,h1]
     rw [hob]at this; cases this; rfl
    subst hob'
    obtain ⟨et2,sz2,cells2,q1,q2⟩:=k' _ l h1 (by simp only[Ob.ver]; exact hver)
    cases q1
    cases ob with
    | arr v3 et3 sz3 cells3 =>
     simp only[Ob.like]at h2
     obtain ⟨rfl,rfl⟩:=h2
     exact ⟨_,_,cells3,by simp only[Ob.ver]at h3; rw [h3],q2⟩
    | map v3 es=>exact h2.elim
    | lp _ _ _ _=>exact h2.elim
  | ref o ver off =>
   simp only[sh]at h
   split at h
   case h_2=>cases h
   rename_i v et sz cells hob
   split at h
   case isFalse=>cases h
   rename_i hver
   cases h
   cases hv with
   | imm _ _ hv=>cases hv
   | ref _ _ _ a hv k' =>
    refine .ref _ _ _ a hb.tick fun ob l hg he=>?_
    obtain ⟨ob',h1,h2,h3⟩:=hb.get o ob l hg
    have hob':ob' = .arr v et sz cells:=by
     have:G'.er.obs[o]?=some ob':=by simp [GSt.er,h1]
     rw [hob]at this; cases this; rfl
    subst hob'
    obtain ⟨et2,sz2,cells2,q1,q2⟩:=k' _ l h1 (by simp only[Ob.ver]; exact hver)
    cases q1
    cases ob with
    | arr v3 et3 sz3 cells3 =>
     simp only[Ob.like]at h2
     obtain ⟨rfl,rfl⟩:=h2
     exact ⟨_,_,cells3,by simp only[Ob.ver]at h3; rw [h3],q2⟩
    | map v3 es=>exact h2.elim
    | lp _ _ _ _=>exact h2.elim
  | mp o ver =>
   simp only[sh]at h
   split at h
   case h_2=>cases h
   rename_i v es hob
   split at h
   case isFalse=>cases h
   rename_i hver
   cases h
   cases hv with
   | imm _ _ hv=>cases hv
   | mp _ _ r hv k' =>
    refine .mp _ _ r hb.tick fun ob l hg he=>?_
    obtain ⟨ob',h1,h2,h3⟩:=hb.get o ob l hg
    have hob':ob' = .map v es:=by
     have:G'.er.obs[o]?=some ob':=by simp [GSt.er,h1]
     rw [hob]at this; cases this; rfl
    subst hob'
    obtain ⟨es2,q1,q2⟩:=k' _ l h1 (by simp only[Ob.ver]; exact hver)
    cases q1
    cases ob with
    | arr v3 et3 sz3 cells3=>exact h2.elim
    | map v3 es3=>exact ⟨es3,by simp only[Ob.ver]at h3; rw [h3],q2⟩
    | lp _ _ _ _=>exact h2.elim
  | undef=>simp only[sh]at h; cases h
theorem zv4 {S:Store} {im:Bool}:∀ {l l':List Ob},zld S im l=some l'→l.length=l'.length∧∀ (i:Nat) ob',l'[i]?=some ob'→∃ ob,l[i]?=some ob∧z5b S im ob=some ob'
 | [],l',h=>by simp [zld]at h; subst h; simp
 | o::l,l',h=>by
  simp only[zld]at h
  rw [Option.bind_eq_some_iff]at h
  obtain ⟨a,h1,h⟩:=h
  rw [qI]at h
  obtain ⟨r,h2,rfl⟩:=h
  obtain ⟨h3,h4⟩:=zv4 h2
  refine ⟨by simp [h3],?_⟩
  rintro (_ | i) ob' hi
  ·simp at hi; subst hi; exact ⟨o,rfl,h1⟩
  simp at hi; obtain ⟨ob,h5,h6⟩:=h4 i ob' hi; exact ⟨ob,by simpa using h5,h6⟩
theorem zlc {S:Store} {im:Bool} {k t:Nat} {ob ob':Ob} (h:z5b S im ob=some ob'):ob.like (z5u k t ob')∧(z5u k t ob').ver=t:=by
 cases ob with
 | arr v et sz cells=>simp only[z5b]at h; rw [qI]at h; obtain ⟨_,_,rfl⟩:=h; simp [z5u,Ob.ver,Ob.like]
 | map v es=>simp only[z5b]at h; rw [qI]at h; obtain ⟨_,_,rfl⟩:=h; simp [z5u,Ob.ver,Ob.like]
 | lp _ _ _ _=>simp [z5b]at h
theorem zvr {o:List Ob} {t t':Nat} {im:Bool}:∀ {k:Nat} {p:PV},reify ⟨o,t⟩ im k p=reify ⟨o,t'⟩ im k p
 | 0,_=>rfl
 | k+1,p=>by
  have ih:reify ⟨o,t⟩ im k=reify ⟨o,t'⟩ im k:=funext fun p=>zvr
  cases p <;> simp only[reify,ih,Store.cellsOf]
theorem PN.ev {f:FuncId} {args ts:List PV} {r:PV} {obs:List Ob} {im:Bool} {S:Store} {k:Nat} (h:PN P f ts r obs im) (h1:args.mapM (reify S true k)=some ts)
  (h2:im=false∨args.mapM (reify ⟨[],0⟩ true k)=some ts) :
  Ev P f args S fun v S'=>v=up S.obs.length S.tick 10 r∧S'=⟨S.obs++obs.map (z5u S.obs.length S.tick),S.tick+1⟩:=by
 refine ⟨h.ent,fun F G w cargs hS hi hl hv=>?_⟩
 subst hS
 -- the blocks that the call takes for data
 obtain ⟨F1,hF1,hF1',hF1s,hvi⟩:∃ F1:Nat→Prop,(∀ b,F1 b→b<w.heap.size)∧(im=true→∀ b,F1 b→F b)∧(∀ b,F b→F1 b) ∧
   (∀ (i:Nat) p c,ts[i]?=some p→cargs[i]?=some c→VI w.heap F1 p c):=by
  cases him:im with
  | false =>
   obtain ⟨m1,m2⟩:=zcl _ _ h1
   refine ⟨Foot F G true,fun b hb=>?_,by simp,fun b hb => .inl ⟨rfl,hb⟩,fun i p c q1 q2=>?_⟩
   ·rcases hb with ⟨_,hb⟩ | ⟨o,x,hx,rfl⟩
    ·exact hi.fr b hb
    exact hi.blk_lt hx
   obtain ⟨x,x1,x2⟩:=m2 i p q1
   exact zdp hi (hv i x c x1 q2) x2
  | true =>
   have h2':=h2.resolve_left (by simp [him])
   obtain ⟨m1,m2⟩:=zcl _ _ h2'
   obtain ⟨i1,n1⟩:=zfe hi 0
   refine ⟨F,fun b hb=>hi.fr b hb,fun _ _ h=>h,fun _ h=>h,fun i p c q1 q2=>?_⟩
   obtain ⟨x,x1,x2⟩:=m2 i p q1
   have e0:(G.take 0).er=⟨[],G.tick⟩:=by simp [GSt.take,GSt.er]
   have:=zdp (im:=true) (k:=k) i1 ((hv i x c x1 q2).next hi n1) (by rw [e0,zvr (t':=0)]; exact x2)
   refine this.mono ?_ (fun _ _=>rfl)
   rintro b (⟨_,hb⟩ | ⟨o,y,hy,_⟩)
   ·exact hb
   simp [GSt.take]at hy
 have hlen:args.length=ts.length:=(zcl _ _ h1).1
 have hi1:Inv F1 ⟨[],0⟩ w:=⟨hF1,by simp,by simp,by simp,by simp,by simp,by simp⟩
 refine (h.run F1 ⟨[],0⟩ w cargs rfl hi1 (by omega) fun i p c q1 q2 => .imm _ _ (hvi i p c q1 q2)).mono ?_
 rintro en w' ⟨v,cv,F',G0,rfl,⟨kk,j1,j2⟩,i2,n2,r2⟩
 obtain ⟨i3,n3⟩:=zfe i2 kk
 rw [← zj5]at j1 j2
 have n4:=n2.trans n3
 have r3:=r2.next i2 n3
 generalize G0.take kk=G' at j1 j2 i3 n4 r3
 clear i2 n2 n3 r2
 obtain ⟨l1,l2⟩:=zv4 j2
 have hlG:G'.obs.length=obs.length:=by rw [← l1]; simp [GSt.er]
 let N:List (Ob × Lc):=List.zipWith (fun ob (x:Ob × Lc)=>(z5u G.obs.length G.tick ob,x.2)) obs G'.obs
 let G2:GSt:=⟨G.obs++N,G.tick+1⟩
 have hN:∀ (o:Nat) ob l,N[o]?=some (ob,l)→∃ ob0 ob',G'.obs[o]?=some (ob0,l)∧z5b G'.er im ob0=some ob'∧ob=z5u G.obs.length G.tick ob':=by
  intro o ob l ho
  simp only[N,List.getElem?_zipWith]at ho
  cases ha:obs[o]? with
  | none=>rw [ha]at ho; simp at ho
  | some q =>
   cases hb:G'.obs[o]? with
   | none=>rw [ha,hb]at ho; simp at ho
   | some x =>
    rw [ha,hb]at ho
    simp at ho
    obtain ⟨rfl,rfl⟩:=ho
    obtain ⟨ob0,k1,k2⟩:=l2 o q ha
    simp only[GSt.er,List.getElem?_map,hb,qO,Option.some.injEq]at k1
    exact ⟨x.1,q,rfl,k1 ▸ k2,rfl⟩
 have lo:∀ o,o<G.obs.length→G2.obs[o]?=G.obs[o]?:=fun o ho=>by simp only[G2]; rw [List.getElem?_append_left ho]
 have hi':∀ o,G.obs.length≤o→G2.obs[o]?=N[o - G.obs.length]?:=fun o ho=>by simp only[G2]; rw [List.getElem?_append_right ho]
 have beh:Beh G' G2 G.obs.length G.tick:=by
  refine ⟨Nat.lt_succ_self _,fun o ob l ho=>?_⟩
  rw [hi' _ (by omega),Nat.add_sub_cancel]at ho
  obtain ⟨ob0,ob',h3,h4,rfl⟩:=hN o ob l ho
  exact ⟨ob0,h3,(zlc h4).1,(zlc h4).2⟩
 let F2:Nat→Prop:=fun b=>F b∨(w.heap.size≤b∧F' b)
 have hFF:im=true→∀ b,F' b→F2 b:=by
  intro him b hb
  rcases n4.fnew b hb with h3 | h3 | ⟨o,x,hx,_⟩
  ·exact .inl (hF1' him b h3)
  ·exact .inr ⟨h3,hb⟩
  simp at hx
 have newb:∀ (o:Nat) x,G'.obs[o]?=some x→w.heap.size≤x.2.blk:=by
  intro o x hx
  rcases n4.gnew o x hx with h3 | ⟨o',y,hy,_⟩
  ·exact h3
  simp at hy
 have nx:Next F G w F2 G2 w':=by
  refine ⟨n4.os,n4.tape,n4.output,n4.size,fun b hb => .inl hb,?_,?_,Nat.le_succ _,fun b hb _=>n4.keep b hb (by simp),?_,n4.drawn⟩
  ·rintro b (hb | ⟨hb,_⟩)
   ·exact .inl hb
   exact .inr (.inl hb)
  ·rintro o ⟨ob,l⟩ hx
   by_cases ho:o<G.obs.length
   ·rw [lo o ho]at hx; exact .inr ⟨o,_,hx,rfl⟩
   rw [hi' o (by omega)]at hx
   obtain ⟨ob0,ob',h3,_⟩:=hN _ _ _ hx
   have:=newb _ _ h3
   exact .inl this
  intro o ob' l' hx hver
  by_cases ho:o<G.obs.length
  ·rw [lo o ho]at hx; exact ⟨ob',hx,rfl,Ob.like.refl _⟩
  rw [hi' o (by omega)]at hx
  obtain ⟨ob0,ob2,h3,h4,rfl⟩:=hN _ _ _ hx
  rw [(zlc h4).2]at hver
  omega
 refine ⟨_,cv,F2,G2,rfl,⟨rfl,?_⟩,zjf ?_ ?_ ?_ ?_ ?_,nx,by
  have hlo:G.er.obs.length=G.obs.length:=by simp [GSt.er]
  rw [hlo]; exact zle beh hFF r3 j1⟩
 ·have hlo:G.er.obs.length=G.obs.length:=by simp [GSt.er]
  have htk:G.er.tick=G.tick:=rfl
  rw [hlo,htk]
  simp only[GSt.er,G2,List.map_append,Store.mk.injEq,and_true]
  congr 1
  apply List.ext_getElem
  ·simp [N,hlG]
  intro i a b; simp [N]
 ·rintro b (hb | ⟨_,hb⟩)
  ·exact Nat.lt_of_lt_of_le (hi.fr b hb) n4.size
  exact i3.fr b hb
 ·intro o ob l hx
  by_cases ho:o<G.obs.length
  ·rw [lo o ho]at hx; exact Nat.lt_succ_of_lt (hi.ver o ob l hx)
  rw [hi' o (by omega)]at hx
  obtain ⟨ob0,ob2,h3,h4,rfl⟩:=hN _ _ _ hx
  rw [(zlc h4).2]; exact Nat.lt_succ_self _
 ·rintro o ob l hx (hF | ⟨hs,hF⟩)
  ·by_cases ho:o<G.obs.length
   ·rw [lo o ho]at hx; exact hi.nF o ob l hx hF
   rw [hi' o (by omega)]at hx
   obtain ⟨ob0,ob2,h3,_⟩:=hN _ _ _ hx
   have h5:=newb _ _ h3
   have h6:=hi.fr _ hF
   simp only at h5
   omega
  by_cases ho:o<G.obs.length
  ·rw [lo o ho]at hx
   have:=hi.blk_lt hx
   simp only at this; omega
  rw [hi' o (by omega)]at hx
  obtain ⟨ob0,ob2,h3,_⟩:=hN _ _ _ hx
  exact i3.nF _ _ _ h3 hF
 ·intro o ob l hx
  by_cases ho:o<G.obs.length
  ·rw [lo o ho]at hx
   exact (hi.holds hx).next hi nx (n4.keep _ (hi.blk_lt hx) (by simp))
  rw [hi' o (by omega)]at hx
  obtain ⟨ob0,ob2,h3,h4,rfl⟩:=hN _ _ _ hx
  have hh:=i3.holds h3
  cases ob0 with
  | arr ver et sz cells =>
   simp only[z5b]at h4
   rw [qI]at h4
   obtain ⟨cs2,m1,rfl⟩:=h4
   obtain ⟨cs,q1,q2,q3,q4⟩:=hh
   obtain ⟨m2,m3⟩:=zcl _ _ m1
   refine ⟨cs,q1,q2,by simp; omega,fun i p hp=>?_⟩
   rw [List.getElem?_map,qI]at hp
   obtain ⟨y,y1,rfl⟩:=hp
   obtain ⟨x,x1,x2⟩:=m3 i y y1
   obtain ⟨c1,v1,v2,v3⟩:=q4 i x x1
   exact ⟨yav x2 c1,v1,v2,zle beh hFF v3 x2⟩
  | map ver es =>
   simp only[z5b]at h4
   rw [qI]at h4
   obtain ⟨es2,m1,rfl⟩:=h4
   obtain ⟨ents,clock,q1,q2,q3⟩:=hh
   obtain ⟨m2,m3⟩:=zkr _ _ m1
   refine ⟨ents,clock,q1,by simp; omega,fun i k v hp=>?_⟩
   rw [List.getElem?_map,qI]at hp
   obtain ⟨y,y1,y2⟩:=hp
   cases y2
   obtain ⟨x,x1,x2⟩:=m3 i y y1
   obtain ⟨en,e1,e2,e3⟩:=q3 i x.1 x.2 x1
   rw [Option.bind_eq_some_iff]at x2
   obtain ⟨b1,b2,x2⟩:=x2
   rw [qI]at x2
   obtain ⟨b3,b4,x2⟩:=x2
   cases x2
   exact ⟨en,e1,zle beh hFF e2 b2,zle beh hFF e3 b4⟩
  | lp _ _ _ _=>simp [z5b]at h4
 rintro o o' ⟨ob,l⟩ ⟨ob',l'⟩ hx hx' e
 simp only at e
 by_cases ho:o<G.obs.length <;> by_cases ho':o'<G.obs.length
 ·rw [lo o ho]at hx; rw [lo o' ho']at hx'; exact hi.inj o o' _ _ hx hx' e
 ·rw [lo o ho]at hx; rw [hi' o' (by omega)]at hx'
  obtain ⟨ob0,ob2,h3,_⟩:=hN _ _ _ hx'
  have h5:=newb _ _ h3; have h6:=hi.blk_lt hx
  simp only at h5 h6; omega
 ·rw [hi' o (by omega)]at hx; rw [lo o' ho']at hx'
  obtain ⟨ob0,ob2,h3,_⟩:=hN _ _ _ hx
  have h5:=newb _ _ h3; have h6:=hi.blk_lt hx'
  simp only at h5 h6; omega
 rw [hi' o (by omega)]at hx; rw [hi' o' (by omega)]at hx'
 obtain ⟨ob0,ob2,h3,_⟩:=hN _ _ _ hx
 obtain ⟨ob0',ob2',h3',_⟩:=hN _ _ _ hx'
 have:=i3.inj _ _ _ _ h3 h3' e
 omega
theorem PN.of {f:FuncId} {fn:Func} {c:Code} (h:Fn P f fn c) (hT:zb1 P T) (hm:P.follows .mixedOrders=true) {args:List PV} {r:PV} {obs:List Ob} {im:Bool} (hn:args.length≤fn.ntmps)
  (hw:W P T c (zhi T fn.results.toList fun v S=>∃ k,sh (S.take k) im 10 v=some r∧zld (S.take k) im (S.take k).obs=some obs) (zad args) ⟨[],0⟩):PN P f args r obs im :=
 Ev.of h hT hm hn (hw.mono fun x e S hx=>by
  have key:∀ (v:PV) (S:Store),(∃ k,sh (S.take k) im 10 v=some r∧zld (S.take k) im (S.take k).obs=some obs) →
    ∃ k1 k,sh ((S.take k1).take k) im 10 v=some r∧zld ((S.take k1).take k) im ((S.take k1).take k).obs=some obs:=by
   rintro v S ⟨k,h1,h2⟩
   have e:(S.take k).take k=S.take k:=by simp [Store.take,List.take_take]
   exact ⟨k,k,by rw [e]; exact h1,by rw [e]; exact h2⟩
  cases x <;> simp only[zhi,zh1]at hx ⊢ <;> (try exact hx)
  all_goals
   split at hx
   ·exact key _ _ hx
   exact hx)
theorem Ev.pc {f:FuncId} {args:List PV} {q:PV} {fr:Bool} {J:PV→Store→Prop} (h:Ev P f args ⟨[],0⟩ J) (hJ:∀ v S,J v S→reify S (!fr) 10 v=some q):PC P f args q fr:=by
 refine ⟨h.ent,fun F w cargs hF hl hv=>?_⟩
 have hi:Inv F ⟨[],0⟩ w:=⟨hF,by simp,by simp,by simp,by simp,by simp,by simp⟩
 refine (h.run F ⟨[],0⟩ w cargs rfl hi hl fun i p c q1 q2 => .imm _ _ (hv i p c q1 q2)).mono ?_
 rintro en w' ⟨v',cv,F',G',rfl,k2,k3,k4,k5⟩
 refine ⟨cv,rfl,⟨⟨k4.os,k4.tape,k4.output,k4.size,fun b hb=>k4.keep b hb (by simp)⟩,k4.drawn⟩,(zdp k3 k5 (hJ _ _ k2)).mono ?_ (fun _ _=>rfl)⟩
 rintro b (⟨h1,h2⟩ | ⟨o,x,hx,rfl⟩)
 ·rcases k4.fnew b h2 with h3 | h3 | ⟨o,x,hx,_⟩
  ·exact .inr ⟨by simpa using h1,h3⟩
  ·exact .inl ⟨h3,k3.fr b h2⟩
  simp at hx
 rcases k4.gnew o x hx with h3 | ⟨o',y,hy,_⟩
 ·exact .inl ⟨h3,k3.blk_lt hx⟩
 simp at hy
theorem PN.pc {f:FuncId} {args:List PV} {r q:PV} {obs:List Ob} {im fr:Bool} (h:PN P f args r obs im) (h1:args.mapM (reify ⟨[],0⟩ true 10)=some args)
  (hq:reify ⟨obs.map (z5u 0 0),1⟩ (!fr) 10 (up 0 0 10 r)=some q):PC P f args q fr :=
 Ev.pc (PN.ev h h1 (.inr h1)) (by rintro _ _ ⟨rfl,rfl⟩; simpa using hq)
variable {S:Store} {d:Option Tmp} {r:List Oper} {ds:List (Option Tmp)} {K:Env→Store→Prop}
theorem zag.pn {f:FuncId} {xs ts:List PV} {v:PV} {obs:List Ob} {im:Bool} (h:PN P f ts v obs im) (h1:xs.mapM (reify S true 10)=some ts) (h2:im=false∨xs.mapM (reify ⟨[],0⟩ true 10)=some ts)
  (k:zbu false P T ds r (e.put d (up S.obs.length S.tick 10 v)) ⟨S.obs++obs.map (z5u S.obs.length S.tick),S.tick+1⟩ K):zag false P T ds f xs S d r e K :=
 zag.ev (PN.ev h h1 h2) (by rintro _ _ ⟨rfl,rfl⟩; exact k)
end
theorem z0f {k t f o v off n:Nat}:up k t (f+1) (.loc o v off n) = .loc (o+k) t off n:=rfl
theorem z9d {k t f o v off:Nat}:up k t (f+1) (.ref o v off) = .ref (o+k) t off:=rfl
theorem z9e {k t f:Nat} {cs:List PV}:up k t (f+1) (.tup cs) = .tup (cs.map (up k t f)):=rfl
theorem z0e {k t f:Nat} {q:IntKind} {n:Int}:up k t f (.int q n) = .int q n:=by cases f <;> rfl
theorem zx3 {k t f:Nat} {b:Bool}:up k t f (.bool b) = .bool b:=by cases f <;> rfl
theorem z5z {k t f:Nat} {b:List UInt8}:up k t f (.str b) = .str b:=by cases f <;> rfl
theorem z5y {k t f:Nat}:up k t f .nils = .nils:=by cases f <;> rfl
theorem z5x {k t f:Nat}:up k t f .nilp = .nilp:=by cases f <;> rfl
theorem yco {k t f n:Nat} {cs:List PV}:up k t f (.sl cs n) = .sl cs n:=by cases f <;> rfl
theorem ycm {k t f n:Nat} {cs:List PV}:up k t f (.ip cs n) = .ip cs n:=by cases f <;> rfl
theorem ztf {k t f:Nat} {q:IntKind} {l:List Int}:(l.map (PV.int q)).map (up k t f)=l.map (PV.int q):=by
 rw [List.map_map]; exact List.map_congr_left fun a _=>z0e
theorem z5w {k t f:Nat} {q:IntKind} {l:List Nat}:(l.map fun m:Nat=>PV.int q m).map (up k t f)=l.map fun m:Nat=>PV.int q m:=by
 rw [List.map_map]; exact List.map_congr_left fun a _=>z0e
theorem zx4 {k t f:Nat} {l:List (List UInt8)}:(l.map PV.str).map (up k t f)=l.map PV.str:=by
 rw [List.map_map]; exact List.map_congr_left fun a _=>z5z
theorem z0d {k t f:Nat} {l:List Bool}:(l.map PV.bool).map (up k t f)=l.map PV.bool:=by
 rw [List.map_map]; exact List.map_congr_left fun a _=>zx3
theorem zln {k t v et sz:Nat} {cells:List PV}:z5u k t (.arr v et sz cells) = .arr t et sz (cells.map (up k t 10)):=rfl
theorem RN:(type_of% @z0f)∧(type_of% @z9d)∧(type_of% @z9e)∧(type_of% @z0e)∧(type_of% @zx3)∧(type_of% @z5z)∧(type_of% @z5y)∧(type_of% @z5x)∧(type_of% @yco)∧(type_of% @ycm)∧(type_of% @ztf)∧(type_of% @z5w)∧(type_of% @zx4)∧(type_of% @z0d)∧(type_of% @zln) :=
 ⟨@z0f,@z9d,@z9e,@z0e,@zx3,@z5z,@z5y,@z5x,@yco,@ycm,@ztf,@z5w,@zx4,@z0d,@zln⟩
end
section
def rfq (S:Store) (fr:Nat→Bool):Nat→PV→Option PV
 | 0,_=>none
 | k+1,p =>
  match p with
  | .int a b=>some (.int a b)
  | .bool b=>some (.bool b)
  | .str s=>some (.str s)
  | .nilp=>some .nilp
  | .nilf=>some .nilf
  | .yl l=>some (.yl l)
  | .nilm=>some .nilm
  | .nils=>some .nils
  | .agg cs=>(cs.mapM (rfq S fr k)).map .agg
  | .tup cs=>(cs.mapM (rfq S fr k)).map .tup
  | .fn f cs=>(cs.mapM (rfq S fr k)).map (.fn f)
  | .sl cs n=>some (.sl cs n)
  | .ip cs off=>some (.ip cs off)
  | .bm f b=>some (.bm f b)
  | .loc o ver off n =>
   match S.obs[o]? with
   | some (.arr v _ sz cells)=>if fr o=true∧v=ver∧off+n*sz≤cells.length then (((cells.drop off).take (n*sz)).mapM (rfq S fr k)).map (.sl · n) else none
   | _=>none
  | .ref o ver off=>if fr o=true then (S.cellsOf o ver).bind fun cells=>(cells.mapM (rfq S fr k)).map (.ip · off) else none
  | _=>none
section
variable {P:Program} {T:Tab} {F:Nat→Prop} {G:GSt} {w:World} {e:Env} {a:Act}
def zr0 (F:Nat→Prop) (G:GSt) (fr:Nat→Bool) (b:Nat):Prop:=F b∨∃ (o:Nat) (x:Ob × Lc),fr o=true∧G.obs[o]?=some x∧x.2.blk=b
theorem zn5 {S:Store} {fr:Nat→Bool}:∀ {k:Nat} {p t:PV},rfq S fr k p=some t→p.isCell=true→t.isCell=true
 | 0,p,t,h,_=>by simp [rfq]at h
 | k+1,p,t,h,hp=>by
  cases p <;> simp only[rfq]at h <;> first
   | (cases h; rfl)
   | (simp [PV.isCell]at hp; done)
   | (cases h; done)
   | (split at h <;> first | (cases h; rfl) | (cases h; done) | (split at h <;> first | (cases h; done) | (rw [qI]at h; obtain ⟨_,_,rfl⟩:=h; rfl)))
   | (rw [qI]at h; obtain ⟨_,_,rfl⟩:=h; rfl)
   | (split at h <;> first | (cases h; done) | (rw [Option.bind_eq_some_iff]at h; obtain ⟨_,_,h⟩:=h; rw [qI]at h; obtain ⟨_,_,rfl⟩:=h; rfl))
theorem zpk (hi:Inv F G w) {fr:Nat→Bool}:∀ {k:Nat} {p t:PV} {cv:Value},VR w.heap F G p cv→rfq G.er fr k p=some t→VI w.heap (zr0 F G fr) t cv
 | 0,p,t,cv,_,h=>by simp [rfq]at h
 | k+1,p,t,cv,hv,h=>by
  have cellsVI:∀ {b off:Nat} {cs ts:List PV},zc6 w.heap F G b off cs→cs.mapM (rfq G.er fr k)=some ts →
    ∃ g:Nat→Value,(∀ (i:Nat) p,ts[i]?=some p→p.isCell=true∧zgz w.heap b (off+i)=some (g i))∧∀ (i:Nat) p,ts[i]?=some p→VI w.heap (zr0 F G fr) p (g i):=by
   intro b off cs ts hc hm
   obtain ⟨h1,h2⟩:=zcl _ _ hm
   refine ⟨fun i=>(zgz w.heap b (off+i)).getD undef,fun i p hp=>?_,fun i p hp=>?_⟩
   ·obtain ⟨x,h3,h4⟩:=h2 i p hp
    obtain ⟨h5,v,h6,h7⟩:=hc i x h3
    exact ⟨zn5 h4 h5,by simp [h6]⟩
   obtain ⟨x,h3,h4⟩:=h2 i p hp
   obtain ⟨h5,v,h6,h7⟩:=hc i x h3
   simp only[h6]
   exact zpk hi h7 h4
  have rowVI:∀ {cs ts:List PV} {vs:Array Value},cs.length=vs.size→(∀ (i:Nat) p v,cs[i]?=some p→vs[i]?=some v→VR w.heap F G p v)→cs.mapM (rfq G.er fr k)=some ts →
    ts.length=vs.size∧∀ (i:Nat) p v,ts[i]?=some p→vs[i]?=some v→VI w.heap (zr0 F G fr) p v:=by
   intro cs ts vs hl hp hm
   obtain ⟨h1,h2⟩:=zcl _ _ hm
   refine ⟨by omega,fun i p v q1 q2=>?_⟩
   obtain ⟨x,h3,h4⟩:=h2 i p q1
   exact zpk hi (hp i x v h3 q2) h4
  cases p with
  | int q n=>simp only[rfq]at h; cases h; rw [hv.int]; exact .int _ _
  | bool b=>simp only[rfq]at h; cases h; rw [hv.bool]; exact .bool _
  | str s=>simp only[rfq]at h; cases h; obtain ⟨b,rfl,hb⟩:=hv.str; exact .str _ _ hb
  | nilp=>simp only[rfq]at h; cases h; cases hv with | imm _ _ hv=>cases hv; exact .nilp
  | nilf=>simp only[rfq]at h; cases h; cases hv with | imm _ _ hv=>cases hv; exact .nilf
  | yl l=>simp only[rfq]at h; cases h; cases hv with | imm _ _ hv=>cases hv; exact .yl _
  | nilm=>simp only[rfq]at h; cases h; cases hv with | imm _ _ hv=>cases hv; exact .nilm
  | nils=>simp only[rfq]at h; cases h; cases hv with | imm _ _ hv=>cases hv; exact .nils
  | agg cs =>
   simp only[rfq]at h
   rw [qI]at h
   obtain ⟨ts,h1,rfl⟩:=h
   obtain ⟨vs,rfl,h2,h3⟩:=hv.agg'
   obtain ⟨h4,h5⟩:=rowVI h2 h3 h1
   exact .agg _ _ h4 h5
  | tup cs =>
   simp only[rfq]at h
   rw [qI]at h
   obtain ⟨ts,h1,rfl⟩:=h
   obtain ⟨vs,rfl,h2,h3⟩:=hv.tup'
   obtain ⟨h4,h5⟩:=rowVI h2 h3 h1
   exact .tup _ _ h4 h5
  | fn f cs =>
   simp only[rfq]at h
   rw [qI]at h
   obtain ⟨ts,h1,rfl⟩:=h
   have:∃ vs:Array Value,cv = .func (.func f) #[] vs∧cs.length=vs.size∧∀ (i:Nat) p v,cs[i]?=some p→vs[i]?=some v→VR w.heap F G p v:=by
    cases hv with
    | imm _ _ hv=>cases hv with | fn _ _ vs h2 h3=>exact ⟨vs,rfl,h2,fun i p v a b => .imm _ _ (h3 i p v a b)⟩
    | fn _ _ vs h2 h3=>exact ⟨vs,rfl,h2,h3⟩
   obtain ⟨vs,rfl,h2,h3⟩:=this
   obtain ⟨h4,h5⟩:=rowVI h2 h3 h1
   exact .fn _ _ _ h4 h5
  | sl cs n =>
   simp only[rfq]at h
   cases h
   cases hv with
   | imm _ _ hv=>exact hv.mono (fun b hb => .inl hb) (fun _ _=>rfl)
  | ip cs off =>
   simp only[rfq]at h
   cases h
   cases hv with
   | imm _ _ hv=>exact hv.mono (fun b hb => .inl hb) (fun _ _=>rfl)
  | bm f b =>
   simp only[rfq]at h
   cases h
   cases hv with
   | imm _ _ hv=>exact hv.mono (fun b hb => .inl hb) (fun _ _=>rfl)
  | loc o ver off n =>
   simp only[rfq]at h
   split at h
   ·rename_i v et sz cells hob
    split at h
    ·rename_i hc
     obtain ⟨hlo,rfl,hle⟩:=hc
     rw [qI]at h
     obtain ⟨ts,h1,rfl⟩:=h
     obtain ⟨_,_,l,cap,ho,rfl,_,hn,_⟩:=hv.loc_at hi (cells:=cells) (by simp [Store.cellsOf,hob])
     obtain ⟨l',hG⟩:=zfa hob
     rw [hG]at ho
     cases ho
     have hc2:zc6 w.heap F G l.blk off ((cells.drop off).take (n*sz)):=by
      have:=((hi.cellsAt hG).drop off).take (n*sz)
      rwa [Nat.zero_add]at this
     obtain ⟨g,g1,g2⟩:=cellsVI hc2 h1
     exact .sl _ _ _ _ _ g (fun _ => .inr ⟨o,_,hlo,hG,rfl⟩) hn g1 g2
    cases h
   cases h
  | ref o ver off =>
   simp only[rfq]at h
   split at h
   case isFalse=>cases h
   rename_i hlo
   rw [Option.bind_eq_some_iff]at h
   obtain ⟨cells,hc,h⟩:=h
   rw [qI]at h
   obtain ⟨ts,h1,rfl⟩:=h
   obtain ⟨et,sz,l,hG,rfl,_⟩:=hv.ref_at hi hc
   obtain ⟨g,g1,g2⟩:=cellsVI (hi.cellsAt hG) h1
   have:=VI.ip (F:=zr0 F G fr) ts off l.blk 0 g (fun _ => .inr ⟨o,_,hlo,hG,rfl⟩) g1 g2
   rwa [Nat.zero_add]at this
  | mp o ver=>simp only[rfq]at h; cases h
  | undef=>simp only[rfq]at h; cases h
def zc9 (k:Nat) (sel:List Nat) (o:Nat):Bool:=decide (k≤o) && !sel.contains o
def rn (S:Store) (k:Nat) (sel:List Nat):Nat→PV→Option PV
 | 0,_=>none
 | f+1,p =>
  match p with
  | .agg cs=>(cs.mapM (rn S k sel f)).map .agg
  | .tup cs=>(cs.mapM (rn S k sel f)).map .tup
  | .fn g cs=>(cs.mapM (rn S k sel f)).map (.fn g)
  | .loc o ver off n =>
   if o<k then some (.loc o ver off n) else
   if sel.contains o then (match S.obs[o]? with | some (.arr v _ _ _)=>if v=ver then some (.loc (k+sel.idxOf o) S.tick off n) else none | _=>none)
   else rfq S (zc9 k sel) 10 (.loc o ver off n)
  | .ref o ver off =>
   if o<k then some (.ref o ver off) else
   if sel.contains o then (match S.obs[o]? with | some (.arr v _ _ _)=>if v=ver then some (.ref (k+sel.idxOf o) S.tick off) else none | _=>none)
   else rfq S (zc9 k sel) 10 (.ref o ver off)
  | .mp o ver =>
   if o<k then some (.mp o ver) else
   if sel.contains o then (match S.obs[o]? with | some (.map v _)=>if v=ver then some (.mp (k+sel.idxOf o) S.tick) else none | _=>none)
   else none
  | .undef=>some .undef
  | p=>rfq S (zc9 k sel) 10 p
def zxn (S:Store) (k:Nat) (sel:List Nat) (old:Bool):Ob→Option Ob
 | .arr ver et sz cells=>(cells.mapM (rn S k sel 10)).map (.arr (if old then ver else S.tick) et sz ·)
 | .map ver es=>(es.mapM fun q=>(rn S k sel 10 q.1).bind fun a=>(rn S k sel 10 q.2).map fun b=>(a,b)).map (.map (if old then ver else S.tick) ·)
 | .lp ver l r tmps=>(tmps.mapM (rn S k sel 10)).map (.lp (if old then ver else S.tick) l r ·)
def zjx (S:Store) (k:Nat) (sel:List Nat) (old:Bool):List Nat→Option (List Ob)
 | []=>some []
 | o::r=>((S.obs[o]?).bind (zxn S k sel old)).bind fun a=>(zjx S k sel old r).map (a :: ·)
def Store.rn (S:Store) (k:Nat) (sel:List Nat):Option Store :=
 if sel.all (fun o=>decide (k≤o)) && decide sel.Nodup && decide (k≤S.obs.length) then
  (zjx S k sel true (List.range k)).bind fun a=>(zjx S k sel false sel).map fun b=>⟨a++b,S.tick+1⟩
 else none
theorem zu0:∀ {l:List Nat},l.Nodup→∀ {i j:Nat} (hi:i<l.length) (hj:j<l.length),l[i]=l[j]→i=j
 | [],_,i,_,hi,_,_=>absurd hi (by simp)
 | a::l,h,0,0,_,_,_=>rfl
 | a::l,h,0,j+1,_,hj,e=>by
  rw [List.nodup_cons]at h
  simp only[List.getElem_cons_zero,List.getElem_cons_succ]at e
  exact absurd (e ▸ List.getElem_mem _) h.1
 | a::l,h,i+1,0,hi,_,e=>by
  rw [List.nodup_cons]at h
  simp only[List.getElem_cons_zero,List.getElem_cons_succ]at e
  exact absurd (e ▸ List.getElem_mem _) h.1
 | a::l,h,i+1,j+1,hi,hj,e=>by
  rw [List.nodup_cons]at h
  simp only[List.getElem_cons_succ]at e
  rw [zu0 h.2 (by simpa using hi) (by simpa using hj) e]
theorem zpn {S:Store} {k:Nat} {sel:List Nat} {old:Bool}:∀ {l:List Nat} {l':List Ob},zjx S k sel old l=some l'→l.length=l'.length ∧
  ∀ (i:Nat) ob',l'[i]?=some ob'→∃ o ob,l[i]?=some o∧S.obs[o]?=some ob∧zxn S k sel old ob=some ob'
 | [],l',h=>by simp [zjx]at h; subst h; simp
 | o::l,l',h=>by
  simp only[zjx]at h
  rw [Option.bind_eq_some_iff]at h
  obtain ⟨a,h1,h⟩:=h
  rw [Option.bind_eq_some_iff]at h1
  obtain ⟨ob,h0,h1⟩:=h1
  rw [qI]at h
  obtain ⟨r,h2,rfl⟩:=h
  obtain ⟨h3,h4⟩:=zpn h2
  refine ⟨by simp [h3],?_⟩
  rintro (_ | i) ob' hi
  ·simp at hi; subst hi; exact ⟨o,ob,rfl,h0,h1⟩
  simp at hi; obtain ⟨o2,ob2,h5,h6⟩:=h4 i ob' hi; exact ⟨o2,ob2,by simpa using h5,h6⟩
theorem zpm {S:Store} {k:Nat} {sel:List Nat} {old:Bool} {ob ob':Ob} (h:zxn S k sel old ob=some ob'):ob.like ob'∧ob'.ver=if old then ob.ver else S.tick:=by
 cases ob with
 | arr v et sz cells=>simp only[zxn]at h; rw [qI]at h; obtain ⟨_,_,rfl⟩:=h; simp [Ob.ver,Ob.like]
 | map v es=>simp only[zxn]at h; rw [qI]at h; obtain ⟨_,_,rfl⟩:=h; simp [Ob.ver,Ob.like]
 | lp _ _ _ _=>simp only[zxn]at h; rw [qI]at h; obtain ⟨_,_,rfl⟩:=h; simp [Ob.ver,Ob.like]
theorem yam {S:Store} {k:Nat} {sel:List Nat}:∀ {f:Nat} {p t:PV},rn S k sel f p=some t→p.isCell=true→t.isCell=true
 | 0,p,t,h,_=>by simp [rn]at h
 | f+1,p,t,h,hp=>by
  cases p with
  | agg cs=>simp [PV.isCell]at hp
  | tup cs=>simp [PV.isCell]at hp
  | undef=>simp [PV.isCell]at hp
  | fn f cs=>simp only[rn]at h; rw [qI]at h; obtain ⟨_,_,rfl⟩:=h; rfl
  | loc o ver off n =>
   simp only[rn]at h
   split at h
   ·cases h; rfl
   split at h
   ·split at h
    ·split at h
     ·cases h; rfl
     cases h
    cases h
   exact zn5 h hp
  | ref o ver off =>
   simp only[rn]at h
   split at h
   ·cases h; rfl
   split at h
   ·split at h
    ·split at h
     ·cases h; rfl
     cases h
    cases h
   exact zn5 h hp
  | mp o ver =>
   simp only[rn]at h
   split at h
   ·cases h; rfl
   split at h
   ·split at h
    ·split at h
     ·cases h; rfl
     cases h
    cases h
   cases h
  | _=>simp only[rn]at h; exact zn5 h hp
structure Sel (G G':GSt) (k:Nat) (sel:List Nat):Prop where
 tick:G.tick<G'.tick
 get:∀ (o:Nat),sel.contains o=true→∀ ob l,G'.obs[k+sel.idxOf o]?=some (ob,l)→∃ ob',G.obs[o]?=some (ob',l)∧ob'.like ob∧ob.ver=G.tick
theorem zsy (hi:Inv F G w) {k:Nat} {sel:List Nat} {F':Nat→Prop} {G':GSt} (hF:∀ b,zr0 F G (zc9 k sel) b→F' b) (hn:Next F G w F' G' w) (hs:Sel G G' k sel) :
  ∀ {f:Nat} {p t:PV} {cv:Value},VR w.heap F G p cv→rn G.er k sel f p=some t→VR w.heap F' G' t cv
 | 0,p,t,cv,_,h=>by simp [rn]at h
 | f+1,p,t,cv,hv,h=>by
  have rowVR:∀ {cs ts:List PV} {vs:Array Value},cs.length=vs.size→(∀ (i:Nat) p v,cs[i]?=some p→vs[i]?=some v→VR w.heap F G p v)→cs.mapM (rn G.er k sel f)=some ts →
    ts.length=vs.size∧∀ (i:Nat) p v,ts[i]?=some p→vs[i]?=some v→VR w.heap F' G' p v:=by
   intro cs ts vs hl hp hm
   obtain ⟨h1,h2⟩:=zcl _ _ hm
   refine ⟨by omega,fun i p v q1 q2=>?_⟩
   obtain ⟨x,h3,h4⟩:=h2 i p q1
   exact zsy hi hF hn hs (hp i x v h3 q2) h4
  have data:∀ {p:PV},VR w.heap F G p cv→rfq G.er (zc9 k sel) 10 p=some t→VR w.heap F' G' t cv:=fun hv h => .imm _ _ ((zpk hi hv h).mono hF fun _ _=>rfl)
  cases p with
  | agg cs =>
   simp only[rn]at h
   rw [qI]at h
   obtain ⟨ts,h1,rfl⟩:=h
   obtain ⟨vs,rfl,h2,h3⟩:=hv.agg'
   obtain ⟨h4,h5⟩:=rowVR h2 h3 h1
   exact .agg _ _ h4 h5
  | tup cs =>
   simp only[rn]at h
   rw [qI]at h
   obtain ⟨ts,h1,rfl⟩:=h
   obtain ⟨vs,rfl,h2,h3⟩:=hv.tup'
   obtain ⟨h4,h5⟩:=rowVR h2 h3 h1
   exact .tup _ _ h4 h5
  | fn g cs =>
   simp only[rn]at h
   rw [qI]at h
   obtain ⟨ts,h1,rfl⟩:=h
   have:∃ vs:Array Value,cv = .func (.func g) #[] vs∧cs.length=vs.size∧∀ (i:Nat) p v,cs[i]?=some p→vs[i]?=some v→VR w.heap F G p v:=by
    cases hv with
    | imm _ _ hv=>cases hv with | fn _ _ vs h2 h3=>exact ⟨vs,rfl,h2,fun i p v a b => .imm _ _ (h3 i p v a b)⟩
    | fn _ _ vs h2 h3=>exact ⟨vs,rfl,h2,h3⟩
   obtain ⟨vs,rfl,h2,h3⟩:=this
   obtain ⟨h4,h5⟩:=rowVR h2 h3 h1
   exact .fn _ _ _ h4 h5
  | loc o ver off n =>
   simp only[rn]at h
   split at h
   ·cases h; exact hv.next hi hn
   split at h
   case isFalse=>exact data hv h
   rename_i hc
   split at h
   case h_2=>cases h
   rename_i v et sz cells hob
   split at h
   case isFalse=>cases h
   rename_i hver
   cases h
   cases hv with
   | imm _ _ hv=>cases hv
   | loc _ _ _ _ a len cap hv k' =>
    refine .loc _ _ _ _ a len cap hs.tick fun ob l hg he=>?_
    obtain ⟨ob',h1,h2,h3⟩:=hs.get o hc ob l hg
    have hob':ob' = .arr v et sz cells:=by
     have:G.er.obs[o]?=some ob':=by simp [GSt.er,h1]
     rw [hob]at this; cases this; rfl
    subst hob'
    obtain ⟨et2,sz2,cells2,q1,q2⟩:=k' _ l h1 (by simp only[Ob.ver]; exact hver)
    cases q1
    cases ob with
    | arr v3 et3 sz3 cells3 =>
     simp only[Ob.like]at h2
     obtain ⟨rfl,rfl⟩:=h2
     exact ⟨_,_,cells3,by simp only[Ob.ver]at h3; rw [h3]; rfl,q2⟩
    | map v3 es=>exact h2.elim
    | lp _ _ _ _=>exact h2.elim
  | ref o ver off =>
   simp only[rn]at h
   split at h
   ·cases h; exact hv.next hi hn
   split at h
   case isFalse=>exact data hv h
   rename_i hc
   split at h
   case h_2=>cases h
   rename_i v et sz cells hob
   split at h
   case isFalse=>cases h
   rename_i hver
   cases h
   cases hv with
   | imm _ _ hv=>cases hv
   | ref _ _ _ a hv k' =>
    refine .ref _ _ _ a hs.tick fun ob l hg he=>?_
    obtain ⟨ob',h1,h2,h3⟩:=hs.get o hc ob l hg
    have hob':ob' = .arr v et sz cells:=by
     have:G.er.obs[o]?=some ob':=by simp [GSt.er,h1]
     rw [hob]at this; cases this; rfl
    subst hob'
    obtain ⟨et2,sz2,cells2,q1,q2⟩:=k' _ l h1 (by simp only[Ob.ver]; exact hver)
    cases q1
    cases ob with
    | arr v3 et3 sz3 cells3 =>
     simp only[Ob.like]at h2
     obtain ⟨rfl,rfl⟩:=h2
     exact ⟨_,_,cells3,by simp only[Ob.ver]at h3; rw [h3]; rfl,q2⟩
    | map v3 es=>exact h2.elim
    | lp _ _ _ _=>exact h2.elim
  | mp o ver =>
   simp only[rn]at h
   split at h
   ·cases h; exact hv.next hi hn
   split at h
   case isFalse=>cases h
   rename_i hc
   split at h
   case h_2=>cases h
   rename_i v es hob
   split at h
   case isFalse=>cases h
   rename_i hver
   cases h
   cases hv with
   | imm _ _ hv=>cases hv
   | mp _ _ r hv k' =>
    refine .mp _ _ r hs.tick fun ob l hg he=>?_
    obtain ⟨ob',h1,h2,h3⟩:=hs.get o hc ob l hg
    have hob':ob' = .map v es:=by
     have:G.er.obs[o]?=some ob':=by simp [GSt.er,h1]
     rw [hob]at this; cases this; rfl
    subst hob'
    obtain ⟨es2,q1,q2⟩:=k' _ l h1 (by simp only[Ob.ver]; exact hver)
    cases q1
    cases ob with
    | arr v3 et3 sz3 cells3=>exact h2.elim
    | map v3 es3=>exact ⟨es3,by simp only[Ob.ver]at h3; rw [h3]; rfl,q2⟩
    | lp _ _ _ _=>exact h2.elim
  | undef=>simp only[rn]at h; cases h; exact .imm _ _ (.undef _)
  | _=>simp only[rn]at h; exact data hv h
theorem yap (hi:Inv F G w) {k:Nat} {sel:List Nat} {S':Store} (h:G.er.rn k sel=some S') :
  ∃ G',G'.er=S'∧Inv (zr0 F G (zc9 k sel)) G' w∧Next F G w (zr0 F G (zc9 k sel)) G' w∧Sel G G' k sel:=by
 unfold Store.rn at h
 split at h
 case isFalse=>cases h
 rename_i hc
 simp only[qB,List.all_eq_true,decide_eq_true_eq]at hc
 obtain ⟨⟨hge,hnd⟩,hkl⟩:=hc
 rw [Option.bind_eq_some_iff]at h
 obtain ⟨A,hA,h⟩:=h
 rw [qI]at h
 obtain ⟨B,hB,rfl⟩:=h
 obtain ⟨a1,a2⟩:=zpn hA
 obtain ⟨b1,b2⟩:=zpn hB
 rw [List.length_range]at a1
 have hlen:G.er.obs.length=G.obs.length:=by simp [GSt.er]
 rw [hlen]at hkl
 have er_get':∀ {o:Nat} {ob:Ob},G.er.obs[o]?=some ob→∃ l,G.obs[o]?=some (ob,l):=fun h=>zfa h
 -- where the objects lie
 let lcOf:Nat→Lc:=fun i=>((G.obs[if i<k then i else sel.getD (i - k) 0]?).map (·.2)).getD ⟨0,0⟩
 let G':GSt:=⟨(A++B).zipIdx.map fun q=>(q.1,lcOf q.2),G.tick+1⟩
 have hget:∀ (i:Nat) ob' l,G'.obs[i]?=some (ob',l)→∃ o ob,(if i<k then i else sel.getD (i - k) 0)=o∧(i<k∨sel[i - k]?=some o)∧G.obs[o]?=some (ob,l)∧zxn G.er k sel (decide (i<k)) ob=some ob':=by
  intro i ob' l hx
  simp only[G',List.getElem?_map,qI,List.getElem?_zipIdx]at hx
  obtain ⟨q,⟨ob2,hq,rfl⟩,e⟩:=hx
  simp only[Nat.zero_add,Prod.mk.injEq]at e
  obtain ⟨rfl,e⟩:=e
  by_cases hik:i<k
  ·rw [List.getElem?_append_left (by omega)]at hq
   obtain ⟨o,ob,h1,h2,h3⟩:=a2 i _ hq
   rw [List.getElem?_range hik]at h1
   cases h1
   obtain ⟨l2,h4⟩:=er_get' h2
   have:lcOf i=l2:=by simp [lcOf,hik,h4]
   rw [this]at e; subst e
   exact ⟨i,ob,by simp [hik],.inl hik,h4,by simpa [hik] using h3⟩
  rw [List.getElem?_append_right (by omega),← a1]at hq
  obtain ⟨o,ob,h1,h2,h3⟩:=b2 _ _ hq
  obtain ⟨l2,h4⟩:=er_get' h2
  have hsel:sel.getD (i - k) 0=o:=by simp [List.getD_eq_getElem?_getD,h1]
  have:lcOf i=l2:=by simp only[lcOf,if_neg hik,hsel,h4]; rfl
  rw [this]at e; subst e
  exact ⟨o,ob,by rw [if_neg hik,hsel],.inr h1,h4,by simpa [hik] using h3⟩
 have hn:Next F G w (zr0 F G (zc9 k sel)) G' w:=by
  refine ⟨rfl,rfl,rfl,qR _,fun b hb => .inl hb,?_,?_,Nat.le_succ _,fun _ _ _=>rfl,?_,qR _⟩
  ·rintro b (hb | ⟨o,x,_,hx,rfl⟩)
   ·exact .inl hb
   exact .inr (.inr ⟨o,x,hx,rfl⟩)
  ·rintro i ⟨ob',l⟩ hx
   obtain ⟨o,ob,_,_,h4,_⟩:=hget i ob' l hx
   exact .inr ⟨o,_,h4,rfl⟩
  intro i ob' l hx hver
  obtain ⟨o,ob,h1,h2,h4,h5⟩:=hget i ob' l hx
  obtain ⟨h6,h7⟩:=zpm h5
  by_cases hik:i<k
  ·rw [if_pos hik]at h1; subst h1
   simp only[hik,decide_true,if_true]at h7
   exact ⟨ob,h4,h7.symm,h6⟩
  simp only[hik,decide_false,qF,if_false]at h7
  have:G.er.tick=G.tick:=rfl
  omega
 have hs:Sel G G' k sel:=by
  refine ⟨Nat.lt_succ_self _,fun o hc ob l hx=>?_⟩
  obtain ⟨o2,ob2,h1,h2,h4,h5⟩:=hget _ ob l hx
  have hnk:¬ k+sel.idxOf o<k:=by omega
  rcases h2 with h2 | h2
  ·exact absurd h2 hnk
  rw [Nat.add_sub_cancel_left]at h2
  have hmem:o∈sel:=by simpa using hc
  have hlt:=List.idxOf_lt_length_of_mem hmem
  rw [List.getElem?_eq_getElem hlt,List.getElem_idxOf hlt]at h2
  cases h2
  obtain ⟨h6,h7⟩:=zpm h5
  simp only[hnk,decide_false,qF,if_false]at h7
  exact ⟨ob2,h4,h6,h7⟩
 have hsound:∀ {f:Nat} {p t:PV} {cv:Value},VR w.heap F G p cv→rn G.er k sel f p=some t→VR w.heap (zr0 F G (zc9 k sel)) G' t cv:=fun hv h=>zsy hi (fun _ h=>h) hn hs hv h
 refine ⟨G',?_,zjf ?_ ?_ ?_ ?_ ?_,hn,hs⟩
 ·simp only[GSt.er,G',Store.mk.injEq,and_true]
  apply List.ext_getElem
  ·simp
  intro i a b; simp
 ·rintro b (hb | ⟨o,x,_,hx,rfl⟩)
  ·exact hi.fr b hb
  exact hi.blk_lt hx
 ·intro i ob' l hx
  obtain ⟨o,ob,h1,h2,h4,h5⟩:=hget i ob' l hx
  obtain ⟨h6,h7⟩:=zpm h5
  have h8:=hi.ver o ob l h4
  have:G.er.tick=G.tick:=rfl
  show ob'.ver<G.tick+1
  rw [h7]; split <;> omega
 ·intro i ob' l hx hb
  obtain ⟨o,ob,h1,h2,h4,h5⟩:=hget i ob' l hx
  rcases hb with hb | ⟨o',x,hfr,hx',e⟩
  ·exact hi.nF o ob l h4 hb
  have:=hi.inj o' o _ _ hx' h4 e
  subst this
  simp only[zc9,qB,decide_eq_true_eq,Bool.not_eq_true',List.contains_eq_mem,decide_eq_false_iff_not]at hfr
  rcases h2 with h2 | h2
  ·rw [if_pos h2]at h1; omega
  exact hfr.2 (List.mem_of_getElem? h2)
 ·intro i ob' l hx
  obtain ⟨o,ob,h1,h2,h4,h5⟩:=hget i ob' l hx
  have hh:=hi.holds h4
  cases ob with
  | arr v et2 sz2 cells2 =>
   simp only[zxn]at h5
   rw [qI]at h5
   obtain ⟨cs',k3,rfl⟩:=h5
   obtain ⟨m1,m2⟩:=zcl _ _ k3
   obtain ⟨cs,q1,q2,q3,q4⟩:=hh
   refine ⟨cs,q1,q2,by omega,fun i p hp=>?_⟩
   obtain ⟨x,x1,x2⟩:=m2 i p hp
   obtain ⟨c1,v1,v2,v3⟩:=q4 i x x1
   exact ⟨yam x2 c1,v1,v2,hsound v3 x2⟩
  | map v es2 =>
   simp only[zxn]at h5
   rw [qI]at h5
   obtain ⟨es',k3,rfl⟩:=h5
   obtain ⟨m1,m2⟩:=zkr _ _ k3
   obtain ⟨ents,clock,q1,q2,q3⟩:=hh
   refine ⟨ents,clock,q1,by omega,fun i k v hp=>?_⟩
   obtain ⟨x,x1,x2⟩:=m2 i (k,v) hp
   obtain ⟨en,e1,e2,e3⟩:=q3 i x.1 x.2 x1
   rw [Option.bind_eq_some_iff]at x2
   obtain ⟨a,y1,y2⟩:=x2
   rw [qI]at y2
   obtain ⟨b,y3,y4⟩:=y2
   cases y4
   exact ⟨en,e1,hsound e2 y1,hsound e3 y3⟩
  | lp v b2 r2 tmps2 =>
   simp only[zxn]at h5
   rw [qI]at h5
   obtain ⟨cs',k3,rfl⟩:=h5
   obtain ⟨m1,m2⟩:=zcl _ _ k3
   obtain ⟨q0,t,q1,q2,q3⟩:=hh
   refine ⟨q0,t,q1,⟨q2.1,by omega⟩,fun i p v hp hv=>?_⟩
   obtain ⟨x,x1,x2⟩:=m2 i p hp
   exact hsound (q3 i x v x1 hv) x2
 rintro i i' ⟨ob,l⟩ ⟨ob',l'⟩ hx hx' e
 obtain ⟨o,a,h1,h2,h3,_⟩:=hget i _ _ hx
 obtain ⟨o',a',h1',h2',h3',_⟩:=hget i' _ _ hx'
 have:=hi.inj o o' _ _ h3 h3' e
 subst this
 rcases h2 with h2 | h2 <;> rcases h2' with h2' | h2'
 ·rw [if_pos h2]at h1; rw [if_pos h2']at h1'; omega
 ·rw [if_pos h2]at h1
  have:=hge o (List.mem_of_getElem? h2')
  omega
 ·rw [if_pos h2']at h1'
  have:=hge o (List.mem_of_getElem? h2)
  omega
 have l1:=(List.getElem?_eq_some_iff.1 h2)
 have l2:=(List.getElem?_eq_some_iff.1 h2')
 obtain ⟨l1,e1⟩:=l1
 obtain ⟨l2,e2⟩:=l2
 have:=zu0 hnd l1 l2 (e1.trans e2.symm)
 by_cases c1:i<k
 ·rw [if_pos c1]at h1; have:=hge o (List.mem_of_getElem? h2); omega
 by_cases c2:i'<k
 ·rw [if_pos c2]at h1'; have:=hge o (List.mem_of_getElem? h2'); omega
 omega
variable {Q:Exit→Env→Store→Prop} {S:Store} {a b c:Code}
def z1u (L:List Nat) (I:List PV→Store→Prop) (e:Env) (S:Store):Prop :=
 ∃ k sel vs S',(L.map e).mapM (rn S k sel 10)=some vs∧S.rn k sel=some S'∧I vs S'
theorem zqu (hi:Inv F G w) {e:Env} {act:Act} (he:zeu w.heap F G e act) {L:List Nat} {I:List PV→Store→Prop} (h:z1u L I e G.er) :
  ∃ vs F' G',I vs G'.er∧vs.length=L.length∧Inv F' G' w∧Next F G w F' G' w∧zeu w.heap F' G' (Env.of L vs) act:=by
 obtain ⟨k,sel,vs,S',h1,h2,h3⟩:=h
 obtain ⟨G',rfl,k2,k3,k4⟩:=yap hi h2
 obtain ⟨m1,m2⟩:=zcl _ _ h1
 refine ⟨vs,_,G',h3,by rw [← m1]; simp,k2,k3,zsm L vs (by rw [← m1]; simp) fun i t v q1 q2=>?_⟩
 obtain ⟨x,x1,x2⟩:=m2 i v q2
 rw [List.getElem?_map,q1]at x1
 cases x1
 exact zsy hi (fun _ h=>h) k3 k4 (he t) x2
theorem W.foldS (L:List Nat) {I:List PV→Store→Prop} (hI:z1u L I e S) (h:∀ vs S,vs.length=L.length→I vs S→W P T c Q (Env.of L vs) S):W P T c Q e S:=by
 refine ⟨?_⟩
 intro hT hm F0 G0 w0 N F G a w h3 h4 h5 h6 h7 h8 h9 R nn
 subst h3
 obtain ⟨vs,F',G',k1,k2,k3,k4,k5⟩:=zqu h4 h5 hI
 exact (h vs _ k2 k1).run hT hm F0 G0 w0 N F' G' a w rfl k3 k5 (h6.trans k4) h7 h8 h9
theorem W.joinS (L:List Nat) (I:List PV→Store→Prop) (h:W P T a (XThen (z1u L I) Q) e S) (k:∀ vs S,vs.length=L.length→I vs S→W P T b Q (Env.of L vs) S):W P T (.seq a b) Q e S:=by
 refine W.seq (h.mono ?_)
 intro x e S hx
 cases x with
 | normal=>exact W.foldS L hx k
 | _=>exact hx
theorem W.loopS (L:List Nat) (I:Nat→List PV→Store→Prop) (n:Nat) (h0:z1u L (I n) e S)
  (h:∀ n vs S,vs.length=L.length→I n vs S→W P T c (XThen (fun e S=>∃ m,m<n∧z1u L (I m) e S) Q) (Env.of L vs) S):W P T (.loop c) Q e S:=by
 refine W.foldS L h0 fun vs S hl hI=>?_
 refine ⟨?_⟩
 intro hT hm F0 G0 w0 N F G a w h3 h4 h5 h6 h7 h8 h9 R nn
 refine wpIn_loop_rounds (n+1) ?_
 clear h0
 induction n using Nat.strongRecOn generalizing vs S F G a w with
 | _ n ih =>
  refine wpIn_mono ((h n vs S hl hI).run hT hm F0 G0 w0 N F G a w h3 h4 h5 h6 h7 h8 (by simpa [zgb] using h9)) ?_
  rintro x a' w' ⟨e',F',G',k1,k2,k3,k4,k5,k6⟩
  cases x with
  | normal =>
   obtain ⟨m,hmn,hk⟩:=k1
   obtain ⟨vs',F2,G2,q1,q2,q3,q4,q5⟩:=zqu k2 k3 hk
   exact zjy (by omega) _ _ (ih m hmn vs' _ q2 q1 F2 G2 a' w' rfl q3 q5 (k4.trans q4) k5 k6)
  | _=>exact ⟨e',F',G',k1,k2,k3,k4,k5,k6⟩
end
end
section
section
variable {P:Program} {T:Tab}
def More (S S':Store):Prop:=∀ (o:Nat) x,S.obs[o]?=some x→S'.obs[o]?=some x
theorem More.cells {S S':Store} (h:More S S') {o ver:Nat} {c:List PV} (hc:S.cellsOf o ver=some c):S'.cellsOf o ver=some c:=by
 unfold Store.cellsOf at hc ⊢
 cases ho:S.obs[o]? with
 | none=>rw [ho]at hc; cases hc
 | some x=>rw [ho]at hc; rw [h o x ho]; exact hc
theorem More.push {S:Store} {et sz:Nat} {cells:List PV}:More S (S.push et sz cells):=by
 intro o x hx
 have:=(List.getElem?_eq_some_iff.1 hx).1
 simp only[Store.push]
 rw [List.getElem?_append_left this]; exact hx
variable (P T)
def z1t (ops:Array Oper) (effs pend:List Nat) (t d:Nat) (Q:Env→Store→Prop) (l:List Nat) (e:Env) (S:Store):Prop :=
 (T t).kd ≠ .none∧zc8 P T ops effs pend [] Q l (e.put (some d) (.ref S.obs.length S.tick 0)) (S.push t (T t).size (T t).zero)
variable {P T}
variable {ops:Array Oper} {effs pend:List Nat} {t d:Nat} {Q:Env→Store→Prop} {l2:List Nat}
theorem z1t.imp {l l':List Nat} {e:Env} {S:Store} (h:∀ e S,zc8 P T ops effs pend [] Q l e S→zc8 P T ops effs pend [] Q l' e S) (k:z1t P T ops effs pend t d Q l e S):z1t P T ops effs pend t d Q l' e S:=⟨k.1,h _ _ k.2⟩
variable {F0:Nat→Prop} {G0:GSt} {w0:World} {N:Nat}
end
section
variable {P:Program} {T:Tab} {Q:Exit→Env→Store→Prop} {e:Env} {S:Store} {b:Code}
section
variable {ds pd:List (Option Tmp)} {t d:Nat} {o:Oper} {r l2:List Oper} {K:Env→Store→Prop}
end
theorem z2f {all:List Oper} {effs pend:List Nat} {K:Env→Store→Prop} (heff:∀ i o,all[i]?=some o→effs.contains i=false→zew o.op=true):∀ (r:List Nat) (l:List Oper) {e:Env} {S:Store},r.all (fun i => !pend.contains i)=true→r.map (all[·]?)=l.map some →
  zbu false P T (dsts all) l e S K→zc8 P T all.toArray effs pend [] K r e S
 | [],l,e,S,_,hl,h=>by
  cases l with
  | nil=>exact h
  | cons o l=>simp at hl
 | i::r,l,e,S,hp,hl,h=>by
  cases l with
  | nil=>simp at hl
  | cons o l =>
   simp only[List.map_cons,List.cons.injEq]at hl
   obtain ⟨ho,hl⟩:=hl
   simp only[List.all_cons,qB,Bool.not_eq_true']at hp
   obtain ⟨hp1,hp2⟩:=hp
   unfold zbu at h
   simp only[zc8,List.getElem?_toArray,ho]
   rw [zjs]at h
   unfold zet
   split at h
   ·rename_i hg
    rw [hg]
    simp only
    split
    ·exact zfv (fun v S' hv=>⟨.inr (by intro o ho; cases ho),z2f heff r l hp2 hl hv⟩) (zjz h)
    rename_i hc
    have:=zki (heff i o ho (by simpa using hc)) h
    rw [zd5]at this ⊢
    obtain ⟨v,h1,h2⟩:=this
    exact ⟨v,h1,by rw [hp1]; trivial,z2f heff r l hp2 hl h2⟩
   ·rename_i hg; rw [hg]; exact z2f heff r l hp2 hl h
   exact h.elim
theorem zjq:∀ (l:List Oper) (k i:Nat) (o:Oper),l[i]?=some o→(k+i∈zcg l k↔zew o.op=false)
 | [],_,_,_,h=>by simp at h
 | a::l,k,0,o,h=>by
  simp at h; subst h
  have hge:∀ (l:List Oper) (k j:Nat),j∈zcg l k→k≤j:=by
   intro l
   induction l with
   | nil=>intro k j h; simp [zcg]at h
   | cons b l ih =>
    intro k j h
    unfold zcg at h
    split at h
    ·have:=ih _ _ h; omega
    rcases List.mem_cons.1 h with h | h
    ·omega
    have:=ih _ _ h; omega
  unfold zcg
  split
  ·rename_i hf
   constructor
   ·intro h; have:=hge _ _ _ h; omega
   intro h; rw [hf]at h; cases h
  rename_i hf
  simp; simpa using hf
 | a::l,k,i+1,o,h=>by
  simp only[List.getElem?_cons_succ]at h
  have ih:=zjq l (k+1) i o h
  unfold zcg
  split
  ·rw [show k+(i+1)=k+1+i by omega]; exact ih
  rw [show k+(i+1)=k+1+i by omega,List.mem_cons]
  constructor
  ·rintro (h | h)
   ·omega
   exact ih.1 h
  exact fun h => .inr (ih.2 h)
end
end
section
section
variable {P:Program} {T:Tab} {e:Env} {S:Store} {Q:Exit→Env→Store→Prop} {b:Code}
def zlu (P:Program) (T:Tab) (ds:List (Option Tmp)) (pd:List (Option Tmp)) (keep:List Nat) (l2:List Oper):List Oper→Env→Store→(Env→Store→Prop)→Prop
 | [],e,S,K=>zbu false P T ds l2 e S K
 | o::r,e,S,K =>
  if pd.contains o.dst then zew o.op=true∧o.guard=none∧∃ v,(∀ S',Keeps keep S S'→zdz T S' e o.op=some v)∧zlu P T ds pd keep l2 r (e.put o.dst v) S K
  else zbu false P T ds [o] e S fun e' S'=>Keeps keep S S'∧zlu P T ds pd keep l2 r e' S' K
theorem Keeps.refl (keep:List Nat) (S:Store):Keeps keep S S:=fun _ _=>rfl
theorem zaz {S S':Store}:Keeps [] S S'=True:=eq_true fun _ h=>by cases h
theorem zap {o:Nat} {k:List Nat} {S S':Store}:Keeps (o::k) S S'=(S'.obs[o]?=S.obs[o]?∧Keeps k S S'):=by
 apply propext; constructor
 ·exact fun h=>⟨h o (by simp),fun x hx=>h x (by simp [hx])⟩
 rintro ⟨h1,h2⟩ x hx
 rcases List.mem_cons.1 hx with rfl | hx
 ·exact h1
 exact h2 x hx
theorem zbb {ds pd:List (Option Tmp)} {keep:List Nat} {l2 r:List Oper} {o:Oper} {K:Env→Store→Prop} (h0:pd.contains o.dst=false)
  (h:zbu false P T ds [o] e S fun e' S'=>Keeps keep S S'∧zlu P T ds pd keep l2 r e' S' K):zlu P T ds pd keep l2 (o::r) e S K:=by
 rw [zlu,if_neg (by rw [h0]; exact Bool.false_ne_true)]; exact h
theorem za0 {ds pd:List (Option Tmp)} {keep:List Nat} {l2 r:List Oper} {o:Oper} {K:Env→Store→Prop} (v:PV) (h0:pd.contains o.dst=true) (h1:zew o.op=true) (h2:o.guard=none)
  (h3:∀ S',Keeps keep S S'→zdz T S' e o.op=some v) (h:zlu P T ds pd keep l2 r (e.put o.dst v) S K):zlu P T ds pd keep l2 (o::r) e S K:=by
 rw [zlu,if_pos h0]; exact ⟨h1,h2,v,h3,h⟩
theorem ze9 {ds pd:List (Option Tmp)} {keep:List Nat} {l2:List Oper} {K:Env→Store→Prop} (h:zbu false P T ds l2 e S K):zlu P T ds pd keep l2 [] e S K:=h
theorem znr {all:List Oper} {pend:List Nat} {keep:List Nat} {K:Env→Store→Prop}:∀ (r:List Oper) (k:Nat) (e:Env) (S:Store),all.drop k=r →
  (∀ i,k≤i→i<all.length→(pend.contains i=true↔i∈zcg all 0))→zbu false P T (dsts all) r e S K→zc8 P T all.toArray (zcg all 0) pend keep K (List.range' k r.length) e S
 | [],_,_,_,_,_,h=>h
 | o::r,k,e,S,hk,hp,h=>by
  have ho:all[k]?=some o:=by
   have:=congrArg (fun l=>l[0]?) hk
   simpa using this
  have hkl:k<all.length:=(List.getElem?_eq_some_iff.1 ho).1
  have hr:all.drop (k+1)=r:=by
   have:=congrArg (List.drop 1) hk
   simpa [List.drop_drop] using this
  have hp':∀ i,k+1≤i→i<all.length→(pend.contains i=true↔i∈zcg all 0):=fun i h1 h2=>hp i (by omega) h2
  unfold zbu at h
  simp only[List.length_cons,List.range'_succ,zc8,List.getElem?_toArray,ho]
  rw [zjs]at h
  unfold zet
  split at h
  ·rename_i hg
   rw [hg]
   simp only
   split
   ·rename_i hc
    exact zfv (fun v S' hv=>⟨.inl ((hp k (qR _) hkl).2 (by simpa using hc)),znr r (k+1) _ _ hr hp' hv⟩) (zjz h)
   rename_i hc
   have hflat:=zgs all 0 k o ho (by simpa using hc)
   have:=zki hflat h
   rw [zd5]at this ⊢
   obtain ⟨v,h1,h2⟩:=this
   refine ⟨v,h1,?_,znr r (k+1) _ _ hr hp' h2⟩
   rw [if_neg]
   ·trivial
   intro h9; exact hc (by simpa using (hp k (qR _) hkl).1 h9)
  ·rename_i hg; rw [hg]; exact znr r (k+1) _ _ hr hp' h
  exact h.elim
theorem zoo {all l2:List Oper} {pd:List (Option Tmp)} {pend keep:List Nat} {K:Env→Store→Prop} (n1:Nat) (hn1:all.drop n1=l2) (hn:n1≤all.length) (hp2:∀ i,n1≤i→i<all.length→(pend.contains i=true↔i∈zcg all 0))
  (hp1:∀ i o,i<n1→all[i]?=some o→pend.contains i=pd.contains o.dst) :
  ∀ (r:List Oper) (k:Nat) (e:Env) (S:Store),all.drop k=r++l2→k+r.length=n1→zlu P T (dsts all) pd keep l2 r e S K →
  zc8 P T all.toArray (zcg all 0) pend keep K (List.range' k (r++l2).length) e S
 | [],k,e,S,hk,hkn,h=>by
  obtain rfl:k=n1:=by simpa using hkn
  exact znr l2 k e S hn1 hp2 h
 | o::r,k,e,S,hk,hkn,h=>by
  have ho:all[k]?=some o:=by
   have:=congrArg (fun l=>l[0]?) hk
   simpa using this
  have hkl:k<all.length:=(List.getElem?_eq_some_iff.1 ho).1
  have hr:all.drop (k+1)=r++l2:=by
   have:=congrArg (List.drop 1) hk
   simpa [List.drop_drop] using this
  have hkn':k+1+r.length=n1:=by rw [List.length_cons]at hkn; omega
  have hkp:=hp1 k o (by rw [List.length_cons]at hkn; omega) ho
  rw [List.cons_append,List.length_cons,List.range'_succ]
  simp only[zc8,List.getElem?_toArray,ho]
  unfold zlu at h
  split at h
  ·rename_i hpd
   obtain ⟨hf,hg,v,h1,h2⟩:=h
   unfold zet gdec
   rw [hg]
   simp only
   have hce:¬ ((zcg all 0).contains k=true):=by
    intro hc
    have:=(zjq all 0 k o ho).1 (by rw [Nat.zero_add]; simpa using hc)
    rw [hf]at this; cases this
   rw [if_neg hce,zd5]
   have hfl:∀ S',Keeps keep S S'→pFl P T S' e o.op v:=by
    intro S' hS'
    have:=h1 S' hS'
    have:z7a P T S' e o.op fun u=>u=v:=by
     revert this hf
     generalize o.op=op
     intro hf this
     have hpg:zh1 (zdz T S' e op) fun u=>u=v:=by rw [this]; rfl
     cases op with
     | call c =>
      obtain ⟨cal,xs,ts⟩:=c
      cases cal with
      | value f=>simp [zew]at hf
      | _=>exact hpg
     | _=>exact hpg
    obtain ⟨u,h3,rfl⟩:=zd5.1 this
    exact h3
   refine ⟨v,hfl S (Keeps.refl _ _),?_,zoo n1 hn1 hn hp2 hp1 r (k+1) _ _ hr hkn' h2⟩
   split
   ·exact hfl
   trivial
  rename_i hpd
  unfold zbu at h
  rw [zjs]at h
  unfold zet
  split at h
  ·rename_i hg
   rw [hg]
   simp only
   split
   ·rename_i hc
    exact zfv (fun v S' hv=>⟨.inr hv.1,zoo n1 hn1 hn hp2 hp1 r (k+1) _ _ hr hkn' hv.2⟩) (zjz h)
   rename_i hc
   have hflat:=zgs all 0 k o ho (by simpa using hc)
   have:=zki hflat h
   rw [zd5]at this ⊢
   obtain ⟨v,h1,h2⟩:=this
   refine ⟨v,h1,?_,zoo n1 hn1 hn hp2 hp1 r (k+1) _ _ hr hkn' h2.2⟩
   rw [if_neg (by rw [hkp]; exact hpd)]
   trivial
  ·rename_i hg; rw [hg]
   exact zoo n1 hn1 hn hp2 hp1 r (k+1) _ _ hr hkn' h.2
  exact h.elim
def zrf (all:List Oper) (pd:List (Option Tmp)) (n1:Nat):List Nat :=
 (List.range all.length).filter fun i=>if i<n1 then (match all[i]? with | some o=>pd.contains o.dst | none=>false) else (zcg all 0).contains i
theorem W.region_pk {id:Nat} {l:List Oper} (n1:Nat) (pd:List (Option Tmp)) (keep:List Nat) (hn:n1≤l.length) (hc:zgy l.toArray (List.range' 0 l.length) (zcg l 0) (zrf l pd n1)=true)
  (h:∀ K:Env→Store→Prop,(∀ e S,Q .normal e S→K e S)→zlu P T (dsts l) pd keep (l.drop n1) (l.take n1) e S K):W P T (.region id l.toArray true) Q e S:=by
 refine W.region_any (List.range' 0 l.length) (zcg l 0) (zrf l pd n1) keep hc ?_
 have:=zoo (pend:=zrf l pd n1) n1 rfl hn ?_ ?_ (l.take n1) 0 e S (by simp) (by simp; omega) (h _ fun _ _ h=>h)
 ·rwa [List.take_append_drop]at this
 ·intro i h1 h2
  simp [zrf,Nat.not_lt.2 h1,h2]
 intro i o h1 h2
 have hil:=(List.getElem?_eq_some_iff.1 h2).1
 rw [Bool.eq_iff_iff]
 obtain ⟨_,rfl⟩:=List.getElem?_eq_some_iff.1 h2
 simp [zrf,h1,hil]
theorem W.seq_pk {id:Nat} {l:List Oper} (n1:Nat) (pd:List (Option Tmp)) (keep:List Nat) (hn:n1≤l.length) (hc:zgy l.toArray (List.range' 0 l.length) (zcg l 0) (zrf l pd n1)=true)
  (h:∀ K:Env→Store→Prop,(∀ e S,W P T b Q e S→K e S)→zlu P T (dsts l) pd keep (l.drop n1) (l.take n1) e S K):W P T (.seq (.region id l.toArray true) b) Q e S :=
 W.seq (W.region_pk n1 pd keep hn hc fun K hK=>h K hK)
end
end
abbrev Txt:=List UInt8
def Sm (p:List Txt):Prop:=p.length≤1048576∧∀ r∈p,r.length≤1048576
theorem Sm.rows {p:List Txt} (h:Sm p):p.length<2147483648:=by have:=h.1; omega
theorem Sm.cols {p:List Txt} (h:Sm p):∀ r∈p,r.length<2147483648:=fun r hr=>by have:=h.2 r hr; omega
def zax:List Txt→Txt
 | []=>[]
 | a::_=>a
def zcs (c:UInt8):Bool:=decide (97≤c.toNat) && decide (c.toNat≤122)
def zqb (w:Nat) (row:Txt):Bool:=decide (row.length=w) && decide (1≤row.length) && decide (row.length≤6) && row.all zcs
def zcp (p:List Txt):Bool:=p.all (zqb (zax p).length) && decide (1≤p.length) && decide (p.length≤6)
def zfr (n:Int) (row:Txt):Int:=row.foldl (fun n c=>max n ((c.toNat:Int) - 97+1)) n
def zcy (p:List Txt):Int:=p.foldl zfr 0
def zdx (s:List UInt8 × Txt) (c:UInt8):List UInt8 × Txt:=(if s.1.idxOf c=s.1.length then s.1++[c] else s.1,s.2++[UInt8.ofNat (97+s.1.idxOf c)])
def zpa (o:List UInt8) (row:Txt):List UInt8 × Txt:=row.foldl zdx (o,[])
def zm7 (s:List UInt8 × List Txt) (row:Txt):List UInt8 × List Txt:=((zpa s.1 row).1,s.2++[(zpa s.1 row).2])
def zsk (p:List Txt):List UInt8 × List Txt:=p.foldl zm7 ([],[])
def names (p:List Txt):List Txt:=(zsk p).2
def zje (room:Int) (c:UInt8):Bool:=decide ((c.toNat:Int) - 97=room)
def zc4 (room:Int) (n:Int) (row:Txt):Int:=row.foldl (fun n c=>if zje room c then n+1 else n) n
def zey (p:List Txt) (room:Int):Int:=p.foldl (zc4 room) 0
structure Box where
 top:Int
 left:Int
 low:Int
 right:Int
def zjn (room:Int) (i:Nat) (b:Box) (q:UInt8 × Nat):Box:=if zje room q.1 then ⟨min b.top i,min b.left q.2,max b.low i,max b.right q.2⟩ else b
def z1z (room:Int) (b:Box) (q:Txt × Nat):Box:=(q.1.zipIdx).foldl (zjn room q.2) b
def zoh (p:List Txt) (room:Int):Box:=p.zipIdx.foldl (z1z room) ⟨p.length,(zax p).length,-1,-1⟩
def zhu (p:List Txt) (room:Int):Int:=(zoh p room).low - (zoh p room).top+1
def zhx (p:List Txt) (room:Int):Int:=(zoh p room).right - (zoh p room).left+1
def zcz (p:List Txt):Bool:=zcp p && decide (names p=p) && decide (zcy p≤9) && (List.range (zcy p).toNat).all fun r=>decide (zey p r=zhu p r*zhx p r)
theorem zsb {α:Type} [DecidableEq α]:∀ {l:List α} {c:α} {n:Nat},(∀ j,j<n→l[j]?≠some c)→(n=l.length∨l[n]?=some c)→l.idxOf c=n
 | [],c,n,_,h=>by rcases h with h | h <;> simp at h ⊢; omega
 | a::l,c,0,_,h=>by
  rcases h with h | h
  ·simp at h
  simp at h; simp [h,List.idxOf_cons]
 | a::l,c,n+1,h1,h2=>by
  have h0:a≠c:=fun e=>h1 0 (by omega) (by simp [e])
  have:=zsb (l:=l) (c:=c) (n:=n) (fun j hj=>by simpa using h1 (j+1) (by omega)) (by simpa using h2)
  rw [List.idxOf_cons,this]
  have h0':(a == c)=false:=by simpa using h0
  rw [h0']; rfl
theorem z9g {α:Type} {l:List α} {i:Nat} {a:α} (h:l[i]?=some a):(l.take (i+1)).zipIdx=(l.take i).zipIdx++[(a,i)]:=by
 have hi:=(List.getElem?_eq_some_iff.1 h).1
 rw [tk h,List.zipIdx_append]
 simp [Nat.min_eq_left (Nat.le_of_lt hi)]
theorem zih:∀ (row:Txt) (n:Int),0≤n→n≤200→0≤zfr n row∧zfr n row≤200
 | [],n,h1,h2=>⟨h1,h2⟩
 | c::row,n,h1,h2=>by
  have:=c.toNat_lt
  exact zih row (max n ((c.toNat:Int) - 97+1)) (by omega) (by omega)
theorem zkp (p:List Txt):0≤zcy p∧zcy p≤200:=by
 unfold zcy
 have:∀ (p:List Txt) (n:Int),0≤n→n≤200→0≤p.foldl zfr n∧p.foldl zfr n≤200:=by
  intro p
  induction p with
  | nil=>exact fun n h1 h2=>⟨h1,h2⟩
  | cons row p ih=>exact fun n h1 h2=>ih _ (zih row n h1 h2).1 (zih row n h1 h2).2
 exact this p 0 (by omega) (by omega)
theorem zg0 (room:Int):∀ (row:Txt) (n:Int),n≤zc4 room n row∧zc4 room n row≤n+row.length
 | [],n=>⟨Int.le_refl _,by simp [zc4]⟩
 | c::row,n=>by
  have h:=zg0 room row (if zje room c then n+1 else n)
  have e:zc4 room n (c::row)=zc4 room (if zje room c then n+1 else n) row:=rfl
  rw [e,List.length_cons]
  split at h <;> rename_i hc <;> simp only[hc,if_true,if_false,qF] <;> omega
theorem zsf (room:Int) (p:List Txt) (h:∀ r∈p,r.length≤1000):0≤zey p room∧zey p room≤1000*p.length:=by
 have:∀ (p:List Txt) (n:Int),(∀ r∈p,r.length≤1000)→n≤p.foldl (zc4 room) n∧p.foldl (zc4 room) n≤n+1000*p.length:=by
  intro p
  induction p with
  | nil=>intro n _; simp
  | cons row p ih =>
   intro n h
   have h1:=zg0 room row n
   have h2:=ih (zc4 room n row) fun r hr=>h r (by simp [hr])
   have h3:=h row (by simp)
   simp only[List.foldl_cons,List.length_cons]
   omega
 have:=this p 0 h
 unfold zey
 omega
def zhy (p:List Txt) (room:Int) (i:Nat):Box:=((p.take i).zipIdx).foldl (z1z room) ⟨p.length,(zax p).length,-1,-1⟩
def zk7 (room:Int) (i:Nat) (b:Box) (row:Txt) (k:Nat):Box:=((row.take k).zipIdx).foldl (zjn room i) b
theorem zke {p:List Txt} {room:Int}:zhy p room p.length=zoh p room:=by simp [zhy,zoh]
theorem zls {p:List Txt} {room:Int} {i:Nat} {row:Txt} (h:p[i]?=some row):zhy p room (i+1)=zk7 room i (zhy p room i) row row.length:=by
 simp [zhy,z9g h,List.foldl_append,z1z,zk7]
theorem zi2 {room:Int} {i k:Nat} {b:Box} {row:Txt} {c:UInt8} (h:row[k]?=some c):zk7 room i b row (k+1)=zjn room i (zk7 room i b row k) (c,k):=by
 simp [zk7,z9g h,List.foldl_append]
def Box.In (M:Nat) (b:Box):Prop := -1≤b.top∧b.top≤M ∧ -1≤b.left∧b.left≤M ∧ -1≤b.low∧b.low≤M ∧ -1≤b.right∧b.right≤M
theorem zpp {M:Nat} {room:Int} {i:Nat} (hi:i≤M) {row:Txt} (hr:row.length≤M):∀ (k:Nat) {b:Box},b.In M→k≤row.length→(zk7 room i b row k).In M
 | 0,b,h,_=>by simpa [zk7] using h
 | k+1,b,h,hk=>by
  obtain ⟨c,hc,-⟩:=zaf (show k<row.length by omega)
  have ih:=zpp (room:=room) hi hr k h (by omega)
  rw [zi2 hc]
  unfold zjn
  split
  ·simp only[Box.In]at ih ⊢; omega
  exact ih
theorem zjo {M:Nat} {p:List Txt} (room:Int) (hp:p.length≤M) (hr:∀ r∈p,r.length≤M):∀ i,i≤p.length→(zhy p room i).In M
 | 0,_=>by
  have:(zax p).length≤M:=by cases p with | nil=>exact Nat.zero_le _ | cons a p=>exact hr a (by simp)
  simp only[zhy,List.take_zero,List.zipIdx_nil,List.foldl_nil,Box.In]
  omega
 | i+1,h=>by
  obtain ⟨row,hrow,hm⟩:=zaf (show i<p.length by omega)
  rw [zls hrow]
  exact zpp (by omega) (hr row hm) _ (zjo room hp hr i (by omega)) (qR _)
theorem z10 {p:List Txt} (room:Int) (hp:p.length≤6) (hr:∀ r∈p,r.length≤6) : -8≤zhu p room∧zhu p room≤8 ∧ -8≤zhx p room∧zhx p room≤8 ∧ -64≤zhu p room*zhx p room∧zhu p room*zhx p room≤64:=by
 have h:=zjo room hp hr p.length (qR _)
 rw [zke]at h
 simp only[Box.In]at h
 have h1:(zhu p room).natAbs≤8:=by unfold zhu; omega
 have h2:(zhx p room).natAbs≤8:=by unfold zhx; omega
 have h3:=Nat.mul_le_mul h1 h2
 rw [← Int.natAbs_mul]at h3
 omega
theorem zbk {p:List Txt} (h:zcp p=true):0<p.length∧p.length≤6∧∀ r∈p,r.length≤6:=by
 unfold zcp at h
 simp only[qB,decide_eq_true_eq,List.all_eq_true]at h
 refine ⟨by omega,by omega,fun r hr=>?_⟩
 have:=h.1.1 r hr
 simp only[zqb,qB,decide_eq_true_eq]at this
 omega
theorem zcj {p:List Txt} {row:Txt} (h:p[0]?=some row):zax p=row:=by
 cases p with
 | nil=>simp at h
 | cons a p=>simpa [zax] using h
theorem znu {p:List Txt} {i:Nat} {row:Txt} (h:p[i]?=some row) (hb:zqb (zax p).length row=false):zcp p=false:=by
 unfold zcp
 have:p.all (zqb (zax p).length)=false:=by
  rw [List.all_eq_false]
  exact ⟨row,List.mem_of_getElem? h,by simp [hb]⟩
 rw [this]; rfl
theorem z2u {p:List Txt} (h:p.all (zqb (zax p).length)=true):zcp p=(decide (1≤p.length) && decide (p.length≤6)):=by
 unfold zcp; rw [h]; rfl
theorem zmp {α:Type} {f:α→Bool} {l:List α} {i:Nat} {a:α} (h:l[i]?=some a) (h1:(l.take i).all f=true) (h2:f a=true):(l.take (i+1)).all f=true:=by
 rw [tk h,List.all_append,h1]; simp [h2]
theorem zk9 {w k:Nat} {row:Txt} {c:UInt8} (h:row[k]?=some c) (hb:zcs c=false):zqb w row=false:=by
 unfold zqb
 have:row.all zcs=false:=by
  rw [List.all_eq_false]
  exact ⟨c,List.mem_of_getElem? h,by simp [hb]⟩
 rw [this]; simp
theorem yby (n:Nat):(decide ((1:Int)≤n) && decide ((n:Int)≤6))=(decide (1≤n) && decide (n≤6)):=by
 congr 1 <;> (apply decide_eq_decide.2; omega)
def zk5 (o:List UInt8) (row:Txt) (k:Nat):List UInt8 × Txt:=(row.take k).foldl zdx (o,[])
def zer (p:List Txt) (i:Nat):List UInt8 × List Txt:=(p.take i).foldl zm7 ([],[])
theorem zme {o:List UInt8} {row:Txt} {k:Nat} {c:UInt8} (h:row[k]?=some c):zk5 o row (k+1)=zdx (zk5 o row k) c:=by
 simp [zk5,tk h,List.foldl_append]
theorem zlq {p:List Txt} {i:Nat} {row:Txt} (h:p[i]?=some row):zer p (i+1)=((zk5 (zer p i).1 row row.length).1,(zer p i).2++[(zk5 (zer p i).1 row row.length).2]):=by
 simp [zer,tk h,List.foldl_append,zm7,zk5,zpa]
theorem ztr {p:List Txt}:(zer p p.length).2=names p:=by simp [zer,names,zsk]
theorem zk6 {o:List UInt8} {row:Txt}:∀ {k:Nat},k≤row.length→(zk5 o row k).2.length=k∧(zk5 o row k).1.length≤o.length+k
 | 0,_=>⟨rfl,qR _⟩
 | k+1,h=>by
  obtain ⟨c,hc,-⟩:=zaf (show k<row.length by omega)
  have ih:=zk6 (o:=o) (row:=row) (k:=k) (by omega)
  rw [zme hc]
  unfold zdx
  simp only[List.length_append,List.length_singleton]
  split
  ·simp only[List.length_append,List.length_singleton]; omega
  omega
theorem zod {p:List Txt} (hr:∀ r∈p,r.length≤1048576):∀ {i:Nat},i≤p.length→(zer p i).2.length=i∧(zer p i).1.length≤1048576*i
 | 0,_=>⟨rfl,qR _⟩
 | i+1,h=>by
  obtain ⟨row,hrow,hm⟩:=zaf (show i<p.length by omega)
  have ih:=zod hr (i:=i) (by omega)
  have h1:=zk6 (o:=(zer p i).1) (row:=row) (qR _)
  have h2:=hr row hm
  rw [zlq hrow]
  simp only[List.length_append,List.length_singleton]
  omega
theorem z62 {s:List UInt8 × Txt} {c:UInt8} {a:Nat} (ha:s.1.idxOf c=a) (hl:a=s.1.length):zdx s c=(s.1++[c],s.2++[UInt8.ofNat (97+a)]):=by
 simp [zdx,ha,hl]
theorem z63 {s:List UInt8 × Txt} {c:UInt8} {a:Nat} (ha:s.1.idxOf c=a) (hl:a<s.1.length):zdx s c=(s.1,s.2++[UInt8.ofNat (97+a)]):=by
 have:¬ a=s.1.length:=by omega
 simp [zdx,ha,this]
theorem zqf {p:List Txt} (hr:∀ r∈p,r.length≤1048576):∀ {i:Nat},i≤p.length→∀ r∈(zer p i).2,r.length≤1048576
 | 0,_,r,h=>by simp [zer]at h
 | i+1,hi,r,h=>by
  obtain ⟨row,hrow,hm⟩:=zaf (show i<p.length by omega)
  rw [zlq hrow]at h
  rcases List.mem_append.1 h with h | h
  ·exact zqf hr (by omega) r h
  have:=(zk6 (o:=(zer p i).1) (row:=row) (qR _)).1
  have h2:=hr row hm
  simp only[List.mem_singleton]at h
  rw [h]; omega
theorem Sm.names {p:List Txt} (h:Sm p):Sm (names p):=by
 rw [← ztr]
 exact ⟨by rw [(zod h.2 (qR _)).1]; exact h.1,zqf h.2 (qR _)⟩
def z4x (p:List Txt) (r:Nat):Bool:=decide (zey p r=zhu p r*zhx p r)
theorem zn1 {p:List Txt} (h:zcp p=false∨decide (names p=p)=false∨9<zcy p):zcz p=false:=by
 unfold zcz
 rcases h with h | h | h
 ·simp [h]
 ·rw [h]; simp
 have:decide (zcy p≤9)=false:=by simp; omega
 rw [this]; simp
theorem zzr {p:List Txt} (h1:zcp p=true) (h2:decide (names p=p)=true) (h3:zcy p≤9) {R:Nat} (hR:zcy p=R):zcz p=(List.range R).all (z4x p):=by
 have h4:decide (zcy p≤9)=true:=by simpa using h3
 unfold zcz
 rw [h1,h2,h4,hR]
 rfl
def zsl (cs:List UInt8) (cx:UInt8) (y:Nat):Bool:=(cs.take y).all fun z=>decide (cx≠z)
def z65 (cs:List UInt8) (x:Nat):Bool :=
 match cs[x]? with
 | some cx=>zsl cs cx x
 | none=>false
def zga (cs:List UInt8):Nat→Int
 | 0=>0
 | x+1=>zga cs x+if z65 cs x then 1 else 0
theorem zq7 {cs:List UInt8} {cx cy:UInt8} {y:Nat} (h:cs[y]?=some cy):zsl cs cx (y+1)=(zsl cs cx y && decide (cx≠cy)):=by
 simp [zsl,tk h,List.all_append]
theorem zzb {cs:List UInt8} {cx:UInt8} {x:Nat} (h:cs[x]?=some cx):z65 cs x=zsl cs cx x:=by simp [z65,h]
theorem zmt (cs:List UInt8):∀ x,0≤zga cs x∧zga cs x≤x
 | 0=>by simp [zga]
 | x+1=>by have:=zmt cs x; unfold zga; split <;> omega
def zo9 (p:List Txt) (i k:Nat):Int :=
 match p[i - 1]?,p[i]? with
 | some r1,some r2 =>
  match r1[k - 1]?,r1[k]?,r2[k - 1]?,r2[k]? with
  | some a,some b,some c,some d=>zga [a,b,c,d] 4
  | _,_,_,_=>0
 | _,_=>0
def zhv (p:List Txt) (many:Int) (i:Nat):Nat→Int
 | 0=>0
 | k+1=>zhv p many i k+if 1≤k∧zo9 p i k=many then 1 else 0
def znh (p:List Txt) (many:Int) (w:Nat):Nat→Int
 | 0=>0
 | i+1=>znh p many w i+if 1≤i then zhv p many i w else 0
theorem zif (p:List Txt) (many:Int) (i:Nat):∀ k,0≤zhv p many i k∧zhv p many i k≤k
 | 0=>by simp [zhv]
 | k+1=>by have:=zif p many i k; unfold zhv; split <;> omega
theorem zpj (p:List Txt) (many:Int) {w:Nat} (hw:w≤6):∀ i,0≤znh p many w i∧znh p many w i≤6*i
 | 0=>by simp [znh]
 | i+1=>by have:=zpj p many hw i; have:=zif p many i w; unfold znh; split <;> omega
def points (p:List Txt) (many:Int):Int:=znh p many (zax p).length p.length
def zha (p:List Txt):Bool:=zcz p && decide (points p 4=0)
theorem zdv {p:List Txt} (h:zcp p=true) {i:Nat} {row:Txt} (hr:p[i]?=some row):row.length=(zax p).length:=by
 unfold zcp at h
 simp only[qB,decide_eq_true_eq,List.all_eq_true]at h
 have:=h.1.1 row (List.mem_of_getElem? hr)
 simp only[zqb,qB,decide_eq_true_eq]at this
 omega
theorem zec {p:List Txt} (h:zcz p=true):zcp p=true:=by
 unfold zcz at h; simp only[qB]at h; exact h.1.1.1
theorem zep {p:List Txt} (h:zcp p=true) {i:Nat} {row:Txt} (hr:p[i]?=some row):1≤row.length:=by
 unfold zcp at h
 simp only[qB,decide_eq_true_eq,List.all_eq_true]at h
 have:=h.1.1 row (List.mem_of_getElem? hr)
 simp only[zqb,qB,decide_eq_true_eq]at this
 omega
def zng (p:List Txt) (k i:Nat):Txt:=(p.take i).map fun row=>row.getD k 0
def zi8 (p:List Txt) (k:Nat):List Txt:=(List.range k).map fun j=>zng p j p.length
def zcr (p:List Txt):List Txt:=zi8 p (zax p).length
theorem z0o {p:List Txt} {k i:Nat} {row:Txt} {c:UInt8} (h:p[i]?=some row) (hc:row[k]?=some c):zng p k (i+1)=zng p k i++[c]:=by
 simp [zng,tk h,List.getD_eq_getElem?_getD,hc]
theorem zg4 {p:List Txt} {k i:Nat} (h:i≤p.length):(zng p k i).length=i:=by simp [zng]; omega
theorem zwu {p:List Txt} {k:Nat}:zi8 p (k+1)=zi8 p k++[zng p k p.length]:=by simp [zi8,qS]
theorem zir {p:List Txt} {k:Nat}:(zi8 p k).length=k:=by simp [zi8]
def ztm (l:List Int) (x:Int):List Int:=if l.getLast?=some x then l else l++[x]
def zao (p:List Txt) (i k:Nat):Int:=(((p[i]?.getD [])[k]?.getD 0).toNat:Int) - 97
theorem zc3 {p:List Txt} {i k:Nat} {row:Txt} {c:UInt8} (h:p[i]?=some row) (hc:row[k]?=some c):zao p i k=(c.toNat:Int) - 97:=by
 simp [zao,h,hc]
def zpx (p:List Txt) (kind line fr:Nat):Nat→List Int × List Int
 | 0=>([],[])
 | n+1 =>
  let s:=zpx p kind line fr n
  if kind=0 then (ztm s.1 (zao p (fr+n) (line - 1)),ztm s.2 (zao p (fr+n) line))
  else (ztm s.1 (zao p (line - 1) (fr+n)),ztm s.2 (zao p line (fr+n)))
def ze3 (p:List Txt) (k i:Nat):Bool:=decide (i<p.length) && decide (zao p i (k - 1)≠zao p i k)
def zd2 (wall:Bool) (k i:Nat) (s:Int × List (List Int)):Int × List (List Int) :=
 let f:=if wall && decide (s.1<0) then (i:Int) else s.1
 if !wall && decide (0≤f) then (-1,s.2++[[(k:Int),f,i - f]]) else (f,s.2)
def zds (p:List Txt) (k:Nat) (s0:List (List Int)):Nat→Int × List (List Int)
 | 0=>(-1,s0)
 | i+1=>zd2 (ze3 p k i) k i (zds p k s0 i)
def zcv (p:List Txt):Nat→List (List Int)
 | 0=>[]
 | k+1=>if 1≤k then (zds p k (zcv p k) (p.length+1)).2 else zcv p k
def uprights (p:List Txt):List (List Int):=zcv p (zax p).length
theorem z1n {w:Bool} {k i:Nat} {s:Int × List (List Int)}:(zd2 w k i s).2.length≤s.2.length+1:=by
 unfold zd2; simp only; repeat' split
 all_goals simp
theorem zte (p:List Txt) (k:Nat) (s0:List (List Int)):∀ i,(zds p k s0 i).2.length≤s0.length+i
 | 0=>qR _
 | i+1=>by have:=zte p k s0 i; have h:=z1n (w:=ze3 p k i) (k:=k) (i:=i) (s:=zds p k s0 i); unfold zds; omega
theorem zlo (p:List Txt):∀ k,(zcv p k).length≤(p.length+1)*k
 | 0=>qR _
 | k+1=>by
  have:=zlo p k
  have h:=zte p k (zcv p k) (p.length+1)
  unfold zcv
  rw [Nat.mul_succ]
  split <;> omega
theorem zmk {p:List Txt} {k:Nat} (h:1≤k):zcv p (k+1)=(zds p k (zcv p k) (p.length+1)).2:=by rw [zcv,if_pos h]
theorem zrt (p:List Txt) (k:Nat) (s0:List (List Int)):∀ i,-1≤(zds p k s0 i).1∧(zds p k s0 i).1≤i
 | 0=>by simp [zds]
 | i+1=>by
  have:=zrt p k s0 i
  unfold zds zd2
  simp only
  repeat' split
  all_goals simp only[Int.natCast_add,Int.natCast_one]
  all_goals omega
theorem z72 {a b:UInt8}:(a=b)=((a.toNat:Int)=b.toNat):=by
 apply propext; constructor
 ·rintro rfl; rfl
 intro h; exact UInt8.toNat_inj.1 (by omega)
theorem zr2 {a b:Int}:(a != b) = !decide (a=b):=by by_cases h:a=b <;> simp [h]
theorem zg7 {S:Store} {k:Nat} (l:List (List Int)):(l.map eInts).mapM (reify S true (k+1))=some (l.map eInts) :=
 zce fun x hx=>by obtain ⟨a,_,rfl⟩:=List.mem_map.1 hx; simp [eInts,reify]
def ya5:List (Nat × TI):=[
 (1,⟨.func,1,8,[.nilf]⟩),
 (2,⟨.int .i64,1,8,[.int .i64 0]⟩),
 (3,⟨.int .i64,1,8,[.int .i64 0]⟩),
 (4,⟨.bool,1,1,[.bool false]⟩),
 (5,⟨.int .u8,1,1,[.int .u8 0]⟩),
 (6,⟨.int .u8,1,1,[.int .u8 0]⟩),
 (7,⟨.struct [(0,2),(1,3),(2,4),(3,6)],4,24,[.int .i64 0,.int .i64 0,.bool false,.int .u8 0]⟩),
 (8,⟨.struct [(0,2),(1,3),(2,4),(3,6)],4,24,[.int .i64 0,.int .i64 0,.bool false,.int .u8 0]⟩),
 (9,⟨.str,1,16,[.str []]⟩),
 (10,⟨.str,1,16,[.str []]⟩),
 (11,⟨.str,1,16,[.str []]⟩),
 (12,⟨.int .u64,1,8,[.int .u64 0]⟩),
 (13,⟨.struct [(0,9),(1,12)],2,24,[.str [],.int .u64 0]⟩),
 (14,⟨.struct [(0,9),(1,12)],2,24,[.str [],.int .u64 0]⟩),
 (15,⟨.ptr 220,1,8,[.nilp]⟩),
 (16,⟨.ptr 223,1,8,[.nilp]⟩),
 (17,⟨.ptr 230,1,8,[.nilp]⟩),
 (18,⟨.struct [(0,17)],1,8,[.nilp]⟩),
 (19,⟨.struct [(0,17)],1,8,[.nilp]⟩),
 (21,⟨.int .i32,1,4,[.int .i32 0]⟩),
 (22,⟨.slice 5,1,24,[.nils]⟩),
 (23,⟨.slice 9,1,24,[.nils]⟩),
 (24,⟨.slice 3,1,24,[.nils]⟩),
 (26,⟨.func,1,8,[.nilf]⟩),
 (28,⟨.func,1,8,[.nilf]⟩),
 (29,⟨.func,1,8,[.nilf]⟩),
 (31,⟨.func,1,8,[.nilf]⟩),
 (32,⟨.func,1,8,[.nilf]⟩),
 (34,⟨.func,1,8,[.nilf]⟩),
 (35,⟨.func,1,8,[.nilf]⟩),
 (36,⟨.func,1,8,[.nilf]⟩),
 (37,⟨.slice 24,1,24,[.nils]⟩),
 (39,⟨.func,1,8,[.nilf]⟩),
 (40,⟨.func,1,8,[.nilf]⟩),
 (41,⟨.func,1,8,[.nilf]⟩),
 (42,⟨.func,1,8,[.nilf]⟩),
 (43,⟨.func,1,8,[.nilf]⟩),
 (44,⟨.func,1,8,[.nilf]⟩),
 (45,⟨.func,1,8,[.nilf]⟩),
 (46,⟨.func,1,8,[.nilf]⟩),
 (48,⟨.func,1,8,[.nilf]⟩),
 (49,⟨.ptr 101,1,8,[.nilp]⟩),
 (51,⟨.func,1,8,[.nilf]⟩),
 (52,⟨.func,1,8,[.nilf]⟩),
 (53,⟨.func,1,8,[.nilf]⟩),
 (54,⟨.struct [(0,3),(1,3),(2,3),(3,3)],4,32,[.int .i64 0,.int .i64 0,.int .i64 0,.int .i64 0]⟩),
 (55,⟨.struct [(0,3),(1,3),(2,3),(3,3)],4,32,[.int .i64 0,.int .i64 0,.int .i64 0,.int .i64 0]⟩),
 (56,⟨.struct [(0,49),(1,55)],5,40,[.nilp,.int .i64 0,.int .i64 0,.int .i64 0,.int .i64 0]⟩),
 (57,⟨.struct [(0,49),(1,55)],5,40,[.nilp,.int .i64 0,.int .i64 0,.int .i64 0,.int .i64 0]⟩),
 (58,⟨.func,1,8,[.nilf]⟩),
 (59,⟨.struct [(0,4),(1,57),(6,57)],11,88,[.bool false,.nilp,.int .i64 0,.int .i64 0,.int .i64 0,.int .i64 0,.nilp,.int .i64 0,.int .i64 0,.int .i64 0,.int .i64 0]⟩),
 (60,⟨.struct [(0,4),(1,57),(6,57)],11,88,[.bool false,.nilp,.int .i64 0,.int .i64 0,.int .i64 0,.int .i64 0,.nilp,.int .i64 0,.int .i64 0,.int .i64 0,.int .i64 0]⟩),
 (61,⟨.func,1,8,[.nilf]⟩),
 (62,⟨.func,1,8,[.nilf]⟩),
 (63,⟨.func,1,8,[.nilf]⟩),
 (64,⟨.func,1,8,[.nilf]⟩),
 (65,⟨.slice 119,1,24,[.nils]⟩),
 (66,⟨.slice 119,1,24,[.nils]⟩),
 (67,⟨.struct [(0,66),(1,66)],2,48,[.nils,.nils]⟩),
 (68,⟨.struct [(0,66),(1,66)],2,48,[.nils,.nils]⟩),
 (69,⟨.func,1,8,[.nilf]⟩),
 (70,⟨.ptr 121,1,8,[.nilp]⟩),
 (71,⟨.func,1,8,[.nilf]⟩),
 (72,⟨.func,1,8,[.nilf]⟩),
 (73,⟨.func,1,8,[.nilf]⟩),
 (75,⟨.func,1,8,[.nilf]⟩),
 (76,⟨.func,1,8,[.nilf]⟩),
 (77,⟨.func,1,8,[.nilf]⟩),
 (78,⟨.func,1,8,[.nilf]⟩),
 (79,⟨.func,1,8,[.nilf]⟩),
 (81,⟨.func,1,8,[.nilf]⟩),
 (82,⟨.func,1,8,[.nilf]⟩),
 (83,⟨.func,1,8,[.nilf]⟩),
 (84,⟨.slice 87,1,24,[.nils]⟩),
 (85,⟨.func,1,8,[.nilf]⟩),
 (86,⟨.struct [(0,3),(1,3)],2,16,[.int .i64 0,.int .i64 0]⟩),
 (87,⟨.struct [(0,3),(1,3)],2,16,[.int .i64 0,.int .i64 0]⟩),
 (88,⟨.func,1,8,[.nilf]⟩),
 (90,⟨.func,1,8,[.nilf]⟩),
 (91,⟨.func,1,8,[.nilf]⟩),
 (92,⟨.func,1,8,[.nilf]⟩),
 (93,⟨.func,1,8,[.nilf]⟩),
 (94,⟨.func,1,8,[.nilf]⟩),
 (95,⟨.func,1,8,[.nilf]⟩),
 (96,⟨.func,1,8,[.nilf]⟩),
 (97,⟨.func,1,8,[.nilf]⟩),
 (98,⟨.slice 24,1,24,[.nils]⟩),
 (99,⟨.slice 55,1,24,[.nils]⟩),
 (100,⟨.struct [(0,98),(1,99)],2,48,[.nils,.nils]⟩),
 (101,⟨.struct [(0,98),(1,99)],2,48,[.nils,.nils]⟩),
 (102,⟨.func,1,8,[.nilf]⟩),
 (103,⟨.func,1,8,[.nilf]⟩),
 (105,⟨.func,1,8,[.nilf]⟩),
 (106,⟨.func,1,8,[.nilf]⟩),
 (107,⟨.func,1,8,[.nilf]⟩),
 (108,⟨.func,1,8,[.nilf]⟩),
 (110,⟨.func,1,8,[.nilf]⟩),
 (111,⟨.func,1,8,[.nilf]⟩),
 (112,⟨.func,1,8,[.nilf]⟩),
 (113,⟨.slice 116,1,24,[.nils]⟩),
 (114,⟨.func,1,8,[.nilf]⟩),
 (115,⟨.struct [(0,4),(1,3),(2,3),(3,3)],4,32,[.bool false,.int .i64 0,.int .i64 0,.int .i64 0]⟩),
 (116,⟨.struct [(0,4),(1,3),(2,3),(3,3)],4,32,[.bool false,.int .i64 0,.int .i64 0,.int .i64 0]⟩),
 (118,⟨.func,1,8,[.nilf]⟩),
 (119,⟨.slice 4,1,24,[.nils]⟩),
 (120,⟨.struct [(0,22),(1,3)],2,32,[.nils,.int .i64 0]⟩),
 (121,⟨.struct [(0,22),(1,3)],2,32,[.nils,.int .i64 0]⟩),
 (122,⟨.func,1,8,[.nilf]⟩),
 (123,⟨.func,1,8,[.nilf]⟩),
 (125,⟨.func,1,8,[.nilf]⟩),
 (126,⟨.func,1,8,[.nilf]⟩),
 (127,⟨.func,1,8,[.nilf]⟩),
 (128,⟨.func,1,8,[.nilf]⟩),
 (129,⟨.func,1,8,[.nilf]⟩),
 (130,⟨.func,1,8,[.nilf]⟩),
 (131,⟨.func,1,8,[.nilf]⟩),
 (132,⟨.func,1,8,[.nilf]⟩),
 (133,⟨.func,1,8,[.nilf]⟩),
 (134,⟨.func,1,8,[.nilf]⟩),
 (135,⟨.func,1,8,[.nilf]⟩),
 (136,⟨.func,1,8,[.nilf]⟩),
 (137,⟨.func,1,8,[.nilf]⟩),
 (138,⟨.func,1,8,[.nilf]⟩),
 (139,⟨.func,1,8,[.nilf]⟩),
 (141,⟨.func,1,8,[.nilf]⟩),
 (142,⟨.func,1,8,[.nilf]⟩),
 (143,⟨.func,1,8,[.nilf]⟩),
 (144,⟨.func,1,8,[.nilf]⟩),
 (145,⟨.func,1,8,[.nilf]⟩),
 (146,⟨.func,1,8,[.nilf]⟩),
 (147,⟨.func,1,8,[.nilf]⟩),
 (148,⟨.func,1,8,[.nilf]⟩),
 (149,⟨.func,1,8,[.nilf]⟩),
 (150,⟨.func,1,8,[.nilf]⟩),
 (151,⟨.func,1,8,[.nilf]⟩),
 (152,⟨.func,1,8,[.nilf]⟩),
 (153,⟨.func,1,8,[.nilf]⟩),
 (154,⟨.func,1,8,[.nilf]⟩),
 (155,⟨.int .u64,1,8,[.int .u64 0]⟩),
 (156,⟨.func,1,8,[.nilf]⟩),
 (157,⟨.func,1,8,[.nilf]⟩),
 (158,⟨.func,1,8,[.nilf]⟩),
 (159,⟨.func,1,8,[.nilf]⟩),
 (160,⟨.func,1,8,[.nilf]⟩),
 (161,⟨.func,1,8,[.nilf]⟩),
 (162,⟨.ptr 164,1,8,[.nilp]⟩),
 (163,⟨.struct [(0,162),(1,22)],2,32,[.nilp,.nils]⟩),
 (164,⟨.struct [(0,162),(1,22)],2,32,[.nilp,.nils]⟩),
 (167,⟨.func,1,8,[.nilf]⟩),
 (168,⟨.func,1,8,[.nilf]⟩),
 (169,⟨.func,1,8,[.nilf]⟩),
 (170,⟨.map 3 3,1,8,[.nilm]⟩),
 (171,⟨.func,1,8,[.nilf]⟩),
 (172,⟨.int .i64,1,8,[.int .i64 0]⟩),
 (174,⟨.func,1,8,[.nilf]⟩),
 (175,⟨.func,1,8,[.nilf]⟩),
 (176,⟨.func,1,8,[.nilf]⟩),
 (177,⟨.func,1,8,[.nilf]⟩),
 (178,⟨.func,1,8,[.nilf]⟩),
 (179,⟨.int .u32,1,4,[.int .u32 0]⟩),
 (180,⟨.func,1,8,[.nilf]⟩),
 (181,⟨.int .u64,1,8,[.int .u64 0]⟩),
 (182,⟨.func,1,8,[.nilf]⟩),
 (183,⟨.func,1,8,[.nilf]⟩),
 (184,⟨.func,1,8,[.nilf]⟩),
 (185,⟨.func,1,8,[.nilf]⟩),
 (186,⟨.func,1,8,[.nilf]⟩),
 (187,⟨.ptr 5,1,8,[.nilp]⟩),
 (188,⟨.func,1,8,[.nilf]⟩),
 (189,⟨.int .u64,1,8,[.int .u64 0]⟩),
 (190,⟨.func,1,8,[.nilf]⟩),
 (191,⟨.func,1,8,[.nilf]⟩),
 (192,⟨.func,1,8,[.nilf]⟩),
 (193,⟨.ptr 3,1,8,[.nilp]⟩),
 (194,⟨.func,1,8,[.nilf]⟩),
 (195,⟨.func,1,8,[.nilf]⟩),
 (196,⟨.func,1,8,[.nilf]⟩),
 (197,⟨.func,1,8,[.nilf]⟩),
 (198,⟨.func,1,8,[.nilf]⟩),
 (199,⟨.func,1,8,[.nilf]⟩),
 (200,⟨.func,1,8,[.nilf]⟩),
 (201,⟨.func,1,8,[.nilf]⟩),
 (202,⟨.func,1,8,[.nilf]⟩),
 (203,⟨.func,1,8,[.nilf]⟩),
 (205,⟨.func,1,8,[.nilf]⟩),
 (206,⟨.ptr 189,1,8,[.nilp]⟩),
 (207,⟨.func,1,8,[.nilf]⟩),
 (208,⟨.func,1,8,[.nilf]⟩),
 (209,⟨.func,1,8,[.nilf]⟩),
 (210,⟨.func,1,8,[.nilf]⟩),
 (211,⟨.func,1,8,[.nilf]⟩),
 (212,⟨.func,1,8,[.nilf]⟩),
 (213,⟨.func,1,8,[.nilf]⟩),
 (214,⟨.func,1,8,[.nilf]⟩),
 (215,⟨.func,1,8,[.nilf]⟩),
 (216,⟨.func,1,8,[.nilf]⟩),
 (217,⟨.func,1,8,[.nilf]⟩),
 (218,⟨.func,1,8,[.nilf]⟩),
 (219,⟨.struct [(0,17),(1,17),(2,17),(3,9)],4,40,[.nilp,.nilp,.nilp,.str []]⟩),
 (220,⟨.struct [(0,17),(1,17),(2,17),(3,9)],4,40,[.nilp,.nilp,.nilp,.str []]⟩),
 (221,⟨.arr 0 16,0,0,[]⟩),
 (222,⟨.struct [(0,221)],0,0,[]⟩),
 (223,⟨.struct [(0,221)],0,0,[]⟩),
 (224,⟨.int .u8,1,1,[.int .u8 0]⟩),
 (225,⟨.int .u8,1,1,[.int .u8 0]⟩),
 (226,⟨.func,1,8,[.nilf]⟩),
 (227,⟨.int .i32,1,4,[.int .i32 0]⟩),
 (228,⟨.int .i32,1,4,[.int .i32 0]⟩),
 (229,⟨.struct [(0,12),(1,12),(2,179),(3,224),(4,5),(5,5),(6,225),(7,226),(8,187),(9,227),(10,228)],11,48,[.int .u64 0,.int .u64 0,.int .u32 0,.int .u8 0,.int .u8 0,.int .u8 0,.int .u8 0,.nilf,.nilp,.int .i32 0,.int .i32 0]⟩),
 (230,⟨.struct [(0,12),(1,12),(2,179),(3,224),(4,5),(5,5),(6,225),(7,226),(8,187),(9,227),(10,228)],11,48,[.int .u64 0,.int .u64 0,.int .u32 0,.int .u8 0,.int .u8 0,.int .u8 0,.int .u8 0,.nilf,.nilp,.int .i32 0,.int .i32 0]⟩)]
def tab:Tab:=lk ya5
theorem za4:zb1 Tryz.prog tab:=yci (by kernel_rfl)
theorem mixed:Tryz.prog.follows .mixedOrders=true:=Checked.mixed Tryz.checked
theorem zaa:tab 3=⟨.int .i64,1,8,[.int .i64 0]⟩:=by kernel_rfl
theorem zbm:tab 4=⟨.bool,1,1,[.bool false]⟩:=by kernel_rfl
theorem zhh:tab 5=⟨.int .u8,1,1,[.int .u8 0]⟩:=by kernel_rfl
theorem zah:tab 9=⟨.str,1,16,[.str []]⟩:=by kernel_rfl
theorem ty4:tab 22=⟨.slice 5,1,24,[.nils]⟩:=by kernel_rfl
theorem ty3:tab 23=⟨.slice 9,1,24,[.nils]⟩:=by kernel_rfl
theorem zab:tab 24=⟨.slice 3,1,24,[.nils]⟩:=by kernel_rfl
theorem ty0:tab 37=⟨.slice 24,1,24,[.nils]⟩:=by kernel_rfl
theorem ty5:tab 49=⟨.ptr 101,1,8,[.nilp]⟩:=by kernel_rfl
theorem zbh:tab 54=⟨.struct [(0,3),(1,3),(2,3),(3,3)],4,32,[.int .i64 0,.int .i64 0,.int .i64 0,.int .i64 0]⟩:=by kernel_rfl
theorem zbg:tab 55=⟨.struct [(0,3),(1,3),(2,3),(3,3)],4,32,[.int .i64 0,.int .i64 0,.int .i64 0,.int .i64 0]⟩:=by kernel_rfl
theorem zb5:tab 56=⟨.struct [(0,49),(1,55)],5,40,[.nilp,.int .i64 0,.int .i64 0,.int .i64 0,.int .i64 0]⟩:=by kernel_rfl
theorem ty9:tab 57=⟨.struct [(0,49),(1,55)],5,40,[.nilp,.int .i64 0,.int .i64 0,.int .i64 0,.int .i64 0]⟩:=by kernel_rfl
theorem zgq:tab 59=⟨.struct [(0,4),(1,57),(6,57)],11,88,[.bool false,.nilp,.int .i64 0,.int .i64 0,.int .i64 0,.int .i64 0,.nilp,.int .i64 0,.int .i64 0,.int .i64 0,.int .i64 0]⟩:=by kernel_rfl
theorem zgp:tab 60=⟨.struct [(0,4),(1,57),(6,57)],11,88,[.bool false,.nilp,.int .i64 0,.int .i64 0,.int .i64 0,.int .i64 0,.nilp,.int .i64 0,.int .i64 0,.int .i64 0,.int .i64 0]⟩:=by kernel_rfl
theorem ty2:tab 84=⟨.slice 87,1,24,[.nils]⟩:=by kernel_rfl
theorem zf9:tab 86=⟨.struct [(0,3),(1,3)],2,16,[.int .i64 0,.int .i64 0]⟩:=by kernel_rfl
theorem zf8:tab 87=⟨.struct [(0,3),(1,3)],2,16,[.int .i64 0,.int .i64 0]⟩:=by kernel_rfl
theorem ty8:tab 98=⟨.slice 24,1,24,[.nils]⟩:=by kernel_rfl
theorem ty1:tab 99=⟨.slice 55,1,24,[.nils]⟩:=by kernel_rfl
theorem zfp:tab 100=⟨.struct [(0,98),(1,99)],2,48,[.nils,.nils]⟩:=by kernel_rfl
theorem ty7:tab 101=⟨.struct [(0,98),(1,99)],2,48,[.nils,.nils]⟩:=by kernel_rfl
theorem zrs:tab 155=⟨.int .u64,1,8,[.int .u64 0]⟩:=by kernel_rfl
theorem ty6:tab 162=⟨.ptr 164,1,8,[.nilp]⟩:=by kernel_rfl
theorem yc3:tab 163=⟨.struct [(0,162),(1,22)],2,32,[.nilp,.nils]⟩:=by kernel_rfl
theorem yc2:tab 164=⟨.struct [(0,162),(1,22)],2,32,[.nilp,.nils]⟩:=by kernel_rfl
theorem z9b:tab 170=⟨.map 3 3,1,8,[.nilm]⟩:=by kernel_rfl
theorem z9c:tab 181=⟨.int .u64,1,8,[.int .u64 0]⟩:=by kernel_rfl
theorem zw9 (n low high:Int):PC Tryz.prog 77 [.int .i64 n,.int .i64 low,.int .i64 high] (.bool (decide (low≤n) && decide (n≤high))) true:=by
 refine PC.of ⟨Tryz.func77,by kernel_rfl,rfl,by kernel_rfl⟩ za4 mixed (by show 3≤Tryz.f77.ntmps; decide) ?_
 refine W.r fun K hK=>?_
 simp(disch:=omega)only[↓RU,RV,RH,↓reduceIte,qE,reduceCtorEq,if_pos]
 apply hK;clear hK K
 refine W.r fun K hK=>?_
 by_cases h:low≤n
 ·skip
  simp(disch:=omega)only[↓RU,RV,RH,↓reduceIte,qE,reduceCtorEq,if_pos,w64,zaa,ge_iff_le,h,decide_true]
  apply hK;clear hK K
  refine W.ret ?_
  refine Br rfl ?_
  simp only[decide_true,Bool.true_and,h]; rfl
 skip
 simp(disch:=omega)only[↓RU,RV,RH,↓reduceIte,qE,reduceCtorEq,if_pos,w64,zaa,ge_iff_le,h,decide_false]
 apply hK;clear hK K
 refine W.ret ?_
 refine Br rfl ?_
 simp only[decide_false,Bool.false_and,h]; rfl
theorem zl1 {p:List Txt} (hs:Sm p):PC Tryz.prog 76 [za1 p] (.int .i64 (zcy p)) true:=by
 have hp:=hs.rows
 have hr:=hs.cols
 refine PC.of ⟨Tryz.func76,by kernel_rfl,rfl,by kernel_rfl⟩ za4 mixed (by show 1≤Tryz.f76.ntmps; decide) ?_
 refine W.r fun K hK=>?_
 simp(disch:=omega)only[↓RU,RV,RH,↓reduceIte,qE,reduceCtorEq,if_pos]
 apply hK;clear hK K
 refine W.r fun K hK=>?_
 simp(disch:=omega)only[↓RU,RV,RH,↓reduceIte,qE,reduceCtorEq,if_pos]
 apply hK;clear hK K
 refine W.seq ?_
 refine W.r fun K hK=>?_
 simp(disch:=omega)only[↓RU,RV,RH,↓reduceIte,qE,reduceCtorEq,if_pos]
 apply hK;clear hK K
 refine W.block ?_
 refine W.loop [0,3,4] (fun n vs S=>∃ i:Nat,n=p.length - i∧i≤p.length∧vs=[za1 p,.int .i64 (zcy (p.take i)),.int .i64 i]∧S=⟨[],0⟩) (p.length) ?_ ?_
 ·refine ⟨0,0,rfl,Nat.zero_le _,?_,rfl⟩
  simp [Env.put,zad,zcy]
 rintro n vs S - ⟨i,rfl,h_i,rfl,rfl⟩
 refine W.seq ?_
 refine W.r fun K hK=>?_
 simp(disch:=omega)only[↓RU,RV,RH,↓reduceIte,qE,reduceCtorEq,if_pos,w64,ty3,zaa,zah]
 apply hK;clear hK K
 refine W.cond rfl (fun h=>?_) (fun h=>?_)
 ·try simp only[RL]at h
  obtain ⟨row,hrow,hrm⟩:=zaf (show i<p.length by omega)
  have hrl:=hr row hrm
  refine W.skip ?_
  refine xn ?_
  refine W.seq ?_
  refine W.block ?_
  refine W.r fun K hK=>?_
  simp(disch:=omega)only[↓RU,RV,RH,↓reduceIte,qE,reduceCtorEq,if_pos]
  apply hK;clear hK K
  refine W.block ?_
  refine W.loop [0,3,4,5] (fun n vs S=>∃ k:Nat,n=row.length - k∧k≤row.length∧vs=[za1 p,.int .i64 (zfr (zcy (p.take i)) (row.take k)),.int .i64 i,.int .i64 k]∧S=⟨[],0⟩) (row.length) ?_ ?_
  ·refine ⟨0,0,rfl,Nat.zero_le _,?_,rfl⟩
   simp [Env.put,Env.of,zfr]
  rintro n vs S - ⟨k,rfl,h_k,rfl,rfl⟩
  refine W.seq ?_
  refine W.r fun K hK=>?_
  simp(disch:=omega)only[↓RU,RV,RH,↓reduceIte,qE,reduceCtorEq,if_pos,w64,ty3,zaa,zah,hrow]
  apply hK;clear hK K
  refine W.cond rfl (fun h1=>?_) (fun h1=>?_)
  ·try simp only[RL]at h1
   obtain ⟨c,hc,-⟩:=zaf (show k<row.length by omega)
   have hcl:=c.toNat_lt
   refine W.skip ?_
   refine xn ?_
   refine W.seq ?_
   refine W.block ?_
   refine W.k fun K hK=>?_
   simp(disch:=omega)only[↓RU,RV,RH,↓reduceIte,qE,reduceCtorEq,if_pos,w64,w64,zex,ty3,zaa,zah,zhh,hrow,hc,zex]
   apply hK;clear hK K
   refine XbN ?_
   refine xn ?_
   refine W.k fun K hK=>?_
   simp(disch:=omega)only[↓RU,RV,RH,↓reduceIte,qE,reduceCtorEq,if_pos,w64,zaa]
   apply hK;clear hK K
   refine xn ?_
   refine ⟨row.length - (k+1),by omega,0,k+1,rfl,by omega,?_,rfl⟩
   rw [tk hc]
   simp [Env.put,Env.of,zfr,List.foldl_append]
  try simp only[RL]at h1
  refine W.exit ?_
  refine xe ?_
  refine xe ?_
  refine XBlock.hit ?_
  refine XbN ?_
  refine xn ?_
  refine W.k fun K hK=>?_
  simp(disch:=omega)only[↓RU,RV,RH,↓reduceIte,qE,reduceCtorEq,if_pos,w64,zaa]
  apply hK;clear hK K
  refine xn ?_
  refine ⟨p.length - (i+1),by omega,0,i+1,rfl,by omega,?_,rfl⟩
  rw [tk hrow]
  simp [Env.put,Env.of,zcy,List.foldl_append,show k=row.length by omega]
 try simp only[RL]at h
 refine W.exit ?_
 refine xe ?_
 refine xe ?_
 refine XBlock.hit ?_
 refine xn ?_
 refine W.r fun K hK=>?_
 simp(disch:=omega)only[↓RU,RV,RH,↓reduceIte,qE,reduceCtorEq,if_pos]
 apply hK;clear hK K
 refine W.ret ?_
 refine Br rfl ?_
 have hip:i=p.length:=by omega
 subst hip
 rw [List.take_length]
 rfl
theorem zun {p q:List Txt} (hs:Sm p):PC Tryz.prog 113 [za1 p,za1 q] (.bool (decide (p=q))) true:=by
 have hp:=hs.rows
 have hr:=hs.cols
 refine PC.of ⟨Tryz.func113,by kernel_rfl,rfl,by kernel_rfl⟩ za4 mixed (by show 2≤Tryz.f113.ntmps; decide) ?_
 refine W.r fun K hK=>?_
 simp(disch:=omega)only[↓RU,RV,RH,↓reduceIte,qE,reduceCtorEq,if_pos]
 apply hK;clear hK K
 refine W.seq ?_
 refine W.r fun K hK=>?_
 simp(disch:=omega)only[↓RU,RV,RH,↓reduceIte,qE,reduceCtorEq,if_pos,w64,ty3,zaa,zah]
 apply hK;clear hK K
 refine W.cond rfl (fun h0=>?_) (fun h0=>?_)
 ·try simp only[RL]at h0
  skip
  refine W.r fun K hK=>?_
  simp(disch:=omega)only[↓RU,RV,RH,↓reduceIte,qE,reduceCtorEq,if_pos]
  apply hK;clear hK K
  refine W.ret ?_
  refine XThen.ret ?_
  refine Br rfl ?_
  have:p≠q:=fun e=>h0 (by rw [e])
  simp [this]; rfl
 try simp only[RL]at h0
 refine W.skip ?_
 refine xn ?_
 refine W.seq ?_
 refine W.r fun K hK=>?_
 simp(disch:=omega)only[↓RU,RV,RH,↓reduceIte,qE,reduceCtorEq,if_pos]
 apply hK;clear hK K
 refine W.block ?_
 refine W.loop [0,1,5] (fun n vs S=>∃ i:Nat,n=p.length - i∧i≤p.length∧(p.take i=q.take i)∧vs=[za1 p,za1 q,.int .i64 i]∧S=⟨[],0⟩) (p.length) ?_ ?_
 ·refine ⟨0,0,rfl,Nat.zero_le _,rfl,?_,rfl⟩
  simp [Env.put,Env.of,zad]
 rintro n vs S - ⟨i,rfl,h_i,hq,rfl,rfl⟩
 refine W.seq ?_
 refine W.r fun K hK=>?_
 simp(disch:=omega)only[↓RU,RV,RH,↓reduceIte,qE,reduceCtorEq,if_pos,w64,ty3,zaa,zah]
 apply hK;clear hK K
 refine W.cond rfl (fun h1=>?_) (fun h1=>?_)
 ·try simp only[RL]at h1
  obtain ⟨row,hrow,hrm⟩:=zaf (show i<p.length by omega)
  obtain ⟨row2,hrow2,-⟩:=zaf (show i<q.length by omega)
  refine W.skip ?_
  refine xn ?_
  refine W.seq ?_
  refine W.block ?_
  refine W.seq_draw (by kernel_rfl) fun K hK=>?_
  simp(disch:=omega)only[↓RU,RV,RH,↓reduceIte,qE,reduceCtorEq,if_pos,w64,ty3,zah,hrow,hrow2,z7e]
  apply hK;clear hK K
  refine W.cond rfl (fun h2=>?_) (fun h2=>?_)
  ·try simp only[RL]at h2
   refine W.r fun K hK=>?_
   simp(disch:=omega)only[↓RU,RV,RH,↓reduceIte,qE,reduceCtorEq,if_pos]
   apply hK;clear hK K
   refine W.ret ?_
   refine XBlock.ret ?_
   refine XThen.ret ?_
   refine XThen.ret ?_
   refine XBlock.ret ?_
   refine XThen.ret ?_
   refine Br rfl ?_
   have:p≠q:=fun e=>h2 (by rw [e,hrow2]at hrow; exact (Option.some.inj hrow).symm)
   simp [this]; rfl
  try simp only[RL]at h2
  refine W.skip ?_
  refine XbN ?_
  refine xn ?_
  refine W.k fun K hK=>?_
  simp(disch:=omega)only[↓RU,RV,RH,↓reduceIte,qE,reduceCtorEq,if_pos,w64,zaa]
  apply hK;clear hK K
  refine xn ?_
  refine ⟨p.length - (i+1),by omega,0,i+1,rfl,by omega,by rw [tk hrow,tk hrow2,hq,h2],?_,rfl⟩
  simp [Env.put,Env.of]
 try simp only[RL]at h1
 refine W.exit ?_
 refine xe ?_
 refine xe ?_
 refine XBlock.hit ?_
 refine xn ?_
 refine W.r fun K hK=>?_
 simp(disch:=omega)only[↓RU,RV,RH,↓reduceIte,qE,reduceCtorEq,if_pos]
 apply hK;clear hK K
 refine W.ret ?_
 refine Br rfl ?_
 have hip:i=p.length:=by omega
 have h0n:p.length=q.length:=by omega
 have:p=q:=by rw [hip,List.take_length,h0n,List.take_length]at hq; exact hq
 simp [this]; rfl
theorem z0y {p:List Txt} (hs:Sm p) (hc1:p.length≤1000) (hc2:∀ r∈p,r.length≤1000) (room:Int):PC Tryz.prog 116 [za1 p,.int .i64 room] (.int .i64 (zey p room)) true:=by
 have hp:=hs.rows
 have hr:=hs.cols
 refine PC.of ⟨Tryz.func116,by kernel_rfl,rfl,by kernel_rfl⟩ za4 mixed (by show 2≤Tryz.f116.ntmps; decide) ?_
 refine W.r fun K hK=>?_
 simp(disch:=omega)only[↓RU,RV,RH,↓reduceIte,qE,reduceCtorEq,if_pos]
 apply hK;clear hK K
 refine W.r fun K hK=>?_
 simp(disch:=omega)only[↓RU,RV,RH,↓reduceIte,qE,reduceCtorEq,if_pos]
 apply hK;clear hK K
 refine W.seq ?_
 refine W.r fun K hK=>?_
 simp(disch:=omega)only[↓RU,RV,RH,↓reduceIte,qE,reduceCtorEq,if_pos]
 apply hK;clear hK K
 refine W.block ?_
 refine W.loop [0,1,5,6] (fun n vs S=>∃ i:Nat,n=p.length - i∧i≤p.length∧vs=[za1 p,.int .i64 room,.int .i64 (zey (p.take i) room),.int .i64 i]∧S=⟨[],0⟩) (p.length) ?_ ?_
 ·refine ⟨0,0,rfl,Nat.zero_le _,?_,rfl⟩
  simp [Env.put,zad,zey]
 rintro n vs S - ⟨i,rfl,h_i,rfl,rfl⟩
 refine W.seq ?_
 refine W.r fun K hK=>?_
 simp(disch:=omega)only[↓RU,RV,RH,↓reduceIte,qE,reduceCtorEq,if_pos,w64,ty3,zaa,zah]
 apply hK;clear hK K
 refine W.cond rfl (fun h=>?_) (fun h=>?_)
 ·try simp only[RL]at h
  obtain ⟨row,hrow,hrm⟩:=zaf (show i<p.length by omega)
  have hrl:=hr row hrm
  refine W.skip ?_
  refine xn ?_
  refine W.seq ?_
  refine W.block ?_
  refine W.r fun K hK=>?_
  simp(disch:=omega)only[↓RU,RV,RH,↓reduceIte,qE,reduceCtorEq,if_pos]
  apply hK;clear hK K
  refine W.block ?_
  refine W.loop [0,1,5,6,7] (fun n vs S=>∃ k:Nat,n=row.length - k∧k≤row.length∧vs=[za1 p,.int .i64 room,.int .i64 (zc4 room (zey (p.take i) room) (row.take k)),.int .i64 i,.int .i64 k]∧S=⟨[],0⟩) (row.length) ?_ ?_
  ·refine ⟨0,0,rfl,Nat.zero_le _,?_,rfl⟩
   simp [Env.put,Env.of,zc4]
  rintro n vs S - ⟨k,rfl,h_k,rfl,rfl⟩
  refine W.seq ?_
  refine W.r fun K hK=>?_
  simp(disch:=omega)only[↓RU,RV,RH,↓reduceIte,qE,reduceCtorEq,if_pos,w64,ty3,zaa,zah,hrow]
  apply hK;clear hK K
  refine W.cond rfl (fun h1=>?_) (fun h1=>?_)
  ·try simp only[RL]at h1
   obtain ⟨c,hc,-⟩:=zaf (show k<row.length by omega)
   have hcl:=c.toNat_lt
   have hb1:=zsf room (p.take i) fun r hr=>hc2 r (List.mem_of_mem_take hr)
   have hb2:=zg0 room (row.take k) (zey (p.take i) room)
   have hb3:=List.length_take_le i p
   have hb4:=List.length_take_le k row
   refine W.skip ?_
   refine xn ?_
   refine W.seq ?_
   refine W.block ?_
   refine W.r fun K hK=>?_
   simp(disch:=omega)only[↓RU,RV,RH,↓reduceIte,qE,reduceCtorEq,if_pos,w64,w64,ty3,zaa,zah,zhh,hrow,hc]
   apply hK;clear hK K
   refine W.cond rfl (fun h2=>?_) (fun h2=>?_)
   ·try simp only[RL]at h2
    refine W.k fun K hK=>?_
    simp(disch:=omega)only[↓RU,RV,RH,↓reduceIte,qE,reduceCtorEq,if_pos,w64,zaa]
    apply hK;clear hK K
    refine XbN ?_
    refine xn ?_
    refine W.k fun K hK=>?_
    simp(disch:=omega)only[↓RU,RV,RH,↓reduceIte,qE,reduceCtorEq,if_pos,w64,zaa]
    apply hK;clear hK K
    refine xn ?_
    refine ⟨row.length - (k+1),by omega,0,k+1,rfl,by omega,?_,rfl⟩
    rw [tk hc]
    simp [Env.put,Env.of,zc4,List.foldl_append,zje,h2]
   try simp only[RL]at h2
   refine W.skip ?_
   refine XbN ?_
   refine xn ?_
   refine W.k fun K hK=>?_
   simp(disch:=omega)only[↓RU,RV,RH,↓reduceIte,qE,reduceCtorEq,if_pos,w64,zaa]
   apply hK;clear hK K
   refine xn ?_
   refine ⟨row.length - (k+1),by omega,0,k+1,rfl,by omega,?_,rfl⟩
   rw [tk hc]
   simp [Env.put,Env.of,zc4,List.foldl_append,zje,h2]
  try simp only[RL]at h1
  refine W.exit ?_
  refine xe ?_
  refine xe ?_
  refine XBlock.hit ?_
  refine XbN ?_
  refine xn ?_
  refine W.k fun K hK=>?_
  simp(disch:=omega)only[↓RU,RV,RH,↓reduceIte,qE,reduceCtorEq,if_pos,w64,zaa]
  apply hK;clear hK K
  refine xn ?_
  refine ⟨p.length - (i+1),by omega,0,i+1,rfl,by omega,?_,rfl⟩
  rw [tk hrow]
  simp [Env.put,Env.of,zey,List.foldl_append,show k=row.length by omega]
 try simp only[RL]at h
 refine W.exit ?_
 refine xe ?_
 refine xe ?_
 refine XBlock.hit ?_
 refine xn ?_
 refine W.r fun K hK=>?_
 simp(disch:=omega)only[↓RU,RV,RH,↓reduceIte,qE,reduceCtorEq,if_pos]
 apply hK;clear hK K
 refine W.ret ?_
 refine Br rfl ?_
 have hip:i=p.length:=by omega
 subst hip
 rw [List.take_length]
 rfl
theorem z29 {p:List Txt} (hs:Sm p) (hne:0<p.length) (room:Int):PC Tryz.prog 115 [za1 p,.int .i64 room] (.tup [.int .i64 (zoh p room).top,.int .i64 (zoh p room).left,.int .i64 (zhu p room),.int .i64 (zhx p room)]) true:=by
 have hp:=hs.rows
 have hr:=hs.cols
 obtain ⟨row0,hrow0,hrm0⟩:=zaf hne
 have hrl0:=hr row0 hrm0
 have hhd:=zcj hrow0
 refine PC.of ⟨Tryz.func115,by kernel_rfl,rfl,by kernel_rfl⟩ za4 mixed (by show 2≤Tryz.f115.ntmps; decide) ?_
 refine W.r fun K hK=>?_
 simp(disch:=omega)only[↓RU,RV,RH,↓reduceIte,qE,reduceCtorEq,if_pos]
 apply hK;clear hK K
 refine W.r fun K hK=>?_
 simp(disch:=omega)only[↓RU,RV,RH,↓reduceIte,qE,reduceCtorEq,if_pos,ty3,zah]
 apply hK;clear hK K
 refine W.r fun K hK=>?_
 simp(disch:=omega)only[↓RU,RV,RH,↓reduceIte,qE,reduceCtorEq,if_pos,ty3,zah,hrow0,Int.toNat_zero,Nat.zero_mul,qZ]
 apply hK;clear hK K
 refine W.r fun K hK=>?_
 simp(disch:=omega)only[↓RU,RV,RH,↓reduceIte,qE,reduceCtorEq,if_pos]
 apply hK;clear hK K
 refine W.r fun K hK=>?_
 simp(disch:=omega)only[↓RU,RV,RH,↓reduceIte,qE,reduceCtorEq,if_pos]
 apply hK;clear hK K
 refine W.seq ?_
 refine W.r fun K hK=>?_
 simp(disch:=omega)only[↓RU,RV,RH,↓reduceIte,qE,reduceCtorEq,if_pos]
 apply hK;clear hK K
 refine W.block ?_
 refine W.loop [0,1,8,9,10,11,12] (fun n vs S=>∃ i:Nat,n=p.length - i∧i≤p.length∧vs=[za1 p,.int .i64 room,.int .i64 (zhy p room i).top,.int .i64 (zhy p room i).left,.int .i64 (zhy p room i).low,.int .i64 (zhy p room i).right,.int .i64 i]∧S=⟨[],0⟩) (p.length) ?_ ?_
 ·refine ⟨0,0,rfl,Nat.zero_le _,?_,rfl⟩
  simp [Env.put,zad,zhy,hhd]
 rintro n vs S - ⟨i,rfl,h_i,rfl,rfl⟩
 refine W.seq ?_
 refine W.r fun K hK=>?_
 simp(disch:=omega)only[↓RU,RV,RH,↓reduceIte,qE,reduceCtorEq,if_pos,w64,ty3,zaa,zah]
 apply hK;clear hK K
 refine W.cond rfl (fun h=>?_) (fun h=>?_)
 ·try simp only[RL]at h
  obtain ⟨row,hrow,hrm⟩:=zaf (show i<p.length by omega)
  have hrl:=hr row hrm
  refine W.skip ?_
  refine xn ?_
  refine W.seq ?_
  refine W.block ?_
  refine W.r fun K hK=>?_
  simp(disch:=omega)only[↓RU,RV,RH,↓reduceIte,qE,reduceCtorEq,if_pos]
  apply hK;clear hK K
  refine W.block ?_
  refine W.loop [0,1,8,9,10,11,12,13] (fun n vs S=>∃ k:Nat,n=row.length - k∧k≤row.length∧vs=[za1 p,.int .i64 room,.int .i64 (zk7 room i (zhy p room i) row k).top,.int .i64 (zk7 room i (zhy p room i) row k).left,.int .i64 (zk7 room i (zhy p room i) row k).low,.int .i64 (zk7 room i (zhy p room i) row k).right,.int .i64 i,.int .i64 k]∧S=⟨[],0⟩) (row.length) ?_ ?_
  ·refine ⟨0,0,rfl,Nat.zero_le _,?_,rfl⟩
   simp [Env.put,Env.of,zk7]
  rintro n vs S - ⟨k,rfl,h_k,rfl,rfl⟩
  refine W.seq ?_
  refine W.r fun K hK=>?_
  simp(disch:=omega)only[↓RU,RV,RH,↓reduceIte,qE,reduceCtorEq,if_pos,w64,ty3,zaa,zah,hrow]
  apply hK;clear hK K
  refine W.cond rfl (fun h1=>?_) (fun h1=>?_)
  ·try simp only[RL]at h1
   obtain ⟨c,hc,-⟩:=zaf (show k<row.length by omega)
   have hcl:=c.toNat_lt
   refine W.skip ?_
   refine xn ?_
   refine W.seq ?_
   refine W.block ?_
   refine W.r fun K hK=>?_
   simp(disch:=omega)only[↓RU,RV,RH,↓reduceIte,qE,reduceCtorEq,if_pos,w64,w64,ty3,zaa,zah,zhh,hrow,hc]
   apply hK;clear hK K
   refine W.cond rfl (fun h2=>?_) (fun h2=>?_)
   ·try simp only[RL]at h2
    refine W.r fun K hK=>?_
    simp(disch:=omega)only[↓RU,RV,RH,↓reduceIte,qE,reduceCtorEq,if_pos,zw6,zaa]
    apply hK;clear hK K
    refine W.r fun K hK=>?_
    simp(disch:=omega)only[↓RU,RV,RH,↓reduceIte,qE,reduceCtorEq,if_pos,zw6,zaa]
    apply hK;clear hK K
    refine W.r fun K hK=>?_
    simp(disch:=omega)only[↓RU,RV,RH,↓reduceIte,qE,reduceCtorEq,if_pos,zex,zaa]
    apply hK;clear hK K
    refine W.k fun K hK=>?_
    simp(disch:=omega)only[↓RU,RV,RH,↓reduceIte,qE,reduceCtorEq,if_pos,zex,zaa]
    apply hK;clear hK K
    refine XbN ?_
    refine xn ?_
    refine W.k fun K hK=>?_
    simp(disch:=omega)only[↓RU,RV,RH,↓reduceIte,qE,reduceCtorEq,if_pos,w64,zaa]
    apply hK;clear hK K
    refine xn ?_
    refine ⟨row.length - (k+1),by omega,0,k+1,rfl,by omega,?_,rfl⟩
    rw [zi2 hc]
    simp [Env.put,Env.of,zjn,zje,h2]
   try simp only[RL]at h2
   refine W.skip ?_
   refine XbN ?_
   refine xn ?_
   refine W.k fun K hK=>?_
   simp(disch:=omega)only[↓RU,RV,RH,↓reduceIte,qE,reduceCtorEq,if_pos,w64,zaa]
   apply hK;clear hK K
   refine xn ?_
   refine ⟨row.length - (k+1),by omega,0,k+1,rfl,by omega,?_,rfl⟩
   rw [zi2 hc]
   simp [Env.put,Env.of,zjn,zje,h2]
  try simp only[RL]at h1
  refine W.exit ?_
  refine xe ?_
  refine xe ?_
  refine XBlock.hit ?_
  refine XbN ?_
  refine xn ?_
  refine W.k fun K hK=>?_
  simp(disch:=omega)only[↓RU,RV,RH,↓reduceIte,qE,reduceCtorEq,if_pos,w64,zaa]
  apply hK;clear hK K
  refine xn ?_
  refine ⟨p.length - (i+1),by omega,0,i+1,rfl,by omega,?_,rfl⟩
  rw [zls hrow]
  simp [Env.put,Env.of,show k=row.length by omega]
 try simp only[RL]at h
 refine W.exit ?_
 refine xe ?_
 refine xe ?_
 refine XBlock.hit ?_
 refine xn ?_
 refine W.r fun K hK=>?_
 have hip:i=p.length:=by omega
 subst hip
 have hbb:=zjo room hs.1 hs.2 p.length (qR _)
 rw [zke]at hbb
 simp only[Box.In]at hbb
 simp(disch:=omega)only[↓RU,RV,RH,↓reduceIte,qE,reduceCtorEq,if_pos,w64,zaa,zke]
 apply hK;clear hK K
 refine W.ret ?_
 refine Br rfl ?_
 rfl
theorem zko {p:List Txt} (hs:Sm p):PC Tryz.prog 112 [za1 p] (.bool (zcp p)) true:=by
 have hp:=hs.rows
 have hr:=hs.cols
 refine PC.of ⟨Tryz.func112,by kernel_rfl,rfl,by kernel_rfl⟩ za4 mixed (by show 1≤Tryz.f112.ntmps; decide) ?_
 refine W.r fun K hK=>?_
 simp(disch:=omega)only[↓RU,RV,RH,↓reduceIte,qE,reduceCtorEq,if_pos]
 apply hK;clear hK K
 refine W.seq ?_
 refine W.r fun K hK=>?_
 simp(disch:=omega)only[↓RU,RV,RH,↓reduceIte,qE,reduceCtorEq,if_pos]
 apply hK;clear hK K
 refine W.block ?_
 refine W.loop [0,3] (fun n vs S=>∃ i:Nat,n=p.length - i∧i≤p.length∧((p.take i).all (zqb (zax p).length)=true)∧vs=[za1 p,.int .i64 i]∧S=⟨[],0⟩) (p.length) ?_ ?_
 ·refine ⟨0,0,rfl,Nat.zero_le _,rfl,?_,rfl⟩
  simp [Env.put,Env.of,zad]
 rintro n vs S - ⟨i,rfl,h_i,hg,rfl,rfl⟩
 refine W.seq ?_
 refine W.r fun K hK=>?_
 simp(disch:=omega)only[↓RU,RV,RH,↓reduceIte,qE,reduceCtorEq,if_pos,w64,ty3,zaa,zah]
 apply hK;clear hK K
 refine W.cond rfl (fun h=>?_) (fun h=>?_)
 ·try simp only[RL]at h
  obtain ⟨row,hrow,hrm⟩:=zaf (show i<p.length by omega)
  have hrl:=hr row hrm
  obtain ⟨row0,hrow0,hrm0⟩:=zaf (show 0<p.length by omega)
  have hhd:=zcj hrow0
  refine W.skip ?_
  refine xn ?_
  refine W.seq ?_
  refine W.block ?_
  refine W.seq ?_
  refine W.seq_draw (by kernel_rfl) fun K hK=>?_
  cases hw:((row.length:Int) != (row0.length:Int))
  ·skip
   simp(disch:=omega)only[↓RU,RV,RH,↓reduceIte,qE,reduceCtorEq,if_pos,w64,qN,ty3,zaa,zah,hrow,hrow0,Int.toNat_zero,Nat.zero_mul,qZ,hw]
   refine zag.pc (zw9 _ _ _) rfl (.inl rfl) ?_
   simp(disch:=omega)only[↓RU,RV,RH,↓reduceIte,qE,reduceCtorEq,if_pos,w64,qN,ty3,zaa,zah,hrow,hrow0,Int.toNat_zero,Nat.zero_mul,qZ,hw]
   apply hK;clear hK K
   simp only[bne_eq_false_iff_eq]at hw
   refine W.cond rfl (fun h2=>?_) (fun h2=>?_)
   ·skip
    simp only[Bool.not_eq_true',Bool.and_eq_false_iff,decide_eq_false_iff_not]at h2
    refine W.r fun K hK=>?_
    simp(disch:=omega)only[↓RU,RV,RH,↓reduceIte,qE,reduceCtorEq,if_pos]
    apply hK;clear hK K
    refine W.ret ?_
    refine XThen.ret ?_
    refine XBlock.ret ?_
    refine XThen.ret ?_
    refine XThen.ret ?_
    refine XBlock.ret ?_
    refine XThen.ret ?_
    refine Br rfl ?_
    rw [znu hrow (by cases hb:zqb (zax p).length row with | false=>rfl | true=>exfalso; simp only[zqb,qB,decide_eq_true_eq]at hb; rw [hhd]at hb; omega)]
    rfl
   skip
   simp only[Bool.not_eq_false',qB,decide_eq_true_eq]at h2
   refine W.skip ?_
   refine xn ?_
   refine W.r fun K hK=>?_
   simp(disch:=omega)only[↓RU,RV,RH,↓reduceIte,qE,reduceCtorEq,if_pos]
   apply hK;clear hK K
   refine W.block ?_
   refine W.loop [0,3,4] (fun n vs S=>∃ k:Nat,n=row.length - k∧k≤row.length∧((row.take k).all zcs=true)∧vs=[za1 p,.int .i64 i,.int .i64 k]∧S=⟨[],0⟩) (row.length) ?_ ?_
   ·refine ⟨0,0,rfl,Nat.zero_le _,rfl,?_,rfl⟩
    simp [Env.put,Env.of,zad]
   rintro n vs S - ⟨k,rfl,h_k,hl,rfl,rfl⟩
   refine W.seq ?_
   refine W.r fun K hK=>?_
   simp(disch:=omega)only[↓RU,RV,RH,↓reduceIte,qE,reduceCtorEq,if_pos,w64,ty3,zaa,zah,hrow]
   apply hK;clear hK K
   refine W.cond rfl (fun h3=>?_) (fun h3=>?_)
   ·try simp only[RL]at h3
    obtain ⟨c,hc,-⟩:=zaf (show k<row.length by omega)
    have hcl:=c.toNat_lt
    refine W.skip ?_
    refine xn ?_
    refine W.seq ?_
    refine W.block ?_
    refine W.r fun K hK=>?_
    cases hlo:decide ((c.toNat:Int)<97)
    ·skip
     simp(disch:=omega)only[↓RU,RV,RH,↓reduceIte,qE,reduceCtorEq,if_pos,w64,ty3,zah,zhh,hrow,hc,hlo]
     apply hK;clear hK K
     refine W.cond rfl (fun h4=>?_) (fun h4=>?_)
     ·try simp only[RL]at h4
      refine W.r fun K hK=>?_
      simp(disch:=omega)only[↓RU,RV,RH,↓reduceIte,qE,reduceCtorEq,if_pos]
      apply hK;clear hK K
      refine W.ret ?_
      refine XBlock.ret ?_
      refine XThen.ret ?_
      refine XThen.ret ?_
      refine XBlock.ret ?_
      refine XBlock.ret ?_
      refine XThen.ret ?_
      refine XThen.ret ?_
      refine XBlock.ret ?_
      refine XThen.ret ?_
      refine Br rfl ?_
      rw [znu hrow (zk9 hc (by cases hb:zcs c with | false=>rfl | true=>exfalso; simp only[zcs,qB,decide_eq_true_eq]at hb; omega))]
      rfl
     try simp only[RL]at h4
     refine W.skip ?_
     refine XbN ?_
     refine xn ?_
     refine W.k fun K hK=>?_
     simp(disch:=omega)only[↓RU,RV,RH,↓reduceIte,qE,reduceCtorEq,if_pos,w64,zaa]
     apply hK;clear hK K
     refine xn ?_
     refine ⟨row.length - (k+1),by omega,0,k+1,rfl,by omega,zmp hc hl (by simp only[decide_eq_false_iff_not]at hlo; simp only[zcs,qB,decide_eq_true_eq]; omega),?_,rfl⟩
     simp [Env.put,Env.of]
    skip
    simp(disch:=omega)only[↓RU,RV,RH,↓reduceIte,qE,reduceCtorEq,if_pos,w64,ty3,zah,zhh,hrow,hc,hlo]
    apply hK;clear hK K
    refine W.cond rfl (fun h4=>?_) (fun h4=>?_)
    ·try simp only[RL]at h4
     refine W.r fun K hK=>?_
     simp(disch:=omega)only[↓RU,RV,RH,↓reduceIte,qE,reduceCtorEq,if_pos]
     apply hK;clear hK K
     refine W.ret ?_
     refine XBlock.ret ?_
     refine XThen.ret ?_
     refine XThen.ret ?_
     refine XBlock.ret ?_
     refine XBlock.ret ?_
     refine XThen.ret ?_
     refine XThen.ret ?_
     refine XBlock.ret ?_
     refine XThen.ret ?_
     refine Br rfl ?_
     simp only[decide_eq_true_eq]at hlo
     rw [znu hrow (zk9 hc (by cases hb:zcs c with | false=>rfl | true=>exfalso; simp only[zcs,qB,decide_eq_true_eq]at hb; omega))]
     rfl
    try simp only[RL]at h4
    exact absurd h4 (by simp)
   try simp only[RL]at h3
   have hl2:row.all zcs=true:=by rw [show k=row.length by omega,List.take_length]at hl; exact hl
   refine W.exit ?_
   refine xe ?_
   refine xe ?_
   refine XBlock.hit ?_
   refine XbN ?_
   refine xn ?_
   refine W.k fun K hK=>?_
   simp(disch:=omega)only[↓RU,RV,RH,↓reduceIte,qE,reduceCtorEq,if_pos,w64,zaa]
   apply hK;clear hK K
   refine xn ?_
   refine ⟨p.length - (i+1),by omega,0,i+1,rfl,by omega,zmp hrow hg (by rw [hhd]; simp only[zqb,hl2,Bool.and_true,qB,decide_eq_true_eq]; omega),?_,rfl⟩
   simp [Env.put,Env.of]
  skip
  simp(disch:=omega)only[↓RU,RV,RH,↓reduceIte,qE,reduceCtorEq,if_pos,w64,qN,ty3,zaa,zah,hrow,hrow0,Int.toNat_zero,Nat.zero_mul,qZ,hw]
  apply hK;clear hK K
  simp only[bne_iff_ne,ne_eq]at hw
  refine W.cond rfl (fun h2=>?_) (fun h2=>?_)
  ·try simp only[RL]at h2
   refine W.r fun K hK=>?_
   simp(disch:=omega)only[↓RU,RV,RH,↓reduceIte,qE,reduceCtorEq,if_pos]
   apply hK;clear hK K
   refine W.ret ?_
   refine XThen.ret ?_
   refine XBlock.ret ?_
   refine XThen.ret ?_
   refine XThen.ret ?_
   refine XBlock.ret ?_
   refine XThen.ret ?_
   refine Br rfl ?_
   rw [znu hrow (by cases hb:zqb (zax p).length row with | false=>rfl | true=>exfalso; simp only[zqb,qB,decide_eq_true_eq]at hb; rw [hhd]at hb; omega)]
   rfl
  try simp only[RL]at h2
  exact absurd h2 (by simp)
 try simp only[RL]at h
 refine W.exit ?_
 refine xe ?_
 refine xe ?_
 refine XBlock.hit ?_
 refine xn ?_
 refine W.r fun K hK=>?_
 simp(disch:=omega)only[↓RU,RV,RH,↓reduceIte,qE,reduceCtorEq,if_pos,qN,ty3,zah]
 refine zag.pc (zw9 _ _ _) rfl (.inl rfl) ?_
 simp(disch:=omega)only[↓RU,RV,RH,↓reduceIte,qE,reduceCtorEq,if_pos,qN,ty3,zah]
 apply hK;clear hK K
 refine W.ret ?_
 refine Br rfl ?_
 have hip:i=p.length:=by omega
 rw [hip,List.take_length]at hg
 rw [z2u hg,← yby]
 rfl
theorem zq1 {p:List Txt} (hs:Sm p):PC Tryz.prog 114 [za1 p] (za1 (names p)) true:=by
 have hp:=hs.rows
 have hr:=hs.cols
 refine PC.of ⟨Tryz.func114,by kernel_rfl,rfl,by kernel_rfl⟩ za4 mixed (by show 1≤Tryz.f114.ntmps; decide) ?_
 refine W.r fun K hK=>?_
 simp(disch:=omega)only[↓RU,RV,RH,↓reduceIte,qE,reduceCtorEq,if_pos,↓RS,RG,qA,qM,qL]
 apply hK;clear hK K
 refine W.r fun K hK=>?_
 simp(disch:=omega)only[↓RU,RV,RH,↓reduceIte,qE,reduceCtorEq,if_pos,↓RS,RG,qA,qM,qL,ty4,zhh]
 apply hK;clear hK K
 refine W.r fun K hK=>?_
 simp(disch:=omega)only[↓RU,RV,RH,↓reduceIte,qE,reduceCtorEq,if_pos,↓RS,RG,qA,qM,qL,ty3,zah]
 apply hK;clear hK K
 refine W.seq ?_
 refine W.r fun K hK=>?_
 simp(disch:=omega)only[↓RU,RV,RH,↓reduceIte,qE,reduceCtorEq,if_pos,↓RS,RG,qA,qM,qL]
 apply hK;clear hK K
 refine W.block ?_
 refine W.loop [0,3,4,5] (fun n vs S=>∃ i v0 v1 tk:Nat,n=p.length - i∧i≤p.length∧vs=[za1 p,.loc 0 v0 0 (zer p i).1.length,.loc 1 v1 0 (zer p i).2.length,.int .i64 i]∧S=⟨[.arr v0 5 1 ((zer p i).1.map eB),.arr v1 9 1 ((zer p i).2.map .str)],tk⟩) (p.length) ?_ ?_
 ·refine ⟨2,0,0,1,2,rfl,Nat.zero_le _,?_,rfl⟩
  simp [Env.put,Env.of,zad,zer]
 rintro n vs S - ⟨i,v0,v1,tk,rfl,h_i,rfl,rfl⟩
 refine W.seq ?_
 refine W.r fun K hK=>?_
 simp(disch:=omega)only[↓RU,RV,RH,↓reduceIte,qE,reduceCtorEq,if_pos,w64,↓RS,RG,qA,qM,qL,ty3,zaa,zah]
 apply hK;clear hK K
 refine W.cond rfl (fun h=>?_) (fun h=>?_)
 ·try simp only[RL]at h
  obtain ⟨row,hrow,hrm⟩:=zaf (show i<p.length by omega)
  have hrl:=hr row hrm
  have hal:=zod hs.2 h_i
  have hs1:=hs.1
  refine W.skip ?_
  refine xn ?_
  refine W.seq ?_
  refine W.block ?_
  refine W.r fun K hK=>?_
  simp(disch:=omega)only[↓RU,RV,RH,↓reduceIte,qE,reduceCtorEq,if_pos,↓RS,RG,qA,qM,qL,ty4,zhh]
  apply hK;clear hK K
  refine W.seq ?_
  refine W.r fun K hK=>?_
  simp(disch:=omega)only[↓RU,RV,RH,↓reduceIte,qE,reduceCtorEq,if_pos,↓RS,RG,qA,qM,qL]
  apply hK;clear hK K
  refine W.block ?_
  refine W.loop [0,3,4,5,6,7] (fun n vs S=>∃ k v0 v2 tk:Nat,n=row.length - k∧k≤row.length∧vs=[za1 p,.loc 0 v0 0 (zk5 (zer p i).1 row k).1.length,.loc 1 v1 0 (zer p i).2.length,.int .i64 i,.loc 2 v2 0 (zk5 (zer p i).1 row k).2.length,.int .i64 k]∧S=⟨[.arr v0 5 1 ((zk5 (zer p i).1 row k).1.map eB),.arr v1 9 1 ((zer p i).2.map .str),.arr v2 5 1 ((zk5 (zer p i).1 row k).2.map eB)],tk⟩) (row.length) ?_ ?_
  ·refine ⟨3,0,v0,tk,tk+1,rfl,Nat.zero_le _,?_,rfl⟩
   simp [Env.put,Env.of,zad,zk5]
  rintro n vs S - ⟨k,v0,v2,tk,rfl,h_k,rfl,rfl⟩
  refine W.seq ?_
  refine W.r fun K hK=>?_
  simp(disch:=omega)only[↓RU,RV,RH,↓reduceIte,qE,reduceCtorEq,if_pos,w64,↓RS,RG,qA,qM,qL,ty3,zaa,zah,hrow]
  apply hK;clear hK K
  refine W.cond rfl (fun h1=>?_) (fun h1=>?_)
  ·try simp only[RL]at h1
   obtain ⟨c,hc,-⟩:=zaf (show k<row.length by omega)
   have hcl:=c.toNat_lt
   have hrs:=zk6 (o:=(zer p i).1) h_k
   generalize hst:zk5 (zer p i).1 row k=st at hrs ⊢
   refine W.skip ?_
   refine xn ?_
   refine W.seq ?_
   refine W.block ?_
   refine W.r fun K hK=>?_
   simp(disch:=omega)only[↓RU,RV,RH,↓reduceIte,qE,reduceCtorEq,if_pos,↓RS,RG,qA,qM,qL]
   apply hK;clear hK K
   refine W.seq ?_
   refine W.block ?_
   refine W.loop [0,3,4,5,6,7,8] (fun n vs S=>∃ a:Nat,n=st.1.length - a∧a≤st.1.length∧(∀ j,j<a→st.1[j]?≠some c)∧vs=[za1 p,.loc 0 v0 0 st.1.length,.loc 1 v1 0 (zer p i).2.length,.int .i64 i,.loc 2 v2 0 st.2.length,.int .i64 k,.int .i64 a]∧S=⟨[.arr v0 5 1 (st.1.map eB),.arr v1 9 1 ((zer p i).2.map .str),.arr v2 5 1 (st.2.map eB)],tk⟩) (st.1.length) ?_ ?_
   ·refine ⟨3,0,rfl,Nat.zero_le _,fun j hj=>absurd hj (Nat.not_lt_zero _),?_,rfl⟩
    simp [Env.put,Env.of,zad]
   rintro n vs S - ⟨a,rfl,h_a,ha,rfl,rfl⟩
   refine W.seq ?_
   refine W.seq_draw (by kernel_rfl) fun K hK=>?_
   cases ho:decide ((a:Int)<(st.1.length:Int))
   ·skip
    simp(disch:=omega)only[↓RU,RV,RH,↓reduceIte,qE,reduceCtorEq,if_pos,w64,↓RS,RG,qA,qM,qL,ty3,ty4,zaa,zah,zhh,hrow,hc,ho]
    apply hK;clear hK K
    refine W.cond rfl (fun h2=>?_) (fun h2=>?_)
    ·try simp only[RL]at h2
     exact absurd h2 (by simp)
    ·try simp only[RL]at h2
     have hal2:a=st.1.length:=by simp at ho; omega
     have hix:st.1.idxOf c=a:=zsb ha (.inl hal2)
     refine W.exit ?_
     refine xe ?_
     refine xe ?_
     refine XBlock.hit ?_
     refine xn ?_
     refine W.seq ?_
     refine W.r fun K hK=>?_
     simp(disch:=omega)only[↓RU,RV,RH,↓reduceIte,qE,reduceCtorEq,if_pos,w64,↓RS,RG,qA,qM,qL,ty4,zaa,zhh]
     apply hK;clear hK K
     refine W.cond rfl (fun h3=>?_) (fun h3=>?_)
     ·try simp only[RL]at h3
      refine W.k fun K hK=>?_
      simp(disch:=omega)only[↓RU,RV,RH,↓reduceIte,qE,reduceCtorEq,if_pos,↓RS,RG,qA,qM,qL,ty3,ty4,zah,zhh,hrow,hc]
      apply hK;clear hK K
      refine xn ?_
      refine W.k fun K hK=>?_
      simp(disch:=omega)only[↓RU,RV,RH,↓reduceIte,qE,reduceCtorEq,if_pos,w64,w64,↓RS,RG,qA,qM,qL,ty4,zaa,zhh,ya8]
      apply hK;clear hK K
      refine XbN ?_
      refine xn ?_
      refine W.k fun K hK=>?_
      simp(disch:=omega)only[↓RU,RV,RH,↓reduceIte,qE,reduceCtorEq,if_pos,w64,↓RS,RG,qA,qM,qL,zaa]
      apply hK;clear hK K
      refine xn ?_
      refine ⟨row.length - (k+1),by omega,3,k+1,tk+1,tk+3,tk+4,rfl,by omega,?_,?_⟩
      all_goals rw [zme hc,hst,z62 hix hal2]
      all_goals simp [Env.put,Env.of,zch]
     try simp only[RL]at h3
     simp at ho; omega
   ·skip
    obtain ⟨x,hx,-⟩:=zaf (show a<st.1.length by simpa using ho)
    have ho2:a<st.1.length:=by simpa using ho
    simp(disch:=omega)only[↓RU,RV,RH,↓reduceIte,qE,reduceCtorEq,if_pos,w64,↓RS,RG,qA,qM,qL,ty3,ty4,zaa,zah,zhh,hrow,hc,ho,hx]
    apply hK;clear hK K
    refine W.cond rfl (fun h2=>?_) (fun h2=>?_)
    ·try simp only[RL]at h2
     refine W.skip ?_
     refine xn ?_
     refine W.block ?_
     refine W.k fun K hK=>?_
     simp(disch:=omega)only[↓RU,RV,RH,↓reduceIte,qE,reduceCtorEq,if_pos,w64,↓RS,RG,qA,qM,qL,zaa]
     apply hK;clear hK K
     refine XbN ?_
     refine xn ?_
     refine ⟨st.1.length - (a+1),by omega,3,a+1,rfl,by omega,fun j hj=>(Nat.lt_succ_iff_lt_or_eq.1 hj).elim (ha j) fun e=>by rw [e,hx]; intro e2; exact h2 (by rw [Option.some.inj e2]),?_,rfl⟩
     simp [Env.put,Env.of]
    ·try simp only[RL]at h2
     have hal2:a<st.1.length:=by simpa using ho
     have hix:st.1.idxOf c=a:=zsb ha (.inr (by rw [hx,UInt8.toNat_inj.1 (show x.toNat=c.toNat by omega)]))
     refine W.exit ?_
     refine xe ?_
     refine xe ?_
     refine XBlock.hit ?_
     refine xn ?_
     refine W.seq ?_
     refine W.r fun K hK=>?_
     simp(disch:=omega)only[↓RU,RV,RH,↓reduceIte,qE,reduceCtorEq,if_pos,w64,↓RS,RG,qA,qM,qL,ty4,zaa,zhh]
     apply hK;clear hK K
     refine W.cond rfl (fun h3=>?_) (fun h3=>?_)
     ·try simp only[RL]at h3
      simp at ho; omega
     ·try simp only[RL]at h3
      refine W.skip ?_
      refine xn ?_
      refine W.k fun K hK=>?_
      simp(disch:=omega)only[↓RU,RV,RH,↓reduceIte,qE,reduceCtorEq,if_pos,w64,w64,↓RS,RG,qA,qM,qL,ty4,zaa,zhh,ya8]
      apply hK;clear hK K
      refine XbN ?_
      refine xn ?_
      refine W.k fun K hK=>?_
      simp(disch:=omega)only[↓RU,RV,RH,↓reduceIte,qE,reduceCtorEq,if_pos,w64,↓RS,RG,qA,qM,qL,zaa]
      apply hK;clear hK K
      refine xn ?_
      refine ⟨row.length - (k+1),by omega,3,k+1,v0,tk+1,tk+2,rfl,by omega,?_,?_⟩
      all_goals rw [zme hc,hst,z63 hix hal2]
      all_goals simp [Env.put,Env.of,zch]
  ·try simp only[RL]at h1
   have hkr:k=row.length:=by omega
   subst hkr
   refine W.exit ?_
   refine xe ?_
   refine xe ?_
   refine XBlock.hit ?_
   refine xn ?_
   refine W.k fun K hK=>?_
   simp(disch:=omega)only[↓RU,RV,RH,↓reduceIte,qE,reduceCtorEq,if_pos,w64,↓RS,RG,qA,qM,qL,ty3,ty4,zah,zhh]
   apply hK;clear hK K
   refine XbN ?_
   refine xn ?_
   refine W.k fun K hK=>?_
   simp(disch:=omega)only[↓RU,RV,RH,↓reduceIte,qE,reduceCtorEq,if_pos,w64,↓RS,RG,qA,qM,qL,zaa]
   apply hK;clear hK K
   refine xn ?_
   refine ⟨p.length - (i+1),by omega,2,i+1,v0,tk+1,tk+2,rfl,by omega,?_,?_⟩
   all_goals rw [zlq hrow]
   all_goals simp [Env.put,Env.of,zch]
 try simp only[RL]at h
 refine W.exit ?_
 refine xe ?_
 refine xe ?_
 refine XBlock.hit ?_
 refine xn ?_
 refine W.r fun K hK=>?_
 simp(disch:=omega)only[↓RU,RV,RH,↓reduceIte,qE,reduceCtorEq,if_pos,↓RS,RG,qA,qM,qL]
 apply hK;clear hK K
 refine W.ret ?_
 refine Br rfl ?_
 have hip:i=p.length:=by omega
 subst hip
 rw [ztr]
 exact zbc (k:=9) rfl (by simp) (zem _)
theorem zmf {p:List Txt} (hs:Sm p):PC Tryz.prog 78 [za1 p] (.bool (zcz p)) true:=by
 have hp:=hs.rows
 have hrb:=zkp p
 obtain ⟨R,hR⟩:∃ R:Nat,zcy p=R:=⟨_,(Int.toNat_of_nonneg hrb.1).symm⟩
 refine PC.of ⟨Tryz.func78,by kernel_rfl,rfl,by kernel_rfl⟩ za4 mixed (by show 1≤Tryz.f78.ntmps; decide) ?_
 refine W.r fun K hK=>?_
 simp(disch:=omega)only[↓RU,RV,RH,↓reduceIte,qE,reduceCtorEq,if_pos]
 apply hK;clear hK K
 refine W.seq ?_
 refine W.r fun K hK=>?_
 rcases hx:(zcp p,decide (names p=p)) with ⟨_ | _,_ | _⟩
 ·skip
  simp only[Prod.mk.injEq]at hx
  obtain ⟨hg,hn⟩:=hx
  simp(disch:=omega)only[↓RU,RV,RH,↓reduceIte,qE,reduceCtorEq,if_pos,qN,w64,zaa,hg]
  refine zag.pc (zko hs) rfl (.inl rfl) ?_
  simp(disch:=omega)only[↓RU,RV,RH,↓reduceIte,qE,reduceCtorEq,if_pos,qN,w64,zaa,hg]
  apply hK;clear hK K
  refine W.cond rfl (fun h0=>?_) (fun h0=>?_)
  ·try simp only[RL]at h0
   refine W.r fun K hK=>?_
   simp(disch:=omega)only[↓RU,RV,RH,↓reduceIte,qE,reduceCtorEq,if_pos]
   apply hK;clear hK K
   refine W.ret ?_
   refine XThen.ret ?_
   refine Br rfl ?_
   rw [zn1 (.inl hg)]
   rfl
  try simp only[RL]at h0
  exact absurd h0 (by simp)
 ·skip
  simp only[Prod.mk.injEq]at hx
  obtain ⟨hg,hn⟩:=hx
  simp(disch:=omega)only[↓RU,RV,RH,↓reduceIte,qE,reduceCtorEq,if_pos,qN,w64,zaa,hg]
  refine zag.pc (zko hs) rfl (.inl rfl) ?_
  simp(disch:=omega)only[↓RU,RV,RH,↓reduceIte,qE,reduceCtorEq,if_pos,qN,w64,zaa,hg]
  apply hK;clear hK K
  refine W.cond rfl (fun h0=>?_) (fun h0=>?_)
  ·try simp only[RL]at h0
   refine W.r fun K hK=>?_
   simp(disch:=omega)only[↓RU,RV,RH,↓reduceIte,qE,reduceCtorEq,if_pos]
   apply hK;clear hK K
   refine W.ret ?_
   refine XThen.ret ?_
   refine Br rfl ?_
   rw [zn1 (.inl hg)]
   rfl
  try simp only[RL]at h0
  exact absurd h0 (by simp)
 ·skip
  simp only[Prod.mk.injEq]at hx
  obtain ⟨hg,hn⟩:=hx
  simp(disch:=omega)only[↓RU,RV,RH,↓reduceIte,qE,reduceCtorEq,if_pos,qN,w64,zaa,hg,hn]
  refine zag.pc (zko hs) rfl (.inl rfl) ?_
  simp(disch:=omega)only[↓RU,RV,RH,↓reduceIte,qE,reduceCtorEq,if_pos,qN,w64,zaa,hg,hn]
  refine zag.pc (zq1 hs) rfl (.inl rfl) ?_
  simp(disch:=omega)only[↓RU,RV,RH,↓reduceIte,qE,reduceCtorEq,if_pos,qN,w64,zaa,hg,hn]
  refine zag.pc (zun hs.names) rfl (.inl rfl) ?_
  simp(disch:=omega)only[↓RU,RV,RH,↓reduceIte,qE,reduceCtorEq,if_pos,qN,w64,zaa,hg,hn]
  apply hK;clear hK K
  refine W.cond rfl (fun h0=>?_) (fun h0=>?_)
  ·try simp only[RL]at h0
   refine W.r fun K hK=>?_
   simp(disch:=omega)only[↓RU,RV,RH,↓reduceIte,qE,reduceCtorEq,if_pos]
   apply hK;clear hK K
   refine W.ret ?_
   refine XThen.ret ?_
   refine Br rfl ?_
   rw [zn1 (.inr (.inl hn))]
   rfl
  try simp only[RL]at h0
  exact absurd h0 (by simp)
 skip
 simp only[Prod.mk.injEq]at hx
 obtain ⟨hg,hn⟩:=hx
 simp(disch:=omega)only[↓RU,RV,RH,↓reduceIte,qE,reduceCtorEq,if_pos,qN,w64,zaa,hg,hn]
 refine zag.pc (zko hs) rfl (.inl rfl) ?_
 simp(disch:=omega)only[↓RU,RV,RH,↓reduceIte,qE,reduceCtorEq,if_pos,qN,w64,zaa,hg,hn]
 refine zag.pc (zq1 hs) rfl (.inl rfl) ?_
 simp(disch:=omega)only[↓RU,RV,RH,↓reduceIte,qE,reduceCtorEq,if_pos,qN,w64,zaa,hg,hn]
 refine zag.pc (zun hs.names) rfl (.inl rfl) ?_
 simp(disch:=omega)only[↓RU,RV,RH,↓reduceIte,qE,reduceCtorEq,if_pos,qN,w64,zaa,hg,hn]
 refine zag.pc (zl1 hs) rfl (.inl rfl) ?_
 simp(disch:=omega)only[↓RU,RV,RH,↓reduceIte,qE,reduceCtorEq,if_pos,qN,w64,zaa,hg,hn]
 apply hK;clear hK K
 refine W.cond rfl (fun h0=>?_) (fun h0=>?_)
 ·try simp only[RL]at h0
  refine W.r fun K hK=>?_
  simp(disch:=omega)only[↓RU,RV,RH,↓reduceIte,qE,reduceCtorEq,if_pos]
  apply hK;clear hK K
  refine W.ret ?_
  refine XThen.ret ?_
  refine Br rfl ?_
  rw [zn1 (.inr (.inr h0))]
  rfl
 try simp only[RL]at h0
 have hsm:=zbk hg
 refine W.skip ?_
 refine xn ?_
 refine W.seq ?_
 refine W.r fun K hK=>?_
 simp(disch:=omega)only[↓RU,RV,RH,↓reduceIte,qE,reduceCtorEq,if_pos]
 apply hK;clear hK K
 refine W.block ?_
 refine W.loop [0,3] (fun n vs S=>∃ i:Nat,n=R - i∧i≤R∧((List.range i).all (z4x p)=true)∧vs=[za1 p,.int .i64 i]∧S=⟨[],0⟩) (R) ?_ ?_
 ·refine ⟨0,0,rfl,Nat.zero_le _,rfl,?_,rfl⟩
  simp [Env.put,Env.of,zad]
 rintro n vs S - ⟨i,rfl,h_i,hi,rfl,rfl⟩
 refine W.seq ?_
 refine W.r fun K hK=>?_
 simp(disch:=omega)only[↓RU,RV,RH,↓reduceIte,qE,reduceCtorEq,if_pos,qN,w64,zaa,hR]
 refine zag.pc (zl1 hs) rfl (.inl rfl) ?_
 simp(disch:=omega)only[↓RU,RV,RH,↓reduceIte,qE,reduceCtorEq,if_pos,qN,w64,zaa,hR]
 apply hK;clear hK K
 refine W.cond rfl (fun h1=>?_) (fun h1=>?_)
 ·try simp only[RL]at h1
  have hbs:=z10 (i:Int) hsm.2.1 hsm.2.2
  refine W.skip ?_
  refine xn ?_
  refine W.seq ?_
  refine W.block ?_
  refine W.r fun K hK=>?_
  simp(disch:=omega)only[↓RU,RV,RH,↓reduceIte,qE,reduceCtorEq,if_pos,qN]
  refine zag.pc (z29 hs hsm.1 (i:Int)) rfl (.inl rfl) ?_
  simp(disch:=omega)only[↓RU,RV,RH,↓reduceIte,qE,reduceCtorEq,if_pos,qN]
  apply hK;clear hK K
  refine W.r fun K hK=>?_
  simp(disch:=omega)only[↓RU,RV,RH,↓reduceIte,qE,reduceCtorEq,if_pos,qN,w64,zaa]
  refine zag.pc (z0y hs (by omega) (fun r hr=>by have:=hsm.2.2 r hr; omega) (i:Int)) rfl (.inl rfl) ?_
  simp(disch:=omega)only[↓RU,RV,RH,↓reduceIte,qE,reduceCtorEq,if_pos,qN,w64,zaa]
  apply hK;clear hK K
  refine W.cond rfl (fun h2=>?_) (fun h2=>?_)
  ·try simp only[RL]at h2
   refine W.r fun K hK=>?_
   simp(disch:=omega)only[↓RU,RV,RH,↓reduceIte,qE,reduceCtorEq,if_pos]
   apply hK;clear hK K
   refine W.ret ?_
   refine XBlock.ret ?_
   refine XThen.ret ?_
   refine XThen.ret ?_
   refine XBlock.ret ?_
   refine XThen.ret ?_
   refine Br rfl ?_
   have:(List.range R).all (z4x p)=false:=by
    rw [List.all_eq_false]
    exact ⟨i,by simp; omega,by simpa [z4x] using h2⟩
   rw [zzr hg hn (by omega) hR,this]
   rfl
  try simp only[RL]at h2
  refine W.skip ?_
  refine XbN ?_
  refine xn ?_
  refine W.k fun K hK=>?_
  simp(disch:=omega)only[↓RU,RV,RH,↓reduceIte,qE,reduceCtorEq,if_pos,w64,zaa]
  apply hK;clear hK K
  refine xn ?_
  refine ⟨R - (i+1),by omega,0,i+1,rfl,by omega,by rw [qS,List.all_append,hi]; simpa [z4x] using h2,?_,rfl⟩
  simp [Env.put,Env.of]
 try simp only[RL]at h1
 refine W.exit ?_
 refine xe ?_
 refine xe ?_
 refine XBlock.hit ?_
 refine xn ?_
 refine W.r fun K hK=>?_
 simp(disch:=omega)only[↓RU,RV,RH,↓reduceIte,qE,reduceCtorEq,if_pos]
 apply hK;clear hK K
 refine W.ret ?_
 refine Br rfl ?_
 have hip:i=R:=by omega
 rw [hip]at hi
 rw [zzr hg hn (by omega) hR,hi]
 rfl
theorem z00 {p:List Txt} (hs:Sm p) {i k:Nat} {r1 r2:Txt} {a b c d:UInt8} (hi:1≤i) (hk:1≤k) (h1:p[i - 1]?=some r1) (h2:p[i]?=some r2) (ha:r1[k - 1]?=some a) (hb:r1[k]?=some b) (hc:r2[k - 1]?=some c) (hd:r2[k]?=some d):PC Tryz.prog 144 [za1 p,.int .i64 i,.int .i64 k] (.int .i64 (zga [a,b,c,d] 4)) true:=by
 have l1:=zci h1
 have l2:=zci h2
 have l3:=zci ha
 have l4:=zci hb
 have l5:=zci hc
 have l6:=zci hd
 have hp:=hs.rows
 have hq:=hs.cols r1 (List.mem_of_getElem? h1)
 generalize hcs:[a,b,c,d]=cs
 have hcl:cs.length=4:=by rw [← hcs]; rfl
 refine PC.of ⟨Tryz.func144,by kernel_rfl,rfl,by kernel_rfl⟩ za4 mixed (by show 3≤Tryz.f144.ntmps; decide) ?_
 refine W.r fun K hK=>?_
 simp(disch:=omega)only[↓RU,RV,RH,↓reduceIte,qE,reduceCtorEq,if_pos,↓RS,RG,qA,qM,qL]
 apply hK;clear hK K
 refine W.seq_draw (by kernel_rfl) fun K hK=>?_
 simp(disch:=omega)only[↓RU,RV,RH,↓reduceIte,qE,reduceCtorEq,if_pos,w64,↓RS,RG,qA,qM,qL,ty3,ty4,zaa,zah,zhh,h1,h2,ha,hb,hc,hd,zcq]
 apply hK;clear hK K
 refine W.r fun K hK=>?_
 simp(disch:=omega)only[↓RU,RV,RH,↓reduceIte,qE,reduceCtorEq,if_pos,↓RS,RG,qA,qM,qL]
 apply hK;clear hK K
 refine W.seq ?_
 refine W.r fun K hK=>?_
 simp(disch:=omega)only[↓RU,RV,RH,↓reduceIte,qE,reduceCtorEq,if_pos,↓RS,RG,qA,qM,qL]
 apply hK;clear hK K
 refine W.block ?_
 refine W.loop [7,8,9] (fun n vs S=>∃ x:Nat,n=4 - x∧x≤4∧vs=[.loc 0 0 0 4,.int .i64 (zga cs x),.int .i64 x]∧S=⟨[.arr 0 5 1 (cs.map eB)],1⟩) (4) ?_ ?_
 ·refine ⟨1,0,rfl,Nat.zero_le _,?_,by rw [← hcs]; rfl⟩
  simp [Env.put,Env.of,zad,zga]
 rintro n vs S - ⟨x,rfl,h_x,rfl,rfl⟩
 refine W.seq ?_
 refine W.r fun K hK=>?_
 simp(disch:=omega)only[↓RU,RV,RH,↓reduceIte,qE,reduceCtorEq,if_pos,w64,↓RS,RG,qA,qM,qL,zaa]
 apply hK;clear hK K
 refine W.cond rfl (fun h3=>?_) (fun h3=>?_)
 ·try simp only[RL]at h3
  obtain ⟨cx,hcx,-⟩:=zaf (show x<cs.length by omega)
  have hdb:=zmt cs x
  refine W.skip ?_
  refine xn ?_
  refine W.seq ?_
  refine W.block ?_
  refine W.r fun K hK=>?_
  simp(disch:=omega)only[↓RU,RV,RH,↓reduceIte,qE,reduceCtorEq,if_pos,↓RS,RG,qA,qM,qL]
  apply hK;clear hK K
  refine W.seq ?_
  refine W.r fun K hK=>?_
  simp(disch:=omega)only[↓RU,RV,RH,↓reduceIte,qE,reduceCtorEq,if_pos,↓RS,RG,qA,qM,qL]
  apply hK;clear hK K
  refine W.block ?_
  refine W.loop [7,8,9,10,11] (fun n vs S=>∃ y:Nat,n=x - y∧y≤x∧vs=[.loc 0 0 0 4,.int .i64 (zga cs x),.int .i64 x,.bool (zsl cs cx y),.int .i64 y]∧S=⟨[.arr 0 5 1 (cs.map eB)],1⟩) (x) ?_ ?_
  ·refine ⟨1,0,rfl,Nat.zero_le _,?_,rfl⟩
   simp [Env.put,Env.of,zad,zsl]
  rintro n vs S - ⟨y,rfl,h_y,rfl,rfl⟩
  refine W.seq ?_
  refine W.r fun K hK=>?_
  simp(disch:=omega)only[↓RU,RV,RH,↓reduceIte,qE,reduceCtorEq,if_pos,w64,↓RS,RG,qA,qM,qL,zaa]
  apply hK;clear hK K
  refine W.cond rfl (fun h4=>?_) (fun h4=>?_)
  ·try simp only[RL]at h4
   obtain ⟨cy,hcy,-⟩:=zaf (show y<cs.length by omega)
   refine W.skip ?_
   refine xn ?_
   refine W.seq ?_
   refine W.block ?_
   refine W.draw_k (by kernel_rfl) fun K hK=>?_
   cases hf:zsl cs cx y
   ·skip
    simp(disch:=omega)only[↓RU,RV,RH,↓reduceIte,qE,reduceCtorEq,if_pos,w64,↓RS,RG,qA,qM,qL,ty4,zhh,hcx,hcy,hcl,hf]
    apply hK;clear hK K
    refine XbN ?_
    refine xn ?_
    refine W.k fun K hK=>?_
    simp(disch:=omega)only[↓RU,RV,RH,↓reduceIte,qE,reduceCtorEq,if_pos,w64,↓RS,RG,qA,qM,qL,zaa]
    apply hK;clear hK K
    refine xn ?_
    refine ⟨x - (y+1),by omega,1,y+1,rfl,by omega,?_,rfl⟩
    rw [zq7 hcy,hf]
    simp [Env.put,Env.of]
   skip
   simp(disch:=omega)only[↓RU,RV,RH,↓reduceIte,qE,reduceCtorEq,if_pos,w64,↓RS,RG,qA,qM,qL,ty4,zhh,hcx,hcy,hcl,hf,ybo]
   apply hK;clear hK K
   refine XbN ?_
   refine xn ?_
   refine W.k fun K hK=>?_
   simp(disch:=omega)only[↓RU,RV,RH,↓reduceIte,qE,reduceCtorEq,if_pos,w64,↓RS,RG,qA,qM,qL,zaa]
   apply hK;clear hK K
   refine xn ?_
   refine ⟨x - (y+1),by omega,1,y+1,rfl,by omega,?_,rfl⟩
   rw [zq7 hcy,hf]
   simp [Env.put,Env.of]
  try simp only[RL]at h4
  refine W.exit ?_
  refine xe ?_
  refine xe ?_
  refine XBlock.hit ?_
  refine xn ?_
  refine W.r fun K hK=>?_
  simp(disch:=omega)only[↓RU,RV,RH,↓reduceIte,qE,reduceCtorEq,if_pos,↓RS,RG,qA,qM,qL]
  apply hK;clear hK K
  refine W.cond rfl (fun h6=>?_) (fun h6=>?_)
  ·try simp only[RL]at h6
   refine W.k fun K hK=>?_
   simp(disch:=omega)only[↓RU,RV,RH,↓reduceIte,qE,reduceCtorEq,if_pos,w64,↓RS,RG,qA,qM,qL,zaa]
   apply hK;clear hK K
   refine XbN ?_
   refine xn ?_
   refine W.k fun K hK=>?_
   simp(disch:=omega)only[↓RU,RV,RH,↓reduceIte,qE,reduceCtorEq,if_pos,w64,↓RS,RG,qA,qM,qL,zaa]
   apply hK;clear hK K
   refine xn ?_
   refine ⟨4 - (x+1),by omega,1,x+1,rfl,by omega,?_,rfl⟩
   rw [zga,zzb hcx,show x=y by omega]
   simp [Env.put,Env.of,h6]
  try simp only[RL]at h6
  refine W.skip ?_
  refine XbN ?_
  refine xn ?_
  refine W.k fun K hK=>?_
  simp(disch:=omega)only[↓RU,RV,RH,↓reduceIte,qE,reduceCtorEq,if_pos,w64,↓RS,RG,qA,qM,qL,zaa]
  apply hK;clear hK K
  refine xn ?_
  refine ⟨4 - (x+1),by omega,1,x+1,rfl,by omega,?_,rfl⟩
  rw [zga,zzb hcx,show x=y by omega]
  simp [Env.put,Env.of,h6]
 try simp only[RL]at h3
 refine W.exit ?_
 refine xe ?_
 refine xe ?_
 refine XBlock.hit ?_
 refine xn ?_
 refine W.r fun K hK=>?_
 simp(disch:=omega)only[↓RU,RV,RH,↓reduceIte,qE,reduceCtorEq,if_pos,↓RS,RG,qA,qM,qL]
 apply hK;clear hK K
 refine W.ret ?_
 refine Br rfl ?_
 have hx4:x=4:=by omega
 rw [hx4]
 rfl
theorem zw8 {p:List Txt} (hs:Sm p) (hg:zcp p=true) (many:Int):PC Tryz.prog 122 [za1 p,.int .i64 many] (.int .i64 (points p many)) true:=by
 have hp:=hs.rows
 have hsm:=zbk hg
 obtain ⟨row0,hrow0,hrm0⟩:=zaf hsm.1
 have hhd:=zcj hrow0
 have hw6:=hsm.2.2 row0 hrm0
 refine PC.of ⟨Tryz.func122,by kernel_rfl,rfl,by kernel_rfl⟩ za4 mixed (by show 2≤Tryz.f122.ntmps; decide) ?_
 refine W.r fun K hK=>?_
 simp(disch:=omega)only[↓RU,RV,RH,↓reduceIte,qE,reduceCtorEq,if_pos]
 apply hK;clear hK K
 refine W.r fun K hK=>?_
 simp(disch:=omega)only[↓RU,RV,RH,↓reduceIte,qE,reduceCtorEq,if_pos]
 apply hK;clear hK K
 refine W.seq ?_
 refine W.r fun K hK=>?_
 simp(disch:=omega)only[↓RU,RV,RH,↓reduceIte,qE,reduceCtorEq,if_pos]
 apply hK;clear hK K
 refine W.block ?_
 refine W.loop [0,1,5,6] (fun n vs S=>∃ i:Nat,n=p.length - i∧i≤p.length∧(1≤i)∧vs=[za1 p,.int .i64 many,.int .i64 (znh p many row0.length i),.int .i64 i]∧S=⟨[],0⟩) (p.length - 1) ?_ ?_
 ·refine ⟨0,1,rfl,by omega,qR _,?_,rfl⟩
  simp [Env.put,Env.of,zad,znh]
 rintro n vs S - ⟨i,rfl,h_i,h1i,rfl,rfl⟩
 refine W.seq ?_
 refine W.r fun K hK=>?_
 simp(disch:=omega)only[↓RU,RV,RH,↓reduceIte,qE,reduceCtorEq,if_pos,w64,ty3,zaa,zah]
 apply hK;clear hK K
 refine W.cond rfl (fun h=>?_) (fun h=>?_)
 ·try simp only[RL]at h
  obtain ⟨r1,hr1,hm1⟩:=zaf (show i - 1<p.length by omega)
  obtain ⟨r2,hr2,hm2⟩:=zaf (show i<p.length by omega)
  have hl1:=zdv hg hr1
  have hl2:=zdv hg hr2
  rw [hhd]at hl1 hl2
  have hb1:=zpj p many hw6 i
  have hw1:=(zep hg hrow0)
  refine W.skip ?_
  refine xn ?_
  refine W.seq ?_
  refine W.block ?_
  refine W.r fun K hK=>?_
  simp(disch:=omega)only[↓RU,RV,RH,↓reduceIte,qE,reduceCtorEq,if_pos]
  apply hK;clear hK K
  refine W.block ?_
  refine W.loop [0,1,5,6,7] (fun n vs S=>∃ k:Nat,n=row0.length - k∧k≤row0.length∧(1≤k)∧vs=[za1 p,.int .i64 many,.int .i64 (znh p many row0.length i+zhv p many i k),.int .i64 i,.int .i64 k]∧S=⟨[],0⟩) (row0.length - 1) ?_ ?_
  ·refine ⟨0,1,rfl,by omega,qR _,?_,rfl⟩
   simp [Env.put,Env.of,zad,zhv]
  rintro n vs S - ⟨k,rfl,h_k,h1k,rfl,rfl⟩
  refine W.seq ?_
  refine W.r fun K hK=>?_
  simp(disch:=omega)only[↓RU,RV,RH,↓reduceIte,qE,reduceCtorEq,if_pos,w64,ty3,zaa,zah,hrow0,Int.toNat_zero,Nat.zero_mul,qZ]
  apply hK;clear hK K
  refine W.cond rfl (fun h1=>?_) (fun h1=>?_)
  ·try simp only[RL]at h1
   obtain ⟨a,ha,-⟩:=zaf (show k - 1<r1.length by omega)
   obtain ⟨b,hb,-⟩:=zaf (show k<r1.length by omega)
   obtain ⟨c,hc,-⟩:=zaf (show k - 1<r2.length by omega)
   obtain ⟨d,hd,-⟩:=zaf (show k<r2.length by omega)
   have hmt:zo9 p i k=zga [a,b,c,d] 4:=by simp [zo9,hr1,hr2,ha,hb,hc,hd]
   have hb2:=zif p many i k
   refine W.skip ?_
   refine xn ?_
   refine W.seq ?_
   refine W.block ?_
   refine W.r fun K hK=>?_
   simp(disch:=omega)only[↓RU,RV,RH,↓reduceIte,qE,reduceCtorEq,if_pos,qN,w64,zaa]
   refine zag.pc (z00 hs h1i h1k hr1 hr2 ha hb hc hd) rfl (.inl rfl) ?_
   simp(disch:=omega)only[↓RU,RV,RH,↓reduceIte,qE,reduceCtorEq,if_pos,qN,w64,zaa]
   apply hK;clear hK K
   refine W.cond rfl (fun h2=>?_) (fun h2=>?_)
   ·try simp only[RL]at h2
    refine W.k fun K hK=>?_
    simp(disch:=omega)only[↓RU,RV,RH,↓reduceIte,qE,reduceCtorEq,if_pos,w64,zaa]
    apply hK;clear hK K
    refine XbN ?_
    refine xn ?_
    refine W.k fun K hK=>?_
    simp(disch:=omega)only[↓RU,RV,RH,↓reduceIte,qE,reduceCtorEq,if_pos,w64,zaa]
    apply hK;clear hK K
    refine xn ?_
    refine ⟨row0.length - (k+1),by omega,0,k+1,rfl,by omega,by omega,?_,rfl⟩
    rw [zhv]
    simp [Env.put,Env.of,hmt,h2,h1k,Int.add_assoc]
   try simp only[RL]at h2
   refine W.skip ?_
   refine XbN ?_
   refine xn ?_
   refine W.k fun K hK=>?_
   simp(disch:=omega)only[↓RU,RV,RH,↓reduceIte,qE,reduceCtorEq,if_pos,w64,zaa]
   apply hK;clear hK K
   refine xn ?_
   refine ⟨row0.length - (k+1),by omega,0,k+1,rfl,by omega,by omega,?_,rfl⟩
   rw [zhv]
   simp [Env.put,Env.of,hmt,h2,h1k,Int.add_assoc]
  try simp only[RL]at h1
  refine W.exit ?_
  refine xe ?_
  refine xe ?_
  refine XBlock.hit ?_
  refine XbN ?_
  refine xn ?_
  refine W.k fun K hK=>?_
  simp(disch:=omega)only[↓RU,RV,RH,↓reduceIte,qE,reduceCtorEq,if_pos,w64,zaa]
  apply hK;clear hK K
  refine xn ?_
  refine ⟨p.length - (i+1),by omega,0,i+1,rfl,by omega,by omega,?_,rfl⟩
  rw [znh,if_pos h1i]
  simp [Env.put,Env.of,show row0.length=k by omega]
 try simp only[RL]at h
 refine W.exit ?_
 refine xe ?_
 refine xe ?_
 refine XBlock.hit ?_
 refine xn ?_
 refine W.r fun K hK=>?_
 simp(disch:=omega)only[↓RU,RV,RH,↓reduceIte,qE,reduceCtorEq,if_pos]
 apply hK;clear hK K
 refine W.ret ?_
 refine Br rfl ?_
 have hip:i=p.length:=by omega
 rw [points,hhd,← hip]
 rfl
theorem zs2 {p:List Txt} (hs:Sm p):PC Tryz.prog 89 [za1 p] (.bool (zha p)) true:=by
 refine PC.of ⟨Tryz.func89,by kernel_rfl,rfl,by kernel_rfl⟩ za4 mixed (by show 1≤Tryz.f89.ntmps; decide) ?_
 refine W.r fun K hK=>?_
 simp(disch:=omega)only[↓RU,RV,RH,↓reduceIte,qE,reduceCtorEq,if_pos]
 apply hK;clear hK K
 refine W.r fun K hK=>?_
 cases hg:zcz p
 ·skip
  simp(disch:=omega)only[↓RU,RV,RH,↓reduceIte,qE,reduceCtorEq,if_pos,qN,w64,zaa,hg]
  refine zag.pc (zmf hs) rfl (.inl rfl) ?_
  simp(disch:=omega)only[↓RU,RV,RH,↓reduceIte,qE,reduceCtorEq,if_pos,qN,w64,zaa,hg]
  apply hK;clear hK K
  refine W.ret ?_
  refine Br rfl ?_
  rw [zha,hg]
  rfl
 skip
 simp(disch:=omega)only[↓RU,RV,RH,↓reduceIte,qE,reduceCtorEq,if_pos,qN,w64,zaa,hg]
 refine zag.pc (zmf hs) rfl (.inl rfl) ?_
 simp(disch:=omega)only[↓RU,RV,RH,↓reduceIte,qE,reduceCtorEq,if_pos,qN,w64,zaa,hg]
 refine zag.pc (zw8 hs (zec hg) 4) rfl (.inl rfl) ?_
 simp(disch:=omega)only[↓RU,RV,RH,↓reduceIte,qE,reduceCtorEq,if_pos,qN,w64,zaa,hg]
 apply hK;clear hK K
 refine W.ret ?_
 refine Br rfl ?_
 rw [zha,hg]
 rfl
theorem zq2 {p:List Txt} (hs:Sm p):PC Tryz.prog 49 [za1 p] (.bool (zha p)) true:=by
 refine PC.of ⟨Tryz.func49,by kernel_rfl,rfl,by kernel_rfl⟩ za4 mixed (by show 1≤Tryz.f49.ntmps; decide) ?_
 refine W.r fun K hK=>?_
 simp(disch:=omega)only[↓RU,RV,RH,↓reduceIte,qE,reduceCtorEq,if_pos]
 apply hK;clear hK K
 refine W.r fun K hK=>?_
 simp(disch:=omega)only[↓RU,RV,RH,↓reduceIte,qE,reduceCtorEq,if_pos,qN]
 refine zag.pc (zs2 hs) rfl (.inl rfl) ?_
 simp(disch:=omega)only[↓RU,RV,RH,↓reduceIte,qE,reduceCtorEq,if_pos,qN]
 apply hK;clear hK K
 refine W.ret ?_
 refine Br rfl ?_
 rfl
theorem z0z {p:List Txt} (hs:Sm p) (hg:zcp p=true):PC Tryz.prog 92 [za1 p] (za1 (zcr p)) true:=by
 have hp:=hs.rows
 have hsm:=zbk hg
 obtain ⟨row0,hrow0,hrm0⟩:=zaf hsm.1
 have hhd:=zcj hrow0
 have hw6:=hsm.2.2 row0 hrm0
 refine PC.of ⟨Tryz.func92,by kernel_rfl,rfl,by kernel_rfl⟩ za4 mixed (by show 1≤Tryz.f92.ntmps; decide) ?_
 refine W.r fun K hK=>?_
 simp(disch:=omega)only[↓RU,RV,RH,↓reduceIte,qE,reduceCtorEq,if_pos,↓RS,RG,qA,qM,qL]
 apply hK;clear hK K
 refine W.r fun K hK=>?_
 simp(disch:=omega)only[↓RU,RV,RH,↓reduceIte,qE,reduceCtorEq,if_pos,↓RS,RG,qA,qM,qL,ty3,zah]
 apply hK;clear hK K
 refine W.seq ?_
 refine W.r fun K hK=>?_
 simp(disch:=omega)only[↓RU,RV,RH,↓reduceIte,qE,reduceCtorEq,if_pos,↓RS,RG,qA,qM,qL]
 apply hK;clear hK K
 refine W.block ?_
 refine W.loop [0,3,4] (fun n vs S=>∃ k v0 tk:Nat,n=row0.length - k∧k≤row0.length∧vs=[za1 p,.loc 0 v0 0 k,.int .i64 k]∧S=⟨[.arr v0 9 1 ((zi8 p k).map .str)],tk⟩) (row0.length) ?_ ?_
 ·refine ⟨1,0,0,1,rfl,Nat.zero_le _,?_,rfl⟩
  simp [Env.put,Env.of,zad]
 rintro n vs S - ⟨k,v0,tk,rfl,h_k,rfl,rfl⟩
 refine W.seq ?_
 refine W.r fun K hK=>?_
 simp(disch:=omega)only[↓RU,RV,RH,↓reduceIte,qE,reduceCtorEq,if_pos,w64,↓RS,RG,qA,qM,qL,ty3,zaa,zah,hrow0,Int.toNat_zero,Nat.zero_mul,qZ]
 apply hK;clear hK K
 refine W.cond rfl (fun h=>?_) (fun h=>?_)
 ·try simp only[RL]at h
  have hcl0:=zir (p:=p) (k:=k)
  refine W.skip ?_
  refine xn ?_
  refine W.seq ?_
  refine W.block ?_
  refine W.r fun K hK=>?_
  simp(disch:=omega)only[↓RU,RV,RH,↓reduceIte,qE,reduceCtorEq,if_pos,↓RS,RG,qA,qM,qL,ty4,zhh]
  apply hK;clear hK K
  refine W.seq ?_
  refine W.r fun K hK=>?_
  simp(disch:=omega)only[↓RU,RV,RH,↓reduceIte,qE,reduceCtorEq,if_pos,↓RS,RG,qA,qM,qL]
  apply hK;clear hK K
  refine W.block ?_
  refine W.loop [0,3,4,5,6] (fun n vs S=>∃ i v1 tk:Nat,n=p.length - i∧i≤p.length∧vs=[za1 p,.loc 0 v0 0 k,.int .i64 k,.loc 1 v1 0 i,.int .i64 i]∧S=⟨[.arr v0 9 1 ((zi8 p k).map .str),.arr v1 5 1 ((zng p k i).map eB)],tk⟩) (p.length) ?_ ?_
  ·refine ⟨2,0,tk,tk+1,rfl,Nat.zero_le _,?_,rfl⟩
   simp [Env.put,Env.of,zad]
  rintro n vs S - ⟨i,v1,tk,rfl,h_i,rfl,rfl⟩
  refine W.seq ?_
  refine W.r fun K hK=>?_
  simp(disch:=omega)only[↓RU,RV,RH,↓reduceIte,qE,reduceCtorEq,if_pos,w64,↓RS,RG,qA,qM,qL,ty3,zaa,zah]
  apply hK;clear hK K
  refine W.cond rfl (fun h1=>?_) (fun h1=>?_)
  ·try simp only[RL]at h1
   obtain ⟨row,hrow,hrm⟩:=zaf (show i<p.length by omega)
   have hrl:=zdv hg hrow
   rw [hhd]at hrl
   obtain ⟨c,hc,-⟩:=zaf (show k<row.length by omega)
   have hctl:=zg4 (p:=p) (k:=k) h_i
   refine W.skip ?_
   refine xn ?_
   refine W.seq ?_
   refine W.block ?_
   refine W.k fun K hK=>?_
   simp(disch:=omega)only[↓RU,RV,RH,↓reduceIte,qE,reduceCtorEq,if_pos,↓RS,RG,qA,qM,qL,ty3,ty4,zah,zhh,hrow,hc]
   apply hK;clear hK K
   refine XbN ?_
   refine xn ?_
   refine W.k fun K hK=>?_
   simp(disch:=omega)only[↓RU,RV,RH,↓reduceIte,qE,reduceCtorEq,if_pos,w64,↓RS,RG,qA,qM,qL,zaa]
   apply hK;clear hK K
   refine xn ?_
   refine ⟨p.length - (i+1),by omega,2,i+1,tk+1,tk+2,rfl,by omega,?_,?_⟩
   all_goals simp [Env.put,Env.of,zch,z0o hrow hc,hcl0,hctl,zqd]
  ·try simp only[RL]at h1
   have hip:i=p.length:=by omega
   subst hip
   have hctl:=zg4 (p:=p) (k:=k) (qR _)
   refine W.exit ?_
   refine xe ?_
   refine xe ?_
   refine XBlock.hit ?_
   refine xn ?_
   refine W.k fun K hK=>?_
   simp(disch:=omega)only[↓RU,RV,RH,↓reduceIte,qE,reduceCtorEq,if_pos,w64,↓RS,RG,qA,qM,qL,ty3,ty4,zah,zhh]
   apply hK;clear hK K
   refine XbN ?_
   refine xn ?_
   refine W.k fun K hK=>?_
   simp(disch:=omega)only[↓RU,RV,RH,↓reduceIte,qE,reduceCtorEq,if_pos,w64,↓RS,RG,qA,qM,qL,zaa]
   apply hK;clear hK K
   refine xn ?_
   refine ⟨row0.length - (k+1),by omega,1,k+1,tk+1,tk+2,rfl,by omega,?_,?_⟩
   all_goals simp [Env.put,Env.of,zch,zwu,hctl,zqd,hcl0]
 try simp only[RL]at h
 refine W.exit ?_
 refine xe ?_
 refine xe ?_
 refine XBlock.hit ?_
 refine xn ?_
 refine W.r fun K hK=>?_
 simp(disch:=omega)only[↓RU,RV,RH,↓reduceIte,qE,reduceCtorEq,if_pos,↓RS,RG,qA,qM,qL]
 apply hK;clear hK K
 refine W.ret ?_
 refine Br rfl ?_
 have hkp:k=row0.length:=by omega
 subst hkp
 rw [zcr,hhd]
 exact zbc (k:=9) rfl (by simp [zir]) (zem _) |>.trans (by simp [zir])

theorem zmc {S:Store} {im:Bool} {k:Nat} {a b a2 b2:PV} (h1:reify S im k a=some a2) (h2:reify S im k b=some b2):reify S im (k+1) (.tup [a,b])=some (.tup [a2,b2]):=by
 simp [reify,h1,h2]
theorem zm5 {p:List Txt} (hs:Sm p) (hg:zcp p=true):PC Tryz.prog 117 [za1 p] (.sl ((uprights p).map eInts) (uprights p).length) false:=by
 have hp:=hs.rows
 have hsm:=zbk hg
 obtain ⟨row0,hrow0,hrm0⟩:=zaf hsm.1
 have hhd:=zcj hrow0
 have hw6:=hsm.2.2 row0 hrm0
 have hw1:=zep hg hrow0
 refine PC.of ⟨Tryz.func117,by kernel_rfl,rfl,by kernel_rfl⟩ za4 mixed (by show 1≤Tryz.f117.ntmps; decide) ?_
 refine W.r fun K hK=>?_
 simp(disch:=omega)only[↓RU,RV,RH,↓reduceIte,qE,reduceCtorEq,if_pos,↓RS,RG,qA,qM,qL]
 apply hK;clear hK K
 refine W.r fun K hK=>?_
 simp(disch:=omega)only[↓RU,RV,RH,↓reduceIte,qE,reduceCtorEq,if_pos,↓RS,RG,qA,qM,qL,ty0,zab,zaa]
 apply hK;clear hK K
 refine W.seq ?_
 refine W.r fun K hK=>?_
 simp(disch:=omega)only[↓RU,RV,RH,↓reduceIte,qE,reduceCtorEq,if_pos,↓RS,RG,qA,qM,qL]
 apply hK;clear hK K
 refine W.block ?_
 refine W.loopZ [0,3,4] (fun n vs S=>∃ k v0 tk:Nat,n=row0.length - k∧k≤row0.length∧(1≤k)∧vs=[za1 p,.loc 0 v0 0 (zcv p k).length,.int .i64 k]∧S=⟨[.arr v0 24 1 ((zcv p k).map eInts)],tk⟩) (row0.length - 1) ?_ ?_
 ·refine ⟨1,[za1 p,.loc 0 0 0 (zcv p 1).length,.int .i64 1],⟨[.arr 0 24 1 ((zcv p 1).map eInts)],1⟩,?_,?_,1,0,1,rfl,by omega,qR _,rfl,rfl⟩
  ·rfl
  rfl
 rintro n vs S - ⟨k,v0,tk,rfl,h_k,h1k,rfl,rfl⟩
 refine W.seq ?_
 refine W.r fun K hK=>?_
 simp(disch:=omega)only[↓RU,RV,RH,↓reduceIte,qE,reduceCtorEq,if_pos,w64,↓RS,RG,qA,qM,qL,ty3,zaa,zah,hrow0,Int.toNat_zero,Nat.zero_mul,qZ]
 apply hK;clear hK K
 refine W.cond rfl (fun h=>?_) (fun h=>?_)
 ·try simp only[RL]at h
  have hul:=Nat.le_trans (zlo p k) (Nat.mul_le_mul (show p.length+1≤7 by omega) (show k≤6 by omega))
  refine W.skip ?_
  refine xn ?_
  refine W.seq ?_
  refine W.block ?_
  refine W.r fun K hK=>?_
  simp(disch:=omega)only[↓RU,RV,RH,↓reduceIte,qE,reduceCtorEq,if_pos,↓RS,RG,qA,qM,qL]
  apply hK;clear hK K
  refine W.r fun K hK=>?_
  simp(disch:=omega)only[↓RU,RV,RH,↓reduceIte,qE,reduceCtorEq,if_pos,↓RS,RG,qA,qM,qL]
  apply hK;clear hK K
  refine W.block ?_
  refine W.loopZ [0,3,4,5,6] (fun n vs S=>∃ i v0 tk:Nat,n=(p.length+1) - i∧i≤(p.length+1)∧vs=[za1 p,.loc 0 v0 0 (zds p k (zcv p k) i).2.length,.int .i64 k,.int .i64 (zds p k (zcv p k) i).1,.int .i64 i]∧S=⟨[.arr v0 24 1 ((zds p k (zcv p k) i).2.map eInts)],tk⟩) ((p.length+1)) ?_ ?_
  ·refine ⟨1,[za1 p,.loc 0 v0 0 (zds p k (zcv p k) 0).2.length,.int .i64 k,.int .i64 (zds p k (zcv p k) 0).1,.int .i64 0],⟨[.arr v0 24 1 ((zds p k (zcv p k) 0).2.map eInts)],tk⟩,?_,?_,0,v0,tk,rfl,by omega,rfl,rfl⟩
   ·simp [-qU,Store.frz,zcn,zcx,zbe,zb7,zca,zb6,zcw,zbq,zbt,zbr,zbd,zbf,zcb,zbs,zb8,zbp,Env.put,Env.of,zad,zb9,qP,qC] <;> simp [zds]
   simp [-qU,Store.frz,zcn,zcx,zbe,zb7,zca,zb6,zcw,zbq,zbt,zbr,zbd,zbf,zcb,zbs,zb8,zbp,Env.put,Env.of,zad,zb9,qP,qC] <;> simp [zds]
  rintro n vs S - ⟨i,v0,tk,rfl,h_i,rfl,rfl⟩
  refine W.seq ?_
  refine W.r fun K hK=>?_
  simp(disch:=omega)only[↓RU,RV,RH,↓reduceIte,qE,reduceCtorEq,if_pos,w64,↓RS,RG,qA,qM,qL,ty3,zaa,zah]
  apply hK;clear hK K
  refine W.cond rfl (fun h1=>?_) (fun h1=>?_)
  ·try simp only[RL]at h1
   have hutl:=zte p k (zcv p k) i
   have hutb:=zrt p k (zcv p k) i
   refine W.skip ?_
   refine xn ?_
   refine W.seq ?_
   refine W.block ?_
   refine W.join [0,3,4,5,6,7] (fun vs S=>vs=[za1 p,.loc 0 v0 0 (zds p k (zcv p k) i).2.length,.int .i64 k,.int .i64 (zds p k (zcv p k) i).1,.int .i64 i,.bool (ze3 p k i)]∧S=⟨[.arr v0 24 1 ((zds p k (zcv p k) i).2.map eInts)],tk⟩) ?_ ?_
   ·
    refine W.draw_k (by kernel_rfl) fun K hK=>?_
    by_cases hip:i<p.length
    ·skip
     obtain ⟨r1,hr1,-⟩:=zaf hip
     have hrl:=zdv hg hr1
     rw [hhd]at hrl
     obtain ⟨c1,hc1,-⟩:=zaf (show k - 1<r1.length by omega)
     obtain ⟨c2,hc2,-⟩:=zaf (show k<r1.length by omega)
     have hid:((i:Int)<(p.length:Int)):=by omega
     simp(disch:=omega)only[↓RU,RV,RH,↓reduceIte,qE,reduceCtorEq,if_pos,w64,↓RS,RG,qA,qM,qL,ty3,zaa,zah,zhh,hid,decide_true,hr1,hc1,hc2,zcq]
     apply hK;clear hK K
     refine xn ?_
     refine ⟨1,?_,?_⟩
     all_goals simp [Env.put,Env.of,zch,ze3,hip]
     try simp [zc3 hr1 hc1,zc3 hr1 hc2,z72,zr2]
    ·skip
     have hid:¬ ((i:Int)<(p.length:Int)):=by omega
     simp(disch:=omega)only[↓RU,RV,RH,↓reduceIte,qE,reduceCtorEq,if_pos,w64,↓RS,RG,qA,qM,qL,ty3,zaa,zah,zhh,hid,decide_false]
     apply hK;clear hK K
     refine xn ?_
     refine ⟨1,?_,?_⟩
     all_goals simp [Env.put,Env.of,zch,ze3,hip]
     try simp [zc3 hr1 hc1,zc3 hr1 hc2,z72,zr2]
   rintro vs S - ⟨rfl,rfl⟩
   refine W.seq ?_
   refine W.r fun K hK=>?_
   cases hw:ze3 p k i
   ·skip
    simp(disch:=omega)only[↓RU,RV,RH,↓reduceIte,qE,reduceCtorEq,if_pos,w64,↓RS,RG,qA,qM,qL,zaa,hw]
    apply hK;clear hK K
    refine W.cond rfl (fun h2=>?_) (fun h2=>?_)
    ·try simp only[RL]at h2
     exact absurd h2 (by simp)
    try simp only[RL]at h2
    refine W.skip ?_
    refine xn ?_
    refine W.r fun K hK=>?_
    simp(disch:=omega)only[↓RU,RV,RH,↓reduceIte,qE,reduceCtorEq,if_pos,w64,↓RS,RG,qA,qM,qL,zaa]
    apply hK;clear hK K
    refine W.cond rfl (fun h3=>?_) (fun h3=>?_)
    ·try simp only[RL]at h3
     refine W.r fun K hK=>?_
     simp(disch:=omega)only[↓RU,RV,RH,↓reduceIte,qE,reduceCtorEq,if_pos,w64,↓RS,RG,qA,qM,qL,ty0,zab,zaa]
     apply hK;clear hK K
     refine W.k fun K hK=>?_
     simp(disch:=omega)only[↓RU,RV,RH,↓reduceIte,qE,reduceCtorEq,if_pos,↓RS,RG,qA,qM,qL]
     apply hK;clear hK K
     refine XbN ?_
     refine xn ?_
     refine W.k fun K hK=>?_
     simp(disch:=omega)only[↓RU,RV,RH,↓reduceIte,qE,reduceCtorEq,if_pos,w64,↓RS,RG,qA,qM,qL,zaa]
     apply hK;clear hK K
     refine xn ?_
     refine ⟨(p.length+1) - (i+1),by omega,1,[za1 p,.loc 0 (tk+2) 0 (zds p k (zcv p k) (i+1)).2.length,.int .i64 k,.int .i64 (zds p k (zcv p k) (i+1)).1,.int .i64 (i+1)],⟨[.arr (tk+2) 24 1 ((zds p k (zcv p k) (i+1)).2.map eInts)],(tk+3)⟩,?_,?_,(i+1),tk+2,tk+3,rfl,by omega,rfl,rfl⟩
     ·simp [-qU,Store.frz,zcn,zcx,zbe,zb7,zca,zb6,zcw,zbq,zbt,zbr,zbd,zbf,zcb,zbs,zb8,zbp,Env.put,Env.of,zad,zb9,qP,qC,zds,zd2,hw,h2,h3]
     simp [-qU,Store.frz,zcn,zcx,zbe,zb7,zca,zb6,zcw,zbq,zbt,zbr,zbd,zbf,zcb,zbs,zb8,zbp,Env.put,Env.of,zad,zb9,qP,qC,zds,zd2,hw,h2,h3]
    try simp only[RL]at h3
    refine W.skip ?_
    refine XbN ?_
    refine xn ?_
    refine W.k fun K hK=>?_
    simp(disch:=omega)only[↓RU,RV,RH,↓reduceIte,qE,reduceCtorEq,if_pos,w64,↓RS,RG,qA,qM,qL,zaa]
    apply hK;clear hK K
    refine xn ?_
    refine ⟨(p.length+1) - (i+1),by omega,1,[za1 p,.loc 0 v0 0 (zds p k (zcv p k) (i+1)).2.length,.int .i64 k,.int .i64 (zds p k (zcv p k) (i+1)).1,.int .i64 (i+1)],⟨[.arr v0 24 1 ((zds p k (zcv p k) (i+1)).2.map eInts)],tk⟩,?_,?_,(i+1),v0,tk,rfl,by omega,rfl,rfl⟩
    ·simp [-qU,Store.frz,zcn,zcx,zbe,zb7,zca,zb6,zcw,zbq,zbt,zbr,zbd,zbf,zcb,zbs,zb8,zbp,Env.put,Env.of,zad,zb9,qP,qC,zds,zd2,hw,h2,h3]
    simp [-qU,Store.frz,zcn,zcx,zbe,zb7,zca,zb6,zcw,zbq,zbt,zbr,zbd,zbf,zcb,zbs,zb8,zbp,Env.put,Env.of,zad,zb9,qP,qC,zds,zd2,hw,h2,h3]
   skip
   simp(disch:=omega)only[↓RU,RV,RH,↓reduceIte,qE,reduceCtorEq,if_pos,w64,↓RS,RG,qA,qM,qL,zaa,hw]
   apply hK;clear hK K
   refine W.cond rfl (fun h2=>?_) (fun h2=>?_)
   ·try simp only[RL]at h2
    refine W.k fun K hK=>?_
    simp(disch:=omega)only[↓RU,RV,RH,↓reduceIte,qE,reduceCtorEq,if_pos,↓RS,RG,qA,qM,qL]
    apply hK;clear hK K
    refine xn ?_
    refine W.r fun K hK=>?_
    simp(disch:=omega)only[↓RU,RV,RH,↓reduceIte,qE,reduceCtorEq,if_pos,w64,↓RS,RG,qA,qM,qL,zaa]
    apply hK;clear hK K
    refine W.cond rfl (fun h3=>?_) (fun h3=>?_)
    ·try simp only[RL]at h3
     exact absurd h3 (by simp)
    try simp only[RL]at h3
    refine W.skip ?_
    refine XbN ?_
    refine xn ?_
    refine W.k fun K hK=>?_
    simp(disch:=omega)only[↓RU,RV,RH,↓reduceIte,qE,reduceCtorEq,if_pos,w64,↓RS,RG,qA,qM,qL,zaa]
    apply hK;clear hK K
    refine xn ?_
    refine ⟨(p.length+1) - (i+1),by omega,1,[za1 p,.loc 0 v0 0 (zds p k (zcv p k) (i+1)).2.length,.int .i64 k,.int .i64 (zds p k (zcv p k) (i+1)).1,.int .i64 (i+1)],⟨[.arr v0 24 1 ((zds p k (zcv p k) (i+1)).2.map eInts)],tk⟩,?_,?_,(i+1),v0,tk,rfl,by omega,rfl,rfl⟩
    ·simp [-qU,Store.frz,zcn,zcx,zbe,zb7,zca,zb6,zcw,zbq,zbt,zbr,zbd,zbf,zcb,zbs,zb8,zbp,Env.put,Env.of,zad,zb9,qP,qC,zds,zd2,hw,h2,h3]
    simp [-qU,Store.frz,zcn,zcx,zbe,zb7,zca,zb6,zcw,zbq,zbt,zbr,zbd,zbf,zcb,zbs,zb8,zbp,Env.put,Env.of,zad,zb9,qP,qC,zds,zd2,hw,h2,h3]
   try simp only[RL]at h2
   refine W.skip ?_
   refine xn ?_
   refine W.r fun K hK=>?_
   simp(disch:=omega)only[↓RU,RV,RH,↓reduceIte,qE,reduceCtorEq,if_pos,w64,↓RS,RG,qA,qM,qL,zaa]
   apply hK;clear hK K
   refine W.cond rfl (fun h3=>?_) (fun h3=>?_)
   ·try simp only[RL]at h3
    exact absurd h3 (by simp)
   try simp only[RL]at h3
   refine W.skip ?_
   refine XbN ?_
   refine xn ?_
   refine W.k fun K hK=>?_
   simp(disch:=omega)only[↓RU,RV,RH,↓reduceIte,qE,reduceCtorEq,if_pos,w64,↓RS,RG,qA,qM,qL,zaa]
   apply hK;clear hK K
   refine xn ?_
   refine ⟨(p.length+1) - (i+1),by omega,1,[za1 p,.loc 0 v0 0 (zds p k (zcv p k) (i+1)).2.length,.int .i64 k,.int .i64 (zds p k (zcv p k) (i+1)).1,.int .i64 (i+1)],⟨[.arr v0 24 1 ((zds p k (zcv p k) (i+1)).2.map eInts)],tk⟩,?_,?_,(i+1),v0,tk,rfl,by omega,rfl,rfl⟩
   ·simp [-qU,Store.frz,zcn,zcx,zbe,zb7,zca,zb6,zcw,zbq,zbt,zbr,zbd,zbf,zcb,zbs,zb8,zbp,Env.put,Env.of,zad,zb9,qP,qC,zds,zd2,hw,h2,h3]
   simp [-qU,Store.frz,zcn,zcx,zbe,zb7,zca,zb6,zcw,zbq,zbt,zbr,zbd,zbf,zcb,zbs,zb8,zbp,Env.put,Env.of,zad,zb9,qP,qC,zds,zd2,hw,h2,h3]
  try simp only[RL]at h1
  refine W.exit ?_
  refine xe ?_
  refine xe ?_
  refine XBlock.hit ?_
  refine XbN ?_
  refine xn ?_
  refine W.k fun K hK=>?_
  simp(disch:=omega)only[↓RU,RV,RH,↓reduceIte,qE,reduceCtorEq,if_pos,w64,↓RS,RG,qA,qM,qL,zaa]
  apply hK;clear hK K
  refine xn ?_
  refine ⟨row0.length - (k+1),by omega,1,[za1 p,.loc 0 v0 0 (zcv p (k+1)).length,.int .i64 (k+1)],⟨[.arr v0 24 1 ((zcv p (k+1)).map eInts)],tk⟩,?_,?_,(k+1),v0,tk,rfl,by omega,by omega,rfl,rfl⟩
  ·simp [-qU,Store.frz,zcn,zcx,zbe,zb7,zca,zb6,zcw,zbq,zbt,zbr,zbd,zbf,zcb,zbs,zb8,zbp,Env.put,Env.of,zad,zb9,qP,qC] <;> (rw [zmk h1k]; obtain rfl:i=p.length+1:=(by omega); simp)
  simp [-qU,Store.frz,zcn,zcx,zbe,zb7,zca,zb6,zcw,zbq,zbt,zbr,zbd,zbf,zcb,zbs,zb8,zbp,Env.put,Env.of,zad,zb9,qP,qC] <;> (rw [zmk h1k]; obtain rfl:i=p.length+1:=(by omega); simp)
 try simp only[RL]at h
 refine W.exit ?_
 refine xe ?_
 refine xe ?_
 refine XBlock.hit ?_
 refine xn ?_
 refine W.r fun K hK=>?_
 simp(disch:=omega)only[↓RU,RV,RH,↓reduceIte,qE,reduceCtorEq,if_pos,↓RS,RG,qA,qM,qL]
 apply hK;clear hK K
 refine W.ret ?_
 refine Br rfl ?_
 have hkp:k=row0.length:=by omega
 subst hkp
 rw [uprights,hhd]
 exact zbc (k:=9) rfl (by simp) (zg7 _)
def z9i (p:List Txt) (k0:Nat) (w:List Int):Prop :=
 ∃ k f l:Nat,w=[(k:Int),(f:Int),(l:Int)]∧1≤k∧k<k0∧1≤l∧f+l≤p.length∧∀ j,f≤j→j<f+l→ze3 p k j=true
theorem zp2 {p:List Txt} {k:Nat}:ze3 p k p.length=false:=by simp [ze3]
theorem z5v {p:List Txt} {k k0:Nat} (hk:1≤k) (hk0:k<k0) {s0:List (List Int)} (h0:∀ w∈s0,z9i p k0 w):∀ i,i≤p.length+1 →
  (∀ w∈(zds p k s0 i).2,z9i p k0 w)∧((zds p k s0 i).1 = -1∨∃ f:Nat,(zds p k s0 i).1=f∧f<i∧∀ j,f≤j→j<i→ze3 p k j=true)
 | 0,_=>⟨h0,.inl rfl⟩
 | i+1,hi=>by
  obtain ⟨ih1,ih2⟩:=z5v hk hk0 h0 i (by omega)
  unfold zds zd2
  cases hw:ze3 p k i with
  | true =>
   simp only[Bool.true_and,decide_eq_true_eq,Bool.not_true,Bool.false_and,qF,if_false]
   refine ⟨ih1,.inr ?_⟩
   rcases ih2 with h | ⟨f,h,hf,hr⟩
   ·rw [h,if_pos (by omega)]
    exact ⟨i,rfl,by omega,fun j h1 h2=>by rw [show j=i by omega]; exact hw⟩
   rw [h,if_neg (by omega)]
   refine ⟨f,rfl,by omega,fun j h1 h2=>?_⟩
   by_cases hj:j=i
   ·rw [hj]; exact hw
   exact hr j h1 (by omega)
  | false =>
   simp only[Bool.false_and,qF,if_false,Bool.not_false,Bool.true_and,decide_eq_true_eq]
   rcases ih2 with h | ⟨f,h,hf,hr⟩
   ·rw [h,if_neg (by omega)]
    exact ⟨ih1,.inl rfl⟩
   rw [h,if_pos (by omega)]
   refine ⟨fun w hw'=>?_,.inl rfl⟩
   rcases List.mem_append.1 hw' with h1 | h1
   ·exact ih1 w h1
   rw [List.mem_singleton]at h1
   have hip:i≤p.length:=by omega
   refine ⟨k,f,i - f,by rw [h1]; simp; omega,hk,hk0,by omega,by omega,fun j h1 h2=>hr j h1 (by omega)⟩
theorem z9i.up {p:List Txt} {k k':Nat} (h:k≤k') {w:List Int} (hw:z9i p k w):z9i p k' w:=by
 obtain ⟨a,f,l,h1,h2,h3,h4⟩:=hw
 exact ⟨a,f,l,h1,h2,by omega,h4⟩
theorem ztg (p:List Txt):∀ k,∀ w∈zcv p k,z9i p k w
 | 0,w,h=>by simp [zcv]at h
 | k+1,w,h=>by
  unfold zcv at h
  split at h
  ·rename_i hk
   exact (z5v hk (Nat.lt_succ_self k) (fun w hw=>(ztg p k w hw).up (by omega)) _ (qR _)).1 w h
  exact (ztg p k w h).up (by omega)
theorem z9f {p:List Txt} {w:List Int} (h:w∈uprights p):z9i p (zax p).length w:=ztg p _ w h
theorem z2s {p:List Txt} {i:Nat} (h:i<p.length):∃ row,p[i]?=some row∧row∈p:=by
 obtain ⟨r,h1,h2⟩:=zaf h; exact ⟨r,h1,h2⟩
theorem z18 {p:List Txt} {k i:Nat} {row:Txt} (h:p[i]?=some row):(zng p k p.length)[i]?=some (row.getD k 0):=by
 simp [zng,h]
theorem zwb {p:List Txt} {k:Nat} (h:k<(zax p).length):(zcr p)[k]?=some (zng p k p.length):=by
 simp [zcr,zi8,h]
theorem zhe {p:List Txt}:(zcr p).length=(zax p).length:=by simp [zcr,zir]
theorem zlj {p:List Txt} (h:0<(zax p).length):(zax (zcr p)).length=p.length:=by
 rw [zcj (zwb h)]; exact zg4 (qR _)
theorem ziv {p:List Txt} (h:zcp p=true) {i k:Nat} {row:Txt} (hr:p[i]?=some row) (hk:k<(zax p).length):∃ c,row[k]?=some c∧zcs c=true:=by
 have hl:=zdv h hr
 unfold zcp at h
 simp only[qB,decide_eq_true_eq,List.all_eq_true]at h
 have:=h.1.1 row (List.mem_of_getElem? hr)
 simp only[zqb,qB,decide_eq_true_eq,List.all_eq_true]at this
 obtain ⟨c,hc,hm⟩:=zaf (show k<row.length by omega)
 exact ⟨c,hc,this.2 c hm⟩
theorem z1m {p:List Txt} (h:zcp p=true):zcp (zcr p)=true:=by
 have hsm:=zbk h
 obtain ⟨row0,hrow0,hrm0⟩:=zaf hsm.1
 have hhd:=zcj hrow0
 have hw1:=zep h hrow0
 have hw6:=hsm.2.2 row0 hrm0
 have hlen:=zhe (p:=p)
 have hhd2:=zlj (p:=p) (by rw [hhd]; omega)
 rw [hhd]at hlen
 unfold zcp
 simp only[qB,decide_eq_true_eq,List.all_eq_true]
 refine ⟨⟨fun r hr=>?_,by omega⟩,by omega⟩
 simp only[zcr,zi8,List.mem_map,List.mem_range]at hr
 obtain ⟨k,hk,rfl⟩:=hr
 simp only[zqb,qB,decide_eq_true_eq,List.all_eq_true]
 refine ⟨⟨⟨by rw [hhd2]; exact zg4 (qR _),by rw [zg4 (qR _)]; omega⟩,by rw [zg4 (qR _)]; omega⟩,fun c hc=>?_⟩
 simp only[zng,List.take_length,List.mem_map]at hc
 obtain ⟨row,hrm,rfl⟩:=hc
 obtain ⟨i,hi⟩:=List.mem_iff_getElem?.1 hrm
 obtain ⟨c,hc,hl⟩:=ziv h hi hk
 simpa [List.getD_eq_getElem?_getD,hc] using hl
theorem Sm.grid {p:List Txt} (h:zcp p=true):Sm p:=by
 have:=zbk h
 exact ⟨by omega,fun r hr=>by have:=this.2.2 r hr; omega⟩
theorem zjp {p:List Txt} {i k:Nat} (h:i<p.length) (hk:k<(zax p).length):zao (zcr p) k i=zao p i k:=by
 obtain ⟨row,hr,-⟩:=zaf h
 simp [zao,zwb hk,z18 hr,hr,List.getD_eq_getElem?_getD]
def walls (p:List Txt):List (List Int):=(uprights p).map (0 :: ·)++(uprights (zcr p)).map (1 :: ·)
theorem z4y (row:Txt):∀ (n:Int),n≤zfr n row∧∀ (k:Nat) (c:UInt8),row[k]?=some c→(c.toNat:Int) - 97+1≤zfr n row:=by
 induction row with
 | nil=>intro n; exact ⟨Int.le_refl _,by simp⟩
 | cons a row ih =>
  intro n
  have h:=ih (max n ((a.toNat:Int) - 97+1))
  have e:zfr n (a::row)=zfr (max n ((a.toNat:Int) - 97+1)) row:=rfl
  rw [e]
  refine ⟨by omega,?_⟩
  rintro (_ | k) c hc
  ·simp at hc; subst hc; omega
  simp at hc; exact h.2 k c hc
theorem z1e (p:List Txt):∀ (n:Int),n≤p.foldl zfr n∧∀ (i k:Nat) (row:Txt) (c:UInt8),p[i]?=some row→row[k]?=some c→(c.toNat:Int) - 97+1≤p.foldl zfr n:=by
 induction p with
 | nil=>intro n; exact ⟨Int.le_refl _,by simp⟩
 | cons r p ih =>
  intro n
  have h:=ih (zfr n r)
  have h2:=z4y r n
  simp only[List.foldl_cons]
  refine ⟨by omega,?_⟩
  rintro (_ | i) k row c hr hc
  ·simp at hr; subst hr
   have:=h2.2 k c hc; omega
  simp at hr; exact h.2 i k row c hr hc
def orBit (ms:List Nat) (a b:Nat):List Nat:=ms.set a ((ms[a]?.getD 0) ||| 2 ^ b)
def yb0 (a:Nat) (ms:List Nat) (bs:List Int):List Nat:=bs.foldl (fun ms b=>orBit ms a b.toNat) ms
def ybz (bs:List Int) (ms:List Nat) (la:List Int):List Nat:=la.foldl (fun ms a=>yb0 a.toNat ms bs) ms
def zz8 (p:List Txt) (w:List Int):List Int × List Int :=
 match w with
 | [kind,line,fr,long]=>zpx p kind.toNat line.toNat fr.toNat long.toNat
 | _=>([],[])
def z28 (p:List Txt) (kind:Int) (ms:List Nat) (w:List Int):List Nat :=
 if w[0]?.getD 0=kind then ybz (zz8 p w).2 ms (zz8 p w).1 else ms
def just (p:List Txt) (kind:Int):List Nat:=(walls p).foldl (z28 p kind) (List.replicate (zcy p).toNat 0)
def z8b (c:Nat) (ms:List Nat) (a:Nat):List Nat:=if (ms[a]?.getD 0).testBit c then ms.set a ((ms[a]?.getD 0) ||| (ms[c]?.getD 0)) else ms
def allC (n:Nat) (ms:List Nat) (c:Nat):List Nat:=(List.range n).foldl (z8b c) ms
def ybd (p:List Txt) (kind:Int):List Nat:=(List.range (just p kind).length).foldl (allC (just p kind).length) (just p kind)
def Msk (n:Nat) (ms:List Nat):Prop:=ms.length=n∧∀ m∈ms,m<512
theorem Msk.get {n:Nat} {ms:List Nat} (h:Msk n ms) (a:Nat):ms[a]?.getD 0<512:=by
 cases e:ms[a]? with
 | none=>simp
 | some m=>simpa using h.2 m (List.mem_of_getElem? e)
theorem z69 {a b:Nat} (ha:a<512) (hb:b<512):a ||| b<512:=Nat.or_lt_two_pow (n:=9) ha hb
theorem Msk.set {n:Nat} {ms:List Nat} (h:Msk n ms) {a m:Nat} (hm:m<512):Msk n (ms.set a m):=by
 refine ⟨by simpa using h.1,fun x hx=>?_⟩
 rcases List.mem_or_eq_of_mem_set hx with h1 | rfl
 ·exact h.2 x h1
 exact hm
theorem Msk.orBit {n:Nat} {ms:List Nat} (h:Msk n ms) {a b:Nat} (hb:b<9):Msk n (orBit ms a b) :=
 h.set (z69 (h.get a) (Nat.pow_lt_pow_right (by omega) hb))
theorem Msk.foldl {n:Nat} {α:Type} {f:List Nat→α→List Nat}:∀ {l:List α} {ms:List Nat},(∀ ms,Msk n ms→∀ a∈l,Msk n (f ms a))→Msk n ms→Msk n (l.foldl f ms)
 | [],ms,_,h=>h
 | a::l,ms,hf,h=>Msk.foldl (l:=l) (fun ms hm x hx=>hf ms hm x (by simp [hx])) (hf ms h a (by simp))
theorem z7h {l:List Int} {x y:Int} (h:y∈ztm l x):y∈l∨y=x:=by
 unfold ztm at h
 split at h
 ·exact .inl h
 simpa using h
theorem z5c {S:Store} {im:Bool} {k:Nat} {q:IntKind} (l:List Int):(l.map (PV.int q)).mapM (sh S im (k+1))=some (l.map (PV.int q)) :=
 zce fun x hx=>by obtain ⟨a,_,rfl⟩:=List.mem_map.1 hx; rfl
theorem yaw {S:Store} {im:Bool} {k:Nat} (l:List (List UInt8)):(l.map PV.str).mapM (sh S im (k+1))=some (l.map PV.str) :=
 zce fun x hx=>by obtain ⟨a,_,rfl⟩:=List.mem_map.1 hx; rfl
theorem z87 {S:Store} {im:Bool} {v et n:Nat} {cells:List PV} {R:List Ob} (hS:S.obs = .arr v et 1 cells::R) (hc:cells.mapM (sh (S.take 1) im 10)=some cells) :
  ∃ k,sh (S.take k) im 10 (.loc 0 v 0 n)=some (.loc 0 0 0 n)∧zld (S.take k) im (S.take k).obs=some [.arr 0 et 1 cells]:=by
 refine ⟨1,?_,?_⟩
 ·simp [sh,Store.take,hS]
 have e:(S.take 1).obs=[.arr v et 1 cells]:=by simp [Store.take,hS]
 rw [e]
 simp [zld,z5b,hc]
theorem ze6 {α β:Type} {f:β→α→β} {z:β} {l:List α} {i:Nat} {a:α} (h:l[i]?=some a):(l.take (i+1)).foldl f z=f ((l.take i).foldl f z) a:=by
 simp [tk h,List.foldl_append]
theorem Msk.at_ {n:Nat} {ms:List Nat} (h:Msk n ms) {a:Nat} (ha:a<n):∃ m,ms[a]?=some m∧m<512:=by
 obtain ⟨m,hm,h2⟩:=zaf (show a<ms.length by rw [h.1]; exact ha)
 exact ⟨m,hm,h.2 m h2⟩
theorem zhl {a b:Int} (h:a≤b):(a≤b)=True:=eq_true h
theorem z68 {ms:List Nat} {a b m:Nat} (h:ms[a]?=some m):orBit ms a b=ms.set a (m ||| 2 ^ b):=by simp [orBit,h]
theorem zdc {α:Type} {f:α→PV} {l:List α} {a:Nat} {v:PV} (h:a<l.length):(l.map f).take a++[v]++(l.map f).drop (a+1)=(l.map f).set a v:=by
 rw [List.set_eq_take_append_cons_drop,if_pos (by simpa using h)]; simp
theorem zea {l:List Int} {q:IntKind} {a:Nat} {m:Int}:(l.map (PV.int q)).set a (.int q m)=(l.set a m).map (PV.int q):=by
 rw [List.map_set]
theorem ze5 {β:Type} {f:β→Nat→β} {z:β} {i:Nat}:(List.range (i+1)).foldl f z=f ((List.range i).foldl f z) i:=by
 simp [qS,List.foldl_append]
theorem z6c {ms:List Nat} {c a m k:Nat} (h:ms[a]?=some m) (hc:ms[c]?=some k) (hb:m.testBit c=true):z8b c ms a=ms.set a (m ||| k):=by simp [z8b,h,hc,hb]
theorem z9j {ms:List Nat} {c a m:Nat} (h:ms[a]?=some m) (hb:m.testBit c=false):z8b c ms a=ms:=by simp [z8b,h,hb]
end Fw
end Go.Proofs.YtjobkanbijpfgaaGreat
