/- Parts of the framework and of the proof: The framework, part q: a table of types is checked by one computation; The framework, part r: going through a region step by step; The framework, part s: small laws for going through code; The framework, part t: letting go of objects and freezing what names them; The framework, part u: bundles of small laws for simp; a call in a store with more objects behind; The framework, part v: calls that take data and give new objects, which may be written; The framework, part w: at a fold, objects are put in another order, frozen, or let go; The framework, part x: a region in which a variable is made at an open time; The framework, part y: a region whose order is open, in the order of its text, in which something might be read behind what writes elsewhere; Plans in plain words: the specification's functions on lists of texts; Points, walls and orders of plans in plain words; The table of the types of this translation, written by a program (tabgen.py), and that it is right; Small functions of the specification, gone through; The specification of plans, gone through; What a plan is, gone through; Points where rooms meet, gone through; Walls, gone through; Walls and their sides, gone through; The sides of a wall, gone through; Upright walls, gone through; Walls and orders of plans in plain words; All walls; sets of rooms, gone through; Sizes of plans in plain words; The program's own data in plain words; Small functions of the program and of the library, gone through; The program's walls in plain words. -/
import Derived.Test.YtcfgpmeebpinaaaGreatJ0
import Derived.Test.YtcfgpmeebpinaaaGreatChecked
set_option linter.all false
namespace Go.Proofs.YtcfgpmeebpinaaaGreat
namespace Fw
open Go
open Nat renaming reduceEqDiff → qE, reduceLeDiff → qL, reduceAdd → qA, reduceMul → qM, le_refl → qR
open List renaming append_nil → qN, mapM_append → qP, mapM_cons → qC, mapM_map → qU, range_succ → qS, take_of_length_le → qT
open Bool renaming and_eq_true → qB, false_eq_true → qF
open Option renaming map_some → qO, map_eq_some_iff → qI
open Int renaming reduceToNat → qZ
def ya8:TK→TypeDesc→Bool
 | .bool,.bool=>true
 | .int k,.int k'=>k == k'
 | .str,.string=>true
 | .slice e,.slice e'=>e == e'
 | .ptr e,.pointer e'=>e == e'
 | .arr n e,.array n' e'=>n == n' && e == e'
 | .struct fs,.struct gs=>decide (fs=gs.toList.map fun f=>(f.offset,f.type))
 | .map k v,.map k' v'=>k == k' && v == v'
 | .func,.func _ _ _=>true
 | _,_=>false
theorem z0t {k:TK} {d:TypeDesc} (h:ya8 k d=true):k.fits d:=by
 cases k <;> cases d <;> simp_all [ya8,TK.fits]
def okZ (ti:TI) (z:Value):Bool :=
 ti.zero.length == z.cells.size && z.cells.size == ti.size && ((List.range ti.size).all fun k=>match ti.zero[k]?,z.cells[k]? with | some p,some v=>z6r p v | _,_=>true) &&
  (ti.kd.isAgg == match z with | .agg _=>true | _=>false)
def yee (T:Tab) (k:TK):Bool :=
 match k with
 | .slice e | .arr _ e => !decide ((T e).kd = .none)
 | .struct fs=>fs.all fun f => !decide ((T f.2).kd = .none)
 | .map k v => !decide ((T k).kd = .none) && !decide ((T v).kd = .none)
 | _=>true
def okEq (P:Program) (T:Tab) (t:TypeId) (k:TK):Bool :=
 match k with
 | .struct fs => !zg4 T fs 0 || eqT P t
 | _=>true
def okT (P:Program) (T:Tab) (t:TypeId) (ti:TI):Bool :=
 match P.info? t,P.underlying t with
 | some i,some d=>ya8 ti.kd d && i.size == ti.size && i.bytes == ti.bytes && (match i.zero with | some z=>okZ ti z | none=>false) && yee T ti.kd && okEq P T t ti.kd
 | _,_=>false
theorem z4r {P:Program} {T:Tab} {t:TypeId} (h:okT P T t (T t)=true):TOk P T t:=by
 unfold okT at h
 split at h
 ·rename_i i d h1 h2
  simp only[qB,beq_iff_eq]at h
  obtain ⟨⟨⟨⟨⟨h3,h4⟩,h5⟩,h6⟩,h7⟩,h8⟩:=h
  split at h6
  ·rename_i z hz
   unfold okZ at h6
   simp only[qB,beq_iff_eq,List.all_eq_true,List.mem_range]at h6
   obtain ⟨⟨⟨k1,k2⟩,k3⟩,k4⟩:=h6
   refine ⟨⟨i,d,z,h1,h2,z0t h3,h4,h5,hz,k1,k2,fun k p v q1 q2=>?_,k4⟩,?_,?_⟩
   ·have hk:k<(T t).size:=by
     have:=(List.getElem?_eq_some_iff.1 q1).1
     omega
    have:=k3 k hk
    rw [q1,q2]at this
    exact this
   ·unfold yee at h7
    cases hk:(T t).kd <;> rw [hk]at h7 <;> first
     | trivial
     | (intro f hf; simp only[List.all_eq_true]at h7; simpa using h7 f hf)
     | (simp_all; done)
   unfold okEq at h8
   cases hk:(T t).kd <;> rw [hk]at h8 <;> first
    | trivial
    | (intro hf; simpa [hf] using h8)
  cases h6
 cases h
def lk:List (Nat × TI)→Tab
 | [],_=>⟨.none,0,0,[]⟩
 | (k,v)::r,t=>if t=k then v else lk r t
theorem yeb {P:Program} {T:Tab}:∀ {L:List (Nat × TI)},L.all (fun x=>okT P T x.1 x.2)=true→∀ t,(lk L t).kd ≠ .none→okT P T t (lk L t)=true
 | [],_,t,h=>absurd rfl h
 | (k,v)::r,h,t,hk=>by
  simp only[List.all_cons,qB]at h
  unfold lk at hk ⊢
  split
  ·rename_i e; rw [e]; exact h.1
  rename_i e; rw [if_neg e]at hk; exact yeb h.2 t hk
theorem yeu {P:Program} {L:List (Nat × TI)} (h:L.all (fun x=>okT P (lk L) x.1 x.2)=true):zbh P (lk L) :=
 fun t ht=>z4r (yeb h t ht)
section
def dsts:List Oper→List (Option Tmp)
 | []=>[]
 | o::r=>o.dst::dsts r
theorem zyh:dsts []=[]:=rfl
theorem ztn {d:Option Tmp} {op:Op} {t:TypeId} {p:String} {a:Array Edge} {g:Option (Nat × Bool)} {r:List Oper}:dsts (⟨d,op,t,p,a,g⟩::r)=d::dsts r:=rfl
def gd (ds:List (Option Tmp)) (g:Option (Nat × Bool)) (e:Env):Option Bool :=
 match g with
 | none=>some true
 | some (j,want) =>
  match ds[j]? with
  | some (some d)=>match e d with
   | .bool b=>some (b == want)
   | .tup []=>some false
   | _=>none
  | _=>none
def sOp (D:Bool) (P:Program) (T:Tab) (e:Env) (S:Store) (o:Op) (K:PV→Store→Prop):Prop :=
 match o with
 | .call ⟨.value f,xs,ts⟩ =>
  match e.ev f with
  | .fn g cap =>
   match D with
   | true=>∃ v tx fr,(xs.toList.map e.ev++cap).mapM (reify S true 10)=some tx∧(fr=true∨(xs.toList.map e.ev++cap).mapM (reify ⟨[],0⟩ true 10)=some tx)∧PC P g tx v fr∧K v S
   | false=>∃ J,Ev P g (xs.toList.map e.ev++cap) S J∧∀ v S',J v S'→K v S'
  | .bm g b =>
   match D with
   | true=>∃ v tx fr,(b::xs.toList.map e.ev).mapM (reify S true 10)=some tx∧(fr=true∨(b::xs.toList.map e.ev).mapM (reify ⟨[],0⟩ true 10)=some tx)∧PC P g tx v fr∧K v S
   | false=>∃ J,Ev P g (b::xs.toList.map e.ev) S J∧∀ v S',J v S'→K v S'
  | .yl l =>
   match D with
   | true=>False
   | false=>∃ J,Ey P l (xs.toList.map e.ev) S J∧∀ v S',J v S'→K v S'
  | _=>False
 | o=>pOp P T e S o K
theorem zil {D:Bool} {P:Program} {T:Tab} {e:Env} {S:Store} {o:Op} {K:PV→Store→Prop} (h:sOp D P T e S o K):pOp P T e S o K:=by
 unfold sOp at h
 split at h
 ·rename_i f xs ts
  unfold pOp
  simp only[zps]
  split at h
  ·rename_i g cap hf
   simp only[hf]
   cases D with
   | true=>obtain ⟨v,tx,fr,h1,h2,h3,h4⟩:=h; exact ⟨_,h3.ev h1 h2,by rintro v' S' ⟨rfl,rfl⟩; exact h4⟩
   | false=>exact h
  ·rename_i g cap hf
   simp only[hf]
   cases D with
   | true=>obtain ⟨v,tx,fr,h1,h2,h3,h4⟩:=h; exact ⟨_,h3.ev h1 h2,by rintro v' S' ⟨rfl,rfl⟩; exact h4⟩
   | false=>exact h
  ·rename_i l hf
   simp only[hf]
   cases D with
   | true=>exact h.elim
   | false=>exact h
  exact h.elim
 exact h
def za8 (D:Bool) (P:Program) (T:Tab) (ds:List (Option Tmp)):List Oper→Env→Store→(Env→Store→Prop)→Prop
 | [],e,S,Q=>Q e S
 | o::r,e,S,Q =>
  match gd ds o.guard e with
  | some true=>sOp D P T e S o.op fun v S'=>za8 D P T ds r (e.put o.dst v) S' Q
  | some false=>za8 D P T ds r (e.put o.dst (.tup [])) S Q
  | none=>False
theorem zyg:∀ (l:List Oper) (j:Nat),(dsts l)[j]?=(l[j]?).map (·.dst)
 | [],j=>by simp [dsts]
 | o::l,0=>by simp [dsts]
 | o::l,j+1=>by simp [dsts,zyg l j]
theorem zh8 {l:List Oper} {o:Oper} {e:Env}:gd (dsts l) o.guard e=gdec l.toArray o e:=by
 unfold gd gdec
 cases o.guard with
 | none=>rfl
 | some q =>
  obtain ⟨j,want⟩:=q
  simp only[zyg,List.getElem?_toArray]
  cases l[j]? with
  | none=>rfl
  | some o'=>simp only[qO,Option.bind_some]; cases o'.dst <;> rfl
section
variable {P:Program} {T:Tab} {Q:Exit→Env→Store→Prop} {e:Env} {S:Store} {a b c:Code}
theorem zob {D:Bool} {l:List Oper} {K:Env→Store→Prop}:∀ (r:List Oper) (e:Env) (S:Store),za8 D P T (dsts l) r e S K→yb2 P T l.toArray K r e S
 | [],_,_,h=>h
 | o::r,e,S,h=>by
  unfold za8 at h
  unfold yb2 zdg
  rw [zh8]at h
  split at h
  ·rename_i hg; rw [hg]; exact zdu (fun v S'=>zob r _ _) (zil h)
  ·rename_i hg; rw [hg]; exact zob r _ _ h
  exact h.elim
theorem W.k {id:Nat} {l:List Oper} (h:∀ K:Env→Store→Prop,(∀ e S,Q .normal e S→K e S)→za8 false P T (dsts l) l e S K):W P T (.region id l.toArray false) Q e S :=
 W.region (zob _ _ _ (h _ fun _ _ h=>h))
theorem W.r {id:Nat} {l:List Oper} (h:∀ K:Env→Store→Prop,(∀ e S,W P T b Q e S→K e S)→za8 false P T (dsts l) l e S K):W P T (.seq (.region id l.toArray false) b) Q e S :=
 W.seq (W.k fun K hK=>h K hK)
theorem xn {n:Env→Store→Prop} (h:n e S):XThen n Q .normal e S:=h
theorem xe {n:Env→Store→Prop} {i:Nat} (h:Q (.exit i) e S):XThen n Q (.exit i) e S:=h
theorem XThen.ret {n:Env→Store→Prop} (h:Q .ret e S):XThen n Q .ret e S:=h
theorem XbN {i:Nat} (h:Q .normal e S):XBlock i Q .normal e S:=h
theorem XBlock.ret {i:Nat} (h:Q .ret e S):XBlock i Q .ret e S:=h
theorem XBlock.hit {i:Nat} (h:Q .normal e S):XBlock i Q (.exit i) e S:=by simpa [XBlock] using h
theorem z9p {t:Tmp}:e.ev (.tmp t)=e t:=rfl
theorem zyp {v:Value}:e.ev (.const v)=zfg v:=rfl
theorem z3c {f:FuncId}:e.ev (.func f) = .fn f []:=rfl
def evS (e:Env) (x:Operand):Option PV:=some (e.ev x)
theorem z3b {t:Tmp}:evS e (.tmp t)=some (e t):=rfl
theorem ztz {v:Value}:evS e (.const v)=some (zfg v):=rfl
theorem zyo {f:FuncId}:evS e (.func f)=some (.fn f []):=rfl
theorem zzp {d t:Nat} {v:PV}:(e.put (some d) v) t=if t=d then v else e t:=rfl
theorem zzo {v:PV}:e.put none v=e:=rfl
def zac (D:Bool) (P:Program) (T:Tab) (ds:List (Option Tmp)) (g:FuncId) (xs:List PV) (S:Store) (d:Option Tmp) (r:List Oper) (e:Env) (Q:Env→Store→Prop):Prop :=
 match D with
 | true=>∃ v tx fr,xs.mapM (reify S true 10)=some tx∧(fr=true∨xs.mapM (reify ⟨[],0⟩ true 10)=some tx)∧PC P g tx v fr∧za8 true P T ds r (e.put d v) S Q
 | false=>∃ J,Ev P g xs S J∧∀ v S',J v S'→za8 false P T ds r (e.put d v) S' Q
def z2g (D:Bool) (P:Program) (T:Tab) (ds:List (Option Tmp)) (l:Nat) (xs:List PV) (S:Store) (d:Option Tmp) (r:List Oper) (e:Env) (Q:Env→Store→Prop):Prop :=
 match D with
 | true=>False
 | false=>∃ J,Ey P l xs S J∧∀ v S',J v S'→za8 false P T ds r (e.put d v) S' Q
variable {D:Bool} {ds:List (Option Tmp)} {d:Option Tmp} {t:TypeId} {p:String} {af:Array Edge} {g:Option (Nat × Bool)} {r:List Oper} {K:Env→Store→Prop}
theorem zac.ev {f:FuncId} {xs:List PV} {J:PV→Store→Prop} (h:Ev P f xs S J) (k:∀ v S',J v S'→za8 false P T ds r (e.put d v) S' K):zac false P T ds f xs S d r e K:=⟨J,h,k⟩
theorem z2g.ey {l:Nat} {xs:List PV} {J:PV→Store→Prop} (h:Ey P l xs S J) (k:∀ v S',J v S'→za8 false P T ds r (e.put d v) S' K):z2g false P T ds l xs S d r e K:=⟨J,h,k⟩
theorem zac.pc {f:FuncId} {xs ts:List PV} {v:PV} {fr:Bool} (h:PC P f ts v fr) (h1:xs.mapM (reify S true 10)=some ts) (h2:fr=true∨xs.mapM (reify ⟨[],0⟩ true 10)=some ts)
  (k:za8 D P T ds r (e.put d v) S K):zac D P T ds f xs S d r e K:=by
 cases D with
 | true=>exact ⟨v,ts,fr,h1,h2,h,k⟩
 | false=>exact ⟨_,h.ev h1 h2,by rintro v' S' ⟨rfl,rfl⟩; exact k⟩
def zql:Op→Bool
 | .alloc _ | .box .. | .buildSlice .. | .makeSlice .. | .makeMap .. | .store .. | .mapUpdate .. => false
 | .call ⟨.builtin .append,_,_⟩=>false
 | .call ⟨.builtin .clear,_,_⟩=>false
 | .call ⟨.builtin .copy,_,_⟩=>false
 | _=>true
def zgl:List Oper→Nat→List Nat
 | [],_=>[]
 | o::r,i=>if zql o.op then zgl r (i+1) else i::zgl r (i+1)
theorem zjj:∀ (l:List Oper) (k i:Nat) (o:Oper),l[i]?=some o→k+i ∉ zgl l k→zql o.op=true
 | [],_,_,_,h,_=>by simp at h
 | o'::l,k,0,o,h,hn=>by
  simp at h; subst h
  unfold zgl at hn
  split at hn
  ·assumption
  simp at hn
 | o'::l,k,i+1,o,h,hn=>by
  simp only[List.getElem?_cons_succ]at h
  refine zjj l (k+1) i o h fun hm=>hn ?_
  unfold zgl
  split
  ·rwa [show k+(i+1)=k+1+i by omega]
  rw [show k+(i+1)=k+1+i by omega]; exact List.mem_cons_of_mem _ hm
theorem zwo {o:Op} {K:PV→Store→Prop} (hf:zql o=true) (h:sOp true P T e S o K):z2d P T S e o fun v=>K v S:=by
 unfold sOp at h
 split at h
 ·rename_i f xs ts
  simp only[z2d]
  split at h
  ·rename_i g cap hf
   simp only[hf]
   obtain ⟨v,tx,fr,h1,h2,h3,h4⟩:=h
   exact ⟨v,tx,fr,h1,h2,h3,h4⟩
  ·rename_i g cap hf
   simp only[hf]
   obtain ⟨v,tx,fr,h1,h2,h3,h4⟩:=h
   exact ⟨v,tx,fr,h1,h2,h3,h4⟩
  ·exact h.elim
  exact h.elim
 rename_i hne
 cases o with
 | call c =>
  obtain ⟨cal,xs,ts⟩:=c
  cases cal with
  | value f=>exact absurd rfl (hne f xs ts)
  | builtin b =>
   cases b <;> first
    | (simp [zql]at hf; done)
    | exact h
  | _=>exact h
 | _=>first
  | (simp [zql]at hf; done)
  | exact h
theorem ziu {all:List Oper} {K:Env→Store→Prop}:∀ (r:List Oper) (k:Nat) (e:Env) (S:Store),all.drop k=r→za8 true P T (dsts all) r e S K →
  zc5 P T all.toArray (zgl all 0) [] [] K (List.range' k r.length) e S
 | [],_,_,_,_,h=>h
 | o::r,k,e,S,hk,h=>by
  have ho:all[k]?=some o:=by
   have:=congrArg (fun l=>l[0]?) hk
   simpa using this
  have hr:all.drop (k+1)=r:=by
   have:=congrArg (List.drop 1) hk
   simpa [List.drop_drop] using this
  unfold za8 at h
  simp only[List.length_cons,List.range'_succ,zc5,List.getElem?_toArray,ho]
  rw [zh8]at h
  unfold zdg
  split at h
  ·rename_i hg
   rw [hg]
   simp only
   split
   ·rename_i hc
    exact zdu (fun v S' hv=>⟨.inr (by intro o ho; cases ho),ziu r (k+1) _ _ hr hv⟩) (zil h)
   rename_i hc
   have hflat:=zjj all 0 k o ho (by simpa using hc)
   have:=zwo hflat h
   rw [zcf]at this ⊢
   obtain ⟨v,h1,h2⟩:=this
   exact ⟨v,h1,by simp,ziu r (k+1) _ _ hr h2⟩
  ·rename_i hg; rw [hg]; exact ziu r (k+1) _ _ hr h
  exact h.elim
theorem W.draw_k {id:Nat} {l:List Oper} (hc:zfd l.toArray (List.range' 0 l.length) (zgl l 0) []=true) (h:∀ K:Env→Store→Prop,(∀ e S,Q .normal e S→K e S)→za8 true P T (dsts l) l e S K) :
  W P T (.region id l.toArray true) Q e S :=
 W.region_any (List.range' 0 l.length) (zgl l 0) [] [] hc (ziu l 0 _ _ rfl (h _ fun _ _ h=>h))
theorem W.seq_draw {id:Nat} {l:List Oper} (hc:zfd l.toArray (List.range' 0 l.length) (zgl l 0) []=true) (h:∀ K:Env→Store→Prop,(∀ e S,W P T b Q e S→K e S)→za8 true P T (dsts l) l e S K) :
  W P T (.seq (.region id l.toArray true) b) Q e S :=
 W.seq (W.draw_k hc fun K hK=>h K hK)
theorem zym:za8 D P T ds [] e S K=K e S:=rfl
theorem ztt {x:Operand}:za8 D P T ds (⟨d,.move x,t,p,af,g⟩::r) e S K =
  (match gd ds g e with | some true=>(match evS e x with | some v=>za8 D P T ds r (e.put d v) S K | none=>False) | some false=>za8 D P T ds r (e.put d (.tup [])) S K | none=>False):=by
 rw [za8]; cases D <;> rfl
theorem zn9 {x:Operand}:za8 D P T ds (⟨d,.assign x,t,p,af,g⟩::r) e S K =
  (match gd ds g e with | some true=>(match evS e x with | some v=>za8 D P T ds r (e.put d v) S K | none=>False) | some false=>za8 D P T ds r (e.put d (.tup [])) S K | none=>False):=by
 rw [za8]; cases D <;> rfl
theorem ztu {x y z:Operand}:za8 D P T ds (⟨d,.pick x y z,t,p,af,g⟩::r) e S K =
  (match gd ds g e with | some true=>(match z74 (e.ev x) (e.ev y) (e.ev z) with | some v=>za8 D P T ds r (e.put d v) S K | none=>False) | some false=>za8 D P T ds r (e.put d (.tup [])) S K | none=>False):=by
 rw [za8]; cases D <;> rfl
theorem zts {t1:TypeId} {x:Operand}:za8 D P T ds (⟨d,.load t1 x,t,p,af,g⟩::r) e S K =
  (match gd ds g e with | some true=>(match zr8 (T t1) S (e.ev x) with | some v=>za8 D P T ds r (e.put d v) S K | none=>False) | some false=>za8 D P T ds r (e.put d (.tup [])) S K | none=>False):=by
 rw [za8]; cases D <;> rfl
theorem zkg {x:Operand}:za8 D P T ds (⟨d,.nilCheck x,t,p,af,g⟩::r) e S K =
  (match gd ds g e with | some true=>(match zf5 S (e.ev x) with | some v=>za8 D P T ds r (e.put d v) S K | none=>False) | some false=>za8 D P T ds r (e.put d (.tup [])) S K | none=>False):=by
 rw [za8]; cases D <;> rfl
theorem zp5 {op:BinOp} {t1 t2:TypeId} {x y:Operand}:za8 D P T ds (⟨d,.binOp op t1 x y t2,t,p,af,g⟩::r) e S K =
  (match gd ds g e with | some true=>(match ydc T S op t1 (e.ev x) (e.ev y) with | some v=>za8 D P T ds r (e.put d v) S K | none=>False) | some false=>za8 D P T ds r (e.put d (.tup [])) S K | none=>False):=by
 rw [za8]; cases D <;> rfl
theorem ztv {op:UnOp} {t1:TypeId} {x:Operand}:za8 D P T ds (⟨d,.unOp op t1 x,t,p,af,g⟩::r) e S K =
  (match gd ds g e with | some true=>(match pUn op (e.ev x) with | some v=>za8 D P T ds r (e.put d v) S K | none=>False) | some false=>za8 D P T ds r (e.put d (.tup [])) S K | none=>False):=by
 rw [za8]; cases D <;> rfl
theorem zmm {t1 t2:TypeId} {x:Operand}:za8 D P T ds (⟨d,.convert t1 t2 x,t,p,af,g⟩::r) e S K =
  (match gd ds g e with | some true=>(match zi0 T S t1 t2 (e.ev x) with | some v=>za8 D P T ds r (e.put d v) S K | none=>False) | some false=>za8 D P T ds r (e.put d (.tup [])) S K | none=>False):=by
 rw [za8]; cases D <;> rfl
theorem zkf {fn:Go.Fn} {xs ys:Array Operand}:za8 D P T ds (⟨d,.makeFunc fn xs ys,t,p,af,g⟩::r) e S K =
  (match gd ds g e with | some true=>(match zkx fn (xs.toList.map e.ev) (ys.toList.map e.ev) with | some v=>za8 D P T ds r (e.put d v) S K | none=>False) | some false=>za8 D P T ds r (e.put d (.tup [])) S K | none=>False):=by
 rw [za8]; cases D <;> rfl
theorem zqa {t1:TypeId} {x:Operand} {lo hi:Option Operand}:za8 D P T ds (⟨d,.slice t1 x lo hi none,t,p,af,g⟩::r) e S K =
  (match gd ds g e with | some true=>(match zu0 T S t1 (e.ev x) (lo.map e.ev) (hi.map e.ev) with | some v=>za8 D P T ds r (e.put d v) S K | none=>False) | some false=>za8 D P T ds r (e.put d (.tup [])) S K | none=>False):=by
 rw [za8]; cases D <;> rfl
theorem zja {t1:TypeId} {x:Operand} {n:Nat}:za8 D P T ds (⟨d,.fieldAddr t1 x n,t,p,af,g⟩::r) e S K =
  (match gd ds g e with | some true=>(match zez T S t1 (e.ev x) n with | some v=>za8 D P T ds r (e.put d v) S K | none=>False) | some false=>za8 D P T ds r (e.put d (.tup [])) S K | none=>False):=by
 rw [za8]; cases D <;> rfl
theorem zp8 {t1:TypeId} {x:Operand} {n:Nat}:za8 D P T ds (⟨d,.field t1 x n,t,p,af,g⟩::r) e S K =
  (match gd ds g e with | some true=>(match zut T t1 (e.ev x) n with | some v=>za8 D P T ds r (e.put d v) S K | none=>False) | some false=>za8 D P T ds r (e.put d (.tup [])) S K | none=>False):=by
 rw [za8]; cases D <;> rfl
theorem zjb {t1:TypeId} {x y:Operand}:za8 D P T ds (⟨d,.indexAddr t1 x y,t,p,af,g⟩::r) e S K =
  (match gd ds g e with | some true=>(match ze0 T S t1 (e.ev x) (e.ev y) with | some v=>za8 D P T ds r (e.put d v) S K | none=>False) | some false=>za8 D P T ds r (e.put d (.tup [])) S K | none=>False):=by
 rw [za8]; cases D <;> rfl
theorem zp9 {t1:TypeId} {x y:Operand}:za8 D P T ds (⟨d,.index t1 x y,t,p,af,g⟩::r) e S K =
  (match gd ds g e with | some true=>(match zuw T t1 (e.ev x) (e.ev y) with | some v=>za8 D P T ds r (e.put d v) S K | none=>False) | some false=>za8 D P T ds r (e.put d (.tup [])) S K | none=>False):=by
 rw [za8]; cases D <;> rfl
theorem zmn {x:Operand} {n:Nat}:za8 D P T ds (⟨d,.extract x n,t,p,af,g⟩::r) e S K =
  (match gd ds g e with | some true=>(match znn (e.ev x) n with | some v=>za8 D P T ds r (e.put d v) S K | none=>False) | some false=>za8 D P T ds r (e.put d (.tup [])) S K | none=>False):=by
 rw [za8]; cases D <;> rfl
theorem zp6 {t1:TypeId} {ps:Array (Nat × Operand)}:za8 D P T ds (⟨d,.build t1 ps,t,p,af,g⟩::r) e S K =
  (match gd ds g e with | some true=>(match zuq T t1 (ps.toList.map fun p=>(p.1,e.ev p.2)) with | some v=>za8 D P T ds r (e.put d v) S K | none=>False) | some false=>za8 D P T ds r (e.put d (.tup [])) S K | none=>False):=by
 rw [za8]; cases D <;> rfl
theorem zoa {t1:TypeId} {x y:Operand} {ok:Bool}:za8 D P T ds (⟨d,.lookup t1 x y ok,t,p,af,g⟩::r) e S K =
  (match gd ds g e with | some true=>(match zoy T S t1 (e.ev x) (e.ev y) ok with | some v=>za8 D P T ds r (e.put d v) S K | none=>False) | some false=>za8 D P T ds r (e.put d (.tup [])) S K | none=>False):=by
 rw [za8]; cases D <;> rfl
theorem zyj {xs:Array Operand} {ts:Array TypeId}:za8 D P T ds (⟨d,.call ⟨.builtin .len,xs,ts⟩,t,p,af,g⟩::r) e S K =
  (match gd ds g e with | some true=>(match zeh T S (.builtin .len) (xs.toList.map e.ev) ts.toList with | some v=>za8 D P T ds r (e.put d v) S K | none=>False) | some false=>za8 D P T ds r (e.put d (.tup [])) S K | none=>False):=by
 rw [za8]; cases D <;> rfl
theorem zyk {xs:Array Operand} {ts:Array TypeId}:za8 D P T ds (⟨d,.call ⟨.builtin .max,xs,ts⟩,t,p,af,g⟩::r) e S K =
  (match gd ds g e with | some true=>(match z72 (xs.toList.map e.ev) with | some v=>za8 D P T ds r (e.put d v) S K | none=>False) | some false=>za8 D P T ds r (e.put d (.tup [])) S K | none=>False):=by
 rw [za8]; cases D <;> rfl
theorem zyl {xs:Array Operand} {ts:Array TypeId}:za8 D P T ds (⟨d,.call ⟨.builtin .min,xs,ts⟩,t,p,af,g⟩::r) e S K =
  (match gd ds g e with | some true=>(match z73 (xs.toList.map e.ev) with | some v=>za8 D P T ds r (e.put d v) S K | none=>False) | some false=>za8 D P T ds r (e.put d (.tup [])) S K | none=>False):=by
 rw [za8]; cases D <;> rfl
theorem zn8 {x y:Operand} {t1 t2:TypeId}:za8 D P T ds (⟨d,.call ⟨.builtin .append,#[x,y],#[t1,t2]⟩,t,p,af,g⟩::r) e S K =
  (match gd ds g e with | some true=>(t1=t2∧zl0 T t1 S (e.ev x) (e.ev y) fun v S=>za8 D P T ds r (e.put d v) S K) | some false=>za8 D P T ds r (e.put d (.tup [])) S K | none=>False):=by
 rw [za8]; cases D <;> rfl
theorem ztr {x y:Operand} {t1 t2:TypeId}:za8 D P T ds (⟨d,.call ⟨.builtin .copy,#[x,y],#[t1,t2]⟩,t,p,af,g⟩::r) e S K =
  (match gd ds g e with | some true=>(z1i T t1 S (e.ev x) (e.ev y) fun v S=>za8 D P T ds r (e.put d v) S K) | some false=>za8 D P T ds r (e.put d (.tup [])) S K | none=>False):=by
 rw [za8]; cases D <;> rfl
theorem zp7 {x:Operand} {t1:TypeId}:za8 D P T ds (⟨d,.call ⟨.builtin .clear,#[x],#[t1]⟩,t,p,af,g⟩::r) e S K =
  (match gd ds g e with | some true=>(zqu T t1 S (e.ev x) fun v S=>za8 D P T ds r (e.put d v) S K) | some false=>za8 D P T ds r (e.put d (.tup [])) S K | none=>False):=by
 rw [za8]; cases D <;> rfl
theorem ztq {f:Operand} {xs:Array Operand} {ts:Array TypeId}:za8 D P T ds (⟨d,.call ⟨.value f,xs,ts⟩,t,p,af,g⟩::r) e S K =
  (match gd ds g e with | some true=>(match e.ev f with | .fn f1 cap=>zac D P T ds f1 (xs.toList.map e.ev++cap) S d r e K | .bm f1 b=>zac D P T ds f1 (b::xs.toList.map e.ev) S d r e K | .yl l=>z2g D P T ds l (xs.toList.map e.ev) S d r e K | _=>False) | some false=>za8 D P T ds r (e.put d (.tup [])) S K | none=>False):=by
 rw [za8]; cases D <;> rfl
theorem zp4 {t1:TypeId}:za8 D P T ds (⟨d,.alloc t1,t,p,af,g⟩::r) e S K =
  (match gd ds g e with | some true=>((T t1).kd ≠ .none∧za8 D P T ds r (e.put d (.ref S.obs.length S.tick 0)) (S.push t1 (T t1).size (T t1).zero) K) | some false=>za8 D P T ds r (e.put d (.tup [])) S K | none=>False):=by
 rw [za8]; cases D <;> rfl
theorem zyi {t1:TypeId} {x:Operand}:za8 D P T ds (⟨d,.box t1 x,t,p,af,g⟩::r) e S K =
  (match gd ds g e with | some true=>((T t1).kd ≠ .none∧(e.ev x).cells.length=(T t1).size∧zbu (e.ev x).cells∧za8 D P T ds r (e.put d (.ref S.obs.length S.tick 0)) (S.push t1 (T t1).size (e.ev x).cells) K) | some false=>za8 D P T ds r (e.put d (.tup [])) S K | none=>False):=by
 rw [za8]; cases D <;> rfl
theorem zmo {t1:TypeId}:za8 D P T ds (⟨d,.makeMap t1 none,t,p,af,g⟩::r) e S K =
  (match gd ds g e with | some true=>(za8 D P T ds r (e.put d (.mp S.obs.length S.tick)) S.pushMap K) | some false=>za8 D P T ds r (e.put d (.tup [])) S K | none=>False):=by
 rw [za8]; simp only[sOp,pOp,Option.isNone_none,true_and]
theorem zqb {t1:TypeId} {x y:Operand}:za8 D P T ds (⟨d,.store t1 x y,t,p,af,g⟩::r) e S K =
  (match gd ds g e with | some true=>(pOp P T e S (.store t1 x y) fun v S=>za8 D P T ds r (e.put d v) S K) | some false=>za8 D P T ds r (e.put d (.tup [])) S K | none=>False):=by
 rw [za8]; rfl
theorem zh2 {t1:TypeId} {n:Nat} {ps:Array (Nat × Operand)}:za8 D P T ds (⟨d,.buildSlice t1 n ps,t,p,af,g⟩::r) e S K =
  (match gd ds g e with | some true=>(pOp P T e S (.buildSlice t1 n ps) fun v S=>za8 D P T ds r (e.put d v) S K) | some false=>za8 D P T ds r (e.put d (.tup [])) S K | none=>False):=by
 rw [za8]; rfl
theorem zjc {t1:TypeId} {x y:Operand}:za8 D P T ds (⟨d,.makeSlice t1 x y,t,p,af,g⟩::r) e S K =
  (match gd ds g e with | some true=>(pOp P T e S (.makeSlice t1 x y) fun v S=>za8 D P T ds r (e.put d v) S K) | some false=>za8 D P T ds r (e.put d (.tup [])) S K | none=>False):=by
 rw [za8]; rfl
theorem zjd {t1:TypeId} {x y z:Operand}:za8 D P T ds (⟨d,.mapUpdate t1 x y z,t,p,af,g⟩::r) e S K =
  (match gd ds g e with | some true=>(pOp P T e S (.mapUpdate t1 x y z) fun v S=>za8 D P T ds r (e.put d v) S K) | some false=>za8 D P T ds r (e.put d (.tup [])) S K | none=>False):=by
 rw [za8]; rfl
theorem zuz {t1:TypeId} {a x:Operand} {K:PV→Store→Prop}:pOp P T e S (.store t1 a x) K=(    match e.ev a with
  | .ref o ver off =>
   match S.obs[o]? with
   | some (.arr v et sz cells) =>
    v=ver∧(T t1).kd ≠ .none∧(e.ev x).cells.length=(T t1).size∧off+(T t1).size≤cells.length∧zbu (e.ev x).cells ∧
     K (.tup []) (S.set o (.arr v et sz (spl cells off (e.ev x).cells)))
   | _=>False
  | _=>False):=rfl
theorem zje {t1:TypeId} {n:Nat} {parts:Array (Nat × Operand)} {K:PV→Store→Prop}:pOp P T e S (.buildSlice t1 n parts) K=(    match (T t1).kd with
  | .slice et =>
   n≤16777216∧n*(T et).size≤16777216 ∧
   match zhv T (fun i=>some (i*(T et).size,(T et).size)) (repz (T et).zero n) (parts.toList.map fun p=>(p.1,e.ev p.2)) with
   | some cells=>zbu cells∧K (.loc S.obs.length S.tick 0 n) (S.push et (T et).size cells)
   | none=>False
  | _=>False):=rfl
theorem zkz {t1:TypeId} {l c:Operand} {K:PV→Store→Prop}:pOp P T e S (.makeSlice t1 l c) K=(    match (T t1).kd,e.ev l,e.ev c with
  | .slice et,.int _ l,.int _ c=>l=c∧0≤l∧(T et).bytes*l≤281474976710656∧l≤9223372036854775807 ∧
    K (.loc S.obs.length S.tick 0 l.toNat) (S.push et (T et).size (repz (T et).zero l.toNat))
  | _,_,_=>False):=rfl
theorem zk0 {t1:TypeId} {m k x:Operand} {K:PV→Store→Prop}:pOp P T e S (.mapUpdate t1 m k x) K=(    match (T t1).kd,e.ev m with
  | .map kt _,.mp o ver =>
   match S.obs[o]? with
   | some (.map v es) =>
    v=ver∧TK.keyed T kt (e.ev k)=true ∧
     match findKey (e.ev k) es 0 with
     | some (some (i,_))=>K (.tup []) (S.set o (.map v (es.set i (e.ev k,e.ev x))))
     | some none=>K (.tup []) (S.set o (.map v (es++[(e.ev k,e.ev x)])))
     | none=>False
   | _=>False
  | _,_=>False):=rfl
theorem zus {t:TypeId} {x:PV} {K:PV→Store→Prop}:zqu T t S x K=(
 match (T t).kd with
 | .slice e =>
  match x with
  | .loc o ver off n =>
   match S.obs[o]? with
   | some (.arr v et sz cells)=>v=ver∧(T e).kd ≠ .none∧off+(repz (T e).zero n).length≤cells.length∧zbu (repz (T e).zero n)∧K (.tup []) (S.set o (.arr v et sz (spl cells off (repz (T e).zero n))))
   | _=>False
  | _=>False
 | _=>False):=rfl
theorem zzb {t:TypeId} {x y:PV} {K:PV→Store→Prop}:z1i T t S x y K=(
 match (T t).kd with
 | .slice e =>
  match zco S (T e).size y with
  | some (m,ys) =>
   match x with
   | .loc o ver off n =>
    match S.obs[o]? with
    | some (.arr v et sz cells)=>v=ver∧sz=(T e).size∧off+(ys.take (min m n*sz)).length≤cells.length ∧
      K (.int .i64 ((min m n:Nat):Int)) (S.set o (.arr v et sz (spl cells off (ys.take (min m n*sz)))))
    | _=>False
   | _=>False
  | none=>False
 | _=>False):=rfl
theorem zqs {t:TypeId} {x y:PV} {K:PV→Store→Prop}:zl0 T t S x y K=(
 match (T t).kd with
 | .slice e =>
  match zco S (T e).size y with
  | some (m,ys) =>
   match x with
   | .nils=>if m=0 then K .nils S else m*(T e).bytes≤140737488355328∧m≤maxLen∧K (.loc S.obs.length S.tick 0 m) (S.push e (T e).size ys)
   | .loc o ver 0 n =>
    match S.obs[o]? with
    | some (.arr v et sz cells) =>
     v=ver∧et=e∧sz=(T e).size∧n*sz≤cells.length∧(n+m)*(T e).bytes≤140737488355328∧n+m≤maxLen ∧
      K (.loc o S.tick 0 (n+m)) ⟨S.obs.set o (.arr S.tick et sz (cells.take (n*sz)++ys)),S.tick+1⟩
    | _=>False
   | _=>False
  | none=>False
 | _=>False):=rfl
end
end
theorem z4n {t i:Nat} {ts:List Nat} {v:PV} {vs:List PV}:Env.of (t::ts) (v::vs) i=if i=t then v else Env.of ts vs i:=rfl
theorem znw {v:PV} {vs:List PV}:zaf (v::vs) 0=v:=rfl
theorem znx {v:PV} {vs:List PV} {t:Nat}:zaf (v::vs) (t+1)=zaf vs t:=rfl
theorem Br {T:Tab} {rs:List ResultVar} {K:PV→Store→Prop} {e:Env} {S:Store} {v:PV} (h:zsm T S e rs=some v) (k:K v S):zeo T rs K .ret e S:=by
 simp only[zeo,h]; exact k
theorem zeo.norm {T:Tab} {rs:List ResultVar} {K:PV→Store→Prop} {e:Env} {S:Store} {v:PV} (h:zsm T S e rs=some v) (k:K v S):zeo T rs K .normal e S:=by
 simp only[zeo,h]; exact k
theorem w64 {x:Int} (h1 : -9223372036854775808≤x) (h2:x<9223372036854775808):IntKind.i64.wrap x=x:=by
 rw [IntKind.wrap_i64]; omega
abbrev zep (p:List (List UInt8)):PV := .sl (p.map .str) p.length
abbrev eInts (p:List Int):PV := .sl (p.map (.int .i64)) p.length
theorem tk {α:Type} {l:List α} {i:Nat} {a:α} (h:l[i]?=some a):l.take (i+1)=l.take i++[a]:=by
 rw [List.take_add_one,h]; rfl
theorem zai {α:Type} {l:List α} {i:Nat} (h:i<l.length):∃ a,l[i]?=some a∧a∈l:=⟨l[i],List.getElem?_eq_getElem h,List.getElem_mem h⟩
theorem zjo {a b:Int}:(if b>a then b else a)=max a b:=by omega
theorem zoj {a b:Int}:(if b<a then b else a)=min a b:=by omega
-- BUNDLES
theorem bq1:(true == false)=false:=rfl
theorem bq2:(false == true)=false:=rfl
theorem bq3:(true == true)=true:=rfl
theorem bq4:(false == false)=true:=rfl
theorem nb1:(!true)=false:=rfl
theorem nb2:(!false)=true:=rfl
theorem z3p {ds:List (Option Tmp)} {e:Env}:gd ds none e=some true:=rfl
theorem z3q {ds:List (Option Tmp)} {e:Env} {j:Nat} {want:Bool}:gd ds (some (j,want)) e=(match ds[j]? with
  | some (some d)=>match e d with
   | .bool b=>some (b == want)
   | .tup []=>some false
   | _=>none
  | _=>none):=rfl
theorem z93 {k:IntKind} {n:Int}:zfg (.int k n) = .int k n:=rfl
theorem z4i {b:Bool}:zfg (.bool b) = .bool b:=rfl
theorem z4l:zfg (.pointer none) = .nilp:=rfl
theorem z4m:zfg (.slice none 0 0) = .nils:=rfl
theorem z4j:zfg .nilFunc = .nilf:=rfl
theorem z4k:zfg (.map none) = .nilm:=rfl
theorem z94 {s:ByteArray}:zfg (.string s) = .str s.data.toList:=rfl
theorem gl0 {a:Option Tmp} {l:List (Option Tmp)}:(a::l)[0]?=some a:=rfl
theorem gls {a:Option Tmp} {l:List (Option Tmp)} {i:Nat}:(a::l)[i+1]?=l[i]?:=rfl
theorem ztb {cs:List PV}:(PV.agg cs).cells=cs:=rfl
theorem z4y {k:IntKind} {n:Int}:pUn .neg (.int k n)=some (.int k (k.wrap (0 - n))):=rfl
theorem z4z {b:Bool}:pUn .not (.bool b)=some (.bool (!b)):=rfl
theorem zqz {t:Bool} {a b:PV}:z74 (.bool t) a b=some (if t then a else b):=rfl
theorem zmw {vs:List PV} {i:Nat}:znn (.tup vs) i=vs[i]?:=rfl
theorem zzg {ti:TI} {S:Store} {cs:List PV} {off:Nat}:zr8 ti S (.ip cs off)=zjm ti cs off:=rfl
theorem zox {ti:TI} {S:Store} {o ver off:Nat}:zr8 ti S (.ref o ver off)=(S.cellsOf o ver).bind fun cells=>zjm ti cells off:=rfl
theorem zmz {S:Store} {cs:List PV} {off:Nat}:zf5 S (.ip cs off)=some (.ip cs off):=rfl
theorem zky {S:Store} {o ver off:Nat}:zf5 S (.ref o ver off)=(S.cellsOf o ver).map fun _ => .ref o ver off:=rfl
theorem zzh {x:PV}:z72 [x]=some x:=rfl
theorem zzi {k k':IntKind} {a b:Int} {r:List PV}:z72 (.int k a :: .int k' b::r)=z72 (.int k (if b>a then b else a)::r):=rfl
theorem zzj {x:PV}:z73 [x]=some x:=rfl
theorem zzk {k k':IntKind} {a b:Int} {r:List PV}:z73 (.int k a :: .int k' b::r)=z73 (.int k (if b<a then b else a)::r):=rfl
theorem zyy {k:TK}:k.isAgg=(match k with | .struct _ | .arr _ _=>true | _=>false):=rfl
theorem z4t {T:Tab} {S:Store} {op:BinOp} {t:TypeId} {x y:PV}:ydc T S op t x y=(
 match x,y with
 | .int k a,.int k' b =>
  match op with
  | .shl | .shr=>zzm op k a b
  | _=>if k=k' then zuo op k a b else none
 | .str a,.str b=>yeg op a b
 | _,_ =>
  match op with
  | .eql=>(pEq T S t x y).map .bool
  | .neq=>(pEq T S t x y).map fun b => .bool (!b)
  | _=>none):=rfl
theorem zup {op:BinOp} {k:IntKind} {a b:Int}:zuo op k a b=(
 match op with
 | .add=>some (.int k (k.wrap (a+b)))
 | .sub=>some (.int k (k.wrap (a - b)))
 | .mul=>some (.int k (k.wrap (a*b)))
 | .quo=>if b=0 then none else some (.int k (k.wrap (a.tdiv b)))
 | .rem=>if b=0 then none else some (.int k (a.tmod b))
 | .and=>some (.int k (k.wrap (BitVec.ofInt k.bits a &&& BitVec.ofInt k.bits b).toNat))
 | .or=>some (.int k (k.wrap (BitVec.ofInt k.bits a ||| BitVec.ofInt k.bits b).toNat))
 | .xor=>some (.int k (k.wrap (BitVec.ofInt k.bits a ^^^ BitVec.ofInt k.bits b).toNat))
 | .eql=>some (.bool (a == b))
 | .neq=>some (.bool (a != b))
 | .lss=>some (.bool (a<b))
 | .leq=>some (.bool (a≤b))
 | .gtr=>some (.bool (a>b))
 | .geq=>some (.bool (a ≥ b))
 | _=>none):=rfl
theorem zkw {T:Tab} {S:Store} {t:TypeId} {x i:PV}:ze0 T S t x i=(
 match i with
 | .int _ i =>
  match (T t).kd,x with
  | .slice e,.sl cs n=>if 0≤i∧i<n then some (.ip cs (i.toNat*(T e).size)) else none
  | .slice e,.loc o ver off n=>(S.cellsOf o ver).bind fun _=>if 0≤i∧i<n then some (.ref o ver (off+i.toNat*(T e).size)) else none
  | .arr n e,.ref o ver off=>(S.cellsOf o ver).bind fun _=>if 0≤i∧i<n then some (.ref o ver (off+i.toNat*(T e).size)) else none
  | .arr n e,.ip cs off=>if 0≤i∧i<n then some (.ip cs (off+i.toNat*(T e).size)) else none
  | _,_=>none
 | _=>none):=rfl
theorem zux {T:Tab} {t:TypeId} {x i:PV}:zuw T t x i=(
 match i with
 | .int _ i =>
  match (T t).kd,x with
  | .str,.str s=>if 0≤i then (s[i.toNat]?).map fun b => .int .u8 b.toNat else none
  | .arr n e,.agg cs=>if 0≤i∧i<n then z4x (T e) cs (i.toNat*(T e).size) else none
  | _,_=>none
 | _=>none):=rfl
theorem zou {T:Tab} {S:Store} {c:Callee} {xs:List PV} {ts:List TypeId}:zeh T S c xs ts=(
 match c with
 | .builtin .len=>match xs,ts with
  | [x],[t]=>ydd T S t x
  | _,_=>none
 | .builtin .max=>z72 xs
 | .builtin .min=>z73 xs
 | _=>none):=rfl
theorem z4w {T:Tab} {S:Store} {t:TypeId} {x:PV}:ydd T S t x=(
 match (T t).kd,x with
 | .str,.str s=>some (.int .i64 s.length)
 | .arr n _,_=>some (.int .i64 n)
 | .slice _,.nils=>some (.int .i64 0)
 | .slice _,.sl _ n=>some (.int .i64 n)
 | .slice _,.loc o ver _ n=>(S.cellsOf o ver).map fun _ => .int .i64 n
 | .map _ _,.mp o ver=>match S.obs[o]? with
  | some (.map v es)=>if v=ver then some (.int .i64 es.length) else none
  | _=>none
 | _,_=>none):=rfl
theorem zov {T:Tab} {S:Store} {src dst:TypeId} {x:PV}:zi0 T S src dst x=(
 match (T src).kd,(T dst).kd,x with
 | .int _,.int k,.int _ n=>some (.int k (k.wrap n))
 | .int _,.str,.int _ n=>some (.str (Utf8.encode n).data.toList)
 | .str,.str,.str s=>some (.str s)
 | .slice e,.str,x =>
  match (T e).kd with
  | .int .u8=>(zco S 1 x).bind fun q=>(zfx q.2).map .str
  | _=>none
 | .str,.slice e,.str s =>
  match (T e).kd with
  | .int .u8=>some (.sl (s.map fun b => .int .u8 b.toNat) s.length)
  | _=>none
 | _,_,_=>none):=rfl
theorem zuu {T:Tab} {t:TypeId} {x:PV} {f:Nat}:zut T t x f=(
 match (T t).kd,x with
 | .struct fs,.agg cs =>
  match fs[f]? with
  | some (fo,ft)=>z4x (T ft) cs fo
  | none=>none
 | _,_=>none):=rfl
theorem zzl {ti:TI} {cs:List PV} {off:Nat}:z4x ti cs off=(
zjm ti cs off):=rfl
theorem zkv {T:Tab} {S:Store} {t:TypeId} {x:PV} {f:Nat}:zez T S t x f=(
 match (T t).kd with
 | .struct fs =>
  match fs[f]?,x with
  | some (fo,ft),.ip cs off=>if (T ft).size=0 then none else some (.ip cs (off+fo))
  | some (fo,ft),.ref o ver off=>if (T ft).size=0 then none else (S.cellsOf o ver).map fun _ => .ref o ver (off+fo)
  | _,_=>none
 | _=>none):=rfl
theorem zu1 {T:Tab} {S:Store} {t:TypeId} {x:PV} {lo hi:Option PV}:zu0 T S t x lo hi=(
 match (T t).kd,x with
 | .str,.str s=>(zfh s.length lo hi).map fun (l,h) => .str ((s.take h).drop l)
 | .slice e,.sl cs n=>(zfh n lo hi).map fun (l,h) => .sl ((cs.take (h*(T e).size)).drop (l*(T e).size)) (h - l)
 | .slice e,.loc o ver off n =>
  match S.obs[o]? with
  | some (.arr v _ sz _) =>
   if v=ver∧sz=(T e).size then (zfh n lo hi).bind fun (l,h)=>if l=0∨l<n then some (.loc o ver (off+l*sz) (h - l)) else none
   else none
  | _=>none
 | _,_=>none):=rfl
theorem zqw {T:Tab} {S:Store} {t:TypeId} {m k:PV} {ok:Bool}:zoy T S t m k ok=(
 match (T t).kd,m with
 | .map kt vt,.mp o ver =>
  match S.obs[o]? with
  | some (.map v es) =>
   if v=ver∧TK.keyed T kt k=true∧(T vt).kd.isAgg=false then
    (findKey k es 0).bind fun r=>match r with
     | some (_,x)=>some (if ok then .tup [x,.bool true] else x)
     | none=>((T vt).zero[0]?).map fun z=>if ok then .tup [z,.bool false] else z
   else none
  | _=>none
 | _,_=>none):=rfl
theorem zmy {fn:Go.Fn} {first cap:List PV}:zkx fn first cap=(
 match fn,first with
 | .func f,[]=>some (.fn f cap)
 | .func f,[x]=>if zk3 10 x && cap.isEmpty then some (.bm f x) else none
 | _,_=>none):=rfl
theorem zys {ti:TI} {cs:List PV} {off:Nat}:zjm ti cs off=(
 if ti.kd = .none then none else if ti.kd.isAgg then (if off+ti.size≤cs.length then some (.agg ((cs.drop off).take ti.size)) else none) else cs[off]?):=rfl
theorem zur {T:Tab} {t:TypeId} {parts:List (Nat × PV)}:zuq T t parts=(
 match (T t).kd with
 | .struct fs=>(zhv T (fun i=>(fs[i]?).map fun f=>(f.1,(T f.2).size)) (T t).zero parts).map .agg
 | .arr _ e=>(zhv T (fun i=>some (i*(T e).size,(T e).size)) (T t).zero parts).map .agg
 | _=>none):=rfl
theorem RU:(type_of% @z9p)∧(type_of% @zyp)∧(type_of% @z3c)∧(type_of% @zzp)∧(type_of% @zzo)∧(type_of% @zym)∧(type_of% @ztt)∧(type_of% @zn9)∧(type_of% @ztu)∧(type_of% @zts)∧(type_of% @zkg)∧(type_of% @zp5)∧(type_of% @ztv)∧(type_of% @zmm)∧(type_of% @zkf)∧(type_of% @zqa)∧(type_of% @zja)∧(type_of% @zp8)∧(type_of% @zjb)∧(type_of% @zp9)∧(type_of% @zmn)∧(type_of% @zp6)∧(type_of% @zoa)∧(type_of% @zyj)∧(type_of% @zyk)∧(type_of% @zyl)∧(type_of% @zn8)∧(type_of% @ztq)∧(type_of% @zp7)∧(type_of% @ztr)∧(type_of% @zp4)∧(type_of% @zyi)∧(type_of% @zmo)∧(type_of% @zqb)∧(type_of% @zh2)∧(type_of% @zjc)∧(type_of% @zjd)∧(type_of% @zuz)∧(type_of% @zje)∧(type_of% @zkz)∧(type_of% @zk0)∧(type_of% @zqs)∧(type_of% @zus)∧(type_of% @zzb)∧(type_of% @z4n):=⟨@z9p,@zyp,@z3c,@zzp,@zzo,@zym,@ztt,@zn9,@ztu,@zts,@zkg,@zp5,@ztv,@zmm,@zkf,@zqa,@zja,@zp8,@zjb,@zp9,@zmn,@zp6,@zoa,@zyj,@zyk,@zyl,@zn8,@ztq,@zp7,@ztr,@zp4,@zyi,@zmo,@zqb,@zh2,@zjc,@zjd,@zuz,@zje,@zkz,@zk0,@zqs,@zus,@zzb,@z4n⟩
theorem RV:(type_of% @ztn)∧(type_of% @zyh)∧(type_of% @z3b)∧(type_of% @ztz)∧(type_of% @zyo)∧(type_of% @znw)∧(type_of% @znx)∧(type_of% @bq1)∧(type_of% @bq2)∧(type_of% @bq3)∧(type_of% @bq4)∧(type_of% @nb1)∧(type_of% @nb2)∧(type_of% @z3p)∧(type_of% @z3q)∧(type_of% @z93)∧(type_of% @z4i)∧(type_of% @z4l)∧(type_of% @z4m)∧(type_of% @z4j)∧(type_of% @z4k)∧(type_of% @z94)∧(type_of% @gl0)∧(type_of% @gls)∧(type_of% @ztb)∧(type_of% @z4y)∧(type_of% @z4z)∧(type_of% @zqz)∧(type_of% @zmw)∧(type_of% @zzg)∧(type_of% @zox)∧(type_of% @zmz)∧(type_of% @zky)∧(type_of% @zzh)∧(type_of% @zzi)∧(type_of% @zzj)∧(type_of% @zzk)∧(type_of% @zyy)∧(type_of% @z4t)∧(type_of% @zup)∧(type_of% @zkw)∧(type_of% @zux)∧(type_of% @zou)∧(type_of% @z4w)∧(type_of% @zov)∧(type_of% @zuu)∧(type_of% @zzl)∧(type_of% @zkv)∧(type_of% @zu1)∧(type_of% @zqw)∧(type_of% @zmy)∧(type_of% @zur)∧(type_of% @zys):=⟨@ztn,@zyh,@z3b,@ztz,@zyo,@znw,@znx,@bq1,@bq2,@bq3,@bq4,@nb1,@nb2,@z3p,@z3q,@z93,@z4i,@z4l,@z4m,@z4j,@z4k,@z94,@gl0,@gls,@ztb,@z4y,@z4z,@zqz,@zmw,@zzg,@zox,@zmz,@zky,@zzh,@zzi,@zzj,@zzk,@zyy,@z4t,@zup,@zkw,@zux,@zou,@z4w,@zov,@zuu,@zzl,@zkv,@zu1,@zqw,@zmy,@zur,@zys⟩
theorem zmg:zbu []:=fun _ h=>by cases h
theorem zkb {p:PV} {ps:List PV}:zbu (p::ps)↔p.isCell=true∧zbu ps:=by
 unfold zbu; simp
theorem zs4 {α:Type} {f:α→PV} (h:∀ a,(f a).isCell=true) (l:List α):zbu (l.map f):=by
 intro p hp; obtain ⟨a,_,rfl⟩:=List.mem_map.1 hp; exact h a
theorem yaf {S:Store} {sz o ver off n:Nat}:zco S sz (.loc o ver off n)=(S.cellsOf o ver).bind fun cells=>if off+n*sz≤cells.length then some (n,(cells.drop off).take (n*sz)) else none:=rfl
theorem yeq {S:Store} {sz n:Nat} {cs:List PV}:zco S sz (.sl cs n)=if cs.length=n*sz then some (n,cs) else none:=rfl
theorem z5z {S:Store} {sz:Nat}:zco S sz .nils=some (0,[]):=rfl
theorem ya1 {S:Store} {o ver:Nat}:S.cellsOf o ver=(match S.obs[o]? with | some (.arr v _ _ cells)=>if v=ver then some cells else none | _=>none):=rfl
theorem z46 {l:List Ob} {t et sz:Nat} {cells:List PV}:Store.push ⟨l,t⟩ et sz cells=⟨l++[.arr t et sz cells],t+1⟩:=rfl
theorem zq4 {l:List Ob} {t:Nat}:Store.pushMap ⟨l,t⟩=⟨l++[.map t []],t+1⟩:=rfl
theorem yac {l:List Ob} {t o:Nat} {ob:Ob}:Store.set ⟨l,t⟩ o ob=⟨l.set o ob,t⟩:=rfl
theorem zde {l:List Ob} {t k:Nat}:Store.take ⟨l,t⟩ k=⟨l.take k,t⟩:=rfl
theorem ztd {k:IntKind} {n:Int}:(PV.int k n).cells=[.int k n]:=rfl
theorem zp0 {b:Bool}:(PV.bool b).cells=[.bool b]:=rfl
theorem ztg {b:List UInt8}:(PV.str b).cells=[.str b]:=rfl
theorem zp2:PV.nils.cells=[.nils]:=rfl
theorem zp1:PV.nilp.cells=[.nilp]:=rfl
theorem zte {o v f n:Nat}:(PV.loc o v f n).cells=[.loc o v f n]:=rfl
theorem ztf {o v f:Nat}:(PV.ref o v f).cells=[.ref o v f]:=rfl
theorem zx8 {o v:Nat}:(PV.mp o v).cells=[.mp o v]:=rfl
theorem zx9 {cs:List PV} {n:Nat}:(PV.sl cs n).cells=[.sl cs n]:=rfl
theorem ze6 {cs:List PV} {n:Nat}:(PV.ip cs n).cells=[.ip cs n]:=rfl
theorem z9s {k:IntKind} {n:Int}:(PV.int k n).isCell=true:=rfl
theorem z3t {b:Bool}:(PV.bool b).isCell=true:=rfl
theorem z9v {b:List UInt8}:(PV.str b).isCell=true:=rfl
theorem z3v:PV.nils.isCell=true:=rfl
theorem z3u:PV.nilp.isCell=true:=rfl
theorem z9t {o v f n:Nat}:(PV.loc o v f n).isCell=true:=rfl
theorem z9u {o v f:Nat}:(PV.ref o v f).isCell=true:=rfl
theorem yd2 {o v:Nat}:(PV.mp o v).isCell=true:=rfl
theorem yd3 {cs:List PV} {n:Nat}:(PV.sl cs n).isCell=true:=rfl
theorem zpp {cs:List PV} {n:Nat}:(PV.ip cs n).isCell=true:=rfl
theorem z9x {k:IntKind} {n:Int}:(PV.int k n).isDef=true:=rfl
theorem z3w {b:Bool}:(PV.bool b).isDef=true:=rfl
theorem z90 {b:List UInt8}:(PV.str b).isDef=true:=rfl
theorem z9w {cs:List PV}:(PV.agg cs).isDef=true:=rfl
theorem z3x:PV.nils.isDef=true:=rfl
theorem z9y {o v f n:Nat}:(PV.loc o v f n).isDef=true:=rfl
theorem z9z {o v f:Nat}:(PV.ref o v f).isDef=true:=rfl
theorem yd4 {cs:List PV} {n:Nat}:(PV.sl cs n).isDef=true:=rfl
theorem zuv {T:Tab} {pl:Nat→Option (Nat × Nat)} {cs:List PV}:zhv T pl cs []=some cs:=rfl
theorem zqv {T:Tab} {pl:Nat→Option (Nat × Nat)} {cs:List PV} {i:Nat} {v:PV} {r:List (Nat × PV)}:zhv T pl cs ((i,v)::r)=(match pl i with
  | none=>none
  | some (off,size)=>if v.cells.length=size∧off+size≤cs.length∧v.isDef=true then zhv T pl (spl cs off v.cells) r else none):=rfl
theorem yag {cs vs:List PV} {off:Nat}:spl cs off vs=cs.take off++vs++cs.drop (off+vs.length):=rfl
theorem zvf {z:List PV}:repz z 0=[]:=rfl
theorem zg7 {z:List PV} {n:Nat}:repz z (n+1)=z++repz z n:=rfl
theorem zzc {n:Nat}:pHi n none=some n:=rfl
theorem zzd {n:Nat} {k:IntKind} {h:Int}:pHi n (some (.int k h))=if 0≤h∧h≤n then some h.toNat else none:=rfl
theorem zze {n:Nat}:pLo n none=some 0:=rfl
theorem zzf {n:Nat} {k:IntKind} {h:Int}:pLo n (some (.int k h))=if 0≤h∧h≤n then some h.toNat else none:=rfl
theorem zqt {n:Nat} {lo hi:Option PV}:zfh n lo hi=(pHi n hi).bind fun h=>(pLo h lo).map fun l=>(l,h):=rfl
theorem RS:(type_of% @zmg)∧(type_of% @zkb)∧(type_of% @yaf)∧(type_of% @yeq)∧(type_of% @z5z)∧(type_of% @ya1)∧(type_of% @z46)∧(type_of% @zq4)∧(type_of% @yac)∧(type_of% @zde)∧(type_of% @ztd)∧(type_of% @zp0)∧(type_of% @ztg)∧(type_of% @zp2)∧(type_of% @zp1)∧(type_of% @zte)∧(type_of% @ztf)∧(type_of% @zx8)∧(type_of% @zx9)∧(type_of% @ze6)∧(type_of% @z9s)∧(type_of% @z3t)∧(type_of% @z9v)∧(type_of% @z3v)∧(type_of% @z3u)∧(type_of% @z9t)∧(type_of% @z9u)∧(type_of% @yd2)∧(type_of% @yd3)∧(type_of% @zpp)∧(type_of% @z9x)∧(type_of% @z3w)∧(type_of% @z90)∧(type_of% @z9w)∧(type_of% @z3x)∧(type_of% @z9y)∧(type_of% @z9z)∧(type_of% @yd4)∧(type_of% @zuv)∧(type_of% @zqv)∧(type_of% @yag)∧(type_of% @zvf)∧(type_of% @zg7)∧(type_of% @zzc)∧(type_of% @zzd)∧(type_of% @zze)∧(type_of% @zzf)∧(type_of% @zqt):=⟨@zmg,@zkb,@yaf,@yeq,@z5z,@ya1,@z46,@zq4,@yac,@zde,@ztd,@zp0,@ztg,@zp2,@zp1,@zte,@ztf,@zx8,@zx9,@ze6,@z9s,@z3t,@z9v,@z3v,@z3u,@z9t,@z9u,@yd2,@yd3,@zpp,@z9x,@z3w,@z90,@z9w,@z3x,@z9y,@z9z,@yd4,@zuv,@zqv,@yag,@zvf,@zg7,@zzc,@zzd,@zze,@zzf,@zqt⟩
abbrev eB (b:UInt8):PV := .int .u8 b.toNat
theorem yah {α:Type} {f:α→PV} {l:List α}:(l.map f).take l.length=l.map f:=by
 rw [← List.length_map f,List.take_length]
theorem z8y {α:Type} {f:α→PV} {l:List α} {n:Nat} (h:l.length≤n):(l.map f).take n=l.map f:=qT (by simpa using h)
theorem z35 {a b:Nat} (h:a≤b):(a≤b)=True:=eq_true h
theorem zue:maxLen=9223372036854775807:=rfl
theorem ye2 {n a:Nat}:IntKind.u8.wrap ((n:Int)+(a:Int))=((UInt8.ofNat (n+a)).toNat:Int):=by
 have:((n:Int)+(a:Int))=((n+a:Nat):Int):=by omega
 rw [this]
 simp [IntKind.wrap,IntKind.bits,IntKind.signed,UInt8.toNat_ofNat']
theorem yf4 {a:Nat}:IntKind.u8.wrap (97+(a:Int))=((UInt8.ofNat (97+a)).toNat:Int):=ye2 (n:=97)
theorem zc1 {i:Nat}:((i:Int) - 1).toNat=i - 1:=by omega
theorem zbd {α:Type} {l:List α} {i:Nat} {a:α} (h:l[i]?=some a):i<l.length:=(List.getElem?_eq_some_iff.1 h).1
theorem zc6 {S:Store} {im:Bool} {k o ver et sz n:Nat} {cells ts:List PV} (h:S.obs[o]?=some (.arr ver et sz cells)) (hl:cells.length=n*sz) (hm:cells.mapM (reify S im k)=some ts) :
  reify S im (k+1) (.loc o ver 0 n)=some (.sl ts n):=by
 simp only[reify,h,Nat.zero_add,hl,qR,and_self,if_true,List.drop_zero]
 rw [← hl,List.take_length,hm]; rfl
theorem zbk {f:PV→Option PV}:∀ {l:List PV},(∀ x∈l,f x=some x)→l.mapM f=some l
 | [],_=>rfl
 | x::l,h=>by rw [qC,h x (by simp),zbk (l:=l) fun y hy=>h y (by simp [hy])]; rfl
theorem ziy {S:Store} {im:Bool} {k:Nat} {q:IntKind} (l:List Int):(l.map (PV.int q)).mapM (reify S im (k+1))=some (l.map (PV.int q)) :=
 zbk fun x hx=>by obtain ⟨a,_,rfl⟩:=List.mem_map.1 hx; rfl
theorem z4a {S:Store} {im:Bool} {k:Nat} (l:List Bool):(l.map PV.bool).mapM (reify S im (k+1))=some (l.map PV.bool) :=
 zbk fun x hx=>by obtain ⟨a,_,rfl⟩:=List.mem_map.1 hx; rfl
theorem zn2 (l:List UInt8):zfx (l.map fun b=>PV.int .u8 b.toNat)=some l:=by
 induction l with
 | nil=>rfl
 | cons a l ih=>simp only[List.map_cons,zfx,ih]; simp
section
def rfz (S:Store) (lo:Nat):Nat→PV→Option PV
 | 0,_=>none
 | k+1,p =>
  match p with
  | .int a b=>some (.int a b)
  | .bool b=>some (.bool b)
  | .str s=>some (.str s)
  | .nilp=>some .nilp
  | .nilf=>some .nilf
  | .yl l=>some (.yl l)
  | .nilm=>some .nilm
  | .nils=>some .nils
  | .agg cs=>(cs.mapM (rfz S lo k)).map .agg
  | .tup cs=>(cs.mapM (rfz S lo k)).map .tup
  | .fn f cs=>(cs.mapM (rfz S lo k)).map (.fn f)
  | .sl cs n=>some (.sl cs n)
  | .ip cs off=>some (.ip cs off)
  | .bm f b=>some (.bm f b)
  | .loc o ver off n =>
   match S.obs[o]? with
   | some (.arr v _ sz cells)=>if lo≤o∧v=ver∧off+n*sz≤cells.length then (((cells.drop off).take (n*sz)).mapM (rfz S lo k)).map (.sl · n) else none
   | _=>none
  | .ref o ver off=>if lo≤o then (S.cellsOf o ver).bind fun cells=>(cells.mapM (rfz S lo k)).map (.ip · off) else none
  | _=>none
section
variable {P:Program} {T:Tab} {F:Nat→Prop} {G:GSt} {w:World} {e:Env} {a:Act}
def zm6 (F:Nat→Prop) (G:GSt) (lo:Nat) (b:Nat):Prop:=F b∨∃ (o:Nat) (x:Ob × Lc),lo≤o∧G.obs[o]?=some x∧x.2.blk=b
theorem znr {S:Store} {lo:Nat}:∀ {k:Nat} {p t:PV},rfz S lo k p=some t→p.isCell=true→t.isCell=true
 | 0,p,t,h,_=>by simp [rfz]at h
 | k+1,p,t,h,hp=>by
  cases p <;> simp only[rfz]at h <;> first
   | (cases h; rfl)
   | (simp [PV.isCell]at hp; done)
   | (cases h; done)
   | (split at h <;> first | (cases h; rfl) | (cases h; done) | (split at h <;> first | (cases h; done) | (rw [qI]at h; obtain ⟨_,_,rfl⟩:=h; rfl)))
   | (rw [qI]at h; obtain ⟨_,_,rfl⟩:=h; rfl)
   | (split at h <;> first | (cases h; done) | (rw [Option.bind_eq_some_iff]at h; obtain ⟨_,_,h⟩:=h; rw [qI]at h; obtain ⟨_,_,rfl⟩:=h; rfl))
theorem zlb (hi:Inv F G w) {lo:Nat}:∀ {k:Nat} {p t:PV} {cv:Value},VR w.heap F G p cv→rfz G.er lo k p=some t→VI w.heap (zm6 F G lo) t cv
 | 0,p,t,cv,_,h=>by simp [rfz]at h
 | k+1,p,t,cv,hv,h=>by
  have cellsVI:∀ {b off:Nat} {cs ts:List PV},zcq w.heap F G b off cs→cs.mapM (rfz G.er lo k)=some ts →
    ∃ g:Nat→Value,(∀ (i:Nat) p,ts[i]?=some p→p.isCell=true∧zgy w.heap b (off+i)=some (g i))∧∀ (i:Nat) p,ts[i]?=some p→VI w.heap (zm6 F G lo) p (g i):=by
   intro b off cs ts hc hm
   obtain ⟨h1,h2⟩:=zby _ _ hm
   refine ⟨fun i=>(zgy w.heap b (off+i)).getD undef,fun i p hp=>?_,fun i p hp=>?_⟩
   ·obtain ⟨x,h3,h4⟩:=h2 i p hp
    obtain ⟨h5,v,h6,h7⟩:=hc i x h3
    exact ⟨znr h4 h5,by simp [h6]⟩
   obtain ⟨x,h3,h4⟩:=h2 i p hp
   obtain ⟨h5,v,h6,h7⟩:=hc i x h3
   simp only[h6]
   exact zlb hi h7 h4
  have rowVI:∀ {cs ts:List PV} {vs:Array Value},cs.length=vs.size→(∀ (i:Nat) p v,cs[i]?=some p→vs[i]?=some v→VR w.heap F G p v)→cs.mapM (rfz G.er lo k)=some ts →
    ts.length=vs.size∧∀ (i:Nat) p v,ts[i]?=some p→vs[i]?=some v→VI w.heap (zm6 F G lo) p v:=by
   intro cs ts vs hl hp hm
   obtain ⟨h1,h2⟩:=zby _ _ hm
   refine ⟨by omega,fun i p v q1 q2=>?_⟩
   obtain ⟨x,h3,h4⟩:=h2 i p q1
   exact zlb hi (hp i x v h3 q2) h4
  cases p with
  | int q n=>simp only[rfz]at h; cases h; rw [hv.int]; exact .int _ _
  | bool b=>simp only[rfz]at h; cases h; rw [hv.bool]; exact .bool _
  | str s=>simp only[rfz]at h; cases h; obtain ⟨b,rfl,hb⟩:=hv.str; exact .str _ _ hb
  | nilp=>simp only[rfz]at h; cases h; cases hv with | imm _ _ hv=>cases hv; exact .nilp
  | nilf=>simp only[rfz]at h; cases h; cases hv with | imm _ _ hv=>cases hv; exact .nilf
  | yl l=>simp only[rfz]at h; cases h; cases hv with | imm _ _ hv=>cases hv; exact .yl _
  | nilm=>simp only[rfz]at h; cases h; cases hv with | imm _ _ hv=>cases hv; exact .nilm
  | nils=>simp only[rfz]at h; cases h; cases hv with | imm _ _ hv=>cases hv; exact .nils
  | agg cs =>
   simp only[rfz]at h
   rw [qI]at h
   obtain ⟨ts,h1,rfl⟩:=h
   obtain ⟨vs,rfl,h2,h3⟩:=hv.agg'
   obtain ⟨h4,h5⟩:=rowVI h2 h3 h1
   exact .agg _ _ h4 h5
  | tup cs =>
   simp only[rfz]at h
   rw [qI]at h
   obtain ⟨ts,h1,rfl⟩:=h
   obtain ⟨vs,rfl,h2,h3⟩:=hv.tup'
   obtain ⟨h4,h5⟩:=rowVI h2 h3 h1
   exact .tup _ _ h4 h5
  | fn f cs =>
   simp only[rfz]at h
   rw [qI]at h
   obtain ⟨ts,h1,rfl⟩:=h
   have:∃ vs:Array Value,cv = .func (.func f) #[] vs∧cs.length=vs.size∧∀ (i:Nat) p v,cs[i]?=some p→vs[i]?=some v→VR w.heap F G p v:=by
    cases hv with
    | imm _ _ hv=>cases hv with | fn _ _ vs h2 h3=>exact ⟨vs,rfl,h2,fun i p v a b => .imm _ _ (h3 i p v a b)⟩
    | fn _ _ vs h2 h3=>exact ⟨vs,rfl,h2,h3⟩
   obtain ⟨vs,rfl,h2,h3⟩:=this
   obtain ⟨h4,h5⟩:=rowVI h2 h3 h1
   exact .fn _ _ _ h4 h5
  | sl cs n =>
   simp only[rfz]at h
   cases h
   cases hv with
   | imm _ _ hv=>exact hv.mono (fun b hb => .inl hb) (fun _ _=>rfl)
  | ip cs off =>
   simp only[rfz]at h
   cases h
   cases hv with
   | imm _ _ hv=>exact hv.mono (fun b hb => .inl hb) (fun _ _=>rfl)
  | bm f b =>
   simp only[rfz]at h
   cases h
   cases hv with
   | imm _ _ hv=>exact hv.mono (fun b hb => .inl hb) (fun _ _=>rfl)
  | loc o ver off n =>
   simp only[rfz]at h
   split at h
   ·rename_i v et sz cells hob
    split at h
    ·rename_i hc
     obtain ⟨hlo,rfl,hle⟩:=hc
     rw [qI]at h
     obtain ⟨ts,h1,rfl⟩:=h
     obtain ⟨_,_,l,cap,ho,rfl,_,hn,_⟩:=hv.loc_at hi (cells:=cells) (by simp [Store.cellsOf,hob])
     obtain ⟨l',hG⟩:=zfk hob
     rw [hG]at ho
     cases ho
     have hc2:zcq w.heap F G l.blk off ((cells.drop off).take (n*sz)):=by
      have:=((hi.cellsAt hG).drop off).take (n*sz)
      rwa [Nat.zero_add]at this
     obtain ⟨g,g1,g2⟩:=cellsVI hc2 h1
     exact .sl _ _ _ _ _ g (fun _ => .inr ⟨o,_,hlo,hG,rfl⟩) hn g1 g2
    cases h
   cases h
  | ref o ver off =>
   simp only[rfz]at h
   split at h
   case isFalse=>cases h
   rename_i hlo
   rw [Option.bind_eq_some_iff]at h
   obtain ⟨cells,hc,h⟩:=h
   rw [qI]at h
   obtain ⟨ts,h1,rfl⟩:=h
   obtain ⟨et,sz,l,hG,rfl,_⟩:=hv.ref_at hi hc
   obtain ⟨g,g1,g2⟩:=cellsVI (hi.cellsAt hG) h1
   have:=VI.ip (F:=zm6 F G lo) ts off l.blk 0 g (fun _ => .inr ⟨o,_,hlo,hG,rfl⟩) g1 g2
   rwa [Nat.zero_add]at this
  | mp o ver=>simp only[rfz]at h; cases h
  | undef=>simp only[rfz]at h; cases h
def frz (S:Store) (lo:Nat):Nat→PV→Option PV
 | 0,_=>none
 | k+1,p =>
  match p with
  | .agg cs=>(cs.mapM (frz S lo k)).map .agg
  | .tup cs=>(cs.mapM (frz S lo k)).map .tup
  | .fn f cs=>(cs.mapM (frz S lo k)).map (.fn f)
  | .loc o ver off n=>if o<lo then some (.loc o ver off n) else rfz S lo 10 (.loc o ver off n)
  | .ref o ver off=>if o<lo then some (.ref o ver off) else rfz S lo 10 (.ref o ver off)
  | .mp o ver=>if o<lo then some (.mp o ver) else none
  | .undef=>some .undef
  | p=>rfz S lo 10 p
theorem zkk (hi:Inv F G w) {lo:Nat} {F':Nat→Prop} {G':GSt} (hF:∀ b,zm6 F G lo b→F' b) (hn:Next F G w F' G' w):∀ {k:Nat} {p t:PV} {cv:Value},VR w.heap F G p cv→frz G.er lo k p=some t→VR w.heap F' G' t cv
 | 0,p,t,cv,_,h=>by simp [frz]at h
 | k+1,p,t,cv,hv,h=>by
  have rowVR:∀ {cs ts:List PV} {vs:Array Value},cs.length=vs.size→(∀ (i:Nat) p v,cs[i]?=some p→vs[i]?=some v→VR w.heap F G p v)→cs.mapM (frz G.er lo k)=some ts →
    ts.length=vs.size∧∀ (i:Nat) p v,ts[i]?=some p→vs[i]?=some v→VR w.heap F' G' p v:=by
   intro cs ts vs hl hp hm
   obtain ⟨h1,h2⟩:=zby _ _ hm
   refine ⟨by omega,fun i p v q1 q2=>?_⟩
   obtain ⟨x,h3,h4⟩:=h2 i p q1
   exact zkk hi hF hn (hp i x v h3 q2) h4
  have data:∀ {p:PV},VR w.heap F G p cv→rfz G.er lo 10 p=some t→VR w.heap F' G' t cv:=fun hv h => .imm _ _ ((zlb hi hv h).mono hF fun _ _=>rfl)
  cases p with
  | agg cs =>
   simp only[frz]at h
   rw [qI]at h
   obtain ⟨ts,h1,rfl⟩:=h
   obtain ⟨vs,rfl,h2,h3⟩:=hv.agg'
   obtain ⟨h4,h5⟩:=rowVR h2 h3 h1
   exact .agg _ _ h4 h5
  | tup cs =>
   simp only[frz]at h
   rw [qI]at h
   obtain ⟨ts,h1,rfl⟩:=h
   obtain ⟨vs,rfl,h2,h3⟩:=hv.tup'
   obtain ⟨h4,h5⟩:=rowVR h2 h3 h1
   exact .tup _ _ h4 h5
  | fn f cs =>
   simp only[frz]at h
   rw [qI]at h
   obtain ⟨ts,h1,rfl⟩:=h
   have:∃ vs:Array Value,cv = .func (.func f) #[] vs∧cs.length=vs.size∧∀ (i:Nat) p v,cs[i]?=some p→vs[i]?=some v→VR w.heap F G p v:=by
    cases hv with
    | imm _ _ hv=>cases hv with | fn _ _ vs h2 h3=>exact ⟨vs,rfl,h2,fun i p v a b => .imm _ _ (h3 i p v a b)⟩
    | fn _ _ vs h2 h3=>exact ⟨vs,rfl,h2,h3⟩
   obtain ⟨vs,rfl,h2,h3⟩:=this
   obtain ⟨h4,h5⟩:=rowVR h2 h3 h1
   exact .fn _ _ _ h4 h5
  | loc o ver off n =>
   simp only[frz]at h
   split at h
   ·cases h; exact hv.next hi hn
   exact data hv h
  | ref o ver off =>
   simp only[frz]at h
   split at h
   ·cases h; exact hv.next hi hn
   exact data hv h
  | mp o ver =>
   simp only[frz]at h
   split at h
   ·cases h; exact hv.next hi hn
   cases h
  | undef=>simp only[frz]at h; cases h; exact .imm _ _ (.undef _)
  | _=>simp only[frz]at h; exact data hv h
theorem z7e {S:Store} {lo:Nat}:∀ {k:Nat} {p t:PV},frz S lo k p=some t→p.isCell=true→t.isCell=true
 | 0,p,t,h,_=>by simp [frz]at h
 | k+1,p,t,h,hp=>by
  cases p with
  | agg cs=>simp [PV.isCell]at hp
  | tup cs=>simp [PV.isCell]at hp
  | undef=>simp [PV.isCell]at hp
  | fn f cs=>simp only[frz]at h; rw [qI]at h; obtain ⟨_,_,rfl⟩:=h; rfl
  | loc o ver off n=>simp only[frz]at h; split at h; (· cases h; rfl); exact znr h hp
  | ref o ver off=>simp only[frz]at h; split at h; (· cases h; rfl); exact znr h hp
  | mp o ver=>simp only[frz]at h; split at h; (· cases h; rfl); cases h
  | _=>simp only[frz]at h; exact znr h hp
def zff (S:Store) (lo:Nat):Ob→Option Ob
 | .arr ver et sz cells=>(cells.mapM (frz S lo 10)).map (.arr ver et sz ·)
 | .map ver es=>(es.mapM fun q=>(frz S lo 10 q.1).bind fun a=>(frz S lo 10 q.2).map fun b=>(a,b)).map (.map ver ·)
 | .lp ver l r tmps=>(tmps.mapM (frz S lo 10)).map (.lp ver l r ·)
def zgn (S:Store) (lo:Nat):List Ob→Option (List Ob)
 | []=>some []
 | o::r=>(zff S lo o).bind fun a=>(zgn S lo r).map (a :: ·)
def Store.frz (S:Store) (lo:Nat):Option Store:=(zgn S lo (S.obs.take lo)).map (⟨·,S.tick⟩)
theorem zqg {S:Store} {lo:Nat}:∀ {l l':List Ob},zgn S lo l=some l'→l.length=l'.length∧∀ (i:Nat) ob',l'[i]?=some ob'→∃ ob,l[i]?=some ob∧zff S lo ob=some ob'
 | [],l',h=>by simp [zgn]at h; subst h; simp
 | o::l,l',h=>by
  simp only[zgn]at h
  rw [Option.bind_eq_some_iff]at h
  obtain ⟨a,h1,h⟩:=h
  rw [qI]at h
  obtain ⟨r,h2,rfl⟩:=h
  obtain ⟨h3,h4⟩:=zqg h2
  refine ⟨by simp [h3],?_⟩
  rintro (_ | i) ob' hi
  ·simp at hi; subst hi; exact ⟨o,rfl,h1⟩
  simp at hi; obtain ⟨ob,h5,h6⟩:=h4 i ob' hi; exact ⟨ob,by simpa using h5,h6⟩
theorem zls {S:Store} {lo:Nat} {ob ob':Ob} (h:zff S lo ob=some ob'):ob.ver=ob'.ver∧ob.like ob':=by
 cases ob with
 | arr v et sz cells=>simp only[zff]at h; rw [qI]at h; obtain ⟨_,_,rfl⟩:=h; simp [Ob.ver,Ob.like]
 | map v es=>simp only[zff]at h; rw [qI]at h; obtain ⟨_,_,rfl⟩:=h; simp [Ob.ver,Ob.like]
 | lp _ _ _ _=>simp only[zff]at h; rw [qI]at h; obtain ⟨_,_,rfl⟩:=h; simp [Ob.ver,Ob.like]
theorem zkq {f:PV × PV→Option (PV × PV)}:∀ (xs ys:List (PV × PV)),xs.mapM f=some ys→xs.length=ys.length∧∀ (i:Nat) y,ys[i]?=some y→∃ x,xs[i]?=some x∧f x=some y
 | [],ys,h=>by simp at h; subst h; simp
 | x::xs,ys,h=>by
  rw [qC]at h
  cases hx:f x with
  | none=>simp [hx]at h
  | some y =>
   cases hr:xs.mapM f with
   | none=>simp [hx,hr]at h
   | some ys' =>
    simp [hx,hr]at h
    subst h
    obtain ⟨h1,h2⟩:=zkq xs ys' hr
    refine ⟨by simp [h1],?_⟩
    rintro (_ | i) z hz
    ·simp at hz; subst hz; exact ⟨x,rfl,hx⟩
    simp at hz; obtain ⟨u,h3,h4⟩:=h2 i z hz; exact ⟨u,by simpa using h3,h4⟩
theorem zyr (hi:Inv F G w) {lo:Nat} {S':Store} (h:G.er.frz lo=some S'):∃ G',G'.er=S'∧Inv (zm6 F G lo) G' w∧Next F G w (zm6 F G lo) G' w:=by
 unfold Store.frz at h
 rw [qI]at h
 obtain ⟨obs',h1,rfl⟩:=h
 obtain ⟨h2,h3⟩:=zqg h1
 let G':GSt:=⟨List.zipWith (fun ob (x:Ob × Lc)=>(ob,x.2)) obs' (G.obs.take lo),G.tick⟩
 have hlen:obs'.length=(G.obs.take lo).length:=by rw [← h2]; simp [GSt.er]
 have her:G'.er=⟨obs',G.er.tick⟩:=by
  simp only[GSt.er,G',Store.mk.injEq,and_true]
  apply List.ext_getElem
  ·simp [hlen]
  intro i a b; simp
 have hget:∀ (o:Nat) ob' l,G'.obs[o]?=some (ob',l)→o<lo∧∃ ob,G.obs[o]?=some (ob,l)∧zff G.er lo ob=some ob':=by
  intro o ob' l ho
  simp only[G',List.getElem?_zipWith]at ho
  cases ha:obs'[o]? with
  | none=>rw [ha]at ho; simp at ho
  | some a =>
   cases hb:(G.obs.take lo)[o]? with
   | none=>rw [ha,hb]at ho; simp at ho
   | some x =>
    rw [ha,hb]at ho
    simp at ho
    obtain ⟨rfl,rfl⟩:=ho
    obtain ⟨ob,k1,k2⟩:=h3 o a ha
    rw [List.getElem?_take]at hb
    split at hb
    ·rename_i hlt
     refine ⟨hlt,ob,?_,k2⟩
     have:(G.er.obs.take lo)[o]?=some x.1:=by
      rw [List.getElem?_take,if_pos hlt]; simp [GSt.er,hb]
     rw [this]at k1
     cases k1
     exact hb
    cases hb
 have hn:Next F G w (zm6 F G lo) G' w:=by
  refine ⟨rfl,rfl,rfl,qR _,fun b hb => .inl hb,?_,?_,qR _,fun _ _ _=>rfl,?_,qR _⟩
  ·rintro b (hb | ⟨o,x,_,hx,rfl⟩)
   ·exact .inl hb
   exact .inr (.inr ⟨o,x,hx,rfl⟩)
  ·rintro o ⟨ob',l⟩ hx
   obtain ⟨_,ob,k1,_⟩:=hget o ob' l hx
   exact .inr ⟨o,_,k1,rfl⟩
  intro o ob' l hx _
  obtain ⟨_,ob,k1,k2⟩:=hget o ob' l hx
  exact ⟨ob,k1,(zls k2).1,(zls k2).2⟩
 have hsound:∀ {k:Nat} {p t:PV} {cv:Value},VR w.heap F G p cv→frz G.er lo k p=some t→VR w.heap (zm6 F G lo) G' t cv:=fun hv h=>zkk hi (fun _ h=>h) hn hv h
 refine ⟨G',her,⟨?_,?_,?_,?_,?_,?_,?_⟩,hn⟩
 ·rintro b (hb | ⟨o,x,_,hx,rfl⟩)
  ·exact hi.fr b hb
  exact hi.blk_lt hx
 ·intro o ob' l hx
  obtain ⟨_,ob,k1,k2⟩:=hget o ob' l hx
  have:=hi.ver o ob l k1
  rw [(zls k2).1]at this
  exact this
 ·intro o ob' l hx hb
  obtain ⟨hlt,ob,k1,k2⟩:=hget o ob' l hx
  rcases hb with hb | ⟨o',x,hlo,hx',e⟩
  ·exact hi.nF o ob l k1 hb
  have:=hi.inj o' o _ _ hx' k1 e
  omega
 ·intro o ver et sz cells l hx
  obtain ⟨_,ob,k1,k2⟩:=hget o _ l hx
  cases ob with
  | map v es=>simp only[zff]at k2; rw [qI]at k2; obtain ⟨_,_,k3⟩:=k2; cases k3
  | lp _ _ _ _=>simp only[zff]at k2; rw [qI]at k2; obtain ⟨_,_,k3⟩:=k2; cases k3
  | arr v et2 sz2 cells2 =>
   simp only[zff]at k2
   rw [qI]at k2
   obtain ⟨cs',k3,k4⟩:=k2
   cases k4
   obtain ⟨m1,m2⟩:=zby _ _ k3
   obtain ⟨cs,q1,q2,q3,q4⟩:=hi.arr o _ _ _ _ l k1
   refine ⟨cs,q1,q2,by omega,fun i p hp=>?_⟩
   obtain ⟨x,x1,x2⟩:=m2 i p hp
   obtain ⟨c1,v1,v2,v3⟩:=q4 i x x1
   exact ⟨z7e x2 c1,v1,v2,hsound v3 x2⟩
 ·intro o ver es l hx
  obtain ⟨_,ob,k1,k2⟩:=hget o _ l hx
  cases ob with
  | arr v et2 sz2 cells2=>simp only[zff]at k2; rw [qI]at k2; obtain ⟨_,_,k3⟩:=k2; cases k3
  | lp _ _ _ _=>simp only[zff]at k2; rw [qI]at k2; obtain ⟨_,_,k3⟩:=k2; cases k3
  | map v es2 =>
   simp only[zff]at k2
   rw [qI]at k2
   obtain ⟨es',k3,k4⟩:=k2
   cases k4
   obtain ⟨m1,m2⟩:=zkq _ _ k3
   obtain ⟨ents,clock,q1,q2,q3⟩:=hi.map o _ _ l k1
   refine ⟨ents,clock,q1,by omega,fun i k v hp=>?_⟩
   obtain ⟨x,x1,x2⟩:=m2 i (k,v) hp
   obtain ⟨en,e1,e2,e3⟩:=q3 i x.1 x.2 x1
   rw [Option.bind_eq_some_iff]at x2
   obtain ⟨a,y1,y2⟩:=x2
   rw [qI]at y2
   obtain ⟨b,y3,y4⟩:=y2
   cases y4
   exact ⟨en,e1,hsound e2 y1,hsound e3 y3⟩
 ·rintro o o' ⟨ob,l⟩ ⟨ob',l'⟩ hx hx' e
  obtain ⟨_,a,k1,_⟩:=hget o _ _ hx
  obtain ⟨_,a',k1',_⟩:=hget o' _ _ hx'
  exact hi.inj o o' _ _ k1 k1' e
 intro o ver b r tmps l hx
 obtain ⟨_,ob,k1,k2⟩:=hget o _ l hx
 cases ob with
 | arr v et2 sz2 cells2=>simp only[zff]at k2; rw [qI]at k2; obtain ⟨_,_,k3⟩:=k2; cases k3
 | map v es=>simp only[zff]at k2; rw [qI]at k2; obtain ⟨_,_,k3⟩:=k2; cases k3
 | lp v b2 r2 tmps2 =>
  simp only[zff]at k2
  rw [qI]at k2
  obtain ⟨cs',k3,k4⟩:=k2
  cases k4
  obtain ⟨m1,m2⟩:=zby _ _ k3
  obtain ⟨q0,t,q1,q2,q3⟩:=hi.lp o _ _ _ _ l k1
  refine ⟨q0,t,q1,⟨q2.1,by omega⟩,fun i p v hp hv=>?_⟩
  obtain ⟨x,x1,x2⟩:=m2 i p hp
  exact hsound (q3 i x v x1 hv) x2
variable {Q:Exit→Env→Store→Prop} {S:Store} {a b c:Code}
def z2i (L:List Nat) (I:List PV→Store→Prop) (e:Env) (S:Store):Prop :=
 ∃ lo vs S',(L.map e).mapM (frz S lo 10)=some vs∧S.frz lo=some S'∧I vs S'
theorem zr4 {H:Array Obj} {F:Nat→Prop} {G:GSt} {a:Act}:∀ (L:List Nat) (vs:List PV),L.length=vs.length→(∀ (i t:Nat) v,L[i]?=some t→vs[i]?=some v→VR H F G v (a.tmps.getD t undef))→zeu H F G (Env.of L vs) a
 | [],_,_,_,t => .imm _ _ (.undef _)
 | x::L,[],h,_,t=>by simp at h
 | x::L,v::vs,hl,h,t=>by
  simp only[Env.of]
  split
  ·rename_i e; rw [e]; exact h 0 x v rfl rfl
  exact zr4 L vs (by simpa using hl) (fun i t v q1 q2=>h (i+1) t v (by simpa using q1) (by simpa using q2)) t
theorem zqf (hi:Inv F G w) {e:Env} {act:Act} (he:zeu w.heap F G e act) {L:List Nat} {I:List PV→Store→Prop} (h:z2i L I e G.er) :
  ∃ vs F' G',I vs G'.er∧vs.length=L.length∧Inv F' G' w∧Next F G w F' G' w∧zeu w.heap F' G' (Env.of L vs) act:=by
 obtain ⟨lo,vs,S',h1,h2,h3⟩:=h
 obtain ⟨G',rfl,k2,k3⟩:=zyr hi h2
 obtain ⟨m1,m2⟩:=zby _ _ h1
 refine ⟨vs,_,G',h3,by rw [← m1]; simp,k2,k3,zr4 L vs (by rw [← m1]; simp) fun i t v q1 q2=>?_⟩
 obtain ⟨x,x1,x2⟩:=m2 i v q2
 rw [List.getElem?_map,q1]at x1
 cases x1
 exact zkk hi (fun _ h=>h) k3 (he t) x2
theorem W.foldZ (L:List Nat) {I:List PV→Store→Prop} (hI:z2i L I e S) (h:∀ vs S,vs.length=L.length→I vs S→W P T c Q (Env.of L vs) S):W P T c Q e S:=by
 refine ⟨?_⟩
 intro hT hm F0 G0 w0 N F G a w h3 h4 h5 h6 h7 h8 h9 R nn
 subst h3
 obtain ⟨vs,F',G',k1,k2,k3,k4,k5⟩:=zqf h4 h5 hI
 exact (h vs _ k2 k1).run hT hm F0 G0 w0 N F' G' a w rfl k3 k5 (h6.trans k4) h7 h8 h9
theorem W.joinZ (L:List Nat) (I:List PV→Store→Prop) (h:W P T a (XThen (z2i L I) Q) e S) (k:∀ vs S,vs.length=L.length→I vs S→W P T b Q (Env.of L vs) S):W P T (.seq a b) Q e S:=by
 refine W.seq (h.mono ?_)
 intro x e S hx
 cases x with
 | normal=>exact W.foldZ L hx k
 | _=>exact hx
theorem W.loopZ (L:List Nat) (I:Nat→List PV→Store→Prop) (n:Nat) (h0:z2i L (I n) e S)
  (h:∀ n vs S,vs.length=L.length→I n vs S→W P T c (XThen (fun e S=>∃ m,m<n∧z2i L (I m) e S) Q) (Env.of L vs) S):W P T (.loop c) Q e S:=by
 refine W.foldZ L h0 fun vs S hl hI=>?_
 refine ⟨?_⟩
 intro hT hm F0 G0 w0 N F G a w h3 h4 h5 h6 h7 h8 h9 R nn
 refine wpIn_loop_rounds (n+1) ?_
 clear h0
 induction n using Nat.strongRecOn generalizing vs S F G a w with
 | _ n ih =>
  refine wpIn_mono ((h n vs S hl hI).run hT hm F0 G0 w0 N F G a w h3 h4 h5 h6 h7 h8 (by simpa [zfz] using h9)) ?_
  rintro x a' w' ⟨e',F',G',k1,k2,k3,k4,k5,k6⟩
  cases x with
  | normal =>
   obtain ⟨m,hmn,hk⟩:=k1
   obtain ⟨vs',F2,G2,q1,q2,q3,q4,q5⟩:=zqf k2 k3 hk
   exact zj0 (by omega) _ _ (ih m hmn vs' _ q2 q1 F2 G2 a' w' rfl q3 q5 (k4.trans q4) k5 k6)
  | _=>exact ⟨e',F',G',k1,k2,k3,k4,k5,k6⟩
theorem zjl {S:Store} {lo k:Nat} {q:IntKind} {n:Int}:frz S lo (k+1) (.int q n)=some (.int q n):=rfl
theorem zhc {S:Store} {lo k:Nat} {b:Bool}:frz S lo (k+1) (.bool b)=some (.bool b):=rfl
theorem zh5 {S:Store} {lo k:Nat} {b:List UInt8}:frz S lo (k+1) (.str b)=some (.str b):=rfl
theorem zoe {S:Store} {lo k n:Nat} {cs:List PV}:frz S lo (k+1) (.sl cs n)=some (.sl cs n):=rfl
theorem zhe {S:Store} {lo k:Nat}:frz S lo (k+1) .nilp=some .nilp:=rfl
theorem zh4 {S:Store} {lo k o ver off n:Nat}:frz S lo (k+1) (.loc o ver off n)=if o<lo then some (.loc o ver off n) else rfz S lo 10 (.loc o ver off n):=rfl
theorem zf4 {S:Store} {lo k o ver off:Nat}:frz S lo (k+1) (.ref o ver off)=if o<lo then some (.ref o ver off) else rfz S lo 10 (.ref o ver off):=rfl
theorem zdd {S:Store} {lo k:Nat} {q:IntKind} {n:Int}:rfz S lo (k+1) (.int q n)=some (.int q n):=rfl
theorem zhl {S:Store} {lo k:Nat} {b:Bool}:rfz S lo (k+1) (.bool b)=some (.bool b):=rfl
theorem zjy {S:Store} {lo k:Nat} {b:List UInt8}:rfz S lo (k+1) (.str b)=some (.str b):=rfl
theorem zc4 {S:Store} {lo k o ver off n:Nat}:rfz S lo (k+1) (.loc o ver off n)=(match S.obs[o]? with
  | some (.arr v _ sz cells)=>if lo≤o∧v=ver∧off+n*sz≤cells.length then (((cells.drop off).take (n*sz)).mapM (rfz S lo k)).map (.sl · n) else none
  | _=>none):=rfl
theorem zrt {α:Type} {f:α→PV} {S:Store} {lo k:Nat} (h:∀ a,frz S lo k (f a)=some (f a)) (l:List α):(l.map f).mapM (frz S lo k)=some (l.map f) :=
 zbk fun x hx=>by obtain ⟨a,_,rfl⟩:=List.mem_map.1 hx; exact h a
theorem zxb {α:Type} {f:α→PV} {S:Store} {lo k:Nat} (h:∀ a,rfz S lo k (f a)=some (f a)) (l:List α):(l.map f).mapM (rfz S lo k)=some (l.map f) :=
 zbk fun x hx=>by obtain ⟨a,_,rfl⟩:=List.mem_map.1 hx; exact h a
theorem zf3 {S:Store} {lo k:Nat} (l:List (List Int)):(l.map eInts).mapM (frz S lo (k+1))=some (l.map eInts):=zrt (fun _=>rfl) l
theorem zhf {S:Store} {lo k:Nat} (l:List (List UInt8)):(l.map PV.str).mapM (frz S lo (k+1))=some (l.map PV.str):=zrt (fun _=>rfl) l
theorem zhd {S:Store} {lo k:Nat} (l:List Int):(l.map (PV.int .i64)).mapM (frz S lo (k+1))=some (l.map (PV.int .i64)):=zrt (fun _=>rfl) l
theorem zf2 {S:Store} {lo k:Nat} (l:List UInt8):(l.map eB).mapM (frz S lo (k+1))=some (l.map eB):=zrt (fun _=>rfl) l
theorem zgv {S:Store} {lo k:Nat} (l:List Int):(l.map (PV.int .i64)).mapM (rfz S lo (k+1))=some (l.map (PV.int .i64)):=zxb (fun _=>rfl) l
theorem zf7 {S:Store} {lo k:Nat} (l:List UInt8):(l.map eB).mapM (rfz S lo (k+1))=some (l.map eB):=zxb (fun _=>rfl) l
theorem zgs {f:PV→Option PV} {a b:PV} {l l':List PV} (h1:f a=some b) (h2:l.mapM f=some l'):(a::l).mapM f=some (b::l'):=by
 rw [qC,h1]; simp [h2]
end
section
variable {P:Program} {T:Tab} {Q:Exit→Env→Store→Prop} {e:Env} {S:Store} {b:Code}
def zdm (o:Op):Bool:=zql o && (match o with | .call ⟨.value _,_,_⟩=>false | _=>true)
def zb1:List Oper→Nat→List Nat
 | [],_=>[]
 | o::r,i=>if zdm o.op then zb1 r (i+1) else i::zb1 r (i+1)
theorem zgm:∀ (l:List Oper) (k i:Nat) (o:Oper),l[i]?=some o→k+i ∉ zb1 l k→zdm o.op=true
 | [],_,_,_,h,_=>by simp at h
 | o'::l,k,0,o,h,hn=>by
  simp at h; subst h
  unfold zb1 at hn
  split at hn
  ·assumption
  simp at hn
 | o'::l,k,i+1,o,h,hn=>by
  simp only[List.getElem?_cons_succ]at h
  refine zgm l (k+1) i o h fun hm=>hn ?_
  unfold zb1
  split
  ·rwa [show k+(i+1)=k+1+i by omega]
  rw [show k+(i+1)=k+1+i by omega]; exact List.mem_cons_of_mem _ hm
theorem zkj {o:Op} {K:PV→Store→Prop} (hf:zdm o=true) (h:sOp false P T e S o K):z2d P T S e o fun v=>K v S:=by
 refine zwo (by unfold zdm at hf; simp only[qB]at hf; exact hf.1) ?_
 cases o with
 | call c =>
  obtain ⟨cal,xs,ts⟩:=c
  cases cal with
  | value f=>simp [zdm]at hf
  | _=>exact h
 | _=>exact h
theorem ziv {all:List Oper} {K:Env→Store→Prop}:∀ (r:List Oper) (k:Nat) (e:Env) (S:Store),all.drop k=r→za8 false P T (dsts all) r e S K →
  zc5 P T all.toArray (zb1 all 0) [] [] K (List.range' k r.length) e S
 | [],_,_,_,_,h=>h
 | o::r,k,e,S,hk,h=>by
  have ho:all[k]?=some o:=by
   have:=congrArg (fun l=>l[0]?) hk
   simpa using this
  have hr:all.drop (k+1)=r:=by
   have:=congrArg (List.drop 1) hk
   simpa [List.drop_drop] using this
  unfold za8 at h
  simp only[List.length_cons,List.range'_succ,zc5,List.getElem?_toArray,ho]
  rw [zh8]at h
  unfold zdg
  split at h
  ·rename_i hg
   rw [hg]
   simp only
   split
   ·rename_i hc
    exact zdu (fun v S' hv=>⟨.inr (by intro o ho; cases ho),ziv r (k+1) _ _ hr hv⟩) (zil h)
   rename_i hc
   have hflat:=zgm all 0 k o ho (by simpa using hc)
   have:=zkj hflat h
   rw [zcf]at this ⊢
   obtain ⟨v,h1,h2⟩:=this
   exact ⟨v,h1,by simp,ziv r (k+1) _ _ hr h2⟩
  ·rename_i hg; rw [hg]; exact ziv r (k+1) _ _ hr h
  exact h.elim
theorem W.drawE_k {id:Nat} {l:List Oper} (hc:zfd l.toArray (List.range' 0 l.length) (zb1 l 0) []=true) (h:∀ K:Env→Store→Prop,(∀ e S,Q .normal e S→K e S)→za8 false P T (dsts l) l e S K) :
  W P T (.region id l.toArray true) Q e S :=
 W.region_any (List.range' 0 l.length) (zb1 l 0) [] [] hc (ziv l 0 _ _ rfl (h _ fun _ _ h=>h))
theorem W.seq_drawE {id:Nat} {l:List Oper} (hc:zfd l.toArray (List.range' 0 l.length) (zb1 l 0) []=true) (h:∀ K:Env→Store→Prop,(∀ e S,W P T b Q e S→K e S)→za8 false P T (dsts l) l e S K) :
  W P T (.seq (.region id l.toArray true) b) Q e S :=
 W.seq (W.drawE_k hc fun K hK=>h K hK)
end
end
theorem b_mc {α β:Type} {f:α→β} {a:α} {l:List α}:(a::l).map f=f a::l.map f:=rfl
theorem b_mn {α β:Type} {f:α→β}:([]:List α).map f=[]:=rfl
theorem ydo {α:Type} [BEq α] [ReflBEq α] {a:α}:(a == a)=true:=beq_self_eq_true a
theorem ydp:(false=true)=False:=by simp
theorem b_tn {n:Nat}:((n:Int)).toNat=n:=Int.toNat_natCast n
theorem b_gm {α β:Type} {f:α→β} {l:List α} {i:Nat}:(l.map f)[i]?=(l[i]?).map f:=List.getElem?_map
theorem b_os {α β:Type} {f:α→β} {a:α}:(some a).map f=some (f a):=rfl
theorem b_ob {α β:Type} {f:α→Option β} {a:α}:(some a).bind f=f a:=rfl
theorem b_g0 {α:Type} {a:α} {l:List α}:(a::l)[0]?=some a:=rfl
theorem b_gs {α:Type} {a:α} {l:List α} {i:Nat}:(a::l)[i+1]?=l[i]?:=by simp
theorem RH:(type_of% @b_mc)∧(type_of% @b_mn)∧(type_of% @ydo)∧(type_of% ydp)∧(type_of% @b_tn)∧(type_of% @Nat.mul_one)∧(type_of% @b_gm)∧(type_of% @b_os)∧(type_of% @b_ob)∧(type_of% @b_g0)∧(type_of% @b_gs) :=
 ⟨@b_mc,@b_mn,@ydo,ydp,@b_tn,@Nat.mul_one,@b_gm,@b_os,@b_ob,@b_g0,@b_gs⟩
theorem b_ca {α:Type} {a:α} {l m:List α}:(a::l)++m=a::(l++m):=rfl
theorem b_na {α:Type} {m:List α}:([]:List α)++m=m:=rfl
theorem b_lc {α:Type} {a:α} {l:List α}:(a::l).length=l.length+1:=rfl
theorem b_ln {α:Type}:([]:List α).length=0:=rfl
theorem b_s0 {α:Type} {a b:α} {l:List α}:(a::l).set 0 b=b::l:=rfl
theorem b_ss {α:Type} {a b:α} {l:List α} {n:Nat}:(a::l).set (n+1) b=a::l.set n b:=rfl
theorem b_d0 {α:Type} {l:List α}:l.drop 0=l:=rfl
theorem b_t0 {α:Type} {l:List α}:l.take 0=[]:=List.take_zero
theorem b_ts {α:Type} {a:α} {l:List α} {n:Nat}:(a::l).take (n+1)=a::l.take n:=rfl
theorem b_ds {α:Type} {a:α} {l:List α} {n:Nat}:(a::l).drop (n+1)=l.drop n:=rfl
theorem b_dn {α:Type} {n:Nat}:([]:List α).drop n=[]:=List.drop_nil
theorem ydq {α:Type} {n:Nat}:([]:List α).take n=[]:=List.take_nil
theorem b_lm {α β:Type} {f:α→β} {l:List α}:(l.map f).length=l.length:=List.length_map f
theorem b_nt:(¬ False)=True:=not_false_eq_true
theorem yfc {α:Type} {a b:α}:(a≠b)=¬ (a=b):=rfl
theorem RG:(type_of% @b_ca)∧(type_of% @b_na)∧(type_of% @b_lc)∧(type_of% @b_ln)∧(type_of% @b_s0)∧(type_of% @b_ss)∧(type_of% @b_d0)∧(type_of% @b_t0)∧(type_of% @b_ts)∧(type_of% @b_ds)∧(type_of% @b_dn)∧(type_of% @ydq)∧(type_of% Nat.zero_add)∧(type_of% Nat.add_zero)∧(type_of% true_and)∧(type_of% and_true)∧(type_of% @b_lm)∧(type_of% @yfc)∧(type_of% b_nt)∧(type_of% @yah)∧(type_of% @z8y)∧(type_of% @z35)∧(type_of% zue)∧(type_of% @zn2) :=
 ⟨@b_ca,@b_na,@b_lc,@b_ln,@b_s0,@b_ss,@b_d0,@b_t0,@b_ts,@b_ds,@b_dn,@ydq,Nat.zero_add,Nat.add_zero,true_and,and_true,@b_lm,@yfc,b_nt,@yah,@z8y,@z35,zue,@zn2⟩
theorem z9l {α:Type} [BEq α] [LawfulBEq α] {a b:α}:((a == b)=true)=(a=b):=propext beq_iff_eq
theorem z9k {α:Type} [BEq α] [LawfulBEq α] {a b:α}:((a == b)=false)=¬ (a=b):=propext beq_eq_false_iff_ne
theorem z9n {α:Type} [BEq α] [LawfulBEq α] {a b:α}:((a != b)=true)=¬ (a=b):=propext bne_iff_ne
theorem z9m {α:Type} [BEq α] [LawfulBEq α] {a b:α}:((a != b)=false)=(a=b):=propext bne_eq_false_iff_eq
theorem b_gt {a b:Int}:(a>b)=(b<a):=rfl
theorem b_ge {a b:Int}:(a ≥ b)=(b≤a):=rfl
theorem RL:(type_of% @decide_eq_true_eq)∧(type_of% @decide_eq_false_iff_not)∧(type_of% @z9l)∧(type_of% @z9k)∧(type_of% @z9n)∧(type_of% @z9m)∧(type_of% @yfc)∧(type_of% @Classical.not_not)∧(type_of% @Bool.not_eq_true')∧(type_of% @Bool.not_eq_false')∧(type_of% @b_gt)∧(type_of% @b_ge) :=
 ⟨@decide_eq_true_eq,@decide_eq_false_iff_not,@z9l,@z9k,@z9n,@z9m,@yfc,@Classical.not_not,@Bool.not_eq_true',@Bool.not_eq_false',@b_gt,@b_ge⟩
inductive Bel (k:Nat):PV→Prop where
 | int (q n):Bel k (.int q n)
 | bool (b):Bel k (.bool b)
 | str (s):Bel k (.str s)
 | agg (cs):(∀ c∈cs,Bel k c)→Bel k (.agg cs)
 | tup (cs):(∀ c∈cs,Bel k c)→Bel k (.tup cs)
 | fn (f cs):(∀ c∈cs,Bel k c)→Bel k (.fn f cs)
 | sl (cs n):Bel k (.sl cs n)
 | nils:Bel k .nils
 | bm (f b):Bel k (.bm f b)
 | ip (cs n):Bel k (.ip cs n)
 | nilp:Bel k .nilp
 | nilm:Bel k .nilm
 | nilf:Bel k .nilf
 | yl (l:Nat):Bel k (.yl l)
 | undef:Bel k .undef
 | loc (o v f n):o<k→Bel k (.loc o v f n)
 | ref (o v f):o<k→Bel k (.ref o v f)
 | mp (o v):o<k→Bel k (.mp o v)
def Ob.bel (k:Nat):Ob→Prop
 | .arr _ _ _ cells=>∀ c∈cells,Bel k c
 | .map _ es=>∀ e∈es,Bel k e.1∧Bel k e.2
 | .lp _ _ _ tmps=>∀ c∈tmps,Bel k c
theorem VR.grow {H:Array Obj} {F:Nat→Prop} {G G':GSt} {k:Nat} (ht:G.tick≤G'.tick) (hg:∀ o,o<k→G'.obs[o]?=G.obs[o]?) {p:PV} {v:Value} (hb:Bel k p) (h:VR H F G p v):VR H F G' p v:=by
 induction h with
 | imm p v h=>exact .imm p v h
 | agg cs vs e _ ih=>cases hb with | agg _ hb=>exact .agg cs vs e fun i p v h1 h2=>ih i p v h1 h2 (hb p (List.mem_of_getElem? h1))
 | tup cs vs e _ ih=>cases hb with | tup _ hb=>exact .tup cs vs e fun i p v h1 h2=>ih i p v h1 h2 (hb p (List.mem_of_getElem? h1))
 | fn f cs vs e _ ih=>cases hb with | fn _ _ hb=>exact .fn f cs vs e fun i p v h1 h2=>ih i p v h1 h2 (hb p (List.mem_of_getElem? h1))
 | loc o ver off n a len cap hv k'=>cases hb with | loc _ _ _ _ hb=>exact .loc o ver off n a len cap (Nat.lt_of_lt_of_le hv ht) fun ob l h=>k' ob l (by rw [← hg o hb]; exact h)
 | ref o ver off a hv k'=>cases hb with | ref _ _ _ hb=>exact .ref o ver off a (Nat.lt_of_lt_of_le hv ht) fun ob l h=>k' ob l (by rw [← hg o hb]; exact h)
 | mp o ver r hv k'=>cases hb with | mp _ _ hb=>exact .mp o ver r (Nat.lt_of_lt_of_le hv ht) fun ob l h=>k' ob l (by rw [← hg o hb]; exact h)
theorem Ev.frame {P:Program} {f:FuncId} {args:List PV} {obs:List Ob} {t:Nat} {J:PV→Store→Prop} (h:Ev P f args ⟨obs,t⟩ J)
  (hJ:∀ v S,J v S→S.obs.length=obs.length∧Bel obs.length v∧∀ ob∈S.obs,ob.bel obs.length) (R:List Ob) :
  Ev P f args ⟨obs++R,t⟩ fun v S=>∃ S1,J v S1∧S=⟨S1.obs++R,S1.tick⟩:=by
 refine ⟨h.ent,?_⟩
 intro F G w cargs hS hi hl hv
 have hobs:G.obs.map (·.1)=obs++R:=congrArg Store.obs hS
 have htk:G.tick=t:=congrArg Store.tick hS
 have hlen:G.obs.length=obs.length+R.length:=by rw [← List.length_map (f:=(·.1)),hobs,List.length_append]
 obtain ⟨i1,n1⟩:=zel hi obs.length
 have e1:(G.take obs.length).er=⟨obs,t⟩:=by
  rw [zio,hS]; simp [Store.take]
 refine Calls.mono (h.run F (G.take obs.length) w cargs e1 i1 hl fun i p c h1 h2=>(hv i p c h1 h2).next hi n1) ?_
 rintro e w' ⟨v,cv,F',G1,rfl,hj,i2,n2,r2⟩
 obtain ⟨j1,j2,j3⟩:=hJ _ _ hj
 have hG1:G1.obs.length=obs.length:=by rw [← j1]; simp [GSt.er]
 let G':GSt:=⟨G1.obs++G.obs.drop obs.length,G1.tick⟩
 have lo:∀ o,o<obs.length→G'.obs[o]?=G1.obs[o]?:=fun o ho=>by simp only[G']; rw [List.getElem?_append_left (by omega)]
 have hi':∀ o,obs.length≤o→G'.obs[o]?=G.obs[o]?:=fun o ho=>by
  simp only[G']; rw [List.getElem?_append_right (by omega),List.getElem?_drop]; congr 1; omega
 have tk:∀ o,o<obs.length→(G.take obs.length).obs[o]?=G.obs[o]?:=fun o ho=>by simp [GSt.take,List.getElem?_take,ho]
 have old:∀ o x,obs.length≤o→G.obs[o]?=some x→∀ (o':Nat) y,(G.take obs.length).obs[o']?=some y→y.2.blk≠x.2.blk:=by
  intro o x ho hx o' y hy e
  have h1:=zcc hy
  have:=hi.inj o' o y x h1 hx e
  have:o'<obs.length:=by
   have:=(List.getElem?_eq_some_iff.1 hy).1
   simp only[GSt.take,List.length_take]at this; omega
  omega
 have nx:Next F G w F' G' w':=by
  refine ⟨n2.os,n2.tape,n2.output,n2.size,n2.fsub,?_,?_,n2.tick,?_,?_,n2.drawn⟩
  ·intro b hb
   rcases n2.fnew b hb with h1 | h1 | ⟨o,x,hx,e⟩
   ·exact .inl h1
   ·exact .inr (.inl h1)
   exact .inr (.inr ⟨o,x,zcc hx,e⟩)
  ·intro o x hx
   by_cases ho:o<obs.length
   ·rw [lo o ho]at hx
    rcases n2.gnew o x hx with h1 | ⟨o',y,hy,e⟩
    ·exact .inl h1
    exact .inr ⟨o',y,zcc hy,e⟩
   rw [hi' o (by omega)]at hx
   exact .inr ⟨o,x,hx,rfl⟩
  ·intro b hb hG
   exact n2.keep b hb fun o x hx=>hG o x (zcc hx)
  intro o ob' l' hx hv
  by_cases ho:o<obs.length
  ·rw [lo o ho]at hx
   obtain ⟨ob,h1,h2,h3⟩:=n2.hand o ob' l' hx hv
   exact ⟨ob,zcc h1,h2,h3⟩
  rw [hi' o (by omega)]at hx
  exact ⟨ob',hx,rfl,Ob.like.refl _⟩
 have bel1:∀ (o:Nat) (ob:Ob) (l:Lc),G1.obs[o]?=some (ob,l)→ob.bel obs.length:=fun o ob l ho=>j3 ob (by
  simp only[GSt.er]; exact List.mem_map.2 ⟨(ob,l),List.mem_of_getElem? ho,rfl⟩)
 refine ⟨v,cv,F',G',rfl,⟨_,hj,?_⟩,zh9 i2.fr ?_ ?_ ?_ ?_,nx,VR.grow (G:=G1) (G':=G') (qR _) lo j2 r2⟩
 ·simp only[GSt.er,G',List.map_append,Store.mk.injEq,and_true]
  congr 1
  rw [List.map_drop,hobs]; simp
 ·intro o ob l hx
  by_cases ho:o<obs.length
  ·rw [lo o ho]at hx; exact i2.ver o ob l hx
  rw [hi' o (by omega)]at hx; exact Nat.lt_of_lt_of_le (hi.ver o ob l hx) n2.tick
 ·intro o ob l hx hF
  by_cases ho:o<obs.length
  ·rw [lo o ho]at hx; exact i2.nF o ob l hx hF
  rw [hi' o (by omega)]at hx
  rcases n2.fnew _ hF with h1 | h1 | ⟨o',x,hx',e⟩
  ·exact hi.nF o ob l hx h1
  ·have:=hi.blk_lt hx; simp only at this; omega
  exact old o _ (by omega) hx o' x hx' e
 ·intro o ob l hx
  by_cases ho:o<obs.length
  ·rw [lo o ho]at hx
   have hb:=bel1 o ob l hx
   have:=i2.holds hx
   cases ob with
   | arr ver et sz cells =>
    obtain ⟨cs,h1,h2,h3,h4⟩:=this
    refine ⟨cs,h1,h2,h3,fun i p hp=>?_⟩
    obtain ⟨a1,v,a2,a3⟩:=h4 i p hp
    exact ⟨a1,v,a2,VR.grow (G:=G1) (G':=G') (qR _) lo (hb p (List.mem_of_getElem? hp)) a3⟩
   | map ver es =>
    obtain ⟨ents,clock,h1,h2,h3⟩:=this
    refine ⟨ents,clock,h1,h2,fun i k v hp=>?_⟩
    obtain ⟨en,a1,a2,a3⟩:=h3 i k v hp
    have hb':=hb (k,v) (List.mem_of_getElem? hp)
    exact ⟨en,a1,VR.grow (G:=G1) (G':=G') (qR _) lo hb'.1 a2,VR.grow (G:=G1) (G':=G') (qR _) lo hb'.2 a3⟩
   | lp ver b r tmps =>
    obtain ⟨h0,t,h1,h2,h3⟩:=this
    exact ⟨h0,t,h1,h2,fun i p v hp hv=>VR.grow (G:=G1) (G':=G') (qR _) lo (hb p (List.mem_of_getElem? hp)) (h3 i p v hp hv)⟩
  ·rw [hi' o (by omega)]at hx
   exact (hi.holds hx).next hi nx (n2.keep _ (hi.blk_lt hx) (fun o' y hy=>old o _ (by omega) hx o' y hy))
 intro o o' x x' hx hx' e
 by_cases ho:o<obs.length <;> by_cases ho':o'<obs.length
 ·rw [lo o ho]at hx; rw [lo o' ho']at hx'; exact i2.inj o o' x x' hx hx' e
 ·rw [lo o ho]at hx; rw [hi' o' (by omega)]at hx'
  exfalso
  rcases n2.gnew o x hx with h1 | ⟨o2,y,hy,e2⟩
  ·have:=hi.blk_lt hx'; omega
  exact old o' x' (by omega) hx' o2 y hy (by omega)
 ·rw [hi' o (by omega)]at hx; rw [lo o' ho']at hx'
  exfalso
  rcases n2.gnew o' x' hx' with h1 | ⟨o2,y,hy,e2⟩
  ·have:=hi.blk_lt hx; omega
  exact old o x (by omega) hx o2 y hy (by omega)
 rw [hi' o (by omega)]at hx; rw [hi' o' (by omega)]at hx'; exact hi.inj o o' x x' hx hx' e
section
def sh (S:Store) (im:Bool):Nat→PV→Option PV
 | 0,_=>none
 | k+1,p =>
  match p with
  | .int a b=>some (.int a b)
  | .bool b=>some (.bool b)
  | .str s=>some (.str s)
  | .nilp=>some .nilp
  | .nilf=>some .nilf
  | .yl l=>some (.yl l)
  | .nilm=>some .nilm
  | .nils=>some .nils
  | .agg cs=>(cs.mapM (sh S im k)).map .agg
  | .tup cs=>(cs.mapM (sh S im k)).map .tup
  | .fn f cs=>(cs.mapM (sh S im k)).map (.fn f)
  | .sl cs n=>if im || cs.isEmpty then some (.sl cs n) else none
  | .ip cs off=>if im then some (.ip cs off) else none
  | .bm f b=>if im then some (.bm f b) else none
  | .loc o ver off n =>
   match S.obs[o]? with
   | some (.arr v _ _ _)=>if v=ver then some (.loc o 0 off n) else none
   | _=>none
  | .ref o ver off =>
   match S.obs[o]? with
   | some (.arr v _ _ _)=>if v=ver then some (.ref o 0 off) else none
   | _=>none
  | .mp o ver =>
   match S.obs[o]? with
   | some (.map v _)=>if v=ver then some (.mp o 0) else none
   | _=>none
  | .undef=>none
def zv8 (S:Store) (im:Bool):Ob→Option Ob
 | .arr _ et sz cells=>(cells.mapM (sh S im 10)).map (.arr 0 et sz ·)
 | .map _ es=>(es.mapM fun q=>(sh S im 10 q.1).bind fun a=>(sh S im 10 q.2).map fun b=>(a,b)).map (.map 0 ·)
 | .lp _ _ _ _=>none
def zhx (S:Store) (im:Bool):List Ob→Option (List Ob)
 | []=>some []
 | o::r=>(zv8 S im o).bind fun a=>(zhx S im r).map (a :: ·)
def up (k t:Nat):Nat→PV→PV
 | f+1,.loc o _ off n => .loc (o+k) t off n
 | f+1,.ref o _ off => .ref (o+k) t off
 | f+1,.mp o _ => .mp (o+k) t
 | f+1,.agg cs => .agg (cs.map (up k t f))
 | f+1,.tup cs => .tup (cs.map (up k t f))
 | f+1,.fn g cs => .fn g (cs.map (up k t f))
 | _,p=>p
def z6d (k t:Nat):Ob→Ob
 | .arr _ et sz cells => .arr t et sz (cells.map (up k t 10))
 | .map _ es => .map t (es.map fun q=>(up k t 10 q.1,up k t 10 q.2))
 | .lp _ l r tmps => .lp t l r tmps
def PN (P:Program) (f:FuncId) (args:List PV) (r:PV) (obs:List Ob) (im:Bool):Prop :=
 Ev P f args ⟨[],0⟩ fun v S=>∃ k,sh (S.take k) im 10 v=some r∧zhx (S.take k) im (S.take k).obs=some obs
section
variable {P:Program} {T:Tab} {F:Nat→Prop} {G:GSt} {w:World} {e:Env} {a:Act}
theorem ycn {S:Store} {im:Bool} {k t:Nat}:∀ {f:Nat} {p q:PV},sh S im f p=some q→p.isCell=true→(up k t f q).isCell=true
 | 0,p,q,h,_=>by simp [sh]at h
 | f+1,p,q,h,hp=>by
  cases p <;> simp only[sh]at h <;> first
   | (cases h; rfl)
   | (simp [PV.isCell]at hp; done)
   | (cases h; done)
   | (split at h <;> first | (cases h; rfl) | (cases h; done) | (split at h <;> first | (cases h; done) | (cases h; rfl)))
   | (rw [qI]at h; obtain ⟨_,_,rfl⟩:=h; rfl)
structure Beh (G' G'':GSt) (k t:Nat):Prop where
 tick:t<G''.tick
 get:∀ (o:Nat) ob l,G''.obs[o+k]?=some (ob,l)→∃ ob',G'.obs[o]?=some (ob',l)∧ob'.like ob∧ob.ver=t
theorem zlg {w':World} {F' F'':Nat→Prop} {G' G'':GSt} {im:Bool} {k t:Nat} (hb:Beh G' G'' k t) (hF:im=true→∀ b,F' b→F'' b) :
  ∀ {f:Nat} {p q:PV} {cv:Value},VR w'.heap F' G' p cv→sh G'.er im f p=some q→VR w'.heap F'' G'' (up k t f q) cv
 | 0,p,q,cv,_,h=>by simp [sh]at h
 | f+1,p,q,cv,hv,h=>by
  have rowVR:∀ {cs ts:List PV} {vs:Array Value},cs.length=vs.size→(∀ (i:Nat) p v,cs[i]?=some p→vs[i]?=some v→VR w'.heap F' G' p v)→cs.mapM (sh G'.er im f)=some ts →
    (ts.map (up k t f)).length=vs.size∧∀ (i:Nat) p v,(ts.map (up k t f))[i]?=some p→vs[i]?=some v→VR w'.heap F'' G'' p v:=by
   intro cs ts vs hl hp hm
   obtain ⟨h1,h2⟩:=zby _ _ hm
   refine ⟨by simp; omega,fun i p v q1 q2=>?_⟩
   rw [List.getElem?_map,qI]at q1
   obtain ⟨y,y1,rfl⟩:=q1
   obtain ⟨x,h3,h4⟩:=h2 i y y1
   exact zlg hb hF (hp i x v h3 q2) h4
  cases p with
  | int a b=>simp only[sh]at h; cases h; rw [hv.int]; exact .imm _ _ (.int _ _)
  | bool b=>simp only[sh]at h; cases h; rw [hv.bool]; exact .imm _ _ (.bool _)
  | str s=>simp only[sh]at h; cases h; obtain ⟨b,rfl,hb⟩:=hv.str; exact .imm _ _ (.str _ _ hb)
  | nilp=>simp only[sh]at h; cases h; cases hv with | imm _ _ hv=>cases hv; exact .imm _ _ .nilp
  | nilf=>simp only[sh]at h; cases h; cases hv with | imm _ _ hv=>cases hv; exact .imm _ _ .nilf
  | yl l=>simp only[sh]at h; cases h; cases hv with | imm _ _ hv=>cases hv; exact .imm _ _ (.yl _)
  | nilm=>simp only[sh]at h; cases h; cases hv with | imm _ _ hv=>cases hv; exact .imm _ _ .nilm
  | nils=>simp only[sh]at h; cases h; cases hv with | imm _ _ hv=>cases hv; exact .imm _ _ .nils
  | agg cs =>
   simp only[sh]at h
   rw [qI]at h
   obtain ⟨ts,h1,rfl⟩:=h
   obtain ⟨vs,rfl,h2,h3⟩:=hv.agg'
   obtain ⟨h4,h5⟩:=rowVR h2 h3 h1
   exact .agg _ _ h4 h5
  | tup cs =>
   simp only[sh]at h
   rw [qI]at h
   obtain ⟨ts,h1,rfl⟩:=h
   obtain ⟨vs,rfl,h2,h3⟩:=hv.tup'
   obtain ⟨h4,h5⟩:=rowVR h2 h3 h1
   exact .tup _ _ h4 h5
  | fn g cs =>
   simp only[sh]at h
   rw [qI]at h
   obtain ⟨ts,h1,rfl⟩:=h
   have:∃ vs:Array Value,cv = .func (.func g) #[] vs∧cs.length=vs.size∧∀ (i:Nat) p v,cs[i]?=some p→vs[i]?=some v→VR w'.heap F' G' p v:=by
    cases hv with
    | imm _ _ hv=>cases hv with | fn _ _ vs h2 h3=>exact ⟨vs,rfl,h2,fun i p v a b => .imm _ _ (h3 i p v a b)⟩
    | fn _ _ vs h2 h3=>exact ⟨vs,rfl,h2,h3⟩
   obtain ⟨vs,rfl,h2,h3⟩:=this
   obtain ⟨h4,h5⟩:=rowVR h2 h3 h1
   exact .fn _ _ _ h4 h5
  | sl cs n =>
   simp only[sh]at h
   split at h
   ·rename_i hc
    cases h
    simp only[Bool.or_eq_true,List.isEmpty_iff]at hc
    cases hv with
    | imm _ _ hv =>
     rcases hc with hc | hc
     ·exact .imm _ _ (hv.mono (hF hc) (fun _ _=>rfl))
     subst hc
     cases hv with
     | sl0=>exact .imm _ _ .sl0
     | sl _ _ b off cap g h1 h2 h3 h4=>exact .imm _ _ (.sl _ _ b off cap g (fun h=>absurd rfl h) h2 (by simp) (by simp))
   cases h
  | ip cs n =>
   simp only[sh]at h
   split at h
   ·rename_i hc
    cases h
    cases hv with
    | imm _ _ hv=>exact .imm _ _ (hv.mono (hF hc) (fun _ _=>rfl))
   cases h
  | bm g b =>
   simp only[sh]at h
   split at h
   ·rename_i hc
    cases h
    cases hv with
    | imm _ _ hv=>exact .imm _ _ (hv.mono (hF hc) (fun _ _=>rfl))
   cases h
  | loc o ver off n =>
   simp only[sh]at h
   split at h
   case h_2=>cases h
   rename_i v et sz cells hob
   split at h
   case isFalse=>cases h
   rename_i hver
   cases h
   cases hv with
   | imm _ _ hv=>cases hv
   | loc _ _ _ _ a len cap hv k' =>
    refine .loc _ _ _ _ a len cap hb.tick fun ob l hg he=>?_
    obtain ⟨ob',h1,h2,h3⟩:=hb.get o ob l hg
    have hob':ob' = .arr v et sz cells:=by
     have:G'.er.obs[o]?=some ob':=by simp [GSt.er,h1]
     rw [hob]at this; cases this; rfl
    subst hob'
    obtain ⟨et2,sz2,cells2,q1,q2⟩:=k' _ l h1 (by simp only[Ob.ver]; exact hver)
    cases q1
    cases ob with
    | arr v3 et3 sz3 cells3 =>
     simp only[Ob.like]at h2
     obtain ⟨rfl,rfl⟩:=h2
     exact ⟨_,_,cells3,by simp only[Ob.ver]at h3; rw [h3],q2⟩
    | map v3 es=>exact h2.elim
    | lp _ _ _ _=>exact h2.elim
  | ref o ver off =>
   simp only[sh]at h
   split at h
   case h_2=>cases h
   rename_i v et sz cells hob
   split at h
   case isFalse=>cases h
   rename_i hver
   cases h
   cases hv with
   | imm _ _ hv=>cases hv
   | ref _ _ _ a hv k' =>
    refine .ref _ _ _ a hb.tick fun ob l hg he=>?_
    obtain ⟨ob',h1,h2,h3⟩:=hb.get o ob l hg
    have hob':ob' = .arr v et sz cells:=by
     have:G'.er.obs[o]?=some ob':=by simp [GSt.er,h1]
     rw [hob]at this; cases this; rfl
    subst hob'
    obtain ⟨et2,sz2,cells2,q1,q2⟩:=k' _ l h1 (by simp only[Ob.ver]; exact hver)
    cases q1
    cases ob with
    | arr v3 et3 sz3 cells3 =>
     simp only[Ob.like]at h2
     obtain ⟨rfl,rfl⟩:=h2
     exact ⟨_,_,cells3,by simp only[Ob.ver]at h3; rw [h3],q2⟩
    | map v3 es=>exact h2.elim
    | lp _ _ _ _=>exact h2.elim
  | mp o ver =>
   simp only[sh]at h
   split at h
   case h_2=>cases h
   rename_i v es hob
   split at h
   case isFalse=>cases h
   rename_i hver
   cases h
   cases hv with
   | imm _ _ hv=>cases hv
   | mp _ _ r hv k' =>
    refine .mp _ _ r hb.tick fun ob l hg he=>?_
    obtain ⟨ob',h1,h2,h3⟩:=hb.get o ob l hg
    have hob':ob' = .map v es:=by
     have:G'.er.obs[o]?=some ob':=by simp [GSt.er,h1]
     rw [hob]at this; cases this; rfl
    subst hob'
    obtain ⟨es2,q1,q2⟩:=k' _ l h1 (by simp only[Ob.ver]; exact hver)
    cases q1
    cases ob with
    | arr v3 et3 sz3 cells3=>exact h2.elim
    | map v3 es3=>exact ⟨es3,by simp only[Ob.ver]at h3; rw [h3],q2⟩
    | lp _ _ _ _=>exact h2.elim
  | undef=>simp only[sh]at h; cases h
theorem zvq {S:Store} {im:Bool}:∀ {l l':List Ob},zhx S im l=some l'→l.length=l'.length∧∀ (i:Nat) ob',l'[i]?=some ob'→∃ ob,l[i]?=some ob∧zv8 S im ob=some ob'
 | [],l',h=>by simp [zhx]at h; subst h; simp
 | o::l,l',h=>by
  simp only[zhx]at h
  rw [Option.bind_eq_some_iff]at h
  obtain ⟨a,h1,h⟩:=h
  rw [qI]at h
  obtain ⟨r,h2,rfl⟩:=h
  obtain ⟨h3,h4⟩:=zvq h2
  refine ⟨by simp [h3],?_⟩
  rintro (_ | i) ob' hi
  ·simp at hi; subst hi; exact ⟨o,rfl,h1⟩
  simp at hi; obtain ⟨ob,h5,h6⟩:=h4 i ob' hi; exact ⟨ob,by simpa using h5,h6⟩
theorem zlf {S:Store} {im:Bool} {k t:Nat} {ob ob':Ob} (h:zv8 S im ob=some ob'):ob.like (z6d k t ob')∧(z6d k t ob').ver=t:=by
 cases ob with
 | arr v et sz cells=>simp only[zv8]at h; rw [qI]at h; obtain ⟨_,_,rfl⟩:=h; simp [z6d,Ob.ver,Ob.like]
 | map v es=>simp only[zv8]at h; rw [qI]at h; obtain ⟨_,_,rfl⟩:=h; simp [z6d,Ob.ver,Ob.like]
 | lp _ _ _ _=>simp [zv8]at h
theorem zva {o:List Ob} {t t':Nat} {im:Bool}:∀ {k:Nat} {p:PV},reify ⟨o,t⟩ im k p=reify ⟨o,t'⟩ im k p
 | 0,_=>rfl
 | k+1,p=>by
  have ih:reify ⟨o,t⟩ im k=reify ⟨o,t'⟩ im k:=funext fun p=>zva
  cases p <;> simp only[reify,ih,Store.cellsOf]
theorem PN.ev {f:FuncId} {args ts:List PV} {r:PV} {obs:List Ob} {im:Bool} {S:Store} {k:Nat} (h:PN P f ts r obs im) (h1:args.mapM (reify S true k)=some ts)
  (h2:im=false∨args.mapM (reify ⟨[],0⟩ true k)=some ts) :
  Ev P f args S fun v S'=>v=up S.obs.length S.tick 10 r∧S'=⟨S.obs++obs.map (z6d S.obs.length S.tick),S.tick+1⟩:=by
 refine ⟨h.ent,fun F G w cargs hS hi hl hv=>?_⟩
 subst hS
 -- the blocks that the call takes for data
 obtain ⟨F1,hF1,hF1',hF1s,hvi⟩:∃ F1:Nat→Prop,(∀ b,F1 b→b<w.heap.size)∧(im=true→∀ b,F1 b→F b)∧(∀ b,F b→F1 b) ∧
   (∀ (i:Nat) p c,ts[i]?=some p→cargs[i]?=some c→VI w.heap F1 p c):=by
  cases him:im with
  | false =>
   obtain ⟨m1,m2⟩:=zby _ _ h1
   refine ⟨Foot F G true,fun b hb=>?_,by simp,fun b hb => .inl ⟨rfl,hb⟩,fun i p c q1 q2=>?_⟩
   ·rcases hb with ⟨_,hb⟩ | ⟨o,x,hx,rfl⟩
    ·exact hi.fr b hb
    exact hi.blk_lt hx
   obtain ⟨x,x1,x2⟩:=m2 i p q1
   exact zdn hi (hv i x c x1 q2) x2
  | true =>
   have h2':=h2.resolve_left (by simp [him])
   obtain ⟨m1,m2⟩:=zby _ _ h2'
   obtain ⟨i1,n1⟩:=zel hi 0
   refine ⟨F,fun b hb=>hi.fr b hb,fun _ _ h=>h,fun _ h=>h,fun i p c q1 q2=>?_⟩
   obtain ⟨x,x1,x2⟩:=m2 i p q1
   have e0:(G.take 0).er=⟨[],G.tick⟩:=by simp [GSt.take,GSt.er]
   have:=zdn (im:=true) (k:=k) i1 ((hv i x c x1 q2).next hi n1) (by rw [e0,zva (t':=0)]; exact x2)
   refine this.mono ?_ (fun _ _=>rfl)
   rintro b (⟨_,hb⟩ | ⟨o,y,hy,_⟩)
   ·exact hb
   simp [GSt.take]at hy
 have hlen:args.length=ts.length:=(zby _ _ h1).1
 have hi1:Inv F1 ⟨[],0⟩ w:=⟨hF1,by simp,by simp,by simp,by simp,by simp,by simp⟩
 refine (h.run F1 ⟨[],0⟩ w cargs rfl hi1 (by omega) fun i p c q1 q2 => .imm _ _ (hvi i p c q1 q2)).mono ?_
 rintro en w' ⟨v,cv,F',G0,rfl,⟨kk,j1,j2⟩,i2,n2,r2⟩
 obtain ⟨i3,n3⟩:=zel i2 kk
 rw [← zio]at j1 j2
 have n4:=n2.trans n3
 have r3:=r2.next i2 n3
 generalize G0.take kk=G' at j1 j2 i3 n4 r3
 clear i2 n2 n3 r2
 obtain ⟨l1,l2⟩:=zvq j2
 have hlG:G'.obs.length=obs.length:=by rw [← l1]; simp [GSt.er]
 let N:List (Ob × Lc):=List.zipWith (fun ob (x:Ob × Lc)=>(z6d G.obs.length G.tick ob,x.2)) obs G'.obs
 let G2:GSt:=⟨G.obs++N,G.tick+1⟩
 have hN:∀ (o:Nat) ob l,N[o]?=some (ob,l)→∃ ob0 ob',G'.obs[o]?=some (ob0,l)∧zv8 G'.er im ob0=some ob'∧ob=z6d G.obs.length G.tick ob':=by
  intro o ob l ho
  simp only[N,List.getElem?_zipWith]at ho
  cases ha:obs[o]? with
  | none=>rw [ha]at ho; simp at ho
  | some q =>
   cases hb:G'.obs[o]? with
   | none=>rw [ha,hb]at ho; simp at ho
   | some x =>
    rw [ha,hb]at ho
    simp at ho
    obtain ⟨rfl,rfl⟩:=ho
    obtain ⟨ob0,k1,k2⟩:=l2 o q ha
    simp only[GSt.er,List.getElem?_map,hb,qO,Option.some.injEq]at k1
    exact ⟨x.1,q,rfl,k1 ▸ k2,rfl⟩
 have lo:∀ o,o<G.obs.length→G2.obs[o]?=G.obs[o]?:=fun o ho=>by simp only[G2]; rw [List.getElem?_append_left ho]
 have hi':∀ o,G.obs.length≤o→G2.obs[o]?=N[o - G.obs.length]?:=fun o ho=>by simp only[G2]; rw [List.getElem?_append_right ho]
 have beh:Beh G' G2 G.obs.length G.tick:=by
  refine ⟨Nat.lt_succ_self _,fun o ob l ho=>?_⟩
  rw [hi' _ (by omega),Nat.add_sub_cancel]at ho
  obtain ⟨ob0,ob',h3,h4,rfl⟩:=hN o ob l ho
  exact ⟨ob0,h3,(zlf h4).1,(zlf h4).2⟩
 let F2:Nat→Prop:=fun b=>F b∨(w.heap.size≤b∧F' b)
 have hFF:im=true→∀ b,F' b→F2 b:=by
  intro him b hb
  rcases n4.fnew b hb with h3 | h3 | ⟨o,x,hx,_⟩
  ·exact .inl (hF1' him b h3)
  ·exact .inr ⟨h3,hb⟩
  simp at hx
 have newb:∀ (o:Nat) x,G'.obs[o]?=some x→w.heap.size≤x.2.blk:=by
  intro o x hx
  rcases n4.gnew o x hx with h3 | ⟨o',y,hy,_⟩
  ·exact h3
  simp at hy
 have nx:Next F G w F2 G2 w':=by
  refine ⟨n4.os,n4.tape,n4.output,n4.size,fun b hb => .inl hb,?_,?_,Nat.le_succ _,fun b hb _=>n4.keep b hb (by simp),?_,n4.drawn⟩
  ·rintro b (hb | ⟨hb,_⟩)
   ·exact .inl hb
   exact .inr (.inl hb)
  ·rintro o ⟨ob,l⟩ hx
   by_cases ho:o<G.obs.length
   ·rw [lo o ho]at hx; exact .inr ⟨o,_,hx,rfl⟩
   rw [hi' o (by omega)]at hx
   obtain ⟨ob0,ob',h3,_⟩:=hN _ _ _ hx
   have:=newb _ _ h3
   exact .inl this
  intro o ob' l' hx hver
  by_cases ho:o<G.obs.length
  ·rw [lo o ho]at hx; exact ⟨ob',hx,rfl,Ob.like.refl _⟩
  rw [hi' o (by omega)]at hx
  obtain ⟨ob0,ob2,h3,h4,rfl⟩:=hN _ _ _ hx
  rw [(zlf h4).2]at hver
  omega
 refine ⟨_,cv,F2,G2,rfl,⟨rfl,?_⟩,zh9 ?_ ?_ ?_ ?_ ?_,nx,by
  have hlo:G.er.obs.length=G.obs.length:=by simp [GSt.er]
  rw [hlo]; exact zlg beh hFF r3 j1⟩
 ·have hlo:G.er.obs.length=G.obs.length:=by simp [GSt.er]
  have htk:G.er.tick=G.tick:=rfl
  rw [hlo,htk]
  simp only[GSt.er,G2,List.map_append,Store.mk.injEq,and_true]
  congr 1
  apply List.ext_getElem
  ·simp [N,hlG]
  intro i a b; simp [N]
 ·rintro b (hb | ⟨_,hb⟩)
  ·exact Nat.lt_of_lt_of_le (hi.fr b hb) n4.size
  exact i3.fr b hb
 ·intro o ob l hx
  by_cases ho:o<G.obs.length
  ·rw [lo o ho]at hx; exact Nat.lt_succ_of_lt (hi.ver o ob l hx)
  rw [hi' o (by omega)]at hx
  obtain ⟨ob0,ob2,h3,h4,rfl⟩:=hN _ _ _ hx
  rw [(zlf h4).2]; exact Nat.lt_succ_self _
 ·rintro o ob l hx (hF | ⟨hs,hF⟩)
  ·by_cases ho:o<G.obs.length
   ·rw [lo o ho]at hx; exact hi.nF o ob l hx hF
   rw [hi' o (by omega)]at hx
   obtain ⟨ob0,ob2,h3,_⟩:=hN _ _ _ hx
   have h5:=newb _ _ h3
   have h6:=hi.fr _ hF
   simp only at h5
   omega
  by_cases ho:o<G.obs.length
  ·rw [lo o ho]at hx
   have:=hi.blk_lt hx
   simp only at this; omega
  rw [hi' o (by omega)]at hx
  obtain ⟨ob0,ob2,h3,_⟩:=hN _ _ _ hx
  exact i3.nF _ _ _ h3 hF
 ·intro o ob l hx
  by_cases ho:o<G.obs.length
  ·rw [lo o ho]at hx
   exact (hi.holds hx).next hi nx (n4.keep _ (hi.blk_lt hx) (by simp))
  rw [hi' o (by omega)]at hx
  obtain ⟨ob0,ob2,h3,h4,rfl⟩:=hN _ _ _ hx
  have hh:=i3.holds h3
  cases ob0 with
  | arr ver et sz cells =>
   simp only[zv8]at h4
   rw [qI]at h4
   obtain ⟨cs2,m1,rfl⟩:=h4
   obtain ⟨cs,q1,q2,q3,q4⟩:=hh
   obtain ⟨m2,m3⟩:=zby _ _ m1
   refine ⟨cs,q1,q2,by simp; omega,fun i p hp=>?_⟩
   rw [List.getElem?_map,qI]at hp
   obtain ⟨y,y1,rfl⟩:=hp
   obtain ⟨x,x1,x2⟩:=m3 i y y1
   obtain ⟨c1,v1,v2,v3⟩:=q4 i x x1
   exact ⟨ycn x2 c1,v1,v2,zlg beh hFF v3 x2⟩
  | map ver es =>
   simp only[zv8]at h4
   rw [qI]at h4
   obtain ⟨es2,m1,rfl⟩:=h4
   obtain ⟨ents,clock,q1,q2,q3⟩:=hh
   obtain ⟨m2,m3⟩:=zkq _ _ m1
   refine ⟨ents,clock,q1,by simp; omega,fun i k v hp=>?_⟩
   rw [List.getElem?_map,qI]at hp
   obtain ⟨y,y1,y2⟩:=hp
   cases y2
   obtain ⟨x,x1,x2⟩:=m3 i y y1
   obtain ⟨en,e1,e2,e3⟩:=q3 i x.1 x.2 x1
   rw [Option.bind_eq_some_iff]at x2
   obtain ⟨b1,b2,x2⟩:=x2
   rw [qI]at x2
   obtain ⟨b3,b4,x2⟩:=x2
   cases x2
   exact ⟨en,e1,zlg beh hFF e2 b2,zlg beh hFF e3 b4⟩
  | lp _ _ _ _=>simp [zv8]at h4
 rintro o o' ⟨ob,l⟩ ⟨ob',l'⟩ hx hx' e
 simp only at e
 by_cases ho:o<G.obs.length <;> by_cases ho':o'<G.obs.length
 ·rw [lo o ho]at hx; rw [lo o' ho']at hx'; exact hi.inj o o' _ _ hx hx' e
 ·rw [lo o ho]at hx; rw [hi' o' (by omega)]at hx'
  obtain ⟨ob0,ob2,h3,_⟩:=hN _ _ _ hx'
  have h5:=newb _ _ h3; have h6:=hi.blk_lt hx
  simp only at h5 h6; omega
 ·rw [hi' o (by omega)]at hx; rw [lo o' ho']at hx'
  obtain ⟨ob0,ob2,h3,_⟩:=hN _ _ _ hx
  have h5:=newb _ _ h3; have h6:=hi.blk_lt hx'
  simp only at h5 h6; omega
 rw [hi' o (by omega)]at hx; rw [hi' o' (by omega)]at hx'
 obtain ⟨ob0,ob2,h3,_⟩:=hN _ _ _ hx
 obtain ⟨ob0',ob2',h3',_⟩:=hN _ _ _ hx'
 have:=i3.inj _ _ _ _ h3 h3' e
 omega
theorem PN.of {f:FuncId} {fn:Func} {c:Code} (h:Fn P f fn c) (hT:zbh P T) (hm:P.follows .mixedOrders=true) {args:List PV} {r:PV} {obs:List Ob} {im:Bool} (hn:args.length≤fn.ntmps)
  (hw:W P T c (zeo T fn.results.toList fun v S=>∃ k,sh (S.take k) im 10 v=some r∧zhx (S.take k) im (S.take k).obs=some obs) (zaf args) ⟨[],0⟩):PN P f args r obs im :=
 Ev.of h hT hm hn (hw.mono fun x e S hx=>by
  have key:∀ (v:PV) (S:Store),(∃ k,sh (S.take k) im 10 v=some r∧zhx (S.take k) im (S.take k).obs=some obs) →
    ∃ k1 k,sh ((S.take k1).take k) im 10 v=some r∧zhx ((S.take k1).take k) im ((S.take k1).take k).obs=some obs:=by
   rintro v S ⟨k,h1,h2⟩
   have e:(S.take k).take k=S.take k:=by simp [Store.take,List.take_take]
   exact ⟨k,k,by rw [e]; exact h1,by rw [e]; exact h2⟩
  cases x <;> simp only[zeo,zhw]at hx ⊢ <;> (try exact hx)
  all_goals
   split at hx
   ·exact key _ _ hx
   exact hx)
theorem Ev.pc {f:FuncId} {args:List PV} {q:PV} {fr:Bool} {J:PV→Store→Prop} (h:Ev P f args ⟨[],0⟩ J) (hJ:∀ v S,J v S→reify S (!fr) 10 v=some q):PC P f args q fr:=by
 refine ⟨h.ent,fun F w cargs hF hl hv=>?_⟩
 have hi:Inv F ⟨[],0⟩ w:=⟨hF,by simp,by simp,by simp,by simp,by simp,by simp⟩
 refine (h.run F ⟨[],0⟩ w cargs rfl hi hl fun i p c q1 q2 => .imm _ _ (hv i p c q1 q2)).mono ?_
 rintro en w' ⟨v',cv,F',G',rfl,k2,k3,k4,k5⟩
 refine ⟨cv,rfl,⟨⟨k4.os,k4.tape,k4.output,k4.size,fun b hb=>k4.keep b hb (by simp)⟩,k4.drawn⟩,(zdn k3 k5 (hJ _ _ k2)).mono ?_ (fun _ _=>rfl)⟩
 rintro b (⟨h1,h2⟩ | ⟨o,x,hx,rfl⟩)
 ·rcases k4.fnew b h2 with h3 | h3 | ⟨o,x,hx,_⟩
  ·exact .inr ⟨by simpa using h1,h3⟩
  ·exact .inl ⟨h3,k3.fr b h2⟩
  simp at hx
 rcases k4.gnew o x hx with h3 | ⟨o',y,hy,_⟩
 ·exact .inl ⟨h3,k3.blk_lt hx⟩
 simp at hy
theorem PN.pc {f:FuncId} {args:List PV} {r q:PV} {obs:List Ob} {im fr:Bool} (h:PN P f args r obs im) (h1:args.mapM (reify ⟨[],0⟩ true 10)=some args)
  (hq:reify ⟨obs.map (z6d 0 0),1⟩ (!fr) 10 (up 0 0 10 r)=some q):PC P f args q fr :=
 Ev.pc (PN.ev h h1 (.inr h1)) (by rintro _ _ ⟨rfl,rfl⟩; simpa using hq)
variable {S:Store} {d:Option Tmp} {r:List Oper} {ds:List (Option Tmp)} {K:Env→Store→Prop}
theorem zac.pn {f:FuncId} {xs ts:List PV} {v:PV} {obs:List Ob} {im:Bool} (h:PN P f ts v obs im) (h1:xs.mapM (reify S true 10)=some ts) (h2:im=false∨xs.mapM (reify ⟨[],0⟩ true 10)=some ts)
  (k:za8 false P T ds r (e.put d (up S.obs.length S.tick 10 v)) ⟨S.obs++obs.map (z6d S.obs.length S.tick),S.tick+1⟩ K):zac false P T ds f xs S d r e K :=
 zac.ev (PN.ev h h1 h2) (by rintro _ _ ⟨rfl,rfl⟩; exact k)
end
theorem z0j {k t f o v off n:Nat}:up k t (f+1) (.loc o v off n) = .loc (o+k) t off n:=rfl
theorem yal {k t f o v off:Nat}:up k t (f+1) (.ref o v off) = .ref (o+k) t off:=rfl
theorem yam {k t f:Nat} {cs:List PV}:up k t (f+1) (.tup cs) = .tup (cs.map (up k t f)):=rfl
theorem z0i {k t f:Nat} {q:IntKind} {n:Int}:up k t f (.int q n) = .int q n:=by cases f <;> rfl
theorem zxw {k t f:Nat} {b:Bool}:up k t f (.bool b) = .bool b:=by cases f <;> rfl
theorem z6h {k t f:Nat} {b:List UInt8}:up k t f (.str b) = .str b:=by cases f <;> rfl
theorem z6g {k t f:Nat}:up k t f .nils = .nils:=by cases f <;> rfl
theorem z6f {k t f:Nat}:up k t f .nilp = .nilp:=by cases f <;> rfl
theorem ye6 {k t f n:Nat} {cs:List PV}:up k t f (.sl cs n) = .sl cs n:=by cases f <;> rfl
theorem ye5 {k t f n:Nat} {cs:List PV}:up k t f (.ip cs n) = .ip cs n:=by cases f <;> rfl
theorem zxx {k t f:Nat} {q:IntKind} {l:List Int}:(l.map (PV.int q)).map (up k t f)=l.map (PV.int q):=by
 rw [List.map_map]; exact List.map_congr_left fun a _=>z0i
theorem z6e {k t f:Nat} {q:IntKind} {l:List Nat}:(l.map fun m:Nat=>PV.int q m).map (up k t f)=l.map fun m:Nat=>PV.int q m:=by
 rw [List.map_map]; exact List.map_congr_left fun a _=>z0i
theorem z6i {k t f:Nat} {l:List (List UInt8)}:(l.map PV.str).map (up k t f)=l.map PV.str:=by
 rw [List.map_map]; exact List.map_congr_left fun a _=>z6h
theorem zsw {k t f:Nat} {l:List Bool}:(l.map PV.bool).map (up k t f)=l.map PV.bool:=by
 rw [List.map_map]; exact List.map_congr_left fun a _=>zxw
theorem zll {k t v et sz:Nat} {cells:List PV}:z6d k t (.arr v et sz cells) = .arr t et sz (cells.map (up k t 10)):=rfl
theorem RN:(type_of% @z0j)∧(type_of% @yal)∧(type_of% @yam)∧(type_of% @z0i)∧(type_of% @zxw)∧(type_of% @z6h)∧(type_of% @z6g)∧(type_of% @z6f)∧(type_of% @ye6)∧(type_of% @ye5)∧(type_of% @zxx)∧(type_of% @z6e)∧(type_of% @z6i)∧(type_of% @zsw)∧(type_of% @zll) :=
 ⟨@z0j,@yal,@yam,@z0i,@zxw,@z6h,@z6g,@z6f,@ye6,@ye5,@zxx,@z6e,@z6i,@zsw,@zll⟩
end
section
def rfq (S:Store) (fr:Nat→Bool):Nat→PV→Option PV
 | 0,_=>none
 | k+1,p =>
  match p with
  | .int a b=>some (.int a b)
  | .bool b=>some (.bool b)
  | .str s=>some (.str s)
  | .nilp=>some .nilp
  | .nilf=>some .nilf
  | .yl l=>some (.yl l)
  | .nilm=>some .nilm
  | .nils=>some .nils
  | .agg cs=>(cs.mapM (rfq S fr k)).map .agg
  | .tup cs=>(cs.mapM (rfq S fr k)).map .tup
  | .fn f cs=>(cs.mapM (rfq S fr k)).map (.fn f)
  | .sl cs n=>some (.sl cs n)
  | .ip cs off=>some (.ip cs off)
  | .bm f b=>some (.bm f b)
  | .loc o ver off n =>
   match S.obs[o]? with
   | some (.arr v _ sz cells)=>if fr o=true∧v=ver∧off+n*sz≤cells.length then (((cells.drop off).take (n*sz)).mapM (rfq S fr k)).map (.sl · n) else none
   | _=>none
  | .ref o ver off=>if fr o=true then (S.cellsOf o ver).bind fun cells=>(cells.mapM (rfq S fr k)).map (.ip · off) else none
  | _=>none
section
variable {P:Program} {T:Tab} {F:Nat→Prop} {G:GSt} {w:World} {e:Env} {a:Act}
def zrj (F:Nat→Prop) (G:GSt) (fr:Nat→Bool) (b:Nat):Prop:=F b∨∃ (o:Nat) (x:Ob × Lc),fr o=true∧G.obs[o]?=some x∧x.2.blk=b
theorem znq {S:Store} {fr:Nat→Bool}:∀ {k:Nat} {p t:PV},rfq S fr k p=some t→p.isCell=true→t.isCell=true
 | 0,p,t,h,_=>by simp [rfq]at h
 | k+1,p,t,h,hp=>by
  cases p <;> simp only[rfq]at h <;> first
   | (cases h; rfl)
   | (simp [PV.isCell]at hp; done)
   | (cases h; done)
   | (split at h <;> first | (cases h; rfl) | (cases h; done) | (split at h <;> first | (cases h; done) | (rw [qI]at h; obtain ⟨_,_,rfl⟩:=h; rfl)))
   | (rw [qI]at h; obtain ⟨_,_,rfl⟩:=h; rfl)
   | (split at h <;> first | (cases h; done) | (rw [Option.bind_eq_some_iff]at h; obtain ⟨_,_,h⟩:=h; rw [qI]at h; obtain ⟨_,_,rfl⟩:=h; rfl))
theorem zo7 (hi:Inv F G w) {fr:Nat→Bool}:∀ {k:Nat} {p t:PV} {cv:Value},VR w.heap F G p cv→rfq G.er fr k p=some t→VI w.heap (zrj F G fr) t cv
 | 0,p,t,cv,_,h=>by simp [rfq]at h
 | k+1,p,t,cv,hv,h=>by
  have cellsVI:∀ {b off:Nat} {cs ts:List PV},zcq w.heap F G b off cs→cs.mapM (rfq G.er fr k)=some ts →
    ∃ g:Nat→Value,(∀ (i:Nat) p,ts[i]?=some p→p.isCell=true∧zgy w.heap b (off+i)=some (g i))∧∀ (i:Nat) p,ts[i]?=some p→VI w.heap (zrj F G fr) p (g i):=by
   intro b off cs ts hc hm
   obtain ⟨h1,h2⟩:=zby _ _ hm
   refine ⟨fun i=>(zgy w.heap b (off+i)).getD undef,fun i p hp=>?_,fun i p hp=>?_⟩
   ·obtain ⟨x,h3,h4⟩:=h2 i p hp
    obtain ⟨h5,v,h6,h7⟩:=hc i x h3
    exact ⟨znq h4 h5,by simp [h6]⟩
   obtain ⟨x,h3,h4⟩:=h2 i p hp
   obtain ⟨h5,v,h6,h7⟩:=hc i x h3
   simp only[h6]
   exact zo7 hi h7 h4
  have rowVI:∀ {cs ts:List PV} {vs:Array Value},cs.length=vs.size→(∀ (i:Nat) p v,cs[i]?=some p→vs[i]?=some v→VR w.heap F G p v)→cs.mapM (rfq G.er fr k)=some ts →
    ts.length=vs.size∧∀ (i:Nat) p v,ts[i]?=some p→vs[i]?=some v→VI w.heap (zrj F G fr) p v:=by
   intro cs ts vs hl hp hm
   obtain ⟨h1,h2⟩:=zby _ _ hm
   refine ⟨by omega,fun i p v q1 q2=>?_⟩
   obtain ⟨x,h3,h4⟩:=h2 i p q1
   exact zo7 hi (hp i x v h3 q2) h4
  cases p with
  | int q n=>simp only[rfq]at h; cases h; rw [hv.int]; exact .int _ _
  | bool b=>simp only[rfq]at h; cases h; rw [hv.bool]; exact .bool _
  | str s=>simp only[rfq]at h; cases h; obtain ⟨b,rfl,hb⟩:=hv.str; exact .str _ _ hb
  | nilp=>simp only[rfq]at h; cases h; cases hv with | imm _ _ hv=>cases hv; exact .nilp
  | nilf=>simp only[rfq]at h; cases h; cases hv with | imm _ _ hv=>cases hv; exact .nilf
  | yl l=>simp only[rfq]at h; cases h; cases hv with | imm _ _ hv=>cases hv; exact .yl _
  | nilm=>simp only[rfq]at h; cases h; cases hv with | imm _ _ hv=>cases hv; exact .nilm
  | nils=>simp only[rfq]at h; cases h; cases hv with | imm _ _ hv=>cases hv; exact .nils
  | agg cs =>
   simp only[rfq]at h
   rw [qI]at h
   obtain ⟨ts,h1,rfl⟩:=h
   obtain ⟨vs,rfl,h2,h3⟩:=hv.agg'
   obtain ⟨h4,h5⟩:=rowVI h2 h3 h1
   exact .agg _ _ h4 h5
  | tup cs =>
   simp only[rfq]at h
   rw [qI]at h
   obtain ⟨ts,h1,rfl⟩:=h
   obtain ⟨vs,rfl,h2,h3⟩:=hv.tup'
   obtain ⟨h4,h5⟩:=rowVI h2 h3 h1
   exact .tup _ _ h4 h5
  | fn f cs =>
   simp only[rfq]at h
   rw [qI]at h
   obtain ⟨ts,h1,rfl⟩:=h
   have:∃ vs:Array Value,cv = .func (.func f) #[] vs∧cs.length=vs.size∧∀ (i:Nat) p v,cs[i]?=some p→vs[i]?=some v→VR w.heap F G p v:=by
    cases hv with
    | imm _ _ hv=>cases hv with | fn _ _ vs h2 h3=>exact ⟨vs,rfl,h2,fun i p v a b => .imm _ _ (h3 i p v a b)⟩
    | fn _ _ vs h2 h3=>exact ⟨vs,rfl,h2,h3⟩
   obtain ⟨vs,rfl,h2,h3⟩:=this
   obtain ⟨h4,h5⟩:=rowVI h2 h3 h1
   exact .fn _ _ _ h4 h5
  | sl cs n =>
   simp only[rfq]at h
   cases h
   cases hv with
   | imm _ _ hv=>exact hv.mono (fun b hb => .inl hb) (fun _ _=>rfl)
  | ip cs off =>
   simp only[rfq]at h
   cases h
   cases hv with
   | imm _ _ hv=>exact hv.mono (fun b hb => .inl hb) (fun _ _=>rfl)
  | bm f b =>
   simp only[rfq]at h
   cases h
   cases hv with
   | imm _ _ hv=>exact hv.mono (fun b hb => .inl hb) (fun _ _=>rfl)
  | loc o ver off n =>
   simp only[rfq]at h
   split at h
   ·rename_i v et sz cells hob
    split at h
    ·rename_i hc
     obtain ⟨hlo,rfl,hle⟩:=hc
     rw [qI]at h
     obtain ⟨ts,h1,rfl⟩:=h
     obtain ⟨_,_,l,cap,ho,rfl,_,hn,_⟩:=hv.loc_at hi (cells:=cells) (by simp [Store.cellsOf,hob])
     obtain ⟨l',hG⟩:=zfk hob
     rw [hG]at ho
     cases ho
     have hc2:zcq w.heap F G l.blk off ((cells.drop off).take (n*sz)):=by
      have:=((hi.cellsAt hG).drop off).take (n*sz)
      rwa [Nat.zero_add]at this
     obtain ⟨g,g1,g2⟩:=cellsVI hc2 h1
     exact .sl _ _ _ _ _ g (fun _ => .inr ⟨o,_,hlo,hG,rfl⟩) hn g1 g2
    cases h
   cases h
  | ref o ver off =>
   simp only[rfq]at h
   split at h
   case isFalse=>cases h
   rename_i hlo
   rw [Option.bind_eq_some_iff]at h
   obtain ⟨cells,hc,h⟩:=h
   rw [qI]at h
   obtain ⟨ts,h1,rfl⟩:=h
   obtain ⟨et,sz,l,hG,rfl,_⟩:=hv.ref_at hi hc
   obtain ⟨g,g1,g2⟩:=cellsVI (hi.cellsAt hG) h1
   have:=VI.ip (F:=zrj F G fr) ts off l.blk 0 g (fun _ => .inr ⟨o,_,hlo,hG,rfl⟩) g1 g2
   rwa [Nat.zero_add]at this
  | mp o ver=>simp only[rfq]at h; cases h
  | undef=>simp only[rfq]at h; cases h
def zeq (k:Nat) (sel:List Nat) (o:Nat):Bool:=decide (k≤o) && !sel.contains o
def rn (S:Store) (k:Nat) (sel:List Nat):Nat→PV→Option PV
 | 0,_=>none
 | f+1,p =>
  match p with
  | .agg cs=>(cs.mapM (rn S k sel f)).map .agg
  | .tup cs=>(cs.mapM (rn S k sel f)).map .tup
  | .fn g cs=>(cs.mapM (rn S k sel f)).map (.fn g)
  | .loc o ver off n =>
   if o<k then some (.loc o ver off n) else
   if sel.contains o then (match S.obs[o]? with | some (.arr v _ _ _)=>if v=ver then some (.loc (k+sel.idxOf o) S.tick off n) else none | _=>none)
   else rfq S (zeq k sel) 10 (.loc o ver off n)
  | .ref o ver off =>
   if o<k then some (.ref o ver off) else
   if sel.contains o then (match S.obs[o]? with | some (.arr v _ _ _)=>if v=ver then some (.ref (k+sel.idxOf o) S.tick off) else none | _=>none)
   else rfq S (zeq k sel) 10 (.ref o ver off)
  | .mp o ver =>
   if o<k then some (.mp o ver) else
   if sel.contains o then (match S.obs[o]? with | some (.map v _)=>if v=ver then some (.mp (k+sel.idxOf o) S.tick) else none | _=>none)
   else none
  | .undef=>some .undef
  | p=>rfq S (zeq k sel) 10 p
def z1w (S:Store) (k:Nat) (sel:List Nat) (old:Bool):Ob→Option Ob
 | .arr ver et sz cells=>(cells.mapM (rn S k sel 10)).map (.arr (if old then ver else S.tick) et sz ·)
 | .map ver es=>(es.mapM fun q=>(rn S k sel 10 q.1).bind fun a=>(rn S k sel 10 q.2).map fun b=>(a,b)).map (.map (if old then ver else S.tick) ·)
 | .lp ver l r tmps=>(tmps.mapM (rn S k sel 10)).map (.lp (if old then ver else S.tick) l r ·)
def zo9 (S:Store) (k:Nat) (sel:List Nat) (old:Bool):List Nat→Option (List Ob)
 | []=>some []
 | o::r=>((S.obs[o]?).bind (z1w S k sel old)).bind fun a=>(zo9 S k sel old r).map (a :: ·)
def Store.rn (S:Store) (k:Nat) (sel:List Nat):Option Store :=
 if sel.all (fun o=>decide (k≤o)) && decide sel.Nodup && decide (k≤S.obs.length) then
  (zo9 S k sel true (List.range k)).bind fun a=>(zo9 S k sel false sel).map fun b=>⟨a++b,S.tick+1⟩
 else none
theorem zui:∀ {l:List Nat},l.Nodup→∀ {i j:Nat} (hi:i<l.length) (hj:j<l.length),l[i]=l[j]→i=j
 | [],_,i,_,hi,_,_=>absurd hi (by simp)
 | a::l,h,0,0,_,_,_=>rfl
 | a::l,h,0,j+1,_,hj,e=>by
  rw [List.nodup_cons]at h
  simp only[List.getElem_cons_zero,List.getElem_cons_succ]at e
  exact absurd (e ▸ List.getElem_mem _) h.1
 | a::l,h,i+1,0,hi,_,e=>by
  rw [List.nodup_cons]at h
  simp only[List.getElem_cons_zero,List.getElem_cons_succ]at e
  exact absurd (e ▸ List.getElem_mem _) h.1
 | a::l,h,i+1,j+1,hi,hj,e=>by
  rw [List.nodup_cons]at h
  simp only[List.getElem_cons_succ]at e
  rw [zui h.2 (by simpa using hi) (by simpa using hj) e]
theorem zpa {S:Store} {k:Nat} {sel:List Nat} {old:Bool}:∀ {l:List Nat} {l':List Ob},zo9 S k sel old l=some l'→l.length=l'.length ∧
  ∀ (i:Nat) ob',l'[i]?=some ob'→∃ o ob,l[i]?=some o∧S.obs[o]?=some ob∧z1w S k sel old ob=some ob'
 | [],l',h=>by simp [zo9]at h; subst h; simp
 | o::l,l',h=>by
  simp only[zo9]at h
  rw [Option.bind_eq_some_iff]at h
  obtain ⟨a,h1,h⟩:=h
  rw [Option.bind_eq_some_iff]at h1
  obtain ⟨ob,h0,h1⟩:=h1
  rw [qI]at h
  obtain ⟨r,h2,rfl⟩:=h
  obtain ⟨h3,h4⟩:=zpa h2
  refine ⟨by simp [h3],?_⟩
  rintro (_ | i) ob' hi
  ·simp at hi; subst hi; exact ⟨o,ob,rfl,h0,h1⟩
  simp at hi; obtain ⟨o2,ob2,h5,h6⟩:=h4 i ob' hi; exact ⟨o2,ob2,by simpa using h5,h6⟩
theorem zo8 {S:Store} {k:Nat} {sel:List Nat} {old:Bool} {ob ob':Ob} (h:z1w S k sel old ob=some ob'):ob.like ob'∧ob'.ver=if old then ob.ver else S.tick:=by
 cases ob with
 | arr v et sz cells=>simp only[z1w]at h; rw [qI]at h; obtain ⟨_,_,rfl⟩:=h; simp [Ob.ver,Ob.like]
 | map v es=>simp only[z1w]at h; rw [qI]at h; obtain ⟨_,_,rfl⟩:=h; simp [Ob.ver,Ob.like]
 | lp _ _ _ _=>simp only[z1w]at h; rw [qI]at h; obtain ⟨_,_,rfl⟩:=h; simp [Ob.ver,Ob.like]
theorem ycg {S:Store} {k:Nat} {sel:List Nat}:∀ {f:Nat} {p t:PV},rn S k sel f p=some t→p.isCell=true→t.isCell=true
 | 0,p,t,h,_=>by simp [rn]at h
 | f+1,p,t,h,hp=>by
  cases p with
  | agg cs=>simp [PV.isCell]at hp
  | tup cs=>simp [PV.isCell]at hp
  | undef=>simp [PV.isCell]at hp
  | fn f cs=>simp only[rn]at h; rw [qI]at h; obtain ⟨_,_,rfl⟩:=h; rfl
  | loc o ver off n =>
   simp only[rn]at h
   split at h
   ·cases h; rfl
   split at h
   ·split at h
    ·split at h
     ·cases h; rfl
     cases h
    cases h
   exact znq h hp
  | ref o ver off =>
   simp only[rn]at h
   split at h
   ·cases h; rfl
   split at h
   ·split at h
    ·split at h
     ·cases h; rfl
     cases h
    cases h
   exact znq h hp
  | mp o ver =>
   simp only[rn]at h
   split at h
   ·cases h; rfl
   split at h
   ·split at h
    ·split at h
     ·cases h; rfl
     cases h
    cases h
   cases h
  | _=>simp only[rn]at h; exact znq h hp
structure Sel (G G':GSt) (k:Nat) (sel:List Nat):Prop where
 tick:G.tick<G'.tick
 get:∀ (o:Nat),sel.contains o=true→∀ ob l,G'.obs[k+sel.idxOf o]?=some (ob,l)→∃ ob',G.obs[o]?=some (ob',l)∧ob'.like ob∧ob.ver=G.tick
theorem zsp (hi:Inv F G w) {k:Nat} {sel:List Nat} {F':Nat→Prop} {G':GSt} (hF:∀ b,zrj F G (zeq k sel) b→F' b) (hn:Next F G w F' G' w) (hs:Sel G G' k sel) :
  ∀ {f:Nat} {p t:PV} {cv:Value},VR w.heap F G p cv→rn G.er k sel f p=some t→VR w.heap F' G' t cv
 | 0,p,t,cv,_,h=>by simp [rn]at h
 | f+1,p,t,cv,hv,h=>by
  have rowVR:∀ {cs ts:List PV} {vs:Array Value},cs.length=vs.size→(∀ (i:Nat) p v,cs[i]?=some p→vs[i]?=some v→VR w.heap F G p v)→cs.mapM (rn G.er k sel f)=some ts →
    ts.length=vs.size∧∀ (i:Nat) p v,ts[i]?=some p→vs[i]?=some v→VR w.heap F' G' p v:=by
   intro cs ts vs hl hp hm
   obtain ⟨h1,h2⟩:=zby _ _ hm
   refine ⟨by omega,fun i p v q1 q2=>?_⟩
   obtain ⟨x,h3,h4⟩:=h2 i p q1
   exact zsp hi hF hn hs (hp i x v h3 q2) h4
  have data:∀ {p:PV},VR w.heap F G p cv→rfq G.er (zeq k sel) 10 p=some t→VR w.heap F' G' t cv:=fun hv h => .imm _ _ ((zo7 hi hv h).mono hF fun _ _=>rfl)
  cases p with
  | agg cs =>
   simp only[rn]at h
   rw [qI]at h
   obtain ⟨ts,h1,rfl⟩:=h
   obtain ⟨vs,rfl,h2,h3⟩:=hv.agg'
   obtain ⟨h4,h5⟩:=rowVR h2 h3 h1
   exact .agg _ _ h4 h5
  | tup cs =>
   simp only[rn]at h
   rw [qI]at h
   obtain ⟨ts,h1,rfl⟩:=h
   obtain ⟨vs,rfl,h2,h3⟩:=hv.tup'
   obtain ⟨h4,h5⟩:=rowVR h2 h3 h1
   exact .tup _ _ h4 h5
  | fn g cs =>
   simp only[rn]at h
   rw [qI]at h
   obtain ⟨ts,h1,rfl⟩:=h
   have:∃ vs:Array Value,cv = .func (.func g) #[] vs∧cs.length=vs.size∧∀ (i:Nat) p v,cs[i]?=some p→vs[i]?=some v→VR w.heap F G p v:=by
    cases hv with
    | imm _ _ hv=>cases hv with | fn _ _ vs h2 h3=>exact ⟨vs,rfl,h2,fun i p v a b => .imm _ _ (h3 i p v a b)⟩
    | fn _ _ vs h2 h3=>exact ⟨vs,rfl,h2,h3⟩
   obtain ⟨vs,rfl,h2,h3⟩:=this
   obtain ⟨h4,h5⟩:=rowVR h2 h3 h1
   exact .fn _ _ _ h4 h5
  | loc o ver off n =>
   simp only[rn]at h
   split at h
   ·cases h; exact hv.next hi hn
   split at h
   case isFalse=>exact data hv h
   rename_i hc
   split at h
   case h_2=>cases h
   rename_i v et sz cells hob
   split at h
   case isFalse=>cases h
   rename_i hver
   cases h
   cases hv with
   | imm _ _ hv=>cases hv
   | loc _ _ _ _ a len cap hv k' =>
    refine .loc _ _ _ _ a len cap hs.tick fun ob l hg he=>?_
    obtain ⟨ob',h1,h2,h3⟩:=hs.get o hc ob l hg
    have hob':ob' = .arr v et sz cells:=by
     have:G.er.obs[o]?=some ob':=by simp [GSt.er,h1]
     rw [hob]at this; cases this; rfl
    subst hob'
    obtain ⟨et2,sz2,cells2,q1,q2⟩:=k' _ l h1 (by simp only[Ob.ver]; exact hver)
    cases q1
    cases ob with
    | arr v3 et3 sz3 cells3 =>
     simp only[Ob.like]at h2
     obtain ⟨rfl,rfl⟩:=h2
     exact ⟨_,_,cells3,by simp only[Ob.ver]at h3; rw [h3]; rfl,q2⟩
    | map v3 es=>exact h2.elim
    | lp _ _ _ _=>exact h2.elim
  | ref o ver off =>
   simp only[rn]at h
   split at h
   ·cases h; exact hv.next hi hn
   split at h
   case isFalse=>exact data hv h
   rename_i hc
   split at h
   case h_2=>cases h
   rename_i v et sz cells hob
   split at h
   case isFalse=>cases h
   rename_i hver
   cases h
   cases hv with
   | imm _ _ hv=>cases hv
   | ref _ _ _ a hv k' =>
    refine .ref _ _ _ a hs.tick fun ob l hg he=>?_
    obtain ⟨ob',h1,h2,h3⟩:=hs.get o hc ob l hg
    have hob':ob' = .arr v et sz cells:=by
     have:G.er.obs[o]?=some ob':=by simp [GSt.er,h1]
     rw [hob]at this; cases this; rfl
    subst hob'
    obtain ⟨et2,sz2,cells2,q1,q2⟩:=k' _ l h1 (by simp only[Ob.ver]; exact hver)
    cases q1
    cases ob with
    | arr v3 et3 sz3 cells3 =>
     simp only[Ob.like]at h2
     obtain ⟨rfl,rfl⟩:=h2
     exact ⟨_,_,cells3,by simp only[Ob.ver]at h3; rw [h3]; rfl,q2⟩
    | map v3 es=>exact h2.elim
    | lp _ _ _ _=>exact h2.elim
  | mp o ver =>
   simp only[rn]at h
   split at h
   ·cases h; exact hv.next hi hn
   split at h
   case isFalse=>cases h
   rename_i hc
   split at h
   case h_2=>cases h
   rename_i v es hob
   split at h
   case isFalse=>cases h
   rename_i hver
   cases h
   cases hv with
   | imm _ _ hv=>cases hv
   | mp _ _ r hv k' =>
    refine .mp _ _ r hs.tick fun ob l hg he=>?_
    obtain ⟨ob',h1,h2,h3⟩:=hs.get o hc ob l hg
    have hob':ob' = .map v es:=by
     have:G.er.obs[o]?=some ob':=by simp [GSt.er,h1]
     rw [hob]at this; cases this; rfl
    subst hob'
    obtain ⟨es2,q1,q2⟩:=k' _ l h1 (by simp only[Ob.ver]; exact hver)
    cases q1
    cases ob with
    | arr v3 et3 sz3 cells3=>exact h2.elim
    | map v3 es3=>exact ⟨es3,by simp only[Ob.ver]at h3; rw [h3]; rfl,q2⟩
    | lp _ _ _ _=>exact h2.elim
  | undef=>simp only[rn]at h; cases h; exact .imm _ _ (.undef _)
  | _=>simp only[rn]at h; exact data hv h
theorem yci (hi:Inv F G w) {k:Nat} {sel:List Nat} {S':Store} (h:G.er.rn k sel=some S') :
  ∃ G',G'.er=S'∧Inv (zrj F G (zeq k sel)) G' w∧Next F G w (zrj F G (zeq k sel)) G' w∧Sel G G' k sel:=by
 unfold Store.rn at h
 split at h
 case isFalse=>cases h
 rename_i hc
 simp only[qB,List.all_eq_true,decide_eq_true_eq]at hc
 obtain ⟨⟨hge,hnd⟩,hkl⟩:=hc
 rw [Option.bind_eq_some_iff]at h
 obtain ⟨A,hA,h⟩:=h
 rw [qI]at h
 obtain ⟨B,hB,rfl⟩:=h
 obtain ⟨a1,a2⟩:=zpa hA
 obtain ⟨b1,b2⟩:=zpa hB
 rw [List.length_range]at a1
 have hlen:G.er.obs.length=G.obs.length:=by simp [GSt.er]
 rw [hlen]at hkl
 have er_get':∀ {o:Nat} {ob:Ob},G.er.obs[o]?=some ob→∃ l,G.obs[o]?=some (ob,l):=fun h=>zfk h
 -- where the objects lie
 let lcOf:Nat→Lc:=fun i=>((G.obs[if i<k then i else sel.getD (i - k) 0]?).map (·.2)).getD ⟨0,0⟩
 let G':GSt:=⟨(A++B).zipIdx.map fun q=>(q.1,lcOf q.2),G.tick+1⟩
 have hget:∀ (i:Nat) ob' l,G'.obs[i]?=some (ob',l)→∃ o ob,(if i<k then i else sel.getD (i - k) 0)=o∧(i<k∨sel[i - k]?=some o)∧G.obs[o]?=some (ob,l)∧z1w G.er k sel (decide (i<k)) ob=some ob':=by
  intro i ob' l hx
  simp only[G',List.getElem?_map,qI,List.getElem?_zipIdx]at hx
  obtain ⟨q,⟨ob2,hq,rfl⟩,e⟩:=hx
  simp only[Nat.zero_add,Prod.mk.injEq]at e
  obtain ⟨rfl,e⟩:=e
  by_cases hik:i<k
  ·rw [List.getElem?_append_left (by omega)]at hq
   obtain ⟨o,ob,h1,h2,h3⟩:=a2 i _ hq
   rw [List.getElem?_range hik]at h1
   cases h1
   obtain ⟨l2,h4⟩:=er_get' h2
   have:lcOf i=l2:=by simp [lcOf,hik,h4]
   rw [this]at e; subst e
   exact ⟨i,ob,by simp [hik],.inl hik,h4,by simpa [hik] using h3⟩
  rw [List.getElem?_append_right (by omega),← a1]at hq
  obtain ⟨o,ob,h1,h2,h3⟩:=b2 _ _ hq
  obtain ⟨l2,h4⟩:=er_get' h2
  have hsel:sel.getD (i - k) 0=o:=by simp [List.getD_eq_getElem?_getD,h1]
  have:lcOf i=l2:=by simp only[lcOf,if_neg hik,hsel,h4]; rfl
  rw [this]at e; subst e
  exact ⟨o,ob,by rw [if_neg hik,hsel],.inr h1,h4,by simpa [hik] using h3⟩
 have hn:Next F G w (zrj F G (zeq k sel)) G' w:=by
  refine ⟨rfl,rfl,rfl,qR _,fun b hb => .inl hb,?_,?_,Nat.le_succ _,fun _ _ _=>rfl,?_,qR _⟩
  ·rintro b (hb | ⟨o,x,_,hx,rfl⟩)
   ·exact .inl hb
   exact .inr (.inr ⟨o,x,hx,rfl⟩)
  ·rintro i ⟨ob',l⟩ hx
   obtain ⟨o,ob,_,_,h4,_⟩:=hget i ob' l hx
   exact .inr ⟨o,_,h4,rfl⟩
  intro i ob' l hx hver
  obtain ⟨o,ob,h1,h2,h4,h5⟩:=hget i ob' l hx
  obtain ⟨h6,h7⟩:=zo8 h5
  by_cases hik:i<k
  ·rw [if_pos hik]at h1; subst h1
   simp only[hik,decide_true,if_true]at h7
   exact ⟨ob,h4,h7.symm,h6⟩
  simp only[hik,decide_false,qF,if_false]at h7
  have:G.er.tick=G.tick:=rfl
  omega
 have hs:Sel G G' k sel:=by
  refine ⟨Nat.lt_succ_self _,fun o hc ob l hx=>?_⟩
  obtain ⟨o2,ob2,h1,h2,h4,h5⟩:=hget _ ob l hx
  have hnk:¬ k+sel.idxOf o<k:=by omega
  rcases h2 with h2 | h2
  ·exact absurd h2 hnk
  rw [Nat.add_sub_cancel_left]at h2
  have hmem:o∈sel:=by simpa using hc
  have hlt:=List.idxOf_lt_length_of_mem hmem
  rw [List.getElem?_eq_getElem hlt,List.getElem_idxOf hlt]at h2
  cases h2
  obtain ⟨h6,h7⟩:=zo8 h5
  simp only[hnk,decide_false,qF,if_false]at h7
  exact ⟨ob2,h4,h6,h7⟩
 have hsound:∀ {f:Nat} {p t:PV} {cv:Value},VR w.heap F G p cv→rn G.er k sel f p=some t→VR w.heap (zrj F G (zeq k sel)) G' t cv:=fun hv h=>zsp hi (fun _ h=>h) hn hs hv h
 refine ⟨G',?_,zh9 ?_ ?_ ?_ ?_ ?_,hn,hs⟩
 ·simp only[GSt.er,G',Store.mk.injEq,and_true]
  apply List.ext_getElem
  ·simp
  intro i a b; simp
 ·rintro b (hb | ⟨o,x,_,hx,rfl⟩)
  ·exact hi.fr b hb
  exact hi.blk_lt hx
 ·intro i ob' l hx
  obtain ⟨o,ob,h1,h2,h4,h5⟩:=hget i ob' l hx
  obtain ⟨h6,h7⟩:=zo8 h5
  have h8:=hi.ver o ob l h4
  have:G.er.tick=G.tick:=rfl
  show ob'.ver<G.tick+1
  rw [h7]; split <;> omega
 ·intro i ob' l hx hb
  obtain ⟨o,ob,h1,h2,h4,h5⟩:=hget i ob' l hx
  rcases hb with hb | ⟨o',x,hfr,hx',e⟩
  ·exact hi.nF o ob l h4 hb
  have:=hi.inj o' o _ _ hx' h4 e
  subst this
  simp only[zeq,qB,decide_eq_true_eq,Bool.not_eq_true',List.contains_eq_mem,decide_eq_false_iff_not]at hfr
  rcases h2 with h2 | h2
  ·rw [if_pos h2]at h1; omega
  exact hfr.2 (List.mem_of_getElem? h2)
 ·intro i ob' l hx
  obtain ⟨o,ob,h1,h2,h4,h5⟩:=hget i ob' l hx
  have hh:=hi.holds h4
  cases ob with
  | arr v et2 sz2 cells2 =>
   simp only[z1w]at h5
   rw [qI]at h5
   obtain ⟨cs',k3,rfl⟩:=h5
   obtain ⟨m1,m2⟩:=zby _ _ k3
   obtain ⟨cs,q1,q2,q3,q4⟩:=hh
   refine ⟨cs,q1,q2,by omega,fun i p hp=>?_⟩
   obtain ⟨x,x1,x2⟩:=m2 i p hp
   obtain ⟨c1,v1,v2,v3⟩:=q4 i x x1
   exact ⟨ycg x2 c1,v1,v2,hsound v3 x2⟩
  | map v es2 =>
   simp only[z1w]at h5
   rw [qI]at h5
   obtain ⟨es',k3,rfl⟩:=h5
   obtain ⟨m1,m2⟩:=zkq _ _ k3
   obtain ⟨ents,clock,q1,q2,q3⟩:=hh
   refine ⟨ents,clock,q1,by omega,fun i k v hp=>?_⟩
   obtain ⟨x,x1,x2⟩:=m2 i (k,v) hp
   obtain ⟨en,e1,e2,e3⟩:=q3 i x.1 x.2 x1
   rw [Option.bind_eq_some_iff]at x2
   obtain ⟨a,y1,y2⟩:=x2
   rw [qI]at y2
   obtain ⟨b,y3,y4⟩:=y2
   cases y4
   exact ⟨en,e1,hsound e2 y1,hsound e3 y3⟩
  | lp v b2 r2 tmps2 =>
   simp only[z1w]at h5
   rw [qI]at h5
   obtain ⟨cs',k3,rfl⟩:=h5
   obtain ⟨m1,m2⟩:=zby _ _ k3
   obtain ⟨q0,t,q1,q2,q3⟩:=hh
   refine ⟨q0,t,q1,⟨q2.1,by omega⟩,fun i p v hp hv=>?_⟩
   obtain ⟨x,x1,x2⟩:=m2 i p hp
   exact hsound (q3 i x v x1 hv) x2
 rintro i i' ⟨ob,l⟩ ⟨ob',l'⟩ hx hx' e
 obtain ⟨o,a,h1,h2,h3,_⟩:=hget i _ _ hx
 obtain ⟨o',a',h1',h2',h3',_⟩:=hget i' _ _ hx'
 have:=hi.inj o o' _ _ h3 h3' e
 subst this
 rcases h2 with h2 | h2 <;> rcases h2' with h2' | h2'
 ·rw [if_pos h2]at h1; rw [if_pos h2']at h1'; omega
 ·rw [if_pos h2]at h1
  have:=hge o (List.mem_of_getElem? h2')
  omega
 ·rw [if_pos h2']at h1'
  have:=hge o (List.mem_of_getElem? h2)
  omega
 have l1:=(List.getElem?_eq_some_iff.1 h2)
 have l2:=(List.getElem?_eq_some_iff.1 h2')
 obtain ⟨l1,e1⟩:=l1
 obtain ⟨l2,e2⟩:=l2
 have:=zui hnd l1 l2 (e1.trans e2.symm)
 by_cases c1:i<k
 ·rw [if_pos c1]at h1; have:=hge o (List.mem_of_getElem? h2); omega
 by_cases c2:i'<k
 ·rw [if_pos c2]at h1'; have:=hge o (List.mem_of_getElem? h2'); omega
 omega
variable {Q:Exit→Env→Store→Prop} {S:Store} {a b c:Code}
def z2h (L:List Nat) (I:List PV→Store→Prop) (e:Env) (S:Store):Prop :=
 ∃ k sel vs S',(L.map e).mapM (rn S k sel 10)=some vs∧S.rn k sel=some S'∧I vs S'
theorem zqe (hi:Inv F G w) {e:Env} {act:Act} (he:zeu w.heap F G e act) {L:List Nat} {I:List PV→Store→Prop} (h:z2h L I e G.er) :
  ∃ vs F' G',I vs G'.er∧vs.length=L.length∧Inv F' G' w∧Next F G w F' G' w∧zeu w.heap F' G' (Env.of L vs) act:=by
 obtain ⟨k,sel,vs,S',h1,h2,h3⟩:=h
 obtain ⟨G',rfl,k2,k3,k4⟩:=yci hi h2
 obtain ⟨m1,m2⟩:=zby _ _ h1
 refine ⟨vs,_,G',h3,by rw [← m1]; simp,k2,k3,zr4 L vs (by rw [← m1]; simp) fun i t v q1 q2=>?_⟩
 obtain ⟨x,x1,x2⟩:=m2 i v q2
 rw [List.getElem?_map,q1]at x1
 cases x1
 exact zsp hi (fun _ h=>h) k3 k4 (he t) x2
theorem W.foldS (L:List Nat) {I:List PV→Store→Prop} (hI:z2h L I e S) (h:∀ vs S,vs.length=L.length→I vs S→W P T c Q (Env.of L vs) S):W P T c Q e S:=by
 refine ⟨?_⟩
 intro hT hm F0 G0 w0 N F G a w h3 h4 h5 h6 h7 h8 h9 R nn
 subst h3
 obtain ⟨vs,F',G',k1,k2,k3,k4,k5⟩:=zqe h4 h5 hI
 exact (h vs _ k2 k1).run hT hm F0 G0 w0 N F' G' a w rfl k3 k5 (h6.trans k4) h7 h8 h9
theorem W.joinS (L:List Nat) (I:List PV→Store→Prop) (h:W P T a (XThen (z2h L I) Q) e S) (k:∀ vs S,vs.length=L.length→I vs S→W P T b Q (Env.of L vs) S):W P T (.seq a b) Q e S:=by
 refine W.seq (h.mono ?_)
 intro x e S hx
 cases x with
 | normal=>exact W.foldS L hx k
 | _=>exact hx
theorem W.loopS (L:List Nat) (I:Nat→List PV→Store→Prop) (n:Nat) (h0:z2h L (I n) e S)
  (h:∀ n vs S,vs.length=L.length→I n vs S→W P T c (XThen (fun e S=>∃ m,m<n∧z2h L (I m) e S) Q) (Env.of L vs) S):W P T (.loop c) Q e S:=by
 refine W.foldS L h0 fun vs S hl hI=>?_
 refine ⟨?_⟩
 intro hT hm F0 G0 w0 N F G a w h3 h4 h5 h6 h7 h8 h9 R nn
 refine wpIn_loop_rounds (n+1) ?_
 clear h0
 induction n using Nat.strongRecOn generalizing vs S F G a w with
 | _ n ih =>
  refine wpIn_mono ((h n vs S hl hI).run hT hm F0 G0 w0 N F G a w h3 h4 h5 h6 h7 h8 (by simpa [zfz] using h9)) ?_
  rintro x a' w' ⟨e',F',G',k1,k2,k3,k4,k5,k6⟩
  cases x with
  | normal =>
   obtain ⟨m,hmn,hk⟩:=k1
   obtain ⟨vs',F2,G2,q1,q2,q3,q4,q5⟩:=zqe k2 k3 hk
   exact zj0 (by omega) _ _ (ih m hmn vs' _ q2 q1 F2 G2 a' w' rfl q3 q5 (k4.trans q4) k5 k6)
  | _=>exact ⟨e',F',G',k1,k2,k3,k4,k5,k6⟩
end
end
section
section
variable {P:Program} {T:Tab}
def More (S S':Store):Prop:=∀ (o:Nat) x,S.obs[o]?=some x→S'.obs[o]?=some x
theorem More.cells {S S':Store} (h:More S S') {o ver:Nat} {c:List PV} (hc:S.cellsOf o ver=some c):S'.cellsOf o ver=some c:=by
 unfold Store.cellsOf at hc ⊢
 cases ho:S.obs[o]? with
 | none=>rw [ho]at hc; cases hc
 | some x=>rw [ho]at hc; rw [h o x ho]; exact hc
theorem More.push {S:Store} {et sz:Nat} {cells:List PV}:More S (S.push et sz cells):=by
 intro o x hx
 have:=(List.getElem?_eq_some_iff.1 hx).1
 simp only[Store.push]
 rw [List.getElem?_append_left this]; exact hx
def zkr:Op→Bool
 | .load .. | .nilCheck _ | .fieldAddr .. | .indexAddr .. => true
 | .call ⟨.builtin .len,_,_⟩ | .call ⟨.builtin .max,_,_⟩ | .call ⟨.builtin .min,_,_⟩=>true
 | o=>zl8 o
theorem zug {S S':Store} (hm:More S S') {e:Env} {o:Op} {v:PV} (h:zkr o=true) (hv:zc3 T S e o=some v):zc3 T S' e o=some v:=by
 unfold zkr at h
 split at h
 ·rename_i t x
  simp only[zc3,zr8]at hv ⊢
  split at hv
  ·exact hv
  ·rename_i o ver off hx
   rw [Option.bind_eq_some_iff]at hv
   obtain ⟨c,h1,h2⟩:=hv
   rw [hm.cells h1]; exact h2
  cases hv
 ·rename_i x
  simp only[zc3,zf5]at hv ⊢
  split at hv
  ·exact hv
  ·rw [qI]at hv
   obtain ⟨c,h1,h2⟩:=hv
   rw [hm.cells h1]; simpa using h2
  ·exact hv
  cases hv
 ·rename_i t x f
  simp only[zc3,zez]at hv ⊢
  split at hv
  ·split at hv
   ·exact hv
   ·split at hv
    ·cases hv
    rename_i hz
    rw [if_neg hz]
    rw [qI]at hv
    obtain ⟨c,h1,h2⟩:=hv
    rw [hm.cells h1]; simpa using h2
   cases hv
  cases hv
 ·rename_i t x i
  simp only[zc3,ze0]at hv ⊢
  split at hv
  ·split at hv
   ·exact hv
   ·rw [Option.bind_eq_some_iff]at hv
    obtain ⟨c,h1,h2⟩:=hv
    rw [hm.cells h1]; exact h2
   ·rw [Option.bind_eq_some_iff]at hv
    obtain ⟨c,h1,h2⟩:=hv
    rw [hm.cells h1]; exact h2
   ·exact hv
   cases hv
  cases hv
 ·simp only[zc3,zeh]at hv ⊢
  split at hv
  ·simp only[ydd]at hv ⊢
   split at hv <;> first
    | exact hv
    | (rw [qI]at hv; obtain ⟨c,h1,h2⟩:=hv; rw [hm.cells h1]; simpa using h2; done)
    | skip
   rename_i o ver _ _
   cases ho:S.obs[o]? with
   | none=>rw [ho]at hv; cases hv
   | some x=>rw [ho]at hv; rw [hm o x ho]; exact hv
  cases hv
 ·exact hv
 ·exact hv
 rw [← zq8 (T:=T) (S:=S) (S':=S') h]; exact hv
theorem yby {S S':Store} (hm:More S S') {e:Env} {o:Op} {v:PV} (h:zkr o=true) (hv:pFl P T S e o v):pFl P T S' e o v:=by
 cases o with
 | call c =>
  obtain ⟨cal,xs,ts⟩:=c
  cases cal with
  | value f=>simp [zkr,zl8]at h
  | _=>simp only[pFl]at hv ⊢; exact zug hm h hv
 | _=>simp only[pFl]at hv ⊢; exact zug hm h hv
variable (P T)
def zj9 (ops:Array Oper) (effs pend:List Nat) (t d:Nat) (Q:Env→Store→Prop) (l:List Nat) (e:Env) (S:Store):Prop :=
 (T t).kd ≠ .none∧zc5 P T ops effs pend [] Q l (e.put (some d) (.ref S.obs.length S.tick 0)) (S.push t (T t).size (T t).zero)
def zfq (ops:Array Oper) (effs pend:List Nat) (t d:Nat) (Q:Env→Store→Prop) (l2:List Nat):List Nat→Env→Store→Prop
 | [],e,S=>zj9 P T ops effs pend t d Q l2 e S
 | i::r,e,S =>
  match ops[i]? with
  | none=>False
  | some o=>(if effs.contains i then zj9 P T ops effs pend t d Q (i::(r++l2)) e S else True)∧zdg ops o e
    (if effs.contains i then pOp P T e S o.op fun v S'=>zfq ops effs pend t d Q l2 r (e.put o.dst v) S' else z2d P T S e o.op fun v=>(if pend.contains i then Stable P T [] S e o.op v else True)∧zfq ops effs pend t d Q l2 r (e.put o.dst v) S)
    (zfq ops effs pend t d Q l2 r (e.put o.dst (.tup [])) S)
variable {P T}
def zpx (ops:Array Oper) (d:Nat) (p:Oper):Bool := !(p.looksAt ops).contains d && p.dst != some d
variable {ops:Array Oper} {effs pend:List Nat} {t d:Nat} {Q:Env→Store→Prop} {l2:List Nat}
theorem zjs:∀ {l:List Nat} {e:Env} {S:Store},(∀ x∈l,∃ p,ops[x]?=some p∧(effs.contains x=true∨(zkr p.op=true∧zpx ops d p=true))) →
  zfq P T ops effs pend t d Q l2 l e S→zj9 P T ops effs pend t d Q (l++l2) e S
 | [],e,S,_,h=>h
 | i::r,e,S,hl,h=>by
  obtain ⟨p,hp,hc⟩:=hl i (by simp)
  simp only[zfq,hp]at h
  cases hi:effs.contains i with
  | true=>rw [hi]at h; simpa using h.1
  | false =>
   rw [hi]at h hc
   simp only[qF,if_false,false_or]at h hc
   obtain ⟨hmono,hap⟩:=hc
   simp only[zpx,qB,Bool.not_eq_true',List.contains_eq_mem,decide_eq_false_iff_not,bne_iff_ne,ne_eq]at hap
   obtain ⟨hap1,hap2⟩:=hap
   have look:∀ u:PV,∀ x,x∈p.looksAt ops→e x=(e.put (some d) u) x:=fun u x hx=>(zdz fun h=>hap1 (by cases h; exact hx)).symm
   have comm:∀ v u:PV,(e.put p.dst v).put (some d) u=(e.put (some d) u).put p.dst v:=fun v u=>zsg fun t h1 h2=>hap2 (by rw [h1]; exact h2.symm)
   have rest:=fun x hx=>hl x (List.mem_cons_of_mem i hx)
   have ih:∀ {e},zfq P T ops effs pend t d Q l2 r e S→zj9 P T ops effs pend t d Q (r++l2) e S:=zjs rest
   have h:=h.2
   rw [List.cons_append]
   unfold zj9
   simp only[zc5,hp,hi,qF,if_false]
   unfold zdg at h ⊢
   rw [← zg1 (look _)]
   cases hg:gdec ops p e with
   | none=>rw [hg]at h; exact h.elim
   | some b =>
    rw [hg]at h
    cases b with
    | true =>
     simp only at h ⊢
     rw [zcf]at h
     obtain ⟨v,h1,h3,h2⟩:=h
     obtain ⟨k1,k2⟩:=ih h2
     refine ⟨k1,?_⟩
     rw [zcf]
     refine ⟨v,(zg5 (zdk (look _))).1 (yby More.push hmono h1),?_,by rw [← comm]; exact k2⟩
     split
     ·rename_i hc
      rw [if_pos hc]at h3
      exact fun S' _=>(zg5 (zdk (look _))).1 (h3 S' (by intro o ho; cases ho))
     trivial
    | false =>
     simp only at h ⊢
     obtain ⟨k1,k2⟩:=ih h
     exact ⟨k1,by rw [← comm]; exact k2⟩
theorem zj9.imp {l l':List Nat} {e:Env} {S:Store} (h:∀ e S,zc5 P T ops effs pend [] Q l e S→zc5 P T ops effs pend [] Q l' e S) (k:zj9 P T ops effs pend t d Q l e S):zj9 P T ops effs pend t d Q l' e S:=⟨k.1,h _ _ k.2⟩
theorem z1k {x:Nat} {r r':List Nat} (hd:∀ e S,zc5 P T ops effs pend [] Q (r++l2) e S→zc5 P T ops effs pend [] Q (r'++l2) e S) (h:∀ e S,zfq P T ops effs pend t d Q l2 r e S→zfq P T ops effs pend t d Q l2 r' e S) {e:Env} {S:Store}
  (k:zfq P T ops effs pend t d Q l2 (x::r) e S):zfq P T ops effs pend t d Q l2 (x::r') e S:=by
 simp only[zfq]at k ⊢
 cases ho:ops[x]? with
 | none=>rw [ho]at k; exact k
 | some o =>
  rw [ho]at k
  simp only at k ⊢
  refine ⟨?_,?_⟩
  ·have k1:=k.1
   split at k1
   ·rename_i hc; rw [if_pos hc]; exact k1.imp fun e S=>zqy hd
   rename_i hc; rw [if_neg hc]; trivial
  replace k:=k.2
  unfold zdg at k ⊢
  split
  ·rename_i hg
   rw [hg]at k
   simp only at k
   split
   ·rename_i hc; rw [if_pos hc]at k; exact zdu (fun v S' q=>h _ _ q) k
   rename_i hc
   rw [if_neg hc]at k
   rw [zcf]at k ⊢
   obtain ⟨v,k1,k2,k3⟩:=k
   exact ⟨v,k1,k2,h _ _ k3⟩
  ·rename_i hg
   rw [hg]at k
   exact h _ _ k
  rename_i hg; rw [hg]at k; exact k
theorem z1j {x i:Nat} {r:List Nat} {e:Env} {S:Store} {p q:Oper} (hp:ops[x]?=some p) (hq:ops[i]?=some q)
  (hx:effs.contains x=false) (hap:Oper.apart ops p q=true) (hpend:effs.contains i=true→(pend.contains x=true∧pend.contains i=false)∨zl8 p.op=true)
  (hall:∀ y∈x::i::r,∃ p,ops[y]?=some p∧(effs.contains y=true∨(zkr p.op=true∧zpx ops d p=true)))
  (k:zfq P T ops effs pend t d Q l2 (x::i::r) e S):zfq P T ops effs pend t d Q l2 (i::x::r) e S:=by
 have kA:=zjs hall k
 have kA2:zj9 P T ops effs pend t d Q (i::x::(r++l2)) e S:=kA.imp fun e S=>zqx hp hq hx hap hpend
 obtain ⟨a1,a2,a3⟩:=Oper.apart_spec hap
 have lookq:∀ v,∀ t,t∈q.looksAt ops→(e.put p.dst v) t=e t:=fun v t ht=>zdz fun h=>a1 t h ht
 have lookp:∀ v,∀ t,t∈p.looksAt ops→(e.put q.dst v) t=e t:=fun v t ht=>zdz fun h=>a3 t h ht
 have comm:∀ v u,(e.put p.dst v).put q.dst u=(e.put q.dst u).put p.dst v:=fun v u=>zsg fun t h1 h2=>a2 t h1 h2
 simp only[zfq,hp,hq,hx,if_false,qF,true_and,List.cons_append]at k ⊢
 refine ⟨by split <;> first | exact kA2 | trivial,?_⟩
 unfold zdg at k ⊢
 have gq:∀ v,gdec ops q (e.put p.dst v)=gdec ops q e:=fun v=>zg1 (lookq v)
 have gp:∀ v,gdec ops p (e.put q.dst v)=gdec ops p e:=fun v=>zg1 (lookp v)
 simp only[gq,gp]at k ⊢
 have flp:∀ {S v u},pFl P T S (e.put q.dst v) p.op u↔pFl P T S e p.op u:=zg5 (zdk (lookp _))
 have flq:∀ {S v u},pFl P T S (e.put p.dst v) q.op u↔pFl P T S e q.op u:=zg5 (zdk (lookq _))
 have opq:∀ {S v K},pOp P T (e.put p.dst v) S q.op K=pOp P T e S q.op K:=zuy (zdk (lookq _))
 simp only[zcf,flp,flq,opq,comm,Stable]at k ⊢
 cases hgp:gdec ops p e with
 | none=>rw [hgp]at k; exact k.elim
 | some bp =>
  rw [hgp]at k
  cases bp with
  | true =>
   obtain ⟨v,k1,k2,k3⟩:=k
   replace k3:=k3.2
   cases hgq:gdec ops q e with
   | none=>rw [hgq]at k3; exact k3.elim
   | some bq =>
    rw [hgq]at k3
    cases bq with
    | true =>
     simp only at k3 ⊢
     split
     ·rename_i hc
      rw [if_pos hc]at k3
      refine zdu (fun u S' hu=>⟨v,?_,?_,hu⟩) k3
      ·rcases hpend hc with ⟨h1,_⟩ | h1
       ·rw [if_pos h1]at k2; exact k2 S' (by intro o ho; cases ho)
       exact zsr h1 k1
      split
      ·rename_i h1
       rw [if_pos h1]at k2
       exact fun S'' _=>k2 S'' (by intro o ho; cases ho)
      trivial
     rename_i hc
     rw [if_neg hc]at k3
     obtain ⟨u,h1,h2,h3⟩:=k3
     exact ⟨u,h1,h2,v,k1,k2,h3⟩
    | false=>exact ⟨v,k1,k2,k3⟩
  | false =>
   simp only at k ⊢
   exact k.2
theorem zoz {i:Nat} {q:Oper} (hq:ops[i]?=some q) {l3:List Nat} :
  ∀ (l1:List Nat) {e:Env} {S:Store},(∀ x∈l1,∃ p,ops[x]?=some p∧effs.contains x=false∧Oper.apart ops p q=true∧(effs.contains i=true→(pend.contains x=true∧pend.contains i=false)∨zl8 p.op=true)) →
   (∀ y∈l1++i::l3,∃ p,ops[y]?=some p∧(effs.contains y=true∨(zkr p.op=true∧zpx ops d p=true))) →
   zfq P T ops effs pend t d Q l2 (l1++i::l3) e S→zfq P T ops effs pend t d Q l2 (i::(l1++l3)) e S
 | [],e,S,_,_,h=>h
 | x::l1,e,S,hx,hall,h=>by
  obtain ⟨p,h1,h2,h3,h4⟩:=hx x (by simp)
  refine z1j h1 hq h2 h3 h4 (fun y hy=>hall y ?_) (z1k (fun e S h=>by
   rw [List.cons_append,List.append_assoc]
   rw [List.append_assoc,List.cons_append]at h
   exact zjr hq l1 (fun y hy=>by
    obtain ⟨p,k1,k2,k3,k4⟩:=hx y (by simp [hy])
    exact ⟨p,k1,k2,k3,k4⟩) h) (fun e S=>zoz hq l1 (fun y hy=>hx y (by simp [hy])) fun y hy=>hall y (by simp at hy ⊢; exact .inr hy)) h)
  simp at hy ⊢
  rcases hy with h | h | h | h <;> simp [h]
variable {F0:Nat→Prop} {G0:GSt} {w0:World} {N:Nat}
theorem z1f {R:Option Nat} {nn:Nat} (hT:zbh P T) {c:Bool} {i:Nat} {o:Oper} (ho:ops[i]?=some o) {e:Env} {F:Nat→Prop} {G:GSt} {a:Act} {w:World} {Z:Env→Store→Prop}
  (h:zdg ops o e (if c then pOp P T e G.er o.op fun v S'=>Z (e.put o.dst v) S' else z2d P T G.er e o.op fun v=>Z (e.put o.dst v) G.er) (Z (e.put o.dst (.tup [])) G.er))
  (hi:Inv F G w) (he:zeu w.heap F G e a) (hn:Next F0 G0 w0 F G w) (hs:a.tmps.size=N) (hd:Marks w0 a.defers w)
  (hdst:∀ o∈ops.toList,∀ d,o.dst=some d→d<N) {Qx:Exit→Act→World→Prop} {K:Act→World→Prop}
  (hK:∀ e' F' G' a' w',Z e' G'.er→Inv F' G' w'→zeu w'.heap F' G' e' a'→Next F0 G0 w0 F' G' w'→a'.tmps.size=N→Marks w0 a'.defers w'→K a' w') :
  wpOpIn (fnc R) nn P ops Qx i K a w:=by
 unfold wpOpIn
 rw [ho]
 have hd1:∀ t,o.dst=some t→t<a.tmps.size:=fun t ht=>by
  rw [hs]; exact hdst o (List.mem_of_getElem? (i:=i) (by simpa using ho)) t ht
 rcases zjn he h with ⟨hw,h⟩ | ⟨hw,h⟩
 ·simp only[hw,if_true]
  have hop:pOp P T e G.er o.op fun v S'=>Z (e.put o.dst v) S':=by
   cases c with
   | true=>simpa using h
   | false =>
    simp only[qF,if_false]at h
    rw [zcf]at h
    obtain ⟨v,h1,h2⟩:=h
    exact zdu (by rintro v' S' ⟨rfl,rfl⟩; exact h2) (z4v h1)
  refine znl hT hi he hop ?_
  intro v cv F' G' w' hk i1 i2 i3
  exact hK _ _ _ _ _ hk i1 ((he.next hi i2).put _ hd1 i3) (hn.trans i2) (by rw [zhk]; exact hs) (by rw [zd9]; exact hd.next hi i2)
 simp only[hw,qF,if_false]
 exact ⟨fun _ _=>trivial,hK _ _ _ _ _ h hi (zpm hi he _ hd1) hn (by rw [zhk]; exact hs) (by rw [zd9]; exact hd)⟩
theorem ya7 {R:Option Nat} {nn:Nat} (hT:zbh P T) {m:Nat} {om:Oper} (hom:ops[m]?=some om) (hop:om.op = .alloc t) (hog:om.guard=none) (hod:om.dst=some d) (hoa:om.after = #[]) (hmE:effs.contains m=true) (hl2:∀ y∈l2,((prs ops).getD y 0).testBit m=true)
  (hdst:∀ o∈ops.toList,∀ d,o.dst=some d→d<N)
  (hdep:∀ (i:Nat) o,ops[i]?=some o→∀ e∈o.after.toList,Region.binds .any e=true→e.on<ops.size) :
  ∀ (fuel:Nat) (listed:Array Bool) (l:List Nat) {e:Env} {F:Nat→Prop} {G:GSt} {a:Act} {w:World},(l++l2).length+1=fuel→(l++l2).Pairwise (fun x i=>zo1 ops (prs ops) effs pend x i=true)→(l++l2).Nodup→(∀ x∈l++l2,((prs ops).getD x 0).testBit x=false) →
   listed.size=ops.size→(∀ i,i∈l++l2↔i<ops.size∧listed.getD i true=false∧i≠m)→listed.getD m true=false →
   (∀ i x,listed.getD i false=true→((prs ops).getD i 0).testBit x=true→x<ops.size→listed.getD x true=true) →
   (∀ y∈l,∃ p,ops[y]?=some p∧(effs.contains y=true∨(zkr p.op=true∧zpx ops d p=true))) →
   zfq P T ops effs pend t d Q l2 l e G.er→Inv F G w→zeu w.heap F G e a→Next F0 G0 w0 F G w→a.tmps.size=N→Marks w0 a.defers w →
   wpAnyIn (fnc R) nn P .any ops (Sto F0 G0 w0 N (Nrm Q)) fuel listed a w:=by
 have hml:m<ops.size:=(Array.getElem?_eq_some_iff.1 hom).1
 have hpm:∀ x,((prs ops).getD m 0).testBit x=false:=by
  intro x
  cases hx:((prs ops).getD m 0).testBit x with
  | false=>rfl
  | true =>
   obtain ⟨o,ho,ed,h1,_⟩:=zk2 hx
   rw [hom]at ho; cases ho
   rw [hoa]at h1; simp at h1
 intro fuel
 induction fuel with
 | zero =>
  intro listed l e F G a w hl
  omega
 | succ fuel ih =>
  intro listed l e F G a w hl hp hnd hself hsz hmem hlm hcl hall h hi he hn hs hd
  have bound:∀ i x,((prs ops).getD i 0).testBit x=true→x<ops.size:=by
   have key:∀ n i x,i<n→((prs ops).getD i 0).testBit x=true→x<ops.size:=by
    intro n
    induction n with
    | zero=>intro i x h; omega
    | succ n ihn =>
     intro i x hin hx
     obtain ⟨o,ho,ed,h1,h2,h3⟩:=zk2 hx
     rcases h3 with rfl | ⟨h3,h4⟩
     ·exact hdep i o ho ed h1 h2
     exact ihn ed.on x (by omega) h4
   exact fun i x=>key (i+1) i x (Nat.lt_succ_self _)
  have facts:∀ i,i∈Region.ready .any ops listed→(i≠m→i∈l++l2)∧∃ q,ops[i]?=some q∧∀ e∈q.after.toList,Region.binds .any e=true→listed.getD e.on false=true:=by
   intro i hr
   unfold Region.ready at hr
   rw [List.mem_filter]at hr
   obtain ⟨h1,h2⟩:=hr
   have hlt:i<ops.size:=by simpa using h1
   rw [Array.getElem?_eq_getElem hlt]at h2
   simp only[qO,Option.getD_some,qB,Bool.not_eq_true']at h2
   refine ⟨fun hne=>(hmem i).2 ⟨hlt,h2.1,hne⟩,ops[i],Array.getElem?_eq_getElem hlt,fun e he hb=>?_⟩
   have:=h2.2
   rw [Array.all_eq_true_iff_forall_mem]at this
   have:=this e (by simpa using he)
   simpa [hb] using this
  have preds:∀ i,i∈Region.ready .any ops listed→∀ x,((prs ops).getD i 0).testBit x=true→listed.getD x true=true:=by
   intro i hr x hx
   obtain ⟨_,q,hq,hdeps⟩:=facts i hr
   have hxl:=bound i x hx
   obtain ⟨o,ho,ed,h1,h2,h3⟩:=zk2 hx
   rw [hq]at ho
   cases ho
   have hl1:=hdeps ed h1 h2
   rcases h3 with rfl | ⟨_,h3⟩
   ·have hlt:ed.on<listed.size:=by rw [hsz]; exact hxl
    rw [Array.getD_eq_getD_getElem?,Array.getElem?_eq_getElem hlt]at hl1 ⊢
    exact hl1
   exact hcl _ _ hl1 h3 hxl
  refine ⟨fun hr0=>?_,fun i hr=>?_⟩
  ·exfalso
   have hready:m∈Region.ready .any ops listed:=by
    unfold Region.ready
    rw [List.mem_filter]
    refine ⟨by simpa using hml,?_⟩
    rw [Array.getElem?_eq_getElem hml]
    have:ops[m]=om:=by rw [Array.getElem?_eq_getElem hml]at hom; exact Option.some.inj hom
    simp only[qO,Option.getD_some,qB,Bool.not_eq_true',this,hoa]
    exact ⟨hlm,by simp⟩
   rw [hr0]at hready
   simp at hready
  obtain ⟨hil,q,hq,_⟩:=facts i hr
  have hlt:i<ops.size:=(Array.getElem?_eq_some_iff.1 hq).1
  have hgetD:∀ j d,(listed.setIfInBounds i true).getD j d=if j=i then true else listed.getD j d:=by
   intro j d
   rw [Array.getD_eq_getD_getElem?,Array.getD_eq_getD_getElem?]
   by_cases hj:j=i
   ·subst hj; simp [hsz,hlt]
   rw [Array.getElem?_setIfInBounds_ne (Ne.symm hj),if_neg hj]
  by_cases him:i=m
  ·subst him
   have hA:=zjs hall h
   rw [hom]at hq; cases hq
   have hD:zc5 P T ops effs pend [] Q (i::(l++l2)) e G.er:=by
    simp only[zc5,hom,hmE,if_true]
    unfold zdg gdec
    rw [hog,hop,hod]
    exact ⟨hA.1,.inr (by intro o ho; cases ho),hA.2⟩
   refine zuj hT hD hi he hn hs hd hdst ?_
   intro e' F' G' a' w' k1 k2 k3 k4 k5 k6
   refine ztm hT hdst hdep fuel _ (l++l2) (by omega) hp hnd hself (by simp [hsz]) (fun j=>?_) (fun j x h1 h2 h3=>?_) k1 k2 k3 k4 k5 k6
   ·rw [hgetD,hmem]
    by_cases hj:j=i
    ·simp [hj]
    simp [hj]
   rw [hgetD]at h1 ⊢
   by_cases hx:x=i
   ·rw [if_pos hx]
   rw [if_neg hx]
   by_cases hj:j=i
   ·subst hj; rw [hpm]at h2; cases h2
   rw [if_neg hj]at h1; exact hcl j x h1 h2 h3
  replace hil:=hil him
  have hil:i∈l:=by
   rcases List.mem_append.1 hil with h9 | h9
   ·exact h9
   have:=preds i hr m (hl2 i h9)
   rw [Array.getD_eq_getD_getElem?]at this hlm
   cases hq9:listed[m]? with
   | none=>rw [Array.getElem?_eq_none_iff]at hq9; omega
   | some b9=>rw [hq9]at this hlm; simp at this hlm; rw [this]at hlm; cases hlm
  obtain ⟨l1,l3,rfl⟩:=List.append_of_mem hil
  rw [List.append_assoc,List.cons_append]at hl hp hnd hself hmem
  have hpre:∀ x∈l1,∃ p,ops[x]?=some p∧effs.contains x=false∧Oper.apart ops p q=true∧(effs.contains i=true→(pend.contains x=true∧pend.contains i=false)∨zl8 p.op=true):=by
   intro x hx
   have hxm:=(hmem x).1 (by simp [hx])
   have hpair:=(List.pairwise_append.1 hp).2.2 x hx i (by simp)
   have hnb:((prs ops).getD i 0).testBit x=false:=by
    cases hb:((prs ops).getD i 0).testBit x with
    | false=>rfl
    | true=>have:=preds i hr x hb; rw [hxm.2.1]at this; cases this
   unfold zo1 at hpair
   rw [hnb,hq,Array.getElem?_eq_getElem hxm.1]at hpair
   simp only[Bool.false_or,qB,Bool.not_eq_true',Bool.or_eq_true]at hpair
   refine ⟨ops[x],Array.getElem?_eq_getElem hxm.1,hpair.2.1.1,hpair.2.1.2,fun hc=>?_⟩
   rcases hpair.2.2 with (h1 | h1) | h1
   ·rw [hc]at h1; cases h1
   ·exact .inl h1
   exact .inr h1
  have hfront:=zoz hq l1 hpre hall h
  simp only[zfq,hq]at hfront
  have hfr2:zdg ops q e (if effs.contains i then pOp P T e G.er q.op fun v S'=>zfq P T ops effs pend t d Q l2 (l1++l3) (e.put q.dst v) S' else z2d P T G.er e q.op fun v=>zfq P T ops effs pend t d Q l2 (l1++l3) (e.put q.dst v) G.er) (zfq P T ops effs pend t d Q l2 (l1++l3) (e.put q.dst (.tup [])) G.er):=by
   have h9:=hfront.2
   unfold zdg at h9 ⊢
   split at h9
   ·split at h9
    ·rename_i hc; rw [if_pos hc]; exact h9
    rename_i hc; rw [if_neg hc]; rw [zcf]at h9 ⊢; obtain ⟨v,a1,_,a2⟩:=h9; exact ⟨v,a1,a2⟩
   ·exact h9
   exact h9.elim
  refine z1f hT hq hfr2 hi he hn hs hd hdst ?_
  intro e' F' G' a' w' k1 k2 k3 k4 k5 k6
  refine ih _ (l1++l3) (by simp at hl ⊢; omega) (hp.sublist (by rw [List.append_assoc]; simp)) (hnd.sublist (by rw [List.append_assoc]; simp)) (fun x hx=>hself x (by rw [List.append_assoc]at hx; rcases List.mem_append.1 hx with h9 | h9 <;> simp at h9 ⊢ <;> simp [h9])) (by simp [hsz]) (fun j=>?_) (by rw [hgetD,if_neg (Ne.symm him)]; exact hlm) (fun j x h1 h2 h3=>?_) (fun y hy=>hall y (by rcases List.mem_append.1 hy with h9 | h9 <;> simp [h9])) k1 k2 k3 k4 k5 k6
  ·rw [hgetD,List.append_assoc]
   have hm:=hmem j
   by_cases hj:j=i
   ·subst hj
    rw [if_pos rfl]
    constructor
    ·intro hj2
     exfalso
     have:=List.nodup_append.1 hnd
     rcases List.mem_append.1 hj2 with h1 | h1
     ·exact this.2.2 j h1 j (by simp) rfl
     exact (List.nodup_cons.1 this.2.1).1 h1
    rintro ⟨_,h1,_⟩; cases h1
   rw [if_neg hj,← hm]
   simp [hj]
  rw [hgetD]at h1 ⊢
  by_cases hx:x=i
  ·rw [if_pos hx]
  rw [if_neg hx]
  by_cases hj:j=i
  ·subst hj; exact preds j hr x h2
  rw [if_neg hj]at h1; exact hcl j x h1 h2 h3
def z2y (ops:Array Oper) (l l2 effs pend:List Nat) (m t d:Nat):Bool :=
 let B:=prs ops
 (match ops[m]? with
 | some om=>(match om.op with | .alloc t'=>t' == t | _=>false) && om.guard.isNone && om.dst == some d && om.after.isEmpty
 | none=>false) && effs.contains m &&
 zo2 (zo1 ops B effs pend) (l++l2) && (l++l2).length+1 == ops.size && (l++l2).all (fun x=>decide (x<ops.size) && !(B.getD x 0).testBit x && x != m) && l2.all (fun y=>(B.getD y 0).testBit m) && l.all (fun x =>
  (match ops[x]? with | some p=>effs.contains x || (zkr p.op && zpx ops d p) | none=>false)) &&
 ((List.range ops.size).all fun i=>i == m || (l++l2).contains i) &&
 ops.toList.all fun o=>o.after.toList.all fun e => !Region.binds .any e || decide (e.on<ops.size)
end
section
variable {P:Program} {T:Tab} {Q:Exit→Env→Store→Prop} {e:Env} {S:Store} {b:Code}
theorem W.region_m {id:Nat} {ops:Array Oper} (l l2 effs pend:List Nat) (m t d:Nat) (hc:z2y ops l l2 effs pend m t d=true) (h:zfq P T ops effs pend t d (Q .normal) l2 l e S):W P T (.region id ops true) Q e S:=by
 refine ⟨?_⟩
 intro hT hm F0 G0 w0 N F G a w h3 h4 h5 h6 h7 h8 h9 R nn
 subst h3
 unfold z2y at hc
 simp only[qB,beq_iff_eq,List.all_eq_true,decide_eq_true_eq,Bool.not_eq_true',List.mem_range,Bool.or_eq_true,bne_iff_ne,ne_eq]at hc
 obtain ⟨⟨⟨⟨⟨⟨⟨⟨c0,cE⟩,c1⟩,c2⟩,c3⟩,c6⟩,c7⟩,c4⟩,c5⟩:=hc
 obtain ⟨p1,p2⟩:=zie c1
 cases hom:ops[m]? with
 | none=>rw [hom]at c0; cases c0
 | some om =>
  rw [hom]at c0
  simp only[qB]at c0
  obtain ⟨⟨⟨k1,k2⟩,k3⟩,k4⟩:=c0
  have hop:om.op = .alloc t:=by
   cases ho:om.op <;> rw [ho]at k1 <;> simp at k1
   rw [k1]
  have hog:om.guard=none:=by simpa using k2
  have hod:om.dst=some d:=by simpa using k3
  have hoa:om.after = #[]:=by simpa using k4
  refine wpIn_mono (wpIn_region_any hm (ya7 (Q:=Q .normal) hT hom hop hog hod hoa cE c6 (zwl h9) ?_ ops.size (Array.replicate ops.size false) l c2 p1 p2 (fun x hx=>(c3 x hx).1.2) (by simp) ?_ ?_ ?_ ?_ h (h4.drew) h5 (h6.drew) h7 h8)) z4h
  ·intro i o ho ed hed hb
   have hmem:o∈ops.toList:=by
    have:=Array.mem_of_getElem? ho
    simpa using this
   have:=c5 o hmem ed hed
   rw [hb]at this
   simpa using this
  ·intro i
   constructor
   ·intro hi
    refine ⟨(c3 i hi).1.1,?_,(c3 i hi).2⟩
    rw [Array.getD_eq_getD_getElem?]
    simp [(c3 i hi).1.1]
   intro hi
   rcases c4 i hi.1 with h | h
   ·exact absurd h hi.2.2
   simpa using h
  ·have hml:m<ops.size:=(Array.getElem?_eq_some_iff.1 hom).1
   rw [Array.getD_eq_getD_getElem?]
   simp [hml]
  ·intro i x hx
   rw [Array.getD_eq_getD_getElem?]at hx
   simp only[Array.getElem?_replicate]at hx
   split at hx <;> cases hx
  intro y hy
  have:=c7 y hy
  cases hy2:ops[y]? with
  | none=>rw [hy2]at this; cases this
  | some p=>rw [hy2]at this; exact ⟨p,rfl,by simpa using this⟩
def z9e (P:Program) (T:Tab) (ds:List (Option Tmp)) (t d:Nat) (l:List Oper) (e:Env) (S:Store) (K:Env→Store→Prop):Prop :=
 (T t).kd ≠ .none∧za8 false P T ds l (e.put (some d) (.ref S.obs.length S.tick 0)) (S.push t (T t).size (T t).zero) K
def zi8 (P:Program) (T:Tab) (ds:List (Option Tmp)) (pd:List (Option Tmp)) (t d:Nat) (l2:List Oper):List Oper→Env→Store→(Env→Store→Prop)→Prop
 | [],e,S,K=>z9e P T ds t d l2 e S K
 | o::r,e,S,K =>
  if pd.contains o.dst then zdm o.op=true∧o.guard=none∧∃ v,(∀ S',pFl P T S' e o.op v)∧zi8 P T ds pd t d l2 r (e.put o.dst v) S K
  else (zdm o.op=true∨z9e P T ds t d (o::(r++l2)) e S K)∧za8 false P T ds [o] e S fun e S=>zi8 P T ds pd t d l2 r e S K
section
variable {ds pd:List (Option Tmp)} {t d:Nat} {o:Oper} {r l2:List Oper} {K:Env→Store→Prop}
theorem z0s (hp:pd.contains o.dst=false) (h:zdm o.op=true):zi8 P T ds pd t d l2 (o::r) e S K=za8 false P T ds [o] e S fun e S=>zi8 P T ds pd t d l2 r e S K:=by
 rw [zi8,hp,h]; simp
theorem zto (hp:pd.contains o.dst=false) (h1:(T t).kd ≠ .none) (h2:za8 false P T ds (o::(r++l2)) (e.put (some d) (.ref S.obs.length S.tick 0)) (S.push t (T t).size (T t).zero) K)
  (h3:za8 false P T ds [o] e S fun e S=>zi8 P T ds pd t d l2 r e S K):zi8 P T ds pd t d l2 (o::r) e S K:=by
 rw [zi8,hp]; exact ⟨.inr ⟨h1,h2⟩,h3⟩
theorem zit {v:PV} (hp:pd.contains o.dst=true) (h:zdm o.op=true) (hg:o.guard=none) (hv:∀ S',pFl P T S' e o.op v) (k:zi8 P T ds pd t d l2 r (e.put o.dst v) S K):zi8 P T ds pd t d l2 (o::r) e S K:=by
 rw [zi8,hp]; exact ⟨h,hg,v,hv,k⟩
end
theorem ztp {all:List Oper} {effs pend:List Nat} {K:Env→Store→Prop} (heff:∀ i o,all[i]?=some o→effs.contains i=false→zdm o.op=true):∀ (r:List Nat) (l:List Oper) {e:Env} {S:Store},r.all (fun i => !pend.contains i)=true→r.map (all[·]?)=l.map some →
  za8 false P T (dsts all) l e S K→zc5 P T all.toArray effs pend [] K r e S
 | [],l,e,S,_,hl,h=>by
  cases l with
  | nil=>exact h
  | cons o l=>simp at hl
 | i::r,l,e,S,hp,hl,h=>by
  cases l with
  | nil=>simp at hl
  | cons o l =>
   simp only[List.map_cons,List.cons.injEq]at hl
   obtain ⟨ho,hl⟩:=hl
   simp only[List.all_cons,qB,Bool.not_eq_true']at hp
   obtain ⟨hp1,hp2⟩:=hp
   unfold za8 at h
   simp only[zc5,List.getElem?_toArray,ho]
   rw [zh8]at h
   unfold zdg
   split at h
   ·rename_i hg
    rw [hg]
    simp only
    split
    ·exact zdu (fun v S' hv=>⟨.inr (by intro o ho; cases ho),ztp heff r l hp2 hl hv⟩) (zil h)
    rename_i hc
    have:=zkj (heff i o ho (by simpa using hc)) h
    rw [zcf]at this ⊢
    obtain ⟨v,h1,h2⟩:=this
    exact ⟨v,h1,by rw [hp1]; trivial,ztp heff r l hp2 hl h2⟩
   ·rename_i hg; rw [hg]; exact ztp heff r l hp2 hl h
   exact h.elim
def okP (effs pend l2:List Nat):List Nat→Bool
 | []=>l2.all fun i => !pend.contains i
 | i::r=>(!effs.contains i || (i::(r++l2)).all fun i => !pend.contains i) && okP effs pend l2 r
theorem zn7 {all:List Oper} {effs pend l2:List Nat} {m2:List Oper} {pd:List (Option Tmp)} {t d:Nat} {K:Env→Store→Prop} (heff:∀ i o,all[i]?=some o→(effs.contains i=false↔zdm o.op=true))
  (hpd:∀ i o,all[i]?=some o→pend.contains i=pd.contains o.dst) (h2:l2.map (all[·]?)=m2.map some):∀ (r:List Nat) (l:List Oper) {e:Env} {S:Store},okP effs pend l2 r=true→r.map (all[·]?)=l.map some →
  zi8 P T (dsts all) pd t d m2 l e S K→zfq P T all.toArray effs pend t d K l2 r e S
 | [],l,e,S,hp,hl,h=>by
  cases l with
  | nil=>exact ⟨h.1,ztp (fun i o a b=>(heff i o a).1 b) l2 m2 hp h2 h.2⟩
  | cons o l=>simp at hl
 | i::r,l,e,S,hp,hl,h=>by
  cases l with
  | nil=>simp at hl
  | cons o l =>
   have hl0:=hl
   simp only[List.map_cons,List.cons.injEq]at hl
   obtain ⟨ho,hl⟩:=hl
   simp only[okP,qB,Bool.or_eq_true]at hp
   obtain ⟨hp1,hp2⟩:=hp
   simp only[zfq,List.getElem?_toArray,ho]
   rw [zi8,← hpd i o ho]at h
   cases hpi:pend.contains i with
   | true =>
    rw [hpi]at h
    simp only[if_true]at h
    obtain ⟨f1,f2,v,f3,f4⟩:=h
    have hne:=(heff i o ho).2 f1
    simp only[hne,qF,if_false,true_and]
    unfold zdg gdec
    rw [f2]
    simp only
    rw [zcf]
    exact ⟨v,f3 S,by simp only[if_true]; exact fun S' _=>f3 S',zn7 heff hpd h2 r l hp2 hl f4⟩
   | false =>
    rw [hpi]at h
    simp only[qF,if_false]at h ⊢
    obtain ⟨h1,h3⟩:=h
    refine ⟨?_,?_⟩
    ·split
     ·rename_i hc
      rcases h1 with h1 | h1
      ·have:=(heff i o ho).2 h1; rw [hc]at this; cases this
      refine ⟨h1.1,ztp (fun i o a b=>(heff i o a).1 b) (i::(r++l2)) (o::(l++m2)) ?_ (by simp [ho,hl,h2]) h1.2⟩
      rcases hp1 with hp1 | hp1
      ·rw [hc]at hp1; cases hp1
      exact hp1
     trivial
    unfold za8 at h3
    rw [zh8]at h3
    unfold zdg
    split at h3
    ·rename_i hg
     rw [hg]
     simp only
     split
     ·exact zdu (fun v S' hv=>zn7 heff hpd h2 r l hp2 hl hv) (zil h3)
     rename_i hc
     have:=zkj ((heff i o ho).1 (by simpa using hc)) h3
     rw [zcf]at this ⊢
     obtain ⟨v,k1,k2⟩:=this
     exact ⟨v,k1,trivial,zn7 heff hpd h2 r l hp2 hl k2⟩
    ·rename_i hg; rw [hg]; exact zn7 heff hpd h2 r l hp2 hl h3
    exact h3.elim
theorem zji:∀ (l:List Oper) (k i:Nat) (o:Oper),l[i]?=some o→(k+i∈zb1 l k↔zdm o.op=false)
 | [],_,_,_,h=>by simp at h
 | a::l,k,0,o,h=>by
  simp at h; subst h
  have hge:∀ (l:List Oper) (k j:Nat),j∈zb1 l k→k≤j:=by
   intro l
   induction l with
   | nil=>intro k j h; simp [zb1]at h
   | cons b l ih =>
    intro k j h
    unfold zb1 at h
    split at h
    ·have:=ih _ _ h; omega
    rcases List.mem_cons.1 h with h | h
    ·omega
    have:=ih _ _ h; omega
  unfold zb1
  split
  ·rename_i hf
   constructor
   ·intro h; have:=hge _ _ _ h; omega
   intro h; rw [hf]at h; cases h
  rename_i hf
  simp; simpa using hf
 | a::l,k,i+1,o,h=>by
  simp only[List.getElem?_cons_succ]at h
  have ih:=zji l (k+1) i o h
  unfold zb1
  split
  ·rw [show k+(i+1)=k+1+i by omega]; exact ih
  rw [show k+(i+1)=k+1+i by omega,List.mem_cons]
  constructor
  ·rintro (h | h)
   ·omega
   exact ih.1 h
  exact fun h => .inr (ih.2 h)
theorem W.region_mk {id:Nat} {l r1 r2:List Oper} (m t d:Nat) (l1 l2 pend:List Nat) (pd:List (Option Tmp)) (hc:z2y l.toArray l1 l2 (zb1 l 0) pend m t d=true) (hp:okP (zb1 l 0) pend l2 l1=true)
  (hpd:(l.zipIdx.all fun q=>pend.contains q.2 == pd.contains q.1.dst)=true) (hr:l1.map (l[·]?)=r1.map some) (hr2:l2.map (l[·]?)=r2.map some)
  (h:∀ K:Env→Store→Prop,(∀ e S,Q .normal e S→K e S)→zi8 P T (dsts l) pd t d r2 r1 e S K):W P T (.region id l.toArray true) Q e S :=
 W.region_m _ _ _ pend m t d hc (zn7 (pd:=pd) (fun i o ho=>by
  have:=zji l 0 i o ho
  rw [Nat.zero_add]at this
  cases hc:(zb1 l 0).contains i with
  | true =>
   have h2:=this.1 (by simpa using hc)
   simp [h2]
  | false =>
   have h2:¬ zdm o.op=false:=fun h=>by have:=this.2 h; simp at hc; exact hc this
   simpa using h2) (fun i o ho=>by
  rw [List.all_eq_true]at hpd
  have:=hpd (o,i) (List.mem_of_getElem? (i:=i) (by simp [List.getElem?_zipIdx,ho]))
  simpa using this) hr2 _ _ hp hr (h _ fun _ _ h=>h))
end
end
section
section
variable {P:Program} {T:Tab} {e:Env} {S:Store} {Q:Exit→Env→Store→Prop} {b:Code}
def zlp (P:Program) (T:Tab) (ds:List (Option Tmp)) (pd:List (Option Tmp)) (keep:List Nat) (l2:List Oper):List Oper→Env→Store→(Env→Store→Prop)→Prop
 | [],e,S,K=>za8 false P T ds l2 e S K
 | o::r,e,S,K =>
  if pd.contains o.dst then zdm o.op=true∧o.guard=none∧∃ v,(∀ S',Keeps keep S S'→zc3 T S' e o.op=some v)∧zlp P T ds pd keep l2 r (e.put o.dst v) S K
  else za8 false P T ds [o] e S fun e' S'=>Keeps keep S S'∧zlp P T ds pd keep l2 r e' S' K
theorem Keeps.refl (keep:List Nat) (S:Store):Keeps keep S S:=fun _ _=>rfl
theorem zbf {S S':Store}:Keeps [] S S'=True:=eq_true fun _ h=>by cases h
theorem za7 {o:Nat} {k:List Nat} {S S':Store}:Keeps (o::k) S S'=(S'.obs[o]?=S.obs[o]?∧Keeps k S S'):=by
 apply propext; constructor
 ·exact fun h=>⟨h o (by simp),fun x hx=>h x (by simp [hx])⟩
 rintro ⟨h1,h2⟩ x hx
 rcases List.mem_cons.1 hx with rfl | hx
 ·exact h1
 exact h2 x hx
theorem zb5 {ds pd:List (Option Tmp)} {keep:List Nat} {l2 r:List Oper} {o:Oper} {K:Env→Store→Prop} (h0:pd.contains o.dst=false)
  (h:za8 false P T ds [o] e S fun e' S'=>Keeps keep S S'∧zlp P T ds pd keep l2 r e' S' K):zlp P T ds pd keep l2 (o::r) e S K:=by
 rw [zlp,if_neg (by rw [h0]; exact Bool.false_ne_true)]; exact h
theorem zch {ds pd:List (Option Tmp)} {keep:List Nat} {l2 r:List Oper} {o:Oper} {K:Env→Store→Prop} (v:PV) (h0:pd.contains o.dst=true) (h1:zdm o.op=true) (h2:o.guard=none)
  (h3:∀ S',Keeps keep S S'→zc3 T S' e o.op=some v) (h:zlp P T ds pd keep l2 r (e.put o.dst v) S K):zlp P T ds pd keep l2 (o::r) e S K:=by
 rw [zlp,if_pos h0]; exact ⟨h1,h2,v,h3,h⟩
theorem zke {ds pd:List (Option Tmp)} {keep:List Nat} {l2:List Oper} {K:Env→Store→Prop} (h:za8 false P T ds l2 e S K):zlp P T ds pd keep l2 [] e S K:=h
theorem zni {all:List Oper} {pend:List Nat} {keep:List Nat} {K:Env→Store→Prop}:∀ (r:List Oper) (k:Nat) (e:Env) (S:Store),all.drop k=r →
  (∀ i,k≤i→i<all.length→(pend.contains i=true↔i∈zb1 all 0))→za8 false P T (dsts all) r e S K→zc5 P T all.toArray (zb1 all 0) pend keep K (List.range' k r.length) e S
 | [],_,_,_,_,_,h=>h
 | o::r,k,e,S,hk,hp,h=>by
  have ho:all[k]?=some o:=by
   have:=congrArg (fun l=>l[0]?) hk
   simpa using this
  have hkl:k<all.length:=(List.getElem?_eq_some_iff.1 ho).1
  have hr:all.drop (k+1)=r:=by
   have:=congrArg (List.drop 1) hk
   simpa [List.drop_drop] using this
  have hp':∀ i,k+1≤i→i<all.length→(pend.contains i=true↔i∈zb1 all 0):=fun i h1 h2=>hp i (by omega) h2
  unfold za8 at h
  simp only[List.length_cons,List.range'_succ,zc5,List.getElem?_toArray,ho]
  rw [zh8]at h
  unfold zdg
  split at h
  ·rename_i hg
   rw [hg]
   simp only
   split
   ·rename_i hc
    exact zdu (fun v S' hv=>⟨.inl ((hp k (qR _) hkl).2 (by simpa using hc)),zni r (k+1) _ _ hr hp' hv⟩) (zil h)
   rename_i hc
   have hflat:=zgm all 0 k o ho (by simpa using hc)
   have:=zkj hflat h
   rw [zcf]at this ⊢
   obtain ⟨v,h1,h2⟩:=this
   refine ⟨v,h1,?_,zni r (k+1) _ _ hr hp' h2⟩
   rw [if_neg]
   ·trivial
   intro h9; exact hc (by simpa using (hp k (qR _) hkl).1 h9)
  ·rename_i hg; rw [hg]; exact zni r (k+1) _ _ hr hp' h
  exact h.elim
theorem zn6 {all l2:List Oper} {pd:List (Option Tmp)} {pend keep:List Nat} {K:Env→Store→Prop} (n1:Nat) (hn1:all.drop n1=l2) (hn:n1≤all.length) (hp2:∀ i,n1≤i→i<all.length→(pend.contains i=true↔i∈zb1 all 0))
  (hp1:∀ i o,i<n1→all[i]?=some o→pend.contains i=pd.contains o.dst) :
  ∀ (r:List Oper) (k:Nat) (e:Env) (S:Store),all.drop k=r++l2→k+r.length=n1→zlp P T (dsts all) pd keep l2 r e S K →
  zc5 P T all.toArray (zb1 all 0) pend keep K (List.range' k (r++l2).length) e S
 | [],k,e,S,hk,hkn,h=>by
  obtain rfl:k=n1:=by simpa using hkn
  exact zni l2 k e S hn1 hp2 h
 | o::r,k,e,S,hk,hkn,h=>by
  have ho:all[k]?=some o:=by
   have:=congrArg (fun l=>l[0]?) hk
   simpa using this
  have hkl:k<all.length:=(List.getElem?_eq_some_iff.1 ho).1
  have hr:all.drop (k+1)=r++l2:=by
   have:=congrArg (List.drop 1) hk
   simpa [List.drop_drop] using this
  have hkn':k+1+r.length=n1:=by rw [List.length_cons]at hkn; omega
  have hkp:=hp1 k o (by rw [List.length_cons]at hkn; omega) ho
  rw [List.cons_append,List.length_cons,List.range'_succ]
  simp only[zc5,List.getElem?_toArray,ho]
  unfold zlp at h
  split at h
  ·rename_i hpd
   obtain ⟨hf,hg,v,h1,h2⟩:=h
   unfold zdg gdec
   rw [hg]
   simp only
   have hce:¬ ((zb1 all 0).contains k=true):=by
    intro hc
    have:=(zji all 0 k o ho).1 (by rw [Nat.zero_add]; simpa using hc)
    rw [hf]at this; cases this
   rw [if_neg hce,zcf]
   have hfl:∀ S',Keeps keep S S'→pFl P T S' e o.op v:=by
    intro S' hS'
    have:=h1 S' hS'
    have:z2d P T S' e o.op fun u=>u=v:=by
     revert this hf
     generalize o.op=op
     intro hf this
     have hpg:zhw (zc3 T S' e op) fun u=>u=v:=by rw [this]; rfl
     cases op with
     | call c =>
      obtain ⟨cal,xs,ts⟩:=c
      cases cal with
      | value f=>simp [zdm]at hf
      | _=>exact hpg
     | _=>exact hpg
    obtain ⟨u,h3,rfl⟩:=zcf.1 this
    exact h3
   refine ⟨v,hfl S (Keeps.refl _ _),?_,zn6 n1 hn1 hn hp2 hp1 r (k+1) _ _ hr hkn' h2⟩
   split
   ·exact hfl
   trivial
  rename_i hpd
  unfold za8 at h
  rw [zh8]at h
  unfold zdg
  split at h
  ·rename_i hg
   rw [hg]
   simp only
   split
   ·rename_i hc
    exact zdu (fun v S' hv=>⟨.inr hv.1,zn6 n1 hn1 hn hp2 hp1 r (k+1) _ _ hr hkn' hv.2⟩) (zil h)
   rename_i hc
   have hflat:=zgm all 0 k o ho (by simpa using hc)
   have:=zkj hflat h
   rw [zcf]at this ⊢
   obtain ⟨v,h1,h2⟩:=this
   refine ⟨v,h1,?_,zn6 n1 hn1 hn hp2 hp1 r (k+1) _ _ hr hkn' h2.2⟩
   rw [if_neg (by rw [hkp]; exact hpd)]
   trivial
  ·rename_i hg; rw [hg]
   exact zn6 n1 hn1 hn hp2 hp1 r (k+1) _ _ hr hkn' h.2
  exact h.elim
def zq0 (all:List Oper) (pd:List (Option Tmp)) (n1:Nat):List Nat :=
 (List.range all.length).filter fun i=>if i<n1 then (match all[i]? with | some o=>pd.contains o.dst | none=>false) else (zb1 all 0).contains i
theorem W.region_pk {id:Nat} {l:List Oper} (n1:Nat) (pd:List (Option Tmp)) (keep:List Nat) (hn:n1≤l.length) (hc:zfd l.toArray (List.range' 0 l.length) (zb1 l 0) (zq0 l pd n1)=true)
  (h:∀ K:Env→Store→Prop,(∀ e S,Q .normal e S→K e S)→zlp P T (dsts l) pd keep (l.drop n1) (l.take n1) e S K):W P T (.region id l.toArray true) Q e S:=by
 refine W.region_any (List.range' 0 l.length) (zb1 l 0) (zq0 l pd n1) keep hc ?_
 have:=zn6 (pend:=zq0 l pd n1) n1 rfl hn ?_ ?_ (l.take n1) 0 e S (by simp) (by simp; omega) (h _ fun _ _ h=>h)
 ·rwa [List.take_append_drop]at this
 ·intro i h1 h2
  simp [zq0,Nat.not_lt.2 h1,h2]
 intro i o h1 h2
 have hil:=(List.getElem?_eq_some_iff.1 h2).1
 rw [Bool.eq_iff_iff]
 obtain ⟨_,rfl⟩:=List.getElem?_eq_some_iff.1 h2
 simp [zq0,h1,hil]
theorem W.seq_pk {id:Nat} {l:List Oper} (n1:Nat) (pd:List (Option Tmp)) (keep:List Nat) (hn:n1≤l.length) (hc:zfd l.toArray (List.range' 0 l.length) (zb1 l 0) (zq0 l pd n1)=true)
  (h:∀ K:Env→Store→Prop,(∀ e S,W P T b Q e S→K e S)→zlp P T (dsts l) pd keep (l.drop n1) (l.take n1) e S K):W P T (.seq (.region id l.toArray true) b) Q e S :=
 W.seq (W.region_pk n1 pd keep hn hc fun K hK=>h K hK)
end
end
abbrev Txt:=List UInt8
def Sm (p:List Txt):Prop:=p.length≤1048576∧∀ r∈p,r.length≤1048576
theorem Sm.rows {p:List Txt} (h:Sm p):p.length<2147483648:=by have:=h.1; omega
theorem Sm.cols {p:List Txt} (h:Sm p):∀ r∈p,r.length<2147483648:=fun r hr=>by have:=h.2 r hr; omega
def zag:List Txt→Txt
 | []=>[]
 | a::_=>a
def zey (c:UInt8):Bool:=decide (97≤c.toNat) && decide (c.toNat≤122)
def yck (w:Nat) (row:Txt):Bool:=decide (row.length=w) && decide (1≤row.length) && decide (row.length≤6) && row.all zey
def zhg (p:List Txt):Bool:=p.all (yck (zag p).length) && decide (1≤p.length) && decide (p.length≤6)
def zg8 (n:Int) (row:Txt):Int:=row.foldl (fun n c=>max n ((c.toNat:Int) - 97+1)) n
def zib (p:List Txt):Int:=p.foldl zg8 0
def ziz (s:List UInt8 × Txt) (c:UInt8):List UInt8 × Txt:=(if s.1.idxOf c=s.1.length then s.1++[c] else s.1,s.2++[UInt8.ofNat (97+s.1.idxOf c)])
def zr0 (o:List UInt8) (row:Txt):List UInt8 × Txt:=row.foldl ziz (o,[])
def zqo (s:List UInt8 × List Txt) (row:Txt):List UInt8 × List Txt:=((zr0 s.1 row).1,s.2++[(zr0 s.1 row).2])
def zy4 (p:List Txt):List UInt8 × List Txt:=p.foldl zqo ([],[])
def names (p:List Txt):List Txt:=(zy4 p).2
def zyw (room:Int) (c:UInt8):Bool:=decide ((c.toNat:Int) - 97=room)
def zkc (room:Int) (n:Int) (row:Txt):Int:=row.foldl (fun n c=>if zyw room c then n+1 else n) n
def zw2 (p:List Txt) (room:Int):Int:=p.foldl (zkc room) 0
structure Box where
 top:Int
 left:Int
 low:Int
 right:Int
def zrl (room:Int) (i:Nat) (b:Box) (q:UInt8 × Nat):Box:=if zyw room q.1 then ⟨min b.top i,min b.left q.2,max b.low i,max b.right q.2⟩ else b
def z2v (room:Int) (b:Box) (q:Txt × Nat):Box:=(q.1.zipIdx).foldl (zrl room q.2) b
def zrm (p:List Txt) (room:Int):Box:=p.zipIdx.foldl (z2v room) ⟨p.length,(zag p).length,-1,-1⟩
def zyv (p:List Txt) (room:Int):Int:=(zrm p room).low - (zrm p room).top+1
def z0k (p:List Txt) (room:Int):Int:=(zrm p room).right - (zrm p room).left+1
def zec (p:List Txt):Bool:=zhg p && decide (names p=p) && decide (zib p≤9) && (List.range (zib p).toNat).all fun r=>decide (zw2 p r=zyv p r*z0k p r)
theorem yap {α:Type} {l:List α} {i:Nat} {a:α} (h:l[i]?=some a):(l.take (i+1)).zipIdx=(l.take i).zipIdx++[(a,i)]:=by
 have hi:=(List.getElem?_eq_some_iff.1 h).1
 rw [tk h,List.zipIdx_append]
 simp [Nat.min_eq_left (Nat.le_of_lt hi)]
theorem zij:∀ (row:Txt) (n:Int),0≤n→n≤200→0≤zg8 n row∧zg8 n row≤200
 | [],n,h1,h2=>⟨h1,h2⟩
 | c::row,n,h1,h2=>by
  have:=c.toNat_lt
  exact zij row (max n ((c.toNat:Int) - 97+1)) (by omega) (by omega)
theorem zrx (p:List Txt):0≤zib p∧zib p≤200:=by
 unfold zib
 have:∀ (p:List Txt) (n:Int),0≤n→n≤200→0≤p.foldl zg8 n∧p.foldl zg8 n≤200:=by
  intro p
  induction p with
  | nil=>exact fun n h1 h2=>⟨h1,h2⟩
  | cons row p ih=>exact fun n h1 h2=>ih _ (zij row n h1 h2).1 (zij row n h1 h2).2
 exact this p 0 (by omega) (by omega)
def zwd (p:List Txt) (room:Int) (i:Nat):Box:=((p.take i).zipIdx).foldl (z2v room) ⟨p.length,(zag p).length,-1,-1⟩
def zxe (room:Int) (i:Nat) (b:Box) (row:Txt) (k:Nat):Box:=((row.take k).zipIdx).foldl (zrl room i) b
theorem z2w {p:List Txt} {room:Int}:zwd p room p.length=zrm p room:=by simp [zwd,zrm]
theorem z0n {p:List Txt} {room:Int} {i:Nat} {row:Txt} (h:p[i]?=some row):zwd p room (i+1)=zxe room i (zwd p room i) row row.length:=by
 simp [zwd,yap h,List.foldl_append,z2v,zxe]
theorem z1z {room:Int} {i k:Nat} {b:Box} {row:Txt} {c:UInt8} (h:row[k]?=some c):zxe room i b row (k+1)=zrl room i (zxe room i b row k) (c,k):=by
 simp [zxe,yap h,List.foldl_append]
def Box.In (M:Nat) (b:Box):Prop := -1≤b.top∧b.top≤M ∧ -1≤b.left∧b.left≤M ∧ -1≤b.low∧b.low≤M ∧ -1≤b.right∧b.right≤M
theorem zfv {p:List Txt} (h:zhg p=true):0<p.length∧p.length≤6∧∀ r∈p,r.length≤6:=by
 unfold zhg at h
 simp only[qB,decide_eq_true_eq,List.all_eq_true]at h
 refine ⟨by omega,by omega,fun r hr=>?_⟩
 have:=h.1.1 r hr
 simp only[yck,qB,decide_eq_true_eq]at this
 omega
theorem zgo {p:List Txt} {row:Txt} (h:p[0]?=some row):zag p=row:=by
 cases p with
 | nil=>simp at h
 | cons a p=>simpa [zag] using h
theorem z9j {α:Type} {f:α→Bool} {l:List α} {i:Nat} {a:α} (h:l[i]?=some a) (h1:(l.take i).all f=true) (h2:f a=true):(l.take (i+1)).all f=true:=by
 rw [tk h,List.all_append,h1]; simp [h2]
def yb0 (cs:List UInt8) (cx:UInt8) (y:Nat):Bool:=(cs.take y).all fun z=>decide (cx≠z)
def ybz (cs:List UInt8) (x:Nat):Bool :=
 match cs[x]? with
 | some cx=>yb0 cs cx x
 | none=>false
def zkd (cs:List UInt8):Nat→Int
 | 0=>0
 | x+1=>zkd cs x+if ybz cs x then 1 else 0
theorem ztl (cs:List UInt8):∀ x,0≤zkd cs x∧zkd cs x≤x
 | 0=>by simp [zkd]
 | x+1=>by have:=ztl cs x; unfold zkd; split <;> omega
def zlu (p:List Txt) (i k:Nat):Int :=
 match p[i - 1]?,p[i]? with
 | some r1,some r2 =>
  match r1[k - 1]?,r1[k]?,r2[k - 1]?,r2[k]? with
  | some a,some b,some c,some d=>zkd [a,b,c,d] 4
  | _,_,_,_=>0
 | _,_=>0
def zhr (p:List Txt) (many:Int) (i:Nat):Nat→Int
 | 0=>0
 | k+1=>zhr p many i k+if 1≤k∧zlu p i k=many then 1 else 0
def zpt (p:List Txt) (many:Int) (w:Nat):Nat→Int
 | 0=>0
 | i+1=>zpt p many w i+if 1≤i then zhr p many i w else 0
theorem zgu (p:List Txt) (many:Int) (i:Nat):∀ k,0≤zhr p many i k∧zhr p many i k≤k
 | 0=>by simp [zhr]
 | k+1=>by have:=zgu p many i k; unfold zhr; split <;> omega
def points (p:List Txt) (many:Int):Int:=zpt p many (zag p).length p.length
def zal (p:List Txt):Bool:=zec p && decide (points p 4=0)
theorem zhh {p:List Txt} (h:zhg p=true) {i:Nat} {row:Txt} (hr:p[i]?=some row):row.length=(zag p).length:=by
 unfold zhg at h
 simp only[qB,decide_eq_true_eq,List.all_eq_true]at h
 have:=h.1.1 row (List.mem_of_getElem? hr)
 simp only[yck,qB,decide_eq_true_eq]at this
 omega
theorem ze1 {p:List Txt} (h:zec p=true):zhg p=true:=by
 unfold zec at h; simp only[qB]at h; exact h.1.1.1
theorem zpd {p:List Txt} (h:zhg p=true) {i:Nat} {row:Txt} (hr:p[i]?=some row):1≤row.length:=by
 unfold zhg at h
 simp only[qB,decide_eq_true_eq,List.all_eq_true]at h
 have:=h.1.1 row (List.mem_of_getElem? hr)
 simp only[yck,qB,decide_eq_true_eq]at this
 omega
def yfh (p:List Txt) (k i:Nat):Txt:=(p.take i).map fun row=>row.getD k 0
def ydx (p:List Txt) (k:Nat):List Txt:=(List.range k).map fun j=>yfh p j p.length
def ye0 (p:List Txt):List Txt:=ydx p (zag p).length
def zpu (l:List Int) (x:Int):List Int:=if l.getLast?=some x then l else l++[x]
theorem z8g {l:List Int} {x:Int}:(zpu l x).length≤l.length+1:=by
 unfold zpu; split <;> simp
def zbb (p:List Txt) (i k:Nat):Int:=(((p[i]?.getD [])[k]?.getD 0).toNat:Int) - 97
theorem zd3 {p:List Txt} {i k:Nat} {row:Txt} {c:UInt8} (h:p[i]?=some row) (hc:row[k]?=some c):zbb p i k=(c.toNat:Int) - 97:=by
 simp [zbb,h,hc]
def z5x (p:List Txt) (kind line fr:Nat):Nat→List Int × List Int
 | 0=>([],[])
 | n+1 =>
  let s:=z5x p kind line fr n
  if kind=0 then (zpu s.1 (zbb p (fr+n) (line - 1)),zpu s.2 (zbb p (fr+n) line))
  else (zpu s.1 (zbb p (line - 1) (fr+n)),zpu s.2 (zbb p line (fr+n)))
def ye7 (p:List Txt) (k i:Nat):Bool:=decide (i<p.length) && decide (zbb p i (k - 1)≠zbb p i k)
def ye4 (wall:Bool) (k i:Nat) (s:Int × List (List Int)):Int × List (List Int) :=
 let f:=if wall && decide (s.1<0) then (i:Int) else s.1
 if !wall && decide (0≤f) then (-1,s.2++[[(k:Int),f,i - f]]) else (f,s.2)
def upTo (p:List Txt) (k:Nat) (s0:List (List Int)):Nat→Int × List (List Int)
 | 0=>(-1,s0)
 | i+1=>ye4 (ye7 p k i) k i (upTo p k s0 i)
def yc9 (p:List Txt):Nat→List (List Int)
 | 0=>[]
 | k+1=>if 1≤k then (upTo p k (yc9 p k) (p.length+1)).2 else yc9 p k
def uprights (p:List Txt):List (List Int):=yc9 p (zag p).length
theorem yf5 {a b:UInt8}:(a=b)=((a.toNat:Int)=b.toNat):=by
 apply propext; constructor
 ·rintro rfl; rfl
 intro h; exact UInt8.toNat_inj.1 (by omega)
theorem z2t {a b:Int}:(a != b) = !decide (a=b):=by by_cases h:a=b <;> simp [h]
theorem zqn {S:Store} {k:Nat} (l:List (List Int)):(l.map eInts).mapM (reify S true (k+1))=some (l.map eInts) :=
 zbk fun x hx=>by obtain ⟨a,_,rfl⟩:=List.mem_map.1 hx; simp [eInts,reify]
def ycy:List (Nat × TI):=[
 (1,⟨.func,1,8,[.nilf]⟩),
 (2,⟨.int .i64,1,8,[.int .i64 0]⟩),
 (3,⟨.int .i64,1,8,[.int .i64 0]⟩),
 (4,⟨.bool,1,1,[.bool false]⟩),
 (5,⟨.int .u8,1,1,[.int .u8 0]⟩),
 (6,⟨.int .u8,1,1,[.int .u8 0]⟩),
 (7,⟨.struct [(0,2),(1,3),(2,4),(3,6)],4,24,[.int .i64 0,.int .i64 0,.bool false,.int .u8 0]⟩),
 (8,⟨.struct [(0,2),(1,3),(2,4),(3,6)],4,24,[.int .i64 0,.int .i64 0,.bool false,.int .u8 0]⟩),
 (9,⟨.str,1,16,[.str []]⟩),
 (10,⟨.str,1,16,[.str []]⟩),
 (11,⟨.str,1,16,[.str []]⟩),
 (12,⟨.int .u64,1,8,[.int .u64 0]⟩),
 (13,⟨.struct [(0,9),(1,12)],2,24,[.str [],.int .u64 0]⟩),
 (14,⟨.struct [(0,9),(1,12)],2,24,[.str [],.int .u64 0]⟩),
 (15,⟨.ptr 219,1,8,[.nilp]⟩),
 (16,⟨.ptr 222,1,8,[.nilp]⟩),
 (17,⟨.ptr 229,1,8,[.nilp]⟩),
 (18,⟨.struct [(0,17)],1,8,[.nilp]⟩),
 (19,⟨.struct [(0,17)],1,8,[.nilp]⟩),
 (21,⟨.int .i32,1,4,[.int .i32 0]⟩),
 (22,⟨.slice 5,1,24,[.nils]⟩),
 (23,⟨.func,1,8,[.nilf]⟩),
 (24,⟨.slice 9,1,24,[.nils]⟩),
 (26,⟨.func,1,8,[.nilf]⟩),
 (27,⟨.func,1,8,[.nilf]⟩),
 (28,⟨.func,1,8,[.nilf]⟩),
 (29,⟨.func,1,8,[.nilf]⟩),
 (30,⟨.func,1,8,[.nilf]⟩),
 (31,⟨.slice 3,1,24,[.nils]⟩),
 (33,⟨.func,1,8,[.nilf]⟩),
 (34,⟨.func,1,8,[.nilf]⟩),
 (35,⟨.func,1,8,[.nilf]⟩),
 (36,⟨.func,1,8,[.nilf]⟩),
 (37,⟨.func,1,8,[.nilf]⟩),
 (39,⟨.func,1,8,[.nilf]⟩),
 (40,⟨.func,1,8,[.nilf]⟩),
 (41,⟨.ptr 85,1,8,[.nilp]⟩),
 (42,⟨.func,1,8,[.nilf]⟩),
 (43,⟨.ptr 75,1,8,[.nilp]⟩),
 (45,⟨.func,1,8,[.nilf]⟩),
 (46,⟨.func,1,8,[.nilf]⟩),
 (47,⟨.slice 49,1,24,[.nils]⟩),
 (48,⟨.struct [(0,5),(1,47)],2,32,[.int .u8 0,.nils]⟩),
 (49,⟨.struct [(0,5),(1,47)],2,32,[.int .u8 0,.nils]⟩),
 (51,⟨.func,1,8,[.nilf]⟩),
 (52,⟨.func,1,8,[.nilf]⟩),
 (53,⟨.func,1,8,[.nilf]⟩),
 (54,⟨.func,1,8,[.nilf]⟩),
 (55,⟨.func,1,8,[.nilf]⟩),
 (56,⟨.func,1,8,[.nilf]⟩),
 (57,⟨.func,1,8,[.nilf]⟩),
 (58,⟨.func,1,8,[.nilf]⟩),
 (59,⟨.func,1,8,[.nilf]⟩),
 (60,⟨.func,1,8,[.nilf]⟩),
 (61,⟨.func,1,8,[.nilf]⟩),
 (62,⟨.slice 159,1,24,[.nils]⟩),
 (63,⟨.slice 159,1,24,[.nils]⟩),
 (64,⟨.struct [(0,63),(1,63)],2,48,[.nils,.nils]⟩),
 (65,⟨.struct [(0,63),(1,63)],2,48,[.nils,.nils]⟩),
 (67,⟨.func,1,8,[.nilf]⟩),
 (68,⟨.func,1,8,[.nilf]⟩),
 (69,⟨.ptr 131,1,8,[.nilp]⟩),
 (70,⟨.func,1,8,[.nilf]⟩),
 (71,⟨.slice 31,1,24,[.nils]⟩),
 (72,⟨.slice 31,1,24,[.nils]⟩),
 (73,⟨.slice 79,1,24,[.nils]⟩),
 (74,⟨.struct [(0,72),(1,73)],2,48,[.nils,.nils]⟩),
 (75,⟨.struct [(0,72),(1,73)],2,48,[.nils,.nils]⟩),
 (77,⟨.func,1,8,[.nilf]⟩),
 (78,⟨.struct [(0,3),(1,3),(2,3),(3,3)],4,32,[.int .i64 0,.int .i64 0,.int .i64 0,.int .i64 0]⟩),
 (79,⟨.struct [(0,3),(1,3),(2,3),(3,3)],4,32,[.int .i64 0,.int .i64 0,.int .i64 0,.int .i64 0]⟩),
 (80,⟨.struct [(0,43),(1,79)],5,40,[.nilp,.int .i64 0,.int .i64 0,.int .i64 0,.int .i64 0]⟩),
 (81,⟨.struct [(0,43),(1,79)],5,40,[.nilp,.int .i64 0,.int .i64 0,.int .i64 0,.int .i64 0]⟩),
 (82,⟨.func,1,8,[.nilf]⟩),
 (83,⟨.slice 41,1,24,[.nils]⟩),
 (84,⟨.struct [(0,5),(1,83)],2,32,[.int .u8 0,.nils]⟩),
 (85,⟨.struct [(0,5),(1,83)],2,32,[.int .u8 0,.nils]⟩),
 (86,⟨.func,1,8,[.nilf]⟩),
 (87,⟨.struct [(0,4),(1,81),(6,81)],11,88,[.bool false,.nilp,.int .i64 0,.int .i64 0,.int .i64 0,.int .i64 0,.nilp,.int .i64 0,.int .i64 0,.int .i64 0,.int .i64 0]⟩),
 (88,⟨.struct [(0,4),(1,81),(6,81)],11,88,[.bool false,.nilp,.int .i64 0,.int .i64 0,.int .i64 0,.int .i64 0,.nilp,.int .i64 0,.int .i64 0,.int .i64 0,.int .i64 0]⟩),
 (89,⟨.func,1,8,[.nilf]⟩),
 (90,⟨.func,1,8,[.nilf]⟩),
 (91,⟨.func,1,8,[.nilf]⟩),
 (92,⟨.func,1,8,[.nilf]⟩),
 (93,⟨.func,1,8,[.nilf]⟩),
 (94,⟨.func,1,8,[.nilf]⟩),
 (95,⟨.ptr 97,1,8,[.nilp]⟩),
 (96,⟨.struct [(0,9)],1,16,[.str []]⟩),
 (97,⟨.struct [(0,9)],1,16,[.str []]⟩),
 (98,⟨.slice 43,1,24,[.nils]⟩),
 (99,⟨.func,1,8,[.nilf]⟩),
 (100,⟨.func,1,8,[.nilf]⟩),
 (101,⟨.func,1,8,[.nilf]⟩),
 (102,⟨.ptr 104,1,8,[.nilp]⟩),
 (103,⟨.struct [(0,102),(1,22)],2,32,[.nilp,.nils]⟩),
 (104,⟨.struct [(0,102),(1,22)],2,32,[.nilp,.nils]⟩),
 (107,⟨.func,1,8,[.nilf]⟩),
 (108,⟨.func,1,8,[.nilf]⟩),
 (110,⟨.func,1,8,[.nilf]⟩),
 (111,⟨.func,1,8,[.nilf]⟩),
 (112,⟨.func,1,8,[.nilf]⟩),
 (113,⟨.func,1,8,[.nilf]⟩),
 (114,⟨.func,1,8,[.nilf]⟩),
 (115,⟨.func,1,8,[.nilf]⟩),
 (116,⟨.func,1,8,[.nilf]⟩),
 (117,⟨.func,1,8,[.nilf]⟩),
 (118,⟨.func,1,8,[.nilf]⟩),
 (119,⟨.func,1,8,[.nilf]⟩),
 (120,⟨.func,1,8,[.nilf]⟩),
 (121,⟨.func,1,8,[.nilf]⟩),
 (122,⟨.func,1,8,[.nilf]⟩),
 (123,⟨.func,1,8,[.nilf]⟩),
 (124,⟨.func,1,8,[.nilf]⟩),
 (125,⟨.func,1,8,[.nilf]⟩),
 (126,⟨.func,1,8,[.nilf]⟩),
 (127,⟨.func,1,8,[.nilf]⟩),
 (128,⟨.arr 4 3,4,32,[.int .i64 0,.int .i64 0,.int .i64 0,.int .i64 0]⟩),
 (129,⟨.func,1,8,[.nilf]⟩),
 (130,⟨.struct [(0,22),(1,3)],2,32,[.nils,.int .i64 0]⟩),
 (131,⟨.struct [(0,22),(1,3)],2,32,[.nils,.int .i64 0]⟩),
 (133,⟨.func,1,8,[.nilf]⟩),
 (135,⟨.func,1,8,[.nilf]⟩),
 (137,⟨.func,1,8,[.nilf]⟩),
 (138,⟨.func,1,8,[.nilf]⟩),
 (139,⟨.func,1,8,[.nilf]⟩),
 (140,⟨.func,1,8,[.nilf]⟩),
 (141,⟨.func,1,8,[.nilf]⟩),
 (142,⟨.func,1,8,[.nilf]⟩),
 (143,⟨.map 3 3,1,8,[.nilm]⟩),
 (145,⟨.func,1,8,[.nilf]⟩),
 (146,⟨.ptr 5,1,8,[.nilp]⟩),
 (147,⟨.func,1,8,[.nilf]⟩),
 (148,⟨.func,1,8,[.nilf]⟩),
 (149,⟨.func,1,8,[.nilf]⟩),
 (150,⟨.func,1,8,[.nilf]⟩),
 (151,⟨.func,1,8,[.nilf]⟩),
 (152,⟨.func,1,8,[.nilf]⟩),
 (153,⟨.slice 156,1,24,[.nils]⟩),
 (154,⟨.func,1,8,[.nilf]⟩),
 (155,⟨.struct [(0,4),(1,3),(2,3),(3,3)],4,32,[.bool false,.int .i64 0,.int .i64 0,.int .i64 0]⟩),
 (156,⟨.struct [(0,4),(1,3),(2,3),(3,3)],4,32,[.bool false,.int .i64 0,.int .i64 0,.int .i64 0]⟩),
 (158,⟨.func,1,8,[.nilf]⟩),
 (159,⟨.slice 4,1,24,[.nils]⟩),
 (160,⟨.func,1,8,[.nilf]⟩),
 (161,⟨.func,1,8,[.nilf]⟩),
 (162,⟨.func,1,8,[.nilf]⟩),
 (163,⟨.func,1,8,[.nilf]⟩),
 (164,⟨.func,1,8,[.nilf]⟩),
 (165,⟨.func,1,8,[.nilf]⟩),
 (167,⟨.func,1,8,[.nilf]⟩),
 (168,⟨.func,1,8,[.nilf]⟩),
 (169,⟨.func,1,8,[.nilf]⟩),
 (171,⟨.func,1,8,[.nilf]⟩),
 (172,⟨.func,1,8,[.nilf]⟩),
 (173,⟨.func,1,8,[.nilf]⟩),
 (174,⟨.func,1,8,[.nilf]⟩),
 (175,⟨.func,1,8,[.nilf]⟩),
 (176,⟨.func,1,8,[.nilf]⟩),
 (177,⟨.func,1,8,[.nilf]⟩),
 (178,⟨.int .u64,1,8,[.int .u64 0]⟩),
 (179,⟨.func,1,8,[.nilf]⟩),
 (180,⟨.func,1,8,[.nilf]⟩),
 (181,⟨.func,1,8,[.nilf]⟩),
 (182,⟨.func,1,8,[.nilf]⟩),
 (183,⟨.func,1,8,[.nilf]⟩),
 (184,⟨.func,1,8,[.nilf]⟩),
 (185,⟨.func,1,8,[.nilf]⟩),
 (186,⟨.int .i64,1,8,[.int .i64 0]⟩),
 (188,⟨.func,1,8,[.nilf]⟩),
 (189,⟨.func,1,8,[.nilf]⟩),
 (190,⟨.func,1,8,[.nilf]⟩),
 (191,⟨.func,1,8,[.nilf]⟩),
 (192,⟨.func,1,8,[.nilf]⟩),
 (193,⟨.int .u32,1,4,[.int .u32 0]⟩),
 (194,⟨.func,1,8,[.nilf]⟩),
 (195,⟨.int .u64,1,8,[.int .u64 0]⟩),
 (196,⟨.func,1,8,[.nilf]⟩),
 (198,⟨.func,1,8,[.nilf]⟩),
 (199,⟨.func,1,8,[.nilf]⟩),
 (200,⟨.func,1,8,[.nilf]⟩),
 (201,⟨.func,1,8,[.nilf]⟩),
 (202,⟨.func,1,8,[.nilf]⟩),
 (203,⟨.func,1,8,[.nilf]⟩),
 (204,⟨.int .u64,1,8,[.int .u64 0]⟩),
 (205,⟨.func,1,8,[.nilf]⟩),
 (206,⟨.func,1,8,[.nilf]⟩),
 (207,⟨.func,1,8,[.nilf]⟩),
 (208,⟨.ptr 3,1,8,[.nilp]⟩),
 (209,⟨.func,1,8,[.nilf]⟩),
 (210,⟨.func,1,8,[.nilf]⟩),
 (211,⟨.func,1,8,[.nilf]⟩),
 (212,⟨.func,1,8,[.nilf]⟩),
 (213,⟨.func,1,8,[.nilf]⟩),
 (214,⟨.func,1,8,[.nilf]⟩),
 (215,⟨.ptr 204,1,8,[.nilp]⟩),
 (216,⟨.func,1,8,[.nilf]⟩),
 (217,⟨.func,1,8,[.nilf]⟩),
 (218,⟨.struct [(0,17),(1,17),(2,17),(3,9)],4,40,[.nilp,.nilp,.nilp,.str []]⟩),
 (219,⟨.struct [(0,17),(1,17),(2,17),(3,9)],4,40,[.nilp,.nilp,.nilp,.str []]⟩),
 (220,⟨.arr 0 16,0,0,[]⟩),
 (221,⟨.struct [(0,220)],0,0,[]⟩),
 (222,⟨.struct [(0,220)],0,0,[]⟩),
 (223,⟨.int .u8,1,1,[.int .u8 0]⟩),
 (224,⟨.int .u8,1,1,[.int .u8 0]⟩),
 (225,⟨.func,1,8,[.nilf]⟩),
 (226,⟨.int .i32,1,4,[.int .i32 0]⟩),
 (227,⟨.int .i32,1,4,[.int .i32 0]⟩),
 (228,⟨.struct [(0,12),(1,12),(2,193),(3,223),(4,5),(5,5),(6,224),(7,225),(8,146),(9,226),(10,227)],11,48,[.int .u64 0,.int .u64 0,.int .u32 0,.int .u8 0,.int .u8 0,.int .u8 0,.int .u8 0,.nilf,.nilp,.int .i32 0,.int .i32 0]⟩),
 (229,⟨.struct [(0,12),(1,12),(2,193),(3,223),(4,5),(5,5),(6,224),(7,225),(8,146),(9,226),(10,227)],11,48,[.int .u64 0,.int .u64 0,.int .u32 0,.int .u8 0,.int .u8 0,.int .u8 0,.int .u8 0,.nilf,.nilp,.int .i32 0,.int .i32 0]⟩)]
def tab:Tab:=lk ycy
theorem zao:zbh Tryz.prog tab:=yeu (by kernel_rfl)
theorem mixed:Tryz.prog.follows .mixedOrders=true:=Checked.mixed Tryz.checked
theorem zaa:tab 3=⟨.int .i64,1,8,[.int .i64 0]⟩:=by kernel_rfl
theorem zam:tab 4=⟨.bool,1,1,[.bool false]⟩:=by kernel_rfl
theorem zaw:tab 5=⟨.int .u8,1,1,[.int .u8 0]⟩:=by kernel_rfl
theorem zae:tab 9=⟨.str,1,16,[.str []]⟩:=by kernel_rfl
theorem ty9:tab 22=⟨.slice 5,1,24,[.nils]⟩:=by kernel_rfl
theorem ty8:tab 24=⟨.slice 9,1,24,[.nils]⟩:=by kernel_rfl
theorem zab:tab 31=⟨.slice 3,1,24,[.nils]⟩:=by kernel_rfl
theorem zet:tab 41=⟨.ptr 85,1,8,[.nilp]⟩:=by kernel_rfl
theorem zce:tab 43=⟨.ptr 75,1,8,[.nilp]⟩:=by kernel_rfl
theorem ty7:tab 47=⟨.slice 49,1,24,[.nils]⟩:=by kernel_rfl
theorem zdq:tab 48=⟨.struct [(0,5),(1,47)],2,32,[.int .u8 0,.nils]⟩:=by kernel_rfl
theorem zdp:tab 49=⟨.struct [(0,5),(1,47)],2,32,[.int .u8 0,.nils]⟩:=by kernel_rfl
theorem ty0:tab 62=⟨.slice 159,1,24,[.nils]⟩:=by kernel_rfl
theorem zd0:tab 63=⟨.slice 159,1,24,[.nils]⟩:=by kernel_rfl
theorem zft:tab 64=⟨.struct [(0,63),(1,63)],2,48,[.nils,.nils]⟩:=by kernel_rfl
theorem zfs:tab 65=⟨.struct [(0,63),(1,63)],2,48,[.nils,.nils]⟩:=by kernel_rfl
theorem ty1:tab 71=⟨.slice 31,1,24,[.nils]⟩:=by kernel_rfl
theorem zb0:tab 72=⟨.slice 31,1,24,[.nils]⟩:=by kernel_rfl
theorem ty5:tab 73=⟨.slice 79,1,24,[.nils]⟩:=by kernel_rfl
theorem zda:tab 74=⟨.struct [(0,72),(1,73)],2,48,[.nils,.nils]⟩:=by kernel_rfl
theorem zc9:tab 75=⟨.struct [(0,72),(1,73)],2,48,[.nils,.nils]⟩:=by kernel_rfl
theorem zcu:tab 78=⟨.struct [(0,3),(1,3),(2,3),(3,3)],4,32,[.int .i64 0,.int .i64 0,.int .i64 0,.int .i64 0]⟩:=by kernel_rfl
theorem zct:tab 79=⟨.struct [(0,3),(1,3),(2,3),(3,3)],4,32,[.int .i64 0,.int .i64 0,.int .i64 0,.int .i64 0]⟩:=by kernel_rfl
theorem ty3:tab 83=⟨.slice 41,1,24,[.nils]⟩:=by kernel_rfl
theorem zht:tab 84=⟨.struct [(0,5),(1,83)],2,32,[.int .u8 0,.nils]⟩:=by kernel_rfl
theorem zhs:tab 85=⟨.struct [(0,5),(1,83)],2,32,[.int .u8 0,.nils]⟩:=by kernel_rfl
theorem yc5:tab 96=⟨.struct [(0,9)],1,16,[.str []]⟩:=by kernel_rfl
theorem yc4:tab 97=⟨.struct [(0,9)],1,16,[.str []]⟩:=by kernel_rfl
theorem ty2:tab 98=⟨.slice 43,1,24,[.nils]⟩:=by kernel_rfl
theorem yf0:tab 102=⟨.ptr 104,1,8,[.nilp]⟩:=by kernel_rfl
theorem yf2:tab 103=⟨.struct [(0,102),(1,22)],2,32,[.nilp,.nils]⟩:=by kernel_rfl
theorem yf1:tab 104=⟨.struct [(0,102),(1,22)],2,32,[.nilp,.nils]⟩:=by kernel_rfl
theorem ye1:tab 122=⟨.func,1,8,[.nilf]⟩:=by kernel_rfl
theorem zb6:tab 128=⟨.arr 4 3,4,32,[.int .i64 0,.int .i64 0,.int .i64 0,.int .i64 0]⟩:=by kernel_rfl
theorem z82:tab 130=⟨.struct [(0,22),(1,3)],2,32,[.nils,.int .i64 0]⟩:=by kernel_rfl
theorem z81:tab 131=⟨.struct [(0,22),(1,3)],2,32,[.nils,.int .i64 0]⟩:=by kernel_rfl
theorem yaj:tab 143=⟨.map 3 3,1,8,[.nilm]⟩:=by kernel_rfl
theorem ty6:tab 153=⟨.slice 156,1,24,[.nils]⟩:=by kernel_rfl
theorem z0h:tab 155=⟨.struct [(0,4),(1,3),(2,3),(3,3)],4,32,[.bool false,.int .i64 0,.int .i64 0,.int .i64 0]⟩:=by kernel_rfl
theorem z0g:tab 156=⟨.struct [(0,4),(1,3),(2,3),(3,3)],4,32,[.bool false,.int .i64 0,.int .i64 0,.int .i64 0]⟩:=by kernel_rfl
theorem ty4:tab 159=⟨.slice 4,1,24,[.nils]⟩:=by kernel_rfl
theorem zcj:tab 178=⟨.int .u64,1,8,[.int .u64 0]⟩:=by kernel_rfl
theorem zha:tab 195=⟨.int .u64,1,8,[.int .u64 0]⟩:=by kernel_rfl






theorem zl6 {S:Store} {im:Bool} {k:Nat} {a b a2 b2:PV} (h1:reify S im k a=some a2) (h2:reify S im k b=some b2):reify S im (k+1) (.tup [a,b])=some (.tup [a2,b2]):=by
 simp [reify,h1,h2]

def yfg (p:List Txt) (k0:Nat) (w:List Int):Prop :=
 ∃ k f l:Nat,w=[(k:Int),(f:Int),(l:Int)]∧1≤k∧k<k0∧1≤l∧f+l≤p.length∧∀ j,f≤j→j<f+l→ye7 p k j=true
theorem yfg.up {p:List Txt} {k k':Nat} (h:k≤k') {w:List Int} (hw:yfg p k w):yfg p k' w:=by
 obtain ⟨a,f,l,h1,h2,h3,h4⟩:=hw
 exact ⟨a,f,l,h1,h2,by omega,h4⟩
theorem Sm.grid {p:List Txt} (h:zhg p=true):Sm p:=by
 have:=zfv h
 exact ⟨by omega,fun r hr=>by have:=this.2.2 r hr; omega⟩
def walls (p:List Txt):List (List Int):=(uprights p).map (0 :: ·)++(uprights (ye0 p)).map (1 :: ·)
theorem z5l (row:Txt):∀ (n:Int),n≤zg8 n row∧∀ (k:Nat) (c:UInt8),row[k]?=some c→(c.toNat:Int) - 97+1≤zg8 n row:=by
 induction row with
 | nil=>intro n; exact ⟨Int.le_refl _,by simp⟩
 | cons a row ih =>
  intro n
  have h:=ih (max n ((a.toNat:Int) - 97+1))
  have e:zg8 n (a::row)=zg8 (max n ((a.toNat:Int) - 97+1)) row:=rfl
  rw [e]
  refine ⟨by omega,?_⟩
  rintro (_ | k) c hc
  ·simp at hc; subst hc; omega
  simp at hc; exact h.2 k c hc
theorem z1x (p:List Txt):∀ (n:Int),n≤p.foldl zg8 n∧∀ (i k:Nat) (row:Txt) (c:UInt8),p[i]?=some row→row[k]?=some c→(c.toNat:Int) - 97+1≤p.foldl zg8 n:=by
 induction p with
 | nil=>intro n; exact ⟨Int.le_refl _,by simp⟩
 | cons r p ih =>
  intro n
  have h:=ih (zg8 n r)
  have h2:=z5l r n
  simp only[List.foldl_cons]
  refine ⟨by omega,?_⟩
  rintro (_ | i) k row c hr hc
  ·simp at hr; subst hr
   have:=h2.2 k c hc; omega
  simp at hr; exact h.2 i k row c hr hc
def orBit (ms:List Nat) (a b:Nat):List Nat:=ms.set a ((ms[a]?.getD 0) ||| 2 ^ b)
def yd8 (a:Nat) (ms:List Nat) (bs:List Int):List Nat:=bs.foldl (fun ms b=>orBit ms a b.toNat) ms
def yd7 (bs:List Int) (ms:List Nat) (la:List Int):List Nat:=la.foldl (fun ms a=>yd8 a.toNat ms bs) ms
def yae (p:List Txt) (w:List Int):List Int × List Int :=
 match w with
 | [kind,line,fr,long]=>z5x p kind.toNat line.toNat fr.toNat long.toNat
 | _=>([],[])
def yfj (p:List Txt) (kind:Int) (ms:List Nat) (w:List Int):List Nat :=
 if w[0]?.getD 0=kind then yd7 (yae p w).2 ms (yae p w).1 else ms
def just (p:List Txt) (kind:Int):List Nat:=(walls p).foldl (yfj p kind) (List.replicate (zib p).toNat 0)
def z9i (c:Nat) (ms:List Nat) (a:Nat):List Nat:=if (ms[a]?.getD 0).testBit c then ms.set a ((ms[a]?.getD 0) ||| (ms[c]?.getD 0)) else ms
def allC (n:Nat) (ms:List Nat) (c:Nat):List Nat:=(List.range n).foldl (z9i c) ms
def allS (p:List Txt) (kind:Int):List Nat:=(List.range (just p kind).length).foldl (allC (just p kind).length) (just p kind)
def Msk (n:Nat) (ms:List Nat):Prop:=ms.length=n∧∀ m∈ms,m<512
theorem Msk.get {n:Nat} {ms:List Nat} (h:Msk n ms) (a:Nat):ms[a]?.getD 0<512:=by
 cases e:ms[a]? with
 | none=>simp
 | some m=>simpa using h.2 m (List.mem_of_getElem? e)
theorem z7z {a b:Nat} (ha:a<512) (hb:b<512):a ||| b<512:=Nat.or_lt_two_pow (n:=9) ha hb
theorem Msk.set {n:Nat} {ms:List Nat} (h:Msk n ms) {a m:Nat} (hm:m<512):Msk n (ms.set a m):=by
 refine ⟨by simpa using h.1,fun x hx=>?_⟩
 rcases List.mem_or_eq_of_mem_set hx with h1 | rfl
 ·exact h.2 x h1
 exact hm
theorem Msk.orBit {n:Nat} {ms:List Nat} (h:Msk n ms) {a b:Nat} (hb:b<9):Msk n (orBit ms a b) :=
 h.set (z7z (h.get a) (Nat.pow_lt_pow_right (by omega) hb))
theorem Msk.foldl {n:Nat} {α:Type} {f:List Nat→α→List Nat}:∀ {l:List α} {ms:List Nat},(∀ ms,Msk n ms→∀ a∈l,Msk n (f ms a))→Msk n ms→Msk n (l.foldl f ms)
 | [],ms,_,h=>h
 | a::l,ms,hf,h=>Msk.foldl (l:=l) (fun ms hm x hx=>hf ms hm x (by simp [hx])) (hf ms h a (by simp))
theorem z8h {l:List Int} {x y:Int} (h:y∈zpu l x):y∈l∨y=x:=by
 unfold zpu at h
 split at h
 ·exact .inl h
 simpa using h
theorem zst {S:Store} {im:Bool} {k:Nat} {q:IntKind} (l:List Int):(l.map (PV.int q)).mapM (sh S im (k+1))=some (l.map (PV.int q)) :=
 zbk fun x hx=>by obtain ⟨a,_,rfl⟩:=List.mem_map.1 hx; rfl
theorem zz5 {S:Store} {im:Bool} {v et n:Nat} {cells:List PV} {R:List Ob} (hS:S.obs = .arr v et 1 cells::R) (hc:cells.mapM (sh (S.take 1) im 10)=some cells) :
  ∃ k,sh (S.take k) im 10 (.loc 0 v 0 n)=some (.loc 0 0 0 n)∧zhx (S.take k) im (S.take k).obs=some [.arr 0 et 1 cells]:=by
 refine ⟨1,?_,?_⟩
 ·simp [sh,Store.take,hS]
 have e:(S.take 1).obs=[.arr v et 1 cells]:=by simp [Store.take,hS]
 rw [e]
 simp [zhx,zv8,hc]
theorem zfp {α β:Type} {f:β→α→β} {z:β} {l:List α} {i:Nat} {a:α} (h:l[i]?=some a):(l.take (i+1)).foldl f z=f ((l.take i).foldl f z) a:=by
 simp [tk h,List.foldl_append]
theorem Msk.at_ {n:Nat} {ms:List Nat} (h:Msk n ms) {a:Nat} (ha:a<n):∃ m,ms[a]?=some m∧m<512:=by
 obtain ⟨m,hm,h2⟩:=zai (show a<ms.length by rw [h.1]; exact ha)
 exact ⟨m,hm,h.2 m h2⟩
theorem zef {a b:Int} (h:a≤b):(a≤b)=True:=eq_true h
theorem z7y {ms:List Nat} {a b m:Nat} (h:ms[a]?=some m):orBit ms a b=ms.set a (m ||| 2 ^ b):=by simp [orBit,h]
theorem zbw {α:Type} {f:α→PV} {l:List α} {a:Nat} {v:PV} (h:a<l.length):(l.map f).take a++[v]++(l.map f).drop (a+1)=(l.map f).set a v:=by
 rw [List.set_eq_take_append_cons_drop,if_pos (by simpa using h)]; simp
theorem zc0 {l:List Int} {q:IntKind} {a:Nat} {m:Int}:(l.map (PV.int q)).set a (.int q m)=(l.set a m).map (PV.int q):=by
 rw [List.map_set]
theorem zca {β:Type} {f:β→Nat→β} {z:β} {i:Nat}:(List.range (i+1)).foldl f z=f ((List.range i).foldl f z) i:=by
 simp [qS,List.foldl_append]
theorem z6u {ms:List Nat} {c a m k:Nat} (h:ms[a]?=some m) (hc:ms[c]?=some k) (hb:m.testBit c=true):z9i c ms a=ms.set a (m ||| k):=by simp [z9i,h,hc,hb]
theorem yar {ms:List Nat} {c a m:Nat} (h:ms[a]?=some m) (hb:m.testBit c=false):z9i c ms a=ms:=by simp [z9i,h,hb]

def Bnd (n:Nat) (M:Int) (l:List Int):Prop:=l.length=n∧∀ x∈l,0≤x∧x≤M
theorem Bnd.at_ {n:Nat} {M:Int} {l:List Int} (h:Bnd n M l) {a:Nat} (ha:a<n):∃ x,l[a]?=some x∧0≤x∧x≤M:=by
 obtain ⟨x,hx,hm⟩:=zai (show a<l.length by rw [h.1]; exact ha)
 exact ⟨x,hx,h.2 x hm⟩
theorem Bnd.up {n:Nat} {M M':Int} {l:List Int} (h:Bnd n M l) (hM:M≤M'):Bnd n M' l:=⟨h.1,fun x hx=>by have:=h.2 x hx; omega⟩
theorem Bnd.set {n:Nat} {M:Int} {l:List Int} (h:Bnd n M l) {a:Nat} {x:Int} (h0:0≤x) (hx:x≤M):Bnd n M (l.set a x):=by
 refine ⟨by simpa using h.1,fun y hy=>?_⟩
 rcases List.mem_or_eq_of_mem_set hy with h1 | rfl
 ·exact h.2 y h1
 exact ⟨h0,hx⟩
theorem Bnd.zero {n:Nat}:Bnd n 0 (List.replicate n 0):=⟨by simp,fun x hx=>by rw [(List.mem_replicate.1 hx).2]; omega⟩
def zdf (l:List Int) (a:Nat):Int:=l[a]?.getD 0
theorem zdc {l:List Int} {a:Nat} {x:Int} (h:l[a]?=some x):zdf l a=x:=by simp [zdf,h]
def zrk (ms:List Nat) (a b:Nat):Bool:=(ms[a]?.getD 0).testBit b
theorem znc {ms:List Nat} {a b m:Nat} (h:ms[a]?=some m):zrk ms a b=m.testBit b:=by simp [zrk,h]
def plB (sets:List Nat) (needs:List Int) (a:Nat) (out:List Int) (b:Nat):List Int :=
 if zrk sets a b then out.set b (max (zdf out b) (zdf out a+zdf needs a)) else out
def plA (sets:List Nat) (needs:List Int) (out:List Int) (a:Nat):List Int:=(List.range needs.length).foldl (plB sets needs a) out
def plN (sets:List Nat) (needs:List Int) (out:List Int) (_:Nat):List Int:=(List.range needs.length).foldl (plA sets needs) out
def places (sets:List Nat) (needs:List Int):List Int:=(List.range needs.length).foldl (plN sets needs) (List.replicate needs.length 0)
def least (sets:List Nat) (needs:List Int):Int:=(List.range needs.length).foldl (fun m a=>max m (zdf (places sets needs) a+zdf needs a)) 0
theorem zei:∀ (n:Nat),repz [PV.int .i64 0] n=(List.replicate n 0).map (PV.int .i64)
 | 0=>rfl
 | n+1=>by rw [zg7,zei n,List.replicate_succ]; rfl
theorem znp:∀ (n:Nat),repz [PV.str []] n=(List.replicate n []).map PV.str
 | 0=>rfl
 | n+1=>by rw [zg7,znp n,List.replicate_succ]; rfl
theorem z5v {l:List Txt} {a:Nat} {m:Txt}:(l.map PV.str).set a (.str m)=(l.set a m).map PV.str:=by
 rw [List.map_set]
theorem ztj {α:Type} {l:List α} {z:α} {i:Nat} {a:α} (h:l[i]?=some a):((l.take i)++List.replicate (l.length - i) z).set i a=(l.take (i+1))++List.replicate (l.length - (i+1)) z:=by
 have hi:=zbd h
 apply List.ext_getElem?
 intro j
 rw [List.getElem?_set]
 by_cases hj:i=j
 ·subst hj
  have e1:i<(l.take i++List.replicate (l.length - i) z).length:=by simp; omega
  rw [if_pos rfl,if_pos e1,tk h,List.append_assoc,List.getElem?_append_right (by simp; omega)]
  simp [Nat.min_eq_left (Nat.le_of_lt hi)]
 rw [if_neg hj]
 by_cases hlt:j<i
 ·rw [List.getElem?_append_left (by simp; omega),List.getElem?_append_left (by simp; omega)]
  simp [List.getElem?_take,hlt,show j<i+1 by omega]
 rw [List.getElem?_append_right (by simp; omega),List.getElem?_append_right (by simp; omega)]
 simp only[List.length_take,Nat.min_eq_left (Nat.le_of_lt hi),Nat.min_eq_left (show i+1≤l.length by omega),List.getElem?_replicate]
 have:(j - i<l.length - i)=(j - (i+1)<l.length - (i+1)):=by apply propext; omega
 simp [this]
def ycx:List Txt→Nat
 | []=>0
 | r::p=>r.length+ycx p
def sz (p:List Txt) (left:Int):Int:=if (p.length+ycx p:Nat)≤left then left - (p.length+ycx p:Nat) else -1
theorem zm5 {α:Type} {p q:List α} {i:Nat} {x y:α} (h:p.take i=q.take i) (hx:p[i]?=some x) (hy:q[i]?=some y) (e:x=y):p.take (i+1)=q.take (i+1):=by
 rw [tk hx,tk hy,h,e]
section
abbrev zdl (g:List (List Int)):PV := .sl (g.map eInts) g.length
structure Rect where
 row:Int
 col:Int
 high:Int
 wide:Int
 deriving DecidableEq
def Rect.cells (r:Rect):List PV:=[.int .i64 r.row,.int .i64 r.col,.int .i64 r.high,.int .i64 r.wide]
abbrev zrr (r:Rect):PV := .agg r.cells
def rcs (rs:List Rect):List PV:=rs.flatMap Rect.cells
abbrev z9o (rs:List Rect):PV := .sl (rcs rs) rs.length
abbrev zat (g:List (List Int)) (rs:List Rect):PV := .ip [zdl g,z9o rs] 0
theorem zbt (rs:List Rect):(rcs rs).length=rs.length*4:=by
 induction rs with
 | nil=>rfl
 | cons r rs ih=>simp only[rcs,List.flatMap_cons,List.length_append,List.length_cons]at ih ⊢; rw [ih]; simp [Rect.cells]; omega
theorem zsi (rs ss:List Rect):rcs (rs++ss)=rcs rs++rcs ss:=by simp [rcs]
theorem zk6 (r:Rect) (rs:List Rect):rcs (r::rs)=r.cells++rcs rs:=rfl
theorem z8j (rs:List Rect) (n:Nat):(rcs rs).take (n*4)=rcs (rs.take n):=by
 induction rs generalizing n with
 | nil=>simp [rcs]
 | cons r rs ih =>
  cases n with
  | zero=>simp [rcs]
  | succ n =>
   rw [zk6,List.take_succ_cons,zk6,← ih n]
   rw [show (n+1)*4=r.cells.length+n*4 by simp [Rect.cells]; omega,List.take_length_add_append]
theorem zzq (rs:List Rect) (n:Nat):(rcs rs).drop (n*4)=rcs (rs.drop n):=by
 induction rs generalizing n with
 | nil=>simp [rcs]
 | cons r rs ih =>
  cases n with
  | zero=>simp
  | succ n =>
   rw [zk6,List.drop_succ_cons,← ih n]
   rw [show (n+1)*4=r.cells.length+n*4 by simp [Rect.cells]; omega,List.drop_length_add_append]
theorem zk5 {rs:List Rect} {n:Nat} {r:Rect} (h:rs[n]?=some r):((rcs rs).drop (n*4)).take 4=r.cells:=by
 rw [zzq]
 have:rs.drop n=r::rs.drop (n+1):=by
  obtain ⟨hn,rfl⟩:=List.getElem?_eq_some_iff.1 h
  exact List.drop_eq_getElem_cons hn
 rw [this,zk6]
 simp [Rect.cells]
theorem ycb {rs:List Rect} {n:Nat} {r:Rect} (h:n<rs.length):(rcs rs).take (n*4)++r.cells++(rcs rs).drop (n*4+4)=rcs (rs.set n r):=by
 rw [z8j,show n*4+4=(n+1)*4 by omega,zzq,show r.cells=rcs [r] by simp [rcs],← zsi,← zsi]
 congr 1
 rw [List.set_eq_take_append_cons_drop,if_pos h]
 simp
def ixf {α:Type} (test:α→Bool) (l:List α):Int :=
 match l.findIdx? test with
 | some i=>i
 | none => -1
theorem yd6 {α:Type} {test:α→Bool} {l:List α} {i:Nat} {x:α} (h:l[i]?=some x) (hall:(l.take i).any test=false) (hx:test x=true):ixf test l=i:=by
 have:l.findIdx? test=some i:=by
  obtain ⟨hi,rfl⟩:=List.getElem?_eq_some_iff.1 h
  rw [List.findIdx?_eq_some_iff_getElem]
  refine ⟨hi,hx,fun j hj=>?_⟩
  rw [List.any_eq_false]at hall
  have:=hall l[j] (by rw [List.mem_take_iff_getElem]; exact ⟨j,by omega,rfl⟩)
  simpa using this
 simp [ixf,this]
theorem zy0 {α:Type} {test:α→Bool} {l:List α} (hall:l.any test=false):ixf test l = -1:=by
 have:l.findIdx? test=none:=by
  rw [List.findIdx?_eq_none_iff]
  intro x hx
  rw [List.any_eq_false]at hall
  simpa using hall x hx
 simp [ixf,this]
theorem ybj {α:Type} {test:α→Bool} {l:List α}:decide (0≤ixf test l)=l.any test:=by
 cases h:l.any test with
 | false=>rw [zy0 h]; rfl
 | true =>
  unfold ixf
  cases hi:l.findIdx? test with
  | none =>
   rw [List.findIdx?_eq_none_iff]at hi
   rw [List.any_eq_true]at h
   obtain ⟨x,hx,hx2⟩:=h
   rw [hi x hx]at hx2; cases hx2
  | some i=>simp
theorem ydj {α:Type} {f:α→Bool} {l:List α} {i:Nat} {a:α} (h:l[i]?=some a) (h1:(l.take i).any f=false) (h2:f a=false):(l.take (i+1)).any f=false:=by
 rw [tk h,List.any_append,h1]; simp [h2]
def Rect.both (b o:Rect):Rect:=⟨min b.row o.row,min b.col o.col,max (b.row+b.high) (o.row+o.high) - min b.row o.row,max (b.col+b.wide) (o.col+o.wide) - min b.col o.col⟩
def Rect.In (M:Int) (r:Rect):Prop:=0≤r.row∧r.row≤M∧0≤r.col∧r.col≤M∧0≤r.high∧r.high≤M∧0≤r.wide∧r.wide≤M
theorem z8m {S:Store} {im:Bool} {k:Nat} {g:FuncId} {cap:List PV}:reify S im (k+1) (.fn g cap)=(cap.mapM (reify S im k)).map (.fn g):=rfl
section
variable {S:Store} {k f lo:Nat} {sel:List Nat} {fr:Nat→Bool} {im:Bool}
theorem zbn {q:IntKind} {n:Int}:rn S k sel (f+1) (.int q n)=some (.int q n):=rfl
theorem za3 {b:Bool}:rn S k sel (f+1) (.bool b)=some (.bool b):=rfl
theorem zbq {b:Txt}:rn S k sel (f+1) (.str b)=some (.str b):=rfl
theorem zcn {cs:List PV} {n:Nat}:rn S k sel (f+1) (.sl cs n)=some (.sl cs n):=rfl
theorem zcl {cs:List PV} {n:Nat}:rn S k sel (f+1) (.ip cs n)=some (.ip cs n):=rfl
theorem za5:rn S k sel (f+1) .nils=some .nils:=rfl
theorem za4:rn S k sel (f+1) .nilp=some .nilp:=rfl
theorem zas:rn S k sel (f+1) .undef=some .undef:=rfl
theorem zbm {cs:List PV}:rn S k sel (f+1) (.agg cs)=(cs.mapM (rn S k sel f)).map .agg:=rfl
theorem zbr {cs:List PV}:rn S k sel (f+1) (.tup cs)=(cs.mapM (rn S k sel f)).map .tup:=rfl
theorem zck {g:FuncId} {cs:List PV}:rn S k sel (f+1) (.fn g cs)=(cs.mapM (rn S k sel f)).map (.fn g):=rfl
theorem zbo {o ver off n:Nat}:rn S k sel (f+1) (.loc o ver off n)=(if o<k then some (.loc o ver off n) else
   if sel.contains o then (match S.obs[o]? with | some (.arr v _ _ _)=>if v=ver then some (.loc (k+sel.idxOf o) S.tick off n) else none | _=>none)
   else rfq S (zeq k sel) 10 (.loc o ver off n)):=rfl
theorem zbp {o ver off:Nat}:rn S k sel (f+1) (.ref o ver off)=(if o<k then some (.ref o ver off) else
   if sel.contains o then (match S.obs[o]? with | some (.arr v _ _ _)=>if v=ver then some (.ref (k+sel.idxOf o) S.tick off) else none | _=>none)
   else rfq S (zeq k sel) 10 (.ref o ver off)):=rfl
theorem zcm {o ver:Nat}:rn S k sel (f+1) (.mp o ver)=(if o<k then some (.mp o ver) else
   if sel.contains o then (match S.obs[o]? with | some (.map v _)=>if v=ver then some (.mp (k+sel.idxOf o) S.tick) else none | _=>none)
   else none):=rfl
theorem za1 {o ver off n:Nat}:rfq S fr (f+1) (.loc o ver off n)=(match S.obs[o]? with
   | some (.arr v _ sz cells)=>if fr o=true∧v=ver∧off+n*sz≤cells.length then (((cells.drop off).take (n*sz)).mapM (rfq S fr f)).map (.sl · n) else none
   | _=>none):=rfl
theorem za0 {q:IntKind} {n:Int}:rfq S fr (f+1) (.int q n)=some (.int q n):=rfl
theorem zaq {b:Bool}:rfq S fr (f+1) (.bool b)=some (.bool b):=rfl
theorem za2 {b:Txt}:rfq S fr (f+1) (.str b)=some (.str b):=rfl
theorem zbl {cs:List PV} {n:Nat}:rfq S fr (f+1) (.sl cs n)=some (.sl cs n):=rfl
theorem zak {old:Bool}:zo9 S k sel old []=some []:=rfl
theorem zah {old:Bool} {o:Nat} {r:List Nat}:zo9 S k sel old (o::r)=((S.obs[o]?).bind (z1w S k sel old)).bind fun a=>(zo9 S k sel old r).map (a :: ·):=rfl
theorem zap {old:Bool} {ver et sz:Nat} {cells:List PV}:z1w S k sel old (.arr ver et sz cells)=(cells.mapM (rn S k sel 10)).map (.arr (if old then ver else S.tick) et sz ·):=rfl
theorem zar {old:Bool} {ver:Nat} {es:List (PV × PV)}:z1w S k sel old (.map ver es)=(es.mapM fun q=>(rn S k sel 10 q.1).bind fun a=>(rn S k sel 10 q.2).map fun b=>(a,b)).map (.map (if old then ver else S.tick) ·):=rfl
theorem zbi:S.rn k sel=(if sel.all (fun o=>decide (k≤o)) && decide sel.Nodup && decide (k≤S.obs.length) then
  (zo9 S k sel true (List.range k)).bind fun a=>(zo9 S k sel false sel).map fun b=>⟨a++b,S.tick+1⟩
 else none):=rfl
def scal:PV→Bool
 | .int _ _ | .bool _ | .str _=>true
 | _=>false
theorem zso {l:List PV} (h:l.all scal=true):l.mapM (rn S k sel (f+1))=some l:=by
 rw [List.all_eq_true]at h
 exact zbk fun x hx=>by have:=h x hx; cases x <;> simp [scal]at this <;> rfl
theorem zl5 {l:List PV} (h:l.all scal=true):l.mapM (reify S im (f+1))=some l:=by
 rw [List.all_eq_true]at h
 exact zbk fun x hx=>by have:=h x hx; cases x <;> simp [scal]at this <;> rfl
theorem yco {l:List PV} (h:l.all scal=true):l.mapM (sh S im (f+1))=some l:=by
 rw [List.all_eq_true]at h
 exact zbk fun x hx=>by have:=h x hx; cases x <;> simp [scal]at this <;> rfl
theorem zzz (rs:List Rect):(rcs rs).all scal=true:=by
 induction rs with
 | nil=>rfl
 | cons r rs ih=>rw [zk6,List.all_append,ih]; rfl
end
end
theorem zd8 (g:List (List Int)) (rs:List Rect):PC Tryz.prog 60 [zat g rs] (.int .i64 g.length) true:=by
 refine PC.of ⟨Tryz.func60,by kernel_rfl,rfl,by kernel_rfl⟩ zao mixed (by show 1≤Tryz.f60.ntmps; decide) ?_
 refine W.r fun K hK=>?_
 simp(disch:=omega)only[↓RU,RV,RH,↓reduceIte,qE,reduceCtorEq,if_pos,↓RS,RG,qA,qM,qL]
 apply hK;clear hK K
 refine W.r fun K hK=>?_
 simp(disch:=omega)only[↓RU,RV,RH,↓reduceIte,qE,reduceCtorEq,if_pos,↓RS,RG,qA,qM,qL,ty1,ty5,zab,zc9,zb0,zct,zaa,zda,zcu]
 apply hK;clear hK K
 refine W.ret ?_
 refine Br rfl ?_
 rfl
theorem zem {g:List (List Int)} {row:List Int} (h:g[0]?=some row) (rs:List Rect):PC Tryz.prog 73 [zat g rs] (.int .i64 row.length) true:=by
 have hl:=zbd h
 refine PC.of ⟨Tryz.func73,by kernel_rfl,rfl,by kernel_rfl⟩ zao mixed (by show 1≤Tryz.f73.ntmps; decide) ?_
 refine W.r fun K hK=>?_
 simp(disch:=omega)only[↓RU,RV,RH,↓reduceIte,qE,reduceCtorEq,if_pos,↓RS,RG,qA,qM,qL]
 apply hK;clear hK K
 refine W.r fun K hK=>?_
 simp(disch:=omega)only[↓RU,RV,RH,↓reduceIte,qE,reduceCtorEq,if_pos,↓RS,RG,qA,qM,qL,ty1,ty5,zab,zc9,zb0,zct,zaa,zda,zcu,h,Int.toNat_zero,Nat.zero_mul,qZ]
 apply hK;clear hK K
 refine W.ret ?_
 refine Br rfl ?_
 rfl
theorem yas {r:Rect} (h1:0≤r.high*r.wide) (h2:r.high*r.wide≤1048576):PC Tryz.prog 109 [zrr r] (.int .i64 (r.high*r.wide)) true:=by
 simp only[zrr,Rect.cells]
 refine PC.of ⟨Tryz.func109,by kernel_rfl,rfl,by kernel_rfl⟩ zao mixed (by show 1≤Tryz.f109.ntmps; decide) ?_
 refine W.r fun K hK=>?_
 simp(disch:=omega)only[↓RU,RV,RH,↓reduceIte,qE,reduceCtorEq,if_pos,↓RS,RG,qA,qM,qL,zct,zaa,zcu]
 apply hK;clear hK K
 refine W.r fun K hK=>?_
 simp(disch:=omega)only[↓RU,RV,RH,↓reduceIte,qE,reduceCtorEq,if_pos,w64,↓RS,RG,qA,qM,qL,zct,zaa,zcu]
 apply hK;clear hK K
 refine W.ret ?_
 refine Br rfl ?_
 rfl
theorem zwc {b o:Rect} (hb:b.In 1000) (ho:o.In 1000):PC Tryz.prog 108 [zrr b,zrr o] (zrr (b.both o)) true:=by
 unfold Rect.In at hb ho
 simp only[zrr,Rect.cells,Rect.both]
 refine PC.of ⟨Tryz.func108,by kernel_rfl,rfl,by kernel_rfl⟩ zao mixed (by show 2≤Tryz.f108.ntmps; decide) ?_
 refine W.r fun K hK=>?_
 simp(disch:=omega)only[↓RU,RV,RH,↓reduceIte,qE,reduceCtorEq,if_pos,↓RS,RG,qA,qM,qL,zct,zaa,zcu]
 apply hK;clear hK K
 refine W.seq_draw (by kernel_rfl) fun K hK=>?_
 simp(disch:=omega)only[↓RU,RV,RH,↓reduceIte,qE,reduceCtorEq,if_pos,zoj,↓RS,RG,qA,qM,qL,zct,zaa,zcu]
 apply hK;clear hK K
 refine W.r fun K hK=>?_
 simp(disch:=omega)only[↓RU,RV,RH,↓reduceIte,qE,reduceCtorEq,if_pos,w64,zjo,↓RS,RG,qA,qM,qL,zct,zaa,zcu]
 apply hK;clear hK K
 refine W.ret ?_
 refine Br rfl ?_
 rfl
theorem zxh (row:List Int) (w:Int) (hr:row.length<2147483648):PC Tryz.prog 106 [eInts row,.ip [.int .i64 w] 0] (.bool (decide ((row.length:Int)≠w))) true:=by
 refine PC.of ⟨Tryz.func106,by kernel_rfl,rfl,by kernel_rfl⟩ zao mixed (by show 2≤Tryz.f106.ntmps; decide) ?_
 refine W.r fun K hK=>?_
 simp(disch:=omega)only[↓RU,RV,RH,↓reduceIte,qE,reduceCtorEq,if_pos,↓RS,RG,qA,qM,qL]
 apply hK;clear hK K
 refine W.r fun K hK=>?_
 simp(disch:=omega)only[↓RU,RV,RH,↓reduceIte,qE,reduceCtorEq,if_pos,w64,↓RS,RG,qA,qM,qL,zab,zaa]
 apply hK;clear hK K
 refine W.ret ?_
 refine Br rfl ?_
 rw [show decide ((row.length:Int)≠w)=((row.length:Int) != w) by rw [z2t]; simp]
 rfl
theorem zww {l:List (List Int)} (hl:l.length<2147483648) {g:FuncId} {cap:List PV} (hc:cap.mapM (reify ⟨[],0⟩ true 10)=some cap) {test:(List Int)→Bool} (hg:∀ x∈l,PC Tryz.prog g (eInts x::cap) (.bool (test x)) true):PC Tryz.prog 141 [zdl l,.fn g cap] (.int .i64 (ixf test l)) true:=by
 refine PC.of ⟨Tryz.func141,by kernel_rfl,rfl,by kernel_rfl⟩ zao mixed (by show 2≤Tryz.f141.ntmps; decide) ?_
 refine W.r fun K hK=>?_
 simp(disch:=omega)only[↓RU,RV,RH,↓reduceIte,qE,reduceCtorEq,if_pos]
 apply hK;clear hK K
 refine W.seq ?_
 refine W.r fun K hK=>?_
 simp(disch:=omega)only[↓RU,RV,RH,↓reduceIte,qE,reduceCtorEq,if_pos,ty1,zab,zb0,zaa]
 apply hK;clear hK K
 refine W.block ?_
 refine W.loop [0,1,6,7,8] (fun n vs S=>∃ i:Nat,n=l.length - i∧i≤l.length∧((l.take i).any test=false)∧vs=[zdl l,.fn g cap,zdl l,.int .i64 l.length,.int .i64 i]∧S=⟨[],0⟩) (l.length) ?_ ?_
 ·refine ⟨0,0,rfl,Nat.zero_le _,rfl,?_,rfl⟩
  simp [Env.put,Env.of,zaf]
 rintro n vs S - ⟨i,rfl,h_i,hall,rfl,rfl⟩
 refine W.r fun K hK=>?_
 simp(disch:=omega)only[↓RU,RV,RH,↓reduceIte,qE,reduceCtorEq,if_pos,w64,zaa]
 apply hK;clear hK K
 refine W.seq ?_
 refine W.cond rfl (fun h=>?_) (fun h=>?_)
 ·try simp only[RL]at h
  obtain ⟨x,hx,hxm⟩:=zai (show i<l.length by omega)
  refine W.skip ?_
  refine xn ?_
  refine W.seq ?_
  refine W.block ?_
  refine W.r fun K hK=>?_
  simp(disch:=omega)only[↓RU,RV,RH,↓reduceIte,qE,reduceCtorEq,if_pos]
  apply hK;clear hK K
  refine W.r fun K hK=>?_
  simp(disch:=omega)only[↓RU,RV,RH,↓reduceIte,qE,reduceCtorEq,if_pos,qN,ty1,zab,zb0,zaa,hx]
  refine zac.pc (hg x hxm) (zgs rfl hc) (.inl rfl) ?_
  simp(disch:=omega)only[↓RU,RV,RH,↓reduceIte,qE,reduceCtorEq,if_pos,qN,ty1,zab,zb0,zaa,hx]
  apply hK;clear hK K
  refine W.cond rfl (fun h1=>?_) (fun h1=>?_)
  ·try simp only[RL]at h1
   refine W.r fun K hK=>?_
   simp(disch:=omega)only[↓RU,RV,RH,↓reduceIte,qE,reduceCtorEq,if_pos]
   apply hK;clear hK K
   refine W.ret ?_
   refine XBlock.ret ?_
   refine XThen.ret ?_
   refine XThen.ret ?_
   refine XBlock.ret ?_
   refine XThen.ret ?_
   refine Br rfl ?_
   rw [yd6 hx hall h1]
   rfl
  try simp only[RL]at h1
  refine W.skip ?_
  refine XbN ?_
  refine xn ?_
  refine W.k fun K hK=>?_
  simp(disch:=omega)only[↓RU,RV,RH,↓reduceIte,qE,reduceCtorEq,if_pos,w64,zaa]
  apply hK;clear hK K
  refine xn ?_
  refine ⟨l.length - (i+1),by omega,0,i+1,rfl,by omega,ydj hx (by assumption) h1,?_,rfl⟩
  simp [Env.put,Env.of]
 try simp only[RL]at h
 refine W.exit ?_
 refine xe ?_
 refine xe ?_
 refine XBlock.hit ?_
 refine xn ?_
 refine W.r fun K hK=>?_
 simp(disch:=omega)only[↓RU,RV,RH,↓reduceIte,qE,reduceCtorEq,if_pos]
 apply hK;clear hK K
 refine W.ret ?_
 refine Br rfl ?_
 have hip:l.take i=l:=qT (by omega)
 rw [hip]at hall
 rw [zy0 hall]
 rfl
theorem zpn {l:List (List Int)} (hl:l.length<2147483648) {g:FuncId} {cap:List PV} (hc9:cap.mapM (reify ⟨[],0⟩ true 9)=some cap) (hc:cap.mapM (reify ⟨[],0⟩ true 10)=some cap) {test:(List Int)→Bool} (hg:∀ x∈l,PC Tryz.prog g (eInts x::cap) (.bool (test x)) true):PC Tryz.prog 105 [zdl l,.fn g cap] (.bool (l.any test)) true:=by
 have hcr:[zdl l,.fn g cap].mapM (reify ⟨[],0⟩ true 10)=some [zdl l,.fn g cap]:=zgs rfl (zgs (by rw [z8m,hc9]; rfl) rfl)
 refine PC.of ⟨Tryz.func105,by kernel_rfl,rfl,by kernel_rfl⟩ zao mixed (by show 2≤Tryz.f105.ntmps; decide) ?_
 refine W.r fun K hK=>?_
 simp(disch:=omega)only[↓RU,RV,RH,↓reduceIte,qE,reduceCtorEq,if_pos]
 apply hK;clear hK K
 refine W.r fun K hK=>?_
 simp(disch:=omega)only[↓RU,RV,RH,↓reduceIte,qE,reduceCtorEq,if_pos,qN,w64,zaa]
 refine zac.pc (zww hl hc hg) hcr (.inl rfl) ?_
 simp(disch:=omega)only[↓RU,RV,RH,↓reduceIte,qE,reduceCtorEq,if_pos,qN,w64,zaa]
 apply hK;clear hK K
 refine W.ret ?_
 refine Br rfl ?_
 rw [← ybj]
 rfl
theorem zty {p q:List Txt} (hp:p.length<2147483648) (hq:q.length<2147483648):PC Tryz.prog 118 [zep p,zep q] (.bool (decide (p=q))) true:=by
 refine PC.of ⟨Tryz.func118,by kernel_rfl,rfl,by kernel_rfl⟩ zao mixed (by show 2≤Tryz.f118.ntmps; decide) ?_
 refine W.r fun K hK=>?_
 simp(disch:=omega)only[↓RU,RV,RH,↓reduceIte,qE,reduceCtorEq,if_pos]
 apply hK;clear hK K
 refine W.seq ?_
 refine W.r fun K hK=>?_
 simp(disch:=omega)only[↓RU,RV,RH,↓reduceIte,qE,reduceCtorEq,if_pos,w64,ty8,zaa,zae]
 apply hK;clear hK K
 refine W.cond rfl (fun h=>?_) (fun h=>?_)
 ·try simp only[RL]at h
  refine W.r fun K hK=>?_
  simp(disch:=omega)only[↓RU,RV,RH,↓reduceIte,qE,reduceCtorEq,if_pos]
  apply hK;clear hK K
  refine W.ret ?_
  refine XThen.ret ?_
  refine Br rfl ?_
  rw [show decide (p=q)=false by simp; rintro rfl; exact h rfl]
  rfl
 try simp only[RL]at h
 refine W.skip ?_
 refine xn ?_
 refine W.seq ?_
 refine W.r fun K hK=>?_
 simp(disch:=omega)only[↓RU,RV,RH,↓reduceIte,qE,reduceCtorEq,if_pos,ty8,zae]
 apply hK;clear hK K
 refine W.block ?_
 refine W.loop [0,1,11,12,13] (fun n vs S=>∃ i:Nat,n=p.length - i∧i≤p.length∧(p.take i=q.take i)∧vs=[zep p,zep q,zep p,.int .i64 p.length,.int .i64 i]∧S=⟨[],0⟩) (p.length) ?_ ?_
 ·refine ⟨0,0,rfl,Nat.zero_le _,rfl,?_,rfl⟩
  simp [Env.put,Env.of,zaf]
 rintro n vs S - ⟨i,rfl,h_i,htk,rfl,rfl⟩
 refine W.r fun K hK=>?_
 simp(disch:=omega)only[↓RU,RV,RH,↓reduceIte,qE,reduceCtorEq,if_pos,w64,zaa]
 apply hK;clear hK K
 refine W.seq ?_
 refine W.cond rfl (fun h1=>?_) (fun h1=>?_)
 ·try simp only[RL]at h1
  obtain ⟨x,hx,-⟩:=zai (show i<p.length by omega)
  obtain ⟨y,hy,-⟩:=zai (show i<q.length by omega)
  refine W.skip ?_
  refine xn ?_
  refine W.seq ?_
  refine W.block ?_
  refine W.r fun K hK=>?_
  simp(disch:=omega)only[↓RU,RV,RH,↓reduceIte,qE,reduceCtorEq,if_pos]
  apply hK;clear hK K
  refine W.seq_draw (by kernel_rfl) fun K hK=>?_
  simp(disch:=omega)only[↓RU,RV,RH,↓reduceIte,qE,reduceCtorEq,if_pos,w64,ty8,zae,hx,hy]
  apply hK;clear hK K
  refine W.cond rfl (fun h2=>?_) (fun h2=>?_)
  ·try simp only[RL]at h2
   refine W.r fun K hK=>?_
   simp(disch:=omega)only[↓RU,RV,RH,↓reduceIte,qE,reduceCtorEq,if_pos]
   apply hK;clear hK K
   refine W.ret ?_
   refine XBlock.ret ?_
   refine XThen.ret ?_
   refine XThen.ret ?_
   refine XBlock.ret ?_
   refine XThen.ret ?_
   refine Br rfl ?_
   rw [show decide (p=q)=false by simp; rintro rfl; rw [hx]at hy; simp_all]
   rfl
  try simp only[RL]at h2
  refine W.skip ?_
  refine XbN ?_
  refine xn ?_
  refine W.k fun K hK=>?_
  simp(disch:=omega)only[↓RU,RV,RH,↓reduceIte,qE,reduceCtorEq,if_pos,w64,zaa]
  apply hK;clear hK K
  refine xn ?_
  refine ⟨p.length - (i+1),by omega,0,i+1,rfl,by omega,zm5 htk hx hy h2,?_,rfl⟩
  simp [Env.put,Env.of]
 try simp only[RL]at h1
 refine W.exit ?_
 refine xe ?_
 refine xe ?_
 refine XBlock.hit ?_
 refine xn ?_
 refine W.r fun K hK=>?_
 simp(disch:=omega)only[↓RU,RV,RH,↓reduceIte,qE,reduceCtorEq,if_pos]
 apply hK;clear hK K
 refine W.ret ?_
 refine Br rfl ?_
 have h1:p.take i=p:=qT (by omega)
 have h2:q.take i=q:=qT (by omega)
 rw [show decide (p=q)=true by simp; rw [← h1,← h2]; exact htk]
 rfl
def GW (g:List (List Int)) (H W:Nat):Prop:=g.length=H∧(∀ r∈g,r.length=W)∧1≤H∧H≤6∧1≤W∧W≤6
def gz (g:List (List Int)) (i j:Nat):Int:=(g[i]?.getD [])[j]?.getD 0
theorem GW.at_ {g:List (List Int)} {H W:Nat} (h:GW g H W) {i j:Nat} (hi:i<H) (hj:j<W):∃ row,g[i]?=some row∧row.length=W∧row[j]?=some (gz g i j):=by
 obtain ⟨row,hr,hm⟩:=zai (show i<g.length by rw [h.1]; exact hi)
 have hl:=h.2.1 row hm
 obtain ⟨x,hx,-⟩:=zai (show j<row.length by omega)
 exact ⟨row,hr,hl,by simp [gz,hr,hx]⟩
def zb7 (g:List (List Int)) (level:Bool) (line at_:Nat):Int × Int:=if level then (gz g (line - 1) at_,gz g line at_) else (gz g at_ (line - 1),gz g at_ line)
def InL (H W:Nat) (level:Bool) (line at_:Nat):Prop:=1≤line∧if level then line<H∧at_<W else line<W∧at_<H
structure Wall where
 level:Bool
 line:Int
 fr:Int
 long:Int
def Wall.cells (w:Wall):List PV:=[.bool w.level,.int .i64 w.line,.int .i64 w.fr,.int .i64 w.long]
abbrev yd0 (w:Wall):PV := .agg w.cells
def wcs (ws:List Wall):List PV:=ws.flatMap Wall.cells
abbrev zqc (ws:List Wall):PV := .sl (wcs ws) ws.length
theorem znu (r:Wall) (rs:List Wall):wcs (r::rs)=r.cells++wcs rs:=rfl
theorem zsy (rs ss:List Wall):wcs (rs++ss)=wcs rs++wcs ss:=by simp [wcs]
theorem zho (rs:List Wall):(wcs rs).length=rs.length*4:=by
 induction rs with
 | nil=>rfl
 | cons r rs ih=>rw [znu,List.length_append,ih,List.length_cons]; simp [Wall.cells]; omega
theorem ye8 {ws:List Wall} {n:Nat} {w:Wall} (h:ws[n]?=some w):((wcs ws).drop (n*4)).take 4=w.cells:=by
 induction ws generalizing n with
 | nil=>simp at h
 | cons a ws ih =>
  cases n with
  | zero=>simp at h; subst h; rw [znu]; simp [Wall.cells]
  | succ n =>
   simp at h
   rw [znu,show (n+1)*4=a.cells.length+n*4 by simp [Wall.cells]; omega,List.drop_length_add_append]
   exact ih h
def zd1 (d:Bool) (level:Bool) (line at_:Nat) (s:List Wall × Bool):List Wall × Bool :=
 if d && s.2 then (s.1.dropLast++(s.1.getLast?.map fun w=>{ w with long:=w.long+1 }).toList,d)
 else if d then (s.1++[⟨level,line,at_,1⟩],d) else (s.1,d)
def znh (g:List (List Int)) (level:Bool) (line at_:Nat):Bool:=decide ((zb7 g level line at_).1≠(zb7 g level line at_).2)
def zbs (g:List (List Int)) (level:Bool) (line:Nat) (ws:List Wall) (n:Nat):List Wall × Bool :=
 (List.range n).foldl (fun s at_=>zd1 (znh g level line at_) level line at_ s) (ws,false)
def zbz (g:List (List Int)) (level:Bool) (places:Nat) (ws:List Wall) (line:Nat):List Wall :=
 (List.range line).foldl (fun ws l=>if 1≤l then (zbs g level l ws places).1 else ws) ws
def zb8 (g:List (List Int)) (H W:Nat):List Wall:=zbz g true W (zbz g false H [] W) H
theorem zdr {g:List (List Int)} {level:Bool} {line:Nat} {ws:List Wall} {n:Nat}:zbs g level line ws (n+1)=zd1 (znh g level line n) level line n (zbs g level line ws n):=by
 unfold zbs; rw [zca]
theorem zeb {g:List (List Int)} {level:Bool} {places:Nat} {ws:List Wall} {line:Nat} (h:1≤line):zbz g level places ws (line+1)=(zbs g level line (zbz g level places ws line) places).1:=by
 unfold zbz; rw [zca,if_pos h]
theorem zx0 {d level:Bool} {line at_:Nat} {s:List Wall × Bool} (h:s.2=true→s.1≠[]):(zd1 d level line at_ s).2=d∧(d=true→(zd1 d level line at_ s).1≠[])∧(zd1 d level line at_ s).1.length≤s.1.length+1∧s.1.length≤(zd1 d level line at_ s).1.length:=by
 unfold zd1
 cases d with
 | false=>simp
 | true =>
  cases ho:s.2 with
  | false=>simp
  | true =>
   have:=h ho
   cases hl:s.1.getLast? with
   | none=>rw [List.getLast?_eq_none_iff]at hl; exact absurd hl this
   | some w =>
    have:0<s.1.length:=List.length_pos_iff.2 this
    simp; omega
theorem zj6 (g:List (List Int)) (level:Bool) (line:Nat) (ws:List Wall):∀ n,((zbs g level line ws n).2=true→(zbs g level line ws n).1≠[])∧(zbs g level line ws n).1.length≤ws.length+n∧ws.length≤(zbs g level line ws n).1.length
 | 0=>by simp [zbs]
 | n+1=>by
  have ih:=zj6 g level line ws n
  have:=zx0 (d:=znh g level line n) (level:=level) (line:=line) (at_:=n) ih.1
  rw [zdr]
  refine ⟨fun h=>this.2.1 (this.1 ▸ h),by omega,by omega⟩
theorem zhp (g:List (List Int)) (level:Bool) {places:Nat} (hp:places≤6) (ws:List Wall):∀ line,(zbz g level places ws line).length≤ws.length+6*line
 | 0=>by simp [zbz]
 | line+1=>by
  have ih:=zhp g level hp ws line
  by_cases h:1≤line
  ·rw [zeb h]
   have:=(zj6 g level line (zbz g level places ws line) places).2.1
   omega
  have:line=0:=by omega
  subst this
  simp [zbz]at ih ⊢
theorem zj5 (g:List (List Int)) (level:Bool) (line:Nat) {ws:List Wall} {M:Int} (hM:1≤M) (hws:∀ w∈ws,0≤w.long∧w.long≤M):∀ n:Nat,∀ w∈(zbs g level line ws n).1,0≤w.long∧w.long≤M+n
 | 0,w,h=>by simp [zbs]at h; have:=hws w h; omega
 | n+1,w,h=>by
  have ih:=zj5 g level line hM hws n
  rw [zdr]at h
  unfold zd1 at h
  split at h
  ·simp only[List.mem_append,Option.mem_toList,Option.mem_def,qI]at h
   rcases h with h | ⟨u,hu,rfl⟩
   ·have:=ih w ((List.dropLast_sublist _).subset h); omega
   have:=ih u (List.mem_of_getLast? hu); simp only; omega
  split at h
  ·simp only[List.mem_append,List.mem_singleton]at h
   rcases h with h | rfl
   ·have:=ih w h; omega
   simp only; omega
  have:=ih w h; omega
theorem zgw (g:List (List Int)) (level:Bool) {places:Nat} (hp:places≤6) {ws:List Wall} {M:Int} (hM:1≤M) (hws:∀ w∈ws,0≤w.long∧w.long≤M):∀ line:Nat,∀ w∈zbz g level places ws line,0≤w.long∧w.long≤M+6*line
 | 0,w,h=>by simp [zbz]at h; have:=hws w h; omega
 | line+1,w,h=>by
  have ih:=zgw g level hp hM hws line
  by_cases hl:1≤line
  ·rw [zeb hl]at h
   have:=zj5 g level line (M:=M+6*line) (by omega) ih places w h
   omega
  have:line=0:=by omega
  subst this
  simp [zbz]at h
  have:=hws w h; omega
theorem zz0 (ws:List Wall):(wcs ws).all scal=true:=by
 induction ws with
 | nil=>rfl
 | cons r rs ih=>rw [znu,List.all_append,ih]; rfl
def slW (ws:List Wall) (v:Nat):PV:=match ws with | [] => .nils | _ => .loc 0 v 0 ws.length
def stW (ws:List Wall) (v t:Nat):Store:=match ws with | []=>⟨[],t⟩ | _=>⟨[.arr v 156 4 (wcs ws)],t⟩
theorem ycq {v:Nat}:slW [] v = .nils:=rfl
theorem ycu {v t:Nat}:stW [] v t=⟨[],t⟩:=rfl
theorem zrb {ws:List Wall} {v:Nat} (h:ws≠[]):slW ws v = .loc 0 v 0 ws.length:=by cases ws with | nil=>exact absurd rfl h | cons a l=>rfl
theorem zm4 {ws:List Wall} {v t:Nat} (h:ws≠[]):stW ws v t=⟨[.arr v 156 4 (wcs ws)],t⟩:=by cases ws with | nil=>exact absurd rfl h | cons a l=>rfl
theorem z5j {S:Store} {k f:Nat} {sel:List Nat} (ws:List Wall):(wcs ws).mapM (rn S k sel (f+1))=some (wcs ws):=zso (zz0 ws)
theorem z5d {S:Store} {im:Bool} {f:Nat} (ws:List Wall):(wcs ws).mapM (reify S im (f+1))=some (wcs ws):=zl5 (zz0 ws)
theorem z89 {d op:Bool} {ws:List Wall} (h:op=true→ws≠[]):d=false∨(d=true∧op=false∧ws=[])∨(d=true∧op=false∧ws≠[])∨(d=true∧op=true∧ws≠[]):=by
 cases d <;> cases op <;> simp_all
 by_cases hw:ws=[] <;> simp [hw]
theorem ybm {α:Type} {l:List α} (h:l≠[]):∃ l0 a,l=l0++[a]:=⟨l.dropLast,l.getLast h,(List.dropLast_concat_getLast h).symm⟩
theorem z87 {ws:List Wall} {w:Wall}:(wcs (ws++[w]))[ws.length*4+3]?=some (.int .i64 w.long):=by
 rw [zsy,List.getElem?_append_right (by rw [zho]; omega),zho]
 simp [wcs,Wall.cells]
theorem yda {ws:List Wall} {w:Wall} {x:Int}:(wcs (ws++[w])).take (ws.length*4+3)++[.int .i64 x]++(wcs (ws++[w])).drop (ws.length*4+4)=wcs (ws++[{ w with long:=x }]):=by
 rw [zsy,zsy,← zho,List.take_length_add_append,List.drop_length_add_append]
 simp [wcs,Wall.cells]
def wsI (g:List (List Int)) (nh nw:Nat) (i:Nat):List Wall:=if i=0 then [] else if i=1 then zbz g false nh [] nw else zb8 g nh nw
theorem zj4 {g:List (List Int)} {level:Bool} {places:Nat} {ws:List Wall}:zbz g level places ws 1=ws:=by simp [zbz]
theorem zxz {g:List (List Int)} {level:Bool} {line:Nat} {ws:List Wall}:zbs g level line ws 0=(ws,false):=rfl
theorem z9b {g:List (List Int)} {nh nw i:Nat} (h:i<2):wsI g nh nw (i+1)=zbz g (decide (i=1)) (if i=1 then nw else nh) (wsI g nh nw i) (if i=1 then nh else nw):=by
 rcases (show i=0∨i=1 by omega) with rfl | rfl <;> simp [wsI,zb8]
theorem z6l {g:List (List Int)} {nh nw i:Nat} (hh:nh≤6) (hw:nw≤6):(wsI g nh nw i).length≤72:=by
 have h1:=zhp g false (places:=nh) hh [] nw
 have h2:=zhp g true (places:=nw) hw (zbz g false nh [] nw) nh
 unfold wsI
 split
 ·simp
 split
 ·simp at h1; omega
 simp at h1; simp only[zb8]; omega
theorem z9a {g:List (List Int)} {nh nw i:Nat} (hh:nh≤6) (hw:nw≤6):∀ w∈wsI g nh nw i,0≤w.long∧w.long≤100:=by
 have h1:=zgw g false (places:=nh) hh (ws:=[]) (M:=1) (by omega) (by simp) nw
 have h2:=zgw g true (places:=nw) hw (M:=1+6*nw) (by omega) h1 nh
 unfold wsI
 split
 ·simp
 split
 ·intro w hw; have:=h1 w hw; omega
 intro w hw; have:=h2 w hw; omega
theorem zvj {ws:List Wall} {v t f:Nat}:rn (stW ws v t) (stW ws v t).obs.length [] (f+1) (slW ws v)=some (slW ws v):=by
 cases ws <;> rfl
theorem zvk {ws:List Wall} {v t:Nat}:(stW ws v t).rn (stW ws v t).obs.length []=some (stW ws v (t+1)):=by
 cases ws with
 | nil=>rfl
 | cons w ws =>
  rw [zm4 (by simp),zm4 (by simp)]
  simp [zbi,zah,zak,zap,z5j,qS]
theorem zan {S:Store}:S.take S.obs.length=S:=by simp [Store.take]
theorem yan {ws:List Wall}:(wcs ws).take (ws.length*4)=wcs ws:=by rw [← zho,List.take_length]
theorem z88 {ws:List Wall} {w:Wall}:wcs (ws++[w])=wcs ws++w.cells:=by rw [zsy]; simp [wcs]
theorem z5c {ws:List Wall} {v t:Nat} {im:Bool} {k:Nat}:reify (stW ws v t) im (k+2) (slW ws v)=some (zqc ws):=by
 cases ws with
 | nil=>rfl
 | cons w ws =>
  rw [zrb (by simp),zm4 (by simp)]
  exact zc6 rfl (zho _) (z5d _)
theorem z19 {n:Nat}:(((n+1:Nat):Int) - 1).toNat=n:=by omega
end Fw
end Go.Proofs.YtcfgpmeebpinaaaGreat
