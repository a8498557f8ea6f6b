/- Parts of the framework and of the proof: The framework, part p: code, gone through on plain values; and a function's call; The framework, part q: a table of types is checked by one computation; The framework, part r: going through a region step by step; The framework, part s: small laws for going through code; The framework, part t: letting go of objects and freezing what names them; The framework, part u: bundles of small laws for simp; a call in a store with more objects behind; The framework, part v: calls that take data and give new objects, which may be written; The framework, part w: at a fold, objects are put in another order, frozen, or let go; The framework, part x: a region in which a variable is made at an open time; The framework, part y: a region whose order is open, in the order of its text, in which something might be read behind what writes elsewhere; Plans in plain words: the specification's functions on lists of texts; Points, walls and orders of plans in plain words; The table of the types of this translation, written by a program (tabgen.py), and that it is right; Small functions of the specification, gone through. -/
import Derived.Test.YtclbmeloiefbaaaGreatDoorJ0
import Derived.RangeFuncRecord
import Derived.Test.YtclbmeloiefbaaaGreatDoorChecked
set_option linter.all false
namespace Go.Proofs.YtclbmeloiefbaaaGreatDoor
namespace Fw
open Go
open Nat renaming reduceEqDiff → qE, reduceLeDiff → qL, reduceAdd → qA, reduceMul → qM, le_refl → qR
open List renaming append_nil → qN, mapM_append → qP, mapM_cons → qC, mapM_map → qU, range_succ → qS, take_of_length_le → qT
open Bool renaming and_eq_true → qB, false_eq_true → qF
open Option renaming map_some → qO, map_eq_some_iff → qI
open Int renaming reduceToNat → qZ
section
def GSt.take (G:GSt) (k:Nat):GSt:=⟨G.obs.take k,G.tick⟩
def zg2 (N:Nat):Code→Bool
 | .region _ ops _=>ops.toList.all fun o=>match o.dst with | some d=>decide (d<N) | none=>true
 | .seq a b=>zg2 N a && zg2 N b
 | .cond _ a b=>zg2 N a && zg2 N b
 | .block _ c=>zg2 N c
 | .loop c=>zg2 N c
 | .rangeFunc _ ps a b=>ps.toList.all (fun t=>decide (t<N)) && zg2 N a && zg2 N b
 | _=>true
structure W (P:Program) (T:Tab) (c:Code) (Q:Exit→Env→Store→Prop) (e:Env) (S:Store):Prop where
 run:zbd P T→P.follows .mixedOrders=true→∀ (F0:Nat→Prop) (G0:GSt) (w0:World) (N:Nat) (F:Nat→Prop) (G:GSt) (a:Act) (w:World),G.er=S→Inv F G w→zei w.heap F G e a →
  Next F0 G0 w0 F G w→a.tmps.size=N→Marks w0 a.defers w→zg2 N c=true→∀ {R:Option Nat} {nn:Nat},c.wpIn (fnc R) nn P (Sto F0 G0 w0 N Q) a w
section
variable {P:Program} {T:Tab} {Q Q':Exit→Env→Store→Prop} {e:Env} {S:Store} {a b c:Code}
theorem Sto.mono {F0:Nat→Prop} {G0:GSt} {w0:World} {N:Nat} (h:∀ x e S,Q x e S→Q' x e S) {x:Exit} {a:Act} {w:World} (k:Sto F0 G0 w0 N Q x a w):Sto F0 G0 w0 N Q' x a w:=by
 obtain ⟨e,F,G,k1,k2⟩:=k
 exact ⟨e,F,G,h _ _ _ k1,k2⟩
theorem W.mono (h:W P T c Q e S) (k:∀ x e S,Q x e S→Q' x e S):W P T c Q' e S :=
 ⟨fun h1 h2 F0 G0 w0 N F G a w h3 h4 h5 h6 h7 h8 h9=>wpIn_mono (h.run h1 h2 F0 G0 w0 N F G a w h3 h4 h5 h6 h7 h8 h9) fun _ _ _=>Sto.mono k⟩
theorem W.skip (h:Q .normal e S):W P T .skip Q e S :=
 ⟨fun _ _ _ _ _ _ _ _ _ _ h3 h4 h5 h6 h7 h8 _=>wpIn_skip ⟨e,_,_,h3 ▸ h,h4,h5,h6,h7,h8⟩⟩
theorem W.exit {id:Nat} (h:Q (.exit id) e S):W P T (.exit id) Q e S :=
 ⟨fun _ _ _ _ _ _ _ _ _ _ h3 h4 h5 h6 h7 h8 _=>wpIn_exit ⟨e,_,_,h3 ▸ h,h4,h5,h6,h7,h8⟩⟩
theorem W.ret (h:Q .ret e S):W P T .ret Q e S :=
 ⟨fun _ _ _ _ _ _ _ _ _ _ h3 h4 h5 h6 h7 h8 _=>wpIn_ret ⟨e,_,_,h3 ▸ h,h4,h5,h6,h7,h8⟩⟩
theorem W.seq (h:W P T a (XThen (W P T b Q) Q) e S):W P T (.seq a b) Q e S:=by
 refine ⟨?_⟩
 intro hT hm F0 G0 w0 N F G a w h3 h4 h5 h6 h7 h8 h9 R nn
 simp only[zg2,qB]at h9
 refine wpIn_seq (wpIn_mono (h.run hT hm F0 G0 w0 N F G a w h3 h4 h5 h6 h7 h8 h9.1) ?_)
 rintro x a' w' ⟨e',F',G',k1,k2,k3,k4,k5,k6⟩
 cases x with
 | normal=>exact k1.run hT hm F0 G0 w0 N F' G' a' w' rfl k2 k3 k4 k5 k6 h9.2
 | _=>exact ⟨e',F',G',k1,k2,k3,k4,k5,k6⟩
theorem W.cond {x:Operand} {t:Bool} (hc:e.ev x = .bool t) (h1:t=true→W P T a Q e S) (h2:t=false→W P T b Q e S):W P T (.cond x a b) Q e S:=by
 refine ⟨?_⟩
 intro hT hm F0 G0 w0 N F G a w h3 h4 h5 h6 h7 h8 h9 R nn
 simp only[zg2,qB]at h9
 have:=h5.ev x
 rw [hc]at this
 exact wpIn_cond_split this.bool (fun ht=>(h1 ht).run hT hm F0 G0 w0 N F G a w h3 h4 h5 h6 h7 h8 h9.1) (fun ht=>(h2 ht).run hT hm F0 G0 w0 N F G a w h3 h4 h5 h6 h7 h8 h9.2)
theorem W.block {id:Nat} (h:W P T c (XBlock id Q) e S):W P T (.block id c) Q e S:=by
 refine ⟨?_⟩
 intro hT hm F0 G0 w0 N F G a w h3 h4 h5 h6 h7 h8 h9 R nn
 refine wpIn_block (wpIn_mono (h.run hT hm F0 G0 w0 N F G a w h3 h4 h5 h6 h7 h8 h9) ?_)
 rintro x a' w' ⟨e',F',G',k1,k2⟩
 cases x with
 | exit i =>
  simp only[Exit.inBlock]
  simp only[XBlock]at k1
  split
  ·rename_i hi; rw [if_pos hi]at k1; exact ⟨e',F',G',k1,k2⟩
  rename_i hi; rw [if_neg hi]at k1; exact ⟨e',F',G',k1,k2⟩
 | _=>exact ⟨e',F',G',k1,k2⟩
theorem zuz {N:Nat} {ops:Array Oper} {id:Nat} {d:Bool} (h:zg2 N (.region id ops d)=true):∀ o∈ops.toList,∀ t,o.dst=some t→t<N:=by
 intro o ho t ht
 simp only[zg2,List.all_eq_true]at h
 have:=h o ho
 rw [ht]at this
 simpa using this
theorem z1w {F0:Nat→Prop} {G0:GSt} {w0:World} {N:Nat}:∀ x a w,Sto F0 G0 w0 N (Nrm (Q .normal)) x a w→Sto F0 G0 w0 N Q x a w:=by
 rintro x a' w' ⟨e',F',G',k1,k2⟩
 cases x with
 | normal=>exact ⟨e',F',G',k1,k2⟩
 | _=>exact k1.elim
theorem Inv.drew {F:Nat→Prop} {G:GSt} {w:World} (h:Inv F G w):Inv F G { w with drawn:=w.drawn+1 }:=⟨h.fr,h.ver,h.nF,h.arr,h.map,h.inj,h.lp⟩
theorem Next.drew {F F':Nat→Prop} {G G':GSt} {w w':World} (h:Next F G w F' G' w'):Next F G w F' G' { w' with drawn:=w'.drawn+1 } :=
 ⟨h.os,h.tape,h.output,h.size,h.fsub,h.fnew,h.gnew,h.tick,h.keep,h.hand,Nat.le_succ_of_le h.drawn⟩
theorem W.region {id:Nat} {ops:Array Oper} (h:z2b P T ops (Q .normal) ops.toList e S):W P T (.region id ops false) Q e S:=by
 refine ⟨?_⟩
 intro hT hm F0 G0 w0 N F G a w h3 h4 h5 h6 h7 h8 h9 R nn
 subst h3
 refine wpIn_mono (wpIn_region_list (zkf hT _ h h4 h5 h6 h7 h8 (zuz h9))) ?_
 exact z1w
theorem W.region_any {id:Nat} {ops:Array Oper} (l effs pend keep:List Nat) (hl:zlc ops l effs pend=true) (h:zde P T ops effs pend keep (Q .normal) l e S) :
  W P T (.region id ops true) Q e S:=by
 refine ⟨?_⟩
 intro hT hm F0 G0 w0 N F G a w h3 h4 h5 h6 h7 h8 h9 R nn
 subst h3
 unfold zlc at hl
 simp only[qB,beq_iff_eq,List.all_eq_true,decide_eq_true_eq,Bool.not_eq_true',List.contains_eq_mem,List.mem_range,Bool.or_eq_true]at hl
 obtain ⟨⟨⟨⟨c1,c2⟩,c3⟩,c4⟩,c5⟩:=hl
 obtain ⟨p1,p2⟩:=zho c1
 refine wpIn_mono (wpIn_region_any hm (zqd (Q:=Q .normal) hT (zuz h9) ?_ ops.size (Array.replicate ops.size false) l c2 p1 p2 (fun x hx=>(c3 x hx).2) (by simp) ?_ ?_ h (h4.drew) h5 (h6.drew) h7 h8)) z1w
 ·intro i o ho ed hed hb
  have hmem:o∈ops.toList:=by
   have:=Array.mem_of_getElem? ho
   simpa using this
  have:=c5 o hmem ed hed
  rw [hb]at this
  simpa using this
 ·intro i
  constructor
  ·intro hi
   refine ⟨(c3 i hi).1,?_⟩
   rw [Array.getD_eq_getD_getElem?]
   simp [(c3 i hi).1]
  intro hi
  exact c4 i hi.1
 intro i x hx
 rw [Array.getD_eq_getD_getElem?]at hx
 simp only[Array.getElem?_replicate]at hx
 split at hx <;> cases hx
theorem zln {Fe:Fence} {nn:Nat} {P:Program} {c:Code} {R:Exit→Act→World→Prop}:∀ {n m:Nat},n≤m→∀ a w,Code.roundsIn Fe nn P c R n a w→Code.roundsIn Fe nn P c R m a w:=by
 intro n
 induction n with
 | zero=>intro m _ a w h; exact h.elim
 | succ n ih =>
  intro m hm a w h
  obtain ⟨m,rfl⟩:∃ m',m=m'+1:=⟨m - 1,by omega⟩
  refine wpIn_mono h ?_
  rintro x a w hx
  cases x with
  | normal=>exact ih (by omega) a w hx
  | _=>exact hx
theorem zjz (G:GSt) (k:Nat):(G.take k).er=G.er.take k:=by
 simp [GSt.take,GSt.er,Store.take]
theorem zcf {G:GSt} {k o:Nat} {x:Ob × Lc} (h:(G.take k).obs[o]?=some x):G.obs[o]?=some x:=by
 simp only[GSt.take,List.getElem?_take]at h
 split at h
 ·exact h
 cases h
theorem zep {F:Nat→Prop} {G:GSt} {w:World} (hi:Inv F G w) (k:Nat):Inv F (G.take k) w∧Next F G w F (G.take k) w:=by
 have hn:Next F G w F (G.take k) w :=
  ⟨rfl,rfl,rfl,qR _,fun _ h=>h,fun _ h => .inl h,fun o x h => .inr ⟨o,x,zcf h,rfl⟩,qR _,fun _ _ _=>rfl,
   fun _ ob' _ h _=>⟨ob',zcf h,rfl,Ob.like.refl _⟩,qR _⟩
 exact ⟨zjn hi.fr (fun o ob l h=>hi.ver o ob l (zcf h)) (fun o ob l h=>hi.nF o ob l (zcf h)) (fun o ob l h=>(hi.holds (zcf h)).next hi hn rfl) (fun o o' x x' h h'=>hi.inj o o' x x' (zcf h) (zcf h')),hn⟩
theorem z6o {H:Array Obj} {F:Nat→Prop} {G:GSt} {e:Env} {a:Act} (he:zei H F G e a):∀ L:List Nat,zei H F G (Env.of L (L.map e)) a
 | [],t => .imm _ _ (.undef _)
 | x::L,t=>by
  simp only[List.map_cons,Env.of]
  split
  ·rename_i h; rw [h]; exact he x
  exact z6o he L t
def Fold (L:List Nat) (I:List PV→Store→Prop) (e:Env) (S:Store):Prop:=∃ k,I (L.map e) (S.take k)
theorem W.fold (L:List Nat) {I:List PV→Store→Prop} (hI:Fold L I e S) (h:∀ vs S,vs.length=L.length→I vs S→W P T c Q (Env.of L vs) S):W P T c Q e S:=by
 refine ⟨?_⟩
 intro hT hm F0 G0 w0 N F G a w h3 h4 h5 h6 h7 h8 h9 R nn
 subst h3
 obtain ⟨k,hk⟩:=hI
 obtain ⟨i1,i2⟩:=zep h4 k
 exact (h _ _ (by simp) hk).run hT hm F0 G0 w0 N F (G.take k) a w (zjz G k) i1 (z6o (fun t=>(h5 t).next h4 i2) L) (h6.trans i2) h7 h8 h9
theorem W.join (L:List Nat) (I:List PV→Store→Prop) (h:W P T a (XThen (Fold L I) Q) e S) (k:∀ vs S,vs.length=L.length→I vs S→W P T b Q (Env.of L vs) S):W P T (.seq a b) Q e S:=by
 refine W.seq (h.mono ?_)
 intro x e S hx
 cases x with
 | normal=>exact W.fold L hx k
 | _=>exact hx
theorem W.loop (L:List Nat) (I:Nat→List PV→Store→Prop) (n:Nat) (h0:Fold L (I n) e S)
  (h:∀ n vs S,vs.length=L.length→I n vs S→W P T c (XThen (fun e S=>∃ m,m<n∧Fold L (I m) e S) Q) (Env.of L vs) S):W P T (.loop c) Q e S:=by
 refine W.fold L h0 fun vs S hl hI=>?_
 refine ⟨?_⟩
 intro hT hm F0 G0 w0 N F G a w h3 h4 h5 h6 h7 h8 h9 R nn
 refine wpIn_loop_rounds (n+1) ?_
 clear h0
 induction n using Nat.strongRecOn generalizing vs S F G a w with
 | _ n ih =>
  refine wpIn_mono ((h n vs S hl hI).run hT hm F0 G0 w0 N F G a w h3 h4 h5 h6 h7 h8 (by simpa [zg2] using h9)) ?_
  rintro x a' w' ⟨e',F',G',k1,k2,k3,k4,k5,k6⟩
  cases x with
  | normal =>
   obtain ⟨m,hmn,k,hk⟩:=k1
   obtain ⟨i1,i2⟩:=zep k2 k
   exact zln (by omega) _ _ (ih m hmn _ (G'.er.take k) (by simp) hk F' (G'.take k) a' w' (zjz G' k) i1 (z6o (fun t=>(k3 t).next k2 i2) L) (k4.trans i2) k5 k6)
  | _=>exact ⟨e',F',G',k1,k2,k3,k4,k5,k6⟩
def zag (args:List PV):Env:=fun t=>(args[t]?).getD .undef
def z2m (T:Tab) (S:Store) (e:Env):ResultVar→Option PV
 | .tmp t=>some (e t)
 | .cell a t=>zvi (T t) S (e a)
def zne (T:Tab) (S:Store) (e:Env):List ResultVar→Option (List PV)
 | []=>some []
 | r::rs=>(z2m T S e r).bind fun v=>(zne T S e rs).map (v :: ·)
def zye (T:Tab) (S:Store) (e:Env) (rs:List ResultVar):Option PV :=
 match zne T S e rs with
 | some [v]=>some v
 | some vs=>some (.tup vs)
 | none=>none
def zjd (T:Tab) (rs:List ResultVar) (K:PV→Store→Prop):Exit→Env→Store→Prop
 | .normal,e,S=>zja (zye T S e rs) fun v=>K v S
 | .ret,e,S=>zja (zye T S e rs) fun v=>K v S
 | _,_,_=>False
theorem zyd (hT:zbd P T) {F:Nat→Prop} {G:GSt} {w:World} (hi:Inv F G w) {a:Act} (he:zei w.heap F G e a) {r:ResultVar} {v:PV} (h:z2m T G.er e r=some v) :
  ∃ cv,((match r with | .tmp t=>pure (a.tmps.getD t undef) | .cell b t=>do loadVar t (← asAddr (a.tmps.getD b undef)):Sem Value)).run P w = .ok cv w∧VR w.heap F G v cv:=by
 cases r with
 | tmp t=>simp only[z2m]at h; cases h; exact ⟨_,rfl,he t⟩
 | cell b t =>
  simp only[z2m]at h
  obtain ⟨cv,h1,h2⟩:=ztv hT hi (he b) h
  refine ⟨cv,?_,h2⟩
  cases hb:a.tmps.getD b undef <;> rw [hb]at h1 <;> first
   | (simp [Instr.loadAt,Instr.sureAddr,stuck]at h1; done)
   | (rename_i q; cases q <;> first | (simp [Instr.loadAt,Instr.sureAddr,stuck]at h1; done) | (show (do loadVar t (← asAddr (a.tmps.getD b undef)):Sem Value).run P w=_; rw [hb]; simpa [Instr.loadAt,Instr.sureAddr,asAddr] using h1))
theorem zmf (hT:zbd P T) {F:Nat→Prop} {G:GSt} {w:World} (hi:Inv F G w) {a:Act} (he:zei w.heap F G e a):∀ {rs:List ResultVar} {vs:List PV},zne T G.er e rs=some vs →
  ∃ cvs:List Value,(rs.mapM fun r=>(match r with | .tmp t=>pure (a.tmps.getD t undef) | .cell b t=>do loadVar t (← asAddr (a.tmps.getD b undef)):Sem Value)).run P w = .ok cvs w ∧
   vs.length=cvs.length∧∀ (i:Nat) p c,vs[i]?=some p→cvs[i]?=some c→VR w.heap F G p c
 | [],vs,h=>by simp only[zne]at h; cases h; exact ⟨[],by simp,rfl,by simp⟩
 | r::rs,vs,h=>by
  simp only[zne]at h
  rw [Option.bind_eq_some_iff]at h
  obtain ⟨v,h1,h⟩:=h
  rw [qI]at h
  obtain ⟨vs',h2,rfl⟩:=h
  obtain ⟨cv,k1,k2⟩:=zyd hT hi he h1
  obtain ⟨cvs,k3,k4,k5⟩:=zmf hT hi he h2
  refine ⟨cv::cvs,?_,by simp [k4],?_⟩
  ·rw [qC]
   simp only[Sem.run_bind,k1,k3,Result.andThen_ok,Sem.run_pure]
  rintro (_ | i) p c q1 q2
  ·simp at q1 q2; subst q1; subst q2; exact k2
  simp at q1 q2; exact k5 i p c q1 q2
theorem z7h (hT:zbd P T) {F:Nat→Prop} {G:GSt} {w:World} (hi:Inv F G w) {a:Act} (he:zei w.heap F G e a) {fn:Func} {v:PV} (h:zye T G.er e fn.results.toList=some v) :
  ∃ cv,(results fn a.tmps).run P w = .ok cv w∧VR w.heap F G v cv:=by
 unfold zye at h
 cases hl:zne T G.er e fn.results.toList with
 | none=>rw [hl]at h; cases h
 | some vs =>
  rw [hl]at h
  obtain ⟨cvs,k1,k2,k3⟩:=zmf hT hi he hl
  have hrun:(results fn a.tmps).run P w = .ok (if h:cvs.toArray.size=1 then cvs.toArray[0] else .tuple cvs.toArray) w:=by
   unfold results
   rw [Array.mapM_eq_mapM_toList]
   simp only[Sem.run_bind,Sem.run_pure,Result.andThen_ok,Sem.run_map]
   erw [k1]
   rfl
  refine ⟨_,hrun,?_⟩
  match vs,cvs,k2,k3,h with
  | [v'],[c],_,k3,h=>simp at h; subst h; simpa using k3 0 v' c rfl rfl
  | [],[],_,k3,h=>simp at h; subst h; simpa using VR.tup [] #[] rfl (by simp)
  | v1::v2::vs,c1::c2::cs,hl,k3,h =>
   simp at h; subst h
   simp only[List.size_toArray,List.length_cons]
   rw [dif_neg (by omega)]
   exact VR.tup _ _ (by simpa using hl) (fun i p c q1 q2=>k3 i p c q1 (by simpa using q2))
structure Fn (P:Program) (f:FuncId) (fn:Func) (c:Code):Prop where
 at_:P.funcs[f]?=some fn
 name : (fn.name == "runtime.NumGoroutine") = false
 body:fn.body=some c
 dst:zg2 fn.ntmps c=true
theorem Fn.ent {f:FuncId} {fn:Func} (h:Fn P f fn c):Ent P f:=by
 intro args w
 have h1 : fn.name ≠ "runtime.NumGoroutine" := by simpa using h.name
 simp [callFunc,h.at_,h1,h.body,mark]
theorem z4t {H:Array Obj} {F:Nat→Prop} {G:GSt} {args:List PV} {cargs:Array Value} (hl:args.length=cargs.size)
  (hv:∀ (i:Nat) p c,args[i]?=some p→cargs[i]?=some c→VR H F G p c) (n:Nat) (ds:List Deferred):zei H F G (zag args) { tmps:=cargs++Array.replicate n undef,defers:=ds }:=by
 intro t
 unfold zag
 by_cases ht:t<args.length
 ·rw [List.getElem?_eq_getElem ht,Array.getD_eq_getD_getElem?,Array.getElem?_append_left (by omega),Array.getElem?_eq_getElem (by omega)]
  exact hv t _ _ (List.getElem?_eq_getElem ht) (Array.getElem?_eq_getElem (by omega))
 rw [List.getElem?_eq_none (by omega)]
 exact .imm _ _ (.undef _)
theorem VI.shut {H H':Array Obj} {F:Nat→Prop} {b:Nat} {ds:Option (List Deferred)} (hb:H[b]?=some (.deferred ds)) (hk:∀ x,x≠b→H'[x]?=H[x]?) {p:PV} {v:Value} (h:VI H F p v):VI H' (fun x=>F x∧x≠b) p v:=by
 have key:∀ {b1 i:Nat} {u:Value},zhj H b1 i=some u→b1≠b:=by
  rintro b1 i u h1 rfl
  simp [zhj,hb]at h1
 induction h with
 | int k n=>exact .int k n
 | bool b=>exact .bool b
 | str s b h=>exact .str s b h
 | agg cs vs h _ ih=>exact .agg cs vs h ih
 | tup cs vs h _ ih=>exact .tup cs vs h ih
 | nils=>exact .nils
 | sl0=>exact .sl0
 | sl cs n b1 off cap g h1 hn hc _ ih =>
  refine .sl cs n b1 off cap g (fun h=>⟨h1 h,?_⟩) hn (fun i p hi=>⟨(hc i p hi).1,?_⟩) ih
  ·cases cs with
   | nil=>exact absurd rfl h
   | cons c cs=>exact key (hc 0 c rfl).2
  have:=(hc i p hi).2
  simpa [zhj,hk b1 (key this)] using this
 | nilp=>exact .nilp
 | ip cs off b1 base g h1 hc _ ih =>
  refine .ip cs off b1 base g (fun h=>⟨h1 h,?_⟩) (fun i p hi=>⟨(hc i p hi).1,?_⟩) ih
  ·cases cs with
   | nil=>exact absurd rfl h
   | cons c cs=>exact key (hc 0 c rfl).2
  have:=(hc i p hi).2
  simpa [zhj,hk b1 (key this)] using this
 | nilf=>exact .nilf
 | yl l=>exact .yl l
 | fn f cs vs h _ ih=>exact .fn f cs vs h ih
 | bm f b v _ ih=>exact .bm f b v ih
 | nilm=>exact .nilm
 | undef v=>exact .undef v
theorem VR.shut {H H':Array Obj} {F:Nat→Prop} {G:GSt} {b:Nat} {ds:Option (List Deferred)} (hb:H[b]?=some (.deferred ds)) (hk:∀ x,x≠b→H'[x]?=H[x]?) {p:PV} {v:Value} (h:VR H F G p v):VR H' (fun x=>F x∧x≠b) G p v:=by
 induction h with
 | imm p v h=>exact .imm p v (h.shut hb hk)
 | agg cs vs e _ ih=>exact .agg cs vs e ih
 | tup cs vs e _ ih=>exact .tup cs vs e ih
 | fn f cs vs e _ ih=>exact .fn f cs vs e ih
 | loc o ver off n a len cap hv k=>exact .loc o ver off n a len cap hv k
 | ref o ver off a hv k=>exact .ref o ver off a hv k
 | mp o ver r hv k=>exact .mp o ver r hv k
theorem z70 {F0 F:Nat→Prop} {G0 G:GSt} {w0 w:World} (h0:∀ b,F0 b→b<w0.heap.size) (hi:Inv F G w) (hn:Next F0 G0 w0 F G w) {b:Nat} (hb:w.heap[b]?=some (.deferred (some []))) (hge:w0.heap.size≤b) :
  Inv (fun x=>F x∧x≠b) G (w.putObj b (.deferred none))∧Next F0 G0 w0 (fun x=>F x∧x≠b) G (w.putObj b (.deferred none)) ∧
   ∀ p v,VR w.heap F G p v→VR (w.putObj b (.deferred none)).heap (fun x=>F x∧x≠b) G p v:=by
 have hk:∀ x,x≠b→(w.putObj b (.deferred none)).heap[x]?=w.heap[x]?:=fun x hx=>World.putObj_heap_other hx
 have hv:∀ p v,VR w.heap F G p v→VR (w.putObj b (.deferred none)).heap (fun x=>F x∧x≠b) G p v:=fun p v h=>h.shut hb hk
 refine ⟨zjn (fun x hx=>by rw [World.putObj_size]; exact hi.fr x hx.1) hi.ver (fun o ob l hx hF=>hi.nF o ob l hx hF.1) ?_ hi.inj,?_,hv⟩
 ·intro o ob l hx
  have hne:=z47 hi hb o _ hx
  have:=hi.holds hx
  simp only at hne
  cases ob with
  | arr ver et sz cells =>
   obtain ⟨cs,⟨fz,h1,hz⟩,h2,h3,h4⟩:=this
   exact ⟨cs,⟨fz,(hk _ hne).trans h1,hz⟩,h2,h3,fun i p hp=>⟨(h4 i p hp).1,by obtain ⟨u,k1,k2⟩:=(h4 i p hp).2; exact ⟨u,k1,hv _ _ k2⟩⟩⟩
  | map ver es =>
   obtain ⟨ents,clock,h1,h2,h3⟩:=this
   exact ⟨ents,clock,(hk _ hne).trans h1,h2,fun i k u hp=>by obtain ⟨en,k1,k2,k3⟩:=h3 i k u hp; exact ⟨en,k1,hv _ _ k2,hv _ _ k3⟩⟩
  | lp ver b1 r tmps =>
   obtain ⟨h0,t,h1,h2,h3⟩:=this
   exact ⟨h0,t,by rw [← h0]at h1 ⊢; exact (hk _ hne).trans h1,h2,fun i p v q1 q2=>hv _ _ (h3 i p v q1 q2)⟩
 refine ⟨hn.os,hn.tape,hn.output,by rw [World.putObj_size]; exact hn.size,fun x hx=>⟨hn.fsub x hx,?_⟩,fun x hx=>hn.fnew x hx.1,hn.gnew,hn.tick,fun x hx hG=>?_,hn.hand,hn.drawn⟩
 ·have:=h0 x hx; omega
 exact (hk x (by omega)).trans (hn.keep x hx hG)
theorem zn3 (hT:zbd P T) {F0:Nat→Prop} {G0:GSt} {w0:World} (h0:∀ b,F0 b→b<w0.heap.size) {fn:Func} {a:Act} {v:PV} {Fe:Fence} {n:Nat} {R:Ending→World→Prop} :
  ∀ (bs:List Nat) {F:Nat→Prop} {G:GSt} {w:World},Inv F G w→zei w.heap F G e a→Next F0 G0 w0 F G w→zye T G.er e fn.results.toList=some v→bs.Nodup →
   (∀ b∈bs,w0.heap.size≤b∧w.heap[b]?=some (.deferred (some []))) →
   (∀ F' w' cv,Inv F' G w'→Next F0 G0 w0 F' G w'→VR w'.heap F' G v cv→R (.returned cv) w') →
   LeavesInM Fe n P fn a.tmps R (bs.map fun b=>{ target := .collected b,args := #[] }) .returning w
 | [],F,G,w,hi,he,hn,hr,_,_,hR=>by
  obtain ⟨cv,c1,c2⟩:=z7h hT hi he hr
  exact ⟨cv,c1,hR _ _ _ hi hn c2⟩
 | b::bs,F,G,w,hi,he,hn,hr,hnd,hb,hR=>by
  obtain ⟨hge,hd⟩:=hb b (by simp)
  obtain ⟨i1,i2,i3⟩:=z70 h0 hi hn hd hge
  refine ⟨by simp,.inl ⟨b,_,rfl,run_takeDeferred hd,?_⟩⟩
  refine zn3 hT h0 bs i1 (fun t=>i3 _ _ (he t)) i2 hr (List.nodup_cons.1 hnd).2 (fun x hx=>⟨(hb x (by simp [hx])).1,?_⟩) hR
  have hne:x≠b:=by rintro rfl; exact (List.nodup_cons.1 hnd).1 hx
  exact (World.putObj_heap_other hne).trans (hb x (by simp [hx])).2
theorem Fn.calls_of {f:FuncId} {fn:Func} (h:Fn P f fn c) (hT:zbd P T) {args:List PV} {K:PV→Store→Prop} (hn:args.length≤fn.ntmps) {F:Nat→Prop} {G:GSt} {w:World} {cargs:Array Value} (hi:Inv F G w) (hl:args.length=cargs.size)
  (hw:c.wpIn (fnc none) 0 P (Sto F G w fn.ntmps (zjd T fn.results.toList K)) { tmps:=cargs++Array.replicate (fn.ntmps - cargs.size) undef,defers:=[] } w) :
  Calls P f cargs w fun e w'=>∃ v cv F' G',e = .returned cv∧K v G'.er∧Inv F' G' w'∧Next F G w F' G' w'∧VR w'.heap F' G' v cv:=by
 refine (callsIn_wide (n:=0)).1 (callsIn_of_wp_marks h.at_ h.body trivial (wpIn_mono hw ?_))
 rintro x a' w' ⟨e',F',G',k1,k2,k3,k4,_,bs,k6,k7,k8⟩
 have key:zja (zye T G'.er e' fn.results.toList) (fun v=>K v G'.er)→LeavesInM Fence.wide 0 P fn a'.tmps
   (fun e w'=>∃ v cv F' G',e = .returned cv∧K v G'.er∧Inv F' G' w'∧Next F G w F' G' w'∧VR w'.heap F' G' v cv) a'.defers .returning w':=by
  intro hg
  obtain ⟨v,hv1,hv2⟩:=zl6.1 hg
  rw [k6]
  exact zn3 hT hi.fr bs k2 k3 k4 hv1 k7 k8 fun F2 w2 cv i1 i2 i3=>⟨v,cv,F2,G',rfl,hv2,i1,i2,i3⟩
 cases x with
 | normal=>exact key k1
 | ret=>exact key k1
 | _=>exact k1.elim
theorem Fn.calls {f:FuncId} {fn:Func} (h:Fn P f fn c) (hT:zbd P T) (hm:P.follows .mixedOrders=true) {args:List PV} {K:PV→Store→Prop} (hn:args.length≤fn.ntmps)
  (hw:W P T c (zjd T fn.results.toList K) (zag args) S) {F:Nat→Prop} {G:GSt} {w:World} {cargs:Array Value} (hS:G.er=S) (hi:Inv F G w) (hl:args.length=cargs.size)
  (hv:∀ (i:Nat) p c,args[i]?=some p→cargs[i]?=some c→VR w.heap F G p c) :
  Calls P f cargs w fun e w'=>∃ v cv F' G',e = .returned cv∧K v G'.er∧Inv F' G' w'∧Next F G w F' G' w'∧VR w'.heap F' G' v cv :=
 h.calls_of hT hn hi hl (hw.run (R:=none) (nn:=0) hT hm F G w fn.ntmps F G _ w hS hi (z4t hl hv _ _) (Next.refl w) (by simp; omega) Marks.nil h.dst)
theorem Ev.of {f:FuncId} {fn:Func} (h:Fn P f fn c) (hT:zbd P T) (hm:P.follows .mixedOrders=true) {args:List PV} {J:PV→Store→Prop} (hn:args.length≤fn.ntmps)
  (hw:W P T c (zjd T fn.results.toList fun v S1=>∃ k,J v (S1.take k)) (zag args) S):Ev P f args S J:=by
 refine ⟨h.ent,fun F G w cargs hS hi hl hv=>(h.calls hT hm hn hw hS hi hl hv).mono ?_⟩
 rintro en w' ⟨v',cv,F',G',k1,⟨k,k2⟩,k3,k4,k5⟩
 obtain ⟨i1,i2⟩:=zep k3 k
 exact ⟨v',cv,F',G'.take k,k1,(zjz G' k).symm ▸ k2,i1,k4.trans i2,k5.next k3 i2⟩
theorem PC.of {f:FuncId} {fn:Func} (h:Fn P f fn c) (hT:zbd P T) (hm:P.follows .mixedOrders=true) {args:List PV} {r:PV} {fr:Bool} (hn:args.length≤fn.ntmps)
  (hw:W P T c (zjd T fn.results.toList fun v S=>reify S (!fr) 10 v=some r) (zag args) ⟨[],0⟩):PC P f args r fr:=by
 refine ⟨h.ent,fun F w cargs hF hl hv=>?_⟩
 have hi:Inv F ⟨[],0⟩ w:=⟨hF,by simp,by simp,by simp,by simp,by simp,by simp⟩
 refine (h.calls hT hm hn hw rfl hi hl fun i p c q1 q2 => .imm _ _ (hv i p c q1 q2)).mono ?_
 rintro en w' ⟨v',cv,F',G',rfl,k2,k3,k4,k5⟩
 refine ⟨cv,rfl,⟨⟨k4.os,k4.tape,k4.output,k4.size,fun b hb=>k4.keep b hb (by simp)⟩,k4.drawn⟩,(zdn k3 k5 k2).mono ?_ (fun _ _=>rfl)⟩
 rintro b (⟨h1,h2⟩ | ⟨o,x,hx,rfl⟩)
 ·rcases k4.fnew b h2 with h3 | h3 | ⟨o,x,hx,_⟩
  ·exact .inr ⟨by simpa using h1,h3⟩
  ·exact .inl ⟨h3,k3.fr b h2⟩
  simp at hx
 rcases k4.gnew o x hx with h3 | ⟨o',y,hy,_⟩
 ·exact .inl ⟨h3,k3.blk_lt hx⟩
 simp at hy
end
end
def ycj:TK→TypeDesc→Bool
 | .bool,.bool=>true
 | .int k,.int k'=>k == k'
 | .str,.string=>true
 | .slice e,.slice e'=>e == e'
 | .ptr e,.pointer e'=>e == e'
 | .arr n e,.array n' e'=>n == n' && e == e'
 | .struct fs,.struct gs=>decide (fs=gs.toList.map fun f=>(f.offset,f.type))
 | .map k v,.map k' v'=>k == k' && v == v'
 | .func,.func _ _ _=>true
 | _,_=>false
theorem z3e {k:TK} {d:TypeDesc} (h:ycj k d=true):k.fits d:=by
 cases k <;> cases d <;> simp_all [ycj,TK.fits]
def okZ (ti:TI) (z:Value):Bool :=
 ti.zero.length == z.cells.size && z.cells.size == ti.size && ((List.range ti.size).all fun k=>match ti.zero[k]?,z.cells[k]? with | some p,some v=>z8p p v | _,_=>true) &&
  (ti.kd.isAgg == match z with | .agg _=>true | _=>false)
def yem (T:Tab) (k:TK):Bool :=
 match k with
 | .slice e | .arr _ e => !decide ((T e).kd = .none)
 | .struct fs=>fs.all fun f => !decide ((T f.2).kd = .none)
 | .map k v => !decide ((T k).kd = .none) && !decide ((T v).kd = .none)
 | _=>true
def okEq (P:Program) (T:Tab) (t:TypeId) (k:TK):Bool :=
 match k with
 | .struct fs => !zg4 T fs 0 || eqT P t
 | _=>true
def okT (P:Program) (T:Tab) (t:TypeId) (ti:TI):Bool :=
 match P.info? t,P.underlying t with
 | some i,some d=>ycj ti.kd d && i.size == ti.size && i.bytes == ti.bytes && (match i.zero with | some z=>okZ ti z | none=>false) && yem T ti.kd && okEq P T t ti.kd
 | _,_=>false
theorem z6q {P:Program} {T:Tab} {t:TypeId} (h:okT P T t (T t)=true):TOk P T t:=by
 unfold okT at h
 split at h
 ·rename_i i d h1 h2
  simp only[qB,beq_iff_eq]at h
  obtain ⟨⟨⟨⟨⟨h3,h4⟩,h5⟩,h6⟩,h7⟩,h8⟩:=h
  split at h6
  ·rename_i z hz
   unfold okZ at h6
   simp only[qB,beq_iff_eq,List.all_eq_true,List.mem_range]at h6
   obtain ⟨⟨⟨k1,k2⟩,k3⟩,k4⟩:=h6
   refine ⟨⟨i,d,z,h1,h2,z3e h3,h4,h5,hz,k1,k2,fun k p v q1 q2=>?_,k4⟩,?_,?_⟩
   ·have hk:k<(T t).size:=by
     have:=(List.getElem?_eq_some_iff.1 q1).1
     omega
    have:=k3 k hk
    rw [q1,q2]at this
    exact this
   ·unfold yem at h7
    cases hk:(T t).kd <;> rw [hk]at h7 <;> first
     | trivial
     | (intro f hf; simp only[List.all_eq_true]at h7; simpa using h7 f hf)
     | (simp_all; done)
   unfold okEq at h8
   cases hk:(T t).kd <;> rw [hk]at h8 <;> first
    | trivial
    | (intro hf; simpa [hf] using h8)
  cases h6
 cases h
def lk:List (Nat × TI)→Tab
 | [],_=>⟨.none,0,0,[]⟩
 | (k,v)::r,t=>if t=k then v else lk r t
theorem yei {P:Program} {T:Tab}:∀ {L:List (Nat × TI)},L.all (fun x=>okT P T x.1 x.2)=true→∀ t,(lk L t).kd ≠ .none→okT P T t (lk L t)=true
 | [],_,t,h=>absurd rfl h
 | (k,v)::r,h,t,hk=>by
  simp only[List.all_cons,qB]at h
  unfold lk at hk ⊢
  split
  ·rename_i e; rw [e]; exact h.1
  rename_i e; rw [if_neg e]at hk; exact yei h.2 t hk
theorem yey {P:Program} {L:List (Nat × TI)} (h:L.all (fun x=>okT P (lk L) x.1 x.2)=true):zbd P (lk L) :=
 fun t ht=>z6q (yei h t ht)
section
def dsts:List Oper→List (Option Tmp)
 | []=>[]
 | o::r=>o.dst::dsts r
theorem z1c:dsts []=[]:=rfl
theorem zwn {d:Option Tmp} {op:Op} {t:TypeId} {p:String} {a:Array Edge} {g:Option (Nat × Bool)} {r:List Oper}:dsts (⟨d,op,t,p,a,g⟩::r)=d::dsts r:=rfl
def gd (ds:List (Option Tmp)) (g:Option (Nat × Bool)) (e:Env):Option Bool :=
 match g with
 | none=>some true
 | some (j,want) =>
  match ds[j]? with
  | some (some d)=>match e d with
   | .bool b=>some (b == want)
   | .tup []=>some false
   | _=>none
  | _=>none
def sOp (D:Bool) (P:Program) (T:Tab) (e:Env) (S:Store) (o:Op) (K:PV→Store→Prop):Prop :=
 match o with
 | .call ⟨.value f,xs,ts⟩ =>
  match e.ev f with
  | .fn g cap =>
   match D with
   | true=>∃ v tx fr,(xs.toList.map e.ev++cap).mapM (reify S true 10)=some tx∧(fr=true∨(xs.toList.map e.ev++cap).mapM (reify ⟨[],0⟩ true 10)=some tx)∧PC P g tx v fr∧K v S
   | false=>∃ J,Ev P g (xs.toList.map e.ev++cap) S J∧∀ v S',J v S'→K v S'
  | .bm g b =>
   match D with
   | true=>∃ v tx fr,(b::xs.toList.map e.ev).mapM (reify S true 10)=some tx∧(fr=true∨(b::xs.toList.map e.ev).mapM (reify ⟨[],0⟩ true 10)=some tx)∧PC P g tx v fr∧K v S
   | false=>∃ J,Ev P g (b::xs.toList.map e.ev) S J∧∀ v S',J v S'→K v S'
  | .yl l =>
   match D with
   | true=>False
   | false=>∃ J,Ey P l (xs.toList.map e.ev) S J∧∀ v S',J v S'→K v S'
  | _=>False
 | o=>pOp P T e S o K
theorem zng {D:Bool} {P:Program} {T:Tab} {e:Env} {S:Store} {o:Op} {K:PV→Store→Prop} (h:sOp D P T e S o K):pOp P T e S o K:=by
 unfold sOp at h
 split at h
 ·rename_i f xs ts
  unfold pOp
  simp only[zsx]
  split at h
  ·rename_i g cap hf
   simp only[hf]
   cases D with
   | true=>obtain ⟨v,tx,fr,h1,h2,h3,h4⟩:=h; exact ⟨_,h3.ev h1 h2,by rintro v' S' ⟨rfl,rfl⟩; exact h4⟩
   | false=>exact h
  ·rename_i g cap hf
   simp only[hf]
   cases D with
   | true=>obtain ⟨v,tx,fr,h1,h2,h3,h4⟩:=h; exact ⟨_,h3.ev h1 h2,by rintro v' S' ⟨rfl,rfl⟩; exact h4⟩
   | false=>exact h
  ·rename_i l hf
   simp only[hf]
   cases D with
   | true=>exact h.elim
   | false=>exact h
  exact h.elim
 exact h
def za7 (D:Bool) (P:Program) (T:Tab) (ds:List (Option Tmp)):List Oper→Env→Store→(Env→Store→Prop)→Prop
 | [],e,S,Q=>Q e S
 | o::r,e,S,Q =>
  match gd ds o.guard e with
  | some true=>sOp D P T e S o.op fun v S'=>za7 D P T ds r (e.put o.dst v) S' Q
  | some false=>za7 D P T ds r (e.put o.dst (.tup [])) S Q
  | none=>False
theorem z1b:∀ (l:List Oper) (j:Nat),(dsts l)[j]?=(l[j]?).map (·.dst)
 | [],j=>by simp [dsts]
 | o::l,0=>by simp [dsts]
 | o::l,j+1=>by simp [dsts,z1b l j]
theorem zm1 {l:List Oper} {o:Oper} {e:Env}:gd (dsts l) o.guard e=gdec l.toArray o e:=by
 unfold gd gdec
 cases o.guard with
 | none=>rfl
 | some q =>
  obtain ⟨j,want⟩:=q
  simp only[z1b,List.getElem?_toArray]
  cases l[j]? with
  | none=>rfl
  | some o'=>simp only[qO,Option.bind_some]; cases o'.dst <;> rfl
section
variable {P:Program} {T:Tab} {Q:Exit→Env→Store→Prop} {e:Env} {S:Store} {a b c:Code}
theorem zjh {D:Bool} {l:List Oper} {K:Env→Store→Prop}:∀ (r:List Oper) (e:Env) (S:Store),za7 D P T (dsts l) r e S K→z2b P T l.toArray K r e S
 | [],_,_,h=>h
 | o::r,e,S,h=>by
  unfold za7 at h
  unfold z2b zeo
  rw [zm1]at h
  split at h
  ·rename_i hg; rw [hg]; exact ze7 (fun v S'=>zjh r _ _) (zng h)
  ·rename_i hg; rw [hg]; exact zjh r _ _ h
  exact h.elim
theorem W.k {id:Nat} {l:List Oper} (h:∀ K:Env→Store→Prop,(∀ e S,Q .normal e S→K e S)→za7 false P T (dsts l) l e S K):W P T (.region id l.toArray false) Q e S :=
 W.region (zjh _ _ _ (h _ fun _ _ h=>h))
theorem W.r {id:Nat} {l:List Oper} (h:∀ K:Env→Store→Prop,(∀ e S,W P T b Q e S→K e S)→za7 false P T (dsts l) l e S K):W P T (.seq (.region id l.toArray false) b) Q e S :=
 W.seq (W.k fun K hK=>h K hK)
theorem xn {n:Env→Store→Prop} (h:n e S):XThen n Q .normal e S:=h
theorem xe {n:Env→Store→Prop} {i:Nat} (h:Q (.exit i) e S):XThen n Q (.exit i) e S:=h
theorem XThen.ret {n:Env→Store→Prop} (h:Q .ret e S):XThen n Q .ret e S:=h
theorem XbN {i:Nat} (h:Q .normal e S):XBlock i Q .normal e S:=h
theorem XBlock.ret {i:Nat} (h:Q .ret e S):XBlock i Q .ret e S:=h
theorem XBlock.hit {i:Nat} (h:Q .normal e S):XBlock i Q (.exit i) e S:=by simpa [XBlock] using h
theorem XBlock.miss {i j:Nat} (hij:j≠i) (h:Q (.exit j) e S):XBlock i Q (.exit j) e S:=by simpa [XBlock,hij] using h
theorem z5f {t:Tmp}:e.ev (.tmp t)=e t:=rfl
theorem z1l {v:Value}:e.ev (.const v)=zfk v:=rfl
theorem z5e {f:FuncId}:e.ev (.func f) = .fn f []:=rfl
def evS (e:Env) (x:Operand):Option PV:=some (e.ev x)
theorem z5d {t:Tmp}:evS e (.tmp t)=some (e t):=rfl
theorem zwx {v:Value}:evS e (.const v)=some (zfk v):=rfl
theorem z1k {f:FuncId}:evS e (.func f)=some (.fn f []):=rfl
theorem zvk {d t:Nat} {v:PV}:(e.put (some d) v) t=if t=d then v else e t:=rfl
theorem z2h {v:PV}:e.put none v=e:=rfl
def zac (D:Bool) (P:Program) (T:Tab) (ds:List (Option Tmp)) (g:FuncId) (xs:List PV) (S:Store) (d:Option Tmp) (r:List Oper) (e:Env) (Q:Env→Store→Prop):Prop :=
 match D with
 | true=>∃ v tx fr,xs.mapM (reify S true 10)=some tx∧(fr=true∨xs.mapM (reify ⟨[],0⟩ true 10)=some tx)∧PC P g tx v fr∧za7 true P T ds r (e.put d v) S Q
 | false=>∃ J,Ev P g xs S J∧∀ v S',J v S'→za7 false P T ds r (e.put d v) S' Q
def zy5 (D:Bool) (P:Program) (T:Tab) (ds:List (Option Tmp)) (l:Nat) (xs:List PV) (S:Store) (d:Option Tmp) (r:List Oper) (e:Env) (Q:Env→Store→Prop):Prop :=
 match D with
 | true=>False
 | false=>∃ J,Ey P l xs S J∧∀ v S',J v S'→za7 false P T ds r (e.put d v) S' Q
variable {D:Bool} {ds:List (Option Tmp)} {d:Option Tmp} {t:TypeId} {p:String} {af:Array Edge} {g:Option (Nat × Bool)} {r:List Oper} {K:Env→Store→Prop}
theorem zac.ev {f:FuncId} {xs:List PV} {J:PV→Store→Prop} (h:Ev P f xs S J) (k:∀ v S',J v S'→za7 false P T ds r (e.put d v) S' K):zac false P T ds f xs S d r e K:=⟨J,h,k⟩
theorem zy5.ey {l:Nat} {xs:List PV} {J:PV→Store→Prop} (h:Ey P l xs S J) (k:∀ v S',J v S'→za7 false P T ds r (e.put d v) S' K):zy5 false P T ds l xs S d r e K:=⟨J,h,k⟩
theorem zac.pc {f:FuncId} {xs ts:List PV} {v:PV} {fr:Bool} (h:PC P f ts v fr) (h1:xs.mapM (reify S true 10)=some ts) (h2:fr=true∨xs.mapM (reify ⟨[],0⟩ true 10)=some ts)
  (k:za7 D P T ds r (e.put d v) S K):zac D P T ds f xs S d r e K:=by
 cases D with
 | true=>exact ⟨v,ts,fr,h1,h2,h,k⟩
 | false=>exact ⟨_,h.ev h1 h2,by rintro v' S' ⟨rfl,rfl⟩; exact k⟩
def zto:Op→Bool
 | .alloc _ | .box .. | .buildSlice .. | .makeSlice .. | .makeMap .. | .store .. | .mapUpdate .. | .insert .. => false
 | .call ⟨.builtin .append,_,_⟩=>false
 | .call ⟨.builtin .clear,_,_⟩=>false
 | .call ⟨.builtin .copy,_,_⟩=>false
 | _=>true
def zkz:List Oper→Nat→List Nat
 | [],_=>[]
 | o::r,i=>if zto o.op then zkz r (i+1) else i::zkz r (i+1)
theorem zqk:∀ (l:List Oper) (k i:Nat) (o:Oper),l[i]?=some o→k+i ∉ zkz l k→zto o.op=true
 | [],_,_,_,h,_=>by simp at h
 | o'::l,k,0,o,h,hn=>by
  simp at h; subst h
  unfold zkz at hn
  split at hn
  ·assumption
  simp at hn
 | o'::l,k,i+1,o,h,hn=>by
  simp only[List.getElem?_cons_succ]at h
  refine zqk l (k+1) i o h fun hm=>hn ?_
  unfold zkz
  split
  ·rwa [show k+(i+1)=k+1+i by omega]
  rw [show k+(i+1)=k+1+i by omega]; exact List.mem_cons_of_mem _ hm
theorem z5j {o:Op} {K:PV→Store→Prop} (hf:zto o=true) (h:sOp true P T e S o K):z9q P T S e o fun v=>K v S:=by
 unfold sOp at h
 split at h
 ·rename_i f xs ts
  simp only[z9q]
  split at h
  ·rename_i g cap hf
   simp only[hf]
   obtain ⟨v,tx,fr,h1,h2,h3,h4⟩:=h
   exact ⟨v,tx,fr,h1,h2,h3,h4⟩
  ·rename_i g cap hf
   simp only[hf]
   obtain ⟨v,tx,fr,h1,h2,h3,h4⟩:=h
   exact ⟨v,tx,fr,h1,h2,h3,h4⟩
  ·exact h.elim
  exact h.elim
 rename_i hne
 cases o with
 | call c =>
  obtain ⟨cal,xs,ts⟩:=c
  cases cal with
  | value f=>exact absurd rfl (hne f xs ts)
  | builtin b =>
   cases b <;> first
    | (simp [zto]at hf; done)
    | exact h
  | _=>exact h
 | _=>first
  | (simp [zto]at hf; done)
  | exact h
theorem zj6 {all:List Oper} {K:Env→Store→Prop}:∀ (r:List Oper) (k:Nat) (e:Env) (S:Store),all.drop k=r→za7 true P T (dsts all) r e S K →
  zde P T all.toArray (zkz all 0) [] [] K (List.range' k r.length) e S
 | [],_,_,_,_,h=>h
 | o::r,k,e,S,hk,h=>by
  have ho:all[k]?=some o:=by
   have:=congrArg (fun l=>l[0]?) hk
   simpa using this
  have hr:all.drop (k+1)=r:=by
   have:=congrArg (List.drop 1) hk
   simpa [List.drop_drop] using this
  unfold za7 at h
  simp only[List.length_cons,List.range'_succ,zde,List.getElem?_toArray,ho]
  rw [zm1]at h
  unfold zeo
  split at h
  ·rename_i hg
   rw [hg]
   simp only
   split
   ·rename_i hc
    exact ze7 (fun v S' hv=>⟨.inr (by intro o ho; cases ho),zj6 r (k+1) _ _ hr hv⟩) (zng h)
   rename_i hc
   have hflat:=zqk all 0 k o ho (by simpa using hc)
   have:=z5j hflat h
   rw [zen]at this ⊢
   obtain ⟨v,h1,h2⟩:=this
   exact ⟨v,h1,by simp,zj6 r (k+1) _ _ hr h2⟩
  ·rename_i hg; rw [hg]; exact zj6 r (k+1) _ _ hr h
  exact h.elim
theorem W.draw_k {id:Nat} {l:List Oper} (hc:zlc l.toArray (List.range' 0 l.length) (zkz l 0) []=true) (h:∀ K:Env→Store→Prop,(∀ e S,Q .normal e S→K e S)→za7 true P T (dsts l) l e S K) :
  W P T (.region id l.toArray true) Q e S :=
 W.region_any (List.range' 0 l.length) (zkz l 0) [] [] hc (zj6 l 0 _ _ rfl (h _ fun _ _ h=>h))
theorem W.seq_draw {id:Nat} {l:List Oper} (hc:zlc l.toArray (List.range' 0 l.length) (zkz l 0) []=true) (h:∀ K:Env→Store→Prop,(∀ e S,W P T b Q e S→K e S)→za7 true P T (dsts l) l e S K) :
  W P T (.seq (.region id l.toArray true) b) Q e S :=
 W.seq (W.draw_k hc fun K hK=>h K hK)
theorem z1i:za7 D P T ds [] e S K=K e S:=rfl
theorem zwr {x:Operand}:za7 D P T ds (⟨d,.move x,t,p,af,g⟩::r) e S K =
  (match gd ds g e with | some true=>(match evS e x with | some v=>za7 D P T ds r (e.put d v) S K | none=>False) | some false=>za7 D P T ds r (e.put d (.tup [])) S K | none=>False):=by
 rw [za7]; cases D <;> rfl
theorem zqh {x:Operand}:za7 D P T ds (⟨d,.assign x,t,p,af,g⟩::r) e S K =
  (match gd ds g e with | some true=>(match evS e x with | some v=>za7 D P T ds r (e.put d v) S K | none=>False) | some false=>za7 D P T ds r (e.put d (.tup [])) S K | none=>False):=by
 rw [za7]; cases D <;> rfl
theorem zws {x y z:Operand}:za7 D P T ds (⟨d,.pick x y z,t,p,af,g⟩::r) e S K =
  (match gd ds g e with | some true=>(match z9t (e.ev x) (e.ev y) (e.ev z) with | some v=>za7 D P T ds r (e.put d v) S K | none=>False) | some false=>za7 D P T ds r (e.put d (.tup [])) S K | none=>False):=by
 rw [za7]; cases D <;> rfl
theorem zwq {t1:TypeId} {x:Operand}:za7 D P T ds (⟨d,.load t1 x,t,p,af,g⟩::r) e S K =
  (match gd ds g e with | some true=>(match zvi (T t1) S (e.ev x) with | some v=>za7 D P T ds r (e.put d v) S K | none=>False) | some false=>za7 D P T ds r (e.put d (.tup [])) S K | none=>False):=by
 rw [za7]; cases D <;> rfl
theorem zly {x:Operand}:za7 D P T ds (⟨d,.nilCheck x,t,p,af,g⟩::r) e S K =
  (match gd ds g e with | some true=>(match zir S (e.ev x) with | some v=>za7 D P T ds r (e.put d v) S K | none=>False) | some false=>za7 D P T ds r (e.put d (.tup [])) S K | none=>False):=by
 rw [za7]; cases D <;> rfl
theorem ztb {op:BinOp} {t1 t2:TypeId} {x y:Operand}:za7 D P T ds (⟨d,.binOp op t1 x y t2,t,p,af,g⟩::r) e S K =
  (match gd ds g e with | some true=>(match yds T S op t1 (e.ev x) (e.ev y) with | some v=>za7 D P T ds r (e.put d v) S K | none=>False) | some false=>za7 D P T ds r (e.put d (.tup [])) S K | none=>False):=by
 rw [za7]; cases D <;> rfl
theorem zwt {op:UnOp} {t1:TypeId} {x:Operand}:za7 D P T ds (⟨d,.unOp op t1 x,t,p,af,g⟩::r) e S K =
  (match gd ds g e with | some true=>(match pUn op (e.ev x) with | some v=>za7 D P T ds r (e.put d v) S K | none=>False) | some false=>za7 D P T ds r (e.put d (.tup [])) S K | none=>False):=by
 rw [za7]; cases D <;> rfl
theorem znu {t1 t2:TypeId} {x:Operand}:za7 D P T ds (⟨d,.convert t1 t2 x,t,p,af,g⟩::r) e S K =
  (match gd ds g e with | some true=>(match zke T S t1 t2 (e.ev x) with | some v=>za7 D P T ds r (e.put d v) S K | none=>False) | some false=>za7 D P T ds r (e.put d (.tup [])) S K | none=>False):=by
 rw [za7]; cases D <;> rfl
theorem zlx {fn:Go.Fn} {xs ys:Array Operand}:za7 D P T ds (⟨d,.makeFunc fn xs ys,t,p,af,g⟩::r) e S K =
  (match gd ds g e with | some true=>(match zl8 fn (xs.toList.map e.ev) (ys.toList.map e.ev) with | some v=>za7 D P T ds r (e.put d v) S K | none=>False) | some false=>za7 D P T ds r (e.put d (.tup [])) S K | none=>False):=by
 rw [za7]; cases D <;> rfl
theorem ztg {t1:TypeId} {x:Operand} {lo hi:Option Operand}:za7 D P T ds (⟨d,.slice t1 x lo hi none,t,p,af,g⟩::r) e S K =
  (match gd ds g e with | some true=>(match zx0 T S t1 (e.ev x) (lo.map e.ev) (hi.map e.ev) with | some v=>za7 D P T ds r (e.put d v) S K | none=>False) | some false=>za7 D P T ds r (e.put d (.tup [])) S K | none=>False):=by
 rw [za7]; cases D <;> rfl
theorem zkv {t1:TypeId} {x:Operand} {n:Nat}:za7 D P T ds (⟨d,.fieldAddr t1 x n,t,p,af,g⟩::r) e S K =
  (match gd ds g e with | some true=>(match zgw T S t1 (e.ev x) n with | some v=>za7 D P T ds r (e.put d v) S K | none=>False) | some false=>za7 D P T ds r (e.put d (.tup [])) S K | none=>False):=by
 rw [za7]; cases D <;> rfl
theorem zte {t1:TypeId} {x:Operand} {n:Nat}:za7 D P T ds (⟨d,.field t1 x n,t,p,af,g⟩::r) e S K =
  (match gd ds g e with | some true=>(match zxr T t1 (e.ev x) n with | some v=>za7 D P T ds r (e.put d v) S K | none=>False) | some false=>za7 D P T ds r (e.put d (.tup [])) S K | none=>False):=by
 rw [za7]; cases D <;> rfl
theorem zkw {t1:TypeId} {x y:Operand}:za7 D P T ds (⟨d,.indexAddr t1 x y,t,p,af,g⟩::r) e S K =
  (match gd ds g e with | some true=>(match zgx T S t1 (e.ev x) (e.ev y) with | some v=>za7 D P T ds r (e.put d v) S K | none=>False) | some false=>za7 D P T ds r (e.put d (.tup [])) S K | none=>False):=by
 rw [za7]; cases D <;> rfl
theorem ztf {t1:TypeId} {x y:Operand}:za7 D P T ds (⟨d,.index t1 x y,t,p,af,g⟩::r) e S K =
  (match gd ds g e with | some true=>(match zxv T t1 (e.ev x) (e.ev y) with | some v=>za7 D P T ds r (e.put d v) S K | none=>False) | some false=>za7 D P T ds r (e.put d (.tup [])) S K | none=>False):=by
 rw [za7]; cases D <;> rfl
theorem znv {x:Operand} {n:Nat}:za7 D P T ds (⟨d,.extract x n,t,p,af,g⟩::r) e S K =
  (match gd ds g e with | some true=>(match zpm (e.ev x) n with | some v=>za7 D P T ds r (e.put d v) S K | none=>False) | some false=>za7 D P T ds r (e.put d (.tup [])) S K | none=>False):=by
 rw [za7]; cases D <;> rfl
theorem ztc {t1:TypeId} {ps:Array (Nat × Operand)}:za7 D P T ds (⟨d,.build t1 ps,t,p,af,g⟩::r) e S K =
  (match gd ds g e with | some true=>(match zxo T t1 (ps.toList.map fun p=>(p.1,e.ev p.2)) with | some v=>za7 D P T ds r (e.put d v) S K | none=>False) | some false=>za7 D P T ds r (e.put d (.tup [])) S K | none=>False):=by
 rw [za7]; cases D <;> rfl
theorem zqj {t1:TypeId} {x y:Operand} {ok:Bool}:za7 D P T ds (⟨d,.lookup t1 x y ok,t,p,af,g⟩::r) e S K =
  (match gd ds g e with | some true=>(match zrb T S t1 (e.ev x) (e.ev y) ok with | some v=>za7 D P T ds r (e.put d v) S K | none=>False) | some false=>za7 D P T ds r (e.put d (.tup [])) S K | none=>False):=by
 rw [za7]; cases D <;> rfl
theorem z1f {xs:Array Operand} {ts:Array TypeId}:za7 D P T ds (⟨d,.call ⟨.builtin .len,xs,ts⟩,t,p,af,g⟩::r) e S K =
  (match gd ds g e with | some true=>(match ze6 T S (.builtin .len) (xs.toList.map e.ev) ts.toList with | some v=>za7 D P T ds r (e.put d v) S K | none=>False) | some false=>za7 D P T ds r (e.put d (.tup [])) S K | none=>False):=by
 rw [za7]; cases D <;> rfl
theorem z1g {xs:Array Operand} {ts:Array TypeId}:za7 D P T ds (⟨d,.call ⟨.builtin .max,xs,ts⟩,t,p,af,g⟩::r) e S K =
  (match gd ds g e with | some true=>(match z9r (xs.toList.map e.ev) with | some v=>za7 D P T ds r (e.put d v) S K | none=>False) | some false=>za7 D P T ds r (e.put d (.tup [])) S K | none=>False):=by
 rw [za7]; cases D <;> rfl
theorem z1h {xs:Array Operand} {ts:Array TypeId}:za7 D P T ds (⟨d,.call ⟨.builtin .min,xs,ts⟩,t,p,af,g⟩::r) e S K =
  (match gd ds g e with | some true=>(match z9s (xs.toList.map e.ev) with | some v=>za7 D P T ds r (e.put d v) S K | none=>False) | some false=>za7 D P T ds r (e.put d (.tup [])) S K | none=>False):=by
 rw [za7]; cases D <;> rfl
theorem zqg {x y:Operand} {t1 t2:TypeId}:za7 D P T ds (⟨d,.call ⟨.builtin .append,#[x,y],#[t1,t2]⟩,t,p,af,g⟩::r) e S K =
  (match gd ds g e with | some true=>(match ydy T t1 t2 (e.ev y) with | some y=>zjq T t1 S (e.ev x) y fun v S=>za7 D P T ds r (e.put d v) S K | none=>False) | some false=>za7 D P T ds r (e.put d (.tup [])) S K | none=>False):=by
 rw [za7]; cases D <;> rfl
theorem zwp {x y:Operand} {t1 t2:TypeId}:za7 D P T ds (⟨d,.call ⟨.builtin .copy,#[x,y],#[t1,t2]⟩,t,p,af,g⟩::r) e S K =
  (match gd ds g e with | some true=>(z3u T t1 S (e.ev x) (e.ev y) fun v S=>za7 D P T ds r (e.put d v) S K) | some false=>za7 D P T ds r (e.put d (.tup [])) S K | none=>False):=by
 rw [za7]; cases D <;> rfl
theorem ztd {x:Operand} {t1:TypeId}:za7 D P T ds (⟨d,.call ⟨.builtin .clear,#[x],#[t1]⟩,t,p,af,g⟩::r) e S K =
  (match gd ds g e with | some true=>(zt0 T t1 S (e.ev x) fun v S=>za7 D P T ds r (e.put d v) S K) | some false=>za7 D P T ds r (e.put d (.tup [])) S K | none=>False):=by
 rw [za7]; cases D <;> rfl
theorem zwo {f:Operand} {xs:Array Operand} {ts:Array TypeId}:za7 D P T ds (⟨d,.call ⟨.value f,xs,ts⟩,t,p,af,g⟩::r) e S K =
  (match gd ds g e with | some true=>(match e.ev f with | .fn f1 cap=>zac D P T ds f1 (xs.toList.map e.ev++cap) S d r e K | .bm f1 b=>zac D P T ds f1 (b::xs.toList.map e.ev) S d r e K | .yl l=>zy5 D P T ds l (xs.toList.map e.ev) S d r e K | _=>False) | some false=>za7 D P T ds r (e.put d (.tup [])) S K | none=>False):=by
 rw [za7]; cases D <;> rfl
theorem zta {t1:TypeId}:za7 D P T ds (⟨d,.alloc t1,t,p,af,g⟩::r) e S K =
  (match gd ds g e with | some true=>((T t1).kd ≠ .none∧za7 D P T ds r (e.put d (.ref S.obs.length S.tick 0)) (S.push t1 (T t1).size (T t1).zero) K) | some false=>za7 D P T ds r (e.put d (.tup [])) S K | none=>False):=by
 rw [za7]; cases D <;> rfl
theorem z1e {t1:TypeId} {x:Operand}:za7 D P T ds (⟨d,.box t1 x,t,p,af,g⟩::r) e S K =
  (match gd ds g e with | some true=>((T t1).kd ≠ .none∧(e.ev x).cells.length=(T t1).size∧zbf (e.ev x).cells∧za7 D P T ds r (e.put d (.ref S.obs.length S.tick 0)) (S.push t1 (T t1).size (e.ev x).cells) K) | some false=>za7 D P T ds r (e.put d (.tup [])) S K | none=>False):=by
 rw [za7]; cases D <;> rfl
theorem znw {t1:TypeId}:za7 D P T ds (⟨d,.makeMap t1 none,t,p,af,g⟩::r) e S K =
  (match gd ds g e with | some true=>(za7 D P T ds r (e.put d (.mp S.obs.length S.tick)) S.pushMap K) | some false=>za7 D P T ds r (e.put d (.tup [])) S K | none=>False):=by
 rw [za7]; simp only[sOp,pOp,Option.isNone_none,true_and]
theorem zth {t1:TypeId} {x y:Operand}:za7 D P T ds (⟨d,.store t1 x y,t,p,af,g⟩::r) e S K =
  (match gd ds g e with | some true=>(pOp P T e S (.store t1 x y) fun v S=>za7 D P T ds r (e.put d v) S K) | some false=>za7 D P T ds r (e.put d (.tup [])) S K | none=>False):=by
 rw [za7]; rfl
theorem zjg {t1:TypeId} {n:Nat} {ps:Array (Nat × Operand)}:za7 D P T ds (⟨d,.buildSlice t1 n ps,t,p,af,g⟩::r) e S K =
  (match gd ds g e with | some true=>(pOp P T e S (.buildSlice t1 n ps) fun v S=>za7 D P T ds r (e.put d v) S K) | some false=>za7 D P T ds r (e.put d (.tup [])) S K | none=>False):=by
 rw [za7]; rfl
theorem zkx {t1:TypeId} {x y:Operand}:za7 D P T ds (⟨d,.makeSlice t1 x y,t,p,af,g⟩::r) e S K =
  (match gd ds g e with | some true=>(pOp P T e S (.makeSlice t1 x y) fun v S=>za7 D P T ds r (e.put d v) S K) | some false=>za7 D P T ds r (e.put d (.tup [])) S K | none=>False):=by
 rw [za7]; rfl
theorem zky {t1:TypeId} {x y z:Operand}:za7 D P T ds (⟨d,.mapUpdate t1 x y z,t,p,af,g⟩::r) e S K =
  (match gd ds g e with | some true=>(pOp P T e S (.mapUpdate t1 x y z) fun v S=>za7 D P T ds r (e.put d v) S K) | some false=>za7 D P T ds r (e.put d (.tup [])) S K | none=>False):=by
 rw [za7]; rfl
theorem zqi {t1:TypeId} {x y z:Operand}:za7 D P T ds (⟨d,.insert t1 x y z,t,p,af,g⟩::r) e S K =
  (match gd ds g e with | some true=>(pOp P T e S (.insert t1 x y z) fun v S=>za7 D P T ds r (e.put d v) S K) | some false=>za7 D P T ds r (e.put d (.tup [])) S K | none=>False):=by
 rw [za7]; rfl
theorem zxy {t1:TypeId} {a x:Operand} {K:PV→Store→Prop}:pOp P T e S (.store t1 a x) K=(    match e.ev a with
  | .ref o ver off =>
   match S.obs[o]? with
   | some (.arr v et sz cells) =>
    v=ver∧(T t1).kd ≠ .none∧(e.ev x).cells.length=(T t1).size∧off+(T t1).size≤cells.length∧zbf (e.ev x).cells ∧
     K (.tup []) (S.set o (.arr v et sz (spl cells off (e.ev x).cells)))
   | _=>False
  | _=>False):=rfl
theorem zk2 {t1:TypeId} {n:Nat} {parts:Array (Nat × Operand)} {K:PV→Store→Prop}:pOp P T e S (.buildSlice t1 n parts) K=(    match (T t1).kd with
  | .slice et =>
   n≤16777216∧n*(T et).size≤16777216 ∧
   match zi9 T (fun i=>some (i*(T et).size,(T et).size)) (repz (T et).zero n) (parts.toList.map fun p=>(p.1,e.ev p.2)) with
   | some cells=>zbf cells∧K (.loc S.obs.length S.tick 0 n) (S.push et (T et).size cells)
   | none=>False
  | _=>False):=rfl
theorem zma {t1:TypeId} {l c:Operand} {K:PV→Store→Prop}:pOp P T e S (.makeSlice t1 l c) K=(    match (T t1).kd,e.ev l,e.ev c with
  | .slice et,.int _ l,.int _ c=>l=c∧0≤l∧(T et).bytes*l≤281474976710656∧l≤9223372036854775807 ∧
    K (.loc S.obs.length S.tick 0 l.toNat) (S.push et (T et).size (repz (T et).zero l.toNat))
  | _,_,_=>False):=rfl
theorem zmb {t1:TypeId} {m k x:Operand} {K:PV→Store→Prop}:pOp P T e S (.mapUpdate t1 m k x) K=(    match (T t1).kd,e.ev m with
  | .map kt _,.mp o ver =>
   match S.obs[o]? with
   | some (.map v es) =>
    v=ver∧TK.keyed T kt (e.ev k)=true ∧
     match findKey (e.ev k) es 0 with
     | some (some (i,_))=>K (.tup []) (S.set o (.map v (es.set i (e.ev k,e.ev x))))
     | some none=>K (.tup []) (S.set o (.map v (es++[(e.ev k,e.ev x)])))
     | none=>False
   | _=>False
  | _,_=>False):=rfl
theorem zt3 {t1:TypeId} {m k x:Operand} {K:PV→Store→Prop}:pOp P T e S (.insert t1 m k x) K=(    match (T t1).kd,e.ev m with
  | .map kt _,.mp o ver =>
   match S.obs[o]? with
   | some (.map v es) =>
    v=ver∧TK.keyed T kt (e.ev k)=true ∧
     match findKey (e.ev k) es 0 with
     | some (some (i,_))=>K (.tup []) (S.set o (.map v (es.set i (e.ev k,e.ev x))))
     | some none=>K (.tup []) (S.set o (.map v (es++[(e.ev k,e.ev x)])))
     | none=>False
   | _=>False
  | _,_=>False):=rfl
theorem zxq {t:TypeId} {x:PV} {K:PV→Store→Prop}:zt0 T t S x K=(
 match (T t).kd with
 | .slice e =>
  match x with
  | .loc o ver off n =>
   match S.obs[o]? with
   | some (.arr v et sz cells)=>v=ver∧(T e).kd ≠ .none∧off+(repz (T e).zero n).length≤cells.length∧zbf (repz (T e).zero n)∧K (.tup []) (S.set o (.arr v et sz (spl cells off (repz (T e).zero n))))
   | _=>False
  | _=>False
 | _=>False):=rfl
theorem z11 {t:TypeId} {x y:PV} {K:PV→Store→Prop}:z3u T t S x y K=(
 match (T t).kd with
 | .slice e =>
  match zce S (T e).size y with
  | some (m,ys) =>
   match x with
   | .loc o ver off n =>
    match S.obs[o]? with
    | some (.arr v et sz cells)=>v=ver∧sz=(T e).size∧off+(ys.take (min m n*sz)).length≤cells.length ∧
      K (.int .i64 ((min m n:Nat):Int)) (S.set o (.arr v et sz (spl cells off (ys.take (min m n*sz)))))
    | _=>False
   | _=>False
  | none=>False
 | _=>False):=rfl
theorem zwe {t:TypeId} {y:PV}:ydy T t t y=some y:=if_pos rfl
theorem zty {t:TypeId} {x y:PV} {K:PV→Store→Prop}:zjq T t S x y K=(
 match (T t).kd with
 | .slice e =>
  match zce S (T e).size y with
  | some (m,ys) =>
   match x with
   | .nils=>if m=0 then K .nils S else m*(T e).bytes≤140737488355328∧m≤maxLen∧K (.loc S.obs.length S.tick 0 m) (S.push e (T e).size ys)
   | .loc o ver 0 n =>
    match S.obs[o]? with
    | some (.arr v et sz cells) =>
     v=ver∧et=e∧sz=(T e).size∧n*sz≤cells.length∧(n+m)*(T e).bytes≤140737488355328∧n+m≤maxLen ∧
      K (.loc o S.tick 0 (n+m)) ⟨S.obs.set o (.arr S.tick et sz (cells.take (n*sz)++ys)),S.tick+1⟩
    | _=>False
   | _=>False
  | none=>False
 | _=>False):=rfl
end
end
theorem z6n {t i:Nat} {ts:List Nat} {v:PV} {vs:List PV}:Env.of (t::ts) (v::vs) i=if i=t then v else Env.of ts vs i:=rfl
theorem zp4 {v:PV} {vs:List PV}:zag (v::vs) 0=v:=rfl
theorem zp5 {v:PV} {vs:List PV} {t:Nat}:zag (v::vs) (t+1)=zag vs t:=rfl
theorem Br {T:Tab} {rs:List ResultVar} {K:PV→Store→Prop} {e:Env} {S:Store} {v:PV} (h:zye T S e rs=some v) (k:K v S):zjd T rs K .ret e S:=by
 simp only[zjd,h]; exact k
theorem zjd.norm {T:Tab} {rs:List ResultVar} {K:PV→Store→Prop} {e:Env} {S:Store} {v:PV} (h:zye T S e rs=some v) (k:K v S):zjd T rs K .normal e S:=by
 simp only[zjd,h]; exact k
theorem w64 {x:Int} (h1 : -9223372036854775808≤x) (h2:x<9223372036854775808):IntKind.i64.wrap x=x:=by
 rw [IntKind.wrap_i64]; omega
theorem w8 {x:Int} (h1:0≤x) (h2:x<256):IntKind.u8.wrap x=x:=by
 simp [IntKind.wrap,IntKind.bits,IntKind.signed]; omega
abbrev zai (p:List (List UInt8)):PV := .sl (p.map .str) p.length
abbrev eInts (p:List Int):PV := .sl (p.map (.int .i64)) p.length
theorem tk {α:Type} {l:List α} {i:Nat} {a:α} (h:l[i]?=some a):l.take (i+1)=l.take i++[a]:=by
 rw [List.take_add_one,h]; rfl
theorem zaf {α:Type} {l:List α} {i:Nat} (h:i<l.length):∃ a,l[i]?=some a∧a∈l:=⟨l[i],List.getElem?_eq_getElem h,List.getElem_mem h⟩
theorem zm3 {a b:Int}:(if b>a then b else a)=max a b:=by omega
theorem zqv {a b:Int}:(if b<a then b else a)=min a b:=by omega
-- BUNDLES
theorem bq1:(true == false)=false:=rfl
theorem bq2:(false == true)=false:=rfl
theorem bq3:(true == true)=true:=rfl
theorem bq4:(false == false)=true:=rfl
theorem nb1:(!true)=false:=rfl
theorem nb2:(!false)=true:=rfl
theorem z5s {ds:List (Option Tmp)} {e:Env}:gd ds none e=some true:=rfl
theorem z5t {ds:List (Option Tmp)} {e:Env} {j:Nat} {want:Bool}:gd ds (some (j,want)) e=(match ds[j]? with
  | some (some d)=>match e d with
   | .bool b=>some (b == want)
   | .tup []=>some false
   | _=>none
  | _=>none):=rfl
theorem ybf {k:IntKind} {n:Int}:zfk (.int k n) = .int k n:=rfl
theorem z6i {b:Bool}:zfk (.bool b) = .bool b:=rfl
theorem z6l:zfk (.pointer none) = .nilp:=rfl
theorem z6m:zfk (.slice none 0 0) = .nils:=rfl
theorem z6j:zfk .nilFunc = .nilf:=rfl
theorem z6k:zfk (.map none) = .nilm:=rfl
theorem ybg {s:ByteArray}:zfk (.string s) = .str s.data.toList:=rfl
theorem gl0 {a:Option Tmp} {l:List (Option Tmp)}:(a::l)[0]?=some a:=rfl
theorem gls {a:Option Tmp} {l:List (Option Tmp)} {i:Nat}:(a::l)[i+1]?=l[i]?:=rfl
theorem zwg {cs:List PV}:(PV.agg cs).cells=cs:=rfl
theorem z6y {k:IntKind} {n:Int}:pUn .neg (.int k n)=some (.int k (k.wrap (0 - n))):=rfl
theorem z6z {b:Bool}:pUn .not (.bool b)=some (.bool (!b)):=rfl
theorem zt4 {t:Bool} {a b:PV}:z9t (.bool t) a b=some (if t then a else b):=rfl
theorem zn5 {vs:List PV} {i:Nat}:zpm (.tup vs) i=vs[i]?:=rfl
theorem z16 {ti:TI} {S:Store} {cs:List PV} {off:Nat}:zvi ti S (.ip cs off)=zlh ti cs off:=rfl
theorem zxx {ti:TI} {S:Store} {o ver off:Nat}:zvi ti S (.ref o ver off)=(S.cellsOf o ver).bind fun cells=>zlh ti cells off:=rfl
theorem zn8 {S:Store} {cs:List PV} {off:Nat}:zir S (.ip cs off)=some (.ip cs off):=rfl
theorem zl9 {S:Store} {o ver off:Nat}:zir S (.ref o ver off)=(S.cellsOf o ver).map fun _ => .ref o ver off:=rfl
theorem z17 {x:PV}:z9r [x]=some x:=rfl
theorem z18 {k k':IntKind} {a b:Int} {r:List PV}:z9r (.int k a :: .int k' b::r)=z9r (.int k (if b>a then b else a)::r):=rfl
theorem z19 {x:PV}:z9s [x]=some x:=rfl
theorem z2a {k k':IntKind} {a b:Int} {r:List PV}:z9s (.int k a :: .int k' b::r)=z9s (.int k (if b<a then b else a)::r):=rfl
theorem z1q {k:TK}:k.isAgg=(match k with | .struct _ | .arr _ _=>true | _=>false):=rfl
theorem z6s {T:Tab} {S:Store} {op:BinOp} {t:TypeId} {x y:PV}:yds T S op t x y=(
 match x,y with
 | .int k a,.int k' b =>
  match op with
  | .shl | .shr=>z2d op k a b
  | _=>if k=k' then zxm op k a b else none
 | .str a,.str b=>zn9 op a b
 | _,_ =>
  match op with
  | .eql=>(pEq T S t x y).map .bool
  | .neq=>(pEq T S t x y).map fun b => .bool (!b)
  | _=>none):=rfl
theorem zxn {op:BinOp} {k:IntKind} {a b:Int}:zxm op k a b=(
 match op with
 | .add=>some (.int k (k.wrap (a+b)))
 | .sub=>some (.int k (k.wrap (a - b)))
 | .mul=>some (.int k (k.wrap (a*b)))
 | .quo=>if b=0 then none else some (.int k (k.wrap (a.tdiv b)))
 | .rem=>if b=0 then none else some (.int k (a.tmod b))
 | .and=>some (.int k (k.wrap (BitVec.ofInt k.bits a &&& BitVec.ofInt k.bits b).toNat))
 | .or=>some (.int k (k.wrap (BitVec.ofInt k.bits a ||| BitVec.ofInt k.bits b).toNat))
 | .xor=>some (.int k (k.wrap (BitVec.ofInt k.bits a ^^^ BitVec.ofInt k.bits b).toNat))
 | .eql=>some (.bool (a == b))
 | .neq=>some (.bool (a != b))
 | .lss=>some (.bool (a<b))
 | .leq=>some (.bool (a≤b))
 | .gtr=>some (.bool (a>b))
 | .geq=>some (.bool (a ≥ b))
 | _=>none):=rfl
theorem zl7 {T:Tab} {S:Store} {t:TypeId} {x i:PV}:zgx T S t x i=(
 match i with
 | .int _ i =>
  match (T t).kd,x with
  | .slice e,.sl cs n=>if 0≤i∧i<n then some (.ip cs (i.toNat*(T e).size)) else none
  | .slice e,.loc o ver off n=>(S.cellsOf o ver).bind fun _=>if 0≤i∧i<n then some (.ref o ver (off+i.toNat*(T e).size)) else none
  | .arr n e,.ref o ver off=>(S.cellsOf o ver).bind fun _=>if 0≤i∧i<n then some (.ref o ver (off+i.toNat*(T e).size)) else none
  | .arr n e,.ip cs off=>if 0≤i∧i<n then some (.ip cs (off+i.toNat*(T e).size)) else none
  | _,_=>none
 | _=>none):=rfl
theorem zxw {T:Tab} {t:TypeId} {x i:PV}:zxv T t x i=(
 match i with
 | .int _ i =>
  match (T t).kd,x with
  | .str,.str s=>if 0≤i then (s[i.toNat]?).map fun b => .int .u8 b.toNat else none
  | .arr n e,.agg cs=>if 0≤i∧i<n then z6x (T e) cs (i.toNat*(T e).size) else none
  | _,_=>none
 | _=>none):=rfl
theorem zq9 {T:Tab} {S:Store} {c:Callee} {xs:List PV} {ts:List TypeId}:ze6 T S c xs ts=(
 match c with
 | .builtin .len=>match xs,ts with
  | [x],[t]=>yeo T S t x
  | _,_=>none
 | .builtin .max=>z9r xs
 | .builtin .min=>z9s xs
 | _=>none):=rfl
theorem z6u {T:Tab} {S:Store} {t:TypeId} {x:PV}:yeo T S t x=(
 match (T t).kd,x with
 | .str,.str s=>some (.int .i64 s.length)
 | .arr n _,_=>some (.int .i64 n)
 | .slice _,.nils=>some (.int .i64 0)
 | .slice _,.sl _ n=>some (.int .i64 n)
 | .slice _,.loc o ver _ n=>(S.cellsOf o ver).map fun _ => .int .i64 n
 | .map _ _,.mp o ver=>match S.obs[o]? with
  | some (.map v es)=>if v=ver then some (.int .i64 es.length) else none
  | _=>none
 | _,_=>none):=rfl
theorem zra {T:Tab} {S:Store} {src dst:TypeId} {x:PV}:zke T S src dst x=(
 match (T src).kd,(T dst).kd,x with
 | .int _,.int k,.int _ n=>some (.int k (k.wrap n))
 | .int _,.str,.int _ n=>some (.str (Utf8.encode n).data.toList)
 | .str,.str,.str s=>some (.str s)
 | .slice e,.str,x =>
  match (T e).kd with
  | .int .u8=>(zce S 1 x).bind fun q=>(zfh q.2).map .str
  | _=>none
 | .str,.slice e,.str s =>
  match (T e).kd with
  | .int .u8=>some (.sl (s.map fun b => .int .u8 b.toNat) s.length)
  | _=>none
 | _,_,_=>none):=rfl
theorem zxs {T:Tab} {t:TypeId} {x:PV} {f:Nat}:zxr T t x f=(
 match (T t).kd,x with
 | .struct fs,.agg cs =>
  match fs[f]? with
  | some (fo,ft)=>z6x (T ft) cs fo
  | none=>none
 | _,_=>none):=rfl
theorem z2c {ti:TI} {cs:List PV} {off:Nat}:z6x ti cs off=(
zlh ti cs off):=rfl
theorem zl5 {T:Tab} {S:Store} {t:TypeId} {x:PV} {f:Nat}:zgw T S t x f=(
 match (T t).kd with
 | .struct fs =>
  match fs[f]?,x with
  | some (fo,ft),.ip cs off=>if (T ft).size=0 then none else some (.ip cs (off+fo))
  | some (fo,ft),.ref o ver off=>if (T ft).size=0 then none else (S.cellsOf o ver).map fun _ => .ref o ver (off+fo)
  | _,_=>none
 | _=>none):=rfl
theorem zx1 {T:Tab} {S:Store} {t:TypeId} {x:PV} {lo hi:Option PV}:zx0 T S t x lo hi=(
 match (T t).kd,x with
 | .str,.str s=>(zfl s.length lo hi).map fun (l,h) => .str ((s.take h).drop l)
 | .slice e,.sl cs n=>(zfl n lo hi).map fun (l,h) => .sl ((cs.take (h*(T e).size)).drop (l*(T e).size)) (h - l)
 | .slice e,.loc o ver off n =>
  match S.obs[o]? with
  | some (.arr v _ sz _) =>
   if v=ver∧sz=(T e).size then (zfl n lo hi).bind fun (l,h)=>if l=0∨l<n then some (.loc o ver (off+l*sz) (h - l)) else none
   else none
  | _=>none
 | _,_=>none):=rfl
theorem zt2 {T:Tab} {S:Store} {t:TypeId} {m k:PV} {ok:Bool}:zrb T S t m k ok=(
 match (T t).kd,m with
 | .map kt vt,.mp o ver =>
  match S.obs[o]? with
  | some (.map v es) =>
   if v=ver∧TK.keyed T kt k=true∧(T vt).kd.isAgg=false then
    (findKey k es 0).bind fun r=>match r with
     | some (_,x)=>some (if ok then .tup [x,.bool true] else x)
     | none=>((T vt).zero[0]?).map fun z=>if ok then .tup [z,.bool false] else z
   else none
  | _=>none
 | _,_=>none):=rfl
theorem zn7 {fn:Go.Fn} {first cap:List PV}:zl8 fn first cap=(
 match fn,first with
 | .func f,[]=>some (.fn f cap)
 | .func f,[x]=>if znc 10 x && cap.isEmpty then some (.bm f x) else none
 | _,_=>none):=rfl
theorem z1o {ti:TI} {cs:List PV} {off:Nat}:zlh ti cs off=(
 if ti.kd = .none then none else if ti.kd.isAgg then (if off+ti.size≤cs.length then some (.agg ((cs.drop off).take ti.size)) else none) else cs[off]?):=rfl
theorem zxp {T:Tab} {t:TypeId} {parts:List (Nat × PV)}:zxo T t parts=(
 match (T t).kd with
 | .struct fs=>(zi9 T (fun i=>(fs[i]?).map fun f=>(f.1,(T f.2).size)) (T t).zero parts).map .agg
 | .arr _ e=>(zi9 T (fun i=>some (i*(T e).size,(T e).size)) (T t).zero parts).map .agg
 | _=>none):=rfl
theorem RU:(type_of% @z5f)∧(type_of% @z1l)∧(type_of% @z5e)∧(type_of% @zvk)∧(type_of% @z2h)∧(type_of% @z1i)∧(type_of% @zwr)∧(type_of% @zqh)∧(type_of% @zws)∧(type_of% @zwq)∧(type_of% @zly)∧(type_of% @ztb)∧(type_of% @zwt)∧(type_of% @znu)∧(type_of% @zlx)∧(type_of% @ztg)∧(type_of% @zkv)∧(type_of% @zte)∧(type_of% @zkw)∧(type_of% @ztf)∧(type_of% @znv)∧(type_of% @ztc)∧(type_of% @zqj)∧(type_of% @z1f)∧(type_of% @z1g)∧(type_of% @z1h)∧(type_of% @zqg)∧(type_of% @zwo)∧(type_of% @ztd)∧(type_of% @zwp)∧(type_of% @zta)∧(type_of% @z1e)∧(type_of% @znw)∧(type_of% @zth)∧(type_of% @zjg)∧(type_of% @zkx)∧(type_of% @zky)∧(type_of% @zxy)∧(type_of% @zk2)∧(type_of% @zma)∧(type_of% @zmb)∧(type_of% @zty)∧(type_of% @zwe)∧(type_of% @zqi)∧(type_of% @zt3)∧(type_of% @zxq)∧(type_of% @z11)∧(type_of% @z6n):=⟨@z5f,@z1l,@z5e,@zvk,@z2h,@z1i,@zwr,@zqh,@zws,@zwq,@zly,@ztb,@zwt,@znu,@zlx,@ztg,@zkv,@zte,@zkw,@ztf,@znv,@ztc,@zqj,@z1f,@z1g,@z1h,@zqg,@zwo,@ztd,@zwp,@zta,@z1e,@znw,@zth,@zjg,@zkx,@zky,@zxy,@zk2,@zma,@zmb,@zty,@zwe,@zqi,@zt3,@zxq,@z11,@z6n⟩
theorem RV:(type_of% @zwn)∧(type_of% @z1c)∧(type_of% @z5d)∧(type_of% @zwx)∧(type_of% @z1k)∧(type_of% @zp4)∧(type_of% @zp5)∧(type_of% @bq1)∧(type_of% @bq2)∧(type_of% @bq3)∧(type_of% @bq4)∧(type_of% @nb1)∧(type_of% @nb2)∧(type_of% @z5s)∧(type_of% @z5t)∧(type_of% @ybf)∧(type_of% @z6i)∧(type_of% @z6l)∧(type_of% @z6m)∧(type_of% @z6j)∧(type_of% @z6k)∧(type_of% @ybg)∧(type_of% @gl0)∧(type_of% @gls)∧(type_of% @zwg)∧(type_of% @z6y)∧(type_of% @z6z)∧(type_of% @zt4)∧(type_of% @zn5)∧(type_of% @z16)∧(type_of% @zxx)∧(type_of% @zn8)∧(type_of% @zl9)∧(type_of% @z17)∧(type_of% @z18)∧(type_of% @z19)∧(type_of% @z2a)∧(type_of% @z1q)∧(type_of% @z6s)∧(type_of% @zxn)∧(type_of% @zl7)∧(type_of% @zxw)∧(type_of% @zq9)∧(type_of% @z6u)∧(type_of% @zra)∧(type_of% @zxs)∧(type_of% @z2c)∧(type_of% @zl5)∧(type_of% @zx1)∧(type_of% @zt2)∧(type_of% @zn7)∧(type_of% @zxp)∧(type_of% @z1o):=⟨@zwn,@z1c,@z5d,@zwx,@z1k,@zp4,@zp5,@bq1,@bq2,@bq3,@bq4,@nb1,@nb2,@z5s,@z5t,@ybf,@z6i,@z6l,@z6m,@z6j,@z6k,@ybg,@gl0,@gls,@zwg,@z6y,@z6z,@zt4,@zn5,@z16,@zxx,@zn8,@zl9,@z17,@z18,@z19,@z2a,@z1q,@z6s,@zxn,@zl7,@zxw,@zq9,@z6u,@zra,@zxs,@z2c,@zl5,@zx1,@zt2,@zn7,@zxp,@z1o⟩
theorem zno:zbf []:=fun _ h=>by cases h
theorem zlv {p:PV} {ps:List PV}:zbf (p::ps)↔p.isCell=true∧zbf ps:=by
 unfold zbf; simp
theorem znn {α:Type} {f:α→PV} (h:∀ a,(f a).isCell=true) (l:List α):zbf (l.map f):=by
 intro p hp; obtain ⟨a,_,rfl⟩:=List.mem_map.1 hp; exact h a
theorem ybs {S:Store} {sz o ver off n:Nat}:zce S sz (.loc o ver off n)=(S.cellsOf o ver).bind fun cells=>if off+n*sz≤cells.length then some (n,(cells.drop off).take (n*sz)) else none:=rfl
theorem yeu {S:Store} {sz n:Nat} {cs:List PV}:zce S sz (.sl cs n)=if cs.length=n*sz then some (n,cs) else none:=rfl
theorem z72 {S:Store} {sz:Nat}:zce S sz .nils=some (0,[]):=rfl
theorem yd9 {S:Store} {o ver:Nat}:S.cellsOf o ver=(match S.obs[o]? with | some (.arr v _ _ cells)=>if v=ver then some cells else none | _=>none):=rfl
theorem z67 {l:List Ob} {t et sz:Nat} {cells:List PV}:Store.push ⟨l,t⟩ et sz cells=⟨l++[.arr t et sz cells],t+1⟩:=rfl
theorem zua {l:List Ob} {t:Nat}:Store.pushMap ⟨l,t⟩=⟨l++[.map t []],t+1⟩:=rfl
theorem ybq {l:List Ob} {t o:Nat} {ob:Ob}:Store.set ⟨l,t⟩ o ob=⟨l.set o ob,t⟩:=rfl
theorem zbl {l:List Ob} {t k:Nat}:Store.take ⟨l,t⟩ k=⟨l.take k,t⟩:=rfl
theorem zbq {k:IntKind} {n:Int}:(PV.int k n).cells=[.int k n]:=rfl
theorem zs6 {b:Bool}:(PV.bool b).cells=[.bool b]:=rfl
theorem zbn {b:List UInt8}:(PV.str b).cells=[.str b]:=rfl
theorem zs8:PV.nils.cells=[.nils]:=rfl
theorem zs7:PV.nilp.cells=[.nilp]:=rfl
theorem zwh {o v f n:Nat}:(PV.loc o v f n).cells=[.loc o v f n]:=rfl
theorem zwi {o v f:Nat}:(PV.ref o v f).cells=[.ref o v f]:=rfl
theorem z05 {o v:Nat}:(PV.mp o v).cells=[.mp o v]:=rfl
theorem z06 {cs:List PV} {n:Nat}:(PV.sl cs n).cells=[.sl cs n]:=rfl
theorem z04 {cs:List PV} {n:Nat}:(PV.ip cs n).cells=[.ip cs n]:=rfl
theorem ya4 {k:IntKind} {n:Int}:(PV.int k n).isCell=true:=rfl
theorem z5x {b:Bool}:(PV.bool b).isCell=true:=rfl
theorem ya7 {b:List UInt8}:(PV.str b).isCell=true:=rfl
theorem z5z:PV.nils.isCell=true:=rfl
theorem z5y:PV.nilp.isCell=true:=rfl
theorem ya5 {o v f n:Nat}:(PV.loc o v f n).isCell=true:=rfl
theorem ya6 {o v f:Nat}:(PV.ref o v f).isCell=true:=rfl
theorem yed {o v:Nat}:(PV.mp o v).isCell=true:=rfl
theorem yee {cs:List PV} {n:Nat}:(PV.sl cs n).isCell=true:=rfl
theorem yec {cs:List PV} {n:Nat}:(PV.ip cs n).isCell=true:=rfl
theorem ya9 {k:IntKind} {n:Int}:(PV.int k n).isDef=true:=rfl
theorem z50 {b:Bool}:(PV.bool b).isDef=true:=rfl
theorem ybc {b:List UInt8}:(PV.str b).isDef=true:=rfl
theorem ya8 {cs:List PV}:(PV.agg cs).isDef=true:=rfl
theorem z51:PV.nils.isDef=true:=rfl
theorem yba {o v f n:Nat}:(PV.loc o v f n).isDef=true:=rfl
theorem ybb {o v f:Nat}:(PV.ref o v f).isDef=true:=rfl
theorem yef {cs:List PV} {n:Nat}:(PV.sl cs n).isDef=true:=rfl
theorem zxt {T:Tab} {pl:Nat→Option (Nat × Nat)} {cs:List PV}:zi9 T pl cs []=some cs:=rfl
theorem zt1 {T:Tab} {pl:Nat→Option (Nat × Nat)} {cs:List PV} {i:Nat} {v:PV} {r:List (Nat × PV)}:zi9 T pl cs ((i,v)::r)=(match pl i with
  | none=>none
  | some (off,size)=>if v.cells.length=size∧off+size≤cs.length∧v.isDef=true then zi9 T pl (spl cs off v.cells) r else none):=rfl
theorem ybt {cs vs:List PV} {off:Nat}:spl cs off vs=cs.take off++vs++cs.drop (off+vs.length):=rfl
theorem zyc {z:List PV}:repz z 0=[]:=rfl
theorem zit {z:List PV} {n:Nat}:repz z (n+1)=z++repz z n:=rfl
theorem z12 {n:Nat}:pHi n none=some n:=rfl
theorem z13 {n:Nat} {k:IntKind} {h:Int}:pHi n (some (.int k h))=if 0≤h∧h≤n then some h.toNat else none:=rfl
theorem z14 {n:Nat}:pLo n none=some 0:=rfl
theorem z15 {n:Nat} {k:IntKind} {h:Int}:pLo n (some (.int k h))=if 0≤h∧h≤n then some h.toNat else none:=rfl
theorem ztz {n:Nat} {lo hi:Option PV}:zfl n lo hi=(pHi n hi).bind fun h=>(pLo h lo).map fun l=>(l,h):=rfl
theorem RS:(type_of% @zno)∧(type_of% @zlv)∧(type_of% @ybs)∧(type_of% @yeu)∧(type_of% @z72)∧(type_of% @yd9)∧(type_of% @z67)∧(type_of% @zua)∧(type_of% @ybq)∧(type_of% @zbl)∧(type_of% @zbq)∧(type_of% @zs6)∧(type_of% @zbn)∧(type_of% @zs8)∧(type_of% @zs7)∧(type_of% @zwh)∧(type_of% @zwi)∧(type_of% @z05)∧(type_of% @z06)∧(type_of% @z04)∧(type_of% @ya4)∧(type_of% @z5x)∧(type_of% @ya7)∧(type_of% @z5z)∧(type_of% @z5y)∧(type_of% @ya5)∧(type_of% @ya6)∧(type_of% @yed)∧(type_of% @yee)∧(type_of% @yec)∧(type_of% @ya9)∧(type_of% @z50)∧(type_of% @ybc)∧(type_of% @ya8)∧(type_of% @z51)∧(type_of% @yba)∧(type_of% @ybb)∧(type_of% @yef)∧(type_of% @zxt)∧(type_of% @zt1)∧(type_of% @ybt)∧(type_of% @zyc)∧(type_of% @zit)∧(type_of% @z12)∧(type_of% @z13)∧(type_of% @z14)∧(type_of% @z15)∧(type_of% @ztz):=⟨@zno,@zlv,@ybs,@yeu,@z72,@yd9,@z67,@zua,@ybq,@zbl,@zbq,@zs6,@zbn,@zs8,@zs7,@zwh,@zwi,@z05,@z06,@z04,@ya4,@z5x,@ya7,@z5z,@z5y,@ya5,@ya6,@yed,@yee,@yec,@ya9,@z50,@ybc,@ya8,@z51,@yba,@ybb,@yef,@zxt,@zt1,@ybt,@zyc,@zit,@z12,@z13,@z14,@z15,@ztz⟩
abbrev eB (b:UInt8):PV := .int .u8 b.toNat
theorem ybx {α:Type} {f:α→PV} {l:List α}:(l.map f).take l.length=l.map f:=by
 rw [← List.length_map f,List.take_length]
theorem z4f {α:Type} {f:α→PV} {l:List α} {n:Nat} (h:l.length≤n):(l.map f).take n=l.map f:=qT (by simpa using h)
theorem z59 {a b:Nat} (h:a≤b):(a≤b)=True:=eq_true h
theorem zxh:maxLen=9223372036854775807:=rfl
theorem ye0 {n a:Nat}:IntKind.u8.wrap ((n:Int)+(a:Int))=((UInt8.ofNat (n+a)).toNat:Int):=by
 have:((n:Int)+(a:Int))=((n+a:Nat):Int):=by omega
 rw [this]
 simp [IntKind.wrap,IntKind.bits,IntKind.signed,UInt8.toNat_ofNat']
theorem ydn {a:Nat}:IntKind.u8.wrap (97+(a:Int))=((UInt8.ofNat (97+a)).toNat:Int):=ye0 (n:=97)
theorem zdv {i:Nat}:((i:Int) - 1).toNat=i - 1:=by omega
theorem zc1 {α:Type} {l:List α} {i:Nat} {a:α} (h:l[i]?=some a):i<l.length:=(List.getElem?_eq_some_iff.1 h).1
theorem zci {S:Store} {im:Bool} {k o ver et sz n:Nat} {cells ts:List PV} (h:S.obs[o]?=some (.arr ver et sz cells)) (hl:cells.length=n*sz) (hm:cells.mapM (reify S im k)=some ts) :
  reify S im (k+1) (.loc o ver 0 n)=some (.sl ts n):=by
 simp only[reify,h,Nat.zero_add,hl,qR,and_self,if_true,List.drop_zero]
 rw [← hl,List.take_length,hm]; rfl
theorem zb6 {f:PV→Option PV}:∀ {l:List PV},(∀ x∈l,f x=some x)→l.mapM f=some l
 | [],_=>rfl
 | x::l,h=>by rw [qC,h x (by simp),zb6 (l:=l) fun y hy=>h y (by simp [hy])]; rfl
theorem zgq {S:Store} {im:Bool} {k:Nat} (l:List (List UInt8)):(l.map PV.str).mapM (reify S im (k+1))=some (l.map PV.str) :=
 zb6 fun x hx=>by obtain ⟨a,_,rfl⟩:=List.mem_map.1 hx; rfl
theorem z9k {S:Store} {im:Bool} {k:Nat} {q:IntKind} (l:List Int):(l.map (PV.int q)).mapM (reify S im (k+1))=some (l.map (PV.int q)) :=
 zb6 fun x hx=>by obtain ⟨a,_,rfl⟩:=List.mem_map.1 hx; rfl
theorem zlb (l:List UInt8):zfh (l.map fun b=>PV.int .u8 b.toNat)=some l:=by
 induction l with
 | nil=>rfl
 | cons a l ih=>simp only[List.map_cons,zfh,ih]; simp
section
def rfz (S:Store) (lo:Nat):Nat→PV→Option PV
 | 0,_=>none
 | k+1,p =>
  match p with
  | .int a b=>some (.int a b)
  | .bool b=>some (.bool b)
  | .str s=>some (.str s)
  | .nilp=>some .nilp
  | .nilf=>some .nilf
  | .yl l=>some (.yl l)
  | .nilm=>some .nilm
  | .nils=>some .nils
  | .agg cs=>(cs.mapM (rfz S lo k)).map .agg
  | .tup cs=>(cs.mapM (rfz S lo k)).map .tup
  | .fn f cs=>(cs.mapM (rfz S lo k)).map (.fn f)
  | .sl cs n=>some (.sl cs n)
  | .ip cs off=>some (.ip cs off)
  | .bm f b=>some (.bm f b)
  | .loc o ver off n =>
   match S.obs[o]? with
   | some (.arr v _ sz cells)=>if lo≤o∧v=ver∧off+n*sz≤cells.length then (((cells.drop off).take (n*sz)).mapM (rfz S lo k)).map (.sl · n) else none
   | _=>none
  | .ref o ver off=>if lo≤o then (S.cellsOf o ver).bind fun cells=>(cells.mapM (rfz S lo k)).map (.ip · off) else none
  | _=>none
section
variable {P:Program} {T:Tab} {F:Nat→Prop} {G:GSt} {w:World} {e:Env} {a:Act}
def zoh (F:Nat→Prop) (G:GSt) (lo:Nat) (b:Nat):Prop:=F b∨∃ (o:Nat) (x:Ob × Lc),lo≤o∧G.obs[o]?=some x∧x.2.blk=b
theorem zpt {S:Store} {lo:Nat}:∀ {k:Nat} {p t:PV},rfz S lo k p=some t→p.isCell=true→t.isCell=true
 | 0,p,t,h,_=>by simp [rfz]at h
 | k+1,p,t,h,hp=>by
  cases p <;> simp only[rfz]at h <;> first
   | (cases h; rfl)
   | (simp [PV.isCell]at hp; done)
   | (cases h; done)
   | (split at h <;> first | (cases h; rfl) | (cases h; done) | (split at h <;> first | (cases h; done) | (rw [qI]at h; obtain ⟨_,_,rfl⟩:=h; rfl)))
   | (rw [qI]at h; obtain ⟨_,_,rfl⟩:=h; rfl)
   | (split at h <;> first | (cases h; done) | (rw [Option.bind_eq_some_iff]at h; obtain ⟨_,_,h⟩:=h; rw [qI]at h; obtain ⟨_,_,rfl⟩:=h; rfl))
theorem zmg (hi:Inv F G w) {lo:Nat}:∀ {k:Nat} {p t:PV} {cv:Value},VR w.heap F G p cv→rfz G.er lo k p=some t→VI w.heap (zoh F G lo) t cv
 | 0,p,t,cv,_,h=>by simp [rfz]at h
 | k+1,p,t,cv,hv,h=>by
  have cellsVI:∀ {b off:Nat} {cs ts:List PV},zc4 w.heap F G b off cs→cs.mapM (rfz G.er lo k)=some ts →
    ∃ g:Nat→Value,(∀ (i:Nat) p,ts[i]?=some p→p.isCell=true∧zhj w.heap b (off+i)=some (g i))∧∀ (i:Nat) p,ts[i]?=some p→VI w.heap (zoh F G lo) p (g i):=by
   intro b off cs ts hc hm
   obtain ⟨h1,h2⟩:=zbs _ _ hm
   refine ⟨fun i=>(zhj w.heap b (off+i)).getD undef,fun i p hp=>?_,fun i p hp=>?_⟩
   ·obtain ⟨x,h3,h4⟩:=h2 i p hp
    obtain ⟨h5,v,h6,h7⟩:=hc i x h3
    exact ⟨zpt h4 h5,by simp [h6]⟩
   obtain ⟨x,h3,h4⟩:=h2 i p hp
   obtain ⟨h5,v,h6,h7⟩:=hc i x h3
   simp only[h6]
   exact zmg hi h7 h4
  have rowVI:∀ {cs ts:List PV} {vs:Array Value},cs.length=vs.size→(∀ (i:Nat) p v,cs[i]?=some p→vs[i]?=some v→VR w.heap F G p v)→cs.mapM (rfz G.er lo k)=some ts →
    ts.length=vs.size∧∀ (i:Nat) p v,ts[i]?=some p→vs[i]?=some v→VI w.heap (zoh F G lo) p v:=by
   intro cs ts vs hl hp hm
   obtain ⟨h1,h2⟩:=zbs _ _ hm
   refine ⟨by omega,fun i p v q1 q2=>?_⟩
   obtain ⟨x,h3,h4⟩:=h2 i p q1
   exact zmg hi (hp i x v h3 q2) h4
  cases p with
  | int q n=>simp only[rfz]at h; cases h; rw [hv.int]; exact .int _ _
  | bool b=>simp only[rfz]at h; cases h; rw [hv.bool]; exact .bool _
  | str s=>simp only[rfz]at h; cases h; obtain ⟨b,rfl,hb⟩:=hv.str; exact .str _ _ hb
  | nilp=>simp only[rfz]at h; cases h; cases hv with | imm _ _ hv=>cases hv; exact .nilp
  | nilf=>simp only[rfz]at h; cases h; cases hv with | imm _ _ hv=>cases hv; exact .nilf
  | yl l=>simp only[rfz]at h; cases h; cases hv with | imm _ _ hv=>cases hv; exact .yl _
  | nilm=>simp only[rfz]at h; cases h; cases hv with | imm _ _ hv=>cases hv; exact .nilm
  | nils=>simp only[rfz]at h; cases h; cases hv with | imm _ _ hv=>cases hv; exact .nils
  | agg cs =>
   simp only[rfz]at h
   rw [qI]at h
   obtain ⟨ts,h1,rfl⟩:=h
   obtain ⟨vs,rfl,h2,h3⟩:=hv.agg'
   obtain ⟨h4,h5⟩:=rowVI h2 h3 h1
   exact .agg _ _ h4 h5
  | tup cs =>
   simp only[rfz]at h
   rw [qI]at h
   obtain ⟨ts,h1,rfl⟩:=h
   obtain ⟨vs,rfl,h2,h3⟩:=hv.tup'
   obtain ⟨h4,h5⟩:=rowVI h2 h3 h1
   exact .tup _ _ h4 h5
  | fn f cs =>
   simp only[rfz]at h
   rw [qI]at h
   obtain ⟨ts,h1,rfl⟩:=h
   have:∃ vs:Array Value,cv = .func (.func f) #[] vs∧cs.length=vs.size∧∀ (i:Nat) p v,cs[i]?=some p→vs[i]?=some v→VR w.heap F G p v:=by
    cases hv with
    | imm _ _ hv=>cases hv with | fn _ _ vs h2 h3=>exact ⟨vs,rfl,h2,fun i p v a b => .imm _ _ (h3 i p v a b)⟩
    | fn _ _ vs h2 h3=>exact ⟨vs,rfl,h2,h3⟩
   obtain ⟨vs,rfl,h2,h3⟩:=this
   obtain ⟨h4,h5⟩:=rowVI h2 h3 h1
   exact .fn _ _ _ h4 h5
  | sl cs n =>
   simp only[rfz]at h
   cases h
   cases hv with
   | imm _ _ hv=>exact hv.mono (fun b hb => .inl hb) (fun _ _=>rfl)
  | ip cs off =>
   simp only[rfz]at h
   cases h
   cases hv with
   | imm _ _ hv=>exact hv.mono (fun b hb => .inl hb) (fun _ _=>rfl)
  | bm f b =>
   simp only[rfz]at h
   cases h
   cases hv with
   | imm _ _ hv=>exact hv.mono (fun b hb => .inl hb) (fun _ _=>rfl)
  | loc o ver off n =>
   simp only[rfz]at h
   split at h
   ·rename_i v et sz cells hob
    split at h
    ·rename_i hc
     obtain ⟨hlo,rfl,hle⟩:=hc
     rw [qI]at h
     obtain ⟨ts,h1,rfl⟩:=h
     obtain ⟨_,_,l,cap,ho,rfl,_,hn,_⟩:=hv.loc_at hi (cells:=cells) (by simp [Store.cellsOf,hob])
     obtain ⟨l',hG⟩:=zex hob
     rw [hG]at ho
     cases ho
     have hc2:zc4 w.heap F G l.blk off ((cells.drop off).take (n*sz)):=by
      have:=((hi.cellsAt hG).drop off).take (n*sz)
      rwa [Nat.zero_add]at this
     obtain ⟨g,g1,g2⟩:=cellsVI hc2 h1
     exact .sl _ _ _ _ _ g (fun _ => .inr ⟨o,_,hlo,hG,rfl⟩) hn g1 g2
    cases h
   cases h
  | ref o ver off =>
   simp only[rfz]at h
   split at h
   case isFalse=>cases h
   rename_i hlo
   rw [Option.bind_eq_some_iff]at h
   obtain ⟨cells,hc,h⟩:=h
   rw [qI]at h
   obtain ⟨ts,h1,rfl⟩:=h
   obtain ⟨et,sz,l,hG,rfl,_⟩:=hv.ref_at hi hc
   obtain ⟨g,g1,g2⟩:=cellsVI (hi.cellsAt hG) h1
   have:=VI.ip (F:=zoh F G lo) ts off l.blk 0 g (fun _ => .inr ⟨o,_,hlo,hG,rfl⟩) g1 g2
   rwa [Nat.zero_add]at this
  | mp o ver=>simp only[rfz]at h; cases h
  | undef=>simp only[rfz]at h; cases h
def frz (S:Store) (lo:Nat):Nat→PV→Option PV
 | 0,_=>none
 | k+1,p =>
  match p with
  | .agg cs=>(cs.mapM (frz S lo k)).map .agg
  | .tup cs=>(cs.mapM (frz S lo k)).map .tup
  | .fn f cs=>(cs.mapM (frz S lo k)).map (.fn f)
  | .loc o ver off n=>if o<lo then some (.loc o ver off n) else rfz S lo 10 (.loc o ver off n)
  | .ref o ver off=>if o<lo then some (.ref o ver off) else rfz S lo 10 (.ref o ver off)
  | .mp o ver=>if o<lo then some (.mp o ver) else none
  | .undef=>some .undef
  | p=>rfz S lo 10 p
theorem zl0 (hi:Inv F G w) {lo:Nat} {F':Nat→Prop} {G':GSt} (hF:∀ b,zoh F G lo b→F' b) (hn:Next F G w F' G' w):∀ {k:Nat} {p t:PV} {cv:Value},VR w.heap F G p cv→frz G.er lo k p=some t→VR w.heap F' G' t cv
 | 0,p,t,cv,_,h=>by simp [frz]at h
 | k+1,p,t,cv,hv,h=>by
  have rowVR:∀ {cs ts:List PV} {vs:Array Value},cs.length=vs.size→(∀ (i:Nat) p v,cs[i]?=some p→vs[i]?=some v→VR w.heap F G p v)→cs.mapM (frz G.er lo k)=some ts →
    ts.length=vs.size∧∀ (i:Nat) p v,ts[i]?=some p→vs[i]?=some v→VR w.heap F' G' p v:=by
   intro cs ts vs hl hp hm
   obtain ⟨h1,h2⟩:=zbs _ _ hm
   refine ⟨by omega,fun i p v q1 q2=>?_⟩
   obtain ⟨x,h3,h4⟩:=h2 i p q1
   exact zl0 hi hF hn (hp i x v h3 q2) h4
  have data:∀ {p:PV},VR w.heap F G p cv→rfz G.er lo 10 p=some t→VR w.heap F' G' t cv:=fun hv h => .imm _ _ ((zmg hi hv h).mono hF fun _ _=>rfl)
  cases p with
  | agg cs =>
   simp only[frz]at h
   rw [qI]at h
   obtain ⟨ts,h1,rfl⟩:=h
   obtain ⟨vs,rfl,h2,h3⟩:=hv.agg'
   obtain ⟨h4,h5⟩:=rowVR h2 h3 h1
   exact .agg _ _ h4 h5
  | tup cs =>
   simp only[frz]at h
   rw [qI]at h
   obtain ⟨ts,h1,rfl⟩:=h
   obtain ⟨vs,rfl,h2,h3⟩:=hv.tup'
   obtain ⟨h4,h5⟩:=rowVR h2 h3 h1
   exact .tup _ _ h4 h5
  | fn f cs =>
   simp only[frz]at h
   rw [qI]at h
   obtain ⟨ts,h1,rfl⟩:=h
   have:∃ vs:Array Value,cv = .func (.func f) #[] vs∧cs.length=vs.size∧∀ (i:Nat) p v,cs[i]?=some p→vs[i]?=some v→VR w.heap F G p v:=by
    cases hv with
    | imm _ _ hv=>cases hv with | fn _ _ vs h2 h3=>exact ⟨vs,rfl,h2,fun i p v a b => .imm _ _ (h3 i p v a b)⟩
    | fn _ _ vs h2 h3=>exact ⟨vs,rfl,h2,h3⟩
   obtain ⟨vs,rfl,h2,h3⟩:=this
   obtain ⟨h4,h5⟩:=rowVR h2 h3 h1
   exact .fn _ _ _ h4 h5
  | loc o ver off n =>
   simp only[frz]at h
   split at h
   ·cases h; exact hv.next hi hn
   exact data hv h
  | ref o ver off =>
   simp only[frz]at h
   split at h
   ·cases h; exact hv.next hi hn
   exact data hv h
  | mp o ver =>
   simp only[frz]at h
   split at h
   ·cases h; exact hv.next hi hn
   cases h
  | undef=>simp only[frz]at h; cases h; exact .imm _ _ (.undef _)
  | _=>simp only[frz]at h; exact data hv h
theorem z89 {S:Store} {lo:Nat}:∀ {k:Nat} {p t:PV},frz S lo k p=some t→p.isCell=true→t.isCell=true
 | 0,p,t,h,_=>by simp [frz]at h
 | k+1,p,t,h,hp=>by
  cases p with
  | agg cs=>simp [PV.isCell]at hp
  | tup cs=>simp [PV.isCell]at hp
  | undef=>simp [PV.isCell]at hp
  | fn f cs=>simp only[frz]at h; rw [qI]at h; obtain ⟨_,_,rfl⟩:=h; rfl
  | loc o ver off n=>simp only[frz]at h; split at h; (· cases h; rfl); exact zpt h hp
  | ref o ver off=>simp only[frz]at h; split at h; (· cases h; rfl); exact zpt h hp
  | mp o ver=>simp only[frz]at h; split at h; (· cases h; rfl); cases h
  | _=>simp only[frz]at h; exact zpt h hp
def zc0 (S:Store) (lo:Nat):Ob→Option Ob
 | .arr ver et sz cells=>(cells.mapM (frz S lo 10)).map (.arr ver et sz ·)
 | .map ver es=>(es.mapM fun q=>(frz S lo 10 q.1).bind fun a=>(frz S lo 10 q.2).map fun b=>(a,b)).map (.map ver ·)
 | .lp ver l r tmps=>(tmps.mapM (frz S lo 10)).map (.lp ver l r ·)
def zch (S:Store) (lo:Nat):List Ob→Option (List Ob)
 | []=>some []
 | o::r=>(zc0 S lo o).bind fun a=>(zch S lo r).map (a :: ·)
def Store.frz (S:Store) (lo:Nat):Option Store:=(zch S lo (S.obs.take lo)).map (⟨·,S.tick⟩)
theorem ztk {S:Store} {lo:Nat}:∀ {l l':List Ob},zch S lo l=some l'→l.length=l'.length∧∀ (i:Nat) ob',l'[i]?=some ob'→∃ ob,l[i]?=some ob∧zc0 S lo ob=some ob'
 | [],l',h=>by simp [zch]at h; subst h; simp
 | o::l,l',h=>by
  simp only[zch]at h
  rw [Option.bind_eq_some_iff]at h
  obtain ⟨a,h1,h⟩:=h
  rw [qI]at h
  obtain ⟨r,h2,rfl⟩:=h
  obtain ⟨h3,h4⟩:=ztk h2
  refine ⟨by simp [h3],?_⟩
  rintro (_ | i) ob' hi
  ·simp at hi; subst hi; exact ⟨o,rfl,h1⟩
  simp at hi; obtain ⟨ob,h5,h6⟩:=h4 i ob' hi; exact ⟨ob,by simpa using h5,h6⟩
theorem zmz {S:Store} {lo:Nat} {ob ob':Ob} (h:zc0 S lo ob=some ob'):ob.ver=ob'.ver∧ob.like ob':=by
 cases ob with
 | arr v et sz cells=>simp only[zc0]at h; rw [qI]at h; obtain ⟨_,_,rfl⟩:=h; simp [Ob.ver,Ob.like]
 | map v es=>simp only[zc0]at h; rw [qI]at h; obtain ⟨_,_,rfl⟩:=h; simp [Ob.ver,Ob.like]
 | lp _ _ _ _=>simp only[zc0]at h; rw [qI]at h; obtain ⟨_,_,rfl⟩:=h; simp [Ob.ver,Ob.like]
theorem zl3 {f:PV × PV→Option (PV × PV)}:∀ (xs ys:List (PV × PV)),xs.mapM f=some ys→xs.length=ys.length∧∀ (i:Nat) y,ys[i]?=some y→∃ x,xs[i]?=some x∧f x=some y
 | [],ys,h=>by simp at h; subst h; simp
 | x::xs,ys,h=>by
  rw [qC]at h
  cases hx:f x with
  | none=>simp [hx]at h
  | some y =>
   cases hr:xs.mapM f with
   | none=>simp [hx,hr]at h
   | some ys' =>
    simp [hx,hr]at h
    subst h
    obtain ⟨h1,h2⟩:=zl3 xs ys' hr
    refine ⟨by simp [h1],?_⟩
    rintro (_ | i) z hz
    ·simp at hz; subst hz; exact ⟨x,rfl,hx⟩
    simp at hz; obtain ⟨u,h3,h4⟩:=h2 i z hz; exact ⟨u,by simpa using h3,h4⟩
theorem z1n (hi:Inv F G w) {lo:Nat} {S':Store} (h:G.er.frz lo=some S'):∃ G',G'.er=S'∧Inv (zoh F G lo) G' w∧Next F G w (zoh F G lo) G' w:=by
 unfold Store.frz at h
 rw [qI]at h
 obtain ⟨obs',h1,rfl⟩:=h
 obtain ⟨h2,h3⟩:=ztk h1
 let G':GSt:=⟨List.zipWith (fun ob (x:Ob × Lc)=>(ob,x.2)) obs' (G.obs.take lo),G.tick⟩
 have hlen:obs'.length=(G.obs.take lo).length:=by rw [← h2]; simp [GSt.er]
 have her:G'.er=⟨obs',G.er.tick⟩:=by
  simp only[GSt.er,G',Store.mk.injEq,and_true]
  apply List.ext_getElem
  ·simp [hlen]
  intro i a b; simp
 have hget:∀ (o:Nat) ob' l,G'.obs[o]?=some (ob',l)→o<lo∧∃ ob,G.obs[o]?=some (ob,l)∧zc0 G.er lo ob=some ob':=by
  intro o ob' l ho
  simp only[G',List.getElem?_zipWith]at ho
  cases ha:obs'[o]? with
  | none=>rw [ha]at ho; simp at ho
  | some a =>
   cases hb:(G.obs.take lo)[o]? with
   | none=>rw [ha,hb]at ho; simp at ho
   | some x =>
    rw [ha,hb]at ho
    simp at ho
    obtain ⟨rfl,rfl⟩:=ho
    obtain ⟨ob,k1,k2⟩:=h3 o a ha
    rw [List.getElem?_take]at hb
    split at hb
    ·rename_i hlt
     refine ⟨hlt,ob,?_,k2⟩
     have:(G.er.obs.take lo)[o]?=some x.1:=by
      rw [List.getElem?_take,if_pos hlt]; simp [GSt.er,hb]
     rw [this]at k1
     cases k1
     exact hb
    cases hb
 have hn:Next F G w (zoh F G lo) G' w:=by
  refine ⟨rfl,rfl,rfl,qR _,fun b hb => .inl hb,?_,?_,qR _,fun _ _ _=>rfl,?_,qR _⟩
  ·rintro b (hb | ⟨o,x,_,hx,rfl⟩)
   ·exact .inl hb
   exact .inr (.inr ⟨o,x,hx,rfl⟩)
  ·rintro o ⟨ob',l⟩ hx
   obtain ⟨_,ob,k1,_⟩:=hget o ob' l hx
   exact .inr ⟨o,_,k1,rfl⟩
  intro o ob' l hx _
  obtain ⟨_,ob,k1,k2⟩:=hget o ob' l hx
  exact ⟨ob,k1,(zmz k2).1,(zmz k2).2⟩
 have hsound:∀ {k:Nat} {p t:PV} {cv:Value},VR w.heap F G p cv→frz G.er lo k p=some t→VR w.heap (zoh F G lo) G' t cv:=fun hv h=>zl0 hi (fun _ h=>h) hn hv h
 refine ⟨G',her,⟨?_,?_,?_,?_,?_,?_,?_⟩,hn⟩
 ·rintro b (hb | ⟨o,x,_,hx,rfl⟩)
  ·exact hi.fr b hb
  exact hi.blk_lt hx
 ·intro o ob' l hx
  obtain ⟨_,ob,k1,k2⟩:=hget o ob' l hx
  have:=hi.ver o ob l k1
  rw [(zmz k2).1]at this
  exact this
 ·intro o ob' l hx hb
  obtain ⟨hlt,ob,k1,k2⟩:=hget o ob' l hx
  rcases hb with hb | ⟨o',x,hlo,hx',e⟩
  ·exact hi.nF o ob l k1 hb
  have:=hi.inj o' o _ _ hx' k1 e
  omega
 ·intro o ver et sz cells l hx
  obtain ⟨_,ob,k1,k2⟩:=hget o _ l hx
  cases ob with
  | map v es=>simp only[zc0]at k2; rw [qI]at k2; obtain ⟨_,_,k3⟩:=k2; cases k3
  | lp _ _ _ _=>simp only[zc0]at k2; rw [qI]at k2; obtain ⟨_,_,k3⟩:=k2; cases k3
  | arr v et2 sz2 cells2 =>
   simp only[zc0]at k2
   rw [qI]at k2
   obtain ⟨cs',k3,k4⟩:=k2
   cases k4
   obtain ⟨m1,m2⟩:=zbs _ _ k3
   obtain ⟨cs,q1,q2,q3,q4⟩:=hi.arr o _ _ _ _ l k1
   refine ⟨cs,q1,q2,by omega,fun i p hp=>?_⟩
   obtain ⟨x,x1,x2⟩:=m2 i p hp
   obtain ⟨c1,v1,v2,v3⟩:=q4 i x x1
   exact ⟨z89 x2 c1,v1,v2,hsound v3 x2⟩
 ·intro o ver es l hx
  obtain ⟨_,ob,k1,k2⟩:=hget o _ l hx
  cases ob with
  | arr v et2 sz2 cells2=>simp only[zc0]at k2; rw [qI]at k2; obtain ⟨_,_,k3⟩:=k2; cases k3
  | lp _ _ _ _=>simp only[zc0]at k2; rw [qI]at k2; obtain ⟨_,_,k3⟩:=k2; cases k3
  | map v es2 =>
   simp only[zc0]at k2
   rw [qI]at k2
   obtain ⟨es',k3,k4⟩:=k2
   cases k4
   obtain ⟨m1,m2⟩:=zl3 _ _ k3
   obtain ⟨ents,clock,q1,q2,q3⟩:=hi.map o _ _ l k1
   refine ⟨ents,clock,q1,by omega,fun i k v hp=>?_⟩
   obtain ⟨x,x1,x2⟩:=m2 i (k,v) hp
   obtain ⟨en,e1,e2,e3⟩:=q3 i x.1 x.2 x1
   rw [Option.bind_eq_some_iff]at x2
   obtain ⟨a,y1,y2⟩:=x2
   rw [qI]at y2
   obtain ⟨b,y3,y4⟩:=y2
   cases y4
   exact ⟨en,e1,hsound e2 y1,hsound e3 y3⟩
 ·rintro o o' ⟨ob,l⟩ ⟨ob',l'⟩ hx hx' e
  obtain ⟨_,a,k1,_⟩:=hget o _ _ hx
  obtain ⟨_,a',k1',_⟩:=hget o' _ _ hx'
  exact hi.inj o o' _ _ k1 k1' e
 intro o ver b r tmps l hx
 obtain ⟨_,ob,k1,k2⟩:=hget o _ l hx
 cases ob with
 | arr v et2 sz2 cells2=>simp only[zc0]at k2; rw [qI]at k2; obtain ⟨_,_,k3⟩:=k2; cases k3
 | map v es=>simp only[zc0]at k2; rw [qI]at k2; obtain ⟨_,_,k3⟩:=k2; cases k3
 | lp v b2 r2 tmps2 =>
  simp only[zc0]at k2
  rw [qI]at k2
  obtain ⟨cs',k3,k4⟩:=k2
  cases k4
  obtain ⟨m1,m2⟩:=zbs _ _ k3
  obtain ⟨q0,t,q1,q2,q3⟩:=hi.lp o _ _ _ _ l k1
  refine ⟨q0,t,q1,⟨q2.1,by omega⟩,fun i p v hp hv=>?_⟩
  obtain ⟨x,x1,x2⟩:=m2 i p hp
  exact hsound (q3 i x v x1 hv) x2
variable {Q:Exit→Env→Store→Prop} {S:Store} {a b c:Code}
def z4p (L:List Nat) (I:List PV→Store→Prop) (e:Env) (S:Store):Prop :=
 ∃ lo vs S',(L.map e).mapM (frz S lo 10)=some vs∧S.frz lo=some S'∧I vs S'
theorem zve {H:Array Obj} {F:Nat→Prop} {G:GSt} {a:Act}:∀ (L:List Nat) (vs:List PV),L.length=vs.length→(∀ (i t:Nat) v,L[i]?=some t→vs[i]?=some v→VR H F G v (a.tmps.getD t undef))→zei H F G (Env.of L vs) a
 | [],_,_,_,t => .imm _ _ (.undef _)
 | x::L,[],h,_,t=>by simp at h
 | x::L,v::vs,hl,h,t=>by
  simp only[Env.of]
  split
  ·rename_i e; rw [e]; exact h 0 x v rfl rfl
  exact zve L vs (by simpa using hl) (fun i t v q1 q2=>h (i+1) t v (by simpa using q1) (by simpa using q2)) t
theorem ztj (hi:Inv F G w) {e:Env} {act:Act} (he:zei w.heap F G e act) {L:List Nat} {I:List PV→Store→Prop} (h:z4p L I e G.er) :
  ∃ vs F' G',I vs G'.er∧vs.length=L.length∧Inv F' G' w∧Next F G w F' G' w∧zei w.heap F' G' (Env.of L vs) act:=by
 obtain ⟨lo,vs,S',h1,h2,h3⟩:=h
 obtain ⟨G',rfl,k2,k3⟩:=z1n hi h2
 obtain ⟨m1,m2⟩:=zbs _ _ h1
 refine ⟨vs,_,G',h3,by rw [← m1]; simp,k2,k3,zve L vs (by rw [← m1]; simp) fun i t v q1 q2=>?_⟩
 obtain ⟨x,x1,x2⟩:=m2 i v q2
 rw [List.getElem?_map,q1]at x1
 cases x1
 exact zl0 hi (fun _ h=>h) k3 (he t) x2
theorem W.foldZ (L:List Nat) {I:List PV→Store→Prop} (hI:z4p L I e S) (h:∀ vs S,vs.length=L.length→I vs S→W P T c Q (Env.of L vs) S):W P T c Q e S:=by
 refine ⟨?_⟩
 intro hT hm F0 G0 w0 N F G a w h3 h4 h5 h6 h7 h8 h9 R nn
 subst h3
 obtain ⟨vs,F',G',k1,k2,k3,k4,k5⟩:=ztj h4 h5 hI
 exact (h vs _ k2 k1).run hT hm F0 G0 w0 N F' G' a w rfl k3 k5 (h6.trans k4) h7 h8 h9
theorem W.joinZ (L:List Nat) (I:List PV→Store→Prop) (h:W P T a (XThen (z4p L I) Q) e S) (k:∀ vs S,vs.length=L.length→I vs S→W P T b Q (Env.of L vs) S):W P T (.seq a b) Q e S:=by
 refine W.seq (h.mono ?_)
 intro x e S hx
 cases x with
 | normal=>exact W.foldZ L hx k
 | _=>exact hx
theorem W.loopZ (L:List Nat) (I:Nat→List PV→Store→Prop) (n:Nat) (h0:z4p L (I n) e S)
  (h:∀ n vs S,vs.length=L.length→I n vs S→W P T c (XThen (fun e S=>∃ m,m<n∧z4p L (I m) e S) Q) (Env.of L vs) S):W P T (.loop c) Q e S:=by
 refine W.foldZ L h0 fun vs S hl hI=>?_
 refine ⟨?_⟩
 intro hT hm F0 G0 w0 N F G a w h3 h4 h5 h6 h7 h8 h9 R nn
 refine wpIn_loop_rounds (n+1) ?_
 clear h0
 induction n using Nat.strongRecOn generalizing vs S F G a w with
 | _ n ih =>
  refine wpIn_mono ((h n vs S hl hI).run hT hm F0 G0 w0 N F G a w h3 h4 h5 h6 h7 h8 (by simpa [zg2] using h9)) ?_
  rintro x a' w' ⟨e',F',G',k1,k2,k3,k4,k5,k6⟩
  cases x with
  | normal =>
   obtain ⟨m,hmn,hk⟩:=k1
   obtain ⟨vs',F2,G2,q1,q2,q3,q4,q5⟩:=ztj k2 k3 hk
   exact zln (by omega) _ _ (ih m hmn vs' _ q2 q1 F2 G2 a' w' rfl q3 q5 (k4.trans q4) k5 k6)
  | _=>exact ⟨e',F',G',k1,k2,k3,k4,k5,k6⟩
theorem zb1 {S:Store} {lo k:Nat} {q:IntKind} {n:Int}:frz S lo (k+1) (.int q n)=some (.int q n):=rfl
theorem zbg {S:Store} {lo k:Nat} {b:Bool}:frz S lo (k+1) (.bool b)=some (.bool b):=rfl
theorem zb2 {S:Store} {lo k:Nat} {b:List UInt8}:frz S lo (k+1) (.str b)=some (.str b):=rfl
theorem zc8 {S:Store} {lo k n:Nat} {cs:List PV}:frz S lo (k+1) (.sl cs n)=some (.sl cs n):=rfl
theorem zbz {S:Store} {lo k o ver off n:Nat}:frz S lo (k+1) (.loc o ver off n)=if o<lo then some (.loc o ver off n) else rfz S lo 10 (.loc o ver off n):=rfl
theorem zb4 {S:Store} {lo k:Nat} {q:IntKind} {n:Int}:rfz S lo (k+1) (.int q n)=some (.int q n):=rfl
theorem zbj {S:Store} {lo k:Nat} {b:Bool}:rfz S lo (k+1) (.bool b)=some (.bool b):=rfl
theorem zb5 {S:Store} {lo k:Nat} {b:List UInt8}:rfz S lo (k+1) (.str b)=some (.str b):=rfl
theorem zb0 {S:Store} {lo k o ver off n:Nat}:rfz S lo (k+1) (.loc o ver off n)=(match S.obs[o]? with
  | some (.arr v _ sz cells)=>if lo≤o∧v=ver∧off+n*sz≤cells.length then (((cells.drop off).take (n*sz)).mapM (rfz S lo k)).map (.sl · n) else none
  | _=>none):=rfl
theorem zu2 {α:Type} {f:α→PV} {S:Store} {lo k:Nat} (h:∀ a,frz S lo k (f a)=some (f a)) (l:List α):(l.map f).mapM (frz S lo k)=some (l.map f) :=
 zb6 fun x hx=>by obtain ⟨a,_,rfl⟩:=List.mem_map.1 hx; exact h a
theorem zrl {α:Type} {f:α→PV} {S:Store} {lo k:Nat} (h:∀ a,rfz S lo k (f a)=some (f a)) (l:List α):(l.map f).mapM (rfz S lo k)=some (l.map f) :=
 zb6 fun x hx=>by obtain ⟨a,_,rfl⟩:=List.mem_map.1 hx; exact h a
theorem za3 {S:Store} {lo k:Nat} (l:List (List Int)):(l.map eInts).mapM (frz S lo (k+1))=some (l.map eInts):=zu2 (fun _=>rfl) l
theorem zbi {S:Store} {lo k:Nat} (l:List (List UInt8)):(l.map PV.str).mapM (frz S lo (k+1))=some (l.map PV.str):=zu2 (fun _=>rfl) l
theorem zbh {S:Store} {lo k:Nat} (l:List Int):(l.map (PV.int .i64)).mapM (frz S lo (k+1))=some (l.map (PV.int .i64)):=zu2 (fun _=>rfl) l
theorem za2 {S:Store} {lo k:Nat} (l:List UInt8):(l.map eB).mapM (frz S lo (k+1))=some (l.map eB):=zu2 (fun _=>rfl) l
theorem zbk {S:Store} {lo k:Nat} (l:List Int):(l.map (PV.int .i64)).mapM (rfz S lo (k+1))=some (l.map (PV.int .i64)):=zrl (fun _=>rfl) l
theorem za4 {S:Store} {lo k:Nat} (l:List UInt8):(l.map eB).mapM (rfz S lo (k+1))=some (l.map eB):=zrl (fun _=>rfl) l
theorem za0 {f:PV→Option PV} {a b:PV} {l l':List PV} (h1:f a=some b) (h2:l.mapM f=some l'):(a::l).mapM f=some (b::l'):=by
 rw [qC,h1]; simp [h2]
end
section
variable {P:Program} {T:Tab} {Q:Exit→Env→Store→Prop} {e:Env} {S:Store} {b:Code}
def ze1 (o:Op):Bool:=zto o && (match o with | .call ⟨.value _,_,_⟩=>false | _=>true)
def zcg:List Oper→Nat→List Nat
 | [],_=>[]
 | o::r,i=>if ze1 o.op then zcg r (i+1) else i::zcg r (i+1)
theorem zji:∀ (l:List Oper) (k i:Nat) (o:Oper),l[i]?=some o→k+i ∉ zcg l k→ze1 o.op=true
 | [],_,_,_,h,_=>by simp at h
 | o'::l,k,0,o,h,hn=>by
  simp at h; subst h
  unfold zcg at hn
  split at hn
  ·assumption
  simp at hn
 | o'::l,k,i+1,o,h,hn=>by
  simp only[List.getElem?_cons_succ]at h
  refine zji l (k+1) i o h fun hm=>hn ?_
  unfold zcg
  split
  ·rwa [show k+(i+1)=k+1+i by omega]
  rw [show k+(i+1)=k+1+i by omega]; exact List.mem_cons_of_mem _ hm
theorem zo5 {o:Op} {K:PV→Store→Prop} (hf:ze1 o=true) (h:sOp false P T e S o K):z9q P T S e o fun v=>K v S:=by
 refine z5j (by unfold ze1 at hf; simp only[qB]at hf; exact hf.1) ?_
 cases o with
 | call c =>
  obtain ⟨cal,xs,ts⟩:=c
  cases cal with
  | value f=>simp [ze1]at hf
  | _=>exact h
 | _=>exact h
end
end
theorem b_mc {α β:Type} {f:α→β} {a:α} {l:List α}:(a::l).map f=f a::l.map f:=rfl
theorem b_mn {α β:Type} {f:α→β}:([]:List α).map f=[]:=rfl
theorem yd1 {α:Type} [BEq α] [ReflBEq α] {a:α}:(a == a)=true:=beq_self_eq_true a
theorem yd2:(false=true)=False:=by simp
theorem b_tn {n:Nat}:((n:Int)).toNat=n:=Int.toNat_natCast n
theorem b_gm {α β:Type} {f:α→β} {l:List α} {i:Nat}:(l.map f)[i]?=(l[i]?).map f:=List.getElem?_map
theorem b_os {α β:Type} {f:α→β} {a:α}:(some a).map f=some (f a):=rfl
theorem b_ob {α β:Type} {f:α→Option β} {a:α}:(some a).bind f=f a:=rfl
theorem b_g0 {α:Type} {a:α} {l:List α}:(a::l)[0]?=some a:=rfl
theorem b_gs {α:Type} {a:α} {l:List α} {i:Nat}:(a::l)[i+1]?=l[i]?:=by simp
theorem RH:(type_of% @b_mc)∧(type_of% @b_mn)∧(type_of% @yd1)∧(type_of% yd2)∧(type_of% @b_tn)∧(type_of% @Nat.mul_one)∧(type_of% @b_gm)∧(type_of% @b_os)∧(type_of% @b_ob)∧(type_of% @b_g0)∧(type_of% @b_gs) :=
 ⟨@b_mc,@b_mn,@yd1,yd2,@b_tn,@Nat.mul_one,@b_gm,@b_os,@b_ob,@b_g0,@b_gs⟩
theorem b_ca {α:Type} {a:α} {l m:List α}:(a::l)++m=a::(l++m):=rfl
theorem b_na {α:Type} {m:List α}:([]:List α)++m=m:=rfl
theorem b_lc {α:Type} {a:α} {l:List α}:(a::l).length=l.length+1:=rfl
theorem b_ln {α:Type}:([]:List α).length=0:=rfl
theorem b_s0 {α:Type} {a b:α} {l:List α}:(a::l).set 0 b=b::l:=rfl
theorem b_ss {α:Type} {a b:α} {l:List α} {n:Nat}:(a::l).set (n+1) b=a::l.set n b:=rfl
theorem b_d0 {α:Type} {l:List α}:l.drop 0=l:=rfl
theorem b_t0 {α:Type} {l:List α}:l.take 0=[]:=List.take_zero
theorem b_ts {α:Type} {a:α} {l:List α} {n:Nat}:(a::l).take (n+1)=a::l.take n:=rfl
theorem b_ds {α:Type} {a:α} {l:List α} {n:Nat}:(a::l).drop (n+1)=l.drop n:=rfl
theorem b_dn {α:Type} {n:Nat}:([]:List α).drop n=[]:=List.drop_nil
theorem yd3 {α:Type} {n:Nat}:([]:List α).take n=[]:=List.take_nil
theorem b_lm {α β:Type} {f:α→β} {l:List α}:(l.map f).length=l.length:=List.length_map f
theorem b_nt:(¬ False)=True:=not_false_eq_true
theorem ye9 {α:Type} {a b:α}:(a≠b)=¬ (a=b):=rfl
theorem RG:(type_of% @b_ca)∧(type_of% @b_na)∧(type_of% @b_lc)∧(type_of% @b_ln)∧(type_of% @b_s0)∧(type_of% @b_ss)∧(type_of% @b_d0)∧(type_of% @b_t0)∧(type_of% @b_ts)∧(type_of% @b_ds)∧(type_of% @b_dn)∧(type_of% @yd3)∧(type_of% Nat.zero_add)∧(type_of% Nat.add_zero)∧(type_of% true_and)∧(type_of% and_true)∧(type_of% @b_lm)∧(type_of% @ye9)∧(type_of% b_nt)∧(type_of% @ybx)∧(type_of% @z4f)∧(type_of% @z59)∧(type_of% zxh)∧(type_of% @zlb) :=
 ⟨@b_ca,@b_na,@b_lc,@b_ln,@b_s0,@b_ss,@b_d0,@b_t0,@b_ts,@b_ds,@b_dn,@yd3,Nat.zero_add,Nat.add_zero,true_and,and_true,@b_lm,@ye9,b_nt,@ybx,@z4f,@z59,zxh,@zlb⟩
theorem yau {α:Type} [BEq α] [LawfulBEq α] {a b:α}:((a == b)=true)=(a=b):=propext beq_iff_eq
theorem yat {α:Type} [BEq α] [LawfulBEq α] {a b:α}:((a == b)=false)=¬ (a=b):=propext beq_eq_false_iff_ne
theorem yaw {α:Type} [BEq α] [LawfulBEq α] {a b:α}:((a != b)=true)=¬ (a=b):=propext bne_iff_ne
theorem yav {α:Type} [BEq α] [LawfulBEq α] {a b:α}:((a != b)=false)=(a=b):=propext bne_eq_false_iff_eq
theorem b_gt {a b:Int}:(a>b)=(b<a):=rfl
theorem b_ge {a b:Int}:(a ≥ b)=(b≤a):=rfl
theorem RL:(type_of% @decide_eq_true_eq)∧(type_of% @decide_eq_false_iff_not)∧(type_of% @yau)∧(type_of% @yat)∧(type_of% @yaw)∧(type_of% @yav)∧(type_of% @ye9)∧(type_of% @Classical.not_not)∧(type_of% @Bool.not_eq_true')∧(type_of% @Bool.not_eq_false')∧(type_of% @b_gt)∧(type_of% @b_ge) :=
 ⟨@decide_eq_true_eq,@decide_eq_false_iff_not,@yau,@yat,@yaw,@yav,@ye9,@Classical.not_not,@Bool.not_eq_true',@Bool.not_eq_false',@b_gt,@b_ge⟩
inductive Bel (k:Nat):PV→Prop where
 | int (q n):Bel k (.int q n)
 | bool (b):Bel k (.bool b)
 | str (s):Bel k (.str s)
 | agg (cs):(∀ c∈cs,Bel k c)→Bel k (.agg cs)
 | tup (cs):(∀ c∈cs,Bel k c)→Bel k (.tup cs)
 | fn (f cs):(∀ c∈cs,Bel k c)→Bel k (.fn f cs)
 | sl (cs n):Bel k (.sl cs n)
 | nils:Bel k .nils
 | bm (f b):Bel k (.bm f b)
 | ip (cs n):Bel k (.ip cs n)
 | nilp:Bel k .nilp
 | nilm:Bel k .nilm
 | nilf:Bel k .nilf
 | yl (l:Nat):Bel k (.yl l)
 | undef:Bel k .undef
 | loc (o v f n):o<k→Bel k (.loc o v f n)
 | ref (o v f):o<k→Bel k (.ref o v f)
 | mp (o v):o<k→Bel k (.mp o v)
def Ob.bel (k:Nat):Ob→Prop
 | .arr _ _ _ cells=>∀ c∈cells,Bel k c
 | .map _ es=>∀ e∈es,Bel k e.1∧Bel k e.2
 | .lp _ _ _ tmps=>∀ c∈tmps,Bel k c
theorem VR.grow {H:Array Obj} {F:Nat→Prop} {G G':GSt} {k:Nat} (ht:G.tick≤G'.tick) (hg:∀ o,o<k→G'.obs[o]?=G.obs[o]?) {p:PV} {v:Value} (hb:Bel k p) (h:VR H F G p v):VR H F G' p v:=by
 induction h with
 | imm p v h=>exact .imm p v h
 | agg cs vs e _ ih=>cases hb with | agg _ hb=>exact .agg cs vs e fun i p v h1 h2=>ih i p v h1 h2 (hb p (List.mem_of_getElem? h1))
 | tup cs vs e _ ih=>cases hb with | tup _ hb=>exact .tup cs vs e fun i p v h1 h2=>ih i p v h1 h2 (hb p (List.mem_of_getElem? h1))
 | fn f cs vs e _ ih=>cases hb with | fn _ _ hb=>exact .fn f cs vs e fun i p v h1 h2=>ih i p v h1 h2 (hb p (List.mem_of_getElem? h1))
 | loc o ver off n a len cap hv k'=>cases hb with | loc _ _ _ _ hb=>exact .loc o ver off n a len cap (Nat.lt_of_lt_of_le hv ht) fun ob l h=>k' ob l (by rw [← hg o hb]; exact h)
 | ref o ver off a hv k'=>cases hb with | ref _ _ _ hb=>exact .ref o ver off a (Nat.lt_of_lt_of_le hv ht) fun ob l h=>k' ob l (by rw [← hg o hb]; exact h)
 | mp o ver r hv k'=>cases hb with | mp _ _ hb=>exact .mp o ver r (Nat.lt_of_lt_of_le hv ht) fun ob l h=>k' ob l (by rw [← hg o hb]; exact h)
theorem Ev.frame {P:Program} {f:FuncId} {args:List PV} {obs:List Ob} {t:Nat} {J:PV→Store→Prop} (h:Ev P f args ⟨obs,t⟩ J)
  (hJ:∀ v S,J v S→S.obs.length=obs.length∧Bel obs.length v∧∀ ob∈S.obs,ob.bel obs.length) (R:List Ob) :
  Ev P f args ⟨obs++R,t⟩ fun v S=>∃ S1,J v S1∧S=⟨S1.obs++R,S1.tick⟩:=by
 refine ⟨h.ent,?_⟩
 intro F G w cargs hS hi hl hv
 have hobs:G.obs.map (·.1)=obs++R:=congrArg Store.obs hS
 have htk:G.tick=t:=congrArg Store.tick hS
 have hlen:G.obs.length=obs.length+R.length:=by rw [← List.length_map (f:=(·.1)),hobs,List.length_append]
 obtain ⟨i1,n1⟩:=zep hi obs.length
 have e1:(G.take obs.length).er=⟨obs,t⟩:=by
  rw [zjz,hS]; simp [Store.take]
 refine Calls.mono (h.run F (G.take obs.length) w cargs e1 i1 hl fun i p c h1 h2=>(hv i p c h1 h2).next hi n1) ?_
 rintro e w' ⟨v,cv,F',G1,rfl,hj,i2,n2,r2⟩
 obtain ⟨j1,j2,j3⟩:=hJ _ _ hj
 have hG1:G1.obs.length=obs.length:=by rw [← j1]; simp [GSt.er]
 let G':GSt:=⟨G1.obs++G.obs.drop obs.length,G1.tick⟩
 have lo:∀ o,o<obs.length→G'.obs[o]?=G1.obs[o]?:=fun o ho=>by simp only[G']; rw [List.getElem?_append_left (by omega)]
 have hi':∀ o,obs.length≤o→G'.obs[o]?=G.obs[o]?:=fun o ho=>by
  simp only[G']; rw [List.getElem?_append_right (by omega),List.getElem?_drop]; congr 1; omega
 have tk:∀ o,o<obs.length→(G.take obs.length).obs[o]?=G.obs[o]?:=fun o ho=>by simp [GSt.take,List.getElem?_take,ho]
 have old:∀ o x,obs.length≤o→G.obs[o]?=some x→∀ (o':Nat) y,(G.take obs.length).obs[o']?=some y→y.2.blk≠x.2.blk:=by
  intro o x ho hx o' y hy e
  have h1:=zcf hy
  have:=hi.inj o' o y x h1 hx e
  have:o'<obs.length:=by
   have:=(List.getElem?_eq_some_iff.1 hy).1
   simp only[GSt.take,List.length_take]at this; omega
  omega
 have nx:Next F G w F' G' w':=by
  refine ⟨n2.os,n2.tape,n2.output,n2.size,n2.fsub,?_,?_,n2.tick,?_,?_,n2.drawn⟩
  ·intro b hb
   rcases n2.fnew b hb with h1 | h1 | ⟨o,x,hx,e⟩
   ·exact .inl h1
   ·exact .inr (.inl h1)
   exact .inr (.inr ⟨o,x,zcf hx,e⟩)
  ·intro o x hx
   by_cases ho:o<obs.length
   ·rw [lo o ho]at hx
    rcases n2.gnew o x hx with h1 | ⟨o',y,hy,e⟩
    ·exact .inl h1
    exact .inr ⟨o',y,zcf hy,e⟩
   rw [hi' o (by omega)]at hx
   exact .inr ⟨o,x,hx,rfl⟩
  ·intro b hb hG
   exact n2.keep b hb fun o x hx=>hG o x (zcf hx)
  intro o ob' l' hx hv
  by_cases ho:o<obs.length
  ·rw [lo o ho]at hx
   obtain ⟨ob,h1,h2,h3⟩:=n2.hand o ob' l' hx hv
   exact ⟨ob,zcf h1,h2,h3⟩
  rw [hi' o (by omega)]at hx
  exact ⟨ob',hx,rfl,Ob.like.refl _⟩
 have bel1:∀ (o:Nat) (ob:Ob) (l:Lc),G1.obs[o]?=some (ob,l)→ob.bel obs.length:=fun o ob l ho=>j3 ob (by
  simp only[GSt.er]; exact List.mem_map.2 ⟨(ob,l),List.mem_of_getElem? ho,rfl⟩)
 refine ⟨v,cv,F',G',rfl,⟨_,hj,?_⟩,zjn i2.fr ?_ ?_ ?_ ?_,nx,VR.grow (G:=G1) (G':=G') (qR _) lo j2 r2⟩
 ·simp only[GSt.er,G',List.map_append,Store.mk.injEq,and_true]
  congr 1
  rw [List.map_drop,hobs]; simp
 ·intro o ob l hx
  by_cases ho:o<obs.length
  ·rw [lo o ho]at hx; exact i2.ver o ob l hx
  rw [hi' o (by omega)]at hx; exact Nat.lt_of_lt_of_le (hi.ver o ob l hx) n2.tick
 ·intro o ob l hx hF
  by_cases ho:o<obs.length
  ·rw [lo o ho]at hx; exact i2.nF o ob l hx hF
  rw [hi' o (by omega)]at hx
  rcases n2.fnew _ hF with h1 | h1 | ⟨o',x,hx',e⟩
  ·exact hi.nF o ob l hx h1
  ·have:=hi.blk_lt hx; simp only at this; omega
  exact old o _ (by omega) hx o' x hx' e
 ·intro o ob l hx
  by_cases ho:o<obs.length
  ·rw [lo o ho]at hx
   have hb:=bel1 o ob l hx
   have:=i2.holds hx
   cases ob with
   | arr ver et sz cells =>
    obtain ⟨cs,h1,h2,h3,h4⟩:=this
    refine ⟨cs,h1,h2,h3,fun i p hp=>?_⟩
    obtain ⟨a1,v,a2,a3⟩:=h4 i p hp
    exact ⟨a1,v,a2,VR.grow (G:=G1) (G':=G') (qR _) lo (hb p (List.mem_of_getElem? hp)) a3⟩
   | map ver es =>
    obtain ⟨ents,clock,h1,h2,h3⟩:=this
    refine ⟨ents,clock,h1,h2,fun i k v hp=>?_⟩
    obtain ⟨en,a1,a2,a3⟩:=h3 i k v hp
    have hb':=hb (k,v) (List.mem_of_getElem? hp)
    exact ⟨en,a1,VR.grow (G:=G1) (G':=G') (qR _) lo hb'.1 a2,VR.grow (G:=G1) (G':=G') (qR _) lo hb'.2 a3⟩
   | lp ver b r tmps =>
    obtain ⟨h0,t,h1,h2,h3⟩:=this
    exact ⟨h0,t,h1,h2,fun i p v hp hv=>VR.grow (G:=G1) (G':=G') (qR _) lo (hb p (List.mem_of_getElem? hp)) (h3 i p v hp hv)⟩
  ·rw [hi' o (by omega)]at hx
   exact (hi.holds hx).next hi nx (n2.keep _ (hi.blk_lt hx) (fun o' y hy=>old o _ (by omega) hx o' y hy))
 intro o o' x x' hx hx' e
 by_cases ho:o<obs.length <;> by_cases ho':o'<obs.length
 ·rw [lo o ho]at hx; rw [lo o' ho']at hx'; exact i2.inj o o' x x' hx hx' e
 ·rw [lo o ho]at hx; rw [hi' o' (by omega)]at hx'
  exfalso
  rcases n2.gnew o x hx with h1 | ⟨o2,y,hy,e2⟩
  ·have:=hi.blk_lt hx'; omega
  exact old o' x' (by omega) hx' o2 y hy (by omega)
 ·rw [hi' o (by omega)]at hx; rw [lo o' ho']at hx'
  exfalso
  rcases n2.gnew o' x' hx' with h1 | ⟨o2,y,hy,e2⟩
  ·have:=hi.blk_lt hx; omega
  exact old o x (by omega) hx o2 y hy (by omega)
 rw [hi' o (by omega)]at hx; rw [hi' o' (by omega)]at hx'; exact hi.inj o o' x x' hx hx' e
section
def sh (S:Store) (im:Bool):Nat→PV→Option PV
 | 0,_=>none
 | k+1,p =>
  match p with
  | .int a b=>some (.int a b)
  | .bool b=>some (.bool b)
  | .str s=>some (.str s)
  | .nilp=>some .nilp
  | .nilf=>some .nilf
  | .yl l=>some (.yl l)
  | .nilm=>some .nilm
  | .nils=>some .nils
  | .agg cs=>(cs.mapM (sh S im k)).map .agg
  | .tup cs=>(cs.mapM (sh S im k)).map .tup
  | .fn f cs=>(cs.mapM (sh S im k)).map (.fn f)
  | .sl cs n=>if im || cs.isEmpty then some (.sl cs n) else none
  | .ip cs off=>if im then some (.ip cs off) else none
  | .bm f b=>if im then some (.bm f b) else none
  | .loc o ver off n =>
   match S.obs[o]? with
   | some (.arr v _ _ _)=>if v=ver then some (.loc o 0 off n) else none
   | _=>none
  | .ref o ver off =>
   match S.obs[o]? with
   | some (.arr v _ _ _)=>if v=ver then some (.ref o 0 off) else none
   | _=>none
  | .mp o ver =>
   match S.obs[o]? with
   | some (.map v _)=>if v=ver then some (.mp o 0) else none
   | _=>none
  | .undef=>none
def z2t (S:Store) (im:Bool):Ob→Option Ob
 | .arr _ et sz cells=>(cells.mapM (sh S im 10)).map (.arr 0 et sz ·)
 | .map _ es=>(es.mapM fun q=>(sh S im 10 q.1).bind fun a=>(sh S im 10 q.2).map fun b=>(a,b)).map (.map 0 ·)
 | .lp _ _ _ _=>none
def zmo (S:Store) (im:Bool):List Ob→Option (List Ob)
 | []=>some []
 | o::r=>(z2t S im o).bind fun a=>(zmo S im r).map (a :: ·)
def up (k t:Nat):Nat→PV→PV
 | f+1,.loc o _ off n => .loc (o+k) t off n
 | f+1,.ref o _ off => .ref (o+k) t off
 | f+1,.mp o _ => .mp (o+k) t
 | f+1,.agg cs => .agg (cs.map (up k t f))
 | f+1,.tup cs => .tup (cs.map (up k t f))
 | f+1,.fn g cs => .fn g (cs.map (up k t f))
 | _,p=>p
def z8o (k t:Nat):Ob→Ob
 | .arr _ et sz cells => .arr t et sz (cells.map (up k t 10))
 | .map _ es => .map t (es.map fun q=>(up k t 10 q.1,up k t 10 q.2))
 | .lp _ l r tmps => .lp t l r tmps
def PN (P:Program) (f:FuncId) (args:List PV) (r:PV) (obs:List Ob) (im:Bool):Prop :=
 Ev P f args ⟨[],0⟩ fun v S=>∃ k,sh (S.take k) im 10 v=some r∧zmo (S.take k) im (S.take k).obs=some obs
section
variable {P:Program} {T:Tab} {F:Nat→Prop} {G:GSt} {w:World} {e:Env} {a:Act}
theorem yda {S:Store} {im:Bool} {k t:Nat}:∀ {f:Nat} {p q:PV},sh S im f p=some q→p.isCell=true→(up k t f q).isCell=true
 | 0,p,q,h,_=>by simp [sh]at h
 | f+1,p,q,h,hp=>by
  cases p <;> simp only[sh]at h <;> first
   | (cases h; rfl)
   | (simp [PV.isCell]at hp; done)
   | (cases h; done)
   | (split at h <;> first | (cases h; rfl) | (cases h; done) | (split at h <;> first | (cases h; done) | (cases h; rfl)))
   | (rw [qI]at h; obtain ⟨_,_,rfl⟩:=h; rfl)
structure Beh (G' G'':GSt) (k t:Nat):Prop where
 tick:t<G''.tick
 get:∀ (o:Nat) ob l,G''.obs[o+k]?=some (ob,l)→∃ ob',G'.obs[o]?=some (ob',l)∧ob'.like ob∧ob.ver=t
theorem zmp {w':World} {F' F'':Nat→Prop} {G' G'':GSt} {im:Bool} {k t:Nat} (hb:Beh G' G'' k t) (hF:im=true→∀ b,F' b→F'' b) :
  ∀ {f:Nat} {p q:PV} {cv:Value},VR w'.heap F' G' p cv→sh G'.er im f p=some q→VR w'.heap F'' G'' (up k t f q) cv
 | 0,p,q,cv,_,h=>by simp [sh]at h
 | f+1,p,q,cv,hv,h=>by
  have rowVR:∀ {cs ts:List PV} {vs:Array Value},cs.length=vs.size→(∀ (i:Nat) p v,cs[i]?=some p→vs[i]?=some v→VR w'.heap F' G' p v)→cs.mapM (sh G'.er im f)=some ts →
    (ts.map (up k t f)).length=vs.size∧∀ (i:Nat) p v,(ts.map (up k t f))[i]?=some p→vs[i]?=some v→VR w'.heap F'' G'' p v:=by
   intro cs ts vs hl hp hm
   obtain ⟨h1,h2⟩:=zbs _ _ hm
   refine ⟨by simp; omega,fun i p v q1 q2=>?_⟩
   rw [List.getElem?_map,qI]at q1
   obtain ⟨y,y1,rfl⟩:=q1
   obtain ⟨x,h3,h4⟩:=h2 i y y1
   exact zmp hb hF (hp i x v h3 q2) h4
  cases p with
  | int a b=>simp only[sh]at h; cases h; rw [hv.int]; exact .imm _ _ (.int _ _)
  | bool b=>simp only[sh]at h; cases h; rw [hv.bool]; exact .imm _ _ (.bool _)
  | str s=>simp only[sh]at h; cases h; obtain ⟨b,rfl,hb⟩:=hv.str; exact .imm _ _ (.str _ _ hb)
  | nilp=>simp only[sh]at h; cases h; cases hv with | imm _ _ hv=>cases hv; exact .imm _ _ .nilp
  | nilf=>simp only[sh]at h; cases h; cases hv with | imm _ _ hv=>cases hv; exact .imm _ _ .nilf
  | yl l=>simp only[sh]at h; cases h; cases hv with | imm _ _ hv=>cases hv; exact .imm _ _ (.yl _)
  | nilm=>simp only[sh]at h; cases h; cases hv with | imm _ _ hv=>cases hv; exact .imm _ _ .nilm
  | nils=>simp only[sh]at h; cases h; cases hv with | imm _ _ hv=>cases hv; exact .imm _ _ .nils
  | agg cs =>
   simp only[sh]at h
   rw [qI]at h
   obtain ⟨ts,h1,rfl⟩:=h
   obtain ⟨vs,rfl,h2,h3⟩:=hv.agg'
   obtain ⟨h4,h5⟩:=rowVR h2 h3 h1
   exact .agg _ _ h4 h5
  | tup cs =>
   simp only[sh]at h
   rw [qI]at h
   obtain ⟨ts,h1,rfl⟩:=h
   obtain ⟨vs,rfl,h2,h3⟩:=hv.tup'
   obtain ⟨h4,h5⟩:=rowVR h2 h3 h1
   exact .tup _ _ h4 h5
  | fn g cs =>
   simp only[sh]at h
   rw [qI]at h
   obtain ⟨ts,h1,rfl⟩:=h
   have:∃ vs:Array Value,cv = .func (.func g) #[] vs∧cs.length=vs.size∧∀ (i:Nat) p v,cs[i]?=some p→vs[i]?=some v→VR w'.heap F' G' p v:=by
    cases hv with
    | imm _ _ hv=>cases hv with | fn _ _ vs h2 h3=>exact ⟨vs,rfl,h2,fun i p v a b => .imm _ _ (h3 i p v a b)⟩
    | fn _ _ vs h2 h3=>exact ⟨vs,rfl,h2,h3⟩
   obtain ⟨vs,rfl,h2,h3⟩:=this
   obtain ⟨h4,h5⟩:=rowVR h2 h3 h1
   exact .fn _ _ _ h4 h5
  | sl cs n =>
   simp only[sh]at h
   split at h
   ·rename_i hc
    cases h
    simp only[Bool.or_eq_true,List.isEmpty_iff]at hc
    cases hv with
    | imm _ _ hv =>
     rcases hc with hc | hc
     ·exact .imm _ _ (hv.mono (hF hc) (fun _ _=>rfl))
     subst hc
     cases hv with
     | sl0=>exact .imm _ _ .sl0
     | sl _ _ b off cap g h1 h2 h3 h4=>exact .imm _ _ (.sl _ _ b off cap g (fun h=>absurd rfl h) h2 (by simp) (by simp))
   cases h
  | ip cs n =>
   simp only[sh]at h
   split at h
   ·rename_i hc
    cases h
    cases hv with
    | imm _ _ hv=>exact .imm _ _ (hv.mono (hF hc) (fun _ _=>rfl))
   cases h
  | bm g b =>
   simp only[sh]at h
   split at h
   ·rename_i hc
    cases h
    cases hv with
    | imm _ _ hv=>exact .imm _ _ (hv.mono (hF hc) (fun _ _=>rfl))
   cases h
  | loc o ver off n =>
   simp only[sh]at h
   split at h
   case h_2=>cases h
   rename_i v et sz cells hob
   split at h
   case isFalse=>cases h
   rename_i hver
   cases h
   cases hv with
   | imm _ _ hv=>cases hv
   | loc _ _ _ _ a len cap hv k' =>
    refine .loc _ _ _ _ a len cap hb.tick fun ob l hg he=>?_
    obtain ⟨ob',h1,h2,h3⟩:=hb.get o ob l hg
    have hob':ob' = .arr v et sz cells:=by
     have:G'.er.obs[o]?=some ob':=by simp [GSt.er,h1]
     rw [hob]at this; cases this; rfl
    subst hob'
    obtain ⟨et2,sz2,cells2,q1,q2⟩:=k' _ l h1 (by simp only[Ob.ver]; exact hver)
    cases q1
    cases ob with
    | arr v3 et3 sz3 cells3 =>
     simp only[Ob.like]at h2
     obtain ⟨rfl,rfl⟩:=h2
     exact ⟨_,_,cells3,by simp only[Ob.ver]at h3; rw [h3],q2⟩
    | map v3 es=>exact h2.elim
    | lp _ _ _ _=>exact h2.elim
  | ref o ver off =>
   simp only[sh]at h
   split at h
   case h_2=>cases h
   rename_i v et sz cells hob
   split at h
   case isFalse=>cases h
   rename_i hver
   cases h
   cases hv with
   | imm _ _ hv=>cases hv
   | ref _ _ _ a hv k' =>
    refine .ref _ _ _ a hb.tick fun ob l hg he=>?_
    obtain ⟨ob',h1,h2,h3⟩:=hb.get o ob l hg
    have hob':ob' = .arr v et sz cells:=by
     have:G'.er.obs[o]?=some ob':=by simp [GSt.er,h1]
     rw [hob]at this; cases this; rfl
    subst hob'
    obtain ⟨et2,sz2,cells2,q1,q2⟩:=k' _ l h1 (by simp only[Ob.ver]; exact hver)
    cases q1
    cases ob with
    | arr v3 et3 sz3 cells3 =>
     simp only[Ob.like]at h2
     obtain ⟨rfl,rfl⟩:=h2
     exact ⟨_,_,cells3,by simp only[Ob.ver]at h3; rw [h3],q2⟩
    | map v3 es=>exact h2.elim
    | lp _ _ _ _=>exact h2.elim
  | mp o ver =>
   simp only[sh]at h
   split at h
   case h_2=>cases h
   rename_i v es hob
   split at h
   case isFalse=>cases h
   rename_i hver
   cases h
   cases hv with
   | imm _ _ hv=>cases hv
   | mp _ _ r hv k' =>
    refine .mp _ _ r hb.tick fun ob l hg he=>?_
    obtain ⟨ob',h1,h2,h3⟩:=hb.get o ob l hg
    have hob':ob' = .map v es:=by
     have:G'.er.obs[o]?=some ob':=by simp [GSt.er,h1]
     rw [hob]at this; cases this; rfl
    subst hob'
    obtain ⟨es2,q1,q2⟩:=k' _ l h1 (by simp only[Ob.ver]; exact hver)
    cases q1
    cases ob with
    | arr v3 et3 sz3 cells3=>exact h2.elim
    | map v3 es3=>exact ⟨es3,by simp only[Ob.ver]at h3; rw [h3],q2⟩
    | lp _ _ _ _=>exact h2.elim
  | undef=>simp only[sh]at h; cases h
theorem zyo {S:Store} {im:Bool}:∀ {l l':List Ob},zmo S im l=some l'→l.length=l'.length∧∀ (i:Nat) ob',l'[i]?=some ob'→∃ ob,l[i]?=some ob∧z2t S im ob=some ob'
 | [],l',h=>by simp [zmo]at h; subst h; simp
 | o::l,l',h=>by
  simp only[zmo]at h
  rw [Option.bind_eq_some_iff]at h
  obtain ⟨a,h1,h⟩:=h
  rw [qI]at h
  obtain ⟨r,h2,rfl⟩:=h
  obtain ⟨h3,h4⟩:=zyo h2
  refine ⟨by simp [h3],?_⟩
  rintro (_ | i) ob' hi
  ·simp at hi; subst hi; exact ⟨o,rfl,h1⟩
  simp at hi; obtain ⟨ob,h5,h6⟩:=h4 i ob' hi; exact ⟨ob,by simpa using h5,h6⟩
theorem zmn {S:Store} {im:Bool} {k t:Nat} {ob ob':Ob} (h:z2t S im ob=some ob'):ob.like (z8o k t ob')∧(z8o k t ob').ver=t:=by
 cases ob with
 | arr v et sz cells=>simp only[z2t]at h; rw [qI]at h; obtain ⟨_,_,rfl⟩:=h; simp [z8o,Ob.ver,Ob.like]
 | map v es=>simp only[z2t]at h; rw [qI]at h; obtain ⟨_,_,rfl⟩:=h; simp [z8o,Ob.ver,Ob.like]
 | lp _ _ _ _=>simp [z2t]at h
theorem zya {o:List Ob} {t t':Nat} {im:Bool}:∀ {k:Nat} {p:PV},reify ⟨o,t⟩ im k p=reify ⟨o,t'⟩ im k p
 | 0,_=>rfl
 | k+1,p=>by
  have ih:reify ⟨o,t⟩ im k=reify ⟨o,t'⟩ im k:=funext fun p=>zya
  cases p <;> simp only[reify,ih,Store.cellsOf]
theorem PN.ev {f:FuncId} {args ts:List PV} {r:PV} {obs:List Ob} {im:Bool} {S:Store} {k:Nat} (h:PN P f ts r obs im) (h1:args.mapM (reify S true k)=some ts)
  (h2:im=false∨args.mapM (reify ⟨[],0⟩ true k)=some ts) :
  Ev P f args S fun v S'=>v=up S.obs.length S.tick 10 r∧S'=⟨S.obs++obs.map (z8o S.obs.length S.tick),S.tick+1⟩:=by
 refine ⟨h.ent,fun F G w cargs hS hi hl hv=>?_⟩
 subst hS
 -- the blocks that the call takes for data
 obtain ⟨F1,hF1,hF1',hF1s,hvi⟩:∃ F1:Nat→Prop,(∀ b,F1 b→b<w.heap.size)∧(im=true→∀ b,F1 b→F b)∧(∀ b,F b→F1 b) ∧
   (∀ (i:Nat) p c,ts[i]?=some p→cargs[i]?=some c→VI w.heap F1 p c):=by
  cases him:im with
  | false =>
   obtain ⟨m1,m2⟩:=zbs _ _ h1
   refine ⟨Foot F G true,fun b hb=>?_,by simp,fun b hb => .inl ⟨rfl,hb⟩,fun i p c q1 q2=>?_⟩
   ·rcases hb with ⟨_,hb⟩ | ⟨o,x,hx,rfl⟩
    ·exact hi.fr b hb
    exact hi.blk_lt hx
   obtain ⟨x,x1,x2⟩:=m2 i p q1
   exact zdn hi (hv i x c x1 q2) x2
  | true =>
   have h2':=h2.resolve_left (by simp [him])
   obtain ⟨m1,m2⟩:=zbs _ _ h2'
   obtain ⟨i1,n1⟩:=zep hi 0
   refine ⟨F,fun b hb=>hi.fr b hb,fun _ _ h=>h,fun _ h=>h,fun i p c q1 q2=>?_⟩
   obtain ⟨x,x1,x2⟩:=m2 i p q1
   have e0:(G.take 0).er=⟨[],G.tick⟩:=by simp [GSt.take,GSt.er]
   have:=zdn (im:=true) (k:=k) i1 ((hv i x c x1 q2).next hi n1) (by rw [e0,zya (t':=0)]; exact x2)
   refine this.mono ?_ (fun _ _=>rfl)
   rintro b (⟨_,hb⟩ | ⟨o,y,hy,_⟩)
   ·exact hb
   simp [GSt.take]at hy
 have hlen:args.length=ts.length:=(zbs _ _ h1).1
 have hi1:Inv F1 ⟨[],0⟩ w:=⟨hF1,by simp,by simp,by simp,by simp,by simp,by simp⟩
 refine (h.run F1 ⟨[],0⟩ w cargs rfl hi1 (by omega) fun i p c q1 q2 => .imm _ _ (hvi i p c q1 q2)).mono ?_
 rintro en w' ⟨v,cv,F',G0,rfl,⟨kk,j1,j2⟩,i2,n2,r2⟩
 obtain ⟨i3,n3⟩:=zep i2 kk
 rw [← zjz]at j1 j2
 have n4:=n2.trans n3
 have r3:=r2.next i2 n3
 generalize G0.take kk=G' at j1 j2 i3 n4 r3
 clear i2 n2 n3 r2
 obtain ⟨l1,l2⟩:=zyo j2
 have hlG:G'.obs.length=obs.length:=by rw [← l1]; simp [GSt.er]
 let N:List (Ob × Lc):=List.zipWith (fun ob (x:Ob × Lc)=>(z8o G.obs.length G.tick ob,x.2)) obs G'.obs
 let G2:GSt:=⟨G.obs++N,G.tick+1⟩
 have hN:∀ (o:Nat) ob l,N[o]?=some (ob,l)→∃ ob0 ob',G'.obs[o]?=some (ob0,l)∧z2t G'.er im ob0=some ob'∧ob=z8o G.obs.length G.tick ob':=by
  intro o ob l ho
  simp only[N,List.getElem?_zipWith]at ho
  cases ha:obs[o]? with
  | none=>rw [ha]at ho; simp at ho
  | some q =>
   cases hb:G'.obs[o]? with
   | none=>rw [ha,hb]at ho; simp at ho
   | some x =>
    rw [ha,hb]at ho
    simp at ho
    obtain ⟨rfl,rfl⟩:=ho
    obtain ⟨ob0,k1,k2⟩:=l2 o q ha
    simp only[GSt.er,List.getElem?_map,hb,qO,Option.some.injEq]at k1
    exact ⟨x.1,q,rfl,k1 ▸ k2,rfl⟩
 have lo:∀ o,o<G.obs.length→G2.obs[o]?=G.obs[o]?:=fun o ho=>by simp only[G2]; rw [List.getElem?_append_left ho]
 have hi':∀ o,G.obs.length≤o→G2.obs[o]?=N[o - G.obs.length]?:=fun o ho=>by simp only[G2]; rw [List.getElem?_append_right ho]
 have beh:Beh G' G2 G.obs.length G.tick:=by
  refine ⟨Nat.lt_succ_self _,fun o ob l ho=>?_⟩
  rw [hi' _ (by omega),Nat.add_sub_cancel]at ho
  obtain ⟨ob0,ob',h3,h4,rfl⟩:=hN o ob l ho
  exact ⟨ob0,h3,(zmn h4).1,(zmn h4).2⟩
 let F2:Nat→Prop:=fun b=>F b∨(w.heap.size≤b∧F' b)
 have hFF:im=true→∀ b,F' b→F2 b:=by
  intro him b hb
  rcases n4.fnew b hb with h3 | h3 | ⟨o,x,hx,_⟩
  ·exact .inl (hF1' him b h3)
  ·exact .inr ⟨h3,hb⟩
  simp at hx
 have newb:∀ (o:Nat) x,G'.obs[o]?=some x→w.heap.size≤x.2.blk:=by
  intro o x hx
  rcases n4.gnew o x hx with h3 | ⟨o',y,hy,_⟩
  ·exact h3
  simp at hy
 have nx:Next F G w F2 G2 w':=by
  refine ⟨n4.os,n4.tape,n4.output,n4.size,fun b hb => .inl hb,?_,?_,Nat.le_succ _,fun b hb _=>n4.keep b hb (by simp),?_,n4.drawn⟩
  ·rintro b (hb | ⟨hb,_⟩)
   ·exact .inl hb
   exact .inr (.inl hb)
  ·rintro o ⟨ob,l⟩ hx
   by_cases ho:o<G.obs.length
   ·rw [lo o ho]at hx; exact .inr ⟨o,_,hx,rfl⟩
   rw [hi' o (by omega)]at hx
   obtain ⟨ob0,ob',h3,_⟩:=hN _ _ _ hx
   have:=newb _ _ h3
   exact .inl this
  intro o ob' l' hx hver
  by_cases ho:o<G.obs.length
  ·rw [lo o ho]at hx; exact ⟨ob',hx,rfl,Ob.like.refl _⟩
  rw [hi' o (by omega)]at hx
  obtain ⟨ob0,ob2,h3,h4,rfl⟩:=hN _ _ _ hx
  rw [(zmn h4).2]at hver
  omega
 refine ⟨_,cv,F2,G2,rfl,⟨rfl,?_⟩,zjn ?_ ?_ ?_ ?_ ?_,nx,by
  have hlo:G.er.obs.length=G.obs.length:=by simp [GSt.er]
  rw [hlo]; exact zmp beh hFF r3 j1⟩
 ·have hlo:G.er.obs.length=G.obs.length:=by simp [GSt.er]
  have htk:G.er.tick=G.tick:=rfl
  rw [hlo,htk]
  simp only[GSt.er,G2,List.map_append,Store.mk.injEq,and_true]
  congr 1
  apply List.ext_getElem
  ·simp [N,hlG]
  intro i a b; simp [N]
 ·rintro b (hb | ⟨_,hb⟩)
  ·exact Nat.lt_of_lt_of_le (hi.fr b hb) n4.size
  exact i3.fr b hb
 ·intro o ob l hx
  by_cases ho:o<G.obs.length
  ·rw [lo o ho]at hx; exact Nat.lt_succ_of_lt (hi.ver o ob l hx)
  rw [hi' o (by omega)]at hx
  obtain ⟨ob0,ob2,h3,h4,rfl⟩:=hN _ _ _ hx
  rw [(zmn h4).2]; exact Nat.lt_succ_self _
 ·rintro o ob l hx (hF | ⟨hs,hF⟩)
  ·by_cases ho:o<G.obs.length
   ·rw [lo o ho]at hx; exact hi.nF o ob l hx hF
   rw [hi' o (by omega)]at hx
   obtain ⟨ob0,ob2,h3,_⟩:=hN _ _ _ hx
   have h5:=newb _ _ h3
   have h6:=hi.fr _ hF
   simp only at h5
   omega
  by_cases ho:o<G.obs.length
  ·rw [lo o ho]at hx
   have:=hi.blk_lt hx
   simp only at this; omega
  rw [hi' o (by omega)]at hx
  obtain ⟨ob0,ob2,h3,_⟩:=hN _ _ _ hx
  exact i3.nF _ _ _ h3 hF
 ·intro o ob l hx
  by_cases ho:o<G.obs.length
  ·rw [lo o ho]at hx
   exact (hi.holds hx).next hi nx (n4.keep _ (hi.blk_lt hx) (by simp))
  rw [hi' o (by omega)]at hx
  obtain ⟨ob0,ob2,h3,h4,rfl⟩:=hN _ _ _ hx
  have hh:=i3.holds h3
  cases ob0 with
  | arr ver et sz cells =>
   simp only[z2t]at h4
   rw [qI]at h4
   obtain ⟨cs2,m1,rfl⟩:=h4
   obtain ⟨cs,q1,q2,q3,q4⟩:=hh
   obtain ⟨m2,m3⟩:=zbs _ _ m1
   refine ⟨cs,q1,q2,by simp; omega,fun i p hp=>?_⟩
   rw [List.getElem?_map,qI]at hp
   obtain ⟨y,y1,rfl⟩:=hp
   obtain ⟨x,x1,x2⟩:=m3 i y y1
   obtain ⟨c1,v1,v2,v3⟩:=q4 i x x1
   exact ⟨yda x2 c1,v1,v2,zmp beh hFF v3 x2⟩
  | map ver es =>
   simp only[z2t]at h4
   rw [qI]at h4
   obtain ⟨es2,m1,rfl⟩:=h4
   obtain ⟨ents,clock,q1,q2,q3⟩:=hh
   obtain ⟨m2,m3⟩:=zl3 _ _ m1
   refine ⟨ents,clock,q1,by simp; omega,fun i k v hp=>?_⟩
   rw [List.getElem?_map,qI]at hp
   obtain ⟨y,y1,y2⟩:=hp
   cases y2
   obtain ⟨x,x1,x2⟩:=m3 i y y1
   obtain ⟨en,e1,e2,e3⟩:=q3 i x.1 x.2 x1
   rw [Option.bind_eq_some_iff]at x2
   obtain ⟨b1,b2,x2⟩:=x2
   rw [qI]at x2
   obtain ⟨b3,b4,x2⟩:=x2
   cases x2
   exact ⟨en,e1,zmp beh hFF e2 b2,zmp beh hFF e3 b4⟩
  | lp _ _ _ _=>simp [z2t]at h4
 rintro o o' ⟨ob,l⟩ ⟨ob',l'⟩ hx hx' e
 simp only at e
 by_cases ho:o<G.obs.length <;> by_cases ho':o'<G.obs.length
 ·rw [lo o ho]at hx; rw [lo o' ho']at hx'; exact hi.inj o o' _ _ hx hx' e
 ·rw [lo o ho]at hx; rw [hi' o' (by omega)]at hx'
  obtain ⟨ob0,ob2,h3,_⟩:=hN _ _ _ hx'
  have h5:=newb _ _ h3; have h6:=hi.blk_lt hx
  simp only at h5 h6; omega
 ·rw [hi' o (by omega)]at hx; rw [lo o' ho']at hx'
  obtain ⟨ob0,ob2,h3,_⟩:=hN _ _ _ hx
  have h5:=newb _ _ h3; have h6:=hi.blk_lt hx'
  simp only at h5 h6; omega
 rw [hi' o (by omega)]at hx; rw [hi' o' (by omega)]at hx'
 obtain ⟨ob0,ob2,h3,_⟩:=hN _ _ _ hx
 obtain ⟨ob0',ob2',h3',_⟩:=hN _ _ _ hx'
 have:=i3.inj _ _ _ _ h3 h3' e
 omega
theorem PN.of {f:FuncId} {fn:Func} {c:Code} (h:Fn P f fn c) (hT:zbd P T) (hm:P.follows .mixedOrders=true) {args:List PV} {r:PV} {obs:List Ob} {im:Bool} (hn:args.length≤fn.ntmps)
  (hw:W P T c (zjd T fn.results.toList fun v S=>∃ k,sh (S.take k) im 10 v=some r∧zmo (S.take k) im (S.take k).obs=some obs) (zag args) ⟨[],0⟩):PN P f args r obs im :=
 Ev.of h hT hm hn (hw.mono fun x e S hx=>by
  have key:∀ (v:PV) (S:Store),(∃ k,sh (S.take k) im 10 v=some r∧zmo (S.take k) im (S.take k).obs=some obs) →
    ∃ k1 k,sh ((S.take k1).take k) im 10 v=some r∧zmo ((S.take k1).take k) im ((S.take k1).take k).obs=some obs:=by
   rintro v S ⟨k,h1,h2⟩
   have e:(S.take k).take k=S.take k:=by simp [Store.take,List.take_take]
   exact ⟨k,k,by rw [e]; exact h1,by rw [e]; exact h2⟩
  cases x <;> simp only[zjd,zja]at hx ⊢ <;> (try exact hx)
  all_goals
   split at hx
   ·exact key _ _ hx
   exact hx)
theorem Ev.pc {f:FuncId} {args:List PV} {q:PV} {fr:Bool} {J:PV→Store→Prop} (h:Ev P f args ⟨[],0⟩ J) (hJ:∀ v S,J v S→reify S (!fr) 10 v=some q):PC P f args q fr:=by
 refine ⟨h.ent,fun F w cargs hF hl hv=>?_⟩
 have hi:Inv F ⟨[],0⟩ w:=⟨hF,by simp,by simp,by simp,by simp,by simp,by simp⟩
 refine (h.run F ⟨[],0⟩ w cargs rfl hi hl fun i p c q1 q2 => .imm _ _ (hv i p c q1 q2)).mono ?_
 rintro en w' ⟨v',cv,F',G',rfl,k2,k3,k4,k5⟩
 refine ⟨cv,rfl,⟨⟨k4.os,k4.tape,k4.output,k4.size,fun b hb=>k4.keep b hb (by simp)⟩,k4.drawn⟩,(zdn k3 k5 (hJ _ _ k2)).mono ?_ (fun _ _=>rfl)⟩
 rintro b (⟨h1,h2⟩ | ⟨o,x,hx,rfl⟩)
 ·rcases k4.fnew b h2 with h3 | h3 | ⟨o,x,hx,_⟩
  ·exact .inr ⟨by simpa using h1,h3⟩
  ·exact .inl ⟨h3,k3.fr b h2⟩
  simp at hx
 rcases k4.gnew o x hx with h3 | ⟨o',y,hy,_⟩
 ·exact .inl ⟨h3,k3.blk_lt hx⟩
 simp at hy
theorem PN.pc {f:FuncId} {args:List PV} {r q:PV} {obs:List Ob} {im fr:Bool} (h:PN P f args r obs im) (h1:args.mapM (reify ⟨[],0⟩ true 10)=some args)
  (hq:reify ⟨obs.map (z8o 0 0),1⟩ (!fr) 10 (up 0 0 10 r)=some q):PC P f args q fr :=
 Ev.pc (PN.ev h h1 (.inr h1)) (by rintro _ _ ⟨rfl,rfl⟩; simpa using hq)
variable {S:Store} {d:Option Tmp} {r:List Oper} {ds:List (Option Tmp)} {K:Env→Store→Prop}
theorem zac.pn {f:FuncId} {xs ts:List PV} {v:PV} {obs:List Ob} {im:Bool} (h:PN P f ts v obs im) (h1:xs.mapM (reify S true 10)=some ts) (h2:im=false∨xs.mapM (reify ⟨[],0⟩ true 10)=some ts)
  (k:za7 false P T ds r (e.put d (up S.obs.length S.tick 10 v)) ⟨S.obs++obs.map (z8o S.obs.length S.tick),S.tick+1⟩ K):zac false P T ds f xs S d r e K :=
 zac.ev (PN.ev h h1 h2) (by rintro _ _ ⟨rfl,rfl⟩; exact k)
end
theorem yb0 {k t f o v off n:Nat}:up k t (f+1) (.loc o v off n) = .loc (o+k) t off n:=rfl
theorem yb1 {k t f o v off:Nat}:up k t (f+1) (.ref o v off) = .ref (o+k) t off:=rfl
theorem yb2 {k t f:Nat} {cs:List PV}:up k t (f+1) (.tup cs) = .tup (cs.map (up k t f)):=rfl
theorem z21 {k t f:Nat} {q:IntKind} {n:Int}:up k t f (.int q n) = .int q n:=by cases f <;> rfl
theorem z0r {k t f:Nat} {b:Bool}:up k t f (.bool b) = .bool b:=by cases f <;> rfl
theorem z8f {k t f:Nat} {b:List UInt8}:up k t f (.str b) = .str b:=by cases f <;> rfl
theorem z8e {k t f:Nat}:up k t f .nils = .nils:=by cases f <;> rfl
theorem z8d {k t f:Nat}:up k t f .nilp = .nilp:=by cases f <;> rfl
theorem ye2 {k t f n:Nat} {cs:List PV}:up k t f (.sl cs n) = .sl cs n:=by cases f <;> rfl
theorem ye1 {k t f n:Nat} {cs:List PV}:up k t f (.ip cs n) = .ip cs n:=by cases f <;> rfl
theorem z8b {k t f:Nat} {q:IntKind} {l:List Int}:(l.map (PV.int q)).map (up k t f)=l.map (PV.int q):=by
 rw [List.map_map]; exact List.map_congr_left fun a _=>z21
theorem z8c {k t f:Nat} {q:IntKind} {l:List Nat}:(l.map fun m:Nat=>PV.int q m).map (up k t f)=l.map fun m:Nat=>PV.int q m:=by
 rw [List.map_map]; exact List.map_congr_left fun a _=>z21
theorem z8g {k t f:Nat} {l:List (List UInt8)}:(l.map PV.str).map (up k t f)=l.map PV.str:=by
 rw [List.map_map]; exact List.map_congr_left fun a _=>z8f
theorem z20 {k t f:Nat} {l:List Bool}:(l.map PV.bool).map (up k t f)=l.map PV.bool:=by
 rw [List.map_map]; exact List.map_congr_left fun a _=>z0r
theorem z2z {k t v et sz:Nat} {cells:List PV}:z8o k t (.arr v et sz cells) = .arr t et sz (cells.map (up k t 10)):=rfl
theorem RN:(type_of% @yb0)∧(type_of% @yb1)∧(type_of% @yb2)∧(type_of% @z21)∧(type_of% @z0r)∧(type_of% @z8f)∧(type_of% @z8e)∧(type_of% @z8d)∧(type_of% @ye2)∧(type_of% @ye1)∧(type_of% @z8b)∧(type_of% @z8c)∧(type_of% @z8g)∧(type_of% @z20)∧(type_of% @z2z) :=
 ⟨@yb0,@yb1,@yb2,@z21,@z0r,@z8f,@z8e,@z8d,@ye2,@ye1,@z8b,@z8c,@z8g,@z20,@z2z⟩
end
section
def rfq (S:Store) (fr:Nat→Bool):Nat→PV→Option PV
 | 0,_=>none
 | k+1,p =>
  match p with
  | .int a b=>some (.int a b)
  | .bool b=>some (.bool b)
  | .str s=>some (.str s)
  | .nilp=>some .nilp
  | .nilf=>some .nilf
  | .yl l=>some (.yl l)
  | .nilm=>some .nilm
  | .nils=>some .nils
  | .agg cs=>(cs.mapM (rfq S fr k)).map .agg
  | .tup cs=>(cs.mapM (rfq S fr k)).map .tup
  | .fn f cs=>(cs.mapM (rfq S fr k)).map (.fn f)
  | .sl cs n=>some (.sl cs n)
  | .ip cs off=>some (.ip cs off)
  | .bm f b=>some (.bm f b)
  | .loc o ver off n =>
   match S.obs[o]? with
   | some (.arr v _ sz cells)=>if fr o=true∧v=ver∧off+n*sz≤cells.length then (((cells.drop off).take (n*sz)).mapM (rfq S fr k)).map (.sl · n) else none
   | _=>none
  | .ref o ver off=>if fr o=true then (S.cellsOf o ver).bind fun cells=>(cells.mapM (rfq S fr k)).map (.ip · off) else none
  | _=>none
section
variable {P:Program} {T:Tab} {F:Nat→Prop} {G:GSt} {w:World} {e:Env} {a:Act}
def zuo (F:Nat→Prop) (G:GSt) (fr:Nat→Bool) (b:Nat):Prop:=F b∨∃ (o:Nat) (x:Ob × Lc),fr o=true∧G.obs[o]?=some x∧x.2.blk=b
theorem zps {S:Store} {fr:Nat→Bool}:∀ {k:Nat} {p t:PV},rfq S fr k p=some t→p.isCell=true→t.isCell=true
 | 0,p,t,h,_=>by simp [rfq]at h
 | k+1,p,t,h,hp=>by
  cases p <;> simp only[rfq]at h <;> first
   | (cases h; rfl)
   | (simp [PV.isCell]at hp; done)
   | (cases h; done)
   | (split at h <;> first | (cases h; rfl) | (cases h; done) | (split at h <;> first | (cases h; done) | (rw [qI]at h; obtain ⟨_,_,rfl⟩:=h; rfl)))
   | (rw [qI]at h; obtain ⟨_,_,rfl⟩:=h; rfl)
   | (split at h <;> first | (cases h; done) | (rw [Option.bind_eq_some_iff]at h; obtain ⟨_,_,h⟩:=h; rw [qI]at h; obtain ⟨_,_,rfl⟩:=h; rfl))
theorem zrk (hi:Inv F G w) {fr:Nat→Bool}:∀ {k:Nat} {p t:PV} {cv:Value},VR w.heap F G p cv→rfq G.er fr k p=some t→VI w.heap (zuo F G fr) t cv
 | 0,p,t,cv,_,h=>by simp [rfq]at h
 | k+1,p,t,cv,hv,h=>by
  have cellsVI:∀ {b off:Nat} {cs ts:List PV},zc4 w.heap F G b off cs→cs.mapM (rfq G.er fr k)=some ts →
    ∃ g:Nat→Value,(∀ (i:Nat) p,ts[i]?=some p→p.isCell=true∧zhj w.heap b (off+i)=some (g i))∧∀ (i:Nat) p,ts[i]?=some p→VI w.heap (zuo F G fr) p (g i):=by
   intro b off cs ts hc hm
   obtain ⟨h1,h2⟩:=zbs _ _ hm
   refine ⟨fun i=>(zhj w.heap b (off+i)).getD undef,fun i p hp=>?_,fun i p hp=>?_⟩
   ·obtain ⟨x,h3,h4⟩:=h2 i p hp
    obtain ⟨h5,v,h6,h7⟩:=hc i x h3
    exact ⟨zps h4 h5,by simp [h6]⟩
   obtain ⟨x,h3,h4⟩:=h2 i p hp
   obtain ⟨h5,v,h6,h7⟩:=hc i x h3
   simp only[h6]
   exact zrk hi h7 h4
  have rowVI:∀ {cs ts:List PV} {vs:Array Value},cs.length=vs.size→(∀ (i:Nat) p v,cs[i]?=some p→vs[i]?=some v→VR w.heap F G p v)→cs.mapM (rfq G.er fr k)=some ts →
    ts.length=vs.size∧∀ (i:Nat) p v,ts[i]?=some p→vs[i]?=some v→VI w.heap (zuo F G fr) p v:=by
   intro cs ts vs hl hp hm
   obtain ⟨h1,h2⟩:=zbs _ _ hm
   refine ⟨by omega,fun i p v q1 q2=>?_⟩
   obtain ⟨x,h3,h4⟩:=h2 i p q1
   exact zrk hi (hp i x v h3 q2) h4
  cases p with
  | int q n=>simp only[rfq]at h; cases h; rw [hv.int]; exact .int _ _
  | bool b=>simp only[rfq]at h; cases h; rw [hv.bool]; exact .bool _
  | str s=>simp only[rfq]at h; cases h; obtain ⟨b,rfl,hb⟩:=hv.str; exact .str _ _ hb
  | nilp=>simp only[rfq]at h; cases h; cases hv with | imm _ _ hv=>cases hv; exact .nilp
  | nilf=>simp only[rfq]at h; cases h; cases hv with | imm _ _ hv=>cases hv; exact .nilf
  | yl l=>simp only[rfq]at h; cases h; cases hv with | imm _ _ hv=>cases hv; exact .yl _
  | nilm=>simp only[rfq]at h; cases h; cases hv with | imm _ _ hv=>cases hv; exact .nilm
  | nils=>simp only[rfq]at h; cases h; cases hv with | imm _ _ hv=>cases hv; exact .nils
  | agg cs =>
   simp only[rfq]at h
   rw [qI]at h
   obtain ⟨ts,h1,rfl⟩:=h
   obtain ⟨vs,rfl,h2,h3⟩:=hv.agg'
   obtain ⟨h4,h5⟩:=rowVI h2 h3 h1
   exact .agg _ _ h4 h5
  | tup cs =>
   simp only[rfq]at h
   rw [qI]at h
   obtain ⟨ts,h1,rfl⟩:=h
   obtain ⟨vs,rfl,h2,h3⟩:=hv.tup'
   obtain ⟨h4,h5⟩:=rowVI h2 h3 h1
   exact .tup _ _ h4 h5
  | fn f cs =>
   simp only[rfq]at h
   rw [qI]at h
   obtain ⟨ts,h1,rfl⟩:=h
   have:∃ vs:Array Value,cv = .func (.func f) #[] vs∧cs.length=vs.size∧∀ (i:Nat) p v,cs[i]?=some p→vs[i]?=some v→VR w.heap F G p v:=by
    cases hv with
    | imm _ _ hv=>cases hv with | fn _ _ vs h2 h3=>exact ⟨vs,rfl,h2,fun i p v a b => .imm _ _ (h3 i p v a b)⟩
    | fn _ _ vs h2 h3=>exact ⟨vs,rfl,h2,h3⟩
   obtain ⟨vs,rfl,h2,h3⟩:=this
   obtain ⟨h4,h5⟩:=rowVI h2 h3 h1
   exact .fn _ _ _ h4 h5
  | sl cs n =>
   simp only[rfq]at h
   cases h
   cases hv with
   | imm _ _ hv=>exact hv.mono (fun b hb => .inl hb) (fun _ _=>rfl)
  | ip cs off =>
   simp only[rfq]at h
   cases h
   cases hv with
   | imm _ _ hv=>exact hv.mono (fun b hb => .inl hb) (fun _ _=>rfl)
  | bm f b =>
   simp only[rfq]at h
   cases h
   cases hv with
   | imm _ _ hv=>exact hv.mono (fun b hb => .inl hb) (fun _ _=>rfl)
  | loc o ver off n =>
   simp only[rfq]at h
   split at h
   ·rename_i v et sz cells hob
    split at h
    ·rename_i hc
     obtain ⟨hlo,rfl,hle⟩:=hc
     rw [qI]at h
     obtain ⟨ts,h1,rfl⟩:=h
     obtain ⟨_,_,l,cap,ho,rfl,_,hn,_⟩:=hv.loc_at hi (cells:=cells) (by simp [Store.cellsOf,hob])
     obtain ⟨l',hG⟩:=zex hob
     rw [hG]at ho
     cases ho
     have hc2:zc4 w.heap F G l.blk off ((cells.drop off).take (n*sz)):=by
      have:=((hi.cellsAt hG).drop off).take (n*sz)
      rwa [Nat.zero_add]at this
     obtain ⟨g,g1,g2⟩:=cellsVI hc2 h1
     exact .sl _ _ _ _ _ g (fun _ => .inr ⟨o,_,hlo,hG,rfl⟩) hn g1 g2
    cases h
   cases h
  | ref o ver off =>
   simp only[rfq]at h
   split at h
   case isFalse=>cases h
   rename_i hlo
   rw [Option.bind_eq_some_iff]at h
   obtain ⟨cells,hc,h⟩:=h
   rw [qI]at h
   obtain ⟨ts,h1,rfl⟩:=h
   obtain ⟨et,sz,l,hG,rfl,_⟩:=hv.ref_at hi hc
   obtain ⟨g,g1,g2⟩:=cellsVI (hi.cellsAt hG) h1
   have:=VI.ip (F:=zuo F G fr) ts off l.blk 0 g (fun _ => .inr ⟨o,_,hlo,hG,rfl⟩) g1 g2
   rwa [Nat.zero_add]at this
  | mp o ver=>simp only[rfq]at h; cases h
  | undef=>simp only[rfq]at h; cases h
def zih (k:Nat) (sel:List Nat) (o:Nat):Bool:=decide (k≤o) && !sel.contains o
def rn (S:Store) (k:Nat) (sel:List Nat):Nat→PV→Option PV
 | 0,_=>none
 | f+1,p =>
  match p with
  | .agg cs=>(cs.mapM (rn S k sel f)).map .agg
  | .tup cs=>(cs.mapM (rn S k sel f)).map .tup
  | .fn g cs=>(cs.mapM (rn S k sel f)).map (.fn g)
  | .loc o ver off n =>
   if o<k then some (.loc o ver off n) else
   if sel.contains o then (match S.obs[o]? with | some (.arr v _ _ _)=>if v=ver then some (.loc (k+sel.idxOf o) S.tick off n) else none | _=>none)
   else rfq S (zih k sel) 10 (.loc o ver off n)
  | .ref o ver off =>
   if o<k then some (.ref o ver off) else
   if sel.contains o then (match S.obs[o]? with | some (.arr v _ _ _)=>if v=ver then some (.ref (k+sel.idxOf o) S.tick off) else none | _=>none)
   else rfq S (zih k sel) 10 (.ref o ver off)
  | .mp o ver =>
   if o<k then some (.mp o ver) else
   if sel.contains o then (match S.obs[o]? with | some (.map v _)=>if v=ver then some (.mp (k+sel.idxOf o) S.tick) else none | _=>none)
   else none
  | .undef=>some .undef
  | p=>rfq S (zih k sel) 10 p
def z37 (S:Store) (k:Nat) (sel:List Nat) (old:Bool):Ob→Option Ob
 | .arr ver et sz cells=>(cells.mapM (rn S k sel 10)).map (.arr (if old then ver else S.tick) et sz ·)
 | .map ver es=>(es.mapM fun q=>(rn S k sel 10 q.1).bind fun a=>(rn S k sel 10 q.2).map fun b=>(a,b)).map (.map (if old then ver else S.tick) ·)
 | .lp ver l r tmps=>(tmps.mapM (rn S k sel 10)).map (.lp (if old then ver else S.tick) l r ·)
def zro (S:Store) (k:Nat) (sel:List Nat) (old:Bool):List Nat→Option (List Ob)
 | []=>some []
 | o::r=>((S.obs[o]?).bind (z37 S k sel old)).bind fun a=>(zro S k sel old r).map (a :: ·)
def Store.rn (S:Store) (k:Nat) (sel:List Nat):Option Store :=
 if sel.all (fun o=>decide (k≤o)) && decide sel.Nodup && decide (k≤S.obs.length) then
  (zro S k sel true (List.range k)).bind fun a=>(zro S k sel false sel).map fun b=>⟨a++b,S.tick+1⟩
 else none
theorem zxj:∀ {l:List Nat},l.Nodup→∀ {i j:Nat} (hi:i<l.length) (hj:j<l.length),l[i]=l[j]→i=j
 | [],_,i,_,hi,_,_=>absurd hi (by simp)
 | a::l,h,0,0,_,_,_=>rfl
 | a::l,h,0,j+1,_,hj,e=>by
  rw [List.nodup_cons]at h
  simp only[List.getElem_cons_zero,List.getElem_cons_succ]at e
  exact absurd (e ▸ List.getElem_mem _) h.1
 | a::l,h,i+1,0,hi,_,e=>by
  rw [List.nodup_cons]at h
  simp only[List.getElem_cons_zero,List.getElem_cons_succ]at e
  exact absurd (e ▸ List.getElem_mem _) h.1
 | a::l,h,i+1,j+1,hi,hj,e=>by
  rw [List.nodup_cons]at h
  simp only[List.getElem_cons_succ]at e
  rw [zxj h.2 (by simpa using hi) (by simpa using hj) e]
theorem zrp {S:Store} {k:Nat} {sel:List Nat} {old:Bool}:∀ {l:List Nat} {l':List Ob},zro S k sel old l=some l'→l.length=l'.length ∧
  ∀ (i:Nat) ob',l'[i]?=some ob'→∃ o ob,l[i]?=some o∧S.obs[o]?=some ob∧z37 S k sel old ob=some ob'
 | [],l',h=>by simp [zro]at h; subst h; simp
 | o::l,l',h=>by
  simp only[zro]at h
  rw [Option.bind_eq_some_iff]at h
  obtain ⟨a,h1,h⟩:=h
  rw [Option.bind_eq_some_iff]at h1
  obtain ⟨ob,h0,h1⟩:=h1
  rw [qI]at h
  obtain ⟨r,h2,rfl⟩:=h
  obtain ⟨h3,h4⟩:=zrp h2
  refine ⟨by simp [h3],?_⟩
  rintro (_ | i) ob' hi
  ·simp at hi; subst hi; exact ⟨o,ob,rfl,h0,h1⟩
  simp at hi; obtain ⟨o2,ob2,h5,h6⟩:=h4 i ob' hi; exact ⟨o2,ob2,by simpa using h5,h6⟩
theorem zrn {S:Store} {k:Nat} {sel:List Nat} {old:Bool} {ob ob':Ob} (h:z37 S k sel old ob=some ob'):ob.like ob'∧ob'.ver=if old then ob.ver else S.tick:=by
 cases ob with
 | arr v et sz cells=>simp only[z37]at h; rw [qI]at h; obtain ⟨_,_,rfl⟩:=h; simp [Ob.ver,Ob.like]
 | map v es=>simp only[z37]at h; rw [qI]at h; obtain ⟨_,_,rfl⟩:=h; simp [Ob.ver,Ob.like]
 | lp _ _ _ _=>simp only[z37]at h; rw [qI]at h; obtain ⟨_,_,rfl⟩:=h; simp [Ob.ver,Ob.like]
theorem yc5 {S:Store} {k:Nat} {sel:List Nat}:∀ {f:Nat} {p t:PV},rn S k sel f p=some t→p.isCell=true→t.isCell=true
 | 0,p,t,h,_=>by simp [rn]at h
 | f+1,p,t,h,hp=>by
  cases p with
  | agg cs=>simp [PV.isCell]at hp
  | tup cs=>simp [PV.isCell]at hp
  | undef=>simp [PV.isCell]at hp
  | fn f cs=>simp only[rn]at h; rw [qI]at h; obtain ⟨_,_,rfl⟩:=h; rfl
  | loc o ver off n =>
   simp only[rn]at h
   split at h
   ·cases h; rfl
   split at h
   ·split at h
    ·split at h
     ·cases h; rfl
     cases h
    cases h
   exact zps h hp
  | ref o ver off =>
   simp only[rn]at h
   split at h
   ·cases h; rfl
   split at h
   ·split at h
    ·split at h
     ·cases h; rfl
     cases h
    cases h
   exact zps h hp
  | mp o ver =>
   simp only[rn]at h
   split at h
   ·cases h; rfl
   split at h
   ·split at h
    ·split at h
     ·cases h; rfl
     cases h
    cases h
   cases h
  | _=>simp only[rn]at h; exact zps h hp
structure Sel (G G':GSt) (k:Nat) (sel:List Nat):Prop where
 tick:G.tick<G'.tick
 get:∀ (o:Nat),sel.contains o=true→∀ ob l,G'.obs[k+sel.idxOf o]?=some (ob,l)→∃ ob',G.obs[o]?=some (ob',l)∧ob'.like ob∧ob.ver=G.tick
theorem zvq (hi:Inv F G w) {k:Nat} {sel:List Nat} {F':Nat→Prop} {G':GSt} (hF:∀ b,zuo F G (zih k sel) b→F' b) (hn:Next F G w F' G' w) (hs:Sel G G' k sel) :
  ∀ {f:Nat} {p t:PV} {cv:Value},VR w.heap F G p cv→rn G.er k sel f p=some t→VR w.heap F' G' t cv
 | 0,p,t,cv,_,h=>by simp [rn]at h
 | f+1,p,t,cv,hv,h=>by
  have rowVR:∀ {cs ts:List PV} {vs:Array Value},cs.length=vs.size→(∀ (i:Nat) p v,cs[i]?=some p→vs[i]?=some v→VR w.heap F G p v)→cs.mapM (rn G.er k sel f)=some ts →
    ts.length=vs.size∧∀ (i:Nat) p v,ts[i]?=some p→vs[i]?=some v→VR w.heap F' G' p v:=by
   intro cs ts vs hl hp hm
   obtain ⟨h1,h2⟩:=zbs _ _ hm
   refine ⟨by omega,fun i p v q1 q2=>?_⟩
   obtain ⟨x,h3,h4⟩:=h2 i p q1
   exact zvq hi hF hn hs (hp i x v h3 q2) h4
  have data:∀ {p:PV},VR w.heap F G p cv→rfq G.er (zih k sel) 10 p=some t→VR w.heap F' G' t cv:=fun hv h => .imm _ _ ((zrk hi hv h).mono hF fun _ _=>rfl)
  cases p with
  | agg cs =>
   simp only[rn]at h
   rw [qI]at h
   obtain ⟨ts,h1,rfl⟩:=h
   obtain ⟨vs,rfl,h2,h3⟩:=hv.agg'
   obtain ⟨h4,h5⟩:=rowVR h2 h3 h1
   exact .agg _ _ h4 h5
  | tup cs =>
   simp only[rn]at h
   rw [qI]at h
   obtain ⟨ts,h1,rfl⟩:=h
   obtain ⟨vs,rfl,h2,h3⟩:=hv.tup'
   obtain ⟨h4,h5⟩:=rowVR h2 h3 h1
   exact .tup _ _ h4 h5
  | fn g cs =>
   simp only[rn]at h
   rw [qI]at h
   obtain ⟨ts,h1,rfl⟩:=h
   have:∃ vs:Array Value,cv = .func (.func g) #[] vs∧cs.length=vs.size∧∀ (i:Nat) p v,cs[i]?=some p→vs[i]?=some v→VR w.heap F G p v:=by
    cases hv with
    | imm _ _ hv=>cases hv with | fn _ _ vs h2 h3=>exact ⟨vs,rfl,h2,fun i p v a b => .imm _ _ (h3 i p v a b)⟩
    | fn _ _ vs h2 h3=>exact ⟨vs,rfl,h2,h3⟩
   obtain ⟨vs,rfl,h2,h3⟩:=this
   obtain ⟨h4,h5⟩:=rowVR h2 h3 h1
   exact .fn _ _ _ h4 h5
  | loc o ver off n =>
   simp only[rn]at h
   split at h
   ·cases h; exact hv.next hi hn
   split at h
   case isFalse=>exact data hv h
   rename_i hc
   split at h
   case h_2=>cases h
   rename_i v et sz cells hob
   split at h
   case isFalse=>cases h
   rename_i hver
   cases h
   cases hv with
   | imm _ _ hv=>cases hv
   | loc _ _ _ _ a len cap hv k' =>
    refine .loc _ _ _ _ a len cap hs.tick fun ob l hg he=>?_
    obtain ⟨ob',h1,h2,h3⟩:=hs.get o hc ob l hg
    have hob':ob' = .arr v et sz cells:=by
     have:G.er.obs[o]?=some ob':=by simp [GSt.er,h1]
     rw [hob]at this; cases this; rfl
    subst hob'
    obtain ⟨et2,sz2,cells2,q1,q2⟩:=k' _ l h1 (by simp only[Ob.ver]; exact hver)
    cases q1
    cases ob with
    | arr v3 et3 sz3 cells3 =>
     simp only[Ob.like]at h2
     obtain ⟨rfl,rfl⟩:=h2
     exact ⟨_,_,cells3,by simp only[Ob.ver]at h3; rw [h3]; rfl,q2⟩
    | map v3 es=>exact h2.elim
    | lp _ _ _ _=>exact h2.elim
  | ref o ver off =>
   simp only[rn]at h
   split at h
   ·cases h; exact hv.next hi hn
   split at h
   case isFalse=>exact data hv h
   rename_i hc
   split at h
   case h_2=>cases h
   rename_i v et sz cells hob
   split at h
   case isFalse=>cases h
   rename_i hver
   cases h
   cases hv with
   | imm _ _ hv=>cases hv
   | ref _ _ _ a hv k' =>
    refine .ref _ _ _ a hs.tick fun ob l hg he=>?_
    obtain ⟨ob',h1,h2,h3⟩:=hs.get o hc ob l hg
    have hob':ob' = .arr v et sz cells:=by
     have:G.er.obs[o]?=some ob':=by simp [GSt.er,h1]
     rw [hob]at this; cases this; rfl
    subst hob'
    obtain ⟨et2,sz2,cells2,q1,q2⟩:=k' _ l h1 (by simp only[Ob.ver]; exact hver)
    cases q1
    cases ob with
    | arr v3 et3 sz3 cells3 =>
     simp only[Ob.like]at h2
     obtain ⟨rfl,rfl⟩:=h2
     exact ⟨_,_,cells3,by simp only[Ob.ver]at h3; rw [h3]; rfl,q2⟩
    | map v3 es=>exact h2.elim
    | lp _ _ _ _=>exact h2.elim
  | mp o ver =>
   simp only[rn]at h
   split at h
   ·cases h; exact hv.next hi hn
   split at h
   case isFalse=>cases h
   rename_i hc
   split at h
   case h_2=>cases h
   rename_i v es hob
   split at h
   case isFalse=>cases h
   rename_i hver
   cases h
   cases hv with
   | imm _ _ hv=>cases hv
   | mp _ _ r hv k' =>
    refine .mp _ _ r hs.tick fun ob l hg he=>?_
    obtain ⟨ob',h1,h2,h3⟩:=hs.get o hc ob l hg
    have hob':ob' = .map v es:=by
     have:G.er.obs[o]?=some ob':=by simp [GSt.er,h1]
     rw [hob]at this; cases this; rfl
    subst hob'
    obtain ⟨es2,q1,q2⟩:=k' _ l h1 (by simp only[Ob.ver]; exact hver)
    cases q1
    cases ob with
    | arr v3 et3 sz3 cells3=>exact h2.elim
    | map v3 es3=>exact ⟨es3,by simp only[Ob.ver]at h3; rw [h3]; rfl,q2⟩
    | lp _ _ _ _=>exact h2.elim
  | undef=>simp only[rn]at h; cases h; exact .imm _ _ (.undef _)
  | _=>simp only[rn]at h; exact data hv h
theorem yc7 (hi:Inv F G w) {k:Nat} {sel:List Nat} {S':Store} (h:G.er.rn k sel=some S') :
  ∃ G',G'.er=S'∧Inv (zuo F G (zih k sel)) G' w∧Next F G w (zuo F G (zih k sel)) G' w∧Sel G G' k sel:=by
 unfold Store.rn at h
 split at h
 case isFalse=>cases h
 rename_i hc
 simp only[qB,List.all_eq_true,decide_eq_true_eq]at hc
 obtain ⟨⟨hge,hnd⟩,hkl⟩:=hc
 rw [Option.bind_eq_some_iff]at h
 obtain ⟨A,hA,h⟩:=h
 rw [qI]at h
 obtain ⟨B,hB,rfl⟩:=h
 obtain ⟨a1,a2⟩:=zrp hA
 obtain ⟨b1,b2⟩:=zrp hB
 rw [List.length_range]at a1
 have hlen:G.er.obs.length=G.obs.length:=by simp [GSt.er]
 rw [hlen]at hkl
 have er_get':∀ {o:Nat} {ob:Ob},G.er.obs[o]?=some ob→∃ l,G.obs[o]?=some (ob,l):=fun h=>zex h
 -- where the objects lie
 let lcOf:Nat→Lc:=fun i=>((G.obs[if i<k then i else sel.getD (i - k) 0]?).map (·.2)).getD ⟨0,0⟩
 let G':GSt:=⟨(A++B).zipIdx.map fun q=>(q.1,lcOf q.2),G.tick+1⟩
 have hget:∀ (i:Nat) ob' l,G'.obs[i]?=some (ob',l)→∃ o ob,(if i<k then i else sel.getD (i - k) 0)=o∧(i<k∨sel[i - k]?=some o)∧G.obs[o]?=some (ob,l)∧z37 G.er k sel (decide (i<k)) ob=some ob':=by
  intro i ob' l hx
  simp only[G',List.getElem?_map,qI,List.getElem?_zipIdx]at hx
  obtain ⟨q,⟨ob2,hq,rfl⟩,e⟩:=hx
  simp only[Nat.zero_add,Prod.mk.injEq]at e
  obtain ⟨rfl,e⟩:=e
  by_cases hik:i<k
  ·rw [List.getElem?_append_left (by omega)]at hq
   obtain ⟨o,ob,h1,h2,h3⟩:=a2 i _ hq
   rw [List.getElem?_range hik]at h1
   cases h1
   obtain ⟨l2,h4⟩:=er_get' h2
   have:lcOf i=l2:=by simp [lcOf,hik,h4]
   rw [this]at e; subst e
   exact ⟨i,ob,by simp [hik],.inl hik,h4,by simpa [hik] using h3⟩
  rw [List.getElem?_append_right (by omega),← a1]at hq
  obtain ⟨o,ob,h1,h2,h3⟩:=b2 _ _ hq
  obtain ⟨l2,h4⟩:=er_get' h2
  have hsel:sel.getD (i - k) 0=o:=by simp [List.getD_eq_getElem?_getD,h1]
  have:lcOf i=l2:=by simp only[lcOf,if_neg hik,hsel,h4]; rfl
  rw [this]at e; subst e
  exact ⟨o,ob,by rw [if_neg hik,hsel],.inr h1,h4,by simpa [hik] using h3⟩
 have hn:Next F G w (zuo F G (zih k sel)) G' w:=by
  refine ⟨rfl,rfl,rfl,qR _,fun b hb => .inl hb,?_,?_,Nat.le_succ _,fun _ _ _=>rfl,?_,qR _⟩
  ·rintro b (hb | ⟨o,x,_,hx,rfl⟩)
   ·exact .inl hb
   exact .inr (.inr ⟨o,x,hx,rfl⟩)
  ·rintro i ⟨ob',l⟩ hx
   obtain ⟨o,ob,_,_,h4,_⟩:=hget i ob' l hx
   exact .inr ⟨o,_,h4,rfl⟩
  intro i ob' l hx hver
  obtain ⟨o,ob,h1,h2,h4,h5⟩:=hget i ob' l hx
  obtain ⟨h6,h7⟩:=zrn h5
  by_cases hik:i<k
  ·rw [if_pos hik]at h1; subst h1
   simp only[hik,decide_true,if_true]at h7
   exact ⟨ob,h4,h7.symm,h6⟩
  simp only[hik,decide_false,qF,if_false]at h7
  have:G.er.tick=G.tick:=rfl
  omega
 have hs:Sel G G' k sel:=by
  refine ⟨Nat.lt_succ_self _,fun o hc ob l hx=>?_⟩
  obtain ⟨o2,ob2,h1,h2,h4,h5⟩:=hget _ ob l hx
  have hnk:¬ k+sel.idxOf o<k:=by omega
  rcases h2 with h2 | h2
  ·exact absurd h2 hnk
  rw [Nat.add_sub_cancel_left]at h2
  have hmem:o∈sel:=by simpa using hc
  have hlt:=List.idxOf_lt_length_of_mem hmem
  rw [List.getElem?_eq_getElem hlt,List.getElem_idxOf hlt]at h2
  cases h2
  obtain ⟨h6,h7⟩:=zrn h5
  simp only[hnk,decide_false,qF,if_false]at h7
  exact ⟨ob2,h4,h6,h7⟩
 have hsound:∀ {f:Nat} {p t:PV} {cv:Value},VR w.heap F G p cv→rn G.er k sel f p=some t→VR w.heap (zuo F G (zih k sel)) G' t cv:=fun hv h=>zvq hi (fun _ h=>h) hn hs hv h
 refine ⟨G',?_,zjn ?_ ?_ ?_ ?_ ?_,hn,hs⟩
 ·simp only[GSt.er,G',Store.mk.injEq,and_true]
  apply List.ext_getElem
  ·simp
  intro i a b; simp
 ·rintro b (hb | ⟨o,x,_,hx,rfl⟩)
  ·exact hi.fr b hb
  exact hi.blk_lt hx
 ·intro i ob' l hx
  obtain ⟨o,ob,h1,h2,h4,h5⟩:=hget i ob' l hx
  obtain ⟨h6,h7⟩:=zrn h5
  have h8:=hi.ver o ob l h4
  have:G.er.tick=G.tick:=rfl
  show ob'.ver<G.tick+1
  rw [h7]; split <;> omega
 ·intro i ob' l hx hb
  obtain ⟨o,ob,h1,h2,h4,h5⟩:=hget i ob' l hx
  rcases hb with hb | ⟨o',x,hfr,hx',e⟩
  ·exact hi.nF o ob l h4 hb
  have:=hi.inj o' o _ _ hx' h4 e
  subst this
  simp only[zih,qB,decide_eq_true_eq,Bool.not_eq_true',List.contains_eq_mem,decide_eq_false_iff_not]at hfr
  rcases h2 with h2 | h2
  ·rw [if_pos h2]at h1; omega
  exact hfr.2 (List.mem_of_getElem? h2)
 ·intro i ob' l hx
  obtain ⟨o,ob,h1,h2,h4,h5⟩:=hget i ob' l hx
  have hh:=hi.holds h4
  cases ob with
  | arr v et2 sz2 cells2 =>
   simp only[z37]at h5
   rw [qI]at h5
   obtain ⟨cs',k3,rfl⟩:=h5
   obtain ⟨m1,m2⟩:=zbs _ _ k3
   obtain ⟨cs,q1,q2,q3,q4⟩:=hh
   refine ⟨cs,q1,q2,by omega,fun i p hp=>?_⟩
   obtain ⟨x,x1,x2⟩:=m2 i p hp
   obtain ⟨c1,v1,v2,v3⟩:=q4 i x x1
   exact ⟨yc5 x2 c1,v1,v2,hsound v3 x2⟩
  | map v es2 =>
   simp only[z37]at h5
   rw [qI]at h5
   obtain ⟨es',k3,rfl⟩:=h5
   obtain ⟨m1,m2⟩:=zl3 _ _ k3
   obtain ⟨ents,clock,q1,q2,q3⟩:=hh
   refine ⟨ents,clock,q1,by omega,fun i k v hp=>?_⟩
   obtain ⟨x,x1,x2⟩:=m2 i (k,v) hp
   obtain ⟨en,e1,e2,e3⟩:=q3 i x.1 x.2 x1
   rw [Option.bind_eq_some_iff]at x2
   obtain ⟨a,y1,y2⟩:=x2
   rw [qI]at y2
   obtain ⟨b,y3,y4⟩:=y2
   cases y4
   exact ⟨en,e1,hsound e2 y1,hsound e3 y3⟩
  | lp v b2 r2 tmps2 =>
   simp only[z37]at h5
   rw [qI]at h5
   obtain ⟨cs',k3,rfl⟩:=h5
   obtain ⟨m1,m2⟩:=zbs _ _ k3
   obtain ⟨q0,t,q1,q2,q3⟩:=hh
   refine ⟨q0,t,q1,⟨q2.1,by omega⟩,fun i p v hp hv=>?_⟩
   obtain ⟨x,x1,x2⟩:=m2 i p hp
   exact hsound (q3 i x v x1 hv) x2
 rintro i i' ⟨ob,l⟩ ⟨ob',l'⟩ hx hx' e
 obtain ⟨o,a,h1,h2,h3,_⟩:=hget i _ _ hx
 obtain ⟨o',a',h1',h2',h3',_⟩:=hget i' _ _ hx'
 have:=hi.inj o o' _ _ h3 h3' e
 subst this
 rcases h2 with h2 | h2 <;> rcases h2' with h2' | h2'
 ·rw [if_pos h2]at h1; rw [if_pos h2']at h1'; omega
 ·rw [if_pos h2]at h1
  have:=hge o (List.mem_of_getElem? h2')
  omega
 ·rw [if_pos h2']at h1'
  have:=hge o (List.mem_of_getElem? h2)
  omega
 have l1:=(List.getElem?_eq_some_iff.1 h2)
 have l2:=(List.getElem?_eq_some_iff.1 h2')
 obtain ⟨l1,e1⟩:=l1
 obtain ⟨l2,e2⟩:=l2
 have:=zxj hnd l1 l2 (e1.trans e2.symm)
 by_cases c1:i<k
 ·rw [if_pos c1]at h1; have:=hge o (List.mem_of_getElem? h2); omega
 by_cases c2:i'<k
 ·rw [if_pos c2]at h1'; have:=hge o (List.mem_of_getElem? h2'); omega
 omega
variable {Q:Exit→Env→Store→Prop} {S:Store} {a b c:Code}
def z4o (L:List Nat) (I:List PV→Store→Prop) (e:Env) (S:Store):Prop :=
 ∃ k sel vs S',(L.map e).mapM (rn S k sel 10)=some vs∧S.rn k sel=some S'∧I vs S'
theorem zti (hi:Inv F G w) {e:Env} {act:Act} (he:zei w.heap F G e act) {L:List Nat} {I:List PV→Store→Prop} (h:z4o L I e G.er) :
  ∃ vs F' G',I vs G'.er∧vs.length=L.length∧Inv F' G' w∧Next F G w F' G' w∧zei w.heap F' G' (Env.of L vs) act:=by
 obtain ⟨k,sel,vs,S',h1,h2,h3⟩:=h
 obtain ⟨G',rfl,k2,k3,k4⟩:=yc7 hi h2
 obtain ⟨m1,m2⟩:=zbs _ _ h1
 refine ⟨vs,_,G',h3,by rw [← m1]; simp,k2,k3,zve L vs (by rw [← m1]; simp) fun i t v q1 q2=>?_⟩
 obtain ⟨x,x1,x2⟩:=m2 i v q2
 rw [List.getElem?_map,q1]at x1
 cases x1
 exact zvq hi (fun _ h=>h) k3 k4 (he t) x2
theorem W.foldS (L:List Nat) {I:List PV→Store→Prop} (hI:z4o L I e S) (h:∀ vs S,vs.length=L.length→I vs S→W P T c Q (Env.of L vs) S):W P T c Q e S:=by
 refine ⟨?_⟩
 intro hT hm F0 G0 w0 N F G a w h3 h4 h5 h6 h7 h8 h9 R nn
 subst h3
 obtain ⟨vs,F',G',k1,k2,k3,k4,k5⟩:=zti h4 h5 hI
 exact (h vs _ k2 k1).run hT hm F0 G0 w0 N F' G' a w rfl k3 k5 (h6.trans k4) h7 h8 h9
theorem W.joinS (L:List Nat) (I:List PV→Store→Prop) (h:W P T a (XThen (z4o L I) Q) e S) (k:∀ vs S,vs.length=L.length→I vs S→W P T b Q (Env.of L vs) S):W P T (.seq a b) Q e S:=by
 refine W.seq (h.mono ?_)
 intro x e S hx
 cases x with
 | normal=>exact W.foldS L hx k
 | _=>exact hx
theorem W.loopS (L:List Nat) (I:Nat→List PV→Store→Prop) (n:Nat) (h0:z4o L (I n) e S)
  (h:∀ n vs S,vs.length=L.length→I n vs S→W P T c (XThen (fun e S=>∃ m,m<n∧z4o L (I m) e S) Q) (Env.of L vs) S):W P T (.loop c) Q e S:=by
 refine W.foldS L h0 fun vs S hl hI=>?_
 refine ⟨?_⟩
 intro hT hm F0 G0 w0 N F G a w h3 h4 h5 h6 h7 h8 h9 R nn
 refine wpIn_loop_rounds (n+1) ?_
 clear h0
 induction n using Nat.strongRecOn generalizing vs S F G a w with
 | _ n ih =>
  refine wpIn_mono ((h n vs S hl hI).run hT hm F0 G0 w0 N F G a w h3 h4 h5 h6 h7 h8 (by simpa [zg2] using h9)) ?_
  rintro x a' w' ⟨e',F',G',k1,k2,k3,k4,k5,k6⟩
  cases x with
  | normal =>
   obtain ⟨m,hmn,hk⟩:=k1
   obtain ⟨vs',F2,G2,q1,q2,q3,q4,q5⟩:=zti k2 k3 hk
   exact zln (by omega) _ _ (ih m hmn vs' _ q2 q1 F2 G2 a' w' rfl q3 q5 (k4.trans q4) k5 k6)
  | _=>exact ⟨e',F',G',k1,k2,k3,k4,k5,k6⟩
end
end
section
section
variable {P:Program} {T:Tab}
def More (S S':Store):Prop:=∀ (o:Nat) x,S.obs[o]?=some x→S'.obs[o]?=some x
theorem More.cells {S S':Store} (h:More S S') {o ver:Nat} {c:List PV} (hc:S.cellsOf o ver=some c):S'.cellsOf o ver=some c:=by
 unfold Store.cellsOf at hc ⊢
 cases ho:S.obs[o]? with
 | none=>rw [ho]at hc; cases hc
 | some x=>rw [ho]at hc; rw [h o x ho]; exact hc
theorem More.push {S:Store} {et sz:Nat} {cells:List PV}:More S (S.push et sz cells):=by
 intro o x hx
 have:=(List.getElem?_eq_some_iff.1 hx).1
 simp only[Store.push]
 rw [List.getElem?_append_left this]; exact hx
variable (P T)
def z4n (ops:Array Oper) (effs pend:List Nat) (t d:Nat) (Q:Env→Store→Prop) (l:List Nat) (e:Env) (S:Store):Prop :=
 (T t).kd ≠ .none∧zde P T ops effs pend [] Q l (e.put (some d) (.ref S.obs.length S.tick 0)) (S.push t (T t).size (T t).zero)
variable {P T}
variable {ops:Array Oper} {effs pend:List Nat} {t d:Nat} {Q:Env→Store→Prop} {l2:List Nat}
theorem z4n.imp {l l':List Nat} {e:Env} {S:Store} (h:∀ e S,zde P T ops effs pend [] Q l e S→zde P T ops effs pend [] Q l' e S) (k:z4n P T ops effs pend t d Q l e S):z4n P T ops effs pend t d Q l' e S:=⟨k.1,h _ _ k.2⟩
variable {F0:Nat→Prop} {G0:GSt} {w0:World} {N:Nat}
end
section
variable {P:Program} {T:Tab} {Q:Exit→Env→Store→Prop} {e:Env} {S:Store} {b:Code}
section
variable {ds pd:List (Option Tmp)} {t d:Nat} {o:Oper} {r l2:List Oper} {K:Env→Store→Prop}
end
theorem z5c {all:List Oper} {effs pend:List Nat} {K:Env→Store→Prop} (heff:∀ i o,all[i]?=some o→effs.contains i=false→ze1 o.op=true):∀ (r:List Nat) (l:List Oper) {e:Env} {S:Store},r.all (fun i => !pend.contains i)=true→r.map (all[·]?)=l.map some →
  za7 false P T (dsts all) l e S K→zde P T all.toArray effs pend [] K r e S
 | [],l,e,S,_,hl,h=>by
  cases l with
  | nil=>exact h
  | cons o l=>simp at hl
 | i::r,l,e,S,hp,hl,h=>by
  cases l with
  | nil=>simp at hl
  | cons o l =>
   simp only[List.map_cons,List.cons.injEq]at hl
   obtain ⟨ho,hl⟩:=hl
   simp only[List.all_cons,qB,Bool.not_eq_true']at hp
   obtain ⟨hp1,hp2⟩:=hp
   unfold za7 at h
   simp only[zde,List.getElem?_toArray,ho]
   rw [zm1]at h
   unfold zeo
   split at h
   ·rename_i hg
    rw [hg]
    simp only
    split
    ·exact ze7 (fun v S' hv=>⟨.inr (by intro o ho; cases ho),z5c heff r l hp2 hl hv⟩) (zng h)
    rename_i hc
    have:=zo5 (heff i o ho (by simpa using hc)) h
    rw [zen]at this ⊢
    obtain ⟨v,h1,h2⟩:=this
    exact ⟨v,h1,by rw [hp1]; trivial,z5c heff r l hp2 hl h2⟩
   ·rename_i hg; rw [hg]; exact z5c heff r l hp2 hl h
   exact h.elim
theorem zle:∀ (l:List Oper) (k i:Nat) (o:Oper),l[i]?=some o→(k+i∈zcg l k↔ze1 o.op=false)
 | [],_,_,_,h=>by simp at h
 | a::l,k,0,o,h=>by
  simp at h; subst h
  have hge:∀ (l:List Oper) (k j:Nat),j∈zcg l k→k≤j:=by
   intro l
   induction l with
   | nil=>intro k j h; simp [zcg]at h
   | cons b l ih =>
    intro k j h
    unfold zcg at h
    split at h
    ·have:=ih _ _ h; omega
    rcases List.mem_cons.1 h with h | h
    ·omega
    have:=ih _ _ h; omega
  unfold zcg
  split
  ·rename_i hf
   constructor
   ·intro h; have:=hge _ _ _ h; omega
   intro h; rw [hf]at h; cases h
  rename_i hf
  simp; simpa using hf
 | a::l,k,i+1,o,h=>by
  simp only[List.getElem?_cons_succ]at h
  have ih:=zle l (k+1) i o h
  unfold zcg
  split
  ·rw [show k+(i+1)=k+1+i by omega]; exact ih
  rw [show k+(i+1)=k+1+i by omega,List.mem_cons]
  constructor
  ·rintro (h | h)
   ·omega
   exact ih.1 h
  exact fun h => .inr (ih.2 h)
end
end
section
section
variable {P:Program} {T:Tab} {e:Env} {S:Store} {Q:Exit→Env→Store→Prop} {b:Code}
def zmw (P:Program) (T:Tab) (ds:List (Option Tmp)) (pd:List (Option Tmp)) (keep:List Nat) (l2:List Oper):List Oper→Env→Store→(Env→Store→Prop)→Prop
 | [],e,S,K=>za7 false P T ds l2 e S K
 | o::r,e,S,K =>
  if pd.contains o.dst then ze1 o.op=true∧o.guard=none∧∃ v,(∀ S',Keeps keep S S'→zds T S' e o.op=some v)∧zmw P T ds pd keep l2 r (e.put o.dst v) S K
  else za7 false P T ds [o] e S fun e' S'=>Keeps keep S S'∧zmw P T ds pd keep l2 r e' S' K
theorem Keeps.refl (keep:List Nat) (S:Store):Keeps keep S S:=fun _ _=>rfl
theorem zam {S S':Store}:Keeps [] S S'=True:=eq_true fun _ h=>by cases h
theorem zaj {o:Nat} {k:List Nat} {S S':Store}:Keeps (o::k) S S'=(S'.obs[o]?=S.obs[o]?∧Keeps k S S'):=by
 apply propext; constructor
 ·exact fun h=>⟨h o (by simp),fun x hx=>h x (by simp [hx])⟩
 rintro ⟨h1,h2⟩ x hx
 rcases List.mem_cons.1 hx with rfl | hx
 ·exact h1
 exact h2 x hx
theorem zas {ds pd:List (Option Tmp)} {keep:List Nat} {l2 r:List Oper} {o:Oper} {K:Env→Store→Prop} (h0:pd.contains o.dst=false)
  (h:za7 false P T ds [o] e S fun e' S'=>Keeps keep S S'∧zmw P T ds pd keep l2 r e' S' K):zmw P T ds pd keep l2 (o::r) e S K:=by
 rw [zmw,if_neg (by rw [h0]; exact Bool.false_ne_true)]; exact h
theorem zan {ds pd:List (Option Tmp)} {keep:List Nat} {l2 r:List Oper} {o:Oper} {K:Env→Store→Prop} (v:PV) (h0:pd.contains o.dst=true) (h1:ze1 o.op=true) (h2:o.guard=none)
  (h3:∀ S',Keeps keep S S'→zds T S' e o.op=some v) (h:zmw P T ds pd keep l2 r (e.put o.dst v) S K):zmw P T ds pd keep l2 (o::r) e S K:=by
 rw [zmw,if_pos h0]; exact ⟨h1,h2,v,h3,h⟩
theorem zfb {ds pd:List (Option Tmp)} {keep:List Nat} {l2:List Oper} {K:Env→Store→Prop} (h:za7 false P T ds l2 e S K):zmw P T ds pd keep l2 [] e S K:=h
theorem zot {all:List Oper} {pend:List Nat} {keep:List Nat} {K:Env→Store→Prop}:∀ (r:List Oper) (k:Nat) (e:Env) (S:Store),all.drop k=r →
  (∀ i,k≤i→i<all.length→(pend.contains i=true↔i∈zcg all 0))→za7 false P T (dsts all) r e S K→zde P T all.toArray (zcg all 0) pend keep K (List.range' k r.length) e S
 | [],_,_,_,_,_,h=>h
 | o::r,k,e,S,hk,hp,h=>by
  have ho:all[k]?=some o:=by
   have:=congrArg (fun l=>l[0]?) hk
   simpa using this
  have hkl:k<all.length:=(List.getElem?_eq_some_iff.1 ho).1
  have hr:all.drop (k+1)=r:=by
   have:=congrArg (List.drop 1) hk
   simpa [List.drop_drop] using this
  have hp':∀ i,k+1≤i→i<all.length→(pend.contains i=true↔i∈zcg all 0):=fun i h1 h2=>hp i (by omega) h2
  unfold za7 at h
  simp only[List.length_cons,List.range'_succ,zde,List.getElem?_toArray,ho]
  rw [zm1]at h
  unfold zeo
  split at h
  ·rename_i hg
   rw [hg]
   simp only
   split
   ·rename_i hc
    exact ze7 (fun v S' hv=>⟨.inl ((hp k (qR _) hkl).2 (by simpa using hc)),zot r (k+1) _ _ hr hp' hv⟩) (zng h)
   rename_i hc
   have hflat:=zji all 0 k o ho (by simpa using hc)
   have:=zo5 hflat h
   rw [zen]at this ⊢
   obtain ⟨v,h1,h2⟩:=this
   refine ⟨v,h1,?_,zot r (k+1) _ _ hr hp' h2⟩
   rw [if_neg]
   ·trivial
   intro h9; exact hc (by simpa using (hp k (qR _) hkl).1 h9)
  ·rename_i hg; rw [hg]; exact zot r (k+1) _ _ hr hp' h
  exact h.elim
theorem zqe {all l2:List Oper} {pd:List (Option Tmp)} {pend keep:List Nat} {K:Env→Store→Prop} (n1:Nat) (hn1:all.drop n1=l2) (hn:n1≤all.length) (hp2:∀ i,n1≤i→i<all.length→(pend.contains i=true↔i∈zcg all 0))
  (hp1:∀ i o,i<n1→all[i]?=some o→pend.contains i=pd.contains o.dst) :
  ∀ (r:List Oper) (k:Nat) (e:Env) (S:Store),all.drop k=r++l2→k+r.length=n1→zmw P T (dsts all) pd keep l2 r e S K →
  zde P T all.toArray (zcg all 0) pend keep K (List.range' k (r++l2).length) e S
 | [],k,e,S,hk,hkn,h=>by
  obtain rfl:k=n1:=by simpa using hkn
  exact zot l2 k e S hn1 hp2 h
 | o::r,k,e,S,hk,hkn,h=>by
  have ho:all[k]?=some o:=by
   have:=congrArg (fun l=>l[0]?) hk
   simpa using this
  have hkl:k<all.length:=(List.getElem?_eq_some_iff.1 ho).1
  have hr:all.drop (k+1)=r++l2:=by
   have:=congrArg (List.drop 1) hk
   simpa [List.drop_drop] using this
  have hkn':k+1+r.length=n1:=by rw [List.length_cons]at hkn; omega
  have hkp:=hp1 k o (by rw [List.length_cons]at hkn; omega) ho
  rw [List.cons_append,List.length_cons,List.range'_succ]
  simp only[zde,List.getElem?_toArray,ho]
  unfold zmw at h
  split at h
  ·rename_i hpd
   obtain ⟨hf,hg,v,h1,h2⟩:=h
   unfold zeo gdec
   rw [hg]
   simp only
   have hce:¬ ((zcg all 0).contains k=true):=by
    intro hc
    have:=(zle all 0 k o ho).1 (by rw [Nat.zero_add]; simpa using hc)
    rw [hf]at this; cases this
   rw [if_neg hce,zen]
   have hfl:∀ S',Keeps keep S S'→pFl P T S' e o.op v:=by
    intro S' hS'
    have:=h1 S' hS'
    have:z9q P T S' e o.op fun u=>u=v:=by
     revert this hf
     generalize o.op=op
     intro hf this
     have hpg:zja (zds T S' e op) fun u=>u=v:=by rw [this]; rfl
     cases op with
     | call c =>
      obtain ⟨cal,xs,ts⟩:=c
      cases cal with
      | value f=>simp [ze1]at hf
      | _=>exact hpg
     | _=>exact hpg
    obtain ⟨u,h3,rfl⟩:=zen.1 this
    exact h3
   refine ⟨v,hfl S (Keeps.refl _ _),?_,zqe n1 hn1 hn hp2 hp1 r (k+1) _ _ hr hkn' h2⟩
   split
   ·exact hfl
   trivial
  rename_i hpd
  unfold za7 at h
  rw [zm1]at h
  unfold zeo
  split at h
  ·rename_i hg
   rw [hg]
   simp only
   split
   ·rename_i hc
    exact ze7 (fun v S' hv=>⟨.inr hv.1,zqe n1 hn1 hn hp2 hp1 r (k+1) _ _ hr hkn' hv.2⟩) (zng h)
   rename_i hc
   have hflat:=zji all 0 k o ho (by simpa using hc)
   have:=zo5 hflat h
   rw [zen]at this ⊢
   obtain ⟨v,h1,h2⟩:=this
   refine ⟨v,h1,?_,zqe n1 hn1 hn hp2 hp1 r (k+1) _ _ hr hkn' h2.2⟩
   rw [if_neg (by rw [hkp]; exact hpd)]
   trivial
  ·rename_i hg; rw [hg]
   exact zqe n1 hn1 hn hp2 hp1 r (k+1) _ _ hr hkn' h.2
  exact h.elim
def zt5 (all:List Oper) (pd:List (Option Tmp)) (n1:Nat):List Nat :=
 (List.range all.length).filter fun i=>if i<n1 then (match all[i]? with | some o=>pd.contains o.dst | none=>false) else (zcg all 0).contains i
theorem W.region_pk {id:Nat} {l:List Oper} (n1:Nat) (pd:List (Option Tmp)) (keep:List Nat) (hn:n1≤l.length) (hc:zlc l.toArray (List.range' 0 l.length) (zcg l 0) (zt5 l pd n1)=true)
  (h:∀ K:Env→Store→Prop,(∀ e S,Q .normal e S→K e S)→zmw P T (dsts l) pd keep (l.drop n1) (l.take n1) e S K):W P T (.region id l.toArray true) Q e S:=by
 refine W.region_any (List.range' 0 l.length) (zcg l 0) (zt5 l pd n1) keep hc ?_
 have:=zqe (pend:=zt5 l pd n1) n1 rfl hn ?_ ?_ (l.take n1) 0 e S (by simp) (by simp; omega) (h _ fun _ _ h=>h)
 ·rwa [List.take_append_drop]at this
 ·intro i h1 h2
  simp [zt5,Nat.not_lt.2 h1,h2]
 intro i o h1 h2
 have hil:=(List.getElem?_eq_some_iff.1 h2).1
 rw [Bool.eq_iff_iff]
 obtain ⟨_,rfl⟩:=List.getElem?_eq_some_iff.1 h2
 simp [zt5,h1,hil]
theorem W.seq_pk {id:Nat} {l:List Oper} (n1:Nat) (pd:List (Option Tmp)) (keep:List Nat) (hn:n1≤l.length) (hc:zlc l.toArray (List.range' 0 l.length) (zcg l 0) (zt5 l pd n1)=true)
  (h:∀ K:Env→Store→Prop,(∀ e S,W P T b Q e S→K e S)→zmw P T (dsts l) pd keep (l.drop n1) (l.take n1) e S K):W P T (.seq (.region id l.toArray true) b) Q e S :=
 W.seq (W.region_pk n1 pd keep hn hc fun K hK=>h K hK)
end
end
abbrev Txt:=List UInt8
def Sm (p:List Txt):Prop:=p.length≤1048576∧∀ r∈p,r.length≤1048576
theorem Sm.rows {p:List Txt} (h:Sm p):p.length<2147483648:=by have:=h.1; omega
theorem Sm.cols {p:List Txt} (h:Sm p):∀ r∈p,r.length<2147483648:=fun r hr=>by have:=h.2 r hr; omega
def zal:List Txt→Txt
 | []=>[]
 | a::_=>a
def zcb (c:UInt8):Bool:=decide (97≤c.toNat) && decide (c.toNat≤122)
def zr5 (w:Nat) (row:Txt):Bool:=decide (row.length=w) && decide (1≤row.length) && decide (row.length≤6) && row.all zcb
def zb3 (p:List Txt):Bool:=p.all (zr5 (zal p).length) && decide (1≤p.length) && decide (p.length≤6)
def zfr (n:Int) (row:Txt):Int:=row.foldl (fun n c=>max n ((c.toNat:Int) - 97+1)) n
def zbo (p:List Txt):Int:=p.foldl zfr 0
def zdr (s:List UInt8 × Txt) (c:UInt8):List UInt8 × Txt:=(if s.1.idxOf c=s.1.length then s.1++[c] else s.1,s.2++[UInt8.ofNat (97+s.1.idxOf c)])
def zq5 (o:List UInt8) (row:Txt):List UInt8 × Txt:=row.foldl zdr (o,[])
def zn4 (s:List UInt8 × List Txt) (row:Txt):List UInt8 × List Txt:=((zq5 s.1 row).1,s.2++[(zq5 s.1 row).2])
def zvc (p:List Txt):List UInt8 × List Txt:=p.foldl zn4 ([],[])
def names (p:List Txt):List Txt:=(zvc p).2
def zk0 (room:Int) (c:UInt8):Bool:=decide ((c.toNat:Int) - 97=room)
def zcy (room:Int) (n:Int) (row:Txt):Int:=row.foldl (fun n c=>if zk0 room c then n+1 else n) n
def zdx (p:List Txt) (room:Int):Int:=p.foldl (zcy room) 0
structure Box where
 top:Int
 left:Int
 low:Int
 right:Int
def zk9 (room:Int) (i:Nat) (b:Box) (q:UInt8 × Nat):Box:=if zk0 room q.1 then ⟨min b.top i,min b.left q.2,max b.low i,max b.right q.2⟩ else b
def z4w (room:Int) (b:Box) (q:Txt × Nat):Box:=(q.1.zipIdx).foldl (zk9 room q.2) b
def zg1 (p:List Txt) (room:Int):Box:=p.zipIdx.foldl (z4w room) ⟨p.length,(zal p).length,-1,-1⟩
def zdf (p:List Txt) (room:Int):Int:=(zg1 p room).low - (zg1 p room).top+1
def zdd (p:List Txt) (room:Int):Int:=(zg1 p room).right - (zg1 p room).left+1
def zaz (p:List Txt):Bool:=zb3 p && decide (names p=p) && decide (zbo p≤9) && (List.range (zbo p).toNat).all fun r=>decide (zdx p r=zdf p r*zdd p r)
theorem zu3 {α:Type} [DecidableEq α]:∀ {l:List α} {c:α} {n:Nat},(∀ j,j<n→l[j]?≠some c)→(n=l.length∨l[n]?=some c)→l.idxOf c=n
 | [],c,n,_,h=>by rcases h with h | h <;> simp at h ⊢; omega
 | a::l,c,0,_,h=>by
  rcases h with h | h
  ·simp at h
  simp at h; simp [h,List.idxOf_cons]
 | a::l,c,n+1,h1,h2=>by
  have h0:a≠c:=fun e=>h1 0 (by omega) (by simp [e])
  have:=zu3 (l:=l) (c:=c) (n:=n) (fun j hj=>by simpa using h1 (j+1) (by omega)) (by simpa using h2)
  rw [List.idxOf_cons,this]
  have h0':(a == c)=false:=by simpa using h0
  rw [h0']; rfl
theorem yb4 {α:Type} {l:List α} {i:Nat} {a:α} (h:l[i]?=some a):(l.take (i+1)).zipIdx=(l.take i).zipIdx++[(a,i)]:=by
 have hi:=(List.getElem?_eq_some_iff.1 h).1
 rw [tk h,List.zipIdx_append]
 simp [Nat.min_eq_left (Nat.le_of_lt hi)]
theorem zju:∀ (row:Txt) (n:Int),0≤n→n≤200→0≤zfr n row∧zfr n row≤200
 | [],n,h1,h2=>⟨h1,h2⟩
 | c::row,n,h1,h2=>by
  have:=c.toNat_lt
  exact zju row (max n ((c.toNat:Int) - 97+1)) (by omega) (by omega)
theorem zdq (p:List Txt):0≤zbo p∧zbo p≤200:=by
 unfold zbo
 have:∀ (p:List Txt) (n:Int),0≤n→n≤200→0≤p.foldl zfr n∧p.foldl zfr n≤200:=by
  intro p
  induction p with
  | nil=>exact fun n h1 h2=>⟨h1,h2⟩
  | cons row p ih=>exact fun n h1 h2=>ih _ (zju row n h1 h2).1 (zju row n h1 h2).2
 exact this p 0 (by omega) (by omega)
theorem zhv (room:Int):∀ (row:Txt) (n:Int),n≤zcy room n row∧zcy room n row≤n+row.length
 | [],n=>⟨Int.le_refl _,by simp [zcy]⟩
 | c::row,n=>by
  have h:=zhv room row (if zk0 room c then n+1 else n)
  have e:zcy room n (c::row)=zcy room (if zk0 room c then n+1 else n) row:=rfl
  rw [e,List.length_cons]
  split at h <;> rename_i hc <;> simp only[hc,if_true,if_false,qF] <;> omega
theorem zu6 (room:Int) (p:List Txt) (h:∀ r∈p,r.length≤1000):0≤zdx p room∧zdx p room≤1000*p.length:=by
 have:∀ (p:List Txt) (n:Int),(∀ r∈p,r.length≤1000)→n≤p.foldl (zcy room) n∧p.foldl (zcy room) n≤n+1000*p.length:=by
  intro p
  induction p with
  | nil=>intro n _; simp
  | cons row p ih =>
   intro n h
   have h1:=zhv room row n
   have h2:=ih (zcy room n row) fun r hr=>h r (by simp [hr])
   have h3:=h row (by simp)
   simp only[List.foldl_cons,List.length_cons]
   omega
 have:=this p 0 h
 unfold zdx
 omega
def zi7 (p:List Txt) (room:Int) (i:Nat):Box:=((p.take i).zipIdx).foldl (z4w room) ⟨p.length,(zal p).length,-1,-1⟩
def zmj (room:Int) (i:Nat) (b:Box) (row:Txt) (k:Nat):Box:=((row.take k).zipIdx).foldl (zk9 room i) b
theorem zlw {p:List Txt} {room:Int}:zi7 p room p.length=zg1 p room:=by simp [zi7,zg1]
theorem zmu {p:List Txt} {room:Int} {i:Nat} {row:Txt} (h:p[i]?=some row):zi7 p room (i+1)=zmj room i (zi7 p room i) row row.length:=by
 simp [zi7,yb4 h,List.foldl_append,z4w,zmj]
theorem zkj {room:Int} {i k:Nat} {b:Box} {row:Txt} {c:UInt8} (h:row[k]?=some c):zmj room i b row (k+1)=zk9 room i (zmj room i b row k) (c,k):=by
 simp [zmj,yb4 h,List.foldl_append]
def Box.In (M:Nat) (b:Box):Prop := -1≤b.top∧b.top≤M ∧ -1≤b.left∧b.left≤M ∧ -1≤b.low∧b.low≤M ∧ -1≤b.right∧b.right≤M
theorem zrq {M:Nat} {room:Int} {i:Nat} (hi:i≤M) {row:Txt} (hr:row.length≤M):∀ (k:Nat) {b:Box},b.In M→k≤row.length→(zmj room i b row k).In M
 | 0,b,h,_=>by simpa [zmj] using h
 | k+1,b,h,hk=>by
  obtain ⟨c,hc,-⟩:=zaf (show k<row.length by omega)
  have ih:=zrq (room:=room) hi hr k h (by omega)
  rw [zkj hc]
  unfold zk9
  split
  ·simp only[Box.In]at ih ⊢; omega
  exact ih
theorem zla {M:Nat} {p:List Txt} (room:Int) (hp:p.length≤M) (hr:∀ r∈p,r.length≤M):∀ i,i≤p.length→(zi7 p room i).In M
 | 0,_=>by
  have:(zal p).length≤M:=by cases p with | nil=>exact Nat.zero_le _ | cons a p=>exact hr a (by simp)
  simp only[zi7,List.take_zero,List.zipIdx_nil,List.foldl_nil,Box.In]
  omega
 | i+1,h=>by
  obtain ⟨row,hrow,hm⟩:=zaf (show i<p.length by omega)
  rw [zmu hrow]
  exact zrq (by omega) (hr row hm) _ (zla room hp hr i (by omega)) (qR _)
theorem z4x {p:List Txt} (room:Int) (hp:p.length≤6) (hr:∀ r∈p,r.length≤6) : -8≤zdf p room∧zdf p room≤8 ∧ -8≤zdd p room∧zdd p room≤8 ∧ -64≤zdf p room*zdd p room∧zdf p room*zdd p room≤64:=by
 have h:=zla room hp hr p.length (qR _)
 rw [zlw]at h
 simp only[Box.In]at h
 have h1:(zdf p room).natAbs≤8:=by unfold zdf; omega
 have h2:(zdd p room).natAbs≤8:=by unfold zdd; omega
 have h3:=Nat.mul_le_mul h1 h2
 rw [← Int.natAbs_mul]at h3
 omega
theorem zay {p:List Txt} (h:zb3 p=true):0<p.length∧p.length≤6∧∀ r∈p,r.length≤6:=by
 unfold zb3 at h
 simp only[qB,decide_eq_true_eq,List.all_eq_true]at h
 refine ⟨by omega,by omega,fun r hr=>?_⟩
 have:=h.1.1 r hr
 simp only[zr5,qB,decide_eq_true_eq]at this
 omega
theorem zca {p:List Txt} {row:Txt} (h:p[0]?=some row):zal p=row:=by
 cases p with
 | nil=>simp at h
 | cons a p=>simpa [zal] using h
theorem zph {p:List Txt} {i:Nat} {row:Txt} (h:p[i]?=some row) (hb:zr5 (zal p).length row=false):zb3 p=false:=by
 unfold zb3
 have:p.all (zr5 (zal p).length)=false:=by
  rw [List.all_eq_false]
  exact ⟨row,List.mem_of_getElem? h,by simp [hb]⟩
 rw [this]; rfl
theorem z5v {p:List Txt} (h:p.all (zr5 (zal p).length)=true):zb3 p=(decide (1≤p.length) && decide (p.length≤6)):=by
 unfold zb3; rw [h]; rfl
theorem zs0 {α:Type} {f:α→Bool} {l:List α} {i:Nat} {a:α} (h:l[i]?=some a) (h1:(l.take i).all f=true) (h2:f a=true):(l.take (i+1)).all f=true:=by
 rw [tk h,List.all_append,h1]; simp [h2]
theorem zml {w k:Nat} {row:Txt} {c:UInt8} (h:row[k]?=some c) (hb:zcb c=false):zr5 w row=false:=by
 unfold zr5
 have:row.all zcb=false:=by
  rw [List.all_eq_false]
  exact ⟨c,List.mem_of_getElem? h,by simp [hb]⟩
 rw [this]; simp
theorem yeg (n:Nat):(decide ((1:Int)≤n) && decide ((n:Int)≤6))=(decide (1≤n) && decide (n≤6)):=by
 congr 1 <;> (apply decide_eq_decide.2; omega)
def zmh (o:List UInt8) (row:Txt) (k:Nat):List UInt8 × Txt:=(row.take k).foldl zdr (o,[])
def zew (p:List Txt) (i:Nat):List UInt8 × List Txt:=(p.take i).foldl zn4 ([],[])
theorem znf {o:List UInt8} {row:Txt} {k:Nat} {c:UInt8} (h:row[k]?=some c):zmh o row (k+1)=zdr (zmh o row k) c:=by
 simp [zmh,tk h,List.foldl_append]
theorem zmt {p:List Txt} {i:Nat} {row:Txt} (h:p[i]?=some row):zew p (i+1)=((zmh (zew p i).1 row row.length).1,(zew p i).2++[(zmh (zew p i).1 row row.length).2]):=by
 simp [zew,tk h,List.foldl_append,zn4,zmh,zq5]
theorem zwd {p:List Txt}:(zew p p.length).2=names p:=by simp [zew,names,zvc]
theorem zmi {o:List UInt8} {row:Txt}:∀ {k:Nat},k≤row.length→(zmh o row k).2.length=k∧(zmh o row k).1.length≤o.length+k
 | 0,_=>⟨rfl,qR _⟩
 | k+1,h=>by
  obtain ⟨c,hc,-⟩:=zaf (show k<row.length by omega)
  have ih:=zmi (o:=o) (row:=row) (k:=k) (by omega)
  rw [znf hc]
  unfold zdr
  simp only[List.length_append,List.length_singleton]
  split
  ·simp only[List.length_append,List.length_singleton]; omega
  omega
theorem zp2 {p:List Txt} (hr:∀ r∈p,r.length≤1048576):∀ {i:Nat},i≤p.length→(zew p i).2.length=i∧(zew p i).1.length≤1048576*i
 | 0,_=>⟨rfl,qR _⟩
 | i+1,h=>by
  obtain ⟨row,hrow,hm⟩:=zaf (show i<p.length by omega)
  have ih:=zp2 hr (i:=i) (by omega)
  have h1:=zmi (o:=(zew p i).1) (row:=row) (qR _)
  have h2:=hr row hm
  rw [zmt hrow]
  simp only[List.length_append,List.length_singleton]
  omega
theorem z9l {s:List UInt8 × Txt} {c:UInt8} {a:Nat} (ha:s.1.idxOf c=a) (hl:a=s.1.length):zdr s c=(s.1++[c],s.2++[UInt8.ofNat (97+a)]):=by
 simp [zdr,ha,hl]
theorem z9m {s:List UInt8 × Txt} {c:UInt8} {a:Nat} (ha:s.1.idxOf c=a) (hl:a<s.1.length):zdr s c=(s.1,s.2++[UInt8.ofNat (97+a)]):=by
 have:¬ a=s.1.length:=by omega
 simp [zdr,ha,this]
theorem zsz {p:List Txt} (hr:∀ r∈p,r.length≤1048576):∀ {i:Nat},i≤p.length→∀ r∈(zew p i).2,r.length≤1048576
 | 0,_,r,h=>by simp [zew]at h
 | i+1,hi,r,h=>by
  obtain ⟨row,hrow,hm⟩:=zaf (show i<p.length by omega)
  rw [zmt hrow]at h
  rcases List.mem_append.1 h with h | h
  ·exact zsz hr (by omega) r h
  have:=(zmi (o:=(zew p i).1) (row:=row) (qR _)).1
  have h2:=hr row hm
  simp only[List.mem_singleton]at h
  rw [h]; omega
theorem Sm.names {p:List Txt} (h:Sm p):Sm (names p):=by
 rw [← zwd]
 exact ⟨by rw [(zp2 h.2 (qR _)).1]; exact h.1,zsz h.2 (qR _)⟩
def z7l (p:List Txt) (r:Nat):Bool:=decide (zdx p r=zdf p r*zdd p r)
theorem zpo {p:List Txt} (h:zb3 p=false∨decide (names p=p)=false∨9<zbo p):zaz p=false:=by
 unfold zaz
 rcases h with h | h | h
 ·simp [h]
 ·rw [h]; simp
 have:decide (zbo p≤9)=false:=by simp; omega
 rw [this]; simp
theorem z2f {p:List Txt} (h1:zb3 p=true) (h2:decide (names p=p)=true) (h3:zbo p≤9) {R:Nat} (hR:zbo p=R):zaz p=(List.range R).all (z7l p):=by
 have h4:decide (zbo p≤9)=true:=by simpa using h3
 unfold zaz
 rw [h1,h2,h4,hR]
 rfl
def yek (cs:List UInt8) (cx:UInt8) (y:Nat):Bool:=(cs.take y).all fun z=>decide (cx≠z)
def yej (cs:List UInt8) (x:Nat):Bool :=
 match cs[x]? with
 | some cx=>yek cs cx x
 | none=>false
def zqa (cs:List UInt8):Nat→Int
 | 0=>0
 | x+1=>zqa cs x+if yej cs x then 1 else 0
theorem zwm (cs:List UInt8):∀ x,0≤zqa cs x∧zqa cs x≤x
 | 0=>by simp [zqa]
 | x+1=>by have:=zwm cs x; unfold zqa; split <;> omega
def zva (p:List Txt) (i k:Nat):Int :=
 match p[i - 1]?,p[i]? with
 | some r1,some r2 =>
  match r1[k - 1]?,r1[k]?,r2[k - 1]?,r2[k]? with
  | some a,some b,some c,some d=>zqa [a,b,c,d] 4
  | _,_,_,_=>0
 | _,_=>0
def zk3 (p:List Txt) (many:Int) (i:Nat):Nat→Int
 | 0=>0
 | k+1=>zk3 p many i k+if 1≤k∧zva p i k=many then 1 else 0
def zx7 (p:List Txt) (many:Int) (w:Nat):Nat→Int
 | 0=>0
 | i+1=>zx7 p many w i+if 1≤i then zk3 p many i w else 0
theorem zhq (p:List Txt) (many:Int) (i:Nat):∀ k,0≤zk3 p many i k∧zk3 p many i k≤k
 | 0=>by simp [zk3]
 | k+1=>by have:=zhq p many i k; unfold zk3; split <;> omega
def points (p:List Txt) (many:Int):Int:=zx7 p many (zal p).length p.length
def zhp (p:List Txt):Bool:=zaz p && decide (points p 4=0)
theorem zd3 {p:List Txt} (h:zb3 p=true) {i:Nat} {row:Txt} (hr:p[i]?=some row):row.length=(zal p).length:=by
 unfold zb3 at h
 simp only[qB,decide_eq_true_eq,List.all_eq_true]at h
 have:=h.1.1 row (List.mem_of_getElem? hr)
 simp only[zr5,qB,decide_eq_true_eq]at this
 omega
theorem zb8 {p:List Txt} (h:zaz p=true):zb3 p=true:=by
 unfold zaz at h; simp only[qB]at h; exact h.1.1.1
theorem zfn {p:List Txt} (h:zb3 p=true) {i:Nat} {row:Txt} (hr:p[i]?=some row):1≤row.length:=by
 unfold zb3 at h
 simp only[qB,decide_eq_true_eq,List.all_eq_true]at h
 have:=h.1.1 row (List.mem_of_getElem? hr)
 simp only[zr5,qB,decide_eq_true_eq]at this
 omega
def zoi (p:List Txt) (k i:Nat):Txt:=(p.take i).map fun row=>row.getD k 0
def zku (p:List Txt) (k:Nat):List Txt:=(List.range k).map fun j=>zoi p j p.length
def zck (p:List Txt):List Txt:=zku p (zal p).length
theorem z27 {p:List Txt} {k i:Nat} {row:Txt} {c:UInt8} (h:p[i]?=some row) (hc:row[k]?=some c):zoi p k (i+1)=zoi p k i++[c]:=by
 simp [zoi,tk h,List.getD_eq_getElem?_getD,hc]
theorem zii {p:List Txt} {k i:Nat} (h:i≤p.length):(zoi p k i).length=i:=by simp [zoi]; omega
theorem zzf {p:List Txt} {k:Nat}:zku p (k+1)=zku p k++[zoi p k p.length]:=by simp [zku,qS]
theorem zj5 {p:List Txt} {k:Nat}:(zku p k).length=k:=by simp [zku]
def zx8 (l:List Int) (x:Int):List Int:=if l.getLast?=some x then l else l++[x]
def zah (p:List Txt) (i k:Nat):Int:=(((p[i]?.getD [])[k]?.getD 0).toNat:Int) - 97
theorem zcx {p:List Txt} {i k:Nat} {row:Txt} {c:UInt8} (h:p[i]?=some row) (hc:row[k]?=some c):zah p i k=(c.toNat:Int) - 97:=by
 simp [zah,h,hc]
def z71 (p:List Txt) (kind line fr:Nat):Nat→List Int × List Int
 | 0=>([],[])
 | n+1 =>
  let s:=z71 p kind line fr n
  if kind=0 then (zx8 s.1 (zah p (fr+n) (line - 1)),zx8 s.2 (zah p (fr+n) line))
  else (zx8 s.1 (zah p (line - 1) (fr+n)),zx8 s.2 (zah p line (fr+n)))
def zjb (p:List Txt) (k i:Nat):Bool:=decide (i<p.length) && decide (zah p i (k - 1)≠zah p i k)
def ze0 (wall:Bool) (k i:Nat) (s:Int × List (List Int)):Int × List (List Int) :=
 let f:=if wall && decide (s.1<0) then (i:Int) else s.1
 if !wall && decide (0≤f) then (-1,s.2++[[(k:Int),f,i - f]]) else (f,s.2)
def zev (p:List Txt) (k:Nat) (s0:List (List Int)):Nat→Int × List (List Int)
 | 0=>(-1,s0)
 | i+1=>ze0 (zjb p k i) k i (zev p k s0 i)
def zcl (p:List Txt):Nat→List (List Int)
 | 0=>[]
 | k+1=>if 1≤k then (zev p k (zcl p k) (p.length+1)).2 else zcl p k
def uprights (p:List Txt):List (List Int):=zcl p (zal p).length
theorem z4j {w:Bool} {k i:Nat} {s:Int × List (List Int)}:(ze0 w k i s).2.length≤s.2.length+1:=by
 unfold ze0; simp only; repeat' split
 all_goals simp
theorem zv3 (p:List Txt) (k:Nat) (s0:List (List Int)):∀ i,(zev p k s0 i).2.length≤s0.length+i
 | 0=>qR _
 | i+1=>by have:=zv3 p k s0 i; have h:=z4j (w:=zjb p k i) (k:=k) (i:=i) (s:=zev p k s0 i); unfold zev; omega
theorem zmr (p:List Txt):∀ k,(zcl p k).length≤(p.length+1)*k
 | 0=>qR _
 | k+1=>by
  have:=zmr p k
  have h:=zv3 p k (zcl p k) (p.length+1)
  unfold zcl
  rw [Nat.mul_succ]
  split <;> omega
theorem zuj {p:List Txt} {k:Nat} (h:1≤k):zcl p (k+1)=(zev p k (zcl p k) (p.length+1)).2:=by rw [zcl,if_pos h]
theorem zui (p:List Txt) (k:Nat) (s0:List (List Int)):∀ i,-1≤(zev p k s0 i).1∧(zev p k s0 i).1≤i
 | 0=>by simp [zev]
 | i+1=>by
  have:=zui p k s0 i
  unfold zev ze0
  simp only
  repeat' split
  all_goals simp only[Int.natCast_add,Int.natCast_one]
  all_goals omega
theorem ydo {a b:UInt8}:(a=b)=((a.toNat:Int)=b.toNat):=by
 apply propext; constructor
 ·rintro rfl; rfl
 intro h; exact UInt8.toNat_inj.1 (by omega)
theorem zur {a b:Int}:(a != b) = !decide (a=b):=by by_cases h:a=b <;> simp [h]
theorem ztw {S:Store} {k:Nat} (l:List (List Int)):(l.map eInts).mapM (reify S true (k+1))=some (l.map eInts) :=
 zb6 fun x hx=>by obtain ⟨a,_,rfl⟩:=List.mem_map.1 hx; simp [eInts,reify]
def ydg:List (Nat × TI):=[
 (1,⟨.func,1,8,[.nilf]⟩),
 (2,⟨.int .i64,1,8,[.int .i64 0]⟩),
 (3,⟨.int .i64,1,8,[.int .i64 0]⟩),
 (4,⟨.bool,1,1,[.bool false]⟩),
 (5,⟨.int .u8,1,1,[.int .u8 0]⟩),
 (6,⟨.int .u8,1,1,[.int .u8 0]⟩),
 (7,⟨.struct [(0,2),(1,3),(2,4),(3,6)],4,24,[.int .i64 0,.int .i64 0,.bool false,.int .u8 0]⟩),
 (8,⟨.struct [(0,2),(1,3),(2,4),(3,6)],4,24,[.int .i64 0,.int .i64 0,.bool false,.int .u8 0]⟩),
 (9,⟨.str,1,16,[.str []]⟩),
 (10,⟨.str,1,16,[.str []]⟩),
 (11,⟨.str,1,16,[.str []]⟩),
 (12,⟨.int .u64,1,8,[.int .u64 0]⟩),
 (13,⟨.struct [(0,9),(1,12)],2,24,[.str [],.int .u64 0]⟩),
 (14,⟨.struct [(0,9),(1,12)],2,24,[.str [],.int .u64 0]⟩),
 (15,⟨.ptr 338,1,8,[.nilp]⟩),
 (16,⟨.ptr 341,1,8,[.nilp]⟩),
 (17,⟨.ptr 348,1,8,[.nilp]⟩),
 (18,⟨.struct [(0,17)],1,8,[.nilp]⟩),
 (19,⟨.struct [(0,17)],1,8,[.nilp]⟩),
 (21,⟨.int .i32,1,4,[.int .i32 0]⟩),
 (22,⟨.slice 5,1,24,[.nils]⟩),
 (23,⟨.slice 9,1,24,[.nils]⟩),
 (24,⟨.func,1,8,[.nilf]⟩),
 (26,⟨.func,1,8,[.nilf]⟩),
 (28,⟨.func,1,8,[.nilf]⟩),
 (29,⟨.func,1,8,[.nilf]⟩),
 (30,⟨.func,1,8,[.nilf]⟩),
 (31,⟨.func,1,8,[.nilf]⟩),
 (32,⟨.func,1,8,[.nilf]⟩),
 (33,⟨.ptr 47,1,8,[.nilp]⟩),
 (35,⟨.func,1,8,[.nilf]⟩),
 (36,⟨.struct [(0,3),(1,3),(2,3),(3,3)],4,32,[.int .i64 0,.int .i64 0,.int .i64 0,.int .i64 0]⟩),
 (37,⟨.struct [(0,3),(1,3),(2,3),(3,3)],4,32,[.int .i64 0,.int .i64 0,.int .i64 0,.int .i64 0]⟩),
 (38,⟨.struct [(0,33),(1,37)],5,40,[.nilp,.int .i64 0,.int .i64 0,.int .i64 0,.int .i64 0]⟩),
 (39,⟨.struct [(0,33),(1,37)],5,40,[.nilp,.int .i64 0,.int .i64 0,.int .i64 0,.int .i64 0]⟩),
 (40,⟨.func,1,8,[.nilf]⟩),
 (41,⟨.func,1,8,[.nilf]⟩),
 (42,⟨.func,1,8,[.nilf]⟩),
 (43,⟨.slice 70,1,24,[.nils]⟩),
 (44,⟨.slice 70,1,24,[.nils]⟩),
 (45,⟨.slice 37,1,24,[.nils]⟩),
 (46,⟨.struct [(0,44),(1,45)],2,48,[.nils,.nils]⟩),
 (47,⟨.struct [(0,44),(1,45)],2,48,[.nils,.nils]⟩),
 (48,⟨.ptr 50,1,8,[.nilp]⟩),
 (49,⟨.struct [(0,23),(1,23)],2,48,[.nils,.nils]⟩),
 (50,⟨.struct [(0,23),(1,23)],2,48,[.nils,.nils]⟩),
 (51,⟨.map 9 60,1,8,[.nilm]⟩),
 (53,⟨.func,1,8,[.nilf]⟩),
 (54,⟨.ptr 56,1,8,[.nilp]⟩),
 (55,⟨.struct [(0,54),(1,22)],2,32,[.nilp,.nils]⟩),
 (56,⟨.struct [(0,54),(1,22)],2,32,[.nilp,.nils]⟩),
 (58,⟨.func,1,8,[.nilf]⟩),
 (59,⟨.func,1,8,[.nilf]⟩),
 (60,⟨.func,1,8,[.nilf]⟩),
 (65,⟨.func,1,8,[.nilf]⟩),
 (66,⟨.func,1,8,[.nilf]⟩),
 (68,⟨.func,1,8,[.nilf]⟩),
 (69,⟨.func,1,8,[.nilf]⟩),
 (70,⟨.slice 3,1,24,[.nils]⟩),
 (71,⟨.func,1,8,[.nilf]⟩),
 (73,⟨.func,1,8,[.nilf]⟩),
 (74,⟨.func,1,8,[.nilf]⟩),
 (75,⟨.ptr 135,1,8,[.nilp]⟩),
 (76,⟨.func,1,8,[.nilf]⟩),
 (77,⟨.func,1,8,[.nilf]⟩),
 (78,⟨.func,1,8,[.nilf]⟩),
 (79,⟨.func,1,8,[.nilf]⟩),
 (80,⟨.func,1,8,[.nilf]⟩),
 (81,⟨.struct [(0,4),(1,39),(6,39)],11,88,[.bool false,.nilp,.int .i64 0,.int .i64 0,.int .i64 0,.int .i64 0,.nilp,.int .i64 0,.int .i64 0,.int .i64 0,.int .i64 0]⟩),
 (82,⟨.struct [(0,4),(1,39),(6,39)],11,88,[.bool false,.nilp,.int .i64 0,.int .i64 0,.int .i64 0,.int .i64 0,.nilp,.int .i64 0,.int .i64 0,.int .i64 0,.int .i64 0]⟩),
 (83,⟨.func,1,8,[.nilf]⟩),
 (84,⟨.func,1,8,[.nilf]⟩),
 (85,⟨.func,1,8,[.nilf]⟩),
 (87,⟨.func,1,8,[.nilf]⟩),
 (88,⟨.func,1,8,[.nilf]⟩),
 (90,⟨.func,1,8,[.nilf]⟩),
 (92,⟨.func,1,8,[.nilf]⟩),
 (93,⟨.func,1,8,[.nilf]⟩),
 (94,⟨.func,1,8,[.nilf]⟩),
 (95,⟨.func,1,8,[.nilf]⟩),
 (97,⟨.func,1,8,[.nilf]⟩),
 (98,⟨.func,1,8,[.nilf]⟩),
 (99,⟨.func,1,8,[.nilf]⟩),
 (100,⟨.func,1,8,[.nilf]⟩),
 (102,⟨.func,1,8,[.nilf]⟩),
 (103,⟨.func,1,8,[.nilf]⟩),
 (104,⟨.func,1,8,[.nilf]⟩),
 (105,⟨.func,1,8,[.nilf]⟩),
 (106,⟨.func,1,8,[.nilf]⟩),
 (107,⟨.func,1,8,[.nilf]⟩),
 (108,⟨.func,1,8,[.nilf]⟩),
 (109,⟨.func,1,8,[.nilf]⟩),
 (110,⟨.func,1,8,[.nilf]⟩),
 (111,⟨.func,1,8,[.nilf]⟩),
 (113,⟨.func,1,8,[.nilf]⟩),
 (114,⟨.func,1,8,[.nilf]⟩),
 (116,⟨.func,1,8,[.nilf]⟩),
 (117,⟨.func,1,8,[.nilf]⟩),
 (118,⟨.func,1,8,[.nilf]⟩),
 (119,⟨.func,1,8,[.nilf]⟩),
 (120,⟨.func,1,8,[.nilf]⟩),
 (121,⟨.func,1,8,[.nilf]⟩),
 (122,⟨.func,1,8,[.nilf]⟩),
 (123,⟨.func,1,8,[.nilf]⟩),
 (124,⟨.func,1,8,[.nilf]⟩),
 (125,⟨.func,1,8,[.nilf]⟩),
 (126,⟨.func,1,8,[.nilf]⟩),
 (127,⟨.ptr 5,1,8,[.nilp]⟩),
 (128,⟨.func,1,8,[.nilf]⟩),
 (129,⟨.func,1,8,[.nilf]⟩),
 (131,⟨.func,1,8,[.nilf]⟩),
 (132,⟨.func,1,8,[.nilf]⟩),
 (133,⟨.func,1,8,[.nilf]⟩),
 (134,⟨.struct [(0,22),(1,3)],2,32,[.nils,.int .i64 0]⟩),
 (135,⟨.struct [(0,22),(1,3)],2,32,[.nils,.int .i64 0]⟩),
 (136,⟨.func,1,8,[.nilf]⟩),
 (137,⟨.func,1,8,[.nilf]⟩),
 (138,⟨.func,1,8,[.nilf]⟩),
 (139,⟨.func,1,8,[.nilf]⟩),
 (140,⟨.func,1,8,[.nilf]⟩),
 (141,⟨.func,1,8,[.nilf]⟩),
 (142,⟨.func,1,8,[.nilf]⟩),
 (143,⟨.func,1,8,[.nilf]⟩),
 (144,⟨.func,1,8,[.nilf]⟩),
 (145,⟨.func,1,8,[.nilf]⟩),
 (146,⟨.func,1,8,[.nilf]⟩),
 (147,⟨.func,1,8,[.nilf]⟩),
 (148,⟨.func,1,8,[.nilf]⟩),
 (149,⟨.func,1,8,[.nilf]⟩),
 (150,⟨.func,1,8,[.nilf]⟩),
 (151,⟨.func,1,8,[.nilf]⟩),
 (152,⟨.func,1,8,[.nilf]⟩),
 (153,⟨.arr 2 3,2,16,[.int .i64 0,.int .i64 0]⟩),
 (154,⟨.slice 157,1,24,[.nils]⟩),
 (155,⟨.func,1,8,[.nilf]⟩),
 (156,⟨.struct [(0,4),(1,3),(2,3),(3,3)],4,32,[.bool false,.int .i64 0,.int .i64 0,.int .i64 0]⟩),
 (157,⟨.struct [(0,4),(1,3),(2,3),(3,3)],4,32,[.bool false,.int .i64 0,.int .i64 0,.int .i64 0]⟩),
 (158,⟨.func,1,8,[.nilf]⟩),
 (159,⟨.func,1,8,[.nilf]⟩),
 (160,⟨.func,1,8,[.nilf]⟩),
 (161,⟨.func,1,8,[.nilf]⟩),
 (162,⟨.func,1,8,[.nilf]⟩),
 (163,⟨.slice 225,1,24,[.nils]⟩),
 (164,⟨.slice 225,1,24,[.nils]⟩),
 (165,⟨.struct [(0,164),(1,164)],2,48,[.nils,.nils]⟩),
 (166,⟨.struct [(0,164),(1,164)],2,48,[.nils,.nils]⟩),
 (168,⟨.func,1,8,[.nilf]⟩),
 (169,⟨.func,1,8,[.nilf]⟩),
 (170,⟨.func,1,8,[.nilf]⟩),
 (171,⟨.ptr 176,1,8,[.nilp]⟩),
 (173,⟨.func,1,8,[.nilf]⟩),
 (174,⟨.slice 171,1,24,[.nils]⟩),
 (175,⟨.struct [(0,5),(1,174)],2,32,[.int .u8 0,.nils]⟩),
 (176,⟨.struct [(0,5),(1,174)],2,32,[.int .u8 0,.nils]⟩),
 (177,⟨.func,1,8,[.nilf]⟩),
 (178,⟨.func,1,8,[.nilf]⟩),
 (179,⟨.func,1,8,[.nilf]⟩),
 (180,⟨.func,1,8,[.nilf]⟩),
 (181,⟨.func,1,8,[.nilf]⟩),
 (182,⟨.func,1,8,[.nilf]⟩),
 (183,⟨.func,1,8,[.nilf]⟩),
 (184,⟨.func,1,8,[.nilf]⟩),
 (185,⟨.func,1,8,[.nilf]⟩),
 (186,⟨.func,1,8,[.nilf]⟩),
 (187,⟨.func,1,8,[.nilf]⟩),
 (188,⟨.func,1,8,[.nilf]⟩),
 (190,⟨.func,1,8,[.nilf]⟩),
 (192,⟨.func,1,8,[.nilf]⟩),
 (193,⟨.func,1,8,[.nilf]⟩),
 (194,⟨.func,1,8,[.nilf]⟩),
 (195,⟨.func,1,8,[.nilf]⟩),
 (196,⟨.func,1,8,[.nilf]⟩),
 (197,⟨.func,1,8,[.nilf]⟩),
 (198,⟨.func,1,8,[.nilf]⟩),
 (199,⟨.func,1,8,[.nilf]⟩),
 (200,⟨.ptr 203,1,8,[.nilp]⟩),
 (201,⟨.arr 13 3,13,104,[.int .i64 0,.int .i64 0,.int .i64 0,.int .i64 0,.int .i64 0,.int .i64 0,.int .i64 0,.int .i64 0,.int .i64 0,.int .i64 0,.int .i64 0,.int .i64 0,.int .i64 0]⟩),
 (202,⟨.arr 13 201,169,1352,[.int .i64 0,.int .i64 0,.int .i64 0,.int .i64 0,.int .i64 0,.int .i64 0,.int .i64 0,.int .i64 0,.int .i64 0,.int .i64 0,.int .i64 0,.int .i64 0,.int .i64 0,.int .i64 0,.int .i64 0,.int .i64 0,.int .i64 0,.int .i64 0,.int .i64 0,.int .i64 0,.int .i64 0,.int .i64 0,.int .i64 0,.int .i64 0,.int .i64 0,.int .i64 0,.int .i64 0,.int .i64 0,.int .i64 0,.int .i64 0,.int .i64 0,.int .i64 0,.int .i64 0,.int .i64 0,.int .i64 0,.int .i64 0,.int .i64 0,.int .i64 0,.int .i64 0,.int .i64 0,.int .i64 0,.int .i64 0,.int .i64 0,.int .i64 0,.int .i64 0,.int .i64 0,.int .i64 0,.int .i64 0,.int .i64 0,.int .i64 0,.int .i64 0,.int .i64 0,.int .i64 0,.int .i64 0,.int .i64 0,.int .i64 0,.int .i64 0,.int .i64 0,.int .i64 0,.int .i64 0,.int .i64 0,.int .i64 0,.int .i64 0,.int .i64 0,.int .i64 0,.int .i64 0,.int .i64 0,.int .i64 0,.int .i64 0,.int .i64 0,.int .i64 0,.int .i64 0,.int .i64 0,.int .i64 0,.int .i64 0,.int .i64 0,.int .i64 0,.int .i64 0,.int .i64 0,.int .i64 0,.int .i64 0,.int .i64 0,.int .i64 0,.int .i64 0,.int .i64 0,.int .i64 0,.int .i64 0,.int .i64 0,.int .i64 0,.int .i64 0,.int .i64 0,.int .i64 0,.int .i64 0,.int .i64 0,.int .i64 0,.int .i64 0,.int .i64 0,.int .i64 0,.int .i64 0,.int .i64 0,.int .i64 0,.int .i64 0,.int .i64 0,.int .i64 0,.int .i64 0,.int .i64 0,.int .i64 0,.int .i64 0,.int .i64 0,.int .i64 0,.int .i64 0,.int .i64 0,.int .i64 0,.int .i64 0,.int .i64 0,.int .i64 0,.int .i64 0,.int .i64 0,.int .i64 0,.int .i64 0,.int .i64 0,.int .i64 0,.int .i64 0,.int .i64 0,.int .i64 0,.int .i64 0,.int .i64 0,.int .i64 0,.int .i64 0,.int .i64 0,.int .i64 0,.int .i64 0,.int .i64 0,.int .i64 0,.int .i64 0,.int .i64 0,.int .i64 0,.int .i64 0,.int .i64 0,.int .i64 0,.int .i64 0,.int .i64 0,.int .i64 0,.int .i64 0,.int .i64 0,.int .i64 0,.int .i64 0,.int .i64 0,.int .i64 0,.int .i64 0,.int .i64 0,.int .i64 0,.int .i64 0,.int .i64 0,.int .i64 0,.int .i64 0,.int .i64 0,.int .i64 0,.int .i64 0,.int .i64 0,.int .i64 0,.int .i64 0,.int .i64 0,.int .i64 0,.int .i64 0,.int .i64 0,.int .i64 0,.int .i64 0,.int .i64 0]⟩),
 (203,⟨.arr 13 201,169,1352,[.int .i64 0,.int .i64 0,.int .i64 0,.int .i64 0,.int .i64 0,.int .i64 0,.int .i64 0,.int .i64 0,.int .i64 0,.int .i64 0,.int .i64 0,.int .i64 0,.int .i64 0,.int .i64 0,.int .i64 0,.int .i64 0,.int .i64 0,.int .i64 0,.int .i64 0,.int .i64 0,.int .i64 0,.int .i64 0,.int .i64 0,.int .i64 0,.int .i64 0,.int .i64 0,.int .i64 0,.int .i64 0,.int .i64 0,.int .i64 0,.int .i64 0,.int .i64 0,.int .i64 0,.int .i64 0,.int .i64 0,.int .i64 0,.int .i64 0,.int .i64 0,.int .i64 0,.int .i64 0,.int .i64 0,.int .i64 0,.int .i64 0,.int .i64 0,.int .i64 0,.int .i64 0,.int .i64 0,.int .i64 0,.int .i64 0,.int .i64 0,.int .i64 0,.int .i64 0,.int .i64 0,.int .i64 0,.int .i64 0,.int .i64 0,.int .i64 0,.int .i64 0,.int .i64 0,.int .i64 0,.int .i64 0,.int .i64 0,.int .i64 0,.int .i64 0,.int .i64 0,.int .i64 0,.int .i64 0,.int .i64 0,.int .i64 0,.int .i64 0,.int .i64 0,.int .i64 0,.int .i64 0,.int .i64 0,.int .i64 0,.int .i64 0,.int .i64 0,.int .i64 0,.int .i64 0,.int .i64 0,.int .i64 0,.int .i64 0,.int .i64 0,.int .i64 0,.int .i64 0,.int .i64 0,.int .i64 0,.int .i64 0,.int .i64 0,.int .i64 0,.int .i64 0,.int .i64 0,.int .i64 0,.int .i64 0,.int .i64 0,.int .i64 0,.int .i64 0,.int .i64 0,.int .i64 0,.int .i64 0,.int .i64 0,.int .i64 0,.int .i64 0,.int .i64 0,.int .i64 0,.int .i64 0,.int .i64 0,.int .i64 0,.int .i64 0,.int .i64 0,.int .i64 0,.int .i64 0,.int .i64 0,.int .i64 0,.int .i64 0,.int .i64 0,.int .i64 0,.int .i64 0,.int .i64 0,.int .i64 0,.int .i64 0,.int .i64 0,.int .i64 0,.int .i64 0,.int .i64 0,.int .i64 0,.int .i64 0,.int .i64 0,.int .i64 0,.int .i64 0,.int .i64 0,.int .i64 0,.int .i64 0,.int .i64 0,.int .i64 0,.int .i64 0,.int .i64 0,.int .i64 0,.int .i64 0,.int .i64 0,.int .i64 0,.int .i64 0,.int .i64 0,.int .i64 0,.int .i64 0,.int .i64 0,.int .i64 0,.int .i64 0,.int .i64 0,.int .i64 0,.int .i64 0,.int .i64 0,.int .i64 0,.int .i64 0,.int .i64 0,.int .i64 0,.int .i64 0,.int .i64 0,.int .i64 0,.int .i64 0,.int .i64 0,.int .i64 0,.int .i64 0,.int .i64 0,.int .i64 0,.int .i64 0,.int .i64 0,.int .i64 0,.int .i64 0]⟩),
 (204,⟨.func,1,8,[.nilf]⟩),
 (205,⟨.func,1,8,[.nilf]⟩),
 (206,⟨.func,1,8,[.nilf]⟩),
 (207,⟨.func,1,8,[.nilf]⟩),
 (208,⟨.arr 4 3,4,32,[.int .i64 0,.int .i64 0,.int .i64 0,.int .i64 0]⟩),
 (209,⟨.func,1,8,[.nilf]⟩),
 (210,⟨.func,1,8,[.nilf]⟩),
 (211,⟨.func,1,8,[.nilf]⟩),
 (212,⟨.func,1,8,[.nilf]⟩),
 (213,⟨.func,1,8,[.nilf]⟩),
 (215,⟨.func,1,8,[.nilf]⟩),
 (216,⟨.func,1,8,[.nilf]⟩),
 (217,⟨.func,1,8,[.nilf]⟩),
 (218,⟨.func,1,8,[.nilf]⟩),
 (219,⟨.func,1,8,[.nilf]⟩),
 (220,⟨.func,1,8,[.nilf]⟩),
 (221,⟨.func,1,8,[.nilf]⟩),
 (222,⟨.map 3 3,1,8,[.nilm]⟩),
 (223,⟨.func,1,8,[.nilf]⟩),
 (224,⟨.func,1,8,[.nilf]⟩),
 (225,⟨.slice 4,1,24,[.nils]⟩),
 (226,⟨.func,1,8,[.nilf]⟩),
 (227,⟨.func,1,8,[.nilf]⟩),
 (228,⟨.func,1,8,[.nilf]⟩),
 (229,⟨.func,1,8,[.nilf]⟩),
 (230,⟨.func,1,8,[.nilf]⟩),
 (231,⟨.func,1,8,[.nilf]⟩),
 (232,⟨.func,1,8,[.nilf]⟩),
 (233,⟨.func,1,8,[.nilf]⟩),
 (234,⟨.ptr 236,1,8,[.nilp]⟩),
 (235,⟨.struct [(0,9)],1,16,[.str []]⟩),
 (236,⟨.struct [(0,9)],1,16,[.str []]⟩),
 (237,⟨.slice 33,1,24,[.nils]⟩),
 (238,⟨.func,1,8,[.nilf]⟩),
 (239,⟨.func,1,8,[.nilf]⟩),
 (240,⟨.func,1,8,[.nilf]⟩),
 (241,⟨.func,1,8,[.nilf]⟩),
 (242,⟨.func,1,8,[.nilf]⟩),
 (243,⟨.func,1,8,[.nilf]⟩),
 (244,⟨.func,1,8,[.nilf]⟩),
 (245,⟨.func,1,8,[.nilf]⟩),
 (246,⟨.int .u64,1,8,[.int .u64 0]⟩),
 (247,⟨.arr 24 5,24,24,[.int .u8 0,.int .u8 0,.int .u8 0,.int .u8 0,.int .u8 0,.int .u8 0,.int .u8 0,.int .u8 0,.int .u8 0,.int .u8 0,.int .u8 0,.int .u8 0,.int .u8 0,.int .u8 0,.int .u8 0,.int .u8 0,.int .u8 0,.int .u8 0,.int .u8 0,.int .u8 0,.int .u8 0,.int .u8 0,.int .u8 0,.int .u8 0]⟩),
 (248,⟨.int .u64,1,8,[.int .u64 0]⟩),
 (249,⟨.func,1,8,[.nilf]⟩),
 (250,⟨.func,1,8,[.nilf]⟩),
 (252,⟨.func,1,8,[.nilf]⟩),
 (253,⟨.func,1,8,[.nilf]⟩),
 (254,⟨.func,1,8,[.nilf]⟩),
 (255,⟨.func,1,8,[.nilf]⟩),
 (256,⟨.func,1,8,[.nilf]⟩),
 (258,⟨.func,1,8,[.nilf]⟩),
 (259,⟨.func,1,8,[.nilf]⟩),
 (260,⟨.func,1,8,[.nilf]⟩),
 (261,⟨.func,1,8,[.nilf]⟩),
 (263,⟨.func,1,8,[.nilf]⟩),
 (264,⟨.func,1,8,[.nilf]⟩),
 (265,⟨.func,1,8,[.nilf]⟩),
 (266,⟨.func,1,8,[.nilf]⟩),
 (267,⟨.arr 256 4,256,256,[.bool false,.bool false,.bool false,.bool false,.bool false,.bool false,.bool false,.bool false,.bool false,.bool false,.bool false,.bool false,.bool false,.bool false,.bool false,.bool false,.bool false,.bool false,.bool false,.bool false,.bool false,.bool false,.bool false,.bool false,.bool false,.bool false,.bool false,.bool false,.bool false,.bool false,.bool false,.bool false,.bool false,.bool false,.bool false,.bool false,.bool false,.bool false,.bool false,.bool false,.bool false,.bool false,.bool false,.bool false,.bool false,.bool false,.bool false,.bool false,.bool false,.bool false,.bool false,.bool false,.bool false,.bool false,.bool false,.bool false,.bool false,.bool false,.bool false,.bool false,.bool false,.bool false,.bool false,.bool false,.bool false,.bool false,.bool false,.bool false,.bool false,.bool false,.bool false,.bool false,.bool false,.bool false,.bool false,.bool false,.bool false,.bool false,.bool false,.bool false,.bool false,.bool false,.bool false,.bool false,.bool false,.bool false,.bool false,.bool false,.bool false,.bool false,.bool false,.bool false,.bool false,.bool false,.bool false,.bool false,.bool false,.bool false,.bool false,.bool false,.bool false,.bool false,.bool false,.bool false,.bool false,.bool false,.bool false,.bool false,.bool false,.bool false,.bool false,.bool false,.bool false,.bool false,.bool false,.bool false,.bool false,.bool false,.bool false,.bool false,.bool false,.bool false,.bool false,.bool false,.bool false,.bool false,.bool false,.bool false,.bool false,.bool false,.bool false,.bool false,.bool false,.bool false,.bool false,.bool false,.bool false,.bool false,.bool false,.bool false,.bool false,.bool false,.bool false,.bool false,.bool false,.bool false,.bool false,.bool false,.bool false,.bool false,.bool false,.bool false,.bool false,.bool false,.bool false,.bool false,.bool false,.bool false,.bool false,.bool false,.bool false,.bool false,.bool false,.bool false,.bool false,.bool false,.bool false,.bool false,.bool false,.bool false,.bool false,.bool false,.bool false,.bool false,.bool false,.bool false,.bool false,.bool false,.bool false,.bool false,.bool false,.bool false,.bool false,.bool false,.bool false,.bool false,.bool false,.bool false,.bool false,.bool false,.bool false,.bool false,.bool false,.bool false,.bool false,.bool false,.bool false,.bool false,.bool false,.bool false,.bool false,.bool false,.bool false,.bool false,.bool false,.bool false,.bool false,.bool false,.bool false,.bool false,.bool false,.bool false,.bool false,.bool false,.bool false,.bool false,.bool false,.bool false,.bool false,.bool false,.bool false,.bool false,.bool false,.bool false,.bool false,.bool false,.bool false,.bool false,.bool false,.bool false,.bool false,.bool false,.bool false,.bool false,.bool false,.bool false,.bool false,.bool false,.bool false,.bool false,.bool false,.bool false,.bool false,.bool false,.bool false,.bool false,.bool false,.bool false,.bool false,.bool false,.bool false,.bool false,.bool false,.bool false,.bool false,.bool false]⟩),
 (268,⟨.arr 256 4,256,256,[.bool false,.bool false,.bool false,.bool false,.bool false,.bool false,.bool false,.bool false,.bool false,.bool false,.bool false,.bool false,.bool false,.bool false,.bool false,.bool false,.bool false,.bool false,.bool false,.bool false,.bool false,.bool false,.bool false,.bool false,.bool false,.bool false,.bool false,.bool false,.bool false,.bool false,.bool false,.bool false,.bool false,.bool false,.bool false,.bool false,.bool false,.bool false,.bool false,.bool false,.bool false,.bool false,.bool false,.bool false,.bool false,.bool false,.bool false,.bool false,.bool false,.bool false,.bool false,.bool false,.bool false,.bool false,.bool false,.bool false,.bool false,.bool false,.bool false,.bool false,.bool false,.bool false,.bool false,.bool false,.bool false,.bool false,.bool false,.bool false,.bool false,.bool false,.bool false,.bool false,.bool false,.bool false,.bool false,.bool false,.bool false,.bool false,.bool false,.bool false,.bool false,.bool false,.bool false,.bool false,.bool false,.bool false,.bool false,.bool false,.bool false,.bool false,.bool false,.bool false,.bool false,.bool false,.bool false,.bool false,.bool false,.bool false,.bool false,.bool false,.bool false,.bool false,.bool false,.bool false,.bool false,.bool false,.bool false,.bool false,.bool false,.bool false,.bool false,.bool false,.bool false,.bool false,.bool false,.bool false,.bool false,.bool false,.bool false,.bool false,.bool false,.bool false,.bool false,.bool false,.bool false,.bool false,.bool false,.bool false,.bool false,.bool false,.bool false,.bool false,.bool false,.bool false,.bool false,.bool false,.bool false,.bool false,.bool false,.bool false,.bool false,.bool false,.bool false,.bool false,.bool false,.bool false,.bool false,.bool false,.bool false,.bool false,.bool false,.bool false,.bool false,.bool false,.bool false,.bool false,.bool false,.bool false,.bool false,.bool false,.bool false,.bool false,.bool false,.bool false,.bool false,.bool false,.bool false,.bool false,.bool false,.bool false,.bool false,.bool false,.bool false,.bool false,.bool false,.bool false,.bool false,.bool false,.bool false,.bool false,.bool false,.bool false,.bool false,.bool false,.bool false,.bool false,.bool false,.bool false,.bool false,.bool false,.bool false,.bool false,.bool false,.bool false,.bool false,.bool false,.bool false,.bool false,.bool false,.bool false,.bool false,.bool false,.bool false,.bool false,.bool false,.bool false,.bool false,.bool false,.bool false,.bool false,.bool false,.bool false,.bool false,.bool false,.bool false,.bool false,.bool false,.bool false,.bool false,.bool false,.bool false,.bool false,.bool false,.bool false,.bool false,.bool false,.bool false,.bool false,.bool false,.bool false,.bool false,.bool false,.bool false,.bool false,.bool false,.bool false,.bool false,.bool false,.bool false,.bool false,.bool false,.bool false,.bool false,.bool false,.bool false,.bool false,.bool false,.bool false,.bool false,.bool false,.bool false,.bool false,.bool false,.bool false,.bool false,.bool false]⟩),
 (270,⟨.func,1,8,[.nilf]⟩),
 (271,⟨.func,1,8,[.nilf]⟩),
 (272,⟨.ptr 268,1,8,[.nilp]⟩),
 (273,⟨.func,1,8,[.nilf]⟩),
 (274,⟨.int .u32,1,4,[.int .u32 0]⟩),
 (276,⟨.func,1,8,[.nilf]⟩),
 (277,⟨.func,1,8,[.nilf]⟩),
 (278,⟨.arr 20 248,20,160,[.int .u64 0,.int .u64 0,.int .u64 0,.int .u64 0,.int .u64 0,.int .u64 0,.int .u64 0,.int .u64 0,.int .u64 0,.int .u64 0,.int .u64 0,.int .u64 0,.int .u64 0,.int .u64 0,.int .u64 0,.int .u64 0,.int .u64 0,.int .u64 0,.int .u64 0,.int .u64 0]⟩),
 (279,⟨.arr 65 5,65,65,[.int .u8 0,.int .u8 0,.int .u8 0,.int .u8 0,.int .u8 0,.int .u8 0,.int .u8 0,.int .u8 0,.int .u8 0,.int .u8 0,.int .u8 0,.int .u8 0,.int .u8 0,.int .u8 0,.int .u8 0,.int .u8 0,.int .u8 0,.int .u8 0,.int .u8 0,.int .u8 0,.int .u8 0,.int .u8 0,.int .u8 0,.int .u8 0,.int .u8 0,.int .u8 0,.int .u8 0,.int .u8 0,.int .u8 0,.int .u8 0,.int .u8 0,.int .u8 0,.int .u8 0,.int .u8 0,.int .u8 0,.int .u8 0,.int .u8 0,.int .u8 0,.int .u8 0,.int .u8 0,.int .u8 0,.int .u8 0,.int .u8 0,.int .u8 0,.int .u8 0,.int .u8 0,.int .u8 0,.int .u8 0,.int .u8 0,.int .u8 0,.int .u8 0,.int .u8 0,.int .u8 0,.int .u8 0,.int .u8 0,.int .u8 0,.int .u8 0,.int .u8 0,.int .u8 0,.int .u8 0,.int .u8 0,.int .u8 0,.int .u8 0,.int .u8 0,.int .u8 0]⟩),
 (280,⟨.func,1,8,[.nilf]⟩),
 (281,⟨.func,1,8,[.nilf]⟩),
 (282,⟨.func,1,8,[.nilf]⟩),
 (283,⟨.func,1,8,[.nilf]⟩),
 (284,⟨.int .i64,1,8,[.int .i64 0]⟩),
 (286,⟨.func,1,8,[.nilf]⟩),
 (287,⟨.func,1,8,[.nilf]⟩),
 (288,⟨.func,1,8,[.nilf]⟩),
 (289,⟨.func,1,8,[.nilf]⟩),
 (290,⟨.func,1,8,[.nilf]⟩),
 (291,⟨.func,1,8,[.nilf]⟩),
 (293,⟨.func,1,8,[.nilf]⟩),
 (294,⟨.func,1,8,[.nilf]⟩),
 (295,⟨.func,1,8,[.nilf]⟩),
 (296,⟨.func,1,8,[.nilf]⟩),
 (297,⟨.func,1,8,[.nilf]⟩),
 (298,⟨.func,1,8,[.nilf]⟩),
 (299,⟨.func,1,8,[.nilf]⟩),
 (300,⟨.func,1,8,[.nilf]⟩),
 (301,⟨.int .i64,1,8,[.int .i64 0]⟩),
 (303,⟨.func,1,8,[.nilf]⟩),
 (304,⟨.ptr 323,1,8,[.nilp]⟩),
 (305,⟨.func,1,8,[.nilf]⟩),
 (306,⟨.func,1,8,[.nilf]⟩),
 (307,⟨.int .u64,1,8,[.int .u64 0]⟩),
 (308,⟨.func,1,8,[.nilf]⟩),
 (309,⟨.func,1,8,[.nilf]⟩),
 (310,⟨.func,1,8,[.nilf]⟩),
 (311,⟨.ptr 3,1,8,[.nilp]⟩),
 (312,⟨.func,1,8,[.nilf]⟩),
 (313,⟨.func,1,8,[.nilf]⟩),
 (314,⟨.func,1,8,[.nilf]⟩),
 (315,⟨.arr 256 5,256,256,[.int .u8 0,.int .u8 0,.int .u8 0,.int .u8 0,.int .u8 0,.int .u8 0,.int .u8 0,.int .u8 0,.int .u8 0,.int .u8 0,.int .u8 0,.int .u8 0,.int .u8 0,.int .u8 0,.int .u8 0,.int .u8 0,.int .u8 0,.int .u8 0,.int .u8 0,.int .u8 0,.int .u8 0,.int .u8 0,.int .u8 0,.int .u8 0,.int .u8 0,.int .u8 0,.int .u8 0,.int .u8 0,.int .u8 0,.int .u8 0,.int .u8 0,.int .u8 0,.int .u8 0,.int .u8 0,.int .u8 0,.int .u8 0,.int .u8 0,.int .u8 0,.int .u8 0,.int .u8 0,.int .u8 0,.int .u8 0,.int .u8 0,.int .u8 0,.int .u8 0,.int .u8 0,.int .u8 0,.int .u8 0,.int .u8 0,.int .u8 0,.int .u8 0,.int .u8 0,.int .u8 0,.int .u8 0,.int .u8 0,.int .u8 0,.int .u8 0,.int .u8 0,.int .u8 0,.int .u8 0,.int .u8 0,.int .u8 0,.int .u8 0,.int .u8 0,.int .u8 0,.int .u8 0,.int .u8 0,.int .u8 0,.int .u8 0,.int .u8 0,.int .u8 0,.int .u8 0,.int .u8 0,.int .u8 0,.int .u8 0,.int .u8 0,.int .u8 0,.int .u8 0,.int .u8 0,.int .u8 0,.int .u8 0,.int .u8 0,.int .u8 0,.int .u8 0,.int .u8 0,.int .u8 0,.int .u8 0,.int .u8 0,.int .u8 0,.int .u8 0,.int .u8 0,.int .u8 0,.int .u8 0,.int .u8 0,.int .u8 0,.int .u8 0,.int .u8 0,.int .u8 0,.int .u8 0,.int .u8 0,.int .u8 0,.int .u8 0,.int .u8 0,.int .u8 0,.int .u8 0,.int .u8 0,.int .u8 0,.int .u8 0,.int .u8 0,.int .u8 0,.int .u8 0,.int .u8 0,.int .u8 0,.int .u8 0,.int .u8 0,.int .u8 0,.int .u8 0,.int .u8 0,.int .u8 0,.int .u8 0,.int .u8 0,.int .u8 0,.int .u8 0,.int .u8 0,.int .u8 0,.int .u8 0,.int .u8 0,.int .u8 0,.int .u8 0,.int .u8 0,.int .u8 0,.int .u8 0,.int .u8 0,.int .u8 0,.int .u8 0,.int .u8 0,.int .u8 0,.int .u8 0,.int .u8 0,.int .u8 0,.int .u8 0,.int .u8 0,.int .u8 0,.int .u8 0,.int .u8 0,.int .u8 0,.int .u8 0,.int .u8 0,.int .u8 0,.int .u8 0,.int .u8 0,.int .u8 0,.int .u8 0,.int .u8 0,.int .u8 0,.int .u8 0,.int .u8 0,.int .u8 0,.int .u8 0,.int .u8 0,.int .u8 0,.int .u8 0,.int .u8 0,.int .u8 0,.int .u8 0,.int .u8 0,.int .u8 0,.int .u8 0,.int .u8 0,.int .u8 0,.int .u8 0,.int .u8 0,.int .u8 0,.int .u8 0,.int .u8 0,.int .u8 0,.int .u8 0,.int .u8 0,.int .u8 0,.int .u8 0,.int .u8 0,.int .u8 0,.int .u8 0,.int .u8 0,.int .u8 0,.int .u8 0,.int .u8 0,.int .u8 0,.int .u8 0,.int .u8 0,.int .u8 0,.int .u8 0,.int .u8 0,.int .u8 0,.int .u8 0,.int .u8 0,.int .u8 0,.int .u8 0,.int .u8 0,.int .u8 0,.int .u8 0,.int .u8 0,.int .u8 0,.int .u8 0,.int .u8 0,.int .u8 0,.int .u8 0,.int .u8 0,.int .u8 0,.int .u8 0,.int .u8 0,.int .u8 0,.int .u8 0,.int .u8 0,.int .u8 0,.int .u8 0,.int .u8 0,.int .u8 0,.int .u8 0,.int .u8 0,.int .u8 0,.int .u8 0,.int .u8 0,.int .u8 0,.int .u8 0,.int .u8 0,.int .u8 0,.int .u8 0,.int .u8 0,.int .u8 0,.int .u8 0,.int .u8 0,.int .u8 0,.int .u8 0,.int .u8 0,.int .u8 0,.int .u8 0,.int .u8 0,.int .u8 0,.int .u8 0,.int .u8 0,.int .u8 0,.int .u8 0,.int .u8 0,.int .u8 0,.int .u8 0,.int .u8 0,.int .u8 0,.int .u8 0,.int .u8 0,.int .u8 0,.int .u8 0,.int .u8 0,.int .u8 0,.int .u8 0,.int .u8 0]⟩),
 (316,⟨.struct [(0,5),(1,5)],2,2,[.int .u8 0,.int .u8 0]⟩),
 (317,⟨.struct [(0,5),(1,5)],2,2,[.int .u8 0,.int .u8 0]⟩),
 (318,⟨.arr 16 317,32,32,[.int .u8 0,.int .u8 0,.int .u8 0,.int .u8 0,.int .u8 0,.int .u8 0,.int .u8 0,.int .u8 0,.int .u8 0,.int .u8 0,.int .u8 0,.int .u8 0,.int .u8 0,.int .u8 0,.int .u8 0,.int .u8 0,.int .u8 0,.int .u8 0,.int .u8 0,.int .u8 0,.int .u8 0,.int .u8 0,.int .u8 0,.int .u8 0,.int .u8 0,.int .u8 0,.int .u8 0,.int .u8 0,.int .u8 0,.int .u8 0,.int .u8 0,.int .u8 0]⟩),
 (319,⟨.func,1,8,[.nilf]⟩),
 (321,⟨.func,1,8,[.nilf]⟩),
 (324,⟨.func,1,8,[.nilf]⟩),
 (325,⟨.arr 32 5,32,32,[.int .u8 0,.int .u8 0,.int .u8 0,.int .u8 0,.int .u8 0,.int .u8 0,.int .u8 0,.int .u8 0,.int .u8 0,.int .u8 0,.int .u8 0,.int .u8 0,.int .u8 0,.int .u8 0,.int .u8 0,.int .u8 0,.int .u8 0,.int .u8 0,.int .u8 0,.int .u8 0,.int .u8 0,.int .u8 0,.int .u8 0,.int .u8 0,.int .u8 0,.int .u8 0,.int .u8 0,.int .u8 0,.int .u8 0,.int .u8 0,.int .u8 0,.int .u8 0]⟩),
 (326,⟨.arr 64 5,64,64,[.int .u8 0,.int .u8 0,.int .u8 0,.int .u8 0,.int .u8 0,.int .u8 0,.int .u8 0,.int .u8 0,.int .u8 0,.int .u8 0,.int .u8 0,.int .u8 0,.int .u8 0,.int .u8 0,.int .u8 0,.int .u8 0,.int .u8 0,.int .u8 0,.int .u8 0,.int .u8 0,.int .u8 0,.int .u8 0,.int .u8 0,.int .u8 0,.int .u8 0,.int .u8 0,.int .u8 0,.int .u8 0,.int .u8 0,.int .u8 0,.int .u8 0,.int .u8 0,.int .u8 0,.int .u8 0,.int .u8 0,.int .u8 0,.int .u8 0,.int .u8 0,.int .u8 0,.int .u8 0,.int .u8 0,.int .u8 0,.int .u8 0,.int .u8 0,.int .u8 0,.int .u8 0,.int .u8 0,.int .u8 0,.int .u8 0,.int .u8 0,.int .u8 0,.int .u8 0,.int .u8 0,.int .u8 0,.int .u8 0,.int .u8 0,.int .u8 0,.int .u8 0,.int .u8 0,.int .u8 0,.int .u8 0,.int .u8 0,.int .u8 0,.int .u8 0]⟩),
 (327,⟨.ptr 307,1,8,[.nilp]⟩),
 (328,⟨.func,1,8,[.nilf]⟩),
 (329,⟨.func,1,8,[.nilf]⟩),
 (330,⟨.func,1,8,[.nilf]⟩),
 (331,⟨.func,1,8,[.nilf]⟩),
 (332,⟨.ptr 334,1,8,[.nilp]⟩),
 (333,⟨.struct [(0,9)],1,16,[.str []]⟩),
 (334,⟨.struct [(0,9)],1,16,[.str []]⟩),
 (335,⟨.ptr 350,1,8,[.nilp]⟩),
 (336,⟨.ptr 353,1,8,[.nilp]⟩),
 (337,⟨.struct [(0,17),(1,17),(2,17),(3,9)],4,40,[.nilp,.nilp,.nilp,.str []]⟩),
 (338,⟨.struct [(0,17),(1,17),(2,17),(3,9)],4,40,[.nilp,.nilp,.nilp,.str []]⟩),
 (339,⟨.arr 0 16,0,0,[]⟩),
 (340,⟨.struct [(0,339)],0,0,[]⟩),
 (341,⟨.struct [(0,339)],0,0,[]⟩),
 (342,⟨.int .u8,1,1,[.int .u8 0]⟩),
 (343,⟨.int .u8,1,1,[.int .u8 0]⟩),
 (344,⟨.func,1,8,[.nilf]⟩),
 (345,⟨.int .i32,1,4,[.int .i32 0]⟩),
 (346,⟨.int .i32,1,4,[.int .i32 0]⟩),
 (347,⟨.struct [(0,12),(1,12),(2,274),(3,342),(4,5),(5,5),(6,343),(7,344),(8,127),(9,345),(10,346)],11,48,[.int .u64 0,.int .u64 0,.int .u32 0,.int .u8 0,.int .u8 0,.int .u8 0,.int .u8 0,.nilf,.nilp,.int .i32 0,.int .i32 0]⟩),
 (348,⟨.struct [(0,12),(1,12),(2,274),(3,342),(4,5),(5,5),(6,343),(7,344),(8,127),(9,345),(10,346)],11,48,[.int .u64 0,.int .u64 0,.int .u32 0,.int .u8 0,.int .u8 0,.int .u8 0,.int .u8 0,.nilf,.nilp,.int .i32 0,.int .i32 0]⟩)]
def tab:Tab:=lk ydg
theorem zao:zbd Tryz.prog tab:=yey (by kernel_rfl)
theorem mixed:Tryz.prog.follows .mixedOrders=true:=Checked.mixed Tryz.checked
theorem ydl:tab 2=⟨.int .i64,1,8,[.int .i64 0]⟩:=by kernel_rfl
theorem zaa:tab 3=⟨.int .i64,1,8,[.int .i64 0]⟩:=by kernel_rfl
theorem zau:tab 4=⟨.bool,1,1,[.bool false]⟩:=by kernel_rfl
theorem zdw:tab 5=⟨.int .u8,1,1,[.int .u8 0]⟩:=by kernel_rfl
theorem zab:tab 9=⟨.str,1,16,[.str []]⟩:=by kernel_rfl
theorem ydk:tab 21=⟨.int .i32,1,4,[.int .i32 0]⟩:=by kernel_rfl
theorem ty5:tab 22=⟨.slice 5,1,24,[.nils]⟩:=by kernel_rfl
theorem ty4:tab 23=⟨.slice 9,1,24,[.nils]⟩:=by kernel_rfl
theorem yf5:tab 26=⟨.func,1,8,[.nilf]⟩:=by kernel_rfl
theorem ty12:tab 28=⟨.func,1,8,[.nilf]⟩:=by kernel_rfl
theorem yf6:tab 29=⟨.func,1,8,[.nilf]⟩:=by kernel_rfl
theorem ty16:tab 31=⟨.func,1,8,[.nilf]⟩:=by kernel_rfl
theorem ty6:tab 33=⟨.ptr 47,1,8,[.nilp]⟩:=by kernel_rfl
theorem zaq:tab 36=⟨.struct [(0,3),(1,3),(2,3),(3,3)],4,32,[.int .i64 0,.int .i64 0,.int .i64 0,.int .i64 0]⟩:=by kernel_rfl
theorem zap:tab 37=⟨.struct [(0,3),(1,3),(2,3),(3,3)],4,32,[.int .i64 0,.int .i64 0,.int .i64 0,.int .i64 0]⟩:=by kernel_rfl
theorem za6:tab 38=⟨.struct [(0,33),(1,37)],5,40,[.nilp,.int .i64 0,.int .i64 0,.int .i64 0,.int .i64 0]⟩:=by kernel_rfl
theorem za5:tab 39=⟨.struct [(0,33),(1,37)],5,40,[.nilp,.int .i64 0,.int .i64 0,.int .i64 0,.int .i64 0]⟩:=by kernel_rfl
theorem ty1:tab 43=⟨.slice 70,1,24,[.nils]⟩:=by kernel_rfl
theorem zc9:tab 44=⟨.slice 70,1,24,[.nils]⟩:=by kernel_rfl
theorem ty3:tab 45=⟨.slice 37,1,24,[.nils]⟩:=by kernel_rfl
theorem zg0:tab 46=⟨.struct [(0,44),(1,45)],2,48,[.nils,.nils]⟩:=by kernel_rfl
theorem zgz:tab 47=⟨.struct [(0,44),(1,45)],2,48,[.nils,.nils]⟩:=by kernel_rfl
theorem ydu:tab 49=⟨.struct [(0,23),(1,23)],2,48,[.nils,.nils]⟩:=by kernel_rfl
theorem ydt:tab 50=⟨.struct [(0,23),(1,23)],2,48,[.nils,.nils]⟩:=by kernel_rfl
theorem zhi:tab 51=⟨.map 9 60,1,8,[.nilm]⟩:=by kernel_rfl
theorem ty7:tab 54=⟨.ptr 56,1,8,[.nilp]⟩:=by kernel_rfl
theorem z8n:tab 55=⟨.struct [(0,54),(1,22)],2,32,[.nilp,.nils]⟩:=by kernel_rfl
theorem z8m:tab 56=⟨.struct [(0,54),(1,22)],2,32,[.nilp,.nils]⟩:=by kernel_rfl
theorem zhg:tab 59=⟨.func,1,8,[.nilf]⟩:=by kernel_rfl
theorem zhh:tab 60=⟨.func,1,8,[.nilf]⟩:=by kernel_rfl
theorem ty8:tab 69=⟨.func,1,8,[.nilf]⟩:=by kernel_rfl
theorem zae:tab 70=⟨.slice 3,1,24,[.nils]⟩:=by kernel_rfl
theorem ty9:tab 73=⟨.func,1,8,[.nilf]⟩:=by kernel_rfl
theorem zes:tab 81=⟨.struct [(0,4),(1,39),(6,39)],11,88,[.bool false,.nilp,.int .i64 0,.int .i64 0,.int .i64 0,.int .i64 0,.nilp,.int .i64 0,.int .i64 0,.int .i64 0,.int .i64 0]⟩:=by kernel_rfl
theorem zer:tab 82=⟨.struct [(0,4),(1,39),(6,39)],11,88,[.bool false,.nilp,.int .i64 0,.int .i64 0,.int .i64 0,.int .i64 0,.nilp,.int .i64 0,.int .i64 0,.int .i64 0,.int .i64 0]⟩:=by kernel_rfl
theorem ty11:tab 94=⟨.func,1,8,[.nilf]⟩:=by kernel_rfl
theorem yfa:tab 98=⟨.func,1,8,[.nilf]⟩:=by kernel_rfl
theorem ty10:tab 114=⟨.func,1,8,[.nilf]⟩:=by kernel_rfl
theorem ty18:tab 126=⟨.func,1,8,[.nilf]⟩:=by kernel_rfl
theorem yaj:tab 134=⟨.struct [(0,22),(1,3)],2,32,[.nils,.int .i64 0]⟩:=by kernel_rfl
theorem yai:tab 135=⟨.struct [(0,22),(1,3)],2,32,[.nils,.int .i64 0]⟩:=by kernel_rfl
theorem ty0:tab 163=⟨.slice 225,1,24,[.nils]⟩:=by kernel_rfl
theorem ty27:tab 164=⟨.slice 225,1,24,[.nils]⟩:=by kernel_rfl
theorem ty36:tab 165=⟨.struct [(0,164),(1,164)],2,48,[.nils,.nils]⟩:=by kernel_rfl
theorem ty23:tab 166=⟨.struct [(0,164),(1,164)],2,48,[.nils,.nils]⟩:=by kernel_rfl
theorem yby:tab 222=⟨.map 3 3,1,8,[.nilm]⟩:=by kernel_rfl
theorem ty2:tab 225=⟨.slice 4,1,24,[.nils]⟩:=by kernel_rfl
theorem z79:tab 246=⟨.int .u64,1,8,[.int .u64 0]⟩:=by kernel_rfl
theorem yfb:tab 248=⟨.int .u64,1,8,[.int .u64 0]⟩:=by kernel_rfl
theorem zm6 (n low high:Int):PC Tryz.prog 137 [.int .i64 n,.int .i64 low,.int .i64 high] (.bool (decide (low≤n) && decide (n≤high))) true:=by
 refine PC.of ⟨Tryz.func137,by kernel_rfl,rfl,by kernel_rfl⟩ zao mixed (by show 3≤Tryz.f137.ntmps; decide) ?_
 refine W.r fun K hK=>?_
 simp(disch:=omega)only[↓RU,RV,RH,↓reduceIte,qE,reduceCtorEq,if_pos]
 apply hK;clear hK K
 refine W.r fun K hK=>?_
 by_cases h:low≤n
 ·skip
  simp(disch:=omega)only[↓RU,RV,RH,↓reduceIte,qE,reduceCtorEq,if_pos,w64,zaa,ge_iff_le,h,decide_true]
  apply hK;clear hK K
  refine W.ret ?_
  refine Br rfl ?_
  simp only[decide_true,Bool.true_and,h]; rfl
 skip
 simp(disch:=omega)only[↓RU,RV,RH,↓reduceIte,qE,reduceCtorEq,if_pos,w64,zaa,ge_iff_le,h,decide_false]
 apply hK;clear hK K
 refine W.ret ?_
 refine Br rfl ?_
 simp only[decide_false,Bool.false_and,h]; rfl
theorem zgu {p:List Txt} (hs:Sm p):PC Tryz.prog 45 [zai p] (.int .i64 (zbo p)) true:=by
 have hp:=hs.rows
 have hr:=hs.cols
 refine PC.of ⟨Tryz.func45,by kernel_rfl,rfl,by kernel_rfl⟩ zao mixed (by show 1≤Tryz.f45.ntmps; decide) ?_
 refine W.r fun K hK=>?_
 simp(disch:=omega)only[↓RU,RV,RH,↓reduceIte,qE,reduceCtorEq,if_pos]
 apply hK;clear hK K
 refine W.r fun K hK=>?_
 simp(disch:=omega)only[↓RU,RV,RH,↓reduceIte,qE,reduceCtorEq,if_pos]
 apply hK;clear hK K
 refine W.seq ?_
 refine W.r fun K hK=>?_
 simp(disch:=omega)only[↓RU,RV,RH,↓reduceIte,qE,reduceCtorEq,if_pos]
 apply hK;clear hK K
 refine W.block ?_
 refine W.loop [0,3,4] (fun n vs S=>∃ i:Nat,n=p.length - i∧i≤p.length∧vs=[zai p,.int .i64 (zbo (p.take i)),.int .i64 i]∧S=⟨[],0⟩) (p.length) ?_ ?_
 ·refine ⟨0,0,rfl,Nat.zero_le _,?_,rfl⟩
  simp [Env.put,zag,zbo]
 rintro n vs S - ⟨i,rfl,h_i,rfl,rfl⟩
 refine W.seq ?_
 refine W.r fun K hK=>?_
 simp(disch:=omega)only[↓RU,RV,RH,↓reduceIte,qE,reduceCtorEq,if_pos,w64,ty4,zaa,zab]
 apply hK;clear hK K
 refine W.cond rfl (fun h=>?_) (fun h=>?_)
 ·try simp only[RL]at h
  obtain ⟨row,hrow,hrm⟩:=zaf (show i<p.length by omega)
  have hrl:=hr row hrm
  refine W.skip ?_
  refine xn ?_
  refine W.seq ?_
  refine W.block ?_
  refine W.r fun K hK=>?_
  simp(disch:=omega)only[↓RU,RV,RH,↓reduceIte,qE,reduceCtorEq,if_pos]
  apply hK;clear hK K
  refine W.block ?_
  refine W.loop [0,3,4,5] (fun n vs S=>∃ k:Nat,n=row.length - k∧k≤row.length∧vs=[zai p,.int .i64 (zfr (zbo (p.take i)) (row.take k)),.int .i64 i,.int .i64 k]∧S=⟨[],0⟩) (row.length) ?_ ?_
  ·refine ⟨0,0,rfl,Nat.zero_le _,?_,rfl⟩
   simp [Env.put,Env.of,zfr]
  rintro n vs S - ⟨k,rfl,h_k,rfl,rfl⟩
  refine W.seq ?_
  refine W.r fun K hK=>?_
  simp(disch:=omega)only[↓RU,RV,RH,↓reduceIte,qE,reduceCtorEq,if_pos,w64,ty4,zaa,zab,hrow]
  apply hK;clear hK K
  refine W.cond rfl (fun h1=>?_) (fun h1=>?_)
  ·try simp only[RL]at h1
   obtain ⟨c,hc,-⟩:=zaf (show k<row.length by omega)
   have hcl:=c.toNat_lt
   refine W.skip ?_
   refine xn ?_
   refine W.seq ?_
   refine W.block ?_
   refine W.k fun K hK=>?_
   simp(disch:=omega)only[↓RU,RV,RH,↓reduceIte,qE,reduceCtorEq,if_pos,w64,w64,zm3,ty4,zaa,zab,zdw,hrow,hc,zm3]
   apply hK;clear hK K
   refine XbN ?_
   refine xn ?_
   refine W.k fun K hK=>?_
   simp(disch:=omega)only[↓RU,RV,RH,↓reduceIte,qE,reduceCtorEq,if_pos,w64,zaa]
   apply hK;clear hK K
   refine xn ?_
   refine ⟨row.length - (k+1),by omega,0,k+1,rfl,by omega,?_,rfl⟩
   rw [tk hc]
   simp [Env.put,Env.of,zfr,List.foldl_append]
  try simp only[RL]at h1
  refine W.exit ?_
  refine xe ?_
  refine xe ?_
  refine XBlock.hit ?_
  refine XbN ?_
  refine xn ?_
  refine W.k fun K hK=>?_
  simp(disch:=omega)only[↓RU,RV,RH,↓reduceIte,qE,reduceCtorEq,if_pos,w64,zaa]
  apply hK;clear hK K
  refine xn ?_
  refine ⟨p.length - (i+1),by omega,0,i+1,rfl,by omega,?_,rfl⟩
  rw [tk hrow]
  simp [Env.put,Env.of,zbo,List.foldl_append,show k=row.length by omega]
 try simp only[RL]at h
 refine W.exit ?_
 refine xe ?_
 refine xe ?_
 refine XBlock.hit ?_
 refine xn ?_
 refine W.r fun K hK=>?_
 simp(disch:=omega)only[↓RU,RV,RH,↓reduceIte,qE,reduceCtorEq,if_pos]
 apply hK;clear hK K
 refine W.ret ?_
 refine Br rfl ?_
 have hip:i=p.length:=by omega
 subst hip
 rw [List.take_length]
 rfl
theorem zxd {p q:List Txt} (hs:Sm p):PC Tryz.prog 43 [zai p,zai q] (.bool (decide (p=q))) true:=by
 have hp:=hs.rows
 have hr:=hs.cols
 refine PC.of ⟨Tryz.func43,by kernel_rfl,rfl,by kernel_rfl⟩ zao mixed (by show 2≤Tryz.f43.ntmps; decide) ?_
 refine W.r fun K hK=>?_
 simp(disch:=omega)only[↓RU,RV,RH,↓reduceIte,qE,reduceCtorEq,if_pos]
 apply hK;clear hK K
 refine W.seq ?_
 refine W.r fun K hK=>?_
 simp(disch:=omega)only[↓RU,RV,RH,↓reduceIte,qE,reduceCtorEq,if_pos,w64,ty4,zaa,zab]
 apply hK;clear hK K
 refine W.cond rfl (fun h0=>?_) (fun h0=>?_)
 ·try simp only[RL]at h0
  skip
  refine W.r fun K hK=>?_
  simp(disch:=omega)only[↓RU,RV,RH,↓reduceIte,qE,reduceCtorEq,if_pos]
  apply hK;clear hK K
  refine W.ret ?_
  refine XThen.ret ?_
  refine Br rfl ?_
  have:p≠q:=fun e=>h0 (by rw [e])
  simp [this]; rfl
 try simp only[RL]at h0
 refine W.skip ?_
 refine xn ?_
 refine W.seq ?_
 refine W.r fun K hK=>?_
 simp(disch:=omega)only[↓RU,RV,RH,↓reduceIte,qE,reduceCtorEq,if_pos]
 apply hK;clear hK K
 refine W.block ?_
 refine W.loop [0,1,5] (fun n vs S=>∃ i:Nat,n=p.length - i∧i≤p.length∧(p.take i=q.take i)∧vs=[zai p,zai q,.int .i64 i]∧S=⟨[],0⟩) (p.length) ?_ ?_
 ·refine ⟨0,0,rfl,Nat.zero_le _,rfl,?_,rfl⟩
  simp [Env.put,Env.of,zag]
 rintro n vs S - ⟨i,rfl,h_i,hq,rfl,rfl⟩
 refine W.seq ?_
 refine W.r fun K hK=>?_
 simp(disch:=omega)only[↓RU,RV,RH,↓reduceIte,qE,reduceCtorEq,if_pos,w64,ty4,zaa,zab]
 apply hK;clear hK K
 refine W.cond rfl (fun h1=>?_) (fun h1=>?_)
 ·try simp only[RL]at h1
  obtain ⟨row,hrow,hrm⟩:=zaf (show i<p.length by omega)
  obtain ⟨row2,hrow2,-⟩:=zaf (show i<q.length by omega)
  refine W.skip ?_
  refine xn ?_
  refine W.seq ?_
  refine W.block ?_
  refine W.seq_draw (by kernel_rfl) fun K hK=>?_
  simp(disch:=omega)only[↓RU,RV,RH,↓reduceIte,qE,reduceCtorEq,if_pos,w64,ty4,zab,hrow,hrow2,zn9]
  apply hK;clear hK K
  refine W.cond rfl (fun h2=>?_) (fun h2=>?_)
  ·try simp only[RL]at h2
   refine W.r fun K hK=>?_
   simp(disch:=omega)only[↓RU,RV,RH,↓reduceIte,qE,reduceCtorEq,if_pos]
   apply hK;clear hK K
   refine W.ret ?_
   refine XBlock.ret ?_
   refine XThen.ret ?_
   refine XThen.ret ?_
   refine XBlock.ret ?_
   refine XThen.ret ?_
   refine Br rfl ?_
   have:p≠q:=fun e=>h2 (by rw [e,hrow2]at hrow; exact (Option.some.inj hrow).symm)
   simp [this]; rfl
  try simp only[RL]at h2
  refine W.skip ?_
  refine XbN ?_
  refine xn ?_
  refine W.k fun K hK=>?_
  simp(disch:=omega)only[↓RU,RV,RH,↓reduceIte,qE,reduceCtorEq,if_pos,w64,zaa]
  apply hK;clear hK K
  refine xn ?_
  refine ⟨p.length - (i+1),by omega,0,i+1,rfl,by omega,by rw [tk hrow,tk hrow2,hq,h2],?_,rfl⟩
  simp [Env.put,Env.of]
 try simp only[RL]at h1
 refine W.exit ?_
 refine xe ?_
 refine xe ?_
 refine XBlock.hit ?_
 refine xn ?_
 refine W.r fun K hK=>?_
 simp(disch:=omega)only[↓RU,RV,RH,↓reduceIte,qE,reduceCtorEq,if_pos]
 apply hK;clear hK K
 refine W.ret ?_
 refine Br rfl ?_
 have hip:i=p.length:=by omega
 have h0n:p.length=q.length:=by omega
 have:p=q:=by rw [hip,List.take_length,h0n,List.take_length]at hq; exact hq
 simp [this]; rfl
theorem zm5 {p:List Txt} (hs:Sm p) (hc1:p.length≤1000) (hc2:∀ r∈p,r.length≤1000) (room:Int):PC Tryz.prog 47 [zai p,.int .i64 room] (.int .i64 (zdx p room)) true:=by
 have hp:=hs.rows
 have hr:=hs.cols
 refine PC.of ⟨Tryz.func47,by kernel_rfl,rfl,by kernel_rfl⟩ zao mixed (by show 2≤Tryz.f47.ntmps; decide) ?_
 refine W.r fun K hK=>?_
 simp(disch:=omega)only[↓RU,RV,RH,↓reduceIte,qE,reduceCtorEq,if_pos]
 apply hK;clear hK K
 refine W.r fun K hK=>?_
 simp(disch:=omega)only[↓RU,RV,RH,↓reduceIte,qE,reduceCtorEq,if_pos]
 apply hK;clear hK K
 refine W.seq ?_
 refine W.r fun K hK=>?_
 simp(disch:=omega)only[↓RU,RV,RH,↓reduceIte,qE,reduceCtorEq,if_pos]
 apply hK;clear hK K
 refine W.block ?_
 refine W.loop [0,1,5,6] (fun n vs S=>∃ i:Nat,n=p.length - i∧i≤p.length∧vs=[zai p,.int .i64 room,.int .i64 (zdx (p.take i) room),.int .i64 i]∧S=⟨[],0⟩) (p.length) ?_ ?_
 ·refine ⟨0,0,rfl,Nat.zero_le _,?_,rfl⟩
  simp [Env.put,zag,zdx]
 rintro n vs S - ⟨i,rfl,h_i,rfl,rfl⟩
 refine W.seq ?_
 refine W.r fun K hK=>?_
 simp(disch:=omega)only[↓RU,RV,RH,↓reduceIte,qE,reduceCtorEq,if_pos,w64,ty4,zaa,zab]
 apply hK;clear hK K
 refine W.cond rfl (fun h=>?_) (fun h=>?_)
 ·try simp only[RL]at h
  obtain ⟨row,hrow,hrm⟩:=zaf (show i<p.length by omega)
  have hrl:=hr row hrm
  refine W.skip ?_
  refine xn ?_
  refine W.seq ?_
  refine W.block ?_
  refine W.r fun K hK=>?_
  simp(disch:=omega)only[↓RU,RV,RH,↓reduceIte,qE,reduceCtorEq,if_pos]
  apply hK;clear hK K
  refine W.block ?_
  refine W.loop [0,1,5,6,7] (fun n vs S=>∃ k:Nat,n=row.length - k∧k≤row.length∧vs=[zai p,.int .i64 room,.int .i64 (zcy room (zdx (p.take i) room) (row.take k)),.int .i64 i,.int .i64 k]∧S=⟨[],0⟩) (row.length) ?_ ?_
  ·refine ⟨0,0,rfl,Nat.zero_le _,?_,rfl⟩
   simp [Env.put,Env.of,zcy]
  rintro n vs S - ⟨k,rfl,h_k,rfl,rfl⟩
  refine W.seq ?_
  refine W.r fun K hK=>?_
  simp(disch:=omega)only[↓RU,RV,RH,↓reduceIte,qE,reduceCtorEq,if_pos,w64,ty4,zaa,zab,hrow]
  apply hK;clear hK K
  refine W.cond rfl (fun h1=>?_) (fun h1=>?_)
  ·try simp only[RL]at h1
   obtain ⟨c,hc,-⟩:=zaf (show k<row.length by omega)
   have hcl:=c.toNat_lt
   have hb1:=zu6 room (p.take i) fun r hr=>hc2 r (List.mem_of_mem_take hr)
   have hb2:=zhv room (row.take k) (zdx (p.take i) room)
   have hb3:=List.length_take_le i p
   have hb4:=List.length_take_le k row
   refine W.skip ?_
   refine xn ?_
   refine W.seq ?_
   refine W.block ?_
   refine W.r fun K hK=>?_
   simp(disch:=omega)only[↓RU,RV,RH,↓reduceIte,qE,reduceCtorEq,if_pos,w64,w64,ty4,zaa,zab,zdw,hrow,hc]
   apply hK;clear hK K
   refine W.cond rfl (fun h2=>?_) (fun h2=>?_)
   ·try simp only[RL]at h2
    refine W.k fun K hK=>?_
    simp(disch:=omega)only[↓RU,RV,RH,↓reduceIte,qE,reduceCtorEq,if_pos,w64,zaa]
    apply hK;clear hK K
    refine XbN ?_
    refine xn ?_
    refine W.k fun K hK=>?_
    simp(disch:=omega)only[↓RU,RV,RH,↓reduceIte,qE,reduceCtorEq,if_pos,w64,zaa]
    apply hK;clear hK K
    refine xn ?_
    refine ⟨row.length - (k+1),by omega,0,k+1,rfl,by omega,?_,rfl⟩
    rw [tk hc]
    simp [Env.put,Env.of,zcy,List.foldl_append,zk0,h2]
   try simp only[RL]at h2
   refine W.skip ?_
   refine XbN ?_
   refine xn ?_
   refine W.k fun K hK=>?_
   simp(disch:=omega)only[↓RU,RV,RH,↓reduceIte,qE,reduceCtorEq,if_pos,w64,zaa]
   apply hK;clear hK K
   refine xn ?_
   refine ⟨row.length - (k+1),by omega,0,k+1,rfl,by omega,?_,rfl⟩
   rw [tk hc]
   simp [Env.put,Env.of,zcy,List.foldl_append,zk0,h2]
  try simp only[RL]at h1
  refine W.exit ?_
  refine xe ?_
  refine xe ?_
  refine XBlock.hit ?_
  refine XbN ?_
  refine xn ?_
  refine W.k fun K hK=>?_
  simp(disch:=omega)only[↓RU,RV,RH,↓reduceIte,qE,reduceCtorEq,if_pos,w64,zaa]
  apply hK;clear hK K
  refine xn ?_
  refine ⟨p.length - (i+1),by omega,0,i+1,rfl,by omega,?_,rfl⟩
  rw [tk hrow]
  simp [Env.put,Env.of,zdx,List.foldl_append,show k=row.length by omega]
 try simp only[RL]at h
 refine W.exit ?_
 refine xe ?_
 refine xe ?_
 refine XBlock.hit ?_
 refine xn ?_
 refine W.r fun K hK=>?_
 simp(disch:=omega)only[↓RU,RV,RH,↓reduceIte,qE,reduceCtorEq,if_pos]
 apply hK;clear hK K
 refine W.ret ?_
 refine Br rfl ?_
 have hip:i=p.length:=by omega
 subst hip
 rw [List.take_length]
 rfl
theorem zxc {p:List Txt} (hs:Sm p) (hne:0<p.length) (room:Int):PC Tryz.prog 46 [zai p,.int .i64 room] (.tup [.int .i64 (zg1 p room).top,.int .i64 (zg1 p room).left,.int .i64 (zdf p room),.int .i64 (zdd p room)]) true:=by
 have hp:=hs.rows
 have hr:=hs.cols
 obtain ⟨row0,hrow0,hrm0⟩:=zaf hne
 have hrl0:=hr row0 hrm0
 have hhd:=zca hrow0
 refine PC.of ⟨Tryz.func46,by kernel_rfl,rfl,by kernel_rfl⟩ zao mixed (by show 2≤Tryz.f46.ntmps; decide) ?_
 refine W.r fun K hK=>?_
 simp(disch:=omega)only[↓RU,RV,RH,↓reduceIte,qE,reduceCtorEq,if_pos]
 apply hK;clear hK K
 refine W.r fun K hK=>?_
 simp(disch:=omega)only[↓RU,RV,RH,↓reduceIte,qE,reduceCtorEq,if_pos,ty4,zab]
 apply hK;clear hK K
 refine W.r fun K hK=>?_
 simp(disch:=omega)only[↓RU,RV,RH,↓reduceIte,qE,reduceCtorEq,if_pos,ty4,zab,hrow0,Int.toNat_zero,Nat.zero_mul,qZ]
 apply hK;clear hK K
 refine W.r fun K hK=>?_
 simp(disch:=omega)only[↓RU,RV,RH,↓reduceIte,qE,reduceCtorEq,if_pos]
 apply hK;clear hK K
 refine W.r fun K hK=>?_
 simp(disch:=omega)only[↓RU,RV,RH,↓reduceIte,qE,reduceCtorEq,if_pos]
 apply hK;clear hK K
 refine W.seq ?_
 refine W.r fun K hK=>?_
 simp(disch:=omega)only[↓RU,RV,RH,↓reduceIte,qE,reduceCtorEq,if_pos]
 apply hK;clear hK K
 refine W.block ?_
 refine W.loop [0,1,8,9,10,11,12] (fun n vs S=>∃ i:Nat,n=p.length - i∧i≤p.length∧vs=[zai p,.int .i64 room,.int .i64 (zi7 p room i).top,.int .i64 (zi7 p room i).left,.int .i64 (zi7 p room i).low,.int .i64 (zi7 p room i).right,.int .i64 i]∧S=⟨[],0⟩) (p.length) ?_ ?_
 ·refine ⟨0,0,rfl,Nat.zero_le _,?_,rfl⟩
  simp [Env.put,zag,zi7,hhd]
 rintro n vs S - ⟨i,rfl,h_i,rfl,rfl⟩
 refine W.seq ?_
 refine W.r fun K hK=>?_
 simp(disch:=omega)only[↓RU,RV,RH,↓reduceIte,qE,reduceCtorEq,if_pos,w64,ty4,zaa,zab]
 apply hK;clear hK K
 refine W.cond rfl (fun h=>?_) (fun h=>?_)
 ·try simp only[RL]at h
  obtain ⟨row,hrow,hrm⟩:=zaf (show i<p.length by omega)
  have hrl:=hr row hrm
  refine W.skip ?_
  refine xn ?_
  refine W.seq ?_
  refine W.block ?_
  refine W.r fun K hK=>?_
  simp(disch:=omega)only[↓RU,RV,RH,↓reduceIte,qE,reduceCtorEq,if_pos]
  apply hK;clear hK K
  refine W.block ?_
  refine W.loop [0,1,8,9,10,11,12,13] (fun n vs S=>∃ k:Nat,n=row.length - k∧k≤row.length∧vs=[zai p,.int .i64 room,.int .i64 (zmj room i (zi7 p room i) row k).top,.int .i64 (zmj room i (zi7 p room i) row k).left,.int .i64 (zmj room i (zi7 p room i) row k).low,.int .i64 (zmj room i (zi7 p room i) row k).right,.int .i64 i,.int .i64 k]∧S=⟨[],0⟩) (row.length) ?_ ?_
  ·refine ⟨0,0,rfl,Nat.zero_le _,?_,rfl⟩
   simp [Env.put,Env.of,zmj]
  rintro n vs S - ⟨k,rfl,h_k,rfl,rfl⟩
  refine W.seq ?_
  refine W.r fun K hK=>?_
  simp(disch:=omega)only[↓RU,RV,RH,↓reduceIte,qE,reduceCtorEq,if_pos,w64,ty4,zaa,zab,hrow]
  apply hK;clear hK K
  refine W.cond rfl (fun h1=>?_) (fun h1=>?_)
  ·try simp only[RL]at h1
   obtain ⟨c,hc,-⟩:=zaf (show k<row.length by omega)
   have hcl:=c.toNat_lt
   refine W.skip ?_
   refine xn ?_
   refine W.seq ?_
   refine W.block ?_
   refine W.r fun K hK=>?_
   simp(disch:=omega)only[↓RU,RV,RH,↓reduceIte,qE,reduceCtorEq,if_pos,w64,w64,ty4,zaa,zab,zdw,hrow,hc]
   apply hK;clear hK K
   refine W.cond rfl (fun h2=>?_) (fun h2=>?_)
   ·try simp only[RL]at h2
    refine W.r fun K hK=>?_
    simp(disch:=omega)only[↓RU,RV,RH,↓reduceIte,qE,reduceCtorEq,if_pos,zqv,zaa]
    apply hK;clear hK K
    refine W.r fun K hK=>?_
    simp(disch:=omega)only[↓RU,RV,RH,↓reduceIte,qE,reduceCtorEq,if_pos,zqv,zaa]
    apply hK;clear hK K
    refine W.r fun K hK=>?_
    simp(disch:=omega)only[↓RU,RV,RH,↓reduceIte,qE,reduceCtorEq,if_pos,zm3,zaa]
    apply hK;clear hK K
    refine W.k fun K hK=>?_
    simp(disch:=omega)only[↓RU,RV,RH,↓reduceIte,qE,reduceCtorEq,if_pos,zm3,zaa]
    apply hK;clear hK K
    refine XbN ?_
    refine xn ?_
    refine W.k fun K hK=>?_
    simp(disch:=omega)only[↓RU,RV,RH,↓reduceIte,qE,reduceCtorEq,if_pos,w64,zaa]
    apply hK;clear hK K
    refine xn ?_
    refine ⟨row.length - (k+1),by omega,0,k+1,rfl,by omega,?_,rfl⟩
    rw [zkj hc]
    simp [Env.put,Env.of,zk9,zk0,h2]
   try simp only[RL]at h2
   refine W.skip ?_
   refine XbN ?_
   refine xn ?_
   refine W.k fun K hK=>?_
   simp(disch:=omega)only[↓RU,RV,RH,↓reduceIte,qE,reduceCtorEq,if_pos,w64,zaa]
   apply hK;clear hK K
   refine xn ?_
   refine ⟨row.length - (k+1),by omega,0,k+1,rfl,by omega,?_,rfl⟩
   rw [zkj hc]
   simp [Env.put,Env.of,zk9,zk0,h2]
  try simp only[RL]at h1
  refine W.exit ?_
  refine xe ?_
  refine xe ?_
  refine XBlock.hit ?_
  refine XbN ?_
  refine xn ?_
  refine W.k fun K hK=>?_
  simp(disch:=omega)only[↓RU,RV,RH,↓reduceIte,qE,reduceCtorEq,if_pos,w64,zaa]
  apply hK;clear hK K
  refine xn ?_
  refine ⟨p.length - (i+1),by omega,0,i+1,rfl,by omega,?_,rfl⟩
  rw [zmu hrow]
  simp [Env.put,Env.of,show k=row.length by omega]
 try simp only[RL]at h
 refine W.exit ?_
 refine xe ?_
 refine xe ?_
 refine XBlock.hit ?_
 refine xn ?_
 refine W.r fun K hK=>?_
 have hip:i=p.length:=by omega
 subst hip
 have hbb:=zla room hs.1 hs.2 p.length (qR _)
 rw [zlw]at hbb
 simp only[Box.In]at hbb
 simp(disch:=omega)only[↓RU,RV,RH,↓reduceIte,qE,reduceCtorEq,if_pos,w64,zaa,zlw]
 apply hK;clear hK K
 refine W.ret ?_
 refine Br rfl ?_
 rfl
end Fw
end Go.Proofs.YtclbmeloiefbaaaGreatDoor
