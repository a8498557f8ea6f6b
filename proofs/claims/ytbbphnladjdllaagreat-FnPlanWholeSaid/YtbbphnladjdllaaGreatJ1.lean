/- Parts of the framework and of the proof: The framework, part p: code, gone through on plain values; and a function's call; The framework, part q: a table of types is checked by one computation; The framework, part r: going through a region step by step; The framework, part s: small laws for going through code; The framework, part t: letting go of objects and freezing what names them; The framework, part u: bundles of small laws for simp; a call in a store with more objects behind; The framework, part v: calls that take data and give new objects, which may be written; The framework, part w: at a fold, objects are put in another order, frozen, or let go; The framework, part x: a region in which a variable is made at an open time; The framework, part y: a region whose order is open, in the order of its text, in which something might be read behind what writes elsewhere; Plans in plain words: the specification's functions on lists of texts; Points, walls and orders of plans in plain words; The table of the types of this translation, written by a program (tabgen.py), and that it is right; Small functions of the specification, gone through. -/
import Derived.Test.YtbbphnladjdllaaGreatJ0
import Derived.RangeFuncRecord
import Derived.Test.YtbbphnladjdllaaGreatChecked
set_option linter.all false
namespace Go.Proofs.YtbbphnladjdllaaGreat
namespace Fw
open Go
open Nat renaming reduceEqDiff → qE, reduceLeDiff → qL, reduceAdd → qA, reduceMul → qM, le_refl → qR
open List renaming append_nil → qN, mapM_append → qP, mapM_cons → qC, mapM_map → qU, range_succ → qS, take_of_length_le → qT
open Bool renaming and_eq_true → qB, false_eq_true → qF
open Option renaming map_some → qO, map_eq_some_iff → qI
open Int renaming reduceToNat → qZ
section
def GSt.take (G:GSt) (k:Nat):GSt:=⟨G.obs.take k,G.tick⟩
def zg7 (N:Nat):Code→Bool
 | .region _ ops _=>ops.toList.all fun o=>match o.dst with | some d=>decide (d<N) | none=>true
 | .seq a b=>zg7 N a && zg7 N b
 | .cond _ a b=>zg7 N a && zg7 N b
 | .block _ c=>zg7 N c
 | .loop c=>zg7 N c
 | .rangeFunc _ ps a b=>ps.toList.all (fun t=>decide (t<N)) && zg7 N a && zg7 N b
 | _=>true
structure W (P:Program) (T:Tab) (c:Code) (Q:Exit→Env→Store→Prop) (e:Env) (S:Store):Prop where
 run:zby P T→P.follows .mixedOrders=true→∀ (F0:Nat→Prop) (G0:GSt) (w0:World) (N:Nat) (F:Nat→Prop) (G:GSt) (a:Act) (w:World),G.er=S→Inv F G w→zfi w.heap F G e a →
  Next F0 G0 w0 F G w→a.tmps.size=N→Marks w0 a.defers w→zg7 N c=true→∀ {R:Option Nat} {nn:Nat},c.wpIn (fnc R) nn P (Sto F0 G0 w0 N Q) a w
section
variable {P:Program} {T:Tab} {Q Q':Exit→Env→Store→Prop} {e:Env} {S:Store} {a b c:Code}
theorem Sto.mono {F0:Nat→Prop} {G0:GSt} {w0:World} {N:Nat} (h:∀ x e S,Q x e S→Q' x e S) {x:Exit} {a:Act} {w:World} (k:Sto F0 G0 w0 N Q x a w):Sto F0 G0 w0 N Q' x a w:=by
 obtain ⟨e,F,G,k1,k2⟩:=k
 exact ⟨e,F,G,h _ _ _ k1,k2⟩
theorem W.mono (h:W P T c Q e S) (k:∀ x e S,Q x e S→Q' x e S):W P T c Q' e S :=
 ⟨fun h1 h2 F0 G0 w0 N F G a w h3 h4 h5 h6 h7 h8 h9=>wpIn_mono (h.run h1 h2 F0 G0 w0 N F G a w h3 h4 h5 h6 h7 h8 h9) fun _ _ _=>Sto.mono k⟩
theorem W.skip (h:Q .normal e S):W P T .skip Q e S :=
 ⟨fun _ _ _ _ _ _ _ _ _ _ h3 h4 h5 h6 h7 h8 _=>wpIn_skip ⟨e,_,_,h3 ▸ h,h4,h5,h6,h7,h8⟩⟩
theorem W.exit {id:Nat} (h:Q (.exit id) e S):W P T (.exit id) Q e S :=
 ⟨fun _ _ _ _ _ _ _ _ _ _ h3 h4 h5 h6 h7 h8 _=>wpIn_exit ⟨e,_,_,h3 ▸ h,h4,h5,h6,h7,h8⟩⟩
theorem W.ret (h:Q .ret e S):W P T .ret Q e S :=
 ⟨fun _ _ _ _ _ _ _ _ _ _ h3 h4 h5 h6 h7 h8 _=>wpIn_ret ⟨e,_,_,h3 ▸ h,h4,h5,h6,h7,h8⟩⟩
theorem W.seq (h:W P T a (XThen (W P T b Q) Q) e S):W P T (.seq a b) Q e S:=by
 refine ⟨?_⟩
 intro hT hm F0 G0 w0 N F G a w h3 h4 h5 h6 h7 h8 h9 R nn
 simp only[zg7,qB]at h9
 refine wpIn_seq (wpIn_mono (h.run hT hm F0 G0 w0 N F G a w h3 h4 h5 h6 h7 h8 h9.1) ?_)
 rintro x a' w' ⟨e',F',G',k1,k2,k3,k4,k5,k6⟩
 cases x with
 | normal=>exact k1.run hT hm F0 G0 w0 N F' G' a' w' rfl k2 k3 k4 k5 k6 h9.2
 | _=>exact ⟨e',F',G',k1,k2,k3,k4,k5,k6⟩
theorem W.cond {x:Operand} {t:Bool} (hc:e.ev x = .bool t) (h1:t=true→W P T a Q e S) (h2:t=false→W P T b Q e S):W P T (.cond x a b) Q e S:=by
 refine ⟨?_⟩
 intro hT hm F0 G0 w0 N F G a w h3 h4 h5 h6 h7 h8 h9 R nn
 simp only[zg7,qB]at h9
 have:=h5.ev x
 rw [hc]at this
 exact wpIn_cond_split this.bool (fun ht=>(h1 ht).run hT hm F0 G0 w0 N F G a w h3 h4 h5 h6 h7 h8 h9.1) (fun ht=>(h2 ht).run hT hm F0 G0 w0 N F G a w h3 h4 h5 h6 h7 h8 h9.2)
theorem W.block {id:Nat} (h:W P T c (XBlock id Q) e S):W P T (.block id c) Q e S:=by
 refine ⟨?_⟩
 intro hT hm F0 G0 w0 N F G a w h3 h4 h5 h6 h7 h8 h9 R nn
 refine wpIn_block (wpIn_mono (h.run hT hm F0 G0 w0 N F G a w h3 h4 h5 h6 h7 h8 h9) ?_)
 rintro x a' w' ⟨e',F',G',k1,k2⟩
 cases x with
 | exit i =>
  simp only[Exit.inBlock]
  simp only[XBlock]at k1
  split
  ·rename_i hi; rw [if_pos hi]at k1; exact ⟨e',F',G',k1,k2⟩
  rename_i hi; rw [if_neg hi]at k1; exact ⟨e',F',G',k1,k2⟩
 | _=>exact ⟨e',F',G',k1,k2⟩
theorem zuw {N:Nat} {ops:Array Oper} {id:Nat} {d:Bool} (h:zg7 N (.region id ops d)=true):∀ o∈ops.toList,∀ t,o.dst=some t→t<N:=by
 intro o ho t ht
 simp only[zg7,List.all_eq_true]at h
 have:=h o ho
 rw [ht]at this
 simpa using this
theorem z3l {F0:Nat→Prop} {G0:GSt} {w0:World} {N:Nat}:∀ x a w,Sto F0 G0 w0 N (Nrm (Q .normal)) x a w→Sto F0 G0 w0 N Q x a w:=by
 rintro x a' w' ⟨e',F',G',k1,k2⟩
 cases x with
 | normal=>exact ⟨e',F',G',k1,k2⟩
 | _=>exact k1.elim
theorem Inv.drew {F:Nat→Prop} {G:GSt} {w:World} (h:Inv F G w):Inv F G { w with drawn:=w.drawn+1 }:=⟨h.fr,h.ver,h.nF,h.arr,h.map,h.inj,h.lp⟩
theorem Next.drew {F F':Nat→Prop} {G G':GSt} {w w':World} (h:Next F G w F' G' w'):Next F G w F' G' { w' with drawn:=w'.drawn+1 } :=
 ⟨h.os,h.tape,h.output,h.size,h.fsub,h.fnew,h.gnew,h.tick,h.keep,h.hand,Nat.le_succ_of_le h.drawn⟩
theorem W.region {id:Nat} {ops:Array Oper} (h:yia P T ops (Q .normal) ops.toList e S):W P T (.region id ops false) Q e S:=by
 refine ⟨?_⟩
 intro hT hm F0 G0 w0 N F G a w h3 h4 h5 h6 h7 h8 h9 R nn
 subst h3
 refine wpIn_mono (wpIn_region_list (zny hT _ h h4 h5 h6 h7 h8 (zuw h9))) ?_
 exact z3l
theorem W.region_any {id:Nat} {ops:Array Oper} (l effs pend keep:List Nat) (hl:zhy ops l effs pend=true) (h:zdg P T ops effs pend keep (Q .normal) l e S) :
  W P T (.region id ops true) Q e S:=by
 refine ⟨?_⟩
 intro hT hm F0 G0 w0 N F G a w h3 h4 h5 h6 h7 h8 h9 R nn
 subst h3
 unfold zhy at hl
 simp only[qB,beq_iff_eq,List.all_eq_true,decide_eq_true_eq,Bool.not_eq_true',List.contains_eq_mem,List.mem_range,Bool.or_eq_true]at hl
 obtain ⟨⟨⟨⟨c1,c2⟩,c3⟩,c4⟩,c5⟩:=hl
 obtain ⟨p1,p2⟩:=zgi c1
 refine wpIn_mono (wpIn_region_any hm (zlx (Q:=Q .normal) hT (zuw h9) ?_ ops.size (Array.replicate ops.size false) l c2 p1 p2 (fun x hx=>(c3 x hx).2) (by simp) ?_ ?_ h (h4.drew) h5 (h6.drew) h7 h8)) z3l
 ·intro i o ho ed hed hb
  have hmem:o∈ops.toList:=by
   have:=Array.mem_of_getElem? ho
   simpa using this
  have:=c5 o hmem ed hed
  rw [hb]at this
  simpa using this
 ·intro i
  constructor
  ·intro hi
   refine ⟨(c3 i hi).1,?_⟩
   rw [Array.getD_eq_getD_getElem?]
   simp [(c3 i hi).1]
  intro hi
  exact c4 i hi.1
 intro i x hx
 rw [Array.getD_eq_getD_getElem?]at hx
 simp only[Array.getElem?_replicate]at hx
 split at hx <;> cases hx
theorem zla {Fe:Fence} {nn:Nat} {P:Program} {c:Code} {R:Exit→Act→World→Prop}:∀ {n m:Nat},n≤m→∀ a w,Code.roundsIn Fe nn P c R n a w→Code.roundsIn Fe nn P c R m a w:=by
 intro n
 induction n with
 | zero=>intro m _ a w h; exact h.elim
 | succ n ih =>
  intro m hm a w h
  obtain ⟨m,rfl⟩:∃ m',m=m'+1:=⟨m - 1,by omega⟩
  refine wpIn_mono h ?_
  rintro x a w hx
  cases x with
  | normal=>exact ih (by omega) a w hx
  | _=>exact hx
theorem zjr (G:GSt) (k:Nat):(G.take k).er=G.er.take k:=by
 simp [GSt.take,GSt.er,Store.take]
theorem zc2 {G:GSt} {k o:Nat} {x:Ob × Lc} (h:(G.take k).obs[o]?=some x):G.obs[o]?=some x:=by
 simp only[GSt.take,List.getElem?_take]at h
 split at h
 ·exact h
 cases h
theorem zft {F:Nat→Prop} {G:GSt} {w:World} (hi:Inv F G w) (k:Nat):Inv F (G.take k) w∧Next F G w F (G.take k) w:=by
 have hn:Next F G w F (G.take k) w :=
  ⟨rfl,rfl,rfl,qR _,fun _ h=>h,fun _ h => .inl h,fun o x h => .inr ⟨o,x,zc2 h,rfl⟩,qR _,fun _ _ _=>rfl,
   fun _ ob' _ h _=>⟨ob',zc2 h,rfl,Ob.like.refl _⟩,qR _⟩
 exact ⟨zje hi.fr (fun o ob l h=>hi.ver o ob l (zc2 h)) (fun o ob l h=>hi.nF o ob l (zc2 h)) (fun o ob l h=>(hi.holds (zc2 h)).next hi hn rfl) (fun o o' x x' h h'=>hi.inj o o' x x' (zc2 h) (zc2 h')),hn⟩
theorem z9w {H:Array Obj} {F:Nat→Prop} {G:GSt} {e:Env} {a:Act} (he:zfi H F G e a):∀ L:List Nat,zfi H F G (Env.of L (L.map e)) a
 | [],t => .imm _ _ (.undef _)
 | x::L,t=>by
  simp only[List.map_cons,Env.of]
  split
  ·rename_i h; rw [h]; exact he x
  exact z9w he L t
def Fold (L:List Nat) (I:List PV→Store→Prop) (e:Env) (S:Store):Prop:=∃ k,I (L.map e) (S.take k)
theorem W.fold (L:List Nat) {I:List PV→Store→Prop} (hI:Fold L I e S) (h:∀ vs S,vs.length=L.length→I vs S→W P T c Q (Env.of L vs) S):W P T c Q e S:=by
 refine ⟨?_⟩
 intro hT hm F0 G0 w0 N F G a w h3 h4 h5 h6 h7 h8 h9 R nn
 subst h3
 obtain ⟨k,hk⟩:=hI
 obtain ⟨i1,i2⟩:=zft h4 k
 exact (h _ _ (by simp) hk).run hT hm F0 G0 w0 N F (G.take k) a w (zjr G k) i1 (z9w (fun t=>(h5 t).next h4 i2) L) (h6.trans i2) h7 h8 h9
theorem W.join (L:List Nat) (I:List PV→Store→Prop) (h:W P T a (XThen (Fold L I) Q) e S) (k:∀ vs S,vs.length=L.length→I vs S→W P T b Q (Env.of L vs) S):W P T (.seq a b) Q e S:=by
 refine W.seq (h.mono ?_)
 intro x e S hx
 cases x with
 | normal=>exact W.fold L hx k
 | _=>exact hx
theorem W.loop (L:List Nat) (I:Nat→List PV→Store→Prop) (n:Nat) (h0:Fold L (I n) e S)
  (h:∀ n vs S,vs.length=L.length→I n vs S→W P T c (XThen (fun e S=>∃ m,m<n∧Fold L (I m) e S) Q) (Env.of L vs) S):W P T (.loop c) Q e S:=by
 refine W.fold L h0 fun vs S hl hI=>?_
 refine ⟨?_⟩
 intro hT hm F0 G0 w0 N F G a w h3 h4 h5 h6 h7 h8 h9 R nn
 refine wpIn_loop_rounds (n+1) ?_
 clear h0
 induction n using Nat.strongRecOn generalizing vs S F G a w with
 | _ n ih =>
  refine wpIn_mono ((h n vs S hl hI).run hT hm F0 G0 w0 N F G a w h3 h4 h5 h6 h7 h8 (by simpa [zg7] using h9)) ?_
  rintro x a' w' ⟨e',F',G',k1,k2,k3,k4,k5,k6⟩
  cases x with
  | normal =>
   obtain ⟨m,hmn,k,hk⟩:=k1
   obtain ⟨i1,i2⟩:=zft k2 k
   exact zla (by omega) _ _ (ih m hmn _ (G'.er.take k) (by simp) hk F' (G'.take k) a' w' (zjr G' k) i1 (z9w (fun t=>(k3 t).next k2 i2) L) (k4.trans i2) k5 k6)
  | _=>exact ⟨e',F',G',k1,k2,k3,k4,k5,k6⟩
def zai (args:List PV):Env:=fun t=>(args[t]?).getD .undef
def zzc (T:Tab) (S:Store) (e:Env):ResultVar→Option PV
 | .tmp t=>some (e t)
 | .cell a t=>zsj (T t) S (e a)
def zk9 (T:Tab) (S:Store) (e:Env):List ResultVar→Option (List PV)
 | []=>some []
 | r::rs=>(zzc T S e r).bind fun v=>(zk9 T S e rs).map (v :: ·)
def zvy (T:Tab) (S:Store) (e:Env) (rs:List ResultVar):Option PV :=
 match zk9 T S e rs with
 | some [v]=>some v
 | some vs=>some (.tup vs)
 | none=>none
def zfj (T:Tab) (rs:List ResultVar) (K:PV→Store→Prop):Exit→Env→Store→Prop
 | .normal,e,S=>zi1 (zvy T S e rs) fun v=>K v S
 | .ret,e,S=>zi1 (zvy T S e rs) fun v=>K v S
 | _,_,_=>False
theorem zzd (hT:zby P T) {F:Nat→Prop} {G:GSt} {w:World} (hi:Inv F G w) {a:Act} (he:zfi w.heap F G e a) {r:ResultVar} {v:PV} (h:zzc T G.er e r=some v) :
  ∃ cv,((match r with | .tmp t=>pure (a.tmps.getD t undef) | .cell b t=>do loadVar t (← asAddr (a.tmps.getD b undef)):Sem Value)).run P w = .ok cv w∧VR w.heap F G v cv:=by
 cases r with
 | tmp t=>simp only[zzc]at h; cases h; exact ⟨_,rfl,he t⟩
 | cell b t =>
  simp only[zzc]at h
  obtain ⟨cv,h1,h2⟩:=ztj hT hi (he b) h
  refine ⟨cv,?_,h2⟩
  cases hb:a.tmps.getD b undef <;> rw [hb]at h1 <;> first
   | (simp [Instr.loadAt,Instr.sureAddr,stuck]at h1; done)
   | (rename_i q; cases q <;> first | (simp [Instr.loadAt,Instr.sureAddr,stuck]at h1; done) | (show (do loadVar t (← asAddr (a.tmps.getD b undef)):Sem Value).run P w=_; rw [hb]; simpa [Instr.loadAt,Instr.sureAddr,asAddr] using h1))
theorem zmw (hT:zby P T) {F:Nat→Prop} {G:GSt} {w:World} (hi:Inv F G w) {a:Act} (he:zfi w.heap F G e a):∀ {rs:List ResultVar} {vs:List PV},zk9 T G.er e rs=some vs →
  ∃ cvs:List Value,(rs.mapM fun r=>(match r with | .tmp t=>pure (a.tmps.getD t undef) | .cell b t=>do loadVar t (← asAddr (a.tmps.getD b undef)):Sem Value)).run P w = .ok cvs w ∧
   vs.length=cvs.length∧∀ (i:Nat) p c,vs[i]?=some p→cvs[i]?=some c→VR w.heap F G p c
 | [],vs,h=>by simp only[zk9]at h; cases h; exact ⟨[],by simp,rfl,by simp⟩
 | r::rs,vs,h=>by
  simp only[zk9]at h
  rw [Option.bind_eq_some_iff]at h
  obtain ⟨v,h1,h⟩:=h
  rw [qI]at h
  obtain ⟨vs',h2,rfl⟩:=h
  obtain ⟨cv,k1,k2⟩:=zzd hT hi he h1
  obtain ⟨cvs,k3,k4,k5⟩:=zmw hT hi he h2
  refine ⟨cv::cvs,?_,by simp [k4],?_⟩
  ·rw [qC]
   simp only[Sem.run_bind,k1,k3,Result.andThen_ok,Sem.run_pure]
  rintro (_ | i) p c q1 q2
  ·simp at q1 q2; subst q1; subst q2; exact k2
  simp at q1 q2; exact k5 i p c q1 q2
theorem yav (hT:zby P T) {F:Nat→Prop} {G:GSt} {w:World} (hi:Inv F G w) {a:Act} (he:zfi w.heap F G e a) {fn:Func} {v:PV} (h:zvy T G.er e fn.results.toList=some v) :
  ∃ cv,(results fn a.tmps).run P w = .ok cv w∧VR w.heap F G v cv:=by
 unfold zvy at h
 cases hl:zk9 T G.er e fn.results.toList with
 | none=>rw [hl]at h; cases h
 | some vs =>
  rw [hl]at h
  obtain ⟨cvs,k1,k2,k3⟩:=zmw hT hi he hl
  have hrun:(results fn a.tmps).run P w = .ok (if h:cvs.toArray.size=1 then cvs.toArray[0] else .tuple cvs.toArray) w:=by
   unfold results
   rw [Array.mapM_eq_mapM_toList]
   simp only[Sem.run_bind,Sem.run_pure,Result.andThen_ok,Sem.run_map]
   erw [k1]
   rfl
  refine ⟨_,hrun,?_⟩
  match vs,cvs,k2,k3,h with
  | [v'],[c],_,k3,h=>simp at h; subst h; simpa using k3 0 v' c rfl rfl
  | [],[],_,k3,h=>simp at h; subst h; simpa using VR.tup [] #[] rfl (by simp)
  | v1::v2::vs,c1::c2::cs,hl,k3,h =>
   simp at h; subst h
   simp only[List.size_toArray,List.length_cons]
   rw [dif_neg (by omega)]
   exact VR.tup _ _ (by simpa using hl) (fun i p c q1 q2=>k3 i p c q1 (by simpa using q2))
structure Fn (P:Program) (f:FuncId) (fn:Func) (c:Code):Prop where
 at_:P.funcs[f]?=some fn
 name : (fn.name == "runtime.NumGoroutine") = false
 body:fn.body=some c
 dst:zg7 fn.ntmps c=true
theorem Fn.ent {f:FuncId} {fn:Func} (h:Fn P f fn c):Ent P f:=by
 intro args w
 have h1 : fn.name ≠ "runtime.NumGoroutine" := by simpa using h.name
 simp [callFunc,h.at_,h1,h.body,mark]
theorem z7c {H:Array Obj} {F:Nat→Prop} {G:GSt} {args:List PV} {cargs:Array Value} (hl:args.length=cargs.size)
  (hv:∀ (i:Nat) p c,args[i]?=some p→cargs[i]?=some c→VR H F G p c) (n:Nat) (ds:List Deferred):zfi H F G (zai args) { tmps:=cargs++Array.replicate n undef,defers:=ds }:=by
 intro t
 unfold zai
 by_cases ht:t<args.length
 ·rw [List.getElem?_eq_getElem ht,Array.getD_eq_getD_getElem?,Array.getElem?_append_left (by omega),Array.getElem?_eq_getElem (by omega)]
  exact hv t _ _ (List.getElem?_eq_getElem ht) (Array.getElem?_eq_getElem (by omega))
 rw [List.getElem?_eq_none (by omega)]
 exact .imm _ _ (.undef _)
theorem VI.shut {H H':Array Obj} {F:Nat→Prop} {b:Nat} {ds:Option (List Deferred)} (hb:H[b]?=some (.deferred ds)) (hk:∀ x,x≠b→H'[x]?=H[x]?) {p:PV} {v:Value} (h:VI H F p v):VI H' (fun x=>F x∧x≠b) p v:=by
 have key:∀ {b1 i:Nat} {u:Value},zhi H b1 i=some u→b1≠b:=by
  rintro b1 i u h1 rfl
  simp [zhi,hb]at h1
 induction h with
 | int k n=>exact .int k n
 | bool b=>exact .bool b
 | str s b h=>exact .str s b h
 | agg cs vs h _ ih=>exact .agg cs vs h ih
 | tup cs vs h _ ih=>exact .tup cs vs h ih
 | nils=>exact .nils
 | sl0=>exact .sl0
 | sl cs n b1 off cap g h1 hn hc _ ih =>
  refine .sl cs n b1 off cap g (fun h=>⟨h1 h,?_⟩) hn (fun i p hi=>⟨(hc i p hi).1,?_⟩) ih
  ·cases cs with
   | nil=>exact absurd rfl h
   | cons c cs=>exact key (hc 0 c rfl).2
  have:=(hc i p hi).2
  simpa [zhi,hk b1 (key this)] using this
 | nilp=>exact .nilp
 | ip cs off b1 base g h1 hc _ ih =>
  refine .ip cs off b1 base g (fun h=>⟨h1 h,?_⟩) (fun i p hi=>⟨(hc i p hi).1,?_⟩) ih
  ·cases cs with
   | nil=>exact absurd rfl h
   | cons c cs=>exact key (hc 0 c rfl).2
  have:=(hc i p hi).2
  simpa [zhi,hk b1 (key this)] using this
 | nilf=>exact .nilf
 | yl l=>exact .yl l
 | fn f cs vs h _ ih=>exact .fn f cs vs h ih
 | bm f b v _ ih=>exact .bm f b v ih
 | nilm=>exact .nilm
 | undef v=>exact .undef v
theorem VR.shut {H H':Array Obj} {F:Nat→Prop} {G:GSt} {b:Nat} {ds:Option (List Deferred)} (hb:H[b]?=some (.deferred ds)) (hk:∀ x,x≠b→H'[x]?=H[x]?) {p:PV} {v:Value} (h:VR H F G p v):VR H' (fun x=>F x∧x≠b) G p v:=by
 induction h with
 | imm p v h=>exact .imm p v (h.shut hb hk)
 | agg cs vs e _ ih=>exact .agg cs vs e ih
 | tup cs vs e _ ih=>exact .tup cs vs e ih
 | fn f cs vs e _ ih=>exact .fn f cs vs e ih
 | loc o ver off n a len cap hv k=>exact .loc o ver off n a len cap hv k
 | ref o ver off a hv k=>exact .ref o ver off a hv k
 | mp o ver r hv k=>exact .mp o ver r hv k
theorem ybg {F0 F:Nat→Prop} {G0 G:GSt} {w0 w:World} (h0:∀ b,F0 b→b<w0.heap.size) (hi:Inv F G w) (hn:Next F0 G0 w0 F G w) {b:Nat} (hb:w.heap[b]?=some (.deferred (some []))) (hge:w0.heap.size≤b) :
  Inv (fun x=>F x∧x≠b) G (w.putObj b (.deferred none))∧Next F0 G0 w0 (fun x=>F x∧x≠b) G (w.putObj b (.deferred none)) ∧
   ∀ p v,VR w.heap F G p v→VR (w.putObj b (.deferred none)).heap (fun x=>F x∧x≠b) G p v:=by
 have hk:∀ x,x≠b→(w.putObj b (.deferred none)).heap[x]?=w.heap[x]?:=fun x hx=>World.putObj_heap_other hx
 have hv:∀ p v,VR w.heap F G p v→VR (w.putObj b (.deferred none)).heap (fun x=>F x∧x≠b) G p v:=fun p v h=>h.shut hb hk
 refine ⟨zje (fun x hx=>by rw [World.putObj_size]; exact hi.fr x hx.1) hi.ver (fun o ob l hx hF=>hi.nF o ob l hx hF.1) ?_ hi.inj,?_,hv⟩
 ·intro o ob l hx
  have hne:=z78 hi hb o _ hx
  have:=hi.holds hx
  simp only at hne
  cases ob with
  | arr ver et sz cells =>
   obtain ⟨cs,⟨fz,h1,hz⟩,h2,h3,h4⟩:=this
   exact ⟨cs,⟨fz,(hk _ hne).trans h1,hz⟩,h2,h3,fun i p hp=>⟨(h4 i p hp).1,by obtain ⟨u,k1,k2⟩:=(h4 i p hp).2; exact ⟨u,k1,hv _ _ k2⟩⟩⟩
  | map ver es =>
   obtain ⟨ents,clock,h1,h2,h3⟩:=this
   exact ⟨ents,clock,(hk _ hne).trans h1,h2,fun i k u hp=>by obtain ⟨en,k1,k2,k3⟩:=h3 i k u hp; exact ⟨en,k1,hv _ _ k2,hv _ _ k3⟩⟩
  | lp ver b1 r tmps =>
   obtain ⟨h0,t,h1,h2,h3⟩:=this
   exact ⟨h0,t,by rw [← h0]at h1 ⊢; exact (hk _ hne).trans h1,h2,fun i p v q1 q2=>hv _ _ (h3 i p v q1 q2)⟩
 refine ⟨hn.os,hn.tape,hn.output,by rw [World.putObj_size]; exact hn.size,fun x hx=>⟨hn.fsub x hx,?_⟩,fun x hx=>hn.fnew x hx.1,hn.gnew,hn.tick,fun x hx hG=>?_,hn.hand,hn.drawn⟩
 ·have:=h0 x hx; omega
 exact (hk x (by omega)).trans (hn.keep x hx hG)
theorem zov (hT:zby P T) {F0:Nat→Prop} {G0:GSt} {w0:World} (h0:∀ b,F0 b→b<w0.heap.size) {fn:Func} {a:Act} {v:PV} {Fe:Fence} {n:Nat} {R:Ending→World→Prop} :
  ∀ (bs:List Nat) {F:Nat→Prop} {G:GSt} {w:World},Inv F G w→zfi w.heap F G e a→Next F0 G0 w0 F G w→zvy T G.er e fn.results.toList=some v→bs.Nodup →
   (∀ b∈bs,w0.heap.size≤b∧w.heap[b]?=some (.deferred (some []))) →
   (∀ F' w' cv,Inv F' G w'→Next F0 G0 w0 F' G w'→VR w'.heap F' G v cv→R (.returned cv) w') →
   LeavesInM Fe n P fn a.tmps R (bs.map fun b=>{ target := .collected b,args := #[] }) .returning w
 | [],F,G,w,hi,he,hn,hr,_,_,hR=>by
  obtain ⟨cv,c1,c2⟩:=yav hT hi he hr
  exact ⟨cv,c1,hR _ _ _ hi hn c2⟩
 | b::bs,F,G,w,hi,he,hn,hr,hnd,hb,hR=>by
  obtain ⟨hge,hd⟩:=hb b (by simp)
  obtain ⟨i1,i2,i3⟩:=ybg h0 hi hn hd hge
  refine ⟨by simp,.inl ⟨b,_,rfl,run_takeDeferred hd,?_⟩⟩
  refine zov hT h0 bs i1 (fun t=>i3 _ _ (he t)) i2 hr (List.nodup_cons.1 hnd).2 (fun x hx=>⟨(hb x (by simp [hx])).1,?_⟩) hR
  have hne:x≠b:=by rintro rfl; exact (List.nodup_cons.1 hnd).1 hx
  exact (World.putObj_heap_other hne).trans (hb x (by simp [hx])).2
theorem Fn.calls_of {f:FuncId} {fn:Func} (h:Fn P f fn c) (hT:zby P T) {args:List PV} {K:PV→Store→Prop} (hn:args.length≤fn.ntmps) {F:Nat→Prop} {G:GSt} {w:World} {cargs:Array Value} (hi:Inv F G w) (hl:args.length=cargs.size)
  (hw:c.wpIn (fnc none) 0 P (Sto F G w fn.ntmps (zfj T fn.results.toList K)) { tmps:=cargs++Array.replicate (fn.ntmps - cargs.size) undef,defers:=[] } w) :
  Calls P f cargs w fun e w'=>∃ v cv F' G',e = .returned cv∧K v G'.er∧Inv F' G' w'∧Next F G w F' G' w'∧VR w'.heap F' G' v cv:=by
 refine (callsIn_wide (n:=0)).1 (callsIn_of_wp_marks h.at_ h.body trivial (wpIn_mono hw ?_))
 rintro x a' w' ⟨e',F',G',k1,k2,k3,k4,_,bs,k6,k7,k8⟩
 have key:zi1 (zvy T G'.er e' fn.results.toList) (fun v=>K v G'.er)→LeavesInM Fence.wide 0 P fn a'.tmps
   (fun e w'=>∃ v cv F' G',e = .returned cv∧K v G'.er∧Inv F' G' w'∧Next F G w F' G' w'∧VR w'.heap F' G' v cv) a'.defers .returning w':=by
  intro hg
  obtain ⟨v,hv1,hv2⟩:=zmj.1 hg
  rw [k6]
  exact zov hT hi.fr bs k2 k3 k4 hv1 k7 k8 fun F2 w2 cv i1 i2 i3=>⟨v,cv,F2,G',rfl,hv2,i1,i2,i3⟩
 cases x with
 | normal=>exact key k1
 | ret=>exact key k1
 | _=>exact k1.elim
theorem Fn.calls {f:FuncId} {fn:Func} (h:Fn P f fn c) (hT:zby P T) (hm:P.follows .mixedOrders=true) {args:List PV} {K:PV→Store→Prop} (hn:args.length≤fn.ntmps)
  (hw:W P T c (zfj T fn.results.toList K) (zai args) S) {F:Nat→Prop} {G:GSt} {w:World} {cargs:Array Value} (hS:G.er=S) (hi:Inv F G w) (hl:args.length=cargs.size)
  (hv:∀ (i:Nat) p c,args[i]?=some p→cargs[i]?=some c→VR w.heap F G p c) :
  Calls P f cargs w fun e w'=>∃ v cv F' G',e = .returned cv∧K v G'.er∧Inv F' G' w'∧Next F G w F' G' w'∧VR w'.heap F' G' v cv :=
 h.calls_of hT hn hi hl (hw.run (R:=none) (nn:=0) hT hm F G w fn.ntmps F G _ w hS hi (z7c hl hv _ _) (Next.refl w) (by simp; omega) Marks.nil h.dst)
theorem Ev.of {f:FuncId} {fn:Func} (h:Fn P f fn c) (hT:zby P T) (hm:P.follows .mixedOrders=true) {args:List PV} {J:PV→Store→Prop} (hn:args.length≤fn.ntmps)
  (hw:W P T c (zfj T fn.results.toList fun v S1=>∃ k,J v (S1.take k)) (zai args) S):Ev P f args S J:=by
 refine ⟨h.ent,fun F G w cargs hS hi hl hv=>(h.calls hT hm hn hw hS hi hl hv).mono ?_⟩
 rintro en w' ⟨v',cv,F',G',k1,⟨k,k2⟩,k3,k4,k5⟩
 obtain ⟨i1,i2⟩:=zft k3 k
 exact ⟨v',cv,F',G'.take k,k1,(zjr G' k).symm ▸ k2,i1,k4.trans i2,k5.next k3 i2⟩
theorem PC.of {f:FuncId} {fn:Func} (h:Fn P f fn c) (hT:zby P T) (hm:P.follows .mixedOrders=true) {args:List PV} {r:PV} {fr:Bool} (hn:args.length≤fn.ntmps)
  (hw:W P T c (zfj T fn.results.toList fun v S=>reify S (!fr) 10 v=some r) (zai args) ⟨[],0⟩):PC P f args r fr:=by
 refine ⟨h.ent,fun F w cargs hF hl hv=>?_⟩
 have hi:Inv F ⟨[],0⟩ w:=⟨hF,by simp,by simp,by simp,by simp,by simp,by simp⟩
 refine (h.calls hT hm hn hw rfl hi hl fun i p c q1 q2 => .imm _ _ (hv i p c q1 q2)).mono ?_
 rintro en w' ⟨v',cv,F',G',rfl,k2,k3,k4,k5⟩
 refine ⟨cv,rfl,⟨⟨k4.os,k4.tape,k4.output,k4.size,fun b hb=>k4.keep b hb (by simp)⟩,k4.drawn⟩,(zem k3 k5 k2).mono ?_ (fun _ _=>rfl)⟩
 rintro b (⟨h1,h2⟩ | ⟨o,x,hx,rfl⟩)
 ·rcases k4.fnew b h2 with h3 | h3 | ⟨o,x,hx,_⟩
  ·exact .inr ⟨by simpa using h1,h3⟩
  ·exact .inl ⟨h3,k3.fr b h2⟩
  simp at hx
 rcases k4.gnew o x hx with h3 | ⟨o',y,hy,_⟩
 ·exact .inl ⟨h3,k3.blk_lt hx⟩
 simp at hy
end
end
def yhd:TK→TypeDesc→Bool
 | .bool,.bool=>true
 | .int k,.int k'=>k == k'
 | .str,.string=>true
 | .slice e,.slice e'=>e == e'
 | .ptr e,.pointer e'=>e == e'
 | .arr n e,.array n' e'=>n == n' && e == e'
 | .struct fs,.struct gs=>decide (fs=gs.toList.map fun f=>(f.offset,f.type))
 | .map k v,.map k' v'=>k == k' && v == v'
 | .func,.func _ _ _=>true
 | _,_=>false
theorem z5l {k:TK} {d:TypeDesc} (h:yhd k d=true):k.fits d:=by
 cases k <;> cases d <;> simp_all [yhd,TK.fits]
def okZ (ti:TI) (z:Value):Bool :=
 ti.zero.length == z.cells.size && z.cells.size == ti.size && ((List.range ti.size).all fun k=>match ti.zero[k]?,z.cells[k]? with | some p,some v=>ycm p v | _,_=>true) &&
  (ti.kd.isAgg == match z with | .agg _=>true | _=>false)
def ykg (T:Tab) (k:TK):Bool :=
 match k with
 | .slice e | .arr _ e => !decide ((T e).kd = .none)
 | .struct fs=>fs.all fun f => !decide ((T f.2).kd = .none)
 | .map k v => !decide ((T k).kd = .none) && !decide ((T v).kd = .none)
 | _=>true
def okEq (P:Program) (T:Tab) (t:TypeId) (k:TK):Bool :=
 match k with
 | .struct fs => !zg9 T fs 0 || eqT P t
 | _=>true
def okT (P:Program) (T:Tab) (t:TypeId) (ti:TI):Bool :=
 match P.info? t,P.underlying t with
 | some i,some d=>yhd ti.kd d && i.size == ti.size && i.bytes == ti.bytes && (match i.zero with | some z=>okZ ti z | none=>false) && ykg T ti.kd && okEq P T t ti.kd
 | _,_=>false
theorem z9z {P:Program} {T:Tab} {t:TypeId} (h:okT P T t (T t)=true):TOk P T t:=by
 unfold okT at h
 split at h
 ·rename_i i d h1 h2
  simp only[qB,beq_iff_eq]at h
  obtain ⟨⟨⟨⟨⟨h3,h4⟩,h5⟩,h6⟩,h7⟩,h8⟩:=h
  split at h6
  ·rename_i z hz
   unfold okZ at h6
   simp only[qB,beq_iff_eq,List.all_eq_true,List.mem_range]at h6
   obtain ⟨⟨⟨k1,k2⟩,k3⟩,k4⟩:=h6
   refine ⟨⟨i,d,z,h1,h2,z5l h3,h4,h5,hz,k1,k2,fun k p v q1 q2=>?_,k4⟩,?_,?_⟩
   ·have hk:k<(T t).size:=by
     have:=(List.getElem?_eq_some_iff.1 q1).1
     omega
    have:=k3 k hk
    rw [q1,q2]at this
    exact this
   ·unfold ykg at h7
    cases hk:(T t).kd <;> rw [hk]at h7 <;> first
     | trivial
     | (intro f hf; simp only[List.all_eq_true]at h7; simpa using h7 f hf)
     | (simp_all; done)
   unfold okEq at h8
   cases hk:(T t).kd <;> rw [hk]at h8 <;> first
    | trivial
    | (intro hf; simpa [hf] using h8)
  cases h6
 cases h
def lk:List (Nat × TI)→Tab
 | [],_=>⟨.none,0,0,[]⟩
 | (k,v)::r,t=>if t=k then v else lk r t
theorem ykc {P:Program} {T:Tab}:∀ {L:List (Nat × TI)},L.all (fun x=>okT P T x.1 x.2)=true→∀ t,(lk L t).kd ≠ .none→okT P T t (lk L t)=true
 | [],_,t,h=>absurd rfl h
 | (k,v)::r,h,t,hk=>by
  simp only[List.all_cons,qB]at h
  unfold lk at hk ⊢
  split
  ·rename_i e; rw [e]; exact h.1
  rename_i e; rw [if_neg e]at hk; exact ykc h.2 t hk
theorem ykr {P:Program} {L:List (Nat × TI)} (h:L.all (fun x=>okT P (lk L) x.1 x.2)=true):zby P (lk L) :=
 fun t ht=>z9z (ykc h t ht)
section
def dsts:List Oper→List (Option Tmp)
 | []=>[]
 | o::r=>o.dst::dsts r
theorem z2u:dsts []=[]:=rfl
theorem zw8 {d:Option Tmp} {op:Op} {t:TypeId} {p:String} {a:Array Edge} {g:Option (Nat × Bool)} {r:List Oper}:dsts (⟨d,op,t,p,a,g⟩::r)=d::dsts r:=rfl
def gd (ds:List (Option Tmp)) (g:Option (Nat × Bool)) (e:Env):Option Bool :=
 match g with
 | none=>some true
 | some (j,want) =>
  match ds[j]? with
  | some (some d)=>match e d with
   | .bool b=>some (b == want)
   | .tup []=>some false
   | _=>none
  | _=>none
def sOp (D:Bool) (P:Program) (T:Tab) (e:Env) (S:Store) (o:Op) (K:PV→Store→Prop):Prop :=
 match o with
 | .call ⟨.value f,xs,ts⟩ =>
  match e.ev f with
  | .fn g cap =>
   match D with
   | true=>∃ v tx fr,(xs.toList.map e.ev++cap).mapM (reify S true 10)=some tx∧(fr=true∨(xs.toList.map e.ev++cap).mapM (reify ⟨[],0⟩ true 10)=some tx)∧PC P g tx v fr∧K v S
   | false=>∃ J,Ev P g (xs.toList.map e.ev++cap) S J∧∀ v S',J v S'→K v S'
  | .bm g b =>
   match D with
   | true=>∃ v tx fr,(b::xs.toList.map e.ev).mapM (reify S true 10)=some tx∧(fr=true∨(b::xs.toList.map e.ev).mapM (reify ⟨[],0⟩ true 10)=some tx)∧PC P g tx v fr∧K v S
   | false=>∃ J,Ev P g (b::xs.toList.map e.ev) S J∧∀ v S',J v S'→K v S'
  | .yl l =>
   match D with
   | true=>False
   | false=>∃ J,Ey P l (xs.toList.map e.ev) S J∧∀ v S',J v S'→K v S'
  | _=>False
 | o=>pOp P T e S o K
theorem zjm {D:Bool} {P:Program} {T:Tab} {e:Env} {S:Store} {o:Op} {K:PV→Store→Prop} (h:sOp D P T e S o K):pOp P T e S o K:=by
 unfold sOp at h
 split at h
 ·rename_i f xs ts
  unfold pOp
  simp only[zsi]
  split at h
  ·rename_i g cap hf
   simp only[hf]
   cases D with
   | true=>obtain ⟨v,tx,fr,h1,h2,h3,h4⟩:=h; exact ⟨_,h3.ev h1 h2,by rintro v' S' ⟨rfl,rfl⟩; exact h4⟩
   | false=>exact h
  ·rename_i g cap hf
   simp only[hf]
   cases D with
   | true=>obtain ⟨v,tx,fr,h1,h2,h3,h4⟩:=h; exact ⟨_,h3.ev h1 h2,by rintro v' S' ⟨rfl,rfl⟩; exact h4⟩
   | false=>exact h
  ·rename_i l hf
   simp only[hf]
   cases D with
   | true=>exact h.elim
   | false=>exact h
  exact h.elim
 exact h
def zbq (D:Bool) (P:Program) (T:Tab) (ds:List (Option Tmp)):List Oper→Env→Store→(Env→Store→Prop)→Prop
 | [],e,S,Q=>Q e S
 | o::r,e,S,Q =>
  match gd ds o.guard e with
  | some true=>sOp D P T e S o.op fun v S'=>zbq D P T ds r (e.put o.dst v) S' Q
  | some false=>zbq D P T ds r (e.put o.dst (.tup [])) S Q
  | none=>False
theorem z2t:∀ (l:List Oper) (j:Nat),(dsts l)[j]?=(l[j]?).map (·.dst)
 | [],j=>by simp [dsts]
 | o::l,0=>by simp [dsts]
 | o::l,j+1=>by simp [dsts,z2t l j]
theorem zjd {l:List Oper} {o:Oper} {e:Env}:gd (dsts l) o.guard e=gdec l.toArray o e:=by
 unfold gd gdec
 cases o.guard with
 | none=>rfl
 | some q =>
  obtain ⟨j,want⟩:=q
  simp only[z2t,List.getElem?_toArray]
  cases l[j]? with
  | none=>rfl
  | some o'=>simp only[qO,Option.bind_some]; cases o'.dst <;> rfl
section
variable {P:Program} {T:Tab} {Q:Exit→Env→Store→Prop} {e:Env} {S:Store} {a b c:Code}
theorem zql {D:Bool} {l:List Oper} {K:Env→Store→Prop}:∀ (r:List Oper) (e:Env) (S:Store),zbq D P T (dsts l) r e S K→yia P T l.toArray K r e S
 | [],_,_,h=>h
 | o::r,e,S,h=>by
  unfold zbq at h
  unfold yia zdw
  rw [zjd]at h
  split at h
  ·rename_i hg; rw [hg]; exact zey (fun v S'=>zql r _ _) (zjm h)
  ·rename_i hg; rw [hg]; exact zql r _ _ h
  exact h.elim
theorem W.k {id:Nat} {l:List Oper} (h:∀ K:Env→Store→Prop,(∀ e S,Q .normal e S→K e S)→zbq false P T (dsts l) l e S K):W P T (.region id l.toArray false) Q e S :=
 W.region (zql _ _ _ (h _ fun _ _ h=>h))
theorem W.r {id:Nat} {l:List Oper} (h:∀ K:Env→Store→Prop,(∀ e S,W P T b Q e S→K e S)→zbq false P T (dsts l) l e S K):W P T (.seq (.region id l.toArray false) b) Q e S :=
 W.seq (W.k fun K hK=>h K hK)
theorem xn {n:Env→Store→Prop} (h:n e S):XThen n Q .normal e S:=h
theorem xe {n:Env→Store→Prop} {i:Nat} (h:Q (.exit i) e S):XThen n Q (.exit i) e S:=h
theorem XThen.ret {n:Env→Store→Prop} (h:Q .ret e S):XThen n Q .ret e S:=h
theorem XbN {i:Nat} (h:Q .normal e S):XBlock i Q .normal e S:=h
theorem XBlock.ret {i:Nat} (h:Q .ret e S):XBlock i Q .ret e S:=h
theorem XBlock.hit {i:Nat} (h:Q .normal e S):XBlock i Q (.exit i) e S:=by simpa [XBlock] using h
theorem z8e {t:Tmp}:e.ev (.tmp t)=e t:=rfl
theorem z26 {v:Value}:e.ev (.const v)=zgo v:=rfl
theorem z8d {f:FuncId}:e.ev (.func f) = .fn f []:=rfl
def evS (e:Env) (x:Operand):Option PV:=some (e.ev x)
theorem z8c {t:Tmp}:evS e (.tmp t)=some (e t):=rfl
theorem zxk {v:Value}:evS e (.const v)=some (zgo v):=rfl
theorem z22 {f:FuncId}:evS e (.func f)=some (.fn f []):=rfl
theorem zvt {d t:Nat} {v:PV}:(e.put (some d) v) t=if t=d then v else e t:=rfl
theorem z39 {v:PV}:e.put none v=e:=rfl
def zac (D:Bool) (P:Program) (T:Tab) (ds:List (Option Tmp)) (g:FuncId) (xs:List PV) (S:Store) (d:Option Tmp) (r:List Oper) (e:Env) (Q:Env→Store→Prop):Prop :=
 match D with
 | true=>∃ v tx fr,xs.mapM (reify S true 10)=some tx∧(fr=true∨xs.mapM (reify ⟨[],0⟩ true 10)=some tx)∧PC P g tx v fr∧zbq true P T ds r (e.put d v) S Q
 | false=>∃ J,Ev P g xs S J∧∀ v S',J v S'→zbq false P T ds r (e.put d v) S' Q
def zui (D:Bool) (P:Program) (T:Tab) (ds:List (Option Tmp)) (l:Nat) (xs:List PV) (S:Store) (d:Option Tmp) (r:List Oper) (e:Env) (Q:Env→Store→Prop):Prop :=
 match D with
 | true=>False
 | false=>∃ J,Ey P l xs S J∧∀ v S',J v S'→zbq false P T ds r (e.put d v) S' Q
variable {D:Bool} {ds:List (Option Tmp)} {d:Option Tmp} {t:TypeId} {p:String} {af:Array Edge} {g:Option (Nat × Bool)} {r:List Oper} {K:Env→Store→Prop}
theorem zac.ev {f:FuncId} {xs:List PV} {J:PV→Store→Prop} (h:Ev P f xs S J) (k:∀ v S',J v S'→zbq false P T ds r (e.put d v) S' K):zac false P T ds f xs S d r e K:=⟨J,h,k⟩
theorem zui.ey {l:Nat} {xs:List PV} {J:PV→Store→Prop} (h:Ey P l xs S J) (k:∀ v S',J v S'→zbq false P T ds r (e.put d v) S' K):zui false P T ds l xs S d r e K:=⟨J,h,k⟩
theorem zac.pc {f:FuncId} {xs ts:List PV} {v:PV} {fr:Bool} (h:PC P f ts v fr) (h1:xs.mapM (reify S true 10)=some ts) (h2:fr=true∨xs.mapM (reify ⟨[],0⟩ true 10)=some ts)
  (k:zbq D P T ds r (e.put d v) S K):zac D P T ds f xs S d r e K:=by
 cases D with
 | true=>exact ⟨v,ts,fr,h1,h2,h,k⟩
 | false=>exact ⟨_,h.ev h1 h2,by rintro v' S' ⟨rfl,rfl⟩; exact k⟩
def ztf:Op→Bool
 | .alloc _ | .box .. | .buildSlice .. | .makeSlice .. | .makeMap .. | .store .. | .mapUpdate .. | .insert .. => false
 | .call ⟨.builtin .append,_,_⟩=>false
 | .call ⟨.builtin .clear,_,_⟩=>false
 | .call ⟨.builtin .copy,_,_⟩=>false
 | _=>true
def zko:List Oper→Nat→List Nat
 | [],_=>[]
 | o::r,i=>if ztf o.op then zko r (i+1) else i::zko r (i+1)
theorem zqm:∀ (l:List Oper) (k i:Nat) (o:Oper),l[i]?=some o→k+i ∉ zko l k→ztf o.op=true
 | [],_,_,_,h,_=>by simp at h
 | o'::l,k,0,o,h,hn=>by
  simp at h; subst h
  unfold zko at hn
  split at hn
  ·assumption
  simp at hn
 | o'::l,k,i+1,o,h,hn=>by
  simp only[List.getElem?_cons_succ]at h
  refine zqm l (k+1) i o h fun hm=>hn ?_
  unfold zko
  split
  ·rwa [show k+(i+1)=k+1+i by omega]
  rw [show k+(i+1)=k+1+i by omega]; exact List.mem_cons_of_mem _ hm
theorem z8g {o:Op} {K:PV→Store→Prop} (hf:ztf o=true) (h:sOp true P T e S o K):z64 P T S e o fun v=>K v S:=by
 unfold sOp at h
 split at h
 ·rename_i f xs ts
  simp only[z64]
  split at h
  ·rename_i g cap hf
   simp only[hf]
   obtain ⟨v,tx,fr,h1,h2,h3,h4⟩:=h
   exact ⟨v,tx,fr,h1,h2,h3,h4⟩
  ·rename_i g cap hf
   simp only[hf]
   obtain ⟨v,tx,fr,h1,h2,h3,h4⟩:=h
   exact ⟨v,tx,fr,h1,h2,h3,h4⟩
  ·exact h.elim
  exact h.elim
 rename_i hne
 cases o with
 | call c =>
  obtain ⟨cal,xs,ts⟩:=c
  cases cal with
  | value f=>exact absurd rfl (hne f xs ts)
  | builtin b =>
   cases b <;> first
    | (simp [ztf]at hf; done)
    | exact h
  | _=>exact h
 | _=>first
  | (simp [ztf]at hf; done)
  | exact h
theorem zjy {all:List Oper} {K:Env→Store→Prop}:∀ (r:List Oper) (k:Nat) (e:Env) (S:Store),all.drop k=r→zbq true P T (dsts all) r e S K →
  zdg P T all.toArray (zko all 0) [] [] K (List.range' k r.length) e S
 | [],_,_,_,_,h=>h
 | o::r,k,e,S,hk,h=>by
  have ho:all[k]?=some o:=by
   have:=congrArg (fun l=>l[0]?) hk
   simpa using this
  have hr:all.drop (k+1)=r:=by
   have:=congrArg (List.drop 1) hk
   simpa [List.drop_drop] using this
  unfold zbq at h
  simp only[List.length_cons,List.range'_succ,zdg,List.getElem?_toArray,ho]
  rw [zjd]at h
  unfold zdw
  split at h
  ·rename_i hg
   rw [hg]
   simp only
   split
   ·rename_i hc
    exact zey (fun v S' hv=>⟨.inr (by intro o ho; cases ho),zjy r (k+1) _ _ hr hv⟩) (zjm h)
   rename_i hc
   have hflat:=zqm all 0 k o ho (by simpa using hc)
   have:=z8g hflat h
   rw [zc0]at this ⊢
   obtain ⟨v,h1,h2⟩:=this
   exact ⟨v,h1,by simp,zjy r (k+1) _ _ hr h2⟩
  ·rename_i hg; rw [hg]; exact zjy r (k+1) _ _ hr h
  exact h.elim
theorem W.draw_k {id:Nat} {l:List Oper} (hc:zhy l.toArray (List.range' 0 l.length) (zko l 0) []=true) (h:∀ K:Env→Store→Prop,(∀ e S,Q .normal e S→K e S)→zbq true P T (dsts l) l e S K) :
  W P T (.region id l.toArray true) Q e S :=
 W.region_any (List.range' 0 l.length) (zko l 0) [] [] hc (zjy l 0 _ _ rfl (h _ fun _ _ h=>h))
theorem W.seq_draw {id:Nat} {l:List Oper} (hc:zhy l.toArray (List.range' 0 l.length) (zko l 0) []=true) (h:∀ K:Env→Store→Prop,(∀ e S,W P T b Q e S→K e S)→zbq true P T (dsts l) l e S K) :
  W P T (.seq (.region id l.toArray true) b) Q e S :=
 W.seq (W.draw_k hc fun K hK=>h K hK)
theorem z20:zbq D P T ds [] e S K=K e S:=rfl
theorem zxe {x:Operand}:zbq D P T ds (⟨d,.move x,t,p,af,g⟩::r) e S K =
  (match gd ds g e with | some true=>(match evS e x with | some v=>zbq D P T ds r (e.put d v) S K | none=>False) | some false=>zbq D P T ds r (e.put d (.tup [])) S K | none=>False):=by
 rw [zbq]; cases D <;> rfl
theorem zqi {x:Operand}:zbq D P T ds (⟨d,.assign x,t,p,af,g⟩::r) e S K =
  (match gd ds g e with | some true=>(match evS e x with | some v=>zbq D P T ds r (e.put d v) S K | none=>False) | some false=>zbq D P T ds r (e.put d (.tup [])) S K | none=>False):=by
 rw [zbq]; cases D <;> rfl
theorem zxf {x y z:Operand}:zbq D P T ds (⟨d,.pick x y z,t,p,af,g⟩::r) e S K =
  (match gd ds g e with | some true=>(match yea (e.ev x) (e.ev y) (e.ev z) with | some v=>zbq D P T ds r (e.put d v) S K | none=>False) | some false=>zbq D P T ds r (e.put d (.tup [])) S K | none=>False):=by
 rw [zbq]; cases D <;> rfl
theorem zxd {t1:TypeId} {x:Operand}:zbq D P T ds (⟨d,.load t1 x,t,p,af,g⟩::r) e S K =
  (match gd ds g e with | some true=>(match zsj (T t1) S (e.ev x) with | some v=>zbq D P T ds r (e.put d v) S K | none=>False) | some false=>zbq D P T ds r (e.put d (.tup [])) S K | none=>False):=by
 rw [zbq]; cases D <;> rfl
theorem zlz {x:Operand}:zbq D P T ds (⟨d,.nilCheck x,t,p,af,g⟩::r) e S K =
  (match gd ds g e with | some true=>(match zha S (e.ev x) with | some v=>zbq D P T ds r (e.put d v) S K | none=>False) | some false=>zbq D P T ds r (e.put d (.tup [])) S K | none=>False):=by
 rw [zbq]; cases D <;> rfl
theorem zs2 {op:BinOp} {t1 t2:TypeId} {x y:Operand}:zbq D P T ds (⟨d,.binOp op t1 x y t2,t,p,af,g⟩::r) e S K =
  (match gd ds g e with | some true=>(match yje T S op t1 (e.ev x) (e.ev y) with | some v=>zbq D P T ds r (e.put d v) S K | none=>False) | some false=>zbq D P T ds r (e.put d (.tup [])) S K | none=>False):=by
 rw [zbq]; cases D <;> rfl
theorem zxg {op:UnOp} {t1:TypeId} {x:Operand}:zbq D P T ds (⟨d,.unOp op t1 x,t,p,af,g⟩::r) e S K =
  (match gd ds g e with | some true=>(match pUn op (e.ev x) with | some v=>zbq D P T ds r (e.put d v) S K | none=>False) | some false=>zbq D P T ds r (e.put d (.tup [])) S K | none=>False):=by
 rw [zbq]; cases D <;> rfl
theorem zok {t1 t2:TypeId} {x:Operand}:zbq D P T ds (⟨d,.convert t1 t2 x,t,p,af,g⟩::r) e S K =
  (match gd ds g e with | some true=>(match zj3 T S t1 t2 (e.ev x) with | some v=>zbq D P T ds r (e.put d v) S K | none=>False) | some false=>zbq D P T ds r (e.put d (.tup [])) S K | none=>False):=by
 rw [zbq]; cases D <;> rfl
theorem zly {fn:Go.Fn} {xs ys:Array Operand}:zbq D P T ds (⟨d,.makeFunc fn xs ys,t,p,af,g⟩::r) e S K =
  (match gd ds g e with | some true=>(match zml fn (xs.toList.map e.ev) (ys.toList.map e.ev) with | some v=>zbq D P T ds r (e.put d v) S K | none=>False) | some false=>zbq D P T ds r (e.put d (.tup [])) S K | none=>False):=by
 rw [zbq]; cases D <;> rfl
theorem zs7 {t1:TypeId} {x:Operand} {lo hi:Option Operand}:zbq D P T ds (⟨d,.slice t1 x lo hi none,t,p,af,g⟩::r) e S K =
  (match gd ds g e with | some true=>(match zyp T S t1 (e.ev x) (lo.map e.ev) (hi.map e.ev) with | some v=>zbq D P T ds r (e.put d v) S K | none=>False) | some false=>zbq D P T ds r (e.put d (.tup [])) S K | none=>False):=by
 rw [zbq]; cases D <;> rfl
theorem zkk {t1:TypeId} {x:Operand} {n:Nat}:zbq D P T ds (⟨d,.fieldAddr t1 x n,t,p,af,g⟩::r) e S K =
  (match gd ds g e with | some true=>(match zf7 T S t1 (e.ev x) n with | some v=>zbq D P T ds r (e.put d v) S K | none=>False) | some false=>zbq D P T ds r (e.put d (.tup [])) S K | none=>False):=by
 rw [zbq]; cases D <;> rfl
theorem zs5 {t1:TypeId} {x:Operand} {n:Nat}:zbq D P T ds (⟨d,.field t1 x n,t,p,af,g⟩::r) e S K =
  (match gd ds g e with | some true=>(match zyi T t1 (e.ev x) n with | some v=>zbq D P T ds r (e.put d v) S K | none=>False) | some false=>zbq D P T ds r (e.put d (.tup [])) S K | none=>False):=by
 rw [zbq]; cases D <;> rfl
theorem zkl {t1:TypeId} {x y:Operand}:zbq D P T ds (⟨d,.indexAddr t1 x y,t,p,af,g⟩::r) e S K =
  (match gd ds g e with | some true=>(match zf8 T S t1 (e.ev x) (e.ev y) with | some v=>zbq D P T ds r (e.put d v) S K | none=>False) | some false=>zbq D P T ds r (e.put d (.tup [])) S K | none=>False):=by
 rw [zbq]; cases D <;> rfl
theorem zs6 {t1:TypeId} {x y:Operand}:zbq D P T ds (⟨d,.index t1 x y,t,p,af,g⟩::r) e S K =
  (match gd ds g e with | some true=>(match zyl T t1 (e.ev x) (e.ev y) with | some v=>zbq D P T ds r (e.put d v) S K | none=>False) | some false=>zbq D P T ds r (e.put d (.tup [])) S K | none=>False):=by
 rw [zbq]; cases D <;> rfl
theorem zol {x:Operand} {n:Nat}:zbq D P T ds (⟨d,.extract x n,t,p,af,g⟩::r) e S K =
  (match gd ds g e with | some true=>(match zpm (e.ev x) n with | some v=>zbq D P T ds r (e.put d v) S K | none=>False) | some false=>zbq D P T ds r (e.put d (.tup [])) S K | none=>False):=by
 rw [zbq]; cases D <;> rfl
theorem zs3 {t1:TypeId} {ps:Array (Nat × Operand)}:zbq D P T ds (⟨d,.build t1 ps,t,p,af,g⟩::r) e S K =
  (match gd ds g e with | some true=>(match zyf T t1 (ps.toList.map fun p=>(p.1,e.ev p.2)) with | some v=>zbq D P T ds r (e.put d v) S K | none=>False) | some false=>zbq D P T ds r (e.put d (.tup [])) S K | none=>False):=by
 rw [zbq]; cases D <;> rfl
theorem zqk {t1:TypeId} {x y:Operand} {ok:Bool}:zbq D P T ds (⟨d,.lookup t1 x y ok,t,p,af,g⟩::r) e S K =
  (match gd ds g e with | some true=>(match zrd T S t1 (e.ev x) (e.ev y) ok with | some v=>zbq D P T ds r (e.put d v) S K | none=>False) | some false=>zbq D P T ds r (e.put d (.tup [])) S K | none=>False):=by
 rw [zbq]; cases D <;> rfl
theorem z2x {xs:Array Operand} {ts:Array TypeId}:zbq D P T ds (⟨d,.call ⟨.builtin .len,xs,ts⟩,t,p,af,g⟩::r) e S K =
  (match gd ds g e with | some true=>(match zfq T S (.builtin .len) (xs.toList.map e.ev) ts.toList with | some v=>zbq D P T ds r (e.put d v) S K | none=>False) | some false=>zbq D P T ds r (e.put d (.tup [])) S K | none=>False):=by
 rw [zbq]; cases D <;> rfl
theorem z2y {xs:Array Operand} {ts:Array TypeId}:zbq D P T ds (⟨d,.call ⟨.builtin .max,xs,ts⟩,t,p,af,g⟩::r) e S K =
  (match gd ds g e with | some true=>(match yd8 (xs.toList.map e.ev) with | some v=>zbq D P T ds r (e.put d v) S K | none=>False) | some false=>zbq D P T ds r (e.put d (.tup [])) S K | none=>False):=by
 rw [zbq]; cases D <;> rfl
theorem z2z {xs:Array Operand} {ts:Array TypeId}:zbq D P T ds (⟨d,.call ⟨.builtin .min,xs,ts⟩,t,p,af,g⟩::r) e S K =
  (match gd ds g e with | some true=>(match yd9 (xs.toList.map e.ev) with | some v=>zbq D P T ds r (e.put d v) S K | none=>False) | some false=>zbq D P T ds r (e.put d (.tup [])) S K | none=>False):=by
 rw [zbq]; cases D <;> rfl
theorem zqh {x y:Operand} {t1 t2:TypeId}:zbq D P T ds (⟨d,.call ⟨.builtin .append,#[x,y],#[t1,t2]⟩,t,p,af,g⟩::r) e S K =
  (match gd ds g e with | some true=>(match yk3 T t1 t2 (e.ev y) with | some y=>zjg T t1 S (e.ev x) y fun v S=>zbq D P T ds r (e.put d v) S K | none=>False) | some false=>zbq D P T ds r (e.put d (.tup [])) S K | none=>False):=by
 rw [zbq]; cases D <;> rfl
theorem zxc {x y:Operand} {t1 t2:TypeId}:zbq D P T ds (⟨d,.call ⟨.builtin .copy,#[x,y],#[t1,t2]⟩,t,p,af,g⟩::r) e S K =
  (match gd ds g e with | some true=>(z54 T t1 S (e.ev x) (e.ev y) fun v S=>zbq D P T ds r (e.put d v) S K) | some false=>zbq D P T ds r (e.put d (.tup [])) S K | none=>False):=by
 rw [zbq]; cases D <;> rfl
theorem zs4 {x:Operand} {t1:TypeId}:zbq D P T ds (⟨d,.call ⟨.builtin .clear,#[x],#[t1]⟩,t,p,af,g⟩::r) e S K =
  (match gd ds g e with | some true=>(zto T t1 S (e.ev x) fun v S=>zbq D P T ds r (e.put d v) S K) | some false=>zbq D P T ds r (e.put d (.tup [])) S K | none=>False):=by
 rw [zbq]; cases D <;> rfl
theorem zxb {f:Operand} {xs:Array Operand} {ts:Array TypeId}:zbq D P T ds (⟨d,.call ⟨.value f,xs,ts⟩,t,p,af,g⟩::r) e S K =
  (match gd ds g e with | some true=>(match e.ev f with | .fn f1 cap=>zac D P T ds f1 (xs.toList.map e.ev++cap) S d r e K | .bm f1 b=>zac D P T ds f1 (b::xs.toList.map e.ev) S d r e K | .yl l=>zui D P T ds l (xs.toList.map e.ev) S d r e K | _=>False) | some false=>zbq D P T ds r (e.put d (.tup [])) S K | none=>False):=by
 rw [zbq]; cases D <;> rfl
theorem zs1 {t1:TypeId}:zbq D P T ds (⟨d,.alloc t1,t,p,af,g⟩::r) e S K =
  (match gd ds g e with | some true=>((T t1).kd ≠ .none∧zbq D P T ds r (e.put d (.ref S.obs.length S.tick 0)) (S.push t1 (T t1).size (T t1).zero) K) | some false=>zbq D P T ds r (e.put d (.tup [])) S K | none=>False):=by
 rw [zbq]; cases D <;> rfl
theorem z2w {t1:TypeId} {x:Operand}:zbq D P T ds (⟨d,.box t1 x,t,p,af,g⟩::r) e S K =
  (match gd ds g e with | some true=>((T t1).kd ≠ .none∧(e.ev x).cells.length=(T t1).size∧zb9 (e.ev x).cells∧zbq D P T ds r (e.put d (.ref S.obs.length S.tick 0)) (S.push t1 (T t1).size (e.ev x).cells) K) | some false=>zbq D P T ds r (e.put d (.tup [])) S K | none=>False):=by
 rw [zbq]; cases D <;> rfl
theorem zom {t1:TypeId}:zbq D P T ds (⟨d,.makeMap t1 none,t,p,af,g⟩::r) e S K =
  (match gd ds g e with | some true=>(zbq D P T ds r (e.put d (.mp S.obs.length S.tick)) S.pushMap K) | some false=>zbq D P T ds r (e.put d (.tup [])) S K | none=>False):=by
 rw [zbq]; simp only[sOp,pOp,Option.isNone_none,true_and]
theorem zs8 {t1:TypeId} {x y:Operand}:zbq D P T ds (⟨d,.store t1 x y,t,p,af,g⟩::r) e S K =
  (match gd ds g e with | some true=>(pOp P T e S (.store t1 x y) fun v S=>zbq D P T ds r (e.put d v) S K) | some false=>zbq D P T ds r (e.put d (.tup [])) S K | none=>False):=by
 rw [zbq]; rfl
theorem zi9 {t1:TypeId} {n:Nat} {ps:Array (Nat × Operand)}:zbq D P T ds (⟨d,.buildSlice t1 n ps,t,p,af,g⟩::r) e S K =
  (match gd ds g e with | some true=>(pOp P T e S (.buildSlice t1 n ps) fun v S=>zbq D P T ds r (e.put d v) S K) | some false=>zbq D P T ds r (e.put d (.tup [])) S K | none=>False):=by
 rw [zbq]; rfl
theorem zkm {t1:TypeId} {x y:Operand}:zbq D P T ds (⟨d,.makeSlice t1 x y,t,p,af,g⟩::r) e S K =
  (match gd ds g e with | some true=>(pOp P T e S (.makeSlice t1 x y) fun v S=>zbq D P T ds r (e.put d v) S K) | some false=>zbq D P T ds r (e.put d (.tup [])) S K | none=>False):=by
 rw [zbq]; rfl
theorem zkn {t1:TypeId} {x y z:Operand}:zbq D P T ds (⟨d,.mapUpdate t1 x y z,t,p,af,g⟩::r) e S K =
  (match gd ds g e with | some true=>(pOp P T e S (.mapUpdate t1 x y z) fun v S=>zbq D P T ds r (e.put d v) S K) | some false=>zbq D P T ds r (e.put d (.tup [])) S K | none=>False):=by
 rw [zbq]; rfl
theorem zqj {t1:TypeId} {x y z:Operand}:zbq D P T ds (⟨d,.insert t1 x y z,t,p,af,g⟩::r) e S K =
  (match gd ds g e with | some true=>(pOp P T e S (.insert t1 x y z) fun v S=>zbq D P T ds r (e.put d v) S K) | some false=>zbq D P T ds r (e.put d (.tup [])) S K | none=>False):=by
 rw [zbq]; rfl
theorem zyo {t1:TypeId} {a x:Operand} {K:PV→Store→Prop}:pOp P T e S (.store t1 a x) K=(    match e.ev a with
  | .ref o ver off =>
   match S.obs[o]? with
   | some (.arr v et sz cells) =>
    v=ver∧(T t1).kd ≠ .none∧(e.ev x).cells.length=(T t1).size∧off+(T t1).size≤cells.length∧zb9 (e.ev x).cells ∧
     K (.tup []) (S.set o (.arr v et sz (spl cells off (e.ev x).cells)))
   | _=>False
  | _=>False):=rfl
theorem zkr {t1:TypeId} {n:Nat} {parts:Array (Nat × Operand)} {K:PV→Store→Prop}:pOp P T e S (.buildSlice t1 n parts) K=(    match (T t1).kd with
  | .slice et =>
   n≤16777216∧n*(T et).size≤16777216 ∧
   match zi0 T (fun i=>some (i*(T et).size,(T et).size)) (repz (T et).zero n) (parts.toList.map fun p=>(p.1,e.ev p.2)) with
   | some cells=>zb9 cells∧K (.loc S.obs.length S.tick 0 n) (S.push et (T et).size cells)
   | none=>False
  | _=>False):=rfl
theorem zmn {t1:TypeId} {l c:Operand} {K:PV→Store→Prop}:pOp P T e S (.makeSlice t1 l c) K=(    match (T t1).kd,e.ev l,e.ev c with
  | .slice et,.int _ l,.int _ c=>l=c∧0≤l∧(T et).bytes*l≤281474976710656∧l≤9223372036854775807 ∧
    K (.loc S.obs.length S.tick 0 l.toNat) (S.push et (T et).size (repz (T et).zero l.toNat))
  | _,_,_=>False):=rfl
theorem zmo {t1:TypeId} {m k x:Operand} {K:PV→Store→Prop}:pOp P T e S (.mapUpdate t1 m k x) K=(    match (T t1).kd,e.ev m with
  | .map kt _,.mp o ver =>
   match S.obs[o]? with
   | some (.map v es) =>
    v=ver∧TK.keyed T kt (e.ev k)=true ∧
     match findKey (e.ev k) es 0 with
     | some (some (i,_))=>K (.tup []) (S.set o (.map v (es.set i (e.ev k,e.ev x))))
     | some none=>K (.tup []) (S.set o (.map v (es++[(e.ev k,e.ev x)])))
     | none=>False
   | _=>False
  | _,_=>False):=rfl
theorem ztr {t1:TypeId} {m k x:Operand} {K:PV→Store→Prop}:pOp P T e S (.insert t1 m k x) K=(    match (T t1).kd,e.ev m with
  | .map kt _,.mp o ver =>
   match S.obs[o]? with
   | some (.map v es) =>
    v=ver∧TK.keyed T kt (e.ev k)=true ∧
     match findKey (e.ev k) es 0 with
     | some (some (i,_))=>K (.tup []) (S.set o (.map v (es.set i (e.ev k,e.ev x))))
     | some none=>K (.tup []) (S.set o (.map v (es++[(e.ev k,e.ev x)])))
     | none=>False
   | _=>False
  | _,_=>False):=rfl
theorem zyh {t:TypeId} {x:PV} {K:PV→Store→Prop}:zto T t S x K=(
 match (T t).kd with
 | .slice e =>
  match x with
  | .loc o ver off n =>
   match S.obs[o]? with
   | some (.arr v et sz cells)=>v=ver∧(T e).kd ≠ .none∧off+(repz (T e).zero n).length≤cells.length∧zb9 (repz (T e).zero n)∧K (.tup []) (S.set o (.arr v et sz (spl cells off (repz (T e).zero n))))
   | _=>False
  | _=>False
 | _=>False):=rfl
theorem z3q {t:TypeId} {x y:PV} {K:PV→Store→Prop}:z54 T t S x y K=(
 match (T t).kd with
 | .slice e =>
  match zc1 S (T e).size y with
  | some (m,ys) =>
   match x with
   | .loc o ver off n =>
    match S.obs[o]? with
    | some (.arr v et sz cells)=>v=ver∧sz=(T e).size∧off+(ys.take (min m n*sz)).length≤cells.length ∧
      K (.int .i64 ((min m n:Nat):Int)) (S.set o (.arr v et sz (spl cells off (ys.take (min m n*sz)))))
    | _=>False
   | _=>False
  | none=>False
 | _=>False):=rfl
theorem zws {t:TypeId} {y:PV}:yk3 T t t y=some y:=if_pos rfl
theorem ztm {t:TypeId} {x y:PV} {K:PV→Store→Prop}:zjg T t S x y K=(
 match (T t).kd with
 | .slice e =>
  match zc1 S (T e).size y with
  | some (m,ys) =>
   match x with
   | .nils=>if m=0 then K .nils S else m*(T e).bytes≤140737488355328∧m≤maxLen∧K (.loc S.obs.length S.tick 0 m) (S.push e (T e).size ys)
   | .loc o ver 0 n =>
    match S.obs[o]? with
    | some (.arr v et sz cells) =>
     v=ver∧et=e∧sz=(T e).size∧n*sz≤cells.length∧(n+m)*(T e).bytes≤140737488355328∧n+m≤maxLen ∧
      K (.loc o S.tick 0 (n+m)) ⟨S.obs.set o (.arr S.tick et sz (cells.take (n*sz)++ys)),S.tick+1⟩
    | _=>False
   | _=>False
  | none=>False
 | _=>False):=rfl
end
end
theorem z9v {t i:Nat} {ts:List Nat} {v:PV} {vs:List PV}:Env.of (t::ts) (v::vs) i=if i=t then v else Env.of ts vs i:=rfl
theorem zp5 {v:PV} {vs:List PV}:zai (v::vs) 0=v:=rfl
theorem zp6 {v:PV} {vs:List PV} {t:Nat}:zai (v::vs) (t+1)=zai vs t:=rfl
theorem Br {T:Tab} {rs:List ResultVar} {K:PV→Store→Prop} {e:Env} {S:Store} {v:PV} (h:zvy T S e rs=some v) (k:K v S):zfj T rs K .ret e S:=by
 simp only[zfj,h]; exact k
theorem zfj.norm {T:Tab} {rs:List ResultVar} {K:PV→Store→Prop} {e:Env} {S:Store} {v:PV} (h:zvy T S e rs=some v) (k:K v S):zfj T rs K .normal e S:=by
 simp only[zfj,h]; exact k
theorem w64 {x:Int} (h1 : -9223372036854775808≤x) (h2:x<9223372036854775808):IntKind.i64.wrap x=x:=by
 rw [IntKind.wrap_i64]; omega
theorem w8 {x:Int} (h1:0≤x) (h2:x<256):IntKind.u8.wrap x=x:=by
 simp [IntKind.wrap,IntKind.bits,IntKind.signed]; omega
abbrev zbi (p:List (List UInt8)):PV := .sl (p.map .str) p.length
abbrev eInts (p:List Int):PV := .sl (p.map (.int .i64)) p.length
theorem tk {α:Type} {l:List α} {i:Nat} {a:α} (h:l[i]?=some a):l.take (i+1)=l.take i++[a]:=by
 rw [List.take_add_one,h]; rfl
theorem zaj {α:Type} {l:List α} {i:Nat} (h:i<l.length):∃ a,l[i]?=some a∧a∈l:=⟨l[i],List.getElem?_eq_getElem h,List.getElem_mem h⟩
theorem zk3 {a b:Int}:(if b>a then b else a)=max a b:=by omega
theorem zu4 {a b:Int}:(if b<a then b else a)=min a b:=by omega
-- BUNDLES
theorem bq1:(true == false)=false:=rfl
theorem bq2:(false == true)=false:=rfl
theorem bq3:(true == true)=true:=rfl
theorem bq4:(false == false)=true:=rfl
theorem nb1:(!true)=false:=rfl
theorem nb2:(!false)=true:=rfl
theorem z8r {ds:List (Option Tmp)} {e:Env}:gd ds none e=some true:=rfl
theorem z8s {ds:List (Option Tmp)} {e:Env} {j:Nat} {want:Bool}:gd ds (some (j,want)) e=(match ds[j]? with
  | some (some d)=>match e d with
   | .bool b=>some (b == want)
   | .tup []=>some false
   | _=>none
  | _=>none):=rfl
theorem yf6 {k:IntKind} {n:Int}:zgo (.int k n) = .int k n:=rfl
theorem z9q {b:Bool}:zgo (.bool b) = .bool b:=rfl
theorem z9t:zgo (.pointer none) = .nilp:=rfl
theorem z9u:zgo (.slice none 0 0) = .nils:=rfl
theorem z9r:zgo .nilFunc = .nilf:=rfl
theorem z9s:zgo (.map none) = .nilm:=rfl
theorem yf7 {s:ByteArray}:zgo (.string s) = .str s.data.toList:=rfl
theorem gl0 {a:Option Tmp} {l:List (Option Tmp)}:(a::l)[0]?=some a:=rfl
theorem gls {a:Option Tmp} {l:List (Option Tmp)} {i:Nat}:(a::l)[i+1]?=l[i]?:=rfl
theorem zww {cs:List PV}:(PV.agg cs).cells=cs:=rfl
theorem z96 {k:IntKind} {n:Int}:pUn .neg (.int k n)=some (.int k (k.wrap (0 - n))):=rfl
theorem z97 {b:Bool}:pUn .not (.bool b)=some (.bool (!b)):=rfl
theorem ztu {t:Bool} {a b:PV}:yea (.bool t) a b=some (if t then a else b):=rfl
theorem zox {vs:List PV} {i:Nat}:zpm (.tup vs) i=vs[i]?:=rfl
theorem z3v {ti:TI} {S:Store} {cs:List PV} {off:Nat}:zsj ti S (.ip cs off)=zk2 ti cs off:=rfl
theorem zrc {ti:TI} {S:Store} {o ver off:Nat}:zsj ti S (.ref o ver off)=(S.cellsOf o ver).bind fun cells=>zk2 ti cells off:=rfl
theorem zo0 {S:Store} {cs:List PV} {off:Nat}:zha S (.ip cs off)=some (.ip cs off):=rfl
theorem zmm {S:Store} {o ver off:Nat}:zha S (.ref o ver off)=(S.cellsOf o ver).map fun _ => .ref o ver off:=rfl
theorem z3w {x:PV}:yd8 [x]=some x:=rfl
theorem z3x {k k':IntKind} {a b:Int} {r:List PV}:yd8 (.int k a :: .int k' b::r)=yd8 (.int k (if b>a then b else a)::r):=rfl
theorem z3y {x:PV}:yd9 [x]=some x:=rfl
theorem z3z {k k':IntKind} {a b:Int} {r:List PV}:yd9 (.int k a :: .int k' b::r)=yd9 (.int k (if b<a then b else a)::r):=rfl
theorem z3c {k:TK}:k.isAgg=(match k with | .struct _ | .arr _ _=>true | _=>false):=rfl
theorem z92 {T:Tab} {S:Store} {op:BinOp} {t:TypeId} {x y:PV}:yje T S op t x y=(
 match x,y with
 | .int k a,.int k' b =>
  match op with
  | .shl | .shr=>z31 op k a b
  | _=>if k=k' then zyd op k a b else none
 | .str a,.str b=>yck op a b
 | _,_ =>
  match op with
  | .eql=>(pEq T S t x y).map .bool
  | .neq=>(pEq T S t x y).map fun b => .bool (!b)
  | _=>none):=rfl
theorem zye {op:BinOp} {k:IntKind} {a b:Int}:zyd op k a b=(
 match op with
 | .add=>some (.int k (k.wrap (a+b)))
 | .sub=>some (.int k (k.wrap (a - b)))
 | .mul=>some (.int k (k.wrap (a*b)))
 | .quo=>if b=0 then none else some (.int k (k.wrap (a.tdiv b)))
 | .rem=>if b=0 then none else some (.int k (a.tmod b))
 | .and=>some (.int k (k.wrap (BitVec.ofInt k.bits a &&& BitVec.ofInt k.bits b).toNat))
 | .or=>some (.int k (k.wrap (BitVec.ofInt k.bits a ||| BitVec.ofInt k.bits b).toNat))
 | .xor=>some (.int k (k.wrap (BitVec.ofInt k.bits a ^^^ BitVec.ofInt k.bits b).toNat))
 | .eql=>some (.bool (a == b))
 | .neq=>some (.bool (a != b))
 | .lss=>some (.bool (a<b))
 | .leq=>some (.bool (a≤b))
 | .gtr=>some (.bool (a>b))
 | .geq=>some (.bool (a ≥ b))
 | _=>none):=rfl
theorem zmk {T:Tab} {S:Store} {t:TypeId} {x i:PV}:zf8 T S t x i=(
 match i with
 | .int _ i =>
  match (T t).kd,x with
  | .slice e,.sl cs n=>if 0≤i∧i<n then some (.ip cs (i.toNat*(T e).size)) else none
  | .slice e,.loc o ver off n=>(S.cellsOf o ver).bind fun _=>if 0≤i∧i<n then some (.ref o ver (off+i.toNat*(T e).size)) else none
  | .arr n e,.ref o ver off=>(S.cellsOf o ver).bind fun _=>if 0≤i∧i<n then some (.ref o ver (off+i.toNat*(T e).size)) else none
  | .arr n e,.ip cs off=>if 0≤i∧i<n then some (.ip cs (off+i.toNat*(T e).size)) else none
  | _,_=>none
 | _=>none):=rfl
theorem zym {T:Tab} {t:TypeId} {x i:PV}:zyl T t x i=(
 match i with
 | .int _ i =>
  match (T t).kd,x with
  | .str,.str s=>if 0≤i then (s[i.toNat]?).map fun b => .int .u8 b.toNat else none
  | .arr n e,.agg cs=>if 0≤i∧i<n then z95 (T e) cs (i.toNat*(T e).size) else none
  | _,_=>none
 | _=>none):=rfl
theorem zq9 {T:Tab} {S:Store} {c:Callee} {xs:List PV} {ts:List TypeId}:zfq T S c xs ts=(
 match c with
 | .builtin .len=>match xs,ts with
  | [x],[t]=>yjf T S t x
  | _,_=>none
 | .builtin .max=>yd8 xs
 | .builtin .min=>yd9 xs
 | _=>none):=rfl
theorem z93 {T:Tab} {S:Store} {t:TypeId} {x:PV}:yjf T S t x=(
 match (T t).kd,x with
 | .str,.str s=>some (.int .i64 s.length)
 | .arr n _,_=>some (.int .i64 n)
 | .slice _,.nils=>some (.int .i64 0)
 | .slice _,.sl _ n=>some (.int .i64 n)
 | .slice _,.loc o ver _ n=>(S.cellsOf o ver).map fun _ => .int .i64 n
 | .map _ _,.mp o ver=>match S.obs[o]? with
  | some (.map v es)=>if v=ver then some (.int .i64 es.length) else none
  | _=>none
 | _,_=>none):=rfl
theorem zra {T:Tab} {S:Store} {src dst:TypeId} {x:PV}:zj3 T S src dst x=(
 match (T src).kd,(T dst).kd,x with
 | .int _,.int k,.int _ n=>some (.int k (k.wrap n))
 | .int _,.str,.int _ n=>some (.str (Utf8.encode n).data.toList)
 | .str,.str,.str s=>some (.str s)
 | .slice e,.str,x =>
  match (T e).kd with
  | .int .u8=>(zc1 S 1 x).bind fun q=>(zg6 q.2).map .str
  | _=>none
 | .str,.slice e,.str s =>
  match (T e).kd with
  | .int .u8=>some (.sl (s.map fun b => .int .u8 b.toNat) s.length)
  | _=>none
 | _,_,_=>none):=rfl
theorem zyj {T:Tab} {t:TypeId} {x:PV} {f:Nat}:zyi T t x f=(
 match (T t).kd,x with
 | .struct fs,.agg cs =>
  match fs[f]? with
  | some (fo,ft)=>z95 (T ft) cs fo
  | none=>none
 | _,_=>none):=rfl
theorem z30 {ti:TI} {cs:List PV} {off:Nat}:z95 ti cs off=(
zk2 ti cs off):=rfl
theorem zmi {T:Tab} {S:Store} {t:TypeId} {x:PV} {f:Nat}:zf7 T S t x f=(
 match (T t).kd with
 | .struct fs =>
  match fs[f]?,x with
  | some (fo,ft),.ip cs off=>if (T ft).size=0 then none else some (.ip cs (off+fo))
  | some (fo,ft),.ref o ver off=>if (T ft).size=0 then none else (S.cellsOf o ver).map fun _ => .ref o ver (off+fo)
  | _,_=>none
 | _=>none):=rfl
theorem zyq {T:Tab} {S:Store} {t:TypeId} {x:PV} {lo hi:Option PV}:zyp T S t x lo hi=(
 match (T t).kd,x with
 | .str,.str s=>(zgp s.length lo hi).map fun (l,h) => .str ((s.take h).drop l)
 | .slice e,.sl cs n=>(zgp n lo hi).map fun (l,h) => .sl ((cs.take (h*(T e).size)).drop (l*(T e).size)) (h - l)
 | .slice e,.loc o ver off n =>
  match S.obs[o]? with
  | some (.arr v _ sz _) =>
   if v=ver∧sz=(T e).size then (zgp n lo hi).bind fun (l,h)=>if l=0∨l<n then some (.loc o ver (off+l*sz) (h - l)) else none
   else none
  | _=>none
 | _,_=>none):=rfl
theorem ztq {T:Tab} {S:Store} {t:TypeId} {m k:PV} {ok:Bool}:zrd T S t m k ok=(
 match (T t).kd,m with
 | .map kt vt,.mp o ver =>
  match S.obs[o]? with
  | some (.map v es) =>
   if v=ver∧TK.keyed T kt k=true∧(T vt).kd.isAgg=false then
    (findKey k es 0).bind fun r=>match r with
     | some (_,x)=>some (if ok then .tup [x,.bool true] else x)
     | none=>((T vt).zero[0]?).map fun z=>if ok then .tup [z,.bool false] else z
   else none
  | _=>none
 | _,_=>none):=rfl
theorem zoz {fn:Go.Fn} {first cap:List PV}:zml fn first cap=(
 match fn,first with
 | .func f,[]=>some (.fn f cap)
 | .func f,[x]=>if zmr 10 x && cap.isEmpty then some (.bm f x) else none
 | _,_=>none):=rfl
theorem z3a {ti:TI} {cs:List PV} {off:Nat}:zk2 ti cs off=(
 if ti.kd = .none then none else if ti.kd.isAgg then (if off+ti.size≤cs.length then some (.agg ((cs.drop off).take ti.size)) else none) else cs[off]?):=rfl
theorem zyg {T:Tab} {t:TypeId} {parts:List (Nat × PV)}:zyf T t parts=(
 match (T t).kd with
 | .struct fs=>(zi0 T (fun i=>(fs[i]?).map fun f=>(f.1,(T f.2).size)) (T t).zero parts).map .agg
 | .arr _ e=>(zi0 T (fun i=>some (i*(T e).size,(T e).size)) (T t).zero parts).map .agg
 | _=>none):=rfl
theorem RU:(type_of% @z8e)∧(type_of% @z26)∧(type_of% @z8d)∧(type_of% @zvt)∧(type_of% @z39)∧(type_of% @z20)∧(type_of% @zxe)∧(type_of% @zqi)∧(type_of% @zxf)∧(type_of% @zxd)∧(type_of% @zlz)∧(type_of% @zs2)∧(type_of% @zxg)∧(type_of% @zok)∧(type_of% @zly)∧(type_of% @zs7)∧(type_of% @zkk)∧(type_of% @zs5)∧(type_of% @zkl)∧(type_of% @zs6)∧(type_of% @zol)∧(type_of% @zs3)∧(type_of% @zqk)∧(type_of% @z2x)∧(type_of% @z2y)∧(type_of% @z2z)∧(type_of% @zqh)∧(type_of% @zxb)∧(type_of% @zs4)∧(type_of% @zxc)∧(type_of% @zs1)∧(type_of% @z2w)∧(type_of% @zom)∧(type_of% @zs8)∧(type_of% @zi9)∧(type_of% @zkm)∧(type_of% @zkn)∧(type_of% @zyo)∧(type_of% @zkr)∧(type_of% @zmn)∧(type_of% @zmo)∧(type_of% @ztm)∧(type_of% @zws)∧(type_of% @zqj)∧(type_of% @ztr)∧(type_of% @zyh)∧(type_of% @z3q)∧(type_of% @z9v):=⟨@z8e,@z26,@z8d,@zvt,@z39,@z20,@zxe,@zqi,@zxf,@zxd,@zlz,@zs2,@zxg,@zok,@zly,@zs7,@zkk,@zs5,@zkl,@zs6,@zol,@zs3,@zqk,@z2x,@z2y,@z2z,@zqh,@zxb,@zs4,@zxc,@zs1,@z2w,@zom,@zs8,@zi9,@zkm,@zkn,@zyo,@zkr,@zmn,@zmo,@ztm,@zws,@zqj,@ztr,@zyh,@z3q,@z9v⟩
theorem RV:(type_of% @zw8)∧(type_of% @z2u)∧(type_of% @z8c)∧(type_of% @zxk)∧(type_of% @z22)∧(type_of% @zp5)∧(type_of% @zp6)∧(type_of% @bq1)∧(type_of% @bq2)∧(type_of% @bq3)∧(type_of% @bq4)∧(type_of% @nb1)∧(type_of% @nb2)∧(type_of% @z8r)∧(type_of% @z8s)∧(type_of% @yf6)∧(type_of% @z9q)∧(type_of% @z9t)∧(type_of% @z9u)∧(type_of% @z9r)∧(type_of% @z9s)∧(type_of% @yf7)∧(type_of% @gl0)∧(type_of% @gls)∧(type_of% @zww)∧(type_of% @z96)∧(type_of% @z97)∧(type_of% @ztu)∧(type_of% @zox)∧(type_of% @z3v)∧(type_of% @zrc)∧(type_of% @zo0)∧(type_of% @zmm)∧(type_of% @z3w)∧(type_of% @z3x)∧(type_of% @z3y)∧(type_of% @z3z)∧(type_of% @z3c)∧(type_of% @z92)∧(type_of% @zye)∧(type_of% @zmk)∧(type_of% @zym)∧(type_of% @zq9)∧(type_of% @z93)∧(type_of% @zra)∧(type_of% @zyj)∧(type_of% @z30)∧(type_of% @zmi)∧(type_of% @zyq)∧(type_of% @ztq)∧(type_of% @zoz)∧(type_of% @zyg)∧(type_of% @z3a):=⟨@zw8,@z2u,@z8c,@zxk,@z22,@zp5,@zp6,@bq1,@bq2,@bq3,@bq4,@nb1,@nb2,@z8r,@z8s,@yf6,@z9q,@z9t,@z9u,@z9r,@z9s,@yf7,@gl0,@gls,@zww,@z96,@z97,@ztu,@zox,@z3v,@zrc,@zo0,@zmm,@z3w,@z3x,@z3y,@z3z,@z3c,@z92,@zye,@zmk,@zym,@zq9,@z93,@zra,@zyj,@z30,@zmi,@zyq,@ztq,@zoz,@zyg,@z3a⟩
theorem zof:zb9 []:=fun _ h=>by cases h
theorem zls {p:PV} {ps:List PV}:zb9 (p::ps)↔p.isCell=true∧zb9 ps:=by
 unfold zb9; simp
theorem zwq {α:Type} {f:α→PV} (h:∀ a,(f a).isCell=true) (l:List α):zb9 (l.map f):=by
 intro p hp; obtain ⟨a,_,rfl⟩:=List.mem_map.1 hp; exact h a
theorem ygg {S:Store} {sz o ver off n:Nat}:zc1 S sz (.loc o ver off n)=(S.cellsOf o ver).bind fun cells=>if off+n*sz≤cells.length then some (n,(cells.drop off).take (n*sz)) else none:=rfl
theorem ykp {S:Store} {sz n:Nat} {cs:List PV}:zc1 S sz (.sl cs n)=if cs.length=n*sz then some (n,cs) else none:=rfl
theorem ybi {S:Store} {sz:Nat}:zc1 S sz .nils=some (0,[]):=rfl
theorem yg3 {S:Store} {o ver:Nat}:S.cellsOf o ver=(match S.obs[o]? with | some (.arr v _ _ cells)=>if v=ver then some cells else none | _=>none):=rfl
theorem yai {l:List Ob} {t et sz:Nat} {cells:List PV}:Store.push ⟨l,t⟩ et sz cells=⟨l++[.arr t et sz cells],t+1⟩:=rfl
theorem ztz {l:List Ob} {t:Nat}:Store.pushMap ⟨l,t⟩=⟨l++[.map t []],t+1⟩:=rfl
theorem yge {l:List Ob} {t o:Nat} {ob:Ob}:Store.set ⟨l,t⟩ o ob=⟨l.set o ob,t⟩:=rfl
theorem zcs {l:List Ob} {t k:Nat}:Store.take ⟨l,t⟩ k=⟨l.take k,t⟩:=rfl
theorem zwx {k:IntKind} {n:Int}:(PV.int k n).cells=[.int k n]:=rfl
theorem zsv {b:Bool}:(PV.bool b).cells=[.bool b]:=rfl
theorem zw0 {b:List UInt8}:(PV.str b).cells=[.str b]:=rfl
theorem zsx:PV.nils.cells=[.nils]:=rfl
theorem zsw:PV.nilp.cells=[.nilp]:=rfl
theorem zwy {o v f n:Nat}:(PV.loc o v f n).cells=[.loc o v f n]:=rfl
theorem zwz {o v f:Nat}:(PV.ref o v f).cells=[.ref o v f]:=rfl
theorem z2m {o v:Nat}:(PV.mp o v).cells=[.mp o v]:=rfl
theorem z2n {cs:List PV} {n:Nat}:(PV.sl cs n).cells=[.sl cs n]:=rfl
theorem z2l {cs:List PV} {n:Nat}:(PV.ip cs n).cells=[.ip cs n]:=rfl
theorem yfs {k:IntKind} {n:Int}:(PV.int k n).isCell=true:=rfl
theorem z8w {b:Bool}:(PV.bool b).isCell=true:=rfl
theorem yfv {b:List UInt8}:(PV.str b).isCell=true:=rfl
theorem z8y:PV.nils.isCell=true:=rfl
theorem z8x:PV.nilp.isCell=true:=rfl
theorem yft {o v f n:Nat}:(PV.loc o v f n).isCell=true:=rfl
theorem yfu {o v f:Nat}:(PV.ref o v f).isCell=true:=rfl
theorem yj3 {o v:Nat}:(PV.mp o v).isCell=true:=rfl
theorem yj4 {cs:List PV} {n:Nat}:(PV.sl cs n).isCell=true:=rfl
theorem yj2 {cs:List PV} {n:Nat}:(PV.ip cs n).isCell=true:=rfl
theorem yfx {k:IntKind} {n:Int}:(PV.int k n).isDef=true:=rfl
theorem z8z {b:Bool}:(PV.bool b).isDef=true:=rfl
theorem yf0 {b:List UInt8}:(PV.str b).isDef=true:=rfl
theorem yfw {cs:List PV}:(PV.agg cs).isDef=true:=rfl
theorem z80:PV.nils.isDef=true:=rfl
theorem yfy {o v f n:Nat}:(PV.loc o v f n).isDef=true:=rfl
theorem yfz {o v f:Nat}:(PV.ref o v f).isDef=true:=rfl
theorem yj5 {cs:List PV} {n:Nat}:(PV.sl cs n).isDef=true:=rfl
theorem zyk {T:Tab} {pl:Nat→Option (Nat × Nat)} {cs:List PV}:zi0 T pl cs []=some cs:=rfl
theorem ztp {T:Tab} {pl:Nat→Option (Nat × Nat)} {cs:List PV} {i:Nat} {v:PV} {r:List (Nat × PV)}:zi0 T pl cs ((i,v)::r)=(match pl i with
  | none=>none
  | some (off,size)=>if v.cells.length=size∧off+size≤cs.length∧v.isDef=true then zi0 T pl (spl cs off v.cells) r else none):=rfl
theorem ygi {cs vs:List PV} {off:Nat}:spl cs off vs=cs.take off++vs++cs.drop (off+vs.length):=rfl
theorem zzb {z:List PV}:repz z 0=[]:=rfl
theorem zib {z:List PV} {n:Nat}:repz z (n+1)=z++repz z n:=rfl
theorem z3r {n:Nat}:pHi n none=some n:=rfl
theorem z3s {n:Nat} {k:IntKind} {h:Int}:pHi n (some (.int k h))=if 0≤h∧h≤n then some h.toNat else none:=rfl
theorem z3t {n:Nat}:pLo n none=some 0:=rfl
theorem z3u {n:Nat} {k:IntKind} {h:Int}:pLo n (some (.int k h))=if 0≤h∧h≤n then some h.toNat else none:=rfl
theorem ztn {n:Nat} {lo hi:Option PV}:zgp n lo hi=(pHi n hi).bind fun h=>(pLo h lo).map fun l=>(l,h):=rfl
theorem RS:(type_of% @zof)∧(type_of% @zls)∧(type_of% @ygg)∧(type_of% @ykp)∧(type_of% @ybi)∧(type_of% @yg3)∧(type_of% @yai)∧(type_of% @ztz)∧(type_of% @yge)∧(type_of% @zcs)∧(type_of% @zwx)∧(type_of% @zsv)∧(type_of% @zw0)∧(type_of% @zsx)∧(type_of% @zsw)∧(type_of% @zwy)∧(type_of% @zwz)∧(type_of% @z2m)∧(type_of% @z2n)∧(type_of% @z2l)∧(type_of% @yfs)∧(type_of% @z8w)∧(type_of% @yfv)∧(type_of% @z8y)∧(type_of% @z8x)∧(type_of% @yft)∧(type_of% @yfu)∧(type_of% @yj3)∧(type_of% @yj4)∧(type_of% @yj2)∧(type_of% @yfx)∧(type_of% @z8z)∧(type_of% @yf0)∧(type_of% @yfw)∧(type_of% @z80)∧(type_of% @yfy)∧(type_of% @yfz)∧(type_of% @yj5)∧(type_of% @zyk)∧(type_of% @ztp)∧(type_of% @ygi)∧(type_of% @zzb)∧(type_of% @zib)∧(type_of% @z3r)∧(type_of% @z3s)∧(type_of% @z3t)∧(type_of% @z3u)∧(type_of% @ztn):=⟨@zof,@zls,@ygg,@ykp,@ybi,@yg3,@yai,@ztz,@yge,@zcs,@zwx,@zsv,@zw0,@zsx,@zsw,@zwy,@zwz,@z2m,@z2n,@z2l,@yfs,@z8w,@yfv,@z8y,@z8x,@yft,@yfu,@yj3,@yj4,@yj2,@yfx,@z8z,@yf0,@yfw,@z80,@yfy,@yfz,@yj5,@zyk,@ztp,@ygi,@zzb,@zib,@z3r,@z3s,@z3t,@z3u,@ztn⟩
abbrev eB (b:UInt8):PV := .int .u8 b.toNat
theorem yb1 {α:Type} {f:α→PV} {l:List α}:(l.map f).take l.length=l.map f:=by
 rw [← List.length_map f,List.take_length]
theorem z6u {α:Type} {f:α→PV} {l:List α} {n:Nat} (h:l.length≤n):(l.map f).take n=l.map f:=qT (by simpa using h)
theorem z9c {a b:Nat} (h:a≤b):(a≤b)=True:=eq_true h
theorem zx2:maxLen=9223372036854775807:=rfl
theorem ykx {n a:Nat}:IntKind.u8.wrap ((n:Int)+(a:Int))=((UInt8.ofNat (n+a)).toNat:Int):=by
 have:((n:Int)+(a:Int))=((n+a:Nat):Int):=by omega
 rw [this]
 simp [IntKind.wrap,IntKind.bits,IntKind.signed,UInt8.toNat_ofNat']
theorem yi8 {a:Nat}:IntKind.u8.wrap (97+(a:Int))=((UInt8.ofNat (97+a)).toNat:Int):=ykx (n:=97)
theorem zdk {i:Nat}:((i:Int) - 1).toNat=i - 1:=by omega
theorem zb5 {α:Type} {l:List α} {i:Nat} {a:α} (h:l[i]?=some a):i<l.length:=(List.getElem?_eq_some_iff.1 h).1
theorem zce {S:Store} {im:Bool} {k o ver et sz n:Nat} {cells ts:List PV} (h:S.obs[o]?=some (.arr ver et sz cells)) (hl:cells.length=n*sz) (hm:cells.mapM (reify S im k)=some ts) :
  reify S im (k+1) (.loc o ver 0 n)=some (.sl ts n):=by
 simp only[reify,h,Nat.zero_add,hl,qR,and_self,if_true,List.drop_zero]
 rw [← hl,List.take_length,hm]; rfl
theorem zb7 {f:PV→Option PV}:∀ {l:List PV},(∀ x∈l,f x=some x)→l.mapM f=some l
 | [],_=>rfl
 | x::l,h=>by rw [qC,h x (by simp),zb7 (l:=l) fun y hy=>h y (by simp [hy])]; rfl
theorem zii {S:Store} {im:Bool} {k:Nat} (l:List (List UInt8)):(l.map PV.str).mapM (reify S im (k+1))=some (l.map PV.str) :=
 zb7 fun x hx=>by obtain ⟨a,_,rfl⟩:=List.mem_map.1 hx; rfl
theorem zmc {S:Store} {im:Bool} {k:Nat} {q:IntKind} (l:List Int):(l.map (PV.int q)).mapM (reify S im (k+1))=some (l.map (PV.int q)) :=
 zb7 fun x hx=>by obtain ⟨a,_,rfl⟩:=List.mem_map.1 hx; rfl
theorem z9j {S:Store} {im:Bool} {k:Nat} (l:List Bool):(l.map PV.bool).mapM (reify S im (k+1))=some (l.map PV.bool) :=
 zb7 fun x hx=>by obtain ⟨a,_,rfl⟩:=List.mem_map.1 hx; rfl
theorem zqb (l:List UInt8):zg6 (l.map fun b=>PV.int .u8 b.toNat)=some l:=by
 induction l with
 | nil=>rfl
 | cons a l ih=>simp only[List.map_cons,zg6,ih]; simp
section
def rfz (S:Store) (lo:Nat):Nat→PV→Option PV
 | 0,_=>none
 | k+1,p =>
  match p with
  | .int a b=>some (.int a b)
  | .bool b=>some (.bool b)
  | .str s=>some (.str s)
  | .nilp=>some .nilp
  | .nilf=>some .nilf
  | .yl l=>some (.yl l)
  | .nilm=>some .nilm
  | .nils=>some .nils
  | .agg cs=>(cs.mapM (rfz S lo k)).map .agg
  | .tup cs=>(cs.mapM (rfz S lo k)).map .tup
  | .fn f cs=>(cs.mapM (rfz S lo k)).map (.fn f)
  | .sl cs n=>some (.sl cs n)
  | .ip cs off=>some (.ip cs off)
  | .bm f b=>some (.bm f b)
  | .loc o ver off n =>
   match S.obs[o]? with
   | some (.arr v _ sz cells)=>if lo≤o∧v=ver∧off+n*sz≤cells.length then (((cells.drop off).take (n*sz)).mapM (rfz S lo k)).map (.sl · n) else none
   | _=>none
  | .ref o ver off=>if lo≤o then (S.cellsOf o ver).bind fun cells=>(cells.mapM (rfz S lo k)).map (.ip · off) else none
  | _=>none
section
variable {P:Program} {T:Tab} {F:Nat→Prop} {G:GSt} {w:World} {e:Env} {a:Act}
def zo4 (F:Nat→Prop) (G:GSt) (lo:Nat) (b:Nat):Prop:=F b∨∃ (o:Nat) (x:Ob × Lc),lo≤o∧G.obs[o]?=some x∧x.2.blk=b
theorem zpr {S:Store} {lo:Nat}:∀ {k:Nat} {p t:PV},rfz S lo k p=some t→p.isCell=true→t.isCell=true
 | 0,p,t,h,_=>by simp [rfz]at h
 | k+1,p,t,h,hp=>by
  cases p <;> simp only[rfz]at h <;> first
   | (cases h; rfl)
   | (simp [PV.isCell]at hp; done)
   | (cases h; done)
   | (split at h <;> first | (cases h; rfl) | (cases h; done) | (split at h <;> first | (cases h; done) | (rw [qI]at h; obtain ⟨_,_,rfl⟩:=h; rfl)))
   | (rw [qI]at h; obtain ⟨_,_,rfl⟩:=h; rfl)
   | (split at h <;> first | (cases h; done) | (rw [Option.bind_eq_some_iff]at h; obtain ⟨_,_,h⟩:=h; rw [qI]at h; obtain ⟨_,_,rfl⟩:=h; rfl))
theorem zmx (hi:Inv F G w) {lo:Nat}:∀ {k:Nat} {p t:PV} {cv:Value},VR w.heap F G p cv→rfz G.er lo k p=some t→VI w.heap (zo4 F G lo) t cv
 | 0,p,t,cv,_,h=>by simp [rfz]at h
 | k+1,p,t,cv,hv,h=>by
  have cellsVI:∀ {b off:Nat} {cs ts:List PV},zdq w.heap F G b off cs→cs.mapM (rfz G.er lo k)=some ts →
    ∃ g:Nat→Value,(∀ (i:Nat) p,ts[i]?=some p→p.isCell=true∧zhi w.heap b (off+i)=some (g i))∧∀ (i:Nat) p,ts[i]?=some p→VI w.heap (zo4 F G lo) p (g i):=by
   intro b off cs ts hc hm
   obtain ⟨h1,h2⟩:=zcj _ _ hm
   refine ⟨fun i=>(zhi w.heap b (off+i)).getD undef,fun i p hp=>?_,fun i p hp=>?_⟩
   ·obtain ⟨x,h3,h4⟩:=h2 i p hp
    obtain ⟨h5,v,h6,h7⟩:=hc i x h3
    exact ⟨zpr h4 h5,by simp [h6]⟩
   obtain ⟨x,h3,h4⟩:=h2 i p hp
   obtain ⟨h5,v,h6,h7⟩:=hc i x h3
   simp only[h6]
   exact zmx hi h7 h4
  have rowVI:∀ {cs ts:List PV} {vs:Array Value},cs.length=vs.size→(∀ (i:Nat) p v,cs[i]?=some p→vs[i]?=some v→VR w.heap F G p v)→cs.mapM (rfz G.er lo k)=some ts →
    ts.length=vs.size∧∀ (i:Nat) p v,ts[i]?=some p→vs[i]?=some v→VI w.heap (zo4 F G lo) p v:=by
   intro cs ts vs hl hp hm
   obtain ⟨h1,h2⟩:=zcj _ _ hm
   refine ⟨by omega,fun i p v q1 q2=>?_⟩
   obtain ⟨x,h3,h4⟩:=h2 i p q1
   exact zmx hi (hp i x v h3 q2) h4
  cases p with
  | int q n=>simp only[rfz]at h; cases h; rw [hv.int]; exact .int _ _
  | bool b=>simp only[rfz]at h; cases h; rw [hv.bool]; exact .bool _
  | str s=>simp only[rfz]at h; cases h; obtain ⟨b,rfl,hb⟩:=hv.str; exact .str _ _ hb
  | nilp=>simp only[rfz]at h; cases h; cases hv with | imm _ _ hv=>cases hv; exact .nilp
  | nilf=>simp only[rfz]at h; cases h; cases hv with | imm _ _ hv=>cases hv; exact .nilf
  | yl l=>simp only[rfz]at h; cases h; cases hv with | imm _ _ hv=>cases hv; exact .yl _
  | nilm=>simp only[rfz]at h; cases h; cases hv with | imm _ _ hv=>cases hv; exact .nilm
  | nils=>simp only[rfz]at h; cases h; cases hv with | imm _ _ hv=>cases hv; exact .nils
  | agg cs =>
   simp only[rfz]at h
   rw [qI]at h
   obtain ⟨ts,h1,rfl⟩:=h
   obtain ⟨vs,rfl,h2,h3⟩:=hv.agg'
   obtain ⟨h4,h5⟩:=rowVI h2 h3 h1
   exact .agg _ _ h4 h5
  | tup cs =>
   simp only[rfz]at h
   rw [qI]at h
   obtain ⟨ts,h1,rfl⟩:=h
   obtain ⟨vs,rfl,h2,h3⟩:=hv.tup'
   obtain ⟨h4,h5⟩:=rowVI h2 h3 h1
   exact .tup _ _ h4 h5
  | fn f cs =>
   simp only[rfz]at h
   rw [qI]at h
   obtain ⟨ts,h1,rfl⟩:=h
   have:∃ vs:Array Value,cv = .func (.func f) #[] vs∧cs.length=vs.size∧∀ (i:Nat) p v,cs[i]?=some p→vs[i]?=some v→VR w.heap F G p v:=by
    cases hv with
    | imm _ _ hv=>cases hv with | fn _ _ vs h2 h3=>exact ⟨vs,rfl,h2,fun i p v a b => .imm _ _ (h3 i p v a b)⟩
    | fn _ _ vs h2 h3=>exact ⟨vs,rfl,h2,h3⟩
   obtain ⟨vs,rfl,h2,h3⟩:=this
   obtain ⟨h4,h5⟩:=rowVI h2 h3 h1
   exact .fn _ _ _ h4 h5
  | sl cs n =>
   simp only[rfz]at h
   cases h
   cases hv with
   | imm _ _ hv=>exact hv.mono (fun b hb => .inl hb) (fun _ _=>rfl)
  | ip cs off =>
   simp only[rfz]at h
   cases h
   cases hv with
   | imm _ _ hv=>exact hv.mono (fun b hb => .inl hb) (fun _ _=>rfl)
  | bm f b =>
   simp only[rfz]at h
   cases h
   cases hv with
   | imm _ _ hv=>exact hv.mono (fun b hb => .inl hb) (fun _ _=>rfl)
  | loc o ver off n =>
   simp only[rfz]at h
   split at h
   ·rename_i v et sz cells hob
    split at h
    ·rename_i hc
     obtain ⟨hlo,rfl,hle⟩:=hc
     rw [qI]at h
     obtain ⟨ts,h1,rfl⟩:=h
     obtain ⟨_,_,l,cap,ho,rfl,_,hn,_⟩:=hv.loc_at hi (cells:=cells) (by simp [Store.cellsOf,hob])
     obtain ⟨l',hG⟩:=zf3 hob
     rw [hG]at ho
     cases ho
     have hc2:zdq w.heap F G l.blk off ((cells.drop off).take (n*sz)):=by
      have:=((hi.cellsAt hG).drop off).take (n*sz)
      rwa [Nat.zero_add]at this
     obtain ⟨g,g1,g2⟩:=cellsVI hc2 h1
     exact .sl _ _ _ _ _ g (fun _ => .inr ⟨o,_,hlo,hG,rfl⟩) hn g1 g2
    cases h
   cases h
  | ref o ver off =>
   simp only[rfz]at h
   split at h
   case isFalse=>cases h
   rename_i hlo
   rw [Option.bind_eq_some_iff]at h
   obtain ⟨cells,hc,h⟩:=h
   rw [qI]at h
   obtain ⟨ts,h1,rfl⟩:=h
   obtain ⟨et,sz,l,hG,rfl,_⟩:=hv.ref_at hi hc
   obtain ⟨g,g1,g2⟩:=cellsVI (hi.cellsAt hG) h1
   have:=VI.ip (F:=zo4 F G lo) ts off l.blk 0 g (fun _ => .inr ⟨o,_,hlo,hG,rfl⟩) g1 g2
   rwa [Nat.zero_add]at this
  | mp o ver=>simp only[rfz]at h; cases h
  | undef=>simp only[rfz]at h; cases h
def frz (S:Store) (lo:Nat):Nat→PV→Option PV
 | 0,_=>none
 | k+1,p =>
  match p with
  | .agg cs=>(cs.mapM (frz S lo k)).map .agg
  | .tup cs=>(cs.mapM (frz S lo k)).map .tup
  | .fn f cs=>(cs.mapM (frz S lo k)).map (.fn f)
  | .loc o ver off n=>if o<lo then some (.loc o ver off n) else rfz S lo 10 (.loc o ver off n)
  | .ref o ver off=>if o<lo then some (.ref o ver off) else rfz S lo 10 (.ref o ver off)
  | .mp o ver=>if o<lo then some (.mp o ver) else none
  | .undef=>some .undef
  | p=>rfz S lo 10 p
theorem zqq (hi:Inv F G w) {lo:Nat} {F':Nat→Prop} {G':GSt} (hF:∀ b,zo4 F G lo b→F' b) (hn:Next F G w F' G' w):∀ {k:Nat} {p t:PV} {cv:Value},VR w.heap F G p cv→frz G.er lo k p=some t→VR w.heap F' G' t cv
 | 0,p,t,cv,_,h=>by simp [frz]at h
 | k+1,p,t,cv,hv,h=>by
  have rowVR:∀ {cs ts:List PV} {vs:Array Value},cs.length=vs.size→(∀ (i:Nat) p v,cs[i]?=some p→vs[i]?=some v→VR w.heap F G p v)→cs.mapM (frz G.er lo k)=some ts →
    ts.length=vs.size∧∀ (i:Nat) p v,ts[i]?=some p→vs[i]?=some v→VR w.heap F' G' p v:=by
   intro cs ts vs hl hp hm
   obtain ⟨h1,h2⟩:=zcj _ _ hm
   refine ⟨by omega,fun i p v q1 q2=>?_⟩
   obtain ⟨x,h3,h4⟩:=h2 i p q1
   exact zqq hi hF hn (hp i x v h3 q2) h4
  have data:∀ {p:PV},VR w.heap F G p cv→rfz G.er lo 10 p=some t→VR w.heap F' G' t cv:=fun hv h => .imm _ _ ((zmx hi hv h).mono hF fun _ _=>rfl)
  cases p with
  | agg cs =>
   simp only[frz]at h
   rw [qI]at h
   obtain ⟨ts,h1,rfl⟩:=h
   obtain ⟨vs,rfl,h2,h3⟩:=hv.agg'
   obtain ⟨h4,h5⟩:=rowVR h2 h3 h1
   exact .agg _ _ h4 h5
  | tup cs =>
   simp only[frz]at h
   rw [qI]at h
   obtain ⟨ts,h1,rfl⟩:=h
   obtain ⟨vs,rfl,h2,h3⟩:=hv.tup'
   obtain ⟨h4,h5⟩:=rowVR h2 h3 h1
   exact .tup _ _ h4 h5
  | fn f cs =>
   simp only[frz]at h
   rw [qI]at h
   obtain ⟨ts,h1,rfl⟩:=h
   have:∃ vs:Array Value,cv = .func (.func f) #[] vs∧cs.length=vs.size∧∀ (i:Nat) p v,cs[i]?=some p→vs[i]?=some v→VR w.heap F G p v:=by
    cases hv with
    | imm _ _ hv=>cases hv with | fn _ _ vs h2 h3=>exact ⟨vs,rfl,h2,fun i p v a b => .imm _ _ (h3 i p v a b)⟩
    | fn _ _ vs h2 h3=>exact ⟨vs,rfl,h2,h3⟩
   obtain ⟨vs,rfl,h2,h3⟩:=this
   obtain ⟨h4,h5⟩:=rowVR h2 h3 h1
   exact .fn _ _ _ h4 h5
  | loc o ver off n =>
   simp only[frz]at h
   split at h
   ·cases h; exact hv.next hi hn
   exact data hv h
  | ref o ver off =>
   simp only[frz]at h
   split at h
   ·cases h; exact hv.next hi hn
   exact data hv h
  | mp o ver =>
   simp only[frz]at h
   split at h
   ·cases h; exact hv.next hi hn
   cases h
  | undef=>simp only[frz]at h; cases h; exact .imm _ _ (.undef _)
  | _=>simp only[frz]at h; exact data hv h
theorem ydf {S:Store} {lo:Nat}:∀ {k:Nat} {p t:PV},frz S lo k p=some t→p.isCell=true→t.isCell=true
 | 0,p,t,h,_=>by simp [frz]at h
 | k+1,p,t,h,hp=>by
  cases p with
  | agg cs=>simp [PV.isCell]at hp
  | tup cs=>simp [PV.isCell]at hp
  | undef=>simp [PV.isCell]at hp
  | fn f cs=>simp only[frz]at h; rw [qI]at h; obtain ⟨_,_,rfl⟩:=h; rfl
  | loc o ver off n=>simp only[frz]at h; split at h; (· cases h; rfl); exact zpr h hp
  | ref o ver off=>simp only[frz]at h; split at h; (· cases h; rfl); exact zpr h hp
  | mp o ver=>simp only[frz]at h; split at h; (· cases h; rfl); cases h
  | _=>simp only[frz]at h; exact zpr h hp
def zej (S:Store) (lo:Nat):Ob→Option Ob
 | .arr ver et sz cells=>(cells.mapM (frz S lo 10)).map (.arr ver et sz ·)
 | .map ver es=>(es.mapM fun q=>(frz S lo 10 q.1).bind fun a=>(frz S lo 10 q.2).map fun b=>(a,b)).map (.map ver ·)
 | .lp ver l r tmps=>(tmps.mapM (frz S lo 10)).map (.lp ver l r ·)
def zec (S:Store) (lo:Nat):List Ob→Option (List Ob)
 | []=>some []
 | o::r=>(zej S lo o).bind fun a=>(zec S lo r).map (a :: ·)
def Store.frz (S:Store) (lo:Nat):Option Store:=(zec S lo (S.obs.take lo)).map (⟨·,S.tick⟩)
theorem ztb {S:Store} {lo:Nat}:∀ {l l':List Ob},zec S lo l=some l'→l.length=l'.length∧∀ (i:Nat) ob',l'[i]?=some ob'→∃ ob,l[i]?=some ob∧zej S lo ob=some ob'
 | [],l',h=>by simp [zec]at h; subst h; simp
 | o::l,l',h=>by
  simp only[zec]at h
  rw [Option.bind_eq_some_iff]at h
  obtain ⟨a,h1,h⟩:=h
  rw [qI]at h
  obtain ⟨r,h2,rfl⟩:=h
  obtain ⟨h3,h4⟩:=ztb h2
  refine ⟨by simp [h3],?_⟩
  rintro (_ | i) ob' hi
  ·simp at hi; subst hi; exact ⟨o,rfl,h1⟩
  simp at hi; obtain ⟨ob,h5,h6⟩:=h4 i ob' hi; exact ⟨ob,by simpa using h5,h6⟩
theorem znq {S:Store} {lo:Nat} {ob ob':Ob} (h:zej S lo ob=some ob'):ob.ver=ob'.ver∧ob.like ob':=by
 cases ob with
 | arr v et sz cells=>simp only[zej]at h; rw [qI]at h; obtain ⟨_,_,rfl⟩:=h; simp [Ob.ver,Ob.like]
 | map v es=>simp only[zej]at h; rw [qI]at h; obtain ⟨_,_,rfl⟩:=h; simp [Ob.ver,Ob.like]
 | lp _ _ _ _=>simp only[zej]at h; rw [qI]at h; obtain ⟨_,_,rfl⟩:=h; simp [Ob.ver,Ob.like]
theorem zmb {f:PV × PV→Option (PV × PV)}:∀ (xs ys:List (PV × PV)),xs.mapM f=some ys→xs.length=ys.length∧∀ (i:Nat) y,ys[i]?=some y→∃ x,xs[i]?=some x∧f x=some y
 | [],ys,h=>by simp at h; subst h; simp
 | x::xs,ys,h=>by
  rw [qC]at h
  cases hx:f x with
  | none=>simp [hx]at h
  | some y =>
   cases hr:xs.mapM f with
   | none=>simp [hx,hr]at h
   | some ys' =>
    simp [hx,hr]at h
    subst h
    obtain ⟨h1,h2⟩:=zmb xs ys' hr
    refine ⟨by simp [h1],?_⟩
    rintro (_ | i) z hz
    ·simp at hz; subst hz; exact ⟨x,rfl,hx⟩
    simp at hz; obtain ⟨u,h3,h4⟩:=h2 i z hz; exact ⟨u,by simpa using h3,h4⟩
theorem ydg (hi:Inv F G w) {lo:Nat} {S':Store} (h:G.er.frz lo=some S'):∃ G',G'.er=S'∧Inv (zo4 F G lo) G' w∧Next F G w (zo4 F G lo) G' w:=by
 unfold Store.frz at h
 rw [qI]at h
 obtain ⟨obs',h1,rfl⟩:=h
 obtain ⟨h2,h3⟩:=ztb h1
 let G':GSt:=⟨List.zipWith (fun ob (x:Ob × Lc)=>(ob,x.2)) obs' (G.obs.take lo),G.tick⟩
 have hlen:obs'.length=(G.obs.take lo).length:=by rw [← h2]; simp [GSt.er]
 have her:G'.er=⟨obs',G.er.tick⟩:=by
  simp only[GSt.er,G',Store.mk.injEq,and_true]
  apply List.ext_getElem
  ·simp [hlen]
  intro i a b; simp
 have hget:∀ (o:Nat) ob' l,G'.obs[o]?=some (ob',l)→o<lo∧∃ ob,G.obs[o]?=some (ob,l)∧zej G.er lo ob=some ob':=by
  intro o ob' l ho
  simp only[G',List.getElem?_zipWith]at ho
  cases ha:obs'[o]? with
  | none=>rw [ha]at ho; simp at ho
  | some a =>
   cases hb:(G.obs.take lo)[o]? with
   | none=>rw [ha,hb]at ho; simp at ho
   | some x =>
    rw [ha,hb]at ho
    simp at ho
    obtain ⟨rfl,rfl⟩:=ho
    obtain ⟨ob,k1,k2⟩:=h3 o a ha
    rw [List.getElem?_take]at hb
    split at hb
    ·rename_i hlt
     refine ⟨hlt,ob,?_,k2⟩
     have:(G.er.obs.take lo)[o]?=some x.1:=by
      rw [List.getElem?_take,if_pos hlt]; simp [GSt.er,hb]
     rw [this]at k1
     cases k1
     exact hb
    cases hb
 have hn:Next F G w (zo4 F G lo) G' w:=by
  refine ⟨rfl,rfl,rfl,qR _,fun b hb => .inl hb,?_,?_,qR _,fun _ _ _=>rfl,?_,qR _⟩
  ·rintro b (hb | ⟨o,x,_,hx,rfl⟩)
   ·exact .inl hb
   exact .inr (.inr ⟨o,x,hx,rfl⟩)
  ·rintro o ⟨ob',l⟩ hx
   obtain ⟨_,ob,k1,_⟩:=hget o ob' l hx
   exact .inr ⟨o,_,k1,rfl⟩
  intro o ob' l hx _
  obtain ⟨_,ob,k1,k2⟩:=hget o ob' l hx
  exact ⟨ob,k1,(znq k2).1,(znq k2).2⟩
 have hsound:∀ {k:Nat} {p t:PV} {cv:Value},VR w.heap F G p cv→frz G.er lo k p=some t→VR w.heap (zo4 F G lo) G' t cv:=fun hv h=>zqq hi (fun _ h=>h) hn hv h
 refine ⟨G',her,⟨?_,?_,?_,?_,?_,?_,?_⟩,hn⟩
 ·rintro b (hb | ⟨o,x,_,hx,rfl⟩)
  ·exact hi.fr b hb
  exact hi.blk_lt hx
 ·intro o ob' l hx
  obtain ⟨_,ob,k1,k2⟩:=hget o ob' l hx
  have:=hi.ver o ob l k1
  rw [(znq k2).1]at this
  exact this
 ·intro o ob' l hx hb
  obtain ⟨hlt,ob,k1,k2⟩:=hget o ob' l hx
  rcases hb with hb | ⟨o',x,hlo,hx',e⟩
  ·exact hi.nF o ob l k1 hb
  have:=hi.inj o' o _ _ hx' k1 e
  omega
 ·intro o ver et sz cells l hx
  obtain ⟨_,ob,k1,k2⟩:=hget o _ l hx
  cases ob with
  | map v es=>simp only[zej]at k2; rw [qI]at k2; obtain ⟨_,_,k3⟩:=k2; cases k3
  | lp _ _ _ _=>simp only[zej]at k2; rw [qI]at k2; obtain ⟨_,_,k3⟩:=k2; cases k3
  | arr v et2 sz2 cells2 =>
   simp only[zej]at k2
   rw [qI]at k2
   obtain ⟨cs',k3,k4⟩:=k2
   cases k4
   obtain ⟨m1,m2⟩:=zcj _ _ k3
   obtain ⟨cs,q1,q2,q3,q4⟩:=hi.arr o _ _ _ _ l k1
   refine ⟨cs,q1,q2,by omega,fun i p hp=>?_⟩
   obtain ⟨x,x1,x2⟩:=m2 i p hp
   obtain ⟨c1,v1,v2,v3⟩:=q4 i x x1
   exact ⟨ydf x2 c1,v1,v2,hsound v3 x2⟩
 ·intro o ver es l hx
  obtain ⟨_,ob,k1,k2⟩:=hget o _ l hx
  cases ob with
  | arr v et2 sz2 cells2=>simp only[zej]at k2; rw [qI]at k2; obtain ⟨_,_,k3⟩:=k2; cases k3
  | lp _ _ _ _=>simp only[zej]at k2; rw [qI]at k2; obtain ⟨_,_,k3⟩:=k2; cases k3
  | map v es2 =>
   simp only[zej]at k2
   rw [qI]at k2
   obtain ⟨es',k3,k4⟩:=k2
   cases k4
   obtain ⟨m1,m2⟩:=zmb _ _ k3
   obtain ⟨ents,clock,q1,q2,q3⟩:=hi.map o _ _ l k1
   refine ⟨ents,clock,q1,by omega,fun i k v hp=>?_⟩
   obtain ⟨x,x1,x2⟩:=m2 i (k,v) hp
   obtain ⟨en,e1,e2,e3⟩:=q3 i x.1 x.2 x1
   rw [Option.bind_eq_some_iff]at x2
   obtain ⟨a,y1,y2⟩:=x2
   rw [qI]at y2
   obtain ⟨b,y3,y4⟩:=y2
   cases y4
   exact ⟨en,e1,hsound e2 y1,hsound e3 y3⟩
 ·rintro o o' ⟨ob,l⟩ ⟨ob',l'⟩ hx hx' e
  obtain ⟨_,a,k1,_⟩:=hget o _ _ hx
  obtain ⟨_,a',k1',_⟩:=hget o' _ _ hx'
  exact hi.inj o o' _ _ k1 k1' e
 intro o ver b r tmps l hx
 obtain ⟨_,ob,k1,k2⟩:=hget o _ l hx
 cases ob with
 | arr v et2 sz2 cells2=>simp only[zej]at k2; rw [qI]at k2; obtain ⟨_,_,k3⟩:=k2; cases k3
 | map v es=>simp only[zej]at k2; rw [qI]at k2; obtain ⟨_,_,k3⟩:=k2; cases k3
 | lp v b2 r2 tmps2 =>
  simp only[zej]at k2
  rw [qI]at k2
  obtain ⟨cs',k3,k4⟩:=k2
  cases k4
  obtain ⟨m1,m2⟩:=zcj _ _ k3
  obtain ⟨q0,t,q1,q2,q3⟩:=hi.lp o _ _ _ _ l k1
  refine ⟨q0,t,q1,⟨q2.1,by omega⟩,fun i p v hp hv=>?_⟩
  obtain ⟨x,x1,x2⟩:=m2 i p hp
  exact hsound (q3 i x v x1 hv) x2
variable {Q:Exit→Env→Store→Prop} {S:Store} {a b c:Code}
def z69 (L:List Nat) (I:List PV→Store→Prop) (e:Env) (S:Store):Prop :=
 ∃ lo vs S',(L.map e).mapM (frz S lo 10)=some vs∧S.frz lo=some S'∧I vs S'
theorem zvi {H:Array Obj} {F:Nat→Prop} {G:GSt} {a:Act}:∀ (L:List Nat) (vs:List PV),L.length=vs.length→(∀ (i t:Nat) v,L[i]?=some t→vs[i]?=some v→VR H F G v (a.tmps.getD t undef))→zfi H F G (Env.of L vs) a
 | [],_,_,_,t => .imm _ _ (.undef _)
 | x::L,[],h,_,t=>by simp at h
 | x::L,v::vs,hl,h,t=>by
  simp only[Env.of]
  split
  ·rename_i e; rw [e]; exact h 0 x v rfl rfl
  exact zvi L vs (by simpa using hl) (fun i t v q1 q2=>h (i+1) t v (by simpa using q1) (by simpa using q2)) t
theorem zta (hi:Inv F G w) {e:Env} {act:Act} (he:zfi w.heap F G e act) {L:List Nat} {I:List PV→Store→Prop} (h:z69 L I e G.er) :
  ∃ vs F' G',I vs G'.er∧vs.length=L.length∧Inv F' G' w∧Next F G w F' G' w∧zfi w.heap F' G' (Env.of L vs) act:=by
 obtain ⟨lo,vs,S',h1,h2,h3⟩:=h
 obtain ⟨G',rfl,k2,k3⟩:=ydg hi h2
 obtain ⟨m1,m2⟩:=zcj _ _ h1
 refine ⟨vs,_,G',h3,by rw [← m1]; simp,k2,k3,zvi L vs (by rw [← m1]; simp) fun i t v q1 q2=>?_⟩
 obtain ⟨x,x1,x2⟩:=m2 i v q2
 rw [List.getElem?_map,q1]at x1
 cases x1
 exact zqq hi (fun _ h=>h) k3 (he t) x2
theorem W.foldZ (L:List Nat) {I:List PV→Store→Prop} (hI:z69 L I e S) (h:∀ vs S,vs.length=L.length→I vs S→W P T c Q (Env.of L vs) S):W P T c Q e S:=by
 refine ⟨?_⟩
 intro hT hm F0 G0 w0 N F G a w h3 h4 h5 h6 h7 h8 h9 R nn
 subst h3
 obtain ⟨vs,F',G',k1,k2,k3,k4,k5⟩:=zta h4 h5 hI
 exact (h vs _ k2 k1).run hT hm F0 G0 w0 N F' G' a w rfl k3 k5 (h6.trans k4) h7 h8 h9
theorem W.joinZ (L:List Nat) (I:List PV→Store→Prop) (h:W P T a (XThen (z69 L I) Q) e S) (k:∀ vs S,vs.length=L.length→I vs S→W P T b Q (Env.of L vs) S):W P T (.seq a b) Q e S:=by
 refine W.seq (h.mono ?_)
 intro x e S hx
 cases x with
 | normal=>exact W.foldZ L hx k
 | _=>exact hx
theorem W.loopZ (L:List Nat) (I:Nat→List PV→Store→Prop) (n:Nat) (h0:z69 L (I n) e S)
  (h:∀ n vs S,vs.length=L.length→I n vs S→W P T c (XThen (fun e S=>∃ m,m<n∧z69 L (I m) e S) Q) (Env.of L vs) S):W P T (.loop c) Q e S:=by
 refine W.foldZ L h0 fun vs S hl hI=>?_
 refine ⟨?_⟩
 intro hT hm F0 G0 w0 N F G a w h3 h4 h5 h6 h7 h8 h9 R nn
 refine wpIn_loop_rounds (n+1) ?_
 clear h0
 induction n using Nat.strongRecOn generalizing vs S F G a w with
 | _ n ih =>
  refine wpIn_mono ((h n vs S hl hI).run hT hm F0 G0 w0 N F G a w h3 h4 h5 h6 h7 h8 (by simpa [zg7] using h9)) ?_
  rintro x a' w' ⟨e',F',G',k1,k2,k3,k4,k5,k6⟩
  cases x with
  | normal =>
   obtain ⟨m,hmn,hk⟩:=k1
   obtain ⟨vs',F2,G2,q1,q2,q3,q4,q5⟩:=zta k2 k3 hk
   exact zla (by omega) _ _ (ih m hmn vs' _ q2 q1 F2 G2 a' w' rfl q3 q5 (k4.trans q4) k5 k6)
  | _=>exact ⟨e',F',G',k1,k2,k3,k4,k5,k6⟩
theorem zd4 {S:Store} {lo k:Nat} {q:IntKind} {n:Int}:frz S lo (k+1) (.int q n)=some (.int q n):=rfl
theorem zc7 {S:Store} {lo k:Nat} {b:Bool}:frz S lo (k+1) (.bool b)=some (.bool b):=rfl
theorem zd5 {S:Store} {lo k:Nat} {b:List UInt8}:frz S lo (k+1) (.str b)=some (.str b):=rfl
theorem zfl {S:Store} {lo k n:Nat} {cs:List PV}:frz S lo (k+1) (.sl cs n)=some (.sl cs n):=rfl
theorem zds {S:Store} {lo k o ver off n:Nat}:frz S lo (k+1) (.loc o ver off n)=if o<lo then some (.loc o ver off n) else rfz S lo 10 (.loc o ver off n):=rfl
theorem zd8 {S:Store} {lo k:Nat} {q:IntKind} {n:Int}:rfz S lo (k+1) (.int q n)=some (.int q n):=rfl
theorem zdb {S:Store} {lo k:Nat} {b:Bool}:rfz S lo (k+1) (.bool b)=some (.bool b):=rfl
theorem zd9 {S:Store} {lo k:Nat} {b:List UInt8}:rfz S lo (k+1) (.str b)=some (.str b):=rfl
theorem zdj {S:Store} {lo k o ver off n:Nat}:rfz S lo (k+1) (.loc o ver off n)=(match S.obs[o]? with
  | some (.arr v _ sz cells)=>if lo≤o∧v=ver∧off+n*sz≤cells.length then (((cells.drop off).take (n*sz)).mapM (rfz S lo k)).map (.sl · n) else none
  | _=>none):=rfl
theorem zuz {α:Type} {f:α→PV} {S:Store} {lo k:Nat} (h:∀ a,frz S lo k (f a)=some (f a)) (l:List α):(l.map f).mapM (frz S lo k)=some (l.map f) :=
 zb7 fun x hx=>by obtain ⟨a,_,rfl⟩:=List.mem_map.1 hx; exact h a
theorem z1r {α:Type} {f:α→PV} {S:Store} {lo k:Nat} (h:∀ a,rfz S lo k (f a)=some (f a)) (l:List α):(l.map f).mapM (rfz S lo k)=some (l.map f) :=
 zb7 fun x hx=>by obtain ⟨a,_,rfl⟩:=List.mem_map.1 hx; exact h a
theorem zcn {S:Store} {lo k:Nat} (l:List (List Int)):(l.map eInts).mapM (frz S lo (k+1))=some (l.map eInts):=zuz (fun _=>rfl) l
theorem zc9 {S:Store} {lo k:Nat} (l:List (List UInt8)):(l.map PV.str).mapM (frz S lo (k+1))=some (l.map PV.str):=zuz (fun _=>rfl) l
theorem zc8 {S:Store} {lo k:Nat} (l:List Int):(l.map (PV.int .i64)).mapM (frz S lo (k+1))=some (l.map (PV.int .i64)):=zuz (fun _=>rfl) l
theorem zcm {S:Store} {lo k:Nat} (l:List UInt8):(l.map eB).mapM (frz S lo (k+1))=some (l.map eB):=zuz (fun _=>rfl) l
theorem zcu {S:Store} {lo k:Nat} (l:List Int):(l.map (PV.int .i64)).mapM (rfz S lo (k+1))=some (l.map (PV.int .i64)):=z1r (fun _=>rfl) l
theorem zcp {S:Store} {lo k:Nat} (l:List UInt8):(l.map eB).mapM (rfz S lo (k+1))=some (l.map eB):=z1r (fun _=>rfl) l
theorem za5 {f:PV→Option PV} {a b:PV} {l l':List PV} (h1:f a=some b) (h2:l.mapM f=some l'):(a::l).mapM f=some (b::l'):=by
 rw [qC,h1]; simp [h2]
end
section
variable {P:Program} {T:Tab} {Q:Exit→Env→Store→Prop} {e:Env} {S:Store} {b:Code}
def zdz (o:Op):Bool:=ztf o && (match o with | .call ⟨.value _,_,_⟩=>false | _=>true)
def zcc:List Oper→Nat→List Nat
 | [],_=>[]
 | o::r,i=>if zdz o.op then zcc r (i+1) else i::zcc r (i+1)
theorem zhp:∀ (l:List Oper) (k i:Nat) (o:Oper),l[i]?=some o→k+i ∉ zcc l k→zdz o.op=true
 | [],_,_,_,h,_=>by simp at h
 | o'::l,k,0,o,h,hn=>by
  simp at h; subst h
  unfold zcc at hn
  split at hn
  ·assumption
  simp at hn
 | o'::l,k,i+1,o,h,hn=>by
  simp only[List.getElem?_cons_succ]at h
  refine zhp l (k+1) i o h fun hm=>hn ?_
  unfold zcc
  split
  ·rwa [show k+(i+1)=k+1+i by omega]
  rw [show k+(i+1)=k+1+i by omega]; exact List.mem_cons_of_mem _ hm
theorem zj1 {o:Op} {K:PV→Store→Prop} (hf:zdz o=true) (h:sOp false P T e S o K):z64 P T S e o fun v=>K v S:=by
 refine z8g (by unfold zdz at hf; simp only[qB]at hf; exact hf.1) ?_
 cases o with
 | call c =>
  obtain ⟨cal,xs,ts⟩:=c
  cases cal with
  | value f=>simp [zdz]at hf
  | _=>exact h
 | _=>exact h
theorem zjz {all:List Oper} {K:Env→Store→Prop}:∀ (r:List Oper) (k:Nat) (e:Env) (S:Store),all.drop k=r→zbq false P T (dsts all) r e S K →
  zdg P T all.toArray (zcc all 0) [] [] K (List.range' k r.length) e S
 | [],_,_,_,_,h=>h
 | o::r,k,e,S,hk,h=>by
  have ho:all[k]?=some o:=by
   have:=congrArg (fun l=>l[0]?) hk
   simpa using this
  have hr:all.drop (k+1)=r:=by
   have:=congrArg (List.drop 1) hk
   simpa [List.drop_drop] using this
  unfold zbq at h
  simp only[List.length_cons,List.range'_succ,zdg,List.getElem?_toArray,ho]
  rw [zjd]at h
  unfold zdw
  split at h
  ·rename_i hg
   rw [hg]
   simp only
   split
   ·rename_i hc
    exact zey (fun v S' hv=>⟨.inr (by intro o ho; cases ho),zjz r (k+1) _ _ hr hv⟩) (zjm h)
   rename_i hc
   have hflat:=zhp all 0 k o ho (by simpa using hc)
   have:=zj1 hflat h
   rw [zc0]at this ⊢
   obtain ⟨v,h1,h2⟩:=this
   exact ⟨v,h1,by simp,zjz r (k+1) _ _ hr h2⟩
  ·rename_i hg; rw [hg]; exact zjz r (k+1) _ _ hr h
  exact h.elim
theorem W.drawE_k {id:Nat} {l:List Oper} (hc:zhy l.toArray (List.range' 0 l.length) (zcc l 0) []=true) (h:∀ K:Env→Store→Prop,(∀ e S,Q .normal e S→K e S)→zbq false P T (dsts l) l e S K) :
  W P T (.region id l.toArray true) Q e S :=
 W.region_any (List.range' 0 l.length) (zcc l 0) [] [] hc (zjz l 0 _ _ rfl (h _ fun _ _ h=>h))
theorem W.seq_drawE {id:Nat} {l:List Oper} (hc:zhy l.toArray (List.range' 0 l.length) (zcc l 0) []=true) (h:∀ K:Env→Store→Prop,(∀ e S,W P T b Q e S→K e S)→zbq false P T (dsts l) l e S K) :
  W P T (.seq (.region id l.toArray true) b) Q e S :=
 W.seq (W.drawE_k hc fun K hK=>h K hK)
end
end
theorem b_mc {α β:Type} {f:α→β} {a:α} {l:List α}:(a::l).map f=f a::l.map f:=rfl
theorem b_mn {α β:Type} {f:α→β}:([]:List α).map f=[]:=rfl
theorem yjn {α:Type} [BEq α] [ReflBEq α] {a:α}:(a == a)=true:=beq_self_eq_true a
theorem yjo:(false=true)=False:=by simp
theorem b_tn {n:Nat}:((n:Int)).toNat=n:=Int.toNat_natCast n
theorem b_gm {α β:Type} {f:α→β} {l:List α} {i:Nat}:(l.map f)[i]?=(l[i]?).map f:=List.getElem?_map
theorem b_os {α β:Type} {f:α→β} {a:α}:(some a).map f=some (f a):=rfl
theorem b_ob {α β:Type} {f:α→Option β} {a:α}:(some a).bind f=f a:=rfl
theorem b_g0 {α:Type} {a:α} {l:List α}:(a::l)[0]?=some a:=rfl
theorem b_gs {α:Type} {a:α} {l:List α} {i:Nat}:(a::l)[i+1]?=l[i]?:=by simp
theorem RH:(type_of% @b_mc)∧(type_of% @b_mn)∧(type_of% @yjn)∧(type_of% yjo)∧(type_of% @b_tn)∧(type_of% @Nat.mul_one)∧(type_of% @b_gm)∧(type_of% @b_os)∧(type_of% @b_ob)∧(type_of% @b_g0)∧(type_of% @b_gs) :=
 ⟨@b_mc,@b_mn,@yjn,yjo,@b_tn,@Nat.mul_one,@b_gm,@b_os,@b_ob,@b_g0,@b_gs⟩
theorem b_ca {α:Type} {a:α} {l m:List α}:(a::l)++m=a::(l++m):=rfl
theorem b_na {α:Type} {m:List α}:([]:List α)++m=m:=rfl
theorem b_lc {α:Type} {a:α} {l:List α}:(a::l).length=l.length+1:=rfl
theorem b_ln {α:Type}:([]:List α).length=0:=rfl
theorem b_s0 {α:Type} {a b:α} {l:List α}:(a::l).set 0 b=b::l:=rfl
theorem b_ss {α:Type} {a b:α} {l:List α} {n:Nat}:(a::l).set (n+1) b=a::l.set n b:=rfl
theorem b_d0 {α:Type} {l:List α}:l.drop 0=l:=rfl
theorem b_t0 {α:Type} {l:List α}:l.take 0=[]:=List.take_zero
theorem b_ts {α:Type} {a:α} {l:List α} {n:Nat}:(a::l).take (n+1)=a::l.take n:=rfl
theorem b_ds {α:Type} {a:α} {l:List α} {n:Nat}:(a::l).drop (n+1)=l.drop n:=rfl
theorem b_dn {α:Type} {n:Nat}:([]:List α).drop n=[]:=List.drop_nil
theorem yjp {α:Type} {n:Nat}:([]:List α).take n=[]:=List.take_nil
theorem b_lm {α β:Type} {f:α→β} {l:List α}:(l.map f).length=l.length:=List.length_map f
theorem b_nt:(¬ False)=True:=not_false_eq_true
theorem yk4 {α:Type} {a b:α}:(a≠b)=¬ (a=b):=rfl
theorem RW:(type_of% RV)∧(type_of% RH):=⟨RV,RH⟩
theorem iP:type_of% @if_pos := @if_pos
theorem RG:(type_of% @b_ca)∧(type_of% @b_na)∧(type_of% @b_lc)∧(type_of% @b_ln)∧(type_of% @b_s0)∧(type_of% @b_ss)∧(type_of% @b_d0)∧(type_of% @b_t0)∧(type_of% @b_ts)∧(type_of% @b_ds)∧(type_of% @b_dn)∧(type_of% @yjp)∧(type_of% Nat.zero_add)∧(type_of% Nat.add_zero)∧(type_of% true_and)∧(type_of% and_true)∧(type_of% @b_lm)∧(type_of% @yk4)∧(type_of% b_nt)∧(type_of% @yb1)∧(type_of% @z6u)∧(type_of% @z9c)∧(type_of% zx2)∧(type_of% @zqb) :=
 ⟨@b_ca,@b_na,@b_lc,@b_ln,@b_s0,@b_ss,@b_d0,@b_t0,@b_ts,@b_ds,@b_dn,@yjp,Nat.zero_add,Nat.add_zero,true_and,and_true,@b_lm,@yk4,b_nt,@yb1,@z6u,@z9c,zx2,@zqb⟩
theorem yfl {α:Type} [BEq α] [LawfulBEq α] {a b:α}:((a == b)=true)=(a=b):=propext beq_iff_eq
theorem yfk {α:Type} [BEq α] [LawfulBEq α] {a b:α}:((a == b)=false)=¬ (a=b):=propext beq_eq_false_iff_ne
theorem yfn {α:Type} [BEq α] [LawfulBEq α] {a b:α}:((a != b)=true)=¬ (a=b):=propext bne_iff_ne
theorem yfm {α:Type} [BEq α] [LawfulBEq α] {a b:α}:((a != b)=false)=(a=b):=propext bne_eq_false_iff_eq
theorem b_gt {a b:Int}:(a>b)=(b<a):=rfl
theorem b_ge {a b:Int}:(a ≥ b)=(b≤a):=rfl
theorem RL:(type_of% @decide_eq_true_eq)∧(type_of% @decide_eq_false_iff_not)∧(type_of% @yfl)∧(type_of% @yfk)∧(type_of% @yfn)∧(type_of% @yfm)∧(type_of% @yk4)∧(type_of% @Classical.not_not)∧(type_of% @Bool.not_eq_true')∧(type_of% @Bool.not_eq_false')∧(type_of% @b_gt)∧(type_of% @b_ge) :=
 ⟨@decide_eq_true_eq,@decide_eq_false_iff_not,@yfl,@yfk,@yfn,@yfm,@yk4,@Classical.not_not,@Bool.not_eq_true',@Bool.not_eq_false',@b_gt,@b_ge⟩
inductive Bel (k:Nat):PV→Prop where
 | int (q n):Bel k (.int q n)
 | bool (b):Bel k (.bool b)
 | str (s):Bel k (.str s)
 | agg (cs):(∀ c∈cs,Bel k c)→Bel k (.agg cs)
 | tup (cs):(∀ c∈cs,Bel k c)→Bel k (.tup cs)
 | fn (f cs):(∀ c∈cs,Bel k c)→Bel k (.fn f cs)
 | sl (cs n):Bel k (.sl cs n)
 | nils:Bel k .nils
 | bm (f b):Bel k (.bm f b)
 | ip (cs n):Bel k (.ip cs n)
 | nilp:Bel k .nilp
 | nilm:Bel k .nilm
 | nilf:Bel k .nilf
 | yl (l:Nat):Bel k (.yl l)
 | undef:Bel k .undef
 | loc (o v f n):o<k→Bel k (.loc o v f n)
 | ref (o v f):o<k→Bel k (.ref o v f)
 | mp (o v):o<k→Bel k (.mp o v)
def Ob.bel (k:Nat):Ob→Prop
 | .arr _ _ _ cells=>∀ c∈cells,Bel k c
 | .map _ es=>∀ e∈es,Bel k e.1∧Bel k e.2
 | .lp _ _ _ tmps=>∀ c∈tmps,Bel k c
theorem VR.grow {H:Array Obj} {F:Nat→Prop} {G G':GSt} {k:Nat} (ht:G.tick≤G'.tick) (hg:∀ o,o<k→G'.obs[o]?=G.obs[o]?) {p:PV} {v:Value} (hb:Bel k p) (h:VR H F G p v):VR H F G' p v:=by
 induction h with
 | imm p v h=>exact .imm p v h
 | agg cs vs e _ ih=>cases hb with | agg _ hb=>exact .agg cs vs e fun i p v h1 h2=>ih i p v h1 h2 (hb p (List.mem_of_getElem? h1))
 | tup cs vs e _ ih=>cases hb with | tup _ hb=>exact .tup cs vs e fun i p v h1 h2=>ih i p v h1 h2 (hb p (List.mem_of_getElem? h1))
 | fn f cs vs e _ ih=>cases hb with | fn _ _ hb=>exact .fn f cs vs e fun i p v h1 h2=>ih i p v h1 h2 (hb p (List.mem_of_getElem? h1))
 | loc o ver off n a len cap hv k'=>cases hb with | loc _ _ _ _ hb=>exact .loc o ver off n a len cap (Nat.lt_of_lt_of_le hv ht) fun ob l h=>k' ob l (by rw [← hg o hb]; exact h)
 | ref o ver off a hv k'=>cases hb with | ref _ _ _ hb=>exact .ref o ver off a (Nat.lt_of_lt_of_le hv ht) fun ob l h=>k' ob l (by rw [← hg o hb]; exact h)
 | mp o ver r hv k'=>cases hb with | mp _ _ hb=>exact .mp o ver r (Nat.lt_of_lt_of_le hv ht) fun ob l h=>k' ob l (by rw [← hg o hb]; exact h)
theorem Ev.frame {P:Program} {f:FuncId} {args:List PV} {obs:List Ob} {t:Nat} {J:PV→Store→Prop} (h:Ev P f args ⟨obs,t⟩ J)
  (hJ:∀ v S,J v S→S.obs.length=obs.length∧Bel obs.length v∧∀ ob∈S.obs,ob.bel obs.length) (R:List Ob) :
  Ev P f args ⟨obs++R,t⟩ fun v S=>∃ S1,J v S1∧S=⟨S1.obs++R,S1.tick⟩:=by
 refine ⟨h.ent,?_⟩
 intro F G w cargs hS hi hl hv
 have hobs:G.obs.map (·.1)=obs++R:=congrArg Store.obs hS
 have htk:G.tick=t:=congrArg Store.tick hS
 have hlen:G.obs.length=obs.length+R.length:=by rw [← List.length_map (f:=(·.1)),hobs,List.length_append]
 obtain ⟨i1,n1⟩:=zft hi obs.length
 have e1:(G.take obs.length).er=⟨obs,t⟩:=by
  rw [zjr,hS]; simp [Store.take]
 refine Calls.mono (h.run F (G.take obs.length) w cargs e1 i1 hl fun i p c h1 h2=>(hv i p c h1 h2).next hi n1) ?_
 rintro e w' ⟨v,cv,F',G1,rfl,hj,i2,n2,r2⟩
 obtain ⟨j1,j2,j3⟩:=hJ _ _ hj
 have hG1:G1.obs.length=obs.length:=by rw [← j1]; simp [GSt.er]
 let G':GSt:=⟨G1.obs++G.obs.drop obs.length,G1.tick⟩
 have lo:∀ o,o<obs.length→G'.obs[o]?=G1.obs[o]?:=fun o ho=>by simp only[G']; rw [List.getElem?_append_left (by omega)]
 have hi':∀ o,obs.length≤o→G'.obs[o]?=G.obs[o]?:=fun o ho=>by
  simp only[G']; rw [List.getElem?_append_right (by omega),List.getElem?_drop]; congr 1; omega
 have tk:∀ o,o<obs.length→(G.take obs.length).obs[o]?=G.obs[o]?:=fun o ho=>by simp [GSt.take,List.getElem?_take,ho]
 have old:∀ o x,obs.length≤o→G.obs[o]?=some x→∀ (o':Nat) y,(G.take obs.length).obs[o']?=some y→y.2.blk≠x.2.blk:=by
  intro o x ho hx o' y hy e
  have h1:=zc2 hy
  have:=hi.inj o' o y x h1 hx e
  have:o'<obs.length:=by
   have:=(List.getElem?_eq_some_iff.1 hy).1
   simp only[GSt.take,List.length_take]at this; omega
  omega
 have nx:Next F G w F' G' w':=by
  refine ⟨n2.os,n2.tape,n2.output,n2.size,n2.fsub,?_,?_,n2.tick,?_,?_,n2.drawn⟩
  ·intro b hb
   rcases n2.fnew b hb with h1 | h1 | ⟨o,x,hx,e⟩
   ·exact .inl h1
   ·exact .inr (.inl h1)
   exact .inr (.inr ⟨o,x,zc2 hx,e⟩)
  ·intro o x hx
   by_cases ho:o<obs.length
   ·rw [lo o ho]at hx
    rcases n2.gnew o x hx with h1 | ⟨o',y,hy,e⟩
    ·exact .inl h1
    exact .inr ⟨o',y,zc2 hy,e⟩
   rw [hi' o (by omega)]at hx
   exact .inr ⟨o,x,hx,rfl⟩
  ·intro b hb hG
   exact n2.keep b hb fun o x hx=>hG o x (zc2 hx)
  intro o ob' l' hx hv
  by_cases ho:o<obs.length
  ·rw [lo o ho]at hx
   obtain ⟨ob,h1,h2,h3⟩:=n2.hand o ob' l' hx hv
   exact ⟨ob,zc2 h1,h2,h3⟩
  rw [hi' o (by omega)]at hx
  exact ⟨ob',hx,rfl,Ob.like.refl _⟩
 have bel1:∀ (o:Nat) (ob:Ob) (l:Lc),G1.obs[o]?=some (ob,l)→ob.bel obs.length:=fun o ob l ho=>j3 ob (by
  simp only[GSt.er]; exact List.mem_map.2 ⟨(ob,l),List.mem_of_getElem? ho,rfl⟩)
 refine ⟨v,cv,F',G',rfl,⟨_,hj,?_⟩,zje i2.fr ?_ ?_ ?_ ?_,nx,VR.grow (G:=G1) (G':=G') (qR _) lo j2 r2⟩
 ·simp only[GSt.er,G',List.map_append,Store.mk.injEq,and_true]
  congr 1
  rw [List.map_drop,hobs]; simp
 ·intro o ob l hx
  by_cases ho:o<obs.length
  ·rw [lo o ho]at hx; exact i2.ver o ob l hx
  rw [hi' o (by omega)]at hx; exact Nat.lt_of_lt_of_le (hi.ver o ob l hx) n2.tick
 ·intro o ob l hx hF
  by_cases ho:o<obs.length
  ·rw [lo o ho]at hx; exact i2.nF o ob l hx hF
  rw [hi' o (by omega)]at hx
  rcases n2.fnew _ hF with h1 | h1 | ⟨o',x,hx',e⟩
  ·exact hi.nF o ob l hx h1
  ·have:=hi.blk_lt hx; simp only at this; omega
  exact old o _ (by omega) hx o' x hx' e
 ·intro o ob l hx
  by_cases ho:o<obs.length
  ·rw [lo o ho]at hx
   have hb:=bel1 o ob l hx
   have:=i2.holds hx
   cases ob with
   | arr ver et sz cells =>
    obtain ⟨cs,h1,h2,h3,h4⟩:=this
    refine ⟨cs,h1,h2,h3,fun i p hp=>?_⟩
    obtain ⟨a1,v,a2,a3⟩:=h4 i p hp
    exact ⟨a1,v,a2,VR.grow (G:=G1) (G':=G') (qR _) lo (hb p (List.mem_of_getElem? hp)) a3⟩
   | map ver es =>
    obtain ⟨ents,clock,h1,h2,h3⟩:=this
    refine ⟨ents,clock,h1,h2,fun i k v hp=>?_⟩
    obtain ⟨en,a1,a2,a3⟩:=h3 i k v hp
    have hb':=hb (k,v) (List.mem_of_getElem? hp)
    exact ⟨en,a1,VR.grow (G:=G1) (G':=G') (qR _) lo hb'.1 a2,VR.grow (G:=G1) (G':=G') (qR _) lo hb'.2 a3⟩
   | lp ver b r tmps =>
    obtain ⟨h0,t,h1,h2,h3⟩:=this
    exact ⟨h0,t,h1,h2,fun i p v hp hv=>VR.grow (G:=G1) (G':=G') (qR _) lo (hb p (List.mem_of_getElem? hp)) (h3 i p v hp hv)⟩
  ·rw [hi' o (by omega)]at hx
   exact (hi.holds hx).next hi nx (n2.keep _ (hi.blk_lt hx) (fun o' y hy=>old o _ (by omega) hx o' y hy))
 intro o o' x x' hx hx' e
 by_cases ho:o<obs.length <;> by_cases ho':o'<obs.length
 ·rw [lo o ho]at hx; rw [lo o' ho']at hx'; exact i2.inj o o' x x' hx hx' e
 ·rw [lo o ho]at hx; rw [hi' o' (by omega)]at hx'
  exfalso
  rcases n2.gnew o x hx with h1 | ⟨o2,y,hy,e2⟩
  ·have:=hi.blk_lt hx'; omega
  exact old o' x' (by omega) hx' o2 y hy (by omega)
 ·rw [hi' o (by omega)]at hx; rw [lo o' ho']at hx'
  exfalso
  rcases n2.gnew o' x' hx' with h1 | ⟨o2,y,hy,e2⟩
  ·have:=hi.blk_lt hx; omega
  exact old o x (by omega) hx o2 y hy (by omega)
 rw [hi' o (by omega)]at hx; rw [hi' o' (by omega)]at hx'; exact hi.inj o o' x x' hx hx' e
section
def sh (S:Store) (im:Bool):Nat→PV→Option PV
 | 0,_=>none
 | k+1,p =>
  match p with
  | .int a b=>some (.int a b)
  | .bool b=>some (.bool b)
  | .str s=>some (.str s)
  | .nilp=>some .nilp
  | .nilf=>some .nilf
  | .yl l=>some (.yl l)
  | .nilm=>some .nilm
  | .nils=>some .nils
  | .agg cs=>(cs.mapM (sh S im k)).map .agg
  | .tup cs=>(cs.mapM (sh S im k)).map .tup
  | .fn f cs=>(cs.mapM (sh S im k)).map (.fn f)
  | .sl cs n=>if im || cs.isEmpty then some (.sl cs n) else none
  | .ip cs off=>if im then some (.ip cs off) else none
  | .bm f b=>if im then some (.bm f b) else none
  | .loc o ver off n =>
   match S.obs[o]? with
   | some (.arr v _ _ _)=>if v=ver then some (.loc o 0 off n) else none
   | _=>none
  | .ref o ver off =>
   match S.obs[o]? with
   | some (.arr v _ _ _)=>if v=ver then some (.ref o 0 off) else none
   | _=>none
  | .mp o ver =>
   match S.obs[o]? with
   | some (.map v _)=>if v=ver then some (.mp o 0) else none
   | _=>none
  | .undef=>none
def z4o (S:Store) (im:Bool):Ob→Option Ob
 | .arr _ et sz cells=>(cells.mapM (sh S im 10)).map (.arr 0 et sz ·)
 | .map _ es=>(es.mapM fun q=>(sh S im 10 q.1).bind fun a=>(sh S im 10 q.2).map fun b=>(a,b)).map (.map 0 ·)
 | .lp _ _ _ _=>none
def zgq (S:Store) (im:Bool):List Ob→Option (List Ob)
 | []=>some []
 | o::r=>(z4o S im o).bind fun a=>(zgq S im r).map (a :: ·)
def up (k t:Nat):Nat→PV→PV
 | f+1,.loc o _ off n => .loc (o+k) t off n
 | f+1,.ref o _ off => .ref (o+k) t off
 | f+1,.mp o _ => .mp (o+k) t
 | f+1,.agg cs => .agg (cs.map (up k t f))
 | f+1,.tup cs => .tup (cs.map (up k t f))
 | f+1,.fn g cs => .fn g (cs.map (up k t f))
 | _,p=>p
def z67 (k t:Nat):Ob→Ob
 | .arr _ et sz cells => .arr t et sz (cells.map (up k t 10))
 | .map _ es => .map t (es.map fun q=>(up k t 10 q.1,up k t 10 q.2))
 | .lp _ l r tmps => .lp t l r tmps
def PN (P:Program) (f:FuncId) (args:List PV) (r:PV) (obs:List Ob) (im:Bool):Prop :=
 Ev P f args ⟨[],0⟩ fun v S=>∃ k,sh (S.take k) im 10 v=some r∧zgq (S.take k) im (S.take k).obs=some obs
section
variable {P:Program} {T:Tab} {F:Nat→Prop} {G:GSt} {w:World} {e:Env} {a:Act}
theorem yis {S:Store} {im:Bool} {k t:Nat}:∀ {f:Nat} {p q:PV},sh S im f p=some q→p.isCell=true→(up k t f q).isCell=true
 | 0,p,q,h,_=>by simp [sh]at h
 | f+1,p,q,h,hp=>by
  cases p <;> simp only[sh]at h <;> first
   | (cases h; rfl)
   | (simp [PV.isCell]at hp; done)
   | (cases h; done)
   | (split at h <;> first | (cases h; rfl) | (cases h; done) | (split at h <;> first | (cases h; done) | (cases h; rfl)))
   | (rw [qI]at h; obtain ⟨_,_,rfl⟩:=h; rfl)
structure Beh (G' G'':GSt) (k t:Nat):Prop where
 tick:t<G''.tick
 get:∀ (o:Nat) ob l,G''.obs[o+k]?=some (ob,l)→∃ ob',G'.obs[o]?=some (ob',l)∧ob'.like ob∧ob.ver=t
theorem zm5 {w':World} {F' F'':Nat→Prop} {G' G'':GSt} {im:Bool} {k t:Nat} (hb:Beh G' G'' k t) (hF:im=true→∀ b,F' b→F'' b) :
  ∀ {f:Nat} {p q:PV} {cv:Value},VR w'.heap F' G' p cv→sh G'.er im f p=some q→VR w'.heap F'' G'' (up k t f q) cv
 | 0,p,q,cv,_,h=>by simp [sh]at h
 | f+1,p,q,cv,hv,h=>by
  have rowVR:∀ {cs ts:List PV} {vs:Array Value},cs.length=vs.size→(∀ (i:Nat) p v,cs[i]?=some p→vs[i]?=some v→VR w'.heap F' G' p v)→cs.mapM (sh G'.er im f)=some ts →
    (ts.map (up k t f)).length=vs.size∧∀ (i:Nat) p v,(ts.map (up k t f))[i]?=some p→vs[i]?=some v→VR w'.heap F'' G'' p v:=by
   intro cs ts vs hl hp hm
   obtain ⟨h1,h2⟩:=zcj _ _ hm
   refine ⟨by simp; omega,fun i p v q1 q2=>?_⟩
   rw [List.getElem?_map,qI]at q1
   obtain ⟨y,y1,rfl⟩:=q1
   obtain ⟨x,h3,h4⟩:=h2 i y y1
   exact zm5 hb hF (hp i x v h3 q2) h4
  cases p with
  | int a b=>simp only[sh]at h; cases h; rw [hv.int]; exact .imm _ _ (.int _ _)
  | bool b=>simp only[sh]at h; cases h; rw [hv.bool]; exact .imm _ _ (.bool _)
  | str s=>simp only[sh]at h; cases h; obtain ⟨b,rfl,hb⟩:=hv.str; exact .imm _ _ (.str _ _ hb)
  | nilp=>simp only[sh]at h; cases h; cases hv with | imm _ _ hv=>cases hv; exact .imm _ _ .nilp
  | nilf=>simp only[sh]at h; cases h; cases hv with | imm _ _ hv=>cases hv; exact .imm _ _ .nilf
  | yl l=>simp only[sh]at h; cases h; cases hv with | imm _ _ hv=>cases hv; exact .imm _ _ (.yl _)
  | nilm=>simp only[sh]at h; cases h; cases hv with | imm _ _ hv=>cases hv; exact .imm _ _ .nilm
  | nils=>simp only[sh]at h; cases h; cases hv with | imm _ _ hv=>cases hv; exact .imm _ _ .nils
  | agg cs =>
   simp only[sh]at h
   rw [qI]at h
   obtain ⟨ts,h1,rfl⟩:=h
   obtain ⟨vs,rfl,h2,h3⟩:=hv.agg'
   obtain ⟨h4,h5⟩:=rowVR h2 h3 h1
   exact .agg _ _ h4 h5
  | tup cs =>
   simp only[sh]at h
   rw [qI]at h
   obtain ⟨ts,h1,rfl⟩:=h
   obtain ⟨vs,rfl,h2,h3⟩:=hv.tup'
   obtain ⟨h4,h5⟩:=rowVR h2 h3 h1
   exact .tup _ _ h4 h5
  | fn g cs =>
   simp only[sh]at h
   rw [qI]at h
   obtain ⟨ts,h1,rfl⟩:=h
   have:∃ vs:Array Value,cv = .func (.func g) #[] vs∧cs.length=vs.size∧∀ (i:Nat) p v,cs[i]?=some p→vs[i]?=some v→VR w'.heap F' G' p v:=by
    cases hv with
    | imm _ _ hv=>cases hv with | fn _ _ vs h2 h3=>exact ⟨vs,rfl,h2,fun i p v a b => .imm _ _ (h3 i p v a b)⟩
    | fn _ _ vs h2 h3=>exact ⟨vs,rfl,h2,h3⟩
   obtain ⟨vs,rfl,h2,h3⟩:=this
   obtain ⟨h4,h5⟩:=rowVR h2 h3 h1
   exact .fn _ _ _ h4 h5
  | sl cs n =>
   simp only[sh]at h
   split at h
   ·rename_i hc
    cases h
    simp only[Bool.or_eq_true,List.isEmpty_iff]at hc
    cases hv with
    | imm _ _ hv =>
     rcases hc with hc | hc
     ·exact .imm _ _ (hv.mono (hF hc) (fun _ _=>rfl))
     subst hc
     cases hv with
     | sl0=>exact .imm _ _ .sl0
     | sl _ _ b off cap g h1 h2 h3 h4=>exact .imm _ _ (.sl _ _ b off cap g (fun h=>absurd rfl h) h2 (by simp) (by simp))
   cases h
  | ip cs n =>
   simp only[sh]at h
   split at h
   ·rename_i hc
    cases h
    cases hv with
    | imm _ _ hv=>exact .imm _ _ (hv.mono (hF hc) (fun _ _=>rfl))
   cases h
  | bm g b =>
   simp only[sh]at h
   split at h
   ·rename_i hc
    cases h
    cases hv with
    | imm _ _ hv=>exact .imm _ _ (hv.mono (hF hc) (fun _ _=>rfl))
   cases h
  | loc o ver off n =>
   simp only[sh]at h
   split at h
   case h_2=>cases h
   rename_i v et sz cells hob
   split at h
   case isFalse=>cases h
   rename_i hver
   cases h
   cases hv with
   | imm _ _ hv=>cases hv
   | loc _ _ _ _ a len cap hv k' =>
    refine .loc _ _ _ _ a len cap hb.tick fun ob l hg he=>?_
    obtain ⟨ob',h1,h2,h3⟩:=hb.get o ob l hg
    have hob':ob' = .arr v et sz cells:=by
     have:G'.er.obs[o]?=some ob':=by simp [GSt.er,h1]
     rw [hob]at this; cases this; rfl
    subst hob'
    obtain ⟨et2,sz2,cells2,q1,q2⟩:=k' _ l h1 (by simp only[Ob.ver]; exact hver)
    cases q1
    cases ob with
    | arr v3 et3 sz3 cells3 =>
     simp only[Ob.like]at h2
     obtain ⟨rfl,rfl⟩:=h2
     exact ⟨_,_,cells3,by simp only[Ob.ver]at h3; rw [h3],q2⟩
    | map v3 es=>exact h2.elim
    | lp _ _ _ _=>exact h2.elim
  | ref o ver off =>
   simp only[sh]at h
   split at h
   case h_2=>cases h
   rename_i v et sz cells hob
   split at h
   case isFalse=>cases h
   rename_i hver
   cases h
   cases hv with
   | imm _ _ hv=>cases hv
   | ref _ _ _ a hv k' =>
    refine .ref _ _ _ a hb.tick fun ob l hg he=>?_
    obtain ⟨ob',h1,h2,h3⟩:=hb.get o ob l hg
    have hob':ob' = .arr v et sz cells:=by
     have:G'.er.obs[o]?=some ob':=by simp [GSt.er,h1]
     rw [hob]at this; cases this; rfl
    subst hob'
    obtain ⟨et2,sz2,cells2,q1,q2⟩:=k' _ l h1 (by simp only[Ob.ver]; exact hver)
    cases q1
    cases ob with
    | arr v3 et3 sz3 cells3 =>
     simp only[Ob.like]at h2
     obtain ⟨rfl,rfl⟩:=h2
     exact ⟨_,_,cells3,by simp only[Ob.ver]at h3; rw [h3],q2⟩
    | map v3 es=>exact h2.elim
    | lp _ _ _ _=>exact h2.elim
  | mp o ver =>
   simp only[sh]at h
   split at h
   case h_2=>cases h
   rename_i v es hob
   split at h
   case isFalse=>cases h
   rename_i hver
   cases h
   cases hv with
   | imm _ _ hv=>cases hv
   | mp _ _ r hv k' =>
    refine .mp _ _ r hb.tick fun ob l hg he=>?_
    obtain ⟨ob',h1,h2,h3⟩:=hb.get o ob l hg
    have hob':ob' = .map v es:=by
     have:G'.er.obs[o]?=some ob':=by simp [GSt.er,h1]
     rw [hob]at this; cases this; rfl
    subst hob'
    obtain ⟨es2,q1,q2⟩:=k' _ l h1 (by simp only[Ob.ver]; exact hver)
    cases q1
    cases ob with
    | arr v3 et3 sz3 cells3=>exact h2.elim
    | map v3 es3=>exact ⟨es3,by simp only[Ob.ver]at h3; rw [h3],q2⟩
    | lp _ _ _ _=>exact h2.elim
  | undef=>simp only[sh]at h; cases h
theorem zzm {S:Store} {im:Bool}:∀ {l l':List Ob},zgq S im l=some l'→l.length=l'.length∧∀ (i:Nat) ob',l'[i]?=some ob'→∃ ob,l[i]?=some ob∧z4o S im ob=some ob'
 | [],l',h=>by simp [zgq]at h; subst h; simp
 | o::l,l',h=>by
  simp only[zgq]at h
  rw [Option.bind_eq_some_iff]at h
  obtain ⟨a,h1,h⟩:=h
  rw [qI]at h
  obtain ⟨r,h2,rfl⟩:=h
  obtain ⟨h3,h4⟩:=zzm h2
  refine ⟨by simp [h3],?_⟩
  rintro (_ | i) ob' hi
  ·simp at hi; subst hi; exact ⟨o,rfl,h1⟩
  simp at hi; obtain ⟨ob,h5,h6⟩:=h4 i ob' hi; exact ⟨ob,by simpa using h5,h6⟩
theorem zm4 {S:Store} {im:Bool} {k t:Nat} {ob ob':Ob} (h:z4o S im ob=some ob'):ob.like (z67 k t ob')∧(z67 k t ob').ver=t:=by
 cases ob with
 | arr v et sz cells=>simp only[z4o]at h; rw [qI]at h; obtain ⟨_,_,rfl⟩:=h; simp [z67,Ob.ver,Ob.like]
 | map v es=>simp only[z4o]at h; rw [qI]at h; obtain ⟨_,_,rfl⟩:=h; simp [z67,Ob.ver,Ob.like]
 | lp _ _ _ _=>simp [z4o]at h
theorem zy5 {o:List Ob} {t t':Nat} {im:Bool}:∀ {k:Nat} {p:PV},reify ⟨o,t⟩ im k p=reify ⟨o,t'⟩ im k p
 | 0,_=>rfl
 | k+1,p=>by
  have ih:reify ⟨o,t⟩ im k=reify ⟨o,t'⟩ im k:=funext fun p=>zy5
  cases p <;> simp only[reify,ih,Store.cellsOf]
theorem PN.ev {f:FuncId} {args ts:List PV} {r:PV} {obs:List Ob} {im:Bool} {S:Store} {k:Nat} (h:PN P f ts r obs im) (h1:args.mapM (reify S true k)=some ts)
  (h2:im=false∨args.mapM (reify ⟨[],0⟩ true k)=some ts) :
  Ev P f args S fun v S'=>v=up S.obs.length S.tick 10 r∧S'=⟨S.obs++obs.map (z67 S.obs.length S.tick),S.tick+1⟩:=by
 refine ⟨h.ent,fun F G w cargs hS hi hl hv=>?_⟩
 subst hS
 -- the blocks that the call takes for data
 obtain ⟨F1,hF1,hF1',hF1s,hvi⟩:∃ F1:Nat→Prop,(∀ b,F1 b→b<w.heap.size)∧(im=true→∀ b,F1 b→F b)∧(∀ b,F b→F1 b) ∧
   (∀ (i:Nat) p c,ts[i]?=some p→cargs[i]?=some c→VI w.heap F1 p c):=by
  cases him:im with
  | false =>
   obtain ⟨m1,m2⟩:=zcj _ _ h1
   refine ⟨Foot F G true,fun b hb=>?_,by simp,fun b hb => .inl ⟨rfl,hb⟩,fun i p c q1 q2=>?_⟩
   ·rcases hb with ⟨_,hb⟩ | ⟨o,x,hx,rfl⟩
    ·exact hi.fr b hb
    exact hi.blk_lt hx
   obtain ⟨x,x1,x2⟩:=m2 i p q1
   exact zem hi (hv i x c x1 q2) x2
  | true =>
   have h2':=h2.resolve_left (by simp [him])
   obtain ⟨m1,m2⟩:=zcj _ _ h2'
   obtain ⟨i1,n1⟩:=zft hi 0
   refine ⟨F,fun b hb=>hi.fr b hb,fun _ _ h=>h,fun _ h=>h,fun i p c q1 q2=>?_⟩
   obtain ⟨x,x1,x2⟩:=m2 i p q1
   have e0:(G.take 0).er=⟨[],G.tick⟩:=by simp [GSt.take,GSt.er]
   have:=zem (im:=true) (k:=k) i1 ((hv i x c x1 q2).next hi n1) (by rw [e0,zy5 (t':=0)]; exact x2)
   refine this.mono ?_ (fun _ _=>rfl)
   rintro b (⟨_,hb⟩ | ⟨o,y,hy,_⟩)
   ·exact hb
   simp [GSt.take]at hy
 have hlen:args.length=ts.length:=(zcj _ _ h1).1
 have hi1:Inv F1 ⟨[],0⟩ w:=⟨hF1,by simp,by simp,by simp,by simp,by simp,by simp⟩
 refine (h.run F1 ⟨[],0⟩ w cargs rfl hi1 (by omega) fun i p c q1 q2 => .imm _ _ (hvi i p c q1 q2)).mono ?_
 rintro en w' ⟨v,cv,F',G0,rfl,⟨kk,j1,j2⟩,i2,n2,r2⟩
 obtain ⟨i3,n3⟩:=zft i2 kk
 rw [← zjr]at j1 j2
 have n4:=n2.trans n3
 have r3:=r2.next i2 n3
 generalize G0.take kk=G' at j1 j2 i3 n4 r3
 clear i2 n2 n3 r2
 obtain ⟨l1,l2⟩:=zzm j2
 have hlG:G'.obs.length=obs.length:=by rw [← l1]; simp [GSt.er]
 let N:List (Ob × Lc):=List.zipWith (fun ob (x:Ob × Lc)=>(z67 G.obs.length G.tick ob,x.2)) obs G'.obs
 let G2:GSt:=⟨G.obs++N,G.tick+1⟩
 have hN:∀ (o:Nat) ob l,N[o]?=some (ob,l)→∃ ob0 ob',G'.obs[o]?=some (ob0,l)∧z4o G'.er im ob0=some ob'∧ob=z67 G.obs.length G.tick ob':=by
  intro o ob l ho
  simp only[N,List.getElem?_zipWith]at ho
  cases ha:obs[o]? with
  | none=>rw [ha]at ho; simp at ho
  | some q =>
   cases hb:G'.obs[o]? with
   | none=>rw [ha,hb]at ho; simp at ho
   | some x =>
    rw [ha,hb]at ho
    simp at ho
    obtain ⟨rfl,rfl⟩:=ho
    obtain ⟨ob0,k1,k2⟩:=l2 o q ha
    simp only[GSt.er,List.getElem?_map,hb,qO,Option.some.injEq]at k1
    exact ⟨x.1,q,rfl,k1 ▸ k2,rfl⟩
 have lo:∀ o,o<G.obs.length→G2.obs[o]?=G.obs[o]?:=fun o ho=>by simp only[G2]; rw [List.getElem?_append_left ho]
 have hi':∀ o,G.obs.length≤o→G2.obs[o]?=N[o - G.obs.length]?:=fun o ho=>by simp only[G2]; rw [List.getElem?_append_right ho]
 have beh:Beh G' G2 G.obs.length G.tick:=by
  refine ⟨Nat.lt_succ_self _,fun o ob l ho=>?_⟩
  rw [hi' _ (by omega),Nat.add_sub_cancel]at ho
  obtain ⟨ob0,ob',h3,h4,rfl⟩:=hN o ob l ho
  exact ⟨ob0,h3,(zm4 h4).1,(zm4 h4).2⟩
 let F2:Nat→Prop:=fun b=>F b∨(w.heap.size≤b∧F' b)
 have hFF:im=true→∀ b,F' b→F2 b:=by
  intro him b hb
  rcases n4.fnew b hb with h3 | h3 | ⟨o,x,hx,_⟩
  ·exact .inl (hF1' him b h3)
  ·exact .inr ⟨h3,hb⟩
  simp at hx
 have newb:∀ (o:Nat) x,G'.obs[o]?=some x→w.heap.size≤x.2.blk:=by
  intro o x hx
  rcases n4.gnew o x hx with h3 | ⟨o',y,hy,_⟩
  ·exact h3
  simp at hy
 have nx:Next F G w F2 G2 w':=by
  refine ⟨n4.os,n4.tape,n4.output,n4.size,fun b hb => .inl hb,?_,?_,Nat.le_succ _,fun b hb _=>n4.keep b hb (by simp),?_,n4.drawn⟩
  ·rintro b (hb | ⟨hb,_⟩)
   ·exact .inl hb
   exact .inr (.inl hb)
  ·rintro o ⟨ob,l⟩ hx
   by_cases ho:o<G.obs.length
   ·rw [lo o ho]at hx; exact .inr ⟨o,_,hx,rfl⟩
   rw [hi' o (by omega)]at hx
   obtain ⟨ob0,ob',h3,_⟩:=hN _ _ _ hx
   have:=newb _ _ h3
   exact .inl this
  intro o ob' l' hx hver
  by_cases ho:o<G.obs.length
  ·rw [lo o ho]at hx; exact ⟨ob',hx,rfl,Ob.like.refl _⟩
  rw [hi' o (by omega)]at hx
  obtain ⟨ob0,ob2,h3,h4,rfl⟩:=hN _ _ _ hx
  rw [(zm4 h4).2]at hver
  omega
 refine ⟨_,cv,F2,G2,rfl,⟨rfl,?_⟩,zje ?_ ?_ ?_ ?_ ?_,nx,by
  have hlo:G.er.obs.length=G.obs.length:=by simp [GSt.er]
  rw [hlo]; exact zm5 beh hFF r3 j1⟩
 ·have hlo:G.er.obs.length=G.obs.length:=by simp [GSt.er]
  have htk:G.er.tick=G.tick:=rfl
  rw [hlo,htk]
  simp only[GSt.er,G2,List.map_append,Store.mk.injEq,and_true]
  congr 1
  apply List.ext_getElem
  ·simp [N,hlG]
  intro i a b; simp [N]
 ·rintro b (hb | ⟨_,hb⟩)
  ·exact Nat.lt_of_lt_of_le (hi.fr b hb) n4.size
  exact i3.fr b hb
 ·intro o ob l hx
  by_cases ho:o<G.obs.length
  ·rw [lo o ho]at hx; exact Nat.lt_succ_of_lt (hi.ver o ob l hx)
  rw [hi' o (by omega)]at hx
  obtain ⟨ob0,ob2,h3,h4,rfl⟩:=hN _ _ _ hx
  rw [(zm4 h4).2]; exact Nat.lt_succ_self _
 ·rintro o ob l hx (hF | ⟨hs,hF⟩)
  ·by_cases ho:o<G.obs.length
   ·rw [lo o ho]at hx; exact hi.nF o ob l hx hF
   rw [hi' o (by omega)]at hx
   obtain ⟨ob0,ob2,h3,_⟩:=hN _ _ _ hx
   have h5:=newb _ _ h3
   have h6:=hi.fr _ hF
   simp only at h5
   omega
  by_cases ho:o<G.obs.length
  ·rw [lo o ho]at hx
   have:=hi.blk_lt hx
   simp only at this; omega
  rw [hi' o (by omega)]at hx
  obtain ⟨ob0,ob2,h3,_⟩:=hN _ _ _ hx
  exact i3.nF _ _ _ h3 hF
 ·intro o ob l hx
  by_cases ho:o<G.obs.length
  ·rw [lo o ho]at hx
   exact (hi.holds hx).next hi nx (n4.keep _ (hi.blk_lt hx) (by simp))
  rw [hi' o (by omega)]at hx
  obtain ⟨ob0,ob2,h3,h4,rfl⟩:=hN _ _ _ hx
  have hh:=i3.holds h3
  cases ob0 with
  | arr ver et sz cells =>
   simp only[z4o]at h4
   rw [qI]at h4
   obtain ⟨cs2,m1,rfl⟩:=h4
   obtain ⟨cs,q1,q2,q3,q4⟩:=hh
   obtain ⟨m2,m3⟩:=zcj _ _ m1
   refine ⟨cs,q1,q2,by simp; omega,fun i p hp=>?_⟩
   rw [List.getElem?_map,qI]at hp
   obtain ⟨y,y1,rfl⟩:=hp
   obtain ⟨x,x1,x2⟩:=m3 i y y1
   obtain ⟨c1,v1,v2,v3⟩:=q4 i x x1
   exact ⟨yis x2 c1,v1,v2,zm5 beh hFF v3 x2⟩
  | map ver es =>
   simp only[z4o]at h4
   rw [qI]at h4
   obtain ⟨es2,m1,rfl⟩:=h4
   obtain ⟨ents,clock,q1,q2,q3⟩:=hh
   obtain ⟨m2,m3⟩:=zmb _ _ m1
   refine ⟨ents,clock,q1,by simp; omega,fun i k v hp=>?_⟩
   rw [List.getElem?_map,qI]at hp
   obtain ⟨y,y1,y2⟩:=hp
   cases y2
   obtain ⟨x,x1,x2⟩:=m3 i y y1
   obtain ⟨en,e1,e2,e3⟩:=q3 i x.1 x.2 x1
   rw [Option.bind_eq_some_iff]at x2
   obtain ⟨b1,b2,x2⟩:=x2
   rw [qI]at x2
   obtain ⟨b3,b4,x2⟩:=x2
   cases x2
   exact ⟨en,e1,zm5 beh hFF e2 b2,zm5 beh hFF e3 b4⟩
  | lp _ _ _ _=>simp [z4o]at h4
 rintro o o' ⟨ob,l⟩ ⟨ob',l'⟩ hx hx' e
 simp only at e
 by_cases ho:o<G.obs.length <;> by_cases ho':o'<G.obs.length
 ·rw [lo o ho]at hx; rw [lo o' ho']at hx'; exact hi.inj o o' _ _ hx hx' e
 ·rw [lo o ho]at hx; rw [hi' o' (by omega)]at hx'
  obtain ⟨ob0,ob2,h3,_⟩:=hN _ _ _ hx'
  have h5:=newb _ _ h3; have h6:=hi.blk_lt hx
  simp only at h5 h6; omega
 ·rw [hi' o (by omega)]at hx; rw [lo o' ho']at hx'
  obtain ⟨ob0,ob2,h3,_⟩:=hN _ _ _ hx
  have h5:=newb _ _ h3; have h6:=hi.blk_lt hx'
  simp only at h5 h6; omega
 rw [hi' o (by omega)]at hx; rw [hi' o' (by omega)]at hx'
 obtain ⟨ob0,ob2,h3,_⟩:=hN _ _ _ hx
 obtain ⟨ob0',ob2',h3',_⟩:=hN _ _ _ hx'
 have:=i3.inj _ _ _ _ h3 h3' e
 omega
theorem PN.of {f:FuncId} {fn:Func} {c:Code} (h:Fn P f fn c) (hT:zby P T) (hm:P.follows .mixedOrders=true) {args:List PV} {r:PV} {obs:List Ob} {im:Bool} (hn:args.length≤fn.ntmps)
  (hw:W P T c (zfj T fn.results.toList fun v S=>∃ k,sh (S.take k) im 10 v=some r∧zgq (S.take k) im (S.take k).obs=some obs) (zai args) ⟨[],0⟩):PN P f args r obs im :=
 Ev.of h hT hm hn (hw.mono fun x e S hx=>by
  have key:∀ (v:PV) (S:Store),(∃ k,sh (S.take k) im 10 v=some r∧zgq (S.take k) im (S.take k).obs=some obs) →
    ∃ k1 k,sh ((S.take k1).take k) im 10 v=some r∧zgq ((S.take k1).take k) im ((S.take k1).take k).obs=some obs:=by
   rintro v S ⟨k,h1,h2⟩
   have e:(S.take k).take k=S.take k:=by simp [Store.take,List.take_take]
   exact ⟨k,k,by rw [e]; exact h1,by rw [e]; exact h2⟩
  cases x <;> simp only[zfj,zi1]at hx ⊢ <;> (try exact hx)
  all_goals
   split at hx
   ·exact key _ _ hx
   exact hx)
theorem Ev.pc {f:FuncId} {args:List PV} {q:PV} {fr:Bool} {J:PV→Store→Prop} (h:Ev P f args ⟨[],0⟩ J) (hJ:∀ v S,J v S→reify S (!fr) 10 v=some q):PC P f args q fr:=by
 refine ⟨h.ent,fun F w cargs hF hl hv=>?_⟩
 have hi:Inv F ⟨[],0⟩ w:=⟨hF,by simp,by simp,by simp,by simp,by simp,by simp⟩
 refine (h.run F ⟨[],0⟩ w cargs rfl hi hl fun i p c q1 q2 => .imm _ _ (hv i p c q1 q2)).mono ?_
 rintro en w' ⟨v',cv,F',G',rfl,k2,k3,k4,k5⟩
 refine ⟨cv,rfl,⟨⟨k4.os,k4.tape,k4.output,k4.size,fun b hb=>k4.keep b hb (by simp)⟩,k4.drawn⟩,(zem k3 k5 (hJ _ _ k2)).mono ?_ (fun _ _=>rfl)⟩
 rintro b (⟨h1,h2⟩ | ⟨o,x,hx,rfl⟩)
 ·rcases k4.fnew b h2 with h3 | h3 | ⟨o,x,hx,_⟩
  ·exact .inr ⟨by simpa using h1,h3⟩
  ·exact .inl ⟨h3,k3.fr b h2⟩
  simp at hx
 rcases k4.gnew o x hx with h3 | ⟨o',y,hy,_⟩
 ·exact .inl ⟨h3,k3.blk_lt hx⟩
 simp at hy
theorem PN.pc {f:FuncId} {args:List PV} {r q:PV} {obs:List Ob} {im fr:Bool} (h:PN P f args r obs im) (h1:args.mapM (reify ⟨[],0⟩ true 10)=some args)
  (hq:reify ⟨obs.map (z67 0 0),1⟩ (!fr) 10 (up 0 0 10 r)=some q):PC P f args q fr :=
 Ev.pc (PN.ev h h1 (.inr h1)) (by rintro _ _ ⟨rfl,rfl⟩; simpa using hq)
variable {S:Store} {d:Option Tmp} {r:List Oper} {ds:List (Option Tmp)} {K:Env→Store→Prop}
theorem zac.pn {f:FuncId} {xs ts:List PV} {v:PV} {obs:List Ob} {im:Bool} (h:PN P f ts v obs im) (h1:xs.mapM (reify S true 10)=some ts) (h2:im=false∨xs.mapM (reify ⟨[],0⟩ true 10)=some ts)
  (k:zbq false P T ds r (e.put d (up S.obs.length S.tick 10 v)) ⟨S.obs++obs.map (z67 S.obs.length S.tick),S.tick+1⟩ K):zac false P T ds f xs S d r e K :=
 zac.ev (PN.ev h h1 h2) (by rintro _ _ ⟨rfl,rfl⟩; exact k)
end
theorem z46 {k t f o v off n:Nat}:up k t (f+1) (.loc o v off n) = .loc (o+k) t off n:=rfl
theorem ygm {k t f o v off:Nat}:up k t (f+1) (.ref o v off) = .ref (o+k) t off:=rfl
theorem ygn {k t f:Nat} {cs:List PV}:up k t (f+1) (.tup cs) = .tup (cs.map (up k t f)):=rfl
theorem z43 {k t f:Nat} {q:IntKind} {n:Int}:up k t f (.int q n) = .int q n:=by cases f <;> rfl
theorem z2b {k t f:Nat} {b:Bool}:up k t f (.bool b) = .bool b:=by cases f <;> rfl
theorem ycb {k t f:Nat} {b:List UInt8}:up k t f (.str b) = .str b:=by cases f <;> rfl
theorem yca {k t f:Nat}:up k t f .nils = .nils:=by cases f <;> rfl
theorem yb9 {k t f:Nat}:up k t f .nilp = .nilp:=by cases f <;> rfl
theorem yk1 {k t f n:Nat} {cs:List PV}:up k t f (.sl cs n) = .sl cs n:=by cases f <;> rfl
theorem yk0 {k t f n:Nat} {cs:List PV}:up k t f (.ip cs n) = .ip cs n:=by cases f <;> rfl
theorem zwe {k t f:Nat} {q:IntKind} {l:List Int}:(l.map (PV.int q)).map (up k t f)=l.map (PV.int q):=by
 rw [List.map_map]; exact List.map_congr_left fun a _=>z43
theorem yb8 {k t f:Nat} {q:IntKind} {l:List Nat}:(l.map fun m:Nat=>PV.int q m).map (up k t f)=l.map fun m:Nat=>PV.int q m:=by
 rw [List.map_map]; exact List.map_congr_left fun a _=>z43
theorem ycc {k t f:Nat} {l:List (List UInt8)}:(l.map PV.str).map (up k t f)=l.map PV.str:=by
 rw [List.map_map]; exact List.map_congr_left fun a _=>ycb
theorem zwd {k t f:Nat} {l:List Bool}:(l.map PV.bool).map (up k t f)=l.map PV.bool:=by
 rw [List.map_map]; exact List.map_congr_left fun a _=>z2b
theorem znb {k t v et sz:Nat} {cells:List PV}:z67 k t (.arr v et sz cells) = .arr t et sz (cells.map (up k t 10)):=rfl
theorem RN:(type_of% @z46)∧(type_of% @ygm)∧(type_of% @ygn)∧(type_of% @z43)∧(type_of% @z2b)∧(type_of% @ycb)∧(type_of% @yca)∧(type_of% @yb9)∧(type_of% @yk1)∧(type_of% @yk0)∧(type_of% @zwe)∧(type_of% @yb8)∧(type_of% @ycc)∧(type_of% @zwd)∧(type_of% @znb) :=
 ⟨@z46,@ygm,@ygn,@z43,@z2b,@ycb,@yca,@yb9,@yk1,@yk0,@zwe,@yb8,@ycc,@zwd,@znb⟩
end
section
def rfq (S:Store) (fr:Nat→Bool):Nat→PV→Option PV
 | 0,_=>none
 | k+1,p =>
  match p with
  | .int a b=>some (.int a b)
  | .bool b=>some (.bool b)
  | .str s=>some (.str s)
  | .nilp=>some .nilp
  | .nilf=>some .nilf
  | .yl l=>some (.yl l)
  | .nilm=>some .nilm
  | .nils=>some .nils
  | .agg cs=>(cs.mapM (rfq S fr k)).map .agg
  | .tup cs=>(cs.mapM (rfq S fr k)).map .tup
  | .fn f cs=>(cs.mapM (rfq S fr k)).map (.fn f)
  | .sl cs n=>some (.sl cs n)
  | .ip cs off=>some (.ip cs off)
  | .bm f b=>some (.bm f b)
  | .loc o ver off n =>
   match S.obs[o]? with
   | some (.arr v _ sz cells)=>if fr o=true∧v=ver∧off+n*sz≤cells.length then (((cells.drop off).take (n*sz)).mapM (rfq S fr k)).map (.sl · n) else none
   | _=>none
  | .ref o ver off=>if fr o=true then (S.cellsOf o ver).bind fun cells=>(cells.mapM (rfq S fr k)).map (.ip · off) else none
  | _=>none
section
variable {P:Program} {T:Tab} {F:Nat→Prop} {G:GSt} {w:World} {e:Env} {a:Act}
def zuj (F:Nat→Prop) (G:GSt) (fr:Nat→Bool) (b:Nat):Prop:=F b∨∃ (o:Nat) (x:Ob × Lc),fr o=true∧G.obs[o]?=some x∧x.2.blk=b
theorem zpq {S:Store} {fr:Nat→Bool}:∀ {k:Nat} {p t:PV},rfq S fr k p=some t→p.isCell=true→t.isCell=true
 | 0,p,t,h,_=>by simp [rfq]at h
 | k+1,p,t,h,hp=>by
  cases p <;> simp only[rfq]at h <;> first
   | (cases h; rfl)
   | (simp [PV.isCell]at hp; done)
   | (cases h; done)
   | (split at h <;> first | (cases h; rfl) | (cases h; done) | (split at h <;> first | (cases h; done) | (rw [qI]at h; obtain ⟨_,_,rfl⟩:=h; rfl)))
   | (rw [qI]at h; obtain ⟨_,_,rfl⟩:=h; rfl)
   | (split at h <;> first | (cases h; done) | (rw [Option.bind_eq_some_iff]at h; obtain ⟨_,_,h⟩:=h; rw [qI]at h; obtain ⟨_,_,rfl⟩:=h; rfl))
theorem zrn (hi:Inv F G w) {fr:Nat→Bool}:∀ {k:Nat} {p t:PV} {cv:Value},VR w.heap F G p cv→rfq G.er fr k p=some t→VI w.heap (zuj F G fr) t cv
 | 0,p,t,cv,_,h=>by simp [rfq]at h
 | k+1,p,t,cv,hv,h=>by
  have cellsVI:∀ {b off:Nat} {cs ts:List PV},zdq w.heap F G b off cs→cs.mapM (rfq G.er fr k)=some ts →
    ∃ g:Nat→Value,(∀ (i:Nat) p,ts[i]?=some p→p.isCell=true∧zhi w.heap b (off+i)=some (g i))∧∀ (i:Nat) p,ts[i]?=some p→VI w.heap (zuj F G fr) p (g i):=by
   intro b off cs ts hc hm
   obtain ⟨h1,h2⟩:=zcj _ _ hm
   refine ⟨fun i=>(zhi w.heap b (off+i)).getD undef,fun i p hp=>?_,fun i p hp=>?_⟩
   ·obtain ⟨x,h3,h4⟩:=h2 i p hp
    obtain ⟨h5,v,h6,h7⟩:=hc i x h3
    exact ⟨zpq h4 h5,by simp [h6]⟩
   obtain ⟨x,h3,h4⟩:=h2 i p hp
   obtain ⟨h5,v,h6,h7⟩:=hc i x h3
   simp only[h6]
   exact zrn hi h7 h4
  have rowVI:∀ {cs ts:List PV} {vs:Array Value},cs.length=vs.size→(∀ (i:Nat) p v,cs[i]?=some p→vs[i]?=some v→VR w.heap F G p v)→cs.mapM (rfq G.er fr k)=some ts →
    ts.length=vs.size∧∀ (i:Nat) p v,ts[i]?=some p→vs[i]?=some v→VI w.heap (zuj F G fr) p v:=by
   intro cs ts vs hl hp hm
   obtain ⟨h1,h2⟩:=zcj _ _ hm
   refine ⟨by omega,fun i p v q1 q2=>?_⟩
   obtain ⟨x,h3,h4⟩:=h2 i p q1
   exact zrn hi (hp i x v h3 q2) h4
  cases p with
  | int q n=>simp only[rfq]at h; cases h; rw [hv.int]; exact .int _ _
  | bool b=>simp only[rfq]at h; cases h; rw [hv.bool]; exact .bool _
  | str s=>simp only[rfq]at h; cases h; obtain ⟨b,rfl,hb⟩:=hv.str; exact .str _ _ hb
  | nilp=>simp only[rfq]at h; cases h; cases hv with | imm _ _ hv=>cases hv; exact .nilp
  | nilf=>simp only[rfq]at h; cases h; cases hv with | imm _ _ hv=>cases hv; exact .nilf
  | yl l=>simp only[rfq]at h; cases h; cases hv with | imm _ _ hv=>cases hv; exact .yl _
  | nilm=>simp only[rfq]at h; cases h; cases hv with | imm _ _ hv=>cases hv; exact .nilm
  | nils=>simp only[rfq]at h; cases h; cases hv with | imm _ _ hv=>cases hv; exact .nils
  | agg cs =>
   simp only[rfq]at h
   rw [qI]at h
   obtain ⟨ts,h1,rfl⟩:=h
   obtain ⟨vs,rfl,h2,h3⟩:=hv.agg'
   obtain ⟨h4,h5⟩:=rowVI h2 h3 h1
   exact .agg _ _ h4 h5
  | tup cs =>
   simp only[rfq]at h
   rw [qI]at h
   obtain ⟨ts,h1,rfl⟩:=h
   obtain ⟨vs,rfl,h2,h3⟩:=hv.tup'
   obtain ⟨h4,h5⟩:=rowVI h2 h3 h1
   exact .tup _ _ h4 h5
  | fn f cs =>
   simp only[rfq]at h
   rw [qI]at h
   obtain ⟨ts,h1,rfl⟩:=h
   have:∃ vs:Array Value,cv = .func (.func f) #[] vs∧cs.length=vs.size∧∀ (i:Nat) p v,cs[i]?=some p→vs[i]?=some v→VR w.heap F G p v:=by
    cases hv with
    | imm _ _ hv=>cases hv with | fn _ _ vs h2 h3=>exact ⟨vs,rfl,h2,fun i p v a b => .imm _ _ (h3 i p v a b)⟩
    | fn _ _ vs h2 h3=>exact ⟨vs,rfl,h2,h3⟩
   obtain ⟨vs,rfl,h2,h3⟩:=this
   obtain ⟨h4,h5⟩:=rowVI h2 h3 h1
   exact .fn _ _ _ h4 h5
  | sl cs n =>
   simp only[rfq]at h
   cases h
   cases hv with
   | imm _ _ hv=>exact hv.mono (fun b hb => .inl hb) (fun _ _=>rfl)
  | ip cs off =>
   simp only[rfq]at h
   cases h
   cases hv with
   | imm _ _ hv=>exact hv.mono (fun b hb => .inl hb) (fun _ _=>rfl)
  | bm f b =>
   simp only[rfq]at h
   cases h
   cases hv with
   | imm _ _ hv=>exact hv.mono (fun b hb => .inl hb) (fun _ _=>rfl)
  | loc o ver off n =>
   simp only[rfq]at h
   split at h
   ·rename_i v et sz cells hob
    split at h
    ·rename_i hc
     obtain ⟨hlo,rfl,hle⟩:=hc
     rw [qI]at h
     obtain ⟨ts,h1,rfl⟩:=h
     obtain ⟨_,_,l,cap,ho,rfl,_,hn,_⟩:=hv.loc_at hi (cells:=cells) (by simp [Store.cellsOf,hob])
     obtain ⟨l',hG⟩:=zf3 hob
     rw [hG]at ho
     cases ho
     have hc2:zdq w.heap F G l.blk off ((cells.drop off).take (n*sz)):=by
      have:=((hi.cellsAt hG).drop off).take (n*sz)
      rwa [Nat.zero_add]at this
     obtain ⟨g,g1,g2⟩:=cellsVI hc2 h1
     exact .sl _ _ _ _ _ g (fun _ => .inr ⟨o,_,hlo,hG,rfl⟩) hn g1 g2
    cases h
   cases h
  | ref o ver off =>
   simp only[rfq]at h
   split at h
   case isFalse=>cases h
   rename_i hlo
   rw [Option.bind_eq_some_iff]at h
   obtain ⟨cells,hc,h⟩:=h
   rw [qI]at h
   obtain ⟨ts,h1,rfl⟩:=h
   obtain ⟨et,sz,l,hG,rfl,_⟩:=hv.ref_at hi hc
   obtain ⟨g,g1,g2⟩:=cellsVI (hi.cellsAt hG) h1
   have:=VI.ip (F:=zuj F G fr) ts off l.blk 0 g (fun _ => .inr ⟨o,_,hlo,hG,rfl⟩) g1 g2
   rwa [Nat.zero_add]at this
  | mp o ver=>simp only[rfq]at h; cases h
  | undef=>simp only[rfq]at h; cases h
def zdr (k:Nat) (sel:List Nat) (o:Nat):Bool:=decide (k≤o) && !sel.contains o
def rn (S:Store) (k:Nat) (sel:List Nat):Nat→PV→Option PV
 | 0,_=>none
 | f+1,p =>
  match p with
  | .agg cs=>(cs.mapM (rn S k sel f)).map .agg
  | .tup cs=>(cs.mapM (rn S k sel f)).map .tup
  | .fn g cs=>(cs.mapM (rn S k sel f)).map (.fn g)
  | .loc o ver off n =>
   if o<k then some (.loc o ver off n) else
   if sel.contains o then (match S.obs[o]? with | some (.arr v _ _ _)=>if v=ver then some (.loc (k+sel.idxOf o) S.tick off n) else none | _=>none)
   else rfq S (zdr k sel) 10 (.loc o ver off n)
  | .ref o ver off =>
   if o<k then some (.ref o ver off) else
   if sel.contains o then (match S.obs[o]? with | some (.arr v _ _ _)=>if v=ver then some (.ref (k+sel.idxOf o) S.tick off) else none | _=>none)
   else rfq S (zdr k sel) 10 (.ref o ver off)
  | .mp o ver =>
   if o<k then some (.mp o ver) else
   if sel.contains o then (match S.obs[o]? with | some (.map v _)=>if v=ver then some (.mp (k+sel.idxOf o) S.tick) else none | _=>none)
   else none
  | .undef=>some .undef
  | p=>rfq S (zdr k sel) 10 p
def z6i (S:Store) (k:Nat) (sel:List Nat) (old:Bool):Ob→Option Ob
 | .arr ver et sz cells=>(cells.mapM (rn S k sel 10)).map (.arr (if old then ver else S.tick) et sz ·)
 | .map ver es=>(es.mapM fun q=>(rn S k sel 10 q.1).bind fun a=>(rn S k sel 10 q.2).map fun b=>(a,b)).map (.map (if old then ver else S.tick) ·)
 | .lp ver l r tmps=>(tmps.mapM (rn S k sel 10)).map (.lp (if old then ver else S.tick) l r ·)
def zrp (S:Store) (k:Nat) (sel:List Nat) (old:Bool):List Nat→Option (List Ob)
 | []=>some []
 | o::r=>((S.obs[o]?).bind (z6i S k sel old)).bind fun a=>(zrp S k sel old r).map (a :: ·)
def Store.rn (S:Store) (k:Nat) (sel:List Nat):Option Store :=
 if sel.all (fun o=>decide (k≤o)) && decide sel.Nodup && decide (k≤S.obs.length) then
  (zrp S k sel true (List.range k)).bind fun a=>(zrp S k sel false sel).map fun b=>⟨a++b,S.tick+1⟩
 else none
theorem zx7:∀ {l:List Nat},l.Nodup→∀ {i j:Nat} (hi:i<l.length) (hj:j<l.length),l[i]=l[j]→i=j
 | [],_,i,_,hi,_,_=>absurd hi (by simp)
 | a::l,h,0,0,_,_,_=>rfl
 | a::l,h,0,j+1,_,hj,e=>by
  rw [List.nodup_cons]at h
  simp only[List.getElem_cons_zero,List.getElem_cons_succ]at e
  exact absurd (e ▸ List.getElem_mem _) h.1
 | a::l,h,i+1,0,hi,_,e=>by
  rw [List.nodup_cons]at h
  simp only[List.getElem_cons_zero,List.getElem_cons_succ]at e
  exact absurd (e ▸ List.getElem_mem _) h.1
 | a::l,h,i+1,j+1,hi,hj,e=>by
  rw [List.nodup_cons]at h
  simp only[List.getElem_cons_succ]at e
  rw [zx7 h.2 (by simpa using hi) (by simpa using hj) e]
theorem zrq {S:Store} {k:Nat} {sel:List Nat} {old:Bool}:∀ {l:List Nat} {l':List Ob},zrp S k sel old l=some l'→l.length=l'.length ∧
  ∀ (i:Nat) ob',l'[i]?=some ob'→∃ o ob,l[i]?=some o∧S.obs[o]?=some ob∧z6i S k sel old ob=some ob'
 | [],l',h=>by simp [zrp]at h; subst h; simp
 | o::l,l',h=>by
  simp only[zrp]at h
  rw [Option.bind_eq_some_iff]at h
  obtain ⟨a,h1,h⟩:=h
  rw [Option.bind_eq_some_iff]at h1
  obtain ⟨ob,h0,h1⟩:=h1
  rw [qI]at h
  obtain ⟨r,h2,rfl⟩:=h
  obtain ⟨h3,h4⟩:=zrq h2
  refine ⟨by simp [h3],?_⟩
  rintro (_ | i) ob' hi
  ·simp at hi; subst hi; exact ⟨o,ob,rfl,h0,h1⟩
  simp at hi; obtain ⟨o2,ob2,h5,h6⟩:=h4 i ob' hi; exact ⟨o2,ob2,by simpa using h5,h6⟩
theorem zro {S:Store} {k:Nat} {sel:List Nat} {old:Bool} {ob ob':Ob} (h:z6i S k sel old ob=some ob'):ob.like ob'∧ob'.ver=if old then ob.ver else S.tick:=by
 cases ob with
 | arr v et sz cells=>simp only[z6i]at h; rw [qI]at h; obtain ⟨_,_,rfl⟩:=h; simp [Ob.ver,Ob.like]
 | map v es=>simp only[z6i]at h; rw [qI]at h; obtain ⟨_,_,rfl⟩:=h; simp [Ob.ver,Ob.like]
 | lp _ _ _ _=>simp only[z6i]at h; rw [qI]at h; obtain ⟨_,_,rfl⟩:=h; simp [Ob.ver,Ob.like]
theorem yin {S:Store} {k:Nat} {sel:List Nat}:∀ {f:Nat} {p t:PV},rn S k sel f p=some t→p.isCell=true→t.isCell=true
 | 0,p,t,h,_=>by simp [rn]at h
 | f+1,p,t,h,hp=>by
  cases p with
  | agg cs=>simp [PV.isCell]at hp
  | tup cs=>simp [PV.isCell]at hp
  | undef=>simp [PV.isCell]at hp
  | fn f cs=>simp only[rn]at h; rw [qI]at h; obtain ⟨_,_,rfl⟩:=h; rfl
  | loc o ver off n =>
   simp only[rn]at h
   split at h
   ·cases h; rfl
   split at h
   ·split at h
    ·split at h
     ·cases h; rfl
     cases h
    cases h
   exact zpq h hp
  | ref o ver off =>
   simp only[rn]at h
   split at h
   ·cases h; rfl
   split at h
   ·split at h
    ·split at h
     ·cases h; rfl
     cases h
    cases h
   exact zpq h hp
  | mp o ver =>
   simp only[rn]at h
   split at h
   ·cases h; rfl
   split at h
   ·split at h
    ·split at h
     ·cases h; rfl
     cases h
    cases h
   cases h
  | _=>simp only[rn]at h; exact zpq h hp
structure Sel (G G':GSt) (k:Nat) (sel:List Nat):Prop where
 tick:G.tick<G'.tick
 get:∀ (o:Nat),sel.contains o=true→∀ ob l,G'.obs[k+sel.idxOf o]?=some (ob,l)→∃ ob',G.obs[o]?=some (ob',l)∧ob'.like ob∧ob.ver=G.tick
theorem zv0 (hi:Inv F G w) {k:Nat} {sel:List Nat} {F':Nat→Prop} {G':GSt} (hF:∀ b,zuj F G (zdr k sel) b→F' b) (hn:Next F G w F' G' w) (hs:Sel G G' k sel) :
  ∀ {f:Nat} {p t:PV} {cv:Value},VR w.heap F G p cv→rn G.er k sel f p=some t→VR w.heap F' G' t cv
 | 0,p,t,cv,_,h=>by simp [rn]at h
 | f+1,p,t,cv,hv,h=>by
  have rowVR:∀ {cs ts:List PV} {vs:Array Value},cs.length=vs.size→(∀ (i:Nat) p v,cs[i]?=some p→vs[i]?=some v→VR w.heap F G p v)→cs.mapM (rn G.er k sel f)=some ts →
    ts.length=vs.size∧∀ (i:Nat) p v,ts[i]?=some p→vs[i]?=some v→VR w.heap F' G' p v:=by
   intro cs ts vs hl hp hm
   obtain ⟨h1,h2⟩:=zcj _ _ hm
   refine ⟨by omega,fun i p v q1 q2=>?_⟩
   obtain ⟨x,h3,h4⟩:=h2 i p q1
   exact zv0 hi hF hn hs (hp i x v h3 q2) h4
  have data:∀ {p:PV},VR w.heap F G p cv→rfq G.er (zdr k sel) 10 p=some t→VR w.heap F' G' t cv:=fun hv h => .imm _ _ ((zrn hi hv h).mono hF fun _ _=>rfl)
  cases p with
  | agg cs =>
   simp only[rn]at h
   rw [qI]at h
   obtain ⟨ts,h1,rfl⟩:=h
   obtain ⟨vs,rfl,h2,h3⟩:=hv.agg'
   obtain ⟨h4,h5⟩:=rowVR h2 h3 h1
   exact .agg _ _ h4 h5
  | tup cs =>
   simp only[rn]at h
   rw [qI]at h
   obtain ⟨ts,h1,rfl⟩:=h
   obtain ⟨vs,rfl,h2,h3⟩:=hv.tup'
   obtain ⟨h4,h5⟩:=rowVR h2 h3 h1
   exact .tup _ _ h4 h5
  | fn g cs =>
   simp only[rn]at h
   rw [qI]at h
   obtain ⟨ts,h1,rfl⟩:=h
   have:∃ vs:Array Value,cv = .func (.func g) #[] vs∧cs.length=vs.size∧∀ (i:Nat) p v,cs[i]?=some p→vs[i]?=some v→VR w.heap F G p v:=by
    cases hv with
    | imm _ _ hv=>cases hv with | fn _ _ vs h2 h3=>exact ⟨vs,rfl,h2,fun i p v a b => .imm _ _ (h3 i p v a b)⟩
    | fn _ _ vs h2 h3=>exact ⟨vs,rfl,h2,h3⟩
   obtain ⟨vs,rfl,h2,h3⟩:=this
   obtain ⟨h4,h5⟩:=rowVR h2 h3 h1
   exact .fn _ _ _ h4 h5
  | loc o ver off n =>
   simp only[rn]at h
   split at h
   ·cases h; exact hv.next hi hn
   split at h
   case isFalse=>exact data hv h
   rename_i hc
   split at h
   case h_2=>cases h
   rename_i v et sz cells hob
   split at h
   case isFalse=>cases h
   rename_i hver
   cases h
   cases hv with
   | imm _ _ hv=>cases hv
   | loc _ _ _ _ a len cap hv k' =>
    refine .loc _ _ _ _ a len cap hs.tick fun ob l hg he=>?_
    obtain ⟨ob',h1,h2,h3⟩:=hs.get o hc ob l hg
    have hob':ob' = .arr v et sz cells:=by
     have:G.er.obs[o]?=some ob':=by simp [GSt.er,h1]
     rw [hob]at this; cases this; rfl
    subst hob'
    obtain ⟨et2,sz2,cells2,q1,q2⟩:=k' _ l h1 (by simp only[Ob.ver]; exact hver)
    cases q1
    cases ob with
    | arr v3 et3 sz3 cells3 =>
     simp only[Ob.like]at h2
     obtain ⟨rfl,rfl⟩:=h2
     exact ⟨_,_,cells3,by simp only[Ob.ver]at h3; rw [h3]; rfl,q2⟩
    | map v3 es=>exact h2.elim
    | lp _ _ _ _=>exact h2.elim
  | ref o ver off =>
   simp only[rn]at h
   split at h
   ·cases h; exact hv.next hi hn
   split at h
   case isFalse=>exact data hv h
   rename_i hc
   split at h
   case h_2=>cases h
   rename_i v et sz cells hob
   split at h
   case isFalse=>cases h
   rename_i hver
   cases h
   cases hv with
   | imm _ _ hv=>cases hv
   | ref _ _ _ a hv k' =>
    refine .ref _ _ _ a hs.tick fun ob l hg he=>?_
    obtain ⟨ob',h1,h2,h3⟩:=hs.get o hc ob l hg
    have hob':ob' = .arr v et sz cells:=by
     have:G.er.obs[o]?=some ob':=by simp [GSt.er,h1]
     rw [hob]at this; cases this; rfl
    subst hob'
    obtain ⟨et2,sz2,cells2,q1,q2⟩:=k' _ l h1 (by simp only[Ob.ver]; exact hver)
    cases q1
    cases ob with
    | arr v3 et3 sz3 cells3 =>
     simp only[Ob.like]at h2
     obtain ⟨rfl,rfl⟩:=h2
     exact ⟨_,_,cells3,by simp only[Ob.ver]at h3; rw [h3]; rfl,q2⟩
    | map v3 es=>exact h2.elim
    | lp _ _ _ _=>exact h2.elim
  | mp o ver =>
   simp only[rn]at h
   split at h
   ·cases h; exact hv.next hi hn
   split at h
   case isFalse=>cases h
   rename_i hc
   split at h
   case h_2=>cases h
   rename_i v es hob
   split at h
   case isFalse=>cases h
   rename_i hver
   cases h
   cases hv with
   | imm _ _ hv=>cases hv
   | mp _ _ r hv k' =>
    refine .mp _ _ r hs.tick fun ob l hg he=>?_
    obtain ⟨ob',h1,h2,h3⟩:=hs.get o hc ob l hg
    have hob':ob' = .map v es:=by
     have:G.er.obs[o]?=some ob':=by simp [GSt.er,h1]
     rw [hob]at this; cases this; rfl
    subst hob'
    obtain ⟨es2,q1,q2⟩:=k' _ l h1 (by simp only[Ob.ver]; exact hver)
    cases q1
    cases ob with
    | arr v3 et3 sz3 cells3=>exact h2.elim
    | map v3 es3=>exact ⟨es3,by simp only[Ob.ver]at h3; rw [h3]; rfl,q2⟩
    | lp _ _ _ _=>exact h2.elim
  | undef=>simp only[rn]at h; cases h; exact .imm _ _ (.undef _)
  | _=>simp only[rn]at h; exact data hv h
theorem yip (hi:Inv F G w) {k:Nat} {sel:List Nat} {S':Store} (h:G.er.rn k sel=some S') :
  ∃ G',G'.er=S'∧Inv (zuj F G (zdr k sel)) G' w∧Next F G w (zuj F G (zdr k sel)) G' w∧Sel G G' k sel:=by
 unfold Store.rn at h
 split at h
 case isFalse=>cases h
 rename_i hc
 simp only[qB,List.all_eq_true,decide_eq_true_eq]at hc
 obtain ⟨⟨hge,hnd⟩,hkl⟩:=hc
 rw [Option.bind_eq_some_iff]at h
 obtain ⟨A,hA,h⟩:=h
 rw [qI]at h
 obtain ⟨B,hB,rfl⟩:=h
 obtain ⟨a1,a2⟩:=zrq hA
 obtain ⟨b1,b2⟩:=zrq hB
 rw [List.length_range]at a1
 have hlen:G.er.obs.length=G.obs.length:=by simp [GSt.er]
 rw [hlen]at hkl
 have er_get':∀ {o:Nat} {ob:Ob},G.er.obs[o]?=some ob→∃ l,G.obs[o]?=some (ob,l):=fun h=>zf3 h
 -- where the objects lie
 let lcOf:Nat→Lc:=fun i=>((G.obs[if i<k then i else sel.getD (i - k) 0]?).map (·.2)).getD ⟨0,0⟩
 let G':GSt:=⟨(A++B).zipIdx.map fun q=>(q.1,lcOf q.2),G.tick+1⟩
 have hget:∀ (i:Nat) ob' l,G'.obs[i]?=some (ob',l)→∃ o ob,(if i<k then i else sel.getD (i - k) 0)=o∧(i<k∨sel[i - k]?=some o)∧G.obs[o]?=some (ob,l)∧z6i G.er k sel (decide (i<k)) ob=some ob':=by
  intro i ob' l hx
  simp only[G',List.getElem?_map,qI,List.getElem?_zipIdx]at hx
  obtain ⟨q,⟨ob2,hq,rfl⟩,e⟩:=hx
  simp only[Nat.zero_add,Prod.mk.injEq]at e
  obtain ⟨rfl,e⟩:=e
  by_cases hik:i<k
  ·rw [List.getElem?_append_left (by omega)]at hq
   obtain ⟨o,ob,h1,h2,h3⟩:=a2 i _ hq
   rw [List.getElem?_range hik]at h1
   cases h1
   obtain ⟨l2,h4⟩:=er_get' h2
   have:lcOf i=l2:=by simp [lcOf,hik,h4]
   rw [this]at e; subst e
   exact ⟨i,ob,by simp [hik],.inl hik,h4,by simpa [hik] using h3⟩
  rw [List.getElem?_append_right (by omega),← a1]at hq
  obtain ⟨o,ob,h1,h2,h3⟩:=b2 _ _ hq
  obtain ⟨l2,h4⟩:=er_get' h2
  have hsel:sel.getD (i - k) 0=o:=by simp [List.getD_eq_getElem?_getD,h1]
  have:lcOf i=l2:=by simp only[lcOf,if_neg hik,hsel,h4]; rfl
  rw [this]at e; subst e
  exact ⟨o,ob,by rw [if_neg hik,hsel],.inr h1,h4,by simpa [hik] using h3⟩
 have hn:Next F G w (zuj F G (zdr k sel)) G' w:=by
  refine ⟨rfl,rfl,rfl,qR _,fun b hb => .inl hb,?_,?_,Nat.le_succ _,fun _ _ _=>rfl,?_,qR _⟩
  ·rintro b (hb | ⟨o,x,_,hx,rfl⟩)
   ·exact .inl hb
   exact .inr (.inr ⟨o,x,hx,rfl⟩)
  ·rintro i ⟨ob',l⟩ hx
   obtain ⟨o,ob,_,_,h4,_⟩:=hget i ob' l hx
   exact .inr ⟨o,_,h4,rfl⟩
  intro i ob' l hx hver
  obtain ⟨o,ob,h1,h2,h4,h5⟩:=hget i ob' l hx
  obtain ⟨h6,h7⟩:=zro h5
  by_cases hik:i<k
  ·rw [if_pos hik]at h1; subst h1
   simp only[hik,decide_true,if_true]at h7
   exact ⟨ob,h4,h7.symm,h6⟩
  simp only[hik,decide_false,qF,if_false]at h7
  have:G.er.tick=G.tick:=rfl
  omega
 have hs:Sel G G' k sel:=by
  refine ⟨Nat.lt_succ_self _,fun o hc ob l hx=>?_⟩
  obtain ⟨o2,ob2,h1,h2,h4,h5⟩:=hget _ ob l hx
  have hnk:¬ k+sel.idxOf o<k:=by omega
  rcases h2 with h2 | h2
  ·exact absurd h2 hnk
  rw [Nat.add_sub_cancel_left]at h2
  have hmem:o∈sel:=by simpa using hc
  have hlt:=List.idxOf_lt_length_of_mem hmem
  rw [List.getElem?_eq_getElem hlt,List.getElem_idxOf hlt]at h2
  cases h2
  obtain ⟨h6,h7⟩:=zro h5
  simp only[hnk,decide_false,qF,if_false]at h7
  exact ⟨ob2,h4,h6,h7⟩
 have hsound:∀ {f:Nat} {p t:PV} {cv:Value},VR w.heap F G p cv→rn G.er k sel f p=some t→VR w.heap (zuj F G (zdr k sel)) G' t cv:=fun hv h=>zv0 hi (fun _ h=>h) hn hs hv h
 refine ⟨G',?_,zje ?_ ?_ ?_ ?_ ?_,hn,hs⟩
 ·simp only[GSt.er,G',Store.mk.injEq,and_true]
  apply List.ext_getElem
  ·simp
  intro i a b; simp
 ·rintro b (hb | ⟨o,x,_,hx,rfl⟩)
  ·exact hi.fr b hb
  exact hi.blk_lt hx
 ·intro i ob' l hx
  obtain ⟨o,ob,h1,h2,h4,h5⟩:=hget i ob' l hx
  obtain ⟨h6,h7⟩:=zro h5
  have h8:=hi.ver o ob l h4
  have:G.er.tick=G.tick:=rfl
  show ob'.ver<G.tick+1
  rw [h7]; split <;> omega
 ·intro i ob' l hx hb
  obtain ⟨o,ob,h1,h2,h4,h5⟩:=hget i ob' l hx
  rcases hb with hb | ⟨o',x,hfr,hx',e⟩
  ·exact hi.nF o ob l h4 hb
  have:=hi.inj o' o _ _ hx' h4 e
  subst this
  simp only[zdr,qB,decide_eq_true_eq,Bool.not_eq_true',List.contains_eq_mem,decide_eq_false_iff_not]at hfr
  rcases h2 with h2 | h2
  ·rw [if_pos h2]at h1; omega
  exact hfr.2 (List.mem_of_getElem? h2)
 ·intro i ob' l hx
  obtain ⟨o,ob,h1,h2,h4,h5⟩:=hget i ob' l hx
  have hh:=hi.holds h4
  cases ob with
  | arr v et2 sz2 cells2 =>
   simp only[z6i]at h5
   rw [qI]at h5
   obtain ⟨cs',k3,rfl⟩:=h5
   obtain ⟨m1,m2⟩:=zcj _ _ k3
   obtain ⟨cs,q1,q2,q3,q4⟩:=hh
   refine ⟨cs,q1,q2,by omega,fun i p hp=>?_⟩
   obtain ⟨x,x1,x2⟩:=m2 i p hp
   obtain ⟨c1,v1,v2,v3⟩:=q4 i x x1
   exact ⟨yin x2 c1,v1,v2,hsound v3 x2⟩
  | map v es2 =>
   simp only[z6i]at h5
   rw [qI]at h5
   obtain ⟨es',k3,rfl⟩:=h5
   obtain ⟨m1,m2⟩:=zmb _ _ k3
   obtain ⟨ents,clock,q1,q2,q3⟩:=hh
   refine ⟨ents,clock,q1,by omega,fun i k v hp=>?_⟩
   obtain ⟨x,x1,x2⟩:=m2 i (k,v) hp
   obtain ⟨en,e1,e2,e3⟩:=q3 i x.1 x.2 x1
   rw [Option.bind_eq_some_iff]at x2
   obtain ⟨a,y1,y2⟩:=x2
   rw [qI]at y2
   obtain ⟨b,y3,y4⟩:=y2
   cases y4
   exact ⟨en,e1,hsound e2 y1,hsound e3 y3⟩
  | lp v b2 r2 tmps2 =>
   simp only[z6i]at h5
   rw [qI]at h5
   obtain ⟨cs',k3,rfl⟩:=h5
   obtain ⟨m1,m2⟩:=zcj _ _ k3
   obtain ⟨q0,t,q1,q2,q3⟩:=hh
   refine ⟨q0,t,q1,⟨q2.1,by omega⟩,fun i p v hp hv=>?_⟩
   obtain ⟨x,x1,x2⟩:=m2 i p hp
   exact hsound (q3 i x v x1 hv) x2
 rintro i i' ⟨ob,l⟩ ⟨ob',l'⟩ hx hx' e
 obtain ⟨o,a,h1,h2,h3,_⟩:=hget i _ _ hx
 obtain ⟨o',a',h1',h2',h3',_⟩:=hget i' _ _ hx'
 have:=hi.inj o o' _ _ h3 h3' e
 subst this
 rcases h2 with h2 | h2 <;> rcases h2' with h2' | h2'
 ·rw [if_pos h2]at h1; rw [if_pos h2']at h1'; omega
 ·rw [if_pos h2]at h1
  have:=hge o (List.mem_of_getElem? h2')
  omega
 ·rw [if_pos h2']at h1'
  have:=hge o (List.mem_of_getElem? h2)
  omega
 have l1:=(List.getElem?_eq_some_iff.1 h2)
 have l2:=(List.getElem?_eq_some_iff.1 h2')
 obtain ⟨l1,e1⟩:=l1
 obtain ⟨l2,e2⟩:=l2
 have:=zx7 hnd l1 l2 (e1.trans e2.symm)
 by_cases c1:i<k
 ·rw [if_pos c1]at h1; have:=hge o (List.mem_of_getElem? h2); omega
 by_cases c2:i'<k
 ·rw [if_pos c2]at h1'; have:=hge o (List.mem_of_getElem? h2'); omega
 omega
variable {Q:Exit→Env→Store→Prop} {S:Store} {a b c:Code}
def z68 (L:List Nat) (I:List PV→Store→Prop) (e:Env) (S:Store):Prop :=
 ∃ k sel vs S',(L.map e).mapM (rn S k sel 10)=some vs∧S.rn k sel=some S'∧I vs S'
theorem zs9 (hi:Inv F G w) {e:Env} {act:Act} (he:zfi w.heap F G e act) {L:List Nat} {I:List PV→Store→Prop} (h:z68 L I e G.er) :
  ∃ vs F' G',I vs G'.er∧vs.length=L.length∧Inv F' G' w∧Next F G w F' G' w∧zfi w.heap F' G' (Env.of L vs) act:=by
 obtain ⟨k,sel,vs,S',h1,h2,h3⟩:=h
 obtain ⟨G',rfl,k2,k3,k4⟩:=yip hi h2
 obtain ⟨m1,m2⟩:=zcj _ _ h1
 refine ⟨vs,_,G',h3,by rw [← m1]; simp,k2,k3,zvi L vs (by rw [← m1]; simp) fun i t v q1 q2=>?_⟩
 obtain ⟨x,x1,x2⟩:=m2 i v q2
 rw [List.getElem?_map,q1]at x1
 cases x1
 exact zv0 hi (fun _ h=>h) k3 k4 (he t) x2
theorem W.foldS (L:List Nat) {I:List PV→Store→Prop} (hI:z68 L I e S) (h:∀ vs S,vs.length=L.length→I vs S→W P T c Q (Env.of L vs) S):W P T c Q e S:=by
 refine ⟨?_⟩
 intro hT hm F0 G0 w0 N F G a w h3 h4 h5 h6 h7 h8 h9 R nn
 subst h3
 obtain ⟨vs,F',G',k1,k2,k3,k4,k5⟩:=zs9 h4 h5 hI
 exact (h vs _ k2 k1).run hT hm F0 G0 w0 N F' G' a w rfl k3 k5 (h6.trans k4) h7 h8 h9
theorem W.joinS (L:List Nat) (I:List PV→Store→Prop) (h:W P T a (XThen (z68 L I) Q) e S) (k:∀ vs S,vs.length=L.length→I vs S→W P T b Q (Env.of L vs) S):W P T (.seq a b) Q e S:=by
 refine W.seq (h.mono ?_)
 intro x e S hx
 cases x with
 | normal=>exact W.foldS L hx k
 | _=>exact hx
theorem W.loopS (L:List Nat) (I:Nat→List PV→Store→Prop) (n:Nat) (h0:z68 L (I n) e S)
  (h:∀ n vs S,vs.length=L.length→I n vs S→W P T c (XThen (fun e S=>∃ m,m<n∧z68 L (I m) e S) Q) (Env.of L vs) S):W P T (.loop c) Q e S:=by
 refine W.foldS L h0 fun vs S hl hI=>?_
 refine ⟨?_⟩
 intro hT hm F0 G0 w0 N F G a w h3 h4 h5 h6 h7 h8 h9 R nn
 refine wpIn_loop_rounds (n+1) ?_
 clear h0
 induction n using Nat.strongRecOn generalizing vs S F G a w with
 | _ n ih =>
  refine wpIn_mono ((h n vs S hl hI).run hT hm F0 G0 w0 N F G a w h3 h4 h5 h6 h7 h8 (by simpa [zg7] using h9)) ?_
  rintro x a' w' ⟨e',F',G',k1,k2,k3,k4,k5,k6⟩
  cases x with
  | normal =>
   obtain ⟨m,hmn,hk⟩:=k1
   obtain ⟨vs',F2,G2,q1,q2,q3,q4,q5⟩:=zs9 k2 k3 hk
   exact zla (by omega) _ _ (ih m hmn vs' _ q2 q1 F2 G2 a' w' rfl q3 q5 (k4.trans q4) k5 k6)
  | _=>exact ⟨e',F',G',k1,k2,k3,k4,k5,k6⟩
end
end
section
section
variable {P:Program} {T:Tab}
def More (S S':Store):Prop:=∀ (o:Nat) x,S.obs[o]?=some x→S'.obs[o]?=some x
theorem More.cells {S S':Store} (h:More S S') {o ver:Nat} {c:List PV} (hc:S.cellsOf o ver=some c):S'.cellsOf o ver=some c:=by
 unfold Store.cellsOf at hc ⊢
 cases ho:S.obs[o]? with
 | none=>rw [ho]at hc; cases hc
 | some x=>rw [ho]at hc; rw [h o x ho]; exact hc
theorem More.push {S:Store} {et sz:Nat} {cells:List PV}:More S (S.push et sz cells):=by
 intro o x hx
 have:=(List.getElem?_eq_some_iff.1 hx).1
 simp only[Store.push]
 rw [List.getElem?_append_left this]; exact hx
def zmd:Op→Bool
 | .load .. | .nilCheck _ | .fieldAddr .. | .indexAddr .. => true
 | .call ⟨.builtin .len,_,_⟩ | .call ⟨.builtin .max,_,_⟩ | .call ⟨.builtin .min,_,_⟩=>true
 | o=>zm1 o
theorem zx4 {S S':Store} (hm:More S S') {e:Env} {o:Op} {v:PV} (h:zmd o=true) (hv:zd2 T S e o=some v):zd2 T S' e o=some v:=by
 unfold zmd at h
 split at h
 ·rename_i t x
  simp only[zd2,zsj]at hv ⊢
  split at hv
  ·exact hv
  ·rename_i o ver off hx
   rw [Option.bind_eq_some_iff]at hv
   obtain ⟨c,h1,h2⟩:=hv
   rw [hm.cells h1]; exact h2
  cases hv
 ·rename_i x
  simp only[zd2,zha]at hv ⊢
  split at hv
  ·exact hv
  ·rw [qI]at hv
   obtain ⟨c,h1,h2⟩:=hv
   rw [hm.cells h1]; simpa using h2
  ·exact hv
  cases hv
 ·rename_i t x f
  simp only[zd2,zf7]at hv ⊢
  split at hv
  ·split at hv
   ·exact hv
   ·split at hv
    ·cases hv
    rename_i hz
    rw [if_neg hz]
    rw [qI]at hv
    obtain ⟨c,h1,h2⟩:=hv
    rw [hm.cells h1]; simpa using h2
   cases hv
  cases hv
 ·rename_i t x i
  simp only[zd2,zf8]at hv ⊢
  split at hv
  ·split at hv
   ·exact hv
   ·rw [Option.bind_eq_some_iff]at hv
    obtain ⟨c,h1,h2⟩:=hv
    rw [hm.cells h1]; exact h2
   ·rw [Option.bind_eq_some_iff]at hv
    obtain ⟨c,h1,h2⟩:=hv
    rw [hm.cells h1]; exact h2
   ·exact hv
   cases hv
  cases hv
 ·simp only[zd2,zfq]at hv ⊢
  split at hv
  ·simp only[yjf]at hv ⊢
   split at hv <;> first
    | exact hv
    | (rw [qI]at hv; obtain ⟨c,h1,h2⟩:=hv; rw [hm.cells h1]; simpa using h2; done)
    | skip
   rename_i o ver _ _
   cases ho:S.obs[o]? with
   | none=>rw [ho]at hv; cases hv
   | some x=>rw [ho]at hv; rw [hm o x ho]; exact hv
  cases hv
 ·exact hv
 ·exact hv
 rw [← zt2 (T:=T) (S:=S) (S':=S') h]; exact hv
theorem yh1 {S S':Store} (hm:More S S') {e:Env} {o:Op} {v:PV} (h:zmd o=true) (hv:pFl P T S e o v):pFl P T S' e o v:=by
 cases o with
 | call c =>
  obtain ⟨cal,xs,ts⟩:=c
  cases cal with
  | value f=>simp [zmd,zm1]at h
  | _=>simp only[pFl]at hv ⊢; exact zx4 hm h hv
 | _=>simp only[pFl]at hv ⊢; exact zx4 hm h hv
variable (P T)
def zlq (ops:Array Oper) (effs pend:List Nat) (t d:Nat) (Q:Env→Store→Prop) (l:List Nat) (e:Env) (S:Store):Prop :=
 (T t).kd ≠ .none∧zdg P T ops effs pend [] Q l (e.put (some d) (.ref S.obs.length S.tick 0)) (S.push t (T t).size (T t).zero)
def zgw (ops:Array Oper) (effs pend:List Nat) (t d:Nat) (Q:Env→Store→Prop) (l2:List Nat):List Nat→Env→Store→Prop
 | [],e,S=>zlq P T ops effs pend t d Q l2 e S
 | i::r,e,S =>
  match ops[i]? with
  | none=>False
  | some o=>(if effs.contains i then zlq P T ops effs pend t d Q (i::(r++l2)) e S else True)∧zdw ops o e
    (if effs.contains i then pOp P T e S o.op fun v S'=>zgw ops effs pend t d Q l2 r (e.put o.dst v) S' else z64 P T S e o.op fun v=>(if pend.contains i then Stable P T [] S e o.op v else True)∧zgw ops effs pend t d Q l2 r (e.put o.dst v) S)
    (zgw ops effs pend t d Q l2 r (e.put o.dst (.tup [])) S)
variable {P T}
def zss (ops:Array Oper) (d:Nat) (p:Oper):Bool := !(p.looksAt ops).contains d && p.dst != some d
variable {ops:Array Oper} {effs pend:List Nat} {t d:Nat} {Q:Env→Store→Prop} {l2:List Nat}
theorem zk5:∀ {l:List Nat} {e:Env} {S:Store},(∀ x∈l,∃ p,ops[x]?=some p∧(effs.contains x=true∨(zmd p.op=true∧zss ops d p=true))) →
  zgw P T ops effs pend t d Q l2 l e S→zlq P T ops effs pend t d Q (l++l2) e S
 | [],e,S,_,h=>h
 | i::r,e,S,hl,h=>by
  obtain ⟨p,hp,hc⟩:=hl i (by simp)
  simp only[zgw,hp]at h
  cases hi:effs.contains i with
  | true=>rw [hi]at h; simpa using h.1
  | false =>
   rw [hi]at h hc
   simp only[qF,if_false,false_or]at h hc
   obtain ⟨hmono,hap⟩:=hc
   simp only[zss,qB,Bool.not_eq_true',List.contains_eq_mem,decide_eq_false_iff_not,bne_iff_ne,ne_eq]at hap
   obtain ⟨hap1,hap2⟩:=hap
   have look:∀ u:PV,∀ x,x∈p.looksAt ops→e x=(e.put (some d) u) x:=fun u x hx=>(ze5 fun h=>hap1 (by cases h; exact hx)).symm
   have comm:∀ v u:PV,(e.put p.dst v).put (some d) u=(e.put (some d) u).put p.dst v:=fun v u=>zvs fun t h1 h2=>hap2 (by rw [h1]; exact h2.symm)
   have rest:=fun x hx=>hl x (List.mem_cons_of_mem i hx)
   have ih:∀ {e},zgw P T ops effs pend t d Q l2 r e S→zlq P T ops effs pend t d Q (r++l2) e S:=zk5 rest
   have h:=h.2
   rw [List.cons_append]
   unfold zlq
   simp only[zdg,hp,hi,qF,if_false]
   unfold zdw at h ⊢
   rw [← zh6 (look _)]
   cases hg:gdec ops p e with
   | none=>rw [hg]at h; exact h.elim
   | some b =>
    rw [hg]at h
    cases b with
    | true =>
     simp only at h ⊢
     rw [zc0]at h
     obtain ⟨v,h1,h3,h2⟩:=h
     obtain ⟨k1,k2⟩:=ih h2
     refine ⟨k1,?_⟩
     rw [zc0]
     refine ⟨v,(zh9 (zek (look _))).1 (yh1 More.push hmono h1),?_,by rw [← comm]; exact k2⟩
     split
     ·rename_i hc
      rw [if_pos hc]at h3
      exact fun S' _=>(zh9 (zek (look _))).1 (h3 S' (by intro o ho; cases ho))
     trivial
    | false =>
     simp only at h ⊢
     obtain ⟨k1,k2⟩:=ih h
     exact ⟨k1,by rw [← comm]; exact k2⟩
theorem zlq.imp {l l':List Nat} {e:Env} {S:Store} (h:∀ e S,zdg P T ops effs pend [] Q l e S→zdg P T ops effs pend [] Q l' e S) (k:zlq P T ops effs pend t d Q l e S):zlq P T ops effs pend t d Q l' e S:=⟨k.1,h _ _ k.2⟩
theorem z57 {x:Nat} {r r':List Nat} (hd:∀ e S,zdg P T ops effs pend [] Q (r++l2) e S→zdg P T ops effs pend [] Q (r'++l2) e S) (h:∀ e S,zgw P T ops effs pend t d Q l2 r e S→zgw P T ops effs pend t d Q l2 r' e S) {e:Env} {S:Store}
  (k:zgw P T ops effs pend t d Q l2 (x::r) e S):zgw P T ops effs pend t d Q l2 (x::r') e S:=by
 simp only[zgw]at k ⊢
 cases ho:ops[x]? with
 | none=>rw [ho]at k; exact k
 | some o =>
  rw [ho]at k
  simp only at k ⊢
  refine ⟨?_,?_⟩
  ·have k1:=k.1
   split at k1
   ·rename_i hc; rw [if_pos hc]; exact k1.imp fun e S=>ztt hd
   rename_i hc; rw [if_neg hc]; trivial
  replace k:=k.2
  unfold zdw at k ⊢
  split
  ·rename_i hg
   rw [hg]at k
   simp only at k
   split
   ·rename_i hc; rw [if_pos hc]at k; exact zey (fun v S' q=>h _ _ q) k
   rename_i hc
   rw [if_neg hc]at k
   rw [zc0]at k ⊢
   obtain ⟨v,k1,k2,k3⟩:=k
   exact ⟨v,k1,k2,h _ _ k3⟩
  ·rename_i hg
   rw [hg]at k
   exact h _ _ k
  rename_i hg; rw [hg]at k; exact k
theorem z56 {x i:Nat} {r:List Nat} {e:Env} {S:Store} {p q:Oper} (hp:ops[x]?=some p) (hq:ops[i]?=some q)
  (hx:effs.contains x=false) (hap:Oper.apart ops p q=true) (hpend:effs.contains i=true→(pend.contains x=true∧pend.contains i=false)∨zm1 p.op=true)
  (hall:∀ y∈x::i::r,∃ p,ops[y]?=some p∧(effs.contains y=true∨(zmd p.op=true∧zss ops d p=true)))
  (k:zgw P T ops effs pend t d Q l2 (x::i::r) e S):zgw P T ops effs pend t d Q l2 (i::x::r) e S:=by
 have kA:=zk5 hall k
 have kA2:zlq P T ops effs pend t d Q (i::x::(r++l2)) e S:=kA.imp fun e S=>zts hp hq hx hap hpend
 obtain ⟨a1,a2,a3⟩:=Oper.apart_spec hap
 have lookq:∀ v,∀ t,t∈q.looksAt ops→(e.put p.dst v) t=e t:=fun v t ht=>ze5 fun h=>a1 t h ht
 have lookp:∀ v,∀ t,t∈p.looksAt ops→(e.put q.dst v) t=e t:=fun v t ht=>ze5 fun h=>a3 t h ht
 have comm:∀ v u,(e.put p.dst v).put q.dst u=(e.put q.dst u).put p.dst v:=fun v u=>zvs fun t h1 h2=>a2 t h1 h2
 simp only[zgw,hp,hq,hx,if_false,qF,true_and,List.cons_append]at k ⊢
 refine ⟨by split <;> first | exact kA2 | trivial,?_⟩
 unfold zdw at k ⊢
 have gq:∀ v,gdec ops q (e.put p.dst v)=gdec ops q e:=fun v=>zh6 (lookq v)
 have gp:∀ v,gdec ops p (e.put q.dst v)=gdec ops p e:=fun v=>zh6 (lookp v)
 simp only[gq,gp]at k ⊢
 have flp:∀ {S v u},pFl P T S (e.put q.dst v) p.op u↔pFl P T S e p.op u:=zh9 (zek (lookp _))
 have flq:∀ {S v u},pFl P T S (e.put p.dst v) q.op u↔pFl P T S e q.op u:=zh9 (zek (lookq _))
 have opq:∀ {S v K},pOp P T (e.put p.dst v) S q.op K=pOp P T e S q.op K:=zyn (zek (lookq _))
 simp only[zc0,flp,flq,opq,comm,Stable]at k ⊢
 cases hgp:gdec ops p e with
 | none=>rw [hgp]at k; exact k.elim
 | some bp =>
  rw [hgp]at k
  cases bp with
  | true =>
   obtain ⟨v,k1,k2,k3⟩:=k
   replace k3:=k3.2
   cases hgq:gdec ops q e with
   | none=>rw [hgq]at k3; exact k3.elim
   | some bq =>
    rw [hgq]at k3
    cases bq with
    | true =>
     simp only at k3 ⊢
     split
     ·rename_i hc
      rw [if_pos hc]at k3
      refine zey (fun u S' hu=>⟨v,?_,?_,hu⟩) k3
      ·rcases hpend hc with ⟨h1,_⟩ | h1
       ·rw [if_pos h1]at k2; exact k2 S' (by intro o ho; cases ho)
       exact zv2 h1 k1
      split
      ·rename_i h1
       rw [if_pos h1]at k2
       exact fun S'' _=>k2 S'' (by intro o ho; cases ho)
      trivial
     rename_i hc
     rw [if_neg hc]at k3
     obtain ⟨u,h1,h2,h3⟩:=k3
     exact ⟨u,h1,h2,v,k1,k2,h3⟩
    | false=>exact ⟨v,k1,k2,k3⟩
  | false =>
   simp only at k ⊢
   exact k.2
theorem zre {i:Nat} {q:Oper} (hq:ops[i]?=some q) {l3:List Nat} :
  ∀ (l1:List Nat) {e:Env} {S:Store},(∀ x∈l1,∃ p,ops[x]?=some p∧effs.contains x=false∧Oper.apart ops p q=true∧(effs.contains i=true→(pend.contains x=true∧pend.contains i=false)∨zm1 p.op=true)) →
   (∀ y∈l1++i::l3,∃ p,ops[y]?=some p∧(effs.contains y=true∨(zmd p.op=true∧zss ops d p=true))) →
   zgw P T ops effs pend t d Q l2 (l1++i::l3) e S→zgw P T ops effs pend t d Q l2 (i::(l1++l3)) e S
 | [],e,S,_,_,h=>h
 | x::l1,e,S,hx,hall,h=>by
  obtain ⟨p,h1,h2,h3,h4⟩:=hx x (by simp)
  refine z56 h1 hq h2 h3 h4 (fun y hy=>hall y ?_) (z57 (fun e S h=>by
   rw [List.cons_append,List.append_assoc]
   rw [List.append_assoc,List.cons_append]at h
   exact zfe hq l1 (fun y hy=>by
    obtain ⟨p,k1,k2,k3,k4⟩:=hx y (by simp [hy])
    exact ⟨p,k1,k2,k3,k4⟩) h) (fun e S=>zre hq l1 (fun y hy=>hx y (by simp [hy])) fun y hy=>hall y (by simp at hy ⊢; exact .inr hy)) h)
  simp at hy ⊢
  rcases hy with h | h | h | h <;> simp [h]
variable {F0:Nat→Prop} {G0:GSt} {w0:World} {N:Nat}
theorem z51 {R:Option Nat} {nn:Nat} (hT:zby P T) {c:Bool} {i:Nat} {o:Oper} (ho:ops[i]?=some o) {e:Env} {F:Nat→Prop} {G:GSt} {a:Act} {w:World} {Z:Env→Store→Prop}
  (h:zdw ops o e (if c then pOp P T e G.er o.op fun v S'=>Z (e.put o.dst v) S' else z64 P T G.er e o.op fun v=>Z (e.put o.dst v) G.er) (Z (e.put o.dst (.tup [])) G.er))
  (hi:Inv F G w) (he:zfi w.heap F G e a) (hn:Next F0 G0 w0 F G w) (hs:a.tmps.size=N) (hd:Marks w0 a.defers w)
  (hdst:∀ o∈ops.toList,∀ d,o.dst=some d→d<N) {Qx:Exit→Act→World→Prop} {K:Act→World→Prop}
  (hK:∀ e' F' G' a' w',Z e' G'.er→Inv F' G' w'→zfi w'.heap F' G' e' a'→Next F0 G0 w0 F' G' w'→a'.tmps.size=N→Marks w0 a'.defers w'→K a' w') :
  wpOpIn (fnc R) nn P ops Qx i K a w:=by
 unfold wpOpIn
 rw [ho]
 have hd1:∀ t,o.dst=some t→t<a.tmps.size:=fun t ht=>by
  rw [hs]; exact hdst o (List.mem_of_getElem? (i:=i) (by simpa using ho)) t ht
 rcases zih he h with ⟨hw,h⟩ | ⟨hw,h⟩
 ·simp only[hw,if_true]
  have hop:pOp P T e G.er o.op fun v S'=>Z (e.put o.dst v) S':=by
   cases c with
   | true=>simpa using h
   | false =>
    simp only[qF,if_false]at h
    rw [zc0]at h
    obtain ⟨v,h1,h2⟩:=h
    exact zey (by rintro v' S' ⟨rfl,rfl⟩; exact h2) (zrb h1)
  refine zj2 hT hi he hop ?_
  intro v cv F' G' w' hk i1 i2 i3
  exact hK _ _ _ _ _ hk i1 ((he.next hi i2).put _ hd1 i3) (hn.trans i2) (by rw [zgd]; exact hs) (by rw [zdv]; exact hd.next hi i2)
 simp only[hw,qF,if_false]
 exact ⟨fun _ _=>trivial,hK _ _ _ _ _ h hi (zna hi he _ hd1) hn (by rw [zgd]; exact hs) (by rw [zdv]; exact hd)⟩
theorem yhb {R:Option Nat} {nn:Nat} (hT:zby P T) {m:Nat} {om:Oper} (hom:ops[m]?=some om) (hop:om.op = .alloc t) (hog:om.guard=none) (hod:om.dst=some d) (hoa:om.after = #[]) (hmE:effs.contains m=true) (hl2:∀ y∈l2,((prs ops).getD y 0).testBit m=true)
  (hdst:∀ o∈ops.toList,∀ d,o.dst=some d→d<N)
  (hdep:∀ (i:Nat) o,ops[i]?=some o→∀ e∈o.after.toList,Region.binds .any e=true→e.on<ops.size) :
  ∀ (fuel:Nat) (listed:Array Bool) (l:List Nat) {e:Env} {F:Nat→Prop} {G:GSt} {a:Act} {w:World},(l++l2).length+1=fuel→(l++l2).Pairwise (fun x i=>zgs ops (prs ops) effs pend x i=true)→(l++l2).Nodup→(∀ x∈l++l2,((prs ops).getD x 0).testBit x=false) →
   listed.size=ops.size→(∀ i,i∈l++l2↔i<ops.size∧listed.getD i true=false∧i≠m)→listed.getD m true=false →
   (∀ i x,listed.getD i false=true→((prs ops).getD i 0).testBit x=true→x<ops.size→listed.getD x true=true) →
   (∀ y∈l,∃ p,ops[y]?=some p∧(effs.contains y=true∨(zmd p.op=true∧zss ops d p=true))) →
   zgw P T ops effs pend t d Q l2 l e G.er→Inv F G w→zfi w.heap F G e a→Next F0 G0 w0 F G w→a.tmps.size=N→Marks w0 a.defers w →
   wpAnyIn (fnc R) nn P .any ops (Sto F0 G0 w0 N (Nrm Q)) fuel listed a w:=by
 have hml:m<ops.size:=(Array.getElem?_eq_some_iff.1 hom).1
 have hpm:∀ x,((prs ops).getD m 0).testBit x=false:=by
  intro x
  cases hx:((prs ops).getD m 0).testBit x with
  | false=>rfl
  | true =>
   obtain ⟨o,ho,ed,h1,_⟩:=zik hx
   rw [hom]at ho; cases ho
   rw [hoa]at h1; simp at h1
 intro fuel
 induction fuel with
 | zero =>
  intro listed l e F G a w hl
  omega
 | succ fuel ih =>
  intro listed l e F G a w hl hp hnd hself hsz hmem hlm hcl hall h hi he hn hs hd
  have bound:∀ i x,((prs ops).getD i 0).testBit x=true→x<ops.size:=by
   have key:∀ n i x,i<n→((prs ops).getD i 0).testBit x=true→x<ops.size:=by
    intro n
    induction n with
    | zero=>intro i x h; omega
    | succ n ihn =>
     intro i x hin hx
     obtain ⟨o,ho,ed,h1,h2,h3⟩:=zik hx
     rcases h3 with rfl | ⟨h3,h4⟩
     ·exact hdep i o ho ed h1 h2
     exact ihn ed.on x (by omega) h4
   exact fun i x=>key (i+1) i x (Nat.lt_succ_self _)
  have facts:∀ i,i∈Region.ready .any ops listed→(i≠m→i∈l++l2)∧∃ q,ops[i]?=some q∧∀ e∈q.after.toList,Region.binds .any e=true→listed.getD e.on false=true:=by
   intro i hr
   unfold Region.ready at hr
   rw [List.mem_filter]at hr
   obtain ⟨h1,h2⟩:=hr
   have hlt:i<ops.size:=by simpa using h1
   rw [Array.getElem?_eq_getElem hlt]at h2
   simp only[qO,Option.getD_some,qB,Bool.not_eq_true']at h2
   refine ⟨fun hne=>(hmem i).2 ⟨hlt,h2.1,hne⟩,ops[i],Array.getElem?_eq_getElem hlt,fun e he hb=>?_⟩
   have:=h2.2
   rw [Array.all_eq_true_iff_forall_mem]at this
   have:=this e (by simpa using he)
   simpa [hb] using this
  have preds:∀ i,i∈Region.ready .any ops listed→∀ x,((prs ops).getD i 0).testBit x=true→listed.getD x true=true:=by
   intro i hr x hx
   obtain ⟨_,q,hq,hdeps⟩:=facts i hr
   have hxl:=bound i x hx
   obtain ⟨o,ho,ed,h1,h2,h3⟩:=zik hx
   rw [hq]at ho
   cases ho
   have hl1:=hdeps ed h1 h2
   rcases h3 with rfl | ⟨_,h3⟩
   ·have hlt:ed.on<listed.size:=by rw [hsz]; exact hxl
    rw [Array.getD_eq_getD_getElem?,Array.getElem?_eq_getElem hlt]at hl1 ⊢
    exact hl1
   exact hcl _ _ hl1 h3 hxl
  refine ⟨fun hr0=>?_,fun i hr=>?_⟩
  ·exfalso
   have hready:m∈Region.ready .any ops listed:=by
    unfold Region.ready
    rw [List.mem_filter]
    refine ⟨by simpa using hml,?_⟩
    rw [Array.getElem?_eq_getElem hml]
    have:ops[m]=om:=by rw [Array.getElem?_eq_getElem hml]at hom; exact Option.some.inj hom
    simp only[qO,Option.getD_some,qB,Bool.not_eq_true',this,hoa]
    exact ⟨hlm,by simp⟩
   rw [hr0]at hready
   simp at hready
  obtain ⟨hil,q,hq,_⟩:=facts i hr
  have hlt:i<ops.size:=(Array.getElem?_eq_some_iff.1 hq).1
  have hgetD:∀ j d,(listed.setIfInBounds i true).getD j d=if j=i then true else listed.getD j d:=by
   intro j d
   rw [Array.getD_eq_getD_getElem?,Array.getD_eq_getD_getElem?]
   by_cases hj:j=i
   ·subst hj; simp [hsz,hlt]
   rw [Array.getElem?_setIfInBounds_ne (Ne.symm hj),if_neg hj]
  by_cases him:i=m
  ·subst him
   have hA:=zk5 hall h
   rw [hom]at hq; cases hq
   have hD:zdg P T ops effs pend [] Q (i::(l++l2)) e G.er:=by
    simp only[zdg,hom,hmE,if_true]
    unfold zdw gdec
    rw [hog,hop,hod]
    exact ⟨hA.1,.inr (by intro o ho; cases ho),hA.2⟩
   refine zmh hT hD hi he hn hs hd hdst ?_
   intro e' F' G' a' w' k1 k2 k3 k4 k5 k6
   refine zlx hT hdst hdep fuel _ (l++l2) (by omega) hp hnd hself (by simp [hsz]) (fun j=>?_) (fun j x h1 h2 h3=>?_) k1 k2 k3 k4 k5 k6
   ·rw [hgetD,hmem]
    by_cases hj:j=i
    ·simp [hj]
    simp [hj]
   rw [hgetD]at h1 ⊢
   by_cases hx:x=i
   ·rw [if_pos hx]
   rw [if_neg hx]
   by_cases hj:j=i
   ·subst hj; rw [hpm]at h2; cases h2
   rw [if_neg hj]at h1; exact hcl j x h1 h2 h3
  replace hil:=hil him
  have hil:i∈l:=by
   rcases List.mem_append.1 hil with h9 | h9
   ·exact h9
   have:=preds i hr m (hl2 i h9)
   rw [Array.getD_eq_getD_getElem?]at this hlm
   cases hq9:listed[m]? with
   | none=>rw [Array.getElem?_eq_none_iff]at hq9; omega
   | some b9=>rw [hq9]at this hlm; simp at this hlm; rw [this]at hlm; cases hlm
  obtain ⟨l1,l3,rfl⟩:=List.append_of_mem hil
  rw [List.append_assoc,List.cons_append]at hl hp hnd hself hmem
  have hpre:∀ x∈l1,∃ p,ops[x]?=some p∧effs.contains x=false∧Oper.apart ops p q=true∧(effs.contains i=true→(pend.contains x=true∧pend.contains i=false)∨zm1 p.op=true):=by
   intro x hx
   have hxm:=(hmem x).1 (by simp [hx])
   have hpair:=(List.pairwise_append.1 hp).2.2 x hx i (by simp)
   have hnb:((prs ops).getD i 0).testBit x=false:=by
    cases hb:((prs ops).getD i 0).testBit x with
    | false=>rfl
    | true=>have:=preds i hr x hb; rw [hxm.2.1]at this; cases this
   unfold zgs at hpair
   rw [hnb,hq,Array.getElem?_eq_getElem hxm.1]at hpair
   simp only[Bool.false_or,qB,Bool.not_eq_true',Bool.or_eq_true]at hpair
   refine ⟨ops[x],Array.getElem?_eq_getElem hxm.1,hpair.2.1.1,hpair.2.1.2,fun hc=>?_⟩
   rcases hpair.2.2 with (h1 | h1) | h1
   ·rw [hc]at h1; cases h1
   ·exact .inl h1
   exact .inr h1
  have hfront:=zre hq l1 hpre hall h
  simp only[zgw,hq]at hfront
  have hfr2:zdw ops q e (if effs.contains i then pOp P T e G.er q.op fun v S'=>zgw P T ops effs pend t d Q l2 (l1++l3) (e.put q.dst v) S' else z64 P T G.er e q.op fun v=>zgw P T ops effs pend t d Q l2 (l1++l3) (e.put q.dst v) G.er) (zgw P T ops effs pend t d Q l2 (l1++l3) (e.put q.dst (.tup [])) G.er):=by
   have h9:=hfront.2
   unfold zdw at h9 ⊢
   split at h9
   ·split at h9
    ·rename_i hc; rw [if_pos hc]; exact h9
    rename_i hc; rw [if_neg hc]; rw [zc0]at h9 ⊢; obtain ⟨v,a1,_,a2⟩:=h9; exact ⟨v,a1,a2⟩
   ·exact h9
   exact h9.elim
  refine z51 hT hq hfr2 hi he hn hs hd hdst ?_
  intro e' F' G' a' w' k1 k2 k3 k4 k5 k6
  refine ih _ (l1++l3) (by simp at hl ⊢; omega) (hp.sublist (by rw [List.append_assoc]; simp)) (hnd.sublist (by rw [List.append_assoc]; simp)) (fun x hx=>hself x (by rw [List.append_assoc]at hx; rcases List.mem_append.1 hx with h9 | h9 <;> simp at h9 ⊢ <;> simp [h9])) (by simp [hsz]) (fun j=>?_) (by rw [hgetD,if_neg (Ne.symm him)]; exact hlm) (fun j x h1 h2 h3=>?_) (fun y hy=>hall y (by rcases List.mem_append.1 hy with h9 | h9 <;> simp [h9])) k1 k2 k3 k4 k5 k6
  ·rw [hgetD,List.append_assoc]
   have hm:=hmem j
   by_cases hj:j=i
   ·subst hj
    rw [if_pos rfl]
    constructor
    ·intro hj2
     exfalso
     have:=List.nodup_append.1 hnd
     rcases List.mem_append.1 hj2 with h1 | h1
     ·exact this.2.2 j h1 j (by simp) rfl
     exact (List.nodup_cons.1 this.2.1).1 h1
    rintro ⟨_,h1,_⟩; cases h1
   rw [if_neg hj,← hm]
   simp [hj]
  rw [hgetD]at h1 ⊢
  by_cases hx:x=i
  ·rw [if_pos hx]
  rw [if_neg hx]
  by_cases hj:j=i
  ·subst hj; exact preds j hr x h2
  rw [if_neg hj]at h1; exact hcl j x h1 h2 h3
def z7o (ops:Array Oper) (l l2 effs pend:List Nat) (m t d:Nat):Bool :=
 let B:=prs ops
 (match ops[m]? with
 | some om=>(match om.op with | .alloc t'=>t' == t | _=>false) && om.guard.isNone && om.dst == some d && om.after.isEmpty
 | none=>false) && effs.contains m &&
 zk6 (zgs ops B effs pend) (l++l2) && (l++l2).length+1 == ops.size && (l++l2).all (fun x=>decide (x<ops.size) && !(B.getD x 0).testBit x && x != m) && l2.all (fun y=>(B.getD y 0).testBit m) && l.all (fun x =>
  (match ops[x]? with | some p=>effs.contains x || (zmd p.op && zss ops d p) | none=>false)) &&
 ((List.range ops.size).all fun i=>i == m || (l++l2).contains i) &&
 ops.toList.all fun o=>o.after.toList.all fun e => !Region.binds .any e || decide (e.on<ops.size)
end
section
variable {P:Program} {T:Tab} {Q:Exit→Env→Store→Prop} {e:Env} {S:Store} {b:Code}
theorem W.region_m {id:Nat} {ops:Array Oper} (l l2 effs pend:List Nat) (m t d:Nat) (hc:z7o ops l l2 effs pend m t d=true) (h:zgw P T ops effs pend t d (Q .normal) l2 l e S):W P T (.region id ops true) Q e S:=by
 refine ⟨?_⟩
 intro hT hm F0 G0 w0 N F G a w h3 h4 h5 h6 h7 h8 h9 R nn
 subst h3
 unfold z7o at hc
 simp only[qB,beq_iff_eq,List.all_eq_true,decide_eq_true_eq,Bool.not_eq_true',List.mem_range,Bool.or_eq_true,bne_iff_ne,ne_eq]at hc
 obtain ⟨⟨⟨⟨⟨⟨⟨⟨c0,cE⟩,c1⟩,c2⟩,c3⟩,c6⟩,c7⟩,c4⟩,c5⟩:=hc
 obtain ⟨p1,p2⟩:=zgi c1
 cases hom:ops[m]? with
 | none=>rw [hom]at c0; cases c0
 | some om =>
  rw [hom]at c0
  simp only[qB]at c0
  obtain ⟨⟨⟨k1,k2⟩,k3⟩,k4⟩:=c0
  have hop:om.op = .alloc t:=by
   cases ho:om.op <;> rw [ho]at k1 <;> simp at k1
   rw [k1]
  have hog:om.guard=none:=by simpa using k2
  have hod:om.dst=some d:=by simpa using k3
  have hoa:om.after = #[]:=by simpa using k4
  refine wpIn_mono (wpIn_region_any hm (yhb (Q:=Q .normal) hT hom hop hog hod hoa cE c6 (zuw h9) ?_ ops.size (Array.replicate ops.size false) l c2 p1 p2 (fun x hx=>(c3 x hx).1.2) (by simp) ?_ ?_ ?_ ?_ h (h4.drew) h5 (h6.drew) h7 h8)) z3l
  ·intro i o ho ed hed hb
   have hmem:o∈ops.toList:=by
    have:=Array.mem_of_getElem? ho
    simpa using this
   have:=c5 o hmem ed hed
   rw [hb]at this
   simpa using this
  ·intro i
   constructor
   ·intro hi
    refine ⟨(c3 i hi).1.1,?_,(c3 i hi).2⟩
    rw [Array.getD_eq_getD_getElem?]
    simp [(c3 i hi).1.1]
   intro hi
   rcases c4 i hi.1 with h | h
   ·exact absurd h hi.2.2
   simpa using h
  ·have hml:m<ops.size:=(Array.getElem?_eq_some_iff.1 hom).1
   rw [Array.getD_eq_getD_getElem?]
   simp [hml]
  ·intro i x hx
   rw [Array.getD_eq_getD_getElem?]at hx
   simp only[Array.getElem?_replicate]at hx
   split at hx <;> cases hx
  intro y hy
  have:=c7 y hy
  cases hy2:ops[y]? with
  | none=>rw [hy2]at this; cases this
  | some p=>rw [hy2]at this; exact ⟨p,rfl,by simpa using this⟩
def yfd (P:Program) (T:Tab) (ds:List (Option Tmp)) (t d:Nat) (l:List Oper) (e:Env) (S:Store) (K:Env→Store→Prop):Prop :=
 (T t).kd ≠ .none∧zbq false P T ds l (e.put (some d) (.ref S.obs.length S.tick 0)) (S.push t (T t).size (T t).zero) K
def zkg (P:Program) (T:Tab) (ds:List (Option Tmp)) (pd:List (Option Tmp)) (t d:Nat) (l2:List Oper):List Oper→Env→Store→(Env→Store→Prop)→Prop
 | [],e,S,K=>yfd P T ds t d l2 e S K
 | o::r,e,S,K =>
  if pd.contains o.dst then zdz o.op=true∧o.guard=none∧∃ v,(∀ S',pFl P T S' e o.op v)∧zkg P T ds pd t d l2 r (e.put o.dst v) S K
  else (zdz o.op=true∨yfd P T ds t d (o::(r++l2)) e S K)∧zbq false P T ds [o] e S fun e S=>zkg P T ds pd t d l2 r e S K
section
variable {ds pd:List (Option Tmp)} {t d:Nat} {o:Oper} {r l2:List Oper} {K:Env→Store→Prop}
theorem z5i (hp:pd.contains o.dst=false) (h:zdz o.op=true):zkg P T ds pd t d l2 (o::r) e S K=zbq false P T ds [o] e S fun e S=>zkg P T ds pd t d l2 r e S K:=by
 rw [zkg,hp,h]; simp
theorem zw9 (hp:pd.contains o.dst=false) (h1:(T t).kd ≠ .none) (h2:zbq false P T ds (o::(r++l2)) (e.put (some d) (.ref S.obs.length S.tick 0)) (S.push t (T t).size (T t).zero) K)
  (h3:zbq false P T ds [o] e S fun e S=>zkg P T ds pd t d l2 r e S K):zkg P T ds pd t d l2 (o::r) e S K:=by
 rw [zkg,hp]; exact ⟨.inr ⟨h1,h2⟩,h3⟩
theorem zjx {v:PV} (hp:pd.contains o.dst=true) (h:zdz o.op=true) (hg:o.guard=none) (hv:∀ S',pFl P T S' e o.op v) (k:zkg P T ds pd t d l2 r (e.put o.dst v) S K):zkg P T ds pd t d l2 (o::r) e S K:=by
 rw [zkg,hp]; exact ⟨h,hg,v,hv,k⟩
end
theorem zxa {all:List Oper} {effs pend:List Nat} {K:Env→Store→Prop} (heff:∀ i o,all[i]?=some o→effs.contains i=false→zdz o.op=true):∀ (r:List Nat) (l:List Oper) {e:Env} {S:Store},r.all (fun i => !pend.contains i)=true→r.map (all[·]?)=l.map some →
  zbq false P T (dsts all) l e S K→zdg P T all.toArray effs pend [] K r e S
 | [],l,e,S,_,hl,h=>by
  cases l with
  | nil=>exact h
  | cons o l=>simp at hl
 | i::r,l,e,S,hp,hl,h=>by
  cases l with
  | nil=>simp at hl
  | cons o l =>
   simp only[List.map_cons,List.cons.injEq]at hl
   obtain ⟨ho,hl⟩:=hl
   simp only[List.all_cons,qB,Bool.not_eq_true']at hp
   obtain ⟨hp1,hp2⟩:=hp
   unfold zbq at h
   simp only[zdg,List.getElem?_toArray,ho]
   rw [zjd]at h
   unfold zdw
   split at h
   ·rename_i hg
    rw [hg]
    simp only
    split
    ·exact zey (fun v S' hv=>⟨.inr (by intro o ho; cases ho),zxa heff r l hp2 hl hv⟩) (zjm h)
    rename_i hc
    have:=zj1 (heff i o ho (by simpa using hc)) h
    rw [zc0]at this ⊢
    obtain ⟨v,h1,h2⟩:=this
    exact ⟨v,h1,by rw [hp1]; trivial,zxa heff r l hp2 hl h2⟩
   ·rename_i hg; rw [hg]; exact zxa heff r l hp2 hl h
   exact h.elim
def okP (effs pend l2:List Nat):List Nat→Bool
 | []=>l2.all fun i => !pend.contains i
 | i::r=>(!effs.contains i || (i::(r++l2)).all fun i => !pend.contains i) && okP effs pend l2 r
theorem zqf {all:List Oper} {effs pend l2:List Nat} {m2:List Oper} {pd:List (Option Tmp)} {t d:Nat} {K:Env→Store→Prop} (heff:∀ i o,all[i]?=some o→(effs.contains i=false↔zdz o.op=true))
  (hpd:∀ i o,all[i]?=some o→pend.contains i=pd.contains o.dst) (h2:l2.map (all[·]?)=m2.map some):∀ (r:List Nat) (l:List Oper) {e:Env} {S:Store},okP effs pend l2 r=true→r.map (all[·]?)=l.map some →
  zkg P T (dsts all) pd t d m2 l e S K→zgw P T all.toArray effs pend t d K l2 r e S
 | [],l,e,S,hp,hl,h=>by
  cases l with
  | nil=>exact ⟨h.1,zxa (fun i o a b=>(heff i o a).1 b) l2 m2 hp h2 h.2⟩
  | cons o l=>simp at hl
 | i::r,l,e,S,hp,hl,h=>by
  cases l with
  | nil=>simp at hl
  | cons o l =>
   have hl0:=hl
   simp only[List.map_cons,List.cons.injEq]at hl
   obtain ⟨ho,hl⟩:=hl
   simp only[okP,qB,Bool.or_eq_true]at hp
   obtain ⟨hp1,hp2⟩:=hp
   simp only[zgw,List.getElem?_toArray,ho]
   rw [zkg,← hpd i o ho]at h
   cases hpi:pend.contains i with
   | true =>
    rw [hpi]at h
    simp only[if_true]at h
    obtain ⟨f1,f2,v,f3,f4⟩:=h
    have hne:=(heff i o ho).2 f1
    simp only[hne,qF,if_false,true_and]
    unfold zdw gdec
    rw [f2]
    simp only
    rw [zc0]
    exact ⟨v,f3 S,by simp only[if_true]; exact fun S' _=>f3 S',zqf heff hpd h2 r l hp2 hl f4⟩
   | false =>
    rw [hpi]at h
    simp only[qF,if_false]at h ⊢
    obtain ⟨h1,h3⟩:=h
    refine ⟨?_,?_⟩
    ·split
     ·rename_i hc
      rcases h1 with h1 | h1
      ·have:=(heff i o ho).2 h1; rw [hc]at this; cases this
      refine ⟨h1.1,zxa (fun i o a b=>(heff i o a).1 b) (i::(r++l2)) (o::(l++m2)) ?_ (by simp [ho,hl,h2]) h1.2⟩
      rcases hp1 with hp1 | hp1
      ·rw [hc]at hp1; cases hp1
      exact hp1
     trivial
    unfold zbq at h3
    rw [zjd]at h3
    unfold zdw
    split at h3
    ·rename_i hg
     rw [hg]
     simp only
     split
     ·exact zey (fun v S' hv=>zqf heff hpd h2 r l hp2 hl hv) (zjm h3)
     rename_i hc
     have:=zj1 ((heff i o ho).1 (by simpa using hc)) h3
     rw [zc0]at this ⊢
     obtain ⟨v,k1,k2⟩:=this
     exact ⟨v,k1,trivial,zqf heff hpd h2 r l hp2 hl k2⟩
    ·rename_i hg; rw [hg]; exact zqf heff hpd h2 r l hp2 hl h3
    exact h3.elim
theorem zig:∀ (l:List Oper) (k i:Nat) (o:Oper),l[i]?=some o→(k+i∈zcc l k↔zdz o.op=false)
 | [],_,_,_,h=>by simp at h
 | a::l,k,0,o,h=>by
  simp at h; subst h
  have hge:∀ (l:List Oper) (k j:Nat),j∈zcc l k→k≤j:=by
   intro l
   induction l with
   | nil=>intro k j h; simp [zcc]at h
   | cons b l ih =>
    intro k j h
    unfold zcc at h
    split at h
    ·have:=ih _ _ h; omega
    rcases List.mem_cons.1 h with h | h
    ·omega
    have:=ih _ _ h; omega
  unfold zcc
  split
  ·rename_i hf
   constructor
   ·intro h; have:=hge _ _ _ h; omega
   intro h; rw [hf]at h; cases h
  rename_i hf
  simp; simpa using hf
 | a::l,k,i+1,o,h=>by
  simp only[List.getElem?_cons_succ]at h
  have ih:=zig l (k+1) i o h
  unfold zcc
  split
  ·rw [show k+(i+1)=k+1+i by omega]; exact ih
  rw [show k+(i+1)=k+1+i by omega,List.mem_cons]
  constructor
  ·rintro (h | h)
   ·omega
   exact ih.1 h
  exact fun h => .inr (ih.2 h)
theorem W.region_mk {id:Nat} {l r1 r2:List Oper} (m t d:Nat) (l1 l2 pend:List Nat) (pd:List (Option Tmp)) (hc:z7o l.toArray l1 l2 (zcc l 0) pend m t d=true) (hp:okP (zcc l 0) pend l2 l1=true)
  (hpd:(l.zipIdx.all fun q=>pend.contains q.2 == pd.contains q.1.dst)=true) (hr:l1.map (l[·]?)=r1.map some) (hr2:l2.map (l[·]?)=r2.map some)
  (h:∀ K:Env→Store→Prop,(∀ e S,Q .normal e S→K e S)→zkg P T (dsts l) pd t d r2 r1 e S K):W P T (.region id l.toArray true) Q e S :=
 W.region_m _ _ _ pend m t d hc (zqf (pd:=pd) (fun i o ho=>by
  have:=zig l 0 i o ho
  rw [Nat.zero_add]at this
  cases hc:(zcc l 0).contains i with
  | true =>
   have h2:=this.1 (by simpa using hc)
   simp [h2]
  | false =>
   have h2:¬ zdz o.op=false:=fun h=>by have:=this.2 h; simp at hc; exact hc this
   simpa using h2) (fun i o ho=>by
  rw [List.all_eq_true]at hpd
  have:=hpd (o,i) (List.mem_of_getElem? (i:=i) (by simp [List.getElem?_zipIdx,ho]))
  simpa using this) hr2 _ _ hp hr (h _ fun _ _ h=>h))
end
end
section
section
variable {P:Program} {T:Tab} {e:Env} {S:Store} {Q:Exit→Env→Store→Prop} {b:Code}
def znn (P:Program) (T:Tab) (ds:List (Option Tmp)) (pd:List (Option Tmp)) (keep:List Nat) (l2:List Oper):List Oper→Env→Store→(Env→Store→Prop)→Prop
 | [],e,S,K=>zbq false P T ds l2 e S K
 | o::r,e,S,K =>
  if pd.contains o.dst then zdz o.op=true∧o.guard=none∧∃ v,(∀ S',Keeps keep S S'→zd2 T S' e o.op=some v)∧znn P T ds pd keep l2 r (e.put o.dst v) S K
  else zbq false P T ds [o] e S fun e' S'=>Keeps keep S S'∧znn P T ds pd keep l2 r e' S' K
theorem Keeps.refl (keep:List Nat) (S:Store):Keeps keep S S:=fun _ _=>rfl
theorem za3 {S S':Store}:Keeps [] S S'=True:=eq_true fun _ h=>by cases h
theorem zat {o:Nat} {k:List Nat} {S S':Store}:Keeps (o::k) S S'=(S'.obs[o]?=S.obs[o]?∧Keeps k S S'):=by
 apply propext; constructor
 ·exact fun h=>⟨h o (by simp),fun x hx=>h x (by simp [hx])⟩
 rintro ⟨h1,h2⟩ x hx
 rcases List.mem_cons.1 hx with rfl | hx
 ·exact h1
 exact h2 x hx
theorem zbj {ds pd:List (Option Tmp)} {keep:List Nat} {l2 r:List Oper} {o:Oper} {K:Env→Store→Prop} (h0:pd.contains o.dst=false)
  (h:zbq false P T ds [o] e S fun e' S'=>Keeps keep S S'∧znn P T ds pd keep l2 r e' S' K):znn P T ds pd keep l2 (o::r) e S K:=by
 rw [znn,if_neg (by rw [h0]; exact Bool.false_ne_true)]; exact h
theorem za4 {ds pd:List (Option Tmp)} {keep:List Nat} {l2 r:List Oper} {o:Oper} {K:Env→Store→Prop} (v:PV) (h0:pd.contains o.dst=true) (h1:zdz o.op=true) (h2:o.guard=none)
  (h3:∀ S',Keeps keep S S'→zd2 T S' e o.op=some v) (h:znn P T ds pd keep l2 r (e.put o.dst v) S K):znn P T ds pd keep l2 (o::r) e S K:=by
 rw [znn,if_pos h0]; exact ⟨h1,h2,v,h3,h⟩
theorem zgh {ds pd:List (Option Tmp)} {keep:List Nat} {l2:List Oper} {K:Env→Store→Prop} (h:zbq false P T ds l2 e S K):znn P T ds pd keep l2 [] e S K:=h
theorem zpf {all:List Oper} {pend:List Nat} {keep:List Nat} {K:Env→Store→Prop}:∀ (r:List Oper) (k:Nat) (e:Env) (S:Store),all.drop k=r →
  (∀ i,k≤i→i<all.length→(pend.contains i=true↔i∈zcc all 0))→zbq false P T (dsts all) r e S K→zdg P T all.toArray (zcc all 0) pend keep K (List.range' k r.length) e S
 | [],_,_,_,_,_,h=>h
 | o::r,k,e,S,hk,hp,h=>by
  have ho:all[k]?=some o:=by
   have:=congrArg (fun l=>l[0]?) hk
   simpa using this
  have hkl:k<all.length:=(List.getElem?_eq_some_iff.1 ho).1
  have hr:all.drop (k+1)=r:=by
   have:=congrArg (List.drop 1) hk
   simpa [List.drop_drop] using this
  have hp':∀ i,k+1≤i→i<all.length→(pend.contains i=true↔i∈zcc all 0):=fun i h1 h2=>hp i (by omega) h2
  unfold zbq at h
  simp only[List.length_cons,List.range'_succ,zdg,List.getElem?_toArray,ho]
  rw [zjd]at h
  unfold zdw
  split at h
  ·rename_i hg
   rw [hg]
   simp only
   split
   ·rename_i hc
    exact zey (fun v S' hv=>⟨.inl ((hp k (qR _) hkl).2 (by simpa using hc)),zpf r (k+1) _ _ hr hp' hv⟩) (zjm h)
   rename_i hc
   have hflat:=zhp all 0 k o ho (by simpa using hc)
   have:=zj1 hflat h
   rw [zc0]at this ⊢
   obtain ⟨v,h1,h2⟩:=this
   refine ⟨v,h1,?_,zpf r (k+1) _ _ hr hp' h2⟩
   rw [if_neg]
   ·trivial
   intro h9; exact hc (by simpa using (hp k (qR _) hkl).1 h9)
  ·rename_i hg; rw [hg]; exact zpf r (k+1) _ _ hr hp' h
  exact h.elim
theorem zqe {all l2:List Oper} {pd:List (Option Tmp)} {pend keep:List Nat} {K:Env→Store→Prop} (n1:Nat) (hn1:all.drop n1=l2) (hn:n1≤all.length) (hp2:∀ i,n1≤i→i<all.length→(pend.contains i=true↔i∈zcc all 0))
  (hp1:∀ i o,i<n1→all[i]?=some o→pend.contains i=pd.contains o.dst) :
  ∀ (r:List Oper) (k:Nat) (e:Env) (S:Store),all.drop k=r++l2→k+r.length=n1→znn P T (dsts all) pd keep l2 r e S K →
  zdg P T all.toArray (zcc all 0) pend keep K (List.range' k (r++l2).length) e S
 | [],k,e,S,hk,hkn,h=>by
  obtain rfl:k=n1:=by simpa using hkn
  exact zpf l2 k e S hn1 hp2 h
 | o::r,k,e,S,hk,hkn,h=>by
  have ho:all[k]?=some o:=by
   have:=congrArg (fun l=>l[0]?) hk
   simpa using this
  have hkl:k<all.length:=(List.getElem?_eq_some_iff.1 ho).1
  have hr:all.drop (k+1)=r++l2:=by
   have:=congrArg (List.drop 1) hk
   simpa [List.drop_drop] using this
  have hkn':k+1+r.length=n1:=by rw [List.length_cons]at hkn; omega
  have hkp:=hp1 k o (by rw [List.length_cons]at hkn; omega) ho
  rw [List.cons_append,List.length_cons,List.range'_succ]
  simp only[zdg,List.getElem?_toArray,ho]
  unfold znn at h
  split at h
  ·rename_i hpd
   obtain ⟨hf,hg,v,h1,h2⟩:=h
   unfold zdw gdec
   rw [hg]
   simp only
   have hce:¬ ((zcc all 0).contains k=true):=by
    intro hc
    have:=(zig all 0 k o ho).1 (by rw [Nat.zero_add]; simpa using hc)
    rw [hf]at this; cases this
   rw [if_neg hce,zc0]
   have hfl:∀ S',Keeps keep S S'→pFl P T S' e o.op v:=by
    intro S' hS'
    have:=h1 S' hS'
    have:z64 P T S' e o.op fun u=>u=v:=by
     revert this hf
     generalize o.op=op
     intro hf this
     have hpg:zi1 (zd2 T S' e op) fun u=>u=v:=by rw [this]; rfl
     cases op with
     | call c =>
      obtain ⟨cal,xs,ts⟩:=c
      cases cal with
      | value f=>simp [zdz]at hf
      | _=>exact hpg
     | _=>exact hpg
    obtain ⟨u,h3,rfl⟩:=zc0.1 this
    exact h3
   refine ⟨v,hfl S (Keeps.refl _ _),?_,zqe n1 hn1 hn hp2 hp1 r (k+1) _ _ hr hkn' h2⟩
   split
   ·exact hfl
   trivial
  rename_i hpd
  unfold zbq at h
  rw [zjd]at h
  unfold zdw
  split at h
  ·rename_i hg
   rw [hg]
   simp only
   split
   ·rename_i hc
    exact zey (fun v S' hv=>⟨.inr hv.1,zqe n1 hn1 hn hp2 hp1 r (k+1) _ _ hr hkn' hv.2⟩) (zjm h)
   rename_i hc
   have hflat:=zhp all 0 k o ho (by simpa using hc)
   have:=zj1 hflat h
   rw [zc0]at this ⊢
   obtain ⟨v,h1,h2⟩:=this
   refine ⟨v,h1,?_,zqe n1 hn1 hn hp2 hp1 r (k+1) _ _ hr hkn' h2.2⟩
   rw [if_neg (by rw [hkp]; exact hpd)]
   trivial
  ·rename_i hg; rw [hg]
   exact zqe n1 hn1 hn hp2 hp1 r (k+1) _ _ hr hkn' h.2
  exact h.elim
def ztv (all:List Oper) (pd:List (Option Tmp)) (n1:Nat):List Nat :=
 (List.range all.length).filter fun i=>if i<n1 then (match all[i]? with | some o=>pd.contains o.dst | none=>false) else (zcc all 0).contains i
theorem W.region_pk {id:Nat} {l:List Oper} (n1:Nat) (pd:List (Option Tmp)) (keep:List Nat) (hn:n1≤l.length) (hc:zhy l.toArray (List.range' 0 l.length) (zcc l 0) (ztv l pd n1)=true)
  (h:∀ K:Env→Store→Prop,(∀ e S,Q .normal e S→K e S)→znn P T (dsts l) pd keep (l.drop n1) (l.take n1) e S K):W P T (.region id l.toArray true) Q e S:=by
 refine W.region_any (List.range' 0 l.length) (zcc l 0) (ztv l pd n1) keep hc ?_
 have:=zqe (pend:=ztv l pd n1) n1 rfl hn ?_ ?_ (l.take n1) 0 e S (by simp) (by simp; omega) (h _ fun _ _ h=>h)
 ·rwa [List.take_append_drop]at this
 ·intro i h1 h2
  simp [ztv,Nat.not_lt.2 h1,h2]
 intro i o h1 h2
 have hil:=(List.getElem?_eq_some_iff.1 h2).1
 rw [Bool.eq_iff_iff]
 obtain ⟨_,rfl⟩:=List.getElem?_eq_some_iff.1 h2
 simp [ztv,h1,hil]
theorem W.seq_pk {id:Nat} {l:List Oper} (n1:Nat) (pd:List (Option Tmp)) (keep:List Nat) (hn:n1≤l.length) (hc:zhy l.toArray (List.range' 0 l.length) (zcc l 0) (ztv l pd n1)=true)
  (h:∀ K:Env→Store→Prop,(∀ e S,W P T b Q e S→K e S)→znn P T (dsts l) pd keep (l.drop n1) (l.take n1) e S K):W P T (.seq (.region id l.toArray true) b) Q e S :=
 W.seq (W.region_pk n1 pd keep hn hc fun K hK=>h K hK)
end
end
abbrev Txt:=List UInt8
def Sm (p:List Txt):Prop:=p.length≤2147483647∧∀ r∈p,r.length≤2147483647
theorem Sm.rows {p:List Txt} (h:Sm p):p.length<2147483648:=by have:=h.1; omega
theorem Sm.cols {p:List Txt} (h:Sm p):∀ r∈p,r.length<2147483648:=fun r hr=>by have:=h.2 r hr; omega
def zag:List Txt→Txt
 | []=>[]
 | a::_=>a
def zda (c:UInt8):Bool:=decide (97≤c.toNat) && decide (c.toNat≤122)
def zsn (w:Nat) (row:Txt):Bool:=decide (row.length=w) && decide (1≤row.length) && decide (row.length≤6) && row.all zda
def zcx (p:List Txt):Bool:=p.all (zsn (zag p).length) && decide (1≤p.length) && decide (p.length≤6)
def zgt (n:Int) (row:Txt):Int:=row.foldl (fun n c=>max n ((c.toNat:Int) - 97+1)) n
def zdt (p:List Txt):Int:=p.foldl zgt 0
def zd6 (s:List UInt8 × Txt) (c:UInt8):List UInt8 × Txt:=(if s.1.idxOf c=s.1.length then s.1++[c] else s.1,s.2++[UInt8.ofNat (97+s.1.idxOf c)])
def zq5 (o:List UInt8) (row:Txt):List UInt8 × Txt:=row.foldl zd6 (o,[])
def zow (s:List UInt8 × List Txt) (row:Txt):List UInt8 × List Txt:=((zq5 s.1 row).1,s.2++[(zq5 s.1 row).2])
def zvf (p:List Txt):List UInt8 × List Txt:=p.foldl zow ([],[])
def names (p:List Txt):List Txt:=(zvf p).2
def zkq (room:Int) (c:UInt8):Bool:=decide ((c.toNat:Int) - 97=room)
def zdl (room:Int) (n:Int) (row:Txt):Int:=row.foldl (fun n c=>if zkq room c then n+1 else n) n
def zf6 (p:List Txt) (room:Int):Int:=p.foldl (zdl room) 0
structure Box where
 top:Int
 left:Int
 low:Int
 right:Int
def zky (room:Int) (i:Nat) (b:Box) (q:UInt8 × Nat):Box:=if zkq room q.1 then ⟨min b.top i,min b.left q.2,max b.low i,max b.right q.2⟩ else b
def z7k (room:Int) (b:Box) (q:Txt × Nat):Box:=(q.1.zipIdx).foldl (zky room q.2) b
def zp9 (p:List Txt) (room:Int):Box:=p.zipIdx.foldl (z7k room) ⟨p.length,(zag p).length,-1,-1⟩
def ziv (p:List Txt) (room:Int):Int:=(zp9 p room).low - (zp9 p room).top+1
def ziy (p:List Txt) (room:Int):Int:=(zp9 p room).right - (zp9 p room).left+1
def zbk (p:List Txt):Bool:=zcx p && decide (names p=p) && decide (zdt p≤9) && (List.range (zdt p).toNat).all fun r=>decide (zf6 p r=ziv p r*ziy p r)
theorem zu3 {α:Type} [DecidableEq α]:∀ {l:List α} {c:α} {n:Nat},(∀ j,j<n→l[j]?≠some c)→(n=l.length∨l[n]?=some c)→l.idxOf c=n
 | [],c,n,_,h=>by rcases h with h | h <;> simp at h ⊢; omega
 | a::l,c,0,_,h=>by
  rcases h with h | h
  ·simp at h
  simp at h; simp [h,List.idxOf_cons]
 | a::l,c,n+1,h1,h2=>by
  have h0:a≠c:=fun e=>h1 0 (by omega) (by simp [e])
  have:=zu3 (l:=l) (c:=c) (n:=n) (fun j hj=>by simpa using h1 (j+1) (by omega)) (by simpa using h2)
  rw [List.idxOf_cons,this]
  have h0':(a == c)=false:=by simpa using h0
  rw [h0']; rfl
theorem ygr {α:Type} {l:List α} {i:Nat} {a:α} (h:l[i]?=some a):(l.take (i+1)).zipIdx=(l.take i).zipIdx++[(a,i)]:=by
 have hi:=(List.getElem?_eq_some_iff.1 h).1
 rw [tk h,List.zipIdx_append]
 simp [Nat.min_eq_left (Nat.le_of_lt hi)]
theorem zjj:∀ (row:Txt) (n:Int),0≤n→n≤200→0≤zgt n row∧zgt n row≤200
 | [],n,h1,h2=>⟨h1,h2⟩
 | c::row,n,h1,h2=>by
  have:=c.toNat_lt
  exact zjj row (max n ((c.toNat:Int) - 97+1)) (by omega) (by omega)
theorem zl9 (p:List Txt):0≤zdt p∧zdt p≤200:=by
 unfold zdt
 have:∀ (p:List Txt) (n:Int),0≤n→n≤200→0≤p.foldl zgt n∧p.foldl zgt n≤200:=by
  intro p
  induction p with
  | nil=>exact fun n h1 h2=>⟨h1,h2⟩
  | cons row p ih=>exact fun n h1 h2=>ih _ (zjj row n h1 h2).1 (zjj row n h1 h2).2
 exact this p 0 (by omega) (by omega)
theorem zhz (room:Int):∀ (row:Txt) (n:Int),n≤zdl room n row∧zdl room n row≤n+row.length
 | [],n=>⟨Int.le_refl _,by simp [zdl]⟩
 | c::row,n=>by
  have h:=zhz room row (if zkq room c then n+1 else n)
  have e:zdl room n (c::row)=zdl room (if zkq room c then n+1 else n) row:=rfl
  rw [e,List.length_cons]
  split at h <;> rename_i hc <;> simp only[hc,if_true,if_false,qF] <;> omega
theorem zu7 (room:Int) (p:List Txt) (h:∀ r∈p,r.length≤1000):0≤zf6 p room∧zf6 p room≤1000*p.length:=by
 have:∀ (p:List Txt) (n:Int),(∀ r∈p,r.length≤1000)→n≤p.foldl (zdl room) n∧p.foldl (zdl room) n≤n+1000*p.length:=by
  intro p
  induction p with
  | nil=>intro n _; simp
  | cons row p ih =>
   intro n h
   have h1:=zhz room row n
   have h2:=ih (zdl room n row) fun r hr=>h r (by simp [hr])
   have h3:=h row (by simp)
   simp only[List.foldl_cons,List.length_cons]
   omega
 have:=this p 0 h
 unfold zf6
 omega
def ziz (p:List Txt) (room:Int) (i:Nat):Box:=((p.take i).zipIdx).foldl (z7k room) ⟨p.length,(zag p).length,-1,-1⟩
def zmy (room:Int) (i:Nat) (b:Box) (row:Txt) (k:Nat):Box:=((row.take k).zipIdx).foldl (zky room i) b
theorem zlt {p:List Txt} {room:Int}:ziz p room p.length=zp9 p room:=by simp [ziz,zp9]
theorem zni {p:List Txt} {room:Int} {i:Nat} {row:Txt} (h:p[i]?=some row):ziz p room (i+1)=zmy room i (ziz p room i) row row.length:=by
 simp [ziz,ygr h,List.foldl_append,z7k,zmy]
theorem zj9 {room:Int} {i k:Nat} {b:Box} {row:Txt} {c:UInt8} (h:row[k]?=some c):zmy room i b row (k+1)=zky room i (zmy room i b row k) (c,k):=by
 simp [zmy,ygr h,List.foldl_append]
def Box.In (M:Nat) (b:Box):Prop := -1≤b.top∧b.top≤M ∧ -1≤b.left∧b.left≤M ∧ -1≤b.low∧b.low≤M ∧ -1≤b.right∧b.right≤M
theorem zrv {M:Nat} {room:Int} {i:Nat} (hi:i≤M) {row:Txt} (hr:row.length≤M):∀ (k:Nat) {b:Box},b.In M→k≤row.length→(zmy room i b row k).In M
 | 0,b,h,_=>by simpa [zmy] using h
 | k+1,b,h,hk=>by
  obtain ⟨c,hc,-⟩:=zaj (show k<row.length by omega)
  have ih:=zrv (room:=room) hi hr k h (by omega)
  rw [zj9 hc]
  unfold zky
  split
  ·simp only[Box.In]at ih ⊢; omega
  exact ih
theorem zkz {M:Nat} {p:List Txt} (room:Int) (hp:p.length≤M) (hr:∀ r∈p,r.length≤M):∀ i,i≤p.length→(ziz p room i).In M
 | 0,_=>by
  have:(zag p).length≤M:=by cases p with | nil=>exact Nat.zero_le _ | cons a p=>exact hr a (by simp)
  simp only[ziz,List.take_zero,List.zipIdx_nil,List.foldl_nil,Box.In]
  omega
 | i+1,h=>by
  obtain ⟨row,hrow,hm⟩:=zaj (show i<p.length by omega)
  rw [zni hrow]
  exact zrv (by omega) (hr row hm) _ (zkz room hp hr i (by omega)) (qR _)
theorem z7l {p:List Txt} (room:Int) (hp:p.length≤6) (hr:∀ r∈p,r.length≤6) : -8≤ziv p room∧ziv p room≤8 ∧ -8≤ziy p room∧ziy p room≤8 ∧ -64≤ziv p room*ziy p room∧ziv p room*ziy p room≤64:=by
 have h:=zkz room hp hr p.length (qR _)
 rw [zlt]at h
 simp only[Box.In]at h
 have h1:(ziv p room).natAbs≤8:=by unfold ziv; omega
 have h2:(ziy p room).natAbs≤8:=by unfold ziy; omega
 have h3:=Nat.mul_le_mul h1 h2
 rw [← Int.natAbs_mul]at h3
 omega
theorem zbo {p:List Txt} (h:zcx p=true):0<p.length∧p.length≤6∧∀ r∈p,r.length≤6:=by
 unfold zcx at h
 simp only[qB,decide_eq_true_eq,List.all_eq_true]at h
 refine ⟨by omega,by omega,fun r hr=>?_⟩
 have:=h.1.1 r hr
 simp only[zsn,qB,decide_eq_true_eq]at this
 omega
theorem zcf {p:List Txt} {row:Txt} (h:p[0]?=some row):zag p=row:=by
 cases p with
 | nil=>simp at h
 | cons a p=>simpa [zag] using h
theorem zpi {p:List Txt} {i:Nat} {row:Txt} (h:p[i]?=some row) (hb:zsn (zag p).length row=false):zcx p=false:=by
 unfold zcx
 have:p.all (zsn (zag p).length)=false:=by
  rw [List.all_eq_false]
  exact ⟨row,List.mem_of_getElem? h,by simp [hb]⟩
 rw [this]; rfl
theorem z8u {p:List Txt} (h:p.all (zsn (zag p).length)=true):zcx p=(decide (1≤p.length) && decide (p.length≤6)):=by
 unfold zcx; rw [h]; rfl
theorem zsr {α:Type} {f:α→Bool} {l:List α} {i:Nat} {a:α} (h:l[i]?=some a) (h1:(l.take i).all f=true) (h2:f a=true):(l.take (i+1)).all f=true:=by
 rw [tk h,List.all_append,h1]; simp [h2]
theorem zm0 {w k:Nat} {row:Txt} {c:UInt8} (h:row[k]?=some c) (hb:zda c=false):zsn w row=false:=by
 unfold zsn
 have:row.all zda=false:=by
  rw [List.all_eq_false]
  exact ⟨c,List.mem_of_getElem? h,by simp [hb]⟩
 rw [this]; simp
theorem yj6 (n:Nat):(decide ((1:Int)≤n) && decide ((n:Int)≤6))=(decide (1≤n) && decide (n≤6)):=by
 congr 1 <;> (apply decide_eq_decide.2; omega)
def zlb (o:List UInt8) (row:Txt) (k:Nat):List UInt8 × Txt:=(row.take k).foldl zd6 (o,[])
def zfh (p:List Txt) (i:Nat):List UInt8 × List Txt:=(p.take i).foldl zow ([],[])
theorem zj8 {o:List UInt8} {row:Txt} {k:Nat} {c:UInt8} (h:row[k]?=some c):zlb o row (k+1)=zd6 (zlb o row k) c:=by
 simp [zlb,tk h,List.foldl_append]
theorem zjv {p:List Txt} {i:Nat} {row:Txt} (h:p[i]?=some row):zfh p (i+1)=((zlb (zfh p i).1 row row.length).1,(zfh p i).2++[(zlb (zfh p i).1 row row.length).2]):=by
 simp [zfh,tk h,List.foldl_append,zow,zlb,zq5]
theorem zwr {p:List Txt}:(zfh p p.length).2=names p:=by simp [zfh,names,zvf]
theorem zrt {o:List UInt8} {row:Txt}:∀ {k:Nat},k≤row.length→(zlb o row k).2.length=k∧(zlb o row k).1.length≤o.length+k
 | 0,_=>⟨rfl,qR _⟩
 | k+1,h=>by
  obtain ⟨c,hc,-⟩:=zaj (show k<row.length by omega)
  have ih:=zrt (o:=o) (row:=row) (k:=k) (by omega)
  rw [zj8 hc]
  unfold zd6
  simp only[List.length_append,List.length_singleton]
  split
  ·simp only[List.length_append,List.length_singleton]; omega
  omega
theorem z9n:∀ {n:Nat} {l:List Nat},l.Nodup→(∀ x∈l,x<n)→l.length≤n
 | 0,[],_,_=>qR _
 | 0,a::l,_,h=>absurd (h a (by simp)) (by omega)
 | n+1,l,hn,h=>by
  have h1:=z9n (n:=n) (hn.erase n) fun x hx=>by
   have h2:=h x (List.mem_of_mem_erase hx)
   have:x≠n:=fun e=>by subst e; exact absurd hx (List.Nodup.not_mem_erase hn)
   omega
  have h2:=List.length_erase (a:=n) (l:=l)
  split at h2 <;> omega
theorem yky {l:List UInt8} (h:l.Nodup):l.length≤256:=by
 have:=z9n (n:=256) (l:=l.map UInt8.toNat) (List.pairwise_map.2 (h.imp fun h e=>h (UInt8.toNat_inj.1 e))) fun x hx=>by
  obtain ⟨c,-,rfl⟩:=List.mem_map.1 hx
  exact c.toNat_lt
 simpa using this
theorem yhl {l:List UInt8} {c:UInt8} (h:l.idxOf c=l.length):c ∉ l:=fun hm=>by have:=List.idxOf_lt_length_of_mem hm; omega
theorem z1i {s:List UInt8 × Txt} {c:UInt8} (h:s.1.Nodup):(zd6 s c).1.Nodup:=by
 unfold zd6
 simp only
 split
 ·rename_i e
  exact List.nodup_append.2 ⟨h,by simp,fun a ha b hb e2=>by simp only[List.mem_singleton]at hb; subst hb; subst e2; exact yhl e ha⟩
 exact h
theorem z4f {o:List UInt8} (h:o.Nodup) {row:Txt}:∀ {k:Nat},k≤row.length→(zlb o row k).1.Nodup
 | 0,_=>h
 | k+1,hk=>by
  obtain ⟨c,hc,-⟩:=zaj (show k<row.length by omega)
  rw [zj8 hc]
  exact z1i (z4f h (by omega))
theorem z2h {p:List Txt}:∀ {i:Nat},i≤p.length→(zfh p i).1.Nodup
 | 0,_=>by simp [zfh]
 | i+1,h=>by
  obtain ⟨row,hrow,hm⟩:=zaj (show i<p.length by omega)
  rw [zjv hrow]
  exact z4f (z2h (by omega)) (qR _)
theorem zp3 {p:List Txt}:∀ {i:Nat},i≤p.length→(zfh p i).2.length=i∧(zfh p i).1.length≤256
 | 0,_=>⟨rfl,by simp [zfh]⟩
 | i+1,h=>by
  obtain ⟨row,hrow,hm⟩:=zaj (show i<p.length by omega)
  have ih:=zp3 (p:=p) (i:=i) (by omega)
  have h1:=yky (z2h h)
  refine ⟨?_,h1⟩
  rw [zjv hrow]
  simp only[List.length_append,List.length_singleton]
  omega
theorem ydx {s:List UInt8 × Txt} {c:UInt8} {a:Nat} (ha:s.1.idxOf c=a) (hl:a=s.1.length):zd6 s c=(s.1++[c],s.2++[UInt8.ofNat (97+a)]):=by
 simp [zd6,ha,hl]
theorem ydy {s:List UInt8 × Txt} {c:UInt8} {a:Nat} (ha:s.1.idxOf c=a) (hl:a<s.1.length):zd6 s c=(s.1,s.2++[UInt8.ofNat (97+a)]):=by
 have:¬ a=s.1.length:=by omega
 simp [zd6,ha,this]
theorem zsq {p:List Txt} (hr:∀ r∈p,r.length≤2147483647):∀ {i:Nat},i≤p.length→∀ r∈(zfh p i).2,r.length≤2147483647
 | 0,_,r,h=>by simp [zfh]at h
 | i+1,hi,r,h=>by
  obtain ⟨row,hrow,hm⟩:=zaj (show i<p.length by omega)
  rw [zjv hrow]at h
  rcases List.mem_append.1 h with h | h
  ·exact zsq hr (by omega) r h
  have:=(zrt (o:=(zfh p i).1) (row:=row) (qR _)).1
  have h2:=hr row hm
  simp only[List.mem_singleton]at h
  rw [h]; omega
theorem Sm.names {p:List Txt} (h:Sm p):Sm (names p):=by
 rw [← zwr]
 exact ⟨by rw [(zp3 (qR _)).1]; exact h.1,zsq h.2 (qR _)⟩
def ya2 (p:List Txt) (r:Nat):Bool:=decide (zf6 p r=ziv p r*ziy p r)
theorem zpo {p:List Txt} (h:zcx p=false∨decide (names p=p)=false∨9<zdt p):zbk p=false:=by
 unfold zbk
 rcases h with h | h | h
 ·simp [h]
 ·rw [h]; simp
 have:decide (zdt p≤9)=false:=by simp; omega
 rw [this]; simp
theorem z36 {p:List Txt} (h1:zcx p=true) (h2:decide (names p=p)=true) (h3:zdt p≤9) {R:Nat} (hR:zdt p=R):zbk p=(List.range R).all (ya2 p):=by
 have h4:decide (zdt p≤9)=true:=by simpa using h3
 unfold zbk
 rw [h1,h2,h4,hR]
 rfl
def yh5 (cs:List UInt8) (cx:UInt8) (y:Nat):Bool:=(cs.take y).all fun z=>decide (cx≠z)
def yh4 (cs:List UInt8) (x:Nat):Bool :=
 match cs[x]? with
 | some cx=>yh5 cs cx x
 | none=>false
def zlw (cs:List UInt8):Nat→Int
 | 0=>0
 | x+1=>zlw cs x+if yh4 cs x then 1 else 0
theorem zw7 (cs:List UInt8):∀ x,0≤zlw cs x∧zlw cs x≤x
 | 0=>by simp [zlw]
 | x+1=>by have:=zw7 cs x; unfold zlw; split <;> omega
def znu (p:List Txt) (i k:Nat):Int :=
 match p[i - 1]?,p[i]? with
 | some r1,some r2 =>
  match r1[k - 1]?,r1[k]?,r2[k - 1]?,r2[k]? with
  | some a,some b,some c,some d=>zlw [a,b,c,d] 4
  | _,_,_,_=>0
 | _,_=>0
def zix (p:List Txt) (many:Int) (i:Nat):Nat→Int
 | 0=>0
 | k+1=>zix p many i k+if 1≤k∧znu p i k=many then 1 else 0
def zsl (p:List Txt) (many:Int) (w:Nat):Nat→Int
 | 0=>0
 | i+1=>zsl p many w i+if 1≤i then zix p many i w else 0
theorem zht (p:List Txt) (many:Int) (i:Nat):∀ k,0≤zix p many i k∧zix p many i k≤k
 | 0=>by simp [zix]
 | k+1=>by have:=zht p many i k; unfold zix; split <;> omega
def points (p:List Txt) (many:Int):Int:=zsl p many (zag p).length p.length
def zcd (p:List Txt):Bool:=zbk p && decide (points p 4=0)
theorem zew {p:List Txt} (h:zcx p=true) {i:Nat} {row:Txt} (hr:p[i]?=some row):row.length=(zag p).length:=by
 unfold zcx at h
 simp only[qB,decide_eq_true_eq,List.all_eq_true]at h
 have:=h.1.1 row (List.mem_of_getElem? hr)
 simp only[zsn,qB,decide_eq_true_eq]at this
 omega
theorem zde {p:List Txt} (h:zbk p=true):zcx p=true:=by
 unfold zbk at h; simp only[qB]at h; exact h.1.1.1
theorem zfr {p:List Txt} (h:zcx p=true) {i:Nat} {row:Txt} (hr:p[i]?=some row):1≤row.length:=by
 unfold zcx at h
 simp only[qB,decide_eq_true_eq,List.all_eq_true]at h
 have:=h.1.1 row (List.mem_of_getElem? hr)
 simp only[zsn,qB,decide_eq_true_eq]at this
 omega
def zo6 (p:List Txt) (k i:Nat):Txt:=(p.take i).map fun row=>row.getD k 0
def zkj (p:List Txt) (k:Nat):List Txt:=(List.range k).map fun j=>zo6 p j p.length
def zcq (p:List Txt):List Txt:=zkj p (zag p).length
theorem z5e {p:List Txt} {k i:Nat} {row:Txt} {c:UInt8} (h:p[i]?=some row) (hc:row[k]?=some c):zo6 p k (i+1)=zo6 p k i++[c]:=by
 simp [zo6,tk h,List.getD_eq_getElem?_getD,hc]
theorem zh3 {p:List Txt} {k i:Nat} (h:i≤p.length):(zo6 p k i).length=i:=by simp [zo6]; omega
theorem z0m {p:List Txt} {k:Nat}:zkj p (k+1)=zkj p k++[zo6 p k p.length]:=by simp [zkj,qS]
theorem zjw {p:List Txt} {k:Nat}:(zkj p k).length=k:=by simp [zkj]
def zsm (l:List Int) (x:Int):List Int:=if l.getLast?=some x then l else l++[x]
theorem yed {l:List Int} {x:Int}:(zsm l x).length≤l.length+1:=by
 unfold zsm; split <;> simp
def zaf (p:List Txt) (i k:Nat):Int:=(((p[i]?.getD [])[k]?.getD 0).toNat:Int) - 97
theorem zcy {p:List Txt} {i k:Nat} {row:Txt} {c:UInt8} (h:p[i]?=some row) (hc:row[k]?=some c):zaf p i k=(c.toNat:Int) - 97:=by
 simp [zaf,h,hc]
def ybh (p:List Txt) (kind line fr:Nat):Nat→List Int × List Int
 | 0=>([],[])
 | n+1 =>
  let s:=ybh p kind line fr n
  if kind=0 then (zsm s.1 (zaf p (fr+n) (line - 1)),zsm s.2 (zaf p (fr+n) line))
  else (zsm s.1 (zaf p (line - 1) (fr+n)),zsm s.2 (zaf p line (fr+n)))
def zgb (p:List Txt) (k i:Nat):Bool:=decide (i<p.length) && decide (zaf p i (k - 1)≠zaf p i k)
def zeq (wall:Bool) (k i:Nat) (s:Int × List (List Int)):Int × List (List Int) :=
 let f:=if wall && decide (s.1<0) then (i:Int) else s.1
 if !wall && decide (0≤f) then (-1,s.2++[[(k:Int),f,i - f]]) else (f,s.2)
def zeh (p:List Txt) (k:Nat) (s0:List (List Int)):Nat→Int × List (List Int)
 | 0=>(-1,s0)
 | i+1=>zeq (zgb p k i) k i (zeh p k s0 i)
def zc5 (p:List Txt):Nat→List (List Int)
 | 0=>[]
 | k+1=>if 1≤k then (zeh p k (zc5 p k) (p.length+1)).2 else zc5 p k
def uprights (p:List Txt):List (List Int):=zc5 p (zag p).length
theorem z60 {w:Bool} {k i:Nat} {s:Int × List (List Int)}:(zeq w k i s).2.length≤s.2.length+1:=by
 unfold zeq; simp only; repeat' split
 all_goals simp
theorem zwc (p:List Txt) (k:Nat) (s0:List (List Int)):∀ i,(zeh p k s0 i).2.length≤s0.length+i
 | 0=>qR _
 | i+1=>by have:=zwc p k s0 i; have h:=z60 (w:=zgb p k i) (k:=k) (i:=i) (s:=zeh p k s0 i); unfold zeh; omega
theorem znc (p:List Txt):∀ k,(zc5 p k).length≤(p.length+1)*k
 | 0=>qR _
 | k+1=>by
  have:=znc p k
  have h:=zwc p k (zc5 p k) (p.length+1)
  unfold zc5
  rw [Nat.mul_succ]
  split <;> omega
theorem zke {p:List Txt} {k:Nat} (h:1≤k):zc5 p (k+1)=(zeh p k (zc5 p k) (p.length+1)).2:=by rw [zc5,if_pos h]
theorem zuc (p:List Txt) (k:Nat) (s0:List (List Int)):∀ i,-1≤(zeh p k s0 i).1∧(zeh p k s0 i).1≤i
 | 0=>by simp [zeh]
 | i+1=>by
  have:=zuc p k s0 i
  unfold zeh zeq
  simp only
  repeat' split
  all_goals simp only[Int.natCast_add,Int.natCast_one]
  all_goals omega
theorem ye0 {a b:UInt8}:(a=b)=((a.toNat:Int)=b.toNat):=by
 apply propext; constructor
 ·rintro rfl; rfl
 intro h; exact UInt8.toNat_inj.1 (by omega)
theorem zuo {a b:Int}:(a != b) = !decide (a=b):=by by_cases h:a=b <;> simp [h]
theorem znt {S:Store} {k:Nat} (l:List (List Int)):(l.map eInts).mapM (reify S true (k+1))=some (l.map eInts) :=
 zb7 fun x hx=>by obtain ⟨a,_,rfl⟩:=List.mem_map.1 hx; simp [eInts,reify]
def yi3:List (Nat × TI):=[
 (1,⟨.func,1,8,[.nilf]⟩),
 (2,⟨.int .i64,1,8,[.int .i64 0]⟩),
 (3,⟨.int .i64,1,8,[.int .i64 0]⟩),
 (4,⟨.bool,1,1,[.bool false]⟩),
 (5,⟨.int .u8,1,1,[.int .u8 0]⟩),
 (6,⟨.int .u8,1,1,[.int .u8 0]⟩),
 (7,⟨.struct [(0,2),(1,3),(2,4),(3,6)],4,24,[.int .i64 0,.int .i64 0,.bool false,.int .u8 0]⟩),
 (8,⟨.struct [(0,2),(1,3),(2,4),(3,6)],4,24,[.int .i64 0,.int .i64 0,.bool false,.int .u8 0]⟩),
 (9,⟨.str,1,16,[.str []]⟩),
 (10,⟨.str,1,16,[.str []]⟩),
 (11,⟨.str,1,16,[.str []]⟩),
 (12,⟨.int .u64,1,8,[.int .u64 0]⟩),
 (13,⟨.struct [(0,9),(1,12)],2,24,[.str [],.int .u64 0]⟩),
 (14,⟨.struct [(0,9),(1,12)],2,24,[.str [],.int .u64 0]⟩),
 (15,⟨.ptr 172,1,8,[.nilp]⟩),
 (16,⟨.ptr 175,1,8,[.nilp]⟩),
 (17,⟨.ptr 182,1,8,[.nilp]⟩),
 (18,⟨.struct [(0,17)],1,8,[.nilp]⟩),
 (19,⟨.struct [(0,17)],1,8,[.nilp]⟩),
 (21,⟨.int .i32,1,4,[.int .i32 0]⟩),
 (22,⟨.slice 9,1,24,[.nils]⟩),
 (23,⟨.func,1,8,[.nilf]⟩),
 (24,⟨.func,1,8,[.nilf]⟩),
 (26,⟨.func,1,8,[.nilf]⟩),
 (27,⟨.func,1,8,[.nilf]⟩),
 (28,⟨.slice 3,1,24,[.nils]⟩),
 (30,⟨.func,1,8,[.nilf]⟩),
 (31,⟨.func,1,8,[.nilf]⟩),
 (33,⟨.func,1,8,[.nilf]⟩),
 (34,⟨.func,1,8,[.nilf]⟩),
 (35,⟨.ptr 42,1,8,[.nilp]⟩),
 (37,⟨.func,1,8,[.nilf]⟩),
 (38,⟨.slice 28,1,24,[.nils]⟩),
 (39,⟨.slice 28,1,24,[.nils]⟩),
 (40,⟨.slice 56,1,24,[.nils]⟩),
 (41,⟨.struct [(0,39),(1,40)],2,48,[.nils,.nils]⟩),
 (42,⟨.struct [(0,39),(1,40)],2,48,[.nils,.nils]⟩),
 (43,⟨.func,1,8,[.nilf]⟩),
 (44,⟨.func,1,8,[.nilf]⟩),
 (46,⟨.func,1,8,[.nilf]⟩),
 (47,⟨.func,1,8,[.nilf]⟩),
 (48,⟨.func,1,8,[.nilf]⟩),
 (50,⟨.func,1,8,[.nilf]⟩),
 (51,⟨.func,1,8,[.nilf]⟩),
 (52,⟨.func,1,8,[.nilf]⟩),
 (53,⟨.func,1,8,[.nilf]⟩),
 (54,⟨.func,1,8,[.nilf]⟩),
 (55,⟨.struct [(0,3),(1,3),(2,3),(3,3)],4,32,[.int .i64 0,.int .i64 0,.int .i64 0,.int .i64 0]⟩),
 (56,⟨.struct [(0,3),(1,3),(2,3),(3,3)],4,32,[.int .i64 0,.int .i64 0,.int .i64 0,.int .i64 0]⟩),
 (57,⟨.struct [(0,35),(1,56)],5,40,[.nilp,.int .i64 0,.int .i64 0,.int .i64 0,.int .i64 0]⟩),
 (58,⟨.struct [(0,35),(1,56)],5,40,[.nilp,.int .i64 0,.int .i64 0,.int .i64 0,.int .i64 0]⟩),
 (60,⟨.func,1,8,[.nilf]⟩),
 (61,⟨.func,1,8,[.nilf]⟩),
 (62,⟨.func,1,8,[.nilf]⟩),
 (63,⟨.func,1,8,[.nilf]⟩),
 (64,⟨.slice 124,1,24,[.nils]⟩),
 (65,⟨.slice 124,1,24,[.nils]⟩),
 (66,⟨.struct [(0,65),(1,65)],2,48,[.nils,.nils]⟩),
 (67,⟨.struct [(0,65),(1,65)],2,48,[.nils,.nils]⟩),
 (69,⟨.func,1,8,[.nilf]⟩),
 (70,⟨.func,1,8,[.nilf]⟩),
 (71,⟨.func,1,8,[.nilf]⟩),
 (72,⟨.slice 5,1,24,[.nils]⟩),
 (73,⟨.func,1,8,[.nilf]⟩),
 (74,⟨.func,1,8,[.nilf]⟩),
 (75,⟨.func,1,8,[.nilf]⟩),
 (76,⟨.func,1,8,[.nilf]⟩),
 (77,⟨.func,1,8,[.nilf]⟩),
 (78,⟨.func,1,8,[.nilf]⟩),
 (80,⟨.func,1,8,[.nilf]⟩),
 (82,⟨.func,1,8,[.nilf]⟩),
 (83,⟨.func,1,8,[.nilf]⟩),
 (84,⟨.func,1,8,[.nilf]⟩),
 (85,⟨.func,1,8,[.nilf]⟩),
 (86,⟨.struct [(0,4),(1,58),(6,58)],11,88,[.bool false,.nilp,.int .i64 0,.int .i64 0,.int .i64 0,.int .i64 0,.nilp,.int .i64 0,.int .i64 0,.int .i64 0,.int .i64 0]⟩),
 (87,⟨.struct [(0,4),(1,58),(6,58)],11,88,[.bool false,.nilp,.int .i64 0,.int .i64 0,.int .i64 0,.int .i64 0,.nilp,.int .i64 0,.int .i64 0,.int .i64 0,.int .i64 0]⟩),
 (89,⟨.func,1,8,[.nilf]⟩),
 (90,⟨.func,1,8,[.nilf]⟩),
 (91,⟨.slice 94,1,24,[.nils]⟩),
 (92,⟨.func,1,8,[.nilf]⟩),
 (93,⟨.struct [(0,4),(1,3),(2,3),(3,3)],4,32,[.bool false,.int .i64 0,.int .i64 0,.int .i64 0]⟩),
 (94,⟨.struct [(0,4),(1,3),(2,3),(3,3)],4,32,[.bool false,.int .i64 0,.int .i64 0,.int .i64 0]⟩),
 (95,⟨.func,1,8,[.nilf]⟩),
 (96,⟨.func,1,8,[.nilf]⟩),
 (97,⟨.func,1,8,[.nilf]⟩),
 (98,⟨.func,1,8,[.nilf]⟩),
 (99,⟨.func,1,8,[.nilf]⟩),
 (100,⟨.func,1,8,[.nilf]⟩),
 (101,⟨.func,1,8,[.nilf]⟩),
 (102,⟨.func,1,8,[.nilf]⟩),
 (103,⟨.func,1,8,[.nilf]⟩),
 (104,⟨.arr 4 3,4,32,[.int .i64 0,.int .i64 0,.int .i64 0,.int .i64 0]⟩),
 (105,⟨.func,1,8,[.nilf]⟩),
 (106,⟨.func,1,8,[.nilf]⟩),
 (107,⟨.ptr 109,1,8,[.nilp]⟩),
 (108,⟨.struct [(0,107),(1,72)],2,32,[.nilp,.nils]⟩),
 (109,⟨.struct [(0,107),(1,72)],2,32,[.nilp,.nils]⟩),
 (112,⟨.func,1,8,[.nilf]⟩),
 (113,⟨.func,1,8,[.nilf]⟩),
 (114,⟨.func,1,8,[.nilf]⟩),
 (115,⟨.func,1,8,[.nilf]⟩),
 (116,⟨.func,1,8,[.nilf]⟩),
 (117,⟨.func,1,8,[.nilf]⟩),
 (118,⟨.func,1,8,[.nilf]⟩),
 (119,⟨.func,1,8,[.nilf]⟩),
 (120,⟨.int .u64,1,8,[.int .u64 0]⟩),
 (121,⟨.func,1,8,[.nilf]⟩),
 (122,⟨.func,1,8,[.nilf]⟩),
 (123,⟨.func,1,8,[.nilf]⟩),
 (124,⟨.slice 4,1,24,[.nils]⟩),
 (125,⟨.func,1,8,[.nilf]⟩),
 (126,⟨.func,1,8,[.nilf]⟩),
 (127,⟨.func,1,8,[.nilf]⟩),
 (128,⟨.func,1,8,[.nilf]⟩),
 (129,⟨.func,1,8,[.nilf]⟩),
 (131,⟨.func,1,8,[.nilf]⟩),
 (132,⟨.func,1,8,[.nilf]⟩),
 (133,⟨.func,1,8,[.nilf]⟩),
 (134,⟨.func,1,8,[.nilf]⟩),
 (135,⟨.map 3 3,1,8,[.nilm]⟩),
 (136,⟨.ptr 5,1,8,[.nilp]⟩),
 (137,⟨.func,1,8,[.nilf]⟩),
 (138,⟨.int .i64,1,8,[.int .i64 0]⟩),
 (140,⟨.func,1,8,[.nilf]⟩),
 (141,⟨.func,1,8,[.nilf]⟩),
 (142,⟨.func,1,8,[.nilf]⟩),
 (143,⟨.func,1,8,[.nilf]⟩),
 (144,⟨.func,1,8,[.nilf]⟩),
 (145,⟨.int .u32,1,4,[.int .u32 0]⟩),
 (146,⟨.func,1,8,[.nilf]⟩),
 (147,⟨.int .u64,1,8,[.int .u64 0]⟩),
 (148,⟨.func,1,8,[.nilf]⟩),
 (149,⟨.func,1,8,[.nilf]⟩),
 (150,⟨.func,1,8,[.nilf]⟩),
 (151,⟨.func,1,8,[.nilf]⟩),
 (152,⟨.func,1,8,[.nilf]⟩),
 (154,⟨.func,1,8,[.nilf]⟩),
 (155,⟨.int .u64,1,8,[.int .u64 0]⟩),
 (156,⟨.func,1,8,[.nilf]⟩),
 (157,⟨.func,1,8,[.nilf]⟩),
 (158,⟨.func,1,8,[.nilf]⟩),
 (159,⟨.ptr 3,1,8,[.nilp]⟩),
 (160,⟨.func,1,8,[.nilf]⟩),
 (161,⟨.func,1,8,[.nilf]⟩),
 (162,⟨.func,1,8,[.nilf]⟩),
 (163,⟨.func,1,8,[.nilf]⟩),
 (164,⟨.func,1,8,[.nilf]⟩),
 (165,⟨.func,1,8,[.nilf]⟩),
 (166,⟨.ptr 155,1,8,[.nilp]⟩),
 (167,⟨.func,1,8,[.nilf]⟩),
 (168,⟨.func,1,8,[.nilf]⟩),
 (169,⟨.func,1,8,[.nilf]⟩),
 (170,⟨.func,1,8,[.nilf]⟩),
 (171,⟨.struct [(0,17),(1,17),(2,17),(3,9)],4,40,[.nilp,.nilp,.nilp,.str []]⟩),
 (172,⟨.struct [(0,17),(1,17),(2,17),(3,9)],4,40,[.nilp,.nilp,.nilp,.str []]⟩),
 (173,⟨.arr 0 16,0,0,[]⟩),
 (174,⟨.struct [(0,173)],0,0,[]⟩),
 (175,⟨.struct [(0,173)],0,0,[]⟩),
 (176,⟨.int .u8,1,1,[.int .u8 0]⟩),
 (177,⟨.int .u8,1,1,[.int .u8 0]⟩),
 (178,⟨.func,1,8,[.nilf]⟩),
 (179,⟨.int .i32,1,4,[.int .i32 0]⟩),
 (180,⟨.int .i32,1,4,[.int .i32 0]⟩),
 (181,⟨.struct [(0,12),(1,12),(2,145),(3,176),(4,5),(5,5),(6,177),(7,178),(8,136),(9,179),(10,180)],11,48,[.int .u64 0,.int .u64 0,.int .u32 0,.int .u8 0,.int .u8 0,.int .u8 0,.int .u8 0,.nilf,.nilp,.int .i32 0,.int .i32 0]⟩),
 (182,⟨.struct [(0,12),(1,12),(2,145),(3,176),(4,5),(5,5),(6,177),(7,178),(8,136),(9,179),(10,180)],11,48,[.int .u64 0,.int .u64 0,.int .u32 0,.int .u8 0,.int .u8 0,.int .u8 0,.int .u8 0,.nilf,.nilp,.int .i32 0,.int .i32 0]⟩)]
def tab:Tab:=lk yi3
theorem zav:zby Tryz.prog tab:=ykr (by kernel_rfl)
theorem mixed:Tryz.prog.follows .mixedOrders=true:=Checked.mixed Tryz.checked
theorem zaa:tab 3=⟨.int .i64,1,8,[.int .i64 0]⟩:=by kernel_rfl
theorem zad:tab 4=⟨.bool,1,1,[.bool false]⟩:=by kernel_rfl
theorem zhv:tab 5=⟨.int .u8,1,1,[.int .u8 0]⟩:=by kernel_rfl
theorem zal:tab 9=⟨.str,1,16,[.str []]⟩:=by kernel_rfl
theorem yi6:tab 21=⟨.int .i32,1,4,[.int .i32 0]⟩:=by kernel_rfl
theorem ty5:tab 22=⟨.slice 9,1,24,[.nils]⟩:=by kernel_rfl
theorem zab:tab 28=⟨.slice 3,1,24,[.nils]⟩:=by kernel_rfl
theorem ty7:tab 35=⟨.ptr 42,1,8,[.nilp]⟩:=by kernel_rfl
theorem ty1:tab 38=⟨.slice 28,1,24,[.nils]⟩:=by kernel_rfl
theorem zcl:tab 39=⟨.slice 28,1,24,[.nils]⟩:=by kernel_rfl
theorem ty3:tab 40=⟨.slice 56,1,24,[.nils]⟩:=by kernel_rfl
theorem zep:tab 41=⟨.struct [(0,39),(1,40)],2,48,[.nils,.nils]⟩:=by kernel_rfl
theorem zeo:tab 42=⟨.struct [(0,39),(1,40)],2,48,[.nils,.nils]⟩:=by kernel_rfl
theorem za8:tab 55=⟨.struct [(0,3),(1,3),(2,3),(3,3)],4,32,[.int .i64 0,.int .i64 0,.int .i64 0,.int .i64 0]⟩:=by kernel_rfl
theorem za7:tab 56=⟨.struct [(0,3),(1,3),(2,3),(3,3)],4,32,[.int .i64 0,.int .i64 0,.int .i64 0,.int .i64 0]⟩:=by kernel_rfl
theorem zbs:tab 57=⟨.struct [(0,35),(1,56)],5,40,[.nilp,.int .i64 0,.int .i64 0,.int .i64 0,.int .i64 0]⟩:=by kernel_rfl
theorem zbr:tab 58=⟨.struct [(0,35),(1,56)],5,40,[.nilp,.int .i64 0,.int .i64 0,.int .i64 0,.int .i64 0]⟩:=by kernel_rfl
theorem ty0:tab 64=⟨.slice 124,1,24,[.nils]⟩:=by kernel_rfl
theorem ze6:tab 65=⟨.slice 124,1,24,[.nils]⟩:=by kernel_rfl
theorem zg2:tab 66=⟨.struct [(0,65),(1,65)],2,48,[.nils,.nils]⟩:=by kernel_rfl
theorem zg1:tab 67=⟨.struct [(0,65),(1,65)],2,48,[.nils,.nils]⟩:=by kernel_rfl
theorem ty6:tab 72=⟨.slice 5,1,24,[.nils]⟩:=by kernel_rfl
theorem ty9:tab 83=⟨.func,1,8,[.nilf]⟩:=by kernel_rfl
theorem zfx:tab 86=⟨.struct [(0,4),(1,58),(6,58)],11,88,[.bool false,.nilp,.int .i64 0,.int .i64 0,.int .i64 0,.int .i64 0,.nilp,.int .i64 0,.int .i64 0,.int .i64 0,.int .i64 0]⟩:=by kernel_rfl
theorem zfw:tab 87=⟨.struct [(0,4),(1,58),(6,58)],11,88,[.bool false,.nilp,.int .i64 0,.int .i64 0,.int .i64 0,.int .i64 0,.nilp,.int .i64 0,.int .i64 0,.int .i64 0,.int .i64 0]⟩:=by kernel_rfl
theorem ty4:tab 91=⟨.slice 94,1,24,[.nils]⟩:=by kernel_rfl
theorem zi3:tab 93=⟨.struct [(0,4),(1,3),(2,3),(3,3)],4,32,[.bool false,.int .i64 0,.int .i64 0,.int .i64 0]⟩:=by kernel_rfl
theorem zi2:tab 94=⟨.struct [(0,4),(1,3),(2,3),(3,3)],4,32,[.bool false,.int .i64 0,.int .i64 0,.int .i64 0]⟩:=by kernel_rfl
theorem ykw:tab 100=⟨.func,1,8,[.nilf]⟩:=by kernel_rfl
theorem za6:tab 104=⟨.arr 4 3,4,32,[.int .i64 0,.int .i64 0,.int .i64 0,.int .i64 0]⟩:=by kernel_rfl
theorem ty8:tab 107=⟨.ptr 109,1,8,[.nilp]⟩:=by kernel_rfl
theorem ylu:tab 108=⟨.struct [(0,107),(1,72)],2,32,[.nilp,.nils]⟩:=by kernel_rfl
theorem ylt:tab 109=⟨.struct [(0,107),(1,72)],2,32,[.nilp,.nils]⟩:=by kernel_rfl
theorem zdi:tab 120=⟨.int .u64,1,8,[.int .u64 0]⟩:=by kernel_rfl
theorem ty2:tab 124=⟨.slice 4,1,24,[.nils]⟩:=by kernel_rfl
theorem ygl:tab 135=⟨.map 3 3,1,8,[.nilm]⟩:=by kernel_rfl
theorem zie:tab 147=⟨.int .u64,1,8,[.int .u64 0]⟩:=by kernel_rfl
theorem z89 (n low high:Int):PC Tryz.prog 53 [.int .i64 n,.int .i64 low,.int .i64 high] (.bool (decide (low≤n) && decide (n≤high))) true:=by
 refine PC.of ⟨Tryz.func53,by kernel_rfl,rfl,by kernel_rfl⟩ zav mixed (by show 3≤Tryz.f53.ntmps; decide) ?_
 refine W.r fun K hK=>?_
 simp(disch:=omega)only[↓RU,RW,↓reduceIte,qE,reduceCtorEq,iP]
 apply hK;clear hK K
 refine W.r fun K hK=>?_
 by_cases h:low≤n
 ·skip
  simp(disch:=omega)only[↓RU,RW,↓reduceIte,qE,reduceCtorEq,iP,w64,zaa,ge_iff_le,h,decide_true]
  apply hK;clear hK K
  refine W.ret ?_
  refine Br rfl ?_
  simp only[decide_true,Bool.true_and,h]; rfl
 skip
 simp(disch:=omega)only[↓RU,RW,↓reduceIte,qE,reduceCtorEq,iP,w64,zaa,ge_iff_le,h,decide_false]
 apply hK;clear hK K
 refine W.ret ?_
 refine Br rfl ?_
 simp only[decide_false,Bool.false_and,h]; rfl
theorem zti {p:List Txt} (hs:Sm p):PC Tryz.prog 28 [zbi p] (.int .i64 (zdt p)) true:=by
 have hp:=hs.rows
 have hr:=hs.cols
 refine PC.of ⟨Tryz.func28,by kernel_rfl,rfl,by kernel_rfl⟩ zav mixed (by show 1≤Tryz.f28.ntmps; decide) ?_
 refine W.r fun K hK=>?_
 simp(disch:=omega)only[↓RU,RW,↓reduceIte,qE,reduceCtorEq,iP]
 apply hK;clear hK K
 refine W.r fun K hK=>?_
 simp(disch:=omega)only[↓RU,RW,↓reduceIte,qE,reduceCtorEq,iP]
 apply hK;clear hK K
 refine W.seq ?_
 refine W.r fun K hK=>?_
 simp(disch:=omega)only[↓RU,RW,↓reduceIte,qE,reduceCtorEq,iP]
 apply hK;clear hK K
 refine W.block ?_
 refine W.loop [0,3,4] (fun n vs S=>∃ i:Nat,n=p.length - i∧i≤p.length∧vs=[zbi p,.int .i64 (zdt (p.take i)),.int .i64 i]∧S=⟨[],0⟩) (p.length) ?_ ?_
 ·refine ⟨0,0,rfl,Nat.zero_le _,?_,rfl⟩
  simp [Env.put,zai,zdt]
 rintro n vs S - ⟨i,rfl,h_i,rfl,rfl⟩
 refine W.seq ?_
 refine W.r fun K hK=>?_
 simp(disch:=omega)only[↓RU,RW,↓reduceIte,qE,reduceCtorEq,iP,w64,ty5,zaa,zal]
 apply hK;clear hK K
 refine W.cond rfl (fun h=>?_) (fun h=>?_)
 ·try simp only[RL]at h
  obtain ⟨row,hrow,hrm⟩:=zaj (show i<p.length by omega)
  have hrl:=hr row hrm
  refine W.skip ?_
  refine xn ?_
  refine W.seq ?_
  refine W.block ?_
  refine W.r fun K hK=>?_
  simp(disch:=omega)only[↓RU,RW,↓reduceIte,qE,reduceCtorEq,iP]
  apply hK;clear hK K
  refine W.block ?_
  refine W.loop [0,3,4,5] (fun n vs S=>∃ k:Nat,n=row.length - k∧k≤row.length∧vs=[zbi p,.int .i64 (zgt (zdt (p.take i)) (row.take k)),.int .i64 i,.int .i64 k]∧S=⟨[],0⟩) (row.length) ?_ ?_
  ·refine ⟨0,0,rfl,Nat.zero_le _,?_,rfl⟩
   simp [Env.put,Env.of,zgt]
  rintro n vs S - ⟨k,rfl,h_k,rfl,rfl⟩
  refine W.seq ?_
  refine W.r fun K hK=>?_
  simp(disch:=omega)only[↓RU,RW,↓reduceIte,qE,reduceCtorEq,iP,w64,ty5,zaa,zal,hrow]
  apply hK;clear hK K
  refine W.cond rfl (fun h1=>?_) (fun h1=>?_)
  ·try simp only[RL]at h1
   obtain ⟨c,hc,-⟩:=zaj (show k<row.length by omega)
   have hcl:=c.toNat_lt
   refine W.skip ?_
   refine xn ?_
   refine W.seq ?_
   refine W.block ?_
   refine W.k fun K hK=>?_
   simp(disch:=omega)only[↓RU,RW,↓reduceIte,qE,reduceCtorEq,iP,w64,w64,zk3,ty5,zaa,zal,zhv,hrow,hc,zk3]
   apply hK;clear hK K
   refine XbN ?_
   refine xn ?_
   refine W.k fun K hK=>?_
   simp(disch:=omega)only[↓RU,RW,↓reduceIte,qE,reduceCtorEq,iP,w64,zaa]
   apply hK;clear hK K
   refine xn ?_
   refine ⟨row.length - (k+1),by omega,0,k+1,rfl,by omega,?_,rfl⟩
   rw [tk hc]
   simp [Env.put,Env.of,zgt,List.foldl_append]
  try simp only[RL]at h1
  refine W.exit ?_
  refine xe ?_
  refine xe ?_
  refine XBlock.hit ?_
  refine XbN ?_
  refine xn ?_
  refine W.k fun K hK=>?_
  simp(disch:=omega)only[↓RU,RW,↓reduceIte,qE,reduceCtorEq,iP,w64,zaa]
  apply hK;clear hK K
  refine xn ?_
  refine ⟨p.length - (i+1),by omega,0,i+1,rfl,by omega,?_,rfl⟩
  rw [tk hrow]
  simp [Env.put,Env.of,zdt,List.foldl_append,show k=row.length by omega]
 try simp only[RL]at h
 refine W.exit ?_
 refine xe ?_
 refine xe ?_
 refine XBlock.hit ?_
 refine xn ?_
 refine W.r fun K hK=>?_
 simp(disch:=omega)only[↓RU,RW,↓reduceIte,qE,reduceCtorEq,iP]
 apply hK;clear hK K
 refine W.ret ?_
 refine Br rfl ?_
 have hip:i=p.length:=by omega
 subst hip
 rw [List.take_length]
 rfl
theorem zxv {p q:List Txt} (hs:Sm p):PC Tryz.prog 26 [zbi p,zbi q] (.bool (decide (p=q))) true:=by
 have hp:=hs.rows
 have hr:=hs.cols
 refine PC.of ⟨Tryz.func26,by kernel_rfl,rfl,by kernel_rfl⟩ zav mixed (by show 2≤Tryz.f26.ntmps; decide) ?_
 refine W.r fun K hK=>?_
 simp(disch:=omega)only[↓RU,RW,↓reduceIte,qE,reduceCtorEq,iP]
 apply hK;clear hK K
 refine W.seq ?_
 refine W.r fun K hK=>?_
 simp(disch:=omega)only[↓RU,RW,↓reduceIte,qE,reduceCtorEq,iP,w64,ty5,zaa,zal]
 apply hK;clear hK K
 refine W.cond rfl (fun h0=>?_) (fun h0=>?_)
 ·try simp only[RL]at h0
  skip
  refine W.r fun K hK=>?_
  simp(disch:=omega)only[↓RU,RW,↓reduceIte,qE,reduceCtorEq,iP]
  apply hK;clear hK K
  refine W.ret ?_
  refine XThen.ret ?_
  refine Br rfl ?_
  have:p≠q:=fun e=>h0 (by rw [e])
  simp [this]; rfl
 try simp only[RL]at h0
 refine W.skip ?_
 refine xn ?_
 refine W.seq ?_
 refine W.r fun K hK=>?_
 simp(disch:=omega)only[↓RU,RW,↓reduceIte,qE,reduceCtorEq,iP]
 apply hK;clear hK K
 refine W.block ?_
 refine W.loop [0,1,5] (fun n vs S=>∃ i:Nat,n=p.length - i∧i≤p.length∧(p.take i=q.take i)∧vs=[zbi p,zbi q,.int .i64 i]∧S=⟨[],0⟩) (p.length) ?_ ?_
 ·refine ⟨0,0,rfl,Nat.zero_le _,rfl,?_,rfl⟩
  simp [Env.put,Env.of,zai]
 rintro n vs S - ⟨i,rfl,h_i,hq,rfl,rfl⟩
 refine W.seq ?_
 refine W.r fun K hK=>?_
 simp(disch:=omega)only[↓RU,RW,↓reduceIte,qE,reduceCtorEq,iP,w64,ty5,zaa,zal]
 apply hK;clear hK K
 refine W.cond rfl (fun h1=>?_) (fun h1=>?_)
 ·try simp only[RL]at h1
  obtain ⟨row,hrow,hrm⟩:=zaj (show i<p.length by omega)
  obtain ⟨row2,hrow2,-⟩:=zaj (show i<q.length by omega)
  refine W.skip ?_
  refine xn ?_
  refine W.seq ?_
  refine W.block ?_
  refine W.seq_draw (by kernel_rfl) fun K hK=>?_
  simp(disch:=omega)only[↓RU,RW,↓reduceIte,qE,reduceCtorEq,iP,w64,ty5,zal,hrow,hrow2,yck]
  apply hK;clear hK K
  refine W.cond rfl (fun h2=>?_) (fun h2=>?_)
  ·try simp only[RL]at h2
   refine W.r fun K hK=>?_
   simp(disch:=omega)only[↓RU,RW,↓reduceIte,qE,reduceCtorEq,iP]
   apply hK;clear hK K
   refine W.ret ?_
   refine XBlock.ret ?_
   refine XThen.ret ?_
   refine XThen.ret ?_
   refine XBlock.ret ?_
   refine XThen.ret ?_
   refine Br rfl ?_
   have:p≠q:=fun e=>h2 (by rw [e,hrow2]at hrow; exact (Option.some.inj hrow).symm)
   simp [this]; rfl
  try simp only[RL]at h2
  refine W.skip ?_
  refine XbN ?_
  refine xn ?_
  refine W.k fun K hK=>?_
  simp(disch:=omega)only[↓RU,RW,↓reduceIte,qE,reduceCtorEq,iP,w64,zaa]
  apply hK;clear hK K
  refine xn ?_
  refine ⟨p.length - (i+1),by omega,0,i+1,rfl,by omega,by rw [tk hrow,tk hrow2,hq,h2],?_,rfl⟩
  simp [Env.put,Env.of]
 try simp only[RL]at h1
 refine W.exit ?_
 refine xe ?_
 refine xe ?_
 refine XBlock.hit ?_
 refine xn ?_
 refine W.r fun K hK=>?_
 simp(disch:=omega)only[↓RU,RW,↓reduceIte,qE,reduceCtorEq,iP]
 apply hK;clear hK K
 refine W.ret ?_
 refine Br rfl ?_
 have hip:i=p.length:=by omega
 have h0n:p.length=q.length:=by omega
 have:p=q:=by rw [hip,List.take_length,h0n,List.take_length]at hq; exact hq
 simp [this]; rfl
theorem z5t {p:List Txt} (hs:Sm p) (hc1:p.length≤1000) (hc2:∀ r∈p,r.length≤1000) (room:Int):PC Tryz.prog 30 [zbi p,.int .i64 room] (.int .i64 (zf6 p room)) true:=by
 have hp:=hs.rows
 have hr:=hs.cols
 refine PC.of ⟨Tryz.func30,by kernel_rfl,rfl,by kernel_rfl⟩ zav mixed (by show 2≤Tryz.f30.ntmps; decide) ?_
 refine W.r fun K hK=>?_
 simp(disch:=omega)only[↓RU,RW,↓reduceIte,qE,reduceCtorEq,iP]
 apply hK;clear hK K
 refine W.r fun K hK=>?_
 simp(disch:=omega)only[↓RU,RW,↓reduceIte,qE,reduceCtorEq,iP]
 apply hK;clear hK K
 refine W.seq ?_
 refine W.r fun K hK=>?_
 simp(disch:=omega)only[↓RU,RW,↓reduceIte,qE,reduceCtorEq,iP]
 apply hK;clear hK K
 refine W.block ?_
 refine W.loop [0,1,5,6] (fun n vs S=>∃ i:Nat,n=p.length - i∧i≤p.length∧vs=[zbi p,.int .i64 room,.int .i64 (zf6 (p.take i) room),.int .i64 i]∧S=⟨[],0⟩) (p.length) ?_ ?_
 ·refine ⟨0,0,rfl,Nat.zero_le _,?_,rfl⟩
  simp [Env.put,zai,zf6]
 rintro n vs S - ⟨i,rfl,h_i,rfl,rfl⟩
 refine W.seq ?_
 refine W.r fun K hK=>?_
 simp(disch:=omega)only[↓RU,RW,↓reduceIte,qE,reduceCtorEq,iP,w64,ty5,zaa,zal]
 apply hK;clear hK K
 refine W.cond rfl (fun h=>?_) (fun h=>?_)
 ·try simp only[RL]at h
  obtain ⟨row,hrow,hrm⟩:=zaj (show i<p.length by omega)
  have hrl:=hr row hrm
  refine W.skip ?_
  refine xn ?_
  refine W.seq ?_
  refine W.block ?_
  refine W.r fun K hK=>?_
  simp(disch:=omega)only[↓RU,RW,↓reduceIte,qE,reduceCtorEq,iP]
  apply hK;clear hK K
  refine W.block ?_
  refine W.loop [0,1,5,6,7] (fun n vs S=>∃ k:Nat,n=row.length - k∧k≤row.length∧vs=[zbi p,.int .i64 room,.int .i64 (zdl room (zf6 (p.take i) room) (row.take k)),.int .i64 i,.int .i64 k]∧S=⟨[],0⟩) (row.length) ?_ ?_
  ·refine ⟨0,0,rfl,Nat.zero_le _,?_,rfl⟩
   simp [Env.put,Env.of,zdl]
  rintro n vs S - ⟨k,rfl,h_k,rfl,rfl⟩
  refine W.seq ?_
  refine W.r fun K hK=>?_
  simp(disch:=omega)only[↓RU,RW,↓reduceIte,qE,reduceCtorEq,iP,w64,ty5,zaa,zal,hrow]
  apply hK;clear hK K
  refine W.cond rfl (fun h1=>?_) (fun h1=>?_)
  ·try simp only[RL]at h1
   obtain ⟨c,hc,-⟩:=zaj (show k<row.length by omega)
   have hcl:=c.toNat_lt
   have hb1:=zu7 room (p.take i) fun r hr=>hc2 r (List.mem_of_mem_take hr)
   have hb2:=zhz room (row.take k) (zf6 (p.take i) room)
   have hb3:=List.length_take_le i p
   have hb4:=List.length_take_le k row
   refine W.skip ?_
   refine xn ?_
   refine W.seq ?_
   refine W.block ?_
   refine W.r fun K hK=>?_
   simp(disch:=omega)only[↓RU,RW,↓reduceIte,qE,reduceCtorEq,iP,w64,w64,ty5,zaa,zal,zhv,hrow,hc]
   apply hK;clear hK K
   refine W.cond rfl (fun h2=>?_) (fun h2=>?_)
   ·try simp only[RL]at h2
    refine W.k fun K hK=>?_
    simp(disch:=omega)only[↓RU,RW,↓reduceIte,qE,reduceCtorEq,iP,w64,zaa]
    apply hK;clear hK K
    refine XbN ?_
    refine xn ?_
    refine W.k fun K hK=>?_
    simp(disch:=omega)only[↓RU,RW,↓reduceIte,qE,reduceCtorEq,iP,w64,zaa]
    apply hK;clear hK K
    refine xn ?_
    refine ⟨row.length - (k+1),by omega,0,k+1,rfl,by omega,?_,rfl⟩
    rw [tk hc]
    simp [Env.put,Env.of,zdl,List.foldl_append,zkq,h2]
   try simp only[RL]at h2
   refine W.skip ?_
   refine XbN ?_
   refine xn ?_
   refine W.k fun K hK=>?_
   simp(disch:=omega)only[↓RU,RW,↓reduceIte,qE,reduceCtorEq,iP,w64,zaa]
   apply hK;clear hK K
   refine xn ?_
   refine ⟨row.length - (k+1),by omega,0,k+1,rfl,by omega,?_,rfl⟩
   rw [tk hc]
   simp [Env.put,Env.of,zdl,List.foldl_append,zkq,h2]
  try simp only[RL]at h1
  refine W.exit ?_
  refine xe ?_
  refine xe ?_
  refine XBlock.hit ?_
  refine XbN ?_
  refine xn ?_
  refine W.k fun K hK=>?_
  simp(disch:=omega)only[↓RU,RW,↓reduceIte,qE,reduceCtorEq,iP,w64,zaa]
  apply hK;clear hK K
  refine xn ?_
  refine ⟨p.length - (i+1),by omega,0,i+1,rfl,by omega,?_,rfl⟩
  rw [tk hrow]
  simp [Env.put,Env.of,zf6,List.foldl_append,show k=row.length by omega]
 try simp only[RL]at h
 refine W.exit ?_
 refine xe ?_
 refine xe ?_
 refine XBlock.hit ?_
 refine xn ?_
 refine W.r fun K hK=>?_
 simp(disch:=omega)only[↓RU,RW,↓reduceIte,qE,reduceCtorEq,iP]
 apply hK;clear hK K
 refine W.ret ?_
 refine Br rfl ?_
 have hip:i=p.length:=by omega
 subst hip
 rw [List.take_length]
 rfl
theorem z87 {p:List Txt} (hs:Sm p) (hne:0<p.length) (room:Int):PC Tryz.prog 29 [zbi p,.int .i64 room] (.tup [.int .i64 (zp9 p room).top,.int .i64 (zp9 p room).left,.int .i64 (ziv p room),.int .i64 (ziy p room)]) true:=by
 have hp:=hs.rows
 have hr:=hs.cols
 obtain ⟨row0,hrow0,hrm0⟩:=zaj hne
 have hrl0:=hr row0 hrm0
 have hhd:=zcf hrow0
 refine PC.of ⟨Tryz.func29,by kernel_rfl,rfl,by kernel_rfl⟩ zav mixed (by show 2≤Tryz.f29.ntmps; decide) ?_
 refine W.r fun K hK=>?_
 simp(disch:=omega)only[↓RU,RW,↓reduceIte,qE,reduceCtorEq,iP]
 apply hK;clear hK K
 refine W.r fun K hK=>?_
 simp(disch:=omega)only[↓RU,RW,↓reduceIte,qE,reduceCtorEq,iP,ty5,zal]
 apply hK;clear hK K
 refine W.r fun K hK=>?_
 simp(disch:=omega)only[↓RU,RW,↓reduceIte,qE,reduceCtorEq,iP,ty5,zal,hrow0,Int.toNat_zero,Nat.zero_mul,qZ]
 apply hK;clear hK K
 refine W.r fun K hK=>?_
 simp(disch:=omega)only[↓RU,RW,↓reduceIte,qE,reduceCtorEq,iP]
 apply hK;clear hK K
 refine W.r fun K hK=>?_
 simp(disch:=omega)only[↓RU,RW,↓reduceIte,qE,reduceCtorEq,iP]
 apply hK;clear hK K
 refine W.seq ?_
 refine W.r fun K hK=>?_
 simp(disch:=omega)only[↓RU,RW,↓reduceIte,qE,reduceCtorEq,iP]
 apply hK;clear hK K
 refine W.block ?_
 refine W.loop [0,1,8,9,10,11,12] (fun n vs S=>∃ i:Nat,n=p.length - i∧i≤p.length∧vs=[zbi p,.int .i64 room,.int .i64 (ziz p room i).top,.int .i64 (ziz p room i).left,.int .i64 (ziz p room i).low,.int .i64 (ziz p room i).right,.int .i64 i]∧S=⟨[],0⟩) (p.length) ?_ ?_
 ·refine ⟨0,0,rfl,Nat.zero_le _,?_,rfl⟩
  simp [Env.put,zai,ziz,hhd]
 rintro n vs S - ⟨i,rfl,h_i,rfl,rfl⟩
 refine W.seq ?_
 refine W.r fun K hK=>?_
 simp(disch:=omega)only[↓RU,RW,↓reduceIte,qE,reduceCtorEq,iP,w64,ty5,zaa,zal]
 apply hK;clear hK K
 refine W.cond rfl (fun h=>?_) (fun h=>?_)
 ·try simp only[RL]at h
  obtain ⟨row,hrow,hrm⟩:=zaj (show i<p.length by omega)
  have hrl:=hr row hrm
  refine W.skip ?_
  refine xn ?_
  refine W.seq ?_
  refine W.block ?_
  refine W.r fun K hK=>?_
  simp(disch:=omega)only[↓RU,RW,↓reduceIte,qE,reduceCtorEq,iP]
  apply hK;clear hK K
  refine W.block ?_
  refine W.loop [0,1,8,9,10,11,12,13] (fun n vs S=>∃ k:Nat,n=row.length - k∧k≤row.length∧vs=[zbi p,.int .i64 room,.int .i64 (zmy room i (ziz p room i) row k).top,.int .i64 (zmy room i (ziz p room i) row k).left,.int .i64 (zmy room i (ziz p room i) row k).low,.int .i64 (zmy room i (ziz p room i) row k).right,.int .i64 i,.int .i64 k]∧S=⟨[],0⟩) (row.length) ?_ ?_
  ·refine ⟨0,0,rfl,Nat.zero_le _,?_,rfl⟩
   simp [Env.put,Env.of,zmy]
  rintro n vs S - ⟨k,rfl,h_k,rfl,rfl⟩
  refine W.seq ?_
  refine W.r fun K hK=>?_
  simp(disch:=omega)only[↓RU,RW,↓reduceIte,qE,reduceCtorEq,iP,w64,ty5,zaa,zal,hrow]
  apply hK;clear hK K
  refine W.cond rfl (fun h1=>?_) (fun h1=>?_)
  ·try simp only[RL]at h1
   obtain ⟨c,hc,-⟩:=zaj (show k<row.length by omega)
   have hcl:=c.toNat_lt
   refine W.skip ?_
   refine xn ?_
   refine W.seq ?_
   refine W.block ?_
   refine W.r fun K hK=>?_
   simp(disch:=omega)only[↓RU,RW,↓reduceIte,qE,reduceCtorEq,iP,w64,w64,ty5,zaa,zal,zhv,hrow,hc]
   apply hK;clear hK K
   refine W.cond rfl (fun h2=>?_) (fun h2=>?_)
   ·try simp only[RL]at h2
    refine W.r fun K hK=>?_
    simp(disch:=omega)only[↓RU,RW,↓reduceIte,qE,reduceCtorEq,iP,zu4,zaa]
    apply hK;clear hK K
    refine W.r fun K hK=>?_
    simp(disch:=omega)only[↓RU,RW,↓reduceIte,qE,reduceCtorEq,iP,zu4,zaa]
    apply hK;clear hK K
    refine W.r fun K hK=>?_
    simp(disch:=omega)only[↓RU,RW,↓reduceIte,qE,reduceCtorEq,iP,zk3,zaa]
    apply hK;clear hK K
    refine W.k fun K hK=>?_
    simp(disch:=omega)only[↓RU,RW,↓reduceIte,qE,reduceCtorEq,iP,zk3,zaa]
    apply hK;clear hK K
    refine XbN ?_
    refine xn ?_
    refine W.k fun K hK=>?_
    simp(disch:=omega)only[↓RU,RW,↓reduceIte,qE,reduceCtorEq,iP,w64,zaa]
    apply hK;clear hK K
    refine xn ?_
    refine ⟨row.length - (k+1),by omega,0,k+1,rfl,by omega,?_,rfl⟩
    rw [zj9 hc]
    simp [Env.put,Env.of,zky,zkq,h2]
   try simp only[RL]at h2
   refine W.skip ?_
   refine XbN ?_
   refine xn ?_
   refine W.k fun K hK=>?_
   simp(disch:=omega)only[↓RU,RW,↓reduceIte,qE,reduceCtorEq,iP,w64,zaa]
   apply hK;clear hK K
   refine xn ?_
   refine ⟨row.length - (k+1),by omega,0,k+1,rfl,by omega,?_,rfl⟩
   rw [zj9 hc]
   simp [Env.put,Env.of,zky,zkq,h2]
  try simp only[RL]at h1
  refine W.exit ?_
  refine xe ?_
  refine xe ?_
  refine XBlock.hit ?_
  refine XbN ?_
  refine xn ?_
  refine W.k fun K hK=>?_
  simp(disch:=omega)only[↓RU,RW,↓reduceIte,qE,reduceCtorEq,iP,w64,zaa]
  apply hK;clear hK K
  refine xn ?_
  refine ⟨p.length - (i+1),by omega,0,i+1,rfl,by omega,?_,rfl⟩
  rw [zni hrow]
  simp [Env.put,Env.of,show k=row.length by omega]
 try simp only[RL]at h
 refine W.exit ?_
 refine xe ?_
 refine xe ?_
 refine XBlock.hit ?_
 refine xn ?_
 refine W.r fun K hK=>?_
 have hip:i=p.length:=by omega
 subst hip
 have hbb:=zkz room hs.1 hs.2 p.length (qR _)
 rw [zlt]at hbb
 simp only[Box.In]at hbb
 simp(disch:=omega)only[↓RU,RW,↓reduceIte,qE,reduceCtorEq,iP,w64,zaa,zlt]
 apply hK;clear hK K
 refine W.ret ?_
 refine Br rfl ?_
 rfl
end Fw
end Go.Proofs.YtbbphnladjdllaaGreat
