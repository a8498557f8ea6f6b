/- Parts of the framework and of the proof: The framework, part p: code, gone through on plain values; and a function's call; The framework, part q: a table of types is checked by one computation; The framework, part r: going through a region step by step; The framework, part s: small laws for going through code; The framework, part t: letting go of objects and freezing what names them; The framework, part u: bundles of small laws for simp; a call in a store with more objects behind; The framework, part v: calls that take data and give new objects, which may be written; The framework, part w: at a fold, objects are put in another order, frozen, or let go; The framework, part x: a region in which a variable is made at an open time; The framework, part y: a region whose order is open, in the order of its text, in which something might be read behind what writes elsewhere; Plans in plain words: the specification's functions on lists of texts; Points, walls and orders of plans in plain words; The table of the types of this translation, written by a program (tabgen.py), and that it is right; Small functions of the specification, gone through; The specification of plans, gone through; What a plan is, gone through; Points where rooms meet, gone through; Walls, gone through; Walls and their sides, gone through; The sides of a wall, gone through; Upright walls, gone through; Walls and orders of plans in plain words; All walls; sets of rooms, gone through; Sizes of plans in plain words; The program's own data in plain words; Small functions of the program and of the library, gone through; The program's walls in plain words; Walls of the program, gone through; Lists without neighbours that are the same; the program's relations in plain words. -/
import Derived.Test.YthbombjjioojeaaGreatDoorJ0
import Derived.RangeFuncRecord
import Derived.Test.YthbombjjioojeaaGreatDoorChecked
set_option linter.all false
namespace Go.Proofs.YthbombjjioojeaaGreatDoor
namespace Fw
open Go
open Nat renaming reduceEqDiff → qE, reduceLeDiff → qL, reduceAdd → qA, reduceMul → qM, le_refl → qR
open List renaming append_nil → qN, mapM_append → qP, mapM_cons → qC, mapM_map → qU, range_succ → qS, take_of_length_le → qT
open Bool renaming and_eq_true → qB, false_eq_true → qF
open Option renaming map_some → qO, map_eq_some_iff → qI
open Int renaming reduceToNat → qZ
section
def GSt.take (G:GSt) (k:Nat):GSt:=⟨G.obs.take k,G.tick⟩
def zej (N:Nat):Code→Bool
 | .region _ ops _=>ops.toList.all fun o=>match o.dst with | some d=>decide (d<N) | none=>true
 | .seq a b=>zej N a && zej N b
 | .cond _ a b=>zej N a && zej N b
 | .block _ c=>zej N c
 | .loop c=>zej N c
 | .rangeFunc _ ps a b=>ps.toList.all (fun t=>decide (t<N)) && zej N a && zej N b
 | _=>true
structure W (P:Program) (T:Tab) (c:Code) (Q:Exit→Env→Store→Prop) (e:Env) (S:Store):Prop where
 run:zar P T→P.follows .mixedOrders=true→∀ (F0:Nat→Prop) (G0:GSt) (w0:World) (N:Nat) (F:Nat→Prop) (G:GSt) (a:Act) (w:World),G.er=S→Inv F G w→zct w.heap F G e a →
  Next F0 G0 w0 F G w→a.tmps.size=N→Marks w0 a.defers w→zej N c=true→∀ {R:Option Nat} {nn:Nat},c.wpIn (fnc R) nn P (Sto F0 G0 w0 N Q) a w
section
variable {P:Program} {T:Tab} {Q Q':Exit→Env→Store→Prop} {e:Env} {S:Store} {a b c:Code}
theorem Sto.mono {F0:Nat→Prop} {G0:GSt} {w0:World} {N:Nat} (h:∀ x e S,Q x e S→Q' x e S) {x:Exit} {a:Act} {w:World} (k:Sto F0 G0 w0 N Q x a w):Sto F0 G0 w0 N Q' x a w:=by
 obtain ⟨e,F,G,k1,k2⟩:=k
 exact ⟨e,F,G,h _ _ _ k1,k2⟩
theorem W.mono (h:W P T c Q e S) (k:∀ x e S,Q x e S→Q' x e S):W P T c Q' e S :=
 ⟨fun h1 h2 F0 G0 w0 N F G a w h3 h4 h5 h6 h7 h8 h9=>wpIn_mono (h.run h1 h2 F0 G0 w0 N F G a w h3 h4 h5 h6 h7 h8 h9) fun _ _ _=>Sto.mono k⟩
theorem W.skip (h:Q .normal e S):W P T .skip Q e S :=
 ⟨fun _ _ _ _ _ _ _ _ _ _ h3 h4 h5 h6 h7 h8 _=>wpIn_skip ⟨e,_,_,h3 ▸ h,h4,h5,h6,h7,h8⟩⟩
theorem W.exit {id:Nat} (h:Q (.exit id) e S):W P T (.exit id) Q e S :=
 ⟨fun _ _ _ _ _ _ _ _ _ _ h3 h4 h5 h6 h7 h8 _=>wpIn_exit ⟨e,_,_,h3 ▸ h,h4,h5,h6,h7,h8⟩⟩
theorem W.ret (h:Q .ret e S):W P T .ret Q e S :=
 ⟨fun _ _ _ _ _ _ _ _ _ _ h3 h4 h5 h6 h7 h8 _=>wpIn_ret ⟨e,_,_,h3 ▸ h,h4,h5,h6,h7,h8⟩⟩
theorem W.seq (h:W P T a (XThen (W P T b Q) Q) e S):W P T (.seq a b) Q e S:=by
 refine ⟨?_⟩
 intro hT hm F0 G0 w0 N F G a w h3 h4 h5 h6 h7 h8 h9 R nn
 simp only[zej,qB]at h9
 refine wpIn_seq (wpIn_mono (h.run hT hm F0 G0 w0 N F G a w h3 h4 h5 h6 h7 h8 h9.1) ?_)
 rintro x a' w' ⟨e',F',G',k1,k2,k3,k4,k5,k6⟩
 cases x with
 | normal=>exact k1.run hT hm F0 G0 w0 N F' G' a' w' rfl k2 k3 k4 k5 k6 h9.2
 | _=>exact ⟨e',F',G',k1,k2,k3,k4,k5,k6⟩
theorem W.cond {x:Operand} {t:Bool} (hc:e.ev x = .bool t) (h1:t=true→W P T a Q e S) (h2:t=false→W P T b Q e S):W P T (.cond x a b) Q e S:=by
 refine ⟨?_⟩
 intro hT hm F0 G0 w0 N F G a w h3 h4 h5 h6 h7 h8 h9 R nn
 simp only[zej,qB]at h9
 have:=h5.ev x
 rw [hc]at this
 exact wpIn_cond_split this.bool (fun ht=>(h1 ht).run hT hm F0 G0 w0 N F G a w h3 h4 h5 h6 h7 h8 h9.1) (fun ht=>(h2 ht).run hT hm F0 G0 w0 N F G a w h3 h4 h5 h6 h7 h8 h9.2)
theorem W.block {id:Nat} (h:W P T c (XBlock id Q) e S):W P T (.block id c) Q e S:=by
 refine ⟨?_⟩
 intro hT hm F0 G0 w0 N F G a w h3 h4 h5 h6 h7 h8 h9 R nn
 refine wpIn_block (wpIn_mono (h.run hT hm F0 G0 w0 N F G a w h3 h4 h5 h6 h7 h8 h9) ?_)
 rintro x a' w' ⟨e',F',G',k1,k2⟩
 cases x with
 | exit i =>
  simp only[Exit.inBlock]
  simp only[XBlock]at k1
  split
  ·rename_i hi; rw [if_pos hi]at k1; exact ⟨e',F',G',k1,k2⟩
  rename_i hi; rw [if_neg hi]at k1; exact ⟨e',F',G',k1,k2⟩
 | _=>exact ⟨e',F',G',k1,k2⟩
theorem zza {N:Nat} {ops:Array Oper} {id:Nat} {d:Bool} (h:zej N (.region id ops d)=true):∀ o∈ops.toList,∀ t,o.dst=some t→t<N:=by
 intro o ho t ht
 simp only[zej,List.all_eq_true]at h
 have:=h o ho
 rw [ht]at this
 simpa using this
theorem z4r {F0:Nat→Prop} {G0:GSt} {w0:World} {N:Nat}:∀ x a w,Sto F0 G0 w0 N (Nrm (Q .normal)) x a w→Sto F0 G0 w0 N Q x a w:=by
 rintro x a' w' ⟨e',F',G',k1,k2⟩
 cases x with
 | normal=>exact ⟨e',F',G',k1,k2⟩
 | _=>exact k1.elim
theorem Inv.drew {F:Nat→Prop} {G:GSt} {w:World} (h:Inv F G w):Inv F G { w with drawn:=w.drawn+1 }:=⟨h.fr,h.ver,h.nF,h.arr,h.map,h.inj,h.lp⟩
theorem Next.drew {F F':Nat→Prop} {G G':GSt} {w w':World} (h:Next F G w F' G' w'):Next F G w F' G' { w' with drawn:=w'.drawn+1 } :=
 ⟨h.os,h.tape,h.output,h.size,h.fsub,h.fnew,h.gnew,h.tick,h.keep,h.hand,Nat.le_succ_of_le h.drawn⟩
theorem W.region {id:Nat} {ops:Array Oper} (h:z6f P T ops (Q .normal) ops.toList e S):W P T (.region id ops false) Q e S:=by
 refine ⟨?_⟩
 intro hT hm F0 G0 w0 N F G a w h3 h4 h5 h6 h7 h8 h9 R nn
 subst h3
 refine wpIn_mono (wpIn_region_list (zjt hT _ h h4 h5 h6 h7 h8 (zza h9))) ?_
 exact z4r
theorem W.region_any {id:Nat} {ops:Array Oper} (l effs pend keep:List Nat) (hl:zge ops l effs pend=true) (h:zbq P T ops effs pend keep (Q .normal) l e S) :
  W P T (.region id ops true) Q e S:=by
 refine ⟨?_⟩
 intro hT hm F0 G0 w0 N F G a w h3 h4 h5 h6 h7 h8 h9 R nn
 subst h3
 unfold zge at hl
 simp only[qB,beq_iff_eq,List.all_eq_true,decide_eq_true_eq,Bool.not_eq_true',List.contains_eq_mem,List.mem_range,Bool.or_eq_true]at hl
 obtain ⟨⟨⟨⟨c1,c2⟩,c3⟩,c4⟩,c5⟩:=hl
 obtain ⟨p1,p2⟩:=zkl c1
 refine wpIn_mono (wpIn_region_any hm (zy9 (Q:=Q .normal) hT (zza h9) ?_ ops.size (Array.replicate ops.size false) l c2 p1 p2 (fun x hx=>(c3 x hx).2) (by simp) ?_ ?_ h (h4.drew) h5 (h6.drew) h7 h8)) z4r
 ·intro i o ho ed hed hb
  have hmem:o∈ops.toList:=by
   have:=Array.mem_of_getElem? ho
   simpa using this
  have:=c5 o hmem ed hed
  rw [hb]at this
  simpa using this
 ·intro i
  constructor
  ·intro hi
   refine ⟨(c3 i hi).1,?_⟩
   rw [Array.getD_eq_getD_getElem?]
   simp [(c3 i hi).1]
  intro hi
  exact c4 i hi.1
 intro i x hx
 rw [Array.getD_eq_getD_getElem?]at hx
 simp only[Array.getElem?_replicate]at hx
 split at hx <;> cases hx
theorem zh8 {Fe:Fence} {nn:Nat} {P:Program} {c:Code} {R:Exit→Act→World→Prop}:∀ {n m:Nat},n≤m→∀ a w,Code.roundsIn Fe nn P c R n a w→Code.roundsIn Fe nn P c R m a w:=by
 intro n
 induction n with
 | zero=>intro m _ a w h; exact h.elim
 | succ n ih =>
  intro m hm a w h
  obtain ⟨m,rfl⟩:∃ m',m=m'+1:=⟨m - 1,by omega⟩
  refine wpIn_mono h ?_
  rintro x a w hx
  cases x with
  | normal=>exact ih (by omega) a w hx
  | _=>exact hx
theorem zib (G:GSt) (k:Nat):(G.take k).er=G.er.take k:=by
 simp [GSt.take,GSt.er,Store.take]
theorem za4 {G:GSt} {k o:Nat} {x:Ob × Lc} (h:(G.take k).obs[o]?=some x):G.obs[o]?=some x:=by
 simp only[GSt.take,List.getElem?_take]at h
 split at h
 ·exact h
 cases h
theorem zcz {F:Nat→Prop} {G:GSt} {w:World} (hi:Inv F G w) (k:Nat):Inv F (G.take k) w∧Next F G w F (G.take k) w:=by
 have hn:Next F G w F (G.take k) w :=
  ⟨rfl,rfl,rfl,qR _,fun _ h=>h,fun _ h => .inl h,fun o x h => .inr ⟨o,x,za4 h,rfl⟩,qR _,fun _ _ _=>rfl,
   fun _ ob' _ h _=>⟨ob',za4 h,rfl,Ob.like.refl _⟩,qR _⟩
 exact ⟨zgx hi.fr (fun o ob l h=>hi.ver o ob l (za4 h)) (fun o ob l h=>hi.nF o ob l (za4 h)) (fun o ob l h=>(hi.holds (za4 h)).next hi hn rfl) (fun o o' x x' h h'=>hi.inj o o' x x' (za4 h) (za4 h')),hn⟩
theorem z0l {H:Array Obj} {F:Nat→Prop} {G:GSt} {e:Env} {a:Act} (he:zct H F G e a):∀ L:List Nat,zct H F G (Env.of L (L.map e)) a
 | [],t => .imm _ _ (.undef _)
 | x::L,t=>by
  simp only[List.map_cons,Env.of]
  split
  ·rename_i h; rw [h]; exact he x
  exact z0l he L t
def Fold (L:List Nat) (I:List PV→Store→Prop) (e:Env) (S:Store):Prop:=∃ k,I (L.map e) (S.take k)
theorem W.fold (L:List Nat) {I:List PV→Store→Prop} (hI:Fold L I e S) (h:∀ vs S,vs.length=L.length→I vs S→W P T c Q (Env.of L vs) S):W P T c Q e S:=by
 refine ⟨?_⟩
 intro hT hm F0 G0 w0 N F G a w h3 h4 h5 h6 h7 h8 h9 R nn
 subst h3
 obtain ⟨k,hk⟩:=hI
 obtain ⟨i1,i2⟩:=zcz h4 k
 exact (h _ _ (by simp) hk).run hT hm F0 G0 w0 N F (G.take k) a w (zib G k) i1 (z0l (fun t=>(h5 t).next h4 i2) L) (h6.trans i2) h7 h8 h9
theorem W.join (L:List Nat) (I:List PV→Store→Prop) (h:W P T a (XThen (Fold L I) Q) e S) (k:∀ vs S,vs.length=L.length→I vs S→W P T b Q (Env.of L vs) S):W P T (.seq a b) Q e S:=by
 refine W.seq (h.mono ?_)
 intro x e S hx
 cases x with
 | normal=>exact W.fold L hx k
 | _=>exact hx
theorem W.loop (L:List Nat) (I:Nat→List PV→Store→Prop) (n:Nat) (h0:Fold L (I n) e S)
  (h:∀ n vs S,vs.length=L.length→I n vs S→W P T c (XThen (fun e S=>∃ m,m<n∧Fold L (I m) e S) Q) (Env.of L vs) S):W P T (.loop c) Q e S:=by
 refine W.fold L h0 fun vs S hl hI=>?_
 refine ⟨?_⟩
 intro hT hm F0 G0 w0 N F G a w h3 h4 h5 h6 h7 h8 h9 R nn
 refine wpIn_loop_rounds (n+1) ?_
 clear h0
 induction n using Nat.strongRecOn generalizing vs S F G a w with
 | _ n ih =>
  refine wpIn_mono ((h n vs S hl hI).run hT hm F0 G0 w0 N F G a w h3 h4 h5 h6 h7 h8 (by simpa [zej] using h9)) ?_
  rintro x a' w' ⟨e',F',G',k1,k2,k3,k4,k5,k6⟩
  cases x with
  | normal =>
   obtain ⟨m,hmn,k,hk⟩:=k1
   obtain ⟨i1,i2⟩:=zcz k2 k
   exact zh8 (by omega) _ _ (ih m hmn _ (G'.er.take k) (by simp) hk F' (G'.take k) a' w' (zib G' k) i1 (z0l (fun t=>(k3 t).next k2 i2) L) (k4.trans i2) k5 k6)
  | _=>exact ⟨e',F',G',k1,k2,k3,k4,k5,k6⟩
def zaj (args:List PV):Env:=fun t=>(args[t]?).getD .undef
def zww (T:Tab) (S:Store) (e:Env):ResultVar→Option PV
 | .tmp t=>some (e t)
 | .cell a t=>zsn (T t) S (e a)
def zjy (T:Tab) (S:Store) (e:Env):List ResultVar→Option (List PV)
 | []=>some []
 | r::rs=>(zww T S e r).bind fun v=>(zjy T S e rs).map (v :: ·)
def zs4 (T:Tab) (S:Store) (e:Env) (rs:List ResultVar):Option PV :=
 match zjy T S e rs with
 | some [v]=>some v
 | some vs=>some (.tup vs)
 | none=>none
def zjk (T:Tab) (rs:List ResultVar) (K:PV→Store→Prop):Exit→Env→Store→Prop
 | .normal,e,S=>zgp (zs4 T S e rs) fun v=>K v S
 | .ret,e,S=>zgp (zs4 T S e rs) fun v=>K v S
 | _,_,_=>False
theorem zs3 (hT:zar P T) {F:Nat→Prop} {G:GSt} {w:World} (hi:Inv F G w) {a:Act} (he:zct w.heap F G e a) {r:ResultVar} {v:PV} (h:zww T G.er e r=some v) :
  ∃ cv,((match r with | .tmp t=>pure (a.tmps.getD t undef) | .cell b t=>do loadVar t (← asAddr (a.tmps.getD b undef)):Sem Value)).run P w = .ok cv w∧VR w.heap F G v cv:=by
 cases r with
 | tmp t=>simp only[zww]at h; cases h; exact ⟨_,rfl,he t⟩
 | cell b t =>
  simp only[zww]at h
  obtain ⟨cv,h1,h2⟩:=zo6 hT hi (he b) h
  refine ⟨cv,?_,h2⟩
  cases hb:a.tmps.getD b undef <;> rw [hb]at h1 <;> first
   | (simp [Instr.loadAt,Instr.sureAddr,stuck]at h1; done)
   | (rename_i q; cases q <;> first | (simp [Instr.loadAt,Instr.sureAddr,stuck]at h1; done) | (show (do loadVar t (← asAddr (a.tmps.getD b undef)):Sem Value).run P w=_; rw [hb]; simpa [Instr.loadAt,Instr.sureAddr,asAddr] using h1))
theorem zjb (hT:zar P T) {F:Nat→Prop} {G:GSt} {w:World} (hi:Inv F G w) {a:Act} (he:zct w.heap F G e a):∀ {rs:List ResultVar} {vs:List PV},zjy T G.er e rs=some vs →
  ∃ cvs:List Value,(rs.mapM fun r=>(match r with | .tmp t=>pure (a.tmps.getD t undef) | .cell b t=>do loadVar t (← asAddr (a.tmps.getD b undef)):Sem Value)).run P w = .ok cvs w ∧
   vs.length=cvs.length∧∀ (i:Nat) p c,vs[i]?=some p→cvs[i]?=some c→VR w.heap F G p c
 | [],vs,h=>by simp only[zjy]at h; cases h; exact ⟨[],by simp,rfl,by simp⟩
 | r::rs,vs,h=>by
  simp only[zjy]at h
  rw [Option.bind_eq_some_iff]at h
  obtain ⟨v,h1,h⟩:=h
  rw [qI]at h
  obtain ⟨vs',h2,rfl⟩:=h
  obtain ⟨cv,k1,k2⟩:=zs3 hT hi he h1
  obtain ⟨cvs,k3,k4,k5⟩:=zjb hT hi he h2
  refine ⟨cv::cvs,?_,by simp [k4],?_⟩
  ·rw [qC]
   simp only[Sem.run_bind,k1,k3,Result.andThen_ok,Sem.run_pure]
  rintro (_ | i) p c q1 q2
  ·simp at q1 q2; subst q1; subst q2; exact k2
  simp at q1 q2; exact k5 i p c q1 q2
theorem z1a (hT:zar P T) {F:Nat→Prop} {G:GSt} {w:World} (hi:Inv F G w) {a:Act} (he:zct w.heap F G e a) {fn:Func} {v:PV} (h:zs4 T G.er e fn.results.toList=some v) :
  ∃ cv,(results fn a.tmps).run P w = .ok cv w∧VR w.heap F G v cv:=by
 unfold zs4 at h
 cases hl:zjy T G.er e fn.results.toList with
 | none=>rw [hl]at h; cases h
 | some vs =>
  rw [hl]at h
  obtain ⟨cvs,k1,k2,k3⟩:=zjb hT hi he hl
  have hrun:(results fn a.tmps).run P w = .ok (if h:cvs.toArray.size=1 then cvs.toArray[0] else .tuple cvs.toArray) w:=by
   unfold results
   rw [Array.mapM_eq_mapM_toList]
   simp only[Sem.run_bind,Sem.run_pure,Result.andThen_ok,Sem.run_map]
   erw [k1]
   rfl
  refine ⟨_,hrun,?_⟩
  match vs,cvs,k2,k3,h with
  | [v'],[c],_,k3,h=>simp at h; subst h; simpa using k3 0 v' c rfl rfl
  | [],[],_,k3,h=>simp at h; subst h; simpa using VR.tup [] #[] rfl (by simp)
  | v1::v2::vs,c1::c2::cs,hl,k3,h =>
   simp at h; subst h
   simp only[List.size_toArray,List.length_cons]
   rw [dif_neg (by omega)]
   exact VR.tup _ _ (by simpa using hl) (fun i p c q1 q2=>k3 i p c q1 (by simpa using q2))
structure Fn (P:Program) (f:FuncId) (fn:Func) (c:Code):Prop where
 at_:P.funcs[f]?=some fn
 name : (fn.name == "runtime.NumGoroutine") = false
 body:fn.body=some c
 dst:zej fn.ntmps c=true
theorem Fn.ent {f:FuncId} {fn:Func} (h:Fn P f fn c):Ent P f:=by
 intro args w
 have h1 : fn.name ≠ "runtime.NumGoroutine" := by simpa using h.name
 simp [callFunc,h.at_,h1,h.body,mark]
theorem z5j {H:Array Obj} {F:Nat→Prop} {G:GSt} {args:List PV} {cargs:Array Value} (hl:args.length=cargs.size)
  (hv:∀ (i:Nat) p c,args[i]?=some p→cargs[i]?=some c→VR H F G p c) (n:Nat) (ds:List Deferred):zct H F G (zaj args) { tmps:=cargs++Array.replicate n undef,defers:=ds }:=by
 intro t
 unfold zaj
 by_cases ht:t<args.length
 ·rw [List.getElem?_eq_getElem ht,Array.getD_eq_getD_getElem?,Array.getElem?_append_left (by omega),Array.getElem?_eq_getElem (by omega)]
  exact hv t _ _ (List.getElem?_eq_getElem ht) (Array.getElem?_eq_getElem (by omega))
 rw [List.getElem?_eq_none (by omega)]
 exact .imm _ _ (.undef _)
theorem VI.shut {H H':Array Obj} {F:Nat→Prop} {b:Nat} {ds:Option (List Deferred)} (hb:H[b]?=some (.deferred ds)) (hk:∀ x,x≠b→H'[x]?=H[x]?) {p:PV} {v:Value} (h:VI H F p v):VI H' (fun x=>F x∧x≠b) p v:=by
 have key:∀ {b1 i:Nat} {u:Value},ze0 H b1 i=some u→b1≠b:=by
  rintro b1 i u h1 rfl
  simp [ze0,hb]at h1
 induction h with
 | int k n=>exact .int k n
 | bool b=>exact .bool b
 | str s b h=>exact .str s b h
 | agg cs vs h _ ih=>exact .agg cs vs h ih
 | tup cs vs h _ ih=>exact .tup cs vs h ih
 | nils=>exact .nils
 | sl0=>exact .sl0
 | sl cs n b1 off cap g h1 hn hc _ ih =>
  refine .sl cs n b1 off cap g (fun h=>⟨h1 h,?_⟩) hn (fun i p hi=>⟨(hc i p hi).1,?_⟩) ih
  ·cases cs with
   | nil=>exact absurd rfl h
   | cons c cs=>exact key (hc 0 c rfl).2
  have:=(hc i p hi).2
  simpa [ze0,hk b1 (key this)] using this
 | nilp=>exact .nilp
 | ip cs off b1 base g h1 hc _ ih =>
  refine .ip cs off b1 base g (fun h=>⟨h1 h,?_⟩) (fun i p hi=>⟨(hc i p hi).1,?_⟩) ih
  ·cases cs with
   | nil=>exact absurd rfl h
   | cons c cs=>exact key (hc 0 c rfl).2
  have:=(hc i p hi).2
  simpa [ze0,hk b1 (key this)] using this
 | nilf=>exact .nilf
 | yl l=>exact .yl l
 | fn f cs vs h _ ih=>exact .fn f cs vs h ih
 | bm f b v _ ih=>exact .bm f b v ih
 | nilm=>exact .nilm
 | undef v=>exact .undef v
theorem VR.shut {H H':Array Obj} {F:Nat→Prop} {G:GSt} {b:Nat} {ds:Option (List Deferred)} (hb:H[b]?=some (.deferred ds)) (hk:∀ x,x≠b→H'[x]?=H[x]?) {p:PV} {v:Value} (h:VR H F G p v):VR H' (fun x=>F x∧x≠b) G p v:=by
 induction h with
 | imm p v h=>exact .imm p v (h.shut hb hk)
 | agg cs vs e _ ih=>exact .agg cs vs e ih
 | tup cs vs e _ ih=>exact .tup cs vs e ih
 | fn f cs vs e _ ih=>exact .fn f cs vs e ih
 | loc o ver off n a len cap hv k=>exact .loc o ver off n a len cap hv k
 | ref o ver off a hv k=>exact .ref o ver off a hv k
 | mp o ver r hv k=>exact .mp o ver r hv k
theorem z1n {F0 F:Nat→Prop} {G0 G:GSt} {w0 w:World} (h0:∀ b,F0 b→b<w0.heap.size) (hi:Inv F G w) (hn:Next F0 G0 w0 F G w) {b:Nat} (hb:w.heap[b]?=some (.deferred (some []))) (hge:w0.heap.size≤b) :
  Inv (fun x=>F x∧x≠b) G (w.putObj b (.deferred none))∧Next F0 G0 w0 (fun x=>F x∧x≠b) G (w.putObj b (.deferred none)) ∧
   ∀ p v,VR w.heap F G p v→VR (w.putObj b (.deferred none)).heap (fun x=>F x∧x≠b) G p v:=by
 have hk:∀ x,x≠b→(w.putObj b (.deferred none)).heap[x]?=w.heap[x]?:=fun x hx=>World.putObj_heap_other hx
 have hv:∀ p v,VR w.heap F G p v→VR (w.putObj b (.deferred none)).heap (fun x=>F x∧x≠b) G p v:=fun p v h=>h.shut hb hk
 refine ⟨zgx (fun x hx=>by rw [World.putObj_size]; exact hi.fr x hx.1) hi.ver (fun o ob l hx hF=>hi.nF o ob l hx hF.1) ?_ hi.inj,?_,hv⟩
 ·intro o ob l hx
  have hne:=zy7 hi hb o _ hx
  have:=hi.holds hx
  simp only at hne
  cases ob with
  | arr ver et sz cells =>
   obtain ⟨cs,⟨fz,h1,hz⟩,h2,h3,h4⟩:=this
   exact ⟨cs,⟨fz,(hk _ hne).trans h1,hz⟩,h2,h3,fun i p hp=>⟨(h4 i p hp).1,by obtain ⟨u,k1,k2⟩:=(h4 i p hp).2; exact ⟨u,k1,hv _ _ k2⟩⟩⟩
  | map ver es =>
   obtain ⟨ents,clock,h1,h2,h3⟩:=this
   exact ⟨ents,clock,(hk _ hne).trans h1,h2,fun i k u hp=>by obtain ⟨en,k1,k2,k3⟩:=h3 i k u hp; exact ⟨en,k1,hv _ _ k2,hv _ _ k3⟩⟩
  | lp ver b1 r tmps =>
   obtain ⟨h0,t,h1,h2,h3⟩:=this
   exact ⟨h0,t,by rw [← h0]at h1 ⊢; exact (hk _ hne).trans h1,h2,fun i p v q1 q2=>hv _ _ (h3 i p v q1 q2)⟩
 refine ⟨hn.os,hn.tape,hn.output,by rw [World.putObj_size]; exact hn.size,fun x hx=>⟨hn.fsub x hx,?_⟩,fun x hx=>hn.fnew x hx.1,hn.gnew,hn.tick,fun x hx hG=>?_,hn.hand,hn.drawn⟩
 ·have:=h0 x hx; omega
 exact (hk x (by omega)).trans (hn.keep x hx hG)
theorem zkg (hT:zar P T) {F0:Nat→Prop} {G0:GSt} {w0:World} (h0:∀ b,F0 b→b<w0.heap.size) {fn:Func} {a:Act} {v:PV} {Fe:Fence} {n:Nat} {R:Ending→World→Prop} :
  ∀ (bs:List Nat) {F:Nat→Prop} {G:GSt} {w:World},Inv F G w→zct w.heap F G e a→Next F0 G0 w0 F G w→zs4 T G.er e fn.results.toList=some v→bs.Nodup →
   (∀ b∈bs,w0.heap.size≤b∧w.heap[b]?=some (.deferred (some []))) →
   (∀ F' w' cv,Inv F' G w'→Next F0 G0 w0 F' G w'→VR w'.heap F' G v cv→R (.returned cv) w') →
   LeavesInM Fe n P fn a.tmps R (bs.map fun b=>{ target := .collected b,args := #[] }) .returning w
 | [],F,G,w,hi,he,hn,hr,_,_,hR=>by
  obtain ⟨cv,c1,c2⟩:=z1a hT hi he hr
  exact ⟨cv,c1,hR _ _ _ hi hn c2⟩
 | b::bs,F,G,w,hi,he,hn,hr,hnd,hb,hR=>by
  obtain ⟨hge,hd⟩:=hb b (by simp)
  obtain ⟨i1,i2,i3⟩:=z1n h0 hi hn hd hge
  refine ⟨by simp,.inl ⟨b,_,rfl,run_takeDeferred hd,?_⟩⟩
  refine zkg hT h0 bs i1 (fun t=>i3 _ _ (he t)) i2 hr (List.nodup_cons.1 hnd).2 (fun x hx=>⟨(hb x (by simp [hx])).1,?_⟩) hR
  have hne:x≠b:=by rintro rfl; exact (List.nodup_cons.1 hnd).1 hx
  exact (World.putObj_heap_other hne).trans (hb x (by simp [hx])).2
theorem Fn.calls_of {f:FuncId} {fn:Func} (h:Fn P f fn c) (hT:zar P T) {args:List PV} {K:PV→Store→Prop} (hn:args.length≤fn.ntmps) {F:Nat→Prop} {G:GSt} {w:World} {cargs:Array Value} (hi:Inv F G w) (hl:args.length=cargs.size)
  (hw:c.wpIn (fnc none) 0 P (Sto F G w fn.ntmps (zjk T fn.results.toList K)) { tmps:=cargs++Array.replicate (fn.ntmps - cargs.size) undef,defers:=[] } w) :
  Calls P f cargs w fun e w'=>∃ v cv F' G',e = .returned cv∧K v G'.er∧Inv F' G' w'∧Next F G w F' G' w'∧VR w'.heap F' G' v cv:=by
 refine (callsIn_wide (n:=0)).1 (callsIn_of_wp_marks h.at_ h.body trivial (wpIn_mono hw ?_))
 rintro x a' w' ⟨e',F',G',k1,k2,k3,k4,_,bs,k6,k7,k8⟩
 have key:zgp (zs4 T G'.er e' fn.results.toList) (fun v=>K v G'.er)→LeavesInM Fence.wide 0 P fn a'.tmps
   (fun e w'=>∃ v cv F' G',e = .returned cv∧K v G'.er∧Inv F' G' w'∧Next F G w F' G' w'∧VR w'.heap F' G' v cv) a'.defers .returning w':=by
  intro hg
  obtain ⟨v,hv1,hv2⟩:=zmu.1 hg
  rw [k6]
  exact zkg hT hi.fr bs k2 k3 k4 hv1 k7 k8 fun F2 w2 cv i1 i2 i3=>⟨v,cv,F2,G',rfl,hv2,i1,i2,i3⟩
 cases x with
 | normal=>exact key k1
 | ret=>exact key k1
 | _=>exact k1.elim
theorem Fn.calls {f:FuncId} {fn:Func} (h:Fn P f fn c) (hT:zar P T) (hm:P.follows .mixedOrders=true) {args:List PV} {K:PV→Store→Prop} (hn:args.length≤fn.ntmps)
  (hw:W P T c (zjk T fn.results.toList K) (zaj args) S) {F:Nat→Prop} {G:GSt} {w:World} {cargs:Array Value} (hS:G.er=S) (hi:Inv F G w) (hl:args.length=cargs.size)
  (hv:∀ (i:Nat) p c,args[i]?=some p→cargs[i]?=some c→VR w.heap F G p c) :
  Calls P f cargs w fun e w'=>∃ v cv F' G',e = .returned cv∧K v G'.er∧Inv F' G' w'∧Next F G w F' G' w'∧VR w'.heap F' G' v cv :=
 h.calls_of hT hn hi hl (hw.run (R:=none) (nn:=0) hT hm F G w fn.ntmps F G _ w hS hi (z5j hl hv _ _) (Next.refl w) (by simp; omega) Marks.nil h.dst)
theorem Ev.of {f:FuncId} {fn:Func} (h:Fn P f fn c) (hT:zar P T) (hm:P.follows .mixedOrders=true) {args:List PV} {J:PV→Store→Prop} (hn:args.length≤fn.ntmps)
  (hw:W P T c (zjk T fn.results.toList fun v S1=>∃ k,J v (S1.take k)) (zaj args) S):Ev P f args S J:=by
 refine ⟨h.ent,fun F G w cargs hS hi hl hv=>(h.calls hT hm hn hw hS hi hl hv).mono ?_⟩
 rintro en w' ⟨v',cv,F',G',k1,⟨k,k2⟩,k3,k4,k5⟩
 obtain ⟨i1,i2⟩:=zcz k3 k
 exact ⟨v',cv,F',G'.take k,k1,(zib G' k).symm ▸ k2,i1,k4.trans i2,k5.next k3 i2⟩
theorem PC.of {f:FuncId} {fn:Func} (h:Fn P f fn c) (hT:zar P T) (hm:P.follows .mixedOrders=true) {args:List PV} {r:PV} {fr:Bool} (hn:args.length≤fn.ntmps)
  (hw:W P T c (zjk T fn.results.toList fun v S=>reify S (!fr) 10 v=some r) (zaj args) ⟨[],0⟩):PC P f args r fr:=by
 refine ⟨h.ent,fun F w cargs hF hl hv=>?_⟩
 have hi:Inv F ⟨[],0⟩ w:=⟨hF,by simp,by simp,by simp,by simp,by simp,by simp⟩
 refine (h.calls hT hm hn hw rfl hi hl fun i p c q1 q2 => .imm _ _ (hv i p c q1 q2)).mono ?_
 rintro en w' ⟨v',cv,F',G',rfl,k2,k3,k4,k5⟩
 refine ⟨cv,rfl,⟨⟨k4.os,k4.tape,k4.output,k4.size,fun b hb=>k4.keep b hb (by simp)⟩,k4.drawn⟩,(zca k3 k5 k2).mono ?_ (fun _ _=>rfl)⟩
 rintro b (⟨h1,h2⟩ | ⟨o,x,hx,rfl⟩)
 ·rcases k4.fnew b h2 with h3 | h3 | ⟨o,x,hx,_⟩
  ·exact .inr ⟨by simpa using h1,h3⟩
  ·exact .inl ⟨h3,k3.fr b h2⟩
  simp at hx
 rcases k4.gnew o x hx with h3 | ⟨o',y,hy,_⟩
 ·exact .inl ⟨h3,k3.blk_lt hx⟩
 simp at hy
end
end
def z5v:TK→TypeDesc→Bool
 | .bool,.bool=>true
 | .int k,.int k'=>k == k'
 | .str,.string=>true
 | .slice e,.slice e'=>e == e'
 | .ptr e,.pointer e'=>e == e'
 | .arr n e,.array n' e'=>n == n' && e == e'
 | .struct fs,.struct gs=>decide (fs=gs.toList.map fun f=>(f.offset,f.type))
 | .map k v,.map k' v'=>k == k' && v == v'
 | .func,.func _ _ _=>true
 | _,_=>false
theorem zxi {k:TK} {d:TypeDesc} (h:z5v k d=true):k.fits d:=by
 cases k <;> cases d <;> simp_all [z5v,TK.fits]
def okZ (ti:TI) (z:Value):Bool :=
 ti.zero.length == z.cells.size && z.cells.size == ti.size && ((List.range ti.size).all fun k=>match ti.zero[k]?,z.cells[k]? with | some p,some v=>z2b p v | _,_=>true) &&
  (ti.kd.isAgg == match z with | .agg _=>true | _=>false)
def z73 (T:Tab) (k:TK):Bool :=
 match k with
 | .slice e | .arr _ e => !decide ((T e).kd = .none)
 | .struct fs=>fs.all fun f => !decide ((T f.2).kd = .none)
 | .map k v => !decide ((T k).kd = .none) && !decide ((T v).kd = .none)
 | _=>true
def okEq (P:Program) (T:Tab) (t:TypeId) (k:TK):Bool :=
 match k with
 | .struct fs => !zf7 T fs 0 || eqT P t
 | _=>true
def okT (P:Program) (T:Tab) (t:TypeId) (ti:TI):Bool :=
 match P.info? t,P.underlying t with
 | some i,some d=>z5v ti.kd d && i.size == ti.size && i.bytes == ti.bytes && (match i.zero with | some z=>okZ ti z | none=>false) && z73 T ti.kd && okEq P T t ti.kd
 | _,_=>false
theorem z0n {P:Program} {T:Tab} {t:TypeId} (h:okT P T t (T t)=true):TOk P T t:=by
 unfold okT at h
 split at h
 ·rename_i i d h1 h2
  simp only[qB,beq_iff_eq]at h
  obtain ⟨⟨⟨⟨⟨h3,h4⟩,h5⟩,h6⟩,h7⟩,h8⟩:=h
  split at h6
  ·rename_i z hz
   unfold okZ at h6
   simp only[qB,beq_iff_eq,List.all_eq_true,List.mem_range]at h6
   obtain ⟨⟨⟨k1,k2⟩,k3⟩,k4⟩:=h6
   refine ⟨⟨i,d,z,h1,h2,zxi h3,h4,h5,hz,k1,k2,fun k p v q1 q2=>?_,k4⟩,?_,?_⟩
   ·have hk:k<(T t).size:=by
     have:=(List.getElem?_eq_some_iff.1 q1).1
     omega
    have:=k3 k hk
    rw [q1,q2]at this
    exact this
   ·unfold z73 at h7
    cases hk:(T t).kd <;> rw [hk]at h7 <;> first
     | trivial
     | (intro f hf; simp only[List.all_eq_true]at h7; simpa using h7 f hf)
     | (simp_all; done)
   unfold okEq at h8
   cases hk:(T t).kd <;> rw [hk]at h8 <;> first
    | trivial
    | (intro hf; simpa [hf] using h8)
  cases h6
 cases h
def lk:List (Nat × TI)→Tab
 | [],_=>⟨.none,0,0,[]⟩
 | (k,v)::r,t=>if t=k then v else lk r t
theorem z7y {P:Program} {T:Tab}:∀ {L:List (Nat × TI)},L.all (fun x=>okT P T x.1 x.2)=true→∀ t,(lk L t).kd ≠ .none→okT P T t (lk L t)=true
 | [],_,t,h=>absurd rfl h
 | (k,v)::r,h,t,hk=>by
  simp only[List.all_cons,qB]at h
  unfold lk at hk ⊢
  split
  ·rename_i e; rw [e]; exact h.1
  rename_i e; rw [if_neg e]at hk; exact z7y h.2 t hk
theorem z8e {P:Program} {L:List (Nat × TI)} (h:L.all (fun x=>okT P (lk L) x.1 x.2)=true):zar P (lk L) :=
 fun t ht=>z0n (z7y h t ht)
section
def dsts:List Oper→List (Option Tmp)
 | []=>[]
 | o::r=>o.dst::dsts r
theorem zvh:dsts []=[]:=rfl
theorem zrh {d:Option Tmp} {op:Op} {t:TypeId} {p:String} {a:Array Edge} {g:Option (Nat × Bool)} {r:List Oper}:dsts (⟨d,op,t,p,a,g⟩::r)=d::dsts r:=rfl
def gd (ds:List (Option Tmp)) (g:Option (Nat × Bool)) (e:Env):Option Bool :=
 match g with
 | none=>some true
 | some (j,want) =>
  match ds[j]? with
  | some (some d)=>match e d with
   | .bool b=>some (b == want)
   | .tup []=>some false
   | _=>none
  | _=>none
def sOp (D:Bool) (P:Program) (T:Tab) (e:Env) (S:Store) (o:Op) (K:PV→Store→Prop):Prop :=
 match o with
 | .call ⟨.value f,xs,ts⟩ =>
  match e.ev f with
  | .fn g cap =>
   match D with
   | true=>∃ v tx fr,(xs.toList.map e.ev++cap).mapM (reify S true 10)=some tx∧(fr=true∨(xs.toList.map e.ev++cap).mapM (reify ⟨[],0⟩ true 10)=some tx)∧PC P g tx v fr∧K v S
   | false=>∃ J,Ev P g (xs.toList.map e.ev++cap) S J∧∀ v S',J v S'→K v S'
  | .bm g b =>
   match D with
   | true=>∃ v tx fr,(b::xs.toList.map e.ev).mapM (reify S true 10)=some tx∧(fr=true∨(b::xs.toList.map e.ev).mapM (reify ⟨[],0⟩ true 10)=some tx)∧PC P g tx v fr∧K v S
   | false=>∃ J,Ev P g (b::xs.toList.map e.ev) S J∧∀ v S',J v S'→K v S'
  | .yl l =>
   match D with
   | true=>False
   | false=>∃ J,Ey P l (xs.toList.map e.ev) S J∧∀ v S',J v S'→K v S'
  | _=>False
 | o=>pOp P T e S o K
theorem zm8 {D:Bool} {P:Program} {T:Tab} {e:Env} {S:Store} {o:Op} {K:PV→Store→Prop} (h:sOp D P T e S o K):pOp P T e S o K:=by
 unfold sOp at h
 split at h
 ·rename_i f xs ts
  unfold pOp
  simp only[zod]
  split at h
  ·rename_i g cap hf
   simp only[hf]
   cases D with
   | true=>obtain ⟨v,tx,fr,h1,h2,h3,h4⟩:=h; exact ⟨_,h3.ev h1 h2,by rintro v' S' ⟨rfl,rfl⟩; exact h4⟩
   | false=>exact h
  ·rename_i g cap hf
   simp only[hf]
   cases D with
   | true=>obtain ⟨v,tx,fr,h1,h2,h3,h4⟩:=h; exact ⟨_,h3.ev h1 h2,by rintro v' S' ⟨rfl,rfl⟩; exact h4⟩
   | false=>exact h
  ·rename_i l hf
   simp only[hf]
   cases D with
   | true=>exact h.elim
   | false=>exact h
  exact h.elim
 exact h
def zam (D:Bool) (P:Program) (T:Tab) (ds:List (Option Tmp)):List Oper→Env→Store→(Env→Store→Prop)→Prop
 | [],e,S,Q=>Q e S
 | o::r,e,S,Q =>
  match gd ds o.guard e with
  | some true=>sOp D P T e S o.op fun v S'=>zam D P T ds r (e.put o.dst v) S' Q
  | some false=>zam D P T ds r (e.put o.dst (.tup [])) S Q
  | none=>False
theorem zvg:∀ (l:List Oper) (j:Nat),(dsts l)[j]?=(l[j]?).map (·.dst)
 | [],j=>by simp [dsts]
 | o::l,0=>by simp [dsts]
 | o::l,j+1=>by simp [dsts,zvg l j]
theorem zmb {l:List Oper} {o:Oper} {e:Env}:gd (dsts l) o.guard e=gdec l.toArray o e:=by
 unfold gd gdec
 cases o.guard with
 | none=>rfl
 | some q =>
  obtain ⟨j,want⟩:=q
  simp only[zvg,List.getElem?_toArray]
  cases l[j]? with
  | none=>rfl
  | some o'=>simp only[qO,Option.bind_some]; cases o'.dst <;> rfl
section
variable {P:Program} {T:Tab} {Q:Exit→Env→Store→Prop} {e:Env} {S:Store} {a b c:Code}
theorem zl4 {D:Bool} {l:List Oper} {K:Env→Store→Prop}:∀ (r:List Oper) (e:Env) (S:Store),zam D P T (dsts l) r e S K→z6f P T l.toArray K r e S
 | [],_,_,h=>h
 | o::r,e,S,h=>by
  unfold zam at h
  unfold z6f zen
  rw [zmb]at h
  split at h
  ·rename_i hg; rw [hg]; exact zfb (fun v S'=>zl4 r _ _) (zm8 h)
  ·rename_i hg; rw [hg]; exact zl4 r _ _ h
  exact h.elim
theorem W.k {id:Nat} {l:List Oper} (h:∀ K:Env→Store→Prop,(∀ e S,Q .normal e S→K e S)→zam false P T (dsts l) l e S K):W P T (.region id l.toArray false) Q e S :=
 W.region (zl4 _ _ _ (h _ fun _ _ h=>h))
theorem W.r {id:Nat} {l:List Oper} (h:∀ K:Env→Store→Prop,(∀ e S,W P T b Q e S→K e S)→zam false P T (dsts l) l e S K):W P T (.seq (.region id l.toArray false) b) Q e S :=
 W.seq (W.k fun K hK=>h K hK)
theorem xn {n:Env→Store→Prop} (h:n e S):XThen n Q .normal e S:=h
theorem xe {n:Env→Store→Prop} {i:Nat} (h:Q (.exit i) e S):XThen n Q (.exit i) e S:=h
theorem XThen.ret {n:Env→Store→Prop} (h:Q .ret e S):XThen n Q .ret e S:=h
theorem XbN {i:Nat} (h:Q .normal e S):XBlock i Q .normal e S:=h
theorem XBlock.ret {i:Nat} (h:Q .ret e S):XBlock i Q .ret e S:=h
theorem XBlock.hit {i:Nat} (h:Q .normal e S):XBlock i Q (.exit i) e S:=by simpa [XBlock] using h
theorem XBlock.miss {i j:Nat} (hij:j≠i) (h:Q (.exit j) e S):XBlock i Q (.exit j) e S:=by simpa [XBlock,hij] using h
theorem z4e {t:Tmp}:e.ev (.tmp t)=e t:=rfl
theorem zvp {v:Value}:e.ev (.const v)=zc6 v:=rfl
theorem zzd {f:FuncId}:e.ev (.func f) = .fn f []:=rfl
def evS (e:Env) (x:Operand):Option PV:=some (e.ev x)
theorem zzc {t:Tmp}:evS e (.tmp t)=some (e t):=rfl
theorem zrr {v:Value}:evS e (.const v)=some (zc6 v):=rfl
theorem zvo {f:FuncId}:evS e (.func f)=some (.fn f []):=rfl
theorem zwq {d t:Nat} {v:PV}:(e.put (some d) v) t=if t=d then v else e t:=rfl
theorem zwp {v:PV}:e.put none v=e:=rfl
def zac (D:Bool) (P:Program) (T:Tab) (ds:List (Option Tmp)) (g:FuncId) (xs:List PV) (S:Store) (d:Option Tmp) (r:List Oper) (e:Env) (Q:Env→Store→Prop):Prop :=
 match D with
 | true=>∃ v tx fr,xs.mapM (reify S true 10)=some tx∧(fr=true∨xs.mapM (reify ⟨[],0⟩ true 10)=some tx)∧PC P g tx v fr∧zam true P T ds r (e.put d v) S Q
 | false=>∃ J,Ev P g xs S J∧∀ v S',J v S'→zam false P T ds r (e.put d v) S' Q
def z8v (D:Bool) (P:Program) (T:Tab) (ds:List (Option Tmp)) (l:Nat) (xs:List PV) (S:Store) (d:Option Tmp) (r:List Oper) (e:Env) (Q:Env→Store→Prop):Prop :=
 match D with
 | true=>False
 | false=>∃ J,Ey P l xs S J∧∀ v S',J v S'→zam false P T ds r (e.put d v) S' Q
variable {D:Bool} {ds:List (Option Tmp)} {d:Option Tmp} {t:TypeId} {p:String} {af:Array Edge} {g:Option (Nat × Bool)} {r:List Oper} {K:Env→Store→Prop}
theorem zac.ev {f:FuncId} {xs:List PV} {J:PV→Store→Prop} (h:Ev P f xs S J) (k:∀ v S',J v S'→zam false P T ds r (e.put d v) S' K):zac false P T ds f xs S d r e K:=⟨J,h,k⟩
theorem zac.pc {f:FuncId} {xs ts:List PV} {v:PV} {fr:Bool} (h:PC P f ts v fr) (h1:xs.mapM (reify S true 10)=some ts) (h2:fr=true∨xs.mapM (reify ⟨[],0⟩ true 10)=some ts)
  (k:zam D P T ds r (e.put d v) S K):zac D P T ds f xs S d r e K:=by
 cases D with
 | true=>exact ⟨v,ts,fr,h1,h2,h,k⟩
 | false=>exact ⟨_,h.ev h1 h2,by rintro v' S' ⟨rfl,rfl⟩; exact k⟩
def zo4:Op→Bool
 | .alloc _ | .box .. | .buildSlice .. | .makeSlice .. | .makeMap .. | .store .. | .mapUpdate .. | .insert .. => false
 | .call ⟨.builtin .append,_,_⟩=>false
 | .call ⟨.builtin .clear,_,_⟩=>false
 | .call ⟨.builtin .copy,_,_⟩=>false
 | _=>true
def ze6:List Oper→Nat→List Nat
 | [],_=>[]
 | o::r,i=>if zo4 o.op then ze6 r (i+1) else i::ze6 r (i+1)
theorem zh3:∀ (l:List Oper) (k i:Nat) (o:Oper),l[i]?=some o→k+i ∉ ze6 l k→zo4 o.op=true
 | [],_,_,_,h,_=>by simp at h
 | o'::l,k,0,o,h,hn=>by
  simp at h; subst h
  unfold ze6 at hn
  split at hn
  ·assumption
  simp at hn
 | o'::l,k,i+1,o,h,hn=>by
  simp only[List.getElem?_cons_succ]at h
  refine zh3 l (k+1) i o h fun hm=>hn ?_
  unfold ze6
  split
  ·rwa [show k+(i+1)=k+1+i by omega]
  rw [show k+(i+1)=k+1+i by omega]; exact List.mem_cons_of_mem _ hm
theorem zt4 {o:Op} {K:PV→Store→Prop} (hf:zo4 o=true) (h:sOp true P T e S o K):z26 P T S e o fun v=>K v S:=by
 unfold sOp at h
 split at h
 ·rename_i f xs ts
  simp only[z26]
  split at h
  ·rename_i g cap hf
   simp only[hf]
   obtain ⟨v,tx,fr,h1,h2,h3,h4⟩:=h
   exact ⟨v,tx,fr,h1,h2,h3,h4⟩
  ·rename_i g cap hf
   simp only[hf]
   obtain ⟨v,tx,fr,h1,h2,h3,h4⟩:=h
   exact ⟨v,tx,fr,h1,h2,h3,h4⟩
  ·exact h.elim
  exact h.elim
 rename_i hne
 cases o with
 | call c =>
  obtain ⟨cal,xs,ts⟩:=c
  cases cal with
  | value f=>exact absurd rfl (hne f xs ts)
  | builtin b =>
   cases b <;> first
    | (simp [zo4]at hf; done)
    | exact h
  | _=>exact h
 | _=>first
  | (simp [zo4]at hf; done)
  | exact h
theorem zha {all:List Oper} {K:Env→Store→Prop}:∀ (r:List Oper) (k:Nat) (e:Env) (S:Store),all.drop k=r→zam true P T (dsts all) r e S K →
  zbq P T all.toArray (ze6 all 0) [] [] K (List.range' k r.length) e S
 | [],_,_,_,_,h=>h
 | o::r,k,e,S,hk,h=>by
  have ho:all[k]?=some o:=by
   have:=congrArg (fun l=>l[0]?) hk
   simpa using this
  have hr:all.drop (k+1)=r:=by
   have:=congrArg (List.drop 1) hk
   simpa [List.drop_drop] using this
  unfold zam at h
  simp only[List.length_cons,List.range'_succ,zbq,List.getElem?_toArray,ho]
  rw [zmb]at h
  unfold zen
  split at h
  ·rename_i hg
   rw [hg]
   simp only
   split
   ·rename_i hc
    exact zfb (fun v S' hv=>⟨.inr (by intro o ho; cases ho),zha r (k+1) _ _ hr hv⟩) (zm8 h)
   rename_i hc
   have hflat:=zh3 all 0 k o ho (by simpa using hc)
   have:=zt4 hflat h
   rw [zcj]at this ⊢
   obtain ⟨v,h1,h2⟩:=this
   exact ⟨v,h1,by simp,zha r (k+1) _ _ hr h2⟩
  ·rename_i hg; rw [hg]; exact zha r (k+1) _ _ hr h
  exact h.elim
theorem W.draw_k {id:Nat} {l:List Oper} (hc:zge l.toArray (List.range' 0 l.length) (ze6 l 0) []=true) (h:∀ K:Env→Store→Prop,(∀ e S,Q .normal e S→K e S)→zam true P T (dsts l) l e S K) :
  W P T (.region id l.toArray true) Q e S :=
 W.region_any (List.range' 0 l.length) (ze6 l 0) [] [] hc (zha l 0 _ _ rfl (h _ fun _ _ h=>h))
theorem W.seq_draw {id:Nat} {l:List Oper} (hc:zge l.toArray (List.range' 0 l.length) (ze6 l 0) []=true) (h:∀ K:Env→Store→Prop,(∀ e S,W P T b Q e S→K e S)→zam true P T (dsts l) l e S K) :
  W P T (.seq (.region id l.toArray true) b) Q e S :=
 W.seq (W.draw_k hc fun K hK=>h K hK)
theorem zvm:zam D P T ds [] e S K=K e S:=rfl
theorem zrl {x:Operand}:zam D P T ds (⟨d,.move x,t,p,af,g⟩::r) e S K =
  (match gd ds g e with | some true=>(match evS e x with | some v=>zam D P T ds r (e.put d v) S K | none=>False) | some false=>zam D P T ds r (e.put d (.tup [])) S K | none=>False):=by
 rw [zam]; cases D <;> rfl
theorem zl1 {x:Operand}:zam D P T ds (⟨d,.assign x,t,p,af,g⟩::r) e S K =
  (match gd ds g e with | some true=>(match evS e x with | some v=>zam D P T ds r (e.put d v) S K | none=>False) | some false=>zam D P T ds r (e.put d (.tup [])) S K | none=>False):=by
 rw [zam]; cases D <;> rfl
theorem zrm {x y z:Operand}:zam D P T ds (⟨d,.pick x y z,t,p,af,g⟩::r) e S K =
  (match gd ds g e with | some true=>(match z29 (e.ev x) (e.ev y) (e.ev z) with | some v=>zam D P T ds r (e.put d v) S K | none=>False) | some false=>zam D P T ds r (e.put d (.tup [])) S K | none=>False):=by
 rw [zam]; cases D <;> rfl
theorem zrk {t1:TypeId} {x:Operand}:zam D P T ds (⟨d,.load t1 x,t,p,af,g⟩::r) e S K =
  (match gd ds g e with | some true=>(match zsn (T t1) S (e.ev x) with | some v=>zam D P T ds r (e.put d v) S K | none=>False) | some false=>zam D P T ds r (e.put d (.tup [])) S K | none=>False):=by
 rw [zam]; cases D <;> rfl
theorem zim {x:Operand}:zam D P T ds (⟨d,.nilCheck x,t,p,af,g⟩::r) e S K =
  (match gd ds g e with | some true=>(match zf8 S (e.ev x) with | some v=>zam D P T ds r (e.put d v) S K | none=>False) | some false=>zam D P T ds r (e.put d (.tup [])) S K | none=>False):=by
 rw [zam]; cases D <;> rfl
theorem zoo {op:BinOp} {t1 t2:TypeId} {x y:Operand}:zam D P T ds (⟨d,.binOp op t1 x y t2,t,p,af,g⟩::r) e S K =
  (match gd ds g e with | some true=>(match z68 T S op t1 (e.ev x) (e.ev y) with | some v=>zam D P T ds r (e.put d v) S K | none=>False) | some false=>zam D P T ds r (e.put d (.tup [])) S K | none=>False):=by
 rw [zam]; cases D <;> rfl
theorem zrn {op:UnOp} {t1:TypeId} {x:Operand}:zam D P T ds (⟨d,.unOp op t1 x,t,p,af,g⟩::r) e S K =
  (match gd ds g e with | some true=>(match pUn op (e.ev x) with | some v=>zam D P T ds r (e.put d v) S K | none=>False) | some false=>zam D P T ds r (e.put d (.tup [])) S K | none=>False):=by
 rw [zam]; cases D <;> rfl
theorem zkb {t1 t2:TypeId} {x:Operand}:zam D P T ds (⟨d,.convert t1 t2 x,t,p,af,g⟩::r) e S K =
  (match gd ds g e with | some true=>(match zhf T S t1 t2 (e.ev x) with | some v=>zam D P T ds r (e.put d v) S K | none=>False) | some false=>zam D P T ds r (e.put d (.tup [])) S K | none=>False):=by
 rw [zam]; cases D <;> rfl
theorem zil {fn:Go.Fn} {xs ys:Array Operand}:zam D P T ds (⟨d,.makeFunc fn xs ys,t,p,af,g⟩::r) e S K =
  (match gd ds g e with | some true=>(match zi3 fn (xs.toList.map e.ev) (ys.toList.map e.ev) with | some v=>zam D P T ds r (e.put d v) S K | none=>False) | some false=>zam D P T ds r (e.put d (.tup [])) S K | none=>False):=by
 rw [zam]; cases D <;> rfl
theorem zot {t1:TypeId} {x:Operand} {lo hi:Option Operand}:zam D P T ds (⟨d,.slice t1 x lo hi none,t,p,af,g⟩::r) e S K =
  (match gd ds g e with | some true=>(match zsq T S t1 (e.ev x) (lo.map e.ev) (hi.map e.ev) with | some v=>zam D P T ds r (e.put d v) S K | none=>False) | some false=>zam D P T ds r (e.put d (.tup [])) S K | none=>False):=by
 rw [zam]; cases D <;> rfl
theorem zht {t1:TypeId} {x:Operand} {n:Nat}:zam D P T ds (⟨d,.fieldAddr t1 x n,t,p,af,g⟩::r) e S K =
  (match gd ds g e with | some true=>(match zeg T S t1 (e.ev x) n with | some v=>zam D P T ds r (e.put d v) S K | none=>False) | some false=>zam D P T ds r (e.put d (.tup [])) S K | none=>False):=by
 rw [zam]; cases D <;> rfl
theorem zor {t1:TypeId} {x:Operand} {n:Nat}:zam D P T ds (⟨d,.field t1 x n,t,p,af,g⟩::r) e S K =
  (match gd ds g e with | some true=>(match zsh T t1 (e.ev x) n with | some v=>zam D P T ds r (e.put d v) S K | none=>False) | some false=>zam D P T ds r (e.put d (.tup [])) S K | none=>False):=by
 rw [zam]; cases D <;> rfl
theorem zhu {t1:TypeId} {x y:Operand}:zam D P T ds (⟨d,.indexAddr t1 x y,t,p,af,g⟩::r) e S K =
  (match gd ds g e with | some true=>(match zeh T S t1 (e.ev x) (e.ev y) with | some v=>zam D P T ds r (e.put d v) S K | none=>False) | some false=>zam D P T ds r (e.put d (.tup [])) S K | none=>False):=by
 rw [zam]; cases D <;> rfl
theorem zos {t1:TypeId} {x y:Operand}:zam D P T ds (⟨d,.index t1 x y,t,p,af,g⟩::r) e S K =
  (match gd ds g e with | some true=>(match zsl T t1 (e.ev x) (e.ev y) with | some v=>zam D P T ds r (e.put d v) S K | none=>False) | some false=>zam D P T ds r (e.put d (.tup [])) S K | none=>False):=by
 rw [zam]; cases D <;> rfl
theorem zkc {x:Operand} {n:Nat}:zam D P T ds (⟨d,.extract x n,t,p,af,g⟩::r) e S K =
  (match gd ds g e with | some true=>(match zli (e.ev x) n with | some v=>zam D P T ds r (e.put d v) S K | none=>False) | some false=>zam D P T ds r (e.put d (.tup [])) S K | none=>False):=by
 rw [zam]; cases D <;> rfl
theorem zop {t1:TypeId} {ps:Array (Nat × Operand)}:zam D P T ds (⟨d,.build t1 ps,t,p,af,g⟩::r) e S K =
  (match gd ds g e with | some true=>(match zsd T t1 (ps.toList.map fun p=>(p.1,e.ev p.2)) with | some v=>zam D P T ds r (e.put d v) S K | none=>False) | some false=>zam D P T ds r (e.put d (.tup [])) S K | none=>False):=by
 rw [zam]; cases D <;> rfl
theorem zl3 {t1:TypeId} {x y:Operand} {ok:Bool}:zam D P T ds (⟨d,.lookup t1 x y ok,t,p,af,g⟩::r) e S K =
  (match gd ds g e with | some true=>(match zmv T S t1 (e.ev x) (e.ev y) ok with | some v=>zam D P T ds r (e.put d v) S K | none=>False) | some false=>zam D P T ds r (e.put d (.tup [])) S K | none=>False):=by
 rw [zam]; cases D <;> rfl
theorem zvj {xs:Array Operand} {ts:Array TypeId}:zam D P T ds (⟨d,.call ⟨.builtin .len,xs,ts⟩,t,p,af,g⟩::r) e S K =
  (match gd ds g e with | some true=>(match zcx T S (.builtin .len) (xs.toList.map e.ev) ts.toList with | some v=>zam D P T ds r (e.put d v) S K | none=>False) | some false=>zam D P T ds r (e.put d (.tup [])) S K | none=>False):=by
 rw [zam]; cases D <;> rfl
theorem zvk {xs:Array Operand} {ts:Array TypeId}:zam D P T ds (⟨d,.call ⟨.builtin .max,xs,ts⟩,t,p,af,g⟩::r) e S K =
  (match gd ds g e with | some true=>(match z27 (xs.toList.map e.ev) with | some v=>zam D P T ds r (e.put d v) S K | none=>False) | some false=>zam D P T ds r (e.put d (.tup [])) S K | none=>False):=by
 rw [zam]; cases D <;> rfl
theorem zvl {xs:Array Operand} {ts:Array TypeId}:zam D P T ds (⟨d,.call ⟨.builtin .min,xs,ts⟩,t,p,af,g⟩::r) e S K =
  (match gd ds g e with | some true=>(match z28 (xs.toList.map e.ev) with | some v=>zam D P T ds r (e.put d v) S K | none=>False) | some false=>zam D P T ds r (e.put d (.tup [])) S K | none=>False):=by
 rw [zam]; cases D <;> rfl
theorem zl0 {x y:Operand} {t1 t2:TypeId}:zam D P T ds (⟨d,.call ⟨.builtin .append,#[x,y],#[t1,t2]⟩,t,p,af,g⟩::r) e S K =
  (match gd ds g e with | some true=>(match z7f T t1 t2 (e.ev y) with | some y=>zg1 T t1 S (e.ev x) y fun v S=>zam D P T ds r (e.put d v) S K | none=>False) | some false=>zam D P T ds r (e.put d (.tup [])) S K | none=>False):=by
 rw [zam]; cases D <;> rfl
theorem zrj {x y:Operand} {t1 t2:TypeId}:zam D P T ds (⟨d,.call ⟨.builtin .copy,#[x,y],#[t1,t2]⟩,t,p,af,g⟩::r) e S K =
  (match gd ds g e with | some true=>(zx0 T t1 S (e.ev x) (e.ev y) fun v S=>zam D P T ds r (e.put d v) S K) | some false=>zam D P T ds r (e.put d (.tup [])) S K | none=>False):=by
 rw [zam]; cases D <;> rfl
theorem zoq {x:Operand} {t1:TypeId}:zam D P T ds (⟨d,.call ⟨.builtin .clear,#[x],#[t1]⟩,t,p,af,g⟩::r) e S K =
  (match gd ds g e with | some true=>(zpc T t1 S (e.ev x) fun v S=>zam D P T ds r (e.put d v) S K) | some false=>zam D P T ds r (e.put d (.tup [])) S K | none=>False):=by
 rw [zam]; cases D <;> rfl
theorem zri {f:Operand} {xs:Array Operand} {ts:Array TypeId}:zam D P T ds (⟨d,.call ⟨.value f,xs,ts⟩,t,p,af,g⟩::r) e S K =
  (match gd ds g e with | some true=>(match e.ev f with | .fn f1 cap=>zac D P T ds f1 (xs.toList.map e.ev++cap) S d r e K | .bm f1 b=>zac D P T ds f1 (b::xs.toList.map e.ev) S d r e K | .yl l=>z8v D P T ds l (xs.toList.map e.ev) S d r e K | _=>False) | some false=>zam D P T ds r (e.put d (.tup [])) S K | none=>False):=by
 rw [zam]; cases D <;> rfl
theorem zon {t1:TypeId}:zam D P T ds (⟨d,.alloc t1,t,p,af,g⟩::r) e S K =
  (match gd ds g e with | some true=>((T t1).kd ≠ .none∧zam D P T ds r (e.put d (.ref S.obs.length S.tick 0)) (S.push t1 (T t1).size (T t1).zero) K) | some false=>zam D P T ds r (e.put d (.tup [])) S K | none=>False):=by
 rw [zam]; cases D <;> rfl
theorem zvi {t1:TypeId} {x:Operand}:zam D P T ds (⟨d,.box t1 x,t,p,af,g⟩::r) e S K =
  (match gd ds g e with | some true=>((T t1).kd ≠ .none∧(e.ev x).cells.length=(T t1).size∧zao (e.ev x).cells∧zam D P T ds r (e.put d (.ref S.obs.length S.tick 0)) (S.push t1 (T t1).size (e.ev x).cells) K) | some false=>zam D P T ds r (e.put d (.tup [])) S K | none=>False):=by
 rw [zam]; cases D <;> rfl
theorem zkd {t1:TypeId}:zam D P T ds (⟨d,.makeMap t1 none,t,p,af,g⟩::r) e S K =
  (match gd ds g e with | some true=>(zam D P T ds r (e.put d (.mp S.obs.length S.tick)) S.pushMap K) | some false=>zam D P T ds r (e.put d (.tup [])) S K | none=>False):=by
 rw [zam]; simp only[sOp,pOp,Option.isNone_none,true_and]
theorem zou {t1:TypeId} {x y:Operand}:zam D P T ds (⟨d,.store t1 x y,t,p,af,g⟩::r) e S K =
  (match gd ds g e with | some true=>(pOp P T e S (.store t1 x y) fun v S=>zam D P T ds r (e.put d v) S K) | some false=>zam D P T ds r (e.put d (.tup [])) S K | none=>False):=by
 rw [zam]; rfl
theorem zgs {t1:TypeId} {n:Nat} {ps:Array (Nat × Operand)}:zam D P T ds (⟨d,.buildSlice t1 n ps,t,p,af,g⟩::r) e S K =
  (match gd ds g e with | some true=>(pOp P T e S (.buildSlice t1 n ps) fun v S=>zam D P T ds r (e.put d v) S K) | some false=>zam D P T ds r (e.put d (.tup [])) S K | none=>False):=by
 rw [zam]; rfl
theorem zhv {t1:TypeId} {x y:Operand}:zam D P T ds (⟨d,.makeSlice t1 x y,t,p,af,g⟩::r) e S K =
  (match gd ds g e with | some true=>(pOp P T e S (.makeSlice t1 x y) fun v S=>zam D P T ds r (e.put d v) S K) | some false=>zam D P T ds r (e.put d (.tup [])) S K | none=>False):=by
 rw [zam]; rfl
theorem zhw {t1:TypeId} {x y z:Operand}:zam D P T ds (⟨d,.mapUpdate t1 x y z,t,p,af,g⟩::r) e S K =
  (match gd ds g e with | some true=>(pOp P T e S (.mapUpdate t1 x y z) fun v S=>zam D P T ds r (e.put d v) S K) | some false=>zam D P T ds r (e.put d (.tup [])) S K | none=>False):=by
 rw [zam]; rfl
theorem zl2 {t1:TypeId} {x y z:Operand}:zam D P T ds (⟨d,.insert t1 x y z,t,p,af,g⟩::r) e S K =
  (match gd ds g e with | some true=>(pOp P T e S (.insert t1 x y z) fun v S=>zam D P T ds r (e.put d v) S K) | some false=>zam D P T ds r (e.put d (.tup [])) S K | none=>False):=by
 rw [zam]; rfl
theorem zsp {t1:TypeId} {a x:Operand} {K:PV→Store→Prop}:pOp P T e S (.store t1 a x) K=(    match e.ev a with
  | .ref o ver off =>
   match S.obs[o]? with
   | some (.arr v et sz cells) =>
    v=ver∧(T t1).kd ≠ .none∧(e.ev x).cells.length=(T t1).size∧off+(T t1).size≤cells.length∧zao (e.ev x).cells ∧
     K (.tup []) (S.set o (.arr v et sz (spl cells off (e.ev x).cells)))
   | _=>False
  | _=>False):=rfl
theorem zhy {t1:TypeId} {n:Nat} {parts:Array (Nat × Operand)} {K:PV→Store→Prop}:pOp P T e S (.buildSlice t1 n parts) K=(    match (T t1).kd with
  | .slice et =>
   n≤16777216∧n*(T et).size≤16777216 ∧
   match zgo T (fun i=>some (i*(T et).size,(T et).size)) (repz (T et).zero n) (parts.toList.map fun p=>(p.1,e.ev p.2)) with
   | some cells=>zao cells∧K (.loc S.obs.length S.tick 0 n) (S.push et (T et).size cells)
   | none=>False
  | _=>False):=rfl
theorem zi5 {t1:TypeId} {l c:Operand} {K:PV→Store→Prop}:pOp P T e S (.makeSlice t1 l c) K=(    match (T t1).kd,e.ev l,e.ev c with
  | .slice et,.int _ l,.int _ c=>l=c∧0≤l∧(T et).bytes*l≤281474976710656∧l≤9223372036854775807 ∧
    K (.loc S.obs.length S.tick 0 l.toNat) (S.push et (T et).size (repz (T et).zero l.toNat))
  | _,_,_=>False):=rfl
theorem zi6 {t1:TypeId} {m k x:Operand} {K:PV→Store→Prop}:pOp P T e S (.mapUpdate t1 m k x) K=(    match (T t1).kd,e.ev m with
  | .map kt _,.mp o ver =>
   match S.obs[o]? with
   | some (.map v es) =>
    v=ver∧TK.keyed T kt (e.ev k)=true ∧
     match findKey (e.ev k) es 0 with
     | some (some (i,_))=>K (.tup []) (S.set o (.map v (es.set i (e.ev k,e.ev x))))
     | some none=>K (.tup []) (S.set o (.map v (es++[(e.ev k,e.ev x)])))
     | none=>False
   | _=>False
  | _,_=>False):=rfl
theorem zpf {t1:TypeId} {m k x:Operand} {K:PV→Store→Prop}:pOp P T e S (.insert t1 m k x) K=(    match (T t1).kd,e.ev m with
  | .map kt _,.mp o ver =>
   match S.obs[o]? with
   | some (.map v es) =>
    v=ver∧TK.keyed T kt (e.ev k)=true ∧
     match findKey (e.ev k) es 0 with
     | some (some (i,_))=>K (.tup []) (S.set o (.map v (es.set i (e.ev k,e.ev x))))
     | some none=>K (.tup []) (S.set o (.map v (es++[(e.ev k,e.ev x)])))
     | none=>False
   | _=>False
  | _,_=>False):=rfl
theorem zsf {t:TypeId} {x:PV} {K:PV→Store→Prop}:zpc T t S x K=(
 match (T t).kd with
 | .slice e =>
  match x with
  | .loc o ver off n =>
   match S.obs[o]? with
   | some (.arr v et sz cells)=>v=ver∧(T e).kd ≠ .none∧off+(repz (T e).zero n).length≤cells.length∧zao (repz (T e).zero n)∧K (.tup []) (S.set o (.arr v et sz (spl cells off (repz (T e).zero n))))
   | _=>False
  | _=>False
 | _=>False):=rfl
theorem zv9 {t:TypeId} {x y:PV} {K:PV→Store→Prop}:zx0 T t S x y K=(
 match (T t).kd with
 | .slice e =>
  match zaz S (T e).size y with
  | some (m,ys) =>
   match x with
   | .loc o ver off n =>
    match S.obs[o]? with
    | some (.arr v et sz cells)=>v=ver∧sz=(T e).size∧off+(ys.take (min m n*sz)).length≤cells.length ∧
      K (.int .i64 ((min m n:Nat):Int)) (S.set o (.arr v et sz (spl cells off (ys.take (min m n*sz)))))
    | _=>False
   | _=>False
  | none=>False
 | _=>False):=rfl
theorem zq9 {t:TypeId} {y:PV}:z7f T t t y=some y:=if_pos rfl
theorem zpa {t:TypeId} {x y:PV} {K:PV→Store→Prop}:zg1 T t S x y K=(
 match (T t).kd with
 | .slice e =>
  match zaz S (T e).size y with
  | some (m,ys) =>
   match x with
   | .nils=>if m=0 then K .nils S else m*(T e).bytes≤140737488355328∧m≤maxLen∧K (.loc S.obs.length S.tick 0 m) (S.push e (T e).size ys)
   | .loc o ver 0 n =>
    match S.obs[o]? with
    | some (.arr v et sz cells) =>
     v=ver∧et=e∧sz=(T e).size∧n*sz≤cells.length∧(n+m)*(T e).bytes≤140737488355328∧n+m≤maxLen ∧
      K (.loc o S.tick 0 (n+m)) ⟨S.obs.set o (.arr S.tick et sz (cells.take (n*sz)++ys)),S.tick+1⟩
    | _=>False
   | _=>False
  | none=>False
 | _=>False):=rfl
end
end
theorem z0k {t i:Nat} {ts:List Nat} {v:PV} {vs:List PV}:Env.of (t::ts) (v::vs) i=if i=t then v else Env.of ts vs i:=rfl
theorem zls {v:PV} {vs:List PV}:zaj (v::vs) 0=v:=rfl
theorem zlt {v:PV} {vs:List PV} {t:Nat}:zaj (v::vs) (t+1)=zaj vs t:=rfl
theorem Br {T:Tab} {rs:List ResultVar} {K:PV→Store→Prop} {e:Env} {S:Store} {v:PV} (h:zs4 T S e rs=some v) (k:K v S):zjk T rs K .ret e S:=by
 simp only[zjk,h]; exact k
theorem zjk.norm {T:Tab} {rs:List ResultVar} {K:PV→Store→Prop} {e:Env} {S:Store} {v:PV} (h:zs4 T S e rs=some v) (k:K v S):zjk T rs K .normal e S:=by
 simp only[zjk,h]; exact k
theorem w64 {x:Int} (h1 : -9223372036854775808≤x) (h2:x<9223372036854775808):IntKind.i64.wrap x=x:=by
 rw [IntKind.wrap_i64]; omega
abbrev zbx (p:List (List UInt8)):PV := .sl (p.map .str) p.length
abbrev eInts (p:List Int):PV := .sl (p.map (.int .i64)) p.length
theorem tk {α:Type} {l:List α} {i:Nat} {a:α} (h:l[i]?=some a):l.take (i+1)=l.take i++[a]:=by
 rw [List.take_add_one,h]; rfl
theorem zaf {α:Type} {l:List α} {i:Nat} (h:i<l.length):∃ a,l[i]?=some a∧a∈l:=⟨l[i],List.getElem?_eq_getElem h,List.getElem_mem h⟩
theorem z53 {a b:Int}:(if b>a then b else a)=max a b:=by omega
theorem z54 {a b:Int}:(if b<a then b else a)=min a b:=by omega
-- BUNDLES
theorem bq1:(true == false)=false:=rfl
theorem bq2:(false == true)=false:=rfl
theorem bq3:(true == true)=true:=rfl
theorem bq4:(false == false)=true:=rfl
theorem nb1:(!true)=false:=rfl
theorem nb2:(!false)=true:=rfl
theorem zzo {ds:List (Option Tmp)} {e:Env}:gd ds none e=some true:=rfl
theorem zzp {ds:List (Option Tmp)} {e:Env} {j:Nat} {want:Bool}:gd ds (some (j,want)) e=(match ds[j]? with
  | some (some d)=>match e d with
   | .bool b=>some (b == want)
   | .tup []=>some false
   | _=>none
  | _=>none):=rfl
theorem z4s {k:IntKind} {n:Int}:zc6 (.int k n) = .int k n:=rfl
theorem z0e {b:Bool}:zc6 (.bool b) = .bool b:=rfl
theorem z0h:zc6 (.pointer none) = .nilp:=rfl
theorem z0i:zc6 (.slice none 0 0) = .nils:=rfl
theorem z0f:zc6 .nilFunc = .nilf:=rfl
theorem z0g:zc6 (.map none) = .nilm:=rfl
theorem z4t {s:ByteArray}:zc6 (.string s) = .str s.data.toList:=rfl
theorem gl0 {a:Option Tmp} {l:List (Option Tmp)}:(a::l)[0]?=some a:=rfl
theorem gls {a:Option Tmp} {l:List (Option Tmp)} {i:Nat}:(a::l)[i+1]?=l[i]?:=rfl
theorem zrb {cs:List PV}:(PV.agg cs).cells=cs:=rfl
theorem z0v {k:IntKind} {n:Int}:pUn .neg (.int k n)=some (.int k (k.wrap (0 - n))):=rfl
theorem z0w {b:Bool}:pUn .not (.bool b)=some (.bool (!b)):=rfl
theorem zpg {t:Bool} {a b:PV}:z29 (.bool t) a b=some (if t then a else b):=rfl
theorem zkh {vs:List PV} {i:Nat}:zli (.tup vs) i=vs[i]?:=rfl
theorem zwe {ti:TI} {S:Store} {cs:List PV} {off:Nat}:zsn ti S (.ip cs off)=zh5 ti cs off:=rfl
theorem zso {ti:TI} {S:Store} {o ver off:Nat}:zsn ti S (.ref o ver off)=(S.cellsOf o ver).bind fun cells=>zh5 ti cells off:=rfl
theorem zkk {S:Store} {cs:List PV} {off:Nat}:zf8 S (.ip cs off)=some (.ip cs off):=rfl
theorem zi4 {S:Store} {o ver off:Nat}:zf8 S (.ref o ver off)=(S.cellsOf o ver).map fun _ => .ref o ver off:=rfl
theorem zwf {x:PV}:z27 [x]=some x:=rfl
theorem zwg {k k':IntKind} {a b:Int} {r:List PV}:z27 (.int k a :: .int k' b::r)=z27 (.int k (if b>a then b else a)::r):=rfl
theorem zwh {x:PV}:z28 [x]=some x:=rfl
theorem zwi {k k':IntKind} {a b:Int} {r:List PV}:z28 (.int k a :: .int k' b::r)=z28 (.int k (if b<a then b else a)::r):=rfl
theorem zvz {k:TK}:k.isAgg=(match k with | .struct _ | .arr _ _=>true | _=>false):=rfl
theorem z0q {T:Tab} {S:Store} {op:BinOp} {t:TypeId} {x y:PV}:z68 T S op t x y=(
 match x,y with
 | .int k a,.int k' b =>
  match op with
  | .shl | .shr=>zwk op k a b
  | _=>if k=k' then zsb op k a b else none
 | .str a,.str b=>z0u op a b
 | _,_ =>
  match op with
  | .eql=>(pEq T S t x y).map .bool
  | .neq=>(pEq T S t x y).map fun b => .bool (!b)
  | _=>none):=rfl
theorem zsc {op:BinOp} {k:IntKind} {a b:Int}:zsb op k a b=(
 match op with
 | .add=>some (.int k (k.wrap (a+b)))
 | .sub=>some (.int k (k.wrap (a - b)))
 | .mul=>some (.int k (k.wrap (a*b)))
 | .quo=>if b=0 then none else some (.int k (k.wrap (a.tdiv b)))
 | .rem=>if b=0 then none else some (.int k (a.tmod b))
 | .and=>some (.int k (k.wrap (BitVec.ofInt k.bits a &&& BitVec.ofInt k.bits b).toNat))
 | .or=>some (.int k (k.wrap (BitVec.ofInt k.bits a ||| BitVec.ofInt k.bits b).toNat))
 | .xor=>some (.int k (k.wrap (BitVec.ofInt k.bits a ^^^ BitVec.ofInt k.bits b).toNat))
 | .eql=>some (.bool (a == b))
 | .neq=>some (.bool (a != b))
 | .lss=>some (.bool (a<b))
 | .leq=>some (.bool (a≤b))
 | .gtr=>some (.bool (a>b))
 | .geq=>some (.bool (a ≥ b))
 | _=>none):=rfl
theorem zi2 {T:Tab} {S:Store} {t:TypeId} {x i:PV}:zeh T S t x i=(
 match i with
 | .int _ i =>
  match (T t).kd,x with
  | .slice e,.sl cs n=>if 0≤i∧i<n then some (.ip cs (i.toNat*(T e).size)) else none
  | .slice e,.loc o ver off n=>(S.cellsOf o ver).bind fun _=>if 0≤i∧i<n then some (.ref o ver (off+i.toNat*(T e).size)) else none
  | .arr n e,.ref o ver off=>(S.cellsOf o ver).bind fun _=>if 0≤i∧i<n then some (.ref o ver (off+i.toNat*(T e).size)) else none
  | .arr n e,.ip cs off=>if 0≤i∧i<n then some (.ip cs (off+i.toNat*(T e).size)) else none
  | _,_=>none
 | _=>none):=rfl
theorem zsm {T:Tab} {t:TypeId} {x i:PV}:zsl T t x i=(
 match i with
 | .int _ i =>
  match (T t).kd,x with
  | .str,.str s=>if 0≤i then (s[i.toNat]?).map fun b => .int .u8 b.toNat else none
  | .arr n e,.agg cs=>if 0≤i∧i<n then z0t (T e) cs (i.toNat*(T e).size) else none
  | _,_=>none
 | _=>none):=rfl
theorem zmr {T:Tab} {S:Store} {c:Callee} {xs:List PV} {ts:List TypeId}:zcx T S c xs ts=(
 match c with
 | .builtin .len=>match xs,ts with
  | [x],[t]=>z75 T S t x
  | _,_=>none
 | .builtin .max=>z27 xs
 | .builtin .min=>z28 xs
 | _=>none):=rfl
theorem z0r {T:Tab} {S:Store} {t:TypeId} {x:PV}:z75 T S t x=(
 match (T t).kd,x with
 | .str,.str s=>some (.int .i64 s.length)
 | .arr n _,_=>some (.int .i64 n)
 | .slice _,.nils=>some (.int .i64 0)
 | .slice _,.sl _ n=>some (.int .i64 n)
 | .slice _,.loc o ver _ n=>(S.cellsOf o ver).map fun _ => .int .i64 n
 | .map _ _,.mp o ver=>match S.obs[o]? with
  | some (.map v es)=>if v=ver then some (.int .i64 es.length) else none
  | _=>none
 | _,_=>none):=rfl
theorem zms {T:Tab} {S:Store} {src dst:TypeId} {x:PV}:zhf T S src dst x=(
 match (T src).kd,(T dst).kd,x with
 | .int _,.int k,.int _ n=>some (.int k (k.wrap n))
 | .int _,.str,.int _ n=>some (.str (Utf8.encode n).data.toList)
 | .str,.str,.str s=>some (.str s)
 | .slice e,.str,x =>
  match (T e).kd with
  | .int .u8=>(zaz S 1 x).bind fun q=>(zcf q.2).map .str
  | _=>none
 | .str,.slice e,.str s =>
  match (T e).kd with
  | .int .u8=>some (.sl (s.map fun b => .int .u8 b.toNat) s.length)
  | _=>none
 | _,_,_=>none):=rfl
theorem zsi {T:Tab} {t:TypeId} {x:PV} {f:Nat}:zsh T t x f=(
 match (T t).kd,x with
 | .struct fs,.agg cs =>
  match fs[f]? with
  | some (fo,ft)=>z0t (T ft) cs fo
  | none=>none
 | _,_=>none):=rfl
theorem zwj {ti:TI} {cs:List PV} {off:Nat}:z0t ti cs off=(
zh5 ti cs off):=rfl
theorem zi1 {T:Tab} {S:Store} {t:TypeId} {x:PV} {f:Nat}:zeg T S t x f=(
 match (T t).kd with
 | .struct fs =>
  match fs[f]?,x with
  | some (fo,ft),.ip cs off=>if (T ft).size=0 then none else some (.ip cs (off+fo))
  | some (fo,ft),.ref o ver off=>if (T ft).size=0 then none else (S.cellsOf o ver).map fun _ => .ref o ver (off+fo)
  | _,_=>none
 | _=>none):=rfl
theorem zsr {T:Tab} {S:Store} {t:TypeId} {x:PV} {lo hi:Option PV}:zsq T S t x lo hi=(
 match (T t).kd,x with
 | .str,.str s=>(zc7 s.length lo hi).map fun (l,h) => .str ((s.take h).drop l)
 | .slice e,.sl cs n=>(zc7 n lo hi).map fun (l,h) => .sl ((cs.take (h*(T e).size)).drop (l*(T e).size)) (h - l)
 | .slice e,.loc o ver off n =>
  match S.obs[o]? with
  | some (.arr v _ sz _) =>
   if v=ver∧sz=(T e).size then (zc7 n lo hi).bind fun (l,h)=>if l=0∨l<n then some (.loc o ver (off+l*sz) (h - l)) else none
   else none
  | _=>none
 | _,_=>none):=rfl
theorem zpe {T:Tab} {S:Store} {t:TypeId} {m k:PV} {ok:Bool}:zmv T S t m k ok=(
 match (T t).kd,m with
 | .map kt vt,.mp o ver =>
  match S.obs[o]? with
  | some (.map v es) =>
   if v=ver∧TK.keyed T kt k=true∧(T vt).kd.isAgg=false then
    (findKey k es 0).bind fun r=>match r with
     | some (_,x)=>some (if ok then .tup [x,.bool true] else x)
     | none=>((T vt).zero[0]?).map fun z=>if ok then .tup [z,.bool false] else z
   else none
  | _=>none
 | _,_=>none):=rfl
theorem zkj {fn:Go.Fn} {first cap:List PV}:zi3 fn first cap=(
 match fn,first with
 | .func f,[]=>some (.fn f cap)
 | .func f,[x]=>if zjx 10 x && cap.isEmpty then some (.bm f x) else none
 | _,_=>none):=rfl
theorem zvu {ti:TI} {cs:List PV} {off:Nat}:zh5 ti cs off=(
 if ti.kd = .none then none else if ti.kd.isAgg then (if off+ti.size≤cs.length then some (.agg ((cs.drop off).take ti.size)) else none) else cs[off]?):=rfl
theorem zse {T:Tab} {t:TypeId} {parts:List (Nat × PV)}:zsd T t parts=(
 match (T t).kd with
 | .struct fs=>(zgo T (fun i=>(fs[i]?).map fun f=>(f.1,(T f.2).size)) (T t).zero parts).map .agg
 | .arr _ e=>(zgo T (fun i=>some (i*(T e).size,(T e).size)) (T t).zero parts).map .agg
 | _=>none):=rfl
theorem RU:(type_of% @z4e)∧(type_of% @zvp)∧(type_of% @zzd)∧(type_of% @zwq)∧(type_of% @zwp)∧(type_of% @zvm)∧(type_of% @zrl)∧(type_of% @zl1)∧(type_of% @zrm)∧(type_of% @zrk)∧(type_of% @zim)∧(type_of% @zoo)∧(type_of% @zrn)∧(type_of% @zkb)∧(type_of% @zil)∧(type_of% @zot)∧(type_of% @zht)∧(type_of% @zor)∧(type_of% @zhu)∧(type_of% @zos)∧(type_of% @zkc)∧(type_of% @zop)∧(type_of% @zl3)∧(type_of% @zvj)∧(type_of% @zvk)∧(type_of% @zvl)∧(type_of% @zl0)∧(type_of% @zri)∧(type_of% @zoq)∧(type_of% @zrj)∧(type_of% @zon)∧(type_of% @zvi)∧(type_of% @zkd)∧(type_of% @zou)∧(type_of% @zgs)∧(type_of% @zhv)∧(type_of% @zhw)∧(type_of% @zsp)∧(type_of% @zhy)∧(type_of% @zi5)∧(type_of% @zi6)∧(type_of% @zpa)∧(type_of% @zq9)∧(type_of% @zl2)∧(type_of% @zpf)∧(type_of% @zsf)∧(type_of% @zv9)∧(type_of% @z0k):=⟨@z4e,@zvp,@zzd,@zwq,@zwp,@zvm,@zrl,@zl1,@zrm,@zrk,@zim,@zoo,@zrn,@zkb,@zil,@zot,@zht,@zor,@zhu,@zos,@zkc,@zop,@zl3,@zvj,@zvk,@zvl,@zl0,@zri,@zoq,@zrj,@zon,@zvi,@zkd,@zou,@zgs,@zhv,@zhw,@zsp,@zhy,@zi5,@zi6,@zpa,@zq9,@zl2,@zpf,@zsf,@zv9,@z0k⟩
theorem RV:(type_of% @zrh)∧(type_of% @zvh)∧(type_of% @zzc)∧(type_of% @zrr)∧(type_of% @zvo)∧(type_of% @zls)∧(type_of% @zlt)∧(type_of% @bq1)∧(type_of% @bq2)∧(type_of% @bq3)∧(type_of% @bq4)∧(type_of% @nb1)∧(type_of% @nb2)∧(type_of% @zzo)∧(type_of% @zzp)∧(type_of% @z4s)∧(type_of% @z0e)∧(type_of% @z0h)∧(type_of% @z0i)∧(type_of% @z0f)∧(type_of% @z0g)∧(type_of% @z4t)∧(type_of% @gl0)∧(type_of% @gls)∧(type_of% @zrb)∧(type_of% @z0v)∧(type_of% @z0w)∧(type_of% @zpg)∧(type_of% @zkh)∧(type_of% @zwe)∧(type_of% @zso)∧(type_of% @zkk)∧(type_of% @zi4)∧(type_of% @zwf)∧(type_of% @zwg)∧(type_of% @zwh)∧(type_of% @zwi)∧(type_of% @zvz)∧(type_of% @z0q)∧(type_of% @zsc)∧(type_of% @zi2)∧(type_of% @zsm)∧(type_of% @zmr)∧(type_of% @z0r)∧(type_of% @zms)∧(type_of% @zsi)∧(type_of% @zwj)∧(type_of% @zi1)∧(type_of% @zsr)∧(type_of% @zpe)∧(type_of% @zkj)∧(type_of% @zse)∧(type_of% @zvu):=⟨@zrh,@zvh,@zzc,@zrr,@zvo,@zls,@zlt,@bq1,@bq2,@bq3,@bq4,@nb1,@nb2,@zzo,@zzp,@z4s,@z0e,@z0h,@z0i,@z0f,@z0g,@z4t,@gl0,@gls,@zrb,@z0v,@z0w,@zpg,@zkh,@zwe,@zso,@zkk,@zi4,@zwf,@zwg,@zwh,@zwi,@zvz,@z0q,@zsc,@zi2,@zsm,@zmr,@z0r,@zms,@zsi,@zwj,@zi1,@zsr,@zpe,@zkj,@zse,@zvu⟩
theorem zj6:zao []:=fun _ h=>by cases h
theorem zii {p:PV} {ps:List PV}:zao (p::ps)↔p.isCell=true∧zao ps:=by
 unfold zao; simp
theorem zq8 {α:Type} {f:α→PV} (h:∀ a,(f a).isCell=true) (l:List α):zao (l.map f):=by
 intro p hp; obtain ⟨a,_,rfl⟩:=List.mem_map.1 hp; exact h a
theorem z47 {S:Store} {sz o ver off n:Nat}:zaz S sz (.loc o ver off n)=(S.cellsOf o ver).bind fun cells=>if off+n*sz≤cells.length then some (n,(cells.drop off).take (n*sz)) else none:=rfl
theorem z8a {S:Store} {sz n:Nat} {cs:List PV}:zaz S sz (.sl cs n)=if cs.length=n*sz then some (n,cs) else none:=rfl
theorem z1p {S:Store} {sz:Nat}:zaz S sz .nils=some (0,[]):=rfl
theorem z7p {S:Store} {o ver:Nat}:S.cellsOf o ver=(match S.obs[o]? with | some (.arr v _ _ cells)=>if v=ver then some cells else none | _=>none):=rfl
theorem z02 {l:List Ob} {t et sz:Nat} {cells:List PV}:Store.push ⟨l,t⟩ et sz cells=⟨l++[.arr t et sz cells],t+1⟩:=rfl
theorem zpj {l:List Ob} {t:Nat}:Store.pushMap ⟨l,t⟩=⟨l++[.map t []],t+1⟩:=rfl
theorem z45 {l:List Ob} {t o:Nat} {ob:Ob}:Store.set ⟨l,t⟩ o ob=⟨l.set o ob,t⟩:=rfl
theorem zev {l:List Ob} {t k:Nat}:Store.take ⟨l,t⟩ k=⟨l.take k,t⟩:=rfl
theorem zat {k:IntKind} {n:Int}:(PV.int k n).cells=[.int k n]:=rfl
theorem zoj {b:Bool}:(PV.bool b).cells=[.bool b]:=rfl
theorem zau {b:List UInt8}:(PV.str b).cells=[.str b]:=rfl
theorem zol:PV.nils.cells=[.nils]:=rfl
theorem zok:PV.nilp.cells=[.nilp]:=rfl
theorem zrc {o v f n:Nat}:(PV.loc o v f n).cells=[.loc o v f n]:=rfl
theorem zrd {o v f:Nat}:(PV.ref o v f).cells=[.ref o v f]:=rfl
theorem zu9 {o v:Nat}:(PV.mp o v).cells=[.mp o v]:=rfl
theorem zva {cs:List PV} {n:Nat}:(PV.sl cs n).cells=[.sl cs n]:=rfl
theorem zcv {cs:List PV} {n:Nat}:(PV.ip cs n).cells=[.ip cs n]:=rfl
theorem z4g {k:IntKind} {n:Int}:(PV.int k n).isCell=true:=rfl
theorem zzs {b:Bool}:(PV.bool b).isCell=true:=rfl
theorem z4j {b:List UInt8}:(PV.str b).isCell=true:=rfl
theorem zzu:PV.nils.isCell=true:=rfl
theorem zzt:PV.nilp.isCell=true:=rfl
theorem z4h {o v f n:Nat}:(PV.loc o v f n).isCell=true:=rfl
theorem z4i {o v f:Nat}:(PV.ref o v f).isCell=true:=rfl
theorem z7u {o v:Nat}:(PV.mp o v).isCell=true:=rfl
theorem z7v {cs:List PV} {n:Nat}:(PV.sl cs n).isCell=true:=rfl
theorem zoa {cs:List PV} {n:Nat}:(PV.ip cs n).isCell=true:=rfl
theorem z4l {k:IntKind} {n:Int}:(PV.int k n).isDef=true:=rfl
theorem zzv {b:Bool}:(PV.bool b).isDef=true:=rfl
theorem z4o {b:List UInt8}:(PV.str b).isDef=true:=rfl
theorem z4k {cs:List PV}:(PV.agg cs).isDef=true:=rfl
theorem zzw:PV.nils.isDef=true:=rfl
theorem z4m {o v f n:Nat}:(PV.loc o v f n).isDef=true:=rfl
theorem z4n {o v f:Nat}:(PV.ref o v f).isDef=true:=rfl
theorem z7w {cs:List PV} {n:Nat}:(PV.sl cs n).isDef=true:=rfl
theorem zsj {T:Tab} {pl:Nat→Option (Nat × Nat)} {cs:List PV}:zgo T pl cs []=some cs:=rfl
theorem zpd {T:Tab} {pl:Nat→Option (Nat × Nat)} {cs:List PV} {i:Nat} {v:PV} {r:List (Nat × PV)}:zgo T pl cs ((i,v)::r)=(match pl i with
  | none=>none
  | some (off,size)=>if v.cells.length=size∧off+size≤cs.length∧v.isDef=true then zgo T pl (spl cs off v.cells) r else none):=rfl
theorem z48 {cs vs:List PV} {off:Nat}:spl cs off vs=cs.take off++vs++cs.drop (off+vs.length):=rfl
theorem zs2 {z:List PV}:repz z 0=[]:=rfl
theorem zga {z:List PV} {n:Nat}:repz z (n+1)=z++repz z n:=rfl
theorem zwa {n:Nat}:pHi n none=some n:=rfl
theorem zwb {n:Nat} {k:IntKind} {h:Int}:pHi n (some (.int k h))=if 0≤h∧h≤n then some h.toNat else none:=rfl
theorem zwc {n:Nat}:pLo n none=some 0:=rfl
theorem zwd {n:Nat} {k:IntKind} {h:Int}:pLo n (some (.int k h))=if 0≤h∧h≤n then some h.toNat else none:=rfl
theorem zpb {n:Nat} {lo hi:Option PV}:zc7 n lo hi=(pHi n hi).bind fun h=>(pLo h lo).map fun l=>(l,h):=rfl
theorem RS:(type_of% @zj6)∧(type_of% @zii)∧(type_of% @z47)∧(type_of% @z8a)∧(type_of% @z1p)∧(type_of% @z7p)∧(type_of% @z02)∧(type_of% @zpj)∧(type_of% @z45)∧(type_of% @zev)∧(type_of% @zat)∧(type_of% @zoj)∧(type_of% @zau)∧(type_of% @zol)∧(type_of% @zok)∧(type_of% @zrc)∧(type_of% @zrd)∧(type_of% @zu9)∧(type_of% @zva)∧(type_of% @zcv)∧(type_of% @z4g)∧(type_of% @zzs)∧(type_of% @z4j)∧(type_of% @zzu)∧(type_of% @zzt)∧(type_of% @z4h)∧(type_of% @z4i)∧(type_of% @z7u)∧(type_of% @z7v)∧(type_of% @zoa)∧(type_of% @z4l)∧(type_of% @zzv)∧(type_of% @z4o)∧(type_of% @z4k)∧(type_of% @zzw)∧(type_of% @z4m)∧(type_of% @z4n)∧(type_of% @z7w)∧(type_of% @zsj)∧(type_of% @zpd)∧(type_of% @z48)∧(type_of% @zs2)∧(type_of% @zga)∧(type_of% @zwa)∧(type_of% @zwb)∧(type_of% @zwc)∧(type_of% @zwd)∧(type_of% @zpb):=⟨@zj6,@zii,@z47,@z8a,@z1p,@z7p,@z02,@zpj,@z45,@zev,@zat,@zoj,@zau,@zol,@zok,@zrc,@zrd,@zu9,@zva,@zcv,@z4g,@zzs,@z4j,@zzu,@zzt,@z4h,@z4i,@z7u,@z7v,@zoa,@z4l,@zzv,@z4o,@z4k,@zzw,@z4m,@z4n,@z7w,@zsj,@zpd,@z48,@zs2,@zga,@zwa,@zwb,@zwc,@zwd,@zpb⟩
abbrev eB (b:UInt8):PV := .int .u8 b.toNat
theorem z49 {α:Type} {f:α→PV} {l:List α}:(l.map f).take l.length=l.map f:=by
 rw [← List.length_map f,List.take_length]
theorem z8h {α:Type} {f:α→PV} {l:List α} {n:Nat} (h:l.length≤n):(l.map f).take n=l.map f:=qT (by simpa using h)
theorem zz5 {a b:Nat} (h:a≤b):(a≤b)=True:=eq_true h
theorem zr5:maxLen=9223372036854775807:=rfl
theorem z8k {n a:Nat}:IntKind.u8.wrap ((n:Int)+(a:Int))=((UInt8.ofNat (n+a)).toNat:Int):=by
 have:((n:Int)+(a:Int))=((n+a:Nat):Int):=by omega
 rw [this]
 simp [IntKind.wrap,IntKind.bits,IntKind.signed,UInt8.toNat_ofNat']
theorem z9v {a:Nat}:IntKind.u8.wrap (97+(a:Int))=((UInt8.ofNat (97+a)).toNat:Int):=z8k (n:=97)
theorem zei {i:Nat}:((i:Int) - 1).toNat=i - 1:=by omega
theorem zbn {α:Type} {l:List α} {i:Nat} {a:α} (h:l[i]?=some a):i<l.length:=(List.getElem?_eq_some_iff.1 h).1
theorem zm2 {S:Store} {im:Bool} {k o ver et sz n:Nat} {cells ts:List PV} (h:S.obs[o]?=some (.arr ver et sz cells)) (hl:cells.length=n*sz) (hm:cells.mapM (reify S im k)=some ts) :
  reify S im (k+1) (.loc o ver 0 n)=some (.sl ts n):=by
 simp only[reify,h,Nat.zero_add,hl,qR,and_self,if_true,List.drop_zero]
 rw [← hl,List.take_length,hm]; rfl
theorem zbb {f:PV→Option PV}:∀ {l:List PV},(∀ x∈l,f x=some x)→l.mapM f=some l
 | [],_=>rfl
 | x::l,h=>by rw [qC,h x (by simp),zbb (l:=l) fun y hy=>h y (by simp [hy])]; rfl
theorem zlv (l:List UInt8):zcf (l.map fun b=>PV.int .u8 b.toNat)=some l:=by
 induction l with
 | nil=>rfl
 | cons a l ih=>simp only[List.map_cons,zcf,ih]; simp
section
def rfz (S:Store) (lo:Nat):Nat→PV→Option PV
 | 0,_=>none
 | k+1,p =>
  match p with
  | .int a b=>some (.int a b)
  | .bool b=>some (.bool b)
  | .str s=>some (.str s)
  | .nilp=>some .nilp
  | .nilf=>some .nilf
  | .yl l=>some (.yl l)
  | .nilm=>some .nilm
  | .nils=>some .nils
  | .agg cs=>(cs.mapM (rfz S lo k)).map .agg
  | .tup cs=>(cs.mapM (rfz S lo k)).map .tup
  | .fn f cs=>(cs.mapM (rfz S lo k)).map (.fn f)
  | .sl cs n=>some (.sl cs n)
  | .ip cs off=>some (.ip cs off)
  | .bm f b=>some (.bm f b)
  | .loc o ver off n =>
   match S.obs[o]? with
   | some (.arr v _ sz cells)=>if lo≤o∧v=ver∧off+n*sz≤cells.length then (((cells.drop off).take (n*sz)).mapM (rfz S lo k)).map (.sl · n) else none
   | _=>none
  | .ref o ver off=>if lo≤o then (S.cellsOf o ver).bind fun cells=>(cells.mapM (rfz S lo k)).map (.ip · off) else none
  | _=>none
section
variable {P:Program} {T:Tab} {F:Nat→Prop} {G:GSt} {w:World} {e:Env} {a:Act}
def zko (F:Nat→Prop) (G:GSt) (lo:Nat) (b:Nat):Prop:=F b∨∃ (o:Nat) (x:Ob × Lc),lo≤o∧G.obs[o]?=some x∧x.2.blk=b
theorem zln {S:Store} {lo:Nat}:∀ {k:Nat} {p t:PV},rfz S lo k p=some t→p.isCell=true→t.isCell=true
 | 0,p,t,h,_=>by simp [rfz]at h
 | k+1,p,t,h,hp=>by
  cases p <;> simp only[rfz]at h <;> first
   | (cases h; rfl)
   | (simp [PV.isCell]at hp; done)
   | (cases h; done)
   | (split at h <;> first | (cases h; rfl) | (cases h; done) | (split at h <;> first | (cases h; done) | (rw [qI]at h; obtain ⟨_,_,rfl⟩:=h; rfl)))
   | (rw [qI]at h; obtain ⟨_,_,rfl⟩:=h; rfl)
   | (split at h <;> first | (cases h; done) | (rw [Option.bind_eq_some_iff]at h; obtain ⟨_,_,h⟩:=h; rw [qI]at h; obtain ⟨_,_,rfl⟩:=h; rfl))
theorem zjd (hi:Inv F G w) {lo:Nat}:∀ {k:Nat} {p t:PV} {cv:Value},VR w.heap F G p cv→rfz G.er lo k p=some t→VI w.heap (zko F G lo) t cv
 | 0,p,t,cv,_,h=>by simp [rfz]at h
 | k+1,p,t,cv,hv,h=>by
  have cellsVI:∀ {b off:Nat} {cs ts:List PV},zbd w.heap F G b off cs→cs.mapM (rfz G.er lo k)=some ts →
    ∃ g:Nat→Value,(∀ (i:Nat) p,ts[i]?=some p→p.isCell=true∧ze0 w.heap b (off+i)=some (g i))∧∀ (i:Nat) p,ts[i]?=some p→VI w.heap (zko F G lo) p (g i):=by
   intro b off cs ts hc hm
   obtain ⟨h1,h2⟩:=zax _ _ hm
   refine ⟨fun i=>(ze0 w.heap b (off+i)).getD undef,fun i p hp=>?_,fun i p hp=>?_⟩
   ·obtain ⟨x,h3,h4⟩:=h2 i p hp
    obtain ⟨h5,v,h6,h7⟩:=hc i x h3
    exact ⟨zln h4 h5,by simp [h6]⟩
   obtain ⟨x,h3,h4⟩:=h2 i p hp
   obtain ⟨h5,v,h6,h7⟩:=hc i x h3
   simp only[h6]
   exact zjd hi h7 h4
  have rowVI:∀ {cs ts:List PV} {vs:Array Value},cs.length=vs.size→(∀ (i:Nat) p v,cs[i]?=some p→vs[i]?=some v→VR w.heap F G p v)→cs.mapM (rfz G.er lo k)=some ts →
    ts.length=vs.size∧∀ (i:Nat) p v,ts[i]?=some p→vs[i]?=some v→VI w.heap (zko F G lo) p v:=by
   intro cs ts vs hl hp hm
   obtain ⟨h1,h2⟩:=zax _ _ hm
   refine ⟨by omega,fun i p v q1 q2=>?_⟩
   obtain ⟨x,h3,h4⟩:=h2 i p q1
   exact zjd hi (hp i x v h3 q2) h4
  cases p with
  | int q n=>simp only[rfz]at h; cases h; rw [hv.int]; exact .int _ _
  | bool b=>simp only[rfz]at h; cases h; rw [hv.bool]; exact .bool _
  | str s=>simp only[rfz]at h; cases h; obtain ⟨b,rfl,hb⟩:=hv.str; exact .str _ _ hb
  | nilp=>simp only[rfz]at h; cases h; cases hv with | imm _ _ hv=>cases hv; exact .nilp
  | nilf=>simp only[rfz]at h; cases h; cases hv with | imm _ _ hv=>cases hv; exact .nilf
  | yl l=>simp only[rfz]at h; cases h; cases hv with | imm _ _ hv=>cases hv; exact .yl _
  | nilm=>simp only[rfz]at h; cases h; cases hv with | imm _ _ hv=>cases hv; exact .nilm
  | nils=>simp only[rfz]at h; cases h; cases hv with | imm _ _ hv=>cases hv; exact .nils
  | agg cs =>
   simp only[rfz]at h
   rw [qI]at h
   obtain ⟨ts,h1,rfl⟩:=h
   obtain ⟨vs,rfl,h2,h3⟩:=hv.agg'
   obtain ⟨h4,h5⟩:=rowVI h2 h3 h1
   exact .agg _ _ h4 h5
  | tup cs =>
   simp only[rfz]at h
   rw [qI]at h
   obtain ⟨ts,h1,rfl⟩:=h
   obtain ⟨vs,rfl,h2,h3⟩:=hv.tup'
   obtain ⟨h4,h5⟩:=rowVI h2 h3 h1
   exact .tup _ _ h4 h5
  | fn f cs =>
   simp only[rfz]at h
   rw [qI]at h
   obtain ⟨ts,h1,rfl⟩:=h
   have:∃ vs:Array Value,cv = .func (.func f) #[] vs∧cs.length=vs.size∧∀ (i:Nat) p v,cs[i]?=some p→vs[i]?=some v→VR w.heap F G p v:=by
    cases hv with
    | imm _ _ hv=>cases hv with | fn _ _ vs h2 h3=>exact ⟨vs,rfl,h2,fun i p v a b => .imm _ _ (h3 i p v a b)⟩
    | fn _ _ vs h2 h3=>exact ⟨vs,rfl,h2,h3⟩
   obtain ⟨vs,rfl,h2,h3⟩:=this
   obtain ⟨h4,h5⟩:=rowVI h2 h3 h1
   exact .fn _ _ _ h4 h5
  | sl cs n =>
   simp only[rfz]at h
   cases h
   cases hv with
   | imm _ _ hv=>exact hv.mono (fun b hb => .inl hb) (fun _ _=>rfl)
  | ip cs off =>
   simp only[rfz]at h
   cases h
   cases hv with
   | imm _ _ hv=>exact hv.mono (fun b hb => .inl hb) (fun _ _=>rfl)
  | bm f b =>
   simp only[rfz]at h
   cases h
   cases hv with
   | imm _ _ hv=>exact hv.mono (fun b hb => .inl hb) (fun _ _=>rfl)
  | loc o ver off n =>
   simp only[rfz]at h
   split at h
   ·rename_i v et sz cells hob
    split at h
    ·rename_i hc
     obtain ⟨hlo,rfl,hle⟩:=hc
     rw [qI]at h
     obtain ⟨ts,h1,rfl⟩:=h
     obtain ⟨_,_,l,cap,ho,rfl,_,hn,_⟩:=hv.loc_at hi (cells:=cells) (by simp [Store.cellsOf,hob])
     obtain ⟨l',hG⟩:=zco hob
     rw [hG]at ho
     cases ho
     have hc2:zbd w.heap F G l.blk off ((cells.drop off).take (n*sz)):=by
      have:=((hi.cellsAt hG).drop off).take (n*sz)
      rwa [Nat.zero_add]at this
     obtain ⟨g,g1,g2⟩:=cellsVI hc2 h1
     exact .sl _ _ _ _ _ g (fun _ => .inr ⟨o,_,hlo,hG,rfl⟩) hn g1 g2
    cases h
   cases h
  | ref o ver off =>
   simp only[rfz]at h
   split at h
   case isFalse=>cases h
   rename_i hlo
   rw [Option.bind_eq_some_iff]at h
   obtain ⟨cells,hc,h⟩:=h
   rw [qI]at h
   obtain ⟨ts,h1,rfl⟩:=h
   obtain ⟨et,sz,l,hG,rfl,_⟩:=hv.ref_at hi hc
   obtain ⟨g,g1,g2⟩:=cellsVI (hi.cellsAt hG) h1
   have:=VI.ip (F:=zko F G lo) ts off l.blk 0 g (fun _ => .inr ⟨o,_,hlo,hG,rfl⟩) g1 g2
   rwa [Nat.zero_add]at this
  | mp o ver=>simp only[rfz]at h; cases h
  | undef=>simp only[rfz]at h; cases h
def frz (S:Store) (lo:Nat):Nat→PV→Option PV
 | 0,_=>none
 | k+1,p =>
  match p with
  | .agg cs=>(cs.mapM (frz S lo k)).map .agg
  | .tup cs=>(cs.mapM (frz S lo k)).map .tup
  | .fn f cs=>(cs.mapM (frz S lo k)).map (.fn f)
  | .loc o ver off n=>if o<lo then some (.loc o ver off n) else rfz S lo 10 (.loc o ver off n)
  | .ref o ver off=>if o<lo then some (.ref o ver off) else rfz S lo 10 (.ref o ver off)
  | .mp o ver=>if o<lo then some (.mp o ver) else none
  | .undef=>some .undef
  | p=>rfz S lo 10 p
theorem zis (hi:Inv F G w) {lo:Nat} {F':Nat→Prop} {G':GSt} (hF:∀ b,zko F G lo b→F' b) (hn:Next F G w F' G' w):∀ {k:Nat} {p t:PV} {cv:Value},VR w.heap F G p cv→frz G.er lo k p=some t→VR w.heap F' G' t cv
 | 0,p,t,cv,_,h=>by simp [frz]at h
 | k+1,p,t,cv,hv,h=>by
  have rowVR:∀ {cs ts:List PV} {vs:Array Value},cs.length=vs.size→(∀ (i:Nat) p v,cs[i]?=some p→vs[i]?=some v→VR w.heap F G p v)→cs.mapM (frz G.er lo k)=some ts →
    ts.length=vs.size∧∀ (i:Nat) p v,ts[i]?=some p→vs[i]?=some v→VR w.heap F' G' p v:=by
   intro cs ts vs hl hp hm
   obtain ⟨h1,h2⟩:=zax _ _ hm
   refine ⟨by omega,fun i p v q1 q2=>?_⟩
   obtain ⟨x,h3,h4⟩:=h2 i p q1
   exact zis hi hF hn (hp i x v h3 q2) h4
  have data:∀ {p:PV},VR w.heap F G p cv→rfz G.er lo 10 p=some t→VR w.heap F' G' t cv:=fun hv h => .imm _ _ ((zjd hi hv h).mono hF fun _ _=>rfl)
  cases p with
  | agg cs =>
   simp only[frz]at h
   rw [qI]at h
   obtain ⟨ts,h1,rfl⟩:=h
   obtain ⟨vs,rfl,h2,h3⟩:=hv.agg'
   obtain ⟨h4,h5⟩:=rowVR h2 h3 h1
   exact .agg _ _ h4 h5
  | tup cs =>
   simp only[frz]at h
   rw [qI]at h
   obtain ⟨ts,h1,rfl⟩:=h
   obtain ⟨vs,rfl,h2,h3⟩:=hv.tup'
   obtain ⟨h4,h5⟩:=rowVR h2 h3 h1
   exact .tup _ _ h4 h5
  | fn f cs =>
   simp only[frz]at h
   rw [qI]at h
   obtain ⟨ts,h1,rfl⟩:=h
   have:∃ vs:Array Value,cv = .func (.func f) #[] vs∧cs.length=vs.size∧∀ (i:Nat) p v,cs[i]?=some p→vs[i]?=some v→VR w.heap F G p v:=by
    cases hv with
    | imm _ _ hv=>cases hv with | fn _ _ vs h2 h3=>exact ⟨vs,rfl,h2,fun i p v a b => .imm _ _ (h3 i p v a b)⟩
    | fn _ _ vs h2 h3=>exact ⟨vs,rfl,h2,h3⟩
   obtain ⟨vs,rfl,h2,h3⟩:=this
   obtain ⟨h4,h5⟩:=rowVR h2 h3 h1
   exact .fn _ _ _ h4 h5
  | loc o ver off n =>
   simp only[frz]at h
   split at h
   ·cases h; exact hv.next hi hn
   exact data hv h
  | ref o ver off =>
   simp only[frz]at h
   split at h
   ·cases h; exact hv.next hi hn
   exact data hv h
  | mp o ver =>
   simp only[frz]at h
   split at h
   ·cases h; exact hv.next hi hn
   cases h
  | undef=>simp only[frz]at h; cases h; exact .imm _ _ (.undef _)
  | _=>simp only[frz]at h; exact data hv h
theorem z2p {S:Store} {lo:Nat}:∀ {k:Nat} {p t:PV},frz S lo k p=some t→p.isCell=true→t.isCell=true
 | 0,p,t,h,_=>by simp [frz]at h
 | k+1,p,t,h,hp=>by
  cases p with
  | agg cs=>simp [PV.isCell]at hp
  | tup cs=>simp [PV.isCell]at hp
  | undef=>simp [PV.isCell]at hp
  | fn f cs=>simp only[frz]at h; rw [qI]at h; obtain ⟨_,_,rfl⟩:=h; rfl
  | loc o ver off n=>simp only[frz]at h; split at h; (· cases h; rfl); exact zln h hp
  | ref o ver off=>simp only[frz]at h; split at h; (· cases h; rfl); exact zln h hp
  | mp o ver=>simp only[frz]at h; split at h; (· cases h; rfl); cases h
  | _=>simp only[frz]at h; exact zln h hp
def zf1 (S:Store) (lo:Nat):Ob→Option Ob
 | .arr ver et sz cells=>(cells.mapM (frz S lo 10)).map (.arr ver et sz ·)
 | .map ver es=>(es.mapM fun q=>(frz S lo 10 q.1).bind fun a=>(frz S lo 10 q.2).map fun b=>(a,b)).map (.map ver ·)
 | .lp ver l r tmps=>(tmps.mapM (frz S lo 10)).map (.lp ver l r ·)
def zhx (S:Store) (lo:Nat):List Ob→Option (List Ob)
 | []=>some []
 | o::r=>(zf1 S lo o).bind fun a=>(zhx S lo r).map (a :: ·)
def Store.frz (S:Store) (lo:Nat):Option Store:=(zhx S lo (S.obs.take lo)).map (⟨·,S.tick⟩)
theorem zoy {S:Store} {lo:Nat}:∀ {l l':List Ob},zhx S lo l=some l'→l.length=l'.length∧∀ (i:Nat) ob',l'[i]?=some ob'→∃ ob,l[i]?=some ob∧zf1 S lo ob=some ob'
 | [],l',h=>by simp [zhx]at h; subst h; simp
 | o::l,l',h=>by
  simp only[zhx]at h
  rw [Option.bind_eq_some_iff]at h
  obtain ⟨a,h1,h⟩:=h
  rw [qI]at h
  obtain ⟨r,h2,rfl⟩:=h
  obtain ⟨h3,h4⟩:=zoy h2
  refine ⟨by simp [h3],?_⟩
  rintro (_ | i) ob' hi
  ·simp at hi; subst hi; exact ⟨o,rfl,h1⟩
  simp at hi; obtain ⟨ob,h5,h6⟩:=h4 i ob' hi; exact ⟨ob,by simpa using h5,h6⟩
theorem zjo {S:Store} {lo:Nat} {ob ob':Ob} (h:zf1 S lo ob=some ob'):ob.ver=ob'.ver∧ob.like ob':=by
 cases ob with
 | arr v et sz cells=>simp only[zf1]at h; rw [qI]at h; obtain ⟨_,_,rfl⟩:=h; simp [Ob.ver,Ob.like]
 | map v es=>simp only[zf1]at h; rw [qI]at h; obtain ⟨_,_,rfl⟩:=h; simp [Ob.ver,Ob.like]
 | lp _ _ _ _=>simp only[zf1]at h; rw [qI]at h; obtain ⟨_,_,rfl⟩:=h; simp [Ob.ver,Ob.like]
theorem zi0 {f:PV × PV→Option (PV × PV)}:∀ (xs ys:List (PV × PV)),xs.mapM f=some ys→xs.length=ys.length∧∀ (i:Nat) y,ys[i]?=some y→∃ x,xs[i]?=some x∧f x=some y
 | [],ys,h=>by simp at h; subst h; simp
 | x::xs,ys,h=>by
  rw [qC]at h
  cases hx:f x with
  | none=>simp [hx]at h
  | some y =>
   cases hr:xs.mapM f with
   | none=>simp [hx,hr]at h
   | some ys' =>
    simp [hx,hr]at h
    subst h
    obtain ⟨h1,h2⟩:=zi0 xs ys' hr
    refine ⟨by simp [h1],?_⟩
    rintro (_ | i) z hz
    ·simp at hz; subst hz; exact ⟨x,rfl,hx⟩
    simp at hz; obtain ⟨u,h3,h4⟩:=h2 i z hz; exact ⟨u,by simpa using h3,h4⟩
theorem zvs (hi:Inv F G w) {lo:Nat} {S':Store} (h:G.er.frz lo=some S'):∃ G',G'.er=S'∧Inv (zko F G lo) G' w∧Next F G w (zko F G lo) G' w:=by
 unfold Store.frz at h
 rw [qI]at h
 obtain ⟨obs',h1,rfl⟩:=h
 obtain ⟨h2,h3⟩:=zoy h1
 let G':GSt:=⟨List.zipWith (fun ob (x:Ob × Lc)=>(ob,x.2)) obs' (G.obs.take lo),G.tick⟩
 have hlen:obs'.length=(G.obs.take lo).length:=by rw [← h2]; simp [GSt.er]
 have her:G'.er=⟨obs',G.er.tick⟩:=by
  simp only[GSt.er,G',Store.mk.injEq,and_true]
  apply List.ext_getElem
  ·simp [hlen]
  intro i a b; simp
 have hget:∀ (o:Nat) ob' l,G'.obs[o]?=some (ob',l)→o<lo∧∃ ob,G.obs[o]?=some (ob,l)∧zf1 G.er lo ob=some ob':=by
  intro o ob' l ho
  simp only[G',List.getElem?_zipWith]at ho
  cases ha:obs'[o]? with
  | none=>rw [ha]at ho; simp at ho
  | some a =>
   cases hb:(G.obs.take lo)[o]? with
   | none=>rw [ha,hb]at ho; simp at ho
   | some x =>
    rw [ha,hb]at ho
    simp at ho
    obtain ⟨rfl,rfl⟩:=ho
    obtain ⟨ob,k1,k2⟩:=h3 o a ha
    rw [List.getElem?_take]at hb
    split at hb
    ·rename_i hlt
     refine ⟨hlt,ob,?_,k2⟩
     have:(G.er.obs.take lo)[o]?=some x.1:=by
      rw [List.getElem?_take,if_pos hlt]; simp [GSt.er,hb]
     rw [this]at k1
     cases k1
     exact hb
    cases hb
 have hn:Next F G w (zko F G lo) G' w:=by
  refine ⟨rfl,rfl,rfl,qR _,fun b hb => .inl hb,?_,?_,qR _,fun _ _ _=>rfl,?_,qR _⟩
  ·rintro b (hb | ⟨o,x,_,hx,rfl⟩)
   ·exact .inl hb
   exact .inr (.inr ⟨o,x,hx,rfl⟩)
  ·rintro o ⟨ob',l⟩ hx
   obtain ⟨_,ob,k1,_⟩:=hget o ob' l hx
   exact .inr ⟨o,_,k1,rfl⟩
  intro o ob' l hx _
  obtain ⟨_,ob,k1,k2⟩:=hget o ob' l hx
  exact ⟨ob,k1,(zjo k2).1,(zjo k2).2⟩
 have hsound:∀ {k:Nat} {p t:PV} {cv:Value},VR w.heap F G p cv→frz G.er lo k p=some t→VR w.heap (zko F G lo) G' t cv:=fun hv h=>zis hi (fun _ h=>h) hn hv h
 refine ⟨G',her,⟨?_,?_,?_,?_,?_,?_,?_⟩,hn⟩
 ·rintro b (hb | ⟨o,x,_,hx,rfl⟩)
  ·exact hi.fr b hb
  exact hi.blk_lt hx
 ·intro o ob' l hx
  obtain ⟨_,ob,k1,k2⟩:=hget o ob' l hx
  have:=hi.ver o ob l k1
  rw [(zjo k2).1]at this
  exact this
 ·intro o ob' l hx hb
  obtain ⟨hlt,ob,k1,k2⟩:=hget o ob' l hx
  rcases hb with hb | ⟨o',x,hlo,hx',e⟩
  ·exact hi.nF o ob l k1 hb
  have:=hi.inj o' o _ _ hx' k1 e
  omega
 ·intro o ver et sz cells l hx
  obtain ⟨_,ob,k1,k2⟩:=hget o _ l hx
  cases ob with
  | map v es=>simp only[zf1]at k2; rw [qI]at k2; obtain ⟨_,_,k3⟩:=k2; cases k3
  | lp _ _ _ _=>simp only[zf1]at k2; rw [qI]at k2; obtain ⟨_,_,k3⟩:=k2; cases k3
  | arr v et2 sz2 cells2 =>
   simp only[zf1]at k2
   rw [qI]at k2
   obtain ⟨cs',k3,k4⟩:=k2
   cases k4
   obtain ⟨m1,m2⟩:=zax _ _ k3
   obtain ⟨cs,q1,q2,q3,q4⟩:=hi.arr o _ _ _ _ l k1
   refine ⟨cs,q1,q2,by omega,fun i p hp=>?_⟩
   obtain ⟨x,x1,x2⟩:=m2 i p hp
   obtain ⟨c1,v1,v2,v3⟩:=q4 i x x1
   exact ⟨z2p x2 c1,v1,v2,hsound v3 x2⟩
 ·intro o ver es l hx
  obtain ⟨_,ob,k1,k2⟩:=hget o _ l hx
  cases ob with
  | arr v et2 sz2 cells2=>simp only[zf1]at k2; rw [qI]at k2; obtain ⟨_,_,k3⟩:=k2; cases k3
  | lp _ _ _ _=>simp only[zf1]at k2; rw [qI]at k2; obtain ⟨_,_,k3⟩:=k2; cases k3
  | map v es2 =>
   simp only[zf1]at k2
   rw [qI]at k2
   obtain ⟨es',k3,k4⟩:=k2
   cases k4
   obtain ⟨m1,m2⟩:=zi0 _ _ k3
   obtain ⟨ents,clock,q1,q2,q3⟩:=hi.map o _ _ l k1
   refine ⟨ents,clock,q1,by omega,fun i k v hp=>?_⟩
   obtain ⟨x,x1,x2⟩:=m2 i (k,v) hp
   obtain ⟨en,e1,e2,e3⟩:=q3 i x.1 x.2 x1
   rw [Option.bind_eq_some_iff]at x2
   obtain ⟨a,y1,y2⟩:=x2
   rw [qI]at y2
   obtain ⟨b,y3,y4⟩:=y2
   cases y4
   exact ⟨en,e1,hsound e2 y1,hsound e3 y3⟩
 ·rintro o o' ⟨ob,l⟩ ⟨ob',l'⟩ hx hx' e
  obtain ⟨_,a,k1,_⟩:=hget o _ _ hx
  obtain ⟨_,a',k1',_⟩:=hget o' _ _ hx'
  exact hi.inj o o' _ _ k1 k1' e
 intro o ver b r tmps l hx
 obtain ⟨_,ob,k1,k2⟩:=hget o _ l hx
 cases ob with
 | arr v et2 sz2 cells2=>simp only[zf1]at k2; rw [qI]at k2; obtain ⟨_,_,k3⟩:=k2; cases k3
 | map v es=>simp only[zf1]at k2; rw [qI]at k2; obtain ⟨_,_,k3⟩:=k2; cases k3
 | lp v b2 r2 tmps2 =>
  simp only[zf1]at k2
  rw [qI]at k2
  obtain ⟨cs',k3,k4⟩:=k2
  cases k4
  obtain ⟨m1,m2⟩:=zax _ _ k3
  obtain ⟨q0,t,q1,q2,q3⟩:=hi.lp o _ _ _ _ l k1
  refine ⟨q0,t,q1,⟨q2.1,by omega⟩,fun i p v hp hv=>?_⟩
  obtain ⟨x,x1,x2⟩:=m2 i p hp
  exact hsound (q3 i x v x1 hv) x2
variable {Q:Exit→Env→Store→Prop} {S:Store} {a b c:Code}
def zyq (L:List Nat) (I:List PV→Store→Prop) (e:Env) (S:Store):Prop :=
 ∃ lo vs S',(L.map e).mapM (frz S lo 10)=some vs∧S.frz lo=some S'∧I vs S'
theorem zqm {H:Array Obj} {F:Nat→Prop} {G:GSt} {a:Act}:∀ (L:List Nat) (vs:List PV),L.length=vs.length→(∀ (i t:Nat) v,L[i]?=some t→vs[i]?=some v→VR H F G v (a.tmps.getD t undef))→zct H F G (Env.of L vs) a
 | [],_,_,_,t => .imm _ _ (.undef _)
 | x::L,[],h,_,t=>by simp at h
 | x::L,v::vs,hl,h,t=>by
  simp only[Env.of]
  split
  ·rename_i e; rw [e]; exact h 0 x v rfl rfl
  exact zqm L vs (by simpa using hl) (fun i t v q1 q2=>h (i+1) t v (by simpa using q1) (by simpa using q2)) t
theorem zox (hi:Inv F G w) {e:Env} {act:Act} (he:zct w.heap F G e act) {L:List Nat} {I:List PV→Store→Prop} (h:zyq L I e G.er) :
  ∃ vs F' G',I vs G'.er∧vs.length=L.length∧Inv F' G' w∧Next F G w F' G' w∧zct w.heap F' G' (Env.of L vs) act:=by
 obtain ⟨lo,vs,S',h1,h2,h3⟩:=h
 obtain ⟨G',rfl,k2,k3⟩:=zvs hi h2
 obtain ⟨m1,m2⟩:=zax _ _ h1
 refine ⟨vs,_,G',h3,by rw [← m1]; simp,k2,k3,zqm L vs (by rw [← m1]; simp) fun i t v q1 q2=>?_⟩
 obtain ⟨x,x1,x2⟩:=m2 i v q2
 rw [List.getElem?_map,q1]at x1
 cases x1
 exact zis hi (fun _ h=>h) k3 (he t) x2
theorem W.foldZ (L:List Nat) {I:List PV→Store→Prop} (hI:zyq L I e S) (h:∀ vs S,vs.length=L.length→I vs S→W P T c Q (Env.of L vs) S):W P T c Q e S:=by
 refine ⟨?_⟩
 intro hT hm F0 G0 w0 N F G a w h3 h4 h5 h6 h7 h8 h9 R nn
 subst h3
 obtain ⟨vs,F',G',k1,k2,k3,k4,k5⟩:=zox h4 h5 hI
 exact (h vs _ k2 k1).run hT hm F0 G0 w0 N F' G' a w rfl k3 k5 (h6.trans k4) h7 h8 h9
theorem W.joinZ (L:List Nat) (I:List PV→Store→Prop) (h:W P T a (XThen (zyq L I) Q) e S) (k:∀ vs S,vs.length=L.length→I vs S→W P T b Q (Env.of L vs) S):W P T (.seq a b) Q e S:=by
 refine W.seq (h.mono ?_)
 intro x e S hx
 cases x with
 | normal=>exact W.foldZ L hx k
 | _=>exact hx
theorem W.loopZ (L:List Nat) (I:Nat→List PV→Store→Prop) (n:Nat) (h0:zyq L (I n) e S)
  (h:∀ n vs S,vs.length=L.length→I n vs S→W P T c (XThen (fun e S=>∃ m,m<n∧zyq L (I m) e S) Q) (Env.of L vs) S):W P T (.loop c) Q e S:=by
 refine W.foldZ L h0 fun vs S hl hI=>?_
 refine ⟨?_⟩
 intro hT hm F0 G0 w0 N F G a w h3 h4 h5 h6 h7 h8 h9 R nn
 refine wpIn_loop_rounds (n+1) ?_
 clear h0
 induction n using Nat.strongRecOn generalizing vs S F G a w with
 | _ n ih =>
  refine wpIn_mono ((h n vs S hl hI).run hT hm F0 G0 w0 N F G a w h3 h4 h5 h6 h7 h8 (by simpa [zej] using h9)) ?_
  rintro x a' w' ⟨e',F',G',k1,k2,k3,k4,k5,k6⟩
  cases x with
  | normal =>
   obtain ⟨m,hmn,hk⟩:=k1
   obtain ⟨vs',F2,G2,q1,q2,q3,q4,q5⟩:=zox k2 k3 hk
   exact zh8 (by omega) _ _ (ih m hmn vs' _ q2 q1 F2 G2 a' w' rfl q3 q5 (k4.trans q4) k5 k6)
  | _=>exact ⟨e',F',G',k1,k2,k3,k4,k5,k6⟩
theorem zp8 {S:Store} {lo k:Nat} {q:IntKind} {n:Int}:frz S lo (k+1) (.int q n)=some (.int q n):=rfl
theorem zld {S:Store} {lo k:Nat} {b:Bool}:frz S lo (k+1) (.bool b)=some (.bool b):=rfl
theorem zma {S:Store} {lo k:Nat} {b:List UInt8}:frz S lo (k+1) (.str b)=some (.str b):=rfl
theorem zvt {S:Store} {lo k n:Nat} {cs:List PV}:frz S lo (k+1) (.sl cs n)=some (.sl cs n):=rfl
theorem zgg {S:Store} {lo k:Nat}:frz S lo (k+1) .nilp=some .nilp:=rfl
theorem zp9 {S:Store} {lo k o ver off n:Nat}:frz S lo (k+1) (.loc o ver off n)=if o<lo then some (.loc o ver off n) else rfz S lo 10 (.loc o ver off n):=rfl
theorem zem {S:Store} {lo k o ver off:Nat}:frz S lo (k+1) (.ref o ver off)=if o<lo then some (.ref o ver off) else rfz S lo 10 (.ref o ver off):=rfl
theorem zcb {S:Store} {lo k:Nat} {q:IntKind} {n:Int}:rfz S lo (k+1) (.int q n)=some (.int q n):=rfl
theorem zlm {S:Store} {lo k:Nat} {b:Bool}:rfz S lo (k+1) (.bool b)=some (.bool b):=rfl
theorem zqy {S:Store} {lo k:Nat} {b:List UInt8}:rfz S lo (k+1) (.str b)=some (.str b):=rfl
theorem zcc {S:Store} {lo k o ver off n:Nat}:rfz S lo (k+1) (.loc o ver off n)=(match S.obs[o]? with
  | some (.arr v _ sz cells)=>if lo≤o∧v=ver∧off+n*sz≤cells.length then (((cells.drop off).take (n*sz)).mapM (rfz S lo k)).map (.sl · n) else none
  | _=>none):=rfl
theorem zqa {α:Type} {f:α→PV} {S:Store} {lo k:Nat} (h:∀ a,frz S lo k (f a)=some (f a)) (l:List α):(l.map f).mapM (frz S lo k)=some (l.map f) :=
 zbb fun x hx=>by obtain ⟨a,_,rfl⟩:=List.mem_map.1 hx; exact h a
theorem zun {α:Type} {f:α→PV} {S:Store} {lo k:Nat} (h:∀ a,rfz S lo k (f a)=some (f a)) (l:List α):(l.map f).mapM (rfz S lo k)=some (l.map f) :=
 zbb fun x hx=>by obtain ⟨a,_,rfl⟩:=List.mem_map.1 hx; exact h a
theorem zir {S:Store} {lo k:Nat} (l:List (List Int)):(l.map eInts).mapM (frz S lo (k+1))=some (l.map eInts):=zqa (fun _=>rfl) l
theorem zlf {S:Store} {lo k:Nat} (l:List (List UInt8)):(l.map PV.str).mapM (frz S lo (k+1))=some (l.map PV.str):=zqa (fun _=>rfl) l
theorem zle {S:Store} {lo k:Nat} (l:List Int):(l.map (PV.int .i64)).mapM (frz S lo (k+1))=some (l.map (PV.int .i64)):=zqa (fun _=>rfl) l
theorem ziq {S:Store} {lo k:Nat} (l:List UInt8):(l.map eB).mapM (frz S lo (k+1))=some (l.map eB):=zqa (fun _=>rfl) l
theorem zlo {S:Store} {lo k:Nat} (l:List Int):(l.map (PV.int .i64)).mapM (rfz S lo (k+1))=some (l.map (PV.int .i64)):=zun (fun _=>rfl) l
theorem zjc {S:Store} {lo k:Nat} (l:List UInt8):(l.map eB).mapM (rfz S lo (k+1))=some (l.map eB):=zun (fun _=>rfl) l
theorem zhd {f:PV→Option PV} {a b:PV} {l l':List PV} (h1:f a=some b) (h2:l.mapM f=some l'):(a::l).mapM f=some (b::l'):=by
 rw [qC,h1]; simp [h2]
end
section
variable {P:Program} {T:Tab} {Q:Exit→Env→Store→Prop} {e:Env} {S:Store} {b:Code}
def zgi (o:Op):Bool:=zo4 o && (match o with | .call ⟨.value _,_,_⟩=>false | _=>true)
def zbe:List Oper→Nat→List Nat
 | [],_=>[]
 | o::r,i=>if zgi o.op then zbe r (i+1) else i::zbe r (i+1)
theorem zgt:∀ (l:List Oper) (k i:Nat) (o:Oper),l[i]?=some o→k+i ∉ zbe l k→zgi o.op=true
 | [],_,_,_,h,_=>by simp at h
 | o'::l,k,0,o,h,hn=>by
  simp at h; subst h
  unfold zbe at hn
  split at hn
  ·assumption
  simp at hn
 | o'::l,k,i+1,o,h,hn=>by
  simp only[List.getElem?_cons_succ]at h
  refine zgt l (k+1) i o h fun hm=>hn ?_
  unfold zbe
  split
  ·rwa [show k+(i+1)=k+1+i by omega]
  rw [show k+(i+1)=k+1+i by omega]; exact List.mem_cons_of_mem _ hm
theorem zvr {o:Op} {K:PV→Store→Prop} (hf:zgi o=true) (h:sOp false P T e S o K):z26 P T S e o fun v=>K v S:=by
 refine zt4 (by unfold zgi at hf; simp only[qB]at hf; exact hf.1) ?_
 cases o with
 | call c =>
  obtain ⟨cal,xs,ts⟩:=c
  cases cal with
  | value f=>simp [zgi]at hf
  | _=>exact h
 | _=>exact h
end
end
theorem b_mc {α β:Type} {f:α→β} {a:α} {l:List α}:(a::l).map f=f a::l.map f:=rfl
theorem b_mn {α β:Type} {f:α→β}:([]:List α).map f=[]:=rfl
theorem z7i {α:Type} [BEq α] [ReflBEq α] {a:α}:(a == a)=true:=beq_self_eq_true a
theorem z7j:(false=true)=False:=by simp
theorem b_tn {n:Nat}:((n:Int)).toNat=n:=Int.toNat_natCast n
theorem b_gm {α β:Type} {f:α→β} {l:List α} {i:Nat}:(l.map f)[i]?=(l[i]?).map f:=List.getElem?_map
theorem b_os {α β:Type} {f:α→β} {a:α}:(some a).map f=some (f a):=rfl
theorem b_ob {α β:Type} {f:α→Option β} {a:α}:(some a).bind f=f a:=rfl
theorem b_g0 {α:Type} {a:α} {l:List α}:(a::l)[0]?=some a:=rfl
theorem b_gs {α:Type} {a:α} {l:List α} {i:Nat}:(a::l)[i+1]?=l[i]?:=by simp
theorem RH:(type_of% @b_mc)∧(type_of% @b_mn)∧(type_of% @z7i)∧(type_of% z7j)∧(type_of% @b_tn)∧(type_of% @Nat.mul_one)∧(type_of% @b_gm)∧(type_of% @b_os)∧(type_of% @b_ob)∧(type_of% @b_g0)∧(type_of% @b_gs) :=
 ⟨@b_mc,@b_mn,@z7i,z7j,@b_tn,@Nat.mul_one,@b_gm,@b_os,@b_ob,@b_g0,@b_gs⟩
theorem b_ca {α:Type} {a:α} {l m:List α}:(a::l)++m=a::(l++m):=rfl
theorem b_na {α:Type} {m:List α}:([]:List α)++m=m:=rfl
theorem b_lc {α:Type} {a:α} {l:List α}:(a::l).length=l.length+1:=rfl
theorem b_ln {α:Type}:([]:List α).length=0:=rfl
theorem b_s0 {α:Type} {a b:α} {l:List α}:(a::l).set 0 b=b::l:=rfl
theorem b_ss {α:Type} {a b:α} {l:List α} {n:Nat}:(a::l).set (n+1) b=a::l.set n b:=rfl
theorem b_d0 {α:Type} {l:List α}:l.drop 0=l:=rfl
theorem b_t0 {α:Type} {l:List α}:l.take 0=[]:=List.take_zero
theorem b_ts {α:Type} {a:α} {l:List α} {n:Nat}:(a::l).take (n+1)=a::l.take n:=rfl
theorem b_ds {α:Type} {a:α} {l:List α} {n:Nat}:(a::l).drop (n+1)=l.drop n:=rfl
theorem b_dn {α:Type} {n:Nat}:([]:List α).drop n=[]:=List.drop_nil
theorem z7k {α:Type} {n:Nat}:([]:List α).take n=[]:=List.take_nil
theorem b_lm {α β:Type} {f:α→β} {l:List α}:(l.map f).length=l.length:=List.length_map f
theorem b_nt:(¬ False)=True:=not_false_eq_true
theorem z8s {α:Type} {a b:α}:(a≠b)=¬ (a=b):=rfl
theorem RG:(type_of% @b_ca)∧(type_of% @b_na)∧(type_of% @b_lc)∧(type_of% @b_ln)∧(type_of% @b_s0)∧(type_of% @b_ss)∧(type_of% @b_d0)∧(type_of% @b_t0)∧(type_of% @b_ts)∧(type_of% @b_ds)∧(type_of% @b_dn)∧(type_of% @z7k)∧(type_of% Nat.zero_add)∧(type_of% Nat.add_zero)∧(type_of% true_and)∧(type_of% and_true)∧(type_of% @b_lm)∧(type_of% @z8s)∧(type_of% b_nt)∧(type_of% @z49)∧(type_of% @z8h)∧(type_of% @zz5)∧(type_of% zr5)∧(type_of% @zlv) :=
 ⟨@b_ca,@b_na,@b_lc,@b_ln,@b_s0,@b_ss,@b_d0,@b_t0,@b_ts,@b_ds,@b_dn,@z7k,Nat.zero_add,Nat.add_zero,true_and,and_true,@b_lm,@z8s,b_nt,@z49,@z8h,@zz5,zr5,@zlv⟩
theorem z38 {α:Type} [BEq α] [LawfulBEq α] {a b:α}:((a == b)=true)=(a=b):=propext beq_iff_eq
theorem z37 {α:Type} [BEq α] [LawfulBEq α] {a b:α}:((a == b)=false)=¬ (a=b):=propext beq_eq_false_iff_ne
theorem z4a {α:Type} [BEq α] [LawfulBEq α] {a b:α}:((a != b)=true)=¬ (a=b):=propext bne_iff_ne
theorem z39 {α:Type} [BEq α] [LawfulBEq α] {a b:α}:((a != b)=false)=(a=b):=propext bne_eq_false_iff_eq
theorem b_gt {a b:Int}:(a>b)=(b<a):=rfl
theorem b_ge {a b:Int}:(a ≥ b)=(b≤a):=rfl
theorem RL:(type_of% @decide_eq_true_eq)∧(type_of% @decide_eq_false_iff_not)∧(type_of% @z38)∧(type_of% @z37)∧(type_of% @z4a)∧(type_of% @z39)∧(type_of% @z8s)∧(type_of% @Classical.not_not)∧(type_of% @Bool.not_eq_true')∧(type_of% @Bool.not_eq_false')∧(type_of% @b_gt)∧(type_of% @b_ge) :=
 ⟨@decide_eq_true_eq,@decide_eq_false_iff_not,@z38,@z37,@z4a,@z39,@z8s,@Classical.not_not,@Bool.not_eq_true',@Bool.not_eq_false',@b_gt,@b_ge⟩
inductive Bel (k:Nat):PV→Prop where
 | int (q n):Bel k (.int q n)
 | bool (b):Bel k (.bool b)
 | str (s):Bel k (.str s)
 | agg (cs):(∀ c∈cs,Bel k c)→Bel k (.agg cs)
 | tup (cs):(∀ c∈cs,Bel k c)→Bel k (.tup cs)
 | fn (f cs):(∀ c∈cs,Bel k c)→Bel k (.fn f cs)
 | sl (cs n):Bel k (.sl cs n)
 | nils:Bel k .nils
 | bm (f b):Bel k (.bm f b)
 | ip (cs n):Bel k (.ip cs n)
 | nilp:Bel k .nilp
 | nilm:Bel k .nilm
 | nilf:Bel k .nilf
 | yl (l:Nat):Bel k (.yl l)
 | undef:Bel k .undef
 | loc (o v f n):o<k→Bel k (.loc o v f n)
 | ref (o v f):o<k→Bel k (.ref o v f)
 | mp (o v):o<k→Bel k (.mp o v)
def Ob.bel (k:Nat):Ob→Prop
 | .arr _ _ _ cells=>∀ c∈cells,Bel k c
 | .map _ es=>∀ e∈es,Bel k e.1∧Bel k e.2
 | .lp _ _ _ tmps=>∀ c∈tmps,Bel k c
theorem VR.grow {H:Array Obj} {F:Nat→Prop} {G G':GSt} {k:Nat} (ht:G.tick≤G'.tick) (hg:∀ o,o<k→G'.obs[o]?=G.obs[o]?) {p:PV} {v:Value} (hb:Bel k p) (h:VR H F G p v):VR H F G' p v:=by
 induction h with
 | imm p v h=>exact .imm p v h
 | agg cs vs e _ ih=>cases hb with | agg _ hb=>exact .agg cs vs e fun i p v h1 h2=>ih i p v h1 h2 (hb p (List.mem_of_getElem? h1))
 | tup cs vs e _ ih=>cases hb with | tup _ hb=>exact .tup cs vs e fun i p v h1 h2=>ih i p v h1 h2 (hb p (List.mem_of_getElem? h1))
 | fn f cs vs e _ ih=>cases hb with | fn _ _ hb=>exact .fn f cs vs e fun i p v h1 h2=>ih i p v h1 h2 (hb p (List.mem_of_getElem? h1))
 | loc o ver off n a len cap hv k'=>cases hb with | loc _ _ _ _ hb=>exact .loc o ver off n a len cap (Nat.lt_of_lt_of_le hv ht) fun ob l h=>k' ob l (by rw [← hg o hb]; exact h)
 | ref o ver off a hv k'=>cases hb with | ref _ _ _ hb=>exact .ref o ver off a (Nat.lt_of_lt_of_le hv ht) fun ob l h=>k' ob l (by rw [← hg o hb]; exact h)
 | mp o ver r hv k'=>cases hb with | mp _ _ hb=>exact .mp o ver r (Nat.lt_of_lt_of_le hv ht) fun ob l h=>k' ob l (by rw [← hg o hb]; exact h)
theorem Ev.frame {P:Program} {f:FuncId} {args:List PV} {obs:List Ob} {t:Nat} {J:PV→Store→Prop} (h:Ev P f args ⟨obs,t⟩ J)
  (hJ:∀ v S,J v S→S.obs.length=obs.length∧Bel obs.length v∧∀ ob∈S.obs,ob.bel obs.length) (R:List Ob) :
  Ev P f args ⟨obs++R,t⟩ fun v S=>∃ S1,J v S1∧S=⟨S1.obs++R,S1.tick⟩:=by
 refine ⟨h.ent,?_⟩
 intro F G w cargs hS hi hl hv
 have hobs:G.obs.map (·.1)=obs++R:=congrArg Store.obs hS
 have htk:G.tick=t:=congrArg Store.tick hS
 have hlen:G.obs.length=obs.length+R.length:=by rw [← List.length_map (f:=(·.1)),hobs,List.length_append]
 obtain ⟨i1,n1⟩:=zcz hi obs.length
 have e1:(G.take obs.length).er=⟨obs,t⟩:=by
  rw [zib,hS]; simp [Store.take]
 refine Calls.mono (h.run F (G.take obs.length) w cargs e1 i1 hl fun i p c h1 h2=>(hv i p c h1 h2).next hi n1) ?_
 rintro e w' ⟨v,cv,F',G1,rfl,hj,i2,n2,r2⟩
 obtain ⟨j1,j2,j3⟩:=hJ _ _ hj
 have hG1:G1.obs.length=obs.length:=by rw [← j1]; simp [GSt.er]
 let G':GSt:=⟨G1.obs++G.obs.drop obs.length,G1.tick⟩
 have lo:∀ o,o<obs.length→G'.obs[o]?=G1.obs[o]?:=fun o ho=>by simp only[G']; rw [List.getElem?_append_left (by omega)]
 have hi':∀ o,obs.length≤o→G'.obs[o]?=G.obs[o]?:=fun o ho=>by
  simp only[G']; rw [List.getElem?_append_right (by omega),List.getElem?_drop]; congr 1; omega
 have tk:∀ o,o<obs.length→(G.take obs.length).obs[o]?=G.obs[o]?:=fun o ho=>by simp [GSt.take,List.getElem?_take,ho]
 have old:∀ o x,obs.length≤o→G.obs[o]?=some x→∀ (o':Nat) y,(G.take obs.length).obs[o']?=some y→y.2.blk≠x.2.blk:=by
  intro o x ho hx o' y hy e
  have h1:=za4 hy
  have:=hi.inj o' o y x h1 hx e
  have:o'<obs.length:=by
   have:=(List.getElem?_eq_some_iff.1 hy).1
   simp only[GSt.take,List.length_take]at this; omega
  omega
 have nx:Next F G w F' G' w':=by
  refine ⟨n2.os,n2.tape,n2.output,n2.size,n2.fsub,?_,?_,n2.tick,?_,?_,n2.drawn⟩
  ·intro b hb
   rcases n2.fnew b hb with h1 | h1 | ⟨o,x,hx,e⟩
   ·exact .inl h1
   ·exact .inr (.inl h1)
   exact .inr (.inr ⟨o,x,za4 hx,e⟩)
  ·intro o x hx
   by_cases ho:o<obs.length
   ·rw [lo o ho]at hx
    rcases n2.gnew o x hx with h1 | ⟨o',y,hy,e⟩
    ·exact .inl h1
    exact .inr ⟨o',y,za4 hy,e⟩
   rw [hi' o (by omega)]at hx
   exact .inr ⟨o,x,hx,rfl⟩
  ·intro b hb hG
   exact n2.keep b hb fun o x hx=>hG o x (za4 hx)
  intro o ob' l' hx hv
  by_cases ho:o<obs.length
  ·rw [lo o ho]at hx
   obtain ⟨ob,h1,h2,h3⟩:=n2.hand o ob' l' hx hv
   exact ⟨ob,za4 h1,h2,h3⟩
  rw [hi' o (by omega)]at hx
  exact ⟨ob',hx,rfl,Ob.like.refl _⟩
 have bel1:∀ (o:Nat) (ob:Ob) (l:Lc),G1.obs[o]?=some (ob,l)→ob.bel obs.length:=fun o ob l ho=>j3 ob (by
  simp only[GSt.er]; exact List.mem_map.2 ⟨(ob,l),List.mem_of_getElem? ho,rfl⟩)
 refine ⟨v,cv,F',G',rfl,⟨_,hj,?_⟩,zgx i2.fr ?_ ?_ ?_ ?_,nx,VR.grow (G:=G1) (G':=G') (qR _) lo j2 r2⟩
 ·simp only[GSt.er,G',List.map_append,Store.mk.injEq,and_true]
  congr 1
  rw [List.map_drop,hobs]; simp
 ·intro o ob l hx
  by_cases ho:o<obs.length
  ·rw [lo o ho]at hx; exact i2.ver o ob l hx
  rw [hi' o (by omega)]at hx; exact Nat.lt_of_lt_of_le (hi.ver o ob l hx) n2.tick
 ·intro o ob l hx hF
  by_cases ho:o<obs.length
  ·rw [lo o ho]at hx; exact i2.nF o ob l hx hF
  rw [hi' o (by omega)]at hx
  rcases n2.fnew _ hF with h1 | h1 | ⟨o',x,hx',e⟩
  ·exact hi.nF o ob l hx h1
  ·have:=hi.blk_lt hx; simp only at this; omega
  exact old o _ (by omega) hx o' x hx' e
 ·intro o ob l hx
  by_cases ho:o<obs.length
  ·rw [lo o ho]at hx
   have hb:=bel1 o ob l hx
   have:=i2.holds hx
   cases ob with
   | arr ver et sz cells =>
    obtain ⟨cs,h1,h2,h3,h4⟩:=this
    refine ⟨cs,h1,h2,h3,fun i p hp=>?_⟩
    obtain ⟨a1,v,a2,a3⟩:=h4 i p hp
    exact ⟨a1,v,a2,VR.grow (G:=G1) (G':=G') (qR _) lo (hb p (List.mem_of_getElem? hp)) a3⟩
   | map ver es =>
    obtain ⟨ents,clock,h1,h2,h3⟩:=this
    refine ⟨ents,clock,h1,h2,fun i k v hp=>?_⟩
    obtain ⟨en,a1,a2,a3⟩:=h3 i k v hp
    have hb':=hb (k,v) (List.mem_of_getElem? hp)
    exact ⟨en,a1,VR.grow (G:=G1) (G':=G') (qR _) lo hb'.1 a2,VR.grow (G:=G1) (G':=G') (qR _) lo hb'.2 a3⟩
   | lp ver b r tmps =>
    obtain ⟨h0,t,h1,h2,h3⟩:=this
    exact ⟨h0,t,h1,h2,fun i p v hp hv=>VR.grow (G:=G1) (G':=G') (qR _) lo (hb p (List.mem_of_getElem? hp)) (h3 i p v hp hv)⟩
  ·rw [hi' o (by omega)]at hx
   exact (hi.holds hx).next hi nx (n2.keep _ (hi.blk_lt hx) (fun o' y hy=>old o _ (by omega) hx o' y hy))
 intro o o' x x' hx hx' e
 by_cases ho:o<obs.length <;> by_cases ho':o'<obs.length
 ·rw [lo o ho]at hx; rw [lo o' ho']at hx'; exact i2.inj o o' x x' hx hx' e
 ·rw [lo o ho]at hx; rw [hi' o' (by omega)]at hx'
  exfalso
  rcases n2.gnew o x hx with h1 | ⟨o2,y,hy,e2⟩
  ·have:=hi.blk_lt hx'; omega
  exact old o' x' (by omega) hx' o2 y hy (by omega)
 ·rw [hi' o (by omega)]at hx; rw [lo o' ho']at hx'
  exfalso
  rcases n2.gnew o' x' hx' with h1 | ⟨o2,y,hy,e2⟩
  ·have:=hi.blk_lt hx; omega
  exact old o x (by omega) hx o2 y hy (by omega)
 rw [hi' o (by omega)]at hx; rw [hi' o' (by omega)]at hx'; exact hi.inj o o' x x' hx hx' e
section
def sh (S:Store) (im:Bool):Nat→PV→Option PV
 | 0,_=>none
 | k+1,p =>
  match p with
  | .int a b=>some (.int a b)
  | .bool b=>some (.bool b)
  | .str s=>some (.str s)
  | .nilp=>some .nilp
  | .nilf=>some .nilf
  | .yl l=>some (.yl l)
  | .nilm=>some .nilm
  | .nils=>some .nils
  | .agg cs=>(cs.mapM (sh S im k)).map .agg
  | .tup cs=>(cs.mapM (sh S im k)).map .tup
  | .fn f cs=>(cs.mapM (sh S im k)).map (.fn f)
  | .sl cs n=>if im || cs.isEmpty then some (.sl cs n) else none
  | .ip cs off=>if im then some (.ip cs off) else none
  | .bm f b=>if im then some (.bm f b) else none
  | .loc o ver off n =>
   match S.obs[o]? with
   | some (.arr v _ _ _)=>if v=ver then some (.loc o 0 off n) else none
   | _=>none
  | .ref o ver off =>
   match S.obs[o]? with
   | some (.arr v _ _ _)=>if v=ver then some (.ref o 0 off) else none
   | _=>none
  | .mp o ver =>
   match S.obs[o]? with
   | some (.map v _)=>if v=ver then some (.mp o 0) else none
   | _=>none
  | .undef=>none
def zyn (S:Store) (im:Bool):Ob→Option Ob
 | .arr _ et sz cells=>(cells.mapM (sh S im 10)).map (.arr 0 et sz ·)
 | .map _ es=>(es.mapM fun q=>(sh S im 10 q.1).bind fun a=>(sh S im 10 q.2).map fun b=>(a,b)).map (.map 0 ·)
 | .lp _ _ _ _=>none
def zoe (S:Store) (im:Bool):List Ob→Option (List Ob)
 | []=>some []
 | o::r=>(zyn S im o).bind fun a=>(zoe S im r).map (a :: ·)
def up (k t:Nat):Nat→PV→PV
 | f+1,.loc o _ off n => .loc (o+k) t off n
 | f+1,.ref o _ off => .ref (o+k) t off
 | f+1,.mp o _ => .mp (o+k) t
 | f+1,.agg cs => .agg (cs.map (up k t f))
 | f+1,.tup cs => .tup (cs.map (up k t f))
 | f+1,.fn g cs => .fn g (cs.map (up k t f))
 | _,p=>p
def z2a (k t:Nat):Ob→Ob
 | .arr _ et sz cells => .arr t et sz (cells.map (up k t 10))
 | .map _ es => .map t (es.map fun q=>(up k t 10 q.1,up k t 10 q.2))
 | .lp _ l r tmps => .lp t l r tmps
def PN (P:Program) (f:FuncId) (args:List PV) (r:PV) (obs:List Ob) (im:Bool):Prop :=
 Ev P f args ⟨[],0⟩ fun v S=>∃ k,sh (S.take k) im 10 v=some r∧zoe (S.take k) im (S.take k).obs=some obs
section
variable {P:Program} {T:Tab} {F:Nat→Prop} {G:GSt} {w:World} {e:Env} {a:Act}
theorem z6s {S:Store} {im:Bool} {k t:Nat}:∀ {f:Nat} {p q:PV},sh S im f p=some q→p.isCell=true→(up k t f q).isCell=true
 | 0,p,q,h,_=>by simp [sh]at h
 | f+1,p,q,h,hp=>by
  cases p <;> simp only[sh]at h <;> first
   | (cases h; rfl)
   | (simp [PV.isCell]at hp; done)
   | (cases h; done)
   | (split at h <;> first | (cases h; rfl) | (cases h; done) | (split at h <;> first | (cases h; done) | (cases h; rfl)))
   | (rw [qI]at h; obtain ⟨_,_,rfl⟩:=h; rfl)
structure Beh (G' G'':GSt) (k t:Nat):Prop where
 tick:t<G''.tick
 get:∀ (o:Nat) ob l,G''.obs[o+k]?=some (ob,l)→∃ ob',G'.obs[o]?=some (ob',l)∧ob'.like ob∧ob.ver=t
theorem zjh {w':World} {F' F'':Nat→Prop} {G' G'':GSt} {im:Bool} {k t:Nat} (hb:Beh G' G'' k t) (hF:im=true→∀ b,F' b→F'' b) :
  ∀ {f:Nat} {p q:PV} {cv:Value},VR w'.heap F' G' p cv→sh G'.er im f p=some q→VR w'.heap F'' G'' (up k t f q) cv
 | 0,p,q,cv,_,h=>by simp [sh]at h
 | f+1,p,q,cv,hv,h=>by
  have rowVR:∀ {cs ts:List PV} {vs:Array Value},cs.length=vs.size→(∀ (i:Nat) p v,cs[i]?=some p→vs[i]?=some v→VR w'.heap F' G' p v)→cs.mapM (sh G'.er im f)=some ts →
    (ts.map (up k t f)).length=vs.size∧∀ (i:Nat) p v,(ts.map (up k t f))[i]?=some p→vs[i]?=some v→VR w'.heap F'' G'' p v:=by
   intro cs ts vs hl hp hm
   obtain ⟨h1,h2⟩:=zax _ _ hm
   refine ⟨by simp; omega,fun i p v q1 q2=>?_⟩
   rw [List.getElem?_map,qI]at q1
   obtain ⟨y,y1,rfl⟩:=q1
   obtain ⟨x,h3,h4⟩:=h2 i y y1
   exact zjh hb hF (hp i x v h3 q2) h4
  cases p with
  | int a b=>simp only[sh]at h; cases h; rw [hv.int]; exact .imm _ _ (.int _ _)
  | bool b=>simp only[sh]at h; cases h; rw [hv.bool]; exact .imm _ _ (.bool _)
  | str s=>simp only[sh]at h; cases h; obtain ⟨b,rfl,hb⟩:=hv.str; exact .imm _ _ (.str _ _ hb)
  | nilp=>simp only[sh]at h; cases h; cases hv with | imm _ _ hv=>cases hv; exact .imm _ _ .nilp
  | nilf=>simp only[sh]at h; cases h; cases hv with | imm _ _ hv=>cases hv; exact .imm _ _ .nilf
  | yl l=>simp only[sh]at h; cases h; cases hv with | imm _ _ hv=>cases hv; exact .imm _ _ (.yl _)
  | nilm=>simp only[sh]at h; cases h; cases hv with | imm _ _ hv=>cases hv; exact .imm _ _ .nilm
  | nils=>simp only[sh]at h; cases h; cases hv with | imm _ _ hv=>cases hv; exact .imm _ _ .nils
  | agg cs =>
   simp only[sh]at h
   rw [qI]at h
   obtain ⟨ts,h1,rfl⟩:=h
   obtain ⟨vs,rfl,h2,h3⟩:=hv.agg'
   obtain ⟨h4,h5⟩:=rowVR h2 h3 h1
   exact .agg _ _ h4 h5
  | tup cs =>
   simp only[sh]at h
   rw [qI]at h
   obtain ⟨ts,h1,rfl⟩:=h
   obtain ⟨vs,rfl,h2,h3⟩:=hv.tup'
   obtain ⟨h4,h5⟩:=rowVR h2 h3 h1
   exact .tup _ _ h4 h5
  | fn g cs =>
   simp only[sh]at h
   rw [qI]at h
   obtain ⟨ts,h1,rfl⟩:=h
   have:∃ vs:Array Value,cv = .func (.func g) #[] vs∧cs.length=vs.size∧∀ (i:Nat) p v,cs[i]?=some p→vs[i]?=some v→VR w'.heap F' G' p v:=by
    cases hv with
    | imm _ _ hv=>cases hv with | fn _ _ vs h2 h3=>exact ⟨vs,rfl,h2,fun i p v a b => .imm _ _ (h3 i p v a b)⟩
    | fn _ _ vs h2 h3=>exact ⟨vs,rfl,h2,h3⟩
   obtain ⟨vs,rfl,h2,h3⟩:=this
   obtain ⟨h4,h5⟩:=rowVR h2 h3 h1
   exact .fn _ _ _ h4 h5
  | sl cs n =>
   simp only[sh]at h
   split at h
   ·rename_i hc
    cases h
    simp only[Bool.or_eq_true,List.isEmpty_iff]at hc
    cases hv with
    | imm _ _ hv =>
     rcases hc with hc | hc
     ·exact .imm _ _ (hv.mono (hF hc) (fun _ _=>rfl))
     subst hc
     cases hv with
     | sl0=>exact .imm _ _ .sl0
     | sl _ _ b off cap g h1 h2 h3 h4=>exact .imm _ _ (.sl _ _ b off cap g (fun h=>absurd rfl h) h2 (by simp) (by simp))
   cases h
  | ip cs n =>
   simp only[sh]at h
   split at h
   ·rename_i hc
    cases h
    cases hv with
    | imm _ _ hv=>exact .imm _ _ (hv.mono (hF hc) (fun _ _=>rfl))
   cases h
  | bm g b =>
   simp only[sh]at h
   split at h
   ·rename_i hc
    cases h
    cases hv with
    | imm _ _ hv=>exact .imm _ _ (hv.mono (hF hc) (fun _ _=>rfl))
   cases h
  | loc o ver off n =>
   simp only[sh]at h
   split at h
   case h_2=>cases h
   rename_i v et sz cells hob
   split at h
   case isFalse=>cases h
   rename_i hver
   cases h
   cases hv with
   | imm _ _ hv=>cases hv
   | loc _ _ _ _ a len cap hv k' =>
    refine .loc _ _ _ _ a len cap hb.tick fun ob l hg he=>?_
    obtain ⟨ob',h1,h2,h3⟩:=hb.get o ob l hg
    have hob':ob' = .arr v et sz cells:=by
     have:G'.er.obs[o]?=some ob':=by simp [GSt.er,h1]
     rw [hob]at this; cases this; rfl
    subst hob'
    obtain ⟨et2,sz2,cells2,q1,q2⟩:=k' _ l h1 (by simp only[Ob.ver]; exact hver)
    cases q1
    cases ob with
    | arr v3 et3 sz3 cells3 =>
     simp only[Ob.like]at h2
     obtain ⟨rfl,rfl⟩:=h2
     exact ⟨_,_,cells3,by simp only[Ob.ver]at h3; rw [h3],q2⟩
    | map v3 es=>exact h2.elim
    | lp _ _ _ _=>exact h2.elim
  | ref o ver off =>
   simp only[sh]at h
   split at h
   case h_2=>cases h
   rename_i v et sz cells hob
   split at h
   case isFalse=>cases h
   rename_i hver
   cases h
   cases hv with
   | imm _ _ hv=>cases hv
   | ref _ _ _ a hv k' =>
    refine .ref _ _ _ a hb.tick fun ob l hg he=>?_
    obtain ⟨ob',h1,h2,h3⟩:=hb.get o ob l hg
    have hob':ob' = .arr v et sz cells:=by
     have:G'.er.obs[o]?=some ob':=by simp [GSt.er,h1]
     rw [hob]at this; cases this; rfl
    subst hob'
    obtain ⟨et2,sz2,cells2,q1,q2⟩:=k' _ l h1 (by simp only[Ob.ver]; exact hver)
    cases q1
    cases ob with
    | arr v3 et3 sz3 cells3 =>
     simp only[Ob.like]at h2
     obtain ⟨rfl,rfl⟩:=h2
     exact ⟨_,_,cells3,by simp only[Ob.ver]at h3; rw [h3],q2⟩
    | map v3 es=>exact h2.elim
    | lp _ _ _ _=>exact h2.elim
  | mp o ver =>
   simp only[sh]at h
   split at h
   case h_2=>cases h
   rename_i v es hob
   split at h
   case isFalse=>cases h
   rename_i hver
   cases h
   cases hv with
   | imm _ _ hv=>cases hv
   | mp _ _ r hv k' =>
    refine .mp _ _ r hb.tick fun ob l hg he=>?_
    obtain ⟨ob',h1,h2,h3⟩:=hb.get o ob l hg
    have hob':ob' = .map v es:=by
     have:G'.er.obs[o]?=some ob':=by simp [GSt.er,h1]
     rw [hob]at this; cases this; rfl
    subst hob'
    obtain ⟨es2,q1,q2⟩:=k' _ l h1 (by simp only[Ob.ver]; exact hver)
    cases q1
    cases ob with
    | arr v3 et3 sz3 cells3=>exact h2.elim
    | map v3 es3=>exact ⟨es3,by simp only[Ob.ver]at h3; rw [h3],q2⟩
    | lp _ _ _ _=>exact h2.elim
  | undef=>simp only[sh]at h; cases h
theorem ztd {S:Store} {im:Bool}:∀ {l l':List Ob},zoe S im l=some l'→l.length=l'.length∧∀ (i:Nat) ob',l'[i]?=some ob'→∃ ob,l[i]?=some ob∧zyn S im ob=some ob'
 | [],l',h=>by simp [zoe]at h; subst h; simp
 | o::l,l',h=>by
  simp only[zoe]at h
  rw [Option.bind_eq_some_iff]at h
  obtain ⟨a,h1,h⟩:=h
  rw [qI]at h
  obtain ⟨r,h2,rfl⟩:=h
  obtain ⟨h3,h4⟩:=ztd h2
  refine ⟨by simp [h3],?_⟩
  rintro (_ | i) ob' hi
  ·simp at hi; subst hi; exact ⟨o,rfl,h1⟩
  simp at hi; obtain ⟨ob,h5,h6⟩:=h4 i ob' hi; exact ⟨ob,by simpa using h5,h6⟩
theorem zjg {S:Store} {im:Bool} {k t:Nat} {ob ob':Ob} (h:zyn S im ob=some ob'):ob.like (z2a k t ob')∧(z2a k t ob').ver=t:=by
 cases ob with
 | arr v et sz cells=>simp only[zyn]at h; rw [qI]at h; obtain ⟨_,_,rfl⟩:=h; simp [z2a,Ob.ver,Ob.like]
 | map v es=>simp only[zyn]at h; rw [qI]at h; obtain ⟨_,_,rfl⟩:=h; simp [z2a,Ob.ver,Ob.like]
 | lp _ _ _ _=>simp [zyn]at h
theorem zs0 {o:List Ob} {t t':Nat} {im:Bool}:∀ {k:Nat} {p:PV},reify ⟨o,t⟩ im k p=reify ⟨o,t'⟩ im k p
 | 0,_=>rfl
 | k+1,p=>by
  have ih:reify ⟨o,t⟩ im k=reify ⟨o,t'⟩ im k:=funext fun p=>zs0
  cases p <;> simp only[reify,ih,Store.cellsOf]
theorem PN.ev {f:FuncId} {args ts:List PV} {r:PV} {obs:List Ob} {im:Bool} {S:Store} {k:Nat} (h:PN P f ts r obs im) (h1:args.mapM (reify S true k)=some ts)
  (h2:im=false∨args.mapM (reify ⟨[],0⟩ true k)=some ts) :
  Ev P f args S fun v S'=>v=up S.obs.length S.tick 10 r∧S'=⟨S.obs++obs.map (z2a S.obs.length S.tick),S.tick+1⟩:=by
 refine ⟨h.ent,fun F G w cargs hS hi hl hv=>?_⟩
 subst hS
 -- the blocks that the call takes for data
 obtain ⟨F1,hF1,hF1',hF1s,hvi⟩:∃ F1:Nat→Prop,(∀ b,F1 b→b<w.heap.size)∧(im=true→∀ b,F1 b→F b)∧(∀ b,F b→F1 b) ∧
   (∀ (i:Nat) p c,ts[i]?=some p→cargs[i]?=some c→VI w.heap F1 p c):=by
  cases him:im with
  | false =>
   obtain ⟨m1,m2⟩:=zax _ _ h1
   refine ⟨Foot F G true,fun b hb=>?_,by simp,fun b hb => .inl ⟨rfl,hb⟩,fun i p c q1 q2=>?_⟩
   ·rcases hb with ⟨_,hb⟩ | ⟨o,x,hx,rfl⟩
    ·exact hi.fr b hb
    exact hi.blk_lt hx
   obtain ⟨x,x1,x2⟩:=m2 i p q1
   exact zca hi (hv i x c x1 q2) x2
  | true =>
   have h2':=h2.resolve_left (by simp [him])
   obtain ⟨m1,m2⟩:=zax _ _ h2'
   obtain ⟨i1,n1⟩:=zcz hi 0
   refine ⟨F,fun b hb=>hi.fr b hb,fun _ _ h=>h,fun _ h=>h,fun i p c q1 q2=>?_⟩
   obtain ⟨x,x1,x2⟩:=m2 i p q1
   have e0:(G.take 0).er=⟨[],G.tick⟩:=by simp [GSt.take,GSt.er]
   have:=zca (im:=true) (k:=k) i1 ((hv i x c x1 q2).next hi n1) (by rw [e0,zs0 (t':=0)]; exact x2)
   refine this.mono ?_ (fun _ _=>rfl)
   rintro b (⟨_,hb⟩ | ⟨o,y,hy,_⟩)
   ·exact hb
   simp [GSt.take]at hy
 have hlen:args.length=ts.length:=(zax _ _ h1).1
 have hi1:Inv F1 ⟨[],0⟩ w:=⟨hF1,by simp,by simp,by simp,by simp,by simp,by simp⟩
 refine (h.run F1 ⟨[],0⟩ w cargs rfl hi1 (by omega) fun i p c q1 q2 => .imm _ _ (hvi i p c q1 q2)).mono ?_
 rintro en w' ⟨v,cv,F',G0,rfl,⟨kk,j1,j2⟩,i2,n2,r2⟩
 obtain ⟨i3,n3⟩:=zcz i2 kk
 rw [← zib]at j1 j2
 have n4:=n2.trans n3
 have r3:=r2.next i2 n3
 generalize G0.take kk=G' at j1 j2 i3 n4 r3
 clear i2 n2 n3 r2
 obtain ⟨l1,l2⟩:=ztd j2
 have hlG:G'.obs.length=obs.length:=by rw [← l1]; simp [GSt.er]
 let N:List (Ob × Lc):=List.zipWith (fun ob (x:Ob × Lc)=>(z2a G.obs.length G.tick ob,x.2)) obs G'.obs
 let G2:GSt:=⟨G.obs++N,G.tick+1⟩
 have hN:∀ (o:Nat) ob l,N[o]?=some (ob,l)→∃ ob0 ob',G'.obs[o]?=some (ob0,l)∧zyn G'.er im ob0=some ob'∧ob=z2a G.obs.length G.tick ob':=by
  intro o ob l ho
  simp only[N,List.getElem?_zipWith]at ho
  cases ha:obs[o]? with
  | none=>rw [ha]at ho; simp at ho
  | some q =>
   cases hb:G'.obs[o]? with
   | none=>rw [ha,hb]at ho; simp at ho
   | some x =>
    rw [ha,hb]at ho
    simp at ho
    obtain ⟨rfl,rfl⟩:=ho
    obtain ⟨ob0,k1,k2⟩:=l2 o q ha
    simp only[GSt.er,List.getElem?_map,hb,qO,Option.some.injEq]at k1
    exact ⟨x.1,q,rfl,k1 ▸ k2,rfl⟩
 have lo:∀ o,o<G.obs.length→G2.obs[o]?=G.obs[o]?:=fun o ho=>by simp only[G2]; rw [List.getElem?_append_left ho]
 have hi':∀ o,G.obs.length≤o→G2.obs[o]?=N[o - G.obs.length]?:=fun o ho=>by simp only[G2]; rw [List.getElem?_append_right ho]
 have beh:Beh G' G2 G.obs.length G.tick:=by
  refine ⟨Nat.lt_succ_self _,fun o ob l ho=>?_⟩
  rw [hi' _ (by omega),Nat.add_sub_cancel]at ho
  obtain ⟨ob0,ob',h3,h4,rfl⟩:=hN o ob l ho
  exact ⟨ob0,h3,(zjg h4).1,(zjg h4).2⟩
 let F2:Nat→Prop:=fun b=>F b∨(w.heap.size≤b∧F' b)
 have hFF:im=true→∀ b,F' b→F2 b:=by
  intro him b hb
  rcases n4.fnew b hb with h3 | h3 | ⟨o,x,hx,_⟩
  ·exact .inl (hF1' him b h3)
  ·exact .inr ⟨h3,hb⟩
  simp at hx
 have newb:∀ (o:Nat) x,G'.obs[o]?=some x→w.heap.size≤x.2.blk:=by
  intro o x hx
  rcases n4.gnew o x hx with h3 | ⟨o',y,hy,_⟩
  ·exact h3
  simp at hy
 have nx:Next F G w F2 G2 w':=by
  refine ⟨n4.os,n4.tape,n4.output,n4.size,fun b hb => .inl hb,?_,?_,Nat.le_succ _,fun b hb _=>n4.keep b hb (by simp),?_,n4.drawn⟩
  ·rintro b (hb | ⟨hb,_⟩)
   ·exact .inl hb
   exact .inr (.inl hb)
  ·rintro o ⟨ob,l⟩ hx
   by_cases ho:o<G.obs.length
   ·rw [lo o ho]at hx; exact .inr ⟨o,_,hx,rfl⟩
   rw [hi' o (by omega)]at hx
   obtain ⟨ob0,ob',h3,_⟩:=hN _ _ _ hx
   have:=newb _ _ h3
   exact .inl this
  intro o ob' l' hx hver
  by_cases ho:o<G.obs.length
  ·rw [lo o ho]at hx; exact ⟨ob',hx,rfl,Ob.like.refl _⟩
  rw [hi' o (by omega)]at hx
  obtain ⟨ob0,ob2,h3,h4,rfl⟩:=hN _ _ _ hx
  rw [(zjg h4).2]at hver
  omega
 refine ⟨_,cv,F2,G2,rfl,⟨rfl,?_⟩,zgx ?_ ?_ ?_ ?_ ?_,nx,by
  have hlo:G.er.obs.length=G.obs.length:=by simp [GSt.er]
  rw [hlo]; exact zjh beh hFF r3 j1⟩
 ·have hlo:G.er.obs.length=G.obs.length:=by simp [GSt.er]
  have htk:G.er.tick=G.tick:=rfl
  rw [hlo,htk]
  simp only[GSt.er,G2,List.map_append,Store.mk.injEq,and_true]
  congr 1
  apply List.ext_getElem
  ·simp [N,hlG]
  intro i a b; simp [N]
 ·rintro b (hb | ⟨_,hb⟩)
  ·exact Nat.lt_of_lt_of_le (hi.fr b hb) n4.size
  exact i3.fr b hb
 ·intro o ob l hx
  by_cases ho:o<G.obs.length
  ·rw [lo o ho]at hx; exact Nat.lt_succ_of_lt (hi.ver o ob l hx)
  rw [hi' o (by omega)]at hx
  obtain ⟨ob0,ob2,h3,h4,rfl⟩:=hN _ _ _ hx
  rw [(zjg h4).2]; exact Nat.lt_succ_self _
 ·rintro o ob l hx (hF | ⟨hs,hF⟩)
  ·by_cases ho:o<G.obs.length
   ·rw [lo o ho]at hx; exact hi.nF o ob l hx hF
   rw [hi' o (by omega)]at hx
   obtain ⟨ob0,ob2,h3,_⟩:=hN _ _ _ hx
   have h5:=newb _ _ h3
   have h6:=hi.fr _ hF
   simp only at h5
   omega
  by_cases ho:o<G.obs.length
  ·rw [lo o ho]at hx
   have:=hi.blk_lt hx
   simp only at this; omega
  rw [hi' o (by omega)]at hx
  obtain ⟨ob0,ob2,h3,_⟩:=hN _ _ _ hx
  exact i3.nF _ _ _ h3 hF
 ·intro o ob l hx
  by_cases ho:o<G.obs.length
  ·rw [lo o ho]at hx
   exact (hi.holds hx).next hi nx (n4.keep _ (hi.blk_lt hx) (by simp))
  rw [hi' o (by omega)]at hx
  obtain ⟨ob0,ob2,h3,h4,rfl⟩:=hN _ _ _ hx
  have hh:=i3.holds h3
  cases ob0 with
  | arr ver et sz cells =>
   simp only[zyn]at h4
   rw [qI]at h4
   obtain ⟨cs2,m1,rfl⟩:=h4
   obtain ⟨cs,q1,q2,q3,q4⟩:=hh
   obtain ⟨m2,m3⟩:=zax _ _ m1
   refine ⟨cs,q1,q2,by simp; omega,fun i p hp=>?_⟩
   rw [List.getElem?_map,qI]at hp
   obtain ⟨y,y1,rfl⟩:=hp
   obtain ⟨x,x1,x2⟩:=m3 i y y1
   obtain ⟨c1,v1,v2,v3⟩:=q4 i x x1
   exact ⟨z6s x2 c1,v1,v2,zjh beh hFF v3 x2⟩
  | map ver es =>
   simp only[zyn]at h4
   rw [qI]at h4
   obtain ⟨es2,m1,rfl⟩:=h4
   obtain ⟨ents,clock,q1,q2,q3⟩:=hh
   obtain ⟨m2,m3⟩:=zi0 _ _ m1
   refine ⟨ents,clock,q1,by simp; omega,fun i k v hp=>?_⟩
   rw [List.getElem?_map,qI]at hp
   obtain ⟨y,y1,y2⟩:=hp
   cases y2
   obtain ⟨x,x1,x2⟩:=m3 i y y1
   obtain ⟨en,e1,e2,e3⟩:=q3 i x.1 x.2 x1
   rw [Option.bind_eq_some_iff]at x2
   obtain ⟨b1,b2,x2⟩:=x2
   rw [qI]at x2
   obtain ⟨b3,b4,x2⟩:=x2
   cases x2
   exact ⟨en,e1,zjh beh hFF e2 b2,zjh beh hFF e3 b4⟩
  | lp _ _ _ _=>simp [zyn]at h4
 rintro o o' ⟨ob,l⟩ ⟨ob',l'⟩ hx hx' e
 simp only at e
 by_cases ho:o<G.obs.length <;> by_cases ho':o'<G.obs.length
 ·rw [lo o ho]at hx; rw [lo o' ho']at hx'; exact hi.inj o o' _ _ hx hx' e
 ·rw [lo o ho]at hx; rw [hi' o' (by omega)]at hx'
  obtain ⟨ob0,ob2,h3,_⟩:=hN _ _ _ hx'
  have h5:=newb _ _ h3; have h6:=hi.blk_lt hx
  simp only at h5 h6; omega
 ·rw [hi' o (by omega)]at hx; rw [lo o' ho']at hx'
  obtain ⟨ob0,ob2,h3,_⟩:=hN _ _ _ hx
  have h5:=newb _ _ h3; have h6:=hi.blk_lt hx'
  simp only at h5 h6; omega
 rw [hi' o (by omega)]at hx; rw [hi' o' (by omega)]at hx'
 obtain ⟨ob0,ob2,h3,_⟩:=hN _ _ _ hx
 obtain ⟨ob0',ob2',h3',_⟩:=hN _ _ _ hx'
 have:=i3.inj _ _ _ _ h3 h3' e
 omega
theorem PN.of {f:FuncId} {fn:Func} {c:Code} (h:Fn P f fn c) (hT:zar P T) (hm:P.follows .mixedOrders=true) {args:List PV} {r:PV} {obs:List Ob} {im:Bool} (hn:args.length≤fn.ntmps)
  (hw:W P T c (zjk T fn.results.toList fun v S=>∃ k,sh (S.take k) im 10 v=some r∧zoe (S.take k) im (S.take k).obs=some obs) (zaj args) ⟨[],0⟩):PN P f args r obs im :=
 Ev.of h hT hm hn (hw.mono fun x e S hx=>by
  have key:∀ (v:PV) (S:Store),(∃ k,sh (S.take k) im 10 v=some r∧zoe (S.take k) im (S.take k).obs=some obs) →
    ∃ k1 k,sh ((S.take k1).take k) im 10 v=some r∧zoe ((S.take k1).take k) im ((S.take k1).take k).obs=some obs:=by
   rintro v S ⟨k,h1,h2⟩
   have e:(S.take k).take k=S.take k:=by simp [Store.take,List.take_take]
   exact ⟨k,k,by rw [e]; exact h1,by rw [e]; exact h2⟩
  cases x <;> simp only[zjk,zgp]at hx ⊢ <;> (try exact hx)
  all_goals
   split at hx
   ·exact key _ _ hx
   exact hx)
theorem Ev.pc {f:FuncId} {args:List PV} {q:PV} {fr:Bool} {J:PV→Store→Prop} (h:Ev P f args ⟨[],0⟩ J) (hJ:∀ v S,J v S→reify S (!fr) 10 v=some q):PC P f args q fr:=by
 refine ⟨h.ent,fun F w cargs hF hl hv=>?_⟩
 have hi:Inv F ⟨[],0⟩ w:=⟨hF,by simp,by simp,by simp,by simp,by simp,by simp⟩
 refine (h.run F ⟨[],0⟩ w cargs rfl hi hl fun i p c q1 q2 => .imm _ _ (hv i p c q1 q2)).mono ?_
 rintro en w' ⟨v',cv,F',G',rfl,k2,k3,k4,k5⟩
 refine ⟨cv,rfl,⟨⟨k4.os,k4.tape,k4.output,k4.size,fun b hb=>k4.keep b hb (by simp)⟩,k4.drawn⟩,(zca k3 k5 (hJ _ _ k2)).mono ?_ (fun _ _=>rfl)⟩
 rintro b (⟨h1,h2⟩ | ⟨o,x,hx,rfl⟩)
 ·rcases k4.fnew b h2 with h3 | h3 | ⟨o,x,hx,_⟩
  ·exact .inr ⟨by simpa using h1,h3⟩
  ·exact .inl ⟨h3,k3.fr b h2⟩
  simp at hx
 rcases k4.gnew o x hx with h3 | ⟨o',y,hy,_⟩
 ·exact .inl ⟨h3,k3.blk_lt hx⟩
 simp at hy
theorem PN.pc {f:FuncId} {args:List PV} {r q:PV} {obs:List Ob} {im fr:Bool} (h:PN P f args r obs im) (h1:args.mapM (reify ⟨[],0⟩ true 10)=some args)
  (hq:reify ⟨obs.map (z2a 0 0),1⟩ (!fr) 10 (up 0 0 10 r)=some q):PC P f args q fr :=
 Ev.pc (PN.ev h h1 (.inr h1)) (by rintro _ _ ⟨rfl,rfl⟩; simpa using hq)
variable {S:Store} {d:Option Tmp} {r:List Oper} {ds:List (Option Tmp)} {K:Env→Store→Prop}
theorem zac.pn {f:FuncId} {xs ts:List PV} {v:PV} {obs:List Ob} {im:Bool} (h:PN P f ts v obs im) (h1:xs.mapM (reify S true 10)=some ts) (h2:im=false∨xs.mapM (reify ⟨[],0⟩ true 10)=some ts)
  (k:zam false P T ds r (e.put d (up S.obs.length S.tick 10 v)) ⟨S.obs++obs.map (z2a S.obs.length S.tick),S.tick+1⟩ K):zac false P T ds f xs S d r e K :=
 zac.ev (PN.ev h h1 h2) (by rintro _ _ ⟨rfl,rfl⟩; exact k)
end
theorem z5d {k t f o v off n:Nat}:up k t (f+1) (.loc o v off n) = .loc (o+k) t off n:=rfl
theorem z5e {k t f o v off:Nat}:up k t (f+1) (.ref o v off) = .ref (o+k) t off:=rfl
theorem z5f {k t f:Nat} {cs:List PV}:up k t (f+1) (.tup cs) = .tup (cs.map (up k t f)):=rfl
theorem zw9 {k t f:Nat} {q:IntKind} {n:Int}:up k t f (.int q n) = .int q n:=by cases f <;> rfl
theorem zu1 {k t f:Nat} {b:Bool}:up k t f (.bool b) = .bool b:=by cases f <;> rfl
theorem z13 {k t f:Nat} {b:List UInt8}:up k t f (.str b) = .str b:=by cases f <;> rfl
theorem z12 {k t f:Nat}:up k t f .nils = .nils:=by cases f <;> rfl
theorem z11 {k t f:Nat}:up k t f .nilp = .nilp:=by cases f <;> rfl
theorem z8o {k t f n:Nat} {cs:List PV}:up k t f (.sl cs n) = .sl cs n:=by cases f <;> rfl
theorem z8n {k t f n:Nat} {cs:List PV}:up k t f (.ip cs n) = .ip cs n:=by cases f <;> rfl
theorem z1z {k t f:Nat} {q:IntKind} {l:List Int}:(l.map (PV.int q)).map (up k t f)=l.map (PV.int q):=by
 rw [List.map_map]; exact List.map_congr_left fun a _=>zw9
theorem z10 {k t f:Nat} {q:IntKind} {l:List Nat}:(l.map fun m:Nat=>PV.int q m).map (up k t f)=l.map fun m:Nat=>PV.int q m:=by
 rw [List.map_map]; exact List.map_congr_left fun a _=>zw9
theorem z14 {k t f:Nat} {l:List (List UInt8)}:(l.map PV.str).map (up k t f)=l.map PV.str:=by
 rw [List.map_map]; exact List.map_congr_left fun a _=>z13
theorem zw8 {k t f:Nat} {l:List Bool}:(l.map PV.bool).map (up k t f)=l.map PV.bool:=by
 rw [List.map_map]; exact List.map_congr_left fun a _=>zu1
theorem zw7 {k t v et sz:Nat} {cells:List PV}:z2a k t (.arr v et sz cells) = .arr t et sz (cells.map (up k t 10)):=rfl
theorem RN:(type_of% @z5d)∧(type_of% @z5e)∧(type_of% @z5f)∧(type_of% @zw9)∧(type_of% @zu1)∧(type_of% @z13)∧(type_of% @z12)∧(type_of% @z11)∧(type_of% @z8o)∧(type_of% @z8n)∧(type_of% @z1z)∧(type_of% @z10)∧(type_of% @z14)∧(type_of% @zw8)∧(type_of% @zw7) :=
 ⟨@z5d,@z5e,@z5f,@zw9,@zu1,@z13,@z12,@z11,@z8o,@z8n,@z1z,@z10,@z14,@zw8,@zw7⟩
end
section
def rfq (S:Store) (fr:Nat→Bool):Nat→PV→Option PV
 | 0,_=>none
 | k+1,p =>
  match p with
  | .int a b=>some (.int a b)
  | .bool b=>some (.bool b)
  | .str s=>some (.str s)
  | .nilp=>some .nilp
  | .nilf=>some .nilf
  | .yl l=>some (.yl l)
  | .nilm=>some .nilm
  | .nils=>some .nils
  | .agg cs=>(cs.mapM (rfq S fr k)).map .agg
  | .tup cs=>(cs.mapM (rfq S fr k)).map .tup
  | .fn f cs=>(cs.mapM (rfq S fr k)).map (.fn f)
  | .sl cs n=>some (.sl cs n)
  | .ip cs off=>some (.ip cs off)
  | .bm f b=>some (.bm f b)
  | .loc o ver off n =>
   match S.obs[o]? with
   | some (.arr v _ sz cells)=>if fr o=true∧v=ver∧off+n*sz≤cells.length then (((cells.drop off).take (n*sz)).mapM (rfq S fr k)).map (.sl · n) else none
   | _=>none
  | .ref o ver off=>if fr o=true then (S.cellsOf o ver).bind fun cells=>(cells.mapM (rfq S fr k)).map (.ip · off) else none
  | _=>none
section
variable {P:Program} {T:Tab} {F:Nat→Prop} {G:GSt} {w:World} {e:Env} {a:Act}
def zpx (F:Nat→Prop) (G:GSt) (fr:Nat→Bool) (b:Nat):Prop:=F b∨∃ (o:Nat) (x:Ob × Lc),fr o=true∧G.obs[o]?=some x∧x.2.blk=b
theorem zll {S:Store} {fr:Nat→Bool}:∀ {k:Nat} {p t:PV},rfq S fr k p=some t→p.isCell=true→t.isCell=true
 | 0,p,t,h,_=>by simp [rfq]at h
 | k+1,p,t,h,hp=>by
  cases p <;> simp only[rfq]at h <;> first
   | (cases h; rfl)
   | (simp [PV.isCell]at hp; done)
   | (cases h; done)
   | (split at h <;> first | (cases h; rfl) | (cases h; done) | (split at h <;> first | (cases h; done) | (rw [qI]at h; obtain ⟨_,_,rfl⟩:=h; rfl)))
   | (rw [qI]at h; obtain ⟨_,_,rfl⟩:=h; rfl)
   | (split at h <;> first | (cases h; done) | (rw [Option.bind_eq_some_iff]at h; obtain ⟨_,_,h⟩:=h; rw [qI]at h; obtain ⟨_,_,rfl⟩:=h; rfl))
theorem zm3 (hi:Inv F G w) {fr:Nat→Bool}:∀ {k:Nat} {p t:PV} {cv:Value},VR w.heap F G p cv→rfq G.er fr k p=some t→VI w.heap (zpx F G fr) t cv
 | 0,p,t,cv,_,h=>by simp [rfq]at h
 | k+1,p,t,cv,hv,h=>by
  have cellsVI:∀ {b off:Nat} {cs ts:List PV},zbd w.heap F G b off cs→cs.mapM (rfq G.er fr k)=some ts →
    ∃ g:Nat→Value,(∀ (i:Nat) p,ts[i]?=some p→p.isCell=true∧ze0 w.heap b (off+i)=some (g i))∧∀ (i:Nat) p,ts[i]?=some p→VI w.heap (zpx F G fr) p (g i):=by
   intro b off cs ts hc hm
   obtain ⟨h1,h2⟩:=zax _ _ hm
   refine ⟨fun i=>(ze0 w.heap b (off+i)).getD undef,fun i p hp=>?_,fun i p hp=>?_⟩
   ·obtain ⟨x,h3,h4⟩:=h2 i p hp
    obtain ⟨h5,v,h6,h7⟩:=hc i x h3
    exact ⟨zll h4 h5,by simp [h6]⟩
   obtain ⟨x,h3,h4⟩:=h2 i p hp
   obtain ⟨h5,v,h6,h7⟩:=hc i x h3
   simp only[h6]
   exact zm3 hi h7 h4
  have rowVI:∀ {cs ts:List PV} {vs:Array Value},cs.length=vs.size→(∀ (i:Nat) p v,cs[i]?=some p→vs[i]?=some v→VR w.heap F G p v)→cs.mapM (rfq G.er fr k)=some ts →
    ts.length=vs.size∧∀ (i:Nat) p v,ts[i]?=some p→vs[i]?=some v→VI w.heap (zpx F G fr) p v:=by
   intro cs ts vs hl hp hm
   obtain ⟨h1,h2⟩:=zax _ _ hm
   refine ⟨by omega,fun i p v q1 q2=>?_⟩
   obtain ⟨x,h3,h4⟩:=h2 i p q1
   exact zm3 hi (hp i x v h3 q2) h4
  cases p with
  | int q n=>simp only[rfq]at h; cases h; rw [hv.int]; exact .int _ _
  | bool b=>simp only[rfq]at h; cases h; rw [hv.bool]; exact .bool _
  | str s=>simp only[rfq]at h; cases h; obtain ⟨b,rfl,hb⟩:=hv.str; exact .str _ _ hb
  | nilp=>simp only[rfq]at h; cases h; cases hv with | imm _ _ hv=>cases hv; exact .nilp
  | nilf=>simp only[rfq]at h; cases h; cases hv with | imm _ _ hv=>cases hv; exact .nilf
  | yl l=>simp only[rfq]at h; cases h; cases hv with | imm _ _ hv=>cases hv; exact .yl _
  | nilm=>simp only[rfq]at h; cases h; cases hv with | imm _ _ hv=>cases hv; exact .nilm
  | nils=>simp only[rfq]at h; cases h; cases hv with | imm _ _ hv=>cases hv; exact .nils
  | agg cs =>
   simp only[rfq]at h
   rw [qI]at h
   obtain ⟨ts,h1,rfl⟩:=h
   obtain ⟨vs,rfl,h2,h3⟩:=hv.agg'
   obtain ⟨h4,h5⟩:=rowVI h2 h3 h1
   exact .agg _ _ h4 h5
  | tup cs =>
   simp only[rfq]at h
   rw [qI]at h
   obtain ⟨ts,h1,rfl⟩:=h
   obtain ⟨vs,rfl,h2,h3⟩:=hv.tup'
   obtain ⟨h4,h5⟩:=rowVI h2 h3 h1
   exact .tup _ _ h4 h5
  | fn f cs =>
   simp only[rfq]at h
   rw [qI]at h
   obtain ⟨ts,h1,rfl⟩:=h
   have:∃ vs:Array Value,cv = .func (.func f) #[] vs∧cs.length=vs.size∧∀ (i:Nat) p v,cs[i]?=some p→vs[i]?=some v→VR w.heap F G p v:=by
    cases hv with
    | imm _ _ hv=>cases hv with | fn _ _ vs h2 h3=>exact ⟨vs,rfl,h2,fun i p v a b => .imm _ _ (h3 i p v a b)⟩
    | fn _ _ vs h2 h3=>exact ⟨vs,rfl,h2,h3⟩
   obtain ⟨vs,rfl,h2,h3⟩:=this
   obtain ⟨h4,h5⟩:=rowVI h2 h3 h1
   exact .fn _ _ _ h4 h5
  | sl cs n =>
   simp only[rfq]at h
   cases h
   cases hv with
   | imm _ _ hv=>exact hv.mono (fun b hb => .inl hb) (fun _ _=>rfl)
  | ip cs off =>
   simp only[rfq]at h
   cases h
   cases hv with
   | imm _ _ hv=>exact hv.mono (fun b hb => .inl hb) (fun _ _=>rfl)
  | bm f b =>
   simp only[rfq]at h
   cases h
   cases hv with
   | imm _ _ hv=>exact hv.mono (fun b hb => .inl hb) (fun _ _=>rfl)
  | loc o ver off n =>
   simp only[rfq]at h
   split at h
   ·rename_i v et sz cells hob
    split at h
    ·rename_i hc
     obtain ⟨hlo,rfl,hle⟩:=hc
     rw [qI]at h
     obtain ⟨ts,h1,rfl⟩:=h
     obtain ⟨_,_,l,cap,ho,rfl,_,hn,_⟩:=hv.loc_at hi (cells:=cells) (by simp [Store.cellsOf,hob])
     obtain ⟨l',hG⟩:=zco hob
     rw [hG]at ho
     cases ho
     have hc2:zbd w.heap F G l.blk off ((cells.drop off).take (n*sz)):=by
      have:=((hi.cellsAt hG).drop off).take (n*sz)
      rwa [Nat.zero_add]at this
     obtain ⟨g,g1,g2⟩:=cellsVI hc2 h1
     exact .sl _ _ _ _ _ g (fun _ => .inr ⟨o,_,hlo,hG,rfl⟩) hn g1 g2
    cases h
   cases h
  | ref o ver off =>
   simp only[rfq]at h
   split at h
   case isFalse=>cases h
   rename_i hlo
   rw [Option.bind_eq_some_iff]at h
   obtain ⟨cells,hc,h⟩:=h
   rw [qI]at h
   obtain ⟨ts,h1,rfl⟩:=h
   obtain ⟨et,sz,l,hG,rfl,_⟩:=hv.ref_at hi hc
   obtain ⟨g,g1,g2⟩:=cellsVI (hi.cellsAt hG) h1
   have:=VI.ip (F:=zpx F G fr) ts off l.blk 0 g (fun _ => .inr ⟨o,_,hlo,hG,rfl⟩) g1 g2
   rwa [Nat.zero_add]at this
  | mp o ver=>simp only[rfq]at h; cases h
  | undef=>simp only[rfq]at h; cases h
def zjj (k:Nat) (sel:List Nat) (o:Nat):Bool:=decide (k≤o) && !sel.contains o
def rn (S:Store) (k:Nat) (sel:List Nat):Nat→PV→Option PV
 | 0,_=>none
 | f+1,p =>
  match p with
  | .agg cs=>(cs.mapM (rn S k sel f)).map .agg
  | .tup cs=>(cs.mapM (rn S k sel f)).map .tup
  | .fn g cs=>(cs.mapM (rn S k sel f)).map (.fn g)
  | .loc o ver off n =>
   if o<k then some (.loc o ver off n) else
   if sel.contains o then (match S.obs[o]? with | some (.arr v _ _ _)=>if v=ver then some (.loc (k+sel.idxOf o) S.tick off n) else none | _=>none)
   else rfq S (zjj k sel) 10 (.loc o ver off n)
  | .ref o ver off =>
   if o<k then some (.ref o ver off) else
   if sel.contains o then (match S.obs[o]? with | some (.arr v _ _ _)=>if v=ver then some (.ref (k+sel.idxOf o) S.tick off) else none | _=>none)
   else rfq S (zjj k sel) 10 (.ref o ver off)
  | .mp o ver =>
   if o<k then some (.mp o ver) else
   if sel.contains o then (match S.obs[o]? with | some (.map v _)=>if v=ver then some (.mp (k+sel.idxOf o) S.tick) else none | _=>none)
   else none
  | .undef=>some .undef
  | p=>rfq S (zjj k sel) 10 p
def zyc (S:Store) (k:Nat) (sel:List Nat) (old:Bool):Ob→Option Ob
 | .arr ver et sz cells=>(cells.mapM (rn S k sel 10)).map (.arr (if old then ver else S.tick) et sz ·)
 | .map ver es=>(es.mapM fun q=>(rn S k sel 10 q.1).bind fun a=>(rn S k sel 10 q.2).map fun b=>(a,b)).map (.map (if old then ver else S.tick) ·)
 | .lp ver l r tmps=>(tmps.mapM (rn S k sel 10)).map (.lp (if old then ver else S.tick) l r ·)
def zm5 (S:Store) (k:Nat) (sel:List Nat) (old:Bool):List Nat→Option (List Ob)
 | []=>some []
 | o::r=>((S.obs[o]?).bind (zyc S k sel old)).bind fun a=>(zm5 S k sel old r).map (a :: ·)
def Store.rn (S:Store) (k:Nat) (sel:List Nat):Option Store :=
 if sel.all (fun o=>decide (k≤o)) && decide sel.Nodup && decide (k≤S.obs.length) then
  (zm5 S k sel true (List.range k)).bind fun a=>(zm5 S k sel false sel).map fun b=>⟨a++b,S.tick+1⟩
 else none
theorem zr8:∀ {l:List Nat},l.Nodup→∀ {i j:Nat} (hi:i<l.length) (hj:j<l.length),l[i]=l[j]→i=j
 | [],_,i,_,hi,_,_=>absurd hi (by simp)
 | a::l,h,0,0,_,_,_=>rfl
 | a::l,h,0,j+1,_,hj,e=>by
  rw [List.nodup_cons]at h
  simp only[List.getElem_cons_zero,List.getElem_cons_succ]at e
  exact absurd (e ▸ List.getElem_mem _) h.1
 | a::l,h,i+1,0,hi,_,e=>by
  rw [List.nodup_cons]at h
  simp only[List.getElem_cons_zero,List.getElem_cons_succ]at e
  exact absurd (e ▸ List.getElem_mem _) h.1
 | a::l,h,i+1,j+1,hi,hj,e=>by
  rw [List.nodup_cons]at h
  simp only[List.getElem_cons_succ]at e
  rw [zr8 h.2 (by simpa using hi) (by simpa using hj) e]
theorem zm6 {S:Store} {k:Nat} {sel:List Nat} {old:Bool}:∀ {l:List Nat} {l':List Ob},zm5 S k sel old l=some l'→l.length=l'.length ∧
  ∀ (i:Nat) ob',l'[i]?=some ob'→∃ o ob,l[i]?=some o∧S.obs[o]?=some ob∧zyc S k sel old ob=some ob'
 | [],l',h=>by simp [zm5]at h; subst h; simp
 | o::l,l',h=>by
  simp only[zm5]at h
  rw [Option.bind_eq_some_iff]at h
  obtain ⟨a,h1,h⟩:=h
  rw [Option.bind_eq_some_iff]at h1
  obtain ⟨ob,h0,h1⟩:=h1
  rw [qI]at h
  obtain ⟨r,h2,rfl⟩:=h
  obtain ⟨h3,h4⟩:=zm6 h2
  refine ⟨by simp [h3],?_⟩
  rintro (_ | i) ob' hi
  ·simp at hi; subst hi; exact ⟨o,ob,rfl,h0,h1⟩
  simp at hi; obtain ⟨o2,ob2,h5,h6⟩:=h4 i ob' hi; exact ⟨o2,ob2,by simpa using h5,h6⟩
theorem zm4 {S:Store} {k:Nat} {sel:List Nat} {old:Bool} {ob ob':Ob} (h:zyc S k sel old ob=some ob'):ob.like ob'∧ob'.ver=if old then ob.ver else S.tick:=by
 cases ob with
 | arr v et sz cells=>simp only[zyc]at h; rw [qI]at h; obtain ⟨_,_,rfl⟩:=h; simp [Ob.ver,Ob.like]
 | map v es=>simp only[zyc]at h; rw [qI]at h; obtain ⟨_,_,rfl⟩:=h; simp [Ob.ver,Ob.like]
 | lp _ _ _ _=>simp only[zyc]at h; rw [qI]at h; obtain ⟨_,_,rfl⟩:=h; simp [Ob.ver,Ob.like]
theorem z6l {S:Store} {k:Nat} {sel:List Nat}:∀ {f:Nat} {p t:PV},rn S k sel f p=some t→p.isCell=true→t.isCell=true
 | 0,p,t,h,_=>by simp [rn]at h
 | f+1,p,t,h,hp=>by
  cases p with
  | agg cs=>simp [PV.isCell]at hp
  | tup cs=>simp [PV.isCell]at hp
  | undef=>simp [PV.isCell]at hp
  | fn f cs=>simp only[rn]at h; rw [qI]at h; obtain ⟨_,_,rfl⟩:=h; rfl
  | loc o ver off n =>
   simp only[rn]at h
   split at h
   ·cases h; rfl
   split at h
   ·split at h
    ·split at h
     ·cases h; rfl
     cases h
    cases h
   exact zll h hp
  | ref o ver off =>
   simp only[rn]at h
   split at h
   ·cases h; rfl
   split at h
   ·split at h
    ·split at h
     ·cases h; rfl
     cases h
    cases h
   exact zll h hp
  | mp o ver =>
   simp only[rn]at h
   split at h
   ·cases h; rfl
   split at h
   ·split at h
    ·split at h
     ·cases h; rfl
     cases h
    cases h
   cases h
  | _=>simp only[rn]at h; exact zll h hp
structure Sel (G G':GSt) (k:Nat) (sel:List Nat):Prop where
 tick:G.tick<G'.tick
 get:∀ (o:Nat),sel.contains o=true→∀ ob l,G'.obs[k+sel.idxOf o]?=some (ob,l)→∃ ob',G.obs[o]?=some (ob',l)∧ob'.like ob∧ob.ver=G.tick
theorem zqz (hi:Inv F G w) {k:Nat} {sel:List Nat} {F':Nat→Prop} {G':GSt} (hF:∀ b,zpx F G (zjj k sel) b→F' b) (hn:Next F G w F' G' w) (hs:Sel G G' k sel) :
  ∀ {f:Nat} {p t:PV} {cv:Value},VR w.heap F G p cv→rn G.er k sel f p=some t→VR w.heap F' G' t cv
 | 0,p,t,cv,_,h=>by simp [rn]at h
 | f+1,p,t,cv,hv,h=>by
  have rowVR:∀ {cs ts:List PV} {vs:Array Value},cs.length=vs.size→(∀ (i:Nat) p v,cs[i]?=some p→vs[i]?=some v→VR w.heap F G p v)→cs.mapM (rn G.er k sel f)=some ts →
    ts.length=vs.size∧∀ (i:Nat) p v,ts[i]?=some p→vs[i]?=some v→VR w.heap F' G' p v:=by
   intro cs ts vs hl hp hm
   obtain ⟨h1,h2⟩:=zax _ _ hm
   refine ⟨by omega,fun i p v q1 q2=>?_⟩
   obtain ⟨x,h3,h4⟩:=h2 i p q1
   exact zqz hi hF hn hs (hp i x v h3 q2) h4
  have data:∀ {p:PV},VR w.heap F G p cv→rfq G.er (zjj k sel) 10 p=some t→VR w.heap F' G' t cv:=fun hv h => .imm _ _ ((zm3 hi hv h).mono hF fun _ _=>rfl)
  cases p with
  | agg cs =>
   simp only[rn]at h
   rw [qI]at h
   obtain ⟨ts,h1,rfl⟩:=h
   obtain ⟨vs,rfl,h2,h3⟩:=hv.agg'
   obtain ⟨h4,h5⟩:=rowVR h2 h3 h1
   exact .agg _ _ h4 h5
  | tup cs =>
   simp only[rn]at h
   rw [qI]at h
   obtain ⟨ts,h1,rfl⟩:=h
   obtain ⟨vs,rfl,h2,h3⟩:=hv.tup'
   obtain ⟨h4,h5⟩:=rowVR h2 h3 h1
   exact .tup _ _ h4 h5
  | fn g cs =>
   simp only[rn]at h
   rw [qI]at h
   obtain ⟨ts,h1,rfl⟩:=h
   have:∃ vs:Array Value,cv = .func (.func g) #[] vs∧cs.length=vs.size∧∀ (i:Nat) p v,cs[i]?=some p→vs[i]?=some v→VR w.heap F G p v:=by
    cases hv with
    | imm _ _ hv=>cases hv with | fn _ _ vs h2 h3=>exact ⟨vs,rfl,h2,fun i p v a b => .imm _ _ (h3 i p v a b)⟩
    | fn _ _ vs h2 h3=>exact ⟨vs,rfl,h2,h3⟩
   obtain ⟨vs,rfl,h2,h3⟩:=this
   obtain ⟨h4,h5⟩:=rowVR h2 h3 h1
   exact .fn _ _ _ h4 h5
  | loc o ver off n =>
   simp only[rn]at h
   split at h
   ·cases h; exact hv.next hi hn
   split at h
   case isFalse=>exact data hv h
   rename_i hc
   split at h
   case h_2=>cases h
   rename_i v et sz cells hob
   split at h
   case isFalse=>cases h
   rename_i hver
   cases h
   cases hv with
   | imm _ _ hv=>cases hv
   | loc _ _ _ _ a len cap hv k' =>
    refine .loc _ _ _ _ a len cap hs.tick fun ob l hg he=>?_
    obtain ⟨ob',h1,h2,h3⟩:=hs.get o hc ob l hg
    have hob':ob' = .arr v et sz cells:=by
     have:G.er.obs[o]?=some ob':=by simp [GSt.er,h1]
     rw [hob]at this; cases this; rfl
    subst hob'
    obtain ⟨et2,sz2,cells2,q1,q2⟩:=k' _ l h1 (by simp only[Ob.ver]; exact hver)
    cases q1
    cases ob with
    | arr v3 et3 sz3 cells3 =>
     simp only[Ob.like]at h2
     obtain ⟨rfl,rfl⟩:=h2
     exact ⟨_,_,cells3,by simp only[Ob.ver]at h3; rw [h3]; rfl,q2⟩
    | map v3 es=>exact h2.elim
    | lp _ _ _ _=>exact h2.elim
  | ref o ver off =>
   simp only[rn]at h
   split at h
   ·cases h; exact hv.next hi hn
   split at h
   case isFalse=>exact data hv h
   rename_i hc
   split at h
   case h_2=>cases h
   rename_i v et sz cells hob
   split at h
   case isFalse=>cases h
   rename_i hver
   cases h
   cases hv with
   | imm _ _ hv=>cases hv
   | ref _ _ _ a hv k' =>
    refine .ref _ _ _ a hs.tick fun ob l hg he=>?_
    obtain ⟨ob',h1,h2,h3⟩:=hs.get o hc ob l hg
    have hob':ob' = .arr v et sz cells:=by
     have:G.er.obs[o]?=some ob':=by simp [GSt.er,h1]
     rw [hob]at this; cases this; rfl
    subst hob'
    obtain ⟨et2,sz2,cells2,q1,q2⟩:=k' _ l h1 (by simp only[Ob.ver]; exact hver)
    cases q1
    cases ob with
    | arr v3 et3 sz3 cells3 =>
     simp only[Ob.like]at h2
     obtain ⟨rfl,rfl⟩:=h2
     exact ⟨_,_,cells3,by simp only[Ob.ver]at h3; rw [h3]; rfl,q2⟩
    | map v3 es=>exact h2.elim
    | lp _ _ _ _=>exact h2.elim
  | mp o ver =>
   simp only[rn]at h
   split at h
   ·cases h; exact hv.next hi hn
   split at h
   case isFalse=>cases h
   rename_i hc
   split at h
   case h_2=>cases h
   rename_i v es hob
   split at h
   case isFalse=>cases h
   rename_i hver
   cases h
   cases hv with
   | imm _ _ hv=>cases hv
   | mp _ _ r hv k' =>
    refine .mp _ _ r hs.tick fun ob l hg he=>?_
    obtain ⟨ob',h1,h2,h3⟩:=hs.get o hc ob l hg
    have hob':ob' = .map v es:=by
     have:G.er.obs[o]?=some ob':=by simp [GSt.er,h1]
     rw [hob]at this; cases this; rfl
    subst hob'
    obtain ⟨es2,q1,q2⟩:=k' _ l h1 (by simp only[Ob.ver]; exact hver)
    cases q1
    cases ob with
    | arr v3 et3 sz3 cells3=>exact h2.elim
    | map v3 es3=>exact ⟨es3,by simp only[Ob.ver]at h3; rw [h3]; rfl,q2⟩
    | lp _ _ _ _=>exact h2.elim
  | undef=>simp only[rn]at h; cases h; exact .imm _ _ (.undef _)
  | _=>simp only[rn]at h; exact data hv h
theorem z6n (hi:Inv F G w) {k:Nat} {sel:List Nat} {S':Store} (h:G.er.rn k sel=some S') :
  ∃ G',G'.er=S'∧Inv (zpx F G (zjj k sel)) G' w∧Next F G w (zpx F G (zjj k sel)) G' w∧Sel G G' k sel:=by
 unfold Store.rn at h
 split at h
 case isFalse=>cases h
 rename_i hc
 simp only[qB,List.all_eq_true,decide_eq_true_eq]at hc
 obtain ⟨⟨hge,hnd⟩,hkl⟩:=hc
 rw [Option.bind_eq_some_iff]at h
 obtain ⟨A,hA,h⟩:=h
 rw [qI]at h
 obtain ⟨B,hB,rfl⟩:=h
 obtain ⟨a1,a2⟩:=zm6 hA
 obtain ⟨b1,b2⟩:=zm6 hB
 rw [List.length_range]at a1
 have hlen:G.er.obs.length=G.obs.length:=by simp [GSt.er]
 rw [hlen]at hkl
 have er_get':∀ {o:Nat} {ob:Ob},G.er.obs[o]?=some ob→∃ l,G.obs[o]?=some (ob,l):=fun h=>zco h
 -- where the objects lie
 let lcOf:Nat→Lc:=fun i=>((G.obs[if i<k then i else sel.getD (i - k) 0]?).map (·.2)).getD ⟨0,0⟩
 let G':GSt:=⟨(A++B).zipIdx.map fun q=>(q.1,lcOf q.2),G.tick+1⟩
 have hget:∀ (i:Nat) ob' l,G'.obs[i]?=some (ob',l)→∃ o ob,(if i<k then i else sel.getD (i - k) 0)=o∧(i<k∨sel[i - k]?=some o)∧G.obs[o]?=some (ob,l)∧zyc G.er k sel (decide (i<k)) ob=some ob':=by
  intro i ob' l hx
  simp only[G',List.getElem?_map,qI,List.getElem?_zipIdx]at hx
  obtain ⟨q,⟨ob2,hq,rfl⟩,e⟩:=hx
  simp only[Nat.zero_add,Prod.mk.injEq]at e
  obtain ⟨rfl,e⟩:=e
  by_cases hik:i<k
  ·rw [List.getElem?_append_left (by omega)]at hq
   obtain ⟨o,ob,h1,h2,h3⟩:=a2 i _ hq
   rw [List.getElem?_range hik]at h1
   cases h1
   obtain ⟨l2,h4⟩:=er_get' h2
   have:lcOf i=l2:=by simp [lcOf,hik,h4]
   rw [this]at e; subst e
   exact ⟨i,ob,by simp [hik],.inl hik,h4,by simpa [hik] using h3⟩
  rw [List.getElem?_append_right (by omega),← a1]at hq
  obtain ⟨o,ob,h1,h2,h3⟩:=b2 _ _ hq
  obtain ⟨l2,h4⟩:=er_get' h2
  have hsel:sel.getD (i - k) 0=o:=by simp [List.getD_eq_getElem?_getD,h1]
  have:lcOf i=l2:=by simp only[lcOf,if_neg hik,hsel,h4]; rfl
  rw [this]at e; subst e
  exact ⟨o,ob,by rw [if_neg hik,hsel],.inr h1,h4,by simpa [hik] using h3⟩
 have hn:Next F G w (zpx F G (zjj k sel)) G' w:=by
  refine ⟨rfl,rfl,rfl,qR _,fun b hb => .inl hb,?_,?_,Nat.le_succ _,fun _ _ _=>rfl,?_,qR _⟩
  ·rintro b (hb | ⟨o,x,_,hx,rfl⟩)
   ·exact .inl hb
   exact .inr (.inr ⟨o,x,hx,rfl⟩)
  ·rintro i ⟨ob',l⟩ hx
   obtain ⟨o,ob,_,_,h4,_⟩:=hget i ob' l hx
   exact .inr ⟨o,_,h4,rfl⟩
  intro i ob' l hx hver
  obtain ⟨o,ob,h1,h2,h4,h5⟩:=hget i ob' l hx
  obtain ⟨h6,h7⟩:=zm4 h5
  by_cases hik:i<k
  ·rw [if_pos hik]at h1; subst h1
   simp only[hik,decide_true,if_true]at h7
   exact ⟨ob,h4,h7.symm,h6⟩
  simp only[hik,decide_false,qF,if_false]at h7
  have:G.er.tick=G.tick:=rfl
  omega
 have hs:Sel G G' k sel:=by
  refine ⟨Nat.lt_succ_self _,fun o hc ob l hx=>?_⟩
  obtain ⟨o2,ob2,h1,h2,h4,h5⟩:=hget _ ob l hx
  have hnk:¬ k+sel.idxOf o<k:=by omega
  rcases h2 with h2 | h2
  ·exact absurd h2 hnk
  rw [Nat.add_sub_cancel_left]at h2
  have hmem:o∈sel:=by simpa using hc
  have hlt:=List.idxOf_lt_length_of_mem hmem
  rw [List.getElem?_eq_getElem hlt,List.getElem_idxOf hlt]at h2
  cases h2
  obtain ⟨h6,h7⟩:=zm4 h5
  simp only[hnk,decide_false,qF,if_false]at h7
  exact ⟨ob2,h4,h6,h7⟩
 have hsound:∀ {f:Nat} {p t:PV} {cv:Value},VR w.heap F G p cv→rn G.er k sel f p=some t→VR w.heap (zpx F G (zjj k sel)) G' t cv:=fun hv h=>zqz hi (fun _ h=>h) hn hs hv h
 refine ⟨G',?_,zgx ?_ ?_ ?_ ?_ ?_,hn,hs⟩
 ·simp only[GSt.er,G',Store.mk.injEq,and_true]
  apply List.ext_getElem
  ·simp
  intro i a b; simp
 ·rintro b (hb | ⟨o,x,_,hx,rfl⟩)
  ·exact hi.fr b hb
  exact hi.blk_lt hx
 ·intro i ob' l hx
  obtain ⟨o,ob,h1,h2,h4,h5⟩:=hget i ob' l hx
  obtain ⟨h6,h7⟩:=zm4 h5
  have h8:=hi.ver o ob l h4
  have:G.er.tick=G.tick:=rfl
  show ob'.ver<G.tick+1
  rw [h7]; split <;> omega
 ·intro i ob' l hx hb
  obtain ⟨o,ob,h1,h2,h4,h5⟩:=hget i ob' l hx
  rcases hb with hb | ⟨o',x,hfr,hx',e⟩
  ·exact hi.nF o ob l h4 hb
  have:=hi.inj o' o _ _ hx' h4 e
  subst this
  simp only[zjj,qB,decide_eq_true_eq,Bool.not_eq_true',List.contains_eq_mem,decide_eq_false_iff_not]at hfr
  rcases h2 with h2 | h2
  ·rw [if_pos h2]at h1; omega
  exact hfr.2 (List.mem_of_getElem? h2)
 ·intro i ob' l hx
  obtain ⟨o,ob,h1,h2,h4,h5⟩:=hget i ob' l hx
  have hh:=hi.holds h4
  cases ob with
  | arr v et2 sz2 cells2 =>
   simp only[zyc]at h5
   rw [qI]at h5
   obtain ⟨cs',k3,rfl⟩:=h5
   obtain ⟨m1,m2⟩:=zax _ _ k3
   obtain ⟨cs,q1,q2,q3,q4⟩:=hh
   refine ⟨cs,q1,q2,by omega,fun i p hp=>?_⟩
   obtain ⟨x,x1,x2⟩:=m2 i p hp
   obtain ⟨c1,v1,v2,v3⟩:=q4 i x x1
   exact ⟨z6l x2 c1,v1,v2,hsound v3 x2⟩
  | map v es2 =>
   simp only[zyc]at h5
   rw [qI]at h5
   obtain ⟨es',k3,rfl⟩:=h5
   obtain ⟨m1,m2⟩:=zi0 _ _ k3
   obtain ⟨ents,clock,q1,q2,q3⟩:=hh
   refine ⟨ents,clock,q1,by omega,fun i k v hp=>?_⟩
   obtain ⟨x,x1,x2⟩:=m2 i (k,v) hp
   obtain ⟨en,e1,e2,e3⟩:=q3 i x.1 x.2 x1
   rw [Option.bind_eq_some_iff]at x2
   obtain ⟨a,y1,y2⟩:=x2
   rw [qI]at y2
   obtain ⟨b,y3,y4⟩:=y2
   cases y4
   exact ⟨en,e1,hsound e2 y1,hsound e3 y3⟩
  | lp v b2 r2 tmps2 =>
   simp only[zyc]at h5
   rw [qI]at h5
   obtain ⟨cs',k3,rfl⟩:=h5
   obtain ⟨m1,m2⟩:=zax _ _ k3
   obtain ⟨q0,t,q1,q2,q3⟩:=hh
   refine ⟨q0,t,q1,⟨q2.1,by omega⟩,fun i p v hp hv=>?_⟩
   obtain ⟨x,x1,x2⟩:=m2 i p hp
   exact hsound (q3 i x v x1 hv) x2
 rintro i i' ⟨ob,l⟩ ⟨ob',l'⟩ hx hx' e
 obtain ⟨o,a,h1,h2,h3,_⟩:=hget i _ _ hx
 obtain ⟨o',a',h1',h2',h3',_⟩:=hget i' _ _ hx'
 have:=hi.inj o o' _ _ h3 h3' e
 subst this
 rcases h2 with h2 | h2 <;> rcases h2' with h2' | h2'
 ·rw [if_pos h2]at h1; rw [if_pos h2']at h1'; omega
 ·rw [if_pos h2]at h1
  have:=hge o (List.mem_of_getElem? h2')
  omega
 ·rw [if_pos h2']at h1'
  have:=hge o (List.mem_of_getElem? h2)
  omega
 have l1:=(List.getElem?_eq_some_iff.1 h2)
 have l2:=(List.getElem?_eq_some_iff.1 h2')
 obtain ⟨l1,e1⟩:=l1
 obtain ⟨l2,e2⟩:=l2
 have:=zr8 hnd l1 l2 (e1.trans e2.symm)
 by_cases c1:i<k
 ·rw [if_pos c1]at h1; have:=hge o (List.mem_of_getElem? h2); omega
 by_cases c2:i'<k
 ·rw [if_pos c2]at h1'; have:=hge o (List.mem_of_getElem? h2'); omega
 omega
variable {Q:Exit→Env→Store→Prop} {S:Store} {a b c:Code}
def zyp (L:List Nat) (I:List PV→Store→Prop) (e:Env) (S:Store):Prop :=
 ∃ k sel vs S',(L.map e).mapM (rn S k sel 10)=some vs∧S.rn k sel=some S'∧I vs S'
theorem zow (hi:Inv F G w) {e:Env} {act:Act} (he:zct w.heap F G e act) {L:List Nat} {I:List PV→Store→Prop} (h:zyp L I e G.er) :
  ∃ vs F' G',I vs G'.er∧vs.length=L.length∧Inv F' G' w∧Next F G w F' G' w∧zct w.heap F' G' (Env.of L vs) act:=by
 obtain ⟨k,sel,vs,S',h1,h2,h3⟩:=h
 obtain ⟨G',rfl,k2,k3,k4⟩:=z6n hi h2
 obtain ⟨m1,m2⟩:=zax _ _ h1
 refine ⟨vs,_,G',h3,by rw [← m1]; simp,k2,k3,zqm L vs (by rw [← m1]; simp) fun i t v q1 q2=>?_⟩
 obtain ⟨x,x1,x2⟩:=m2 i v q2
 rw [List.getElem?_map,q1]at x1
 cases x1
 exact zqz hi (fun _ h=>h) k3 k4 (he t) x2
theorem W.foldS (L:List Nat) {I:List PV→Store→Prop} (hI:zyp L I e S) (h:∀ vs S,vs.length=L.length→I vs S→W P T c Q (Env.of L vs) S):W P T c Q e S:=by
 refine ⟨?_⟩
 intro hT hm F0 G0 w0 N F G a w h3 h4 h5 h6 h7 h8 h9 R nn
 subst h3
 obtain ⟨vs,F',G',k1,k2,k3,k4,k5⟩:=zow h4 h5 hI
 exact (h vs _ k2 k1).run hT hm F0 G0 w0 N F' G' a w rfl k3 k5 (h6.trans k4) h7 h8 h9
theorem W.joinS (L:List Nat) (I:List PV→Store→Prop) (h:W P T a (XThen (zyp L I) Q) e S) (k:∀ vs S,vs.length=L.length→I vs S→W P T b Q (Env.of L vs) S):W P T (.seq a b) Q e S:=by
 refine W.seq (h.mono ?_)
 intro x e S hx
 cases x with
 | normal=>exact W.foldS L hx k
 | _=>exact hx
theorem W.loopS (L:List Nat) (I:Nat→List PV→Store→Prop) (n:Nat) (h0:zyp L (I n) e S)
  (h:∀ n vs S,vs.length=L.length→I n vs S→W P T c (XThen (fun e S=>∃ m,m<n∧zyp L (I m) e S) Q) (Env.of L vs) S):W P T (.loop c) Q e S:=by
 refine W.foldS L h0 fun vs S hl hI=>?_
 refine ⟨?_⟩
 intro hT hm F0 G0 w0 N F G a w h3 h4 h5 h6 h7 h8 h9 R nn
 refine wpIn_loop_rounds (n+1) ?_
 clear h0
 induction n using Nat.strongRecOn generalizing vs S F G a w with
 | _ n ih =>
  refine wpIn_mono ((h n vs S hl hI).run hT hm F0 G0 w0 N F G a w h3 h4 h5 h6 h7 h8 (by simpa [zej] using h9)) ?_
  rintro x a' w' ⟨e',F',G',k1,k2,k3,k4,k5,k6⟩
  cases x with
  | normal =>
   obtain ⟨m,hmn,hk⟩:=k1
   obtain ⟨vs',F2,G2,q1,q2,q3,q4,q5⟩:=zow k2 k3 hk
   exact zh8 (by omega) _ _ (ih m hmn vs' _ q2 q1 F2 G2 a' w' rfl q3 q5 (k4.trans q4) k5 k6)
  | _=>exact ⟨e',F',G',k1,k2,k3,k4,k5,k6⟩
end
end
section
section
variable {P:Program} {T:Tab}
def More (S S':Store):Prop:=∀ (o:Nat) x,S.obs[o]?=some x→S'.obs[o]?=some x
theorem More.cells {S S':Store} (h:More S S') {o ver:Nat} {c:List PV} (hc:S.cellsOf o ver=some c):S'.cellsOf o ver=some c:=by
 unfold Store.cellsOf at hc ⊢
 cases ho:S.obs[o]? with
 | none=>rw [ho]at hc; cases hc
 | some x=>rw [ho]at hc; rw [h o x ho]; exact hc
theorem More.push {S:Store} {et sz:Nat} {cells:List PV}:More S (S.push et sz cells):=by
 intro o x hx
 have:=(List.getElem?_eq_some_iff.1 hx).1
 simp only[Store.push]
 rw [List.getElem?_append_left this]; exact hx
variable (P T)
def zyo (ops:Array Oper) (effs pend:List Nat) (t d:Nat) (Q:Env→Store→Prop) (l:List Nat) (e:Env) (S:Store):Prop :=
 (T t).kd ≠ .none∧zbq P T ops effs pend [] Q l (e.put (some d) (.ref S.obs.length S.tick 0)) (S.push t (T t).size (T t).zero)
variable {P T}
variable {ops:Array Oper} {effs pend:List Nat} {t d:Nat} {Q:Env→Store→Prop} {l2:List Nat}
theorem zyo.imp {l l':List Nat} {e:Env} {S:Store} (h:∀ e S,zbq P T ops effs pend [] Q l e S→zbq P T ops effs pend [] Q l' e S) (k:zyo P T ops effs pend t d Q l e S):zyo P T ops effs pend t d Q l' e S:=⟨k.1,h _ _ k.2⟩
variable {F0:Nat→Prop} {G0:GSt} {w0:World} {N:Nat}
end
section
variable {P:Program} {T:Tab} {Q:Exit→Env→Store→Prop} {e:Env} {S:Store} {b:Code}
section
variable {ds pd:List (Option Tmp)} {t d:Nat} {o:Oper} {r l2:List Oper} {K:Env→Store→Prop}
end
theorem zl5:∀ (l:List Oper) (k i:Nat) (o:Oper),l[i]?=some o→(k+i∈zbe l k↔zgi o.op=false)
 | [],_,_,_,h=>by simp at h
 | a::l,k,0,o,h=>by
  simp at h; subst h
  have hge:∀ (l:List Oper) (k j:Nat),j∈zbe l k→k≤j:=by
   intro l
   induction l with
   | nil=>intro k j h; simp [zbe]at h
   | cons b l ih =>
    intro k j h
    unfold zbe at h
    split at h
    ·have:=ih _ _ h; omega
    rcases List.mem_cons.1 h with h | h
    ·omega
    have:=ih _ _ h; omega
  unfold zbe
  split
  ·rename_i hf
   constructor
   ·intro h; have:=hge _ _ _ h; omega
   intro h; rw [hf]at h; cases h
  rename_i hf
  simp; simpa using hf
 | a::l,k,i+1,o,h=>by
  simp only[List.getElem?_cons_succ]at h
  have ih:=zl5 l (k+1) i o h
  unfold zbe
  split
  ·rw [show k+(i+1)=k+1+i by omega]; exact ih
  rw [show k+(i+1)=k+1+i by omega,List.mem_cons]
  constructor
  ·rintro (h | h)
   ·omega
   exact ih.1 h
  exact fun h => .inr (ih.2 h)
end
end
section
section
variable {P:Program} {T:Tab} {e:Env} {S:Store} {Q:Exit→Env→Store→Prop} {b:Code}
def zjl (P:Program) (T:Tab) (ds:List (Option Tmp)) (pd:List (Option Tmp)) (keep:List Nat) (l2:List Oper):List Oper→Env→Store→(Env→Store→Prop)→Prop
 | [],e,S,K=>zam false P T ds l2 e S K
 | o::r,e,S,K =>
  if pd.contains o.dst then zgi o.op=true∧o.guard=none∧∃ v,(∀ S',Keeps keep S S'→zby T S' e o.op=some v)∧zjl P T ds pd keep l2 r (e.put o.dst v) S K
  else zam false P T ds [o] e S fun e' S'=>Keeps keep S S'∧zjl P T ds pd keep l2 r e' S' K
theorem Keeps.refl (keep:List Nat) (S:Store):Keeps keep S S:=fun _ _=>rfl
theorem zan {S S':Store}:Keeps [] S S'=True:=eq_true fun _ h=>by cases h
theorem zak {o:Nat} {k:List Nat} {S S':Store}:Keeps (o::k) S S'=(S'.obs[o]?=S.obs[o]?∧Keeps k S S'):=by
 apply propext; constructor
 ·exact fun h=>⟨h o (by simp),fun x hx=>h x (by simp [hx])⟩
 rintro ⟨h1,h2⟩ x hx
 rcases List.mem_cons.1 hx with rfl | hx
 ·exact h1
 exact h2 x hx
theorem za1 {ds pd:List (Option Tmp)} {keep:List Nat} {l2 r:List Oper} {o:Oper} {K:Env→Store→Prop} (h0:pd.contains o.dst=false)
  (h:zam false P T ds [o] e S fun e' S'=>Keeps keep S S'∧zjl P T ds pd keep l2 r e' S' K):zjl P T ds pd keep l2 (o::r) e S K:=by
 rw [zjl,if_neg (by rw [h0]; exact Bool.false_ne_true)]; exact h
theorem za8 {ds pd:List (Option Tmp)} {keep:List Nat} {l2 r:List Oper} {o:Oper} {K:Env→Store→Prop} (v:PV) (h0:pd.contains o.dst=true) (h1:zgi o.op=true) (h2:o.guard=none)
  (h3:∀ S',Keeps keep S S'→zby T S' e o.op=some v) (h:zjl P T ds pd keep l2 r (e.put o.dst v) S K):zjl P T ds pd keep l2 (o::r) e S K:=by
 rw [zjl,if_pos h0]; exact ⟨h1,h2,v,h3,h⟩
theorem zik {ds pd:List (Option Tmp)} {keep:List Nat} {l2:List Oper} {K:Env→Store→Prop} (h:zam false P T ds l2 e S K):zjl P T ds pd keep l2 [] e S K:=h
theorem zks {all:List Oper} {pend:List Nat} {keep:List Nat} {K:Env→Store→Prop}:∀ (r:List Oper) (k:Nat) (e:Env) (S:Store),all.drop k=r →
  (∀ i,k≤i→i<all.length→(pend.contains i=true↔i∈zbe all 0))→zam false P T (dsts all) r e S K→zbq P T all.toArray (zbe all 0) pend keep K (List.range' k r.length) e S
 | [],_,_,_,_,_,h=>h
 | o::r,k,e,S,hk,hp,h=>by
  have ho:all[k]?=some o:=by
   have:=congrArg (fun l=>l[0]?) hk
   simpa using this
  have hkl:k<all.length:=(List.getElem?_eq_some_iff.1 ho).1
  have hr:all.drop (k+1)=r:=by
   have:=congrArg (List.drop 1) hk
   simpa [List.drop_drop] using this
  have hp':∀ i,k+1≤i→i<all.length→(pend.contains i=true↔i∈zbe all 0):=fun i h1 h2=>hp i (by omega) h2
  unfold zam at h
  simp only[List.length_cons,List.range'_succ,zbq,List.getElem?_toArray,ho]
  rw [zmb]at h
  unfold zen
  split at h
  ·rename_i hg
   rw [hg]
   simp only
   split
   ·rename_i hc
    exact zfb (fun v S' hv=>⟨.inl ((hp k (qR _) hkl).2 (by simpa using hc)),zks r (k+1) _ _ hr hp' hv⟩) (zm8 h)
   rename_i hc
   have hflat:=zgt all 0 k o ho (by simpa using hc)
   have:=zvr hflat h
   rw [zcj]at this ⊢
   obtain ⟨v,h1,h2⟩:=this
   refine ⟨v,h1,?_,zks r (k+1) _ _ hr hp' h2⟩
   rw [if_neg]
   ·trivial
   intro h9; exact hc (by simpa using (hp k (qR _) hkl).1 h9)
  ·rename_i hg; rw [hg]; exact zks r (k+1) _ _ hr hp' h
  exact h.elim
theorem zlz {all l2:List Oper} {pd:List (Option Tmp)} {pend keep:List Nat} {K:Env→Store→Prop} (n1:Nat) (hn1:all.drop n1=l2) (hn:n1≤all.length) (hp2:∀ i,n1≤i→i<all.length→(pend.contains i=true↔i∈zbe all 0))
  (hp1:∀ i o,i<n1→all[i]?=some o→pend.contains i=pd.contains o.dst) :
  ∀ (r:List Oper) (k:Nat) (e:Env) (S:Store),all.drop k=r++l2→k+r.length=n1→zjl P T (dsts all) pd keep l2 r e S K →
  zbq P T all.toArray (zbe all 0) pend keep K (List.range' k (r++l2).length) e S
 | [],k,e,S,hk,hkn,h=>by
  obtain rfl:k=n1:=by simpa using hkn
  exact zks l2 k e S hn1 hp2 h
 | o::r,k,e,S,hk,hkn,h=>by
  have ho:all[k]?=some o:=by
   have:=congrArg (fun l=>l[0]?) hk
   simpa using this
  have hkl:k<all.length:=(List.getElem?_eq_some_iff.1 ho).1
  have hr:all.drop (k+1)=r++l2:=by
   have:=congrArg (List.drop 1) hk
   simpa [List.drop_drop] using this
  have hkn':k+1+r.length=n1:=by rw [List.length_cons]at hkn; omega
  have hkp:=hp1 k o (by rw [List.length_cons]at hkn; omega) ho
  rw [List.cons_append,List.length_cons,List.range'_succ]
  simp only[zbq,List.getElem?_toArray,ho]
  unfold zjl at h
  split at h
  ·rename_i hpd
   obtain ⟨hf,hg,v,h1,h2⟩:=h
   unfold zen gdec
   rw [hg]
   simp only
   have hce:¬ ((zbe all 0).contains k=true):=by
    intro hc
    have:=(zl5 all 0 k o ho).1 (by rw [Nat.zero_add]; simpa using hc)
    rw [hf]at this; cases this
   rw [if_neg hce,zcj]
   have hfl:∀ S',Keeps keep S S'→pFl P T S' e o.op v:=by
    intro S' hS'
    have:=h1 S' hS'
    have:z26 P T S' e o.op fun u=>u=v:=by
     revert this hf
     generalize o.op=op
     intro hf this
     have hpg:zgp (zby T S' e op) fun u=>u=v:=by rw [this]; rfl
     cases op with
     | call c =>
      obtain ⟨cal,xs,ts⟩:=c
      cases cal with
      | value f=>simp [zgi]at hf
      | _=>exact hpg
     | _=>exact hpg
    obtain ⟨u,h3,rfl⟩:=zcj.1 this
    exact h3
   refine ⟨v,hfl S (Keeps.refl _ _),?_,zlz n1 hn1 hn hp2 hp1 r (k+1) _ _ hr hkn' h2⟩
   split
   ·exact hfl
   trivial
  rename_i hpd
  unfold zam at h
  rw [zmb]at h
  unfold zen
  split at h
  ·rename_i hg
   rw [hg]
   simp only
   split
   ·rename_i hc
    exact zfb (fun v S' hv=>⟨.inr hv.1,zlz n1 hn1 hn hp2 hp1 r (k+1) _ _ hr hkn' hv.2⟩) (zm8 h)
   rename_i hc
   have hflat:=zgt all 0 k o ho (by simpa using hc)
   have:=zvr hflat h
   rw [zcj]at this ⊢
   obtain ⟨v,h1,h2⟩:=this
   refine ⟨v,h1,?_,zlz n1 hn1 hn hp2 hp1 r (k+1) _ _ hr hkn' h2.2⟩
   rw [if_neg (by rw [hkp]; exact hpd)]
   trivial
  ·rename_i hg; rw [hg]
   exact zlz n1 hn1 hn hp2 hp1 r (k+1) _ _ hr hkn' h.2
  exact h.elim
def zph (all:List Oper) (pd:List (Option Tmp)) (n1:Nat):List Nat :=
 (List.range all.length).filter fun i=>if i<n1 then (match all[i]? with | some o=>pd.contains o.dst | none=>false) else (zbe all 0).contains i
theorem W.region_pk {id:Nat} {l:List Oper} (n1:Nat) (pd:List (Option Tmp)) (keep:List Nat) (hn:n1≤l.length) (hc:zge l.toArray (List.range' 0 l.length) (zbe l 0) (zph l pd n1)=true)
  (h:∀ K:Env→Store→Prop,(∀ e S,Q .normal e S→K e S)→zjl P T (dsts l) pd keep (l.drop n1) (l.take n1) e S K):W P T (.region id l.toArray true) Q e S:=by
 refine W.region_any (List.range' 0 l.length) (zbe l 0) (zph l pd n1) keep hc ?_
 have:=zlz (pend:=zph l pd n1) n1 rfl hn ?_ ?_ (l.take n1) 0 e S (by simp) (by simp; omega) (h _ fun _ _ h=>h)
 ·rwa [List.take_append_drop]at this
 ·intro i h1 h2
  simp [zph,Nat.not_lt.2 h1,h2]
 intro i o h1 h2
 have hil:=(List.getElem?_eq_some_iff.1 h2).1
 rw [Bool.eq_iff_iff]
 obtain ⟨_,rfl⟩:=List.getElem?_eq_some_iff.1 h2
 simp [zph,h1,hil]
theorem W.seq_pk {id:Nat} {l:List Oper} (n1:Nat) (pd:List (Option Tmp)) (keep:List Nat) (hn:n1≤l.length) (hc:zge l.toArray (List.range' 0 l.length) (zbe l 0) (zph l pd n1)=true)
  (h:∀ K:Env→Store→Prop,(∀ e S,W P T b Q e S→K e S)→zjl P T (dsts l) pd keep (l.drop n1) (l.take n1) e S K):W P T (.seq (.region id l.toArray true) b) Q e S :=
 W.seq (W.region_pk n1 pd keep hn hc fun K hK=>h K hK)
end
end
abbrev Txt:=List UInt8
def Sm (p:List Txt):Prop:=p.length≤1048576∧∀ r∈p,r.length≤1048576
theorem Sm.rows {p:List Txt} (h:Sm p):p.length<2147483648:=by have:=h.1; omega
theorem Sm.cols {p:List Txt} (h:Sm p):∀ r∈p,r.length<2147483648:=fun r hr=>by have:=h.2 r hr; omega
def za0:List Txt→Txt
 | []=>[]
 | a::_=>a
def zcp (c:UInt8):Bool:=decide (97≤c.toNat) && decide (c.toNat≤122)
def z6p (w:Nat) (row:Txt):Bool:=decide (row.length=w) && decide (1≤row.length) && decide (row.length≤6) && row.all zcp
def zgw (p:List Txt):Bool:=p.all (z6p (za0 p).length) && decide (1≤p.length) && decide (p.length≤6)
def zgb (n:Int) (row:Txt):Int:=row.foldl (fun n c=>max n ((c.toNat:Int) - 97+1)) n
def zgy (p:List Txt):Int:=p.foldl zgb 0
def zhe (s:List UInt8 × Txt) (c:UInt8):List UInt8 × Txt:=(if s.1.idxOf c=s.1.length then s.1++[c] else s.1,s.2++[UInt8.ofNat (97+s.1.idxOf c)])
def zqi (o:List UInt8) (row:Txt):List UInt8 × Txt:=row.foldl zhe (o,[])
def zo7 (s:List UInt8 × List Txt) (row:Txt):List UInt8 × List Txt:=((zqi s.1 row).1,s.2++[(zqi s.1 row).2])
def zv3 (p:List Txt):List UInt8 × List Txt:=p.foldl zo7 ([],[])
def names (p:List Txt):List Txt:=(zv3 p).2
def zvx (room:Int) (c:UInt8):Bool:=decide ((c.toNat:Int) - 97=room)
def zij (room:Int) (n:Int) (row:Txt):Int:=row.foldl (fun n c=>if zvx room c then n+1 else n) n
def zuf (p:List Txt) (room:Int):Int:=p.foldl (zij room) 0
structure Box where
 top:Int
 left:Int
 low:Int
 right:Int
def zp0 (room:Int) (i:Nat) (b:Box) (q:UInt8 × Nat):Box:=if zvx room q.1 then ⟨min b.top i,min b.left q.2,max b.low i,max b.right q.2⟩ else b
def zyx (room:Int) (b:Box) (q:Txt × Nat):Box:=(q.1.zipIdx).foldl (zp0 room q.2) b
def zp1 (p:List Txt) (room:Int):Box:=p.zipIdx.foldl (zyx room) ⟨p.length,(za0 p).length,-1,-1⟩
def zvw (p:List Txt) (room:Int):Int:=(zp1 p room).low - (zp1 p room).top+1
def zxa (p:List Txt) (room:Int):Int:=(zp1 p room).right - (zp1 p room).left+1
def zm1 (p:List Txt):Bool:=zgw p && decide (names p=p) && decide (zgy p≤9) && (List.range (zgy p).toNat).all fun r=>decide (zuf p r=zvw p r*zxa p r)
theorem z5g {α:Type} {l:List α} {i:Nat} {a:α} (h:l[i]?=some a):(l.take (i+1)).zipIdx=(l.take i).zipIdx++[(a,i)]:=by
 have hi:=(List.getElem?_eq_some_iff.1 h).1
 rw [tk h,List.zipIdx_append]
 simp [Nat.min_eq_left (Nat.le_of_lt hi)]
theorem zg3:∀ (row:Txt) (n:Int),0≤n→n≤200→0≤zgb n row∧zgb n row≤200
 | [],n,h1,h2=>⟨h1,h2⟩
 | c::row,n,h1,h2=>by
  have:=c.toNat_lt
  exact zg3 row (max n ((c.toNat:Int) - 97+1)) (by omega) (by omega)
theorem zqd (p:List Txt):0≤zgy p∧zgy p≤200:=by
 unfold zgy
 have:∀ (p:List Txt) (n:Int),0≤n→n≤200→0≤p.foldl zgb n∧p.foldl zgb n≤200:=by
  intro p
  induction p with
  | nil=>exact fun n h1 h2=>⟨h1,h2⟩
  | cons row p ih=>exact fun n h1 h2=>ih _ (zg3 row n h1 h2).1 (zg3 row n h1 h2).2
 exact this p 0 (by omega) (by omega)
def zts (p:List Txt) (room:Int) (i:Nat):Box:=((p.take i).zipIdx).foldl (zyx room) ⟨p.length,(za0 p).length,-1,-1⟩
def zup (room:Int) (i:Nat) (b:Box) (row:Txt) (k:Nat):Box:=((row.take k).zipIdx).foldl (zp0 room i) b
theorem zyy {p:List Txt} {room:Int}:zts p room p.length=zp1 p room:=by simp [zts,zp1]
theorem zxd {p:List Txt} {room:Int} {i:Nat} {row:Txt} (h:p[i]?=some row):zts p room (i+1)=zup room i (zts p room i) row row.length:=by
 simp [zts,z5g h,List.foldl_append,zyx,zup]
theorem zye {room:Int} {i k:Nat} {b:Box} {row:Txt} {c:UInt8} (h:row[k]?=some c):zup room i b row (k+1)=zp0 room i (zup room i b row k) (c,k):=by
 simp [zup,z5g h,List.foldl_append]
def Box.In (M:Nat) (b:Box):Prop := -1≤b.top∧b.top≤M ∧ -1≤b.left∧b.left≤M ∧ -1≤b.low∧b.low≤M ∧ -1≤b.right∧b.right≤M
theorem zo0 {p:List Txt} (h:zgw p=true):0<p.length∧p.length≤6∧∀ r∈p,r.length≤6:=by
 unfold zgw at h
 simp only[qB,decide_eq_true_eq,List.all_eq_true]at h
 refine ⟨by omega,by omega,fun r hr=>?_⟩
 have:=h.1.1 r hr
 simp only[z6p,qB,decide_eq_true_eq]at this
 omega
theorem ziw {p:List Txt} {row:Txt} (h:p[0]?=some row):za0 p=row:=by
 cases p with
 | nil=>simp at h
 | cons a p=>simpa [za0] using h
theorem z35 {α:Type} {f:α→Bool} {l:List α} {i:Nat} {a:α} (h:l[i]?=some a) (h1:(l.take i).all f=true) (h2:f a=true):(l.take (i+1)).all f=true:=by
 rw [tk h,List.all_append,h1]; simp [h2]
def z71 (cs:List UInt8) (cx:UInt8) (y:Nat):Bool:=(cs.take y).all fun z=>decide (cx≠z)
def z70 (cs:List UInt8) (x:Nat):Bool :=
 match cs[x]? with
 | some cx=>z71 cs cx x
 | none=>false
def zy8 (cs:List UInt8):Nat→Int
 | 0=>0
 | x+1=>zy8 cs x+if z70 cs x then 1 else 0
def zqf (p:List Txt) (i k:Nat):Int :=
 match p[i - 1]?,p[i]? with
 | some r1,some r2 =>
  match r1[k - 1]?,r1[k]?,r2[k - 1]?,r2[k]? with
  | some a,some b,some c,some d=>zy8 [a,b,c,d] 4
  | _,_,_,_=>0
 | _,_=>0
def zhz (p:List Txt) (many:Int) (i:Nat):Nat→Int
 | 0=>0
 | k+1=>zhz p many i k+if 1≤k∧zqf p i k=many then 1 else 0
def zsx (p:List Txt) (many:Int) (w:Nat):Nat→Int
 | 0=>0
 | i+1=>zsx p many w i+if 1≤i then zhz p many i w else 0
theorem zfd (p:List Txt) (many:Int) (i:Nat):∀ k,0≤zhz p many i k∧zhz p many i k≤k
 | 0=>by simp [zhz]
 | k+1=>by have:=zfd p many i k; unfold zhz; split <;> omega
def points (p:List Txt) (many:Int):Int:=zsx p many (za0 p).length p.length
def zfc (p:List Txt):Bool:=zm1 p && decide (points p 4=0)
theorem ziv {p:List Txt} (h:zgw p=true) {i:Nat} {row:Txt} (hr:p[i]?=some row):row.length=(za0 p).length:=by
 unfold zgw at h
 simp only[qB,decide_eq_true_eq,List.all_eq_true]at h
 have:=h.1.1 row (List.mem_of_getElem? hr)
 simp only[z6p,qB,decide_eq_true_eq]at this
 omega
theorem zx5 {p:List Txt} (h:zm1 p=true):zgw p=true:=by
 unfold zm1 at h; simp only[qB]at h; exact h.1.1.1
theorem z1f {p:List Txt} (h:zgw p=true) {i:Nat} {row:Txt} (hr:p[i]?=some row):1≤row.length:=by
 unfold zgw at h
 simp only[qB,decide_eq_true_eq,List.all_eq_true]at h
 have:=h.1.1 row (List.mem_of_getElem? hr)
 simp only[z6p,qB,decide_eq_true_eq]at this
 omega
def z8z (p:List Txt) (k i:Nat):Txt:=(p.take i).map fun row=>row.getD k 0
def z7q (p:List Txt) (k:Nat):List Txt:=(List.range k).map fun j=>z8z p j p.length
def z8i (p:List Txt):List Txt:=z7q p (za0 p).length
def zsy (l:List Int) (x:Int):List Int:=if l.getLast?=some x then l else l++[x]
def zbk (p:List Txt) (i k:Nat):Int:=(((p[i]?.getD [])[k]?.getD 0).toNat:Int) - 97
theorem ze3 {p:List Txt} {i k:Nat} {row:Txt} {c:UInt8} (h:p[i]?=some row) (hc:row[k]?=some c):zbk p i k=(c.toNat:Int) - 97:=by
 simp [zbk,h,hc]
def z1o (p:List Txt) (kind line fr:Nat):Nat→List Int × List Int
 | 0=>([],[])
 | n+1 =>
  let s:=z1o p kind line fr n
  if kind=0 then (zsy s.1 (zbk p (fr+n) (line - 1)),zsy s.2 (zbk p (fr+n) line))
  else (zsy s.1 (zbk p (line - 1) (fr+n)),zsy s.2 (zbk p line (fr+n)))
def z8p (p:List Txt) (k i:Nat):Bool:=decide (i<p.length) && decide (zbk p i (k - 1)≠zbk p i k)
def z8m (wall:Bool) (k i:Nat) (s:Int × List (List Int)):Int × List (List Int) :=
 let f:=if wall && decide (s.1<0) then (i:Int) else s.1
 if !wall && decide (0≤f) then (-1,s.2++[[(k:Int),f,i - f]]) else (f,s.2)
def upTo (p:List Txt) (k:Nat) (s0:List (List Int)):Nat→Int × List (List Int)
 | 0=>(-1,s0)
 | i+1=>z8m (z8p p k i) k i (upTo p k s0 i)
def z66 (p:List Txt):Nat→List (List Int)
 | 0=>[]
 | k+1=>if 1≤k then (upTo p k (z66 p k) (p.length+1)).2 else z66 p k
def uprights (p:List Txt):List (List Int):=z66 p (za0 p).length
theorem z5n {a b:Int}:(a != b) = !decide (a=b):=by by_cases h:a=b <;> simp [h]
theorem zxv {S:Store} {k:Nat} (l:List (List Int)):(l.map eInts).mapM (reify S true (k+1))=some (l.map eInts) :=
 zbb fun x hx=>by obtain ⟨a,_,rfl⟩:=List.mem_map.1 hx; simp [eInts,reify]
def z6w:List (Nat × TI):=[
 (1,⟨.func,1,8,[.nilf]⟩),
 (2,⟨.int .i64,1,8,[.int .i64 0]⟩),
 (3,⟨.int .i64,1,8,[.int .i64 0]⟩),
 (4,⟨.bool,1,1,[.bool false]⟩),
 (5,⟨.int .u8,1,1,[.int .u8 0]⟩),
 (6,⟨.int .u8,1,1,[.int .u8 0]⟩),
 (7,⟨.struct [(0,2),(1,3),(2,4),(3,6)],4,24,[.int .i64 0,.int .i64 0,.bool false,.int .u8 0]⟩),
 (8,⟨.struct [(0,2),(1,3),(2,4),(3,6)],4,24,[.int .i64 0,.int .i64 0,.bool false,.int .u8 0]⟩),
 (9,⟨.str,1,16,[.str []]⟩),
 (10,⟨.str,1,16,[.str []]⟩),
 (11,⟨.str,1,16,[.str []]⟩),
 (12,⟨.int .u64,1,8,[.int .u64 0]⟩),
 (13,⟨.struct [(0,9),(1,12)],2,24,[.str [],.int .u64 0]⟩),
 (14,⟨.struct [(0,9),(1,12)],2,24,[.str [],.int .u64 0]⟩),
 (15,⟨.ptr 350,1,8,[.nilp]⟩),
 (16,⟨.ptr 353,1,8,[.nilp]⟩),
 (17,⟨.ptr 360,1,8,[.nilp]⟩),
 (18,⟨.struct [(0,17)],1,8,[.nilp]⟩),
 (19,⟨.struct [(0,17)],1,8,[.nilp]⟩),
 (21,⟨.int .i32,1,4,[.int .i32 0]⟩),
 (22,⟨.slice 5,1,24,[.nils]⟩),
 (23,⟨.func,1,8,[.nilf]⟩),
 (25,⟨.func,1,8,[.nilf]⟩),
 (26,⟨.func,1,8,[.nilf]⟩),
 (27,⟨.func,1,8,[.nilf]⟩),
 (28,⟨.slice 9,1,24,[.nils]⟩),
 (29,⟨.func,1,8,[.nilf]⟩),
 (30,⟨.func,1,8,[.nilf]⟩),
 (32,⟨.func,1,8,[.nilf]⟩),
 (33,⟨.func,1,8,[.nilf]⟩),
 (34,⟨.func,1,8,[.nilf]⟩),
 (35,⟨.ptr 96,1,8,[.nilp]⟩),
 (36,⟨.func,1,8,[.nilf]⟩),
 (37,⟨.func,1,8,[.nilf]⟩),
 (38,⟨.func,1,8,[.nilf]⟩),
 (39,⟨.slice 41,1,24,[.nils]⟩),
 (40,⟨.struct [(0,5),(1,39)],2,32,[.int .u8 0,.nils]⟩),
 (41,⟨.struct [(0,5),(1,39)],2,32,[.int .u8 0,.nils]⟩),
 (43,⟨.func,1,8,[.nilf]⟩),
 (44,⟨.func,1,8,[.nilf]⟩),
 (45,⟨.func,1,8,[.nilf]⟩),
 (46,⟨.ptr 48,1,8,[.nilp]⟩),
 (47,⟨.struct [(0,28),(1,28)],2,48,[.nils,.nils]⟩),
 (48,⟨.struct [(0,28),(1,28)],2,48,[.nils,.nils]⟩),
 (49,⟨.map 9 58,1,8,[.nilm]⟩),
 (51,⟨.func,1,8,[.nilf]⟩),
 (52,⟨.ptr 54,1,8,[.nilp]⟩),
 (53,⟨.struct [(0,52),(1,22)],2,32,[.nilp,.nils]⟩),
 (54,⟨.struct [(0,52),(1,22)],2,32,[.nilp,.nils]⟩),
 (56,⟨.func,1,8,[.nilf]⟩),
 (57,⟨.func,1,8,[.nilf]⟩),
 (58,⟨.func,1,8,[.nilf]⟩),
 (63,⟨.func,1,8,[.nilf]⟩),
 (64,⟨.ptr 78,1,8,[.nilp]⟩),
 (66,⟨.func,1,8,[.nilf]⟩),
 (67,⟨.struct [(0,3),(1,3),(2,3),(3,3)],4,32,[.int .i64 0,.int .i64 0,.int .i64 0,.int .i64 0]⟩),
 (68,⟨.struct [(0,3),(1,3),(2,3),(3,3)],4,32,[.int .i64 0,.int .i64 0,.int .i64 0,.int .i64 0]⟩),
 (69,⟨.struct [(0,64),(1,68)],5,40,[.nilp,.int .i64 0,.int .i64 0,.int .i64 0,.int .i64 0]⟩),
 (70,⟨.struct [(0,64),(1,68)],5,40,[.nilp,.int .i64 0,.int .i64 0,.int .i64 0,.int .i64 0]⟩),
 (71,⟨.func,1,8,[.nilf]⟩),
 (72,⟨.func,1,8,[.nilf]⟩),
 (73,⟨.func,1,8,[.nilf]⟩),
 (74,⟨.slice 82,1,24,[.nils]⟩),
 (75,⟨.slice 82,1,24,[.nils]⟩),
 (76,⟨.slice 68,1,24,[.nils]⟩),
 (77,⟨.struct [(0,75),(1,76)],2,48,[.nils,.nils]⟩),
 (78,⟨.struct [(0,75),(1,76)],2,48,[.nils,.nils]⟩),
 (80,⟨.func,1,8,[.nilf]⟩),
 (81,⟨.func,1,8,[.nilf]⟩),
 (82,⟨.slice 3,1,24,[.nils]⟩),
 (83,⟨.func,1,8,[.nilf]⟩),
 (85,⟨.func,1,8,[.nilf]⟩),
 (86,⟨.func,1,8,[.nilf]⟩),
 (87,⟨.ptr 159,1,8,[.nilp]⟩),
 (88,⟨.func,1,8,[.nilf]⟩),
 (89,⟨.func,1,8,[.nilf]⟩),
 (90,⟨.ptr 92,1,8,[.nilp]⟩),
 (91,⟨.struct [(0,9)],1,16,[.str []]⟩),
 (92,⟨.struct [(0,9)],1,16,[.str []]⟩),
 (93,⟨.func,1,8,[.nilf]⟩),
 (94,⟨.slice 35,1,24,[.nils]⟩),
 (95,⟨.struct [(0,5),(1,94)],2,32,[.int .u8 0,.nils]⟩),
 (96,⟨.struct [(0,5),(1,94)],2,32,[.int .u8 0,.nils]⟩),
 (97,⟨.func,1,8,[.nilf]⟩),
 (99,⟨.func,1,8,[.nilf]⟩),
 (100,⟨.func,1,8,[.nilf]⟩),
 (101,⟨.func,1,8,[.nilf]⟩),
 (102,⟨.func,1,8,[.nilf]⟩),
 (104,⟨.func,1,8,[.nilf]⟩),
 (105,⟨.func,1,8,[.nilf]⟩),
 (106,⟨.func,1,8,[.nilf]⟩),
 (107,⟨.func,1,8,[.nilf]⟩),
 (109,⟨.func,1,8,[.nilf]⟩),
 (110,⟨.func,1,8,[.nilf]⟩),
 (111,⟨.func,1,8,[.nilf]⟩),
 (112,⟨.func,1,8,[.nilf]⟩),
 (113,⟨.func,1,8,[.nilf]⟩),
 (114,⟨.func,1,8,[.nilf]⟩),
 (115,⟨.func,1,8,[.nilf]⟩),
 (116,⟨.func,1,8,[.nilf]⟩),
 (117,⟨.func,1,8,[.nilf]⟩),
 (118,⟨.func,1,8,[.nilf]⟩),
 (120,⟨.func,1,8,[.nilf]⟩),
 (121,⟨.func,1,8,[.nilf]⟩),
 (123,⟨.func,1,8,[.nilf]⟩),
 (124,⟨.func,1,8,[.nilf]⟩),
 (125,⟨.func,1,8,[.nilf]⟩),
 (126,⟨.func,1,8,[.nilf]⟩),
 (127,⟨.func,1,8,[.nilf]⟩),
 (128,⟨.func,1,8,[.nilf]⟩),
 (129,⟨.func,1,8,[.nilf]⟩),
 (130,⟨.func,1,8,[.nilf]⟩),
 (131,⟨.func,1,8,[.nilf]⟩),
 (132,⟨.func,1,8,[.nilf]⟩),
 (133,⟨.ptr 5,1,8,[.nilp]⟩),
 (134,⟨.func,1,8,[.nilf]⟩),
 (135,⟨.func,1,8,[.nilf]⟩),
 (136,⟨.func,1,8,[.nilf]⟩),
 (137,⟨.func,1,8,[.nilf]⟩),
 (138,⟨.func,1,8,[.nilf]⟩),
 (139,⟨.struct [(0,4),(1,70),(6,70)],11,88,[.bool false,.nilp,.int .i64 0,.int .i64 0,.int .i64 0,.int .i64 0,.nilp,.int .i64 0,.int .i64 0,.int .i64 0,.int .i64 0]⟩),
 (140,⟨.struct [(0,4),(1,70),(6,70)],11,88,[.bool false,.nilp,.int .i64 0,.int .i64 0,.int .i64 0,.int .i64 0,.nilp,.int .i64 0,.int .i64 0,.int .i64 0,.int .i64 0]⟩),
 (141,⟨.func,1,8,[.nilf]⟩),
 (142,⟨.func,1,8,[.nilf]⟩),
 (143,⟨.func,1,8,[.nilf]⟩),
 (145,⟨.func,1,8,[.nilf]⟩),
 (146,⟨.func,1,8,[.nilf]⟩),
 (148,⟨.func,1,8,[.nilf]⟩),
 (150,⟨.func,1,8,[.nilf]⟩),
 (151,⟨.func,1,8,[.nilf]⟩),
 (152,⟨.func,1,8,[.nilf]⟩),
 (154,⟨.func,1,8,[.nilf]⟩),
 (155,⟨.func,1,8,[.nilf]⟩),
 (156,⟨.func,1,8,[.nilf]⟩),
 (157,⟨.func,1,8,[.nilf]⟩),
 (158,⟨.struct [(0,22),(1,3)],2,32,[.nils,.int .i64 0]⟩),
 (159,⟨.struct [(0,22),(1,3)],2,32,[.nils,.int .i64 0]⟩),
 (160,⟨.func,1,8,[.nilf]⟩),
 (161,⟨.func,1,8,[.nilf]⟩),
 (162,⟨.func,1,8,[.nilf]⟩),
 (163,⟨.func,1,8,[.nilf]⟩),
 (164,⟨.func,1,8,[.nilf]⟩),
 (165,⟨.func,1,8,[.nilf]⟩),
 (166,⟨.func,1,8,[.nilf]⟩),
 (167,⟨.func,1,8,[.nilf]⟩),
 (168,⟨.func,1,8,[.nilf]⟩),
 (169,⟨.func,1,8,[.nilf]⟩),
 (170,⟨.func,1,8,[.nilf]⟩),
 (171,⟨.func,1,8,[.nilf]⟩),
 (172,⟨.func,1,8,[.nilf]⟩),
 (173,⟨.func,1,8,[.nilf]⟩),
 (174,⟨.func,1,8,[.nilf]⟩),
 (175,⟨.func,1,8,[.nilf]⟩),
 (176,⟨.arr 2 3,2,16,[.int .i64 0,.int .i64 0]⟩),
 (177,⟨.slice 180,1,24,[.nils]⟩),
 (178,⟨.func,1,8,[.nilf]⟩),
 (179,⟨.struct [(0,4),(1,3),(2,3),(3,3)],4,32,[.bool false,.int .i64 0,.int .i64 0,.int .i64 0]⟩),
 (180,⟨.struct [(0,4),(1,3),(2,3),(3,3)],4,32,[.bool false,.int .i64 0,.int .i64 0,.int .i64 0]⟩),
 (181,⟨.func,1,8,[.nilf]⟩),
 (182,⟨.func,1,8,[.nilf]⟩),
 (183,⟨.func,1,8,[.nilf]⟩),
 (184,⟨.func,1,8,[.nilf]⟩),
 (185,⟨.func,1,8,[.nilf]⟩),
 (186,⟨.slice 243,1,24,[.nils]⟩),
 (187,⟨.slice 243,1,24,[.nils]⟩),
 (188,⟨.struct [(0,187),(1,187)],2,48,[.nils,.nils]⟩),
 (189,⟨.struct [(0,187),(1,187)],2,48,[.nils,.nils]⟩),
 (191,⟨.func,1,8,[.nilf]⟩),
 (192,⟨.func,1,8,[.nilf]⟩),
 (193,⟨.func,1,8,[.nilf]⟩),
 (195,⟨.func,1,8,[.nilf]⟩),
 (196,⟨.func,1,8,[.nilf]⟩),
 (197,⟨.func,1,8,[.nilf]⟩),
 (198,⟨.func,1,8,[.nilf]⟩),
 (199,⟨.func,1,8,[.nilf]⟩),
 (200,⟨.func,1,8,[.nilf]⟩),
 (201,⟨.func,1,8,[.nilf]⟩),
 (202,⟨.func,1,8,[.nilf]⟩),
 (203,⟨.func,1,8,[.nilf]⟩),
 (204,⟨.func,1,8,[.nilf]⟩),
 (205,⟨.func,1,8,[.nilf]⟩),
 (206,⟨.func,1,8,[.nilf]⟩),
 (208,⟨.func,1,8,[.nilf]⟩),
 (210,⟨.func,1,8,[.nilf]⟩),
 (211,⟨.func,1,8,[.nilf]⟩),
 (212,⟨.func,1,8,[.nilf]⟩),
 (213,⟨.func,1,8,[.nilf]⟩),
 (214,⟨.func,1,8,[.nilf]⟩),
 (215,⟨.func,1,8,[.nilf]⟩),
 (216,⟨.func,1,8,[.nilf]⟩),
 (217,⟨.func,1,8,[.nilf]⟩),
 (218,⟨.ptr 221,1,8,[.nilp]⟩),
 (219,⟨.arr 13 3,13,104,[.int .i64 0,.int .i64 0,.int .i64 0,.int .i64 0,.int .i64 0,.int .i64 0,.int .i64 0,.int .i64 0,.int .i64 0,.int .i64 0,.int .i64 0,.int .i64 0,.int .i64 0]⟩),
 (220,⟨.arr 13 219,169,1352,[.int .i64 0,.int .i64 0,.int .i64 0,.int .i64 0,.int .i64 0,.int .i64 0,.int .i64 0,.int .i64 0,.int .i64 0,.int .i64 0,.int .i64 0,.int .i64 0,.int .i64 0,.int .i64 0,.int .i64 0,.int .i64 0,.int .i64 0,.int .i64 0,.int .i64 0,.int .i64 0,.int .i64 0,.int .i64 0,.int .i64 0,.int .i64 0,.int .i64 0,.int .i64 0,.int .i64 0,.int .i64 0,.int .i64 0,.int .i64 0,.int .i64 0,.int .i64 0,.int .i64 0,.int .i64 0,.int .i64 0,.int .i64 0,.int .i64 0,.int .i64 0,.int .i64 0,.int .i64 0,.int .i64 0,.int .i64 0,.int .i64 0,.int .i64 0,.int .i64 0,.int .i64 0,.int .i64 0,.int .i64 0,.int .i64 0,.int .i64 0,.int .i64 0,.int .i64 0,.int .i64 0,.int .i64 0,.int .i64 0,.int .i64 0,.int .i64 0,.int .i64 0,.int .i64 0,.int .i64 0,.int .i64 0,.int .i64 0,.int .i64 0,.int .i64 0,.int .i64 0,.int .i64 0,.int .i64 0,.int .i64 0,.int .i64 0,.int .i64 0,.int .i64 0,.int .i64 0,.int .i64 0,.int .i64 0,.int .i64 0,.int .i64 0,.int .i64 0,.int .i64 0,.int .i64 0,.int .i64 0,.int .i64 0,.int .i64 0,.int .i64 0,.int .i64 0,.int .i64 0,.int .i64 0,.int .i64 0,.int .i64 0,.int .i64 0,.int .i64 0,.int .i64 0,.int .i64 0,.int .i64 0,.int .i64 0,.int .i64 0,.int .i64 0,.int .i64 0,.int .i64 0,.int .i64 0,.int .i64 0,.int .i64 0,.int .i64 0,.int .i64 0,.int .i64 0,.int .i64 0,.int .i64 0,.int .i64 0,.int .i64 0,.int .i64 0,.int .i64 0,.int .i64 0,.int .i64 0,.int .i64 0,.int .i64 0,.int .i64 0,.int .i64 0,.int .i64 0,.int .i64 0,.int .i64 0,.int .i64 0,.int .i64 0,.int .i64 0,.int .i64 0,.int .i64 0,.int .i64 0,.int .i64 0,.int .i64 0,.int .i64 0,.int .i64 0,.int .i64 0,.int .i64 0,.int .i64 0,.int .i64 0,.int .i64 0,.int .i64 0,.int .i64 0,.int .i64 0,.int .i64 0,.int .i64 0,.int .i64 0,.int .i64 0,.int .i64 0,.int .i64 0,.int .i64 0,.int .i64 0,.int .i64 0,.int .i64 0,.int .i64 0,.int .i64 0,.int .i64 0,.int .i64 0,.int .i64 0,.int .i64 0,.int .i64 0,.int .i64 0,.int .i64 0,.int .i64 0,.int .i64 0,.int .i64 0,.int .i64 0,.int .i64 0,.int .i64 0,.int .i64 0,.int .i64 0,.int .i64 0,.int .i64 0,.int .i64 0,.int .i64 0,.int .i64 0]⟩),
 (221,⟨.arr 13 219,169,1352,[.int .i64 0,.int .i64 0,.int .i64 0,.int .i64 0,.int .i64 0,.int .i64 0,.int .i64 0,.int .i64 0,.int .i64 0,.int .i64 0,.int .i64 0,.int .i64 0,.int .i64 0,.int .i64 0,.int .i64 0,.int .i64 0,.int .i64 0,.int .i64 0,.int .i64 0,.int .i64 0,.int .i64 0,.int .i64 0,.int .i64 0,.int .i64 0,.int .i64 0,.int .i64 0,.int .i64 0,.int .i64 0,.int .i64 0,.int .i64 0,.int .i64 0,.int .i64 0,.int .i64 0,.int .i64 0,.int .i64 0,.int .i64 0,.int .i64 0,.int .i64 0,.int .i64 0,.int .i64 0,.int .i64 0,.int .i64 0,.int .i64 0,.int .i64 0,.int .i64 0,.int .i64 0,.int .i64 0,.int .i64 0,.int .i64 0,.int .i64 0,.int .i64 0,.int .i64 0,.int .i64 0,.int .i64 0,.int .i64 0,.int .i64 0,.int .i64 0,.int .i64 0,.int .i64 0,.int .i64 0,.int .i64 0,.int .i64 0,.int .i64 0,.int .i64 0,.int .i64 0,.int .i64 0,.int .i64 0,.int .i64 0,.int .i64 0,.int .i64 0,.int .i64 0,.int .i64 0,.int .i64 0,.int .i64 0,.int .i64 0,.int .i64 0,.int .i64 0,.int .i64 0,.int .i64 0,.int .i64 0,.int .i64 0,.int .i64 0,.int .i64 0,.int .i64 0,.int .i64 0,.int .i64 0,.int .i64 0,.int .i64 0,.int .i64 0,.int .i64 0,.int .i64 0,.int .i64 0,.int .i64 0,.int .i64 0,.int .i64 0,.int .i64 0,.int .i64 0,.int .i64 0,.int .i64 0,.int .i64 0,.int .i64 0,.int .i64 0,.int .i64 0,.int .i64 0,.int .i64 0,.int .i64 0,.int .i64 0,.int .i64 0,.int .i64 0,.int .i64 0,.int .i64 0,.int .i64 0,.int .i64 0,.int .i64 0,.int .i64 0,.int .i64 0,.int .i64 0,.int .i64 0,.int .i64 0,.int .i64 0,.int .i64 0,.int .i64 0,.int .i64 0,.int .i64 0,.int .i64 0,.int .i64 0,.int .i64 0,.int .i64 0,.int .i64 0,.int .i64 0,.int .i64 0,.int .i64 0,.int .i64 0,.int .i64 0,.int .i64 0,.int .i64 0,.int .i64 0,.int .i64 0,.int .i64 0,.int .i64 0,.int .i64 0,.int .i64 0,.int .i64 0,.int .i64 0,.int .i64 0,.int .i64 0,.int .i64 0,.int .i64 0,.int .i64 0,.int .i64 0,.int .i64 0,.int .i64 0,.int .i64 0,.int .i64 0,.int .i64 0,.int .i64 0,.int .i64 0,.int .i64 0,.int .i64 0,.int .i64 0,.int .i64 0,.int .i64 0,.int .i64 0,.int .i64 0,.int .i64 0,.int .i64 0,.int .i64 0,.int .i64 0,.int .i64 0]⟩),
 (222,⟨.func,1,8,[.nilf]⟩),
 (223,⟨.func,1,8,[.nilf]⟩),
 (224,⟨.func,1,8,[.nilf]⟩),
 (225,⟨.func,1,8,[.nilf]⟩),
 (226,⟨.arr 4 3,4,32,[.int .i64 0,.int .i64 0,.int .i64 0,.int .i64 0]⟩),
 (227,⟨.func,1,8,[.nilf]⟩),
 (228,⟨.func,1,8,[.nilf]⟩),
 (229,⟨.func,1,8,[.nilf]⟩),
 (231,⟨.func,1,8,[.nilf]⟩),
 (232,⟨.func,1,8,[.nilf]⟩),
 (233,⟨.func,1,8,[.nilf]⟩),
 (234,⟨.func,1,8,[.nilf]⟩),
 (235,⟨.func,1,8,[.nilf]⟩),
 (236,⟨.func,1,8,[.nilf]⟩),
 (237,⟨.func,1,8,[.nilf]⟩),
 (238,⟨.func,1,8,[.nilf]⟩),
 (239,⟨.func,1,8,[.nilf]⟩),
 (240,⟨.func,1,8,[.nilf]⟩),
 (241,⟨.func,1,8,[.nilf]⟩),
 (242,⟨.func,1,8,[.nilf]⟩),
 (243,⟨.slice 4,1,24,[.nils]⟩),
 (244,⟨.func,1,8,[.nilf]⟩),
 (245,⟨.func,1,8,[.nilf]⟩),
 (246,⟨.func,1,8,[.nilf]⟩),
 (247,⟨.func,1,8,[.nilf]⟩),
 (248,⟨.func,1,8,[.nilf]⟩),
 (249,⟨.func,1,8,[.nilf]⟩),
 (250,⟨.func,1,8,[.nilf]⟩),
 (251,⟨.func,1,8,[.nilf]⟩),
 (252,⟨.slice 64,1,24,[.nils]⟩),
 (253,⟨.func,1,8,[.nilf]⟩),
 (254,⟨.func,1,8,[.nilf]⟩),
 (255,⟨.func,1,8,[.nilf]⟩),
 (256,⟨.func,1,8,[.nilf]⟩),
 (257,⟨.func,1,8,[.nilf]⟩),
 (258,⟨.func,1,8,[.nilf]⟩),
 (259,⟨.int .u64,1,8,[.int .u64 0]⟩),
 (260,⟨.arr 24 5,24,24,[.int .u8 0,.int .u8 0,.int .u8 0,.int .u8 0,.int .u8 0,.int .u8 0,.int .u8 0,.int .u8 0,.int .u8 0,.int .u8 0,.int .u8 0,.int .u8 0,.int .u8 0,.int .u8 0,.int .u8 0,.int .u8 0,.int .u8 0,.int .u8 0,.int .u8 0,.int .u8 0,.int .u8 0,.int .u8 0,.int .u8 0,.int .u8 0]⟩),
 (261,⟨.int .u64,1,8,[.int .u64 0]⟩),
 (262,⟨.func,1,8,[.nilf]⟩),
 (263,⟨.func,1,8,[.nilf]⟩),
 (265,⟨.func,1,8,[.nilf]⟩),
 (266,⟨.map 3 3,1,8,[.nilm]⟩),
 (267,⟨.func,1,8,[.nilf]⟩),
 (268,⟨.func,1,8,[.nilf]⟩),
 (269,⟨.func,1,8,[.nilf]⟩),
 (270,⟨.func,1,8,[.nilf]⟩),
 (272,⟨.func,1,8,[.nilf]⟩),
 (273,⟨.func,1,8,[.nilf]⟩),
 (274,⟨.func,1,8,[.nilf]⟩),
 (276,⟨.func,1,8,[.nilf]⟩),
 (277,⟨.func,1,8,[.nilf]⟩),
 (278,⟨.func,1,8,[.nilf]⟩),
 (279,⟨.arr 256 4,256,256,[.bool false,.bool false,.bool false,.bool false,.bool false,.bool false,.bool false,.bool false,.bool false,.bool false,.bool false,.bool false,.bool false,.bool false,.bool false,.bool false,.bool false,.bool false,.bool false,.bool false,.bool false,.bool false,.bool false,.bool false,.bool false,.bool false,.bool false,.bool false,.bool false,.bool false,.bool false,.bool false,.bool false,.bool false,.bool false,.bool false,.bool false,.bool false,.bool false,.bool false,.bool false,.bool false,.bool false,.bool false,.bool false,.bool false,.bool false,.bool false,.bool false,.bool false,.bool false,.bool false,.bool false,.bool false,.bool false,.bool false,.bool false,.bool false,.bool false,.bool false,.bool false,.bool false,.bool false,.bool false,.bool false,.bool false,.bool false,.bool false,.bool false,.bool false,.bool false,.bool false,.bool false,.bool false,.bool false,.bool false,.bool false,.bool false,.bool false,.bool false,.bool false,.bool false,.bool false,.bool false,.bool false,.bool false,.bool false,.bool false,.bool false,.bool false,.bool false,.bool false,.bool false,.bool false,.bool false,.bool false,.bool false,.bool false,.bool false,.bool false,.bool false,.bool false,.bool false,.bool false,.bool false,.bool false,.bool false,.bool false,.bool false,.bool false,.bool false,.bool false,.bool false,.bool false,.bool false,.bool false,.bool false,.bool false,.bool false,.bool false,.bool false,.bool false,.bool false,.bool false,.bool false,.bool false,.bool false,.bool false,.bool false,.bool false,.bool false,.bool false,.bool false,.bool false,.bool false,.bool false,.bool false,.bool false,.bool false,.bool false,.bool false,.bool false,.bool false,.bool false,.bool false,.bool false,.bool false,.bool false,.bool false,.bool false,.bool false,.bool false,.bool false,.bool false,.bool false,.bool false,.bool false,.bool false,.bool false,.bool false,.bool false,.bool false,.bool false,.bool false,.bool false,.bool false,.bool false,.bool false,.bool false,.bool false,.bool false,.bool false,.bool false,.bool false,.bool false,.bool false,.bool false,.bool false,.bool false,.bool false,.bool false,.bool false,.bool false,.bool false,.bool false,.bool false,.bool false,.bool false,.bool false,.bool false,.bool false,.bool false,.bool false,.bool false,.bool false,.bool false,.bool false,.bool false,.bool false,.bool false,.bool false,.bool false,.bool false,.bool false,.bool false,.bool false,.bool false,.bool false,.bool false,.bool false,.bool false,.bool false,.bool false,.bool false,.bool false,.bool false,.bool false,.bool false,.bool false,.bool false,.bool false,.bool false,.bool false,.bool false,.bool false,.bool false,.bool false,.bool false,.bool false,.bool false,.bool false,.bool false,.bool false,.bool false,.bool false,.bool false,.bool false,.bool false,.bool false,.bool false,.bool false,.bool false,.bool false,.bool false,.bool false,.bool false,.bool false,.bool false,.bool false,.bool false,.bool false,.bool false,.bool false,.bool false,.bool false,.bool false]⟩),
 (280,⟨.arr 256 4,256,256,[.bool false,.bool false,.bool false,.bool false,.bool false,.bool false,.bool false,.bool false,.bool false,.bool false,.bool false,.bool false,.bool false,.bool false,.bool false,.bool false,.bool false,.bool false,.bool false,.bool false,.bool false,.bool false,.bool false,.bool false,.bool false,.bool false,.bool false,.bool false,.bool false,.bool false,.bool false,.bool false,.bool false,.bool false,.bool false,.bool false,.bool false,.bool false,.bool false,.bool false,.bool false,.bool false,.bool false,.bool false,.bool false,.bool false,.bool false,.bool false,.bool false,.bool false,.bool false,.bool false,.bool false,.bool false,.bool false,.bool false,.bool false,.bool false,.bool false,.bool false,.bool false,.bool false,.bool false,.bool false,.bool false,.bool false,.bool false,.bool false,.bool false,.bool false,.bool false,.bool false,.bool false,.bool false,.bool false,.bool false,.bool false,.bool false,.bool false,.bool false,.bool false,.bool false,.bool false,.bool false,.bool false,.bool false,.bool false,.bool false,.bool false,.bool false,.bool false,.bool false,.bool false,.bool false,.bool false,.bool false,.bool false,.bool false,.bool false,.bool false,.bool false,.bool false,.bool false,.bool false,.bool false,.bool false,.bool false,.bool false,.bool false,.bool false,.bool false,.bool false,.bool false,.bool false,.bool false,.bool false,.bool false,.bool false,.bool false,.bool false,.bool false,.bool false,.bool false,.bool false,.bool false,.bool false,.bool false,.bool false,.bool false,.bool false,.bool false,.bool false,.bool false,.bool false,.bool false,.bool false,.bool false,.bool false,.bool false,.bool false,.bool false,.bool false,.bool false,.bool false,.bool false,.bool false,.bool false,.bool false,.bool false,.bool false,.bool false,.bool false,.bool false,.bool false,.bool false,.bool false,.bool false,.bool false,.bool false,.bool false,.bool false,.bool false,.bool false,.bool false,.bool false,.bool false,.bool false,.bool false,.bool false,.bool false,.bool false,.bool false,.bool false,.bool false,.bool false,.bool false,.bool false,.bool false,.bool false,.bool false,.bool false,.bool false,.bool false,.bool false,.bool false,.bool false,.bool false,.bool false,.bool false,.bool false,.bool false,.bool false,.bool false,.bool false,.bool false,.bool false,.bool false,.bool false,.bool false,.bool false,.bool false,.bool false,.bool false,.bool false,.bool false,.bool false,.bool false,.bool false,.bool false,.bool false,.bool false,.bool false,.bool false,.bool false,.bool false,.bool false,.bool false,.bool false,.bool false,.bool false,.bool false,.bool false,.bool false,.bool false,.bool false,.bool false,.bool false,.bool false,.bool false,.bool false,.bool false,.bool false,.bool false,.bool false,.bool false,.bool false,.bool false,.bool false,.bool false,.bool false,.bool false,.bool false,.bool false,.bool false,.bool false,.bool false,.bool false,.bool false,.bool false,.bool false,.bool false,.bool false,.bool false,.bool false,.bool false,.bool false]⟩),
 (282,⟨.func,1,8,[.nilf]⟩),
 (283,⟨.func,1,8,[.nilf]⟩),
 (284,⟨.ptr 280,1,8,[.nilp]⟩),
 (285,⟨.func,1,8,[.nilf]⟩),
 (286,⟨.int .u32,1,4,[.int .u32 0]⟩),
 (288,⟨.func,1,8,[.nilf]⟩),
 (289,⟨.func,1,8,[.nilf]⟩),
 (290,⟨.arr 20 261,20,160,[.int .u64 0,.int .u64 0,.int .u64 0,.int .u64 0,.int .u64 0,.int .u64 0,.int .u64 0,.int .u64 0,.int .u64 0,.int .u64 0,.int .u64 0,.int .u64 0,.int .u64 0,.int .u64 0,.int .u64 0,.int .u64 0,.int .u64 0,.int .u64 0,.int .u64 0,.int .u64 0]⟩),
 (291,⟨.arr 65 5,65,65,[.int .u8 0,.int .u8 0,.int .u8 0,.int .u8 0,.int .u8 0,.int .u8 0,.int .u8 0,.int .u8 0,.int .u8 0,.int .u8 0,.int .u8 0,.int .u8 0,.int .u8 0,.int .u8 0,.int .u8 0,.int .u8 0,.int .u8 0,.int .u8 0,.int .u8 0,.int .u8 0,.int .u8 0,.int .u8 0,.int .u8 0,.int .u8 0,.int .u8 0,.int .u8 0,.int .u8 0,.int .u8 0,.int .u8 0,.int .u8 0,.int .u8 0,.int .u8 0,.int .u8 0,.int .u8 0,.int .u8 0,.int .u8 0,.int .u8 0,.int .u8 0,.int .u8 0,.int .u8 0,.int .u8 0,.int .u8 0,.int .u8 0,.int .u8 0,.int .u8 0,.int .u8 0,.int .u8 0,.int .u8 0,.int .u8 0,.int .u8 0,.int .u8 0,.int .u8 0,.int .u8 0,.int .u8 0,.int .u8 0,.int .u8 0,.int .u8 0,.int .u8 0,.int .u8 0,.int .u8 0,.int .u8 0,.int .u8 0,.int .u8 0,.int .u8 0,.int .u8 0]⟩),
 (292,⟨.func,1,8,[.nilf]⟩),
 (293,⟨.func,1,8,[.nilf]⟩),
 (294,⟨.func,1,8,[.nilf]⟩),
 (295,⟨.func,1,8,[.nilf]⟩),
 (296,⟨.int .i64,1,8,[.int .i64 0]⟩),
 (298,⟨.func,1,8,[.nilf]⟩),
 (299,⟨.func,1,8,[.nilf]⟩),
 (300,⟨.func,1,8,[.nilf]⟩),
 (301,⟨.func,1,8,[.nilf]⟩),
 (302,⟨.func,1,8,[.nilf]⟩),
 (303,⟨.func,1,8,[.nilf]⟩),
 (305,⟨.func,1,8,[.nilf]⟩),
 (306,⟨.func,1,8,[.nilf]⟩),
 (307,⟨.func,1,8,[.nilf]⟩),
 (308,⟨.func,1,8,[.nilf]⟩),
 (309,⟨.func,1,8,[.nilf]⟩),
 (310,⟨.func,1,8,[.nilf]⟩),
 (311,⟨.func,1,8,[.nilf]⟩),
 (312,⟨.func,1,8,[.nilf]⟩),
 (313,⟨.int .i64,1,8,[.int .i64 0]⟩),
 (315,⟨.func,1,8,[.nilf]⟩),
 (316,⟨.ptr 335,1,8,[.nilp]⟩),
 (317,⟨.func,1,8,[.nilf]⟩),
 (318,⟨.func,1,8,[.nilf]⟩),
 (319,⟨.int .u64,1,8,[.int .u64 0]⟩),
 (320,⟨.func,1,8,[.nilf]⟩),
 (321,⟨.func,1,8,[.nilf]⟩),
 (322,⟨.func,1,8,[.nilf]⟩),
 (323,⟨.ptr 3,1,8,[.nilp]⟩),
 (324,⟨.func,1,8,[.nilf]⟩),
 (325,⟨.func,1,8,[.nilf]⟩),
 (326,⟨.func,1,8,[.nilf]⟩),
 (327,⟨.arr 256 5,256,256,[.int .u8 0,.int .u8 0,.int .u8 0,.int .u8 0,.int .u8 0,.int .u8 0,.int .u8 0,.int .u8 0,.int .u8 0,.int .u8 0,.int .u8 0,.int .u8 0,.int .u8 0,.int .u8 0,.int .u8 0,.int .u8 0,.int .u8 0,.int .u8 0,.int .u8 0,.int .u8 0,.int .u8 0,.int .u8 0,.int .u8 0,.int .u8 0,.int .u8 0,.int .u8 0,.int .u8 0,.int .u8 0,.int .u8 0,.int .u8 0,.int .u8 0,.int .u8 0,.int .u8 0,.int .u8 0,.int .u8 0,.int .u8 0,.int .u8 0,.int .u8 0,.int .u8 0,.int .u8 0,.int .u8 0,.int .u8 0,.int .u8 0,.int .u8 0,.int .u8 0,.int .u8 0,.int .u8 0,.int .u8 0,.int .u8 0,.int .u8 0,.int .u8 0,.int .u8 0,.int .u8 0,.int .u8 0,.int .u8 0,.int .u8 0,.int .u8 0,.int .u8 0,.int .u8 0,.int .u8 0,.int .u8 0,.int .u8 0,.int .u8 0,.int .u8 0,.int .u8 0,.int .u8 0,.int .u8 0,.int .u8 0,.int .u8 0,.int .u8 0,.int .u8 0,.int .u8 0,.int .u8 0,.int .u8 0,.int .u8 0,.int .u8 0,.int .u8 0,.int .u8 0,.int .u8 0,.int .u8 0,.int .u8 0,.int .u8 0,.int .u8 0,.int .u8 0,.int .u8 0,.int .u8 0,.int .u8 0,.int .u8 0,.int .u8 0,.int .u8 0,.int .u8 0,.int .u8 0,.int .u8 0,.int .u8 0,.int .u8 0,.int .u8 0,.int .u8 0,.int .u8 0,.int .u8 0,.int .u8 0,.int .u8 0,.int .u8 0,.int .u8 0,.int .u8 0,.int .u8 0,.int .u8 0,.int .u8 0,.int .u8 0,.int .u8 0,.int .u8 0,.int .u8 0,.int .u8 0,.int .u8 0,.int .u8 0,.int .u8 0,.int .u8 0,.int .u8 0,.int .u8 0,.int .u8 0,.int .u8 0,.int .u8 0,.int .u8 0,.int .u8 0,.int .u8 0,.int .u8 0,.int .u8 0,.int .u8 0,.int .u8 0,.int .u8 0,.int .u8 0,.int .u8 0,.int .u8 0,.int .u8 0,.int .u8 0,.int .u8 0,.int .u8 0,.int .u8 0,.int .u8 0,.int .u8 0,.int .u8 0,.int .u8 0,.int .u8 0,.int .u8 0,.int .u8 0,.int .u8 0,.int .u8 0,.int .u8 0,.int .u8 0,.int .u8 0,.int .u8 0,.int .u8 0,.int .u8 0,.int .u8 0,.int .u8 0,.int .u8 0,.int .u8 0,.int .u8 0,.int .u8 0,.int .u8 0,.int .u8 0,.int .u8 0,.int .u8 0,.int .u8 0,.int .u8 0,.int .u8 0,.int .u8 0,.int .u8 0,.int .u8 0,.int .u8 0,.int .u8 0,.int .u8 0,.int .u8 0,.int .u8 0,.int .u8 0,.int .u8 0,.int .u8 0,.int .u8 0,.int .u8 0,.int .u8 0,.int .u8 0,.int .u8 0,.int .u8 0,.int .u8 0,.int .u8 0,.int .u8 0,.int .u8 0,.int .u8 0,.int .u8 0,.int .u8 0,.int .u8 0,.int .u8 0,.int .u8 0,.int .u8 0,.int .u8 0,.int .u8 0,.int .u8 0,.int .u8 0,.int .u8 0,.int .u8 0,.int .u8 0,.int .u8 0,.int .u8 0,.int .u8 0,.int .u8 0,.int .u8 0,.int .u8 0,.int .u8 0,.int .u8 0,.int .u8 0,.int .u8 0,.int .u8 0,.int .u8 0,.int .u8 0,.int .u8 0,.int .u8 0,.int .u8 0,.int .u8 0,.int .u8 0,.int .u8 0,.int .u8 0,.int .u8 0,.int .u8 0,.int .u8 0,.int .u8 0,.int .u8 0,.int .u8 0,.int .u8 0,.int .u8 0,.int .u8 0,.int .u8 0,.int .u8 0,.int .u8 0,.int .u8 0,.int .u8 0,.int .u8 0,.int .u8 0,.int .u8 0,.int .u8 0,.int .u8 0,.int .u8 0,.int .u8 0,.int .u8 0,.int .u8 0,.int .u8 0,.int .u8 0,.int .u8 0,.int .u8 0,.int .u8 0,.int .u8 0,.int .u8 0,.int .u8 0,.int .u8 0,.int .u8 0,.int .u8 0,.int .u8 0,.int .u8 0]⟩),
 (328,⟨.struct [(0,5),(1,5)],2,2,[.int .u8 0,.int .u8 0]⟩),
 (329,⟨.struct [(0,5),(1,5)],2,2,[.int .u8 0,.int .u8 0]⟩),
 (330,⟨.arr 16 329,32,32,[.int .u8 0,.int .u8 0,.int .u8 0,.int .u8 0,.int .u8 0,.int .u8 0,.int .u8 0,.int .u8 0,.int .u8 0,.int .u8 0,.int .u8 0,.int .u8 0,.int .u8 0,.int .u8 0,.int .u8 0,.int .u8 0,.int .u8 0,.int .u8 0,.int .u8 0,.int .u8 0,.int .u8 0,.int .u8 0,.int .u8 0,.int .u8 0,.int .u8 0,.int .u8 0,.int .u8 0,.int .u8 0,.int .u8 0,.int .u8 0,.int .u8 0,.int .u8 0]⟩),
 (331,⟨.func,1,8,[.nilf]⟩),
 (333,⟨.func,1,8,[.nilf]⟩),
 (336,⟨.func,1,8,[.nilf]⟩),
 (337,⟨.arr 32 5,32,32,[.int .u8 0,.int .u8 0,.int .u8 0,.int .u8 0,.int .u8 0,.int .u8 0,.int .u8 0,.int .u8 0,.int .u8 0,.int .u8 0,.int .u8 0,.int .u8 0,.int .u8 0,.int .u8 0,.int .u8 0,.int .u8 0,.int .u8 0,.int .u8 0,.int .u8 0,.int .u8 0,.int .u8 0,.int .u8 0,.int .u8 0,.int .u8 0,.int .u8 0,.int .u8 0,.int .u8 0,.int .u8 0,.int .u8 0,.int .u8 0,.int .u8 0,.int .u8 0]⟩),
 (338,⟨.arr 64 5,64,64,[.int .u8 0,.int .u8 0,.int .u8 0,.int .u8 0,.int .u8 0,.int .u8 0,.int .u8 0,.int .u8 0,.int .u8 0,.int .u8 0,.int .u8 0,.int .u8 0,.int .u8 0,.int .u8 0,.int .u8 0,.int .u8 0,.int .u8 0,.int .u8 0,.int .u8 0,.int .u8 0,.int .u8 0,.int .u8 0,.int .u8 0,.int .u8 0,.int .u8 0,.int .u8 0,.int .u8 0,.int .u8 0,.int .u8 0,.int .u8 0,.int .u8 0,.int .u8 0,.int .u8 0,.int .u8 0,.int .u8 0,.int .u8 0,.int .u8 0,.int .u8 0,.int .u8 0,.int .u8 0,.int .u8 0,.int .u8 0,.int .u8 0,.int .u8 0,.int .u8 0,.int .u8 0,.int .u8 0,.int .u8 0,.int .u8 0,.int .u8 0,.int .u8 0,.int .u8 0,.int .u8 0,.int .u8 0,.int .u8 0,.int .u8 0,.int .u8 0,.int .u8 0,.int .u8 0,.int .u8 0,.int .u8 0,.int .u8 0,.int .u8 0,.int .u8 0]⟩),
 (339,⟨.ptr 319,1,8,[.nilp]⟩),
 (340,⟨.func,1,8,[.nilf]⟩),
 (341,⟨.func,1,8,[.nilf]⟩),
 (342,⟨.func,1,8,[.nilf]⟩),
 (343,⟨.func,1,8,[.nilf]⟩),
 (344,⟨.ptr 346,1,8,[.nilp]⟩),
 (345,⟨.struct [(0,9)],1,16,[.str []]⟩),
 (346,⟨.struct [(0,9)],1,16,[.str []]⟩),
 (347,⟨.ptr 362,1,8,[.nilp]⟩),
 (348,⟨.ptr 365,1,8,[.nilp]⟩),
 (349,⟨.struct [(0,17),(1,17),(2,17),(3,9)],4,40,[.nilp,.nilp,.nilp,.str []]⟩),
 (350,⟨.struct [(0,17),(1,17),(2,17),(3,9)],4,40,[.nilp,.nilp,.nilp,.str []]⟩),
 (351,⟨.arr 0 16,0,0,[]⟩),
 (352,⟨.struct [(0,351)],0,0,[]⟩),
 (353,⟨.struct [(0,351)],0,0,[]⟩),
 (354,⟨.int .u8,1,1,[.int .u8 0]⟩),
 (355,⟨.int .u8,1,1,[.int .u8 0]⟩),
 (356,⟨.func,1,8,[.nilf]⟩),
 (357,⟨.int .i32,1,4,[.int .i32 0]⟩),
 (358,⟨.int .i32,1,4,[.int .i32 0]⟩),
 (359,⟨.struct [(0,12),(1,12),(2,286),(3,354),(4,5),(5,5),(6,355),(7,356),(8,133),(9,357),(10,358)],11,48,[.int .u64 0,.int .u64 0,.int .u32 0,.int .u8 0,.int .u8 0,.int .u8 0,.int .u8 0,.nilf,.nilp,.int .i32 0,.int .i32 0]⟩),
 (360,⟨.struct [(0,12),(1,12),(2,286),(3,354),(4,5),(5,5),(6,355),(7,356),(8,133),(9,357),(10,358)],11,48,[.int .u64 0,.int .u64 0,.int .u32 0,.int .u8 0,.int .u8 0,.int .u8 0,.int .u8 0,.nilf,.nilp,.int .i32 0,.int .i32 0]⟩)]
def tab:Tab:=lk z6w
theorem zal:zar Tryz.prog tab:=z8e (by kernel_rfl)
theorem mixed:Tryz.prog.follows .mixedOrders=true:=Checked.mixed Tryz.checked
theorem z64:tab 2=⟨.int .i64,1,8,[.int .i64 0]⟩:=by kernel_rfl
theorem zab:tab 3=⟨.int .i64,1,8,[.int .i64 0]⟩:=by kernel_rfl
theorem ztj:tab 4=⟨.bool,1,1,[.bool false]⟩:=by kernel_rfl
theorem zai:tab 5=⟨.int .u8,1,1,[.int .u8 0]⟩:=by kernel_rfl
theorem zaa:tab 9=⟨.str,1,16,[.str []]⟩:=by kernel_rfl
theorem zq3:tab 21=⟨.int .i32,1,4,[.int .i32 0]⟩:=by kernel_rfl
theorem ty7:tab 22=⟨.slice 5,1,24,[.nils]⟩:=by kernel_rfl
theorem z9r:tab 25=⟨.func,1,8,[.nilf]⟩:=by kernel_rfl
theorem ty20:tab 26=⟨.func,1,8,[.nilf]⟩:=by kernel_rfl
theorem ty6:tab 28=⟨.slice 9,1,24,[.nils]⟩:=by kernel_rfl
theorem ty16:tab 30=⟨.func,1,8,[.nilf]⟩:=by kernel_rfl
theorem ty15:tab 32=⟨.func,1,8,[.nilf]⟩:=by kernel_rfl
theorem ty19:tab 34=⟨.func,1,8,[.nilf]⟩:=by kernel_rfl
theorem ty9:tab 35=⟨.ptr 96,1,8,[.nilp]⟩:=by kernel_rfl
theorem ty5:tab 39=⟨.slice 41,1,24,[.nils]⟩:=by kernel_rfl
theorem zb7:tab 40=⟨.struct [(0,5),(1,39)],2,32,[.int .u8 0,.nils]⟩:=by kernel_rfl
theorem zb6:tab 41=⟨.struct [(0,5),(1,39)],2,32,[.int .u8 0,.nils]⟩:=by kernel_rfl
theorem z9t:tab 47=⟨.struct [(0,28),(1,28)],2,48,[.nils,.nils]⟩:=by kernel_rfl
theorem z9s:tab 48=⟨.struct [(0,28),(1,28)],2,48,[.nils,.nils]⟩:=by kernel_rfl
theorem zez:tab 49=⟨.map 9 58,1,8,[.nilm]⟩:=by kernel_rfl
theorem z69:tab 52=⟨.ptr 54,1,8,[.nilp]⟩:=by kernel_rfl
theorem z7b:tab 53=⟨.struct [(0,52),(1,22)],2,32,[.nilp,.nils]⟩:=by kernel_rfl
theorem z7a:tab 54=⟨.struct [(0,52),(1,22)],2,32,[.nilp,.nils]⟩:=by kernel_rfl
theorem zex:tab 57=⟨.func,1,8,[.nilf]⟩:=by kernel_rfl
theorem zey:tab 58=⟨.func,1,8,[.nilf]⟩:=by kernel_rfl
theorem ty8:tab 64=⟨.ptr 78,1,8,[.nilp]⟩:=by kernel_rfl
theorem zc3:tab 67=⟨.struct [(0,3),(1,3),(2,3),(3,3)],4,32,[.int .i64 0,.int .i64 0,.int .i64 0,.int .i64 0]⟩:=by kernel_rfl
theorem zc2:tab 68=⟨.struct [(0,3),(1,3),(2,3),(3,3)],4,32,[.int .i64 0,.int .i64 0,.int .i64 0,.int .i64 0]⟩:=by kernel_rfl
theorem ty1:tab 74=⟨.slice 82,1,24,[.nils]⟩:=by kernel_rfl
theorem zbp:tab 75=⟨.slice 82,1,24,[.nils]⟩:=by kernel_rfl
theorem ty4:tab 76=⟨.slice 68,1,24,[.nils]⟩:=by kernel_rfl
theorem zfg:tab 77=⟨.struct [(0,75),(1,76)],2,48,[.nils,.nils]⟩:=by kernel_rfl
theorem zff:tab 78=⟨.struct [(0,75),(1,76)],2,48,[.nils,.nils]⟩:=by kernel_rfl
theorem ty11:tab 81=⟨.func,1,8,[.nilf]⟩:=by kernel_rfl
theorem zad:tab 82=⟨.slice 3,1,24,[.nils]⟩:=by kernel_rfl
theorem ty12:tab 85=⟨.func,1,8,[.nilf]⟩:=by kernel_rfl
theorem z63:tab 91=⟨.struct [(0,9)],1,16,[.str []]⟩:=by kernel_rfl
theorem z62:tab 92=⟨.struct [(0,9)],1,16,[.str []]⟩:=by kernel_rfl
theorem ty2:tab 94=⟨.slice 35,1,24,[.nils]⟩:=by kernel_rfl
theorem zhr:tab 95=⟨.struct [(0,5),(1,94)],2,32,[.int .u8 0,.nils]⟩:=by kernel_rfl
theorem zhq:tab 96=⟨.struct [(0,5),(1,94)],2,32,[.int .u8 0,.nils]⟩:=by kernel_rfl
theorem ty14:tab 101=⟨.func,1,8,[.nilf]⟩:=by kernel_rfl
theorem ty17:tab 105=⟨.func,1,8,[.nilf]⟩:=by kernel_rfl
theorem ty13:tab 121=⟨.func,1,8,[.nilf]⟩:=by kernel_rfl
theorem z3x:tab 158=⟨.struct [(0,22),(1,3)],2,32,[.nils,.int .i64 0]⟩:=by kernel_rfl
theorem z3w:tab 159=⟨.struct [(0,22),(1,3)],2,32,[.nils,.int .i64 0]⟩:=by kernel_rfl
theorem ty0:tab 186=⟨.slice 243,1,24,[.nils]⟩:=by kernel_rfl
theorem ty29:tab 187=⟨.slice 243,1,24,[.nils]⟩:=by kernel_rfl
theorem ty39:tab 188=⟨.struct [(0,187),(1,187)],2,48,[.nils,.nils]⟩:=by kernel_rfl
theorem ty26:tab 189=⟨.struct [(0,187),(1,187)],2,48,[.nils,.nils]⟩:=by kernel_rfl
theorem ty3:tab 243=⟨.slice 4,1,24,[.nils]⟩:=by kernel_rfl
theorem z1y:tab 259=⟨.int .u64,1,8,[.int .u64 0]⟩:=by kernel_rfl
theorem z8t:tab 261=⟨.int .u64,1,8,[.int .u64 0]⟩:=by kernel_rfl
theorem z5b:tab 266=⟨.map 3 3,1,8,[.nilm]⟩:=by kernel_rfl






theorem zpm {S:Store} {im:Bool} {k:Nat} {a b a2 b2:PV} (h1:reify S im k a=some a2) (h2:reify S im k b=some b2):reify S im (k+1) (.tup [a,b])=some (.tup [a2,b2]):=by
 simp [reify,h1,h2]

def z8y (p:List Txt) (k0:Nat) (w:List Int):Prop :=
 ∃ k f l:Nat,w=[(k:Int),(f:Int),(l:Int)]∧1≤k∧k<k0∧1≤l∧f+l≤p.length∧∀ j,f≤j→j<f+l→z8p p k j=true
theorem z8y.up {p:List Txt} {k k':Nat} (h:k≤k') {w:List Int} (hw:z8y p k w):z8y p k' w:=by
 obtain ⟨a,f,l,h1,h2,h3,h4⟩:=hw
 exact ⟨a,f,l,h1,h2,by omega,h4⟩
def walls (p:List Txt):List (List Int):=(uprights p).map (0 :: ·)++(uprights (z8i p)).map (1 :: ·)
theorem z1c (row:Txt):∀ (n:Int),n≤zgb n row∧∀ (k:Nat) (c:UInt8),row[k]?=some c→(c.toNat:Int) - 97+1≤zgb n row:=by
 induction row with
 | nil=>intro n; exact ⟨Int.le_refl _,by simp⟩
 | cons a row ih =>
  intro n
  have h:=ih (max n ((a.toNat:Int) - 97+1))
  have e:zgb n (a::row)=zgb (max n ((a.toNat:Int) - 97+1)) row:=rfl
  rw [e]
  refine ⟨by omega,?_⟩
  rintro (_ | k) c hc
  ·simp at hc; subst hc; omega
  simp at hc; exact h.2 k c hc
theorem zyd (p:List Txt):∀ (n:Int),n≤p.foldl zgb n∧∀ (i k:Nat) (row:Txt) (c:UInt8),p[i]?=some row→row[k]?=some c→(c.toNat:Int) - 97+1≤p.foldl zgb n:=by
 induction p with
 | nil=>intro n; exact ⟨Int.le_refl _,by simp⟩
 | cons r p ih =>
  intro n
  have h:=ih (zgb n r)
  have h2:=z1c r n
  simp only[List.foldl_cons]
  refine ⟨by omega,?_⟩
  rintro (_ | i) k row c hr hc
  ·simp at hr; subst hr
   have:=h2.2 k c hc; omega
  simp at hr; exact h.2 i k row c hr hc
def z85 (ms:List Nat) (a b:Nat):List Nat:=ms.set a ((ms[a]?.getD 0) ||| 2 ^ b)
def z82 (a:Nat) (ms:List Nat) (bs:List Int):List Nat:=bs.foldl (fun ms b=>z85 ms a b.toNat) ms
def z81 (bs:List Int) (ms:List Nat) (la:List Int):List Nat:=la.foldl (fun ms a=>z82 a.toNat ms bs) ms
def z46 (p:List Txt) (w:List Int):List Int × List Int :=
 match w with
 | [kind,line,fr,long]=>z1o p kind.toNat line.toNat fr.toNat long.toNat
 | _=>([],[])
def z83 (p:List Txt) (kind:Int) (ms:List Nat) (w:List Int):List Nat :=
 if w[0]?.getD 0=kind then z81 (z46 p w).2 ms (z46 p w).1 else ms
def just (p:List Txt) (kind:Int):List Nat:=(walls p).foldl (z83 p kind) (List.replicate (zgy p).toNat 0)
def Msk (n:Nat) (ms:List Nat):Prop:=ms.length=n∧∀ m∈ms,m<512
theorem Msk.get {n:Nat} {ms:List Nat} (h:Msk n ms) (a:Nat):ms[a]?.getD 0<512:=by
 cases e:ms[a]? with
 | none=>simp
 | some m=>simpa using h.2 m (List.mem_of_getElem? e)
theorem Msk.set {n:Nat} {ms:List Nat} (h:Msk n ms) {a m:Nat} (hm:m<512):Msk n (ms.set a m):=by
 refine ⟨by simpa using h.1,fun x hx=>?_⟩
 rcases List.mem_or_eq_of_mem_set hx with h1 | rfl
 ·exact h.2 x h1
 exact hm
theorem Msk.foldl {n:Nat} {α:Type} {f:List Nat→α→List Nat}:∀ {l:List α} {ms:List Nat},(∀ ms,Msk n ms→∀ a∈l,Msk n (f ms a))→Msk n ms→Msk n (l.foldl f ms)
 | [],ms,_,h=>h
 | a::l,ms,hf,h=>Msk.foldl (l:=l) (fun ms hm x hx=>hf ms hm x (by simp [hx])) (hf ms h a (by simp))
theorem z3e {l:List Int} {x y:Int} (h:y∈zsy l x):y∈l∨y=x:=by
 unfold zsy at h
 split at h
 ·exact .inl h
 simpa using h
theorem zhc {α β:Type} {f:β→α→β} {z:β} {l:List α} {i:Nat} {a:α} (h:l[i]?=some a):(l.take (i+1)).foldl f z=f ((l.take i).foldl f z) a:=by
 simp [tk h,List.foldl_append]
theorem Msk.at_ {n:Nat} {ms:List Nat} (h:Msk n ms) {a:Nat} (ha:a<n):∃ m,ms[a]?=some m∧m<512:=by
 obtain ⟨m,hm,h2⟩:=zaf (show a<ms.length by rw [h.1]; exact ha)
 exact ⟨m,hm,h.2 m h2⟩
theorem zix {a b:Int} (h:a≤b):(a≤b)=True:=eq_true h
theorem zcd {α:Type} {f:α→PV} {l:List α} {a:Nat} {v:PV} (h:a<l.length):(l.map f).take a++[v]++(l.map f).drop (a+1)=(l.map f).set a v:=by
 rw [List.set_eq_take_append_cons_drop,if_pos (by simpa using h)]; simp
theorem zcs {l:List Int} {q:IntKind} {a:Nat} {m:Int}:(l.map (PV.int q)).set a (.int q m)=(l.set a m).map (PV.int q):=by
 rw [List.map_set]
theorem zcw {β:Type} {f:β→Nat→β} {z:β} {i:Nat}:(List.range (i+1)).foldl f z=f ((List.range i).foldl f z) i:=by
 simp [qS,List.foldl_append]

def Bnd (n:Nat) (M:Int) (l:List Int):Prop:=l.length=n∧∀ x∈l,0≤x∧x≤M
theorem Bnd.at_ {n:Nat} {M:Int} {l:List Int} (h:Bnd n M l) {a:Nat} (ha:a<n):∃ x,l[a]?=some x∧0≤x∧x≤M:=by
 obtain ⟨x,hx,hm⟩:=zaf (show a<l.length by rw [h.1]; exact ha)
 exact ⟨x,hx,h.2 x hm⟩
theorem Bnd.up {n:Nat} {M M':Int} {l:List Int} (h:Bnd n M l) (hM:M≤M'):Bnd n M' l:=⟨h.1,fun x hx=>by have:=h.2 x hx; omega⟩
theorem Bnd.set {n:Nat} {M:Int} {l:List Int} (h:Bnd n M l) {a:Nat} {x:Int} (h0:0≤x) (hx:x≤M):Bnd n M (l.set a x):=by
 refine ⟨by simpa using h.1,fun y hy=>?_⟩
 rcases List.mem_or_eq_of_mem_set hy with h1 | rfl
 ·exact h.2 y h1
 exact ⟨h0,hx⟩
theorem Bnd.zero {n:Nat}:Bnd n 0 (List.replicate n 0):=⟨by simp,fun x hx=>by rw [(List.mem_replicate.1 hx).2]; omega⟩
def zmc (l:List Int) (a:Nat):Int:=l[a]?.getD 0
def z2g (ms:List Nat) (a b:Nat):Bool:=(ms[a]?.getD 0).testBit b
def plB (sets:List Nat) (needs:List Int) (a:Nat) (out:List Int) (b:Nat):List Int :=
 if z2g sets a b then out.set b (max (zmc out b) (zmc out a+zmc needs a)) else out
def plA (sets:List Nat) (needs:List Int) (out:List Int) (a:Nat):List Int:=(List.range needs.length).foldl (plB sets needs a) out
def plN (sets:List Nat) (needs:List Int) (out:List Int) (_:Nat):List Int:=(List.range needs.length).foldl (plA sets needs) out
def places (sets:List Nat) (needs:List Int):List Int:=(List.range needs.length).foldl (plN sets needs) (List.replicate needs.length 0)
def least (sets:List Nat) (needs:List Int):Int:=(List.range needs.length).foldl (fun m a=>max m (zmc (places sets needs) a+zmc needs a)) 0
theorem zfe:∀ (n:Nat),repz [PV.int .i64 0] n=(List.replicate n 0).map (PV.int .i64)
 | 0=>rfl
 | n+1=>by rw [zga,zfe n,List.replicate_succ]; rfl
theorem zlk:∀ (n:Nat),repz [PV.str []] n=(List.replicate n []).map PV.str
 | 0=>rfl
 | n+1=>by rw [zga,zlk n,List.replicate_succ]; rfl
theorem z1m {l:List Txt} {a:Nat} {m:Txt}:(l.map PV.str).set a (.str m)=(l.set a m).map PV.str:=by
 rw [List.map_set]
def z6v:List Txt→Nat
 | []=>0
 | r::p=>r.length+z6v p
def sz (p:List Txt) (left:Int):Int:=if (p.length+z6v p:Nat)≤left then left - (p.length+z6v p:Nat) else -1
theorem zth {α:Type} {p q:List α} {i:Nat} {x y:α} (h:p.take i=q.take i) (hx:p[i]?=some x) (hy:q[i]?=some y) (e:x=y):p.take (i+1)=q.take (i+1):=by
 rw [tk hx,tk hy,h,e]
section
abbrev zce (g:List (List Int)):PV := .sl (g.map eInts) g.length
structure Rect where
 row:Int
 col:Int
 high:Int
 wide:Int
 deriving DecidableEq
def Rect.cells (r:Rect):List PV:=[.int .i64 r.row,.int .i64 r.col,.int .i64 r.high,.int .i64 r.wide]
abbrev zp6 (r:Rect):PV := .agg r.cells
def rcs (rs:List Rect):List PV:=rs.flatMap Rect.cells
abbrev z4d (rs:List Rect):PV := .sl (rcs rs) rs.length
abbrev zch (g:List (List Int)) (rs:List Rect):PV := .ip [zce g,z4d rs] 0
theorem zap (rs:List Rect):(rcs rs).length=rs.length*4:=by
 induction rs with
 | nil=>rfl
 | cons r rs ih=>simp only[rcs,List.flatMap_cons,List.length_append,List.length_cons]at ih ⊢; rw [ih]; simp [Rect.cells]; omega
theorem zqt (rs ss:List Rect):rcs (rs++ss)=rcs rs++rcs ss:=by simp [rcs]
theorem zja (r:Rect) (rs:List Rect):rcs (r::rs)=r.cells++rcs rs:=rfl
theorem z3g (rs:List Rect) (n:Nat):(rcs rs).take (n*4)=rcs (rs.take n):=by
 induction rs generalizing n with
 | nil=>simp [rcs]
 | cons r rs ih =>
  cases n with
  | zero=>simp [rcs]
  | succ n =>
   rw [zja,List.take_succ_cons,zja,← ih n]
   rw [show (n+1)*4=r.cells.length+n*4 by simp [Rect.cells]; omega,List.take_length_add_append]
theorem zwr (rs:List Rect) (n:Nat):(rcs rs).drop (n*4)=rcs (rs.drop n):=by
 induction rs generalizing n with
 | nil=>simp [rcs]
 | cons r rs ih =>
  cases n with
  | zero=>simp
  | succ n =>
   rw [zja,List.drop_succ_cons,← ih n]
   rw [show (n+1)*4=r.cells.length+n*4 by simp [Rect.cells]; omega,List.drop_length_add_append]
theorem zi9 {rs:List Rect} {n:Nat} {r:Rect} (h:rs[n]?=some r):((rcs rs).drop (n*4)).take 4=r.cells:=by
 rw [zwr]
 have:rs.drop n=r::rs.drop (n+1):=by
  obtain ⟨hn,rfl⟩:=List.getElem?_eq_some_iff.1 h
  exact List.drop_eq_getElem_cons hn
 rw [this,zja]
 simp [Rect.cells]
theorem z6i {rs:List Rect} {n:Nat} {r:Rect} (h:n<rs.length):(rcs rs).take (n*4)++r.cells++(rcs rs).drop (n*4+4)=rcs (rs.set n r):=by
 rw [z3g,show n*4+4=(n+1)*4 by omega,zwr,show r.cells=rcs [r] by simp [rcs],← zqt,← zqt]
 congr 1
 rw [List.set_eq_take_append_cons_drop,if_pos h]
 simp
def ixf {α:Type} (test:α→Bool) (l:List α):Int :=
 match l.findIdx? test with
 | some i=>i
 | none => -1
theorem z4p {α:Type} {test:α→Bool} {l:List α} {i:Nat} {x:α} (h:l[i]?=some x) (hall:(l.take i).any test=false) (hx:test x=true):ixf test l=i:=by
 have:l.findIdx? test=some i:=by
  obtain ⟨hi,rfl⟩:=List.getElem?_eq_some_iff.1 h
  rw [List.findIdx?_eq_some_iff_getElem]
  refine ⟨hi,hx,fun j hj=>?_⟩
  rw [List.any_eq_false]at hall
  have:=hall l[j] (by rw [List.mem_take_iff_getElem]; exact ⟨j,by omega,rfl⟩)
  simpa using this
 simp [ixf,this]
theorem zqb {α:Type} {test:α→Bool} {l:List α} (hall:l.any test=false):ixf test l = -1:=by
 have:l.findIdx? test=none:=by
  rw [List.findIdx?_eq_none_iff]
  intro x hx
  rw [List.any_eq_false]at hall
  simpa using hall x hx
 simp [ixf,this]
theorem z56 {α:Type} {test:α→Bool} {l:List α}:decide (0≤ixf test l)=l.any test:=by
 cases h:l.any test with
 | false=>rw [zqb h]; rfl
 | true =>
  unfold ixf
  cases hi:l.findIdx? test with
  | none =>
   rw [List.findIdx?_eq_none_iff]at hi
   rw [List.any_eq_true]at h
   obtain ⟨x,hx,hx2⟩:=h
   rw [hi x hx]at hx2; cases hx2
  | some i=>simp
theorem z36 {α:Type} {f:α→Bool} {l:List α} {i:Nat} {a:α} (h:l[i]?=some a) (h1:(l.take i).any f=false) (h2:f a=false):(l.take (i+1)).any f=false:=by
 rw [tk h,List.any_append,h1]; simp [h2]
def Rect.both (b o:Rect):Rect:=⟨min b.row o.row,min b.col o.col,max (b.row+b.high) (o.row+o.high) - min b.row o.row,max (b.col+b.wide) (o.col+o.wide) - min b.col o.col⟩
def Rect.In (M:Int) (r:Rect):Prop:=0≤r.row∧r.row≤M∧0≤r.col∧r.col≤M∧0≤r.high∧r.high≤M∧0≤r.wide∧r.wide≤M
theorem z3k {S:Store} {im:Bool} {k:Nat} {g:FuncId} {cap:List PV}:reify S im (k+1) (.fn g cap)=(cap.mapM (reify S im k)).map (.fn g):=rfl
section
variable {S:Store} {k f lo:Nat} {sel:List Nat} {fr:Nat→Bool} {im:Bool}
theorem zdd {q:IntKind} {n:Int}:rn S k sel (f+1) (.int q n)=some (.int q n):=rfl
theorem zb3 {b:Bool}:rn S k sel (f+1) (.bool b)=some (.bool b):=rfl
theorem zdg {b:Txt}:rn S k sel (f+1) (.str b)=some (.str b):=rfl
theorem zho {cs:List PV} {n:Nat}:rn S k sel (f+1) (.sl cs n)=some (.sl cs n):=rfl
theorem zhm {cs:List PV} {n:Nat}:rn S k sel (f+1) (.ip cs n)=some (.ip cs n):=rfl
theorem zb5:rn S k sel (f+1) .nils=some .nils:=rfl
theorem zb4:rn S k sel (f+1) .nilp=some .nilp:=rfl
theorem zbj:rn S k sel (f+1) .undef=some .undef:=rfl
theorem zdc {cs:List PV}:rn S k sel (f+1) (.agg cs)=(cs.mapM (rn S k sel f)).map .agg:=rfl
theorem zdh {cs:List PV}:rn S k sel (f+1) (.tup cs)=(cs.mapM (rn S k sel f)).map .tup:=rfl
theorem zhl {g:FuncId} {cs:List PV}:rn S k sel (f+1) (.fn g cs)=(cs.mapM (rn S k sel f)).map (.fn g):=rfl
theorem zde {o ver off n:Nat}:rn S k sel (f+1) (.loc o ver off n)=(if o<k then some (.loc o ver off n) else
   if sel.contains o then (match S.obs[o]? with | some (.arr v _ _ _)=>if v=ver then some (.loc (k+sel.idxOf o) S.tick off n) else none | _=>none)
   else rfq S (zjj k sel) 10 (.loc o ver off n)):=rfl
theorem zdf {o ver off:Nat}:rn S k sel (f+1) (.ref o ver off)=(if o<k then some (.ref o ver off) else
   if sel.contains o then (match S.obs[o]? with | some (.arr v _ _ _)=>if v=ver then some (.ref (k+sel.idxOf o) S.tick off) else none | _=>none)
   else rfq S (zjj k sel) 10 (.ref o ver off)):=rfl
theorem zhn {o ver:Nat}:rn S k sel (f+1) (.mp o ver)=(if o<k then some (.mp o ver) else
   if sel.contains o then (match S.obs[o]? with | some (.map v _)=>if v=ver then some (.mp (k+sel.idxOf o) S.tick) else none | _=>none)
   else none):=rfl
theorem zb1 {o ver off n:Nat}:rfq S fr (f+1) (.loc o ver off n)=(match S.obs[o]? with
   | some (.arr v _ sz cells)=>if fr o=true∧v=ver∧off+n*sz≤cells.length then (((cells.drop off).take (n*sz)).mapM (rfq S fr f)).map (.sl · n) else none
   | _=>none):=rfl
theorem zb0 {q:IntKind} {n:Int}:rfq S fr (f+1) (.int q n)=some (.int q n):=rfl
theorem zbg {b:Bool}:rfq S fr (f+1) (.bool b)=some (.bool b):=rfl
theorem zb2 {b:Txt}:rfq S fr (f+1) (.str b)=some (.str b):=rfl
theorem zdb {cs:List PV} {n:Nat}:rfq S fr (f+1) (.sl cs n)=some (.sl cs n):=rfl
theorem za5 {old:Bool}:zm5 S k sel old []=some []:=rfl
theorem zay {old:Bool} {o:Nat} {r:List Nat}:zm5 S k sel old (o::r)=((S.obs[o]?).bind (zyc S k sel old)).bind fun a=>(zm5 S k sel old r).map (a :: ·):=rfl
theorem zbh {old:Bool} {ver et sz:Nat} {cells:List PV}:zyc S k sel old (.arr ver et sz cells)=(cells.mapM (rn S k sel 10)).map (.arr (if old then ver else S.tick) et sz ·):=rfl
theorem zbi {old:Bool} {ver:Nat} {es:List (PV × PV)}:zyc S k sel old (.map ver es)=(es.mapM fun q=>(rn S k sel 10 q.1).bind fun a=>(rn S k sel 10 q.2).map fun b=>(a,b)).map (.map (if old then ver else S.tick) ·):=rfl
theorem zda:S.rn k sel=(if sel.all (fun o=>decide (k≤o)) && decide sel.Nodup && decide (k≤S.obs.length) then
  (zm5 S k sel true (List.range k)).bind fun a=>(zm5 S k sel false sel).map fun b=>⟨a++b,S.tick+1⟩
 else none):=rfl
def scal:PV→Bool
 | .int _ _ | .bool _ | .str _=>true
 | _=>false
theorem z1b {l:List PV} (h:l.all scal=true):l.mapM (rn S k sel (f+1))=some l:=by
 rw [List.all_eq_true]at h
 exact zbb fun x hx=>by have:=h x hx; cases x <;> simp [scal]at this <;> rfl
theorem zpl {l:List PV} (h:l.all scal=true):l.mapM (reify S im (f+1))=some l:=by
 rw [List.all_eq_true]at h
 exact zbb fun x hx=>by have:=h x hx; cases x <;> simp [scal]at this <;> rfl
theorem zw1 (rs:List Rect):(rcs rs).all scal=true:=by
 induction rs with
 | nil=>rfl
 | cons r rs ih=>rw [zja,List.all_append,ih]; rfl
end
end
theorem zt7 (g:List (List Int)) (rs:List Rect):PC Tryz.prog 130 [zch g rs] (.int .i64 g.length) true:=by
 refine PC.of ⟨Tryz.func130,by kernel_rfl,rfl,by kernel_rfl⟩ zal mixed (by show 1≤Tryz.f130.ntmps; decide) ?_
 refine W.r fun K hK=>?_
 simp(disch:=omega)only[↓RU,RV,RH,↓reduceIte,qE,reduceCtorEq,if_pos,↓RS,RG,qA,qM,qL]
 apply hK;clear hK K
 refine W.r fun K hK=>?_
 simp(disch:=omega)only[↓RU,RV,RH,↓reduceIte,qE,reduceCtorEq,if_pos,↓RS,RG,qA,qM,qL,ty1,ty4,zad,zff,zbp,zc2,zab,zfg,zc3]
 apply hK;clear hK K
 refine W.ret ?_
 refine Br rfl ?_
 rfl
theorem z16 {g:List (List Int)} {row:List Int} (h:g[0]?=some row) (rs:List Rect):PC Tryz.prog 131 [zch g rs] (.int .i64 row.length) true:=by
 have hl:=zbn h
 refine PC.of ⟨Tryz.func131,by kernel_rfl,rfl,by kernel_rfl⟩ zal mixed (by show 1≤Tryz.f131.ntmps; decide) ?_
 refine W.r fun K hK=>?_
 simp(disch:=omega)only[↓RU,RV,RH,↓reduceIte,qE,reduceCtorEq,if_pos,↓RS,RG,qA,qM,qL]
 apply hK;clear hK K
 refine W.r fun K hK=>?_
 simp(disch:=omega)only[↓RU,RV,RH,↓reduceIte,qE,reduceCtorEq,if_pos,↓RS,RG,qA,qM,qL,ty1,ty4,zad,zff,zbp,zc2,zab,zfg,zc3,h,Int.toNat_zero,Nat.zero_mul,qZ]
 apply hK;clear hK K
 refine W.ret ?_
 refine Br rfl ?_
 rfl
theorem z5i {r:Rect} (h1:0≤r.high*r.wide) (h2:r.high*r.wide≤1048576):PC Tryz.prog 180 [zp6 r] (.int .i64 (r.high*r.wide)) true:=by
 simp only[zp6,Rect.cells]
 refine PC.of ⟨Tryz.func180,by kernel_rfl,rfl,by kernel_rfl⟩ zal mixed (by show 1≤Tryz.f180.ntmps; decide) ?_
 refine W.r fun K hK=>?_
 simp(disch:=omega)only[↓RU,RV,RH,↓reduceIte,qE,reduceCtorEq,if_pos,↓RS,RG,qA,qM,qL,zc2,zab,zc3]
 apply hK;clear hK K
 refine W.r fun K hK=>?_
 simp(disch:=omega)only[↓RU,RV,RH,↓reduceIte,qE,reduceCtorEq,if_pos,w64,↓RS,RG,qA,qM,qL,zc2,zab,zc3]
 apply hK;clear hK K
 refine W.ret ?_
 refine Br rfl ?_
 rfl
theorem ztr {b o:Rect} (hb:b.In 1000) (ho:o.In 1000):PC Tryz.prog 150 [zp6 b,zp6 o] (zp6 (b.both o)) true:=by
 unfold Rect.In at hb ho
 simp only[zp6,Rect.cells,Rect.both]
 refine PC.of ⟨Tryz.func150,by kernel_rfl,rfl,by kernel_rfl⟩ zal mixed (by show 2≤Tryz.f150.ntmps; decide) ?_
 refine W.r fun K hK=>?_
 simp(disch:=omega)only[↓RU,RV,RH,↓reduceIte,qE,reduceCtorEq,if_pos,↓RS,RG,qA,qM,qL,zc2,zab,zc3]
 apply hK;clear hK K
 refine W.seq_draw (by kernel_rfl) fun K hK=>?_
 simp(disch:=omega)only[↓RU,RV,RH,↓reduceIte,qE,reduceCtorEq,if_pos,z54,↓RS,RG,qA,qM,qL,zc2,zab,zc3]
 apply hK;clear hK K
 refine W.r fun K hK=>?_
 simp(disch:=omega)only[↓RU,RV,RH,↓reduceIte,qE,reduceCtorEq,if_pos,w64,z53,↓RS,RG,qA,qM,qL,zc2,zab,zc3]
 apply hK;clear hK K
 refine W.ret ?_
 refine Br rfl ?_
 rfl
theorem zuu (row:List Int) (w:Int) (hr:row.length<2147483648):PC Tryz.prog 290 [eInts row,.ip [.int .i64 w] 0] (.bool (decide ((row.length:Int)≠w))) true:=by
 refine PC.of ⟨Tryz.func290,by kernel_rfl,rfl,by kernel_rfl⟩ zal mixed (by show 2≤Tryz.f290.ntmps; decide) ?_
 refine W.r fun K hK=>?_
 simp(disch:=omega)only[↓RU,RV,RH,↓reduceIte,qE,reduceCtorEq,if_pos,↓RS,RG,qA,qM,qL]
 apply hK;clear hK K
 refine W.r fun K hK=>?_
 simp(disch:=omega)only[↓RU,RV,RH,↓reduceIte,qE,reduceCtorEq,if_pos,w64,↓RS,RG,qA,qM,qL,zad,zab]
 apply hK;clear hK K
 refine W.ret ?_
 refine Br rfl ?_
 rw [show decide ((row.length:Int)≠w)=((row.length:Int) != w) by rw [z5n]; simp]
 rfl
theorem z52 {l:List Int} (hl:l.length<2147483648) {g:FuncId} {cap:List PV} (hc:cap.mapM (reify ⟨[],0⟩ true 10)=some cap) {test:Int→Bool} (hg:∀ x∈l,PC Tryz.prog g (.int .i64 x::cap) (.bool (test x)) true):PC Tryz.prog 299 [eInts l,.fn g cap] (.int .i64 (ixf test l)) true:=by
 refine PC.of ⟨Tryz.func299,by kernel_rfl,rfl,by kernel_rfl⟩ zal mixed (by show 2≤Tryz.f299.ntmps; decide) ?_
 refine W.r fun K hK=>?_
 simp(disch:=omega)only[↓RU,RV,RH,↓reduceIte,qE,reduceCtorEq,if_pos]
 apply hK;clear hK K
 refine W.seq ?_
 refine W.r fun K hK=>?_
 simp(disch:=omega)only[↓RU,RV,RH,↓reduceIte,qE,reduceCtorEq,if_pos,zad,zab]
 apply hK;clear hK K
 refine W.block ?_
 refine W.loop [0,1,6,7,8] (fun n vs S=>∃ i:Nat,n=l.length - i∧i≤l.length∧((l.take i).any test=false)∧vs=[eInts l,.fn g cap,eInts l,.int .i64 l.length,.int .i64 i]∧S=⟨[],0⟩) (l.length) ?_ ?_
 ·refine ⟨0,0,rfl,Nat.zero_le _,rfl,?_,rfl⟩
  simp [Env.put,Env.of,zaj]
 rintro n vs S - ⟨i,rfl,h_i,hall,rfl,rfl⟩
 refine W.r fun K hK=>?_
 simp(disch:=omega)only[↓RU,RV,RH,↓reduceIte,qE,reduceCtorEq,if_pos,w64,zab]
 apply hK;clear hK K
 refine W.seq ?_
 refine W.cond rfl (fun h=>?_) (fun h=>?_)
 ·try simp only[RL]at h
  obtain ⟨x,hx,hxm⟩:=zaf (show i<l.length by omega)
  refine W.skip ?_
  refine xn ?_
  refine W.seq ?_
  refine W.block ?_
  refine W.r fun K hK=>?_
  simp(disch:=omega)only[↓RU,RV,RH,↓reduceIte,qE,reduceCtorEq,if_pos]
  apply hK;clear hK K
  refine W.r fun K hK=>?_
  simp(disch:=omega)only[↓RU,RV,RH,↓reduceIte,qE,reduceCtorEq,if_pos,qN,zad,zab,hx]
  refine zac.pc (hg x hxm) (zhd rfl hc) (.inl rfl) ?_
  simp(disch:=omega)only[↓RU,RV,RH,↓reduceIte,qE,reduceCtorEq,if_pos,qN,zad,zab,hx]
  apply hK;clear hK K
  refine W.cond rfl (fun h1=>?_) (fun h1=>?_)
  ·try simp only[RL]at h1
   refine W.r fun K hK=>?_
   simp(disch:=omega)only[↓RU,RV,RH,↓reduceIte,qE,reduceCtorEq,if_pos]
   apply hK;clear hK K
   refine W.ret ?_
   refine XBlock.ret ?_
   refine XThen.ret ?_
   refine XThen.ret ?_
   refine XBlock.ret ?_
   refine XThen.ret ?_
   refine Br rfl ?_
   rw [z4p hx hall h1]
   rfl
  try simp only[RL]at h1
  refine W.skip ?_
  refine XbN ?_
  refine xn ?_
  refine W.k fun K hK=>?_
  simp(disch:=omega)only[↓RU,RV,RH,↓reduceIte,qE,reduceCtorEq,if_pos,w64,zab]
  apply hK;clear hK K
  refine xn ?_
  refine ⟨l.length - (i+1),by omega,0,i+1,rfl,by omega,z36 hx (by assumption) h1,?_,rfl⟩
  simp [Env.put,Env.of]
 try simp only[RL]at h
 refine W.exit ?_
 refine xe ?_
 refine xe ?_
 refine XBlock.hit ?_
 refine xn ?_
 refine W.r fun K hK=>?_
 simp(disch:=omega)only[↓RU,RV,RH,↓reduceIte,qE,reduceCtorEq,if_pos]
 apply hK;clear hK K
 refine W.ret ?_
 refine Br rfl ?_
 have hip:l.take i=l:=qT (by omega)
 rw [hip]at hall
 rw [zqb hall]
 rfl
theorem zt8 {l:List (List Int)} (hl:l.length<2147483648) {g:FuncId} {cap:List PV} (hc:cap.mapM (reify ⟨[],0⟩ true 10)=some cap) {test:(List Int)→Bool} (hg:∀ x∈l,PC Tryz.prog g (eInts x::cap) (.bool (test x)) true):PC Tryz.prog 250 [zce l,.fn g cap] (.int .i64 (ixf test l)) true:=by
 refine PC.of ⟨Tryz.func250,by kernel_rfl,rfl,by kernel_rfl⟩ zal mixed (by show 2≤Tryz.f250.ntmps; decide) ?_
 refine W.r fun K hK=>?_
 simp(disch:=omega)only[↓RU,RV,RH,↓reduceIte,qE,reduceCtorEq,if_pos]
 apply hK;clear hK K
 refine W.seq ?_
 refine W.r fun K hK=>?_
 simp(disch:=omega)only[↓RU,RV,RH,↓reduceIte,qE,reduceCtorEq,if_pos,ty1,zad,zbp,zab]
 apply hK;clear hK K
 refine W.block ?_
 refine W.loop [0,1,6,7,8] (fun n vs S=>∃ i:Nat,n=l.length - i∧i≤l.length∧((l.take i).any test=false)∧vs=[zce l,.fn g cap,zce l,.int .i64 l.length,.int .i64 i]∧S=⟨[],0⟩) (l.length) ?_ ?_
 ·refine ⟨0,0,rfl,Nat.zero_le _,rfl,?_,rfl⟩
  simp [Env.put,Env.of,zaj]
 rintro n vs S - ⟨i,rfl,h_i,hall,rfl,rfl⟩
 refine W.r fun K hK=>?_
 simp(disch:=omega)only[↓RU,RV,RH,↓reduceIte,qE,reduceCtorEq,if_pos,w64,zab]
 apply hK;clear hK K
 refine W.seq ?_
 refine W.cond rfl (fun h=>?_) (fun h=>?_)
 ·try simp only[RL]at h
  obtain ⟨x,hx,hxm⟩:=zaf (show i<l.length by omega)
  refine W.skip ?_
  refine xn ?_
  refine W.seq ?_
  refine W.block ?_
  refine W.r fun K hK=>?_
  simp(disch:=omega)only[↓RU,RV,RH,↓reduceIte,qE,reduceCtorEq,if_pos]
  apply hK;clear hK K
  refine W.r fun K hK=>?_
  simp(disch:=omega)only[↓RU,RV,RH,↓reduceIte,qE,reduceCtorEq,if_pos,qN,ty1,zad,zbp,zab,hx]
  refine zac.pc (hg x hxm) (zhd rfl hc) (.inl rfl) ?_
  simp(disch:=omega)only[↓RU,RV,RH,↓reduceIte,qE,reduceCtorEq,if_pos,qN,ty1,zad,zbp,zab,hx]
  apply hK;clear hK K
  refine W.cond rfl (fun h1=>?_) (fun h1=>?_)
  ·try simp only[RL]at h1
   refine W.r fun K hK=>?_
   simp(disch:=omega)only[↓RU,RV,RH,↓reduceIte,qE,reduceCtorEq,if_pos]
   apply hK;clear hK K
   refine W.ret ?_
   refine XBlock.ret ?_
   refine XThen.ret ?_
   refine XThen.ret ?_
   refine XBlock.ret ?_
   refine XThen.ret ?_
   refine Br rfl ?_
   rw [z4p hx hall h1]
   rfl
  try simp only[RL]at h1
  refine W.skip ?_
  refine XbN ?_
  refine xn ?_
  refine W.k fun K hK=>?_
  simp(disch:=omega)only[↓RU,RV,RH,↓reduceIte,qE,reduceCtorEq,if_pos,w64,zab]
  apply hK;clear hK K
  refine xn ?_
  refine ⟨l.length - (i+1),by omega,0,i+1,rfl,by omega,z36 hx (by assumption) h1,?_,rfl⟩
  simp [Env.put,Env.of]
 try simp only[RL]at h
 refine W.exit ?_
 refine xe ?_
 refine xe ?_
 refine XBlock.hit ?_
 refine xn ?_
 refine W.r fun K hK=>?_
 simp(disch:=omega)only[↓RU,RV,RH,↓reduceIte,qE,reduceCtorEq,if_pos]
 apply hK;clear hK K
 refine W.ret ?_
 refine Br rfl ?_
 have hip:l.take i=l:=qT (by omega)
 rw [hip]at hall
 rw [zqb hall]
 rfl
theorem znn {l:List (List Int)} (hl:l.length<2147483648) {g:FuncId} {cap:List PV} (hc9:cap.mapM (reify ⟨[],0⟩ true 9)=some cap) (hc:cap.mapM (reify ⟨[],0⟩ true 10)=some cap) {test:(List Int)→Bool} (hg:∀ x∈l,PC Tryz.prog g (eInts x::cap) (.bool (test x)) true):PC Tryz.prog 168 [zce l,.fn g cap] (.bool (l.any test)) true:=by
 have hcr:[zce l,.fn g cap].mapM (reify ⟨[],0⟩ true 10)=some [zce l,.fn g cap]:=zhd rfl (zhd (by rw [z3k,hc9]; rfl) rfl)
 refine PC.of ⟨Tryz.func168,by kernel_rfl,rfl,by kernel_rfl⟩ zal mixed (by show 2≤Tryz.f168.ntmps; decide) ?_
 refine W.r fun K hK=>?_
 simp(disch:=omega)only[↓RU,RV,RH,↓reduceIte,qE,reduceCtorEq,if_pos]
 apply hK;clear hK K
 refine W.r fun K hK=>?_
 simp(disch:=omega)only[↓RU,RV,RH,↓reduceIte,qE,reduceCtorEq,if_pos,qN,w64,zab]
 refine zac.pc (zt8 hl hc hg) hcr (.inl rfl) ?_
 simp(disch:=omega)only[↓RU,RV,RH,↓reduceIte,qE,reduceCtorEq,if_pos,qN,w64,zab]
 apply hK;clear hK K
 refine W.ret ?_
 refine Br rfl ?_
 rw [← z56]
 rfl
theorem zrq {p q:List Txt} (hp:p.length<2147483648) (hq:q.length<2147483648):PC Tryz.prog 128 [zbx p,zbx q] (.bool (decide (p=q))) true:=by
 refine PC.of ⟨Tryz.func128,by kernel_rfl,rfl,by kernel_rfl⟩ zal mixed (by show 2≤Tryz.f128.ntmps; decide) ?_
 refine W.r fun K hK=>?_
 simp(disch:=omega)only[↓RU,RV,RH,↓reduceIte,qE,reduceCtorEq,if_pos]
 apply hK;clear hK K
 refine W.seq ?_
 refine W.r fun K hK=>?_
 simp(disch:=omega)only[↓RU,RV,RH,↓reduceIte,qE,reduceCtorEq,if_pos,w64,ty6,zab,zaa]
 apply hK;clear hK K
 refine W.cond rfl (fun h=>?_) (fun h=>?_)
 ·try simp only[RL]at h
  refine W.r fun K hK=>?_
  simp(disch:=omega)only[↓RU,RV,RH,↓reduceIte,qE,reduceCtorEq,if_pos]
  apply hK;clear hK K
  refine W.ret ?_
  refine XThen.ret ?_
  refine Br rfl ?_
  rw [show decide (p=q)=false by simp; rintro rfl; exact h rfl]
  rfl
 try simp only[RL]at h
 refine W.skip ?_
 refine xn ?_
 refine W.seq ?_
 refine W.r fun K hK=>?_
 simp(disch:=omega)only[↓RU,RV,RH,↓reduceIte,qE,reduceCtorEq,if_pos,ty6,zaa]
 apply hK;clear hK K
 refine W.block ?_
 refine W.loop [0,1,11,12,13] (fun n vs S=>∃ i:Nat,n=p.length - i∧i≤p.length∧(p.take i=q.take i)∧vs=[zbx p,zbx q,zbx p,.int .i64 p.length,.int .i64 i]∧S=⟨[],0⟩) (p.length) ?_ ?_
 ·refine ⟨0,0,rfl,Nat.zero_le _,rfl,?_,rfl⟩
  simp [Env.put,Env.of,zaj]
 rintro n vs S - ⟨i,rfl,h_i,htk,rfl,rfl⟩
 refine W.r fun K hK=>?_
 simp(disch:=omega)only[↓RU,RV,RH,↓reduceIte,qE,reduceCtorEq,if_pos,w64,zab]
 apply hK;clear hK K
 refine W.seq ?_
 refine W.cond rfl (fun h1=>?_) (fun h1=>?_)
 ·try simp only[RL]at h1
  obtain ⟨x,hx,-⟩:=zaf (show i<p.length by omega)
  obtain ⟨y,hy,-⟩:=zaf (show i<q.length by omega)
  refine W.skip ?_
  refine xn ?_
  refine W.seq ?_
  refine W.block ?_
  refine W.r fun K hK=>?_
  simp(disch:=omega)only[↓RU,RV,RH,↓reduceIte,qE,reduceCtorEq,if_pos]
  apply hK;clear hK K
  refine W.seq_draw (by kernel_rfl) fun K hK=>?_
  simp(disch:=omega)only[↓RU,RV,RH,↓reduceIte,qE,reduceCtorEq,if_pos,w64,ty6,zaa,hx,hy]
  apply hK;clear hK K
  refine W.cond rfl (fun h2=>?_) (fun h2=>?_)
  ·try simp only[RL]at h2
   refine W.r fun K hK=>?_
   simp(disch:=omega)only[↓RU,RV,RH,↓reduceIte,qE,reduceCtorEq,if_pos]
   apply hK;clear hK K
   refine W.ret ?_
   refine XBlock.ret ?_
   refine XThen.ret ?_
   refine XThen.ret ?_
   refine XBlock.ret ?_
   refine XThen.ret ?_
   refine Br rfl ?_
   rw [show decide (p=q)=false by simp; rintro rfl; rw [hx]at hy; simp_all]
   rfl
  try simp only[RL]at h2
  refine W.skip ?_
  refine XbN ?_
  refine xn ?_
  refine W.k fun K hK=>?_
  simp(disch:=omega)only[↓RU,RV,RH,↓reduceIte,qE,reduceCtorEq,if_pos,w64,zab]
  apply hK;clear hK K
  refine xn ?_
  refine ⟨p.length - (i+1),by omega,0,i+1,rfl,by omega,zth htk hx hy h2,?_,rfl⟩
  simp [Env.put,Env.of]
 try simp only[RL]at h1
 refine W.exit ?_
 refine xe ?_
 refine xe ?_
 refine XBlock.hit ?_
 refine xn ?_
 refine W.r fun K hK=>?_
 simp(disch:=omega)only[↓RU,RV,RH,↓reduceIte,qE,reduceCtorEq,if_pos]
 apply hK;clear hK K
 refine W.ret ?_
 refine Br rfl ?_
 have h1:p.take i=p:=qT (by omega)
 have h2:q.take i=q:=qT (by omega)
 rw [show decide (p=q)=true by simp; rw [← h1,← h2]; exact htk]
 rfl
def GW (g:List (List Int)) (H W:Nat):Prop:=g.length=H∧(∀ r∈g,r.length=W)∧1≤H∧H≤6∧1≤W∧W≤6
def gz (g:List (List Int)) (i j:Nat):Int:=(g[i]?.getD [])[j]?.getD 0
theorem GW.at_ {g:List (List Int)} {H W:Nat} (h:GW g H W) {i j:Nat} (hi:i<H) (hj:j<W):∃ row,g[i]?=some row∧row.length=W∧row[j]?=some (gz g i j):=by
 obtain ⟨row,hr,hm⟩:=zaf (show i<g.length by rw [h.1]; exact hi)
 have hl:=h.2.1 row hm
 obtain ⟨x,hx,-⟩:=zaf (show j<row.length by omega)
 exact ⟨row,hr,hl,by simp [gz,hr,hx]⟩
def zbo (g:List (List Int)) (level:Bool) (line at_:Nat):Int × Int:=if level then (gz g (line - 1) at_,gz g line at_) else (gz g at_ (line - 1),gz g at_ line)
def InL (H W:Nat) (level:Bool) (line at_:Nat):Prop:=1≤line∧if level then line<H∧at_<W else line<W∧at_<H
structure Wall where
 level:Bool
 line:Int
 fr:Int
 long:Int
def Wall.cells (w:Wall):List PV:=[.bool w.level,.int .i64 w.line,.int .i64 w.fr,.int .i64 w.long]
def zg8 (d:Bool) (level:Bool) (line at_:Nat) (s:List Wall × Bool):List Wall × Bool :=
 if d && s.2 then (s.1.dropLast++(s.1.getLast?.map fun w=>{ w with long:=w.long+1 }).toList,d)
 else if d then (s.1++[⟨level,line,at_,1⟩],d) else (s.1,d)
def ztz (g:List (List Int)) (level:Bool) (line at_:Nat):Bool:=decide ((zbo g level line at_).1≠(zbo g level line at_).2)
def zc1 (g:List (List Int)) (level:Bool) (line:Nat) (ws:List Wall) (n:Nat):List Wall × Bool :=
 (List.range n).foldl (fun s at_=>zg8 (ztz g level line at_) level line at_ s) (ws,false)
def zcl (g:List (List Int)) (level:Bool) (places:Nat) (ws:List Wall) (line:Nat):List Wall :=
 (List.range line).foldl (fun ws l=>if 1≤l then (zc1 g level l ws places).1 else ws) ws
def zkm (g:List (List Int)) (H W:Nat):List Wall:=zcl g true W (zcl g false H [] W) H
theorem znj {g:List (List Int)} {level:Bool} {line:Nat} {ws:List Wall} {n:Nat}:zc1 g level line ws (n+1)=zg8 (ztz g level line n) level line n (zc1 g level line ws n):=by
 unfold zc1; rw [zcw]
theorem zkn {g:List (List Int)} {level:Bool} {places:Nat} {ws:List Wall} {line:Nat} (h:1≤line):zcl g level places ws (line+1)=(zc1 g level line (zcl g level places ws line) places).1:=by
 unfold zcl; rw [zcw,if_pos h]
theorem zu3 {g:List (List Int)} {level:Bool} {places:Nat} {ws:List Wall}:zcl g level places ws 1=ws:=by simp [zcl]
theorem zu4 {g:List (List Int)} {level:Bool} {line:Nat} {ws:List Wall}:zc1 g level line ws 0=(ws,false):=rfl
theorem zaq {S:Store}:S.take S.obs.length=S:=by simp [Store.take]

theorem gF {F R:List Ob} {a:Ob}:(F++a::R)[F.length]?=some a:=by simp
theorem zgn {F R:List Ob} {a b:Ob}:(F++a::R).set F.length b=F++b::R:=by simp
theorem z3q {α:Type} {f:α→PV} {l:List α} {x:α} {a n:Nat}:(l.map f).take a++(List.replicate n x).map f++(l.map f).drop (a+n)=(l.take a++List.replicate n x++l.drop (a+n)).map f:=by simp
theorem z2f {q:IntKind} {l:List Int}:zao (l.map (PV.int q))=True:=eq_true (zq8 (fun _=>rfl) l)
def ddp (l:List Int):List Int:=l.foldl zsy []
theorem zkr {l:List Int} {p:Nat} {x:Int} (h:l[p]?=some x):ddp (l.take (p+1))=zsy (ddp (l.take p)) x:=zhc h
theorem z03 (l:List Int) (x:Int):(zsy l x).getLast?=some x:=by
 unfold zsy; split
 ·assumption
 simp
theorem zp5 {l:List Int} {p:Nat} {y:Int} (h:l[p]?=some y):(ddp (l.take (p+1))).getLast?=some y:=by rw [zkr h]; exact z03 _ _
theorem zkq {l:List Int} {p:Nat} {x y:Int} (hp:1≤p) (h0:l[p - 1]?=some y) (h:l[p]?=some x) (e:x=y):ddp (l.take (p+1))=ddp (l.take p):=by
 have:=zp5 h0
 rw [show p - 1+1=p by omega]at this
 rw [zkr h,zsy,this,e]; simp
theorem zty {l:List Int} {p:Nat} {x y:Int} (hp:1≤p) (h0:l[p - 1]?=some y) (h:l[p]?=some x) (e:¬ x=y):ddp (l.take (p+1))=ddp (l.take p)++[x]:=by
 have:=zp5 h0
 rw [show p - 1+1=p by omega]at this
 rw [zkr h,zsy,this,if_neg (by simpa using Ne.symm e)]
theorem z5r {l:List Int} (h:1≤l.length):ddp (l.take 1)=l.take 1:=by
 cases l with
 | nil=>simp at h
 | cons a l=>rfl
theorem zrg {l:List Int} (h:l.length<2):ddp l=l:=by
 match l,h with
 | [],_=>rfl
 | [a],_=>rfl
structure DC (l c:List Int) (k p:Nat):Prop where
 len:c.length=l.length
 dk:(ddp (l.take p)).length=k
 hd:c.take k=ddp (l.take p)
 dr:c.drop (p - 1)=l.drop (p - 1)
 kp:k+1≤p
theorem DC.get {l c:List Int} {k p j:Nat} (h:DC l c k p) (hj:p - 1≤j):c[j]?=l[j]?:=by
 have:=congrArg (fun x=>x[j - (p - 1)]?) h.dr
 simp only[List.getElem?_drop]at this
 rwa [show p - 1+(j - (p - 1))=j by omega]at this
theorem DC.first {l:List Int} {k:Nat} {x y:Int} (h1:1≤k) (hd:ddp (l.take k)=l.take k) (hy:l[k - 1]?=some y) (hx:l[k]?=some x) (e:x=y):DC l l k (k+1):=by
 have hk:=zbn hx
 refine ⟨rfl,?_,?_,rfl,qR _⟩
 ·rw [zkq h1 hy hx e,hd,List.length_take]; omega
 rw [zkq h1 hy hx e,hd]
theorem DC.same {l c:List Int} {k p:Nat} {x y:Int} (h:DC l c k p) (h1:1≤p) (hy:l[p - 1]?=some y) (hx:l[p]?=some x) (e:x=y):DC l c k (p+1):=by
 refine ⟨h.len,?_,?_,?_,by have:=h.kp; omega⟩
 ·rw [zkq h1 hy hx e]; exact h.dk
 ·rw [zkq h1 hy hx e]; exact h.hd
 have:=congrArg (List.drop 1) h.dr
 rw [List.drop_drop,List.drop_drop]at this
 rwa [show p - 1+1=p by omega]at this
theorem DC.new {l c:List Int} {k p:Nat} {x y:Int} (h:DC l c k p) (h1:1≤p) (hy:l[p - 1]?=some y) (hx:l[p]?=some x) (e:¬ x=y):DC l (c.set k x) (k+1) (p+1):=by
 have hp:=zbn hx
 have hk:=h.kp
 have hl:=h.len
 refine ⟨by simpa using hl,?_,?_,?_,by omega⟩
 ·rw [zty h1 hy hx e,List.length_append,h.dk]; rfl
 ·rw [zty h1 hy hx e,← h.hd]
  have:(c.set k x)[k]?=some x:=by rw [List.getElem?_set]; simp; omega
  rw [tk this,List.take_set_of_le (qR _)]
 rw [Nat.add_sub_cancel,List.drop_set_of_lt (by omega)]
 have:=congrArg (List.drop 1) h.dr
 rw [List.drop_drop,List.drop_drop]at this
 rwa [show p - 1+1=p by omega]at this
def zj7 (g:List (List Int)) (level:Bool) (line fr:Nat) (n:Nat):List Int × List Int :=
 ((List.range n).map fun j=>(zbo g level line (fr+j)).1,(List.range n).map fun j=>(zbo g level line (fr+j)).2)
theorem zjz {S:Store} {k f:Nat} {sel:List Nat} {q:IntKind} (l:List Int):(l.map (PV.int q)).mapM (rn S k sel (f+1))=some (l.map (PV.int q)) :=
 zbb fun x hx=>by obtain ⟨a,_,rfl⟩:=List.mem_map.1 hx; rfl
end Fw
end Go.Proofs.YthbombjjioojeaaGreatDoor
