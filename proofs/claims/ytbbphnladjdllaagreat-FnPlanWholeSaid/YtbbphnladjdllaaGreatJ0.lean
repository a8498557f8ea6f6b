/- Parts of the framework and of the proof: The framework, part a: plain values, the store, and how they stand to the model's values and memory; The framework, part b: what the operations and the code do to plain values and the store; The framework, part c: calls, operations that write, regions and code, on plain values; The framework, part d: the operations that turn nothing are what they are said to be; The framework, part e: each operation that turns nothing, run in the model; The framework, part f: the rest of the operations that turn nothing; The framework, part g: every operation that turns nothing; The framework, part h: what is written and what is made; The framework, part i: the operations that write and make, run in the model; The framework, part j: append, a map's store, a call; every operation; The framework, part k: calls; data that is read whole; a region that goes in the order of the text; The framework, part l: every operation; code on plain values, and that it is what the model does; The framework, part m: regions; The framework, part n: a region whose order is open; The framework, part o: every order that a region allows; code; functions. -/
import Derived.WalkKit
import Derived.Below
import Derived.Orders
import Derived.OrdersIn
import Derived.TacticsIn
import Derived.LoopNIn
import Derived.Laws.AppendOwn
import Derived.Laws.MakeOwn
import Derived.Laws.CopyRow
import Derived.Laws.Rows
import Derived.Laws.StructEq
import Derived.Lib.Bytes
import Derived.WalkSpells
import Derived.Laws.BytesString
import Derived.Lib.AppendStr
import Derived.Lib.ConvBytes
import Derived.LoopN
set_option linter.all false
namespace Go.Proofs.YtbbphnladjdllaaGreat
namespace Fw
open Go
open Nat renaming reduceEqDiff → qE, reduceLeDiff → qL, reduceAdd → qA, reduceMul → qM, le_refl → qR
open List renaming append_nil → qN, mapM_append → qP, mapM_cons → qC, mapM_map → qU, range_succ → qS, take_of_length_le → qT
open Bool renaming and_eq_true → qB, false_eq_true → qF
open Option renaming map_some → qO, map_eq_some_iff → qI
open Int renaming reduceToNat → qZ
inductive PV where
 | int (k:IntKind) (n:Int)
 | bool (b:Bool)
 | str (s:List UInt8)
 | agg (cs:List PV)
 | tup (vs:List PV)
 | sl (cs:List PV) (n:Nat)
 | nils
 | ip (cs:List PV) (off:Nat)
 | nilp
 | loc (o ver off n:Nat)
 | ref (o ver off:Nat)
 | mp (o ver:Nat)
 | nilm
 | fn (f:FuncId) (cap:List PV)
 | bm (f:FuncId) (b:PV)
 | nilf
 | yl (l:Nat)
 | undef
 deriving Inhabited
def PV.isCell:PV→Bool
 | .agg _ | .tup _ | .undef=>false
 | _=>true
def PV.isDef:PV→Bool
 | .undef=>false
 | _=>true
def PV.cells:PV→List PV
 | .agg cs=>cs
 | v=>[v]
inductive Ob where
 | arr (ver et sz:Nat) (cells:List PV)
 | map (ver:Nat) (es:List (PV × PV))
 | lp (ver l:Nat) (r:Loop × List Nat) (tmps:List PV)
def Ob.ver:Ob→Nat
 | .arr v _ _ _=>v
 | .map v _=>v
 | .lp v _ _ _=>v
def Ob.like:Ob→Ob→Prop
 | .arr _ e s _,.arr _ e' s' _=>e=e'∧s=s'
 | .map _ _,.map _ _=>True
 | .lp _ _ _ _,.lp _ _ _ _=>True
 | _,_=>False
theorem Ob.like.refl (a:Ob):a.like a:=by cases a <;> simp [Ob.like]
theorem Ob.like.trans {a b c:Ob} (h:a.like b) (k:b.like c):a.like c:=by
 cases a <;> cases b <;> cases c <;> simp_all [Ob.like]
structure Store where
 obs:List Ob
 tick:Nat
structure Lc where
 blk:Nat
 room:Nat
structure GSt where
 obs:List (Ob × Lc)
 tick:Nat
def GSt.er (G:GSt):Store:=⟨G.obs.map (·.1),G.tick⟩
def zhi (H:Array Obj) (b i:Nat):Option Value :=
 match H[b]? with
 | some (.cells c _ _)=>c[i]?
 | _=>none
theorem zgv (w:World) (b i:Nat):w.cell? ⟨b,i,none⟩=zhi w.heap b i:=by
 simp only[World.cell?,zhi]
 split <;> simp_all
inductive VI (H:Array Obj) (F:Nat→Prop):PV→Value→Prop where
 | int (k n):VI H F (.int k n) (.int k n)
 | bool (b):VI H F (.bool b) (.bool b)
 | str (s:List UInt8) (b:ByteArray):b.data.toList=s→VI H F (.str s) (.string b)
 | agg (cs:List PV) (vs:Array Value):cs.length=vs.size→(∀ (i:Nat) p v,cs[i]?=some p→vs[i]?=some v→VI H F p v)→VI H F (.agg cs) (.agg vs)
 | tup (cs:List PV) (vs:Array Value):cs.length=vs.size→(∀ (i:Nat) p v,cs[i]?=some p→vs[i]?=some v→VI H F p v)→VI H F (.tup cs) (.tuple vs)
 | nils:VI H F .nils (.slice none 0 0)
 | sl0:VI H F (.sl [] 0) (.slice none 0 0)
 | sl (cs:List PV) (n b off cap:Nat) (g:Nat→Value):(cs≠[]→F b)→n≤cap →
   (∀ (i:Nat) p,cs[i]?=some p→p.isCell=true∧zhi H b (off+i)=some (g i))→(∀ (i:Nat) p,cs[i]?=some p→VI H F p (g i)) →
   VI H F (.sl cs n) (.slice (some ⟨b,off,none⟩) n cap)
 | nilp:VI H F .nilp (.pointer none)
 | ip (cs:List PV) (off b base:Nat) (g:Nat→Value):(cs≠[]→F b) →
   (∀ (i:Nat) p,cs[i]?=some p→p.isCell=true∧zhi H b (base+i)=some (g i))→(∀ (i:Nat) p,cs[i]?=some p→VI H F p (g i)) →
   VI H F (.ip cs off) (.pointer (some ⟨b,base+off,none⟩))
 | nilf:VI H F .nilf .nilFunc
 | yl (l:Nat):VI H F (.yl l) (.func (.yield l) #[] #[])
 | fn (f:FuncId) (cs:List PV) (vs:Array Value):cs.length=vs.size→(∀ (i:Nat) p v,cs[i]?=some p→vs[i]?=some v→VI H F p v) →
   VI H F (.fn f cs) (.func (.func f) #[] vs)
 | bm (f:FuncId) (b:PV) (v:Value):VI H F b v→VI H F (.bm f b) (.func (.func f) #[v] #[])
 | nilm:VI H F .nilm (.map none)
 | undef (v):VI H F .undef v
inductive VR (H:Array Obj) (F:Nat→Prop) (G:GSt):PV→Value→Prop where
 | imm (p v):VI H F p v→VR H F G p v
 | agg (cs:List PV) (vs:Array Value):cs.length=vs.size→(∀ (i:Nat) p v,cs[i]?=some p→vs[i]?=some v→VR H F G p v)→VR H F G (.agg cs) (.agg vs)
 | tup (cs:List PV) (vs:Array Value):cs.length=vs.size→(∀ (i:Nat) p v,cs[i]?=some p→vs[i]?=some v→VR H F G p v)→VR H F G (.tup cs) (.tuple vs)
 | fn (f:FuncId) (cs:List PV) (vs:Array Value):cs.length=vs.size→(∀ (i:Nat) p v,cs[i]?=some p→vs[i]?=some v→VR H F G p v) →
   VR H F G (.fn f cs) (.func (.func f) #[] vs)
 | loc (o ver off n:Nat) (a:Option Addr) (len cap:Nat):ver<G.tick →
   (∀ ob l,G.obs[o]?=some (ob,l)→ob.ver=ver→∃ et sz cells,ob = .arr ver et sz cells∧a=some ⟨l.blk,off,none⟩∧len=n∧n≤cap∧cap≤maxLen∧off+cap*sz=l.room) →
   VR H F G (.loc o ver off n) (.slice a len cap)
 | ref (o ver off:Nat) (a:Option Addr):ver<G.tick →
   (∀ ob l,G.obs[o]?=some (ob,l)→ob.ver=ver→∃ et sz cells,ob = .arr ver et sz cells∧a=some ⟨l.blk,off,none⟩) →
   VR H F G (.ref o ver off) (.pointer a)
 | mp (o ver:Nat) (r:Option Nat):ver<G.tick →
   (∀ ob l,G.obs[o]?=some (ob,l)→ob.ver=ver→∃ es,ob = .map ver es∧r=some l.blk) →
   VR H F G (.mp o ver) (.map r)
def ycn (n:Nat) (fz:Nat × Nat):Prop:=fz.2=0∨n≤fz.1
def yjj (H:Array Obj) (b:Nat) (cs:Array Value) (et:TypeId):Prop:=∃ fz:Nat × Nat,H[b]?=some (.cells cs et fz)∧ycn cs.size fz
def yjh (H H':Array Obj) (F:Nat→Prop) (G:GSt) (l:Nat) (r:Loop × List Nat) (tmps:List PV):Prop :=
 ∃ t:Array Value,H'[l]?=some (.loop { r.1 with tmps:=t })∧(t=r.1.tmps∧tmps.length=r.2.length)∧∀ (i:Nat) p (j:Nat),tmps[i]?=some p→r.2[i]?=some j→VR H F G p (t.getD j undef)
structure Inv (F:Nat→Prop) (G:GSt) (w:World):Prop where
 fr:∀ b,F b→b<w.heap.size
 ver:∀ (o:Nat) ob l,G.obs[o]?=some (ob,l)→ob.ver<G.tick
 nF:∀ (o:Nat) ob l,G.obs[o]?=some (ob,l)→¬ F l.blk
 arr:∀ (o:Nat) ver et sz cells l,G.obs[o]?=some (.arr ver et sz cells,l) →
  ∃ cs:Array Value,yjj w.heap l.blk cs et∧cs.size=l.room∧cells.length≤l.room ∧
   ∀ (i:Nat) p,cells[i]?=some p→p.isCell=true∧∃ v,cs[i]?=some v∧VR w.heap F G p v
 map:∀ (o:Nat) ver es l,G.obs[o]?=some (.map ver es,l) →
  ∃ (ents:Array MapEntry) (clock:Nat),w.heap[l.blk]?=some (.map ents clock)∧ents.size=es.length ∧
   ∀ (i:Nat) k v,es[i]?=some (k,v)→∃ e,ents[i]?=some e∧VR w.heap F G k e.key∧VR w.heap F G v e.val
 inj:∀ (o o':Nat) x x',G.obs[o]?=some x→G.obs[o']?=some x'→x.2.blk=x'.2.blk→o=o'
 lp:∀ (o:Nat) ver l r tmps lc,G.obs[o]?=some (.lp ver l r tmps,lc)→lc.blk=l∧yjh w.heap w.heap F G l r tmps
structure Next (F:Nat→Prop) (G:GSt) (w:World) (F':Nat→Prop) (G':GSt) (w':World):Prop where
 os:w'.os=w.os
 tape:w'.tape=w.tape
 output:w'.output=w.output
 size:w.heap.size≤w'.heap.size
 fsub:∀ b,F b→F' b
 fnew:∀ b,F' b→F b∨w.heap.size≤b∨∃ (o:Nat) (x:Ob × Lc),G.obs[o]?=some x∧x.2.blk=b
 gnew:∀ (o:Nat) x,G'.obs[o]?=some x→w.heap.size≤x.2.blk∨∃ (o':Nat) (y:Ob × Lc),G.obs[o']?=some y∧y.2.blk=x.2.blk
 tick:G.tick≤G'.tick
 keep:∀ b,b<w.heap.size→(∀ (o:Nat) x,G.obs[o]?=some x→x.2.blk≠b)→w'.heap[b]?=w.heap[b]?
 hand:∀ (o:Nat) ob' l',G'.obs[o]?=some (ob',l')→ob'.ver<G.tick→∃ ob,G.obs[o]?=some (ob,l')∧ob.ver=ob'.ver∧ob.like ob'
 drawn:w.drawn≤w'.drawn
theorem VI.mono {H H':Array Obj} {F F':Nat→Prop} (hF:∀ b,F b→F' b) (hH:∀ b,F b→H'[b]?=H[b]?) {p:PV} {v:Value} (h:VI H F p v):VI H' F' p v:=by
 induction h with
 | int k n=>exact .int k n
 | bool b=>exact .bool b
 | str s b h=>exact .str s b h
 | agg cs vs h _ ih=>exact .agg cs vs h ih
 | tup cs vs h _ ih=>exact .tup cs vs h ih
 | nils=>exact .nils
 | sl0=>exact .sl0
 | sl cs n b off cap g hb hn hc _ ih =>
  refine .sl cs n b off cap g (fun h=>hF _ (hb h)) hn (fun i p hi=>⟨(hc i p hi).1,?_⟩) ih
  have hb':=hb (by rintro rfl; simp at hi)
  simpa [zhi,hH b hb'] using (hc i p hi).2
 | nilp=>exact .nilp
 | ip cs off b base g hb hc _ ih =>
  refine .ip cs off b base g (fun h=>hF _ (hb h)) (fun i p hi=>⟨(hc i p hi).1,?_⟩) ih
  have hb':=hb (by rintro rfl; simp at hi)
  simpa [zhi,hH b hb'] using (hc i p hi).2
 | nilf=>exact .nilf
 | yl l=>exact .yl l
 | fn f cs vs h _ ih=>exact .fn f cs vs h ih
 | bm f b v _ ih=>exact .bm f b v ih
 | nilm=>exact .nilm
 | undef v=>exact .undef v
theorem Inv.out {F:Nat→Prop} {G:GSt} {w:World} (h:Inv F G w) {b:Nat} (hb:F b):∀ (o:Nat) x,G.obs[o]?=some x→x.2.blk≠b:=by
 rintro o ⟨ob,l⟩ hx rfl
 exact h.nF o ob l hx hb
theorem Next.frozen {F F':Nat→Prop} {G G':GSt} {w w':World} (hi:Inv F G w) (h:Next F G w F' G' w'):∀ b,F b→w'.heap[b]?=w.heap[b]? :=
 fun b hb=>h.keep b (hi.fr b hb) (hi.out hb)
theorem VR.next {F F':Nat→Prop} {G G':GSt} {w w':World} (hi:Inv F G w) (h:Next F G w F' G' w') {p:PV} {v:Value} (k:VR w.heap F G p v):VR w'.heap F' G' p v:=by
 induction k with
 | imm p v k=>exact .imm p v (k.mono h.fsub (h.frozen hi))
 | agg cs vs e _ ih=>exact .agg cs vs e ih
 | tup cs vs e _ ih=>exact .tup cs vs e ih
 | fn f cs vs e _ ih=>exact .fn f cs vs e ih
 | loc o ver off n a len cap hv k =>
  refine .loc o ver off n a len cap (Nat.lt_of_lt_of_le hv h.tick) fun ob' l' hg he=>?_
  obtain ⟨ob,hob,hver,hl⟩:=h.hand o ob' l' hg (by omega)
  obtain ⟨et,sz,cells,rfl,r⟩:=k ob l' hob (by omega)
  cases ob' with
  | arr v2 et2 sz2 cells2 =>
   simp only[Ob.like]at hl
   obtain ⟨rfl,rfl⟩:=hl
   exact ⟨et,sz,cells2,by simp only[Ob.ver]at he; rw [he],r⟩
  | map v2 es=>exact hl.elim
  | lp _ _ _ _=>exact hl.elim
 | ref o ver off a hv k =>
  refine .ref o ver off a (Nat.lt_of_lt_of_le hv h.tick) fun ob' l' hg he=>?_
  obtain ⟨ob,hob,hver,hl⟩:=h.hand o ob' l' hg (by omega)
  obtain ⟨et,sz,cells,rfl,r⟩:=k ob l' hob (by omega)
  cases ob' with
  | arr v2 et2 sz2 cells2 =>
   simp only[Ob.like]at hl
   obtain ⟨rfl,rfl⟩:=hl
   exact ⟨et,sz,cells2,by simp only[Ob.ver]at he; rw [he],r⟩
  | map v2 es=>exact hl.elim
  | lp _ _ _ _=>exact hl.elim
 | mp o ver r hv k =>
  refine .mp o ver r (Nat.lt_of_lt_of_le hv h.tick) fun ob' l' hg he=>?_
  obtain ⟨ob,hob,hver,hl⟩:=h.hand o ob' l' hg (by omega)
  obtain ⟨es,rfl,r⟩:=k ob l' hob (by omega)
  cases ob' with
  | arr v2 et2 sz2 cells2=>exact hl.elim
  | map v2 es2=>exact ⟨es2,by simp only[Ob.ver]at he; rw [he],r⟩
  | lp _ _ _ _=>exact hl.elim
theorem Next.refl {F:Nat→Prop} {G:GSt} (w:World):Next F G w F G w :=
 ⟨rfl,rfl,rfl,qR _,fun _ h=>h,fun _ h => .inl h,fun o x h => .inr ⟨o,x,h,rfl⟩,qR _,fun _ _ _=>rfl,
  fun _ ob' _ h _=>⟨ob',h,rfl,Ob.like.refl _⟩,qR _⟩
theorem Next.trans {F F' F'':Nat→Prop} {G G' G'':GSt} {w w' w'':World} (h:Next F G w F' G' w') (k:Next F' G' w' F'' G'' w''):Next F G w F'' G'' w'':=by
 refine ⟨k.os.trans h.os,k.tape.trans h.tape,k.output.trans h.output,Nat.le_trans h.size k.size,fun b hb=>k.fsub b (h.fsub b hb),?_,?_,Nat.le_trans h.tick k.tick,?_,?_,Nat.le_trans h.drawn k.drawn⟩
 ·intro b hb
  rcases k.fnew b hb with h1 | h1 | ⟨o,x,hx,rfl⟩
  ·exact h.fnew b h1
  ·exact .inr (.inl (Nat.le_trans h.size h1))
  rcases h.gnew o x hx with h2 | ⟨o',y,hy,e⟩
  ·exact .inr (.inl h2)
  exact .inr (.inr ⟨o',y,hy,e⟩)
 ·intro o x hx
  rcases k.gnew o x hx with h1 | ⟨o',y,hy,e⟩
  ·exact .inl (Nat.le_trans h.size h1)
  rcases h.gnew o' y hy with h2 | ⟨o2,z,hz,e2⟩
  ·exact .inl (by omega)
  exact .inr ⟨o2,z,hz,by omega⟩
 ·intro b hb hG
  refine (k.keep b (Nat.lt_of_lt_of_le hb h.size) fun o x hx e=>?_).trans (h.keep b hb hG)
  rcases h.gnew o x hx with h2 | ⟨o',y,hy,e'⟩
  ·omega
  exact hG o' y hy (by omega)
 intro o ob'' l'' hx hv
 obtain ⟨ob',h1,h2,h3⟩:=k.hand o ob'' l'' hx (Nat.lt_of_lt_of_le hv h.tick)
 obtain ⟨ob,k1,k2,k3⟩:=h.hand o ob' l'' h1 (by omega)
 exact ⟨ob,k1,by omega,k3.trans h3⟩
theorem VI.oneCell {H:Array Obj} {F:Nat→Prop} {p:PV} {v:Value} (hp:p.isCell=true) (h:VI H F p v):v.oneCell'=true:=by
 cases h <;> simp_all [PV.isCell,Value.oneCell']
theorem VR.oneCell {H:Array Obj} {F:Nat→Prop} {G:GSt} {p:PV} {v:Value} (hp:p.isCell=true) (h:VR H F G p v):v.oneCell'=true:=by
 cases h with
 | imm _ _ k=>exact k.oneCell hp
 | _=>simp_all [PV.isCell,Value.oneCell']
inductive TK where
 | bool
 | int (k:IntKind)
 | str
 | slice (e:TypeId)
 | ptr (e:TypeId)
 | arr (n:Nat) (e:TypeId)
 | struct (fs:List (Nat × TypeId))
 | map (k v:TypeId)
 | func
 | other
 | none
 deriving DecidableEq
structure TI where
 kd:TK
 size:Nat
 bytes:Nat
 zero:List PV
abbrev Tab:=TypeId→TI
abbrev Env:=Nat→PV
def Env.put (e:Env) (d:Option Tmp) (v:PV):Env :=
 match d with
 | some d=>fun t=>if t=d then v else e t
 | none=>e
def zgo:Value→PV
 | .int k n => .int k n
 | .bool b => .bool b
 | .string s => .str s.data.toList
 | .pointer none => .nilp
 | .slice none 0 0 => .nils
 | .nilFunc => .nilf
 | .map none => .nilm
 | _ => .undef
def Env.ev (e:Env):Operand→PV
 | .tmp t=>e t
 | .const v=>zgo v
 | .global _ => .undef
 | .func f => .fn f []
def TK.isAgg:TK→Bool
 | .struct _ | .arr _ _=>true
 | _=>false
def zk2 (ti:TI) (cs:List PV) (off:Nat):Option PV :=
 if ti.kd = .none then none else if ti.kd.isAgg then (if off+ti.size≤cs.length then some (.agg ((cs.drop off).take ti.size)) else none) else cs[off]?
def Store.cellsOf (S:Store) (o ver:Nat):Option (List PV) :=
 match S.obs[o]? with
 | some (.arr v _ _ cells)=>if v=ver then some cells else none
 | _=>none
def zsj (ti:TI) (S:Store):PV→Option PV
 | .ip cs off=>zk2 ti cs off
 | .ref o ver off=>(S.cellsOf o ver).bind fun cells=>zk2 ti cells off
 | _=>none
def zf8 (T:Tab) (S:Store) (t:TypeId) (x i:PV):Option PV :=
 match i with
 | .int _ i =>
  match (T t).kd,x with
  | .slice e,.sl cs n=>if 0≤i∧i<n then some (.ip cs (i.toNat*(T e).size)) else none
  | .slice e,.loc o ver off n=>(S.cellsOf o ver).bind fun _=>if 0≤i∧i<n then some (.ref o ver (off+i.toNat*(T e).size)) else none
  | .arr n e,.ref o ver off=>(S.cellsOf o ver).bind fun _=>if 0≤i∧i<n then some (.ref o ver (off+i.toNat*(T e).size)) else none
  | .arr n e,.ip cs off=>if 0≤i∧i<n then some (.ip cs (off+i.toNat*(T e).size)) else none
  | _,_=>none
 | _=>none
def z95 (ti:TI) (cs:List PV) (off:Nat):Option PV:=zk2 ti cs off
def zyl (T:Tab) (t:TypeId) (x i:PV):Option PV :=
 match i with
 | .int _ i =>
  match (T t).kd,x with
  | .str,.str s=>if 0≤i then (s[i.toNat]?).map fun b => .int .u8 b.toNat else none
  | .arr n e,.agg cs=>if 0≤i∧i<n then z95 (T e) cs (i.toNat*(T e).size) else none
  | _,_=>none
 | _=>none
def zf7 (T:Tab) (S:Store) (t:TypeId) (x:PV) (f:Nat):Option PV :=
 match (T t).kd with
 | .struct fs =>
  match fs[f]?,x with
  | some (fo,ft),.ip cs off=>if (T ft).size=0 then none else some (.ip cs (off+fo))
  | some (fo,ft),.ref o ver off=>if (T ft).size=0 then none else (S.cellsOf o ver).map fun _ => .ref o ver (off+fo)
  | _,_=>none
 | _=>none
def zyi (T:Tab) (t:TypeId) (x:PV) (f:Nat):Option PV :=
 match (T t).kd,x with
 | .struct fs,.agg cs =>
  match fs[f]? with
  | some (fo,ft)=>z95 (T ft) cs fo
  | none=>none
 | _,_=>none
def zyd (op:BinOp) (k:IntKind) (a b:Int):Option PV :=
 match op with
 | .add=>some (.int k (k.wrap (a+b)))
 | .sub=>some (.int k (k.wrap (a - b)))
 | .mul=>some (.int k (k.wrap (a*b)))
 | .quo=>if b=0 then none else some (.int k (k.wrap (a.tdiv b)))
 | .rem=>if b=0 then none else some (.int k (a.tmod b))
 | .and=>some (.int k (k.wrap (BitVec.ofInt k.bits a &&& BitVec.ofInt k.bits b).toNat))
 | .or=>some (.int k (k.wrap (BitVec.ofInt k.bits a ||| BitVec.ofInt k.bits b).toNat))
 | .xor=>some (.int k (k.wrap (BitVec.ofInt k.bits a ^^^ BitVec.ofInt k.bits b).toNat))
 | .eql=>some (.bool (a == b))
 | .neq=>some (.bool (a != b))
 | .lss=>some (.bool (a<b))
 | .leq=>some (.bool (a≤b))
 | .gtr=>some (.bool (a>b))
 | .geq=>some (.bool (a ≥ b))
 | _=>none
def z31 (op:BinOp) (k:IntKind) (a b:Int):Option PV :=
 if b<0 then none else
 match op with
 | .shl=>some (.int k (k.wrap (a*2 ^ (min b.toNat k.bits))))
 | .shr=>some (.int k (a.fdiv (2 ^ (min b.toNat k.bits))))
 | _=>none
def yck (op:BinOp) (a b:List UInt8):Option PV :=
 match op with
 | .add=>if a.length+b.length≤9223372036854775807 then some (.str (a++b)) else none
 | .eql=>some (.bool (a == b))
 | .neq=>some (.bool (!(a == b)))
 | _=>none
def zqw:List PV→Option (List (IntKind × Int))
 | []=>some []
 | .int k n::r=>(zqw r).map ((k,n) :: ·)
 | _=>none
def zg9 (T:Tab):List (Nat × TypeId)→Nat→Bool
 | [],_=>true
 | (o,t)::r,i=>o == i && (match (T t).kd with | .int _=>true | _=>false) && zg9 T r (i+1)
def pEq (T:Tab) (S:Store) (t:TypeId) (x y:PV):Option Bool :=
 match (T t).kd,x,y with
 | .bool,.bool a,.bool b=>some (a == b)
 | .ptr _,.nilp,.nilp=>some true
 | .ptr _,.nilp,.ip _ _=>some false
 | .ptr _,.ip _ _,.nilp=>some false
 | .ptr _,.nilp,.ref o v _=>(S.cellsOf o v).map fun _=>false
 | .ptr _,.ref o v _,.nilp=>(S.cellsOf o v).map fun _=>false
 | .slice _,.nils,.nils=>some true
 | .slice _,.loc o v _ _,.nils=>(S.cellsOf o v).map fun _=>false
 | .slice _,.sl _ n,.nils=>if n=0 then none else some false
 | .func,.nilf,.nilf=>some true
 | .func,.fn _ _,.nilf=>some false
 | .func,.nilf,.fn _ _=>some false
 | .struct fs,.agg a,.agg b =>
  if zg9 T fs 0 then
   match zqw a,zqw b with
   | some l,some m=>if a.length=fs.length∧b.length=fs.length∧l.map (·.1)=m.map (·.1) then some (decide (l=m)) else none
   | _,_=>none
  else none
 | _,_,_=>none
def yje (T:Tab) (S:Store) (op:BinOp) (t:TypeId) (x y:PV):Option PV :=
 match x,y with
 | .int k a,.int k' b =>
  match op with
  | .shl | .shr=>z31 op k a b
  | _=>if k=k' then zyd op k a b else none
 | .str a,.str b=>yck op a b
 | _,_ =>
  match op with
  | .eql=>(pEq T S t x y).map .bool
  | .neq=>(pEq T S t x y).map fun b => .bool (!b)
  | _=>none
def pUn (op:UnOp) (x:PV):Option PV :=
 match op,x with
 | .neg,.int k n=>some (.int k (k.wrap (0 - n)))
 | .not,.bool b=>some (.bool (!b))
 | _,_=>none
def zg6:List PV→Option (List UInt8)
 | []=>some []
 | .int .u8 n::r=>(zg6 r).map (UInt8.ofNat n.toNat :: ·)
 | _=>none
def zc1 (S:Store) (sz:Nat):PV→Option (Nat × List PV)
 | .nils=>some (0,[])
 | .sl cs n=>if cs.length=n*sz then some (n,cs) else none
 | .loc o ver off n=>(S.cellsOf o ver).bind fun cells=>if off+n*sz≤cells.length then some (n,(cells.drop off).take (n*sz)) else none
 | _=>none
def zj3 (T:Tab) (S:Store) (src dst:TypeId) (x:PV):Option PV :=
 match (T src).kd,(T dst).kd,x with
 | .int _,.int k,.int _ n=>some (.int k (k.wrap n))
 | .int _,.str,.int _ n=>some (.str (Utf8.encode n).data.toList)
 | .str,.str,.str s=>some (.str s)
 | .slice e,.str,x =>
  match (T e).kd with
  | .int .u8=>(zc1 S 1 x).bind fun q=>(zg6 q.2).map .str
  | _=>none
 | .str,.slice e,.str s =>
  match (T e).kd with
  | .int .u8=>some (.sl (s.map fun b => .int .u8 b.toNat) s.length)
  | _=>none
 | _,_,_=>none
def pHi (n:Nat):Option PV→Option Nat
 | none=>some n
 | some (.int _ h)=>if 0≤h∧h≤n then some h.toNat else none
 | some _=>none
def pLo (h:Nat):Option PV→Option Nat
 | none=>some 0
 | some (.int _ l)=>if 0≤l∧l≤h then some l.toNat else none
 | some _=>none
def zgp (n:Nat) (lo hi:Option PV):Option (Nat × Nat):=(pHi n hi).bind fun h=>(pLo h lo).map fun l=>(l,h)
def zyp (T:Tab) (S:Store) (t:TypeId) (x:PV) (lo hi:Option PV):Option PV :=
 match (T t).kd,x with
 | .str,.str s=>(zgp s.length lo hi).map fun (l,h) => .str ((s.take h).drop l)
 | .slice e,.sl cs n=>(zgp n lo hi).map fun (l,h) => .sl ((cs.take (h*(T e).size)).drop (l*(T e).size)) (h - l)
 | .slice e,.loc o ver off n =>
  match S.obs[o]? with
  | some (.arr v _ sz _) =>
   if v=ver∧sz=(T e).size then (zgp n lo hi).bind fun (l,h)=>if l=0∨l<n then some (.loc o ver (off+l*sz) (h - l)) else none
   else none
  | _=>none
 | _,_=>none
def spl (cs:List PV) (off:Nat) (vs:List PV):List PV:=cs.take off++vs++cs.drop (off+vs.length)
def zi0 (T:Tab) (place:Nat→Option (Nat × Nat)):List PV→List (Nat × PV)→Option (List PV)
 | cs,[]=>some cs
 | cs,(i,v)::rest =>
  match place i with
  | none=>none
  | some (off,size)=>if v.cells.length=size∧off+size≤cs.length∧v.isDef=true then zi0 T place (spl cs off v.cells) rest else none
def zyf (T:Tab) (t:TypeId) (parts:List (Nat × PV)):Option PV :=
 match (T t).kd with
 | .struct fs=>(zi0 T (fun i=>(fs[i]?).map fun f=>(f.1,(T f.2).size)) (T t).zero parts).map .agg
 | .arr _ e=>(zi0 T (fun i=>some (i*(T e).size,(T e).size)) (T t).zero parts).map .agg
 | _=>none
def repz (z:List PV):Nat→List PV
 | 0=>[]
 | n+1=>z++repz z n
def yjf (T:Tab) (S:Store) (t:TypeId) (x:PV):Option PV :=
 match (T t).kd,x with
 | .str,.str s=>some (.int .i64 s.length)
 | .arr n _,_=>some (.int .i64 n)
 | .slice _,.nils=>some (.int .i64 0)
 | .slice _,.sl _ n=>some (.int .i64 n)
 | .slice _,.loc o ver _ n=>(S.cellsOf o ver).map fun _ => .int .i64 n
 | .map _ _,.mp o ver=>match S.obs[o]? with
  | some (.map v es)=>if v=ver then some (.int .i64 es.length) else none
  | _=>none
 | _,_=>none
def yd8:List PV→Option PV
 | []=>none
 | x::r=>r.foldlM (fun a b=>match a,b with
  | .int k a,.int _ b=>some (.int k (if b>a then b else a))
  | _,_=>none) x
def yd9:List PV→Option PV
 | []=>none
 | x::r=>r.foldlM (fun a b=>match a,b with
  | .int k a,.int _ b=>some (.int k (if b<a then b else a))
  | _,_=>none) x
def zhd:PV→PV→Option Bool
 | .int k a,.int k' b=>if k=k' then some (a == b) else none
 | .str a,.str b=>some (a == b)
 | _,_=>none
def findKey (x:PV):List (PV × PV)→Nat→Option (Option (Nat × PV))
 | [],_=>some none
 | (k,v)::r,i=>match zhd x k with
  | some true=>some (some (i,v))
  | some false=>findKey x r (i+1)
  | none=>none
def TK.keyed (T:Tab) (t:TypeId) (x:PV):Bool :=
 match (T t).kd,x with
 | .int k,.int k' _=>k == k'
 | .str,.str _=>true
 | _,_=>false
def zrd (T:Tab) (S:Store) (t:TypeId) (m k:PV) (ok:Bool):Option PV :=
 match (T t).kd,m with
 | .map kt vt,.mp o ver =>
  match S.obs[o]? with
  | some (.map v es) =>
   if v=ver∧TK.keyed T kt k=true∧(T vt).kd.isAgg=false then
    (findKey k es 0).bind fun r=>match r with
     | some (_,x)=>some (if ok then .tup [x,.bool true] else x)
     | none=>((T vt).zero[0]?).map fun z=>if ok then .tup [z,.bool false] else z
   else none
  | _=>none
 | _,_=>none
def zmr:Nat→PV→Bool
 | 0,_=>false
 | k+1,p =>
  match p with
  | .int .. | .bool _ | .str _ | .sl .. | .ip .. | .nils | .nilp | .nilf | .nilm=>true
  | .agg cs=>cs.all (zmr k)
  | _=>false
def zml (fn:Fn) (first cap:List PV):Option PV :=
 match fn,first with
 | .func f,[]=>some (.fn f cap)
 | .func f,[x]=>if zmr 10 x && cap.isEmpty then some (.bm f x) else none
 | _,_=>none
def zha (S:Store):PV→Option PV
 | .ip cs off=>some (.ip cs off)
 | .ref o ver off=>(S.cellsOf o ver).map fun _ => .ref o ver off
 | .fn f c=>some (.fn f c)
 | _=>none
def zfq (T:Tab) (S:Store) (c:Callee) (xs:List PV) (ts:List TypeId):Option PV :=
 match c with
 | .builtin .len=>match xs,ts with
  | [x],[t]=>yjf T S t x
  | _,_=>none
 | .builtin .max=>yd8 xs
 | .builtin .min=>yd9 xs
 | _=>none
def yea:PV→PV→PV→Option PV
 | .bool t,a,b=>some (if t then a else b)
 | _,_,_=>none
def zpm:PV→Nat→Option PV
 | .tup vs,i=>vs[i]?
 | _,_=>none
def zd2 (T:Tab) (S:Store) (e:Env) (o:Op):Option PV :=
 match o with
 | .move x=>some (e.ev x)
 | .assign x=>some (e.ev x)
 | .pick c a b=>yea (e.ev c) (e.ev a) (e.ev b)
 | .load t a=>zsj (T t) S (e.ev a)
 | .nilCheck x=>zha S (e.ev x)
 | .binOp op t x y _=>yje T S op t (e.ev x) (e.ev y)
 | .unOp op _ x=>pUn op (e.ev x)
 | .convert s d x=>zj3 T S s d (e.ev x)
 | .makeFunc fn first cap=>zml fn (first.toList.map e.ev) (cap.toList.map e.ev)
 | .slice t x lo hi mx=>if mx.isSome then none else zyp T S t (e.ev x) (lo.map e.ev) (hi.map e.ev)
 | .fieldAddr t x f=>zf7 T S t (e.ev x) f
 | .field t x f=>zyi T t (e.ev x) f
 | .indexAddr t x i=>zf8 T S t (e.ev x) (e.ev i)
 | .index t x i=>zyl T t (e.ev x) (e.ev i)
 | .extract x i=>zpm (e.ev x) i
 | .build t parts=>zyf T t (parts.toList.map fun p=>(p.1,e.ev p.2))
 | .lookup t m k ok=>zrd T S t (e.ev m) (e.ev k) ok
 | .call c=>zfq T S c.callee (c.args.toList.map e.ev) c.argTypes.toList
 | _=>none
def Store.push (S:Store) (et sz:Nat) (cells:List PV):Store:=⟨S.obs++[.arr S.tick et sz cells],S.tick+1⟩
def Store.pushMap (S:Store):Store:=⟨S.obs++[.map S.tick []],S.tick+1⟩
def Store.set (S:Store) (o:Nat) (ob:Ob):Store:=⟨S.obs.set o ob,S.tick⟩
def Store.take (S:Store) (k:Nat):Store:=⟨S.obs.take k,S.tick⟩
def Ent (P:Program) (f:FuncId):Prop:=∀ (args:Array Value) (w:World),(callFunc f args).run P w = .ok (.enter f args) w
structure Ev (P:Program) (f:FuncId) (args:List PV) (S:Store) (J:PV→Store→Prop):Prop where
 ent:Ent P f
 run:∀ (F:Nat→Prop) (G:GSt) (w:World) (cargs:Array Value),G.er=S→Inv F G w→args.length=cargs.size →
  (∀ (i:Nat) p c,args[i]?=some p→cargs[i]?=some c→VR w.heap F G p c) →
  Calls P f cargs w fun e w'=>∃ v cv F' G',e = .returned cv∧J v G'.er∧Inv F' G' w'∧Next F G w F' G' w'∧VR w'.heap F' G' v cv
abbrev fnc (R:Option Nat):Fence:={ Fence.wide with round:=R }
structure Ey (P:Program) (l:Nat) (xs:List PV) (S:Store) (J:PV→Store→Prop):Prop where
 run:∀ (F:Nat→Prop) (G:GSt) (w:World) (cargs:Array Value),G.er=S→Inv F G w→xs.length=cargs.size →
  (∀ (i:Nat) p c,xs[i]?=some p→cargs[i]?=some c→VR w.heap F G p c) →
  ∃ fn tmps assign body,(Instr.yield l cargs).run P w = .ok (.round l fn tmps assign body) w∧∀ (R:Option Nat) (nn:Nat),
   RoundIn (fnc R) nn P l fn tmps assign body w fun en w'=>∃ v cv F' G',en = .returned cv∧J v G'.er∧Inv F' G' w'∧Next F G w F' G' w'∧VR w'.heap F' G' v cv
structure Blw (w w':World):Prop where
 blw:RowKit.Below w.heap.size w w'
 drawn:w.drawn≤w'.drawn
structure PC (P:Program) (f:FuncId) (args:List PV) (r:PV) (fresh:Bool):Prop where
 ent:Ent P f
 run:∀ (F:Nat→Prop) (w:World) (cargs:Array Value),(∀ b,F b→b<w.heap.size)→args.length=cargs.size →
  (∀ (i:Nat) p c,args[i]?=some p→cargs[i]?=some c→VI w.heap F p c) →
  Calls P f cargs w fun e w'=>∃ cv,e = .returned cv∧Blw w w' ∧
   VI w'.heap (fun b=>(w.heap.size≤b∧b<w'.heap.size)∨(fresh=false∧F b)) r cv
def zb9 (cs:List PV):Prop:=∀ p∈cs,p.isCell=true
def zjg (T:Tab) (t:TypeId) (S:Store) (x y:PV) (K:PV→Store→Prop):Prop :=
 match (T t).kd with
 | .slice e =>
  match zc1 S (T e).size y with
  | some (m,ys) =>
   match x with
   | .nils=>if m=0 then K .nils S else m*(T e).bytes≤140737488355328∧m≤maxLen∧K (.loc S.obs.length S.tick 0 m) (S.push e (T e).size ys)
   | .loc o ver 0 n =>
    match S.obs[o]? with
    | some (.arr v et sz cells) =>
     v=ver∧et=e∧sz=(T e).size∧n*sz≤cells.length∧(n+m)*(T e).bytes≤140737488355328∧n+m≤maxLen ∧
      K (.loc o S.tick 0 (n+m)) ⟨S.obs.set o (.arr S.tick et sz (cells.take (n*sz)++ys)),S.tick+1⟩
    | _=>False
   | _=>False
  | none=>False
 | _=>False
def z54 (T:Tab) (t:TypeId) (S:Store) (x y:PV) (K:PV→Store→Prop):Prop :=
 match (T t).kd with
 | .slice e =>
  match zc1 S (T e).size y with
  | some (m,ys) =>
   match x with
   | .loc o ver off n =>
    match S.obs[o]? with
    | some (.arr v et sz cells)=>v=ver∧sz=(T e).size∧off+(ys.take (min m n*sz)).length≤cells.length ∧
      K (.int .i64 ((min m n:Nat):Int)) (S.set o (.arr v et sz (spl cells off (ys.take (min m n*sz)))))
    | _=>False
   | _=>False
  | none=>False
 | _=>False
def zto (T:Tab) (t:TypeId) (S:Store) (x:PV) (K:PV→Store→Prop):Prop :=
 match (T t).kd with
 | .slice e =>
  match x with
  | .loc o ver off n =>
   match S.obs[o]? with
   | some (.arr v et sz cells)=>v=ver∧(T e).kd ≠ .none∧off+(repz (T e).zero n).length≤cells.length∧zb9 (repz (T e).zero n)∧K (.tup []) (S.set o (.arr v et sz (spl cells off (repz (T e).zero n))))
   | _=>False
  | _=>False
 | _=>False
def yk3 (T:Tab) (t u:TypeId) (y:PV):Option PV :=
 if t=u then some y else
 match (T t).kd,(T u).kd,y with
 | .slice e,.str,.str s=>if (T e).kd = .int .u8∧(T e).size=1 then some (.sl (s.map fun b => .int .u8 b.toNat) s.length) else none
 | _,_,_=>none
def zi1 (o:Option PV) (K:PV→Prop):Prop :=
 match o with
 | some v=>K v
 | none=>False
def zsi (P:Program) (T:Tab) (S:Store) (c:Callee) (f:PV) (xs:List PV) (ts:List TypeId) (K:PV→Store→Prop):Prop :=
 match c with
 | .builtin .append=>match xs,ts with
  | [x,y],[t,u]=>match yk3 T t u y with
   | some y=>zjg T t S x y K
   | none=>False
  | _,_=>False
 | .builtin .clear=>match xs,ts with
  | [x],[t]=>zto T t S x K
  | _,_=>False
 | .builtin .copy=>match xs,ts with
  | [x,y],[t,_]=>z54 T t S x y K
  | _,_=>False
 | .value _=>match f with
  | .fn g cap=>∃ J,Ev P g (xs++cap) S J∧∀ v S',J v S'→K v S'
  | .bm g b=>∃ J,Ev P g (b::xs) S J∧∀ v S',J v S'→K v S'
  | .yl l=>∃ J,Ey P l xs S J∧∀ v S',J v S'→K v S'
  | _=>False
 | c=>zi1 (zfq T S c xs ts) fun v=>K v S
def pOp (P:Program) (T:Tab) (e:Env) (S:Store) (o:Op) (K:PV→Store→Prop):Prop :=
 match o with
 | .alloc t=>(T t).kd ≠ .none∧K (.ref S.obs.length S.tick 0) (S.push t (T t).size (T t).zero)
 | .box t x=>(T t).kd ≠ .none∧(e.ev x).cells.length=(T t).size∧zb9 (e.ev x).cells∧K (.ref S.obs.length S.tick 0) (S.push t (T t).size (e.ev x).cells)
 | .buildSlice t n parts =>
  match (T t).kd with
  | .slice et =>
   n≤16777216∧n*(T et).size≤16777216 ∧
   match zi0 T (fun i=>some (i*(T et).size,(T et).size)) (repz (T et).zero n) (parts.toList.map fun p=>(p.1,e.ev p.2)) with
   | some cells=>zb9 cells∧K (.loc S.obs.length S.tick 0 n) (S.push et (T et).size cells)
   | none=>False
  | _=>False
 | .makeSlice t l c =>
  match (T t).kd,e.ev l,e.ev c with
  | .slice et,.int _ l,.int _ c=>l=c∧0≤l∧(T et).bytes*l≤281474976710656∧l≤9223372036854775807 ∧
    K (.loc S.obs.length S.tick 0 l.toNat) (S.push et (T et).size (repz (T et).zero l.toNat))
  | _,_,_=>False
 | .makeMap _ r=>r.isNone=true∧K (.mp S.obs.length S.tick) S.pushMap
 | .store t a x =>
  match e.ev a with
  | .ref o ver off =>
   match S.obs[o]? with
   | some (.arr v et sz cells) =>
    v=ver∧(T t).kd ≠ .none∧(e.ev x).cells.length=(T t).size∧off+(T t).size≤cells.length∧zb9 (e.ev x).cells ∧
     K (.tup []) (S.set o (.arr v et sz (spl cells off (e.ev x).cells)))
   | _=>False
  | _=>False
 | .mapUpdate t m k x | .insert t m k x =>
  match (T t).kd,e.ev m with
  | .map kt _,.mp o ver =>
   match S.obs[o]? with
   | some (.map v es) =>
    v=ver∧TK.keyed T kt (e.ev k)=true ∧
     match findKey (e.ev k) es 0 with
     | some (some (i,_))=>K (.tup []) (S.set o (.map v (es.set i (e.ev k,e.ev x))))
     | some none=>K (.tup []) (S.set o (.map v (es++[(e.ev k,e.ev x)])))
     | none=>False
   | _=>False
  | _,_=>False
 | .call c=>zsi P T S c.callee (match c.callee with | .value f=>e.ev f | _ => .undef) (c.args.toList.map e.ev) c.argTypes.toList K
 | o=>zi1 (zd2 T S e o) fun v=>K v S
def gdec (ops:Array Oper) (o:Oper) (e:Env):Option Bool :=
 match o.guard with
 | none=>some true
 | some (j,want) =>
  match (ops[j]?).bind (·.dst) with
  | some d=>match e d with
   | .bool b=>some (b == want)
   | .tup []=>some false
   | _=>none
  | none=>none
def zdw (ops:Array Oper) (o:Oper) (e:Env) (yes:Prop) (no:Prop):Prop :=
 match gdec ops o e with
 | some true=>yes
 | some false=>no
 | none=>False
def yia (P:Program) (T:Tab) (ops:Array Oper) (Q:Env→Store→Prop):List Oper→Env→Store→Prop
 | [],e,S=>Q e S
 | o::r,e,S=>zdw ops o e (pOp P T e S o.op fun v S'=>yia P T ops Q r (e.put o.dst v) S') (yia P T ops Q r (e.put o.dst (.tup [])) S)
def Env.of:List Nat→List PV→Env
 | t::ts,v::vs=>fun i=>if i=t then v else Env.of ts vs i
 | _,_=>fun _ => .undef
def XThen (next:Env→Store→Prop) (Q:Exit→Env→Store→Prop):Exit→Env→Store→Prop
 | .normal,e,S=>next e S
 | x,e,S=>Q x e S
def XBlock (id:Nat) (Q:Exit→Env→Store→Prop):Exit→Env→Store→Prop
 | .exit i,e,S=>if i=id then Q .normal e S else Q (.exit i) e S
 | x,e,S=>Q x e S
section
def TK.fits:TK→TypeDesc→Prop
 | .bool,.bool=>True
 | .int k,.int k'=>k=k'
 | .str,.string=>True
 | .slice e,.slice e'=>e=e'
 | .ptr e,.pointer e'=>e=e'
 | .arr n e,.array n' e'=>n=n'∧e=e'
 | .struct fs,.struct gs=>fs=gs.toList.map fun f=>(f.offset,f.type)
 | .map k v,.map k' v'=>k=k'∧v=v'
 | .func,.func _ _ _=>True
 | .other,d=>∀ fs n e,d ≠ .struct fs∧d ≠ .array n e
 | _,_=>False
def ycm:PV→Value→Bool
 | .int k n,.int k' n'=>k == k' && n == n'
 | .bool a,.bool b=>a == b
 | .str [],.string ⟨⟨[]⟩⟩=>true
 | .nils,.slice none 0 0=>true
 | .nilp,.pointer none=>true
 | .nilf,.nilFunc=>true
 | .nilm,.map none=>true
 | _,_=>false
def eqT (P : Program) (t : TypeId) : Bool := ((P.fieldsOf t).toList.all fun f => f.name != "_") && !P.stoodInHeld t && !P.eqGuardType P.depth t
structure TOk (P:Program) (T:Tab) (t:TypeId):Prop where
 ex:∃ i d z,P.info? t=some i∧P.underlying t=some d∧(T t).kd.fits d∧i.size=(T t).size∧i.bytes=(T t).bytes∧i.zero=some z ∧
  (T t).zero.length=z.cells.size∧z.cells.size=(T t).size∧(∀ (k:Nat) p v,(T t).zero[k]?=some p→z.cells[k]?=some v→ycm p v=true) ∧
  ((T t).kd.isAgg=match z with | .agg _=>true | _=>false)
 sub:match (T t).kd with
  | .slice e | .arr _ e=>(T e).kd ≠ .none
  | .struct fs=>∀ f∈fs,(T f.2).kd ≠ .none
  | .map k v=>(T k).kd ≠ .none∧(T v).kd ≠ .none
  | _=>True
 eqs:match (T t).kd with
  | .struct fs=>zg9 T fs 0=true→eqT P t=true
  | _=>True
def zby (P:Program) (T:Tab):Prop:=∀ t,(T t).kd ≠ .none→TOk P T t
theorem ycm.vi {H:Array Obj} {F:Nat→Prop} {p:PV} {v:Value} (h:ycm p v=true):VI H F p v:=by
 unfold ycm at h
 split at h <;> try (simp only[qB,beq_iff_eq]at h)
 ·obtain ⟨rfl,rfl⟩:=h; exact .int _ _
 ·subst h; exact .bool _
 ·exact .str _ _ rfl
 ·exact .nils
 ·exact .nilp
 ·exact .nilf
 ·exact .nilm
 cases h
theorem ycm.cell {p:PV} {v:Value} (h:ycm p v=true):p.isCell=true:=by
 unfold ycm at h; split at h <;> simp_all [PV.isCell]
theorem z27 {k:TK} {d:TypeDesc} (h:k.fits d):k.isAgg=(match d with | .struct _ | .array _ _=>true | _=>false):=by
 cases k <;> cases d <;> first
  | rfl
  | exact (show False from h).elim
  | exact absurd rfl (h _ 0 0).1
  | exact absurd rfl (h #[] _ _).2
def zfi (H:Array Obj) (F:Nat→Prop) (G:GSt) (e:Env) (a:Act):Prop:=∀ t,VR H F G (e t) (a.tmps.getD t undef)
section
variable {P:Program} {T:Tab} {F:Nat→Prop} {G:GSt} {w:World} {e:Env} {a:Act}
theorem z50 {H:Array Obj} (v:Value):VI H F (zgo v) v:=by
 unfold zgo
 split
 ·exact .int _ _
 ·exact .bool _
 ·exact .str _ _ rfl
 ·exact .nilp
 ·exact .nils
 ·exact .nilf
 ·exact .nilm
 exact .undef _
theorem zfi.ev (h:zfi w.heap F G e a) (x:Operand):VR w.heap F G (e.ev x) (a.eval x):=by
 cases x with
 | tmp t=>exact h t
 | const v=>exact .imm _ _ (z50 v)
 | global g=>exact .imm _ _ (.undef _)
 | func f=>exact .imm _ _ (.fn f [] #[] rfl (by simp))
theorem zfi.put (h:zfi w.heap F G e a) (d:Option Tmp) {v:PV} {cv:Value} (hd:∀ t,d=some t→t<a.tmps.size) (k:VR w.heap F G v cv) :
  zfi w.heap F G (e.put d v) (a.put d cv):=by
 intro t
 cases d with
 | none=>exact h t
 | some d =>
  simp only[Env.put,Act.put]
  by_cases e1:t=d
  ·subst e1
   have:=hd t rfl
   simpa [Array.getElem?_setIfInBounds,this] using k
  rw [if_neg e1]
  have:=h t
  simpa [Array.getElem?_setIfInBounds_ne (Ne.symm e1)] using this
theorem VR.int {k:IntKind} {n:Int} {v:Value} (h:VR w.heap F G (.int k n) v):v = .int k n:=by
 cases h with | imm _ _ h=>cases h; rfl
theorem VR.bool {b:Bool} {v:Value} (h:VR w.heap F G (.bool b) v):v = .bool b:=by
 cases h with | imm _ _ h=>cases h; rfl
theorem VR.str {s:List UInt8} {v:Value} (h:VR w.heap F G (.str s) v):∃ b:ByteArray,v = .string b∧b.data.toList=s:=by
 cases h with | imm _ _ h=>cases h with | str _ b h=>exact ⟨b,rfl,h⟩
theorem VR.agg' {cs:List PV} {v:Value} (h:VR w.heap F G (.agg cs) v):∃ vs:Array Value,v = .agg vs∧cs.length=vs.size∧∀ (i:Nat) p v,cs[i]?=some p→vs[i]?=some v→VR w.heap F G p v:=by
 cases h with
 | imm _ _ h=>cases h with | agg _ vs h1 h2=>exact ⟨vs,rfl,h1,fun i p v a b => .imm _ _ (h2 i p v a b)⟩
 | agg _ vs h1 h2=>exact ⟨vs,rfl,h1,h2⟩
theorem VR.tup' {cs:List PV} {v:Value} (h:VR w.heap F G (.tup cs) v):∃ vs:Array Value,v = .tuple vs∧cs.length=vs.size∧∀ (i:Nat) p v,cs[i]?=some p→vs[i]?=some v→VR w.heap F G p v:=by
 cases h with
 | imm _ _ h=>cases h with | tup _ vs h1 h2=>exact ⟨vs,rfl,h1,fun i p v a b => .imm _ _ (h2 i p v a b)⟩
 | tup _ vs h1 h2=>exact ⟨vs,rfl,h1,h2⟩
theorem Inv.cellsOf (hi:Inv F G w) {o ver:Nat} {cells:List PV} (h:G.er.cellsOf o ver=some cells) :
  ∃ et sz l,G.obs[o]?=some (.arr ver et sz cells,l):=by
 unfold Store.cellsOf at h
 simp only[GSt.er,List.getElem?_map]at h
 cases hx:G.obs[o]? with
 | none=>simp [hx]at h
 | some x =>
  obtain ⟨ob,l⟩:=x
  simp only[hx,qO]at h
  cases ob with
  | map v es=>simp at h
  | lp _ _ _ _=>simp at h
  | arr v et sz cs =>
   simp only at h
   split at h
   ·rename_i e1; subst e1; cases h; exact ⟨et,sz,l,rfl⟩
   cases h
def zdq (H:Array Obj) (F:Nat→Prop) (G:GSt) (b off:Nat) (cs:List PV):Prop :=
 ∀ (i:Nat) p,cs[i]?=some p→p.isCell=true∧∃ v,zhi H b (off+i)=some v∧VR H F G p v
theorem Inv.cellsAt (hi:Inv F G w) {o ver et sz:Nat} {cells:List PV} {l:Lc} (h:G.obs[o]?=some (.arr ver et sz cells,l)) :
  zdq w.heap F G l.blk 0 cells:=by
 obtain ⟨cs,⟨fz,h1,-⟩,h2,h3,h4⟩:=hi.arr o ver et sz cells l h
 intro i p hp
 obtain ⟨h5,v,h6,h7⟩:=h4 i p hp
 exact ⟨h5,v,by simpa [zhi,h1] using h6,h7⟩
theorem zdq.drop {H:Array Obj} {b off:Nat} {cs:List PV} (h:zdq H F G b off cs) (k:Nat):zdq H F G b (off+k) (cs.drop k):=by
 intro i p hp
 rw [List.getElem?_drop]at hp
 have:=h (k+i) p hp
 rwa [← Nat.add_assoc]at this
theorem zdq.take {H:Array Obj} {b off:Nat} {cs:List PV} (h:zdq H F G b off cs) (k:Nat):zdq H F G b off (cs.take k):=by
 intro i p hp
 rw [List.getElem?_take]at hp
 split at hp
 ·exact h i p hp
 cases hp
theorem add_lit (b o i:Nat):(⟨b,o,none⟩:Addr).add i=⟨b,o+i,none⟩:=by unfold Addr.add; split <;> simp_all
theorem zdq.values {H:Array Obj} {b off:Nat} {cs:List PV} (h:zdq H F G b off cs) :
  ∃ vs:List Value,vs.length=cs.length∧(∀ (j:Nat) v,vs[j]?=some v→zhi H b (off+j)=some v)∧(∀ (j:Nat) p v,cs[j]?=some p→vs[j]?=some v→VR H F G p v) ∧
   (∀ v∈vs,v.oneCell'=true):=by
 induction cs generalizing off with
 | nil=>exact ⟨[],rfl,by simp,by simp,by simp⟩
 | cons p cs ih =>
  obtain ⟨hp,v,h1,h2⟩:=h 0 p rfl
  have h':zdq H F G b (off+1) cs:=h.drop 1
  obtain ⟨vs,k1,k2,k3,k4⟩:=ih h'
  refine ⟨v::vs,by simp [k1],?_,?_,?_⟩
  ·rintro (_ | j) u hu
   ·cases hu; exact h1
   have:=k2 j u (by simpa using hu); rwa [Nat.add_assoc,Nat.add_comm 1 j]at this
  ·rintro (_ | j) q u hq hu
   ·cases hq; cases hu; exact h2
   exact k3 j q u (by simpa using hq) (by simpa using hu)
  intro u hu
  rcases List.mem_cons.1 hu with rfl | hu
  ·exact h2.oneCell hp
  exact k4 u hu
theorem zzi (hT:zby P T) {t:TypeId} {b off k:Nat} {cs:List PV} {v:PV} (hc:zdq w.heap F G b off cs) (h:zk2 (T t) cs k=some v) :
  ∃ cv,(loadVar t ⟨b,off+k,none⟩).run P w = .ok cv w∧VR w.heap F G v cv:=by
 unfold zk2 at h
 split at h
 ·cases h
 rename_i hk
 obtain ⟨i,d,z,h1,h2,h3,h4,h5,h6,_⟩:=(hT t hk).ex
 have hag:(isAgg t).run P w = .ok ((T t).kd.isAgg) w:=by
  unfold isAgg
  rw [Sem.run_bind,run_underlying h2 w,z27 h3]
  cases d <;> rfl
 by_cases ha:(T t).kd.isAgg=true
 ·rw [if_pos ha]at h
  split at h
  ·rename_i hl
   cases h
   obtain ⟨vs,k1,k2,k3,_⟩:=((hc.drop k).take (T t).size).values
   have hlen:vs.length=i.size:=by rw [k1,List.length_take,List.length_drop,h4]; omega
   refine ⟨.agg vs.toArray,?_,.agg _ _ (by simp [k1]) (fun j p u hp hu=>k3 j p u hp (by simpa using hu))⟩
   have hr:=run_loadCells_list (P:=P) w ⟨b,off+k,none⟩ vs (fun j u hu=>by rw [add_lit,zgv]; exact k2 j u hu)
   rw [ha]at hag
   simp only[loadVar,Sem.run_bind,hag,Result.andThen_ok,if_true,sizeOf,typeInfo,run_program,h1,Sem.run_pure,← hlen,hr]
  cases h
 have ha':(T t).kd.isAgg=false:=by simpa using ha
 rw [if_neg ha]at h
 obtain ⟨_,cv,k1,k2⟩:=hc k v h
 refine ⟨cv,?_,k2⟩
 rw [ha']at hag
 have hl:(load ⟨b,off+k,none⟩).run P w = .ok cv w:=by
  rw [run_load,zgv,k1]
 simp only[loadVar,Sem.run_bind,hag,Result.andThen_ok,qF,if_false,hl]
theorem VR.ip_at {cs:List PV} {off:Nat} {v:Value} (h:VR w.heap F G (.ip cs off) v) :
  ∃ b base,v = .pointer (some ⟨b,base+off,none⟩)∧zdq w.heap F G b base cs∧∀ off',VR w.heap F G (.ip cs off') (.pointer (some ⟨b,base+off',none⟩)):=by
 cases h with
 | imm _ _ h =>
  cases h with
  | ip _ _ b base g hb hc hv =>
   exact ⟨b,base,rfl,fun i p hp=>⟨(hc i p hp).1,_,(hc i p hp).2,.imm _ _ (hv i p hp)⟩,fun off' => .imm _ _ (.ip cs off' b base g hb hc hv)⟩
theorem VR.sl_at {cs:List PV} {n:Nat} {v:Value} (h:VR w.heap F G (.sl cs n) v) :
  (v = .slice none 0 0∧cs=[]∧n=0) ∨
  ∃ b off cap,v = .slice (some ⟨b,off,none⟩) n cap∧n≤cap∧zdq w.heap F G b off cs∧(∀ k,VR w.heap F G (.ip cs k) (.pointer (some ⟨b,off+k,none⟩))) ∧
   ∀ l m k cap',k≤cap'→VR w.heap F G (.sl ((cs.take m).drop l) k) (.slice (some ⟨b,off+l,none⟩) k cap'):=by
 cases h with
 | imm _ _ h =>
  cases h with
  | sl0=>exact .inl ⟨rfl,rfl,rfl⟩
  | sl _ _ b off cap g hb hn hc hv =>
   refine .inr ⟨b,off,cap,rfl,hn,fun i p hp=>⟨(hc i p hp).1,_,(hc i p hp).2,.imm _ _ (hv i p hp)⟩,fun k => .imm _ _ (.ip cs k b off g hb hc hv),fun l m k cap' hk => .imm _ _ ?_⟩
   refine .sl _ k b (off+l) cap' (fun j=>g (l+j)) (fun hne=>hb (by rintro rfl; simp at hne)) hk (fun i p hp=>?_) (fun i p hp=>?_)
   ·have hq:cs[l+i]?=some p:=by
     rw [List.getElem?_drop,List.getElem?_take]at hp
     split at hp
     ·exact hp
     cases hp
    exact ⟨(hc _ p hq).1,by rw [Nat.add_assoc]; exact (hc _ p hq).2⟩
   have hq:cs[l+i]?=some p:=by
    rw [List.getElem?_drop,List.getElem?_take]at hp
    split at hp
    ·exact hp
    cases hp
   exact hv _ p hq
theorem VR.ref_at (hi:Inv F G w) {o ver off:Nat} {v:Value} {cells:List PV} (h:VR w.heap F G (.ref o ver off) v) (hc:G.er.cellsOf o ver=some cells) :
  ∃ et sz l,G.obs[o]?=some (.arr ver et sz cells,l)∧v = .pointer (some ⟨l.blk,off,none⟩)∧ver<G.tick:=by
 obtain ⟨et,sz,l,ho⟩:=hi.cellsOf hc
 cases h with
 | imm _ _ h=>cases h
 | ref _ _ _ a hv h =>
  obtain ⟨et',sz',cells',_,rfl⟩:=h _ _ ho rfl
  exact ⟨et,sz,l,ho,rfl,hv⟩
theorem VR.loc_at (hi:Inv F G w) {o ver off n:Nat} {v:Value} {cells:List PV} (h:VR w.heap F G (.loc o ver off n) v) (hc:G.er.cellsOf o ver=some cells) :
  ∃ et sz l cap,G.obs[o]?=some (.arr ver et sz cells,l)∧v = .slice (some ⟨l.blk,off,none⟩) n cap∧ver<G.tick∧n≤cap∧cap≤maxLen∧off+cap*sz=l.room:=by
 obtain ⟨et,sz,l,ho⟩:=hi.cellsOf hc
 cases h with
 | imm _ _ h=>cases h
 | loc _ _ _ _ a len cap hv h =>
  obtain ⟨et',sz',cells',h1,rfl,rfl,h2,h3,h4⟩:=h _ _ ho rfl
  cases h1
  exact ⟨et,sz,l,cap,ho,rfl,hv,h2,h3,h4⟩
end
end
section
section
variable {P:Program} {T:Tab} {F:Nat→Prop} {G:GSt} {w:World} {e:Env} {a:Act}
theorem zu6 (hT:zby P T) {t:TypeId} {k:TK} (h:(T t).kd=k) (hk:k ≠ .none):∃ i d,P.info? t=some i∧P.underlying t=some d∧k.fits d∧i.size=(T t).size∧i.bytes=(T t).bytes:=by
 obtain ⟨i,d,z,h1,h2,h3,h4,h5,_⟩:=(hT t (by rw [h]; exact hk)).ex
 exact ⟨i,d,h1,h2,h ▸ h3,h4,h5⟩
theorem zci (hT:zby P T) {t e:TypeId} (h:(T t).kd = .slice e):P.underlying t=some (.slice e):=by
 obtain ⟨i,d,h1,h2,h3,_⟩:=zu6 hT h (by simp)
 cases d <;> first | exact (show False from h3).elim | (obtain rfl:e=_:=h3; exact h2)
theorem zxs (hT:zby P T) {t e:TypeId} {n:Nat} (h:(T t).kd = .arr n e):P.underlying t=some (.array n e):=by
 obtain ⟨i,d,h1,h2,h3,_⟩:=zu6 hT h (by simp)
 cases d <;> first | exact (show False from h3).elim | (obtain ⟨rfl,rfl⟩:n=_∧e=_:=h3; exact h2)
theorem ziw (hT:zby P T) {t:TypeId} (h:(T t).kd = .str):P.underlying t=some .string:=by
 obtain ⟨i,d,h1,h2,h3,_⟩:=zu6 hT h (by simp)
 cases d <;> first | exact (show False from h3).elim | exact h2
theorem yho (hT:zby P T) {t:TypeId} (h:(T t).kd = .bool):P.underlying t=some .bool:=by
 obtain ⟨i,d,h1,h2,h3,_⟩:=zu6 hT h (by simp)
 cases d <;> first | exact (show False from h3).elim | exact h2
theorem zl6 (hT:zby P T) {t:TypeId} {k:IntKind} (h:(T t).kd = .int k):P.underlying t=some (.int k):=by
 obtain ⟨i,d,h1,h2,h3,_⟩:=zu6 hT h (by simp)
 cases d <;> first | exact (show False from h3).elim | (obtain rfl:k=_:=h3; exact h2)
theorem zxt (hT:zby P T) {t e:TypeId} (h:(T t).kd = .ptr e):P.underlying t=some (.pointer e):=by
 obtain ⟨i,d,h1,h2,h3,_⟩:=zu6 hT h (by simp)
 cases d <;> first | exact (show False from h3).elim | (obtain rfl:e=_:=h3; exact h2)
theorem zl7 (hT:zby P T) {t k v:TypeId} (h:(T t).kd = .map k v):P.underlying t=some (.map k v):=by
 obtain ⟨i,d,h1,h2,h3,_⟩:=zu6 hT h (by simp)
 cases d <;> first | exact (show False from h3).elim | (obtain ⟨rfl,rfl⟩:k=_∧v=_:=h3; exact h2)
theorem z1c (hT:zby P T) {t:TypeId} (h:(T t).kd = .func):∃ a b c,P.underlying t=some (.func a b c):=by
 obtain ⟨i,d,h1,h2,h3,_⟩:=zu6 hT h (by simp)
 cases d <;> first | exact (show False from h3).elim | exact ⟨_,_,_,h2⟩
theorem zqx (hT:zby P T) {t:TypeId} {fs:List (Nat × TypeId)} (h:(T t).kd = .struct fs) :
  ∃ gs:Array Field,P.underlying t=some (.struct gs)∧fs=gs.toList.map fun f=>(f.offset,f.type):=by
 obtain ⟨i,d,h1,h2,h3,_⟩:=zu6 hT h (by simp)
 cases d <;> first | exact (show False from h3).elim | exact ⟨_,h2,h3⟩
theorem zch (hT:zby P T) {t:TypeId} (h:(T t).kd ≠ .none) (w:World):(sizeOf t).run P w = .ok (T t).size w:=by
 obtain ⟨i,d,z,h1,h2,h3,h4,_⟩:=(hT t h).ex
 simp [sizeOf,typeInfo,h1,h4]
theorem ztj (hT:zby P T) (hi:Inv F G w) {t:TypeId} {x v:PV} {cx:Value} (hx:VR w.heap F G x cx) (h:zsj (T t) G.er x=some v) :
  ∃ cv,(Instr.loadAt t cx).run P w = .ok cv w∧VR w.heap F G v cv:=by
 unfold zsj at h
 split at h
 ·rename_i cs off
  obtain ⟨b,base,rfl,hc,_⟩:=hx.ip_at
  obtain ⟨cv,h1,h2⟩:=zzi hT hc h
  exact ⟨cv,by simp [Instr.loadAt,Instr.sureAddr,h1],h2⟩
 ·rename_i o ver off
  cases hc:G.er.cellsOf o ver with
  | none=>simp [hc]at h
  | some cells =>
   rw [hc]at h
   obtain ⟨et,sz,l,ho,rfl,_⟩:=hx.ref_at hi hc
   obtain ⟨cv,h1,h2⟩:=zzi hT (hi.cellsAt ho) (by simpa using h)
   rw [Nat.zero_add]at h1
   exact ⟨cv,by simp [Instr.loadAt,Instr.sureAddr,h1],h2⟩
 cases h
theorem zx3 {o ver et sz:Nat} {cells:List PV} {l:Lc} (ho:G.obs[o]?=some (.arr ver et sz cells,l)) (hv:ver<G.tick) (off:Nat) :
  VR w.heap F G (.ref o ver off) (.pointer (some ⟨l.blk,off,none⟩)) :=
 .ref o ver off _ hv fun ob l' h _=>by rw [ho]at h; cases h; exact ⟨et,sz,cells,rfl,rfl⟩
theorem zed (hT:zby P T) {t e:TypeId} (h:(T t).kd = .slice e):(T e).kd ≠ .none:=by
 have:=(hT t (by rw [h]; simp)).sub; rwa [h]at this
theorem zv8 (hT:zby P T) {t e:TypeId} {n:Nat} (h:(T t).kd = .arr n e):(T e).kd ≠ .none:=by
 have:=(hT t (by rw [h]; simp)).sub; rwa [h]at this
theorem zv9 (hT:zby P T) {t k v:TypeId} (h:(T t).kd = .map k v):(T k).kd ≠ .none∧(T v).kd ≠ .none:=by
 have:=(hT t (by rw [h]; simp)).sub; rwa [h]at this
theorem zt9 (hT:zby P T) {t:TypeId} {fs:List (Nat × TypeId)} (h:(T t).kd = .struct fs):∀ f∈fs,(T f.2).kd ≠ .none:=by
 have:=(hT t (by rw [h]; simp)).sub; rwa [h]at this
theorem zqv (hT:zby P T) (hi:Inv F G w) {t:TypeId} {x i v:PV} {cx ci:Value} (hx:VR w.heap F G x cx) (hix:VR w.heap F G i ci)
  (h:zf8 T G.er t x i=some v):∃ cv,(Instr.indexAt t cx ci).run P w = .ok cv w∧VR w.heap F G v cv:=by
 unfold zf8 at h
 split at h
 ·rename_i k n
  obtain rfl:=hix.int
  split at h
  ·rename_i e cs m ht
   split at h
   ·rename_i hb
    cases h
    rcases hx.sl_at with ⟨rfl,rfl,rfl⟩ | ⟨b,off,cap,rfl,hn,hc,hp,_⟩
    ·omega
    exact ⟨.pointer (some ⟨b,off+n.toNat*(T e).size,none⟩),by simp [Instr.indexAt,asIntOf,run_underlying (zci hT ht),zch hT (zed hT ht),hb,add_lit],hp _⟩
   cases h
  ·rename_i e o ver off m ht
   cases hc:G.er.cellsOf o ver with
   | none=>simp [hc]at h
   | some cells =>
    simp only[hc,Option.bind_some]at h
    split at h
    ·rename_i hb
     cases h
     obtain ⟨et,sz,l,cap,ho,rfl,hv,_⟩:=hx.loc_at hi hc
     exact ⟨_,by simp [Instr.indexAt,asIntOf,run_underlying (zci hT ht),zch hT (zed hT ht),hb,add_lit],zx3 ho hv _⟩
    cases h
  ·rename_i m e o ver off ht
   cases hc:G.er.cellsOf o ver with
   | none=>simp [hc]at h
   | some cells =>
    simp only[hc,Option.bind_some]at h
    split at h
    ·rename_i hb
     cases h
     obtain ⟨et,sz,l,ho,rfl,hv⟩:=hx.ref_at hi hc
     exact ⟨_,by simp [Instr.indexAt,Instr.sureAddr,asIntOf,run_underlying (zxs hT ht),zch hT (zv8 hT ht),hb,add_lit],zx3 ho hv _⟩
    cases h
  ·rename_i m e cs off ht
   split at h
   ·rename_i hb
    cases h
    obtain ⟨b,base,rfl,_,hp⟩:=hx.ip_at
    exact ⟨_,by simp [Instr.indexAt,Instr.sureAddr,asIntOf,run_underlying (zxs hT ht),zch hT (zv8 hT ht),hb,add_lit]; rfl,by rw [Nat.add_assoc]; exact hp _⟩
   cases h
  cases h
 cases h
theorem zqn (hT:zby P T) (hi:Inv F G w) {t:TypeId} {x v:PV} {f:Nat} {cx:Value} (hx:VR w.heap F G x cx)
  (h:zf7 T G.er t x f=some v):∃ cv,(Instr.fieldAt t cx f).run P w = .ok cv w∧VR w.heap F G v cv:=by
 unfold zf7 at h
 split at h
 ·rename_i fs ht
  obtain ⟨gs,hu,rfl⟩:=zqx hT ht
  have key:∀ (fo ft:Nat),(gs.toList.map fun f=>(f.offset,f.type))[f]?=some (fo,ft)→∃ fd:Field,gs[f]?=some fd∧fd.offset=fo∧fd.type=ft:=by
   intro fo ft hf
   rw [List.getElem?_map]at hf
   cases hg:gs[f]? with
   | none=>simp [hg]at hf
   | some fd=>simp [hg]at hf; exact ⟨fd,rfl,hf.1,hf.2⟩
  have known:∀ (fo ft:Nat),(gs.toList.map fun f=>(f.offset,f.type))[f]?=some (fo,ft)→(T ft).kd ≠ .none:=fun fo ft hf=>zt9 hT ht _ (List.mem_of_getElem? hf)
  split at h
  ·rename_i fo ft cs off hf
   split at h
   ·cases h
   rename_i hz
   cases h
   obtain ⟨fd,hg,rfl,rfl⟩:=key _ _ hf
   obtain ⟨b,base,rfl,_,hp⟩:=hx.ip_at
   exact ⟨_,by simp [Instr.fieldAt,Instr.sureAddr,fieldPlace,run_underlying hu,hg,zch hT (known _ _ hf),hz,add_lit]; rfl,by rw [Nat.add_assoc]; exact hp _⟩
  ·rename_i fo ft o ver off hf
   split at h
   ·cases h
   rename_i hz
   cases hc:G.er.cellsOf o ver with
   | none=>simp [hc]at h
   | some cells =>
    simp only[hc,qO]at h
    cases h
    obtain ⟨fd,hg,rfl,rfl⟩:=key _ _ hf
    obtain ⟨et,sz,l,ho,rfl,hv⟩:=hx.ref_at hi hc
    exact ⟨_,by simp [Instr.fieldAt,Instr.sureAddr,fieldPlace,run_underlying hu,hg,zch hT (known _ _ hf),hz,add_lit],zx3 ho hv _⟩
  cases h
 cases h
theorem zzj (hT:zby P T) {t:TypeId} (h:(T t).kd ≠ .none) (w:World):(isAgg t).run P w = .ok ((T t).kd.isAgg) w:=by
 obtain ⟨i,d,z,h1,h2,h3,h4,h5,h6,_⟩:=(hT t h).ex
 unfold isAgg
 rw [Sem.run_bind,run_underlying h2 w,z27 h3]
 cases d <;> rfl
theorem zj4 (hT:zby P T) {t:TypeId} {cs:List PV} {vs:Array Value} {off:Nat} {v:PV} (hl:cs.length=vs.size)
  (hv:∀ (i:Nat) p v,cs[i]?=some p→vs[i]?=some v→VR w.heap F G p v) (h:zk2 (T t) cs off=some v) :
  ∃ cv,(part t vs off).run P w = .ok cv w∧VR w.heap F G v cv:=by
 unfold zk2 at h
 split at h
 ·cases h
 rename_i hk
 by_cases ha:(T t).kd.isAgg=true
 ·rw [if_pos ha]at h
  split at h
  ·rename_i hle
   cases h
   refine ⟨.agg (vs.extract off (off+(T t).size)),by simp [part,zzj hT hk,ha,zch hT hk],.agg _ _ (by simp; omega) fun j p u hp hu=>?_⟩
   rw [List.getElem?_take]at hp
   rw [Array.getElem?_extract]at hu
   split at hp
   ·rw [List.getElem?_drop]at hp
    split at hu
    ·exact hv _ p u hp hu
    cases hu
   cases hp
  cases h
 have ha':(T t).kd.isAgg=false:=by simpa using ha
 rw [if_neg ha]at h
 have hlt:off<vs.size:=by
  rw [← hl]; exact (List.getElem?_eq_some_iff.1 h).1
 exact ⟨vs[off],by simp [part,zzj hT hk,ha',hlt],hv off v _ h (by simp [hlt])⟩
theorem z0w (hT:zby P T) {t:TypeId} {x v:PV} {f:Nat} {cx:Value} (hx:VR w.heap F G x cx)
  (h:zyi T t x f=some v):∃ cv,(Instr.field t cx f).run P w = .ok cv w∧VR w.heap F G v cv:=by
 unfold zyi at h
 split at h
 ·rename_i fs cs ht
  obtain ⟨gs,hu,rfl⟩:=zqx hT ht
  split at h
  ·rename_i fo ft hf
   rw [List.getElem?_map]at hf
   cases hg:gs.toList[f]? with
   | none=>simp [hg]at hf
   | some fd =>
    simp only[hg,qO,Option.some.injEq,Prod.mk.injEq]at hf
    obtain ⟨rfl,rfl⟩:=hf
    obtain ⟨vs,rfl,hl,hv⟩:=hx.agg'
    obtain ⟨cv,h1,h2⟩:=zj4 hT hl hv h
    have hg':gs[f]?=some fd:=by simpa using hg
    exact ⟨cv,by simp [Instr.field,run_underlying hu,hg',asAgg,h1],h2⟩
  cases h
 cases h
theorem z1a (hT:zby P T) {t:TypeId} {x i v:PV} {cx ci:Value} (hx:VR w.heap F G x cx) (hix:VR w.heap F G i ci)
  (h:zyl T t x i=some v):∃ cv,(Instr.index t cx ci).run P w = .ok cv w∧VR w.heap F G v cv:=by
 unfold zyl at h
 split at h
 ·rename_i k n
  obtain rfl:=hix.int
  split at h
  ·rename_i s ht
   split at h
   ·rename_i h0
    obtain ⟨b,rfl,rfl⟩:=hx.str
    cases hc:b.data.toList[n.toNat]? with
    | none=>simp [hc]at h
    | some c =>
     simp only[hc,qO]at h
     cases h
     have hlt:n.toNat<b.size:=by
      have:=(List.getElem?_eq_some_iff.1 hc).1
      simpa using this
     have hb:b[n.toNat]?=some c:=by
      rw [getElem?_pos b n.toNat hlt]
      have h2:=(List.getElem?_eq_some_iff.1 hc).2
      rw [← h2]
      simp; rfl
     exact ⟨_,by simp [Instr.index,asIntOf,run_underlying (ziw hT ht),h0,hb],.imm _ _ (.int _ _)⟩
   cases h
  ·rename_i m e cs ht
   split at h
   ·rename_i hb
    obtain ⟨vs,rfl,hl,hv⟩:=hx.agg'
    obtain ⟨cv,h1,h2⟩:=zj4 hT hl hv h
    exact ⟨cv,by simp [Instr.index,asIntOf,run_underlying (zxs hT ht),zch hT (zv8 hT ht),hb,h1],h2⟩
   cases h
  cases h
 cases h
theorem z0f {op:BinOp} {k:IntKind} {x y:Int} {v:PV} (hop:op ≠ .shl∧op ≠ .shr) (h:zyd op k x y=some v) (t:TypeId) :
  ∃ cv,(binOp op t (.int k x) (.int k y)).run P w = .ok cv w∧VR w.heap F G v cv:=by
 cases op <;> simp only[zyd]at h
 case shl=>exact absurd rfl hop.1
 case shr=>exact absurd rfl hop.2
 case quo =>
  split at h
  ·cases h
  rename_i hz; cases h; exact ⟨.int k (k.wrap (x.tdiv y)),by simp [binOp,Op.intDiv,hz],.imm _ _ (.int _ _)⟩
 case rem =>
  split at h
  ·cases h
  rename_i hz; cases h; exact ⟨.int k (x.tmod y),by simp [binOp,Op.intDiv,hz],.imm _ _ (.int _ _)⟩
 case add=>cases h; exact ⟨_,by simp [binOp,Op.intArith],.imm _ _ (.int _ _)⟩
 case sub=>cases h; exact ⟨_,by simp [binOp,Op.intArith],.imm _ _ (.int _ _)⟩
 case mul=>cases h; exact ⟨_,by simp [binOp,Op.intArith],.imm _ _ (.int _ _)⟩
 case and=>cases h; exact ⟨_,by simp [binOp,Op.intBits],.imm _ _ (.int _ _)⟩
 case or=>cases h; exact ⟨_,by simp [binOp,Op.intBits],.imm _ _ (.int _ _)⟩
 case xor=>cases h; exact ⟨_,by simp [binOp,Op.intBits],.imm _ _ (.int _ _)⟩
 case eql=>cases h; exact ⟨_,by simp [binOp,Op.intCmp],.imm _ _ (.bool _)⟩
 case neq=>cases h; exact ⟨_,by simp [binOp,Op.intCmp],.imm _ _ (.bool _)⟩
 case lss=>cases h; exact ⟨_,by simp [binOp,Op.intCmp],.imm _ _ (.bool _)⟩
 case leq=>cases h; exact ⟨_,by simp [binOp,Op.intCmp],.imm _ _ (.bool _)⟩
 case gtr=>cases h; exact ⟨_,by simp [binOp,Op.intCmp],.imm _ _ (.bool _)⟩
 case geq=>cases h; exact ⟨_,by simp [binOp,Op.intCmp],.imm _ _ (.bool _)⟩
 all_goals cases h
theorem zr2 {op:BinOp} {k k':IntKind} {x y:Int} {v:PV} (hop:op = .shl∨op = .shr) (h:z31 op k x y=some v) (t:TypeId) :
  ∃ cv,(binOp op t (.int k x) (.int k' y)).run P w = .ok cv w∧VR w.heap F G v cv:=by
 unfold z31 at h
 split at h
 ·cases h
 rename_i hy
 rcases hop with rfl | rfl
 ·simp only at h; cases h; exact ⟨_,by simp [binOp,Op.shift,hy],.imm _ _ (.int _ _)⟩
 simp only at h; cases h; exact ⟨_,by simp [binOp,Op.shift,hy],.imm _ _ (.int _ _)⟩
theorem ybq {op:BinOp} {x y:ByteArray} {v:PV} (h:yck op x.data.toList y.data.toList=some v) (t:TypeId) :
  ∃ cv,(binOp op t (.string x) (.string y)).run P w = .ok cv w∧VR w.heap F G v cv:=by
 cases op <;> simp only[yck]at h
 case add =>
  split at h
  ·rename_i hlen
   cases h
   have h1:x.size=x.data.toList.length:=by simp
   have h2:y.size=y.data.toList.length:=by simp
   refine ⟨.string (x++y),?_,.imm _ _ (.str _ _ (by simp))⟩
   simp [binOp,Op.stringOp]
   omega
  cases h
 case eql=>cases h; exact ⟨_,by simp [binOp,Op.stringOp,Lib.toList_data],.imm _ _ (.bool _)⟩
 case neq=>cases h; exact ⟨_,by simp [binOp,Op.stringOp,Lib.toList_data],.imm _ _ (.bool _)⟩
 all_goals cases h
theorem zk1 {op:BinOp} {t:TypeId} {cx cy:Value} {b:Bool} (x' y':Operand) (hop:op = .eql∨op = .neq)
  (hg:(eqGuard op t x' y' cx cy).run P w = .ok () w) (hb:binOp .eql t cx cy=(do pure (.bool (← Op.equal t cx cy)))) (hn:binOp .neq t cx cy=(do pure (.bool (!(← Op.equal t cx cy)))))
  (h:(Op.equal t cx cy).run P w = .ok b w) :
  (do eqGuard op t x' y' cx cy; binOp op t cx cy:Sem Value).run P w = .ok (.bool (if op = .eql then b else !b)) w:=by
 rcases hop with rfl | rfl
 ·rw [Sem.run_bind,hg,Result.andThen_ok,hb,Sem.run_bind,h]; rfl
 rw [Sem.run_bind,hg,Result.andThen_ok,hn,Sem.run_bind,h]; rfl
theorem zdm {b:Bool} (t:TypeId) (x y:Value) (hd:∀ d,(Op.equalIn (d+1) t x y).run P w = .ok b w):(Op.equal t x y).run P w = .ok b w:=hd 9999
theorem zns:∀ {cs:List PV} {l:List (IntKind × Int)},zqw cs=some l→cs.length=l.length∧∀ (i:Nat) k n,l[i]?=some (k,n)→cs[i]?=some (.int k n)
 | [],l,h=>by simp only[zqw]at h; cases h; simp
 | c::cs,l,h=>by
  cases c <;> simp only[zqw]at h <;> try (cases h; done)
  rename_i k n
  rw [qI]at h
  obtain ⟨l',h1,rfl⟩:=h
  obtain ⟨e1,e2⟩:=zns h1
  refine ⟨by simp [e1],fun i k' n' hi=>?_⟩
  cases i with
  | zero=>simp at hi ⊢; exact hi
  | succ i=>simp at hi ⊢; exact e2 i k' n' hi
theorem zl0 (hT:zby P T) {ca cb:List PV} {xs ys:Array Value} (hla:ca.length=xs.size) (hlb:cb.length=ys.size)
  (hxa:∀ (i:Nat) p v,ca[i]?=some p→xs[i]?=some v→VR w.heap F G p v) (hxb:∀ (i:Nat) p v,cb[i]?=some p→ys[i]?=some v→VR w.heap F G p v) (d:Nat) :
  ∀ (fs : List Field) (l m : List (IntKind × Int)) (i : Nat), (∀ f ∈ fs, f.name ≠ "_") → zg9 T (fs.map fun f => (f.offset, f.type)) i = true → fs.length = l.length → fs.length = m.length →
   l.map (·.1)=m.map (·.1)→(∀ (j:Nat) k n,l[j]?=some (k,n)→ca[i+j]?=some (.int k n))→(∀ (j:Nat) k n,m[j]?=some (k,n)→cb[i+j]?=some (.int k n)) →
   (Op.eqFields (d+1) xs ys fs).run P w = .ok (decide (l=m)) w
 | [],[],[],i,_,_,_,_,_,_,_=>by simp [Op.eqFields]
 | f::fs,(k,n)::l,(k',n')::m,i,hn,hf,hl,hm,hk,h1,h2=>by
  simp only[List.map_cons,zg9,qB,beq_iff_eq]at hf
  obtain ⟨⟨ho,ht⟩,hf⟩:=hf
  simp only[List.map_cons,List.cons.injEq]at hk
  obtain ⟨rfl,hk⟩:=hk
  cases hq:(T f.type).kd with
  | int q =>
   have ha:zk2 (T f.type) ca i=some (.int k n):=by rw [zk2,hq]; simpa [TK.isAgg] using h1 0 k n rfl
   have hb:zk2 (T f.type) cb i=some (.int k n'):=by rw [zk2,hq]; simpa [TK.isAgg] using h2 0 k n' rfl
   obtain ⟨cv,r1,v1⟩:=zj4 hT hla hxa ha
   obtain ⟨cw,r2,v2⟩:=zj4 hT hlb hxb hb
   obtain rfl:=v1.int
   obtain rfl:=v2.int
   have ih:=zl0 hT hla hlb hxa hxb d fs l m (i+1) (fun g hg=>hn g (by simp [hg])) hf (by simpa using hl) (by simpa using hm) hk
    (fun j k n hj=>by rw [show i+1+j=i+(j+1) by omega]; exact h1 (j+1) k n (by simpa using hj)) (fun j k n hj=>by rw [show i+1+j=i+(j+1) by omega]; exact h2 (j+1) k n (by simpa using hj))
   simp only[Op.eqFields,hn f (by simp),ne_eq,not_false_eq_true,if_true,ho,Sem.run_bind,r1,r2,Result.andThen_ok,run_equalIn_int w d f.type k q n n' (zl6 hT hq)]
   by_cases e:n=n'
   ·subst e; simp [ih]
   simp [e]
  | _=>rw [hq]at ht; simp at ht
 | [],_::_,_,_,_,_,hl,_,_,_,_=>by simp at hl
 | [],[],_::_,_,_,_,_,hm,_,_,_=>by simp at hm
 | _::_,[],_,_,_,_,hl,_,_,_,_=>by simp at hl
 | _::_,_::_,[],_,_,_,_,hm,_,_,_=>by simp at hm
theorem z21 (hT:zby P T) (hi:Inv F G w) {op:BinOp} {t:TypeId} {x y:PV} {b:Bool} {cx cy:Value} (x' y':Operand) (hop:op = .eql∨op = .neq)
  (hx:VR w.heap F G x cx) (hy:VR w.heap F G y cy) (h:pEq T G.er t x y=some b) :
  (do eqGuard op t x' y' cx cy; binOp op t cx cy:Sem Value).run P w = .ok (.bool (if op = .eql then b else !b)) w:=by
 have hguard:∀ cx cy:Value,(match cx,cy with | .nilIface,.nilIface=>false | .agg _,.agg _=>false | _,_=>true)=true→(eqGuard op t x' y' cx cy).run P w = .ok () w:=by
  intro cx cy hc
  unfold eqGuard
  rcases hop with rfl | rfl <;> cases cx <;> cases cy <;> first | rfl | (simp at hc; done)
 unfold pEq at h
 split at h
 ·rename_i a b' ht
  cases h
  obtain rfl:=hx.bool
  obtain rfl:=hy.bool
  exact zk1 x' y' hop (hguard _ _ rfl) rfl rfl (zdm _ _ _ fun d=>by simp [Op.equalIn,run_underlying (yho hT ht)])
 ·rename_i e ht
  cases h
  cases hx with | imm _ _ hx=>cases hx with | nilp =>
  cases hy with | imm _ _ hy=>cases hy with | nilp =>
  exact zk1 x' y' hop (hguard _ _ rfl) rfl rfl (zdm _ _ _ fun d=>by simp [Op.equalIn,run_underlying (zxt hT ht)])
 ·rename_i e cs off ht
  cases h
  cases hx with | imm _ _ hx=>cases hx with | nilp =>
  obtain ⟨b,base,rfl,_⟩:=hy.ip_at
  exact zk1 x' y' hop (hguard _ _ rfl) rfl rfl (zdm _ _ _ fun d=>by simp [Op.equalIn,run_underlying (zxt hT ht)])
 ·rename_i e cs off ht
  cases h
  cases hy with | imm _ _ hy=>cases hy with | nilp =>
  obtain ⟨b,base,rfl,_⟩:=hx.ip_at
  exact zk1 x' y' hop (hguard _ _ rfl) rfl rfl (zdm _ _ _ fun d=>by simp [Op.equalIn,run_underlying (zxt hT ht)])
 ·rename_i e o ver off ht
  cases hc:G.er.cellsOf o ver with
  | none=>simp [hc]at h
  | some cells =>
   simp only[hc,qO]at h
   cases h
   cases hx with | imm _ _ hx=>cases hx with | nilp =>
   obtain ⟨et,sz,l,ho,rfl,hv⟩:=hy.ref_at hi hc
   exact zk1 x' y' hop (hguard _ _ rfl) rfl rfl (zdm _ _ _ fun d=>by simp [Op.equalIn,run_underlying (zxt hT ht)])
 ·rename_i e o ver off ht
  cases hc:G.er.cellsOf o ver with
  | none=>simp [hc]at h
  | some cells =>
   simp only[hc,qO]at h
   cases h
   cases hy with | imm _ _ hy=>cases hy with | nilp =>
   obtain ⟨et,sz,l,ho,rfl,hv⟩:=hx.ref_at hi hc
   exact zk1 x' y' hop (hguard _ _ rfl) rfl rfl (zdm _ _ _ fun d=>by simp [Op.equalIn,run_underlying (zxt hT ht)])
 ·rename_i e ht
  cases h
  cases hx with | imm _ _ hx=>cases hx with | nils =>
  cases hy with | imm _ _ hy=>cases hy with | nils =>
  exact zk1 x' y' hop (hguard _ _ rfl) rfl rfl (zdm _ _ _ fun d=>by simp [Op.equalIn,run_underlying (zci hT ht)])
 ·rename_i e o ver off n ht
  cases hc:G.er.cellsOf o ver with
  | none=>simp [hc]at h
  | some cells =>
   simp only[hc,qO]at h
   cases h
   cases hy with | imm _ _ hy=>cases hy with | nils =>
   obtain ⟨et,sz,l,cap,ho,rfl,hv,_⟩:=hx.loc_at hi hc
   exact zk1 x' y' hop (hguard _ _ rfl) rfl rfl (zdm _ _ _ fun d=>by simp [Op.equalIn,run_underlying (zci hT ht)])
 ·rename_i e cs n ht
  split at h
  ·cases h
  rename_i hn
  cases h
  cases hy with | imm _ _ hy=>cases hy with | nils =>
  cases hx with | imm _ _ hx =>
  cases hx with
  | sl0=>exact absurd rfl hn
  | sl _ _ b off cap g=>exact zk1 x' y' hop (hguard _ _ rfl) rfl rfl (zdm _ _ _ fun d=>by simp [Op.equalIn,run_underlying (zci hT ht)])
 ·rename_i ht
  cases h
  obtain ⟨a,b,c,hu⟩:=z1c hT ht
  cases hx with | imm _ _ hx=>cases hx with | nilf =>
  cases hy with | imm _ _ hy=>cases hy with | nilf =>
  exact zk1 x' y' hop (hguard _ _ rfl) rfl rfl (zdm _ _ _ fun d=>by simp [Op.equalIn,run_underlying hu])
 ·rename_i ht
  cases h
  obtain ⟨a,b,c,hu⟩:=z1c hT ht
  cases hy with | imm _ _ hy=>cases hy with | nilf =>
  cases hx with
  | imm _ _ hx=>cases hx with | fn=>exact zk1 x' y' hop (hguard _ _ rfl) rfl rfl (zdm _ _ _ fun d=>by simp [Op.equalIn,run_underlying hu])
  | fn=>exact zk1 x' y' hop (hguard _ _ rfl) rfl rfl (zdm _ _ _ fun d=>by simp [Op.equalIn,run_underlying hu])
 ·rename_i ht
  cases h
  obtain ⟨a,b,c,hu⟩:=z1c hT ht
  cases hx with | imm _ _ hx=>cases hx with | nilf =>
  cases hy with
  | imm _ _ hy=>cases hy with | fn=>exact zk1 x' y' hop (hguard _ _ rfl) rfl rfl (zdm _ _ _ fun d=>by simp [Op.equalIn,run_underlying hu])
  | fn=>exact zk1 x' y' hop (hguard _ _ rfl) rfl rfl (zdm _ _ _ fun d=>by simp [Op.equalIn,run_underlying hu])
 ·rename_i fs la lb ht
  split at h
  ·rename_i hf
   split at h
   ·rename_i l m hl hm
    split at h
    ·rename_i hc
     cases h
     obtain ⟨c1,c2,c3⟩:=hc
     obtain ⟨xs,rfl,x1,x2⟩:=hx.agg'
     obtain ⟨ys,rfl,y1,y2⟩:=hy.agg'
     obtain ⟨a1,a2⟩:=zns hl
     obtain ⟨b1,b2⟩:=zns hm
     have hok:=hT t (by rw [ht]; simp)
     have he:=hok.eqs
     rw [ht]at he
     have he:=he hf
     simp only[eqT,qB,Bool.not_eq_true',List.all_eq_true,bne_iff_ne]at he
     obtain ⟨⟨e1,e2⟩,e3⟩:=he
     obtain ⟨inf,dd,z,g1,g2,g3,_⟩:=hok.ex
     rw [ht]at g3
     cases dd <;> try exact (show False from g3).elim
     rename_i gs
     have g3:fs=gs.toList.map fun f=>(f.offset,f.type):=g3
     have hfo:P.fieldsOf t=gs:=by simp [Program.fieldsOf,g2]
     rw [hfo]at e1
     have hg:(eqGuard op t x' y' (.agg xs) (.agg ys)).run P w = .ok () w:=run_eqGuard_agg w op t x' y' xs ys e3
     have hr:(Op.equal t (.agg xs) (.agg ys)).run P w = .ok (decide (l=m)) w:=by
      show (Op.equalIn (9998+1+1) t (.agg xs) (.agg ys)).run P w=_
      rw [run_equalIn_struct w (9998+1) t xs ys (by rw [hfo]; exact g2) e2,hfo]
      rw [g3]at hf c1 c2
      simp only[List.length_map]at c1 c2
      exact zl0 hT x1 y1 x2 y2 9998 gs.toList l m 0 e1 hf (by omega) (by omega) c3 (fun j k n hj=>by rw [Nat.zero_add]; exact a2 j k n hj) (fun j k n hj=>by rw [Nat.zero_add]; exact b2 j k n hj)
     exact zk1 x' y' hop hg rfl rfl hr
    cases h
   cases h
  cases h
 cases h
end
end
section
section
variable {P:Program} {T:Tab} {F:Nat→Prop} {G:GSt} {w:World} {e:Env} {a:Act}
theorem z7f (hT:zby P T) (hi:Inv F G w) {op:BinOp} {t:TypeId} {x y v:PV} {cx cy:Value} (x' y':Operand)
  (hx:VR w.heap F G x cx) (hy:VR w.heap F G y cy) (h:yje T G.er op t x y=some v) :
  ∃ cv,(do eqGuard op t x' y' cx cy; binOp op t cx cy:Sem Value).run P w = .ok cv w∧VR w.heap F G v cv:=by
 unfold yje at h
 split at h
 ·rename_i k m k' n
  obtain rfl:=hx.int
  obtain rfl:=hy.int
  have hg:(eqGuard op t x' y' (.int k m) (.int k' n)).run P w = .ok () w:=by
   unfold eqGuard; cases op <;> rfl
  rw [Sem.run_bind,hg,Result.andThen_ok]
  split at h
  ·exact zr2 (.inl rfl) h t
  ·exact zr2 (.inr rfl) h t
  rename_i h1 h2
  split at h
  ·rename_i hk
   subst hk
   exact z0f ⟨fun e=>h1 e,fun e=>h2 e⟩ h t
  cases h
 ·rename_i s1 s2
  obtain ⟨b1,rfl,rfl⟩:=hx.str
  obtain ⟨b2,rfl,rfl⟩:=hy.str
  have hg:(eqGuard op t x' y' (.string b1) (.string b2)).run P w = .ok () w:=by
   unfold eqGuard; cases op <;> rfl
  rw [Sem.run_bind,hg,Result.andThen_ok]
  exact ybq h t
 split at h
 ·cases hq:pEq T G.er t x y with
  | none=>simp [hq]at h
  | some b =>
   simp only[hq,qO]at h
   cases h
   exact ⟨_,z21 hT hi x' y' (.inl rfl) hx hy hq,.imm _ _ (.bool _)⟩
 ·cases hq:pEq T G.er t x y with
  | none=>simp [hq]at h
  | some b =>
   simp only[hq,qO]at h
   cases h
   exact ⟨_,z21 hT hi x' y' (.inr rfl) hx hy hq,.imm _ _ (.bool _)⟩
 cases h
theorem ye1 {op:UnOp} {x v:PV} {cx:Value} (hx:VR w.heap F G x cx) (h:pUn op x=some v) :
  ∃ cv,(Op.unary op cx).run P w = .ok cv w∧VR w.heap F G v cv:=by
 unfold pUn at h
 split at h
 ·cases h; obtain rfl:=hx.int
  exact ⟨_,by simp [Op.unary,Op.intArith],.imm _ _ (.int _ _)⟩
 ·cases h; obtain rfl:=hx.bool
  exact ⟨_,by simp [Op.unary],.imm _ _ (.bool _)⟩
 cases h
theorem zgr (hi:Inv F G w) {sz n:Nat} {x:PV} {cs:List PV} {cx:Value} (hx:VR w.heap F G x cx) (h:zc1 G.er sz x=some (n,cs)) :
  cs.length=n*sz∧((cx = .slice none 0 0∧n=0)∨∃ b off cap,cx = .slice (some ⟨b,off,none⟩) n cap∧n≤cap∧zdq w.heap F G b off cs):=by
 unfold zc1 at h
 split at h
 ·cases h
  cases hx with | imm _ _ hx=>cases hx with | nils=>exact ⟨by simp,.inl ⟨rfl,rfl⟩⟩
 ·rename_i cs' m
  split at h
  ·rename_i hl
   cases h
   rcases hx.sl_at with ⟨rfl,rfl,rfl⟩ | ⟨b,off,cap,rfl,hn,hc,_⟩
   ·exact ⟨hl,.inl ⟨rfl,rfl⟩⟩
   exact ⟨hl,.inr ⟨b,off,cap,rfl,hn,hc⟩⟩
  cases h
 ·rename_i o ver off m
  cases hc:G.er.cellsOf o ver with
  | none=>simp [hc]at h
  | some cells =>
   simp only[hc,Option.bind_some]at h
   split at h
   ·rename_i hl
    cases h
    obtain ⟨et,sz',l,cap,ho,rfl,hv,hn,_⟩:=hx.loc_at hi hc
    refine ⟨by simp; omega,.inr ⟨l.blk,off,cap,rfl,hn,?_⟩⟩
    have:=((hi.cellsAt ho).drop off).take (n*sz)
    rwa [Nat.zero_add]at this
   cases h
 cases h
theorem z0i {b off:Nat} {cs:List PV} {bs:List UInt8} (hc:zdq w.heap F G b off cs) (h:zg6 cs=some bs) :
  ∃ ns:List Int,ns.length=cs.length∧(∀ (j:Nat) n,ns[j]?=some n→zhi w.heap b (off+j)=some (.int .u8 n))∧bs=ns.map fun n=>UInt8.ofNat n.toNat:=by
 induction cs generalizing off bs with
 | nil=>simp [zg6]at h; subst h; exact ⟨[],rfl,by simp,rfl⟩
 | cons p cs ih =>
  unfold zg6 at h
  split at h
  ·rename_i heq; cases heq
  ·rename_i n r heq
   cases heq
   cases hr:zg6 cs with
   | none=>simp [hr]at h
   | some bs' =>
    simp only[hr,qO]at h
    cases h
    obtain ⟨_,v,h1,h2⟩:=hc 0 _ rfl
    obtain rfl:=h2.int
    obtain ⟨ns,k1,k2,k3⟩:=ih (hc.drop 1) hr
    refine ⟨n::ns,by simp [k1],?_,by simp [k3]⟩
    rintro (_ | j) m hm
    ·cases hm; exact h1
    have:=k2 j m (by simpa using hm); rwa [Nat.add_assoc,Nat.add_comm 1 j]at this
  cases h
theorem zuq (hT:zby P T) (hi:Inv F G w) {s d:TypeId} {x v:PV} {cx:Value} (hx:VR w.heap F G x cx) (hnb:∀ e,(T d).kd ≠ .slice e) (h:zj3 T G.er s d x=some v) :
  ∃ cv,(convert s d cx).run P w = .ok cv w∧VR w.heap F G v cv:=by
 unfold zj3 at h
 split at h
 ·rename_i q k q' n hs hd
  cases h; obtain rfl:=hx.int
  exact ⟨_,by simp [convert,run_underlying (zl6 hT hs),run_underlying (zl6 hT hd),Conv.intToInt],.imm _ _ (.int _ _)⟩
 ·rename_i q q' n hs hd
  cases h; obtain rfl:=hx.int
  exact ⟨_,by simp [convert,run_underlying (zl6 hT hs),run_underlying (ziw hT hd),Conv.intToString],.imm _ _ (.str _ _ rfl)⟩
 ·rename_i t hs hd
  cases h
  obtain ⟨b,rfl,hb⟩:=hx.str
  exact ⟨.string b,by simp [convert,run_underlying (ziw hT hs),run_underlying (ziw hT hd)],.imm _ _ (.str _ _ hb)⟩
 ·rename_i x' _ _ _ e hs hd
  split at h
  ·rename_i he
   cases hc:zc1 G.er 1 x' with
   | none=>simp [hc]at h
   | some q =>
    obtain ⟨n,cs⟩:=q
    simp only[hc,Option.bind_some]at h
    cases hb:zg6 cs with
    | none=>simp [hb]at h
    | some bs =>
     simp only[hb,qO]at h
     cases h
     obtain ⟨hl,h2⟩:=zgr hi hx hc
     rcases h2 with ⟨rfl,rfl⟩ | ⟨b,off,cap,rfl,hn,hcs⟩
     ·rw [run_convert_bytes_string w s d e _ _ _ (zci hT hs) (zl6 hT he) (ziw hT hd)]
      refine ⟨.string .empty,by simp [Conv.bytesToString],.imm _ _ (.str _ _ ?_)⟩
      have:cs=[]:=List.eq_nil_of_length_eq_zero (by omega)
      subst this
      simp [zg6]at hb
      subst hb
      rfl
     rw [run_convert_bytes_string w s d e _ _ _ (zci hT hs) (zl6 hT he) (ziw hT hd)]
     obtain ⟨ns,k1,k2,rfl⟩:=z0i hcs hb
     have hl2:(ns.map (Value.int .u8)).length=n:=by simp [k1,hl]
     have hr:=run_loadCells_list (P:=P) w ⟨b,off,none⟩ (ns.map (Value.int .u8)) (fun j u hu=>by
      rw [List.getElem?_map]at hu
      cases hj:ns[j]? with
      | none=>simp [hj]at hu
      | some m=>simp [hj]at hu; subst hu; rw [add_lit,zgv]; exact k2 j m hj)
     rw [hl2]at hr
     rw [run_bytesToString w _ n cap ns hr]
     refine ⟨_,rfl,.imm _ _ (.str _ _ ?_)⟩
     have:∀ (ms:List Int) (acc:ByteArray),(ms.foldl (fun r n=>r.push (UInt8.ofNat n.toNat)) acc).data.toList=acc.data.toList++ms.map fun n=>UInt8.ofNat n.toNat:=by
      intro ms
      induction ms with
      | nil=>intro acc; simp
      | cons m ms ih=>intro acc; rw [List.foldl_cons,ih]; simp [ByteArray.push]
     rw [this]; rfl
  cases h
 ·rename_i e hd
  exact absurd hd (hnb _)
 cases h
theorem ydn {n cap h:Nat} {hi:Option PV} {chi:Option Value} (code:BoundsCode) (hn:n≤cap)
  (hh:∀ p,hi=some p→∃ c,chi=some c∧VR w.heap F G p c) (hh0:hi=none→chi=none) (hb:pHi n hi=some h) :
  (match chi with | some v=>Instr.sliceBound v cap code | none=>(pure n:Sem Nat)).run P w = .ok h w∧h≤n:=by
 cases hi with
 | none=>rw [hh0 rfl]; simp [pHi]at hb; subst hb; exact ⟨rfl,qR _⟩
 | some p =>
  obtain ⟨c,rfl,hc⟩:=hh p rfl
  cases p with
  | int k m =>
   obtain rfl:=hc.int
   simp only[pHi]at hb
   split at hb
   ·rename_i hm
    cases hb
    have:0≤m∧m≤(cap:Int):=by omega
    exact ⟨by simp [Instr.sliceBound,asIntOf,this],by omega⟩
   cases hb
  | _=>simp [pHi]at hb
theorem ydt {h l:Nat} {lo:Option PV} {clo:Option Value} (code:BoundsCode)
  (hl:∀ p,lo=some p→∃ c,clo=some c∧VR w.heap F G p c) (hl0:lo=none→clo=none) (hb:pLo h lo=some l) :
  (match clo with | some v=>Instr.sliceBound v h code | none=>(pure 0:Sem Nat)).run P w = .ok l w∧l≤h:=by
 cases lo with
 | none=>rw [hl0 rfl]; simp [pLo]at hb; subst hb; exact ⟨rfl,Nat.zero_le _⟩
 | some p =>
  obtain ⟨c,rfl,hc⟩:=hl p rfl
  cases p with
  | int k m =>
   obtain rfl:=hc.int
   simp only[pLo]at hb
   split at hb
   ·rename_i hm
    cases hb
    exact ⟨by simp [Instr.sliceBound,asIntOf,hm],by omega⟩
   cases hb
  | _=>simp [pLo]at hb
theorem zhm (isSlice:Bool) {n cap l h:Nat} {lo hi:Option PV} {clo chi:Option Value} (hn:n≤cap)
  (hl:∀ p,lo=some p→∃ c,clo=some c∧VR w.heap F G p c) (hl0:lo=none→clo=none)
  (hh:∀ p,hi=some p→∃ c,chi=some c∧VR w.heap F G p c) (hh0:hi=none→chi=none) (hb:zgp n lo hi=some (l,h)) :
  (Instr.sliceBounds isSlice n cap clo chi none).run P w = .ok (l,h,cap) w∧l≤h∧h≤n:=by
 unfold zgp at hb
 cases hH:pHi n hi with
 | none=>simp [hH]at hb
 | some h' =>
  rw [hH]at hb
  simp only[Option.bind_some]at hb
  cases hL:pLo h' lo with
  | none=>simp [hL]at hb
  | some l' =>
   simp only[hL,qO,Option.some.injEq,Prod.mk.injEq]at hb
   obtain ⟨rfl,rfl⟩:=hb
   obtain ⟨k1,k2⟩:=ydn (P:=P) (if isSlice then .sliceAcap else .sliceAlen) hn hh hh0 hH
   obtain ⟨k3,k4⟩:=ydt (P:=P) .sliceB hl hl0 hL
   refine ⟨?_,k4,k2⟩
   unfold Instr.sliceBounds
   cases chi <;> cases clo <;> simp_all
theorem z1z (hT:zby P T) (hi:Inv F G w) {t:TypeId} {x v:PV} {cx:Value} {lo hi':Option PV} {clo chi:Option Value} (hx:VR w.heap F G x cx)
  (hl:∀ p,lo=some p→∃ c,clo=some c∧VR w.heap F G p c) (hl0:lo=none→clo=none)
  (hh:∀ p,hi'=some p→∃ c,chi=some c∧VR w.heap F G p c) (hh0:hi'=none→chi=none)
  (h:zyp T G.er t x lo hi'=some v):∃ cv,(Instr.sliceAt t cx clo chi none).run P w = .ok cv w∧VR w.heap F G v cv:=by
 unfold zyp at h
 split at h
 ·rename_i s ht
  obtain ⟨b,rfl,rfl⟩:=hx.str
  cases hb:zgp b.data.toList.length lo hi' with
  | none=>rw [hb]at h; cases h
  | some q =>
   obtain ⟨l,h'⟩:=q
   simp only[hb,qO]at h
   cases h
   have hsz:b.data.toList.length=b.size:=by simp
   rw [hsz]at hb
   obtain ⟨k1,k2,k3⟩:=zhm (P:=P) false (qR _) hl hl0 hh hh0 hb
   refine ⟨.string (b.extract l h'),?_,.imm _ _ (.str _ _ ?_)⟩
   ·simp [Instr.sliceAt,Instr.slice,run_underlying (ziw hT ht),k1]
   simp [List.drop_take]
 ·rename_i e cs n ht
  cases hb:zgp n lo hi' with
  | none=>simp [hb]at h
  | some q =>
   obtain ⟨l,h'⟩:=q
   simp only[hb,qO]at h
   cases h
   rcases hx.sl_at with ⟨rfl,rfl,rfl⟩ | ⟨b,off,cap,rfl,hn,hc,hp,hsl⟩
   ·obtain ⟨k1,k2,k3⟩:=zhm (P:=P) true (qR _) hl hl0 hh hh0 hb
    have:l=0∧h'=0:=by omega
    obtain ⟨rfl,rfl⟩:=this
    refine ⟨.slice none 0 0,by simp [Instr.sliceAt,Instr.slice,run_underlying (zci hT ht),k1,zch hT (zed hT ht)],.imm _ _ ?_⟩
    simpa using VI.sl0
   obtain ⟨k1,k2,k3⟩:=zhm (P:=P) true hn hl hl0 hh hh0 hb
   by_cases hc2:cap=l
   ·refine ⟨.slice (some ⟨b,off,none⟩) (h' - l) (cap - l),by simp [Instr.sliceAt,Instr.slice,run_underlying (zci hT ht),k1,zch hT (zed hT ht)]; simp [hc2],?_⟩
    have e1:h'=l:=by omega
    have e2:n=l:=by omega
    have:=hsl 0 0 0 0 (qR _)
    subst e1
    simp only[List.take_zero,List.drop_nil,Nat.add_zero]at this
    rw [Nat.sub_self,hc2,Nat.sub_self,List.drop_of_length_le (by simp; omega)]
    exact this
   refine ⟨.slice (some ⟨b,off+l*(T e).size,none⟩) (h' - l) (cap - l),by simp [Instr.sliceAt,Instr.slice,run_underlying (zci hT ht),k1,zch hT (zed hT ht),hc2,add_lit],?_⟩
   exact hsl _ _ _ _ (by omega)
 ·rename_i e o ver off n ht
  cases ho:G.obs[o]? with
  | none=>simp [GSt.er,ho]at h
  | some x =>
   obtain ⟨ob,l0⟩:=x
   cases ob with
   | map v es=>simp [GSt.er,ho]at h
   | lp _ _ _ _=>simp [GSt.er,ho]at h
   | arr v et sz cells =>
    simp only[GSt.er,List.getElem?_map,ho,qO]at h
    split at h
    ·rename_i hv
     obtain ⟨rfl,hsz⟩:=hv
     cases hb:zgp n lo hi' with
     | none=>simp [hb]at h
     | some q =>
      obtain ⟨l,h'⟩:=q
      simp only[hb,Option.bind_some]at h
      split at h
      ·rename_i hl3
       cases h
       cases hx with
       | imm _ _ hx=>cases hx
       | loc _ _ _ _ a len cap hv2 hx =>
        obtain ⟨et',sz',cells',e1,rfl,rfl,hn,hm,hroom⟩:=hx _ _ ho rfl
        cases e1
        obtain ⟨k1,k2,k3⟩:=zhm (P:=P) true hn hl hl0 hh hh0 hb
        have hcl:cap=l→l=0:=by omega
        refine ⟨.slice (some ⟨l0.blk,off+l*sz,none⟩) (h' - l) (cap - l),?_,.loc _ _ _ _ _ _ _ hv2 fun ob2 l2 h2 _=>?_⟩
        ·by_cases hc2:cap=l
         ·have:=hcl hc2; subst this; simp [Instr.sliceAt,Instr.slice,run_underlying (zci hT ht),k1,zch hT (zed hT ht)]; simp [hc2]
         simp [Instr.sliceAt,Instr.slice,run_underlying (zci hT ht),k1,zch hT (zed hT ht),hc2,add_lit,hsz]
        rw [ho]at h2
        cases h2
        refine ⟨et,sz,cells,rfl,rfl,rfl,by omega,by omega,?_⟩
        have:l*sz+(cap - l)*sz=cap*sz:=by rw [← Nat.add_mul]; congr 1; omega
        omega
      cases h
    cases h
 cases h
theorem z9d (hT:zby P T) (hi:Inv F G w) {t ty:TypeId} {x v:PV} {cx:Value} (hx:VR w.heap F G x cx) (h:yjf T G.er t x=some v) :
  ∃ cv,(Builtin.len_ #[t] ty #[cx]).run P w = .ok cv w∧VR w.heap F G v cv:=by
 unfold yjf at h
 split at h
 ·rename_i s ht
  cases h
  obtain ⟨b,rfl,rfl⟩:=hx.str
  exact ⟨.int .i64 b.size,by simp [Builtin.len_,run_underlying (ziw hT ht),goInt],by simpa using VR.imm _ _ (VI.int .i64 (b.size:Int))⟩
 ·rename_i n e ht
  cases h
  exact ⟨.int .i64 n,by simp [Builtin.len_,run_underlying (zxs hT ht),goInt],.imm _ _ (.int _ _)⟩
 ·rename_i e ht
  cases h
  cases hx with | imm _ _ hx=>cases hx with | nils =>
  exact ⟨.int .i64 0,by simp [Builtin.len_,run_underlying (zci hT ht),goInt],.imm _ _ (.int _ _)⟩
 ·rename_i e cs n ht
  cases h
  rcases hx.sl_at with ⟨rfl,rfl,rfl⟩ | ⟨b,off,cap,rfl,_⟩
  ·exact ⟨.int .i64 0,by simp [Builtin.len_,run_underlying (zci hT ht),goInt],.imm _ _ (.int _ _)⟩
  exact ⟨.int .i64 n,by simp [Builtin.len_,run_underlying (zci hT ht),goInt],.imm _ _ (.int _ _)⟩
 ·rename_i e o ver off n ht
  cases hc:G.er.cellsOf o ver with
  | none=>simp [hc]at h
  | some cells =>
   simp only[hc,qO]at h
   cases h
   obtain ⟨et,sz,l,cap,ho,rfl,_⟩:=hx.loc_at hi hc
   exact ⟨.int .i64 n,by simp [Builtin.len_,run_underlying (zci hT ht),goInt],.imm _ _ (.int _ _)⟩
 ·rename_i k vt o ver ht
  cases ho:G.obs[o]? with
  | none=>simp [GSt.er,ho]at h
  | some x =>
   obtain ⟨ob,l⟩:=x
   cases ob with
   | arr v et sz cells=>simp [GSt.er,ho]at h
   | lp _ _ _ _=>simp [GSt.er,ho]at h
   | map v' es =>
    simp only[GSt.er,List.getElem?_map,ho,qO]at h
    split at h
    ·rename_i hv
     subst hv
     cases h
     cases hx with
     | imm _ _ hx=>cases hx
     | mp _ _ r hv hx =>
      obtain ⟨es',e1,rfl⟩:=hx _ _ ho rfl
      cases e1
      obtain ⟨ents,clock,h1,h2,_⟩:=hi.map _ _ _ _ ho
      refine ⟨.int .i64 es.length,?_,.imm _ _ (.int _ _)⟩
      have hg:(getObj l.blk).run P w = .ok (.map ents clock) w:=by simp [getObj,Sem.run,h1]
      simp [Builtin.len_,run_underlying (zl7 hT ht),hg,goInt,h2]
    cases h
 cases h
theorem znp {f:Value→Value→Sem Value} {g:PV→PV→Option PV}
  (hf:∀ a b v ca cb,VR w.heap F G a ca→VR w.heap F G b cb→g a b=some v→∃ cv,(f ca cb).run P w = .ok cv w∧VR w.heap F G v cv) :
  ∀ (xs:List PV) (cxs:List Value) (x v:PV) (cx:Value),VR w.heap F G x cx→xs.length=cxs.length→(∀ (i:Nat) p c,xs[i]?=some p→cxs[i]?=some c→VR w.heap F G p c) →
   xs.foldlM g x=some v→∃ cv,(cxs.foldlM f cx).run P w = .ok cv w∧VR w.heap F G v cv
 | [],[],x,v,cx,hx,_,_,h=>by simp at h; subst h; exact ⟨cx,by simp,hx⟩
 | a::xs,c::cxs,x,v,cx,hx,hl,hp,h=>by
  simp only[List.foldlM_cons]at h
  cases hg:g x a with
  | none=>simp [hg]at h
  | some u =>
   rw [hg]at h
   obtain ⟨cu,h1,h2⟩:=hf x a u cx c hx (hp 0 a c rfl rfl) hg
   obtain ⟨cv,h3,h4⟩:=znp hf xs cxs u v cu h2 (by simpa using hl) (fun i p q h5 h6=>hp (i+1) p q (by simpa using h5) (by simpa using h6)) h
   exact ⟨cv,by simp [List.foldlM_cons,h1,h3],h4⟩
 | [],c::cxs,x,v,cx,hx,hl,hp,h=>by simp at hl
 | a::xs,[],x,v,cx,hx,hl,hp,h=>by simp at hl
theorem z9l {ats:Array TypeId} {ty:TypeId} {xs:List PV} {v:PV} {cxs:Array Value} (hl:xs.length=cxs.size)
  (hp:∀ (i:Nat) p c,xs[i]?=some p→cxs[i]?=some c→VR w.heap F G p c) (h:yd8 xs=some v):∃ cv,(Builtin.max_ ats ty cxs).run P w = .ok cv w∧VR w.heap F G v cv:=by
 obtain ⟨cxs⟩:=cxs
 cases xs with
 | nil=>simp [yd8]at h
 | cons x xs =>
  cases cxs with
  | nil=>simp at hl
  | cons c cxs =>
   simp only[yd8]at h
   refine znp ?_ xs cxs x v c (hp 0 _ _ rfl (by simp)) (by simpa using hl) (fun i p q h5 h6=>hp (i+1) p q (by simpa using h5) (by simpa using h6)) h
   intro a b v ca cb ha hb hg
   split at hg
   ·cases hg; obtain rfl:=ha.int; obtain rfl:=hb.int; exact ⟨_,by simp [Builtin.max2],.imm _ _ (.int _ _)⟩
   cases hg
theorem z9m {ats:Array TypeId} {ty:TypeId} {xs:List PV} {v:PV} {cxs:Array Value} (hl:xs.length=cxs.size)
  (hp:∀ (i:Nat) p c,xs[i]?=some p→cxs[i]?=some c→VR w.heap F G p c) (h:yd9 xs=some v):∃ cv,(Builtin.min_ ats ty cxs).run P w = .ok cv w∧VR w.heap F G v cv:=by
 obtain ⟨cxs⟩:=cxs
 cases xs with
 | nil=>simp [yd9]at h
 | cons x xs =>
  cases cxs with
  | nil=>simp at hl
  | cons c cxs =>
   simp only[yd9]at h
   refine znp ?_ xs cxs x v c (hp 0 _ _ rfl (by simp)) (by simpa using hl) (fun i p q h5 h6=>hp (i+1) p q (by simpa using h5) (by simpa using h6)) h
   intro a b v ca cb ha hb hg
   split at hg
   ·cases hg; obtain rfl:=ha.int; obtain rfl:=hb.int; exact ⟨_,by simp [Builtin.min2],.imm _ _ (.int _ _)⟩
   cases hg
theorem z11 {cs vs:List PV} {off i:Nat}:off+vs.length≤cs.length→(spl cs off vs)[i]?=if off≤i∧i<off+vs.length then vs[i - off]? else cs[i]?:=by
 intro hle
 unfold spl
 by_cases h1:i<off
 ·rw [if_neg (by omega),List.append_assoc,List.getElem?_append_left (by simp; omega),List.getElem?_take,if_pos h1]
 by_cases h2:i<off+vs.length
 ·rw [if_pos (by omega),List.append_assoc,List.getElem?_append_right (by simp; omega),List.getElem?_append_left (by simp; omega)]
  congr 1
  simp
  omega
 rw [if_neg (by omega),List.getElem?_append_right (by simp; omega),List.getElem?_drop]
 congr 1
 simp
 omega
theorem zkb {cs vs:List PV} {off:Nat} (h:off+vs.length≤cs.length):(spl cs off vs).length=cs.length:=by simp [spl]; omega
theorem zuy (vs:List Value):∀ (cs:Array Value) (off k:Nat),k+vs.length+off≤cs.size →
  ((vs.zipIdx k).foldl (fun cs (x:Value × Nat)=>cs.setIfInBounds (off+x.2) x.1) cs).size=cs.size ∧
  ∀ i,((vs.zipIdx k).foldl (fun cs (x:Value × Nat)=>cs.setIfInBounds (off+x.2) x.1) cs)[i]?=if off+k≤i∧i<off+k+vs.length then vs[i - (off+k)]? else cs[i]?:=by
 induction vs with
 | nil=>intro cs off k h; refine ⟨rfl,fun i=>?_⟩; rw [if_neg (by simp only[List.length_nil]; omega)]; rfl
 | cons v vs ih =>
  intro cs off k h
  simp only[List.length_cons]at h
  obtain ⟨h1,h2⟩:=ih (cs.setIfInBounds (off+k) v) off (k+1) (by simp; omega)
  simp only[List.zipIdx_cons,List.foldl_cons]
  refine ⟨by rw [h1]; simp,fun i=>?_⟩
  rw [h2 i]
  by_cases h3:off+(k+1)≤i∧i<off+(k+1)+vs.length
  ·rw [if_pos h3,if_pos (by simp; omega)]
   have:i - (off+k)=(i - (off+(k+1)))+1:=by omega
   rw [this]; simp
  rw [if_neg h3]
  by_cases h4:i=off+k
  ·subst h4
   rw [if_pos (by simp only[List.length_cons]; omega),Array.getElem?_setIfInBounds_self_of_lt (by omega)]
   simp
  rw [if_neg (by simp only[List.length_cons]; omega),Array.getElem?_setIfInBounds_ne (by omega)]
def Row (H:Array Obj) (F:Nat→Prop) (G:GSt) (ps:List PV) (vs:Array Value):Prop :=
 ps.length=vs.size∧∀ (i:Nat) p v,ps[i]?=some p→vs[i]?=some v→VR H F G p v
theorem zqc {p:PV} {v:Value} (h:VR w.heap F G p v) (hp:p.isDef=true):Row w.heap F G p.cells v.cells:=by
 have one:∀ (p:PV) (v:Value),VR w.heap F G p v→p.cells=[p]→v.cells = #[v]→Row w.heap F G p.cells v.cells:=by
  intro p v h e1 e2
  rw [e1,e2]
  refine ⟨rfl,fun i q u h1 h2=>?_⟩
  cases i with
  | zero=>simp at h1 h2; subst h1; subst h2; exact h
  | succ i=>simp at h1
 cases p with
 | agg cs=>obtain ⟨vs,rfl,h1,h2⟩:=h.agg'; exact ⟨h1,h2⟩
 | undef=>cases hp
 | _ =>
  refine one _ _ h rfl ?_
  cases h with
  | imm _ _ h=>cases h <;> rfl
  | _=>rfl
theorem zj0 {place:Nat→Option (Nat × Nat)}:∀ (parts:List (Nat × PV)) (cparts:List (Nat × Value)) (cs:List PV) (ccs:Array Value) (out:List PV),
  Row w.heap F G cs ccs→parts.length=cparts.length→(∀ (i:Nat) x y,parts[i]?=some x→cparts[i]?=some y→x.1=y.1∧VR w.heap F G x.2 y.2) →
  zi0 T place cs parts=some out→∃ cout,Instr.fill place ccs cparts=some cout∧Row w.heap F G out cout
 | [],[],cs,ccs,out,hr,_,_,h=>by simp [zi0]at h; subst h; exact ⟨ccs,rfl,hr⟩
 | (k,p)::parts,(k',c)::cparts,cs,ccs,out,hr,hl,hp,h=>by
  obtain ⟨rfl,hpc⟩:=hp 0 _ _ rfl rfl
  simp only[zi0]at h
  cases hpl:place k with
  | none=>simp [hpl]at h
  | some q =>
   obtain ⟨off,size⟩:=q
   simp only[hpl]at h
   split at h
   ·rename_i hc
    obtain ⟨h1,h2,h3⟩:=hc
    obtain ⟨r1,r2⟩:=zqc hpc h3
    have hsz:c.cells.size=size:=by rw [← r1,h1]
    have hcs:off+size≤ccs.size:=by rw [← hr.1]; exact h2
    obtain ⟨g1,g2⟩:=zuy c.cells.toList ccs off 0 (by simp; omega)
    have hfold:c.cells.zipIdx.foldl (fun cs (x:Value × Nat)=>cs.setIfInBounds (off+x.2) x.1) ccs=(c.cells.toList.zipIdx 0).foldl (fun cs (x:Value × Nat)=>cs.setIfInBounds (off+x.2) x.1) ccs:=by
     rw [← Array.foldl_toList]; simp
    obtain ⟨cout,k1,k2⟩:=zj0 parts cparts _ ((c.cells.toList.zipIdx 0).foldl (fun cs (x:Value × Nat)=>cs.setIfInBounds (off+x.2) x.1) ccs) out ⟨by rw [g1,zkb (by omega),hr.1],fun i p v a b=>by
      rw [g2 i]at b
      rw [z11 (by omega)]at a
      simp only[Nat.add_zero,Array.length_toList]at b
      split at a
      ·rename_i hin
       rw [if_pos (by omega)]at b
       exact r2 _ p v a (by simpa using b)
      rename_i hin
      rw [if_neg (by omega)]at b
      exact hr.2 i p v a b⟩ (by simpa using hl)
     (fun i x y a b=>hp (i+1) x y (by simpa using a) (by simpa using b)) h
    refine ⟨cout,?_,k2⟩
    have:¬ (c.cells.size≠size∨off+c.cells.size>ccs.size):=by omega
    simp only[Instr.fill,hpl]
    rw [if_neg (by simpa using this)]
    rw [← hfold]at k1
    exact k1
   cases h
 | [],_::_,_,_,_,_,hl,_,_=>by simp at hl
 | _::_,[],_,_,_,_,hl,_,_=>by simp at hl
end
end
section
section
variable {P:Program} {T:Tab} {F:Nat→Prop} {G:GSt} {w:World} {e:Env} {a:Act}
theorem VR.pure {H:Array Obj}:∀ {k:Nat} {p:PV} {v:Value},zmr k p=true→VR H F G p v→VI H F p v
 | 0,p,v,h,_=>by simp [zmr]at h
 | k+1,p,v,h,hv=>by
  cases p with
  | agg cs =>
   simp only[zmr,List.all_eq_true]at h
   cases hv with
   | imm _ _ hv=>exact hv
   | agg _ vs e k'=>exact .agg _ vs e fun i p v h1 h2=>VR.pure (h p (List.mem_of_getElem? h1)) (k' i p v h1 h2)
  | tup cs=>simp [zmr]at h
  | fn f cs=>simp [zmr]at h
  | bm f cs=>simp [zmr]at h
  | loc=>simp [zmr]at h
  | ref=>simp [zmr]at h
  | mp=>simp [zmr]at h
  | undef=>simp [zmr]at h
  | _=>cases hv with | imm _ _ hv=>exact hv
theorem ziu (hT:zby P T) {t:TypeId} (h:(T t).kd ≠ .none) {H:Array Obj}:∃ i z,P.info? t=some i∧i.zero=some z∧Row H F G (T t).zero z.cells∧z.cells.size=(T t).size∧zb9 (T t).zero ∧
  ((T t).kd.isAgg=match z with | .agg _=>true | _=>false):=by
 obtain ⟨i,d,z,h1,h2,h3,h4,h5,h6,h7,h8,h9,h10⟩:=(hT t h).ex
 refine ⟨i,z,h1,h6,⟨h7,fun i p v a b => .imm _ _ (ycm.vi (h9 i p v a b))⟩,h8,fun p hp=>?_,h10⟩
 obtain ⟨k,hk⟩:=List.getElem?_of_mem hp
 have hlt:k<z.cells.size:=by rw [← h7]; exact (List.getElem?_eq_some_iff.1 hk).1
 exact ycm.cell (h9 k p z.cells[k] hk (by simp [hlt]))
theorem z0h (hT:zby P T) {t:TypeId} {parts:List (Nat × PV)} {cparts:List (Nat × Value)} {v:PV} (hl:parts.length=cparts.length)
  (hp:∀ (i:Nat) x y,parts[i]?=some x→cparts[i]?=some y→x.1=y.1∧VR w.heap F G x.2 y.2) (h:zyf T t parts=some v) :
  ∃ cv,(Instr.build t cparts.toArray).run P w = .ok cv w∧VR w.heap F G v cv:=by
 unfold zyf at h
 split at h
 ·rename_i fs ht
  obtain ⟨gs,hu,rfl⟩:=zqx hT ht
  obtain ⟨i,z,h1,h2,h3,_⟩:=ziu (F:=F) (G:=G) hT (t:=t) (by rw [ht]; simp) (H:=w.heap)
  cases hf:zi0 T (fun i=>((gs.toList.map fun f=>(f.offset,f.type))[i]?).map fun f=>(f.1,(T f.2).size)) (T t).zero parts with
  | none=>rw [hf]at h; cases h
  | some out =>
   simp only[hf,qO]at h
   cases h
   obtain ⟨cout,k1,k2⟩:=zj0 parts cparts _ _ _ h3 hl hp hf
   have hz:(zeroValue t).run P w = .ok z w:=by simp [zeroValue,typeInfo,h1,h2]
   have hm:(gs.mapM (m:=Sem) fun f=>do pure (f.offset,← sizeOf f.type)).run P w = .ok (gs.map fun f=>(f.offset,(T f.type).size)) w:=by
    have hk:∀ f∈gs.toList,(T f.type).kd ≠ .none:=fun f hf=>zt9 hT ht _ (List.mem_map.2 ⟨f,hf,rfl⟩)
    obtain ⟨l⟩:=gs
    simp only[List.mapM_toArray,List.map_toArray,Sem.run_map]
    have:∀ l:List Field,(∀ f∈l,(T f.type).kd ≠ .none)→(l.mapM (m:=Sem) fun f=>do pure (f.offset,← sizeOf f.type)).run P w = .ok (l.map fun f=>(f.offset,(T f.type).size)) w:=by
     intro l
     induction l with
     | nil=>intro _; rfl
     | cons f l ih =>
      intro hk
      have h1:=ih (fun f hf=>hk f (by simp [hf]))
      rw [qC,Sem.run_bind,Sem.run_bind,zch hT (hk f (by simp))]
      simp only[Result.andThen_ok,Sem.run_pure,Sem.run_bind,h1]
      rfl
    rw [this l hk]
    rfl
   refine ⟨.agg cout,?_,.agg _ _ k2.1 k2.2⟩
   have hpl:(fun (i:Nat)=>(gs.map fun f=>(f.offset,(T f.type).size))[i]?)=(fun (i:Nat)=>((gs.toList.map fun f=>(f.offset,f.type))[i]?).map fun (f:Nat × TypeId)=>(f.1,(T f.2).size)):=by
    funext i
    simp [List.getElem?_map]
    cases gs[i]? <;> simp
   simp only[Instr.build,Sem.run_bind,hz,Result.andThen_ok,run_underlying hu,hm]
   rw [hpl,k1]
   rfl
 ·rename_i n e ht
  obtain ⟨i,z,h1,h2,h3,_⟩:=ziu (F:=F) (G:=G) hT (t:=t) (by rw [ht]; simp) (H:=w.heap)
  cases hf:zi0 T (fun i=>some (i*(T e).size,(T e).size)) (T t).zero parts with
  | none=>simp [hf]at h
  | some out =>
   simp only[hf,qO]at h
   cases h
   obtain ⟨cout,k1,k2⟩:=zj0 parts cparts _ _ _ h3 hl hp hf
   have hz:(zeroValue t).run P w = .ok z w:=by simp [zeroValue,typeInfo,h1,h2]
   refine ⟨.agg cout,?_,.agg _ _ k2.1 k2.2⟩
   simp [Instr.build,hz,run_underlying (zxs hT ht),zch hT (zv8 hT ht),k1]
 cases h
theorem zk4 (hT:zby P T) {kt:TypeId} {k:PV} {ck:Value} (hk:VR w.heap F G k ck) (h:TK.keyed T kt k=true) :
  (∃ q n,(T kt).kd = .int q∧k = .int q n∧ck = .int q n)∨(∃ s b,(T kt).kd = .str∧k = .str s∧ck = .string b∧b.data.toList=s):=by
 unfold TK.keyed at h
 split at h
 ·rename_i q q' n ht
  have:q=q':=by simpa using h
  subst this
  exact .inl ⟨q,n,ht,rfl,hk.int⟩
 ·rename_i s ht
  obtain ⟨b,rfl,hb⟩:=hk.str
  exact .inr ⟨_,b,ht,rfl,rfl,hb⟩
 cases h
theorem zev (hT:zby P T) {kt:TypeId} {k:PV} {ck:Value} (hk:VR w.heap F G k ck) (hkd:TK.keyed T kt k=true) (d:TypeDesc) (hd:P.underlying kt=some d) :
  ∀ (es:List (PV × PV)) (ents:List MapEntry) (i:Nat) (r:Option (Nat × PV)),es.length=ents.length →
   (∀ (j:Nat) x e,es[j]?=some x→ents[j]?=some e→VR w.heap F G x.1 e.key∧VR w.heap F G x.2 e.val) →
   findKey k es i=some r→∃ cr,Instr.findNow d ck ents i=some cr ∧
    (match r,cr with | none,none=>True | some (a,p),some (b,c)=>a=b∧VR w.heap F G p c∧(a - i<es.length∧i≤a) | _,_=>False)
 | [],[],i,r,_,_,h=>by simp [findKey]at h; subst h; exact ⟨none,rfl,trivial⟩
 | [],_::_,_,_,hl,_,_=>by simp at hl
 | _::_,[],_,_,hl,_,_=>by simp at hl
 | (k',v)::es,e::ents,i,r,hl,hr,h=>by
  obtain ⟨hk',hv⟩:=hr 0 _ _ rfl rfl
  simp only[findKey]at h
  have hnow:∀ b,zhd k k'=some b→Instr.sameNow d ck e.key=some b:=by
   intro b hb
   rcases zk4 hT hk hkd with ⟨q,n,ht,rfl,rfl⟩ | ⟨s,bs,ht,rfl,rfl,hbs⟩
   ·rw [zl6 hT ht]at hd; cases hd
    cases k' <;> simp only[zhd]at hb <;> try (cases hb; done)
    rw [hk'.int]
    simp only[Instr.sameNow]
    split at hb <;> simp_all
   rw [ziw hT ht]at hd; cases hd
   cases k' <;> simp only[zhd]at hb <;> try (cases hb; done)
   obtain ⟨b2,e2,e3⟩:=hk'.str
   rw [e2]
   simp only[Instr.sameNow]
   cases hb
   rw [← hbs,← e3,beq_toListBytes,Lib.toList_data,Lib.toList_data]
  cases hs:zhd k k' with
  | none=>simp [hs]at h
  | some b =>
   rw [hs]at h
   simp only[Instr.findNow,hnow b hs]
   cases b with
   | true=>simp at h; subst h; exact ⟨_,rfl,rfl,hv,by simp,qR _⟩
   | false =>
    obtain ⟨cr,h1,h2⟩:=zev hT hk hkd d hd es ents (i+1) r (by simpa using hl) (fun j x e a b=>hr (j+1) x e (by simpa using a) (by simpa using b)) h
    refine ⟨cr,h1,?_⟩
    cases r <;> cases cr <;> simp_all
    omega
theorem zjk (hT:zby P T) {kt:TypeId} {k:PV} {ck:Value} (hk:VR w.heap F G k ck) (hkd:TK.keyed T kt k=true) (b:Bool) (n:Nat) :
  (Instr.checkKey b (n+1) kt ck).run P w = .ok () w:=by
 rcases zk4 hT hk hkd with ⟨q,m,ht,rfl,rfl⟩ | ⟨s,bs,ht,rfl,rfl,hbs⟩
 ·simp [Instr.checkKey,run_underlying (zl6 hT ht)]
 simp [Instr.checkKey,run_underlying (ziw hT ht)]
theorem zxy (hT:zby P T) (hi:Inv F G w) {t:TypeId} {m k v:PV} {cm ck:Value} {ok:Bool} (hm:VR w.heap F G m cm) (hk:VR w.heap F G k ck)
  (h:zrd T G.er t m k ok=some v):∃ cv,(Instr.lookup t cm ck ok).run P w = .ok cv w∧VR w.heap F G v cv:=by
 unfold zrd at h
 split at h
 ·rename_i kt vt o ver ht
  cases ho:G.obs[o]? with
  | none=>simp [GSt.er,ho]at h
  | some x =>
   obtain ⟨ob,l⟩:=x
   cases ob with
   | arr v et sz cells=>simp [GSt.er,ho]at h
   | lp _ _ _ _=>simp [GSt.er,ho]at h
   | map v' es =>
    simp only[GSt.er,List.getElem?_map,ho,qO]at h
    split at h
    ·rename_i hc
     obtain ⟨rfl,hkd,hag⟩:=hc
     cases hm with
     | imm _ _ hm=>cases hm
     | mp _ _ r hv hm =>
      obtain ⟨es',e1,rfl⟩:=hm _ _ ho rfl
      cases e1
      obtain ⟨ents,clock,h1,h2,h3⟩:=hi.map _ _ _ _ ho
      have hg:(getObj l.blk).run P w = .ok (.map ents clock) w:=by simp [getObj,Sem.run,h1]
      cases hf:findKey k es 0 with
      | none=>simp [hf]at h
      | some r =>
       rw [hf]at h
       simp only[Option.bind_some]at h
       obtain ⟨i,d,z,hi1,hi2,_⟩:=(hT kt (zv9 hT ht).1).ex
       obtain ⟨cr,hc1,hc2⟩:=zev hT hk hkd d hi2 es ents.toList 0 r (by simp [h2]) (fun j x e a b=>by
        obtain ⟨e',q1,q2,q3⟩:=h3 j x.1 x.2 a
        have:e=e':=by rw [Array.getElem?_toList]at b; rw [q1]at b; cases b; rfl
        subst this; exact ⟨q2,q3⟩) hf
       have hck:=zjk (P:=P) hT hk hkd ents.isEmpty 9999
       have hfk:(Instr.findKey kt ck ents.toList).run P w = .ok cr w:=by simp [Instr.findKey,run_underlying hi2,hc1]
       obtain ⟨iz,z,hz1,hz2,hz3,hz4,hz5,hz6⟩:=ziu (F:=F) (G:=G) hT (zv9 hT ht).2 (H:=w.heap)
       have hzero:(zeroValue vt).run P w = .ok z w:=by simp [zeroValue,typeInfo,hz1,hz2]
       cases r with
       | some q =>
        obtain ⟨j,p⟩:=q
        cases cr with
        | none=>exact hc2.elim
        | some cq =>
         obtain ⟨j',c⟩:=cq
         obtain ⟨_,hpc,_⟩:=hc2
         simp only at h
         cases h
         cases ok with
         | true =>
          refine ⟨.tuple #[c,.bool true],by simp [Instr.lookup,run_underlying (zl7 hT ht),hg,hck,hfk],.tup _ _ rfl fun i p v a b=>?_⟩
          rcases i with _ | _ | i
          ·simp at a b; subst a; subst b; exact hpc
          ·simp at a b; subst a; subst b; exact .imm _ _ (.bool _)
          simp at a
         | false=>exact ⟨c,by simp [Instr.lookup,run_underlying (zl7 hT ht),hg,hck,hfk],hpc⟩
       | none =>
        cases cr with
        | some cq=>exact hc2.elim
        | none =>
         simp only at h
         cases hz0:(T vt).zero[0]? with
         | none=>simp [hz0]at h
         | some p =>
          simp only[hz0,qO]at h
          cases h
          have hzc:z.cells = #[z]:=by
           cases z with
           | agg vs =>
            exfalso
            have q:=hz6
            rw [hag]at q
            cases q
           | _=>rfl
          have hpz:VR w.heap F G p z:=hz3.2 0 p z hz0 (by rw [hzc]; rfl)
          cases ok with
          | true =>
           refine ⟨.tuple #[z,.bool false],by simp [Instr.lookup,run_underlying (zl7 hT ht),hg,hck,hfk,hzero],.tup _ _ rfl fun i p v a b=>?_⟩
           rcases i with _ | _ | i
           ·simp at a b; subst a; subst b; exact hpz
           ·simp at a b; subst a; subst b; exact .imm _ _ (.bool _)
           simp at a
          | false=>exact ⟨z,by simp [Instr.lookup,run_underlying (zl7 hT ht),hg,hck,hfk,hzero],hpz⟩
    cases h
 cases h
theorem zfi.list (he:zfi w.heap F G e a) (xs:Array Operand):(xs.toList.map e.ev).length=(xs.map a.eval).size ∧
  ∀ (i:Nat) p c,(xs.toList.map e.ev)[i]?=some p→(xs.map a.eval)[i]?=some c→VR w.heap F G p c:=by
 refine ⟨by simp,fun i p c h1 h2=>?_⟩
 simp only[List.getElem?_map,Array.getElem?_toList,Array.getElem?_map]at h1 h2
 cases hx:xs[i]? with
 | none=>simp [hx]at h1
 | some x=>simp [hx]at h1 h2; subst h1; subst h2; exact he.ev x
theorem z3o (he:zfi w.heap F G e a) (x:Option Operand):(∀ p,x.map e.ev=some p→∃ c,x.map a.eval=some c∧VR w.heap F G p c)∧(x.map e.ev=none→x.map a.eval=none):=by
 cases x with
 | none=>simp
 | some x=>simp only[qO]; exact ⟨fun p h=>by cases h; exact ⟨_,rfl,he.ev x⟩,fun h=>by cases h⟩
theorem z3f {xs:Array Operand} {f:Operand→PV} {p:PV} (h:xs.toList.map f=[p]):∃ x,xs = #[x]∧p=f x:=by
 obtain ⟨l⟩:=xs
 match l,h with
 | [x],h=>simp at h; exact ⟨x,rfl,h.symm⟩
theorem z59 (hT:zby P T) (hi:Inv F G w) (he:zfi w.heap F G e a) {o:Oper} {v:PV} (hnb:∀ s d x,o.op = .convert s d x→∀ e,(T d).kd ≠ .slice e) (h:zd2 T G.er e o.op=some v) :
  ∃ cv,(execOp a.eval o).run P w = .ok (.value cv) w∧VR w.heap F G v cv:=by
 unfold zd2 at h
 split at h
 ·rename_i x hop; cases h; exact ⟨_,by simp only[execOp,hop]; rfl,he.ev x⟩
 ·rename_i x hop; cases h; exact ⟨_,by simp only[execOp,hop]; rfl,he.ev x⟩
 ·rename_i c x y hop
  unfold yea at h
  split at h
  ·rename_i t hc
   cases h
   have hc':=he.ev c
   rw [hc]at hc'
   have:=hc'.bool
   refine ⟨if t then a.eval x else a.eval y,by simp [execOp,hop,this,asBool],?_⟩
   cases t
   ·simp; exact he.ev y
   simp; exact he.ev x
  cases h
 ·rename_i t x hop
  obtain ⟨cv,h1,h2⟩:=ztj hT hi (he.ev x) h
  exact ⟨cv,by simp [execOp,hop,h1],h2⟩
 ·rename_i x hop
  have hx:=he.ev x
  unfold zha at h
  split at h
  ·rename_i cs off hc
   cases h
   rw [hc]at hx
   obtain ⟨b,base,h1,_,h2⟩:=hx.ip_at
   exact ⟨_,by simp [execOp,hop,h1],h2 _⟩
  ·rename_i o' ver off hc
   rw [hc]at hx
   cases hq:G.er.cellsOf o' ver with
   | none=>simp [hq]at h
   | some cells =>
    simp only[hq,qO]at h
    cases h
    obtain ⟨et,sz,l,ho,h1,hv⟩:=hx.ref_at hi hq
    exact ⟨_,by simp [execOp,hop,h1],zx3 ho hv _⟩
  ·rename_i f c hc
   cases h
   rw [hc]at hx
   have:∀ cv,VR w.heap F G (.fn f c) cv→∃ vs,cv = .func (.func f) #[] vs:=by
    intro cv hx
    cases hx with
    | imm _ _ hx=>cases hx with | fn _ _ vs=>exact ⟨_,rfl⟩
    | fn _ _ vs=>exact ⟨_,rfl⟩
   obtain ⟨vs,h1⟩:=this _ hx
   exact ⟨_,by simp [execOp,hop,h1],h1 ▸ hx⟩
  cases h
 ·rename_i op t x y yt hop
  obtain ⟨cv,h1,h2⟩:=z7f hT hi x y (he.ev x) (he.ev y) h
  exact ⟨cv,by simp only[execOp,hop]; rw [Sem.run_bind,h1]; rfl,h2⟩
 ·rename_i op t x hop
  obtain ⟨cv,h1,h2⟩:=ye1 (P:=P) (he.ev x) h
  exact ⟨cv,by simp [execOp,hop,h1],h2⟩
 ·rename_i s d x hop
  obtain ⟨cv,h1,h2⟩:=zuq hT hi (he.ev x) (hnb s d x hop) h
  exact ⟨cv,by simp [execOp,hop,h1],h2⟩
 ·rename_i fn first cap hop
  unfold zml at h
  split at h
  ·rename_i f hf
   cases h
   have hfirst:first = #[]:=by
    obtain ⟨l⟩:=first
    cases l with
    | nil=>rfl
    | cons x l=>simp at hf
   subst hfirst
   obtain ⟨h1,h2⟩:=he.list cap
   exact ⟨.func (.func f) #[] (cap.map a.eval),by simp [execOp,hop,Instr.makeFunc],.fn f _ _ h1 h2⟩
  ·rename_i f x hf
   split at h
   ·rename_i hc
    cases h
    simp only[qB,List.isEmpty_iff]at hc
    obtain ⟨l⟩:=first
    obtain ⟨m⟩:=cap
    have hm:m=[]:=by simpa using hc.2
    subst hm
    simp only at hf
    cases l with
    | nil=>simp at hf
    | cons y l =>
     simp only[List.map_cons,List.cons.injEq,List.map_eq_nil_iff]at hf
     obtain ⟨rfl,rfl⟩:=hf
     exact ⟨.func (.func f) #[a.eval y] #[],by simp [execOp,hop,Instr.makeFunc],.imm _ _ (.bm f _ _ (VR.pure hc.1 (he.ev y)))⟩
   cases h
  cases h
 ·rename_i t x lo hi' mx hop
  split at h
  ·cases h
  rename_i hmx
  have hmx':mx=none:=by cases mx <;> simp_all
  subst hmx'
  obtain ⟨cv,h1,h2⟩:=z1z hT hi (he.ev x) (z3o he lo).1 (z3o he lo).2 (z3o he hi').1 (z3o he hi').2 h
  exact ⟨cv,by simp [execOp,hop,h1],h2⟩
 ·rename_i t x f hop
  obtain ⟨cv,h1,h2⟩:=zqn hT hi (he.ev x) h
  exact ⟨cv,by simp [execOp,hop,h1],h2⟩
 ·rename_i t x f hop
  obtain ⟨cv,h1,h2⟩:=z0w hT (he.ev x) h
  exact ⟨cv,by simp [execOp,hop,h1],h2⟩
 ·rename_i t x i hop
  obtain ⟨cv,h1,h2⟩:=zqv hT hi (he.ev x) (he.ev i) h
  exact ⟨cv,by simp [execOp,hop,h1],h2⟩
 ·rename_i t x i hop
  obtain ⟨cv,h1,h2⟩:=z1a hT (he.ev x) (he.ev i) h
  exact ⟨cv,by simp [execOp,hop,h1],h2⟩
 ·rename_i x i hop
  have hx:=he.ev x
  unfold zpm at h
  split at h
  ·rename_i i _ _ vs hc
   rw [hc]at hx
   obtain ⟨cs,h1,h2,h3⟩:=hx.tup'
   have hlt:i<cs.size:=by rw [← h2]; exact (List.getElem?_eq_some_iff.1 h).1
   exact ⟨cs[i],by simp [execOp,hop,h1,Instr.extract,hlt],h3 i v _ h (by simp [hlt])⟩
  cases h
 ·rename_i t parts hop
  obtain ⟨cv,h1,h2⟩:=z0h (cparts:=parts.toList.map fun p=>(p.1,a.eval p.2)) hT (by simp) (fun i x y h1 h2=>by
   rw [List.getElem?_map]at h1 h2
   cases hp:parts.toList[i]? with
   | none=>rw [hp]at h1; cases h1
   | some p=>rw [hp]at h1 h2; cases h1; cases h2; exact ⟨rfl,he.ev p.2⟩) h
  refine ⟨cv,?_,h2⟩
  have:(parts.map fun p=>(p.1,a.eval p.2))=(parts.toList.map fun p=>(p.1,a.eval p.2)).toArray:=Array.ext' (by rw [Array.toList_map])
  simp only[execOp,hop,this]
  simp [h1]
 ·rename_i t m k ok hop
  obtain ⟨cv,h1,h2⟩:=zxy hT hi (he.ev m) (he.ev k) h
  exact ⟨cv,by simp [execOp,hop,h1],h2⟩
 ·rename_i c hop
  obtain ⟨cal,args,ats⟩:=c
  unfold zfq at h
  split at h
  ·rename_i hc
   simp only at hc
   subst hc
   split at h
   ·rename_i x t h1 h2
    simp only at h1 h2
    obtain ⟨y,rfl,rfl⟩:=z3f h1
    obtain rfl:ats = #[t]:=by obtain ⟨l⟩:=ats; exact congrArg Array.mk h2
    obtain ⟨cv,h1,h2⟩:=z9d (ty:=o.type) hT hi (he.ev y) h
    exact ⟨cv,by simp [execOp,hop,resolve,invoke,builtin,h1],h2⟩
   cases h
  ·rename_i hc
   simp only at hc
   subst hc
   obtain ⟨h1,h2⟩:=he.list args
   obtain ⟨cv,h3,h4⟩:=z9l (P:=P) (ats:=ats) (ty:=o.type) h1 h2 h
   exact ⟨cv,by simp [execOp,hop,resolve,invoke,builtin,h3],h4⟩
  ·rename_i hc
   simp only at hc
   subst hc
   obtain ⟨h1,h2⟩:=he.list args
   obtain ⟨cv,h3,h4⟩:=z9m (P:=P) (ats:=ats) (ty:=o.type) h1 h2 h
   exact ⟨cv,by simp [execOp,hop,resolve,invoke,builtin,h3],h4⟩
  cases h
 cases h
end
end
section
def Holds (H:Array Obj) (F:Nat→Prop) (G:GSt) (H':Array Obj) (ob:Ob) (l:Lc):Prop :=
 match ob with
 | .arr _ et _ cells=>∃ cs:Array Value,yjj H' l.blk cs et∧cs.size=l.room∧cells.length≤l.room ∧
   ∀ (i:Nat) p,cells[i]?=some p→p.isCell=true∧∃ v,cs[i]?=some v∧VR H F G p v
 | .map _ es=>∃ (ents:Array MapEntry) (clock:Nat),H'[l.blk]?=some (.map ents clock)∧ents.size=es.length ∧
   ∀ (i:Nat) k v,es[i]?=some (k,v)→∃ e,ents[i]?=some e∧VR H F G k e.key∧VR H F G v e.val
 | .lp _ b r tmps=>l.blk=b∧yjh H H' F G b r tmps
section
variable {P:Program} {T:Tab} {F:Nat→Prop} {G:GSt} {w:World} {e:Env} {a:Act}
theorem Inv.holds (hi:Inv F G w) {o:Nat} {ob:Ob} {l:Lc} (h:G.obs[o]?=some (ob,l)):Holds w.heap F G w.heap ob l:=by
 cases ob with
 | arr v et sz cells=>exact hi.arr o v et sz cells l h
 | map v es=>exact hi.map o v es l h
 | lp v b r tmps=>exact hi.lp o v b r tmps l h
theorem Inv.blk_lt (hi:Inv F G w) {o:Nat} {x:Ob × Lc} (h:G.obs[o]?=some x):x.2.blk<w.heap.size:=by
 obtain ⟨ob,l⟩:=x
 have:=hi.holds h
 cases ob with
 | arr v et sz cells=>obtain ⟨cs,⟨_,h1,_⟩,_⟩:=this; exact (Array.getElem?_eq_some_iff.1 h1).1
 | map v es=>obtain ⟨_,_,h1,_⟩:=this; exact (Array.getElem?_eq_some_iff.1 h1).1
 | lp v b r tmps=>obtain ⟨h0,t,h1,_⟩:=this; simp only; rw [h0]; exact (Array.getElem?_eq_some_iff.1 h1).1
theorem zje {F':Nat→Prop} {G':GSt} {w':World} (fr:∀ b,F' b→b<w'.heap.size) (ver:∀ (o:Nat) ob l,G'.obs[o]?=some (ob,l)→ob.ver<G'.tick)
  (nF:∀ (o:Nat) ob l,G'.obs[o]?=some (ob,l)→¬ F' l.blk) (hold:∀ (o:Nat) ob l,G'.obs[o]?=some (ob,l)→Holds w'.heap F' G' w'.heap ob l)
  (inj:∀ (o o':Nat) x x',G'.obs[o]?=some x→G'.obs[o']?=some x'→x.2.blk=x'.2.blk→o=o'):Inv F' G' w' :=
 ⟨fr,ver,nF,fun o v et sz cells l h=>hold o _ l h,fun o v es l h=>hold o _ l h,inj,fun o v b r tmps l h=>hold o _ l h⟩
theorem Holds.next {F':Nat→Prop} {G':GSt} {w':World} (hi:Inv F G w) (hn:Next F G w F' G' w') {H1 H2:Array Obj} {ob:Ob} {l:Lc} (hb:H2[l.blk]?=H1[l.blk]?) (h:Holds w.heap F G H1 ob l) :
  Holds w'.heap F' G' H2 ob l:=by
 cases ob with
 | arr v et sz cells =>
  obtain ⟨cs,⟨fz,h1,hz⟩,h2,h3,h4⟩:=h
  exact ⟨cs,⟨fz,hb.trans h1,hz⟩,h2,h3,fun i p hp=>⟨(h4 i p hp).1,by obtain ⟨u,k1,k2⟩:=(h4 i p hp).2; exact ⟨u,k1,k2.next hi hn⟩⟩⟩
 | map v es =>
  obtain ⟨ents,clock,h1,h2,h3⟩:=h
  exact ⟨ents,clock,hb.trans h1,h2,fun i k u hp=>by obtain ⟨en,k1,k2,k3⟩:=h3 i k u hp; exact ⟨en,k1,k2.next hi hn,k3.next hi hn⟩⟩
 | lp v b r tmps =>
  obtain ⟨h0,t,h1,h2,h3⟩:=h
  exact ⟨h0,t,by rw [← h0]at h1 ⊢; exact hb.trans h1,h2,fun i p v q1 q2=>(h3 i p v q1 q2).next hi hn⟩
theorem zh2 (hi:Inv F G w) {o:Nat} {ob:Ob} {l:Lc} (ho:G.obs[o]?=some (ob,l)) (ob':Ob) (l':Lc) (tick':Nat) (w':World)
  (hos:w'.os=w.os) (htape:w'.tape=w.tape) (hout:w'.output=w.output) (hdr:w.drawn≤w'.drawn) (hsz:w.heap.size≤w'.heap.size)
  (hblk:l'.blk=l.blk∨(l'.blk=w.heap.size∧w.heap.size<w'.heap.size)) (hkeep:∀ b,b<w.heap.size→b≠l.blk→w'.heap[b]?=w.heap[b]?)
  (htick:G.tick≤tick') (hver:ob'.ver<tick') (hv:(ob'.ver=ob.ver∧ob.like ob'∧l'=l)∨G.tick≤ob'.ver)
  (hcont:Holds w.heap F G w'.heap ob' l') :
  Inv F ⟨G.obs.set o (ob',l'),tick'⟩ w'∧Next F G w F ⟨G.obs.set o (ob',l'),tick'⟩ w':=by
 have hlen:o<G.obs.length:=(List.getElem?_eq_some_iff.1 ho).1
 have get:∀ (j:Nat) x,(G.obs.set o (ob',l'))[j]?=some x→(j=o∧x=(ob',l'))∨(j≠o∧G.obs[j]?=some x):=by
  intro j x hx
  rw [List.getElem?_set]at hx
  by_cases hj:o=j
  ·subst hj
   rw [if_pos rfl,if_pos hlen]at hx
   cases hx; exact .inl ⟨rfl,rfl⟩
  rw [if_neg hj]at hx; exact .inr ⟨Ne.symm hj,hx⟩
 have hlt:=hi.blk_lt ho
 have hn:Next F G w F ⟨G.obs.set o (ob',l'),tick'⟩ w':=by
  refine ⟨hos,htape,hout,hsz,fun _ h=>h,fun _ h => .inl h,?_,htick,?_,?_,hdr⟩
  ·intro j x hx
   rcases get j x hx with ⟨rfl,rfl⟩ | ⟨_,hx⟩
   ·rcases hblk with e1 | ⟨e1,_⟩
    ·exact .inr ⟨j,_,ho,e1.symm⟩
    exact .inl (by simp [e1])
   exact .inr ⟨j,x,hx,rfl⟩
  ·exact fun b hb hG=>hkeep b hb fun e1=>hG o _ ho e1.symm
  intro j ob2 l2 hx hv2
  rcases get j _ hx with ⟨rfl,e1⟩ | ⟨_,hx⟩
  ·cases e1
   rcases hv with ⟨h1,h2,rfl⟩ | h1
   ·exact ⟨ob,ho,h1.symm,h2⟩
   omega
  exact ⟨ob2,hx,rfl,Ob.like.refl _⟩
 refine ⟨zje (fun b hb=>Nat.lt_of_lt_of_le (hi.fr b hb) hsz) ?_ ?_ ?_ ?_,hn⟩
 ·intro j ob2 l2 hx
  rcases get j _ hx with ⟨rfl,e1⟩ | ⟨_,hx⟩
  ·cases e1; exact hver
  exact Nat.lt_of_lt_of_le (hi.ver j ob2 l2 hx) htick
 ·intro j ob2 l2 hx
  rcases get j _ hx with ⟨rfl,e1⟩ | ⟨_,hx⟩
  ·cases e1
   rcases hblk with e1 | ⟨e1,_⟩
   ·rw [e1]; exact hi.nF j ob l ho
   rw [e1]; exact fun hF=>by have:=hi.fr _ hF; omega
  exact hi.nF j ob2 l2 hx
 ·intro j ob2 l2 hx
  rcases get j _ hx with ⟨rfl,e1⟩ | ⟨hj,hx⟩
  ·cases e1; exact hcont.next hi hn rfl
  ·exact (hi.holds hx).next hi hn (hkeep _ (hi.blk_lt hx) fun e1=>hj (hi.inj j o _ _ hx ho e1))
 intro j j' x x' hx hx' he
 rcases get j _ hx with ⟨hj,rfl⟩ | ⟨hj,hx2⟩ <;> rcases get j' _ hx' with ⟨hj',rfl⟩ | ⟨hj',hx2'⟩
 ·omega
 ·exfalso
  have h1:=hi.blk_lt hx2'
  rcases hblk with e1 | ⟨e1,_⟩
  ·exact hj' (hi.inj j' o _ _ hx2' ho (by simp only at he ⊢; omega))
  simp only at he; omega
 ·exfalso
  have h1:=hi.blk_lt hx2
  rcases hblk with e1 | ⟨e1,_⟩
  ·exact hj (hi.inj j o _ _ hx2 ho (by simp only at he ⊢; omega))
  simp only at he; omega
 exact hi.inj j j' x x' hx2 hx2' he
theorem zvr (hi:Inv F G w) (ob':Ob) (room:Nat) (w':World) (d:Nat)
  (hw:w'={ w with heap:=w'.heap,drawn:=d }) (hd:w.drawn≤d) (hh:∃ obj,w'.heap=w.heap.push obj) (hver:ob'.ver=G.tick)
  (hcont:Holds w.heap F G w'.heap ob' ⟨w.heap.size,room⟩) :
  Inv F ⟨G.obs++[(ob',⟨w.heap.size,room⟩)],G.tick+1⟩ w'∧Next F G w F ⟨G.obs++[(ob',⟨w.heap.size,room⟩)],G.tick+1⟩ w':=by
 obtain ⟨obj,hh⟩:=hh
 have hsize:w'.heap.size=w.heap.size+1:=by rw [hh]; simp
 have hkeep:∀ b,b<w.heap.size→w'.heap[b]?=w.heap[b]?:=fun b hb=>by rw [hh,Array.getElem?_push,if_neg (by omega)]
 have get:∀ (j:Nat) x,(G.obs++[(ob',(⟨w.heap.size,room⟩:Lc))])[j]?=some x→(j=G.obs.length∧x=(ob',⟨w.heap.size,room⟩))∨G.obs[j]?=some x:=by
  intro j x hx
  by_cases hj:j<G.obs.length
  ·rw [List.getElem?_append_left hj]at hx; exact .inr hx
  rw [List.getElem?_append_right (by omega)]at hx
  cases hk:j - G.obs.length with
  | zero=>rw [hk]at hx; simp at hx; exact .inl ⟨by omega,hx.symm⟩
  | succ k=>rw [hk]at hx; simp at hx
 have hn:Next F G w F ⟨G.obs++[(ob',⟨w.heap.size,room⟩)],G.tick+1⟩ w':=by
  refine ⟨by rw [hw],by rw [hw],by rw [hw],by omega,fun _ h=>h,fun _ h => .inl h,?_,Nat.le_succ _,fun b hb _=>hkeep b hb,?_,by rw [hw]; exact hd⟩
  ·intro j x hx
   rcases get j x hx with ⟨_,rfl⟩ | hx
   ·exact .inl (qR _)
   exact .inr ⟨j,x,hx,rfl⟩
  intro j ob2 l2 hx hv
  rcases get j _ hx with ⟨_,e1⟩ | hx
  ·cases e1; omega
  exact ⟨ob2,hx,rfl,Ob.like.refl _⟩
 refine ⟨zje (fun b hb=>by have:=hi.fr b hb; omega) ?_ ?_ ?_ ?_,hn⟩
 ·intro j ob2 l2 hx
  rcases get j _ hx with ⟨_,e1⟩ | hx
  ·cases e1; show ob'.ver<G.tick+1; omega
  exact Nat.lt_succ_of_lt (hi.ver j ob2 l2 hx)
 ·intro j ob2 l2 hx
  rcases get j _ hx with ⟨_,e1⟩ | hx
  ·cases e1; exact fun hF=>by have:=hi.fr _ hF; simp at this
  exact hi.nF j ob2 l2 hx
 ·intro j ob2 l2 hx
  rcases get j _ hx with ⟨_,e1⟩ | hx
  ·cases e1; exact hcont.next hi hn rfl
  ·exact (hi.holds hx).next hi hn (hkeep _ (hi.blk_lt hx))
 intro j j' x x' hx hx' he
 rcases get j _ hx with ⟨rfl,rfl⟩ | hx <;> rcases get j' _ hx' with ⟨rfl,rfl⟩ | hx'
 ·rfl
 ·have h1:=hi.blk_lt hx'; simp only at he; omega
 ·have h1:=hi.blk_lt hx; simp only at he; omega
 exact hi.inj j j' x x' hx hx' he
end
end
section
section
variable {P:Program} {T:Tab} {F:Nat→Prop} {G:GSt} {w:World} {e:Env} {a:Act}
def Goes (F:Nat→Prop) (G:GSt) (w:World) (K:PV→Store→Prop) (R:Value→World→Prop):Prop :=
 ∀ v cv F' G' w',K v G'.er→Inv F' G' w'→Next F G w F' G' w'→VR w'.heap F' G' v cv→R cv w'
theorem z0v (G:GSt) (ob:Ob) (l:Lc):(⟨G.obs++[(ob,l)],G.tick+1⟩:GSt).er=⟨G.er.obs++[ob],G.er.tick+1⟩:=by simp [GSt.er]
theorem zja (G:GSt) (o:Nat) (ob:Ob) (l:Lc) (t:Nat):(⟨G.obs.set o (ob,l),t⟩:GSt).er=⟨G.er.obs.set o ob,t⟩:=by simp [GSt.er,List.map_set]
theorem zf3 {G:GSt} {o:Nat} {ob:Ob} (h:G.er.obs[o]?=some ob):∃ l,G.obs[o]?=some (ob,l):=by
 simp only[GSt.er,List.getElem?_map]at h
 cases hx:G.obs[o]? with
 | none=>simp [hx]at h
 | some x=>obtain ⟨ob',l⟩:=x; simp [hx]at h; subst h; exact ⟨l,rfl⟩
theorem ycn.of {n m:Nat} {fz:Nat × Nat} (h:ycn n fz) (e:m=n):ycn m fz:=by subst e; exact h
theorem zdo (P:Program) (g o:Nat) (t:TypeId) (fz:Nat × Nat):∀ (vs:List Value) (i:Nat) (cur:Array Value) (w:World),w.heap[g]?=some (.cells cur t fz)→ycn cur.size fz→o+i+vs.length≤cur.size→(∀ v∈vs,v.oneCell'=true) →
  (storeCells ⟨g,o,none⟩ vs i).run P w = .ok () (w.setRow g (cur.toList.take (o+i)++vs++cur.toList.drop (o+i+vs.length)).toArray)
 | [],i,cur,w,hg,_,_,_=>by
  simp only[storeCells,qN,List.length_nil,Nat.add_zero,List.take_append_drop,Array.toArray_toList]
  rw [setRow_self w g cur t fz hg]
  rfl
 | v::rest,i,cur,w,hg,hfz,hl,h1=>by
  have hi:o+i<cur.size:=by simp at hl; omega
  have hadd:(⟨g,o,none⟩:Addr).add i=⟨g,o+i,none⟩:=by unfold Addr.add; split <;> simp_all
  have hcell:w.cell? ⟨g,o+i,none⟩=some cur[o+i]:=by simp [World.cell?,hg,hi]
  have hfro:w.frozen? ⟨g,o+i,none⟩=false:=by
   obtain ⟨lo,hi'⟩:=fz
   simp only[World.frozen?,hg,Bool.and_eq_false_iff,decide_eq_false_iff_not]
   rcases hfz with h | h
   ·simp only at h; right; omega
   simp only at h; left; omega
  have hst:(store ((⟨g,o,none⟩:Addr).add i) v).run P w = .ok () (w.setRow g (cur.setIfInBounds (o+i) v)):=by
   rw [hadd,run_store P w _ v _ (h1 v (by simp)),hcell]
   simp [hfro,setCell_eq_setRow w g (o+i) cur t fz v hg]
  have ih:=zdo P g o t fz rest (i+1) (cur.setIfInBounds (o+i) v) (w.setRow g (cur.setIfInBounds (o+i) v)) (setRow_heap w g cur _ t _ hg) (hfz.of (by simp)) (by simp at hl ⊢; omega) (fun x hx=>h1 x (by simp [hx]))
  simp only[storeCells,Sem.run_bind,hst,Result.andThen_ok,ih,setRow_setRow]
  congr 3
  have e:=list_seg_step cur.toList (o+i) v rest (by simp at hl ⊢; omega)
  simpa [Array.toList_setIfInBounds,Nat.add_assoc] using e
theorem zh7 (hi:Inv F G w) {K:PV→Store→Prop} {R:Value→World→Prop} (hk:Goes F G w K R) {et sz:Nat} {cells:List PV} {cs:Array Value} {d:Nat} (hd:w.drawn≤d)
  (hle:cells.length≤cs.size) (hc:∀ (i:Nat) p,cells[i]?=some p→p.isCell=true∧∃ v,cs[i]?=some v∧VR w.heap F G p v) (v:PV) (cv:Value)
  (hv:∀ (F':Nat→Prop) (G':GSt) (w':World),G'.obs[G.obs.length]?=some (.arr G.tick et sz cells,⟨w.heap.size,cs.size⟩)→G.tick<G'.tick→VR w'.heap F' G' v cv)
  (h:K v (G.er.push et sz cells)):R cv { w with heap:=w.heap.push (.cells cs et),drawn:=d }:=by
 obtain ⟨h1,h2⟩:=zvr hi (.arr G.tick et sz cells) cs.size { w with heap:=w.heap.push (.cells cs et),drawn:=d } d rfl hd ⟨_,rfl⟩ rfl
  ⟨cs,⟨(0,0),by simp,.inl rfl⟩,rfl,hle,hc⟩
 refine hk v cv _ _ _ ?_ h1 h2 (hv _ _ _ (by simp) (Nat.lt_succ_self _))
 rw [z0v]; exact h
theorem z9o {et sz:Nat} {cells:List PV} {l:Lc} (F':Nat→Prop) (G':GSt) (w':World) (h:G'.obs[G.obs.length]?=some (.arr G.tick et sz cells,l)) (ht:G.tick<G'.tick) (hb:l.blk=w.heap.size) :
  VR w'.heap F' G' (.ref G.er.obs.length G.er.tick 0) (.pointer (some ⟨w.heap.size,0,none⟩)):=by
 have:G.er.obs.length=G.obs.length:=by simp [GSt.er]
 rw [this,← hb]
 exact zx3 h ht 0
theorem zvg {et sz n:Nat} {cells:List PV} {l:Lc} {cap:Nat} (F':Nat→Prop) (G':GSt) (w':World) (h:G'.obs[G.obs.length]?=some (.arr G.tick et sz cells,l)) (ht:G.tick<G'.tick) (hb:l.blk=w.heap.size)
  (hn:n≤cap) (hm:cap≤maxLen) (hr:cap*sz=l.room) :
  VR w'.heap F' G' (.loc G.er.obs.length G.er.tick 0 n) (.slice (some ⟨w.heap.size,0,none⟩) n cap):=by
 have:G.er.obs.length=G.obs.length:=by simp [GSt.er]
 rw [this]
 refine .loc _ _ _ _ _ _ _ ht fun ob l' h2 _=>?_
 rw [h]at h2
 cases h2
 exact ⟨et,sz,cells,rfl,by rw [hb],rfl,hn,hm,by omega⟩
theorem zsu {p:PV} (h:zb9 p.cells):p.isDef=true:=by
 cases p with
 | undef=>have:=h .undef (by simp [PV.cells]); simp [PV.isCell]at this
 | _=>rfl
theorem zmz {ps:List PV} {vs:Array Value} (h:Row w.heap F G ps vs) (hc:zb9 ps):∀ (i:Nat) p,ps[i]?=some p→p.isCell=true∧∃ v,vs[i]?=some v∧VR w.heap F G p v:=by
 intro i p hp
 have hlt:i<vs.size:=by rw [← h.1]; exact (List.getElem?_eq_some_iff.1 hp).1
 exact ⟨hc p (List.mem_of_getElem? hp),vs[i],by simp [hlt],h.2 i p _ hp (by simp [hlt])⟩
theorem zhb (z:List PV):∀ n,(repz z n).length=n*z.length
 | 0=>by simp [repz]
 | n+1=>by simp [repz,zhb z n,Nat.succ_mul,Nat.add_comm]
theorem z4c (z:List PV):∀ (n i:Nat),i<n*z.length→(repz z n)[i]?=z[i % z.length]?
 | 0,i,h=>by simp at h
 | n+1,i,h=>by
  rw [Nat.succ_mul]at h
  unfold repz
  by_cases hi:i<z.length
  ·rw [List.getElem?_append_left hi,Nat.mod_eq_of_lt hi]
  rw [List.getElem?_append_right (by omega),z4c z n _ (by omega)]
  congr 1
  exact (Nat.mod_eq_sub_mod (by omega)).symm
theorem zt1 {z:List PV} (h:zb9 z):∀ n,zb9 (repz z n)
 | 0=>by simp [repz,zb9]
 | n+1=>by
  intro p hp
  rcases List.mem_append.1 hp with h1 | h1
  ·exact h p h1
  exact zt1 h n p h1
theorem zvx {z:List PV} {zs:Array Value} {H:Array Obj} (h:Row H F G z zs) (n:Nat):Row H F G (repz z n) (madeCells zs (n*zs.size)):=by
 refine ⟨by rw [zhb,size_madeCells,h.1],fun i p v h1 h2=>?_⟩
 have hlt:i<n*z.length:=by rw [← zhb]; exact (List.getElem?_eq_some_iff.1 h1).1
 rw [z4c z n i hlt]at h1
 have hz:i % z.length<zs.size:=by rw [← h.1]; exact (List.getElem?_eq_some_iff.1 h1).1
 have hlt':i<n*zs.size:=by rw [← h.1]; exact hlt
 simp only[madeCells,Array.getElem?_map]at h2
 rw [Array.getElem?_range,if_pos hlt']at h2
 simp only[qO,Option.some.injEq]at h2
 subst h2
 refine h.2 (i % z.length) p _ h1 ?_
 rw [h.1]at hz ⊢
 simp [hz]
theorem z49 (hT:zby P T) (hi:Inv F G w) {o:Oper} {t:TypeId} (hop:o.op = .alloc t) {K:PV→Store→Prop} (h:pOp P T e G.er o.op K) {next:Act→World→Prop} {Q:Exit→Act→World→Prop}
  (hk:Goes F G w K fun cv w'=>next (a.put o.dst cv) w'):o.wp P a w next Q:=by
 rw [hop]at h
 obtain ⟨h1,h2⟩:=h
 obtain ⟨i,z,k1,k2,k3,k4,k5,_⟩:=ziu (F:=F) (G:=G) hT h1 (H:=w.heap)
 have hr:(execOp a.eval o).run P w = .ok (.value (.pointer (some ⟨w.heap.size,0,none⟩))) (w.alloc (.cells z.cells t)):=by
  simp [execOp,hop,Instr.alloc,zeroValue,typeInfo,k1,k2,newVar,newRow]
 unfold Oper.wp
 rw [hr]
 exact zh7 (d:=w.drawn) hi hk (qR _) (by rw [k3.1]; exact qR _) (zmz k3 k5) _ _ (fun F' G' w' q1 q2=>z9o F' G' w' q1 q2 rfl) h2
theorem ycz (hT:zby P T) (hi:Inv F G w) (he:zfi w.heap F G e a) {o:Oper} {t:TypeId} {x:Operand} (hop:o.op = .box t x) {K:PV→Store→Prop} (h:pOp P T e G.er o.op K) {next:Act→World→Prop} {Q:Exit→Act→World→Prop}
  (hk:Goes F G w K fun cv w'=>next (a.put o.dst cv) w'):o.wp P a w next Q:=by
 rw [hop]at h
 obtain ⟨h1,h2,h3,h4⟩:=h
 have hr:(execOp a.eval o).run P w = .ok (.value (.pointer (some ⟨w.heap.size,0,none⟩))) (w.alloc (.cells (a.eval x).cells t)):=by
  simp [execOp,hop,Instr.box,newVar,newRow]
 have k3:=zqc (he.ev x) (zsu h3)
 unfold Oper.wp
 rw [hr]
 exact zh7 (d:=w.drawn) hi hk (qR _) (by rw [k3.1]; exact qR _) (zmz k3 h3) _ _ (fun F' G' w' q1 q2=>z9o F' G' w' q1 q2 rfl) h4
theorem zoy {place:Nat→Option (Nat × Nat)}:∀ (parts:List (Nat × PV)) (cs out:List PV),zi0 T place cs parts=some out→out.length=cs.length
 | [],cs,out,h=>by simp [zi0]at h; rw [h]
 | (k,p)::parts,cs,out,h=>by
  simp only[zi0]at h
  cases hpl:place k with
  | none=>simp [hpl]at h
  | some q =>
   simp only[hpl]at h
   split at h
   ·rename_i hc
    rw [zoy parts _ out h,zkb (by omega)]
   cases h
theorem zqa (hT:zby P T) (hi:Inv F G w) (he:zfi w.heap F G e a) {o:Oper} {t:TypeId} {n:Nat} {parts:Array (Nat × Operand)} (hop:o.op = .buildSlice t n parts) {K:PV→Store→Prop}
  (h:pOp P T e G.er o.op K) {next:Act→World→Prop} {Q:Exit→Act→World→Prop}
  (hk:Goes F G w K fun cv w'=>next (a.put o.dst cv) w'):o.wp P a w next Q:=by
 rw [hop]at h
 simp only[pOp]at h
 split at h
 ·rename_i et ht
  obtain ⟨h0,h1,h2⟩:=h
  split at h2
  ·rename_i cells hf
   obtain ⟨h3,h4⟩:=h2
   have het:=zed hT ht
   obtain ⟨i,z,k1,k2,k3,k4,k5,_⟩:=ziu (F:=F) (G:=G) hT het (H:=w.heap)
   have hrow:Row w.heap F G (repz (T et).zero n) (madeCells z.cells (n*(T et).size)):=by rw [← k4]; exact zvx k3 n
   obtain ⟨cout,q1,q2⟩:=zj0 (T:=T) (w:=w) (F:=F) (G:=G) _ (parts.toList.map fun p=>(p.1,a.eval p.2)) _ _ _ hrow (by simp) (fun i x y h1 h2=>by
    rw [List.getElem?_map]at h1 h2
    cases hp:parts.toList[i]? with
    | none=>rw [hp]at h1; cases h1
    | some p=>rw [hp]at h1 h2; cases h1; cases h2; exact ⟨rfl,he.ev p.2⟩) hf
   have hparts:(parts.map fun p=>(p.1,a.eval p.2)).toList=(parts.toList.map fun p=>(p.1,a.eval p.2)):=Array.toList_map
   have hzv:(zeroValue et).run P w = .ok z w:=by simp [zeroValue,typeInfo,k1,k2]
   have hroom:¬ (n*(T et).size>16777216):=by omega
   have hr:(execOp a.eval o).run P w = .ok (.value (.slice (some ⟨w.heap.size,0,none⟩) n n)) (w.alloc (.cells cout et)):=by
    simp only[execOp,hop,Instr.buildSlice,Sem.run_bind,run_underlying (zci hT ht),Result.andThen_ok,zch hT het]
    have e1:(2 ^ 24:Nat)=16777216:=rfl
    rw [e1,if_neg hroom]
    by_cases hz0:n*(T et).size=0
    ·have:madeCells z.cells (n*(T et).size)=(Array.range (n*(T et).size)).map ((#[]:Array Value)[· % (#[]:Array Value).size]!):=by
      rw [hz0]; simp [madeCells]
     rw [this]at q1
     simp only[hz0,if_true,Sem.run_pure,Result.andThen_ok,Sem.run_bind,hparts]at q1 ⊢
     rw [q1]
     rfl
    simp only[hz0,if_false,Sem.run_bind,hzv,Sem.run_pure,Result.andThen_ok,hparts]
    unfold madeCells at q1
    rw [q1]
    rfl
   unfold Oper.wp
   rw [hr]
   have hroom2:n*(T et).size=cout.size:=by rw [← q2.1,zoy _ _ _ hf,zhb,k3.1,k4]
   exact zh7 (d:=w.drawn) hi hk (qR _) (by rw [q2.1]; exact qR _) (zmz q2 h3) _ _
    (fun F' G' w' q1 q2=>zvg F' G' w' q1 q2 rfl (qR _) (by simp only[maxLen]; omega) hroom2) h4
  exact h2.elim
 exact h.elim
theorem zse (hT:zby P T) (hi:Inv F G w) (he:zfi w.heap F G e a) {o:Oper} {t:TypeId} {l c:Operand} (hop:o.op = .makeSlice t l c) {K:PV→Store→Prop}
  (h:pOp P T e G.er o.op K) {next:Act→World→Prop} {Q:Exit→Act→World→Prop}
  (hk:Goes F G w K fun cv w'=>next (a.put o.dst cv) w'):o.wp P a w next Q:=by
 rw [hop]at h
 simp only[pOp]at h
 split at h
 ·rename_i et kl n kc m ht hl hc
  obtain ⟨rfl,h1,h2,h3,h4⟩:=h
  have hl':=he.ev l
  rw [hl]at hl'
  have hc':=he.ev c
  rw [hc]at hc'
  have el:=hl'.int
  have ec:=hc'.int
  have het:=zed hT ht
  obtain ⟨i,z,k1,k2,k3,k4,k5,_⟩:=ziu (F:=F) (G:=G) hT het (H:=w.heap)
  obtain ⟨i',d,z',j1,j2,j3,j4,j5,j6,_⟩:=(hT et het).ex
  rw [k1]at j1
  cases j1
  have hrow:Row w.heap F G (repz (T et).zero n.toNat) (madeCells z.cells (n.toNat*i.size)):=by rw [j4,← k4]; exact zvx k3 _
  have hr:=run_make (P:=P) w t et i z (zci hT ht) k1 k2 kl kc n n h1 (Int.le_refl _) (by rw [j5]; exact h2) h3
  have hr':(execOp a.eval o).run P w = .ok (.value (.slice (some ⟨w.heap.size,0,none⟩) n.toNat n.toNat)) (w.alloc (.cells (madeCells z.cells (n.toNat*i.size)) et)):=by
   simp only[execOp,hop,Sem.run_bind,el,ec,hr,Result.andThen_ok,Sem.run_pure]
  unfold Oper.wp
  rw [hr']
  exact zh7 (d:=w.drawn) hi hk (qR _) (by rw [hrow.1]; exact qR _) (zmz hrow (zt1 k5 _)) _ _
   (fun F' G' w' q1 q2=>zvg F' G' w' q1 q2 rfl (qR _) (by simp [maxLen]; omega) (by simp [size_madeCells,j4])) h4
 exact h.elim
theorem zx0 (hi:Inv F G w) {o:Oper} {t:TypeId} {r:Option Operand} (hop:o.op = .makeMap t r) {K:PV→Store→Prop}
  (h:pOp P T e G.er o.op K) {next:Act→World→Prop} {Q:Exit→Act→World→Prop}
  (hk:Goes F G w K fun cv w'=>next (a.put o.dst cv) w'):o.wp P a w next Q:=by
 rw [hop]at h
 obtain ⟨h1,h2⟩:=h
 obtain rfl:r=none:=by cases r <;> simp_all
 have hr:(execOp a.eval o).run P w = .ok (.value (.map (some w.heap.size))) (w.alloc (.map #[] 0)):=by
  simp [execOp,hop,Instr.makeMap]
 unfold Oper.wp
 rw [hr]
 obtain ⟨q1,q2⟩:=zvr hi (.map G.tick []) 0 (w.alloc (.map #[] 0)) w.drawn rfl (qR _) ⟨_,rfl⟩ rfl ⟨#[],0,by simp [World.alloc,-World.alloc_eq],rfl,by simp⟩
 refine hk (.mp G.er.obs.length G.er.tick) _ _ _ _ ?_ q1 q2 ?_
 ·rw [z0v]; exact h2
 have:G.er.obs.length=G.obs.length:=by simp [GSt.er]
 rw [this]
 exact .mp _ _ _ (Nat.lt_succ_self _) fun ob l hob _=>by simp at hob; obtain ⟨rfl,rfl⟩:=hob; exact ⟨[],rfl,rfl⟩
theorem z6s (hT:zby P T) (hi:Inv F G w) (he:zfi w.heap F G e a) {o:Oper} {t:TypeId} {ad x:Operand} (hop:o.op = .store t ad x) {K:PV→Store→Prop}
  (h:pOp P T e G.er o.op K) {next:Act→World→Prop} {Q:Exit→Act→World→Prop}
  (hk:Goes F G w K fun cv w'=>next (a.put o.dst cv) w'):o.wp P a w next Q:=by
 rw [hop]at h
 simp only[pOp]at h
 split at h
 ·rename_i ob ver off ha
  split at h
  ·rename_i v et sz cells hob
   obtain ⟨rfl,h1,h2,h3,h4,h5⟩:=h
   obtain ⟨l,hG⟩:=zf3 hob
   have hx:=he.ev ad
   rw [ha]at hx
   obtain ⟨_,_,_,hG2,ea,hver⟩:=hx.ref_at hi (cells:=cells) (by simp [Store.cellsOf,hob])
   rw [hG]at hG2
   cases hG2
   obtain ⟨cur,⟨fz,q1,qz⟩,q2,q3,q4⟩:=hi.arr _ _ _ _ _ _ hG
   obtain ⟨r1,r2⟩:=zqc (he.ev x) (zsu h4)
   have hone:∀ u∈(a.eval x).cells.toList,u.oneCell'=true:=by
    intro u hu
    obtain ⟨k,hk⟩:=List.getElem?_of_mem hu
    have hlt:k<(e.ev x).cells.length:=by rw [r1]; simpa using (List.getElem?_eq_some_iff.1 hk).1
    exact (r2 k _ u (List.getElem?_eq_getElem hlt) (by simpa using hk)).oneCell (h4 _ (List.getElem_mem hlt))
   have hst:=zdo P l.blk off et fz (a.eval x).cells.toList 0 cur w q1 qz (by simp; omega) hone
   have hsz:=zch hT h1 w
   have hr:(execOp a.eval o).run P w = .ok .skip (w.setRow l.blk (cur.toList.take (off+0)++(a.eval x).cells.toList++cur.toList.drop (off+0+(a.eval x).cells.toList.length)).toArray):=by
    have hne:(a.eval x).cells.size=(T t).size:=by rw [← r1,h2]
    simp only[execOp,hop,Instr.storeAt,ea,Instr.sureAddr,storeVar,Sem.run_bind,Sem.run_pure,Result.andThen_ok,hsz,hne,ne_eq,not_true_eq_false,if_false,hst]
   unfold Oper.wp
   rw [hr]
   have hcont:Holds w.heap F G (w.setRow l.blk (cur.toList.take (off+0)++(a.eval x).cells.toList++cur.toList.drop (off+0+(a.eval x).cells.toList.length)).toArray).heap
     (.arr v et sz (spl cells off (e.ev x).cells)) l:=by
    refine ⟨_,⟨fz,setRow_heap w l.blk cur _ et _ q1,ycn.of qz (by simp; omega)⟩,by simp; omega,by rw [zkb (by omega)]; exact q3,fun i p hp=>?_⟩
    rw [z11 (by omega)]at hp
    split at hp
    ·rename_i hin
     have hlt:i - off<(e.ev x).cells.length:=(List.getElem?_eq_some_iff.1 hp).1
     have hlt2:i - off<(a.eval x).cells.size:=by rw [← r1]; exact hlt
     refine ⟨h4 p (List.mem_of_getElem? hp),(a.eval x).cells[i - off],?_,r2 _ _ _ hp (by simp [hlt2])⟩
     simp only[Nat.add_zero]
     rw [List.getElem?_toArray,List.append_assoc,List.getElem?_append_right (by simp; omega),List.getElem?_append_left (by simp; omega)]
     have:i - (List.take off cur.toList).length=i - off:=by simp; omega
     rw [this]
     simp [hlt2]
    rename_i hin
    obtain ⟨p1,u,p2,p3⟩:=q4 i p hp
    refine ⟨p1,u,?_,p3⟩
    have hlt:i<cells.length:=(List.getElem?_eq_some_iff.1 hp).1
    simp only[Nat.add_zero]
    rw [List.getElem?_toArray]
    by_cases hi1:i<off
    ·rw [List.append_assoc,List.getElem?_append_left (by simp; omega),List.getElem?_take,if_pos hi1]
     simpa using p2
    rw [List.getElem?_append_right (by simp; omega),List.getElem?_drop]
    have:off+(a.eval x).cells.toList.length+(i - (List.take off cur.toList++(a.eval x).cells.toList).length)=i:=by simp; omega
    rw [this]
    simpa using p2
   obtain ⟨k1,k2⟩:=zh2 hi hG (.arr v et sz (spl cells off (e.ev x).cells)) l G.tick
    (w.setRow l.blk (cur.toList.take (off+0)++(a.eval x).cells.toList++cur.toList.drop (off+0+(a.eval x).cells.toList.length)).toArray) rfl rfl rfl (qR _) (by simp) (.inl rfl)
    (fun b _ hb=>setRow_other _ _ _ _ hb) (qR _) (show v<G.tick from hi.ver _ _ _ hG) (.inl ⟨rfl,⟨rfl,rfl⟩,rfl⟩) hcont
   exact hk (.tup []) undef _ _ _ (by rw [zja]; exact h5) k1 k2 (.imm _ _ (.tup [] #[] rfl (by simp)))
  exact h.elim
 exact h.elim
theorem zy4 (hi:Inv F G w) {ob v et sz:Nat} {cells:List PV} {l:Lc} (hG:G.obs[ob]?=some (.arr v et sz cells,l)) {off:Nat} {ps:List PV} {vs:Array Value}
  (hr:Row w.heap F G ps vs) (h3:off+ps.length≤cells.length) (h4:zb9 ps) :
  ∃ w',(storeCells ⟨l.blk,off,none⟩ vs.toList).run P w = .ok () w'∧Inv F ⟨G.obs.set ob (.arr v et sz (spl cells off ps),l),G.tick⟩ w'∧Next F G w F ⟨G.obs.set ob (.arr v et sz (spl cells off ps),l),G.tick⟩ w':=by
 obtain ⟨cur,⟨fz,q1,qz⟩,q2,q3,q4⟩:=hi.arr _ _ _ _ _ _ hG
 obtain ⟨r1,r2⟩:=hr
 have hone:∀ u∈vs.toList,u.oneCell'=true:=by
  intro u hu
  obtain ⟨k,hk⟩:=List.getElem?_of_mem hu
  have hlt:k<ps.length:=by rw [r1]; simpa using (List.getElem?_eq_some_iff.1 hk).1
  exact (r2 k _ u (List.getElem?_eq_getElem hlt) (by simpa using hk)).oneCell (h4 _ (List.getElem_mem hlt))
 have hst:=zdo P l.blk off et fz vs.toList 0 cur w q1 qz (by simp; omega) hone
 refine ⟨_,hst,?_⟩
 have hcont:Holds w.heap F G (w.setRow l.blk (cur.toList.take (off+0)++vs.toList++cur.toList.drop (off+0+vs.toList.length)).toArray).heap
   (.arr v et sz (spl cells off ps)) l:=by
  refine ⟨_,⟨fz,setRow_heap w l.blk cur _ et _ q1,ycn.of qz (by simp; omega)⟩,by simp; omega,by rw [zkb (by omega)]; exact q3,fun i p hp=>?_⟩
  rw [z11 (by omega)]at hp
  split at hp
  ·rename_i hin
   have hlt:i - off<ps.length:=(List.getElem?_eq_some_iff.1 hp).1
   have hlt2:i - off<vs.size:=by rw [← r1]; exact hlt
   refine ⟨h4 p (List.mem_of_getElem? hp),vs[i - off],?_,r2 _ _ _ hp (by simp [hlt2])⟩
   simp only[Nat.add_zero]
   rw [List.getElem?_toArray,List.append_assoc,List.getElem?_append_right (by simp; omega),List.getElem?_append_left (by simp; omega)]
   have:i - (List.take off cur.toList).length=i - off:=by simp; omega
   rw [this]
   simp [hlt2]
  rename_i hin
  obtain ⟨p1,u,p2,p3⟩:=q4 i p hp
  refine ⟨p1,u,?_,p3⟩
  have hlt:i<cells.length:=(List.getElem?_eq_some_iff.1 hp).1
  simp only[Nat.add_zero]
  rw [List.getElem?_toArray]
  by_cases hi1:i<off
  ·rw [List.append_assoc,List.getElem?_append_left (by simp; omega),List.getElem?_take,if_pos hi1]
   simpa using p2
  rw [List.getElem?_append_right (by simp; omega),List.getElem?_drop]
  have:off+vs.toList.length+(i - (List.take off cur.toList++vs.toList).length)=i:=by simp; omega
  rw [this]
  simpa using p2
 exact zh2 hi hG (.arr v et sz (spl cells off ps)) l G.tick
  (w.setRow l.blk (cur.toList.take (off+0)++vs.toList++cur.toList.drop (off+0+vs.toList.length)).toArray) rfl rfl rfl (qR _) (by simp) (.inl rfl)
  (fun b _ hb=>setRow_other _ _ _ _ hb) (qR _) (show v<G.tick from hi.ver _ _ _ hG) (.inl ⟨rfl,⟨rfl,rfl⟩,rfl⟩) hcont
theorem z5d (hT:zby P T) (hi:Inv F G w) (he:zfi w.heap F G e a) {o:Oper} {x:Operand} {t:TypeId}
  (hop:o.op = .call { callee := .builtin .clear,args := #[x],argTypes := #[t] }) {K:PV→Store→Prop}
  (h:zto T t G.er (e.ev x) K) {next:Act→World→Prop} {Q:Exit→Act→World→Prop}
  (hk:Goes F G w K fun cv w'=>next (a.put o.dst cv) w'):o.wp P a w next Q:=by
 unfold zto at h
 split at h
 case h_2=>exact h.elim
 rename_i el ht
 split at h
 case h_2=>exact h.elim
 rename_i ob ver off n hx
 split at h
 case h_2=>exact h.elim
 rename_i v et sz cells hob
 obtain ⟨rfl,h1,h2,h3,h4⟩:=h
 obtain ⟨l,hG⟩:=zf3 hob
 have hxv:=he.ev x
 rw [hx]at hxv
 obtain ⟨_,_,_,cap,hG2,ea,hver,_⟩:=hxv.loc_at hi (cells:=cells) (by simp [Store.cellsOf,hob])
 rw [hG]at hG2
 cases hG2
 obtain ⟨i,z,k1,k2,k3,k4,k5,_⟩:=ziu (F:=F) (G:=G) hT h1 (H:=w.heap)
 have hrow:Row w.heap F G (repz (T el).zero n) (Builtin.zeroCells z.cells n):=zvx k3 n
 have hzv:(zeroValue el).run P w = .ok z w:=by simp [zeroValue,typeInfo,k1,k2]
 obtain ⟨w',hst,q1,q2⟩:=zy4 (P:=P) hi hG hrow h2 h3
 have hr:(execOp a.eval o).run P w = .ok (.value (.tuple #[])) w':=by
  have hcl:(Builtin.clear_ #[t] o.type #[a.eval x]).run P w = .ok (.tuple #[]) w':=by
   by_cases hn:n=0
   ·subst hn
    have hz0:Builtin.zeroCells z.cells 0 = #[]:=by simp [Builtin.zeroCells]
    rw [hz0]at hst
    simp [storeCells]at hst
    subst hst
    simp [Builtin.clear_,ea,run_underlying (zci hT ht)]
   obtain ⟨m,rfl⟩:∃ m,n=m+1:=⟨n - 1,by omega⟩
   simp only[Builtin.clear_,ea,List.getElem?_toArray,List.getElem?_cons_zero,Sem.run_bind,run_underlying (zci hT ht),Result.andThen_ok,hzv,hst,Sem.run_pure]
  simp only[execOp,hop,resolve,invoke,builtin,List.map_toArray,List.map_cons,List.map_nil,Sem.run_bind,Sem.run_pure,Result.andThen_ok,hcl]
 unfold Oper.wp
 rw [hr]
 exact hk (.tup []) (.tuple #[]) _ _ _ (by rw [zja]; exact h4) q1 q2 (.imm _ _ (.tup [] #[] rfl (by simp)))
theorem z7z (hT:zby P T) (hi:Inv F G w) (he:zfi w.heap F G e a) {o:Oper} {x y:Operand} {t u:TypeId}
  (hop:o.op = .call { callee := .builtin .copy,args := #[x,y],argTypes := #[t,u] }) {K:PV→Store→Prop}
  (h:z54 T t G.er (e.ev x) (e.ev y) K) {next:Act→World→Prop} {Q:Exit→Act→World→Prop}
  (hk:Goes F G w K fun cv w'=>next (a.put o.dst cv) w'):o.wp P a w next Q:=by
 unfold z54 at h
 split at h
 case h_2=>exact h.elim
 rename_i el ht
 split at h
 case h_2=>exact h.elim
 rename_i m ys hys
 obtain ⟨hyl,hy⟩:=zgr hi (he.ev y) hys
 split at h
 case h_2=>exact h.elim
 rename_i ob ver off n hx
 split at h
 case h_2=>exact h.elim
 rename_i v et sz cells hob
 obtain ⟨rfl,rfl,h3,h4⟩:=h
 obtain ⟨l,hG⟩:=zf3 hob
 have hxv:=he.ev x
 rw [hx]at hxv
 obtain ⟨_,_,_,cap,hG2,ea,hver,_⟩:=hxv.loc_at hi (cells:=cells) (by simp [Store.cellsOf,hob])
 rw [hG]at hG2
 cases hG2
 have hel:=zed hT ht
 obtain ⟨i,d,z,i1,i2,i3,i4,_⟩:=(hT el hel).ex
 have hsz:(sizeOf el).run P w = .ok (T el).size w:=by simp [sizeOf,typeInfo,i1,i4]
 have key:∃ vs:List Value,Row w.heap F G (ys.take (min m n*(T el).size)) vs.toArray∧zb9 (ys.take (min m n*(T el).size)) ∧
   (Builtin.firstCells (T el).size (Nat.min m n) (a.eval y)).run P w = .ok vs.toArray w∧(Builtin.lenOf (a.eval y)).run P w = .ok m w:=by
  rcases hy with ⟨ey,rfl⟩ | ⟨b,off',cap',ey,hcap,hcs⟩
  ·have e0:ys=[]:=List.eq_nil_of_length_eq_zero (by omega)
   subst e0
   refine ⟨[],⟨by simp,by simp⟩,by simp [zb9],?_,?_⟩
   ·rw [ey]; simp [Builtin.firstCells]
   rw [ey]; simp [Builtin.lenOf]
  have hcs2:=hcs.take (min m n*(T el).size)
  obtain ⟨vs,v1,v2,v3,v4⟩:=hcs2.values
  have hl:vs.length=Nat.min m n*(T el).size:=by
   rw [v1,List.length_take,hyl]
   exact Nat.min_eq_left (Nat.mul_le_mul_right _ (Nat.min_le_left _ _))
  have hr:=run_loadCells_list (P:=P) w ⟨b,off',none⟩ vs (fun j u hu=>by rw [add_lit,zgv]; exact v2 j u hu)
  rw [hl]at hr
  refine ⟨vs,⟨by rw [List.size_toArray]; exact v1.symm,fun i p q h1 h2=>v3 i p q h1 (by simpa using h2)⟩,fun p hp=>?_,?_,?_⟩
  ·obtain ⟨j,hj⟩:=List.mem_iff_getElem?.1 hp
   exact (hcs2 j p hj).1
  ·rw [ey]; exact hr
  rw [ey]; simp [Builtin.lenOf]
 obtain ⟨vs,hrow,hall,hfc,hln⟩:=key
 obtain ⟨w',hst,q1,q2⟩:=zy4 (P:=P) hi hG hrow h3 hall
 have hr:(execOp a.eval o).run P w = .ok (.value (goInt (Nat.min m n:Nat))) w':=by
  have hcl:(Builtin.copy_ #[t,u] o.type #[a.eval x,a.eval y]).run P w = .ok (goInt (Nat.min m n:Nat)) w':=by
   simp only[Builtin.copy_,ea,List.getElem?_toArray,List.getElem?_cons_zero,List.getElem?_cons_succ,Sem.run_bind,run_underlying (zci hT ht),Result.andThen_ok,hln,hsz,hfc,hst,Sem.run_pure]
  simp only[execOp,hop,resolve,invoke,builtin,List.map_toArray,List.map_cons,List.map_nil,Sem.run_bind,Sem.run_pure,Result.andThen_ok,hcl]
 unfold Oper.wp
 rw [hr]
 exact hk (.int .i64 ((min m n:Nat):Int)) (goInt (Nat.min m n:Nat)) _ _ _ (by rw [zja]; exact h4) q1 q2 (.imm _ _ (.int _ _))
end
end
section
section
variable {P:Program} {T:Tab} {F:Nat→Prop} {G:GSt} {w:World} {e:Env} {a:Act}
theorem ztg (hT:zby P T) {kt:TypeId} {k:PV} {ck:Value} (hk:VR w.heap F G k ck) (hkd:TK.keyed T kt k=true) {k':PV} {ck':Value} (hk':VR w.heap F G k' ck')
  (hs:zhd k k'=some true):Instr.sameBits 10000 ck' ck=true:=by
 rcases zk4 hT hk hkd with ⟨q,n,ht,rfl,rfl⟩ | ⟨s,bs,ht,rfl,rfl,hbs⟩
 ·cases k' <;> simp only[zhd]at hs <;> try (cases hs; done)
  rw [hk'.int]
  split at hs
  ·rename_i h1; subst h1; simp at hs; subst hs; simp [Instr.sameBits]
  cases hs
 cases k' <;> simp only[zhd]at hs <;> try (cases hs; done)
 obtain ⟨b2,e2,e3⟩:=hk'.str
 rw [e2]
 have:b2=bs:=by
  have h2:b2.data=bs.data:=Array.ext' (by rw [e3,hbs]; simp at hs; exact hs.symm)
  cases b2; cases bs; simp_all
 subst this
 simp only[Instr.sameBits,beq_toListBytes]
 simp
theorem zjb {x:PV}:∀ (es:List (PV × PV)) (i j:Nat) (p:PV),findKey x es i=some (some (j,p))→∃ k',es[j - i]?=some (k',p)∧i≤j∧zhd x k'=some true
 | [],i,j,p,h=>by simp [findKey]at h
 | (k,v)::r,i,j,p,h=>by
  simp only[findKey]at h
  split at h
  ·rename_i hs; cases h; exact ⟨k,by simp,qR _,hs⟩
  ·obtain ⟨k',h1,h2,h3⟩:=zjb r (i+1) j p h
   refine ⟨k',?_,by omega,h3⟩
   have:j - i=(j - (i+1))+1:=by omega
   rw [this]; simpa using h1
  cases h
theorem zsf (hT:zby P T) (hi:Inv F G w) (he:zfi w.heap F G e a) {o:Oper} {t:TypeId} {m k x:Operand} (hop:o.op = .mapUpdate t m k x) {K:PV→Store→Prop}
  (h:pOp P T e G.er o.op K) {next:Act→World→Prop} {Q:Exit→Act→World→Prop}
  (hk:Goes F G w K fun cv w'=>next (a.put o.dst cv) w'):o.wp P a w next Q:=by
 rw [hop]at h
 simp only[pOp]at h
 split at h
 ·rename_i kt vt ob ver ht hm
  split at h
  ·rename_i v es hob
   obtain ⟨rfl,hkd,h⟩:=h
   obtain ⟨l,hG⟩:=zf3 hob
   have hm':=he.ev m
   rw [hm]at hm'
   cases hcm:a.eval m with
   | map r =>
    rw [hcm]at hm'
    cases hm' with
    | imm _ _ hm'=>cases hm'
    | mp _ _ _ hv hm' =>
     obtain ⟨es',e1,rfl⟩:=hm' _ _ hG rfl
     cases e1
     obtain ⟨ents,clock,h1,h2,h3⟩:=hi.map _ _ _ _ hG
     have hg:(getObj l.blk).run P w = .ok (.map ents clock) w:=by simp [getObj,Sem.run,h1]
     have hck:=zjk (P:=P) hT (he.ev k) hkd false 9999
     obtain ⟨_,d,_,hi1,hi2,_⟩:=(hT kt (zv9 hT ht).1).ex
     have hall:∀ (j:Nat) x en,es[j]?=some x→ents.toList[j]?=some en→VR w.heap F G x.1 en.key∧VR w.heap F G x.2 en.val:=fun j x en p q=>by
      obtain ⟨e',q1,q2,q3⟩:=h3 j x.1 x.2 p
      have:en=e':=by rw [Array.getElem?_toList]at q; rw [q1]at q; cases q; rfl
      subst this; exact ⟨q2,q3⟩
     have hset:∀ ob':Obj,(setObj l.blk ob').run P w = .ok () { w with heap:=w.heap.setIfInBounds l.blk ob' }:=by
      intro ob'
      simp only[setObj,Sem.run,h1]
     have hlt:=hi.blk_lt hG
     have finish:∀ (es2:List (PV × PV)) (ents2:Array MapEntry) (clock2:Nat),ents2.size=es2.length →
       (∀ (i:Nat) k v,es2[i]?=some (k,v)→∃ en,ents2[i]?=some en∧VR w.heap F G k en.key∧VR w.heap F G v en.val) →
       K (.tup []) (G.er.set ob (.map v es2))→next (a.put o.dst undef) { w with heap:=w.heap.setIfInBounds l.blk (.map ents2 clock2) }:=by
      intro es2 ents2 clock2 k1 k2 k3
      obtain ⟨q1,q2⟩:=zh2 hi hG (.map v es2) l G.tick { w with heap:=w.heap.setIfInBounds l.blk (.map ents2 clock2) } rfl rfl rfl (qR _) (by simp) (.inl rfl)
       (fun b _ hb=>by simp [Array.getElem?_setIfInBounds_ne (Ne.symm hb)]) (qR _) (show v<G.tick from hi.ver _ _ _ hG) (.inl ⟨rfl,trivial,rfl⟩)
       ⟨ents2,clock2,by simp [hlt],k1,k2⟩
      exact hk (.tup []) undef _ _ _ (by rw [zja]; exact k3) q1 q2 (.imm _ _ (.tup [] #[] rfl (by simp)))
     split at h
     ·rename_i i0 p0 hf
      obtain ⟨cr,hc1,hc2⟩:=zev hT (he.ev k) hkd d hi2 es ents.toList 0 _ (by simp [h2]) hall hf
      cases cr with
      | none=>exact hc2.elim
      | some cq =>
       obtain ⟨j,c⟩:=cq
       obtain ⟨rfl,hpc,hlt2,_⟩:=hc2
       have hfk:(Instr.findKey kt (a.eval k) ents.toList).run P w = .ok (some (i0,c)) w:=by simp [Instr.findKey,run_underlying hi2,hc1]
       obtain ⟨k',f1,_,f3⟩:=zjb es 0 i0 p0 hf
       simp only[Nat.sub_zero]at f1 hlt2
       obtain ⟨en,g1,g2,g3⟩:=h3 i0 k' p0 f1
       have hst:(Instr.keyThatStays (((ents[i0]?).map (·.key)).getD (a.eval k)) (a.eval k)).run P w = .ok (a.eval k) w:=by
        rw [g1]
        simp only[qO,Option.getD_some]
        unfold Instr.keyThatStays
        rw [if_pos (ztg hT (he.ev k) hkd g2 f3)]
        rfl
       have hr:(execOp a.eval o).run P w = .ok .skip { w with heap:=w.heap.setIfInBounds l.blk (.map (ents.modify i0 fun e=>{ e with key:=a.eval k,val:=a.eval x }) clock) }:=by
        simp only[execOp,hop,hcm,Instr.mapUpdate,Sem.run_bind,run_underlying (zl7 hT ht),Result.andThen_ok,hg,hck,hfk,hst,hset,Sem.run_pure]
       unfold Oper.wp
       rw [hr]
       refine finish (es.set i0 (e.ev k,e.ev x)) _ _ (by simp [h2]) (fun i k v hh=>?_) h
       rw [List.getElem?_set]at hh
       by_cases hii:i0=i
       ·subst hii
        rw [if_pos rfl,if_pos hlt2]at hh
        cases hh
        exact ⟨{ en with key:=a.eval _,val:=a.eval _ },by rw [Array.getElem?_modify,if_pos rfl,g1]; rfl,he.ev _,he.ev _⟩
       rw [if_neg hii]at hh
       obtain ⟨en',r1,r2,r3⟩:=h3 i k v hh
       exact ⟨en',by rw [Array.getElem?_modify,if_neg hii]; exact r1,r2,r3⟩
     ·rename_i hf
      obtain ⟨cr,hc1,hc2⟩:=zev hT (he.ev k) hkd d hi2 es ents.toList 0 _ (by simp [h2]) hall hf
      cases cr with
      | some cq=>exact hc2.elim
      | none =>
       have hfk:(Instr.findKey kt (a.eval k) ents.toList).run P w = .ok none w:=by simp [Instr.findKey,run_underlying hi2,hc1]
       have hr:(execOp a.eval o).run P w = .ok .skip { w with heap:=w.heap.setIfInBounds l.blk (.map (ents.push { key:=a.eval k,val:=a.eval x,born:=clock }) (clock+1)) }:=by
        simp only[execOp,hop,hcm,Instr.mapUpdate,Sem.run_bind,run_underlying (zl7 hT ht),Result.andThen_ok,hg,hck,hfk,hset,Sem.run_pure]
       unfold Oper.wp
       rw [hr]
       refine finish (es++[(e.ev k,e.ev x)]) _ _ (by simp [h2]) (fun i k v hh=>?_) h
       by_cases hii:i<es.length
       ·rw [List.getElem?_append_left hii]at hh
        obtain ⟨en',r1,r2,r3⟩:=h3 i k v hh
        exact ⟨en',by rw [Array.getElem?_push,if_neg (by omega)]; exact r1,r2,r3⟩
       rw [List.getElem?_append_right (by omega)]at hh
       cases hq:i - es.length with
       | zero =>
        rw [hq]at hh; simp at hh
        obtain ⟨rfl,rfl⟩:=hh
        exact ⟨_,by rw [Array.getElem?_push,if_pos (by omega)],he.ev _,he.ev _⟩
       | succ n=>rw [hq]at hh; simp at hh
     exact h.elim
   | _=>rw [hcm]at hm'; cases hm' with | imm _ _ hm'=>cases hm'
  exact h.elim
 exact h.elim
theorem z1b (hT:zby P T) (hi:Inv F G w) (he:zfi w.heap F G e a) {o:Oper} {t:TypeId} {m k x:Operand} (hop:o.op = .insert t m k x) {K:PV→Store→Prop}
  (h:pOp P T e G.er o.op K) {next:Act→World→Prop} {Q:Exit→Act→World→Prop}
  (hk:Goes F G w K fun cv w'=>next (a.put o.dst cv) w'):o.wp P a w next Q:=by
 rw [hop]at h
 simp only[pOp]at h
 split at h
 ·rename_i kt vt ob ver ht hm
  split at h
  ·rename_i v es hob
   obtain ⟨rfl,hkd,h⟩:=h
   obtain ⟨l,hG⟩:=zf3 hob
   have hm':=he.ev m
   rw [hm]at hm'
   cases hcm:a.eval m with
   | map r =>
    rw [hcm]at hm'
    cases hm' with
    | imm _ _ hm'=>cases hm'
    | mp _ _ _ hv hm' =>
     obtain ⟨es',e1,rfl⟩:=hm' _ _ hG rfl
     cases e1
     obtain ⟨ents,clock,h1,h2,h3⟩:=hi.map _ _ _ _ hG
     have hg:(getObj l.blk).run P w = .ok (.map ents clock) w:=by simp [getObj,Sem.run,h1]
     have hck:=zjk (P:=P) hT (he.ev k) hkd false 9999
     obtain ⟨_,d,_,hi1,hi2,_⟩:=(hT kt (zv9 hT ht).1).ex
     have hall:∀ (j:Nat) x en,es[j]?=some x→ents.toList[j]?=some en→VR w.heap F G x.1 en.key∧VR w.heap F G x.2 en.val:=fun j x en p q=>by
      obtain ⟨e',q1,q2,q3⟩:=h3 j x.1 x.2 p
      have:en=e':=by rw [Array.getElem?_toList]at q; rw [q1]at q; cases q; rfl
      subst this; exact ⟨q2,q3⟩
     have hset:∀ ob':Obj,(setObj l.blk ob').run P w = .ok () { w with heap:=w.heap.setIfInBounds l.blk ob' }:=by
      intro ob'
      simp only[setObj,Sem.run,h1]
     have hlt:=hi.blk_lt hG
     have finish:∀ (es2:List (PV × PV)) (ents2:Array MapEntry) (clock2:Nat),ents2.size=es2.length →
       (∀ (i:Nat) k v,es2[i]?=some (k,v)→∃ en,ents2[i]?=some en∧VR w.heap F G k en.key∧VR w.heap F G v en.val) →
       K (.tup []) (G.er.set ob (.map v es2))→next (a.put o.dst undef) { w with heap:=w.heap.setIfInBounds l.blk (.map ents2 clock2) }:=by
      intro es2 ents2 clock2 k1 k2 k3
      obtain ⟨q1,q2⟩:=zh2 hi hG (.map v es2) l G.tick { w with heap:=w.heap.setIfInBounds l.blk (.map ents2 clock2) } rfl rfl rfl (qR _) (by simp) (.inl rfl)
       (fun b _ hb=>by simp [Array.getElem?_setIfInBounds_ne (Ne.symm hb)]) (qR _) (show v<G.tick from hi.ver _ _ _ hG) (.inl ⟨rfl,trivial,rfl⟩)
       ⟨ents2,clock2,by simp [hlt],k1,k2⟩
      exact hk (.tup []) undef _ _ _ (by rw [zja]; exact k3) q1 q2 (.imm _ _ (.tup [] #[] rfl (by simp)))
     split at h
     ·rename_i i0 p0 hf
      obtain ⟨cr,hc1,hc2⟩:=zev hT (he.ev k) hkd d hi2 es ents.toList 0 _ (by simp [h2]) hall hf
      cases cr with
      | none=>exact hc2.elim
      | some cq =>
       obtain ⟨j,c⟩:=cq
       obtain ⟨rfl,hpc,hlt2,_⟩:=hc2
       have hfk:(Instr.findKey kt (a.eval k) ents.toList).run P w = .ok (some (i0,c)) w:=by simp [Instr.findKey,run_underlying hi2,hc1]
       obtain ⟨k',f1,_,f3⟩:=zjb es 0 i0 p0 hf
       simp only[Nat.sub_zero]at f1 hlt2
       obtain ⟨en,g1,g2,g3⟩:=h3 i0 k' p0 f1
       have hst:(Instr.keyThatStays (((ents[i0]?).map (·.key)).getD (a.eval k)) (a.eval k)).run P w = .ok (a.eval k) w:=by
        rw [g1]
        simp only[qO,Option.getD_some]
        unfold Instr.keyThatStays
        rw [if_pos (ztg hT (he.ev k) hkd g2 f3)]
        rfl
       have hr:(execOp a.eval o).run P w = .ok .skip { w with heap:=w.heap.setIfInBounds l.blk (.map (ents.modify i0 fun e=>{ e with key:=a.eval k,val:=a.eval x }) clock) }:=by
        simp only[execOp,hop,hcm,Instr.mapUpdate,Sem.run_bind,run_underlying (zl7 hT ht),Result.andThen_ok,hg,hck,hfk,hst,hset,Sem.run_pure]
       unfold Oper.wp
       rw [hr]
       refine finish (es.set i0 (e.ev k,e.ev x)) _ _ (by simp [h2]) (fun i k v hh=>?_) h
       rw [List.getElem?_set]at hh
       by_cases hii:i0=i
       ·subst hii
        rw [if_pos rfl,if_pos hlt2]at hh
        cases hh
        exact ⟨{ en with key:=a.eval _,val:=a.eval _ },by rw [Array.getElem?_modify,if_pos rfl,g1]; rfl,he.ev _,he.ev _⟩
       rw [if_neg hii]at hh
       obtain ⟨en',r1,r2,r3⟩:=h3 i k v hh
       exact ⟨en',by rw [Array.getElem?_modify,if_neg hii]; exact r1,r2,r3⟩
     ·rename_i hf
      obtain ⟨cr,hc1,hc2⟩:=zev hT (he.ev k) hkd d hi2 es ents.toList 0 _ (by simp [h2]) hall hf
      cases cr with
      | some cq=>exact hc2.elim
      | none =>
       have hfk:(Instr.findKey kt (a.eval k) ents.toList).run P w = .ok none w:=by simp [Instr.findKey,run_underlying hi2,hc1]
       have hr:(execOp a.eval o).run P w = .ok .skip { w with heap:=w.heap.setIfInBounds l.blk (.map (ents.push { key:=a.eval k,val:=a.eval x,born:=clock }) (clock+1)) }:=by
        simp only[execOp,hop,hcm,Instr.mapUpdate,Sem.run_bind,run_underlying (zl7 hT ht),Result.andThen_ok,hg,hck,hfk,hset,Sem.run_pure]
       unfold Oper.wp
       rw [hr]
       refine finish (es++[(e.ev k,e.ev x)]) _ _ (by simp [h2]) (fun i k v hh=>?_) h
       by_cases hii:i<es.length
       ·rw [List.getElem?_append_left hii]at hh
        obtain ⟨en',r1,r2,r3⟩:=h3 i k v hh
        exact ⟨en',by rw [Array.getElem?_push,if_neg (by omega)]; exact r1,r2,r3⟩
       rw [List.getElem?_append_right (by omega)]at hh
       cases hq:i - es.length with
       | zero =>
        rw [hq]at hh; simp at hh
        obtain ⟨rfl,rfl⟩:=hh
        exact ⟨_,by rw [Array.getElem?_push,if_pos (by omega)],he.ev _,he.ev _⟩
       | succ n=>rw [hq]at hh; simp at hh
     exact h.elim
   | _=>rw [hcm]at hm'; cases hm' with | imm _ _ hm'=>cases hm'
  exact h.elim
 exact h.elim
theorem z3g {xs:Array Operand} {f:Operand→PV} {p q:PV} (h:xs.toList.map f=[p,q]):∃ x y,xs = #[x,y]∧p=f x∧q=f y:=by
 obtain ⟨l⟩:=xs
 match l,h with
 | [x,y],h=>simp at h; exact ⟨x,y,rfl,h.1.symm,h.2.symm⟩
theorem zo8 (w:World) (t ty e:TypeId) (i:TypeInfo) (ht:P.underlying t=some (.slice e)) (hi:P.info? e=some i)
  (g sLen sCap:Nat) (cur:Array Value) (fz:Nat × Nat) (hg:w.heap[g]?=some (.cells cur e fz)) (hfz:ycn cur.size fz)
  (a:Addr) (m c:Nat) (news:List Value) (hl:news.length=m*i.size) (hnews:∀ j u,news[j]?=some u→w.cell? (a.add j)=some u) (h1:∀ u∈news,u.oneCell'=true)
  (hroom:sLen+m≤sCap) (hfit:sLen*i.size+news.length≤cur.size) :
  (Builtin.append_ #[t,t] ty #[.slice (some ⟨g,0,none⟩) sLen sCap,.slice (some a) m c]).run P w =
   .ok (.slice (some ⟨g,0,none⟩) (sLen+m) sCap) (w.setRow g (cur.toList.take (sLen*i.size)++news++cur.toList.drop (sLen*i.size+news.length)).toArray):=by
 have hf:=run_firstCells_some (P:=P) w i.size m a m c news hl hnews
 have hst:=zdo P g (sLen*i.size) e fz news 0 cur w hg hfz (by simpa using hfit) h1
 simp only[Nat.add_zero]at hst
 simp [Builtin.append_,run_underlying ht,sizeOf,typeInfo,hi,Builtin.lenOf,hroom,hf,Addr.add_lit,hst]
theorem zhc (t ty el:TypeId) (i:TypeInfo) (ht:P.underlying t=some (.slice el)) (hi:P.info? el=some i) (a:Option Addr) (n c:Nat) (hn:n≤c) :
  (Builtin.append_ #[t,t] ty #[.slice a n c,.slice none 0 0]).run P w = .ok (.slice a n c) w:=by
 simp [Builtin.append_,run_underlying ht,sizeOf,typeInfo,hi,Builtin.lenOf,hn]
 cases a <;> simp [Builtin.firstCells,storeCells]
theorem z0e (hT:zby P T) (hi:Inv F G w) (he:zfi w.heap F G e a) {o:Oper} {x y:Operand} {t:TypeId}
  (hop:o.op = .call { callee := .builtin .append,args := #[x,y],argTypes := #[t,t] }) {K:PV→Store→Prop}
  (h:zjg T t G.er (e.ev x) (e.ev y) K) {next:Act→World→Prop} {Q:Exit→Act→World→Prop}
  (hk:Goes F G w K fun cv w'=>next (a.put o.dst cv) w'):o.wp P a w next Q:=by
 unfold zjg at h
 split at h
 case h_2=>exact h.elim
 rename_i el ht
 split at h
 case h_2=>exact h.elim
 rename_i m ys hys
 obtain ⟨hyl,hy⟩:=zgr hi (he.ev y) hys
 have hel:=zed hT ht
 obtain ⟨i,d,z,i1,i2,i3,i4,i5,i6,i7,i8,i9,i10⟩:=(hT el hel).ex
 have htu:=zci hT ht
 have exec:∀ cv w',(Builtin.append_ #[t,t] o.type #[a.eval x,a.eval y]).run P w = .ok cv w'→(execOp a.eval o).run P w = .ok (.value cv) w':=by
  intro cv w' hr
  simp only[execOp,hop,resolve,invoke,builtin,List.map_toArray,List.map_cons,List.map_nil,Sem.run_bind,Sem.run_pure,Result.andThen_ok,hr]
 split at h
 ·-- nil
  rename_i hx
  have hx':=he.ev x
  rw [hx]at hx'
  have ex:a.eval x = .slice none 0 0:=by
   generalize a.eval x=cx at hx'
   cases hx' with | imm _ _ hx'=>cases hx'; rfl
  split at h
  ·rename_i hm
   subst hm
   have hr:(Builtin.append_ #[t,t] o.type #[a.eval x,a.eval y]).run P w = .ok (.slice none 0 0) w:=by
    rw [ex]
    rcases hy with ⟨ey,_⟩ | ⟨b,off,cap,ey,_,_⟩
    ·rw [ey]; exact zhc t _ el i htu i1 none 0 0 (qR _)
    rw [ey]; simp [Builtin.append_,run_underlying htu,sizeOf,typeInfo,i1,Builtin.lenOf,Builtin.firstCells,loadCells,loadCellsFrom]
   unfold Oper.wp
   rw [exec _ _ hr]
   exact hk .nils _ _ _ _ h hi (Next.refl w) (.imm _ _ .nils)
  rename_i hm
  obtain ⟨h1,h2,h3⟩:=h
  rcases hy with ⟨ey,rfl⟩ | ⟨b,off,cap,ey,hcap,hcs⟩
  ·exact absurd rfl hm
  obtain ⟨vs,v1,v2,v3,v4⟩:=hcs.values
  have hr:=run_append_nil (P:=P) w t o.type el i z htu i1 i6 ⟨b,off,none⟩ m cap vs (by rw [v1,hyl,i4]) (fun j u hu=>by rw [add_lit,zgv]; exact v2 j u hu) (by omega)
   (by simp only[maxLen]at h2; omega) (by rw [i5]; omega)
  have hge:=grownCap_ge w m 0 el
  have hlen:vs.length=m*(T el).size:=by rw [v1,hyl]
  have hsize:(vs.toArray++Builtin.zeroCells z.cells (grownCap w m 0 el - m)).size=grownCap w m 0 el*(T el).size:=by
   rw [Array.size_append,size_zeroCells,i8,List.size_toArray,hlen,← Nat.add_mul]; congr 1; omega
  unfold Oper.wp
  rw [exec _ _ (by rw [ex,ey]; exact hr)]
  refine zh7 (d:=w.drawn+1) hi hk (Nat.le_succ _) (et:=el) (sz:=(T el).size) (cells:=ys) (by rw [hsize,hyl]; exact Nat.mul_le_mul_right _ hge) (fun j p hp=>?_) _ _
   (fun F' G' w' q1 q2=>zvg F' G' w' q1 q2 rfl hge (grownCap_le_maxLen w m 0 el h2) hsize.symm) h3
  have hj:j<vs.length:=by rw [v1]; exact (List.getElem?_eq_some_iff.1 hp).1
  exact ⟨(hcs j p hp).1,vs[j],by rw [Array.getElem?_append_left (by simpa using hj)]; simp [hj],v3 j p _ hp (List.getElem?_eq_getElem hj)⟩
 ·-- an object
  rename_i ob ver n hx
  have hx':=he.ev x
  rw [hx]at hx'
  split at h
  ·rename_i v et sz cells hob
   obtain ⟨rfl,rfl,rfl,h1,h2,h3,h4⟩:=h
   obtain ⟨l,hG⟩:=zf3 hob
   obtain ⟨_,_,_,cap,hG2,ex,hver,hn,hcm,hroom⟩:=hx'.loc_at hi (cells:=cells) (by simp [Store.cellsOf,hob])
   rw [hG]at hG2
   cases hG2
   obtain ⟨cur,⟨fz,q1,qz⟩,q2,q3,q4⟩:=hi.arr _ _ _ _ _ _ hG
   rw [Nat.zero_add]at hroom
   -- the appended cells' values
   have hvs:∃ vs:List Value,vs.length=m*(T et).size∧(∀ (j:Nat) p u,ys[j]?=some p→vs[j]?=some u→VR w.heap F G p u)∧(∀ u∈vs,u.oneCell'=true)∧zb9 ys ∧
     ((a.eval y = .slice none 0 0∧m=0)∨∃ ad c,a.eval y = .slice (some ad) m c∧∀ (j:Nat) u,vs[j]?=some u→w.cell? (ad.add j)=some u):=by
    rcases hy with ⟨ey,rfl⟩ | ⟨b,off,cap,ey,hcap,hcs⟩
    ·have:ys=[]:=List.eq_nil_of_length_eq_zero (by omega)
     subst this
     exact ⟨[],by simp,by simp,by simp,by simp [zb9],.inl ⟨ey,rfl⟩⟩
    obtain ⟨vs,v1,v2,v3,v4⟩:=hcs.values
    refine ⟨vs,by rw [v1,hyl],v3,v4,fun p hp=>?_,.inr ⟨⟨b,off,none⟩,cap,ey,fun j u hu=>by rw [add_lit,zgv]; exact v2 j u hu⟩⟩
    obtain ⟨k,hk⟩:=List.getElem?_of_mem hp
    exact (hcs k p hk).1
   obtain ⟨vs,v1,v2,v3,v4,hsrc⟩:=hvs
   -- the old cells' values
   obtain ⟨us,u1,u2,u3,u4⟩:=((hi.cellsAt hG).take (n*(T et).size)).values
   have hul:us.length=n*(T et).size:=by rw [u1,List.length_take]; omega
   have hus:∀ (j:Nat) u,us[j]?=some u→cur[j]?=some u:=by
    intro j u hu
    have:=u2 j u hu
    simpa [zhi,q1] using this
   have hall:∀ (j:Nat) p,(cells.take (n*(T et).size)++ys)[j]?=some p→p.isCell=true∧∃ u,(us++vs)[j]?=some u∧VR w.heap F G p u:=by
    intro j p hp
    by_cases hj:j<n*(T et).size
    ·rw [List.getElem?_append_left (by simp; omega)]at hp
     rw [List.getElem?_append_left (by omega),List.getElem?_eq_getElem (by omega)]
     refine ⟨?_,_,rfl,u3 j p _ hp (List.getElem?_eq_getElem (by omega))⟩
     rw [List.getElem?_take,if_pos hj]at hp
     exact (q4 j p hp).1
    rw [List.getElem?_append_right (by simp; omega)]at hp
    rw [List.getElem?_append_right (by omega)]
    have e1:j - (cells.take (n*(T et).size)).length=j - us.length:=by rw [hul,List.length_take]; omega
    rw [e1]at hp
    have hlt:j - us.length<vs.length:=by rw [v1,← hyl]; exact (List.getElem?_eq_some_iff.1 hp).1
    exact ⟨v4 p (List.mem_of_getElem? hp),vs[j - us.length],List.getElem?_eq_getElem hlt,v2 _ p _ hp (List.getElem?_eq_getElem hlt)⟩
   have hlen:(us++vs).length=(n+m)*(T et).size:=by rw [List.length_append,hul,v1,Nat.add_mul]
   have hclen:(cells.take (n*(T et).size)++ys).length=(n+m)*(T et).size:=by rw [List.length_append,List.length_take,hyl,Nat.add_mul]; omega
   by_cases hfit:n+m≤cap
   ·-- in place
    have hle:(n+m)*(T et).size≤cap*(T et).size:=Nat.mul_le_mul_right _ hfit
    have hfin:∀ cs:Array Value,cs.size=cur.size→(∀ (j:Nat) u,(us++vs)[j]?=some u→cs[j]?=some u) →
      (Builtin.append_ #[t,t] o.type #[a.eval x,a.eval y]).run P w = .ok (.slice (some ⟨l.blk,0,none⟩) (n+m) cap) (w.setRow l.blk cs)→o.wp P a w next Q:=by
     intro cs c1 c2 hr
     unfold Oper.wp
     rw [exec _ _ hr]
     obtain ⟨k1,k2⟩:=zh2 hi hG (.arr G.tick et (T et).size (cells.take (n*(T et).size)++ys)) l (G.tick+1) (w.setRow l.blk cs) rfl rfl rfl (qR _) (by simp) (.inl rfl)
      (fun b _ hb=>setRow_other _ _ _ _ hb) (Nat.le_succ _) (Nat.lt_succ_self _) (.inr (qR _))
      ⟨cs,⟨fz,setRow_heap w l.blk cur cs et _ q1,qz.of c1⟩,by rw [c1,q2],by rw [hclen,← hroom]; exact hle,fun j p hp=>by
       obtain ⟨p1,u,p2,p3⟩:=hall j p hp
       exact ⟨p1,u,c2 j u p2,p3⟩⟩
     refine hk (.loc ob G.er.tick 0 (n+m)) _ _ _ _ (by rw [zja]; exact h4) k1 k2 (.loc _ _ _ _ _ _ _ (Nat.lt_succ_self _) fun ob2 l2 hob2 _=>?_)
     have hlt:ob<G.obs.length:=(List.getElem?_eq_some_iff.1 hG).1
     simp only[List.getElem?_set_self hlt]at hob2
     cases hob2
     exact ⟨et,_,_,rfl,rfl,rfl,hfit,hcm,by omega⟩
    rcases hsrc with ⟨ey,hm0⟩ | ⟨ad,c,ey,hcells⟩
    ·subst hm0
     have hv0:vs=[]:=List.eq_nil_of_length_eq_zero (by simpa using v1)
     subst hv0
     refine hfin cur rfl (fun j u hu=>hus j u (by simpa using hu)) ?_
     rw [ex,ey,setRow_self w l.blk cur et _ q1]
     exact zhc t _ et i htu i1 _ _ _ (by omega)
    refine hfin (cur.toList.take (n*i.size)++vs++cur.toList.drop (n*i.size+vs.length)).toArray (by simp [i4,v1]; rw [q2,← hroom]; rw [Nat.add_mul]at hle; omega) (fun j u hu=>?_) ?_
    ·rw [List.getElem?_toArray,List.getElem?_append_left (by
      have:=(List.getElem?_eq_some_iff.1 hu).1
      rw [hlen]at this
      simp only[List.length_append,List.length_take,Array.length_toList,v1,i4,q2,← hroom]
      rw [Nat.add_mul]at hle this
      omega)]
     have e2:cur.toList.take (n*i.size)=us:=by
      apply List.ext_getElem?
      intro k
      rw [List.getElem?_take,i4]
      split
      ·rename_i hk2
       rw [List.getElem?_eq_getElem (by omega:k<us.length)]
       simpa using hus k _ (List.getElem?_eq_getElem (by omega))
      rw [List.getElem?_eq_none (by omega)]
     rw [e2]
     exact hu
    rw [ex,ey]
    exact zo8 (P:=P) w t o.type et i htu i1 l.blk n cap cur fz q1 qz ad m c vs (by rw [v1,i4]) hcells v3 hfit (by rw [v1,i4,q2,← hroom,← Nat.add_mul]; exact hle)
   ·-- a new row
    rcases hsrc with ⟨ey,hm0⟩ | ⟨ad,c,ey,hcells⟩
    ·omega
    ·have hr:=run_append_grow (P:=P) w t o.type et i z htu i1 i6 ⟨l.blk,0,none⟩ n cap us (by rw [hul,i4]) (fun j u hu=>by rw [add_lit,zgv]; exact u2 j u hu) ad m c vs (by rw [v1,i4]) hcells
      (by omega) (by simp only[maxLen]at h3; omega) (growslice_fits (by omega) (by rw [i5]; exact h2))
     have hge:=grownCap_ge w (n+m) cap et
     have hsize:(us.toArray++vs.toArray++Builtin.zeroCells z.cells (grownCap w (n+m) cap et - (n+m))).size=grownCap w (n+m) cap et*(T et).size:=by
      simp only[Array.size_append,size_zeroCells,i8,List.size_toArray,hul,v1,← Nat.add_mul]; congr 1; omega
     unfold Oper.wp
     rw [exec _ _ (by rw [ex,ey]; exact hr)]
     show next _ _
     obtain ⟨k1,k2⟩:=zh2 hi hG (.arr G.tick et (T et).size (cells.take (n*(T et).size)++ys)) ⟨w.heap.size,grownCap w (n+m) cap et*(T et).size⟩ (G.tick+1)
      (w.drew.alloc (.cells (us.toArray++vs.toArray++Builtin.zeroCells z.cells (grownCap w (n+m) cap et - (n+m))) et)) rfl rfl rfl (Nat.le_succ _) (by simp) (.inr ⟨rfl,by simp⟩)
      (fun b hb _=>by show (w.heap.push _)[b]?=_; rw [Array.getElem?_push,if_neg (by omega)]) (Nat.le_succ _) (Nat.lt_succ_self _) (.inr (qR _))
      ⟨_,⟨(0,0),heap_alloc_new w.drew _,.inl rfl⟩,hsize,by rw [hclen]; exact Nat.mul_le_mul_right _ hge,fun j p hp=>by
       obtain ⟨p1,u,p2,p3⟩:=hall j p hp
       refine ⟨p1,u,?_,p3⟩
       have hlt:=(List.getElem?_eq_some_iff.1 p2).1
       rw [Array.getElem?_append_left (by simpa using hlt)]
       simpa using p2⟩
     refine hk (.loc ob G.er.tick 0 (n+m)) _ _ _ _ (by rw [zja]; exact h4) k1 k2 (.loc _ _ _ _ _ _ _ (Nat.lt_succ_self _) fun ob2 l2 hob2 _=>?_)
     have hlt:ob<G.obs.length:=(List.getElem?_eq_some_iff.1 hG).1
     simp only[List.getElem?_set_self hlt]at hob2
     cases hob2
     exact ⟨et,_,_,rfl,rfl,rfl,hge,grownCap_le_maxLen w _ _ _ h3,Nat.zero_add _⟩
  exact h.elim
 exact h.elim
theorem zkh (w:World) (t u ty e:TypeId) (i:TypeInfo) (ht:P.underlying t=some (.slice e)) (hu:P.underlying u=some .string) (hi:P.info? e=some i) (hs1:i.size=1)
  (g sLen sCap:Nat) (cur:Array Value) (fz:Nat × Nat) (hg:w.heap[g]?=some (.cells cur e fz)) (hfz:ycn cur.size fz) (s:ByteArray)
  (hroom:sLen+s.size≤sCap) (hfit:sLen+s.size≤cur.size) :
  (Builtin.append_ #[t,u] ty #[.slice (some ⟨g,0,none⟩) sLen sCap,.string s]).run P w =
   .ok (.slice (some ⟨g,0,none⟩) (sLen+s.size) sCap) (w.setRow g (cur.toList.take sLen++Lib.strCells s++cur.toList.drop (sLen+s.size)).toArray):=by
 have hf:=Lib.run_firstCells_string (P:=P) w 1 s
 have hst:=zdo P g sLen e fz (Lib.strCells s) 0 cur w hg hfz (by simpa [Lib.strCells_length] using hfit) (Lib.strCells_oneCell s)
 simp only[Nat.add_zero,Lib.strCells_length]at hst
 simp [Builtin.append_,run_underlying ht,run_underlying hu,sizeOf,typeInfo,hi,hs1,Builtin.lenOf,hroom,hf,Addr.add_lit,hst]
theorem zp4 (hT:zby P T) (hi:Inv F G w) (he:zfi w.heap F G e a) {o:Oper} {x y:Operand} {t u el:TypeId} {s:List UInt8}
  (hop:o.op = .call { callee := .builtin .append,args := #[x,y],argTypes := #[t,u] }) {K:PV→Store→Prop}
  (ht:(T t).kd = .slice el) (hu:(T u).kd = .str) (hs1:(T el).size=1) (hys:e.ev y = .str s) (h:zjg T t G.er (e.ev x) (.sl (s.map fun b => .int .u8 b.toNat) s.length) K) {next:Act→World→Prop} {Q:Exit→Act→World→Prop}
  (hk:Goes F G w K fun cv w'=>next (a.put o.dst cv) w'):o.wp P a w next Q:=by
 unfold zjg at h
 rw [ht]at h
 have hsc:zc1 G.er (T el).size (.sl (s.map fun b => .int .u8 b.toNat) s.length)=some (s.length,s.map fun b => .int .u8 b.toNat):=by
  simp only[zc1,List.length_map]
  rw [if_pos (by rw [hs1,Nat.mul_one])]
 simp only[hsc]at h
 obtain ⟨sb,ey,hsb⟩:∃ sb:ByteArray,a.eval y = .string sb∧sb.data.toList=s:=by
  have:=he.ev y
  rw [hys]at this
  exact this.str
 have hssz:sb.size=s.length:=by rw [← hsb,Array.length_toList]; rfl
 obtain ⟨m,hm0⟩:∃ m,m=s.length:=⟨_,rfl⟩
 obtain ⟨ys,hys0⟩:∃ ys:List PV,ys=s.map fun b => .int .u8 b.toNat:=⟨_,rfl⟩
 have hyl:ys.length=m*(T el).size:=by rw [hys0,List.length_map,hs1,Nat.mul_one,hm0]
 rw [← hm0,← hys0]at h
 have hstr:=ziw hT hu
 have hel:=zed hT ht
 obtain ⟨i,d,z,i1,i2,i3,i4,i5,i6,i7,i8,i9,i10⟩:=(hT el hel).ex
 have htu:=zci hT ht
 have exec:∀ cv w',(Builtin.append_ #[t,u] o.type #[a.eval x,a.eval y]).run P w = .ok cv w'→(execOp a.eval o).run P w = .ok (.value cv) w':=by
  intro cv w' hr
  simp only[execOp,hop,resolve,invoke,builtin,List.map_toArray,List.map_cons,List.map_nil,Sem.run_bind,Sem.run_pure,Result.andThen_ok,hr]
 split at h
 ·-- nil
  rename_i hx
  have hx':=he.ev x
  rw [hx]at hx'
  have ex:a.eval x = .slice none 0 0:=by
   generalize a.eval x=cx at hx'
   cases hx' with | imm _ _ hx'=>cases hx'; rfl
  split at h
  ·rename_i hm
   subst hm
   have hr:(Builtin.append_ #[t,u] o.type #[a.eval x,a.eval y]).run P w = .ok (.slice none 0 0) w:=by
    rw [ex]
    rw [ey]
    have h0:sb.size=0:=by omega
    have e0:sb=ByteArray.empty:=by
     obtain ⟨d⟩:=sb
     have:d.size=0:=h0
     rw [Array.eq_empty_of_size_eq_zero this]
     rfl
    subst e0
    simp [Builtin.append_,run_underlying htu,run_underlying hstr,sizeOf,typeInfo,i1,Builtin.lenOf,Builtin.firstCells,storeCells]
   unfold Oper.wp
   rw [exec _ _ hr]
   exact hk .nils _ _ _ _ h hi (Next.refl w) (.imm _ _ .nils)
  rename_i hm
  obtain ⟨h1,h2,h3⟩:=h
  have hr:=run_append_nil_string (P:=P) w t u o.type el i z htu hstr i1 i6 sb (by omega) (by simp only[maxLen]at h2; omega) (by rw [i5,hssz,← hm0]; omega)
  rw [hssz,← hm0]at hr
  have hge:=grownCap_ge w m 0 el
  have hvl:(sb.data.map fun b=>Value.int .u8 b.toNat).size=m:=by rw [Array.size_map,hm0,← hssz]; rfl
  have hsize:((sb.data.map fun b=>Value.int .u8 b.toNat)++Builtin.zeroCells z.cells (grownCap w m 0 el - m)).size=grownCap w m 0 el*(T el).size:=by
   rw [Array.size_append,size_zeroCells,i8,hvl,hs1]; omega
  unfold Oper.wp
  rw [exec _ _ (by rw [ex,ey]; exact hr)]
  refine zh7 (d:=w.drawn+1) hi hk (Nat.le_succ _) (et:=el) (sz:=(T el).size) (cells:=ys) (by rw [hsize,hyl]; exact Nat.mul_le_mul_right _ hge) (fun j p hp=>?_) _ _
   (fun F' G' w' q1 q2=>zvg F' G' w' q1 q2 rfl hge (grownCap_le_maxLen w m 0 el h2) hsize.symm) h3
  rw [hys0,List.getElem?_map,qI]at hp
  obtain ⟨c,hc,rfl⟩:=hp
  have hc2:sb.data[j]?=some c:=by rw [← Array.getElem?_toList,hsb]; exact hc
  have hj:j<sb.data.size:=(Array.getElem?_eq_some_iff.1 hc2).1
  exact ⟨rfl,.int .u8 c.toNat,by rw [Array.getElem?_append_left (by rw [Array.size_map]; exact hj),Array.getElem?_map,hc2]; rfl,.imm _ _ (.int _ _)⟩
 ·-- an object
  rename_i ob ver n hx
  have hx':=he.ev x
  rw [hx]at hx'
  split at h
  ·rename_i v et sz cells hob
   obtain ⟨rfl,rfl,rfl,h1,h2,h3,h4⟩:=h
   obtain ⟨l,hG⟩:=zf3 hob
   obtain ⟨_,_,_,cap,hG2,ex,hver,hn,hcm,hroom⟩:=hx'.loc_at hi (cells:=cells) (by simp [Store.cellsOf,hob])
   rw [hG]at hG2
   cases hG2
   obtain ⟨cur,⟨fz,q1,qz⟩,q2,q3,q4⟩:=hi.arr _ _ _ _ _ _ hG
   rw [Nat.zero_add]at hroom
   -- the appended cells' values
   obtain ⟨vs,hvs0⟩:∃ vs:List Value,vs=Lib.strCells sb:=⟨_,rfl⟩
   have v1:vs.length=m*(T et).size:=by rw [hvs0,Lib.strCells_length,hssz,hs1,Nat.mul_one,hm0]
   have v2:∀ (j:Nat) p u,ys[j]?=some p→vs[j]?=some u→VR w.heap F G p u:=by
    intro j p u q1 q2
    rw [hys0,List.getElem?_map,qI]at q1
    rw [hvs0,Lib.strCells,List.getElem?_map,qI]at q2
    obtain ⟨c,hc,rfl⟩:=q1
    obtain ⟨c2,hc2,rfl⟩:=q2
    rw [hsb,hc]at hc2
    cases hc2
    exact .imm _ _ (.int _ _)
   have v3:∀ u∈vs,u.oneCell'=true:=by rw [hvs0]; exact Lib.strCells_oneCell sb
   have v4:zb9 ys:=by
    intro p hp
    rw [hys0]at hp
    obtain ⟨c,-,rfl⟩:=List.mem_map.1 hp
    rfl
   -- the old cells' values
   obtain ⟨us,u1,u2,u3,u4⟩:=((hi.cellsAt hG).take (n*(T et).size)).values
   have hul:us.length=n*(T et).size:=by rw [u1,List.length_take]; omega
   have hus:∀ (j:Nat) u,us[j]?=some u→cur[j]?=some u:=by
    intro j u hu
    have:=u2 j u hu
    simpa [zhi,q1] using this
   have hall:∀ (j:Nat) p,(cells.take (n*(T et).size)++ys)[j]?=some p→p.isCell=true∧∃ u,(us++vs)[j]?=some u∧VR w.heap F G p u:=by
    intro j p hp
    by_cases hj:j<n*(T et).size
    ·rw [List.getElem?_append_left (by simp; omega)]at hp
     rw [List.getElem?_append_left (by omega),List.getElem?_eq_getElem (by omega)]
     refine ⟨?_,_,rfl,u3 j p _ hp (List.getElem?_eq_getElem (by omega))⟩
     rw [List.getElem?_take,if_pos hj]at hp
     exact (q4 j p hp).1
    rw [List.getElem?_append_right (by simp; omega)]at hp
    rw [List.getElem?_append_right (by omega)]
    have e1:j - (cells.take (n*(T et).size)).length=j - us.length:=by rw [hul,List.length_take]; omega
    rw [e1]at hp
    have hlt:j - us.length<vs.length:=by rw [v1,← hyl]; exact (List.getElem?_eq_some_iff.1 hp).1
    exact ⟨v4 p (List.mem_of_getElem? hp),vs[j - us.length],List.getElem?_eq_getElem hlt,v2 _ p _ hp (List.getElem?_eq_getElem hlt)⟩
   have hlen:(us++vs).length=(n+m)*(T et).size:=by rw [List.length_append,hul,v1,Nat.add_mul]
   have hclen:(cells.take (n*(T et).size)++ys).length=(n+m)*(T et).size:=by rw [List.length_append,List.length_take,hyl,Nat.add_mul]; omega
   by_cases hfit:n+m≤cap
   ·-- in place
    have hle:(n+m)*(T et).size≤cap*(T et).size:=Nat.mul_le_mul_right _ hfit
    have hfin:∀ cs:Array Value,cs.size=cur.size→(∀ (j:Nat) u,(us++vs)[j]?=some u→cs[j]?=some u) →
      (Builtin.append_ #[t,u] o.type #[a.eval x,a.eval y]).run P w = .ok (.slice (some ⟨l.blk,0,none⟩) (n+m) cap) (w.setRow l.blk cs)→o.wp P a w next Q:=by
     intro cs c1 c2 hr
     unfold Oper.wp
     rw [exec _ _ hr]
     obtain ⟨k1,k2⟩:=zh2 hi hG (.arr G.tick et (T et).size (cells.take (n*(T et).size)++ys)) l (G.tick+1) (w.setRow l.blk cs) rfl rfl rfl (qR _) (by simp) (.inl rfl)
      (fun b _ hb=>setRow_other _ _ _ _ hb) (Nat.le_succ _) (Nat.lt_succ_self _) (.inr (qR _))
      ⟨cs,⟨fz,setRow_heap w l.blk cur cs et _ q1,qz.of c1⟩,by rw [c1,q2],by rw [hclen,← hroom]; exact hle,fun j p hp=>by
       obtain ⟨p1,u,p2,p3⟩:=hall j p hp
       exact ⟨p1,u,c2 j u p2,p3⟩⟩
     refine hk (.loc ob G.er.tick 0 (n+m)) _ _ _ _ (by rw [zja]; exact h4) k1 k2 (.loc _ _ _ _ _ _ _ (Nat.lt_succ_self _) fun ob2 l2 hob2 _=>?_)
     have hlt:ob<G.obs.length:=(List.getElem?_eq_some_iff.1 hG).1
     simp only[List.getElem?_set_self hlt]at hob2
     cases hob2
     exact ⟨et,_,_,rfl,rfl,rfl,hfit,hcm,by omega⟩
    refine hfin (cur.toList.take (n*i.size)++vs++cur.toList.drop (n*i.size+vs.length)).toArray (by simp [i4,v1]; rw [q2,← hroom]; rw [Nat.add_mul]at hle; omega) (fun j u hu=>?_) ?_
    ·rw [List.getElem?_toArray,List.getElem?_append_left (by
      have:=(List.getElem?_eq_some_iff.1 hu).1
      rw [hlen]at this
      simp only[List.length_append,List.length_take,Array.length_toList,v1,i4,q2,← hroom]
      rw [Nat.add_mul]at hle this
      omega)]
     have e2:cur.toList.take (n*i.size)=us:=by
      apply List.ext_getElem?
      intro k
      rw [List.getElem?_take,i4]
      split
      ·rename_i hk2
       rw [List.getElem?_eq_getElem (by omega:k<us.length)]
       simpa using hus k _ (List.getElem?_eq_getElem (by omega))
      rw [List.getElem?_eq_none (by omega)]
     rw [e2]
     exact hu
    rw [ex,ey]
    have hr:=zkh (P:=P) w t u o.type et i htu hstr i1 (by rw [i4,hs1]) l.blk n cap cur fz q1 qz sb (by omega) (by rw [hssz,← hm0,q2,← hroom,hs1]; omega)
    rw [hssz,← hm0,← hvs0]at hr
    rw [i4,hs1,Nat.mul_one,v1,hs1,Nat.mul_one]
    exact hr
   ·-- a new row
    have hr:=Lib.run_append_grow_string (P:=P) w t u o.type et i z htu hstr i1 i6 ⟨l.blk,0,none⟩ n cap us (by rw [hul,i4]) (fun j u hu=>by rw [add_lit,zgv]; exact u2 j u hu) sb
     (by omega) (by simp only[maxLen]at h3; omega) (growslice_fits (by omega) (by rw [i5,hssz,← hm0]; exact h2))
    rw [hssz,← hm0,← hvs0]at hr
    have hge:=grownCap_ge w (n+m) cap et
    have hsize:(us.toArray++vs.toArray++Builtin.zeroCells z.cells (grownCap w (n+m) cap et - (n+m))).size=grownCap w (n+m) cap et*(T et).size:=by
     simp only[Array.size_append,size_zeroCells,i8,List.size_toArray,hul,v1,← Nat.add_mul]; congr 1; omega
    unfold Oper.wp
    rw [exec _ _ (by rw [ex,ey]; exact hr)]
    show next _ _
    obtain ⟨k1,k2⟩:=zh2 hi hG (.arr G.tick et (T et).size (cells.take (n*(T et).size)++ys)) ⟨w.heap.size,grownCap w (n+m) cap et*(T et).size⟩ (G.tick+1)
     (w.drew.alloc (.cells (us.toArray++vs.toArray++Builtin.zeroCells z.cells (grownCap w (n+m) cap et - (n+m))) et)) rfl rfl rfl (Nat.le_succ _) (by simp) (.inr ⟨rfl,by simp⟩)
     (fun b hb _=>by show (w.heap.push _)[b]?=_; rw [Array.getElem?_push,if_neg (by omega)]) (Nat.le_succ _) (Nat.lt_succ_self _) (.inr (qR _))
     ⟨_,⟨(0,0),heap_alloc_new w.drew _,.inl rfl⟩,hsize,by rw [hclen]; exact Nat.mul_le_mul_right _ hge,fun j p hp=>by
      obtain ⟨p1,u,p2,p3⟩:=hall j p hp
      refine ⟨p1,u,?_,p3⟩
      have hlt:=(List.getElem?_eq_some_iff.1 p2).1
      rw [Array.getElem?_append_left (by simpa using hlt)]
      simpa using p2⟩
    refine hk (.loc ob G.er.tick 0 (n+m)) _ _ _ _ (by rw [zja]; exact h4) k1 k2 (.loc _ _ _ _ _ _ _ (Nat.lt_succ_self _) fun ob2 l2 hob2 _=>?_)
    have hlt:ob<G.obs.length:=(List.getElem?_eq_some_iff.1 hG).1
    simp only[List.getElem?_set_self hlt]at hob2
    cases hob2
    exact ⟨et,_,_,rfl,rfl,rfl,hge,grownCap_le_maxLen w _ _ _ h3,Nat.zero_add _⟩
  exact h.elim
 exact h.elim
end
end
section
def reify (S:Store) (im:Bool):Nat→PV→Option PV
 | 0,_=>none
 | k+1,p =>
  match p with
  | .int a b=>some (.int a b)
  | .bool b=>some (.bool b)
  | .str s=>some (.str s)
  | .nilp=>some .nilp
  | .nilf=>some .nilf
  | .yl l=>some (.yl l)
  | .nilm=>some .nilm
  | .nils=>some (.sl [] 0)
  | .agg cs=>(cs.mapM (reify S im k)).map .agg
  | .tup cs=>(cs.mapM (reify S im k)).map .tup
  | .fn f cs=>(cs.mapM (reify S im k)).map (.fn f)
  | .sl cs n=>if im || cs.isEmpty then some (.sl cs n) else none
  | .ip cs off=>if im then some (.ip cs off) else none
  | .bm f b=>if im then some (.bm f b) else none
  | .loc o ver off n =>
   match S.obs[o]? with
   | some (.arr v _ sz cells)=>if v=ver∧off+n*sz≤cells.length then (((cells.drop off).take (n*sz)).mapM (reify S im k)).map (.sl · n) else none
   | _=>none
  | .ref o ver off=>(S.cellsOf o ver).bind fun cells=>(cells.mapM (reify S im k)).map (.ip · off)
  | _=>none
theorem zcj {f:PV→Option PV}:∀ (xs ys:List PV),xs.mapM f=some ys→xs.length=ys.length∧∀ (i:Nat) y,ys[i]?=some y→∃ x,xs[i]?=some x∧f x=some y
 | [],ys,h=>by simp at h; subst h; simp
 | x::xs,ys,h=>by
  rw [qC]at h
  cases hx:f x with
  | none=>simp [hx]at h
  | some y =>
   cases hr:xs.mapM f with
   | none=>simp [hx,hr]at h
   | some ys' =>
    simp [hx,hr]at h
    subst h
    obtain ⟨h1,h2⟩:=zcj xs ys' hr
    refine ⟨by simp [h1],?_⟩
    rintro (_ | i) z hz
    ·simp at hz; subst hz; exact ⟨x,rfl,hx⟩
    simp at hz; obtain ⟨u,h3,h4⟩:=h2 i z hz; exact ⟨u,by simpa using h3,h4⟩
section
variable {P:Program} {T:Tab} {F:Nat→Prop} {G:GSt} {w:World} {e:Env} {a:Act}
def Foot (F:Nat→Prop) (G:GSt) (im:Bool) (b:Nat):Prop:=(im=true∧F b)∨∃ (o:Nat) (x:Ob × Lc),G.obs[o]?=some x∧x.2.blk=b
theorem z6c {S:Store} {im:Bool}:∀ {k:Nat} {p t:PV},reify S im k p=some t→p.isCell=true→t.isCell=true
 | 0,p,t,h,_=>by simp [reify]at h
 | k+1,p,t,h,hp=>by
  cases p <;> simp only[reify]at h <;> first
   | (cases h; rfl)
   | (simp [PV.isCell]at hp; done)
   | (cases h; done)
   | (split at h <;> first | (cases h; rfl) | (cases h; done) | (split at h <;> first | (cases h; done) | (rw [qI]at h; obtain ⟨_,_,rfl⟩:=h; rfl)))
   | (rw [qI]at h; obtain ⟨_,_,rfl⟩:=h; rfl)
   | (rw [Option.bind_eq_some_iff]at h; obtain ⟨_,_,h⟩:=h; rw [qI]at h; obtain ⟨_,_,rfl⟩:=h; rfl)
theorem zem (hi:Inv F G w) {im:Bool}:∀ {k:Nat} {p t:PV} {cv:Value},VR w.heap F G p cv→reify G.er im k p=some t→VI w.heap (Foot F G im) t cv
 | 0,p,t,cv,_,h=>by simp [reify]at h
 | k+1,p,t,cv,hv,h=>by
  have cellsVI:∀ {b off:Nat} {cs ts:List PV},zdq w.heap F G b off cs→cs.mapM (reify G.er im k)=some ts →
    ∃ g:Nat→Value,(∀ (i:Nat) p,ts[i]?=some p→p.isCell=true∧zhi w.heap b (off+i)=some (g i))∧∀ (i:Nat) p,ts[i]?=some p→VI w.heap (Foot F G im) p (g i):=by
   intro b off cs ts hc hm
   obtain ⟨h1,h2⟩:=zcj _ _ hm
   refine ⟨fun i=>(zhi w.heap b (off+i)).getD undef,fun i p hp=>?_,fun i p hp=>?_⟩
   ·obtain ⟨x,h3,h4⟩:=h2 i p hp
    obtain ⟨h5,v,h6,h7⟩:=hc i x h3
    exact ⟨z6c h4 h5,by simp [h6]⟩
   obtain ⟨x,h3,h4⟩:=h2 i p hp
   obtain ⟨h5,v,h6,h7⟩:=hc i x h3
   simp only[h6]
   exact zem hi h7 h4
  have rowVI:∀ {cs ts:List PV} {vs:Array Value},cs.length=vs.size→(∀ (i:Nat) p v,cs[i]?=some p→vs[i]?=some v→VR w.heap F G p v)→cs.mapM (reify G.er im k)=some ts →
    ts.length=vs.size∧∀ (i:Nat) p v,ts[i]?=some p→vs[i]?=some v→VI w.heap (Foot F G im) p v:=by
   intro cs ts vs hl hp hm
   obtain ⟨h1,h2⟩:=zcj _ _ hm
   refine ⟨by omega,fun i p v q1 q2=>?_⟩
   obtain ⟨x,h3,h4⟩:=h2 i p q1
   exact zem hi (hp i x v h3 q2) h4
  cases p with
  | int q n=>simp only[reify]at h; cases h; rw [hv.int]; exact .int _ _
  | bool b=>simp only[reify]at h; cases h; rw [hv.bool]; exact .bool _
  | str s=>simp only[reify]at h; cases h; obtain ⟨b,rfl,hb⟩:=hv.str; exact .str _ _ hb
  | nilp=>simp only[reify]at h; cases h; cases hv with | imm _ _ hv=>cases hv; exact .nilp
  | nilf=>simp only[reify]at h; cases h; cases hv with | imm _ _ hv=>cases hv; exact .nilf
  | yl l=>simp only[reify]at h; cases h; cases hv with | imm _ _ hv=>cases hv; exact .yl _
  | nilm=>simp only[reify]at h; cases h; cases hv with | imm _ _ hv=>cases hv; exact .nilm
  | nils=>simp only[reify]at h; cases h; cases hv with | imm _ _ hv=>cases hv; exact .sl0
  | agg cs =>
   simp only[reify]at h
   rw [qI]at h
   obtain ⟨ts,h1,rfl⟩:=h
   obtain ⟨vs,rfl,h2,h3⟩:=hv.agg'
   obtain ⟨h4,h5⟩:=rowVI h2 h3 h1
   exact .agg _ _ h4 h5
  | tup cs =>
   simp only[reify]at h
   rw [qI]at h
   obtain ⟨ts,h1,rfl⟩:=h
   obtain ⟨vs,rfl,h2,h3⟩:=hv.tup'
   obtain ⟨h4,h5⟩:=rowVI h2 h3 h1
   exact .tup _ _ h4 h5
  | fn f cs =>
   simp only[reify]at h
   rw [qI]at h
   obtain ⟨ts,h1,rfl⟩:=h
   have:∃ vs:Array Value,cv = .func (.func f) #[] vs∧cs.length=vs.size∧∀ (i:Nat) p v,cs[i]?=some p→vs[i]?=some v→VR w.heap F G p v:=by
    cases hv with
    | imm _ _ hv=>cases hv with | fn _ _ vs h2 h3=>exact ⟨vs,rfl,h2,fun i p v a b => .imm _ _ (h3 i p v a b)⟩
    | fn _ _ vs h2 h3=>exact ⟨vs,rfl,h2,h3⟩
   obtain ⟨vs,rfl,h2,h3⟩:=this
   obtain ⟨h4,h5⟩:=rowVI h2 h3 h1
   exact .fn _ _ _ h4 h5
  | sl cs n =>
   simp only[reify]at h
   split at h
   ·rename_i hc
    cases h
    cases hv with
    | imm _ _ hv =>
     cases im with
     | true=>exact hv.mono (fun b hb => .inl ⟨rfl,hb⟩) (fun _ _=>rfl)
     | false =>
      have:cs=[]:=by simpa using hc
      subst this
      cases hv with
      | sl0=>exact .sl0
      | sl _ _ b off cap g h1 h2 h3 h4=>exact .sl _ _ b off cap g (fun h=>absurd rfl h) h2 (by simp) (by simp)
   cases h
  | ip cs off =>
   simp only[reify]at h
   split at h
   ·rename_i hc
    cases h
    cases hv with
    | imm _ _ hv=>exact hv.mono (fun b hb => .inl ⟨hc,hb⟩) (fun _ _=>rfl)
   cases h
  | bm f b =>
   simp only[reify]at h
   split at h
   ·rename_i hc
    cases h
    cases hv with
    | imm _ _ hv=>exact hv.mono (fun b hb => .inl ⟨hc,hb⟩) (fun _ _=>rfl)
   cases h
  | loc o ver off n =>
   simp only[reify]at h
   split at h
   ·rename_i v et sz cells hob
    split at h
    ·rename_i hc
     obtain ⟨rfl,hle⟩:=hc
     rw [qI]at h
     obtain ⟨ts,h1,rfl⟩:=h
     obtain ⟨_,_,l,cap,ho,rfl,_,hn,_⟩:=hv.loc_at hi (cells:=cells) (by simp [Store.cellsOf,hob])
     obtain ⟨l',hG⟩:=zf3 hob
     rw [hG]at ho
     cases ho
     have hc2:zdq w.heap F G l.blk off ((cells.drop off).take (n*sz)):=by
      have:=((hi.cellsAt hG).drop off).take (n*sz)
      rwa [Nat.zero_add]at this
     obtain ⟨g,g1,g2⟩:=cellsVI hc2 h1
     exact .sl _ _ _ _ _ g (fun _ => .inr ⟨o,_,hG,rfl⟩) hn g1 g2
    cases h
   cases h
  | ref o ver off =>
   simp only[reify]at h
   rw [Option.bind_eq_some_iff]at h
   obtain ⟨cells,hc,h⟩:=h
   rw [qI]at h
   obtain ⟨ts,h1,rfl⟩:=h
   obtain ⟨et,sz,l,hG,rfl,_⟩:=hv.ref_at hi hc
   obtain ⟨g,g1,g2⟩:=cellsVI (hi.cellsAt hG) h1
   have:=VI.ip (F:=Foot F G im) ts off l.blk 0 g (fun _ => .inr ⟨o,_,hG,rfl⟩) g1 g2
   rwa [Nat.zero_add]at this
  | mp o ver=>simp only[reify]at h; cases h
  | undef=>simp only[reify]at h; cases h
theorem zst (hi:Inv F G w) {w':World} (hbd:Blw w w') :
  Inv (fun b=>F b∨(w.heap.size≤b∧b<w'.heap.size)) G w'∧Next F G w (fun b=>F b∨(w.heap.size≤b∧b<w'.heap.size)) G w':=by
 have hb:=hbd.blw
 have hn:Next F G w (fun b=>F b∨(w.heap.size≤b∧b<w'.heap.size)) G w' :=
  ⟨hb.os,hb.tape,hb.output,hb.size,fun _ h => .inl h,fun b h=>h.elim .inl fun h => .inr (.inl h.1),fun o x h => .inr ⟨o,x,h,rfl⟩,qR _,fun b h _=>hb.block b h,
   fun o ob l h _=>⟨ob,h,rfl,Ob.like.refl _⟩,hbd.drawn⟩
 refine ⟨zje (fun b h=>h.elim (fun h=>Nat.lt_of_lt_of_le (hi.fr b h) hb.size) (fun h=>h.2)) hi.ver (fun o ob l h hF=>?_) (fun o ob l h=>(hi.holds h).next hi hn (hb.block _ (hi.blk_lt h))) hi.inj,hn⟩
 rcases hF with hF | hF
 ·exact hi.nF o ob l h hF
 have h1:=hi.blk_lt h
 simp only at h1
 omega
theorem PC.ev {f:FuncId} {args ts:List PV} {r:PV} {fr:Bool} {S:Store} {k:Nat} (h:PC P f ts r fr) (h1:args.mapM (reify S true k)=some ts)
  (h2:fr=true∨args.mapM (reify ⟨[],0⟩ true k)=some ts):Ev P f args S fun v S'=>v=r∧S'=S:=by
 refine ⟨h.ent,fun F G w cargs hS hi hl hv=>?_⟩
 subst hS
 obtain ⟨m1,m2⟩:=zcj _ _ h1
 by_cases hfr:fr=true
 ·subst hfr
  have hvi:∀ (i:Nat) p c,ts[i]?=some p→cargs[i]?=some c→VI w.heap (Foot F G true) p c:=fun i p c q1 q2=>by
   obtain ⟨x,x1,x2⟩:=m2 i p q1
   exact zem hi (hv i x c x1 q2) x2
  refine (h.run (Foot F G true) w cargs (fun b hb=>?_) (by omega) hvi).mono ?_
  ·rcases hb with ⟨_,hb⟩ | ⟨o,x,hx,rfl⟩
   ·exact hi.fr b hb
   exact hi.blk_lt hx
  rintro en w' ⟨cv,rfl,hb,hr⟩
  obtain ⟨i1,i2⟩:=zst hi hb
  exact ⟨r,cv,_,G,rfl,⟨rfl,rfl⟩,i1,i2,.imm _ _ (hr.mono (fun b hb=>by rcases hb with hb | hb; exact .inr hb; simp at hb) (fun _ _=>rfl))⟩
 have hfr':fr=false:=by simpa using hfr
 subst hfr'
 have h2':=h2.resolve_left (by simp)
 obtain ⟨n1,n2⟩:=zcj _ _ h2'
 have hi0:Inv F ⟨[],0⟩ w:=⟨hi.fr,by simp,by simp,by simp,by simp,by simp,by simp⟩
 have key:∀ {k:Nat} {p t:PV} {cv:Value},VR w.heap F G p cv→reify ⟨[],0⟩ true k p=some t→VI w.heap F t cv:=by
  intro k
  induction k with
  | zero=>intro p t cv _ h; simp [reify]at h
  | succ k ih =>
   intro p t cv hv h
   have rowVI:∀ {cs ts:List PV} {vs:Array Value},cs.length=vs.size→(∀ (i:Nat) p v,cs[i]?=some p→vs[i]?=some v→VR w.heap F G p v)→cs.mapM (reify ⟨[],0⟩ true k)=some ts →
     ts.length=vs.size∧∀ (i:Nat) p v,ts[i]?=some p→vs[i]?=some v→VI w.heap F p v:=by
    intro cs ts vs hl hp hm
    obtain ⟨h1,h2⟩:=zcj _ _ hm
    refine ⟨by omega,fun i p v q1 q2=>?_⟩
    obtain ⟨x,h3,h4⟩:=h2 i p q1
    exact ih (hp i x v h3 q2) h4
   cases p with
   | int q n=>simp only[reify]at h; cases h; rw [hv.int]; exact .int _ _
   | bool b=>simp only[reify]at h; cases h; rw [hv.bool]; exact .bool _
   | str s=>simp only[reify]at h; cases h; obtain ⟨b,rfl,hb⟩:=hv.str; exact .str _ _ hb
   | nilp=>simp only[reify]at h; cases h; cases hv with | imm _ _ hv=>cases hv; exact .nilp
   | nilf=>simp only[reify]at h; cases h; cases hv with | imm _ _ hv=>cases hv; exact .nilf
   | yl l=>simp only[reify]at h; cases h; cases hv with | imm _ _ hv=>cases hv; exact .yl _
   | nilm=>simp only[reify]at h; cases h; cases hv with | imm _ _ hv=>cases hv; exact .nilm
   | nils=>simp only[reify]at h; cases h; cases hv with | imm _ _ hv=>cases hv; exact .sl0
   | agg cs =>
    simp only[reify]at h
    rw [qI]at h
    obtain ⟨ts,h1,rfl⟩:=h
    obtain ⟨vs,rfl,h2,h3⟩:=hv.agg'
    obtain ⟨h4,h5⟩:=rowVI h2 h3 h1
    exact .agg _ _ h4 h5
   | tup cs =>
    simp only[reify]at h
    rw [qI]at h
    obtain ⟨ts,h1,rfl⟩:=h
    obtain ⟨vs,rfl,h2,h3⟩:=hv.tup'
    obtain ⟨h4,h5⟩:=rowVI h2 h3 h1
    exact .tup _ _ h4 h5
   | fn f cs =>
    simp only[reify]at h
    rw [qI]at h
    obtain ⟨ts,h1,rfl⟩:=h
    have:∃ vs:Array Value,cv = .func (.func f) #[] vs∧cs.length=vs.size∧∀ (i:Nat) p v,cs[i]?=some p→vs[i]?=some v→VR w.heap F G p v:=by
     cases hv with
     | imm _ _ hv=>cases hv with | fn _ _ vs h2 h3=>exact ⟨vs,rfl,h2,fun i p v a b => .imm _ _ (h3 i p v a b)⟩
     | fn _ _ vs h2 h3=>exact ⟨vs,rfl,h2,h3⟩
    obtain ⟨vs,rfl,h2,h3⟩:=this
    obtain ⟨h4,h5⟩:=rowVI h2 h3 h1
    exact .fn _ _ _ h4 h5
   | sl cs n=>simp only[reify]at h; simp at h; subst h; cases hv with | imm _ _ hv=>exact hv
   | ip cs off=>simp only[reify]at h; simp at h; subst h; cases hv with | imm _ _ hv=>exact hv
   | bm f b=>simp only[reify]at h; simp at h; subst h; cases hv with | imm _ _ hv=>exact hv
   | loc o ver off n=>simp [reify]at h
   | ref o ver off=>simp [reify,Store.cellsOf]at h
   | mp o ver=>simp only[reify]at h; cases h
   | undef=>simp only[reify]at h; cases h
 have hvi:∀ (i:Nat) p c,ts[i]?=some p→cargs[i]?=some c→VI w.heap F p c:=fun i p c q1 q2=>by
  obtain ⟨x,x1,x2⟩:=n2 i p q1
  exact key (hv i x c x1 q2) x2
 refine (h.run F w cargs hi.fr (by omega) hvi).mono ?_
 rintro en w' ⟨cv,rfl,hb,hr⟩
 obtain ⟨i1,i2⟩:=zst hi hb
 exact ⟨r,cv,_,G,rfl,⟨rfl,rfl⟩,i1,i2,.imm _ _ (hr.mono (fun b hb=>by rcases hb with hb | hb; exact .inr hb; exact .inl hb.2) (fun _ _=>rfl))⟩
end
end
section
section
variable {P:Program} {T:Tab} {F:Nat→Prop} {G:GSt} {w:World} {e:Env} {a:Act}
theorem zms (hT:zby P T) (hi:Inv F G w) (he:zfi w.heap F G e a) {o:Oper} {K:PV→Store→Prop} (hnb:∀ s d x,o.op = .convert s d x→∀ e,(T d).kd ≠ .slice e) (h:zi1 (zd2 T G.er e o.op) fun v=>K v G.er)
  {next:Act→World→Prop} {Q:Exit→Act→World→Prop} (hk:Goes F G w K fun cv w'=>next (a.put o.dst cv) w'):o.wp P a w next Q:=by
 cases hp:zd2 T G.er e o.op with
 | none=>rw [hp]at h; exact h.elim
 | some v =>
  rw [hp]at h
  obtain ⟨cv,h1,h2⟩:=z59 hT hi he hnb hp
  unfold Oper.wp
  rw [h1]
  exact hk v cv _ _ _ h hi (Next.refl w) h2
theorem z7y (hT:zby P T) (hi:Inv F G w) (he:zfi w.heap F G e a) {o:Oper} {s d:TypeId} {x:Operand} (hop:o.op = .convert s d x) {el:TypeId} (hd:(T d).kd = .slice el) {K:PV→Store→Prop}
  (h:pOp P T e G.er (.convert s d x) K) {next:Act→World→Prop} {Q:Exit→Act→World→Prop} (hk:Goes F G w K fun cv w'=>next (a.put o.dst cv) w'):o.wp P a w next Q:=by
 have hx:=he.ev x
 simp only[pOp,zd2,zj3]at h
 split at h
 ·rename_i h1 _; rw [hd]at h1; cases h1
 ·rename_i h1 _; rw [hd]at h1; cases h1
 ·rename_i h1 _; rw [hd]at h1; cases h1
 ·rename_i h1; rw [hd]at h1; cases h1
 ·rename_i e2 str hs hd2 hxe
  rw [hd]at hd2
  cases hd2
  split at h
  ·rename_i hu8
   rw [hxe]at hx
   obtain ⟨b,ex,hb⟩:=hx.str
   have hr:(execOp a.eval o).run P w = .ok (.value (.slice (some ⟨w.heap.size,0,none⟩) b.size (grownCap w b.size 0 el))) (Lib.bytesWorld w el b):=by
    simp only[execOp,hop,ex]
    rw [Sem.run_bind,Lib.run_convert_string_bytes w s d el b (ziw hT hs) (zci hT hd) (zl6 hT hu8)]
    rfl
   have hsz:(Lib.bytesWorld w el b).heap.size=w.heap.size+1:=Lib.bytesWorld_size w el b
   have hold:∀ j,j<w.heap.size→(Lib.bytesWorld w el b).heap[j]?=w.heap[j]?:=fun j hj=>Lib.bytesWorld_at_old w el b j hj
   have hw3:(Lib.bytesWorld w el b).os=w.os∧(Lib.bytesWorld w el b).tape=w.tape∧(Lib.bytesWorld w el b).output=w.output:=by
    simp [Lib.bytesWorld,World.freeze,World.alloc,World.drew,-World.alloc_eq,-World.drew_eq]
   have nx:Next F G w (fun b=>F b∨b=w.heap.size) G (Lib.bytesWorld w el b) :=
    ⟨hw3.1,hw3.2.1,hw3.2.2,by omega,fun _ h => .inl h,fun b hb=>hb.imp id fun h => .inl (by omega),fun o x h => .inr ⟨o,x,h,rfl⟩,qR _,fun b hb _=>hold b hb,fun _ ob' _ h _=>⟨ob',h,rfl,Ob.like.refl _⟩,by simp [Lib.bytesWorld,World.freeze,World.alloc,World.drew,-World.alloc_eq,-World.drew_eq]⟩
   have hlen:str.length=b.size:=by rw [← hb]; simp
   replace h:K (.sl (str.map fun b => .int .u8 (b.toNat:Int)) str.length) G.er:=h
   unfold Oper.wp
   rw [hr]
   refine hk (.sl (str.map fun b => .int .u8 (b.toNat:Int)) str.length) _ (fun b=>F b∨b=w.heap.size) G (Lib.bytesWorld w el b) h (zje (fun c hc=>?_) (fun o ob l' h=>hi.ver o ob l' h) (fun o ob l' h=>?_) (fun o ob l' h=>(hi.holds h).next hi nx (hold _ (hi.blk_lt h))) (fun o o' x x' h h'=>hi.inj o o' x x' h h')) nx (.imm _ _ ?_)
   ·rcases hc with hc | hc
    ·have:=hi.fr c hc; omega
    omega
   ·rintro (h1 | h1)
    ·exact hi.nF o ob l' h h1
    have:=hi.blk_lt h; simp only at this; omega
   rw [← hlen]
   refine .sl _ _ _ 0 _ (fun i => .int .u8 ((str.getD i 0).toNat:Int)) (fun _ => .inr rfl) (by rw [hlen]; exact grownCap_ge w b.size 0 el) (fun i p hp=>?_) (fun i p hp=>?_)
   ·have hil:i<str.length:=by have:=(List.getElem?_eq_some_iff.1 hp).1; simpa using this
    rw [List.getElem?_map]at hp
    rw [List.getElem?_eq_getElem hil]at hp
    cases hp
    refine ⟨rfl,?_⟩
    rw [← zgv,Nat.zero_add]
    have:=Lib.bytesWorld_cell w el b i (by omega)
    rw [this]
    rw [hb]
   have hil:i<str.length:=by have:=(List.getElem?_eq_some_iff.1 hp).1; simpa using this
   rw [List.getElem?_map]at hp
   rw [List.getElem?_eq_getElem hil]at hp
   cases hp
   rw [List.getD_eq_getElem?_getD,List.getElem?_eq_getElem hil]
   exact .int _ _
  exact h.elim
 exact h.elim
theorem z7m (hi:Inv F G w) (he:zfi w.heap F G e a) {o:Oper} {f:Operand} {xs:Array Operand} {ats:Array TypeId} (hop:o.op = .call { callee := .value f,args:=xs,argTypes:=ats })
  {g:FuncId} {cap:List PV} (hf:e.ev f = .fn g cap) {J:PV→Store→Prop} (h:Ev P g (xs.toList.map e.ev++cap) G.er J) {K:PV→Store→Prop} (hK:∀ v S',J v S'→K v S')
  {next:Act→World→Prop} {Q:Exit→Act→World→Prop} (hk:Goes F G w K fun cv w'=>next (a.put o.dst cv) w'):o.wp P a w next Q:=by
 have hf':=he.ev f
 rw [hf]at hf'
 have:∀ cv,VR w.heap F G (.fn g cap) cv→∃ vs:Array Value,cv = .func (.func g) #[] vs∧cap.length=vs.size∧∀ (i:Nat) p v,cap[i]?=some p→vs[i]?=some v→VR w.heap F G p v:=by
  intro cv hv
  cases hv with
  | imm _ _ hv=>cases hv with | fn _ _ vs h2 h3=>exact ⟨vs,rfl,h2,fun i p v a b => .imm _ _ (h3 i p v a b)⟩
  | fn _ _ vs h2 h3=>exact ⟨vs,rfl,h2,h3⟩
 obtain ⟨vs,ef,k1,k2⟩:=this _ hf'
 have hr:(execOp a.eval o).run P w = .ok (.enter g (xs.map a.eval++vs)) w:=by
  simp only[execOp,hop,resolve,ef,Deferred.ofValue,Sem.run_bind,Sem.run_pure,Result.andThen_ok,invoke]
  rw [show (#[]++xs.map a.eval++vs:Array Value)=xs.map a.eval++vs by simp]
  exact h.ent _ _
 obtain ⟨l1,l2⟩:=he.list xs
 unfold Oper.wp
 rw [hr]
 show Calls P g _ w _
 refine (h.run F G w (xs.map a.eval++vs) rfl hi (by simp only[List.length_append,Array.size_append]; omega) (fun i p c q1 q2=>?_)).mono ?_
 ·by_cases hlt:i<(xs.toList.map e.ev).length
  ·rw [List.getElem?_append_left hlt]at q1
   rw [Array.getElem?_append_left (by omega)]at q2
   exact l2 i p c q1 q2
  rw [List.getElem?_append_right (by omega)]at q1
  rw [Array.getElem?_append_right (by omega)]at q2
  rw [l1]at q1
  exact k2 _ p c q1 q2
 rintro en w' ⟨v,cv,F',G',rfl,h0,h1,h2,h3⟩
 exact hk v cv F' G' w' (hK _ _ h0) h1 h2 h3
theorem z5c (hi:Inv F G w) (he:zfi w.heap F G e a) {o:Oper} {f:Operand} {xs:Array Operand} {ats:Array TypeId} (hop:o.op = .call { callee := .value f,args:=xs,argTypes:=ats })
  {g:FuncId} {b:PV} (hf:e.ev f = .bm g b) {J:PV→Store→Prop} (h:Ev P g (b::xs.toList.map e.ev) G.er J) {K:PV→Store→Prop} (hK:∀ v S',J v S'→K v S')
  {next:Act→World→Prop} {Q:Exit→Act→World→Prop} (hk:Goes F G w K fun cv w'=>next (a.put o.dst cv) w'):o.wp P a w next Q:=by
 have hf':=he.ev f
 rw [hf]at hf'
 have:∀ cv,VR w.heap F G (.bm g b) cv→∃ bv:Value,cv = .func (.func g) #[bv] #[]∧VR w.heap F G b bv:=by
  intro cv hv
  cases hv with
  | imm _ _ hv=>cases hv with | bm _ _ bv h2=>exact ⟨bv,rfl,.imm _ _ h2⟩
 obtain ⟨bv,ef,k2⟩:=this _ hf'
 have hr:(execOp a.eval o).run P w = .ok (.enter g (#[bv]++xs.map a.eval)) w:=by
  simp only[execOp,hop,resolve,ef,Deferred.ofValue,Sem.run_bind,Sem.run_pure,Result.andThen_ok,invoke]
  rw [show (#[bv]++xs.map a.eval ++ #[]:Array Value) = #[bv]++xs.map a.eval by simp]
  exact h.ent _ _
 obtain ⟨l1,l2⟩:=he.list xs
 unfold Oper.wp
 rw [hr]
 show Calls P g _ w _
 refine (h.run F G w (#[bv]++xs.map a.eval) rfl hi (by simp; omega) (fun i p c q1 q2=>?_)).mono ?_
 ·cases i with
  | zero =>
   obtain rfl:b=p:=by simpa using q1
   rw [Array.getElem?_append_left (by simp)]at q2
   obtain rfl:bv=c:=by simpa using q2
   exact k2
  | succ i =>
   rw [List.getElem?_cons_succ]at q1
   rw [Array.getElem?_append_right (by simp)]at q2
   exact l2 i p c q1 (by simpa using q2)
 rintro en w' ⟨v,cv,F',G',rfl,h0,h1,h2,h3⟩
 exact hk v cv F' G' w' (hK _ _ h0) h1 h2 h3
theorem yki {T:Tab} {e:Env} {S:Store} {o:Op} {K:PV→Store→Prop} (h:pOp P T e S o K):∀ c,o ≠ .defer c:=by
 rintro c rfl
 exact h
theorem yen {R:Option Nat} {ρ:Operand→Value} {o:Oper} (hd:∀ c,o.op ≠ .defer c):o.semAt R ρ=execOp ρ o:=by
 cases R with
 | none=>rfl
 | some l=>exact Oper.semAt_some l _ _ hd
theorem ylv {R:Option Nat} {nn:Nat} {o:Oper} {next:Act→World→Prop} {Q:Exit→Act→World→Prop} (hd:∀ c,o.op ≠ .defer c) (h:o.wp P a w next Q):o.wpIn (fnc R) nn P a w next Q:=by
 refine ⟨fun _ _=>trivial,?_⟩
 have e:(o.semAt (fnc R).round a.eval)=execOp a.eval o:=by
  cases R with
  | none=>rfl
  | some l=>exact Oper.semAt_some l _ _ hd
 rw [e]
 unfold Oper.wp at h
 generalize (execOp a.eval o).run P w=r at h ⊢
 cases r with
 | ok x w' =>
  cases x with
  | value v=>exact h
  | skip=>exact h
  | «defer» d=>exact h
  | enter f args=>exact ⟨fun q=>(by simp [Fence.wide]at q),callsIn_wide.2 h⟩
  | row row args=>exact ⟨fun q=>(by simp [Fence.wide]at q),fun c cs _=>let ⟨v,w2,r,s⟩:=h c cs; ⟨v,w2,r,stepsIn_wide.2 s⟩⟩
  | _=>exact h.elim
 | halt x w'=>cases x <;> exact h
theorem z63 {R:Option Nat} {nn:Nat} (hi:Inv F G w) (he:zfi w.heap F G e a) {o:Oper} {f:Operand} {xs:Array Operand} {ats:Array TypeId} (hop:o.op = .call { callee := .value f,args:=xs,argTypes:=ats })
  {l:Nat} (hf:e.ev f = .yl l) {J:PV→Store→Prop} (h:Ey P l (xs.toList.map e.ev) G.er J) {K:PV→Store→Prop} (hK:∀ v S',J v S'→K v S')
  {next:Act→World→Prop} {Q:Exit→Act→World→Prop} (hk:Goes F G w K fun cv w'=>next (a.put o.dst cv) w'):o.wpIn (fnc R) nn P a w next Q:=by
 have hf':=he.ev f
 rw [hf]at hf'
 have ef:a.eval f = .func (.yield l) #[] #[]:=by
  generalize a.eval f=cv at hf'
  cases hf' with
  | imm _ _ hv=>cases hv; rfl
 obtain ⟨l1,l2⟩:=he.list xs
 obtain ⟨fn,tmps,assign,body,hy,hR⟩:=h.run F G w (xs.map a.eval) rfl hi (by omega) l2
 have hr:(execOp a.eval o).run P w = .ok (.round l fn tmps assign body) w:=by
  simp only[execOp,hop,resolve,ef,Deferred.ofValue,Sem.run_bind,Sem.run_pure,Result.andThen_ok,invoke]
  rw [show (#[]++xs.map a.eval:Array Value)=xs.map a.eval by simp]
  exact hy
 refine ⟨fun _ _=>trivial,?_⟩
 rw [yen (by rw [hop]; intro c q; cases q),hr]
 refine ⟨fun q=>(by simp [Fence.wide]at q),(hR R _).mono ?_⟩
 rintro en w' ⟨v,cv,F',G',rfl,h0,h1,h2,h3⟩
 exact hk v cv F' G' w' (hK _ _ h0) h1 h2 h3
theorem zj2 {R:Option Nat} {nn:Nat} (hT:zby P T) (hi:Inv F G w) (he:zfi w.heap F G e a) {o:Oper} {K:PV→Store→Prop} (h:pOp P T e G.er o.op K)
  {next:Act→World→Prop} {Q:Exit→Act→World→Prop} (hk:Goes F G w K fun cv w'=>next (a.put o.dst cv) w'):o.wpIn (fnc R) nn P a w next Q:=by
 by_cases hyl:∃ f xs ats l,o.op = .call { callee := .value f,args:=xs,argTypes:=ats }∧e.ev f = .yl l
 ·obtain ⟨f,xs,ats,l,hop,hf⟩:=hyl
  rw [hop]at h
  simp only[pOp,zsi,hf]at h
  obtain ⟨J,h1,h2⟩:=h
  exact z63 hi he hop hf h1 h2 hk
 refine ylv (yki h) ?_
 cases hop:o.op with
 | alloc t=>exact z49 hT hi hop h hk
 | box t x=>exact ycz hT hi he hop h hk
 | buildSlice t n parts=>exact zqa hT hi he hop h hk
 | makeSlice t l c=>exact zse hT hi he hop h hk
 | makeMap t r=>exact zx0 hi hop h hk
 | store t ad x=>exact z6s hT hi he hop h hk
 | mapUpdate t m k x=>exact zsf hT hi he hop h hk
 | insert t m k x=>exact z1b hT hi he hop h hk
 | call c =>
  obtain ⟨cal,args,ats⟩:=c
  have h':=h
  rw [hop]at h'
  simp only[pOp]at h'
  cases cal with
  | value f =>
   simp only[zsi]at h'
   split at h'
   ·rename_i g cap hf
    obtain ⟨J,h1,h2⟩:=h'
    exact z7m hi he hop hf h1 h2 hk
   ·rename_i g b hf
    obtain ⟨J,h1,h2⟩:=h'
    exact z5c hi he hop hf h1 h2 hk
   ·rename_i l hf
    exact absurd ⟨f,args,ats,l,hop,hf⟩ hyl
   exact h'.elim
  | invoke r m=>exact zms hT hi he (by rw [hop]; intro _ _ _ h; cases h) (by rw [hop]; exact h') hk
  | builtin b =>
   by_cases hb:b = .append
   ·subst hb
    simp only[zsi]at h'
    split at h'
    ·rename_i x y t u h1 h2
     obtain ⟨x',y',rfl,rfl,rfl⟩:=z3g h1
     obtain rfl:ats = #[t,u]:=by obtain ⟨l⟩:=ats; exact congrArg Array.mk h2
     split at h'
     ·rename_i y2 hy2
      unfold yk3 at hy2
      split at hy2
      ·rename_i htu
       subst htu
       cases hy2
       exact z0e hT hi he hop h' hk
      split at hy2
      ·rename_i el s k1 k2 k3
       split at hy2
       ·rename_i hc
        cases hy2
        exact zp4 hT hi he hop k1 k2 hc.2 k3 h' hk
       cases hy2
      cases hy2
     exact h'.elim
    exact h'.elim
   by_cases hb2:b = .clear
   ·subst hb2
    simp only[zsi]at h'
    split at h'
    ·rename_i x t h1 h2
     obtain ⟨x',rfl,rfl⟩:=z3f h1
     obtain rfl:ats = #[t]:=by obtain ⟨l⟩:=ats; exact congrArg Array.mk h2
     exact z5d hT hi he hop h' hk
    exact h'.elim
   by_cases hb3:b = .copy
   ·subst hb3
    simp only[zsi]at h'
    split at h'
    ·rename_i x y t u h1 h2
     obtain ⟨x',y',rfl,rfl,rfl⟩:=z3g h1
     obtain rfl:ats = #[t,u]:=by obtain ⟨l⟩:=ats; exact congrArg Array.mk h2
     exact z7z hT hi he hop h' hk
    exact h'.elim
   have h2:zi1 (zfq T G.er (.builtin b) (args.toList.map e.ev) ats.toList) fun v=>K v G.er:=by
    cases b <;> first | exact absurd rfl hb | exact absurd rfl hb2 | exact absurd rfl hb3 | exact h'
   exact zms hT hi he (by rw [hop]; intro _ _ _ h; cases h) (by rw [hop]; exact h2) hk
 | convert s d x =>
  rw [hop]at h
  by_cases hd:∃ el,(T d).kd = .slice el
  ·obtain ⟨el,hd⟩:=hd
   exact z7y hT hi he hop hd h hk
  exact zms hT hi he (by rw [hop]; intro s d x h; cases h; exact fun e he=>hd ⟨e,he⟩) (by rw [hop]; exact h) hk
 | _=>exact zms hT hi he (by rw [hop]; intro _ _ _ h; cases h) (by rw [hop]at h ⊢; exact h) hk
end
end
section
def Marks (w0:World) (ds:List Deferred) (w:World):Prop :=
 ∃ bs:List Nat,ds=bs.map (fun b=>{ target := .collected b,args := #[] })∧bs.Nodup∧∀ b∈bs,w0.heap.size≤b∧w.heap[b]?=some (.deferred (some []))
theorem Marks.nil {w0 w:World}:Marks w0 [] w:=⟨[],rfl,.nil,by simp⟩
theorem z78 {F:Nat→Prop} {G:GSt} {w:World} (hi:Inv F G w) {b:Nat} {ds:Option (List Deferred)} (h:w.heap[b]?=some (.deferred ds)):∀ (o:Nat) x,G.obs[o]?=some x→x.2.blk≠b:=by
 rintro o ⟨ob,l⟩ hx e
 have:=hi.holds hx
 simp only at e
 cases ob with
 | arr v et sz cells=>obtain ⟨cs,⟨_,h1,_⟩,_⟩:=this; rw [e,h]at h1; cases h1
 | map v es=>obtain ⟨_,_,h1,_⟩:=this; rw [e,h]at h1; cases h1
 | lp v b r tmps=>obtain ⟨h0,t,h1,_⟩:=this; rw [← h0,e,h]at h1; cases h1
theorem Marks.next {w0:World} {ds:List Deferred} {F:Nat→Prop} {G:GSt} {w:World} {F':Nat→Prop} {G':GSt} {w':World} (h:Marks w0 ds w) (hi:Inv F G w) (hn:Next F G w F' G' w'):Marks w0 ds w':=by
 obtain ⟨bs,h1,h2,h3⟩:=h
 refine ⟨bs,h1,h2,fun b hb=>⟨(h3 b hb).1,?_⟩⟩
 have hd:=(h3 b hb).2
 exact (hn.keep b (Array.getElem?_eq_some_iff.1 hd).1 (z78 hi hd)).trans hd
def Sto (F0:Nat→Prop) (G0:GSt) (w0:World) (N:Nat) (Q:Exit→Env→Store→Prop):Exit→Act→World→Prop :=
 fun x a w=>∃ e F G,Q x e G.er∧Inv F G w∧zfi w.heap F G e a∧Next F0 G0 w0 F G w∧a.tmps.size=N∧Marks w0 a.defers w
def Nrm (Q:Env→Store→Prop):Exit→Env→Store→Prop
 | .normal,e,S=>Q e S
 | _,_,_=>False
section
variable {P:Program} {T:Tab} {F:Nat→Prop} {G:GSt} {w:World} {e:Env} {a:Act} {F0:Nat→Prop} {G0:GSt} {w0:World} {N:Nat}
theorem zfi.next (hi:Inv F G w) (he:zfi w.heap F G e a) {F':Nat→Prop} {G':GSt} {w':World} (hn:Next F G w F' G' w'):zfi w'.heap F' G' e a:=fun t=>(he t).next hi hn
theorem zgd (a:Act) (d:Option Tmp) (v:Value):(a.put d v).tmps.size=a.tmps.size:=by
 cases d <;> simp [Act.put]
theorem zdv (a:Act) (d:Option Tmp) (v:Value):(a.put d v).defers=a.defers:=by
 cases d <;> simp [Act.put]
theorem zih (he:zfi w.heap F G e a) {ops:Array Oper} {o:Oper} {yes no:Prop} (h:zdw ops o e yes no) :
  (Region.wanted o (yielded ops a.tmps)=true∧yes)∨(Region.wanted o (yielded ops a.tmps)=false∧no):=by
 unfold zdw at h
 have key:∀ b,gdec ops o e=some b→Region.wanted o (yielded ops a.tmps)=b:=by
  intro b hb
  unfold gdec at hb
  unfold Region.wanted
  cases hg:o.guard with
  | none=>rw [hg]at hb; cases hb; rfl
  | some q =>
   obtain ⟨j,want⟩:=q
   rw [hg]at hb
   simp only at hb ⊢
   unfold yielded
   cases hd:(ops[j]?).bind (·.dst) with
   | none=>rw [hd]at hb; cases hb
   | some d =>
    rw [hd]at hb
    simp only[Option.bind_some]at hb ⊢
    have hv:=he d
    cases hed:e d with
    | bool c =>
     rw [hed]at hb hv
     have h1:=hv.bool
     have h2:a.tmps[d]?=some (.bool c):=by
      rw [Array.getD_eq_getD_getElem?]at h1
      cases hq:a.tmps[d]? with
      | none=>rw [hq]at h1; simp [undef]at h1
      | some u=>rw [hq]at h1; simp at h1; rw [h1]
     simp only[h2]
     cases hb
     simp
    | tup cs =>
     rw [hed]at hb hv
     cases cs with
     | cons c cs=>cases hb
     | nil =>
      cases hb
      obtain ⟨vs,h1,h2,_⟩:=hv.tup'
      rw [Array.getD_eq_getD_getElem?]at h1
      cases hq:a.tmps[d]? with
      | none=>rfl
      | some u=>rw [hq]at h1; simp at h1; subst h1; rfl
    | _=>rw [hed]at hb; cases hb
 cases hd:gdec ops o e with
 | none=>rw [hd]at h; exact h.elim
 | some b =>
  rw [hd]at h
  cases b with
  | true=>exact .inl ⟨key _ hd,h⟩
  | false=>exact .inr ⟨key _ hd,h⟩
theorem zna (hi:Inv F G w) (he:zfi w.heap F G e a) (d:Option Tmp) (hd:∀ t,d=some t→t<a.tmps.size):zfi w.heap F G (e.put d (.tup [])) (a.put d undef) :=
 he.put d hd (.imm _ _ (.tup [] #[] rfl (by simp)))
theorem zny {R:Option Nat} {nn:Nat} (hT:zby P T) {ops:Array Oper} {Q:Env→Store→Prop}:∀ (l:List Oper) {e:Env} {F:Nat→Prop} {G:GSt} {a:Act} {w:World},yia P T ops Q l e G.er→Inv F G w→zfi w.heap F G e a →
  Next F0 G0 w0 F G w→a.tmps.size=N→Marks w0 a.defers w→(∀ o∈l,∀ d,o.dst=some d→d<N)→wpListIn (fnc R) nn P ops (Sto F0 G0 w0 N (Nrm Q)) l a w
 | [],e,F,G,a,w,h,hi,he,hn,hs,hd,_=>⟨e,F,G,h,hi,he,hn,hs,hd⟩
 | o::l,e,F,G,a,w,h,hi,he,hn,hs,hd,hdst=>by
  have ho:∀ t,o.dst=some t→t<a.tmps.size:=fun t ht=>by rw [hs]; exact hdst o (by simp) t ht
  have hl:∀ o∈l,∀ d,o.dst=some d→d<N:=fun o' h'=>hdst o' (by simp [h'])
  simp only[yia]at h
  unfold wpListIn
  rcases zih he h with ⟨hw,h⟩ | ⟨hw,h⟩
  ·rw [if_pos hw]
   refine zj2 hT hi he h ?_
   intro v cv F' G' w' hK i1 i2 i3
   refine zny hT l hK i1 ((he.next hi i2).put _ ho i3) (hn.trans i2) (by rw [zgd]; exact hs) (by rw [zdv]; exact hd.next hi i2) hl
  rw [if_neg (by simp [hw])]
  exact ⟨fun _ _=>trivial,zny hT l h hi (zna hi he _ ho) hn (by rw [zgd]; exact hs) (by rw [zdv]; exact hd) hl⟩
end
end
section
def pFl (P:Program) (T:Tab) (S:Store) (e:Env) (o:Op) (v:PV):Prop :=
 match o with
 | .call c =>
  match c.callee with
  | .value f=>match e.ev f with
   | .fn g cap=>∃ ts fr,(c.args.toList.map e.ev++cap).mapM (reify S true 10)=some ts∧(fr=true∨(c.args.toList.map e.ev++cap).mapM (reify ⟨[],0⟩ true 10)=some ts)∧PC P g ts v fr
   | .bm g b=>∃ ts fr,(b::c.args.toList.map e.ev).mapM (reify S true 10)=some ts∧(fr=true∨(b::c.args.toList.map e.ev).mapM (reify ⟨[],0⟩ true 10)=some ts)∧PC P g ts v fr
   | _=>False
  | _=>zd2 T S e o=some v
 | _=>zd2 T S e o=some v
def z64 (P:Program) (T:Tab) (S:Store) (e:Env) (o:Op) (K:PV→Prop):Prop :=
 match o with
 | .call c =>
  match c.callee with
  | .value f=>match e.ev f with
   | .fn g cap=>∃ v ts fr,(c.args.toList.map e.ev++cap).mapM (reify S true 10)=some ts∧(fr=true∨(c.args.toList.map e.ev++cap).mapM (reify ⟨[],0⟩ true 10)=some ts)∧PC P g ts v fr∧K v
   | .bm g b=>∃ v ts fr,(b::c.args.toList.map e.ev).mapM (reify S true 10)=some ts∧(fr=true∨(b::c.args.toList.map e.ev).mapM (reify ⟨[],0⟩ true 10)=some ts)∧PC P g ts v fr∧K v
   | _=>False
  | _=>zi1 (zd2 T S e o) K
 | _=>zi1 (zd2 T S e o) K
theorem zmj {o:Option PV} {K:PV→Prop}:zi1 o K↔∃ v,o=some v∧K v:=by
 cases o <;> simp [zi1]
theorem zc0 {P:Program} {T:Tab} {S:Store} {e:Env} {o:Op} {K:PV→Prop}:z64 P T S e o K↔∃ v,pFl P T S e o v∧K v:=by
 cases o with
 | call c =>
  obtain ⟨cal,args,ats⟩:=c
  cases cal with
  | value f =>
   simp only[z64,pFl]
   cases e.ev f with
   | fn g cap =>
    simp only
    constructor
    ·rintro ⟨v,ts,fr,h1,h2,h3,h4⟩; exact ⟨v,⟨ts,fr,h1,h2,h3⟩,h4⟩
    rintro ⟨v,⟨ts,fr,h1,h2,h3⟩,h4⟩; exact ⟨v,ts,fr,h1,h2,h3,h4⟩
   | bm g b =>
    simp only
    constructor
    ·rintro ⟨v,ts,fr,h1,h2,h3,h4⟩; exact ⟨v,⟨ts,fr,h1,h2,h3⟩,h4⟩
    rintro ⟨v,⟨ts,fr,h1,h2,h3⟩,h4⟩; exact ⟨v,ts,fr,h1,h2,h3,h4⟩
   | _=>simp
  | _=>simp only[z64,pFl]; exact zmj
 | _=>simp only[z64,pFl]; exact zmj
def Keeps (keep:List Nat) (S S':Store):Prop:=∀ o∈keep,S'.obs[o]?=S.obs[o]?
def Stable (P:Program) (T:Tab) (keep:List Nat) (S:Store) (e:Env) (o:Op) (v:PV):Prop:=∀ S',Keeps keep S S'→pFl P T S' e o v
def zdg (P:Program) (T:Tab) (ops:Array Oper) (effs pend keep:List Nat) (Q:Env→Store→Prop):List Nat→Env→Store→Prop
 | [],e,S=>Q e S
 | i::r,e,S =>
  match ops[i]? with
  | none=>False
  | some o=>zdw ops o e
    (if effs.contains i then pOp P T e S o.op fun v S'=>(pend.contains i=true∨Keeps keep S S')∧zdg P T ops effs pend keep Q r (e.put o.dst v) S'
    else z64 P T S e o.op fun v=>(if pend.contains i then Stable P T keep S e o.op v else True)∧zdg P T ops effs pend keep Q r (e.put o.dst v) S)
    (zdg P T ops effs pend keep Q r (e.put o.dst (.tup [])) S)
def zm1:Op→Bool
 | .move _ | .assign _ | .pick .. | .unOp .. | .field .. | .makeFunc .. | .extract .. | .build .. | .index .. => true
 | .binOp op .. => !(op matches .eql | .neq)
 | _=>false
def zfk (acc:List Nat) (es:List Edge):Nat:=es.foldr (fun e s=>if Region.binds .any e then s ||| 2 ^ e.on ||| acc.getD e.on 0 else s) 0
def zet:List Oper→List Nat→List Nat
 | [],acc=>acc
 | o::r,acc=>zet r (acc++[zfk acc o.after.toList])
def prs (ops:Array Oper):List Nat:=zet ops.toList []
def zgs (ops:Array Oper) (B:List Nat) (effs pend:List Nat) (x i:Nat):Bool :=
 !(B.getD x 0).testBit i && ((B.getD i 0).testBit x ||
  (!effs.contains x && (match ops[x]?,ops[i]? with | some p,some q=>Oper.apart ops p q | _,_=>false) && (!effs.contains i || (pend.contains x && !pend.contains i) || (match ops[x]? with | some p=>zm1 p.op | none=>false))))
def zk6 (f:Nat→Nat→Bool):List Nat→Bool
 | []=>true
 | x::r=>r.all (f x) && !r.contains x && zk6 f r
def zhy (ops:Array Oper) (l effs pend:List Nat):Bool :=
 let B:=prs ops
 zk6 (zgs ops B effs pend) l && l.length == ops.size && l.all (fun x=>decide (x<ops.size) && !(B.getD x 0).testBit x) && ((List.range ops.size).all l.contains) &&
 ops.toList.all fun o=>o.after.toList.all fun e => !Region.binds .any e || decide (e.on<ops.size)
theorem zi7 {acc:List Nat} {x:Nat}:∀ {es:List Edge},(zfk acc es).testBit x=true→∃ e∈es,Region.binds .any e=true∧(x=e.on∨(acc.getD e.on 0).testBit x=true)
 | [],h=>by simp [zfk]at h
 | e::es,h=>by
  have step:zfk acc (e::es)=if Region.binds .any e then zfk acc es ||| 2 ^ e.on ||| acc.getD e.on 0 else zfk acc es:=rfl
  rw [step]at h
  split at h
  ·rename_i hb
   rw [Nat.testBit_or,Nat.testBit_or,Bool.or_eq_true,Bool.or_eq_true]at h
   rcases h with (h | h) | h
   ·obtain ⟨e',h1,h2,h3⟩:=zi7 h; exact ⟨e',by simp [h1],h2,h3⟩
   ·rw [Nat.testBit_two_pow]at h
    exact ⟨e,by simp,hb,.inl (Eq.symm (by simpa using h))⟩
   exact ⟨e,by simp,hb,.inr h⟩
  obtain ⟨e',h1,h2,h3⟩:=zi7 h; exact ⟨e',by simp [h1],h2,h3⟩
theorem zif:∀ (l:List Oper) (acc:List Nat),(∀ i,i<acc.length→(zet l acc)[i]?=acc[i]?) ∧
  ∀ (j:Nat) o,l[j]?=some o→∃ acc',(∀ y,(acc'.getD y 0)=if y<acc.length+j then (zet l acc).getD y 0 else 0)∧(zet l acc)[acc.length+j]?=some (zfk acc' o.after.toList)
 | [],acc=>⟨fun _ _=>rfl,fun j o h=>by simp at h⟩
 | o::l,acc=>by
  obtain ⟨h1,h2⟩:=zif l (acc++[zfk acc o.after.toList])
  simp only[List.length_append,List.length_singleton]at h1 h2
  refine ⟨fun i hi=>?_,fun j o' hj=>?_⟩
  ·simp only[zet]
   rw [h1 i (by omega),List.getElem?_append_left hi]
  cases j with
  | zero =>
   simp at hj
   subst hj
   refine ⟨acc,fun y=>?_,?_⟩
   ·simp only[Nat.add_zero,zet]
    split
    ·rename_i hy
     rw [List.getD_eq_getElem?_getD,List.getD_eq_getElem?_getD,h1 y (by omega),List.getElem?_append_left hy]
    rename_i hy
    rw [List.getD_eq_getElem?_getD,List.getElem?_eq_none (by omega)]; rfl
   simp only[Nat.add_zero,zet]
   rw [h1 _ (by omega),List.getElem?_append_right (qR _)]
   simp
  | succ j =>
   obtain ⟨acc',k1,k2⟩:=h2 j o' (by simpa using hj)
   refine ⟨acc',fun y=>?_,?_⟩
   ·simp only[zet]
    rw [k1 y]
    congr 1
    simp; omega
   simp only[zet]
   rw [← k2]; congr 1; omega
theorem zik {ops:Array Oper} {x i:Nat} (h:((prs ops).getD i 0).testBit x=true) :
  ∃ o,ops[i]?=some o∧∃ e∈o.after.toList,Region.binds .any e=true∧(x=e.on∨(e.on<i∧((prs ops).getD e.on 0).testBit x=true)):=by
 by_cases hi:i<ops.size
 ·obtain ⟨acc',h1,h2⟩:=(zif ops.toList []).2 i ops[i] (by simp [hi])
  simp only[List.length_nil,Nat.zero_add]at h1 h2
  refine ⟨ops[i],by simp [hi],?_⟩
  unfold prs at h
  rw [List.getD_eq_getElem?_getD,h2]at h
  obtain ⟨e,k1,k2,k3⟩:=zi7 h
  refine ⟨e,k1,k2,k3.imp id fun k=>?_⟩
  rw [h1]at k
  split at k
  ·rename_i hlt; exact ⟨hlt,k⟩
  simp at k
 exfalso
 have hl:∀ (l:List Oper) (acc:List Nat),(zet l acc).length=acc.length+l.length:=by
  intro l
  induction l with
  | nil=>intro acc; simp [zet]
  | cons o l ih=>intro acc; simp [zet,ih]; omega
 unfold prs at h
 rw [List.getD_eq_getElem?_getD,List.getElem?_eq_none (by rw [hl]; simp; omega)]at h
 simp at h
theorem ztw {ops:Array Oper} {i:Nat} {o:Oper} (ho:ops[i]?=some o) {e:Edge} (he:e∈o.after.toList) (hb:Region.binds .any e=true):((prs ops).getD i 0).testBit e.on=true:=by
 have hi:i<ops.size:=(Array.getElem?_eq_some_iff.1 ho).1
 obtain ⟨acc',_,h2⟩:=(zif ops.toList []).2 i o (by simpa using ho)
 simp only[List.length_nil,Nat.zero_add]at h2
 unfold prs
 rw [List.getD_eq_getElem?_getD,h2]
 simp only[Option.getD_some]
 clear h2
 generalize o.after.toList=es at he
 induction es with
 | nil=>simp at he
 | cons e' es ih =>
  have step:zfk acc' (e'::es)=if Region.binds .any e' then zfk acc' es ||| 2 ^ e'.on ||| acc'.getD e'.on 0 else zfk acc' es:=rfl
  rw [step]
  rcases List.mem_cons.1 he with rfl | he
  ·rw [if_pos hb,Nat.testBit_or,Nat.testBit_or,Nat.testBit_two_pow]; simp
  split
  ·rw [Nat.testBit_or,Nat.testBit_or,ih he]; simp
  exact ih he
section
variable {P:Program} {T:Tab} {e e':Env}
theorem ydc {x:Operand} (h:∀ t,x = .tmp t→e t=e' t):e.ev x=e'.ev x:=by
 cases x with
 | tmp t=>exact h t rfl
 | _=>rfl
def Agree (e e':Env) (xs:List Operand):Prop:=∀ x∈xs,e.ev x=e'.ev x
theorem zjf {xs:List Operand} (h:Agree e e' xs):xs.map e.ev=xs.map e'.ev:=List.map_congr_left h
theorem zrg {ps:List (Nat × Operand)} (h:Agree e e' (ps.map (·.2))):(ps.map fun p=>(p.1,e.ev p.2))=ps.map fun p=>(p.1,e'.ev p.2) :=
 List.map_congr_left fun p hp=>by rw [h p.2 (List.mem_map.2 ⟨p,hp,rfl⟩)]
theorem zya {x:Option Operand} (h:Agree e e' x.toList):x.map e.ev=x.map e'.ev:=by
 cases x with
 | none=>rfl
 | some x=>simp [h x (by simp)]
theorem zrf {S:Store} {o:Op} (h:Agree e e' o.operands.toList):zd2 T S e o=zd2 T S e' o:=by
 cases o <;> simp only[zd2] <;> simp only[Op.operands]at h
 case makeFunc fn first cap=>rw [zjf (xs:=first.toList) fun x hx=>h x (by simp at hx ⊢; exact .inl hx),zjf (xs:=cap.toList) fun x hx=>h x (by simp at hx ⊢; exact .inr hx)]
 case slice t x lo hi mx =>
  rw [h x (by simp),zya (x:=lo) fun y hy=>h y (by cases lo <;> simp_all),zya (x:=hi) fun y hy=>h y (by cases hi <;> simp_all)]
 case build t ps=>rw [zrg fun x hx=>h x (by simpa using hx)]
 case call c=>rw [zjf (xs:=c.args.toList) fun x hx=>h x (by simp [Call.operands]at hx ⊢; exact .inr hx)]
 all_goals first
  | rfl
  | (rw [h _ (by simp)]; done)
  | (rw [h _ (by simp),h _ (by simp)]; done)
  | (rw [h _ (by simp),h _ (by simp),h _ (by simp)]; done)
theorem zh9 {S:Store} {o:Op} {v:PV} (h:Agree e e' o.operands.toList):pFl P T S e o v↔pFl P T S e' o v:=by
 have hp:=zrf (T:=T) (S:=S) h
 cases o with
 | call c =>
  obtain ⟨cal,args,ats⟩:=c
  have ha:args.toList.map e.ev=args.toList.map e'.ev:=zjf fun x hx=>h x (by simp [Op.operands,Call.operands]at hx ⊢; exact .inr hx)
  cases cal with
  | value f =>
   have hf:e.ev f=e'.ev f:=h f (by simp [Op.operands,Call.operands])
   simp only[pFl,ha,hf]
  | _=>simp only[pFl,hp]
 | _=>simp only[pFl,hp]
theorem zyn {S:Store} {o:Op} {K:PV→Store→Prop} (h:Agree e e' o.operands.toList):pOp P T e S o K=pOp P T e' S o K:=by
 have hp:=zrf (T:=T) (S:=S) h
 cases o with
 | call c =>
  obtain ⟨cal,args,ats⟩:=c
  have ha:args.toList.map e.ev=args.toList.map e'.ev:=zjf fun x hx=>h x (by simp [Op.operands,Call.operands]at hx ⊢; exact .inr hx)
  cases cal with
  | value f =>
   have hf:e.ev f=e'.ev f:=h f (by simp [Op.operands,Call.operands])
   simp only[pOp,ha,hf]
  | _=>simp only[pOp,ha]
 | box t x=>simp only[pOp]; rw [h x (by simp [Op.operands])]
 | store t a x=>simp only[pOp]; rw [h a (by simp [Op.operands]),h x (by simp [Op.operands])]
 | makeSlice t l c=>simp only[pOp]; rw [h l (by simp [Op.operands]),h c (by simp [Op.operands])]
 | buildSlice t n ps=>simp only[pOp]; rw [zrg fun x hx=>h x (by simpa [Op.operands] using hx)]
 | mapUpdate t m k x=>simp only[pOp]; rw [h m (by simp [Op.operands]),h k (by simp [Op.operands]),h x (by simp [Op.operands])]
 | insert t m k x=>simp only[pOp]; rw [h m (by simp [Op.operands]),h k (by simp [Op.operands]),h x (by simp [Op.operands])]
 | alloc t=>rfl
 | makeMap t r=>rfl
 | _=>simp only[pOp,hp]
theorem zek {ops:Array Oper} {o:Oper} (h:∀ t,t∈o.looksAt ops→e t=e' t):Agree e e' o.op.operands.toList :=
 fun _ hx=>ydc fun t ht=>h t (List.mem_append_left _ (List.mem_filterMap.2 ⟨.tmp t,by rw [← ht]; simpa using hx,rfl⟩))
theorem zh6 {ops:Array Oper} {o:Oper} (h:∀ t,t∈o.looksAt ops→e t=e' t):gdec ops o e=gdec ops o e':=by
 unfold gdec
 cases hg:o.guard with
 | none=>rfl
 | some q =>
  obtain ⟨j,want⟩:=q
  simp only
  cases hd:(ops[j]?).bind (·.dst) with
  | none=>rfl
  | some d =>
   have:e d=e' d:=h d (List.mem_append_right _ (by simp [hg,hd]))
   simp only[this]
theorem ze5 {d:Option Tmp} {v:PV} {t:Nat} (h:d≠some t):(e.put d v) t=e t:=by
 cases d with
 | none=>rfl
 | some d=>simp only[Env.put]; rw [if_neg (fun h1=>h (by rw [h1]))]
theorem zvs {d d':Option Tmp} {v v':PV} (h:∀ t,d=some t→d'≠some t):(e.put d v).put d' v'=(e.put d' v').put d v:=by
 funext t
 by_cases h1:d=some t
 ·have h2:=h t h1
  rw [ze5 h2]
  subst h1
  simp [Env.put]
 rw [ze5 (d:=d) h1]
 by_cases h2:d'=some t
 ·subst h2; simp [Env.put]
 rw [ze5 h2,ze5 h2,ze5 h1]
theorem zey {S:Store} {o:Op} {K K':PV→Store→Prop} (hk:∀ v S',K v S'→K' v S') (h:pOp P T e S o K):pOp P T e S o K':=by
 have hgive:∀ {x:Option PV},(zi1 x fun v=>K v S)→zi1 x fun v=>K' v S:=by
  intro x h; cases x with | none=>exact h | some v=>exact hk _ _ h
 cases o with
 | alloc t=>exact ⟨h.1,hk _ _ h.2⟩
 | box t x=>exact ⟨h.1,h.2.1,h.2.2.1,hk _ _ h.2.2.2⟩
 | buildSlice t n ps =>
  simp only[pOp]at h ⊢
  split at h
  ·refine ⟨h.1,h.2.1,?_⟩
   have h2:=h.2.2
   split at h2
   ·exact ⟨h2.1,hk _ _ h2.2⟩
   exact h2
  exact h
 | makeSlice t l c =>
  simp only[pOp]at h ⊢
  split at h
  ·exact ⟨h.1,h.2.1,h.2.2.1,h.2.2.2.1,hk _ _ h.2.2.2.2⟩
  exact h
 | makeMap t r=>exact ⟨h.1,hk _ _ h.2⟩
 | store t a x =>
  simp only[pOp]at h ⊢
  split at h
  ·split at h
   ·exact ⟨h.1,h.2.1,h.2.2.1,h.2.2.2.1,h.2.2.2.2.1,hk _ _ h.2.2.2.2.2⟩
   exact h
  exact h
 | mapUpdate t m k x =>
  simp only[pOp]at h ⊢
  split at h
  ·split at h
   ·refine ⟨h.1,h.2.1,?_⟩
    have h2:=h.2.2
    split at h2
    ·exact hk _ _ h2
    ·exact hk _ _ h2
    exact h2
   exact h
  exact h
 | insert t m k x =>
  simp only[pOp]at h ⊢
  split at h
  ·split at h
   ·refine ⟨h.1,h.2.1,?_⟩
    have h2:=h.2.2
    split at h2
    ·exact hk _ _ h2
    ·exact hk _ _ h2
    exact h2
   exact h
  exact h
 | call c =>
  simp only[pOp]at h ⊢
  unfold zsi at h ⊢
  split at h
  ·split at h
   ·split at h
    ·rename_i h2
     unfold zjg at h ⊢
     split at h
     ·split at h
      ·split at h
       ·split at h
        ·rename_i hm; rw [if_pos hm]; exact hk _ _ h
        rename_i hm; rw [if_neg hm]; exact ⟨h.1,h.2.1,hk _ _ h.2.2⟩
       ·split at h
        ·exact ⟨h.1,h.2.1,h.2.2.1,h.2.2.2.1,h.2.2.2.2.1,h.2.2.2.2.2.1,hk _ _ h.2.2.2.2.2.2⟩
        exact h
       exact h
      exact h
     exact h
    exact h
   exact h
  ·split at h
   ·unfold zto at h ⊢
    split at h
    ·split at h
     ·split at h
      ·exact ⟨h.1,h.2.1,h.2.2.1,h.2.2.2.1,hk _ _ h.2.2.2.2⟩
      exact h
     exact h
    exact h
   exact h
  ·split at h
   ·unfold z54 at h ⊢
    split at h
    ·split at h
     ·split at h
      ·split at h
       ·exact ⟨h.1,h.2.1,h.2.2.1,hk _ _ h.2.2.2⟩
       exact h
      exact h
     exact h
    exact h
   exact h
  ·split at h
   ·obtain ⟨J,h1,h2⟩:=h; exact ⟨J,h1,fun v S1 hv=>hk _ _ (h2 v S1 hv)⟩
   ·obtain ⟨J,h1,h2⟩:=h; exact ⟨J,h1,fun v S1 hv=>hk _ _ (h2 v S1 hv)⟩
   ·obtain ⟨J,h1,h2⟩:=h; exact ⟨J,h1,fun v S1 hv=>hk _ _ (h2 v S1 hv)⟩
   exact h
  exact hgive h
 | _=>simp only[pOp]at h ⊢; exact hgive h
theorem zt2 {S S':Store} {o:Op} (h:zm1 o=true):zd2 T S e o=zd2 T S' e o:=by
 cases o <;> simp only[zm1]at h <;> first | rfl | (cases h; done) | skip
 case binOp op t x y yt =>
  simp only[zd2]
  unfold yje
  cases op <;> first | (simp at h; done) | rfl
theorem zv2 {S S':Store} {o:Op} {v:PV} (h:zm1 o=true) (hv:pFl P T S e o v):pFl P T S' e o v:=by
 have hp:=zt2 (T:=T) (e:=e) (S:=S) (S':=S') h
 cases o with
 | call c=>simp [zm1]at h
 | _=>simp only[pFl]at hv ⊢; rw [← hp]; exact hv
theorem ztt {ops:Array Oper} {effs pend keep:List Nat} {Q:Env→Store→Prop} {x:Nat} {r r':List Nat} (h:∀ e S,zdg P T ops effs pend keep Q r e S→zdg P T ops effs pend keep Q r' e S) {S:Store}
  (k:zdg P T ops effs pend keep Q (x::r) e S):zdg P T ops effs pend keep Q (x::r') e S:=by
 simp only[zdg]at k ⊢
 cases ho:ops[x]? with
 | none=>rw [ho]at k; exact k
 | some o =>
  rw [ho]at k
  simp only at k ⊢
  unfold zdw at k ⊢
  split
  ·rename_i hg
   rw [hg]at k
   simp only at k
   split
   ·rename_i hc; rw [if_pos hc]at k; exact zey (fun v S' q=>⟨q.1,h _ _ q.2⟩) k
   rename_i hc
   rw [if_neg hc]at k
   rw [zc0]at k ⊢
   obtain ⟨v,k1,k2,k3⟩:=k
   exact ⟨v,k1,k2,h _ _ k3⟩
  ·rename_i hg
   rw [hg]at k
   exact h _ _ k
  rename_i hg; rw [hg]at k; exact k
theorem zts {ops:Array Oper} {effs pend keep:List Nat} {Q:Env→Store→Prop} {x i:Nat} {r:List Nat} {S:Store} {p q:Oper} (hp:ops[x]?=some p) (hq:ops[i]?=some q)
  (hx:effs.contains x=false) (hap:Oper.apart ops p q=true) (hpend:effs.contains i=true→(pend.contains x=true∧pend.contains i=false)∨zm1 p.op=true)
  (k:zdg P T ops effs pend keep Q (x::i::r) e S):zdg P T ops effs pend keep Q (i::x::r) e S:=by
 obtain ⟨a1,a2,a3⟩:=Oper.apart_spec hap
 have lookq:∀ v,∀ t,t∈q.looksAt ops→(e.put p.dst v) t=e t:=fun v t ht=>ze5 fun h=>a1 t h ht
 have lookp:∀ v,∀ t,t∈p.looksAt ops→(e.put q.dst v) t=e t:=fun v t ht=>ze5 fun h=>a3 t h ht
 have comm:∀ v u,(e.put p.dst v).put q.dst u=(e.put q.dst u).put p.dst v:=fun v u=>zvs fun t h1 h2=>a2 t h1 h2
 simp only[zdg,hp,hq,hx,if_false,qF]at k ⊢
 unfold zdw at k ⊢
 have gq:∀ v,gdec ops q (e.put p.dst v)=gdec ops q e:=fun v=>zh6 (lookq v)
 have gp:∀ v,gdec ops p (e.put q.dst v)=gdec ops p e:=fun v=>zh6 (lookp v)
 simp only[gq,gp]at k ⊢
 have flp:∀ {S v u},pFl P T S (e.put q.dst v) p.op u↔pFl P T S e p.op u:=zh9 (zek (lookp _))
 have flq:∀ {S v u},pFl P T S (e.put p.dst v) q.op u↔pFl P T S e q.op u:=zh9 (zek (lookq _))
 have opq:∀ {S v K},pOp P T (e.put p.dst v) S q.op K=pOp P T e S q.op K:=zyn (zek (lookq _))
 simp only[zc0,flp,flq,opq,comm,Stable]at k ⊢
 cases hgp:gdec ops p e with
 | none=>rw [hgp]at k; exact k.elim
 | some bp =>
  rw [hgp]at k
  cases bp with
  | true =>
   obtain ⟨v,k1,k2,k3⟩:=k
   cases hgq:gdec ops q e with
   | none=>rw [hgq]at k3; exact k3.elim
   | some bq =>
    rw [hgq]at k3
    cases bq with
    | true =>
     simp only at k3 ⊢
     split
     ·rename_i hc
      rw [if_pos hc]at k3
      refine zey (fun u S' hu=>⟨hu.1,v,?_,?_,hu.2⟩) k3
      ·rcases hpend hc with ⟨h1,h2⟩ | h1
       ·rw [if_pos h1]at k2
        exact k2 S' (hu.1.resolve_left (by rw [h2]; exact Bool.false_ne_true))
       exact zv2 h1 k1
      split
      ·rename_i h1
       rw [if_pos h1]at k2
       rcases hpend hc with ⟨_,h2⟩ | h2
       ·exact fun S'' h3=>k2 S'' fun o ho=>(h3 o ho).trans (hu.1.resolve_left (by rw [h2]; exact Bool.false_ne_true) o ho)
       exact fun S'' _=>zv2 h2 k1
      trivial
     rename_i hc
     rw [if_neg hc]at k3
     obtain ⟨u,h1,h2,h3⟩:=k3
     exact ⟨u,h1,h2,v,k1,k2,h3⟩
    | false=>exact ⟨v,k1,k2,k3⟩
  | false =>
   simp only at k ⊢
   exact k
end
end
section
section
variable {P:Program} {T:Tab} {F0:Nat→Prop} {G0:GSt} {w0:World} {N:Nat}
theorem zfe {ops:Array Oper} {effs pend keep:List Nat} {Q:Env→Store→Prop} {i:Nat} {q:Oper} (hq:ops[i]?=some q) {l2:List Nat} :
  ∀ (l1:List Nat) {e:Env} {S:Store},(∀ x∈l1,∃ p,ops[x]?=some p∧effs.contains x=false∧Oper.apart ops p q=true∧(effs.contains i=true→(pend.contains x=true∧pend.contains i=false)∨zm1 p.op=true)) →
   zdg P T ops effs pend keep Q (l1++i::l2) e S→zdg P T ops effs pend keep Q (i::(l1++l2)) e S
 | [],e,S,_,h=>h
 | x::l1,e,S,hx,h=>by
  obtain ⟨p,h1,h2,h3,h4⟩:=hx x (by simp)
  exact zts h1 hq h2 h3 h4 (ztt (fun e S=>zfe hq l1 fun y hy=>hx y (by simp [hy])) h)
theorem zrb {S:Store} {e:Env} {op:Op} {v:PV} (h1:pFl P T S e op v):pOp P T e S op fun v' S'=>v'=v∧S'=S:=by
 cases op with
 | call c =>
  obtain ⟨cal,args,ats⟩:=c
  cases cal with
  | value f =>
   simp only[pFl]at h1
   simp only[pOp,zsi]
   split at h1
   ·rename_i g cap hf
    try rw [hf]
    obtain ⟨ts,fr,k1,k2,k3⟩:=h1
    exact ⟨_,k3.ev k1 k2,fun v S1 hv=>hv⟩
   ·rename_i g cap hf
    try rw [hf]
    obtain ⟨ts,fr,k1,k2,k3⟩:=h1
    exact ⟨_,k3.ev k1 k2,fun v S1 hv=>hv⟩
   exact h1.elim
  | invoke rv m=>simp only[pFl,zd2]at h1; simp only[pOp,zsi,h1,zi1]; simp
  | builtin b =>
   simp only[pFl,zd2]at h1
   by_cases hb:b = .append
   ·subst hb; simp [zfq]at h1
   by_cases hb2:b = .clear
   ·subst hb2; simp [zfq]at h1
   by_cases hb3:b = .copy
   ·subst hb3; simp [zfq]at h1
   have:zi1 (zfq T S (.builtin b) (args.toList.map e.ev) ats.toList) fun v'=>v'=v∧S=S:=by rw [h1]; exact ⟨rfl,rfl⟩
   simp only[pOp]
   cases b <;> first | exact absurd rfl hb | exact absurd rfl hb2 | exact absurd rfl hb3 | exact this
 | alloc t=>simp [pFl,zd2]at h1
 | box t x=>simp [pFl,zd2]at h1
 | buildSlice t n ps=>simp [pFl,zd2]at h1
 | makeSlice t l c=>simp [pFl,zd2]at h1
 | makeMap t r=>simp [pFl,zd2]at h1
 | store t ad x=>simp [pFl,zd2]at h1
 | mapUpdate t m k x=>simp [pFl,zd2]at h1
 | insert t m k x=>simp [pFl,zd2]at h1
 | _=>simp only[pFl]at h1; simp only[pOp,h1,zi1]; simp
theorem zmh {R:Option Nat} {nn:Nat} (hT:zby P T) {ops:Array Oper} {effs pend keep:List Nat} {Q:Env→Store→Prop} {i:Nat} {r:List Nat} {e:Env} {F:Nat→Prop} {G:GSt} {a:Act} {w:World}
  (h:zdg P T ops effs pend keep Q (i::r) e G.er) (hi:Inv F G w) (he:zfi w.heap F G e a) (hn:Next F0 G0 w0 F G w) (hs:a.tmps.size=N) (hd:Marks w0 a.defers w)
  (hdst:∀ o∈ops.toList,∀ d,o.dst=some d→d<N) {Qx:Exit→Act→World→Prop} {K:Act→World→Prop}
  (hK:∀ e' F' G' a' w',zdg P T ops effs pend keep Q r e' G'.er→Inv F' G' w'→zfi w'.heap F' G' e' a'→Next F0 G0 w0 F' G' w'→a'.tmps.size=N→Marks w0 a'.defers w'→K a' w') :
  wpOpIn (fnc R) nn P ops Qx i K a w:=by
 simp only[zdg]at h
 unfold wpOpIn
 cases ho:ops[i]? with
 | none=>rw [ho]at h; exact h.elim
 | some o =>
  rw [ho]at h
  have hd1:∀ t,o.dst=some t→t<a.tmps.size:=fun t ht=>by
   rw [hs]; exact hdst o (List.mem_of_getElem? (i:=i) (by simpa using ho)) t ht
  simp only at h ⊢
  rcases zih he h with ⟨hw,h⟩ | ⟨hw,h⟩
  ·rw [if_pos hw]
   split at h
   ·refine zj2 hT hi he h ?_
    intro v cv F' G' w' hk i1 i2 i3
    exact hK _ _ _ _ _ hk.2 i1 ((he.next hi i2).put _ hd1 i3) (hn.trans i2) (by rw [zgd]; exact hs) (by rw [zdv]; exact hd.next hi i2)
   ·rw [zc0]at h
    obtain ⟨v,h1,_,h3⟩:=h
    have hop:=zrb h1
    refine zj2 hT hi he hop ?_
    rintro v' cv F' G' w' ⟨rfl,hS⟩ i1 i2 i3
    exact hK _ _ _ _ _ (by rw [hS]; exact h3) i1 ((he.next hi i2).put _ hd1 i3) (hn.trans i2) (by rw [zgd]; exact hs) (by rw [zdv]; exact hd.next hi i2)
  rw [if_neg (by simp [hw])]
  exact ⟨fun _ _=>trivial,hK _ _ _ _ _ h hi (zna hi he _ hd1) hn (by rw [zgd]; exact hs) (by rw [zdv]; exact hd)⟩
theorem zgi {f:Nat→Nat→Bool}:∀ {l:List Nat},zk6 f l=true→l.Pairwise (fun x i=>f x i=true)∧l.Nodup
 | [],_=>⟨.nil,.nil⟩
 | x::l,h=>by
  simp only[zk6,qB,List.all_eq_true,Bool.not_eq_true',List.contains_eq_mem,decide_eq_false_iff_not]at h
  obtain ⟨h1,h2⟩:=zgi h.2
  exact ⟨.cons h.1.1 h1,.cons (fun y hy=>fun e=>h.1.2 (e ▸ hy)) h2⟩
theorem zlx {R:Option Nat} {nn:Nat} (hT:zby P T) {ops:Array Oper} {effs pend keep:List Nat} {Q:Env→Store→Prop} (hdst:∀ o∈ops.toList,∀ d,o.dst=some d→d<N)
  (hdep:∀ (i:Nat) o,ops[i]?=some o→∀ e∈o.after.toList,Region.binds .any e=true→e.on<ops.size) :
  ∀ (fuel:Nat) (listed:Array Bool) (l:List Nat) {e:Env} {F:Nat→Prop} {G:GSt} {a:Act} {w:World},l.length=fuel→l.Pairwise (fun x i=>zgs ops (prs ops) effs pend x i=true)→l.Nodup→(∀ x∈l,((prs ops).getD x 0).testBit x=false) →
   listed.size=ops.size→(∀ i,i∈l↔i<ops.size∧listed.getD i true=false) →
   (∀ i x,listed.getD i false=true→((prs ops).getD i 0).testBit x=true→x<ops.size→listed.getD x true=true) →
   zdg P T ops effs pend keep Q l e G.er→Inv F G w→zfi w.heap F G e a→Next F0 G0 w0 F G w→a.tmps.size=N→Marks w0 a.defers w →
   wpAnyIn (fnc R) nn P .any ops (Sto F0 G0 w0 N (Nrm Q)) fuel listed a w:=by
 intro fuel
 induction fuel with
 | zero =>
  intro listed l e F G a w hl hp hnd hself hsz hmem hcl h hi he hn hs hd
  have hl0:l=[]:=List.eq_nil_of_length_eq_zero hl
  subst hl0
  refine ⟨?_,e,F,G,h,hi,he,hn,hs,hd⟩
  unfold Region.ready
  rw [List.filter_eq_nil_iff]
  intro i hr
  have hlt:i<ops.size:=by simpa using hr
  have:listed.getD i true=true:=by
   cases hq:listed.getD i true with
   | true=>rfl
   | false=>exact absurd ((hmem i).2 ⟨hlt,hq⟩) (by simp)
  simp [this]
 | succ fuel ih =>
  intro listed l e F G a w hl hp hnd hself hsz hmem hcl h hi he hn hs hd
  have bound:∀ i x,((prs ops).getD i 0).testBit x=true→x<ops.size:=by
   have key:∀ n i x,i<n→((prs ops).getD i 0).testBit x=true→x<ops.size:=by
    intro n
    induction n with
    | zero=>intro i x h; omega
    | succ n ihn =>
     intro i x hin hx
     obtain ⟨o,ho,ed,h1,h2,h3⟩:=zik hx
     rcases h3 with rfl | ⟨h3,h4⟩
     ·exact hdep i o ho ed h1 h2
     exact ihn ed.on x (by omega) h4
   exact fun i x=>key (i+1) i x (Nat.lt_succ_self _)
  have facts:∀ i,i∈Region.ready .any ops listed→i∈l∧∃ q,ops[i]?=some q∧∀ e∈q.after.toList,Region.binds .any e=true→listed.getD e.on false=true:=by
   intro i hr
   unfold Region.ready at hr
   rw [List.mem_filter]at hr
   obtain ⟨h1,h2⟩:=hr
   have hlt:i<ops.size:=by simpa using h1
   rw [Array.getElem?_eq_getElem hlt]at h2
   simp only[qO,Option.getD_some,qB,Bool.not_eq_true']at h2
   refine ⟨(hmem i).2 ⟨hlt,h2.1⟩,ops[i],Array.getElem?_eq_getElem hlt,fun e he hb=>?_⟩
   have:=h2.2
   rw [Array.all_eq_true_iff_forall_mem]at this
   have:=this e (by simpa using he)
   simpa [hb] using this
  have preds:∀ i,i∈Region.ready .any ops listed→∀ x,((prs ops).getD i 0).testBit x=true→listed.getD x true=true:=by
   intro i hr x hx
   obtain ⟨_,q,hq,hdeps⟩:=facts i hr
   have hxl:=bound i x hx
   obtain ⟨o,ho,ed,h1,h2,h3⟩:=zik hx
   rw [hq]at ho
   cases ho
   have hl1:=hdeps ed h1 h2
   rcases h3 with rfl | ⟨_,h3⟩
   ·have hlt:ed.on<listed.size:=by rw [hsz]; exact hxl
    rw [Array.getD_eq_getD_getElem?,Array.getElem?_eq_getElem hlt]at hl1 ⊢
    exact hl1
   exact hcl _ _ hl1 h3 hxl
  refine ⟨fun hr0=>?_,fun i hr=>?_⟩
  ·-- the first of the list is ready
   exfalso
   cases l with
   | nil=>simp at hl
   | cons x l =>
    have hx:=(hmem x).1 (by simp)
    have hready:x∈Region.ready .any ops listed:=by
     unfold Region.ready
     rw [List.mem_filter]
     refine ⟨by simpa using hx.1,?_⟩
     rw [Array.getElem?_eq_getElem hx.1]
     simp only[qO,Option.getD_some,qB,Bool.not_eq_true']
     refine ⟨hx.2,?_⟩
     rw [Array.all_eq_true_iff_forall_mem]
     intro ed hed
     cases hb:Region.binds .any ed with
     | false=>simp
     | true =>
      have hon:=hdep x _ (Array.getElem?_eq_getElem hx.1) ed (by simpa using hed) hb
      have hbit:=ztw (Array.getElem?_eq_getElem hx.1) (by simpa using hed) hb
      cases hq:listed.getD ed.on true with
      | true =>
       have hlt:ed.on<listed.size:=by rw [hsz]; exact hon
       rw [Array.getD_eq_getD_getElem?,Array.getElem?_eq_getElem hlt]at hq ⊢
       simpa using hq
      | false =>
       exfalso
       have hm:=(hmem ed.on).2 ⟨hon,hq⟩
       rcases List.mem_cons.1 hm with he1 | hm
       ·have:=hself x (by simp)
        rw [he1]at hbit
        rw [hbit]at this
        cases this
       have:=List.rel_of_pairwise_cons hp hm
       unfold zgs at this
       rw [hbit]at this
       simp at this
    rw [hr0]at hready
    simp at hready
  obtain ⟨hil,q,hq,_⟩:=facts i hr
  obtain ⟨l1,l2,rfl⟩:=List.append_of_mem hil
  have hpre:∀ x∈l1,∃ p,ops[x]?=some p∧effs.contains x=false∧Oper.apart ops p q=true∧(effs.contains i=true→(pend.contains x=true∧pend.contains i=false)∨zm1 p.op=true):=by
   intro x hx
   have hxm:=(hmem x).1 (by simp [hx])
   have hpair:=(List.pairwise_append.1 hp).2.2 x hx i (by simp)
   have hnb:((prs ops).getD i 0).testBit x=false:=by
    cases hb:((prs ops).getD i 0).testBit x with
    | false=>rfl
    | true=>have:=preds i hr x hb; rw [hxm.2]at this; cases this
   unfold zgs at hpair
   rw [hnb,hq,Array.getElem?_eq_getElem hxm.1]at hpair
   simp only[Bool.false_or,qB,Bool.not_eq_true',Bool.or_eq_true]at hpair
   refine ⟨ops[x],Array.getElem?_eq_getElem hxm.1,hpair.2.1.1,hpair.2.1.2,fun hc=>?_⟩
   rcases hpair.2.2 with (h1 | h1) | h1
   ·rw [hc]at h1; cases h1
   ·exact .inl h1
   exact .inr h1
  have hfront:=zfe hq l1 hpre h
  refine zmh hT hfront hi he hn hs hd hdst ?_
  intro e' F' G' a' w' k1 k2 k3 k4 k5 k6
  have hlt:i<ops.size:=((hmem i).1 hil).1
  have hgetD:∀ j d,(listed.setIfInBounds i true).getD j d=if j=i then true else listed.getD j d:=by
   intro j d
   rw [Array.getD_eq_getD_getElem?,Array.getD_eq_getD_getElem?]
   by_cases hj:j=i
   ·subst hj; simp [hsz,hlt]
   rw [Array.getElem?_setIfInBounds_ne (Ne.symm hj),if_neg hj]
  refine ih _ (l1++l2) (by simp at hl ⊢; omega) (hp.sublist (by simp)) (hnd.sublist (by simp)) (fun x hx=>hself x (by rcases List.mem_append.1 hx with h9 | h9 <;> simp [h9])) (by simp [hsz]) (fun j=>?_) (fun j x h1 h2 h3=>?_) k1 k2 k3 k4 k5 k6
  ·rw [hgetD]
   have hm:=hmem j
   by_cases hj:j=i
   ·subst hj
    rw [if_pos rfl]
    constructor
    ·intro hj2
     exfalso
     have:=List.nodup_append.1 hnd
     rcases List.mem_append.1 hj2 with h1 | h1
     ·exact this.2.2 j h1 j (by simp) rfl
     exact (List.nodup_cons.1 this.2.1).1 h1
    rintro ⟨_,h1⟩; cases h1
   rw [if_neg hj,← hm]
   simp [hj]
  rw [hgetD]at h1 ⊢
  by_cases hx:x=i
  ·rw [if_pos hx]
  rw [if_neg hx]
  by_cases hj:j=i
  ·subst hj; exact preds j hr x h2
  rw [if_neg hj]at h1; exact hcl j x h1 h2 h3
end
end
end Fw
end Go.Proofs.YtbbphnladjdllaaGreat
