/- Parts of the framework and of the proof: The framework, part z: a region in which the bytes of a text become a new row that is written later; Drawing: the reader, gone through; Plans cut in two, gone through; Drawing plans, gone through; Drawing plans, gone through, continued; Drawing needs, gone through; Areas, gone through; The law of areas, gone through; The laws of left and above, gone through; The law of places, gone through; Permutations by the program and by the specification, gone through; Fair and loose permutations by the program, gone through; The cells of all plans of a size, set and set back, gone through; All plans of a size are put, each one once; All plans of a size, yielded one after the other, gone through; Permutations of plans, gone through; The orders and permutations: the exported functions, gone through; Plans with the same permutation, counted by the program, gone through; All plans of a size by the specification, gone through; The laws of the orders, gone through; Plans with the same permutation, counted by the specification; the law FnExactOrderSlide, gone through; Wider plans in the specification; draws of two plans, gone through; Is a plan cuttable: the program, gone through; The law of the same permutations, gone through. -/
import Derived.Test.YtddhgiafpmghpaaGreatJ1
import Derived.Lib.ConvBytes
import Derived.Test.YtddhgiafpmghpaaGreatJ2
import Derived.Test.YtddhgiafpmghpaaGreatJ4
import Derived.Test.YtddhgiafpmghpaaGreatJ3
set_option linter.all false
namespace Go.Proofs.YtddhgiafpmghpaaGreat
namespace Fw
open Go
open Nat renaming reduceEqDiff → qE, reduceLeDiff → qL, reduceAdd → qA, reduceMul → qM, le_refl → qR
open List renaming append_nil → qN, mapM_append → qP, mapM_cons → qC, mapM_map → qU, range_succ → qS, take_of_length_le → qT
open Bool renaming and_eq_true → qB, false_eq_true → qF
open Option renaming map_some → qO, map_eq_some_iff → qI
open Int renaming reduceToNat → qZ
section
section
variable {P:Program} {T:Tab} {F:Nat→Prop} {G:GSt} {w:World} {e:Env} {a:Act} {F0:Nat→Prop} {G0:GSt} {w0:World} {N:Nat}
theorem yar (hT:zbx P T) (hi:Inv F G w) (he:zfg w.heap F G e a) {o:Oper} {s d el:TypeId} {x:Operand} {str:List UInt8} (hop:o.op = .convert s d x) (hs:(T s).kd = .str) (hd:(T d).kd = .slice el) (hu8:(T el).kd = .int .u8)
  (hx0:e.ev x = .str str) (hlen63:str.length≤1048576) {K:PV→Store→Prop} (h:K (.loc G.er.obs.length G.er.tick 0 str.length) (G.er.push el 1 (str.map eB))) {next:Act→World→Prop} {Q:Exit→Act→World→Prop}
  (hk:Goes F G w K fun cv w'=>next (a.put o.dst cv) w'):o.wp P a w next Q:=by
 have hx:=he.ev x
 rw [hx0]at hx
 obtain ⟨b,ex,hb⟩:=hx.str
 have hr:(execOp a.eval o).run P w = .ok (.value (.slice (some ⟨w.heap.size,0,none⟩) b.size (grownCap w b.size 0 el))) (Lib.bytesWorld w el b):=by
  simp only[execOp,hop,ex]
  rw [Sem.run_bind,Lib.run_convert_string_bytes w s d el b (zh4 hT hs) (zcc hT hd) (zkt hT hu8)]
  rfl
 have hlen:str.length=b.size:=by rw [← hb]; simp
 have hsz:(Lib.bytesWorld w el b).heap.size=w.heap.size+1:=Lib.bytesWorld_size w el b
 have hge:=grownCap_ge w b.size 0 el
 have hcs:(Lib.bytesCells w el b).size=grownCap w b.size 0 el:=by
  simp [Lib.bytesCells]; omega
 have hpush:(Lib.bytesWorld w el b).heap=w.heap.push (.cells (Lib.bytesCells w el b) el ((Lib.bytesCells w el b).size,(Lib.bytesCells w el b).size+1)):=by
  apply Array.ext_getElem?
  intro j
  rw [Array.getElem?_push]
  by_cases hj:j=w.heap.size
  ·subst hj; rw [if_pos rfl]; exact Lib.bytesWorld_at_new w el b
  rw [if_neg hj]
  by_cases hj2:j<w.heap.size
  ·exact Lib.bytesWorld_at_old w el b j hj2
  rw [Array.getElem?_eq_none (by omega),Array.getElem?_eq_none (by omega)]
 obtain ⟨k1,k2⟩:=zpr hi (.arr G.tick el 1 (str.map eB)) (Lib.bytesCells w el b).size (Lib.bytesWorld w el b) (w.drawn+1) rfl (Nat.le_succ _) ⟨_,hpush⟩ rfl
  ⟨_,⟨_,Lib.bytesWorld_at_new w el b,.inr (qR _)⟩,rfl,by show (str.map eB).length≤(Lib.bytesCells w el b).size; rw [List.length_map,hcs]; omega,fun i p hp=>by
   have hil:i<str.length:=by have:=(List.getElem?_eq_some_iff.1 hp).1; simpa using this
   rw [List.getElem?_map,List.getElem?_eq_getElem hil]at hp
   cases hp
   refine ⟨rfl,.int .u8 (str[i].toNat:Int),?_,.imm _ _ (.int _ _)⟩
   have:=Lib.bytesWorld_cell w el b i (by omega)
   simp only[World.cell?,Lib.bytesWorld_at_new,Option.isSome_none,qF,if_false]at this
   rw [this,hb,List.getD_eq_getElem?_getD,List.getElem?_eq_getElem hil]
   rfl⟩
 unfold Oper.wp
 rw [hr]
 refine hk (.loc G.er.obs.length G.er.tick 0 str.length) _ _ _ _ (by rw [zut]; exact h) k1 k2 ?_
 rw [hlen]
 exact zqz (et:=el) (sz:=1) (cells:=str.map eB) (l:=⟨w.heap.size,(Lib.bytesCells w el b).size⟩) _ _ _ (by simp) (Nat.lt_succ_self _) rfl hge (grownCap_le_maxLen w _ _ _ (by unfold maxLen; omega)) (by rw [Nat.mul_one]; exact hcs.symm)
def zz6 (P:Program) (T:Tab) (ops:Array Oper) (Q:Env→Store→Prop):Nat→List Oper→Env→Store→Prop
 | _,[],e,S=>Q e S
 | 0,o::l,e,S=>∃ (s d el:TypeId) (x:Operand) (str:List UInt8),o.guard=none∧o.op = .convert s d x∧(T s).kd = .str∧(T d).kd = .slice el∧(T el).kd = .int .u8∧e.ev x = .str str∧str.length≤1048576 ∧
   z2i P T ops Q l (e.put o.dst (.loc S.obs.length S.tick 0 str.length)) (S.push el 1 (str.map eB))
 | k+1,o::l,e,S=>o.guard=none∧pOp P T e S o.op fun v S'=>zz6 P T ops Q k l (e.put o.dst v) S'
theorem zq8 {R:Option Nat} {nn:Nat} (hT:zbx P T) {ops:Array Oper} {Q:Env→Store→Prop}:∀ (k:Nat) (l:List Oper) {e:Env} {F:Nat→Prop} {G:GSt} {a:Act} {w:World},zz6 P T ops Q k l e G.er→Inv F G w→zfg w.heap F G e a →
  Next F0 G0 w0 F G w→a.tmps.size=N→Marks w0 a.defers w→(∀ o∈l,∀ d,o.dst=some d→d<N)→wpListIn (fnc R) nn P ops (Sto F0 G0 w0 N (Nrm Q)) l a w
 | _,[],e,F,G,a,w,h,hi,he,hn,hs,hd,_=>by
  have h':Q e G.er:=by unfold zz6 at h; exact h
  exact ⟨e,F,G,h',hi,he,hn,hs,hd⟩
 | 0,o::l,e,F,G,a,w,h,hi,he,hn,hs,hd,hdst=>by
  have ho:∀ t,o.dst=some t→t<a.tmps.size:=fun t ht=>by rw [hs]; exact hdst o (by simp) t ht
  have hl:∀ o∈l,∀ d,o.dst=some d→d<N:=fun o' h'=>hdst o' (by simp [h'])
  unfold zz6 at h
  obtain ⟨s,d,el,x,str,hg,hop,q1,q2,q3,q4,q5,h⟩:=h
  unfold wpListIn
  have hw:Region.wanted o (yielded ops a.tmps)=true:=by unfold Region.wanted; rw [hg]
  rw [if_pos hw]
  refine yh5 (by rw [hop]; intro c q; cases q) (yar hT hi he hop q1 q2 q3 q4 q5 (K:=fun v S'=>v = .loc G.er.obs.length G.er.tick 0 str.length∧S'=G.er.push el 1 (str.map eB)) ⟨rfl,rfl⟩ ?_)
  rintro v cv F' G' w' ⟨rfl,hE⟩ i1 i2 i3
  refine zj5 hT l (by rw [hE]; exact h) i1 ((he.next hi i2).put _ ho i3) (hn.trans i2) (by rw [zgr]; exact hs) (by rw [zeb]; exact hd.next hi i2) hl
 | k+1,o::l,e,F,G,a,w,h,hi,he,hn,hs,hd,hdst=>by
  have ho:∀ t,o.dst=some t→t<a.tmps.size:=fun t ht=>by rw [hs]; exact hdst o (by simp) t ht
  have hl:∀ o∈l,∀ d,o.dst=some d→d<N:=fun o' h'=>hdst o' (by simp [h'])
  unfold zz6 at h
  obtain ⟨hg,h⟩:=h
  unfold wpListIn
  have hw:Region.wanted o (yielded ops a.tmps)=true:=by unfold Region.wanted; rw [hg]
  rw [if_pos hw]
  refine zme hT hi he h ?_
  intro v cv F' G' w' hK i1 i2 i3
  exact zq8 hT k l hK i1 ((he.next hi i2).put _ ho i3) (hn.trans i2) (by rw [zgr]; exact hs) (by rw [zeb]; exact hd.next hi i2) hl
end
section
variable {P:Program} {T:Tab} {Q:Exit→Env→Store→Prop} {e:Env} {S:Store} {b:Code}
theorem W.region_t (k:Nat) {id:Nat} {ops:Array Oper} (h:zz6 P T ops (Q .normal) k ops.toList e S):W P T (.region id ops false) Q e S:=by
 refine ⟨?_⟩
 intro hT hm F0 G0 w0 N F G a w h3 h4 h5 h6 h7 h8 h9 R nn
 subst h3
 refine wpIn_mono (wpIn_region_list (zq8 hT k _ h h4 h5 h6 h7 h8 (zur h9))) ?_
 exact z12
def yid (P:Program) (T:Tab) (ds:List (Option Tmp)) (o:Oper) (l:List Oper) (e:Env) (S:Store) (K:Env→Store→Prop):Prop :=
 ∃ (s d el:TypeId) (x:Operand) (str:List UInt8),o.guard=none∧o.op = .convert s d x∧(T s).kd = .str∧(T d).kd = .slice el∧(T el).kd = .int .u8∧e.ev x = .str str∧str.length≤1048576 ∧
  zbk false P T ds l (e.put o.dst (.loc S.obs.length S.tick 0 str.length)) (S.push el 1 (str.map eB)) K
theorem zq9 {ops:Array Oper} {K K':Env→Store→Prop} (h:∀ e S,K e S→K' e S):∀ (l:List Oper) {e:Env} {S:Store},z2i P T ops K l e S→z2i P T ops K' l e S
 | [],e,S,k=>h e S k
 | o::l,e,S,k=>by
  unfold z2i zei at k ⊢
  cases hg:gdec ops o e with
  | none=>rw [hg]at k; exact k.elim
  | some b =>
   rw [hg]at k
   cases b with
   | true=>exact zen (fun v S' k=>zq9 h l k) k
   | false=>exact zq9 h l k
theorem zx1 {ops:Array Oper} {K:Env→Store→Prop} {o:Oper} {l2:List Oper}:∀ (l1:List Oper) {e:Env} {S:Store},l1.all (fun o=>o.guard.isNone)=true →
  z2i P T ops (fun e S=>∃ (s d el:TypeId) (x:Operand) (str:List UInt8),o.guard=none∧o.op = .convert s d x∧(T s).kd = .str∧(T d).kd = .slice el∧(T el).kd = .int .u8∧e.ev x = .str str∧str.length≤1048576 ∧
   z2i P T ops K l2 (e.put o.dst (.loc S.obs.length S.tick 0 str.length)) (S.push el 1 (str.map eB))) l1 e S→zz6 P T ops K l1.length (l1++o::l2) e S
 | [],e,S,_,h=>h
 | q::l1,e,S,hg,h=>by
  simp only[List.all_cons,qB,Option.isNone_iff_eq_none]at hg
  show q.guard=none∧_
  refine ⟨hg.1,?_⟩
  unfold z2i zei gdec at h
  rw [hg.1]at h
  exact zen (fun v S' h=>zx1 l1 hg.2 h) h
theorem W.seq_thaw {id:Nat} {l1 l2:List Oper} {o:Oper} (hg:l1.all (fun o=>o.guard.isNone)=true) (h:∀ K:Env→Store→Prop,(∀ e S,W P T b Q e S→K e S)→zbk false P T (dsts (l1++o::l2)) l1 e S fun e S=>yid P T (dsts (l1++o::l2)) o l2 e S K) :
  W P T (.seq (.region id (l1++o::l2).toArray false) b) Q e S:=by
 refine W.seq (W.region_t l1.length ?_)
 have h1:=zjb l1 e S (h _ fun _ _ h=>h)
 refine zx1 l1 hg (zq9 ?_ l1 h1)
 rintro e S ⟨s,d,el,x,str,q1,q2,q3,q4,q5,q6,q7,q8⟩
 exact ⟨s,d,el,x,str,q1,q2,q3,q4,q5,q6,q7,zjb l2 _ _ q8⟩
end
end
abbrev eBy (l:Txt):PV := .sl (l.map eB) l.length
theorem z0n {a b:Nat}:((a:Nat):Int).tmod ((b:Nat):Int)=((a % b:Nat):Int):=(Int.ofNat_tmod a b).symm
theorem yf1 {a b:Nat}:((a:Nat):Int).tdiv ((b:Nat):Int)=((a / b:Nat):Int):=(Int.ofNat_tdiv a b).symm
theorem yi3 {a b:Nat} (ha:a<1099511627776) (hb:b<1099511627776):IntKind.i64.wrap ((BitVec.ofInt IntKind.i64.bits (a:Int) ^^^ BitVec.ofInt IntKind.i64.bits (b:Int)).toNat:Int)=((a ^^^ b:Nat):Int):=by
 have h1:(BitVec.ofInt 64 (a:Int)).toNat=a:=by simp [BitVec.toNat_ofInt]; omega
 have h2:(BitVec.ofInt 64 (b:Int)).toNat=b:=by simp [BitVec.toNat_ofInt]; omega
 have h3:(BitVec.ofInt IntKind.i64.bits (a:Int) ^^^ BitVec.ofInt IntKind.i64.bits (b:Int)).toNat=a ^^^ b:=by
  show (BitVec.ofInt 64 (a:Int) ^^^ BitVec.ofInt 64 (b:Int)).toNat=_
  rw [BitVec.toNat_xor,h1,h2]
 have h4:a ^^^ b<1099511627776:=Nat.xor_lt_two_pow (n:=40) ha hb
 rw [h3]
 exact w64 (by omega) (by omega)
theorem yhv {k:Nat}:((k:Nat):Int).tdiv 64=((k / 64:Nat):Int):=(Int.ofNat_tdiv k 64).symm
theorem sf0:((64:Int)=0)=False:=by simp
def rdO (vr:Nat) (code:Txt) (q:Nat):Ob := .arr vr 118 2 [eBy code,.int .i64 (q:Int)]
theorem z7e {code:Txt} (hc:code.length≤1048576):PN Tryz.prog 55 [eBy code] (.ref 0 0 0) [rdO 0 (code.take 2000) 0] true:=by
 refine PN.of ⟨Tryz.func55,by kernel_rfl,rfl,by kernel_rfl⟩ zan mixed (by show 1≤Tryz.f55.ntmps; decide) ?_
 refine W.r fun K hK=>?_
 simp(disch:=omega)only[↓RU,RV,RH,↓reduceIte,qE,reduceCtorEq,if_pos,↓RS,RG,qA,qM,qL]
 apply hK;clear hK K
 refine W.seq ?_
 refine W.r fun K hK=>?_
 simp(disch:=omega)only[↓RU,RV,RH,↓reduceIte,qE,reduceCtorEq,if_pos,w64,↓RS,RG,qA,qM,qL,ty7,zaa,zd3]
 apply hK;clear hK K
 refine W.cond rfl (fun h=>?_) (fun h=>?_)
 ·try simp only[RL]at h
  refine W.k fun K hK=>?_
  simp(disch:=omega)only[↓RU,RV,RH,↓reduceIte,qE,reduceCtorEq,if_pos,Option.map_none,↓RS,RG,qA,qM,qL,ty7,zd3]
  apply hK;clear hK K
  refine xn ?_
  refine W.r fun K hK=>?_
  simp(disch:=omega)only[↓RU,RV,RH,↓reduceIte,qE,reduceCtorEq,if_pos,↓RS,RG,qA,qM,qL,ty7,zaa,ycb,ycc,zd3]
  apply hK;clear hK K
  refine W.ret ?_
  refine Br rfl ?_
  have e:(code.take 2000).length=2000:=by rw [List.length_take]; omega
  refine ⟨1,rfl,?_⟩
  simp [Store.take,zhd,zy7,sh,rdO,eBy,e,List.map_take]
 try simp only[RL]at h
 refine W.skip ?_
 refine xn ?_
 refine W.r fun K hK=>?_
 simp(disch:=omega)only[↓RU,RV,RH,↓reduceIte,qE,reduceCtorEq,if_pos,↓RS,RG,qA,qM,qL,ty7,zaa,ycb,ycc,zd3]
 apply hK;clear hK K
 refine W.ret ?_
 refine Br rfl ?_
 have e:code.take 2000=code:=qT (by omega)
 refine ⟨1,rfl,?_⟩
 simp [Store.take,zhd,zy7,sh,rdO,eBy,e]
theorem ybk {code:Txt} {q vr t:Nat} {R:List Ob} (hc:code.length≤1048576) (hq:q≤1000000) (n:Int) (hn:n≤1000000) (hn0 : -1000000≤n):Ev Tryz.prog 57 [.ref 0 vr 0,.int .i64 n] ⟨.arr vr 118 2 [eBy code,.int .i64 (q:Int)]::R,t⟩ fun v S=>∃ k:Nat,v = .int .i64 (k:Int)∧(n<1→k=0)∧(1≤n→(k:Int)<n)∧S=⟨.arr vr 118 2 [eBy code,.int .i64 ((q:Int)+1)]::R,t⟩:=by
 refine Ev.of ⟨Tryz.func57,by kernel_rfl,rfl,by kernel_rfl⟩ zan mixed (by show 2≤Tryz.f57.ntmps; decide) ?_
 refine W.r fun K hK=>?_
 simp(disch:=omega)only[↓RU,RV,RH,↓reduceIte,qE,reduceCtorEq,if_pos,↓RS,RG,qA,qM,qL]
 apply hK;clear hK K
 refine W.r fun K hK=>?_
 simp(disch:=omega)only[↓RU,RV,RH,↓reduceIte,qE,reduceCtorEq,if_pos,w64,↓RS,RG,qA,qM,qL,ty7,zaa,ycb,ycc,zd3]
 apply hK;clear hK K
 refine W.seq ?_
 refine W.r fun K hK=>?_
 by_cases hn1:n<1
 ·skip
  have hd:decide (n<1)=true:=decide_eq_true hn1
  simp(disch:=omega)only[↓RU,RV,RH,↓reduceIte,qE,reduceCtorEq,if_pos,w64,↓RS,RG,qA,qM,qL,ty7,zaa,ycb,ycc,zd3,hd]
  apply hK;clear hK K
  refine W.cond rfl (fun h0=>?_) (fun h0=>?_)
  ·try simp only[RL]at h0
   refine W.r fun K hK=>?_
   simp(disch:=omega)only[↓RU,RV,RH,↓reduceIte,qE,reduceCtorEq,if_pos,↓RS,RG,qA,qM,qL]
   apply hK;clear hK K
   refine W.ret ?_
   refine XThen.ret ?_
   refine Br rfl ?_
   exact ⟨_,0,rfl,fun _=>rfl,fun h9=>by omega,zai⟩
  try simp only[RL]at h0
  exact absurd h0 (by simp)
 skip
 have hd:decide (n<1)=false:=decide_eq_false hn1
 obtain ⟨m,rfl⟩:∃ m:Nat,n=m:=⟨n.toNat,by omega⟩
 simp(disch:=omega)only[↓RU,RV,RH,↓reduceIte,qE,reduceCtorEq,if_pos,w64,↓RS,RG,qA,qM,qL,ty7,zaa,ycb,ycc,zd3,hd]
 apply hK;clear hK K
 refine W.cond rfl (fun h0=>?_) (fun h0=>?_)
 ·try simp only[RL]at h0
  have hl0:code.length=0:=by simpa using h0
  refine W.r fun K hK=>?_
  simp(disch:=omega)only[↓RU,RV,RH,↓reduceIte,qE,reduceCtorEq,if_pos,↓RS,RG,qA,qM,qL]
  apply hK;clear hK K
  refine W.ret ?_
  refine XThen.ret ?_
  refine Br rfl ?_
  exact ⟨_,0,rfl,fun _=>rfl,fun h9=>by omega,zai⟩
 try simp only[RL]at h0
 have hl0:code.length≠0:=by intro h9; rw [h9]at h0; simp at h0
 obtain ⟨L,hL⟩:∃ L:Nat,code.length=L:=⟨_,rfl⟩
 have hLi:((L:Int)=0)=False:=by simp; omega
 have hmi:((m:Int)=0)=False:=by simp; omega
 rw [hL]at hl0 hc
 refine W.skip ?_
 refine xn ?_
 refine W.r fun K hK=>?_
 simp(disch:=omega)only[↓RU,RV,RH,↓reduceIte,qE,reduceCtorEq,if_pos,w64,↓RS,RG,qA,qM,qL,ty7,zaa,ycb,ycc,zd3]
 apply hK;clear hK K
 simp only[show ((q:Int)+1 - 1)=(q:Int) from by omega]
 refine W.seq ?_
 refine W.r fun K hK=>?_
 simp(disch:=omega)only[↓RU,RV,RH,↓reduceIte,qE,reduceCtorEq,if_pos,w64,↓RS,RG,qA,qM,qL,ty7,zaa,ycb,ycc,zd3,hL]
 apply hK;clear hK K
 refine W.cond rfl (fun h1=>?_) (fun h1=>?_)
 ·try simp only[RL]at h1
  obtain ⟨c,hcq,-⟩:=zae (show q<code.length by omega)
  have hc8:=c.toNat_lt
  refine W.r fun K hK=>?_
  simp(disch:=omega)only[↓RU,RV,RH,↓reduceIte,qE,reduceCtorEq,if_pos,w64,w64,↓RS,RG,qA,qM,qL,ty7,zaa,ycb,ycc,zd3,hcq,hmi,z0n]
  apply hK;clear hK K
  refine W.ret ?_
  refine XThen.ret ?_
  refine Br rfl ?_
  exact ⟨_,_,rfl,fun h9=>by omega,fun _=>by have:=Nat.mod_lt c.toNat (show 0<m by omega); omega,zai⟩
 try simp only[RL]at h1
 obtain ⟨c1,hc1,-⟩:=zae (show q % L<code.length by rw [hL]; exact Nat.mod_lt _ (by omega))
 obtain ⟨c2,hc2,-⟩:=zae (show (q*7+3) % L<code.length by rw [hL]; exact Nat.mod_lt _ (by omega))
 have hb1:=c1.toNat_lt
 have hb2:=c2.toNat_lt
 have hq7:(q:Int)*7+3=((q*7+3:Nat):Int):=by omega
 obtain ⟨d,hd⟩:∃ d,q / L=d:=⟨_,rfl⟩
 have hqL:d≤q:=hd ▸ Nat.div_le_self _ _
 have hml1:=Nat.mod_lt q (show 0<L by omega)
 have hml2:=Nat.mod_lt (q*7+3) (show 0<L by omega)
 refine W.skip ?_
 refine xn ?_
 refine W.seq_draw (by kernel_rfl) fun K hK=>?_
 simp(disch:=omega)only[↓RU,RV,RH,↓reduceIte,qE,reduceCtorEq,if_pos,w64,w64,↓RS,RG,qA,qM,qL,ty7,zaa,ycb,ycc,zd3,hL,hLi,z0n,yf1,hc1,hc2,hq7,hd]
 apply hK;clear hK K
 obtain ⟨Y,hY⟩:∃ Y:Nat,(c1.toNat:Int)*131+(c2.toNat:Int)*1117+(q:Int)*29+(d:Int)*53=Y:=⟨c1.toNat*131+c2.toNat*1117+q*29+d*53,by omega⟩
 have hYb:Y<1099511627776:=by omega
 have hYd:Y / 64<1099511627776:=by omega
 simp only[hY]
 refine W.r fun K hK=>?_
 simp(disch:=omega)only[↓RU,RV,RH,↓reduceIte,qE,reduceCtorEq,if_pos,w64,↓RS,RG,qA,qM,qL,zaa,sf0,yhv,yi3 hYb hYd]
 apply hK;clear hK K
 refine W.r fun K hK=>?_
 simp(disch:=omega)only[↓RU,RV,RH,↓reduceIte,qE,reduceCtorEq,if_pos,w64,↓RS,RG,qA,qM,qL,zaa,hmi,z0n]
 apply hK;clear hK K
 refine W.ret ?_
 refine Br rfl ?_
 exact ⟨_,_,rfl,fun h9=>by omega,fun _=>by have:=Nat.mod_lt (Y ^^^ Y / 64) (show 0<m by omega); omega,zai⟩
theorem yhk {l:Txt} {a:Nat} {c:UInt8}:(l.map eB).set a (.int .u8 (c.toNat:Int))=(l.set a c).map eB:=by rw [List.map_set]
theorem zsm (l:Txt):zge (l.map eB)=some l:=zk1 l
theorem zga  : PC Tryz.prog 62 [] (.tup [zak [],.bool false]) true:=by
 refine PC.of ⟨Tryz.func62,by kernel_rfl,rfl,by kernel_rfl⟩ zan mixed (by show 0≤Tryz.f62.ntmps; decide) ?_
 refine W.r fun K hK=>?_
 simp(disch:=omega)only[↓RU,RV,RH,↓reduceIte,qE,reduceCtorEq,if_pos,↓RS,RG,qA,qM,qL]
 apply hK;clear hK K
 refine W.r fun K hK=>?_
 simp(disch:=omega)only[↓RU,RV,RH,↓reduceIte,qE,reduceCtorEq,if_pos,↓RS,RG,qA,qM,qL,ty6,zac]
 apply hK;clear hK K
 refine W.ret ?_
 refine Br rfl ?_
 exact zic (k:=9) (zbw (k:=8) (n:=0) rfl rfl rfl) rfl
theorem zpm {p:List Txt} (hs:Sm p) {tp lf hg wd:Nat} {c:UInt8} (h1:tp+hg≤p.length) (h2:∀ row∈p,lf+wd≤row.length):PC Tryz.prog 165 [zak p,.int .i64 tp,.int .i64 lf,.int .i64 hg,.int .i64 wd,eB c] (zak (zds p tp lf wd c (tp+hg))) true:=by
 obtain ⟨hs1,hs2⟩:=hs
 refine PC.of ⟨Tryz.func165,by kernel_rfl,rfl,by kernel_rfl⟩ zan mixed (by show 6≤Tryz.f165.ntmps; decide) ?_
 refine W.r fun K hK=>?_
 simp(disch:=omega)only[↓RU,RV,RH,↓reduceIte,qE,reduceCtorEq,if_pos,↓RS,RG,qA,qM,qL]
 apply hK;clear hK K
 refine W.r fun K hK=>?_
 simp(disch:=omega)only[↓RU,RV,RH,↓reduceIte,qE,reduceCtorEq,if_pos,↓RS,RG,qA,qM,qL,ty6,zac]
 apply hK;clear hK K
 refine W.seq ?_
 refine W.r fun K hK=>?_
 simp(disch:=omega)only[↓RU,RV,RH,↓reduceIte,qE,reduceCtorEq,if_pos,↓RS,RG,qA,qM,qL]
 apply hK;clear hK K
 refine W.block ?_
 refine W.loop [0,1,2,3,4,5,13,14] (fun n vs S=>∃ j t v:Nat,n=hg - j∧j≤hg∧vs=[zak p,.int .i64 tp,.int .i64 lf,.int .i64 hg,.int .i64 wd,eB c,.loc 0 v 0 p.length,.int .i64 ((tp+j:Nat):Int)]∧S=⟨[.arr v 9 1 ((zds p tp lf wd c (tp+j)).map .str)],t⟩) hg ?_ ?_
 ·refine ⟨1,0,2,1,rfl,by omega,?_,?_⟩
  ·simp [Env.put,Env.of,zaf]
  simp [zav,zty]
 rintro n vs S - ⟨j,t,v,rfl,h_j,rfl,rfl⟩
 refine W.seq ?_
 refine W.r fun K hK=>?_
 simp(disch:=omega)only[↓RU,RV,RH,↓reduceIte,qE,reduceCtorEq,if_pos,w64,↓RS,RG,qA,qM,qL,zaa]
 apply hK;clear hK K
 refine W.cond rfl (fun h=>?_) (fun h=>?_)
 ·try simp only[RL]at h
  obtain ⟨i,hi⟩:∃ i,tp+j=i:=⟨_,rfl⟩
  simp only[hi]
  obtain ⟨row,hrow0,hrm⟩:=zae (show i<p.length by omega)
  have hrow:=z2q (t:=tp) (l:=lf) (w:=wd) (c:=c) hrow0
  have hlen:=zgb (p:=p) (t:=tp) (l:=lf) (w:=wd) (c:=c) (i:=i)
  have hr1:=hs2 row hrm
  have hr2:=h2 row hrm
  refine W.skip ?_
  refine xn ?_
  refine W.seq ?_
  refine W.block ?_
  refine W.seq_thaw (l1:=[_,_,_,_]) (o:=_) (l2:=[_]) rfl fun K hK=>?_
  simp(disch:=omega)only[↓RU,RV,RH,↓reduceIte,qE,reduceCtorEq,if_pos,w64,↓RS,RG,qA,qM,qL,ty6,ty7,zac,zd3,hrow,hlen]
  refine ⟨_,_,_,_,_,rfl,rfl,rfl,rfl,rfl,rfl,by omega,?_⟩
  simp(disch:=omega)only[↓RU,RV,RH,↓reduceIte,qE,reduceCtorEq,if_pos,w64,↓RS,RG,qA,qM,qL,ty6,ty7,zac,zd3,hrow,hlen]
  apply hK;clear hK K
  refine W.seq ?_
  refine W.r fun K hK=>?_
  simp(disch:=omega)only[↓RU,RV,RH,↓reduceIte,qE,reduceCtorEq,if_pos,↓RS,RG,qA,qM,qL]
  apply hK;clear hK K
  refine W.block ?_
  refine W.loop [0,1,2,3,4,5,13,14,15,16] (fun n vs S=>∃ k t2:Nat,n=wd - k∧k≤wd∧vs=[zak p,.int .i64 tp,.int .i64 lf,.int .i64 hg,.int .i64 wd,eB c,.loc 0 v 0 p.length,.int .i64 (i:Int),.loc 1 t 0 row.length,.int .i64 ((lf+k:Nat):Int)]∧S=⟨[.arr v 9 1 ((zds p tp lf wd c i).map .str),.arr t 5 1 ((zev row lf c (lf+k)).map eB)],t2⟩) wd ?_ ?_
  ·refine ⟨2,0,t+1,rfl,by omega,?_,?_⟩
   ·simp [Env.put,Env.of]
   simp [zav,zrq]
  rintro n vs S - ⟨k,t2,rfl,h_k,rfl,rfl⟩
  refine W.seq ?_
  refine W.r fun K hK=>?_
  simp(disch:=omega)only[↓RU,RV,RH,↓reduceIte,qE,reduceCtorEq,if_pos,w64,↓RS,RG,qA,qM,qL,zaa]
  apply hK;clear hK K
  refine W.cond rfl (fun h3=>?_) (fun h3=>?_)
  ·try simp only[RL]at h3
   have hrl:=zf2 (row:=row) (l:=lf) (k:=lf+k) (c:=c)
   refine W.skip ?_
   refine xn ?_
   refine W.seq ?_
   refine W.block ?_
   refine W.k fun K hK=>?_
   simp(disch:=omega)only[↓RU,RV,RH,↓reduceIte,qE,reduceCtorEq,if_pos,↓RS,RG,qA,qM,qL,ty7,zd3,hrl,zbp,yhk]
   apply hK;clear hK K
   refine XbN ?_
   refine xn ?_
   refine W.k fun K hK=>?_
   simp(disch:=omega)only[↓RU,RV,RH,↓reduceIte,qE,reduceCtorEq,if_pos,w64,↓RS,RG,qA,qM,qL,zaa]
   apply hK;clear hK K
   refine xn ?_
   refine ⟨wd - (k+1),by omega,2,k+1,t2,rfl,by omega,?_,?_⟩
   ·simp [Env.put,Env.of]; omega
   simp only[zav]; rw [zrp (by omega) (by omega)]; rfl
  try simp only[RL]at h3
  obtain rfl:k=wd:=by omega
  have hrl:=zf2 (row:=row) (l:=lf) (k:=lf+k) (c:=c)
  have htk:((zev row lf c (lf+k)).map eB).take row.length=(zev row lf c (lf+k)).map eB:=qT (by simp [hrl])
  refine W.exit ?_
  refine xe ?_
  refine xe ?_
  refine XBlock.hit ?_
  refine xn ?_
  refine W.k fun K hK=>?_
  simp(disch:=omega)only[↓RU,RV,RH,↓reduceIte,qE,reduceCtorEq,if_pos,w64,↓RS,RG,qA,qM,qL,ty6,ty7,zac,zd3,hrl,htk,zsm,hlen,zbp,zru,zi8,List.length_cons,List.length_nil,qO]
  apply hK;clear hK K
  refine XbN ?_
  refine xn ?_
  refine W.k fun K hK=>?_
  simp(disch:=omega)only[↓RU,RV,RH,↓reduceIte,qE,reduceCtorEq,if_pos,w64,↓RS,RG,qA,qM,qL,zaa]
  apply hK;clear hK K
  refine xn ?_
  refine ⟨hg - (j+1),by omega,1,j+1,t2,v,rfl,by omega,?_,?_⟩
  ·subst hi; simp [Env.put,Env.of]; omega
  subst hi; simp only[zav,List.take_succ_cons,List.take_zero]; rw [ztx (by omega) hrow0]; rfl
 try simp only[RL]at h
 refine W.exit ?_
 refine xe ?_
 refine xe ?_
 refine XBlock.hit ?_
 refine xn ?_
 refine W.r fun K hK=>?_
 simp(disch:=omega)only[↓RU,RV,RH,↓reduceIte,qE,reduceCtorEq,if_pos,↓RS,RG,qA,qM,qL]
 apply hK;clear hK K
 refine W.ret ?_
 refine Br rfl ?_
 obtain rfl:j=hg:=by omega
 exact (zbw (k:=9) rfl (by simp [zgb]) (zpn _)).trans (by simp [zgb])
theorem zqu {p:List Txt} (hs:Sm p):PC Tryz.prog 207 [zak p] (.tup [zak (ziz p).1,.bool (ziz p).2]) false:=by
 refine PC.of ⟨Tryz.func207,by kernel_rfl,rfl,by kernel_rfl⟩ zan mixed (by show 1≤Tryz.f207.ntmps; decide) ?_
 refine W.r fun K hK=>?_
 simp(disch:=omega)only[↓RU,RV,RH,↓reduceIte,qE,reduceCtorEq,if_pos,↓RS,RG,qA,qM,qL]
 apply hK;clear hK K
 refine W.seq ?_
 refine W.r fun K hK=>?_
 rcases hgg:(zcu p,zb1 (names p)) with ⟨_ | _,_ | _⟩
 ·skip
  simp only[Prod.mk.injEq]at hgg
  obtain ⟨hg1,hg2⟩:=hgg
  simp(disch:=omega)only[↓RU,RV,RH,↓reduceIte,qE,reduceCtorEq,if_pos,qN,↓RS,RG,qA,qM,qL,hg1,hg2]
  refine zad.pc (zf9 hs) rfl (.inl rfl) ?_
  simp(disch:=omega)only[↓RU,RV,RH,↓reduceIte,qE,reduceCtorEq,if_pos,qN,↓RS,RG,qA,qM,qL,hg1,hg2]
  apply hK;clear hK K
  refine W.cond rfl (fun h=>?_) (fun h=>?_)
  ·try simp only[RL]at h
   refine W.r fun K hK=>?_
   simp(disch:=omega)only[↓RU,RV,RH,↓reduceIte,qE,reduceCtorEq,if_pos,qN,↓RS,RG,qA,qM,qL]
   refine zad.pc (zga) rfl (.inl rfl) ?_
   simp(disch:=omega)only[↓RU,RV,RH,↓reduceIte,qE,reduceCtorEq,if_pos,qN,↓RS,RG,qA,qM,qL]
   apply hK;clear hK K
   refine W.ret ?_
   refine XThen.ret ?_
   refine Br rfl ?_
   rw [show ziz p=([],false) by unfold ziz; rw [hg1]; rfl]
   rfl
  try simp only[RL]at h
  exact absurd h (by simp)
 ·skip
  simp only[Prod.mk.injEq]at hgg
  obtain ⟨hg1,hg2⟩:=hgg
  simp(disch:=omega)only[↓RU,RV,RH,↓reduceIte,qE,reduceCtorEq,if_pos,qN,↓RS,RG,qA,qM,qL,hg1,hg2]
  refine zad.pc (zf9 hs) rfl (.inl rfl) ?_
  simp(disch:=omega)only[↓RU,RV,RH,↓reduceIte,qE,reduceCtorEq,if_pos,qN,↓RS,RG,qA,qM,qL,hg1,hg2]
  apply hK;clear hK K
  refine W.cond rfl (fun h=>?_) (fun h=>?_)
  ·try simp only[RL]at h
   refine W.r fun K hK=>?_
   simp(disch:=omega)only[↓RU,RV,RH,↓reduceIte,qE,reduceCtorEq,if_pos,qN,↓RS,RG,qA,qM,qL]
   refine zad.pc (zga) rfl (.inl rfl) ?_
   simp(disch:=omega)only[↓RU,RV,RH,↓reduceIte,qE,reduceCtorEq,if_pos,qN,↓RS,RG,qA,qM,qL]
   apply hK;clear hK K
   refine W.ret ?_
   refine XThen.ret ?_
   refine Br rfl ?_
   rw [show ziz p=([],false) by unfold ziz; rw [hg1]; rfl]
   rfl
  try simp only[RL]at h
  exact absurd h (by simp)
 ·skip
  simp only[Prod.mk.injEq]at hgg
  obtain ⟨hg1,hg2⟩:=hgg
  simp(disch:=omega)only[↓RU,RV,RH,↓reduceIte,qE,reduceCtorEq,if_pos,qN,↓RS,RG,qA,qM,qL,hg1,hg2]
  refine zad.pc (zf9 hs) rfl (.inl rfl) ?_
  simp(disch:=omega)only[↓RU,RV,RH,↓reduceIte,qE,reduceCtorEq,if_pos,qN,↓RS,RG,qA,qM,qL,hg1,hg2]
  refine zad.pc (zh5 hs) rfl (.inl rfl) ?_
  simp(disch:=omega)only[↓RU,RV,RH,↓reduceIte,qE,reduceCtorEq,if_pos,qN,↓RS,RG,qA,qM,qL,hg1,hg2]
  refine zad.pc (zgu hs.names) rfl (.inl rfl) ?_
  simp(disch:=omega)only[↓RU,RV,RH,↓reduceIte,qE,reduceCtorEq,if_pos,qN,↓RS,RG,qA,qM,qL,hg1,hg2]
  apply hK;clear hK K
  refine W.cond rfl (fun h=>?_) (fun h=>?_)
  ·try simp only[RL]at h
   refine W.r fun K hK=>?_
   simp(disch:=omega)only[↓RU,RV,RH,↓reduceIte,qE,reduceCtorEq,if_pos,qN,↓RS,RG,qA,qM,qL]
   refine zad.pc (zga) rfl (.inl rfl) ?_
   simp(disch:=omega)only[↓RU,RV,RH,↓reduceIte,qE,reduceCtorEq,if_pos,qN,↓RS,RG,qA,qM,qL]
   apply hK;clear hK K
   refine W.ret ?_
   refine XThen.ret ?_
   refine Br rfl ?_
   rw [show ziz p=([],false) by unfold ziz; rw [hg1,hg2]; rfl]
   rfl
  try simp only[RL]at h
  exact absurd h (by simp)
 skip
 simp only[Prod.mk.injEq]at hgg
 obtain ⟨hg1,hg2⟩:=hgg
 simp(disch:=omega)only[↓RU,RV,RH,↓reduceIte,qE,reduceCtorEq,if_pos,qN,↓RS,RG,qA,qM,qL,hg1,hg2]
 refine zad.pc (zf9 hs) rfl (.inl rfl) ?_
 simp(disch:=omega)only[↓RU,RV,RH,↓reduceIte,qE,reduceCtorEq,if_pos,qN,↓RS,RG,qA,qM,qL,hg1,hg2]
 refine zad.pc (zh5 hs) rfl (.inl rfl) ?_
 simp(disch:=omega)only[↓RU,RV,RH,↓reduceIte,qE,reduceCtorEq,if_pos,qN,↓RS,RG,qA,qM,qL,hg1,hg2]
 refine zad.pc (zgu hs.names) rfl (.inl rfl) ?_
 simp(disch:=omega)only[↓RU,RV,RH,↓reduceIte,qE,reduceCtorEq,if_pos,qN,↓RS,RG,qA,qM,qL,hg1,hg2]
 apply hK;clear hK K
 refine W.cond rfl (fun h=>?_) (fun h=>?_)
 ·try simp only[RL]at h
  exact absurd h (by simp)
 try simp only[RL]at h
 refine W.skip ?_
 refine xn ?_
 refine W.r fun K hK=>?_
 simp(disch:=omega)only[↓RU,RV,RH,↓reduceIte,qE,reduceCtorEq,if_pos,qN,↓RS,RG,qA,qM,qL]
 refine zad.pc (zh5 hs) rfl (.inl rfl) ?_
 simp(disch:=omega)only[↓RU,RV,RH,↓reduceIte,qE,reduceCtorEq,if_pos,qN,↓RS,RG,qA,qM,qL]
 apply hK;clear hK K
 refine W.ret ?_
 refine Br rfl ?_
 rw [show ziz p=(names p,true) by unfold ziz; rw [hg1,hg2]; rfl]
 rfl
theorem zo1 {p:List Txt} (hs:Sm p) (room:Int) {s:Txt} (hsl:s.length≤1048576) (k:Int):PC Tryz.prog 194 [zak p,.int .i64 room,.str s,.int .i64 k] (.tup [zak (zfw p room s k).1,.bool (zfw p room s k).2]) false:=by
 have hrb:=zdl p
 refine PC.of ⟨Tryz.func194,by kernel_rfl,rfl,by kernel_rfl⟩ zan mixed (by show 4≤Tryz.f194.ntmps; decide) ?_
 refine W.r fun K hK=>?_
 simp(disch:=omega)only[↓RU,RV,RH,↓reduceIte,qE,reduceCtorEq,if_pos,↓RS,RG,qA,qM,qL]
 apply hK;clear hK K
 refine W.seq ?_
 refine W.r fun K hK=>?_
 simp(disch:=omega)only[↓RU,RV,RH,↓reduceIte,qE,reduceCtorEq,if_pos,qN,↓RS,RG,qA,qM,qL]
 refine zad.pc (z35 hs room) rfl (.inl rfl) ?_
 simp(disch:=omega)only[↓RU,RV,RH,↓reduceIte,qE,reduceCtorEq,if_pos,qN,↓RS,RG,qA,qM,qL]
 apply hK;clear hK K
 refine W.cond rfl (fun h0=>?_) (fun h0=>?_)
 ·try simp only[RL]at h0
  have hgv:(zb1 p && (decide (0≤room) && decide (room≤zas p - 1)))=false:=by simpa using h0
  refine W.r fun K hK=>?_
  simp(disch:=omega)only[↓RU,RV,RH,↓reduceIte,qE,reduceCtorEq,if_pos,qN,↓RS,RG,qA,qM,qL]
  refine zad.pc (zga) rfl (.inl rfl) ?_
  simp(disch:=omega)only[↓RU,RV,RH,↓reduceIte,qE,reduceCtorEq,if_pos,qN,↓RS,RG,qA,qM,qL]
  apply hK;clear hK K
  refine W.ret ?_
  refine XThen.ret ?_
  refine Br rfl ?_
  first | (rw [zhj hgv]; rfl) | (rw [zhk hgv e1 e2 e3 e4 hB1]; rfl) | (rw [zhl hgv e1 e2 e3 e4 hB1 hB2]; rfl) | (rw [zgc hB1 hB2]; rfl)
 try simp only[RL]at h0
 have hgv:(zb1 p && (decide (0≤room) && decide (room≤zas p - 1)))=true:=by simpa using h0
 have hgv2:=hgv
 simp only[qB,decide_eq_true_eq]at hgv2
 obtain ⟨hp,hr0,hr1⟩:=hgv2
 obtain ⟨t,l,h,w,e1,e2,e3,e4,q1,q2,q3,q4⟩:=ybm hp hr0 hr1
 obtain ⟨ps1,ps2,ps3⟩:=znx hp
 have hrw:∀ row∈p,row.length=(zag p).length:=fun row hr=>by obtain ⟨i,hi,rfl⟩:=List.getElem_of_mem hr; exact z81 hp (List.getElem?_eq_getElem hi)
 have hw6:(zag p).length≤6:=by obtain ⟨row,hrow,hrm⟩:=zae ps2; rw [← hrw row hrm]; exact (ps3 row hrm).2
 refine W.skip ?_
 refine xn ?_
 refine W.r fun K hK=>?_
 simp(disch:=omega)only[↓RU,RV,RH,↓reduceIte,qE,reduceCtorEq,if_pos,qN,↓RS,RG,qA,qM,qL,e1,e2,e3,e4]
 refine zad.pc (zxb hs (by omega) room) rfl (.inl rfl) ?_
 simp(disch:=omega)only[↓RU,RV,RH,↓reduceIte,qE,reduceCtorEq,if_pos,qN,↓RS,RG,qA,qM,qL,e1,e2,e3,e4]
 apply hK;clear hK K
 refine W.seq ?_
 refine W.block ?_
 refine W.r fun K hK=>?_
 cases hb1:(s == ([104]:Txt))
 ·skip
  have hB1:((s == [104]) && (decide (1≤k) && decide (k≤zeh p room - 1)))=false:=by rw [hb1]; rfl
  simp(disch:=omega)only[↓RU,RV,RH,↓reduceIte,qE,reduceCtorEq,if_pos,w64,qN,↓RS,RG,qA,qM,qL,zaa,zac,hb1,zy6]
  apply hK;clear hK K
  refine W.cond rfl (fun h1=>?_) (fun h1=>?_)
  ·try simp only[RL]at h1
   exact absurd h1 (by simp)
  try simp only[RL]at h1
  refine W.r fun K hK=>?_
  cases hb2:(s == ([118]:Txt))
  ·skip
   have hB2:((s == [118]) && (decide (1≤k) && decide (k≤zd1 p room - 1)))=false:=by rw [hb2]; rfl
   simp(disch:=omega)only[↓RU,RV,RH,↓reduceIte,qE,reduceCtorEq,if_pos,w64,qN,↓RS,RG,qA,qM,qL,zaa,zac,hb2,zy6]
   apply hK;clear hK K
   refine W.cond rfl (fun h2=>?_) (fun h2=>?_)
   ·try simp only[RL]at h2
    exact absurd h2 (by simp)
   try simp only[RL]at h2
   refine W.skip ?_
   refine XbN ?_
   refine xn ?_
   refine W.r fun K hK=>?_
   simp(disch:=omega)only[↓RU,RV,RH,↓reduceIte,qE,reduceCtorEq,if_pos,qN,↓RS,RG,qA,qM,qL]
   refine zad.pc (zga) rfl (.inl rfl) ?_
   simp(disch:=omega)only[↓RU,RV,RH,↓reduceIte,qE,reduceCtorEq,if_pos,qN,↓RS,RG,qA,qM,qL]
   apply hK;clear hK K
   refine W.ret ?_
   refine Br rfl ?_
   first | (rw [zhj hgv]; rfl) | (rw [zhk hgv e1 e2 e3 e4 hB1]; rfl) | (rw [zhl hgv e1 e2 e3 e4 hB1 hB2]; rfl) | (rw [zgc hB1 hB2]; rfl)
  skip
  simp(disch:=omega)only[↓RU,RV,RH,↓reduceIte,qE,reduceCtorEq,if_pos,w64,qN,↓RS,RG,qA,qM,qL,zaa,zac,hb2,zy6]
  refine zad.pc (znr _ _ _) rfl (.inl rfl) ?_
  simp(disch:=omega)only[↓RU,RV,RH,↓reduceIte,qE,reduceCtorEq,if_pos,w64,qN,↓RS,RG,qA,qM,qL,zaa,zac,hb2,zy6]
  apply hK;clear hK K
  refine W.cond rfl (fun h2=>?_) (fun h2=>?_)
  ·try simp only[RL]at h2
   have hB2:((s == [118]) && (decide (1≤k) && decide (k≤zd1 p room - 1)))=true:=by rw [hb2,e4]; exact h2
   have hk:=h2
   simp only[qB,decide_eq_true_eq]at hk
   obtain ⟨kn,rfl⟩:∃ kn:Nat,k=kn:=⟨k.toNat,by omega⟩
   refine W.r fun K hK=>?_
   simp(disch:=omega)only[↓RU,RV,RH,↓reduceIte,qE,reduceCtorEq,if_pos,w64,qN,↓RS,RG,qA,qM,qL,zaa,show ((l:Int)+(kn:Int))=((l+kn:Nat):Int) from by omega,show ((w:Int) - (kn:Int))=((w - kn:Nat):Int) from by omega]
   refine zad.pc (zpm hs (tp:=t) (lf:=l+kn) (hg:=h) (wd:=w - kn) (c:=122) (by omega) (fun row hr=>by rw [hrw row hr]; omega)) rfl (.inl rfl) ?_
   simp(disch:=omega)only[↓RU,RV,RH,↓reduceIte,qE,reduceCtorEq,if_pos,w64,qN,↓RS,RG,qA,qM,qL,zaa,show ((l:Int)+(kn:Int))=((l+kn:Nat):Int) from by omega,show ((w:Int) - (kn:Int))=((w - kn:Nat):Int) from by omega]
   refine zad.pc (zqu (zvh hs)) rfl (.inr rfl) ?_
   simp(disch:=omega)only[↓RU,RV,RH,↓reduceIte,qE,reduceCtorEq,if_pos,w64,qN,↓RS,RG,qA,qM,qL,zaa,show ((l:Int)+(kn:Int))=((l+kn:Nat):Int) from by omega,show ((w:Int) - (kn:Int))=((w - kn:Nat):Int) from by omega]
   apply hK;clear hK K
   refine W.ret ?_
   refine XBlock.ret ?_
   refine XThen.ret ?_
   refine Br rfl ?_
   first | (rw [zhj hgv]; rfl) | (rw [zhk hgv e1 e2 e3 e4 hB1]; rfl) | (rw [zhl hgv e1 e2 e3 e4 hB1 hB2]; rfl) | (rw [zgc hB1 hB2]; rfl)
  try simp only[RL]at h2
  have hB2:((s == [118]) && (decide (1≤k) && decide (k≤zd1 p room - 1)))=false:=by rw [hb2,e4]; exact h2
  refine W.skip ?_
  refine XbN ?_
  refine xn ?_
  refine W.r fun K hK=>?_
  simp(disch:=omega)only[↓RU,RV,RH,↓reduceIte,qE,reduceCtorEq,if_pos,qN,↓RS,RG,qA,qM,qL]
  refine zad.pc (zga) rfl (.inl rfl) ?_
  simp(disch:=omega)only[↓RU,RV,RH,↓reduceIte,qE,reduceCtorEq,if_pos,qN,↓RS,RG,qA,qM,qL]
  apply hK;clear hK K
  refine W.ret ?_
  refine Br rfl ?_
  first | (rw [zhj hgv]; rfl) | (rw [zhk hgv e1 e2 e3 e4 hB1]; rfl) | (rw [zhl hgv e1 e2 e3 e4 hB1 hB2]; rfl) | (rw [zgc hB1 hB2]; rfl)
 skip
 simp(disch:=omega)only[↓RU,RV,RH,↓reduceIte,qE,reduceCtorEq,if_pos,w64,qN,↓RS,RG,qA,qM,qL,zaa,zac,hb1,zy6]
 refine zad.pc (znr _ _ _) rfl (.inl rfl) ?_
 simp(disch:=omega)only[↓RU,RV,RH,↓reduceIte,qE,reduceCtorEq,if_pos,w64,qN,↓RS,RG,qA,qM,qL,zaa,zac,hb1,zy6]
 apply hK;clear hK K
 refine W.cond rfl (fun h1=>?_) (fun h1=>?_)
 ·try simp only[RL]at h1
  have hB1:((s == [104]) && (decide (1≤k) && decide (k≤zeh p room - 1)))=true:=by rw [hb1,e3]; exact h1
  have hk:=h1
  simp only[qB,decide_eq_true_eq]at hk
  obtain ⟨kn,rfl⟩:∃ kn:Nat,k=kn:=⟨k.toNat,by omega⟩
  refine W.r fun K hK=>?_
  simp(disch:=omega)only[↓RU,RV,RH,↓reduceIte,qE,reduceCtorEq,if_pos,w64,qN,↓RS,RG,qA,qM,qL,zaa,show ((t:Int)+(kn:Int))=((t+kn:Nat):Int) from by omega,show ((h:Int) - (kn:Int))=((h - kn:Nat):Int) from by omega]
  refine zad.pc (zpm hs (tp:=t+kn) (lf:=l) (hg:=h - kn) (wd:=w) (c:=122) (by omega) (fun row hr=>by rw [hrw row hr]; omega)) rfl (.inl rfl) ?_
  simp(disch:=omega)only[↓RU,RV,RH,↓reduceIte,qE,reduceCtorEq,if_pos,w64,qN,↓RS,RG,qA,qM,qL,zaa,show ((t:Int)+(kn:Int))=((t+kn:Nat):Int) from by omega,show ((h:Int) - (kn:Int))=((h - kn:Nat):Int) from by omega]
  refine zad.pc (zqu (zvh hs)) rfl (.inr rfl) ?_
  simp(disch:=omega)only[↓RU,RV,RH,↓reduceIte,qE,reduceCtorEq,if_pos,w64,qN,↓RS,RG,qA,qM,qL,zaa,show ((t:Int)+(kn:Int))=((t+kn:Nat):Int) from by omega,show ((h:Int) - (kn:Int))=((h - kn:Nat):Int) from by omega]
  apply hK;clear hK K
  refine W.ret ?_
  refine XBlock.ret ?_
  refine XThen.ret ?_
  refine Br rfl ?_
  first | (rw [zhj hgv]; rfl) | (rw [zhk hgv e1 e2 e3 e4 hB1]; rfl) | (rw [zhl hgv e1 e2 e3 e4 hB1 hB2]; rfl) | (rw [zgc hB1 hB2]; rfl)
 try simp only[RL]at h1
 have hB1:((s == [104]) && (decide (1≤k) && decide (k≤zeh p room - 1)))=false:=by rw [hb1,e3]; exact h1
 refine W.r fun K hK=>?_
 cases hb2:(s == ([118]:Txt))
 ·skip
  have hB2:((s == [118]) && (decide (1≤k) && decide (k≤zd1 p room - 1)))=false:=by rw [hb2]; rfl
  simp(disch:=omega)only[↓RU,RV,RH,↓reduceIte,qE,reduceCtorEq,if_pos,w64,qN,↓RS,RG,qA,qM,qL,zaa,zac,hb2,zy6]
  apply hK;clear hK K
  refine W.cond rfl (fun h2=>?_) (fun h2=>?_)
  ·try simp only[RL]at h2
   exact absurd h2 (by simp)
  try simp only[RL]at h2
  refine W.skip ?_
  refine XbN ?_
  refine xn ?_
  refine W.r fun K hK=>?_
  simp(disch:=omega)only[↓RU,RV,RH,↓reduceIte,qE,reduceCtorEq,if_pos,qN,↓RS,RG,qA,qM,qL]
  refine zad.pc (zga) rfl (.inl rfl) ?_
  simp(disch:=omega)only[↓RU,RV,RH,↓reduceIte,qE,reduceCtorEq,if_pos,qN,↓RS,RG,qA,qM,qL]
  apply hK;clear hK K
  refine W.ret ?_
  refine Br rfl ?_
  first | (rw [zhj hgv]; rfl) | (rw [zhk hgv e1 e2 e3 e4 hB1]; rfl) | (rw [zhl hgv e1 e2 e3 e4 hB1 hB2]; rfl) | (rw [zgc hB1 hB2]; rfl)
 skip
 simp(disch:=omega)only[↓RU,RV,RH,↓reduceIte,qE,reduceCtorEq,if_pos,w64,qN,↓RS,RG,qA,qM,qL,zaa,zac,hb2,zy6]
 refine zad.pc (znr _ _ _) rfl (.inl rfl) ?_
 simp(disch:=omega)only[↓RU,RV,RH,↓reduceIte,qE,reduceCtorEq,if_pos,w64,qN,↓RS,RG,qA,qM,qL,zaa,zac,hb2,zy6]
 apply hK;clear hK K
 refine W.cond rfl (fun h2=>?_) (fun h2=>?_)
 ·try simp only[RL]at h2
  have hB2:((s == [118]) && (decide (1≤k) && decide (k≤zd1 p room - 1)))=true:=by rw [hb2,e4]; exact h2
  have hk:=h2
  simp only[qB,decide_eq_true_eq]at hk
  obtain ⟨kn,rfl⟩:∃ kn:Nat,k=kn:=⟨k.toNat,by omega⟩
  refine W.r fun K hK=>?_
  simp(disch:=omega)only[↓RU,RV,RH,↓reduceIte,qE,reduceCtorEq,if_pos,w64,qN,↓RS,RG,qA,qM,qL,zaa,show ((l:Int)+(kn:Int))=((l+kn:Nat):Int) from by omega,show ((w:Int) - (kn:Int))=((w - kn:Nat):Int) from by omega]
  refine zad.pc (zpm hs (tp:=t) (lf:=l+kn) (hg:=h) (wd:=w - kn) (c:=122) (by omega) (fun row hr=>by rw [hrw row hr]; omega)) rfl (.inl rfl) ?_
  simp(disch:=omega)only[↓RU,RV,RH,↓reduceIte,qE,reduceCtorEq,if_pos,w64,qN,↓RS,RG,qA,qM,qL,zaa,show ((l:Int)+(kn:Int))=((l+kn:Nat):Int) from by omega,show ((w:Int) - (kn:Int))=((w - kn:Nat):Int) from by omega]
  refine zad.pc (zqu (zvh hs)) rfl (.inr rfl) ?_
  simp(disch:=omega)only[↓RU,RV,RH,↓reduceIte,qE,reduceCtorEq,if_pos,w64,qN,↓RS,RG,qA,qM,qL,zaa,show ((l:Int)+(kn:Int))=((l+kn:Nat):Int) from by omega,show ((w:Int) - (kn:Int))=((w - kn:Nat):Int) from by omega]
  apply hK;clear hK K
  refine W.ret ?_
  refine XBlock.ret ?_
  refine XThen.ret ?_
  refine Br rfl ?_
  first | (rw [zhj hgv]; rfl) | (rw [zhk hgv e1 e2 e3 e4 hB1]; rfl) | (rw [zhl hgv e1 e2 e3 e4 hB1 hB2]; rfl) | (rw [zgc hB1 hB2]; rfl)
 try simp only[RL]at h2
 have hB2:((s == [118]) && (decide (1≤k) && decide (k≤zd1 p room - 1)))=false:=by rw [hb2,e4]; exact h2
 refine W.skip ?_
 refine XbN ?_
 refine xn ?_
 refine W.r fun K hK=>?_
 simp(disch:=omega)only[↓RU,RV,RH,↓reduceIte,qE,reduceCtorEq,if_pos,qN,↓RS,RG,qA,qM,qL]
 refine zad.pc (zga) rfl (.inl rfl) ?_
 simp(disch:=omega)only[↓RU,RV,RH,↓reduceIte,qE,reduceCtorEq,if_pos,qN,↓RS,RG,qA,qM,qL]
 apply hK;clear hK K
 refine W.ret ?_
 refine Br rfl ?_
 first | (rw [zhj hgv]; rfl) | (rw [zhk hgv e1 e2 e3 e4 hB1]; rfl) | (rw [zhl hgv e1 e2 e3 e4 hB1 hB2]; rfl) | (rw [zgc hB1 hB2]; rfl)
theorem zfp {code:Txt} {q vr t:Nat} {R:List Ob} (hc:code.length≤1048576) (hq:q≤1000000) (n:Int) (hn:n≤1000000) (hn0 : -1000000≤n) :
  Ev Tryz.prog 57 [.ref 0 vr 0,.int .i64 n] ⟨.arr vr 118 2 [eBy code,.int .i64 (q:Int)]::R,t⟩ fun v S=>∃ k:Nat,v = .int .i64 (k:Int)∧(n<1→k=0)∧(1≤n→(k:Int)<n)∧S=⟨.arr vr 118 2 [eBy code,.int .i64 ((q+1:Nat):Int)]::R,t⟩ :=
 ybk hc hq n hn hn0
theorem yhc {code:Txt} {q vr t v1:Nat} {R:List Ob} {l:List Txt} (hc:code.length≤1048576) (hq:q≤1000000) (hl:1≤l.length) (hl2:l.length≤1000):Ev Tryz.prog 195 [.ref 0 vr 0,.loc 1 v1 0 l.length] ⟨.arr vr 118 2 [eBy code,.int .i64 (q:Int)] :: .arr v1 9 1 (l.map .str)::R,t⟩ fun v S=>∃ s,s∈l∧v = .str s∧S=⟨.arr vr 118 2 [eBy code,.int .i64 ((q+1:Nat):Int)] :: .arr v1 9 1 (l.map .str)::R,t⟩:=by
 refine Ev.of ⟨Tryz.func195,by kernel_rfl,rfl,by kernel_rfl⟩ zan mixed (by show 2≤Tryz.f195.ntmps; decide) ?_
 refine W.r fun K hK=>?_
 simp(disch:=omega)only[↓RU,RV,RH,↓reduceIte,qE,reduceCtorEq,if_pos,↓RS,RG,qA,qM,qL]
 apply hK;clear hK K
 refine W.r fun K hK=>?_
 simp(disch:=omega)only[↓RU,RV,RH,↓reduceIte,qE,reduceCtorEq,if_pos,qN,↓RS,RG,qA,qM,qL,ty6,zac]
 refine zad.ev (zfp hc hq (l.length:Int) (by omega) (by omega)) ?_
 rintro _ _ ⟨k,rfl,-,hk,rfl⟩
 have hk2:=hk (by omega)
 obtain ⟨s,hsk,hsm⟩:=zae (show k<l.length by omega)
 simp(disch:=omega)only[↓RU,RV,RH,↓reduceIte,qE,reduceCtorEq,if_pos,qN,↓RS,RG,qA,qM,qL,ty6,zac,hsk]
 apply hK;clear hK K
 refine W.ret ?_
 refine Br rfl ?_
 exact ⟨_,s,hsm,rfl,zai⟩
theorem zz1 {nh nw:Nat} (hn:nh≤100) (hm:nw≤100):PC Tryz.prog 168 [.int .i64 nh,.int .i64 nw] (zak (List.replicate nh (List.replicate nw (97:UInt8)))) true:=by
 refine PC.of ⟨Tryz.func168,by kernel_rfl,rfl,by kernel_rfl⟩ zan mixed (by show 2≤Tryz.f168.ntmps; decide) ?_
 refine W.r fun K hK=>?_
 simp(disch:=omega)only[↓RU,RV,RH,↓reduceIte,qE,reduceCtorEq,if_pos,↓RS,RG,qA,qM,qL]
 apply hK;clear hK K
 refine W.r fun K hK=>?_
 simp(disch:=omega)only[↓RU,RV,RH,↓reduceIte,qE,reduceCtorEq,if_pos,↓RS,RG,qA,qM,qL,ty6,zac]
 apply hK;clear hK K
 refine W.seq ?_
 refine W.r fun K hK=>?_
 simp(disch:=omega)only[↓RU,RV,RH,↓reduceIte,qE,reduceCtorEq,if_pos,↓RS,RG,qA,qM,qL]
 apply hK;clear hK K
 refine W.block ?_
 refine W.loop [0,1,5,6] (fun n vs S=>∃ i v0 tk:Nat,n=nh - i∧i≤nh∧vs=[.int .i64 nh,.int .i64 nw,.loc 0 v0 0 i,.int .i64 i]∧S=⟨[.arr v0 9 1 ((List.replicate i (List.replicate nw (97:UInt8))).map .str)],tk⟩) (nh) ?_ ?_
 ·refine ⟨1,0,0,1,rfl,Nat.zero_le _,?_,rfl⟩
  simp [Env.put,Env.of,zaf]
 rintro n vs S - ⟨i,v0,tk,rfl,h_i,rfl,rfl⟩
 refine W.seq ?_
 refine W.r fun K hK=>?_
 simp(disch:=omega)only[↓RU,RV,RH,↓reduceIte,qE,reduceCtorEq,if_pos,w64,↓RS,RG,qA,qM,qL,zaa]
 apply hK;clear hK K
 refine W.cond rfl (fun h=>?_) (fun h=>?_)
 ·try simp only[RL]at h
  refine W.skip ?_
  refine xn ?_
  refine W.seq ?_
  refine W.block ?_
  refine W.r fun K hK=>?_
  simp(disch:=omega)only[↓RU,RV,RH,↓reduceIte,qE,reduceCtorEq,if_pos,↓RS,RG,qA,qM,qL,ty7,zd3]
  apply hK;clear hK K
  refine W.seq ?_
  refine W.r fun K hK=>?_
  simp(disch:=omega)only[↓RU,RV,RH,↓reduceIte,qE,reduceCtorEq,if_pos,↓RS,RG,qA,qM,qL]
  apply hK;clear hK K
  refine W.block ?_
  refine W.loop [0,1,5,6,7,8] (fun n vs S=>∃ k v1 tk:Nat,n=nw - k∧k≤nw∧vs=[.int .i64 nh,.int .i64 nw,.loc 0 v0 0 i,.int .i64 i,.loc 1 v1 0 k,.int .i64 k]∧S=⟨[.arr v0 9 1 ((List.replicate i (List.replicate nw (97:UInt8))).map .str),.arr v1 5 1 ((List.replicate k (97:UInt8)).map eB)],tk⟩) (nw) ?_ ?_
  ·refine ⟨2,0,tk,tk+1,rfl,Nat.zero_le _,?_,rfl⟩
   simp [Env.put,Env.of]
  rintro n vs S - ⟨k,v1,tk,rfl,h_k,rfl,rfl⟩
  refine W.seq ?_
  refine W.r fun K hK=>?_
  simp(disch:=omega)only[↓RU,RV,RH,↓reduceIte,qE,reduceCtorEq,if_pos,w64,↓RS,RG,qA,qM,qL,zaa]
  apply hK;clear hK K
  refine W.cond rfl (fun h1=>?_) (fun h1=>?_)
  ·try simp only[RL]at h1
   refine W.skip ?_
   refine xn ?_
   refine W.seq ?_
   refine W.block ?_
   refine W.k fun K hK=>?_
   simp(disch:=omega)only[↓RU,RV,RH,↓reduceIte,qE,reduceCtorEq,if_pos,↓RS,RG,qA,qM,qL,ty7,zd3,List.length_replicate]
   apply hK;clear hK K
   refine XbN ?_
   refine xn ?_
   refine W.k fun K hK=>?_
   simp(disch:=omega)only[↓RU,RV,RH,↓reduceIte,qE,reduceCtorEq,if_pos,w64,↓RS,RG,qA,qM,qL,zaa]
   apply hK;clear hK K
   refine xn ?_
   refine ⟨nw - (k+1),by omega,2,k+1,tk+1,tk+2,rfl,by omega,?_,?_⟩
   all_goals simp [Env.put,Env.of,zav,zkj,List.replicate_succ',List.map_append]
  ·try simp only[RL]at h1
   obtain rfl:k=nw:=by omega
   have hbo:=zsm (List.replicate k (97:UInt8))
   have htk:((List.replicate k (97:UInt8)).map eB).take k=(List.replicate k (97:UInt8)).map eB:=qT (by simp)
   refine W.exit ?_
   refine xe ?_
   refine xe ?_
   refine XBlock.hit ?_
   refine xn ?_
   refine W.k fun K hK=>?_
   simp(disch:=omega)only[↓RU,RV,RH,↓reduceIte,qE,reduceCtorEq,if_pos,w64,↓RS,RG,qA,qM,qL,ty6,ty7,zac,zd3,List.length_replicate,htk,hbo]
   apply hK;clear hK K
   refine XbN ?_
   refine xn ?_
   refine W.k fun K hK=>?_
   simp(disch:=omega)only[↓RU,RV,RH,↓reduceIte,qE,reduceCtorEq,if_pos,w64,↓RS,RG,qA,qM,qL,zaa]
   apply hK;clear hK K
   refine xn ?_
   refine ⟨nh - (i+1),by omega,1,i+1,tk+1,tk+2,rfl,by omega,?_,?_⟩
   all_goals simp [Env.put,Env.of,zav,zkj,List.replicate_succ',List.map_append]
 try simp only[RL]at h
 obtain rfl:i=nh:=by omega
 refine W.exit ?_
 refine xe ?_
 refine xe ?_
 refine XBlock.hit ?_
 refine xn ?_
 refine W.r fun K hK=>?_
 simp(disch:=omega)only[↓RU,RV,RH,↓reduceIte,qE,reduceCtorEq,if_pos,↓RS,RG,qA,qM,qL]
 apply hK;clear hK K
 refine W.ret ?_
 refine Br rfl ?_
 exact (zbw (k:=9) rfl (by simp) (zpn _)).trans (by simp)
theorem zdd {S:Store} {k ver off:Nat}:frz S 1 (k+1) (.ref 0 ver off)=some (.ref 0 ver off):=by simp [frz]
theorem zem (p:List Txt):List.take p.length (p.map PV.str)=p.map .str:=qT (by simp)
theorem zdf {S:Store} {lo k:Nat} (l:List Txt):(l.map PV.str).mapM (rfz S lo (k+1))=some (l.map PV.str):=zrk (fun _=>rfl) l
theorem z0a {p:List Txt} (h:zb1 p=true):Sm p:=by
 obtain ⟨h1,-,h3⟩:=znx h
 exact ⟨by omega,fun r hr=>by have:=(h3 r hr).2; omega⟩
theorem zrg {p:List Txt} (h:zb1 p=true):zas p≤9:=by
 unfold zb1 at h; simp only[qB,decide_eq_true_eq]at h; omega
theorem yc3 {s:Txt} (h:s∈([[104],[118]]:List Txt)):s.length≤1048576:=by
 simp only[List.mem_cons,List.not_mem_nil,or_false]at h
 rcases h with rfl | rfl <;> simp
theorem z7f {code:Txt} {q vr t:Nat} {R:List Ob} (hc:code.length≤1048576) (hq:q≤900000) {p:List Txt} (hp:zb1 p=true) {many:Nat} (hm:many≤1000):Ev Tryz.prog 167 [.ref 0 vr 0,zak p,.int .i64 many] ⟨.arr vr 118 2 [eBy code,.int .i64 (q:Int)]::R,t⟩ fun v S=>∃ (p2:List Txt) (q2 t2:Nat),v=zak p2∧zb1 p2=true∧p2.length=p.length∧q2≤q+3*many∧S=⟨[.arr vr 118 2 [eBy code,.int .i64 (q2:Int)]],t2⟩:=by
 refine Ev.of ⟨Tryz.func167,by kernel_rfl,rfl,by kernel_rfl⟩ zan mixed (by show 3≤Tryz.f167.ntmps; decide) ?_
 refine W.r fun K hK=>?_
 simp(disch:=omega)only[↓RU,RV,RH,↓reduceIte,qE,reduceCtorEq,if_pos,↓RS,RG,qA,qM,qL]
 apply hK;clear hK K
 refine W.seq ?_
 refine W.r fun K hK=>?_
 simp(disch:=omega)only[↓RU,RV,RH,↓reduceIte,qE,reduceCtorEq,if_pos,↓RS,RG,qA,qM,qL]
 apply hK;clear hK K
 refine W.block ?_
 refine W.loopZ [0,1,2,7] (fun n vs S=>∃ (i:Nat) (p2:List Txt) (q2 tk:Nat),n=many - i∧i≤many∧zb1 p2=true∧p2.length=p.length∧q2≤q+3*i∧vs=[.ref 0 vr 0,zak p2,.int .i64 many,.int .i64 i]∧S=⟨[.arr vr 118 2 [eBy code,.int .i64 (q2:Int)]],tk⟩) many ?_ ?_
 ·refine ⟨1,[.ref 0 vr 0,zak p,.int .i64 many,.int .i64 (0:Nat)],⟨[.arr vr 118 2 [eBy code,.int .i64 (q:Int)]],t⟩,?_,?_,0,p,q,t,rfl,by omega,hp,rfl,by omega,rfl,rfl⟩
  ·simp [-qU,Store.frz,zbz,zci,zap,zbb,zba,zbe,zcb,zax,zau,zay,zao,zaq,zbh,zaz,zbf,zaw,Env.put,Env.of,zaf,zbg,qP,qC,zdd,zem,zdf]
  simp [-qU,Store.frz,zbz,zci,zap,zbb,zba,zbe,zcb,zax,zau,zay,zao,zaq,zbh,zaz,zbf,zaw,Env.put,Env.of,zaf,zbg,qP,qC,zdd,zem,zdf]
 rintro n vs S - ⟨i,p2,q2,tk,rfl,h_i,hp2,hl2,hq2,rfl,rfl⟩
 refine W.seq ?_
 refine W.r fun K hK=>?_
 simp(disch:=omega)only[↓RU,RV,RH,↓reduceIte,qE,reduceCtorEq,if_pos,w64,↓RS,RG,qA,qM,qL,zaa]
 apply hK;clear hK K
 refine W.cond rfl (fun h=>?_) (fun h=>?_)
 ·try simp only[RL]at h
  have hs2:=z0a hp2
  have hr9:=zrg hp2
  have hrb:=zdl p2
  refine W.skip ?_
  refine xn ?_
  refine W.seq ?_
  refine W.block ?_
  refine W.r fun K hK=>?_
  simp(disch:=omega)only[↓RU,RV,RH,↓reduceIte,qE,reduceCtorEq,if_pos,qN,↓RS,RG,qA,qM,qL]
  refine zad.pc (zgs hs2) rfl (.inl rfl) ?_
  simp(disch:=omega)only[↓RU,RV,RH,↓reduceIte,qE,reduceCtorEq,if_pos,qN,↓RS,RG,qA,qM,qL]
  refine zad.ev (zfp hc (by omega) (zas p2) (by omega) (by omega)) ?_
  rintro _ _ ⟨k1,rfl,-,-,rfl⟩
  simp(disch:=omega)only[↓RU,RV,RH,↓reduceIte,qE,reduceCtorEq,if_pos,qN,↓RS,RG,qA,qM,qL]
  apply hK;clear hK K
  refine W.r fun K hK=>?_
  simp(disch:=omega)only[↓RU,RV,RH,↓reduceIte,qE,reduceCtorEq,if_pos,qN,w64,↓RS,RG,qA,qM,qL,ty6,zaa,zac]
  refine zad.ev (yhc (R:=[]) (l:=[[104],[118]]) hc (by omega) (by simp) (by simp)) ?_
  rintro _ _ ⟨s,hsm,rfl,rfl⟩
  have hsl:=yc3 hsm
  simp(disch:=omega)only[↓RU,RV,RH,↓reduceIte,qE,reduceCtorEq,if_pos,qN,w64,↓RS,RG,qA,qM,qL,ty6,zaa,zac]
  refine zad.ev (zfp (q:=q2+1+1) hc (by omega) 3 (by omega) (by omega)) ?_
  rintro _ _ ⟨k2,rfl,-,hk2,rfl⟩
  have hk3:=hk2 (by omega)
  simp(disch:=omega)only[↓RU,RV,RH,↓reduceIte,qE,reduceCtorEq,if_pos,qN,w64,↓RS,RG,qA,qM,qL,ty6,zaa,zac]
  refine zad.pc (zo1 hs2 k1 hsl (1+k2)) rfl (.inr rfl) ?_
  simp(disch:=omega)only[↓RU,RV,RH,↓reduceIte,qE,reduceCtorEq,if_pos,qN,w64,↓RS,RG,qA,qM,qL,ty6,zaa,zac]
  apply hK;clear hK K
  refine W.r fun K hK=>?_
  simp(disch:=omega)only[↓RU,RV,RH,↓reduceIte,qE,reduceCtorEq,if_pos,↓RS,RG,qA,qM,qL]
  apply hK;clear hK K
  refine W.cond rfl (fun h1=>?_) (fun h1=>?_)
  ·try simp only[RL]at h1
   obtain ⟨ho1,ho2⟩:=zyu h1
   refine W.k fun K hK=>?_
   simp(disch:=omega)only[↓RU,RV,RH,↓reduceIte,qE,reduceCtorEq,if_pos,↓RS,RG,qA,qM,qL]
   apply hK;clear hK K
   refine XbN ?_
   refine xn ?_
   refine W.k fun K hK=>?_
   simp(disch:=omega)only[↓RU,RV,RH,↓reduceIte,qE,reduceCtorEq,if_pos,w64,↓RS,RG,qA,qM,qL,zaa]
   apply hK;clear hK K
   refine xn ?_
   refine ⟨many - (i+1),by omega,1,[.ref 0 vr 0,zak (zfw p2 k1 s (1+k2)).1,.int .i64 many,.int .i64 ((i+1:Nat):Int)],⟨[.arr vr 118 2 [eBy code,.int .i64 ((q2+1+1+1:Nat):Int)]],tk+1⟩,?_,?_,i+1,(zfw p2 k1 s (1+k2)).1,q2+1+1+1,tk+1,rfl,by omega,ho1,ho2.trans hl2,by omega,rfl,rfl⟩
   ·simp [-qU,Store.frz,zbz,zci,zap,zbb,zba,zbe,zcb,zax,zau,zay,zao,zaq,zbh,zaz,zbf,zaw,Env.put,Env.of,zaf,zbg,qP,qC,zdd,zem,zdf]
   simp [-qU,Store.frz,zbz,zci,zap,zbb,zba,zbe,zcb,zax,zau,zay,zao,zaq,zbh,zaz,zbf,zaw,Env.put,Env.of,zaf,zbg,qP,qC,zdd,zem,zdf]
  try simp only[RL]at h1
  refine W.skip ?_
  refine XbN ?_
  refine xn ?_
  refine W.k fun K hK=>?_
  simp(disch:=omega)only[↓RU,RV,RH,↓reduceIte,qE,reduceCtorEq,if_pos,w64,↓RS,RG,qA,qM,qL,zaa]
  apply hK;clear hK K
  refine xn ?_
  refine ⟨many - (i+1),by omega,1,[.ref 0 vr 0,zak p2,.int .i64 many,.int .i64 ((i+1:Nat):Int)],⟨[.arr vr 118 2 [eBy code,.int .i64 ((q2+1+1+1:Nat):Int)]],tk+1⟩,?_,?_,i+1,p2,q2+1+1+1,tk+1,rfl,by omega,hp2,hl2,by omega,rfl,rfl⟩
  ·simp [-qU,Store.frz,zbz,zci,zap,zbb,zba,zbe,zcb,zax,zau,zay,zao,zaq,zbh,zaz,zbf,zaw,Env.put,Env.of,zaf,zbg,qP,qC,zdd,zem,zdf]
  simp [-qU,Store.frz,zbz,zci,zap,zbb,zba,zbe,zcb,zax,zau,zay,zao,zaq,zbh,zaz,zbf,zaw,Env.put,Env.of,zaf,zbg,qP,qC,zdd,zem,zdf]
 try simp only[RL]at h
 obtain rfl:i=many:=by omega
 refine W.exit ?_
 refine xe ?_
 refine xe ?_
 refine XBlock.hit ?_
 refine xn ?_
 refine W.r fun K hK=>?_
 simp(disch:=omega)only[↓RU,RV,RH,↓reduceIte,qE,reduceCtorEq,if_pos,↓RS,RG,qA,qM,qL]
 apply hK;clear hK K
 refine W.ret ?_
 refine Br rfl ?_
 exact ⟨_,p2,q2,tk,rfl,hp2,hl2,by omega,zai⟩
theorem ztb {code:Txt} {q vr t v1:Nat} {R:List Ob} (hc:code.length≤1048576) (hq:q≤900000) {p:List Txt} (hp:zb1 p=true) {many:Nat} (hm:many≤1000):Ev Tryz.prog 167 [.ref 0 vr 0,.loc 1 v1 0 p.length,.int .i64 many] ⟨.arr vr 118 2 [eBy code,.int .i64 (q:Int)] :: .arr v1 9 1 (p.map .str)::R,t⟩ fun v S=>∃ (p2:List Txt) (q2 t2:Nat),v=zak p2∧zb1 p2=true∧p2.length=p.length∧q2≤q+3*many∧S=⟨[.arr vr 118 2 [eBy code,.int .i64 (q2:Int)]],t2⟩:=by
 refine Ev.of ⟨Tryz.func167,by kernel_rfl,rfl,by kernel_rfl⟩ zan mixed (by show 3≤Tryz.f167.ntmps; decide) ?_
 refine W.r fun K hK=>?_
 simp(disch:=omega)only[↓RU,RV,RH,↓reduceIte,qE,reduceCtorEq,if_pos,↓RS,RG,qA,qM,qL]
 apply hK;clear hK K
 refine W.seq ?_
 refine W.r fun K hK=>?_
 simp(disch:=omega)only[↓RU,RV,RH,↓reduceIte,qE,reduceCtorEq,if_pos,↓RS,RG,qA,qM,qL]
 apply hK;clear hK K
 refine W.block ?_
 refine W.loopZ [0,1,2,7] (fun n vs S=>∃ (i:Nat) (p2:List Txt) (q2 tk:Nat),n=many - i∧i≤many∧zb1 p2=true∧p2.length=p.length∧q2≤q+3*i∧vs=[.ref 0 vr 0,zak p2,.int .i64 many,.int .i64 i]∧S=⟨[.arr vr 118 2 [eBy code,.int .i64 (q2:Int)]],tk⟩) many ?_ ?_
 ·refine ⟨1,[.ref 0 vr 0,zak p,.int .i64 many,.int .i64 (0:Nat)],⟨[.arr vr 118 2 [eBy code,.int .i64 (q:Int)]],t⟩,?_,?_,0,p,q,t,rfl,by omega,hp,rfl,by omega,rfl,rfl⟩
  ·simp [-qU,Store.frz,zbz,zci,zap,zbb,zba,zbe,zcb,zax,zau,zay,zao,zaq,zbh,zaz,zbf,zaw,Env.put,Env.of,zaf,zbg,qP,qC,zdd,zem,zdf]
  simp [-qU,Store.frz,zbz,zci,zap,zbb,zba,zbe,zcb,zax,zau,zay,zao,zaq,zbh,zaz,zbf,zaw,Env.put,Env.of,zaf,zbg,qP,qC,zdd,zem,zdf]
 rintro n vs S - ⟨i,p2,q2,tk,rfl,h_i,hp2,hl2,hq2,rfl,rfl⟩
 refine W.seq ?_
 refine W.r fun K hK=>?_
 simp(disch:=omega)only[↓RU,RV,RH,↓reduceIte,qE,reduceCtorEq,if_pos,w64,↓RS,RG,qA,qM,qL,zaa]
 apply hK;clear hK K
 refine W.cond rfl (fun h=>?_) (fun h=>?_)
 ·try simp only[RL]at h
  have hs2:=z0a hp2
  have hr9:=zrg hp2
  have hrb:=zdl p2
  refine W.skip ?_
  refine xn ?_
  refine W.seq ?_
  refine W.block ?_
  refine W.r fun K hK=>?_
  simp(disch:=omega)only[↓RU,RV,RH,↓reduceIte,qE,reduceCtorEq,if_pos,qN,↓RS,RG,qA,qM,qL]
  refine zad.pc (zgs hs2) rfl (.inl rfl) ?_
  simp(disch:=omega)only[↓RU,RV,RH,↓reduceIte,qE,reduceCtorEq,if_pos,qN,↓RS,RG,qA,qM,qL]
  refine zad.ev (zfp hc (by omega) (zas p2) (by omega) (by omega)) ?_
  rintro _ _ ⟨k1,rfl,-,-,rfl⟩
  simp(disch:=omega)only[↓RU,RV,RH,↓reduceIte,qE,reduceCtorEq,if_pos,qN,↓RS,RG,qA,qM,qL]
  apply hK;clear hK K
  refine W.r fun K hK=>?_
  simp(disch:=omega)only[↓RU,RV,RH,↓reduceIte,qE,reduceCtorEq,if_pos,qN,w64,↓RS,RG,qA,qM,qL,ty6,zaa,zac]
  refine zad.ev (yhc (R:=[]) (l:=[[104],[118]]) hc (by omega) (by simp) (by simp)) ?_
  rintro _ _ ⟨s,hsm,rfl,rfl⟩
  have hsl:=yc3 hsm
  simp(disch:=omega)only[↓RU,RV,RH,↓reduceIte,qE,reduceCtorEq,if_pos,qN,w64,↓RS,RG,qA,qM,qL,ty6,zaa,zac]
  refine zad.ev (zfp (q:=q2+1+1) hc (by omega) 3 (by omega) (by omega)) ?_
  rintro _ _ ⟨k2,rfl,-,hk2,rfl⟩
  have hk3:=hk2 (by omega)
  simp(disch:=omega)only[↓RU,RV,RH,↓reduceIte,qE,reduceCtorEq,if_pos,qN,w64,↓RS,RG,qA,qM,qL,ty6,zaa,zac]
  refine zad.pc (zo1 hs2 k1 hsl (1+k2)) rfl (.inr rfl) ?_
  simp(disch:=omega)only[↓RU,RV,RH,↓reduceIte,qE,reduceCtorEq,if_pos,qN,w64,↓RS,RG,qA,qM,qL,ty6,zaa,zac]
  apply hK;clear hK K
  refine W.r fun K hK=>?_
  simp(disch:=omega)only[↓RU,RV,RH,↓reduceIte,qE,reduceCtorEq,if_pos,↓RS,RG,qA,qM,qL]
  apply hK;clear hK K
  refine W.cond rfl (fun h1=>?_) (fun h1=>?_)
  ·try simp only[RL]at h1
   obtain ⟨ho1,ho2⟩:=zyu h1
   refine W.k fun K hK=>?_
   simp(disch:=omega)only[↓RU,RV,RH,↓reduceIte,qE,reduceCtorEq,if_pos,↓RS,RG,qA,qM,qL]
   apply hK;clear hK K
   refine XbN ?_
   refine xn ?_
   refine W.k fun K hK=>?_
   simp(disch:=omega)only[↓RU,RV,RH,↓reduceIte,qE,reduceCtorEq,if_pos,w64,↓RS,RG,qA,qM,qL,zaa]
   apply hK;clear hK K
   refine xn ?_
   refine ⟨many - (i+1),by omega,1,[.ref 0 vr 0,zak (zfw p2 k1 s (1+k2)).1,.int .i64 many,.int .i64 ((i+1:Nat):Int)],⟨[.arr vr 118 2 [eBy code,.int .i64 ((q2+1+1+1:Nat):Int)]],tk+1⟩,?_,?_,i+1,(zfw p2 k1 s (1+k2)).1,q2+1+1+1,tk+1,rfl,by omega,ho1,ho2.trans hl2,by omega,rfl,rfl⟩
   ·simp [-qU,Store.frz,zbz,zci,zap,zbb,zba,zbe,zcb,zax,zau,zay,zao,zaq,zbh,zaz,zbf,zaw,Env.put,Env.of,zaf,zbg,qP,qC,zdd,zem,zdf]
   simp [-qU,Store.frz,zbz,zci,zap,zbb,zba,zbe,zcb,zax,zau,zay,zao,zaq,zbh,zaz,zbf,zaw,Env.put,Env.of,zaf,zbg,qP,qC,zdd,zem,zdf]
  try simp only[RL]at h1
  refine W.skip ?_
  refine XbN ?_
  refine xn ?_
  refine W.k fun K hK=>?_
  simp(disch:=omega)only[↓RU,RV,RH,↓reduceIte,qE,reduceCtorEq,if_pos,w64,↓RS,RG,qA,qM,qL,zaa]
  apply hK;clear hK K
  refine xn ?_
  refine ⟨many - (i+1),by omega,1,[.ref 0 vr 0,zak p2,.int .i64 many,.int .i64 ((i+1:Nat):Int)],⟨[.arr vr 118 2 [eBy code,.int .i64 ((q2+1+1+1:Nat):Int)]],tk+1⟩,?_,?_,i+1,p2,q2+1+1+1,tk+1,rfl,by omega,hp2,hl2,by omega,rfl,rfl⟩
  ·simp [-qU,Store.frz,zbz,zci,zap,zbb,zba,zbe,zcb,zax,zau,zay,zao,zaq,zbh,zaz,zbf,zaw,Env.put,Env.of,zaf,zbg,qP,qC,zdd,zem,zdf]
  simp [-qU,Store.frz,zbz,zci,zap,zbb,zba,zbe,zcb,zax,zau,zay,zao,zaq,zbh,zaz,zbf,zaw,Env.put,Env.of,zaf,zbg,qP,qC,zdd,zem,zdf]
 try simp only[RL]at h
 obtain rfl:i=many:=by omega
 refine W.exit ?_
 refine xe ?_
 refine xe ?_
 refine XBlock.hit ?_
 refine xn ?_
 refine W.r fun K hK=>?_
 simp(disch:=omega)only[↓RU,RV,RH,↓reduceIte,qE,reduceCtorEq,if_pos,↓RS,RG,qA,qM,qL]
 apply hK;clear hK K
 refine W.ret ?_
 refine Br rfl ?_
 exact ⟨_,p2,q2,tk,rfl,hp2,hl2,by omega,zai⟩
theorem z3v {nh nw:Nat} (h1:1≤nh) (h2:nh≤6) (w1:1≤nw) (w2:nw≤6):zb1 (List.replicate nh (List.replicate nw (97:UInt8)))=true:=by
 rcases (show nh=1∨nh=2∨nh=3∨nh=4∨nh=5∨nh=6 by omega) with rfl | rfl | rfl | rfl | rfl | rfl <;>
 rcases (show nw=1∨nw=2∨nw=3∨nw=4∨nw=5∨nw=6 by omega) with rfl | rfl | rfl | rfl | rfl | rfl <;> decide +kernel
def yh3:List Txt:=[[97,97,98],[99,100,98],[99,101,101]]
def yh4:List Txt:=[[97,97,97,98],[99,100,100,98],[99,100,100,98],[99,101,101,101]]
theorem z0r:zb1 yh3=true:=by decide +kernel
theorem z0s:zb1 yh4=true:=by decide +kernel
theorem z4b {code:Txt} {q vr t:Nat} (hc:code.length≤1048576) (hq:q≤800000) {nh nw:Nat} (h1:1≤nh) (h2:nh≤6) (w1:1≤nw) (w2:nw≤6):Ev Tryz.prog 146 [.ref 0 vr 0,.int .i64 nh,.int .i64 nw] ⟨[.arr vr 118 2 [eBy code,.int .i64 (q:Int)]],t⟩ fun v S=>∃ (p2:List Txt) (q2 t2:Nat),v=zak p2∧zb1 p2=true∧p2.length=nh∧q2≤q+100∧S=⟨[.arr vr 118 2 [eBy code,.int .i64 (q2:Int)]],t2⟩:=by
 refine Ev.of ⟨Tryz.func146,by kernel_rfl,rfl,by kernel_rfl⟩ zan mixed (by show 3≤Tryz.f146.ntmps; decide) ?_
 refine W.r fun K hK=>?_
 simp(disch:=omega)only[↓RU,RV,RH,↓reduceIte,qE,reduceCtorEq,if_pos,↓RS,RG,qA,qM,qL]
 apply hK;clear hK K
 refine W.seq ?_
 refine W.join [0,1,2,17] (fun vs S=>∃ (q2:Nat) (b:Bool),q2≤q+1∧(b=true→nh=3)∧vs=[.ref 0 vr 0,.int .i64 nh,.int .i64 nw,.bool b]∧S=⟨[.arr vr 118 2 [eBy code,.int .i64 (q2:Int)]],t⟩) ?_ ?_
 ·
  refine W.k fun K hK=>?_
  rcases hd:(((nh:Int) == 3),((nw:Int) == 3)) with ⟨_ | _,_ | _⟩
  ·skip
   simp only[Prod.mk.injEq]at hd
   obtain ⟨hd1,hd2⟩:=hd
   simp(disch:=omega)only[↓RU,RV,RH,↓reduceIte,qE,reduceCtorEq,if_pos,w64,qN,↓RS,RG,qA,qM,qL,zaa,hd1,hd2]
   apply hK;clear hK K
   refine xn ?_
   refine ⟨_,q,false,by omega,fun h9=>(by cases h9),?_,zai⟩
   simp [Env.put,Env.of,zaf]
  ·skip
   simp only[Prod.mk.injEq]at hd
   obtain ⟨hd1,hd2⟩:=hd
   simp(disch:=omega)only[↓RU,RV,RH,↓reduceIte,qE,reduceCtorEq,if_pos,w64,qN,↓RS,RG,qA,qM,qL,zaa,hd1,hd2]
   apply hK;clear hK K
   refine xn ?_
   refine ⟨_,q,false,by omega,fun h9=>(by cases h9),?_,zai⟩
   simp [Env.put,Env.of,zaf]
  ·skip
   simp only[Prod.mk.injEq]at hd
   obtain ⟨hd1,hd2⟩:=hd
   simp(disch:=omega)only[↓RU,RV,RH,↓reduceIte,qE,reduceCtorEq,if_pos,w64,qN,↓RS,RG,qA,qM,qL,zaa,hd1,hd2]
   apply hK;clear hK K
   refine xn ?_
   refine ⟨_,q,false,by omega,fun h9=>(by cases h9),?_,zai⟩
   simp [Env.put,Env.of,zaf]
  skip
  simp only[Prod.mk.injEq]at hd
  obtain ⟨hd1,hd2⟩:=hd
  simp(disch:=omega)only[↓RU,RV,RH,↓reduceIte,qE,reduceCtorEq,if_pos,w64,qN,↓RS,RG,qA,qM,qL,zaa,hd1,hd2]
  refine zad.ev (zfp (q:=q) hc (by omega) 2 (by omega) (by omega)) ?_
  rintro _ _ ⟨k1,rfl,-,hk1,rfl⟩
  have hk1b:=hk1 (by omega)
  simp(disch:=omega)only[↓RU,RV,RH,↓reduceIte,qE,reduceCtorEq,if_pos,w64,qN,↓RS,RG,qA,qM,qL,zaa,hd1,hd2]
  apply hK;clear hK K
  refine xn ?_
  refine ⟨_,q+1,((k1:Int) == 0),by omega,fun _=>(by have:=beq_iff_eq.1 hd1; omega),?_,zai⟩
  simp [Env.put,Env.of,zaf]
 rintro vs S - ⟨qa,b3,hqa,hb3,rfl,rfl⟩
 refine W.cond rfl (fun h3=>?_) (fun h3=>?_)
 ·try simp only[RL]at h3
  refine W.r fun K hK=>?_
  simp(disch:=omega)only[↓RU,RV,RH,↓reduceIte,qE,reduceCtorEq,if_pos,qN,↓RS,RG,qA,qM,qL,ty6,zac]
  refine zad.ev (zfp (q:=qa) hc (by omega) 2 (by omega) (by omega)) ?_
  rintro _ _ ⟨k1,rfl,-,hk1,rfl⟩
  have hk1b:=hk1 (by omega)
  simp(disch:=omega)only[↓RU,RV,RH,↓reduceIte,qE,reduceCtorEq,if_pos,qN,↓RS,RG,qA,qM,qL,ty6,zac]
  refine zad.ev (ztb (q:=qa+1) (R:=[]) hc (by omega) z0r (many:=k1) (by omega)) ?_
  rintro _ _ ⟨p2,q2,t2,rfl,hp2,hl2,hq2,rfl⟩
  simp(disch:=omega)only[↓RU,RV,RH,↓reduceIte,qE,reduceCtorEq,if_pos,qN,↓RS,RG,qA,qM,qL,ty6,zac]
  apply hK;clear hK K
  refine W.ret ?_
  refine XThen.ret ?_
  refine Br rfl ?_
  exact ⟨_,p2,q2,t2,rfl,hp2,hl2.trans (hb3 h3).symm,by omega,zai⟩
 try simp only[RL]at h3
 refine W.skip ?_
 refine xn ?_
 refine W.seq ?_
 refine W.join [0,1,2,33] (fun vs S=>∃ (q2:Nat) (b:Bool),q2≤q+2∧(b=true→nh=4)∧vs=[.ref 0 vr 0,.int .i64 nh,.int .i64 nw,.bool b]∧S=⟨[.arr vr 118 2 [eBy code,.int .i64 (q2:Int)]],t⟩) ?_ ?_
 ·
  refine W.k fun K hK=>?_
  rcases hd:(((nh:Int) == 4),((nw:Int) == 4)) with ⟨_ | _,_ | _⟩
  ·skip
   simp only[Prod.mk.injEq]at hd
   obtain ⟨hd1,hd2⟩:=hd
   simp(disch:=omega)only[↓RU,RV,RH,↓reduceIte,qE,reduceCtorEq,if_pos,w64,qN,↓RS,RG,qA,qM,qL,zaa,hd1,hd2]
   apply hK;clear hK K
   refine xn ?_
   refine ⟨_,qa,false,by omega,fun h9=>(by cases h9),?_,zai⟩
   simp [Env.put,Env.of,zaf]
  ·skip
   simp only[Prod.mk.injEq]at hd
   obtain ⟨hd1,hd2⟩:=hd
   simp(disch:=omega)only[↓RU,RV,RH,↓reduceIte,qE,reduceCtorEq,if_pos,w64,qN,↓RS,RG,qA,qM,qL,zaa,hd1,hd2]
   apply hK;clear hK K
   refine xn ?_
   refine ⟨_,qa,false,by omega,fun h9=>(by cases h9),?_,zai⟩
   simp [Env.put,Env.of,zaf]
  ·skip
   simp only[Prod.mk.injEq]at hd
   obtain ⟨hd1,hd2⟩:=hd
   simp(disch:=omega)only[↓RU,RV,RH,↓reduceIte,qE,reduceCtorEq,if_pos,w64,qN,↓RS,RG,qA,qM,qL,zaa,hd1,hd2]
   apply hK;clear hK K
   refine xn ?_
   refine ⟨_,qa,false,by omega,fun h9=>(by cases h9),?_,zai⟩
   simp [Env.put,Env.of,zaf]
  skip
  simp only[Prod.mk.injEq]at hd
  obtain ⟨hd1,hd2⟩:=hd
  simp(disch:=omega)only[↓RU,RV,RH,↓reduceIte,qE,reduceCtorEq,if_pos,w64,qN,↓RS,RG,qA,qM,qL,zaa,hd1,hd2]
  refine zad.ev (zfp (q:=qa) hc (by omega) 2 (by omega) (by omega)) ?_
  rintro _ _ ⟨k1,rfl,-,hk1,rfl⟩
  have hk1b:=hk1 (by omega)
  simp(disch:=omega)only[↓RU,RV,RH,↓reduceIte,qE,reduceCtorEq,if_pos,w64,qN,↓RS,RG,qA,qM,qL,zaa,hd1,hd2]
  apply hK;clear hK K
  refine xn ?_
  refine ⟨_,qa+1,((k1:Int) == 0),by omega,fun _=>(by have:=beq_iff_eq.1 hd1; omega),?_,zai⟩
  simp [Env.put,Env.of,zaf]
 rintro vs S - ⟨qb,b4,hqb,hb4,rfl,rfl⟩
 refine W.cond rfl (fun h4=>?_) (fun h4=>?_)
 ·try simp only[RL]at h4
  refine W.r fun K hK=>?_
  simp(disch:=omega)only[↓RU,RV,RH,↓reduceIte,qE,reduceCtorEq,if_pos,qN,↓RS,RG,qA,qM,qL,ty6,zac]
  refine zad.ev (zfp (q:=qb) hc (by omega) 4 (by omega) (by omega)) ?_
  rintro _ _ ⟨k2,rfl,-,hk2,rfl⟩
  have hk2b:=hk2 (by omega)
  simp(disch:=omega)only[↓RU,RV,RH,↓reduceIte,qE,reduceCtorEq,if_pos,qN,↓RS,RG,qA,qM,qL,ty6,zac]
  refine zad.ev (ztb (q:=qb+1) (R:=[]) hc (by omega) z0s (many:=k2) (by omega)) ?_
  rintro _ _ ⟨p2,q2,t2,rfl,hp2,hl2,hq2,rfl⟩
  simp(disch:=omega)only[↓RU,RV,RH,↓reduceIte,qE,reduceCtorEq,if_pos,qN,↓RS,RG,qA,qM,qL,ty6,zac]
  apply hK;clear hK K
  refine W.ret ?_
  refine XThen.ret ?_
  refine Br rfl ?_
  exact ⟨_,p2,q2,t2,rfl,hp2,hl2.trans (hb4 h4).symm,by omega,zai⟩
 try simp only[RL]at h4
 refine W.skip ?_
 refine xn ?_
 refine W.r fun K hK=>?_
 simp(disch:=omega)only[↓RU,RV,RH,↓reduceIte,qE,reduceCtorEq,if_pos,qN,↓RS,RG,qA,qM,qL]
 refine zad.pc (zz1 (nh:=nh) (nw:=nw) (by omega) (by omega)) rfl (.inl rfl) ?_
 simp(disch:=omega)only[↓RU,RV,RH,↓reduceIte,qE,reduceCtorEq,if_pos,qN,↓RS,RG,qA,qM,qL]
 refine zad.ev (zfp (q:=qb) hc (by omega) 9 (by omega) (by omega)) ?_
 rintro _ _ ⟨k3,rfl,-,hk3,rfl⟩
 have hk3b:=hk3 (by omega)
 simp(disch:=omega)only[↓RU,RV,RH,↓reduceIte,qE,reduceCtorEq,if_pos,qN,↓RS,RG,qA,qM,qL]
 refine zad.ev (z7f (q:=qb+1) (R:=[]) hc (by omega) (z3v h1 h2 w1 w2) (many:=k3) (by omega)) ?_
 rintro _ _ ⟨p2,q2,t2,rfl,hp2,hl2,hq2,rfl⟩
 simp(disch:=omega)only[↓RU,RV,RH,↓reduceIte,qE,reduceCtorEq,if_pos,qN,↓RS,RG,qA,qM,qL]
 apply hK;clear hK K
 refine W.ret ?_
 refine Br rfl ?_
 exact ⟨_,p2,q2,t2,rfl,hp2,by simpa using hl2,by omega,zai⟩
theorem ydu {p:List Txt} (h:Sm p) {i:Nat} {r:Txt} (hr:r.length≤1048576):Sm (p.set i r):=by
 refine ⟨by rw [List.length_set]; exact h.1,fun x hx=>?_⟩
 rcases List.mem_or_eq_of_mem_set hx with k | rfl
 ·exact h.2 x k
 exact hr
theorem yhl {p:List Txt} {x:Txt} (h:0<p.length):PV.str x::List.drop 1 (p.map PV.str)=(p.set 0 x).map .str:=by cases p with | nil=>simp at h | cons a p=>simp
theorem z72 {k:Nat}:(1:Int)+(k:Int)=((1+k:Nat):Int):=by omega
theorem ztc {code:Txt} {q vr t:Nat} (hc:code.length≤1048576) (hq:q≤700000) {rows cols:Nat} (h1:1≤rows) (h2:rows≤6) (w1:1≤cols) (w2:cols≤6):Ev Tryz.prog 110 [.ref 0 vr 0,.int .i64 rows,.int .i64 cols] ⟨[.arr vr 118 2 [eBy code,.int .i64 (q:Int)]],t⟩ fun v S=>∃ (p2:List Txt) (q2 t2:Nat),v=zak p2∧Sm p2∧p2.length≤6∧q2≤q+200∧S=⟨[.arr vr 118 2 [eBy code,.int .i64 (q2:Int)]],t2⟩:=by
 refine Ev.of ⟨Tryz.func110,by kernel_rfl,rfl,by kernel_rfl⟩ zan mixed (by show 3≤Tryz.f110.ntmps; decide) ?_
 refine W.r fun K hK=>?_
 simp(disch:=omega)only[↓RU,RV,RH,↓reduceIte,qE,reduceCtorEq,if_pos,↓RS,RG,qA,qM,qL]
 apply hK;clear hK K
 refine W.r fun K hK=>?_
 simp(disch:=omega)only[↓RU,RV,RH,↓reduceIte,qE,reduceCtorEq,if_pos,qN,w64,↓RS,RG,qA,qM,qL,zaa]
 refine zad.ev (zfp hc (by omega) (rows:Int) (by omega) (by omega)) ?_
 rintro _ _ ⟨k1,rfl,-,hk1,rfl⟩
 have hk1b:=hk1 (by omega)
 simp(disch:=omega)only[↓RU,RV,RH,↓reduceIte,qE,reduceCtorEq,if_pos,qN,w64,↓RS,RG,qA,qM,qL,zaa,z72]
 apply hK;clear hK K
 refine W.r fun K hK=>?_
 simp(disch:=omega)only[↓RU,RV,RH,↓reduceIte,qE,reduceCtorEq,if_pos,qN,w64,↓RS,RG,qA,qM,qL,zaa]
 refine zad.ev (zfp hc (by omega) (cols:Int) (by omega) (by omega)) ?_
 rintro _ _ ⟨k2,rfl,-,hk2,rfl⟩
 have hk2b:=hk2 (by omega)
 simp(disch:=omega)only[↓RU,RV,RH,↓reduceIte,qE,reduceCtorEq,if_pos,qN,w64,↓RS,RG,qA,qM,qL,zaa,z72]
 refine zad.ev (z4b (q:=q+1+1) hc (by omega) (nh:=1+k1) (nw:=1+k2) (by omega) (by omega) (by omega) (by omega)) ?_
 rintro _ _ ⟨p2,q2,t2,rfl,hp2,hl2,hq2,rfl⟩
 simp(disch:=omega)only[↓RU,RV,RH,↓reduceIte,qE,reduceCtorEq,if_pos,qN,w64,↓RS,RG,qA,qM,qL,zaa]
 apply hK;clear hK K
 obtain ⟨ps1,ps2,ps3⟩:=znx hp2
 have hsm:=z0a hp2
 obtain ⟨nh,hnh⟩:∃ nh:Nat,1+k1=nh:=⟨_,rfl⟩
 simp only[hnh]at hl2 ⊢
 refine W.joinZ [8] (fun vs S=>∃ (p3:List Txt) (q3 tk:Nat),Sm p3∧p3.length≤6∧q3≤q+200∧vs=[zak p3]∧S=⟨[.arr vr 118 2 [eBy code,.int .i64 (q3:Int)]],tk⟩) ?_ ?_
 ·
  refine W.r fun K hK=>?_
  simp(disch:=omega)only[↓RU,RV,RH,↓reduceIte,qE,reduceCtorEq,if_pos,qN,↓RS,RG,qA,qM,qL]
  refine zad.ev (zfp hc (by omega) 50 (by omega) (by omega)) ?_
  rintro _ _ ⟨k3,rfl,-,hk3,rfl⟩
  simp(disch:=omega)only[↓RU,RV,RH,↓reduceIte,qE,reduceCtorEq,if_pos,qN,↓RS,RG,qA,qM,qL]
  apply hK;clear hK K
  refine W.block ?_
  refine W.r fun K hK=>?_
  simp(disch:=omega)only[↓RU,RV,RH,↓reduceIte,qE,reduceCtorEq,if_pos,w64,↓RS,RG,qA,qM,qL,zaa]
  apply hK;clear hK K
  refine W.cond rfl (fun h0=>?_) (fun h0=>?_)
  ·try simp only[RL]at h0
   obtain ⟨row,hrow,hrm⟩:=zae (show nh - 1<p2.length by omega)
   have hr6:=(ps3 row hrm).2
   refine W.r fun K hK=>?_
   simp(disch:=omega)only[↓RU,RV,RH,↓reduceIte,qE,reduceCtorEq,if_pos,↓RS,RG,qA,qM,qL,ty6,zac]
   apply hK;clear hK K
   refine W.k fun K hK=>?_
   simp(disch:=omega)only[↓RU,RV,RH,↓reduceIte,qE,reduceCtorEq,if_pos,w64,↓RS,RG,qA,qM,qL,ty6,zaa,zac,za8,hrow,zy6,zbp,zru,zi8,List.length_cons,List.length_nil]
   apply hK;clear hK K
   refine XbN ?_
   refine xn ?_
   have hPs:Sm (p2.set (nh - 1) (row++[97])):=ydu hsm (by simp; omega)
   have hPl:(p2.set (nh - 1) (row++[97])).length=p2.length:=by simp
   generalize p2.set (nh - 1) (row++[97])=P at hPs hPl ⊢
   have htk:(P.map PV.str).take p2.length=P.map .str:=qT (by simp [hPl])
   refine ⟨1,[zak P],⟨[.arr vr 118 2 [eBy code,.int .i64 ((q2+1:Nat):Int)]],t2+1+1⟩,?_,?_,P,q2+1,t2+1+1,hPs,by omega,by omega,rfl,rfl⟩
   ·simp [-qU,Store.frz,zbz,zci,zap,zbb,zba,zbe,zcb,zax,zau,zay,zao,zaq,zbh,zaz,zbf,zaw,Env.put,Env.of,zaf,zbg,qP,qC,zdd,zem,zdf,htk,hPl]
   simp [-qU,Store.frz,zbz,zci,zap,zbb,zba,zbe,zcb,zax,zau,zay,zao,zaq,zbh,zaz,zbf,zaw,Env.put,Env.of,zaf,zbg,qP,qC,zdd,zem,zdf]
  try simp only[RL]at h0
  refine W.r fun K hK=>?_
  simp(disch:=omega)only[↓RU,RV,RH,↓reduceIte,qE,reduceCtorEq,if_pos,w64,↓RS,RG,qA,qM,qL,zaa]
  apply hK;clear hK K
  refine W.cond rfl (fun h1=>?_) (fun h1=>?_)
  ·try simp only[RL]at h1
   obtain ⟨row,hrow,hrm⟩:=zae (show 0<p2.length by omega)
   have hr6:=ps3 row hrm
   have hdl:(row.drop 1).length≤6:=by rw [List.length_drop]; omega
   refine W.r fun K hK=>?_
   simp(disch:=omega)only[↓RU,RV,RH,↓reduceIte,qE,reduceCtorEq,if_pos,↓RS,RG,qA,qM,qL,ty6,zac]
   apply hK;clear hK K
   refine W.k fun K hK=>?_
   simp(disch:=omega)only[↓RU,RV,RH,↓reduceIte,qE,reduceCtorEq,if_pos,Option.map_none,w64,↓RS,RG,qA,qM,qL,ty6,zac,hrow,zy6,zbp,zru,zi8,List.length_cons,List.length_nil,Int.toNat_zero,qZ,List.take_length,Nat.zero_mul,Nat.zero_add]
   apply hK;clear hK K
   rw [yhl (show 0<p2.length by omega)]
   refine XbN ?_
   refine xn ?_
   have hPs:Sm (p2.set 0 (122::row.drop 1)):=ydu hsm (by simp; omega)
   have hPl:(p2.set 0 (122::row.drop 1)).length=p2.length:=by simp
   generalize p2.set 0 (122::row.drop 1)=P at hPs hPl ⊢
   have htk:(P.map PV.str).take p2.length=P.map .str:=qT (by simp [hPl])
   refine ⟨1,[zak P],⟨[.arr vr 118 2 [eBy code,.int .i64 ((q2+1:Nat):Int)]],t2+1+1⟩,?_,?_,P,q2+1,t2+1+1,hPs,by omega,by omega,rfl,rfl⟩
   ·simp [-qU,Store.frz,zbz,zci,zap,zbb,zba,zbe,zcb,zax,zau,zay,zao,zaq,zbh,zaz,zbf,zaw,Env.put,Env.of,zaf,zbg,qP,qC,zdd,zem,zdf,htk,hPl]
   simp [-qU,Store.frz,zbz,zci,zap,zbb,zba,zbe,zcb,zax,zau,zay,zao,zaq,zbh,zaz,zbf,zaw,Env.put,Env.of,zaf,zbg,qP,qC,zdd,zem,zdf]
  try simp only[RL]at h1
  refine W.skip ?_
  refine XbN ?_
  refine xn ?_
  have hPs:=hsm
  have hPl:p2.length=p2.length:=rfl
  have htk:True:=trivial
  refine ⟨1,[zak p2],⟨[.arr vr 118 2 [eBy code,.int .i64 ((q2+1:Nat):Int)]],t2⟩,?_,?_,p2,q2+1,t2,hPs,by omega,by omega,rfl,rfl⟩
  ·simp [-qU,Store.frz,zbz,zci,zap,zbb,zba,zbe,zcb,zax,zau,zay,zao,zaq,zbh,zaz,zbf,zaw,Env.put,Env.of,zaf,zbg,qP,qC,zdd,zem,zdf,htk,hPl]
  simp [-qU,Store.frz,zbz,zci,zap,zbb,zba,zbe,zcb,zax,zau,zay,zao,zaq,zbh,zaz,zbf,zaw,Env.put,Env.of,zaf,zbg,qP,qC,zdd,zem,zdf]
 rintro vs S - ⟨p3,q3,tk,hs3,hl3,hq3,rfl,rfl⟩
 refine W.r fun K hK=>?_
 simp(disch:=omega)only[↓RU,RV,RH,↓reduceIte,qE,reduceCtorEq,if_pos,↓RS,RG,qA,qM,qL]
 apply hK;clear hK K
 refine W.ret ?_
 refine Br rfl ?_
 exact ⟨_,p3,q3,tk,rfl,hs3,hl3,hq3,zai⟩
theorem zz2 {code:Txt} {q vr t:Nat} (hc:code.length≤1048576) (hq:q≤600000) {rows cols:Nat} (h1:1≤rows) (h2:rows≤6) (w1:1≤cols) (w2:cols≤6):Ev Tryz.prog 56 [.ref 0 vr 0,.int .i64 rows,.int .i64 cols] ⟨[.arr vr 118 2 [eBy code,.int .i64 (q:Int)]],t⟩ fun v S=>∃ (p2:List Txt) (q2 t2:Nat),v=zak p2∧Sm p2∧p2.length≤6∧q2≤q+1000∧S=⟨[.arr vr 118 2 [eBy code,.int .i64 (q2:Int)]],t2⟩:=by
 refine Ev.of ⟨Tryz.func56,by kernel_rfl,rfl,by kernel_rfl⟩ zan mixed (by show 3≤Tryz.f56.ntmps; decide) ?_
 refine W.r fun K hK=>?_
 simp(disch:=omega)only[↓RU,RV,RH,↓reduceIte,qE,reduceCtorEq,if_pos,↓RS,RG,qA,qM,qL]
 apply hK;clear hK K
 refine W.r fun K hK=>?_
 simp(disch:=omega)only[↓RU,RV,RH,↓reduceIte,qE,reduceCtorEq,if_pos,qN,↓RS,RG,qA,qM,qL]
 refine zad.ev (ztc (q:=q) hc (by omega) h1 h2 w1 w2) ?_
 rintro _ _ ⟨p3,q3,t3,rfl,hs3,hl3,hq3,rfl⟩
 simp(disch:=omega)only[↓RU,RV,RH,↓reduceIte,qE,reduceCtorEq,if_pos,qN,↓RS,RG,qA,qM,qL]
 apply hK;clear hK K
 refine W.seq ?_
 refine W.r fun K hK=>?_
 simp(disch:=omega)only[↓RU,RV,RH,↓reduceIte,qE,reduceCtorEq,if_pos,↓RS,RG,qA,qM,qL]
 apply hK;clear hK K
 refine W.block ?_
 refine W.loop [0,1,2,7,8] (fun n vs S=>∃ (i:Nat) (p2:List Txt) (q2 tk:Nat),n=3 - i∧i≤3∧Sm p2∧p2.length≤6∧q2≤q+200+200*i∧vs=[.ref 0 vr 0,.int .i64 rows,.int .i64 cols,zak p2,.int .i64 i]∧S=⟨[.arr vr 118 2 [eBy code,.int .i64 (q2:Int)]],tk⟩) 3 ?_ ?_
 ·refine ⟨1,0,p3,q3,t3,rfl,by omega,hs3,hl3,by omega,?_,rfl⟩
  simp [Env.put,Env.of,zaf]
 rintro n vs S - ⟨i,p2,q2,tk,rfl,h_i,hs2,hl2,hq2,rfl,rfl⟩
 refine W.seq ?_
 refine W.r fun K hK=>?_
 by_cases hi3:i<3
 ·skip
  have hd:decide ((i:Int)<3)=true:=decide_eq_true (by omega)
  simp(disch:=omega)only[↓RU,RV,RH,↓reduceIte,qE,reduceCtorEq,if_pos,w64,qN,↓RS,RG,qA,qM,qL,zaa,hd]
  refine zad.pc (zm2 hs2) rfl (.inl rfl) ?_
  simp(disch:=omega)only[↓RU,RV,RH,↓reduceIte,qE,reduceCtorEq,if_pos,w64,qN,↓RS,RG,qA,qM,qL,zaa,hd]
  apply hK;clear hK K
  refine W.cond rfl (fun h=>?_) (fun h=>?_)
  ·try simp only[RL]at h
   refine W.skip ?_
   refine xn ?_
   refine W.seq ?_
   refine W.block ?_
   refine W.k fun K hK=>?_
   simp(disch:=omega)only[↓RU,RV,RH,↓reduceIte,qE,reduceCtorEq,if_pos,qN,↓RS,RG,qA,qM,qL]
   refine zad.ev (ztc (q:=q2) hc (by omega) h1 h2 w1 w2) ?_
   rintro _ _ ⟨p3,q3,t3,rfl,hs3,hl3,hq3,rfl⟩
   simp(disch:=omega)only[↓RU,RV,RH,↓reduceIte,qE,reduceCtorEq,if_pos,qN,↓RS,RG,qA,qM,qL]
   apply hK;clear hK K
   refine XbN ?_
   refine xn ?_
   refine W.k fun K hK=>?_
   simp(disch:=omega)only[↓RU,RV,RH,↓reduceIte,qE,reduceCtorEq,if_pos,w64,↓RS,RG,qA,qM,qL,zaa]
   apply hK;clear hK K
   refine xn ?_
   refine ⟨3 - (i+1),by omega,1,i+1,p3,q3,t3,rfl,by omega,hs3,hl3,by omega,?_,rfl⟩
   simp [Env.put,Env.of]
  try simp only[RL]at h
  refine W.exit ?_
  refine xe ?_
  refine xe ?_
  refine XBlock.hit ?_
  refine xn ?_
  refine W.r fun K hK=>?_
  simp(disch:=omega)only[↓RU,RV,RH,↓reduceIte,qE,reduceCtorEq,if_pos,↓RS,RG,qA,qM,qL]
  apply hK;clear hK K
  refine W.ret ?_
  refine Br rfl ?_
  exact ⟨_,p2,q2,tk,rfl,hs2,hl2,by omega,zai⟩
 skip
 have hd:decide ((i:Int)<3)=false:=decide_eq_false (by omega)
 simp(disch:=omega)only[↓RU,RV,RH,↓reduceIte,qE,reduceCtorEq,if_pos,w64,qN,↓RS,RG,qA,qM,qL,zaa,hd]
 apply hK;clear hK K
 refine W.cond rfl (fun h=>?_) (fun h=>?_)
 ·try simp only[RL]at h
  exact absurd h (by simp)
 try simp only[RL]at h
 refine W.exit ?_
 refine xe ?_
 refine xe ?_
 refine XBlock.hit ?_
 refine xn ?_
 refine W.r fun K hK=>?_
 simp(disch:=omega)only[↓RU,RV,RH,↓reduceIte,qE,reduceCtorEq,if_pos,↓RS,RG,qA,qM,qL]
 apply hK;clear hK K
 refine W.ret ?_
 refine Br rfl ?_
 exact ⟨_,p2,q2,tk,rfl,hs2,hl2,by omega,zai⟩
theorem yhu {k:Nat}:((k:Nat):Int).tdiv 23=((k / 23:Nat):Int):=(Int.ofNat_tdiv k 23).symm
theorem tw0:((23:Int)=0)=False:=by simp
theorem tk_i {l:List Int} {q:IntKind} {i:Nat} (h:l.length=i):(l.map (PV.int q)).take i=l.map (.int q):=qT (by simp [h])

theorem z18 {S:Store} {a b:Bool}:pEq tab S 4 (.bool a) (.bool b)=some (a == b):=rfl


theorem PN.ints0 {P:Program} {f:FuncId} {args:List PV} {l:List Int} {n:Nat} {im:Bool} (h:PN P f args (.loc 0 0 0 n) [.arr 0 3 1 (l.map (.int .i64))] im) (h1:args.mapM (reify ⟨[],0⟩ true 10)=some args) (hl:l.length=n):PC P f args (eInts l) true:=by
 refine PN.pc h h1 ?_
 subst hl
 simp only[z3n,List.map_cons,List.map_nil,znb,zv1,Nat.add_zero]
 exact zbw (k:=9) rfl (by simp) (zmc _)
theorem z5a {p:List Txt} (hv:zcz p=true):PC Tryz.prog 98 [(.agg [zhu (lfM p),zhu (abM p)]),.bm 99 (.agg [zhu (lfM p),zhu (abM p)])] (eInts (srt p false)) true∧PC Tryz.prog 98 [(.agg [zhu (lfM p),zhu (abM p)]),.bm 100 (.agg [zhu (lfM p),zhu (abM p)])] (eInts (srt p true)) true:=by
 have hok:=(zg2 hv).1
 have hn9:=zfm hok
 have hn1:=zh7 hok
 have hlq:=ydh hv
 have haq:=ycs hv
 have hp:za3 p=true:=by rw [← zbl]; exact hv
 obtain ⟨f,hf,hi⟩:=zky hp false
 obtain ⟨g,hg,hj⟩:=zky hp true
 exact ⟨PN.ints0 (zyt (bf:=bfK p false) hlq hn1 hn9 (fun a b ha hb=>z50 hlq haq ha hb) hf (fun z h1 h2=>z9k hf hi h1 h2)) rfl zir,
  PN.ints0 (zyt (bf:=bfK p true) hlq hn1 hn9 (fun a b ha hb=>zp7 hlq haq ha hb) hg (fun z h1 h2=>z9k hg hj h1 h2)) rfl zir⟩
theorem zno {l:List Int} (hl:l.length<2147483648) {x:Int} {i:Nat} (hx:l[i]?=some x) (hi:∀ (j:Nat),j<i→l[j]?≠some x):PC Tryz.prog 101 [eInts l,.int .i64 x] (.int .i64 i) true:=by
 refine PC.of ⟨Tryz.func101,by kernel_rfl,rfl,by kernel_rfl⟩ zan mixed (by show 2≤Tryz.f101.ntmps; decide) ?_
 refine W.r fun K hK=>?_
 simp(disch:=omega)only[↓RU,RV,RH,↓reduceIte,qE,reduceCtorEq,if_pos]
 apply hK;clear hK K
 refine W.seq ?_
 refine W.r fun K hK=>?_
 simp(disch:=omega)only[↓RU,RV,RH,↓reduceIte,qE,reduceCtorEq,if_pos,zab,zaa]
 apply hK;clear hK K
 refine W.block ?_
 refine W.loop [0,1,7,8] (fun n vs S=>∃ j:Nat,n=l.length - j∧j≤l.length∧(j≤i)∧vs=[eInts l,.int .i64 x,.int .i64 l.length,.int .i64 j]∧S=⟨[],0⟩) (l.length) ?_ ?_
 ·refine ⟨0,0,rfl,Nat.zero_le _,Nat.zero_le _,?_,rfl⟩
  simp [Env.put,Env.of,zaf]
 rintro n vs S - ⟨j,rfl,h_j,hji,rfl,rfl⟩
 refine W.r fun K hK=>?_
 simp(disch:=omega)only[↓RU,RV,RH,↓reduceIte,qE,reduceCtorEq,if_pos,w64,zaa]
 apply hK;clear hK K
 refine W.seq ?_
 refine W.cond rfl (fun h=>?_) (fun h=>?_)
 ·try simp only[RL]at h
  obtain ⟨y,hy,-⟩:=zae (show j<l.length by omega)
  refine W.skip ?_
  refine xn ?_
  refine W.seq ?_
  refine W.block ?_
  refine W.r fun K hK=>?_
  simp(disch:=omega)only[↓RU,RV,RH,↓reduceIte,qE,reduceCtorEq,if_pos]
  apply hK;clear hK K
  refine W.r fun K hK=>?_
  simp(disch:=omega)only[↓RU,RV,RH,↓reduceIte,qE,reduceCtorEq,if_pos,w64,zab,zaa,hy]
  apply hK;clear hK K
  refine W.cond rfl (fun h1=>?_) (fun h1=>?_)
  ·try simp only[RL]at h1
   have e:x=y:=by simpa using h1
   have hij:j=i:=by
    refine Classical.byContradiction fun k=>hi j (by omega) (by rw [hy,e])
   subst hij
   refine W.r fun K hK=>?_
   simp(disch:=omega)only[↓RU,RV,RH,↓reduceIte,qE,reduceCtorEq,if_pos]
   apply hK;clear hK K
   refine W.ret ?_
   refine XBlock.ret ?_
   refine XThen.ret ?_
   refine XThen.ret ?_
   refine XBlock.ret ?_
   refine XThen.ret ?_
   refine Br rfl ?_
   rfl
  try simp only[RL]at h1
  have hne:j≠i:=by rintro rfl; rw [hx]at hy; cases hy; simp at h1
  refine W.skip ?_
  refine XbN ?_
  refine xn ?_
  refine W.k fun K hK=>?_
  simp(disch:=omega)only[↓RU,RV,RH,↓reduceIte,qE,reduceCtorEq,if_pos,w64,zaa]
  apply hK;clear hK K
  refine xn ?_
  refine ⟨l.length - (j+1),by omega,0,j+1,rfl,by omega,by have:=hne; omega,?_,rfl⟩
  simp [Env.put,Env.of]
 try simp only[RL]at h
 exact absurd (za2 hx) (by omega)
theorem z8b {p:List Txt} (hv:zcz p=true):PN Tryz.prog 51 [(.agg [zhu (lfM p),zhu (abM p)])] (.loc 0 0 0 (rP p).length) [.arr 0 3 1 ((zca p).map (.int .i64))] false:=by
 have hok:=(zg2 hv).1
 have hn9:=zfm hok
 have hn1:=zh7 hok
 have hlq:=ydh hv
 have haq:=ycs hv
 have hp:za3 p=true:=by rw [← zbl]; exact hv
 obtain ⟨hs1,hs2⟩:=z5a hv
 have hl1:=zir (p:=p) (below:=false)
 have hl2:=zir (p:=p) (below:=true)
 have hpl:=zdm (p:=p)
 refine PN.of ⟨Tryz.func51,by kernel_rfl,rfl,by kernel_rfl⟩ zan mixed (by show 1≤Tryz.f51.ntmps; decide) ?_
 refine W.r fun K hK=>?_
 simp(disch:=omega)only[↓RU,RV,RH,↓reduceIte,qE,reduceCtorEq,if_pos,↓RS,RG,qA,qM,qL,ty0,ty3,zat,zhw,zfu,zhx]
 apply hK;clear hK K
 refine W.r fun K hK=>?_
 simp(disch:=omega)only[↓RU,RV,RH,↓reduceIte,qE,reduceCtorEq,if_pos,qN,↓RS,RG,qA,qM,qL,ty0,ty3,zat,zhw,zfu,zhx,zvg,List.isEmpty_nil,Bool.and_self]
 refine zad.pc (hs1) rfl (.inl rfl) ?_
 simp(disch:=omega)only[↓RU,RV,RH,↓reduceIte,qE,reduceCtorEq,if_pos,qN,↓RS,RG,qA,qM,qL,ty0,ty3,zat,zhw,zfu,zhx,zvg,List.isEmpty_nil,Bool.and_self]
 apply hK;clear hK K
 refine W.r fun K hK=>?_
 simp(disch:=omega)only[↓RU,RV,RH,↓reduceIte,qE,reduceCtorEq,if_pos,qN,↓RS,RG,qA,qM,qL,ty0,ty3,zat,zhw,zfu,zhx,zvg,List.isEmpty_nil,Bool.and_self]
 refine zad.pc (hs2) rfl (.inl rfl) ?_
 simp(disch:=omega)only[↓RU,RV,RH,↓reduceIte,qE,reduceCtorEq,if_pos,qN,↓RS,RG,qA,qM,qL,ty0,ty3,zat,zhw,zfu,zhx,zvg,List.isEmpty_nil,Bool.and_self]
 apply hK;clear hK K
 refine W.joinS [3,4,5] (fun vs S=>∃ t tk:Nat,vs=[eInts (srt p false),eInts (srt p true),.loc 0 t 0 (rP p).length]∧S=⟨[.arr t 3 1 ((List.replicate (rP p).length 0).map (.int .i64))],tk⟩) ?_ ?_
 ·
  refine W.k fun K hK=>?_
  simp(disch:=omega)only[↓RU,RV,RH,↓reduceIte,qE,reduceCtorEq,if_pos,↓RS,RG,qA,qM,qL,zab,zaa,hl2,zeo,zdk]
  apply hK;clear hK K
  refine xn ?_
  refine ⟨0,[1],[eInts (srt p false),eInts (srt p true),.loc 0 2 0 (rP p).length],⟨[.arr 2 3 1 ((List.replicate (rP p).length 0).map (.int .i64))],3⟩,?_,?_,2,3,rfl,rfl⟩
  ·simp [-qU,Env.put,Env.of,zaf,zcg,zam,zar,za1,za5,zco,zcp,zee,zcn,zbt,zcq,zed,zef,zbv,zbu,za6,zcm,zcr,zec,zbr,zbq,za4,zbs,zcl,zgf,qS,qP,qC,Store.cellsOf]
  simp [-qU,Env.put,Env.of,zaf,zcg,zam,zar,za1,za5,zco,zcp,zee,zcn,zbt,zcq,zed,zef,zbv,zbu,za6,zcm,zcr,zec,zbr,zbq,za4,zbs,zcl,zgf,qS,qP,qC,z8v]
 rintro vs S - ⟨t0,tk0,rfl,rfl⟩
 refine W.seq ?_
 refine W.r fun K hK=>?_
 simp(disch:=omega)only[↓RU,RV,RH,↓reduceIte,qE,reduceCtorEq,if_pos,↓RS,RG,qA,qM,qL,zab,zaa]
 apply hK;clear hK K
 refine W.block ?_
 refine W.loop [3,5,19,20,21] (fun n vs S=>∃ i t tk:Nat,n=(rP p).length - i∧i≤(rP p).length∧vs=[eInts (srt p false),.loc 0 t 0 (rP p).length,eInts (srt p true),.int .i64 (rP p).length,.int .i64 i]∧S=⟨[.arr t 3 1 (((zca p).take i++List.replicate ((rP p).length - i) 0).map (.int .i64))],tk⟩) (rP p).length ?_ ?_
 ·refine ⟨1,0,t0,tk0,rfl,by omega,?_,by simp [Store.take]⟩
  simp [Env.put,Env.of,zaf,hl2]
 rintro n vs S - ⟨i,t,tk,rfl,h_i,rfl,rfl⟩
 refine W.r fun K hK=>?_
 simp(disch:=omega)only[↓RU,RV,RH,↓reduceIte,qE,reduceCtorEq,if_pos,w64,↓RS,RG,qA,qM,qL,zaa]
 apply hK;clear hK K
 refine W.seq ?_
 refine W.cond rfl (fun h=>?_) (fun h=>?_)
 ·try simp only[RL]at h
  obtain ⟨a,ha,ha2,hsa⟩:=zn8 (below:=true) hp (show i<(rP p).length by omega)
  have hpa:=zve hp hsa
  have hix:=z9j (below:=false) hp ha
  have hin:∀ j,j<ahK p false a→(srt p false)[j]?≠some (a:Int):=fun j hj k=>by
   have k1:=za2 hix
   have k2:=za2 k
   rw [List.getElem?_eq_getElem k1]at hix
   rw [List.getElem?_eq_getElem k2]at k
   have:=zq0 (zyv hp) k1 k2 ((Option.some.inj hix).trans (Option.some.inj k).symm)
   omega
  have hol:((zca p).take i++List.replicate ((rP p).length - i) 0).length=(rP p).length:=by simp [hpl]; omega
  refine W.skip ?_
  refine xn ?_
  refine W.seq ?_
  refine W.block ?_
  refine W.r fun K hK=>?_
  simp(disch:=omega)only[↓RU,RV,RH,↓reduceIte,qE,reduceCtorEq,if_pos,↓RS,RG,qA,qM,qL,zab,zaa,hsa]
  apply hK;clear hK K
  refine W.k fun K hK=>?_
  simp(disch:=omega)only[↓RU,RV,RH,↓reduceIte,qE,reduceCtorEq,if_pos,qN,↓RS,RG,qA,qM,qL,zab,zaa,zbp,zc8,hol]
  refine zad.pc (zno (by omega) hix hin) rfl (.inl rfl) ?_
  simp(disch:=omega)only[↓RU,RV,RH,↓reduceIte,qE,reduceCtorEq,if_pos,qN,↓RS,RG,qA,qM,qL,zab,zaa,zbp,zc8,hol]
  apply hK;clear hK K
  refine XbN ?_
  refine xn ?_
  refine W.k fun K hK=>?_
  simp(disch:=omega)only[↓RU,RV,RH,↓reduceIte,qE,reduceCtorEq,if_pos,w64,↓RS,RG,qA,qM,qL,zaa]
  apply hK;clear hK K
  refine xn ?_
  refine ⟨(rP p).length - (i+1),by omega,1,i+1,t,tk,rfl,by omega,?_,?_⟩
  ·simp [Env.put,Env.of]
  rw [← hpl]; simp only[zav,zwm hpa]; rfl
 try simp only[RL]at h
 obtain rfl:i=(rP p).length:=by omega
 rw [qT (by omega),Nat.sub_self]
 simp only[List.replicate_zero,qN]
 refine W.exit ?_
 refine xe ?_
 refine xe ?_
 refine XBlock.hit ?_
 refine xn ?_
 refine W.r fun K hK=>?_
 simp(disch:=omega)only[↓RU,RV,RH,↓reduceIte,qE,reduceCtorEq,if_pos,↓RS,RG,qA,qM,qL]
 apply hK;clear hK K
 refine W.ret ?_
 refine Br rfl ?_
 exact z3a rfl (zvv _)
theorem ygi (p q r:Bool):p=false∨(p=true∧q=false)∨(p=true∧q=true∧r=false)∨(p=true∧q=true∧r=true):=by cases p <;> cases q <;> cases r <;> simp
theorem yhz (a b c d:Int):PC Tryz.prog 133 [(.agg [.int .i64 a,.int .i64 b,.int .i64 c,.int .i64 d])] (.bool (zyz a b c d)) true:=by
 refine PC.of ⟨Tryz.func133,by kernel_rfl,rfl,by kernel_rfl⟩ zan mixed (by show 1≤Tryz.f133.ntmps; decide) ?_
 refine W.r fun K hK=>?_
 simp(disch:=omega)only[↓RU,RV,RH,↓reduceIte,qE,reduceCtorEq,if_pos,↓RS,RG,qA,qM,qL,zcy,zaa]
 apply hK;clear hK K
 refine W.seq_draw (by kernel_rfl) fun K hK=>?_
 simp(disch:=omega)only[↓RU,RV,RH,↓reduceIte,qE,reduceCtorEq,if_pos,zu2,znq,↓RS,RG,qA,qM,qL,zcy,zaa,Int.toNat_zero,Nat.zero_mul,qZ,qM,Nat.zero_add,Nat.mul_one,List.getElem?_cons_zero,List.getElem?_cons_succ]
 apply hK;clear hK K
 refine W.r fun K hK=>?_
 rcases ygi (decide (b>max a d)) (decide (c<min a d)) (decide (a<d)) with g1 | ⟨g1,g2⟩ | ⟨g1,g2,g3⟩ | ⟨g1,g2,g3⟩
 ·skip
  simp(disch:=omega)only[↓RU,RV,RH,↓reduceIte,qE,reduceCtorEq,if_pos,w64,↓RS,RG,qA,qM,qL,zcy,zaa,Int.toNat_zero,Nat.zero_mul,qZ,qM,Nat.zero_add,Nat.mul_one,List.getElem?_cons_zero,List.getElem?_cons_succ,g1]
  apply hK;clear hK K
  refine W.r fun K hK=>?_
  rcases ygi (decide (b<min a d)) (decide (c>max a d)) (decide (a>d)) with f1 | ⟨f1,f2⟩ | ⟨f1,f2,f3⟩ | ⟨f1,f2,f3⟩
  ·skip
   simp(disch:=omega)only[↓RU,RV,RH,↓reduceIte,qE,reduceCtorEq,if_pos,w64,↓RS,RG,qA,qM,qL,zcy,zaa,Int.toNat_zero,Nat.zero_mul,qZ,qM,Nat.zero_add,Nat.mul_one,List.getElem?_cons_zero,List.getElem?_cons_succ,f1]
   apply hK;clear hK K
   refine W.r fun K hK=>?_
   simp(disch:=omega)only[↓RU,RV,RH,↓reduceIte,qE,reduceCtorEq,if_pos,↓RS,RG,qA,qM,qL,Int.toNat_zero,Nat.zero_mul,qZ,qM,Nat.zero_add,Nat.mul_one,List.getElem?_cons_zero,List.getElem?_cons_succ]
   apply hK;clear hK K
   refine W.ret ?_
   refine Br rfl ?_
   simp only[zyz, *,Bool.and_true,Bool.and_false,Bool.false_and,Bool.true_and,Bool.or_false,Bool.false_or,Bool.true_or]
   rfl
  ·skip
   simp(disch:=omega)only[↓RU,RV,RH,↓reduceIte,qE,reduceCtorEq,if_pos,w64,↓RS,RG,qA,qM,qL,zcy,zaa,Int.toNat_zero,Nat.zero_mul,qZ,qM,Nat.zero_add,Nat.mul_one,List.getElem?_cons_zero,List.getElem?_cons_succ,f1,f2]
   apply hK;clear hK K
   refine W.r fun K hK=>?_
   simp(disch:=omega)only[↓RU,RV,RH,↓reduceIte,qE,reduceCtorEq,if_pos,↓RS,RG,qA,qM,qL,Int.toNat_zero,Nat.zero_mul,qZ,qM,Nat.zero_add,Nat.mul_one,List.getElem?_cons_zero,List.getElem?_cons_succ]
   apply hK;clear hK K
   refine W.ret ?_
   refine Br rfl ?_
   simp only[zyz, *,Bool.and_true,Bool.and_false,Bool.false_and,Bool.true_and,Bool.or_false,Bool.false_or,Bool.true_or]
   rfl
  ·skip
   simp(disch:=omega)only[↓RU,RV,RH,↓reduceIte,qE,reduceCtorEq,if_pos,w64,↓RS,RG,qA,qM,qL,zcy,zaa,Int.toNat_zero,Nat.zero_mul,qZ,qM,Nat.zero_add,Nat.mul_one,List.getElem?_cons_zero,List.getElem?_cons_succ,f1,f2,f3]
   apply hK;clear hK K
   refine W.r fun K hK=>?_
   simp(disch:=omega)only[↓RU,RV,RH,↓reduceIte,qE,reduceCtorEq,if_pos,↓RS,RG,qA,qM,qL,Int.toNat_zero,Nat.zero_mul,qZ,qM,Nat.zero_add,Nat.mul_one,List.getElem?_cons_zero,List.getElem?_cons_succ]
   apply hK;clear hK K
   refine W.ret ?_
   refine Br rfl ?_
   simp only[zyz, *,Bool.and_true,Bool.and_false,Bool.false_and,Bool.true_and,Bool.or_false,Bool.false_or,Bool.true_or]
   rfl
  skip
  simp(disch:=omega)only[↓RU,RV,RH,↓reduceIte,qE,reduceCtorEq,if_pos,w64,↓RS,RG,qA,qM,qL,zcy,zaa,Int.toNat_zero,Nat.zero_mul,qZ,qM,Nat.zero_add,Nat.mul_one,List.getElem?_cons_zero,List.getElem?_cons_succ,f1,f2,f3]
  apply hK;clear hK K
  refine W.r fun K hK=>?_
  simp(disch:=omega)only[↓RU,RV,RH,↓reduceIte,qE,reduceCtorEq,if_pos,↓RS,RG,qA,qM,qL,Int.toNat_zero,Nat.zero_mul,qZ,qM,Nat.zero_add,Nat.mul_one,List.getElem?_cons_zero,List.getElem?_cons_succ]
  apply hK;clear hK K
  refine W.ret ?_
  refine Br rfl ?_
  simp only[zyz, *,Bool.and_true,Bool.and_false,Bool.false_and,Bool.true_and,Bool.or_false,Bool.false_or,Bool.true_or]
  rfl
 ·skip
  simp(disch:=omega)only[↓RU,RV,RH,↓reduceIte,qE,reduceCtorEq,if_pos,w64,↓RS,RG,qA,qM,qL,zcy,zaa,Int.toNat_zero,Nat.zero_mul,qZ,qM,Nat.zero_add,Nat.mul_one,List.getElem?_cons_zero,List.getElem?_cons_succ,g1,g2]
  apply hK;clear hK K
  refine W.r fun K hK=>?_
  rcases ygi (decide (b<min a d)) (decide (c>max a d)) (decide (a>d)) with f1 | ⟨f1,f2⟩ | ⟨f1,f2,f3⟩ | ⟨f1,f2,f3⟩
  ·skip
   simp(disch:=omega)only[↓RU,RV,RH,↓reduceIte,qE,reduceCtorEq,if_pos,w64,↓RS,RG,qA,qM,qL,zcy,zaa,Int.toNat_zero,Nat.zero_mul,qZ,qM,Nat.zero_add,Nat.mul_one,List.getElem?_cons_zero,List.getElem?_cons_succ,f1]
   apply hK;clear hK K
   refine W.r fun K hK=>?_
   simp(disch:=omega)only[↓RU,RV,RH,↓reduceIte,qE,reduceCtorEq,if_pos,↓RS,RG,qA,qM,qL,Int.toNat_zero,Nat.zero_mul,qZ,qM,Nat.zero_add,Nat.mul_one,List.getElem?_cons_zero,List.getElem?_cons_succ]
   apply hK;clear hK K
   refine W.ret ?_
   refine Br rfl ?_
   simp only[zyz, *,Bool.and_true,Bool.and_false,Bool.false_and,Bool.true_and,Bool.or_false,Bool.false_or,Bool.true_or]
   rfl
  ·skip
   simp(disch:=omega)only[↓RU,RV,RH,↓reduceIte,qE,reduceCtorEq,if_pos,w64,↓RS,RG,qA,qM,qL,zcy,zaa,Int.toNat_zero,Nat.zero_mul,qZ,qM,Nat.zero_add,Nat.mul_one,List.getElem?_cons_zero,List.getElem?_cons_succ,f1,f2]
   apply hK;clear hK K
   refine W.r fun K hK=>?_
   simp(disch:=omega)only[↓RU,RV,RH,↓reduceIte,qE,reduceCtorEq,if_pos,↓RS,RG,qA,qM,qL,Int.toNat_zero,Nat.zero_mul,qZ,qM,Nat.zero_add,Nat.mul_one,List.getElem?_cons_zero,List.getElem?_cons_succ]
   apply hK;clear hK K
   refine W.ret ?_
   refine Br rfl ?_
   simp only[zyz, *,Bool.and_true,Bool.and_false,Bool.false_and,Bool.true_and,Bool.or_false,Bool.false_or,Bool.true_or]
   rfl
  ·skip
   simp(disch:=omega)only[↓RU,RV,RH,↓reduceIte,qE,reduceCtorEq,if_pos,w64,↓RS,RG,qA,qM,qL,zcy,zaa,Int.toNat_zero,Nat.zero_mul,qZ,qM,Nat.zero_add,Nat.mul_one,List.getElem?_cons_zero,List.getElem?_cons_succ,f1,f2,f3]
   apply hK;clear hK K
   refine W.r fun K hK=>?_
   simp(disch:=omega)only[↓RU,RV,RH,↓reduceIte,qE,reduceCtorEq,if_pos,↓RS,RG,qA,qM,qL,Int.toNat_zero,Nat.zero_mul,qZ,qM,Nat.zero_add,Nat.mul_one,List.getElem?_cons_zero,List.getElem?_cons_succ]
   apply hK;clear hK K
   refine W.ret ?_
   refine Br rfl ?_
   simp only[zyz, *,Bool.and_true,Bool.and_false,Bool.false_and,Bool.true_and,Bool.or_false,Bool.false_or,Bool.true_or]
   rfl
  skip
  simp(disch:=omega)only[↓RU,RV,RH,↓reduceIte,qE,reduceCtorEq,if_pos,w64,↓RS,RG,qA,qM,qL,zcy,zaa,Int.toNat_zero,Nat.zero_mul,qZ,qM,Nat.zero_add,Nat.mul_one,List.getElem?_cons_zero,List.getElem?_cons_succ,f1,f2,f3]
  apply hK;clear hK K
  refine W.r fun K hK=>?_
  simp(disch:=omega)only[↓RU,RV,RH,↓reduceIte,qE,reduceCtorEq,if_pos,↓RS,RG,qA,qM,qL,Int.toNat_zero,Nat.zero_mul,qZ,qM,Nat.zero_add,Nat.mul_one,List.getElem?_cons_zero,List.getElem?_cons_succ]
  apply hK;clear hK K
  refine W.ret ?_
  refine Br rfl ?_
  simp only[zyz, *,Bool.and_true,Bool.and_false,Bool.false_and,Bool.true_and,Bool.or_false,Bool.false_or,Bool.true_or]
  rfl
 ·skip
  simp(disch:=omega)only[↓RU,RV,RH,↓reduceIte,qE,reduceCtorEq,if_pos,w64,↓RS,RG,qA,qM,qL,zcy,zaa,Int.toNat_zero,Nat.zero_mul,qZ,qM,Nat.zero_add,Nat.mul_one,List.getElem?_cons_zero,List.getElem?_cons_succ,g1,g2,g3]
  apply hK;clear hK K
  refine W.r fun K hK=>?_
  rcases ygi (decide (b<min a d)) (decide (c>max a d)) (decide (a>d)) with f1 | ⟨f1,f2⟩ | ⟨f1,f2,f3⟩ | ⟨f1,f2,f3⟩
  ·skip
   simp(disch:=omega)only[↓RU,RV,RH,↓reduceIte,qE,reduceCtorEq,if_pos,w64,↓RS,RG,qA,qM,qL,zcy,zaa,Int.toNat_zero,Nat.zero_mul,qZ,qM,Nat.zero_add,Nat.mul_one,List.getElem?_cons_zero,List.getElem?_cons_succ,f1]
   apply hK;clear hK K
   refine W.r fun K hK=>?_
   simp(disch:=omega)only[↓RU,RV,RH,↓reduceIte,qE,reduceCtorEq,if_pos,↓RS,RG,qA,qM,qL,Int.toNat_zero,Nat.zero_mul,qZ,qM,Nat.zero_add,Nat.mul_one,List.getElem?_cons_zero,List.getElem?_cons_succ]
   apply hK;clear hK K
   refine W.ret ?_
   refine Br rfl ?_
   simp only[zyz, *,Bool.and_true,Bool.and_false,Bool.false_and,Bool.true_and,Bool.or_false,Bool.false_or,Bool.true_or]
   rfl
  ·skip
   simp(disch:=omega)only[↓RU,RV,RH,↓reduceIte,qE,reduceCtorEq,if_pos,w64,↓RS,RG,qA,qM,qL,zcy,zaa,Int.toNat_zero,Nat.zero_mul,qZ,qM,Nat.zero_add,Nat.mul_one,List.getElem?_cons_zero,List.getElem?_cons_succ,f1,f2]
   apply hK;clear hK K
   refine W.r fun K hK=>?_
   simp(disch:=omega)only[↓RU,RV,RH,↓reduceIte,qE,reduceCtorEq,if_pos,↓RS,RG,qA,qM,qL,Int.toNat_zero,Nat.zero_mul,qZ,qM,Nat.zero_add,Nat.mul_one,List.getElem?_cons_zero,List.getElem?_cons_succ]
   apply hK;clear hK K
   refine W.ret ?_
   refine Br rfl ?_
   simp only[zyz, *,Bool.and_true,Bool.and_false,Bool.false_and,Bool.true_and,Bool.or_false,Bool.false_or,Bool.true_or]
   rfl
  ·skip
   simp(disch:=omega)only[↓RU,RV,RH,↓reduceIte,qE,reduceCtorEq,if_pos,w64,↓RS,RG,qA,qM,qL,zcy,zaa,Int.toNat_zero,Nat.zero_mul,qZ,qM,Nat.zero_add,Nat.mul_one,List.getElem?_cons_zero,List.getElem?_cons_succ,f1,f2,f3]
   apply hK;clear hK K
   refine W.r fun K hK=>?_
   simp(disch:=omega)only[↓RU,RV,RH,↓reduceIte,qE,reduceCtorEq,if_pos,↓RS,RG,qA,qM,qL,Int.toNat_zero,Nat.zero_mul,qZ,qM,Nat.zero_add,Nat.mul_one,List.getElem?_cons_zero,List.getElem?_cons_succ]
   apply hK;clear hK K
   refine W.ret ?_
   refine Br rfl ?_
   simp only[zyz, *,Bool.and_true,Bool.and_false,Bool.false_and,Bool.true_and,Bool.or_false,Bool.false_or,Bool.true_or]
   rfl
  skip
  simp(disch:=omega)only[↓RU,RV,RH,↓reduceIte,qE,reduceCtorEq,if_pos,w64,↓RS,RG,qA,qM,qL,zcy,zaa,Int.toNat_zero,Nat.zero_mul,qZ,qM,Nat.zero_add,Nat.mul_one,List.getElem?_cons_zero,List.getElem?_cons_succ,f1,f2,f3]
  apply hK;clear hK K
  refine W.r fun K hK=>?_
  simp(disch:=omega)only[↓RU,RV,RH,↓reduceIte,qE,reduceCtorEq,if_pos,↓RS,RG,qA,qM,qL,Int.toNat_zero,Nat.zero_mul,qZ,qM,Nat.zero_add,Nat.mul_one,List.getElem?_cons_zero,List.getElem?_cons_succ]
  apply hK;clear hK K
  refine W.ret ?_
  refine Br rfl ?_
  simp only[zyz, *,Bool.and_true,Bool.and_false,Bool.false_and,Bool.true_and,Bool.or_false,Bool.false_or,Bool.true_or]
  rfl
 skip
 simp(disch:=omega)only[↓RU,RV,RH,↓reduceIte,qE,reduceCtorEq,if_pos,w64,↓RS,RG,qA,qM,qL,zcy,zaa,Int.toNat_zero,Nat.zero_mul,qZ,qM,Nat.zero_add,Nat.mul_one,List.getElem?_cons_zero,List.getElem?_cons_succ,g1,g2,g3]
 apply hK;clear hK K
 refine W.r fun K hK=>?_
 rcases ygi (decide (b<min a d)) (decide (c>max a d)) (decide (a>d)) with f1 | ⟨f1,f2⟩ | ⟨f1,f2,f3⟩ | ⟨f1,f2,f3⟩
 ·skip
  simp(disch:=omega)only[↓RU,RV,RH,↓reduceIte,qE,reduceCtorEq,if_pos,w64,↓RS,RG,qA,qM,qL,zcy,zaa,Int.toNat_zero,Nat.zero_mul,qZ,qM,Nat.zero_add,Nat.mul_one,List.getElem?_cons_zero,List.getElem?_cons_succ,f1]
  apply hK;clear hK K
  refine W.r fun K hK=>?_
  simp(disch:=omega)only[↓RU,RV,RH,↓reduceIte,qE,reduceCtorEq,if_pos,↓RS,RG,qA,qM,qL,Int.toNat_zero,Nat.zero_mul,qZ,qM,Nat.zero_add,Nat.mul_one,List.getElem?_cons_zero,List.getElem?_cons_succ]
  apply hK;clear hK K
  refine W.ret ?_
  refine Br rfl ?_
  simp only[zyz, *,Bool.and_true,Bool.and_false,Bool.false_and,Bool.true_and,Bool.or_false,Bool.false_or,Bool.true_or]
  rfl
 ·skip
  simp(disch:=omega)only[↓RU,RV,RH,↓reduceIte,qE,reduceCtorEq,if_pos,w64,↓RS,RG,qA,qM,qL,zcy,zaa,Int.toNat_zero,Nat.zero_mul,qZ,qM,Nat.zero_add,Nat.mul_one,List.getElem?_cons_zero,List.getElem?_cons_succ,f1,f2]
  apply hK;clear hK K
  refine W.r fun K hK=>?_
  simp(disch:=omega)only[↓RU,RV,RH,↓reduceIte,qE,reduceCtorEq,if_pos,↓RS,RG,qA,qM,qL,Int.toNat_zero,Nat.zero_mul,qZ,qM,Nat.zero_add,Nat.mul_one,List.getElem?_cons_zero,List.getElem?_cons_succ]
  apply hK;clear hK K
  refine W.ret ?_
  refine Br rfl ?_
  simp only[zyz, *,Bool.and_true,Bool.and_false,Bool.false_and,Bool.true_and,Bool.or_false,Bool.false_or,Bool.true_or]
  rfl
 ·skip
  simp(disch:=omega)only[↓RU,RV,RH,↓reduceIte,qE,reduceCtorEq,if_pos,w64,↓RS,RG,qA,qM,qL,zcy,zaa,Int.toNat_zero,Nat.zero_mul,qZ,qM,Nat.zero_add,Nat.mul_one,List.getElem?_cons_zero,List.getElem?_cons_succ,f1,f2,f3]
  apply hK;clear hK K
  refine W.r fun K hK=>?_
  simp(disch:=omega)only[↓RU,RV,RH,↓reduceIte,qE,reduceCtorEq,if_pos,↓RS,RG,qA,qM,qL,Int.toNat_zero,Nat.zero_mul,qZ,qM,Nat.zero_add,Nat.mul_one,List.getElem?_cons_zero,List.getElem?_cons_succ]
  apply hK;clear hK K
  refine W.ret ?_
  refine Br rfl ?_
  simp only[zyz, *,Bool.and_true,Bool.and_false,Bool.false_and,Bool.true_and,Bool.or_false,Bool.false_or,Bool.true_or]
  rfl
 skip
 simp(disch:=omega)only[↓RU,RV,RH,↓reduceIte,qE,reduceCtorEq,if_pos,w64,↓RS,RG,qA,qM,qL,zcy,zaa,Int.toNat_zero,Nat.zero_mul,qZ,qM,Nat.zero_add,Nat.mul_one,List.getElem?_cons_zero,List.getElem?_cons_succ,f1,f2,f3]
 apply hK;clear hK K
 refine W.r fun K hK=>?_
 simp(disch:=omega)only[↓RU,RV,RH,↓reduceIte,qE,reduceCtorEq,if_pos,↓RS,RG,qA,qM,qL,Int.toNat_zero,Nat.zero_mul,qZ,qM,Nat.zero_add,Nat.mul_one,List.getElem?_cons_zero,List.getElem?_cons_succ]
 apply hK;clear hK K
 refine W.ret ?_
 refine Br rfl ?_
 simp only[zyz, *,Bool.and_true,Bool.and_false,Bool.false_and,Bool.true_and,Bool.or_false,Bool.false_or,Bool.true_or]
 rfl
theorem zzj {q:List Int} (hl:q.length<2147483648) {x:Int} {i:Nat} (hx:q[i]?=some x) (hi:∀ (j:Nat),j<i→q[j]?≠some x):PC Tryz.prog 77 [eInts q,.int .i64 x] (.bool true) true:=by
 have hd:decide ((i:Int) ≥ 0)=true:=decide_eq_true (by omega)
 refine PC.of ⟨Tryz.func77,by kernel_rfl,rfl,by kernel_rfl⟩ zan mixed (by show 2≤Tryz.f77.ntmps; decide) ?_
 refine W.r fun K hK=>?_
 simp(disch:=omega)only[↓RU,RV,RH,↓reduceIte,qE,reduceCtorEq,if_pos]
 apply hK;clear hK K
 refine W.r fun K hK=>?_
 simp(disch:=omega)only[↓RU,RV,RH,↓reduceIte,qE,reduceCtorEq,if_pos,qN,w64,zaa,hd]
 refine zad.pc (zno hl hx hi) rfl (.inl rfl) ?_
 simp(disch:=omega)only[↓RU,RV,RH,↓reduceIte,qE,reduceCtorEq,if_pos,qN,w64,zaa,hd]
 apply hK;clear hK K
 refine W.ret ?_
 refine Br rfl ?_
 rfl
section
def zez (k u H W:Nat):PV := .fn 105 [.ref (k+2+H) (u+2) 0,.ref k u 0,.ip [.int .i64 W] 0,.ip [.int .i64 H] 0,.ref (k+3+H) (u+3) 0]
def zhv (k u lb H W:Nat) (g:List (List Int)):List Ob :=
 .arr u 110 1 [.yl lb] :: .arr (u+1) 34 1 (lcW (k+2) (u+1) H W)::(rwO (u+1) g++[.arr (u+2) 75 1 [.loc (k+1) (u+1) 0 H],.arr (u+3) 113 1 [zez k u H W]])
section
variable {A tl:List Ob} {k u lb H W:Nat} {g:List (List Int)}
theorem z30 (hA:A.length=k) {j:Nat} {n:Nat} (hn:n=k+j):(A++(zhv k u lb H W g++tl))[n]?=(zhv k u lb H W g++tl)[j]?:=by
 subst hn; rw [List.getElem?_append_right (by omega)]; congr 1; omega
theorem zb7 (hg:g.length=H):(zhv k u lb H W g).length=H+4:=by simp [zhv,zjp,hg]
theorem gO_y (hA:A.length=k):(A++(zhv k u lb H W g++tl))[k]?=some (.arr u 110 1 [.yl lb]):=z30 hA (j:=0) rfl
theorem zj2 (hA:A.length=k):(A++(zhv k u lb H W g++tl))[k+1]?=some (.arr (u+1) 34 1 (lcW (k+2) (u+1) H W)):=z30 hA (j:=1) rfl
theorem yga (hA:A.length=k) (hg:g.length=H) {r:Nat} {row:List Int} (hr:g[r]?=some row):(A++(zhv k u lb H W g++tl))[k+2+r]?=some (.arr (u+1) 3 1 (row.map (.int .i64))):=by
 have hl:=za2 hr
 rw [z30 hA (j:=r+2) (by omega)]
 unfold zhv
 rw [List.cons_append,List.cons_append,List.getElem?_cons_succ,List.getElem?_cons_succ,List.append_assoc,List.getElem?_append_left (by rw [zjp]; exact hl)]
 unfold rwO
 rw [List.getElem?_map,hr]; rfl
theorem zkh (hA:A.length=k) (hg:g.length=H):(A++(zhv k u lb H W g++tl))[k+2+H]?=some (.arr (u+2) 75 1 [.loc (k+1) (u+1) 0 H]):=by
 rw [z30 hA (j:=H+2) (by omega)]
 unfold zhv
 rw [List.cons_append,List.cons_append,List.getElem?_cons_succ,List.getElem?_cons_succ,List.append_assoc,List.getElem?_append_right (by rw [zjp]; omega),zjp,hg,Nat.sub_self]; rfl
theorem zk7 (hA:A.length=k) (hg:g.length=H):(A++(zhv k u lb H W g++tl))[k+3+H]?=some (.arr (u+3) 113 1 [zez k u H W]):=by
 rw [z30 hA (j:=H+3) (by omega)]
 unfold zhv
 rw [List.cons_append,List.cons_append,List.getElem?_cons_succ,List.getElem?_cons_succ,List.append_assoc,List.getElem?_append_right (by rw [zjp]; omega),zjp,hg,Nat.add_sub_cancel_left]; rfl
theorem zil (hA:A.length=k) (hg:g.length=H) {j:Nat}:(A++(zhv k u lb H W g++tl))[k+(H+4+j)]?=tl[j]?:=by
 rw [z30 hA (j:=H+4+j) (by omega),List.getElem?_append_right (by rw [zb7 hg]; omega),zb7 hg,Nat.add_sub_cancel_left]
theorem zd7 (hA:A.length=k) (hg:g.length=H) {j:Nat} {ob:Ob}:(A++(zhv k u lb H W g++tl)).set (k+(H+4+j)) ob=A++(zhv k u lb H W g++tl.set j ob):=by
 rw [List.set_append_right _ _ (by omega),hA,List.set_append_right _ _ (by rw [zb7 hg]; omega),zb7 hg]
 congr 3; omega
theorem yih (hA:A.length=k) (hg:g.length=H) {r:Nat} (hr:r<H) {row:List Int}:(A++(zhv k u lb H W g++tl)).set (k+2+r) (.arr (u+1) 3 1 (row.map (.int .i64)))=A++(zhv k u lb H W (g.set r row)++tl):=by
 rw [List.set_append_right _ _ (by omega),hA,show k+2+r - k=r+1+1 by omega]
 unfold zhv
 rw [List.cons_append,List.cons_append,List.set_cons_succ,List.set_cons_succ,List.append_assoc,List.set_append_left _ _ (by rw [zjp]; omega)]
 unfold rwO
 rw [← List.map_set]
 simp
theorem zd8 {x:Ob}:(tl++[x])[tl.length]?=some x:=List.getElem?_concat_length
theorem zd9 {x y:Ob}:(tl++[x]).set tl.length y=tl++[y]:=by simp
end
theorem zhz {p:List Txt} {H W:Nat} (h:Shp2 p H W):(gI p).length=H:=by simp [gI,h.h]
theorem z1q {p:List Txt} {r:Nat} {row:Txt} (h:p[r]?=some row):(gI p)[r]?=some (row.map cI):=by simp [gI,h]
theorem yg1 {p:List Txt} {r:Nat} {row:Txt}:(gI p).set r (row.map cI)=gI (p.set r row):=by simp [gI]
theorem ygt {row:Txt} {j:Nat} {c:UInt8}:(row.map cI).set j (cI c)=(row.set j c).map cI:=by simp
theorem yan (c:UInt8) : -1000≤cI c∧cI c≤1000:=by
 have:=c.toNat_lt
 unfold cI
 split <;> omega
theorem Shp2.set {p:List Txt} {H W i:Nat} {r:Txt} (h:Shp2 p H W) (hr:r.length=W):Shp2 (p.set i r) H W:=by
 refine ⟨by rw [List.length_set]; exact h.h,fun x hx=>?_⟩
 rcases List.mem_or_eq_of_mem_set hx with hx | rfl
 ·exact h.w x hx
 exact hr
theorem yiy {α:Type} {l:List α} {i:Nat} {x:α} (h:i<l.length):l.take i++x::l.drop (i+1)=l.set i x:=(List.set_eq_take_append_cons_drop).symm ▸ by rw [if_pos h]
theorem zua {A B tl:List Ob} {x:Ob} {t:Nat}:Store.take ⟨A++(B++(tl++[x])),t⟩ (A.length+(B.length+tl.length))=⟨A++(B++tl),t⟩:=by
 show (⟨List.take _ _,t⟩:Store)=_
 rw [← List.append_assoc,← List.append_assoc,List.take_left' (by simp [Nat.add_assoc]),List.append_assoc]
theorem yb5 {α:Type} {l:List α} {i:Nat} {x:α} (h:l[i]?=some x):l.set i x=l:=by
 apply List.ext_getElem?
 intro j
 rw [List.getElem?_set]
 split
 ·rename_i e; subst e; rw [if_pos (za2 h),h]
 rfl
theorem zll {A tl:List Ob} {k u lb t nh nw:Nat} (hA:A.length=k) {p:List Txt} (hp:Shp2 p nh nw) {i kk d w:Nat} {c:UInt8} (hi:i+d≤nh) (hk:kk+w≤nw) (hH:nh≤6) (hW:nw≤6):Ev Tryz.prog 109 [.agg [.int .i64 i,.int .i64 kk,.int .i64 d,.int .i64 w],.int .i64 (cI c),.ref (k+2+nh) (u+2) 0] ⟨A++(zhv k u lb nh nw (gI p)++tl),t⟩ fun v S=>v = .tup []∧∃ t2,t≤t2∧S=⟨A++(zhv k u lb nh nw (gI (zds p i kk w c (i+d)))++tl),t2⟩:=by
 have hgl:=zhz hp
 have hcb:=yan c
 refine Ev.of ⟨Tryz.func109,by kernel_rfl,rfl,by kernel_rfl⟩ zan mixed (by show 3≤Tryz.f109.ntmps; decide) ?_
 refine W.r fun K hK=>?_
 simp(disch:=omega)only[↓RU,RV,RH,↓reduceIte,qE,reduceCtorEq,if_pos,↓RS,RG,qA,qM,qL,zdt,zaa,zdu,List.append_assoc,List.length_append,hA,zb7 hgl,zil hA hgl,zd8,zd9,zd7 hA hgl]
 apply hK;clear hK K
 refine W.r fun K hK=>?_
 simp(disch:=omega)only[↓RU,RV,RH,↓reduceIte,qE,reduceCtorEq,if_pos,↓RS,RG,qA,qM,qL,zdt,zaa,zdu,List.append_assoc,List.length_append,hA,zb7 hgl,zil hA hgl,zd8,zd9,zd7 hA hgl]
 apply hK;clear hK K
 refine W.block ?_
 refine W.loop [1,2,3,5] (fun n vs S=>∃ r:Nat,n=d - r∧r≤d∧vs=[.int .i64 (cI c),.ref (k+2+nh) (u+2) 0,.ref (k+(nh+4+tl.length)) t 0,.int .i64 ((i+r:Nat):Int)]∧S=⟨A++(zhv k u lb nh nw (gI (zds p i kk w c (i+r)))++(tl++[.arr t 92 4 [.int .i64 i,.int .i64 kk,.int .i64 d,.int .i64 w]])),t+1⟩) d ?_ ?_
 ·refine ⟨_,0,rfl,Nat.zero_le _,?_,zal ?_⟩
  rotate_left
  ·simp only[Nat.add_zero,zty]
  simp [Env.put,Env.of,zaf]
 rintro n vs S - ⟨r,rfl,h_r,rfl,rfl⟩
 have hps:Shp2 (zds p i kk w c (i+r)) nh nw:=zlf hp
 have hgl:=zhz hps
 refine W.seq ?_
 refine W.r fun K hK=>?_
 simp(disch:=omega)only[↓RU,RV,RH,↓reduceIte,qE,reduceCtorEq,if_pos,w64,↓RS,RG,qA,qM,qL,zdt,zaa,zdu,List.append_assoc,List.length_append,hA,zb7 hgl,zil hA hgl,zd8,zd9,zd7 hA hgl]
 apply hK;clear hK K
 refine W.cond rfl (fun h=>?_) (fun h=>?_)
 ·try simp only[RL]at h
  obtain ⟨row,hrow0,hrl,-⟩:=hp.row (show i+r<nh by omega)
  have hrow:(zds p i kk w c (i+r))[i+r]?=some row:=z2q hrow0
  refine W.skip ?_
  refine xn ?_
  refine W.seq ?_
  refine W.block ?_
  refine W.r fun K hK=>?_
  simp(disch:=omega)only[↓RU,RV,RH,↓reduceIte,qE,reduceCtorEq,if_pos,↓RS,RG,qA,qM,qL,zdt,zaa,zdu,List.append_assoc,List.length_append,hA,zb7 hgl,zil hA hgl,zd8,zd9,zd7 hA hgl]
  apply hK;clear hK K
  refine W.block ?_
  refine W.loop [1,2,3,5,6] (fun n vs S=>∃ j:Nat,n=w - j∧j≤w∧vs=[.int .i64 (cI c),.ref (k+2+nh) (u+2) 0,.ref (k+(nh+4+tl.length)) t 0,.int .i64 ((i+r:Nat):Int),.int .i64 ((kk+j:Nat):Int)]∧S=⟨A++(zhv k u lb nh nw (gI ((zds p i kk w c (i+r)).set (i+r) (zev row kk c (kk+j))))++(tl++[.arr t 92 4 [.int .i64 i,.int .i64 kk,.int .i64 d,.int .i64 w]])),t+1⟩) w ?_ ?_
  ·refine ⟨_,0,rfl,Nat.zero_le _,?_,zal ?_⟩
   rotate_left
   ·simp only[Nat.add_zero,zrq,yb5 hrow]
   simp [Env.put,Env.of]
  rintro n vs S - ⟨j,rfl,h_j,rfl,rfl⟩
  have hps2:Shp2 ((zds p i kk w c (i+r)).set (i+r) (zev row kk c (kk+j))) nh nw:=hps.set (by rw [zf2]; exact hrl)
  have hgl:=zhz hps2
  have hrj:((zds p i kk w c (i+r)).set (i+r) (zev row kk c (kk+j)))[i+r]?=some (zev row kk c (kk+j)):=by rw [List.getElem?_set,if_pos rfl,if_pos (za2 hrow)]
  have hgr:=z1q hrj
  have hrl2:(zev row kk c (kk+j)).length=nw:=by rw [zf2]; exact hrl
  have hirH:i+r<nh:=by omega
  refine W.seq ?_
  refine W.r fun K hK=>?_
  simp(disch:=omega)only[↓RU,RV,RH,↓reduceIte,qE,reduceCtorEq,if_pos,w64,↓RS,RG,qA,qM,qL,zdt,zaa,zdu,List.append_assoc,List.length_append,hA,zb7 hgl,zil hA hgl,zd8,zd9,zd7 hA hgl]
  apply hK;clear hK K
  refine W.cond rfl (fun h1=>?_) (fun h1=>?_)
  ·try simp only[RL]at h1
   have hspl:(List.map (PV.int .i64) (List.map cI (zev row kk c (kk+j)))).take (kk+j)++PV.int .i64 (cI c)::(List.map (PV.int .i64) (List.map cI (zev row kk c (kk+j)))).drop (kk+j+1)=(List.map cI (zev row kk c (kk+j+1))).map (PV.int .i64):=by rw [← zrp (by omega) (by omega),← ygt,← zc8,yiy (by simp only[List.length_map]; omega)]
   refine W.skip ?_
   refine xn ?_
   refine W.seq ?_
   refine W.block ?_
   refine W.k fun K hK=>?_
   simp(disch:=omega)only[↓RU,RV,RH,↓reduceIte,qE,reduceCtorEq,if_pos,↓RS,RG,qA,qM,qL,ty1,zab,zce,zaa,List.append_assoc,List.length_append,hA,zb7 hgl,zil hA hgl,zd8,zd9,zd7 hA hgl,zkh hA hgl,zj2 hA,zc9 hirH,zb4,yga hA hgl hgr,hrl2,hspl,yih hA hgl hirH,yg1,List.set_set]
   apply hK;clear hK K
   refine XbN ?_
   refine xn ?_
   refine W.k fun K hK=>?_
   simp(disch:=omega)only[↓RU,RV,RH,↓reduceIte,qE,reduceCtorEq,if_pos,w64,↓RS,RG,qA,qM,qL,zaa,List.append_assoc,List.length_append,hA,zb7 hgl,zil hA hgl,zd8,zd9,zd7 hA hgl]
   apply hK;clear hK K
   refine xn ?_
   refine ⟨w - (j+1),by omega,_,j+1,rfl,by omega,?_,zal ?_⟩
   rotate_left
   ·rfl
   simp [Env.put,Env.of]; omega
  ·try simp only[RL]at h1
   obtain rfl:j=w:=by omega
   refine W.exit ?_
   refine xe ?_
   refine xe ?_
   refine XBlock.hit ?_
   refine XbN ?_
   refine xn ?_
   refine W.k fun K hK=>?_
   simp(disch:=omega)only[↓RU,RV,RH,↓reduceIte,qE,reduceCtorEq,if_pos,w64,↓RS,RG,qA,qM,qL,zaa,List.append_assoc,List.length_append,hA,zb7 hgl,zil hA hgl,zd8,zd9,zd7 hA hgl]
   apply hK;clear hK K
   refine xn ?_
   refine ⟨d - (r+1),by omega,_,r+1,rfl,by omega,?_,zal ?_⟩
   rotate_left
   ·rw [← Nat.add_assoc,← ztx (p:=p) (by omega) hrow0]
   simp [Env.put,Env.of]; omega
 try simp only[RL]at h
 obtain rfl:r=d:=by omega
 refine W.exit ?_
 refine xe ?_
 refine xe ?_
 refine XBlock.hit ?_
 refine zff.norm rfl ?_
 exact ⟨_,rfl,_,Nat.le_succ _,zua⟩
end
section
variable {H W:Nat} {p q:List Txt} {R:List RmB}
theorem z1s {W a b i j:Nat} (hb:b<W):Gone W i j a b↔bef a b i j:=by unfold Gone bef; omega
theorem zjw {i j:Nat}:zby q i j=((ch q i j).toNat:Int) - 97:=rfl
theorem yff (hp:zb1 q=true):∃ R,St q.length (zag q).length q R∧¬ fi q<q.length∧R.length≤9:=by
 have hN:=zel hp
 have hfull:=zrf hp
 have hg:=hN.hg
 have hsh:=zu0 hg
 have hfl:ze5 q=true:=by rw [zd6]; exact hp
 have h9:(rP q).length≤9:=by
  unfold ze5 at hfl
  rw [qB]at hfl
  exact zfm hfl.1
 have hroom:∀ i j,i<q.length→j<(zag q).length→∃ v,v<(rP q).length∧ch q i j=rl v:=by
  intro i j hi hj
  obtain ⟨k1,k2⟩:=hN.room hi hj
  rw [zjw]at k1 k2
  refine ⟨(ch q i j).toNat - 97,by omega,?_⟩
  apply UInt8.toNat_inj.1
  rw [zgm (by omega)]
  omega
 have hnf:¬ fi q<q.length:=fun hf=>by
  obtain ⟨f1,f2,-⟩:=zgz hsh hf
  obtain ⟨v,hv,e⟩:=hroom _ _ hf f1
  rw [f2]at e
  exact zkw (by omega) e.symm
 have hmem:∀ (v:Nat) (b:Rect),(rP q)[v]?=some b→∃ r c h w:Nat,b=⟨r,c,h,w⟩∧r+h≤q.length∧c+w≤(zag q).length∧1≤h∧1≤w:=by
  intro v b hb
  obtain ⟨t',l',h',w',e1,e2,e3,e4,e5,e6,e7,e8⟩:=Hull.nat (hN.rect hb)
  refine ⟨t',l',h',w',?_,by omega,by omega,by omega,by omega⟩
  cases b
  simp only[Rect.mk.injEq] at *
  omega
 have hat:∀ (v:Nat) (b:Rect),(rP q)[v]?=some b→∀ i j,i<q.length→j<(zag q).length→(ch q i j=rl v↔inB b i j=true):=by
  intro v b hb i j hi hj
  have hv:=za2 hb
  rw [hN.fill hfull hb hi hj,decide_eq_true_eq,zjw]
  obtain ⟨u,hu,e⟩:=hroom i j hi hj
  rw [e,zgm (by omega)]
  constructor
  ·intro k; have:=zo3 (by omega) (by omega) k; omega
  intro k; rw [show u=v by omega]
 let R:List RmB:=(rP q).map fun b=>⟨b.row.toNat,b.col.toNat,b.high.toNat,b.wide.toNat⟩
 have hR:∀ (v:Nat) s,R[v]?=some s→∃ b,(rP q)[v]?=some b∧b=⟨s.r,s.c,s.h,s.w⟩∧(s.r+s.h≤q.length∧s.c+s.w≤(zag q).length∧1≤s.h∧1≤s.w):=by
  intro v s hs
  simp only[R,List.getElem?_map,qI]at hs
  obtain ⟨b,hb,rfl⟩:=hs
  obtain ⟨r,c,h,w,rfl,k⟩:=hmem v b hb
  exact ⟨_,hb,by simp,by simpa using k⟩
 have hRl:R.length=(rP q).length:=by simp [R]
 have hin:∀ (v:Nat) s,R[v]?=some s→∀ i j,i<q.length→j<(zag q).length→(ch q i j=rl v↔s.has i j):=by
  intro v s hs i j hi hj
  obtain ⟨b,hb,rfl,-⟩:=hR v s hs
  rw [hat v _ hb i j hi hj]
  unfold inB RmB.has
  simp only[qB,decide_eq_true_eq]
  omega
 refine ⟨R,⟨hsh,fun i j hi hj=>by rw [hRl]; exact .inr (hroom i j hi hj),fun v s hs=>(hR v s hs).choose_spec.2.2,hin,?_,?_,?_⟩,hnf,by omega⟩
 ·intro v u s s2 hvu hs hs2
  obtain ⟨b,hb,-,k1⟩:=hR v s hs
  obtain ⟨b2,hb2,-,k2⟩:=hR u s2 hs2
  -- the keys up to the first cell of u are those of the rooms ahead of u
  have hi:s2.r<q.length:=by omega
  have hj:s2.c<(zag q).length:=by omega
  have hcu:ch q s2.r s2.c=rl u:=(hin u s2 hs2 _ _ hi hj).2 ⟨by omega,by omega,by omega,by omega⟩
  have hkl:(keys q).length=(rP q).length:=((zfl q).len).symm
  have hul:=za2 hb2
  obtain ⟨z,hz,-⟩:=zae (show u<(keys q).length by omega)
  obtain ⟨y,hy,-⟩:=zae (show v<(keys q).length by omega)
  have hzc:gz (za7 q) s2.r s2.c=z:=by
   have h1:=(hN.key hz s2.r s2.c).2 ⟨by rw [zjw,hcu,zgm (by omega)]; omega,zim hi hj⟩
   exact h1.1
  have hK:=(SeInv.rows (g:=za7 q) (W:=(zag q).length) s2.r).row s2.c (by omega)
  generalize hKe:(zdp (za7 q) s2.r (zaj (za7 q) (zag q).length s2.r) s2.c).1=K at hK
  have hnot:z ∉ K:=by
   intro hm
   obtain ⟨m,hm2⟩:=List.getElem?_of_mem hm
   obtain ⟨bb,hbb,-⟩:=zae (show m<(zdp (za7 q) s2.r (zaj (za7 q) (zag q).length s2.r) s2.c).2.length by rw [hK.len]; exact za2 hm2)
   obtain ⟨a,c,⟨k3,k4⟩,-⟩:=(hK.hull m z bb hm2 hbb).at_
   have hcW:c<(zag q).length:=by unfold Gone at k4; omega
   have haH:a<q.length:=by unfold Gone at k4; omega
   have h2:=(hN.key hz a c).1 ⟨k3,zim haH hcW⟩
   have h3:ch q a c=rl u:=by
    have:=h2.1
    rw [zjw]at this
    apply UInt8.toNat_inj.1
    rw [zgm (by omega)]
    omega
   have h4:=(hin u s2 hs2 a c haH hcW).1 h3
   rw [z1s hcW]at k4
   unfold RmB.has at h4
   unfold bef at k4
   omega
  have hidx:K.idxOf z=K.length:=by
   have h1:=zgp (ks:=K) (z:=z)
   have:¬ K.idxOf z<K.length:=fun h=>hnot (List.idxOf_lt_length_iff.1 h)
   omega
  have hzn:=yi6 (g:=za7 q) (W:=(zag q).length) (nh:=q.length) hi hj
  rw [hKe,hzc,hidx]at hzn
  have hkz:(keys q).idxOf z=u:=by
   have h5:z∈keys q:=List.mem_of_getElem? hz
   have:=zg0 (ks:=keys q) (z:=z) (by have:=List.idxOf_lt_length_iff.2 h5; omega)
   exact zji (zfl q).nd this hz
  have hKu:K.length=u:=by rw [hzn]; exact hkz
  -- v's key is one of them
  obtain ⟨r1,hr1⟩:=zm4 (g:=za7 q) (i:=s2.r) (s:=zaj (za7 q) (zag q).length s2.r) (show s2.c≤(zag q).length by omega)
  obtain ⟨r2,hr2⟩:=zn5 (g:=za7 q) (W:=(zag q).length) (show s2.r+1≤q.length by omega)
  have hkeys:keys q=K++(r1++r2):=by
   unfold keys
   rw [hr2,← List.append_assoc,← hKe,← hr1]; rfl
  have hyK:K[v]?=some y:=by
   rw [hkeys,List.getElem?_append_left (by omega)]at hy
   exact hy
  obtain ⟨bb,hbb,-⟩:=zae (show v<(zdp (za7 q) s2.r (zaj (za7 q) (zag q).length s2.r) s2.c).2.length by rw [hK.len]; exact za2 hyK)
  obtain ⟨a,c,⟨k3,k4⟩,-⟩:=(hK.hull v y bb hyK hbb).at_
  have hcW:c<(zag q).length:=by unfold Gone at k4; omega
  have haH:a<q.length:=by unfold Gone at k4; omega
  have h2:=(hN.key hy a c).1 ⟨k3,zim haH hcW⟩
  have h3:ch q a c=rl v:=by
   have:=h2.1
   rw [zjw]at this
   apply UInt8.toNat_inj.1
   rw [zgm (by omega)]
   omega
  have h4:=(hin v s hs a c haH hcW).1 h3
  -- the first cell of v is no later than this one
  rw [z1s hcW]at k4
  have h5:ch q s.r s.c=rl v:=(hin v s hs _ _ (by omega) (by omega)).2 ⟨by omega,by omega,by omega,by omega⟩
  have hne:¬ (s.r=s2.r∧s.c=s2.c):=by
   rintro ⟨e1,e2⟩
   rw [e1,e2,hcu]at h5
   have:=zo3 (by omega) (by omega) h5
   omega
  unfold RmB.has at h4
  unfold bef at k4 ⊢
  by_cases e:s.r<s2.r
  ·exact .inl e
  -- same row: the cell ahead lies in it
  refine .inr ⟨by omega,?_⟩
  omega
 ·intro v s i j hs hi hj he
  exact absurd he (zk6 hsh hnf hi hj)
 intro i j a hi hj he
 exact absurd he (zk6 hsh hnf hi hj)
theorem z9e {p q:List Txt} {H W:Nat} (hp:Shp2 p H W) (hq:Shp2 q H W) (h:∀ i j,i<H→j<W→ch p i j=ch q i j):p=q:=by
 apply List.ext_getElem?
 intro i
 by_cases hi:i<H
 ·obtain ⟨r,hr,hl,hx⟩:=hp.row hi
  obtain ⟨s,hs,hl2,hy⟩:=hq.row hi
  rw [hr,hs]
  congr 1
  apply List.ext_getElem?
  intro j
  by_cases hj:j<W
  ·rw [hx j hj,hy j hj,h i j hi hj]
  rw [List.getElem?_eq_none (by omega),List.getElem?_eq_none (by omega)]
 rw [List.getElem?_eq_none (by rw [hp.h]; omega),List.getElem?_eq_none (by rw [hq.h]; omega)]
theorem yia (h9:H*W≤9) {Rq:List RmB} (hq:St H W q Rq) (hqf:¬ fi q<H) (hq9:Rq.length≤9):∀ (m:Nat) (p:List Txt) (R:List RmB),St H W p R→R.length+m=9→(∀ (v:Nat) s,R[v]?=some s→Rq[v]?=some s)→q∈En m p R.length:=by
 have full:∀ (p:List Txt) (R:List RmB),St H W p R→R.length≤9→(∀ (v:Nat) s,R[v]?=some s→Rq[v]?=some s)→¬ fi p<H→q=p:=by
  intro p R hp h9 hR hf
  refine z9e hq.sh hp.sh fun i j hi hj=>?_
  obtain ⟨v,hv,e⟩:=(hp.val i j hi hj).resolve_left (zk6 hp.sh hf hi hj)
  obtain ⟨s,hs,-⟩:=zae hv
  rw [e]
  exact (hq.at_ v s (hR v s hs) i j hi hj).2 ((hp.at_ v s hs i j hi hj).1 e)
 intro m
 induction m with
 | zero =>
  intro p R hp hm hR
  have hf:¬ fi p<H:=fun hf=>by
   obtain ⟨f1,f2,-⟩:=zgz hp.sh hf
   have:=hp.lim hf f1 f2
   omega
  rw [full p R hp (by omega) hR hf]
  simp [En]
 | succ m ih =>
  intro p R hp hm hR
  by_cases hf:fi p<H
  ·obtain ⟨f1,f2,f3⟩:=zgz hp.sh hf
   -- a cell of a room that is not put is free
   have free:∀ (v:Nat) i j,i<H→j<W→ch q i j=rl v→R.length≤v→v≤9→ch p i j=46:=by
    intro v i j hi hj e hv hv9
    rcases hp.val i j hi hj with e2 | ⟨u,hu,e2⟩
    ·exact e2
    obtain ⟨s,hs,-⟩:=zae hu
    have:=(hq.at_ u s (hR u s hs) i j hi hj).2 ((hp.at_ u s hs i j hi hj).1 e2)
    rw [e]at this
    have:=zo3 (by omega) (by omega) this
    omega
   obtain ⟨v,hv,ev⟩:=(hq.val _ _ hf f1).resolve_left (zk6 hq.sh hqf hf f1)
   obtain ⟨s,hs,-⟩:=zae hv
   have hsat:=(hq.at_ v s hs _ _ hf f1).1 ev
   have hnv:R.length≤v:=by
    apply Classical.byContradiction
    intro hlt
    obtain ⟨s',hs',-⟩:=zae (show v<R.length by omega)
    have:=hR v s' hs'
    rw [hs]at this
    cases this
    have:=(hp.at_ v s hs' _ _ hf f1).2 hsat
    rw [f2]at this
    exact zkw (by omega) this.symm
   obtain ⟨t,ht,-⟩:=zae (show R.length<Rq.length by omega)
   have hb:=hq.box _ t ht
   have htc:ch q t.r t.c=rl R.length:=(hq.at_ _ t ht _ _ (by omega) (by omega)).2 ⟨by omega,by omega,by omega,by omega⟩
   have htf:=free _ t.r t.c (by omega) (by omega) htc (qR _) (by omega)
   have hnb:¬ bef t.r t.c (fi p) (fk p):=fun hb2=>f3 _ _ (by omega) (by omega) hb2 htf
   unfold RmB.has at hsat
   have hvn:v=R.length:=by
    apply Classical.byContradiction
    intro hne
    have:=hq.ord R.length v t s (by omega) ht hs
    unfold bef at this hnb
    omega
   subst hvn
   have hts:t=s:=by rw [ht]at hs; exact Option.some.inj hs
   subst hts
   have hcorner:t.r=fi p∧t.c=fk p:=by unfold bef at hnb; omega
   have hw:t.w - 1<fw p:=by
    refine (zoq hp.sh hf).2 ⟨by omega,fun b b1 b2=>?_⟩
    exact free _ _ _ hf (by omega) ((hq.at_ _ t ht _ _ hf (by omega)).2 ⟨by omega,by omega,by omega,by omega⟩) (qR _) (by omega)
   have hd:t.h - 1<H - fi p:=by omega
   have hst:=hp.next h9 hf hw hd
   have het:(⟨fi p,fk p,t.h - 1+1,t.w - 1+1⟩:RmB)=t:=by
    cases t
    simp only[RmB.mk.injEq] at *
    omega
   rw [het]at hst
   unfold En
   rw [hp.sh.h,if_pos hf]
   simp only[List.mem_flatMap,List.mem_range]
   refine ⟨t.w - 1,hw,t.h - 1,hd,?_⟩
   have:=ih _ (R++[t]) hst (by simp; omega) fun u s hs=>?_
   ·rw [show (R++[t]).length=R.length+1 by simp]at this
    exact this
   by_cases hu:u<R.length
   ·rw [List.getElem?_append_left hu]at hs; exact hR u s hs
   rw [List.getElem?_append_right (by omega)]at hs
   have:=za2 hs
   simp only[List.length_cons,List.length_nil]at this
   have e:u=R.length:=by omega
   subst e
   simp at hs
   subst hs
   exact ht
  have:=full p R hp (by omega) hR hf
  subst this
  unfold En
  rw [hp.sh.h,if_neg hf]
  simp
theorem z2m (hp:zb1 q=true) (h9:q.length*(zag q).length≤9):q∈zdx q.length (zag q).length:=by
 obtain ⟨Rq,h1,h2,h3⟩:=yff hp
 exact yia h9 h1 h2 h3 9 _ [] zqe rfl (by simp)
theorem znt {α β:Type} {f:α→List β}:∀ {l:List α},l.Nodup→(∀ a∈l,(f a).Nodup)→(∀ a∈l,∀ b∈l,∀ x,x∈f a→x∈f b→a=b)→(l.flatMap f).Nodup
 | [],_,_,_=>by simp
 | a::l,hl,h1,h2=>by
  obtain ⟨n1,n2⟩:=List.nodup_cons.1 hl
  rw [List.flatMap_cons,List.nodup_append]
  refine ⟨h1 a (by simp),znt n2 (fun b hb=>h1 b (by simp [hb])) (fun b hb c hc=>h2 b (by simp [hb]) c (by simp [hc])),?_⟩
  rintro x hx y hy rfl
  obtain ⟨b,hb,hxb⟩:=List.mem_flatMap.1 hy
  have:=h2 a (by simp) b (by simp [hb]) x hx hxb
  subst this
  exact n1 hb
theorem z5t (h9:H*W≤9):∀ (m:Nat) (p:List Txt) (R:List RmB),St H W p R→R.length+m=9→(En m p R.length).Nodup
 | 0,p,R,_,_=>by simp [En]
 | m+1,p,R,hp,hm=>by
  by_cases hf:fi p<H
  ·have hl:∀ t:RmB,(R++[t]).length=R.length+1:=by simp
   -- a leaf tells the way
   have tell:∀ w d x,w<fw p→d<H - fi p→x∈En m (zds p (fi p) (fk p) (w+1) (rl R.length) (fi p+(d+1))) (R.length+1)→∀ i j,i<H→j<W→(ch x i j=rl R.length↔(fi p≤i∧i<fi p+(d+1))∧fk p≤j∧j<fk p+(w+1)):=by
    intro w d x hw hd hx
    obtain ⟨R',h1,h2⟩:=yd7 h9 m _ _ (hp.next h9 hf hw hd) (by rw [hl]; omega) x (by rw [hl]; exact hx)
    have hg:((R++[(⟨fi p,fk p,d+1,w+1⟩:RmB)])++R')[R.length]?=some ⟨fi p,fk p,d+1,w+1⟩:=by
     rw [List.append_assoc,List.getElem?_append_right (qR _),Nat.sub_self]; rfl
    intro i j hi hj
    rw [h1.at_ _ _ hg i j hi hj]
    unfold RmB.has
    simp only
    omega
   have same:∀ w d w2 d2 x,w<fw p→d<H - fi p→w2<fw p→d2<H - fi p→x∈En m (zds p (fi p) (fk p) (w+1) (rl R.length) (fi p+(d+1))) (R.length+1) →
     x∈En m (zds p (fi p) (fk p) (w2+1) (rl R.length) (fi p+(d2+1))) (R.length+1)→w≤w2∧d≤d2:=by
    intro w d w2 d2 x hw hd hw2 hd2 hx hx2
    have k1:=((zoq hp.sh hf).1 hw).1
    have k2:=(tell w d x hw hd hx (fi p+d) (fk p+w) (by omega) k1).2 (by omega)
    have k3:=(tell w2 d2 x hw2 hd2 hx2 (fi p+d) (fk p+w) (by omega) k1).1 k2
    omega
   unfold En
   rw [hp.sh.h,if_pos hf]
   refine znt List.nodup_range (fun w hw=>?_) ?_
   ·have hw:=List.mem_range.1 hw
    refine znt List.nodup_range (fun d hd=>?_) ?_
    ·have:=z5t h9 m _ _ (hp.next h9 hf hw (List.mem_range.1 hd)) (by rw [hl]; omega)
     rw [hl]at this
     exact this
    intro d hd d2 hd2 x hx hx2
    have a1:=same w d w d2 x hw (List.mem_range.1 hd) hw (List.mem_range.1 hd2) hx hx2
    have a2:=same w d2 w d x hw (List.mem_range.1 hd2) hw (List.mem_range.1 hd) hx2 hx
    omega
   intro w hw w2 hw2 x hx hx2
   obtain ⟨d,hd,hx⟩:=List.mem_flatMap.1 hx
   obtain ⟨d2,hd2,hx2⟩:=List.mem_flatMap.1 hx2
   have a1:=same w d w2 d2 x (List.mem_range.1 hw) (List.mem_range.1 hd) (List.mem_range.1 hw2) (List.mem_range.1 hd2) hx hx2
   have a2:=same w2 d2 w d x (List.mem_range.1 hw2) (List.mem_range.1 hd2) (List.mem_range.1 hw) (List.mem_range.1 hd) hx2 hx
   omega
  unfold En
  rw [hp.sh.h,if_neg hf]
  simp
theorem z4l (h9:H*W≤9):(zdx H W).Nodup:=z5t h9 9 _ [] zqe rfl
end
section
theorem ybp {p:List Txt} {H W i k w e:Nat} {c:UInt8} (hp:Shp2 p H W) (h:∀ a b,a<H→b<W→(i≤a∧a<e)→(k≤b∧b<k+w)→ch p a b=46):zds (zds p i k w c e) i k w 46 e=p:=by
 have h1:Shp2 (zds p i k w c e) H W:=zlf hp
 refine z9e (zlf h1) hp fun a b ha hb=>?_
 rw [z6a h1 ha hb]
 split
 ·rename_i q; exact (h a b ha hb q.1 q.2).symm
 rename_i q; rw [z6a hp ha hb,if_neg q]
theorem zs1 {α β:Type} {f:α→List β} {l:List α} {w:Nat} {a:α} (h:l[w]?=some a):∃ r,l.flatMap f=(l.take w).flatMap f++f a++r:=by
 obtain ⟨hl,e⟩:=List.getElem?_eq_some_iff.1 h
 refine ⟨(l.drop (w+1)).flatMap f,?_⟩
 conv=>lhs; rw [← List.take_append_drop w l,List.drop_eq_getElem_cons hl,e]
 rw [List.flatMap_append,List.flatMap_cons,List.append_assoc]
theorem ycy {c:UInt8} (h:c=46∨97≤c.toNat):cI c = -1↔c=46:=by
 unfold cI
 by_cases e:c=46
 ·simp [e]
 rw [if_neg e]
 have:=h.resolve_left e
 constructor
 ·intro q; omega
 intro q; exact absurd q e
theorem St.letter {H W:Nat} {p:List Txt} {R:List RmB} (h:St H W p R) (hn:R.length≤9) {i j:Nat} (hi:i<H) (hj:j<W):ch p i j=46∨97≤(ch p i j).toNat:=by
 rcases h.val i j hi hj with e | ⟨v,hv,e⟩
 ·exact .inl e
 exact .inr (by rw [e,zgm (by omega)]; omega)
theorem St.rows {H W:Nat} {p:List Txt} {R:List RmB} (h:St H W p R) (hn:R.length≤9):∀ r∈p,∀ c∈r,c=46∨97≤c.toNat:=by
 intro r hr c hc
 obtain ⟨i,hi⟩:=List.getElem?_of_mem hr
 have hil:=za2 hi
 rw [h.sh.h]at hil
 obtain ⟨r',hr',hl,hx⟩:=h.sh.row hil
 rw [hi]at hr'
 cases hr'
 obtain ⟨j,hj⟩:=List.getElem?_of_mem hc
 have hjl:=za2 hj
 have:=hx j (by omega)
 rw [hj]at this
 cases this
 exact h.letter hn hil (by omega)
def tst (r:List Int):Bool:=r.contains (-1)
theorem yf2 {r:Txt} (h:∀ c∈r,c=46∨97≤c.toNat):tst (r.map cI)=r.contains 46:=by
 unfold tst
 rw [Bool.eq_iff_iff]
 simp only[List.contains_eq_mem,decide_eq_true_eq,List.mem_map]
 constructor
 ·rintro ⟨c,hc,e⟩; rw [← (ycy (h c hc)).1 e]; exact hc
 intro hc; exact ⟨46,hc,rfl⟩
theorem yde {p:List Txt} (h:∀ r∈p,∀ c∈r,c=46∨97≤c.toNat):ixf tst (gI p)=if fi p<p.length then ((fi p:Nat):Int) else -1:=by
 have e:(gI p).findIdx? tst=p.findIdx? fun r=>r.contains 46:=by
  unfold gI
  rw [List.findIdx?_map]
  have:∀ l:List Txt,(∀ r∈l,r∈p)→l.findIdx? (tst ∘ fun r=>r.map cI)=l.findIdx? fun r=>r.contains 46:=by
   intro l
   induction l with
   | nil=>intro _; rfl
   | cons a l ih =>
    intro hl
    rw [List.findIdx?_cons,List.findIdx?_cons,ih fun r hr=>hl r (by simp [hr])]
    show (if tst (a.map cI) then _ else _)=_
    rw [yf2 (h a (hl a (by simp)))]
  exact this p fun _ h=>h
 unfold ixf
 rw [e]
 unfold fi
 cases hq:p.findIdx? fun r=>r.contains 46 with
 | none =>
  rw [List.findIdx?_eq_none_iff_findIdx_eq]at hq
  rw [hq,if_neg (by omega)]
 | some i =>
  have:=List.findIdx?_eq_some_iff_findIdx_eq.1 hq
  rw [this.2,if_pos this.1]
section
variable {A tl:List Ob} {k u lb H W t:Nat} {p:List Txt}
theorem z4t {S:Store} {k2 b v w:Nat} {g:List (List Int)} (hw:∀ r∈g,r.length=w) (hg:∀ (j:Nat) r,g[j]?=some r→S.obs[b+j]?=some (.arr v 3 1 (r.map (.int .i64)))) :
  (lcW b v g.length w).mapM (reify S true (k2+2))=some (g.map eInts):=by
 induction g generalizing b with
 | nil=>rfl
 | cons a g ih =>
  have e:lcW b v (a::g).length w = .loc b v 0 w::lcW (b+1) v g.length w:=by
   unfold lcW
   rw [List.length_cons,List.range_succ_eq_map,List.map_cons,List.map_map]
   congr 1
   refine List.map_congr_left fun j _=>?_
   show PV.loc (b+(j+1)) v 0 w=PV.loc (b+1+j) v 0 w
   rw [show b+1+j=b+(j+1) by omega]
  rw [e,List.map_cons]
  refine zcd ?_ (ih (b:=b+1) (fun r hr=>hw r (by simp [hr])) fun j r hr=>by have:=hg (j+1) r (by simpa using hr); rwa [show b+(j+1)=b+1+j by omega]at this)
  have h0:=hg 0 a rfl
  have hal:a.length=w:=hw a (by simp)
  subst hal
  exact zbw (S:=S) (k:=k2+1) (n:=a.length) (o:=b) (ver:=v) (sz:=1) h0 (by simp) (zbc fun x hx=>by obtain ⟨z,_,rfl⟩:=List.mem_map.1 hx; rfl)
theorem z4r (hA:A.length=k) (hp:Shp2 p H W) {k2:Nat}:reify ⟨A++(zhv k u lb H W (gI p)++tl),t⟩ true (k2+3) (.loc (k+1) (u+1) 0 H)=some (zd5 (gI p)):=by
 have hgl:=zhz hp
 have h1:=zbw (S:=⟨A++(zhv k u lb H W (gI p)++tl),t⟩) (im:=true) (k:=k2+2) (n:=H) (ts:=(gI p).map eInts) (zj2 (u:=u) (lb:=lb) (H:=H) (W:=W) (g:=gI p) (tl:=tl) hA) (by rw [zb4]; omega) (by
  have:=z4t (S:=⟨A++(zhv k u lb H W (gI p)++tl),t⟩) (k2:=k2) (b:=k+2) (v:=u+1) (w:=W) (g:=gI p) (fun r hr=>by obtain ⟨x,hx,rfl⟩:=List.mem_map.1 hr; rw [List.length_map]; exact hp.w x hx) (fun j r hr=>yga hA hgl hr)
  rw [hgl]at this; exact this)
 rw [h1]
 show _=some (PV.sl _ (gI p).length)
 rw [hgl]
theorem ybx {S:Store} {k2 lo b v w:Nat} {g:List (List Int)} (hb:lo≤b) (hw:∀ r∈g,r.length=w) (hg:∀ (j:Nat) r,g[j]?=some r→S.obs[b+j]?=some (.arr v 3 1 (r.map (.int .i64)))) :
  (lcW b v g.length w).mapM (rfz S lo (k2+2))=some (g.map eInts):=by
 induction g generalizing b with
 | nil=>rfl
 | cons a g ih =>
  have e:lcW b v (a::g).length w = .loc b v 0 w::lcW (b+1) v g.length w:=by
   unfold lcW
   rw [List.length_cons,List.range_succ_eq_map,List.map_cons,List.map_map]
   congr 1
   refine List.map_congr_left fun j _=>?_
   show PV.loc (b+(j+1)) v 0 w=PV.loc (b+1+j) v 0 w
   rw [show b+1+j=b+(j+1) by omega]
  rw [e,List.map_cons]
  refine zcd ?_ (ih (b:=b+1) (by omega) (fun r hr=>hw r (by simp [hr])) fun j r hr=>by have:=hg (j+1) r (by simpa using hr); rwa [show b+(j+1)=b+1+j by omega]at this)
  have h0:=hg 0 a rfl
  have hal:a.length=w:=hw a (by simp)
  subst hal
  rw [Nat.add_zero]at h0
  have ht:(a.map (PV.int .i64)).take a.length=a.map (PV.int .i64):=qT (by simp)
  rw [zba,h0]
  simp only[Nat.zero_add,Nat.mul_one,List.length_map,qR,and_true,hb,if_true,List.drop_zero,ht,zau,qO]
theorem ybw (hA:A.length=k) (hp:Shp2 p H W):frz ⟨A++(zhv k u lb H W (gI p)++tl),t⟩ k 10 (.ref (k+2+H) (u+2) 0)=some (.ip [zd5 (gI p)] 0):=by
 have hgl:=zhz hp
 rw [z6v,if_neg (by omega)]
 obtain ⟨S,hS⟩:∃ S:Store,(⟨A++(zhv k u lb H W (gI p)++tl),t⟩:Store)=S:=⟨_,rfl⟩
 have e1:S.obs[k+2+H]?=some (.arr (u+2) 75 1 [.loc (k+1) (u+1) 0 H]):=by rw [← hS]; exact zkh hA hgl
 have e2:S.obs[k+1]?=some (.arr (u+1) 34 1 (lcW (k+2) (u+1) H W)):=by rw [← hS]; exact zj2 hA
 have e3:(lcW (k+2) (u+1) H W).mapM (rfz S k 8)=some ((gI p).map eInts):=by
  have:=ybx (S:=S) (k2:=6) (lo:=k) (b:=k+2) (v:=u+1) (w:=W) (g:=gI p) (by omega) (fun r hr=>by obtain ⟨x,hx,rfl⟩:=List.mem_map.1 hr; rw [List.length_map]; exact hp.w x hx) (fun j r hr=>by rw [← hS]; exact yga hA hgl hr)
  rw [hgl]at this; exact this
 have ht:(lcW (k+2) (u+1) H W).take H=lcW (k+2) (u+1) H W:=qT (by rw [zb4]; omega)
 have e4:rfz S k 9 (.loc (k+1) (u+1) 0 H)=some (zd5 (gI p)):=by
  rw [zba,e2]
  simp only[Nat.zero_add,Nat.mul_one,zb4,qR,and_true,show k≤k+1 by omega,if_true,List.drop_zero,ht,e3,qO]
  show _=some (PV.sl _ (gI p).length)
  rw [hgl]
 rw [hS]
 show (if k≤k+2+H then (S.cellsOf (k+2+H) (u+2)).bind fun cells=>(cells.mapM (rfz S k 9)).map (PV.ip · 0) else none)=_
 rw [if_pos (by omega)]
 have e5:S.cellsOf (k+2+H) (u+2)=some [.loc (k+1) (u+1) 0 H]:=by simp [Store.cellsOf,e1]
 rw [e5,Option.bind_some,zcd e4 rfl]; rfl
end
structure YC {σ:Type} (lb k H W:Nat) (pre:σ→List Ob) (fin:Nat→List Txt→Nat→List Ob × List Ob) (stop:List Txt→Bool) (nxt:σ→List Txt→σ):Prop where
 len:∀ s,(pre s).length=k
 finl:∀ r q x,(fin r q x).1.length=k
 ey:∀ s q t,zb1 q=true→Shp2 q H W→Ey Tryz.prog lb [zbj (gP q) (rP q)] ⟨pre s,t⟩ fun v S=>v = .bool (!stop q)∧∃ t2,if stop q=true then ∃ x,S=⟨(fin 0 q x).1++(fin 0 q x).2,t2⟩ else S=⟨pre (nxt s q),t2⟩
 sp:∀ r s,zvu k r (pre s)=some (pre s)
 lp1:∀ s q,zsh (pre s) (pre (nxt s q))
 lp2:∀ s q x,zsh (pre s) ((fin 0 q x).1++(fin 0 q x).2)
 sfin:∀ r q x,zvu k r ((fin 0 q x).1++(fin 0 q x).2)=some ((fin r q x).1++(fin r q x).2)
def zo7 {σ:Type} (k u lb H W:Nat) (pre:σ→List Ob) (fin:Nat→List Txt→Nat→List Ob × List Ob) (stop:List Txt→Bool) (nxt:σ→List Txt→σ) (L:List (List Txt)) (s:σ) (p:List Txt) (tl:List Ob) (v:PV) (S:Store):Prop :=
 match L.find? stop with
 | none=>v = .bool true∧∃ t,S=⟨pre (L.foldl nxt s)++(zhv k u lb H W (gI p)++tl),t⟩
 | some q=>v = .bool false∧∃ t x J,S=⟨(fin (H+4+tl.length+J.length) q x).1++(zhv k u lb H W (gI p)++(tl++(J++(fin (H+4+tl.length+J.length) q x).2))),t⟩
theorem ya9 (a b:Int):PC Tryz.prog 104 [.int .i64 a,.int .i64 b] (.int .i64 (-1)) true:=by
 refine PC.of ⟨Tryz.func104,by kernel_rfl,rfl,by kernel_rfl⟩ zan mixed (by show 2≤Tryz.f104.ntmps; decide) ?_
 refine W.r fun K hK=>?_
 simp(disch:=omega)only[↓RU,RV,RH,↓reduceIte,qE,reduceCtorEq,if_pos]
 apply hK;clear hK K
 refine W.r fun K hK=>?_
 simp(disch:=omega)only[↓RU,RV,RH,↓reduceIte,qE,reduceCtorEq,if_pos]
 apply hK;clear hK K
 refine W.ret ?_
 refine Br rfl ?_
 rfl
theorem zzv {l:List Int} (hl:l.length<2147483648) {x:Int} (hx:∀ (j:Nat),l[j]?≠some x):PC Tryz.prog 101 [eInts l,.int .i64 x] (.int .i64 (-1)) true:=by
 refine PC.of ⟨Tryz.func101,by kernel_rfl,rfl,by kernel_rfl⟩ zan mixed (by show 2≤Tryz.f101.ntmps; decide) ?_
 refine W.r fun K hK=>?_
 simp(disch:=omega)only[↓RU,RV,RH,↓reduceIte,qE,reduceCtorEq,if_pos]
 apply hK;clear hK K
 refine W.seq ?_
 refine W.r fun K hK=>?_
 simp(disch:=omega)only[↓RU,RV,RH,↓reduceIte,qE,reduceCtorEq,if_pos,zab,zaa]
 apply hK;clear hK K
 refine W.block ?_
 refine W.loop [0,1,7,8] (fun n vs S=>∃ i:Nat,n=l.length - i∧i≤l.length∧vs=[eInts l,.int .i64 x,.int .i64 l.length,.int .i64 i]∧S=⟨[],0⟩) (l.length) ?_ ?_
 ·refine ⟨0,0,rfl,Nat.zero_le _,?_,rfl⟩
  simp [Env.put,Env.of,zaf]
 rintro n vs S - ⟨i,rfl,h_i,rfl,rfl⟩
 refine W.r fun K hK=>?_
 simp(disch:=omega)only[↓RU,RV,RH,↓reduceIte,qE,reduceCtorEq,if_pos,w64,zaa]
 apply hK;clear hK K
 refine W.seq ?_
 refine W.cond rfl (fun h0=>?_) (fun h0=>?_)
 ·try simp only[RL]at h0
  obtain ⟨y,hy,-⟩:=zae (show i<l.length by omega)
  have hne:(x == y)=false:=by simpa using fun e=>hx i (by rw [hy,e])
  refine W.skip ?_
  refine xn ?_
  refine W.seq ?_
  refine W.block ?_
  refine W.r fun K hK=>?_
  simp(disch:=omega)only[↓RU,RV,RH,↓reduceIte,qE,reduceCtorEq,if_pos]
  apply hK;clear hK K
  refine W.r fun K hK=>?_
  simp(disch:=omega)only[↓RU,RV,RH,↓reduceIte,qE,reduceCtorEq,if_pos,w64,zab,zaa,hy,hne]
  apply hK;clear hK K
  refine W.cond rfl (fun h1=>?_) (fun h1=>?_)
  ·try simp only[RL]at h1
   exact absurd h1 (by simp)
  try simp only[RL]at h1
  refine W.skip ?_
  refine XbN ?_
  refine xn ?_
  refine W.k fun K hK=>?_
  simp(disch:=omega)only[↓RU,RV,RH,↓reduceIte,qE,reduceCtorEq,if_pos,w64,zaa]
  apply hK;clear hK K
  refine xn ?_
  refine ⟨l.length - (i+1),by omega,0,i+1,rfl,by omega,?_,rfl⟩
  simp [Env.put,Env.of]
 try simp only[RL]at h0
 obtain rfl:i=l.length:=by omega
 refine W.exit ?_
 refine xe ?_
 refine xe ?_
 refine XBlock.hit ?_
 refine xn ?_
 refine W.r fun K hK=>?_
 simp(disch:=omega)only[↓RU,RV,RH,↓reduceIte,qE,reduceCtorEq,if_pos]
 apply hK;clear hK K
 refine W.ret ?_
 refine Br rfl ?_
 rfl
theorem zr8 {l:List Int} (hl:l.length<2147483648) {x:Int} (hx:∀ (j:Nat),l[j]?≠some x):PC Tryz.prog 77 [eInts l,.int .i64 x] (.bool false) true:=by
 have hd:decide ((-1:Int) ≥ 0)=false:=by decide
 refine PC.of ⟨Tryz.func77,by kernel_rfl,rfl,by kernel_rfl⟩ zan mixed (by show 2≤Tryz.f77.ntmps; decide) ?_
 refine W.r fun K hK=>?_
 simp(disch:=omega)only[↓RU,RV,RH,↓reduceIte,qE,reduceCtorEq,if_pos]
 apply hK;clear hK K
 refine W.r fun K hK=>?_
 simp(disch:=omega)only[↓RU,RV,RH,↓reduceIte,qE,reduceCtorEq,if_pos,qN,w64,zaa,hd]
 refine zad.pc (zzv hl hx) rfl (.inl rfl) ?_
 simp(disch:=omega)only[↓RU,RV,RH,↓reduceIte,qE,reduceCtorEq,if_pos,qN,w64,zaa,hd]
 apply hK;clear hK K
 refine W.ret ?_
 refine Br rfl ?_
 rfl
theorem zwl {l:List Int} (hl:l.length<2147483648) {x:Int}:PC Tryz.prog 77 [eInts l,.int .i64 x] (.bool (l.contains x)) true:=by
 by_cases h:x∈l
 ·have hk:l.idxOf x<l.length:=List.idxOf_lt_length_of_mem h
  have e:l.contains x=true:=by simpa using h
  rw [e]
  exact zzj hl (i:=l.idxOf x) (by rw [List.getElem?_eq_getElem hk]; exact congrArg some (List.getElem_idxOf hk)) fun j hj hq=>by
   have:=List.not_of_lt_findIdx (p:=(· == x)) (xs:=l) (i:=j) (show j<l.findIdx (· == x) from hj)
   rw [List.getElem?_eq_getElem (by omega)]at hq
   rw [Option.some.inj hq]at this
   simp at this
 have e:l.contains x=false:=by simpa using h
 rw [e]
 exact zr8 hl fun j hj=>h (List.mem_of_getElem? hj)
theorem yc1 {l:List Int} (hl:l.length<2147483648):PC Tryz.prog 107 [eInts l] (.bool (tst l)) true:=by
 refine PC.of ⟨Tryz.func107,by kernel_rfl,rfl,by kernel_rfl⟩ zan mixed (by show 1≤Tryz.f107.ntmps; decide) ?_
 refine W.r fun K hK=>?_
 simp(disch:=omega)only[↓RU,RV,RH,↓reduceIte,qE,reduceCtorEq,if_pos]
 apply hK;clear hK K
 refine W.r fun K hK=>?_
 simp(disch:=omega)only[↓RU,RV,RH,↓reduceIte,qE,reduceCtorEq,if_pos,qN]
 refine zad.pc (zwl hl) rfl (.inl rfl) ?_
 simp(disch:=omega)only[↓RU,RV,RH,↓reduceIte,qE,reduceCtorEq,if_pos,qN]
 apply hK;clear hK K
 refine W.ret ?_
 refine Br rfl ?_
 rfl
theorem yez {σ:Type} {lb k nh nw:Nat} {pre:σ→List Ob} {fin:Nat→List Txt→Nat→List Ob × List Ob} {stop:List Txt→Bool} {nxt:σ→List Txt→σ} (Y:YC lb k nh nw pre fin stop nxt) {p:List Txt} {R:List RmB} (hs:St nh nw p R) (hn:R.length≤9) (h1:1≤nh) (h2:nh≤6) (h3:1≤nw) (h4:nw≤6) (hf:¬ fi p<nh) (s:σ) (t:Nat) (n:Int):Ev Tryz.prog 105 [.int .i64 n,.ip [zd5 (gI p)] 0,.ip [.yl lb] 0,.ip [.int .i64 nw] 0,.ip [.int .i64 nh] 0,.undef] ⟨pre s,t⟩ fun v S=>v = .bool (!stop p)∧∃ t2,if stop p=true then ∃ x,S=⟨(fin 0 p x).1++(fin 0 p x).2,t2⟩ else S=⟨pre (nxt s p),t2⟩:=by
 obtain ⟨q1,⟨q2,q3⟩,q4,q5⟩:=hs.plan hn hf h1 h2 h3 h4
 have hgl:=zhz hs.sh
 have hrw:∀ r∈gI p,r.length=nw:=fun r hr=>by obtain ⟨x,hx,rfl⟩:=List.mem_map.1 hr; rw [List.length_map]; exact hs.sh.w x hx
 have hix:=yde (hs.rows hn)
 rw [hs.sh.h,if_neg hf]at hix
 have hI:=zlb (l:=gI p) (by omega) (cap:=[]) (g:=107) rfl (test:=tst) fun x hx=>yc1 (by rw [hrw x hx]; omega)
 rw [hix]at hI
 have hS:=zln (g:=gI p) (by omega) (fun r hr=>by rw [hrw r hr]; omega) q2
 rw [q3,q4,q5]at hS
 have hY:=Y.ey s p t q1 hs.sh
 refine Ev.of ⟨Tryz.func105,by kernel_rfl,rfl,by kernel_rfl⟩ zan mixed (by show 6≤Tryz.f105.ntmps; decide) ?_
 refine W.r fun K hK=>?_
 simp(disch:=omega)only[↓RU,RV,RH,↓reduceIte,qE,reduceCtorEq,if_pos,↓RS,RG,qA,qM,qL]
 apply hK;clear hK K
 refine W.r fun K hK=>?_
 simp(disch:=omega)only[↓RU,RV,RH,↓reduceIte,qE,reduceCtorEq,if_pos,qN,↓RS,RG,qA,qM,qL,ty1,zab,zce,zaa,Int.toNat_zero,List.getElem?_cons_zero]
 refine zad.pc (hI) rfl (.inl rfl) ?_
 simp(disch:=omega)only[↓RU,RV,RH,↓reduceIte,qE,reduceCtorEq,if_pos,qN,↓RS,RG,qA,qM,qL,ty1,zab,zce,zaa,Int.toNat_zero,List.getElem?_cons_zero]
 apply hK;clear hK K
 refine W.seq ?_
 refine W.r fun K hK=>?_
 simp(disch:=omega)only[↓RU,RV,RH,↓reduceIte,qE,reduceCtorEq,if_pos,w64,↓RS,RG,qA,qM,qL,zaa]
 apply hK;clear hK K
 refine W.cond rfl (fun h0=>?_) (fun h0=>?_)
 ·try simp only[RL]at h0
  refine W.r fun K hK=>?_
  simp(disch:=omega)only[↓RU,RV,RH,↓reduceIte,qE,reduceCtorEq,if_pos,qN,↓RS,RG,qA,qM,qL,ty1,zab,zce,zaa,Int.toNat_zero,List.getElem?_cons_zero]
  refine zad.pc (hS) rfl (.inr rfl) ?_
  simp(disch:=omega)only[↓RU,RV,RH,↓reduceIte,qE,reduceCtorEq,if_pos,qN,↓RS,RG,qA,qM,qL,ty1,zab,zce,zaa,Int.toNat_zero,List.getElem?_cons_zero]
  apply hK;clear hK K
  refine W.r fun K hK=>?_
  simp(disch:=omega)only[↓RU,RV,RH,↓reduceIte,qE,reduceCtorEq,if_pos,qN,↓RS,RG,qA,qM,qL,yiz,Int.toNat_zero,List.getElem?_cons_zero]
  refine z98.ey (hY) ?_
  rintro _ S2 ⟨rfl,t2,hS2⟩
  simp(disch:=omega)only[↓RU,RV,RH,↓reduceIte,qE,reduceCtorEq,if_pos,qN,↓RS,RG,qA,qM,qL,yiz,Int.toNat_zero,List.getElem?_cons_zero]
  apply hK;clear hK K
  refine W.ret ?_
  refine XThen.ret ?_
  refine Br rfl ?_
  exact ⟨_,rfl,t2,by rw [zai]; exact hS2⟩
 try simp only[RL]at h0
 exact absurd h0 (by simp)
theorem zw4 {σ:Type} {lb k nh nw:Nat} {pre:σ→List Ob} {fin:Nat→List Txt→Nat→List Ob × List Ob} {stop:List Txt→Bool} {nxt:σ→List Txt→σ} (Y:YC lb k nh nw pre fin stop nxt) {p:List Txt} {R:List RmB} (hs:St nh nw p R) (hn:R.length≤9) (h1:1≤nh) (h2:nh≤6) (h3:1≤nw) (h4:nw≤6) (hf:¬ fi p<nh) {u:Nat} (s:σ) (tl:List Ob) (t:Nat) (n:Int) :
  Ev Tryz.prog 105 [.int .i64 n,.ref (k+2+nh) (u+2) 0,.ref k u 0,.ip [.int .i64 nw] 0,.ip [.int .i64 nh] 0,.ref (k+3+nh) (u+3) 0] ⟨pre s++(zhv k u lb nh nw (gI p)++tl),t⟩ (zo7 k u lb nh nw pre fin stop nxt [p] s p tl):=by
 have hk:=Y.len s
 have hgl:=zhz hs.sh
 have e0:=gO_y (u:=u) (lb:=lb) (H:=nh) (W:=nw) (g:=gI p) (tl:=tl) hk
 refine Ev.lend (yez Y hs hn h1 h2 h3 h4 hf s t n) ?_ ?_
 ·rw [hk]
  refine ⟨.inr rfl,.inr (ybw hk hs.sh),.inr ?_,.inr rfl,.inr rfl,.inl rfl,trivial⟩
  rw [z6v,if_neg (by omega)]
  obtain ⟨S,hS⟩:∃ S:Store,(⟨pre s++(zhv k u lb nh nw (gI p)++tl),t⟩:Store)=S:=⟨_,rfl⟩
  rw [hS]
  have e1:S.cellsOf k u=some [.yl lb]:=by rw [← hS]; simp only[Store.cellsOf,e0,if_true]
  show (if k≤k then (S.cellsOf k u).bind fun cells=>(cells.mapM (rfz S k 9)).map (PV.ip · 0) else none)=_
  rw [if_pos (qR _),e1]; rfl
 rintro v S ⟨rfl,t2,hS⟩
 have hR:(zhv k u lb nh nw (gI p)++tl).length=nh+4+tl.length:=by rw [List.length_append,zb7 hgl]
 rw [hk,hR]
 unfold zo7
 cases hst:stop p with
 | false =>
  rw [hst]at hS
  simp only[qF,if_false]at hS
  subst hS
  have hl:=Y.len (nxt s p)
  refine ⟨.bool true,_,rfl,Y.sp _ _,by omega,Y.lp1 s p,?_⟩
  simp only[List.find?_cons,hst,List.find?_nil]
  refine ⟨trivial,t2,?_⟩
  rw [qT (by omega),List.drop_of_length_le (by omega),qN]; rfl
 | true =>
  rw [hst]at hS
  simp only[if_true]at hS
  obtain ⟨x,rfl⟩:=hS
  have hl:=Y.finl (nh+4+tl.length) p x
  refine ⟨.bool false,_,rfl,Y.sfin _ _ _,by rw [List.length_append]; omega,Y.lp2 s p x,?_⟩
  simp only[List.find?_cons,hst]
  refine ⟨trivial,t2,x,[],?_⟩
  rw [List.take_left' hl,List.drop_left' hl]
  simp
def Cd (m:Nat) (p:List Txt) (n w d:Nat):List (List Txt):=En m (zds p (fi p) (fk p) (w+1) (rl n) (fi p+(d+1))) (n+1)
def Ld (m:Nat) (p:List Txt) (n w d:Nat):List (List Txt):=(List.range d).flatMap (Cd m p n w)
def Lw (m:Nat) (p:List Txt) (n H w:Nat):List (List Txt):=(List.range w).flatMap fun w=>Ld m p n w (H - fi p)
theorem zuj {m n w d:Nat} {p:List Txt}:Ld m p n w (d+1)=Ld m p n w d++Cd m p n w d:=by simp [Ld,qS]
theorem zuk {m n H w:Nat} {p:List Txt}:Lw m p n H (w+1)=Lw m p n H w++Ld m p n w (H - fi p):=by simp [Lw,qS]
theorem z99 {m n H w d W2:Nat} {p:List Txt} (hw:w<W2) (hd:d<H - fi p):∃ r,Lw m p n H W2=Lw m p n H w++Ld m p n w d++Cd m p n w d++r:=by
 obtain ⟨r1,h1⟩:=zs1 (f:=fun w=>Ld m p n w (H - fi p)) (l:=List.range W2) (w:=w) (a:=w) (List.getElem?_range hw)
 obtain ⟨r2,h2⟩:=zs1 (f:=Cd m p n w) (l:=List.range (H - fi p)) (w:=d) (a:=d) (List.getElem?_range hd)
 refine ⟨r2++r1,?_⟩
 rw [List.take_range,Nat.min_eq_left (by omega)]at h1 h2
 have e1:Lw m p n H W2=(List.range w).flatMap (fun w=>Ld m p n w (H - fi p))++Ld m p n w (H - fi p)++r1:=h1
 have e2:Ld m p n w (H - fi p)=Ld m p n w d++Cd m p n w d++r2:=h2
 rw [e1,e2]
 simp [Lw,List.append_assoc]
theorem yd6 {m n H:Nat} {p:List Txt} (h:p.length=H) (hf:fi p<H):En (m+1) p n=Lw m p n H (fw p):=by
 unfold En
 rw [h,if_pos hf]; rfl
theorem z4s {A tl:List Ob} {k u lb H W t:Nat} {p:List Txt} (hA:A.length=k) (hp:Shp2 p H W) {r:Nat} {row:Txt} (hr:p[r]?=some row):reify ⟨A++(zhv k u lb H W (gI p)++tl),t⟩ true 10 (.loc (k+2+r) (u+1) 0 W)=some (eInts (row.map cI)):=by
 have hl:row.length=W:=hp.w row (List.mem_of_getElem? hr)
 have h1:=zbw (S:=⟨A++(zhv k u lb H W (gI p)++tl),t⟩) (im:=true) (k:=9) (n:=W) (ts:=(row.map cI).map (.int .i64)) (yga (u:=u) (lb:=lb) (W:=W) (tl:=tl) hA (zhz hp) (z1q hr)) (by simp [hl]) (zbc fun x hx=>by obtain ⟨z,_,rfl⟩:=List.mem_map.1 hx; rfl)
 rw [h1]
 show _=some (PV.sl _ (row.map cI).length)
 rw [List.length_map,hl]
theorem yif {A B tl:List Ob} {x:Ob} {t:Nat} {S:Store} (h:(⟨A++(B++tl),t⟩:Store)=S):Store.take ⟨A++(B++(tl++[x])),t⟩ (A.length+(B.length+tl.length))=S:=zua.trans h
theorem zdb {tl R:List Ob} {x:Ob}:(tl++x::R)[tl.length]?=some x:=by rw [List.getElem?_append_right (qR _),Nat.sub_self]; rfl
theorem zdc {tl R:List Ob} {x y:Ob}:(tl++x::R).set tl.length y=tl++y::R:=by rw [List.set_append_right _ _ (qR _),Nat.sub_self]; rfl
theorem yaz {p:List Txt} {H W:Nat} (hp:Shp2 p H W) (hf:fi p<H):fk p+fw p≤W:=by
 rcases Nat.eq_zero_or_pos (fw p) with h | h
 ·have:=(zgz hp hf).1; omega
 have:=((zoq hp hf).1 (show fw p - 1<fw p by omega)).1; omega
theorem z1p {p:List Txt} {H W w:Nat} (hp:Shp2 p H W) (hf:fi p<H) (h:w≤fw p):w<fw p∨(w=fw p∧fk p+w<W∧ch p (fi p) (fk p+w)≠46)∨(w=fw p∧¬ fk p+w<W):=by
 rcases Nat.lt_or_eq_of_le h with h | h
 ·exact .inl h
 by_cases q:fk p+w<W
 ·refine .inr (.inl ⟨h,q,fun e=>?_⟩)
  have:¬ w<fw p:=by omega
  refine this ((zoq hp hf).2 ⟨q,fun b b1 b2=>?_⟩)
  by_cases e2:b=fk p+w
  ·rw [e2]; exact e
  have h3:b - fk p<fw p:=by omega
  exact ((zoq hp hf).1 h3).2 b b1 (by omega)
 exact .inr (.inr ⟨h,q⟩)
set_option maxHeartbeats 1000000 in
theorem z6r {σ:Type} {lb k nh nw:Nat} {pre:σ→List Ob} {fin:Nat→List Txt→Nat→List Ob × List Ob} {stop:List Txt→Bool} {nxt:σ→List Txt→σ} (Y:YC lb k nh nw pre fin stop nxt) {p:List Txt} {R:List RmB} (hs:St nh nw p R) (hn:R.length≤9) (h1:1≤nh) (h2:nh≤6) (h3:1≤nw) (h4:nw≤6) {m:Nat} (hm:R.length+(m+1)=9) (h9:nh*nw≤9) (hf:fi p<nh) {u:Nat} (s:σ) (tl:List Ob) (t:Nat)
  (ih:∀ w d,w<fw p→d<nh - fi p→∀ (s:σ) (tl:List Ob) (t:Nat),Ev Tryz.prog 105 [.int .i64 (((R.length:Nat):Int)+1),.ref (k+2+nh) (u+2) 0,.ref k u 0,.ip [.int .i64 nw] 0,.ip [.int .i64 nh] 0,.ref (k+3+nh) (u+3) 0] ⟨pre s++(zhv k u lb nh nw (gI (zds p (fi p) (fk p) (w+1) (rl R.length) (fi p+(d+1))))++tl),t⟩ (zo7 k u lb nh nw pre fin stop nxt (Cd m p R.length w d) s (zds p (fi p) (fk p) (w+1) (rl R.length) (fi p+(d+1))) tl)):Ev Tryz.prog 105 [.int .i64 (R.length:Nat),.ref (k+2+nh) (u+2) 0,.ref k u 0,.ip [.int .i64 nw] 0,.ip [.int .i64 nh] 0,.ref (k+3+nh) (u+3) 0] ⟨pre s++(zhv k u lb nh nw (gI p)++tl),t⟩ fun v S=>zo7 k u lb nh nw pre fin stop nxt (Lw m p R.length nh (fw p)) s p tl v S:=by
 have hfw:=yaz hs.sh hf
 have hcr:cI (rl R.length)=((R.length:Nat):Int):=by rw [cI,if_neg (zkw (by omega)),zgm (by omega)]; omega
 have hk:=Y.len s
 have hgl:=zhz hs.sh
 obtain ⟨f1,f2,f3⟩:=zgz hs.sh hf
 obtain ⟨hrr,hrl,-,hrx⟩:=z1n hs.sh hf
 have hlt:=hs.rows hn
 have hrw:∀ r∈gI p,r.length=nw:=fun r hr=>by obtain ⟨x,hx,rfl⟩:=List.mem_map.1 hr; rw [List.length_map]; exact hs.sh.w x hx
 have hix:=yde hlt
 rw [hs.sh.h,if_pos hf]at hix
 have hI:=zlb (l:=gI p) (by omega) (cap:=[]) (g:=107) rfl (test:=tst) fun x hx=>yc1 (by rw [hrw x hx]; omega)
 rw [hix]at hI
 have hX:=zno (l:=(z1m p).map cI) (by rw [List.length_map]; omega) (x := -1) (i:=fk p) (by rw [List.getElem?_map,hrx _ f1,f2]; rfl) fun j hj e=>by
  rw [List.getElem?_map,hrx j (by omega)]at e
  exact f3 (fi p) j hf (by omega) (.inr ⟨rfl,hj⟩) ((ycy (hs.letter hn hf (by omega))).1 (Option.some.inj e))
 refine Ev.of ⟨Tryz.func105,by kernel_rfl,rfl,by kernel_rfl⟩ zan mixed (by show 6≤Tryz.f105.ntmps; decide) ?_
 refine W.r fun K hK=>?_
 simp(disch:=omega)only[↓RU,RV,RH,↓reduceIte,qE,reduceCtorEq,if_pos,↓RS,RG,qA,qM,qL,List.append_assoc,List.length_append,List.cons_append,List.nil_append,hk,zb7 hgl,zil hk hgl,zd7 hk hgl,zdb,zdc,zd8,zd9,zkh hk hgl,zk7 hk hgl,zj2 hk,zc9 hf,zb4,zez]
 apply hK;clear hK K
 refine W.r fun K hK=>?_
 simp(disch:=omega)only[↓RU,RV,RH,↓reduceIte,qE,reduceCtorEq,if_pos,qN,↓RS,RG,qA,qM,qL,ty1,zab,zce,zaa,List.append_assoc,List.length_append,List.cons_append,List.nil_append,hk,zb7 hgl,zil hk hgl,zd7 hk hgl,zdb,zdc,zd8,zd9,zkh hk hgl,zk7 hk hgl,zj2 hk,zc9 hf,zb4,zez]
 refine zad.pc (hI) (zcd (z4r hk hs.sh (k2:=7)) (zcd rfl rfl)) (.inl rfl) ?_
 simp(disch:=omega)only[↓RU,RV,RH,↓reduceIte,qE,reduceCtorEq,if_pos,qN,↓RS,RG,qA,qM,qL,ty1,zab,zce,zaa,List.append_assoc,List.length_append,List.cons_append,List.nil_append,hk,zb7 hgl,zil hk hgl,zd7 hk hgl,zdb,zdc,zd8,zd9,zkh hk hgl,zk7 hk hgl,zj2 hk,zc9 hf,zb4,zez]
 apply hK;clear hK K
 refine W.seq ?_
 refine W.r fun K hK=>?_
 simp(disch:=omega)only[↓RU,RV,RH,↓reduceIte,qE,reduceCtorEq,if_pos,w64,↓RS,RG,qA,qM,qL,zaa,List.append_assoc,List.length_append,List.cons_append,List.nil_append,hk,zb7 hgl,zil hk hgl,zd7 hk hgl,zdb,zdc,zd8,zd9,zkh hk hgl,zk7 hk hgl,zj2 hk,zc9 hf,zb4,zez]
 apply hK;clear hK K
 refine W.cond rfl (fun h0=>?_) (fun h0=>?_)
 ·try simp only[RL]at h0
  exfalso; omega
 ·try simp only[RL]at h0
  refine W.skip ?_
  refine xn ?_
  refine W.r fun K hK=>?_
  simp(disch:=omega)only[↓RU,RV,RH,↓reduceIte,qE,reduceCtorEq,if_pos,qN,↓RS,RG,qA,qM,qL,ty1,zab,zce,zaa,List.append_assoc,List.length_append,List.cons_append,List.nil_append,hk,zb7 hgl,zil hk hgl,zd7 hk hgl,zdb,zdc,zd8,zd9,zkh hk hgl,zk7 hk hgl,zj2 hk,zc9 hf,zb4,zez]
  refine zad.pc (hX) (zcd (z4s hk hs.sh hrr) (zcd rfl rfl)) (.inl rfl) ?_
  simp(disch:=omega)only[↓RU,RV,RH,↓reduceIte,qE,reduceCtorEq,if_pos,qN,↓RS,RG,qA,qM,qL,ty1,zab,zce,zaa,List.append_assoc,List.length_append,List.cons_append,List.nil_append,hk,zb7 hgl,zil hk hgl,zd7 hk hgl,zdb,zdc,zd8,zd9,zkh hk hgl,zk7 hk hgl,zj2 hk,zc9 hf,zb4,zez]
  apply hK;clear hK K
  refine W.r fun K hK=>?_
  simp(disch:=omega)only[↓RU,RV,RH,↓reduceIte,qE,reduceCtorEq,if_pos,↓RS,RG,qA,qM,qL,List.append_assoc,List.length_append,List.cons_append,List.nil_append,hk,zb7 hgl,zil hk hgl,zd7 hk hgl,zdb,zdc,zd8,zd9,zkh hk hgl,zk7 hk hgl,zj2 hk,zc9 hf,zb4,zez]
  apply hK;clear hK K
  refine W.seq ?_
  refine W.r fun K hK=>?_
  simp(disch:=omega)only[↓RU,RV,RH,↓reduceIte,qE,reduceCtorEq,if_pos,↓RS,RG,qA,qM,qL,List.append_assoc,List.length_append,List.cons_append,List.nil_append,hk,zb7 hgl,zil hk hgl,zd7 hk hgl,zdb,zdc,zd8,zd9,zkh hk hgl,zk7 hk hgl,zj2 hk,zc9 hf,zb4,zez]
  apply hK;clear hK K
  refine W.block ?_
  refine W.loop [0,1,2,3,4,5,8,11,12,13] (fun n vs S=>∃ w t:Nat,n=fw p - w∧w≤fw p∧((Lw m p R.length nh w).find? stop=none)∧vs=[.int .i64 (R.length:Nat),.ref (k+2+nh) (u+2) 0,.ref k u 0,.ip [.int .i64 nw] 0,.ip [.int .i64 nh] 0,.ref (k+3+nh) (u+3) 0,.int .i64 (fi p:Nat),.int .i64 (fk p:Nat),.fn 109 [.ref (k+2+nh) (u+2) 0],.int .i64 ((w+1:Nat):Int)]∧S=⟨pre ((Lw m p R.length nh w).foldl nxt s)++(zhv k u lb nh nw (gI p)++tl),t⟩) (fw p) ?_ ?_
  ·refine ⟨_,0,t,rfl,Nat.zero_le _,rfl,?_,zal ?_⟩
   rotate_left
   ·rfl
   simp [Env.put,Env.of,zaf]
  rintro n vs S - ⟨w,t,rfl,h_w,hno,rfl,rfl⟩
  have hk:=Y.len ((Lw m p R.length nh w).foldl nxt s)
  refine W.seq ?_
  refine W.r fun K hK=>?_
  rcases (show w<fw p∨(w=fw p∧fk p+w<nw∧ch p (fi p) (fk p+w)≠46)∨(w=fw p∧¬ fk p+w<nw) from z1p hs.sh hf h_w) with hw | ⟨hw,hw2,hw3⟩ | ⟨hw,hw2⟩
  ·skip
   obtain ⟨hw1,hw2⟩:=(zoq hs.sh hf).1 hw
   have hc:=hrx _ hw1
   rw [hw2 _ (by omega) (by omega)]at hc
   have e1:decide (((fk p:Nat):Int)+((w+1:Nat):Int)≤(nw:Int))=true:=decide_eq_true (by omega)
   have e2:decide (cI 46<0)=true:=rfl
   have tn:(((fk p:Nat):Int)+((w+1:Nat):Int) - 1).toNat=fk p+w:=by omega
   have gr:=yga (u:=u) (lb:=lb) (W:=nw) (tl:=tl) hk hgl (z1q hrr)
   simp(disch:=omega)only[↓RU,RV,RH,↓reduceIte,qE,reduceCtorEq,if_pos,w64,↓RS,RG,qA,qM,qL,ty1,zab,zce,zaa,List.append_assoc,List.length_append,List.cons_append,List.nil_append,hk,zb7 hgl,zil hk hgl,zd7 hk hgl,zdb,zdc,zd8,zd9,zkh hk hgl,zk7 hk hgl,zj2 hk,zc9 hf,zb4,zez,e1,e2,tn,hc,gr,hrl]
   apply hK;clear hK K
   refine W.cond rfl (fun h8=>?_) (fun h8=>?_)
   ·try simp only[RL]at h8
    refine W.skip ?_
    refine xn ?_
    refine W.seq ?_
    refine W.block ?_
    refine W.r fun K hK=>?_
    simp(disch:=omega)only[↓RU,RV,RH,↓reduceIte,qE,reduceCtorEq,if_pos,↓RS,RG,qA,qM,qL,List.append_assoc,List.length_append,List.cons_append,List.nil_append,hk,zb7 hgl,zil hk hgl,zd7 hk hgl,zdb,zdc,zd8,zd9,zkh hk hgl,zk7 hk hgl,zj2 hk,zc9 hf,zb4,zez]
    apply hK;clear hK K
    refine W.block ?_
    refine W.loop [0,1,2,3,4,5,8,11,12,13,14] (fun n vs S=>∃ d t:Nat,n=nh - fi p - d∧d≤nh - fi p∧((Lw m p R.length nh w++Ld m p R.length w d).find? stop=none)∧vs=[.int .i64 (R.length:Nat),.ref (k+2+nh) (u+2) 0,.ref k u 0,.ip [.int .i64 nw] 0,.ip [.int .i64 nh] 0,.ref (k+3+nh) (u+3) 0,.int .i64 (fi p:Nat),.int .i64 (fk p:Nat),.fn 109 [.ref (k+2+nh) (u+2) 0],.int .i64 ((w+1:Nat):Int),.int .i64 ((d+1:Nat):Int)]∧S=⟨pre ((Lw m p R.length nh w++Ld m p R.length w d).foldl nxt s)++(zhv k u lb nh nw (gI p)++tl),t⟩) (nh - fi p) ?_ ?_
    ·have hl0:(Lw m p R.length nh w++Ld m p R.length w 0)=(Lw m p R.length nh w):=by rw [show Ld m p R.length w 0=[] from rfl,qN]
     refine ⟨_,0,t,rfl,Nat.zero_le _,by rw [hl0]; exact hno,?_,zal ?_⟩
     rotate_left
     ·rw [hl0]
     simp [Env.put,Env.of]
    rintro n vs S - ⟨d,t,rfl,h_d,hno2,rfl,rfl⟩
    have hk:=Y.len ((Lw m p R.length nh w++Ld m p R.length w d).foldl nxt s)
    refine W.seq ?_
    refine W.r fun K hK=>?_
    simp(disch:=omega)only[↓RU,RV,RH,↓reduceIte,qE,reduceCtorEq,if_pos,w64,↓RS,RG,qA,qM,qL,zaa,List.append_assoc,List.length_append,List.cons_append,List.nil_append,hk,zb7 hgl,zil hk hgl,zd7 hk hgl,zdb,zdc,zd8,zd9,zkh hk hgl,zk7 hk hgl,zj2 hk,zc9 hf,zb4,zez]
    apply hK;clear hK K
    refine W.cond rfl (fun h2c=>?_) (fun h2c=>?_)
    ·try simp only[RL]at h2c
     have hd:d<nh - fi p:=by omega
     have hps:Shp2 (zds p (fi p) (fk p) (w+1) (rl R.length) (fi p+(d+1))) nh nw:=zlf hs.sh
     have hbk:=ybp (c:=rl R.length) (i:=fi p) (k:=fk p) (w:=w+1) (e:=fi p+(d+1)) hs.sh fun a b ha hb q1 q2=>hs.col (fi p) b a hf hb (hw2 b q2.1 (by omega)) q1.1 ha
     refine W.skip ?_
     refine xn ?_
     refine W.seq ?_
     refine W.block ?_
     refine W.r fun K hK=>?_
     simp(disch:=omega)only[↓RU,RV,RH,↓reduceIte,qE,reduceCtorEq,if_pos,↓RS,RG,qA,qM,qL,zdt,zaa,zdu,List.append_assoc,List.length_append,List.cons_append,List.nil_append,hk,zb7 hgl,zil hk hgl,zd7 hk hgl,zdb,zdc,zd8,zd9,zkh hk hgl,zk7 hk hgl,zj2 hk,zc9 hf,zb4,zez]
     apply hK;clear hK K
     refine W.r fun K hK=>?_
     simp(disch:=omega)only[↓RU,RV,RH,↓reduceIte,qE,reduceCtorEq,if_pos,qN,↓RS,RG,qA,qM,qL,zdt,zaa,zdu,List.append_assoc,List.length_append,List.cons_append,List.nil_append,hk,zb7 hgl,zil hk hgl,zd7 hk hgl,zdb,zdc,zd8,zd9,zkh hk hgl,zk7 hk hgl,zj2 hk,zc9 hf,zb4,zez]
     have hE:=zll (u:=u) (lb:=lb) (tl:=tl++[Ob.arr t 92 4 [.int .i64 (fi p:Nat),.int .i64 (fk p:Nat),.int .i64 ((d+1:Nat):Int),.int .i64 ((w+1:Nat):Int)]]) (t:=t+1) (c:=rl R.length) hk hs.sh (i:=fi p) (kk:=fk p) (d:=d+1) (w:=w+1) (by omega) (by omega) h2 h4
     rw [hcr]at hE
     refine zad.ev (hE) ?_
     rintro _ _ ⟨rfl,t2,-,rfl⟩
     simp(disch:=omega)only[↓RU,RV,RH,↓reduceIte,qE,reduceCtorEq,if_pos,qN,↓RS,RG,qA,qM,qL,zdt,zaa,zdu,List.append_assoc,List.length_append,List.cons_append,List.nil_append,hk,zb7 hgl,zil hk hgl,zd7 hk hgl,zdb,zdc,zd8,zd9,zkh hk hgl,zk7 hk hgl,zj2 hk,zc9 hf,zb4,zez]
     apply hK;clear hK K
     refine W.r fun K hK=>?_
     rcases hF:(Cd m p R.length w d).find? stop with _ | q
     ·skip
      have hgl:=zhz hps
      simp(disch:=omega)only[↓RU,RV,RH,↓reduceIte,qE,reduceCtorEq,if_pos,w64,qN,↓RS,RG,qA,qM,qL,ydx,zaa,List.append_assoc,List.length_append,List.cons_append,List.nil_append,hk,zb7 hgl,zil hk hgl,zd7 hk hgl,zdb,zdc,zd8,zd9,zkh hk hgl,zk7 hk hgl,zj2 hk,zc9 hf,zb4,zez]
      refine zad.ev (ih w d hw hd _ _ _) ?_
      rintro _ _ hR
      simp only[zo7,hF]at hR
      obtain ⟨rfl,t3,rfl⟩:=hR
      simp(disch:=omega)only[↓RU,RV,RH,↓reduceIte,qE,reduceCtorEq,if_pos,w64,qN,↓RS,RG,qA,qM,qL,ydx,zaa,List.append_assoc,List.length_append,List.cons_append,List.nil_append,hk,zb7 hgl,zil hk hgl,zd7 hk hgl,zdb,zdc,zd8,zd9,zkh hk hgl,zk7 hk hgl,zj2 hk,zc9 hf,zb4,zez]
      apply hK;clear hK K
      refine W.r fun K hK=>?_
      have hk:=Y.len ((Cd m p R.length w d).foldl nxt ((Lw m p R.length nh w++Ld m p R.length w d).foldl nxt s))
      simp(disch:=omega)only[↓RU,RV,RH,↓reduceIte,qE,reduceCtorEq,if_pos,qN,↓RS,RG,qA,qM,qL,zdt,zaa,zdu,List.append_assoc,List.length_append,List.cons_append,List.nil_append,hk,zb7 hgl,zil hk hgl,zd7 hk hgl,zdb,zdc,zd8,zd9,zkh hk hgl,zk7 hk hgl,zj2 hk,zc9 hf,zb4,zez]
      have hE:=zll (u:=u) (lb:=lb) (tl:=tl++[Ob.arr t 92 4 [.int .i64 (fi p:Nat),.int .i64 (fk p:Nat),.int .i64 ((d+1:Nat):Int),.int .i64 ((w+1:Nat):Int)]]) (t:=t3) (c:=46) hk hps (i:=fi p) (kk:=fk p) (d:=d+1) (w:=w+1) (by omega) (by omega) h2 h4
      rw [hbk,show cI 46 = -1 from rfl]at hE
      refine zad.ev (hE) ?_
      rintro _ _ ⟨rfl,t4,-,rfl⟩
      simp(disch:=omega)only[↓RU,RV,RH,↓reduceIte,qE,reduceCtorEq,if_pos,qN,↓RS,RG,qA,qM,qL,zdt,zaa,zdu,List.append_assoc,List.length_append,List.cons_append,List.nil_append,hk,zb7 hgl,zil hk hgl,zd7 hk hgl,zdb,zdc,zd8,zd9,zkh hk hgl,zk7 hk hgl,zj2 hk,zc9 hf,zb4,zez]
      apply hK;clear hK K
      refine W.r fun K hK=>?_
      simp(disch:=omega)only[↓RU,RV,RH,↓reduceIte,qE,reduceCtorEq,if_pos,↓RS,RG,qA,qM,qL,List.append_assoc,List.length_append,List.cons_append,List.nil_append,hk,zb7 hgl,zil hk hgl,zd7 hk hgl,zdb,zdc,zd8,zd9,zkh hk hgl,zk7 hk hgl,zj2 hk,zc9 hf,zb4,zez]
      apply hK;clear hK K
      refine W.cond rfl (fun h3c=>?_) (fun h3c=>?_)
      ·try simp only[RL]at h3c
       exact absurd h3c (by simp)
      ·try simp only[RL]at h3c
       refine W.skip ?_
       refine XbN ?_
       refine xn ?_
       refine W.k fun K hK=>?_
       simp(disch:=omega)only[↓RU,RV,RH,↓reduceIte,qE,reduceCtorEq,if_pos,w64,↓RS,RG,qA,qM,qL,zaa,List.append_assoc,List.length_append,List.cons_append,List.nil_append,hk,zb7 hgl,zil hk hgl,zd7 hk hgl,zdb,zdc,zd8,zd9,zkh hk hgl,zk7 hk hgl,zj2 hk,zc9 hf,zb4,zez]
       apply hK;clear hK K
       refine xn ?_
       refine ⟨nh - fi p - (d+1),by omega,_,d+1,t4,rfl,by omega,?_,?_,yif ?_⟩
       rotate_left 2
       ·simp only[zuj,← List.append_assoc,List.foldl_append]
       ·rw [zuj,← List.append_assoc,List.find?_append,hno2,Option.none_or]; exact hF
       simp [Env.put,Env.of]
     skip
     have hgl:=zhz hps
     simp(disch:=omega)only[↓RU,RV,RH,↓reduceIte,qE,reduceCtorEq,if_pos,w64,qN,↓RS,RG,qA,qM,qL,ydx,zaa,List.append_assoc,List.length_append,List.cons_append,List.nil_append,hk,zb7 hgl,zil hk hgl,zd7 hk hgl,zdb,zdc,zd8,zd9,zkh hk hgl,zk7 hk hgl,zj2 hk,zc9 hf,zb4,zez]
     refine zad.ev (ih w d hw hd _ _ _) ?_
     rintro _ _ hR
     simp only[zo7,hF]at hR
     obtain ⟨rfl,t3,x,J,hS3⟩:=hR
     have hz:nh+4+(tl++[Ob.arr t 92 4 [.int .i64 (fi p:Nat),.int .i64 (fk p:Nat),.int .i64 ((d+1:Nat):Int),.int .i64 ((w+1:Nat):Int)]]).length+J.length=nh+4+tl.length+(Ob.arr t 92 4 [.int .i64 (fi p:Nat),.int .i64 (fk p:Nat),.int .i64 ((d+1:Nat):Int),.int .i64 ((w+1:Nat):Int)]::J).length:=by simp only[List.length_append,List.length_cons,List.length_nil]; omega
     rw [hz]at hS3
     generalize hG:fin (nh+4+tl.length+(Ob.arr t 92 4 [.int .i64 (fi p:Nat),.int .i64 (fk p:Nat),.int .i64 ((d+1:Nat):Int),.int .i64 ((w+1:Nat):Int)]::J).length) q x=G at hS3
     subst hS3
     simp(disch:=omega)only[↓RU,RV,RH,↓reduceIte,qE,reduceCtorEq,if_pos,w64,qN,↓RS,RG,qA,qM,qL,ydx,zaa,List.append_assoc,List.length_append,List.cons_append,List.nil_append,hk,zb7 hgl,zil hk hgl,zd7 hk hgl,zdb,zdc,zd8,zd9,zkh hk hgl,zk7 hk hgl,zj2 hk,zc9 hf,zb4,zez]
     apply hK;clear hK K
     refine W.r fun K hK=>?_
     have hk:G.1.length=k:=by rw [← hG]; exact Y.finl _ q x
     simp(disch:=omega)only[↓RU,RV,RH,↓reduceIte,qE,reduceCtorEq,if_pos,qN,↓RS,RG,qA,qM,qL,zdt,zaa,zdu,List.append_assoc,List.length_append,List.cons_append,List.nil_append,hk,zb7 hgl,zil hk hgl,zd7 hk hgl,zdb,zdc,zd8,zd9,zkh hk hgl,zk7 hk hgl,zj2 hk,zc9 hf,zb4,zez]
     have hE:=zll (u:=u) (lb:=lb) (tl:=tl++Ob.arr t 92 4 [.int .i64 (fi p:Nat),.int .i64 (fk p:Nat),.int .i64 ((d+1:Nat):Int),.int .i64 ((w+1:Nat):Int)]::(J++G.2)) (t:=t3) (c:=46) hk hps (i:=fi p) (kk:=fk p) (d:=d+1) (w:=w+1) (by omega) (by omega) h2 h4
     rw [hbk,show cI 46 = -1 from rfl]at hE
     refine zad.ev (hE) ?_
     rintro _ _ ⟨rfl,t4,-,rfl⟩
     simp(disch:=omega)only[↓RU,RV,RH,↓reduceIte,qE,reduceCtorEq,if_pos,qN,↓RS,RG,qA,qM,qL,zdt,zaa,zdu,List.append_assoc,List.length_append,List.cons_append,List.nil_append,hk,zb7 hgl,zil hk hgl,zd7 hk hgl,zdb,zdc,zd8,zd9,zkh hk hgl,zk7 hk hgl,zj2 hk,zc9 hf,zb4,zez]
     apply hK;clear hK K
     refine W.r fun K hK=>?_
     simp(disch:=omega)only[↓RU,RV,RH,↓reduceIte,qE,reduceCtorEq,if_pos,↓RS,RG,qA,qM,qL,List.append_assoc,List.length_append,List.cons_append,List.nil_append,hk,zb7 hgl,zil hk hgl,zd7 hk hgl,zdb,zdc,zd8,zd9,zkh hk hgl,zk7 hk hgl,zj2 hk,zc9 hf,zb4,zez]
     apply hK;clear hK K
     refine W.cond rfl (fun h3c=>?_) (fun h3c=>?_)
     ·try simp only[RL]at h3c
      refine W.r fun K hK=>?_
      simp(disch:=omega)only[↓RU,RV,RH,↓reduceIte,qE,reduceCtorEq,if_pos,↓RS,RG,qA,qM,qL,List.append_assoc,List.length_append,List.cons_append,List.nil_append,hk,zb7 hgl,zil hk hgl,zd7 hk hgl,zdb,zdc,zd8,zd9,zkh hk hgl,zk7 hk hgl,zj2 hk,zc9 hf,zb4,zez]
      apply hK;clear hK K
      refine W.ret ?_
      refine XBlock.ret ?_
      refine XThen.ret ?_
      refine XThen.ret ?_
      refine XBlock.ret ?_
      refine XBlock.ret ?_
      refine XThen.ret ?_
      refine XThen.ret ?_
      refine XBlock.ret ?_
      refine XThen.ret ?_
      refine Br rfl ?_
      obtain ⟨r,hr⟩:=z99 (m:=m) (p:=p) (n:=R.length) hw hd
      exact ⟨_,by rw [zo7,hr,List.find?_append,List.find?_append,hno2,hF]; exact ⟨rfl,t4,x,Ob.arr t 92 4 [.int .i64 (fi p:Nat),.int .i64 (fk p:Nat),.int .i64 ((d+1:Nat):Int),.int .i64 ((w+1:Nat):Int)]::J,by rw [hG]; exact zai⟩⟩
     try simp only[RL]at h3c
     exact absurd h3c (by simp)
    ·try simp only[RL]at h2c
     obtain rfl:d=nh - fi p:=by omega
     refine W.exit ?_
     refine xe ?_
     refine xe ?_
     refine XBlock.hit ?_
     refine XbN ?_
     refine xn ?_
     refine W.k fun K hK=>?_
     simp(disch:=omega)only[↓RU,RV,RH,↓reduceIte,qE,reduceCtorEq,if_pos,w64,↓RS,RG,qA,qM,qL,zaa,List.append_assoc,List.length_append,List.cons_append,List.nil_append,hk,zb7 hgl,zil hk hgl,zd7 hk hgl,zdb,zdc,zd8,zd9,zkh hk hgl,zk7 hk hgl,zj2 hk,zc9 hf,zb4,zez]
     apply hK;clear hK K
     refine xn ?_
     refine ⟨fw p - (w+1),by omega,_,w+1,t,rfl,by omega,?_,?_,zal ?_⟩
     ·rw [zuk]; exact hno2
     rotate_left
     ·rw [zuk]
     simp [Env.put,Env.of]
   try simp only[RL]at h8
   exact absurd h8 (by simp)
  ·skip
   have hc:=hrx _ hw2
   have hlc:=(hs.letter hn hf hw2).resolve_left hw3
   have e1:decide (((fk p:Nat):Int)+((w+1:Nat):Int)≤(nw:Int))=true:=decide_eq_true (by omega)
   have e2:decide (cI (ch p (fi p) (fk p+w))<0)=false:=decide_eq_false (by unfold cI; rw [if_neg hw3]; omega)
   have tn:(((fk p:Nat):Int)+((w+1:Nat):Int) - 1).toNat=fk p+w:=by omega
   have gr:=yga (u:=u) (lb:=lb) (W:=nw) (tl:=tl) hk hgl (z1q hrr)
   simp(disch:=omega)only[↓RU,RV,RH,↓reduceIte,qE,reduceCtorEq,if_pos,w64,↓RS,RG,qA,qM,qL,ty1,zab,zce,zaa,List.append_assoc,List.length_append,List.cons_append,List.nil_append,hk,zb7 hgl,zil hk hgl,zd7 hk hgl,zdb,zdc,zd8,zd9,zkh hk hgl,zk7 hk hgl,zj2 hk,zc9 hf,zb4,zez,e1,e2,tn,hc,gr,hrl]
   apply hK;clear hK K
   refine W.cond rfl (fun h8=>?_) (fun h8=>?_)
   ·try simp only[RL]at h8
    exact absurd h8 (by simp)
   try simp only[RL]at h8
   subst hw
   refine W.exit ?_
   refine xe ?_
   refine xe ?_
   refine XBlock.hit ?_
   refine xn ?_
   refine W.r fun K hK=>?_
   simp(disch:=omega)only[↓RU,RV,RH,↓reduceIte,qE,reduceCtorEq,if_pos,↓RS,RG,qA,qM,qL,List.append_assoc,List.length_append,List.cons_append,List.nil_append,hk,zb7 hgl,zil hk hgl,zd7 hk hgl,zdb,zdc,zd8,zd9,zkh hk hgl,zk7 hk hgl,zj2 hk,zc9 hf,zb4,zez]
   apply hK;clear hK K
   refine W.ret ?_
   refine Br rfl ?_
   exact ⟨_,by rw [zo7,hno]; exact ⟨rfl,t,zai⟩⟩
  skip
  have e1:decide (((fk p:Nat):Int)+((w+1:Nat):Int)≤(nw:Int))=false:=decide_eq_false (by omega)
  simp(disch:=omega)only[↓RU,RV,RH,↓reduceIte,qE,reduceCtorEq,if_pos,w64,↓RS,RG,qA,qM,qL,ty1,zab,zce,zaa,List.append_assoc,List.length_append,List.cons_append,List.nil_append,hk,zb7 hgl,zil hk hgl,zd7 hk hgl,zdb,zdc,zd8,zd9,zkh hk hgl,zk7 hk hgl,zj2 hk,zc9 hf,zb4,zez,e1]
  apply hK;clear hK K
  refine W.cond rfl (fun h8=>?_) (fun h8=>?_)
  ·try simp only[RL]at h8
   exact absurd h8 (by simp)
  try simp only[RL]at h8
  subst hw
  refine W.exit ?_
  refine xe ?_
  refine xe ?_
  refine XBlock.hit ?_
  refine xn ?_
  refine W.r fun K hK=>?_
  simp(disch:=omega)only[↓RU,RV,RH,↓reduceIte,qE,reduceCtorEq,if_pos,↓RS,RG,qA,qM,qL,List.append_assoc,List.length_append,List.cons_append,List.nil_append,hk,zb7 hgl,zil hk hgl,zd7 hk hgl,zdb,zdc,zd8,zd9,zkh hk hgl,zk7 hk hgl,zj2 hk,zc9 hf,zb4,zez]
  apply hK;clear hK K
  refine W.ret ?_
  refine Br rfl ?_
  exact ⟨_,by rw [zo7,hno]; exact ⟨rfl,t,zai⟩⟩
theorem zij {l:Nat}:(PV.yl l).cells=[.yl l]:=rfl
theorem zzu {l:Nat}:(PV.yl l).isCell=true:=rfl
theorem z6q {σ:Type} {lb k nh nw:Nat} {pre:σ→List Ob} {fin:Nat→List Txt→Nat→List Ob × List Ob} {stop:List Txt→Bool} {nxt:σ→List Txt→σ} (Y:YC lb k nh nw pre fin stop nxt) (h1:1≤nh) (h2:nh≤6) (h3:1≤nw) (h4:nw≤6) (h9:nh*nw≤9):∀ (m:Nat) {p:List Txt} {R:List RmB},St nh nw p R→R.length+m=9→∀ (u:Nat) (s:σ) (tl:List Ob) (t:Nat) (n:Int),n=(R.length:Nat) →
  Ev Tryz.prog 105 [.int .i64 n,.ref (k+2+nh) (u+2) 0,.ref k u 0,.ip [.int .i64 nw] 0,.ip [.int .i64 nh] 0,.ref (k+3+nh) (u+3) 0] ⟨pre s++(zhv k u lb nh nw (gI p)++tl),t⟩ (zo7 k u lb nh nw pre fin stop nxt (En m p R.length) s p tl)
 | 0,p,R,hs,hm,u,s,tl,t,n,hn=>by
  have hf:¬ fi p<nh:=fun hf=>by
   obtain ⟨f1,f2,-⟩:=zgz hs.sh hf
   have:=hs.lim hf f1 f2
   omega
  exact zw4 Y hs (by omega) h1 h2 h3 h4 hf s tl t n
 | m+1,p,R,hs,hm,u,s,tl,t,n,hn=>by
  subst hn
  by_cases hf:fi p<nh
  ·rw [yd6 hs.sh.h hf]
   refine z6r Y hs (by omega) h1 h2 h3 h4 hm h9 hf s tl t fun w d hw hd s tl t=>?_
   have hl:(R++[(⟨fi p,fk p,d+1,w+1⟩:RmB)]).length=R.length+1:=by simp
   have:=z6q Y h1 h2 h3 h4 h9 m (hs.next h9 hf hw hd) (by omega) u s tl t (((R.length:Nat):Int)+1) (by rw [hl]; rfl)
   rw [hl]at this
   exact this
  have e:En (m+1) p R.length=[p]:=by
   unfold En
   rw [hs.sh.h,if_neg hf]
  rw [e]
  exact zw4 Y hs (by omega) h1 h2 h3 h4 hf s tl t _
theorem yag {nh nw:Nat}:bgT (fun _ _ => -1) nw nh=gI (dots nh nw):=by
 unfold bgT gI dots
 rw [List.map_replicate,List.map_replicate,List.map_const',List.map_const',List.length_range,List.length_range]
 rfl
theorem yhg {A Rw tl:List Ob} {y o:Ob} {k nh n:Nat} (hA:A.length=k) (hR:Rw.length=nh) (j:Nat) (hn:n=k+(nh+2+j)):(A++y::o::(Rw++tl))[n]?=tl[j]?:=by
 subst hn
 rw [List.getElem?_append_right (by omega),show k+(nh+2+j) - A.length=nh+j+1+1 by omega,List.getElem?_cons_succ,List.getElem?_cons_succ,List.getElem?_append_right (by omega)]
 congr 1; omega
theorem yhh {A Rw tl:List Ob} {y o b:Ob} {k nh n:Nat} (hA:A.length=k) (hR:Rw.length=nh) (j:Nat) (hn:n=k+(nh+2+j)):(A++y::o::(Rw++tl)).set n b=A++y::o::(Rw++tl.set j b):=by
 subst hn
 rw [List.set_append_right _ _ (by omega),show k+(nh+2+j) - A.length=nh+j+1+1 by omega,List.set_cons_succ,List.set_cons_succ,List.set_append_right _ _ (by omega)]
 congr 5; omega
def yh7 {σ:Type} (pre:σ→List Ob) (fin:Nat→List Txt→Nat→List Ob × List Ob) (stop:List Txt→Bool) (nxt:σ→List Txt→σ) (L:List (List Txt)) (s:σ) (S:Store):Prop :=
 match L.find? stop with
 | none=>∃ t,S=⟨pre (L.foldl nxt s),t⟩
 | some q=>∃ t x J,S=⟨(fin (List.length J) q x).1++(J++(fin (List.length J) q x).2),t⟩
theorem yau {σ:Type} {lb k nh nw:Nat} {pre:σ→List Ob} {fin:Nat→List Txt→Nat→List Ob × List Ob} {stop:List Txt→Bool} {nxt:σ→List Txt→σ} (Y:YC lb k nh nw pre fin stop nxt) {v:PV} {S:Store} {p:List Txt} (hp:Shp2 p nh nw) {u:Nat} {L:List (List Txt)} {s:σ} (h:zo7 k u lb nh nw pre fin stop nxt L s p [] v S):∃ j,yh7 pre fin stop nxt L s (S.take j):=by
 unfold zo7 at h
 unfold yh7
 cases hF:L.find? stop with
 | none =>
  rw [hF]at h
  obtain ⟨-,t,rfl⟩:=h
  exact ⟨(pre (L.foldl nxt s)).length,t,by show (⟨List.take _ _,t⟩:Store)=_; rw [List.take_left]⟩
 | some q =>
  rw [hF]at h
  obtain ⟨-,t,x,J,rfl⟩:=h
  have e:nh+4+([]:List Ob).length+J.length=(zhv k u lb nh nw (gI p)++J).length:=by rw [List.length_append,zb7 (zhz hp)]; rfl
  rw [e]
  exact ⟨_,t,x,zhv k u lb nh nw (gI p)++J,zal (by rw [List.nil_append,List.append_assoc])⟩
theorem z6p {σ:Type} {lb k nh nw:Nat} {pre:σ→List Ob} {fin:Nat→List Txt→Nat→List Ob × List Ob} {stop:List Txt→Bool} {nxt:σ→List Txt→σ} (Y:YC lb k nh nw pre fin stop nxt) (h1:1≤nh) (h2:nh≤6) (h3:1≤nw) (h4:nw≤6) (h9:nh*nw≤9) (s:σ) (t:Nat):Ev Tryz.prog 102 [.yl lb,.ip [.int .i64 nh] 0,.ip [.int .i64 nw] 0] ⟨pre s,t⟩ fun v S=>yh7 pre fin stop nxt (zdx nh nw) s S:=by
 have hk:=Y.len s
 have hB:=z3p (c:=fun _ _ => -1) (nh:=nh) (nw:=nw) (by omega) (by omega) (g:=104) (cap:=[]) (fun _ _=>rfl) fun r w _ _=>ya9 r w
 rw [yag]at hB
 have hR:∀ v,(rwO v (gI (dots nh nw))).length=nh:=fun v=>by rw [zjp,zhz zpg]
 refine Ev.of ⟨Tryz.func102,by kernel_rfl,rfl,by kernel_rfl⟩ zan mixed (by show 3≤Tryz.f102.ntmps; decide) ?_
 refine W.r fun K hK=>?_
 simp(disch:=omega)only[↓RU,RV,RH,↓reduceIte,qE,reduceCtorEq,if_pos,↓RS,RG,qA,qM,qL,yiz,hk,List.append_assoc,List.length_append,List.cons_append,List.nil_append,Int.toNat_zero,List.getElem?_cons_zero,zij,zzu,zii,zzt]
 apply hK;clear hK K
 refine W.r fun K hK=>?_
 simp(disch:=omega)only[↓RU,RV,RH,↓reduceIte,qE,reduceCtorEq,if_pos,qN,↓RS,RG,qA,qM,qL,ty1,zab,zce,zaa,hk,List.append_assoc,List.length_append,List.cons_append,List.nil_append,Int.toNat_zero,List.getElem?_cons_zero,zij,zzu,zii,zzt,ydz,yd1,hR,yhg hk (hR (t+1)) 0 (show k+(nh+1+1)=k+(nh+2+0) by omega),yhh hk (hR (t+1)) 0 (show k+(nh+1+1)=k+(nh+2+0) by omega)]
 refine zad.pn (hB) rfl (.inl rfl) ?_
 simp(disch:=omega)only[↓RU,RV,RH,↓reduceIte,qE,reduceCtorEq,if_pos,qN,↓RS,RG,qA,qM,qL,ty1,zab,zce,zaa,hk,List.append_assoc,List.length_append,List.cons_append,List.nil_append,Int.toNat_zero,List.getElem?_cons_zero,zij,zzu,zii,zzt,ydz,yd1,hR,yhg hk (hR (t+1)) 0 (show k+(nh+1+1)=k+(nh+2+0) by omega),yhh hk (hR (t+1)) 0 (show k+(nh+1+1)=k+(nh+2+0) by omega),RN]
 apply hK;clear hK K
 refine W.r fun K hK=>?_
 simp(disch:=omega)only[↓RU,RV,RH,↓reduceIte,qE,reduceCtorEq,if_pos,↓RS,RG,qA,qM,qL,ydx,hk,List.append_assoc,List.length_append,List.cons_append,List.nil_append,Int.toNat_zero,List.getElem?_cons_zero,zij,zzu,zii,zzt,hR]
 apply hK;clear hK K
 refine W.r fun K hK=>?_
 simp(disch:=omega)only[↓RU,RV,RH,↓reduceIte,qE,reduceCtorEq,if_pos,↓RS,RG,qA,qM,qL,ydx,hk,List.append_assoc,List.length_append,List.cons_append,List.nil_append,Int.toNat_zero,List.getElem?_cons_zero,zij,zzu,zii,zzt,hR,yhg hk (hR (t+1)) 1 (show k+(nh+1+1+1)=k+(nh+2+1) by omega),yhh hk (hR (t+1)) 1 (show k+(nh+1+1+1)=k+(nh+2+1) by omega)]
 apply hK;clear hK K
 refine W.k fun K hK=>?_
 simp(disch:=omega)only[↓RU,RV,RH,↓reduceIte,qE,reduceCtorEq,if_pos,qN,↓RS,RG,qA,qM,qL,ydx,hk,List.append_assoc,List.length_append,List.cons_append,List.nil_append,Int.toNat_zero,List.getElem?_cons_zero,zij,zzu,zii,zzt,hR,yhg hk (hR (t+1)) 1 (show k+(nh+1+1+1)=k+(nh+2+1) by omega),yhh hk (hR (t+1)) 1 (show k+(nh+1+1+1)=k+(nh+2+1) by omega)]
 rw [show k+(nh+1+1)=k+2+nh by omega,show k+(nh+1+1+1)=k+3+nh by omega,show 1+(k+1)=k+2 by omega]
 have hF:=z6q Y h1 h2 h3 h4 h9 9 (zqe (H:=nh) (W:=nw)) rfl t s [] (t+1+1+1+1) 0 rfl
 simp only[qN,zhv,zez]at hF
 refine zad.ev (hF) ?_
 rintro _ S2 hR2
 simp(disch:=omega)only[↓RU,RV,RH,↓reduceIte,qE,reduceCtorEq,if_pos,qN,↓RS,RG,qA,qM,qL,ydx,hk,List.append_assoc,List.length_append,List.cons_append,List.nil_append,Int.toNat_zero,List.getElem?_cons_zero,zij,zzu,zii,zzt,hR,yhg hk (hR (t+1)) 1 (show k+(nh+1+1+1)=k+(nh+2+1) by omega),yhh hk (hR (t+1)) 1 (show k+(nh+1+1+1)=k+(nh+2+1) by omega)]
 apply hK;clear hK K
 refine zff.norm rfl ?_
 exact yau Y zpg hR2
end
theorem z8a {p:List Txt} (hv:zcz p=true):PC Tryz.prog 51 [.agg [zhu (lfM p),zhu (abM p)]] (eInts (zca p)) true:=PN.ints0 (z8b hv) rfl zdm
def ifL (b:Bool) (l:List Int):List Int:=if b then l else []
theorem zqv {p:List Txt} (hs:Sm p) (hp:za3 p=true) (below:Bool):PC Tryz.prog 92 [zak p,.bool below] (eInts (srt p below)) true:=PN.ints0 (zz0 hs hp below) rfl zir
theorem ydl {p:List Txt} (hs:Sm p) (hv:zcz p=false):PC Tryz.prog 24 [zak p] (.tup [eInts [],.bool false]) false:=by
 refine PC.of ⟨Tryz.func24,by kernel_rfl,rfl,by kernel_rfl⟩ zan mixed (by show 1≤Tryz.f24.ntmps; decide) ?_
 refine W.r fun K hK=>?_
 simp(disch:=omega)only[↓RU,RV,RH,↓reduceIte,qE,reduceCtorEq,if_pos,↓RS,RG,qA,qM,qL]
 apply hK;clear hK K
 refine W.r fun K hK=>?_
 simp(disch:=omega)only[↓RU,RV,RH,↓reduceIte,qE,reduceCtorEq,if_pos,qN,↓RS,RG,qA,qM,qL,ty0,ty3,zat,zhw,zfu,zhx]
 refine zad.pc (zz5 hs hv) rfl (.inr rfl) ?_
 simp(disch:=omega)only[↓RU,RV,RH,↓reduceIte,qE,reduceCtorEq,if_pos,qN,↓RS,RG,qA,qM,qL,ty0,ty3,zat,zhw,zfu,zhx]
 apply hK;clear hK K
 refine W.seq ?_
 refine W.r fun K hK=>?_
 simp(disch:=omega)only[↓RU,RV,RH,↓reduceIte,qE,reduceCtorEq,if_pos,↓RS,RG,qA,qM,qL]
 apply hK;clear hK K
 refine W.cond rfl (fun h=>?_) (fun h=>?_)
 ·try simp only[RL]at h
  refine W.r fun K hK=>?_
  simp(disch:=omega)only[↓RU,RV,RH,↓reduceIte,qE,reduceCtorEq,if_pos,↓RS,RG,qA,qM,qL]
  apply hK;clear hK K
  refine W.ret ?_
  refine XThen.ret ?_
  refine Br rfl ?_
  rfl
 try simp only[RL]at h
 exact absurd h (by simp)
theorem zmb {p:List Txt} (hs:Sm p) (hp:za3 p=true):PC Tryz.prog 44 [zak p] (eInts (zca p)) true:=by
 obtain ⟨hg,hr,hn9,hn1,-,-⟩:=znw hp
 have hl1:=zir (p:=p) (below:=false)
 have hl2:=zir (p:=p) (below:=true)
 have hpl:=zdm (p:=p)
 refine PC.of ⟨Tryz.func44,by kernel_rfl,rfl,by kernel_rfl⟩ zan mixed (by show 1≤Tryz.f44.ntmps; decide) ?_
 refine W.r fun K hK=>?_
 simp(disch:=omega)only[↓RU,RV,RH,↓reduceIte,qE,reduceCtorEq,if_pos,↓RS,RG,qA,qM,qL]
 apply hK;clear hK K
 refine W.r fun K hK=>?_
 simp(disch:=omega)only[↓RU,RV,RH,↓reduceIte,qE,reduceCtorEq,if_pos,qN,↓RS,RG,qA,qM,qL]
 refine zad.pc (zqv hs hp false) rfl (.inl rfl) ?_
 simp(disch:=omega)only[↓RU,RV,RH,↓reduceIte,qE,reduceCtorEq,if_pos,qN,↓RS,RG,qA,qM,qL]
 apply hK;clear hK K
 refine W.r fun K hK=>?_
 simp(disch:=omega)only[↓RU,RV,RH,↓reduceIte,qE,reduceCtorEq,if_pos,qN,↓RS,RG,qA,qM,qL]
 refine zad.pc (zqv hs hp true) rfl (.inl rfl) ?_
 simp(disch:=omega)only[↓RU,RV,RH,↓reduceIte,qE,reduceCtorEq,if_pos,qN,↓RS,RG,qA,qM,qL]
 apply hK;clear hK K
 refine W.r fun K hK=>?_
 simp(disch:=omega)only[↓RU,RV,RH,↓reduceIte,qE,reduceCtorEq,if_pos,↓RS,RG,qA,qM,qL,zab,zaa,hl1,zeo,zdk]
 apply hK;clear hK K
 refine W.seq ?_
 refine W.r fun K hK=>?_
 simp(disch:=omega)only[↓RU,RV,RH,↓reduceIte,qE,reduceCtorEq,if_pos,↓RS,RG,qA,qM,qL]
 apply hK;clear hK K
 refine W.block ?_
 refine W.loop [3,4,5,6] (fun n vs S=>∃ i t tv:Nat,n=(rP p).length - i∧i≤(rP p).length∧vs=[eInts (srt p false),eInts (srt p true),.loc 0 t 0 (rP p).length,.int .i64 i]∧S=⟨[.arr t 3 1 ((ybn p i).map (.int .i64))],tv⟩) (rP p).length ?_ ?_
 ·refine ⟨1,0,0,1,rfl,by omega,?_,rfl⟩
  simp [Env.put,Env.of,zaf]
 rintro n vs S - ⟨i,t,tv,rfl,h_i,rfl,rfl⟩
 refine W.seq ?_
 refine W.r fun K hK=>?_
 simp(disch:=omega)only[↓RU,RV,RH,↓reduceIte,qE,reduceCtorEq,if_pos,w64,↓RS,RG,qA,qM,qL,zab,zaa]
 apply hK;clear hK K
 refine W.cond rfl (fun h=>?_) (fun h=>?_)
 ·try simp only[RL]at h
  obtain ⟨a,ha,ha2,hsa⟩:=zn8 (below:=false) hp (show i<(rP p).length by omega)
  have hpl2:=zpq (p:=p) i
  refine W.skip ?_
  refine xn ?_
  refine W.seq ?_
  refine W.block ?_
  refine W.k fun K hK=>?_
  simp(disch:=omega)only[↓RU,RV,RH,↓reduceIte,qE,reduceCtorEq,if_pos,↓RS,RG,qA,qM,qL,zab,zaa,hsa,hpl2,zbp,zc8,Int.toNat_natCast]
  apply hK;clear hK K
  refine XbN ?_
  refine xn ?_
  refine W.k fun K hK=>?_
  simp(disch:=omega)only[↓RU,RV,RH,↓reduceIte,qE,reduceCtorEq,if_pos,w64,↓RS,RG,qA,qM,qL,zaa]
  apply hK;clear hK K
  refine xn ?_
  refine ⟨(rP p).length - (i+1),by omega,1,i+1,t,tv,rfl,by omega,?_,?_⟩
  ·simp [Env.put,Env.of]
  simp only[zav,ybn,z61 hsa,Int.toNat_natCast]; rfl
 try simp only[RL]at h
 obtain rfl:i=(rP p).length:=by omega
 have hpl2:=zpq (p:=p) (rP p).length
 refine W.exit ?_
 refine xe ?_
 refine xe ?_
 refine XBlock.hit ?_
 refine xn ?_
 refine W.r fun K hK=>?_
 simp(disch:=omega)only[↓RU,RV,RH,↓reduceIte,qE,reduceCtorEq,if_pos,↓RS,RG,qA,qM,qL,zab,zaa]
 apply hK;clear hK K
 refine W.seq ?_
 refine W.r fun K hK=>?_
 simp(disch:=omega)only[↓RU,RV,RH,↓reduceIte,qE,reduceCtorEq,if_pos,↓RS,RG,qA,qM,qL]
 apply hK;clear hK K
 refine W.block ?_
 refine W.loop [4,5,7,8] (fun n vs S=>∃ k vo tk2:Nat,n=(rP p).length - k∧k≤(rP p).length∧vs=[eInts (srt p true),.loc 0 t 0 (rP p).length,.loc 1 vo 0 k,.int .i64 k]∧S=⟨[.arr t 3 1 ((ybn p (rP p).length).map (.int .i64)),.arr vo 3 1 (((zca p).take k).map (.int .i64))],tk2⟩) (rP p).length ?_ ?_
 ·refine ⟨2,0,tv,tv+1,rfl,by omega,?_,by simp [zav]⟩
  simp [Env.put,Env.of]
 rintro n vs S - ⟨k,vo,tk2,rfl,h_k,rfl,rfl⟩
 refine W.seq ?_
 refine W.r fun K hK=>?_
 simp(disch:=omega)only[↓RU,RV,RH,↓reduceIte,qE,reduceCtorEq,if_pos,w64,↓RS,RG,qA,qM,qL,zab,zaa]
 apply hK;clear hK K
 refine W.cond rfl (fun h1=>?_) (fun h1=>?_)
 ·try simp only[RL]at h1
  obtain ⟨b,hb,hb2,hsb⟩:=zn8 (below:=true) hp (show k<(rP p).length by omega)
  have hpa:=zve hp hsb
  have hpc:=z8d hp (rP p).length (qR _) b hb (zkl hp hb)
  have hol:(((zca p).take k)).length=k:=by rw [List.length_take]; omega
  refine W.skip ?_
  refine xn ?_
  refine W.seq ?_
  refine W.block ?_
  refine W.k fun K hK=>?_
  simp(disch:=omega)only[↓RU,RV,RH,↓reduceIte,qE,reduceCtorEq,if_pos,↓RS,RG,qA,qM,qL,zab,zaa,hsb,hpc,hpl2,tk_i hol,Int.toNat_natCast]
  apply hK;clear hK K
  refine XbN ?_
  refine xn ?_
  refine W.k fun K hK=>?_
  simp(disch:=omega)only[↓RU,RV,RH,↓reduceIte,qE,reduceCtorEq,if_pos,w64,↓RS,RG,qA,qM,qL,zaa]
  apply hK;clear hK K
  refine xn ?_
  refine ⟨(rP p).length - (k+1),by omega,2,k+1,tk2+1,tk2+2,rfl,by omega,?_,?_⟩
  ·simp [Env.put,Env.of,zkj]
  simp only[zav,tk hpa,List.map_append,← List.map_take]; simp [zkj]
 try simp only[RL]at h1
 obtain rfl:k=(rP p).length:=by omega
 refine W.exit ?_
 refine xe ?_
 refine xe ?_
 refine XBlock.hit ?_
 refine xn ?_
 refine W.r fun K hK=>?_
 simp(disch:=omega)only[↓RU,RV,RH,↓reduceIte,qE,reduceCtorEq,if_pos,↓RS,RG,qA,qM,qL]
 apply hK;clear hK K
 refine W.ret ?_
 refine Br rfl ?_
 rw [qT (by omega)]
 exact ((zbw (k:=9) rfl (by simp [hpl]) (zmc _)).trans (by rw [← hpl]))
theorem yb0 {p:List Txt} (hs:Sm p):PC Tryz.prog 69 [zak p] (.tup [eInts (ifL (za3 p) (zca p)),.bool (za3 p)]) false:=by
 refine PC.of ⟨Tryz.func69,by kernel_rfl,rfl,by kernel_rfl⟩ zan mixed (by show 1≤Tryz.f69.ntmps; decide) ?_
 refine W.r fun K hK=>?_
 simp(disch:=omega)only[↓RU,RV,RH,↓reduceIte,qE,reduceCtorEq,if_pos,↓RS,RG,qA,qM,qL]
 apply hK;clear hK K
 refine W.seq ?_
 refine W.r fun K hK=>?_
 simp(disch:=omega)only[↓RU,RV,RH,↓reduceIte,qE,reduceCtorEq,if_pos,qN,↓RS,RG,qA,qM,qL]
 refine zad.pc (zfy hs) rfl (.inl rfl) ?_
 simp(disch:=omega)only[↓RU,RV,RH,↓reduceIte,qE,reduceCtorEq,if_pos,qN,↓RS,RG,qA,qM,qL]
 apply hK;clear hK K
 refine W.cond rfl (fun h0=>?_) (fun h0=>?_)
 ·try simp only[RL]at h0
  have h:za3 p=false:=by simpa using h0
  refine W.r fun K hK=>?_
  simp(disch:=omega)only[↓RU,RV,RH,↓reduceIte,qE,reduceCtorEq,if_pos,↓RS,RG,qA,qM,qL,zab,zaa]
  apply hK;clear hK K
  refine W.ret ?_
  refine XThen.ret ?_
  refine Br rfl ?_
  rw [h]
  rfl
 try simp only[RL]at h0
 have h:za3 p=true:=by simpa using h0
 refine W.skip ?_
 refine xn ?_
 refine W.r fun K hK=>?_
 simp(disch:=omega)only[↓RU,RV,RH,↓reduceIte,qE,reduceCtorEq,if_pos,qN,↓RS,RG,qA,qM,qL]
 refine zad.pc (zmb hs h) rfl (.inl rfl) ?_
 simp(disch:=omega)only[↓RU,RV,RH,↓reduceIte,qE,reduceCtorEq,if_pos,qN,↓RS,RG,qA,qM,qL]
 apply hK;clear hK K
 refine W.ret ?_
 refine Br rfl ?_
 rw [h]
 rfl
theorem zta {p q:List Int} (hp:p.length<2147483648) (hq:q.length<2147483648):PC Tryz.prog 46 [eInts p,eInts q] (.bool (decide (p=q))) true:=by
 refine PC.of ⟨Tryz.func46,by kernel_rfl,rfl,by kernel_rfl⟩ zan mixed (by show 2≤Tryz.f46.ntmps; decide) ?_
 refine W.r fun K hK=>?_
 simp(disch:=omega)only[↓RU,RV,RH,↓reduceIte,qE,reduceCtorEq,if_pos]
 apply hK;clear hK K
 refine W.seq ?_
 refine W.r fun K hK=>?_
 simp(disch:=omega)only[↓RU,RV,RH,↓reduceIte,qE,reduceCtorEq,if_pos,w64,zab,zaa]
 apply hK;clear hK K
 refine W.cond rfl (fun h=>?_) (fun h=>?_)
 ·try simp only[RL]at h
  refine W.r fun K hK=>?_
  simp(disch:=omega)only[↓RU,RV,RH,↓reduceIte,qE,reduceCtorEq,if_pos]
  apply hK;clear hK K
  refine W.ret ?_
  refine XThen.ret ?_
  refine Br rfl ?_
  rw [show decide (p=q)=false by simp; rintro rfl; exact h rfl]
  rfl
 try simp only[RL]at h
 refine W.skip ?_
 refine xn ?_
 refine W.seq ?_
 refine W.r fun K hK=>?_
 simp(disch:=omega)only[↓RU,RV,RH,↓reduceIte,qE,reduceCtorEq,if_pos]
 apply hK;clear hK K
 refine W.block ?_
 refine W.loop [0,1,5] (fun n vs S=>∃ i:Nat,n=p.length - i∧i≤p.length∧(p.take i=q.take i)∧vs=[eInts p,eInts q,.int .i64 i]∧S=⟨[],0⟩) (p.length) ?_ ?_
 ·refine ⟨0,0,rfl,Nat.zero_le _,rfl,?_,rfl⟩
  simp [Env.put,Env.of,zaf]
 rintro n vs S - ⟨i,rfl,h_i,htk,rfl,rfl⟩
 refine W.seq ?_
 refine W.r fun K hK=>?_
 simp(disch:=omega)only[↓RU,RV,RH,↓reduceIte,qE,reduceCtorEq,if_pos,w64,zab,zaa]
 apply hK;clear hK K
 refine W.cond rfl (fun h1=>?_) (fun h1=>?_)
 ·try simp only[RL]at h1
  obtain ⟨x,hx,-⟩:=zae (show i<p.length by omega)
  obtain ⟨y,hy,-⟩:=zae (show i<q.length by omega)
  refine W.skip ?_
  refine xn ?_
  refine W.seq ?_
  refine W.block ?_
  refine W.seq_draw (by kernel_rfl) fun K hK=>?_
  simp(disch:=omega)only[↓RU,RV,RH,↓reduceIte,qE,reduceCtorEq,if_pos,w64,zab,zaa,hx,hy]
  apply hK;clear hK K
  refine W.cond rfl (fun h2=>?_) (fun h2=>?_)
  ·try simp only[RL]at h2
   refine W.r fun K hK=>?_
   simp(disch:=omega)only[↓RU,RV,RH,↓reduceIte,qE,reduceCtorEq,if_pos]
   apply hK;clear hK K
   refine W.ret ?_
   refine XBlock.ret ?_
   refine XThen.ret ?_
   refine XThen.ret ?_
   refine XBlock.ret ?_
   refine XThen.ret ?_
   refine Br rfl ?_
   rw [show decide (p=q)=false by simp; rintro rfl; rw [hx]at hy; simp_all]
   rfl
  try simp only[RL]at h2
  have h2:x=y:=by simpa using h2
  refine W.skip ?_
  refine XbN ?_
  refine xn ?_
  refine W.k fun K hK=>?_
  simp(disch:=omega)only[↓RU,RV,RH,↓reduceIte,qE,reduceCtorEq,if_pos,w64,zaa]
  apply hK;clear hK K
  refine xn ?_
  refine ⟨p.length - (i+1),by omega,0,i+1,rfl,by omega,zjs htk hx hy h2,?_,rfl⟩
  simp [Env.put,Env.of]
 try simp only[RL]at h1
 refine W.exit ?_
 refine xe ?_
 refine xe ?_
 refine XBlock.hit ?_
 refine xn ?_
 refine W.r fun K hK=>?_
 simp(disch:=omega)only[↓RU,RV,RH,↓reduceIte,qE,reduceCtorEq,if_pos]
 apply hK;clear hK K
 refine W.ret ?_
 refine Br rfl ?_
 have h1:p.take i=p:=qT (by omega)
 have h2:q.take i=q:=qT (by omega)
 rw [show decide (p=q)=true by simp; rw [← h1,← h2]; exact htk]
 rfl
theorem zom {p q:List Int} (hp:p.length<2147483648) (hq:q.length<2147483648):PC Tryz.prog 54 [eInts p,eInts q] (.bool (decide (p=q))) true:=by
 refine PC.of ⟨Tryz.func54,by kernel_rfl,rfl,by kernel_rfl⟩ zan mixed (by show 2≤Tryz.f54.ntmps; decide) ?_
 refine W.r fun K hK=>?_
 simp(disch:=omega)only[↓RU,RV,RH,↓reduceIte,qE,reduceCtorEq,if_pos]
 apply hK;clear hK K
 refine W.seq ?_
 refine W.r fun K hK=>?_
 simp(disch:=omega)only[↓RU,RV,RH,↓reduceIte,qE,reduceCtorEq,if_pos,w64,zab,zaa]
 apply hK;clear hK K
 refine W.cond rfl (fun h=>?_) (fun h=>?_)
 ·try simp only[RL]at h
  refine W.r fun K hK=>?_
  simp(disch:=omega)only[↓RU,RV,RH,↓reduceIte,qE,reduceCtorEq,if_pos]
  apply hK;clear hK K
  refine W.ret ?_
  refine XThen.ret ?_
  refine Br rfl ?_
  rw [show decide (p=q)=false by simp; rintro rfl; exact h rfl]
  rfl
 try simp only[RL]at h
 refine W.skip ?_
 refine xn ?_
 refine W.seq ?_
 refine W.r fun K hK=>?_
 simp(disch:=omega)only[↓RU,RV,RH,↓reduceIte,qE,reduceCtorEq,if_pos,zab,zaa]
 apply hK;clear hK K
 refine W.block ?_
 refine W.loop [0,1,11,12,13] (fun n vs S=>∃ i:Nat,n=p.length - i∧i≤p.length∧(p.take i=q.take i)∧vs=[eInts p,eInts q,eInts p,.int .i64 p.length,.int .i64 i]∧S=⟨[],0⟩) (p.length) ?_ ?_
 ·refine ⟨0,0,rfl,Nat.zero_le _,rfl,?_,rfl⟩
  simp [Env.put,Env.of,zaf]
 rintro n vs S - ⟨i,rfl,h_i,htk,rfl,rfl⟩
 refine W.r fun K hK=>?_
 simp(disch:=omega)only[↓RU,RV,RH,↓reduceIte,qE,reduceCtorEq,if_pos,w64,zaa]
 apply hK;clear hK K
 refine W.seq ?_
 refine W.cond rfl (fun h1=>?_) (fun h1=>?_)
 ·try simp only[RL]at h1
  obtain ⟨x,hx,-⟩:=zae (show i<p.length by omega)
  obtain ⟨y,hy,-⟩:=zae (show i<q.length by omega)
  refine W.skip ?_
  refine xn ?_
  refine W.seq ?_
  refine W.block ?_
  refine W.r fun K hK=>?_
  simp(disch:=omega)only[↓RU,RV,RH,↓reduceIte,qE,reduceCtorEq,if_pos]
  apply hK;clear hK K
  refine W.seq_draw (by kernel_rfl) fun K hK=>?_
  simp(disch:=omega)only[↓RU,RV,RH,↓reduceIte,qE,reduceCtorEq,if_pos,w64,zab,zaa,hx,hy]
  apply hK;clear hK K
  refine W.cond rfl (fun h2=>?_) (fun h2=>?_)
  ·try simp only[RL]at h2
   refine W.r fun K hK=>?_
   simp(disch:=omega)only[↓RU,RV,RH,↓reduceIte,qE,reduceCtorEq,if_pos]
   apply hK;clear hK K
   refine W.ret ?_
   refine XBlock.ret ?_
   refine XThen.ret ?_
   refine XThen.ret ?_
   refine XBlock.ret ?_
   refine XThen.ret ?_
   refine Br rfl ?_
   rw [show decide (p=q)=false by simp; rintro rfl; rw [hx]at hy; simp_all]
   rfl
  try simp only[RL]at h2
  have h2:x=y:=by simpa using h2
  refine W.skip ?_
  refine XbN ?_
  refine xn ?_
  refine W.k fun K hK=>?_
  simp(disch:=omega)only[↓RU,RV,RH,↓reduceIte,qE,reduceCtorEq,if_pos,w64,zaa]
  apply hK;clear hK K
  refine xn ?_
  refine ⟨p.length - (i+1),by omega,0,i+1,rfl,by omega,zjs htk hx hy h2,?_,rfl⟩
  simp [Env.put,Env.of]
 try simp only[RL]at h1
 refine W.exit ?_
 refine xe ?_
 refine xe ?_
 refine XBlock.hit ?_
 refine xn ?_
 refine W.r fun K hK=>?_
 simp(disch:=omega)only[↓RU,RV,RH,↓reduceIte,qE,reduceCtorEq,if_pos]
 apply hK;clear hK K
 refine W.ret ?_
 refine Br rfl ?_
 have h1:p.take i=p:=qT (by omega)
 have h2:q.take i=q:=qT (by omega)
 rw [show decide (p=q)=true by simp; rw [← h1,← h2]; exact htk]
 rfl
theorem zvd {p:List Txt} (hp:za3 p=true):(zca p).length≤9:=by rw [zdm]; exact (znw hp).2.2.1
def zh2 (w:List Int) (q:List Txt):Bool:=zcz q && decide (zca q=w)
def slN (p:List Txt) (n:Int) (q:List Txt):Int:=if zh2 (zca p) q then IntKind.i64.wrap (n+1) else n
def zix (p:List Txt):Bool:=zcz p && decide (p.length*(zag p).length≤9)
def zkx (p:List Txt):Int:=if zix p then (zdx p.length (zag p).length).foldl (slN p) 0 else 0
theorem yek {α:Type} {l:List α}:l.find? (fun _=>false)=none:=by simp
theorem zre {q:List Txt} (h:zb1 q=true):decide (ztt (gP q) 4 (zag q).length q.length=0)=zcz q:=by
 unfold zcz
 rw [zd6,h,zfd,Bool.true_and]
theorem zhi {q:List Txt} (h:zb1 q=true):GW (gP q) q.length (zag q).length:=by
 have h2:ze5 q=true:=by rw [zd6]; exact h
 unfold ze5 at h2
 rw [qB]at h2
 have:=zov h2.1
 rwa [zfd]at this
theorem z63 {g:List (List Int)} {H W:Nat} (h:GW g H W):∃ row,g[0]?=some row∧row.length=W:=by
 obtain ⟨row,h1,h2,-⟩:=h.at_ (i:=0) (j:=0) (by have:=h.2.2.1; omega) (by have:=h.2.2.2.2.1; omega)
 exact ⟨row,h1,h2⟩
theorem zw3 (a b:Int):PC Tryz.prog 52 [.int .i64 a,.int .i64 b] (.fn 102 [.ip [.int .i64 a] 0,.ip [.int .i64 b] 0]) false:=by
 refine PC.of ⟨Tryz.func52,by kernel_rfl,rfl,by kernel_rfl⟩ zan mixed (by show 2≤Tryz.f52.ntmps; decide) ?_
 refine W.r fun K hK=>?_
 simp(disch:=omega)only[↓RU,RV,RH,↓reduceIte,qE,reduceCtorEq,if_pos,↓RS,RG,qA,qM,qL,zaa]
 apply hK;clear hK K
 refine W.r fun K hK=>?_
 simp(disch:=omega)only[↓RU,RV,RH,↓reduceIte,qE,reduceCtorEq,if_pos,↓RS,RG,qA,qM,qL]
 apply hK;clear hK K
 refine W.ret ?_
 refine Br rfl ?_
 rfl
theorem yb8 {p:List Txt} (hs:Sm p) (hv:zcz p=false):PC Tryz.prog 11 [zak p] (.tup [.int .i64 0,.bool false]) true:=by
 obtain ⟨x,hx,hxy,hxr⟩:=zj7 hs
 refine PC.ofV ⟨Tryz.func11,by kernel_rfl,rfl,by kernel_rfl⟩ zan mixed (by show 1≤Tryz.f11.ntmps; decide) ?_
 refine V.seq_region fun K hK=>?_
 simp(disch:=omega)only[↓RU,RV,RH,↓reduceIte,qE,reduceCtorEq,if_pos,↓RS,RG,qA,qM,qL]
 apply hK;clear hK K
 refine V.seq_region fun K hK=>?_
 simp(disch:=omega)only[↓RU,RV,RH,↓reduceIte,qE,reduceCtorEq,if_pos,qN,↓RS,RG,qA,qM,qL,hv]
 refine zad.pc (hx) rfl (.inr rfl) ?_
 simp(disch:=omega)only[↓RU,RV,RH,↓reduceIte,qE,reduceCtorEq,if_pos,qN,↓RS,RG,qA,qM,qL,hv]
 apply hK;clear hK K
 refine V.seq ?_
 refine W.v ?_
 refine W.r fun K hK=>?_
 simp(disch:=omega)only[↓RU,RV,RH,↓reduceIte,qE,reduceCtorEq,if_pos,qN,w64,↓RS,RG,qA,qM,qL,zaa]
 apply hK;clear hK K
 refine W.cond rfl (fun h0=>?_) (fun h0=>?_)
 ·try simp only[RL]at h0
  refine W.r fun K hK=>?_
  simp(disch:=omega)only[↓RU,RV,RH,↓reduceIte,qE,reduceCtorEq,if_pos,↓RS,RG,qA,qM,qL]
  apply hK;clear hK K
  refine W.ret ?_
  refine XThen.ret ?_
  refine Br rfl ?_
  rfl
 try simp only[RL]at h0
 exact absurd h0 (by simp)
theorem z9h {p:List Txt} (hs:Sm p) (hv:zcz p=true) (hbig:¬ p.length*(zag p).length≤9):PC Tryz.prog 11 [zak p] (.tup [.int .i64 0,.bool false]) true:=by
 obtain ⟨x,hx,hxy,hxr⟩:=zj7 hs
 obtain rfl:=hxy hv
 obtain ⟨hrm,-,-⟩:=zj8 hv
 have hok:=(zg2 hv).1
 have hpl:zb1 p=true:=zc0 (by rw [← zbl]; exact hv)
 have hg:=zhi hpl
 have hn9:=zfm hok
 have hn1:=zh7 hok
 obtain ⟨row0,hrow0,hrl0⟩:=z63 hg
 have hgl:=hg.1
 obtain ⟨-,-,g1,g2,g3,g4⟩:=hg
 have hO:=zmf (g:=gP p) (zov hok) (rs:=rP p) rfl hn9 hrm
 rw [z7k,z5w]at hO
 have hmu:p.length*(zag p).length≤36:=Nat.mul_le_mul g2 g4
 have hmc:((p.length:Nat):Int)*(((zag p).length:Nat):Int)=((p.length*(zag p).length:Nat):Int):=by simp
 have hd:decide (((p.length*(zag p).length:Nat):Int)>9)=true:=decide_eq_true (by omega)
 refine PC.ofV ⟨Tryz.func11,by kernel_rfl,rfl,by kernel_rfl⟩ zan mixed (by show 1≤Tryz.f11.ntmps; decide) ?_
 refine V.seq_region fun K hK=>?_
 simp(disch:=omega)only[↓RU,RV,RH,↓reduceIte,qE,reduceCtorEq,if_pos,↓RS,RG,qA,qM,qL]
 apply hK;clear hK K
 refine V.seq_region fun K hK=>?_
 simp(disch:=omega)only[↓RU,RV,RH,↓reduceIte,qE,reduceCtorEq,if_pos,qN,↓RS,RG,qA,qM,qL,hv]
 refine zad.pc (hx) rfl (.inr rfl) ?_
 simp(disch:=omega)only[↓RU,RV,RH,↓reduceIte,qE,reduceCtorEq,if_pos,qN,↓RS,RG,qA,qM,qL,hv]
 apply hK;clear hK K
 refine V.seq ?_
 refine W.v ?_
 refine W.r fun K hK=>?_
 simp(disch:=omega)only[↓RU,RV,RH,↓reduceIte,qE,reduceCtorEq,if_pos,qN,w64,↓RS,RG,qA,qM,qL,zaa,hgl,hrl0,hmc,hd]
 refine zad.pc (zhr (gP p) (rP p)) rfl (.inl rfl) ?_
 simp(disch:=omega)only[↓RU,RV,RH,↓reduceIte,qE,reduceCtorEq,if_pos,qN,w64,↓RS,RG,qA,qM,qL,zaa,hgl,hrl0,hmc,hd]
 refine zad.pc (zju hrow0 (rP p)) rfl (.inl rfl) ?_
 simp(disch:=omega)only[↓RU,RV,RH,↓reduceIte,qE,reduceCtorEq,if_pos,qN,w64,↓RS,RG,qA,qM,qL,zaa,hgl,hrl0,hmc,hd]
 apply hK;clear hK K
 refine W.cond rfl (fun h0=>?_) (fun h0=>?_)
 ·try simp only[RL]at h0
  refine W.r fun K hK=>?_
  simp(disch:=omega)only[↓RU,RV,RH,↓reduceIte,qE,reduceCtorEq,if_pos,↓RS,RG,qA,qM,qL]
  apply hK;clear hK K
  refine W.ret ?_
  refine XThen.ret ?_
  refine Br rfl ?_
  rfl
 try simp only[RL]at h0
 exact absurd h0 (by simp)
theorem yfs {k r d:Nat} (l:List Int):(l.map (PV.int .i64)).mapM (sf k r (d+1))=some (l.map (PV.int .i64)):=zbc fun x hx=>by obtain ⟨a,_,rfl⟩:=List.mem_map.1 hx; rfl
theorem z3g {p:List Txt} {l r2:Nat} {r:Loop} {n:Int}:zvu 4 r2 [.arr 0 3 1 ((zca p).map (.int .i64)),.arr 1 34 1 [.loc 0 0 0 (rP p).length],.arr 2 3 1 [.int .i64 n],.lp 3 l (r,[6,7]) [.ref 1 1 0,.ref 2 2 0]]=some [.arr 0 3 1 ((zca p).map (.int .i64)),.arr 1 34 1 [.loc 0 0 0 (rP p).length],.arr 2 3 1 [.int .i64 n],.lp 3 l (r,[6,7]) [.ref 1 1 0,.ref 2 2 0]]:=by
 simp only[zvu,z45,yfs]
 rfl
theorem zt0 {S:Store} {o v et n k:Nat} {l:List Int} (h:S.obs[o]?=some (.arr v et 1 (l.map (.int .i64)))) (hl:l.length=n):reify S true (k+2) (.loc o v 0 n)=some (eInts l):=by
 subst hl
 exact zbw h (by simp) (zbc fun x hx=>by obtain ⟨z,_,rfl⟩:=List.mem_map.1 hx; rfl)
theorem z9i {p:List Txt} (hs:Sm p) (hv:zcz p=true) (h9:p.length*(zag p).length≤9):PC Tryz.prog 11 [zak p] (.tup [.int .i64 ((zdx p.length (zag p).length).foldl (slN p) 0),.bool true]) true:=by
 obtain ⟨x,hx,hxy,hxr⟩:=zj7 hs
 obtain rfl:=hxy hv
 obtain ⟨hrm,-,-⟩:=zj8 hv
 have hok:=(zg2 hv).1
 have hpl:zb1 p=true:=zc0 (by rw [← zbl]; exact hv)
 have hg:=zhi hpl
 have hn9:=zfm hok
 have hn1:=zh7 hok
 obtain ⟨row0,hrow0,hrl0⟩:=z63 hg
 have hgl:=hg.1
 obtain ⟨-,-,g1,g2,g3,g4⟩:=hg
 have hO:=zmf (g:=gP p) (zov hok) (rs:=rP p) rfl hn9 hrm
 rw [z7k,z5w]at hO
 have hmu:p.length*(zag p).length≤36:=Nat.mul_le_mul g2 g4
 have hmc:((p.length:Nat):Int)*(((zag p).length:Nat):Int)=((p.length*(zag p).length:Nat):Int):=by simp
 have hd:decide (((p.length*(zag p).length:Nat):Int)>9)=false:=decide_eq_false (by omega)
 refine PC.ofV ⟨Tryz.func11,by kernel_rfl,rfl,by kernel_rfl⟩ zan mixed (by show 1≤Tryz.f11.ntmps; decide) ?_
 refine V.seq_region fun K hK=>?_
 simp(disch:=omega)only[↓RU,RV,RH,↓reduceIte,qE,reduceCtorEq,if_pos,↓RS,RG,qA,qM,qL]
 apply hK;clear hK K
 refine V.seq_region fun K hK=>?_
 simp(disch:=omega)only[↓RU,RV,RH,↓reduceIte,qE,reduceCtorEq,if_pos,qN,↓RS,RG,qA,qM,qL,hv]
 refine zad.pc (hx) rfl (.inr rfl) ?_
 simp(disch:=omega)only[↓RU,RV,RH,↓reduceIte,qE,reduceCtorEq,if_pos,qN,↓RS,RG,qA,qM,qL,hv]
 apply hK;clear hK K
 refine V.seq ?_
 refine W.v ?_
 refine W.r fun K hK=>?_
 simp(disch:=omega)only[↓RU,RV,RH,↓reduceIte,qE,reduceCtorEq,if_pos,qN,w64,↓RS,RG,qA,qM,qL,zaa,hgl,hrl0,hmc,hd]
 refine zad.pc (zhr (gP p) (rP p)) rfl (.inl rfl) ?_
 simp(disch:=omega)only[↓RU,RV,RH,↓reduceIte,qE,reduceCtorEq,if_pos,qN,w64,↓RS,RG,qA,qM,qL,zaa,hgl,hrl0,hmc,hd]
 refine zad.pc (zju hrow0 (rP p)) rfl (.inl rfl) ?_
 simp(disch:=omega)only[↓RU,RV,RH,↓reduceIte,qE,reduceCtorEq,if_pos,qN,w64,↓RS,RG,qA,qM,qL,zaa,hgl,hrl0,hmc,hd]
 apply hK;clear hK K
 refine W.cond rfl (fun h0=>?_) (fun h0=>?_)
 ·try simp only[RL]at h0
  exact absurd h0 (by simp)
 try simp only[RL]at h0
 refine W.skip ?_
 refine xn ?_
 refine V.seq_region fun K hK=>?_
 simp(disch:=omega)only[↓RU,RV,RH,↓reduceIte,qE,reduceCtorEq,if_pos,qN,↓RS,RG,qA,qM,qL,zab,zaa]
 refine zad.pc (hO) rfl (.inl rfl) ?_
 simp(disch:=omega)only[↓RU,RV,RH,↓reduceIte,qE,reduceCtorEq,if_pos,qN,↓RS,RG,qA,qM,qL,zab,zaa]
 refine zad.pn (z8b hv) rfl (.inl rfl) ?_
 simp(disch:=omega)only[↓RU,RV,RH,↓reduceIte,qE,reduceCtorEq,if_pos,qN,↓RS,RG,qA,qM,qL,zab,zaa,RN]
 apply hK;clear hK K
 refine V.seq_region fun K hK=>?_
 simp(disch:=omega)only[↓RU,RV,RH,↓reduceIte,qE,reduceCtorEq,if_pos,↓RS,RG,qA,qM,qL,zaa,zqa]
 apply hK;clear hK K
 refine V.seq ?_
 refine V.seq_region fun K hK=>?_
 simp(disch:=omega)only[↓RU,RV,RH,↓reduceIte,qE,reduceCtorEq,if_pos,qN,↓RS,RG,qA,qM,qL,hgl,hrl0]
 refine zad.pc (zhr (gP p) (rP p)) rfl (.inl rfl) ?_
 simp(disch:=omega)only[↓RU,RV,RH,↓reduceIte,qE,reduceCtorEq,if_pos,qN,↓RS,RG,qA,qM,qL,hgl,hrl0]
 refine zad.pc (zju hrow0 (rP p)) rfl (.inl rfl) ?_
 simp(disch:=omega)only[↓RU,RV,RH,↓reduceIte,qE,reduceCtorEq,if_pos,qN,↓RS,RG,qA,qM,qL,hgl,hrl0]
 refine zad.pc (zw3 _ _) rfl (.inr rfl) ?_
 simp(disch:=omega)only[↓RU,RV,RH,↓reduceIte,qE,reduceCtorEq,if_pos,qN,↓RS,RG,qA,qM,qL,hgl,hrl0]
 apply hK;clear hK K
 refine V.block ?_
 refine V.rangeFunc [6,7] rfl fun l r hr hst hpd=>?_
 have hrr:({ r with state := .ready,pending:=none }:Loop)=r:=by cases r; simp only at hst hpd; subst hst; subst hpd; rfl
 refine ⟨_,z6p (σ:=Int) (lb:=l) (k:=4) (pre:=fun n=>[.arr 0 3 1 ((zca p).map (.int .i64)),.arr 1 34 1 [.loc 0 0 0 (rP p).length],.arr 2 3 1 [.int .i64 n],.lp 3 l (r,[6,7]) [.ref 1 1 0,.ref 2 2 0]]) (fin:=fun _ _ _=>([.arr 0 3 1 ((zca p).map (.int .i64)),.arr 1 34 1 [.loc 0 0 0 (rP p).length],.arr 2 3 1 [.int .i64 0],.lp 3 l (r,[6,7]) [.ref 1 1 0,.ref 2 2 0]],[])) (stop:=fun _=>false) (nxt:=slN p) ⟨fun _=>rfl,fun _ _ _=>rfl,fun n q t hq hsh=>?_,fun r2 n=>z3g,fun _ _=>⟨trivial,trivial,trivial,⟨rfl,rfl,rfl,rfl⟩,trivial⟩,fun _ _ _=>⟨trivial,trivial,trivial,⟨rfl,rfl,rfl,rfl⟩,trivial⟩,fun _ _ _=>z3g⟩ g1 g2 g3 g4 h9 0 _,?_⟩
 ·refine Ey.of (o:=3) zan mixed rfl hr hst rfl ?_
  change W _ _ _ _ (Env.put (Env.of [6,7] [.ref 1 1 0,.ref 2 2 0]) (some 32) (zbj (gP q) (rP q))) _
  refine W.k fun K hK=>?_
  simp(disch:=omega)only[↓RU,RV,RH,↓reduceIte,qE,reduceCtorEq,if_pos,↓RS,RG,qA,qM,qL]
  apply hK;clear hK K
  refine xn ⟨_,_,_,_,rfl,hst,?_⟩
  simp only[List.set_cons_succ,List.set_cons_zero]
  refine W.block ?_
  refine W.seq_draw (by kernel_rfl) fun K hK=>?_
  rcases (show zcz q=false∨(zcz q=true∧zca q=zca p)∨(zcz q=true∧zca q≠zca p) by cases zcz q <;> by_cases e:zca q=zca p <;> simp [e]) with hq1 | ⟨hq1,hq2⟩ | ⟨hq1,hq2⟩
  ·skip
   have hqp:=zl5 (zhi hq) (rP q)
   rw [zre hq,hq1]at hqp
   have hsl:slN p n q=n:=by unfold slN zh2; rw [hq1]; rfl
   simp(disch:=omega)only[↓RU,RV,RH,↓reduceIte,qE,reduceCtorEq,if_pos,qN,↓RS,RG,qA,qM,qL,zab,zaa]
   refine zad.pc (hqp) rfl (.inl rfl) ?_
   simp(disch:=omega)only[↓RU,RV,RH,↓reduceIte,qE,reduceCtorEq,if_pos,qN,↓RS,RG,qA,qM,qL,zab,zaa]
   apply hK;clear hK K
   refine W.cond rfl (fun h8=>?_) (fun h8=>?_)
   ·try simp only[RL]at h8
    exact absurd h8 (by simp)
   try simp only[RL]at h8
   refine W.skip ?_
   refine XbN ?_
   exact ⟨_,_,_,_,4,rfl,rfl,_,by rw [if_neg (by simp)]; simp only[hsl]; exact congrArg (fun r=>(⟨[_,_,_,.lp 3 l (r,[6,7]) _],_⟩:Store)) hrr⟩
  ·skip
   have hqp:=zl5 (zhi hq) (rP q)
   rw [zre hq,hq1]at hqp
   obtain ⟨qrm,-,-⟩:=zj8 hq1
   have qok:=(zg2 hq1).1
   have q9:=zfm qok
   have hQ:=zmf (g:=gP q) (zov qok) (rs:=rP q) rfl q9 qrm
   rw [z7k,z5w]at hQ
   have ql:=zdm (p:=q)
   have pl:=zdm (p:=p)
   have hde:decide (zca q=zca p)=true:=decide_eq_true hq2
   have hsl:slN p n q=IntKind.i64.wrap (n+1):=by unfold slN zh2; rw [hq1,hde]; rfl
   simp(disch:=omega)only[↓RU,RV,RH,↓reduceIte,qE,reduceCtorEq,if_pos,qN,↓RS,RG,qA,qM,qL,zab,zaa,hde]
   refine zad.pc (hqp) rfl (.inl rfl) ?_
   simp(disch:=omega)only[↓RU,RV,RH,↓reduceIte,qE,reduceCtorEq,if_pos,qN,↓RS,RG,qA,qM,qL,zab,zaa,hde]
   refine zad.pc (hQ) rfl (.inl rfl) ?_
   simp(disch:=omega)only[↓RU,RV,RH,↓reduceIte,qE,reduceCtorEq,if_pos,qN,↓RS,RG,qA,qM,qL,zab,zaa,hde]
   refine zad.pc (z8a hq1) rfl (.inl rfl) ?_
   simp(disch:=omega)only[↓RU,RV,RH,↓reduceIte,qE,reduceCtorEq,if_pos,qN,↓RS,RG,qA,qM,qL,zab,zaa,hde]
   refine zad.pc (zom (p:=zca q) (q:=zca p) (by omega) (by omega)) (zcd rfl (zcd (zt0 rfl zdm) rfl)) (.inl rfl) ?_
   simp(disch:=omega)only[↓RU,RV,RH,↓reduceIte,qE,reduceCtorEq,if_pos,qN,↓RS,RG,qA,qM,qL,zab,zaa,hde]
   apply hK;clear hK K
   refine W.cond rfl (fun h8=>?_) (fun h8=>?_)
   ·try simp only[RL]at h8
    refine W.k fun K hK=>?_
    simp(disch:=omega)only[↓RU,RV,RH,↓reduceIte,qE,reduceCtorEq,if_pos,w64,↓RS,RG,qA,qM,qL,zaa]
    apply hK;clear hK K
    refine XbN ?_
    exact ⟨_,_,_,_,4,rfl,rfl,_,by rw [if_neg (by simp)]; simp only[hsl]; exact congrArg (fun r=>(⟨[_,_,_,.lp 3 l (r,[6,7]) _],_⟩:Store)) hrr⟩
   try simp only[RL]at h8
   exact absurd h8 (by simp)
  skip
  have hqp:=zl5 (zhi hq) (rP q)
  rw [zre hq,hq1]at hqp
  obtain ⟨qrm,-,-⟩:=zj8 hq1
  have qok:=(zg2 hq1).1
  have q9:=zfm qok
  have hQ:=zmf (g:=gP q) (zov qok) (rs:=rP q) rfl q9 qrm
  rw [z7k,z5w]at hQ
  have ql:=zdm (p:=q)
  have pl:=zdm (p:=p)
  have hde:decide (zca q=zca p)=false:=decide_eq_false hq2
  have hsl:slN p n q=n:=by unfold slN zh2; rw [hq1,hde]; rfl
  simp(disch:=omega)only[↓RU,RV,RH,↓reduceIte,qE,reduceCtorEq,if_pos,qN,↓RS,RG,qA,qM,qL,zab,zaa,hde]
  refine zad.pc (hqp) rfl (.inl rfl) ?_
  simp(disch:=omega)only[↓RU,RV,RH,↓reduceIte,qE,reduceCtorEq,if_pos,qN,↓RS,RG,qA,qM,qL,zab,zaa,hde]
  refine zad.pc (hQ) rfl (.inl rfl) ?_
  simp(disch:=omega)only[↓RU,RV,RH,↓reduceIte,qE,reduceCtorEq,if_pos,qN,↓RS,RG,qA,qM,qL,zab,zaa,hde]
  refine zad.pc (z8a hq1) rfl (.inl rfl) ?_
  simp(disch:=omega)only[↓RU,RV,RH,↓reduceIte,qE,reduceCtorEq,if_pos,qN,↓RS,RG,qA,qM,qL,zab,zaa,hde]
  refine zad.pc (zom (p:=zca q) (q:=zca p) (by omega) (by omega)) (zcd rfl (zcd (zt0 rfl zdm) rfl)) (.inl rfl) ?_
  simp(disch:=omega)only[↓RU,RV,RH,↓reduceIte,qE,reduceCtorEq,if_pos,qN,↓RS,RG,qA,qM,qL,zab,zaa,hde]
  apply hK;clear hK K
  refine W.cond rfl (fun h8=>?_) (fun h8=>?_)
  ·try simp only[RL]at h8
   exact absurd h8 (by simp)
  try simp only[RL]at h8
  refine W.skip ?_
  refine XbN ?_
  exact ⟨_,_,_,_,4,rfl,rfl,_,by rw [if_neg (by simp)]; simp only[hsl]; exact congrArg (fun r=>(⟨[_,_,_,.lp 3 l (r,[6,7]) _],_⟩:Store)) hrr⟩
 rintro v S2 hA
 skip
 rw [yh7,yek]at hA
 obtain ⟨t2,rfl⟩:=hA
 refine ⟨_,_,_,_,.normal,rfl,by rw [hst]; simp,by rw [hpd]; rfl,?_⟩
 change XBlock _ _ _ _ ⟨[_,_,_],_⟩
 refine XbN ?_
 refine xn ?_
 refine W.v ?_
 refine W.r fun K hK=>?_
 simp(disch:=omega)only[↓RU,RV,RH,↓reduceIte,qE,reduceCtorEq,if_pos,↓RS,RG,qA,qM,qL,zaa]
 apply hK;clear hK K
 refine W.ret ?_
 refine Br rfl ?_
 rfl
abbrev eLL (L:List (List Txt)):PV := .sl (L.map zak) L.length
theorem ydr {p:List Txt} {H W:Nat} (h:Shp2 p H W) (hH:H≤6) (hW:W≤6):Sm p:=⟨by rw [h.h]; omega,fun r hr=>by rw [h.w r hr]; omega⟩
theorem zuu {α β:Type} {f:α→List β} {B:Nat}:∀ {l:List α},(∀ a∈l,(f a).length≤B)→(l.flatMap f).length≤l.length*B
 | [],_=>by simp
 | a::l,h=>by
  have h1:=h a (by simp)
  have h2:=zuu (f:=f) (B:=B) (l:=l) fun b hb=>h b (by simp [hb])
  rw [List.flatMap_cons,List.length_append,List.length_cons,Nat.succ_mul]
  omega
theorem ycq {m n w d:Nat} {p:List Txt} {B:Nat} (h:∀ d,(Cd m p n w d).length≤B):(Ld m p n w d).length≤d*B:=by
 have:=zuu (f:=Cd m p n w) (B:=B) (l:=List.range d) fun a _=>h a
 rwa [List.length_range]at this
theorem ycr {m n H w:Nat} {p:List Txt} {B:Nat} (h:∀ w d,(Cd m p n w d).length≤B):(Lw m p n H w).length≤w*((H - fi p)*B):=by
 have:=zuu (f:=fun w=>Ld m p n w (H - fi p)) (B:=(H - fi p)*B) (l:=List.range w) fun a _=>ycq (h a)
 rwa [List.length_range]at this
theorem z5s {H W:Nat} (h9:H*W≤9):∀ (m:Nat) {p:List Txt} {n:Nat},Shp2 p H W→(En m p n).length≤9 ^ m
 | 0,p,n,_=>by simp [En]
 | m+1,p,n,hp=>by
  by_cases hf:fi p<H
  ·rw [yd6 hp.h hf]
   refine Nat.le_trans (ycr (B:=9 ^ m) fun w d=>z5s h9 m (zlf hp)) ?_
   have h1:=yaz hp hf
   rw [← Nat.mul_assoc,Nat.pow_succ,Nat.mul_comm (9 ^ m)]
   refine Nat.mul_le_mul_right _ (Nat.le_trans ?_ h9)
   rw [Nat.mul_comm H W]
   exact Nat.mul_le_mul (by omega) (by omega)
  unfold En
  rw [hp.h,if_neg hf]
  exact Nat.one_le_pow _ _ (by omega)
theorem yf6 {H W m n w d:Nat} {p:List Txt} (h9:H*W≤9) (hm:m≤8) (hp:Shp2 p H W) (hf:fi p<H) (hw:w<fw p) (hd:d<H - fi p):(Lw m p n H w++Ld m p n w d).length+(Cd m p n w d).length≤387420489:=by
 have hc:∀ w d,(Cd m p n w d).length≤9 ^ m:=fun w d=>z5s h9 m (zlf hp)
 have a1:=ycr (m:=m) (n:=n) (H:=H) (w:=w) (p:=p) hc
 have a2:=ycq (m:=m) (n:=n) (w:=w) (d:=d) (p:=p) (hc w)
 have a3:=hc w d
 have h1:=yaz hp hf
 have b1:(d+1)*9 ^ m≤(H - fi p)*9 ^ m:=Nat.mul_le_mul_right _ (by omega)
 have b2:(w+1)*((H - fi p)*9 ^ m)≤9*9 ^ m:=by
  rw [← Nat.mul_assoc]
  refine Nat.mul_le_mul_right _ (Nat.le_trans ?_ h9)
  rw [Nat.mul_comm H W]
  exact Nat.mul_le_mul (by omega) (by omega)
 have b3:(9:Nat) ^ m≤9 ^ 8:=Nat.pow_le_pow_right (by omega) hm
 rw [Nat.succ_mul]at b1 b2
 rw [List.length_append]
 omega
theorem z2v {S:Store} {o v et k:Nat} {L:List (List Txt)} (h:S.obs[o]?=some (.arr v et 1 (L.map zak))):reify S true (k+2) (.loc o v 0 L.length)=some (eLL L) :=
 zbw h (by simp) (zbc fun x hx=>by obtain ⟨z,_,rfl⟩:=List.mem_map.1 hx; rfl)
theorem z1d {c:UInt8}:((c.toNat:Int) == 46)=decide (c=46):=by
 rw [Bool.eq_iff_iff]
 simp only[beq_iff_eq,decide_eq_true_eq]
 constructor
 ·intro h
  have:c.toNat=46:=by omega
  exact UInt8.toNat_inj.1 this
 intro h; subst h; rfl
theorem z20 {nh nw:Nat} {p:List Txt} {R:List RmB} (hs:St nh nw p R) (hn:R.length≤9) (h1:1≤nh) (h2:nh≤6) (h3:1≤nw) (h4:nw≤6) (hf:¬ fi p<nh) (n0:Int):PC Tryz.prog 93 [zak p,.int .i64 n0] (eLL [p]) false:=by
 have hph:=hs.sh.h
 refine PC.of ⟨Tryz.func93,by kernel_rfl,rfl,by kernel_rfl⟩ zan mixed (by show 2≤Tryz.f93.ntmps; decide) ?_
 refine W.r fun K hK=>?_
 simp(disch:=omega)only[↓RU,RV,RH,↓reduceIte,qE,reduceCtorEq,if_pos,↓RS,RG,qA,qM,qL]
 apply hK;clear hK K
 refine W.seq ?_
 refine W.r fun K hK=>?_
 simp(disch:=omega)only[↓RU,RV,RH,↓reduceIte,qE,reduceCtorEq,if_pos,↓RS,RG,qA,qM,qL]
 apply hK;clear hK K
 refine W.block ?_
 refine W.loop [0,1,5] (fun n vs S=>∃ i:Nat,n=nh - i∧i≤nh∧vs=[zak p,.int .i64 n0,.int .i64 i]∧S=⟨[],0⟩) nh ?_ ?_
 ·refine ⟨0,0,rfl,Nat.zero_le _,?_,rfl⟩
  simp [Env.put,Env.of,zaf]
 rintro n vs S - ⟨i,rfl,h_i,rfl,rfl⟩
 refine W.seq ?_
 refine W.r fun K hK=>?_
 simp(disch:=omega)only[↓RU,RV,RH,↓reduceIte,qE,reduceCtorEq,if_pos,w64,↓RS,RG,qA,qM,qL,ty6,zaa,zac,hph]
 apply hK;clear hK K
 refine W.cond rfl (fun h0=>?_) (fun h0=>?_)
 ·try simp only[RL]at h0
  obtain ⟨row,hrow,hrl,hrx⟩:=hs.sh.row (show i<nh by omega)
  refine W.skip ?_
  refine xn ?_
  refine W.seq ?_
  refine W.block ?_
  refine W.r fun K hK=>?_
  simp(disch:=omega)only[↓RU,RV,RH,↓reduceIte,qE,reduceCtorEq,if_pos,↓RS,RG,qA,qM,qL]
  apply hK;clear hK K
  refine W.block ?_
  refine W.loop [0,1,5,6] (fun n vs S=>∃ k:Nat,n=nw - k∧(i<nh∧k≤nw)∧vs=[zak p,.int .i64 n0,.int .i64 i,.int .i64 k]∧S=⟨[],0⟩) nw ?_ ?_
  ·refine ⟨0,0,rfl,by omega,?_,rfl⟩
   simp [Env.put,Env.of,zaf]
  rintro n vs S - ⟨k,rfl,h_k,rfl,rfl⟩
  refine W.seq ?_
  refine W.r fun K hK=>?_
  simp(disch:=omega)only[↓RU,RV,RH,↓reduceIte,qE,reduceCtorEq,if_pos,w64,↓RS,RG,qA,qM,qL,ty6,zaa,zac,hrow,hrl]
  apply hK;clear hK K
  refine W.cond rfl (fun h1c=>?_) (fun h1c=>?_)
  ·try simp only[RL]at h1c
   have hkw:k<nw:=by omega
   have hc:=hrx k hkw
   refine W.skip ?_
   refine xn ?_
   refine W.seq ?_
   refine W.block ?_
   refine W.r fun K hK=>?_
   simp(disch:=omega)only[↓RU,RV,RH,↓reduceIte,qE,reduceCtorEq,if_pos,w64,↓RS,RG,qA,qM,qL,ty6,zac,zd3,hrow,hrl,hc,z1d]
   apply hK;clear hK K
   refine W.cond rfl (fun h2c=>?_) (fun h2c=>?_)
   ·try simp only[RL]at h2c
    exact absurd h2c (zk6 hs.sh hf (by omega) hkw)
   try simp only[RL]at h2c
   refine W.skip ?_
   refine XbN ?_
   refine xn ?_
   refine W.k fun K hK=>?_
   simp(disch:=omega)only[↓RU,RV,RH,↓reduceIte,qE,reduceCtorEq,if_pos,w64,↓RS,RG,qA,qM,qL,zaa]
   apply hK;clear hK K
   refine xn ?_
   refine ⟨nw - (k+1),by omega,0,k+1,rfl,by omega,?_,rfl⟩
   simp [Env.put,Env.of]
  try simp only[RL]at h1c
  obtain rfl:k=nw:=by omega
  refine W.exit ?_
  refine xe ?_
  refine xe ?_
  refine XBlock.hit ?_
  refine XbN ?_
  refine xn ?_
  refine W.k fun K hK=>?_
  simp(disch:=omega)only[↓RU,RV,RH,↓reduceIte,qE,reduceCtorEq,if_pos,w64,↓RS,RG,qA,qM,qL,zaa]
  apply hK;clear hK K
  refine xn ?_
  refine ⟨nh - (i+1),by omega,0,i+1,rfl,by omega,?_,rfl⟩
  simp [Env.put,Env.of]
 try simp only[RL]at h0
 obtain rfl:i=nh:=by omega
 refine W.exit ?_
 refine xe ?_
 refine xe ?_
 refine XBlock.hit ?_
 refine xn ?_
 refine W.r fun K hK=>?_
 simp(disch:=omega)only[↓RU,RV,RH,↓reduceIte,qE,reduceCtorEq,if_pos,↓RS,RG,qA,qM,qL,ty2,ty6,zac]
 apply hK;clear hK K
 refine W.ret ?_
 refine Br rfl ?_
 exact zbw (n:=1) rfl rfl (zcd rfl rfl)
theorem z83 {nh nw:Nat} {p:List Txt} {R:List RmB} (hs:St nh nw p R) (hn:R.length≤9) (h1:1≤nh) (h2:nh≤6) (h3:1≤nw) (h4:nw≤6) (hf:fi p<nh) (n0:Int) {X:List (List Txt)} (hB:PC Tryz.prog 137 [zak p,.int .i64 n0,.int .i64 (fi p:Nat),.int .i64 (fk p:Nat)] (eLL X) false):PC Tryz.prog 93 [zak p,.int .i64 n0] (eLL X) false:=by
 have hph:=hs.sh.h
 obtain ⟨f1,f2,f3⟩:=zgz hs.sh hf
 refine PC.of ⟨Tryz.func93,by kernel_rfl,rfl,by kernel_rfl⟩ zan mixed (by show 2≤Tryz.f93.ntmps; decide) ?_
 refine W.r fun K hK=>?_
 simp(disch:=omega)only[↓RU,RV,RH,↓reduceIte,qE,reduceCtorEq,if_pos]
 apply hK;clear hK K
 refine W.seq ?_
 refine W.r fun K hK=>?_
 simp(disch:=omega)only[↓RU,RV,RH,↓reduceIte,qE,reduceCtorEq,if_pos]
 apply hK;clear hK K
 refine W.block ?_
 refine W.loop [0,1,5] (fun n vs S=>∃ i:Nat,n=nh - i∧i≤fi p∧vs=[zak p,.int .i64 n0,.int .i64 i]∧S=⟨[],0⟩) nh ?_ ?_
 ·refine ⟨0,0,rfl,Nat.zero_le _,?_,rfl⟩
  simp [Env.put,Env.of,zaf]
 rintro n vs S - ⟨i,rfl,h_i,rfl,rfl⟩
 refine W.seq ?_
 refine W.r fun K hK=>?_
 simp(disch:=omega)only[↓RU,RV,RH,↓reduceIte,qE,reduceCtorEq,if_pos,w64,ty6,zaa,zac,hph]
 apply hK;clear hK K
 refine W.cond rfl (fun h0=>?_) (fun h0=>?_)
 ·try simp only[RL]at h0
  obtain ⟨row,hrow,hrl,hrx⟩:=hs.sh.row (show i<nh by omega)
  refine W.skip ?_
  refine xn ?_
  refine W.seq ?_
  refine W.block ?_
  refine W.r fun K hK=>?_
  simp(disch:=omega)only[↓RU,RV,RH,↓reduceIte,qE,reduceCtorEq,if_pos]
  apply hK;clear hK K
  refine W.block ?_
  refine W.loop [0,1,5,6] (fun n vs S=>∃ k:Nat,n=nw - k∧((i<fi p∨(i=fi p∧k≤fk p))∧k≤nw)∧vs=[zak p,.int .i64 n0,.int .i64 i,.int .i64 k]∧S=⟨[],0⟩) nw ?_ ?_
  ·refine ⟨0,0,rfl,by omega,?_,rfl⟩
   simp [Env.put,Env.of,zaf]
  rintro n vs S - ⟨k,rfl,h_k,rfl,rfl⟩
  refine W.seq ?_
  refine W.r fun K hK=>?_
  simp(disch:=omega)only[↓RU,RV,RH,↓reduceIte,qE,reduceCtorEq,if_pos,w64,ty6,zaa,zac,hrow,hrl]
  apply hK;clear hK K
  refine W.cond rfl (fun h1c=>?_) (fun h1c=>?_)
  ·try simp only[RL]at h1c
   have hkw:k<nw:=by omega
   have hc:=hrx k hkw
   refine W.skip ?_
   refine xn ?_
   refine W.seq ?_
   refine W.block ?_
   refine W.r fun K hK=>?_
   simp(disch:=omega)only[↓RU,RV,RH,↓reduceIte,qE,reduceCtorEq,if_pos,w64,ty6,zac,zd3,hrow,hrl,hc,z1d]
   apply hK;clear hK K
   refine W.cond rfl (fun h2c=>?_) (fun h2c=>?_)
   ·try simp only[RL]at h2c
    obtain ⟨rfl,rfl⟩:i=fi p∧k=fk p:=by
               rcases h_k.1 with q | ⟨q,q2⟩
               ·exact absurd h2c (f3 i k (by omega) hkw (.inl q))
               subst q; exact ⟨rfl,Classical.byContradiction fun e=>f3 (fi p) k hf hkw (.inr ⟨rfl,by omega⟩) h2c⟩
    refine W.r fun K hK=>?_
    simp(disch:=omega)only[↓RU,RV,RH,↓reduceIte,qE,reduceCtorEq,if_pos,qN]
    refine zad.pc (hB) rfl (.inr rfl) ?_
    simp(disch:=omega)only[↓RU,RV,RH,↓reduceIte,qE,reduceCtorEq,if_pos,qN]
    apply hK;clear hK K
    refine W.ret ?_
    refine XBlock.ret ?_
    refine XThen.ret ?_
    refine XThen.ret ?_
    refine XBlock.ret ?_
    refine XBlock.ret ?_
    refine XThen.ret ?_
    refine XThen.ret ?_
    refine XBlock.ret ?_
    refine XThen.ret ?_
    refine Br rfl ?_
    rfl
   try simp only[RL]at h2c
   have hne:¬ (i=fi p∧k=fk p):=fun e=>h2c (by rw [e.1,e.2]; exact f2)
   refine W.skip ?_
   refine XbN ?_
   refine xn ?_
   refine W.k fun K hK=>?_
   simp(disch:=omega)only[↓RU,RV,RH,↓reduceIte,qE,reduceCtorEq,if_pos,w64,zaa]
   apply hK;clear hK K
   refine xn ?_
   refine ⟨nw - (k+1),by omega,0,k+1,rfl,by omega,?_,rfl⟩
   simp [Env.put,Env.of]
  try simp only[RL]at h1c
  obtain rfl:k=nw:=by omega
  refine W.exit ?_
  refine xe ?_
  refine xe ?_
  refine XBlock.hit ?_
  refine XbN ?_
  refine xn ?_
  refine W.k fun K hK=>?_
  simp(disch:=omega)only[↓RU,RV,RH,↓reduceIte,qE,reduceCtorEq,if_pos,w64,zaa]
  apply hK;clear hK K
  refine xn ?_
  refine ⟨nh - (i+1),by omega,0,i+1,rfl,by omega,?_,rfl⟩
  simp [Env.put,Env.of]
 try simp only[RL]at h0
 exfalso; omega
set_option maxHeartbeats 1000000 in
theorem z82 {nh nw:Nat} {p:List Txt} {R:List RmB} (hs:St nh nw p R) (hn:R.length≤8) (h1:1≤nh) (h2:nh≤6) (h3:1≤nw) (h4:nw≤6) (hf:fi p<nh) (h9:nh*nw≤9) {m:Nat} (hm8:m≤8) (ih:∀ w d,w<fw p→d<nh - fi p→PC Tryz.prog 93 [zak (zds p (fi p) (fk p) (w+1) (rl R.length) (fi p+(d+1))),.int .i64 (((R.length:Nat):Int)+1)] (eLL (Cd m p R.length w d)) false):PC Tryz.prog 137 [zak p,.int .i64 (R.length:Nat),.int .i64 (fi p:Nat),.int .i64 (fk p:Nat)] (eLL (Lw m p R.length nh (fw p))) false:=by
 have hph:=hs.sh.h
 obtain ⟨f1,f2,f3⟩:=zgz hs.sh hf
 obtain ⟨hrr,hrl,-,hrx⟩:=z1n hs.sh hf
 have hfw:=yaz hs.sh hf
 refine PC.of ⟨Tryz.func137,by kernel_rfl,rfl,by kernel_rfl⟩ zan mixed (by show 4≤Tryz.f137.ntmps; decide) ?_
 refine W.r fun K hK=>?_
 simp(disch:=omega)only[↓RU,RV,RH,↓reduceIte,qE,reduceCtorEq,if_pos,↓RS,RG,qA,qM,qL]
 apply hK;clear hK K
 refine W.r fun K hK=>?_
 simp(disch:=omega)only[↓RU,RV,RH,↓reduceIte,qE,reduceCtorEq,if_pos,↓RS,RG,qA,qM,qL,ty2,ty6,zac]
 apply hK;clear hK K
 refine W.seq ?_
 refine W.r fun K hK=>?_
 simp(disch:=omega)only[↓RU,RV,RH,↓reduceIte,qE,reduceCtorEq,if_pos,w64,↓RS,RG,qA,qM,qL,zaa]
 apply hK;clear hK K
 refine W.cond rfl (fun h0=>?_) (fun h0=>?_)
 ·try simp only[RL]at h0
  exfalso; omega
 try simp only[RL]at h0
 refine W.skip ?_
 refine xn ?_
 refine W.seq ?_
 refine W.r fun K hK=>?_
 simp(disch:=omega)only[↓RU,RV,RH,↓reduceIte,qE,reduceCtorEq,if_pos,↓RS,RG,qA,qM,qL]
 apply hK;clear hK K
 refine W.block ?_
 refine W.loop [0,1,2,3,9,10] (fun n vs S=>∃ w v t:Nat,n=fw p - w∧w≤fw p∧vs=[zak p,.int .i64 (R.length:Nat),.int .i64 (fi p:Nat),.int .i64 (fk p:Nat),.loc 0 v 0 (Lw m p R.length nh w).length,.int .i64 ((w+1:Nat):Int)]∧S=⟨[.arr v 22 1 ((Lw m p R.length nh w).map zak)],t⟩) (fw p) ?_ ?_
 ·refine ⟨1,0,0,1,rfl,Nat.zero_le _,?_,rfl⟩
  simp [Env.put,Env.of,zaf,Lw]
 rintro n vs S - ⟨w,v,t,rfl,h_w,rfl,rfl⟩
 refine W.seq ?_
 refine W.r fun K hK=>?_
 rcases (show w<fw p∨(w=fw p∧fk p+w<nw∧ch p (fi p) (fk p+w)≠46)∨(w=fw p∧¬ fk p+w<nw) from z1p hs.sh hf h_w) with hw | ⟨hw,hw2,hw3⟩ | ⟨hw,hw2⟩
 ·skip
  obtain ⟨hw1,hw2⟩:=(zoq hs.sh hf).1 hw
  have hc:=hrx _ hw1
  rw [hw2 _ (by omega) (by omega)]at hc
  have e1:decide (((fk p:Nat):Int)+((w+1:Nat):Int)≤(nw:Int))=true:=decide_eq_true (by omega)
  have tn:(((fk p:Nat):Int)+((w+1:Nat):Int) - 1).toNat=fk p+w:=by omega
  simp(disch:=omega)only[↓RU,RV,RH,↓reduceIte,qE,reduceCtorEq,if_pos,w64,↓RS,RG,qA,qM,qL,ty6,zaa,zac,zd3,e1,tn,hc,hrr,hrl,z1d]
  apply hK;clear hK K
  refine W.cond rfl (fun h8=>?_) (fun h8=>?_)
  ·try simp only[RL]at h8
   refine W.skip ?_
   refine xn ?_
   refine W.seq ?_
   refine W.block ?_
   refine W.r fun K hK=>?_
   simp(disch:=omega)only[↓RU,RV,RH,↓reduceIte,qE,reduceCtorEq,if_pos,↓RS,RG,qA,qM,qL]
   apply hK;clear hK K
   refine W.block ?_
   refine W.loop [0,1,2,3,9,10,11] (fun n vs S=>∃ d v t:Nat,n=nh - fi p - d∧d≤nh - fi p∧vs=[zak p,.int .i64 (R.length:Nat),.int .i64 (fi p:Nat),.int .i64 (fk p:Nat),.loc 0 v 0 (Lw m p R.length nh w++Ld m p R.length w d).length,.int .i64 ((w+1:Nat):Int),.int .i64 ((d+1:Nat):Int)]∧S=⟨[.arr v 22 1 ((Lw m p R.length nh w++Ld m p R.length w d).map zak)],t⟩) (nh - fi p) ?_ ?_
   ·have hl0:(Lw m p R.length nh w++Ld m p R.length w 0)=(Lw m p R.length nh w):=by rw [show Ld m p R.length w 0=[] from rfl,qN]
    refine ⟨1,0,v,t,rfl,Nat.zero_le _,?_,by rw [hl0]; rfl⟩
    rw [hl0]
    simp [Env.put,Env.of]
   rintro n vs S - ⟨d,v,t,rfl,h_d,rfl,rfl⟩
   refine W.seq ?_
   refine W.r fun K hK=>?_
   simp(disch:=omega)only[↓RU,RV,RH,↓reduceIte,qE,reduceCtorEq,if_pos,w64,↓RS,RG,qA,qM,qL,ty6,zaa,zac,hph]
   apply hK;clear hK K
   refine W.cond rfl (fun h2c=>?_) (fun h2c=>?_)
   ·try simp only[RL]at h2c
    have hd:d<nh - fi p:=by omega
    have hwl:=yf6 (n:=R.length) h9 hm8 hs.sh hf hw hd
    refine W.skip ?_
    refine xn ?_
    refine W.seq ?_
    refine W.block ?_
    refine W.k fun K hK=>?_
    simp(disch:=omega)only[↓RU,RV,RH,↓reduceIte,qE,reduceCtorEq,if_pos,w64,w64,qN,↓RS,RG,qA,qM,qL,ty2,ty6,zaa,zac,zd3]
    refine zad.pc (zpm (ydr hs.sh h2 h4) (tp:=fi p) (lf:=fk p) (hg:=d+1) (wd:=w+1) (c:=rl R.length) (by omega) (fun r hr=>by rw [hs.sh.w r hr]; omega)) rfl (.inl rfl) ?_
    simp(disch:=omega)only[↓RU,RV,RH,↓reduceIte,qE,reduceCtorEq,if_pos,w64,w64,qN,↓RS,RG,qA,qM,qL,ty2,ty6,zaa,zac,zd3]
    refine zad.pc (ih w d hw hd) rfl (.inr rfl) ?_
    simp(disch:=omega)only[↓RU,RV,RH,↓reduceIte,qE,reduceCtorEq,if_pos,w64,w64,qN,↓RS,RG,qA,qM,qL,ty2,ty6,zaa,zac,zd3]
    apply hK;clear hK K
    refine XbN ?_
    refine xn ?_
    refine W.k fun K hK=>?_
    simp(disch:=omega)only[↓RU,RV,RH,↓reduceIte,qE,reduceCtorEq,if_pos,w64,↓RS,RG,qA,qM,qL,zaa]
    apply hK;clear hK K
    refine xn ?_
    refine ⟨nh - fi p - (d+1),by omega,1,d+1,t,t+1,rfl,by omega,?_,?_⟩
    ·rw [zuj,← List.append_assoc,List.length_append (bs:=Cd m p R.length w d)]; simp [Env.put,Env.of]
    rw [zuj,← List.append_assoc,List.map_append (l₂:=Cd m p R.length w d)]; rfl
   try simp only[RL]at h2c
   obtain rfl:d=nh - fi p:=by omega
   refine W.exit ?_
   refine xe ?_
   refine xe ?_
   refine XBlock.hit ?_
   refine XbN ?_
   refine xn ?_
   refine W.k fun K hK=>?_
   simp(disch:=omega)only[↓RU,RV,RH,↓reduceIte,qE,reduceCtorEq,if_pos,w64,↓RS,RG,qA,qM,qL,zaa]
   apply hK;clear hK K
   refine xn ?_
   refine ⟨fw p - (w+1),by omega,1,w+1,v,t,rfl,by omega,?_,by rw [zuk]; rfl⟩
   simp [Env.put,Env.of,zuk]
  try simp only[RL]at h8
  exact absurd h8 (by simp)
 ·skip
  have hc:=hrx _ hw2
  have e1:decide (((fk p:Nat):Int)+((w+1:Nat):Int)≤(nw:Int))=true:=decide_eq_true (by omega)
  have e2:decide (ch p (fi p) (fk p+w)=46)=false:=decide_eq_false hw3
  have tn:(((fk p:Nat):Int)+((w+1:Nat):Int) - 1).toNat=fk p+w:=by omega
  simp(disch:=omega)only[↓RU,RV,RH,↓reduceIte,qE,reduceCtorEq,if_pos,w64,↓RS,RG,qA,qM,qL,ty6,zaa,zac,zd3,e1,e2,tn,hc,hrr,hrl,z1d]
  apply hK;clear hK K
  refine W.cond rfl (fun h8=>?_) (fun h8=>?_)
  ·try simp only[RL]at h8
   exact absurd h8 (by simp)
  try simp only[RL]at h8
  subst hw
  refine W.exit ?_
  refine xe ?_
  refine xe ?_
  refine XBlock.hit ?_
  refine xn ?_
  refine W.r fun K hK=>?_
  simp(disch:=omega)only[↓RU,RV,RH,↓reduceIte,qE,reduceCtorEq,if_pos,↓RS,RG,qA,qM,qL]
  apply hK;clear hK K
  refine W.ret ?_
  refine Br rfl ?_
  exact z2v rfl
 skip
 have e1:decide (((fk p:Nat):Int)+((w+1:Nat):Int)≤(nw:Int))=false:=decide_eq_false (by omega)
 simp(disch:=omega)only[↓RU,RV,RH,↓reduceIte,qE,reduceCtorEq,if_pos,w64,↓RS,RG,qA,qM,qL,ty6,zaa,zac,zd3,e1,hrr,hrl]
 apply hK;clear hK K
 refine W.cond rfl (fun h8=>?_) (fun h8=>?_)
 ·try simp only[RL]at h8
  exact absurd h8 (by simp)
 try simp only[RL]at h8
 subst hw
 refine W.exit ?_
 refine xe ?_
 refine xe ?_
 refine XBlock.hit ?_
 refine xn ?_
 refine W.r fun K hK=>?_
 simp(disch:=omega)only[↓RU,RV,RH,↓reduceIte,qE,reduceCtorEq,if_pos,↓RS,RG,qA,qM,qL]
 apply hK;clear hK K
 refine W.ret ?_
 refine Br rfl ?_
 exact z2v rfl
theorem z21 {nh nw:Nat} (h1:1≤nh) (h2:nh≤6) (h3:1≤nw) (h4:nw≤6) (h9:nh*nw≤9):∀ (m:Nat) {p:List Txt} {R:List RmB},St nh nw p R→R.length+m=9→∀ n0:Int,n0=(R.length:Nat) →
  PC Tryz.prog 93 [zak p,.int .i64 n0] (eLL (En m p R.length)) false
 | 0,p,R,hs,hm,n0,hn=>by
  have hf:¬ fi p<nh:=fun hf=>by
   obtain ⟨f1,f2,-⟩:=zgz hs.sh hf
   have:=hs.lim hf f1 f2
   omega
  exact z20 hs (by omega) h1 h2 h3 h4 hf n0
 | m+1,p,R,hs,hm,n0,hn=>by
  subst hn
  by_cases hf:fi p<nh
  ·rw [yd6 hs.sh.h hf]
   refine z83 hs (by omega) h1 h2 h3 h4 hf _ (z82 hs (by omega) h1 h2 h3 h4 hf h9 (by omega) fun w d hw hd=>?_)
   have hl:(R++[(⟨fi p,fk p,d+1,w+1⟩:RmB)]).length=R.length+1:=by simp
   have:=z21 h1 h2 h3 h4 h9 m (hs.next h9 hf hw hd) (by omega) (((R.length:Nat):Int)+1) (by rw [hl]; rfl)
   rw [hl]at this
   exact this
  have e:En (m+1) p R.length=[p]:=by
   unfold En
   rw [hs.sh.h,if_neg hf]
  rw [e]
  exact z20 hs (by omega) h1 h2 h3 h4 hf _
theorem z6m {i w:Nat}:(dots i w).map PV.str++[.str (List.replicate w 46)]=(dots (i+1) w).map PV.str:=by simp [dots,List.replicate_succ']
theorem yas {k:Nat}:(List.replicate k (46:UInt8)).map eB++[.int .u8 46]=(List.replicate (k+1) (46:UInt8)).map eB:=by simp [List.replicate_succ',eB]
theorem z1a {i w:Nat}:(dots i w).length=i:=by simp [dots]
theorem z8t {k:Nat}:(List.replicate k (46:UInt8)).length=k:=by simp
theorem z0v {H W:Nat} (h9:H*W≤9):(zdx H W).length≤387420489:=z5s h9 9 zpg
theorem z4a {nh nw:Nat} (h1:1≤nh) (h2:nh≤6) (h3:1≤nw) (h4:nw≤6) (h9:nh*nw≤9):PC Tryz.prog 45 [.int .i64 nh,.int .i64 nw] (eLL (zdx nh nw)) false:=by
 have hF:=z21 h1 h2 h3 h4 h9 9 (zqe (H:=nh) (W:=nw)) rfl 0 rfl
 change PC _ _ _ (eLL (zdx nh nw)) _ at hF
 refine PC.of ⟨Tryz.func45,by kernel_rfl,rfl,by kernel_rfl⟩ zan mixed (by show 2≤Tryz.f45.ntmps; decide) ?_
 refine W.r fun K hK=>?_
 simp(disch:=omega)only[↓RU,RV,RH,↓reduceIte,qE,reduceCtorEq,if_pos,↓RS,RG,qA,qM,qL]
 apply hK;clear hK K
 refine W.r fun K hK=>?_
 simp(disch:=omega)only[↓RU,RV,RH,↓reduceIte,qE,reduceCtorEq,if_pos,↓RS,RG,qA,qM,qL,ty6,zac]
 apply hK;clear hK K
 refine W.joinZ [5] (fun vs S=>∃ tk:Nat,vs=[zak (dots nh nw)]∧S=⟨[],tk⟩) ?_ ?_
 ·
  refine W.r fun K hK=>?_
  simp(disch:=omega)only[↓RU,RV,RH,↓reduceIte,qE,reduceCtorEq,if_pos,↓RS,RG,qA,qM,qL]
  apply hK;clear hK K
  refine W.block ?_
  refine W.loop [0,1,5,6] (fun n vs S=>∃ i v0 tq:Nat,n=nh - i∧i≤nh∧vs=[.int .i64 nh,.int .i64 nw,.loc 0 v0 0 i,.int .i64 i]∧S=⟨[.arr v0 9 1 ((dots i nw).map .str)],tq⟩) nh ?_ ?_
  ·refine ⟨1,0,0,1,rfl,Nat.zero_le _,?_,rfl⟩
   simp [Env.put,Env.of,zaf]
  rintro n vs S - ⟨i,v0,tq,rfl,h_i,rfl,rfl⟩
  refine W.seq ?_
  refine W.r fun K hK=>?_
  simp(disch:=omega)only[↓RU,RV,RH,↓reduceIte,qE,reduceCtorEq,if_pos,w64,↓RS,RG,qA,qM,qL,zaa]
  apply hK;clear hK K
  refine W.cond rfl (fun h=>?_) (fun h=>?_)
  ·try simp only[RL]at h
   have hdl:=z1a (i:=i) (w:=nw)
   refine W.skip ?_
   refine xn ?_
   refine W.seq ?_
   refine W.block ?_
   refine W.r fun K hK=>?_
   simp(disch:=omega)only[↓RU,RV,RH,↓reduceIte,qE,reduceCtorEq,if_pos,↓RS,RG,qA,qM,qL,ty7,zd3]
   apply hK;clear hK K
   refine W.seq ?_
   refine W.r fun K hK=>?_
   simp(disch:=omega)only[↓RU,RV,RH,↓reduceIte,qE,reduceCtorEq,if_pos,↓RS,RG,qA,qM,qL]
   apply hK;clear hK K
   refine W.block ?_
   refine W.loop [0,1,5,6,7,8] (fun n vs S=>∃ k v1 tq:Nat,n=nw - k∧k≤nw∧vs=[.int .i64 nh,.int .i64 nw,.loc 0 v0 0 i,.int .i64 i,.loc 1 v1 0 k,.int .i64 k]∧S=⟨[.arr v0 9 1 ((dots i nw).map .str),.arr v1 5 1 ((List.replicate k (46:UInt8)).map eB)],tq⟩) nw ?_ ?_
   ·refine ⟨2,0,tq,tq+1,rfl,Nat.zero_le _,?_,rfl⟩
    simp [Env.put,Env.of]
   rintro n vs S - ⟨k,v1,tq,rfl,h_k,rfl,rfl⟩
   refine W.seq ?_
   refine W.r fun K hK=>?_
   simp(disch:=omega)only[↓RU,RV,RH,↓reduceIte,qE,reduceCtorEq,if_pos,w64,↓RS,RG,qA,qM,qL,zaa]
   apply hK;clear hK K
   refine W.cond rfl (fun h1x=>?_) (fun h1x=>?_)
   ·try simp only[RL]at h1x
    have hrl:=z8t (k:=k)
    refine W.skip ?_
    refine xn ?_
    refine W.seq ?_
    refine W.block ?_
    refine W.k fun K hK=>?_
    simp(disch:=omega)only[↓RU,RV,RH,↓reduceIte,qE,reduceCtorEq,if_pos,↓RS,RG,qA,qM,qL,ty7,zd3,hrl]
    apply hK;clear hK K
    refine XbN ?_
    refine xn ?_
    refine W.k fun K hK=>?_
    simp(disch:=omega)only[↓RU,RV,RH,↓reduceIte,qE,reduceCtorEq,if_pos,w64,↓RS,RG,qA,qM,qL,zaa]
    apply hK;clear hK K
    refine xn ?_
    refine ⟨nw - (k+1),by omega,2,k+1,tq+1,tq+2,rfl,by omega,?_,?_⟩
    ·simp [Env.put,Env.of]
    rw [← yas]; simp [zav,zkj]
   try simp only[RL]at h1x
   obtain rfl:k=nw:=by omega
   have hrl:=z8t (k:=k)
   refine W.exit ?_
   refine xe ?_
   refine xe ?_
   refine XBlock.hit ?_
   refine xn ?_
   refine W.k fun K hK=>?_
   simp(disch:=omega)only[↓RU,RV,RH,↓reduceIte,qE,reduceCtorEq,if_pos,w64,↓RS,RG,qA,qM,qL,ty6,ty7,zac,zd3,hrl,hdl]
   apply hK;clear hK K
   refine XbN ?_
   refine xn ?_
   refine W.k fun K hK=>?_
   simp(disch:=omega)only[↓RU,RV,RH,↓reduceIte,qE,reduceCtorEq,if_pos,w64,↓RS,RG,qA,qM,qL,zaa]
   apply hK;clear hK K
   refine xn ?_
   refine ⟨nh - (i+1),by omega,1,i+1,tq+1,tq+2,rfl,by omega,?_,?_⟩
   ·simp [Env.put,Env.of]
   rw [← z6m]; simp [zav,zkj]
  try simp only[RL]at h
  obtain rfl:i=nh:=by omega
  refine W.exit ?_
  refine xe ?_
  refine xe ?_
  refine XBlock.hit ?_
  refine xn ?_
  have hdl:=z1a (i:=i) (w:=nw)
  refine ⟨0,[zak (dots i nw)],⟨[],tq⟩,?_,?_,tq,rfl,rfl⟩
  ·have ht:((dots i nw).map PV.str).take i=(dots i nw).map PV.str:=qT (by simp [hdl])
   have hm:∀ S:Store,((dots i nw).map PV.str).mapM (rfz S 0 9)=some ((dots i nw).map PV.str):=fun S=>zrk (fun _=>rfl) _
   simp [-qU,zbb,zba,hdl,ht,hm,Env.put,Env.of]
  rfl
 rintro vs S - ⟨tk,rfl,rfl⟩
 refine W.r fun K hK=>?_
 simp(disch:=omega)only[↓RU,RV,RH,↓reduceIte,qE,reduceCtorEq,if_pos,qN,↓RS,RG,qA,qM,qL]
 refine zad.pc (hF) rfl (.inr rfl) ?_
 simp(disch:=omega)only[↓RU,RV,RH,↓reduceIte,qE,reduceCtorEq,if_pos,qN,↓RS,RG,qA,qM,qL]
 apply hK;clear hK K
 refine W.ret ?_
 refine Br rfl ?_
 rfl

theorem zvw {p q:List Txt} {n:Int} (h0:0≤n) (h1:n≤1000000000):slN p n q=if zh2 (zca p) q then n+1 else n:=by
 unfold slN
 rw [w64 (by omega) (by omega)]
theorem zr0 {p:List Txt} {L:List (List Txt)} (hL:L.length≤1000000000):∀ i,i≤L.length→0≤(L.take i).foldl (slN p) 0∧(L.take i).foldl (slN p) 0≤i
 | 0,_=>by simp
 | i+1,h=>by
  obtain ⟨h1,h2⟩:=zr0 hL i (by omega)
  obtain ⟨q,hq,-⟩:=zae (show i<L.length by omega)
  rw [tk hq,List.foldl_append,List.foldl_cons,List.foldl_nil,zvw h1 (by omega)]
  split <;> omega
theorem ygz {L:List (List Txt)} {i:Nat} {q:List Txt} (h:L[i]?=some q):(L.map zak)[i]?=some (zak q):=by rw [List.getElem?_map,h]; rfl
theorem z86 {p:List Txt} (hs:Sm p) (hv:za3 p=false):PC Tryz.prog 9 [zak p] (.tup [.int .i64 0,.bool false]) true:=by
 refine PC.of ⟨Tryz.func9,by kernel_rfl,rfl,by kernel_rfl⟩ zan mixed (by show 1≤Tryz.f9.ntmps; decide) ?_
 refine W.r fun K hK=>?_
 simp(disch:=omega)only[↓RU,RV,RH,↓reduceIte,qE,reduceCtorEq,if_pos,↓RS,RG,qA,qM,qL]
 apply hK;clear hK K
 refine W.seq ?_
 refine W.r fun K hK=>?_
 simp(disch:=omega)only[↓RU,RV,RH,↓reduceIte,qE,reduceCtorEq,if_pos,qN,w64,↓RS,RG,qA,qM,qL,ty6,zaa,zac,hv]
 refine zad.pc (zfy hs) rfl (.inl rfl) ?_
 simp(disch:=omega)only[↓RU,RV,RH,↓reduceIte,qE,reduceCtorEq,if_pos,qN,w64,↓RS,RG,qA,qM,qL,ty6,zaa,zac,hv]
 apply hK;clear hK K
 refine W.cond rfl (fun h0=>?_) (fun h0=>?_)
 ·try simp only[RL]at h0
  refine W.r fun K hK=>?_
  simp(disch:=omega)only[↓RU,RV,RH,↓reduceIte,qE,reduceCtorEq,if_pos,↓RS,RG,qA,qM,qL]
  apply hK;clear hK K
  refine W.ret ?_
  refine XThen.ret ?_
  refine Br rfl ?_
  rfl
 try simp only[RL]at h0
 exact absurd h0 (by simp)
theorem z41 {p:List Txt} (hs:Sm p) (hv:za3 p=true) (hbig:¬ p.length*(zag p).length≤9):PC Tryz.prog 9 [zak p] (.tup [.int .i64 0,.bool false]) true:=by
 have hpl:zb1 p=true:=zc0 hv
 have hg:=zhi hpl
 obtain ⟨-,-,g1,g2,g3,g4⟩:=hg
 obtain ⟨row0,hrow0,-⟩:=zae (show 0<p.length by omega)
 have hh:row0.length=(zag p).length:=by rw [zc2 hrow0]
 have hmu:p.length*(zag p).length≤36:=Nat.mul_le_mul g2 g4
 have hmc:((p.length:Nat):Int)*(((zag p).length:Nat):Int)=((p.length*(zag p).length:Nat):Int):=by simp
 have hd:decide (((p.length*(zag p).length:Nat):Int)>9)=true:=decide_eq_true (by omega)
 refine PC.of ⟨Tryz.func9,by kernel_rfl,rfl,by kernel_rfl⟩ zan mixed (by show 1≤Tryz.f9.ntmps; decide) ?_
 refine W.r fun K hK=>?_
 simp(disch:=omega)only[↓RU,RV,RH,↓reduceIte,qE,reduceCtorEq,if_pos,↓RS,RG,qA,qM,qL]
 apply hK;clear hK K
 refine W.seq ?_
 refine W.r fun K hK=>?_
 simp(disch:=omega)only[↓RU,RV,RH,↓reduceIte,qE,reduceCtorEq,if_pos,qN,w64,↓RS,RG,qA,qM,qL,ty6,zaa,zac,hv,hrow0,hh,hmc,hd,Int.toNat_zero,Nat.zero_mul,qZ,qM,Nat.zero_add,Nat.mul_one,List.getElem?_cons_zero,List.getElem?_cons_succ]
 refine zad.pc (zfy hs) rfl (.inl rfl) ?_
 simp(disch:=omega)only[↓RU,RV,RH,↓reduceIte,qE,reduceCtorEq,if_pos,qN,w64,↓RS,RG,qA,qM,qL,ty6,zaa,zac,hv,hrow0,hh,hmc,hd,Int.toNat_zero,Nat.zero_mul,qZ,qM,Nat.zero_add,Nat.mul_one,List.getElem?_cons_zero,List.getElem?_cons_succ]
 apply hK;clear hK K
 refine W.cond rfl (fun h0=>?_) (fun h0=>?_)
 ·try simp only[RL]at h0
  refine W.r fun K hK=>?_
  simp(disch:=omega)only[↓RU,RV,RH,↓reduceIte,qE,reduceCtorEq,if_pos,↓RS,RG,qA,qM,qL]
  apply hK;clear hK K
  refine W.ret ?_
  refine XThen.ret ?_
  refine Br rfl ?_
  rfl
 try simp only[RL]at h0
 exact absurd h0 (by simp)
theorem z42 {p:List Txt} (hs:Sm p) (hv:za3 p=true) (h9:p.length*(zag p).length≤9):PC Tryz.prog 9 [zak p] (.tup [.int .i64 ((zdx p.length (zag p).length).foldl (slN p) 0),.bool true]) true:=by
 have hpl:zb1 p=true:=zc0 hv
 have hg:=zhi hpl
 obtain ⟨-,-,g1,g2,g3,g4⟩:=hg
 obtain ⟨row0,hrow0,-⟩:=zae (show 0<p.length by omega)
 have hh:row0.length=(zag p).length:=by rw [zc2 hrow0]
 have hmu:p.length*(zag p).length≤36:=Nat.mul_le_mul g2 g4
 have hmc:((p.length:Nat):Int)*(((zag p).length:Nat):Int)=((p.length*(zag p).length:Nat):Int):=by simp
 have hd:decide (((p.length*(zag p).length:Nat):Int)>9)=false:=decide_eq_false (by omega)
 have hfew:=z0v h9
 refine PC.of ⟨Tryz.func9,by kernel_rfl,rfl,by kernel_rfl⟩ zan mixed (by show 1≤Tryz.f9.ntmps; decide) ?_
 refine W.r fun K hK=>?_
 simp(disch:=omega)only[↓RU,RV,RH,↓reduceIte,qE,reduceCtorEq,if_pos,↓RS,RG,qA,qM,qL]
 apply hK;clear hK K
 refine W.seq ?_
 refine W.r fun K hK=>?_
 simp(disch:=omega)only[↓RU,RV,RH,↓reduceIte,qE,reduceCtorEq,if_pos,qN,w64,↓RS,RG,qA,qM,qL,ty6,zaa,zac,hv,hrow0,hh,hmc,hd,Int.toNat_zero,Nat.zero_mul,qZ,qM,Nat.zero_add,Nat.mul_one,List.getElem?_cons_zero,List.getElem?_cons_succ]
 refine zad.pc (zfy hs) rfl (.inl rfl) ?_
 simp(disch:=omega)only[↓RU,RV,RH,↓reduceIte,qE,reduceCtorEq,if_pos,qN,w64,↓RS,RG,qA,qM,qL,ty6,zaa,zac,hv,hrow0,hh,hmc,hd,Int.toNat_zero,Nat.zero_mul,qZ,qM,Nat.zero_add,Nat.mul_one,List.getElem?_cons_zero,List.getElem?_cons_succ]
 apply hK;clear hK K
 refine W.cond rfl (fun h0=>?_) (fun h0=>?_)
 ·try simp only[RL]at h0
  exact absurd h0 (by simp)
 try simp only[RL]at h0
 refine W.skip ?_
 refine xn ?_
 refine W.r fun K hK=>?_
 simp(disch:=omega)only[↓RU,RV,RH,↓reduceIte,qE,reduceCtorEq,if_pos,qN,↓RS,RG,qA,qM,qL]
 refine zad.pc (zmb hs hv) rfl (.inl rfl) ?_
 simp(disch:=omega)only[↓RU,RV,RH,↓reduceIte,qE,reduceCtorEq,if_pos,qN,↓RS,RG,qA,qM,qL]
 apply hK;clear hK K
 refine W.r fun K hK=>?_
 simp(disch:=omega)only[↓RU,RV,RH,↓reduceIte,qE,reduceCtorEq,if_pos,↓RS,RG,qA,qM,qL]
 apply hK;clear hK K
 refine W.r fun K hK=>?_
 simp(disch:=omega)only[↓RU,RV,RH,↓reduceIte,qE,reduceCtorEq,if_pos,qN,↓RS,RG,qA,qM,qL,ty6,zac,hrow0,hh,Int.toNat_zero,Nat.zero_mul,qZ,qM,Nat.zero_add,Nat.mul_one,List.getElem?_cons_zero,List.getElem?_cons_succ]
 refine zad.pc (z4a g1 g2 g3 g4 h9) rfl (.inr rfl) ?_
 simp(disch:=omega)only[↓RU,RV,RH,↓reduceIte,qE,reduceCtorEq,if_pos,qN,↓RS,RG,qA,qM,qL,ty6,zac,hrow0,hh,Int.toNat_zero,Nat.zero_mul,qZ,qM,Nat.zero_add,Nat.mul_one,List.getElem?_cons_zero,List.getElem?_cons_succ]
 apply hK;clear hK K
 refine W.seq ?_
 refine W.r fun K hK=>?_
 simp(disch:=omega)only[↓RU,RV,RH,↓reduceIte,qE,reduceCtorEq,if_pos,↓RS,RG,qA,qM,qL]
 apply hK;clear hK K
 refine W.block ?_
 refine W.loop [4,5,6,7] (fun n vs S=>∃ i:Nat,n=(zdx p.length (zag p).length).length - i∧i≤(zdx p.length (zag p).length).length∧vs=[eInts (zca p),.int .i64 (((zdx p.length (zag p).length).take i).foldl (slN p) 0),eLL (zdx p.length (zag p).length),.int .i64 i]∧S=⟨[],0⟩) (zdx p.length (zag p).length).length ?_ ?_
 ·refine ⟨0,0,rfl,Nat.zero_le _,?_,rfl⟩
  simp [Env.put,Env.of,zaf]
 rintro n vs S - ⟨i,rfl,h_i,rfl,rfl⟩
 refine W.seq ?_
 refine W.r fun K hK=>?_
 simp(disch:=omega)only[↓RU,RV,RH,↓reduceIte,qE,reduceCtorEq,if_pos,w64,↓RS,RG,qA,qM,qL,ty2,ty6,zaa,zac]
 apply hK;clear hK K
 refine W.cond rfl (fun h1=>?_) (fun h1=>?_)
 ·try simp only[RL]at h1
  obtain ⟨q,hq,hqm⟩:=zae (show i<(zdx p.length (zag p).length).length by omega)
  obtain ⟨hqp,hqs⟩:=zts h9 g1 g2 g3 g4 hqm
  have hqS:=ydr hqs g2 g4
  have hle:=ygz hq
  obtain ⟨hb1,hb2⟩:=zr0 (p:=p) (L:=(zdx p.length (zag p).length)) (by omega) i (by omega)
  have hst:=zvw (p:=p) (q:=q) hb1 (by omega)
  have hnx:((zdx p.length (zag p).length).take (i+1)).foldl (slN p) 0=slN p (((zdx p.length (zag p).length).take i).foldl (slN p) 0) q:=by rw [tk hq,List.foldl_append]; rfl
  refine W.skip ?_
  refine xn ?_
  refine W.seq ?_
  refine W.block ?_
  refine W.r fun K hK=>?_
  rcases (show za3 q=false∨(za3 q=true∧zca q=zca p)∨(za3 q=true∧zca q≠zca p) by cases za3 q <;> by_cases e:zca q=zca p <;> simp [e]) with hq1 | ⟨hq1,hq2⟩ | ⟨hq1,hq2⟩
  ·skip
   have hqi:zcz q=false:=by rw [zbl]; exact hq1
   have hgo:zh2 (zca p) q=false:=by unfold zh2; rw [hqi]; rfl
   rw [hgo]at hst
   simp only[if_true,if_false,qF]at hst
   simp(disch:=omega)only[↓RU,RV,RH,↓reduceIte,qE,reduceCtorEq,if_pos,qN,↓RS,RG,qA,qM,qL,ty2,ty6,zac,hle,hq1]
   refine zad.pc (zfy hqS) rfl (.inl rfl) ?_
   simp(disch:=omega)only[↓RU,RV,RH,↓reduceIte,qE,reduceCtorEq,if_pos,qN,↓RS,RG,qA,qM,qL,ty2,ty6,zac,hle,hq1]
   apply hK;clear hK K
   refine W.cond rfl (fun h2=>?_) (fun h2=>?_)
   ·try simp only[RL]at h2
    exact absurd h2 (by simp)
   try simp only[RL]at h2
   refine W.skip ?_
   refine XbN ?_
   refine xn ?_
   refine W.k fun K hK=>?_
   simp(disch:=omega)only[↓RU,RV,RH,↓reduceIte,qE,reduceCtorEq,if_pos,w64,↓RS,RG,qA,qM,qL,zaa]
   apply hK;clear hK K
   refine xn ?_
   refine ⟨(zdx p.length (zag p).length).length - (i+1),by omega,0,i+1,rfl,by omega,?_,rfl⟩
   rw [hnx,hst]
   simp [Env.put,Env.of]
  ·skip
   have hqi:zcz q=true:=by rw [zbl]; exact hq1
   have hde:decide (zca q=zca p)=true:=decide_eq_true hq2
   have l1:=zvd hq1
   have l2:=zvd hv
   have hgo:zh2 (zca p) q=true:=by unfold zh2; rw [hqi,hde]; rfl
   rw [hgo]at hst
   simp only[if_true,if_false,qF]at hst
   simp(disch:=omega)only[↓RU,RV,RH,↓reduceIte,qE,reduceCtorEq,if_pos,qN,↓RS,RG,qA,qM,qL,ty2,ty6,zac,hle,hq1,hde]
   refine zad.pc (zfy hqS) rfl (.inl rfl) ?_
   simp(disch:=omega)only[↓RU,RV,RH,↓reduceIte,qE,reduceCtorEq,if_pos,qN,↓RS,RG,qA,qM,qL,ty2,ty6,zac,hle,hq1,hde]
   refine zad.pc (zmb hqS hq1) rfl (.inl rfl) ?_
   simp(disch:=omega)only[↓RU,RV,RH,↓reduceIte,qE,reduceCtorEq,if_pos,qN,↓RS,RG,qA,qM,qL,ty2,ty6,zac,hle,hq1,hde]
   refine zad.pc (zta (p:=zca q) (q:=zca p) (by omega) (by omega)) rfl (.inl rfl) ?_
   simp(disch:=omega)only[↓RU,RV,RH,↓reduceIte,qE,reduceCtorEq,if_pos,qN,↓RS,RG,qA,qM,qL,ty2,ty6,zac,hle,hq1,hde]
   apply hK;clear hK K
   refine W.cond rfl (fun h2=>?_) (fun h2=>?_)
   ·try simp only[RL]at h2
    refine W.k fun K hK=>?_
    simp(disch:=omega)only[↓RU,RV,RH,↓reduceIte,qE,reduceCtorEq,if_pos,w64,↓RS,RG,qA,qM,qL,zaa]
    apply hK;clear hK K
    refine XbN ?_
    refine xn ?_
    refine W.k fun K hK=>?_
    simp(disch:=omega)only[↓RU,RV,RH,↓reduceIte,qE,reduceCtorEq,if_pos,w64,↓RS,RG,qA,qM,qL,zaa]
    apply hK;clear hK K
    refine xn ?_
    refine ⟨(zdx p.length (zag p).length).length - (i+1),by omega,0,i+1,rfl,by omega,?_,rfl⟩
    rw [hnx,hst]
    simp [Env.put,Env.of]
   try simp only[RL]at h2
   exact absurd h2 (by simp)
  skip
  have hqi:zcz q=true:=by rw [zbl]; exact hq1
  have hde:decide (zca q=zca p)=false:=decide_eq_false hq2
  have l1:=zvd hq1
  have l2:=zvd hv
  have hgo:zh2 (zca p) q=false:=by unfold zh2; rw [hqi,hde]; rfl
  rw [hgo]at hst
  simp only[if_true,if_false,qF]at hst
  simp(disch:=omega)only[↓RU,RV,RH,↓reduceIte,qE,reduceCtorEq,if_pos,qN,↓RS,RG,qA,qM,qL,ty2,ty6,zac,hle,hq1,hde]
  refine zad.pc (zfy hqS) rfl (.inl rfl) ?_
  simp(disch:=omega)only[↓RU,RV,RH,↓reduceIte,qE,reduceCtorEq,if_pos,qN,↓RS,RG,qA,qM,qL,ty2,ty6,zac,hle,hq1,hde]
  refine zad.pc (zmb hqS hq1) rfl (.inl rfl) ?_
  simp(disch:=omega)only[↓RU,RV,RH,↓reduceIte,qE,reduceCtorEq,if_pos,qN,↓RS,RG,qA,qM,qL,ty2,ty6,zac,hle,hq1,hde]
  refine zad.pc (zta (p:=zca q) (q:=zca p) (by omega) (by omega)) rfl (.inl rfl) ?_
  simp(disch:=omega)only[↓RU,RV,RH,↓reduceIte,qE,reduceCtorEq,if_pos,qN,↓RS,RG,qA,qM,qL,ty2,ty6,zac,hle,hq1,hde]
  apply hK;clear hK K
  refine W.cond rfl (fun h2=>?_) (fun h2=>?_)
  ·try simp only[RL]at h2
   exact absurd h2 (by simp)
  try simp only[RL]at h2
  refine W.skip ?_
  refine XbN ?_
  refine xn ?_
  refine W.k fun K hK=>?_
  simp(disch:=omega)only[↓RU,RV,RH,↓reduceIte,qE,reduceCtorEq,if_pos,w64,↓RS,RG,qA,qM,qL,zaa]
  apply hK;clear hK K
  refine xn ?_
  refine ⟨(zdx p.length (zag p).length).length - (i+1),by omega,0,i+1,rfl,by omega,?_,rfl⟩
  rw [hnx,hst]
  simp [Env.put,Env.of]
 try simp only[RL]at h1
 obtain rfl:i=(zdx p.length (zag p).length).length:=by omega
 refine W.exit ?_
 refine xe ?_
 refine xe ?_
 refine XBlock.hit ?_
 refine xn ?_
 refine W.r fun K hK=>?_
 simp(disch:=omega)only[↓RU,RV,RH,↓reduceIte,qE,reduceCtorEq,if_pos,↓RS,RG,qA,qM,qL]
 apply hK;clear hK K
 refine W.ret ?_
 refine Br rfl ?_
 rw [List.take_length]
 rfl
theorem z3f {p:List Txt} (hs:Sm p):PC Tryz.prog 11 [zak p] (.tup [.int .i64 (zkx p),.bool (zix p)]) true:=by
 unfold zkx zix
 cases hv:zcz p with
 | false=>exact yb8 hs hv
 | true =>
  by_cases h9:p.length*(zag p).length≤9
  ·simp only[h9,decide_true,Bool.and_self,if_true]; exact z9i hs hv h9
  simp only[h9,decide_false,Bool.and_false,qF,if_false]; exact z9h hs hv h9
theorem z87 {p:List Txt} (hs:Sm p):PC Tryz.prog 9 [zak p] (.tup [.int .i64 (zkx p),.bool (zix p)]) true:=by
 unfold zkx zix
 rw [zbl]
 cases hv:za3 p with
 | false=>exact z86 hs hv
 | true =>
  by_cases h9:p.length*(zag p).length≤9
  ·simp only[h9,decide_true,Bool.and_self,if_true]; exact z42 hs hv h9
  simp only[h9,decide_false,Bool.and_false,qF,if_false]; exact z41 hs hv h9



end Fw
end Go.Proofs.YtddhgiafpmghpaaGreat
