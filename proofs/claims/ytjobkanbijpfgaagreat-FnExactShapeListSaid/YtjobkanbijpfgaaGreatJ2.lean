/- Parts of the framework and of the proof: All walls; sets of rooms, gone through; Sizes of plans in plain words; The program's own data in plain words; Small functions of the program and of the library, gone through; The program's walls in plain words; Walls of the program, gone through; Lists without neighbours that are the same; the program's relations in plain words; Compact and the sides of walls of the program, gone through; Relations of rooms in plain words, and in the store; Relations, gone through; The program's orders in plain words; Orders of the program, gone through; Heaviest sums in plain words; Numbers put in order by putting one after the other in; Sort, gone through; How many rooms meet at the points of a grid of the program; Points of the program, gone through; The text of a grid; strings.Builder: copyCheck and String, in the model's own words; The text of a plan of the program, gone through; How the program numbers rooms and finds the rectangles around them; The numbering of rooms by the program, gone through; The numbering of all rooms of a grid; Grids of the program, gone through; A plan of a grid, as the program finds it; Plans of the program, gone through; Plans that are read, in plain words; Reading plans, gone through; The two closures of relations are the same; The heaviest sums and the least sizes are the same; The program's walls and orders are the specification's; The program's direct orders are the specification's; Sums and counts of cells; The least rectangle around cells, by the program; The least rectangle around a room and its cells, by the specification; Plans that are read are the specification's: grids and names; Plans that are read are the specification's: numbers of rooms and rectangles; Plans that are read are the specification's: rooms fill their rectangles. -/
import Derived.Test.YtjobkanbijpfgaaGreatJ1
import Derived.Lib.Builder
import Derived.Lib.UnsafeStr
import Derived.Lib.Walk
import Derived.WalkKit
import Derived.Laws.Externs
set_option linter.all false
namespace Go.Proofs.YtjobkanbijpfgaaGreat
namespace Fw
open Go
open Nat renaming reduceEqDiff → qE, reduceLeDiff → qL, reduceAdd → qA, reduceMul → qM, le_refl → qR
open List renaming append_nil → qN, mapM_append → qP, mapM_cons → qC, mapM_map → qU, range_succ → qS, take_of_length_le → qT
open Bool renaming and_eq_true → qB, false_eq_true → qF
open Option renaming map_some → qO, map_eq_some_iff → qI
open Int renaming reduceToNat → qZ

def Bnd (n:Nat) (M:Int) (l:List Int):Prop:=l.length=n∧∀ x∈l,0≤x∧x≤M
theorem Bnd.at_ {n:Nat} {M:Int} {l:List Int} (h:Bnd n M l) {a:Nat} (ha:a<n):∃ x,l[a]?=some x∧0≤x∧x≤M:=by
 obtain ⟨x,hx,hm⟩:=zaf (show a<l.length by rw [h.1]; exact ha)
 exact ⟨x,hx,h.2 x hm⟩
theorem Bnd.up {n:Nat} {M M':Int} {l:List Int} (h:Bnd n M l) (hM:M≤M'):Bnd n M' l:=⟨h.1,fun x hx=>by have:=h.2 x hx; omega⟩
theorem Bnd.set {n:Nat} {M:Int} {l:List Int} (h:Bnd n M l) {a:Nat} {x:Int} (h0:0≤x) (hx:x≤M):Bnd n M (l.set a x):=by
 refine ⟨by simpa using h.1,fun y hy=>?_⟩
 rcases List.mem_or_eq_of_mem_set hy with h1 | rfl
 ·exact h.2 y h1
 exact ⟨h0,hx⟩
theorem Bnd.zero {n:Nat}:Bnd n 0 (List.replicate n 0):=⟨by simp,fun x hx=>by rw [(List.mem_replicate.1 hx).2]; omega⟩
def zhg (l:List Int) (a:Nat):Int:=l[a]?.getD 0
theorem zgc {l:List Int} {a:Nat} {x:Int} (h:l[a]?=some x):zhg l a=x:=by simp [zhg,h]
def zr1 (ms:List Nat) (a b:Nat):Bool:=(ms[a]?.getD 0).testBit b
theorem znm {ms:List Nat} {a b m:Nat} (h:ms[a]?=some m):zr1 ms a b=m.testBit b:=by simp [zr1,h]
def plB (sets:List Nat) (needs:List Int) (a:Nat) (out:List Int) (b:Nat):List Int :=
 if zr1 sets a b then out.set b (max (zhg out b) (zhg out a+zhg needs a)) else out
def plA (sets:List Nat) (needs:List Int) (out:List Int) (a:Nat):List Int:=(List.range needs.length).foldl (plB sets needs a) out
def plN (sets:List Nat) (needs:List Int) (out:List Int) (_:Nat):List Int:=(List.range needs.length).foldl (plA sets needs) out
def places (sets:List Nat) (needs:List Int):List Int:=(List.range needs.length).foldl (plN sets needs) (List.replicate needs.length 0)
def zht (needs:List Int):Prop:=∀ x∈needs,1≤x∧x≤9
def least (sets:List Nat) (needs:List Int):Int:=(List.range needs.length).foldl (fun m a=>max m (zhg (places sets needs) a+zhg needs a)) 0
def zks (x:Int):Bool:=decide (1≤x) && decide (x≤9)
def zgf (p:List Txt) (needs:List Int):Bool:=zha p && decide ((needs.length:Int)=zcy p) && needs.all zks
theorem zfy:∀ (n:Nat),repz [PV.int .i64 0] n=(List.replicate n 0).map (PV.int .i64)
 | 0=>rfl
 | n+1=>by rw [zhc,zfy n,List.replicate_succ]; rfl
theorem zk3:∀ (n:Nat),repz [PV.str []] n=(List.replicate n []).map PV.str
 | 0=>rfl
 | n+1=>by rw [zhc,zk3 n,List.replicate_succ]; rfl
theorem zps {l:List Txt} {a:Nat} {m:Txt}:(l.map PV.str).set a (.str m)=(l.set a m).map PV.str:=by
 rw [List.map_set]
theorem zt0 {α:Type} {l:List α} {z:α} {i:Nat} {a:α} (h:l[i]?=some a):((l.take i)++List.replicate (l.length - i) z).set i a=(l.take (i+1))++List.replicate (l.length - (i+1)) z:=by
 have hi:=zci h
 apply List.ext_getElem?
 intro j
 rw [List.getElem?_set]
 by_cases hj:i=j
 ·subst hj
  have e1:i<(l.take i++List.replicate (l.length - i) z).length:=by simp; omega
  rw [if_pos rfl,if_pos e1,tk h,List.append_assoc,List.getElem?_append_right (by simp; omega)]
  simp [Nat.min_eq_left (Nat.le_of_lt hi)]
 rw [if_neg hj]
 by_cases hlt:j<i
 ·rw [List.getElem?_append_left (by simp; omega),List.getElem?_append_left (by simp; omega)]
  simp [List.getElem?_take,hlt,show j<i+1 by omega]
 rw [List.getElem?_append_right (by simp; omega),List.getElem?_append_right (by simp; omega)]
 simp only[List.length_take,Nat.min_eq_left (Nat.le_of_lt hi),Nat.min_eq_left (show i+1≤l.length by omega),List.getElem?_replicate]
 have:(j - i<l.length - i)=(j - (i+1)<l.length - (i+1)):=by apply propext; omega
 simp [this]
def zhr:List Txt→Nat
 | []=>0
 | r::p=>r.length+zhr p
theorem z1l {p:List Txt} {i:Nat} {r:Txt} (h:p[i]?=some r):zhr (p.take (i+1))=zhr (p.take i)+r.length:=by
 induction p generalizing i with
 | nil=>simp at h
 | cons a p ih =>
  cases i with
  | zero=>simp at h; subst h; simp [zhr]
  | succ i=>simp at h; simp [zhr,ih h]; omega
theorem z7y {p:List Txt} {i:Nat}:zhr (p.take i)≤zhr p:=by
 induction p generalizing i with
 | nil=>simp [zhr]
 | cons a p ih =>
  cases i with
  | zero=>simp [zhr]
  | succ i=>simp only[List.take_succ_cons,zhr]; have := @ih i; omega
theorem z5p {p:List Txt} {r:Txt} (h:r∈p):r.length≤zhr p:=by
 induction p with
 | nil=>simp at h
 | cons a p ih =>
  simp only[zhr]
  rcases List.mem_cons.1 h with rfl | h
  ·omega
  have:=ih h; omega
def sz (p:List Txt) (left:Int):Int:=if (p.length+zhr p:Nat)≤left then left - (p.length+zhr p:Nat) else -1
theorem ych {p:List Txt} {left:Int} (hl:left≤1048576) (h:0≤sz p left):Sm p:=by
 unfold sz at h
 split at h
 ·exact ⟨by omega,fun r hr=>by have:=z5p hr; omega⟩
 omega
theorem zil {α:Type} {p q:List α} {i:Nat} {x y:α} (h:p.take i=q.take i) (hx:p[i]?=some x) (hy:q[i]?=some y) (e:x=y):p.take (i+1)=q.take (i+1):=by
 rw [tk hx,tk hy,h,e]
section
abbrev zd0 (g:List (List Int)):PV := .sl (g.map eInts) g.length
structure Rect where
 row:Int
 col:Int
 high:Int
 wide:Int
 deriving DecidableEq
def Rect.cells (r:Rect):List PV:=[.int .i64 r.row,.int .i64 r.col,.int .i64 r.high,.int .i64 r.wide]
abbrev zp7 (r:Rect):PV := .agg r.cells
def rcs (rs:List Rect):List PV:=rs.flatMap Rect.cells
abbrev zmu (rs:List Rect):PV := .sl (rcs rs) rs.length
abbrev zaw (g:List (List Int)) (rs:List Rect):PV := .ip [zd0 g,zmu rs] 0
theorem zbn (rs:List Rect):(rcs rs).length=rs.length*4:=by
 induction rs with
 | nil=>rfl
 | cons r rs ih=>simp only[rcs,List.flatMap_cons,List.length_append,List.length_cons]at ih ⊢; rw [ih]; simp [Rect.cells]; omega
theorem zsu (rs ss:List Rect):rcs (rs++ss)=rcs rs++rcs ss:=by simp [rcs]
theorem zk2 (r:Rect) (rs:List Rect):rcs (r::rs)=r.cells++rcs rs:=rfl
theorem z7j (rs:List Rect) (n:Nat):(rcs rs).take (n*4)=rcs (rs.take n):=by
 induction rs generalizing n with
 | nil=>simp [rcs]
 | cons r rs ih =>
  cases n with
  | zero=>simp [rcs]
  | succ n =>
   rw [zk2,List.take_succ_cons,zk2,← ih n]
   rw [show (n+1)*4=r.cells.length+n*4 by simp [Rect.cells]; omega,List.take_length_add_append]
theorem zzt (rs:List Rect) (n:Nat):(rcs rs).drop (n*4)=rcs (rs.drop n):=by
 induction rs generalizing n with
 | nil=>simp [rcs]
 | cons r rs ih =>
  cases n with
  | zero=>simp
  | succ n =>
   rw [zk2,List.drop_succ_cons,← ih n]
   rw [show (n+1)*4=r.cells.length+n*4 by simp [Rect.cells]; omega,List.drop_length_add_append]
theorem zji {rs:List Rect} {n:Nat} {r:Rect} (h:rs[n]?=some r):((rcs rs).drop (n*4)).take 4=r.cells:=by
 rw [zzt]
 have:rs.drop n=r::rs.drop (n+1):=by
  obtain ⟨hn,rfl⟩:=List.getElem?_eq_some_iff.1 h
  exact List.drop_eq_getElem_cons hn
 rw [this,zk2]
 simp [Rect.cells]
theorem yai {rs:List Rect} {n:Nat} {r:Rect} (h:n<rs.length):(rcs rs).take (n*4)++r.cells++(rcs rs).drop (n*4+4)=rcs (rs.set n r):=by
 rw [z7j,show n*4+4=(n+1)*4 by omega,zzt,show r.cells=rcs [r] by simp [rcs],← zsu,← zsu]
 congr 1
 rw [List.set_eq_take_append_cons_drop,if_pos h]
 simp
def ixf {α:Type} (test:α→Bool) (l:List α):Int :=
 match l.findIdx? test with
 | some i=>i
 | none => -1
theorem z8s {α:Type} {test:α→Bool} {l:List α} {i:Nat} {x:α} (h:l[i]?=some x) (hall:(l.take i).any test=false) (hx:test x=true):ixf test l=i:=by
 have:l.findIdx? test=some i:=by
  obtain ⟨hi,rfl⟩:=List.getElem?_eq_some_iff.1 h
  rw [List.findIdx?_eq_some_iff_getElem]
  refine ⟨hi,hx,fun j hj=>?_⟩
  rw [List.any_eq_false]at hall
  have:=hall l[j] (by rw [List.mem_take_iff_getElem]; exact ⟨j,by omega,rfl⟩)
  simpa using this
 simp [ixf,this]
theorem zsd {α:Type} {test:α→Bool} {l:List α} (hall:l.any test=false):ixf test l = -1:=by
 have:l.findIdx? test=none:=by
  rw [List.findIdx?_eq_none_iff]
  intro x hx
  rw [List.any_eq_false]at hall
  simpa using hall x hx
 simp [ixf,this]
theorem z27 {α:Type} {test:α→Bool} {l:List α}:decide (0≤ixf test l)=l.any test:=by
 cases h:l.any test with
 | false=>rw [zsd h]; rfl
 | true =>
  unfold ixf
  cases hi:l.findIdx? test with
  | none =>
   rw [List.findIdx?_eq_none_iff]at hi
   rw [List.any_eq_true]at h
   obtain ⟨x,hx,hx2⟩:=h
   rw [hi x hx]at hx2; cases hx2
  | some i=>simp
theorem z8d {α:Type} {f:α→Bool} {l:List α} {i:Nat} {a:α} (h:l[i]?=some a) (h1:(l.take i).any f=false) (h2:f a=false):(l.take (i+1)).any f=false:=by
 rw [tk h,List.any_append,h1]; simp [h2]
def Rect.both (b o:Rect):Rect:=⟨min b.row o.row,min b.col o.col,max (b.row+b.high) (o.row+o.high) - min b.row o.row,max (b.col+b.wide) (o.col+o.wide) - min b.col o.col⟩
def Rect.In (M:Int) (r:Rect):Prop:=0≤r.row∧r.row≤M∧0≤r.col∧r.col≤M∧0≤r.high∧r.high≤M∧0≤r.wide∧r.wide≤M
theorem zb4 {S:Store} {im:Bool} {k:Nat} {g:FuncId} {cap:List PV}:reify S im (k+1) (.fn g cap)=(cap.mapM (reify S im k)).map (.fn g):=rfl
section
variable {S:Store} {k f lo:Nat} {sel:List Nat} {fr:Nat→Bool} {im:Bool}
theorem za7 {q:IntKind} {n:Int}:rn S k sel (f+1) (.int q n)=some (.int q n):=rfl
theorem zat {b:Bool}:rn S k sel (f+1) (.bool b)=some (.bool b):=rfl
theorem za9 {b:Txt}:rn S k sel (f+1) (.str b)=some (.str b):=rfl
theorem zb0 {cs:List PV} {n:Nat}:rn S k sel (f+1) (.sl cs n)=some (.sl cs n):=rfl
theorem zby {cs:List PV} {n:Nat}:rn S k sel (f+1) (.ip cs n)=some (.ip cs n):=rfl
theorem zav:rn S k sel (f+1) .nils=some .nils:=rfl
theorem zau:rn S k sel (f+1) .nilp=some .nilp:=rfl
theorem zan:rn S k sel (f+1) .undef=some .undef:=rfl
theorem za6 {cs:List PV}:rn S k sel (f+1) (.agg cs)=(cs.mapM (rn S k sel f)).map .agg:=rfl
theorem zba {cs:List PV}:rn S k sel (f+1) (.tup cs)=(cs.mapM (rn S k sel f)).map .tup:=rfl
theorem zbx {g:FuncId} {cs:List PV}:rn S k sel (f+1) (.fn g cs)=(cs.mapM (rn S k sel f)).map (.fn g):=rfl
theorem za3 {o ver off n:Nat}:rn S k sel (f+1) (.loc o ver off n)=(if o<k then some (.loc o ver off n) else
   if sel.contains o then (match S.obs[o]? with | some (.arr v _ _ _)=>if v=ver then some (.loc (k+sel.idxOf o) S.tick off n) else none | _=>none)
   else rfq S (zc9 k sel) 10 (.loc o ver off n)):=rfl
theorem za8 {o ver off:Nat}:rn S k sel (f+1) (.ref o ver off)=(if o<k then some (.ref o ver off) else
   if sel.contains o then (match S.obs[o]? with | some (.arr v _ _ _)=>if v=ver then some (.ref (k+sel.idxOf o) S.tick off) else none | _=>none)
   else rfq S (zc9 k sel) 10 (.ref o ver off)):=rfl
theorem zbz {o ver:Nat}:rn S k sel (f+1) (.mp o ver)=(if o<k then some (.mp o ver) else
   if sel.contains o then (match S.obs[o]? with | some (.map v _)=>if v=ver then some (.mp (k+sel.idxOf o) S.tick) else none | _=>none)
   else none):=rfl
theorem zar {o ver off n:Nat}:rfq S fr (f+1) (.loc o ver off n)=(match S.obs[o]? with
   | some (.arr v _ sz cells)=>if fr o=true∧v=ver∧off+n*sz≤cells.length then (((cells.drop off).take (n*sz)).mapM (rfq S fr f)).map (.sl · n) else none
   | _=>none):=rfl
theorem zaq {q:IntKind} {n:Int}:rfq S fr (f+1) (.int q n)=some (.int q n):=rfl
theorem zal {b:Bool}:rfq S fr (f+1) (.bool b)=some (.bool b):=rfl
theorem zas {b:Txt}:rfq S fr (f+1) (.str b)=some (.str b):=rfl
theorem za5 {cs:List PV} {n:Nat}:rfq S fr (f+1) (.sl cs n)=some (.sl cs n):=rfl
theorem zai {old:Bool}:zjx S k sel old []=some []:=rfl
theorem zac {old:Bool} {o:Nat} {r:List Nat}:zjx S k sel old (o::r)=((S.obs[o]?).bind (zxn S k sel old)).bind fun a=>(zjx S k sel old r).map (a :: ·):=rfl
theorem zak {old:Bool} {ver et sz:Nat} {cells:List PV}:zxn S k sel old (.arr ver et sz cells)=(cells.mapM (rn S k sel 10)).map (.arr (if old then ver else S.tick) et sz ·):=rfl
theorem zam {old:Bool} {ver:Nat} {es:List (PV × PV)}:zxn S k sel old (.map ver es)=(es.mapM fun q=>(rn S k sel 10 q.1).bind fun a=>(rn S k sel 10 q.2).map fun b=>(a,b)).map (.map (if old then ver else S.tick) ·):=rfl
theorem za2:S.rn k sel=(if sel.all (fun o=>decide (k≤o)) && decide sel.Nodup && decide (k≤S.obs.length) then
  (zjx S k sel true (List.range k)).bind fun a=>(zjx S k sel false sel).map fun b=>⟨a++b,S.tick+1⟩
 else none):=rfl
def scal:PV→Bool
 | .int _ _ | .bool _ | .str _=>true
 | _=>false
theorem zxp {l:List PV} (h:l.all scal=true):l.mapM (rn S k sel (f+1))=some l:=by
 rw [List.all_eq_true]at h
 exact zce fun x hx=>by have:=h x hx; cases x <;> simp [scal]at this <;> rfl
theorem zmb {l:List PV} (h:l.all scal=true):l.mapM (reify S im (f+1))=some l:=by
 rw [List.all_eq_true]at h
 exact zce fun x hx=>by have:=h x hx; cases x <;> simp [scal]at this <;> rfl
theorem zz3 (rs:List Rect):(rcs rs).all scal=true:=by
 induction rs with
 | nil=>rfl
 | cons r rs ih=>rw [zk2,List.all_append,ih]; rfl
end
end
theorem zsa (g:List (List Int)) (rs:List Rect):PC Tryz.prog 74 [zaw g rs] (.int .i64 g.length) true:=by
 refine PC.of ⟨Tryz.func74,by kernel_rfl,rfl,by kernel_rfl⟩ za4 mixed (by show 1≤Tryz.f74.ntmps; decide) ?_
 refine W.r fun K hK=>?_
 simp(disch:=omega)only[↓RU,RV,RH,↓reduceIte,qE,reduceCtorEq,if_pos,↓RS,RG,qA,qM,qL]
 apply hK;clear hK K
 refine W.r fun K hK=>?_
 simp(disch:=omega)only[↓RU,RV,RH,↓reduceIte,qE,reduceCtorEq,if_pos,↓RS,RG,qA,qM,qL,ty0,ty1,zab,ty7,ty8,zbg,zaa,zfp,zbh]
 apply hK;clear hK K
 refine W.ret ?_
 refine Br rfl ?_
 rfl
theorem zx6 {g:List (List Int)} {row:List Int} (h:g[0]?=some row) (rs:List Rect):PC Tryz.prog 75 [zaw g rs] (.int .i64 row.length) true:=by
 have hl:=zci h
 refine PC.of ⟨Tryz.func75,by kernel_rfl,rfl,by kernel_rfl⟩ za4 mixed (by show 1≤Tryz.f75.ntmps; decide) ?_
 refine W.r fun K hK=>?_
 simp(disch:=omega)only[↓RU,RV,RH,↓reduceIte,qE,reduceCtorEq,if_pos,↓RS,RG,qA,qM,qL]
 apply hK;clear hK K
 refine W.r fun K hK=>?_
 simp(disch:=omega)only[↓RU,RV,RH,↓reduceIte,qE,reduceCtorEq,if_pos,↓RS,RG,qA,qM,qL,ty0,ty1,zab,ty7,ty8,zbg,zaa,zfp,zbh,h,Int.toNat_zero,Nat.zero_mul,qZ]
 apply hK;clear hK K
 refine W.ret ?_
 refine Br rfl ?_
 rfl
theorem z9k {r:Rect} (h1:0≤r.high*r.wide) (h2:r.high*r.wide≤1048576):PC Tryz.prog 153 [zp7 r] (.int .i64 (r.high*r.wide)) true:=by
 simp only[zp7,Rect.cells]
 refine PC.of ⟨Tryz.func153,by kernel_rfl,rfl,by kernel_rfl⟩ za4 mixed (by show 1≤Tryz.f153.ntmps; decide) ?_
 refine W.r fun K hK=>?_
 simp(disch:=omega)only[↓RU,RV,RH,↓reduceIte,qE,reduceCtorEq,if_pos,↓RS,RG,qA,qM,qL,zbg,zaa,zbh]
 apply hK;clear hK K
 refine W.r fun K hK=>?_
 simp(disch:=omega)only[↓RU,RV,RH,↓reduceIte,qE,reduceCtorEq,if_pos,w64,↓RS,RG,qA,qM,qL,zbg,zaa,zbh]
 apply hK;clear hK K
 refine W.ret ?_
 refine Br rfl ?_
 rfl
theorem zjm {b o:Rect} (hb:b.In 1000) (ho:o.In 1000):PC Tryz.prog 110 [zp7 b,zp7 o] (zp7 (b.both o)) true:=by
 unfold Rect.In at hb ho
 simp only[zp7,Rect.cells,Rect.both]
 refine PC.of ⟨Tryz.func110,by kernel_rfl,rfl,by kernel_rfl⟩ za4 mixed (by show 2≤Tryz.f110.ntmps; decide) ?_
 refine W.r fun K hK=>?_
 simp(disch:=omega)only[↓RU,RV,RH,↓reduceIte,qE,reduceCtorEq,if_pos,↓RS,RG,qA,qM,qL,zbg,zaa,zbh]
 apply hK;clear hK K
 refine W.seq_draw (by kernel_rfl) fun K hK=>?_
 simp(disch:=omega)only[↓RU,RV,RH,↓reduceIte,qE,reduceCtorEq,if_pos,zw6,↓RS,RG,qA,qM,qL,zbg,zaa,zbh]
 apply hK;clear hK K
 refine W.r fun K hK=>?_
 simp(disch:=omega)only[↓RU,RV,RH,↓reduceIte,qE,reduceCtorEq,if_pos,w64,zex,↓RS,RG,qA,qM,qL,zbg,zaa,zbh]
 apply hK;clear hK K
 refine W.ret ?_
 refine Br rfl ?_
 rfl
theorem zxf (n:Int):PC Tryz.prog 70 [.int .i64 n] (.bool (!zks n)) true:=by
 refine PC.of ⟨Tryz.func70,by kernel_rfl,rfl,by kernel_rfl⟩ za4 mixed (by show 1≤Tryz.f70.ntmps; decide) ?_
 refine W.r fun K hK=>?_
 simp(disch:=omega)only[↓RU,RV,RH,↓reduceIte,qE,reduceCtorEq,if_pos]
 apply hK;clear hK K
 refine W.r fun K hK=>?_
 by_cases h:n<1
 ·skip
  simp(disch:=omega)only[↓RU,RV,RH,↓reduceIte,qE,reduceCtorEq,if_pos,w64,zaa,h,decide_true]
  apply hK;clear hK K
  refine W.ret ?_
  refine Br rfl ?_
  rw [show zks n=false by simp [zks]; omega]
  rfl
 skip
 simp(disch:=omega)only[↓RU,RV,RH,↓reduceIte,qE,reduceCtorEq,if_pos,w64,zaa,h,decide_false]
 apply hK;clear hK K
 refine W.ret ?_
 refine Br rfl ?_
 have hx:zks n=decide (n≤9):=by simp [zks]; omega
 rw [show (!zks n)=decide (9<n) by rw [hx,← decide_not]; apply decide_eq_decide.2; omega]
 rfl
theorem zxu (row:List Int) (w:Int) (hr:row.length<2147483648):PC Tryz.prog 151 [eInts row,.ip [.int .i64 w] 0] (.bool (decide ((row.length:Int)≠w))) true:=by
 refine PC.of ⟨Tryz.func151,by kernel_rfl,rfl,by kernel_rfl⟩ za4 mixed (by show 2≤Tryz.f151.ntmps; decide) ?_
 refine W.r fun K hK=>?_
 simp(disch:=omega)only[↓RU,RV,RH,↓reduceIte,qE,reduceCtorEq,if_pos,↓RS,RG,qA,qM,qL]
 apply hK;clear hK K
 refine W.r fun K hK=>?_
 simp(disch:=omega)only[↓RU,RV,RH,↓reduceIte,qE,reduceCtorEq,if_pos,w64,↓RS,RG,qA,qM,qL,zab,zaa]
 apply hK;clear hK K
 refine W.ret ?_
 refine Br rfl ?_
 rw [show decide ((row.length:Int)≠w)=((row.length:Int) != w) by rw [zr2]; simp]
 rfl
theorem zw3 {l:List Int} (hl:l.length<2147483648) {g:FuncId} {cap:List PV} (hc:cap.mapM (reify ⟨[],0⟩ true 10)=some cap) {test:Int→Bool} (hg:∀ x∈l,PC Tryz.prog g (.int .i64 x::cap) (.bool (test x)) true):PC Tryz.prog 109 [eInts l,.fn g cap] (.int .i64 (ixf test l)) true:=by
 refine PC.of ⟨Tryz.func109,by kernel_rfl,rfl,by kernel_rfl⟩ za4 mixed (by show 2≤Tryz.f109.ntmps; decide) ?_
 refine W.r fun K hK=>?_
 simp(disch:=omega)only[↓RU,RV,RH,↓reduceIte,qE,reduceCtorEq,if_pos]
 apply hK;clear hK K
 refine W.seq ?_
 refine W.r fun K hK=>?_
 simp(disch:=omega)only[↓RU,RV,RH,↓reduceIte,qE,reduceCtorEq,if_pos,zab,zaa]
 apply hK;clear hK K
 refine W.block ?_
 refine W.loop [0,1,6,7,8] (fun n vs S=>∃ i:Nat,n=l.length - i∧i≤l.length∧((l.take i).any test=false)∧vs=[eInts l,.fn g cap,eInts l,.int .i64 l.length,.int .i64 i]∧S=⟨[],0⟩) (l.length) ?_ ?_
 ·refine ⟨0,0,rfl,Nat.zero_le _,rfl,?_,rfl⟩
  simp [Env.put,Env.of,zad]
 rintro n vs S - ⟨i,rfl,h_i,hall,rfl,rfl⟩
 refine W.r fun K hK=>?_
 simp(disch:=omega)only[↓RU,RV,RH,↓reduceIte,qE,reduceCtorEq,if_pos,w64,zaa]
 apply hK;clear hK K
 refine W.seq ?_
 refine W.cond rfl (fun h=>?_) (fun h=>?_)
 ·try simp only[RL]at h
  obtain ⟨x,hx,hxm⟩:=zaf (show i<l.length by omega)
  refine W.skip ?_
  refine xn ?_
  refine W.seq ?_
  refine W.block ?_
  refine W.r fun K hK=>?_
  simp(disch:=omega)only[↓RU,RV,RH,↓reduceIte,qE,reduceCtorEq,if_pos]
  apply hK;clear hK K
  refine W.r fun K hK=>?_
  simp(disch:=omega)only[↓RU,RV,RH,↓reduceIte,qE,reduceCtorEq,if_pos,qN,zab,zaa,hx]
  refine zag.pc (hg x hxm) (zaj rfl hc) (.inl rfl) ?_
  simp(disch:=omega)only[↓RU,RV,RH,↓reduceIte,qE,reduceCtorEq,if_pos,qN,zab,zaa,hx]
  apply hK;clear hK K
  refine W.cond rfl (fun h1=>?_) (fun h1=>?_)
  ·try simp only[RL]at h1
   refine W.r fun K hK=>?_
   simp(disch:=omega)only[↓RU,RV,RH,↓reduceIte,qE,reduceCtorEq,if_pos]
   apply hK;clear hK K
   refine W.ret ?_
   refine XBlock.ret ?_
   refine XThen.ret ?_
   refine XThen.ret ?_
   refine XBlock.ret ?_
   refine XThen.ret ?_
   refine Br rfl ?_
   rw [z8s hx hall h1]
   rfl
  try simp only[RL]at h1
  refine W.skip ?_
  refine XbN ?_
  refine xn ?_
  refine W.k fun K hK=>?_
  simp(disch:=omega)only[↓RU,RV,RH,↓reduceIte,qE,reduceCtorEq,if_pos,w64,zaa]
  apply hK;clear hK K
  refine xn ?_
  refine ⟨l.length - (i+1),by omega,0,i+1,rfl,by omega,z8d hx (by assumption) h1,?_,rfl⟩
  simp [Env.put,Env.of]
 try simp only[RL]at h
 refine W.exit ?_
 refine xe ?_
 refine xe ?_
 refine XBlock.hit ?_
 refine xn ?_
 refine W.r fun K hK=>?_
 simp(disch:=omega)only[↓RU,RV,RH,↓reduceIte,qE,reduceCtorEq,if_pos]
 apply hK;clear hK K
 refine W.ret ?_
 refine Br rfl ?_
 have hip:l.take i=l:=qT (by omega)
 rw [hip]at hall
 rw [zsd hall]
 rfl
theorem zw4 {l:List (List Int)} (hl:l.length<2147483648) {g:FuncId} {cap:List PV} (hc:cap.mapM (reify ⟨[],0⟩ true 10)=some cap) {test:(List Int)→Bool} (hg:∀ x∈l,PC Tryz.prog g (eInts x::cap) (.bool (test x)) true):PC Tryz.prog 171 [zd0 l,.fn g cap] (.int .i64 (ixf test l)) true:=by
 refine PC.of ⟨Tryz.func171,by kernel_rfl,rfl,by kernel_rfl⟩ za4 mixed (by show 2≤Tryz.f171.ntmps; decide) ?_
 refine W.r fun K hK=>?_
 simp(disch:=omega)only[↓RU,RV,RH,↓reduceIte,qE,reduceCtorEq,if_pos]
 apply hK;clear hK K
 refine W.seq ?_
 refine W.r fun K hK=>?_
 simp(disch:=omega)only[↓RU,RV,RH,↓reduceIte,qE,reduceCtorEq,if_pos,ty0,zab,ty8,zaa]
 apply hK;clear hK K
 refine W.block ?_
 refine W.loop [0,1,6,7,8] (fun n vs S=>∃ i:Nat,n=l.length - i∧i≤l.length∧((l.take i).any test=false)∧vs=[zd0 l,.fn g cap,zd0 l,.int .i64 l.length,.int .i64 i]∧S=⟨[],0⟩) (l.length) ?_ ?_
 ·refine ⟨0,0,rfl,Nat.zero_le _,rfl,?_,rfl⟩
  simp [Env.put,Env.of,zad]
 rintro n vs S - ⟨i,rfl,h_i,hall,rfl,rfl⟩
 refine W.r fun K hK=>?_
 simp(disch:=omega)only[↓RU,RV,RH,↓reduceIte,qE,reduceCtorEq,if_pos,w64,zaa]
 apply hK;clear hK K
 refine W.seq ?_
 refine W.cond rfl (fun h=>?_) (fun h=>?_)
 ·try simp only[RL]at h
  obtain ⟨x,hx,hxm⟩:=zaf (show i<l.length by omega)
  refine W.skip ?_
  refine xn ?_
  refine W.seq ?_
  refine W.block ?_
  refine W.r fun K hK=>?_
  simp(disch:=omega)only[↓RU,RV,RH,↓reduceIte,qE,reduceCtorEq,if_pos]
  apply hK;clear hK K
  refine W.r fun K hK=>?_
  simp(disch:=omega)only[↓RU,RV,RH,↓reduceIte,qE,reduceCtorEq,if_pos,qN,ty0,zab,ty8,zaa,hx]
  refine zag.pc (hg x hxm) (zaj rfl hc) (.inl rfl) ?_
  simp(disch:=omega)only[↓RU,RV,RH,↓reduceIte,qE,reduceCtorEq,if_pos,qN,ty0,zab,ty8,zaa,hx]
  apply hK;clear hK K
  refine W.cond rfl (fun h1=>?_) (fun h1=>?_)
  ·try simp only[RL]at h1
   refine W.r fun K hK=>?_
   simp(disch:=omega)only[↓RU,RV,RH,↓reduceIte,qE,reduceCtorEq,if_pos]
   apply hK;clear hK K
   refine W.ret ?_
   refine XBlock.ret ?_
   refine XThen.ret ?_
   refine XThen.ret ?_
   refine XBlock.ret ?_
   refine XThen.ret ?_
   refine Br rfl ?_
   rw [z8s hx hall h1]
   rfl
  try simp only[RL]at h1
  refine W.skip ?_
  refine XbN ?_
  refine xn ?_
  refine W.k fun K hK=>?_
  simp(disch:=omega)only[↓RU,RV,RH,↓reduceIte,qE,reduceCtorEq,if_pos,w64,zaa]
  apply hK;clear hK K
  refine xn ?_
  refine ⟨l.length - (i+1),by omega,0,i+1,rfl,by omega,z8d hx (by assumption) h1,?_,rfl⟩
  simp [Env.put,Env.of]
 try simp only[RL]at h
 refine W.exit ?_
 refine xe ?_
 refine xe ?_
 refine XBlock.hit ?_
 refine xn ?_
 refine W.r fun K hK=>?_
 simp(disch:=omega)only[↓RU,RV,RH,↓reduceIte,qE,reduceCtorEq,if_pos]
 apply hK;clear hK K
 refine W.ret ?_
 refine Br rfl ?_
 have hip:l.take i=l:=qT (by omega)
 rw [hip]at hall
 rw [zsd hall]
 rfl
theorem zp4 {l:List Int} (hl:l.length<2147483648) {g:FuncId} {cap:List PV} (hc9:cap.mapM (reify ⟨[],0⟩ true 9)=some cap) (hc:cap.mapM (reify ⟨[],0⟩ true 10)=some cap) {test:Int→Bool} (hg:∀ x∈l,PC Tryz.prog g (.int .i64 x::cap) (.bool (test x)) true):PC Tryz.prog 71 [eInts l,.fn g cap] (.bool (l.any test)) true:=by
 have hcr:[eInts l,.fn g cap].mapM (reify ⟨[],0⟩ true 10)=some [eInts l,.fn g cap]:=zaj rfl (zaj (by rw [zb4,hc9]; rfl) rfl)
 refine PC.of ⟨Tryz.func71,by kernel_rfl,rfl,by kernel_rfl⟩ za4 mixed (by show 2≤Tryz.f71.ntmps; decide) ?_
 refine W.r fun K hK=>?_
 simp(disch:=omega)only[↓RU,RV,RH,↓reduceIte,qE,reduceCtorEq,if_pos]
 apply hK;clear hK K
 refine W.r fun K hK=>?_
 simp(disch:=omega)only[↓RU,RV,RH,↓reduceIte,qE,reduceCtorEq,if_pos,qN,w64,zaa]
 refine zag.pc (zw3 hl hc hg) hcr (.inl rfl) ?_
 simp(disch:=omega)only[↓RU,RV,RH,↓reduceIte,qE,reduceCtorEq,if_pos,qN,w64,zaa]
 apply hK;clear hK K
 refine W.ret ?_
 refine Br rfl ?_
 rw [← z27]
 rfl
theorem zp5 {l:List (List Int)} (hl:l.length<2147483648) {g:FuncId} {cap:List PV} (hc9:cap.mapM (reify ⟨[],0⟩ true 9)=some cap) (hc:cap.mapM (reify ⟨[],0⟩ true 10)=some cap) {test:(List Int)→Bool} (hg:∀ x∈l,PC Tryz.prog g (eInts x::cap) (.bool (test x)) true):PC Tryz.prog 150 [zd0 l,.fn g cap] (.bool (l.any test)) true:=by
 have hcr:[zd0 l,.fn g cap].mapM (reify ⟨[],0⟩ true 10)=some [zd0 l,.fn g cap]:=zaj rfl (zaj (by rw [zb4,hc9]; rfl) rfl)
 refine PC.of ⟨Tryz.func150,by kernel_rfl,rfl,by kernel_rfl⟩ za4 mixed (by show 2≤Tryz.f150.ntmps; decide) ?_
 refine W.r fun K hK=>?_
 simp(disch:=omega)only[↓RU,RV,RH,↓reduceIte,qE,reduceCtorEq,if_pos]
 apply hK;clear hK K
 refine W.r fun K hK=>?_
 simp(disch:=omega)only[↓RU,RV,RH,↓reduceIte,qE,reduceCtorEq,if_pos,qN,w64,zaa]
 refine zag.pc (zw4 hl hc hg) hcr (.inl rfl) ?_
 simp(disch:=omega)only[↓RU,RV,RH,↓reduceIte,qE,reduceCtorEq,if_pos,qN,w64,zaa]
 apply hK;clear hK K
 refine W.ret ?_
 refine Br rfl ?_
 rw [← z27]
 rfl
theorem zuc {p q:List Txt} (hp:p.length<2147483648) (hq:q.length<2147483648):PC Tryz.prog 129 [za1 p,za1 q] (.bool (decide (p=q))) true:=by
 refine PC.of ⟨Tryz.func129,by kernel_rfl,rfl,by kernel_rfl⟩ za4 mixed (by show 2≤Tryz.f129.ntmps; decide) ?_
 refine W.r fun K hK=>?_
 simp(disch:=omega)only[↓RU,RV,RH,↓reduceIte,qE,reduceCtorEq,if_pos]
 apply hK;clear hK K
 refine W.seq ?_
 refine W.r fun K hK=>?_
 simp(disch:=omega)only[↓RU,RV,RH,↓reduceIte,qE,reduceCtorEq,if_pos,w64,ty3,zaa,zah]
 apply hK;clear hK K
 refine W.cond rfl (fun h=>?_) (fun h=>?_)
 ·try simp only[RL]at h
  refine W.r fun K hK=>?_
  simp(disch:=omega)only[↓RU,RV,RH,↓reduceIte,qE,reduceCtorEq,if_pos]
  apply hK;clear hK K
  refine W.ret ?_
  refine XThen.ret ?_
  refine Br rfl ?_
  rw [show decide (p=q)=false by simp; rintro rfl; exact h rfl]
  rfl
 try simp only[RL]at h
 refine W.skip ?_
 refine xn ?_
 refine W.seq ?_
 refine W.r fun K hK=>?_
 simp(disch:=omega)only[↓RU,RV,RH,↓reduceIte,qE,reduceCtorEq,if_pos,ty3,zah]
 apply hK;clear hK K
 refine W.block ?_
 refine W.loop [0,1,11,12,13] (fun n vs S=>∃ i:Nat,n=p.length - i∧i≤p.length∧(p.take i=q.take i)∧vs=[za1 p,za1 q,za1 p,.int .i64 p.length,.int .i64 i]∧S=⟨[],0⟩) (p.length) ?_ ?_
 ·refine ⟨0,0,rfl,Nat.zero_le _,rfl,?_,rfl⟩
  simp [Env.put,Env.of,zad]
 rintro n vs S - ⟨i,rfl,h_i,htk,rfl,rfl⟩
 refine W.r fun K hK=>?_
 simp(disch:=omega)only[↓RU,RV,RH,↓reduceIte,qE,reduceCtorEq,if_pos,w64,zaa]
 apply hK;clear hK K
 refine W.seq ?_
 refine W.cond rfl (fun h1=>?_) (fun h1=>?_)
 ·try simp only[RL]at h1
  obtain ⟨x,hx,-⟩:=zaf (show i<p.length by omega)
  obtain ⟨y,hy,-⟩:=zaf (show i<q.length by omega)
  refine W.skip ?_
  refine xn ?_
  refine W.seq ?_
  refine W.block ?_
  refine W.r fun K hK=>?_
  simp(disch:=omega)only[↓RU,RV,RH,↓reduceIte,qE,reduceCtorEq,if_pos]
  apply hK;clear hK K
  refine W.seq_draw (by kernel_rfl) fun K hK=>?_
  simp(disch:=omega)only[↓RU,RV,RH,↓reduceIte,qE,reduceCtorEq,if_pos,w64,ty3,zah,hx,hy]
  apply hK;clear hK K
  refine W.cond rfl (fun h2=>?_) (fun h2=>?_)
  ·try simp only[RL]at h2
   refine W.r fun K hK=>?_
   simp(disch:=omega)only[↓RU,RV,RH,↓reduceIte,qE,reduceCtorEq,if_pos]
   apply hK;clear hK K
   refine W.ret ?_
   refine XBlock.ret ?_
   refine XThen.ret ?_
   refine XThen.ret ?_
   refine XBlock.ret ?_
   refine XThen.ret ?_
   refine Br rfl ?_
   rw [show decide (p=q)=false by simp; rintro rfl; rw [hx]at hy; simp_all]
   rfl
  try simp only[RL]at h2
  refine W.skip ?_
  refine XbN ?_
  refine xn ?_
  refine W.k fun K hK=>?_
  simp(disch:=omega)only[↓RU,RV,RH,↓reduceIte,qE,reduceCtorEq,if_pos,w64,zaa]
  apply hK;clear hK K
  refine xn ?_
  refine ⟨p.length - (i+1),by omega,0,i+1,rfl,by omega,zil htk hx hy h2,?_,rfl⟩
  simp [Env.put,Env.of]
 try simp only[RL]at h1
 refine W.exit ?_
 refine xe ?_
 refine xe ?_
 refine XBlock.hit ?_
 refine xn ?_
 refine W.r fun K hK=>?_
 simp(disch:=omega)only[↓RU,RV,RH,↓reduceIte,qE,reduceCtorEq,if_pos]
 apply hK;clear hK K
 refine W.ret ?_
 refine Br rfl ?_
 have h1:p.take i=p:=qT (by omega)
 have h2:q.take i=q:=qT (by omega)
 rw [show decide (p=q)=true by simp; rw [← h1,← h2]; exact htk]
 rfl
def GW (g:List (List Int)) (H W:Nat):Prop:=g.length=H∧(∀ r∈g,r.length=W)∧1≤H∧H≤6∧1≤W∧W≤6
def gz (g:List (List Int)) (i j:Nat):Int:=(g[i]?.getD [])[j]?.getD 0
theorem GW.at_ {g:List (List Int)} {H W:Nat} (h:GW g H W) {i j:Nat} (hi:i<H) (hj:j<W):∃ row,g[i]?=some row∧row.length=W∧row[j]?=some (gz g i j):=by
 obtain ⟨row,hr,hm⟩:=zaf (show i<g.length by rw [h.1]; exact hi)
 have hl:=h.2.1 row hm
 obtain ⟨x,hx,-⟩:=zaf (show j<row.length by omega)
 exact ⟨row,hr,hl,by simp [gz,hr,hx]⟩
def zcc (g:List (List Int)) (level:Bool) (line at_:Nat):Int × Int:=if level then (gz g (line - 1) at_,gz g line at_) else (gz g at_ (line - 1),gz g at_ line)
def InL (H W:Nat) (level:Bool) (line at_:Nat):Prop:=1≤line∧if level then line<H∧at_<W else line<W∧at_<H
structure Wall where
 level:Bool
 line:Int
 fr:Int
 long:Int
def Wall.cells (w:Wall):List PV:=[.bool w.level,.int .i64 w.line,.int .i64 w.fr,.int .i64 w.long]
def zhf (d:Bool) (level:Bool) (line at_:Nat) (s:List Wall × Bool):List Wall × Bool :=
 if d && s.2 then (s.1.dropLast++(s.1.getLast?.map fun w=>{ w with long:=w.long+1 }).toList,d)
 else if d then (s.1++[⟨level,line,at_,1⟩],d) else (s.1,d)
def zhz (g:List (List Int)) (level:Bool) (line at_:Nat):Bool:=decide ((zcc g level line at_).1≠(zcc g level line at_).2)
def zd3 (g:List (List Int)) (level:Bool) (line:Nat) (ws:List Wall) (n:Nat):List Wall × Bool :=
 (List.range n).foldl (fun s at_=>zhf (zhz g level line at_) level line at_ s) (ws,false)
def zdk (g:List (List Int)) (level:Bool) (places:Nat) (ws:List Wall) (line:Nat):List Wall :=
 (List.range line).foldl (fun ws l=>if 1≤l then (zd3 g level l ws places).1 else ws) ws
def zhw (g:List (List Int)) (H W:Nat):List Wall:=zdk g true W (zdk g false H [] W) H
theorem zj9 {g:List (List Int)} {level:Bool} {line:Nat} {ws:List Wall} {n:Nat}:zd3 g level line ws (n+1)=zhf (zhz g level line n) level line n (zd3 g level line ws n):=by
 unfold zd3; rw [ze5]
theorem zio {g:List (List Int)} {level:Bool} {places:Nat} {ws:List Wall} {line:Nat} (h:1≤line):zdk g level places ws (line+1)=(zd3 g level line (zdk g level places ws line) places).1:=by
 unfold zdk; rw [ze5,if_pos h]
theorem z95 {α:Type} {l:List α} (h:l≠[]):∃ l0 a,l=l0++[a]:=⟨l.dropLast,l.getLast h,(List.dropLast_concat_getLast h).symm⟩
theorem zx7 {g:List (List Int)} {level:Bool} {places:Nat} {ws:List Wall}:zdk g level places ws 1=ws:=by simp [zdk]
theorem zka {g:List (List Int)} {level:Bool} {line:Nat} {ws:List Wall}:zd3 g level line ws 0=(ws,false):=rfl
theorem zbj {S:Store}:S.take S.obs.length=S:=by simp [Store.take]
theorem z7w {g:List (List Int)} {nh nw:Nat} (hg:GW g nh nw) (rs:List Rect) {level:Bool} {line at_:Nat} (hi:InL nh nw level line at_):PC Tryz.prog 119 [zaw g rs,.bool level,.int .i64 line,.int .i64 at_] (.tup [.int .i64 (zcc g level line at_).1,.int .i64 (zcc g level line at_).2]) true:=by
 have hl:=hg.1
 obtain ⟨hi1,hi2⟩:=hi
 have hb:line≤6∧at_≤6:=by have:=hg.2.2; cases level <;> simp at hi2 <;> omega
 refine PC.of ⟨Tryz.func119,by kernel_rfl,rfl,by kernel_rfl⟩ za4 mixed (by show 4≤Tryz.f119.ntmps; decide) ?_
 refine W.r fun K hK=>?_
 simp(disch:=omega)only[↓RU,RV,RH,↓reduceIte,qE,reduceCtorEq,if_pos,↓RS,RG,qA,qM,qL]
 apply hK;clear hK K
 refine W.seq ?_
 refine W.r fun K hK=>?_
 simp(disch:=omega)only[↓RU,RV,RH,↓reduceIte,qE,reduceCtorEq,if_pos,↓RS,RG,qA,qM,qL]
 apply hK;clear hK K
 refine W.cond rfl (fun h0=>?_) (fun h0=>?_)
 ·try simp only[RL]at h0
  subst h0
  simp only[if_true]at hi2
  obtain ⟨r1,hr1,hl1,hx1⟩:=hg.at_ (i:=line - 1) (j:=at_) (by omega) hi2.2
  obtain ⟨r2,hr2,hl2,hx2⟩:=hg.at_ (i:=line) (j:=at_) hi2.1 hi2.2
  refine W.seq_draw (by kernel_rfl) fun K hK=>?_
  simp(disch:=omega)only[↓RU,RV,RH,↓reduceIte,qE,reduceCtorEq,if_pos,w64,↓RS,RG,qA,qM,qL,ty0,ty1,zab,ty7,ty8,zbg,zaa,zfp,zbh,hr1,hx1,hr2,hx2,zcq]
  apply hK;clear hK K
  refine W.ret ?_
  refine XThen.ret ?_
  refine Br rfl ?_
  rfl
 try simp only[RL]at h0
 subst h0
 simp only[qF,if_false]at hi2
 obtain ⟨r1,hr1,hl1,hx1⟩:=hg.at_ (i:=at_) (j:=line - 1) hi2.2 (by omega)
 obtain ⟨r2,hr2,hl2,hx2⟩:=hg.at_ (i:=at_) (j:=line) hi2.2 hi2.1
 obtain rfl:r1=r2:=by rw [hr1]at hr2; exact Option.some.inj hr2
 refine W.skip ?_
 refine xn ?_
 refine W.seq_draw (by kernel_rfl) fun K hK=>?_
 simp(disch:=omega)only[↓RU,RV,RH,↓reduceIte,qE,reduceCtorEq,if_pos,w64,↓RS,RG,qA,qM,qL,ty0,ty1,zab,ty7,ty8,zbg,zaa,zfp,zbh,hr1,hx1,hr2,hx2,zcq]
 apply hK;clear hK K
 refine W.ret ?_
 refine Br rfl ?_
 rfl
theorem z2d {g:List (List Int)} {nh nw:Nat} (hg:GW g nh nw) (rs:List Rect) {level:Bool} {line at_:Nat} (hi:InL nh nw level line at_):PC Tryz.prog 118 [zaw g rs,.bool level,.int .i64 line,.int .i64 at_] (.bool (zhz g level line at_)) true:=by
 refine PC.of ⟨Tryz.func118,by kernel_rfl,rfl,by kernel_rfl⟩ za4 mixed (by show 4≤Tryz.f118.ntmps; decide) ?_
 refine W.r fun K hK=>?_
 simp(disch:=omega)only[↓RU,RV,RH,↓reduceIte,qE,reduceCtorEq,if_pos]
 apply hK;clear hK K
 refine W.r fun K hK=>?_
 simp(disch:=omega)only[↓RU,RV,RH,↓reduceIte,qE,reduceCtorEq,if_pos,qN]
 refine zag.pc (z7w hg rs hi) rfl (.inl rfl) ?_
 simp(disch:=omega)only[↓RU,RV,RH,↓reduceIte,qE,reduceCtorEq,if_pos,qN]
 apply hK;clear hK K
 refine W.r fun K hK=>?_
 simp(disch:=omega)only[↓RU,RV,RH,↓reduceIte,qE,reduceCtorEq,if_pos,w64,zaa]
 apply hK;clear hK K
 refine W.ret ?_
 refine Br rfl ?_
 rw [show zhz g level line at_=((zcc g level line at_).1 != (zcc g level line at_).2) by rw [zr2,zhz]; simp]
 rfl
theorem gF {F R:List Ob} {a:Ob}:(F++a::R)[F.length]?=some a:=by simp
theorem zeh {F R:List Ob} {a b:Ob}:(F++a::R).set F.length b=F++b::R:=by simp
theorem z7u {α:Type} {f:α→PV} {l:List α} {x:α} {a n:Nat}:(l.map f).take a++(List.replicate n x).map f++(l.map f).drop (a+n)=(l.take a++List.replicate n x++l.drop (a+n)).map f:=by simp
theorem z6e {q:IntKind} {l:List Int}:zb3 (l.map (PV.int q))=True:=eq_true (ztp (fun _=>rfl) l)
def ddp (l:List Int):List Int:=l.foldl ztm []
theorem znp {l:List Int} {p:Nat} {x:Int} (h:l[p]?=some x):ddp (l.take (p+1))=ztm (ddp (l.take p)) x:=ze6 h
theorem z4k (l:List Int) (x:Int):(ztm l x).getLast?=some x:=by
 unfold ztm; split
 ·assumption
 simp
theorem zr6 {l:List Int} {p:Nat} {y:Int} (h:l[p]?=some y):(ddp (l.take (p+1))).getLast?=some y:=by rw [znp h]; exact z4k _ _
theorem zno {l:List Int} {p:Nat} {x y:Int} (hp:1≤p) (h0:l[p - 1]?=some y) (h:l[p]?=some x) (e:x=y):ddp (l.take (p+1))=ddp (l.take p):=by
 have:=zr6 h0
 rw [show p - 1+1=p by omega]at this
 rw [znp h,ztm,this,e]; simp
theorem zww {l:List Int} {p:Nat} {x y:Int} (hp:1≤p) (h0:l[p - 1]?=some y) (h:l[p]?=some x) (e:¬ x=y):ddp (l.take (p+1))=ddp (l.take p)++[x]:=by
 have:=zr6 h0
 rw [show p - 1+1=p by omega]at this
 rw [znp h,ztm,this,if_neg (by simpa using Ne.symm e)]
theorem z9t {l:List Int} (h:1≤l.length):ddp (l.take 1)=l.take 1:=by
 cases l with
 | nil=>simp at h
 | cons a l=>rfl
theorem zt2 {l:List Int} (h:l.length<2):ddp l=l:=by
 match l,h with
 | [],_=>rfl
 | [a],_=>rfl
structure DC (l c:List Int) (k p:Nat):Prop where
 len:c.length=l.length
 dk:(ddp (l.take p)).length=k
 hd:c.take k=ddp (l.take p)
 dr:c.drop (p - 1)=l.drop (p - 1)
 kp:k+1≤p
theorem DC.get {l c:List Int} {k p j:Nat} (h:DC l c k p) (hj:p - 1≤j):c[j]?=l[j]?:=by
 have:=congrArg (fun x=>x[j - (p - 1)]?) h.dr
 simp only[List.getElem?_drop]at this
 rwa [show p - 1+(j - (p - 1))=j by omega]at this
theorem DC.first {l:List Int} {k:Nat} {x y:Int} (h1:1≤k) (hd:ddp (l.take k)=l.take k) (hy:l[k - 1]?=some y) (hx:l[k]?=some x) (e:x=y):DC l l k (k+1):=by
 have hk:=zci hx
 refine ⟨rfl,?_,?_,rfl,qR _⟩
 ·rw [zno h1 hy hx e,hd,List.length_take]; omega
 rw [zno h1 hy hx e,hd]
theorem DC.same {l c:List Int} {k p:Nat} {x y:Int} (h:DC l c k p) (h1:1≤p) (hy:l[p - 1]?=some y) (hx:l[p]?=some x) (e:x=y):DC l c k (p+1):=by
 refine ⟨h.len,?_,?_,?_,by have:=h.kp; omega⟩
 ·rw [zno h1 hy hx e]; exact h.dk
 ·rw [zno h1 hy hx e]; exact h.hd
 have:=congrArg (List.drop 1) h.dr
 rw [List.drop_drop,List.drop_drop]at this
 rwa [show p - 1+1=p by omega]at this
theorem DC.new {l c:List Int} {k p:Nat} {x y:Int} (h:DC l c k p) (h1:1≤p) (hy:l[p - 1]?=some y) (hx:l[p]?=some x) (e:¬ x=y):DC l (c.set k x) (k+1) (p+1):=by
 have hp:=zci hx
 have hk:=h.kp
 have hl:=h.len
 refine ⟨by simpa using hl,?_,?_,?_,by omega⟩
 ·rw [zww h1 hy hx e,List.length_append,h.dk]; rfl
 ·rw [zww h1 hy hx e,← h.hd]
  have:(c.set k x)[k]?=some x:=by rw [List.getElem?_set]; simp; omega
  rw [tk this,List.take_set_of_le (qR _)]
 rw [Nat.add_sub_cancel,List.drop_set_of_lt (by omega)]
 have:=congrArg (List.drop 1) h.dr
 rw [List.drop_drop,List.drop_drop]at this
 rwa [show p - 1+1=p by omega]at this
def zei (g:List (List Int)) (level:Bool) (line fr:Nat) (n:Nat):List Int × List Int :=
 ((List.range n).map fun j=>(zcc g level line (fr+j)).1,(List.range n).map fun j=>(zcc g level line (fr+j)).2)
theorem zts {g:List (List Int)} {level:Bool} {line fr n:Nat}:(zei g level line fr (n+1)).1=(zei g level line fr n).1++[(zcc g level line (fr+n)).1]:=by simp [zei,qS]
theorem ztt {g:List (List Int)} {level:Bool} {line fr n:Nat}:(zei g level line fr (n+1)).2=(zei g level line fr n).2++[(zcc g level line (fr+n)).2]:=by simp [zei,qS]
theorem zg1 {S:Store} {k f:Nat} {sel:List Nat} {q:IntKind} (l:List Int):(l.map (PV.int q)).mapM (rn S k sel (f+1))=some (l.map (PV.int q)) :=
 zce fun x hx=>by obtain ⟨a,_,rfl⟩:=List.mem_map.1 hx; rfl
theorem z0p {F R:List Ob} {ver t:Nat} {l:List Int} (hl:l.length<2147483648):Ev Tryz.prog 120 [.loc F.length ver 0 l.length] ⟨F ++ .arr ver 3 1 (l.map (.int .i64))::R,t⟩ fun v S=>∃ z:List Int,v = .loc F.length ver 0 (ddp l).length∧S=⟨F ++ .arr ver 3 1 ((ddp l++z).map (.int .i64))::R,t⟩:=by
 refine Ev.of ⟨Tryz.func120,by kernel_rfl,rfl,by kernel_rfl⟩ za4 mixed (by show 1≤Tryz.f120.ntmps; decide) ?_
 refine W.r fun K hK=>?_
 simp(disch:=omega)only[↓RU,RV,RH,↓reduceIte,qE,reduceCtorEq,if_pos,↓RS,RG,qA,qM,qL,gF,zeh]
 apply hK;clear hK K
 refine W.seq ?_
 refine W.r fun K hK=>?_
 simp(disch:=omega)only[↓RU,RV,RH,↓reduceIte,qE,reduceCtorEq,if_pos,w64,↓RS,RG,qA,qM,qL,zab,zaa,gF,zeh]
 apply hK;clear hK K
 refine W.cond rfl (fun h=>?_) (fun h=>?_)
 ·try simp only[RL]at h
  refine W.r fun K hK=>?_
  simp(disch:=omega)only[↓RU,RV,RH,↓reduceIte,qE,reduceCtorEq,if_pos,↓RS,RG,qA,qM,qL,gF,zeh]
  apply hK;clear hK K
  refine W.ret ?_
  refine XThen.ret ?_
  refine Br rfl ?_
  refine ⟨(F++Ob.arr ver 3 1 (l.map (.int .i64))::R).length,[],?_,?_⟩
  ·rw [zt2 (by omega)]; rfl
  rw [qN,zt2 (by omega)]; exact zbj
 try simp only[RL]at h
 refine W.skip ?_
 refine xn ?_
 refine W.seq ?_
 refine W.r fun K hK=>?_
 simp(disch:=omega)only[↓RU,RV,RH,↓reduceIte,qE,reduceCtorEq,if_pos,↓RS,RG,qA,qM,qL,gF,zeh]
 apply hK;clear hK K
 refine W.block ?_
 refine W.loop [0,3] (fun n vs S=>∃ k0:Nat,n=l.length - k0∧k0≤l.length∧(1≤k0)∧(ddp (l.take k0)=l.take k0)∧vs=[.loc F.length ver 0 l.length,.int .i64 k0]∧S=⟨F ++ .arr ver 3 1 (l.map (.int .i64))::R,t⟩) (l.length - 1) ?_ ?_
 ·refine ⟨_,1,rfl,by omega,qR _,z9t (by omega),?_,zbj⟩
  simp [Env.put,Env.of,zad]
 rintro n vs S - ⟨k0,rfl,h_k0,h1k,hd,rfl,rfl⟩
 refine W.seq ?_
 refine W.r fun K hK=>?_
 simp(disch:=omega)only[↓RU,RV,RH,↓reduceIte,qE,reduceCtorEq,if_pos,w64,↓RS,RG,qA,qM,qL,zab,zaa,gF,zeh]
 apply hK;clear hK K
 refine W.cond rfl (fun h1=>?_) (fun h1=>?_)
 ·try simp only[RL]at h1
  obtain ⟨x,hx,-⟩:=zaf (show k0<l.length by omega)
  obtain ⟨y,hy,-⟩:=zaf (show k0 - 1<l.length by omega)
  refine W.skip ?_
  refine xn ?_
  refine W.seq ?_
  refine W.block ?_
  refine W.seq_draw (by kernel_rfl) fun K hK=>?_
  simp(disch:=omega)only[↓RU,RV,RH,↓reduceIte,qE,reduceCtorEq,if_pos,w64,↓RS,RG,qA,qM,qL,zab,zaa,gF,zeh,hx,hy,zcq]
  apply hK;clear hK K
  refine W.cond rfl (fun h2=>?_) (fun h2=>?_)
  ·try simp only[RL]at h2
   refine W.r fun K hK=>?_
   simp(disch:=omega)only[↓RU,RV,RH,↓reduceIte,qE,reduceCtorEq,if_pos,Option.map_none,↓RS,RG,qA,qM,qL,zab,zaa,gF,zeh]
   apply hK;clear hK K
   refine W.seq ?_
   refine W.r fun K hK=>?_
   simp(disch:=omega)only[↓RU,RV,RH,↓reduceIte,qE,reduceCtorEq,if_pos,↓RS,RG,qA,qM,qL,gF,zeh]
   apply hK;clear hK K
   refine W.block ?_
   refine W.loop [0,3,4,5] (fun n vs S=>∃ k p:Nat,∃ c:List Int,n=l.length - p∧DC l c k p∧k0+1≤p∧p≤l.length∧vs=[.loc F.length ver 0 l.length,.int .i64 k,.loc F.length ver k0 (l.length - k0),.int .i64 ((p - k0:Nat):Int)]∧S=⟨F ++ .arr ver 3 1 (c.map (.int .i64))::R,t⟩) (l.length - (k0+1)) ?_ ?_
   ·refine ⟨_,k0,k0+1,l,rfl,DC.first h1k hd hy hx h2,qR _,by omega,?_,zbj⟩
    simp [Env.put,Env.of]
   rintro n vs S - ⟨k,p,c,rfl,hdc,hk0,h_p,rfl,rfl⟩
   refine W.seq ?_
   refine W.r fun K hK=>?_
   simp(disch:=omega)only[↓RU,RV,RH,↓reduceIte,qE,reduceCtorEq,if_pos,w64,↓RS,RG,qA,qM,qL,zab,zaa,gF,zeh]
   apply hK;clear hK K
   refine W.cond rfl (fun h3=>?_) (fun h3=>?_)
   ·try simp only[RL]at h3
    have hkp:=hdc.kp
    obtain ⟨x2,hx2,-⟩:=zaf (show p<l.length by omega)
    obtain ⟨y2,hy2,-⟩:=zaf (show p - 1<l.length by omega)
    have hcx:=hdc.get (j:=p) (by omega)
    have hcy:=hdc.get (j:=p - 1) (by omega)
    rw [hx2]at hcx
    rw [hy2]at hcy
    have hcl:=hdc.len
    have e1:k0+(p - k0)=p:=by omega
    have e2:k0+(p - k0 - 1)=p - 1:=by omega
    refine W.skip ?_
    refine xn ?_
    refine W.seq ?_
    refine W.block ?_
    refine W.seq_draw (by kernel_rfl) fun K hK=>?_
    simp(disch:=omega)only[↓RU,RV,RH,↓reduceIte,qE,reduceCtorEq,if_pos,w64,↓RS,RG,qA,qM,qL,zab,zaa,gF,zeh,hcx,hcy,zcq,e1,e2]
    apply hK;clear hK K
    refine W.cond rfl (fun h4=>?_) (fun h4=>?_)
    ·try simp only[RL]at h4
     refine W.r fun K hK=>?_
     simp(disch:=omega)only[↓RU,RV,RH,↓reduceIte,qE,reduceCtorEq,if_pos,↓RS,RG,qA,qM,qL,zab,zaa,gF,zeh,hcx,e1,hcl,zdc,zea]
     apply hK;clear hK K
     refine W.k fun K hK=>?_
     simp(disch:=omega)only[↓RU,RV,RH,↓reduceIte,qE,reduceCtorEq,if_pos,w64,↓RS,RG,qA,qM,qL,zaa,gF,zeh]
     apply hK;clear hK K
     refine XbN ?_
     refine xn ?_
     refine W.k fun K hK=>?_
     simp(disch:=omega)only[↓RU,RV,RH,↓reduceIte,qE,reduceCtorEq,if_pos,w64,↓RS,RG,qA,qM,qL,zaa,gF,zeh]
     apply hK;clear hK K
     refine xn ?_
     refine ⟨l.length - (p+1),by omega,_,k+1,p+1,c.set k x2,rfl,hdc.new (by omega) hy2 hx2 h4,by omega,by omega,?_,zbj⟩
     simp [Env.put,Env.of,show p+1 - k0=p - k0+1 by omega]
    try simp only[RL]at h4
    refine W.skip ?_
    refine XbN ?_
    refine xn ?_
    refine W.k fun K hK=>?_
    simp(disch:=omega)only[↓RU,RV,RH,↓reduceIte,qE,reduceCtorEq,if_pos,w64,↓RS,RG,qA,qM,qL,zaa,gF,zeh]
    apply hK;clear hK K
    refine xn ?_
    refine ⟨l.length - (p+1),by omega,_,k,p+1,c,rfl,hdc.same (by omega) hy2 hx2 h4,by omega,by omega,?_,zbj⟩
    simp [Env.put,Env.of,show p+1 - k0=p - k0+1 by omega]
   try simp only[RL]at h3
   have hkp:=hdc.kp
   have hcl:=hdc.len
   obtain rfl:p=l.length:=by omega
   refine W.exit ?_
   refine xe ?_
   refine xe ?_
   refine XBlock.hit ?_
   refine xn ?_
   refine W.r fun K hK=>?_
   simp(disch:=omega)only[↓RU,RV,RH,↓reduceIte,qE,reduceCtorEq,if_pos,Option.map_none,zgh,zfy,↓RS,RG,qA,qM,qL,zab,zaa,gF,zeh,hcl,zfy,z7u,z6e,List.length_replicate]
   apply hK;clear hK K
   refine W.r fun K hK=>?_
   simp(disch:=omega)only[↓RU,RV,RH,↓reduceIte,qE,reduceCtorEq,if_pos,Option.map_none,↓RS,RG,qA,qM,qL,zab,zaa,gF,zeh]
   apply hK;clear hK K
   refine W.ret ?_
   refine XBlock.ret ?_
   refine XThen.ret ?_
   refine XThen.ret ?_
   refine XBlock.ret ?_
   refine XThen.ret ?_
   refine Br rfl ?_
   have hdk:=hdc.dk
   rw [List.take_length]at hdk
   have htk:=hdc.hd
   rw [List.take_length]at htk
   have hdrop:c.drop (k+(l.length - k))=[]:=List.drop_of_length_le (by omega)
   rw [hdrop,qN,htk]
   refine ⟨(F++Ob.arr ver 3 1 ((ddp l++List.replicate (l.length - k) 0).map (.int .i64))::R).length,_,?_,zbj⟩
   rw [hdk]; rfl
  try simp only[RL]at h2
  refine W.skip ?_
  refine XbN ?_
  refine xn ?_
  refine W.k fun K hK=>?_
  simp(disch:=omega)only[↓RU,RV,RH,↓reduceIte,qE,reduceCtorEq,if_pos,w64,↓RS,RG,qA,qM,qL,zaa,gF,zeh]
  apply hK;clear hK K
  refine xn ?_
  refine ⟨l.length - (k0+1),by omega,_,k0+1,rfl,by omega,by omega,by rw [zww h1k hy hx h2,hd,← tk hx],?_,zbj⟩
  simp [Env.put,Env.of]
 try simp only[RL]at h1
 refine W.exit ?_
 refine xe ?_
 refine xe ?_
 refine XBlock.hit ?_
 refine xn ?_
 refine W.r fun K hK=>?_
 simp(disch:=omega)only[↓RU,RV,RH,↓reduceIte,qE,reduceCtorEq,if_pos,↓RS,RG,qA,qM,qL,gF,zeh]
 apply hK;clear hK K
 refine W.ret ?_
 refine Br rfl ?_
 obtain rfl:k0=l.length:=by omega
 refine ⟨(F++Ob.arr ver 3 1 (l.map (.int .i64))::R).length,[],?_,?_⟩
 ·rw [show ddp l=l by simpa using hd]; rfl
 rw [qN,show ddp l=l by simpa using hd]; exact zbj
theorem zj4 {S S':Store} (h:S=S'):S.take S.obs.length=S':=by rw [zbj,h]
def Sq (n:Nat) (M:List (List Bool)):Prop:=M.length=n∧∀ r∈M,r.length=n
def zc7 (M:List (List Bool)) (a b:Nat):Bool:=(M[a]?.getD [])[b]?.getD false
def z1r (M:List (List Bool)) (a b:Nat) (x:Bool):List (List Bool):=M.set a ((M[a]?.getD []).set b x)
theorem Sq.at_ {n:Nat} {M:List (List Bool)} (h:Sq n M) {a b:Nat} (ha:a<n) (hb:b<n):∃ row,M[a]?=some row∧row.length=n∧row[b]?=some (zc7 M a b):=by
 obtain ⟨row,hr,hm⟩:=zaf (show a<M.length by rw [h.1]; exact ha)
 have hl:=h.2 row hm
 obtain ⟨x,hx,-⟩:=zaf (show b<row.length by omega)
 exact ⟨row,hr,hl,by simp [zc7,hr,hx]⟩
theorem Sq.set {n:Nat} {M:List (List Bool)} (h:Sq n M) {a b:Nat} {x:Bool} (ha:a<n):Sq n (z1r M a b x):=by
 obtain ⟨row,hr,hm⟩:=zaf (show a<M.length by rw [h.1]; exact ha)
 refine ⟨by simp [z1r,h.1],fun r hr'=>?_⟩
 rcases List.mem_or_eq_of_mem_set hr' with h1 | rfl
 ·exact h.2 r h1
 simp [hr,h.2 row hm]
theorem yau {M:List (List Bool)} {a b:Nat} {x:Bool} {row:List Bool} (h:M[a]?=some row):z1r M a b x=M.set a (row.set b x):=by simp [z1r,h]
def zek (n:Nat):List (List Bool):=List.replicate n (List.replicate n false)
theorem zg5 (n:Nat):Sq n (zek n):=⟨by simp [zek],fun r hr=>by rw [(List.mem_replicate.1 hr).2]; simp⟩
def z8z (k t:Nat) (M:List (List Bool)):List Ob :=
 .arr t 119 1 ((List.range M.length).map fun i => .loc (k+1+i) t 0 M.length)::M.map fun r => .arr t 4 1 (r.map .bool)
theorem z4s:∀ (n:Nat),repz [PV.bool false] n=(List.replicate n false).map PV.bool
 | 0=>rfl
 | n+1=>by rw [zhc,z4s n,List.replicate_succ]; rfl
theorem zvt:∀ (n:Nat),repz [PV.nils] n=List.replicate n PV.nils
 | 0=>rfl
 | n+1=>by rw [zhc,zvt n,List.replicate_succ]; rfl
def clB (k a:Nat) (M:List (List Bool)) (b:Nat):List (List Bool):=z1r M a b (zc7 M a b || (zc7 M a k && zc7 M k b))
def clA (n k:Nat) (M:List (List Bool)) (a:Nat):List (List Bool):=(List.range n).foldl (clB k a) M
def clK (n:Nat) (M:List (List Bool)) (k:Nat):List (List Bool):=(List.range n).foldl (clA n k) M
def zh4 (M:List (List Bool)):List (List Bool):=(List.range M.length).foldl (clK M.length) M
theorem Sq.foldl {n:Nat} {f:List (List Bool)→Nat→List (List Bool)}:∀ (i:Nat) {M:List (List Bool)},(∀ M j,j<i→Sq n M→Sq n (f M j))→Sq n M→Sq n ((List.range i).foldl f M)
 | 0,M,_,h=>by simpa using h
 | i+1,M,hf,h=>by
  rw [ze5]
  exact hf _ i (Nat.lt_succ_self i) (Sq.foldl i (fun M j hj=>hf M j (by omega)) h)
theorem Sq.clB {n:Nat} {M:List (List Bool)} {k a b:Nat} (h:Sq n M) (ha:a<n):Sq n (clB k a M b):=h.set ha
theorem Sq.clA {n:Nat} {M:List (List Bool)} {k a:Nat} (h:Sq n M) (ha:a<n):Sq n (clA n k M a):=Sq.foldl n (fun _ _ _ h=>h.clB ha) h
theorem Sq.clK {n:Nat} {M:List (List Bool)} {k:Nat} (h:Sq n M):Sq n (clK n M k):=Sq.foldl n (fun _ _ hj h=>h.clA hj) h
theorem Sq.close {n:Nat} {M:List (List Bool)} (h:Sq n M):Sq n (zh4 M):=by
 unfold zh4; rw [h.1]; exact Sq.foldl n (fun _ _ _ h=>h.clK) h

section
def relB (a:Int) (bs:List Int) (M:List (List Bool)):List (List Bool):=bs.foldl (fun M b=>z1r M a.toNat b.toNat true) M
def relW (M:List (List Bool)) (la bs:List Int):List (List Bool):=la.foldl (fun M a=>relB a bs M) M
def zbo (g:List (List Int)) (w:Wall):List Int × List Int :=
 (ddp (zei g w.level w.line.toNat w.fr.toNat w.long.toNat).1,ddp (zei g w.level w.line.toNat w.fr.toNat w.long.toNat).2)
def zu4 (g:List (List Int)) (M:List (List Bool) × List (List Bool)) (w:Wall):List (List Bool) × List (List Bool) :=
 if w.level then (M.1,relW M.2 (zbo g w).1 (zbo g w).2) else (relW M.1 (zbo g w).1 (zbo g w).2,M.2)
def z8w (g:List (List Int)) (nh nw n:Nat):List (List Bool) × List (List Bool):=(zhw g nh nw).foldl (zu4 g) (zek n,zek n)
def zur (g:List (List Int)) (nh nw n:Nat):List (List Bool):=zh4 (z8w g nh nw n).1
def zmn (g:List (List Int)) (nh nw n:Nat):List (List Bool):=zh4 (z8w g nh nw n).2
def zwh (g:List (List Int)) (nh nw:Nat) (w:Wall):Prop :=
 ∃ line fr long:Nat,w=⟨w.level,line,fr,long⟩∧1≤long∧∀ j,fr≤j→j<fr+long→InL nh nw w.level line j∧zhz g w.level line j=true
theorem zwe {g:List (List Int)} {nh nw:Nat} {level:Bool} {line places:Nat} (hin:∀ j,j<places→InL nh nw level line j) {ws:List Wall} (hws:∀ w∈ws,zwh g nh nw w):∀ n,n≤places →
  (∀ w∈(zd3 g level line ws n).1,zwh g nh nw w)∧((zd3 g level line ws n).2=true→∃ ws0,∃ fr long:Nat,(zd3 g level line ws n).1=ws0++[⟨level,line,fr,long⟩]∧fr+long=n∧1≤long∧∀ j,fr≤j→j<fr+long→InL nh nw level line j∧zhz g level line j=true)
 | 0,_=>⟨hws,by simp [zd3]⟩
 | n+1,hn=>by
  obtain ⟨ih1,ih2⟩:=zwe hin hws n (by omega)
  rw [zj9]
  generalize zd3 g level line ws n=s at ih1 ih2
  obtain ⟨ws',op⟩:=s
  simp only at ih1 ih2
  cases hd:zhz g level line n with
  | false=>simp only[zhf,Bool.false_and,qF,if_false]; exact ⟨ih1,by simp⟩
  | true =>
   cases op with
   | false =>
    simp only[zhf,Bool.and_false,qF,if_false,if_true]
    have hnew:∀ j,n≤j→j<n+1→InL nh nw level line j∧zhz g level line j=true:=by
     intro j h1 h2
     obtain rfl:j=n:=by omega
     exact ⟨hin _ (by omega),hd⟩
    refine ⟨fun w hw=>?_,fun _=>⟨ws',n,1,rfl,rfl,qR _,hnew⟩⟩
    rcases List.mem_append.1 hw with h | h
    ·exact ih1 w h
    rw [List.mem_singleton]at h; subst h
    exact ⟨line,n,1,rfl,qR _,hnew⟩
   | true =>
    obtain ⟨ws0,fr,long,e,h1,h2,h3⟩:=ih2 rfl
    subst e
    have hnew:∀ j,fr≤j→j<fr+(long+1)→InL nh nw level line j∧zhz g level line j=true:=by
     intro j a b
     by_cases hj:j=n
     ·subst hj; exact ⟨hin _ (by omega),hd⟩
     exact h3 j a (by omega)
    simp only[zhf,Bool.and_self,if_true,List.dropLast_concat,List.getLast?_concat,qO,Option.toList_some]
    refine ⟨fun w hw=>?_,fun _=>⟨ws0,fr,long+1,rfl,by omega,by omega,hnew⟩⟩
    rcases List.mem_append.1 hw with h | h
    ·exact ih1 w (List.mem_append_left _ h)
    rw [List.mem_singleton]at h; subst h
    exact ⟨line,fr,long+1,rfl,by omega,hnew⟩
theorem zml {g:List (List Int)} {nh nw:Nat} {level:Bool} {lines places:Nat} (hin:∀ l j,1≤l→l<lines→j<places→InL nh nw level l j) {ws:List Wall} (hws:∀ w∈ws,zwh g nh nw w):∀ line,line≤lines →
  ∀ w∈zdk g level places ws line,zwh g nh nw w
 | 0,_=>by simpa [zdk] using hws
 | line+1,hl=>by
  have ih:=zml hin hws line (by omega)
  by_cases h:1≤line
  ·rw [zio h]
   exact (zwe (fun j hj=>hin line j h (by omega) hj) ih places (qR _)).1
  have:line=0:=by omega
  subst this
  simpa [zdk] using hws
theorem zfh {g:List (List Int)} {nh nw:Nat}:∀ w∈zhw g nh nw,zwh g nh nw w :=
 zml (lines:=nh) (fun l j h1 h2 h3=>⟨h1,by simp; omega⟩) (zml (lines:=nw) (fun l j h1 h2 h3=>⟨h1,by simp; omega⟩) (by simp) nw (qR _)) nh (qR _)
def zx9 (g:List (List Int)) (nh nw n:Nat):Prop:=∀ i j,i<nh→j<nw→0≤gz g i j∧gz g i j<n
theorem zpy {g:List (List Int)} {nh nw n:Nat} (h:zx9 g nh nw n) {level:Bool} {line j:Nat} (hi:InL nh nw level line j) :
  0≤(zcc g level line j).1∧(zcc g level line j).1<n∧0≤(zcc g level line j).2∧(zcc g level line j).2<n:=by
 obtain ⟨h1,h2⟩:=hi
 cases level with
 | true=>simp only[if_true]at h2; have a:=h (line - 1) j (by omega) h2.2; have b:=h line j h2.1 h2.2; simp only[zcc,if_true]; omega
 | false=>simp only[qF,if_false]at h2; have a:=h j (line - 1) h2.2 (by omega); have b:=h j line h2.2 h2.1; simp only[zcc,qF,if_false]; omega
theorem z2b {l:List Int} {x:Int} (h:x∈ddp l):x∈l:=by
 unfold ddp at h
 have:∀ (l m:List Int),x∈l.foldl ztm m→x∈m∨x∈l:=by
  intro l
  induction l with
  | nil=>intro m h; exact .inl h
  | cons a l ih =>
   intro m h
   rcases ih _ h with h | h
   ·rcases z7h h with h | h
    ·exact .inl h
    exact .inr (by simp [h])
   exact .inr (by simp [h])
 rcases this l [] h with h | h
 ·simp at h
 exact h
theorem zhq {g:List (List Int)} {nh nw n:Nat} (h:zx9 g nh nw n) {w:Wall} (hw:zwh g nh nw w):(∀ x∈(zbo g w).1,0≤x∧x<n)∧(∀ x∈(zbo g w).2,0≤x∧x<n):=by
 obtain ⟨line,fr,long,e,h1,h2⟩:=hw
 have e1:w.line.toNat=line:=by rw [e]; simp
 have e2:w.fr.toNat=fr:=by rw [e]; simp
 have e3:w.long.toNat=long:=by rw [e]; simp
 simp only[zbo,e1,e2,e3]
 refine ⟨fun x hx=>?_,fun x hx=>?_⟩
 ·have:=z2b hx
  simp only[zei,List.mem_map,List.mem_range]at this
  obtain ⟨j,hj,rfl⟩:=this
  have:=zpy h (h2 (fr+j) (by omega) (by omega)).1
  omega
 have:=z2b hx
 simp only[zei,List.mem_map,List.mem_range]at this
 obtain ⟨j,hj,rfl⟩:=this
 have:=zpy h (h2 (fr+j) (by omega) (by omega)).1
 omega
theorem Sq.relB {n:Nat} {a:Int} (ha:a.toNat<n):∀ {bs:List Int} {M:List (List Bool)},Sq n M→Sq n (relB a bs M)
 | [],M,h=>h
 | b::bs,M,h=>by
  show Sq n (Fw.relB a bs (z1r M a.toNat b.toNat true))
  exact Sq.relB ha (h.set ha)
theorem Sq.relW {n:Nat} {bs:List Int}:∀ {la:List Int} {M:List (List Bool)},(∀ a∈la,a.toNat<n)→Sq n M→Sq n (relW M la bs)
 | [],M,_,h=>h
 | a::la,M,ha,h=>by
  show Sq n (Fw.relW (Fw.relB a bs M) la bs)
  exact Sq.relW (fun x hx=>ha x (by simp [hx])) (h.relB (ha a (by simp)))
structure Lay (n:Nat) where
 f:Ob→Ob→List Ob→List (List Bool)→List (List Bool)→List Ob
 pL:Nat
 vL:Nat
 pA:Nat
 vA:Nat
 p3:Nat
 v3:Nat
 appR:∀ {o2:Ob} {o3:Ob} {R:List Ob} {L:List (List Bool)} {A:List (List Bool)},f o2 o3 R L A=f o2 o3 [] L A++R
 len0:∀ {o2:Ob} {o3:Ob} {L:List (List Bool)} {A:List (List Bool)},L.length=n→A.length=n→(f o2 o3 [] L A).length=2*n+4
 get0:∀ {o2:Ob} {o3:Ob} {R:List Ob} {L:List (List Bool)} {A:List (List Bool)},(f o2 o3 R L A)[0]?=some o2
 set0:∀ {o2:Ob} {o3:Ob} {R:List Ob} {L:List (List Bool)} {A:List (List Bool)} {o:Ob},(f o2 o3 R L A).set 0 o=f o o3 R L A
 get3:∀ {o2:Ob} {o3:Ob} {R:List Ob} {L:List (List Bool)} {A:List (List Bool)},L.length=n→A.length=n→(f o2 o3 R L A)[p3]?=some o3
 getL:∀ {o2:Ob} {o3:Ob} {R:List Ob} {L:List (List Bool)} {A:List (List Bool)},L.length=n→(f o2 o3 R L A)[pL]?=some (.arr vL 119 1 ((List.range n).map fun i => .loc (pL+1+i) vL 0 n))
 getLr:∀ {o2:Ob} {o3:Ob} {R:List Ob} {L:List (List Bool)} {A:List (List Bool)} {a:Nat} {row:List Bool},L[a]?=some row→(f o2 o3 R L A)[pL+1+a]?=some (.arr vL 4 1 (row.map .bool))
 setL:∀ {o2:Ob} {o3:Ob} {R:List Ob} {L:List (List Bool)} {A:List (List Bool)} {a:Nat} {row:List Bool},L.length=n→a<n→(f o2 o3 R L A).set (pL+1+a) (.arr vL 4 1 (row.map .bool))=f o2 o3 R (L.set a row) A
 getA:∀ {o2:Ob} {o3:Ob} {R:List Ob} {L:List (List Bool)} {A:List (List Bool)},L.length=n→A.length=n→(f o2 o3 R L A)[pA]?=some (.arr vA 119 1 ((List.range n).map fun i => .loc (pA+1+i) vA 0 n))
 getAr:∀ {o2:Ob} {o3:Ob} {R:List Ob} {L:List (List Bool)} {A:List (List Bool)} {a:Nat} {row:List Bool},L.length=n→A[a]?=some row→(f o2 o3 R L A)[pA+1+a]?=some (.arr vA 4 1 (row.map .bool))
 setA:∀ {o2:Ob} {o3:Ob} {R:List Ob} {L:List (List Bool)} {A:List (List Bool)} {a:Nat} {row:List Bool},L.length=n→A.length=n→a<n→(f o2 o3 R L A).set (pA+1+a) (.arr vA 4 1 (row.map .bool))=f o2 o3 R L (A.set a row)
 splL:∀ {o2:Ob} {o3:Ob} {R:List Ob} {L:List (List Bool)} {A:List (List Bool)},∃ F R',pL=F.length∧∀ L':List (List Bool),L'.length=L.length→f o2 o3 R L' A=F++(z8z F.length vL L'++R')
 splA:∀ {o2:Ob} {o3:Ob} {R:List Ob} {L:List (List Bool)} {A:List (List Bool)},L.length=n→∃ F R',pA=F.length∧∀ A':List (List Bool),A'.length=A.length→f o2 o3 R L A'=F++(z8z F.length vA A'++R')
section
variable {n:Nat} (Y:Lay n) {o2 o3:Ob} {R:List Ob} {a t:Nat} {L A:List (List Bool)} {w w':Ob}
theorem Lay.app:Y.f o2 o3 R L A++[w]=Y.f o2 o3 (R++[w]) L A:=by rw [Y.appR,Y.appR (R:=R++[w])]; simp
theorem Lay.len (hl:L.length=n) (h:A.length=n):(Y.f o2 o3 R L A).length=2*n+4+R.length:=by rw [Y.appR,List.length_append,Y.len0 hl h]
theorem Lay.take (hl:L.length=n) (h:A.length=n):Store.take ⟨Y.f o2 o3 R L A,t⟩ (2*n+4)=⟨Y.f o2 o3 [] L A,t⟩:=by
 simp only[Store.take]
 rw [Y.appR,List.take_append_of_le_length (by rw [Y.len0 hl h]; exact qR _),qT (by rw [Y.len0 hl h]; exact qR _)]
end
end

def hvF (M:List (List Bool)) (g:Nat→Int) (b i:Nat):Int:=(List.range i).foldl (fun m a=>if zc7 M a b then max m (g a) else m) 0
def hv (M:List (List Bool)) (ws:List Int) (n:Nat):Nat→Nat→Int
 | 0,_=>0
 | f+1,b=>hvF M (hv M ws n f) b n+zhg ws b
structure Up (M:List (List Bool)) (n:Nat) (rk:Nat→Nat):Prop where
 sq:Sq n M
 up:∀ a b,a<n→b<n→zc7 M a b=true→rk a<rk b
 le:∀ b,rk b≤100
def HB (M:List (List Bool)) (ws:List Int) (n b:Nat):Int:=hv M ws n 101 b
def Memo (M:List (List Bool)) (ws:List Int) (n:Nat) (out:List Int):Prop:=out.length=n∧∀ (b:Nat) x,out[b]?=some x→x=0∨x=HB M ws n b
def Keep (out out':List Int):Prop:=∀ (b:Nat) x,out[b]?=some x→x≠0→out'[b]?=some x
theorem Keep.refl (out:List Int):Keep out out:=fun _ _ h _=>h
theorem Keep.trans {a b c:List Int} (h:Keep a b) (k:Keep b c):Keep a c:=fun i x h1 h2=>k i x (h i x h1 h2) h2
theorem Memo.at_ {M:List (List Bool)} {ws out:List Int} {n:Nat} (h:Memo M ws n out) {b:Nat} (hb:b<n):∃ x,out[b]?=some x∧(x=0∨x=HB M ws n b):=by
 obtain ⟨x,hx,-⟩:=zaf (show b<out.length by rw [h.1]; exact hb)
 exact ⟨x,hx,h.2 b x hx⟩
theorem Memo.set {M:List (List Bool)} {ws out:List Int} {n:Nat} (h:Memo M ws n out) {b:Nat}:Memo M ws n (out.set b (HB M ws n b)):=by
 refine ⟨by simpa using h.1,fun c x hx=>?_⟩
 rw [List.getElem?_set]at hx
 split at hx
 ·rename_i e; subst e
  split at hx
  ·cases hx; exact .inr rfl
  cases hx
 exact h.2 c x hx
theorem Memo.keep {M:List (List Bool)} {ws out:List Int} {n:Nat} (h:Memo M ws n out) {b:Nat}:Keep out (out.set b (HB M ws n b)):=by
 intro c x hx h0
 rw [List.getElem?_set]
 split
 ·rename_i e; subst e
  have:=(h.2 b x hx).resolve_left h0
  rw [if_pos (zci hx),this]
 exact hx
def heaviest (M:List (List Bool)) (ws:List Int) (n:Nat):List Int:=(List.range n).map (HB M ws n)
theorem z6k {f:FuncId} {cs:List PV}:(PV.fn f cs).cells=[.fn f cs]:=rfl
theorem ycw {f:FuncId} {cs:List PV}:(PV.fn f cs).isCell=true:=rfl
def Ord (c:List Int) (i:Nat):Prop:=∀ p q x y,p<q→q<i→c[p]?=some x→c[q]?=some y→x≤y
def z59 (c:List Int) (j i:Nat):Prop:=∀ p q x y,p<q→q≤i→q≠j→c[p]?=some x→c[q]?=some y→x≤y
theorem Ord.one (c:List Int):Ord c 1:=by intro p q x y h1 h2; omega
theorem Ord.ins {c:List Int} {i:Nat} (h:Ord c i):z59 c i i:=by
 intro p q x y h1 h2 h3 hx hy
 exact h p q x y h1 (by omega) hx hy
theorem z59.zero {c:List Int} {i:Nat} (h:z59 c 0 i):Ord c (i+1):=by
 intro p q x y h1 h2 hx hy
 exact h p q x y h1 (by omega) (by omega) hx hy
theorem z59.stop {c:List Int} {i j:Nat} {a b:Int} (h:z59 c j i) (ha:c[j]?=some a) (hb:c[j - 1]?=some b) (hle:¬ a<b):Ord c (i+1):=by
 intro p q x y h1 h2 hx hy
 by_cases e:q=j
 ·subst e
  rw [ha]at hy; cases hy
  by_cases e2:p=q - 1
  ·subst e2; rw [hb]at hx; cases hx; omega
  have:=h p (q - 1) x b (by omega) (by omega) (by omega) hx hb; omega
 exact h p q x y h1 (by omega) e hx hy
theorem z59.swap {c:List Int} {i j:Nat} {a b:Int} (h:z59 c j i) (hj:j≠0) (hji:j≤i) (ha:c[j]?=some a) (hb:c[j - 1]?=some b) (hlt:a<b):z59 ((c.set j b).set (j - 1) a) (j - 1) i:=by
 have hl:=zci ha
 have g:∀ k,((c.set j b).set (j - 1) a)[k]?=if k=j - 1 then some a else if k=j then some b else c[k]?:=by
  intro k
  rw [List.getElem?_set]
  by_cases e:j - 1=k
  ·rw [if_pos e,if_pos e.symm,if_pos (by simp; omega)]
  rw [if_neg e,if_neg (Ne.symm e),List.getElem?_set]
  by_cases e2:j=k
  ·rw [if_pos e2,if_pos e2.symm,if_pos (by omega)]
  rw [if_neg e2,if_neg (Ne.symm e2)]
 intro p q x y h1 h2 h3 hx hy
 rw [g]at hx hy
 rw [if_neg h3]at hy
 by_cases e:q=j
 ·rw [if_pos e]at hy; cases hy
  by_cases e2:p=j - 1
  ·rw [if_pos e2]at hx; cases hx; omega
  rw [if_neg e2,if_neg (by omega)]at hx
  exact h p (j - 1) x b (by omega) (by omega) (by omega) hx hb
 rw [if_neg e]at hy
 by_cases e2:p=j - 1
 ·rw [if_pos e2]at hx; cases hx
  exact h j q a y (by omega) h2 e ha hy
 rw [if_neg e2]at hx
 by_cases e3:p=j
 ·rw [if_pos e3]at hx; cases hx
  exact h (j - 1) q b y (by omega) h2 e hb hy
 rw [if_neg e3]at hx
 exact h p q x y h1 h2 e hx hy
theorem z5o {c l:List Int} {j:Nat} {a b:Int} (h:c.Perm l) (ha:c[j]?=some a) (hb:c[j - 1]?=some b):((c.set j b).set (j - 1) a).Perm l:=by
 obtain ⟨h1,e1⟩:=List.getElem?_eq_some_iff.mp ha
 obtain ⟨h2,e2⟩:=List.getElem?_eq_some_iff.mp hb
 have := @List.set_set_perm _ c _ _ h1 h2
 rw [e1,e2]at this
 exact this.trans h
theorem Ord.pair {c:List Int} (h:Ord c c.length):c.Pairwise (· ≤ ·):=by
 rw [List.pairwise_iff_getElem]
 intro i j hi hj hij
 exact h i j _ _ hij hj (List.getElem?_eq_getElem hi) (List.getElem?_eq_getElem hj)
theorem zsc {x:Int}:PC Tryz.prog 138 [.int .i64 x] (.bool false) true:=by
 refine PC.of ⟨Tryz.func138,by kernel_rfl,rfl,by kernel_rfl⟩ za4 mixed (by show 1≤Tryz.f138.ntmps; decide) ?_
 refine W.r fun K hK=>?_
 simp(disch:=omega)only[↓RU,RV,RH,↓reduceIte,qE,reduceCtorEq,if_pos]
 apply hK;clear hK K
 refine W.r fun K hK=>?_
 simp(disch:=omega)only[↓RU,RV,RH,↓reduceIte,qE,reduceCtorEq,if_pos,w64,zaa]
 apply hK;clear hK K
 refine W.ret ?_
 refine Br rfl ?_
 rw [show (x != x)=false by simp]
 rfl
theorem z98 {x y:Int}:PC Tryz.prog 197 [.int .i64 x,.int .i64 y] (.bool (decide (x<y))) true:=by
 refine PC.of ⟨Tryz.func197,by kernel_rfl,rfl,by kernel_rfl⟩ za4 mixed (by show 2≤Tryz.f197.ntmps; decide) ?_
 refine W.r fun K hK=>?_
 simp(disch:=omega)only[↓RU,RV,RH,↓reduceIte,qE,reduceCtorEq,if_pos]
 apply hK;clear hK K
 refine W.r fun K hK=>?_
 simp(disch:=omega)only[↓RU,RV,RH,↓reduceIte,qE,reduceCtorEq,if_pos,qN,w64,zaa]
 refine zag.pc (zsc) rfl (.inl rfl) ?_
 simp(disch:=omega)only[↓RU,RV,RH,↓reduceIte,qE,reduceCtorEq,if_pos,qN,w64,zaa]
 apply hK;clear hK K
 refine W.ret ?_
 refine Br rfl ?_
 rfl
theorem z26 {F R:List Ob} {ver t:Nat} {l:List Int} (hl:l.length<2147483648) (h1:1≤l.length):Ev Tryz.prog 191 [.loc F.length ver 0 l.length,.int .i64 0,.int .i64 l.length] ⟨F ++ .arr ver 3 1 (l.map (.int .i64))::R,t⟩ fun v S=>v = .tup []∧∃ z:List Int,z.Perm l∧z.Pairwise (· ≤ ·)∧S=⟨F ++ .arr ver 3 1 (z.map (.int .i64))::R,t⟩:=by
 refine Ev.of ⟨Tryz.func191,by kernel_rfl,rfl,by kernel_rfl⟩ za4 mixed (by show 3≤Tryz.f191.ntmps; decide) ?_
 refine W.r fun K hK=>?_
 simp(disch:=omega)only[↓RU,RV,RH,↓reduceIte,qE,reduceCtorEq,if_pos,w64,↓RS,RG,qA,qM,qL,zaa,gF,zeh]
 apply hK;clear hK K
 refine W.block ?_
 refine W.loop [0,1,2,6] (fun n vs S=>∃ (i:Nat) (c:List Int),n=l.length - i∧1≤i∧i≤l.length∧c.Perm l∧Ord c i∧vs=[.loc F.length ver 0 l.length,.int .i64 0,.int .i64 l.length,.int .i64 i]∧S=⟨F ++ .arr ver 3 1 (c.map (.int .i64))::R,t⟩) (l.length - 1) ?_ ?_
 ·refine ⟨_,1,l,rfl,qR _,h1,List.Perm.refl _,Ord.one l,?_,zbj⟩
  simp [Env.put,Env.of,zad]
 rintro n vs S - ⟨i,c,rfl,hi1,h_i,hp,ho,rfl,rfl⟩
 refine W.seq ?_
 refine W.r fun K hK=>?_
 simp(disch:=omega)only[↓RU,RV,RH,↓reduceIte,qE,reduceCtorEq,if_pos,w64,↓RS,RG,qA,qM,qL,zaa,gF,zeh]
 apply hK;clear hK K
 refine W.cond rfl (fun h=>?_) (fun h=>?_)
 ·try simp only[RL]at h
  refine W.skip ?_
  refine xn ?_
  refine W.seq ?_
  refine W.block ?_
  refine W.r fun K hK=>?_
  simp(disch:=omega)only[↓RU,RV,RH,↓reduceIte,qE,reduceCtorEq,if_pos,↓RS,RG,qA,qM,qL,gF,zeh]
  apply hK;clear hK K
  refine W.block ?_
  refine W.loop [0,1,2,6,7] (fun n vs S=>∃ (j:Nat) (d:List Int),n=j+1∧j≤i∧d.Perm l∧z59 d j i∧vs=[.loc F.length ver 0 l.length,.int .i64 0,.int .i64 l.length,.int .i64 i,.int .i64 j]∧S=⟨F ++ .arr ver 3 1 (d.map (.int .i64))::R,t⟩) (i+1) ?_ ?_
  ·refine ⟨_,i,c,rfl,qR _,hp,ho.ins,?_,zbj⟩
   simp [Env.put,Env.of]
  rintro n vs S - ⟨j,d,rfl,h_j,hq,hO,rfl,rfl⟩
  refine W.seq ?_
  refine W.seq_draw (by kernel_rfl) fun K hK=>?_
  cases hd:decide ((j:Int)>0)
  ·skip
   obtain rfl:j=0:=by simpa using hd
   simp(disch:=omega)only[↓RU,RV,RH,↓reduceIte,qE,reduceCtorEq,if_pos,w64,qN,↓RS,RG,qA,qM,qL,zab,zaa,gF,zeh,hd]
   apply hK;clear hK K
   refine W.cond rfl (fun h2=>?_) (fun h2=>?_)
   ·try simp only[RL]at h2
    exact absurd h2 (by simp)
   try simp only[RL]at h2
   have hO2:Ord d (i+1):=hO.zero
   refine W.exit ?_
   refine xe ?_
   refine xe ?_
   refine XBlock.hit ?_
   refine XbN ?_
   refine xn ?_
   refine W.k fun K hK=>?_
   simp(disch:=omega)only[↓RU,RV,RH,↓reduceIte,qE,reduceCtorEq,if_pos,w64,↓RS,RG,qA,qM,qL,zaa,gF,zeh]
   apply hK;clear hK K
   refine xn ?_
   refine ⟨l.length - (i+1),by omega,_,i+1,d,rfl,by omega,by omega,hq,hO2,?_,zbj⟩
   simp [Env.put,Env.of]
  ·skip
   have hj0:j≠0:=by have:=of_decide_eq_true hd; omega
   have hdl:=hq.length_eq
   obtain ⟨x,hx,-⟩:=zaf (show j<d.length by omega)
   obtain ⟨y,hy,-⟩:=zaf (show j - 1<d.length by omega)
   simp(disch:=omega)only[↓RU,RV,RH,↓reduceIte,qE,reduceCtorEq,if_pos,w64,qN,↓RS,RG,qA,qM,qL,zab,zaa,gF,zeh,hd,hx,hy,zcq]
   refine zag.pc (z98 (x:=x) (y:=y)) rfl (.inl rfl) ?_
   simp(disch:=omega)only[↓RU,RV,RH,↓reduceIte,qE,reduceCtorEq,if_pos,w64,qN,↓RS,RG,qA,qM,qL,zab,zaa,gF,zeh,hd,hx,hy,zcq]
   apply hK;clear hK K
   refine W.cond rfl (fun h2=>?_) (fun h2=>?_)
   ·try simp only[RL]at h2
    have hjl:=zci hx
    have hsl:(d.set j y).length=d.length:=by simp
    refine W.skip ?_
    refine xn ?_
    refine W.seq ?_
    refine W.block ?_
    refine W.draw_k (by kernel_rfl) fun K hK=>?_
    simp(disch:=omega)only[↓RU,RV,RH,↓reduceIte,qE,reduceCtorEq,if_pos,w64,↓RS,RG,qA,qM,qL,zab,zaa,gF,zeh,hx,hy,zcq,zdc,zea,List.length_set]
    apply hK;clear hK K
    refine XbN ?_
    refine xn ?_
    refine W.k fun K hK=>?_
    simp(disch:=omega)only[↓RU,RV,RH,↓reduceIte,qE,reduceCtorEq,if_pos,w64,↓RS,RG,qA,qM,qL,zaa,gF,zeh]
    apply hK;clear hK K
    refine xn ?_
    refine ⟨j - 1+1,by omega,_,j - 1,(d.set j y).set (j - 1) x,rfl,by omega,z5o hq hx hy,hO.swap hj0 h_j hx hy h2,?_,zbj⟩
    simp [Env.put,Env.of]; omega
   try simp only[RL]at h2
   have hO2:Ord d (i+1):=hO.stop hx hy h2
   refine W.exit ?_
   refine xe ?_
   refine xe ?_
   refine XBlock.hit ?_
   refine XbN ?_
   refine xn ?_
   refine W.k fun K hK=>?_
   simp(disch:=omega)only[↓RU,RV,RH,↓reduceIte,qE,reduceCtorEq,if_pos,w64,↓RS,RG,qA,qM,qL,zaa,gF,zeh]
   apply hK;clear hK K
   refine xn ?_
   refine ⟨l.length - (i+1),by omega,_,i+1,d,rfl,by omega,by omega,hq,hO2,?_,zbj⟩
   simp [Env.put,Env.of]
 try simp only[RL]at h
 obtain rfl:l.length=i:=by omega
 refine W.exit ?_
 refine xe ?_
 refine xe ?_
 refine XBlock.hit ?_
 refine zhi.norm rfl ?_
 exact ⟨_,rfl,c,hp,by rw [← hp.length_eq]at ho; exact ho.pair,zbj⟩
theorem z6w  : PC Tryz.prog 163 [.int .u64 4] (.int .i64 3) true:=by
 refine PC.of ⟨Tryz.func163,by kernel_rfl,rfl,by kernel_rfl⟩ za4 mixed (by show 1≤Tryz.f163.ntmps; decide) ?_
 refine W.r fun K hK=>?_
 simp(disch:=omega)only[↓RU,RV,RH,↓reduceIte,qE,reduceCtorEq,if_pos]
 apply hK;clear hK K
 refine W.seq ?_
 refine W.r fun K hK=>?_
 simp(disch:=omega)only[↓RU,RV,RH,↓reduceIte,qE,reduceCtorEq,if_pos,w64,z9c]
 apply hK;clear hK K
 refine W.cond rfl (fun h=>?_) (fun h=>?_)
 ·try simp only[RL]at h
  exact absurd h (by decide)
 try simp only[RL]at h
 refine W.skip ?_
 refine xn ?_
 refine W.seq ?_
 refine W.r fun K hK=>?_
 simp(disch:=omega)only[↓RU,RV,RH,↓reduceIte,qE,reduceCtorEq,if_pos,w64,z9c]
 apply hK;clear hK K
 refine W.cond rfl (fun h1=>?_) (fun h1=>?_)
 ·try simp only[RL]at h1
  exact absurd h1 (by decide)
 try simp only[RL]at h1
 refine W.skip ?_
 refine xn ?_
 refine W.seq ?_
 refine W.r fun K hK=>?_
 simp(disch:=omega)only[↓RU,RV,RH,↓reduceIte,qE,reduceCtorEq,if_pos,w64,z9c]
 apply hK;clear hK K
 refine W.cond rfl (fun h2=>?_) (fun h2=>?_)
 ·try simp only[RL]at h2
  exact absurd h2 (by decide)
 try simp only[RL]at h2
 refine W.skip ?_
 refine xn ?_
 refine W.r fun K hK=>?_
 simp(disch:=omega)only[↓RU,RV,RH,↓reduceIte,qE,reduceCtorEq,if_pos,w64,w64,zaa,zah,z9c,zhh]
 apply hK;clear hK K
 refine W.ret ?_
 refine Br rfl ?_
 rfl
theorem yb2  : PC Tryz.prog 137 [.int .u64 4] (.int .i64 3) true:=by
 refine PC.of ⟨Tryz.func137,by kernel_rfl,rfl,by kernel_rfl⟩ za4 mixed (by show 1≤Tryz.f137.ntmps; decide) ?_
 refine W.r fun K hK=>?_
 simp(disch:=omega)only[↓RU,RV,RH,↓reduceIte,qE,reduceCtorEq,if_pos]
 apply hK;clear hK K
 refine W.seq ?_
 refine W.cond rfl (fun h=>?_) (fun h=>?_)
 ·try simp only[RL]at h
  exact absurd h (by decide)
 try simp only[RL]at h
 refine W.skip ?_
 refine xn ?_
 refine W.r fun K hK=>?_
 simp(disch:=omega)only[↓RU,RV,RH,↓reduceIte,qE,reduceCtorEq,if_pos,qN]
 refine zag.pc (z6w) rfl (.inl rfl) ?_
 simp(disch:=omega)only[↓RU,RV,RH,↓reduceIte,qE,reduceCtorEq,if_pos,qN]
 apply hK;clear hK K
 refine W.ret ?_
 refine Br rfl ?_
 rfl
theorem yb9 {F R:List Ob} {ver t:Nat} {l:List Int} (hl:l.length≤12) (h1:1≤l.length) (lim:Int):Ev Tryz.prog 177 [.loc F.length ver 0 l.length,.int .i64 0,.int .i64 l.length,.int .i64 lim] ⟨F ++ .arr ver 3 1 (l.map (.int .i64))::R,t⟩ fun v S=>v = .tup []∧∃ z:List Int,z.Perm l∧z.Pairwise (· ≤ ·)∧S=⟨F ++ .arr ver 3 1 (z.map (.int .i64))::R,t⟩:=by
 refine Ev.of ⟨Tryz.func177,by kernel_rfl,rfl,by kernel_rfl⟩ za4 mixed (by show 4≤Tryz.f177.ntmps; decide) ?_
 refine W.r fun K hK=>?_
 simp(disch:=omega)only[↓RU,RV,RH,↓reduceIte,qE,reduceCtorEq,if_pos,↓RS,RG,qA,qM,qL,gF,zeh]
 apply hK;clear hK K
 refine W.r fun K hK=>?_
 simp(disch:=omega)only[↓RU,RV,RH,↓reduceIte,qE,reduceCtorEq,if_pos,↓RS,RG,qA,qM,qL,gF,zeh]
 apply hK;clear hK K
 refine W.block ?_
 refine W.loop [0,1,2] (fun n vs S=>vs=[.loc F.length ver 0 l.length,.int .i64 0,.int .i64 l.length]∧S=⟨F ++ .arr ver 3 1 (l.map (.int .i64))::R,t⟩) 0 ?_ ?_
 ·refine ⟨_,?_,zbj⟩
  simp [Env.put,Env.of,zad]
 rintro n vs S - ⟨rfl,rfl⟩
 refine W.block ?_
 refine W.r fun K hK=>?_
 simp(disch:=omega)only[↓RU,RV,RH,↓reduceIte,qE,reduceCtorEq,if_pos,w64,↓RS,RG,qA,qM,qL,zaa,gF,zeh]
 apply hK;clear hK K
 refine W.seq ?_
 refine W.r fun K hK=>?_
 simp(disch:=omega)only[↓RU,RV,RH,↓reduceIte,qE,reduceCtorEq,if_pos,w64,↓RS,RG,qA,qM,qL,zaa,gF,zeh]
 apply hK;clear hK K
 refine W.cond rfl (fun h=>?_) (fun h=>?_)
 ·try simp only[RL]at h
  refine W.r fun K hK=>?_
  simp(disch:=omega)only[↓RU,RV,RH,↓reduceIte,qE,reduceCtorEq,if_pos,qN,↓RS,RG,qA,qM,qL,gF,zeh]
  refine zag.ev (z26 (by omega) h1) ?_
  rintro _ _ ⟨rfl,z,hz1,hz2,rfl⟩
  simp(disch:=omega)only[↓RU,RV,RH,↓reduceIte,qE,reduceCtorEq,if_pos,qN,↓RS,RG,qA,qM,qL,gF,zeh]
  apply hK;clear hK K
  refine W.ret ?_
  refine XThen.ret ?_
  refine XBlock.ret ?_
  refine XThen.ret ?_
  refine XBlock.ret ?_
  refine Br rfl ?_
  exact ⟨_,rfl,z,hz1,hz2,zbj⟩
 try simp only[RL]at h
 exact absurd (show (l.length:Int)≤12 by omega) h
theorem yaz {F R:List Ob} {ver t:Nat} {l:List Int} (hl:l.length=4):Ev Tryz.prog 164 [.loc F.length ver 0 l.length] ⟨F ++ .arr ver 3 1 (l.map (.int .i64))::R,t⟩ fun v S=>v = .tup []∧∃ z:List Int,z.Perm l∧z.Pairwise (· ≤ ·)∧S=⟨F ++ .arr ver 3 1 (z.map (.int .i64))::R,t⟩:=by
 have hw4:IntKind.u64.wrap ((l.length:Nat):Int)=4:=by rw [hl]; rfl
 refine Ev.of ⟨Tryz.func164,by kernel_rfl,rfl,by kernel_rfl⟩ za4 mixed (by show 1≤Tryz.f164.ntmps; decide) ?_
 refine W.r fun K hK=>?_
 simp(disch:=omega)only[↓RU,RV,RH,↓reduceIte,qE,reduceCtorEq,if_pos,↓RS,RG,qA,qM,qL,zab,zaa,gF,zeh]
 apply hK;clear hK K
 refine W.k fun K hK=>?_
 simp(disch:=omega)only[↓RU,RV,RH,↓reduceIte,qE,reduceCtorEq,if_pos,w64,qN,↓RS,RG,qA,qM,qL,zaa,zrs,gF,zeh,hw4]
 refine zag.pc (yb2) rfl (.inl rfl) ?_
 simp(disch:=omega)only[↓RU,RV,RH,↓reduceIte,qE,reduceCtorEq,if_pos,w64,qN,↓RS,RG,qA,qM,qL,zaa,zrs,gF,zeh,hw4]
 refine zag.ev (yb9 (by omega) (by omega) 3) ?_
 rintro _ _ ⟨rfl,z,hz1,hz2,rfl⟩
 simp(disch:=omega)only[↓RU,RV,RH,↓reduceIte,qE,reduceCtorEq,if_pos,w64,qN,↓RS,RG,qA,qM,qL,zaa,zrs,gF,zeh,hw4]
 apply hK;clear hK K
 refine zhi.norm rfl ?_
 exact ⟨_,rfl,z,hz1,hz2,zbj⟩
def dn:List Int→Nat
 | []=>0
 | a::l=>(if a∈l then 0 else 1)+dn l
theorem z9w:∀ {m l:List Int},l.Nodup→(∀ x,x∈l↔x∈m)→l.length=dn m
 | [],l,_,h=>by
  cases l with
  | nil=>rfl
  | cons a l=>exact absurd ((h a).1 (by simp)) (by simp)
 | a::m,l,hn,h=>by
  unfold dn
  by_cases ha:a∈m
  ·rw [if_pos ha,z9w (m:=m) hn fun x=>?_]; · omega
   rw [h x,List.mem_cons]
   constructor
   ·rintro (rfl | h)
    ·exact ha
    exact h
   exact .inr
  have hal:a∈l:=(h a).2 (by simp)
  have hl:=List.length_erase_of_mem hal
  have h0:=List.length_pos_of_mem hal
  rw [if_neg ha,← z9w (m:=m) (l:=l.erase a) (hn.erase a) fun x=>?_]
  ·omega
  rw [hn.mem_erase_iff,h x,List.mem_cons]
  constructor
  ·rintro ⟨h1,h2 | h2⟩
   ·exact absurd h2 h1
   exact h2
  intro hx
  exact ⟨fun e=>ha (e ▸ hx),.inr hx⟩
theorem zy7 {l:List Int} {x y:Int}:y∈ztm l x↔y∈l∨y=x:=by
 unfold ztm
 split
 ·rename_i h
  constructor
  ·exact .inl
  rintro (h' | rfl)
  ·exact h'
  exact List.mem_of_getLast? h
 simp
theorem zql {z:List Int} (hz:z.Pairwise (· ≤ ·)):∀ p,p≤z.length→(ddp (z.take p)).Pairwise (· < ·)∧∀ x,x∈ddp (z.take p)↔x∈z.take p
 | 0,_=>by simp [ddp]
 | p+1,hp=>by
  obtain ⟨x,hx,-⟩:=zaf (show p<z.length by omega)
  obtain ⟨h1,h2⟩:=zql hz p (by omega)
  have hle:∀ a∈z.take p,a≤x:=by
   intro a ha
   obtain ⟨j,hj,rfl⟩:=List.mem_take_iff_getElem.1 ha
   obtain ⟨hp',rfl⟩:=List.getElem?_eq_some_iff.1 hx
   exact (List.pairwise_iff_getElem.1 hz) j p (by omega) hp' (by omega)
  rw [znp hx]
  constructor
  ·unfold ztm
   split
   ·exact h1
   rename_i hl
   rw [List.pairwise_append]
   refine ⟨h1,by simp,?_⟩
   intro a ha b hb
   rw [List.mem_singleton]at hb
   subst hb
   have ha':=(h2 a).1 ha
   by_cases hp0:p=0
   ·subst hp0; simp at ha'
   obtain ⟨y,hy,-⟩:=zaf (show p - 1<z.length by omega)
   have hlast:=zr6 hy
   rw [show p - 1+1=p by omega]at hlast
   have hyb:y≠b:=fun e=>hl (e ▸ hlast)
   have hyl:y≤b:=hle y ((h2 y).1 (List.mem_of_getLast? hlast))
   have:a≤y:=by
    obtain ⟨j,hj,rfl⟩:=List.mem_take_iff_getElem.1 ha'
    obtain ⟨hp',rfl⟩:=List.getElem?_eq_some_iff.1 hy
    by_cases e:j=p - 1
    ·subst e; exact Int.le_refl _
    exact (List.pairwise_iff_getElem.1 hz) j (p - 1) (by omega) hp' (by omega)
   omega
  intro y
  rw [zy7,h2 y,tk hx]
  simp
theorem ybt {l z:List Int} (hp:z.Perm l) (hz:z.Pairwise (· ≤ ·)):(ddp z).length=dn l:=by
 have h:=zql hz z.length (qR _)
 rw [List.take_length]at h
 refine z9w (h.1.imp fun h=>Int.ne_of_lt h) fun x=>?_
 rw [h.2 x]
 exact hp.mem_iff
def four (g:List (List Int)) (i k:Nat):List Int:=[gz g (i - 1) (k - 1),gz g (i - 1) k,gz g i (k - 1),gz g i k]
def zdj (g:List (List Int)) (many:Int) (i:Nat):Nat→Int
 | 0=>0
 | k+1=>zdj g many i k+if 1≤k∧((dn (four g i k):Nat):Int)=many then 1 else 0
def zvl (g:List (List Int)) (many:Int) (w:Nat):Nat→Int
 | 0=>0
 | i+1=>zvl g many w i+if 1≤i then zdj g many i w else 0
theorem zhn (g:List (List Int)) (many:Int) (i:Nat):∀ k,0≤zdj g many i k∧zdj g many i k≤k
 | 0=>by simp [zdj]
 | k+1=>by have:=zhn g many i k; unfold zdj; split <;> omega
theorem zrh (g:List (List Int)) (many:Int) {w:Nat} (hw:w≤6):∀ i,0≤zvl g many w i∧zvl g many w i≤6*i
 | 0=>by simp [zvl]
 | i+1=>by have:=zrh g many hw i; have:=zhn g many i w; unfold zvl; split <;> omega
theorem z7g {g:List (List Int)} {many:Int} {w:Nat}:zvl g many w 1=0:=by simp [zvl]
theorem zxl {g:List (List Int)} {many:Int} {i:Nat}:zdj g many i 1=0:=by simp [zdj]
theorem z4h {g:List (List Int)} {many:Int} {w i:Nat} (h:1≤i):zvl g many w (i+1)=zvl g many w i+zdj g many i w:=by simp [zvl,h]
theorem zxk {g:List (List Int)} {many:Int} {i k:Nat} (h:1≤k) (e:((dn (four g i k):Nat):Int)=many):zdj g many i (k+1)=zdj g many i k+1:=by simp [zdj,h,e]
theorem zvm {g:List (List Int)} {many:Int} {i k:Nat} (e:¬ ((dn (four g i k):Nat):Int)=many):zdj g many i (k+1)=zdj g many i k:=by simp [zdj,e]
theorem zwv {v t:Nat} {z:List Int} (hz:z.length=4):Ev Tryz.prog 120 [.loc 0 v 0 4] ⟨[.arr v 3 1 (z.map (.int .i64))],t⟩ fun r S=>∃ y:List Int,r = .loc 0 v 0 (ddp z).length∧S=⟨[.arr v 3 1 ((ddp z++y).map (.int .i64))],t⟩:=by
 have h:=z0p (F:=[]) (R:=[]) (ver:=v) (t:=t) (l:=z) (by omega)
 rw [hz]at h
 exact h
theorem z4g {g:List (List Int)} {nh nw:Nat} (hg:GW g nh nw) (rs:List Rect) (many:Int):PC Tryz.prog 139 [zaw g rs,.int .i64 many] (.int .i64 (zvl g many nw nh)) true:=by
 have hl:=hg.1
 obtain ⟨hg1,hg2,hg3,hg4⟩:=hg.2.2
 obtain ⟨row0,hrow0,hrl0,-⟩:=hg.at_ (i:=0) (j:=0) (by omega) (by omega)
 refine PC.of ⟨Tryz.func139,by kernel_rfl,rfl,by kernel_rfl⟩ za4 mixed (by show 2≤Tryz.f139.ntmps; decide) ?_
 refine W.r fun K hK=>?_
 simp(disch:=omega)only[↓RU,RV,RH,↓reduceIte,qE,reduceCtorEq,if_pos,↓RS,RG,qA,qM,qL]
 apply hK;clear hK K
 refine W.r fun K hK=>?_
 simp(disch:=omega)only[↓RU,RV,RH,↓reduceIte,qE,reduceCtorEq,if_pos,↓RS,RG,qA,qM,qL]
 apply hK;clear hK K
 refine W.seq ?_
 refine W.r fun K hK=>?_
 simp(disch:=omega)only[↓RU,RV,RH,↓reduceIte,qE,reduceCtorEq,if_pos,↓RS,RG,qA,qM,qL]
 apply hK;clear hK K
 refine W.block ?_
 refine W.loop [0,1,5,6] (fun n vs S=>∃ i t:Nat,n=nh - i∧i≤nh∧(1≤i)∧vs=[zaw g rs,.int .i64 many,.int .i64 (zvl g many nw i),.int .i64 (i:Nat)]∧S=⟨[],t⟩) (nh - 1) ?_ ?_
 ·refine ⟨0,1,_,rfl,by omega,qR _,?_,rfl⟩
  simp [Env.put,Env.of,zad,z7g]
 rintro n vs S - ⟨i,t,rfl,h_i,h1i,rfl,rfl⟩
 refine W.seq ?_
 refine W.r fun K hK=>?_
 simp(disch:=omega)only[↓RU,RV,RH,↓reduceIte,qE,reduceCtorEq,if_pos,qN,w64,↓RS,RG,qA,qM,qL,zaa,hl]
 refine zag.pc (zsa g rs) rfl (.inl rfl) ?_
 simp(disch:=omega)only[↓RU,RV,RH,↓reduceIte,qE,reduceCtorEq,if_pos,qN,w64,↓RS,RG,qA,qM,qL,zaa,hl]
 apply hK;clear hK K
 refine W.cond rfl (fun h=>?_) (fun h=>?_)
 ·try simp only[RL]at h
  have hpb:=zrh g many hg4 i
  refine W.skip ?_
  refine xn ?_
  refine W.seq ?_
  refine W.block ?_
  refine W.r fun K hK=>?_
  simp(disch:=omega)only[↓RU,RV,RH,↓reduceIte,qE,reduceCtorEq,if_pos,↓RS,RG,qA,qM,qL]
  apply hK;clear hK K
  refine W.block ?_
  refine W.loop [0,1,5,6,7] (fun n vs S=>∃ k t:Nat,n=nw - k∧k≤nw∧(1≤k)∧vs=[zaw g rs,.int .i64 many,.int .i64 (zvl g many nw i+zdj g many i k),.int .i64 (i:Nat),.int .i64 (k:Nat)]∧S=⟨[],t⟩) (nw - 1) ?_ ?_
  ·refine ⟨0,1,_,rfl,by omega,qR _,?_,rfl⟩
   simp [Env.put,Env.of,zxl]
  rintro n vs S - ⟨k,t,rfl,h_k,h1k,rfl,rfl⟩
  refine W.seq ?_
  refine W.r fun K hK=>?_
  simp(disch:=omega)only[↓RU,RV,RH,↓reduceIte,qE,reduceCtorEq,if_pos,qN,w64,↓RS,RG,qA,qM,qL,zaa,hrl0]
  refine zag.pc (zx6 hrow0 rs) rfl (.inl rfl) ?_
  simp(disch:=omega)only[↓RU,RV,RH,↓reduceIte,qE,reduceCtorEq,if_pos,qN,w64,↓RS,RG,qA,qM,qL,zaa,hrl0]
  apply hK;clear hK K
  refine W.cond rfl (fun h1=>?_) (fun h1=>?_)
  ·try simp only[RL]at h1
   have hrb:=zhn g many i k
   obtain ⟨r1,hr1,hl1,hx1⟩:=hg.at_ (i:=i - 1) (j:=k - 1) (by omega) (by omega)
   obtain ⟨r1b,hr1b,-,hx2⟩:=hg.at_ (i:=i - 1) (j:=k) (by omega) (by omega)
   obtain ⟨r2,hr2,hl2,hx3⟩:=hg.at_ (i:=i) (j:=k - 1) (by omega) (by omega)
   obtain ⟨r2b,hr2b,-,hx4⟩:=hg.at_ (i:=i) (j:=k) (by omega) (by omega)
   obtain rfl:r1=r1b:=by rw [hr1]at hr1b; exact Option.some.inj hr1b
   obtain rfl:r2=r2b:=by rw [hr2]at hr2b; exact Option.some.inj hr2b
   refine W.skip ?_
   refine xn ?_
   refine W.seq ?_
   refine W.block ?_
   refine W.seq_draw (by kernel_rfl) fun K hK=>?_
   simp(disch:=omega)only[↓RU,RV,RH,↓reduceIte,qE,reduceCtorEq,if_pos,w64,↓RS,RG,qA,qM,qL,ty0,ty1,zab,ty7,ty8,zbg,zaa,zfp,zbh,hr1,hx1,hx2,hr2,hx3,hx4,zcq]
   apply hK;clear hK K
   refine W.r fun K hK=>?_
   simp(disch:=omega)only[↓RU,RV,RH,↓reduceIte,qE,reduceCtorEq,if_pos,qN,↓RS,RG,qA,qM,qL]
   refine zag.ev (yaz (F:=[]) (R:=[]) (l:=four g i k) rfl) ?_
   rintro _ _ ⟨rfl,z,hz1,hz2,rfl⟩
   simp(disch:=omega)only[↓RU,RV,RH,↓reduceIte,qE,reduceCtorEq,if_pos,qN,↓RS,RG,qA,qM,qL]
   apply hK;clear hK K
   have hz4:z.length=4:=hz1.length_eq
   have hdn:=ybt hz1 hz2
   refine W.r fun K hK=>?_
   simp(disch:=omega)only[↓RU,RV,RH,↓reduceIte,qE,reduceCtorEq,if_pos,qN,w64,↓RS,RG,qA,qM,qL,zab,zaa,hdn]
   refine zag.ev (zwv hz4) ?_
   rintro _ _ ⟨y,rfl,rfl⟩
   simp(disch:=omega)only[↓RU,RV,RH,↓reduceIte,qE,reduceCtorEq,if_pos,qN,w64,↓RS,RG,qA,qM,qL,zab,zaa,hdn]
   apply hK;clear hK K
   refine W.cond rfl (fun h2=>?_) (fun h2=>?_)
   ·try simp only[RL]at h2
    refine W.k fun K hK=>?_
    simp(disch:=omega)only[↓RU,RV,RH,↓reduceIte,qE,reduceCtorEq,if_pos,w64,↓RS,RG,qA,qM,qL,zaa]
    apply hK;clear hK K
    refine XbN ?_
    refine xn ?_
    refine W.k fun K hK=>?_
    simp(disch:=omega)only[↓RU,RV,RH,↓reduceIte,qE,reduceCtorEq,if_pos,w64,↓RS,RG,qA,qM,qL,zaa]
    apply hK;clear hK K
    refine xn ?_
    refine ⟨nw - (k+1),by omega,0,k+1,_,rfl,by omega,by omega,?_,rfl⟩
    simp [Env.put,Env.of,zxk h1k h2,Int.add_assoc]
   try simp only[RL]at h2
   refine W.skip ?_
   refine XbN ?_
   refine xn ?_
   refine W.k fun K hK=>?_
   simp(disch:=omega)only[↓RU,RV,RH,↓reduceIte,qE,reduceCtorEq,if_pos,w64,↓RS,RG,qA,qM,qL,zaa]
   apply hK;clear hK K
   refine xn ?_
   refine ⟨nw - (k+1),by omega,0,k+1,_,rfl,by omega,by omega,?_,rfl⟩
   simp [Env.put,Env.of,zvm h2,Int.add_assoc]
  try simp only[RL]at h1
  obtain rfl:nw=k:=by omega
  refine W.exit ?_
  refine xe ?_
  refine xe ?_
  refine XBlock.hit ?_
  refine XbN ?_
  refine xn ?_
  refine W.k fun K hK=>?_
  simp(disch:=omega)only[↓RU,RV,RH,↓reduceIte,qE,reduceCtorEq,if_pos,w64,↓RS,RG,qA,qM,qL,zaa]
  apply hK;clear hK K
  refine xn ?_
  refine ⟨nh - (i+1),by omega,0,i+1,_,rfl,by omega,by omega,?_,rfl⟩
  simp [Env.put,Env.of,z4h h1i]
 try simp only[RL]at h
 obtain rfl:nh=i:=by omega
 refine W.exit ?_
 refine xe ?_
 refine xe ?_
 refine XBlock.hit ?_
 refine xn ?_
 refine W.r fun K hK=>?_
 simp(disch:=omega)only[↓RU,RV,RH,↓reduceIte,qE,reduceCtorEq,if_pos,↓RS,RG,qA,qM,qL]
 apply hK;clear hK K
 refine W.ret ?_
 refine Br rfl ?_
 rfl
theorem z2m {g:List (List Int)} {nh nw:Nat} (hg:GW g nh nw) (rs:List Rect):PC Tryz.prog 108 [zaw g rs] (.bool (decide (zvl g 4 nw nh=0))) true:=by
 refine PC.of ⟨Tryz.func108,by kernel_rfl,rfl,by kernel_rfl⟩ za4 mixed (by show 1≤Tryz.f108.ntmps; decide) ?_
 refine W.r fun K hK=>?_
 simp(disch:=omega)only[↓RU,RV,RH,↓reduceIte,qE,reduceCtorEq,if_pos]
 apply hK;clear hK K
 refine W.r fun K hK=>?_
 simp(disch:=omega)only[↓RU,RV,RH,↓reduceIte,qE,reduceCtorEq,if_pos,qN,w64,zaa]
 refine zag.pc (z4g hg rs 4) rfl (.inl rfl) ?_
 simp(disch:=omega)only[↓RU,RV,RH,↓reduceIte,qE,reduceCtorEq,if_pos,qN,w64,zaa]
 apply hK;clear hK K
 refine W.ret ?_
 refine Br rfl ?_
 rfl
def z3h (z:Int):UInt8:=UInt8.ofNat (97+z.toNat)
def zpo (row:List Int):Txt:=row.map z3h
def zff (g:List (List Int)):List Txt:=g.map zpo
theorem ycl {z:Int} (h:0≤z):IntKind.u8.wrap (97+z)=((z3h z).toNat:Int):=by
 obtain ⟨n,rfl⟩:=Int.eq_ofNat_of_zero_le h
 exact ya8
def stB (o:List Txt) (vo vb:Nat) (l:Txt) (vq t:Nat):Store :=
 match l with
 | []=>⟨[.arr vo 9 1 (o.map .str),.arr vb 164 2 [.nilp,.nils]],t⟩
 | l=>⟨[.arr vo 9 1 (o.map .str),.arr vb 164 2 [.ref 1 vb 0,.loc 2 vq 0 l.length],.arr vq 5 1 (l.map eB)],t⟩
theorem ycg {o:List Txt} {vo vb:Nat} {l:Txt} {vq t:Nat} (h:l≠[]):stB o vo vb l vq t=⟨[.arr vo 9 1 (o.map .str),.arr vb 164 2 [.ref 1 vb 0,.loc 2 vq 0 l.length],.arr vq 5 1 (l.map eB)],t⟩:=by
 cases l with
 | nil=>exact absurd rfl h
 | cons a l=>rfl
theorem yar {S:Store} {k f:Nat} {sel:List Nat} (o:List Txt):(o.map PV.str).mapM (rn S k sel (f+1))=some (o.map PV.str):=zxp (by simp [scal])
theorem z1d {S:Store} {im:Bool} {f:Nat} (o:List Txt):(o.map PV.str).mapM (reify S im (f+1))=some (o.map PV.str):=zmb (by simp [scal])
theorem zzz (row:List Int):(zpo row).length=row.length:=by simp [zpo]
theorem yas {row:List Int} (h:1≤row.length):zpo row≠[]:=by
 intro e
 have:=zzz row
 rw [e]at this
 simp at this; omega
theorem z4z {row:List Int} {k:Nat} {z:Int} (h:row[k]?=some z):zpo (row.take (k+1))=zpo (row.take k)++[z3h z]:=by simp [zpo,tk h]
theorem z5q {g:List (List Int)} {o:List Txt} (hl:o.length=g.length) (h:∀ j,j<g.length→o[j]?=(zff g)[j]?):o=zff g:=by
 refine List.ext_getElem? fun j=>?_
 by_cases hj:j<g.length
 ·exact h j hj
 rw [List.getElem?_eq_none (by omega),List.getElem?_eq_none (by simp [zff]; omega)]
theorem zli {g:List (List Int)} {j:Nat} {row:List Int} (h:g[j]?=some row):(zff g)[j]?=some (zpo row):=by simp [zff,h]
section
open Go Go.RowKit
set_option maxHeartbeats 1000000 in
set_option maxRecDepth 100000 in
theorem zp6 (b:Nat) (w:World) (h0:w.cell? ⟨b,0,none⟩=some (.pointer (some ⟨b,0,none⟩))) :
  Calls Tryz.prog 170 #[.pointer (some ⟨b,0,none⟩)] w fun e w'=>e = .returned (.tuple #[])∧w'=w:=by
 obtain ⟨j,d,z,hj,_⟩:=(za4 164 (by decide)).1
 go_enter Tryz.func170,Tryz.ntmps170
 go_wp2
 rw [Lib.run_neq_ptr_same w _ Tryz.underlying162 hj]
 go_wp2
 go_end0
 exact ⟨rfl,rfl⟩
theorem ycy (count:Nat) (hn:1≤count):liesAt Tryz.prog Tryz.prog.depth 164 count 0 164 1=true:=by
 have hc:Tryz.prog.cellsOf 164=2:=by kernel_rfl
 have hd:Tryz.prog.depth=(2*(Tryz.prog.types.size+Made.depth)+1)+1:=rfl
 rw [hd]
 simp only[liesAt,Bool.or_eq_true]
 left
 rw [hd]
 simp [rowAt,hc,hn,sameLayout]
set_option maxHeartbeats 1000000 in
set_option maxRecDepth 100000 in
theorem zom (b n:Nat) (hn:2≤n) (w:World) (h0:w.cell? ⟨b,0,none⟩=some (.pointer none)) (hsh:w.shape? b=some (164,n)) (hfz:w.frozen? ⟨b,0,none⟩=false) :
  Calls Tryz.prog 170 #[.pointer (some ⟨b,0,none⟩)] w fun e w'=>e = .returned (.tuple #[])∧w'=w.setCell ⟨b,0,none⟩ (.pointer (some ⟨b,0,none⟩)):=by
 obtain ⟨j,d,z,hj,hd,hf,hsz,hby,hz,_⟩:=(za4 164 (by decide)).1
 have hjs:j.size≠0:=by rw [hsz]; decide
 have hlies:liesAt Tryz.prog Tryz.prog.depth 164 (n / Tryz.prog.cellsOf 164) 0 164 1=true:=by
  rw [show Tryz.prog.cellsOf 164=2 by kernel_rfl]
  exact ycy _ (by omega)
 go_enter Tryz.func170,Tryz.ntmps170
 go_wp2
 rw [Lib.run_to_unsafe w ⟨b,0,none⟩ Tryz.underlying162 Tryz.underlying204 hj hjs hsh (show 0<n by omega)]
 simp only[Result.andThen]
 rw [Oper.upon_value]
 go_wp2
 rw [run_callFunc_extern Tryz.func189 (by kernel_rfl) (by kernel_rfl) (by kernel_rfl) (e:=Extern.AbiNoEscape.same) (by kernel_rfl)]
 rw [Lib.run_noEscape]
 simp only[Result.andThen]
 rw [Oper.upon_value]
 go_wp2
 rw [Lib.run_from_unsafe w ⟨b,0,none⟩ Tryz.underlying204 Tryz.underlying162 hj hsh hlies]
 simp only[Result.andThen]
 rw [Oper.upon_value]
 go_wp2
 go_end0
 exact ⟨rfl,rfl⟩
set_option maxHeartbeats 1000000 in
set_option maxRecDepth 100000 in
theorem zr4 (b g cap:Nat) (cur:Array Value) (fz:Nat × Nat) (l:List UInt8) (w:World) (hbk:w.cell? ⟨b,1,none⟩=some (.slice (some ⟨g,0,none⟩) l.length cap))
  (hg:w.heap[g]?=some (.cells cur 5 fz)) (hc:l.length≤cur.size) (hcap:cap≠0) (h63:l.length≤9223372036854775807) (h0:l≠[])
  (hl:∀ (j:Nat) x,l[j]?=some x→cur[j]?=some (.int .u8 x.toNat)) :
  Calls Tryz.prog 149 #[.pointer (some ⟨b,0,none⟩)] w fun e w'=>e = .returned (.string ⟨l.toArray⟩)∧w'=w.drew.freeze ⟨g,0,none⟩ l.length:=by
 have c1:w.drew.cell? ⟨b,1,none⟩=some (.slice (some ⟨g,0,none⟩) l.length cap):=hbk
 have hSD:(Builtin.unsafeSliceData_ #[22] 187 #[.slice (some ⟨g,0,none⟩) l.length cap]).run Tryz.prog w.drew = .ok (.pointer (some ⟨g,0,none⟩)) w.drew :=
  Lib.run_unsafeSliceData_row _ _ _ _ _ _ hcap
 have hUS:(Builtin.unsafeString_ #[187,3] 9 #[.pointer (some ⟨g,0,none⟩),.int .i64 l.length]).run Tryz.prog w.drew = .ok (.string ⟨l.toArray⟩) (w.drew.freeze ⟨g,0,none⟩ l.length):=by
  have hg':w.drew.heap[g]?=some (.cells cur 5 fz):=hg
  refine Lib.run_unsafeString_row w.drew 187 3 9 5 Tryz.underlying187 (by kernel_rfl) g cur.size (by simp [World.shape?,hg']) l h0 hc h63 ?_
  intro j x hx
  by_cases hj:j=0
  ·subst hj; simp [World.cell?,Addr.add,hg',hl 0 x hx]
  simp [World.cell?,Addr.add,hj,hg',hl j x hx]
 go_enter Tryz.func149,Tryz.ntmps149
 go_wp2
 go_region
 all_goals (go_wp2; go_ret; exact ⟨rfl,rfl⟩)
variable {F:Nat→Prop} {G:GSt} {w:World}
theorem zms {S:Store} {o ver:Nat} {c0 c1:PV} (hS:S.obs[o]?=some (.arr ver 164 2 [c0,c1])) (h0:c0 = .nilp∨c0 = .ref o ver 0) :
  Ev Tryz.prog 170 [.ref o ver 0] S fun v S'=>v = .tup []∧S'=⟨S.obs.set o (.arr ver 164 2 [.ref o ver 0,c1]),S.tick⟩:=by
 refine ⟨Fn.ent ⟨Tryz.func170,by kernel_rfl,rfl,by kernel_rfl⟩,fun F G w cargs hE hi hl hv=>?_⟩
 subst hE
 obtain ⟨c,rfl⟩:∃ c,cargs = #[c]:=by
  match cargs,hl with
  | ⟨[c]⟩,_=>exact ⟨c,rfl⟩
 have hco:G.er.cellsOf o ver=some [c0,c1]:=by simp [Store.cellsOf,hS]
 obtain ⟨et,sz,l,hG,rfl,hver⟩:=(hv 0 _ c rfl rfl).ref_at hi hco
 obtain ⟨l2,hG2⟩:=zfa hS
 rw [hG]at hG2
 cases hG2
 obtain ⟨cs,⟨fz,hb,hz⟩,hcs,hle,hcell⟩:=hi.arr o _ _ _ _ l hG
 obtain ⟨-,v0,hv0,hr0⟩:=hcell 0 c0 rfl
 obtain ⟨hc1,v1,hv1,hr1⟩:=hcell 1 c1 rfl
 have hle2:2≤cs.size:=by simp only[List.length_cons,List.length_nil]at hle; omega
 have hself:∀ (G':GSt),G.tick≤G'.tick→(∀ ob l',G'.obs[o]?=some (ob,l')→ob.ver=ver→∃ et sz cells,ob = .arr ver et sz cells∧l'=l)→VR w.heap F G' (.ref o ver 0) (.pointer (some ⟨l.blk,0,none⟩)):=by
  intro G' ht h
  refine .ref _ _ _ _ (Nat.lt_of_lt_of_le hver ht) fun ob l' h1 h2=>?_
  obtain ⟨a,b,c,d,rfl⟩:=h ob l' h1 h2
  exact ⟨a,b,c,d,rfl⟩
 have hcell0:w.cell? ⟨l.blk,0,none⟩=some v0:=by simp [World.cell?,hb,hv0]
 have put:∀ w':World,w'.os=w.os→w'.tape=w.tape→w'.output=w.output→w.drawn≤w'.drawn→w'.heap.size=w.heap.size→(∀ b,b≠l.blk→w'.heap[b]?=w.heap[b]?) →
   (∃ cs':Array Value,w'.heap[l.blk]?=some (.cells cs' 164 fz)∧cs'.size=cs.size∧cs'[0]?=some (.pointer (some ⟨l.blk,0,none⟩))∧cs'[1]?=some v1) →
   Inv F ⟨G.obs.set o (.arr ver 164 2 [.ref o ver 0,c1],l),G.tick⟩ w'∧Next F G w F ⟨G.obs.set o (.arr ver 164 2 [.ref o ver 0,c1],l),G.tick⟩ w':=by
  rintro w' h1 h2 h3 hd h4 h5 ⟨cs',k1,k2,k3,k4⟩
  refine zig hi hG _ l G.tick w' h1 h2 h3 hd (by omega) (.inl rfl) (fun b _ hb=>h5 b hb) (qR _) (show ver<G.tick from hver) (.inl ⟨rfl,by simp [Ob.like],rfl⟩) ?_
  refine ⟨cs',⟨fz,k1,hz.of k2⟩,by omega,by simp; omega,?_⟩
  rintro (_ | _ | i) p hp
  ·simp at hp; subst hp
   exact ⟨rfl,_,k3,hself G (qR _) fun ob l' h1 h2=>by rw [hG]at h1; cases h1; exact ⟨_,_,_,rfl,rfl⟩⟩
  ·simp at hp; subst hp
   exact ⟨hc1,v1,k4,hr1⟩
  simp at hp
 have er:∀ ob,(⟨G.obs.set o (ob,l),G.tick⟩:GSt).er=⟨G.er.obs.set o ob,G.er.tick⟩:=by intro ob; simp [GSt.er,List.map_set]
 rcases h0 with rfl | rfl
 ·have hv0':v0 = .pointer none:=by cases hr0 with | imm _ _ h=>cases h; rfl
  subst hv0'
  refine (zom l.blk cs.size hle2 w hcell0 (by simp [World.shape?,hb]) (by obtain ⟨lo,hi'⟩:=fz; simp only[World.frozen?,hb,Bool.and_eq_false_iff,decide_eq_false_iff_not]; rcases hz with h | h <;> simp only at h <;> omega)).mono ?_
  rintro e w' ⟨rfl,rfl⟩
  obtain ⟨i1,n1⟩:=put (w.setCell ⟨l.blk,0,none⟩ (.pointer (some ⟨l.blk,0,none⟩))) rfl rfl rfl (qR _) (by simp) (fun b hb=>by simp [World.setCell,Array.getElem?_modify,Ne.symm hb])
   ⟨cs.setIfInBounds 0 (.pointer (some ⟨l.blk,0,none⟩)),by simp [World.setCell,Array.getElem?_modify,hb],by simp,by rw [Array.getElem?_setIfInBounds,if_pos rfl,if_pos (by omega)],by simp [Array.getElem?_setIfInBounds,hv1]⟩
  exact ⟨_,_,F,_,rfl,⟨rfl,er _⟩,i1,n1,.tup [] #[] rfl (by simp)⟩
 have hv0':v0 = .pointer (some ⟨l.blk,0,none⟩):=by
  obtain ⟨_,_,l3,h1,h2,_⟩:=hr0.ref_at hi hco
  rw [hG]at h1; cases h1; exact h2
 subst hv0'
 refine (zp6 l.blk w hcell0).mono ?_
 rintro e w' ⟨rfl,rfl⟩
 obtain ⟨i1,n1⟩:=put w' rfl rfl rfl (qR _) rfl (fun _ _=>rfl) ⟨cs,hb,rfl,hv0,hv1⟩
 exact ⟨_,_,F,_,rfl,⟨rfl,er _⟩,i1,n1,.tup [] #[] rfl (by simp)⟩
theorem znf {A:List Ob} {t ver vq:Nat} {c0:PV} {l:Txt} (h0:l≠[]) :
  Ev Tryz.prog 149 [.ref A.length ver 0] ⟨A++[.arr ver 164 2 [c0,.loc (A.length+1) vq 0 l.length],.arr vq 5 1 (l.map eB)],t⟩ fun v S'=>v = .str l∧S'=⟨A,t⟩:=by
 refine ⟨Fn.ent ⟨Tryz.func149,by kernel_rfl,rfl,by kernel_rfl⟩,fun F G w cargs hE hi hl hv=>?_⟩
 obtain ⟨c,rfl⟩:∃ c,cargs = #[c]:=by
  match cargs,hl with
  | ⟨[c]⟩,_=>exact ⟨c,rfl⟩
 have hobs:G.er.obs=A++[.arr ver 164 2 [c0,.loc (A.length+1) vq 0 l.length],.arr vq 5 1 (l.map eB)]:=by rw [hE]
 have htk:G.tick=t:=congrArg Store.tick hE
 have hSo:G.er.obs[A.length]?=some (.arr ver 164 2 [c0,.loc (A.length+1) vq 0 l.length]):=by rw [hobs]; simp
 have hSq:G.er.obs[A.length+1]?=some (.arr vq 5 1 (l.map eB)):=by rw [hobs]; simp
 obtain ⟨et,sz,lo,hGo,rfl,hver⟩:=(hv 0 _ c rfl rfl).ref_at hi (cells:=[c0,.loc (A.length+1) vq 0 l.length]) (by simp [Store.cellsOf,hSo])
 obtain ⟨lo2,hGo2⟩:=zfa hSo
 rw [hGo]at hGo2
 cases hGo2
 obtain ⟨lq,hGq⟩:=zfa hSq
 obtain ⟨cs,⟨fo,hb,-⟩,hcs,hle,hcell⟩:=hi.arr _ _ _ _ _ lo hGo
 obtain ⟨cq,⟨fq,hbq,-⟩,hcq,hleq,hcellq⟩:=hi.arr _ _ _ _ _ lq hGq
 obtain ⟨-,v0,hv0,hr0⟩:=hcell 0 c0 rfl
 obtain ⟨-,v1,hv1,hr1⟩:=hcell 1 _ rfl
 obtain ⟨_,_,lq2,cap,hGq2,rfl,_,hnc,hcm,hroom⟩:=hr1.loc_at hi (cells:=l.map eB) (by simp [Store.cellsOf,hSq])
 rw [hGq]at hGq2
 cases hGq2
 have hl0:l.length≠0:=by simpa using h0
 have hc1:w.cell? ⟨lo.blk,1,none⟩=some (.slice (some ⟨lq.blk,0,none⟩) l.length cap):=by simp [World.cell?,hb,hv1]
 refine (zr4 lo.blk lq.blk cap cq fq l w hc1 hbq (by simp at hleq; omega) (by omega) (by unfold maxLen at hcm; omega) h0 ?_).mono ?_
 ·intro j x hx
  obtain ⟨-,v,k1,k2⟩:=hcellq j (eB x) (by simp [hx])
  rw [k1,k2.int]
 ·rintro e w' ⟨rfl,rfl⟩
  have hoth:∀ b,b≠lq.blk→(w.drew.freeze ⟨lq.blk,0,none⟩ l.length).heap[b]?=w.heap[b]?:=by
   intro b hb'
   show _=w.drew.heap[b]?
   simp only[World.freeze,if_neg hl0,Array.getElem?_modify,Ne.symm hb',if_false]
  have hsz:(w.drew.freeze ⟨lq.blk,0,none⟩ l.length).heap.size=w.heap.size:=by
   show (w.drew.freeze ⟨lq.blk,0,none⟩ l.length).heap.size=w.drew.heap.size
   simp only[World.freeze,if_neg hl0,Array.size_modify]
  have hos:∀ w2:World,(w2.freeze ⟨lq.blk,0,none⟩ l.length).os=w2.os∧(w2.freeze ⟨lq.blk,0,none⟩ l.length).tape=w2.tape∧(w2.freeze ⟨lq.blk,0,none⟩ l.length).output=w2.output:=by
   intro w2; simp [World.freeze,hl0]
  have nx:Next F G w F (G.take A.length) (w.drew.freeze ⟨lq.blk,0,none⟩ l.length) :=
   ⟨(hos _).1,(hos _).2.1,(hos _).2.2,by omega,fun _ h=>h,fun _ h => .inl h,fun o x h => .inr ⟨o,x,zdd h,rfl⟩,qR _,
    fun b _ hG=>hoth b fun e=>hG _ _ hGq e.symm,fun _ ob' _ h _=>⟨ob',zdd h,rfl,Ob.like.refl _⟩,by simp [World.freeze,hl0]⟩
  have tlt:∀ (o:Nat) x,(G.take A.length).obs[o]?=some x→o<A.length:=by
   intro o x hx
   have:=(List.getElem?_eq_some_iff.1 hx).1
   simp only[GSt.take,List.length_take]at this; omega
  refine ⟨.str l,_,F,G.take A.length,rfl,⟨rfl,?_⟩,zjf (fun b hb=>by rw [hsz]; exact hi.fr b hb) (fun o ob l' h=>hi.ver o ob l' (zdd h)) (fun o ob l' h=>hi.nF o ob l' (zdd h))
   (fun o ob l' h=>(hi.holds (zdd h)).next hi nx (hoth _ fun e=>?_)) (fun o o' x x' h h'=>hi.inj o o' x x' (zdd h) (zdd h')),nx,.imm _ _ (.str _ _ rfl)⟩
  ·rw [zj5,hE]; simp [Store.take]
  have:=hi.inj o _ _ _ (zdd h) hGq e
  have:=tlt o _ h
  omega
end
theorem zti {o:List Txt} {vo vb t:Nat} (x:UInt8):Ev Tryz.prog 148 [.ref 1 vb 0,eB x] ⟨[.arr vo 9 1 (o.map .str),.arr vb 164 2 [.nilp,.nils]],t⟩ fun v S=>v = .undef∧∃ vq t2:Nat,S=⟨[.arr vo 9 1 (o.map .str),.arr vb 164 2 [.ref 1 vb 0,.loc 2 vq 0 ([x]).length],.arr vq 5 1 (([x]).map eB)],t2⟩:=by
 refine Ev.of ⟨Tryz.func148,by kernel_rfl,rfl,by kernel_rfl⟩ za4 mixed (by show 2≤Tryz.f148.ntmps; decide) ?_
 refine W.r fun K hK=>?_
 simp(disch:=omega)only[↓RU,RV,RH,↓reduceIte,qE,reduceCtorEq,if_pos,↓RS,RG,qA,qM,qL]
 apply hK;clear hK K
 refine W.r fun K hK=>?_
 simp(disch:=omega)only[↓RU,RV,RH,↓reduceIte,qE,reduceCtorEq,if_pos,qN,↓RS,RG,qA,qM,qL,List.set_cons_succ,List.set_cons_zero]
 refine zag.ev (zms (S:=⟨[.arr vo 9 1 (o.map .str),.arr vb 164 2 [.nilp,.nils]],t⟩) (o:=1) rfl (.inl rfl)) ?_
 rintro _ _ ⟨rfl,rfl⟩
 simp(disch:=omega)only[↓RU,RV,RH,↓reduceIte,qE,reduceCtorEq,if_pos,qN,↓RS,RG,qA,qM,qL,List.set_cons_succ,List.set_cons_zero]
 apply hK;clear hK K
 refine W.joinS [] (fun vs S=>vs=[]∧∃ vq t2:Nat,S=⟨[.arr vo 9 1 (o.map .str),.arr vb 164 2 [.ref 1 vb 0,.loc 2 vq 0 ([x]).length],.arr vq 5 1 (([x]).map eB)],t2⟩) ?_ ?_
 ·
  refine W.k fun K hK=>?_
  simp(disch:=omega)only[↓RU,RV,RH,↓reduceIte,qE,reduceCtorEq,if_pos,↓RS,RG,qA,qM,qL,ty4,ty6,yc2,yc3,zhh]
  apply hK;clear hK K
  refine xn ?_
  refine ⟨2,[3],[],⟨[.arr vo 9 1 (o.map .str),.arr vb 164 2 [.ref 1 vb 0,.loc 2 (t+2) 0 ([x]).length],.arr (t+2) 5 1 (([x]).map eB)],(t+3)⟩,?_,?_,rfl,t+2,t+3,rfl⟩
  ·simp [-qU,Env.put,Env.of,zad,za2,zac,zai,zak,zam,za3,za8,zbz,za7,zat,za9,zby,zb0,zav,zau,zan,za6,zba,zbx,zar,zaq,zal,zas,za5,zc9,qS,qP,qC]
  simp [-qU,Env.put,Env.of,zad,za2,zac,zai,zak,zam,za3,za8,zbz,za7,zat,za9,zby,zb0,zav,zau,zan,za6,zba,zbx,zar,zaq,zal,zas,za5,zc9,qS,qP,qC,yar]
 rintro vs S - ⟨rfl,vq,t2,rfl⟩
 refine W.r fun K hK=>?_
 simp(disch:=omega)only[↓RU,RV,RH,↓reduceIte,qE,reduceCtorEq,if_pos,↓RS,RG,qA,qM,qL]
 apply hK;clear hK K
 refine W.ret ?_
 refine Br rfl ?_
 exact ⟨_,rfl,vq,t2,zbj⟩
theorem ztj {o:List Txt} {vo vb vq t:Nat} {l:Txt} (hl:l.length<2147483647) (x:UInt8):Ev Tryz.prog 148 [.ref 1 vb 0,eB x] ⟨[.arr vo 9 1 (o.map .str),.arr vb 164 2 [.ref 1 vb 0,.loc 2 vq 0 (l).length],.arr vq 5 1 ((l).map eB)],t⟩ fun v S=>v = .undef∧∃ vq t2:Nat,S=⟨[.arr vo 9 1 (o.map .str),.arr vb 164 2 [.ref 1 vb 0,.loc 2 vq 0 (l++[x]).length],.arr vq 5 1 ((l++[x]).map eB)],t2⟩:=by
 refine Ev.of ⟨Tryz.func148,by kernel_rfl,rfl,by kernel_rfl⟩ za4 mixed (by show 2≤Tryz.f148.ntmps; decide) ?_
 refine W.r fun K hK=>?_
 simp(disch:=omega)only[↓RU,RV,RH,↓reduceIte,qE,reduceCtorEq,if_pos,↓RS,RG,qA,qM,qL]
 apply hK;clear hK K
 refine W.r fun K hK=>?_
 simp(disch:=omega)only[↓RU,RV,RH,↓reduceIte,qE,reduceCtorEq,if_pos,qN,↓RS,RG,qA,qM,qL,List.set_cons_succ,List.set_cons_zero]
 refine zag.ev (zms (S:=⟨[.arr vo 9 1 (o.map .str),.arr vb 164 2 [.ref 1 vb 0,.loc 2 vq 0 (l).length],.arr vq 5 1 ((l).map eB)],t⟩) (o:=1) rfl (.inr rfl)) ?_
 rintro _ _ ⟨rfl,rfl⟩
 simp(disch:=omega)only[↓RU,RV,RH,↓reduceIte,qE,reduceCtorEq,if_pos,qN,↓RS,RG,qA,qM,qL,List.set_cons_succ,List.set_cons_zero]
 apply hK;clear hK K
 refine W.r fun K hK=>?_
 simp(disch:=omega)only[↓RU,RV,RH,↓reduceIte,qE,reduceCtorEq,if_pos,↓RS,RG,qA,qM,qL,ty4,ty6,yc2,yc3,zhh]
 apply hK;clear hK K
 refine W.r fun K hK=>?_
 simp(disch:=omega)only[↓RU,RV,RH,↓reduceIte,qE,reduceCtorEq,if_pos,↓RS,RG,qA,qM,qL]
 apply hK;clear hK K
 refine W.ret ?_
 refine Br rfl ?_
 exact ⟨3,rfl,t+1,t+2,by simp [zch]⟩
theorem zwf {o:List Txt} {vo vb vq t:Nat} {l:Txt} (hl:l.length<2147483647) (x:UInt8):Ev Tryz.prog 148 [.ref 1 vb 0,eB x] (stB o vo vb l vq t) fun v S=>v = .undef∧∃ vq2 t2:Nat,S=stB o vo vb (l++[x]) vq2 t2:=by
 cases l with
 | nil=>exact zti x
 | cons a l=>exact ztj hl x
theorem z0k {o:List Txt} {vo vb vq t:Nat} {l:Txt} (h0:l≠[]):Ev Tryz.prog 149 [.ref 1 vb 0] (stB o vo vb l vq t) fun v S=>v = .str l∧S=⟨[.arr vo 9 1 (o.map .str)],t⟩:=by
 rw [ycg h0]
 exact znf (A:=[.arr vo 9 1 (o.map .str)]) h0
theorem ya6 {g:List (List Int)} {nh nw:Nat} (hg:GW g nh nw) (rs:List Rect) (hz:∀ r∈g,∀ z∈r,0≤z∧z≤100):PC Tryz.prog 130 [zaw g rs] (za1 (zff g)) true:=by
 have hl:=hg.1
 obtain ⟨hg1,hg2,hg3,hg4⟩:=hg.2.2
 refine PC.of ⟨Tryz.func130,by kernel_rfl,rfl,by kernel_rfl⟩ za4 mixed (by show 1≤Tryz.f130.ntmps; decide) ?_
 refine W.r fun K hK=>?_
 simp(disch:=omega)only[↓RU,RV,RH,↓reduceIte,qE,reduceCtorEq,if_pos,↓RS,RG,qA,qM,qL]
 apply hK;clear hK K
 refine W.r fun K hK=>?_
 simp(disch:=omega)only[↓RU,RV,RH,↓reduceIte,qE,reduceCtorEq,if_pos,qN,↓RS,RG,qA,qM,qL,ty3,zah,hl,zfy,zk3,zhl]
 refine zag.pc (zsa g rs) rfl (.inl rfl) ?_
 simp(disch:=omega)only[↓RU,RV,RH,↓reduceIte,qE,reduceCtorEq,if_pos,qN,↓RS,RG,qA,qM,qL,ty3,zah,hl,zfy,zk3,zhl]
 apply hK;clear hK K
 refine W.seq ?_
 refine W.r fun K hK=>?_
 simp(disch:=omega)only[↓RU,RV,RH,↓reduceIte,qE,reduceCtorEq,if_pos,↓RS,RG,qA,qM,qL,ty0,ty1,zab,ty7,ty8,zbg,zaa,zfp,zbh,hl]
 apply hK;clear hK K
 refine W.block ?_
 refine W.loop [0,3,15,16,17] (fun n vs S=>∃ (i vo t:Nat) (o:List Txt),n=nh - i∧i≤nh∧o.length=nh∧(∀ j,j<i→o[j]?=(zff g)[j]?)∧vs=[zaw g rs,.loc 0 vo 0 nh,zd0 g,.int .i64 nh,.int .i64 (i:Nat)]∧S=⟨[.arr vo 9 1 (o.map .str)],t⟩) nh ?_ ?_
 ·refine ⟨1,0,0,1,List.replicate nh [],rfl,Nat.zero_le _,by simp,fun j h=>absurd h (by omega),?_,?_⟩
  ·simp [Env.put,Env.of,zad,hl]
  simp [zch,zk3]
 rintro n vs S - ⟨i,vo,t,o,rfl,h_i,hol,hdone,rfl,rfl⟩
 refine W.r fun K hK=>?_
 simp(disch:=omega)only[↓RU,RV,RH,↓reduceIte,qE,reduceCtorEq,if_pos,w64,↓RS,RG,qA,qM,qL,zaa]
 apply hK;clear hK K
 refine W.seq ?_
 refine W.cond rfl (fun h=>?_) (fun h=>?_)
 ·try simp only[RL]at h
  obtain ⟨row,hrow,hrm⟩:=zaf (show i<g.length by omega)
  have hrl:=hg.2.1 row hrm
  have hrz:=hz row hrm
  refine W.skip ?_
  refine xn ?_
  refine W.seq ?_
  refine W.block ?_
  refine W.r fun K hK=>?_
  simp(disch:=omega)only[↓RU,RV,RH,↓reduceIte,qE,reduceCtorEq,if_pos,↓RS,RG,qA,qM,qL,ty0,zab,ty8,zaa,hrow]
  apply hK;clear hK K
  refine W.r fun K hK=>?_
  simp(disch:=omega)only[↓RU,RV,RH,↓reduceIte,qE,reduceCtorEq,if_pos,↓RS,RG,qA,qM,qL,ty4,ty6,yc2,yc3,zhh]
  apply hK;clear hK K
  refine W.seq ?_
  refine W.r fun K hK=>?_
  simp(disch:=omega)only[↓RU,RV,RH,↓reduceIte,qE,reduceCtorEq,if_pos,↓RS,RG,qA,qM,qL,zab,zaa,hrl]
  apply hK;clear hK K
  refine W.block ?_
  refine W.loop [0,3,15,16,17,4,6,22,23,24] (fun n vs S=>∃ (k vb vq t:Nat),n=nw - k∧k≤nw∧vs=[zaw g rs,.loc 0 vo 0 nh,zd0 g,.int .i64 nh,.int .i64 (i:Nat),.int .i64 (i:Nat),.ref 1 vb 0,eInts row,.int .i64 nw,.int .i64 (k:Nat)]∧S=stB o vo vb (zpo (row.take k)) vq t) nw ?_ ?_
  ·refine ⟨2,0,_,0,_,rfl,Nat.zero_le _,?_,rfl⟩
   simp [Env.put,Env.of,hrl]
  rintro n vs S - ⟨k,vb,vq,t,rfl,h_k,rfl,rfl⟩
  refine W.r fun K hK=>?_
  simp(disch:=omega)only[↓RU,RV,RH,↓reduceIte,qE,reduceCtorEq,if_pos,w64,↓RS,RG,qA,qM,qL,zaa]
  apply hK;clear hK K
  refine W.seq ?_
  refine W.cond rfl (fun h1=>?_) (fun h1=>?_)
  ·try simp only[RL]at h1
   obtain ⟨z,hzk,hzm⟩:=zaf (show k<row.length by omega)
   have hzb:=hrz z hzm
   have hul:=ycl hzb.1
   refine W.skip ?_
   refine xn ?_
   refine W.seq ?_
   refine W.block ?_
   refine W.r fun K hK=>?_
   simp(disch:=omega)only[↓RU,RV,RH,↓reduceIte,qE,reduceCtorEq,if_pos,↓RS,RG,qA,qM,qL,zab,zaa,hzk]
   apply hK;clear hK K
   refine W.k fun K hK=>?_
   simp(disch:=omega)only[↓RU,RV,RH,↓reduceIte,qE,reduceCtorEq,if_pos,w64,w64,qN,↓RS,RG,qA,qM,qL,zaa,zhh,hul]
   refine zag.ev (zwf (by rw [zzz,List.length_take]; omega) (z3h z)) ?_
   rintro _ _ ⟨rfl,vq2,t2,rfl⟩
   simp(disch:=omega)only[↓RU,RV,RH,↓reduceIte,qE,reduceCtorEq,if_pos,w64,w64,qN,↓RS,RG,qA,qM,qL,zaa,zhh,hul]
   apply hK;clear hK K
   refine XbN ?_
   refine xn ?_
   refine W.k fun K hK=>?_
   simp(disch:=omega)only[↓RU,RV,RH,↓reduceIte,qE,reduceCtorEq,if_pos,w64,↓RS,RG,qA,qM,qL,zaa]
   apply hK;clear hK K
   refine xn ?_
   refine ⟨nw - (k+1),by omega,_,k+1,vb,vq2,t2,rfl,by omega,?_,by rw [z4z hzk]; exact zbj⟩
   simp [Env.put,Env.of]
  try simp only[RL]at h1
  obtain rfl:nw=k:=by omega
  refine W.exit ?_
  refine xe ?_
  refine xe ?_
  refine XBlock.hit ?_
  refine xn ?_
  refine W.k fun K hK=>?_
  have htk:row.take nw=row:=qT (by omega)
  rw [htk]
  have hne:=yas (row:=row) (by omega)
  simp(disch:=omega)only[↓RU,RV,RH,↓reduceIte,qE,reduceCtorEq,if_pos,qN,↓RS,RG,qA,qM,qL,ty3,zah,hol,zdc,zps]
  refine zag.ev (z0k hne) ?_
  rintro _ _ ⟨rfl,rfl⟩
  simp(disch:=omega)only[↓RU,RV,RH,↓reduceIte,qE,reduceCtorEq,if_pos,qN,↓RS,RG,qA,qM,qL,ty3,zah,hol,zdc,zps]
  apply hK;clear hK K
  refine XbN ?_
  refine xn ?_
  refine W.k fun K hK=>?_
  simp(disch:=omega)only[↓RU,RV,RH,↓reduceIte,qE,reduceCtorEq,if_pos,w64,↓RS,RG,qA,qM,qL,zaa]
  apply hK;clear hK K
  refine xn ?_
  refine ⟨nh - (i+1),by omega,1,i+1,vo,t,o.set i (zpo row),rfl,by omega,by simp [hol],?_,?_,?_⟩
  ·intro j hj
   by_cases e:j=i
   ·subst e; rw [zli hrow,List.getElem?_set,if_pos rfl,if_pos (by omega)]
   rw [List.getElem?_set,if_neg (Ne.symm e)]; exact hdone j (by omega)
  ·simp [Env.put,Env.of]
  simp [zch]
 try simp only[RL]at h
 obtain rfl:nh=i:=by omega
 refine W.exit ?_
 refine xe ?_
 refine xe ?_
 refine XBlock.hit ?_
 refine xn ?_
 refine W.r fun K hK=>?_
 simp(disch:=omega)only[↓RU,RV,RH,↓reduceIte,qE,reduceCtorEq,if_pos,↓RS,RG,qA,qM,qL]
 apply hK;clear hK K
 refine W.ret ?_
 refine Br rfl ?_
 have hdo:=z5q (by omega) (fun j hj=>hdone j (by omega))
 subst hdo
 obtain rfl:nh=(zff g).length:=hol.symm
 exact zbc (k:=9) rfl (by simp) (z1d _)
def mE (ks:List Int):List (PV × PV):=ks.zipIdx.map fun q=>(.int .i64 q.1,.int .i64 ((q.2:Nat):Int))
theorem zuu (ks:List Int):(mE ks).length=ks.length:=by simp [mE]
theorem z8t (ks:List Int) (z:Int):mE (ks++[z])=mE ks++[(.int .i64 z,.int .i64 ((ks.length:Nat):Int))]:=by simp [mE,List.zipIdx_append]
theorem zxs {q:IntKind} {a b:Int}:zgl (.int q a) (.int q b)=some (decide (a=b)):=by
 simp only[zgl]
 by_cases h:a=b <;> simp [h]
theorem zlv {z:Int}:∀ (ks:List Int) (i:Nat),findKey (.int .i64 z) ((ks.zipIdx i).map fun q=>(PV.int .i64 q.1,PV.int .i64 ((q.2:Nat):Int))) i=some (if ks.idxOf z=ks.length then none else some (i+ks.idxOf z,.int .i64 ((i+ks.idxOf z:Nat):Int)))
 | [],i=>by simp [findKey]
 | a::ks,i=>by
  simp only[List.zipIdx_cons,List.map_cons,findKey,zxs]
  by_cases h:z=a
  ·subst h
   simp [List.idxOf_cons]
  have h':(a == z)=false:=by simpa using Ne.symm h
  have:=zlv (z:=z) ks (i+1)
  simp only[h,decide_false]
  rw [this,List.idxOf_cons,h']
  simp only[cond_false,List.length_cons,Nat.add_right_cancel_iff]
  have e:i+1+ks.idxOf z=i+(ks.idxOf z+1):=by omega
  rw [e]
theorem zm0 {ks:List Int} {z:Int} (h:ks.idxOf z=ks.length):findKey (.int .i64 z) (mE ks) 0=some none:=by
 rw [mE,zlv,if_pos h]
theorem zue {ks:List Int} {z:Int} (h:¬ ks.idxOf z=ks.length):findKey (.int .i64 z) (mE ks) 0=some (some (ks.idxOf z,.int .i64 ((ks.idxOf z:Nat):Int))):=by
 rw [mE,zlv,if_neg h]; simp
def Rect.Fit (b:Rect):Prop:=0≤b.row∧0≤b.col∧1≤b.high∧1≤b.wide∧b.row+b.high≤6∧b.col+b.wide≤6
theorem Rect.Fit.in_ {b:Rect} (h:b.Fit):b.In 1000:=by unfold Rect.Fit at h; unfold Rect.In; omega
theorem Rect.Fit.both {b o:Rect} (h:b.Fit) (k:o.Fit):(b.both o).Fit:=by
 unfold Rect.Fit at *
 simp only[Rect.both]
 omega
def zf4 (r c:Nat):Rect:=⟨r,c,1,1⟩
theorem zen {r c:Nat} (hr:r<6) (hc:c<6):(zf4 r c).Fit:=by unfold Rect.Fit zf4; simp only; omega
theorem zda {r c:Nat}:(zf4 r c).cells=[.int .i64 r,.int .i64 c,.int .i64 1,.int .i64 1]:=rfl
def zhd (ks:List Int) (z:Int):List Int:=if ks.idxOf z=ks.length then ks++[z] else ks
def zh2 (ks:List Int) (rs:List Rect) (z:Int) (q:Rect):List Rect:=if ks.idxOf z=ks.length then rs++[q] else rs
def zn8 (ks:List Int) (rs:List Rect) (z:Int) (q:Rect):List Rect:=(zh2 ks rs z q).set (ks.idxOf z) (((zh2 ks rs z q).getD (ks.idxOf z) q).both q)
def zqe (ks:List Int) (rs:List Rect):Prop:=rs.length=ks.length∧∀ b∈rs,b.Fit
theorem zqe.nil:zqe [] []:=⟨rfl,by simp⟩
theorem zgu {ks:List Int} {z:Int}:ks.idxOf z≤ks.length:=List.idxOf_le_length
theorem zqe.in_ {ks:List Int} {rs:List Rect} (h:zqe ks rs) {z:Int} {q:Rect} (hq:q.Fit):(zh2 ks rs z q).length=(zhd ks z).length∧(∀ b∈zh2 ks rs z q,b.Fit)∧∃ b,(zh2 ks rs z q)[ks.idxOf z]?=some b∧b.Fit:=by
 have h1:=h.1
 have h2:=zgu (ks:=ks) (z:=z)
 have hf:∀ b∈zh2 ks rs z q,b.Fit:=by
  unfold zh2
  split
  ·intro b hb
   rcases List.mem_append.1 hb with hb | hb
   ·exact h.2 b hb
   rw [List.mem_singleton]at hb; subst hb; exact hq
  exact h.2
 have hl:(zh2 ks rs z q).length=(zhd ks z).length:=by
  unfold zh2 zhd; split <;> simp [h1]
 refine ⟨hl,hf,?_⟩
 obtain ⟨b,hb,hm⟩:=zaf (show ks.idxOf z<(zh2 ks rs z q).length by rw [hl]; unfold zhd; split <;> (try rw [List.length_append,List.length_singleton]) <;> omega)
 exact ⟨b,hb,hf b hm⟩
theorem zqe.step {ks:List Int} {rs:List Rect} (h:zqe ks rs) {z:Int} {q:Rect} (hq:q.Fit):zqe (zhd ks z) (zn8 ks rs z q):=by
 obtain ⟨h1,h2,b,hb,hbf⟩:=h.in_ (z:=z) hq
 refine ⟨by rw [zn8,List.length_set,h1],fun c hc=>?_⟩
 unfold zn8 at hc
 rcases List.mem_or_eq_of_mem_set hc with hc | rfl
 ·exact h2 c hc
 rw [List.getD_eq_getElem?_getD,hb]; exact hbf.both hq
theorem zxt {ks:List Int} {rs:List Rect} {z:Int} {q b:Rect} (hb:(zh2 ks rs z q)[ks.idxOf z]?=some b):zn8 ks rs z q=(zh2 ks rs z q).set (ks.idxOf z) (b.both q):=by
 rw [zn8,List.getD_eq_getElem?_getD,hb]; rfl
theorem ziz {rs:List Rect} {n:Nat} {r:Rect} (h:n<rs.length):(rcs rs).take (n*4)++r.cells++(rcs rs).drop (n*4+4)=rcs (rs.set n r):=yai h
theorem zxo {S:Store} {k f:Nat} {sel:List Nat} (ks:List Int):((mE ks).mapM fun q=>(rn S k sel (f+1) q.1).bind fun a=>(rn S k sel (f+1) q.2).map fun b=>(a,b))=some (mE ks):=by
 have:∀ l:List (PV × PV),(∀ q∈l,∃ a b:Int,q=(.int .i64 a,.int .i64 b))→(l.mapM fun q=>(rn S k sel (f+1) q.1).bind fun a=>(rn S k sel (f+1) q.2).map fun b=>(a,b))=some l:=by
  intro l
  induction l with
  | nil=>intro _; rfl
  | cons q l ih =>
   intro h
   obtain ⟨a,b,rfl⟩:=h q (by simp)
   rw [qC,ih fun x hx=>h x (by simp [hx])]
   rfl
 refine this _ fun q hq=>?_
 obtain ⟨a,_,rfl⟩:=List.mem_map.1 hq
 exact ⟨_,_,rfl⟩
theorem znc {S:Store} {k f:Nat} {sel:List Nat} (rs:List Rect):(rcs rs).mapM (rn S k sel (f+1))=some (rcs rs):=zxp (zz3 rs)
theorem zbv {T:Tab} {S:Store} {e:Env} {t:TypeId} {x:Operand}:zdz T S e (.load t x)=zsq (T t) S (e.ev x):=rfl
theorem zco {T:Tab} {S:Store} {e:Env} {x:Operand}:zdz T S e (.nilCheck x)=zg8 S (e.ev x):=rfl
theorem zdh {T:Tab} {S:Store} {e:Env} {t:TypeId} {x:Operand} {f:Nat}:zdz T S e (.fieldAddr t x f)=zf5 T S t (e.ev x) f:=rfl
theorem zdi {T:Tab} {S:Store} {e:Env} {t:TypeId} {x i:Operand}:zdz T S e (.indexAddr t x i)=zf6 T S t (e.ev x) (e.ev i):=rfl
theorem z4n {r:Rect}:rcs [r]=r.cells:=by simp [rcs]
theorem z8y {rs:List Rect}:(rcs rs).take (rs.length*4)=rcs rs:=by rw [← zbn,List.take_length]
theorem zbi {r:Rect}:r.cells.length=4:=rfl
theorem zbl {r:Rect}:zb3 r.cells=True:=eq_true (by intro p hp; simp [Rect.cells]at hp; rcases hp with rfl | rfl | rfl | rfl <;> rfl)
def gcs (d:List (List Int)) (cur:PV) (m:Nat):List PV:=d.map eInts++cur::List.replicate m .nils
theorem zvy {S:Store} {k f:Nat} {sel:List Nat} {d:List (List Int)} {cur cur2:PV} {m:Nat} (h:rn S k sel (f+1) cur=some cur2):(gcs d cur m).mapM (rn S k sel (f+1))=some (gcs d cur2 m):=by
 unfold gcs
 rw [qP,zce (l:=d.map eInts) (fun x hx=>by obtain ⟨a,_,rfl⟩:=List.mem_map.1 hx; rfl),qC,h,zce (l:=List.replicate m PV.nils) (fun x hx=>by obtain rfl:=List.eq_of_mem_replicate hx; rfl)]
 rfl
theorem zum {z:Int}:TK.keyed tab 3 (.int .i64 z)=true:=by simp only[TK.keyed,zaa]; rfl
theorem zpu {g d:List (List Int)} {y:List Int} {row ks:List Int} {rs:List Rect} {z:Int} {r c w m xv yv vq t:Nat} (hr:r<6) (hc:c<6) (hrow:g[r]?=some row) (hz:row[c]?=some z) (hs:zqe ks rs) (hk:ks.length≤64) (hin:¬ ks.idxOf z=ks.length):Ev Tryz.prog 152 [.int .i64 (r:Nat),.int .i64 (c:Nat),.ref 5 5 0,.ref 0 0 0,.ref 3 3 0] ⟨[.arr 0 98 1 [zd0 g],.arr 1 3 1 [.int .i64 w],.arr 2 101 2 [.nils,.loc 8 vq 0 (rs).length],.arr 3 49 1 [.ref 2 2 0],.map 4 (mE ks),.arr 5 170 1 [.mp 4 4],.arr xv 24 1 (gcs d (.loc 7 yv 0 w) m),.arr yv 3 1 (y.map (.int .i64)),.arr vq 55 4 (rcs rs)],t⟩ fun v S=>v = .int .i64 ((ks.idxOf z:Nat):Int)∧∃ vq t:Nat,S=⟨[.arr 0 98 1 [zd0 g],.arr 1 3 1 [.int .i64 w],.arr 2 101 2 [.nils,.loc 8 vq 0 ((zn8 ks rs z (zf4 r c))).length],.arr 3 49 1 [.ref 2 2 0],.map 4 (mE (zhd ks z)),.arr 5 170 1 [.mp 4 4],.arr xv 24 1 (gcs d (.loc 7 yv 0 w) m),.arr yv 3 1 (y.map (.int .i64)),.arr vq 55 4 (rcs (zn8 ks rs z (zf4 r c)))],t⟩:=by
 have hrl:=zci hrow
 have hcl:=zci hz
 have hgl:g.length=g.length:=rfl
 obtain ⟨hi1,hi2,b,hb,hbf⟩:=hs.in_ (z:=z) (zen hr hc)
 have hil:=zgu (ks:=ks) (z:=z)
 have hsl:=hs.1
 have hst:=hs.step (z:=z) (zen hr hc)
 have hfs:=zue hin
 have hki:zhd ks z=ks:=by simp [zhd,hin]
 have hri:zh2 ks rs z (zf4 r c)=rs:=by simp [zh2,hin]
 refine Ev.of ⟨Tryz.func152,by kernel_rfl,rfl,by kernel_rfl⟩ za4 mixed (by show 5≤Tryz.f152.ntmps; decide) ?_
 refine W.r fun K hK=>?_
 simp(disch:=omega)only[↓RU,RV,RH,↓reduceIte,qE,reduceCtorEq,if_pos,↓RS,RG,qA,qM,qL]
 apply hK;clear hK K
 refine W.seq_draw (by kernel_rfl) fun K hK=>?_
 simp(disch:=omega)only[↓RU,RV,RH,↓reduceIte,qE,reduceCtorEq,if_pos,↓RS,RG,qA,qM,qL,ty0,zab,ty8,zaa,z9b,hrow,hz,zuu,hfs]
 apply hK;clear hK K
 refine W.joinS [0,1,2,3,4,8] (fun vs S=>∃ vq t:Nat,vs=[.int .i64 (r:Nat),.int .i64 (c:Nat),.ref 5 5 0,.ref 0 0 0,.ref 3 3 0,.int .i64 ((ks.idxOf z:Nat):Int)]∧S=⟨[.arr 0 98 1 [zd0 g],.arr 1 3 1 [.int .i64 w],.arr 2 101 2 [.nils,.loc 8 vq 0 ((zh2 ks rs z (zf4 r c))).length],.arr 3 49 1 [.ref 2 2 0],.map 4 (mE (zhd ks z)),.arr 5 170 1 [.mp 4 4],.arr xv 24 1 (gcs d (.loc 7 yv 0 w) m),.arr yv 3 1 (y.map (.int .i64)),.arr vq 55 4 (rcs (zh2 ks rs z (zf4 r c)))],t⟩) ?_ ?_
 ·
  refine W.r fun K hK=>?_
  simp(disch:=omega)only[↓RU,RV,RH,↓reduceIte,qE,reduceCtorEq,if_pos,↓RS,RG,qA,qM,qL]
  apply hK;clear hK K
  refine W.cond rfl (fun h=>?_) (fun h=>?_)
  ·try simp only[RL]at h
   exact absurd h (by simp)
  try simp only[RL]at h
  refine W.skip ?_
  refine xn ?_
  refine ⟨9,[],[.int .i64 (r:Nat),.int .i64 (c:Nat),.ref 5 5 0,.ref 0 0 0,.ref 3 3 0,.int .i64 ((ks.idxOf z:Nat):Int)],⟨[.arr 0 98 1 [zd0 g],.arr 1 3 1 [.int .i64 w],.arr 2 101 2 [.nils,.loc 8 vq 0 ((zh2 ks rs z (zf4 r c))).length],.arr 3 49 1 [.ref 2 2 0],.map 4 (mE (zhd ks z)),.arr 5 170 1 [.mp 4 4],.arr xv 24 1 (gcs d (.loc 7 yv 0 w) m),.arr yv 3 1 (y.map (.int .i64)),.arr vq 55 4 (rcs (zh2 ks rs z (zf4 r c)))],(t+1)⟩,?_,?_,vq,t+1,rfl,rfl⟩
  ·simp [-qU,Env.put,Env.of,zad,za2,zac,zai,zak,zam,za3,za8,zbz,za7,zat,za9,zby,zb0,zav,zau,zan,za6,zba,zbx,zar,zaq,zal,zas,za5,zc9,qS,qP,qC]
  rw [hki,hri]; simp [-qU,Env.put,Env.of,zad,za2,zac,zai,zak,zam,za3,za8,zbz,za7,zat,za9,zby,zb0,zav,zau,zan,za6,zba,zbx,zar,zaq,zal,zas,za5,zc9,qS,qP,qC,zxo,znc,zg1,zvy]
 rintro vs S - ⟨vq,t,rfl,rfl⟩
 have hrs2:=zxt hb
 generalize hks1:zhd ks z=ks1 at hi1 hst
 generalize hrs1:zh2 ks rs z (zf4 r c)=rs1 at hb hi1 hi2 hrs2
 have hbl:=zci hb
 refine W.seq_draw (by kernel_rfl) fun K hK=>?_
 have hcell:=(zda (r:=r) (c:=c)).symm
 have hba:PV.agg b.cells=zp7 b:=rfl
 simp(disch:=omega)only[↓RU,RV,RH,↓reduceIte,qE,reduceCtorEq,if_pos,qN,↓RS,RG,qA,qM,qL,ty0,ty1,zab,ty5,ty7,ty8,zbg,zaa,zfp,zbh,zji hb,zbn,← zda,hcell,zbi,zbl,ziz]
 refine zag.pc (zjm (b:=b) (o:=zf4 r c) hbf.in_ (zen hr hc).in_) rfl (.inl rfl) ?_
 simp(disch:=omega)only[↓RU,RV,RH,↓reduceIte,qE,reduceCtorEq,if_pos,qN,↓RS,RG,qA,qM,qL,ty0,ty1,zab,ty5,ty7,ty8,zbg,zaa,zfp,zbh,zji hb,zbn,← zda,hcell,zbi,zbl,ziz]
 apply hK;clear hK K
 refine W.r fun K hK=>?_
 simp(disch:=omega)only[↓RU,RV,RH,↓reduceIte,qE,reduceCtorEq,if_pos,↓RS,RG,qA,qM,qL]
 apply hK;clear hK K
 refine W.ret ?_
 refine Br rfl ?_
 refine ⟨9,rfl,vq,t,?_⟩
 rw [hrs2]
 simp [zch]
theorem zmh {g d:List (List Int)} {y:List Int} {row ks:List Int} {rs:List Rect} {z:Int} {r c w m xv yv vq t:Nat} (hr:r<6) (hc:c<6) (hrow:g[r]?=some row) (hz:row[c]?=some z) (hs:zqe ks rs) (hk:ks.length≤64) (hn:rs=[]) (hn2:ks=[]):Ev Tryz.prog 152 [.int .i64 (r:Nat),.int .i64 (c:Nat),.ref 5 5 0,.ref 0 0 0,.ref 3 3 0] ⟨[.arr 0 98 1 [zd0 g],.arr 1 3 1 [.int .i64 w],.arr 2 101 2 [.nils,.nils],.arr 3 49 1 [.ref 2 2 0],.map 4 (mE ks),.arr 5 170 1 [.mp 4 4],.arr xv 24 1 (gcs d (.loc 7 yv 0 w) m),.arr yv 3 1 (y.map (.int .i64))],t⟩ fun v S=>v = .int .i64 ((ks.idxOf z:Nat):Int)∧∃ vq t:Nat,S=⟨[.arr 0 98 1 [zd0 g],.arr 1 3 1 [.int .i64 w],.arr 2 101 2 [.nils,.loc 8 vq 0 ((zn8 ks rs z (zf4 r c))).length],.arr 3 49 1 [.ref 2 2 0],.map 4 (mE (zhd ks z)),.arr 5 170 1 [.mp 4 4],.arr xv 24 1 (gcs d (.loc 7 yv 0 w) m),.arr yv 3 1 (y.map (.int .i64)),.arr vq 55 4 (rcs (zn8 ks rs z (zf4 r c)))],t⟩:=by
 have hin:ks.idxOf z=ks.length:=by rw [hn2]; rfl
 have hrl:=zci hrow
 have hcl:=zci hz
 have hgl:g.length=g.length:=rfl
 obtain ⟨hi1,hi2,b,hb,hbf⟩:=hs.in_ (z:=z) (zen hr hc)
 have hil:=zgu (ks:=ks) (z:=z)
 have hsl:=hs.1
 have hst:=hs.step (z:=z) (zen hr hc)
 have hfn:=zm0 hin
 have hki:zhd ks z=ks++[z]:=by simp [zhd,hin]
 have hri:zh2 ks rs z (zf4 r c)=rs++[zf4 r c]:=by simp [zh2,hin]
 refine Ev.of ⟨Tryz.func152,by kernel_rfl,rfl,by kernel_rfl⟩ za4 mixed (by show 5≤Tryz.f152.ntmps; decide) ?_
 refine W.r fun K hK=>?_
 simp(disch:=omega)only[↓RU,RV,RH,↓reduceIte,qE,reduceCtorEq,if_pos,↓RS,RG,qA,qM,qL]
 apply hK;clear hK K
 refine W.seq_draw (by kernel_rfl) fun K hK=>?_
 simp(disch:=omega)only[↓RU,RV,RH,↓reduceIte,qE,reduceCtorEq,if_pos,↓RS,RG,qA,qM,qL,ty0,zab,ty8,zaa,z9b,hrow,hz,zuu,hfn]
 apply hK;clear hK K
 refine W.joinS [0,1,2,3,4,8] (fun vs S=>∃ vq t:Nat,vs=[.int .i64 (r:Nat),.int .i64 (c:Nat),.ref 5 5 0,.ref 0 0 0,.ref 3 3 0,.int .i64 ((ks.idxOf z:Nat):Int)]∧S=⟨[.arr 0 98 1 [zd0 g],.arr 1 3 1 [.int .i64 w],.arr 2 101 2 [.nils,.loc 8 vq 0 ((zh2 ks rs z (zf4 r c))).length],.arr 3 49 1 [.ref 2 2 0],.map 4 (mE (zhd ks z)),.arr 5 170 1 [.mp 4 4],.arr xv 24 1 (gcs d (.loc 7 yv 0 w) m),.arr yv 3 1 (y.map (.int .i64)),.arr vq 55 4 (rcs (zh2 ks rs z (zf4 r c)))],t⟩) ?_ ?_
 ·
  refine W.r fun K hK=>?_
  simp(disch:=omega)only[↓RU,RV,RH,↓reduceIte,qE,reduceCtorEq,if_pos,↓RS,RG,qA,qM,qL]
  apply hK;clear hK K
  refine W.cond rfl (fun h=>?_) (fun h=>?_)
  ·try simp only[RL]at h
   refine W.r fun K hK=>?_
   simp(disch:=omega)only[↓RU,RV,RH,↓reduceIte,qE,reduceCtorEq,if_pos,↓RS,RG,qA,qM,qL,zaa,z9b,zuu]
   apply hK;clear hK K
   refine W.seq_draw (by kernel_rfl) fun K hK=>?_
   simp(disch:=omega)only[↓RU,RV,RH,↓reduceIte,qE,reduceCtorEq,if_pos,↓RS,RG,qA,qM,qL,ty0,zab,ty8,zaa,z9b,hrow,hz,hfn,zum]
   apply hK;clear hK K
   refine W.region_pk 10 [some 35,some 36,some 37,some 38,some 39] [2,3] (by decide) (by kernel_rfl) fun K hK=>?_
   simp only[List.take_succ_cons,List.take_zero,List.drop_succ_cons,List.drop_zero]
   refine za0 (.ref 2 2 0) rfl rfl rfl (fun S' hS=>?_) ?_
   ·skip
    have k2:=(hS 2 (by decide)).trans (show _=some _ from rfl)
    have k3:=(hS 3 (by decide)).trans (show _=some _ from rfl)
    simp(disch:=omega)only[↓RU,RV,RH,↓reduceIte,qE,reduceCtorEq,if_pos,↓RS,RG,qA,qM,qL,ty0,ty1,zab,ty5,ty7,ty8,zbg,zaa,zfp,zbh,zbn,zbi,zbl,zbv,zco,zdh,zdi,k2,k3]
   refine za0 (.ref 2 2 0) rfl rfl rfl (fun S' hS=>?_) ?_
   ·skip
    have k2:=(hS 2 (by decide)).trans (show _=some _ from rfl)
    have k3:=(hS 3 (by decide)).trans (show _=some _ from rfl)
    simp(disch:=omega)only[↓RU,RV,RH,↓reduceIte,qE,reduceCtorEq,if_pos,↓RS,RG,qA,qM,qL,ty0,ty1,zab,ty5,ty7,ty8,zbg,zaa,zfp,zbh,zbn,zbi,zbl,zbv,zco,zdh,zdi,k2,k3]
   refine za0 (.ref 2 2 0) rfl rfl rfl (fun S' hS=>?_) ?_
   ·skip
    have k2:=(hS 2 (by decide)).trans (show _=some _ from rfl)
    have k3:=(hS 3 (by decide)).trans (show _=some _ from rfl)
    simp(disch:=omega)only[↓RU,RV,RH,↓reduceIte,qE,reduceCtorEq,if_pos,↓RS,RG,qA,qM,qL,ty0,ty1,zab,ty5,ty7,ty8,zbg,zaa,zfp,zbh,zbn,zbi,zbl,zbv,zco,zdh,zdi,k2,k3]
   refine za0 (.ref 2 2 1) rfl rfl rfl (fun S' hS=>?_) ?_
   ·skip
    have k2:=(hS 2 (by decide)).trans (show _=some _ from rfl)
    have k3:=(hS 3 (by decide)).trans (show _=some _ from rfl)
    simp(disch:=omega)only[↓RU,RV,RH,↓reduceIte,qE,reduceCtorEq,if_pos,↓RS,RG,qA,qM,qL,ty0,ty1,zab,ty5,ty7,ty8,zbg,zaa,zfp,zbh,zbn,zbi,zbl,zbv,zco,zdh,zdi,k2,k3]
   refine za0 (.nils) rfl rfl rfl (fun S' hS=>?_) ?_
   ·skip
    have k2:=(hS 2 (by decide)).trans (show _=some _ from rfl)
    have k3:=(hS 3 (by decide)).trans (show _=some _ from rfl)
    simp(disch:=omega)only[↓RU,RV,RH,↓reduceIte,qE,reduceCtorEq,if_pos,↓RS,RG,qA,qM,qL,ty0,ty1,zab,ty5,ty7,ty8,zbg,zaa,zfp,zbh,zbn,zbi,zbl,zbv,zco,zdh,zdi,k2,k3]
   refine zbb rfl ?_
   simp(disch:=omega)only[↓RU,RV,RH,↓reduceIte,qE,reduceCtorEq,if_pos,↓RS,RG,qA,qM,qL,ty0,ty1,zab,ty5,ty7,ty8,zbg,zaa,zfp,zbh,zbn,zbi,zbl,zap,zaz]
   refine zbb rfl ?_
   simp(disch:=omega)only[↓RU,RV,RH,↓reduceIte,qE,reduceCtorEq,if_pos,↓RS,RG,qA,qM,qL,ty0,ty1,zab,ty5,ty7,ty8,zbg,zaa,zfp,zbh,zbn,zbi,zbl,zap,zaz]
   refine zbb rfl ?_
   simp(disch:=omega)only[↓RU,RV,RH,↓reduceIte,qE,reduceCtorEq,if_pos,↓RS,RG,qA,qM,qL,ty0,ty1,zab,ty5,ty7,ty8,zbg,zaa,zfp,zbh,zbn,zbi,zbl,zap,zaz]
   refine zbb rfl ?_
   simp(disch:=omega)only[↓RU,RV,RH,↓reduceIte,qE,reduceCtorEq,if_pos,↓RS,RG,qA,qM,qL,ty0,ty1,zab,ty5,ty7,ty8,zbg,zaa,zfp,zbh,zbn,zbi,zbl,zap,zaz]
   refine zbb rfl ?_
   simp(disch:=omega)only[↓RU,RV,RH,↓reduceIte,qE,reduceCtorEq,if_pos,↓RS,RG,qA,qM,qL,ty0,ty1,zab,ty5,ty7,ty8,zbg,zaa,zfp,zbh,zbn,zbi,zbl,zap,zaz]
   refine ze9 ?_
   simp(disch:=omega)only[↓RU,RV,RH,↓reduceIte,qE,reduceCtorEq,if_pos,↓RS,RG,qA,qM,qL,ty0,ty1,zab,ty5,ty7,ty8,zbg,zaa,zfp,zbh,zbn,zbi,zbl]
   apply hK;clear hK K
   refine xn ?_
   refine ⟨8,[9],[.int .i64 (r:Nat),.int .i64 (c:Nat),.ref 5 5 0,.ref 0 0 0,.ref 3 3 0,.int .i64 ((ks.idxOf z:Nat):Int)],⟨[.arr 0 98 1 [zd0 g],.arr 1 3 1 [.int .i64 w],.arr 2 101 2 [.nils,.loc 8 (t+2) 0 ((zh2 ks rs z (zf4 r c))).length],.arr 3 49 1 [.ref 2 2 0],.map 4 (mE (zhd ks z)),.arr 5 170 1 [.mp 4 4],.arr xv 24 1 (gcs d (.loc 7 yv 0 w) m),.arr yv 3 1 (y.map (.int .i64)),.arr (t+2) 55 4 (rcs (zh2 ks rs z (zf4 r c)))],(t+3)⟩,?_,?_,(t+2),(t+3),rfl,rfl⟩
   ·rw [hin]; simp [-qU,Env.put,Env.of,zad,za2,zac,zai,zak,zam,za3,za8,zbz,za7,zat,za9,zby,zb0,zav,zau,zan,za6,zba,zbx,zar,zaq,zal,zas,za5,zc9,qS,qP,qC]
   rw [hki,hri,hn]; simp [-qU,Env.put,Env.of,zad,za2,zac,zai,zak,zam,za3,za8,zbz,za7,zat,za9,zby,zb0,zav,zau,zan,za6,zba,zbx,zar,zaq,zal,zas,za5,zc9,qS,qP,qC,zxo,znc,zg1,zvy,z8t,zsu,z4n,zda,z8y]
  try simp only[RL]at h
  exact absurd h (by simp)
 rintro vs S - ⟨vq,t,rfl,rfl⟩
 have hrs2:=zxt hb
 generalize hks1:zhd ks z=ks1 at hi1 hst
 generalize hrs1:zh2 ks rs z (zf4 r c)=rs1 at hb hi1 hi2 hrs2
 have hbl:=zci hb
 refine W.seq_draw (by kernel_rfl) fun K hK=>?_
 have hcell:=(zda (r:=r) (c:=c)).symm
 have hba:PV.agg b.cells=zp7 b:=rfl
 simp(disch:=omega)only[↓RU,RV,RH,↓reduceIte,qE,reduceCtorEq,if_pos,qN,↓RS,RG,qA,qM,qL,ty0,ty1,zab,ty5,ty7,ty8,zbg,zaa,zfp,zbh,zji hb,zbn,← zda,hcell,zbi,zbl,ziz]
 refine zag.pc (zjm (b:=b) (o:=zf4 r c) hbf.in_ (zen hr hc).in_) rfl (.inl rfl) ?_
 simp(disch:=omega)only[↓RU,RV,RH,↓reduceIte,qE,reduceCtorEq,if_pos,qN,↓RS,RG,qA,qM,qL,ty0,ty1,zab,ty5,ty7,ty8,zbg,zaa,zfp,zbh,zji hb,zbn,← zda,hcell,zbi,zbl,ziz]
 apply hK;clear hK K
 refine W.r fun K hK=>?_
 simp(disch:=omega)only[↓RU,RV,RH,↓reduceIte,qE,reduceCtorEq,if_pos,↓RS,RG,qA,qM,qL]
 apply hK;clear hK K
 refine W.ret ?_
 refine Br rfl ?_
 refine ⟨9,rfl,vq,t,?_⟩
 rw [hrs2]
 simp [zch]
theorem zpt {g d:List (List Int)} {y:List Int} {row ks:List Int} {rs:List Rect} {z:Int} {r c w m xv yv vq t:Nat} (hr:r<6) (hc:c<6) (hrow:g[r]?=some row) (hz:row[c]?=some z) (hs:zqe ks rs) (hk:ks.length≤64) (hin:ks.idxOf z=ks.length):Ev Tryz.prog 152 [.int .i64 (r:Nat),.int .i64 (c:Nat),.ref 5 5 0,.ref 0 0 0,.ref 3 3 0] ⟨[.arr 0 98 1 [zd0 g],.arr 1 3 1 [.int .i64 w],.arr 2 101 2 [.nils,.loc 8 vq 0 (rs).length],.arr 3 49 1 [.ref 2 2 0],.map 4 (mE ks),.arr 5 170 1 [.mp 4 4],.arr xv 24 1 (gcs d (.loc 7 yv 0 w) m),.arr yv 3 1 (y.map (.int .i64)),.arr vq 55 4 (rcs rs)],t⟩ fun v S=>v = .int .i64 ((ks.idxOf z:Nat):Int)∧∃ vq t:Nat,S=⟨[.arr 0 98 1 [zd0 g],.arr 1 3 1 [.int .i64 w],.arr 2 101 2 [.nils,.loc 8 vq 0 ((zn8 ks rs z (zf4 r c))).length],.arr 3 49 1 [.ref 2 2 0],.map 4 (mE (zhd ks z)),.arr 5 170 1 [.mp 4 4],.arr xv 24 1 (gcs d (.loc 7 yv 0 w) m),.arr yv 3 1 (y.map (.int .i64)),.arr vq 55 4 (rcs (zn8 ks rs z (zf4 r c)))],t⟩:=by
 have hrl:=zci hrow
 have hcl:=zci hz
 have hgl:g.length=g.length:=rfl
 obtain ⟨hi1,hi2,b,hb,hbf⟩:=hs.in_ (z:=z) (zen hr hc)
 have hil:=zgu (ks:=ks) (z:=z)
 have hsl:=hs.1
 have hst:=hs.step (z:=z) (zen hr hc)
 have hfn:=zm0 hin
 have hki:zhd ks z=ks++[z]:=by simp [zhd,hin]
 have hri:zh2 ks rs z (zf4 r c)=rs++[zf4 r c]:=by simp [zh2,hin]
 refine Ev.of ⟨Tryz.func152,by kernel_rfl,rfl,by kernel_rfl⟩ za4 mixed (by show 5≤Tryz.f152.ntmps; decide) ?_
 refine W.r fun K hK=>?_
 simp(disch:=omega)only[↓RU,RV,RH,↓reduceIte,qE,reduceCtorEq,if_pos,↓RS,RG,qA,qM,qL]
 apply hK;clear hK K
 refine W.seq_draw (by kernel_rfl) fun K hK=>?_
 simp(disch:=omega)only[↓RU,RV,RH,↓reduceIte,qE,reduceCtorEq,if_pos,↓RS,RG,qA,qM,qL,ty0,zab,ty8,zaa,z9b,hrow,hz,zuu,hfn]
 apply hK;clear hK K
 refine W.joinS [0,1,2,3,4,8] (fun vs S=>∃ vq t:Nat,vs=[.int .i64 (r:Nat),.int .i64 (c:Nat),.ref 5 5 0,.ref 0 0 0,.ref 3 3 0,.int .i64 ((ks.idxOf z:Nat):Int)]∧S=⟨[.arr 0 98 1 [zd0 g],.arr 1 3 1 [.int .i64 w],.arr 2 101 2 [.nils,.loc 8 vq 0 ((zh2 ks rs z (zf4 r c))).length],.arr 3 49 1 [.ref 2 2 0],.map 4 (mE (zhd ks z)),.arr 5 170 1 [.mp 4 4],.arr xv 24 1 (gcs d (.loc 7 yv 0 w) m),.arr yv 3 1 (y.map (.int .i64)),.arr vq 55 4 (rcs (zh2 ks rs z (zf4 r c)))],t⟩) ?_ ?_
 ·
  refine W.r fun K hK=>?_
  simp(disch:=omega)only[↓RU,RV,RH,↓reduceIte,qE,reduceCtorEq,if_pos,↓RS,RG,qA,qM,qL]
  apply hK;clear hK K
  refine W.cond rfl (fun h=>?_) (fun h=>?_)
  ·try simp only[RL]at h
   refine W.r fun K hK=>?_
   simp(disch:=omega)only[↓RU,RV,RH,↓reduceIte,qE,reduceCtorEq,if_pos,↓RS,RG,qA,qM,qL,zaa,z9b,zuu]
   apply hK;clear hK K
   refine W.seq_draw (by kernel_rfl) fun K hK=>?_
   simp(disch:=omega)only[↓RU,RV,RH,↓reduceIte,qE,reduceCtorEq,if_pos,↓RS,RG,qA,qM,qL,ty0,zab,ty8,zaa,z9b,hrow,hz,hfn,zum]
   apply hK;clear hK K
   refine W.region_pk 10 [some 35,some 36,some 37,some 38,some 39] [2,3] (by decide) (by kernel_rfl) fun K hK=>?_
   simp only[List.take_succ_cons,List.take_zero,List.drop_succ_cons,List.drop_zero]
   refine za0 (.ref 2 2 0) rfl rfl rfl (fun S' hS=>?_) ?_
   ·skip
    have k2:=(hS 2 (by decide)).trans (show _=some _ from rfl)
    have k3:=(hS 3 (by decide)).trans (show _=some _ from rfl)
    simp(disch:=omega)only[↓RU,RV,RH,↓reduceIte,qE,reduceCtorEq,if_pos,↓RS,RG,qA,qM,qL,ty0,ty1,zab,ty5,ty7,ty8,zbg,zaa,zfp,zbh,zbn,zbi,zbl,zbv,zco,zdh,zdi,k2,k3]
   refine za0 (.ref 2 2 0) rfl rfl rfl (fun S' hS=>?_) ?_
   ·skip
    have k2:=(hS 2 (by decide)).trans (show _=some _ from rfl)
    have k3:=(hS 3 (by decide)).trans (show _=some _ from rfl)
    simp(disch:=omega)only[↓RU,RV,RH,↓reduceIte,qE,reduceCtorEq,if_pos,↓RS,RG,qA,qM,qL,ty0,ty1,zab,ty5,ty7,ty8,zbg,zaa,zfp,zbh,zbn,zbi,zbl,zbv,zco,zdh,zdi,k2,k3]
   refine za0 (.ref 2 2 0) rfl rfl rfl (fun S' hS=>?_) ?_
   ·skip
    have k2:=(hS 2 (by decide)).trans (show _=some _ from rfl)
    have k3:=(hS 3 (by decide)).trans (show _=some _ from rfl)
    simp(disch:=omega)only[↓RU,RV,RH,↓reduceIte,qE,reduceCtorEq,if_pos,↓RS,RG,qA,qM,qL,ty0,ty1,zab,ty5,ty7,ty8,zbg,zaa,zfp,zbh,zbn,zbi,zbl,zbv,zco,zdh,zdi,k2,k3]
   refine za0 (.ref 2 2 1) rfl rfl rfl (fun S' hS=>?_) ?_
   ·skip
    have k2:=(hS 2 (by decide)).trans (show _=some _ from rfl)
    have k3:=(hS 3 (by decide)).trans (show _=some _ from rfl)
    simp(disch:=omega)only[↓RU,RV,RH,↓reduceIte,qE,reduceCtorEq,if_pos,↓RS,RG,qA,qM,qL,ty0,ty1,zab,ty5,ty7,ty8,zbg,zaa,zfp,zbh,zbn,zbi,zbl,zbv,zco,zdh,zdi,k2,k3]
   refine za0 (.loc 8 vq 0 rs.length) rfl rfl rfl (fun S' hS=>?_) ?_
   ·skip
    have k2:=(hS 2 (by decide)).trans (show _=some _ from rfl)
    have k3:=(hS 3 (by decide)).trans (show _=some _ from rfl)
    simp(disch:=omega)only[↓RU,RV,RH,↓reduceIte,qE,reduceCtorEq,if_pos,↓RS,RG,qA,qM,qL,ty0,ty1,zab,ty5,ty7,ty8,zbg,zaa,zfp,zbh,zbn,zbi,zbl,zbv,zco,zdh,zdi,k2,k3]
   refine zbb rfl ?_
   simp(disch:=omega)only[↓RU,RV,RH,↓reduceIte,qE,reduceCtorEq,if_pos,↓RS,RG,qA,qM,qL,ty0,ty1,zab,ty5,ty7,ty8,zbg,zaa,zfp,zbh,zbn,zbi,zbl,zap,zaz]
   refine zbb rfl ?_
   simp(disch:=omega)only[↓RU,RV,RH,↓reduceIte,qE,reduceCtorEq,if_pos,↓RS,RG,qA,qM,qL,ty0,ty1,zab,ty5,ty7,ty8,zbg,zaa,zfp,zbh,zbn,zbi,zbl,zap,zaz]
   refine zbb rfl ?_
   simp(disch:=omega)only[↓RU,RV,RH,↓reduceIte,qE,reduceCtorEq,if_pos,↓RS,RG,qA,qM,qL,ty0,ty1,zab,ty5,ty7,ty8,zbg,zaa,zfp,zbh,zbn,zbi,zbl,zap,zaz]
   refine zbb rfl ?_
   simp(disch:=omega)only[↓RU,RV,RH,↓reduceIte,qE,reduceCtorEq,if_pos,↓RS,RG,qA,qM,qL,ty0,ty1,zab,ty5,ty7,ty8,zbg,zaa,zfp,zbh,zbn,zbi,zbl,zap,zaz]
   refine zbb rfl ?_
   simp(disch:=omega)only[↓RU,RV,RH,↓reduceIte,qE,reduceCtorEq,if_pos,↓RS,RG,qA,qM,qL,ty0,ty1,zab,ty5,ty7,ty8,zbg,zaa,zfp,zbh,zbn,zbi,zbl,zap,zaz]
   refine ze9 ?_
   simp(disch:=omega)only[↓RU,RV,RH,↓reduceIte,qE,reduceCtorEq,if_pos,↓RS,RG,qA,qM,qL,ty0,ty1,zab,ty5,ty7,ty8,zbg,zaa,zfp,zbh,zbn,zbi,zbl]
   apply hK;clear hK K
   refine xn ?_
   refine ⟨9,[],[.int .i64 (r:Nat),.int .i64 (c:Nat),.ref 5 5 0,.ref 0 0 0,.ref 3 3 0,.int .i64 ((ks.idxOf z:Nat):Int)],⟨[.arr 0 98 1 [zd0 g],.arr 1 3 1 [.int .i64 w],.arr 2 101 2 [.nils,.loc 8 (t+1) 0 ((zh2 ks rs z (zf4 r c))).length],.arr 3 49 1 [.ref 2 2 0],.map 4 (mE (zhd ks z)),.arr 5 170 1 [.mp 4 4],.arr xv 24 1 (gcs d (.loc 7 yv 0 w) m),.arr yv 3 1 (y.map (.int .i64)),.arr (t+1) 55 4 (rcs (zh2 ks rs z (zf4 r c)))],(t+3)⟩,?_,?_,(t+1),(t+3),rfl,rfl⟩
   ·rw [hin]; simp [-qU,Env.put,Env.of,zad,za2,zac,zai,zak,zam,za3,za8,zbz,za7,zat,za9,zby,zb0,zav,zau,zan,za6,zba,zbx,zar,zaq,zal,zas,za5,zc9,qS,qP,qC]
   rw [hki,hri]; simp [-qU,Env.put,Env.of,zad,za2,zac,zai,zak,zam,za3,za8,zbz,za7,zat,za9,zby,zb0,zav,zau,zan,za6,zba,zbx,zar,zaq,zal,zas,za5,zc9,qS,qP,qC,zxo,znc,zg1,zvy,z8t,zsu,z4n,zda,z8y]
  try simp only[RL]at h
  exact absurd h (by simp)
 rintro vs S - ⟨vq,t,rfl,rfl⟩
 have hrs2:=zxt hb
 generalize hks1:zhd ks z=ks1 at hi1 hst
 generalize hrs1:zh2 ks rs z (zf4 r c)=rs1 at hb hi1 hi2 hrs2
 have hbl:=zci hb
 refine W.seq_draw (by kernel_rfl) fun K hK=>?_
 have hcell:=(zda (r:=r) (c:=c)).symm
 have hba:PV.agg b.cells=zp7 b:=rfl
 simp(disch:=omega)only[↓RU,RV,RH,↓reduceIte,qE,reduceCtorEq,if_pos,qN,↓RS,RG,qA,qM,qL,ty0,ty1,zab,ty5,ty7,ty8,zbg,zaa,zfp,zbh,zji hb,zbn,← zda,hcell,zbi,zbl,ziz]
 refine zag.pc (zjm (b:=b) (o:=zf4 r c) hbf.in_ (zen hr hc).in_) rfl (.inl rfl) ?_
 simp(disch:=omega)only[↓RU,RV,RH,↓reduceIte,qE,reduceCtorEq,if_pos,qN,↓RS,RG,qA,qM,qL,ty0,ty1,zab,ty5,ty7,ty8,zbg,zaa,zfp,zbh,zji hb,zbn,← zda,hcell,zbi,zbl,ziz]
 apply hK;clear hK K
 refine W.r fun K hK=>?_
 simp(disch:=omega)only[↓RU,RV,RH,↓reduceIte,qE,reduceCtorEq,if_pos,↓RS,RG,qA,qM,qL]
 apply hK;clear hK K
 refine W.ret ?_
 refine Br rfl ?_
 refine ⟨9,rfl,vq,t,?_⟩
 rw [hrs2]
 simp [zch]
section
def prS (g:List (List Int)) (w:Nat) (rv:PV) (ks:List Int):List Ob:=[.arr 0 98 1 [zd0 g],.arr 1 3 1 [.int .i64 w],.arr 2 101 2 [.nils,rv],.arr 3 49 1 [.ref 2 2 0],.map 4 (mE ks),.arr 5 170 1 [.mp 4 4]]
def seS (g:List (List Int)) (w:Nat) (xv yv:Nat) (x y:List PV) (ks:List Int) (rs:List Rect) (vq t:Nat):Store :=
 match rs with
 | []=>⟨prS g w .nils ks++[.arr xv 24 1 x,.arr yv 3 1 y],t⟩
 | rs=>⟨prS g w (.loc 8 vq 0 rs.length) ks++[.arr xv 24 1 x,.arr yv 3 1 y,.arr vq 55 4 (rcs rs)],t⟩
theorem z5a {g:List (List Int)} {w xv yv:Nat} {x y:List PV} {ks:List Int} {vq t:Nat}:seS g w xv yv x y ks [] vq t=⟨prS g w .nils ks++[.arr xv 24 1 x,.arr yv 3 1 y],t⟩:=rfl
theorem zz5 {g:List (List Int)} {w xv yv:Nat} {x y:List PV} {ks:List Int} {rs:List Rect} {vq t:Nat} (h:rs≠[]):seS g w xv yv x y ks rs vq t=⟨prS g w (.loc 8 vq 0 rs.length) ks++[.arr xv 24 1 x,.arr yv 3 1 y,.arr vq 55 4 (rcs rs)],t⟩:=by
 cases rs with
 | nil=>exact absurd rfl h
 | cons a l=>rfl
section
variable {g:List (List Int)} {w xv yv:Nat} {x y y2:List PV} {ks:List Int} {rs:List Rect} {vq t:Nat}
theorem zdm:(seS g w xv yv x y ks rs vq t).obs[6]?=some (.arr xv 24 1 x):=by cases rs <;> rfl
theorem zd6:(seS g w xv yv x y ks rs vq t).obs[7]?=some (.arr yv 3 1 y):=by cases rs <;> rfl
theorem zgm:(seS g w xv yv x y ks rs vq t).set 7 (.arr yv 3 1 y2)=seS g w xv yv x y2 ks rs vq t:=by cases rs <;> rfl
end
theorem z81 {S:Store} {k f:Nat} {sel:List Nat} {n:Nat} {q:IntKind} {z:Int}:(List.replicate n (PV.int q z)).mapM (rn S k sel (f+1))=some (List.replicate n (PV.int q z)) :=
 zce fun x hx=>by obtain rfl:=List.eq_of_mem_replicate hx; rfl
theorem z7o {S:Store} {k f:Nat} {sel:List Nat} {n:Nat}:(List.replicate n PV.nils).mapM (rn S k sel (f+1))=some (List.replicate n PV.nils) :=
 zce fun x hx=>by obtain rfl:=List.eq_of_mem_replicate hx; rfl
theorem yan {S:Store} {k f:Nat} {sel:List Nat} {d:List (List Int)} {cur:PV} {m:Nat}:(gcs d cur m).mapM (rn S k sel (f+1))=(rn S k sel (f+1) cur).map fun c=>gcs d c m:=by
 unfold gcs
 rw [qP,zce (l:=d.map eInts) (fun x hx=>by obtain ⟨a,_,rfl⟩:=List.mem_map.1 hx; rfl),qC,zce (l:=List.replicate m PV.nils) (fun x hx=>by obtain rfl:=List.eq_of_mem_replicate hx; rfl)]
 cases rn S k sel (f+1) cur <;> rfl
theorem z7m {S:Store} {fr:Nat→Bool} {f:Nat} {q:IntKind} (l:List Int):(l.map (PV.int q)).mapM (rfq S fr (f+1))=some (l.map (PV.int q)) :=
 zce fun x hx=>by obtain ⟨a,_,rfl⟩:=List.mem_map.1 hx; rfl
def seO (g:List (List Int)) (w:Nat) (xv:Nat) (x:List PV) (ks:List Int) (rs:List Rect) (vq t:Nat):Store :=
 match rs with
 | []=>⟨prS g w .nils ks++[.arr xv 24 1 x],t⟩
 | rs=>⟨prS g w (.loc 7 vq 0 rs.length) ks++[.arr xv 24 1 x,.arr vq 55 4 (rcs rs)],t⟩
theorem z48 {g:List (List Int)} {w xv:Nat} {x:List PV} {ks:List Int} {vq t:Nat}:seO g w xv x ks [] vq t=⟨prS g w .nils ks++[.arr xv 24 1 x],t⟩:=rfl
theorem z47 {g:List (List Int)} {w xv:Nat} {x:List PV} {ks:List Int} {rs:List Rect} {vq t:Nat} (h:rs≠[]):seO g w xv x ks rs vq t=⟨prS g w (.loc 7 vq 0 rs.length) ks++[.arr xv 24 1 x,.arr vq 55 4 (rcs rs)],t⟩:=by
 cases rs with
 | nil=>exact absurd rfl h
 | cons a l=>rfl
def zdb (g:List (List Int)) (i:Nat) (s:List Int × List Rect):Nat→List Int × List Rect
 | 0=>s
 | j+1=>(zhd (zdb g i s j).1 (gz g i j),zn8 (zdb g i s j).1 (zdb g i s j).2 (gz g i j) (zf4 i j))
def zay (g:List (List Int)) (nw:Nat):Nat→List Int × List Rect
 | 0=>([],[])
 | i+1=>zdb g i (zay g nw i) nw
def zmm (g:List (List Int)) (i:Nat) (s:List Int × List Rect):Nat→List Int
 | 0=>[]
 | j+1=>zmm g i s j++[(((zdb g i s j).1.idxOf (gz g i j):Nat):Int)]
def zd4 (g:List (List Int)) (nw:Nat):Nat→List (List Int)
 | 0=>[]
 | i+1=>zd4 g nw i++[zmm g i (zay g nw i) nw]
theorem zeq {g:List (List Int)} {i:Nat} {s:List Int × List Rect}:∀ j,(zmm g i s j).length=j
 | 0=>rfl
 | j+1=>by simp [zmm,zeq j]
theorem z79 {g:List (List Int)} {i nw j:Nat} {s:List Int × List Rect} (h:j<nw):zmm g i s (j+1)++List.replicate (nw - (j+1)) 0=(zmm g i s j++List.replicate (nw - j) 0).set j (((zdb g i s j).1.idxOf (gz g i j):Nat):Int):=by
 obtain ⟨m,hm⟩:∃ m,nw - j=m+1:=⟨nw - j - 1,by omega⟩
 rw [hm,show nw - (j+1)=m by omega,List.set_append_right _ _ (by rw [zeq]; exact qR _),zeq,Nat.sub_self]
 simp [zmm,List.replicate_succ]
theorem zcu {g:List (List Int)} {nw:Nat}:∀ i,(zd4 g nw i).length=i
 | 0=>rfl
 | i+1=>by simp [zd4,zcu i]
theorem zz4 {ks:List Int} {z:Int}:(zhd ks z).length≤ks.length+1∧ks.length≤(zhd ks z).length∧1≤(zhd ks z).length:=by
 have h:=zgu (ks:=ks) (z:=z)
 unfold zhd
 split
 ·simp
 refine ⟨by omega,by omega,?_⟩
 have:ks.idxOf z≠ks.length:=by assumption
 omega
theorem zlb {g:List (List Int)} {i:Nat} (hi:i<6) {s:List Int × List Rect} (h:zqe s.1 s.2):∀ j,j≤6→zqe (zdb g i s j).1 (zdb g i s j).2∧(zdb g i s j).1.length≤s.1.length+j∧s.1.length≤(zdb g i s j).1.length∧(1≤j→1≤(zdb g i s j).1.length)
 | 0,_=>⟨h,by simp [zdb],by simp [zdb],by omega⟩
 | j+1,hj=>by
  obtain ⟨h1,h2,h3,h4⟩:=zlb hi h j (by omega)
  have:=zz4 (ks:=(zdb g i s j).1) (z:=gz g i j)
  exact ⟨h1.step (zen hi (by omega)),by simp only[zdb]; omega,by simp only[zdb]; omega,fun _=>by simp only[zdb]; omega⟩
theorem zfd {g:List (List Int)} {nw:Nat} (hw:nw≤6) (hw1:1≤nw):∀ i,i≤6→zqe (zay g nw i).1 (zay g nw i).2∧(zay g nw i).1.length≤6*i∧(1≤i→1≤(zay g nw i).1.length)
 | 0,_=>⟨zqe.nil,by simp [zay],by omega⟩
 | i+1,hi=>by
  obtain ⟨h1,h2,h3⟩:=zfd hw hw1 i (by omega)
  obtain ⟨k1,k2,k3,k4⟩:=zlb (g:=g) (i:=i) (by omega) h1 nw hw
  exact ⟨k1,by simp only[zay]; omega,fun _=>by simp only[zay]; exact k4 hw1⟩
theorem zqe.ne {ks:List Int} {rs:List Rect} (h:zqe ks rs) (h1:1≤ks.length):rs≠[]:=by
 rintro rfl
 have:=h.1
 simp at this; omega
theorem zqe.nl {ks:List Int} (h:zqe ks []):ks=[]:=List.eq_nil_of_length_eq_zero h.1.symm
theorem zfj {d:List (List Int)} {cur:PV} {m i:Nat} (h:d.length=i):(gcs d cur m)[i]?=some cur:=by subst h; simp [gcs]
theorem zfk {d:List (List Int)} {cur:PV} {m:Nat}:(gcs d cur m).length=d.length+1+m:=by simp [gcs]; omega
def gc0 (d:List (List Int)) (m:Nat):List PV:=d.map eInts++List.replicate m .nils
theorem z2o {d:List (List Int)} {m:Nat}:(gc0 d m).length=d.length+m:=by simp [gc0]
theorem z2p {d:List (List Int)} {m i:Nat} {c:PV} (h:d.length=i) (hm:1≤m):(gc0 d m).take i++[c]++(gc0 d m).drop (i+1)=gcs d c (m - 1):=by
 subst h
 obtain ⟨m,rfl⟩:∃ n,m=n+1:=⟨m - 1,by omega⟩
 simp only[gc0,gcs,Nat.add_sub_cancel]
 rw [show d.length=(d.map eInts).length by simp,List.take_left,List.drop_length_add_append]
 simp [List.replicate_succ]
theorem z90 {d:List (List Int)} {r:List Int} {m:Nat}:gcs d (eInts r) m=gc0 (d++[r]) m:=by simp [gcs,gc0]
theorem z9y {d:List (List Int)}:gc0 d 0=d.map eInts:=by simp [gc0]
theorem z9z {m:Nat}:gc0 [] m=List.replicate m .nils:=rfl
end
theorem zxv {g d:List (List Int)} {y:List Int} {row ks:List Int} {rs:List Rect} {z:Int} {r c w m xv yv vq t:Nat} (hr:r<6) (hc:c<6) (hrow:g[r]?=some row) (hz:row[c]?=some z) (hs:zqe ks rs) (hk:ks.length≤64) :
  Ev Tryz.prog 152 [.int .i64 (r:Nat),.int .i64 (c:Nat),.ref 5 5 0,.ref 0 0 0,.ref 3 3 0] (seS g w xv yv (gcs d (.loc 7 yv 0 w) m) (y.map (.int .i64)) ks rs vq t)
   fun v S=>v = .int .i64 ((ks.idxOf z:Nat):Int)∧∃ vq t:Nat,S=seS g w xv yv (gcs d (.loc 7 yv 0 w) m) (y.map (.int .i64)) (zhd ks z) (zn8 ks rs z (zf4 r c)) vq t:=by
 have hne:zn8 ks rs z (zf4 r c)≠[]:=(hs.step (z:=z) (zen hr hc)).ne zz4.2.2
 simp only[zz5 hne]
 by_cases h0:rs=[]
 ·subst h0
  rw [z5a]
  exact zmh (vq:=0) hr hc hrow hz hs hk rfl hs.nl
 rw [zz5 h0]
 by_cases hin:ks.idxOf z=ks.length
 ·exact zpt hr hc hrow hz hs hk hin
 exact zpu hr hc hrow hz hs hk hin
theorem z6g {g:List (List Int)} {nh nw:Nat} (hg:GW g nh nw):Ev Tryz.prog 99 [.int .i64 nh,.int .i64 nw,.fn 152 [.ref 5 5 0,.ref 0 0 0,.ref 3 3 0]] ⟨prS g nw .nils [],6⟩ fun v S=>∃ xv vq t:Nat,v = .loc 6 xv 0 nh∧S=seO g nw xv ((zd4 g nw nh).map eInts) (zay g nw nh).1 (zay g nw nh).2 vq t:=by
 have hl:=hg.1
 obtain ⟨hg1,hg2,hg3,hg4⟩:=hg.2.2
 refine Ev.of ⟨Tryz.func99,by kernel_rfl,rfl,by kernel_rfl⟩ za4 mixed (by show 3≤Tryz.f99.ntmps; decide) ?_
 refine W.r fun K hK=>?_
 simp(disch:=omega)only[↓RU,RV,RH,↓reduceIte,qE,reduceCtorEq,if_pos,↓RS,RG,qA,qM,qL,prS]
 apply hK;clear hK K
 refine W.r fun K hK=>?_
 simp(disch:=omega)only[↓RU,RV,RH,↓reduceIte,qE,reduceCtorEq,if_pos,↓RS,RG,qA,qM,qL,ty0,zab,ty8,zaa,prS,zvt,zfy,zhl]
 apply hK;clear hK K
 refine W.seq ?_
 refine W.r fun K hK=>?_
 simp(disch:=omega)only[↓RU,RV,RH,↓reduceIte,qE,reduceCtorEq,if_pos,↓RS,RG,qA,qM,qL,ty0,zab,ty8,zaa,prS]
 apply hK;clear hK K
 refine W.block ?_
 refine W.loopS [1,2,7,13,14] (fun n vs S=>∃ (i xv vq t:Nat),n=nh - i∧i≤nh∧vs=[.int .i64 nw,.fn 152 [.ref 5 5 0,.ref 0 0 0,.ref 3 3 0],.loc 6 xv 0 nh,.int .i64 nh,.int .i64 (i:Nat)]∧S=seO g nw xv (gc0 (zd4 g nw i) (nh - i)) (zay g nw i).1 (zay g nw i).2 vq t) nh ?_ ?_
 ·refine ⟨7,[],[.int .i64 nw,.fn 152 [.ref 5 5 0,.ref 0 0 0,.ref 3 3 0],.loc 6 6 0 nh,.int .i64 nh,.int .i64 (0:Nat)],seO g nw 6 (gc0 (zd4 g nw 0) (nh - 0)) (zay g nw 0).1 (zay g nw 0).2 0 8,?_,?_,0,6,0,8,rfl,Nat.zero_le _,rfl,rfl⟩
  ·simp [-qU,Env.put,Env.of,zad,za2,zac,zai,zak,zam,za3,za8,zbz,za7,zat,za9,zby,zb0,zav,zau,zan,za6,zba,zbx,zar,zaq,zal,zas,za5,zc9,qS,qP,qC]
  simp [-qU,Env.put,Env.of,zad,za2,zac,zai,zak,zam,za3,za8,zbz,za7,zat,za9,zby,zb0,zav,zau,zan,za6,zba,zbx,zar,zaq,zal,zas,za5,zc9,qS,qP,qC,prS,z48,zay,zd4,z9z,z7o,zxo]
 rintro n vs S - ⟨i,xv,vq,t,rfl,h_i,rfl,rfl⟩
 refine W.r fun K hK=>?_
 simp(disch:=omega)only[↓RU,RV,RH,↓reduceIte,qE,reduceCtorEq,if_pos,w64,↓RS,RG,qA,qM,qL,zaa,prS]
 apply hK;clear hK K
 refine W.seq ?_
 refine W.cond rfl (fun h=>?_) (fun h=>?_)
 ·try simp only[RL]at h
  have hzl:=zcu (g:=g) (nw:=nw) i
  have hiw:i<nh:=by omega
  obtain ⟨hso,hsl,hsp⟩:=zfd (g:=g) hg4 hg3 i (by omega)
  refine W.skip ?_
  refine xn ?_
  refine W.seq ?_
  refine W.block ?_
  refine W.r fun K hK=>?_
  simp(disch:=omega)only[↓RU,RV,RH,↓reduceIte,qE,reduceCtorEq,if_pos,↓RS,RG,qA,qM,qL,prS]
  apply hK;clear hK K
  refine W.joinS [1,2,7,8,13,14] (fun vs S=>∃ (yv vq t:Nat),vs=[.int .i64 nw,.fn 152 [.ref 5 5 0,.ref 0 0 0,.ref 3 3 0],.loc 6 xv 0 nh,.int .i64 (i:Nat),.int .i64 nh,.int .i64 (i:Nat)]∧S=seS g nw xv yv (gcs (zd4 g nw i) (.loc 7 yv 0 nw) (nh - i - 1)) ((List.replicate nw 0).map (.int .i64)) (zay g nw i).1 (zay g nw i).2 vq t) ?_ ?_
  ·
   refine W.k fun K hK=>?_
   by_cases hi0:zay g nw i=([],[])
   ·skip
    rw [hi0,z48]
    simp(disch:=omega)only[↓RU,RV,RH,↓reduceIte,qE,reduceCtorEq,if_pos,↓RS,RG,qA,qM,qL,ty0,zab,ty8,zaa,prS,zfy,zhl,z2o,zcu,z2p]
    apply hK;clear hK K
    refine xn ?_
    refine ⟨8,[],[.int .i64 nw,.fn 152 [.ref 5 5 0,.ref 0 0 0,.ref 3 3 0],.loc 6 xv 0 nh,.int .i64 (i:Nat),.int .i64 nh,.int .i64 (i:Nat)],seS g nw xv t (gcs (zd4 g nw i) (.loc 7 t 0 nw) (nh - i - 1)) ((List.replicate nw 0).map (.int .i64)) (zay g nw i).1 (zay g nw i).2 vq (t+2),?_,?_,t,vq,t+2,rfl,rfl⟩
    ·simp [-qU,Env.put,Env.of,zad,za2,zac,zai,zak,zam,za3,za8,zbz,za7,zat,za9,zby,zb0,zav,zau,zan,za6,zba,zbx,zar,zaq,zal,zas,za5,zc9,qS,qP,qC]
    rw [hi0,z5a]; simp [-qU,Env.put,Env.of,zad,za2,zac,zai,zak,zam,za3,za8,zbz,za7,zat,za9,zby,zb0,zav,zau,zan,za6,zba,zbx,zar,zaq,zal,zas,za5,zc9,qS,qP,qC,prS,zxo,znc,zg1,zvy,z81,show List.idxOf 7 [8,7]=1 from rfl]
   skip
   have hne:(zay g nw i).2≠[]:=fun e=>hi0 (by have:=hso; rw [e]at this; rw [← Prod.eta (zay g nw i),e,this.nl])
   rw [z47 hne]
   simp(disch:=omega)only[↓RU,RV,RH,↓reduceIte,qE,reduceCtorEq,if_pos,↓RS,RG,qA,qM,qL,ty0,zab,ty8,zaa,prS,zfy,zhl,z2o,zcu,z2p]
   apply hK;clear hK K
   refine xn ?_
   refine ⟨7,[8,7],[.int .i64 nw,.fn 152 [.ref 5 5 0,.ref 0 0 0,.ref 3 3 0],.loc 6 xv 0 nh,.int .i64 (i:Nat),.int .i64 nh,.int .i64 (i:Nat)],seS g nw xv (t+1) (gcs (zd4 g nw i) (.loc 7 (t+1) 0 nw) (nh - i - 1)) ((List.replicate nw 0).map (.int .i64)) (zay g nw i).1 (zay g nw i).2 (t+1) (t+2),?_,?_,t+1,t+1,t+2,rfl,rfl⟩
   ·simp [-qU,Env.put,Env.of,zad,za2,zac,zai,zak,zam,za3,za8,zbz,za7,zat,za9,zby,zb0,zav,zau,zan,za6,zba,zbx,zar,zaq,zal,zas,za5,zc9,qS,qP,qC]
   rw [zz5 hne]; simp [-qU,Env.put,Env.of,zad,za2,zac,zai,zak,zam,za3,za8,zbz,za7,zat,za9,zby,zb0,zav,zau,zan,za6,zba,zbx,zar,zaq,zal,zas,za5,zc9,qS,qP,qC,prS,zxo,znc,zg1,zvy,z81,show List.idxOf 7 [8,7]=1 from rfl]
  rintro vs S - ⟨yv,vq,t,rfl,rfl⟩
  refine W.r fun K hK=>?_
  simp(disch:=omega)only[↓RU,RV,RH,↓reduceIte,qE,reduceCtorEq,if_pos,↓RS,RG,qA,qM,qL,ty0,zab,ty8,zaa,prS,zdm,zd6,zfj,zfk,hzl]
  apply hK;clear hK K
  refine W.block ?_
  refine W.loop [1,2,7,8,13,14,26,27] (fun n vs S=>∃ (j vq t:Nat),n=nw - j∧j≤nw∧vs=[.int .i64 nw,.fn 152 [.ref 5 5 0,.ref 0 0 0,.ref 3 3 0],.loc 6 xv 0 nh,.int .i64 (i:Nat),.int .i64 nh,.int .i64 (i:Nat),.int .i64 nw,.int .i64 (j:Nat)]∧S=seS g nw xv yv (gcs (zd4 g nw i) (.loc 7 yv 0 nw) (nh - i - 1)) ((zmm g i (zay g nw i) j++List.replicate (nw - j) 0).map (.int .i64)) (zdb g i (zay g nw i) j).1 (zdb g i (zay g nw i) j).2 vq t) nw ?_ ?_
  ·refine ⟨_,0,vq,t,rfl,Nat.zero_le _,?_,zbj⟩
   simp [Env.put,Env.of]
  rintro n vs S - ⟨j,vq,t,rfl,h_j,rfl,rfl⟩
  refine W.r fun K hK=>?_
  simp(disch:=omega)only[↓RU,RV,RH,↓reduceIte,qE,reduceCtorEq,if_pos,w64,↓RS,RG,qA,qM,qL,zaa,prS]
  apply hK;clear hK K
  refine W.seq ?_
  refine W.cond rfl (fun h1=>?_) (fun h1=>?_)
  ·try simp only[RL]at h1
   have hjw:j<nw:=by omega
   obtain ⟨row,hrow,hrl,hz⟩:=hg.at_ hiw hjw
   obtain ⟨hro,hrl2,-,-⟩:=zlb (g:=g) (i:=i) (by omega) hso j (by omega)
   have hYl:(zmm g i (zay g nw i) j++List.replicate (nw - j) 0).length=nw:=by simp only[List.length_append,List.length_replicate,zeq]; omega
   generalize hY:zmm g i (zay g nw i) j++List.replicate (nw - j) 0=Y at hYl
   refine W.skip ?_
   refine xn ?_
   refine W.seq ?_
   refine W.block ?_
   refine W.r fun K hK=>?_
   simp(disch:=omega)only[↓RU,RV,RH,↓reduceIte,qE,reduceCtorEq,if_pos,↓RS,RG,qA,qM,qL,prS]
   apply hK;clear hK K
   refine W.region_pk 9 [some 32,some 33] [6] (by decide) (by kernel_rfl) fun K hK=>?_
   simp only[List.take_succ_cons,List.take_zero,List.drop_succ_cons,List.drop_zero]
   refine zbb rfl ?_
   simp(disch:=omega)only[↓RU,RV,RH,↓reduceIte,qE,reduceCtorEq,if_pos,qN,↓RS,RG,qA,qM,qL,ty0,zab,ty8,zaa,prS,zdm,zd6,zfj,zfk,hzl,zgm,zdc,zea,hYl,zap,zaz]
   refine zbb rfl ?_
   simp(disch:=omega)only[↓RU,RV,RH,↓reduceIte,qE,reduceCtorEq,if_pos,qN,↓RS,RG,qA,qM,qL,ty0,zab,ty8,zaa,prS,zdm,zd6,zfj,zfk,hzl,zgm,zdc,zea,hYl,zap,zaz]
   refine za0 (.ref 6 xv i) rfl rfl rfl (fun S' hS=>?_) ?_
   ·skip
    have k6:=(hS 6 (by decide)).trans zdm
    simp(disch:=omega)only[↓RU,RV,RH,↓reduceIte,qE,reduceCtorEq,if_pos,qN,↓RS,RG,qA,qM,qL,ty0,zab,ty8,zaa,prS,zdm,zd6,zfj,zfk,hzl,zgm,zdc,zea,hYl,zbv,zco,zdh,zdi,k6]
   refine za0 (.loc 7 yv 0 nw) rfl rfl rfl (fun S' hS=>?_) ?_
   ·skip
    have k6:=(hS 6 (by decide)).trans zdm
    simp(disch:=omega)only[↓RU,RV,RH,↓reduceIte,qE,reduceCtorEq,if_pos,qN,↓RS,RG,qA,qM,qL,ty0,zab,ty8,zaa,prS,zdm,zd6,zfj,zfk,hzl,zgm,zdc,zea,hYl,zbv,zco,zdh,zdi,k6]
   refine zbb rfl ?_
   simp(disch:=omega)only[↓RU,RV,RH,↓reduceIte,qE,reduceCtorEq,if_pos,qN,↓RS,RG,qA,qM,qL,ty0,zab,ty8,zaa,prS,zdm,zd6,zfj,zfk,hzl,zgm,zdc,zea,hYl,zap,zaz]
   refine zbb rfl ?_
   simp(disch:=omega)only[↓RU,RV,RH,↓reduceIte,qE,reduceCtorEq,if_pos,qN,↓RS,RG,qA,qM,qL,ty0,zab,ty8,zaa,prS,zdm,zd6,zfj,zfk,hzl,zgm,zdc,zea,hYl,zap,zaz]
   refine zbb rfl ?_
   simp(disch:=omega)only[↓RU,RV,RH,↓reduceIte,qE,reduceCtorEq,if_pos,qN,↓RS,RG,qA,qM,qL,ty0,zab,ty8,zaa,prS,zdm,zd6,zfj,zfk,hzl,zgm,zdc,zea,hYl,zap,zaz]
   refine zbb rfl ?_
   simp(disch:=omega)only[↓RU,RV,RH,↓reduceIte,qE,reduceCtorEq,if_pos,qN,↓RS,RG,qA,qM,qL,ty0,zab,ty8,zaa,prS,zdm,zd6,zfj,zfk,hzl,zgm,zdc,zea,hYl,zap,zaz]
   refine zbb rfl ?_
   simp(disch:=omega)only[↓RU,RV,RH,↓reduceIte,qE,reduceCtorEq,if_pos,qN,↓RS,RG,qA,qM,qL,ty0,zab,ty8,zaa,prS,zdm,zd6,zfj,zfk,hzl,zgm,zdc,zea,hYl,zap,zaz]
   refine zag.ev (zxv (y:=Y) (by omega) (by omega) hrow hz hro (by omega)) ?_
   rintro _ _ ⟨rfl,vq2,t2,rfl⟩
   simp(disch:=omega)only[↓RU,RV,RH,↓reduceIte,qE,reduceCtorEq,if_pos,qN,↓RS,RG,qA,qM,qL,ty0,zab,ty8,zaa,prS,zdm,zd6,zfj,zfk,hzl,zgm,zdc,zea,hYl,zap,zaz]
   refine ze9 ?_
   simp(disch:=omega)only[↓RU,RV,RH,↓reduceIte,qE,reduceCtorEq,if_pos,qN,↓RS,RG,qA,qM,qL,ty0,zab,ty8,zaa,prS,zdm,zd6,zfj,zfk,hzl,zgm,zdc,zea,hYl]
   apply hK;clear hK K
   refine XbN ?_
   refine xn ?_
   refine W.k fun K hK=>?_
   simp(disch:=omega)only[↓RU,RV,RH,↓reduceIte,qE,reduceCtorEq,if_pos,w64,↓RS,RG,qA,qM,qL,zaa,prS]
   apply hK;clear hK K
   refine xn ?_
   refine ⟨nw - (j+1),by omega,_,j+1,vq2,t2,rfl,by omega,?_,zj4 ?_⟩
   rotate_left
   ·rw [show zmm g i (zay g nw i) (j+1)++List.replicate (nw - (j+1)) 0=(zmm g i (zay g nw i) j++List.replicate (nw - j) 0).set j (((zdb g i (zay g nw i) j).1.idxOf (gz g i j):Nat):Int) from z79 hjw,hY]; rfl
   simp [Env.put,Env.of]
  try simp only[RL]at h1
  obtain rfl:nw=j:=by omega
  obtain ⟨hro,hrl2,-,hro4⟩:=zlb (g:=g) (i:=i) (by omega) hso nw hg4
  have hne:=hro.ne (hro4 hg3)
  have hY:zmm g i (zay g nw i) nw++List.replicate (nw - nw) 0=zmm g i (zay g nw i) nw:=by rw [Nat.sub_self]; exact qN _
  have hYl:=zeq (g:=g) (i:=i) (s:=zay g nw i) nw
  rw [hY,zz5 hne]
  generalize hYe:zmm g i (zay g nw i) nw=Y at hYl
  have hYt:(Y.map (PV.int .i64)).take nw=Y.map (PV.int .i64):=qT (by rw [List.length_map]; omega)
  have hYE:eInts Y=PV.sl (Y.map (PV.int .i64)) nw:=by rw [← hYl]
  have hsr:zdb g i (zay g nw i) nw=zay g nw (i+1):=rfl
  rw [hsr]at hne ⊢
  have hzs:zd4 g nw (i+1)=zd4 g nw i++[Y]:=by rw [← hYe]; rfl
  refine W.exit ?_
  refine xe ?_
  refine xe ?_
  refine XBlock.hit ?_
  refine XbN ?_
  refine xn ?_
  refine W.k fun K hK=>?_
  simp(disch:=omega)only[↓RU,RV,RH,↓reduceIte,qE,reduceCtorEq,if_pos,w64,↓RS,RG,qA,qM,qL,zaa,prS]
  apply hK;clear hK K
  refine xn ?_
  refine ⟨nh - (i+1),by omega,7,[8],[.int .i64 nw,.fn 152 [.ref 5 5 0,.ref 0 0 0,.ref 3 3 0],.loc 6 xv 0 nh,.int .i64 nh,.int .i64 ((i+1:Nat):Int)],seO g nw xv (gc0 (zd4 g nw (i+1)) (nh - (i+1))) (zay g nw (i+1)).1 (zay g nw (i+1)).2 t (t+1),?_,?_,i+1,xv,t+0,t+1,rfl,by omega,rfl,rfl⟩
  ·simp [-qU,Env.put,Env.of,zad,za2,zac,zai,zak,zam,za3,za8,zbz,za7,zat,za9,zby,zb0,zav,zau,zan,za6,zba,zbx,zar,zaq,zal,zas,za5,zc9,qS,qP,qC]
  rw [z47 hne,hzs,← z90]; simp [-qU,Env.put,Env.of,zad,za2,zac,zai,zak,zam,za3,za8,zbz,za7,zat,za9,zby,zb0,zav,zau,zan,za6,zba,zbx,zar,zaq,zal,zas,za5,zc9,qS,qP,qC,prS,zxo,znc,zg1,yan,hYl,hYt,hYE,z7m,show nh - i - 1=nh - (i+1) by omega,show List.idxOf 8 [8]=0 from rfl]
 try simp only[RL]at h
 obtain rfl:nh=i:=by omega
 refine W.exit ?_
 refine xe ?_
 refine xe ?_
 refine XBlock.hit ?_
 refine xn ?_
 refine W.r fun K hK=>?_
 simp(disch:=omega)only[↓RU,RV,RH,↓reduceIte,qE,reduceCtorEq,if_pos,↓RS,RG,qA,qM,qL,prS]
 apply hK;clear hK K
 refine W.ret ?_
 refine Br rfl ?_
 rw [Nat.sub_self,z9y]
 exact ⟨_,xv,vq,t,rfl,zbj⟩
def w0 (g:List (List Int)):Nat:=(g[0]?.getD []).length
def okG (g:List (List Int)):Bool:=decide (1≤g.length) && decide (g.length≤6) && decide (1≤w0 g) && decide (w0 g≤6) && !(g.any fun r=>decide ((r.length:Int)≠(w0 g:Nat)))
def stG (g:List (List Int)):List Int × List Rect:=zay g (w0 g) g.length
def zG (g:List (List Int)):List (List Int):=zd4 g (w0 g) g.length
def z1k (rs:List Rect):Int:=rs.foldl (fun s b=>s+b.high*b.wide) 0
def okS (g:List (List Int)):Bool:=okG g && decide ((stG g).2.length≤9)
def zkj (g:List (List Int)):Bool:=decide (z1k (stG g).2=((g.length*w0 g:Nat):Int))
def zdy (g:List (List Int)):PV:=if okS g then .tup [zaw (zG g) (stG g).2,.bool (zkj g)] else .tup [.nilp,.bool false]
theorem z74 {g:List (List Int)} {row:List Int} (h:g[0]?=some row):w0 g=row.length:=by simp [w0,h]
theorem zsn {g:List (List Int)}:okG g=true↔GW g g.length (w0 g):=by
 unfold okG GW
 simp only[qB,decide_eq_true_eq,Bool.not_eq_true',List.any_eq_false,decide_eq_true_eq,ne_eq,Decidable.not_not]
 constructor
 ·rintro ⟨⟨⟨⟨h1,h2⟩,h3⟩,h4⟩,h5⟩
  exact ⟨trivial,fun r hr=>by have:=h5 r hr; omega,h1,h2,h3,h4⟩
 rintro ⟨_,h5,h1,h2,h3,h4⟩
 exact ⟨⟨⟨⟨h1,h2⟩,h3⟩,h4⟩,fun r hr=>by have:=h5 r hr; omega⟩
theorem zpz {rs:List Rect} {k:Nat} {b:Rect} (h:rs[k]?=some b):z1k (rs.take (k+1))=z1k (rs.take k)+b.high*b.wide:=by
 unfold z1k; rw [ze6 h]
theorem Rect.Fit.area {b:Rect} (h:b.Fit):1≤b.high*b.wide∧b.high*b.wide≤36:=by
 unfold Rect.Fit at h
 obtain ⟨h1,h2,h3,h4,h5,h6⟩:=h
 obtain ⟨m,hm⟩:∃ m:Nat,b.high=m:=⟨b.high.toNat,by omega⟩
 obtain ⟨n,hn⟩:∃ n:Nat,b.wide=n:=⟨b.wide.toNat,by omega⟩
 rw [hm,hn]
 have h7:=Nat.mul_le_mul (show m≤6 by omega) (show n≤6 by omega)
 have h8:=Nat.mul_le_mul (show 1≤m by omega) (show 1≤n by omega)
 have:((m*n:Nat):Int)=(m:Int)*n:=by simp
 omega
theorem zrr {rs:List Rect} (h:∀ b∈rs,b.Fit):∀ k,0≤z1k (rs.take k)∧z1k (rs.take k)≤36*k
 | 0=>by simp [z1k]
 | k+1=>by
  have ih:=zrr h k
  by_cases hk:k<rs.length
  ·obtain ⟨b,hb,hm⟩:=zaf hk
   rw [zpz hb]
   have:=(h b hm).area
   omega
  rw [qT (by omega)]at ih ⊢
  omega
theorem zi6 {g:List (List Int)} {nw:Nat}:∀ {i k:Nat},k<i→(zd4 g nw i)[k]?=some (zmm g k (zay g nw k) nw)
 | 0,k,h=>by omega
 | i+1,k,h=>by
  unfold zd4
  by_cases e:k=i
  ·subst e; rw [List.getElem?_append_right (by rw [zcu]; exact qR _),zcu]; simp
  rw [List.getElem?_append_left (by rw [zcu]; omega)]; exact zi6 (by omega)
theorem ycp {g:List (List Int)} {nh nw:Nat} (hg:GW g nh nw):GW (zd4 g nw nh) nh nw:=by
 refine ⟨zcu _,fun r hr=>?_,hg.2.2⟩
 obtain ⟨k,hk⟩:=List.getElem?_of_mem hr
 have hkl:=zci hk
 rw [zcu]at hkl
 rw [zi6 hkl]at hk
 cases hk
 exact zeq _
theorem zjw {S:Store} {xv vq nh f:Nat} {Z:List (List Int)} {rs:List Rect} (h2:S.obs[2]?=some (.arr 2 101 2 [.loc 6 xv 0 nh,.loc 7 vq 0 rs.length])) (h6:S.obs[6]?=some (.arr xv 24 1 (Z.map eInts))) (hZ:Z.length=nh)
  (h7:S.obs[7]?=some (.arr vq 55 4 (rcs rs))):reify S true (f+4) (.ref 2 2 0)=some (zaw Z rs):=by
 have e1:reify S true (f+3) (.loc 6 xv 0 nh)=some (zd0 Z):=by
  rw [← hZ]
  exact zbc (k:=f+2) h6 (by simp) (zg7 _)
 have e2:reify S true (f+3) (.loc 7 vq 0 rs.length)=some (zmu rs):=zbc (k:=f+2) h7 (zbn _) (zmb (zz3 _))
 have hc:S.cellsOf 2 2=some [.loc 6 xv 0 nh,.loc 7 vq 0 rs.length]:=by simp [Store.cellsOf,h2]
 have e0:reify S true (f+4) (.ref 2 2 0)=(S.cellsOf 2 2).bind fun cells=>(cells.mapM (reify S true (f+3))).map (.ip · 0):=rfl
 rw [e0,hc,Option.bind_some,qC,e1,qC,e2]
 rfl
theorem zro {g:List (List Int)} (hsm:g.length<2147483648) (hsr:∀ r∈g,r.length<2147483648):PC Tryz.prog 131 [zd0 g] (zdy g) false:=by
 refine PC.of ⟨Tryz.func131,by kernel_rfl,rfl,by kernel_rfl⟩ za4 mixed (by show 1≤Tryz.f131.ntmps; decide) ?_
 refine W.r fun K hK=>?_
 simp(disch:=omega)only[↓RU,RV,RH,↓reduceIte,qE,reduceCtorEq,if_pos,↓RS,RG,qA,qM,qL,ty0,zab,ty8,zaa]
 apply hK;clear hK K
 refine W.seq ?_
 refine W.r fun K hK=>?_
 have hcase:g.length<1∨6<g.length∨∃ row:List Int,g[0]?=some row∧row∈g∧(1≤g.length∧g.length≤6)∧(row.length<1∨6<row.length∨(1≤row.length∧row.length≤6)):=by
  by_cases h1:g.length<1
  ·exact .inl h1
  obtain ⟨row,h2,h3⟩:=zaf (show 0<g.length by omega)
  by_cases h4:6<g.length
  ·exact .inr (.inl h4)
  exact .inr (.inr ⟨row,h2,h3,by omega,by omega⟩)
 rcases hcase with hb | hb | ⟨row,hrow,hrm,hgl,hb | hb | hb⟩
 ·skip
  have hd:decide ((g.length:Int)<1)=true:=decide_eq_true (by omega)
  simp(disch:=omega)only[↓RU,RV,RH,↓reduceIte,qE,reduceCtorEq,if_pos,w64,↓RS,RG,qA,qM,qL,ty0,zab,ty8,zaa,hd]
  apply hK;clear hK K
  refine W.cond rfl (fun h=>?_) (fun h=>?_)
  ·try simp only[RL]at h
   refine W.r fun K hK=>?_
   simp(disch:=omega)only[↓RU,RV,RH,↓reduceIte,qE,reduceCtorEq,if_pos,↓RS,RG,qA,qM,qL]
   apply hK;clear hK K
   refine W.ret ?_
   refine XThen.ret ?_
   refine Br rfl ?_
   have hok:okS g=false:=by simp [okS,okG]; omega
   rw [zdy,hok]
   rfl
  try simp only[RL]at h
  exact absurd h (by simp)
 ·skip
  have hd:decide ((g.length:Int)<1)=false:=decide_eq_false (by omega)
  have hd2:decide ((g.length:Int)>6)=true:=decide_eq_true (by omega)
  simp(disch:=omega)only[↓RU,RV,RH,↓reduceIte,qE,reduceCtorEq,if_pos,w64,↓RS,RG,qA,qM,qL,ty0,zab,ty8,zaa,hd,hd2]
  apply hK;clear hK K
  refine W.cond rfl (fun h=>?_) (fun h=>?_)
  ·try simp only[RL]at h
   refine W.r fun K hK=>?_
   simp(disch:=omega)only[↓RU,RV,RH,↓reduceIte,qE,reduceCtorEq,if_pos,↓RS,RG,qA,qM,qL]
   apply hK;clear hK K
   refine W.ret ?_
   refine XThen.ret ?_
   refine Br rfl ?_
   have hok:okS g=false:=by simp [okS,okG]; omega
   rw [zdy,hok]
   rfl
  try simp only[RL]at h
  exact absurd h (by simp)
 ·skip
  have hrl:=hsr row hrm
  have hw0:=z74 hrow
  have hd:decide ((g.length:Int)<1)=false:=decide_eq_false (by omega)
  have hd2:decide ((g.length:Int)>6)=false:=decide_eq_false (by omega)
  have hd3:decide ((row.length:Int)<1)=true:=decide_eq_true (by omega)
  simp(disch:=omega)only[↓RU,RV,RH,↓reduceIte,qE,reduceCtorEq,if_pos,w64,↓RS,RG,qA,qM,qL,ty0,zab,ty8,zaa,hd,hd2,hd3,hrow,Int.toNat_zero,Nat.zero_mul,qZ]
  apply hK;clear hK K
  refine W.cond rfl (fun h=>?_) (fun h=>?_)
  ·try simp only[RL]at h
   refine W.r fun K hK=>?_
   simp(disch:=omega)only[↓RU,RV,RH,↓reduceIte,qE,reduceCtorEq,if_pos,↓RS,RG,qA,qM,qL]
   apply hK;clear hK K
   refine W.ret ?_
   refine XThen.ret ?_
   refine Br rfl ?_
   have hok:okS g=false:=by simp [okS,okG]; omega
   rw [zdy,hok]
   rfl
  try simp only[RL]at h
  exact absurd h (by simp)
 ·skip
  have hrl:=hsr row hrm
  have hw0:=z74 hrow
  have hd:decide ((g.length:Int)<1)=false:=decide_eq_false (by omega)
  have hd2:decide ((g.length:Int)>6)=false:=decide_eq_false (by omega)
  have hd3:decide ((row.length:Int)<1)=false:=decide_eq_false (by omega)
  have hd4:decide ((row.length:Int)>6)=true:=decide_eq_true (by omega)
  simp(disch:=omega)only[↓RU,RV,RH,↓reduceIte,qE,reduceCtorEq,if_pos,w64,↓RS,RG,qA,qM,qL,ty0,zab,ty8,zaa,hd,hd2,hd3,hd4,hrow,Int.toNat_zero,Nat.zero_mul,qZ]
  apply hK;clear hK K
  refine W.cond rfl (fun h=>?_) (fun h=>?_)
  ·try simp only[RL]at h
   refine W.r fun K hK=>?_
   simp(disch:=omega)only[↓RU,RV,RH,↓reduceIte,qE,reduceCtorEq,if_pos,↓RS,RG,qA,qM,qL]
   apply hK;clear hK K
   refine W.ret ?_
   refine XThen.ret ?_
   refine Br rfl ?_
   have hok:okS g=false:=by simp [okS,okG]; omega
   rw [zdy,hok]
   rfl
  try simp only[RL]at h
  exact absurd h (by simp)
 skip
 have hrl:=hsr row hrm
 have hw0:=z74 hrow
 have hd:decide ((g.length:Int)<1)=false:=decide_eq_false (by omega)
 have hd2:decide ((g.length:Int)>6)=false:=decide_eq_false (by omega)
 have hd3:decide ((row.length:Int)<1)=false:=decide_eq_false (by omega)
 have hd4:decide ((row.length:Int)>6)=false:=decide_eq_false (by omega)
 simp(disch:=omega)only[↓RU,RV,RH,↓reduceIte,qE,reduceCtorEq,if_pos,w64,↓RS,RG,qA,qM,qL,ty0,zab,ty8,zaa,hd,hd2,hd3,hd4,hrow,Int.toNat_zero,Nat.zero_mul,qZ]
 apply hK;clear hK K
 refine W.cond rfl (fun h=>?_) (fun h=>?_)
 ·try simp only[RL]at h
  exact absurd h (by simp)
 try simp only[RL]at h
 refine W.skip ?_
 refine xn ?_
 refine W.r fun K hK=>?_
 simp(disch:=omega)only[↓RU,RV,RH,↓reduceIte,qE,reduceCtorEq,if_pos,↓RS,RG,qA,qM,qL,ty0,zab,ty8,zaa,hrow,Int.toNat_zero,Nat.zero_mul,qZ]
 apply hK;clear hK K
 refine W.seq ?_
 refine W.r fun K hK=>?_
 simp(disch:=omega)only[↓RU,RV,RH,↓reduceIte,qE,reduceCtorEq,if_pos,qN,↓RS,RG,qA,qM,qL,ty0,zab,ty8,zaa,hrow]
 refine zag.pc (zp5 (l:=g) hsm (g:=151) (cap:=[.ip [.int .i64 row.length] 0]) rfl rfl (test:=fun r=>decide ((r.length:Int)≠(row.length:Nat))) (fun r hr=>zxu r _ (hsr r hr))) rfl (.inl rfl) ?_
 simp(disch:=omega)only[↓RU,RV,RH,↓reduceIte,qE,reduceCtorEq,if_pos,qN,↓RS,RG,qA,qM,qL,ty0,zab,ty8,zaa,hrow]
 apply hK;clear hK K
 refine W.cond rfl (fun h1=>?_) (fun h1=>?_)
 ·try simp only[RL]at h1
  refine W.r fun K hK=>?_
  simp(disch:=omega)only[↓RU,RV,RH,↓reduceIte,qE,reduceCtorEq,if_pos,↓RS,RG,qA,qM,qL]
  apply hK;clear hK K
  refine W.ret ?_
  refine XThen.ret ?_
  refine Br rfl ?_
  have hok:okS g=false:=by unfold okS okG; rw [hw0,h1]; simp
  rw [zdy,hok]
  rfl
 try simp only[RL]at h1
 have hg:GW g g.length row.length:=by have:=zsn (g:=g); rw [hw0]at this; refine this.1 ?_; unfold okG; rw [hw0,h1]; simp; omega
 obtain ⟨hso,hsl,hs1⟩:=zfd (g:=g) (nw:=row.length) (by omega) (by omega) g.length (by omega)
 have hne:=hso.ne (hs1 (by omega))
 refine W.skip ?_
 refine xn ?_
 refine W.r fun K hK=>?_
 simp(disch:=omega)only[↓RU,RV,RH,↓reduceIte,qE,reduceCtorEq,if_pos,↓RS,RG,qA,qM,qL,ty0,ty1,zab,ty5,ty7,ty8,zbg,zaa,zfp,zbh]
 apply hK;clear hK K
 refine W.r fun K hK=>?_
 simp(disch:=omega)only[↓RU,RV,RH,↓reduceIte,qE,reduceCtorEq,if_pos,↓RS,RG,qA,qM,qL,zaa,z9b]
 apply hK;clear hK K
 refine W.seq_pk 6 [some 42] [3] (by decide) (by kernel_rfl) fun K hK=>?_
 simp only[List.take_succ_cons,List.take_zero,List.drop_succ_cons,List.drop_zero]
 refine za0 (.ref 2 2 0) rfl rfl rfl (fun S' hS=>?_) ?_
 ·skip
  have k3:=(hS 3 (by decide)).trans (show _=some _ from rfl)
  simp(disch:=omega)only[↓RU,RV,RH,↓reduceIte,qE,reduceCtorEq,if_pos,qN,↓RS,RG,qA,qM,qL,ty0,ty1,zab,ty5,ty7,ty8,zbg,zaa,zfp,zbh,zbv,zco,zdh,zdi,k3]
 refine zbb rfl ?_
 simp(disch:=omega)only[↓RU,RV,RH,↓reduceIte,qE,reduceCtorEq,if_pos,qN,↓RS,RG,qA,qM,qL,ty0,ty1,zab,ty5,ty7,ty8,zbg,zaa,zfp,zbh,zap,zaz]
 refine zbb rfl ?_
 simp(disch:=omega)only[↓RU,RV,RH,↓reduceIte,qE,reduceCtorEq,if_pos,qN,↓RS,RG,qA,qM,qL,ty0,ty1,zab,ty5,ty7,ty8,zbg,zaa,zfp,zbh,zap,zaz]
 refine zbb rfl ?_
 simp(disch:=omega)only[↓RU,RV,RH,↓reduceIte,qE,reduceCtorEq,if_pos,qN,↓RS,RG,qA,qM,qL,ty0,ty1,zab,ty5,ty7,ty8,zbg,zaa,zfp,zbh,zap,zaz]
 refine zbb rfl ?_
 simp(disch:=omega)only[↓RU,RV,RH,↓reduceIte,qE,reduceCtorEq,if_pos,qN,↓RS,RG,qA,qM,qL,ty0,ty1,zab,ty5,ty7,ty8,zbg,zaa,zfp,zbh,zap,zaz]
 refine zbb rfl ?_
 simp(disch:=omega)only[↓RU,RV,RH,↓reduceIte,qE,reduceCtorEq,if_pos,qN,↓RS,RG,qA,qM,qL,ty0,ty1,zab,ty5,ty7,ty8,zbg,zaa,zfp,zbh,zap,zaz]
 refine zag.ev (z6g hg) ?_
 rintro _ _ ⟨xv,vq,t,rfl,rfl⟩
 rw [z47 hne]
 simp only[prS]
 simp(disch:=omega)only[↓RU,RV,RH,↓reduceIte,qE,reduceCtorEq,if_pos,qN,↓RS,RG,qA,qM,qL,ty0,ty1,zab,ty5,ty7,ty8,zbg,zaa,zfp,zbh,zap,zaz]
 refine ze9 ?_
 simp(disch:=omega)only[↓RU,RV,RH,↓reduceIte,qE,reduceCtorEq,if_pos,qN,↓RS,RG,qA,qM,qL,ty0,ty1,zab,ty5,ty7,ty8,zbg,zaa,zfp,zbh]
 apply hK;clear hK K
 refine W.seq ?_
 refine W.r fun K hK=>?_
 simp(disch:=omega)only[↓RU,RV,RH,↓reduceIte,qE,reduceCtorEq,if_pos,w64,↓RS,RG,qA,qM,qL,ty0,ty1,zab,ty5,ty7,ty8,zbg,zaa,zfp,zbh]
 apply hK;clear hK K
 refine W.cond rfl (fun h2=>?_) (fun h2=>?_)
 ·try simp only[RL]at h2
  refine W.r fun K hK=>?_
  simp(disch:=omega)only[↓RU,RV,RH,↓reduceIte,qE,reduceCtorEq,if_pos,↓RS,RG,qA,qM,qL]
  apply hK;clear hK K
  refine W.ret ?_
  refine XThen.ret ?_
  refine Br rfl ?_
  have hok:okS g=false:=by unfold okS stG; rw [hw0]; simp only[Bool.and_eq_false_iff]; right; exact decide_eq_false (by omega)
  rw [zdy,hok]
  rfl
 try simp only[RL]at h2
 refine W.skip ?_
 refine xn ?_
 refine W.r fun K hK=>?_
 simp(disch:=omega)only[↓RU,RV,RH,↓reduceIte,qE,reduceCtorEq,if_pos,↓RS,RG,qA,qM,qL]
 apply hK;clear hK K
 refine W.seq ?_
 refine W.r fun K hK=>?_
 simp(disch:=omega)only[↓RU,RV,RH,↓reduceIte,qE,reduceCtorEq,if_pos,↓RS,RG,qA,qM,qL,ty0,ty1,zab,ty5,ty7,ty8,zbg,zaa,zfp,zbh]
 apply hK;clear hK K
 refine W.block ?_
 refine W.loop [5,7,59,60,61] (fun n vs S=>∃ k t:Nat,n=(zay g row.length g.length).2.length - k∧k≤(zay g row.length g.length).2.length∧vs=[.ref 3 3 0,.int .i64 (z1k ((zay g row.length g.length).2.take k)),.loc 7 vq 0 (zay g row.length g.length).2.length,.int .i64 (zay g row.length g.length).2.length,.int .i64 (k:Nat)]∧S=⟨[.arr 0 98 1 [zd0 g],.arr 1 3 1 [.int .i64 row.length],.arr 2 101 2 [.loc 6 xv 0 g.length,.loc 7 vq 0 (zay g row.length g.length).2.length],.arr 3 49 1 [.ref 2 2 0],.map 4 (mE (zay g row.length g.length).1),.arr 5 170 1 [.mp 4 4],.arr xv 24 1 ((zd4 g row.length g.length).map eInts),.arr vq 55 4 (rcs (zay g row.length g.length).2)],t⟩) (zay g row.length g.length).2.length ?_ ?_
 ·refine ⟨8,0,t,rfl,Nat.zero_le _,?_,?_⟩
  ·simp [Env.put,Env.of,zad,z1k]
  simp [zch]
 rintro n vs S - ⟨k,t,rfl,h_k,rfl,rfl⟩
 refine W.r fun K hK=>?_
 simp(disch:=omega)only[↓RU,RV,RH,↓reduceIte,qE,reduceCtorEq,if_pos,w64,↓RS,RG,qA,qM,qL,zaa]
 apply hK;clear hK K
 refine W.seq ?_
 refine W.cond rfl (fun h3=>?_) (fun h3=>?_)
 ·try simp only[RL]at h3
  obtain ⟨b,hb2,hbm⟩:=zaf (show k<(zay g row.length g.length).2.length by omega)
  have hbf:=hso.2 b hbm
  have hba:=hbf.area
  have hsb:=zrr hso.2 k
  refine W.skip ?_
  refine xn ?_
  refine W.seq ?_
  refine W.block ?_
  refine W.r fun K hK=>?_
  simp(disch:=omega)only[↓RU,RV,RH,↓reduceIte,qE,reduceCtorEq,if_pos,↓RS,RG,qA,qM,qL,ty1,zbg,zaa,zbh,zji hb2,zbn,zbi,zbl]
  apply hK;clear hK K
  refine W.k fun K hK=>?_
  simp(disch:=omega)only[↓RU,RV,RH,↓reduceIte,qE,reduceCtorEq,if_pos,qN,w64,↓RS,RG,qA,qM,qL,zbg,zaa,zbh,zji hb2,zbi,zbn]
  refine zag.pc (z9k (r:=b) (by omega) (by omega)) rfl (.inl rfl) ?_
  simp(disch:=omega)only[↓RU,RV,RH,↓reduceIte,qE,reduceCtorEq,if_pos,qN,w64,↓RS,RG,qA,qM,qL,zbg,zaa,zbh,zji hb2,zbi,zbn]
  apply hK;clear hK K
  refine XbN ?_
  refine xn ?_
  refine W.k fun K hK=>?_
  simp(disch:=omega)only[↓RU,RV,RH,↓reduceIte,qE,reduceCtorEq,if_pos,w64,↓RS,RG,qA,qM,qL,zaa]
  apply hK;clear hK K
  refine xn ?_
  refine ⟨(zay g row.length g.length).2.length - (k+1),by omega,8,k+1,_,rfl,by omega,?_,rfl⟩
  simp [Env.put,Env.of,zpz hb2]
 try simp only[RL]at h3
 obtain rfl:k=(zay g row.length g.length).2.length:=by omega
 rw [List.take_length]
 refine W.exit ?_
 refine xe ?_
 refine xe ?_
 refine XBlock.hit ?_
 refine xn ?_
 refine W.seq_draw (by kernel_rfl) fun K hK=>?_
 obtain ⟨zr,hzr,hzl,-⟩:=(ycp hg).at_ (i:=0) (j:=0) (by omega) (by omega)
 have hZl:=zcu (g:=g) (nw:=row.length) g.length
 have hpr:=Nat.mul_le_mul hgl.2 hb.2
 simp(disch:=omega)only[↓RU,RV,RH,↓reduceIte,qE,reduceCtorEq,if_pos,qN,w64,↓RS,RG,qA,qM,qL,ty5,zaa,hZl,hzl]
 refine zag.pc (zsa (zd4 g row.length g.length) (zay g row.length g.length).2) (zaj (zjw (f:=6) rfl rfl (zcu _) rfl) rfl) (.inl rfl) ?_
 simp(disch:=omega)only[↓RU,RV,RH,↓reduceIte,qE,reduceCtorEq,if_pos,qN,w64,↓RS,RG,qA,qM,qL,ty5,zaa,hZl,hzl]
 refine zag.pc (zx6 (g:=(zd4 g row.length g.length)) hzr (zay g row.length g.length).2) (zaj (zjw (f:=6) rfl rfl (zcu _) rfl) rfl) (.inl rfl) ?_
 simp(disch:=omega)only[↓RU,RV,RH,↓reduceIte,qE,reduceCtorEq,if_pos,qN,w64,↓RS,RG,qA,qM,qL,ty5,zaa,hZl,hzl]
 apply hK;clear hK K
 refine W.ret ?_
 refine Br rfl ?_
 have hok:okS g=true:=by unfold okS stG; rw [hw0,zsn.2 (by rw [hw0]; exact hg)]; simp; omega
 rw [zdy,hok,if_pos rfl]
 unfold stG zG zkj stG
 rw [hw0]
 refine zmc (k:=9) (zjw (f:=5) rfl rfl (zcu _) rfl) ?_
 have he:(z1k (zay g row.length g.length).2 == (g.length:Int)*row.length)=decide (z1k (zay g row.length g.length).2=((g.length*row.length:Nat):Int)):=by rw [Int.natCast_mul]; rfl
 rw [← he]
 rfl
def ztn (t:Txt):List Int:=t.map fun c=>(c.toNat:Int)
def zbw (p:List Txt):List (List Int):=p.map ztn
def zgv (p:List Txt):Bool:=p.all fun r=>r.all zcs
def zsv (p:List Txt):PV:=if zgv p then zdy (zbw p) else .tup [.nilp,.bool false]
def okB (p:List Txt):Bool:=zgv p && okS (zbw p)
def gP (p:List Txt):List (List Int):=zG (zbw p)
def rP (p:List Txt):List Rect:=(stG (zbw p)).2
theorem zi3 (t:Txt):(ztn t).length=t.length:=by simp [ztn]
theorem z40 {t:Txt} {k:Nat} {c:UInt8} (h:t[k]?=some c):ztn (t.take (k+1))=ztn (t.take k)++[(c.toNat:Int)]:=by simp [ztn,tk h]
theorem z1b {p:List Txt} {i:Nat} {t:Txt} (h:p[i]?=some t):zbw (p.take (i+1))=zbw (p.take i)++[ztn t]:=by simp [zbw,tk h]
theorem zdf (p:List Txt):(zbw p).length=p.length:=by simp [zbw]
theorem zo8 {p:List Txt} {r:Txt} {c:UInt8} (hr:r∈p) (hc:c∈r) (h:zcs c=false):zgv p=false:=by
 unfold zgv
 rw [List.all_eq_false]
 refine ⟨r,hr,?_⟩
 rw [Bool.not_eq_true,List.all_eq_false]
 exact ⟨c,hc,by rw [h]; exact Bool.false_ne_true⟩
theorem zrx {g:List (List Int)} {i:Nat} (hi:i<6) {s:List Int × List Rect} (hs:zqe s.1 s.2) {n:Nat} (hn:n≤6):∀ j,j≤n→∀ z∈zmm g i s j,0≤z∧z≤s.1.length+n
 | 0,_,z,h=>by simp [zmm]at h
 | j+1,hj,z,h=>by
  simp only[zmm,List.mem_append,List.mem_singleton]at h
  rcases h with h | rfl
  ·exact zrx hi hs hn j (by omega) z h
  have h1:=zgu (ks:=(zdb g i s j).1) (z:=gz g i j)
  obtain ⟨-,h2,-,-⟩:=zlb (g:=g) hi hs j (by omega)
  omega
theorem zkb {g:List (List Int)} {nw:Nat} (hw:nw≤6) (hw1:1≤nw):∀ i,i≤6→∀ r∈zd4 g nw i,∀ z∈r,0≤z∧z≤100
 | 0,_,r,h=>by simp [zd4]at h
 | i+1,hi,r,h=>by
  simp only[zd4,List.mem_append,List.mem_singleton]at h
  rcases h with h | rfl
  ·exact zkb hw hw1 i (by omega) r h
  intro z hz
  obtain ⟨h1,h2,-⟩:=zfd (g:=g) hw hw1 i (by omega)
  have:=zrx (g:=g) (i:=i) (by omega) h1 hw nw (qR _) z hz
  omega
theorem z3y {g:List (List Int)} (h:okS g=true):GW g g.length (w0 g):=by
 unfold okS at h
 rw [qB]at h
 exact zsn.1 h.1
theorem yc6 {g:List (List Int)} (h:okS g=true):GW (zG g) g.length (w0 g):=ycp (z3y h)
theorem z78 {g:List (List Int)} (h:okS g=true):∀ r∈zG g,∀ z∈r,0≤z∧z≤100:=by
 obtain ⟨-,-,h1,h2,h3,h4⟩:=z3y h
 exact zkb h4 h3 _ h2
theorem zj1 {g:List (List Int)} (h:okS g=false):zdy g = .tup [.nilp,.bool false]:=by rw [zdy,h]; rfl
theorem zii {g:List (List Int)} (h:okS g=true):zdy g = .tup [zaw (zG g) (stG g).2,.bool (zkj g)]:=by rw [zdy,h]; rfl
theorem ze1 {S:Store} {lo k:Nat} (l:List (List Int)):(l.map eInts).mapM (rfz S lo (k+1))=some (l.map eInts):=zxm (fun _=>rfl) l
theorem z7k {p:List Txt} (h:okB p=false):zsv p = .tup [.nilp,.bool false]:=by
 unfold okB at h
 unfold zsv
 cases hl:zgv p with
 | false=>rfl
 | true=>rw [hl,Bool.true_and]at h; rw [if_pos rfl,zj1 h]
theorem z4o {p:List Txt} (h:okB p=true):zsv p = .tup [zaw (gP p) (rP p),.bool (zkj (zbw p))]:=by
 unfold okB at h
 rw [qB]at h
 rw [zsv,if_pos h.1,zii h.2]
 rfl
theorem z3x {p:List Txt} (h:okB p=true):GW (gP p) p.length (w0 (zbw p)):=by
 unfold okB at h
 rw [qB]at h
 have:=yc6 h.2
 rwa [zdf]at this
theorem z3w {p:List Txt} (h:okB p=true):∀ r∈gP p,∀ z∈r,0≤z∧z≤100:=by
 unfold okB at h
 rw [qB]at h
 exact z78 h.2
theorem zwa (g:List (List Int)):(zff g).length=g.length:=by simp [zff]
def zow (p:List Txt):Bool:=zkj (zbw p) && decide (zff (gP p)=p)
def zfq (p:List Txt):Bool:=okB p && zow p
def zfc (p:List Txt):Bool:=zfq p && decide (zvl (gP p) 4 (w0 (zbw p)) p.length=0)
def zl3 (p:List Txt) (ws:List Int):Bool:=decide (ws.length=(rP p).length) && ws.all zks
def zd1 (p:List Txt) (wss:List (List Int)):Bool:=zfc p && wss.all (zl3 p)
theorem zy9 {p:List Txt} {wss:List (List Int)} {ws:List Int} (hm:ws∈wss) (h:zl3 p ws=false):zd1 p wss=false:=by
 unfold zd1
 rw [Bool.and_eq_false_iff]
 right
 rw [List.all_eq_false]
 exact ⟨ws,hm,by rw [h]; exact Bool.false_ne_true⟩
theorem zu2 {p:List Txt} (h:okB p=true):(rP p).length≤9:=by
 unfold okB okS at h
 simp only[qB,decide_eq_true_eq]at h
 exact h.2.2
theorem z03 {p:List Txt} (h:okB p=true):1≤(rP p).length:=by
 unfold okB at h
 rw [qB]at h
 obtain ⟨-,-,h1,h2,h3,h4⟩:=z3y h.2
 obtain ⟨k1,-,k3⟩:=zfd (g:=zbw p) h4 h3 _ h2
 have:=k1.1
 have:=k3 h1
 unfold rP stG
 omega
theorem zpb {p:List Txt} {ws:List Int} (h:zd1 p [ws]=true):zfc p=true∧ws.length=(rP p).length∧zht ws:=by
 unfold zd1 zl3 at h
 simp only[List.all_cons,List.all_nil,Bool.and_true,qB,decide_eq_true_eq,List.all_eq_true,zks]at h
 exact ⟨h.1,h.2.1,fun x hx=>h.2.2 x hx⟩
theorem z1g {g:List (List Int)} (hsm:g.length<2147483648) (hsr:∀ r∈g,r.length<2147483648) (h:okS g=false):PC Tryz.prog 131 [zd0 g] (.tup [.nilp,.bool false]) false:=by
 rw [← zj1 h]; exact zro hsm hsr
theorem zxw {g:List (List Int)} (hsm:g.length<2147483648) (hsr:∀ r∈g,r.length<2147483648) (h:okS g=true):PC Tryz.prog 131 [zd0 g] (.tup [zaw (zG g) (stG g).2,.bool (zkj g)]) false:=by
 rw [← zii h]; exact zro hsm hsr
theorem z4p {p:List Txt} (hs:Sm p):PC Tryz.prog 128 [za1 p] (zsv p) false:=by
 have hp:=hs.rows
 refine PC.of ⟨Tryz.func128,by kernel_rfl,rfl,by kernel_rfl⟩ za4 mixed (by show 1≤Tryz.f128.ntmps; decide) ?_
 refine W.r fun K hK=>?_
 simp(disch:=omega)only[↓RU,RV,RH,↓reduceIte,qE,reduceCtorEq,if_pos,↓RS,RG,qA,qM,qL]
 apply hK;clear hK K
 refine W.r fun K hK=>?_
 simp(disch:=omega)only[↓RU,RV,RH,↓reduceIte,qE,reduceCtorEq,if_pos,↓RS,RG,qA,qM,qL,ty0,zab,ty8,zaa]
 apply hK;clear hK K
 refine W.joinZ [4] (fun vs S=>∃ tk:Nat,zgv p=true∧vs=[zd0 (zbw p)]∧S=⟨[],tk⟩) ?_ ?_
 ·
  refine W.r fun K hK=>?_
  simp(disch:=omega)only[↓RU,RV,RH,↓reduceIte,qE,reduceCtorEq,if_pos,↓RS,RG,qA,qM,qL,ty3,zah]
  apply hK;clear hK K
  refine W.block ?_
  refine W.loopZ [4,11,12,13] (fun n vs S=>∃ i v0 tk:Nat,n=p.length - i∧i≤p.length∧((p.take i).all (fun r=>r.all zcs)=true)∧vs=[.loc 0 v0 0 i,za1 p,.int .i64 p.length,.int .i64 i]∧S=⟨[.arr v0 24 1 ((zbw (p.take i)).map eInts)],tk⟩) (p.length) ?_ ?_
  ·refine ⟨1,[.loc 0 0 0 0,za1 p,.int .i64 p.length,.int .i64 0],⟨[.arr 0 24 1 ((zbw (p.take 0)).map eInts)],1⟩,?_,?_,0,0,1,rfl,by omega,rfl,rfl,rfl⟩
   ·rfl
   rfl
  rintro n vs S - ⟨i,v0,tk,rfl,h_i,hall,rfl,rfl⟩
  refine W.r fun K hK=>?_
  simp(disch:=omega)only[↓RU,RV,RH,↓reduceIte,qE,reduceCtorEq,if_pos,w64,↓RS,RG,qA,qM,qL,zaa]
  apply hK;clear hK K
  refine W.seq ?_
  refine W.cond rfl (fun h=>?_) (fun h=>?_)
  ·try simp only[RL]at h
   obtain ⟨row,hrow,hrm⟩:=zaf (show i<p.length by omega)
   have hrl:=hs.cols row hrm
   have hgk:(zbw (p.take i)).length=i:=by rw [zdf,List.length_take]; omega
   have hgt:((zbw (p.take i)).map eInts).take i=(zbw (p.take i)).map eInts:=qT (by rw [List.length_map]; omega)
   refine W.skip ?_
   refine xn ?_
   refine W.seq ?_
   refine W.block ?_
   refine W.r fun K hK=>?_
   simp(disch:=omega)only[↓RU,RV,RH,↓reduceIte,qE,reduceCtorEq,if_pos,↓RS,RG,qA,qM,qL,ty3,zah,hrow]
   apply hK;clear hK K
   refine W.r fun K hK=>?_
   simp(disch:=omega)only[↓RU,RV,RH,↓reduceIte,qE,reduceCtorEq,if_pos,↓RS,RG,qA,qM,qL,zab,zaa]
   apply hK;clear hK K
   refine W.seq ?_
   refine W.r fun K hK=>?_
   simp(disch:=omega)only[↓RU,RV,RH,↓reduceIte,qE,reduceCtorEq,if_pos,w64,↓RS,RG,qA,qM,qL,ty4,zah,zhh]
   apply hK;clear hK K
   refine W.block ?_
   refine W.loop [4,11,12,13,7,19,20,21] (fun n vs S=>∃ k v1 t:Nat,n=row.length - k∧k≤row.length∧((row.take k).all zcs=true)∧vs=[.loc 0 v0 0 i,za1 p,.int .i64 p.length,.int .i64 i,.loc 1 v1 0 k,.sl (row.map eB) row.length,.int .i64 row.length,.int .i64 k]∧S=⟨[.arr v0 24 1 ((zbw (p.take i)).map eInts),.arr v1 3 1 ((ztn (row.take k)).map (.int .i64))],t⟩) (row.length) ?_ ?_
   ·refine ⟨2,0,_,_,rfl,Nat.zero_le _,rfl,?_,rfl⟩
    simp [Env.put,Env.of]
   rintro n vs S - ⟨k,v1,t,rfl,h_k,hrk,rfl,rfl⟩
   refine W.r fun K hK=>?_
   simp(disch:=omega)only[↓RU,RV,RH,↓reduceIte,qE,reduceCtorEq,if_pos,w64,↓RS,RG,qA,qM,qL,zaa]
   apply hK;clear hK K
   refine W.seq ?_
   refine W.cond rfl (fun h1=>?_) (fun h1=>?_)
   ·try simp only[RL]at h1
    obtain ⟨c,hc,hcm⟩:=zaf (show k<row.length by omega)
    have hcb:=c.toNat_lt
    have hrowk:(ztn (row.take k)).length=k:=by rw [zi3,List.length_take]; omega
    have hrowt:((ztn (row.take k)).map (PV.int .i64)).take k=(ztn (row.take k)).map (PV.int .i64):=qT (by rw [List.length_map]; omega)
    refine W.skip ?_
    refine xn ?_
    refine W.seq ?_
    refine W.block ?_
    refine W.r fun K hK=>?_
    simp(disch:=omega)only[↓RU,RV,RH,↓reduceIte,qE,reduceCtorEq,if_pos,↓RS,RG,qA,qM,qL,ty4,zhh,hc]
    apply hK;clear hK K
    refine W.seq ?_
    refine W.r fun K hK=>?_
    rcases (show (c.toNat:Int)<97∨(c.toNat:Int)>122∨(97≤c.toNat∧c.toNat≤122) by omega) with hb | hb | hb
    ·skip
     have hd:decide ((c.toNat:Int)<97)=true:=decide_eq_true hb
     have hlc:zcs c=false:=by unfold zcs; rw [decide_eq_false (by omega)]; rfl
     simp(disch:=omega)only[↓RU,RV,RH,↓reduceIte,qE,reduceCtorEq,if_pos,w64,↓RS,RG,qA,qM,qL,zhh,hd]
     apply hK;clear hK K
     refine W.cond rfl (fun h2=>?_) (fun h2=>?_)
     ·try simp only[RL]at h2
      refine W.r fun K hK=>?_
      simp(disch:=omega)only[↓RU,RV,RH,↓reduceIte,qE,reduceCtorEq,if_pos,↓RS,RG,qA,qM,qL]
      apply hK;clear hK K
      refine W.ret ?_
      refine XThen.ret ?_
      refine XBlock.ret ?_
      refine XThen.ret ?_
      refine XThen.ret ?_
      refine XBlock.ret ?_
      refine XThen.ret ?_
      refine XBlock.ret ?_
      refine XThen.ret ?_
      refine XThen.ret ?_
      refine XBlock.ret ?_
      refine XThen.ret ?_
      refine Br rfl ?_
      rw [zsv,zo8 hrm hcm hlc]
      rfl
     try simp only[RL]at h2
     exact absurd h2 (by simp)
    ·skip
     have hd:decide ((c.toNat:Int)<97)=false:=decide_eq_false (by omega)
     have hd2:decide ((c.toNat:Int)>122)=true:=decide_eq_true hb
     have hlc:zcs c=false:=by unfold zcs; rw [decide_eq_false (p:=c.toNat≤122) (by omega),Bool.and_false]
     simp(disch:=omega)only[↓RU,RV,RH,↓reduceIte,qE,reduceCtorEq,if_pos,w64,↓RS,RG,qA,qM,qL,zhh,hd,hd2]
     apply hK;clear hK K
     refine W.cond rfl (fun h2=>?_) (fun h2=>?_)
     ·try simp only[RL]at h2
      refine W.r fun K hK=>?_
      simp(disch:=omega)only[↓RU,RV,RH,↓reduceIte,qE,reduceCtorEq,if_pos,↓RS,RG,qA,qM,qL]
      apply hK;clear hK K
      refine W.ret ?_
      refine XThen.ret ?_
      refine XBlock.ret ?_
      refine XThen.ret ?_
      refine XThen.ret ?_
      refine XBlock.ret ?_
      refine XThen.ret ?_
      refine XBlock.ret ?_
      refine XThen.ret ?_
      refine XThen.ret ?_
      refine XBlock.ret ?_
      refine XThen.ret ?_
      refine Br rfl ?_
      rw [zsv,zo8 hrm hcm hlc]
      rfl
     try simp only[RL]at h2
     exact absurd h2 (by simp)
    skip
    have hd:decide ((c.toNat:Int)<97)=false:=decide_eq_false (by omega)
    have hd2:decide ((c.toNat:Int)>122)=false:=decide_eq_false (by omega)
    have hlc:zcs c=true:=by unfold zcs; rw [decide_eq_true hb.1,decide_eq_true hb.2]; rfl
    simp(disch:=omega)only[↓RU,RV,RH,↓reduceIte,qE,reduceCtorEq,if_pos,w64,↓RS,RG,qA,qM,qL,zhh,hd,hd2]
    apply hK;clear hK K
    refine W.cond rfl (fun h2=>?_) (fun h2=>?_)
    ·try simp only[RL]at h2
     exact absurd h2 (by simp)
    try simp only[RL]at h2
    refine W.skip ?_
    refine xn ?_
    refine W.k fun K hK=>?_
    simp(disch:=omega)only[↓RU,RV,RH,↓reduceIte,qE,reduceCtorEq,if_pos,w64,↓RS,RG,qA,qM,qL,zab,zaa,zhh,hrowk,hrowt,qR]
    apply hK;clear hK K
    refine XbN ?_
    refine xn ?_
    refine W.k fun K hK=>?_
    simp(disch:=omega)only[↓RU,RV,RH,↓reduceIte,qE,reduceCtorEq,if_pos,w64,↓RS,RG,qA,qM,qL,zaa]
    apply hK;clear hK K
    refine xn ?_
    refine ⟨row.length - (k+1),by omega,2,k+1,t+1,t+2,rfl,by omega,zmp hc hrk hlc,?_,?_⟩
    ·simp [Env.put,Env.of]
    simp [zch,z40 hc]
   try simp only[RL]at h1
   obtain rfl:k=row.length:=by omega
   have hra:row.all zcs=true:=by rw [List.take_length]at hrk; exact hrk
   have hrz:=zi3 row
   rw [List.take_length]
   generalize hYe:ztn row=Y at hrz
   have hYt:(Y.map (PV.int .i64)).take row.length=Y.map (PV.int .i64):=qT (by rw [List.length_map]; omega)
   have hYE:eInts Y=PV.sl (Y.map (PV.int .i64)) row.length:=by rw [← hrz]
   refine W.exit ?_
   refine xe ?_
   refine xe ?_
   refine XBlock.hit ?_
   refine xn ?_
   refine W.k fun K hK=>?_
   simp(disch:=omega)only[↓RU,RV,RH,↓reduceIte,qE,reduceCtorEq,if_pos,↓RS,RG,qA,qM,qL,ty0,zab,ty8,zaa,hgk,hgt,qR]
   apply hK;clear hK K
   refine XbN ?_
   refine xn ?_
   refine W.k fun K hK=>?_
   simp(disch:=omega)only[↓RU,RV,RH,↓reduceIte,qE,reduceCtorEq,if_pos,w64,↓RS,RG,qA,qM,qL,zaa]
   apply hK;clear hK K
   refine xn ?_
   refine ⟨p.length - (i+1),by omega,1,[.loc 0 (t+1) 0 (i+1),za1 p,.int .i64 p.length,.int .i64 (i+1)],⟨[.arr (t+1) 24 1 ((zbw (p.take (i+1))).map eInts)],(t+2)⟩,?_,?_,(i+1),(t+1),(t+2),rfl,by omega,zmp hrow hall hra,rfl,rfl⟩
   ·simp [-qU,Store.frz,zcn,zcx,zbe,zb7,zca,zb6,zcw,zbq,zbt,zbr,zbd,zbf,zcb,zbs,zb8,zbp,Env.put,Env.of,zad,zb9,qP,qC]
   simp [-qU,Store.frz,zcn,zcx,zbe,zb7,zca,zb6,zcw,zbq,zbt,zbr,zbd,zbf,zcb,zbs,zb8,zbp,Env.put,Env.of,zad,zb9,qP,qC,z1b hrow,hYe,hYt,hYE,hrz]
  try simp only[RL]at h
  refine W.exit ?_
  refine xe ?_
  refine xe ?_
  refine XBlock.hit ?_
  refine xn ?_
  obtain rfl:i=p.length:=by omega
  rw [List.take_length]at hall ⊢
  have hgt2:((zbw p).map eInts).take p.length=(zbw p).map eInts:=qT (by simp [zbw])
  have hgE:zd0 (zbw p)=PV.sl ((zbw p).map eInts) p.length:=by rw [← zdf p]
  refine ⟨0,[zd0 (zbw p)],⟨[],tk⟩,?_,?_,tk,hall,rfl,rfl⟩
  ·simp [-qU,Store.frz,zcn,zcx,zbe,zb7,zca,zb6,zcw,zbq,zbt,zbr,zbd,zbf,zcb,zbs,zb8,zbp,Env.put,Env.of,zad,zb9,qP,qC,hgt2,hgE,zdf,ze1]
  simp [-qU,Store.frz,zcn,zcx,zbe,zb7,zca,zb6,zcw,zbq,zbt,zbr,zbd,zbf,zcb,zbs,zb8,zbp,Env.put,Env.of,zad,zb9,qP,qC]
 rintro vs S - ⟨tk,hlet,rfl,rfl⟩
 refine W.r fun K hK=>?_
 cases hok:okS (zbw p)
 ·skip
  simp(disch:=omega)only[↓RU,RV,RH,↓reduceIte,qE,reduceCtorEq,if_pos,qN,↓RS,RG,qA,qM,qL]
  refine zag.pc (z1g (g:=zbw p) (by rw [zdf]; omega) (fun r hr=>by obtain ⟨t,ht,rfl⟩:=List.mem_map.1 hr; rw [zi3]; exact hs.cols t ht) hok) rfl (.inr rfl) ?_
  simp(disch:=omega)only[↓RU,RV,RH,↓reduceIte,qE,reduceCtorEq,if_pos,qN,↓RS,RG,qA,qM,qL]
  apply hK;clear hK K
  refine W.ret ?_
  refine Br rfl ?_
  rw [zsv,hlet,if_pos rfl,zj1 hok]
  rfl
 skip
 simp(disch:=omega)only[↓RU,RV,RH,↓reduceIte,qE,reduceCtorEq,if_pos,qN,↓RS,RG,qA,qM,qL]
 refine zag.pc (zxw (g:=zbw p) (by rw [zdf]; omega) (fun r hr=>by obtain ⟨t,ht,rfl⟩:=List.mem_map.1 hr; rw [zi3]; exact hs.cols t ht) hok) rfl (.inr rfl) ?_
 simp(disch:=omega)only[↓RU,RV,RH,↓reduceIte,qE,reduceCtorEq,if_pos,qN,↓RS,RG,qA,qM,qL]
 apply hK;clear hK K
 refine W.ret ?_
 refine Br rfl ?_
 rw [zsv,hlet,if_pos rfl,zii hok]
 rfl
theorem yaj {p:List Txt} (hs:Sm p) (h:okB p=false):PC Tryz.prog 128 [za1 p] (.tup [.nilp,.bool false]) false:=by
 rw [← z7k h]; exact z4p hs
theorem z7l {p:List Txt} (hs:Sm p) (h:okB p=true):PC Tryz.prog 128 [za1 p] (.tup [zaw (gP p) (rP p),.bool (zkj (zbw p))]) false:=by
 rw [← z4o h]; exact z4p hs
theorem z0t {p:List Txt} (hs:Sm p) (h:okB p=false):PC Tryz.prog 97 [za1 p] (.tup [.nilp,.bool false]) false:=by
 refine PC.of ⟨Tryz.func97,by kernel_rfl,rfl,by kernel_rfl⟩ za4 mixed (by show 1≤Tryz.f97.ntmps; decide) ?_
 refine W.r fun K hK=>?_
 simp(disch:=omega)only[↓RU,RV,RH,↓reduceIte,qE,reduceCtorEq,if_pos]
 apply hK;clear hK K
 refine W.r fun K hK=>?_
 simp(disch:=omega)only[↓RU,RV,RH,↓reduceIte,qE,reduceCtorEq,if_pos,qN]
 refine zag.pc (yaj hs h) rfl (.inr rfl) ?_
 simp(disch:=omega)only[↓RU,RV,RH,↓reduceIte,qE,reduceCtorEq,if_pos,qN]
 apply hK;clear hK K
 refine W.r fun K hK=>?_
 simp(disch:=omega)only[↓RU,RV,RH,↓reduceIte,qE,reduceCtorEq,if_pos,qN]
 apply hK;clear hK K
 refine W.ret ?_
 refine Br rfl ?_
 rfl
theorem zw0 {p:List Txt} (hs:Sm p) (h:okB p=true):PC Tryz.prog 97 [za1 p] (.tup [zaw (gP p) (rP p),.bool (zow p)]) false:=by
 have hg:=z3x h
 have hz:=z3w h
 have hrows:=hs.rows
 refine PC.of ⟨Tryz.func97,by kernel_rfl,rfl,by kernel_rfl⟩ za4 mixed (by show 1≤Tryz.f97.ntmps; decide) ?_
 refine W.r fun K hK=>?_
 simp(disch:=omega)only[↓RU,RV,RH,↓reduceIte,qE,reduceCtorEq,if_pos]
 apply hK;clear hK K
 refine W.r fun K hK=>?_
 simp(disch:=omega)only[↓RU,RV,RH,↓reduceIte,qE,reduceCtorEq,if_pos,qN]
 refine zag.pc (z7l hs h) rfl (.inr rfl) ?_
 simp(disch:=omega)only[↓RU,RV,RH,↓reduceIte,qE,reduceCtorEq,if_pos,qN]
 apply hK;clear hK K
 refine W.r fun K hK=>?_
 cases hf:zkj (zbw p)
 ·skip
  simp(disch:=omega)only[↓RU,RV,RH,↓reduceIte,qE,reduceCtorEq,if_pos,qN]
  apply hK;clear hK K
  refine W.ret ?_
  refine Br rfl ?_
  rw [zow,hf]
  rfl
 skip
 simp(disch:=omega)only[↓RU,RV,RH,↓reduceIte,qE,reduceCtorEq,if_pos,qN,hf]
 refine zag.pc (ya6 hg (rP p) hz) rfl (.inl rfl) ?_
 simp(disch:=omega)only[↓RU,RV,RH,↓reduceIte,qE,reduceCtorEq,if_pos,qN,hf]
 refine zag.pc (zuc (p:=zff (gP p)) (q:=p) (by rw [zwa,hg.1]; omega) hs.rows) rfl (.inl rfl) ?_
 simp(disch:=omega)only[↓RU,RV,RH,↓reduceIte,qE,reduceCtorEq,if_pos,qN,hf]
 apply hK;clear hK K
 refine W.ret ?_
 refine Br rfl ?_
 rw [zow,hf]
 rfl
theorem z0s {p:List Txt} (hs:Sm p):∃ x,PC Tryz.prog 97 [za1 p] (.tup [x,.bool (zfq p)]) false∧(zfq p=true→x=zaw (gP p) (rP p))∧∀ (S:Store) (k:Nat),reify S true (k+1) x=some x:=by
 unfold zfq
 cases h:okB p with
 | false=>exact ⟨_,z0t hs h,(fun h=>by cases h),fun _ _=>rfl⟩
 | true=>exact ⟨_,zw0 hs h,fun _=>rfl,fun _ _=>rfl⟩
theorem zxi {p:List Txt} (hs:Sm p) {x:PV} (hx:PC Tryz.prog 97 [za1 p] (.tup [x,.bool (zfq p)]) false) (hy:zfq p=true→x=zaw (gP p) (rP p)) (hr:∀ (S:Store) (k:Nat),reify S true (k+1) x=some x):PC Tryz.prog 69 [za1 p] (.tup [x,.bool (zfc p)]) false:=by
 refine PC.of ⟨Tryz.func69,by kernel_rfl,rfl,by kernel_rfl⟩ za4 mixed (by show 1≤Tryz.f69.ntmps; decide) ?_
 refine W.r fun K hK=>?_
 simp(disch:=omega)only[↓RU,RV,RH,↓reduceIte,qE,reduceCtorEq,if_pos]
 apply hK;clear hK K
 refine W.r fun K hK=>?_
 simp(disch:=omega)only[↓RU,RV,RH,↓reduceIte,qE,reduceCtorEq,if_pos,qN]
 refine zag.pc (hx) rfl (.inr rfl) ?_
 simp(disch:=omega)only[↓RU,RV,RH,↓reduceIte,qE,reduceCtorEq,if_pos,qN]
 apply hK;clear hK K
 refine W.r fun K hK=>?_
 cases hf:zfq p
 ·skip
  simp(disch:=omega)only[↓RU,RV,RH,↓reduceIte,qE,reduceCtorEq,if_pos,qN]
  apply hK;clear hK K
  refine W.ret ?_
  refine Br rfl ?_
  rw [zfc,hf]
  exact zmc (k:=9) (hr _ 8) rfl
 skip
 have hxe:=hy hf
 subst hxe
 have hok:okB p=true:=by unfold zfq at hf; rw [qB]at hf; exact hf.1
 have hg:=z3x hok
 simp(disch:=omega)only[↓RU,RV,RH,↓reduceIte,qE,reduceCtorEq,if_pos,qN,hf]
 refine zag.pc (z2m hg (rP p)) rfl (.inl rfl) ?_
 simp(disch:=omega)only[↓RU,RV,RH,↓reduceIte,qE,reduceCtorEq,if_pos,qN,hf]
 apply hK;clear hK K
 refine W.ret ?_
 refine Br rfl ?_
 rw [zfc,hf]
 rfl
theorem z4c {p:List Txt} (h:zfc p=true):okB p=true∧zfc p=true:=by
 refine ⟨?_,h⟩
 unfold zfc zfq at h
 simp only[qB]at h
 exact h.1.1
theorem z08 {p:List Txt} (hs:Sm p):∃ x,PC Tryz.prog 69 [za1 p] (.tup [x,.bool (zfc p)]) false∧(zfc p=true→x=zaw (gP p) (rP p))∧∀ (S:Store) (k:Nat),reify S true (k+1) x=some x:=by
 obtain ⟨x,h1,h2,h3⟩:=z0s hs
 refine ⟨x,zxi hs h1 h2 h3,fun h=>h2 ?_,h3⟩
 unfold zfc at h
 rw [qB]at h
 exact h.1
def Same (n:Nat) (M:List (List Bool)) (ms:List Nat):Prop:=Sq n M∧ms.length=n∧∀ a b,a<n→b<n→zc7 M a b=zr1 ms a b
theorem zkk {n:Nat} {M:List (List Bool)} (h:Sq n M) {a b x y:Nat} {v:Bool} (ha:a<n) (hb:b<n):zc7 (z1r M a b v) x y=if x=a∧y=b then v else zc7 M x y:=by
 obtain ⟨row,hr,hl,-⟩:=h.at_ ha hb
 rw [yau hr]
 unfold zc7
 rw [List.getElem?_set]
 by_cases hx:a=x
 ·subst hx
  rw [if_pos rfl,if_pos (by rw [h.1]; exact ha),Option.getD_some,List.getElem?_set,hr]
  by_cases hy:b=y
  ·subst hy
   rw [if_pos rfl,if_pos (by omega),if_pos ⟨rfl,rfl⟩]; rfl
  rw [if_neg hy,if_neg (fun h=>hy h.2.symm)]; rfl
 rw [if_neg hx,if_neg (fun h=>hx h.1.symm)]
theorem zyi {n:Nat} {M:List (List Bool)} (h:Sq n M) {k a:Nat} (hk:k<n) (ha:a<n):∀ i,i≤n→Sq n ((List.range i).foldl (clB k a) M) ∧
  ∀ x y,x<n→y<n→zc7 ((List.range i).foldl (clB k a) M) x y=if x=a∧y<i then zc7 M a y || (zc7 M a k && zc7 M k y) else zc7 M x y
 | 0,_=>⟨h,fun x y _ _=>by simp⟩
 | i+1,hi=>by
  obtain ⟨h1,h2⟩:=zyi h hk ha i (by omega)
  rw [ze5]
  generalize (List.range i).foldl (clB k a) M=X at h1 h2 ⊢
  refine ⟨h1.clB ha,fun x y hx hy=>?_⟩
  unfold clB
  rw [zkk h1 ha (by omega),h2 a i ha (by omega),h2 a k ha hk,h2 k i hk (by omega),h2 x y hx hy]
  have e1:(if a=a∧k<i then zc7 M a k || (zc7 M a k && zc7 M k k) else zc7 M a k)=zc7 M a k:=by
   split
   ·cases zc7 M a k <;> simp
   rfl
  have e2:(if k=a∧i<i then zc7 M a i || (zc7 M a k && zc7 M k i) else zc7 M k i)=zc7 M k i:=by rw [if_neg (by omega)]
  have e3:(if a=a∧i<i then zc7 M a i || (zc7 M a k && zc7 M k i) else zc7 M a i)=zc7 M a i:=by rw [if_neg (by omega)]
  rw [e1,e2,e3]
  by_cases hxa:x=a
  ·subst hxa
   by_cases hyi:y=i
   ·subst hyi; rw [if_pos ⟨rfl,rfl⟩,if_pos ⟨rfl,by omega⟩]
   rw [if_neg (fun h=>hyi h.2)]
   by_cases hlt:y<i
   ·rw [if_pos ⟨rfl,hlt⟩,if_pos ⟨rfl,by omega⟩]
   rw [if_neg (fun h=>hlt h.2),if_neg (fun h=>hlt (by have:=h.2; omega))]
  rw [if_neg (fun h=>hxa h.1),if_neg (fun h=>hxa h.1),if_neg (fun h=>hxa h.1)]
theorem ztu {ms:List Nat} {a m x y:Nat} (ha:a<ms.length):zr1 (ms.set a m) x y=if x=a then m.testBit y else zr1 ms x y:=by
 unfold zr1
 rw [List.getElem?_set]
 by_cases h:a=x
 ·subst h; rw [if_pos rfl,if_pos ha,if_pos rfl]; rfl
 rw [if_neg h,if_neg (Ne.symm h)]
theorem z6b {c a:Nat} {ms:List Nat}:(z8b c ms a).length=ms.length:=by unfold z8b; split <;> simp
theorem Same.clA {n:Nat} {M:List (List Bool)} {ms:List Nat} (h:Same n M ms) {k a:Nat} (hk:k<n) (ha:a<n):Same n (clA n k M a) (z8b k ms a):=by
 obtain ⟨h1,h2,h3⟩:=h
 obtain ⟨k1,k2⟩:=zyi h1 hk ha n (qR _)
 refine ⟨k1,by rw [z6b,h2],fun x y hx hy=>?_⟩
 unfold Fw.clA
 rw [k2 x y hx hy]
 obtain ⟨m,hm,-⟩:=zaf (show a<ms.length by omega)
 obtain ⟨c,hc,-⟩:=zaf (show k<ms.length by omega)
 have hak:zc7 M a k=m.testBit k:=by rw [h3 a k ha hk,znm hm]
 cases hb:m.testBit k with
 | true =>
  rw [z6c hm hc hb,ztu (by omega),hak,hb]
  by_cases hxa:x=a
  ·subst hxa
   rw [if_pos ⟨rfl,hy⟩,if_pos rfl,Nat.testBit_or,h3 x y hx hy,h3 k y hk hy,znm hm,znm hc,Bool.true_and]
  rw [if_neg (fun h=>hxa h.1),if_neg hxa,h3 x y hx hy]
 | false =>
  rw [z9j hm hb,hak,hb]
  by_cases hxa:x=a
  ·subst hxa; rw [if_pos ⟨rfl,hy⟩,Bool.false_and,Bool.or_false,h3 x y hx hy]
  rw [if_neg (fun h=>hxa h.1),h3 x y hx hy]
theorem Same.fold {n:Nat} {f:List (List Bool)→Nat→List (List Bool)} {g:List Nat→Nat→List Nat}:∀ (i:Nat) {M:List (List Bool)} {ms:List Nat},i≤n→(∀ M ms j,j<n→Same n M ms→Same n (f M j) (g ms j))→Same n M ms→Same n ((List.range i).foldl f M) ((List.range i).foldl g ms)
 | 0,_,_,_,_,h=>h
 | i+1,M,ms,hi,hs,h=>by
  rw [ze5,ze5]
  exact hs _ _ i (by omega) (Same.fold i (by omega) hs h)
theorem Same.close {p:List Txt} {kind:Int} {n:Nat} {M:List (List Bool)} (h:Same n M (just p kind)):Same n (zh4 M) (ybd p kind):=by
 unfold zh4 ybd
 rw [h.1.1,h.2.1]
 exact Same.fold n (qR _) (fun _ _ k hk h=>Same.fold n (qR _) (fun _ _ a ha h=>h.clA hk ha) h) h
section
def ahead (n:Nat) (rk:Nat→Nat) (b:Nat):Nat:=(List.range n).countP fun a=>decide (rk a<rk b)
section
variable {M:List (List Bool)} {ms:List Nat} {ws:List Int} {n:Nat} {rk:Nat→Nat}
def Ge (n:Nat) (o out:List Int):Prop:=∀ b,b<n→zhg o b≤zhg out b
theorem Ge.refl (o:List Int):Ge n o o:=fun _ _=>Int.le_refl _
theorem Ge.trans {a b c:List Int} (h:Ge n a b) (k:Ge n b c):Ge n a c:=fun x hx=>Int.le_trans (h x hx) (k x hx)
theorem z6t {l:List Int} {b y:Nat} {v:Int} (hb:b<l.length):zhg (l.set b v) y=if y=b then v else zhg l y:=by
 unfold zhg
 rw [List.getElem?_set]
 by_cases h:b=y
 ·subst h; rw [if_pos rfl,if_pos hb,if_pos rfl]; rfl
 rw [if_neg h,if_neg (Ne.symm h)]
end
end
def kk (lv:Bool):Int:=if lv then 1 else 0
def ztk (w:Wall):List Int:=[kk w.level,w.line,w.fr,w.long]
def zsr (L:Nat) (f:Int) (i:Nat):List (List Int):=if 0≤f then [[(L:Int),f,(i:Int) - f]] else []
theorem zrw {g:List (List Int)} {q:List Txt} {lv:Bool} {L P:Nat} (hd:∀ j,j<P→zhz g lv L j=ze3 q L j) {ws0:List Wall} {pre s0:List (List Int)} (h0:ws0.map ztk=pre++s0.map (kk lv :: ·)):∀ i,i≤P →
  -1≤(zds q L s0 i).1∧(zd3 g lv L ws0 i).2=decide (0≤(zds q L s0 i).1) ∧
  (zd3 g lv L ws0 i).1.map ztk=pre++((zds q L s0 i).2++zsr L (zds q L s0 i).1 i).map (kk lv :: ·)
 | 0,_=>by
  refine ⟨by simp [zds],by simp [zka,zds],?_⟩
  rw [zka]
  simpa [zds,zsr] using h0
 | i+1,hi=>by
  obtain ⟨h1,h2,h3⟩:=zrw hd h0 i (by omega)
  have hdi:=hd i (by omega)
  rw [zj9]
  unfold zds zd2
  rw [hdi]
  generalize zd3 g lv L ws0 i=s at h2 h3 ⊢
  obtain ⟨ws,op⟩:=s
  generalize zds q L s0 i=u at h1 h2 h3 ⊢
  obtain ⟨f,l⟩:=u
  simp only at h1 h2 h3 ⊢
  cases hw:ze3 q L i with
  | false =>
   simp only[zhf,Bool.false_and,qF,if_false,Bool.not_false,Bool.true_and,decide_eq_true_eq]
   by_cases hf:0≤f
   ·rw [if_pos hf]
    refine ⟨by simp,by simp,?_⟩
    rw [h3]
    simp [zsr,hf]
   rw [if_neg hf]
   refine ⟨h1,by simp [hf],?_⟩
   rw [h3]
   simp [zsr,hf]
  | true =>
   simp only[zhf,Bool.true_and,Bool.not_true,Bool.false_and,qF,if_false,if_true,decide_eq_true_eq]
   by_cases hf:0≤f
   ·have hop:op=true:=by rw [h2]; simpa using hf
    rw [if_pos hop,if_neg (show ¬ f<0 by omega)]
    refine ⟨h1,by simp [hf],?_⟩
    have hne:ws≠[]:=by
     rintro rfl
     simp [zsr,hf]at h3
    obtain ⟨ws,w,rfl⟩:=z95 hne
    simp only[zsr,hf,if_true,List.map_append,List.map_cons,List.map_nil,← List.append_assoc]at h3 ⊢
    obtain ⟨e1,e2⟩:=List.append_inj' h3 rfl
    simp only[List.dropLast_concat,List.getLast?_append,List.getLast?_singleton,Option.some_or,qO,Option.toList_some,List.map_append,List.map_cons,List.map_nil,e1]
    simp only[List.cons.injEq,and_true]at e2
    have e3:w.level=lv∧w.line=L∧w.fr=f∧w.long=i - f:=by
     simp only[ztk,List.cons.injEq,and_true]at e2
     refine ⟨?_,e2.2.1,e2.2.2.1,e2.2.2.2⟩
     have:=e2.1
     unfold kk at this
     cases hwl:w.level <;> cases hlv:lv <;> simp [hwl,hlv]at this ⊢
    obtain ⟨e4,e5,e6,e7⟩:=e3
    simp only[ztk,e4,e5,e6,e7,List.append_cancel_left_eq,List.cons.injEq,true_and,and_true]
    omega
   have hop:op=false:=by rw [h2]; simpa using hf
   rw [if_neg (show ¬ op=true by rw [hop]; exact Bool.false_ne_true),if_pos (show f<0 by omega)]
   refine ⟨by omega,by simp,?_⟩
   simp only[zsr,hf,if_false,qN]at h3
   simp only[zsr,List.map_append,h3,List.map_cons,List.map_nil]
   rw [if_pos (by omega)]
   simp [ztk]
   omega
theorem z1p {g:List (List Int)} {q:List Txt} {lv:Bool} {L:Nat} (hd:∀ j,j<q.length→zhz g lv L j=ze3 q L j) {ws0:List Wall} {pre s0:List (List Int)} (h0:ws0.map ztk=pre++s0.map (kk lv :: ·)) :
  (zd3 g lv L ws0 q.length).1.map ztk=pre++(zds q L s0 (q.length+1)).2.map (kk lv :: ·):=by
 obtain ⟨h1,-,h3⟩:=zrw hd h0 q.length (qR _)
 rw [h3]
 congr 2
 have e:zds q L s0 (q.length+1)=zd2 (ze3 q L q.length) L q.length (zds q L s0 q.length):=rfl
 rw [e,zp2]
 clear e h3 h1
 generalize zds q L s0 q.length=u
 obtain ⟨f,l⟩:=u
 unfold zd2
 simp only[Bool.false_and,qF,if_false,Bool.not_false,Bool.true_and,decide_eq_true_eq,zsr]
 split <;> simp
theorem zj8 {g:List (List Int)} {q:List Txt} {lv:Bool} {n:Nat} (hd:∀ L j,1≤L→L<n→j<q.length→zhz g lv L j=ze3 q L j) {ws0:List Wall}:∀ i,i≤n →
  (zdk g lv q.length ws0 i).map ztk=ws0.map ztk++(zcv q i).map (kk lv :: ·)
 | 0,_=>by simp [zdk,zcv]
 | i+1,hi=>by
  have ih:=zj8 hd (ws0:=ws0) i (by omega)
  by_cases h1:1≤i
  ·rw [zio h1,zmk h1]
   exact z1p (fun j hj=>hd i j h1 (by omega) hj) ih
  obtain rfl:i=0:=by omega
  simpa [zdk,zcv] using ih
theorem z1o {g:List (List Int)} {p:List Txt} (hg:zcp p=true) (hz:∀ i j,i<p.length→j<(zax p).length→gz g i j=zao p i j):(zhw g p.length (zax p).length).map ztk=walls p:=by
 have hsm:=zbk hg
 obtain ⟨row0,hrow0,hrm0⟩:=zaf hsm.1
 have hhd:=zcj hrow0
 have hw1:=zep hg hrow0
 have htl:=zhe (p:=p)
 have hth:=zlj (p:=p) (by rw [hhd]; omega)
 have d0:∀ L j,1≤L→L<(zax p).length→j<p.length→zhz g false L j=ze3 p L j:=by
  intro L j h1 h2 h3
  unfold zhz zcc ze3
  simp only[qF,if_false]
  rw [hz j (L - 1) h3 (by omega),hz j L h3 h2]
  simp [h3]
 have d1:∀ L j,1≤L→L<p.length→j<(zcr p).length→zhz g true L j=ze3 (zcr p) L j:=by
  intro L j h1 h2 h3
  have h3':=h3
  rw [htl]at h3'
  unfold zhz zcc ze3
  simp only[if_true]
  rw [hz (L - 1) j (by omega) h3',hz L j h2 h3',zjp (by omega) h3',zjp h2 h3']
  simp [h3]
 unfold zhw
 have e1:=zj8 (lv:=true) d1 (ws0:=zdk g false p.length [] (zax p).length) p.length (qR _)
 have e0:=zj8 (lv:=false) d0 (ws0:=[]) (zax p).length (qR _)
 rw [htl]at e1
 rw [e1,e0]
 unfold walls uprights
 rw [hth]
 simp [kk]
theorem Same.orBit {n:Nat} {M:List (List Bool)} {ms:List Nat} (h:Same n M ms) {a b:Nat} (ha:a<n) (hb:b<n):Same n (z1r M a b true) (orBit ms a b):=by
 obtain ⟨h1,h2,h3⟩:=h
 obtain ⟨m,hm,-⟩:=zaf (show a<ms.length by omega)
 rw [z68 hm]
 refine ⟨h1.set ha,by simp [h2],fun x y hx hy=>?_⟩
 rw [zkk h1 ha hb,ztu (by omega)]
 by_cases hxa:x=a
 ·subst hxa
  rw [if_pos rfl,Nat.testBit_or,Nat.testBit_two_pow,h3 x y hx hy,znm hm]
  by_cases hyb:y=b
  ·subst hyb; simp
  rw [if_neg (fun h=>hyb h.2),decide_eq_false (fun h=>hyb h.symm),Bool.or_false]
 rw [if_neg (fun h=>hxa h.1),if_neg hxa,h3 x y hx hy]
def Rm (n:Nat) (l:List Int):Prop:=∀ x∈l,0≤x∧x<n
theorem Same.relB {n:Nat} {a:Int} (ha:0≤a∧a<n):∀ {bs:List Int} {M:List (List Bool)} {ms:List Nat},Rm n bs→Same n M ms→Same n (relB a bs M) (yb0 a.toNat ms bs)
 | [],_,_,_,h=>h
 | b::bs,M,ms,hb,h=>by
  have hb0:=hb b (by simp)
  exact Same.relB ha (bs:=bs) (fun x hx=>hb x (by simp [hx])) (h.orBit (by omega) (by omega))
theorem Same.relW {n:Nat} {bs:List Int} (hb:Rm n bs):∀ {la:List Int} {M:List (List Bool)} {ms:List Nat},Rm n la→Same n M ms→Same n (relW M la bs) (ybz bs ms la)
 | [],_,_,_,h=>h
 | a::la,M,ms,ha,h=>Same.relW hb (la:=la) (fun x hx=>ha x (by simp [hx])) (h.relB (ha a (by simp)) hb)
theorem zyn {l:List Int} {x:Int}:ddp (l++[x])=ztm (ddp l) x:=by simp [ddp,List.foldl_append]
theorem zz9 {g:List (List Int)} {p:List Txt} {lv:Bool} {L fr:Nat}:∀ n,(∀ j,fr≤j→j<fr+n→zcc g lv L j=if lv then (zao p (L - 1) j,zao p L j) else (zao p j (L - 1),zao p j L)) →
  (ddp (zei g lv L fr n).1,ddp (zei g lv L fr n).2)=zpx p (kk lv).toNat L fr n
 | 0,_=>by simp [zei,ddp,zpx]
 | n+1,h=>by
  have ih:=zz9 n fun j a b=>h j a (by omega)
  have hx:=h (fr+n) (by omega) (by omega)
  rw [zts,ztt,zyn,zyn,hx]
  unfold zpx
  rw [← ih]
  cases lv <;> simp [kk]
theorem zmi {g:List (List Int)} {p:List Txt} (hz:∀ i j,i<p.length→j<(zax p).length→gz g i j=zao p i j) {w:Wall} (hw:zwh g p.length (zax p).length w):zbo g w=zz8 p (ztk w):=by
 obtain ⟨line,fr,long,he,hl,hin⟩:=hw
 obtain ⟨lv,wl,wf,wg⟩:=w
 simp only[Wall.mk.injEq,true_and]at he hin
 obtain ⟨rfl,rfl,rfl⟩:=he
 unfold zbo zz8 ztk
 simp only[Int.toNat_natCast]
 refine zz9 long fun j a b=>?_
 obtain ⟨⟨h1,h2⟩,-⟩:=hin j a b
 unfold zcc
 cases lv with
 | false =>
  simp only[qF,if_false]at h2 ⊢
  rw [hz j (line - 1) h2.2 (by omega),hz j line h2.2 h2.1]
 | true =>
  simp only[if_true]at h2 ⊢
  rw [hz (line - 1) j (by omega) h2.2,hz line j h2.1 h2.2]
theorem Same.empty {n:Nat}:Same n (zek n) (List.replicate n 0):=by
 refine ⟨zg5 n,by simp,fun a b ha hb=>?_⟩
 simp [zc7,zek,zr1,ha,hb]
theorem zz2 {g:List (List Int)} {p:List Txt} {n:Nat} (hz:∀ i j,i<p.length→j<(zax p).length→gz g i j=zao p i j) (hrm:zx9 g p.length (zax p).length n):∀ (ws:List Wall),(∀ w∈ws,zwh g p.length (zax p).length w) →
  ∀ {M:List (List Bool) × List (List Bool)} {m0 m1:List Nat},Same n M.1 m0→Same n M.2 m1→Same n (ws.foldl (zu4 g) M).1 ((ws.map ztk).foldl (z28 p 0) m0)∧Same n (ws.foldl (zu4 g) M).2 ((ws.map ztk).foldl (z28 p 1) m1)
 | [],_,_,_,_,h0,h1=>⟨h0,h1⟩
 | w::ws,hws,M,m0,m1,h0,h1=>by
  have hw:=hws w (by simp)
  obtain ⟨hr1,hr2⟩:=zhq hrm hw
  rw [zmi hz hw]at hr1 hr2
  rw [List.foldl_cons,List.map_cons,List.foldl_cons,List.foldl_cons]
  refine zz2 hz hrm ws (fun w hw=>hws w (by simp [hw])) ?_ ?_
  ·unfold zu4 z28
   rw [zmi hz hw]
   cases hlv:w.level with
   | false=>simpa [ztk,kk,hlv] using h0.relW hr2 hr1
   | true=>simpa [ztk,kk,hlv] using h0
  unfold zu4 z28
  rw [zmi hz hw]
  cases hlv:w.level with
  | false=>simpa [ztk,kk,hlv] using h1
  | true=>simpa [ztk,kk,hlv] using h1.relW hr2 hr1
theorem z7s {g:List (List Int)} {p:List Txt} {n:Nat} (hg:zcp p=true) (hn:(zcy p).toNat=n) (hz:∀ i j,i<p.length→j<(zax p).length→gz g i j=zao p i j) (hrm:zx9 g p.length (zax p).length n) :
  Same n (zur g p.length (zax p).length n) (ybd p 0)∧Same n (zmn g p.length (zax p).length n) (ybd p 1):=by
 obtain ⟨h0,h1⟩:=zz2 hz hrm (zhw g p.length (zax p).length) zfh (M:=(zek n,zek n)) Same.empty Same.empty
 rw [z1o hg hz]at h0 h1
 have e:List.replicate n 0=List.replicate (zcy p).toNat 0:=by rw [hn]
 rw [e]at h0 h1
 exact ⟨h0.close,h1.close⟩
def sN:Nat→(Nat→Nat)→Nat
 | 0,_=>0
 | n+1,f=>sN n f+f n
theorem ze8 {f g:Nat→Nat}:∀ {n:Nat},(∀ i,i<n→f i=g i)→sN n f=sN n g
 | 0,_=>rfl
 | n+1,h=>by rw [sN,sN,ze8 (n:=n) fun i hi=>h i (by omega),h n (by omega)]
theorem z42 {f g:Nat→Nat}:∀ {n:Nat},(∀ i,i<n→f i≤g i)→sN n f≤sN n g
 | 0,_=>qR _
 | n+1,h=>by
  have:=z42 (n:=n) fun i hi=>h i (by omega)
  have:=h n (by omega)
  simp only[sN]; omega
theorem z7r {f g:Nat→Nat}:∀ {n:Nat},(∀ i,i<n→f i≤g i)→sN n f=sN n g→∀ i,i<n→f i=g i
 | 0,_,_,i,hi=>by omega
 | n+1,h,e,i,hi=>by
  have h1:=z42 (n:=n) fun i hi=>h i (by omega)
  have h2:=h n (by omega)
  simp only[sN]at e
  by_cases hin:i=n
  ·subst hin; omega
  exact z7r (n:=n) (fun i hi=>h i (by omega)) (by omega) i (by omega)
theorem zxr:∀ n,sN n (fun _=>0)=0
 | 0=>rfl
 | n+1=>by rw [sN,zxr n]
theorem z83:∀ n,sN n (fun _=>1)=n
 | 0=>rfl
 | n+1=>by rw [sN,z83 n]
theorem zz1 (c:Nat):∀ n,sN n (fun _=>c)=n*c
 | 0=>by simp [sN]
 | n+1=>by rw [sN,zz1 c n,Nat.succ_mul]
theorem z82 {f g:Nat→Nat}:∀ n,sN n (fun i=>f i+g i)=sN n f+sN n g
 | 0=>rfl
 | n+1=>by rw [sN,sN,sN,z82 n]; omega
theorem zxq {f:Nat→Nat→Nat} {m:Nat}:∀ n,sN n (fun i=>sN m (fun j=>f i j))=sN m (fun j=>sN n (fun i=>f i j))
 | 0=>by simp only[sN]; rw [zxr]
 | n+1=>by
  simp only[sN]
  rw [zxq n,z82]
theorem z43 {f:Nat→Nat} {c:Nat}:∀ n,sN n (fun i=>f i*c)=sN n f*c
 | 0=>by simp [sN]
 | n+1=>by rw [sN,sN,z43 n,Nat.add_mul]
def b1 (b:Bool):Nat:=if b then 1 else 0
def cnt (H W:Nat) (f:Nat→Nat→Bool):Nat:=sN H fun i=>sN W fun j=>b1 (f i j)
theorem z9l {a b:Bool} (h:a=true→b=true):b1 a≤b1 b:=by
 cases a with
 | false=>simp [b1]
 | true=>rw [h rfl]; exact qR _
theorem ybk {a b:Bool} (h:b1 a=b1 b):a=b:=by cases a <;> cases b <;> simp [b1]at h ⊢
theorem ybq {H W:Nat} {f g:Nat→Nat→Bool} (h:∀ i j,i<H→j<W→f i j=true→g i j=true):cnt H W f≤cnt H W g :=
 z42 fun i hi=>z42 fun j hj=>z9l (h i j hi hj)
theorem ybp {H W:Nat} {f g:Nat→Nat→Bool} (h:∀ i j,i<H→j<W→f i j=true→g i j=true) (e:cnt H W f=cnt H W g):∀ i j,i<H→j<W→f i j=g i j:=by
 intro i j hi hj
 have h1:=z7r (n:=H) (fun i hi=>z42 fun j hj=>z9l (h i j hi hj)) e i hi
 exact ybk (z7r (n:=W) (fun j hj=>z9l (h i j hi hj)) h1 j hj)
theorem z17 {H W:Nat} {f g:Nat→Nat→Bool} (h:∀ i j,i<H→j<W→f i j=g i j):cnt H W f=cnt H W g :=
 ze8 fun i hi=>ze8 fun j hj=>by rw [h i j hi hj]
theorem zv3 {a k:Nat}:∀ {n:Nat},a+k≤n→sN n (fun i=>b1 (decide (a≤i) && decide (i<a+k)))=k
 | 0,h=>by simp [sN]; omega
 | n+1,h=>by
  rw [sN]
  by_cases hn:a+k≤n
  ·rw [zv3 hn,decide_eq_false (p:=n<a+k) (by omega),Bool.and_false]; rfl
  have hnk:n+1=a+k:=by omega
  cases k with
  | zero =>
   have:sN n (fun i=>b1 (decide (a≤i) && decide (i<a+0)))=sN n (fun _=>0):=ze8 fun i hi=>by
    rw [decide_eq_false (p:=a≤i) (by omega)]; rfl
   rw [this,zxr,decide_eq_false (p:=a≤n) (by omega)]; rfl
  | succ k =>
   have e:sN n (fun i=>b1 (decide (a≤i) && decide (i<a+(k+1))))=sN n (fun i=>b1 (decide (a≤i) && decide (i<a+k))):=ze8 fun i hi=>by
    congr 2
    apply decide_eq_decide.2; omega
   rw [e,zv3 (k:=k) (by omega),decide_eq_true (p:=a≤n) (by omega),decide_eq_true (p:=n<a+(k+1)) (by omega)]
   rfl
def inR (t l h w i j:Nat):Bool:=(decide (t≤i) && decide (i<t+h)) && (decide (l≤j) && decide (j<l+w))
theorem ybj {a b:Bool}:b1 (a && b)=b1 a*b1 b:=by cases a <;> cases b <;> rfl
theorem z6m {H W t l h w:Nat} (h1:t+h≤H) (h2:l+w≤W):cnt H W (inR t l h w)=h*w:=by
 unfold cnt inR
 have e:(fun i=>sN W fun j=>b1 ((decide (t≤i) && decide (i<t+h)) && (decide (l≤j) && decide (j<l+w))))=fun i=>b1 (decide (t≤i) && decide (i<t+h))*w:=by
  funext i
  have:(fun j=>b1 ((decide (t≤i) && decide (i<t+h)) && (decide (l≤j) && decide (j<l+w))))=fun j=>b1 (decide (l≤j) && decide (j<l+w))*b1 (decide (t≤i) && decide (i<t+h)):=by
   funext j; rw [ybj,Nat.mul_comm]
  rw [this,z43,zv3 h2,Nat.mul_comm]
 rw [e,z43,zv3 h1]
theorem zwt {H W n:Nat} {z:Nat→Nat→Nat} (hz:∀ i j,i<H→j<W→z i j<n):sN n (fun r=>cnt H W fun i j=>decide (z i j=r))=H*W:=by
 unfold cnt
 rw [zxq]
 have:sN H (fun i=>sN n fun r=>sN W fun j=>b1 (decide (z i j=r)))=sN H (fun _=>W):=ze8 fun i hi=>by
  rw [zxq]
  have:sN W (fun j=>sN n fun r=>b1 (decide (z i j=r)))=sN W (fun _=>1):=ze8 fun j hj=>by
   have h1:=hz i j hi hj
   have e:sN n (fun r=>b1 (decide (z i j=r)))=sN n (fun r=>b1 (decide (z i j≤r) && decide (r<z i j+1))):=ze8 fun r hr=>by
    congr 1
    rw [Bool.eq_iff_iff]
    simp only[qB,decide_eq_true_eq]
    omega
   rw [e,zv3 (by omega)]
  rw [this,z83]
 rw [this,zz1]
structure Hull (pr:Nat→Nat→Prop) (t l lo ri:Int):Prop where
 inn:∀ a b,pr a b→t≤a∧(a:Int)≤lo∧l≤b∧(b:Int)≤ri
 at_:∃ a b:Nat,pr a b∧(a:Int)=t
 al:∃ a b:Nat,pr a b∧(b:Int)=l
 ao:∃ a b:Nat,pr a b∧(a:Int)=lo
 ar:∃ a b:Nat,pr a b∧(b:Int)=ri
theorem Hull.uniq {pr:Nat→Nat→Prop} {t l lo ri t' l' lo' ri':Int} (h:Hull pr t l lo ri) (k:Hull pr t' l' lo' ri'):t=t'∧l=l'∧lo=lo'∧ri=ri':=by
 obtain ⟨a1,b1,p1,e1⟩:=h.at_
 obtain ⟨a2,b2,p2,e2⟩:=h.al
 obtain ⟨a3,b3,p3,e3⟩:=h.ao
 obtain ⟨a4,b4,p4,e4⟩:=h.ar
 obtain ⟨a5,b5,p5,e5⟩:=k.at_
 obtain ⟨a6,b6,p6,e6⟩:=k.al
 obtain ⟨a7,b7,p7,e7⟩:=k.ao
 obtain ⟨a8,b8,p8,e8⟩:=k.ar
 have q1:=k.inn _ _ p1
 have q2:=k.inn _ _ p2
 have q3:=k.inn _ _ p3
 have q4:=k.inn _ _ p4
 have q5:=h.inn _ _ p5
 have q6:=h.inn _ _ p6
 have q7:=h.inn _ _ p7
 have q8:=h.inn _ _ p8
 omega
theorem Hull.congr {pr pr':Nat→Nat→Prop} {t l lo ri:Int} (h:Hull pr t l lo ri) (e:∀ a b,pr a b↔pr' a b):Hull pr' t l lo ri:=by
 have:pr=pr':=by funext a b; exact propext (e a b)
 exact this ▸ h
theorem Hull.add {pr:Nat→Nat→Prop} {t l lo ri:Int} (h:Hull pr t l lo ri) (i j:Nat):Hull (fun a b=>pr a b∨(a=i∧b=j)) (min t i) (min l j) (max lo i) (max ri j):=by
 refine ⟨?_,?_,?_,?_,?_⟩
 ·rintro a b (p | ⟨rfl,rfl⟩)
  ·have:=h.inn a b p; omega
  omega
 ·by_cases e:t≤i
  ·obtain ⟨a,b,p,q⟩:=h.at_; exact ⟨a,b,.inl p,by omega⟩
  exact ⟨i,j,.inr ⟨rfl,rfl⟩,by omega⟩
 ·by_cases e:l≤j
  ·obtain ⟨a,b,p,q⟩:=h.al; exact ⟨a,b,.inl p,by omega⟩
  exact ⟨i,j,.inr ⟨rfl,rfl⟩,by omega⟩
 ·by_cases e:(i:Int)≤lo
  ·obtain ⟨a,b,p,q⟩:=h.ao; exact ⟨a,b,.inl p,by omega⟩
  exact ⟨i,j,.inr ⟨rfl,rfl⟩,by omega⟩
 by_cases e:(j:Int)≤ri
 ·obtain ⟨a,b,p,q⟩:=h.ar; exact ⟨a,b,.inl p,by omega⟩
 exact ⟨i,j,.inr ⟨rfl,rfl⟩,by omega⟩
theorem Hull.one {pr:Nat→Nat→Prop} (h:∀ a b,¬ pr a b) (i j:Nat):Hull (fun a b=>pr a b∨(a=i∧b=j)) i j i j:=by
 refine ⟨?_,⟨i,j,.inr ⟨rfl,rfl⟩,rfl⟩,⟨i,j,.inr ⟨rfl,rfl⟩,rfl⟩,⟨i,j,.inr ⟨rfl,rfl⟩,rfl⟩,⟨i,j,.inr ⟨rfl,rfl⟩,rfl⟩⟩
 rintro a b (p | ⟨rfl,rfl⟩)
 ·exact absurd p (h a b)
 omega
def Gone (W i j a b:Nat):Prop:=b<W∧(a<i∨(a=i∧b<j))
theorem zkl {W i j a b:Nat} (hj:j<W):Gone W i (j+1) a b↔Gone W i j a b∨(a=i∧b=j):=by unfold Gone; omega
theorem zy2 {W i a b:Nat}:Gone W i W a b↔Gone W (i+1) 0 a b:=by unfold Gone; omega
def Val (z:Nat→Nat→Int) (W i j:Nat) (v:Int) (a b:Nat):Prop:=z a b=v∧Gone W i j a b
theorem zx5 {z:Nat→Nat→Int} {W i j:Nat} {v:Int} (hj:j<W) (h:z i j=v) (a b:Nat):(Val z W i j v a b∨(a=i∧b=j))↔Val z W i (j+1) v a b:=by
 unfold Val
 rw [zkl hj]
 constructor
 ·rintro (⟨h1,h2⟩ | ⟨rfl,rfl⟩)
  ·exact ⟨h1,.inl h2⟩
  exact ⟨h,.inr ⟨rfl,rfl⟩⟩
 rintro ⟨h1,h2 | h2⟩
 ·exact .inl ⟨h1,h2⟩
 exact .inr h2
theorem zth {z:Nat→Nat→Int} {W i j:Nat} {v:Int} (hj:j<W) (h:z i j≠v) (a b:Nat):Val z W i j v a b↔Val z W i (j+1) v a b:=by
 unfold Val
 rw [zkl hj]
 constructor
 ·rintro ⟨h1,h2⟩; exact ⟨h1,.inl h2⟩
 rintro ⟨h1,h2 | ⟨rfl,rfl⟩⟩
 ·exact ⟨h1,h2⟩
 exact absurd h1 h
theorem z51 {z:Nat→Nat→Int} {W i:Nat} {v:Int} (a b:Nat):Val z W i W v a b↔Val z W (i+1) 0 v a b:=by unfold Val; rw [zy2]
def zkc (pr:Nat→Nat→Prop) (b:Rect):Prop:=Hull pr b.row b.col (b.row+b.high - 1) (b.col+b.wide - 1)
theorem zkc.both {pr:Nat→Nat→Prop} {b:Rect} (h:zkc pr b) (i j:Nat):zkc (fun a c=>pr a c∨(a=i∧c=j)) (b.both (zf4 i j)):=by
 have:=Hull.add h i j
 unfold zkc Rect.both zf4
 simp only
 rw [show min b.row (i:Int)+(max (b.row+b.high) ((i:Int)+1) - min b.row (i:Int)) - 1=max (b.row+b.high - 1) i by omega,show min b.col (j:Int)+(max (b.col+b.wide) ((j:Int)+1) - min b.col (j:Int)) - 1=max (b.col+b.wide - 1) j by omega]
 exact this
theorem z67 {i j:Nat}:(zf4 i j).both (zf4 i j)=zf4 i j:=by
 unfold Rect.both zf4
 simp only[Rect.mk.injEq]
 omega
theorem zkc.one {pr:Nat→Nat→Prop} (h:∀ a b,¬ pr a b) (i j:Nat):zkc (fun a b=>pr a b∨(a=i∧b=j)) (zf4 i j):=by
 have:=Hull.one h i j
 unfold zkc zf4
 simp only
 rw [show (i:Int)+1 - 1=i by omega,show (j:Int)+1 - 1=j by omega]
 exact this
theorem zkc.congr {pr pr':Nat→Nat→Prop} {b:Rect} (h:zkc pr b) (e:∀ a c,pr a c↔pr' a c):zkc pr' b:=Hull.congr h e
structure SeInv (z:Nat→Nat→Int) (W i j:Nat) (ks:List Int) (rs:List Rect):Prop where
 nd:ks.Nodup
 len:rs.length=ks.length
 mem:∀ a b,Gone W i j a b→z a b∈ks
 hull:∀ (m:Nat) v b,ks[m]?=some v→rs[m]?=some b→zkc (Val z W i j v) b
theorem zu1 {l:List Int} (h:l.Nodup) {a b:Nat} {v:Int} (ha:l[a]?=some v) (hb:l[b]?=some v):a=b:=by
 obtain ⟨p1,q1⟩:=List.getElem?_eq_some_iff.1 ha
 obtain ⟨p2,q2⟩:=List.getElem?_eq_some_iff.1 hb
 have:=List.pairwise_iff_getElem.1 h
 rcases Nat.lt_trichotomy a b with hlt | heq | hgt
 ·exact absurd (q1.trans q2.symm) (this a b p1 p2 hlt)
 ·exact heq
 exact absurd (q2.trans q1.symm) (this b a p2 p1 hgt)
theorem zh9 {ks:List Int} {z:Int} (h:¬ ks.idxOf z=ks.length):ks[ks.idxOf z]?=some z:=by
 have hl:=zgu (ks:=ks) (z:=z)
 have:z∈ks:=by rw [← List.idxOf_lt_length_iff]; omega
 rw [List.getElem?_eq_getElem (List.idxOf_lt_length_iff.2 this),List.getElem_idxOf]
theorem zo0 {ks:List Int} {z:Int} (h:ks.idxOf z=ks.length):z ∉ ks:=by
 intro hm
 have:=List.idxOf_lt_length_iff.2 hm
 omega
theorem SeInv.step {z:Nat→Nat→Int} {W i j:Nat} {ks:List Int} {rs:List Rect} (h:SeInv z W i j ks rs) (hj:j<W):SeInv z W i (j+1) (zhd ks (z i j)) (zn8 ks rs (z i j) (zf4 i j)):=by
 have hlen:=h.len
 by_cases hin:ks.idxOf (z i j)=ks.length
 ·have hnm:=zo0 hin
  have e1:zhd ks (z i j)=ks++[z i j]:=by simp [zhd,hin]
  have e2:zn8 ks rs (z i j) (zf4 i j)=rs++[zf4 i j]:=by
   unfold zn8 zh2
   rw [if_pos hin,hin,← hlen,List.getD_eq_getElem?_getD]
   simp [z67]
  rw [e1,e2]
  refine ⟨?_,by simp [hlen],?_,?_⟩
  ·rw [List.nodup_append]
   refine ⟨h.nd,by simp,?_⟩
   intro a ha b hb
   rw [List.mem_singleton]at hb
   rintro rfl
   exact hnm (hb ▸ ha)
  ·intro a b hab
   rw [zkl hj]at hab
   rcases hab with hab | ⟨rfl,rfl⟩
   ·exact List.mem_append_left _ (h.mem a b hab)
   simp
  intro m v b hm hb
  by_cases hml:m<ks.length
  ·rw [List.getElem?_append_left hml]at hm
   rw [List.getElem?_append_left (by omega)]at hb
   have hv:z i j≠v:=fun e=>hnm (e ▸ List.mem_of_getElem? hm)
   exact (h.hull m v b hm hb).congr (zth hj hv)
  have hml2:=zci hm
  simp only[List.length_append,List.length_singleton]at hml2
  obtain rfl:m=ks.length:=by omega
  rw [List.getElem?_append_right (qR _),Nat.sub_self]at hm
  rw [← hlen,List.getElem?_append_right (qR _),Nat.sub_self]at hb
  simp only[List.getElem?_cons_zero,Option.some.injEq]at hm hb
  subst hm hb
  exact (zkc.one (pr:=Val z W i j (z i j)) (fun a b hab=>hnm (hab.1 ▸ h.mem a b hab.2)) i j).congr (zx5 hj rfl)
 have hk:=zh9 hin
 have hkl:=zci hk
 have e1:zhd ks (z i j)=ks:=by simp [zhd,hin]
 obtain ⟨b0,hb0,-⟩:=zaf (show ks.idxOf (z i j)<rs.length by omega)
 have e2:zn8 ks rs (z i j) (zf4 i j)=rs.set (ks.idxOf (z i j)) (b0.both (zf4 i j)):=by
  unfold zn8 zh2
  rw [if_neg hin,List.getD_eq_getElem?_getD,hb0]; rfl
 rw [e1,e2]
 refine ⟨h.nd,by simp [hlen],?_,?_⟩
 ·intro a b hab
  rw [zkl hj]at hab
  rcases hab with hab | ⟨rfl,rfl⟩
  ·exact h.mem a b hab
  exact List.mem_of_getElem? hk
 intro m v b hm hb
 rw [List.getElem?_set]at hb
 by_cases e:ks.idxOf (z i j)=m
 ·subst e
  rw [if_pos rfl,if_pos (by omega)]at hb
  cases hb
  rw [hk]at hm
  cases hm
  exact ((h.hull _ _ _ hk hb0).both i j).congr (zx5 hj rfl)
 rw [if_neg e]at hb
 have hv:z i j≠v:=by
  rintro rfl
  exact e (zu1 h.nd hk hm)
 exact (h.hull m v b hm hb).congr (zth hj hv)
theorem SeInv.nil {z:Nat→Nat→Int} {W:Nat}:SeInv z W 0 0 [] []:=by
 refine ⟨by simp,rfl,?_,by simp⟩
 intro a b h
 unfold Gone at h; omega
theorem SeInv.row {g:List (List Int)} {W i:Nat} {s:List Int × List Rect} (h:SeInv (gz g) W i 0 s.1 s.2):∀ j,j≤W→SeInv (gz g) W i j (zdb g i s j).1 (zdb g i s j).2
 | 0,_=>h
 | j+1,hj=>(SeInv.row h j (by omega)).step (by omega)
theorem SeInv.rows {g:List (List Int)} {W:Nat}:∀ i,SeInv (gz g) W i 0 (zay g W i).1 (zay g W i).2
 | 0=>SeInv.nil
 | i+1=>by
  have h:=(SeInv.rows (g:=g) (W:=W) i).row W (qR _)
  refine ⟨h.nd,h.len,fun a b hab=>h.mem a b (zy2.2 hab),fun m v b hm hb=>(h.hull m v b hm hb).congr (fun a c=>z51 a c)⟩
theorem zpr {g:List (List Int)} {i:Nat} {s:List Int × List Rect}:∀ {j k:Nat},j≤k→∃ r,(zdb g i s k).1=(zdb g i s j).1++r
 | j,0,h=>by
  have hj:j=0:=by omega
  subst hj; exact ⟨[],by simp⟩
 | j,k+1,h=>by
  by_cases e:j=k+1
  ·subst e; exact ⟨[],by simp⟩
  obtain ⟨r,hr⟩:=zpr (g:=g) (i:=i) (s:=s) (show j≤k by omega)
  simp only[zdb,zhd]
  split
  ·exact ⟨r++[gz g i k],by rw [hr,List.append_assoc]⟩
  exact ⟨r,hr⟩
theorem zrn {g:List (List Int)} {W:Nat}:∀ {i k:Nat},i≤k→∃ r,(zay g W k).1=(zay g W i).1++r
 | i,0,h=>by
  have hi:i=0:=by omega
  subst hi; exact ⟨[],by simp⟩
 | i,k+1,h=>by
  by_cases e:i=k+1
  ·subst e; exact ⟨[],by simp⟩
  obtain ⟨r,hr⟩:=zrn (g:=g) (W:=W) (show i≤k by omega)
  obtain ⟨r2,hr2⟩:=zpr (g:=g) (i:=k) (s:=zay g W k) (Nat.zero_le W)
  simp only[zay]
  refine ⟨r++r2,?_⟩
  rw [hr2,← List.append_assoc,← hr]; rfl
theorem zoz {l r:List Int} {x:Int} (h:¬ l.idxOf x=l.length):(l++r).idxOf x=l.idxOf x:=by
 have hl:=zgu (ks:=l) (z:=x)
 have hm:x∈l:=by rw [← List.idxOf_lt_length_iff]; omega
 rw [List.idxOf_append,if_pos hm]
theorem z21 {l r:List Int} {x:Int} (h:l.idxOf x=l.length):(l++[x]++r).idxOf x=l.length:=by
 have hm:x ∉ l:=zo0 h
 rw [List.append_assoc,List.idxOf_append,if_neg hm]
 simp
theorem zNum {g:List (List Int)} {W nh i j:Nat} (hi:i<nh) (hj:j<W):((zdb g i (zay g W i) j).1.idxOf (gz g i j))=(zay g W nh).1.idxOf (gz g i j):=by
 obtain ⟨r,hr⟩:=zrn (g:=g) (W:=W) (show i+1≤nh by omega)
 obtain ⟨r2,hr2⟩:=zpr (g:=g) (i:=i) (s:=zay g W i) (show j+1≤W by omega)
 have e:(zay g W nh).1=zhd (zdb g i (zay g W i) j).1 (gz g i j)++(r2++r):=by
  rw [hr,← List.append_assoc]
  congr 1
 rw [e]
 generalize (zdb g i (zay g W i) j).1=ks
 unfold zhd
 by_cases hin:ks.idxOf (gz g i j)=ks.length
 ·rw [if_pos hin,z21 hin,hin]
 rw [if_neg hin,zoz hin]
def inZ (p:List Txt) (r:Int) (i j:Nat):Bool:=decide (zao p i j=r)
theorem zuj {p:List Txt} {i k:Nat} {row:Txt} {c:UInt8} {r:Int} (h:p[i]?=some row) (hc:row[k]?=some c):zje r c=inZ p r i k:=by
 unfold zje inZ; rw [zc3 h hc]
theorem zmr {p:List Txt} {i:Nat} {row:Txt} {r:Int} (h:p[i]?=some row) (n:Int):∀ k,k≤row.length→zc4 r n (row.take k)=n+sN k fun j=>b1 (inZ p r i j)
 | 0,_=>by simp [zc4,sN]
 | k+1,hk=>by
  obtain ⟨c,hc,-⟩:=zaf (show k<row.length by omega)
  have ih:=zmr (r:=r) h n k (by omega)
  unfold zc4 at ih ⊢
  rw [ze6 hc,ih,sN,zuj h hc]
  cases inZ p r i k <;> simp [b1]
  omega
theorem zo5 {p:List Txt} {W:Nat} (hW:∀ row∈p,row.length=W) {r:Int}:∀ i,i≤p.length→(p.take i).foldl (zc4 r) 0=((sN i fun i=>sN W fun j=>b1 (inZ p r i j):Nat):Int)
 | 0,_=>by simp [sN]
 | i+1,hi=>by
  obtain ⟨row,hr,hm⟩:=zaf (show i<p.length by omega)
  have ih:=zo5 hW (r:=r) i (by omega)
  have hl:=hW row hm
  have:=zmr (r:=r) hr (((sN i fun i=>sN W fun j=>b1 (inZ p r i j):Nat):Int)) W (by omega)
  rw [qT (by omega)]at this
  rw [ze6 hr,ih,this,sN]
  simp
theorem z0x {p:List Txt} {W:Nat} (hW:∀ row∈p,row.length=W) {r:Int}:zey p r=((cnt p.length W (inZ p r):Nat):Int):=by
 have:=zo5 hW (r:=r) p.length (qR _)
 rwa [List.take_length]at this
def zi7 (H W:Nat) (pr:Nat→Nat→Prop) (b:Box):Prop:=((∀ a c,¬ pr a c)∧b=⟨H,W,-1,-1⟩)∨Hull pr b.top b.left b.low b.right
theorem zi7.congr {H W:Nat} {pr pr':Nat→Nat→Prop} {b:Box} (h:zi7 H W pr b) (e:∀ a c,pr a c↔pr' a c):zi7 H W pr' b:=by
 have:pr=pr':=by funext a b; exact propext (e a b)
 exact this ▸ h
theorem zi7.add {H W:Nat} {pr:Nat→Nat→Prop} {b:Box} (h:zi7 H W pr b) {i k:Nat} (hi:i<H) (hk:k<W):zi7 H W (fun a c=>pr a c∨(a=i∧c=k)) ⟨min b.top i,min b.left k,max b.low i,max b.right k⟩:=by
 rcases h with ⟨h1,rfl⟩ | h
 ·right
  have:=Hull.one h1 i k
  simp only
  rw [show min (H:Int) i=i by omega,show min (W:Int) k=k by omega,show max (-1:Int) i=i by omega,show max (-1:Int) k=k by omega]
  exact this
 exact .inr (Hull.add h i k)
theorem zvz {p:List Txt} {H W i:Nat} {row:Txt} {r:Int} (hr:p[i]?=some row) (hW:row.length=W) (hi:i<H) {b:Box} (h:zi7 H W (Val (zao p) W i 0 r) b):∀ k,k≤W→zi7 H W (Val (zao p) W i k r) (zk7 r i b row k)
 | 0,_=>by simpa [zk7] using h
 | k+1,hk=>by
  obtain ⟨c,hc,-⟩:=zaf (show k<row.length by omega)
  have ih:=zvz hr hW hi h k (by omega)
  rw [zi2 hc]
  unfold zjn
  simp only
  rw [zuj hr hc]
  by_cases e:zao p i k=r
  ·rw [if_pos (by unfold inZ; exact decide_eq_true e)]
   exact (ih.add hi (by omega)).congr (zx5 (by omega) e)
  rw [if_neg (by unfold inZ; rw [decide_eq_false e]; exact Bool.false_ne_true)]
  exact ih.congr (zth (by omega) e)
theorem ztv {p:List Txt} {W:Nat} (hW:∀ row∈p,row.length=W) (hh:(zax p).length=W) {r:Int}:∀ i,i≤p.length→zi7 p.length W (Val (zao p) W i 0 r) (zhy p r i)
 | 0,_=>by
  left
  refine ⟨fun a c h=>?_,by simp [zhy,hh]⟩
  have:=h.2
  unfold Gone at this; omega
 | i+1,hi=>by
  obtain ⟨row,hr,hm⟩:=zaf (show i<p.length by omega)
  rw [zls hr]
  have:=zvz (r:=r) hr (hW row hm) (by omega) (ztv hW hh i (by omega)) W (qR _)
  rw [hW row hm]
  exact this.congr fun a c=>z51 a c
theorem z1y {p:List Txt} {W:Nat} (hW:∀ row∈p,row.length=W) (hh:(zax p).length=W) {r:Int}:zi7 p.length W (Val (zao p) W p.length 0 r) (zoh p r):=by
 rw [← zke]; exact ztv hW hh p.length (qR _)
theorem Hull.nat {z:Nat→Nat→Int} {H W:Nat} {v:Int} {t l lo ri:Int} (h:Hull (Val z W H 0 v) t l lo ri):∃ t' l' h' w':Nat,t=t'∧l=l'∧lo=t'+h' - 1∧ri=l'+w' - 1∧1≤h'∧1≤w'∧t'+h'≤H∧l'+w'≤W ∧
  ∀ i j,i<H→j<W→z i j=v→inR t' l' h' w' i j=true:=by
 obtain ⟨a1,b1,p1,e1⟩:=h.at_
 obtain ⟨a2,b2,p2,e2⟩:=h.al
 obtain ⟨a3,b3,p3,e3⟩:=h.ao
 obtain ⟨a4,b4,p4,e4⟩:=h.ar
 have q1:=h.inn _ _ p1
 have q2:=h.inn _ _ p2
 obtain ⟨-,g3,g3'⟩:=p3
 obtain ⟨-,g4,g4'⟩:=p4
 refine ⟨a1,b2,a3+1 - a1,b4+1 - b2,e1.symm,e2.symm,by omega,by omega,by omega,by omega,by omega,by omega,fun i j hi hj hv=>?_⟩
 have:=h.inn i j ⟨hv,by unfold Gone; omega⟩
 unfold inR
 simp only[qB,decide_eq_true_eq]
 omega
def u8I (c:UInt8):Int:=(c.toNat:Int)
theorem ya7 {a b:UInt8} (h:u8I a=u8I b):a=b:=by
 unfold u8I at h
 exact UInt8.toNat_inj.1 (by omega)
theorem zui {α β:Type} [DecidableEq α] [DecidableEq β] {f:α→β} (hf:∀ a b,f a=f b→a=b) {c:α}:∀ (l:List α),(l.map f).idxOf (f c)=l.idxOf c
 | []=>rfl
 | a::l=>by
  rw [List.map_cons,List.idxOf_cons,List.idxOf_cons,zui hf l]
  by_cases e:a=c
  ·subst e; simp
  have e2:f a≠f c:=fun h=>e (hf _ _ h)
  rw [show (f a == f c)=false by simpa using e2,show (a == c)=false by simpa using e]
theorem z91 {p:List Txt} {i k:Nat} {row:Txt} {c:UInt8} (h:p[i]?=some row) (hc:row[k]?=some c):gz (zbw p) i k=u8I c:=by
 simp [gz,zbw,ztn,h,hc,u8I]
theorem zq5 {p:List Txt} {i:Nat} {row:Txt} (h:p[i]?=some row) {o:List UInt8} {s:List Int × List Rect} (ho:o.map u8I=s.1):∀ j,j≤row.length →
  ((row.take j).foldl zdx (o,[])).1.map u8I=(zdb (zbw p) i s j).1∧((row.take j).foldl zdx (o,[])).2=zpo (zmm (zbw p) i s j)
 | 0,_=>⟨by simpa [zdb] using ho,by simp [zmm,zpo]⟩
 | j+1,hj=>by
  obtain ⟨c,hc,-⟩:=zaf (show j<row.length by omega)
  obtain ⟨h1,h2⟩:=zq5 h ho j (by omega)
  rw [ze6 hc]
  generalize (row.take j).foldl zdx (o,[])=q at h1 h2 ⊢
  have hz:=z91 h hc
  have hi:(zdb (zbw p) i s j).1.idxOf (gz (zbw p) i j)=q.1.idxOf c:=by rw [← h1,hz,zui fun a b=>ya7]
  have hl:(zdb (zbw p) i s j).1.length=q.1.length:=by rw [← h1,List.length_map]
  constructor
  ·simp only[zdx,zdb,zhd]
   rw [hi,hl]
   split
   ·rw [List.map_append,h1,hz]; rfl
   exact h1
  simp only[zdx,zmm]
  rw [hi,h2]
  simp [zpo,z3h]
theorem zy8 {p:List Txt} {W:Nat} (hW:∀ row∈p,row.length=W):∀ i,i≤p.length →
  ((p.take i).foldl zm7 ([],[])).1.map u8I=(zay (zbw p) W i).1∧((p.take i).foldl zm7 ([],[])).2=zff (zd4 (zbw p) W i)
 | 0,_=>by simp [zay,zd4,zff]
 | i+1,hi=>by
  obtain ⟨row,hr,hm⟩:=zaf (show i<p.length by omega)
  obtain ⟨h1,h2⟩:=zy8 hW i (by omega)
  rw [ze6 hr]
  generalize (p.take i).foldl zm7 ([],[])=q at h1 h2 ⊢
  have hl:=hW row hm
  obtain ⟨k1,k2⟩:=zq5 hr h1 row.length (qR _)
  rw [List.take_length,hl]at k1 k2
  constructor
  ·simp only[zm7,zpa,zay]; exact k1
  simp only[zm7,zpa,zd4,zff,List.map_append,List.map_cons,List.map_nil]
  rw [k2,h2]
  rfl
theorem zg3 {p:List Txt}:w0 (zbw p)=(zax p).length:=by
 cases p with
 | nil=>rfl
 | cons a p=>simp [w0,zbw,ztn,zax]
theorem zkm {p:List Txt} (hg:zcp p=true):∀ row∈p,row.length=(zax p).length:=by
 intro row hm
 obtain ⟨i,hi⟩:=List.getElem?_of_mem hm
 exact zdv hg hi
theorem zq6 {p:List Txt} (hg:zcp p=true):names p=zff (gP p):=by
 have:=(zy8 (zkm hg) p.length (qR _)).2
 rw [List.take_length]at this
 unfold names zsk gP zG
 rw [this,zg3,zdf]
theorem z6u {p:List Txt}:zcp p=(zgv p && okG (zbw p)):=by
 rw [Bool.eq_iff_iff,qB,zsn,zdf,zg3]
 unfold zcp zgv GW zqb
 simp only[qB,decide_eq_true_eq,List.all_eq_true,zdf,true_and]
 constructor
 ·rintro ⟨⟨h1,h2⟩,h3⟩
  obtain ⟨row0,hr0,hm0⟩:=zaf (show 0<p.length by omega)
  have hh:=zcj hr0
  have h4:=h1 row0 hm0
  refine ⟨fun r hr=>(h1 r hr).2,fun r hr=>?_,h2,h3,by rw [hh]; omega,by rw [hh]; omega⟩
  obtain ⟨t,ht,rfl⟩:=List.mem_map.1 hr
  rw [zi3]; exact (h1 t ht).1.1.1
 rintro ⟨h1,h2,h3,h4,h5,h6⟩
 refine ⟨⟨fun r hr=>?_,h3⟩,h4⟩
 have:=h2 (ztn r) (List.mem_map.2 ⟨r,hr,rfl⟩)
 rw [zi3]at this
 exact ⟨⟨⟨this,by omega⟩,by omega⟩,h1 r hr⟩
theorem zx8 {g:List (List Int)} {i:Nat} {s:List Int × List Rect}:∀ {j k:Nat},k<j→(zmm g i s j)[k]?=some (((zdb g i s k).1.idxOf (gz g i k):Nat):Int)
 | 0,k,h=>by omega
 | j+1,k,h=>by
  unfold zmm
  by_cases e:k=j
  ·subst e; rw [List.getElem?_append_right (by rw [zeq]; exact qR _),zeq]; simp
  rw [List.getElem?_append_left (by rw [zeq]; omega)]; exact zx8 (by omega)
def keys (p:List Txt):List Int:=(zay (zbw p) (zax p).length p.length).1
theorem z2n {p:List Txt}:gP p=zd4 (zbw p) (zax p).length p.length:=by unfold gP zG; rw [zg3,zdf]
theorem z4m {p:List Txt}:rP p=(zay (zbw p) (zax p).length p.length).2:=by unfold rP stG; rw [zg3,zdf]
theorem z6s {p:List Txt} {i j:Nat} (hi:i<p.length) (hj:j<(zax p).length):gz (gP p) i j=(((keys p).idxOf (gz (zbw p) i j):Nat):Int):=by
 rw [z2n]
 unfold gz
 rw [zi6 hi,Option.getD_some,zx8 hj,Option.getD_some]
 congr 1
 exact zNum hi hj
theorem zhm (p:List Txt):SeInv (gz (zbw p)) (zax p).length p.length 0 (keys p) (rP p):=by
 rw [z4m]; exact SeInv.rows p.length
theorem znt {H W i j:Nat} (hi:i<H) (hj:j<W):Gone W H 0 i j:=⟨hj,.inl hi⟩
theorem zoy {p:List Txt}:zx9 (gP p) p.length (zax p).length (rP p).length:=by
 intro i j hi hj
 rw [z6s hi hj]
 have hm:=(zhm p).mem i j (znt hi hj)
 have hl:=(zhm p).len
 have:=List.idxOf_lt_length_iff.2 hm
 omega
structure Named (p:List Txt):Prop where
 hg:zcp p=true
 ht:zff (gP p)=p
theorem Named.cell {p:List Txt} (h:Named p) {i j:Nat} (hi:i<p.length) (hj:j<(zax p).length):gz (gP p) i j=zao p i j:=by
 have hgz:=z6s hi hj
 have hm:=(zhm p).mem i j (znt hi hj)
 have hsm:=zbk h.hg
 obtain ⟨row0,hr0,hm0⟩:=zaf hsm.1
 have hh:=zcj hr0
 have hw6:=hsm.2.2 row0 hm0
 have hw1:=zep h.hg hr0
 rw [← hh]at hw6 hw1
 have hb:=zkb (g:=zbw p) hw6 hw1 p.length hsm.2.1
 rw [← z2n]at hb
 have hrl:(gP p).length=p.length:=by rw [z2n]; exact zcu _
 obtain ⟨zr,hzr,hzm⟩:=zaf (show i<(gP p).length by omega)
 have hzl:zr.length=(zax p).length:=by
  have e:=hzr
  rw [z2n,zi6 hi]at e
  cases e
  exact zeq _
 obtain ⟨z,hz,hzm2⟩:=zaf (show j<zr.length by omega)
 have hz1:=hb zr hzm z hzm2
 have e1:gz (gP p) i j=z:=by simp [gz,hzr,hz]
 have e2:p[i]?=some (zpo zr):=by
  have:=zli hzr
  rwa [h.ht]at this
 have e3:(zpo zr)[j]?=some (z3h z):=by simp [zpo,hz]
 rw [e1,zc3 e2 e3]
 unfold z3h
 rw [UInt8.toNat_ofNat_of_lt' (by show 97+z.toNat<256; omega)]
 omega
theorem Named.room {p:List Txt} (h:Named p) {i j:Nat} (hi:i<p.length) (hj:j<(zax p).length):0≤zao p i j∧zao p i j<(rP p).length:=by
 rw [← h.cell hi hj]; exact zoy i j hi hj
theorem Named.key {p:List Txt} (h:Named p) {m:Nat} {v:Int} (hm:(keys p)[m]?=some v) (a b:Nat):Val (gz (zbw p)) (zax p).length p.length 0 v a b↔Val (zao p) (zax p).length p.length 0 m a b:=by
 unfold Val
 constructor
 ·rintro ⟨h1,h2⟩
  refine ⟨?_,h2⟩
  obtain ⟨hb,ha⟩:=h2
  have ha':a<p.length:=by omega
  rw [← h.cell ha' hb,z6s ha' hb,h1]
  congr 1
  have hv:=List.mem_of_getElem? hm
  have hlt:=List.idxOf_lt_length_iff.2 hv
  have:=zh9 (ks:=keys p) (z:=v) (by omega)
  exact zu1 (zhm p).nd this hm
 rintro ⟨h1,h2⟩
 refine ⟨?_,h2⟩
 obtain ⟨hb,ha⟩:=h2
 have ha':a<p.length:=by omega
 have hmem:=(zhm p).mem a b (znt ha' hb)
 have hlt:=List.idxOf_lt_length_iff.2 hmem
 rw [← h.cell ha' hb,z6s ha' hb]at h1
 have:=zh9 (ks:=keys p) (z:=gz (zbw p) a b) (by omega)
 rw [show (keys p).idxOf (gz (zbw p) a b)=m by omega,hm]at this
 cases this; rfl
theorem Named.rect {p:List Txt} (h:Named p) {m:Nat} {b:Rect} (hb:(rP p)[m]?=some b):zkc (Val (zao p) (zax p).length p.length 0 m) b:=by
 have hi:=zhm p
 have hml:=zci hb
 rw [hi.len]at hml
 obtain ⟨v,hv,-⟩:=zaf hml
 exact (hi.hull m v b hv hb).congr (h.key hv)
theorem Named.box {p:List Txt} (h:Named p) {m:Nat} {b:Rect} (hb:(rP p)[m]?=some b):b.row=(zoh p m).top∧b.col=(zoh p m).left∧b.high=zhu p m∧b.wide=zhx p m:=by
 have h1:=h.rect hb
 have h2:=z1y (zkm h.hg) rfl (r:=(m:Int))
 rcases h2 with ⟨h2,-⟩ | h2
 ·obtain ⟨a,c,q,-⟩:=h1.at_
  exact absurd q (h2 a c)
 have:=Hull.uniq h1 h2
 unfold zhu zhx
 omega
theorem zm3 {f:UInt8→Int} {B:Int}:∀ (row:Txt) (n:Int),n≤B→(∀ c∈row,f c≤B)→row.foldl (fun n c=>max n (f c)) n≤B
 | [],n,h,_=>h
 | c::row,n,h,hc=>zm3 row _ (by have:=hc c (by simp); show max n (f c)≤B; omega) fun d hd=>hc d (by simp [hd])
theorem zzy {B:Int}:∀ (p:List Txt) (n:Int),n≤B→(∀ row∈p,∀ c∈row,(c.toNat:Int) - 97+1≤B)→p.foldl zfr n≤B
 | [],n,h,_=>h
 | row::p,n,h,hc=>zzy p _ (zm3 row n h (hc row (by simp))) fun r hr=>hc r (by simp [hr])
theorem Named.rooms {p:List Txt} (h:Named p):zcy p=(rP p).length:=by
 have hi:=zhm p
 have hl:=hi.len
 apply Int.le_antisymm
 ·refine zzy p 0 (by omega) fun row hr c hc=>?_
  obtain ⟨i,hrow⟩:=List.getElem?_of_mem hr
  obtain ⟨j,hcol⟩:=List.getElem?_of_mem hc
  have hil:=zci hrow
  have hjl:=zci hcol
  have:=h.room hil (by rw [← zdv h.hg hrow]; exact hjl)
  rw [zc3 hrow hcol]at this
  omega
 by_cases h0:(rP p).length=0
 ·have:=(zkp p).1; omega
 obtain ⟨b,hb,-⟩:=zaf (show (rP p).length - 1<(rP p).length by omega)
 obtain ⟨a,c,⟨q1,q2⟩,-⟩:=(h.rect hb).at_
 obtain ⟨hc,ha⟩:=q2
 have ha':a<p.length:=by omega
 obtain ⟨row,hrow,hrm⟩:=zaf ha'
 have hrl:=zdv h.hg hrow
 obtain ⟨d,hd,-⟩:=zaf (show c<row.length by omega)
 have:=(z1e p 0).2 a c row d hrow hd
 rw [zc3 hrow hd]at q1
 unfold zcy
 omega
def inB (b:Rect) (i j:Nat):Bool:=(decide (b.row≤i) && decide ((i:Int)<b.row+b.high)) && (decide (b.col≤j) && decide ((j:Int)<b.col+b.wide))
theorem zn4 {z:Nat→Nat→Int} {H W:Nat} {v:Int} {b:Rect} (h:zkc (Val z W H 0 v) b):((cnt H W (inB b):Nat):Int)=b.high*b.wide∧∀ i j,i<H→j<W→z i j=v→inB b i j=true:=by
 obtain ⟨t,l,hh,w,e1,e2,e3,e4,h1,h2,h3,h4,h5⟩:=Hull.nat h
 have e5:b.high=hh:=by omega
 have e6:b.wide=w:=by omega
 have e:∀ i j,inB b i j=inR t l hh w i j:=by
  intro i j
  unfold inB inR
  rw [e1,e2,e5,e6,Bool.eq_iff_iff]
  simp only[qB,decide_eq_true_eq]
  omega
 have e7:inB b=inR t l hh w:=by funext i j; exact e i j
 rw [e7,z6m h3 h4,e5,e6]
 exact ⟨by simp,h5⟩
def arN (p:List Txt) (m:Nat):Nat :=
 match (rP p)[m]? with
 | some b=>cnt p.length (zax p).length (inB b)
 | none=>0
theorem zyb {p:List Txt} {m:Nat} {b:Rect} (h:(rP p)[m]?=some b):arN p m=cnt p.length (zax p).length (inB b):=by simp [arN,h]
theorem z5n {p:List Txt} (h:Named p):∀ k,k≤(rP p).length→z1k ((rP p).take k)=((sN k (arN p):Nat):Int)
 | 0,_=>by simp [z1k,sN]
 | k+1,hk=>by
  obtain ⟨b,hb,-⟩:=zaf (show k<(rP p).length by omega)
  rw [zpz hb,z5n h k (by omega),sN,zyb hb,← (zn4 (h.rect hb)).1]
  simp
theorem Named.cells_le {p:List Txt} (h:Named p) {m:Nat} (hm:m<(rP p).length):cnt p.length (zax p).length (inZ p m)≤arN p m:=by
 obtain ⟨b,hb,-⟩:=zaf hm
 rw [zyb hb]
 exact ybq fun i j hi hj hz=>(zn4 (h.rect hb)).2 i j hi hj (by unfold inZ at hz; simpa using hz)
theorem Named.all {p:List Txt} (h:Named p):sN (rP p).length (fun m=>cnt p.length (zax p).length (inZ p m))=p.length*(zax p).length:=by
 rw [← zwt (H:=p.length) (W:=(zax p).length) (n:=(rP p).length) (z:=fun i j=>(zao p i j).toNat) fun i j hi hj=>by have:=h.room hi hj; omega]
 refine ze8 fun m hm=>z17 fun i j hi hj=>?_
 unfold inZ
 have:=h.room hi hj
 apply decide_eq_decide.2
 omega
theorem z6r {p:List Txt} (h:Named p):zkj (zbw p)=decide (sN (rP p).length (arN p)=p.length*(zax p).length):=by
 have:=z5n h (rP p).length (qR _)
 rw [List.take_length]at this
 unfold zkj
 rw [show (stG (zbw p)).2=rP p from rfl,this,zdf,zg3]
 apply decide_eq_decide.2
 omega
theorem Named.area {p:List Txt} (h:Named p) {m:Nat} (hm:m<(rP p).length):(zey p m=zhu p m*zhx p m)↔cnt p.length (zax p).length (inZ p m)=arN p m:=by
 obtain ⟨b,hb,-⟩:=zaf hm
 obtain ⟨-,-,e1,e2⟩:=h.box hb
 rw [z0x (zkm h.hg),← e1,← e2,← (zn4 (h.rect hb)).1,zyb hb]
 omega
theorem Named.full {p:List Txt} (h:Named p):zkj (zbw p)=true↔∀ m,m<(rP p).length→cnt p.length (zax p).length (inZ p m)=arN p m:=by
 rw [z6r h,decide_eq_true_eq,← h.all]
 constructor
 ·intro e m hm
  exact z7r (fun m hm=>h.cells_le hm) e.symm m hm
 intro e
 exact ze8 fun m hm=>(e m hm).symm
theorem Named.fill {p:List Txt} (h:Named p) (hf:zkj (zbw p)=true) {m:Nat} {b:Rect} (hb:(rP p)[m]?=some b) {i j:Nat} (hi:i<p.length) (hj:j<(zax p).length):inB b i j=decide (zao p i j=m):=by
 have e:=h.full.1 hf m (zci hb)
 rw [zyb hb]at e
 exact (ybp (fun i j hi hj hz=>(zn4 (h.rect hb)).2 i j hi hj (by unfold inZ at hz; simpa using hz)) e i j hi hj).symm
theorem zhk {p:List Txt}:zfq p=zcz p:=by
 unfold zfq zow okB okS zcz
 rw [Bool.eq_iff_iff]
 simp only[qB,decide_eq_true_eq,List.all_eq_true,List.mem_range]
 have hgi:=z6u (p:=p)
 constructor
 ·rintro ⟨⟨h1,h2,h3⟩,h4,h5⟩
  have hg:zcp p=true:=by rw [hgi,h1,h2]; rfl
  have hN:Named p:=⟨hg,h5⟩
  have hr:=hN.rooms
  have h3':(rP p).length≤9:=h3
  refine ⟨⟨⟨hg,by rw [zq6 hg]; exact h5⟩,by omega⟩,fun m hm=>?_⟩
  have hm':m<(rP p).length:=by omega
  exact (hN.area hm').2 (hN.full.1 h4 m hm')
 rintro ⟨⟨⟨hg,h2⟩,h3⟩,h4⟩
 have h5:zff (gP p)=p:=by rw [← zq6 hg]; exact h2
 have hN:Named p:=⟨hg,h5⟩
 have hr:=hN.rooms
 rw [hgi,qB]at hg
 have h3':(rP p).length≤9:=by omega
 exact ⟨⟨hg.1,hg.2,h3'⟩,hN.full.2 fun m hm=>(hN.area hm).1 (h4 m (by omega)),h5⟩
theorem zc1 {p:List Txt} (h:zcz p=true):Named p:=by
 have h2:=h
 rw [← zhk]at h2
 unfold zfq zow at h2
 simp only[qB,decide_eq_true_eq]at h2
 exact ⟨zec h,h2.2.2⟩
theorem z4d {p:List Txt} (h:zcz p=true):zkj (zbw p)=true:=by
 rw [← zhk]at h
 unfold zfq zow at h
 simp only[qB,decide_eq_true_eq]at h
 exact h.2.1
end Fw
end Go.Proofs.YtjobkanbijpfgaaGreat
