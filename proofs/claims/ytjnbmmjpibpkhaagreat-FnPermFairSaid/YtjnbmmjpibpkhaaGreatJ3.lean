/- Parts of the framework and of the proof: The text of a grid; strings.Builder: copyCheck and String, in the model's own words; The text of a plan of the program, gone through; How the program numbers rooms and finds the rectangles around them; The numbering of rooms by the program, gone through; The numbering of all rooms of a grid; Grids of the program, gone through; A plan of a grid, as the program finds it; Plans of the program, gone through; Plans that are read, in plain words; Reading plans, gone through; The two closures of relations are the same; The heaviest sums and the least sizes are the same; The program's walls and orders are the specification's; The program's direct orders are the specification's; Sums and counts of cells; The least rectangle around cells, by the program; The least rectangle around a room and its cells, by the specification; Plans that are read are the specification's: grids and names; Plans that are read are the specification's: numbers of rooms and rectangles; Plans that are read are the specification's: rooms fill their rectangles; Areas by the program are the specification's; Areas by the program are the specification's, joined; Arguments of laws as plain data; A slice of bytes as an argument: plain data; Cut trees: parts of plans, their first cuts, and the tree of all; Parts of plans as texts: the specification's cut and its parts; Plans in which no four rooms meet: two orders of rooms go on without end, and each two rooms are in one; The program's closures and walls in words of cells: left of is going on from just left of, above is going on from just above; Orders of a plain plan: each two rooms are in just one; Parts of plans in the program: the rooms of a part, its lines, its cut. -/
import Derived.Test.YtjnbmmjpibpkhaaGreatJ2
import Derived.Test.YtjnbmmjpibpkhaaGreatJ1
import Derived.Lib.Builder
import Derived.Lib.UnsafeStr
import Derived.Lib.Walk
import Derived.WalkKit
import Derived.Laws.Externs
import Derived.Test.YtjnbmmjpibpkhaaGreatRows
import Derived.ProofKit
import Derived.SliceStrings
set_option linter.all false
namespace Go.Proofs.YtjnbmmjpibpkhaaGreat
namespace Fw
open Go
open Nat renaming reduceEqDiff → qE, reduceLeDiff → qL, reduceAdd → qA, reduceMul → qM, le_refl → qR
open List renaming append_nil → qN, mapM_append → qP, mapM_cons → qC, mapM_map → qU, range_succ → qS, take_of_length_le → qT
open Bool renaming and_eq_true → qB, false_eq_true → qF
open Option renaming map_some → qO, map_eq_some_iff → qI
open Int renaming reduceToNat → qZ
def z6h (z:Int):UInt8:=UInt8.ofNat (97+z.toNat)
def zq7 (row:List Int):Txt:=row.map z6h
def zfy (g:List (List Int)):List Txt:=g.map zq7
theorem yfy {z:Int} (h:0≤z):IntKind.u8.wrap (97+z)=((z6h z).toNat:Int):=by
 obtain ⟨n,rfl⟩:=Int.eq_ofNat_of_zero_le h
 exact yd9
def stB (o:List Txt) (vo vb:Nat) (l:Txt) (vq t:Nat):Store :=
 match l with
 | []=>⟨[.arr vo 9 1 (o.map .str),.arr vb 133 2 [.nilp,.nils]],t⟩
 | l=>⟨[.arr vo 9 1 (o.map .str),.arr vb 133 2 [.ref 1 vb 0,.loc 2 vq 0 l.length],.arr vq 5 1 (l.map eB)],t⟩
theorem yft {o:List Txt} {vo vb:Nat} {l:Txt} {vq t:Nat} (h:l≠[]):stB o vo vb l vq t=⟨[.arr vo 9 1 (o.map .str),.arr vb 133 2 [.ref 1 vb 0,.loc 2 vq 0 l.length],.arr vq 5 1 (l.map eB)],t⟩:=by
 cases l with
 | nil=>exact absurd rfl h
 | cons a l=>rfl
theorem ydv {S:Store} {k f:Nat} {sel:List Nat} (o:List Txt):(o.map PV.str).mapM (rn S k sel (f+1))=some (o.map PV.str):=zuv (by simp [scal])
theorem z36 {S:Store} {im:Bool} {f:Nat} (o:List Txt):(o.map PV.str).mapM (reify S im (f+1))=some (o.map PV.str):=znd (by simp [scal])
theorem z2b (row:List Int):(zq7 row).length=row.length:=by simp [zq7]
theorem ydw {row:List Int} (h:1≤row.length):zq7 row≠[]:=by
 intro e
 have:=z2b row
 rw [e]at this
 simp at this; omega
theorem z73 {row:List Int} {k:Nat} {z:Int} (h:row[k]?=some z):zq7 (row.take (k+1))=zq7 (row.take k)++[z6h z]:=by simp [zq7,tk h]
theorem z8k {g:List (List Int)} {o:List Txt} (hl:o.length=g.length) (h:∀ j,j<g.length→o[j]?=(zfy g)[j]?):o=zfy g:=by
 refine List.ext_getElem? fun j=>?_
 by_cases hj:j<g.length
 ·exact h j hj
 rw [List.getElem?_eq_none (by omega),List.getElem?_eq_none (by simp [zfy]; omega)]
theorem zmm {g:List (List Int)} {j:Nat} {row:List Int} (h:g[j]?=some row):(zfy g)[j]?=some (zq7 row):=by simp [zfy,h]
section
open Go Go.RowKit
set_option maxHeartbeats 1000000 in
set_option maxRecDepth 100000 in
theorem zrn (b:Nat) (w:World) (h0:w.cell? ⟨b,0,none⟩=some (.pointer (some ⟨b,0,none⟩))) :
  Calls Tryz.prog 118 #[.pointer (some ⟨b,0,none⟩)] w fun e w'=>e = .returned (.tuple #[])∧w'=w:=by
 obtain ⟨j,d,z,hj,_⟩:=(zap 133 (by decide)).1
 go_enter Tryz.func118,Tryz.ntmps118
 go_wp2
 rw [Lib.run_neq_ptr_same w _ Tryz.underlying131 hj]
 go_wp2
 go_end0
 exact ⟨rfl,rfl⟩
theorem ygp (count:Nat) (hn:1≤count):liesAt Tryz.prog Tryz.prog.depth 133 count 0 133 1=true:=by
 have hc:Tryz.prog.cellsOf 133=2:=by kernel_rfl
 have hd:Tryz.prog.depth=(2*(Tryz.prog.types.size+Made.depth)+1)+1:=rfl
 rw [hd]
 simp only[liesAt,Bool.or_eq_true]
 left
 rw [hd]
 simp [rowAt,hc,hn,sameLayout]
set_option maxHeartbeats 1000000 in
set_option maxRecDepth 100000 in
theorem zpo (b n:Nat) (hn:2≤n) (w:World) (h0:w.cell? ⟨b,0,none⟩=some (.pointer none)) (hsh:w.shape? b=some (133,n)) (hfz:w.frozen? ⟨b,0,none⟩=false) :
  Calls Tryz.prog 118 #[.pointer (some ⟨b,0,none⟩)] w fun e w'=>e = .returned (.tuple #[])∧w'=w.setCell ⟨b,0,none⟩ (.pointer (some ⟨b,0,none⟩)):=by
 obtain ⟨j,d,z,hj,hd,hf,hsz,hby,hz,_⟩:=(zap 133 (by decide)).1
 have hjs:j.size≠0:=by rw [hsz]; decide
 have hlies:liesAt Tryz.prog Tryz.prog.depth 133 (n / Tryz.prog.cellsOf 133) 0 133 1=true:=by
  rw [show Tryz.prog.cellsOf 133=2 by kernel_rfl]
  exact ygp _ (by omega)
 go_enter Tryz.func118,Tryz.ntmps118
 go_wp2
 rw [Lib.run_to_unsafe w ⟨b,0,none⟩ Tryz.underlying131 Tryz.underlying171 hj hjs hsh (show 0<n by omega)]
 simp only[Result.andThen]
 rw [Oper.upon_value]
 go_wp2
 rw [run_callFunc_extern Tryz.func144 (by kernel_rfl) (by kernel_rfl) (by kernel_rfl) (e:=Extern.AbiNoEscape.same) (by kernel_rfl)]
 rw [Lib.run_noEscape]
 simp only[Result.andThen]
 rw [Oper.upon_value]
 go_wp2
 rw [Lib.run_from_unsafe w ⟨b,0,none⟩ Tryz.underlying171 Tryz.underlying131 hj hsh hlies]
 simp only[Result.andThen]
 rw [Oper.upon_value]
 go_wp2
 go_end0
 exact ⟨rfl,rfl⟩
set_option maxHeartbeats 1000000 in
set_option maxRecDepth 100000 in
theorem ztw (b g cap:Nat) (cur:Array Value) (fz:Nat × Nat) (l:List UInt8) (w:World) (hbk:w.cell? ⟨b,1,none⟩=some (.slice (some ⟨g,0,none⟩) l.length cap))
  (hg:w.heap[g]?=some (.cells cur 5 fz)) (hc:l.length≤cur.size) (hcap:cap≠0) (h63:l.length≤9223372036854775807) (h0:l≠[])
  (hl:∀ (j:Nat) x,l[j]?=some x→cur[j]?=some (.int .u8 x.toNat)) :
  Calls Tryz.prog 107 #[.pointer (some ⟨b,0,none⟩)] w fun e w'=>e = .returned (.string ⟨l.toArray⟩)∧w'=w.drew.freeze ⟨g,0,none⟩ l.length:=by
 have c1:w.drew.cell? ⟨b,1,none⟩=some (.slice (some ⟨g,0,none⟩) l.length cap):=hbk
 have hSD:(Builtin.unsafeSliceData_ #[29] 148 #[.slice (some ⟨g,0,none⟩) l.length cap]).run Tryz.prog w.drew = .ok (.pointer (some ⟨g,0,none⟩)) w.drew :=
  Lib.run_unsafeSliceData_row _ _ _ _ _ _ hcap
 have hUS:(Builtin.unsafeString_ #[148,3] 9 #[.pointer (some ⟨g,0,none⟩),.int .i64 l.length]).run Tryz.prog w.drew = .ok (.string ⟨l.toArray⟩) (w.drew.freeze ⟨g,0,none⟩ l.length):=by
  have hg':w.drew.heap[g]?=some (.cells cur 5 fz):=hg
  refine Lib.run_unsafeString_row w.drew 148 3 9 5 Tryz.underlying148 (by kernel_rfl) g cur.size (by simp [World.shape?,hg']) l h0 hc h63 ?_
  intro j x hx
  by_cases hj:j=0
  ·subst hj; simp [World.cell?,Addr.add,hg',hl 0 x hx]
  simp [World.cell?,Addr.add,hj,hg',hl j x hx]
 go_enter Tryz.func107,Tryz.ntmps107
 go_wp2
 go_region
 all_goals (go_wp2; go_ret; exact ⟨rfl,rfl⟩)
variable {F:Nat→Prop} {G:GSt} {w:World}
theorem znr {S:Store} {o ver:Nat} {c0 c1:PV} (hS:S.obs[o]?=some (.arr ver 133 2 [c0,c1])) (h0:c0 = .nilp∨c0 = .ref o ver 0) :
  Ev Tryz.prog 118 [.ref o ver 0] S fun v S'=>v = .tup []∧S'=⟨S.obs.set o (.arr ver 133 2 [.ref o ver 0,c1]),S.tick⟩:=by
 refine ⟨Fn.ent ⟨Tryz.func118,by kernel_rfl,rfl,by kernel_rfl⟩,fun F G w cargs hE hi hl hv=>?_⟩
 subst hE
 obtain ⟨c,rfl⟩:∃ c,cargs = #[c]:=by
  match cargs,hl with
  | ⟨[c]⟩,_=>exact ⟨c,rfl⟩
 have hco:G.er.cellsOf o ver=some [c0,c1]:=by simp [Store.cellsOf,hS]
 obtain ⟨et,sz,l,hG,rfl,hver⟩:=(hv 0 _ c rfl rfl).ref_at hi hco
 obtain ⟨l2,hG2⟩:=zgm hS
 rw [hG]at hG2
 cases hG2
 obtain ⟨cs,⟨fz,hb,hz⟩,hcs,hle,hcell⟩:=hi.arr o _ _ _ _ l hG
 obtain ⟨-,v0,hv0,hr0⟩:=hcell 0 c0 rfl
 obtain ⟨hc1,v1,hv1,hr1⟩:=hcell 1 c1 rfl
 have hle2:2≤cs.size:=by simp only[List.length_cons,List.length_nil]at hle; omega
 have hself:∀ (G':GSt),G.tick≤G'.tick→(∀ ob l',G'.obs[o]?=some (ob,l')→ob.ver=ver→∃ et sz cells,ob = .arr ver et sz cells∧l'=l)→VR w.heap F G' (.ref o ver 0) (.pointer (some ⟨l.blk,0,none⟩)):=by
  intro G' ht h
  refine .ref _ _ _ _ (Nat.lt_of_lt_of_le hver ht) fun ob l' h1 h2=>?_
  obtain ⟨a,b,c,d,rfl⟩:=h ob l' h1 h2
  exact ⟨a,b,c,d,rfl⟩
 have hcell0:w.cell? ⟨l.blk,0,none⟩=some v0:=by simp [World.cell?,hb,hv0]
 have put:∀ w':World,w'.os=w.os→w'.tape=w.tape→w'.output=w.output→w.drawn≤w'.drawn→w'.heap.size=w.heap.size→(∀ b,b≠l.blk→w'.heap[b]?=w.heap[b]?) →
   (∃ cs':Array Value,w'.heap[l.blk]?=some (.cells cs' 133 fz)∧cs'.size=cs.size∧cs'[0]?=some (.pointer (some ⟨l.blk,0,none⟩))∧cs'[1]?=some v1) →
   Inv F ⟨G.obs.set o (.arr ver 133 2 [.ref o ver 0,c1],l),G.tick⟩ w'∧Next F G w F ⟨G.obs.set o (.arr ver 133 2 [.ref o ver 0,c1],l),G.tick⟩ w':=by
  rintro w' h1 h2 h3 hd h4 h5 ⟨cs',k1,k2,k3,k4⟩
  refine zk1 hi hG _ l G.tick w' h1 h2 h3 hd (by omega) (.inl rfl) (fun b _ hb=>h5 b hb) (qR _) (show ver<G.tick from hver) (.inl ⟨rfl,by simp [Ob.like],rfl⟩) ?_
  refine ⟨cs',⟨fz,k1,hz.of k2⟩,by omega,by simp; omega,?_⟩
  rintro (_ | _ | i) p hp
  ·simp at hp; subst hp
   exact ⟨rfl,_,k3,hself G (qR _) fun ob l' h1 h2=>by rw [hG]at h1; cases h1; exact ⟨_,_,_,rfl,rfl⟩⟩
  ·simp at hp; subst hp
   exact ⟨hc1,v1,k4,hr1⟩
  simp at hp
 have er:∀ ob,(⟨G.obs.set o (ob,l),G.tick⟩:GSt).er=⟨G.er.obs.set o ob,G.er.tick⟩:=by intro ob; simp [GSt.er,List.map_set]
 rcases h0 with rfl | rfl
 ·have hv0':v0 = .pointer none:=by cases hr0 with | imm _ _ h=>cases h; rfl
  subst hv0'
  refine (zpo l.blk cs.size hle2 w hcell0 (by simp [World.shape?,hb]) (by obtain ⟨lo,hi'⟩:=fz; simp only[World.frozen?,hb,Bool.and_eq_false_iff,decide_eq_false_iff_not]; rcases hz with h | h <;> simp only at h <;> omega)).mono ?_
  rintro e w' ⟨rfl,rfl⟩
  obtain ⟨i1,n1⟩:=put (w.setCell ⟨l.blk,0,none⟩ (.pointer (some ⟨l.blk,0,none⟩))) rfl rfl rfl (qR _) (by simp) (fun b hb=>by simp [World.setCell,Array.getElem?_modify,Ne.symm hb])
   ⟨cs.setIfInBounds 0 (.pointer (some ⟨l.blk,0,none⟩)),by simp [World.setCell,Array.getElem?_modify,hb],by simp,by rw [Array.getElem?_setIfInBounds,if_pos rfl,if_pos (by omega)],by simp [Array.getElem?_setIfInBounds,hv1]⟩
  exact ⟨_,_,F,_,rfl,⟨rfl,er _⟩,i1,n1,.tup [] #[] rfl (by simp)⟩
 have hv0':v0 = .pointer (some ⟨l.blk,0,none⟩):=by
  obtain ⟨_,_,l3,h1,h2,_⟩:=hr0.ref_at hi hco
  rw [hG]at h1; cases h1; exact h2
 subst hv0'
 refine (zrn l.blk w hcell0).mono ?_
 rintro e w' ⟨rfl,rfl⟩
 obtain ⟨i1,n1⟩:=put w' rfl rfl rfl (qR _) rfl (fun _ _=>rfl) ⟨cs,hb,rfl,hv0,hv1⟩
 exact ⟨_,_,F,_,rfl,⟨rfl,er _⟩,i1,n1,.tup [] #[] rfl (by simp)⟩
theorem zoi {A:List Ob} {t ver vq:Nat} {c0:PV} {l:Txt} (h0:l≠[]) :
  Ev Tryz.prog 107 [.ref A.length ver 0] ⟨A++[.arr ver 133 2 [c0,.loc (A.length+1) vq 0 l.length],.arr vq 5 1 (l.map eB)],t⟩ fun v S'=>v = .str l∧S'=⟨A,t⟩:=by
 refine ⟨Fn.ent ⟨Tryz.func107,by kernel_rfl,rfl,by kernel_rfl⟩,fun F G w cargs hE hi hl hv=>?_⟩
 obtain ⟨c,rfl⟩:∃ c,cargs = #[c]:=by
  match cargs,hl with
  | ⟨[c]⟩,_=>exact ⟨c,rfl⟩
 have hobs:G.er.obs=A++[.arr ver 133 2 [c0,.loc (A.length+1) vq 0 l.length],.arr vq 5 1 (l.map eB)]:=by rw [hE]
 have htk:G.tick=t:=congrArg Store.tick hE
 have hSo:G.er.obs[A.length]?=some (.arr ver 133 2 [c0,.loc (A.length+1) vq 0 l.length]):=by rw [hobs]; simp
 have hSq:G.er.obs[A.length+1]?=some (.arr vq 5 1 (l.map eB)):=by rw [hobs]; simp
 obtain ⟨et,sz,lo,hGo,rfl,hver⟩:=(hv 0 _ c rfl rfl).ref_at hi (cells:=[c0,.loc (A.length+1) vq 0 l.length]) (by simp [Store.cellsOf,hSo])
 obtain ⟨lo2,hGo2⟩:=zgm hSo
 rw [hGo]at hGo2
 cases hGo2
 obtain ⟨lq,hGq⟩:=zgm hSq
 obtain ⟨cs,⟨fo,hb,-⟩,hcs,hle,hcell⟩:=hi.arr _ _ _ _ _ lo hGo
 obtain ⟨cq,⟨fq,hbq,-⟩,hcq,hleq,hcellq⟩:=hi.arr _ _ _ _ _ lq hGq
 obtain ⟨-,v0,hv0,hr0⟩:=hcell 0 c0 rfl
 obtain ⟨-,v1,hv1,hr1⟩:=hcell 1 _ rfl
 obtain ⟨_,_,lq2,cap,hGq2,rfl,_,hnc,hcm,hroom⟩:=hr1.loc_at hi (cells:=l.map eB) (by simp [Store.cellsOf,hSq])
 rw [hGq]at hGq2
 cases hGq2
 have hl0:l.length≠0:=by simpa using h0
 have hc1:w.cell? ⟨lo.blk,1,none⟩=some (.slice (some ⟨lq.blk,0,none⟩) l.length cap):=by simp [World.cell?,hb,hv1]
 refine (ztw lo.blk lq.blk cap cq fq l w hc1 hbq (by simp at hleq; omega) (by omega) (by unfold maxLen at hcm; omega) h0 ?_).mono ?_
 ·intro j x hx
  obtain ⟨-,v,k1,k2⟩:=hcellq j (eB x) (by simp [hx])
  rw [k1,k2.int]
 ·rintro e w' ⟨rfl,rfl⟩
  have hoth:∀ b,b≠lq.blk→(w.drew.freeze ⟨lq.blk,0,none⟩ l.length).heap[b]?=w.heap[b]?:=by
   intro b hb'
   show _=w.drew.heap[b]?
   simp only[World.freeze,if_neg hl0,Array.getElem?_modify,Ne.symm hb',if_false]
  have hsz:(w.drew.freeze ⟨lq.blk,0,none⟩ l.length).heap.size=w.heap.size:=by
   show (w.drew.freeze ⟨lq.blk,0,none⟩ l.length).heap.size=w.drew.heap.size
   simp only[World.freeze,if_neg hl0,Array.size_modify]
  have hos:∀ w2:World,(w2.freeze ⟨lq.blk,0,none⟩ l.length).os=w2.os∧(w2.freeze ⟨lq.blk,0,none⟩ l.length).tape=w2.tape∧(w2.freeze ⟨lq.blk,0,none⟩ l.length).output=w2.output:=by
   intro w2; simp [World.freeze,hl0]
  have nx:Next F G w F (G.take A.length) (w.drew.freeze ⟨lq.blk,0,none⟩ l.length) :=
   ⟨(hos _).1,(hos _).2.1,(hos _).2.2,by omega,fun _ h=>h,fun _ h => .inl h,fun o x h => .inr ⟨o,x,zd7 h,rfl⟩,qR _,
    fun b _ hG=>hoth b fun e=>hG _ _ hGq e.symm,fun _ ob' _ h _=>⟨ob',zd7 h,rfl,Ob.like.refl _⟩,by simp [World.freeze,hl0]⟩
  have tlt:∀ (o:Nat) x,(G.take A.length).obs[o]?=some x→o<A.length:=by
   intro o x hx
   have:=(List.getElem?_eq_some_iff.1 hx).1
   simp only[GSt.take,List.length_take]at this; omega
  refine ⟨.str l,_,F,G.take A.length,rfl,⟨rfl,?_⟩,zkk (fun b hb=>by rw [hsz]; exact hi.fr b hb) (fun o ob l' h=>hi.ver o ob l' (zd7 h)) (fun o ob l' h=>hi.nF o ob l' (zd7 h))
   (fun o ob l' h=>(hi.holds (zd7 h)).next hi nx (hoth _ fun e=>?_)) (fun o o' x x' h h'=>hi.inj o o' x x' (zd7 h) (zd7 h')),nx,.imm _ _ (.str _ _ rfl)⟩
  ·rw [zk9,hE]; simp [Store.take]
  have:=hi.inj o _ _ _ (zd7 h) hGq e
  have:=tlt o _ h
  omega
end
theorem zvd {o:List Txt} {vo vb t:Nat} (x:UInt8):Ev Tryz.prog 106 [.ref 1 vb 0,eB x] ⟨[.arr vo 9 1 (o.map .str),.arr vb 133 2 [.nilp,.nils]],t⟩ fun v S=>v = .undef∧∃ vq t2:Nat,S=⟨[.arr vo 9 1 (o.map .str),.arr vb 133 2 [.ref 1 vb 0,.loc 2 vq 0 ([x]).length],.arr vq 5 1 (([x]).map eB)],t2⟩:=by
 refine Ev.of ⟨Tryz.func106,by kernel_rfl,rfl,by kernel_rfl⟩ zap mixed (by show 2≤Tryz.f106.ntmps; decide) ?_
 refine W.r fun K hK=>?_
 simp(disch:=omega)only[↓RU,RV,RH,↓reduceIte,qE,reduceCtorEq,if_pos,↓RS,RG,qA,qM,qL]
 apply hK;clear hK K
 refine W.r fun K hK=>?_
 simp(disch:=omega)only[↓RU,RV,RH,↓reduceIte,qE,reduceCtorEq,if_pos,qN,↓RS,RG,qA,qM,qL,List.set_cons_succ,List.set_cons_zero]
 refine zad.ev (znr (S:=⟨[.arr vo 9 1 (o.map .str),.arr vb 133 2 [.nilp,.nils]],t⟩) (o:=1) rfl (.inl rfl)) ?_
 rintro _ _ ⟨rfl,rfl⟩
 simp(disch:=omega)only[↓RU,RV,RH,↓reduceIte,qE,reduceCtorEq,if_pos,qN,↓RS,RG,qA,qM,qL,List.set_cons_succ,List.set_cons_zero]
 apply hK;clear hK K
 refine W.joinS [] (fun vs S=>vs=[]∧∃ vq t2:Nat,S=⟨[.arr vo 9 1 (o.map .str),.arr vb 133 2 [.ref 1 vb 0,.loc 2 vq 0 ([x]).length],.arr vq 5 1 (([x]).map eB)],t2⟩) ?_ ?_
 ·
  refine W.k fun K hK=>?_
  simp(disch:=omega)only[↓RU,RV,RH,↓reduceIte,qE,reduceCtorEq,if_pos,↓RS,RG,qA,qM,qL,ty6,ty8,ygt,ygu,zen]
  apply hK;clear hK K
  refine xn ?_
  refine ⟨2,[3],[],⟨[.arr vo 9 1 (o.map .str),.arr vb 133 2 [.ref 1 vb 0,.loc 2 (t+2) 0 ([x]).length],.arr (t+2) 5 1 (([x]).map eB)],(t+3)⟩,?_,?_,rfl,t+2,t+3,rfl⟩
  ·simp [-qU,Env.put,Env.of,zaf,zb1,zaj,zan,zau,zax,zb9,zca,zdc,zb8,zbi,zcb,zdb,zdd,zbk,zbj,zay,zb7,zcc,zda,zbg,zbf,zaw,zbh,zb6,zfc,qS,qP,qC]
  simp [-qU,Env.put,Env.of,zaf,zb1,zaj,zan,zau,zax,zb9,zca,zdc,zb8,zbi,zcb,zdb,zdd,zbk,zbj,zay,zb7,zcc,zda,zbg,zbf,zaw,zbh,zb6,zfc,qS,qP,qC,ydv]
 rintro vs S - ⟨rfl,vq,t2,rfl⟩
 refine W.r fun K hK=>?_
 simp(disch:=omega)only[↓RU,RV,RH,↓reduceIte,qE,reduceCtorEq,if_pos,↓RS,RG,qA,qM,qL]
 apply hK;clear hK K
 refine W.ret ?_
 refine Br rfl ?_
 exact ⟨_,rfl,vq,t2,zak⟩
theorem zve {o:List Txt} {vo vb vq t:Nat} {l:Txt} (hl:l.length<2147483647) (x:UInt8):Ev Tryz.prog 106 [.ref 1 vb 0,eB x] ⟨[.arr vo 9 1 (o.map .str),.arr vb 133 2 [.ref 1 vb 0,.loc 2 vq 0 (l).length],.arr vq 5 1 ((l).map eB)],t⟩ fun v S=>v = .undef∧∃ vq t2:Nat,S=⟨[.arr vo 9 1 (o.map .str),.arr vb 133 2 [.ref 1 vb 0,.loc 2 vq 0 (l++[x]).length],.arr vq 5 1 ((l++[x]).map eB)],t2⟩:=by
 refine Ev.of ⟨Tryz.func106,by kernel_rfl,rfl,by kernel_rfl⟩ zap mixed (by show 2≤Tryz.f106.ntmps; decide) ?_
 refine W.r fun K hK=>?_
 simp(disch:=omega)only[↓RU,RV,RH,↓reduceIte,qE,reduceCtorEq,if_pos,↓RS,RG,qA,qM,qL]
 apply hK;clear hK K
 refine W.r fun K hK=>?_
 simp(disch:=omega)only[↓RU,RV,RH,↓reduceIte,qE,reduceCtorEq,if_pos,qN,↓RS,RG,qA,qM,qL,List.set_cons_succ,List.set_cons_zero]
 refine zad.ev (znr (S:=⟨[.arr vo 9 1 (o.map .str),.arr vb 133 2 [.ref 1 vb 0,.loc 2 vq 0 (l).length],.arr vq 5 1 ((l).map eB)],t⟩) (o:=1) rfl (.inr rfl)) ?_
 rintro _ _ ⟨rfl,rfl⟩
 simp(disch:=omega)only[↓RU,RV,RH,↓reduceIte,qE,reduceCtorEq,if_pos,qN,↓RS,RG,qA,qM,qL,List.set_cons_succ,List.set_cons_zero]
 apply hK;clear hK K
 refine W.r fun K hK=>?_
 simp(disch:=omega)only[↓RU,RV,RH,↓reduceIte,qE,reduceCtorEq,if_pos,↓RS,RG,qA,qM,qL,ty6,ty8,ygt,ygu,zen]
 apply hK;clear hK K
 refine W.r fun K hK=>?_
 simp(disch:=omega)only[↓RU,RV,RH,↓reduceIte,qE,reduceCtorEq,if_pos,↓RS,RG,qA,qM,qL]
 apply hK;clear hK K
 refine W.ret ?_
 refine Br rfl ?_
 exact ⟨3,rfl,t+1,t+2,by simp [zbe]⟩
theorem zym {o:List Txt} {vo vb vq t:Nat} {l:Txt} (hl:l.length<2147483647) (x:UInt8):Ev Tryz.prog 106 [.ref 1 vb 0,eB x] (stB o vo vb l vq t) fun v S=>v = .undef∧∃ vq2 t2:Nat,S=stB o vo vb (l++[x]) vq2 t2:=by
 cases l with
 | nil=>exact zvd x
 | cons a l=>exact zve hl x
theorem z22 {o:List Txt} {vo vb vq t:Nat} {l:Txt} (h0:l≠[]):Ev Tryz.prog 107 [.ref 1 vb 0] (stB o vo vb l vq t) fun v S=>v = .str l∧S=⟨[.arr vo 9 1 (o.map .str)],t⟩:=by
 rw [yft h0]
 exact zoi (A:=[.arr vo 9 1 (o.map .str)]) h0
theorem yd6 {g:List (List Int)} {nh nw:Nat} (hg:GW g nh nw) (rs:List Rect) (hz:∀ r∈g,∀ z∈r,0≤z∧z≤100):PC Tryz.prog 79 [za3 g rs] (zav (zfy g)) true:=by
 have hl:=hg.1
 obtain ⟨hg1,hg2,hg3,hg4⟩:=hg.2.2
 refine PC.of ⟨Tryz.func79,by kernel_rfl,rfl,by kernel_rfl⟩ zap mixed (by show 1≤Tryz.f79.ntmps; decide) ?_
 refine W.r fun K hK=>?_
 simp(disch:=omega)only[↓RU,RV,RH,↓reduceIte,qE,reduceCtorEq,if_pos,↓RS,RG,qA,qM,qL]
 apply hK;clear hK K
 refine W.r fun K hK=>?_
 simp(disch:=omega)only[↓RU,RV,RH,↓reduceIte,qE,reduceCtorEq,if_pos,qN,↓RS,RG,qA,qM,qL,ty5,zac,hl,ze3,zo6,zes]
 refine zad.pc (zp2 g rs) rfl (.inl rfl) ?_
 simp(disch:=omega)only[↓RU,RV,RH,↓reduceIte,qE,reduceCtorEq,if_pos,qN,↓RS,RG,qA,qM,qL,ty5,zac,hl,ze3,zo6,zes]
 apply hK;clear hK K
 refine W.seq ?_
 refine W.r fun K hK=>?_
 simp(disch:=omega)only[↓RU,RV,RH,↓reduceIte,qE,reduceCtorEq,if_pos,↓RS,RG,qA,qM,qL,ty1,ty3,zab,ze6,zde,za7,zaa,ze7,za8,hl]
 apply hK;clear hK K
 refine W.block ?_
 refine W.loop [0,3,15,16,17] (fun n vs S=>∃ (i vo t:Nat) (o:List Txt),n=nh - i∧i≤nh∧o.length=nh∧(∀ j,j<i→o[j]?=(zfy g)[j]?)∧vs=[za3 g rs,.loc 0 vo 0 nh,zfb g,.int .i64 nh,.int .i64 (i:Nat)]∧S=⟨[.arr vo 9 1 (o.map .str)],t⟩) nh ?_ ?_
 ·refine ⟨1,0,0,1,List.replicate nh [],rfl,Nat.zero_le _,by simp,fun j h=>absurd h (by omega),?_,?_⟩
  ·simp [Env.put,Env.of,zaf,hl]
  simp [zbe,zo6]
 rintro n vs S - ⟨i,vo,t,o,rfl,h_i,hol,hdone,rfl,rfl⟩
 refine W.r fun K hK=>?_
 simp(disch:=omega)only[↓RU,RV,RH,↓reduceIte,qE,reduceCtorEq,if_pos,w64,↓RS,RG,qA,qM,qL,zaa]
 apply hK;clear hK K
 refine W.seq ?_
 refine W.cond rfl (fun h=>?_) (fun h=>?_)
 ·try simp only[RL]at h
  obtain ⟨row,hrow,hrm⟩:=zag (show i<g.length by omega)
  have hrl:=hg.2.1 row hrm
  have hrz:=hz row hrm
  refine W.skip ?_
  refine xn ?_
  refine W.seq ?_
  refine W.block ?_
  refine W.r fun K hK=>?_
  simp(disch:=omega)only[↓RU,RV,RH,↓reduceIte,qE,reduceCtorEq,if_pos,↓RS,RG,qA,qM,qL,ty1,zab,zde,zaa,hrow]
  apply hK;clear hK K
  refine W.r fun K hK=>?_
  simp(disch:=omega)only[↓RU,RV,RH,↓reduceIte,qE,reduceCtorEq,if_pos,↓RS,RG,qA,qM,qL,ty6,ty8,ygt,ygu,zen]
  apply hK;clear hK K
  refine W.seq ?_
  refine W.r fun K hK=>?_
  simp(disch:=omega)only[↓RU,RV,RH,↓reduceIte,qE,reduceCtorEq,if_pos,↓RS,RG,qA,qM,qL,zab,zaa,hrl]
  apply hK;clear hK K
  refine W.block ?_
  refine W.loop [0,3,15,16,17,4,6,22,23,24] (fun n vs S=>∃ (k vb vq t:Nat),n=nw - k∧k≤nw∧vs=[za3 g rs,.loc 0 vo 0 nh,zfb g,.int .i64 nh,.int .i64 (i:Nat),.int .i64 (i:Nat),.ref 1 vb 0,eInts row,.int .i64 nw,.int .i64 (k:Nat)]∧S=stB o vo vb (zq7 (row.take k)) vq t) nw ?_ ?_
  ·refine ⟨2,0,_,0,_,rfl,Nat.zero_le _,?_,rfl⟩
   simp [Env.put,Env.of,hrl]
  rintro n vs S - ⟨k,vb,vq,t,rfl,h_k,rfl,rfl⟩
  refine W.r fun K hK=>?_
  simp(disch:=omega)only[↓RU,RV,RH,↓reduceIte,qE,reduceCtorEq,if_pos,w64,↓RS,RG,qA,qM,qL,zaa]
  apply hK;clear hK K
  refine W.seq ?_
  refine W.cond rfl (fun h1=>?_) (fun h1=>?_)
  ·try simp only[RL]at h1
   obtain ⟨z,hzk,hzm⟩:=zag (show k<row.length by omega)
   have hzb:=hrz z hzm
   have hul:=yfy hzb.1
   refine W.skip ?_
   refine xn ?_
   refine W.seq ?_
   refine W.block ?_
   refine W.r fun K hK=>?_
   simp(disch:=omega)only[↓RU,RV,RH,↓reduceIte,qE,reduceCtorEq,if_pos,↓RS,RG,qA,qM,qL,zab,zaa,hzk]
   apply hK;clear hK K
   refine W.k fun K hK=>?_
   simp(disch:=omega)only[↓RU,RV,RH,↓reduceIte,qE,reduceCtorEq,if_pos,w64,w64,qN,↓RS,RG,qA,qM,qL,zaa,zen,hul]
   refine zad.ev (zym (by rw [z2b,List.length_take]; omega) (z6h z)) ?_
   rintro _ _ ⟨rfl,vq2,t2,rfl⟩
   simp(disch:=omega)only[↓RU,RV,RH,↓reduceIte,qE,reduceCtorEq,if_pos,w64,w64,qN,↓RS,RG,qA,qM,qL,zaa,zen,hul]
   apply hK;clear hK K
   refine XbN ?_
   refine xn ?_
   refine W.k fun K hK=>?_
   simp(disch:=omega)only[↓RU,RV,RH,↓reduceIte,qE,reduceCtorEq,if_pos,w64,↓RS,RG,qA,qM,qL,zaa]
   apply hK;clear hK K
   refine xn ?_
   refine ⟨nw - (k+1),by omega,_,k+1,vb,vq2,t2,rfl,by omega,?_,by rw [z73 hzk]; exact zak⟩
   simp [Env.put,Env.of]
  try simp only[RL]at h1
  obtain rfl:nw=k:=by omega
  refine W.exit ?_
  refine xe ?_
  refine xe ?_
  refine XBlock.hit ?_
  refine xn ?_
  refine W.k fun K hK=>?_
  have htk:row.take nw=row:=qT (by omega)
  rw [htk]
  have hne:=ydw (row:=row) (by omega)
  simp(disch:=omega)only[↓RU,RV,RH,↓reduceIte,qE,reduceCtorEq,if_pos,qN,↓RS,RG,qA,qM,qL,ty5,zac,hol,zb5,zra]
  refine zad.ev (z22 hne) ?_
  rintro _ _ ⟨rfl,rfl⟩
  simp(disch:=omega)only[↓RU,RV,RH,↓reduceIte,qE,reduceCtorEq,if_pos,qN,↓RS,RG,qA,qM,qL,ty5,zac,hol,zb5,zra]
  apply hK;clear hK K
  refine XbN ?_
  refine xn ?_
  refine W.k fun K hK=>?_
  simp(disch:=omega)only[↓RU,RV,RH,↓reduceIte,qE,reduceCtorEq,if_pos,w64,↓RS,RG,qA,qM,qL,zaa]
  apply hK;clear hK K
  refine xn ?_
  refine ⟨nh - (i+1),by omega,1,i+1,vo,t,o.set i (zq7 row),rfl,by omega,by simp [hol],?_,?_,?_⟩
  ·intro j hj
   by_cases e:j=i
   ·subst e; rw [zmm hrow,List.getElem?_set,if_pos rfl,if_pos (by omega)]
   rw [List.getElem?_set,if_neg (Ne.symm e)]; exact hdone j (by omega)
  ·simp [Env.put,Env.of]
  simp [zbe]
 try simp only[RL]at h
 obtain rfl:nh=i:=by omega
 refine W.exit ?_
 refine xe ?_
 refine xe ?_
 refine XBlock.hit ?_
 refine xn ?_
 refine W.r fun K hK=>?_
 simp(disch:=omega)only[↓RU,RV,RH,↓reduceIte,qE,reduceCtorEq,if_pos,↓RS,RG,qA,qM,qL]
 apply hK;clear hK K
 refine W.ret ?_
 refine Br rfl ?_
 have hdo:=z8k (by omega) (fun j hj=>hdone j (by omega))
 subst hdo
 obtain rfl:nh=(zfy g).length:=hol.symm
 exact zcv (k:=9) rfl (by simp) (z36 _)
def mE (ks:List Int):List (PV × PV):=ks.zipIdx.map fun q=>(.int .i64 q.1,.int .i64 ((q.2:Nat):Int))
theorem zwp (ks:List Int):(mE ks).length=ks.length:=by simp [mE]
theorem ybu (ks:List Int) (z:Int):mE (ks++[z])=mE ks++[(.int .i64 z,.int .i64 ((ks.length:Nat):Int))]:=by simp [mE,List.zipIdx_append]
theorem zzs {q:IntKind} {a b:Int}:zhe (.int q a) (.int q b)=some (decide (a=b)):=by
 simp only[zhe]
 by_cases h:a=b <;> simp [h]
theorem zm1 {z:Int}:∀ (ks:List Int) (i:Nat),findKey (.int .i64 z) ((ks.zipIdx i).map fun q=>(PV.int .i64 q.1,PV.int .i64 ((q.2:Nat):Int))) i=some (if ks.idxOf z=ks.length then none else some (i+ks.idxOf z,.int .i64 ((i+ks.idxOf z:Nat):Int)))
 | [],i=>by simp [findKey]
 | a::ks,i=>by
  simp only[List.zipIdx_cons,List.map_cons,findKey,zzs]
  by_cases h:z=a
  ·subst h
   simp [List.idxOf_cons]
  have h':(a == z)=false:=by simpa using Ne.symm h
  have:=zm1 (z:=z) ks (i+1)
  simp only[h,decide_false]
  rw [this,List.idxOf_cons,h']
  simp only[cond_false,List.length_cons,Nat.add_right_cancel_iff]
  have e:i+1+ks.idxOf z=i+(ks.idxOf z+1):=by omega
  rw [e]
theorem znz {ks:List Int} {z:Int} (h:ks.idxOf z=ks.length):findKey (.int .i64 z) (mE ks) 0=some none:=by
 rw [mE,zm1,if_pos h]
theorem zv9 {ks:List Int} {z:Int} (h:¬ ks.idxOf z=ks.length):findKey (.int .i64 z) (mE ks) 0=some (some (ks.idxOf z,.int .i64 ((ks.idxOf z:Nat):Int))):=by
 rw [mE,zm1,if_neg h]; simp
def Rect.Fit (b:Rect):Prop:=0≤b.row∧0≤b.col∧1≤b.high∧1≤b.wide∧b.row+b.high≤6∧b.col+b.wide≤6
theorem Rect.Fit.in_ {b:Rect} (h:b.Fit):b.In 1000:=by unfold Rect.Fit at h; unfold Rect.In; omega
theorem Rect.Fit.both {b o:Rect} (h:b.Fit) (k:o.Fit):(b.both o).Fit:=by
 unfold Rect.Fit at *
 simp only[Rect.both]
 omega
def zg1 (r c:Nat):Rect:=⟨r,c,1,1⟩
theorem zfi {r c:Nat} (hr:r<6) (hc:c<6):(zg1 r c).Fit:=by unfold Rect.Fit zg1; simp only; omega
theorem zdv {r c:Nat}:(zg1 r c).cells=[.int .i64 r,.int .i64 c,.int .i64 1,.int .i64 1]:=rfl
def zie (ks:List Int) (z:Int):List Int:=if ks.idxOf z=ks.length then ks++[z] else ks
def zi7 (ks:List Int) (rs:List Rect) (z:Int) (q:Rect):List Rect:=if ks.idxOf z=ks.length then rs++[q] else rs
def zo9 (ks:List Int) (rs:List Rect) (z:Int) (q:Rect):List Rect:=(zi7 ks rs z q).set (ks.idxOf z) (((zi7 ks rs z q).getD (ks.idxOf z) q).both q)
def zru (ks:List Int) (rs:List Rect):Prop:=rs.length=ks.length∧∀ b∈rs,b.Fit
theorem zru.nil:zru [] []:=⟨rfl,by simp⟩
theorem zhp {ks:List Int} {z:Int}:ks.idxOf z≤ks.length:=List.idxOf_le_length
theorem zru.in_ {ks:List Int} {rs:List Rect} (h:zru ks rs) {z:Int} {q:Rect} (hq:q.Fit):(zi7 ks rs z q).length=(zie ks z).length∧(∀ b∈zi7 ks rs z q,b.Fit)∧∃ b,(zi7 ks rs z q)[ks.idxOf z]?=some b∧b.Fit:=by
 have h1:=h.1
 have h2:=zhp (ks:=ks) (z:=z)
 have hf:∀ b∈zi7 ks rs z q,b.Fit:=by
  unfold zi7
  split
  ·intro b hb
   rcases List.mem_append.1 hb with hb | hb
   ·exact h.2 b hb
   rw [List.mem_singleton]at hb; subst hb; exact hq
  exact h.2
 have hl:(zi7 ks rs z q).length=(zie ks z).length:=by
  unfold zi7 zie; split <;> simp [h1]
 refine ⟨hl,hf,?_⟩
 obtain ⟨b,hb,hm⟩:=zag (show ks.idxOf z<(zi7 ks rs z q).length by rw [hl]; unfold zie; split <;> (try rw [List.length_append,List.length_singleton]) <;> omega)
 exact ⟨b,hb,hf b hm⟩
theorem zru.step {ks:List Int} {rs:List Rect} (h:zru ks rs) {z:Int} {q:Rect} (hq:q.Fit):zru (zie ks z) (zo9 ks rs z q):=by
 obtain ⟨h1,h2,b,hb,hbf⟩:=h.in_ (z:=z) hq
 refine ⟨by rw [zo9,List.length_set,h1],fun c hc=>?_⟩
 unfold zo9 at hc
 rcases List.mem_or_eq_of_mem_set hc with hc | rfl
 ·exact h2 c hc
 rw [List.getD_eq_getElem?_getD,hb]; exact hbf.both hq
theorem zzt {ks:List Int} {rs:List Rect} {z:Int} {q b:Rect} (hb:(zi7 ks rs z q)[ks.idxOf z]?=some b):zo9 ks rs z q=(zi7 ks rs z q).set (ks.idxOf z) (b.both q):=by
 rw [zo9,List.getD_eq_getElem?_getD,hb]; rfl
theorem zj2 {rs:List Rect} {n:Nat} {r:Rect} (h:n<rs.length):(rcs rs).take (n*4)++r.cells++(rcs rs).drop (n*4+4)=rcs (rs.set n r):=ydn h
theorem zzm {S:Store} {k f:Nat} {sel:List Nat} (ks:List Int):((mE ks).mapM fun q=>(rn S k sel (f+1) q.1).bind fun a=>(rn S k sel (f+1) q.2).map fun b=>(a,b))=some (mE ks):=by
 have:∀ l:List (PV × PV),(∀ q∈l,∃ a b:Int,q=(.int .i64 a,.int .i64 b))→(l.mapM fun q=>(rn S k sel (f+1) q.1).bind fun a=>(rn S k sel (f+1) q.2).map fun b=>(a,b))=some l:=by
  intro l
  induction l with
  | nil=>intro _; rfl
  | cons q l ih =>
   intro h
   obtain ⟨a,b,rfl⟩:=h q (by simp)
   rw [qC,ih fun x hx=>h x (by simp [hx])]
   rfl
 refine this _ fun q hq=>?_
 obtain ⟨a,_,rfl⟩:=List.mem_map.1 hq
 exact ⟨_,_,rfl⟩
theorem zod {S:Store} {k f:Nat} {sel:List Nat} (rs:List Rect):(rcs rs).mapM (rn S k sel (f+1))=some (rcs rs):=zuv (z2f rs)
theorem zb3 {T:Tab} {S:Store} {e:Env} {t:TypeId} {x:Operand}:zd3 T S e (.load t x)=zrt (T t) S (e.ev x):=rfl
theorem zcz {T:Tab} {S:Store} {e:Env} {x:Operand}:zd3 T S e (.nilCheck x)=zg9 S (e.ev x):=rfl
theorem zec {T:Tab} {S:Store} {e:Env} {t:TypeId} {x:Operand} {f:Nat}:zd3 T S e (.fieldAddr t x f)=zfv T S t (e.ev x) f:=rfl
theorem zed {T:Tab} {S:Store} {e:Env} {t:TypeId} {x i:Operand}:zd3 T S e (.indexAddr t x i)=zfw T S t (e.ev x) (e.ev i):=rfl
theorem z7o {r:Rect}:rcs [r]=r.cells:=by simp [rcs]
theorem ybz {rs:List Rect}:(rcs rs).take (rs.length*4)=rcs rs:=by rw [← zb4,List.take_length]
theorem zbm {r:Rect}:r.cells.length=4:=rfl
theorem zbn {r:Rect}:zcn r.cells=True:=eq_true (by intro p hp; simp [Rect.cells]at hp; rcases hp with rfl | rfl | rfl | rfl <;> rfl)
def gcs (d:List (List Int)) (cur:PV) (m:Nat):List PV:=d.map eInts++cur::List.replicate m .nils
theorem zxy {S:Store} {k f:Nat} {sel:List Nat} {d:List (List Int)} {cur cur2:PV} {m:Nat} (h:rn S k sel (f+1) cur=some cur2):(gcs d cur m).mapM (rn S k sel (f+1))=some (gcs d cur2 m):=by
 unfold gcs
 rw [qP,zco (l:=d.map eInts) (fun x hx=>by obtain ⟨a,_,rfl⟩:=List.mem_map.1 hx; rfl),qC,h,zco (l:=List.replicate m PV.nils) (fun x hx=>by obtain rfl:=List.eq_of_mem_replicate hx; rfl)]
 rfl
theorem zwh {z:Int}:TK.keyed tab 3 (.int .i64 z)=true:=by simp only[TK.keyed,zaa]; rfl
theorem zrc {g d:List (List Int)} {y:List Int} {row ks:List Int} {rs:List Rect} {z:Int} {r c w m xv yv vq t:Nat} (hr:r<6) (hc:c<6) (hrow:g[r]?=some row) (hz:row[c]?=some z) (hs:zru ks rs) (hk:ks.length≤64) (hin:¬ ks.idxOf z=ks.length):Ev Tryz.prog 87 [.int .i64 (r:Nat),.int .i64 (c:Nat),.ref 5 5 0,.ref 0 0 0,.ref 3 3 0] ⟨[.arr 0 70 1 [zfb g],.arr 1 3 1 [.int .i64 w],.arr 2 73 2 [.nils,.loc 8 vq 0 (rs).length],.arr 3 42 1 [.ref 2 2 0],.map 4 (mE ks),.arr 5 116 1 [.mp 4 4],.arr xv 34 1 (gcs d (.loc 7 yv 0 w) m),.arr yv 3 1 (y.map (.int .i64)),.arr vq 93 4 (rcs rs)],t⟩ fun v S=>v = .int .i64 ((ks.idxOf z:Nat):Int)∧∃ vq t:Nat,S=⟨[.arr 0 70 1 [zfb g],.arr 1 3 1 [.int .i64 w],.arr 2 73 2 [.nils,.loc 8 vq 0 ((zo9 ks rs z (zg1 r c))).length],.arr 3 42 1 [.ref 2 2 0],.map 4 (mE (zie ks z)),.arr 5 116 1 [.mp 4 4],.arr xv 34 1 (gcs d (.loc 7 yv 0 w) m),.arr yv 3 1 (y.map (.int .i64)),.arr vq 93 4 (rcs (zo9 ks rs z (zg1 r c)))],t⟩:=by
 have hrl:=zb0 hrow
 have hcl:=zb0 hz
 have hgl:g.length=g.length:=rfl
 obtain ⟨hi1,hi2,b,hb,hbf⟩:=hs.in_ (z:=z) (zfi hr hc)
 have hil:=zhp (ks:=ks) (z:=z)
 have hsl:=hs.1
 have hst:=hs.step (z:=z) (zfi hr hc)
 have hfs:=zv9 hin
 have hki:zie ks z=ks:=by simp [zie,hin]
 have hri:zi7 ks rs z (zg1 r c)=rs:=by simp [zi7,hin]
 refine Ev.of ⟨Tryz.func87,by kernel_rfl,rfl,by kernel_rfl⟩ zap mixed (by show 5≤Tryz.f87.ntmps; decide) ?_
 refine W.r fun K hK=>?_
 simp(disch:=omega)only[↓RU,RV,RH,↓reduceIte,qE,reduceCtorEq,if_pos,↓RS,RG,qA,qM,qL]
 apply hK;clear hK K
 refine W.seq_draw (by kernel_rfl) fun K hK=>?_
 simp(disch:=omega)only[↓RU,RV,RH,↓reduceIte,qE,reduceCtorEq,if_pos,↓RS,RG,qA,qM,qL,ty1,zab,zde,zaa,yb8,hrow,hz,zwp,hfs]
 apply hK;clear hK K
 refine W.joinS [0,1,2,3,4,8] (fun vs S=>∃ vq t:Nat,vs=[.int .i64 (r:Nat),.int .i64 (c:Nat),.ref 5 5 0,.ref 0 0 0,.ref 3 3 0,.int .i64 ((ks.idxOf z:Nat):Int)]∧S=⟨[.arr 0 70 1 [zfb g],.arr 1 3 1 [.int .i64 w],.arr 2 73 2 [.nils,.loc 8 vq 0 ((zi7 ks rs z (zg1 r c))).length],.arr 3 42 1 [.ref 2 2 0],.map 4 (mE (zie ks z)),.arr 5 116 1 [.mp 4 4],.arr xv 34 1 (gcs d (.loc 7 yv 0 w) m),.arr yv 3 1 (y.map (.int .i64)),.arr vq 93 4 (rcs (zi7 ks rs z (zg1 r c)))],t⟩) ?_ ?_
 ·
  refine W.r fun K hK=>?_
  simp(disch:=omega)only[↓RU,RV,RH,↓reduceIte,qE,reduceCtorEq,if_pos,↓RS,RG,qA,qM,qL]
  apply hK;clear hK K
  refine W.cond rfl (fun h=>?_) (fun h=>?_)
  ·try simp only[RL]at h
   exact absurd h (by simp)
  try simp only[RL]at h
  refine W.skip ?_
  refine xn ?_
  refine ⟨9,[],[.int .i64 (r:Nat),.int .i64 (c:Nat),.ref 5 5 0,.ref 0 0 0,.ref 3 3 0,.int .i64 ((ks.idxOf z:Nat):Int)],⟨[.arr 0 70 1 [zfb g],.arr 1 3 1 [.int .i64 w],.arr 2 73 2 [.nils,.loc 8 vq 0 ((zi7 ks rs z (zg1 r c))).length],.arr 3 42 1 [.ref 2 2 0],.map 4 (mE (zie ks z)),.arr 5 116 1 [.mp 4 4],.arr xv 34 1 (gcs d (.loc 7 yv 0 w) m),.arr yv 3 1 (y.map (.int .i64)),.arr vq 93 4 (rcs (zi7 ks rs z (zg1 r c)))],(t+1)⟩,?_,?_,vq,t+1,rfl,rfl⟩
  ·simp [-qU,Env.put,Env.of,zaf,zb1,zaj,zan,zau,zax,zb9,zca,zdc,zb8,zbi,zcb,zdb,zdd,zbk,zbj,zay,zb7,zcc,zda,zbg,zbf,zaw,zbh,zb6,zfc,qS,qP,qC]
  rw [hki,hri]; simp [-qU,Env.put,Env.of,zaf,zb1,zaj,zan,zau,zax,zb9,zca,zdc,zb8,zbi,zcb,zdb,zdd,zbk,zbj,zay,zb7,zcc,zda,zbg,zbf,zaw,zbh,zb6,zfc,qS,qP,qC,zzm,zod,zh2,zxy]
 rintro vs S - ⟨vq,t,rfl,rfl⟩
 have hrs2:=zzt hb
 generalize hks1:zie ks z=ks1 at hi1 hst
 generalize hrs1:zi7 ks rs z (zg1 r c)=rs1 at hb hi1 hi2 hrs2
 have hbl:=zb0 hb
 refine W.seq_draw (by kernel_rfl) fun K hK=>?_
 have hcell:=(zdv (r:=r) (c:=c)).symm
 have hba:PV.agg b.cells=zro b:=rfl
 simp(disch:=omega)only[↓RU,RV,RH,↓reduceIte,qE,reduceCtorEq,if_pos,qN,↓RS,RG,qA,qM,qL,ty1,ty3,zab,ty7,ze6,zde,za7,zaa,ze7,za8,zkn hb,zb4,← zdv,hcell,zbm,zbn,zj2]
 refine zad.pc (zkq (b:=b) (o:=zg1 r c) hbf.in_ (zfi hr hc).in_) rfl (.inl rfl) ?_
 simp(disch:=omega)only[↓RU,RV,RH,↓reduceIte,qE,reduceCtorEq,if_pos,qN,↓RS,RG,qA,qM,qL,ty1,ty3,zab,ty7,ze6,zde,za7,zaa,ze7,za8,zkn hb,zb4,← zdv,hcell,zbm,zbn,zj2]
 apply hK;clear hK K
 refine W.r fun K hK=>?_
 simp(disch:=omega)only[↓RU,RV,RH,↓reduceIte,qE,reduceCtorEq,if_pos,↓RS,RG,qA,qM,qL]
 apply hK;clear hK K
 refine W.ret ?_
 refine Br rfl ?_
 refine ⟨9,rfl,vq,t,?_⟩
 rw [hrs2]
 simp [zbe]
theorem znh {g d:List (List Int)} {y:List Int} {row ks:List Int} {rs:List Rect} {z:Int} {r c w m xv yv vq t:Nat} (hr:r<6) (hc:c<6) (hrow:g[r]?=some row) (hz:row[c]?=some z) (hs:zru ks rs) (hk:ks.length≤64) (hn:rs=[]) (hn2:ks=[]):Ev Tryz.prog 87 [.int .i64 (r:Nat),.int .i64 (c:Nat),.ref 5 5 0,.ref 0 0 0,.ref 3 3 0] ⟨[.arr 0 70 1 [zfb g],.arr 1 3 1 [.int .i64 w],.arr 2 73 2 [.nils,.nils],.arr 3 42 1 [.ref 2 2 0],.map 4 (mE ks),.arr 5 116 1 [.mp 4 4],.arr xv 34 1 (gcs d (.loc 7 yv 0 w) m),.arr yv 3 1 (y.map (.int .i64))],t⟩ fun v S=>v = .int .i64 ((ks.idxOf z:Nat):Int)∧∃ vq t:Nat,S=⟨[.arr 0 70 1 [zfb g],.arr 1 3 1 [.int .i64 w],.arr 2 73 2 [.nils,.loc 8 vq 0 ((zo9 ks rs z (zg1 r c))).length],.arr 3 42 1 [.ref 2 2 0],.map 4 (mE (zie ks z)),.arr 5 116 1 [.mp 4 4],.arr xv 34 1 (gcs d (.loc 7 yv 0 w) m),.arr yv 3 1 (y.map (.int .i64)),.arr vq 93 4 (rcs (zo9 ks rs z (zg1 r c)))],t⟩:=by
 have hin:ks.idxOf z=ks.length:=by rw [hn2]; rfl
 have hrl:=zb0 hrow
 have hcl:=zb0 hz
 have hgl:g.length=g.length:=rfl
 obtain ⟨hi1,hi2,b,hb,hbf⟩:=hs.in_ (z:=z) (zfi hr hc)
 have hil:=zhp (ks:=ks) (z:=z)
 have hsl:=hs.1
 have hst:=hs.step (z:=z) (zfi hr hc)
 have hfn:=znz hin
 have hki:zie ks z=ks++[z]:=by simp [zie,hin]
 have hri:zi7 ks rs z (zg1 r c)=rs++[zg1 r c]:=by simp [zi7,hin]
 refine Ev.of ⟨Tryz.func87,by kernel_rfl,rfl,by kernel_rfl⟩ zap mixed (by show 5≤Tryz.f87.ntmps; decide) ?_
 refine W.r fun K hK=>?_
 simp(disch:=omega)only[↓RU,RV,RH,↓reduceIte,qE,reduceCtorEq,if_pos,↓RS,RG,qA,qM,qL]
 apply hK;clear hK K
 refine W.seq_draw (by kernel_rfl) fun K hK=>?_
 simp(disch:=omega)only[↓RU,RV,RH,↓reduceIte,qE,reduceCtorEq,if_pos,↓RS,RG,qA,qM,qL,ty1,zab,zde,zaa,yb8,hrow,hz,zwp,hfn]
 apply hK;clear hK K
 refine W.joinS [0,1,2,3,4,8] (fun vs S=>∃ vq t:Nat,vs=[.int .i64 (r:Nat),.int .i64 (c:Nat),.ref 5 5 0,.ref 0 0 0,.ref 3 3 0,.int .i64 ((ks.idxOf z:Nat):Int)]∧S=⟨[.arr 0 70 1 [zfb g],.arr 1 3 1 [.int .i64 w],.arr 2 73 2 [.nils,.loc 8 vq 0 ((zi7 ks rs z (zg1 r c))).length],.arr 3 42 1 [.ref 2 2 0],.map 4 (mE (zie ks z)),.arr 5 116 1 [.mp 4 4],.arr xv 34 1 (gcs d (.loc 7 yv 0 w) m),.arr yv 3 1 (y.map (.int .i64)),.arr vq 93 4 (rcs (zi7 ks rs z (zg1 r c)))],t⟩) ?_ ?_
 ·
  refine W.r fun K hK=>?_
  simp(disch:=omega)only[↓RU,RV,RH,↓reduceIte,qE,reduceCtorEq,if_pos,↓RS,RG,qA,qM,qL]
  apply hK;clear hK K
  refine W.cond rfl (fun h=>?_) (fun h=>?_)
  ·try simp only[RL]at h
   refine W.r fun K hK=>?_
   simp(disch:=omega)only[↓RU,RV,RH,↓reduceIte,qE,reduceCtorEq,if_pos,↓RS,RG,qA,qM,qL,zaa,yb8,zwp]
   apply hK;clear hK K
   refine W.seq_draw (by kernel_rfl) fun K hK=>?_
   simp(disch:=omega)only[↓RU,RV,RH,↓reduceIte,qE,reduceCtorEq,if_pos,↓RS,RG,qA,qM,qL,ty1,zab,zde,zaa,yb8,hrow,hz,hfn,zwh]
   apply hK;clear hK K
   refine W.region_pk 10 [some 35,some 36,some 37,some 38,some 39] [2,3] (by decide) (by kernel_rfl) fun K hK=>?_
   simp only[List.take_succ_cons,List.take_zero,List.drop_succ_cons,List.drop_zero]
   refine zas (.ref 2 2 0) rfl rfl rfl (fun S' hS=>?_) ?_
   ·skip
    have k2:=(hS 2 (by decide)).trans (show _=some _ from rfl)
    have k3:=(hS 3 (by decide)).trans (show _=some _ from rfl)
    simp(disch:=omega)only[↓RU,RV,RH,↓reduceIte,qE,reduceCtorEq,if_pos,↓RS,RG,qA,qM,qL,ty1,ty3,zab,ty7,ze6,zde,za7,zaa,ze7,za8,zb4,zbm,zbn,zb3,zcz,zec,zed,k2,k3]
   refine zas (.ref 2 2 0) rfl rfl rfl (fun S' hS=>?_) ?_
   ·skip
    have k2:=(hS 2 (by decide)).trans (show _=some _ from rfl)
    have k3:=(hS 3 (by decide)).trans (show _=some _ from rfl)
    simp(disch:=omega)only[↓RU,RV,RH,↓reduceIte,qE,reduceCtorEq,if_pos,↓RS,RG,qA,qM,qL,ty1,ty3,zab,ty7,ze6,zde,za7,zaa,ze7,za8,zb4,zbm,zbn,zb3,zcz,zec,zed,k2,k3]
   refine zas (.ref 2 2 0) rfl rfl rfl (fun S' hS=>?_) ?_
   ·skip
    have k2:=(hS 2 (by decide)).trans (show _=some _ from rfl)
    have k3:=(hS 3 (by decide)).trans (show _=some _ from rfl)
    simp(disch:=omega)only[↓RU,RV,RH,↓reduceIte,qE,reduceCtorEq,if_pos,↓RS,RG,qA,qM,qL,ty1,ty3,zab,ty7,ze6,zde,za7,zaa,ze7,za8,zb4,zbm,zbn,zb3,zcz,zec,zed,k2,k3]
   refine zas (.ref 2 2 1) rfl rfl rfl (fun S' hS=>?_) ?_
   ·skip
    have k2:=(hS 2 (by decide)).trans (show _=some _ from rfl)
    have k3:=(hS 3 (by decide)).trans (show _=some _ from rfl)
    simp(disch:=omega)only[↓RU,RV,RH,↓reduceIte,qE,reduceCtorEq,if_pos,↓RS,RG,qA,qM,qL,ty1,ty3,zab,ty7,ze6,zde,za7,zaa,ze7,za8,zb4,zbm,zbn,zb3,zcz,zec,zed,k2,k3]
   refine zas (.nils) rfl rfl rfl (fun S' hS=>?_) ?_
   ·skip
    have k2:=(hS 2 (by decide)).trans (show _=some _ from rfl)
    have k3:=(hS 3 (by decide)).trans (show _=some _ from rfl)
    simp(disch:=omega)only[↓RU,RV,RH,↓reduceIte,qE,reduceCtorEq,if_pos,↓RS,RG,qA,qM,qL,ty1,ty3,zab,ty7,ze6,zde,za7,zaa,ze7,za8,zb4,zbm,zbn,zb3,zcz,zec,zed,k2,k3]
   refine za5 rfl ?_
   simp(disch:=omega)only[↓RU,RV,RH,↓reduceIte,qE,reduceCtorEq,if_pos,↓RS,RG,qA,qM,qL,ty1,ty3,zab,ty7,ze6,zde,za7,zaa,ze7,za8,zb4,zbm,zbn,zam,zar]
   refine za5 rfl ?_
   simp(disch:=omega)only[↓RU,RV,RH,↓reduceIte,qE,reduceCtorEq,if_pos,↓RS,RG,qA,qM,qL,ty1,ty3,zab,ty7,ze6,zde,za7,zaa,ze7,za8,zb4,zbm,zbn,zam,zar]
   refine za5 rfl ?_
   simp(disch:=omega)only[↓RU,RV,RH,↓reduceIte,qE,reduceCtorEq,if_pos,↓RS,RG,qA,qM,qL,ty1,ty3,zab,ty7,ze6,zde,za7,zaa,ze7,za8,zb4,zbm,zbn,zam,zar]
   refine za5 rfl ?_
   simp(disch:=omega)only[↓RU,RV,RH,↓reduceIte,qE,reduceCtorEq,if_pos,↓RS,RG,qA,qM,qL,ty1,ty3,zab,ty7,ze6,zde,za7,zaa,ze7,za8,zb4,zbm,zbn,zam,zar]
   refine za5 rfl ?_
   simp(disch:=omega)only[↓RU,RV,RH,↓reduceIte,qE,reduceCtorEq,if_pos,↓RS,RG,qA,qM,qL,ty1,ty3,zab,ty7,ze6,zde,za7,zaa,ze7,za8,zb4,zbm,zbn,zam,zar]
   refine zf5 ?_
   simp(disch:=omega)only[↓RU,RV,RH,↓reduceIte,qE,reduceCtorEq,if_pos,↓RS,RG,qA,qM,qL,ty1,ty3,zab,ty7,ze6,zde,za7,zaa,ze7,za8,zb4,zbm,zbn]
   apply hK;clear hK K
   refine xn ?_
   refine ⟨8,[9],[.int .i64 (r:Nat),.int .i64 (c:Nat),.ref 5 5 0,.ref 0 0 0,.ref 3 3 0,.int .i64 ((ks.idxOf z:Nat):Int)],⟨[.arr 0 70 1 [zfb g],.arr 1 3 1 [.int .i64 w],.arr 2 73 2 [.nils,.loc 8 (t+2) 0 ((zi7 ks rs z (zg1 r c))).length],.arr 3 42 1 [.ref 2 2 0],.map 4 (mE (zie ks z)),.arr 5 116 1 [.mp 4 4],.arr xv 34 1 (gcs d (.loc 7 yv 0 w) m),.arr yv 3 1 (y.map (.int .i64)),.arr (t+2) 93 4 (rcs (zi7 ks rs z (zg1 r c)))],(t+3)⟩,?_,?_,(t+2),(t+3),rfl,rfl⟩
   ·rw [hin]; simp [-qU,Env.put,Env.of,zaf,zb1,zaj,zan,zau,zax,zb9,zca,zdc,zb8,zbi,zcb,zdb,zdd,zbk,zbj,zay,zb7,zcc,zda,zbg,zbf,zaw,zbh,zb6,zfc,qS,qP,qC]
   rw [hki,hri,hn]; simp [-qU,Env.put,Env.of,zaf,zb1,zaj,zan,zau,zax,zb9,zca,zdc,zb8,zbi,zcb,zdb,zdd,zbk,zbj,zay,zb7,zcc,zda,zbg,zbf,zaw,zbh,zb6,zfc,qS,qP,qC,zzm,zod,zh2,zxy,ybu,zuo,z7o,zdv,ybz]
  try simp only[RL]at h
  exact absurd h (by simp)
 rintro vs S - ⟨vq,t,rfl,rfl⟩
 have hrs2:=zzt hb
 generalize hks1:zie ks z=ks1 at hi1 hst
 generalize hrs1:zi7 ks rs z (zg1 r c)=rs1 at hb hi1 hi2 hrs2
 have hbl:=zb0 hb
 refine W.seq_draw (by kernel_rfl) fun K hK=>?_
 have hcell:=(zdv (r:=r) (c:=c)).symm
 have hba:PV.agg b.cells=zro b:=rfl
 simp(disch:=omega)only[↓RU,RV,RH,↓reduceIte,qE,reduceCtorEq,if_pos,qN,↓RS,RG,qA,qM,qL,ty1,ty3,zab,ty7,ze6,zde,za7,zaa,ze7,za8,zkn hb,zb4,← zdv,hcell,zbm,zbn,zj2]
 refine zad.pc (zkq (b:=b) (o:=zg1 r c) hbf.in_ (zfi hr hc).in_) rfl (.inl rfl) ?_
 simp(disch:=omega)only[↓RU,RV,RH,↓reduceIte,qE,reduceCtorEq,if_pos,qN,↓RS,RG,qA,qM,qL,ty1,ty3,zab,ty7,ze6,zde,za7,zaa,ze7,za8,zkn hb,zb4,← zdv,hcell,zbm,zbn,zj2]
 apply hK;clear hK K
 refine W.r fun K hK=>?_
 simp(disch:=omega)only[↓RU,RV,RH,↓reduceIte,qE,reduceCtorEq,if_pos,↓RS,RG,qA,qM,qL]
 apply hK;clear hK K
 refine W.ret ?_
 refine Br rfl ?_
 refine ⟨9,rfl,vq,t,?_⟩
 rw [hrs2]
 simp [zbe]
theorem zrb {g d:List (List Int)} {y:List Int} {row ks:List Int} {rs:List Rect} {z:Int} {r c w m xv yv vq t:Nat} (hr:r<6) (hc:c<6) (hrow:g[r]?=some row) (hz:row[c]?=some z) (hs:zru ks rs) (hk:ks.length≤64) (hin:ks.idxOf z=ks.length):Ev Tryz.prog 87 [.int .i64 (r:Nat),.int .i64 (c:Nat),.ref 5 5 0,.ref 0 0 0,.ref 3 3 0] ⟨[.arr 0 70 1 [zfb g],.arr 1 3 1 [.int .i64 w],.arr 2 73 2 [.nils,.loc 8 vq 0 (rs).length],.arr 3 42 1 [.ref 2 2 0],.map 4 (mE ks),.arr 5 116 1 [.mp 4 4],.arr xv 34 1 (gcs d (.loc 7 yv 0 w) m),.arr yv 3 1 (y.map (.int .i64)),.arr vq 93 4 (rcs rs)],t⟩ fun v S=>v = .int .i64 ((ks.idxOf z:Nat):Int)∧∃ vq t:Nat,S=⟨[.arr 0 70 1 [zfb g],.arr 1 3 1 [.int .i64 w],.arr 2 73 2 [.nils,.loc 8 vq 0 ((zo9 ks rs z (zg1 r c))).length],.arr 3 42 1 [.ref 2 2 0],.map 4 (mE (zie ks z)),.arr 5 116 1 [.mp 4 4],.arr xv 34 1 (gcs d (.loc 7 yv 0 w) m),.arr yv 3 1 (y.map (.int .i64)),.arr vq 93 4 (rcs (zo9 ks rs z (zg1 r c)))],t⟩:=by
 have hrl:=zb0 hrow
 have hcl:=zb0 hz
 have hgl:g.length=g.length:=rfl
 obtain ⟨hi1,hi2,b,hb,hbf⟩:=hs.in_ (z:=z) (zfi hr hc)
 have hil:=zhp (ks:=ks) (z:=z)
 have hsl:=hs.1
 have hst:=hs.step (z:=z) (zfi hr hc)
 have hfn:=znz hin
 have hki:zie ks z=ks++[z]:=by simp [zie,hin]
 have hri:zi7 ks rs z (zg1 r c)=rs++[zg1 r c]:=by simp [zi7,hin]
 refine Ev.of ⟨Tryz.func87,by kernel_rfl,rfl,by kernel_rfl⟩ zap mixed (by show 5≤Tryz.f87.ntmps; decide) ?_
 refine W.r fun K hK=>?_
 simp(disch:=omega)only[↓RU,RV,RH,↓reduceIte,qE,reduceCtorEq,if_pos,↓RS,RG,qA,qM,qL]
 apply hK;clear hK K
 refine W.seq_draw (by kernel_rfl) fun K hK=>?_
 simp(disch:=omega)only[↓RU,RV,RH,↓reduceIte,qE,reduceCtorEq,if_pos,↓RS,RG,qA,qM,qL,ty1,zab,zde,zaa,yb8,hrow,hz,zwp,hfn]
 apply hK;clear hK K
 refine W.joinS [0,1,2,3,4,8] (fun vs S=>∃ vq t:Nat,vs=[.int .i64 (r:Nat),.int .i64 (c:Nat),.ref 5 5 0,.ref 0 0 0,.ref 3 3 0,.int .i64 ((ks.idxOf z:Nat):Int)]∧S=⟨[.arr 0 70 1 [zfb g],.arr 1 3 1 [.int .i64 w],.arr 2 73 2 [.nils,.loc 8 vq 0 ((zi7 ks rs z (zg1 r c))).length],.arr 3 42 1 [.ref 2 2 0],.map 4 (mE (zie ks z)),.arr 5 116 1 [.mp 4 4],.arr xv 34 1 (gcs d (.loc 7 yv 0 w) m),.arr yv 3 1 (y.map (.int .i64)),.arr vq 93 4 (rcs (zi7 ks rs z (zg1 r c)))],t⟩) ?_ ?_
 ·
  refine W.r fun K hK=>?_
  simp(disch:=omega)only[↓RU,RV,RH,↓reduceIte,qE,reduceCtorEq,if_pos,↓RS,RG,qA,qM,qL]
  apply hK;clear hK K
  refine W.cond rfl (fun h=>?_) (fun h=>?_)
  ·try simp only[RL]at h
   refine W.r fun K hK=>?_
   simp(disch:=omega)only[↓RU,RV,RH,↓reduceIte,qE,reduceCtorEq,if_pos,↓RS,RG,qA,qM,qL,zaa,yb8,zwp]
   apply hK;clear hK K
   refine W.seq_draw (by kernel_rfl) fun K hK=>?_
   simp(disch:=omega)only[↓RU,RV,RH,↓reduceIte,qE,reduceCtorEq,if_pos,↓RS,RG,qA,qM,qL,ty1,zab,zde,zaa,yb8,hrow,hz,hfn,zwh]
   apply hK;clear hK K
   refine W.region_pk 10 [some 35,some 36,some 37,some 38,some 39] [2,3] (by decide) (by kernel_rfl) fun K hK=>?_
   simp only[List.take_succ_cons,List.take_zero,List.drop_succ_cons,List.drop_zero]
   refine zas (.ref 2 2 0) rfl rfl rfl (fun S' hS=>?_) ?_
   ·skip
    have k2:=(hS 2 (by decide)).trans (show _=some _ from rfl)
    have k3:=(hS 3 (by decide)).trans (show _=some _ from rfl)
    simp(disch:=omega)only[↓RU,RV,RH,↓reduceIte,qE,reduceCtorEq,if_pos,↓RS,RG,qA,qM,qL,ty1,ty3,zab,ty7,ze6,zde,za7,zaa,ze7,za8,zb4,zbm,zbn,zb3,zcz,zec,zed,k2,k3]
   refine zas (.ref 2 2 0) rfl rfl rfl (fun S' hS=>?_) ?_
   ·skip
    have k2:=(hS 2 (by decide)).trans (show _=some _ from rfl)
    have k3:=(hS 3 (by decide)).trans (show _=some _ from rfl)
    simp(disch:=omega)only[↓RU,RV,RH,↓reduceIte,qE,reduceCtorEq,if_pos,↓RS,RG,qA,qM,qL,ty1,ty3,zab,ty7,ze6,zde,za7,zaa,ze7,za8,zb4,zbm,zbn,zb3,zcz,zec,zed,k2,k3]
   refine zas (.ref 2 2 0) rfl rfl rfl (fun S' hS=>?_) ?_
   ·skip
    have k2:=(hS 2 (by decide)).trans (show _=some _ from rfl)
    have k3:=(hS 3 (by decide)).trans (show _=some _ from rfl)
    simp(disch:=omega)only[↓RU,RV,RH,↓reduceIte,qE,reduceCtorEq,if_pos,↓RS,RG,qA,qM,qL,ty1,ty3,zab,ty7,ze6,zde,za7,zaa,ze7,za8,zb4,zbm,zbn,zb3,zcz,zec,zed,k2,k3]
   refine zas (.ref 2 2 1) rfl rfl rfl (fun S' hS=>?_) ?_
   ·skip
    have k2:=(hS 2 (by decide)).trans (show _=some _ from rfl)
    have k3:=(hS 3 (by decide)).trans (show _=some _ from rfl)
    simp(disch:=omega)only[↓RU,RV,RH,↓reduceIte,qE,reduceCtorEq,if_pos,↓RS,RG,qA,qM,qL,ty1,ty3,zab,ty7,ze6,zde,za7,zaa,ze7,za8,zb4,zbm,zbn,zb3,zcz,zec,zed,k2,k3]
   refine zas (.loc 8 vq 0 rs.length) rfl rfl rfl (fun S' hS=>?_) ?_
   ·skip
    have k2:=(hS 2 (by decide)).trans (show _=some _ from rfl)
    have k3:=(hS 3 (by decide)).trans (show _=some _ from rfl)
    simp(disch:=omega)only[↓RU,RV,RH,↓reduceIte,qE,reduceCtorEq,if_pos,↓RS,RG,qA,qM,qL,ty1,ty3,zab,ty7,ze6,zde,za7,zaa,ze7,za8,zb4,zbm,zbn,zb3,zcz,zec,zed,k2,k3]
   refine za5 rfl ?_
   simp(disch:=omega)only[↓RU,RV,RH,↓reduceIte,qE,reduceCtorEq,if_pos,↓RS,RG,qA,qM,qL,ty1,ty3,zab,ty7,ze6,zde,za7,zaa,ze7,za8,zb4,zbm,zbn,zam,zar]
   refine za5 rfl ?_
   simp(disch:=omega)only[↓RU,RV,RH,↓reduceIte,qE,reduceCtorEq,if_pos,↓RS,RG,qA,qM,qL,ty1,ty3,zab,ty7,ze6,zde,za7,zaa,ze7,za8,zb4,zbm,zbn,zam,zar]
   refine za5 rfl ?_
   simp(disch:=omega)only[↓RU,RV,RH,↓reduceIte,qE,reduceCtorEq,if_pos,↓RS,RG,qA,qM,qL,ty1,ty3,zab,ty7,ze6,zde,za7,zaa,ze7,za8,zb4,zbm,zbn,zam,zar]
   refine za5 rfl ?_
   simp(disch:=omega)only[↓RU,RV,RH,↓reduceIte,qE,reduceCtorEq,if_pos,↓RS,RG,qA,qM,qL,ty1,ty3,zab,ty7,ze6,zde,za7,zaa,ze7,za8,zb4,zbm,zbn,zam,zar]
   refine za5 rfl ?_
   simp(disch:=omega)only[↓RU,RV,RH,↓reduceIte,qE,reduceCtorEq,if_pos,↓RS,RG,qA,qM,qL,ty1,ty3,zab,ty7,ze6,zde,za7,zaa,ze7,za8,zb4,zbm,zbn,zam,zar]
   refine zf5 ?_
   simp(disch:=omega)only[↓RU,RV,RH,↓reduceIte,qE,reduceCtorEq,if_pos,↓RS,RG,qA,qM,qL,ty1,ty3,zab,ty7,ze6,zde,za7,zaa,ze7,za8,zb4,zbm,zbn]
   apply hK;clear hK K
   refine xn ?_
   refine ⟨9,[],[.int .i64 (r:Nat),.int .i64 (c:Nat),.ref 5 5 0,.ref 0 0 0,.ref 3 3 0,.int .i64 ((ks.idxOf z:Nat):Int)],⟨[.arr 0 70 1 [zfb g],.arr 1 3 1 [.int .i64 w],.arr 2 73 2 [.nils,.loc 8 (t+1) 0 ((zi7 ks rs z (zg1 r c))).length],.arr 3 42 1 [.ref 2 2 0],.map 4 (mE (zie ks z)),.arr 5 116 1 [.mp 4 4],.arr xv 34 1 (gcs d (.loc 7 yv 0 w) m),.arr yv 3 1 (y.map (.int .i64)),.arr (t+1) 93 4 (rcs (zi7 ks rs z (zg1 r c)))],(t+3)⟩,?_,?_,(t+1),(t+3),rfl,rfl⟩
   ·rw [hin]; simp [-qU,Env.put,Env.of,zaf,zb1,zaj,zan,zau,zax,zb9,zca,zdc,zb8,zbi,zcb,zdb,zdd,zbk,zbj,zay,zb7,zcc,zda,zbg,zbf,zaw,zbh,zb6,zfc,qS,qP,qC]
   rw [hki,hri]; simp [-qU,Env.put,Env.of,zaf,zb1,zaj,zan,zau,zax,zb9,zca,zdc,zb8,zbi,zcb,zdb,zdd,zbk,zbj,zay,zb7,zcc,zda,zbg,zbf,zaw,zbh,zb6,zfc,qS,qP,qC,zzm,zod,zh2,zxy,ybu,zuo,z7o,zdv,ybz]
  try simp only[RL]at h
  exact absurd h (by simp)
 rintro vs S - ⟨vq,t,rfl,rfl⟩
 have hrs2:=zzt hb
 generalize hks1:zie ks z=ks1 at hi1 hst
 generalize hrs1:zi7 ks rs z (zg1 r c)=rs1 at hb hi1 hi2 hrs2
 have hbl:=zb0 hb
 refine W.seq_draw (by kernel_rfl) fun K hK=>?_
 have hcell:=(zdv (r:=r) (c:=c)).symm
 have hba:PV.agg b.cells=zro b:=rfl
 simp(disch:=omega)only[↓RU,RV,RH,↓reduceIte,qE,reduceCtorEq,if_pos,qN,↓RS,RG,qA,qM,qL,ty1,ty3,zab,ty7,ze6,zde,za7,zaa,ze7,za8,zkn hb,zb4,← zdv,hcell,zbm,zbn,zj2]
 refine zad.pc (zkq (b:=b) (o:=zg1 r c) hbf.in_ (zfi hr hc).in_) rfl (.inl rfl) ?_
 simp(disch:=omega)only[↓RU,RV,RH,↓reduceIte,qE,reduceCtorEq,if_pos,qN,↓RS,RG,qA,qM,qL,ty1,ty3,zab,ty7,ze6,zde,za7,zaa,ze7,za8,zkn hb,zb4,← zdv,hcell,zbm,zbn,zj2]
 apply hK;clear hK K
 refine W.r fun K hK=>?_
 simp(disch:=omega)only[↓RU,RV,RH,↓reduceIte,qE,reduceCtorEq,if_pos,↓RS,RG,qA,qM,qL]
 apply hK;clear hK K
 refine W.ret ?_
 refine Br rfl ?_
 refine ⟨9,rfl,vq,t,?_⟩
 rw [hrs2]
 simp [zbe]
section
def prS (g:List (List Int)) (w:Nat) (rv:PV) (ks:List Int):List Ob:=[.arr 0 70 1 [zfb g],.arr 1 3 1 [.int .i64 w],.arr 2 73 2 [.nils,rv],.arr 3 42 1 [.ref 2 2 0],.map 4 (mE ks),.arr 5 116 1 [.mp 4 4]]
def seS (g:List (List Int)) (w:Nat) (xv yv:Nat) (x y:List PV) (ks:List Int) (rs:List Rect) (vq t:Nat):Store :=
 match rs with
 | []=>⟨prS g w .nils ks++[.arr xv 34 1 x,.arr yv 3 1 y],t⟩
 | rs=>⟨prS g w (.loc 8 vq 0 rs.length) ks++[.arr xv 34 1 x,.arr yv 3 1 y,.arr vq 93 4 (rcs rs)],t⟩
theorem z8b {g:List (List Int)} {w xv yv:Nat} {x y:List PV} {ks:List Int} {vq t:Nat}:seS g w xv yv x y ks [] vq t=⟨prS g w .nils ks++[.arr xv 34 1 x,.arr yv 3 1 y],t⟩:=rfl
theorem z2i {g:List (List Int)} {w xv yv:Nat} {x y:List PV} {ks:List Int} {rs:List Rect} {vq t:Nat} (h:rs≠[]):seS g w xv yv x y ks rs vq t=⟨prS g w (.loc 8 vq 0 rs.length) ks++[.arr xv 34 1 x,.arr yv 3 1 y,.arr vq 93 4 (rcs rs)],t⟩:=by
 cases rs with
 | nil=>exact absurd rfl h
 | cons a l=>rfl
section
variable {g:List (List Int)} {w xv yv:Nat} {x y y2:List PV} {ks:List Int} {rs:List Rect} {vq t:Nat}
theorem zeh:(seS g w xv yv x y ks rs vq t).obs[6]?=some (.arr xv 34 1 x):=by cases rs <;> rfl
theorem ze4:(seS g w xv yv x y ks rs vq t).obs[7]?=some (.arr yv 3 1 y):=by cases rs <;> rfl
theorem zhf:(seS g w xv yv x y ks rs vq t).set 7 (.arr yv 3 1 y2)=seS g w xv yv x y2 ks rs vq t:=by cases rs <;> rfl
end
theorem yb0 {S:Store} {k f:Nat} {sel:List Nat} {n:Nat} {q:IntKind} {z:Int}:(List.replicate n (PV.int q z)).mapM (rn S k sel (f+1))=some (List.replicate n (PV.int q z)) :=
 zco fun x hx=>by obtain rfl:=List.eq_of_mem_replicate hx; rfl
theorem yah {S:Store} {k f:Nat} {sel:List Nat} {n:Nat}:(List.replicate n PV.nils).mapM (rn S k sel (f+1))=some (List.replicate n PV.nils) :=
 zco fun x hx=>by obtain rfl:=List.eq_of_mem_replicate hx; rfl
theorem ydt {S:Store} {k f:Nat} {sel:List Nat} {d:List (List Int)} {cur:PV} {m:Nat}:(gcs d cur m).mapM (rn S k sel (f+1))=(rn S k sel (f+1) cur).map fun c=>gcs d c m:=by
 unfold gcs
 rw [qP,zco (l:=d.map eInts) (fun x hx=>by obtain ⟨a,_,rfl⟩:=List.mem_map.1 hx; rfl),qC,zco (l:=List.replicate m PV.nils) (fun x hx=>by obtain rfl:=List.eq_of_mem_replicate hx; rfl)]
 cases rn S k sel (f+1) cur <;> rfl
theorem yaf {S:Store} {fr:Nat→Bool} {f:Nat} {q:IntKind} (l:List Int):(l.map (PV.int q)).mapM (rfq S fr (f+1))=some (l.map (PV.int q)) :=
 zco fun x hx=>by obtain ⟨a,_,rfl⟩:=List.mem_map.1 hx; rfl
def seO (g:List (List Int)) (w:Nat) (xv:Nat) (x:List PV) (ks:List Int) (rs:List Rect) (vq t:Nat):Store :=
 match rs with
 | []=>⟨prS g w .nils ks++[.arr xv 34 1 x],t⟩
 | rs=>⟨prS g w (.loc 7 vq 0 rs.length) ks++[.arr xv 34 1 x,.arr vq 93 4 (rcs rs)],t⟩
theorem z79 {g:List (List Int)} {w xv:Nat} {x:List PV} {ks:List Int} {vq t:Nat}:seO g w xv x ks [] vq t=⟨prS g w .nils ks++[.arr xv 34 1 x],t⟩:=rfl
theorem z78 {g:List (List Int)} {w xv:Nat} {x:List PV} {ks:List Int} {rs:List Rect} {vq t:Nat} (h:rs≠[]):seO g w xv x ks rs vq t=⟨prS g w (.loc 7 vq 0 rs.length) ks++[.arr xv 34 1 x,.arr vq 93 4 (rcs rs)],t⟩:=by
 cases rs with
 | nil=>exact absurd rfl h
 | cons a l=>rfl
def zdx (g:List (List Int)) (i:Nat) (s:List Int × List Rect):Nat→List Int × List Rect
 | 0=>s
 | j+1=>(zie (zdx g i s j).1 (gz g i j),zo9 (zdx g i s j).1 (zdx g i s j).2 (gz g i j) (zg1 i j))
def zaq (g:List (List Int)) (nw:Nat):Nat→List Int × List Rect
 | 0=>([],[])
 | i+1=>zdx g i (zaq g nw i) nw
def znm (g:List (List Int)) (i:Nat) (s:List Int × List Rect):Nat→List Int
 | 0=>[]
 | j+1=>znm g i s j++[(((zdx g i s j).1.idxOf (gz g i j):Nat):Int)]
def ze1 (g:List (List Int)) (nw:Nat):Nat→List (List Int)
 | 0=>[]
 | i+1=>ze1 g nw i++[znm g i (zaq g nw i) nw]
theorem zfn {g:List (List Int)} {i:Nat} {s:List Int × List Rect}:∀ j,(znm g i s j).length=j
 | 0=>rfl
 | j+1=>by simp [znm,zfn j]
theorem ya8 {g:List (List Int)} {i nw j:Nat} {s:List Int × List Rect} (h:j<nw):znm g i s (j+1)++List.replicate (nw - (j+1)) 0=(znm g i s j++List.replicate (nw - j) 0).set j (((zdx g i s j).1.idxOf (gz g i j):Nat):Int):=by
 obtain ⟨m,hm⟩:∃ m,nw - j=m+1:=⟨nw - j - 1,by omega⟩
 rw [hm,show nw - (j+1)=m by omega,List.set_append_right _ _ (by rw [zfn]; exact qR _),zfn,Nat.sub_self]
 simp [znm,List.replicate_succ]
theorem zc3 {g:List (List Int)} {nw:Nat}:∀ i,(ze1 g nw i).length=i
 | 0=>rfl
 | i+1=>by simp [ze1,zc3 i]
theorem z2h {ks:List Int} {z:Int}:(zie ks z).length≤ks.length+1∧ks.length≤(zie ks z).length∧1≤(zie ks z).length:=by
 have h:=zhp (ks:=ks) (z:=z)
 unfold zie
 split
 ·simp
 refine ⟨by omega,by omega,?_⟩
 have:ks.idxOf z≠ks.length:=by assumption
 omega
theorem zmj {g:List (List Int)} {i:Nat} (hi:i<6) {s:List Int × List Rect} (h:zru s.1 s.2):∀ j,j≤6→zru (zdx g i s j).1 (zdx g i s j).2∧(zdx g i s j).1.length≤s.1.length+j∧s.1.length≤(zdx g i s j).1.length∧(1≤j→1≤(zdx g i s j).1.length)
 | 0,_=>⟨h,by simp [zdx],by simp [zdx],by omega⟩
 | j+1,hj=>by
  obtain ⟨h1,h2,h3,h4⟩:=zmj hi h j (by omega)
  have:=z2h (ks:=(zdx g i s j).1) (z:=gz g i j)
  exact ⟨h1.step (zfi hi (by omega)),by simp only[zdx]; omega,by simp only[zdx]; omega,fun _=>by simp only[zdx]; omega⟩
theorem zga {g:List (List Int)} {nw:Nat} (hw:nw≤6) (hw1:1≤nw):∀ i,i≤6→zru (zaq g nw i).1 (zaq g nw i).2∧(zaq g nw i).1.length≤6*i∧(1≤i→1≤(zaq g nw i).1.length)
 | 0,_=>⟨zru.nil,by simp [zaq],by omega⟩
 | i+1,hi=>by
  obtain ⟨h1,h2,h3⟩:=zga hw hw1 i (by omega)
  obtain ⟨k1,k2,k3,k4⟩:=zmj (g:=g) (i:=i) (by omega) h1 nw hw
  exact ⟨k1,by simp only[zaq]; omega,fun _=>by simp only[zaq]; exact k4 hw1⟩
theorem zru.ne {ks:List Int} {rs:List Rect} (h:zru ks rs) (h1:1≤ks.length):rs≠[]:=by
 rintro rfl
 have:=h.1
 simp at this; omega
theorem zru.nl {ks:List Int} (h:zru ks []):ks=[]:=List.eq_nil_of_length_eq_zero h.1.symm
theorem zgf {d:List (List Int)} {cur:PV} {m i:Nat} (h:d.length=i):(gcs d cur m)[i]?=some cur:=by subst h; simp [gcs]
theorem zgg {d:List (List Int)} {cur:PV} {m:Nat}:(gcs d cur m).length=d.length+1+m:=by simp [gcs]; omega
def gc0 (d:List (List Int)) (m:Nat):List PV:=d.map eInts++List.replicate m .nils
theorem z5w {d:List (List Int)} {m:Nat}:(gc0 d m).length=d.length+m:=by simp [gc0]
theorem z5x {d:List (List Int)} {m i:Nat} {c:PV} (h:d.length=i) (hm:1≤m):(gc0 d m).take i++[c]++(gc0 d m).drop (i+1)=gcs d c (m - 1):=by
 subst h
 obtain ⟨m,rfl⟩:∃ n,m=n+1:=⟨m - 1,by omega⟩
 simp only[gc0,gcs,Nat.add_sub_cancel]
 rw [show d.length=(d.map eInts).length by simp,List.take_left,List.drop_length_add_append]
 simp [List.replicate_succ]
theorem ycx {d:List (List Int)} {r:List Int} {m:Nat}:gcs d (eInts r) m=gc0 (d++[r]) m:=by simp [gcs,gc0]
theorem ycv {d:List (List Int)}:gc0 d 0=d.map eInts:=by simp [gc0]
theorem ycw {m:Nat}:gc0 [] m=List.replicate m .nils:=rfl
end
theorem zzv {g d:List (List Int)} {y:List Int} {row ks:List Int} {rs:List Rect} {z:Int} {r c w m xv yv vq t:Nat} (hr:r<6) (hc:c<6) (hrow:g[r]?=some row) (hz:row[c]?=some z) (hs:zru ks rs) (hk:ks.length≤64) :
  Ev Tryz.prog 87 [.int .i64 (r:Nat),.int .i64 (c:Nat),.ref 5 5 0,.ref 0 0 0,.ref 3 3 0] (seS g w xv yv (gcs d (.loc 7 yv 0 w) m) (y.map (.int .i64)) ks rs vq t)
   fun v S=>v = .int .i64 ((ks.idxOf z:Nat):Int)∧∃ vq t:Nat,S=seS g w xv yv (gcs d (.loc 7 yv 0 w) m) (y.map (.int .i64)) (zie ks z) (zo9 ks rs z (zg1 r c)) vq t:=by
 have hne:zo9 ks rs z (zg1 r c)≠[]:=(hs.step (z:=z) (zfi hr hc)).ne z2h.2.2
 simp only[z2i hne]
 by_cases h0:rs=[]
 ·subst h0
  rw [z8b]
  exact znh (vq:=0) hr hc hrow hz hs hk rfl hs.nl
 rw [z2i h0]
 by_cases hin:ks.idxOf z=ks.length
 ·exact zrb hr hc hrow hz hs hk hin
 exact zrc hr hc hrow hz hs hk hin
theorem z89 {g:List (List Int)} {nh nw:Nat} (hg:GW g nh nw):Ev Tryz.prog 56 [.int .i64 nh,.int .i64 nw,.fn 87 [.ref 5 5 0,.ref 0 0 0,.ref 3 3 0]] ⟨prS g nw .nils [],6⟩ fun v S=>∃ xv vq t:Nat,v = .loc 6 xv 0 nh∧S=seO g nw xv ((ze1 g nw nh).map eInts) (zaq g nw nh).1 (zaq g nw nh).2 vq t:=by
 have hl:=hg.1
 obtain ⟨hg1,hg2,hg3,hg4⟩:=hg.2.2
 refine Ev.of ⟨Tryz.func56,by kernel_rfl,rfl,by kernel_rfl⟩ zap mixed (by show 3≤Tryz.f56.ntmps; decide) ?_
 refine W.r fun K hK=>?_
 simp(disch:=omega)only[↓RU,RV,RH,↓reduceIte,qE,reduceCtorEq,if_pos,↓RS,RG,qA,qM,qL,prS]
 apply hK;clear hK K
 refine W.r fun K hK=>?_
 simp(disch:=omega)only[↓RU,RV,RH,↓reduceIte,qE,reduceCtorEq,if_pos,↓RS,RG,qA,qM,qL,ty1,zab,zde,zaa,prS,zqz,ze3,zes]
 apply hK;clear hK K
 refine W.seq ?_
 refine W.r fun K hK=>?_
 simp(disch:=omega)only[↓RU,RV,RH,↓reduceIte,qE,reduceCtorEq,if_pos,↓RS,RG,qA,qM,qL,ty1,zab,zde,zaa,prS]
 apply hK;clear hK K
 refine W.block ?_
 refine W.loopS [1,2,7,13,14] (fun n vs S=>∃ (i xv vq t:Nat),n=nh - i∧i≤nh∧vs=[.int .i64 nw,.fn 87 [.ref 5 5 0,.ref 0 0 0,.ref 3 3 0],.loc 6 xv 0 nh,.int .i64 nh,.int .i64 (i:Nat)]∧S=seO g nw xv (gc0 (ze1 g nw i) (nh - i)) (zaq g nw i).1 (zaq g nw i).2 vq t) nh ?_ ?_
 ·refine ⟨7,[],[.int .i64 nw,.fn 87 [.ref 5 5 0,.ref 0 0 0,.ref 3 3 0],.loc 6 6 0 nh,.int .i64 nh,.int .i64 (0:Nat)],seO g nw 6 (gc0 (ze1 g nw 0) (nh - 0)) (zaq g nw 0).1 (zaq g nw 0).2 0 8,?_,?_,0,6,0,8,rfl,Nat.zero_le _,rfl,rfl⟩
  ·simp [-qU,Env.put,Env.of,zaf,zb1,zaj,zan,zau,zax,zb9,zca,zdc,zb8,zbi,zcb,zdb,zdd,zbk,zbj,zay,zb7,zcc,zda,zbg,zbf,zaw,zbh,zb6,zfc,qS,qP,qC]
  simp [-qU,Env.put,Env.of,zaf,zb1,zaj,zan,zau,zax,zb9,zca,zdc,zb8,zbi,zcb,zdb,zdd,zbk,zbj,zay,zb7,zcc,zda,zbg,zbf,zaw,zbh,zb6,zfc,qS,qP,qC,prS,z79,zaq,ze1,ycw,yah,zzm]
 rintro n vs S - ⟨i,xv,vq,t,rfl,h_i,rfl,rfl⟩
 refine W.r fun K hK=>?_
 simp(disch:=omega)only[↓RU,RV,RH,↓reduceIte,qE,reduceCtorEq,if_pos,w64,↓RS,RG,qA,qM,qL,zaa,prS]
 apply hK;clear hK K
 refine W.seq ?_
 refine W.cond rfl (fun h=>?_) (fun h=>?_)
 ·try simp only[RL]at h
  have hzl:=zc3 (g:=g) (nw:=nw) i
  have hiw:i<nh:=by omega
  obtain ⟨hso,hsl,hsp⟩:=zga (g:=g) hg4 hg3 i (by omega)
  refine W.skip ?_
  refine xn ?_
  refine W.seq ?_
  refine W.block ?_
  refine W.r fun K hK=>?_
  simp(disch:=omega)only[↓RU,RV,RH,↓reduceIte,qE,reduceCtorEq,if_pos,↓RS,RG,qA,qM,qL,prS]
  apply hK;clear hK K
  refine W.joinS [1,2,7,8,13,14] (fun vs S=>∃ (yv vq t:Nat),vs=[.int .i64 nw,.fn 87 [.ref 5 5 0,.ref 0 0 0,.ref 3 3 0],.loc 6 xv 0 nh,.int .i64 (i:Nat),.int .i64 nh,.int .i64 (i:Nat)]∧S=seS g nw xv yv (gcs (ze1 g nw i) (.loc 7 yv 0 nw) (nh - i - 1)) ((List.replicate nw 0).map (.int .i64)) (zaq g nw i).1 (zaq g nw i).2 vq t) ?_ ?_
  ·
   refine W.k fun K hK=>?_
   by_cases hi0:zaq g nw i=([],[])
   ·skip
    rw [hi0,z79]
    simp(disch:=omega)only[↓RU,RV,RH,↓reduceIte,qE,reduceCtorEq,if_pos,↓RS,RG,qA,qM,qL,ty1,zab,zde,zaa,prS,ze3,zes,z5w,zc3,z5x]
    apply hK;clear hK K
    refine xn ?_
    refine ⟨8,[],[.int .i64 nw,.fn 87 [.ref 5 5 0,.ref 0 0 0,.ref 3 3 0],.loc 6 xv 0 nh,.int .i64 (i:Nat),.int .i64 nh,.int .i64 (i:Nat)],seS g nw xv t (gcs (ze1 g nw i) (.loc 7 t 0 nw) (nh - i - 1)) ((List.replicate nw 0).map (.int .i64)) (zaq g nw i).1 (zaq g nw i).2 vq (t+2),?_,?_,t,vq,t+2,rfl,rfl⟩
    ·simp [-qU,Env.put,Env.of,zaf,zb1,zaj,zan,zau,zax,zb9,zca,zdc,zb8,zbi,zcb,zdb,zdd,zbk,zbj,zay,zb7,zcc,zda,zbg,zbf,zaw,zbh,zb6,zfc,qS,qP,qC]
    rw [hi0,z8b]; simp [-qU,Env.put,Env.of,zaf,zb1,zaj,zan,zau,zax,zb9,zca,zdc,zb8,zbi,zcb,zdb,zdd,zbk,zbj,zay,zb7,zcc,zda,zbg,zbf,zaw,zbh,zb6,zfc,qS,qP,qC,prS,zzm,zod,zh2,zxy,yb0,show List.idxOf 7 [8,7]=1 from rfl]
   skip
   have hne:(zaq g nw i).2≠[]:=fun e=>hi0 (by have:=hso; rw [e]at this; rw [← Prod.eta (zaq g nw i),e,this.nl])
   rw [z78 hne]
   simp(disch:=omega)only[↓RU,RV,RH,↓reduceIte,qE,reduceCtorEq,if_pos,↓RS,RG,qA,qM,qL,ty1,zab,zde,zaa,prS,ze3,zes,z5w,zc3,z5x]
   apply hK;clear hK K
   refine xn ?_
   refine ⟨7,[8,7],[.int .i64 nw,.fn 87 [.ref 5 5 0,.ref 0 0 0,.ref 3 3 0],.loc 6 xv 0 nh,.int .i64 (i:Nat),.int .i64 nh,.int .i64 (i:Nat)],seS g nw xv (t+1) (gcs (ze1 g nw i) (.loc 7 (t+1) 0 nw) (nh - i - 1)) ((List.replicate nw 0).map (.int .i64)) (zaq g nw i).1 (zaq g nw i).2 (t+1) (t+2),?_,?_,t+1,t+1,t+2,rfl,rfl⟩
   ·simp [-qU,Env.put,Env.of,zaf,zb1,zaj,zan,zau,zax,zb9,zca,zdc,zb8,zbi,zcb,zdb,zdd,zbk,zbj,zay,zb7,zcc,zda,zbg,zbf,zaw,zbh,zb6,zfc,qS,qP,qC]
   rw [z2i hne]; simp [-qU,Env.put,Env.of,zaf,zb1,zaj,zan,zau,zax,zb9,zca,zdc,zb8,zbi,zcb,zdb,zdd,zbk,zbj,zay,zb7,zcc,zda,zbg,zbf,zaw,zbh,zb6,zfc,qS,qP,qC,prS,zzm,zod,zh2,zxy,yb0,show List.idxOf 7 [8,7]=1 from rfl]
  rintro vs S - ⟨yv,vq,t,rfl,rfl⟩
  refine W.r fun K hK=>?_
  simp(disch:=omega)only[↓RU,RV,RH,↓reduceIte,qE,reduceCtorEq,if_pos,↓RS,RG,qA,qM,qL,ty1,zab,zde,zaa,prS,zeh,ze4,zgf,zgg,hzl]
  apply hK;clear hK K
  refine W.block ?_
  refine W.loop [1,2,7,8,13,14,26,27] (fun n vs S=>∃ (j vq t:Nat),n=nw - j∧j≤nw∧vs=[.int .i64 nw,.fn 87 [.ref 5 5 0,.ref 0 0 0,.ref 3 3 0],.loc 6 xv 0 nh,.int .i64 (i:Nat),.int .i64 nh,.int .i64 (i:Nat),.int .i64 nw,.int .i64 (j:Nat)]∧S=seS g nw xv yv (gcs (ze1 g nw i) (.loc 7 yv 0 nw) (nh - i - 1)) ((znm g i (zaq g nw i) j++List.replicate (nw - j) 0).map (.int .i64)) (zdx g i (zaq g nw i) j).1 (zdx g i (zaq g nw i) j).2 vq t) nw ?_ ?_
  ·refine ⟨_,0,vq,t,rfl,Nat.zero_le _,?_,zak⟩
   simp [Env.put,Env.of]
  rintro n vs S - ⟨j,vq,t,rfl,h_j,rfl,rfl⟩
  refine W.r fun K hK=>?_
  simp(disch:=omega)only[↓RU,RV,RH,↓reduceIte,qE,reduceCtorEq,if_pos,w64,↓RS,RG,qA,qM,qL,zaa,prS]
  apply hK;clear hK K
  refine W.seq ?_
  refine W.cond rfl (fun h1=>?_) (fun h1=>?_)
  ·try simp only[RL]at h1
   have hjw:j<nw:=by omega
   obtain ⟨row,hrow,hrl,hz⟩:=hg.at_ hiw hjw
   obtain ⟨hro,hrl2,-,-⟩:=zmj (g:=g) (i:=i) (by omega) hso j (by omega)
   have hYl:(znm g i (zaq g nw i) j++List.replicate (nw - j) 0).length=nw:=by simp only[List.length_append,List.length_replicate,zfn]; omega
   generalize hY:znm g i (zaq g nw i) j++List.replicate (nw - j) 0=Y at hYl
   refine W.skip ?_
   refine xn ?_
   refine W.seq ?_
   refine W.block ?_
   refine W.r fun K hK=>?_
   simp(disch:=omega)only[↓RU,RV,RH,↓reduceIte,qE,reduceCtorEq,if_pos,↓RS,RG,qA,qM,qL,prS]
   apply hK;clear hK K
   refine W.region_pk 9 [some 32,some 33] [6] (by decide) (by kernel_rfl) fun K hK=>?_
   simp only[List.take_succ_cons,List.take_zero,List.drop_succ_cons,List.drop_zero]
   refine za5 rfl ?_
   simp(disch:=omega)only[↓RU,RV,RH,↓reduceIte,qE,reduceCtorEq,if_pos,qN,↓RS,RG,qA,qM,qL,ty1,zab,zde,zaa,prS,zeh,ze4,zgf,zgg,hzl,zhf,zb5,zd6,hYl,zam,zar]
   refine za5 rfl ?_
   simp(disch:=omega)only[↓RU,RV,RH,↓reduceIte,qE,reduceCtorEq,if_pos,qN,↓RS,RG,qA,qM,qL,ty1,zab,zde,zaa,prS,zeh,ze4,zgf,zgg,hzl,zhf,zb5,zd6,hYl,zam,zar]
   refine zas (.ref 6 xv i) rfl rfl rfl (fun S' hS=>?_) ?_
   ·skip
    have k6:=(hS 6 (by decide)).trans zeh
    simp(disch:=omega)only[↓RU,RV,RH,↓reduceIte,qE,reduceCtorEq,if_pos,qN,↓RS,RG,qA,qM,qL,ty1,zab,zde,zaa,prS,zeh,ze4,zgf,zgg,hzl,zhf,zb5,zd6,hYl,zb3,zcz,zec,zed,k6]
   refine zas (.loc 7 yv 0 nw) rfl rfl rfl (fun S' hS=>?_) ?_
   ·skip
    have k6:=(hS 6 (by decide)).trans zeh
    simp(disch:=omega)only[↓RU,RV,RH,↓reduceIte,qE,reduceCtorEq,if_pos,qN,↓RS,RG,qA,qM,qL,ty1,zab,zde,zaa,prS,zeh,ze4,zgf,zgg,hzl,zhf,zb5,zd6,hYl,zb3,zcz,zec,zed,k6]
   refine za5 rfl ?_
   simp(disch:=omega)only[↓RU,RV,RH,↓reduceIte,qE,reduceCtorEq,if_pos,qN,↓RS,RG,qA,qM,qL,ty1,zab,zde,zaa,prS,zeh,ze4,zgf,zgg,hzl,zhf,zb5,zd6,hYl,zam,zar]
   refine za5 rfl ?_
   simp(disch:=omega)only[↓RU,RV,RH,↓reduceIte,qE,reduceCtorEq,if_pos,qN,↓RS,RG,qA,qM,qL,ty1,zab,zde,zaa,prS,zeh,ze4,zgf,zgg,hzl,zhf,zb5,zd6,hYl,zam,zar]
   refine za5 rfl ?_
   simp(disch:=omega)only[↓RU,RV,RH,↓reduceIte,qE,reduceCtorEq,if_pos,qN,↓RS,RG,qA,qM,qL,ty1,zab,zde,zaa,prS,zeh,ze4,zgf,zgg,hzl,zhf,zb5,zd6,hYl,zam,zar]
   refine za5 rfl ?_
   simp(disch:=omega)only[↓RU,RV,RH,↓reduceIte,qE,reduceCtorEq,if_pos,qN,↓RS,RG,qA,qM,qL,ty1,zab,zde,zaa,prS,zeh,ze4,zgf,zgg,hzl,zhf,zb5,zd6,hYl,zam,zar]
   refine za5 rfl ?_
   simp(disch:=omega)only[↓RU,RV,RH,↓reduceIte,qE,reduceCtorEq,if_pos,qN,↓RS,RG,qA,qM,qL,ty1,zab,zde,zaa,prS,zeh,ze4,zgf,zgg,hzl,zhf,zb5,zd6,hYl,zam,zar]
   refine zad.ev (zzv (y:=Y) (by omega) (by omega) hrow hz hro (by omega)) ?_
   rintro _ _ ⟨rfl,vq2,t2,rfl⟩
   simp(disch:=omega)only[↓RU,RV,RH,↓reduceIte,qE,reduceCtorEq,if_pos,qN,↓RS,RG,qA,qM,qL,ty1,zab,zde,zaa,prS,zeh,ze4,zgf,zgg,hzl,zhf,zb5,zd6,hYl,zam,zar]
   refine zf5 ?_
   simp(disch:=omega)only[↓RU,RV,RH,↓reduceIte,qE,reduceCtorEq,if_pos,qN,↓RS,RG,qA,qM,qL,ty1,zab,zde,zaa,prS,zeh,ze4,zgf,zgg,hzl,zhf,zb5,zd6,hYl]
   apply hK;clear hK K
   refine XbN ?_
   refine xn ?_
   refine W.k fun K hK=>?_
   simp(disch:=omega)only[↓RU,RV,RH,↓reduceIte,qE,reduceCtorEq,if_pos,w64,↓RS,RG,qA,qM,qL,zaa,prS]
   apply hK;clear hK K
   refine xn ?_
   refine ⟨nw - (j+1),by omega,_,j+1,vq2,t2,rfl,by omega,?_,za4 ?_⟩
   rotate_left
   ·rw [show znm g i (zaq g nw i) (j+1)++List.replicate (nw - (j+1)) 0=(znm g i (zaq g nw i) j++List.replicate (nw - j) 0).set j (((zdx g i (zaq g nw i) j).1.idxOf (gz g i j):Nat):Int) from ya8 hjw,hY]; rfl
   simp [Env.put,Env.of]
  try simp only[RL]at h1
  obtain rfl:nw=j:=by omega
  obtain ⟨hro,hrl2,-,hro4⟩:=zmj (g:=g) (i:=i) (by omega) hso nw hg4
  have hne:=hro.ne (hro4 hg3)
  have hY:znm g i (zaq g nw i) nw++List.replicate (nw - nw) 0=znm g i (zaq g nw i) nw:=by rw [Nat.sub_self]; exact qN _
  have hYl:=zfn (g:=g) (i:=i) (s:=zaq g nw i) nw
  rw [hY,z2i hne]
  generalize hYe:znm g i (zaq g nw i) nw=Y at hYl
  have hYt:(Y.map (PV.int .i64)).take nw=Y.map (PV.int .i64):=qT (by rw [List.length_map]; omega)
  have hYE:eInts Y=PV.sl (Y.map (PV.int .i64)) nw:=by rw [← hYl]
  have hsr:zdx g i (zaq g nw i) nw=zaq g nw (i+1):=rfl
  rw [hsr]at hne ⊢
  have hzs:ze1 g nw (i+1)=ze1 g nw i++[Y]:=by rw [← hYe]; rfl
  refine W.exit ?_
  refine xe ?_
  refine xe ?_
  refine XBlock.hit ?_
  refine XbN ?_
  refine xn ?_
  refine W.k fun K hK=>?_
  simp(disch:=omega)only[↓RU,RV,RH,↓reduceIte,qE,reduceCtorEq,if_pos,w64,↓RS,RG,qA,qM,qL,zaa,prS]
  apply hK;clear hK K
  refine xn ?_
  refine ⟨nh - (i+1),by omega,7,[8],[.int .i64 nw,.fn 87 [.ref 5 5 0,.ref 0 0 0,.ref 3 3 0],.loc 6 xv 0 nh,.int .i64 nh,.int .i64 ((i+1:Nat):Int)],seO g nw xv (gc0 (ze1 g nw (i+1)) (nh - (i+1))) (zaq g nw (i+1)).1 (zaq g nw (i+1)).2 t (t+1),?_,?_,i+1,xv,t+0,t+1,rfl,by omega,rfl,rfl⟩
  ·simp [-qU,Env.put,Env.of,zaf,zb1,zaj,zan,zau,zax,zb9,zca,zdc,zb8,zbi,zcb,zdb,zdd,zbk,zbj,zay,zb7,zcc,zda,zbg,zbf,zaw,zbh,zb6,zfc,qS,qP,qC]
  rw [z78 hne,hzs,← ycx]; simp [-qU,Env.put,Env.of,zaf,zb1,zaj,zan,zau,zax,zb9,zca,zdc,zb8,zbi,zcb,zdb,zdd,zbk,zbj,zay,zb7,zcc,zda,zbg,zbf,zaw,zbh,zb6,zfc,qS,qP,qC,prS,zzm,zod,zh2,ydt,hYl,hYt,hYE,yaf,show nh - i - 1=nh - (i+1) by omega,show List.idxOf 8 [8]=0 from rfl]
 try simp only[RL]at h
 obtain rfl:nh=i:=by omega
 refine W.exit ?_
 refine xe ?_
 refine xe ?_
 refine XBlock.hit ?_
 refine xn ?_
 refine W.r fun K hK=>?_
 simp(disch:=omega)only[↓RU,RV,RH,↓reduceIte,qE,reduceCtorEq,if_pos,↓RS,RG,qA,qM,qL,prS]
 apply hK;clear hK K
 refine W.ret ?_
 refine Br rfl ?_
 rw [Nat.sub_self,ycv]
 exact ⟨_,xv,vq,t,rfl,zak⟩
def w0 (g:List (List Int)):Nat:=(g[0]?.getD []).length
def okG (g:List (List Int)):Bool:=decide (1≤g.length) && decide (g.length≤6) && decide (1≤w0 g) && decide (w0 g≤6) && !(g.any fun r=>decide ((r.length:Int)≠(w0 g:Nat)))
def stG (g:List (List Int)):List Int × List Rect:=zaq g (w0 g) g.length
def zG (g:List (List Int)):List (List Int):=ze1 g (w0 g) g.length
def z4k (rs:List Rect):Int:=rs.foldl (fun s b=>s+b.high*b.wide) 0
def okS (g:List (List Int)):Bool:=okG g && decide ((stG g).2.length≤9)
def zlr (g:List (List Int)):Bool:=decide (z4k (stG g).2=((g.length*w0 g:Nat):Int))
def zew (g:List (List Int)):PV:=if okS g then .tup [za3 (zG g) (stG g).2,.bool (zlr g)] else .tup [.nilp,.bool false]
theorem yay {g:List (List Int)} {row:List Int} (h:g[0]?=some row):w0 g=row.length:=by simp [w0,h]
theorem zue {g:List (List Int)}:okG g=true↔GW g g.length (w0 g):=by
 unfold okG GW
 simp only[qB,decide_eq_true_eq,Bool.not_eq_true',List.any_eq_false,decide_eq_true_eq,ne_eq,Decidable.not_not]
 constructor
 ·rintro ⟨⟨⟨⟨h1,h2⟩,h3⟩,h4⟩,h5⟩
  exact ⟨trivial,fun r hr=>by have:=h5 r hr; omega,h1,h2,h3,h4⟩
 rintro ⟨_,h5,h1,h2,h3,h4⟩
 exact ⟨⟨⟨⟨h1,h2⟩,h3⟩,h4⟩,fun r hr=>by have:=h5 r hr; omega⟩
theorem zrg {rs:List Rect} {k:Nat} {b:Rect} (h:rs[k]?=some b):z4k (rs.take (k+1))=z4k (rs.take k)+b.high*b.wide:=by
 unfold z4k; rw [zer h]
theorem Rect.Fit.area {b:Rect} (h:b.Fit):1≤b.high*b.wide∧b.high*b.wide≤36:=by
 unfold Rect.Fit at h
 obtain ⟨h1,h2,h3,h4,h5,h6⟩:=h
 obtain ⟨m,hm⟩:∃ m:Nat,b.high=m:=⟨b.high.toNat,by omega⟩
 obtain ⟨n,hn⟩:∃ n:Nat,b.wide=n:=⟨b.wide.toNat,by omega⟩
 rw [hm,hn]
 have h7:=Nat.mul_le_mul (show m≤6 by omega) (show n≤6 by omega)
 have h8:=Nat.mul_le_mul (show 1≤m by omega) (show 1≤n by omega)
 have:((m*n:Nat):Int)=(m:Int)*n:=by simp
 omega
theorem ztf {rs:List Rect} (h:∀ b∈rs,b.Fit):∀ k,0≤z4k (rs.take k)∧z4k (rs.take k)≤36*k
 | 0=>by simp [z4k]
 | k+1=>by
  have ih:=ztf h k
  by_cases hk:k<rs.length
  ·obtain ⟨b,hb,hm⟩:=zag hk
   rw [zrg hb]
   have:=(h b hm).area
   omega
  rw [qT (by omega)]at ih ⊢
  omega
theorem zka {g:List (List Int)} {nw:Nat}:∀ {i k:Nat},k<i→(ze1 g nw i)[k]?=some (znm g k (zaq g nw k) nw)
 | 0,k,h=>by omega
 | i+1,k,h=>by
  unfold ze1
  by_cases e:k=i
  ·subst e; rw [List.getElem?_append_right (by rw [zc3]; exact qR _),zc3]; simp
  rw [List.getElem?_append_left (by rw [zc3]; omega)]; exact zka (by omega)
theorem yf5 {g:List (List Int)} {nh nw:Nat} (hg:GW g nh nw):GW (ze1 g nw nh) nh nw:=by
 refine ⟨zc3 _,fun r hr=>?_,hg.2.2⟩
 obtain ⟨k,hk⟩:=List.getElem?_of_mem hr
 have hkl:=zb0 hk
 rw [zc3]at hkl
 rw [zka hkl]at hk
 cases hk
 exact zfn _
theorem zk2 {S:Store} {xv vq nh f:Nat} {Z:List (List Int)} {rs:List Rect} (h2:S.obs[2]?=some (.arr 2 73 2 [.loc 6 xv 0 nh,.loc 7 vq 0 rs.length])) (h6:S.obs[6]?=some (.arr xv 34 1 (Z.map eInts))) (hZ:Z.length=nh)
  (h7:S.obs[7]?=some (.arr vq 93 4 (rcs rs))):reify S true (f+4) (.ref 2 2 0)=some (za3 Z rs):=by
 have e1:reify S true (f+3) (.loc 6 xv 0 nh)=some (zfb Z):=by
  rw [← hZ]
  exact zcv (k:=f+2) h6 (by simp) (zm7 _)
 have e2:reify S true (f+3) (.loc 7 vq 0 rs.length)=some (znu rs):=zcv (k:=f+2) h7 (zb4 _) (znd (z2f _))
 have hc:S.cellsOf 2 2=some [.loc 6 xv 0 nh,.loc 7 vq 0 rs.length]:=by simp [Store.cellsOf,h2]
 have e0:reify S true (f+4) (.ref 2 2 0)=(S.cellsOf 2 2).bind fun cells=>(cells.mapM (reify S true (f+3))).map (.ip · 0):=rfl
 rw [e0,hc,Option.bind_some,qC,e1,qC,e2]
 rfl
theorem ztb {g:List (List Int)} (hsm:g.length<2147483648) (hsr:∀ r∈g,r.length<2147483648):PC Tryz.prog 62 [zfb g] (zew g) false:=by
 refine PC.of ⟨Tryz.func62,by kernel_rfl,rfl,by kernel_rfl⟩ zap mixed (by show 1≤Tryz.f62.ntmps; decide) ?_
 refine W.r fun K hK=>?_
 simp(disch:=omega)only[↓RU,RV,RH,↓reduceIte,qE,reduceCtorEq,if_pos,↓RS,RG,qA,qM,qL,ty1,zab,zde,zaa]
 apply hK;clear hK K
 refine W.seq ?_
 refine W.r fun K hK=>?_
 have hcase:g.length<1∨6<g.length∨∃ row:List Int,g[0]?=some row∧row∈g∧(1≤g.length∧g.length≤6)∧(row.length<1∨6<row.length∨(1≤row.length∧row.length≤6)):=by
  by_cases h1:g.length<1
  ·exact .inl h1
  obtain ⟨row,h2,h3⟩:=zag (show 0<g.length by omega)
  by_cases h4:6<g.length
  ·exact .inr (.inl h4)
  exact .inr (.inr ⟨row,h2,h3,by omega,by omega⟩)
 rcases hcase with hb | hb | ⟨row,hrow,hrm,hgl,hb | hb | hb⟩
 ·skip
  have hd:decide ((g.length:Int)<1)=true:=decide_eq_true (by omega)
  simp(disch:=omega)only[↓RU,RV,RH,↓reduceIte,qE,reduceCtorEq,if_pos,w64,↓RS,RG,qA,qM,qL,ty1,zab,zde,zaa,hd]
  apply hK;clear hK K
  refine W.cond rfl (fun h=>?_) (fun h=>?_)
  ·try simp only[RL]at h
   refine W.r fun K hK=>?_
   simp(disch:=omega)only[↓RU,RV,RH,↓reduceIte,qE,reduceCtorEq,if_pos,↓RS,RG,qA,qM,qL]
   apply hK;clear hK K
   refine W.ret ?_
   refine XThen.ret ?_
   refine Br rfl ?_
   have hok:okS g=false:=by simp [okS,okG]; omega
   rw [zew,hok]
   rfl
  try simp only[RL]at h
  exact absurd h (by simp)
 ·skip
  have hd:decide ((g.length:Int)<1)=false:=decide_eq_false (by omega)
  have hd2:decide ((g.length:Int)>6)=true:=decide_eq_true (by omega)
  simp(disch:=omega)only[↓RU,RV,RH,↓reduceIte,qE,reduceCtorEq,if_pos,w64,↓RS,RG,qA,qM,qL,ty1,zab,zde,zaa,hd,hd2]
  apply hK;clear hK K
  refine W.cond rfl (fun h=>?_) (fun h=>?_)
  ·try simp only[RL]at h
   refine W.r fun K hK=>?_
   simp(disch:=omega)only[↓RU,RV,RH,↓reduceIte,qE,reduceCtorEq,if_pos,↓RS,RG,qA,qM,qL]
   apply hK;clear hK K
   refine W.ret ?_
   refine XThen.ret ?_
   refine Br rfl ?_
   have hok:okS g=false:=by simp [okS,okG]; omega
   rw [zew,hok]
   rfl
  try simp only[RL]at h
  exact absurd h (by simp)
 ·skip
  have hrl:=hsr row hrm
  have hw0:=yay hrow
  have hd:decide ((g.length:Int)<1)=false:=decide_eq_false (by omega)
  have hd2:decide ((g.length:Int)>6)=false:=decide_eq_false (by omega)
  have hd3:decide ((row.length:Int)<1)=true:=decide_eq_true (by omega)
  simp(disch:=omega)only[↓RU,RV,RH,↓reduceIte,qE,reduceCtorEq,if_pos,w64,↓RS,RG,qA,qM,qL,ty1,zab,zde,zaa,hd,hd2,hd3,hrow,Int.toNat_zero,Nat.zero_mul,qZ]
  apply hK;clear hK K
  refine W.cond rfl (fun h=>?_) (fun h=>?_)
  ·try simp only[RL]at h
   refine W.r fun K hK=>?_
   simp(disch:=omega)only[↓RU,RV,RH,↓reduceIte,qE,reduceCtorEq,if_pos,↓RS,RG,qA,qM,qL]
   apply hK;clear hK K
   refine W.ret ?_
   refine XThen.ret ?_
   refine Br rfl ?_
   have hok:okS g=false:=by simp [okS,okG]; omega
   rw [zew,hok]
   rfl
  try simp only[RL]at h
  exact absurd h (by simp)
 ·skip
  have hrl:=hsr row hrm
  have hw0:=yay hrow
  have hd:decide ((g.length:Int)<1)=false:=decide_eq_false (by omega)
  have hd2:decide ((g.length:Int)>6)=false:=decide_eq_false (by omega)
  have hd3:decide ((row.length:Int)<1)=false:=decide_eq_false (by omega)
  have hd4:decide ((row.length:Int)>6)=true:=decide_eq_true (by omega)
  simp(disch:=omega)only[↓RU,RV,RH,↓reduceIte,qE,reduceCtorEq,if_pos,w64,↓RS,RG,qA,qM,qL,ty1,zab,zde,zaa,hd,hd2,hd3,hd4,hrow,Int.toNat_zero,Nat.zero_mul,qZ]
  apply hK;clear hK K
  refine W.cond rfl (fun h=>?_) (fun h=>?_)
  ·try simp only[RL]at h
   refine W.r fun K hK=>?_
   simp(disch:=omega)only[↓RU,RV,RH,↓reduceIte,qE,reduceCtorEq,if_pos,↓RS,RG,qA,qM,qL]
   apply hK;clear hK K
   refine W.ret ?_
   refine XThen.ret ?_
   refine Br rfl ?_
   have hok:okS g=false:=by simp [okS,okG]; omega
   rw [zew,hok]
   rfl
  try simp only[RL]at h
  exact absurd h (by simp)
 skip
 have hrl:=hsr row hrm
 have hw0:=yay hrow
 have hd:decide ((g.length:Int)<1)=false:=decide_eq_false (by omega)
 have hd2:decide ((g.length:Int)>6)=false:=decide_eq_false (by omega)
 have hd3:decide ((row.length:Int)<1)=false:=decide_eq_false (by omega)
 have hd4:decide ((row.length:Int)>6)=false:=decide_eq_false (by omega)
 simp(disch:=omega)only[↓RU,RV,RH,↓reduceIte,qE,reduceCtorEq,if_pos,w64,↓RS,RG,qA,qM,qL,ty1,zab,zde,zaa,hd,hd2,hd3,hd4,hrow,Int.toNat_zero,Nat.zero_mul,qZ]
 apply hK;clear hK K
 refine W.cond rfl (fun h=>?_) (fun h=>?_)
 ·try simp only[RL]at h
  exact absurd h (by simp)
 try simp only[RL]at h
 refine W.skip ?_
 refine xn ?_
 refine W.r fun K hK=>?_
 simp(disch:=omega)only[↓RU,RV,RH,↓reduceIte,qE,reduceCtorEq,if_pos,↓RS,RG,qA,qM,qL,ty1,zab,zde,zaa,hrow,Int.toNat_zero,Nat.zero_mul,qZ]
 apply hK;clear hK K
 refine W.seq ?_
 refine W.r fun K hK=>?_
 simp(disch:=omega)only[↓RU,RV,RH,↓reduceIte,qE,reduceCtorEq,if_pos,qN,↓RS,RG,qA,qM,qL,ty1,zab,zde,zaa,hrow]
 refine zad.pc (zrm (l:=g) hsm (g:=86) (cap:=[.ip [.int .i64 row.length] 0]) rfl rfl (test:=fun r=>decide ((r.length:Int)≠(row.length:Nat))) (fun r hr=>zzu r _ (hsr r hr))) rfl (.inl rfl) ?_
 simp(disch:=omega)only[↓RU,RV,RH,↓reduceIte,qE,reduceCtorEq,if_pos,qN,↓RS,RG,qA,qM,qL,ty1,zab,zde,zaa,hrow]
 apply hK;clear hK K
 refine W.cond rfl (fun h1=>?_) (fun h1=>?_)
 ·try simp only[RL]at h1
  refine W.r fun K hK=>?_
  simp(disch:=omega)only[↓RU,RV,RH,↓reduceIte,qE,reduceCtorEq,if_pos,↓RS,RG,qA,qM,qL]
  apply hK;clear hK K
  refine W.ret ?_
  refine XThen.ret ?_
  refine Br rfl ?_
  have hok:okS g=false:=by unfold okS okG; rw [hw0,h1]; simp
  rw [zew,hok]
  rfl
 try simp only[RL]at h1
 have hg:GW g g.length row.length:=by have:=zue (g:=g); rw [hw0]at this; refine this.1 ?_; unfold okG; rw [hw0,h1]; simp; omega
 obtain ⟨hso,hsl,hs1⟩:=zga (g:=g) (nw:=row.length) (by omega) (by omega) g.length (by omega)
 have hne:=hso.ne (hs1 (by omega))
 refine W.skip ?_
 refine xn ?_
 refine W.r fun K hK=>?_
 simp(disch:=omega)only[↓RU,RV,RH,↓reduceIte,qE,reduceCtorEq,if_pos,↓RS,RG,qA,qM,qL,ty1,ty3,zab,ty7,ze6,zde,za7,zaa,ze7,za8]
 apply hK;clear hK K
 refine W.r fun K hK=>?_
 simp(disch:=omega)only[↓RU,RV,RH,↓reduceIte,qE,reduceCtorEq,if_pos,↓RS,RG,qA,qM,qL,zaa,yb8]
 apply hK;clear hK K
 refine W.seq_pk 6 [some 42] [3] (by decide) (by kernel_rfl) fun K hK=>?_
 simp only[List.take_succ_cons,List.take_zero,List.drop_succ_cons,List.drop_zero]
 refine zas (.ref 2 2 0) rfl rfl rfl (fun S' hS=>?_) ?_
 ·skip
  have k3:=(hS 3 (by decide)).trans (show _=some _ from rfl)
  simp(disch:=omega)only[↓RU,RV,RH,↓reduceIte,qE,reduceCtorEq,if_pos,qN,↓RS,RG,qA,qM,qL,ty1,ty3,zab,ty7,ze6,zde,za7,zaa,ze7,za8,zb3,zcz,zec,zed,k3]
 refine za5 rfl ?_
 simp(disch:=omega)only[↓RU,RV,RH,↓reduceIte,qE,reduceCtorEq,if_pos,qN,↓RS,RG,qA,qM,qL,ty1,ty3,zab,ty7,ze6,zde,za7,zaa,ze7,za8,zam,zar]
 refine za5 rfl ?_
 simp(disch:=omega)only[↓RU,RV,RH,↓reduceIte,qE,reduceCtorEq,if_pos,qN,↓RS,RG,qA,qM,qL,ty1,ty3,zab,ty7,ze6,zde,za7,zaa,ze7,za8,zam,zar]
 refine za5 rfl ?_
 simp(disch:=omega)only[↓RU,RV,RH,↓reduceIte,qE,reduceCtorEq,if_pos,qN,↓RS,RG,qA,qM,qL,ty1,ty3,zab,ty7,ze6,zde,za7,zaa,ze7,za8,zam,zar]
 refine za5 rfl ?_
 simp(disch:=omega)only[↓RU,RV,RH,↓reduceIte,qE,reduceCtorEq,if_pos,qN,↓RS,RG,qA,qM,qL,ty1,ty3,zab,ty7,ze6,zde,za7,zaa,ze7,za8,zam,zar]
 refine za5 rfl ?_
 simp(disch:=omega)only[↓RU,RV,RH,↓reduceIte,qE,reduceCtorEq,if_pos,qN,↓RS,RG,qA,qM,qL,ty1,ty3,zab,ty7,ze6,zde,za7,zaa,ze7,za8,zam,zar]
 refine zad.ev (z89 hg) ?_
 rintro _ _ ⟨xv,vq,t,rfl,rfl⟩
 rw [z78 hne]
 simp only[prS]
 simp(disch:=omega)only[↓RU,RV,RH,↓reduceIte,qE,reduceCtorEq,if_pos,qN,↓RS,RG,qA,qM,qL,ty1,ty3,zab,ty7,ze6,zde,za7,zaa,ze7,za8,zam,zar]
 refine zf5 ?_
 simp(disch:=omega)only[↓RU,RV,RH,↓reduceIte,qE,reduceCtorEq,if_pos,qN,↓RS,RG,qA,qM,qL,ty1,ty3,zab,ty7,ze6,zde,za7,zaa,ze7,za8]
 apply hK;clear hK K
 refine W.seq ?_
 refine W.r fun K hK=>?_
 simp(disch:=omega)only[↓RU,RV,RH,↓reduceIte,qE,reduceCtorEq,if_pos,w64,↓RS,RG,qA,qM,qL,ty1,ty3,zab,ty7,ze6,zde,za7,zaa,ze7,za8]
 apply hK;clear hK K
 refine W.cond rfl (fun h2=>?_) (fun h2=>?_)
 ·try simp only[RL]at h2
  refine W.r fun K hK=>?_
  simp(disch:=omega)only[↓RU,RV,RH,↓reduceIte,qE,reduceCtorEq,if_pos,↓RS,RG,qA,qM,qL]
  apply hK;clear hK K
  refine W.ret ?_
  refine XThen.ret ?_
  refine Br rfl ?_
  have hok:okS g=false:=by unfold okS stG; rw [hw0]; simp only[Bool.and_eq_false_iff]; right; exact decide_eq_false (by omega)
  rw [zew,hok]
  rfl
 try simp only[RL]at h2
 refine W.skip ?_
 refine xn ?_
 refine W.r fun K hK=>?_
 simp(disch:=omega)only[↓RU,RV,RH,↓reduceIte,qE,reduceCtorEq,if_pos,↓RS,RG,qA,qM,qL]
 apply hK;clear hK K
 refine W.seq ?_
 refine W.r fun K hK=>?_
 simp(disch:=omega)only[↓RU,RV,RH,↓reduceIte,qE,reduceCtorEq,if_pos,↓RS,RG,qA,qM,qL,ty1,ty3,zab,ty7,ze6,zde,za7,zaa,ze7,za8]
 apply hK;clear hK K
 refine W.block ?_
 refine W.loop [5,7,59,60,61] (fun n vs S=>∃ k t:Nat,n=(zaq g row.length g.length).2.length - k∧k≤(zaq g row.length g.length).2.length∧vs=[.ref 3 3 0,.int .i64 (z4k ((zaq g row.length g.length).2.take k)),.loc 7 vq 0 (zaq g row.length g.length).2.length,.int .i64 (zaq g row.length g.length).2.length,.int .i64 (k:Nat)]∧S=⟨[.arr 0 70 1 [zfb g],.arr 1 3 1 [.int .i64 row.length],.arr 2 73 2 [.loc 6 xv 0 g.length,.loc 7 vq 0 (zaq g row.length g.length).2.length],.arr 3 42 1 [.ref 2 2 0],.map 4 (mE (zaq g row.length g.length).1),.arr 5 116 1 [.mp 4 4],.arr xv 34 1 ((ze1 g row.length g.length).map eInts),.arr vq 93 4 (rcs (zaq g row.length g.length).2)],t⟩) (zaq g row.length g.length).2.length ?_ ?_
 ·refine ⟨8,0,t,rfl,Nat.zero_le _,?_,?_⟩
  ·simp [Env.put,Env.of,zaf,z4k]
  simp [zbe]
 rintro n vs S - ⟨k,t,rfl,h_k,rfl,rfl⟩
 refine W.r fun K hK=>?_
 simp(disch:=omega)only[↓RU,RV,RH,↓reduceIte,qE,reduceCtorEq,if_pos,w64,↓RS,RG,qA,qM,qL,zaa]
 apply hK;clear hK K
 refine W.seq ?_
 refine W.cond rfl (fun h3=>?_) (fun h3=>?_)
 ·try simp only[RL]at h3
  obtain ⟨b,hb2,hbm⟩:=zag (show k<(zaq g row.length g.length).2.length by omega)
  have hbf:=hso.2 b hbm
  have hba:=hbf.area
  have hsb:=ztf hso.2 k
  refine W.skip ?_
  refine xn ?_
  refine W.seq ?_
  refine W.block ?_
  refine W.r fun K hK=>?_
  simp(disch:=omega)only[↓RU,RV,RH,↓reduceIte,qE,reduceCtorEq,if_pos,↓RS,RG,qA,qM,qL,ty3,za7,zaa,za8,zkn hb2,zb4,zbm,zbn]
  apply hK;clear hK K
  refine W.k fun K hK=>?_
  simp(disch:=omega)only[↓RU,RV,RH,↓reduceIte,qE,reduceCtorEq,if_pos,qN,w64,↓RS,RG,qA,qM,qL,za7,zaa,za8,zkn hb2,zbm,zb4]
  refine zad.pc (ycg (r:=b) (by omega) (by omega)) rfl (.inl rfl) ?_
  simp(disch:=omega)only[↓RU,RV,RH,↓reduceIte,qE,reduceCtorEq,if_pos,qN,w64,↓RS,RG,qA,qM,qL,za7,zaa,za8,zkn hb2,zbm,zb4]
  apply hK;clear hK K
  refine XbN ?_
  refine xn ?_
  refine W.k fun K hK=>?_
  simp(disch:=omega)only[↓RU,RV,RH,↓reduceIte,qE,reduceCtorEq,if_pos,w64,↓RS,RG,qA,qM,qL,zaa]
  apply hK;clear hK K
  refine xn ?_
  refine ⟨(zaq g row.length g.length).2.length - (k+1),by omega,8,k+1,_,rfl,by omega,?_,rfl⟩
  simp [Env.put,Env.of,zrg hb2]
 try simp only[RL]at h3
 obtain rfl:k=(zaq g row.length g.length).2.length:=by omega
 rw [List.take_length]
 refine W.exit ?_
 refine xe ?_
 refine xe ?_
 refine XBlock.hit ?_
 refine xn ?_
 refine W.seq_draw (by kernel_rfl) fun K hK=>?_
 obtain ⟨zr,hzr,hzl,-⟩:=(yf5 hg).at_ (i:=0) (j:=0) (by omega) (by omega)
 have hZl:=zc3 (g:=g) (nw:=row.length) g.length
 have hpr:=Nat.mul_le_mul hgl.2 hb.2
 simp(disch:=omega)only[↓RU,RV,RH,↓reduceIte,qE,reduceCtorEq,if_pos,qN,w64,↓RS,RG,qA,qM,qL,ty7,zaa,hZl,hzl]
 refine zad.pc (zp2 (ze1 g row.length g.length) (zaq g row.length g.length).2) (zch (zk2 (f:=6) rfl rfl (zc3 _) rfl) rfl) (.inl rfl) ?_
 simp(disch:=omega)only[↓RU,RV,RH,↓reduceIte,qE,reduceCtorEq,if_pos,qN,w64,↓RS,RG,qA,qM,qL,ty7,zaa,hZl,hzl]
 refine zad.pc (zvc (g:=(ze1 g row.length g.length)) hzr (zaq g row.length g.length).2) (zch (zk2 (f:=6) rfl rfl (zc3 _) rfl) rfl) (.inl rfl) ?_
 simp(disch:=omega)only[↓RU,RV,RH,↓reduceIte,qE,reduceCtorEq,if_pos,qN,w64,↓RS,RG,qA,qM,qL,ty7,zaa,hZl,hzl]
 apply hK;clear hK K
 refine W.ret ?_
 refine Br rfl ?_
 have hok:okS g=true:=by unfold okS stG; rw [hw0,zue.2 (by rw [hw0]; exact hg)]; simp; omega
 rw [zew,hok,if_pos rfl]
 unfold stG zG zlr stG
 rw [hw0]
 refine zid (k:=9) (zk2 (f:=5) rfl rfl (zc3 _) rfl) ?_
 have he:(z4k (zaq g row.length g.length).2 == (g.length:Int)*row.length)=decide (z4k (zaq g row.length g.length).2=((g.length*row.length:Nat):Int)):=by rw [Int.natCast_mul]; rfl
 rw [← he]
 rfl
def zvi (t:Txt):List Int:=t.map fun c=>(c.toNat:Int)
def zcf (p:List Txt):List (List Int):=p.map zvi
def zhq (p:List Txt):Bool:=p.all fun r=>r.all zc9
def zup (p:List Txt):PV:=if zhq p then zew (zcf p) else .tup [.nilp,.bool false]
def okB (p:List Txt):Bool:=zhq p && okS (zcf p)
def gP (p:List Txt):List (List Int):=zG (zcf p)
def rP (p:List Txt):List Rect:=(stG (zcf p)).2
theorem zj7 (t:Txt):(zvi t).length=t.length:=by simp [zvi]
theorem z74 {t:Txt} {k:Nat} {c:UInt8} (h:t[k]?=some c):zvi (t.take (k+1))=zvi (t.take k)++[(c.toNat:Int)]:=by simp [zvi,tk h]
theorem z33 {p:List Txt} {i:Nat} {t:Txt} (h:p[i]?=some t):zcf (p.take (i+1))=zcf (p.take i)++[zvi t]:=by simp [zcf,tk h]
theorem zea (p:List Txt):(zcf p).length=p.length:=by simp [zcf]
theorem zqe {p:List Txt} {r:Txt} {c:UInt8} (hr:r∈p) (hc:c∈r) (h:zc9 c=false):zhq p=false:=by
 unfold zhq
 rw [List.all_eq_false]
 refine ⟨r,hr,?_⟩
 rw [Bool.not_eq_true,List.all_eq_false]
 exact ⟨c,hc,by rw [h]; exact Bool.false_ne_true⟩
theorem ztn {g:List (List Int)} {i:Nat} (hi:i<6) {s:List Int × List Rect} (hs:zru s.1 s.2) {n:Nat} (hn:n≤6):∀ j,j≤n→∀ z∈znm g i s j,0≤z∧z≤s.1.length+n
 | 0,_,z,h=>by simp [znm]at h
 | j+1,hj,z,h=>by
  simp only[znm,List.mem_append,List.mem_singleton]at h
  rcases h with h | rfl
  ·exact ztn hi hs hn j (by omega) z h
  have h1:=zhp (ks:=(zdx g i s j).1) (z:=gz g i j)
  obtain ⟨-,h2,-,-⟩:=zmj (g:=g) hi hs j (by omega)
  omega
theorem zlg {g:List (List Int)} {nw:Nat} (hw:nw≤6) (hw1:1≤nw):∀ i,i≤6→∀ r∈ze1 g nw i,∀ z∈r,0≤z∧z≤100
 | 0,_,r,h=>by simp [ze1]at h
 | i+1,hi,r,h=>by
  simp only[ze1,List.mem_append,List.mem_singleton]at h
  rcases h with h | rfl
  ·exact zlg hw hw1 i (by omega) r h
  intro z hz
  obtain ⟨h1,h2,-⟩:=zga (g:=g) hw hw1 i (by omega)
  have:=ztn (g:=g) (i:=i) (by omega) h1 hw nw (qR _) z hz
  omega
theorem z60 {g:List (List Int)} (h:okS g=true):GW g g.length (w0 g):=by
 unfold okS at h
 rw [qB]at h
 exact zue.1 h.1
theorem ygx {g:List (List Int)} (h:okS g=true):GW (zG g) g.length (w0 g):=yf5 (z60 h)
theorem ya7 {g:List (List Int)} (h:okS g=true):∀ r∈zG g,∀ z∈r,0≤z∧z≤100:=by
 obtain ⟨-,-,h1,h2,h3,h4⟩:=z60 h
 exact zlg h4 h3 _ h2
theorem zk7 {g:List (List Int)} (h:okS g=false):zew g = .tup [.nilp,.bool false]:=by rw [zew,h]; rfl
theorem zjp {g:List (List Int)} (h:okS g=true):zew g = .tup [za3 (zG g) (stG g).2,.bool (zlr g)]:=by rw [zew,h]; rfl
theorem z39 {S:Store} {lo k:Nat} (l:List (List Int)):(l.map eInts).mapM (rfz S lo (k+1))=some (l.map eInts):=zuu (fun _=>rfl) l
theorem yad {p:List Txt} (h:okB p=false):zup p = .tup [.nilp,.bool false]:=by
 unfold okB at h
 unfold zup
 cases hl:zhq p with
 | false=>rfl
 | true=>rw [hl,Bool.true_and]at h; rw [if_pos rfl,zk7 h]
theorem z7p {p:List Txt} (h:okB p=true):zup p = .tup [za3 (gP p) (rP p),.bool (zlr (zcf p))]:=by
 unfold okB at h
 rw [qB]at h
 rw [zup,if_pos h.1,zjp h.2]
 rfl
theorem z1j {p:List Txt} (h:okB p=true):GW (gP p) p.length (w0 (zcf p)):=by
 unfold okB at h
 rw [qB]at h
 have:=ygx h.2
 rwa [zea]at this
theorem z6z {p:List Txt} (h:okB p=true):∀ r∈gP p,∀ z∈r,0≤z∧z≤100:=by
 unfold okB at h
 rw [qB]at h
 exact ya7 h.2
theorem zye (g:List (List Int)):(zfy g).length=g.length:=by simp [zfy]
def zpz (p:List Txt):Bool:=zlr (zcf p) && decide (zfy (gP p)=p)
def zg6 (p:List Txt):Bool:=okB p && zpz p
def zds (p:List Txt):Bool:=zg6 p && decide (zxk (gP p) 4 (w0 (zcf p)) p.length=0)
theorem zji {p:List Txt} (h:okB p=true):(rP p).length≤9:=by
 unfold okB okS at h
 simp only[qB,decide_eq_true_eq]at h
 exact h.2.2
theorem zh9 {p:List Txt} (h:okB p=true):1≤(rP p).length:=by
 unfold okB at h
 rw [qB]at h
 obtain ⟨-,-,h1,h2,h3,h4⟩:=z60 h.2
 obtain ⟨k1,-,k3⟩:=zga (g:=zcf p) h4 h3 _ h2
 have:=k1.1
 have:=k3 h1
 unfold rP stG
 omega
theorem z4d {g:List (List Int)} (hsm:g.length<2147483648) (hsr:∀ r∈g,r.length<2147483648) (h:okS g=false):PC Tryz.prog 62 [zfb g] (.tup [.nilp,.bool false]) false:=by
 rw [← zk7 h]; exact ztb hsm hsr
theorem zzw {g:List (List Int)} (hsm:g.length<2147483648) (hsr:∀ r∈g,r.length<2147483648) (h:okS g=true):PC Tryz.prog 62 [zfb g] (.tup [za3 (zG g) (stG g).2,.bool (zlr g)]) false:=by
 rw [← zjp h]; exact ztb hsm hsr
theorem z7q {p:List Txt} (hs:Sm p):PC Tryz.prog 77 [zav p] (zup p) false:=by
 have hp:=hs.rows
 refine PC.of ⟨Tryz.func77,by kernel_rfl,rfl,by kernel_rfl⟩ zap mixed (by show 1≤Tryz.f77.ntmps; decide) ?_
 refine W.r fun K hK=>?_
 simp(disch:=omega)only[↓RU,RV,RH,↓reduceIte,qE,reduceCtorEq,if_pos,↓RS,RG,qA,qM,qL]
 apply hK;clear hK K
 refine W.r fun K hK=>?_
 simp(disch:=omega)only[↓RU,RV,RH,↓reduceIte,qE,reduceCtorEq,if_pos,↓RS,RG,qA,qM,qL,ty1,zab,zde,zaa]
 apply hK;clear hK K
 refine W.joinZ [4] (fun vs S=>∃ tk:Nat,zhq p=true∧vs=[zfb (zcf p)]∧S=⟨[],tk⟩) ?_ ?_
 ·
  refine W.r fun K hK=>?_
  simp(disch:=omega)only[↓RU,RV,RH,↓reduceIte,qE,reduceCtorEq,if_pos,↓RS,RG,qA,qM,qL,ty5,zac]
  apply hK;clear hK K
  refine W.block ?_
  refine W.loopZ [4,11,12,13] (fun n vs S=>∃ i v0 tk:Nat,n=p.length - i∧i≤p.length∧((p.take i).all (fun r=>r.all zc9)=true)∧vs=[.loc 0 v0 0 i,zav p,.int .i64 p.length,.int .i64 i]∧S=⟨[.arr v0 34 1 ((zcf (p.take i)).map eInts)],tk⟩) (p.length) ?_ ?_
  ·refine ⟨1,[.loc 0 0 0 0,zav p,.int .i64 p.length,.int .i64 0],⟨[.arr 0 34 1 ((zcf (p.take 0)).map eInts)],1⟩,?_,?_,0,0,1,rfl,by omega,rfl,rfl,rfl⟩
   ·rfl
   rfl
  rintro n vs S - ⟨i,v0,tk,rfl,h_i,hall,rfl,rfl⟩
  refine W.r fun K hK=>?_
  simp(disch:=omega)only[↓RU,RV,RH,↓reduceIte,qE,reduceCtorEq,if_pos,w64,↓RS,RG,qA,qM,qL,zaa]
  apply hK;clear hK K
  refine W.seq ?_
  refine W.cond rfl (fun h=>?_) (fun h=>?_)
  ·try simp only[RL]at h
   obtain ⟨row,hrow,hrm⟩:=zag (show i<p.length by omega)
   have hrl:=hs.cols row hrm
   have hgk:(zcf (p.take i)).length=i:=by rw [zea,List.length_take]; omega
   have hgt:((zcf (p.take i)).map eInts).take i=(zcf (p.take i)).map eInts:=qT (by rw [List.length_map]; omega)
   refine W.skip ?_
   refine xn ?_
   refine W.seq ?_
   refine W.block ?_
   refine W.r fun K hK=>?_
   simp(disch:=omega)only[↓RU,RV,RH,↓reduceIte,qE,reduceCtorEq,if_pos,↓RS,RG,qA,qM,qL,ty5,zac,hrow]
   apply hK;clear hK K
   refine W.r fun K hK=>?_
   simp(disch:=omega)only[↓RU,RV,RH,↓reduceIte,qE,reduceCtorEq,if_pos,↓RS,RG,qA,qM,qL,zab,zaa]
   apply hK;clear hK K
   refine W.seq ?_
   refine W.r fun K hK=>?_
   simp(disch:=omega)only[↓RU,RV,RH,↓reduceIte,qE,reduceCtorEq,if_pos,w64,↓RS,RG,qA,qM,qL,ty6,zac,zen]
   apply hK;clear hK K
   refine W.block ?_
   refine W.loop [4,11,12,13,7,19,20,21] (fun n vs S=>∃ k v1 t:Nat,n=row.length - k∧k≤row.length∧((row.take k).all zc9=true)∧vs=[.loc 0 v0 0 i,zav p,.int .i64 p.length,.int .i64 i,.loc 1 v1 0 k,.sl (row.map eB) row.length,.int .i64 row.length,.int .i64 k]∧S=⟨[.arr v0 34 1 ((zcf (p.take i)).map eInts),.arr v1 3 1 ((zvi (row.take k)).map (.int .i64))],t⟩) (row.length) ?_ ?_
   ·refine ⟨2,0,_,_,rfl,Nat.zero_le _,rfl,?_,rfl⟩
    simp [Env.put,Env.of]
   rintro n vs S - ⟨k,v1,t,rfl,h_k,hrk,rfl,rfl⟩
   refine W.r fun K hK=>?_
   simp(disch:=omega)only[↓RU,RV,RH,↓reduceIte,qE,reduceCtorEq,if_pos,w64,↓RS,RG,qA,qM,qL,zaa]
   apply hK;clear hK K
   refine W.seq ?_
   refine W.cond rfl (fun h1=>?_) (fun h1=>?_)
   ·try simp only[RL]at h1
    obtain ⟨c,hc,hcm⟩:=zag (show k<row.length by omega)
    have hcb:=c.toNat_lt
    have hrowk:(zvi (row.take k)).length=k:=by rw [zj7,List.length_take]; omega
    have hrowt:((zvi (row.take k)).map (PV.int .i64)).take k=(zvi (row.take k)).map (PV.int .i64):=qT (by rw [List.length_map]; omega)
    refine W.skip ?_
    refine xn ?_
    refine W.seq ?_
    refine W.block ?_
    refine W.r fun K hK=>?_
    simp(disch:=omega)only[↓RU,RV,RH,↓reduceIte,qE,reduceCtorEq,if_pos,↓RS,RG,qA,qM,qL,ty6,zen,hc]
    apply hK;clear hK K
    refine W.seq ?_
    refine W.r fun K hK=>?_
    rcases (show (c.toNat:Int)<97∨(c.toNat:Int)>122∨(97≤c.toNat∧c.toNat≤122) by omega) with hb | hb | hb
    ·skip
     have hd:decide ((c.toNat:Int)<97)=true:=decide_eq_true hb
     have hlc:zc9 c=false:=by unfold zc9; rw [decide_eq_false (by omega)]; rfl
     simp(disch:=omega)only[↓RU,RV,RH,↓reduceIte,qE,reduceCtorEq,if_pos,w64,↓RS,RG,qA,qM,qL,zen,hd]
     apply hK;clear hK K
     refine W.cond rfl (fun h2=>?_) (fun h2=>?_)
     ·try simp only[RL]at h2
      refine W.r fun K hK=>?_
      simp(disch:=omega)only[↓RU,RV,RH,↓reduceIte,qE,reduceCtorEq,if_pos,↓RS,RG,qA,qM,qL]
      apply hK;clear hK K
      refine W.ret ?_
      refine XThen.ret ?_
      refine XBlock.ret ?_
      refine XThen.ret ?_
      refine XThen.ret ?_
      refine XBlock.ret ?_
      refine XThen.ret ?_
      refine XBlock.ret ?_
      refine XThen.ret ?_
      refine XThen.ret ?_
      refine XBlock.ret ?_
      refine XThen.ret ?_
      refine Br rfl ?_
      rw [zup,zqe hrm hcm hlc]
      rfl
     try simp only[RL]at h2
     exact absurd h2 (by simp)
    ·skip
     have hd:decide ((c.toNat:Int)<97)=false:=decide_eq_false (by omega)
     have hd2:decide ((c.toNat:Int)>122)=true:=decide_eq_true hb
     have hlc:zc9 c=false:=by unfold zc9; rw [decide_eq_false (p:=c.toNat≤122) (by omega),Bool.and_false]
     simp(disch:=omega)only[↓RU,RV,RH,↓reduceIte,qE,reduceCtorEq,if_pos,w64,↓RS,RG,qA,qM,qL,zen,hd,hd2]
     apply hK;clear hK K
     refine W.cond rfl (fun h2=>?_) (fun h2=>?_)
     ·try simp only[RL]at h2
      refine W.r fun K hK=>?_
      simp(disch:=omega)only[↓RU,RV,RH,↓reduceIte,qE,reduceCtorEq,if_pos,↓RS,RG,qA,qM,qL]
      apply hK;clear hK K
      refine W.ret ?_
      refine XThen.ret ?_
      refine XBlock.ret ?_
      refine XThen.ret ?_
      refine XThen.ret ?_
      refine XBlock.ret ?_
      refine XThen.ret ?_
      refine XBlock.ret ?_
      refine XThen.ret ?_
      refine XThen.ret ?_
      refine XBlock.ret ?_
      refine XThen.ret ?_
      refine Br rfl ?_
      rw [zup,zqe hrm hcm hlc]
      rfl
     try simp only[RL]at h2
     exact absurd h2 (by simp)
    skip
    have hd:decide ((c.toNat:Int)<97)=false:=decide_eq_false (by omega)
    have hd2:decide ((c.toNat:Int)>122)=false:=decide_eq_false (by omega)
    have hlc:zc9 c=true:=by unfold zc9; rw [decide_eq_true hb.1,decide_eq_true hb.2]; rfl
    simp(disch:=omega)only[↓RU,RV,RH,↓reduceIte,qE,reduceCtorEq,if_pos,w64,↓RS,RG,qA,qM,qL,zen,hd,hd2]
    apply hK;clear hK K
    refine W.cond rfl (fun h2=>?_) (fun h2=>?_)
    ·try simp only[RL]at h2
     exact absurd h2 (by simp)
    try simp only[RL]at h2
    refine W.skip ?_
    refine xn ?_
    refine W.k fun K hK=>?_
    simp(disch:=omega)only[↓RU,RV,RH,↓reduceIte,qE,reduceCtorEq,if_pos,w64,↓RS,RG,qA,qM,qL,zab,zaa,zen,hrowk,hrowt,qR]
    apply hK;clear hK K
    refine XbN ?_
    refine xn ?_
    refine W.k fun K hK=>?_
    simp(disch:=omega)only[↓RU,RV,RH,↓reduceIte,qE,reduceCtorEq,if_pos,w64,↓RS,RG,qA,qM,qL,zaa]
    apply hK;clear hK K
    refine xn ?_
    refine ⟨row.length - (k+1),by omega,2,k+1,t+1,t+2,rfl,by omega,z0g hc hrk hlc,?_,?_⟩
    ·simp [Env.put,Env.of]
    simp [zbe,z74 hc]
   try simp only[RL]at h1
   obtain rfl:k=row.length:=by omega
   have hra:row.all zc9=true:=by rw [List.take_length]at hrk; exact hrk
   have hrz:=zj7 row
   rw [List.take_length]
   generalize hYe:zvi row=Y at hrz
   have hYt:(Y.map (PV.int .i64)).take row.length=Y.map (PV.int .i64):=qT (by rw [List.length_map]; omega)
   have hYE:eInts Y=PV.sl (Y.map (PV.int .i64)) row.length:=by rw [← hrz]
   refine W.exit ?_
   refine xe ?_
   refine xe ?_
   refine XBlock.hit ?_
   refine xn ?_
   refine W.k fun K hK=>?_
   simp(disch:=omega)only[↓RU,RV,RH,↓reduceIte,qE,reduceCtorEq,if_pos,↓RS,RG,qA,qM,qL,ty1,zab,zde,zaa,hgk,hgt,qR]
   apply hK;clear hK K
   refine XbN ?_
   refine xn ?_
   refine W.k fun K hK=>?_
   simp(disch:=omega)only[↓RU,RV,RH,↓reduceIte,qE,reduceCtorEq,if_pos,w64,↓RS,RG,qA,qM,qL,zaa]
   apply hK;clear hK K
   refine xn ?_
   refine ⟨p.length - (i+1),by omega,1,[.loc 0 (t+1) 0 (i+1),zav p,.int .i64 p.length,.int .i64 (i+1)],⟨[.arr (t+1) 34 1 ((zcf (p.take (i+1))).map eInts)],(t+2)⟩,?_,?_,(i+1),(t+1),(t+2),rfl,by omega,z0g hrow hall hra,rfl,rfl⟩
   ·simp [-qU,Store.frz,zcj,zcy,za0,zbu,zby,zbt,zcs,zba,zbd,zbb,zaz,za1,zbz,zbc,zbv,za9,Env.put,Env.of,zaf,zbx,qP,qC]
   simp [-qU,Store.frz,zcj,zcy,za0,zbu,zby,zbt,zcs,zba,zbd,zbb,zaz,za1,zbz,zbc,zbv,za9,Env.put,Env.of,zaf,zbx,qP,qC,z33 hrow,hYe,hYt,hYE,hrz]
  try simp only[RL]at h
  refine W.exit ?_
  refine xe ?_
  refine xe ?_
  refine XBlock.hit ?_
  refine xn ?_
  obtain rfl:i=p.length:=by omega
  rw [List.take_length]at hall ⊢
  have hgt2:((zcf p).map eInts).take p.length=(zcf p).map eInts:=qT (by simp [zcf])
  have hgE:zfb (zcf p)=PV.sl ((zcf p).map eInts) p.length:=by rw [← zea p]
  refine ⟨0,[zfb (zcf p)],⟨[],tk⟩,?_,?_,tk,hall,rfl,rfl⟩
  ·simp [-qU,Store.frz,zcj,zcy,za0,zbu,zby,zbt,zcs,zba,zbd,zbb,zaz,za1,zbz,zbc,zbv,za9,Env.put,Env.of,zaf,zbx,qP,qC,hgt2,hgE,zea,z39]
  simp [-qU,Store.frz,zcj,zcy,za0,zbu,zby,zbt,zcs,zba,zbd,zbb,zaz,za1,zbz,zbc,zbv,za9,Env.put,Env.of,zaf,zbx,qP,qC]
 rintro vs S - ⟨tk,hlet,rfl,rfl⟩
 refine W.r fun K hK=>?_
 cases hok:okS (zcf p)
 ·skip
  simp(disch:=omega)only[↓RU,RV,RH,↓reduceIte,qE,reduceCtorEq,if_pos,qN,↓RS,RG,qA,qM,qL]
  refine zad.pc (z4d (g:=zcf p) (by rw [zea]; omega) (fun r hr=>by obtain ⟨t,ht,rfl⟩:=List.mem_map.1 hr; rw [zj7]; exact hs.cols t ht) hok) rfl (.inr rfl) ?_
  simp(disch:=omega)only[↓RU,RV,RH,↓reduceIte,qE,reduceCtorEq,if_pos,qN,↓RS,RG,qA,qM,qL]
  apply hK;clear hK K
  refine W.ret ?_
  refine Br rfl ?_
  rw [zup,hlet,if_pos rfl,zk7 hok]
  rfl
 skip
 simp(disch:=omega)only[↓RU,RV,RH,↓reduceIte,qE,reduceCtorEq,if_pos,qN,↓RS,RG,qA,qM,qL]
 refine zad.pc (zzw (g:=zcf p) (by rw [zea]; omega) (fun r hr=>by obtain ⟨t,ht,rfl⟩:=List.mem_map.1 hr; rw [zj7]; exact hs.cols t ht) hok) rfl (.inr rfl) ?_
 simp(disch:=omega)only[↓RU,RV,RH,↓reduceIte,qE,reduceCtorEq,if_pos,qN,↓RS,RG,qA,qM,qL]
 apply hK;clear hK K
 refine W.ret ?_
 refine Br rfl ?_
 rw [zup,hlet,if_pos rfl,zjp hok]
 rfl
theorem ydo {p:List Txt} (hs:Sm p) (h:okB p=false):PC Tryz.prog 77 [zav p] (.tup [.nilp,.bool false]) false:=by
 rw [← yad h]; exact z7q hs
theorem yae {p:List Txt} (hs:Sm p) (h:okB p=true):PC Tryz.prog 77 [zav p] (.tup [za3 (gP p) (rP p),.bool (zlr (zcf p))]) false:=by
 rw [← z7p h]; exact z7q hs
theorem z3b {p:List Txt} (hs:Sm p) (h:okB p=false):PC Tryz.prog 46 [zav p] (.tup [.nilp,.bool false]) false:=by
 refine PC.of ⟨Tryz.func46,by kernel_rfl,rfl,by kernel_rfl⟩ zap mixed (by show 1≤Tryz.f46.ntmps; decide) ?_
 refine W.r fun K hK=>?_
 simp(disch:=omega)only[↓RU,RV,RH,↓reduceIte,qE,reduceCtorEq,if_pos]
 apply hK;clear hK K
 refine W.r fun K hK=>?_
 simp(disch:=omega)only[↓RU,RV,RH,↓reduceIte,qE,reduceCtorEq,if_pos,qN]
 refine zad.pc (ydo hs h) rfl (.inr rfl) ?_
 simp(disch:=omega)only[↓RU,RV,RH,↓reduceIte,qE,reduceCtorEq,if_pos,qN]
 apply hK;clear hK K
 refine W.r fun K hK=>?_
 simp(disch:=omega)only[↓RU,RV,RH,↓reduceIte,qE,reduceCtorEq,if_pos,qN]
 apply hK;clear hK K
 refine W.ret ?_
 refine Br rfl ?_
 rfl
theorem zy4 {p:List Txt} (hs:Sm p) (h:okB p=true):PC Tryz.prog 46 [zav p] (.tup [za3 (gP p) (rP p),.bool (zpz p)]) false:=by
 have hg:=z1j h
 have hz:=z6z h
 have hrows:=hs.rows
 refine PC.of ⟨Tryz.func46,by kernel_rfl,rfl,by kernel_rfl⟩ zap mixed (by show 1≤Tryz.f46.ntmps; decide) ?_
 refine W.r fun K hK=>?_
 simp(disch:=omega)only[↓RU,RV,RH,↓reduceIte,qE,reduceCtorEq,if_pos]
 apply hK;clear hK K
 refine W.r fun K hK=>?_
 simp(disch:=omega)only[↓RU,RV,RH,↓reduceIte,qE,reduceCtorEq,if_pos,qN]
 refine zad.pc (yae hs h) rfl (.inr rfl) ?_
 simp(disch:=omega)only[↓RU,RV,RH,↓reduceIte,qE,reduceCtorEq,if_pos,qN]
 apply hK;clear hK K
 refine W.r fun K hK=>?_
 cases hf:zlr (zcf p)
 ·skip
  simp(disch:=omega)only[↓RU,RV,RH,↓reduceIte,qE,reduceCtorEq,if_pos,qN]
  apply hK;clear hK K
  refine W.ret ?_
  refine Br rfl ?_
  rw [zpz,hf]
  rfl
 skip
 simp(disch:=omega)only[↓RU,RV,RH,↓reduceIte,qE,reduceCtorEq,if_pos,qN,hf]
 refine zad.pc (yd6 hg (rP p) hz) rfl (.inl rfl) ?_
 simp(disch:=omega)only[↓RU,RV,RH,↓reduceIte,qE,reduceCtorEq,if_pos,qN,hf]
 refine zad.pc (zv7 (p:=zfy (gP p)) (q:=p) (by rw [zye,hg.1]; omega) hs.rows) rfl (.inl rfl) ?_
 simp(disch:=omega)only[↓RU,RV,RH,↓reduceIte,qE,reduceCtorEq,if_pos,qN,hf]
 apply hK;clear hK K
 refine W.ret ?_
 refine Br rfl ?_
 rw [zpz,hf]
 rfl
theorem zse {p:List Txt} (hs:Sm p):∃ x,PC Tryz.prog 46 [zav p] (.tup [x,.bool (zg6 p)]) false∧(zg6 p=true→x=za3 (gP p) (rP p))∧∀ (S:Store) (k:Nat),reify S true (k+1) x=some x:=by
 unfold zg6
 cases h:okB p with
 | false=>exact ⟨_,z3b hs h,(fun h=>by cases h),fun _ _=>rfl⟩
 | true=>exact ⟨_,zy4 hs h,fun _=>rfl,fun _ _=>rfl⟩
theorem zzh {p:List Txt} (hs:Sm p) {x:PV} (hx:PC Tryz.prog 46 [zav p] (.tup [x,.bool (zg6 p)]) false) (hy:zg6 p=true→x=za3 (gP p) (rP p)) (hr:∀ (S:Store) (k:Nat),reify S true (k+1) x=some x):PC Tryz.prog 24 [zav p] (.tup [x,.bool (zds p)]) false:=by
 refine PC.of ⟨Tryz.func24,by kernel_rfl,rfl,by kernel_rfl⟩ zap mixed (by show 1≤Tryz.f24.ntmps; decide) ?_
 refine W.r fun K hK=>?_
 simp(disch:=omega)only[↓RU,RV,RH,↓reduceIte,qE,reduceCtorEq,if_pos]
 apply hK;clear hK K
 refine W.r fun K hK=>?_
 simp(disch:=omega)only[↓RU,RV,RH,↓reduceIte,qE,reduceCtorEq,if_pos,qN]
 refine zad.pc (hx) rfl (.inr rfl) ?_
 simp(disch:=omega)only[↓RU,RV,RH,↓reduceIte,qE,reduceCtorEq,if_pos,qN]
 apply hK;clear hK K
 refine W.r fun K hK=>?_
 cases hf:zg6 p
 ·skip
  simp(disch:=omega)only[↓RU,RV,RH,↓reduceIte,qE,reduceCtorEq,if_pos,qN]
  apply hK;clear hK K
  refine W.ret ?_
  refine Br rfl ?_
  rw [zds,hf]
  exact zid (k:=9) (hr _ 8) rfl
 skip
 have hxe:=hy hf
 subst hxe
 have hok:okB p=true:=by unfold zg6 at hf; rw [qB]at hf; exact hf.1
 have hg:=z1j hok
 simp(disch:=omega)only[↓RU,RV,RH,↓reduceIte,qE,reduceCtorEq,if_pos,qN,hf]
 refine zad.pc (z5s hg (rP p)) rfl (.inl rfl) ?_
 simp(disch:=omega)only[↓RU,RV,RH,↓reduceIte,qE,reduceCtorEq,if_pos,qN,hf]
 apply hK;clear hK K
 refine W.ret ?_
 refine Br rfl ?_
 rw [zds,hf]
 rfl
theorem zjk {p:List Txt} (h:zds p=true):okB p=true∧zds p=true:=by
 refine ⟨?_,h⟩
 unfold zds zg6 at h
 simp only[qB]at h
 exact h.1.1
theorem zs0 {p:List Txt} (hs:Sm p):∃ x,PC Tryz.prog 24 [zav p] (.tup [x,.bool (zds p)]) false∧(zds p=true→x=za3 (gP p) (rP p))∧∀ (S:Store) (k:Nat),reify S true (k+1) x=some x:=by
 obtain ⟨x,h1,h2,h3⟩:=zse hs
 refine ⟨x,zzh hs h1 h2 h3,fun h=>h2 ?_,h3⟩
 unfold zds at h
 rw [qB]at h
 exact h.1
def Same (n:Nat) (M:List (List Bool)) (ms:List Nat):Prop:=Sq n M∧ms.length=n∧∀ a b,a<n→b<n→zc2 M a b=zpk ms a b
theorem zls {n:Nat} {M:List (List Bool)} (h:Sq n M) {a b x y:Nat} {v:Bool} (ha:a<n) (hb:b<n):zc2 (z4c M a b v) x y=if x=a∧y=b then v else zc2 M x y:=by
 obtain ⟨row,hr,hl,-⟩:=h.at_ ha hb
 rw [zhg hr]
 unfold zc2
 rw [List.getElem?_set]
 by_cases hx:a=x
 ·subst hx
  rw [if_pos rfl,if_pos (by rw [h.1]; exact ha),Option.getD_some,List.getElem?_set,hr]
  by_cases hy:b=y
  ·subst hy
   rw [if_pos rfl,if_pos (by omega),if_pos ⟨rfl,rfl⟩]; rfl
  rw [if_neg hy,if_neg (fun h=>hy h.2.symm)]; rfl
 rw [if_neg hx,if_neg (fun h=>hx h.1.symm)]
theorem z0n {n:Nat} {M:List (List Bool)} (h:Sq n M) {k a:Nat} (hk:k<n) (ha:a<n):∀ i,i≤n→Sq n ((List.range i).foldl (clB k a) M) ∧
  ∀ x y,x<n→y<n→zc2 ((List.range i).foldl (clB k a) M) x y=if x=a∧y<i then zc2 M a y || (zc2 M a k && zc2 M k y) else zc2 M x y
 | 0,_=>⟨h,fun x y _ _=>by simp⟩
 | i+1,hi=>by
  obtain ⟨h1,h2⟩:=z0n h hk ha i (by omega)
  rw [zct]
  generalize (List.range i).foldl (clB k a) M=X at h1 h2 ⊢
  refine ⟨h1.clB ha,fun x y hx hy=>?_⟩
  unfold clB
  rw [zls h1 ha (by omega),h2 a i ha (by omega),h2 a k ha hk,h2 k i hk (by omega),h2 x y hx hy]
  have e1:(if a=a∧k<i then zc2 M a k || (zc2 M a k && zc2 M k k) else zc2 M a k)=zc2 M a k:=by
   split
   ·cases zc2 M a k <;> simp
   rfl
  have e2:(if k=a∧i<i then zc2 M a i || (zc2 M a k && zc2 M k i) else zc2 M k i)=zc2 M k i:=by rw [if_neg (by omega)]
  have e3:(if a=a∧i<i then zc2 M a i || (zc2 M a k && zc2 M k i) else zc2 M a i)=zc2 M a i:=by rw [if_neg (by omega)]
  rw [e1,e2,e3]
  by_cases hxa:x=a
  ·subst hxa
   by_cases hyi:y=i
   ·subst hyi; rw [if_pos ⟨rfl,rfl⟩,if_pos ⟨rfl,by omega⟩]
   rw [if_neg (fun h=>hyi h.2)]
   by_cases hlt:y<i
   ·rw [if_pos ⟨rfl,hlt⟩,if_pos ⟨rfl,by omega⟩]
   rw [if_neg (fun h=>hlt h.2),if_neg (fun h=>hlt (by have:=h.2; omega))]
  rw [if_neg (fun h=>hxa h.1),if_neg (fun h=>hxa h.1),if_neg (fun h=>hxa h.1)]
theorem zvn {ms:List Nat} {a m x y:Nat} (ha:a<ms.length):zpk (ms.set a m) x y=if x=a then m.testBit y else zpk ms x y:=by
 unfold zpk
 rw [List.getElem?_set]
 by_cases h:a=x
 ·subst h; rw [if_pos rfl,if_pos ha,if_pos rfl]; rfl
 rw [if_neg h,if_neg (Ne.symm h)]
theorem z85 {c a:Nat} {ms:List Nat}:(allA c ms a).length=ms.length:=by unfold allA; split <;> simp
theorem Same.clA {n:Nat} {M:List (List Bool)} {ms:List Nat} (h:Same n M ms) {k a:Nat} (hk:k<n) (ha:a<n):Same n (clA n k M a) (allA k ms a):=by
 obtain ⟨h1,h2,h3⟩:=h
 obtain ⟨k1,k2⟩:=z0n h1 hk ha n (qR _)
 refine ⟨k1,by rw [z85,h2],fun x y hx hy=>?_⟩
 unfold Fw.clA
 rw [k2 x y hx hy]
 obtain ⟨m,hm,-⟩:=zag (show a<ms.length by omega)
 obtain ⟨c,hc,-⟩:=zag (show k<ms.length by omega)
 have hak:zc2 M a k=m.testBit k:=by rw [h3 a k ha hk,zig hm]
 cases hb:m.testBit k with
 | true =>
  rw [z0f hm hc hb,zvn (by omega),hak,hb]
  by_cases hxa:x=a
  ·subst hxa
   rw [if_pos ⟨rfl,hy⟩,if_pos rfl,Nat.testBit_or,h3 x y hx hy,h3 k y hk hy,zig hm,zig hc,Bool.true_and]
  rw [if_neg (fun h=>hxa h.1),if_neg hxa,h3 x y hx hy]
 | false =>
  rw [z41 hm hb,hak,hb]
  by_cases hxa:x=a
  ·subst hxa; rw [if_pos ⟨rfl,hy⟩,Bool.false_and,Bool.or_false,h3 x y hx hy]
  rw [if_neg (fun h=>hxa h.1),h3 x y hx hy]
theorem Same.fold {n:Nat} {f:List (List Bool)→Nat→List (List Bool)} {g:List Nat→Nat→List Nat}:∀ (i:Nat) {M:List (List Bool)} {ms:List Nat},i≤n→(∀ M ms j,j<n→Same n M ms→Same n (f M j) (g ms j))→Same n M ms→Same n ((List.range i).foldl f M) ((List.range i).foldl g ms)
 | 0,_,_,_,_,h=>h
 | i+1,M,ms,hi,hs,h=>by
  rw [zct,zct]
  exact hs _ _ i (by omega) (Same.fold i (by omega) hs h)
theorem Same.close {p:List Txt} {kind:Int} {n:Nat} {M:List (List Bool)} (h:Same n M (just p kind)):Same n (zf4 M) (zvl p kind):=by
 unfold zf4 zvl
 rw [h.1.1,h.2.1]
 exact Same.fold n (qR _) (fun _ _ k hk h=>Same.fold n (qR _) (fun _ _ a ha h=>h.clA hk ha) h) h
section
theorem zop {α:Type} {f g:α→Bool}:∀ {l:List α},(∀ x∈l,f x=true→g x=true)→(∃ x∈l,g x=true∧f x=false)→l.countP f<l.countP g
 | [],_,h=>by obtain ⟨x,hx,_⟩:=h; simp at hx
 | a::l,h1,h2=>by
  have hle:l.countP f≤l.countP g:=List.countP_mono_left fun x hx=>h1 x (by simp [hx])
  have ha:=h1 a (by simp)
  rw [List.countP_cons,List.countP_cons]
  obtain ⟨x,hx,k1,k2⟩:=h2
  rcases List.mem_cons.1 hx with rfl | hx
  ·rw [k1,k2]; simp; omega
  have:=zop (l:=l) (fun x hx=>h1 x (by simp [hx])) ⟨x,hx,k1,k2⟩
  cases hf:f a with
  | false=>simp; omega
  | true=>rw [ha hf]; simp; omega
def ahead (n:Nat) (rk:Nat→Nat) (b:Nat):Nat:=(List.range n).countP fun a=>decide (rk a<rk b)
theorem zon {n:Nat} {rk:Nat→Nat} {a b:Nat} (ha:a<n) (h:rk a<rk b):ahead n rk a<ahead n rk b :=
 zop (fun x _ hx=>by simp at hx ⊢; omega) ⟨a,by simpa using ha,by simpa using h,by simp⟩
theorem zyp {n:Nat} {rk:Nat→Nat} {b:Nat} (hb:b<n):ahead n rk b<n:=by
 have:=zop (l:=List.range n) (f:=fun a=>decide (rk a<rk b)) (g:=fun _=>true) (fun _ _ _=>rfl) ⟨b,by simpa using hb,rfl,by simp⟩
 simpa [ahead] using this
section
variable {M:List (List Bool)} {ms:List Nat} {ws:List Int} {n:Nat} {rk:Nat→Nat}
def beg (M:List (List Bool)) (ws:List Int) (n b:Nat):Int:=hvF M (HB M ws n) b n
def Ge (n:Nat) (o out:List Int):Prop:=∀ b,b<n→zd2 o b≤zd2 out b
theorem Ge.refl (o:List Int):Ge n o o:=fun _ _=>Int.le_refl _
theorem Ge.trans {a b c:List Int} (h:Ge n a b) (k:Ge n b c):Ge n a c:=fun x hx=>Int.le_trans (h x hx) (k x hx)
theorem z9p {l:List Int} {b y:Nat} {v:Int} (hb:b<l.length):zd2 (l.set b v) y=if y=b then v else zd2 l y:=by
 unfold zd2
 rw [List.getElem?_set]
 by_cases h:b=y
 ·subst h; rw [if_pos rfl,if_pos hb,if_pos rfl]; rfl
 rw [if_neg h,if_neg (Ne.symm h)]
theorem yba (hu:Up M n rk) {b:Nat} (hb:b<n):HB M ws n b=beg M ws n b+zd2 ws b:=yf9 hu hb
theorem z51 {g:Nat→Int} {b:Nat}:∀ i,0≤hvF M g b i
 | 0=>by simp [hvF]
 | i+1=>by
  have:=z51 (g:=g) (b:=b) i
  rw [zov]
  split <;> omega
end
end
def kk (lv:Bool):Int:=if lv then 1 else 0
def zvg (w:Wall):List Int:=[kk w.level,w.line,w.fr,w.long]
def zui (L:Nat) (f:Int) (i:Nat):List (List Int):=if 0≤f then [[(L:Int),f,(i:Int) - f]] else []
theorem ztm {g:List (List Int)} {q:List Txt} {lv:Bool} {L P:Nat} (hd:∀ j,j<P→zij g lv L j=zhl q L j) {ws0:List Wall} {pre s0:List (List Int)} (h0:ws0.map zvg=pre++s0.map (kk lv :: ·)):∀ i,i≤P →
  -1≤(zfo q L s0 i).1∧(zcd g lv L ws0 i).2=decide (0≤(zfo q L s0 i).1) ∧
  (zcd g lv L ws0 i).1.map zvg=pre++((zfo q L s0 i).2++zui L (zfo q L s0 i).1 i).map (kk lv :: ·)
 | 0,_=>by
  refine ⟨by simp [zfo],by simp [zlf,zfo],?_⟩
  rw [zlf]
  simpa [zfo,zui] using h0
 | i+1,hi=>by
  obtain ⟨h1,h2,h3⟩:=ztm hd h0 i (by omega)
  have hdi:=hd i (by omega)
  rw [zd8]
  unfold zfo zgr
  rw [hdi]
  generalize zcd g lv L ws0 i=s at h2 h3 ⊢
  obtain ⟨ws,op⟩:=s
  generalize zfo q L s0 i=u at h1 h2 h3 ⊢
  obtain ⟨f,l⟩:=u
  simp only at h1 h2 h3 ⊢
  cases hw:zhl q L i with
  | false =>
   simp only[zep,Bool.false_and,qF,if_false,Bool.not_false,Bool.true_and,decide_eq_true_eq]
   by_cases hf:0≤f
   ·rw [if_pos hf]
    refine ⟨by simp,by simp,?_⟩
    rw [h3]
    simp [zui,hf]
   rw [if_neg hf]
   refine ⟨h1,by simp [hf],?_⟩
   rw [h3]
   simp [zui,hf]
  | true =>
   simp only[zep,Bool.true_and,Bool.not_true,Bool.false_and,qF,if_false,if_true,decide_eq_true_eq]
   by_cases hf:0≤f
   ·have hop:op=true:=by rw [h2]; simpa using hf
    rw [if_pos hop,if_neg (show ¬ f<0 by omega)]
    refine ⟨h1,by simp [hf],?_⟩
    have hne:ws≠[]:=by
     rintro rfl
     simp [zui,hf]at h3
    obtain ⟨ws,w,rfl⟩:=z6e hne
    simp only[zui,hf,if_true,List.map_append,List.map_cons,List.map_nil,← List.append_assoc]at h3 ⊢
    obtain ⟨e1,e2⟩:=List.append_inj' h3 rfl
    simp only[List.dropLast_concat,List.getLast?_append,List.getLast?_singleton,Option.some_or,qO,Option.toList_some,List.map_append,List.map_cons,List.map_nil,e1]
    simp only[List.cons.injEq,and_true]at e2
    have e3:w.level=lv∧w.line=L∧w.fr=f∧w.long=i - f:=by
     simp only[zvg,List.cons.injEq,and_true]at e2
     refine ⟨?_,e2.2.1,e2.2.2.1,e2.2.2.2⟩
     have:=e2.1
     unfold kk at this
     cases hwl:w.level <;> cases hlv:lv <;> simp [hwl,hlv]at this ⊢
    obtain ⟨e4,e5,e6,e7⟩:=e3
    simp only[zvg,e4,e5,e6,e7,List.append_cancel_left_eq,List.cons.injEq,true_and,and_true]
    omega
   have hop:op=false:=by rw [h2]; simpa using hf
   rw [if_neg (show ¬ op=true by rw [hop]; exact Bool.false_ne_true),if_pos (show f<0 by omega)]
   refine ⟨by omega,by simp,?_⟩
   simp only[zui,hf,if_false,qN]at h3
   simp only[zui,List.map_append,h3,List.map_cons,List.map_nil]
   rw [if_pos (by omega)]
   simp [zvg]
   omega
theorem z4t {g:List (List Int)} {q:List Txt} {lv:Bool} {L:Nat} (hd:∀ j,j<q.length→zij g lv L j=zhl q L j) {ws0:List Wall} {pre s0:List (List Int)} (h0:ws0.map zvg=pre++s0.map (kk lv :: ·)) :
  (zcd g lv L ws0 q.length).1.map zvg=pre++(zfo q L s0 (q.length+1)).2.map (kk lv :: ·):=by
 obtain ⟨h1,-,h3⟩:=ztm hd h0 q.length (qR _)
 rw [h3]
 congr 2
 have e:zfo q L s0 (q.length+1)=zgr (zhl q L q.length) L q.length (zfo q L s0 q.length):=rfl
 rw [e,z8w]
 clear e h3 h1
 generalize zfo q L s0 q.length=u
 obtain ⟨f,l⟩:=u
 unfold zgr
 simp only[Bool.false_and,qF,if_false,Bool.not_false,Bool.true_and,decide_eq_true_eq,zui]
 split <;> simp
theorem zlb {g:List (List Int)} {q:List Txt} {lv:Bool} {n:Nat} (hd:∀ L j,1≤L→L<n→j<q.length→zij g lv L j=zhl q L j) {ws0:List Wall}:∀ i,i≤n →
  (zci g lv q.length ws0 i).map zvg=ws0.map zvg++(zdq q i).map (kk lv :: ·)
 | 0,_=>by simp [zci,zdq]
 | i+1,hi=>by
  have ih:=zlb hd (ws0:=ws0) i (by omega)
  by_cases h1:1≤i
  ·rw [zeo h1,znk h1]
   exact z4t (fun j hj=>hd i j h1 (by omega) hj) ih
  obtain rfl:i=0:=by omega
  simpa [zci,zdq] using ih
theorem z4q {g:List (List Int)} {p:List Txt} (hg:zc4 p=true) (hz:∀ i j,i<p.length→j<(zao p).length→gz g i j=zal p i j):(zcx g p.length (zao p).length).map zvg=walls p:=by
 have hsm:=zce hg
 obtain ⟨row0,hrow0,hrm0⟩:=zag hsm.1
 have hhd:=zc1 hrow0
 have hw1:=zfk hg hrow0
 have htl:=zmo (p:=p)
 have hth:=zpa (p:=p) (by rw [hhd]; omega)
 have d0:∀ L j,1≤L→L<(zao p).length→j<p.length→zij g false L j=zhl p L j:=by
  intro L j h1 h2 h3
  unfold zij zcp zhl
  simp only[qF,if_false]
  rw [hz j (L - 1) h3 (by omega),hz j L h3 h2]
  simp [h3]
 have d1:∀ L j,1≤L→L<p.length→j<(zc8 p).length→zij g true L j=zhl (zc8 p) L j:=by
  intro L j h1 h2 h3
  have h3':=h3
  rw [htl]at h3'
  unfold zij zcp zhl
  simp only[if_true]
  rw [hz (L - 1) j (by omega) h3',hz L j h2 h3',zih (by omega) h3',zih h2 h3']
  simp [h3]
 unfold zcx
 have e1:=zlb (lv:=true) d1 (ws0:=zci g false p.length [] (zao p).length) p.length (qR _)
 have e0:=zlb (lv:=false) d0 (ws0:=[]) (zao p).length (qR _)
 rw [htl]at e1
 rw [e1,e0]
 unfold walls uprights
 rw [hth]
 simp [kk]
theorem Same.orBit {n:Nat} {M:List (List Bool)} {ms:List Nat} (h:Same n M ms) {a b:Nat} (ha:a<n) (hb:b<n):Same n (z4c M a b true) (orBit ms a b):=by
 obtain ⟨h1,h2,h3⟩:=h
 obtain ⟨m,hm,-⟩:=zag (show a<ms.length by omega)
 rw [z1l hm]
 refine ⟨h1.set ha,by simp [h2],fun x y hx hy=>?_⟩
 rw [zls h1 ha hb,zvn (by omega)]
 by_cases hxa:x=a
 ·subst hxa
  rw [if_pos rfl,Nat.testBit_or,Nat.testBit_two_pow,h3 x y hx hy,zig hm]
  by_cases hyb:y=b
  ·subst hyb; simp
  rw [if_neg (fun h=>hyb h.2),decide_eq_false (fun h=>hyb h.symm),Bool.or_false]
 rw [if_neg (fun h=>hxa h.1),if_neg hxa,h3 x y hx hy]
def Rm (n:Nat) (l:List Int):Prop:=∀ x∈l,0≤x∧x<n
theorem Same.relB {n:Nat} {a:Int} (ha:0≤a∧a<n):∀ {bs:List Int} {M:List (List Bool)} {ms:List Nat},Rm n bs→Same n M ms→Same n (relB a bs M) (justB a.toNat ms bs)
 | [],_,_,_,h=>h
 | b::bs,M,ms,hb,h=>by
  have hb0:=hb b (by simp)
  exact Same.relB ha (bs:=bs) (fun x hx=>hb x (by simp [hx])) (h.orBit (by omega) (by omega))
theorem Same.relW {n:Nat} {bs:List Int} (hb:Rm n bs):∀ {la:List Int} {M:List (List Bool)} {ms:List Nat},Rm n la→Same n M ms→Same n (relW M la bs) (justA bs ms la)
 | [],_,_,_,h=>h
 | a::la,M,ms,ha,h=>Same.relW hb (la:=la) (fun x hx=>ha x (by simp [hx])) (h.relB (ha a (by simp)) hb)
theorem z0r {l:List Int} {x:Int}:ddp (l++[x])=zi5 (ddp l) x:=by simp [ddp,List.foldl_append]
theorem z2n {g:List (List Int)} {p:List Txt} {lv:Bool} {L fr:Nat}:∀ n,(∀ j,fr≤j→j<fr+n→zcp g lv L j=if lv then (zal p (L - 1) j,zal p L j) else (zal p j (L - 1),zal p j L)) →
  (ddp (zbq g lv L fr n).1,ddp (zbq g lv L fr n).2)=zdl p (kk lv).toNat L fr n
 | 0,_=>by simp [zbq,ddp,zdl]
 | n+1,h=>by
  have ih:=z2n n fun j a b=>h j a (by omega)
  have hx:=h (fr+n) (by omega) (by omega)
  rw [zf2,zf3,z0r,z0r,hx]
  unfold zdl
  rw [← ih]
  cases lv <;> simp [kk]
theorem zni {g:List (List Int)} {p:List Txt} (hz:∀ i j,i<p.length→j<(zao p).length→gz g i j=zal p i j) {w:Wall} (hw:zts g p.length (zao p).length w):za6 g w=zcw p (zvg w):=by
 obtain ⟨line,fr,long,he,hl,hin⟩:=hw
 obtain ⟨lv,wl,wf,wg⟩:=w
 simp only[Wall.mk.injEq,true_and]at he hin
 obtain ⟨rfl,rfl,rfl⟩:=he
 unfold za6 zcw zvg
 simp only[Int.toNat_natCast]
 refine z2n long fun j a b=>?_
 obtain ⟨⟨h1,h2⟩,-⟩:=hin j a b
 unfold zcp
 cases lv with
 | false =>
  simp only[qF,if_false]at h2 ⊢
  rw [hz j (line - 1) h2.2 (by omega),hz j line h2.2 h2.1]
 | true =>
  simp only[if_true]at h2 ⊢
  rw [hz (line - 1) j (by omega) h2.2,hz line j h2.1 h2.2]
theorem Same.empty {n:Nat}:Same n (zcg n) (List.replicate n 0):=by
 refine ⟨zex n,by simp,fun a b ha hb=>?_⟩
 simp [zc2,zcg,zpk,ha,hb]
theorem z2e {g:List (List Int)} {p:List Txt} {n:Nat} (hz:∀ i j,i<p.length→j<(zao p).length→gz g i j=zal p i j) (hrm:zvf g p.length (zao p).length n):∀ (ws:List Wall),(∀ w∈ws,zts g p.length (zao p).length w) →
  ∀ {M:List (List Bool) × List (List Bool)} {m0 m1:List Nat},Same n M.1 m0→Same n M.2 m1→Same n (ws.foldl (zmt g) M).1 ((ws.map zvg).foldl (justW p 0) m0)∧Same n (ws.foldl (zmt g) M).2 ((ws.map zvg).foldl (justW p 1) m1)
 | [],_,_,_,_,h0,h1=>⟨h0,h1⟩
 | w::ws,hws,M,m0,m1,h0,h1=>by
  have hw:=hws w (by simp)
  obtain ⟨hr1,hr2⟩:=zfm hrm hw
  rw [zni hz hw]at hr1 hr2
  rw [List.foldl_cons,List.map_cons,List.foldl_cons,List.foldl_cons]
  refine z2e hz hrm ws (fun w hw=>hws w (by simp [hw])) ?_ ?_
  ·unfold zmt justW
   rw [zni hz hw]
   cases hlv:w.level with
   | false=>simpa [zvg,kk,hlv] using h0.relW hr2 hr1
   | true=>simpa [zvg,kk,hlv] using h0
  unfold zmt justW
  rw [zni hz hw]
  cases hlv:w.level with
  | false=>simpa [zvg,kk,hlv] using h1
  | true=>simpa [zvg,kk,hlv] using h1.relW hr2 hr1
theorem yaj {g:List (List Int)} {p:List Txt} {n:Nat} (hg:zc4 p=true) (hn:(za2 p).toNat=n) (hz:∀ i j,i<p.length→j<(zao p).length→gz g i j=zal p i j) (hrm:zvf g p.length (zao p).length n) :
  Same n (zwm g p.length (zao p).length n) (zvl p 0)∧Same n (znn g p.length (zao p).length n) (zvl p 1):=by
 obtain ⟨h0,h1⟩:=z2e hz hrm (zcx g p.length (zao p).length) zdz (M:=(zcg n,zcg n)) Same.empty Same.empty
 rw [z4q hg hz]at h0 h1
 have e:List.replicate n 0=List.replicate (za2 p).toNat 0:=by rw [hn]
 rw [e]at h0 h1
 exact ⟨h0.close,h1.close⟩
def sN:Nat→(Nat→Nat)→Nat
 | 0,_=>0
 | n+1,f=>sN n f+f n
theorem zf0 {f g:Nat→Nat}:∀ {n:Nat},(∀ i,i<n→f i=g i)→sN n f=sN n g
 | 0,_=>rfl
 | n+1,h=>by rw [sN,sN,zf0 (n:=n) fun i hi=>h i (by omega),h n (by omega)]
theorem z76 {f g:Nat→Nat}:∀ {n:Nat},(∀ i,i<n→f i≤g i)→sN n f≤sN n g
 | 0,_=>qR _
 | n+1,h=>by
  have:=z76 (n:=n) fun i hi=>h i (by omega)
  have:=h n (by omega)
  simp only[sN]; omega
theorem yai {f g:Nat→Nat}:∀ {n:Nat},(∀ i,i<n→f i≤g i)→sN n f=sN n g→∀ i,i<n→f i=g i
 | 0,_,_,i,hi=>by omega
 | n+1,h,e,i,hi=>by
  have h1:=z76 (n:=n) fun i hi=>h i (by omega)
  have h2:=h n (by omega)
  simp only[sN]at e
  by_cases hin:i=n
  ·subst hin; omega
  exact yai (n:=n) (fun i hi=>h i (by omega)) (by omega) i (by omega)
theorem zzr:∀ n,sN n (fun _=>0)=0
 | 0=>rfl
 | n+1=>by rw [sN,zzr n]
theorem yb2:∀ n,sN n (fun _=>1)=n
 | 0=>rfl
 | n+1=>by rw [sN,yb2 n]
theorem z2d (c:Nat):∀ n,sN n (fun _=>c)=n*c
 | 0=>by simp [sN]
 | n+1=>by rw [sN,z2d c n,Nat.succ_mul]
theorem yb1 {f g:Nat→Nat}:∀ n,sN n (fun i=>f i+g i)=sN n f+sN n g
 | 0=>rfl
 | n+1=>by rw [sN,sN,sN,yb1 n]; omega
theorem zzq {f:Nat→Nat→Nat} {m:Nat}:∀ n,sN n (fun i=>sN m (fun j=>f i j))=sN m (fun j=>sN n (fun i=>f i j))
 | 0=>by simp only[sN]; rw [zzr]
 | n+1=>by
  simp only[sN]
  rw [zzq n,yb1]
theorem z77 {f:Nat→Nat} {c:Nat}:∀ n,sN n (fun i=>f i*c)=sN n f*c
 | 0=>by simp [sN]
 | n+1=>by rw [sN,sN,z77 n,Nat.add_mul]
def b1 (b:Bool):Nat:=if b then 1 else 0
def cnt (H W:Nat) (f:Nat→Nat→Bool):Nat:=sN H fun i=>sN W fun j=>b1 (f i j)
theorem ych {a b:Bool} (h:a=true→b=true):b1 a≤b1 b:=by
 cases a with
 | false=>simp [b1]
 | true=>rw [h rfl]; exact qR _
theorem yep {a b:Bool} (h:b1 a=b1 b):a=b:=by cases a <;> cases b <;> simp [b1]at h ⊢
theorem yez {H W:Nat} {f g:Nat→Nat→Bool} (h:∀ i j,i<H→j<W→f i j=true→g i j=true):cnt H W f≤cnt H W g :=
 z76 fun i hi=>z76 fun j hj=>ych (h i j hi hj)
theorem yey {H W:Nat} {f g:Nat→Nat→Bool} (h:∀ i j,i<H→j<W→f i j=true→g i j=true) (e:cnt H W f=cnt H W g):∀ i j,i<H→j<W→f i j=g i j:=by
 intro i j hi hj
 have h1:=yai (n:=H) (fun i hi=>z76 fun j hj=>ych (h i j hi hj)) e i hi
 exact yep (yai (n:=W) (fun j hj=>ych (h i j hi hj)) h1 j hj)
theorem z5f {H W:Nat} {f g:Nat→Nat→Bool} (h:∀ i j,i<H→j<W→f i j=g i j):cnt H W f=cnt H W g :=
 zf0 fun i hi=>zf0 fun j hj=>by rw [h i j hi hj]
theorem zx4 {a k:Nat}:∀ {n:Nat},a+k≤n→sN n (fun i=>b1 (decide (a≤i) && decide (i<a+k)))=k
 | 0,h=>by simp [sN]; omega
 | n+1,h=>by
  rw [sN]
  by_cases hn:a+k≤n
  ·rw [zx4 hn,decide_eq_false (p:=n<a+k) (by omega),Bool.and_false]; rfl
  have hnk:n+1=a+k:=by omega
  cases k with
  | zero =>
   have:sN n (fun i=>b1 (decide (a≤i) && decide (i<a+0)))=sN n (fun _=>0):=zf0 fun i hi=>by
    rw [decide_eq_false (p:=a≤i) (by omega)]; rfl
   rw [this,zzr,decide_eq_false (p:=a≤n) (by omega)]; rfl
  | succ k =>
   have e:sN n (fun i=>b1 (decide (a≤i) && decide (i<a+(k+1))))=sN n (fun i=>b1 (decide (a≤i) && decide (i<a+k))):=zf0 fun i hi=>by
    congr 2
    apply decide_eq_decide.2; omega
   rw [e,zx4 (k:=k) (by omega),decide_eq_true (p:=a≤n) (by omega),decide_eq_true (p:=n<a+(k+1)) (by omega)]
   rfl
def inR (t l h w i j:Nat):Bool:=(decide (t≤i) && decide (i<t+h)) && (decide (l≤j) && decide (j<l+w))
theorem yeo {a b:Bool}:b1 (a && b)=b1 a*b1 b:=by cases a <;> cases b <;> rfl
theorem z9f {H W t l h w:Nat} (h1:t+h≤H) (h2:l+w≤W):cnt H W (inR t l h w)=h*w:=by
 unfold cnt inR
 have e:(fun i=>sN W fun j=>b1 ((decide (t≤i) && decide (i<t+h)) && (decide (l≤j) && decide (j<l+w))))=fun i=>b1 (decide (t≤i) && decide (i<t+h))*w:=by
  funext i
  have:(fun j=>b1 ((decide (t≤i) && decide (i<t+h)) && (decide (l≤j) && decide (j<l+w))))=fun j=>b1 (decide (l≤j) && decide (j<l+w))*b1 (decide (t≤i) && decide (i<t+h)):=by
   funext j; rw [yeo,Nat.mul_comm]
  rw [this,z77,zx4 h2,Nat.mul_comm]
 rw [e,z77,zx4 h1]
theorem zyv {H W n:Nat} {z:Nat→Nat→Nat} (hz:∀ i j,i<H→j<W→z i j<n):sN n (fun r=>cnt H W fun i j=>decide (z i j=r))=H*W:=by
 unfold cnt
 rw [zzq]
 have:sN H (fun i=>sN n fun r=>sN W fun j=>b1 (decide (z i j=r)))=sN H (fun _=>W):=zf0 fun i hi=>by
  rw [zzq]
  have:sN W (fun j=>sN n fun r=>b1 (decide (z i j=r)))=sN W (fun _=>1):=zf0 fun j hj=>by
   have h1:=hz i j hi hj
   have e:sN n (fun r=>b1 (decide (z i j=r)))=sN n (fun r=>b1 (decide (z i j≤r) && decide (r<z i j+1))):=zf0 fun r hr=>by
    congr 1
    rw [Bool.eq_iff_iff]
    simp only[qB,decide_eq_true_eq]
    omega
   rw [e,zx4 (by omega)]
  rw [this,yb2]
 rw [this,z2d]
structure Hull (pr:Nat→Nat→Prop) (t l lo ri:Int):Prop where
 inn:∀ a b,pr a b→t≤a∧(a:Int)≤lo∧l≤b∧(b:Int)≤ri
 at_:∃ a b:Nat,pr a b∧(a:Int)=t
 al:∃ a b:Nat,pr a b∧(b:Int)=l
 ao:∃ a b:Nat,pr a b∧(a:Int)=lo
 ar:∃ a b:Nat,pr a b∧(b:Int)=ri
theorem Hull.uniq {pr:Nat→Nat→Prop} {t l lo ri t' l' lo' ri':Int} (h:Hull pr t l lo ri) (k:Hull pr t' l' lo' ri'):t=t'∧l=l'∧lo=lo'∧ri=ri':=by
 obtain ⟨a1,b1,p1,e1⟩:=h.at_
 obtain ⟨a2,b2,p2,e2⟩:=h.al
 obtain ⟨a3,b3,p3,e3⟩:=h.ao
 obtain ⟨a4,b4,p4,e4⟩:=h.ar
 obtain ⟨a5,b5,p5,e5⟩:=k.at_
 obtain ⟨a6,b6,p6,e6⟩:=k.al
 obtain ⟨a7,b7,p7,e7⟩:=k.ao
 obtain ⟨a8,b8,p8,e8⟩:=k.ar
 have q1:=k.inn _ _ p1
 have q2:=k.inn _ _ p2
 have q3:=k.inn _ _ p3
 have q4:=k.inn _ _ p4
 have q5:=h.inn _ _ p5
 have q6:=h.inn _ _ p6
 have q7:=h.inn _ _ p7
 have q8:=h.inn _ _ p8
 omega
theorem Hull.congr {pr pr':Nat→Nat→Prop} {t l lo ri:Int} (h:Hull pr t l lo ri) (e:∀ a b,pr a b↔pr' a b):Hull pr' t l lo ri:=by
 have:pr=pr':=by funext a b; exact propext (e a b)
 exact this ▸ h
theorem Hull.add {pr:Nat→Nat→Prop} {t l lo ri:Int} (h:Hull pr t l lo ri) (i j:Nat):Hull (fun a b=>pr a b∨(a=i∧b=j)) (min t i) (min l j) (max lo i) (max ri j):=by
 refine ⟨?_,?_,?_,?_,?_⟩
 ·rintro a b (p | ⟨rfl,rfl⟩)
  ·have:=h.inn a b p; omega
  omega
 ·by_cases e:t≤i
  ·obtain ⟨a,b,p,q⟩:=h.at_; exact ⟨a,b,.inl p,by omega⟩
  exact ⟨i,j,.inr ⟨rfl,rfl⟩,by omega⟩
 ·by_cases e:l≤j
  ·obtain ⟨a,b,p,q⟩:=h.al; exact ⟨a,b,.inl p,by omega⟩
  exact ⟨i,j,.inr ⟨rfl,rfl⟩,by omega⟩
 ·by_cases e:(i:Int)≤lo
  ·obtain ⟨a,b,p,q⟩:=h.ao; exact ⟨a,b,.inl p,by omega⟩
  exact ⟨i,j,.inr ⟨rfl,rfl⟩,by omega⟩
 by_cases e:(j:Int)≤ri
 ·obtain ⟨a,b,p,q⟩:=h.ar; exact ⟨a,b,.inl p,by omega⟩
 exact ⟨i,j,.inr ⟨rfl,rfl⟩,by omega⟩
theorem Hull.one {pr:Nat→Nat→Prop} (h:∀ a b,¬ pr a b) (i j:Nat):Hull (fun a b=>pr a b∨(a=i∧b=j)) i j i j:=by
 refine ⟨?_,⟨i,j,.inr ⟨rfl,rfl⟩,rfl⟩,⟨i,j,.inr ⟨rfl,rfl⟩,rfl⟩,⟨i,j,.inr ⟨rfl,rfl⟩,rfl⟩,⟨i,j,.inr ⟨rfl,rfl⟩,rfl⟩⟩
 rintro a b (p | ⟨rfl,rfl⟩)
 ·exact absurd p (h a b)
 omega
def Gone (W i j a b:Nat):Prop:=b<W∧(a<i∨(a=i∧b<j))
theorem zlt {W i j a b:Nat} (hj:j<W):Gone W i (j+1) a b↔Gone W i j a b∨(a=i∧b=j):=by unfold Gone; omega
theorem z09 {W i a b:Nat}:Gone W i W a b↔Gone W (i+1) 0 a b:=by unfold Gone; omega
def Val (z:Nat→Nat→Int) (W i j:Nat) (v:Int) (a b:Nat):Prop:=z a b=v∧Gone W i j a b
theorem zz8 {z:Nat→Nat→Int} {W i j:Nat} {v:Int} (hj:j<W) (h:z i j=v) (a b:Nat):(Val z W i j v a b∨(a=i∧b=j))↔Val z W i (j+1) v a b:=by
 unfold Val
 rw [zlt hj]
 constructor
 ·rintro (⟨h1,h2⟩ | ⟨rfl,rfl⟩)
  ·exact ⟨h1,.inl h2⟩
  exact ⟨h,.inr ⟨rfl,rfl⟩⟩
 rintro ⟨h1,h2 | h2⟩
 ·exact .inl ⟨h1,h2⟩
 exact .inr h2
theorem zu9 {z:Nat→Nat→Int} {W i j:Nat} {v:Int} (hj:j<W) (h:z i j≠v) (a b:Nat):Val z W i j v a b↔Val z W i (j+1) v a b:=by
 unfold Val
 rw [zlt hj]
 constructor
 ·rintro ⟨h1,h2⟩; exact ⟨h1,.inl h2⟩
 rintro ⟨h1,h2 | ⟨rfl,rfl⟩⟩
 ·exact ⟨h1,h2⟩
 exact absurd h1 h
theorem z8v {z:Nat→Nat→Int} {W i:Nat} {v:Int} (a b:Nat):Val z W i W v a b↔Val z W (i+1) 0 v a b:=by unfold Val; rw [z09]
def zli (pr:Nat→Nat→Prop) (b:Rect):Prop:=Hull pr b.row b.col (b.row+b.high - 1) (b.col+b.wide - 1)
theorem zli.both {pr:Nat→Nat→Prop} {b:Rect} (h:zli pr b) (i j:Nat):zli (fun a c=>pr a c∨(a=i∧c=j)) (b.both (zg1 i j)):=by
 have:=Hull.add h i j
 unfold zli Rect.both zg1
 simp only
 rw [show min b.row (i:Int)+(max (b.row+b.high) ((i:Int)+1) - min b.row (i:Int)) - 1=max (b.row+b.high - 1) i by omega,show min b.col (j:Int)+(max (b.col+b.wide) ((j:Int)+1) - min b.col (j:Int)) - 1=max (b.col+b.wide - 1) j by omega]
 exact this
theorem z91 {i j:Nat}:(zg1 i j).both (zg1 i j)=zg1 i j:=by
 unfold Rect.both zg1
 simp only[Rect.mk.injEq]
 omega
theorem zli.one {pr:Nat→Nat→Prop} (h:∀ a b,¬ pr a b) (i j:Nat):zli (fun a b=>pr a b∨(a=i∧b=j)) (zg1 i j):=by
 have:=Hull.one h i j
 unfold zli zg1
 simp only
 rw [show (i:Int)+1 - 1=i by omega,show (j:Int)+1 - 1=j by omega]
 exact this
theorem zli.congr {pr pr':Nat→Nat→Prop} {b:Rect} (h:zli pr b) (e:∀ a c,pr a c↔pr' a c):zli pr' b:=Hull.congr h e
structure SeInv (z:Nat→Nat→Int) (W i j:Nat) (ks:List Int) (rs:List Rect):Prop where
 nd:ks.Nodup
 len:rs.length=ks.length
 mem:∀ a b,Gone W i j a b→z a b∈ks
 hull:∀ (m:Nat) v b,ks[m]?=some v→rs[m]?=some b→zli (Val z W i j v) b
theorem zqj {l:List Int} (h:l.Nodup) {a b:Nat} {v:Int} (ha:l[a]?=some v) (hb:l[b]?=some v):a=b:=by
 obtain ⟨p1,q1⟩:=List.getElem?_eq_some_iff.1 ha
 obtain ⟨p2,q2⟩:=List.getElem?_eq_some_iff.1 hb
 have:=List.pairwise_iff_getElem.1 h
 rcases Nat.lt_trichotomy a b with hlt | heq | hgt
 ·exact absurd (q1.trans q2.symm) (this a b p1 p2 hlt)
 ·exact heq
 exact absurd (q2.trans q1.symm) (this b a p2 p1 hgt)
theorem zh7 {ks:List Int} {z:Int} (h:¬ ks.idxOf z=ks.length):ks[ks.idxOf z]?=some z:=by
 have hl:=zhp (ks:=ks) (z:=z)
 have:z∈ks:=by rw [← List.idxOf_lt_length_iff]; omega
 rw [List.getElem?_eq_getElem (List.idxOf_lt_length_iff.2 this),List.getElem_idxOf]
theorem zp5 {ks:List Int} {z:Int} (h:ks.idxOf z=ks.length):z ∉ ks:=by
 intro hm
 have:=List.idxOf_lt_length_iff.2 hm
 omega
theorem SeInv.step {z:Nat→Nat→Int} {W i j:Nat} {ks:List Int} {rs:List Rect} (h:SeInv z W i j ks rs) (hj:j<W):SeInv z W i (j+1) (zie ks (z i j)) (zo9 ks rs (z i j) (zg1 i j)):=by
 have hlen:=h.len
 by_cases hin:ks.idxOf (z i j)=ks.length
 ·have hnm:=zp5 hin
  have e1:zie ks (z i j)=ks++[z i j]:=by simp [zie,hin]
  have e2:zo9 ks rs (z i j) (zg1 i j)=rs++[zg1 i j]:=by
   unfold zo9 zi7
   rw [if_pos hin,hin,← hlen,List.getD_eq_getElem?_getD]
   simp [z91]
  rw [e1,e2]
  refine ⟨?_,by simp [hlen],?_,?_⟩
  ·rw [List.nodup_append]
   refine ⟨h.nd,by simp,?_⟩
   intro a ha b hb
   rw [List.mem_singleton]at hb
   rintro rfl
   exact hnm (hb ▸ ha)
  ·intro a b hab
   rw [zlt hj]at hab
   rcases hab with hab | ⟨rfl,rfl⟩
   ·exact List.mem_append_left _ (h.mem a b hab)
   simp
  intro m v b hm hb
  by_cases hml:m<ks.length
  ·rw [List.getElem?_append_left hml]at hm
   rw [List.getElem?_append_left (by omega)]at hb
   have hv:z i j≠v:=fun e=>hnm (e ▸ List.mem_of_getElem? hm)
   exact (h.hull m v b hm hb).congr (zu9 hj hv)
  have hml2:=zb0 hm
  simp only[List.length_append,List.length_singleton]at hml2
  obtain rfl:m=ks.length:=by omega
  rw [List.getElem?_append_right (qR _),Nat.sub_self]at hm
  rw [← hlen,List.getElem?_append_right (qR _),Nat.sub_self]at hb
  simp only[List.getElem?_cons_zero,Option.some.injEq]at hm hb
  subst hm hb
  exact (zli.one (pr:=Val z W i j (z i j)) (fun a b hab=>hnm (hab.1 ▸ h.mem a b hab.2)) i j).congr (zz8 hj rfl)
 have hk:=zh7 hin
 have hkl:=zb0 hk
 have e1:zie ks (z i j)=ks:=by simp [zie,hin]
 obtain ⟨b0,hb0,-⟩:=zag (show ks.idxOf (z i j)<rs.length by omega)
 have e2:zo9 ks rs (z i j) (zg1 i j)=rs.set (ks.idxOf (z i j)) (b0.both (zg1 i j)):=by
  unfold zo9 zi7
  rw [if_neg hin,List.getD_eq_getElem?_getD,hb0]; rfl
 rw [e1,e2]
 refine ⟨h.nd,by simp [hlen],?_,?_⟩
 ·intro a b hab
  rw [zlt hj]at hab
  rcases hab with hab | ⟨rfl,rfl⟩
  ·exact h.mem a b hab
  exact List.mem_of_getElem? hk
 intro m v b hm hb
 rw [List.getElem?_set]at hb
 by_cases e:ks.idxOf (z i j)=m
 ·subst e
  rw [if_pos rfl,if_pos (by omega)]at hb
  cases hb
  rw [hk]at hm
  cases hm
  exact ((h.hull _ _ _ hk hb0).both i j).congr (zz8 hj rfl)
 rw [if_neg e]at hb
 have hv:z i j≠v:=by
  rintro rfl
  exact e (zqj h.nd hk hm)
 exact (h.hull m v b hm hb).congr (zu9 hj hv)
theorem SeInv.nil {z:Nat→Nat→Int} {W:Nat}:SeInv z W 0 0 [] []:=by
 refine ⟨by simp,rfl,?_,by simp⟩
 intro a b h
 unfold Gone at h; omega
theorem SeInv.row {g:List (List Int)} {W i:Nat} {s:List Int × List Rect} (h:SeInv (gz g) W i 0 s.1 s.2):∀ j,j≤W→SeInv (gz g) W i j (zdx g i s j).1 (zdx g i s j).2
 | 0,_=>h
 | j+1,hj=>(SeInv.row h j (by omega)).step (by omega)
theorem SeInv.rows {g:List (List Int)} {W:Nat}:∀ i,SeInv (gz g) W i 0 (zaq g W i).1 (zaq g W i).2
 | 0=>SeInv.nil
 | i+1=>by
  have h:=(SeInv.rows (g:=g) (W:=W) i).row W (qR _)
  refine ⟨h.nd,h.len,fun a b hab=>h.mem a b (z09.2 hab),fun m v b hm hb=>(h.hull m v b hm hb).congr (fun a c=>z8v a c)⟩
theorem zq9 {g:List (List Int)} {i:Nat} {s:List Int × List Rect}:∀ {j k:Nat},j≤k→∃ r,(zdx g i s k).1=(zdx g i s j).1++r
 | j,0,h=>by
  have hj:j=0:=by omega
  subst hj; exact ⟨[],by simp⟩
 | j,k+1,h=>by
  by_cases e:j=k+1
  ·subst e; exact ⟨[],by simp⟩
  obtain ⟨r,hr⟩:=zq9 (g:=g) (i:=i) (s:=s) (show j≤k by omega)
  simp only[zdx,zie]
  split
  ·exact ⟨r++[gz g i k],by rw [hr,List.append_assoc]⟩
  exact ⟨r,hr⟩
theorem zta {g:List (List Int)} {W:Nat}:∀ {i k:Nat},i≤k→∃ r,(zaq g W k).1=(zaq g W i).1++r
 | i,0,h=>by
  have hi:i=0:=by omega
  subst hi; exact ⟨[],by simp⟩
 | i,k+1,h=>by
  by_cases e:i=k+1
  ·subst e; exact ⟨[],by simp⟩
  obtain ⟨r,hr⟩:=zta (g:=g) (W:=W) (show i≤k by omega)
  obtain ⟨r2,hr2⟩:=zq9 (g:=g) (i:=k) (s:=zaq g W k) (Nat.zero_le W)
  simp only[zaq]
  refine ⟨r++r2,?_⟩
  rw [hr2,← List.append_assoc,← hr]; rfl
theorem zp4 {l r:List Int} {x:Int} (h:¬ l.idxOf x=l.length):(l++r).idxOf x=l.idxOf x:=by
 have hl:=zhp (ks:=l) (z:=x)
 have hm:x∈l:=by rw [← List.idxOf_lt_length_iff]; omega
 rw [List.idxOf_append,if_pos hm]
theorem z57 {l r:List Int} {x:Int} (h:l.idxOf x=l.length):(l++[x]++r).idxOf x=l.length:=by
 have hm:x ∉ l:=zp5 h
 rw [List.append_assoc,List.idxOf_append,if_neg hm]
 simp
theorem zNum {g:List (List Int)} {W nh i j:Nat} (hi:i<nh) (hj:j<W):((zdx g i (zaq g W i) j).1.idxOf (gz g i j))=(zaq g W nh).1.idxOf (gz g i j):=by
 obtain ⟨r,hr⟩:=zta (g:=g) (W:=W) (show i+1≤nh by omega)
 obtain ⟨r2,hr2⟩:=zq9 (g:=g) (i:=i) (s:=zaq g W i) (show j+1≤W by omega)
 have e:(zaq g W nh).1=zie (zdx g i (zaq g W i) j).1 (gz g i j)++(r2++r):=by
  rw [hr,← List.append_assoc]
  congr 1
 rw [e]
 generalize (zdx g i (zaq g W i) j).1=ks
 unfold zie
 by_cases hin:ks.idxOf (gz g i j)=ks.length
 ·rw [if_pos hin,z57 hin,hin]
 rw [if_neg hin,zp4 hin]
def inZ (p:List Txt) (r:Int) (i j:Nat):Bool:=decide (zal p i j=r)
theorem zwe {p:List Txt} {i k:Nat} {row:Txt} {c:UInt8} {r:Int} (h:p[i]?=some row) (hc:row[k]?=some c):zkj r c=inZ p r i k:=by
 unfold zkj inZ; rw [zc0 h hc]
theorem znq {p:List Txt} {i:Nat} {row:Txt} {r:Int} (h:p[i]?=some row) (n:Int):∀ k,k≤row.length→zdn r n (row.take k)=n+sN k fun j=>b1 (inZ p r i j)
 | 0,_=>by simp [zdn,sN]
 | k+1,hk=>by
  obtain ⟨c,hc,-⟩:=zag (show k<row.length by omega)
  have ih:=znq (r:=r) h n k (by omega)
  unfold zdn at ih ⊢
  rw [zer hc,ih,sN,zwe h hc]
  cases inZ p r i k <;> simp [b1]
  omega
theorem zqa {p:List Txt} {W:Nat} (hW:∀ row∈p,row.length=W) {r:Int}:∀ i,i≤p.length→(p.take i).foldl (zdn r) 0=((sN i fun i=>sN W fun j=>b1 (inZ p r i j):Nat):Int)
 | 0,_=>by simp [sN]
 | i+1,hi=>by
  obtain ⟨row,hr,hm⟩:=zag (show i<p.length by omega)
  have ih:=zqa hW (r:=r) i (by omega)
  have hl:=hW row hm
  have:=znq (r:=r) hr (((sN i fun i=>sN W fun j=>b1 (inZ p r i j):Nat):Int)) W (by omega)
  rw [qT (by omega)]at this
  rw [zer hr,ih,this,sN]
  simp
theorem z3h {p:List Txt} {W:Nat} (hW:∀ row∈p,row.length=W) {r:Int}:zfu p r=((cnt p.length W (inZ p r):Nat):Int):=by
 have:=zqa hW (r:=r) p.length (qR _)
 rwa [List.take_length]at this
def zkc (H W:Nat) (pr:Nat→Nat→Prop) (b:Box):Prop:=((∀ a c,¬ pr a c)∧b=⟨H,W,-1,-1⟩)∨Hull pr b.top b.left b.low b.right
theorem zkc.congr {H W:Nat} {pr pr':Nat→Nat→Prop} {b:Box} (h:zkc H W pr b) (e:∀ a c,pr a c↔pr' a c):zkc H W pr' b:=by
 have:pr=pr':=by funext a b; exact propext (e a b)
 exact this ▸ h
theorem zkc.add {H W:Nat} {pr:Nat→Nat→Prop} {b:Box} (h:zkc H W pr b) {i k:Nat} (hi:i<H) (hk:k<W):zkc H W (fun a c=>pr a c∨(a=i∧c=k)) ⟨min b.top i,min b.left k,max b.low i,max b.right k⟩:=by
 rcases h with ⟨h1,rfl⟩ | h
 ·right
  have:=Hull.one h1 i k
  simp only
  rw [show min (H:Int) i=i by omega,show min (W:Int) k=k by omega,show max (-1:Int) i=i by omega,show max (-1:Int) k=k by omega]
  exact this
 exact .inr (Hull.add h i k)
theorem zx1 {p:List Txt} {H W i:Nat} {row:Txt} {r:Int} (hr:p[i]?=some row) (hW:row.length=W) (hi:i<H) {b:Box} (h:zkc H W (Val (zal p) W i 0 r) b):∀ k,k≤W→zkc H W (Val (zal p) W i k r) (zme r i b row k)
 | 0,_=>by simpa [zme] using h
 | k+1,hk=>by
  obtain ⟨c,hc,-⟩:=zag (show k<row.length by omega)
  have ih:=zx1 hr hW hi h k (by omega)
  rw [zj6 hc]
  unfold zkr
  simp only
  rw [zwe hr hc]
  by_cases e:zal p i k=r
  ·rw [if_pos (by unfold inZ; exact decide_eq_true e)]
   exact (ih.add hi (by omega)).congr (zz8 (by omega) e)
  rw [if_neg (by unfold inZ; rw [decide_eq_false e]; exact Bool.false_ne_true)]
  exact ih.congr (zu9 (by omega) e)
theorem zvo {p:List Txt} {W:Nat} (hW:∀ row∈p,row.length=W) (hh:(zao p).length=W) {r:Int}:∀ i,i≤p.length→zkc p.length W (Val (zal p) W i 0 r) (zi0 p r i)
 | 0,_=>by
  left
  refine ⟨fun a c h=>?_,by simp [zi0,hh]⟩
  have:=h.2
  unfold Gone at this; omega
 | i+1,hi=>by
  obtain ⟨row,hr,hm⟩:=zag (show i<p.length by omega)
  rw [zmx hr]
  have:=zx1 (r:=r) hr (hW row hm) (by omega) (zvo hW hh i (by omega)) W (qR _)
  rw [hW row hm]
  exact this.congr fun a c=>z8v a c
theorem z46 {p:List Txt} {W:Nat} (hW:∀ row∈p,row.length=W) (hh:(zao p).length=W) {r:Int}:zkc p.length W (Val (zal p) W p.length 0 r) (zg3 p r):=by
 rw [← zll]; exact zvo hW hh p.length (qR _)
theorem Hull.nat {z:Nat→Nat→Int} {H W:Nat} {v:Int} {t l lo ri:Int} (h:Hull (Val z W H 0 v) t l lo ri):∃ t' l' h' w':Nat,t=t'∧l=l'∧lo=t'+h' - 1∧ri=l'+w' - 1∧1≤h'∧1≤w'∧t'+h'≤H∧l'+w'≤W ∧
  ∀ i j,i<H→j<W→z i j=v→inR t' l' h' w' i j=true:=by
 obtain ⟨a1,b1,p1,e1⟩:=h.at_
 obtain ⟨a2,b2,p2,e2⟩:=h.al
 obtain ⟨a3,b3,p3,e3⟩:=h.ao
 obtain ⟨a4,b4,p4,e4⟩:=h.ar
 have q1:=h.inn _ _ p1
 have q2:=h.inn _ _ p2
 obtain ⟨-,g3,g3'⟩:=p3
 obtain ⟨-,g4,g4'⟩:=p4
 refine ⟨a1,b2,a3+1 - a1,b4+1 - b2,e1.symm,e2.symm,by omega,by omega,by omega,by omega,by omega,by omega,fun i j hi hj hv=>?_⟩
 have:=h.inn i j ⟨hv,by unfold Gone; omega⟩
 unfold inR
 simp only[qB,decide_eq_true_eq]
 omega
def u8I (c:UInt8):Int:=(c.toNat:Int)
theorem yd8 {a b:UInt8} (h:u8I a=u8I b):a=b:=by
 unfold u8I at h
 exact UInt8.toNat_inj.1 (by omega)
theorem zwd {α β:Type} [DecidableEq α] [DecidableEq β] {f:α→β} (hf:∀ a b,f a=f b→a=b) {c:α}:∀ (l:List α),(l.map f).idxOf (f c)=l.idxOf c
 | []=>rfl
 | a::l=>by
  rw [List.map_cons,List.idxOf_cons,List.idxOf_cons,zwd hf l]
  by_cases e:a=c
  ·subst e; simp
  have e2:f a≠f c:=fun h=>e (hf _ _ h)
  rw [show (f a == f c)=false by simpa using e2,show (a == c)=false by simpa using e]
theorem yc1 {p:List Txt} {i k:Nat} {row:Txt} {c:UInt8} (h:p[i]?=some row) (hc:row[k]?=some c):gz (zcf p) i k=u8I c:=by
 simp [gz,zcf,zvi,h,hc,u8I]
theorem zsp {p:List Txt} {i:Nat} {row:Txt} (h:p[i]?=some row) {o:List UInt8} {s:List Int × List Rect} (ho:o.map u8I=s.1):∀ j,j≤row.length →
  ((row.take j).foldl zet (o,[])).1.map u8I=(zdx (zcf p) i s j).1∧((row.take j).foldl zet (o,[])).2=zq7 (znm (zcf p) i s j)
 | 0,_=>⟨by simpa [zdx] using ho,by simp [znm,zq7]⟩
 | j+1,hj=>by
  obtain ⟨c,hc,-⟩:=zag (show j<row.length by omega)
  obtain ⟨h1,h2⟩:=zsp h ho j (by omega)
  rw [zer hc]
  generalize (row.take j).foldl zet (o,[])=q at h1 h2 ⊢
  have hz:=yc1 h hc
  have hi:(zdx (zcf p) i s j).1.idxOf (gz (zcf p) i j)=q.1.idxOf c:=by rw [← h1,hz,zwd fun a b=>yd8]
  have hl:(zdx (zcf p) i s j).1.length=q.1.length:=by rw [← h1,List.length_map]
  constructor
  ·simp only[zet,zdx,zie]
   rw [hi,hl]
   split
   ·rw [List.map_append,h1,hz]; rfl
   exact h1
  simp only[zet,znm]
  rw [hi,h2]
  simp [zq7,z6h]
theorem z1h {p:List Txt} {W:Nat} (hW:∀ row∈p,row.length=W):∀ i,i≤p.length →
  ((p.take i).foldl zn5 ([],[])).1.map u8I=(zaq (zcf p) W i).1∧((p.take i).foldl zn5 ([],[])).2=zfy (ze1 (zcf p) W i)
 | 0,_=>by simp [zaq,ze1,zfy]
 | i+1,hi=>by
  obtain ⟨row,hr,hm⟩:=zag (show i<p.length by omega)
  obtain ⟨h1,h2⟩:=z1h hW i (by omega)
  rw [zer hr]
  generalize (p.take i).foldl zn5 ([],[])=q at h1 h2 ⊢
  have hl:=hW row hm
  obtain ⟨k1,k2⟩:=zsp hr h1 row.length (qR _)
  rw [List.take_length,hl]at k1 k2
  constructor
  ·simp only[zn5,zqh,zaq]; exact k1
  simp only[zn5,zqh,ze1,zfy,List.map_append,List.map_cons,List.map_nil]
  rw [k2,h2]
  rfl
theorem zh3 {p:List Txt}:w0 (zcf p)=(zao p).length:=by
 cases p with
 | nil=>rfl
 | cons a p=>simp [w0,zcf,zvi,zao]
theorem zp1 {p:List Txt} (hg:zc4 p=true):∀ row∈p,row.length=(zao p).length:=by
 intro row hm
 obtain ⟨i,hi⟩:=List.getElem?_of_mem hm
 exact zdt hg hi
theorem zm9 {p:List Txt} (hg:zc4 p=true):names p=zfy (gP p):=by
 have:=(z1h (zp1 hg) p.length (qR _)).2
 rw [List.take_length]at this
 unfold names zua gP zG
 rw [this,zh3,zea]
theorem z9s {p:List Txt}:zc4 p=(zhq p && okG (zcf p)):=by
 rw [Bool.eq_iff_iff,qB,zue,zea,zh3]
 unfold zc4 zhq GW zs8
 simp only[qB,decide_eq_true_eq,List.all_eq_true,zea,true_and]
 constructor
 ·rintro ⟨⟨h1,h2⟩,h3⟩
  obtain ⟨row0,hr0,hm0⟩:=zag (show 0<p.length by omega)
  have hh:=zc1 hr0
  have h4:=h1 row0 hm0
  refine ⟨fun r hr=>(h1 r hr).2,fun r hr=>?_,h2,h3,by rw [hh]; omega,by rw [hh]; omega⟩
  obtain ⟨t,ht,rfl⟩:=List.mem_map.1 hr
  rw [zj7]; exact (h1 t ht).1.1.1
 rintro ⟨h1,h2,h3,h4,h5,h6⟩
 refine ⟨⟨fun r hr=>?_,h3⟩,h4⟩
 have:=h2 (zvi r) (List.mem_map.2 ⟨r,hr,rfl⟩)
 rw [zj7]at this
 exact ⟨⟨⟨this,by omega⟩,by omega⟩,h1 r hr⟩
theorem z0c {g:List (List Int)} {i:Nat} {s:List Int × List Rect}:∀ {j k:Nat},k<j→(znm g i s j)[k]?=some (((zdx g i s k).1.idxOf (gz g i k):Nat):Int)
 | 0,k,h=>by omega
 | j+1,k,h=>by
  unfold znm
  by_cases e:k=j
  ·subst e; rw [List.getElem?_append_right (by rw [zfn]; exact qR _),zfn]; simp
  rw [List.getElem?_append_left (by rw [zfn]; omega)]; exact z0c (by omega)
def keys (p:List Txt):List Int:=(zaq (zcf p) (zao p).length p.length).1
theorem z3e {p:List Txt}:gP p=ze1 (zcf p) (zao p).length p.length:=by unfold gP zG; rw [zh3,zea]
theorem z7n {p:List Txt}:rP p=(zaq (zcf p) (zao p).length p.length).2:=by unfold rP stG; rw [zh3,zea]
theorem z5v {p:List Txt} {i j:Nat} (hi:i<p.length) (hj:j<(zao p).length):gz (gP p) i j=(((keys p).idxOf (gz (zcf p) i j):Nat):Int):=by
 rw [z3e]
 unfold gz
 rw [zka hi,Option.getD_some,z0c hj,Option.getD_some]
 congr 1
 exact zNum hi hj
theorem zgu (p:List Txt):SeInv (gz (zcf p)) (zao p).length p.length 0 (keys p) (rP p):=by
 rw [z7n]; exact SeInv.rows p.length
theorem zot {H W i j:Nat} (hi:i<H) (hj:j<W):Gone W H 0 i j:=⟨hj,.inl hi⟩
theorem zft {p:List Txt}:zvf (gP p) p.length (zao p).length (rP p).length:=by
 intro i j hi hj
 rw [z5v hi hj]
 have hm:=(zgu p).mem i j (zot hi hj)
 have hl:=(zgu p).len
 have:=List.idxOf_lt_length_iff.2 hm
 omega
structure Named (p:List Txt):Prop where
 hg:zc4 p=true
 ht:zfy (gP p)=p
theorem Named.cell {p:List Txt} (h:Named p) {i j:Nat} (hi:i<p.length) (hj:j<(zao p).length):gz (gP p) i j=zal p i j:=by
 have hgz:=z5v hi hj
 have hm:=(zgu p).mem i j (zot hi hj)
 have hsm:=zce h.hg
 obtain ⟨row0,hr0,hm0⟩:=zag hsm.1
 have hh:=zc1 hr0
 have hw6:=hsm.2.2 row0 hm0
 have hw1:=zfk h.hg hr0
 rw [← hh]at hw6 hw1
 have hb:=zlg (g:=zcf p) hw6 hw1 p.length hsm.2.1
 rw [← z3e]at hb
 have hrl:(gP p).length=p.length:=by rw [z3e]; exact zc3 _
 obtain ⟨zr,hzr,hzm⟩:=zag (show i<(gP p).length by omega)
 have hzl:zr.length=(zao p).length:=by
  have e:=hzr
  rw [z3e,zka hi]at e
  cases e
  exact zfn _
 obtain ⟨z,hz,hzm2⟩:=zag (show j<zr.length by omega)
 have hz1:=hb zr hzm z hzm2
 have e1:gz (gP p) i j=z:=by simp [gz,hzr,hz]
 have e2:p[i]?=some (zq7 zr):=by
  have:=zmm hzr
  rwa [h.ht]at this
 have e3:(zq7 zr)[j]?=some (z6h z):=by simp [zq7,hz]
 rw [e1,zc0 e2 e3]
 unfold z6h
 rw [UInt8.toNat_ofNat_of_lt' (by show 97+z.toNat<256; omega)]
 omega
theorem Named.room {p:List Txt} (h:Named p) {i j:Nat} (hi:i<p.length) (hj:j<(zao p).length):0≤zal p i j∧zal p i j<(rP p).length:=by
 rw [← h.cell hi hj]; exact zft i j hi hj
theorem Named.key {p:List Txt} (h:Named p) {m:Nat} {v:Int} (hm:(keys p)[m]?=some v) (a b:Nat):Val (gz (zcf p)) (zao p).length p.length 0 v a b↔Val (zal p) (zao p).length p.length 0 m a b:=by
 unfold Val
 constructor
 ·rintro ⟨h1,h2⟩
  refine ⟨?_,h2⟩
  obtain ⟨hb,ha⟩:=h2
  have ha':a<p.length:=by omega
  rw [← h.cell ha' hb,z5v ha' hb,h1]
  congr 1
  have hv:=List.mem_of_getElem? hm
  have hlt:=List.idxOf_lt_length_iff.2 hv
  have:=zh7 (ks:=keys p) (z:=v) (by omega)
  exact zqj (zgu p).nd this hm
 rintro ⟨h1,h2⟩
 refine ⟨?_,h2⟩
 obtain ⟨hb,ha⟩:=h2
 have ha':a<p.length:=by omega
 have hmem:=(zgu p).mem a b (zot ha' hb)
 have hlt:=List.idxOf_lt_length_iff.2 hmem
 rw [← h.cell ha' hb,z5v ha' hb]at h1
 have:=zh7 (ks:=keys p) (z:=gz (zcf p) a b) (by omega)
 rw [show (keys p).idxOf (gz (zcf p) a b)=m by omega,hm]at this
 cases this; rfl
theorem Named.rect {p:List Txt} (h:Named p) {m:Nat} {b:Rect} (hb:(rP p)[m]?=some b):zli (Val (zal p) (zao p).length p.length 0 m) b:=by
 have hi:=zgu p
 have hml:=zb0 hb
 rw [hi.len]at hml
 obtain ⟨v,hv,-⟩:=zag hml
 exact (hi.hull m v b hv hb).congr (h.key hv)
theorem Named.box {p:List Txt} (h:Named p) {m:Nat} {b:Rect} (hb:(rP p)[m]?=some b):b.row=(zg3 p m).top∧b.col=(zg3 p m).left∧b.high=zd9 p m∧b.wide=zd0 p m:=by
 have h1:=h.rect hb
 have h2:=z46 (zp1 h.hg) rfl (r:=(m:Int))
 rcases h2 with ⟨h2,-⟩ | h2
 ·obtain ⟨a,c,q,-⟩:=h1.at_
  exact absurd q (h2 a c)
 have:=Hull.uniq h1 h2
 unfold zd9 zd0
 omega
theorem zn2 {f:UInt8→Int} {B:Int}:∀ (row:Txt) (n:Int),n≤B→(∀ c∈row,f c≤B)→row.foldl (fun n c=>max n (f c)) n≤B
 | [],n,h,_=>h
 | c::row,n,h,hc=>zn2 row _ (by have:=hc c (by simp); show max n (f c)≤B; omega) fun d hd=>hc d (by simp [hd])
theorem z2a {B:Int}:∀ (p:List Txt) (n:Int),n≤B→(∀ row∈p,∀ c∈row,(c.toNat:Int) - 97+1≤B)→p.foldl zgq n≤B
 | [],n,h,_=>h
 | row::p,n,h,hc=>z2a p _ (zn2 row n h (hc row (by simp))) fun r hr=>hc r (by simp [hr])
theorem Named.rooms {p:List Txt} (h:Named p):za2 p=(rP p).length:=by
 have hi:=zgu p
 have hl:=hi.len
 apply Int.le_antisymm
 ·refine z2a p 0 (by omega) fun row hr c hc=>?_
  obtain ⟨i,hrow⟩:=List.getElem?_of_mem hr
  obtain ⟨j,hcol⟩:=List.getElem?_of_mem hc
  have hil:=zb0 hrow
  have hjl:=zb0 hcol
  have:=h.room hil (by rw [← zdt h.hg hrow]; exact hjl)
  rw [zc0 hrow hcol]at this
  omega
 by_cases h0:(rP p).length=0
 ·have:=(zdp p).1; omega
 obtain ⟨b,hb,-⟩:=zag (show (rP p).length - 1<(rP p).length by omega)
 obtain ⟨a,c,⟨q1,q2⟩,-⟩:=(h.rect hb).at_
 obtain ⟨hc,ha⟩:=q2
 have ha':a<p.length:=by omega
 obtain ⟨row,hrow,hrm⟩:=zag ha'
 have hrl:=zdt h.hg hrow
 obtain ⟨d,hd,-⟩:=zag (show c<row.length by omega)
 have:=(zs7 p 0).2 a c row d hrow hd
 rw [zc0 hrow hd]at q1
 unfold za2
 omega
def inB (b:Rect) (i j:Nat):Bool:=(decide (b.row≤i) && decide ((i:Int)<b.row+b.high)) && (decide (b.col≤j) && decide ((j:Int)<b.col+b.wide))
theorem zo5 {z:Nat→Nat→Int} {H W:Nat} {v:Int} {b:Rect} (h:zli (Val z W H 0 v) b):((cnt H W (inB b):Nat):Int)=b.high*b.wide∧∀ i j,i<H→j<W→z i j=v→inB b i j=true:=by
 obtain ⟨t,l,hh,w,e1,e2,e3,e4,h1,h2,h3,h4,h5⟩:=Hull.nat h
 have e5:b.high=hh:=by omega
 have e6:b.wide=w:=by omega
 have e:∀ i j,inB b i j=inR t l hh w i j:=by
  intro i j
  unfold inB inR
  rw [e1,e2,e5,e6,Bool.eq_iff_iff]
  simp only[qB,decide_eq_true_eq]
  omega
 have e7:inB b=inR t l hh w:=by funext i j; exact e i j
 rw [e7,z9f h3 h4,e5,e6]
 exact ⟨by simp,h5⟩
def arN (p:List Txt) (m:Nat):Nat :=
 match (rP p)[m]? with
 | some b=>cnt p.length (zao p).length (inB b)
 | none=>0
theorem z0h {p:List Txt} {m:Nat} {b:Rect} (h:(rP p)[m]?=some b):arN p m=cnt p.length (zao p).length (inB b):=by simp [arN,h]
theorem z8j {p:List Txt} (h:Named p):∀ k,k≤(rP p).length→z4k ((rP p).take k)=((sN k (arN p):Nat):Int)
 | 0,_=>by simp [z4k,sN]
 | k+1,hk=>by
  obtain ⟨b,hb,-⟩:=zag (show k<(rP p).length by omega)
  rw [zrg hb,z8j h k (by omega),sN,z0h hb,← (zo5 (h.rect hb)).1]
  simp
theorem Named.cells_le {p:List Txt} (h:Named p) {m:Nat} (hm:m<(rP p).length):cnt p.length (zao p).length (inZ p m)≤arN p m:=by
 obtain ⟨b,hb,-⟩:=zag hm
 rw [z0h hb]
 exact yez fun i j hi hj hz=>(zo5 (h.rect hb)).2 i j hi hj (by unfold inZ at hz; simpa using hz)
theorem Named.all {p:List Txt} (h:Named p):sN (rP p).length (fun m=>cnt p.length (zao p).length (inZ p m))=p.length*(zao p).length:=by
 rw [← zyv (H:=p.length) (W:=(zao p).length) (n:=(rP p).length) (z:=fun i j=>(zal p i j).toNat) fun i j hi hj=>by have:=h.room hi hj; omega]
 refine zf0 fun m hm=>z5f fun i j hi hj=>?_
 unfold inZ
 have:=h.room hi hj
 apply decide_eq_decide.2
 omega
theorem z9o {p:List Txt} (h:Named p):zlr (zcf p)=decide (sN (rP p).length (arN p)=p.length*(zao p).length):=by
 have:=z8j h (rP p).length (qR _)
 rw [List.take_length]at this
 unfold zlr
 rw [show (stG (zcf p)).2=rP p from rfl,this,zea,zh3]
 apply decide_eq_decide.2
 omega
theorem Named.area {p:List Txt} (h:Named p) {m:Nat} (hm:m<(rP p).length):(zfu p m=zd9 p m*zd0 p m)↔cnt p.length (zao p).length (inZ p m)=arN p m:=by
 obtain ⟨b,hb,-⟩:=zag hm
 obtain ⟨-,-,e1,e2⟩:=h.box hb
 rw [z3h (zp1 h.hg),← e1,← e2,← (zo5 (h.rect hb)).1,z0h hb]
 omega
theorem Named.full {p:List Txt} (h:Named p):zlr (zcf p)=true↔∀ m,m<(rP p).length→cnt p.length (zao p).length (inZ p m)=arN p m:=by
 rw [z9o h,decide_eq_true_eq,← h.all]
 constructor
 ·intro e m hm
  exact yai (fun m hm=>h.cells_le hm) e.symm m hm
 intro e
 exact zf0 fun m hm=>(e m hm).symm
theorem Named.fill {p:List Txt} (h:Named p) (hf:zlr (zcf p)=true) {m:Nat} {b:Rect} (hb:(rP p)[m]?=some b) {i j:Nat} (hi:i<p.length) (hj:j<(zao p).length):inB b i j=decide (zal p i j=m):=by
 have e:=h.full.1 hf m (zb0 hb)
 rw [z0h hb]at e
 exact (yey (fun i j hi hj hz=>(zo5 (h.rect hb)).2 i j hi hj (by unfold inZ at hz; simpa using hz)) e i j hi hj).symm
theorem zg7 {p:List Txt}:zg6 p=zbw p:=by
 unfold zg6 zpz okB okS zbw
 rw [Bool.eq_iff_iff]
 simp only[qB,decide_eq_true_eq,List.all_eq_true,List.mem_range]
 have hgi:=z9s (p:=p)
 constructor
 ·rintro ⟨⟨h1,h2,h3⟩,h4,h5⟩
  have hg:zc4 p=true:=by rw [hgi,h1,h2]; rfl
  have hN:Named p:=⟨hg,h5⟩
  have hr:=hN.rooms
  have h3':(rP p).length≤9:=h3
  refine ⟨⟨⟨hg,by rw [zm9 hg]; exact h5⟩,by omega⟩,fun m hm=>?_⟩
  have hm':m<(rP p).length:=by omega
  exact (hN.area hm').2 (hN.full.1 h4 m hm')
 rintro ⟨⟨⟨hg,h2⟩,h3⟩,h4⟩
 have h5:zfy (gP p)=p:=by rw [← zm9 hg]; exact h2
 have hN:Named p:=⟨hg,h5⟩
 have hr:=hN.rooms
 rw [hgi,qB]at hg
 have h3':(rP p).length≤9:=by omega
 exact ⟨⟨hg.1,hg.2,h3'⟩,hN.full.2 fun m hm=>(hN.area hm).1 (h4 m (by omega)),h5⟩
theorem zc6 {p:List Txt} (h:zbw p=true):Named p:=by
 have h2:=h
 rw [← zg7]at h2
 unfold zg6 zpz at h2
 simp only[qB,decide_eq_true_eq]at h2
 exact ⟨zeu h,h2.2.2⟩
theorem z7e {p:List Txt} (h:zbw p=true):zlr (zcf p)=true:=by
 rw [← zg7]at h
 unfold zg6 zpz at h
 simp only[qB,decide_eq_true_eq]at h
 exact h.2.1
def cz (c:UInt8):Int:=(c.toNat:Int) - 97
theorem ye0 {a b:UInt8}:(cz a=cz b)=(a=b):=by
 rw [yea]
 unfold cz
 apply propext; omega
theorem ycp (a b c d:UInt8):((dn [cz a,cz b,cz c,cz d]:Nat):Int)=zgl [a,b,c,d] 4:=by
 simp only[dn,zgl,z6q,zrr,List.mem_cons,List.not_mem_nil,or_false,ye0]
 by_cases h1:a=b <;> by_cases h2:a=c <;> by_cases h3:a=d <;> by_cases h4:b=c <;> by_cases h5:b=d <;> by_cases h6:c=d <;> simp_all [eq_comm]
theorem z3d {p:List Txt} (h:Named p) {i k:Nat} (hi:1≤i) (hi2:i<p.length) (hk:1≤k) (hk2:k<(zao p).length):((dn (four (gP p) i k):Nat):Int)=zjh p i k:=by
 obtain ⟨r1,hr1,-⟩:=zag (show i - 1<p.length by omega)
 obtain ⟨r2,hr2,-⟩:=zag hi2
 have l1:=zdt h.hg hr1
 have l2:=zdt h.hg hr2
 obtain ⟨a,ha,-⟩:=zag (show k - 1<r1.length by omega)
 obtain ⟨b,hb,-⟩:=zag (show k<r1.length by omega)
 obtain ⟨c,hc,-⟩:=zag (show k - 1<r2.length by omega)
 obtain ⟨d,hd,-⟩:=zag (show k<r2.length by omega)
 unfold four zjh
 rw [h.cell (by omega) (by omega),h.cell (by omega) (by omega),h.cell (by omega) (by omega),h.cell (by omega) (by omega),zc0 hr1 ha,zc0 hr1 hb,zc0 hr2 hc,zc0 hr2 hd]
 simp only[hr1,hr2,ha,hb,hc,hd]
 exact ycp a b c d
theorem zxm {p:List Txt} (h:Named p) {many:Int} {i:Nat} (hi:1≤i) (hi2:i<p.length):∀ k,k≤(zao p).length→zee (gP p) many i k=zgo p many i k
 | 0,_=>rfl
 | k+1,hk=>by
  unfold zee zgo
  rw [zxm h hi hi2 k (by omega)]
  by_cases h1:1≤k
  ·rw [z3d h hi hi2 h1 (by omega)]
  rw [if_neg (fun e=>h1 e.1),if_neg (fun e=>h1 e.1)]
theorem yby {p:List Txt} (h:Named p) {many:Int}:∀ i,i≤p.length→zxk (gP p) many (zao p).length i=zi4 p many (zao p).length i
 | 0,_=>rfl
 | i+1,hi=>by
  unfold zxk zi4
  rw [yby h i (by omega)]
  by_cases h1:1≤i
  ·rw [zxm h h1 (by omega) _ (qR _)]
  rw [if_neg h1,if_neg h1]
theorem ze8 {p:List Txt}:zds p=zbo p:=by
 unfold zds zbo
 rw [zg7]
 cases hp:zbw p with
 | false=>rfl
 | true =>
  rw [zh3,yby (zc6 hp) p.length (qR _)]
  rfl
theorem zdw {p:List Txt} (h:zbo p=true):zbw p=true:=by
 unfold zbo at h
 rw [qB]at h
 exact h.1
theorem zm8 {l:List Int} {x:Int}:x∈ddp l↔x∈l:=by
 have:∀ (l m:List Int),x∈l.foldl zi5 m↔x∈m∨x∈l:=by
  intro l
  induction l with
  | nil=>intro m; simp
  | cons a l ih=>intro m; rw [List.foldl_cons,ih,z1g,List.mem_cons,or_assoc]
 unfold ddp
 rw [this]
 simp
def Rise (n:Nat) (rk:Nat→Nat) (M:List (List Bool)):Prop:=Sq n M∧∀ a b,a<n→b<n→zc2 M a b=true→rk a<rk b
theorem Rise.clA {n:Nat} {rk:Nat→Nat} {M:List (List Bool)} (h:Rise n rk M) {k a:Nat} (hk:k<n) (ha:a<n):Rise n rk (clA n k M a):=by
 obtain ⟨h1,h2⟩:=z0n h.1 hk ha n (qR _)
 refine ⟨h1,fun x y hx hy hxy=>?_⟩
 unfold Fw.clA at hxy
 rw [h2 x y hx hy]at hxy
 split at hxy
 ·rename_i e
  obtain ⟨rfl,-⟩:=e
  rw [Bool.or_eq_true,qB]at hxy
  rcases hxy with hxy | ⟨h3,h4⟩
  ·exact h.2 x y hx hy hxy
  exact Nat.lt_trans (h.2 x k hx hk h3) (h.2 k y hk hy h4)
 exact h.2 x y hx hy hxy
theorem Rise.fold {n:Nat} {rk:Nat→Nat} {f:List (List Bool)→Nat→List (List Bool)}:∀ (i:Nat) {M:List (List Bool)},i≤n→(∀ M j,j<n→Rise n rk M→Rise n rk (f M j))→Rise n rk M→Rise n rk ((List.range i).foldl f M)
 | 0,_,_,_,h=>h
 | i+1,M,hi,hs,h=>by
  rw [zct]
  exact hs _ i (by omega) (Rise.fold i (by omega) hs h)
theorem Rise.close {n:Nat} {rk:Nat→Nat} {M:List (List Bool)} (h:Rise n rk M):Rise n rk (zf4 M):=by
 unfold zf4
 rw [h.1.1]
 exact Rise.fold n (qR _) (fun _ k hk h=>Rise.fold n (qR _) (fun _ a ha h=>h.clA hk ha) h) h
theorem Rise.relB {n:Nat} {rk:Nat→Nat} {a:Int} (ha:0≤a∧a<n):∀ {bs:List Int} {M:List (List Bool)},Rm n bs→(∀ b∈bs,rk a.toNat<rk b.toNat)→Rise n rk M→Rise n rk (relB a bs M)
 | [],_,_,_,h=>h
 | b::bs,M,hb,hr,h=>by
  have hb0:=hb b (by simp)
  refine Rise.relB ha (bs:=bs) (fun x hx=>hb x (by simp [hx])) (fun x hx=>hr x (by simp [hx])) ⟨h.1.set (by omega),fun x y hx hy hxy=>?_⟩
  rw [zls h.1 (by omega) (by omega)]at hxy
  split at hxy
  ·rename_i e
   rw [e.1,e.2]; exact hr b (by simp)
  exact h.2 x y hx hy hxy
theorem Rise.relW {n:Nat} {rk:Nat→Nat} {bs:List Int} (hb:Rm n bs):∀ {la:List Int} {M:List (List Bool)},Rm n la→(∀ a∈la,∀ b∈bs,rk a.toNat<rk b.toNat)→Rise n rk M→Rise n rk (relW M la bs)
 | [],_,_,_,h=>h
 | a::la,M,ha,hr,h=>Rise.relW hb (la:=la) (fun x hx=>ha x (by simp [hx])) (fun x hx=>hr x (by simp [hx])) (h.relB (ha a (by simp)) hb (hr a (by simp)))
theorem Rise.empty {n:Nat} {rk:Nat→Nat}:Rise n rk (zcg n):=by
 refine ⟨zex n,fun a b ha hb h=>?_⟩
 simp [zc2,zcg,ha,hb]at h
theorem Rise.ord {g:List (List Int)} {nh nw n:Nat} {r0 r1:Nat→Nat} (hrm:zvf g nh nw n) (h0:∀ w,zts g nh nw w→w.level=false→∀ a∈(za6 g w).1,∀ b∈(za6 g w).2,r0 a.toNat<r0 b.toNat)
  (h1:∀ w,zts g nh nw w→w.level=true→∀ a∈(za6 g w).1,∀ b∈(za6 g w).2,r1 a.toNat<r1 b.toNat):∀ (ws:List Wall),(∀ w∈ws,zts g nh nw w)→∀ {M:List (List Bool) × List (List Bool)},Rise n r0 M.1→Rise n r1 M.2 →
  Rise n r0 (ws.foldl (zmt g) M).1∧Rise n r1 (ws.foldl (zmt g) M).2
 | [],_,_,k0,k1=>⟨k0,k1⟩
 | w::ws,hws,M,k0,k1=>by
  have hw:=hws w (by simp)
  obtain ⟨hr1,hr2⟩:=zfm hrm hw
  rw [List.foldl_cons]
  refine Rise.ord hrm h0 h1 ws (fun w hw=>hws w (by simp [hw])) ?_ ?_
  ·unfold zmt
   cases hlv:w.level with
   | false=>simpa using k0.relW hr2 hr1 (h0 w hw hlv)
   | true=>simpa using k0
  unfold zmt
  cases hlv:w.level with
  | false=>simpa using k1
  | true=>simpa using k1.relW hr2 hr1 (h1 w hw hlv)
theorem yfq {g:List (List Int)} {nh nw:Nat} {w:Wall} (hw:zts g nh nw w) {x:Int} (hx:x∈(za6 g w).1):∃ line j:Nat,w.line=line∧x=(zcp g w.level line j).1∧InL nh nw w.level line j∧zij g w.level line j=true:=by
 obtain ⟨line,fr,long,e,h1,h2⟩:=hw
 have e1:w.line.toNat=line:=by rw [e]; simp
 have e2:w.fr.toNat=fr:=by rw [e]; simp
 have e3:w.long.toNat=long:=by rw [e]; simp
 simp only[za6,e1,e2,e3]at hx
 have:=zm8.1 hx
 simp only[zbq,List.mem_map,List.mem_range]at this
 obtain ⟨j,hj,rfl⟩:=this
 have h3:=h2 (fr+j) (by omega) (by omega)
 exact ⟨line,fr+j,by rw [e],rfl,h3.1,h3.2⟩
theorem yfr {g:List (List Int)} {nh nw:Nat} {w:Wall} (hw:zts g nh nw w) {x:Int} (hx:x∈(za6 g w).2):∃ line j:Nat,w.line=line∧x=(zcp g w.level line j).2∧InL nh nw w.level line j∧zij g w.level line j=true:=by
 obtain ⟨line,fr,long,e,h1,h2⟩:=hw
 have e1:w.line.toNat=line:=by rw [e]; simp
 have e2:w.fr.toNat=fr:=by rw [e]; simp
 have e3:w.long.toNat=long:=by rw [e]; simp
 simp only[za6,e1,e2,e3]at hx
 have:=zm8.1 hx
 simp only[zbq,List.mem_map,List.mem_range]at this
 obtain ⟨j,hj,rfl⟩:=this
 have h3:=h2 (fr+j) (by omega) (by omega)
 exact ⟨line,fr+j,by rw [e],rfl,h3.1,h3.2⟩
def rkL (p:List Txt) (a:Nat):Nat:=match (rP p)[a]? with | some b=>b.col.toNat | none=>0
def rkA (p:List Txt) (a:Nat):Nat:=match (rP p)[a]? with | some b=>b.row.toNat | none=>0
theorem zf9 {p:List Txt} (hp:zbw p=true) {i j:Nat} (hi:i<p.length) (hj:j<(zao p).length):∃ b,(rP p)[(zal p i j).toNat]?=some b∧inB b i j=true∧b.Fit∧∀ k l,k<p.length→l<(zao p).length→inB b k l=true→zal p k l=zal p i j:=by
 have hN:=zc6 hp
 have hr:=hN.room hi hj
 obtain ⟨b,hb,hbm⟩:=zag (show (zal p i j).toNat<(rP p).length by omega)
 have hf:=z7e hp
 have hsm:=zce hN.hg
 obtain ⟨row0,hr0,hm0⟩:=zag hsm.1
 have hh:=zc1 hr0
 have hw6:=hsm.2.2 row0 hm0
 have hw1:=zfk hN.hg hr0
 rw [← hh]at hw6 hw1
 have hok:=(zga (g:=zcf p) hw6 hw1 p.length hsm.2.1).1
 rw [← z7n]at hok
 refine ⟨b,hb,?_,hok.2 b hbm,fun k l hk hl hkl=>?_⟩
 ·rw [hN.fill hf hb hi hj]; exact decide_eq_true (by omega)
 rw [hN.fill hf hb hk hl]at hkl
 have:=of_decide_eq_true hkl
 omega
theorem z7f {p:List Txt} (hp:zbw p=true) {w:Wall} (hw:zts (gP p) p.length (zao p).length w) (hl:w.level=false):∀ a∈(za6 (gP p) w).1,∀ b∈(za6 (gP p) w).2,rkL p a.toNat<rkL p b.toNat:=by
 intro a ha b hb
 have hN:=zc6 hp
 obtain ⟨L,j,e1,rfl,⟨h1,h2⟩,h3⟩:=yfq hw ha
 obtain ⟨L',j',e2,rfl,⟨k1,k2⟩,k3⟩:=yfr hw hb
 obtain rfl:L=L':=by omega
 simp only[hl,qF,if_false]at h2 k2
 unfold zij at k3
 simp only[hl,zcp,qF,if_false,decide_eq_true_eq]at k3 ⊢
 rw [hN.cell k2.2 (by omega),hN.cell k2.2 k2.1]at k3
 rw [hN.cell h2.2 (by omega),hN.cell k2.2 k2.1]
 obtain ⟨r1,hr1,q1,f1,-⟩:=zf9 hp h2.2 (show L - 1<(zao p).length by omega)
 obtain ⟨r2,hr2,q2,f2,c2⟩:=zf9 hp k2.2 k2.1
 unfold rkL
 rw [hr1,hr2]
 simp only
 have c3:=c2 j' (L - 1) k2.2 (by omega)
 unfold inB at q1 q2 c3
 unfold Rect.Fit at f1 f2
 simp only[qB,decide_eq_true_eq]at q1 q2 c3
 by_cases hc:r2.col<(L:Int)
 ·exact absurd (c3 (by omega)) k3
 omega
theorem z3z {p:List Txt} (hp:zbw p=true) {w:Wall} (hw:zts (gP p) p.length (zao p).length w) (hl:w.level=true):∀ a∈(za6 (gP p) w).1,∀ b∈(za6 (gP p) w).2,rkA p a.toNat<rkA p b.toNat:=by
 intro a ha b hb
 have hN:=zc6 hp
 obtain ⟨L,j,e1,rfl,⟨h1,h2⟩,h3⟩:=yfq hw ha
 obtain ⟨L',j',e2,rfl,⟨k1,k2⟩,k3⟩:=yfr hw hb
 obtain rfl:L=L':=by omega
 simp only[hl,if_true]at h2 k2
 unfold zij at k3
 simp only[hl,zcp,if_true,decide_eq_true_eq]at k3 ⊢
 rw [hN.cell (by omega) k2.2,hN.cell k2.1 k2.2]at k3
 rw [hN.cell (by omega) h2.2,hN.cell k2.1 k2.2]
 obtain ⟨r1,hr1,q1,f1,-⟩:=zf9 hp (show L - 1<p.length by omega) h2.2
 obtain ⟨r2,hr2,q2,f2,c2⟩:=zf9 hp k2.1 k2.2
 unfold rkA
 rw [hr1,hr2]
 simp only
 have c3:=c2 (L - 1) j' (by omega) k2.2
 unfold inB at q1 q2 c3
 unfold Rect.Fit at f1 f2
 simp only[qB,decide_eq_true_eq]at q1 q2 c3
 by_cases hc:r2.row<(L:Int)
 ·exact absurd (c3 (by omega)) k3
 omega
theorem yfl {p:List Txt} (hp:zbw p=true) (b:Nat):rkL p b≤100∧rkA p b≤100:=by
 have hN:=zc6 hp
 have hsm:=zce hN.hg
 obtain ⟨row0,hr0,hm0⟩:=zag hsm.1
 have hh:=zc1 hr0
 have hw6:=hsm.2.2 row0 hm0
 have hw1:=zfk hN.hg hr0
 rw [← hh]at hw6 hw1
 have hok:=(zga (g:=zcf p) hw6 hw1 p.length hsm.2.1).1
 rw [← z7n]at hok
 unfold rkL rkA
 cases hb:(rP p)[b]? with
 | none=>simp
 | some r =>
  have:=hok.2 r (List.mem_of_getElem? hb)
  unfold Rect.Fit at this
  simp only
  omega
theorem ydl {p:List Txt} (hp:zbw p=true):Up (zwm (gP p) p.length (zao p).length (rP p).length) (rP p).length (rkL p)∧Up (znn (gP p) p.length (zao p).length (rP p).length) (rP p).length (rkA p):=by
 have h:=Rise.ord (r0:=rkL p) (r1:=rkA p) (zft (p:=p)) (fun w hw hl=>z7f hp hw hl) (fun w hw hl=>z3z hp hw hl) (zcx (gP p) p.length (zao p).length) zdz (M:=(zcg (rP p).length,zcg (rP p).length)) Rise.empty Rise.empty
 have h0:=h.1.close
 have h1:=h.2.close
 exact ⟨⟨h0.1,h0.2,fun b=>(yfl hp b).1⟩,⟨h1.1,h1.2,fun b=>(yfl hp b).2⟩⟩
theorem zuj {p:List Txt} (hp:zds p=true):zvf (gP p) p.length (w0 (zcf p)) (rP p).length∧(∃ rk,Up (zwm (gP p) p.length (w0 (zcf p)) (rP p).length) (rP p).length rk)∧∃ rk,Up (znn (gP p) p.length (w0 (zcf p)) (rP p).length) (rP p).length rk:=by
 rw [ze8]at hp
 have h:=ydl (zdw hp)
 rw [zh3]
 exact ⟨zft,⟨_,h.1⟩,⟨_,h.2⟩⟩
section
open Go Go.ChangeShapes Go.WideShapes Go.ChangeAt Go.RowKit
set_option maxRecDepth 100000 in
theorem yan {W:World} {base:Nat} {t e:TypeId} {a:Addr} {len cap:Nat} (ht:Tryz.prog.underlying t=some (.slice e)) (hval:Value.okWide Tryz.prog W .any base t (.slice (some a) len cap)):a.spot=none∧a.block<W.heap.size:=by
 simp only[Value.okWide,ht,Cell.okWide,Cell.ok]at hval
 obtain ⟨-,-,-,hsp,row,cells,hsh,-⟩:=hval
 refine ⟨hsp,?_⟩
 unfold World.shape? at hsh
 rcases Nat.lt_or_ge a.block W.heap.size with h | h
 ·exact h
 rw [Array.getElem?_eq_none h]at hsh; cases hsh
end
section
open Go Go.ChangeShapes Go.WideShapes Go.ChangeAt Go.RowKit
set_option maxRecDepth 100000 in
theorem yax {H:Type} {enc:TypeId × Value→H} {W:World} {base:Nat} {v:Value} {d:DataW H} {ps:List MemPlace} (hval:Value.okWide Tryz.prog W .any base 29 v) (h:DataW.Trod enc Tryz.prog W 0 (fun _=>true) true 29 v d ps) :
  ∃ p:Txt,VI W.heap (fun b=>b<W.heap.size) (.sl (p.map eB) p.length) v∧p.length≤9223372036854775807:=by
 obtain ⟨a0,len,cap,rfl⟩:=okWide_slice Tryz.underlying29 hval
 obtain ⟨fuel,hf⟩:=h
 rcases open_ints Tryz.underlying29 Tryz.underlying5 (by kernel_rfl) hf with ⟨hcs,hx⟩ | ⟨a,len',cap',zs,hcs,-,hl,hm,hz,hx,hcell,hwf⟩
 ·simp [Value.cells]at hcs
  obtain ⟨rfl,rfl,rfl⟩:=hcs
  exact ⟨[],.sl0,by simp⟩
 simp [Value.cells]at hcs
 obtain ⟨rfl,rfl,rfl⟩:=hcs
 obtain ⟨hsp,hlt⟩:=yan Tryz.underlying29 hval
 obtain ⟨b,off,spot⟩:=a
 simp only at hsp hlt
 subst hsp
 simp only[if_true]at hz
 have hml:maxLen≤9223372036854775807:=by decide
 have hlen:((zs.take len).map fun n:Int=>UInt8.ofNat n.toNat).length=len:=by simp; omega
 have hget:∀ (i:Nat) c,((zs.take len).map fun n:Int=>UInt8.ofNat n.toNat)[i]?=some c→i<len∧(c.toNat:Int)=zs.getD i 0:=by
  intro i c hc
  rw [List.getElem?_map,qI]at hc
  obtain ⟨z,hz1,rfl⟩:=hc
  have hi:=zb0 hz1
  simp only[List.length_take]at hi
  rw [List.getElem?_take_of_lt (by omega)]at hz1
  refine ⟨by omega,?_⟩
  rw [List.getD_eq_getElem?_getD,hz1,Option.getD_some]
  have hw:=hwf z (List.mem_of_getElem? hz1)
  have hz8:0≤z∧z<256:=by
   have e:IntKind.u8.min≤z∧z≤IntKind.u8.max:=by simpa [Lit.wf] using hw
   have e1:IntKind.u8.min=0:=by decide
   have e2:IntKind.u8.max=255:=by decide
   omega
  have e3:(UInt8.ofNat z.toNat).toNat=z.toNat % 256:=rfl
  rw [e3]
  omega
 refine ⟨(zs.take len).map fun n:Int=>UInt8.ofNat n.toNat,?_,by rw [hlen]; omega⟩
 rw [hlen]
 refine .sl _ _ b off cap (fun i => .int .u8 (zs.getD i 0)) (fun _=>hlt) hl (fun i q hq=>?_) (fun i q hq=>?_)
 ·rw [List.getElem?_map,qI]at hq
  obtain ⟨c,hc,rfl⟩:=hq
  obtain ⟨hi,-⟩:=hget i c hc
  refine ⟨rfl,?_⟩
  rw [← zgs]
  have:=hcell i (by omega)
  rwa [add_lit]at this
 rw [List.getElem?_map,qI]at hq
 obtain ⟨c,hc,rfl⟩:=hq
 obtain ⟨-,e⟩:=hget i c hc
 show VI _ _ (.int .u8 (c.toNat:Int)) _
 rw [e]
 exact .int _ _
end
structure Pt where
 r:Nat
 c:Nat
 h:Nat
 w:Nat
 deriving DecidableEq
def Pt.In (t:Pt) (H W:Nat):Prop:=1≤t.h∧1≤t.w∧t.r+t.h≤H∧t.c+t.w≤W
def z81 (f:Nat→Bool):Nat→Option Nat
 | 0=>none
 | k+1=>(z81 f k).or (if decide (1≤k) && f k then some k else none)
theorem zh5 {f:Nat→Bool}:∀ {n:Nat},z81 f n=none↔∀ k,1≤k→k<n→f k=false
 | 0=>by simp [z81]
 | n+1=>by
  simp only[z81,Option.or_eq_none_iff,zh5 (n:=n)]
  constructor
  ·rintro ⟨h1,h2⟩ k hk hn
   by_cases e:k=n
   ·subst e; cases hf:f k with
    | false=>rfl
    | true=>rw [hf]at h2; simp at h2; omega
   exact h1 k hk (by omega)
  intro h
  refine ⟨fun k hk hn=>h k hk (by omega),?_⟩
  by_cases hn:1≤n
  ·simp [h n hn (by omega)]
  simp [hn]
theorem zfg {f:Nat→Bool} {k:Nat}:∀ {n:Nat},z81 f n=some k↔1≤k∧k<n∧f k=true∧∀ j,1≤j→j<k→f j=false
 | 0=>by simp [z81]
 | n+1=>by
  simp only[z81]
  cases h:z81 f n with
  | some m =>
   have hm:=(zfg (n:=n)).1 h
   simp only[Option.some_or,Option.some.injEq]
   constructor
   ·rintro rfl; exact ⟨hm.1,by omega,hm.2.2.1,hm.2.2.2⟩
   rintro ⟨h1,h2,h3,h4⟩
   rcases Nat.lt_trichotomy m k with e | e | e
   ·have:=h4 m hm.1 e; rw [hm.2.2.1]at this; cases this
   ·exact e
   have:=hm.2.2.2 k h1 e; rw [h3]at this; cases this
  | none =>
   have hn:=zh5.1 h
   simp only[Option.none_or]
   constructor
   ·intro e
    split at e
    ·rename_i hc
     cases e
     simp only[qB,decide_eq_true_eq]at hc
     exact ⟨hc.1,by omega,hc.2,hn⟩
    cases e
   rintro ⟨h1,h2,h3,h4⟩
   by_cases e:k=n
   ·subst e; simp [h1,h3]
   have:=hn k h1 (by omega); rw [h3]at this; cases this
def thU (z:Nat→Nat→Int) (t:Pt) (k:Nat):Bool:=(List.range t.h).all fun i=>decide (z (t.r+i) (t.c+k - 1)≠z (t.r+i) (t.c+k))
def thL (z:Nat→Nat→Int) (t:Pt) (k:Nat):Bool:=(List.range t.w).all fun j=>decide (z (t.r+k - 1) (t.c+j)≠z (t.r+k) (t.c+j))
theorem zu4 {z:Nat→Nat→Int} {t:Pt} {k:Nat}:thU z t k=true↔∀ i,i<t.h→z (t.r+i) (t.c+k - 1)≠z (t.r+i) (t.c+k):=by simp [thU]
theorem zu3 {z:Nat→Nat→Int} {t:Pt} {k:Nat}:thL z t k=true↔∀ j,j<t.w→z (t.r+k - 1) (t.c+j)≠z (t.r+k) (t.c+j):=by simp [thL]
def zeb (z:Nat→Nat→Int) (t:Pt):Option (Bool × Nat) :=
 match z81 (thU z t) t.w with
 | some k=>some (false,k)
 | none=>match z81 (thL z t) t.h with
  | some k=>some (true,k)
  | none=>none
def Pt.one (t:Pt) (q:Bool × Nat):Pt:=if q.1 then ⟨t.r,t.c,q.2,t.w⟩ else ⟨t.r,t.c,t.h,q.2⟩
def Pt.two (t:Pt) (q:Bool × Nat):Pt:=if q.1 then ⟨t.r+q.2,t.c,t.h - q.2,t.w⟩ else ⟨t.r,t.c+q.2,t.h,t.w - q.2⟩
theorem zgz {z:Nat→Nat→Int} {t:Pt} {q:Bool × Nat} (h:zeb z t=some q):1≤q.2∧if q.1 then q.2<t.h∧thL z t q.2=true else q.2<t.w∧thU z t q.2=true:=by
 unfold zeb at h
 split at h
 ·rename_i k hk; cases h; have:=zfg.1 hk; exact ⟨this.1,by simp [this.2.1,this.2.2.1]⟩
 split at h
 ·rename_i k hk; cases h; have:=zfg.1 hk; exact ⟨this.1,by simp [this.2.1,this.2.2.1]⟩
 cases h
theorem zr3 {z:Nat→Nat→Int} {t:Pt}:zeb z t=none↔(∀ k,1≤k→k<t.w→thU z t k=false)∧∀ k,1≤k→k<t.h→thL z t k=false:=by
 unfold zeb
 split
 ·rename_i k hk
  have:=zfg.1 hk
  constructor
  ·intro h; cases h
  rintro ⟨h,_⟩; rw [h k this.1 this.2.1]at this; simp at this
 rename_i hn
 split
 ·rename_i k hk
  have:=zfg.1 hk
  constructor
  ·intro h; cases h
  rintro ⟨_,h⟩; rw [h k this.1 this.2.1]at this; simp at this
 rename_i hn2
 exact ⟨fun _=>⟨zh5.1 hn,zh5.1 hn2⟩,fun _=>rfl⟩
theorem Pt.In.cut {t:Pt} {H W:Nat} (h:t.In H W) {z:Nat→Nat→Int} {q:Bool × Nat} (hq:zeb z t=some q):(t.one q).In H W∧(t.two q).In H W ∧
  (t.one q).h*(t.one q).w<t.h*t.w∧(t.two q).h*(t.two q).w<t.h*t.w:=by
 obtain ⟨h1,h2⟩:=zgz hq
 obtain ⟨a,b,c,d⟩:=h
 obtain ⟨lv,k⟩:=q
 simp only at h1 h2
 cases lv with
 | true =>
  simp only[if_true]at h2
  simp only[Pt.one,Pt.two,if_true,Pt.In]
  refine ⟨⟨h1,b,by omega,d⟩,⟨by omega,b,by omega,d⟩,Nat.mul_lt_mul_of_pos_right h2.1 b,Nat.mul_lt_mul_of_pos_right (by omega) b⟩
 | false =>
  simp only[qF,if_false]at h2
  simp only[Pt.one,Pt.two,qF,if_false,Pt.In]
  refine ⟨⟨a,h1,c,by omega⟩,⟨a,by omega,c,by omega⟩,Nat.mul_lt_mul_of_pos_left h2.1 a,Nat.mul_lt_mul_of_pos_left (by omega) a⟩
def zww (z:Nat→Nat→Int) (t:Pt):Bool:=(List.range t.h).all fun i=>(List.range t.w).all fun j=>decide (z (t.r+i) (t.c+j)=z t.r t.c)
theorem zoy {z:Nat→Nat→Int} {t:Pt}:zww z t=true↔∀ i j,i<t.h→j<t.w→z (t.r+i) (t.c+j)=z t.r t.c:=by
 simp only[zww,List.all_eq_true,List.mem_range,decide_eq_true_eq]
 exact ⟨fun h i j hi hj=>h i hi j hj,fun h i hi j hj=>h i j hi hj⟩
inductive CT where
 | leaf (a:Int)
 | node (lv:Bool) (x y:CT)
def tree (z:Nat→Nat→Int):Nat→Pt→Option CT
 | 0,_=>none
 | f+1,t=>if zww z t then some (.leaf (z t.r t.c)) else
  match zeb z t with
  | none=>none
  | some q=>match tree z f (t.one q),tree z f (t.two q) with
   | some x,some y=>some (.node q.1 x y)
   | _,_=>none
theorem zmp {z:Nat→Nat→Int} {H W:Nat}:∀ (n:Nat) {t:Pt} {f g:Nat},t.In H W→t.h*t.w≤n→t.h*t.w≤f→t.h*t.w≤g→tree z f t=tree z g t
 | 0,t,f,g,hi,hn,_,_=>by have:=Nat.mul_pos hi.1 hi.2.1; omega
 | n+1,t,f,g,hi,hn,hf,hg=>by
  have:=Nat.mul_pos hi.1 hi.2.1
  obtain ⟨f,rfl⟩:∃ f',f=f'+1:=⟨f - 1,by omega⟩
  obtain ⟨g,rfl⟩:∃ g',g=g'+1:=⟨g - 1,by omega⟩
  simp only[tree]
  split
  ·rfl
  cases hc:zeb z t with
  | none=>rfl
  | some q =>
   obtain ⟨i1,i2,a1,a2⟩:=hi.cut hc
   simp only
   rw [zmp n i1 (f:=f) (g:=g) (by omega) (by omega) (by omega),zmp n i2 (f:=f) (g:=g) (by omega) (by omega) (by omega)]
def CT.fold {α:Type} (room:Int→α) (cut:Bool→α→α→α):CT→α
 | .leaf a=>room a
 | .node lv x y=>cut lv (x.fold room cut) (y.fold room cut)
structure Whole (z:Nat→Nat→Int) (H W:Nat) (t:Pt):Prop where
 inn:t.In H W
 all:∀ i j i' j',i<H→j<W→i'<H→j'<W→z i j=z i' j'→t.r≤i→i<t.r+t.h→t.c≤j→j<t.c+t.w→t.r≤i'∧i'<t.r+t.h∧t.c≤j'∧j'<t.c+t.w
def yce (z:Nat→Nat→Int) (H W:Nat):Prop:=∀ {i j i' j':Nat} (k l:Nat),i<H→i'<H→j<W→j'<W→z i j=z i' j'→min i i'≤k→k≤max i i'→min j j'≤l→l≤max j j'→z k l=z i j
theorem Whole.cut {z:Nat→Nat→Int} {H W:Nat} (hz:yce z H W) {t:Pt} (h:Whole z H W t) {q:Bool × Nat} (hq:zeb z t=some q):Whole z H W (t.one q)∧Whole z H W (t.two q):=by
 obtain ⟨i1,i2,_,_⟩:=h.inn.cut hq
 obtain ⟨c1,c2⟩:=zgz hq
 obtain ⟨lv,k⟩:=q
 have hin:=h.inn
 unfold Pt.In at hin
 cases lv with
 | true =>
  simp only[if_true]at c2
  have hth:=zu3.1 c2.2
  have key:∀ i j i' j',i<H→j<W→i'<H→j'<W→z i j=z i' j'→t.r≤i→i<t.r+k→t.c≤j→j<t.c+t.w→t.r+k≤i'→i'<t.r+t.h→t.c≤j'→j'<t.c+t.w→False:=by
   intro i j i' j' a b c d e f1 f2 f3 f4 g1 g2 g3 g4
   have e1:=hz (t.r+k - 1) j a c b d e (by omega) (by omega) (by omega) (by omega)
   have e2:=hz (t.r+k) j a c b d e (by omega) (by omega) (by omega) (by omega)
   have:=hth (j - t.c) (by omega)
   rw [show t.c+(j - t.c)=j by omega]at this
   exact this (e1.trans e2.symm)
  refine ⟨⟨i1,?_⟩,⟨i2,?_⟩⟩
  ·simp only[Pt.one,if_true]
   intro i j i' j' a b c d e f1 f2 f3 f4
   obtain ⟨g1,g2,g3,g4⟩:=h.all i j i' j' a b c d e f1 (by omega) f3 f4
   refine ⟨g1,?_,g3,g4⟩
   rcases Nat.lt_or_ge i' (t.r+k) with h1 | h1
   ·exact h1
   exact (key i j i' j' a b c d e f1 f2 f3 f4 h1 g2 g3 g4).elim
  simp only[Pt.two,if_true]
  intro i j i' j' a b c d e f1 f2 f3 f4
  obtain ⟨g1,g2,g3,g4⟩:=h.all i j i' j' a b c d e (by omega) (by omega) f3 f4
  refine ⟨?_,by omega,g3,g4⟩
  rcases Nat.lt_or_ge i' (t.r+k) with h1 | h1
  ·exact (key i' j' i j c d a b e.symm g1 h1 g3 g4 f1 (by omega) f3 f4).elim
  exact h1
 | false =>
  simp only[qF,if_false]at c2
  have hth:=zu4.1 c2.2
  have key:∀ i j i' j',i<H→j<W→i'<H→j'<W→z i j=z i' j'→t.r≤i→i<t.r+t.h→t.c≤j→j<t.c+k→t.r≤i'→i'<t.r+t.h→t.c+k≤j'→j'<t.c+t.w→False:=by
   intro i j i' j' a b c d e f1 f2 f3 f4 g1 g2 g3 g4
   have e1:=hz i (t.c+k - 1) a c b d e (by omega) (by omega) (by omega) (by omega)
   have e2:=hz i (t.c+k) a c b d e (by omega) (by omega) (by omega) (by omega)
   have:=hth (i - t.r) (by omega)
   rw [show t.r+(i - t.r)=i by omega]at this
   exact this (e1.trans e2.symm)
  refine ⟨⟨i1,?_⟩,⟨i2,?_⟩⟩
  ·simp only[Pt.one,qF,if_false]
   intro i j i' j' a b c d e f1 f2 f3 f4
   obtain ⟨g1,g2,g3,g4⟩:=h.all i j i' j' a b c d e f1 f2 f3 (by omega)
   refine ⟨g1,g2,g3,?_⟩
   rcases Nat.lt_or_ge j' (t.c+k) with h1 | h1
   ·exact h1
   exact (key i j i' j' a b c d e f1 f2 f3 f4 g1 g2 h1 g4).elim
  simp only[Pt.two,qF,if_false]
  intro i j i' j' a b c d e f1 f2 f3 f4
  obtain ⟨g1,g2,g3,g4⟩:=h.all i j i' j' a b c d e f1 f2 (by omega) (by omega)
  refine ⟨g1,g2,?_,by omega⟩
  rcases Nat.lt_or_ge j' (t.c+k) with h1 | h1
  ·exact (key i' j' i j c d a b e.symm g1 g2 g3 h1 f1 f2 f3 (by omega)).elim
  exact h1
section
def yfu (t:Pt) (row:Txt):Txt:=(row.drop t.c).take t.w
def sub (p:List Txt) (t:Pt):List Txt:=((p.drop t.r).take t.h).map (yfu t)
section
variable {p:List Txt} {t:Pt}
end
end
section
structure Pl (c:Nat→Nat→Nat) (H W:Nat):Prop where
 rect:∀ {i j i' j':Nat} (k l:Nat),i<H→i'<H→j<W→j'<W→c i j=c i' j'→min i i'≤k→k≤max i i'→min j j'≤l→l≤max j j'→c k l=c i j
 plain:∀ {i j:Nat},i+1<H→j+1<W→c i j≠c i (j+1)→c (i+1) j≠c (i+1) (j+1)→c i j≠c (i+1) j→c i (j+1)=c (i+1) (j+1)
def DL (c:Nat→Nat→Nat) (H W a b:Nat):Prop:=∃ j i1 i2,j+1<W∧i1<H∧i2<H∧(∀ r,min i1 i2≤r→r≤max i1 i2→c r j≠c r (j+1))∧a=c i1 j∧b=c i2 (j+1)
def DU (c:Nat→Nat→Nat) (H W a b:Nat):Prop:=∃ i j1 j2,i+1<H∧j1<W∧j2<W∧(∀ k,min j1 j2≤k→k≤max j1 j2→c i k≠c (i+1) k)∧a=c i j1∧b=c (i+1) j2
theorem zlu {P:Nat→Prop}:∀ {n:Nat},P n→∃ m,m≤n∧P m∧∀ k,k<m→¬ P k:=by
 intro n
 induction n using Nat.strongRecOn with
 | _ n ih =>
  intro h
  by_cases c:∃ k,k<n∧P k
  ·obtain ⟨k,hk,hp⟩:=c
   obtain ⟨m,h1,h2,h3⟩:=ih k hk hp
   exact ⟨m,by omega,h2,h3⟩
  exact ⟨n,qR _,h,fun k hk hp=>c ⟨k,hk,hp⟩⟩
theorem zy3 {P:Nat→Prop} {i:Nat}:∀ {n:Nat},i≤n→P i→¬ P n→∃ e,i≤e∧e+1≤n∧P e∧¬ P (e+1)
 | 0,h,h1,h2=>by
    obtain rfl:i=0:=by omega
    exact absurd h1 h2
 | n+1,h,h1,h2=>by
  by_cases c:P n
  ·by_cases e:i=n+1
   ·subst e; exact absurd h1 h2
   exact ⟨n,by omega,qR _,c,h2⟩
  by_cases e:i=n+1
  ·subst e; exact absurd h1 h2
  obtain ⟨m,k1,k2,k3⟩:=zy3 (P:=P) (i:=i) (n:=n) (by omega) h1 c
  exact ⟨m,k1,by omega,k3⟩
section
variable {c:Nat→Nat→Nat} {H W:Nat}
def Stair (c:Nat→Nat→Nat) (H W:Nat) (Z:Nat→Prop):Prop:=∀ {i j:Nat} (i' j':Nat),i<H→j<W→i'≤i→j'≤j→Z (c i j)→Z (c i' j')
def Free (c:Nat→Nat→Nat) (H W:Nat) (Z:Nat→Prop):Prop:=∃ i j,i<H∧j<W∧¬ Z (c i j)∧(∀ a,DL c H W a (c i j)∨DU c H W a (c i j)→Z a)∧Stair c H W fun x=>Z x∨x=c i j
theorem z5u (h:Pl c H W) {Z:Nat→Prop} (hZ:Stair c H W Z) {i j:Nat} (hi:i<H) (hj:j<W) (hn:¬ Z (c i j)) (hu:∀ i',i'+1=i→Z (c i' j)) (hl:∀ j',j'+1=j→Z (c i j'))
  (hN:∀ i',i'+1=i→∀ k,j≤k→k<W→(∀ l,j≤l→l≤k→c i' l≠c i l)→Z (c i' k))
  (hA:∀ j',j'+1=j→∀ k,i≤k→k<H→(∀ r,i≤r→r≤k→c r j'≠c r j)→Z (c k j')):Free c H W Z:=by
 have up:∀ {i2 j2:Nat},i2<H→j2<W→c i2 j2=c i j→i≤i2:=by
  intro i2 j2 h1 h2 h3
  by_cases q:i≤i2
  ·exact q
  have h4:=hu (i - 1) (by omega)
  rw [h.rect (i - 1) j h1 hi h2 hj h3 (by omega) (by omega) (by omega) (by omega),h3]at h4
  exact absurd h4 hn
 have lf:∀ {i2 j2:Nat},i2<H→j2<W→c i2 j2=c i j→j≤j2:=by
  intro i2 j2 h1 h2 h3
  by_cases q:j≤j2
  ·exact q
  have h4:=hl (j - 1) (by omega)
  rw [h.rect i (j - 1) h1 hi h2 hj h3 (by omega) (by omega) (by omega) (by omega),h3]at h4
  exact absurd h4 hn
 have runL:∀ {i2 j2 r j':Nat},i2<H→j2<W→c i2 j2=c i j→j'+1=j→i≤r→r≤i2→c r j'≠c r j:=by
  intro i2 j2 r j' h1 h2 h3 h4 h5 h6 h7
  have h8:=lf h1 h2 h3
  have e1:c r j=c i j:=by
   rw [h.rect r j h1 hi h2 hj h3 (by omega) (by omega) (by omega) (by omega),h3]
  have h9:=lf (i2:=r) (j2:=j') (by omega) (by omega) (by rw [h7,e1])
  omega
 have runU:∀ {i2 j2 l i':Nat},i2<H→j2<W→c i2 j2=c i j→i'+1=i→j≤l→l≤j2→c i' l≠c i l:=by
  intro i2 j2 l i' h1 h2 h3 h4 h5 h6 h7
  have h8:=up h1 h2 h3
  have e1:c i l=c i j:=by
   rw [h.rect i l h1 hi h2 hj h3 (by omega) (by omega) (by omega) (by omega),h3]
  have h9:=up (i2:=i') (j2:=l) (by omega) (by omega) (by rw [h7,e1])
  omega
 refine ⟨i,j,hi,hj,hn,?_,?_⟩
 ·rintro a (⟨j0,i1,i2,k1,k2,k3,run,rfl,k4⟩ | ⟨i0,j1,j2,k1,k2,k3,run,rfl,k4⟩)
  ·have h1:=lf k3 k1 k4.symm
   have e:j0+1=j:=by
    by_cases q:j0+1=j
    ·exact q
    have:=h.rect i2 j0 k3 hi k1 hj k4.symm (by omega) (by omega) (by omega) (by omega)
    exact absurd this (run i2 (by omega) (by omega))
   subst e
   have h2:=up k3 k1 k4.symm
   by_cases q:i1<i
   ·exact hZ i1 j0 hi (by omega) (by omega) (qR _) (hl j0 rfl)
   refine hA j0 rfl i1 (by omega) k2 fun r r1 r2=>?_
   by_cases q2:min i1 i2≤r
   ·exact run r q2 (by omega)
   exact runL k3 k1 k4.symm rfl r1 (by omega)
  have h1:=up k1 k3 k4.symm
  have e:i0+1=i:=by
   by_cases q:i0+1=i
   ·exact q
   have:=h.rect i0 j2 k1 hi k3 hj k4.symm (by omega) (by omega) (by omega) (by omega)
   exact absurd this (run j2 (by omega) (by omega))
  subst e
  have h2:=lf k1 k3 k4.symm
  by_cases q:j1<j
  ·exact hZ i0 j1 (by omega) hj (qR _) (by omega) (hu i0 rfl)
  refine hN i0 rfl j1 (by omega) k2 fun r r1 r2=>?_
  by_cases q2:min j1 j2≤r
  ·exact run r q2 (by omega)
  exact runU k1 k3 k4.symm rfl r1 (by omega)
 intro i2 k2 i' j' h1 h2 h3 h4 h5
 rcases h5 with h5 | h5
 ·exact .inl (hZ i' j' h1 h2 h3 h4 h5)
 have q1:=up h1 h2 h5
 have q2:=lf h1 h2 h5
 by_cases q3:i'<i
 ·left
  refine hZ i' j' (show i - 1<H by omega) h2 (by omega) h4 (hN (i - 1) (by omega) k2 q2 h2 fun l l1 l2=>runU h1 h2 h5 (by omega) l1 l2)
 by_cases q4:j'<j
 ·left
  exact hZ i' j' h1 (show j - 1<W by omega) h3 (by omega) (hA (j - 1) (by omega) i2 q1 h1 fun r r1 r2=>runL h1 h2 h5 (by omega) r1 r2)
 right
 rw [h.rect i' j' h1 hi h2 hj h5 (by omega) (by omega) (by omega) (by omega),h5]
theorem z5t (h:Pl c H W) {Z:Nat→Prop} (hZ:Stair c H W Z):∀ (j i:Nat),i<H→j<W→¬ Z (c i j)→(∀ i',i'+1=i→Z (c i' j))→(∀ j',j'+1=j→Z (c i j')) →
  (∀ i',i'+1=i→∀ k,j≤k→k<W→(∀ l,j≤l→l≤k→c i' l≠c i l)→Z (c i' k))→Free c H W Z:=by
 intro j
 induction j using Nat.strongRecOn with
 | _ j ih =>
  intro i hi hj hn hu hl hN
  by_cases hA:∀ j',j'+1=j→∀ k,i≤k→k<H→(∀ r,i≤r→r≤k→c r j'≠c r j)→Z (c k j')
  ·exact z5u h hZ hi hj hn hu hl hN hA
  simp only[Classical.not_forall]at hA
  obtain ⟨j',rfl,k,h1,h2,run,h3⟩:=hA
  obtain ⟨e,e1,e2,e3,e4⟩:=zy3 (P:=fun r=>Z (c r j')) h1 (hl j' rfl) h3
  obtain ⟨m,m1,m2,m3⟩:=zlu (P:=fun l=>¬ Z (c (e+1) l)) e4
  refine ih m (by omega) (e+1) (by omega) (by omega) m2 ?_ ?_ ?_
  ·intro i' hi'
   obtain rfl:i'=e:=by omega
   exact hZ i' m (by omega) (by omega) (qR _) m1 e3
  ·intro l hl'
   exact Classical.not_not.1 (m3 l (by omega))
  intro i' hi' k2 k3 k4 k5
  obtain rfl:i'=e:=by omega
  by_cases q:k2≤j'
  ·exact hZ i' k2 (by omega) (by omega) (qR _) q e3
  have q1:=k5 (j'+1) (by omega) (by omega)
  have q2:=h.plain (i:=i') (j:=j') (by omega) hj (run i' (by omega) (by omega)) (run (i'+1) (by omega) (by omega)) (fun q3=>e4 (by rw [← q3]; exact e3))
  exact absurd q2 q1
theorem ycu (h:Pl c H W) {Z:Nat→Prop} (hZ:Stair c H W Z) (hx:∃ i j,i<H∧j<W∧¬ Z (c i j)):Free c H W Z:=by
 obtain ⟨i,hx⟩:=hx
 obtain ⟨i,-,⟨j,h1,h2,h3⟩,h4⟩:=zlu (P:=fun i=>∃ j,i<H∧j<W∧¬ Z (c i j)) hx
 obtain ⟨j,j1,j2,j3⟩:=zlu (P:=fun j=>¬ Z (c i j)) h3
 have all:∀ i',i'+1=i→∀ k,k<W→Z (c i' k):=fun i' e k hk=>Classical.byContradiction fun q=>h4 i' (by omega) ⟨k,by omega,hk,q⟩
 exact z5t h hZ j i h1 (by omega) j2 (fun i' e=>all i' e j (by omega)) (fun j' e=>Classical.not_not.1 (j3 j' (by omega))) (fun i' e k _ hk _=>all i' e k hk)
theorem z3t (h:Pl c H W) {n:Nat} (hc:∀ i j,i<H→j<W→c i j<n):∀ (m:Nat) (Z:Nat→Bool),Stair c H W (fun x=>Z x=true)→(List.range n).countP (fun x => !Z x)≤m→∃ f:Nat→Nat,∀ a b,Z a=false→Z b=false→DL c H W a b∨DU c H W a b→f a<f b:=by
 have cell:∀ {a b:Nat},DL c H W a b∨DU c H W a b→∃ i j,i<H∧j<W∧a=c i j:=by
  rintro a b (⟨j0,i1,i2,k1,k2,k3,run,rfl,k4⟩ | ⟨i0,j1,j2,k1,k2,k3,run,rfl,k4⟩)
  ·exact ⟨i1,j0,k2,by omega,rfl⟩
  exact ⟨i0,j1,by omega,k2,rfl⟩
 intro m
 induction m with
 | zero =>
  intro Z hZ hm
  refine ⟨fun _=>0,fun a b ha hb hd=>?_⟩
  obtain ⟨i,j,hi,hj,rfl⟩:=cell hd
  have h0:(List.range n).countP (fun x => !Z x)=0:=by omega
  rw [List.countP_eq_zero]at h0
  exact absurd (show (!Z (c i j))=true by rw [ha]; rfl) (h0 _ (by simpa using hc i j hi hj))
 | succ m ih =>
  intro Z hZ hm
  by_cases hx:∃ i j,i<H∧j<W∧¬ (Z (c i j)=true)
  ·obtain ⟨i,j,hi,hj,hn,hp,hs⟩:=ycu h (Z:=fun x=>Z x=true) hZ hx
   have hZ':Stair c H W (fun x=>(Z x || x == c i j)=true):=by
    intro i1 j1 i' j' h1 h2 h3 h4 h5
    have h6:=hs i' j' h1 h2 h3 h4 (by simpa using h5)
    simpa using h6
   have hlt:(List.range n).countP (fun x => !(Z x || x == c i j))<(List.range n).countP (fun x => !Z x):=by
    refine zop (fun x _ hx=>?_) ⟨c i j,by simpa using hc i j hi hj,by simpa using hn,by simp⟩
    cases hz:Z x with
    | false=>rfl
    | true=>rw [hz]at hx; simp at hx
   obtain ⟨f,hf⟩:=ih (fun x=>Z x || x == c i j) hZ' (by omega)
   refine ⟨fun x=>if x=c i j then 0 else f x+1,fun a b ha hb hd=>?_⟩
   have hbA:b≠c i j:=by
    rintro rfl
    have q:Z a=true:=hp a hd
    rw [ha]at q; cases q
   simp only[if_neg hbA]
   by_cases haA:a=c i j
   ·simp only[if_pos haA]; omega
   simp only[if_neg haA]
   have:=hf a b (by simp [ha,haA]) (by simp [hb,hbA]) hd
   omega
  refine ⟨fun _=>0,fun a b ha hb hd=>?_⟩
  obtain ⟨i,j,hi,hj,rfl⟩:=cell hd
  exact absurd ⟨i,j,hi,hj,by rw [ha]; exact Bool.false_ne_true⟩ hx
theorem z1n (h:Pl c H W) {n:Nat} (hc:∀ i j,i<H→j<W→c i j<n):∃ f:Nat→Nat,∀ a b,DL c H W a b∨DU c H W a b→f a<f b:=by
 obtain ⟨f,hf⟩:=z3t h hc _ (fun _=>false) (fun _ _ _ _ _ _ h=>h) (qR _)
 exact ⟨f,fun a b hd=>hf a b rfl rfl hd⟩
def fl (c:Nat→Nat→Nat) (H i j:Nat):Nat:=c (H - 1 - i) j
def tr (c:Nat→Nat→Nat) (i j:Nat):Nat:=c j i
theorem Pl.dn (h:Pl c H W):Pl (fl c H) H W:=by
 refine ⟨fun k l h1 h2 h3 h4 h5 h6 h7 h8 h9=>?_,fun {i j} h1 h2 h3 h4 h5=>?_⟩
 ·exact h.rect _ _ (by omega) (by omega) h3 h4 h5 (by omega) (by omega) h8 h9
 unfold Fw.fl at *
 obtain ⟨k,rfl⟩:∃ k,H=i+2+k:=⟨H - (i+2),by omega⟩
 rw [show i+2+k - 1 - i=k+1 by omega,show i+2+k - 1 - (i+1)=k by omega] at *
 exact (h.plain (i:=k) (j:=j) (by omega) h2 h4 h3 (Ne.symm h5)).symm
theorem Pl.ex (h:Pl c H W):Pl (tr c) W H :=
 ⟨fun k l h1 h2 h3 h4 h5 h6 h7 h8 h9=>h.rect l k h3 h4 h1 h2 h5 h8 h9 h6 h7,fun {i j} h1 h2 h3 h4 h5=>by
  unfold Fw.tr at *
  by_cases q:c j i=c j (i+1)
  ·exact absurd q h5
  by_cases q2:c (j+1) i=c (j+1) (i+1)
  ·exact q2
  exact absurd (h.plain (i:=j) (j:=i) h2 h1 h5 q2 h3) h4⟩
theorem DL.ex {a b:Nat} (h:DL (tr c) W H a b):DU c H W a b:=h
theorem DU.ex {a b:Nat} (h:DU (tr c) W H a b):DL c H W a b:=h
theorem DL.dn {a b:Nat} (h:DL (fl c H) H W a b):DL c H W a b:=by
 obtain ⟨j,i1,i2,h1,h2,h3,run,rfl,rfl⟩:=h
 refine ⟨j,H - 1 - i1,H - 1 - i2,h1,by omega,by omega,fun r r1 r2=>?_,rfl,rfl⟩
 have:=run (H - 1 - r) (by omega) (by omega)
 unfold Fw.fl at this
 rwa [show H - 1 - (H - 1 - r)=r by omega]at this
theorem DL.unfl {a b:Nat} (h:DL c H W a b):DL (fl c H) H W a b:=by
 obtain ⟨j,i1,i2,h1,h2,h3,run,rfl,rfl⟩:=h
 refine ⟨j,H - 1 - i1,H - 1 - i2,h1,by omega,by omega,fun r r1 r2=>?_,?_,?_⟩
 ·exact run (H - 1 - r) (by omega) (by omega)
 ·unfold Fw.fl; rw [show H - 1 - (H - 1 - i1)=i1 by omega]
 unfold Fw.fl; rw [show H - 1 - (H - 1 - i2)=i2 by omega]
theorem DU.dn {a b:Nat} (h:DU (fl c H) H W a b):DU c H W b a:=by
 obtain ⟨i,j1,j2,h1,h2,h3,run,rfl,rfl⟩:=h
 refine ⟨H - 1 - (i+1),j2,j1,by omega,h3,h2,fun k k1 k2=>?_,?_,?_⟩
 ·have:=run k (by omega) (by omega)
  unfold Fw.fl at this
  rw [show H - 1 - (i+1)+1=H - 1 - i by omega]
  exact Ne.symm this
 ·rfl
 unfold Fw.fl; rw [show H - 1 - (i+1)+1=H - 1 - i by omega]
theorem DU.unfl {a b:Nat} (h:DU c H W a b):DU (fl c H) H W b a:=by
 obtain ⟨i,j1,j2,h1,h2,h3,run,rfl,rfl⟩:=h
 refine ⟨H - 1 - (i+1),j2,j1,by omega,h3,h2,fun k k1 k2=>?_,?_,?_⟩
 ·unfold Fw.fl
  rw [show H - 1 - (H - 1 - (i+1))=i+1 by omega,show H - 1 - (H - 1 - (i+1)+1)=i by omega]
  exact Ne.symm (run k (by omega) (by omega))
 ·unfold Fw.fl; rw [show H - 1 - (H - 1 - (i+1))=i+1 by omega]
 unfold Fw.fl; rw [show H - 1 - (H - 1 - (i+1)+1)=i by omega]
theorem z63 (h:Pl c H W) {n:Nat} (hc:∀ i j,i<H→j<W→c i j<n):∃ f:Nat→Nat,∀ a b,DL c H W a b∨DU c H W b a→f a<f b:=by
 obtain ⟨f,hf⟩:=z1n h.dn (n:=n) (fun i j hi hj=>hc _ j (by omega) hj)
 refine ⟨f,fun a b hd=>hf a b ?_⟩
 rcases hd with hd | hd
 ·exact .inl hd.unfl
 exact .inr hd.unfl
inductive TC (R:Nat→Nat→Prop):Nat→Nat→Prop
 | one {a b:Nat}:R a b→TC R a b
 | tail {a b d:Nat}:TC R a b→R b d→TC R a d
theorem TC.mono {R S:Nat→Nat→Prop} (h:∀ a b,R a b→S a b) {a b:Nat} (k:TC R a b):TC S a b:=by
 induction k with
 | one k=>exact .one (h _ _ k)
 | tail _ k ih=>exact .tail ih (h _ _ k)
theorem TC.trans {R:Nat→Nat→Prop} {a b d:Nat} (h:TC R a b) (k:TC R b d):TC R a d:=by
 induction k with
 | one k=>exact .tail h k
 | tail _ k ih=>exact .tail ih k
theorem TC.rev {R S:Nat→Nat→Prop} (h:∀ a b,R a b→S b a) {a b:Nat} (k:TC R a b):TC S b a:=by
 induction k with
 | one k=>exact .one (h _ _ k)
 | tail _ k ih=>exact (TC.one (h _ _ k)).trans ih
theorem TC.last {R:Nat→Nat→Prop} {a b:Nat} (h:TC R a b):∃ x,(x=a∨TC R a x)∧R x b:=by
 cases h with
 | one k=>exact ⟨a,.inl rfl,k⟩
 | tail h k=>exact ⟨_,.inr h,k⟩
theorem TC.rise {R:Nat→Nat→Prop} {f:Nat→Nat} (h:∀ a b,R a b→f a<f b) {a b:Nat} (k:TC R a b):f a<f b:=by
 induction k with
 | one k=>exact h _ _ k
 | tail _ k ih=>exact Nat.lt_trans ih (h _ _ k)
theorem zit {i:Nat} (hi:i<H) {j1:Nat}:∀ {j2:Nat},j1≤j2→j2<W→c i j1≠c i j2→TC (DL c H W) (c i j1) (c i j2)
 | 0,h1,_,h3=>by
    obtain rfl:j1=0:=by omega
    exact absurd rfl h3
 | j2+1,h1,h2,h3=>by
  by_cases e:j1=j2+1
  ·subst e; exact absurd rfl h3
  by_cases q:c i j2=c i (j2+1)
  ·rw [← q]at h3 ⊢
   exact zit hi (by omega) (by omega) h3
  have hd:DL c H W (c i j2) (c i (j2+1)):=⟨j2,i,i,h2,hi,hi,fun r r1 r2=>by
  obtain rfl:r=i:=by omega
  exact q,rfl,rfl⟩
  by_cases q2:c i j1=c i j2
  ·rw [q2]; exact .one hd
  exact .tail (zit hi (by omega) (by omega) q2) hd
theorem z9g {j:Nat} (hj:j<W) {i1 i2:Nat} (h1:i1≤i2) (h2:i2<H) (h3:c i1 j≠c i2 j):TC (DU c H W) (c i1 j) (c i2 j) :=
 (zit (c:=tr c) (H:=W) (W:=H) hj h1 h2 h3).mono fun _ _ h=>h.ex
theorem pass (h:Pl c H W) {r q A:Nat} (hr:r+1<H) (hq:q+1<W) (hNP:c r q=c (r+1) q) (hP:c (r+1) q≠c (r+1) (q+1)) (hQ:c r (q+1)≠c (r+1) (q+1))
  (h1:c (r+1) q=A∨TC (DL c H W) A (c (r+1) q)∨TC (DU c H W) A (c (r+1) q)) (h2:c r (q+1)=A∨TC (DL c H W) A (c r (q+1))∨TC (DU c H W) A (c r (q+1))) :
  TC (DL c H W) A (c (r+1) (q+1))∨TC (DU c H W) A (c (r+1) (q+1)):=by
 have hNQ:c r q≠c r (q+1):=by
  intro e
  have:=h.rect (i:=r+1) (j:=q) (i':=r) (j':=q+1) (r+1) (q+1) hr (by omega) (by omega) hq (by rw [← hNP,e]) (by omega) (by omega) (by omega) (by omega)
  exact hP this.symm
 have dP:DL c H W (c (r+1) q) (c (r+1) (q+1)):=⟨q,r+1,r+1,hq,hr,hr,fun x x1 x2=>by
    obtain rfl:x=r+1:=by omega
    exact hP,rfl,rfl⟩
 have dQ:DU c H W (c r (q+1)) (c (r+1) (q+1)):=⟨r,q+1,q+1,hr,hq,hq,fun x x1 x2=>by
    obtain rfl:x=q+1:=by omega
    exact hQ,rfl,rfl⟩
 rcases h1 with rfl | h1 | h1
 ·exact .inl (.one dP)
 ·exact .inl (.tail h1 dP)
 rcases h2 with rfl | h2 | h2
 ·exact .inr (.one dQ)
 ·left
  obtain ⟨x,hx,j0,i1,i2,k1,k2,k3,run,rfl,k4⟩:=h2.last
  have e:j0=q:=by
   by_cases q1:j0<q
   ·have:=h.rect r q k3 (show r<H by omega) k1 hq k4.symm (by omega) (by omega) (by omega) (by omega)
    rw [← k4]at this
    exact absurd this hNQ
   by_cases q2:q<j0
   ·have:=h.rect i2 j0 k3 (show r<H by omega) k1 hq k4.symm (by omega) (by omega) (by omega) (by omega)
    exact absurd this (run i2 (by omega) (by omega))
   omega
  subst e
  have hd:DL c H W (c i1 j0) (c (r+1) (j0+1)):=by
   refine ⟨j0,i1,r+1,hq,k2,hr,fun x x1 x2=>?_,rfl,rfl⟩
   by_cases q1:min i1 i2≤x∧x≤max i1 i2
   ·exact run x q1.1 q1.2
   by_cases q2:x=r+1
   ·subst q2; exact hP
   intro q3
   have e1:=h.rect x (j0+1) k3 (show r<H by omega) k1 hq k4.symm (by omega) (by omega) (by omega) (by omega)
   rw [← k4]at e1
   have e2:=h.rect (i:=x) (j:=j0) (i':=r) (j':=j0+1) r j0 (by omega) (by omega) (by omega) hq (by rw [q3,e1]) (by omega) (by omega) (by omega) (by omega)
   rw [q3,e1]at e2
   exact hNQ e2
  rcases hx with hx | hx
  ·rw [hx]at hd; exact .one hd
  exact .tail hx hd
 exact .inr (.tail h2 dQ)
theorem z0e (h:Pl c H W) {x y:Nat}:∀ (s:Nat) {i j:Nat},i+j≤s→x≤i→y≤j→i<H→j<W→c x y≠c i j→TC (DL c H W) (c x y) (c i j)∨TC (DU c H W) (c x y) (c i j):=by
 intro s
 induction s with
 | zero =>
  intro i j h1 h2 h3 h4 h5 h6
  obtain rfl:i=0:=by omega
  obtain rfl:j=0:=by omega
  obtain rfl:x=0:=by omega
  obtain rfl:y=0:=by omega
  exact absurd rfl h6
 | succ s ih =>
  intro i j h1 h2 h3 h4 h5 h6
  by_cases e1:x=i
  ·subst e1; exact .inl (zit h4 h3 h5 h6)
  by_cases e2:y=j
  ·subst e2; exact .inr (z9g h5 h2 h4 h6)
  obtain ⟨r,rfl⟩:∃ r,i=r+1:=⟨i - 1,by omega⟩
  obtain ⟨q,rfl⟩:∃ q,j=q+1:=⟨j - 1,by omega⟩
  by_cases e3:c r (q+1)=c (r+1) (q+1)
  ·rw [← e3]at h6 ⊢
   exact ih (by omega) (by omega) h3 (by omega) h5 h6
  by_cases e4:c (r+1) q=c (r+1) (q+1)
  ·rw [← e4]at h6 ⊢
   exact ih (by omega) h2 (by omega) h4 (by omega) h6
  have iP:c (r+1) q=c x y∨TC (DL c H W) (c x y) (c (r+1) q)∨TC (DU c H W) (c x y) (c (r+1) q):=by
   by_cases k:c x y=c (r+1) q
   ·exact .inl k.symm
   exact .inr (ih (by omega) h2 (by omega) h4 (by omega) k)
  have iQ:c r (q+1)=c x y∨TC (DL c H W) (c x y) (c r (q+1))∨TC (DU c H W) (c x y) (c r (q+1)):=by
   by_cases k:c x y=c r (q+1)
   ·exact .inl k.symm
   exact .inr (ih (by omega) (by omega) h3 (by omega) h5 k)
  by_cases hNP:c r q=c (r+1) q
  ·exact pass h h4 h5 hNP e4 e3 iP iQ
  by_cases hNQ:c r q=c r (q+1)
  ·have:=pass (c:=tr c) (H:=W) (W:=H) h.ex (r:=q) (q:=r) (A:=c x y) h5 h4 hNQ e3 e4 ?_ ?_
   ·rcases this with k | k
    ·exact .inr (k.mono fun _ _ h=>h.ex)
    exact .inl (k.mono fun _ _ h=>h.ex)
   ·rcases iQ with k | k | k
    ·exact .inl k
    ·exact .inr (.inr k)
    exact .inr (.inl k)
   rcases iP with k | k | k
   ·exact .inl k
   ·exact .inr (.inr k)
   exact .inr (.inl k)
  exact absurd (h.plain h4 h5 hNQ e4 hNP) e3
theorem zu5 (h:Pl c H W) {x y i j:Nat} (hx:x<H) (hy:y<W) (hi:i<H) (hj:j<W) (hne:c x y≠c i j) :
  TC (DL c H W) (c x y) (c i j)∨TC (DL c H W) (c i j) (c x y)∨TC (DU c H W) (c x y) (c i j)∨TC (DU c H W) (c i j) (c x y):=by
 have key:∀ {x y i j:Nat},x<H→y<W→i<H→j<W→c x y≠c i j→x≤i→TC (DL c H W) (c x y) (c i j)∨TC (DL c H W) (c i j) (c x y)∨TC (DU c H W) (c x y) (c i j)∨TC (DU c H W) (c i j) (c x y):=by
  intro x y i j hx hy hi hj hne hle
  by_cases q:y≤j
  ·rcases z0e h _ (qR _) hle q hi hj hne with k | k
   ·exact .inl k
   exact .inr (.inr (.inl k))
  have e1:fl c H (H - 1 - i) j=c i j:=by unfold fl; rw [show H - 1 - (H - 1 - i)=i by omega]
  have e2:fl c H (H - 1 - x) y=c x y:=by unfold fl; rw [show H - 1 - (H - 1 - x)=x by omega]
  have:=z0e h.dn (x:=H - 1 - i) (y:=j) _ (i:=H - 1 - x) (j:=y) (qR _) (by omega) (by omega) (by omega) hy (by rw [e1,e2]; exact Ne.symm hne)
  rw [e1,e2]at this
  rcases this with k | k
  ·exact .inr (.inl (k.mono fun _ _ h=>h.dn))
  exact .inr (.inr (.inl (k.rev fun _ _ h=>h.dn)))
 by_cases q:x≤i
 ·exact key hx hy hi hj hne q
 rcases key hi hj hx hy (Ne.symm hne) (by omega) with k | k | k | k
 ·exact .inr (.inl k)
 ·exact .inl k
 ·exact .inr (.inr (.inr k))
 exact .inr (.inr (.inl k))
end
end
section
section
variable {n:Nat} {M:List (List Bool)}
theorem absorb {p q:Bool}:(p || (q && p))=p:=by cases p <;> cases q <;> rfl
theorem z5c (h:Sq n M) {k:Nat} (hk:k<n):∀ i,i≤n→Sq n ((List.range i).foldl (clA n k) M) ∧
  ∀ x y,x<n→y<n→zc2 ((List.range i).foldl (clA n k) M) x y=if x<i then zc2 M x y || (zc2 M x k && zc2 M k y) else zc2 M x y
 | 0,_=>⟨h,fun x y _ _=>by simp⟩
 | i+1,hi=>by
  obtain ⟨h1,h2⟩:=z5c h hk i (by omega)
  rw [zct]
  generalize (List.range i).foldl (clA n k) M=X at h1 h2 ⊢
  obtain ⟨h3,h4⟩:=z0n h1 hk (show i<n by omega) n (qR _)
  refine ⟨h3,fun x y hx hy=>?_⟩
  unfold clA
  rw [h4 x y hx hy]
  by_cases e:x=i
  ·subst e
   have e1:zc2 X x y=zc2 M x y:=by rw [h2 x y hx hy,if_neg (Nat.lt_irrefl _)]
   have e2:zc2 X x k=zc2 M x k:=by rw [h2 x k hx hk,if_neg (Nat.lt_irrefl _)]
   have e3:zc2 X k y=zc2 M k y:=by
    rw [h2 k y hk hy]
    split
    ·exact absorb
    rfl
   rw [if_pos ⟨rfl,hy⟩,if_pos (by omega),e1,e2,e3]
  rw [if_neg (fun q=>e q.1),h2 x y hx hy]
  by_cases e2:x<i
  ·rw [if_pos e2,if_pos (by omega)]
  rw [if_neg e2,if_neg (by omega)]
theorem yck (h:Sq n M) {k:Nat} (hk:k<n) {x y:Nat} (hx:x<n) (hy:y<n):zc2 (clK n M k) x y=(zc2 M x y || (zc2 M x k && zc2 M k y)):=by
 have:=(z5c h hk n (qR _)).2 x y hx hy
 rw [if_pos hx]at this
 exact this
theorem z0q (h:Sq n M):∀ i,i≤n→Sq n ((List.range i).foldl (clK n) M) ∧
  (∀ a b,a<n→b<n→zc2 M a b=true→zc2 ((List.range i).foldl (clK n) M) a b=true) ∧
  (∀ m a b,m<i→a<n→b<n→zc2 ((List.range i).foldl (clK n) M) a m=true→zc2 ((List.range i).foldl (clK n) M) m b=true→zc2 ((List.range i).foldl (clK n) M) a b=true) ∧
  (∀ T:Nat→Nat→Prop,(∀ a b d,T a b→T b d→T a d)→(∀ a b,a<n→b<n→zc2 M a b=true→T a b)→∀ a b,a<n→b<n→zc2 ((List.range i).foldl (clK n) M) a b=true→T a b)
 | 0,_=>⟨h,fun a b _ _ k=>k,fun m a b k=>by omega,fun T _ k=>k⟩
 | i+1,hi=>by
  obtain ⟨h1,h2,h3,h4⟩:=z0q h i (by omega)
  rw [zct]
  generalize (List.range i).foldl (clK n) M=X at h1 h2 h3 h4 ⊢
  have hin:i<n:=by omega
  have g:∀ {x y:Nat},x<n→y<n→(zc2 (clK n X i) x y=true↔zc2 X x y=true∨(zc2 X x i=true∧zc2 X i y=true)):=by
   intro x y hx hy
   rw [yck h1 hin hx hy]; simp
  refine ⟨(z5c h1 hin n (qR _)).1,fun a b ha hb k=>(g ha hb).2 (.inl (h2 a b ha hb k)),fun m a b hm ha hb k1 k2=>?_,fun T tr hT a b ha hb k=>?_⟩
  ·have hmn:m<n:=by omega
   rw [g ha hmn]at k1
   rw [g hmn hb]at k2
   rw [g ha hb]
   by_cases e:m=i
   ·subst e
    rcases k1 with k1 | k1 <;> rcases k2 with k2 | k2
    ·exact .inr ⟨k1,k2⟩
    ·exact .inr ⟨k1,k2.2⟩
    ·exact .inr ⟨k1.1,k2⟩
    exact .inr ⟨k1.1,k2.2⟩
   have hmi:m<i:=by omega
   rcases k1 with k1 | k1 <;> rcases k2 with k2 | k2
   ·exact .inl (h3 m a b hmi ha hb k1 k2)
   ·exact .inr ⟨h3 m a i hmi ha hin k1 k2.1,k2.2⟩
   ·exact .inr ⟨k1.1,h3 m i b hmi hin hb k1.2 k2⟩
   exact .inr ⟨k1.1,k2.2⟩
  rw [g ha hb]at k
  rcases k with k | k
  ·exact h4 T tr hT a b ha hb k
  exact tr a i b (h4 T tr hT a i ha hin k.1) (h4 T tr hT i b hin hb k.2)
def MR (n:Nat) (M:List (List Bool)) (a b:Nat):Prop:=a<n∧b<n∧zc2 M a b=true
theorem z0p (h:Sq n M) {a b:Nat} (ha:a<n) (hb:b<n):zc2 (zf4 M) a b=true↔TC (MR n M) a b:=by
 obtain ⟨h1,h2,h3,h4⟩:=z0q h n (qR _)
 have e:zf4 M=(List.range n).foldl (clK n) M:=by unfold zf4; rw [h.1]
 rw [e]
 constructor
 ·exact h4 (TC (MR n M)) (fun _ _ _ p q=>p.trans q) (fun a b ha hb k => .one ⟨ha,hb,k⟩) a b ha hb
 intro k
 induction k with
 | one k=>exact h2 _ _ k.1 k.2.1 k.2.2
 | tail _ k ih=>exact h3 _ _ _ k.1 ha k.2.1 (ih k.1) (h2 _ _ k.1 k.2.1 k.2.2)
end
def Cov (ws:List Wall) (level:Bool) (line i1 i2:Nat):Prop:=∃ w∈ws,w.level=level∧w.line=line∧w.fr≤i1∧(i2:Int)<w.fr+w.long
theorem Cov.app {ws vs:List Wall} {level:Bool} {line i1 i2:Nat} (h:Cov ws level line i1 i2):Cov (ws++vs) level line i1 i2:=by
 obtain ⟨w,hw,k⟩:=h
 exact ⟨w,List.mem_append_left _ hw,k⟩
theorem Cov.long {ws:List Wall} {w:Wall} {level:Bool} {line i1 i2:Nat} (h:Cov (ws++[w]) level line i1 i2):Cov (ws++[{ w with long:=w.long+1 }]) level line i1 i2:=by
 obtain ⟨v,hv,k1,k2,k3,k4⟩:=h
 rcases List.mem_append.1 hv with hv | hv
 ·exact ⟨v,List.mem_append_left _ hv,k1,k2,k3,k4⟩
 rw [List.mem_singleton]at hv
 subst hv
 exact ⟨_,List.mem_append_right _ (List.mem_singleton.2 rfl),k1,k2,k3,by simp only; omega⟩
def Run (g:List (List Int)) (level:Bool) (line i1 i2:Nat):Prop:=∀ j,i1≤j→j≤i2→zij g level line j=true
theorem ztl {g:List (List Int)} {level:Bool} {line:Nat} {ws:List Wall}:∀ n,(∀ lv ln i1 i2,Cov ws lv ln i1 i2→Cov (zcd g level line ws n).1 lv ln i1 i2) ∧
  (∀ i1 i2,i1≤i2→i2<n→Run g level line i1 i2→Cov (zcd g level line ws n).1 level line i1 i2) ∧
  ((zcd g level line ws n).2=false→∀ m,n=m+1→zij g level line m=false) ∧
  ((zcd g level line ws n).2=true→∃ (ws0:List Wall) (w:Wall),(zcd g level line ws n).1=ws0++[w]∧w.level=level∧w.line=(line:Int)∧w.fr+w.long=(n:Int)∧1≤w.long∧∀ i:Nat,i<n→Run g level line i (n - 1)→w.fr≤(i:Int))
 | 0=>by
  rw [zlf]
  exact ⟨fun _ _ _ _ h=>h,fun i1 i2 _ h=>by omega,fun _ m h=>by omega,fun h=>by cases h⟩
 | n+1=>by
  obtain ⟨h1,h2,h3,h4⟩:=ztl (g:=g) (level:=level) (line:=line) (ws:=ws) n
  rw [zd8]
  generalize zcd g level line ws n=s at h1 h2 h3 h4
  obtain ⟨l,op⟩:=s
  simp only at h1 h2 h3 h4
  cases hd:zij g level line n with
  | false =>
   have e:zep false level line n (l,op)=(l,false):=by simp [zep]
   rw [e]
   refine ⟨h1,fun i1 i2 k1 k2 k3=>?_,fun _ m hm=>(by have e0:m=n:=(by omega); rw [e0]; exact hd),fun h=>by cases h⟩
   by_cases e2:i2=n
   ·subst e2
    have:=k3 i2 k1 (qR _)
    rw [hd]at this; cases this
   exact h2 i1 i2 k1 (by omega) k3
  | true =>
   cases op with
   | false =>
    have e:zep true level line n (l,false)=(l++[⟨level,line,n,1⟩],true):=by simp [zep]
    rw [e]
    have hno:∀ m,n=m+1→zij g level line m=false:=h3 rfl
    have first:∀ i,i<n+1→Run g level line i n→i=n:=by
     intro i hi hr
     by_cases e2:i=n
     ·exact e2
     have:=hr (n - 1) (by omega) (by omega)
     rw [hno (n - 1) (by omega)]at this; cases this
    refine ⟨fun lv ln i1 i2 k=>(h1 lv ln i1 i2 k).app,fun i1 i2 k1 k2 k3=>?_,fun h=>(by cases h),fun _=>⟨l,_,rfl,rfl,rfl,by simp,by simp,fun i hi hr=>?_⟩⟩
    ·by_cases e2:i2=n
     ·subst e2
      obtain rfl:=first i1 (by omega) k3
      exact ⟨_,List.mem_append_right _ (List.mem_singleton.2 rfl),rfl,rfl,Int.le_refl _,by simp only; omega⟩
     exact (h2 i1 i2 k1 (by omega) k3).app
    have:=first i hi hr
    simp only; omega
   | true =>
    obtain ⟨ws0,w,rfl,w1,w2,w3,w4,w5⟩:=h4 rfl
    have e:zep true level line n (ws0++[w],true)=(ws0++[{ w with long:=w.long+1 }],true):=by simp [zep]
    rw [e]
    have hfr:∀ i:Nat,i<n+1→Run g level line i n→w.fr≤(i:Int):=by
     intro i hi hr
     by_cases e2:i=n
     ·omega
     exact w5 i (by omega) fun j j1 j2=>hr j j1 (by omega)
    refine ⟨fun lv ln i1 i2 k=>(h1 lv ln i1 i2 k).long,fun i1 i2 k1 k2 k3=>?_,fun h=>(by cases h),fun _=>⟨ws0,_,rfl,w1,w2,by simp only; omega,by simp only; omega,fun i hi hr=>hfr i hi hr⟩⟩
    by_cases e2:i2=n
    ·subst e2
     have:=hfr i1 (by omega) k3
     exact ⟨_,List.mem_append_right _ (List.mem_singleton.2 rfl),w1,w2,this,by simp only; omega⟩
    exact (h2 i1 i2 k1 (by omega) k3).long
theorem zla {g:List (List Int)} {level:Bool} {places:Nat} {ws:List Wall}:∀ lines,(∀ lv ln i1 i2,Cov ws lv ln i1 i2→Cov (zci g level places ws lines) lv ln i1 i2) ∧
  (∀ line i1 i2,1≤line→line<lines→i1≤i2→i2<places→Run g level line i1 i2→Cov (zci g level places ws lines) level line i1 i2)
 | 0=>⟨fun _ _ _ _ h=>h,fun line _ _ _ h=>by omega⟩
 | k+1=>by
  obtain ⟨h1,h2⟩:=zla (g:=g) (level:=level) (places:=places) (ws:=ws) k
  by_cases hk:1≤k
  ·rw [zeo hk]
   obtain ⟨l1,l2,-,-⟩:=ztl (g:=g) (level:=level) (line:=k) (ws:=zci g level places ws k) places
   refine ⟨fun lv ln i1 i2 q=>l1 _ _ _ _ (h1 _ _ _ _ q),fun line i1 i2 q1 q2 q3 q4 q5=>?_⟩
   by_cases e:line=k
   ·subst e; exact l2 i1 i2 q3 q4 q5
   exact l1 _ _ _ _ (h2 line i1 i2 q1 (by omega) q3 q4 q5)
  obtain rfl:k=0:=by omega
  rw [zlc]
  exact ⟨fun _ _ _ _ h=>h,fun line _ _ q1 q2=>by omega⟩
theorem ztj {g:List (List Int)} {H W:Nat} {level:Bool} {line i1 i2:Nat} (h1:1≤line) (h2:line<if level then H else W) (h3:i1≤i2) (h4:i2<if level then W else H) (hr:Run g level line i1 i2):Cov (zcx g H W) level line i1 i2:=by
 unfold zcx
 obtain ⟨a1,a2⟩:=zla (g:=g) (level:=false) (places:=H) (ws:=[]) W
 obtain ⟨b1,b2⟩:=zla (g:=g) (level:=true) (places:=W) (ws:=zci g false H [] W) H
 cases level with
 | false=>exact b1 _ _ _ _ (a2 line i1 i2 h1 h2 h3 h4 hr)
 | true=>exact b2 line i1 i2 h1 h2 h3 h4 hr
section
variable {n:Nat}
theorem z18 {a:Int} (ha:0≤a∧a<n):∀ {bs:List Int} {M:List (List Bool)},Rm n bs→Sq n M→Sq n (relB a bs M)∧∀ x y,zc2 (relB a bs M) x y=true↔zc2 M x y=true∨(x=a.toNat∧∃ b∈bs,y=b.toNat)
 | [],M,_,h=>⟨h,fun x y=>by simp [relB]⟩
 | b::bs,M,hb,h=>by
  have hb0:=hb b (by simp)
  obtain ⟨k1,k2⟩:=z18 ha (bs:=bs) (M:=z4c M a.toNat b.toNat true) (fun x hx=>hb x (by simp [hx])) (h.set (by omega))
  refine ⟨k1,fun x y=>?_⟩
  have e:relB a (b::bs) M=relB a bs (z4c M a.toNat b.toNat true):=rfl
  rw [e,k2,zls h (by omega) (by omega)]
  by_cases q:x=a.toNat∧y=b.toNat
  ·rw [if_pos q]; simp [q.1,q.2]
  rw [if_neg q]
  constructor
  ·rintro (k | ⟨k,c,hc,rfl⟩)
   ·exact .inl k
   exact .inr ⟨k,c,by simp [hc],rfl⟩
  rintro (k | ⟨k,c,hc,rfl⟩)
  ·exact .inl k
  rcases List.mem_cons.1 hc with rfl | hc
  ·exact absurd ⟨k,rfl⟩ q
  exact .inr ⟨k,c,hc,rfl⟩
theorem zuq {bs:List Int} (hb:Rm n bs):∀ {la:List Int} {M:List (List Bool)},Rm n la→Sq n M→Sq n (relW M la bs)∧∀ x y,zc2 (relW M la bs) x y=true↔zc2 M x y=true∨(∃ a∈la,x=a.toNat)∧∃ b∈bs,y=b.toNat
 | [],M,_,h=>⟨h,fun x y=>by simp [relW]⟩
 | a::la,M,ha,h=>by
  obtain ⟨j1,j2⟩:=z18 (ha a (by simp)) hb h
  obtain ⟨k1,k2⟩:=zuq hb (la:=la) (M:=relB a bs M) (fun x hx=>ha x (by simp [hx])) j1
  refine ⟨k1,fun x y=>?_⟩
  have e:relW M (a::la) bs=relW (relB a bs M) la bs:=rfl
  rw [e,k2,j2]
  constructor
  ·rintro ((k | ⟨k,q⟩) | ⟨⟨c,hc,k⟩,q⟩)
   ·exact .inl k
   ·exact .inr ⟨⟨a,by simp,k⟩,q⟩
   exact .inr ⟨⟨c,by simp [hc],k⟩,q⟩
  rintro (k | ⟨⟨c,hc,k⟩,q⟩)
  ·exact .inl (.inl k)
  rcases List.mem_cons.1 hc with rfl | hc
  ·exact .inl (.inr ⟨k,q⟩)
  exact .inr ⟨⟨c,hc,k⟩,q⟩
def By (g:List (List Int)) (ws:List Wall) (lv:Bool) (x y:Nat):Prop:=∃ w∈ws,w.level=lv∧(∃ a∈(za6 g w).1,x=a.toNat)∧∃ b∈(za6 g w).2,y=b.toNat
theorem By.cons {g:List (List Int)} {w:Wall} {ws:List Wall} {lv:Bool} {x y:Nat}:By g (w::ws) lv x y↔(w.level=lv∧(∃ a∈(za6 g w).1,x=a.toNat)∧∃ b∈(za6 g w).2,y=b.toNat)∨By g ws lv x y:=by
 unfold By; simp
theorem zug {g:List (List Int)} {nh nw:Nat} (hrm:zvf g nh nw n):∀ (ws:List Wall),(∀ w∈ws,zts g nh nw w)→∀ {M:List (List Bool) × List (List Bool)},Sq n M.1→Sq n M.2 →
  (Sq n (ws.foldl (zmt g) M).1∧∀ x y,zc2 (ws.foldl (zmt g) M).1 x y=true↔zc2 M.1 x y=true∨By g ws false x y) ∧
  (Sq n (ws.foldl (zmt g) M).2∧∀ x y,zc2 (ws.foldl (zmt g) M).2 x y=true↔zc2 M.2 x y=true∨By g ws true x y)
 | [],_,M,h0,h1=>⟨⟨h0,fun x y=>by simp [By]⟩,⟨h1,fun x y=>by simp [By]⟩⟩
 | w::ws,hws,M,h0,h1=>by
  obtain ⟨r1,r2⟩:=zfm hrm (hws w (by simp))
  rw [List.foldl_cons]
  cases hlv:w.level with
  | false =>
   obtain ⟨k1,k2⟩:=zuq r2 r1 h0
   have e:zmt g M w=(relW M.1 (za6 g w).1 (za6 g w).2,M.2):=by unfold zmt; rw [hlv]; rfl
   rw [e]
   obtain ⟨⟨a1,a2⟩,⟨b1,b2⟩⟩:=zug hrm ws (fun w hw=>hws w (by simp [hw])) (M:=(relW M.1 (za6 g w).1 (za6 g w).2,M.2)) k1 h1
   refine ⟨⟨a1,fun x y=>?_⟩,⟨b1,fun x y=>?_⟩⟩
   ·rw [a2,k2,By.cons,hlv]; simp only[true_and,or_assoc]
   rw [b2,By.cons,hlv]; simp
  | true =>
   obtain ⟨k1,k2⟩:=zuq r2 r1 h1
   have e:zmt g M w=(M.1,relW M.2 (za6 g w).1 (za6 g w).2):=by unfold zmt; rw [hlv]; rfl
   rw [e]
   obtain ⟨⟨a1,a2⟩,⟨b1,b2⟩⟩:=zug hrm ws (fun w hw=>hws w (by simp [hw])) (M:=(M.1,relW M.2 (za6 g w).1 (za6 g w).2)) h0 k1
   refine ⟨⟨a1,fun x y=>?_⟩,⟨b1,fun x y=>?_⟩⟩
   ·rw [a2,By.cons,hlv]; simp
   rw [b2,k2,By.cons,hlv]; simp only[true_and,or_assoc]
theorem zv5 {x y:Nat}:zc2 (zcg n) x y=false:=by
 unfold zc2 zcg
 rw [List.getElem?_replicate]
 split
 ·rw [Option.getD_some,List.getElem?_replicate]; split <;> rfl
 rfl
def cn (g:List (List Int)) (i j:Nat):Nat:=(gz g i j).toNat
theorem zvf.ne {g:List (List Int)} {nh nw:Nat} (h:zvf g nh nw n) {i j i' j':Nat} (h1:i<nh) (h2:j<nw) (h3:i'<nh) (h4:j'<nw):gz g i j≠gz g i' j'↔cn g i j≠cn g i' j':=by
 have a:=h i j h1 h2
 have b:=h i' j' h3 h4
 unfold cn
 omega
theorem zx6 {g:List (List Int)} {level:Bool} {line fr long j:Nat} (h1:fr≤j) (h2:j<fr+long):(zcp g level line j).1∈(za6 g ⟨level,line,fr,long⟩).1:=by
 simp only[za6,Int.toNat_natCast]
 rw [zm8]
 simp only[zbq,List.mem_map,List.mem_range]
 exact ⟨j - fr,by omega,by rw [show fr+(j - fr)=j by omega]⟩
theorem zx7 {g:List (List Int)} {level:Bool} {line fr long j:Nat} (h1:fr≤j) (h2:j<fr+long):(zcp g level line j).2∈(za6 g ⟨level,line,fr,long⟩).2:=by
 simp only[za6,Int.toNat_natCast]
 rw [zm8]
 simp only[zbq,List.mem_map,List.mem_range]
 exact ⟨j - fr,by omega,by rw [show fr+(j - fr)=j by omega]⟩
theorem z2l {g:List (List Int)} {level:Bool} {line fr long:Nat} {x:Int} (h:x∈(za6 g ⟨level,line,fr,long⟩).1):∃ j,fr≤j∧j<fr+long∧x=(zcp g level line j).1:=by
 simp only[za6,Int.toNat_natCast]at h
 rw [zm8]at h
 simp only[zbq,List.mem_map,List.mem_range]at h
 obtain ⟨j,hj,rfl⟩:=h
 exact ⟨fr+j,by omega,by omega,rfl⟩
theorem z2m {g:List (List Int)} {level:Bool} {line fr long:Nat} {x:Int} (h:x∈(za6 g ⟨level,line,fr,long⟩).2):∃ j,fr≤j∧j<fr+long∧x=(zcp g level line j).2:=by
 simp only[za6,Int.toNat_natCast]at h
 rw [zm8]at h
 simp only[zbq,List.mem_map,List.mem_range]at h
 obtain ⟨j,hj,rfl⟩:=h
 exact ⟨fr+j,by omega,by omega,rfl⟩
theorem yci {g:List (List Int)} {nh nw:Nat} (h:zvf g nh nw n) {x y:Nat}:By g (zcx g nh nw) false x y↔DL (cn g) nh nw x y:=by
 constructor
 ·rintro ⟨w,hw,hlv,⟨a,ha,rfl⟩,b,hb,rfl⟩
  obtain ⟨line,fr,long,he,hl,hin⟩:=zdz w hw
  rw [hlv]at he hin
  subst he
  obtain ⟨j1,p1,p2,rfl⟩:=z2l ha
  obtain ⟨j2,q1,q2,rfl⟩:=z2m hb
  have i1:=(hin j1 p1 p2).1
  have i2:=(hin j2 q1 q2).1
  unfold InL at i1 i2
  simp only[qF,if_false]at i1 i2
  obtain ⟨L,rfl⟩:∃ L,line=L+1:=⟨line - 1,by omega⟩
  refine ⟨L,j1,j2,i1.2.1,i1.2.2,i2.2.2,fun r r1 r2=>?_,?_,?_⟩
  ·have hr:=hin r (by omega) (by omega)
   have hr1:=hr.1
   unfold InL at hr1
   simp only[qF,if_false]at hr1
   have hr2:=hr.2
   unfold zij zcp at hr2
   simp only[qF,if_false,decide_eq_true_eq,Nat.add_sub_cancel]at hr2
   exact (h.ne hr1.2.2 (by omega) hr1.2.2 hr1.2.1).1 hr2
  ·simp [zcp,cn]
  simp [zcp,cn]
 rintro ⟨L,i1,i2,h1,h2,h3,run,rfl,rfl⟩
 have hrun:Run g false (L+1) (min i1 i2) (max i1 i2):=by
  intro r r1 r2
  have:=run r r1 r2
  rw [← h.ne (by omega) (by omega) (by omega) h1]at this
  unfold zij zcp
  simpa using this
 obtain ⟨w,hw,w1,w2,w3,w4⟩:=ztj (g:=g) (H:=nh) (W:=nw) (level:=false) (line:=L+1) (by omega) (by simpa using h1) (by omega) (by simp only[qF,if_false]; omega) hrun
 obtain ⟨line,fr,long,he,hl,hin⟩:=zdz w hw
 rw [w1]at he
 subst he
 simp only at w2 w3 w4
 obtain rfl:line=L+1:=by omega
 refine ⟨_,hw,rfl,⟨_,zx6 (j:=i1) (by omega) (by omega),?_⟩,_,zx7 (j:=i2) (by omega) (by omega),?_⟩
 ·simp [zcp,cn]
 simp [zcp,cn]
theorem z9b {g:List (List Int)} {nh nw:Nat} (h:zvf g nh nw n) {x y:Nat}:By g (zcx g nh nw) true x y↔DU (cn g) nh nw x y:=by
 constructor
 ·rintro ⟨w,hw,hlv,⟨a,ha,rfl⟩,b,hb,rfl⟩
  obtain ⟨line,fr,long,he,hl,hin⟩:=zdz w hw
  rw [hlv]at he hin
  subst he
  obtain ⟨j1,p1,p2,rfl⟩:=z2l ha
  obtain ⟨j2,q1,q2,rfl⟩:=z2m hb
  have i1:=(hin j1 p1 p2).1
  have i2:=(hin j2 q1 q2).1
  unfold InL at i1 i2
  simp only[if_true]at i1 i2
  obtain ⟨L,rfl⟩:∃ L,line=L+1:=⟨line - 1,by omega⟩
  refine ⟨L,j1,j2,i1.2.1,i1.2.2,i2.2.2,fun r r1 r2=>?_,?_,?_⟩
  ·have hr:=hin r (by omega) (by omega)
   have hr1:=hr.1
   unfold InL at hr1
   simp only[if_true]at hr1
   have hr2:=hr.2
   unfold zij zcp at hr2
   simp only[if_true,decide_eq_true_eq,Nat.add_sub_cancel]at hr2
   exact (h.ne (by omega) hr1.2.2 hr1.2.1 hr1.2.2).1 hr2
  ·simp [zcp,cn]
  simp [zcp,cn]
 rintro ⟨L,i1,i2,h1,h2,h3,run,rfl,rfl⟩
 have hrun:Run g true (L+1) (min i1 i2) (max i1 i2):=by
  intro r r1 r2
  have:=run r r1 r2
  rw [← h.ne (by omega) (by omega) h1 (by omega)]at this
  unfold zij zcp
  simpa using this
 obtain ⟨w,hw,w1,w2,w3,w4⟩:=ztj (g:=g) (H:=nh) (W:=nw) (level:=true) (line:=L+1) (by omega) (by simpa using h1) (by omega) (by simp only[if_true]; omega) hrun
 obtain ⟨line,fr,long,he,hl,hin⟩:=zdz w hw
 rw [w1]at he
 subst he
 simp only at w2 w3 w4
 obtain rfl:line=L+1:=by omega
 refine ⟨_,hw,rfl,⟨_,zx6 (j:=i1) (by omega) (by omega),?_⟩,_,zx7 (j:=i2) (by omega) (by omega),?_⟩
 ·simp [zcp,cn]
 simp [zcp,cn]
theorem zpn {g:List (List Int)} {nh nw:Nat} (h:zvf g nh nw n) {i j:Nat} (hi:i<nh) (hj:j<nw):cn g i j<n:=by
 have:=h i j hi hj
 unfold cn; omega
theorem yc5 {g:List (List Int)} {nh nw:Nat} (h:zvf g nh nw n) {a b:Nat} (ha:a<n) (hb:b<n):zc2 (zwm g nh nw n) a b=true↔TC (DL (cn g) nh nw) a b:=by
 obtain ⟨⟨k1,k2⟩,-⟩:=zug h (zcx g nh nw) zdz (M:=(zcg n,zcg n)) (zex n) (zex n)
 have hd:∀ x y,zc2 (z92 g nh nw n).1 x y=true↔DL (cn g) nh nw x y:=fun x y=>by
  unfold z92; rw [k2,yci h]; simp [zv5]
 unfold zwm
 have k3:Sq n (z92 g nh nw n).1:=k1
 rw [z0p k3 ha hb]
 constructor
 ·exact TC.mono fun x y q=>(hd x y).1 q.2.2
 refine TC.mono fun x y q=>⟨?_,?_,(hd x y).2 q⟩
 ·obtain ⟨j,i1,i2,q1,q2,q3,-,rfl,-⟩:=q
  exact zpn h q2 (by omega)
 obtain ⟨j,i1,i2,q1,q2,q3,-,-,rfl⟩:=q
 exact zpn h q3 q1
theorem z84 {g:List (List Int)} {nh nw:Nat} (h:zvf g nh nw n) {a b:Nat} (ha:a<n) (hb:b<n):zc2 (znn g nh nw n) a b=true↔TC (DU (cn g) nh nw) a b:=by
 obtain ⟨-,⟨k1,k2⟩⟩:=zug h (zcx g nh nw) zdz (M:=(zcg n,zcg n)) (zex n) (zex n)
 have hd:∀ x y,zc2 (z92 g nh nw n).2 x y=true↔DU (cn g) nh nw x y:=fun x y=>by
  unfold z92; rw [k2,z9b h]; simp [zv5]
 unfold znn
 have k3:Sq n (z92 g nh nw n).2:=k1
 rw [z0p k3 ha hb]
 constructor
 ·exact TC.mono fun x y q=>(hd x y).1 q.2.2
 refine TC.mono fun x y q=>⟨?_,?_,(hd x y).2 q⟩
 ·obtain ⟨j,i1,i2,q1,q2,q3,-,rfl,-⟩:=q
  exact zpn h (by omega) q2
 obtain ⟨j,i1,i2,q1,q2,q3,-,-,rfl⟩:=q
 exact zpn h q1 q3
end
end
section
theorem zxn {p:List Txt} {i:Nat}:∀ {w:Nat},zgo p 4 i w=0→∀ k,1≤k→k<w→zjh p i k≠4
 | w+1,h,k,h1,h2=>by
  have hb:=(ze9 p 4 i w).1
  unfold zgo at h
  by_cases e:k=w
  ·subst e
   intro q
   rw [if_pos ⟨h1,q⟩]at h
   omega
  have h0:zgo p 4 i w=0:=by split at h <;> omega
  exact zxn h0 k h1 (by omega)
theorem z13 {p:List Txt} {w:Nat}:∀ {n:Nat},zi4 p 4 w n=0→∀ i,1≤i→i<n→zgo p 4 i w=0
 | n+1,h,i,h1,h2=>by
  have hb:0≤zi4 p 4 w n:=by
   clear h h1 h2
   induction n with
   | zero=>simp [zi4]
   | succ n ih =>
    have:=(ze9 p 4 n w).1
    unfold zi4; split <;> omega
  have hr:=(ze9 p 4 n w).1
  unfold zi4 at h
  by_cases e:i=n
  ·subst e
   rw [if_pos h1]at h
   omega
  have h0:zi4 p 4 w n=0:=by split at h <;> omega
  exact z13 h0 i h1 (by omega)
theorem z4n {a b:UInt8} (h:(a.toNat:Int) - 97≠(b.toNat:Int) - 97):a≠b:=by
 rintro rfl; exact h rfl
theorem z3q {p:List Txt} (hg:zc4 p=true) {i k:Nat} (hi:i+1<p.length) (hk:k+1<(zao p).length) (h1:zal p i k≠zal p i (k+1)) (h2:zal p i k≠zal p (i+1) k) (h3:zal p i k≠zal p (i+1) (k+1))
  (h4:zal p i (k+1)≠zal p (i+1) k) (h5:zal p i (k+1)≠zal p (i+1) (k+1)) (h6:zal p (i+1) k≠zal p (i+1) (k+1)):zjh p (i+1) (k+1)=4:=by
 obtain ⟨r1,hr1,-⟩:=zag (show i<p.length by omega)
 obtain ⟨r2,hr2,-⟩:=zag hi
 have e1:=zdt hg hr1
 have e2:=zdt hg hr2
 obtain ⟨a,ha,-⟩:=zag (show k<r1.length by omega)
 obtain ⟨b,hb,-⟩:=zag (show k+1<r1.length by omega)
 obtain ⟨c,hc,-⟩:=zag (show k<r2.length by omega)
 obtain ⟨d,hd,-⟩:=zag (show k+1<r2.length by omega)
 rw [zc0 hr1 ha]at h1 h2 h3
 rw [zc0 hr1 hb]at h1 h4 h5
 rw [zc0 hr2 hc]at h2 h4 h6
 rw [zc0 hr2 hd]at h3 h5 h6
 have n1:=z4n h1
 have n2:=z4n h2
 have n3:=z4n h3
 have n4:=z4n h4
 have n5:=z4n h5
 have n6:=z4n h6
 unfold zjh
 simp only[Nat.add_sub_cancel,hr1,hr2,ha,hb,hc,hd]
 simp [zgl,z6q,zrr,Ne.symm n1,Ne.symm n2,Ne.symm n3,Ne.symm n4,Ne.symm n5,Ne.symm n6]
theorem zfs {p:List Txt} (hp:zbw p=true) {i j:Nat} (hi:i<p.length) (hj:j<(zao p).length):(cn (gP p) i j:Int)=zal p i j:=by
 have hN:=zc6 hp
 have:=hN.room hi hj
 unfold cn
 rw [hN.cell hi hj]; omega
theorem znb {p:List Txt} (hp:zbo p=true):Pl (cn (gP p)) p.length (zao p).length:=by
 have hpl:=zdw hp
 have hN:=zc6 hpl
 have rect:∀ {i j i' j':Nat} (k l:Nat),i<p.length→i'<p.length→j<(zao p).length→j'<(zao p).length→cn (gP p) i j=cn (gP p) i' j'→min i i'≤k→k≤max i i'→min j j'≤l→l≤max j j'→cn (gP p) k l=cn (gP p) i j:=by
  intro i j i' j' k l h1 h2 h3 h4 e h5 h6 h7 h8
  have e1:=zfs hpl h1 h3
  have e2:=zfs hpl h2 h4
  have e3:=zfs hpl (show k<p.length by omega) (show l<(zao p).length by omega)
  obtain ⟨b,hb,q1,-,c1⟩:=zf9 hpl h1 h3
  obtain ⟨b',hb',q2,-,-⟩:=zf9 hpl h2 h4
  have e4:zal p i j=zal p i' j':=by omega
  rw [e4,hb']at hb
  obtain rfl:=Option.some.inj hb
  have q3:inB b' k l=true:=by
   unfold inB at q1 q2 ⊢
   simp only[qB,decide_eq_true_eq]at q1 q2 ⊢
   omega
  have:=c1 k l (by omega) (by omega) q3
  omega
 refine ⟨rect,fun {i j} h1 h2 n1 n2 n3=>Classical.byContradiction fun n4=>?_⟩
 have h0:points p 4=0:=by
  unfold zbo at hp
  simp only[qB,decide_eq_true_eq]at hp
  exact hp.2
 have hno:=zxn (z13 h0 (i+1) (by omega) h1) (j+1) (by omega) h2
 have n5:cn (gP p) i j≠cn (gP p) (i+1) (j+1):=by
  intro e
  exact n1 (rect i (j+1) (by omega) h1 (by omega) h2 e (by omega) (by omega) (by omega) (by omega)).symm
 have n6:cn (gP p) i (j+1)≠cn (gP p) (i+1) j:=by
  intro e
  exact n1 (rect i j (by omega) h1 h2 (by omega) e (by omega) (by omega) (by omega) (by omega))
 have c1:=zfs hpl (show i<p.length by omega) (show j<(zao p).length by omega)
 have c2:=zfs hpl (show i<p.length by omega) h2
 have c3:=zfs hpl h1 (show j<(zao p).length by omega)
 have c4:=zfs hpl h1 h2
 exact hno (z3q hN.hg h1 h2 (by omega) (by omega) (by omega) (by omega) (by omega) (by omega))
theorem zq5 {p:List Txt} {a:Nat} (ha:a<(rP p).length):∃ i j,i<p.length∧j<(zao p).length∧cn (gP p) i j=a:=by
 have hi:=zgu p
 obtain ⟨b,hb,-⟩:=zag ha
 obtain ⟨v,hv,-⟩:=zag (show a<(keys p).length by rw [← hi.len]; exact ha)
 obtain ⟨i,j,⟨hz,hj,hij⟩,-⟩:=(hi.hull a v b hv hb).at_
 have hi2:i<p.length:=by omega
 refine ⟨i,j,hi2,hj,?_⟩
 unfold cn
 rw [z5v hi2 hj,hz,Int.toNat_natCast]
 have hlt:¬ (keys p).idxOf v=(keys p).length:=by
  have:=List.idxOf_lt_length_iff.2 (List.mem_of_getElem? hv)
  omega
 exact zqj hi.nd (zh7 hlt) hv
def lfM (p:List Txt):List (List Bool):=zwm (gP p) p.length (zao p).length (rP p).length
def abM (p:List Txt):List (List Bool):=znn (gP p) p.length (zao p).length (rP p).length
def Lf (p:List Txt) (a b:Nat):Prop:=zc2 (lfM p) a b=true
def Ab (p:List Txt) (a b:Nat):Prop:=zc2 (abM p) a b=true
section
variable {p:List Txt} {a b d:Nat}
theorem Lf.iff (ha:a<(rP p).length) (hb:b<(rP p).length):Lf p a b↔TC (DL (cn (gP p)) p.length (zao p).length) a b:=yc5 zft ha hb
theorem Ab.iff (ha:a<(rP p).length) (hb:b<(rP p).length):Ab p a b↔TC (DU (cn (gP p)) p.length (zao p).length) a b:=z84 zft ha hb
theorem Lf.trans (ha:a<(rP p).length) (hb:b<(rP p).length) (hd:d<(rP p).length) (h:Lf p a b) (k:Lf p b d):Lf p a d:=by
 rw [Lf.iff ha hd]; exact ((Lf.iff ha hb).1 h).trans ((Lf.iff hb hd).1 k)
theorem Ab.trans (ha:a<(rP p).length) (hb:b<(rP p).length) (hd:d<(rP p).length) (h:Ab p a b) (k:Ab p b d):Ab p a d:=by
 rw [Ab.iff ha hd]; exact ((Ab.iff ha hb).1 h).trans ((Ab.iff hb hd).1 k)
theorem zk0 (hp:zbo p=true):∃ f g:Nat→Nat,∀ a b,a<(rP p).length→b<(rP p).length→(Lf p a b→f a<f b∧g a<g b)∧(Ab p a b→f a<f b∧g b<g a):=by
 have hpl:=znb hp
 obtain ⟨f,hf⟩:=z1n hpl (n:=(rP p).length) (fun i j hi hj=>zpn zft hi hj)
 obtain ⟨g,hg⟩:=z63 hpl (n:=(rP p).length) (fun i j hi hj=>zpn zft hi hj)
 refine ⟨f,g,fun a b ha hb=>⟨fun h=>?_,fun h=>?_⟩⟩
 ·rw [Lf.iff ha hb]at h
  exact ⟨h.rise fun a b k=>hf a b (.inl k),h.rise fun a b k=>hg a b (.inl k)⟩
 rw [Ab.iff ha hb]at h
 exact ⟨h.rise fun a b k=>hf a b (.inr k),(h.rev (S:=fun x y=>DU (cn (gP p)) p.length (zao p).length y x) fun _ _ k=>k).rise fun a b k=>hg a b (.inr k)⟩
theorem Lf.only (hp:zbo p=true) (ha:a<(rP p).length) (hb:b<(rP p).length) (h:Lf p a b):¬ Lf p b a∧¬ Ab p a b∧¬ Ab p b a:=by
 obtain ⟨f,g,k⟩:=zk0 hp
 have h1:=(k a b ha hb).1 h
 refine ⟨fun q=>?_,fun q=>?_,fun q=>?_⟩
 ·have:=(k b a hb ha).1 q; omega
 ·have:=(k a b ha hb).2 q; omega
 have:=(k b a hb ha).2 q; omega
theorem Ab.only (hp:zbo p=true) (ha:a<(rP p).length) (hb:b<(rP p).length) (h:Ab p a b):¬ Ab p b a∧¬ Lf p a b∧¬ Lf p b a:=by
 obtain ⟨f,g,k⟩:=zk0 hp
 have h1:=(k a b ha hb).2 h
 refine ⟨fun q=>?_,fun q=>?_,fun q=>?_⟩
 ·have:=(k b a hb ha).2 q; omega
 ·have:=(k a b ha hb).1 q; omega
 have:=(k b a hb ha).1 q; omega
theorem z3u (hp:zbo p=true) (ha:a<(rP p).length) (hb:b<(rP p).length) (hne:a≠b):Lf p a b∨Lf p b a∨Ab p a b∨Ab p b a:=by
 obtain ⟨i,j,h1,h2,e1⟩:=zq5 ha
 obtain ⟨k,l,h3,h4,e2⟩:=zq5 hb
 have:=zu5 (znb hp) h1 h2 h3 h4 (by rw [e1,e2]; exact hne)
 rw [e1,e2]at this
 rw [Lf.iff ha hb,Lf.iff hb ha,Ab.iff ha hb,Ab.iff hb ha]
 exact this
end
end
section
def Pt.rect (t:Pt):Rect:=⟨t.r,t.c,t.h,t.w⟩
abbrev zik (g:List (List Int)) (rs:List Rect) (t:Rect):PV := .agg (za3 g rs::t.cells)
def yf8 (rs:List Rect) (t:Rect) (i:Nat):Bool:=match rs[i]? with | some b=>decide (t.both b=t) | none=>false
def zgw (rs:List Rect) (t:Rect) (k:Nat):List Int:=((List.range k).filter (yf8 rs t)).map fun i:Nat=>(i:Int)
theorem zj3 {rs:List Rect} {t:Rect} {k:Nat} {b:Rect} (h:rs[k]?=some b):zgw rs t (k+1)=if t.both b=t then zgw rs t k++[(k:Int)] else zgw rs t k:=by
 unfold zgw
 rw [qS,List.filter_append,List.map_append]
 simp only[List.filter_cons,List.filter_nil,yf8,h,decide_eq_true_eq]
 split <;> simp
theorem z7w {rs:List Rect} {t:Rect} {k:Nat}:(zgw rs t k).length≤k:=by
 unfold zgw
 rw [List.length_map]
 exact Nat.le_trans (List.length_filter_le _ _) (by simp)
def rms (rs:List Rect) (t:Rect):List Int:=zgw rs t rs.length
section
variable {p:List Txt} {t:Pt}
theorem zh1 (hp:zbw p=true):yce (zal p) p.length (zao p).length:=by
 intro i j i' j' k l hi hi' hj hj' he h1 h2 h3 h4
 obtain ⟨b,hb,hin,_,hall⟩:=zf9 hp hi hj
 obtain ⟨b',hb',hin',_,_⟩:=zf9 hp hi' hj'
 rw [← he,hb]at hb'
 cases hb'
 refine hall k l (by omega) (by omega) ?_
 simp only[inB,qB,decide_eq_true_eq]at hin hin' ⊢
 omega
theorem zrl (hp:zbw p=true):Whole (zal p) p.length (zao p).length ⟨0,0,p.length,(zao p).length⟩:=by
 have hsm:=zce (zeu hp)
 obtain ⟨row0,h0,hm0⟩:=zag hsm.1
 have hw:=zfk (zeu hp) h0
 rw [← zc1 h0]at hw
 exact ⟨⟨hsm.1,hw,by simp,by simp⟩,fun i j i' j' a b c d _ _ _ _ _=>by simp only; omega⟩
theorem zsk (hp:zbw p=true) (ht:Whole (zal p) p.length (zao p).length t) {i:Nat} {b:Rect} (hb:(rP p)[i]?=some b) :
  t.rect.both b=t.rect↔∃ a c,t.r≤a∧a<t.r+t.h∧t.c≤c∧c<t.c+t.w∧zal p a c=i:=by
 have hh:=(zc6 hp).rect hb
 obtain ⟨a1,c1,p1,e1⟩:=hh.at_
 obtain ⟨a2,c2,p2,e2⟩:=hh.al
 obtain ⟨a3,c3,p3,e3⟩:=hh.ao
 obtain ⟨a4,c4,p4,e4⟩:=hh.ar
 have q1:=hh.inn _ _ p1
 obtain ⟨v1,g1⟩:=p1
 obtain ⟨v2,g2⟩:=p2
 obtain ⟨v3,g3⟩:=p3
 obtain ⟨v4,g4⟩:=p4
 unfold Gone at g1 g2 g3 g4
 constructor
 ·intro h
  refine ⟨a1,c1,?_⟩
  simp only[Rect.both,Pt.rect,Rect.mk.injEq]at h
  refine ⟨by omega,by omega,by omega,by omega,v1⟩
 rintro ⟨a,c,h1,h2,h3,h4,hv⟩
 have hin:=ht.inn
 unfold Pt.In at hin
 have k1:=ht.all a c a1 c1 (by omega) (by omega) (by omega) (by omega) (hv.trans v1.symm) h1 h2 h3 h4
 have k2:=ht.all a c a2 c2 (by omega) (by omega) (by omega) (by omega) (hv.trans v2.symm) h1 h2 h3 h4
 have k3:=ht.all a c a3 c3 (by omega) (by omega) (by omega) (by omega) (hv.trans v3.symm) h1 h2 h3 h4
 have k4:=ht.all a c a4 c4 (by omega) (by omega) (by omega) (by omega) (hv.trans v4.symm) h1 h2 h3 h4
 simp only[Rect.both,Pt.rect,Rect.mk.injEq]
 omega
theorem zej (hp:zbw p=true) {i j:Nat} (hi:i<p.length) (hj:j<(zao p).length):0≤zal p i j∧zal p i j<(rP p).length:=(zc6 hp).room hi hj
theorem zt9 (hp:zbw p=true) (ht:Whole (zal p) p.length (zao p).length t) {x:Int} :
  x∈rms (rP p) t.rect↔∃ a c,t.r≤a∧a<t.r+t.h∧t.c≤c∧c<t.c+t.w∧zal p a c=x:=by
 have hin:=ht.inn
 unfold Pt.In at hin
 simp only[rms,zgw,List.mem_map,List.mem_filter,List.mem_range]
 constructor
 ·rintro ⟨i,⟨hi,hb⟩,rfl⟩
  obtain ⟨b,hb',_⟩:=zag hi
  simp only[yf8,hb',decide_eq_true_eq]at hb
  exact (zsk hp ht hb').1 hb
 rintro ⟨a,c,h1,h2,h3,h4,hv⟩
 have hr:=zej hp (i:=a) (j:=c) (by omega) (by omega)
 rw [hv]at hr
 obtain ⟨b,hb',_⟩:=zag (show x.toNat<(rP p).length by omega)
 refine ⟨x.toNat,⟨by omega,?_⟩,by omega⟩
 simp only[yf8,hb',decide_eq_true_eq]
 exact (zsk hp ht hb').2 ⟨a,c,h1,h2,h3,h4,by omega⟩
theorem z7y {rs:List Rect} {t:Rect}:(rms rs t).Nodup:=by
 unfold rms zgw
 rw [List.nodup_iff_pairwise_ne,List.pairwise_map]
 exact ((List.nodup_iff_pairwise_ne.1 List.nodup_range).filter _).imp fun h e=>h (Int.ofNat.inj e)
theorem ydr (hp:zbw p=true) (ht:Whole (zal p) p.length (zao p).length t) (h:zww (zal p) t=true):rms (rP p) t.rect=[zal p t.r t.c]:=by
 have hall:=zoy.1 h
 have hin:=ht.inn
 unfold Pt.In at hin
 have hm:∀ x,x∈rms (rP p) t.rect↔x=zal p t.r t.c:=by
  intro x
  rw [zt9 hp ht]
  constructor
  ·rintro ⟨a,c,h1,h2,h3,h4,rfl⟩
   have:=hall (a - t.r) (c - t.c) (by omega) (by omega)
   rwa [show t.r+(a - t.r)=a by omega,show t.c+(c - t.c)=c by omega]at this
  rintro rfl
  exact ⟨t.r,t.c,by omega,by omega,by omega,by omega,rfl⟩
 have hn:=z7y (rs:=rP p) (t:=t.rect)
 match hl:rms (rP p) t.rect,hm,hn with
 | [],hm,_=>exact absurd ((hm _).2 rfl) (by simp)
 | [x],hm,_=>rw [(hm x).1 (by simp)]
 | x::y::l,hm,hn =>
  have h1:=(hm x).1 (by simp)
  have h2:=(hm y).1 (by simp)
  rw [h1,h2]at hn
  simp at hn
theorem yag (hp:zbw p=true) (ht:Whole (zal p) p.length (zao p).length t) (h:zww (zal p) t=false):2≤(rms (rP p) t.rect).length:=by
 have hin:=ht.inn
 unfold Pt.In at hin
 have hno:¬ ∀ i j,i<t.h→j<t.w→zal p (t.r+i) (t.c+j)=zal p t.r t.c:=by
  intro hc; rw [zoy.2 hc]at h; cases h
 match hl:rms (rP p) t.rect with
 | [] =>
  have:zal p t.r t.c∈rms (rP p) t.rect:=(zt9 hp ht).2 ⟨t.r,t.c,by omega,by omega,by omega,by omega,rfl⟩
  rw [hl]at this; simp at this
 | [x] =>
  exfalso
  apply hno
  intro i j hi hj
  have h1:zal p (t.r+i) (t.c+j)∈rms (rP p) t.rect:=(zt9 hp ht).2 ⟨t.r+i,t.c+j,by omega,by omega,by omega,by omega,rfl⟩
  have h2:zal p t.r t.c∈rms (rP p) t.rect:=(zt9 hp ht).2 ⟨t.r,t.c,by omega,by omega,by omega,by omega,rfl⟩
  rw [hl]at h1 h2
  simp at h1 h2
  omega
 | x::y::l=>simp
end
def thG (g:List (List Int)) (t:Pt) (level:Bool) (line:Nat):Bool:=if level then (List.range t.w).all fun j=>zij g true line (t.c+j) else (List.range t.h).all fun i=>zij g false line (t.r+i)
theorem ygs {p:List Txt} (hp:zbw p=true) {t:Pt} (ht:t.In p.length (zao p).length) {k:Nat} (h1:1≤k) (h2:k<t.w):thG (gP p) t false (t.c+k)=thU (zal p) t k:=by
 have hN:=zc6 hp
 obtain ⟨i1,i2,i3,i4⟩:=ht
 apply Bool.eq_iff_iff.2
 rw [zu4]
 simp only[thG,qF,if_false,List.all_eq_true,List.mem_range,zij,zcp,decide_eq_true_eq]
 constructor
 ·intro h i hi
  have:=h i hi
  rwa [hN.cell (by omega) (by omega),hN.cell (by omega) (by omega)]at this
 intro h i hi
 have:=h i hi
 rwa [hN.cell (by omega) (by omega),hN.cell (by omega) (by omega)]
theorem ygr {p:List Txt} (hp:zbw p=true) {t:Pt} (ht:t.In p.length (zao p).length) {k:Nat} (h1:1≤k) (h2:k<t.h):thG (gP p) t true (t.r+k)=thL (zal p) t k:=by
 have hN:=zc6 hp
 obtain ⟨i1,i2,i3,i4⟩:=ht
 apply Bool.eq_iff_iff.2
 rw [zu3]
 simp only[thG,if_true,List.all_eq_true,List.mem_range,zij,zcp,decide_eq_true_eq]
 constructor
 ·intro h i hi
  have:=h i hi
  rwa [hN.cell (by omega) (by omega),hN.cell (by omega) (by omega)]at this
 intro h i hi
 have:=h i hi
 rwa [hN.cell (by omega) (by omega),hN.cell (by omega) (by omega)]
def zqv (g:List (List Int)) (rs:List Rect) (lv:Bool) (x y:Rect):List PV := .bool lv::(za3 g rs::x.cells)++(za3 g rs::y.cells)
abbrev z0w (g:List (List Int)) (rs:List Rect) (t:Pt) (q:Bool × Nat):PV := .agg (zqv g rs q.1 (t.one q).rect (t.two q).rect)
end
end Fw
end Go.Proofs.YtjnbmmjpibpkhaaGreat
