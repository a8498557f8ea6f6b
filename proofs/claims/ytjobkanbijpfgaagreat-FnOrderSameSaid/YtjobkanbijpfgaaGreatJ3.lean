/- Parts of the framework and of the proof: Points of the program, gone through; The text of a grid; strings.Builder: copyCheck and String, in the model's own words; The text of a plan of the program, gone through; How the program numbers rooms and finds the rectangles around them; The numbering of rooms by the program, gone through; The numbering of all rooms of a grid; Grids of the program, gone through; A plan of a grid, as the program finds it; Plans of the program, gone through; Plans that are read, in plain words; Reading plans, gone through; The two closures of relations are the same; The heaviest sums and the least sizes are the same; The program's walls and orders are the specification's; The program's direct orders are the specification's; Sums and counts of cells; The least rectangle around cells, by the program; The least rectangle around a room and its cells, by the specification; Plans that are read are the specification's: grids and names; Plans that are read are the specification's: numbers of rooms and rectangles; Plans that are read are the specification's: rooms fill their rectangles; Areas by the program are the specification's; Areas by the program are the specification's, joined; Arguments of laws as plain data; A slice of bytes as an argument: plain data; The framework, part z: a region in which the bytes of a text become a new row that is written later; Drawing: the reader, gone through; Plans in which no four rooms meet: two orders of rooms go on without end, and each two rooms are in one; The program's closures and walls in words of cells: left of is going on from just left of, above is going on from just above; Orders of a plain plan: each two rooms are in just one. -/
import Derived.Test.YtjobkanbijpfgaaGreatJ2
import Derived.Test.YtjobkanbijpfgaaGreatJ1
import Derived.Lib.Builder
import Derived.Lib.UnsafeStr
import Derived.Lib.Walk
import Derived.WalkKit
import Derived.Laws.Externs
import Derived.Test.YtjobkanbijpfgaaGreatRows
import Derived.ProofKit
import Derived.SliceStrings
import Derived.Lib.ConvBytes
set_option linter.all false
namespace Go.Proofs.YtjobkanbijpfgaaGreat
namespace Fw
open Go
open Nat renaming reduceEqDiff → qE, reduceLeDiff → qL, reduceAdd → qA, reduceMul → qM, le_refl → qR
open List renaming append_nil → qN, mapM_append → qP, mapM_cons → qC, mapM_map → qU, range_succ → qS, take_of_length_le → qT
open Bool renaming and_eq_true → qB, false_eq_true → qF
open Option renaming map_some → qO, map_eq_some_iff → qI
open Int renaming reduceToNat → qZ
theorem zzi {v t:Nat} {z:List Int} (hz:z.length=4):Ev Tryz.prog 120 [.loc 0 v 0 4] ⟨[.arr v 3 1 (z.map (.int .i64))],t⟩ fun r S=>∃ y:List Int,r = .loc 0 v 0 (ddp z).length∧S=⟨[.arr v 3 1 ((ddp z++y).map (.int .i64))],t⟩:=by
 have h:=znd (F:=[]) (R:=[]) (ver:=v) (t:=t) (l:=z) (by omega)
 rw [hz]at h
 exact h
theorem z7u {g:List (List Int)} {nh nw:Nat} (hg:GW g nh nw) (rs:List Rect) (many:Int):PC Tryz.prog 139 [zax g rs,.int .i64 many] (.int .i64 (zuz g many nw nh)) true:=by
 have hl:=hg.1
 obtain ⟨hg1,hg2,hg3,hg4⟩:=hg.2.2
 obtain ⟨row0,hrow0,hrl0,-⟩:=hg.at_ (i:=0) (j:=0) (by omega) (by omega)
 refine PC.of ⟨Tryz.func139,by kernel_rfl,rfl,by kernel_rfl⟩ zar mixed (by show 2≤Tryz.f139.ntmps; decide) ?_
 refine W.r fun K hK=>?_
 simp(disch:=omega)only[↓RU,RV,RH,↓reduceIte,qE,reduceCtorEq,if_pos,↓RS,RG,qA,qM,qL]
 apply hK;clear hK K
 refine W.r fun K hK=>?_
 simp(disch:=omega)only[↓RU,RV,RH,↓reduceIte,qE,reduceCtorEq,if_pos,↓RS,RG,qA,qM,qL]
 apply hK;clear hK K
 refine W.seq ?_
 refine W.r fun K hK=>?_
 simp(disch:=omega)only[↓RU,RV,RH,↓reduceIte,qE,reduceCtorEq,if_pos,↓RS,RG,qA,qM,qL]
 apply hK;clear hK K
 refine W.block ?_
 refine W.loop [0,1,5,6] (fun n vs S=>∃ i t:Nat,n=nh - i∧i≤nh∧(1≤i)∧vs=[zax g rs,.int .i64 many,.int .i64 (zuz g many nw i),.int .i64 (i:Nat)]∧S=⟨[],t⟩) (nh - 1) ?_ ?_
 ·refine ⟨0,1,_,rfl,by omega,qR _,?_,rfl⟩
  simp [Env.put,Env.of,zae,ya1]
 rintro n vs S - ⟨i,t,rfl,h_i,h1i,rfl,rfl⟩
 refine W.seq ?_
 refine W.r fun K hK=>?_
 simp(disch:=omega)only[↓RU,RV,RH,↓reduceIte,qE,reduceCtorEq,if_pos,qN,w64,↓RS,RG,qA,qM,qL,zaa,hl]
 refine zad.pc (zk5 g rs) rfl (.inl rfl) ?_
 simp(disch:=omega)only[↓RU,RV,RH,↓reduceIte,qE,reduceCtorEq,if_pos,qN,w64,↓RS,RG,qA,qM,qL,zaa,hl]
 apply hK;clear hK K
 refine W.cond rfl (fun h=>?_) (fun h=>?_)
 ·try simp only[RL]at h
  have hpb:=zte g many hg4 i
  refine W.skip ?_
  refine xn ?_
  refine W.seq ?_
  refine W.block ?_
  refine W.r fun K hK=>?_
  simp(disch:=omega)only[↓RU,RV,RH,↓reduceIte,qE,reduceCtorEq,if_pos,↓RS,RG,qA,qM,qL]
  apply hK;clear hK K
  refine W.block ?_
  refine W.loop [0,1,5,6,7] (fun n vs S=>∃ k t:Nat,n=nw - k∧k≤nw∧(1≤k)∧vs=[zax g rs,.int .i64 many,.int .i64 (zuz g many nw i+zdy g many i k),.int .i64 (i:Nat),.int .i64 (k:Nat)]∧S=⟨[],t⟩) (nw - 1) ?_ ?_
  ·refine ⟨0,1,_,rfl,by omega,qR _,?_,rfl⟩
   simp [Env.put,Env.of,zz6]
  rintro n vs S - ⟨k,t,rfl,h_k,h1k,rfl,rfl⟩
  refine W.seq ?_
  refine W.r fun K hK=>?_
  simp(disch:=omega)only[↓RU,RV,RH,↓reduceIte,qE,reduceCtorEq,if_pos,qN,w64,↓RS,RG,qA,qM,qL,zaa,hrl0]
  refine zad.pc (zrw hrow0 rs) rfl (.inl rfl) ?_
  simp(disch:=omega)only[↓RU,RV,RH,↓reduceIte,qE,reduceCtorEq,if_pos,qN,w64,↓RS,RG,qA,qM,qL,zaa,hrl0]
  apply hK;clear hK K
  refine W.cond rfl (fun h1=>?_) (fun h1=>?_)
  ·try simp only[RL]at h1
   have hrb:=zir g many i k
   obtain ⟨r1,hr1,hl1,hx1⟩:=hg.at_ (i:=i - 1) (j:=k - 1) (by omega) (by omega)
   obtain ⟨r1b,hr1b,-,hx2⟩:=hg.at_ (i:=i - 1) (j:=k) (by omega) (by omega)
   obtain ⟨r2,hr2,hl2,hx3⟩:=hg.at_ (i:=i) (j:=k - 1) (by omega) (by omega)
   obtain ⟨r2b,hr2b,-,hx4⟩:=hg.at_ (i:=i) (j:=k) (by omega) (by omega)
   obtain rfl:r1=r1b:=by rw [hr1]at hr1b; exact Option.some.inj hr1b
   obtain rfl:r2=r2b:=by rw [hr2]at hr2b; exact Option.some.inj hr2b
   refine W.skip ?_
   refine xn ?_
   refine W.seq ?_
   refine W.block ?_
   refine W.seq_draw (by kernel_rfl) fun K hK=>?_
   simp(disch:=omega)only[↓RU,RV,RH,↓reduceIte,qE,reduceCtorEq,if_pos,w64,↓RS,RG,qA,qM,qL,ty1,ty3,zab,ze1,zc3,zbb,zaa,ze3,zbc,hr1,hx1,hx2,hr2,hx3,hx4,zbl]
   apply hK;clear hK K
   refine W.r fun K hK=>?_
   simp(disch:=omega)only[↓RU,RV,RH,↓reduceIte,qE,reduceCtorEq,if_pos,qN,↓RS,RG,qA,qM,qL]
   refine zad.ev (yet (F:=[]) (R:=[]) (l:=four g i k) rfl) ?_
   rintro _ _ ⟨rfl,z,hz1,hz2,rfl⟩
   simp(disch:=omega)only[↓RU,RV,RH,↓reduceIte,qE,reduceCtorEq,if_pos,qN,↓RS,RG,qA,qM,qL]
   apply hK;clear hK K
   have hz4:z.length=4:=hz1.length_eq
   have hdn:=yft hz1 hz2
   refine W.r fun K hK=>?_
   simp(disch:=omega)only[↓RU,RV,RH,↓reduceIte,qE,reduceCtorEq,if_pos,qN,w64,↓RS,RG,qA,qM,qL,zab,zaa,hdn]
   refine zad.ev (zzi hz4) ?_
   rintro _ _ ⟨y,rfl,rfl⟩
   simp(disch:=omega)only[↓RU,RV,RH,↓reduceIte,qE,reduceCtorEq,if_pos,qN,w64,↓RS,RG,qA,qM,qL,zab,zaa,hdn]
   apply hK;clear hK K
   refine W.cond rfl (fun h2=>?_) (fun h2=>?_)
   ·try simp only[RL]at h2
    refine W.k fun K hK=>?_
    simp(disch:=omega)only[↓RU,RV,RH,↓reduceIte,qE,reduceCtorEq,if_pos,w64,↓RS,RG,qA,qM,qL,zaa]
    apply hK;clear hK K
    refine XbN ?_
    refine xn ?_
    refine W.k fun K hK=>?_
    simp(disch:=omega)only[↓RU,RV,RH,↓reduceIte,qE,reduceCtorEq,if_pos,w64,↓RS,RG,qA,qM,qL,zaa]
    apply hK;clear hK K
    refine xn ?_
    refine ⟨nw - (k+1),by omega,0,k+1,_,rfl,by omega,by omega,?_,rfl⟩
    simp [Env.put,Env.of,zz5 h1k h2,Int.add_assoc]
   try simp only[RL]at h2
   refine W.skip ?_
   refine XbN ?_
   refine xn ?_
   refine W.k fun K hK=>?_
   simp(disch:=omega)only[↓RU,RV,RH,↓reduceIte,qE,reduceCtorEq,if_pos,w64,↓RS,RG,qA,qM,qL,zaa]
   apply hK;clear hK K
   refine xn ?_
   refine ⟨nw - (k+1),by omega,0,k+1,_,rfl,by omega,by omega,?_,rfl⟩
   simp [Env.put,Env.of,zx3 h2,Int.add_assoc]
  try simp only[RL]at h1
  obtain rfl:nw=k:=by omega
  refine W.exit ?_
  refine xe ?_
  refine xe ?_
  refine XBlock.hit ?_
  refine XbN ?_
  refine xn ?_
  refine W.k fun K hK=>?_
  simp(disch:=omega)only[↓RU,RV,RH,↓reduceIte,qE,reduceCtorEq,if_pos,w64,↓RS,RG,qA,qM,qL,zaa]
  apply hK;clear hK K
  refine xn ?_
  refine ⟨nh - (i+1),by omega,0,i+1,_,rfl,by omega,by omega,?_,rfl⟩
  simp [Env.put,Env.of,z7x h1i]
 try simp only[RL]at h
 obtain rfl:nh=i:=by omega
 refine W.exit ?_
 refine xe ?_
 refine xe ?_
 refine XBlock.hit ?_
 refine xn ?_
 refine W.r fun K hK=>?_
 simp(disch:=omega)only[↓RU,RV,RH,↓reduceIte,qE,reduceCtorEq,if_pos,↓RS,RG,qA,qM,qL]
 apply hK;clear hK K
 refine W.ret ?_
 refine Br rfl ?_
 rfl
theorem z56 {g:List (List Int)} {nh nw:Nat} (hg:GW g nh nw) (rs:List Rect):PC Tryz.prog 108 [zax g rs] (.bool (decide (zuz g 4 nw nh=0))) true:=by
 refine PC.of ⟨Tryz.func108,by kernel_rfl,rfl,by kernel_rfl⟩ zar mixed (by show 1≤Tryz.f108.ntmps; decide) ?_
 refine W.r fun K hK=>?_
 simp(disch:=omega)only[↓RU,RV,RH,↓reduceIte,qE,reduceCtorEq,if_pos]
 apply hK;clear hK K
 refine W.r fun K hK=>?_
 simp(disch:=omega)only[↓RU,RV,RH,↓reduceIte,qE,reduceCtorEq,if_pos,qN,w64,zaa]
 refine zad.pc (z7u hg rs 4) rfl (.inl rfl) ?_
 simp(disch:=omega)only[↓RU,RV,RH,↓reduceIte,qE,reduceCtorEq,if_pos,qN,w64,zaa]
 apply hK;clear hK K
 refine W.ret ?_
 refine Br rfl ?_
 rfl
def z6w (z:Int):UInt8:=UInt8.ofNat (97+z.toNat)
def zrg (row:List Int):Txt:=row.map z6w
def zf3 (g:List (List Int)):List Txt:=g.map zrg
theorem ygo {z:Int} (h:0≤z):IntKind.u8.wrap (97+z)=((z6w z).toNat:Int):=by
 obtain ⟨n,rfl⟩:=Int.eq_ofNat_of_zero_le h
 exact ye3
def stB (o:List Txt) (vo vb:Nat) (l:Txt) (vq t:Nat):Store :=
 match l with
 | []=>⟨[.arr vo 9 1 (o.map .str),.arr vb 164 2 [.nilp,.nils]],t⟩
 | l=>⟨[.arr vo 9 1 (o.map .str),.arr vb 164 2 [.ref 1 vb 0,.loc 2 vq 0 l.length],.arr vq 5 1 (l.map eB)],t⟩
theorem ygj {o:List Txt} {vo vb:Nat} {l:Txt} {vq t:Nat} (h:l≠[]):stB o vo vb l vq t=⟨[.arr vo 9 1 (o.map .str),.arr vb 164 2 [.ref 1 vb 0,.loc 2 vq 0 l.length],.arr vq 5 1 (l.map eB)],t⟩:=by
 cases l with
 | nil=>exact absurd rfl h
 | cons a l=>rfl
theorem yen {S:Store} {k f:Nat} {sel:List Nat} (o:List Txt):(o.map PV.str).mapM (rn S k sel (f+1))=some (o.map PV.str):=zvb (by simp [scal])
theorem z4j {S:Store} {im:Bool} {f:Nat} (o:List Txt):(o.map PV.str).mapM (reify S im (f+1))=some (o.map PV.str):=znr (by simp [scal])
theorem z2q (row:List Int):(zrg row).length=row.length:=by simp [zrg]
theorem yeo {row:List Int} (h:1≤row.length):zrg row≠[]:=by
 intro e
 have:=z2q row
 rw [e]at this
 simp at this; omega
theorem z8k {row:List Int} {k:Nat} {z:Int} (h:row[k]?=some z):zrg (row.take (k+1))=zrg (row.take k)++[z6w z]:=by simp [zrg,tk h]
theorem z83 {g:List (List Int)} {o:List Txt} (hl:o.length=g.length) (h:∀ j,j<g.length→o[j]?=(zf3 g)[j]?):o=zf3 g:=by
 refine List.ext_getElem? fun j=>?_
 by_cases hj:j<g.length
 ·exact h j hj
 rw [List.getElem?_eq_none (by omega),List.getElem?_eq_none (by simp [zf3]; omega)]
theorem zm2 {g:List (List Int)} {j:Nat} {row:List Int} (h:g[j]?=some row):(zf3 g)[j]?=some (zrg row):=by simp [zf3,h]
section
open Go Go.RowKit
set_option maxHeartbeats 1000000 in
set_option maxRecDepth 100000 in
theorem zry (b:Nat) (w:World) (h0:w.cell? ⟨b,0,none⟩=some (.pointer (some ⟨b,0,none⟩))) :
  Calls Tryz.prog 170 #[.pointer (some ⟨b,0,none⟩)] w fun e w'=>e = .returned (.tuple #[])∧w'=w:=by
 obtain ⟨j,d,z,hj,_⟩:=(zar 164 (by decide)).1
 go_enter Tryz.func170,Tryz.ntmps170
 go_wp2
 rw [Lib.run_neq_ptr_same w _ Tryz.underlying162 hj]
 go_wp2
 go_end0
 exact ⟨rfl,rfl⟩
theorem yhe (count:Nat) (hn:1≤count):liesAt Tryz.prog Tryz.prog.depth 164 count 0 164 1=true:=by
 have hc:Tryz.prog.cellsOf 164=2:=by kernel_rfl
 have hd:Tryz.prog.depth=(2*(Tryz.prog.types.size+Made.depth)+1)+1:=rfl
 rw [hd]
 simp only[liesAt,Bool.or_eq_true]
 left
 rw [hd]
 simp [rowAt,hc,hn,sameLayout]
set_option maxHeartbeats 1000000 in
set_option maxRecDepth 100000 in
theorem zpz (b n:Nat) (hn:2≤n) (w:World) (h0:w.cell? ⟨b,0,none⟩=some (.pointer none)) (hsh:w.shape? b=some (164,n)) (hfz:w.frozen? ⟨b,0,none⟩=false) :
  Calls Tryz.prog 170 #[.pointer (some ⟨b,0,none⟩)] w fun e w'=>e = .returned (.tuple #[])∧w'=w.setCell ⟨b,0,none⟩ (.pointer (some ⟨b,0,none⟩)):=by
 obtain ⟨j,d,z,hj,hd,hf,hsz,hby,hz,_⟩:=(zar 164 (by decide)).1
 have hjs:j.size≠0:=by rw [hsz]; decide
 have hlies:liesAt Tryz.prog Tryz.prog.depth 164 (n / Tryz.prog.cellsOf 164) 0 164 1=true:=by
  rw [show Tryz.prog.cellsOf 164=2 by kernel_rfl]
  exact yhe _ (by omega)
 go_enter Tryz.func170,Tryz.ntmps170
 go_wp2
 rw [Lib.run_to_unsafe w ⟨b,0,none⟩ Tryz.underlying162 Tryz.underlying204 hj hjs hsh (show 0<n by omega)]
 simp only[Result.andThen]
 rw [Oper.upon_value]
 go_wp2
 rw [run_callFunc_extern Tryz.func189 (by kernel_rfl) (by kernel_rfl) (by kernel_rfl) (e:=Extern.AbiNoEscape.same) (by kernel_rfl)]
 rw [Lib.run_noEscape]
 simp only[Result.andThen]
 rw [Oper.upon_value]
 go_wp2
 rw [Lib.run_from_unsafe w ⟨b,0,none⟩ Tryz.underlying204 Tryz.underlying162 hj hsh hlies]
 simp only[Result.andThen]
 rw [Oper.upon_value]
 go_wp2
 go_end0
 exact ⟨rfl,rfl⟩
set_option maxHeartbeats 1000000 in
set_option maxRecDepth 100000 in
theorem zt7 (b g cap:Nat) (cur:Array Value) (fz:Nat × Nat) (l:List UInt8) (w:World) (hbk:w.cell? ⟨b,1,none⟩=some (.slice (some ⟨g,0,none⟩) l.length cap))
  (hg:w.heap[g]?=some (.cells cur 5 fz)) (hc:l.length≤cur.size) (hcap:cap≠0) (h63:l.length≤9223372036854775807) (h0:l≠[])
  (hl:∀ (j:Nat) x,l[j]?=some x→cur[j]?=some (.int .u8 x.toNat)) :
  Calls Tryz.prog 149 #[.pointer (some ⟨b,0,none⟩)] w fun e w'=>e = .returned (.string ⟨l.toArray⟩)∧w'=w.drew.freeze ⟨g,0,none⟩ l.length:=by
 have c1:w.drew.cell? ⟨b,1,none⟩=some (.slice (some ⟨g,0,none⟩) l.length cap):=hbk
 have hSD:(Builtin.unsafeSliceData_ #[22] 187 #[.slice (some ⟨g,0,none⟩) l.length cap]).run Tryz.prog w.drew = .ok (.pointer (some ⟨g,0,none⟩)) w.drew :=
  Lib.run_unsafeSliceData_row _ _ _ _ _ _ hcap
 have hUS:(Builtin.unsafeString_ #[187,3] 9 #[.pointer (some ⟨g,0,none⟩),.int .i64 l.length]).run Tryz.prog w.drew = .ok (.string ⟨l.toArray⟩) (w.drew.freeze ⟨g,0,none⟩ l.length):=by
  have hg':w.drew.heap[g]?=some (.cells cur 5 fz):=hg
  refine Lib.run_unsafeString_row w.drew 187 3 9 5 Tryz.underlying187 (by kernel_rfl) g cur.size (by simp [World.shape?,hg']) l h0 hc h63 ?_
  intro j x hx
  by_cases hj:j=0
  ·subst hj; simp [World.cell?,Addr.add,hg',hl 0 x hx]
  simp [World.cell?,Addr.add,hj,hg',hl j x hx]
 go_enter Tryz.func149,Tryz.ntmps149
 go_wp2
 go_region
 all_goals (go_wp2; go_ret; exact ⟨rfl,rfl⟩)
variable {F:Nat→Prop} {G:GSt} {w:World}
theorem zn3 {S:Store} {o ver:Nat} {c0 c1:PV} (hS:S.obs[o]?=some (.arr ver 164 2 [c0,c1])) (h0:c0 = .nilp∨c0 = .ref o ver 0) :
  Ev Tryz.prog 170 [.ref o ver 0] S fun v S'=>v = .tup []∧S'=⟨S.obs.set o (.arr ver 164 2 [.ref o ver 0,c1]),S.tick⟩:=by
 refine ⟨Fn.ent ⟨Tryz.func170,by kernel_rfl,rfl,by kernel_rfl⟩,fun F G w cargs hE hi hl hv=>?_⟩
 subst hE
 obtain ⟨c,rfl⟩:∃ c,cargs = #[c]:=by
  match cargs,hl with
  | ⟨[c]⟩,_=>exact ⟨c,rfl⟩
 have hco:G.er.cellsOf o ver=some [c0,c1]:=by simp [Store.cellsOf,hS]
 obtain ⟨et,sz,l,hG,rfl,hver⟩:=(hv 0 _ c rfl rfl).ref_at hi hco
 obtain ⟨l2,hG2⟩:=zgn hS
 rw [hG]at hG2
 cases hG2
 obtain ⟨cs,⟨fz,hb,hz⟩,hcs,hle,hcell⟩:=hi.arr o _ _ _ _ l hG
 obtain ⟨-,v0,hv0,hr0⟩:=hcell 0 c0 rfl
 obtain ⟨hc1,v1,hv1,hr1⟩:=hcell 1 c1 rfl
 have hle2:2≤cs.size:=by simp only[List.length_cons,List.length_nil]at hle; omega
 have hself:∀ (G':GSt),G.tick≤G'.tick→(∀ ob l',G'.obs[o]?=some (ob,l')→ob.ver=ver→∃ et sz cells,ob = .arr ver et sz cells∧l'=l)→VR w.heap F G' (.ref o ver 0) (.pointer (some ⟨l.blk,0,none⟩)):=by
  intro G' ht h
  refine .ref _ _ _ _ (Nat.lt_of_lt_of_le hver ht) fun ob l' h1 h2=>?_
  obtain ⟨a,b,c,d,rfl⟩:=h ob l' h1 h2
  exact ⟨a,b,c,d,rfl⟩
 have hcell0:w.cell? ⟨l.blk,0,none⟩=some v0:=by simp [World.cell?,hb,hv0]
 have put:∀ w':World,w'.os=w.os→w'.tape=w.tape→w'.output=w.output→w.drawn≤w'.drawn→w'.heap.size=w.heap.size→(∀ b,b≠l.blk→w'.heap[b]?=w.heap[b]?) →
   (∃ cs':Array Value,w'.heap[l.blk]?=some (.cells cs' 164 fz)∧cs'.size=cs.size∧cs'[0]?=some (.pointer (some ⟨l.blk,0,none⟩))∧cs'[1]?=some v1) →
   Inv F ⟨G.obs.set o (.arr ver 164 2 [.ref o ver 0,c1],l),G.tick⟩ w'∧Next F G w F ⟨G.obs.set o (.arr ver 164 2 [.ref o ver 0,c1],l),G.tick⟩ w':=by
  rintro w' h1 h2 h3 hd h4 h5 ⟨cs',k1,k2,k3,k4⟩
  refine zld hi hG _ l G.tick w' h1 h2 h3 hd (by omega) (.inl rfl) (fun b _ hb=>h5 b hb) (qR _) (show ver<G.tick from hver) (.inl ⟨rfl,by simp [Ob.like],rfl⟩) ?_
  refine ⟨cs',⟨fz,k1,hz.of k2⟩,by omega,by simp; omega,?_⟩
  rintro (_ | _ | i) p hp
  ·simp at hp; subst hp
   exact ⟨rfl,_,k3,hself G (qR _) fun ob l' h1 h2=>by rw [hG]at h1; cases h1; exact ⟨_,_,_,rfl,rfl⟩⟩
  ·simp at hp; subst hp
   exact ⟨hc1,v1,k4,hr1⟩
  simp at hp
 have er:∀ ob,(⟨G.obs.set o (ob,l),G.tick⟩:GSt).er=⟨G.er.obs.set o ob,G.er.tick⟩:=by intro ob; simp [GSt.er,List.map_set]
 rcases h0 with rfl | rfl
 ·have hv0':v0 = .pointer none:=by cases hr0 with | imm _ _ h=>cases h; rfl
  subst hv0'
  refine (zpz l.blk cs.size hle2 w hcell0 (by simp [World.shape?,hb]) (by obtain ⟨lo,hi'⟩:=fz; simp only[World.frozen?,hb,Bool.and_eq_false_iff,decide_eq_false_iff_not]; rcases hz with h | h <;> simp only at h <;> omega)).mono ?_
  rintro e w' ⟨rfl,rfl⟩
  obtain ⟨i1,n1⟩:=put (w.setCell ⟨l.blk,0,none⟩ (.pointer (some ⟨l.blk,0,none⟩))) rfl rfl rfl (qR _) (by simp) (fun b hb=>by simp [World.setCell,Array.getElem?_modify,Ne.symm hb])
   ⟨cs.setIfInBounds 0 (.pointer (some ⟨l.blk,0,none⟩)),by simp [World.setCell,Array.getElem?_modify,hb],by simp,by rw [Array.getElem?_setIfInBounds,if_pos rfl,if_pos (by omega)],by simp [Array.getElem?_setIfInBounds,hv1]⟩
  exact ⟨_,_,F,_,rfl,⟨rfl,er _⟩,i1,n1,.tup [] #[] rfl (by simp)⟩
 have hv0':v0 = .pointer (some ⟨l.blk,0,none⟩):=by
  obtain ⟨_,_,l3,h1,h2,_⟩:=hr0.ref_at hi hco
  rw [hG]at h1; cases h1; exact h2
 subst hv0'
 refine (zry l.blk w hcell0).mono ?_
 rintro e w' ⟨rfl,rfl⟩
 obtain ⟨i1,n1⟩:=put w' rfl rfl rfl (qR _) rfl (fun _ _=>rfl) ⟨cs,hb,rfl,hv0,hv1⟩
 exact ⟨_,_,F,_,rfl,⟨rfl,er _⟩,i1,n1,.tup [] #[] rfl (by simp)⟩
theorem zow {A:List Ob} {t ver vq:Nat} {c0:PV} {l:Txt} (h0:l≠[]) :
  Ev Tryz.prog 149 [.ref A.length ver 0] ⟨A++[.arr ver 164 2 [c0,.loc (A.length+1) vq 0 l.length],.arr vq 5 1 (l.map eB)],t⟩ fun v S'=>v = .str l∧S'=⟨A,t⟩:=by
 refine ⟨Fn.ent ⟨Tryz.func149,by kernel_rfl,rfl,by kernel_rfl⟩,fun F G w cargs hE hi hl hv=>?_⟩
 obtain ⟨c,rfl⟩:∃ c,cargs = #[c]:=by
  match cargs,hl with
  | ⟨[c]⟩,_=>exact ⟨c,rfl⟩
 have hobs:G.er.obs=A++[.arr ver 164 2 [c0,.loc (A.length+1) vq 0 l.length],.arr vq 5 1 (l.map eB)]:=by rw [hE]
 have htk:G.tick=t:=congrArg Store.tick hE
 have hSo:G.er.obs[A.length]?=some (.arr ver 164 2 [c0,.loc (A.length+1) vq 0 l.length]):=by rw [hobs]; simp
 have hSq:G.er.obs[A.length+1]?=some (.arr vq 5 1 (l.map eB)):=by rw [hobs]; simp
 obtain ⟨et,sz,lo,hGo,rfl,hver⟩:=(hv 0 _ c rfl rfl).ref_at hi (cells:=[c0,.loc (A.length+1) vq 0 l.length]) (by simp [Store.cellsOf,hSo])
 obtain ⟨lo2,hGo2⟩:=zgn hSo
 rw [hGo]at hGo2
 cases hGo2
 obtain ⟨lq,hGq⟩:=zgn hSq
 obtain ⟨cs,⟨fo,hb,-⟩,hcs,hle,hcell⟩:=hi.arr _ _ _ _ _ lo hGo
 obtain ⟨cq,⟨fq,hbq,-⟩,hcq,hleq,hcellq⟩:=hi.arr _ _ _ _ _ lq hGq
 obtain ⟨-,v0,hv0,hr0⟩:=hcell 0 c0 rfl
 obtain ⟨-,v1,hv1,hr1⟩:=hcell 1 _ rfl
 obtain ⟨_,_,lq2,cap,hGq2,rfl,_,hnc,hcm,hroom⟩:=hr1.loc_at hi (cells:=l.map eB) (by simp [Store.cellsOf,hSq])
 rw [hGq]at hGq2
 cases hGq2
 have hl0:l.length≠0:=by simpa using h0
 have hc1:w.cell? ⟨lo.blk,1,none⟩=some (.slice (some ⟨lq.blk,0,none⟩) l.length cap):=by simp [World.cell?,hb,hv1]
 refine (zt7 lo.blk lq.blk cap cq fq l w hc1 hbq (by simp at hleq; omega) (by omega) (by unfold maxLen at hcm; omega) h0 ?_).mono ?_
 ·intro j x hx
  obtain ⟨-,v,k1,k2⟩:=hcellq j (eB x) (by simp [hx])
  rw [k1,k2.int]
 ·rintro e w' ⟨rfl,rfl⟩
  have hoth:∀ b,b≠lq.blk→(w.drew.freeze ⟨lq.blk,0,none⟩ l.length).heap[b]?=w.heap[b]?:=by
   intro b hb'
   show _=w.drew.heap[b]?
   simp only[World.freeze,if_neg hl0,Array.getElem?_modify,Ne.symm hb',if_false]
  have hsz:(w.drew.freeze ⟨lq.blk,0,none⟩ l.length).heap.size=w.heap.size:=by
   show (w.drew.freeze ⟨lq.blk,0,none⟩ l.length).heap.size=w.drew.heap.size
   simp only[World.freeze,if_neg hl0,Array.size_modify]
  have hos:∀ w2:World,(w2.freeze ⟨lq.blk,0,none⟩ l.length).os=w2.os∧(w2.freeze ⟨lq.blk,0,none⟩ l.length).tape=w2.tape∧(w2.freeze ⟨lq.blk,0,none⟩ l.length).output=w2.output:=by
   intro w2; simp [World.freeze,hl0]
  have nx:Next F G w F (G.take A.length) (w.drew.freeze ⟨lq.blk,0,none⟩ l.length) :=
   ⟨(hos _).1,(hos _).2.1,(hos _).2.2,by omega,fun _ h=>h,fun _ h => .inl h,fun o x h => .inr ⟨o,x,zd8 h,rfl⟩,qR _,
    fun b _ hG=>hoth b fun e=>hG _ _ hGq e.symm,fun _ ob' _ h _=>⟨ob',zd8 h,rfl,Ob.like.refl _⟩,by simp [World.freeze,hl0]⟩
  have tlt:∀ (o:Nat) x,(G.take A.length).obs[o]?=some x→o<A.length:=by
   intro o x hx
   have:=(List.getElem?_eq_some_iff.1 hx).1
   simp only[GSt.take,List.length_take]at this; omega
  refine ⟨.str l,_,F,G.take A.length,rfl,⟨rfl,?_⟩,zkq (fun b hb=>by rw [hsz]; exact hi.fr b hb) (fun o ob l' h=>hi.ver o ob l' (zd8 h)) (fun o ob l' h=>hi.nF o ob l' (zd8 h))
   (fun o ob l' h=>(hi.holds (zd8 h)).next hi nx (hoth _ fun e=>?_)) (fun o o' x x' h h'=>hi.inj o o' x x' (zd8 h) (zd8 h')),nx,.imm _ _ (.str _ _ rfl)⟩
  ·rw [zlm,hE]; simp [Store.take]
  have:=hi.inj o _ _ _ (zd8 h) hGq e
  have:=tlt o _ h
  omega
end
theorem zvu {o:List Txt} {vo vb t:Nat} (x:UInt8):Ev Tryz.prog 148 [.ref 1 vb 0,eB x] ⟨[.arr vo 9 1 (o.map .str),.arr vb 164 2 [.nilp,.nils]],t⟩ fun v S=>v = .undef∧∃ vq t2:Nat,S=⟨[.arr vo 9 1 (o.map .str),.arr vb 164 2 [.ref 1 vb 0,.loc 2 vq 0 ([x]).length],.arr vq 5 1 (([x]).map eB)],t2⟩:=by
 refine Ev.of ⟨Tryz.func148,by kernel_rfl,rfl,by kernel_rfl⟩ zar mixed (by show 2≤Tryz.f148.ntmps; decide) ?_
 refine W.r fun K hK=>?_
 simp(disch:=omega)only[↓RU,RV,RH,↓reduceIte,qE,reduceCtorEq,if_pos,↓RS,RG,qA,qM,qL]
 apply hK;clear hK K
 refine W.r fun K hK=>?_
 simp(disch:=omega)only[↓RU,RV,RH,↓reduceIte,qE,reduceCtorEq,if_pos,qN,↓RS,RG,qA,qM,qL,List.set_cons_succ,List.set_cons_zero]
 refine zad.ev (zn3 (S:=⟨[.arr vo 9 1 (o.map .str),.arr vb 164 2 [.nilp,.nils]],t⟩) (o:=1) rfl (.inl rfl)) ?_
 rintro _ _ ⟨rfl,rfl⟩
 simp(disch:=omega)only[↓RU,RV,RH,↓reduceIte,qE,reduceCtorEq,if_pos,qN,↓RS,RG,qA,qM,qL,List.set_cons_succ,List.set_cons_zero]
 apply hK;clear hK K
 refine W.joinS [] (fun vs S=>vs=[]∧∃ vq t2:Nat,S=⟨[.arr vo 9 1 (o.map .str),.arr vb 164 2 [.ref 1 vb 0,.loc 2 vq 0 ([x]).length],.arr vq 5 1 (([x]).map eB)],t2⟩) ?_ ?_
 ·
  refine W.k fun K hK=>?_
  simp(disch:=omega)only[↓RU,RV,RH,↓reduceIte,qE,reduceCtorEq,if_pos,↓RS,RG,qA,qM,qL,ty6,ty8,yhi,yhj,zei]
  apply hK;clear hK K
  refine xn ?_
  refine ⟨2,[3],[],⟨[.arr vo 9 1 (o.map .str),.arr vb 164 2 [.ref 1 vb 0,.loc 2 (t+2) 0 ([x]).length],.arr (t+2) 5 1 (([x]).map eB)],(t+3)⟩,?_,?_,rfl,t+2,t+3,rfl⟩
  ·simp [-qU,Env.put,Env.of,zae,zb1,zaj,zao,zay,za0,zcc,zcd,zdc,zcb,zbi,zce,zdb,zdd,zbk,zbj,za1,zca,zcf,zda,zbg,zbf,zaz,zbh,zb9,zfe,qS,qP,qC]
  simp [-qU,Env.put,Env.of,zae,zb1,zaj,zao,zay,za0,zcc,zcd,zdc,zcb,zbi,zce,zdb,zdd,zbk,zbj,za1,zca,zcf,zda,zbg,zbf,zaz,zbh,zb9,zfe,qS,qP,qC,yen]
 rintro vs S - ⟨rfl,vq,t2,rfl⟩
 refine W.r fun K hK=>?_
 simp(disch:=omega)only[↓RU,RV,RH,↓reduceIte,qE,reduceCtorEq,if_pos,↓RS,RG,qA,qM,qL]
 apply hK;clear hK K
 refine W.ret ?_
 refine Br rfl ?_
 exact ⟨_,rfl,vq,t2,zak⟩
theorem zvv {o:List Txt} {vo vb vq t:Nat} {l:Txt} (hl:l.length<2147483647) (x:UInt8):Ev Tryz.prog 148 [.ref 1 vb 0,eB x] ⟨[.arr vo 9 1 (o.map .str),.arr vb 164 2 [.ref 1 vb 0,.loc 2 vq 0 (l).length],.arr vq 5 1 ((l).map eB)],t⟩ fun v S=>v = .undef∧∃ vq t2:Nat,S=⟨[.arr vo 9 1 (o.map .str),.arr vb 164 2 [.ref 1 vb 0,.loc 2 vq 0 (l++[x]).length],.arr vq 5 1 ((l++[x]).map eB)],t2⟩:=by
 refine Ev.of ⟨Tryz.func148,by kernel_rfl,rfl,by kernel_rfl⟩ zar mixed (by show 2≤Tryz.f148.ntmps; decide) ?_
 refine W.r fun K hK=>?_
 simp(disch:=omega)only[↓RU,RV,RH,↓reduceIte,qE,reduceCtorEq,if_pos,↓RS,RG,qA,qM,qL]
 apply hK;clear hK K
 refine W.r fun K hK=>?_
 simp(disch:=omega)only[↓RU,RV,RH,↓reduceIte,qE,reduceCtorEq,if_pos,qN,↓RS,RG,qA,qM,qL,List.set_cons_succ,List.set_cons_zero]
 refine zad.ev (zn3 (S:=⟨[.arr vo 9 1 (o.map .str),.arr vb 164 2 [.ref 1 vb 0,.loc 2 vq 0 (l).length],.arr vq 5 1 ((l).map eB)],t⟩) (o:=1) rfl (.inr rfl)) ?_
 rintro _ _ ⟨rfl,rfl⟩
 simp(disch:=omega)only[↓RU,RV,RH,↓reduceIte,qE,reduceCtorEq,if_pos,qN,↓RS,RG,qA,qM,qL,List.set_cons_succ,List.set_cons_zero]
 apply hK;clear hK K
 refine W.r fun K hK=>?_
 simp(disch:=omega)only[↓RU,RV,RH,↓reduceIte,qE,reduceCtorEq,if_pos,↓RS,RG,qA,qM,qL,ty6,ty8,yhi,yhj,zei]
 apply hK;clear hK K
 refine W.r fun K hK=>?_
 simp(disch:=omega)only[↓RU,RV,RH,↓reduceIte,qE,reduceCtorEq,if_pos,↓RS,RG,qA,qM,qL]
 apply hK;clear hK K
 refine W.ret ?_
 refine Br rfl ?_
 exact ⟨3,rfl,t+1,t+2,by simp [za3]⟩
theorem zy4 {o:List Txt} {vo vb vq t:Nat} {l:Txt} (hl:l.length<2147483647) (x:UInt8):Ev Tryz.prog 148 [.ref 1 vb 0,eB x] (stB o vo vb l vq t) fun v S=>v = .undef∧∃ vq2 t2:Nat,S=stB o vo vb (l++[x]) vq2 t2:=by
 cases l with
 | nil=>exact zvu x
 | cons a l=>exact zvv hl x
theorem z3f {o:List Txt} {vo vb vq t:Nat} {l:Txt} (h0:l≠[]):Ev Tryz.prog 149 [.ref 1 vb 0] (stB o vo vb l vq t) fun v S=>v = .str l∧S=⟨[.arr vo 9 1 (o.map .str)],t⟩:=by
 rw [ygj h0]
 exact zow (A:=[.arr vo 9 1 (o.map .str)]) h0
theorem z86 {g:List (List Int)} {nh nw:Nat} (hg:GW g nh nw) (rs:List Rect) (hz:∀ r∈g,∀ z∈r,0≤z∧z≤100):PC Tryz.prog 130 [zax g rs] (zaq (zf3 g)) true:=by
 have hl:=hg.1
 obtain ⟨hg1,hg2,hg3,hg4⟩:=hg.2.2
 refine PC.of ⟨Tryz.func130,by kernel_rfl,rfl,by kernel_rfl⟩ zar mixed (by show 1≤Tryz.f130.ntmps; decide) ?_
 refine W.r fun K hK=>?_
 simp(disch:=omega)only[↓RU,RV,RH,↓reduceIte,qE,reduceCtorEq,if_pos,↓RS,RG,qA,qM,qL]
 apply hK;clear hK K
 refine W.r fun K hK=>?_
 simp(disch:=omega)only[↓RU,RV,RH,↓reduceIte,qE,reduceCtorEq,if_pos,qN,↓RS,RG,qA,qM,qL,ty5,zac,hl,zew,zpi,zd6]
 refine zad.pc (zk5 g rs) rfl (.inl rfl) ?_
 simp(disch:=omega)only[↓RU,RV,RH,↓reduceIte,qE,reduceCtorEq,if_pos,qN,↓RS,RG,qA,qM,qL,ty5,zac,hl,zew,zpi,zd6]
 apply hK;clear hK K
 refine W.seq ?_
 refine W.r fun K hK=>?_
 simp(disch:=omega)only[↓RU,RV,RH,↓reduceIte,qE,reduceCtorEq,if_pos,↓RS,RG,qA,qM,qL,ty1,ty3,zab,ze1,zc3,zbb,zaa,ze3,zbc,hl]
 apply hK;clear hK K
 refine W.block ?_
 refine W.loop [0,3,15,16,17] (fun n vs S=>∃ (i vo t:Nat) (o:List Txt),n=nh - i∧i≤nh∧o.length=nh∧(∀ j,j<i→o[j]?=(zf3 g)[j]?)∧vs=[zax g rs,.loc 0 vo 0 nh,zer g,.int .i64 nh,.int .i64 (i:Nat)]∧S=⟨[.arr vo 9 1 (o.map .str)],t⟩) nh ?_ ?_
 ·refine ⟨1,0,0,1,List.replicate nh [],rfl,Nat.zero_le _,by simp,fun j h=>absurd h (by omega),?_,?_⟩
  ·simp [Env.put,Env.of,zae,hl]
  simp [za3,zpi]
 rintro n vs S - ⟨i,vo,t,o,rfl,h_i,hol,hdone,rfl,rfl⟩
 refine W.r fun K hK=>?_
 simp(disch:=omega)only[↓RU,RV,RH,↓reduceIte,qE,reduceCtorEq,if_pos,w64,↓RS,RG,qA,qM,qL,zaa]
 apply hK;clear hK K
 refine W.seq ?_
 refine W.cond rfl (fun h=>?_) (fun h=>?_)
 ·try simp only[RL]at h
  obtain ⟨row,hrow,hrm⟩:=zag (show i<g.length by omega)
  have hrl:=hg.2.1 row hrm
  have hrz:=hz row hrm
  refine W.skip ?_
  refine xn ?_
  refine W.seq ?_
  refine W.block ?_
  refine W.r fun K hK=>?_
  simp(disch:=omega)only[↓RU,RV,RH,↓reduceIte,qE,reduceCtorEq,if_pos,↓RS,RG,qA,qM,qL,ty1,zab,zc3,zaa,hrow]
  apply hK;clear hK K
  refine W.r fun K hK=>?_
  simp(disch:=omega)only[↓RU,RV,RH,↓reduceIte,qE,reduceCtorEq,if_pos,↓RS,RG,qA,qM,qL,ty6,ty8,yhi,yhj,zei]
  apply hK;clear hK K
  refine W.seq ?_
  refine W.r fun K hK=>?_
  simp(disch:=omega)only[↓RU,RV,RH,↓reduceIte,qE,reduceCtorEq,if_pos,↓RS,RG,qA,qM,qL,zab,zaa,hrl]
  apply hK;clear hK K
  refine W.block ?_
  refine W.loop [0,3,15,16,17,4,6,22,23,24] (fun n vs S=>∃ (k vb vq t:Nat),n=nw - k∧k≤nw∧vs=[zax g rs,.loc 0 vo 0 nh,zer g,.int .i64 nh,.int .i64 (i:Nat),.int .i64 (i:Nat),.ref 1 vb 0,eInts row,.int .i64 nw,.int .i64 (k:Nat)]∧S=stB o vo vb (zrg (row.take k)) vq t) nw ?_ ?_
  ·refine ⟨2,0,_,0,_,rfl,Nat.zero_le _,?_,rfl⟩
   simp [Env.put,Env.of,hrl]
  rintro n vs S - ⟨k,vb,vq,t,rfl,h_k,rfl,rfl⟩
  refine W.r fun K hK=>?_
  simp(disch:=omega)only[↓RU,RV,RH,↓reduceIte,qE,reduceCtorEq,if_pos,w64,↓RS,RG,qA,qM,qL,zaa]
  apply hK;clear hK K
  refine W.seq ?_
  refine W.cond rfl (fun h1=>?_) (fun h1=>?_)
  ·try simp only[RL]at h1
   obtain ⟨z,hzk,hzm⟩:=zag (show k<row.length by omega)
   have hzb:=hrz z hzm
   have hul:=ygo hzb.1
   refine W.skip ?_
   refine xn ?_
   refine W.seq ?_
   refine W.block ?_
   refine W.r fun K hK=>?_
   simp(disch:=omega)only[↓RU,RV,RH,↓reduceIte,qE,reduceCtorEq,if_pos,↓RS,RG,qA,qM,qL,zab,zaa,hzk]
   apply hK;clear hK K
   refine W.k fun K hK=>?_
   simp(disch:=omega)only[↓RU,RV,RH,↓reduceIte,qE,reduceCtorEq,if_pos,w64,w64,qN,↓RS,RG,qA,qM,qL,zaa,zei,hul]
   refine zad.ev (zy4 (by rw [z2q,List.length_take]; omega) (z6w z)) ?_
   rintro _ _ ⟨rfl,vq2,t2,rfl⟩
   simp(disch:=omega)only[↓RU,RV,RH,↓reduceIte,qE,reduceCtorEq,if_pos,w64,w64,qN,↓RS,RG,qA,qM,qL,zaa,zei,hul]
   apply hK;clear hK K
   refine XbN ?_
   refine xn ?_
   refine W.k fun K hK=>?_
   simp(disch:=omega)only[↓RU,RV,RH,↓reduceIte,qE,reduceCtorEq,if_pos,w64,↓RS,RG,qA,qM,qL,zaa]
   apply hK;clear hK K
   refine xn ?_
   refine ⟨nw - (k+1),by omega,_,k+1,vb,vq2,t2,rfl,by omega,?_,by rw [z8k hzk]; exact zak⟩
   simp [Env.put,Env.of]
  try simp only[RL]at h1
  obtain rfl:nw=k:=by omega
  refine W.exit ?_
  refine xe ?_
  refine xe ?_
  refine XBlock.hit ?_
  refine xn ?_
  refine W.k fun K hK=>?_
  have htk:row.take nw=row:=qT (by omega)
  rw [htk]
  have hne:=yeo (row:=row) (by omega)
  simp(disch:=omega)only[↓RU,RV,RH,↓reduceIte,qE,reduceCtorEq,if_pos,qN,↓RS,RG,qA,qM,qL,ty5,zac,hol,zb0,zrk]
  refine zad.ev (z3f hne) ?_
  rintro _ _ ⟨rfl,rfl⟩
  simp(disch:=omega)only[↓RU,RV,RH,↓reduceIte,qE,reduceCtorEq,if_pos,qN,↓RS,RG,qA,qM,qL,ty5,zac,hol,zb0,zrk]
  apply hK;clear hK K
  refine XbN ?_
  refine xn ?_
  refine W.k fun K hK=>?_
  simp(disch:=omega)only[↓RU,RV,RH,↓reduceIte,qE,reduceCtorEq,if_pos,w64,↓RS,RG,qA,qM,qL,zaa]
  apply hK;clear hK K
  refine xn ?_
  refine ⟨nh - (i+1),by omega,1,i+1,vo,t,o.set i (zrg row),rfl,by omega,by simp [hol],?_,?_,?_⟩
  ·intro j hj
   by_cases e:j=i
   ·subst e; rw [zm2 hrow,List.getElem?_set,if_pos rfl,if_pos (by omega)]
   rw [List.getElem?_set,if_neg (Ne.symm e)]; exact hdone j (by omega)
  ·simp [Env.put,Env.of]
  simp [za3]
 try simp only[RL]at h
 obtain rfl:nh=i:=by omega
 refine W.exit ?_
 refine xe ?_
 refine xe ?_
 refine XBlock.hit ?_
 refine xn ?_
 refine W.r fun K hK=>?_
 simp(disch:=omega)only[↓RU,RV,RH,↓reduceIte,qE,reduceCtorEq,if_pos,↓RS,RG,qA,qM,qL]
 apply hK;clear hK K
 refine W.ret ?_
 refine Br rfl ?_
 have hdo:=z83 (by omega) (fun j hj=>hdone j (by omega))
 subst hdo
 obtain rfl:nh=(zf3 g).length:=hol.symm
 exact zcl (k:=9) rfl (by simp) (z4j _)
def mE (ks:List Int):List (PV × PV):=ks.zipIdx.map fun q=>(.int .i64 q.1,.int .i64 ((q.2:Nat):Int))
theorem zw9 (ks:List Int):(mE ks).length=ks.length:=by simp [mE]
theorem ycn (ks:List Int) (z:Int):mE (ks++[z])=mE ks++[(.int .i64 z,.int .i64 ((ks.length:Nat):Int))]:=by simp [mE,List.zipIdx_append]
theorem z0b {q:IntKind} {a b:Int}:zhe (.int q a) (.int q b)=some (decide (a=b)):=by
 simp only[zhe]
 by_cases h:a=b <;> simp [h]
theorem zng {z:Int}:∀ (ks:List Int) (i:Nat),findKey (.int .i64 z) ((ks.zipIdx i).map fun q=>(PV.int .i64 q.1,PV.int .i64 ((q.2:Nat):Int))) i=some (if ks.idxOf z=ks.length then none else some (i+ks.idxOf z,.int .i64 ((i+ks.idxOf z:Nat):Int)))
 | [],i=>by simp [findKey]
 | a::ks,i=>by
  simp only[List.zipIdx_cons,List.map_cons,findKey,z0b]
  by_cases h:z=a
  ·subst h
   simp [List.idxOf_cons]
  have h':(a == z)=false:=by simpa using Ne.symm h
  have:=zng (z:=z) ks (i+1)
  simp only[h,decide_false]
  rw [this,List.idxOf_cons,h']
  simp only[cond_false,List.length_cons,Nat.add_right_cancel_iff]
  have e:i+1+ks.idxOf z=i+(ks.idxOf z+1):=by omega
  rw [e]
theorem zob {ks:List Int} {z:Int} (h:ks.idxOf z=ks.length):findKey (.int .i64 z) (mE ks) 0=some none:=by
 rw [mE,zng,if_pos h]
theorem zwt {ks:List Int} {z:Int} (h:¬ ks.idxOf z=ks.length):findKey (.int .i64 z) (mE ks) 0=some (some (ks.idxOf z,.int .i64 ((ks.idxOf z:Nat):Int))):=by
 rw [mE,zng,if_neg h]; simp
def Rect.Fit (b:Rect):Prop:=0≤b.row∧0≤b.col∧1≤b.high∧1≤b.wide∧b.row+b.high≤6∧b.col+b.wide≤6
theorem Rect.Fit.in_ {b:Rect} (h:b.Fit):b.In 1000:=by unfold Rect.Fit at h; unfold Rect.In; omega
theorem Rect.Fit.both {b o:Rect} (h:b.Fit) (k:o.Fit):(b.both o).Fit:=by
 unfold Rect.Fit at *
 simp only[Rect.both]
 omega
def zg3 (r c:Nat):Rect:=⟨r,c,1,1⟩
theorem zfl {r c:Nat} (hr:r<6) (hc:c<6):(zg3 r c).Fit:=by unfold Rect.Fit zg3; simp only; omega
theorem zdx {r c:Nat}:(zg3 r c).cells=[.int .i64 r,.int .i64 c,.int .i64 1,.int .i64 1]:=rfl
def zie (ks:List Int) (z:Int):List Int:=if ks.idxOf z=ks.length then ks++[z] else ks
def zi5 (ks:List Int) (rs:List Rect) (z:Int) (q:Rect):List Rect:=if ks.idxOf z=ks.length then rs++[q] else rs
def zpl (ks:List Int) (rs:List Rect) (z:Int) (q:Rect):List Rect:=(zi5 ks rs z q).set (ks.idxOf z) (((zi5 ks rs z q).getD (ks.idxOf z) q).both q)
def zr5 (ks:List Int) (rs:List Rect):Prop:=rs.length=ks.length∧∀ b∈rs,b.Fit
theorem zr5.nil:zr5 [] []:=⟨rfl,by simp⟩
theorem zhr {ks:List Int} {z:Int}:ks.idxOf z≤ks.length:=List.idxOf_le_length
theorem zr5.in_ {ks:List Int} {rs:List Rect} (h:zr5 ks rs) {z:Int} {q:Rect} (hq:q.Fit):(zi5 ks rs z q).length=(zie ks z).length∧(∀ b∈zi5 ks rs z q,b.Fit)∧∃ b,(zi5 ks rs z q)[ks.idxOf z]?=some b∧b.Fit:=by
 have h1:=h.1
 have h2:=zhr (ks:=ks) (z:=z)
 have hf:∀ b∈zi5 ks rs z q,b.Fit:=by
  unfold zi5
  split
  ·intro b hb
   rcases List.mem_append.1 hb with hb | hb
   ·exact h.2 b hb
   rw [List.mem_singleton]at hb; subst hb; exact hq
  exact h.2
 have hl:(zi5 ks rs z q).length=(zie ks z).length:=by
  unfold zi5 zie; split <;> simp [h1]
 refine ⟨hl,hf,?_⟩
 obtain ⟨b,hb,hm⟩:=zag (show ks.idxOf z<(zi5 ks rs z q).length by rw [hl]; unfold zie; split <;> (try rw [List.length_append,List.length_singleton]) <;> omega)
 exact ⟨b,hb,hf b hm⟩
theorem zr5.step {ks:List Int} {rs:List Rect} (h:zr5 ks rs) {z:Int} {q:Rect} (hq:q.Fit):zr5 (zie ks z) (zpl ks rs z q):=by
 obtain ⟨h1,h2,b,hb,hbf⟩:=h.in_ (z:=z) hq
 refine ⟨by rw [zpl,List.length_set,h1],fun c hc=>?_⟩
 unfold zpl at hc
 rcases List.mem_or_eq_of_mem_set hc with hc | rfl
 ·exact h2 c hc
 rw [List.getD_eq_getElem?_getD,hb]; exact hbf.both hq
theorem z0c {ks:List Int} {rs:List Rect} {z:Int} {q b:Rect} (hb:(zi5 ks rs z q)[ks.idxOf z]?=some b):zpl ks rs z q=(zi5 ks rs z q).set (ks.idxOf z) (b.both q):=by
 rw [zpl,List.getD_eq_getElem?_getD,hb]; rfl
theorem zj6 {rs:List Rect} {n:Nat} {r:Rect} (h:n<rs.length):(rcs rs).take (n*4)++r.cells++(rcs rs).drop (n*4+4)=rcs (rs.set n r):=yef h
theorem zz7 {S:Store} {k f:Nat} {sel:List Nat} (ks:List Int):((mE ks).mapM fun q=>(rn S k sel (f+1) q.1).bind fun a=>(rn S k sel (f+1) q.2).map fun b=>(a,b))=some (mE ks):=by
 have:∀ l:List (PV × PV),(∀ q∈l,∃ a b:Int,q=(.int .i64 a,.int .i64 b))→(l.mapM fun q=>(rn S k sel (f+1) q.1).bind fun a=>(rn S k sel (f+1) q.2).map fun b=>(a,b))=some l:=by
  intro l
  induction l with
  | nil=>intro _; rfl
  | cons q l ih =>
   intro h
   obtain ⟨a,b,rfl⟩:=h q (by simp)
   rw [qC,ih fun x hx=>h x (by simp [hx])]
   rfl
 refine this _ fun q hq=>?_
 obtain ⟨a,_,rfl⟩:=List.mem_map.1 hq
 exact ⟨_,_,rfl⟩
theorem zos {S:Store} {k f:Nat} {sel:List Nat} (rs:List Rect):(rcs rs).mapM (rn S k sel (f+1))=some (rcs rs):=zvb (z2u rs)
theorem zb3 {T:Tab} {S:Store} {e:Env} {t:TypeId} {x:Operand}:zd5 T S e (.load t x)=zr4 (T t) S (e.ev x):=rfl
theorem zc0 {T:Tab} {S:Store} {e:Env} {x:Operand}:zd5 T S e (.nilCheck x)=zg8 S (e.ev x):=rfl
theorem zed {T:Tab} {S:Store} {e:Env} {t:TypeId} {x:Operand} {f:Nat}:zd5 T S e (.fieldAddr t x f)=zf0 T S t (e.ev x) f:=rfl
theorem zee {T:Tab} {S:Store} {e:Env} {t:TypeId} {x i:Operand}:zd5 T S e (.indexAddr t x i)=zf1 T S t (e.ev x) (e.ev i):=rfl
theorem z73 {r:Rect}:rcs [r]=r.cells:=by simp [rcs]
theorem ycr {rs:List Rect}:(rcs rs).take (rs.length*4)=rcs rs:=by rw [← zb4,List.take_length]
theorem zbm {r:Rect}:r.cells.length=4:=rfl
theorem zbo {r:Rect}:zcp r.cells=True:=eq_true (by intro p hp; simp [Rect.cells]at hp; rcases hp with rfl | rfl | rfl | rfl <;> rfl)
def gcs (d:List (List Int)) (cur:PV) (m:Nat):List PV:=d.map eInts++cur::List.replicate m .nils
theorem zyg {S:Store} {k f:Nat} {sel:List Nat} {d:List (List Int)} {cur cur2:PV} {m:Nat} (h:rn S k sel (f+1) cur=some cur2):(gcs d cur m).mapM (rn S k sel (f+1))=some (gcs d cur2 m):=by
 unfold gcs
 rw [qP,zb8 (l:=d.map eInts) (fun x hx=>by obtain ⟨a,_,rfl⟩:=List.mem_map.1 hx; rfl),qC,h,zb8 (l:=List.replicate m PV.nils) (fun x hx=>by obtain rfl:=List.eq_of_mem_replicate hx; rfl)]
 rfl
theorem zw0 {z:Int}:TK.keyed tab 3 (.int .i64 z)=true:=by simp only[TK.keyed,zaa]; rfl
theorem zrm {g d:List (List Int)} {y:List Int} {row ks:List Int} {rs:List Rect} {z:Int} {r c w m xv yv vq t:Nat} (hr:r<6) (hc:c<6) (hrow:g[r]?=some row) (hz:row[c]?=some z) (hs:zr5 ks rs) (hk:ks.length≤64) (hin:¬ ks.idxOf z=ks.length):Ev Tryz.prog 152 [.int .i64 (r:Nat),.int .i64 (c:Nat),.ref 5 5 0,.ref 0 0 0,.ref 3 3 0] ⟨[.arr 0 98 1 [zer g],.arr 1 3 1 [.int .i64 w],.arr 2 101 2 [.nils,.loc 8 vq 0 (rs).length],.arr 3 49 1 [.ref 2 2 0],.map 4 (mE ks),.arr 5 170 1 [.mp 4 4],.arr xv 24 1 (gcs d (.loc 7 yv 0 w) m),.arr yv 3 1 (y.map (.int .i64)),.arr vq 55 4 (rcs rs)],t⟩ fun v S=>v = .int .i64 ((ks.idxOf z:Nat):Int)∧∃ vq t:Nat,S=⟨[.arr 0 98 1 [zer g],.arr 1 3 1 [.int .i64 w],.arr 2 101 2 [.nils,.loc 8 vq 0 ((zpl ks rs z (zg3 r c))).length],.arr 3 49 1 [.ref 2 2 0],.map 4 (mE (zie ks z)),.arr 5 170 1 [.mp 4 4],.arr xv 24 1 (gcs d (.loc 7 yv 0 w) m),.arr yv 3 1 (y.map (.int .i64)),.arr vq 55 4 (rcs (zpl ks rs z (zg3 r c)))],t⟩:=by
 have hrl:=zb7 hrow
 have hcl:=zb7 hz
 have hgl:g.length=g.length:=rfl
 obtain ⟨hi1,hi2,b,hb,hbf⟩:=hs.in_ (z:=z) (zfl hr hc)
 have hil:=zhr (ks:=ks) (z:=z)
 have hsl:=hs.1
 have hst:=hs.step (z:=z) (zfl hr hc)
 have hfs:=zwt hin
 have hki:zie ks z=ks:=by simp [zie,hin]
 have hri:zi5 ks rs z (zg3 r c)=rs:=by simp [zi5,hin]
 refine Ev.of ⟨Tryz.func152,by kernel_rfl,rfl,by kernel_rfl⟩ zar mixed (by show 5≤Tryz.f152.ntmps; decide) ?_
 refine W.r fun K hK=>?_
 simp(disch:=omega)only[↓RU,RV,RH,↓reduceIte,qE,reduceCtorEq,if_pos,↓RS,RG,qA,qM,qL]
 apply hK;clear hK K
 refine W.seq_draw (by kernel_rfl) fun K hK=>?_
 simp(disch:=omega)only[↓RU,RV,RH,↓reduceIte,qE,reduceCtorEq,if_pos,↓RS,RG,qA,qM,qL,ty1,zab,zc3,zaa,yc0,hrow,hz,zw9,hfs]
 apply hK;clear hK K
 refine W.joinS [0,1,2,3,4,8] (fun vs S=>∃ vq t:Nat,vs=[.int .i64 (r:Nat),.int .i64 (c:Nat),.ref 5 5 0,.ref 0 0 0,.ref 3 3 0,.int .i64 ((ks.idxOf z:Nat):Int)]∧S=⟨[.arr 0 98 1 [zer g],.arr 1 3 1 [.int .i64 w],.arr 2 101 2 [.nils,.loc 8 vq 0 ((zi5 ks rs z (zg3 r c))).length],.arr 3 49 1 [.ref 2 2 0],.map 4 (mE (zie ks z)),.arr 5 170 1 [.mp 4 4],.arr xv 24 1 (gcs d (.loc 7 yv 0 w) m),.arr yv 3 1 (y.map (.int .i64)),.arr vq 55 4 (rcs (zi5 ks rs z (zg3 r c)))],t⟩) ?_ ?_
 ·
  refine W.r fun K hK=>?_
  simp(disch:=omega)only[↓RU,RV,RH,↓reduceIte,qE,reduceCtorEq,if_pos,↓RS,RG,qA,qM,qL]
  apply hK;clear hK K
  refine W.cond rfl (fun h=>?_) (fun h=>?_)
  ·try simp only[RL]at h
   exact absurd h (by simp)
  try simp only[RL]at h
  refine W.skip ?_
  refine xn ?_
  refine ⟨9,[],[.int .i64 (r:Nat),.int .i64 (c:Nat),.ref 5 5 0,.ref 0 0 0,.ref 3 3 0,.int .i64 ((ks.idxOf z:Nat):Int)],⟨[.arr 0 98 1 [zer g],.arr 1 3 1 [.int .i64 w],.arr 2 101 2 [.nils,.loc 8 vq 0 ((zi5 ks rs z (zg3 r c))).length],.arr 3 49 1 [.ref 2 2 0],.map 4 (mE (zie ks z)),.arr 5 170 1 [.mp 4 4],.arr xv 24 1 (gcs d (.loc 7 yv 0 w) m),.arr yv 3 1 (y.map (.int .i64)),.arr vq 55 4 (rcs (zi5 ks rs z (zg3 r c)))],(t+1)⟩,?_,?_,vq,t+1,rfl,rfl⟩
  ·simp [-qU,Env.put,Env.of,zae,zb1,zaj,zao,zay,za0,zcc,zcd,zdc,zcb,zbi,zce,zdb,zdd,zbk,zbj,za1,zca,zcf,zda,zbg,zbf,zaz,zbh,zb9,zfe,qS,qP,qC]
  rw [hki,hri]; simp [-qU,Env.put,Env.of,zae,zb1,zaj,zao,zay,za0,zcc,zcd,zdc,zcb,zbi,zce,zdb,zdd,zbk,zbj,za1,zca,zcf,zda,zbg,zbf,zaz,zbh,zb9,zfe,qS,qP,qC,zz7,zos,zh4,zyg]
 rintro vs S - ⟨vq,t,rfl,rfl⟩
 have hrs2:=z0c hb
 generalize hks1:zie ks z=ks1 at hi1 hst
 generalize hrs1:zi5 ks rs z (zg3 r c)=rs1 at hb hi1 hi2 hrs2
 have hbl:=zb7 hb
 refine W.seq_draw (by kernel_rfl) fun K hK=>?_
 have hcell:=(zdx (r:=r) (c:=c)).symm
 have hba:PV.agg b.cells=zrz b:=rfl
 simp(disch:=omega)only[↓RU,RV,RH,↓reduceIte,qE,reduceCtorEq,if_pos,qN,↓RS,RG,qA,qM,qL,ty1,ty3,zab,ty7,ze1,zc3,zbb,zaa,ze3,zbc,zkt hb,zb4,← zdx,hcell,zbm,zbo,zj6]
 refine zad.pc (zkx (b:=b) (o:=zg3 r c) hbf.in_ (zfl hr hc).in_) rfl (.inl rfl) ?_
 simp(disch:=omega)only[↓RU,RV,RH,↓reduceIte,qE,reduceCtorEq,if_pos,qN,↓RS,RG,qA,qM,qL,ty1,ty3,zab,ty7,ze1,zc3,zbb,zaa,ze3,zbc,zkt hb,zb4,← zdx,hcell,zbm,zbo,zj6]
 apply hK;clear hK K
 refine W.r fun K hK=>?_
 simp(disch:=omega)only[↓RU,RV,RH,↓reduceIte,qE,reduceCtorEq,if_pos,↓RS,RG,qA,qM,qL]
 apply hK;clear hK K
 refine W.ret ?_
 refine Br rfl ?_
 refine ⟨9,rfl,vq,t,?_⟩
 rw [hrs2]
 simp [za3]
theorem znv {g d:List (List Int)} {y:List Int} {row ks:List Int} {rs:List Rect} {z:Int} {r c w m xv yv vq t:Nat} (hr:r<6) (hc:c<6) (hrow:g[r]?=some row) (hz:row[c]?=some z) (hs:zr5 ks rs) (hk:ks.length≤64) (hn:rs=[]) (hn2:ks=[]):Ev Tryz.prog 152 [.int .i64 (r:Nat),.int .i64 (c:Nat),.ref 5 5 0,.ref 0 0 0,.ref 3 3 0] ⟨[.arr 0 98 1 [zer g],.arr 1 3 1 [.int .i64 w],.arr 2 101 2 [.nils,.nils],.arr 3 49 1 [.ref 2 2 0],.map 4 (mE ks),.arr 5 170 1 [.mp 4 4],.arr xv 24 1 (gcs d (.loc 7 yv 0 w) m),.arr yv 3 1 (y.map (.int .i64))],t⟩ fun v S=>v = .int .i64 ((ks.idxOf z:Nat):Int)∧∃ vq t:Nat,S=⟨[.arr 0 98 1 [zer g],.arr 1 3 1 [.int .i64 w],.arr 2 101 2 [.nils,.loc 8 vq 0 ((zpl ks rs z (zg3 r c))).length],.arr 3 49 1 [.ref 2 2 0],.map 4 (mE (zie ks z)),.arr 5 170 1 [.mp 4 4],.arr xv 24 1 (gcs d (.loc 7 yv 0 w) m),.arr yv 3 1 (y.map (.int .i64)),.arr vq 55 4 (rcs (zpl ks rs z (zg3 r c)))],t⟩:=by
 have hin:ks.idxOf z=ks.length:=by rw [hn2]; rfl
 have hrl:=zb7 hrow
 have hcl:=zb7 hz
 have hgl:g.length=g.length:=rfl
 obtain ⟨hi1,hi2,b,hb,hbf⟩:=hs.in_ (z:=z) (zfl hr hc)
 have hil:=zhr (ks:=ks) (z:=z)
 have hsl:=hs.1
 have hst:=hs.step (z:=z) (zfl hr hc)
 have hfn:=zob hin
 have hki:zie ks z=ks++[z]:=by simp [zie,hin]
 have hri:zi5 ks rs z (zg3 r c)=rs++[zg3 r c]:=by simp [zi5,hin]
 refine Ev.of ⟨Tryz.func152,by kernel_rfl,rfl,by kernel_rfl⟩ zar mixed (by show 5≤Tryz.f152.ntmps; decide) ?_
 refine W.r fun K hK=>?_
 simp(disch:=omega)only[↓RU,RV,RH,↓reduceIte,qE,reduceCtorEq,if_pos,↓RS,RG,qA,qM,qL]
 apply hK;clear hK K
 refine W.seq_draw (by kernel_rfl) fun K hK=>?_
 simp(disch:=omega)only[↓RU,RV,RH,↓reduceIte,qE,reduceCtorEq,if_pos,↓RS,RG,qA,qM,qL,ty1,zab,zc3,zaa,yc0,hrow,hz,zw9,hfn]
 apply hK;clear hK K
 refine W.joinS [0,1,2,3,4,8] (fun vs S=>∃ vq t:Nat,vs=[.int .i64 (r:Nat),.int .i64 (c:Nat),.ref 5 5 0,.ref 0 0 0,.ref 3 3 0,.int .i64 ((ks.idxOf z:Nat):Int)]∧S=⟨[.arr 0 98 1 [zer g],.arr 1 3 1 [.int .i64 w],.arr 2 101 2 [.nils,.loc 8 vq 0 ((zi5 ks rs z (zg3 r c))).length],.arr 3 49 1 [.ref 2 2 0],.map 4 (mE (zie ks z)),.arr 5 170 1 [.mp 4 4],.arr xv 24 1 (gcs d (.loc 7 yv 0 w) m),.arr yv 3 1 (y.map (.int .i64)),.arr vq 55 4 (rcs (zi5 ks rs z (zg3 r c)))],t⟩) ?_ ?_
 ·
  refine W.r fun K hK=>?_
  simp(disch:=omega)only[↓RU,RV,RH,↓reduceIte,qE,reduceCtorEq,if_pos,↓RS,RG,qA,qM,qL]
  apply hK;clear hK K
  refine W.cond rfl (fun h=>?_) (fun h=>?_)
  ·try simp only[RL]at h
   refine W.r fun K hK=>?_
   simp(disch:=omega)only[↓RU,RV,RH,↓reduceIte,qE,reduceCtorEq,if_pos,↓RS,RG,qA,qM,qL,zaa,yc0,zw9]
   apply hK;clear hK K
   refine W.seq_draw (by kernel_rfl) fun K hK=>?_
   simp(disch:=omega)only[↓RU,RV,RH,↓reduceIte,qE,reduceCtorEq,if_pos,↓RS,RG,qA,qM,qL,ty1,zab,zc3,zaa,yc0,hrow,hz,hfn,zw0]
   apply hK;clear hK K
   refine W.region_pk 10 [some 35,some 36,some 37,some 38,some 39] [2,3] (by decide) (by kernel_rfl) fun K hK=>?_
   simp only[List.take_succ_cons,List.take_zero,List.drop_succ_cons,List.drop_zero]
   refine zat (.ref 2 2 0) rfl rfl rfl (fun S' hS=>?_) ?_
   ·skip
    have k2:=(hS 2 (by decide)).trans (show _=some _ from rfl)
    have k3:=(hS 3 (by decide)).trans (show _=some _ from rfl)
    simp(disch:=omega)only[↓RU,RV,RH,↓reduceIte,qE,reduceCtorEq,if_pos,↓RS,RG,qA,qM,qL,ty1,ty3,zab,ty7,ze1,zc3,zbb,zaa,ze3,zbc,zb4,zbm,zbo,zb3,zc0,zed,zee,k2,k3]
   refine zat (.ref 2 2 0) rfl rfl rfl (fun S' hS=>?_) ?_
   ·skip
    have k2:=(hS 2 (by decide)).trans (show _=some _ from rfl)
    have k3:=(hS 3 (by decide)).trans (show _=some _ from rfl)
    simp(disch:=omega)only[↓RU,RV,RH,↓reduceIte,qE,reduceCtorEq,if_pos,↓RS,RG,qA,qM,qL,ty1,ty3,zab,ty7,ze1,zc3,zbb,zaa,ze3,zbc,zb4,zbm,zbo,zb3,zc0,zed,zee,k2,k3]
   refine zat (.ref 2 2 0) rfl rfl rfl (fun S' hS=>?_) ?_
   ·skip
    have k2:=(hS 2 (by decide)).trans (show _=some _ from rfl)
    have k3:=(hS 3 (by decide)).trans (show _=some _ from rfl)
    simp(disch:=omega)only[↓RU,RV,RH,↓reduceIte,qE,reduceCtorEq,if_pos,↓RS,RG,qA,qM,qL,ty1,ty3,zab,ty7,ze1,zc3,zbb,zaa,ze3,zbc,zb4,zbm,zbo,zb3,zc0,zed,zee,k2,k3]
   refine zat (.ref 2 2 1) rfl rfl rfl (fun S' hS=>?_) ?_
   ·skip
    have k2:=(hS 2 (by decide)).trans (show _=some _ from rfl)
    have k3:=(hS 3 (by decide)).trans (show _=some _ from rfl)
    simp(disch:=omega)only[↓RU,RV,RH,↓reduceIte,qE,reduceCtorEq,if_pos,↓RS,RG,qA,qM,qL,ty1,ty3,zab,ty7,ze1,zc3,zbb,zaa,ze3,zbc,zb4,zbm,zbo,zb3,zc0,zed,zee,k2,k3]
   refine zat (.nils) rfl rfl rfl (fun S' hS=>?_) ?_
   ·skip
    have k2:=(hS 2 (by decide)).trans (show _=some _ from rfl)
    have k3:=(hS 3 (by decide)).trans (show _=some _ from rfl)
    simp(disch:=omega)only[↓RU,RV,RH,↓reduceIte,qE,reduceCtorEq,if_pos,↓RS,RG,qA,qM,qL,ty1,ty3,zab,ty7,ze1,zc3,zbb,zaa,ze3,zbc,zb4,zbm,zbo,zb3,zc0,zed,zee,k2,k3]
   refine zba rfl ?_
   simp(disch:=omega)only[↓RU,RV,RH,↓reduceIte,qE,reduceCtorEq,if_pos,↓RS,RG,qA,qM,qL,ty1,ty3,zab,ty7,ze1,zc3,zbb,zaa,ze3,zbc,zb4,zbm,zbo,zan,zas]
   refine zba rfl ?_
   simp(disch:=omega)only[↓RU,RV,RH,↓reduceIte,qE,reduceCtorEq,if_pos,↓RS,RG,qA,qM,qL,ty1,ty3,zab,ty7,ze1,zc3,zbb,zaa,ze3,zbc,zb4,zbm,zbo,zan,zas]
   refine zba rfl ?_
   simp(disch:=omega)only[↓RU,RV,RH,↓reduceIte,qE,reduceCtorEq,if_pos,↓RS,RG,qA,qM,qL,ty1,ty3,zab,ty7,ze1,zc3,zbb,zaa,ze3,zbc,zb4,zbm,zbo,zan,zas]
   refine zba rfl ?_
   simp(disch:=omega)only[↓RU,RV,RH,↓reduceIte,qE,reduceCtorEq,if_pos,↓RS,RG,qA,qM,qL,ty1,ty3,zab,ty7,ze1,zc3,zbb,zaa,ze3,zbc,zb4,zbm,zbo,zan,zas]
   refine zba rfl ?_
   simp(disch:=omega)only[↓RU,RV,RH,↓reduceIte,qE,reduceCtorEq,if_pos,↓RS,RG,qA,qM,qL,ty1,ty3,zab,ty7,ze1,zc3,zbb,zaa,ze3,zbc,zb4,zbm,zbo,zan,zas]
   refine zga ?_
   simp(disch:=omega)only[↓RU,RV,RH,↓reduceIte,qE,reduceCtorEq,if_pos,↓RS,RG,qA,qM,qL,ty1,ty3,zab,ty7,ze1,zc3,zbb,zaa,ze3,zbc,zb4,zbm,zbo]
   apply hK;clear hK K
   refine xn ?_
   refine ⟨8,[9],[.int .i64 (r:Nat),.int .i64 (c:Nat),.ref 5 5 0,.ref 0 0 0,.ref 3 3 0,.int .i64 ((ks.idxOf z:Nat):Int)],⟨[.arr 0 98 1 [zer g],.arr 1 3 1 [.int .i64 w],.arr 2 101 2 [.nils,.loc 8 (t+2) 0 ((zi5 ks rs z (zg3 r c))).length],.arr 3 49 1 [.ref 2 2 0],.map 4 (mE (zie ks z)),.arr 5 170 1 [.mp 4 4],.arr xv 24 1 (gcs d (.loc 7 yv 0 w) m),.arr yv 3 1 (y.map (.int .i64)),.arr (t+2) 55 4 (rcs (zi5 ks rs z (zg3 r c)))],(t+3)⟩,?_,?_,(t+2),(t+3),rfl,rfl⟩
   ·rw [hin]; simp [-qU,Env.put,Env.of,zae,zb1,zaj,zao,zay,za0,zcc,zcd,zdc,zcb,zbi,zce,zdb,zdd,zbk,zbj,za1,zca,zcf,zda,zbg,zbf,zaz,zbh,zb9,zfe,qS,qP,qC]
   rw [hki,hri,hn]; simp [-qU,Env.put,Env.of,zae,zb1,zaj,zao,zay,za0,zcc,zcd,zdc,zcb,zbi,zce,zdb,zdd,zbk,zbj,za1,zca,zcf,zda,zbg,zbf,zaz,zbh,zb9,zfe,qS,qP,qC,zz7,zos,zh4,zyg,ycn,zu4,z73,zdx,ycr]
  try simp only[RL]at h
  exact absurd h (by simp)
 rintro vs S - ⟨vq,t,rfl,rfl⟩
 have hrs2:=z0c hb
 generalize hks1:zie ks z=ks1 at hi1 hst
 generalize hrs1:zi5 ks rs z (zg3 r c)=rs1 at hb hi1 hi2 hrs2
 have hbl:=zb7 hb
 refine W.seq_draw (by kernel_rfl) fun K hK=>?_
 have hcell:=(zdx (r:=r) (c:=c)).symm
 have hba:PV.agg b.cells=zrz b:=rfl
 simp(disch:=omega)only[↓RU,RV,RH,↓reduceIte,qE,reduceCtorEq,if_pos,qN,↓RS,RG,qA,qM,qL,ty1,ty3,zab,ty7,ze1,zc3,zbb,zaa,ze3,zbc,zkt hb,zb4,← zdx,hcell,zbm,zbo,zj6]
 refine zad.pc (zkx (b:=b) (o:=zg3 r c) hbf.in_ (zfl hr hc).in_) rfl (.inl rfl) ?_
 simp(disch:=omega)only[↓RU,RV,RH,↓reduceIte,qE,reduceCtorEq,if_pos,qN,↓RS,RG,qA,qM,qL,ty1,ty3,zab,ty7,ze1,zc3,zbb,zaa,ze3,zbc,zkt hb,zb4,← zdx,hcell,zbm,zbo,zj6]
 apply hK;clear hK K
 refine W.r fun K hK=>?_
 simp(disch:=omega)only[↓RU,RV,RH,↓reduceIte,qE,reduceCtorEq,if_pos,↓RS,RG,qA,qM,qL]
 apply hK;clear hK K
 refine W.ret ?_
 refine Br rfl ?_
 refine ⟨9,rfl,vq,t,?_⟩
 rw [hrs2]
 simp [za3]
theorem zrl {g d:List (List Int)} {y:List Int} {row ks:List Int} {rs:List Rect} {z:Int} {r c w m xv yv vq t:Nat} (hr:r<6) (hc:c<6) (hrow:g[r]?=some row) (hz:row[c]?=some z) (hs:zr5 ks rs) (hk:ks.length≤64) (hin:ks.idxOf z=ks.length):Ev Tryz.prog 152 [.int .i64 (r:Nat),.int .i64 (c:Nat),.ref 5 5 0,.ref 0 0 0,.ref 3 3 0] ⟨[.arr 0 98 1 [zer g],.arr 1 3 1 [.int .i64 w],.arr 2 101 2 [.nils,.loc 8 vq 0 (rs).length],.arr 3 49 1 [.ref 2 2 0],.map 4 (mE ks),.arr 5 170 1 [.mp 4 4],.arr xv 24 1 (gcs d (.loc 7 yv 0 w) m),.arr yv 3 1 (y.map (.int .i64)),.arr vq 55 4 (rcs rs)],t⟩ fun v S=>v = .int .i64 ((ks.idxOf z:Nat):Int)∧∃ vq t:Nat,S=⟨[.arr 0 98 1 [zer g],.arr 1 3 1 [.int .i64 w],.arr 2 101 2 [.nils,.loc 8 vq 0 ((zpl ks rs z (zg3 r c))).length],.arr 3 49 1 [.ref 2 2 0],.map 4 (mE (zie ks z)),.arr 5 170 1 [.mp 4 4],.arr xv 24 1 (gcs d (.loc 7 yv 0 w) m),.arr yv 3 1 (y.map (.int .i64)),.arr vq 55 4 (rcs (zpl ks rs z (zg3 r c)))],t⟩:=by
 have hrl:=zb7 hrow
 have hcl:=zb7 hz
 have hgl:g.length=g.length:=rfl
 obtain ⟨hi1,hi2,b,hb,hbf⟩:=hs.in_ (z:=z) (zfl hr hc)
 have hil:=zhr (ks:=ks) (z:=z)
 have hsl:=hs.1
 have hst:=hs.step (z:=z) (zfl hr hc)
 have hfn:=zob hin
 have hki:zie ks z=ks++[z]:=by simp [zie,hin]
 have hri:zi5 ks rs z (zg3 r c)=rs++[zg3 r c]:=by simp [zi5,hin]
 refine Ev.of ⟨Tryz.func152,by kernel_rfl,rfl,by kernel_rfl⟩ zar mixed (by show 5≤Tryz.f152.ntmps; decide) ?_
 refine W.r fun K hK=>?_
 simp(disch:=omega)only[↓RU,RV,RH,↓reduceIte,qE,reduceCtorEq,if_pos,↓RS,RG,qA,qM,qL]
 apply hK;clear hK K
 refine W.seq_draw (by kernel_rfl) fun K hK=>?_
 simp(disch:=omega)only[↓RU,RV,RH,↓reduceIte,qE,reduceCtorEq,if_pos,↓RS,RG,qA,qM,qL,ty1,zab,zc3,zaa,yc0,hrow,hz,zw9,hfn]
 apply hK;clear hK K
 refine W.joinS [0,1,2,3,4,8] (fun vs S=>∃ vq t:Nat,vs=[.int .i64 (r:Nat),.int .i64 (c:Nat),.ref 5 5 0,.ref 0 0 0,.ref 3 3 0,.int .i64 ((ks.idxOf z:Nat):Int)]∧S=⟨[.arr 0 98 1 [zer g],.arr 1 3 1 [.int .i64 w],.arr 2 101 2 [.nils,.loc 8 vq 0 ((zi5 ks rs z (zg3 r c))).length],.arr 3 49 1 [.ref 2 2 0],.map 4 (mE (zie ks z)),.arr 5 170 1 [.mp 4 4],.arr xv 24 1 (gcs d (.loc 7 yv 0 w) m),.arr yv 3 1 (y.map (.int .i64)),.arr vq 55 4 (rcs (zi5 ks rs z (zg3 r c)))],t⟩) ?_ ?_
 ·
  refine W.r fun K hK=>?_
  simp(disch:=omega)only[↓RU,RV,RH,↓reduceIte,qE,reduceCtorEq,if_pos,↓RS,RG,qA,qM,qL]
  apply hK;clear hK K
  refine W.cond rfl (fun h=>?_) (fun h=>?_)
  ·try simp only[RL]at h
   refine W.r fun K hK=>?_
   simp(disch:=omega)only[↓RU,RV,RH,↓reduceIte,qE,reduceCtorEq,if_pos,↓RS,RG,qA,qM,qL,zaa,yc0,zw9]
   apply hK;clear hK K
   refine W.seq_draw (by kernel_rfl) fun K hK=>?_
   simp(disch:=omega)only[↓RU,RV,RH,↓reduceIte,qE,reduceCtorEq,if_pos,↓RS,RG,qA,qM,qL,ty1,zab,zc3,zaa,yc0,hrow,hz,hfn,zw0]
   apply hK;clear hK K
   refine W.region_pk 10 [some 35,some 36,some 37,some 38,some 39] [2,3] (by decide) (by kernel_rfl) fun K hK=>?_
   simp only[List.take_succ_cons,List.take_zero,List.drop_succ_cons,List.drop_zero]
   refine zat (.ref 2 2 0) rfl rfl rfl (fun S' hS=>?_) ?_
   ·skip
    have k2:=(hS 2 (by decide)).trans (show _=some _ from rfl)
    have k3:=(hS 3 (by decide)).trans (show _=some _ from rfl)
    simp(disch:=omega)only[↓RU,RV,RH,↓reduceIte,qE,reduceCtorEq,if_pos,↓RS,RG,qA,qM,qL,ty1,ty3,zab,ty7,ze1,zc3,zbb,zaa,ze3,zbc,zb4,zbm,zbo,zb3,zc0,zed,zee,k2,k3]
   refine zat (.ref 2 2 0) rfl rfl rfl (fun S' hS=>?_) ?_
   ·skip
    have k2:=(hS 2 (by decide)).trans (show _=some _ from rfl)
    have k3:=(hS 3 (by decide)).trans (show _=some _ from rfl)
    simp(disch:=omega)only[↓RU,RV,RH,↓reduceIte,qE,reduceCtorEq,if_pos,↓RS,RG,qA,qM,qL,ty1,ty3,zab,ty7,ze1,zc3,zbb,zaa,ze3,zbc,zb4,zbm,zbo,zb3,zc0,zed,zee,k2,k3]
   refine zat (.ref 2 2 0) rfl rfl rfl (fun S' hS=>?_) ?_
   ·skip
    have k2:=(hS 2 (by decide)).trans (show _=some _ from rfl)
    have k3:=(hS 3 (by decide)).trans (show _=some _ from rfl)
    simp(disch:=omega)only[↓RU,RV,RH,↓reduceIte,qE,reduceCtorEq,if_pos,↓RS,RG,qA,qM,qL,ty1,ty3,zab,ty7,ze1,zc3,zbb,zaa,ze3,zbc,zb4,zbm,zbo,zb3,zc0,zed,zee,k2,k3]
   refine zat (.ref 2 2 1) rfl rfl rfl (fun S' hS=>?_) ?_
   ·skip
    have k2:=(hS 2 (by decide)).trans (show _=some _ from rfl)
    have k3:=(hS 3 (by decide)).trans (show _=some _ from rfl)
    simp(disch:=omega)only[↓RU,RV,RH,↓reduceIte,qE,reduceCtorEq,if_pos,↓RS,RG,qA,qM,qL,ty1,ty3,zab,ty7,ze1,zc3,zbb,zaa,ze3,zbc,zb4,zbm,zbo,zb3,zc0,zed,zee,k2,k3]
   refine zat (.loc 8 vq 0 rs.length) rfl rfl rfl (fun S' hS=>?_) ?_
   ·skip
    have k2:=(hS 2 (by decide)).trans (show _=some _ from rfl)
    have k3:=(hS 3 (by decide)).trans (show _=some _ from rfl)
    simp(disch:=omega)only[↓RU,RV,RH,↓reduceIte,qE,reduceCtorEq,if_pos,↓RS,RG,qA,qM,qL,ty1,ty3,zab,ty7,ze1,zc3,zbb,zaa,ze3,zbc,zb4,zbm,zbo,zb3,zc0,zed,zee,k2,k3]
   refine zba rfl ?_
   simp(disch:=omega)only[↓RU,RV,RH,↓reduceIte,qE,reduceCtorEq,if_pos,↓RS,RG,qA,qM,qL,ty1,ty3,zab,ty7,ze1,zc3,zbb,zaa,ze3,zbc,zb4,zbm,zbo,zan,zas]
   refine zba rfl ?_
   simp(disch:=omega)only[↓RU,RV,RH,↓reduceIte,qE,reduceCtorEq,if_pos,↓RS,RG,qA,qM,qL,ty1,ty3,zab,ty7,ze1,zc3,zbb,zaa,ze3,zbc,zb4,zbm,zbo,zan,zas]
   refine zba rfl ?_
   simp(disch:=omega)only[↓RU,RV,RH,↓reduceIte,qE,reduceCtorEq,if_pos,↓RS,RG,qA,qM,qL,ty1,ty3,zab,ty7,ze1,zc3,zbb,zaa,ze3,zbc,zb4,zbm,zbo,zan,zas]
   refine zba rfl ?_
   simp(disch:=omega)only[↓RU,RV,RH,↓reduceIte,qE,reduceCtorEq,if_pos,↓RS,RG,qA,qM,qL,ty1,ty3,zab,ty7,ze1,zc3,zbb,zaa,ze3,zbc,zb4,zbm,zbo,zan,zas]
   refine zba rfl ?_
   simp(disch:=omega)only[↓RU,RV,RH,↓reduceIte,qE,reduceCtorEq,if_pos,↓RS,RG,qA,qM,qL,ty1,ty3,zab,ty7,ze1,zc3,zbb,zaa,ze3,zbc,zb4,zbm,zbo,zan,zas]
   refine zga ?_
   simp(disch:=omega)only[↓RU,RV,RH,↓reduceIte,qE,reduceCtorEq,if_pos,↓RS,RG,qA,qM,qL,ty1,ty3,zab,ty7,ze1,zc3,zbb,zaa,ze3,zbc,zb4,zbm,zbo]
   apply hK;clear hK K
   refine xn ?_
   refine ⟨9,[],[.int .i64 (r:Nat),.int .i64 (c:Nat),.ref 5 5 0,.ref 0 0 0,.ref 3 3 0,.int .i64 ((ks.idxOf z:Nat):Int)],⟨[.arr 0 98 1 [zer g],.arr 1 3 1 [.int .i64 w],.arr 2 101 2 [.nils,.loc 8 (t+1) 0 ((zi5 ks rs z (zg3 r c))).length],.arr 3 49 1 [.ref 2 2 0],.map 4 (mE (zie ks z)),.arr 5 170 1 [.mp 4 4],.arr xv 24 1 (gcs d (.loc 7 yv 0 w) m),.arr yv 3 1 (y.map (.int .i64)),.arr (t+1) 55 4 (rcs (zi5 ks rs z (zg3 r c)))],(t+3)⟩,?_,?_,(t+1),(t+3),rfl,rfl⟩
   ·rw [hin]; simp [-qU,Env.put,Env.of,zae,zb1,zaj,zao,zay,za0,zcc,zcd,zdc,zcb,zbi,zce,zdb,zdd,zbk,zbj,za1,zca,zcf,zda,zbg,zbf,zaz,zbh,zb9,zfe,qS,qP,qC]
   rw [hki,hri]; simp [-qU,Env.put,Env.of,zae,zb1,zaj,zao,zay,za0,zcc,zcd,zdc,zcb,zbi,zce,zdb,zdd,zbk,zbj,za1,zca,zcf,zda,zbg,zbf,zaz,zbh,zb9,zfe,qS,qP,qC,zz7,zos,zh4,zyg,ycn,zu4,z73,zdx,ycr]
  try simp only[RL]at h
  exact absurd h (by simp)
 rintro vs S - ⟨vq,t,rfl,rfl⟩
 have hrs2:=z0c hb
 generalize hks1:zie ks z=ks1 at hi1 hst
 generalize hrs1:zi5 ks rs z (zg3 r c)=rs1 at hb hi1 hi2 hrs2
 have hbl:=zb7 hb
 refine W.seq_draw (by kernel_rfl) fun K hK=>?_
 have hcell:=(zdx (r:=r) (c:=c)).symm
 have hba:PV.agg b.cells=zrz b:=rfl
 simp(disch:=omega)only[↓RU,RV,RH,↓reduceIte,qE,reduceCtorEq,if_pos,qN,↓RS,RG,qA,qM,qL,ty1,ty3,zab,ty7,ze1,zc3,zbb,zaa,ze3,zbc,zkt hb,zb4,← zdx,hcell,zbm,zbo,zj6]
 refine zad.pc (zkx (b:=b) (o:=zg3 r c) hbf.in_ (zfl hr hc).in_) rfl (.inl rfl) ?_
 simp(disch:=omega)only[↓RU,RV,RH,↓reduceIte,qE,reduceCtorEq,if_pos,qN,↓RS,RG,qA,qM,qL,ty1,ty3,zab,ty7,ze1,zc3,zbb,zaa,ze3,zbc,zkt hb,zb4,← zdx,hcell,zbm,zbo,zj6]
 apply hK;clear hK K
 refine W.r fun K hK=>?_
 simp(disch:=omega)only[↓RU,RV,RH,↓reduceIte,qE,reduceCtorEq,if_pos,↓RS,RG,qA,qM,qL]
 apply hK;clear hK K
 refine W.ret ?_
 refine Br rfl ?_
 refine ⟨9,rfl,vq,t,?_⟩
 rw [hrs2]
 simp [za3]
section
def prS (g:List (List Int)) (w:Nat) (rv:PV) (ks:List Int):List Ob:=[.arr 0 98 1 [zer g],.arr 1 3 1 [.int .i64 w],.arr 2 101 2 [.nils,rv],.arr 3 49 1 [.ref 2 2 0],.map 4 (mE ks),.arr 5 170 1 [.mp 4 4]]
def seS (g:List (List Int)) (w:Nat) (xv yv:Nat) (x y:List PV) (ks:List Int) (rs:List Rect) (vq t:Nat):Store :=
 match rs with
 | []=>⟨prS g w .nils ks++[.arr xv 24 1 x,.arr yv 3 1 y],t⟩
 | rs=>⟨prS g w (.loc 8 vq 0 rs.length) ks++[.arr xv 24 1 x,.arr yv 3 1 y,.arr vq 55 4 (rcs rs)],t⟩
theorem z8t {g:List (List Int)} {w xv yv:Nat} {x y:List PV} {ks:List Int} {vq t:Nat}:seS g w xv yv x y ks [] vq t=⟨prS g w .nils ks++[.arr xv 24 1 x,.arr yv 3 1 y],t⟩:=rfl
theorem z2x {g:List (List Int)} {w xv yv:Nat} {x y:List PV} {ks:List Int} {rs:List Rect} {vq t:Nat} (h:rs≠[]):seS g w xv yv x y ks rs vq t=⟨prS g w (.loc 8 vq 0 rs.length) ks++[.arr xv 24 1 x,.arr yv 3 1 y,.arr vq 55 4 (rcs rs)],t⟩:=by
 cases rs with
 | nil=>exact absurd rfl h
 | cons a l=>rfl
section
variable {g:List (List Int)} {w xv yv:Nat} {x y y2:List PV} {ks:List Int} {rs:List Rect} {vq t:Nat}
theorem zeh:(seS g w xv yv x y ks rs vq t).obs[6]?=some (.arr xv 24 1 x):=by cases rs <;> rfl
theorem ze6:(seS g w xv yv x y ks rs vq t).obs[7]?=some (.arr yv 3 1 y):=by cases rs <;> rfl
theorem zhf:(seS g w xv yv x y ks rs vq t).set 7 (.arr yv 3 1 y2)=seS g w xv yv x y2 ks rs vq t:=by cases rs <;> rfl
end
theorem ycs {S:Store} {k f:Nat} {sel:List Nat} {n:Nat} {q:IntKind} {z:Int}:(List.replicate n (PV.int q z)).mapM (rn S k sel (f+1))=some (List.replicate n (PV.int q z)) :=
 zb8 fun x hx=>by obtain rfl:=List.eq_of_mem_replicate hx; rfl
theorem ya8 {S:Store} {k f:Nat} {sel:List Nat} {n:Nat}:(List.replicate n PV.nils).mapM (rn S k sel (f+1))=some (List.replicate n PV.nils) :=
 zb8 fun x hx=>by obtain rfl:=List.eq_of_mem_replicate hx; rfl
theorem yel {S:Store} {k f:Nat} {sel:List Nat} {d:List (List Int)} {cur:PV} {m:Nat}:(gcs d cur m).mapM (rn S k sel (f+1))=(rn S k sel (f+1) cur).map fun c=>gcs d c m:=by
 unfold gcs
 rw [qP,zb8 (l:=d.map eInts) (fun x hx=>by obtain ⟨a,_,rfl⟩:=List.mem_map.1 hx; rfl),qC,zb8 (l:=List.replicate m PV.nils) (fun x hx=>by obtain rfl:=List.eq_of_mem_replicate hx; rfl)]
 cases rn S k sel (f+1) cur <;> rfl
theorem ya6 {S:Store} {fr:Nat→Bool} {f:Nat} {q:IntKind} (l:List Int):(l.map (PV.int q)).mapM (rfq S fr (f+1))=some (l.map (PV.int q)) :=
 zb8 fun x hx=>by obtain ⟨a,_,rfl⟩:=List.mem_map.1 hx; rfl
def seO (g:List (List Int)) (w:Nat) (xv:Nat) (x:List PV) (ks:List Int) (rs:List Rect) (vq t:Nat):Store :=
 match rs with
 | []=>⟨prS g w .nils ks++[.arr xv 24 1 x],t⟩
 | rs=>⟨prS g w (.loc 7 vq 0 rs.length) ks++[.arr xv 24 1 x,.arr vq 55 4 (rcs rs)],t⟩
theorem z8r {g:List (List Int)} {w xv:Nat} {x:List PV} {ks:List Int} {vq t:Nat}:seO g w xv x ks [] vq t=⟨prS g w .nils ks++[.arr xv 24 1 x],t⟩:=rfl
theorem z8q {g:List (List Int)} {w xv:Nat} {x:List PV} {ks:List Int} {rs:List Rect} {vq t:Nat} (h:rs≠[]):seO g w xv x ks rs vq t=⟨prS g w (.loc 7 vq 0 rs.length) ks++[.arr xv 24 1 x,.arr vq 55 4 (rcs rs)],t⟩:=by
 cases rs with
 | nil=>exact absurd rfl h
 | cons a l=>rfl
def zd0 (g:List (List Int)) (i:Nat) (s:List Int × List Rect):Nat→List Int × List Rect
 | 0=>s
 | j+1=>(zie (zd0 g i s j).1 (gz g i j),zpl (zd0 g i s j).1 (zd0 g i s j).2 (gz g i j) (zg3 i j))
def zap (g:List (List Int)) (nw:Nat):Nat→List Int × List Rect
 | 0=>([],[])
 | i+1=>zd0 g i (zap g nw i) nw
def znz (g:List (List Int)) (i:Nat) (s:List Int × List Rect):Nat→List Int
 | 0=>[]
 | j+1=>znz g i s j++[(((zd0 g i s j).1.idxOf (gz g i j):Nat):Int)]
def ze4 (g:List (List Int)) (nw:Nat):Nat→List (List Int)
 | 0=>[]
 | i+1=>ze4 g nw i++[znz g i (zap g nw i) nw]
theorem zfq {g:List (List Int)} {i:Nat} {s:List Int × List Rect}:∀ j,(znz g i s j).length=j
 | 0=>rfl
 | j+1=>by simp [znz,zfq j]
theorem yb0 {g:List (List Int)} {i nw j:Nat} {s:List Int × List Rect} (h:j<nw):znz g i s (j+1)++List.replicate (nw - (j+1)) 0=(znz g i s j++List.replicate (nw - j) 0).set j (((zd0 g i s j).1.idxOf (gz g i j):Nat):Int):=by
 obtain ⟨m,hm⟩:∃ m,nw - j=m+1:=⟨nw - j - 1,by omega⟩
 rw [hm,show nw - (j+1)=m by omega,List.set_append_right _ _ (by rw [zfq]; exact qR _),zfq,Nat.sub_self]
 simp [znz,List.replicate_succ]
theorem zc4 {g:List (List Int)} {nw:Nat}:∀ i,(ze4 g nw i).length=i
 | 0=>rfl
 | i+1=>by simp [ze4,zc4 i]
theorem z2w {ks:List Int} {z:Int}:(zie ks z).length≤ks.length+1∧ks.length≤(zie ks z).length∧1≤(zie ks z).length:=by
 have h:=zhr (ks:=ks) (z:=z)
 unfold zie
 split
 ·simp
 refine ⟨by omega,by omega,?_⟩
 have:ks.idxOf z≠ks.length:=by assumption
 omega
theorem zmz {g:List (List Int)} {i:Nat} (hi:i<6) {s:List Int × List Rect} (h:zr5 s.1 s.2):∀ j,j≤6→zr5 (zd0 g i s j).1 (zd0 g i s j).2∧(zd0 g i s j).1.length≤s.1.length+j∧s.1.length≤(zd0 g i s j).1.length∧(1≤j→1≤(zd0 g i s j).1.length)
 | 0,_=>⟨h,by simp [zd0],by simp [zd0],by omega⟩
 | j+1,hj=>by
  obtain ⟨h1,h2,h3,h4⟩:=zmz hi h j (by omega)
  have:=z2w (ks:=(zd0 g i s j).1) (z:=gz g i j)
  exact ⟨h1.step (zfl hi (by omega)),by simp only[zd0]; omega,by simp only[zd0]; omega,fun _=>by simp only[zd0]; omega⟩
theorem zge {g:List (List Int)} {nw:Nat} (hw:nw≤6) (hw1:1≤nw):∀ i,i≤6→zr5 (zap g nw i).1 (zap g nw i).2∧(zap g nw i).1.length≤6*i∧(1≤i→1≤(zap g nw i).1.length)
 | 0,_=>⟨zr5.nil,by simp [zap],by omega⟩
 | i+1,hi=>by
  obtain ⟨h1,h2,h3⟩:=zge hw hw1 i (by omega)
  obtain ⟨k1,k2,k3,k4⟩:=zmz (g:=g) (i:=i) (by omega) h1 nw hw
  exact ⟨k1,by simp only[zap]; omega,fun _=>by simp only[zap]; exact k4 hw1⟩
theorem zr5.ne {ks:List Int} {rs:List Rect} (h:zr5 ks rs) (h1:1≤ks.length):rs≠[]:=by
 rintro rfl
 have:=h.1
 simp at this; omega
theorem zr5.nl {ks:List Int} (h:zr5 ks []):ks=[]:=List.eq_nil_of_length_eq_zero h.1.symm
theorem ze7 {d:List (List Int)} {cur:PV} {m i:Nat} (h:d.length=i):(gcs d cur m)[i]?=some cur:=by subst h; simp [gcs]
theorem ze8 {d:List (List Int)} {cur:PV} {m:Nat}:(gcs d cur m).length=d.length+1+m:=by simp [gcs]; omega
def gc0 (d:List (List Int)) (m:Nat):List PV:=d.map eInts++List.replicate m .nils
theorem zzq {d:List (List Int)} {m:Nat}:(gc0 d m).length=d.length+m:=by simp [gc0]
theorem zzr {d:List (List Int)} {m i:Nat} {c:PV} (h:d.length=i) (hm:1≤m):(gc0 d m).take i++[c]++(gc0 d m).drop (i+1)=gcs d c (m - 1):=by
 subst h
 obtain ⟨m,rfl⟩:∃ n,m=n+1:=⟨m - 1,by omega⟩
 simp only[gc0,gcs,Nat.add_sub_cancel]
 rw [show d.length=(d.map eInts).length by simp,List.take_left,List.drop_length_add_append]
 simp [List.replicate_succ]
theorem z6b {d:List (List Int)} {r:List Int} {m:Nat}:gcs d (eInts r) m=gc0 (d++[r]) m:=by simp [gcs,gc0]
theorem z6a {d:List (List Int)}:gc0 d 0=d.map eInts:=by simp [gc0]
theorem zuf {m:Nat}:gc0 [] m=List.replicate m .nils:=rfl
end
theorem z0e {g d:List (List Int)} {y:List Int} {row ks:List Int} {rs:List Rect} {z:Int} {r c w m xv yv vq t:Nat} (hr:r<6) (hc:c<6) (hrow:g[r]?=some row) (hz:row[c]?=some z) (hs:zr5 ks rs) (hk:ks.length≤64) :
  Ev Tryz.prog 152 [.int .i64 (r:Nat),.int .i64 (c:Nat),.ref 5 5 0,.ref 0 0 0,.ref 3 3 0] (seS g w xv yv (gcs d (.loc 7 yv 0 w) m) (y.map (.int .i64)) ks rs vq t)
   fun v S=>v = .int .i64 ((ks.idxOf z:Nat):Int)∧∃ vq t:Nat,S=seS g w xv yv (gcs d (.loc 7 yv 0 w) m) (y.map (.int .i64)) (zie ks z) (zpl ks rs z (zg3 r c)) vq t:=by
 have hne:zpl ks rs z (zg3 r c)≠[]:=(hs.step (z:=z) (zfl hr hc)).ne z2w.2.2
 simp only[z2x hne]
 by_cases h0:rs=[]
 ·subst h0
  rw [z8t]
  exact znv (vq:=0) hr hc hrow hz hs hk rfl hs.nl
 rw [z2x h0]
 by_cases hin:ks.idxOf z=ks.length
 ·exact zrl hr hc hrow hz hs hk hin
 exact zrm hr hc hrow hz hs hk hin
theorem z9w {g:List (List Int)} {nh nw:Nat} (hg:GW g nh nw):Ev Tryz.prog 99 [.int .i64 nh,.int .i64 nw,.fn 152 [.ref 5 5 0,.ref 0 0 0,.ref 3 3 0]] ⟨prS g nw .nils [],6⟩ fun v S=>∃ xv vq t:Nat,v = .loc 6 xv 0 nh∧S=seO g nw xv ((ze4 g nw nh).map eInts) (zap g nw nh).1 (zap g nw nh).2 vq t:=by
 have hl:=hg.1
 obtain ⟨hg1,hg2,hg3,hg4⟩:=hg.2.2
 refine Ev.of ⟨Tryz.func99,by kernel_rfl,rfl,by kernel_rfl⟩ zar mixed (by show 3≤Tryz.f99.ntmps; decide) ?_
 refine W.r fun K hK=>?_
 simp(disch:=omega)only[↓RU,RV,RH,↓reduceIte,qE,reduceCtorEq,if_pos,↓RS,RG,qA,qM,qL,prS]
 apply hK;clear hK K
 refine W.r fun K hK=>?_
 simp(disch:=omega)only[↓RU,RV,RH,↓reduceIte,qE,reduceCtorEq,if_pos,↓RS,RG,qA,qM,qL,ty1,zab,zc3,zaa,prS,zmq,zew,zd6]
 apply hK;clear hK K
 refine W.seq ?_
 refine W.r fun K hK=>?_
 simp(disch:=omega)only[↓RU,RV,RH,↓reduceIte,qE,reduceCtorEq,if_pos,↓RS,RG,qA,qM,qL,ty1,zab,zc3,zaa,prS]
 apply hK;clear hK K
 refine W.block ?_
 refine W.loopS [1,2,7,13,14] (fun n vs S=>∃ (i xv vq t:Nat),n=nh - i∧i≤nh∧vs=[.int .i64 nw,.fn 152 [.ref 5 5 0,.ref 0 0 0,.ref 3 3 0],.loc 6 xv 0 nh,.int .i64 nh,.int .i64 (i:Nat)]∧S=seO g nw xv (gc0 (ze4 g nw i) (nh - i)) (zap g nw i).1 (zap g nw i).2 vq t) nh ?_ ?_
 ·refine ⟨7,[],[.int .i64 nw,.fn 152 [.ref 5 5 0,.ref 0 0 0,.ref 3 3 0],.loc 6 6 0 nh,.int .i64 nh,.int .i64 (0:Nat)],seO g nw 6 (gc0 (ze4 g nw 0) (nh - 0)) (zap g nw 0).1 (zap g nw 0).2 0 8,?_,?_,0,6,0,8,rfl,Nat.zero_le _,rfl,rfl⟩
  ·simp [-qU,Env.put,Env.of,zae,zb1,zaj,zao,zay,za0,zcc,zcd,zdc,zcb,zbi,zce,zdb,zdd,zbk,zbj,za1,zca,zcf,zda,zbg,zbf,zaz,zbh,zb9,zfe,qS,qP,qC]
  simp [-qU,Env.put,Env.of,zae,zb1,zaj,zao,zay,za0,zcc,zcd,zdc,zcb,zbi,zce,zdb,zdd,zbk,zbj,za1,zca,zcf,zda,zbg,zbf,zaz,zbh,zb9,zfe,qS,qP,qC,prS,z8r,zap,ze4,zuf,ya8,zz7]
 rintro n vs S - ⟨i,xv,vq,t,rfl,h_i,rfl,rfl⟩
 refine W.r fun K hK=>?_
 simp(disch:=omega)only[↓RU,RV,RH,↓reduceIte,qE,reduceCtorEq,if_pos,w64,↓RS,RG,qA,qM,qL,zaa,prS]
 apply hK;clear hK K
 refine W.seq ?_
 refine W.cond rfl (fun h=>?_) (fun h=>?_)
 ·try simp only[RL]at h
  have hzl:=zc4 (g:=g) (nw:=nw) i
  have hiw:i<nh:=by omega
  obtain ⟨hso,hsl,hsp⟩:=zge (g:=g) hg4 hg3 i (by omega)
  refine W.skip ?_
  refine xn ?_
  refine W.seq ?_
  refine W.block ?_
  refine W.r fun K hK=>?_
  simp(disch:=omega)only[↓RU,RV,RH,↓reduceIte,qE,reduceCtorEq,if_pos,↓RS,RG,qA,qM,qL,prS]
  apply hK;clear hK K
  refine W.joinS [1,2,7,8,13,14] (fun vs S=>∃ (yv vq t:Nat),vs=[.int .i64 nw,.fn 152 [.ref 5 5 0,.ref 0 0 0,.ref 3 3 0],.loc 6 xv 0 nh,.int .i64 (i:Nat),.int .i64 nh,.int .i64 (i:Nat)]∧S=seS g nw xv yv (gcs (ze4 g nw i) (.loc 7 yv 0 nw) (nh - i - 1)) ((List.replicate nw 0).map (.int .i64)) (zap g nw i).1 (zap g nw i).2 vq t) ?_ ?_
  ·
   refine W.k fun K hK=>?_
   by_cases hi0:zap g nw i=([],[])
   ·skip
    rw [hi0,z8r]
    simp(disch:=omega)only[↓RU,RV,RH,↓reduceIte,qE,reduceCtorEq,if_pos,↓RS,RG,qA,qM,qL,ty1,zab,zc3,zaa,prS,zew,zd6,zzq,zc4,zzr]
    apply hK;clear hK K
    refine xn ?_
    refine ⟨8,[],[.int .i64 nw,.fn 152 [.ref 5 5 0,.ref 0 0 0,.ref 3 3 0],.loc 6 xv 0 nh,.int .i64 (i:Nat),.int .i64 nh,.int .i64 (i:Nat)],seS g nw xv t (gcs (ze4 g nw i) (.loc 7 t 0 nw) (nh - i - 1)) ((List.replicate nw 0).map (.int .i64)) (zap g nw i).1 (zap g nw i).2 vq (t+2),?_,?_,t,vq,t+2,rfl,rfl⟩
    ·simp [-qU,Env.put,Env.of,zae,zb1,zaj,zao,zay,za0,zcc,zcd,zdc,zcb,zbi,zce,zdb,zdd,zbk,zbj,za1,zca,zcf,zda,zbg,zbf,zaz,zbh,zb9,zfe,qS,qP,qC]
    rw [hi0,z8t]; simp [-qU,Env.put,Env.of,zae,zb1,zaj,zao,zay,za0,zcc,zcd,zdc,zcb,zbi,zce,zdb,zdd,zbk,zbj,za1,zca,zcf,zda,zbg,zbf,zaz,zbh,zb9,zfe,qS,qP,qC,prS,zz7,zos,zh4,zyg,ycs,show List.idxOf 7 [8,7]=1 from rfl]
   skip
   have hne:(zap g nw i).2≠[]:=fun e=>hi0 (by have:=hso; rw [e]at this; rw [← Prod.eta (zap g nw i),e,this.nl])
   rw [z8q hne]
   simp(disch:=omega)only[↓RU,RV,RH,↓reduceIte,qE,reduceCtorEq,if_pos,↓RS,RG,qA,qM,qL,ty1,zab,zc3,zaa,prS,zew,zd6,zzq,zc4,zzr]
   apply hK;clear hK K
   refine xn ?_
   refine ⟨7,[8,7],[.int .i64 nw,.fn 152 [.ref 5 5 0,.ref 0 0 0,.ref 3 3 0],.loc 6 xv 0 nh,.int .i64 (i:Nat),.int .i64 nh,.int .i64 (i:Nat)],seS g nw xv (t+1) (gcs (ze4 g nw i) (.loc 7 (t+1) 0 nw) (nh - i - 1)) ((List.replicate nw 0).map (.int .i64)) (zap g nw i).1 (zap g nw i).2 (t+1) (t+2),?_,?_,t+1,t+1,t+2,rfl,rfl⟩
   ·simp [-qU,Env.put,Env.of,zae,zb1,zaj,zao,zay,za0,zcc,zcd,zdc,zcb,zbi,zce,zdb,zdd,zbk,zbj,za1,zca,zcf,zda,zbg,zbf,zaz,zbh,zb9,zfe,qS,qP,qC]
   rw [z2x hne]; simp [-qU,Env.put,Env.of,zae,zb1,zaj,zao,zay,za0,zcc,zcd,zdc,zcb,zbi,zce,zdb,zdd,zbk,zbj,za1,zca,zcf,zda,zbg,zbf,zaz,zbh,zb9,zfe,qS,qP,qC,prS,zz7,zos,zh4,zyg,ycs,show List.idxOf 7 [8,7]=1 from rfl]
  rintro vs S - ⟨yv,vq,t,rfl,rfl⟩
  refine W.r fun K hK=>?_
  simp(disch:=omega)only[↓RU,RV,RH,↓reduceIte,qE,reduceCtorEq,if_pos,↓RS,RG,qA,qM,qL,ty1,zab,zc3,zaa,prS,zeh,ze6,ze7,ze8,hzl]
  apply hK;clear hK K
  refine W.block ?_
  refine W.loop [1,2,7,8,13,14,26,27] (fun n vs S=>∃ (j vq t:Nat),n=nw - j∧j≤nw∧vs=[.int .i64 nw,.fn 152 [.ref 5 5 0,.ref 0 0 0,.ref 3 3 0],.loc 6 xv 0 nh,.int .i64 (i:Nat),.int .i64 nh,.int .i64 (i:Nat),.int .i64 nw,.int .i64 (j:Nat)]∧S=seS g nw xv yv (gcs (ze4 g nw i) (.loc 7 yv 0 nw) (nh - i - 1)) ((znz g i (zap g nw i) j++List.replicate (nw - j) 0).map (.int .i64)) (zd0 g i (zap g nw i) j).1 (zd0 g i (zap g nw i) j).2 vq t) nw ?_ ?_
  ·refine ⟨_,0,vq,t,rfl,Nat.zero_le _,?_,zak⟩
   simp [Env.put,Env.of]
  rintro n vs S - ⟨j,vq,t,rfl,h_j,rfl,rfl⟩
  refine W.r fun K hK=>?_
  simp(disch:=omega)only[↓RU,RV,RH,↓reduceIte,qE,reduceCtorEq,if_pos,w64,↓RS,RG,qA,qM,qL,zaa,prS]
  apply hK;clear hK K
  refine W.seq ?_
  refine W.cond rfl (fun h1=>?_) (fun h1=>?_)
  ·try simp only[RL]at h1
   have hjw:j<nw:=by omega
   obtain ⟨row,hrow,hrl,hz⟩:=hg.at_ hiw hjw
   obtain ⟨hro,hrl2,-,-⟩:=zmz (g:=g) (i:=i) (by omega) hso j (by omega)
   have hYl:(znz g i (zap g nw i) j++List.replicate (nw - j) 0).length=nw:=by simp only[List.length_append,List.length_replicate,zfq]; omega
   generalize hY:znz g i (zap g nw i) j++List.replicate (nw - j) 0=Y at hYl
   refine W.skip ?_
   refine xn ?_
   refine W.seq ?_
   refine W.block ?_
   refine W.r fun K hK=>?_
   simp(disch:=omega)only[↓RU,RV,RH,↓reduceIte,qE,reduceCtorEq,if_pos,↓RS,RG,qA,qM,qL,prS]
   apply hK;clear hK K
   refine W.region_pk 9 [some 32,some 33] [6] (by decide) (by kernel_rfl) fun K hK=>?_
   simp only[List.take_succ_cons,List.take_zero,List.drop_succ_cons,List.drop_zero]
   refine zba rfl ?_
   simp(disch:=omega)only[↓RU,RV,RH,↓reduceIte,qE,reduceCtorEq,if_pos,qN,↓RS,RG,qA,qM,qL,ty1,zab,zc3,zaa,prS,zeh,ze6,ze7,ze8,hzl,zhf,zb0,zdt,hYl,zan,zas]
   refine zba rfl ?_
   simp(disch:=omega)only[↓RU,RV,RH,↓reduceIte,qE,reduceCtorEq,if_pos,qN,↓RS,RG,qA,qM,qL,ty1,zab,zc3,zaa,prS,zeh,ze6,ze7,ze8,hzl,zhf,zb0,zdt,hYl,zan,zas]
   refine zat (.ref 6 xv i) rfl rfl rfl (fun S' hS=>?_) ?_
   ·skip
    have k6:=(hS 6 (by decide)).trans zeh
    simp(disch:=omega)only[↓RU,RV,RH,↓reduceIte,qE,reduceCtorEq,if_pos,qN,↓RS,RG,qA,qM,qL,ty1,zab,zc3,zaa,prS,zeh,ze6,ze7,ze8,hzl,zhf,zb0,zdt,hYl,zb3,zc0,zed,zee,k6]
   refine zat (.loc 7 yv 0 nw) rfl rfl rfl (fun S' hS=>?_) ?_
   ·skip
    have k6:=(hS 6 (by decide)).trans zeh
    simp(disch:=omega)only[↓RU,RV,RH,↓reduceIte,qE,reduceCtorEq,if_pos,qN,↓RS,RG,qA,qM,qL,ty1,zab,zc3,zaa,prS,zeh,ze6,ze7,ze8,hzl,zhf,zb0,zdt,hYl,zb3,zc0,zed,zee,k6]
   refine zba rfl ?_
   simp(disch:=omega)only[↓RU,RV,RH,↓reduceIte,qE,reduceCtorEq,if_pos,qN,↓RS,RG,qA,qM,qL,ty1,zab,zc3,zaa,prS,zeh,ze6,ze7,ze8,hzl,zhf,zb0,zdt,hYl,zan,zas]
   refine zba rfl ?_
   simp(disch:=omega)only[↓RU,RV,RH,↓reduceIte,qE,reduceCtorEq,if_pos,qN,↓RS,RG,qA,qM,qL,ty1,zab,zc3,zaa,prS,zeh,ze6,ze7,ze8,hzl,zhf,zb0,zdt,hYl,zan,zas]
   refine zba rfl ?_
   simp(disch:=omega)only[↓RU,RV,RH,↓reduceIte,qE,reduceCtorEq,if_pos,qN,↓RS,RG,qA,qM,qL,ty1,zab,zc3,zaa,prS,zeh,ze6,ze7,ze8,hzl,zhf,zb0,zdt,hYl,zan,zas]
   refine zba rfl ?_
   simp(disch:=omega)only[↓RU,RV,RH,↓reduceIte,qE,reduceCtorEq,if_pos,qN,↓RS,RG,qA,qM,qL,ty1,zab,zc3,zaa,prS,zeh,ze6,ze7,ze8,hzl,zhf,zb0,zdt,hYl,zan,zas]
   refine zba rfl ?_
   simp(disch:=omega)only[↓RU,RV,RH,↓reduceIte,qE,reduceCtorEq,if_pos,qN,↓RS,RG,qA,qM,qL,ty1,zab,zc3,zaa,prS,zeh,ze6,ze7,ze8,hzl,zhf,zb0,zdt,hYl,zan,zas]
   refine zad.ev (z0e (y:=Y) (by omega) (by omega) hrow hz hro (by omega)) ?_
   rintro _ _ ⟨rfl,vq2,t2,rfl⟩
   simp(disch:=omega)only[↓RU,RV,RH,↓reduceIte,qE,reduceCtorEq,if_pos,qN,↓RS,RG,qA,qM,qL,ty1,zab,zc3,zaa,prS,zeh,ze6,ze7,ze8,hzl,zhf,zb0,zdt,hYl,zan,zas]
   refine zga ?_
   simp(disch:=omega)only[↓RU,RV,RH,↓reduceIte,qE,reduceCtorEq,if_pos,qN,↓RS,RG,qA,qM,qL,ty1,zab,zc3,zaa,prS,zeh,ze6,ze7,ze8,hzl,zhf,zb0,zdt,hYl]
   apply hK;clear hK K
   refine XbN ?_
   refine xn ?_
   refine W.k fun K hK=>?_
   simp(disch:=omega)only[↓RU,RV,RH,↓reduceIte,qE,reduceCtorEq,if_pos,w64,↓RS,RG,qA,qM,qL,zaa,prS]
   apply hK;clear hK K
   refine xn ?_
   refine ⟨nw - (j+1),by omega,_,j+1,vq2,t2,rfl,by omega,?_,za9 ?_⟩
   rotate_left
   ·rw [show znz g i (zap g nw i) (j+1)++List.replicate (nw - (j+1)) 0=(znz g i (zap g nw i) j++List.replicate (nw - j) 0).set j (((zd0 g i (zap g nw i) j).1.idxOf (gz g i j):Nat):Int) from yb0 hjw,hY]; rfl
   simp [Env.put,Env.of]
  try simp only[RL]at h1
  obtain rfl:nw=j:=by omega
  obtain ⟨hro,hrl2,-,hro4⟩:=zmz (g:=g) (i:=i) (by omega) hso nw hg4
  have hne:=hro.ne (hro4 hg3)
  have hY:znz g i (zap g nw i) nw++List.replicate (nw - nw) 0=znz g i (zap g nw i) nw:=by rw [Nat.sub_self]; exact qN _
  have hYl:=zfq (g:=g) (i:=i) (s:=zap g nw i) nw
  rw [hY,z2x hne]
  generalize hYe:znz g i (zap g nw i) nw=Y at hYl
  have hYt:(Y.map (PV.int .i64)).take nw=Y.map (PV.int .i64):=qT (by rw [List.length_map]; omega)
  have hYE:eInts Y=PV.sl (Y.map (PV.int .i64)) nw:=by rw [← hYl]
  have hsr:zd0 g i (zap g nw i) nw=zap g nw (i+1):=rfl
  rw [hsr]at hne ⊢
  have hzs:ze4 g nw (i+1)=ze4 g nw i++[Y]:=by rw [← hYe]; rfl
  refine W.exit ?_
  refine xe ?_
  refine xe ?_
  refine XBlock.hit ?_
  refine XbN ?_
  refine xn ?_
  refine W.k fun K hK=>?_
  simp(disch:=omega)only[↓RU,RV,RH,↓reduceIte,qE,reduceCtorEq,if_pos,w64,↓RS,RG,qA,qM,qL,zaa,prS]
  apply hK;clear hK K
  refine xn ?_
  refine ⟨nh - (i+1),by omega,7,[8],[.int .i64 nw,.fn 152 [.ref 5 5 0,.ref 0 0 0,.ref 3 3 0],.loc 6 xv 0 nh,.int .i64 nh,.int .i64 ((i+1:Nat):Int)],seO g nw xv (gc0 (ze4 g nw (i+1)) (nh - (i+1))) (zap g nw (i+1)).1 (zap g nw (i+1)).2 t (t+1),?_,?_,i+1,xv,t+0,t+1,rfl,by omega,rfl,rfl⟩
  ·simp [-qU,Env.put,Env.of,zae,zb1,zaj,zao,zay,za0,zcc,zcd,zdc,zcb,zbi,zce,zdb,zdd,zbk,zbj,za1,zca,zcf,zda,zbg,zbf,zaz,zbh,zb9,zfe,qS,qP,qC]
  rw [z8q hne,hzs,← z6b]; simp [-qU,Env.put,Env.of,zae,zb1,zaj,zao,zay,za0,zcc,zcd,zdc,zcb,zbi,zce,zdb,zdd,zbk,zbj,za1,zca,zcf,zda,zbg,zbf,zaz,zbh,zb9,zfe,qS,qP,qC,prS,zz7,zos,zh4,yel,hYl,hYt,hYE,ya6,show nh - i - 1=nh - (i+1) by omega,show List.idxOf 8 [8]=0 from rfl]
 try simp only[RL]at h
 obtain rfl:nh=i:=by omega
 refine W.exit ?_
 refine xe ?_
 refine xe ?_
 refine XBlock.hit ?_
 refine xn ?_
 refine W.r fun K hK=>?_
 simp(disch:=omega)only[↓RU,RV,RH,↓reduceIte,qE,reduceCtorEq,if_pos,↓RS,RG,qA,qM,qL,prS]
 apply hK;clear hK K
 refine W.ret ?_
 refine Br rfl ?_
 rw [Nat.sub_self,z6a]
 exact ⟨_,xv,vq,t,rfl,zak⟩
def w0 (g:List (List Int)):Nat:=(g[0]?.getD []).length
def okG (g:List (List Int)):Bool:=decide (1≤g.length) && decide (g.length≤6) && decide (1≤w0 g) && decide (w0 g≤6) && !(g.any fun r=>decide ((r.length:Int)≠(w0 g:Nat)))
def stG (g:List (List Int)):List Int × List Rect:=zap g (w0 g) g.length
def zG (g:List (List Int)):List (List Int):=ze4 g (w0 g) g.length
def z4y (rs:List Rect):Int:=rs.foldl (fun s b=>s+b.high*b.wide) 0
def okS (g:List (List Int)):Bool:=okG g && decide ((stG g).2.length≤9)
def zh7 (g:List (List Int)):Bool:=decide (z4y (stG g).2=((g.length*w0 g:Nat):Int))
def zey (g:List (List Int)):PV:=if okS g then .tup [zax (zG g) (stG g).2,.bool (zh7 g)] else .tup [.nilp,.bool false]
theorem ybr {g:List (List Int)} {row:List Int} (h:g[0]?=some row):w0 g=row.length:=by simp [w0,h]
theorem zqt {g:List (List Int)}:okG g=true↔GW g g.length (w0 g):=by
 unfold okG GW
 simp only[qB,decide_eq_true_eq,Bool.not_eq_true',List.any_eq_false,decide_eq_true_eq,ne_eq,Decidable.not_not]
 constructor
 ·rintro ⟨⟨⟨⟨h1,h2⟩,h3⟩,h4⟩,h5⟩
  exact ⟨trivial,fun r hr=>by have:=h5 r hr; omega,h1,h2,h3,h4⟩
 rintro ⟨_,h5,h1,h2,h3,h4⟩
 exact ⟨⟨⟨⟨h1,h2⟩,h3⟩,h4⟩,fun r hr=>by have:=h5 r hr; omega⟩
theorem zrr {rs:List Rect} {k:Nat} {b:Rect} (h:rs[k]?=some b):z4y (rs.take (k+1))=z4y (rs.take k)+b.high*b.wide:=by
 unfold z4y; rw [zes h]
theorem Rect.Fit.area {b:Rect} (h:b.Fit):1≤b.high*b.wide∧b.high*b.wide≤36:=by
 unfold Rect.Fit at h
 obtain ⟨h1,h2,h3,h4,h5,h6⟩:=h
 obtain ⟨m,hm⟩:∃ m:Nat,b.high=m:=⟨b.high.toNat,by omega⟩
 obtain ⟨n,hn⟩:∃ n:Nat,b.wide=n:=⟨b.wide.toNat,by omega⟩
 rw [hm,hn]
 have h7:=Nat.mul_le_mul (show m≤6 by omega) (show n≤6 by omega)
 have h8:=Nat.mul_le_mul (show 1≤m by omega) (show 1≤n by omega)
 have:((m*n:Nat):Int)=(m:Int)*n:=by simp
 omega
theorem ztr {rs:List Rect} (h:∀ b∈rs,b.Fit):∀ k,0≤z4y (rs.take k)∧z4y (rs.take k)≤36*k
 | 0=>by simp [z4y]
 | k+1=>by
  have ih:=ztr h k
  by_cases hk:k<rs.length
  ·obtain ⟨b,hb,hm⟩:=zag hk
   rw [zrr hb]
   have:=(h b hm).area
   omega
  rw [qT (by omega)]at ih ⊢
  omega
theorem zkg {g:List (List Int)} {nw:Nat}:∀ {i k:Nat},k<i→(ze4 g nw i)[k]?=some (znz g k (zap g nw k) nw)
 | 0,k,h=>by omega
 | i+1,k,h=>by
  unfold ze4
  by_cases e:k=i
  ·subst e; rw [List.getElem?_append_right (by rw [zc4]; exact qR _),zc4]; simp
  rw [List.getElem?_append_left (by rw [zc4]; omega)]; exact zkg (by omega)
theorem ygv {g:List (List Int)} {nh nw:Nat} (hg:GW g nh nw):GW (ze4 g nw nh) nh nw:=by
 refine ⟨zc4 _,fun r hr=>?_,hg.2.2⟩
 obtain ⟨k,hk⟩:=List.getElem?_of_mem hr
 have hkl:=zb7 hk
 rw [zc4]at hkl
 rw [zkg hkl]at hk
 cases hk
 exact zfq _
theorem zle {S:Store} {xv vq nh f:Nat} {Z:List (List Int)} {rs:List Rect} (h2:S.obs[2]?=some (.arr 2 101 2 [.loc 6 xv 0 nh,.loc 7 vq 0 rs.length])) (h6:S.obs[6]?=some (.arr xv 24 1 (Z.map eInts))) (hZ:Z.length=nh)
  (h7:S.obs[7]?=some (.arr vq 55 4 (rcs rs))):reify S true (f+4) (.ref 2 2 0)=some (zax Z rs):=by
 have e1:reify S true (f+3) (.loc 6 xv 0 nh)=some (zer Z):=by
  rw [← hZ]
  exact zcl (k:=f+2) h6 (by simp) (zj0 _)
 have e2:reify S true (f+3) (.loc 7 vq 0 rs.length)=some (zn6 rs):=zcl (k:=f+2) h7 (zb4 _) (znr (z2u _))
 have hc:S.cellsOf 2 2=some [.loc 6 xv 0 nh,.loc 7 vq 0 rs.length]:=by simp [Store.cellsOf,h2]
 have e0:reify S true (f+4) (.ref 2 2 0)=(S.cellsOf 2 2).bind fun cells=>(cells.mapM (reify S true (f+3))).map (.ip · 0):=rfl
 rw [e0,hc,Option.bind_some,qC,e1,qC,e2]
 rfl
theorem ztn {g:List (List Int)} (hsm:g.length<2147483648) (hsr:∀ r∈g,r.length<2147483648):PC Tryz.prog 131 [zer g] (zey g) false:=by
 refine PC.of ⟨Tryz.func131,by kernel_rfl,rfl,by kernel_rfl⟩ zar mixed (by show 1≤Tryz.f131.ntmps; decide) ?_
 refine W.r fun K hK=>?_
 simp(disch:=omega)only[↓RU,RV,RH,↓reduceIte,qE,reduceCtorEq,if_pos,↓RS,RG,qA,qM,qL,ty1,zab,zc3,zaa]
 apply hK;clear hK K
 refine W.seq ?_
 refine W.r fun K hK=>?_
 have hcase:g.length<1∨6<g.length∨∃ row:List Int,g[0]?=some row∧row∈g∧(1≤g.length∧g.length≤6)∧(row.length<1∨6<row.length∨(1≤row.length∧row.length≤6)):=by
  by_cases h1:g.length<1
  ·exact .inl h1
  obtain ⟨row,h2,h3⟩:=zag (show 0<g.length by omega)
  by_cases h4:6<g.length
  ·exact .inr (.inl h4)
  exact .inr (.inr ⟨row,h2,h3,by omega,by omega⟩)
 rcases hcase with hb | hb | ⟨row,hrow,hrm,hgl,hb | hb | hb⟩
 ·skip
  have hd:decide ((g.length:Int)<1)=true:=decide_eq_true (by omega)
  simp(disch:=omega)only[↓RU,RV,RH,↓reduceIte,qE,reduceCtorEq,if_pos,w64,↓RS,RG,qA,qM,qL,ty1,zab,zc3,zaa,hd]
  apply hK;clear hK K
  refine W.cond rfl (fun h=>?_) (fun h=>?_)
  ·try simp only[RL]at h
   refine W.r fun K hK=>?_
   simp(disch:=omega)only[↓RU,RV,RH,↓reduceIte,qE,reduceCtorEq,if_pos,↓RS,RG,qA,qM,qL]
   apply hK;clear hK K
   refine W.ret ?_
   refine XThen.ret ?_
   refine Br rfl ?_
   have hok:okS g=false:=by simp [okS,okG]; omega
   rw [zey,hok]
   rfl
  try simp only[RL]at h
  exact absurd h (by simp)
 ·skip
  have hd:decide ((g.length:Int)<1)=false:=decide_eq_false (by omega)
  have hd2:decide ((g.length:Int)>6)=true:=decide_eq_true (by omega)
  simp(disch:=omega)only[↓RU,RV,RH,↓reduceIte,qE,reduceCtorEq,if_pos,w64,↓RS,RG,qA,qM,qL,ty1,zab,zc3,zaa,hd,hd2]
  apply hK;clear hK K
  refine W.cond rfl (fun h=>?_) (fun h=>?_)
  ·try simp only[RL]at h
   refine W.r fun K hK=>?_
   simp(disch:=omega)only[↓RU,RV,RH,↓reduceIte,qE,reduceCtorEq,if_pos,↓RS,RG,qA,qM,qL]
   apply hK;clear hK K
   refine W.ret ?_
   refine XThen.ret ?_
   refine Br rfl ?_
   have hok:okS g=false:=by simp [okS,okG]; omega
   rw [zey,hok]
   rfl
  try simp only[RL]at h
  exact absurd h (by simp)
 ·skip
  have hrl:=hsr row hrm
  have hw0:=ybr hrow
  have hd:decide ((g.length:Int)<1)=false:=decide_eq_false (by omega)
  have hd2:decide ((g.length:Int)>6)=false:=decide_eq_false (by omega)
  have hd3:decide ((row.length:Int)<1)=true:=decide_eq_true (by omega)
  simp(disch:=omega)only[↓RU,RV,RH,↓reduceIte,qE,reduceCtorEq,if_pos,w64,↓RS,RG,qA,qM,qL,ty1,zab,zc3,zaa,hd,hd2,hd3,hrow,Int.toNat_zero,Nat.zero_mul,qZ]
  apply hK;clear hK K
  refine W.cond rfl (fun h=>?_) (fun h=>?_)
  ·try simp only[RL]at h
   refine W.r fun K hK=>?_
   simp(disch:=omega)only[↓RU,RV,RH,↓reduceIte,qE,reduceCtorEq,if_pos,↓RS,RG,qA,qM,qL]
   apply hK;clear hK K
   refine W.ret ?_
   refine XThen.ret ?_
   refine Br rfl ?_
   have hok:okS g=false:=by simp [okS,okG]; omega
   rw [zey,hok]
   rfl
  try simp only[RL]at h
  exact absurd h (by simp)
 ·skip
  have hrl:=hsr row hrm
  have hw0:=ybr hrow
  have hd:decide ((g.length:Int)<1)=false:=decide_eq_false (by omega)
  have hd2:decide ((g.length:Int)>6)=false:=decide_eq_false (by omega)
  have hd3:decide ((row.length:Int)<1)=false:=decide_eq_false (by omega)
  have hd4:decide ((row.length:Int)>6)=true:=decide_eq_true (by omega)
  simp(disch:=omega)only[↓RU,RV,RH,↓reduceIte,qE,reduceCtorEq,if_pos,w64,↓RS,RG,qA,qM,qL,ty1,zab,zc3,zaa,hd,hd2,hd3,hd4,hrow,Int.toNat_zero,Nat.zero_mul,qZ]
  apply hK;clear hK K
  refine W.cond rfl (fun h=>?_) (fun h=>?_)
  ·try simp only[RL]at h
   refine W.r fun K hK=>?_
   simp(disch:=omega)only[↓RU,RV,RH,↓reduceIte,qE,reduceCtorEq,if_pos,↓RS,RG,qA,qM,qL]
   apply hK;clear hK K
   refine W.ret ?_
   refine XThen.ret ?_
   refine Br rfl ?_
   have hok:okS g=false:=by simp [okS,okG]; omega
   rw [zey,hok]
   rfl
  try simp only[RL]at h
  exact absurd h (by simp)
 skip
 have hrl:=hsr row hrm
 have hw0:=ybr hrow
 have hd:decide ((g.length:Int)<1)=false:=decide_eq_false (by omega)
 have hd2:decide ((g.length:Int)>6)=false:=decide_eq_false (by omega)
 have hd3:decide ((row.length:Int)<1)=false:=decide_eq_false (by omega)
 have hd4:decide ((row.length:Int)>6)=false:=decide_eq_false (by omega)
 simp(disch:=omega)only[↓RU,RV,RH,↓reduceIte,qE,reduceCtorEq,if_pos,w64,↓RS,RG,qA,qM,qL,ty1,zab,zc3,zaa,hd,hd2,hd3,hd4,hrow,Int.toNat_zero,Nat.zero_mul,qZ]
 apply hK;clear hK K
 refine W.cond rfl (fun h=>?_) (fun h=>?_)
 ·try simp only[RL]at h
  exact absurd h (by simp)
 try simp only[RL]at h
 refine W.skip ?_
 refine xn ?_
 refine W.r fun K hK=>?_
 simp(disch:=omega)only[↓RU,RV,RH,↓reduceIte,qE,reduceCtorEq,if_pos,↓RS,RG,qA,qM,qL,ty1,zab,zc3,zaa,hrow,Int.toNat_zero,Nat.zero_mul,qZ]
 apply hK;clear hK K
 refine W.seq ?_
 refine W.r fun K hK=>?_
 simp(disch:=omega)only[↓RU,RV,RH,↓reduceIte,qE,reduceCtorEq,if_pos,qN,↓RS,RG,qA,qM,qL,ty1,zab,zc3,zaa,hrow]
 refine zad.pc (zrx (l:=g) hsm (g:=151) (cap:=[.ip [.int .i64 row.length] 0]) rfl rfl (test:=fun r=>decide ((r.length:Int)≠(row.length:Nat))) (fun r hr=>z0d r _ (hsr r hr))) rfl (.inl rfl) ?_
 simp(disch:=omega)only[↓RU,RV,RH,↓reduceIte,qE,reduceCtorEq,if_pos,qN,↓RS,RG,qA,qM,qL,ty1,zab,zc3,zaa,hrow]
 apply hK;clear hK K
 refine W.cond rfl (fun h1=>?_) (fun h1=>?_)
 ·try simp only[RL]at h1
  refine W.r fun K hK=>?_
  simp(disch:=omega)only[↓RU,RV,RH,↓reduceIte,qE,reduceCtorEq,if_pos,↓RS,RG,qA,qM,qL]
  apply hK;clear hK K
  refine W.ret ?_
  refine XThen.ret ?_
  refine Br rfl ?_
  have hok:okS g=false:=by unfold okS okG; rw [hw0,h1]; simp
  rw [zey,hok]
  rfl
 try simp only[RL]at h1
 have hg:GW g g.length row.length:=by have:=zqt (g:=g); rw [hw0]at this; refine this.1 ?_; unfold okG; rw [hw0,h1]; simp; omega
 obtain ⟨hso,hsl,hs1⟩:=zge (g:=g) (nw:=row.length) (by omega) (by omega) g.length (by omega)
 have hne:=hso.ne (hs1 (by omega))
 refine W.skip ?_
 refine xn ?_
 refine W.r fun K hK=>?_
 simp(disch:=omega)only[↓RU,RV,RH,↓reduceIte,qE,reduceCtorEq,if_pos,↓RS,RG,qA,qM,qL,ty1,ty3,zab,ty7,ze1,zc3,zbb,zaa,ze3,zbc]
 apply hK;clear hK K
 refine W.r fun K hK=>?_
 simp(disch:=omega)only[↓RU,RV,RH,↓reduceIte,qE,reduceCtorEq,if_pos,↓RS,RG,qA,qM,qL,zaa,yc0]
 apply hK;clear hK K
 refine W.seq_pk 6 [some 42] [3] (by decide) (by kernel_rfl) fun K hK=>?_
 simp only[List.take_succ_cons,List.take_zero,List.drop_succ_cons,List.drop_zero]
 refine zat (.ref 2 2 0) rfl rfl rfl (fun S' hS=>?_) ?_
 ·skip
  have k3:=(hS 3 (by decide)).trans (show _=some _ from rfl)
  simp(disch:=omega)only[↓RU,RV,RH,↓reduceIte,qE,reduceCtorEq,if_pos,qN,↓RS,RG,qA,qM,qL,ty1,ty3,zab,ty7,ze1,zc3,zbb,zaa,ze3,zbc,zb3,zc0,zed,zee,k3]
 refine zba rfl ?_
 simp(disch:=omega)only[↓RU,RV,RH,↓reduceIte,qE,reduceCtorEq,if_pos,qN,↓RS,RG,qA,qM,qL,ty1,ty3,zab,ty7,ze1,zc3,zbb,zaa,ze3,zbc,zan,zas]
 refine zba rfl ?_
 simp(disch:=omega)only[↓RU,RV,RH,↓reduceIte,qE,reduceCtorEq,if_pos,qN,↓RS,RG,qA,qM,qL,ty1,ty3,zab,ty7,ze1,zc3,zbb,zaa,ze3,zbc,zan,zas]
 refine zba rfl ?_
 simp(disch:=omega)only[↓RU,RV,RH,↓reduceIte,qE,reduceCtorEq,if_pos,qN,↓RS,RG,qA,qM,qL,ty1,ty3,zab,ty7,ze1,zc3,zbb,zaa,ze3,zbc,zan,zas]
 refine zba rfl ?_
 simp(disch:=omega)only[↓RU,RV,RH,↓reduceIte,qE,reduceCtorEq,if_pos,qN,↓RS,RG,qA,qM,qL,ty1,ty3,zab,ty7,ze1,zc3,zbb,zaa,ze3,zbc,zan,zas]
 refine zba rfl ?_
 simp(disch:=omega)only[↓RU,RV,RH,↓reduceIte,qE,reduceCtorEq,if_pos,qN,↓RS,RG,qA,qM,qL,ty1,ty3,zab,ty7,ze1,zc3,zbb,zaa,ze3,zbc,zan,zas]
 refine zad.ev (z9w hg) ?_
 rintro _ _ ⟨xv,vq,t,rfl,rfl⟩
 rw [z8q hne]
 simp only[prS]
 simp(disch:=omega)only[↓RU,RV,RH,↓reduceIte,qE,reduceCtorEq,if_pos,qN,↓RS,RG,qA,qM,qL,ty1,ty3,zab,ty7,ze1,zc3,zbb,zaa,ze3,zbc,zan,zas]
 refine zga ?_
 simp(disch:=omega)only[↓RU,RV,RH,↓reduceIte,qE,reduceCtorEq,if_pos,qN,↓RS,RG,qA,qM,qL,ty1,ty3,zab,ty7,ze1,zc3,zbb,zaa,ze3,zbc]
 apply hK;clear hK K
 refine W.seq ?_
 refine W.r fun K hK=>?_
 simp(disch:=omega)only[↓RU,RV,RH,↓reduceIte,qE,reduceCtorEq,if_pos,w64,↓RS,RG,qA,qM,qL,ty1,ty3,zab,ty7,ze1,zc3,zbb,zaa,ze3,zbc]
 apply hK;clear hK K
 refine W.cond rfl (fun h2=>?_) (fun h2=>?_)
 ·try simp only[RL]at h2
  refine W.r fun K hK=>?_
  simp(disch:=omega)only[↓RU,RV,RH,↓reduceIte,qE,reduceCtorEq,if_pos,↓RS,RG,qA,qM,qL]
  apply hK;clear hK K
  refine W.ret ?_
  refine XThen.ret ?_
  refine Br rfl ?_
  have hok:okS g=false:=by unfold okS stG; rw [hw0]; simp only[Bool.and_eq_false_iff]; right; exact decide_eq_false (by omega)
  rw [zey,hok]
  rfl
 try simp only[RL]at h2
 refine W.skip ?_
 refine xn ?_
 refine W.r fun K hK=>?_
 simp(disch:=omega)only[↓RU,RV,RH,↓reduceIte,qE,reduceCtorEq,if_pos,↓RS,RG,qA,qM,qL]
 apply hK;clear hK K
 refine W.seq ?_
 refine W.r fun K hK=>?_
 simp(disch:=omega)only[↓RU,RV,RH,↓reduceIte,qE,reduceCtorEq,if_pos,↓RS,RG,qA,qM,qL,ty1,ty3,zab,ty7,ze1,zc3,zbb,zaa,ze3,zbc]
 apply hK;clear hK K
 refine W.block ?_
 refine W.loop [5,7,59,60,61] (fun n vs S=>∃ k t:Nat,n=(zap g row.length g.length).2.length - k∧k≤(zap g row.length g.length).2.length∧vs=[.ref 3 3 0,.int .i64 (z4y ((zap g row.length g.length).2.take k)),.loc 7 vq 0 (zap g row.length g.length).2.length,.int .i64 (zap g row.length g.length).2.length,.int .i64 (k:Nat)]∧S=⟨[.arr 0 98 1 [zer g],.arr 1 3 1 [.int .i64 row.length],.arr 2 101 2 [.loc 6 xv 0 g.length,.loc 7 vq 0 (zap g row.length g.length).2.length],.arr 3 49 1 [.ref 2 2 0],.map 4 (mE (zap g row.length g.length).1),.arr 5 170 1 [.mp 4 4],.arr xv 24 1 ((ze4 g row.length g.length).map eInts),.arr vq 55 4 (rcs (zap g row.length g.length).2)],t⟩) (zap g row.length g.length).2.length ?_ ?_
 ·refine ⟨8,0,t,rfl,Nat.zero_le _,?_,?_⟩
  ·simp [Env.put,Env.of,zae,z4y]
  simp [za3]
 rintro n vs S - ⟨k,t,rfl,h_k,rfl,rfl⟩
 refine W.r fun K hK=>?_
 simp(disch:=omega)only[↓RU,RV,RH,↓reduceIte,qE,reduceCtorEq,if_pos,w64,↓RS,RG,qA,qM,qL,zaa]
 apply hK;clear hK K
 refine W.seq ?_
 refine W.cond rfl (fun h3=>?_) (fun h3=>?_)
 ·try simp only[RL]at h3
  obtain ⟨b,hb2,hbm⟩:=zag (show k<(zap g row.length g.length).2.length by omega)
  have hbf:=hso.2 b hbm
  have hba:=hbf.area
  have hsb:=ztr hso.2 k
  refine W.skip ?_
  refine xn ?_
  refine W.seq ?_
  refine W.block ?_
  refine W.r fun K hK=>?_
  simp(disch:=omega)only[↓RU,RV,RH,↓reduceIte,qE,reduceCtorEq,if_pos,↓RS,RG,qA,qM,qL,ty3,zbb,zaa,zbc,zkt hb2,zb4,zbm,zbo]
  apply hK;clear hK K
  refine W.k fun K hK=>?_
  simp(disch:=omega)only[↓RU,RV,RH,↓reduceIte,qE,reduceCtorEq,if_pos,qN,w64,↓RS,RG,qA,qM,qL,zbb,zaa,zbc,zkt hb2,zbm,zb4]
  refine zad.pc (yc8 (r:=b) (by omega) (by omega)) rfl (.inl rfl) ?_
  simp(disch:=omega)only[↓RU,RV,RH,↓reduceIte,qE,reduceCtorEq,if_pos,qN,w64,↓RS,RG,qA,qM,qL,zbb,zaa,zbc,zkt hb2,zbm,zb4]
  apply hK;clear hK K
  refine XbN ?_
  refine xn ?_
  refine W.k fun K hK=>?_
  simp(disch:=omega)only[↓RU,RV,RH,↓reduceIte,qE,reduceCtorEq,if_pos,w64,↓RS,RG,qA,qM,qL,zaa]
  apply hK;clear hK K
  refine xn ?_
  refine ⟨(zap g row.length g.length).2.length - (k+1),by omega,8,k+1,_,rfl,by omega,?_,rfl⟩
  simp [Env.put,Env.of,zrr hb2]
 try simp only[RL]at h3
 obtain rfl:k=(zap g row.length g.length).2.length:=by omega
 rw [List.take_length]
 refine W.exit ?_
 refine xe ?_
 refine xe ?_
 refine XBlock.hit ?_
 refine xn ?_
 refine W.seq_draw (by kernel_rfl) fun K hK=>?_
 obtain ⟨zr,hzr,hzl,-⟩:=(ygv hg).at_ (i:=0) (j:=0) (by omega) (by omega)
 have hZl:=zc4 (g:=g) (nw:=row.length) g.length
 have hpr:=Nat.mul_le_mul hgl.2 hb.2
 simp(disch:=omega)only[↓RU,RV,RH,↓reduceIte,qE,reduceCtorEq,if_pos,qN,w64,↓RS,RG,qA,qM,qL,ty7,zaa,hZl,hzl]
 refine zad.pc (zk5 (ze4 g row.length g.length) (zap g row.length g.length).2) (zbz (zle (f:=6) rfl rfl (zc4 _) rfl) rfl) (.inl rfl) ?_
 simp(disch:=omega)only[↓RU,RV,RH,↓reduceIte,qE,reduceCtorEq,if_pos,qN,w64,↓RS,RG,qA,qM,qL,ty7,zaa,hZl,hzl]
 refine zad.pc (zrw (g:=(ze4 g row.length g.length)) hzr (zap g row.length g.length).2) (zbz (zle (f:=6) rfl rfl (zc4 _) rfl) rfl) (.inl rfl) ?_
 simp(disch:=omega)only[↓RU,RV,RH,↓reduceIte,qE,reduceCtorEq,if_pos,qN,w64,↓RS,RG,qA,qM,qL,ty7,zaa,hZl,hzl]
 apply hK;clear hK K
 refine W.ret ?_
 refine Br rfl ?_
 have hok:okS g=true:=by unfold okS stG; rw [hw0,zqt.2 (by rw [hw0]; exact hg)]; simp; omega
 rw [zey,hok,if_pos rfl]
 unfold stG zG zh7 stG
 rw [hw0]
 refine zid (k:=9) (zle (f:=5) rfl rfl (zc4 _) rfl) ?_
 have he:(z4y (zap g row.length g.length).2 == (g.length:Int)*row.length)=decide (z4y (zap g row.length g.length).2=((g.length*row.length:Nat):Int)):=by rw [Int.natCast_mul]; rfl
 rw [← he]
 rfl
def zvz (t:Txt):List Int:=t.map fun c=>(c.toNat:Int)
def zb5 (p:List Txt):List (List Int):=p.map zvz
def zhs (p:List Txt):Bool:=p.all fun r=>r.all zc9
def zu5 (p:List Txt):PV:=if zhs p then zey (zb5 p) else .tup [.nilp,.bool false]
def okB (p:List Txt):Bool:=zhs p && okS (zb5 p)
def gP (p:List Txt):List (List Int):=zG (zb5 p)
def rP (p:List Txt):List Rect:=(stG (zb5 p)).2
theorem zkb (t:Txt):(zvz t).length=t.length:=by simp [zvz]
theorem z8l {t:Txt} {k:Nat} {c:UInt8} (h:t[k]?=some c):zvz (t.take (k+1))=zvz (t.take k)++[(c.toNat:Int)]:=by simp [zvz,tk h]
theorem z4g {p:List Txt} {i:Nat} {t:Txt} (h:p[i]?=some t):zb5 (p.take (i+1))=zb5 (p.take i)++[zvz t]:=by simp [zb5,tk h]
theorem zdz (p:List Txt):(zb5 p).length=p.length:=by simp [zb5]
theorem zqo {p:List Txt} {r:Txt} {c:UInt8} (hr:r∈p) (hc:c∈r) (h:zc9 c=false):zhs p=false:=by
 unfold zhs
 rw [List.all_eq_false]
 refine ⟨r,hr,?_⟩
 rw [Bool.not_eq_true,List.all_eq_false]
 exact ⟨c,hc,by rw [h]; exact Bool.false_ne_true⟩
theorem ztz {g:List (List Int)} {i:Nat} (hi:i<6) {s:List Int × List Rect} (hs:zr5 s.1 s.2) {n:Nat} (hn:n≤6):∀ j,j≤n→∀ z∈znz g i s j,0≤z∧z≤s.1.length+n
 | 0,_,z,h=>by simp [znz]at h
 | j+1,hj,z,h=>by
  simp only[znz,List.mem_append,List.mem_singleton]at h
  rcases h with h | rfl
  ·exact ztz hi hs hn j (by omega) z h
  have h1:=zhr (ks:=(zd0 g i s j).1) (z:=gz g i j)
  obtain ⟨-,h2,-,-⟩:=zmz (g:=g) hi hs j (by omega)
  omega
theorem ziv {g:List (List Int)} {nw:Nat} (hw:nw≤6) (hw1:1≤nw):∀ i,i≤6→∀ r∈ze4 g nw i,∀ z∈r,0≤z∧z≤100
 | 0,_,r,h=>by simp [ze4]at h
 | i+1,hi,r,h=>by
  simp only[ze4,List.mem_append,List.mem_singleton]at h
  rcases h with h | rfl
  ·exact ziv hw hw1 i (by omega) r h
  intro z hz
  obtain ⟨h1,h2,-⟩:=zge (g:=g) hw hw1 i (by omega)
  have:=ztz (g:=g) (i:=i) (by omega) h1 hw nw (qR _) z hz
  omega
theorem z7h {g:List (List Int)} (h:okS g=true):GW g g.length (w0 g):=by
 unfold okS at h
 rw [qB]at h
 exact zqt.1 h.1
theorem yhn {g:List (List Int)} (h:okS g=true):GW (zG g) g.length (w0 g):=ygv (z7h h)
theorem ybz {g:List (List Int)} (h:okS g=true):∀ r∈zG g,∀ z∈r,0≤z∧z≤100:=by
 obtain ⟨-,-,h1,h2,h3,h4⟩:=z7h h
 exact ziv h4 h3 _ h2
theorem zlj {g:List (List Int)} (h:okS g=false):zey g = .tup [.nilp,.bool false]:=by rw [zey,h]; rfl
theorem zjo {g:List (List Int)} (h:okS g=true):zey g = .tup [zax (zG g) (stG g).2,.bool (zh7 g)]:=by rw [zey,h]; rfl
theorem z4m {S:Store} {lo k:Nat} (l:List (List Int)):(l.map eInts).mapM (rfz S lo (k+1))=some (l.map eInts):=zva (fun _=>rfl) l
theorem ya4 {p:List Txt} (h:okB p=false):zu5 p = .tup [.nilp,.bool false]:=by
 unfold okB at h
 unfold zu5
 cases hl:zhs p with
 | false=>rfl
 | true=>rw [hl,Bool.true_and]at h; rw [if_pos rfl,zlj h]
theorem z74 {p:List Txt} (h:okB p=true):zu5 p = .tup [zax (gP p) (rP p),.bool (zh7 (zb5 p))]:=by
 unfold okB at h
 rw [qB]at h
 rw [zu5,if_pos h.1,zjo h.2]
 rfl
theorem zxg {p:List Txt} (h:okB p=true):GW (gP p) p.length (w0 (zb5 p)):=by
 unfold okB at h
 rw [qB]at h
 have:=yhn h.2
 rwa [zdz]at this
theorem z7g {p:List Txt} (h:okB p=true):∀ r∈gP p,∀ z∈r,0≤z∧z≤100:=by
 unfold okB at h
 rw [qB]at h
 exact ybz h.2
theorem zyx (g:List (List Int)):(zf3 g).length=g.length:=by simp [zf3]
def zod (p:List Txt):Bool:=zh7 (zb5 p) && decide (zf3 (gP p)=p)
def zfu (p:List Txt):Bool:=okB p && zod p
def zdi (p:List Txt):Bool:=zfu p && decide (zuz (gP p) 4 (w0 (zb5 p)) p.length=0)
theorem zjg {p:List Txt} (h:okB p=true):(rP p).length≤9:=by
 unfold okB okS at h
 simp only[qB,decide_eq_true_eq]at h
 exact h.2.2
theorem zj2 {p:List Txt} (h:okB p=true):1≤(rP p).length:=by
 unfold okB at h
 rw [qB]at h
 obtain ⟨-,-,h1,h2,h3,h4⟩:=z7h h.2
 obtain ⟨k1,-,k3⟩:=zge (g:=zb5 p) h4 h3 _ h2
 have:=k1.1
 have:=k3 h1
 unfold rP stG
 omega
theorem z4r {g:List (List Int)} (hsm:g.length<2147483648) (hsr:∀ r∈g,r.length<2147483648) (h:okS g=false):PC Tryz.prog 131 [zer g] (.tup [.nilp,.bool false]) false:=by
 rw [← zlj h]; exact ztn hsm hsr
theorem zrn {g:List (List Int)} (hsm:g.length<2147483648) (hsr:∀ r∈g,r.length<2147483648) (h:okS g=true):PC Tryz.prog 131 [zer g] (.tup [zax (zG g) (stG g).2,.bool (zh7 g)]) false:=by
 rw [← zjo h]; exact ztn hsm hsr
theorem z75 {p:List Txt} (hs:Sm p):PC Tryz.prog 128 [zaq p] (zu5 p) false:=by
 have hp:=hs.rows
 refine PC.of ⟨Tryz.func128,by kernel_rfl,rfl,by kernel_rfl⟩ zar mixed (by show 1≤Tryz.f128.ntmps; decide) ?_
 refine W.r fun K hK=>?_
 simp(disch:=omega)only[↓RU,RV,RH,↓reduceIte,qE,reduceCtorEq,if_pos,↓RS,RG,qA,qM,qL]
 apply hK;clear hK K
 refine W.r fun K hK=>?_
 simp(disch:=omega)only[↓RU,RV,RH,↓reduceIte,qE,reduceCtorEq,if_pos,↓RS,RG,qA,qM,qL,ty1,zab,zc3,zaa]
 apply hK;clear hK K
 refine W.joinZ [4] (fun vs S=>∃ tk:Nat,zhs p=true∧vs=[zer (zb5 p)]∧S=⟨[],tk⟩) ?_ ?_
 ·
  refine W.r fun K hK=>?_
  simp(disch:=omega)only[↓RU,RV,RH,↓reduceIte,qE,reduceCtorEq,if_pos,↓RS,RG,qA,qM,qL,ty5,zac]
  apply hK;clear hK K
  refine W.block ?_
  refine W.loopZ [4,11,12,13] (fun n vs S=>∃ i v0 tk:Nat,n=p.length - i∧i≤p.length∧((p.take i).all (fun r=>r.all zc9)=true)∧vs=[.loc 0 v0 0 i,zaq p,.int .i64 p.length,.int .i64 i]∧S=⟨[.arr v0 24 1 ((zb5 (p.take i)).map eInts)],tk⟩) (p.length) ?_ ?_
  ·refine ⟨1,[.loc 0 0 0 0,zaq p,.int .i64 p.length,.int .i64 0],⟨[.arr 0 24 1 ((zb5 (p.take 0)).map eInts)],1⟩,?_,?_,0,0,1,rfl,by omega,rfl,rfl,rfl⟩
   ·rfl
   rfl
  rintro n vs S - ⟨i,v0,tk,rfl,h_i,hall,rfl,rfl⟩
  refine W.r fun K hK=>?_
  simp(disch:=omega)only[↓RU,RV,RH,↓reduceIte,qE,reduceCtorEq,if_pos,w64,↓RS,RG,qA,qM,qL,zaa]
  apply hK;clear hK K
  refine W.seq ?_
  refine W.cond rfl (fun h=>?_) (fun h=>?_)
  ·try simp only[RL]at h
   obtain ⟨row,hrow,hrm⟩:=zag (show i<p.length by omega)
   have hrl:=hs.cols row hrm
   have hgk:(zb5 (p.take i)).length=i:=by rw [zdz,List.length_take]; omega
   have hgt:((zb5 (p.take i)).map eInts).take i=(zb5 (p.take i)).map eInts:=qT (by rw [List.length_map]; omega)
   refine W.skip ?_
   refine xn ?_
   refine W.seq ?_
   refine W.block ?_
   refine W.r fun K hK=>?_
   simp(disch:=omega)only[↓RU,RV,RH,↓reduceIte,qE,reduceCtorEq,if_pos,↓RS,RG,qA,qM,qL,ty5,zac,hrow]
   apply hK;clear hK K
   refine W.r fun K hK=>?_
   simp(disch:=omega)only[↓RU,RV,RH,↓reduceIte,qE,reduceCtorEq,if_pos,↓RS,RG,qA,qM,qL,zab,zaa]
   apply hK;clear hK K
   refine W.seq ?_
   refine W.r fun K hK=>?_
   simp(disch:=omega)only[↓RU,RV,RH,↓reduceIte,qE,reduceCtorEq,if_pos,w64,↓RS,RG,qA,qM,qL,ty6,zac,zei]
   apply hK;clear hK K
   refine W.block ?_
   refine W.loop [4,11,12,13,7,19,20,21] (fun n vs S=>∃ k v1 t:Nat,n=row.length - k∧k≤row.length∧((row.take k).all zc9=true)∧vs=[.loc 0 v0 0 i,zaq p,.int .i64 p.length,.int .i64 i,.loc 1 v1 0 k,.sl (row.map eB) row.length,.int .i64 row.length,.int .i64 k]∧S=⟨[.arr v0 24 1 ((zb5 (p.take i)).map eInts),.arr v1 3 1 ((zvz (row.take k)).map (.int .i64))],t⟩) (row.length) ?_ ?_
   ·refine ⟨2,0,_,_,rfl,Nat.zero_le _,rfl,?_,rfl⟩
    simp [Env.put,Env.of]
   rintro n vs S - ⟨k,v1,t,rfl,h_k,hrk,rfl,rfl⟩
   refine W.r fun K hK=>?_
   simp(disch:=omega)only[↓RU,RV,RH,↓reduceIte,qE,reduceCtorEq,if_pos,w64,↓RS,RG,qA,qM,qL,zaa]
   apply hK;clear hK K
   refine W.seq ?_
   refine W.cond rfl (fun h1=>?_) (fun h1=>?_)
   ·try simp only[RL]at h1
    obtain ⟨c,hc,hcm⟩:=zag (show k<row.length by omega)
    have hcb:=c.toNat_lt
    have hrowk:(zvz (row.take k)).length=k:=by rw [zkb,List.length_take]; omega
    have hrowt:((zvz (row.take k)).map (PV.int .i64)).take k=(zvz (row.take k)).map (PV.int .i64):=qT (by rw [List.length_map]; omega)
    refine W.skip ?_
    refine xn ?_
    refine W.seq ?_
    refine W.block ?_
    refine W.r fun K hK=>?_
    simp(disch:=omega)only[↓RU,RV,RH,↓reduceIte,qE,reduceCtorEq,if_pos,↓RS,RG,qA,qM,qL,ty6,zei,hc]
    apply hK;clear hK K
    refine W.seq ?_
    refine W.r fun K hK=>?_
    rcases (show (c.toNat:Int)<97∨(c.toNat:Int)>122∨(97≤c.toNat∧c.toNat≤122) by omega) with hb | hb | hb
    ·skip
     have hd:decide ((c.toNat:Int)<97)=true:=decide_eq_true hb
     have hlc:zc9 c=false:=by unfold zc9; rw [decide_eq_false (by omega)]; rfl
     simp(disch:=omega)only[↓RU,RV,RH,↓reduceIte,qE,reduceCtorEq,if_pos,w64,↓RS,RG,qA,qM,qL,zei,hd]
     apply hK;clear hK K
     refine W.cond rfl (fun h2=>?_) (fun h2=>?_)
     ·try simp only[RL]at h2
      refine W.r fun K hK=>?_
      simp(disch:=omega)only[↓RU,RV,RH,↓reduceIte,qE,reduceCtorEq,if_pos,↓RS,RG,qA,qM,qL]
      apply hK;clear hK K
      refine W.ret ?_
      refine XThen.ret ?_
      refine XBlock.ret ?_
      refine XThen.ret ?_
      refine XThen.ret ?_
      refine XBlock.ret ?_
      refine XThen.ret ?_
      refine XBlock.ret ?_
      refine XThen.ret ?_
      refine XThen.ret ?_
      refine XBlock.ret ?_
      refine XThen.ret ?_
      refine Br rfl ?_
      rw [zu5,zqo hrm hcm hlc]
      rfl
     try simp only[RL]at h2
     exact absurd h2 (by simp)
    ·skip
     have hd:decide ((c.toNat:Int)<97)=false:=decide_eq_false (by omega)
     have hd2:decide ((c.toNat:Int)>122)=true:=decide_eq_true hb
     have hlc:zc9 c=false:=by unfold zc9; rw [decide_eq_false (p:=c.toNat≤122) (by omega),Bool.and_false]
     simp(disch:=omega)only[↓RU,RV,RH,↓reduceIte,qE,reduceCtorEq,if_pos,w64,↓RS,RG,qA,qM,qL,zei,hd,hd2]
     apply hK;clear hK K
     refine W.cond rfl (fun h2=>?_) (fun h2=>?_)
     ·try simp only[RL]at h2
      refine W.r fun K hK=>?_
      simp(disch:=omega)only[↓RU,RV,RH,↓reduceIte,qE,reduceCtorEq,if_pos,↓RS,RG,qA,qM,qL]
      apply hK;clear hK K
      refine W.ret ?_
      refine XThen.ret ?_
      refine XBlock.ret ?_
      refine XThen.ret ?_
      refine XThen.ret ?_
      refine XBlock.ret ?_
      refine XThen.ret ?_
      refine XBlock.ret ?_
      refine XThen.ret ?_
      refine XThen.ret ?_
      refine XBlock.ret ?_
      refine XThen.ret ?_
      refine Br rfl ?_
      rw [zu5,zqo hrm hcm hlc]
      rfl
     try simp only[RL]at h2
     exact absurd h2 (by simp)
    skip
    have hd:decide ((c.toNat:Int)<97)=false:=decide_eq_false (by omega)
    have hd2:decide ((c.toNat:Int)>122)=false:=decide_eq_false (by omega)
    have hlc:zc9 c=true:=by unfold zc9; rw [decide_eq_true hb.1,decide_eq_true hb.2]; rfl
    simp(disch:=omega)only[↓RU,RV,RH,↓reduceIte,qE,reduceCtorEq,if_pos,w64,↓RS,RG,qA,qM,qL,zei,hd,hd2]
    apply hK;clear hK K
    refine W.cond rfl (fun h2=>?_) (fun h2=>?_)
    ·try simp only[RL]at h2
     exact absurd h2 (by simp)
    try simp only[RL]at h2
    refine W.skip ?_
    refine xn ?_
    refine W.k fun K hK=>?_
    simp(disch:=omega)only[↓RU,RV,RH,↓reduceIte,qE,reduceCtorEq,if_pos,w64,↓RS,RG,qA,qM,qL,zab,zaa,zei,hrowk,hrowt,qR]
    apply hK;clear hK K
    refine XbN ?_
    refine xn ?_
    refine W.k fun K hK=>?_
    simp(disch:=omega)only[↓RU,RV,RH,↓reduceIte,qE,reduceCtorEq,if_pos,w64,↓RS,RG,qA,qM,qL,zaa]
    apply hK;clear hK K
    refine xn ?_
    refine ⟨row.length - (k+1),by omega,2,k+1,t+1,t+2,rfl,by omega,z0y hc hrk hlc,?_,?_⟩
    ·simp [Env.put,Env.of]
    simp [za3,z8l hc]
   try simp only[RL]at h1
   obtain rfl:k=row.length:=by omega
   have hra:row.all zc9=true:=by rw [List.take_length]at hrk; exact hrk
   have hrz:=zkb row
   rw [List.take_length]
   generalize hYe:zvz row=Y at hrz
   have hYt:(Y.map (PV.int .i64)).take row.length=Y.map (PV.int .i64):=qT (by rw [List.length_map]; omega)
   have hYE:eInts Y=PV.sl (Y.map (PV.int .i64)) row.length:=by rw [← hrz]
   refine W.exit ?_
   refine xe ?_
   refine xe ?_
   refine XBlock.hit ?_
   refine xn ?_
   refine W.k fun K hK=>?_
   simp(disch:=omega)only[↓RU,RV,RH,↓reduceIte,qE,reduceCtorEq,if_pos,↓RS,RG,qA,qM,qL,ty1,zab,zc3,zaa,hgk,hgt,qR]
   apply hK;clear hK K
   refine XbN ?_
   refine xn ?_
   refine W.k fun K hK=>?_
   simp(disch:=omega)only[↓RU,RV,RH,↓reduceIte,qE,reduceCtorEq,if_pos,w64,↓RS,RG,qA,qM,qL,zaa]
   apply hK;clear hK K
   refine xn ?_
   refine ⟨p.length - (i+1),by omega,1,[.loc 0 (t+1) 0 (i+1),zaq p,.int .i64 p.length,.int .i64 (i+1)],⟨[.arr (t+1) 24 1 ((zb5 (p.take (i+1))).map eInts)],(t+2)⟩,?_,?_,(i+1),(t+1),(t+2),rfl,by omega,z0y hrow hall hra,rfl,rfl⟩
   ·simp [-qU,Store.frz,zb6,zcu,zav,zbn,zbp,zbr,zcq,za6,za4,za7,zau,zaw,zbu,za8,zbs,za5,Env.put,Env.of,zae,zbt,qP,qC]
   simp [-qU,Store.frz,zb6,zcu,zav,zbn,zbp,zbr,zcq,za6,za4,za7,zau,zaw,zbu,za8,zbs,za5,Env.put,Env.of,zae,zbt,qP,qC,z4g hrow,hYe,hYt,hYE,hrz]
  try simp only[RL]at h
  refine W.exit ?_
  refine xe ?_
  refine xe ?_
  refine XBlock.hit ?_
  refine xn ?_
  obtain rfl:i=p.length:=by omega
  rw [List.take_length]at hall ⊢
  have hgt2:((zb5 p).map eInts).take p.length=(zb5 p).map eInts:=qT (by simp [zb5])
  have hgE:zer (zb5 p)=PV.sl ((zb5 p).map eInts) p.length:=by rw [← zdz p]
  refine ⟨0,[zer (zb5 p)],⟨[],tk⟩,?_,?_,tk,hall,rfl,rfl⟩
  ·simp [-qU,Store.frz,zb6,zcu,zav,zbn,zbp,zbr,zcq,za6,za4,za7,zau,zaw,zbu,za8,zbs,za5,Env.put,Env.of,zae,zbt,qP,qC,hgt2,hgE,zdz,z4m]
  simp [-qU,Store.frz,zb6,zcu,zav,zbn,zbp,zbr,zcq,za6,za4,za7,zau,zaw,zbu,za8,zbs,za5,Env.put,Env.of,zae,zbt,qP,qC]
 rintro vs S - ⟨tk,hlet,rfl,rfl⟩
 refine W.r fun K hK=>?_
 cases hok:okS (zb5 p)
 ·skip
  simp(disch:=omega)only[↓RU,RV,RH,↓reduceIte,qE,reduceCtorEq,if_pos,qN,↓RS,RG,qA,qM,qL]
  refine zad.pc (z4r (g:=zb5 p) (by rw [zdz]; omega) (fun r hr=>by obtain ⟨t,ht,rfl⟩:=List.mem_map.1 hr; rw [zkb]; exact hs.cols t ht) hok) rfl (.inr rfl) ?_
  simp(disch:=omega)only[↓RU,RV,RH,↓reduceIte,qE,reduceCtorEq,if_pos,qN,↓RS,RG,qA,qM,qL]
  apply hK;clear hK K
  refine W.ret ?_
  refine Br rfl ?_
  rw [zu5,hlet,if_pos rfl,zlj hok]
  rfl
 skip
 simp(disch:=omega)only[↓RU,RV,RH,↓reduceIte,qE,reduceCtorEq,if_pos,qN,↓RS,RG,qA,qM,qL]
 refine zad.pc (zrn (g:=zb5 p) (by rw [zdz]; omega) (fun r hr=>by obtain ⟨t,ht,rfl⟩:=List.mem_map.1 hr; rw [zkb]; exact hs.cols t ht) hok) rfl (.inr rfl) ?_
 simp(disch:=omega)only[↓RU,RV,RH,↓reduceIte,qE,reduceCtorEq,if_pos,qN,↓RS,RG,qA,qM,qL]
 apply hK;clear hK K
 refine W.ret ?_
 refine Br rfl ?_
 rw [zu5,hlet,if_pos rfl,zjo hok]
 rfl
theorem yeg {p:List Txt} (hs:Sm p) (h:okB p=false):PC Tryz.prog 128 [zaq p] (.tup [.nilp,.bool false]) false:=by
 rw [← ya4 h]; exact z75 hs
theorem ya5 {p:List Txt} (hs:Sm p) (h:okB p=true):PC Tryz.prog 128 [zaq p] (.tup [zax (gP p) (rP p),.bool (zh7 (zb5 p))]) false:=by
 rw [← z74 h]; exact z75 hs
theorem z3m {p:List Txt} (hs:Sm p) (h:okB p=false):PC Tryz.prog 97 [zaq p] (.tup [.nilp,.bool false]) false:=by
 refine PC.of ⟨Tryz.func97,by kernel_rfl,rfl,by kernel_rfl⟩ zar mixed (by show 1≤Tryz.f97.ntmps; decide) ?_
 refine W.r fun K hK=>?_
 simp(disch:=omega)only[↓RU,RV,RH,↓reduceIte,qE,reduceCtorEq,if_pos]
 apply hK;clear hK K
 refine W.r fun K hK=>?_
 simp(disch:=omega)only[↓RU,RV,RH,↓reduceIte,qE,reduceCtorEq,if_pos,qN]
 refine zad.pc (yeg hs h) rfl (.inr rfl) ?_
 simp(disch:=omega)only[↓RU,RV,RH,↓reduceIte,qE,reduceCtorEq,if_pos,qN]
 apply hK;clear hK K
 refine W.r fun K hK=>?_
 simp(disch:=omega)only[↓RU,RV,RH,↓reduceIte,qE,reduceCtorEq,if_pos,qN]
 apply hK;clear hK K
 refine W.ret ?_
 refine Br rfl ?_
 rfl
theorem zzo {p:List Txt} (hs:Sm p) (h:okB p=true):PC Tryz.prog 97 [zaq p] (.tup [zax (gP p) (rP p),.bool (zod p)]) false:=by
 have hg:=zxg h
 have hz:=z7g h
 have hrows:=hs.rows
 refine PC.of ⟨Tryz.func97,by kernel_rfl,rfl,by kernel_rfl⟩ zar mixed (by show 1≤Tryz.f97.ntmps; decide) ?_
 refine W.r fun K hK=>?_
 simp(disch:=omega)only[↓RU,RV,RH,↓reduceIte,qE,reduceCtorEq,if_pos]
 apply hK;clear hK K
 refine W.r fun K hK=>?_
 simp(disch:=omega)only[↓RU,RV,RH,↓reduceIte,qE,reduceCtorEq,if_pos,qN]
 refine zad.pc (ya5 hs h) rfl (.inr rfl) ?_
 simp(disch:=omega)only[↓RU,RV,RH,↓reduceIte,qE,reduceCtorEq,if_pos,qN]
 apply hK;clear hK K
 refine W.r fun K hK=>?_
 cases hf:zh7 (zb5 p)
 ·skip
  simp(disch:=omega)only[↓RU,RV,RH,↓reduceIte,qE,reduceCtorEq,if_pos,qN]
  apply hK;clear hK K
  refine W.ret ?_
  refine Br rfl ?_
  rw [zod,hf]
  rfl
 skip
 simp(disch:=omega)only[↓RU,RV,RH,↓reduceIte,qE,reduceCtorEq,if_pos,qN,hf]
 refine zad.pc (z86 hg (rP p) hz) rfl (.inl rfl) ?_
 simp(disch:=omega)only[↓RU,RV,RH,↓reduceIte,qE,reduceCtorEq,if_pos,qN,hf]
 refine zad.pc (zwr (p:=zf3 (gP p)) (q:=p) (by rw [zyx,hg.1]; omega) hs.rows) rfl (.inl rfl) ?_
 simp(disch:=omega)only[↓RU,RV,RH,↓reduceIte,qE,reduceCtorEq,if_pos,qN,hf]
 apply hK;clear hK K
 refine W.ret ?_
 refine Br rfl ?_
 rw [zod,hf]
 rfl
theorem znh {p:List Txt} (hs:Sm p):∃ x,PC Tryz.prog 97 [zaq p] (.tup [x,.bool (zfu p)]) false∧(zfu p=true→x=zax (gP p) (rP p))∧∀ (S:Store) (k:Nat),reify S true (k+1) x=some x:=by
 unfold zfu
 cases h:okB p with
 | false=>exact ⟨_,z3m hs h,(fun h=>by cases h),fun _ _=>rfl⟩
 | true=>exact ⟨_,zzo hs h,fun _=>rfl,fun _ _=>rfl⟩
theorem zz3 {p:List Txt} (hs:Sm p) {x:PV} (hx:PC Tryz.prog 97 [zaq p] (.tup [x,.bool (zfu p)]) false) (hy:zfu p=true→x=zax (gP p) (rP p)) (hr:∀ (S:Store) (k:Nat),reify S true (k+1) x=some x):PC Tryz.prog 69 [zaq p] (.tup [x,.bool (zdi p)]) false:=by
 refine PC.of ⟨Tryz.func69,by kernel_rfl,rfl,by kernel_rfl⟩ zar mixed (by show 1≤Tryz.f69.ntmps; decide) ?_
 refine W.r fun K hK=>?_
 simp(disch:=omega)only[↓RU,RV,RH,↓reduceIte,qE,reduceCtorEq,if_pos]
 apply hK;clear hK K
 refine W.r fun K hK=>?_
 simp(disch:=omega)only[↓RU,RV,RH,↓reduceIte,qE,reduceCtorEq,if_pos,qN]
 refine zad.pc (hx) rfl (.inr rfl) ?_
 simp(disch:=omega)only[↓RU,RV,RH,↓reduceIte,qE,reduceCtorEq,if_pos,qN]
 apply hK;clear hK K
 refine W.r fun K hK=>?_
 cases hf:zfu p
 ·skip
  simp(disch:=omega)only[↓RU,RV,RH,↓reduceIte,qE,reduceCtorEq,if_pos,qN]
  apply hK;clear hK K
  refine W.ret ?_
  refine Br rfl ?_
  rw [zdi,hf]
  exact zid (k:=9) (hr _ 8) rfl
 skip
 have hxe:=hy hf
 subst hxe
 have hok:okB p=true:=by unfold zfu at hf; rw [qB]at hf; exact hf.1
 have hg:=zxg hok
 simp(disch:=omega)only[↓RU,RV,RH,↓reduceIte,qE,reduceCtorEq,if_pos,qN,hf]
 refine zad.pc (z56 hg (rP p)) rfl (.inl rfl) ?_
 simp(disch:=omega)only[↓RU,RV,RH,↓reduceIte,qE,reduceCtorEq,if_pos,qN,hf]
 apply hK;clear hK K
 refine W.ret ?_
 refine Br rfl ?_
 rw [zdi,hf]
 rfl
theorem zmi {p:List Txt} (h:zdi p=true):okB p=true∧zdi p=true:=by
 refine ⟨?_,h⟩
 unfold zdi zfu at h
 simp only[qB]at h
 exact h.1.1
theorem ztb {p:List Txt} (hs:Sm p):∃ x,PC Tryz.prog 69 [zaq p] (.tup [x,.bool (zdi p)]) false∧(zdi p=true→x=zax (gP p) (rP p))∧∀ (S:Store) (k:Nat),reify S true (k+1) x=some x:=by
 obtain ⟨x,h1,h2,h3⟩:=znh hs
 refine ⟨x,zz3 hs h1 h2 h3,fun h=>h2 ?_,h3⟩
 unfold zdi at h
 rw [qB]at h
 exact h.1
def Same (n:Nat) (M:List (List Bool)) (ms:List Nat):Prop:=Sq n M∧ms.length=n∧∀ a b,a<n→b<n→zc2 M a b=zpv ms a b
theorem zl2 {n:Nat} {M:List (List Bool)} (h:Sq n M) {a b x y:Nat} {v:Bool} (ha:a<n) (hb:b<n):zc2 (z4q M a b v) x y=if x=a∧y=b then v else zc2 M x y:=by
 obtain ⟨row,hr,hl,-⟩:=h.at_ ha hb
 rw [zhg hr]
 unfold zc2
 rw [List.getElem?_set]
 by_cases hx:a=x
 ·subst hx
  rw [if_pos rfl,if_pos (by rw [h.1]; exact ha),Option.getD_some,List.getElem?_set,hr]
  by_cases hy:b=y
  ·subst hy
   rw [if_pos rfl,if_pos (by omega),if_pos ⟨rfl,rfl⟩]; rfl
  rw [if_neg hy,if_neg (fun h=>hy h.2.symm)]; rfl
 rw [if_neg hx,if_neg (fun h=>hx h.1.symm)]
theorem z04 {n:Nat} {M:List (List Bool)} (h:Sq n M) {k a:Nat} (hk:k<n) (ha:a<n):∀ i,i≤n→Sq n ((List.range i).foldl (clB k a) M) ∧
  ∀ x y,x<n→y<n→zc2 ((List.range i).foldl (clB k a) M) x y=if x=a∧y<i then zc2 M a y || (zc2 M a k && zc2 M k y) else zc2 M x y
 | 0,_=>⟨h,fun x y _ _=>by simp⟩
 | i+1,hi=>by
  obtain ⟨h1,h2⟩:=z04 h hk ha i (by omega)
  rw [zcv]
  generalize (List.range i).foldl (clB k a) M=X at h1 h2 ⊢
  refine ⟨h1.clB ha,fun x y hx hy=>?_⟩
  unfold clB
  rw [zl2 h1 ha (by omega),h2 a i ha (by omega),h2 a k ha hk,h2 k i hk (by omega),h2 x y hx hy]
  have e1:(if a=a∧k<i then zc2 M a k || (zc2 M a k && zc2 M k k) else zc2 M a k)=zc2 M a k:=by
   split
   ·cases zc2 M a k <;> simp
   rfl
  have e2:(if k=a∧i<i then zc2 M a i || (zc2 M a k && zc2 M k i) else zc2 M k i)=zc2 M k i:=by rw [if_neg (by omega)]
  have e3:(if a=a∧i<i then zc2 M a i || (zc2 M a k && zc2 M k i) else zc2 M a i)=zc2 M a i:=by rw [if_neg (by omega)]
  rw [e1,e2,e3]
  by_cases hxa:x=a
  ·subst hxa
   by_cases hyi:y=i
   ·subst hyi; rw [if_pos ⟨rfl,rfl⟩,if_pos ⟨rfl,by omega⟩]
   rw [if_neg (fun h=>hyi h.2)]
   by_cases hlt:y<i
   ·rw [if_pos ⟨rfl,hlt⟩,if_pos ⟨rfl,by omega⟩]
   rw [if_neg (fun h=>hlt h.2),if_neg (fun h=>hlt (by have:=h.2; omega))]
  rw [if_neg (fun h=>hxa h.1),if_neg (fun h=>hxa h.1),if_neg (fun h=>hxa h.1)]
theorem zv5 {ms:List Nat} {a m x y:Nat} (ha:a<ms.length):zpv (ms.set a m) x y=if x=a then m.testBit y else zpv ms x y:=by
 unfold zpv
 rw [List.getElem?_set]
 by_cases h:a=x
 ·subst h; rw [if_pos rfl,if_pos ha,if_pos rfl]; rfl
 rw [if_neg h,if_neg (Ne.symm h)]
theorem z9q {c a:Nat} {ms:List Nat}:(allA c ms a).length=ms.length:=by unfold allA; split <;> simp
theorem Same.clA {n:Nat} {M:List (List Bool)} {ms:List Nat} (h:Same n M ms) {k a:Nat} (hk:k<n) (ha:a<n):Same n (clA n k M a) (allA k ms a):=by
 obtain ⟨h1,h2,h3⟩:=h
 obtain ⟨k1,k2⟩:=z04 h1 hk ha n (qR _)
 refine ⟨k1,by rw [z9q,h2],fun x y hx hy=>?_⟩
 unfold Fw.clA
 rw [k2 x y hx hy]
 obtain ⟨m,hm,-⟩:=zag (show a<ms.length by omega)
 obtain ⟨c,hc,-⟩:=zag (show k<ms.length by omega)
 have hak:zc2 M a k=m.testBit k:=by rw [h3 a k ha hk,zig hm]
 cases hb:m.testBit k with
 | true =>
  rw [z0x hm hc hb,zv5 (by omega),hak,hb]
  by_cases hxa:x=a
  ·subst hxa
   rw [if_pos ⟨rfl,hy⟩,if_pos rfl,Nat.testBit_or,h3 x y hx hy,h3 k y hk hy,zig hm,zig hc,Bool.true_and]
  rw [if_neg (fun h=>hxa h.1),if_neg hxa,h3 x y hx hy]
 | false =>
  rw [z5h hm hb,hak,hb]
  by_cases hxa:x=a
  ·subst hxa; rw [if_pos ⟨rfl,hy⟩,Bool.false_and,Bool.or_false,h3 x y hx hy]
  rw [if_neg (fun h=>hxa h.1),h3 x y hx hy]
theorem Same.fold {n:Nat} {f:List (List Bool)→Nat→List (List Bool)} {g:List Nat→Nat→List Nat}:∀ (i:Nat) {M:List (List Bool)} {ms:List Nat},i≤n→(∀ M ms j,j<n→Same n M ms→Same n (f M j) (g ms j))→Same n M ms→Same n ((List.range i).foldl f M) ((List.range i).foldl g ms)
 | 0,_,_,_,_,h=>h
 | i+1,M,ms,hi,hs,h=>by
  rw [zcv,zcv]
  exact hs _ _ i (by omega) (Same.fold i (by omega) hs h)
theorem Same.close {p:List Txt} {kind:Int} {n:Nat} {M:List (List Bool)} (h:Same n M (just p kind)):Same n (zf9 M) (zv2 p kind):=by
 unfold zf9 zv2
 rw [h.1.1,h.2.1]
 exact Same.fold n (qR _) (fun _ _ k hk h=>Same.fold n (qR _) (fun _ _ a ha h=>h.clA hk ha) h) h
section
theorem zo2 {α:Type} {f g:α→Bool}:∀ {l:List α},(∀ x∈l,f x=true→g x=true)→(∃ x∈l,g x=true∧f x=false)→l.countP f<l.countP g
 | [],_,h=>by obtain ⟨x,hx,_⟩:=h; simp at hx
 | a::l,h1,h2=>by
  have hle:l.countP f≤l.countP g:=List.countP_mono_left fun x hx=>h1 x (by simp [hx])
  have ha:=h1 a (by simp)
  rw [List.countP_cons,List.countP_cons]
  obtain ⟨x,hx,k1,k2⟩:=h2
  rcases List.mem_cons.1 hx with rfl | hx
  ·rw [k1,k2]; simp; omega
  have:=zo2 (l:=l) (fun x hx=>h1 x (by simp [hx])) ⟨x,hx,k1,k2⟩
  cases hf:f a with
  | false=>simp; omega
  | true=>rw [ha hf]; simp; omega
def ahead (n:Nat) (rk:Nat→Nat) (b:Nat):Nat:=(List.range n).countP fun a=>decide (rk a<rk b)
theorem zo0 {n:Nat} {rk:Nat→Nat} {a b:Nat} (ha:a<n) (h:rk a<rk b):ahead n rk a<ahead n rk b :=
 zo2 (fun x _ hx=>by simp at hx ⊢; omega) ⟨a,by simpa using ha,by simpa using h,by simp⟩
theorem zza {n:Nat} {rk:Nat→Nat} {b:Nat} (hb:b<n):ahead n rk b<n:=by
 have:=zo2 (l:=List.range n) (f:=fun a=>decide (rk a<rk b)) (g:=fun _=>true) (fun _ _ _=>rfl) ⟨b,by simpa using hb,rfl,by simp⟩
 simpa [ahead] using this
section
variable {M:List (List Bool)} {ms:List Nat} {ws:List Int} {n:Nat} {rk:Nat→Nat}
def beg (M:List (List Bool)) (ws:List Int) (n b:Nat):Int:=hvF M (HB M ws n) b n
def Ge (n:Nat) (o out:List Int):Prop:=∀ b,b<n→zk4 o b≤zk4 out b
theorem Ge.refl (o:List Int):Ge n o o:=fun _ _=>Int.le_refl _
theorem Ge.trans {a b c:List Int} (h:Ge n a b) (k:Ge n b c):Ge n a c:=fun x hx=>Int.le_trans (h x hx) (k x hx)
theorem yaf {l:List Int} {b y:Nat} {v:Int} (hb:b<l.length):zk4 (l.set b v) y=if y=b then v else zk4 l y:=by
 unfold zk4
 rw [List.getElem?_set]
 by_cases h:b=y
 ·subst h; rw [if_pos rfl,if_pos hb,if_pos rfl]; rfl
 rw [if_neg h,if_neg (Ne.symm h)]
theorem yb2 (hu:Up M n rk) {b:Nat} (hb:b<n):HB M ws n b=beg M ws n b+zk4 ws b:=ygy hu hb
theorem z6f {g:Nat→Int} {b:Nat}:∀ i,0≤hvF M g b i
 | 0=>by simp [hvF]
 | i+1=>by
  have:=z6f (g:=g) (b:=b) i
  rw [zo8]
  split <;> omega
end
end
def kk (lv:Bool):Int:=if lv then 1 else 0
def zvx (w:Wall):List Int:=[kk w.level,w.line,w.fr,w.long]
def zuw (L:Nat) (f:Int) (i:Nat):List (List Int):=if 0≤f then [[(L:Int),f,(i:Int) - f]] else []
theorem zty {g:List (List Int)} {q:List Txt} {lv:Bool} {L P:Nat} (hd:∀ j,j<P→zij g lv L j=zhm q L j) {ws0:List Wall} {pre s0:List (List Int)} (h0:ws0.map zvx=pre++s0.map (kk lv :: ·)):∀ i,i≤P →
  -1≤(zfr q L s0 i).1∧(zcg g lv L ws0 i).2=decide (0≤(zfr q L s0 i).1) ∧
  (zcg g lv L ws0 i).1.map zvx=pre++((zfr q L s0 i).2++zuw L (zfr q L s0 i).1 i).map (kk lv :: ·)
 | 0,_=>by
  refine ⟨by simp [zfr],by simp [zls,zfr],?_⟩
  rw [zls]
  simpa [zfr,zuw] using h0
 | i+1,hi=>by
  obtain ⟨h1,h2,h3⟩:=zty hd h0 i (by omega)
  have hdi:=hd i (by omega)
  rw [zd9]
  unfold zfr zgs
  rw [hdi]
  generalize zcg g lv L ws0 i=s at h2 h3 ⊢
  obtain ⟨ws,op⟩:=s
  generalize zfr q L s0 i=u at h1 h2 h3 ⊢
  obtain ⟨f,l⟩:=u
  simp only at h1 h2 h3 ⊢
  cases hw:zhm q L i with
  | false =>
   simp only[zep,Bool.false_and,qF,if_false,Bool.not_false,Bool.true_and,decide_eq_true_eq]
   by_cases hf:0≤f
   ·rw [if_pos hf]
    refine ⟨by simp,by simp,?_⟩
    rw [h3]
    simp [zuw,hf]
   rw [if_neg hf]
   refine ⟨h1,by simp [hf],?_⟩
   rw [h3]
   simp [zuw,hf]
  | true =>
   simp only[zep,Bool.true_and,Bool.not_true,Bool.false_and,qF,if_false,if_true,decide_eq_true_eq]
   by_cases hf:0≤f
   ·have hop:op=true:=by rw [h2]; simpa using hf
    rw [if_pos hop,if_neg (show ¬ f<0 by omega)]
    refine ⟨h1,by simp [hf],?_⟩
    have hne:ws≠[]:=by
     rintro rfl
     simp [zuw,hf]at h3
    obtain ⟨ws,w,rfl⟩:=z6t hne
    simp only[zuw,hf,if_true,List.map_append,List.map_cons,List.map_nil,← List.append_assoc]at h3 ⊢
    obtain ⟨e1,e2⟩:=List.append_inj' h3 rfl
    simp only[List.dropLast_concat,List.getLast?_append,List.getLast?_singleton,Option.some_or,qO,Option.toList_some,List.map_append,List.map_cons,List.map_nil,e1]
    simp only[List.cons.injEq,and_true]at e2
    have e3:w.level=lv∧w.line=L∧w.fr=f∧w.long=i - f:=by
     simp only[zvx,List.cons.injEq,and_true]at e2
     refine ⟨?_,e2.2.1,e2.2.2.1,e2.2.2.2⟩
     have:=e2.1
     unfold kk at this
     cases hwl:w.level <;> cases hlv:lv <;> simp [hwl,hlv]at this ⊢
    obtain ⟨e4,e5,e6,e7⟩:=e3
    simp only[zvx,e4,e5,e6,e7,List.append_cancel_left_eq,List.cons.injEq,true_and,and_true]
    omega
   have hop:op=false:=by rw [h2]; simpa using hf
   rw [if_neg (show ¬ op=true by rw [hop]; exact Bool.false_ne_true),if_pos (show f<0 by omega)]
   refine ⟨by omega,by simp,?_⟩
   simp only[zuw,hf,if_false,qN]at h3
   simp only[zuw,List.map_append,h3,List.map_cons,List.map_nil]
   rw [if_pos (by omega)]
   simp [zvx]
   omega
theorem z48 {g:List (List Int)} {q:List Txt} {lv:Bool} {L:Nat} (hd:∀ j,j<q.length→zij g lv L j=zhm q L j) {ws0:List Wall} {pre s0:List (List Int)} (h0:ws0.map zvx=pre++s0.map (kk lv :: ·)) :
  (zcg g lv L ws0 q.length).1.map zvx=pre++(zfr q L s0 (q.length+1)).2.map (kk lv :: ·):=by
 obtain ⟨h1,-,h3⟩:=zty hd h0 q.length (qR _)
 rw [h3]
 congr 2
 have e:zfr q L s0 (q.length+1)=zgs (zhm q L q.length) L q.length (zfr q L s0 q.length):=rfl
 rw [e,z9i]
 clear e h3 h1
 generalize zfr q L s0 q.length=u
 obtain ⟨f,l⟩:=u
 unfold zgs
 simp only[Bool.false_and,qF,if_false,Bool.not_false,Bool.true_and,decide_eq_true_eq,zuw]
 split <;> simp
theorem zlo {g:List (List Int)} {q:List Txt} {lv:Bool} {n:Nat} (hd:∀ L j,1≤L→L<n→j<q.length→zij g lv L j=zhm q L j) {ws0:List Wall}:∀ i,i≤n →
  (zck g lv q.length ws0 i).map zvx=ws0.map zvx++(zdr q i).map (kk lv :: ·)
 | 0,_=>by simp [zck,zdr]
 | i+1,hi=>by
  have ih:=zlo hd (ws0:=ws0) i (by omega)
  by_cases h1:1≤i
  ·rw [zeo h1,znx h1]
   exact z48 (fun j hj=>hd i j h1 (by omega) hj) ih
  obtain rfl:i=0:=by omega
  simpa [zck,zdr] using ih
theorem z45 {g:List (List Int)} {p:List Txt} (hg:zc5 p=true) (hz:∀ i j,i<p.length→j<(zam p).length→gz g i j=zal p i j):(zcy g p.length (zam p).length).map zvx=walls p:=by
 have hsm:=zcj hg
 obtain ⟨row0,hrow0,hrm0⟩:=zag hsm.1
 have hhd:=zcz hrow0
 have hw1:=zf2 hg hrow0
 have htl:=zjq (p:=p)
 have hth:=zpm (p:=p) (by rw [hhd]; omega)
 have d0:∀ L j,1≤L→L<(zam p).length→j<p.length→zij g false L j=zhm p L j:=by
  intro L j h1 h2 h3
  unfold zij zcr zhm
  simp only[qF,if_false]
  rw [hz j (L - 1) h3 (by omega),hz j L h3 h2]
  simp [h3]
 have d1:∀ L j,1≤L→L<p.length→j<(zci p).length→zij g true L j=zhm (zci p) L j:=by
  intro L j h1 h2 h3
  have h3':=h3
  rw [htl]at h3'
  unfold zij zcr zhm
  simp only[if_true]
  rw [hz (L - 1) j (by omega) h3',hz L j h2 h3',zih (by omega) h3',zih h2 h3']
  simp [h3]
 unfold zcy
 have e1:=zlo (lv:=true) d1 (ws0:=zck g false p.length [] (zam p).length) p.length (qR _)
 have e0:=zlo (lv:=false) d0 (ws0:=[]) (zam p).length (qR _)
 rw [htl]at e1
 rw [e1,e0]
 unfold walls uprights
 rw [hth]
 simp [kk]
theorem Same.orBit {n:Nat} {M:List (List Bool)} {ms:List Nat} (h:Same n M ms) {a b:Nat} (ha:a<n) (hb:b<n):Same n (z4q M a b true) (orBit ms a b):=by
 obtain ⟨h1,h2,h3⟩:=h
 obtain ⟨m,hm,-⟩:=zag (show a<ms.length by omega)
 rw [z11 hm]
 refine ⟨h1.set ha,by simp [h2],fun x y hx hy=>?_⟩
 rw [zl2 h1 ha hb,zv5 (by omega)]
 by_cases hxa:x=a
 ·subst hxa
  rw [if_pos rfl,Nat.testBit_or,Nat.testBit_two_pow,h3 x y hx hy,zig hm]
  by_cases hyb:y=b
  ·subst hyb; simp
  rw [if_neg (fun h=>hyb h.2),decide_eq_false (fun h=>hyb h.symm),Bool.or_false]
 rw [if_neg (fun h=>hxa h.1),if_neg hxa,h3 x y hx hy]
def Rm (n:Nat) (l:List Int):Prop:=∀ x∈l,0≤x∧x<n
theorem Same.relB {n:Nat} {a:Int} (ha:0≤a∧a<n):∀ {bs:List Int} {M:List (List Bool)} {ms:List Nat},Rm n bs→Same n M ms→Same n (relB a bs M) (justB a.toNat ms bs)
 | [],_,_,_,h=>h
 | b::bs,M,ms,hb,h=>by
  have hb0:=hb b (by simp)
  exact Same.relB ha (bs:=bs) (fun x hx=>hb x (by simp [hx])) (h.orBit (by omega) (by omega))
theorem Same.relW {n:Nat} {bs:List Int} (hb:Rm n bs):∀ {la:List Int} {M:List (List Bool)} {ms:List Nat},Rm n la→Same n M ms→Same n (relW M la bs) (justA bs ms la)
 | [],_,_,_,h=>h
 | a::la,M,ms,ha,h=>Same.relW hb (la:=la) (fun x hx=>ha x (by simp [hx])) (h.relB (ha a (by simp)) hb)
theorem z09 {l:List Int} {x:Int}:ddp (l++[x])=zi3 (ddp l) x:=by simp [ddp,List.foldl_append]
theorem z22 {g:List (List Int)} {p:List Txt} {lv:Bool} {L fr:Nat}:∀ n,(∀ j,fr≤j→j<fr+n→zcr g lv L j=if lv then (zal p (L - 1) j,zal p L j) else (zal p j (L - 1),zal p j L)) →
  (ddp (zbw g lv L fr n).1,ddp (zbw g lv L fr n).2)=zdk p (kk lv).toNat L fr n
 | 0,_=>by simp [zbw,ddp,zdk]
 | n+1,h=>by
  have ih:=z22 n fun j a b=>h j a (by omega)
  have hx:=h (fr+n) (by omega) (by omega)
  rw [zf7,zf8,z09,z09,hx]
  unfold zdk
  rw [← ih]
  cases lv <;> simp [kk]
theorem znw {g:List (List Int)} {p:List Txt} (hz:∀ i j,i<p.length→j<(zam p).length→gz g i j=zal p i j) {w:Wall} (hw:zt3 g p.length (zam p).length w):zbd g w=zcx p (zvx w):=by
 obtain ⟨line,fr,long,he,hl,hin⟩:=hw
 obtain ⟨lv,wl,wf,wg⟩:=w
 simp only[Wall.mk.injEq,true_and]at he hin
 obtain ⟨rfl,rfl,rfl⟩:=he
 unfold zbd zcx zvx
 simp only[Int.toNat_natCast]
 refine z22 long fun j a b=>?_
 obtain ⟨⟨h1,h2⟩,-⟩:=hin j a b
 unfold zcr
 cases lv with
 | false =>
  simp only[qF,if_false]at h2 ⊢
  rw [hz j (line - 1) h2.2 (by omega),hz j line h2.2 h2.1]
 | true =>
  simp only[if_true]at h2 ⊢
  rw [hz (line - 1) j (by omega) h2.2,hz line j h2.1 h2.2]
theorem Same.empty {n:Nat}:Same n (zch n) (List.replicate n 0):=by
 refine ⟨zez n,by simp,fun a b ha hb=>?_⟩
 simp [zc2,zch,zpv,ha,hb]
theorem z2t {g:List (List Int)} {p:List Txt} {n:Nat} (hz:∀ i j,i<p.length→j<(zam p).length→gz g i j=zal p i j) (hrm:zvw g p.length (zam p).length n):∀ (ws:List Wall),(∀ w∈ws,zt3 g p.length (zam p).length w) →
  ∀ {M:List (List Bool) × List (List Bool)} {m0 m1:List Nat},Same n M.1 m0→Same n M.2 m1→Same n (ws.foldl (zm7 g) M).1 ((ws.map zvx).foldl (justW p 0) m0)∧Same n (ws.foldl (zm7 g) M).2 ((ws.map zvx).foldl (justW p 1) m1)
 | [],_,_,_,_,h0,h1=>⟨h0,h1⟩
 | w::ws,hws,M,m0,m1,h0,h1=>by
  have hw:=hws w (by simp)
  obtain ⟨hr1,hr2⟩:=zfp hrm hw
  rw [znw hz hw]at hr1 hr2
  rw [List.foldl_cons,List.map_cons,List.foldl_cons,List.foldl_cons]
  refine z2t hz hrm ws (fun w hw=>hws w (by simp [hw])) ?_ ?_
  ·unfold zm7 justW
   rw [znw hz hw]
   cases hlv:w.level with
   | false=>simpa [zvx,kk,hlv] using h0.relW hr2 hr1
   | true=>simpa [zvx,kk,hlv] using h0
  unfold zm7 justW
  rw [znw hz hw]
  cases hlv:w.level with
  | false=>simpa [zvx,kk,hlv] using h1
  | true=>simpa [zvx,kk,hlv] using h1.relW hr2 hr1
theorem yba {g:List (List Int)} {p:List Txt} {n:Nat} (hg:zc5 p=true) (hn:(za2 p).toNat=n) (hz:∀ i j,i<p.length→j<(zam p).length→gz g i j=zal p i j) (hrm:zvw g p.length (zam p).length n) :
  Same n (zw6 g p.length (zam p).length n) (zv2 p 0)∧Same n (zn0 g p.length (zam p).length n) (zv2 p 1):=by
 obtain ⟨h0,h1⟩:=z2t hz hrm (zcy g p.length (zam p).length) zd2 (M:=(zch n,zch n)) Same.empty Same.empty
 rw [z45 hg hz]at h0 h1
 have e:List.replicate n 0=List.replicate (za2 p).toNat 0:=by rw [hn]
 rw [e]at h0 h1
 exact ⟨h0.close,h1.close⟩
def sN:Nat→(Nat→Nat)→Nat
 | 0,_=>0
 | n+1,f=>sN n f+f n
theorem zex {f g:Nat→Nat}:∀ {n:Nat},(∀ i,i<n→f i=g i)→sN n f=sN n g
 | 0,_=>rfl
 | n+1,h=>by rw [sN,sN,zex (n:=n) fun i hi=>h i (by omega),h n (by omega)]
theorem z4p {f g:Nat→Nat}:∀ {n:Nat},(∀ i,i<n→f i≤g i)→sN n f≤sN n g
 | 0,_=>qR _
 | n+1,h=>by
  have:=z4p (n:=n) fun i hi=>h i (by omega)
  have:=h n (by omega)
  simp only[sN]; omega
theorem ya9 {f g:Nat→Nat}:∀ {n:Nat},(∀ i,i<n→f i≤g i)→sN n f=sN n g→∀ i,i<n→f i=g i
 | 0,_,_,i,hi=>by omega
 | n+1,h,e,i,hi=>by
  have h1:=z4p (n:=n) fun i hi=>h i (by omega)
  have h2:=h n (by omega)
  simp only[sN]at e
  by_cases hin:i=n
  ·subst hin; omega
  exact ya9 (n:=n) (fun i hi=>h i (by omega)) (by omega) i (by omega)
theorem zri:∀ n,sN n (fun _=>0)=0
 | 0=>rfl
 | n+1=>by rw [sN,zri n]
theorem z2s:∀ n,sN n (fun _=>1)=n
 | 0=>rfl
 | n+1=>by rw [sN,z2s n]
theorem z2r (c:Nat):∀ n,sN n (fun _=>c)=n*c
 | 0=>by simp [sN]
 | n+1=>by rw [sN,z2r c n,Nat.succ_mul]
theorem yct {f g:Nat→Nat}:∀ n,sN n (fun i=>f i+g i)=sN n f+sN n g
 | 0=>rfl
 | n+1=>by rw [sN,sN,sN,yct n]; omega
theorem zvf {f:Nat→Nat→Nat} {m:Nat}:∀ n,sN n (fun i=>sN m (fun j=>f i j))=sN m (fun j=>sN n (fun i=>f i j))
 | 0=>by simp only[sN]; rw [zri]
 | n+1=>by
  simp only[sN]
  rw [zvf n,yct]
theorem z8n {f:Nat→Nat} {c:Nat}:∀ n,sN n (fun i=>f i*c)=sN n f*c
 | 0=>by simp [sN]
 | n+1=>by rw [sN,sN,z8n n,Nat.add_mul]
def b1 (b:Bool):Nat:=if b then 1 else 0
def cnt (H W:Nat) (f:Nat→Nat→Bool):Nat:=sN H fun i=>sN W fun j=>b1 (f i j)
theorem yc9 {a b:Bool} (h:a=true→b=true):b1 a≤b1 b:=by
 cases a with
 | false=>simp [b1]
 | true=>rw [h rfl]; exact qR _
theorem yfh {a b:Bool} (h:b1 a=b1 b):a=b:=by cases a <;> cases b <;> simp [b1]at h ⊢
theorem yfr {H W:Nat} {f g:Nat→Nat→Bool} (h:∀ i j,i<H→j<W→f i j=true→g i j=true):cnt H W f≤cnt H W g :=
 z4p fun i hi=>z4p fun j hj=>yc9 (h i j hi hj)
theorem yfq {H W:Nat} {f g:Nat→Nat→Bool} (h:∀ i j,i<H→j<W→f i j=true→g i j=true) (e:cnt H W f=cnt H W g):∀ i j,i<H→j<W→f i j=g i j:=by
 intro i j hi hj
 have h1:=ya9 (n:=H) (fun i hi=>z4p fun j hj=>yc9 (h i j hi hj)) e i hi
 exact yfh (ya9 (n:=W) (fun j hj=>yc9 (h i j hi hj)) h1 j hj)
theorem zwb {H W:Nat} {f g:Nat→Nat→Bool} (h:∀ i j,i<H→j<W→f i j=g i j):cnt H W f=cnt H W g :=
 zex fun i hi=>zex fun j hj=>by rw [h i j hi hj]
theorem zym {a k:Nat}:∀ {n:Nat},a+k≤n→sN n (fun i=>b1 (decide (a≤i) && decide (i<a+k)))=k
 | 0,h=>by simp [sN]; omega
 | n+1,h=>by
  rw [sN]
  by_cases hn:a+k≤n
  ·rw [zym hn,decide_eq_false (p:=n<a+k) (by omega),Bool.and_false]; rfl
  have hnk:n+1=a+k:=by omega
  cases k with
  | zero =>
   have:sN n (fun i=>b1 (decide (a≤i) && decide (i<a+0)))=sN n (fun _=>0):=zex fun i hi=>by
    rw [decide_eq_false (p:=a≤i) (by omega)]; rfl
   rw [this,zri,decide_eq_false (p:=a≤n) (by omega)]; rfl
  | succ k =>
   have e:sN n (fun i=>b1 (decide (a≤i) && decide (i<a+(k+1))))=sN n (fun i=>b1 (decide (a≤i) && decide (i<a+k))):=zex fun i hi=>by
    congr 2
    apply decide_eq_decide.2; omega
   rw [e,zym (k:=k) (by omega),decide_eq_true (p:=a≤n) (by omega),decide_eq_true (p:=n<a+(k+1)) (by omega)]
   rfl
def inR (t l h w i j:Nat):Bool:=(decide (t≤i) && decide (i<t+h)) && (decide (l≤j) && decide (j<l+w))
theorem yfg {a b:Bool}:b1 (a && b)=b1 a*b1 b:=by cases a <;> cases b <;> rfl
theorem z93 {H W t l h w:Nat} (h1:t+h≤H) (h2:l+w≤W):cnt H W (inR t l h w)=h*w:=by
 unfold cnt inR
 have e:(fun i=>sN W fun j=>b1 ((decide (t≤i) && decide (i<t+h)) && (decide (l≤j) && decide (j<l+w))))=fun i=>b1 (decide (t≤i) && decide (i<t+h))*w:=by
  funext i
  have:(fun j=>b1 ((decide (t≤i) && decide (i<t+h)) && (decide (l≤j) && decide (j<l+w))))=fun j=>b1 (decide (l≤j) && decide (j<l+w))*b1 (decide (t≤i) && decide (i<t+h)):=by
   funext j; rw [yfg,Nat.mul_comm]
  rw [this,z8n,zym h2,Nat.mul_comm]
 rw [e,z8n,zym h1]
theorem zzh {H W n:Nat} {z:Nat→Nat→Nat} (hz:∀ i j,i<H→j<W→z i j<n):sN n (fun r=>cnt H W fun i j=>decide (z i j=r))=H*W:=by
 unfold cnt
 rw [zvf]
 have:sN H (fun i=>sN n fun r=>sN W fun j=>b1 (decide (z i j=r)))=sN H (fun _=>W):=zex fun i hi=>by
  rw [zvf]
  have:sN W (fun j=>sN n fun r=>b1 (decide (z i j=r)))=sN W (fun _=>1):=zex fun j hj=>by
   have h1:=hz i j hi hj
   have e:sN n (fun r=>b1 (decide (z i j=r)))=sN n (fun r=>b1 (decide (z i j≤r) && decide (r<z i j+1))):=zex fun r hr=>by
    congr 1
    rw [Bool.eq_iff_iff]
    simp only[qB,decide_eq_true_eq]
    omega
   rw [e,zym (by omega)]
  rw [this,z2s]
 rw [this,z2r]
structure Hull (pr:Nat→Nat→Prop) (t l lo ri:Int):Prop where
 inn:∀ a b,pr a b→t≤a∧(a:Int)≤lo∧l≤b∧(b:Int)≤ri
 at_:∃ a b:Nat,pr a b∧(a:Int)=t
 al:∃ a b:Nat,pr a b∧(b:Int)=l
 ao:∃ a b:Nat,pr a b∧(a:Int)=lo
 ar:∃ a b:Nat,pr a b∧(b:Int)=ri
theorem Hull.uniq {pr:Nat→Nat→Prop} {t l lo ri t' l' lo' ri':Int} (h:Hull pr t l lo ri) (k:Hull pr t' l' lo' ri'):t=t'∧l=l'∧lo=lo'∧ri=ri':=by
 obtain ⟨a1,b1,p1,e1⟩:=h.at_
 obtain ⟨a2,b2,p2,e2⟩:=h.al
 obtain ⟨a3,b3,p3,e3⟩:=h.ao
 obtain ⟨a4,b4,p4,e4⟩:=h.ar
 obtain ⟨a5,b5,p5,e5⟩:=k.at_
 obtain ⟨a6,b6,p6,e6⟩:=k.al
 obtain ⟨a7,b7,p7,e7⟩:=k.ao
 obtain ⟨a8,b8,p8,e8⟩:=k.ar
 have q1:=k.inn _ _ p1
 have q2:=k.inn _ _ p2
 have q3:=k.inn _ _ p3
 have q4:=k.inn _ _ p4
 have q5:=h.inn _ _ p5
 have q6:=h.inn _ _ p6
 have q7:=h.inn _ _ p7
 have q8:=h.inn _ _ p8
 omega
theorem Hull.congr {pr pr':Nat→Nat→Prop} {t l lo ri:Int} (h:Hull pr t l lo ri) (e:∀ a b,pr a b↔pr' a b):Hull pr' t l lo ri:=by
 have:pr=pr':=by funext a b; exact propext (e a b)
 exact this ▸ h
theorem Hull.add {pr:Nat→Nat→Prop} {t l lo ri:Int} (h:Hull pr t l lo ri) (i j:Nat):Hull (fun a b=>pr a b∨(a=i∧b=j)) (min t i) (min l j) (max lo i) (max ri j):=by
 refine ⟨?_,?_,?_,?_,?_⟩
 ·rintro a b (p | ⟨rfl,rfl⟩)
  ·have:=h.inn a b p; omega
  omega
 ·by_cases e:t≤i
  ·obtain ⟨a,b,p,q⟩:=h.at_; exact ⟨a,b,.inl p,by omega⟩
  exact ⟨i,j,.inr ⟨rfl,rfl⟩,by omega⟩
 ·by_cases e:l≤j
  ·obtain ⟨a,b,p,q⟩:=h.al; exact ⟨a,b,.inl p,by omega⟩
  exact ⟨i,j,.inr ⟨rfl,rfl⟩,by omega⟩
 ·by_cases e:(i:Int)≤lo
  ·obtain ⟨a,b,p,q⟩:=h.ao; exact ⟨a,b,.inl p,by omega⟩
  exact ⟨i,j,.inr ⟨rfl,rfl⟩,by omega⟩
 by_cases e:(j:Int)≤ri
 ·obtain ⟨a,b,p,q⟩:=h.ar; exact ⟨a,b,.inl p,by omega⟩
 exact ⟨i,j,.inr ⟨rfl,rfl⟩,by omega⟩
theorem Hull.one {pr:Nat→Nat→Prop} (h:∀ a b,¬ pr a b) (i j:Nat):Hull (fun a b=>pr a b∨(a=i∧b=j)) i j i j:=by
 refine ⟨?_,⟨i,j,.inr ⟨rfl,rfl⟩,rfl⟩,⟨i,j,.inr ⟨rfl,rfl⟩,rfl⟩,⟨i,j,.inr ⟨rfl,rfl⟩,rfl⟩,⟨i,j,.inr ⟨rfl,rfl⟩,rfl⟩⟩
 rintro a b (p | ⟨rfl,rfl⟩)
 ·exact absurd p (h a b)
 omega
def Gone (W i j a b:Nat):Prop:=b<W∧(a<i∨(a=i∧b<j))
theorem zl3 {W i j a b:Nat} (hj:j<W):Gone W i (j+1) a b↔Gone W i j a b∨(a=i∧b=j):=by unfold Gone; omega
theorem z1p {W i a b:Nat}:Gone W i W a b↔Gone W (i+1) 0 a b:=by unfold Gone; omega
def Val (z:Nat→Nat→Int) (W i j:Nat) (v:Int) (a b:Nat):Prop:=z a b=v∧Gone W i j a b
theorem z0q {z:Nat→Nat→Int} {W i j:Nat} {v:Int} (hj:j<W) (h:z i j=v) (a b:Nat):(Val z W i j v a b∨(a=i∧b=j))↔Val z W i (j+1) v a b:=by
 unfold Val
 rw [zl3 hj]
 constructor
 ·rintro (⟨h1,h2⟩ | ⟨rfl,rfl⟩)
  ·exact ⟨h1,.inl h2⟩
  exact ⟨h,.inr ⟨rfl,rfl⟩⟩
 rintro ⟨h1,h2 | h2⟩
 ·exact .inl ⟨h1,h2⟩
 exact .inr h2
theorem zvq {z:Nat→Nat→Int} {W i j:Nat} {v:Int} (hj:j<W) (h:z i j≠v) (a b:Nat):Val z W i j v a b↔Val z W i (j+1) v a b:=by
 unfold Val
 rw [zl3 hj]
 constructor
 ·rintro ⟨h1,h2⟩; exact ⟨h1,.inl h2⟩
 rintro ⟨h1,h2 | ⟨rfl,rfl⟩⟩
 ·exact ⟨h1,h2⟩
 exact absurd h1 h
theorem z9h {z:Nat→Nat→Int} {W i:Nat} {v:Int} (a b:Nat):Val z W i W v a b↔Val z W (i+1) 0 v a b:=by unfold Val; rw [z1p]
def zlu (pr:Nat→Nat→Prop) (b:Rect):Prop:=Hull pr b.row b.col (b.row+b.high - 1) (b.col+b.wide - 1)
theorem zlu.both {pr:Nat→Nat→Prop} {b:Rect} (h:zlu pr b) (i j:Nat):zlu (fun a c=>pr a c∨(a=i∧c=j)) (b.both (zg3 i j)):=by
 have:=Hull.add h i j
 unfold zlu Rect.both zg3
 simp only
 rw [show min b.row (i:Int)+(max (b.row+b.high) ((i:Int)+1) - min b.row (i:Int)) - 1=max (b.row+b.high - 1) i by omega,show min b.col (j:Int)+(max (b.col+b.wide) ((j:Int)+1) - min b.col (j:Int)) - 1=max (b.col+b.wide - 1) j by omega]
 exact this
theorem yar {i j:Nat}:(zg3 i j).both (zg3 i j)=zg3 i j:=by
 unfold Rect.both zg3
 simp only[Rect.mk.injEq]
 omega
theorem zlu.one {pr:Nat→Nat→Prop} (h:∀ a b,¬ pr a b) (i j:Nat):zlu (fun a b=>pr a b∨(a=i∧b=j)) (zg3 i j):=by
 have:=Hull.one h i j
 unfold zlu zg3
 simp only
 rw [show (i:Int)+1 - 1=i by omega,show (j:Int)+1 - 1=j by omega]
 exact this
theorem zlu.congr {pr pr':Nat→Nat→Prop} {b:Rect} (h:zlu pr b) (e:∀ a c,pr a c↔pr' a c):zlu pr' b:=Hull.congr h e
structure SeInv (z:Nat→Nat→Int) (W i j:Nat) (ks:List Int) (rs:List Rect):Prop where
 nd:ks.Nodup
 len:rs.length=ks.length
 mem:∀ a b,Gone W i j a b→z a b∈ks
 hull:∀ (m:Nat) v b,ks[m]?=some v→rs[m]?=some b→zlu (Val z W i j v) b
theorem zl8 {l:List Int} (h:l.Nodup) {a b:Nat} {v:Int} (ha:l[a]?=some v) (hb:l[b]?=some v):a=b:=by
 obtain ⟨p1,q1⟩:=List.getElem?_eq_some_iff.1 ha
 obtain ⟨p2,q2⟩:=List.getElem?_eq_some_iff.1 hb
 have:=List.pairwise_iff_getElem.1 h
 rcases Nat.lt_trichotomy a b with hlt | heq | hgt
 ·exact absurd (q1.trans q2.symm) (this a b p1 p2 hlt)
 ·exact heq
 exact absurd (q2.trans q1.symm) (this b a p2 p1 hgt)
theorem zh9 {ks:List Int} {z:Int} (h:¬ ks.idxOf z=ks.length):ks[ks.idxOf z]?=some z:=by
 have hl:=zhr (ks:=ks) (z:=z)
 have:z∈ks:=by rw [← List.idxOf_lt_length_iff]; omega
 rw [List.getElem?_eq_getElem (List.idxOf_lt_length_iff.2 this),List.getElem_idxOf]
theorem zqe {ks:List Int} {z:Int} (h:ks.idxOf z=ks.length):z ∉ ks:=by
 intro hm
 have:=List.idxOf_lt_length_iff.2 hm
 omega
theorem SeInv.step {z:Nat→Nat→Int} {W i j:Nat} {ks:List Int} {rs:List Rect} (h:SeInv z W i j ks rs) (hj:j<W):SeInv z W i (j+1) (zie ks (z i j)) (zpl ks rs (z i j) (zg3 i j)):=by
 have hlen:=h.len
 by_cases hin:ks.idxOf (z i j)=ks.length
 ·have hnm:=zqe hin
  have e1:zie ks (z i j)=ks++[z i j]:=by simp [zie,hin]
  have e2:zpl ks rs (z i j) (zg3 i j)=rs++[zg3 i j]:=by
   unfold zpl zi5
   rw [if_pos hin,hin,← hlen,List.getD_eq_getElem?_getD]
   simp [yar]
  rw [e1,e2]
  refine ⟨?_,by simp [hlen],?_,?_⟩
  ·rw [List.nodup_append]
   refine ⟨h.nd,by simp,?_⟩
   intro a ha b hb
   rw [List.mem_singleton]at hb
   rintro rfl
   exact hnm (hb ▸ ha)
  ·intro a b hab
   rw [zl3 hj]at hab
   rcases hab with hab | ⟨rfl,rfl⟩
   ·exact List.mem_append_left _ (h.mem a b hab)
   simp
  intro m v b hm hb
  by_cases hml:m<ks.length
  ·rw [List.getElem?_append_left hml]at hm
   rw [List.getElem?_append_left (by omega)]at hb
   have hv:z i j≠v:=fun e=>hnm (e ▸ List.mem_of_getElem? hm)
   exact (h.hull m v b hm hb).congr (zvq hj hv)
  have hml2:=zb7 hm
  simp only[List.length_append,List.length_singleton]at hml2
  obtain rfl:m=ks.length:=by omega
  rw [List.getElem?_append_right (qR _),Nat.sub_self]at hm
  rw [← hlen,List.getElem?_append_right (qR _),Nat.sub_self]at hb
  simp only[List.getElem?_cons_zero,Option.some.injEq]at hm hb
  subst hm hb
  exact (zlu.one (pr:=Val z W i j (z i j)) (fun a b hab=>hnm (hab.1 ▸ h.mem a b hab.2)) i j).congr (z0q hj rfl)
 have hk:=zh9 hin
 have hkl:=zb7 hk
 have e1:zie ks (z i j)=ks:=by simp [zie,hin]
 obtain ⟨b0,hb0,-⟩:=zag (show ks.idxOf (z i j)<rs.length by omega)
 have e2:zpl ks rs (z i j) (zg3 i j)=rs.set (ks.idxOf (z i j)) (b0.both (zg3 i j)):=by
  unfold zpl zi5
  rw [if_neg hin,List.getD_eq_getElem?_getD,hb0]; rfl
 rw [e1,e2]
 refine ⟨h.nd,by simp [hlen],?_,?_⟩
 ·intro a b hab
  rw [zl3 hj]at hab
  rcases hab with hab | ⟨rfl,rfl⟩
  ·exact h.mem a b hab
  exact List.mem_of_getElem? hk
 intro m v b hm hb
 rw [List.getElem?_set]at hb
 by_cases e:ks.idxOf (z i j)=m
 ·subst e
  rw [if_pos rfl,if_pos (by omega)]at hb
  cases hb
  rw [hk]at hm
  cases hm
  exact ((h.hull _ _ _ hk hb0).both i j).congr (z0q hj rfl)
 rw [if_neg e]at hb
 have hv:z i j≠v:=by
  rintro rfl
  exact e (zl8 h.nd hk hm)
 exact (h.hull m v b hm hb).congr (zvq hj hv)
theorem SeInv.nil {z:Nat→Nat→Int} {W:Nat}:SeInv z W 0 0 [] []:=by
 refine ⟨by simp,rfl,?_,by simp⟩
 intro a b h
 unfold Gone at h; omega
theorem SeInv.row {g:List (List Int)} {W i:Nat} {s:List Int × List Rect} (h:SeInv (gz g) W i 0 s.1 s.2):∀ j,j≤W→SeInv (gz g) W i j (zd0 g i s j).1 (zd0 g i s j).2
 | 0,_=>h
 | j+1,hj=>(SeInv.row h j (by omega)).step (by omega)
theorem SeInv.rows {g:List (List Int)} {W:Nat}:∀ i,SeInv (gz g) W i 0 (zap g W i).1 (zap g W i).2
 | 0=>SeInv.nil
 | i+1=>by
  have h:=(SeInv.rows (g:=g) (W:=W) i).row W (qR _)
  refine ⟨h.nd,h.len,fun a b hab=>h.mem a b (z1p.2 hab),fun m v b hm hb=>(h.hull m v b hm hb).congr (fun a c=>z9h a c)⟩
theorem zrj {g:List (List Int)} {i:Nat} {s:List Int × List Rect}:∀ {j k:Nat},j≤k→∃ r,(zd0 g i s k).1=(zd0 g i s j).1++r
 | j,0,h=>by
  have hj:j=0:=by omega
  subst hj; exact ⟨[],by simp⟩
 | j,k+1,h=>by
  by_cases e:j=k+1
  ·subst e; exact ⟨[],by simp⟩
  obtain ⟨r,hr⟩:=zrj (g:=g) (i:=i) (s:=s) (show j≤k by omega)
  simp only[zd0,zie]
  split
  ·exact ⟨r++[gz g i k],by rw [hr,List.append_assoc]⟩
  exact ⟨r,hr⟩
theorem ztm {g:List (List Int)} {W:Nat}:∀ {i k:Nat},i≤k→∃ r,(zap g W k).1=(zap g W i).1++r
 | i,0,h=>by
  have hi:i=0:=by omega
  subst hi; exact ⟨[],by simp⟩
 | i,k+1,h=>by
  by_cases e:i=k+1
  ·subst e; exact ⟨[],by simp⟩
  obtain ⟨r,hr⟩:=ztm (g:=g) (W:=W) (show i≤k by omega)
  obtain ⟨r2,hr2⟩:=zrj (g:=g) (i:=k) (s:=zap g W k) (Nat.zero_le W)
  simp only[zap]
  refine ⟨r++r2,?_⟩
  rw [hr2,← List.append_assoc,← hr]; rfl
theorem zqd {l r:List Int} {x:Int} (h:¬ l.idxOf x=l.length):(l++r).idxOf x=l.idxOf x:=by
 have hl:=zhr (ks:=l) (z:=x)
 have hm:x∈l:=by rw [← List.idxOf_lt_length_iff]; omega
 rw [List.idxOf_append,if_pos hm]
theorem z6l {l r:List Int} {x:Int} (h:l.idxOf x=l.length):(l++[x]++r).idxOf x=l.length:=by
 have hm:x ∉ l:=zqe h
 rw [List.append_assoc,List.idxOf_append,if_neg hm]
 simp
theorem zNum {g:List (List Int)} {W nh i j:Nat} (hi:i<nh) (hj:j<W):((zd0 g i (zap g W i) j).1.idxOf (gz g i j))=(zap g W nh).1.idxOf (gz g i j):=by
 obtain ⟨r,hr⟩:=ztm (g:=g) (W:=W) (show i+1≤nh by omega)
 obtain ⟨r2,hr2⟩:=zrj (g:=g) (i:=i) (s:=zap g W i) (show j+1≤W by omega)
 have e:(zap g W nh).1=zie (zd0 g i (zap g W i) j).1 (gz g i j)++(r2++r):=by
  rw [hr,← List.append_assoc]
  congr 1
 rw [e]
 generalize (zd0 g i (zap g W i) j).1=ks
 unfold zie
 by_cases hin:ks.idxOf (gz g i j)=ks.length
 ·rw [if_pos hin,z6l hin,hin]
 rw [if_neg hin,zqd hin]
def inZ (p:List Txt) (r:Int) (i j:Nat):Bool:=decide (zal p i j=r)
theorem zwx {p:List Txt} {i k:Nat} {row:Txt} {c:UInt8} {r:Int} (h:p[i]?=some row) (hc:row[k]?=some c):zkp r c=inZ p r i k:=by
 unfold zkp inZ; rw [zc1 h hc]
theorem zn2 {p:List Txt} {i:Nat} {row:Txt} {r:Int} (h:p[i]?=some row) (n:Int):∀ k,k≤row.length→zdn r n (row.take k)=n+sN k fun j=>b1 (inZ p r i j)
 | 0,_=>by simp [zdn,sN]
 | k+1,hk=>by
  obtain ⟨c,hc,-⟩:=zag (show k<row.length by omega)
  have ih:=zn2 (r:=r) h n k (by omega)
  unfold zdn at ih ⊢
  rw [zes hc,ih,sN,zwx h hc]
  cases inZ p r i k <;> simp [b1]
  omega
theorem zqk {p:List Txt} {W:Nat} (hW:∀ row∈p,row.length=W) {r:Int}:∀ i,i≤p.length→(p.take i).foldl (zdn r) 0=((sN i fun i=>sN W fun j=>b1 (inZ p r i j):Nat):Int)
 | 0,_=>by simp [sN]
 | i+1,hi=>by
  obtain ⟨row,hr,hm⟩:=zag (show i<p.length by omega)
  have ih:=zqk hW (r:=r) i (by omega)
  have hl:=hW row hm
  have:=zn2 (r:=r) hr (((sN i fun i=>sN W fun j=>b1 (inZ p r i j):Nat):Int)) W (by omega)
  rw [qT (by omega)]at this
  rw [zes hr,ih,this,sN]
  simp
theorem z3t {p:List Txt} {W:Nat} (hW:∀ row∈p,row.length=W) {r:Int}:zfz p r=((cnt p.length W (inZ p r):Nat):Int):=by
 have:=zqk hW (r:=r) p.length (qR _)
 rwa [List.take_length]at this
def zkj (H W:Nat) (pr:Nat→Nat→Prop) (b:Box):Prop:=((∀ a c,¬ pr a c)∧b=⟨H,W,-1,-1⟩)∨Hull pr b.top b.left b.low b.right
theorem zkj.congr {H W:Nat} {pr pr':Nat→Nat→Prop} {b:Box} (h:zkj H W pr b) (e:∀ a c,pr a c↔pr' a c):zkj H W pr' b:=by
 have:pr=pr':=by funext a b; exact propext (e a b)
 exact this ▸ h
theorem zkj.add {H W:Nat} {pr:Nat→Nat→Prop} {b:Box} (h:zkj H W pr b) {i k:Nat} (hi:i<H) (hk:k<W):zkj H W (fun a c=>pr a c∨(a=i∧c=k)) ⟨min b.top i,min b.left k,max b.low i,max b.right k⟩:=by
 rcases h with ⟨h1,rfl⟩ | h
 ·right
  have:=Hull.one h1 i k
  simp only
  rw [show min (H:Int) i=i by omega,show min (W:Int) k=k by omega,show max (-1:Int) i=i by omega,show max (-1:Int) k=k by omega]
  exact this
 exact .inr (Hull.add h i k)
theorem zyj {p:List Txt} {H W i:Nat} {row:Txt} {r:Int} (hr:p[i]?=some row) (hW:row.length=W) (hi:i<H) {b:Box} (h:zkj H W (Val (zal p) W i 0 r) b):∀ k,k≤W→zkj H W (Val (zal p) W i k r) (zmu r i b row k)
 | 0,_=>by simpa [zmu] using h
 | k+1,hk=>by
  obtain ⟨c,hc,-⟩:=zag (show k<row.length by omega)
  have ih:=zyj hr hW hi h k (by omega)
  rw [zka hc]
  unfold zky
  simp only
  rw [zwx hr hc]
  by_cases e:zal p i k=r
  ·rw [if_pos (by unfold inZ; exact decide_eq_true e)]
   exact (ih.add hi (by omega)).congr (z0q (by omega) e)
  rw [if_neg (by unfold inZ; rw [decide_eq_false e]; exact Bool.false_ne_true)]
  exact ih.congr (zvq (by omega) e)
theorem zv6 {p:List Txt} {W:Nat} (hW:∀ row∈p,row.length=W) (hh:(zam p).length=W) {r:Int}:∀ i,i≤p.length→zkj p.length W (Val (zal p) W i 0 r) (ziz p r i)
 | 0,_=>by
  left
  refine ⟨fun a c h=>?_,by simp [ziz,hh]⟩
  have:=h.2
  unfold Gone at this; omega
 | i+1,hi=>by
  obtain ⟨row,hr,hm⟩:=zag (show i<p.length by omega)
  rw [znb hr]
  have:=zyj (r:=r) hr (hW row hm) (by omega) (zv6 hW hh i (by omega)) W (qR _)
  rw [hW row hm]
  exact this.congr fun a c=>z9h a c
theorem z5l {p:List Txt} {W:Nat} (hW:∀ row∈p,row.length=W) (hh:(zam p).length=W) {r:Int}:zkj p.length W (Val (zal p) W p.length 0 r) (zg4 p r):=by
 rw [← zlw]; exact zv6 hW hh p.length (qR _)
theorem Hull.nat {z:Nat→Nat→Int} {H W:Nat} {v:Int} {t l lo ri:Int} (h:Hull (Val z W H 0 v) t l lo ri):∃ t' l' h' w':Nat,t=t'∧l=l'∧lo=t'+h' - 1∧ri=l'+w' - 1∧1≤h'∧1≤w'∧t'+h'≤H∧l'+w'≤W ∧
  ∀ i j,i<H→j<W→z i j=v→inR t' l' h' w' i j=true:=by
 obtain ⟨a1,b1,p1,e1⟩:=h.at_
 obtain ⟨a2,b2,p2,e2⟩:=h.al
 obtain ⟨a3,b3,p3,e3⟩:=h.ao
 obtain ⟨a4,b4,p4,e4⟩:=h.ar
 have q1:=h.inn _ _ p1
 have q2:=h.inn _ _ p2
 obtain ⟨-,g3,g3'⟩:=p3
 obtain ⟨-,g4,g4'⟩:=p4
 refine ⟨a1,b2,a3+1 - a1,b4+1 - b2,e1.symm,e2.symm,by omega,by omega,by omega,by omega,by omega,by omega,fun i j hi hj hv=>?_⟩
 have:=h.inn i j ⟨hv,by unfold Gone; omega⟩
 unfold inR
 simp only[qB,decide_eq_true_eq]
 omega
def u8I (c:UInt8):Int:=(c.toNat:Int)
theorem ye2 {a b:UInt8} (h:u8I a=u8I b):a=b:=by
 unfold u8I at h
 exact UInt8.toNat_inj.1 (by omega)
theorem zww {α β:Type} [DecidableEq α] [DecidableEq β] {f:α→β} (hf:∀ a b,f a=f b→a=b) {c:α}:∀ (l:List α),(l.map f).idxOf (f c)=l.idxOf c
 | []=>rfl
 | a::l=>by
  rw [List.map_cons,List.idxOf_cons,List.idxOf_cons,zww hf l]
  by_cases e:a=c
  ·subst e; simp
  have e2:f a≠f c:=fun h=>e (hf _ _ h)
  rw [show (f a == f c)=false by simpa using e2,show (a == c)=false by simpa using e]
theorem ydr {p:List Txt} {i k:Nat} {row:Txt} {c:UInt8} (h:p[i]?=some row) (hc:row[k]?=some c):gz (zb5 p) i k=u8I c:=by
 simp [gz,zb5,zvz,h,hc,u8I]
theorem zs0 {p:List Txt} {i:Nat} {row:Txt} (h:p[i]?=some row) {o:List UInt8} {s:List Int × List Rect} (ho:o.map u8I=s.1):∀ j,j≤row.length →
  ((row.take j).foldl zet (o,[])).1.map u8I=(zd0 (zb5 p) i s j).1∧((row.take j).foldl zet (o,[])).2=zrg (znz (zb5 p) i s j)
 | 0,_=>⟨by simpa [zd0] using ho,by simp [znz,zrg]⟩
 | j+1,hj=>by
  obtain ⟨c,hc,-⟩:=zag (show j<row.length by omega)
  obtain ⟨h1,h2⟩:=zs0 h ho j (by omega)
  rw [zes hc]
  generalize (row.take j).foldl zet (o,[])=q at h1 h2 ⊢
  have hz:=ydr h hc
  have hi:(zd0 (zb5 p) i s j).1.idxOf (gz (zb5 p) i j)=q.1.idxOf c:=by rw [← h1,hz,zww fun a b=>ye2]
  have hl:(zd0 (zb5 p) i s j).1.length=q.1.length:=by rw [← h1,List.length_map]
  constructor
  ·simp only[zet,zd0,zie]
   rw [hi,hl]
   split
   ·rw [List.map_append,h1,hz]; rfl
   exact h1
  simp only[zet,znz]
  rw [hi,h2]
  simp [zrg,z6w]
theorem z1y {p:List Txt} {W:Nat} (hW:∀ row∈p,row.length=W):∀ i,i≤p.length →
  ((p.take i).foldl zoi ([],[])).1.map u8I=(zap (zb5 p) W i).1∧((p.take i).foldl zoi ([],[])).2=zf3 (ze4 (zb5 p) W i)
 | 0,_=>by simp [zap,ze4,zf3]
 | i+1,hi=>by
  obtain ⟨row,hr,hm⟩:=zag (show i<p.length by omega)
  obtain ⟨h1,h2⟩:=z1y hW i (by omega)
  rw [zes hr]
  generalize (p.take i).foldl zoi ([],[])=q at h1 h2 ⊢
  have hl:=hW row hm
  obtain ⟨k1,k2⟩:=zs0 hr h1 row.length (qR _)
  rw [List.take_length,hl]at k1 k2
  constructor
  ·simp only[zoi,zqq,zap]; exact k1
  simp only[zoi,zqq,ze4,zf3,List.map_append,List.map_cons,List.map_nil]
  rw [k2,h2]
  rfl
theorem zf5 {p:List Txt}:w0 (zb5 p)=(zam p).length:=by
 cases p with
 | nil=>rfl
 | cons a p=>simp [w0,zb5,zvz,zam]
theorem zl4 {p:List Txt} (hg:zc5 p=true):∀ row∈p,row.length=(zam p).length:=by
 intro row hm
 obtain ⟨i,hi⟩:=List.getElem?_of_mem hm
 exact zdv hg hi
theorem znm {p:List Txt} (hg:zc5 p=true):names p=zf3 (gP p):=by
 have:=(z1y (zl4 hg) p.length (qR _)).2
 rw [List.take_length]at this
 unfold names zun gP zG
 rw [this,zf5,zdz]
theorem z1q {p:List Txt}:zc5 p=(zhs p && okG (zb5 p)):=by
 rw [Bool.eq_iff_iff,qB,zqt,zdz,zf5]
 unfold zc5 zhs GW ztk
 simp only[qB,decide_eq_true_eq,List.all_eq_true,zdz,true_and]
 constructor
 ·rintro ⟨⟨h1,h2⟩,h3⟩
  obtain ⟨row0,hr0,hm0⟩:=zag (show 0<p.length by omega)
  have hh:=zcz hr0
  have h4:=h1 row0 hm0
  refine ⟨fun r hr=>(h1 r hr).2,fun r hr=>?_,h2,h3,by rw [hh]; omega,by rw [hh]; omega⟩
  obtain ⟨t,ht,rfl⟩:=List.mem_map.1 hr
  rw [zkb]; exact (h1 t ht).1.1.1
 rintro ⟨h1,h2,h3,h4,h5,h6⟩
 refine ⟨⟨fun r hr=>?_,h3⟩,h4⟩
 have:=h2 (zvz r) (List.mem_map.2 ⟨r,hr,rfl⟩)
 rw [zkb]at this
 exact ⟨⟨⟨this,by omega⟩,by omega⟩,h1 r hr⟩
theorem z0u {g:List (List Int)} {i:Nat} {s:List Int × List Rect}:∀ {j k:Nat},k<j→(znz g i s j)[k]?=some (((zd0 g i s k).1.idxOf (gz g i k):Nat):Int)
 | 0,k,h=>by omega
 | j+1,k,h=>by
  unfold znz
  by_cases e:k=j
  ·subst e; rw [List.getElem?_append_right (by rw [zfq]; exact qR _),zfq]; simp
  rw [List.getElem?_append_left (by rw [zfq]; omega)]; exact z0u (by omega)
def keys (p:List Txt):List Int:=(zap (zb5 p) (zam p).length p.length).1
theorem z3p {p:List Txt}:gP p=ze4 (zb5 p) (zam p).length p.length:=by unfold gP zG; rw [zf5,zdz]
theorem z71 {p:List Txt}:rP p=(zap (zb5 p) (zam p).length p.length).2:=by unfold rP stG; rw [zf5,zdz]
theorem z59 {p:List Txt} {i j:Nat} (hi:i<p.length) (hj:j<(zam p).length):gz (gP p) i j=(((keys p).idxOf (gz (zb5 p) i j):Nat):Int):=by
 rw [z3p]
 unfold gz
 rw [zkg hi,Option.getD_some,z0u hj,Option.getD_some]
 congr 1
 exact zNum hi hj
theorem zgv (p:List Txt):SeInv (gz (zb5 p)) (zam p).length p.length 0 (keys p) (rP p):=by
 rw [z71]; exact SeInv.rows p.length
theorem zo6 {H W i j:Nat} (hi:i<H) (hj:j<W):Gone W H 0 i j:=⟨hj,.inl hi⟩
theorem zfy {p:List Txt}:zvw (gP p) p.length (zam p).length (rP p).length:=by
 intro i j hi hj
 rw [z59 hi hj]
 have hm:=(zgv p).mem i j (zo6 hi hj)
 have hl:=(zgv p).len
 have:=List.idxOf_lt_length_iff.2 hm
 omega
structure Named (p:List Txt):Prop where
 hg:zc5 p=true
 ht:zf3 (gP p)=p
theorem Named.cell {p:List Txt} (h:Named p) {i j:Nat} (hi:i<p.length) (hj:j<(zam p).length):gz (gP p) i j=zal p i j:=by
 have hgz:=z59 hi hj
 have hm:=(zgv p).mem i j (zo6 hi hj)
 have hsm:=zcj h.hg
 obtain ⟨row0,hr0,hm0⟩:=zag hsm.1
 have hh:=zcz hr0
 have hw6:=hsm.2.2 row0 hm0
 have hw1:=zf2 h.hg hr0
 rw [← hh]at hw6 hw1
 have hb:=ziv (g:=zb5 p) hw6 hw1 p.length hsm.2.1
 rw [← z3p]at hb
 have hrl:(gP p).length=p.length:=by rw [z3p]; exact zc4 _
 obtain ⟨zr,hzr,hzm⟩:=zag (show i<(gP p).length by omega)
 have hzl:zr.length=(zam p).length:=by
  have e:=hzr
  rw [z3p,zkg hi]at e
  cases e
  exact zfq _
 obtain ⟨z,hz,hzm2⟩:=zag (show j<zr.length by omega)
 have hz1:=hb zr hzm z hzm2
 have e1:gz (gP p) i j=z:=by simp [gz,hzr,hz]
 have e2:p[i]?=some (zrg zr):=by
  have:=zm2 hzr
  rwa [h.ht]at this
 have e3:(zrg zr)[j]?=some (z6w z):=by simp [zrg,hz]
 rw [e1,zc1 e2 e3]
 unfold z6w
 rw [UInt8.toNat_ofNat_of_lt' (by show 97+z.toNat<256; omega)]
 omega
theorem Named.room {p:List Txt} (h:Named p) {i j:Nat} (hi:i<p.length) (hj:j<(zam p).length):0≤zal p i j∧zal p i j<(rP p).length:=by
 rw [← h.cell hi hj]; exact zfy i j hi hj
theorem Named.key {p:List Txt} (h:Named p) {m:Nat} {v:Int} (hm:(keys p)[m]?=some v) (a b:Nat):Val (gz (zb5 p)) (zam p).length p.length 0 v a b↔Val (zal p) (zam p).length p.length 0 m a b:=by
 unfold Val
 constructor
 ·rintro ⟨h1,h2⟩
  refine ⟨?_,h2⟩
  obtain ⟨hb,ha⟩:=h2
  have ha':a<p.length:=by omega
  rw [← h.cell ha' hb,z59 ha' hb,h1]
  congr 1
  have hv:=List.mem_of_getElem? hm
  have hlt:=List.idxOf_lt_length_iff.2 hv
  have:=zh9 (ks:=keys p) (z:=v) (by omega)
  exact zl8 (zgv p).nd this hm
 rintro ⟨h1,h2⟩
 refine ⟨?_,h2⟩
 obtain ⟨hb,ha⟩:=h2
 have ha':a<p.length:=by omega
 have hmem:=(zgv p).mem a b (zo6 ha' hb)
 have hlt:=List.idxOf_lt_length_iff.2 hmem
 rw [← h.cell ha' hb,z59 ha' hb]at h1
 have:=zh9 (ks:=keys p) (z:=gz (zb5 p) a b) (by omega)
 rw [show (keys p).idxOf (gz (zb5 p) a b)=m by omega,hm]at this
 cases this; rfl
theorem Named.rect {p:List Txt} (h:Named p) {m:Nat} {b:Rect} (hb:(rP p)[m]?=some b):zlu (Val (zal p) (zam p).length p.length 0 m) b:=by
 have hi:=zgv p
 have hml:=zb7 hb
 rw [hi.len]at hml
 obtain ⟨v,hv,-⟩:=zag hml
 exact (hi.hull m v b hv hb).congr (h.key hv)
theorem Named.box {p:List Txt} (h:Named p) {m:Nat} {b:Rect} (hb:(rP p)[m]?=some b):b.row=(zg4 p m).top∧b.col=(zg4 p m).left∧b.high=zea p m∧b.wide=zd3 p m:=by
 have h1:=h.rect hb
 have h2:=z5l (zl4 h.hg) rfl (r:=(m:Int))
 rcases h2 with ⟨h2,-⟩ | h2
 ·obtain ⟨a,c,q,-⟩:=h1.at_
  exact absurd q (h2 a c)
 have:=Hull.uniq h1 h2
 unfold zea zd3
 omega
theorem zof {f:UInt8→Int} {B:Int}:∀ (row:Txt) (n:Int),n≤B→(∀ c∈row,f c≤B)→row.foldl (fun n c=>max n (f c)) n≤B
 | [],n,h,_=>h
 | c::row,n,h,hc=>zof row _ (by have:=hc c (by simp); show max n (f c)≤B; omega) fun d hd=>hc d (by simp [hd])
theorem z2p {B:Int}:∀ (p:List Txt) (n:Int),n≤B→(∀ row∈p,∀ c∈row,(c.toNat:Int) - 97+1≤B)→p.foldl zgr n≤B
 | [],n,h,_=>h
 | row::p,n,h,hc=>z2p p _ (zof row n h (hc row (by simp))) fun r hr=>hc r (by simp [hr])
theorem Named.rooms {p:List Txt} (h:Named p):za2 p=(rP p).length:=by
 have hi:=zgv p
 have hl:=hi.len
 apply Int.le_antisymm
 ·refine z2p p 0 (by omega) fun row hr c hc=>?_
  obtain ⟨i,hrow⟩:=List.getElem?_of_mem hr
  obtain ⟨j,hcol⟩:=List.getElem?_of_mem hc
  have hil:=zb7 hrow
  have hjl:=zb7 hcol
  have:=h.room hil (by rw [← zdv h.hg hrow]; exact hjl)
  rw [zc1 hrow hcol]at this
  omega
 by_cases h0:(rP p).length=0
 ·have:=(zdp p).1; omega
 obtain ⟨b,hb,-⟩:=zag (show (rP p).length - 1<(rP p).length by omega)
 obtain ⟨a,c,⟨q1,q2⟩,-⟩:=(h.rect hb).at_
 obtain ⟨hc,ha⟩:=q2
 have ha':a<p.length:=by omega
 obtain ⟨row,hrow,hrm⟩:=zag ha'
 have hrl:=zdv h.hg hrow
 obtain ⟨d,hd,-⟩:=zag (show c<row.length by omega)
 have:=(ztj p 0).2 a c row d hrow hd
 rw [zc1 hrow hd]at q1
 unfold za2
 omega
def inB (b:Rect) (i j:Nat):Bool:=(decide (b.row≤i) && decide ((i:Int)<b.row+b.high)) && (decide (b.col≤j) && decide ((j:Int)<b.col+b.wide))
theorem zmo {z:Nat→Nat→Int} {H W:Nat} {v:Int} {b:Rect} (h:zlu (Val z W H 0 v) b):((cnt H W (inB b):Nat):Int)=b.high*b.wide∧∀ i j,i<H→j<W→z i j=v→inB b i j=true:=by
 obtain ⟨t,l,hh,w,e1,e2,e3,e4,h1,h2,h3,h4,h5⟩:=Hull.nat h
 have e5:b.high=hh:=by omega
 have e6:b.wide=w:=by omega
 have e:∀ i j,inB b i j=inR t l hh w i j:=by
  intro i j
  unfold inB inR
  rw [e1,e2,e5,e6,Bool.eq_iff_iff]
  simp only[qB,decide_eq_true_eq]
  omega
 have e7:inB b=inR t l hh w:=by funext i j; exact e i j
 rw [e7,z93 h3 h4,e5,e6]
 exact ⟨by simp,h5⟩
def arN (p:List Txt) (m:Nat):Nat :=
 match (rP p)[m]? with
 | some b=>cnt p.length (zam p).length (inB b)
 | none=>0
theorem zv4 {p:List Txt} {m:Nat} {b:Rect} (h:(rP p)[m]?=some b):arN p m=cnt p.length (zam p).length (inB b):=by simp [arN,h]
theorem z81 {p:List Txt} (h:Named p):∀ k,k≤(rP p).length→z4y ((rP p).take k)=((sN k (arN p):Nat):Int)
 | 0,_=>by simp [z4y,sN]
 | k+1,hk=>by
  obtain ⟨b,hb,-⟩:=zag (show k<(rP p).length by omega)
  rw [zrr hb,z81 h k (by omega),sN,zv4 hb,← (zmo (h.rect hb)).1]
  simp
theorem Named.cells_le {p:List Txt} (h:Named p) {m:Nat} (hm:m<(rP p).length):cnt p.length (zam p).length (inZ p m)≤arN p m:=by
 obtain ⟨b,hb,-⟩:=zag hm
 rw [zv4 hb]
 exact yfr fun i j hi hj hz=>(zmo (h.rect hb)).2 i j hi hj (by unfold inZ at hz; simpa using hz)
theorem Named.all {p:List Txt} (h:Named p):sN (rP p).length (fun m=>cnt p.length (zam p).length (inZ p m))=p.length*(zam p).length:=by
 rw [← zzh (H:=p.length) (W:=(zam p).length) (n:=(rP p).length) (z:=fun i j=>(zal p i j).toNat) fun i j hi hj=>by have:=h.room hi hj; omega]
 refine zex fun m hm=>zwb fun i j hi hj=>?_
 unfold inZ
 have:=h.room hi hj
 apply decide_eq_decide.2
 omega
theorem yae {p:List Txt} (h:Named p):zh7 (zb5 p)=decide (sN (rP p).length (arN p)=p.length*(zam p).length):=by
 have:=z81 h (rP p).length (qR _)
 rw [List.take_length]at this
 unfold zh7
 rw [show (stG (zb5 p)).2=rP p from rfl,this,zdz,zf5]
 apply decide_eq_decide.2
 omega
theorem Named.area {p:List Txt} (h:Named p) {m:Nat} (hm:m<(rP p).length):(zfz p m=zea p m*zd3 p m)↔cnt p.length (zam p).length (inZ p m)=arN p m:=by
 obtain ⟨b,hb,-⟩:=zag hm
 obtain ⟨-,-,e1,e2⟩:=h.box hb
 rw [z3t (zl4 h.hg),← e1,← e2,← (zmo (h.rect hb)).1,zv4 hb]
 omega
theorem Named.full {p:List Txt} (h:Named p):zh7 (zb5 p)=true↔∀ m,m<(rP p).length→cnt p.length (zam p).length (inZ p m)=arN p m:=by
 rw [yae h,decide_eq_true_eq,← h.all]
 constructor
 ·intro e m hm
  exact ya9 (fun m hm=>h.cells_le hm) e.symm m hm
 intro e
 exact zex fun m hm=>(e m hm).symm
theorem Named.fill {p:List Txt} (h:Named p) (hf:zh7 (zb5 p)=true) {m:Nat} {b:Rect} (hb:(rP p)[m]?=some b) {i j:Nat} (hi:i<p.length) (hj:j<(zam p).length):inB b i j=decide (zal p i j=m):=by
 have e:=h.full.1 hf m (zb7 hb)
 rw [zv4 hb]at e
 exact (yfq (fun i j hi hj hz=>(zmo (h.rect hb)).2 i j hi hj (by unfold inZ at hz; simpa using hz)) e i j hi hj).symm
theorem zel {p:List Txt}:zfu p=zbq p:=by
 unfold zfu zod okB okS zbq
 rw [Bool.eq_iff_iff]
 simp only[qB,decide_eq_true_eq,List.all_eq_true,List.mem_range]
 have hgi:=z1q (p:=p)
 constructor
 ·rintro ⟨⟨h1,h2,h3⟩,h4,h5⟩
  have hg:zc5 p=true:=by rw [hgi,h1,h2]; rfl
  have hN:Named p:=⟨hg,h5⟩
  have hr:=hN.rooms
  have h3':(rP p).length≤9:=h3
  refine ⟨⟨⟨hg,by rw [znm hg]; exact h5⟩,by omega⟩,fun m hm=>?_⟩
  have hm':m<(rP p).length:=by omega
  exact (hN.area hm').2 (hN.full.1 h4 m hm')
 rintro ⟨⟨⟨hg,h2⟩,h3⟩,h4⟩
 have h5:zf3 (gP p)=p:=by rw [← znm hg]; exact h2
 have hN:Named p:=⟨hg,h5⟩
 have hr:=hN.rooms
 rw [hgi,qB]at hg
 have h3':(rP p).length≤9:=by omega
 exact ⟨⟨hg.1,hg.2,h3'⟩,hN.full.2 fun m hm=>(hN.area hm).1 (h4 m (by omega)),h5⟩
theorem zc7 {p:List Txt} (h:zbq p=true):Named p:=by
 have h2:=h
 rw [← zel]at h2
 unfold zfu zod at h2
 simp only[qB,decide_eq_true_eq]at h2
 exact ⟨zeu h,h2.2.2⟩
theorem zx2 {p:List Txt} (h:zbq p=true):zh7 (zb5 p)=true:=by
 rw [← zel]at h
 unfold zfu zod at h
 simp only[qB,decide_eq_true_eq]at h
 exact h.2.1
def cz (c:UInt8):Int:=(c.toNat:Int) - 97
theorem yfs {a b:UInt8}:(cz a=cz b)=(a=b):=by
 rw [ye4]
 unfold cz
 apply propext; omega
theorem ydg (a b c d:UInt8):((dn [cz a,cz b,cz c,cz d]:Nat):Int)=zgm [a,b,c,d] 4:=by
 simp only[dn,zgm,z65,zr2,List.mem_cons,List.not_mem_nil,or_false,yfs]
 by_cases h1:a=b <;> by_cases h2:a=c <;> by_cases h3:a=d <;> by_cases h4:b=c <;> by_cases h5:b=d <;> by_cases h6:c=d <;> simp_all [eq_comm]
theorem z3o {p:List Txt} (h:Named p) {i k:Nat} (hi:1≤i) (hi2:i<p.length) (hk:1≤k) (hk2:k<(zam p).length):((dn (four (gP p) i k):Nat):Int)=zjf p i k:=by
 obtain ⟨r1,hr1,-⟩:=zag (show i - 1<p.length by omega)
 obtain ⟨r2,hr2,-⟩:=zag hi2
 have l1:=zdv h.hg hr1
 have l2:=zdv h.hg hr2
 obtain ⟨a,ha,-⟩:=zag (show k - 1<r1.length by omega)
 obtain ⟨b,hb,-⟩:=zag (show k<r1.length by omega)
 obtain ⟨c,hc,-⟩:=zag (show k - 1<r2.length by omega)
 obtain ⟨d,hd,-⟩:=zag (show k<r2.length by omega)
 unfold four zjf
 rw [h.cell (by omega) (by omega),h.cell (by omega) (by omega),h.cell (by omega) (by omega),h.cell (by omega) (by omega),zc1 hr1 ha,zc1 hr1 hb,zc1 hr2 hc,zc1 hr2 hd]
 simp only[hr1,hr2,ha,hb,hc,hd]
 exact ydg a b c d
theorem zx4 {p:List Txt} (h:Named p) {many:Int} {i:Nat} (hi:1≤i) (hi2:i<p.length):∀ k,k≤(zam p).length→zdy (gP p) many i k=zgp p many i k
 | 0,_=>rfl
 | k+1,hk=>by
  unfold zdy zgp
  rw [zx4 h hi hi2 k (by omega)]
  by_cases h1:1≤k
  ·rw [z3o h hi hi2 h1 (by omega)]
  rw [if_neg (fun e=>h1 e.1),if_neg (fun e=>h1 e.1)]
theorem ycq {p:List Txt} (h:Named p) {many:Int}:∀ i,i≤p.length→zuz (gP p) many (zam p).length i=zi2 p many (zam p).length i
 | 0,_=>rfl
 | i+1,hi=>by
  unfold zuz zi2
  rw [ycq h i (by omega)]
  by_cases h1:1≤i
  ·rw [zx4 h h1 (by omega) _ (qR _)]
  rw [if_neg h1,if_neg h1]
theorem zdq {p:List Txt}:zdi p=zbe p:=by
 unfold zdi zbe
 rw [zel]
 cases hp:zbq p with
 | false=>rfl
 | true =>
  rw [zf5,ycq (zc7 hp) p.length (qR _)]
  rfl
theorem zeb {p:List Txt} (h:zbe p=true):zbq p=true:=by
 unfold zbe at h
 rw [qB]at h
 exact h.1
theorem znl {l:List Int} {x:Int}:x∈ddp l↔x∈l:=by
 have:∀ (l m:List Int),x∈l.foldl zi3 m↔x∈m∨x∈l:=by
  intro l
  induction l with
  | nil=>intro m; simp
  | cons a l ih=>intro m; rw [List.foldl_cons,ih,z1x,List.mem_cons,or_assoc]
 unfold ddp
 rw [this]
 simp
def Rise (n:Nat) (rk:Nat→Nat) (M:List (List Bool)):Prop:=Sq n M∧∀ a b,a<n→b<n→zc2 M a b=true→rk a<rk b
theorem Rise.clA {n:Nat} {rk:Nat→Nat} {M:List (List Bool)} (h:Rise n rk M) {k a:Nat} (hk:k<n) (ha:a<n):Rise n rk (clA n k M a):=by
 obtain ⟨h1,h2⟩:=z04 h.1 hk ha n (qR _)
 refine ⟨h1,fun x y hx hy hxy=>?_⟩
 unfold Fw.clA at hxy
 rw [h2 x y hx hy]at hxy
 split at hxy
 ·rename_i e
  obtain ⟨rfl,-⟩:=e
  rw [Bool.or_eq_true,qB]at hxy
  rcases hxy with hxy | ⟨h3,h4⟩
  ·exact h.2 x y hx hy hxy
  exact Nat.lt_trans (h.2 x k hx hk h3) (h.2 k y hk hy h4)
 exact h.2 x y hx hy hxy
theorem Rise.fold {n:Nat} {rk:Nat→Nat} {f:List (List Bool)→Nat→List (List Bool)}:∀ (i:Nat) {M:List (List Bool)},i≤n→(∀ M j,j<n→Rise n rk M→Rise n rk (f M j))→Rise n rk M→Rise n rk ((List.range i).foldl f M)
 | 0,_,_,_,h=>h
 | i+1,M,hi,hs,h=>by
  rw [zcv]
  exact hs _ i (by omega) (Rise.fold i (by omega) hs h)
theorem Rise.close {n:Nat} {rk:Nat→Nat} {M:List (List Bool)} (h:Rise n rk M):Rise n rk (zf9 M):=by
 unfold zf9
 rw [h.1.1]
 exact Rise.fold n (qR _) (fun _ k hk h=>Rise.fold n (qR _) (fun _ a ha h=>h.clA hk ha) h) h
theorem Rise.relB {n:Nat} {rk:Nat→Nat} {a:Int} (ha:0≤a∧a<n):∀ {bs:List Int} {M:List (List Bool)},Rm n bs→(∀ b∈bs,rk a.toNat<rk b.toNat)→Rise n rk M→Rise n rk (relB a bs M)
 | [],_,_,_,h=>h
 | b::bs,M,hb,hr,h=>by
  have hb0:=hb b (by simp)
  refine Rise.relB ha (bs:=bs) (fun x hx=>hb x (by simp [hx])) (fun x hx=>hr x (by simp [hx])) ⟨h.1.set (by omega),fun x y hx hy hxy=>?_⟩
  rw [zl2 h.1 (by omega) (by omega)]at hxy
  split at hxy
  ·rename_i e
   rw [e.1,e.2]; exact hr b (by simp)
  exact h.2 x y hx hy hxy
theorem Rise.relW {n:Nat} {rk:Nat→Nat} {bs:List Int} (hb:Rm n bs):∀ {la:List Int} {M:List (List Bool)},Rm n la→(∀ a∈la,∀ b∈bs,rk a.toNat<rk b.toNat)→Rise n rk M→Rise n rk (relW M la bs)
 | [],_,_,_,h=>h
 | a::la,M,ha,hr,h=>Rise.relW hb (la:=la) (fun x hx=>ha x (by simp [hx])) (fun x hx=>hr x (by simp [hx])) (h.relB (ha a (by simp)) hb (hr a (by simp)))
theorem Rise.empty {n:Nat} {rk:Nat→Nat}:Rise n rk (zch n):=by
 refine ⟨zez n,fun a b ha hb h=>?_⟩
 simp [zc2,zch,ha,hb]at h
theorem Rise.ord {g:List (List Int)} {nh nw n:Nat} {r0 r1:Nat→Nat} (hrm:zvw g nh nw n) (h0:∀ w,zt3 g nh nw w→w.level=false→∀ a∈(zbd g w).1,∀ b∈(zbd g w).2,r0 a.toNat<r0 b.toNat)
  (h1:∀ w,zt3 g nh nw w→w.level=true→∀ a∈(zbd g w).1,∀ b∈(zbd g w).2,r1 a.toNat<r1 b.toNat):∀ (ws:List Wall),(∀ w∈ws,zt3 g nh nw w)→∀ {M:List (List Bool) × List (List Bool)},Rise n r0 M.1→Rise n r1 M.2 →
  Rise n r0 (ws.foldl (zm7 g) M).1∧Rise n r1 (ws.foldl (zm7 g) M).2
 | [],_,_,k0,k1=>⟨k0,k1⟩
 | w::ws,hws,M,k0,k1=>by
  have hw:=hws w (by simp)
  obtain ⟨hr1,hr2⟩:=zfp hrm hw
  rw [List.foldl_cons]
  refine Rise.ord hrm h0 h1 ws (fun w hw=>hws w (by simp [hw])) ?_ ?_
  ·unfold zm7
   cases hlv:w.level with
   | false=>simpa using k0.relW hr2 hr1 (h0 w hw hlv)
   | true=>simpa using k0
  unfold zm7
  cases hlv:w.level with
  | false=>simpa using k1
  | true=>simpa using k1.relW hr2 hr1 (h1 w hw hlv)
theorem ygg {g:List (List Int)} {nh nw:Nat} {w:Wall} (hw:zt3 g nh nw w) {x:Int} (hx:x∈(zbd g w).1):∃ line j:Nat,w.line=line∧x=(zcr g w.level line j).1∧InL nh nw w.level line j∧zij g w.level line j=true:=by
 obtain ⟨line,fr,long,e,h1,h2⟩:=hw
 have e1:w.line.toNat=line:=by rw [e]; simp
 have e2:w.fr.toNat=fr:=by rw [e]; simp
 have e3:w.long.toNat=long:=by rw [e]; simp
 simp only[zbd,e1,e2,e3]at hx
 have:=znl.1 hx
 simp only[zbw,List.mem_map,List.mem_range]at this
 obtain ⟨j,hj,rfl⟩:=this
 have h3:=h2 (fr+j) (by omega) (by omega)
 exact ⟨line,fr+j,by rw [e],rfl,h3.1,h3.2⟩
theorem ygh {g:List (List Int)} {nh nw:Nat} {w:Wall} (hw:zt3 g nh nw w) {x:Int} (hx:x∈(zbd g w).2):∃ line j:Nat,w.line=line∧x=(zcr g w.level line j).2∧InL nh nw w.level line j∧zij g w.level line j=true:=by
 obtain ⟨line,fr,long,e,h1,h2⟩:=hw
 have e1:w.line.toNat=line:=by rw [e]; simp
 have e2:w.fr.toNat=fr:=by rw [e]; simp
 have e3:w.long.toNat=long:=by rw [e]; simp
 simp only[zbd,e1,e2,e3]at hx
 have:=znl.1 hx
 simp only[zbw,List.mem_map,List.mem_range]at this
 obtain ⟨j,hj,rfl⟩:=this
 have h3:=h2 (fr+j) (by omega) (by omega)
 exact ⟨line,fr+j,by rw [e],rfl,h3.1,h3.2⟩
def rkL (p:List Txt) (a:Nat):Nat:=match (rP p)[a]? with | some b=>b.col.toNat | none=>0
def rkA (p:List Txt) (a:Nat):Nat:=match (rP p)[a]? with | some b=>b.row.toNat | none=>0
theorem zgd {p:List Txt} (hp:zbq p=true) {i j:Nat} (hi:i<p.length) (hj:j<(zam p).length):∃ b,(rP p)[(zal p i j).toNat]?=some b∧inB b i j=true∧b.Fit∧∀ k l,k<p.length→l<(zam p).length→inB b k l=true→zal p k l=zal p i j:=by
 have hN:=zc7 hp
 have hr:=hN.room hi hj
 obtain ⟨b,hb,hbm⟩:=zag (show (zal p i j).toNat<(rP p).length by omega)
 have hf:=zx2 hp
 have hsm:=zcj hN.hg
 obtain ⟨row0,hr0,hm0⟩:=zag hsm.1
 have hh:=zcz hr0
 have hw6:=hsm.2.2 row0 hm0
 have hw1:=zf2 hN.hg hr0
 rw [← hh]at hw6 hw1
 have hok:=(zge (g:=zb5 p) hw6 hw1 p.length hsm.2.1).1
 rw [← z71]at hok
 refine ⟨b,hb,?_,hok.2 b hbm,fun k l hk hl hkl=>?_⟩
 ·rw [hN.fill hf hb hi hj]; exact decide_eq_true (by omega)
 rw [hN.fill hf hb hk hl]at hkl
 have:=of_decide_eq_true hkl
 omega
theorem z7s {p:List Txt} (hp:zbq p=true) {w:Wall} (hw:zt3 (gP p) p.length (zam p).length w) (hl:w.level=false):∀ a∈(zbd (gP p) w).1,∀ b∈(zbd (gP p) w).2,rkL p a.toNat<rkL p b.toNat:=by
 intro a ha b hb
 have hN:=zc7 hp
 obtain ⟨L,j,e1,rfl,⟨h1,h2⟩,h3⟩:=ygg hw ha
 obtain ⟨L',j',e2,rfl,⟨k1,k2⟩,k3⟩:=ygh hw hb
 obtain rfl:L=L':=by omega
 simp only[hl,qF,if_false]at h2 k2
 unfold zij at k3
 simp only[hl,zcr,qF,if_false,decide_eq_true_eq]at k3 ⊢
 rw [hN.cell k2.2 (by omega),hN.cell k2.2 k2.1]at k3
 rw [hN.cell h2.2 (by omega),hN.cell k2.2 k2.1]
 obtain ⟨r1,hr1,q1,f1,-⟩:=zgd hp h2.2 (show L - 1<(zam p).length by omega)
 obtain ⟨r2,hr2,q2,f2,c2⟩:=zgd hp k2.2 k2.1
 unfold rkL
 rw [hr1,hr2]
 simp only
 have c3:=c2 j' (L - 1) k2.2 (by omega)
 unfold inB at q1 q2 c3
 unfold Rect.Fit at f1 f2
 simp only[qB,decide_eq_true_eq]at q1 q2 c3
 by_cases hc:r2.col<(L:Int)
 ·exact absurd (c3 (by omega)) k3
 omega
theorem z4c {p:List Txt} (hp:zbq p=true) {w:Wall} (hw:zt3 (gP p) p.length (zam p).length w) (hl:w.level=true):∀ a∈(zbd (gP p) w).1,∀ b∈(zbd (gP p) w).2,rkA p a.toNat<rkA p b.toNat:=by
 intro a ha b hb
 have hN:=zc7 hp
 obtain ⟨L,j,e1,rfl,⟨h1,h2⟩,h3⟩:=ygg hw ha
 obtain ⟨L',j',e2,rfl,⟨k1,k2⟩,k3⟩:=ygh hw hb
 obtain rfl:L=L':=by omega
 simp only[hl,if_true]at h2 k2
 unfold zij at k3
 simp only[hl,zcr,if_true,decide_eq_true_eq]at k3 ⊢
 rw [hN.cell (by omega) k2.2,hN.cell k2.1 k2.2]at k3
 rw [hN.cell (by omega) h2.2,hN.cell k2.1 k2.2]
 obtain ⟨r1,hr1,q1,f1,-⟩:=zgd hp (show L - 1<p.length by omega) h2.2
 obtain ⟨r2,hr2,q2,f2,c2⟩:=zgd hp k2.1 k2.2
 unfold rkA
 rw [hr1,hr2]
 simp only
 have c3:=c2 (L - 1) j' (by omega) k2.2
 unfold inB at q1 q2 c3
 unfold Rect.Fit at f1 f2
 simp only[qB,decide_eq_true_eq]at q1 q2 c3
 by_cases hc:r2.row<(L:Int)
 ·exact absurd (c3 (by omega)) k3
 omega
theorem ygb {p:List Txt} (hp:zbq p=true) (b:Nat):rkL p b≤100∧rkA p b≤100:=by
 have hN:=zc7 hp
 have hsm:=zcj hN.hg
 obtain ⟨row0,hr0,hm0⟩:=zag hsm.1
 have hh:=zcz hr0
 have hw6:=hsm.2.2 row0 hm0
 have hw1:=zf2 hN.hg hr0
 rw [← hh]at hw6 hw1
 have hok:=(zge (g:=zb5 p) hw6 hw1 p.length hsm.2.1).1
 rw [← z71]at hok
 unfold rkL rkA
 cases hb:(rP p)[b]? with
 | none=>simp
 | some r =>
  have:=hok.2 r (List.mem_of_getElem? hb)
  unfold Rect.Fit at this
  simp only
  omega
theorem yed {p:List Txt} (hp:zbq p=true):Up (zw6 (gP p) p.length (zam p).length (rP p).length) (rP p).length (rkL p)∧Up (zn0 (gP p) p.length (zam p).length (rP p).length) (rP p).length (rkA p):=by
 have h:=Rise.ord (r0:=rkL p) (r1:=rkA p) (zfy (p:=p)) (fun w hw hl=>z7s hp hw hl) (fun w hw hl=>z4c hp hw hl) (zcy (gP p) p.length (zam p).length) zd2 (M:=(zch (rP p).length,zch (rP p).length)) Rise.empty Rise.empty
 have h0:=h.1.close
 have h1:=h.2.close
 exact ⟨⟨h0.1,h0.2,fun b=>(ygb hp b).1⟩,⟨h1.1,h1.2,fun b=>(ygb hp b).2⟩⟩
theorem zuy {p:List Txt} (hp:zdi p=true):zvw (gP p) p.length (w0 (zb5 p)) (rP p).length∧(∃ rk,Up (zw6 (gP p) p.length (w0 (zb5 p)) (rP p).length) (rP p).length rk)∧∃ rk,Up (zn0 (gP p) p.length (w0 (zb5 p)) (rP p).length) (rP p).length rk:=by
 rw [zdq]at hp
 have h:=yed (zeb hp)
 rw [zf5]
 exact ⟨zfy,⟨_,h.1⟩,⟨_,h.2⟩⟩
section
open Go Go.ChangeShapes Go.WideShapes Go.ChangeAt Go.RowKit
set_option maxRecDepth 100000 in
theorem ybe {W:World} {base:Nat} {t e:TypeId} {a:Addr} {len cap:Nat} (ht:Tryz.prog.underlying t=some (.slice e)) (hval:Value.okWide Tryz.prog W .any base t (.slice (some a) len cap)):a.spot=none∧a.block<W.heap.size:=by
 simp only[Value.okWide,ht,Cell.okWide,Cell.ok]at hval
 obtain ⟨-,-,-,hsp,row,cells,hsh,-⟩:=hval
 refine ⟨hsp,?_⟩
 unfold World.shape? at hsh
 rcases Nat.lt_or_ge a.block W.heap.size with h | h
 ·exact h
 rw [Array.getElem?_eq_none h]at hsh; cases hsh
end
section
open Go Go.ChangeShapes Go.WideShapes Go.ChangeAt Go.RowKit
set_option maxRecDepth 100000 in
theorem ybq {H:Type} {enc:TypeId × Value→H} {W:World} {base:Nat} {v:Value} {d:DataW H} {ps:List MemPlace} (hval:Value.okWide Tryz.prog W .any base 22 v) (h:DataW.Trod enc Tryz.prog W 0 (fun _=>true) true 22 v d ps) :
  ∃ p:Txt,VI W.heap (fun b=>b<W.heap.size) (.sl (p.map eB) p.length) v∧p.length≤9223372036854775807:=by
 obtain ⟨a0,len,cap,rfl⟩:=okWide_slice Tryz.underlying22 hval
 obtain ⟨fuel,hf⟩:=h
 rcases open_ints Tryz.underlying22 Tryz.underlying5 (by kernel_rfl) hf with ⟨hcs,hx⟩ | ⟨a,len',cap',zs,hcs,-,hl,hm,hz,hx,hcell,hwf⟩
 ·simp [Value.cells]at hcs
  obtain ⟨rfl,rfl,rfl⟩:=hcs
  exact ⟨[],.sl0,by simp⟩
 simp [Value.cells]at hcs
 obtain ⟨rfl,rfl,rfl⟩:=hcs
 obtain ⟨hsp,hlt⟩:=ybe Tryz.underlying22 hval
 obtain ⟨b,off,spot⟩:=a
 simp only at hsp hlt
 subst hsp
 simp only[if_true]at hz
 have hml:maxLen≤9223372036854775807:=by decide
 have hlen:((zs.take len).map fun n:Int=>UInt8.ofNat n.toNat).length=len:=by simp; omega
 have hget:∀ (i:Nat) c,((zs.take len).map fun n:Int=>UInt8.ofNat n.toNat)[i]?=some c→i<len∧(c.toNat:Int)=zs.getD i 0:=by
  intro i c hc
  rw [List.getElem?_map,qI]at hc
  obtain ⟨z,hz1,rfl⟩:=hc
  have hi:=zb7 hz1
  simp only[List.length_take]at hi
  rw [List.getElem?_take_of_lt (by omega)]at hz1
  refine ⟨by omega,?_⟩
  rw [List.getD_eq_getElem?_getD,hz1,Option.getD_some]
  have hw:=hwf z (List.mem_of_getElem? hz1)
  have hz8:0≤z∧z<256:=by
   have e:IntKind.u8.min≤z∧z≤IntKind.u8.max:=by simpa [Lit.wf] using hw
   have e1:IntKind.u8.min=0:=by decide
   have e2:IntKind.u8.max=255:=by decide
   omega
  have e3:(UInt8.ofNat z.toNat).toNat=z.toNat % 256:=rfl
  rw [e3]
  omega
 refine ⟨(zs.take len).map fun n:Int=>UInt8.ofNat n.toNat,?_,by rw [hlen]; omega⟩
 rw [hlen]
 refine .sl _ _ b off cap (fun i => .int .u8 (zs.getD i 0)) (fun _=>hlt) hl (fun i q hq=>?_) (fun i q hq=>?_)
 ·rw [List.getElem?_map,qI]at hq
  obtain ⟨c,hc,rfl⟩:=hq
  obtain ⟨hi,-⟩:=hget i c hc
  refine ⟨rfl,?_⟩
  rw [← zgt]
  have:=hcell i (by omega)
  rwa [add_lit]at this
 rw [List.getElem?_map,qI]at hq
 obtain ⟨c,hc,rfl⟩:=hq
 obtain ⟨-,e⟩:=hget i c hc
 show VI _ _ (.int .u8 (c.toNat:Int)) _
 rw [e]
 exact .int _ _
end
section
section
variable {P:Program} {T:Tab} {F:Nat→Prop} {G:GSt} {w:World} {e:Env} {a:Act} {F0:Nat→Prop} {G0:GSt} {w0:World} {N:Nat}
theorem z95 (hT:zb2 P T) (hi:Inv F G w) (he:zff w.heap F G e a) {o:Oper} {s d el:TypeId} {x:Operand} {str:List UInt8} (hop:o.op = .convert s d x) (hs:(T s).kd = .str) (hd:(T d).kd = .slice el) (hu8:(T el).kd = .int .u8)
  (hx0:e.ev x = .str str) (hlen63:str.length≤1048576) {K:PV→Store→Prop} (h:K (.loc G.er.obs.length G.er.tick 0 str.length) (G.er.push el 1 (str.map eB))) {next:Act→World→Prop} {Q:Exit→Act→World→Prop}
  (hk:Goes F G w K fun cv w'=>next (a.put o.dst cv) w'):o.wp P a w next Q:=by
 have hx:=he.ev x
 rw [hx0]at hx
 obtain ⟨b,ex,hb⟩:=hx.str
 have hr:(execOp a.eval o).run P w = .ok (.value (.slice (some ⟨w.heap.size,0,none⟩) b.size (grownCap w b.size 0 el))) (Lib.bytesWorld w el b):=by
  simp only[execOp,hop,ex]
  rw [Sem.run_bind,Lib.run_convert_string_bytes w s d el b (zix hT hs) (zct hT hd) (zkr hT hu8)]
  rfl
 have hlen:str.length=b.size:=by rw [← hb]; simp
 have hsz:(Lib.bytesWorld w el b).heap.size=w.heap.size+1:=Lib.bytesWorld_size w el b
 have hge:=grownCap_ge w b.size 0 el
 have hcs:(Lib.bytesCells w el b).size=grownCap w b.size 0 el:=by
  simp [Lib.bytesCells]; omega
 have hpush:(Lib.bytesWorld w el b).heap=w.heap.push (.cells (Lib.bytesCells w el b) el ((Lib.bytesCells w el b).size,(Lib.bytesCells w el b).size+1)):=by
  apply Array.ext_getElem?
  intro j
  rw [Array.getElem?_push]
  by_cases hj:j=w.heap.size
  ·subst hj; rw [if_pos rfl]; exact Lib.bytesWorld_at_new w el b
  rw [if_neg hj]
  by_cases hj2:j<w.heap.size
  ·exact Lib.bytesWorld_at_old w el b j hj2
  rw [Array.getElem?_eq_none (by omega),Array.getElem?_eq_none (by omega)]
 obtain ⟨k1,k2⟩:=zph hi (.arr G.tick el 1 (str.map eB)) (Lib.bytesCells w el b).size (Lib.bytesWorld w el b) (w.drawn+1) rfl (Nat.le_succ _) ⟨_,hpush⟩ rfl
  ⟨_,⟨_,Lib.bytesWorld_at_new w el b,.inr (qR _)⟩,rfl,by show (str.map eB).length≤(Lib.bytesCells w el b).size; rw [List.length_map,hcs]; omega,fun i p hp=>by
   have hil:i<str.length:=by have:=(List.getElem?_eq_some_iff.1 hp).1; simpa using this
   rw [List.getElem?_map,List.getElem?_eq_getElem hil]at hp
   cases hp
   refine ⟨rfl,.int .u8 (str[i].toNat:Int),?_,.imm _ _ (.int _ _)⟩
   have:=Lib.bytesWorld_cell w el b i (by omega)
   simp only[World.cell?,Lib.bytesWorld_at_new,Option.isSome_none,qF,if_false]at this
   rw [this,hb,List.getD_eq_getElem?_getD,List.getElem?_eq_getElem hil]
   rfl⟩
 unfold Oper.wp
 rw [hr]
 refine hk (.loc G.er.obs.length G.er.tick 0 str.length) _ _ _ _ (by rw [zub]; exact h) k1 k2 ?_
 rw [hlen]
 exact zuo (et:=el) (sz:=1) (cells:=str.map eB) (l:=⟨w.heap.size,(Lib.bytesCells w el b).size⟩) _ _ _ (by simp) (Nat.lt_succ_self _) rfl hge (grownCap_le_maxLen w _ _ _ (by unfold maxLen; omega)) (by rw [Nat.mul_one]; exact hcs.symm)
def zz2 (P:Program) (T:Tab) (ops:Array Oper) (Q:Env→Store→Prop):Nat→List Oper→Env→Store→Prop
 | _,[],e,S=>Q e S
 | 0,o::l,e,S=>∃ (s d el:TypeId) (x:Operand) (str:List UInt8),o.guard=none∧o.op = .convert s d x∧(T s).kd = .str∧(T d).kd = .slice el∧(T el).kd = .int .u8∧e.ev x = .str str∧str.length≤1048576 ∧
   z2e P T ops Q l (e.put o.dst (.loc S.obs.length S.tick 0 str.length)) (S.push el 1 (str.map eB))
 | k+1,o::l,e,S=>o.guard=none∧pOp P T e S o.op fun v S'=>zz2 P T ops Q k l (e.put o.dst v) S'
theorem zq0 {R:Option Nat} {nn:Nat} (hT:zb2 P T) {ops:Array Oper} {Q:Env→Store→Prop}:∀ (k:Nat) (l:List Oper) {e:Env} {F:Nat→Prop} {G:GSt} {a:Act} {w:World},zz2 P T ops Q k l e G.er→Inv F G w→zff w.heap F G e a →
  Next F0 G0 w0 F G w→a.tmps.size=N→Marks w0 a.defers w→(∀ o∈l,∀ d,o.dst=some d→d<N)→wpListIn (fnc R) nn P ops (Sto F0 G0 w0 N (Nrm Q)) l a w
 | _,[],e,F,G,a,w,h,hi,he,hn,hs,hd,_=>by
  have h':Q e G.er:=by unfold zz2 at h; exact h
  exact ⟨e,F,G,h',hi,he,hn,hs,hd⟩
 | 0,o::l,e,F,G,a,w,h,hi,he,hn,hs,hd,hdst=>by
  have ho:∀ t,o.dst=some t→t<a.tmps.size:=fun t ht=>by rw [hs]; exact hdst o (by simp) t ht
  have hl:∀ o∈l,∀ d,o.dst=some d→d<N:=fun o' h'=>hdst o' (by simp [h'])
  unfold zz2 at h
  obtain ⟨s,d,el,x,str,hg,hop,q1,q2,q3,q4,q5,h⟩:=h
  unfold wpListIn
  have hw:Region.wanted o (yielded ops a.tmps)=true:=by unfold Region.wanted; rw [hg]
  rw [if_pos hw]
  refine ygu (by rw [hop]; intro c q; cases q) (z95 hT hi he hop q1 q2 q3 q4 q5 (K:=fun v S'=>v = .loc G.er.obs.length G.er.tick 0 str.length∧S'=G.er.push el 1 (str.map eB)) ⟨rfl,rfl⟩ ?_)
  rintro v cv F' G' w' ⟨rfl,hE⟩ i1 i2 i3
  refine zj4 hT l (by rw [hE]; exact h) i1 ((he.next hi i2).put _ ho i3) (hn.trans i2) (by rw [ze5]; exact hs) (by rw [zc8]; exact hd.next hi i2) hl
 | k+1,o::l,e,F,G,a,w,h,hi,he,hn,hs,hd,hdst=>by
  have ho:∀ t,o.dst=some t→t<a.tmps.size:=fun t ht=>by rw [hs]; exact hdst o (by simp) t ht
  have hl:∀ o∈l,∀ d,o.dst=some d→d<N:=fun o' h'=>hdst o' (by simp [h'])
  unfold zz2 at h
  obtain ⟨hg,h⟩:=h
  unfold wpListIn
  have hw:Region.wanted o (yielded ops a.tmps)=true:=by unfold Region.wanted; rw [hg]
  rw [if_pos hw]
  refine zin hT hi he h ?_
  intro v cv F' G' w' hK i1 i2 i3
  exact zq0 hT k l hK i1 ((he.next hi i2).put _ ho i3) (hn.trans i2) (by rw [ze5]; exact hs) (by rw [zc8]; exact hd.next hi i2) hl
end
section
variable {P:Program} {T:Tab} {Q:Exit→Env→Store→Prop} {e:Env} {S:Store} {b:Code}
theorem W.region_t (k:Nat) {id:Nat} {ops:Array Oper} (h:zz2 P T ops (Q .normal) k ops.toList e S):W P T (.region id ops false) Q e S:=by
 refine ⟨?_⟩
 intro hT hm F0 G0 w0 N F G a w h3 h4 h5 h6 h7 h8 h9 R nn
 subst h3
 refine wpIn_mono (wpIn_region_list (zq0 hT k _ h h4 h5 h6 h7 h8 (zp1 h9))) ?_
 exact zxf
def yg0 (P:Program) (T:Tab) (ds:List (Option Tmp)) (o:Oper) (l:List Oper) (e:Env) (S:Store) (K:Env→Store→Prop):Prop :=
 ∃ (s d el:TypeId) (x:Operand) (str:List UInt8),o.guard=none∧o.op = .convert s d x∧(T s).kd = .str∧(T d).kd = .slice el∧(T el).kd = .int .u8∧e.ev x = .str str∧str.length≤1048576 ∧
  zbv false P T ds l (e.put o.dst (.loc S.obs.length S.tick 0 str.length)) (S.push el 1 (str.map eB)) K
theorem zq1 {ops:Array Oper} {K K':Env→Store→Prop} (h:∀ e S,K e S→K' e S):∀ (l:List Oper) {e:Env} {S:Store},z2e P T ops K l e S→z2e P T ops K' l e S
 | [],e,S,k=>h e S k
 | o::l,e,S,k=>by
  unfold z2e zdh at k ⊢
  cases hg:gdec ops o e with
  | none=>rw [hg]at k; exact k.elim
  | some b =>
   rw [hg]at k
   cases b with
   | true=>exact zd7 (fun v S' k=>zq1 h l k) k
   | false=>exact zq1 h l k
theorem zxx {ops:Array Oper} {K:Env→Store→Prop} {o:Oper} {l2:List Oper}:∀ (l1:List Oper) {e:Env} {S:Store},l1.all (fun o=>o.guard.isNone)=true →
  z2e P T ops (fun e S=>∃ (s d el:TypeId) (x:Operand) (str:List UInt8),o.guard=none∧o.op = .convert s d x∧(T s).kd = .str∧(T d).kd = .slice el∧(T el).kd = .int .u8∧e.ev x = .str str∧str.length≤1048576 ∧
   z2e P T ops K l2 (e.put o.dst (.loc S.obs.length S.tick 0 str.length)) (S.push el 1 (str.map eB))) l1 e S→zz2 P T ops K l1.length (l1++o::l2) e S
 | [],e,S,_,h=>h
 | q::l1,e,S,hg,h=>by
  simp only[List.all_cons,qB,Option.isNone_iff_eq_none]at hg
  show q.guard=none∧_
  refine ⟨hg.1,?_⟩
  unfold z2e zdh gdec at h
  rw [hg.1]at h
  exact zd7 (fun v S' h=>zxx l1 hg.2 h) h
theorem W.seq_thaw {id:Nat} {l1 l2:List Oper} {o:Oper} (hg:l1.all (fun o=>o.guard.isNone)=true) (h:∀ K:Env→Store→Prop,(∀ e S,W P T b Q e S→K e S)→zbv false P T (dsts (l1++o::l2)) l1 e S fun e S=>yg0 P T (dsts (l1++o::l2)) o l2 e S K) :
  W P T (.seq (.region id (l1++o::l2).toArray false) b) Q e S:=by
 refine W.seq (W.region_t l1.length ?_)
 have h1:=zja l1 e S (h _ fun _ _ h=>h)
 refine zxx l1 hg (zq1 ?_ l1 h1)
 rintro e S ⟨s,d,el,x,str,q1,q2,q3,q4,q5,q6,q7,q8⟩
 exact ⟨s,d,el,x,str,q1,q2,q3,q4,q5,q6,q7,zja l2 _ _ q8⟩
end
end
abbrev eBy (l:Txt):PV := .sl (l.map eB) l.length
theorem z0l {a b:Nat}:((a:Nat):Int).tmod ((b:Nat):Int)=((a % b:Nat):Int):=(Int.ofNat_tmod a b).symm
theorem ye0 {a b:Nat}:((a:Nat):Int).tdiv ((b:Nat):Int)=((a / b:Nat):Int):=(Int.ofNat_tdiv a b).symm
theorem yhl {a b:Nat} (ha:a<1099511627776) (hb:b<1099511627776):IntKind.i64.wrap ((BitVec.ofInt IntKind.i64.bits (a:Int) ^^^ BitVec.ofInt IntKind.i64.bits (b:Int)).toNat:Int)=((a ^^^ b:Nat):Int):=by
 have h1:(BitVec.ofInt 64 (a:Int)).toNat=a:=by simp [BitVec.toNat_ofInt]; omega
 have h2:(BitVec.ofInt 64 (b:Int)).toNat=b:=by simp [BitVec.toNat_ofInt]; omega
 have h3:(BitVec.ofInt IntKind.i64.bits (a:Int) ^^^ BitVec.ofInt IntKind.i64.bits (b:Int)).toNat=a ^^^ b:=by
  show (BitVec.ofInt 64 (a:Int) ^^^ BitVec.ofInt 64 (b:Int)).toNat=_
  rw [BitVec.toNat_xor,h1,h2]
 have h4:a ^^^ b<1099511627776:=Nat.xor_lt_two_pow (n:=40) ha hb
 rw [h3]
 exact w64 (by omega) (by omega)
theorem ygm {k:Nat}:((k:Nat):Int).tdiv 64=((k / 64:Nat):Int):=(Int.ofNat_tdiv k 64).symm
theorem sf0:((64:Int)=0)=False:=by simp
def rdO (vr:Nat) (code:Txt) (q:Nat):Ob := .arr vr 121 2 [eBy code,.int .i64 (q:Int)]
theorem z6r {code:Txt} (hc:code.length≤1048576):PN Tryz.prog 43 [eBy code] (.ref 0 0 0) [rdO 0 (code.take 2000) 0] true:=by
 refine PN.of ⟨Tryz.func43,by kernel_rfl,rfl,by kernel_rfl⟩ zar mixed (by show 1≤Tryz.f43.ntmps; decide) ?_
 refine W.r fun K hK=>?_
 simp(disch:=omega)only[↓RU,RV,RH,↓reduceIte,qE,reduceCtorEq,if_pos,↓RS,RG,qA,qM,qL]
 apply hK;clear hK K
 refine W.seq ?_
 refine W.r fun K hK=>?_
 simp(disch:=omega)only[↓RU,RV,RH,↓reduceIte,qE,reduceCtorEq,if_pos,w64,↓RS,RG,qA,qM,qL,ty6,zaa,zei]
 apply hK;clear hK K
 refine W.cond rfl (fun h=>?_) (fun h=>?_)
 ·try simp only[RL]at h
  refine W.k fun K hK=>?_
  simp(disch:=omega)only[↓RU,RV,RH,↓reduceIte,qE,reduceCtorEq,if_pos,Option.map_none,↓RS,RG,qA,qM,qL,ty6,zei]
  apply hK;clear hK K
  refine xn ?_
  refine W.r fun K hK=>?_
  simp(disch:=omega)only[↓RU,RV,RH,↓reduceIte,qE,reduceCtorEq,if_pos,↓RS,RG,qA,qM,qL,ty6,zaa,ybn,ybo,zei]
  apply hK;clear hK K
  refine W.ret ?_
  refine Br rfl ?_
  have e:(code.take 2000).length=2000:=by rw [List.length_take]; omega
  refine ⟨1,rfl,?_⟩
  simp [Store.take,zi4,zy8,sh,rdO,eBy,e,List.map_take]
 try simp only[RL]at h
 refine W.skip ?_
 refine xn ?_
 refine W.r fun K hK=>?_
 simp(disch:=omega)only[↓RU,RV,RH,↓reduceIte,qE,reduceCtorEq,if_pos,↓RS,RG,qA,qM,qL,ty6,zaa,ybn,ybo,zei]
 apply hK;clear hK K
 refine W.ret ?_
 refine Br rfl ?_
 have e:code.take 2000=code:=qT (by omega)
 refine ⟨1,rfl,?_⟩
 simp [Store.take,zi4,zy8,sh,rdO,eBy,e]
theorem yax {code:Txt} {q vr t:Nat} {R:List Ob} (hc:code.length≤1048576) (hq:q≤1000000) (n:Int) (hn:n≤1000000) (hn0 : -1000000≤n):Ev Tryz.prog 46 [.ref 0 vr 0,.int .i64 n] ⟨.arr vr 121 2 [eBy code,.int .i64 (q:Int)]::R,t⟩ fun v S=>∃ k:Nat,v = .int .i64 (k:Int)∧(n<1→k=0)∧(1≤n→(k:Int)<n)∧S=⟨.arr vr 121 2 [eBy code,.int .i64 ((q:Int)+1)]::R,t⟩:=by
 refine Ev.of ⟨Tryz.func46,by kernel_rfl,rfl,by kernel_rfl⟩ zar mixed (by show 2≤Tryz.f46.ntmps; decide) ?_
 refine W.r fun K hK=>?_
 simp(disch:=omega)only[↓RU,RV,RH,↓reduceIte,qE,reduceCtorEq,if_pos,↓RS,RG,qA,qM,qL]
 apply hK;clear hK K
 refine W.r fun K hK=>?_
 simp(disch:=omega)only[↓RU,RV,RH,↓reduceIte,qE,reduceCtorEq,if_pos,w64,↓RS,RG,qA,qM,qL,ty6,zaa,ybn,ybo,zei]
 apply hK;clear hK K
 refine W.seq ?_
 refine W.r fun K hK=>?_
 by_cases hn1:n<1
 ·skip
  have hd:decide (n<1)=true:=decide_eq_true hn1
  simp(disch:=omega)only[↓RU,RV,RH,↓reduceIte,qE,reduceCtorEq,if_pos,w64,↓RS,RG,qA,qM,qL,ty6,zaa,ybn,ybo,zei,hd]
  apply hK;clear hK K
  refine W.cond rfl (fun h0=>?_) (fun h0=>?_)
  ·try simp only[RL]at h0
   refine W.r fun K hK=>?_
   simp(disch:=omega)only[↓RU,RV,RH,↓reduceIte,qE,reduceCtorEq,if_pos,↓RS,RG,qA,qM,qL]
   apply hK;clear hK K
   refine W.ret ?_
   refine XThen.ret ?_
   refine Br rfl ?_
   exact ⟨_,0,rfl,fun _=>rfl,fun h9=>by omega,zak⟩
  try simp only[RL]at h0
  exact absurd h0 (by simp)
 skip
 have hd:decide (n<1)=false:=decide_eq_false hn1
 obtain ⟨m,rfl⟩:∃ m:Nat,n=m:=⟨n.toNat,by omega⟩
 simp(disch:=omega)only[↓RU,RV,RH,↓reduceIte,qE,reduceCtorEq,if_pos,w64,↓RS,RG,qA,qM,qL,ty6,zaa,ybn,ybo,zei,hd]
 apply hK;clear hK K
 refine W.cond rfl (fun h0=>?_) (fun h0=>?_)
 ·try simp only[RL]at h0
  have hl0:code.length=0:=by simpa using h0
  refine W.r fun K hK=>?_
  simp(disch:=omega)only[↓RU,RV,RH,↓reduceIte,qE,reduceCtorEq,if_pos,↓RS,RG,qA,qM,qL]
  apply hK;clear hK K
  refine W.ret ?_
  refine XThen.ret ?_
  refine Br rfl ?_
  exact ⟨_,0,rfl,fun _=>rfl,fun h9=>by omega,zak⟩
 try simp only[RL]at h0
 have hl0:code.length≠0:=by intro h9; rw [h9]at h0; simp at h0
 obtain ⟨L,hL⟩:∃ L:Nat,code.length=L:=⟨_,rfl⟩
 have hLi:((L:Int)=0)=False:=by simp; omega
 have hmi:((m:Int)=0)=False:=by simp; omega
 rw [hL]at hl0 hc
 refine W.skip ?_
 refine xn ?_
 refine W.r fun K hK=>?_
 simp(disch:=omega)only[↓RU,RV,RH,↓reduceIte,qE,reduceCtorEq,if_pos,w64,↓RS,RG,qA,qM,qL,ty6,zaa,ybn,ybo,zei]
 apply hK;clear hK K
 simp only[show ((q:Int)+1 - 1)=(q:Int) from by omega]
 refine W.seq ?_
 refine W.r fun K hK=>?_
 simp(disch:=omega)only[↓RU,RV,RH,↓reduceIte,qE,reduceCtorEq,if_pos,w64,↓RS,RG,qA,qM,qL,ty6,zaa,ybn,ybo,zei,hL]
 apply hK;clear hK K
 refine W.cond rfl (fun h1=>?_) (fun h1=>?_)
 ·try simp only[RL]at h1
  obtain ⟨c,hcq,-⟩:=zag (show q<code.length by omega)
  have hc8:=c.toNat_lt
  refine W.r fun K hK=>?_
  simp(disch:=omega)only[↓RU,RV,RH,↓reduceIte,qE,reduceCtorEq,if_pos,w64,w64,↓RS,RG,qA,qM,qL,ty6,zaa,ybn,ybo,zei,hcq,hmi,z0l]
  apply hK;clear hK K
  refine W.ret ?_
  refine XThen.ret ?_
  refine Br rfl ?_
  exact ⟨_,_,rfl,fun h9=>by omega,fun _=>by have:=Nat.mod_lt c.toNat (show 0<m by omega); omega,zak⟩
 try simp only[RL]at h1
 obtain ⟨c1,hc1,-⟩:=zag (show q % L<code.length by rw [hL]; exact Nat.mod_lt _ (by omega))
 obtain ⟨c2,hc2,-⟩:=zag (show (q*7+3) % L<code.length by rw [hL]; exact Nat.mod_lt _ (by omega))
 have hb1:=c1.toNat_lt
 have hb2:=c2.toNat_lt
 have hq7:(q:Int)*7+3=((q*7+3:Nat):Int):=by omega
 obtain ⟨d,hd⟩:∃ d,q / L=d:=⟨_,rfl⟩
 have hqL:d≤q:=hd ▸ Nat.div_le_self _ _
 have hml1:=Nat.mod_lt q (show 0<L by omega)
 have hml2:=Nat.mod_lt (q*7+3) (show 0<L by omega)
 refine W.skip ?_
 refine xn ?_
 refine W.seq_draw (by kernel_rfl) fun K hK=>?_
 simp(disch:=omega)only[↓RU,RV,RH,↓reduceIte,qE,reduceCtorEq,if_pos,w64,w64,↓RS,RG,qA,qM,qL,ty6,zaa,ybn,ybo,zei,hL,hLi,z0l,ye0,hc1,hc2,hq7,hd]
 apply hK;clear hK K
 obtain ⟨Y,hY⟩:∃ Y:Nat,(c1.toNat:Int)*131+(c2.toNat:Int)*1117+(q:Int)*29+(d:Int)*53=Y:=⟨c1.toNat*131+c2.toNat*1117+q*29+d*53,by omega⟩
 have hYb:Y<1099511627776:=by omega
 have hYd:Y / 64<1099511627776:=by omega
 simp only[hY]
 refine W.r fun K hK=>?_
 simp(disch:=omega)only[↓RU,RV,RH,↓reduceIte,qE,reduceCtorEq,if_pos,w64,↓RS,RG,qA,qM,qL,zaa,sf0,ygm,yhl hYb hYd]
 apply hK;clear hK K
 refine W.r fun K hK=>?_
 simp(disch:=omega)only[↓RU,RV,RH,↓reduceIte,qE,reduceCtorEq,if_pos,w64,↓RS,RG,qA,qM,qL,zaa,hmi,z0l]
 apply hK;clear hK K
 refine W.ret ?_
 refine Br rfl ?_
 exact ⟨_,_,rfl,fun h9=>by omega,fun _=>by have:=Nat.mod_lt (Y ^^^ Y / 64) (show 0<m by omega); omega,zak⟩
section
structure Pl (c:Nat→Nat→Nat) (H W:Nat):Prop where
 rect:∀ {i j i' j':Nat} (k l:Nat),i<H→i'<H→j<W→j'<W→c i j=c i' j'→min i i'≤k→k≤max i i'→min j j'≤l→l≤max j j'→c k l=c i j
 plain:∀ {i j:Nat},i+1<H→j+1<W→c i j≠c i (j+1)→c (i+1) j≠c (i+1) (j+1)→c i j≠c (i+1) j→c i (j+1)=c (i+1) (j+1)
def DL (c:Nat→Nat→Nat) (H W a b:Nat):Prop:=∃ j i1 i2,j+1<W∧i1<H∧i2<H∧(∀ r,min i1 i2≤r→r≤max i1 i2→c r j≠c r (j+1))∧a=c i1 j∧b=c i2 (j+1)
def DU (c:Nat→Nat→Nat) (H W a b:Nat):Prop:=∃ i j1 j2,i+1<H∧j1<W∧j2<W∧(∀ k,min j1 j2≤k→k≤max j1 j2→c i k≠c (i+1) k)∧a=c i j1∧b=c (i+1) j2
theorem zpa {P:Nat→Prop}:∀ {n:Nat},P n→∃ m,m≤n∧P m∧∀ k,k<m→¬ P k:=by
 intro n
 induction n using Nat.strongRecOn with
 | _ n ih =>
  intro h
  by_cases c:∃ k,k<n∧P k
  ·obtain ⟨k,hk,hp⟩:=c
   obtain ⟨m,h1,h2,h3⟩:=ih k hk hp
   exact ⟨m,by omega,h2,h3⟩
  exact ⟨n,qR _,h,fun k hk hp=>c ⟨k,hk,hp⟩⟩
theorem zzn {P:Nat→Prop} {i:Nat}:∀ {n:Nat},i≤n→P i→¬ P n→∃ e,i≤e∧e+1≤n∧P e∧¬ P (e+1)
 | 0,h,h1,h2=>by
    obtain rfl:i=0:=by omega
    exact absurd h1 h2
 | n+1,h,h1,h2=>by
  by_cases c:P n
  ·by_cases e:i=n+1
   ·subst e; exact absurd h1 h2
   exact ⟨n,by omega,qR _,c,h2⟩
  by_cases e:i=n+1
  ·subst e; exact absurd h1 h2
  obtain ⟨m,k1,k2,k3⟩:=zzn (P:=P) (i:=i) (n:=n) (by omega) h1 c
  exact ⟨m,k1,by omega,k3⟩
section
variable {c:Nat→Nat→Nat} {H W:Nat}
def Stair (c:Nat→Nat→Nat) (H W:Nat) (Z:Nat→Prop):Prop:=∀ {i j:Nat} (i' j':Nat),i<H→j<W→i'≤i→j'≤j→Z (c i j)→Z (c i' j')
def Free (c:Nat→Nat→Nat) (H W:Nat) (Z:Nat→Prop):Prop:=∃ i j,i<H∧j<W∧¬ Z (c i j)∧(∀ a,DL c H W a (c i j)∨DU c H W a (c i j)→Z a)∧Stair c H W fun x=>Z x∨x=c i j
theorem z58 (h:Pl c H W) {Z:Nat→Prop} (hZ:Stair c H W Z) {i j:Nat} (hi:i<H) (hj:j<W) (hn:¬ Z (c i j)) (hu:∀ i',i'+1=i→Z (c i' j)) (hl:∀ j',j'+1=j→Z (c i j'))
  (hN:∀ i',i'+1=i→∀ k,j≤k→k<W→(∀ l,j≤l→l≤k→c i' l≠c i l)→Z (c i' k))
  (hA:∀ j',j'+1=j→∀ k,i≤k→k<H→(∀ r,i≤r→r≤k→c r j'≠c r j)→Z (c k j')):Free c H W Z:=by
 have up:∀ {i2 j2:Nat},i2<H→j2<W→c i2 j2=c i j→i≤i2:=by
  intro i2 j2 h1 h2 h3
  by_cases q:i≤i2
  ·exact q
  have h4:=hu (i - 1) (by omega)
  rw [h.rect (i - 1) j h1 hi h2 hj h3 (by omega) (by omega) (by omega) (by omega),h3]at h4
  exact absurd h4 hn
 have lf:∀ {i2 j2:Nat},i2<H→j2<W→c i2 j2=c i j→j≤j2:=by
  intro i2 j2 h1 h2 h3
  by_cases q:j≤j2
  ·exact q
  have h4:=hl (j - 1) (by omega)
  rw [h.rect i (j - 1) h1 hi h2 hj h3 (by omega) (by omega) (by omega) (by omega),h3]at h4
  exact absurd h4 hn
 have runL:∀ {i2 j2 r j':Nat},i2<H→j2<W→c i2 j2=c i j→j'+1=j→i≤r→r≤i2→c r j'≠c r j:=by
  intro i2 j2 r j' h1 h2 h3 h4 h5 h6 h7
  have h8:=lf h1 h2 h3
  have e1:c r j=c i j:=by
   rw [h.rect r j h1 hi h2 hj h3 (by omega) (by omega) (by omega) (by omega),h3]
  have h9:=lf (i2:=r) (j2:=j') (by omega) (by omega) (by rw [h7,e1])
  omega
 have runU:∀ {i2 j2 l i':Nat},i2<H→j2<W→c i2 j2=c i j→i'+1=i→j≤l→l≤j2→c i' l≠c i l:=by
  intro i2 j2 l i' h1 h2 h3 h4 h5 h6 h7
  have h8:=up h1 h2 h3
  have e1:c i l=c i j:=by
   rw [h.rect i l h1 hi h2 hj h3 (by omega) (by omega) (by omega) (by omega),h3]
  have h9:=up (i2:=i') (j2:=l) (by omega) (by omega) (by rw [h7,e1])
  omega
 refine ⟨i,j,hi,hj,hn,?_,?_⟩
 ·rintro a (⟨j0,i1,i2,k1,k2,k3,run,rfl,k4⟩ | ⟨i0,j1,j2,k1,k2,k3,run,rfl,k4⟩)
  ·have h1:=lf k3 k1 k4.symm
   have e:j0+1=j:=by
    by_cases q:j0+1=j
    ·exact q
    have:=h.rect i2 j0 k3 hi k1 hj k4.symm (by omega) (by omega) (by omega) (by omega)
    exact absurd this (run i2 (by omega) (by omega))
   subst e
   have h2:=up k3 k1 k4.symm
   by_cases q:i1<i
   ·exact hZ i1 j0 hi (by omega) (by omega) (qR _) (hl j0 rfl)
   refine hA j0 rfl i1 (by omega) k2 fun r r1 r2=>?_
   by_cases q2:min i1 i2≤r
   ·exact run r q2 (by omega)
   exact runL k3 k1 k4.symm rfl r1 (by omega)
  have h1:=up k1 k3 k4.symm
  have e:i0+1=i:=by
   by_cases q:i0+1=i
   ·exact q
   have:=h.rect i0 j2 k1 hi k3 hj k4.symm (by omega) (by omega) (by omega) (by omega)
   exact absurd this (run j2 (by omega) (by omega))
  subst e
  have h2:=lf k1 k3 k4.symm
  by_cases q:j1<j
  ·exact hZ i0 j1 (by omega) hj (qR _) (by omega) (hu i0 rfl)
  refine hN i0 rfl j1 (by omega) k2 fun r r1 r2=>?_
  by_cases q2:min j1 j2≤r
  ·exact run r q2 (by omega)
  exact runU k1 k3 k4.symm rfl r1 (by omega)
 intro i2 k2 i' j' h1 h2 h3 h4 h5
 rcases h5 with h5 | h5
 ·exact .inl (hZ i' j' h1 h2 h3 h4 h5)
 have q1:=up h1 h2 h5
 have q2:=lf h1 h2 h5
 by_cases q3:i'<i
 ·left
  refine hZ i' j' (show i - 1<H by omega) h2 (by omega) h4 (hN (i - 1) (by omega) k2 q2 h2 fun l l1 l2=>runU h1 h2 h5 (by omega) l1 l2)
 by_cases q4:j'<j
 ·left
  exact hZ i' j' h1 (show j - 1<W by omega) h3 (by omega) (hA (j - 1) (by omega) i2 q1 h1 fun r r1 r2=>runL h1 h2 h5 (by omega) r1 r2)
 right
 rw [h.rect i' j' h1 hi h2 hj h5 (by omega) (by omega) (by omega) (by omega),h5]
theorem z57 (h:Pl c H W) {Z:Nat→Prop} (hZ:Stair c H W Z):∀ (j i:Nat),i<H→j<W→¬ Z (c i j)→(∀ i',i'+1=i→Z (c i' j))→(∀ j',j'+1=j→Z (c i j')) →
  (∀ i',i'+1=i→∀ k,j≤k→k<W→(∀ l,j≤l→l≤k→c i' l≠c i l)→Z (c i' k))→Free c H W Z:=by
 intro j
 induction j using Nat.strongRecOn with
 | _ j ih =>
  intro i hi hj hn hu hl hN
  by_cases hA:∀ j',j'+1=j→∀ k,i≤k→k<H→(∀ r,i≤r→r≤k→c r j'≠c r j)→Z (c k j')
  ·exact z58 h hZ hi hj hn hu hl hN hA
  simp only[Classical.not_forall]at hA
  obtain ⟨j',rfl,k,h1,h2,run,h3⟩:=hA
  obtain ⟨e,e1,e2,e3,e4⟩:=zzn (P:=fun r=>Z (c r j')) h1 (hl j' rfl) h3
  obtain ⟨m,m1,m2,m3⟩:=zpa (P:=fun l=>¬ Z (c (e+1) l)) e4
  refine ih m (by omega) (e+1) (by omega) (by omega) m2 ?_ ?_ ?_
  ·intro i' hi'
   obtain rfl:i'=e:=by omega
   exact hZ i' m (by omega) (by omega) (qR _) m1 e3
  ·intro l hl'
   exact Classical.not_not.1 (m3 l (by omega))
  intro i' hi' k2 k3 k4 k5
  obtain rfl:i'=e:=by omega
  by_cases q:k2≤j'
  ·exact hZ i' k2 (by omega) (by omega) (qR _) q e3
  have q1:=k5 (j'+1) (by omega) (by omega)
  have q2:=h.plain (i:=i') (j:=j') (by omega) hj (run i' (by omega) (by omega)) (run (i'+1) (by omega) (by omega)) (fun q3=>e4 (by rw [← q3]; exact e3))
  exact absurd q2 q1
theorem ydm (h:Pl c H W) {Z:Nat→Prop} (hZ:Stair c H W Z) (hx:∃ i j,i<H∧j<W∧¬ Z (c i j)):Free c H W Z:=by
 obtain ⟨i,hx⟩:=hx
 obtain ⟨i,-,⟨j,h1,h2,h3⟩,h4⟩:=zpa (P:=fun i=>∃ j,i<H∧j<W∧¬ Z (c i j)) hx
 obtain ⟨j,j1,j2,j3⟩:=zpa (P:=fun j=>¬ Z (c i j)) h3
 have all:∀ i',i'+1=i→∀ k,k<W→Z (c i' k):=fun i' e k hk=>Classical.byContradiction fun q=>h4 i' (by omega) ⟨k,by omega,hk,q⟩
 exact z57 h hZ j i h1 (by omega) j2 (fun i' e=>all i' e j (by omega)) (fun j' e=>Classical.not_not.1 (j3 j' (by omega))) (fun i' e k _ hk _=>all i' e k hk)
theorem z36 (h:Pl c H W) {n:Nat} (hc:∀ i j,i<H→j<W→c i j<n):∀ (m:Nat) (Z:Nat→Bool),Stair c H W (fun x=>Z x=true)→(List.range n).countP (fun x => !Z x)≤m→∃ f:Nat→Nat,∀ a b,Z a=false→Z b=false→DL c H W a b∨DU c H W a b→f a<f b:=by
 have cell:∀ {a b:Nat},DL c H W a b∨DU c H W a b→∃ i j,i<H∧j<W∧a=c i j:=by
  rintro a b (⟨j0,i1,i2,k1,k2,k3,run,rfl,k4⟩ | ⟨i0,j1,j2,k1,k2,k3,run,rfl,k4⟩)
  ·exact ⟨i1,j0,k2,by omega,rfl⟩
  exact ⟨i0,j1,by omega,k2,rfl⟩
 intro m
 induction m with
 | zero =>
  intro Z hZ hm
  refine ⟨fun _=>0,fun a b ha hb hd=>?_⟩
  obtain ⟨i,j,hi,hj,rfl⟩:=cell hd
  have h0:(List.range n).countP (fun x => !Z x)=0:=by omega
  rw [List.countP_eq_zero]at h0
  exact absurd (show (!Z (c i j))=true by rw [ha]; rfl) (h0 _ (by simpa using hc i j hi hj))
 | succ m ih =>
  intro Z hZ hm
  by_cases hx:∃ i j,i<H∧j<W∧¬ (Z (c i j)=true)
  ·obtain ⟨i,j,hi,hj,hn,hp,hs⟩:=ydm h (Z:=fun x=>Z x=true) hZ hx
   have hZ':Stair c H W (fun x=>(Z x || x == c i j)=true):=by
    intro i1 j1 i' j' h1 h2 h3 h4 h5
    have h6:=hs i' j' h1 h2 h3 h4 (by simpa using h5)
    simpa using h6
   have hlt:(List.range n).countP (fun x => !(Z x || x == c i j))<(List.range n).countP (fun x => !Z x):=by
    refine zo2 (fun x _ hx=>?_) ⟨c i j,by simpa using hc i j hi hj,by simpa using hn,by simp⟩
    cases hz:Z x with
    | false=>rfl
    | true=>rw [hz]at hx; simp at hx
   obtain ⟨f,hf⟩:=ih (fun x=>Z x || x == c i j) hZ' (by omega)
   refine ⟨fun x=>if x=c i j then 0 else f x+1,fun a b ha hb hd=>?_⟩
   have hbA:b≠c i j:=by
    rintro rfl
    have q:Z a=true:=hp a hd
    rw [ha]at q; cases q
   simp only[if_neg hbA]
   by_cases haA:a=c i j
   ·simp only[if_pos haA]; omega
   simp only[if_neg haA]
   have:=hf a b (by simp [ha,haA]) (by simp [hb,hbA]) hd
   omega
  refine ⟨fun _=>0,fun a b ha hb hd=>?_⟩
  obtain ⟨i,j,hi,hj,rfl⟩:=cell hd
  exact absurd ⟨i,j,hi,hj,by rw [ha]; exact Bool.false_ne_true⟩ hx
theorem z13 (h:Pl c H W) {n:Nat} (hc:∀ i j,i<H→j<W→c i j<n):∃ f:Nat→Nat,∀ a b,DL c H W a b∨DU c H W a b→f a<f b:=by
 obtain ⟨f,hf⟩:=z36 h hc _ (fun _=>false) (fun _ _ _ _ _ _ h=>h) (qR _)
 exact ⟨f,fun a b hd=>hf a b rfl rfl hd⟩
def fl (c:Nat→Nat→Nat) (H i j:Nat):Nat:=c (H - 1 - i) j
def tr (c:Nat→Nat→Nat) (i j:Nat):Nat:=c j i
theorem Pl.dn (h:Pl c H W):Pl (fl c H) H W:=by
 refine ⟨fun k l h1 h2 h3 h4 h5 h6 h7 h8 h9=>?_,fun {i j} h1 h2 h3 h4 h5=>?_⟩
 ·exact h.rect _ _ (by omega) (by omega) h3 h4 h5 (by omega) (by omega) h8 h9
 unfold Fw.fl at *
 obtain ⟨k,rfl⟩:∃ k,H=i+2+k:=⟨H - (i+2),by omega⟩
 rw [show i+2+k - 1 - i=k+1 by omega,show i+2+k - 1 - (i+1)=k by omega] at *
 exact (h.plain (i:=k) (j:=j) (by omega) h2 h4 h3 (Ne.symm h5)).symm
theorem Pl.ex (h:Pl c H W):Pl (tr c) W H :=
 ⟨fun k l h1 h2 h3 h4 h5 h6 h7 h8 h9=>h.rect l k h3 h4 h1 h2 h5 h8 h9 h6 h7,fun {i j} h1 h2 h3 h4 h5=>by
  unfold Fw.tr at *
  by_cases q:c j i=c j (i+1)
  ·exact absurd q h5
  by_cases q2:c (j+1) i=c (j+1) (i+1)
  ·exact q2
  exact absurd (h.plain (i:=j) (j:=i) h2 h1 h5 q2 h3) h4⟩
theorem DL.ex {a b:Nat} (h:DL (tr c) W H a b):DU c H W a b:=h
theorem DU.ex {a b:Nat} (h:DU (tr c) W H a b):DL c H W a b:=h
theorem DL.dn {a b:Nat} (h:DL (fl c H) H W a b):DL c H W a b:=by
 obtain ⟨j,i1,i2,h1,h2,h3,run,rfl,rfl⟩:=h
 refine ⟨j,H - 1 - i1,H - 1 - i2,h1,by omega,by omega,fun r r1 r2=>?_,rfl,rfl⟩
 have:=run (H - 1 - r) (by omega) (by omega)
 unfold Fw.fl at this
 rwa [show H - 1 - (H - 1 - r)=r by omega]at this
theorem DL.unfl {a b:Nat} (h:DL c H W a b):DL (fl c H) H W a b:=by
 obtain ⟨j,i1,i2,h1,h2,h3,run,rfl,rfl⟩:=h
 refine ⟨j,H - 1 - i1,H - 1 - i2,h1,by omega,by omega,fun r r1 r2=>?_,?_,?_⟩
 ·exact run (H - 1 - r) (by omega) (by omega)
 ·unfold Fw.fl; rw [show H - 1 - (H - 1 - i1)=i1 by omega]
 unfold Fw.fl; rw [show H - 1 - (H - 1 - i2)=i2 by omega]
theorem DU.dn {a b:Nat} (h:DU (fl c H) H W a b):DU c H W b a:=by
 obtain ⟨i,j1,j2,h1,h2,h3,run,rfl,rfl⟩:=h
 refine ⟨H - 1 - (i+1),j2,j1,by omega,h3,h2,fun k k1 k2=>?_,?_,?_⟩
 ·have:=run k (by omega) (by omega)
  unfold Fw.fl at this
  rw [show H - 1 - (i+1)+1=H - 1 - i by omega]
  exact Ne.symm this
 ·rfl
 unfold Fw.fl; rw [show H - 1 - (i+1)+1=H - 1 - i by omega]
theorem DU.unfl {a b:Nat} (h:DU c H W a b):DU (fl c H) H W b a:=by
 obtain ⟨i,j1,j2,h1,h2,h3,run,rfl,rfl⟩:=h
 refine ⟨H - 1 - (i+1),j2,j1,by omega,h3,h2,fun k k1 k2=>?_,?_,?_⟩
 ·unfold Fw.fl
  rw [show H - 1 - (H - 1 - (i+1))=i+1 by omega,show H - 1 - (H - 1 - (i+1)+1)=i by omega]
  exact Ne.symm (run k (by omega) (by omega))
 ·unfold Fw.fl; rw [show H - 1 - (H - 1 - (i+1))=i+1 by omega]
 unfold Fw.fl; rw [show H - 1 - (H - 1 - (i+1)+1)=i by omega]
theorem z7k (h:Pl c H W) {n:Nat} (hc:∀ i j,i<H→j<W→c i j<n):∃ f:Nat→Nat,∀ a b,DL c H W a b∨DU c H W b a→f a<f b:=by
 obtain ⟨f,hf⟩:=z13 h.dn (n:=n) (fun i j hi hj=>hc _ j (by omega) hj)
 refine ⟨f,fun a b hd=>hf a b ?_⟩
 rcases hd with hd | hd
 ·exact .inl hd.unfl
 exact .inr hd.unfl
inductive TC (R:Nat→Nat→Prop):Nat→Nat→Prop
 | one {a b:Nat}:R a b→TC R a b
 | tail {a b d:Nat}:TC R a b→R b d→TC R a d
theorem TC.mono {R S:Nat→Nat→Prop} (h:∀ a b,R a b→S a b) {a b:Nat} (k:TC R a b):TC S a b:=by
 induction k with
 | one k=>exact .one (h _ _ k)
 | tail _ k ih=>exact .tail ih (h _ _ k)
theorem TC.trans {R:Nat→Nat→Prop} {a b d:Nat} (h:TC R a b) (k:TC R b d):TC R a d:=by
 induction k with
 | one k=>exact .tail h k
 | tail _ k ih=>exact .tail ih k
theorem TC.rev {R S:Nat→Nat→Prop} (h:∀ a b,R a b→S b a) {a b:Nat} (k:TC R a b):TC S b a:=by
 induction k with
 | one k=>exact .one (h _ _ k)
 | tail _ k ih=>exact (TC.one (h _ _ k)).trans ih
theorem TC.last {R:Nat→Nat→Prop} {a b:Nat} (h:TC R a b):∃ x,(x=a∨TC R a x)∧R x b:=by
 cases h with
 | one k=>exact ⟨a,.inl rfl,k⟩
 | tail h k=>exact ⟨_,.inr h,k⟩
theorem TC.rise {R:Nat→Nat→Prop} {f:Nat→Nat} (h:∀ a b,R a b→f a<f b) {a b:Nat} (k:TC R a b):f a<f b:=by
 induction k with
 | one k=>exact h _ _ k
 | tail _ k ih=>exact Nat.lt_trans ih (h _ _ k)
theorem zkc {i:Nat} (hi:i<H) {j1:Nat}:∀ {j2:Nat},j1≤j2→j2<W→c i j1≠c i j2→TC (DL c H W) (c i j1) (c i j2)
 | 0,h1,_,h3=>by
    obtain rfl:j1=0:=by omega
    exact absurd rfl h3
 | j2+1,h1,h2,h3=>by
  by_cases e:j1=j2+1
  ·subst e; exact absurd rfl h3
  by_cases q:c i j2=c i (j2+1)
  ·rw [← q]at h3 ⊢
   exact zkc hi (by omega) (by omega) h3
  have hd:DL c H W (c i j2) (c i (j2+1)):=⟨j2,i,i,h2,hi,hi,fun r r1 r2=>by
  obtain rfl:r=i:=by omega
  exact q,rfl,rfl⟩
  by_cases q2:c i j1=c i j2
  ·rw [q2]; exact .one hd
  exact .tail (zkc hi (by omega) (by omega) q2) hd
theorem z94 {j:Nat} (hj:j<W) {i1 i2:Nat} (h1:i1≤i2) (h2:i2<H) (h3:c i1 j≠c i2 j):TC (DU c H W) (c i1 j) (c i2 j) :=
 (zkc (c:=tr c) (H:=W) (W:=H) hj h1 h2 h3).mono fun _ _ h=>h.ex
theorem pass (h:Pl c H W) {r q A:Nat} (hr:r+1<H) (hq:q+1<W) (hNP:c r q=c (r+1) q) (hP:c (r+1) q≠c (r+1) (q+1)) (hQ:c r (q+1)≠c (r+1) (q+1))
  (h1:c (r+1) q=A∨TC (DL c H W) A (c (r+1) q)∨TC (DU c H W) A (c (r+1) q)) (h2:c r (q+1)=A∨TC (DL c H W) A (c r (q+1))∨TC (DU c H W) A (c r (q+1))) :
  TC (DL c H W) A (c (r+1) (q+1))∨TC (DU c H W) A (c (r+1) (q+1)):=by
 have hNQ:c r q≠c r (q+1):=by
  intro e
  have:=h.rect (i:=r+1) (j:=q) (i':=r) (j':=q+1) (r+1) (q+1) hr (by omega) (by omega) hq (by rw [← hNP,e]) (by omega) (by omega) (by omega) (by omega)
  exact hP this.symm
 have dP:DL c H W (c (r+1) q) (c (r+1) (q+1)):=⟨q,r+1,r+1,hq,hr,hr,fun x x1 x2=>by
    obtain rfl:x=r+1:=by omega
    exact hP,rfl,rfl⟩
 have dQ:DU c H W (c r (q+1)) (c (r+1) (q+1)):=⟨r,q+1,q+1,hr,hq,hq,fun x x1 x2=>by
    obtain rfl:x=q+1:=by omega
    exact hQ,rfl,rfl⟩
 rcases h1 with rfl | h1 | h1
 ·exact .inl (.one dP)
 ·exact .inl (.tail h1 dP)
 rcases h2 with rfl | h2 | h2
 ·exact .inr (.one dQ)
 ·left
  obtain ⟨x,hx,j0,i1,i2,k1,k2,k3,run,rfl,k4⟩:=h2.last
  have e:j0=q:=by
   by_cases q1:j0<q
   ·have:=h.rect r q k3 (show r<H by omega) k1 hq k4.symm (by omega) (by omega) (by omega) (by omega)
    rw [← k4]at this
    exact absurd this hNQ
   by_cases q2:q<j0
   ·have:=h.rect i2 j0 k3 (show r<H by omega) k1 hq k4.symm (by omega) (by omega) (by omega) (by omega)
    exact absurd this (run i2 (by omega) (by omega))
   omega
  subst e
  have hd:DL c H W (c i1 j0) (c (r+1) (j0+1)):=by
   refine ⟨j0,i1,r+1,hq,k2,hr,fun x x1 x2=>?_,rfl,rfl⟩
   by_cases q1:min i1 i2≤x∧x≤max i1 i2
   ·exact run x q1.1 q1.2
   by_cases q2:x=r+1
   ·subst q2; exact hP
   intro q3
   have e1:=h.rect x (j0+1) k3 (show r<H by omega) k1 hq k4.symm (by omega) (by omega) (by omega) (by omega)
   rw [← k4]at e1
   have e2:=h.rect (i:=x) (j:=j0) (i':=r) (j':=j0+1) r j0 (by omega) (by omega) (by omega) hq (by rw [q3,e1]) (by omega) (by omega) (by omega) (by omega)
   rw [q3,e1]at e2
   exact hNQ e2
  rcases hx with hx | hx
  ·rw [hx]at hd; exact .one hd
  exact .tail hx hd
 exact .inr (.tail h2 dQ)
theorem z0w (h:Pl c H W) {x y:Nat}:∀ (s:Nat) {i j:Nat},i+j≤s→x≤i→y≤j→i<H→j<W→c x y≠c i j→TC (DL c H W) (c x y) (c i j)∨TC (DU c H W) (c x y) (c i j):=by
 intro s
 induction s with
 | zero =>
  intro i j h1 h2 h3 h4 h5 h6
  obtain rfl:i=0:=by omega
  obtain rfl:j=0:=by omega
  obtain rfl:x=0:=by omega
  obtain rfl:y=0:=by omega
  exact absurd rfl h6
 | succ s ih =>
  intro i j h1 h2 h3 h4 h5 h6
  by_cases e1:x=i
  ·subst e1; exact .inl (zkc h4 h3 h5 h6)
  by_cases e2:y=j
  ·subst e2; exact .inr (z94 h5 h2 h4 h6)
  obtain ⟨r,rfl⟩:∃ r,i=r+1:=⟨i - 1,by omega⟩
  obtain ⟨q,rfl⟩:∃ q,j=q+1:=⟨j - 1,by omega⟩
  by_cases e3:c r (q+1)=c (r+1) (q+1)
  ·rw [← e3]at h6 ⊢
   exact ih (by omega) (by omega) h3 (by omega) h5 h6
  by_cases e4:c (r+1) q=c (r+1) (q+1)
  ·rw [← e4]at h6 ⊢
   exact ih (by omega) h2 (by omega) h4 (by omega) h6
  have iP:c (r+1) q=c x y∨TC (DL c H W) (c x y) (c (r+1) q)∨TC (DU c H W) (c x y) (c (r+1) q):=by
   by_cases k:c x y=c (r+1) q
   ·exact .inl k.symm
   exact .inr (ih (by omega) h2 (by omega) h4 (by omega) k)
  have iQ:c r (q+1)=c x y∨TC (DL c H W) (c x y) (c r (q+1))∨TC (DU c H W) (c x y) (c r (q+1)):=by
   by_cases k:c x y=c r (q+1)
   ·exact .inl k.symm
   exact .inr (ih (by omega) (by omega) h3 (by omega) h5 k)
  by_cases hNP:c r q=c (r+1) q
  ·exact pass h h4 h5 hNP e4 e3 iP iQ
  by_cases hNQ:c r q=c r (q+1)
  ·have:=pass (c:=tr c) (H:=W) (W:=H) h.ex (r:=q) (q:=r) (A:=c x y) h5 h4 hNQ e3 e4 ?_ ?_
   ·rcases this with k | k
    ·exact .inr (k.mono fun _ _ h=>h.ex)
    exact .inl (k.mono fun _ _ h=>h.ex)
   ·rcases iQ with k | k | k
    ·exact .inl k
    ·exact .inr (.inr k)
    exact .inr (.inl k)
   rcases iP with k | k | k
   ·exact .inl k
   ·exact .inr (.inr k)
   exact .inr (.inl k)
  exact absurd (h.plain h4 h5 hNQ e4 hNP) e3
theorem zvm (h:Pl c H W) {x y i j:Nat} (hx:x<H) (hy:y<W) (hi:i<H) (hj:j<W) (hne:c x y≠c i j) :
  TC (DL c H W) (c x y) (c i j)∨TC (DL c H W) (c i j) (c x y)∨TC (DU c H W) (c x y) (c i j)∨TC (DU c H W) (c i j) (c x y):=by
 have key:∀ {x y i j:Nat},x<H→y<W→i<H→j<W→c x y≠c i j→x≤i→TC (DL c H W) (c x y) (c i j)∨TC (DL c H W) (c i j) (c x y)∨TC (DU c H W) (c x y) (c i j)∨TC (DU c H W) (c i j) (c x y):=by
  intro x y i j hx hy hi hj hne hle
  by_cases q:y≤j
  ·rcases z0w h _ (qR _) hle q hi hj hne with k | k
   ·exact .inl k
   exact .inr (.inr (.inl k))
  have e1:fl c H (H - 1 - i) j=c i j:=by unfold fl; rw [show H - 1 - (H - 1 - i)=i by omega]
  have e2:fl c H (H - 1 - x) y=c x y:=by unfold fl; rw [show H - 1 - (H - 1 - x)=x by omega]
  have:=z0w h.dn (x:=H - 1 - i) (y:=j) _ (i:=H - 1 - x) (j:=y) (qR _) (by omega) (by omega) (by omega) hy (by rw [e1,e2]; exact Ne.symm hne)
  rw [e1,e2]at this
  rcases this with k | k
  ·exact .inr (.inl (k.mono fun _ _ h=>h.dn))
  exact .inr (.inr (.inl (k.rev fun _ _ h=>h.dn)))
 by_cases q:x≤i
 ·exact key hx hy hi hj hne q
 rcases key hi hj hx hy (Ne.symm hne) (by omega) with k | k | k | k
 ·exact .inr (.inl k)
 ·exact .inl k
 ·exact .inr (.inr (.inr k))
 exact .inr (.inr (.inl k))
end
end
section
section
variable {n:Nat} {M:List (List Bool)}
theorem absorb {p q:Bool}:(p || (q && p))=p:=by cases p <;> cases q <;> rfl
theorem z5r (h:Sq n M) {k:Nat} (hk:k<n):∀ i,i≤n→Sq n ((List.range i).foldl (clA n k) M) ∧
  ∀ x y,x<n→y<n→zc2 ((List.range i).foldl (clA n k) M) x y=if x<i then zc2 M x y || (zc2 M x k && zc2 M k y) else zc2 M x y
 | 0,_=>⟨h,fun x y _ _=>by simp⟩
 | i+1,hi=>by
  obtain ⟨h1,h2⟩:=z5r h hk i (by omega)
  rw [zcv]
  generalize (List.range i).foldl (clA n k) M=X at h1 h2 ⊢
  obtain ⟨h3,h4⟩:=z04 h1 hk (show i<n by omega) n (qR _)
  refine ⟨h3,fun x y hx hy=>?_⟩
  unfold clA
  rw [h4 x y hx hy]
  by_cases e:x=i
  ·subst e
   have e1:zc2 X x y=zc2 M x y:=by rw [h2 x y hx hy,if_neg (Nat.lt_irrefl _)]
   have e2:zc2 X x k=zc2 M x k:=by rw [h2 x k hx hk,if_neg (Nat.lt_irrefl _)]
   have e3:zc2 X k y=zc2 M k y:=by
    rw [h2 k y hk hy]
    split
    ·exact absorb
    rfl
   rw [if_pos ⟨rfl,hy⟩,if_pos (by omega),e1,e2,e3]
  rw [if_neg (fun q=>e q.1),h2 x y hx hy]
  by_cases e2:x<i
  ·rw [if_pos e2,if_pos (by omega)]
  rw [if_neg e2,if_neg (by omega)]
theorem ydc (h:Sq n M) {k:Nat} (hk:k<n) {x y:Nat} (hx:x<n) (hy:y<n):zc2 (clK n M k) x y=(zc2 M x y || (zc2 M x k && zc2 M k y)):=by
 have:=(z5r h hk n (qR _)).2 x y hx hy
 rw [if_pos hx]at this
 exact this
theorem z07 (h:Sq n M):∀ i,i≤n→Sq n ((List.range i).foldl (clK n) M) ∧
  (∀ a b,a<n→b<n→zc2 M a b=true→zc2 ((List.range i).foldl (clK n) M) a b=true) ∧
  (∀ m a b,m<i→a<n→b<n→zc2 ((List.range i).foldl (clK n) M) a m=true→zc2 ((List.range i).foldl (clK n) M) m b=true→zc2 ((List.range i).foldl (clK n) M) a b=true) ∧
  (∀ T:Nat→Nat→Prop,(∀ a b d,T a b→T b d→T a d)→(∀ a b,a<n→b<n→zc2 M a b=true→T a b)→∀ a b,a<n→b<n→zc2 ((List.range i).foldl (clK n) M) a b=true→T a b)
 | 0,_=>⟨h,fun a b _ _ k=>k,fun m a b k=>by omega,fun T _ k=>k⟩
 | i+1,hi=>by
  obtain ⟨h1,h2,h3,h4⟩:=z07 h i (by omega)
  rw [zcv]
  generalize (List.range i).foldl (clK n) M=X at h1 h2 h3 h4 ⊢
  have hin:i<n:=by omega
  have g:∀ {x y:Nat},x<n→y<n→(zc2 (clK n X i) x y=true↔zc2 X x y=true∨(zc2 X x i=true∧zc2 X i y=true)):=by
   intro x y hx hy
   rw [ydc h1 hin hx hy]; simp
  refine ⟨(z5r h1 hin n (qR _)).1,fun a b ha hb k=>(g ha hb).2 (.inl (h2 a b ha hb k)),fun m a b hm ha hb k1 k2=>?_,fun T tr hT a b ha hb k=>?_⟩
  ·have hmn:m<n:=by omega
   rw [g ha hmn]at k1
   rw [g hmn hb]at k2
   rw [g ha hb]
   by_cases e:m=i
   ·subst e
    rcases k1 with k1 | k1 <;> rcases k2 with k2 | k2
    ·exact .inr ⟨k1,k2⟩
    ·exact .inr ⟨k1,k2.2⟩
    ·exact .inr ⟨k1.1,k2⟩
    exact .inr ⟨k1.1,k2.2⟩
   have hmi:m<i:=by omega
   rcases k1 with k1 | k1 <;> rcases k2 with k2 | k2
   ·exact .inl (h3 m a b hmi ha hb k1 k2)
   ·exact .inr ⟨h3 m a i hmi ha hin k1 k2.1,k2.2⟩
   ·exact .inr ⟨k1.1,h3 m i b hmi hin hb k1.2 k2⟩
   exact .inr ⟨k1.1,k2.2⟩
  rw [g ha hb]at k
  rcases k with k | k
  ·exact h4 T tr hT a b ha hb k
  exact tr a i b (h4 T tr hT a i ha hin k.1) (h4 T tr hT i b hin hb k.2)
def MR (n:Nat) (M:List (List Bool)) (a b:Nat):Prop:=a<n∧b<n∧zc2 M a b=true
theorem z06 (h:Sq n M) {a b:Nat} (ha:a<n) (hb:b<n):zc2 (zf9 M) a b=true↔TC (MR n M) a b:=by
 obtain ⟨h1,h2,h3,h4⟩:=z07 h n (qR _)
 have e:zf9 M=(List.range n).foldl (clK n) M:=by unfold zf9; rw [h.1]
 rw [e]
 constructor
 ·exact h4 (TC (MR n M)) (fun _ _ _ p q=>p.trans q) (fun a b ha hb k => .one ⟨ha,hb,k⟩) a b ha hb
 intro k
 induction k with
 | one k=>exact h2 _ _ k.1 k.2.1 k.2.2
 | tail _ k ih=>exact h3 _ _ _ k.1 ha k.2.1 (ih k.1) (h2 _ _ k.1 k.2.1 k.2.2)
end
def Cov (ws:List Wall) (level:Bool) (line i1 i2:Nat):Prop:=∃ w∈ws,w.level=level∧w.line=line∧w.fr≤i1∧(i2:Int)<w.fr+w.long
theorem Cov.app {ws vs:List Wall} {level:Bool} {line i1 i2:Nat} (h:Cov ws level line i1 i2):Cov (ws++vs) level line i1 i2:=by
 obtain ⟨w,hw,k⟩:=h
 exact ⟨w,List.mem_append_left _ hw,k⟩
theorem Cov.long {ws:List Wall} {w:Wall} {level:Bool} {line i1 i2:Nat} (h:Cov (ws++[w]) level line i1 i2):Cov (ws++[{ w with long:=w.long+1 }]) level line i1 i2:=by
 obtain ⟨v,hv,k1,k2,k3,k4⟩:=h
 rcases List.mem_append.1 hv with hv | hv
 ·exact ⟨v,List.mem_append_left _ hv,k1,k2,k3,k4⟩
 rw [List.mem_singleton]at hv
 subst hv
 exact ⟨_,List.mem_append_right _ (List.mem_singleton.2 rfl),k1,k2,k3,by simp only; omega⟩
def Run (g:List (List Int)) (level:Bool) (line i1 i2:Nat):Prop:=∀ j,i1≤j→j≤i2→zij g level line j=true
theorem ztx {g:List (List Int)} {level:Bool} {line:Nat} {ws:List Wall}:∀ n,(∀ lv ln i1 i2,Cov ws lv ln i1 i2→Cov (zcg g level line ws n).1 lv ln i1 i2) ∧
  (∀ i1 i2,i1≤i2→i2<n→Run g level line i1 i2→Cov (zcg g level line ws n).1 level line i1 i2) ∧
  ((zcg g level line ws n).2=false→∀ m,n=m+1→zij g level line m=false) ∧
  ((zcg g level line ws n).2=true→∃ (ws0:List Wall) (w:Wall),(zcg g level line ws n).1=ws0++[w]∧w.level=level∧w.line=(line:Int)∧w.fr+w.long=(n:Int)∧1≤w.long∧∀ i:Nat,i<n→Run g level line i (n - 1)→w.fr≤(i:Int))
 | 0=>by
  rw [zls]
  exact ⟨fun _ _ _ _ h=>h,fun i1 i2 _ h=>by omega,fun _ m h=>by omega,fun h=>by cases h⟩
 | n+1=>by
  obtain ⟨h1,h2,h3,h4⟩:=ztx (g:=g) (level:=level) (line:=line) (ws:=ws) n
  rw [zd9]
  generalize zcg g level line ws n=s at h1 h2 h3 h4
  obtain ⟨l,op⟩:=s
  simp only at h1 h2 h3 h4
  cases hd:zij g level line n with
  | false =>
   have e:zep false level line n (l,op)=(l,false):=by simp [zep]
   rw [e]
   refine ⟨h1,fun i1 i2 k1 k2 k3=>?_,fun _ m hm=>(by have e0:m=n:=(by omega); rw [e0]; exact hd),fun h=>by cases h⟩
   by_cases e2:i2=n
   ·subst e2
    have:=k3 i2 k1 (qR _)
    rw [hd]at this; cases this
   exact h2 i1 i2 k1 (by omega) k3
  | true =>
   cases op with
   | false =>
    have e:zep true level line n (l,false)=(l++[⟨level,line,n,1⟩],true):=by simp [zep]
    rw [e]
    have hno:∀ m,n=m+1→zij g level line m=false:=h3 rfl
    have first:∀ i,i<n+1→Run g level line i n→i=n:=by
     intro i hi hr
     by_cases e2:i=n
     ·exact e2
     have:=hr (n - 1) (by omega) (by omega)
     rw [hno (n - 1) (by omega)]at this; cases this
    refine ⟨fun lv ln i1 i2 k=>(h1 lv ln i1 i2 k).app,fun i1 i2 k1 k2 k3=>?_,fun h=>(by cases h),fun _=>⟨l,_,rfl,rfl,rfl,by simp,by simp,fun i hi hr=>?_⟩⟩
    ·by_cases e2:i2=n
     ·subst e2
      obtain rfl:=first i1 (by omega) k3
      exact ⟨_,List.mem_append_right _ (List.mem_singleton.2 rfl),rfl,rfl,Int.le_refl _,by simp only; omega⟩
     exact (h2 i1 i2 k1 (by omega) k3).app
    have:=first i hi hr
    simp only; omega
   | true =>
    obtain ⟨ws0,w,rfl,w1,w2,w3,w4,w5⟩:=h4 rfl
    have e:zep true level line n (ws0++[w],true)=(ws0++[{ w with long:=w.long+1 }],true):=by simp [zep]
    rw [e]
    have hfr:∀ i:Nat,i<n+1→Run g level line i n→w.fr≤(i:Int):=by
     intro i hi hr
     by_cases e2:i=n
     ·omega
     exact w5 i (by omega) fun j j1 j2=>hr j j1 (by omega)
    refine ⟨fun lv ln i1 i2 k=>(h1 lv ln i1 i2 k).long,fun i1 i2 k1 k2 k3=>?_,fun h=>(by cases h),fun _=>⟨ws0,_,rfl,w1,w2,by simp only; omega,by simp only; omega,fun i hi hr=>hfr i hi hr⟩⟩
    by_cases e2:i2=n
    ·subst e2
     have:=hfr i1 (by omega) k3
     exact ⟨_,List.mem_append_right _ (List.mem_singleton.2 rfl),w1,w2,this,by simp only; omega⟩
    exact (h2 i1 i2 k1 (by omega) k3).long
theorem zln {g:List (List Int)} {level:Bool} {places:Nat} {ws:List Wall}:∀ lines,(∀ lv ln i1 i2,Cov ws lv ln i1 i2→Cov (zck g level places ws lines) lv ln i1 i2) ∧
  (∀ line i1 i2,1≤line→line<lines→i1≤i2→i2<places→Run g level line i1 i2→Cov (zck g level places ws lines) level line i1 i2)
 | 0=>⟨fun _ _ _ _ h=>h,fun line _ _ _ h=>by omega⟩
 | k+1=>by
  obtain ⟨h1,h2⟩:=zln (g:=g) (level:=level) (places:=places) (ws:=ws) k
  by_cases hk:1≤k
  ·rw [zeo hk]
   obtain ⟨l1,l2,-,-⟩:=ztx (g:=g) (level:=level) (line:=k) (ws:=zck g level places ws k) places
   refine ⟨fun lv ln i1 i2 q=>l1 _ _ _ _ (h1 _ _ _ _ q),fun line i1 i2 q1 q2 q3 q4 q5=>?_⟩
   by_cases e:line=k
   ·subst e; exact l2 i1 i2 q3 q4 q5
   exact l1 _ _ _ _ (h2 line i1 i2 q1 (by omega) q3 q4 q5)
  obtain rfl:k=0:=by omega
  rw [zlp]
  exact ⟨fun _ _ _ _ h=>h,fun line _ _ q1 q2=>by omega⟩
theorem ztu {g:List (List Int)} {H W:Nat} {level:Bool} {line i1 i2:Nat} (h1:1≤line) (h2:line<if level then H else W) (h3:i1≤i2) (h4:i2<if level then W else H) (hr:Run g level line i1 i2):Cov (zcy g H W) level line i1 i2:=by
 unfold zcy
 obtain ⟨a1,a2⟩:=zln (g:=g) (level:=false) (places:=H) (ws:=[]) W
 obtain ⟨b1,b2⟩:=zln (g:=g) (level:=true) (places:=W) (ws:=zck g false H [] W) H
 cases level with
 | false=>exact b1 _ _ _ _ (a2 line i1 i2 h1 h2 h3 h4 hr)
 | true=>exact b2 line i1 i2 h1 h2 h3 h4 hr
section
variable {n:Nat}
theorem z2n {a:Int} (ha:0≤a∧a<n):∀ {bs:List Int} {M:List (List Bool)},Rm n bs→Sq n M→Sq n (relB a bs M)∧∀ x y,zc2 (relB a bs M) x y=true↔zc2 M x y=true∨(x=a.toNat∧∃ b∈bs,y=b.toNat)
 | [],M,_,h=>⟨h,fun x y=>by simp [relB]⟩
 | b::bs,M,hb,h=>by
  have hb0:=hb b (by simp)
  obtain ⟨k1,k2⟩:=z2n ha (bs:=bs) (M:=z4q M a.toNat b.toNat true) (fun x hx=>hb x (by simp [hx])) (h.set (by omega))
  refine ⟨k1,fun x y=>?_⟩
  have e:relB a (b::bs) M=relB a bs (z4q M a.toNat b.toNat true):=rfl
  rw [e,k2,zl2 h (by omega) (by omega)]
  by_cases q:x=a.toNat∧y=b.toNat
  ·rw [if_pos q]; simp [q.1,q.2]
  rw [if_neg q]
  constructor
  ·rintro (k | ⟨k,c,hc,rfl⟩)
   ·exact .inl k
   exact .inr ⟨k,c,by simp [hc],rfl⟩
  rintro (k | ⟨k,c,hc,rfl⟩)
  ·exact .inl k
  rcases List.mem_cons.1 hc with rfl | hc
  ·exact absurd ⟨k,rfl⟩ q
  exact .inr ⟨k,c,hc,rfl⟩
theorem zu6 {bs:List Int} (hb:Rm n bs):∀ {la:List Int} {M:List (List Bool)},Rm n la→Sq n M→Sq n (relW M la bs)∧∀ x y,zc2 (relW M la bs) x y=true↔zc2 M x y=true∨(∃ a∈la,x=a.toNat)∧∃ b∈bs,y=b.toNat
 | [],M,_,h=>⟨h,fun x y=>by simp [relW]⟩
 | a::la,M,ha,h=>by
  obtain ⟨j1,j2⟩:=z2n (ha a (by simp)) hb h
  obtain ⟨k1,k2⟩:=zu6 hb (la:=la) (M:=relB a bs M) (fun x hx=>ha x (by simp [hx])) j1
  refine ⟨k1,fun x y=>?_⟩
  have e:relW M (a::la) bs=relW (relB a bs M) la bs:=rfl
  rw [e,k2,j2]
  constructor
  ·rintro ((k | ⟨k,q⟩) | ⟨⟨c,hc,k⟩,q⟩)
   ·exact .inl k
   ·exact .inr ⟨⟨a,by simp,k⟩,q⟩
   exact .inr ⟨⟨c,by simp [hc],k⟩,q⟩
  rintro (k | ⟨⟨c,hc,k⟩,q⟩)
  ·exact .inl (.inl k)
  rcases List.mem_cons.1 hc with rfl | hc
  ·exact .inl (.inr ⟨k,q⟩)
  exact .inr ⟨⟨c,hc,k⟩,q⟩
def By (g:List (List Int)) (ws:List Wall) (lv:Bool) (x y:Nat):Prop:=∃ w∈ws,w.level=lv∧(∃ a∈(zbd g w).1,x=a.toNat)∧∃ b∈(zbd g w).2,y=b.toNat
theorem By.cons {g:List (List Int)} {w:Wall} {ws:List Wall} {lv:Bool} {x y:Nat}:By g (w::ws) lv x y↔(w.level=lv∧(∃ a∈(zbd g w).1,x=a.toNat)∧∃ b∈(zbd g w).2,y=b.toNat)∨By g ws lv x y:=by
 unfold By; simp
theorem zut {g:List (List Int)} {nh nw:Nat} (hrm:zvw g nh nw n):∀ (ws:List Wall),(∀ w∈ws,zt3 g nh nw w)→∀ {M:List (List Bool) × List (List Bool)},Sq n M.1→Sq n M.2 →
  (Sq n (ws.foldl (zm7 g) M).1∧∀ x y,zc2 (ws.foldl (zm7 g) M).1 x y=true↔zc2 M.1 x y=true∨By g ws false x y) ∧
  (Sq n (ws.foldl (zm7 g) M).2∧∀ x y,zc2 (ws.foldl (zm7 g) M).2 x y=true↔zc2 M.2 x y=true∨By g ws true x y)
 | [],_,M,h0,h1=>⟨⟨h0,fun x y=>by simp [By]⟩,⟨h1,fun x y=>by simp [By]⟩⟩
 | w::ws,hws,M,h0,h1=>by
  obtain ⟨r1,r2⟩:=zfp hrm (hws w (by simp))
  rw [List.foldl_cons]
  cases hlv:w.level with
  | false =>
   obtain ⟨k1,k2⟩:=zu6 r2 r1 h0
   have e:zm7 g M w=(relW M.1 (zbd g w).1 (zbd g w).2,M.2):=by unfold zm7; rw [hlv]; rfl
   rw [e]
   obtain ⟨⟨a1,a2⟩,⟨b1,b2⟩⟩:=zut hrm ws (fun w hw=>hws w (by simp [hw])) (M:=(relW M.1 (zbd g w).1 (zbd g w).2,M.2)) k1 h1
   refine ⟨⟨a1,fun x y=>?_⟩,⟨b1,fun x y=>?_⟩⟩
   ·rw [a2,k2,By.cons,hlv]; simp only[true_and,or_assoc]
   rw [b2,By.cons,hlv]; simp
  | true =>
   obtain ⟨k1,k2⟩:=zu6 r2 r1 h1
   have e:zm7 g M w=(M.1,relW M.2 (zbd g w).1 (zbd g w).2):=by unfold zm7; rw [hlv]; rfl
   rw [e]
   obtain ⟨⟨a1,a2⟩,⟨b1,b2⟩⟩:=zut hrm ws (fun w hw=>hws w (by simp [hw])) (M:=(M.1,relW M.2 (zbd g w).1 (zbd g w).2)) h0 k1
   refine ⟨⟨a1,fun x y=>?_⟩,⟨b1,fun x y=>?_⟩⟩
   ·rw [a2,By.cons,hlv]; simp
   rw [b2,k2,By.cons,hlv]; simp only[true_and,or_assoc]
theorem zwo {x y:Nat}:zc2 (zch n) x y=false:=by
 unfold zc2 zch
 rw [List.getElem?_replicate]
 split
 ·rw [Option.getD_some,List.getElem?_replicate]; split <;> rfl
 rfl
def cn (g:List (List Int)) (i j:Nat):Nat:=(gz g i j).toNat
theorem zvw.ne {g:List (List Int)} {nh nw:Nat} (h:zvw g nh nw n) {i j i' j':Nat} (h1:i<nh) (h2:j<nw) (h3:i'<nh) (h4:j'<nw):gz g i j≠gz g i' j'↔cn g i j≠cn g i' j':=by
 have a:=h i j h1 h2
 have b:=h i' j' h3 h4
 unfold cn
 omega
theorem zyp {g:List (List Int)} {level:Bool} {line fr long j:Nat} (h1:fr≤j) (h2:j<fr+long):(zcr g level line j).1∈(zbd g ⟨level,line,fr,long⟩).1:=by
 simp only[zbd,Int.toNat_natCast]
 rw [znl]
 simp only[zbw,List.mem_map,List.mem_range]
 exact ⟨j - fr,by omega,by rw [show fr+(j - fr)=j by omega]⟩
theorem zyq {g:List (List Int)} {level:Bool} {line fr long j:Nat} (h1:fr≤j) (h2:j<fr+long):(zcr g level line j).2∈(zbd g ⟨level,line,fr,long⟩).2:=by
 simp only[zbd,Int.toNat_natCast]
 rw [znl]
 simp only[zbw,List.mem_map,List.mem_range]
 exact ⟨j - fr,by omega,by rw [show fr+(j - fr)=j by omega]⟩
theorem z20 {g:List (List Int)} {level:Bool} {line fr long:Nat} {x:Int} (h:x∈(zbd g ⟨level,line,fr,long⟩).1):∃ j,fr≤j∧j<fr+long∧x=(zcr g level line j).1:=by
 simp only[zbd,Int.toNat_natCast]at h
 rw [znl]at h
 simp only[zbw,List.mem_map,List.mem_range]at h
 obtain ⟨j,hj,rfl⟩:=h
 exact ⟨fr+j,by omega,by omega,rfl⟩
theorem z21 {g:List (List Int)} {level:Bool} {line fr long:Nat} {x:Int} (h:x∈(zbd g ⟨level,line,fr,long⟩).2):∃ j,fr≤j∧j<fr+long∧x=(zcr g level line j).2:=by
 simp only[zbd,Int.toNat_natCast]at h
 rw [znl]at h
 simp only[zbw,List.mem_map,List.mem_range]at h
 obtain ⟨j,hj,rfl⟩:=h
 exact ⟨fr+j,by omega,by omega,rfl⟩
theorem yda {g:List (List Int)} {nh nw:Nat} (h:zvw g nh nw n) {x y:Nat}:By g (zcy g nh nw) false x y↔DL (cn g) nh nw x y:=by
 constructor
 ·rintro ⟨w,hw,hlv,⟨a,ha,rfl⟩,b,hb,rfl⟩
  obtain ⟨line,fr,long,he,hl,hin⟩:=zd2 w hw
  rw [hlv]at he hin
  subst he
  obtain ⟨j1,p1,p2,rfl⟩:=z20 ha
  obtain ⟨j2,q1,q2,rfl⟩:=z21 hb
  have i1:=(hin j1 p1 p2).1
  have i2:=(hin j2 q1 q2).1
  unfold InL at i1 i2
  simp only[qF,if_false]at i1 i2
  obtain ⟨L,rfl⟩:∃ L,line=L+1:=⟨line - 1,by omega⟩
  refine ⟨L,j1,j2,i1.2.1,i1.2.2,i2.2.2,fun r r1 r2=>?_,?_,?_⟩
  ·have hr:=hin r (by omega) (by omega)
   have hr1:=hr.1
   unfold InL at hr1
   simp only[qF,if_false]at hr1
   have hr2:=hr.2
   unfold zij zcr at hr2
   simp only[qF,if_false,decide_eq_true_eq,Nat.add_sub_cancel]at hr2
   exact (h.ne hr1.2.2 (by omega) hr1.2.2 hr1.2.1).1 hr2
  ·simp [zcr,cn]
  simp [zcr,cn]
 rintro ⟨L,i1,i2,h1,h2,h3,run,rfl,rfl⟩
 have hrun:Run g false (L+1) (min i1 i2) (max i1 i2):=by
  intro r r1 r2
  have:=run r r1 r2
  rw [← h.ne (by omega) (by omega) (by omega) h1]at this
  unfold zij zcr
  simpa using this
 obtain ⟨w,hw,w1,w2,w3,w4⟩:=ztu (g:=g) (H:=nh) (W:=nw) (level:=false) (line:=L+1) (by omega) (by simpa using h1) (by omega) (by simp only[qF,if_false]; omega) hrun
 obtain ⟨line,fr,long,he,hl,hin⟩:=zd2 w hw
 rw [w1]at he
 subst he
 simp only at w2 w3 w4
 obtain rfl:line=L+1:=by omega
 refine ⟨_,hw,rfl,⟨_,zyp (j:=i1) (by omega) (by omega),?_⟩,_,zyq (j:=i2) (by omega) (by omega),?_⟩
 ·simp [zcr,cn]
 simp [zcr,cn]
theorem z9z {g:List (List Int)} {nh nw:Nat} (h:zvw g nh nw n) {x y:Nat}:By g (zcy g nh nw) true x y↔DU (cn g) nh nw x y:=by
 constructor
 ·rintro ⟨w,hw,hlv,⟨a,ha,rfl⟩,b,hb,rfl⟩
  obtain ⟨line,fr,long,he,hl,hin⟩:=zd2 w hw
  rw [hlv]at he hin
  subst he
  obtain ⟨j1,p1,p2,rfl⟩:=z20 ha
  obtain ⟨j2,q1,q2,rfl⟩:=z21 hb
  have i1:=(hin j1 p1 p2).1
  have i2:=(hin j2 q1 q2).1
  unfold InL at i1 i2
  simp only[if_true]at i1 i2
  obtain ⟨L,rfl⟩:∃ L,line=L+1:=⟨line - 1,by omega⟩
  refine ⟨L,j1,j2,i1.2.1,i1.2.2,i2.2.2,fun r r1 r2=>?_,?_,?_⟩
  ·have hr:=hin r (by omega) (by omega)
   have hr1:=hr.1
   unfold InL at hr1
   simp only[if_true]at hr1
   have hr2:=hr.2
   unfold zij zcr at hr2
   simp only[if_true,decide_eq_true_eq,Nat.add_sub_cancel]at hr2
   exact (h.ne (by omega) hr1.2.2 hr1.2.1 hr1.2.2).1 hr2
  ·simp [zcr,cn]
  simp [zcr,cn]
 rintro ⟨L,i1,i2,h1,h2,h3,run,rfl,rfl⟩
 have hrun:Run g true (L+1) (min i1 i2) (max i1 i2):=by
  intro r r1 r2
  have:=run r r1 r2
  rw [← h.ne (by omega) (by omega) h1 (by omega)]at this
  unfold zij zcr
  simpa using this
 obtain ⟨w,hw,w1,w2,w3,w4⟩:=ztu (g:=g) (H:=nh) (W:=nw) (level:=true) (line:=L+1) (by omega) (by simpa using h1) (by omega) (by simp only[if_true]; omega) hrun
 obtain ⟨line,fr,long,he,hl,hin⟩:=zd2 w hw
 rw [w1]at he
 subst he
 simp only at w2 w3 w4
 obtain rfl:line=L+1:=by omega
 refine ⟨_,hw,rfl,⟨_,zyp (j:=i1) (by omega) (by omega),?_⟩,_,zyq (j:=i2) (by omega) (by omega),?_⟩
 ·simp [zcr,cn]
 simp [zcr,cn]
theorem zt8 {g:List (List Int)} {nh nw:Nat} (h:zvw g nh nw n) {i j:Nat} (hi:i<nh) (hj:j<nw):cn g i j<n:=by
 have:=h i j hi hj
 unfold cn; omega
theorem ydw {g:List (List Int)} {nh nw:Nat} (h:zvw g nh nw n) {a b:Nat} (ha:a<n) (hb:b<n):zc2 (zw6 g nh nw n) a b=true↔TC (DL (cn g) nh nw) a b:=by
 obtain ⟨⟨k1,k2⟩,-⟩:=zut h (zcy g nh nw) zd2 (M:=(zch n,zch n)) (zez n) (zez n)
 have hd:∀ x y,zc2 (yas g nh nw n).1 x y=true↔DL (cn g) nh nw x y:=fun x y=>by
  unfold yas; rw [k2,yda h]; simp [zwo]
 unfold zw6
 have k3:Sq n (yas g nh nw n).1:=k1
 rw [z06 k3 ha hb]
 constructor
 ·exact TC.mono fun x y q=>(hd x y).1 q.2.2
 refine TC.mono fun x y q=>⟨?_,?_,(hd x y).2 q⟩
 ·obtain ⟨j,i1,i2,q1,q2,q3,-,rfl,-⟩:=q
  exact zt8 h q2 (by omega)
 obtain ⟨j,i1,i2,q1,q2,q3,-,-,rfl⟩:=q
 exact zt8 h q3 q1
theorem z9p {g:List (List Int)} {nh nw:Nat} (h:zvw g nh nw n) {a b:Nat} (ha:a<n) (hb:b<n):zc2 (zn0 g nh nw n) a b=true↔TC (DU (cn g) nh nw) a b:=by
 obtain ⟨-,⟨k1,k2⟩⟩:=zut h (zcy g nh nw) zd2 (M:=(zch n,zch n)) (zez n) (zez n)
 have hd:∀ x y,zc2 (yas g nh nw n).2 x y=true↔DU (cn g) nh nw x y:=fun x y=>by
  unfold yas; rw [k2,z9z h]; simp [zwo]
 unfold zn0
 have k3:Sq n (yas g nh nw n).2:=k1
 rw [z06 k3 ha hb]
 constructor
 ·exact TC.mono fun x y q=>(hd x y).1 q.2.2
 refine TC.mono fun x y q=>⟨?_,?_,(hd x y).2 q⟩
 ·obtain ⟨j,i1,i2,q1,q2,q3,-,rfl,-⟩:=q
  exact zt8 h (by omega) q2
 obtain ⟨j,i1,i2,q1,q2,q3,-,-,rfl⟩:=q
 exact zt8 h q1 q3
end
end
section
theorem zx5 {p:List Txt} {i:Nat}:∀ {w:Nat},zgp p 4 i w=0→∀ k,1≤k→k<w→zjf p i k≠4
 | w+1,h,k,h1,h2=>by
  have hb:=(zfb p 4 i w).1
  unfold zgp at h
  by_cases e:k=w
  ·subst e
   intro q
   rw [if_pos ⟨h1,q⟩]at h
   omega
  have h0:zgp p 4 i w=0:=by split at h <;> omega
  exact zx5 h0 k h1 (by omega)
theorem z2i {p:List Txt} {w:Nat}:∀ {n:Nat},zi2 p 4 w n=0→∀ i,1≤i→i<n→zgp p 4 i w=0
 | n+1,h,i,h1,h2=>by
  have hb:0≤zi2 p 4 w n:=by
   clear h h1 h2
   induction n with
   | zero=>simp [zi2]
   | succ n ih =>
    have:=(zfb p 4 n w).1
    unfold zi2; split <;> omega
  have hr:=(zfb p 4 n w).1
  unfold zi2 at h
  by_cases e:i=n
  ·subst e
   rw [if_pos h1]at h
   omega
  have h0:zi2 p 4 w n=0:=by split at h <;> omega
  exact z2i h0 i h1 (by omega)
theorem z42 {a b:UInt8} (h:(a.toNat:Int) - 97≠(b.toNat:Int) - 97):a≠b:=by
 rintro rfl; exact h rfl
theorem z32 {p:List Txt} (hg:zc5 p=true) {i k:Nat} (hi:i+1<p.length) (hk:k+1<(zam p).length) (h1:zal p i k≠zal p i (k+1)) (h2:zal p i k≠zal p (i+1) k) (h3:zal p i k≠zal p (i+1) (k+1))
  (h4:zal p i (k+1)≠zal p (i+1) k) (h5:zal p i (k+1)≠zal p (i+1) (k+1)) (h6:zal p (i+1) k≠zal p (i+1) (k+1)):zjf p (i+1) (k+1)=4:=by
 obtain ⟨r1,hr1,-⟩:=zag (show i<p.length by omega)
 obtain ⟨r2,hr2,-⟩:=zag hi
 have e1:=zdv hg hr1
 have e2:=zdv hg hr2
 obtain ⟨a,ha,-⟩:=zag (show k<r1.length by omega)
 obtain ⟨b,hb,-⟩:=zag (show k+1<r1.length by omega)
 obtain ⟨c,hc,-⟩:=zag (show k<r2.length by omega)
 obtain ⟨d,hd,-⟩:=zag (show k+1<r2.length by omega)
 rw [zc1 hr1 ha]at h1 h2 h3
 rw [zc1 hr1 hb]at h1 h4 h5
 rw [zc1 hr2 hc]at h2 h4 h6
 rw [zc1 hr2 hd]at h3 h5 h6
 have n1:=z42 h1
 have n2:=z42 h2
 have n3:=z42 h3
 have n4:=z42 h4
 have n5:=z42 h5
 have n6:=z42 h6
 unfold zjf
 simp only[Nat.add_sub_cancel,hr1,hr2,ha,hb,hc,hd]
 simp [zgm,z65,zr2,Ne.symm n1,Ne.symm n2,Ne.symm n3,Ne.symm n4,Ne.symm n5,Ne.symm n6]
theorem zfw {p:List Txt} (hp:zbq p=true) {i j:Nat} (hi:i<p.length) (hj:j<(zam p).length):(cn (gP p) i j:Int)=zal p i j:=by
 have hN:=zc7 hp
 have:=hN.room hi hj
 unfold cn
 rw [hN.cell hi hj]; omega
theorem zlc {p:List Txt} (hp:zbe p=true):Pl (cn (gP p)) p.length (zam p).length:=by
 have hpl:=zeb hp
 have hN:=zc7 hpl
 have rect:∀ {i j i' j':Nat} (k l:Nat),i<p.length→i'<p.length→j<(zam p).length→j'<(zam p).length→cn (gP p) i j=cn (gP p) i' j'→min i i'≤k→k≤max i i'→min j j'≤l→l≤max j j'→cn (gP p) k l=cn (gP p) i j:=by
  intro i j i' j' k l h1 h2 h3 h4 e h5 h6 h7 h8
  have e1:=zfw hpl h1 h3
  have e2:=zfw hpl h2 h4
  have e3:=zfw hpl (show k<p.length by omega) (show l<(zam p).length by omega)
  obtain ⟨b,hb,q1,-,c1⟩:=zgd hpl h1 h3
  obtain ⟨b',hb',q2,-,-⟩:=zgd hpl h2 h4
  have e4:zal p i j=zal p i' j':=by omega
  rw [e4,hb']at hb
  obtain rfl:=Option.some.inj hb
  have q3:inB b' k l=true:=by
   unfold inB at q1 q2 ⊢
   simp only[qB,decide_eq_true_eq]at q1 q2 ⊢
   omega
  have:=c1 k l (by omega) (by omega) q3
  omega
 refine ⟨rect,fun {i j} h1 h2 n1 n2 n3=>Classical.byContradiction fun n4=>?_⟩
 have h0:points p 4=0:=by
  unfold zbe at hp
  simp only[qB,decide_eq_true_eq]at hp
  exact hp.2
 have hno:=zx5 (z2i h0 (i+1) (by omega) h1) (j+1) (by omega) h2
 have n5:cn (gP p) i j≠cn (gP p) (i+1) (j+1):=by
  intro e
  exact n1 (rect i (j+1) (by omega) h1 (by omega) h2 e (by omega) (by omega) (by omega) (by omega)).symm
 have n6:cn (gP p) i (j+1)≠cn (gP p) (i+1) j:=by
  intro e
  exact n1 (rect i j (by omega) h1 h2 (by omega) e (by omega) (by omega) (by omega) (by omega))
 have c1:=zfw hpl (show i<p.length by omega) (show j<(zam p).length by omega)
 have c2:=zfw hpl (show i<p.length by omega) h2
 have c3:=zfw hpl h1 (show j<(zam p).length by omega)
 have c4:=zfw hpl h1 h2
 exact hno (z32 hN.hg h1 h2 (by omega) (by omega) (by omega) (by omega) (by omega) (by omega))
theorem zjj {p:List Txt} {a:Nat} (ha:a<(rP p).length):∃ i j,i<p.length∧j<(zam p).length∧cn (gP p) i j=a:=by
 have hi:=zgv p
 obtain ⟨b,hb,-⟩:=zag ha
 obtain ⟨v,hv,-⟩:=zag (show a<(keys p).length by rw [← hi.len]; exact ha)
 obtain ⟨i,j,⟨hz,hj,hij⟩,-⟩:=(hi.hull a v b hv hb).at_
 have hi2:i<p.length:=by omega
 refine ⟨i,j,hi2,hj,?_⟩
 unfold cn
 rw [z59 hi2 hj,hz,Int.toNat_natCast]
 have hlt:¬ (keys p).idxOf v=(keys p).length:=by
  have:=List.idxOf_lt_length_iff.2 (List.mem_of_getElem? hv)
  omega
 exact zl8 hi.nd (zh9 hlt) hv
def lfM (p:List Txt):List (List Bool):=zw6 (gP p) p.length (zam p).length (rP p).length
def abM (p:List Txt):List (List Bool):=zn0 (gP p) p.length (zam p).length (rP p).length
def Lf (p:List Txt) (a b:Nat):Prop:=zc2 (lfM p) a b=true
def Ab (p:List Txt) (a b:Nat):Prop:=zc2 (abM p) a b=true
section
variable {p:List Txt} {a b d:Nat}
theorem Lf.iff (ha:a<(rP p).length) (hb:b<(rP p).length):Lf p a b↔TC (DL (cn (gP p)) p.length (zam p).length) a b:=ydw zfy ha hb
theorem Ab.iff (ha:a<(rP p).length) (hb:b<(rP p).length):Ab p a b↔TC (DU (cn (gP p)) p.length (zam p).length) a b:=z9p zfy ha hb
theorem Lf.trans (ha:a<(rP p).length) (hb:b<(rP p).length) (hd:d<(rP p).length) (h:Lf p a b) (k:Lf p b d):Lf p a d:=by
 rw [Lf.iff ha hd]; exact ((Lf.iff ha hb).1 h).trans ((Lf.iff hb hd).1 k)
theorem Ab.trans (ha:a<(rP p).length) (hb:b<(rP p).length) (hd:d<(rP p).length) (h:Ab p a b) (k:Ab p b d):Ab p a d:=by
 rw [Ab.iff ha hd]; exact ((Ab.iff ha hb).1 h).trans ((Ab.iff hb hd).1 k)
theorem zlb (hp:zbe p=true):∃ f g:Nat→Nat,∀ a b,a<(rP p).length→b<(rP p).length→(Lf p a b→f a<f b∧g a<g b)∧(Ab p a b→f a<f b∧g b<g a):=by
 have hpl:=zlc hp
 obtain ⟨f,hf⟩:=z13 hpl (n:=(rP p).length) (fun i j hi hj=>zt8 zfy hi hj)
 obtain ⟨g,hg⟩:=z7k hpl (n:=(rP p).length) (fun i j hi hj=>zt8 zfy hi hj)
 refine ⟨f,g,fun a b ha hb=>⟨fun h=>?_,fun h=>?_⟩⟩
 ·rw [Lf.iff ha hb]at h
  exact ⟨h.rise fun a b k=>hf a b (.inl k),h.rise fun a b k=>hg a b (.inl k)⟩
 rw [Ab.iff ha hb]at h
 exact ⟨h.rise fun a b k=>hf a b (.inr k),(h.rev (S:=fun x y=>DU (cn (gP p)) p.length (zam p).length y x) fun _ _ k=>k).rise fun a b k=>hg a b (.inr k)⟩
theorem Lf.only (hp:zbe p=true) (ha:a<(rP p).length) (hb:b<(rP p).length) (h:Lf p a b):¬ Lf p b a∧¬ Ab p a b∧¬ Ab p b a:=by
 obtain ⟨f,g,k⟩:=zlb hp
 have h1:=(k a b ha hb).1 h
 refine ⟨fun q=>?_,fun q=>?_,fun q=>?_⟩
 ·have:=(k b a hb ha).1 q; omega
 ·have:=(k a b ha hb).2 q; omega
 have:=(k b a hb ha).2 q; omega
theorem Ab.only (hp:zbe p=true) (ha:a<(rP p).length) (hb:b<(rP p).length) (h:Ab p a b):¬ Ab p b a∧¬ Lf p a b∧¬ Lf p b a:=by
 obtain ⟨f,g,k⟩:=zlb hp
 have h1:=(k a b ha hb).2 h
 refine ⟨fun q=>?_,fun q=>?_,fun q=>?_⟩
 ·have:=(k b a hb ha).2 q; omega
 ·have:=(k a b ha hb).1 q; omega
 have:=(k b a hb ha).1 q; omega
theorem z37 (hp:zbe p=true) (ha:a<(rP p).length) (hb:b<(rP p).length) (hne:a≠b):Lf p a b∨Lf p b a∨Ab p a b∨Ab p b a:=by
 obtain ⟨i,j,h1,h2,e1⟩:=zjj ha
 obtain ⟨k,l,h3,h4,e2⟩:=zjj hb
 have:=zvm (zlc hp) h1 h2 h3 h4 (by rw [e1,e2]; exact hne)
 rw [e1,e2]at this
 rw [Lf.iff ha hb,Lf.iff hb ha,Ab.iff ha hb,Ab.iff hb ha]
 exact this
end
end
end Fw
end Go.Proofs.YtjobkanbijpfgaaGreat
