/- Parts of the framework and of the proof: Areas by the program are the specification's; Areas by the program are the specification's, joined; Arguments of laws as plain data; Sizes by the program, gone through; Sizes, gone through; the small functions of the statements; Heaviest sums, gone through; Where rooms begin and how far they may be moved: the program's lists are the specification's; Marks, gone through; Places and slack by the specification, gone through; Shapes in plain words: the program's least shapes are the specification's; Shapes by the specification, gone through; Best shapes by the specification, gone through; A relation the other way round, place by place; Places and slack by the program, gone through; Shapes by the program, gone through; Best shapes: stairs of shapes; the program's and the specification's are the same; The order of shapes, gone through; slices.SortFunc on shapes: the kit's contract laid at this program; slices.SortFunc on shapes, in the framework's words; Plans in which no four rooms meet: two orders of rooms go on without end, and each two rooms are in one; The program's closures and walls in words of cells: left of is going on from just left of, above is going on from just above; Orders of a plain plan: each two rooms are in just one; Rooms put in a row by how many are ahead of them; The two orders are orders of all rooms; the places of the second order in the first one; Sizes in plain words: areas, places, slacks, longest rows; What the laws of sizes ask, of plans in plain words; Longest rows of rooms, as the specification finds them, in plain words; Longest growing parts of the permutation of a plan are longest rows of its rooms; Grids that are made of cells told by a function, gone through; Grids whose cells are alike are numbered alike; the text of a numbered grid is named as it should be; Orders of plans that are made of other plans: rows and columns exchanged, turned, seen from behind, made wide or tight; Plans that are made of other plans: their orders, their permutations and their least sizes; Upright cuts are where the permutation falls apart; Plans made of plans, gone through; The framework, part z: a region in which the bytes of a text become a new row that is written later; Drawing: the reader, gone through; Plans that are cut, in plain words; Plans cut in two, gone through; Drawing plans, gone through; Drawing plans, gone through, continued; Drawing needs, gone through; Areas, gone through; The law of areas, gone through; Orders of two rooms, gone through; The laws of left and above, gone through; The law of places, gone through; Sorting by a function, gone through; Rooms in order by the program, gone through; The first and the second order, gone through; The orders by the specification, gone through; Permutations by the program and by the specification, gone through; Permutations of plans, gone through; The orders and permutations: the exported functions, gone through; The law of upright cuts, gone through; Least shapes by the program and the laws of shapes, gone through; Best shapes by the program, gone through; Cut trees: parts of plans, their first cuts, and the tree of all; Parts of plans as texts: the specification's cut and its parts; Parts of plans in the program: the rooms of a part, its lines, its cut; Parts of plans in the program: rooms, lines, gone through; The framework, part ha: loops over functions: yield's contract out of the body's walk, and the statement. -/
import Derived.Test.YtjobkanbijpfgaaGreatJ2
import Derived.Test.YtjobkanbijpfgaaGreatRows
import Derived.ProofKit
import Derived.SliceStrings
import Derived.Shelf.SlSortCmp.WholeK
import Derived.Ground.SlsfProg
import Derived.Test.YtjobkanbijpfgaaGreatProg
import Derived.Test.YtjobkanbijpfgaaGreatJ1
import Derived.Lib.ConvBytes
set_option linter.all false
namespace Go.Proofs.YtjobkanbijpfgaaGreat
namespace Fw
open Go
open Nat renaming reduceEqDiff → qE, reduceLeDiff → qL, reduceAdd → qA, reduceMul → qM, le_refl → qR
open List renaming append_nil → qN, mapM_append → qP, mapM_cons → qC, mapM_map → qU, range_succ → qS, take_of_length_le → qT
open Bool renaming and_eq_true → qB, false_eq_true → qF
open Option renaming map_some → qO, map_eq_some_iff → qI
open Int renaming reduceToNat → qZ
def cz (c:UInt8):Int:=(c.toNat:Int) - 97
theorem ybs {a b:UInt8}:(cz a=cz b)=(a=b):=by
 rw [z72]
 unfold cz
 apply propext; omega
theorem z9v (a b c d:UInt8):((dn [cz a,cz b,cz c,cz d]:Nat):Int)=zga [a,b,c,d] 4:=by
 simp only[dn,zga,z65,zsl,List.mem_cons,List.not_mem_nil,or_false,ybs]
 by_cases h1:a=b <;> by_cases h2:a=c <;> by_cases h3:a=d <;> by_cases h4:b=c <;> by_cases h5:b=d <;> by_cases h6:c=d <;> simp_all [eq_comm]
theorem z0v {p:List Txt} (h:Named p) {i k:Nat} (hi:1≤i) (hi2:i<p.length) (hk:1≤k) (hk2:k<(zax p).length):((dn (four (gP p) i k):Nat):Int)=zo9 p i k:=by
 obtain ⟨r1,hr1,-⟩:=zaf (show i - 1<p.length by omega)
 obtain ⟨r2,hr2,-⟩:=zaf hi2
 have l1:=zdv h.hg hr1
 have l2:=zdv h.hg hr2
 obtain ⟨a,ha,-⟩:=zaf (show k - 1<r1.length by omega)
 obtain ⟨b,hb,-⟩:=zaf (show k<r1.length by omega)
 obtain ⟨c,hc,-⟩:=zaf (show k - 1<r2.length by omega)
 obtain ⟨d,hd,-⟩:=zaf (show k<r2.length by omega)
 unfold four zo9
 rw [h.cell (by omega) (by omega),h.cell (by omega) (by omega),h.cell (by omega) (by omega),h.cell (by omega) (by omega),zc3 hr1 ha,zc3 hr1 hb,zc3 hr2 hc,zc3 hr2 hd]
 simp only[hr1,hr2,ha,hb,hc,hd]
 exact z9v a b c d
theorem zvn {p:List Txt} (h:Named p) {many:Int} {i:Nat} (hi:1≤i) (hi2:i<p.length):∀ k,k≤(zax p).length→zdj (gP p) many i k=zhv p many i k
 | 0,_=>rfl
 | k+1,hk=>by
  unfold zdj zhv
  rw [zvn h hi hi2 k (by omega)]
  by_cases h1:1≤k
  ·rw [z0v h hi hi2 h1 (by omega)]
  rw [if_neg (fun e=>h1 e.1),if_neg (fun e=>h1 e.1)]
theorem z8x {p:List Txt} (h:Named p) {many:Int}:∀ i,i≤p.length→zvl (gP p) many (zax p).length i=znh p many (zax p).length i
 | 0,_=>rfl
 | i+1,hi=>by
  unfold zvl znh
  rw [z8x h i (by omega)]
  by_cases h1:1≤i
  ·rw [zvn h h1 (by omega) _ (qR _)]
  rw [if_neg h1,if_neg h1]
theorem zic {p:List Txt}:zfc p=zha p:=by
 unfold zfc zha
 rw [zhk]
 cases hp:zcz p with
 | false=>rfl
 | true =>
  rw [zg3,z8x (zc1 hp) p.length (qR _)]
  rfl
theorem zl7 {p:List Txt} (h:zha p=true):zcz p=true:=by
 unfold zha at h
 rw [qB]at h
 exact h.1
theorem zxe {p:List Txt} {ws:List Int}:zd1 p [ws]=zgf p ws:=by
 unfold zd1 zgf zl3
 rw [zic]
 cases hp:zha p with
 | false=>rfl
 | true =>
  have hr:=(zc1 (zl7 hp)).rooms
  simp only[List.all_cons,List.all_nil,Bool.and_true,Bool.true_and]
  congr 1
  rw [hr]
  apply decide_eq_decide.2
  omega
theorem zl2 {l:List Int} {x:Int}:x∈ddp l↔x∈l:=by
 have:∀ (l m:List Int),x∈l.foldl ztm m↔x∈m∨x∈l:=by
  intro l
  induction l with
  | nil=>intro m; simp
  | cons a l ih=>intro m; rw [List.foldl_cons,ih,zy7,List.mem_cons,or_assoc]
 unfold ddp
 rw [this]
 simp
def Rise (n:Nat) (rk:Nat→Nat) (M:List (List Bool)):Prop:=Sq n M∧∀ a b,a<n→b<n→zc7 M a b=true→rk a<rk b
theorem Rise.clA {n:Nat} {rk:Nat→Nat} {M:List (List Bool)} (h:Rise n rk M) {k a:Nat} (hk:k<n) (ha:a<n):Rise n rk (clA n k M a):=by
 obtain ⟨h1,h2⟩:=zyi h.1 hk ha n (qR _)
 refine ⟨h1,fun x y hx hy hxy=>?_⟩
 unfold Fw.clA at hxy
 rw [h2 x y hx hy]at hxy
 split at hxy
 ·rename_i e
  obtain ⟨rfl,-⟩:=e
  rw [Bool.or_eq_true,qB]at hxy
  rcases hxy with hxy | ⟨h3,h4⟩
  ·exact h.2 x y hx hy hxy
  exact Nat.lt_trans (h.2 x k hx hk h3) (h.2 k y hk hy h4)
 exact h.2 x y hx hy hxy
theorem Rise.fold {n:Nat} {rk:Nat→Nat} {f:List (List Bool)→Nat→List (List Bool)}:∀ (i:Nat) {M:List (List Bool)},i≤n→(∀ M j,j<n→Rise n rk M→Rise n rk (f M j))→Rise n rk M→Rise n rk ((List.range i).foldl f M)
 | 0,_,_,_,h=>h
 | i+1,M,hi,hs,h=>by
  rw [ze5]
  exact hs _ i (by omega) (Rise.fold i (by omega) hs h)
theorem Rise.close {n:Nat} {rk:Nat→Nat} {M:List (List Bool)} (h:Rise n rk M):Rise n rk (zh4 M):=by
 unfold zh4
 rw [h.1.1]
 exact Rise.fold n (qR _) (fun _ k hk h=>Rise.fold n (qR _) (fun _ a ha h=>h.clA hk ha) h) h
theorem Rise.relB {n:Nat} {rk:Nat→Nat} {a:Int} (ha:0≤a∧a<n):∀ {bs:List Int} {M:List (List Bool)},Rm n bs→(∀ b∈bs,rk a.toNat<rk b.toNat)→Rise n rk M→Rise n rk (relB a bs M)
 | [],_,_,_,h=>h
 | b::bs,M,hb,hr,h=>by
  have hb0:=hb b (by simp)
  refine Rise.relB ha (bs:=bs) (fun x hx=>hb x (by simp [hx])) (fun x hx=>hr x (by simp [hx])) ⟨h.1.set (by omega),fun x y hx hy hxy=>?_⟩
  rw [zkk h.1 (by omega) (by omega)]at hxy
  split at hxy
  ·rename_i e
   rw [e.1,e.2]; exact hr b (by simp)
  exact h.2 x y hx hy hxy
theorem Rise.relW {n:Nat} {rk:Nat→Nat} {bs:List Int} (hb:Rm n bs):∀ {la:List Int} {M:List (List Bool)},Rm n la→(∀ a∈la,∀ b∈bs,rk a.toNat<rk b.toNat)→Rise n rk M→Rise n rk (relW M la bs)
 | [],_,_,_,h=>h
 | a::la,M,ha,hr,h=>Rise.relW hb (la:=la) (fun x hx=>ha x (by simp [hx])) (fun x hx=>hr x (by simp [hx])) (h.relB (ha a (by simp)) hb (hr a (by simp)))
theorem Rise.empty {n:Nat} {rk:Nat→Nat}:Rise n rk (zek n):=by
 refine ⟨zg5 n,fun a b ha hb h=>?_⟩
 simp [zc7,zek,ha,hb]at h
theorem Rise.ord {g:List (List Int)} {nh nw n:Nat} {r0 r1:Nat→Nat} (hrm:zx9 g nh nw n) (h0:∀ w,zwh g nh nw w→w.level=false→∀ a∈(zbo g w).1,∀ b∈(zbo g w).2,r0 a.toNat<r0 b.toNat)
  (h1:∀ w,zwh g nh nw w→w.level=true→∀ a∈(zbo g w).1,∀ b∈(zbo g w).2,r1 a.toNat<r1 b.toNat):∀ (ws:List Wall),(∀ w∈ws,zwh g nh nw w)→∀ {M:List (List Bool) × List (List Bool)},Rise n r0 M.1→Rise n r1 M.2 →
  Rise n r0 (ws.foldl (zu4 g) M).1∧Rise n r1 (ws.foldl (zu4 g) M).2
 | [],_,_,k0,k1=>⟨k0,k1⟩
 | w::ws,hws,M,k0,k1=>by
  have hw:=hws w (by simp)
  obtain ⟨hr1,hr2⟩:=zhq hrm hw
  rw [List.foldl_cons]
  refine Rise.ord hrm h0 h1 ws (fun w hw=>hws w (by simp [hw])) ?_ ?_
  ·unfold zu4
   cases hlv:w.level with
   | false=>simpa using k0.relW hr2 hr1 (h0 w hw hlv)
   | true=>simpa using k0
  unfold zu4
  cases hlv:w.level with
  | false=>simpa using k1
  | true=>simpa using k1.relW hr2 hr1 (h1 w hw hlv)
theorem ycd {g:List (List Int)} {nh nw:Nat} {w:Wall} (hw:zwh g nh nw w) {x:Int} (hx:x∈(zbo g w).1):∃ line j:Nat,w.line=line∧x=(zcc g w.level line j).1∧InL nh nw w.level line j∧zhz g w.level line j=true:=by
 obtain ⟨line,fr,long,e,h1,h2⟩:=hw
 have e1:w.line.toNat=line:=by rw [e]; simp
 have e2:w.fr.toNat=fr:=by rw [e]; simp
 have e3:w.long.toNat=long:=by rw [e]; simp
 simp only[zbo,e1,e2,e3]at hx
 have:=zl2.1 hx
 simp only[zei,List.mem_map,List.mem_range]at this
 obtain ⟨j,hj,rfl⟩:=this
 have h3:=h2 (fr+j) (by omega) (by omega)
 exact ⟨line,fr+j,by rw [e],rfl,h3.1,h3.2⟩
theorem yce {g:List (List Int)} {nh nw:Nat} {w:Wall} (hw:zwh g nh nw w) {x:Int} (hx:x∈(zbo g w).2):∃ line j:Nat,w.line=line∧x=(zcc g w.level line j).2∧InL nh nw w.level line j∧zhz g w.level line j=true:=by
 obtain ⟨line,fr,long,e,h1,h2⟩:=hw
 have e1:w.line.toNat=line:=by rw [e]; simp
 have e2:w.fr.toNat=fr:=by rw [e]; simp
 have e3:w.long.toNat=long:=by rw [e]; simp
 simp only[zbo,e1,e2,e3]at hx
 have:=zl2.1 hx
 simp only[zei,List.mem_map,List.mem_range]at this
 obtain ⟨j,hj,rfl⟩:=this
 have h3:=h2 (fr+j) (by omega) (by omega)
 exact ⟨line,fr+j,by rw [e],rfl,h3.1,h3.2⟩
def rkL (p:List Txt) (a:Nat):Nat:=match (rP p)[a]? with | some b=>b.col.toNat | none=>0
def rkA (p:List Txt) (a:Nat):Nat:=match (rP p)[a]? with | some b=>b.row.toNat | none=>0
theorem zhb {p:List Txt} (hp:zcz p=true) {i j:Nat} (hi:i<p.length) (hj:j<(zax p).length):∃ b,(rP p)[(zao p i j).toNat]?=some b∧inB b i j=true∧b.Fit∧∀ k l,k<p.length→l<(zax p).length→inB b k l=true→zao p k l=zao p i j:=by
 have hN:=zc1 hp
 have hr:=hN.room hi hj
 obtain ⟨b,hb,hbm⟩:=zaf (show (zao p i j).toNat<(rP p).length by omega)
 have hf:=z4d hp
 have hsm:=zbk hN.hg
 obtain ⟨row0,hr0,hm0⟩:=zaf hsm.1
 have hh:=zcj hr0
 have hw6:=hsm.2.2 row0 hm0
 have hw1:=zep hN.hg hr0
 rw [← hh]at hw6 hw1
 have hok:=(zfd (g:=zbw p) hw6 hw1 p.length hsm.2.1).1
 rw [← z4m]at hok
 refine ⟨b,hb,?_,hok.2 b hbm,fun k l hk hl hkl=>?_⟩
 ·rw [hN.fill hf hb hi hj]; exact decide_eq_true (by omega)
 rw [hN.fill hf hb hk hl]at hkl
 have:=of_decide_eq_true hkl
 omega
theorem z4e {p:List Txt} (hp:zcz p=true) {w:Wall} (hw:zwh (gP p) p.length (zax p).length w) (hl:w.level=false):∀ a∈(zbo (gP p) w).1,∀ b∈(zbo (gP p) w).2,rkL p a.toNat<rkL p b.toNat:=by
 intro a ha b hb
 have hN:=zc1 hp
 obtain ⟨L,j,e1,rfl,⟨h1,h2⟩,h3⟩:=ycd hw ha
 obtain ⟨L',j',e2,rfl,⟨k1,k2⟩,k3⟩:=yce hw hb
 obtain rfl:L=L':=by omega
 simp only[hl,qF,if_false]at h2 k2
 unfold zhz at k3
 simp only[hl,zcc,qF,if_false,decide_eq_true_eq]at k3 ⊢
 rw [hN.cell k2.2 (by omega),hN.cell k2.2 k2.1]at k3
 rw [hN.cell h2.2 (by omega),hN.cell k2.2 k2.1]
 obtain ⟨r1,hr1,q1,f1,-⟩:=zhb hp h2.2 (show L - 1<(zax p).length by omega)
 obtain ⟨r2,hr2,q2,f2,c2⟩:=zhb hp k2.2 k2.1
 unfold rkL
 rw [hr1,hr2]
 simp only
 have c3:=c2 j' (L - 1) k2.2 (by omega)
 unfold inB at q1 q2 c3
 unfold Rect.Fit at f1 f2
 simp only[qB,decide_eq_true_eq]at q1 q2 c3
 by_cases hc:r2.col<(L:Int)
 ·exact absurd (c3 (by omega)) k3
 omega
theorem z09 {p:List Txt} (hp:zcz p=true) {w:Wall} (hw:zwh (gP p) p.length (zax p).length w) (hl:w.level=true):∀ a∈(zbo (gP p) w).1,∀ b∈(zbo (gP p) w).2,rkA p a.toNat<rkA p b.toNat:=by
 intro a ha b hb
 have hN:=zc1 hp
 obtain ⟨L,j,e1,rfl,⟨h1,h2⟩,h3⟩:=ycd hw ha
 obtain ⟨L',j',e2,rfl,⟨k1,k2⟩,k3⟩:=yce hw hb
 obtain rfl:L=L':=by omega
 simp only[hl,if_true]at h2 k2
 unfold zhz at k3
 simp only[hl,zcc,if_true,decide_eq_true_eq]at k3 ⊢
 rw [hN.cell (by omega) k2.2,hN.cell k2.1 k2.2]at k3
 rw [hN.cell (by omega) h2.2,hN.cell k2.1 k2.2]
 obtain ⟨r1,hr1,q1,f1,-⟩:=zhb hp (show L - 1<p.length by omega) h2.2
 obtain ⟨r2,hr2,q2,f2,c2⟩:=zhb hp k2.1 k2.2
 unfold rkA
 rw [hr1,hr2]
 simp only
 have c3:=c2 (L - 1) j' (by omega) k2.2
 unfold inB at q1 q2 c3
 unfold Rect.Fit at f1 f2
 simp only[qB,decide_eq_true_eq]at q1 q2 c3
 by_cases hc:r2.row<(L:Int)
 ·exact absurd (c3 (by omega)) k3
 omega
theorem ycb {p:List Txt} (hp:zcz p=true) (b:Nat):rkL p b≤100∧rkA p b≤100:=by
 have hN:=zc1 hp
 have hsm:=zbk hN.hg
 obtain ⟨row0,hr0,hm0⟩:=zaf hsm.1
 have hh:=zcj hr0
 have hw6:=hsm.2.2 row0 hm0
 have hw1:=zep hN.hg hr0
 rw [← hh]at hw6 hw1
 have hok:=(zfd (g:=zbw p) hw6 hw1 p.length hsm.2.1).1
 rw [← z4m]at hok
 unfold rkL rkA
 cases hb:(rP p)[b]? with
 | none=>simp
 | some r =>
  have:=hok.2 r (List.mem_of_getElem? hb)
  unfold Rect.Fit at this
  simp only
  omega
theorem yaf {p:List Txt} (hp:zcz p=true):Up (zur (gP p) p.length (zax p).length (rP p).length) (rP p).length (rkL p)∧Up (zmn (gP p) p.length (zax p).length (rP p).length) (rP p).length (rkA p):=by
 have h:=Rise.ord (r0:=rkL p) (r1:=rkA p) (zoy (p:=p)) (fun w hw hl=>z4e hp hw hl) (fun w hw hl=>z09 hp hw hl) (zhw (gP p) p.length (zax p).length) zfh (M:=(zek (rP p).length,zek (rP p).length)) Rise.empty Rise.empty
 have h0:=h.1.close
 have h1:=h.2.close
 exact ⟨⟨h0.1,h0.2,fun b=>(ycb hp b).1⟩,⟨h1.1,h1.2,fun b=>(ycb hp b).2⟩⟩
section
open Go Go.ChangeShapes Go.WideShapes Go.ChangeAt Go.RowKit
set_option maxRecDepth 100000 in
theorem z0a {W:World} {base:Nat} {t e:TypeId} {a:Addr} {len cap:Nat} (ht:Tryz.prog.underlying t=some (.slice e)) (hval:Value.okWide Tryz.prog W .any base t (.slice (some a) len cap)):a.spot=none∧a.block<W.heap.size:=by
 simp only[Value.okWide,ht,Cell.okWide,Cell.ok]at hval
 obtain ⟨-,-,-,hsp,row,cells,hsh,-⟩:=hval
 refine ⟨hsp,?_⟩
 unfold World.shape? at hsh
 rcases Nat.lt_or_ge a.block W.heap.size with h | h
 ·exact h
 rw [Array.getElem?_eq_none h]at hsh; cases hsh
set_option maxRecDepth 100000 in
theorem ybb {H:Type} {enc:TypeId × Value→H} {W:World} {base:Nat} {v:Value} {d:DataW H} {ps:List MemPlace} (hval:Value.okWide Tryz.prog W .any base 23 v) (h:DataW.Trod enc Tryz.prog W 0 (fun _=>true) true 23 v d ps) :
  ∃ p:List Txt,VI W.heap (fun b=>b<W.heap.size) (za1 p) v∧p.length≤9223372036854775807∧∀ r∈p,r.length≤9223372036854775807:=by
 obtain ⟨a0,len,cap,rfl⟩:=okWide_slice Tryz.underlying23 hval
 obtain ⟨fuel,hf⟩:=h
 rcases open_strings Tryz.underlying23 Tryz.underlying9 (by kernel_rfl) hf with ⟨hcs,hx⟩ | ⟨a,len',cap',ss,hcs,-,hl,hm,hz,hx,hcell,hsz⟩
 ·simp [Value.cells]at hcs
  obtain ⟨rfl,rfl,rfl⟩:=hcs
  exact ⟨[],.sl0,by simp,by simp⟩
 simp [Value.cells]at hcs
 obtain ⟨rfl,rfl,rfl⟩:=hcs
 obtain ⟨hsp,hlt⟩:=z0a Tryz.underlying23 hval
 obtain ⟨b,off,spot⟩:=a
 simp only at hsp hlt
 subst hsp
 simp only[if_true]at hz
 have hml:maxLen≤9223372036854775807:=by decide
 have hlen:((ss.take len).map fun s:ByteArray=>s.data.toList).length=len:=by simp; omega
 have hget:∀ (i:Nat) q,((ss.take len).map fun s:ByteArray=>s.data.toList)[i]?=some q→i<len∧q=(ss.getD i ByteArray.empty).data.toList:=by
  intro i q hq
  rw [List.getElem?_map,qI]at hq
  obtain ⟨s,hs,rfl⟩:=hq
  have hi:=zci hs
  simp only[List.length_take]at hi
  rw [List.getElem?_take_of_lt (by omega)]at hs
  refine ⟨by omega,?_⟩
  rw [List.getD_eq_getElem?_getD,hs]; rfl
 refine ⟨(ss.take len).map fun s=>s.data.toList,?_,by rw [hlen]; omega,fun r hr=>?_⟩
 ·show VI _ _ (.sl (((ss.take len).map fun s:ByteArray=>s.data.toList).map .str) ((ss.take len).map fun s:ByteArray=>s.data.toList).length) _
  rw [hlen]
  refine .sl _ _ b off cap (fun i => .string (ss.getD i ByteArray.empty)) (fun _=>hlt) hl (fun i q hq=>?_) (fun i q hq=>?_)
  ·rw [List.getElem?_map,qI]at hq
   obtain ⟨x,hx1,rfl⟩:=hq
   obtain ⟨hi,rfl⟩:=hget i x hx1
   refine ⟨rfl,?_⟩
   rw [← ze4]
   have:=hcell i (by omega)
   rwa [add_lit]at this
  rw [List.getElem?_map,qI]at hq
  obtain ⟨x,hx1,rfl⟩:=hq
  obtain ⟨hi,rfl⟩:=hget i x hx1
  exact .str _ _ rfl
 obtain ⟨s,hs,rfl⟩:=List.mem_map.1 hr
 have:=hsz s (List.mem_of_mem_take hs)
 have e:s.data.toList.length=s.size:=Array.length_toList
 rw [e]; omega
set_option maxRecDepth 100000 in
theorem z52 {H:Type} {enc:TypeId × Value→H} {W:World} {base:Nat} {v:Value} {d:DataW H} {ps:List MemPlace} (hval:Value.okWide Tryz.prog W .any base 24 v) (h:DataW.Trod enc Tryz.prog W 0 (fun _=>true) true 24 v d ps) :
  ∃ p:List Int,VI W.heap (fun b=>b<W.heap.size) (eInts p) v:=by
 obtain ⟨a0,len,cap,rfl⟩:=okWide_slice Tryz.underlying24 hval
 obtain ⟨fuel,hf⟩:=h
 rcases open_ints Tryz.underlying24 Tryz.underlying3 (by kernel_rfl) hf with ⟨hcs,hx⟩ | ⟨a,len',cap',zs,hcs,-,hl,hm,hz,hx,hcell,hwf⟩
 ·simp [Value.cells]at hcs
  obtain ⟨rfl,rfl,rfl⟩:=hcs
  exact ⟨[],.sl0⟩
 simp [Value.cells]at hcs
 obtain ⟨rfl,rfl,rfl⟩:=hcs
 obtain ⟨hsp,hlt⟩:=z0a Tryz.underlying24 hval
 obtain ⟨b,off,spot⟩:=a
 simp only at hsp hlt
 subst hsp
 simp only[if_true]at hz
 have hlen:(zs.take len).length=len:=by simp; omega
 refine ⟨zs.take len,?_⟩
 show VI _ _ (.sl ((zs.take len).map (.int .i64)) (zs.take len).length) _
 rw [hlen]
 refine .sl _ _ b off cap (fun i => .int .i64 (zs.getD i 0)) (fun _=>hlt) hl (fun i q hq=>?_) (fun i q hq=>?_)
 ·rw [List.getElem?_map,qI]at hq
  obtain ⟨x,hx1,rfl⟩:=hq
  have hi:=zci hx1
  refine ⟨rfl,?_⟩
  rw [← ze4]
  have:=hcell i (by omega)
  rwa [add_lit]at this
 rw [List.getElem?_map,qI]at hq
 obtain ⟨x,hx1,rfl⟩:=hq
 have hi:=zci hx1
 rw [List.getElem?_take_of_lt (by omega)]at hx1
 rw [List.getD_eq_getElem?_getD,hx1]
 exact .int _ _
end

theorem zf3 {p:List Txt} (hs:Sm p) {needs:List Int} (hn:needs.length≤1048576):PC Tryz.prog 37 [za1 p,eInts needs] (.bool (zgf p needs)) true:=by
 refine PC.of ⟨Tryz.func37,by kernel_rfl,rfl,by kernel_rfl⟩ za4 mixed (by show 2≤Tryz.f37.ntmps; decide) ?_
 refine W.r fun K hK=>?_
 simp(disch:=omega)only[↓RU,RV,RH,↓reduceIte,qE,reduceCtorEq,if_pos]
 apply hK;clear hK K
 refine W.seq ?_
 refine W.r fun K hK=>?_
 cases hg:zha p
 ·skip
  simp(disch:=omega)only[↓RU,RV,RH,↓reduceIte,qE,reduceCtorEq,if_pos,qN,w64,zab,zaa,hg]
  refine zag.pc (zq2 hs) rfl (.inl rfl) ?_
  simp(disch:=omega)only[↓RU,RV,RH,↓reduceIte,qE,reduceCtorEq,if_pos,qN,w64,zab,zaa,hg]
  apply hK;clear hK K
  refine W.cond rfl (fun h0=>?_) (fun h0=>?_)
  ·try simp only[RL]at h0
   refine W.r fun K hK=>?_
   simp(disch:=omega)only[↓RU,RV,RH,↓reduceIte,qE,reduceCtorEq,if_pos]
   apply hK;clear hK K
   refine W.ret ?_
   refine XThen.ret ?_
   refine Br rfl ?_
   rw [zgf,hg]
   rfl
  try simp only[RL]at h0
  exact absurd h0 (by simp)
 skip
 simp(disch:=omega)only[↓RU,RV,RH,↓reduceIte,qE,reduceCtorEq,if_pos,qN,w64,zab,zaa,hg]
 refine zag.pc (zq2 hs) rfl (.inl rfl) ?_
 simp(disch:=omega)only[↓RU,RV,RH,↓reduceIte,qE,reduceCtorEq,if_pos,qN,w64,zab,zaa,hg]
 refine zag.pc (zl1 hs) rfl (.inl rfl) ?_
 simp(disch:=omega)only[↓RU,RV,RH,↓reduceIte,qE,reduceCtorEq,if_pos,qN,w64,zab,zaa,hg]
 apply hK;clear hK K
 refine W.cond rfl (fun h1=>?_) (fun h1=>?_)
 ·try simp only[RL]at h1
  refine W.r fun K hK=>?_
  simp(disch:=omega)only[↓RU,RV,RH,↓reduceIte,qE,reduceCtorEq,if_pos]
  apply hK;clear hK K
  refine W.ret ?_
  refine XThen.ret ?_
  refine Br rfl ?_
  rw [show zgf p needs=false by simp [zgf,h1]]
  rfl
 try simp only[RL]at h1
 refine W.skip ?_
 refine xn ?_
 refine W.seq ?_
 refine W.r fun K hK=>?_
 simp(disch:=omega)only[↓RU,RV,RH,↓reduceIte,qE,reduceCtorEq,if_pos]
 apply hK;clear hK K
 refine W.block ?_
 refine W.loop [0,1,5] (fun n vs S=>∃ i:Nat,n=needs.length - i∧i≤needs.length∧((needs.take i).all zks=true)∧vs=[za1 p,eInts needs,.int .i64 i]∧S=⟨[],0⟩) (needs.length) ?_ ?_
 ·refine ⟨0,0,rfl,Nat.zero_le _,rfl,?_,rfl⟩
  simp [Env.put,Env.of,zad]
 rintro n vs S - ⟨i,rfl,h_i,hall,rfl,rfl⟩
 refine W.seq ?_
 refine W.r fun K hK=>?_
 simp(disch:=omega)only[↓RU,RV,RH,↓reduceIte,qE,reduceCtorEq,if_pos,w64,zab,zaa]
 apply hK;clear hK K
 refine W.cond rfl (fun h2=>?_) (fun h2=>?_)
 ·try simp only[RL]at h2
  obtain ⟨x,hx,hxm⟩:=zaf (show i<needs.length by omega)
  refine W.skip ?_
  refine xn ?_
  refine W.seq ?_
  refine W.block ?_
  refine W.r fun K hK=>?_
  simp(disch:=omega)only[↓RU,RV,RH,↓reduceIte,qE,reduceCtorEq,if_pos,qN,zab,zaa,hx]
  refine zag.pc (zw9 _ _ _) rfl (.inl rfl) ?_
  simp(disch:=omega)only[↓RU,RV,RH,↓reduceIte,qE,reduceCtorEq,if_pos,qN,zab,zaa,hx]
  apply hK;clear hK K
  refine W.cond rfl (fun h3=>?_) (fun h3=>?_)
  ·try simp only[RL]at h3
   refine W.r fun K hK=>?_
   simp(disch:=omega)only[↓RU,RV,RH,↓reduceIte,qE,reduceCtorEq,if_pos]
   apply hK;clear hK K
   refine W.ret ?_
   refine XBlock.ret ?_
   refine XThen.ret ?_
   refine XThen.ret ?_
   refine XBlock.ret ?_
   refine XThen.ret ?_
   refine Br rfl ?_
   rw [show zgf p needs=false by unfold zgf; rw [show needs.all zks=false from List.all_eq_false.2 ⟨x,hxm,by simpa [zks] using h3⟩]; simp]
   rfl
  try simp only[RL]at h3
  refine W.skip ?_
  refine XbN ?_
  refine xn ?_
  refine W.k fun K hK=>?_
  simp(disch:=omega)only[↓RU,RV,RH,↓reduceIte,qE,reduceCtorEq,if_pos,w64,zaa]
  apply hK;clear hK K
  refine xn ?_
  refine ⟨needs.length - (i+1),by omega,0,i+1,rfl,by omega,zmp hx (by assumption) (by simpa [zks] using h3),?_,rfl⟩
  simp [Env.put,Env.of]
 try simp only[RL]at h2
 refine W.exit ?_
 refine xe ?_
 refine xe ?_
 refine XBlock.hit ?_
 refine xn ?_
 refine W.r fun K hK=>?_
 simp(disch:=omega)only[↓RU,RV,RH,↓reduceIte,qE,reduceCtorEq,if_pos]
 apply hK;clear hK K
 refine W.ret ?_
 refine Br rfl ?_
 have hip:needs.take i=needs:=qT (by omega)
 rw [hip]at hall
 rw [show zgf p needs=true by simp only[zgf,hg,hall,h1,decide_true,Bool.and_self]]
 rfl
theorem zne {p:List Txt} (hl:p.length≤9223372036854775807) (hr:∀ r∈p,r.length≤9223372036854775807) {left:Int} (h0:0≤left) (h1:left≤1048576):PC Tryz.prog 16 [za1 p,.int .i64 left] (.int .i64 (sz p left)) true:=by
 refine PC.of ⟨Tryz.func16,by kernel_rfl,rfl,by kernel_rfl⟩ za4 mixed (by show 2≤Tryz.f16.ntmps; decide) ?_
 refine W.r fun K hK=>?_
 simp(disch:=omega)only[↓RU,RV,RH,↓reduceIte,qE,reduceCtorEq,if_pos]
 apply hK;clear hK K
 refine W.r fun K hK=>?_
 simp(disch:=omega)only[↓RU,RV,RH,↓reduceIte,qE,reduceCtorEq,if_pos,w64,ty3,zaa,zah]
 apply hK;clear hK K
 refine W.seq ?_
 refine W.r fun K hK=>?_
 simp(disch:=omega)only[↓RU,RV,RH,↓reduceIte,qE,reduceCtorEq,if_pos,w64,zaa]
 apply hK;clear hK K
 refine W.cond rfl (fun h2=>?_) (fun h2=>?_)
 ·try simp only[RL]at h2
  refine W.r fun K hK=>?_
  simp(disch:=omega)only[↓RU,RV,RH,↓reduceIte,qE,reduceCtorEq,if_pos]
  apply hK;clear hK K
  refine W.ret ?_
  refine XThen.ret ?_
  refine Br rfl ?_
  rw [show sz p left = -1 by simp only[sz]; rw [if_neg (by omega)]]
  rfl
 try simp only[RL]at h2
 refine W.skip ?_
 refine xn ?_
 refine W.seq ?_
 refine W.r fun K hK=>?_
 simp(disch:=omega)only[↓RU,RV,RH,↓reduceIte,qE,reduceCtorEq,if_pos]
 apply hK;clear hK K
 refine W.block ?_
 refine W.loop [0,1,5] (fun n vs S=>∃ i:Nat,n=p.length - i∧i≤p.length∧((zhr (p.take i):Int)≤left - p.length)∧vs=[za1 p,.int .i64 (left - p.length - zhr (p.take i)),.int .i64 i]∧S=⟨[],0⟩) (p.length) ?_ ?_
 ·refine ⟨0,0,rfl,Nat.zero_le _,by simp [zhr]; omega,?_,rfl⟩
  simp [Env.put,Env.of,zad,zhr]
 rintro n vs S - ⟨i,rfl,h_i,hge,rfl,rfl⟩
 refine W.seq ?_
 refine W.r fun K hK=>?_
 simp(disch:=omega)only[↓RU,RV,RH,↓reduceIte,qE,reduceCtorEq,if_pos,w64,ty3,zaa,zah]
 apply hK;clear hK K
 refine W.cond rfl (fun h3=>?_) (fun h3=>?_)
 ·try simp only[RL]at h3
  obtain ⟨r,hr1,hrm⟩:=zaf (show i<p.length by omega)
  have hrl:=hr r hrm
  have hst:=z1l hr1
  have hsl:=z7y (p:=p) (i:=i+1)
  refine W.skip ?_
  refine xn ?_
  refine W.seq ?_
  refine W.block ?_
  refine W.r fun K hK=>?_
  simp(disch:=omega)only[↓RU,RV,RH,↓reduceIte,qE,reduceCtorEq,if_pos,w64,ty3,zaa,zah,hr1]
  apply hK;clear hK K
  refine W.r fun K hK=>?_
  simp(disch:=omega)only[↓RU,RV,RH,↓reduceIte,qE,reduceCtorEq,if_pos,w64,zaa]
  apply hK;clear hK K
  refine W.cond rfl (fun h4=>?_) (fun h4=>?_)
  ·try simp only[RL]at h4
   refine W.r fun K hK=>?_
   simp(disch:=omega)only[↓RU,RV,RH,↓reduceIte,qE,reduceCtorEq,if_pos]
   apply hK;clear hK K
   refine W.ret ?_
   refine XBlock.ret ?_
   refine XThen.ret ?_
   refine XThen.ret ?_
   refine XBlock.ret ?_
   refine XThen.ret ?_
   refine Br rfl ?_
   rw [show sz p left = -1 by simp only[sz]; rw [if_neg (by omega)]]
   rfl
  try simp only[RL]at h4
  refine W.skip ?_
  refine XbN ?_
  refine xn ?_
  refine W.k fun K hK=>?_
  simp(disch:=omega)only[↓RU,RV,RH,↓reduceIte,qE,reduceCtorEq,if_pos,w64,zaa]
  apply hK;clear hK K
  refine xn ?_
  refine ⟨p.length - (i+1),by omega,0,i+1,rfl,by omega,by omega,?_,rfl⟩
  simp [Env.put,Env.of,hst]
  omega
 try simp only[RL]at h3
 refine W.exit ?_
 refine xe ?_
 refine xe ?_
 refine XBlock.hit ?_
 refine xn ?_
 refine W.r fun K hK=>?_
 simp(disch:=omega)only[↓RU,RV,RH,↓reduceIte,qE,reduceCtorEq,if_pos]
 apply hK;clear hK K
 refine W.ret ?_
 refine Br rfl ?_
 have hip:p.take i=p:=qT (by omega)
 rw [hip]at hge ⊢
 rw [show sz p left=left - p.length - zhr p by simp only[sz]; rw [if_pos (by omega)]; omega]
 rfl
theorem zin {p:List Txt} (hp:p.length≤1048576):PN Tryz.prog 18 [za1 p] (.loc 0 0 0 p.length) [.arr 0 9 1 (p.map .str)] false:=by
 refine PN.of ⟨Tryz.func18,by kernel_rfl,rfl,by kernel_rfl⟩ za4 mixed (by show 1≤Tryz.f18.ntmps; decide) ?_
 refine W.r fun K hK=>?_
 simp(disch:=omega)only[↓RU,RV,RH,↓reduceIte,qE,reduceCtorEq,if_pos,↓RS,RG,qA,qM,qL]
 apply hK;clear hK K
 refine W.r fun K hK=>?_
 simp(disch:=omega)only[↓RU,RV,RH,↓reduceIte,qE,reduceCtorEq,if_pos,↓RS,RG,qA,qM,qL,ty3,zah,zk3,zhl]
 apply hK;clear hK K
 refine W.seq ?_
 refine W.r fun K hK=>?_
 simp(disch:=omega)only[↓RU,RV,RH,↓reduceIte,qE,reduceCtorEq,if_pos,↓RS,RG,qA,qM,qL]
 apply hK;clear hK K
 refine W.block ?_
 refine W.loop [0,3,4] (fun n vs S=>∃ i:Nat,n=p.length - i∧i≤p.length∧vs=[za1 p,.loc 0 0 0 p.length,.int .i64 i]∧S=⟨[.arr 0 9 1 ((p.take i++List.replicate (p.length - i) []).map .str)],1⟩) (p.length) ?_ ?_
 ·refine ⟨1,0,rfl,Nat.zero_le _,?_,by simp [zch]⟩
  simp [Env.put,Env.of,zad]
 rintro n vs S - ⟨i,rfl,h_i,rfl,rfl⟩
 refine W.seq ?_
 refine W.r fun K hK=>?_
 simp(disch:=omega)only[↓RU,RV,RH,↓reduceIte,qE,reduceCtorEq,if_pos,w64,↓RS,RG,qA,qM,qL,ty3,zaa,zah]
 apply hK;clear hK K
 refine W.cond rfl (fun h=>?_) (fun h=>?_)
 ·try simp only[RL]at h
  obtain ⟨r,hr,hrm⟩:=zaf (show i<p.length by omega)
  have hcl:(p.take i++List.replicate (p.length - i) []).length=p.length:=by simp; omega
  refine W.skip ?_
  refine xn ?_
  refine W.seq ?_
  refine W.block ?_
  refine W.k fun K hK=>?_
  simp(disch:=omega)only[↓RU,RV,RH,↓reduceIte,qE,reduceCtorEq,if_pos,↓RS,RG,qA,qM,qL,ty3,zah,hr,hcl,zdc,zps]
  apply hK;clear hK K
  refine XbN ?_
  refine xn ?_
  refine W.k fun K hK=>?_
  simp(disch:=omega)only[↓RU,RV,RH,↓reduceIte,qE,reduceCtorEq,if_pos,w64,↓RS,RG,qA,qM,qL,zaa]
  apply hK;clear hK K
  refine xn ?_
  refine ⟨p.length - (i+1),by omega,1,i+1,rfl,by omega,?_,?_⟩
  ·simp [Env.put,Env.of]
  simp only[zch]; rw [zt0 hr]; rfl
 try simp only[RL]at h
 obtain rfl:i=p.length:=by omega
 refine W.exit ?_
 refine xe ?_
 refine xe ?_
 refine XBlock.hit ?_
 refine xn ?_
 refine W.r fun K hK=>?_
 simp(disch:=omega)only[↓RU,RV,RH,↓reduceIte,qE,reduceCtorEq,if_pos,↓RS,RG,qA,qM,qL]
 apply hK;clear hK K
 refine W.ret ?_
 refine Br rfl ?_
 rw [List.take_length,Nat.sub_self,List.replicate_zero,qN]
 exact z87 rfl (yaw _)
theorem zim {p:List Int} (hp:p.length≤1048576):PN Tryz.prog 19 [eInts p] (.loc 0 0 0 p.length) [.arr 0 3 1 (p.map (.int .i64))] false:=by
 refine PN.of ⟨Tryz.func19,by kernel_rfl,rfl,by kernel_rfl⟩ za4 mixed (by show 1≤Tryz.f19.ntmps; decide) ?_
 refine W.r fun K hK=>?_
 simp(disch:=omega)only[↓RU,RV,RH,↓reduceIte,qE,reduceCtorEq,if_pos,↓RS,RG,qA,qM,qL]
 apply hK;clear hK K
 refine W.r fun K hK=>?_
 simp(disch:=omega)only[↓RU,RV,RH,↓reduceIte,qE,reduceCtorEq,if_pos,↓RS,RG,qA,qM,qL,zab,zaa,zfy,zhl]
 apply hK;clear hK K
 refine W.seq ?_
 refine W.r fun K hK=>?_
 simp(disch:=omega)only[↓RU,RV,RH,↓reduceIte,qE,reduceCtorEq,if_pos,↓RS,RG,qA,qM,qL]
 apply hK;clear hK K
 refine W.block ?_
 refine W.loop [0,3,4] (fun n vs S=>∃ i:Nat,n=p.length - i∧i≤p.length∧vs=[eInts p,.loc 0 0 0 p.length,.int .i64 i]∧S=⟨[.arr 0 3 1 ((p.take i++List.replicate (p.length - i) 0).map (.int .i64))],1⟩) (p.length) ?_ ?_
 ·refine ⟨1,0,rfl,Nat.zero_le _,?_,by simp [zch]⟩
  simp [Env.put,Env.of,zad]
 rintro n vs S - ⟨i,rfl,h_i,rfl,rfl⟩
 refine W.seq ?_
 refine W.r fun K hK=>?_
 simp(disch:=omega)only[↓RU,RV,RH,↓reduceIte,qE,reduceCtorEq,if_pos,w64,↓RS,RG,qA,qM,qL,zab,zaa]
 apply hK;clear hK K
 refine W.cond rfl (fun h=>?_) (fun h=>?_)
 ·try simp only[RL]at h
  obtain ⟨r,hr,hrm⟩:=zaf (show i<p.length by omega)
  have hcl:(p.take i++List.replicate (p.length - i) 0).length=p.length:=by simp; omega
  refine W.skip ?_
  refine xn ?_
  refine W.seq ?_
  refine W.block ?_
  refine W.k fun K hK=>?_
  simp(disch:=omega)only[↓RU,RV,RH,↓reduceIte,qE,reduceCtorEq,if_pos,↓RS,RG,qA,qM,qL,zab,zaa,hr,hcl,zdc,zea]
  apply hK;clear hK K
  refine XbN ?_
  refine xn ?_
  refine W.k fun K hK=>?_
  simp(disch:=omega)only[↓RU,RV,RH,↓reduceIte,qE,reduceCtorEq,if_pos,w64,↓RS,RG,qA,qM,qL,zaa]
  apply hK;clear hK K
  refine xn ?_
  refine ⟨p.length - (i+1),by omega,1,i+1,rfl,by omega,?_,?_⟩
  ·simp [Env.put,Env.of]
  simp only[zch]; rw [zt0 hr]; rfl
 try simp only[RL]at h
 obtain rfl:i=p.length:=by omega
 refine W.exit ?_
 refine xe ?_
 refine xe ?_
 refine XBlock.hit ?_
 refine xn ?_
 refine W.r fun K hK=>?_
 simp(disch:=omega)only[↓RU,RV,RH,↓reduceIte,qE,reduceCtorEq,if_pos,↓RS,RG,qA,qM,qL]
 apply hK;clear hK K
 refine W.ret ?_
 refine Br rfl ?_
 rw [List.take_length,Nat.sub_self,List.replicate_zero,qN]
 exact z87 rfl (z5c _)
theorem zeg {p:List Txt} (hp:p.length≤1048576):PC Tryz.prog 18 [za1 p] (za1 p) true :=
 PN.pc (zin hp) rfl (by simp only[List.map_cons,List.map_nil,zln,z0f,zx4,Nat.add_zero]; exact zbc rfl (by simp) (zem _))
theorem zdg {p:List Int} (hp:p.length≤1048576):PC Tryz.prog 19 [eInts p] (eInts p) true :=
 PN.pc (zim hp) rfl (by simp only[List.map_cons,List.map_nil,zln,z0f,ztf,Nat.add_zero]; exact zbc rfl (by simp) (zdw _))
theorem zmy {p q:List Txt} (hp:p.length<2147483648) (hq:q.length<2147483648):PC Tryz.prog 22 [za1 p,za1 q] (.bool (decide (p=q))) true:=by
 refine PC.of ⟨Tryz.func22,by kernel_rfl,rfl,by kernel_rfl⟩ za4 mixed (by show 2≤Tryz.f22.ntmps; decide) ?_
 refine W.r fun K hK=>?_
 simp(disch:=omega)only[↓RU,RV,RH,↓reduceIte,qE,reduceCtorEq,if_pos]
 apply hK;clear hK K
 refine W.seq ?_
 refine W.r fun K hK=>?_
 simp(disch:=omega)only[↓RU,RV,RH,↓reduceIte,qE,reduceCtorEq,if_pos,w64,ty3,zaa,zah]
 apply hK;clear hK K
 refine W.cond rfl (fun h=>?_) (fun h=>?_)
 ·try simp only[RL]at h
  refine W.r fun K hK=>?_
  simp(disch:=omega)only[↓RU,RV,RH,↓reduceIte,qE,reduceCtorEq,if_pos]
  apply hK;clear hK K
  refine W.ret ?_
  refine XThen.ret ?_
  refine Br rfl ?_
  rw [show decide (p=q)=false by simp; rintro rfl; exact h rfl]
  rfl
 try simp only[RL]at h
 refine W.skip ?_
 refine xn ?_
 refine W.seq ?_
 refine W.r fun K hK=>?_
 simp(disch:=omega)only[↓RU,RV,RH,↓reduceIte,qE,reduceCtorEq,if_pos]
 apply hK;clear hK K
 refine W.block ?_
 refine W.loop [0,1,5] (fun n vs S=>∃ i:Nat,n=p.length - i∧i≤p.length∧(p.take i=q.take i)∧vs=[za1 p,za1 q,.int .i64 i]∧S=⟨[],0⟩) (p.length) ?_ ?_
 ·refine ⟨0,0,rfl,Nat.zero_le _,rfl,?_,rfl⟩
  simp [Env.put,Env.of,zad]
 rintro n vs S - ⟨i,rfl,h_i,htk,rfl,rfl⟩
 refine W.seq ?_
 refine W.r fun K hK=>?_
 simp(disch:=omega)only[↓RU,RV,RH,↓reduceIte,qE,reduceCtorEq,if_pos,w64,ty3,zaa,zah]
 apply hK;clear hK K
 refine W.cond rfl (fun h1=>?_) (fun h1=>?_)
 ·try simp only[RL]at h1
  obtain ⟨x,hx,-⟩:=zaf (show i<p.length by omega)
  obtain ⟨y,hy,-⟩:=zaf (show i<q.length by omega)
  refine W.skip ?_
  refine xn ?_
  refine W.seq ?_
  refine W.block ?_
  refine W.seq_draw (by kernel_rfl) fun K hK=>?_
  simp(disch:=omega)only[↓RU,RV,RH,↓reduceIte,qE,reduceCtorEq,if_pos,w64,ty3,zah,hx,hy]
  apply hK;clear hK K
  refine W.cond rfl (fun h2=>?_) (fun h2=>?_)
  ·try simp only[RL]at h2
   refine W.r fun K hK=>?_
   simp(disch:=omega)only[↓RU,RV,RH,↓reduceIte,qE,reduceCtorEq,if_pos]
   apply hK;clear hK K
   refine W.ret ?_
   refine XBlock.ret ?_
   refine XThen.ret ?_
   refine XThen.ret ?_
   refine XBlock.ret ?_
   refine XThen.ret ?_
   refine Br rfl ?_
   rw [show decide (p=q)=false by simp; rintro rfl; rw [hx]at hy; simp_all]
   rfl
  try simp only[RL]at h2
  refine W.skip ?_
  refine XbN ?_
  refine xn ?_
  refine W.k fun K hK=>?_
  simp(disch:=omega)only[↓RU,RV,RH,↓reduceIte,qE,reduceCtorEq,if_pos,w64,zaa]
  apply hK;clear hK K
  refine xn ?_
  refine ⟨p.length - (i+1),by omega,0,i+1,rfl,by omega,zil htk hx hy h2,?_,rfl⟩
  simp [Env.put,Env.of]
 try simp only[RL]at h1
 refine W.exit ?_
 refine xe ?_
 refine xe ?_
 refine XBlock.hit ?_
 refine xn ?_
 refine W.r fun K hK=>?_
 simp(disch:=omega)only[↓RU,RV,RH,↓reduceIte,qE,reduceCtorEq,if_pos]
 apply hK;clear hK K
 refine W.ret ?_
 refine Br rfl ?_
 have h1:p.take i=p:=qT (by omega)
 have h2:q.take i=q:=qT (by omega)
 rw [show decide (p=q)=true by simp; rw [← h1,← h2]; exact htk]
 rfl
theorem zh7 {p q:List Int} (hp:p.length<2147483648) (hq:q.length<2147483648):PC Tryz.prog 23 [eInts p,eInts q] (.bool (decide (p=q))) true:=by
 refine PC.of ⟨Tryz.func23,by kernel_rfl,rfl,by kernel_rfl⟩ za4 mixed (by show 2≤Tryz.f23.ntmps; decide) ?_
 refine W.r fun K hK=>?_
 simp(disch:=omega)only[↓RU,RV,RH,↓reduceIte,qE,reduceCtorEq,if_pos]
 apply hK;clear hK K
 refine W.seq ?_
 refine W.r fun K hK=>?_
 simp(disch:=omega)only[↓RU,RV,RH,↓reduceIte,qE,reduceCtorEq,if_pos,w64,zab,zaa]
 apply hK;clear hK K
 refine W.cond rfl (fun h=>?_) (fun h=>?_)
 ·try simp only[RL]at h
  refine W.r fun K hK=>?_
  simp(disch:=omega)only[↓RU,RV,RH,↓reduceIte,qE,reduceCtorEq,if_pos]
  apply hK;clear hK K
  refine W.ret ?_
  refine XThen.ret ?_
  refine Br rfl ?_
  rw [show decide (p=q)=false by simp; rintro rfl; exact h rfl]
  rfl
 try simp only[RL]at h
 refine W.skip ?_
 refine xn ?_
 refine W.seq ?_
 refine W.r fun K hK=>?_
 simp(disch:=omega)only[↓RU,RV,RH,↓reduceIte,qE,reduceCtorEq,if_pos]
 apply hK;clear hK K
 refine W.block ?_
 refine W.loop [0,1,5] (fun n vs S=>∃ i:Nat,n=p.length - i∧i≤p.length∧(p.take i=q.take i)∧vs=[eInts p,eInts q,.int .i64 i]∧S=⟨[],0⟩) (p.length) ?_ ?_
 ·refine ⟨0,0,rfl,Nat.zero_le _,rfl,?_,rfl⟩
  simp [Env.put,Env.of,zad]
 rintro n vs S - ⟨i,rfl,h_i,htk,rfl,rfl⟩
 refine W.seq ?_
 refine W.r fun K hK=>?_
 simp(disch:=omega)only[↓RU,RV,RH,↓reduceIte,qE,reduceCtorEq,if_pos,w64,zab,zaa]
 apply hK;clear hK K
 refine W.cond rfl (fun h1=>?_) (fun h1=>?_)
 ·try simp only[RL]at h1
  obtain ⟨x,hx,-⟩:=zaf (show i<p.length by omega)
  obtain ⟨y,hy,-⟩:=zaf (show i<q.length by omega)
  refine W.skip ?_
  refine xn ?_
  refine W.seq ?_
  refine W.block ?_
  refine W.seq_draw (by kernel_rfl) fun K hK=>?_
  simp(disch:=omega)only[↓RU,RV,RH,↓reduceIte,qE,reduceCtorEq,if_pos,w64,zab,zaa,hx,hy]
  apply hK;clear hK K
  refine W.cond rfl (fun h2=>?_) (fun h2=>?_)
  ·try simp only[RL]at h2
   refine W.r fun K hK=>?_
   simp(disch:=omega)only[↓RU,RV,RH,↓reduceIte,qE,reduceCtorEq,if_pos]
   apply hK;clear hK K
   refine W.ret ?_
   refine XBlock.ret ?_
   refine XThen.ret ?_
   refine XThen.ret ?_
   refine XBlock.ret ?_
   refine XThen.ret ?_
   refine Br rfl ?_
   rw [show decide (p=q)=false by simp; rintro rfl; rw [hx]at hy; simp_all]
   rfl
  try simp only[RL]at h2
  refine W.skip ?_
  refine XbN ?_
  refine xn ?_
  refine W.k fun K hK=>?_
  simp(disch:=omega)only[↓RU,RV,RH,↓reduceIte,qE,reduceCtorEq,if_pos,w64,zaa]
  apply hK;clear hK K
  refine xn ?_
  refine ⟨p.length - (i+1),by omega,0,i+1,rfl,by omega,zil htk hx hy h2,?_,rfl⟩
  simp [Env.put,Env.of]
 try simp only[RL]at h1
 refine W.exit ?_
 refine xe ?_
 refine xe ?_
 refine XBlock.hit ?_
 refine xn ?_
 refine W.r fun K hK=>?_
 simp(disch:=omega)only[↓RU,RV,RH,↓reduceIte,qE,reduceCtorEq,if_pos]
 apply hK;clear hK K
 refine W.ret ?_
 refine Br rfl ?_
 have h1:p.take i=p:=qT (by omega)
 have h2:q.take i=q:=qT (by omega)
 rw [show decide (p=q)=true by simp; rw [← h1,← h2]; exact htk]
 rfl

section
section
variable {M:List (List Bool)} {ms:List Nat} {ws:List Int} {n:Nat} {rk:Nat→Nat}
def revM (n:Nat) (M:List (List Bool)):List (List Bool):=(List.range n).map fun a=>(List.range n).map fun b=>zc7 M b a
def bhB (sets:List Nat) (needs:List Int) (a:Nat) (out:List Int) (b:Nat):List Int :=
 if zr1 sets a b then out.set a (max (zhg out a) (zhg out b+zhg needs b)) else out
def bhA (sets:List Nat) (needs:List Int) (out:List Int) (a:Nat):List Int:=(List.range needs.length).foldl (bhB sets needs a) out
def bhN (sets:List Nat) (needs:List Int) (out:List Int) (_:Nat):List Int:=(List.range needs.length).foldl (bhA sets needs) out
def behind (sets:List Nat) (needs:List Int):List Int:=(List.range needs.length).foldl (bhN sets needs) (List.replicate needs.length 0)
end
theorem z4f {p:List Txt} {ws:List Int} (h:zd1 p [ws]=true):Same (rP p).length (zur (gP p) p.length (w0 (zbw p)) (rP p).length) (ybd p 0)∧Same (rP p).length (zmn (gP p) p.length (w0 (zbw p)) (rP p).length) (ybd p 1) ∧
  Up (zur (gP p) p.length (w0 (zbw p)) (rP p).length) (rP p).length (rkL p)∧Up (zmn (gP p) p.length (w0 (zbw p)) (rP p).length) (rP p).length (rkA p)∧ws.length=(rP p).length∧1≤(rP p).length∧zht ws:=by
 obtain ⟨h1,h2,h3⟩:=zpb h
 have hok:okB p=true:=by
  have h9:=h1
  unfold zfc zfq at h9
  simp only[qB]at h9
  exact h9.1.1
 have hn1:=z03 hok
 rw [zic]at h1
 have hp:=zl7 h1
 have hN:=zc1 hp
 obtain ⟨u0,u1⟩:=yaf hp
 have hr:=hN.rooms
 obtain ⟨s0,s1⟩:=z7s hN.hg (n:=(rP p).length) (by omega) (fun i j hi hj=>hN.cell hi hj) zoy
 rw [zg3]
 exact ⟨s0,s1,u0,u1,h2,hn1,h3⟩
end
def mkL:Nat→Nat→Txt→Txt
 | 0,_,s=>s
 | f+1,k,s=>if k=0 then s else mkL f (k / 10) (UInt8.ofNat (48+k % 10)::s)
def z6y (k:Int):Txt:=if k≤0 then [109,48] else 109::mkL 41 k.toNat []
theorem z60:∀ {f:Nat} {s:Txt},mkL f 0 s=s
 | 0,_=>rfl
 | _+1,_=>by simp [mkL]
theorem z6z {f k:Nat} {s:Txt} (h:0<k):mkL (f+1) k s=mkL f (k / 10) (UInt8.ofNat (48+k % 10)::s):=by rw [mkL,if_neg (by omega)]
theorem ten0:((10:Int)=0)=False:=by simp
theorem z71 {k:Nat}:((k:Int)).tmod 10=((k % 10:Nat):Int):=(Int.ofNat_tmod k 10).symm
theorem z7z {k:Nat}:((k:Int)).tdiv 10=((k / 10:Nat):Int):=(Int.ofNat_tdiv k 10).symm
theorem z9u {k:Nat}:(48:Int)+((k % 10:Nat):Int)=((48+k % 10:Nat):Int):=by omega
theorem z12 {b:UInt8}:zev [PV.int .u8 (b.toNat:Int)]=some [b]:=by simp [zev]
theorem zxd {k0:Int} (h0 : -1≤k0) (h1:k0≤1099511627776):PC Tryz.prog 63 [.int .i64 k0] (.str (z6y k0)) true:=by
 refine PC.of ⟨Tryz.func63,by kernel_rfl,rfl,by kernel_rfl⟩ za4 mixed (by show 1≤Tryz.f63.ntmps; decide) ?_
 refine W.r fun K hK=>?_
 simp(disch:=omega)only[↓RU,RV,RH,↓reduceIte,qE,reduceCtorEq,if_pos,↓RS,RG,qA,qM,qL]
 apply hK;clear hK K
 refine W.seq ?_
 refine W.r fun K hK=>?_
 simp(disch:=omega)only[↓RU,RV,RH,↓reduceIte,qE,reduceCtorEq,if_pos,w64,↓RS,RG,qA,qM,qL,zaa]
 apply hK;clear hK K
 refine W.cond rfl (fun h=>?_) (fun h=>?_)
 ·try simp only[RL]at h
  refine W.r fun K hK=>?_
  simp(disch:=omega)only[↓RU,RV,RH,↓reduceIte,qE,reduceCtorEq,if_pos,↓RS,RG,qA,qM,qL]
  apply hK;clear hK K
  refine W.ret ?_
  refine XThen.ret ?_
  refine Br rfl ?_
  rw [z6y,if_pos (by omega)]
  rfl
 try simp only[RL]at h
 obtain ⟨k1,rfl⟩:∃ k1:Nat,k0=k1:=⟨k0.toNat,by omega⟩
 refine W.skip ?_
 refine xn ?_
 refine W.r fun K hK=>?_
 simp(disch:=omega)only[↓RU,RV,RH,↓reduceIte,qE,reduceCtorEq,if_pos,↓RS,RG,qA,qM,qL]
 apply hK;clear hK K
 refine W.seq ?_
 refine W.block ?_
 refine W.loop [0,3] (fun n vs S=>∃ j k tk:Nat,∃ s:Txt,n=41 - j∧j≤41∧k<2 ^ (41 - j)∧k≤1099511627776∧s.length=j∧mkL (41 - j) k s=mkL 41 k1 []∧vs=[.int .i64 (k:Nat),.str s]∧S=⟨[],tk⟩) 41 ?_ ?_
 ·refine ⟨0,0,k1,0,[],rfl,by omega,by omega,by omega,rfl,rfl,?_,rfl⟩
  simp [Env.put,Env.of,zad]
 rintro n vs S - ⟨j,k,tk,s,rfl,h_j,hkf,hkl,hsf,hmk,rfl,rfl⟩
 refine W.seq ?_
 refine W.r fun K hK=>?_
 simp(disch:=omega)only[↓RU,RV,RH,↓reduceIte,qE,reduceCtorEq,if_pos,w64,↓RS,RG,qA,qM,qL,zaa]
 apply hK;clear hK K
 refine W.cond rfl (fun h2=>?_) (fun h2=>?_)
 ·try simp only[RL]at h2
  have hj1:j≠41:=by rintro rfl; simp at hkf; omega
  obtain ⟨f,hf⟩:∃ f,41 - j=f+1:=⟨40 - j,by omega⟩
  rw [hf]at hkf hmk
  rw [Nat.pow_succ]at hkf
  rw [z6z (by omega)]at hmk
  refine W.skip ?_
  refine xn ?_
  refine W.block ?_
  refine W.r fun K hK=>?_
  simp(disch:=omega)only[↓RU,RV,RH,↓reduceIte,qE,reduceCtorEq,if_pos,w64,w64,↓RS,RG,qA,qM,qL,ty4,zaa,zah,zhh,z7e,ten0,z71,z9u,yc4,z12,zok,qO,List.length_cons,List.length_nil]
  apply hK;clear hK K
  refine W.k fun K hK=>?_
  simp(disch:=omega)only[↓RU,RV,RH,↓reduceIte,qE,reduceCtorEq,if_pos,w64,↓RS,RG,qA,qM,qL,zaa,ten0,z7z]
  apply hK;clear hK K
  refine XbN ?_
  refine xn ?_
  refine ⟨41 - (j+1),by omega,0,j+1,k / 10,_,_,rfl,by omega,by rw [show 41 - (j+1)=f by omega]; omega,by omega,?_,by rw [show 41 - (j+1)=f by omega]; exact hmk,?_,rfl⟩
  ·simp [hsf]
  simp [Env.put,Env.of]
 try simp only[RL]at h2
 obtain rfl:k=0:=by omega
 rw [z60]at hmk
 refine W.exit ?_
 refine xe ?_
 refine xe ?_
 refine XBlock.hit ?_
 refine xn ?_
 refine W.r fun K hK=>?_
 simp(disch:=omega)only[↓RU,RV,RH,↓reduceIte,qE,reduceCtorEq,if_pos,w64,↓RS,RG,qA,qM,qL,zah,z7e]
 apply hK;clear hK K
 refine W.ret ?_
 refine Br rfl ?_
 rw [z6y,if_neg (by omega),Int.toNat_natCast,← hmk]
 rfl
theorem zjg {F R:List Ob} {ver t:Nat} {l:List Txt} (hl:l.length≤1048576) {k0:Int} (hk0:0≤k0) (hk1:k0≤4294967296):Ev Tryz.prog 24 [.loc F.length ver 0 l.length,.int .i64 k0] ⟨F ++ .arr ver 9 1 (l.map .str)::R,t⟩ fun v S=>v = .int .i64 (k0+l.length)∧∃ ts:List Txt,ts.length=l.length∧S=⟨F ++ .arr ver 9 1 (ts.map .str)::R,t⟩:=by
 refine Ev.of ⟨Tryz.func24,by kernel_rfl,rfl,by kernel_rfl⟩ za4 mixed (by show 2≤Tryz.f24.ntmps; decide) ?_
 refine W.r fun K hK=>?_
 simp(disch:=omega)only[↓RU,RV,RH,↓reduceIte,qE,reduceCtorEq,if_pos,↓RS,RG,qA,qM,qL,gF,zeh]
 apply hK;clear hK K
 refine W.seq ?_
 refine W.r fun K hK=>?_
 simp(disch:=omega)only[↓RU,RV,RH,↓reduceIte,qE,reduceCtorEq,if_pos,↓RS,RG,qA,qM,qL,gF,zeh]
 apply hK;clear hK K
 refine W.block ?_
 refine W.loop [0,1,5] (fun n vs S=>∃ (i:Nat) (ts:List Txt),n=l.length - i∧i≤l.length∧ts.length=l.length∧vs=[.loc F.length ver 0 l.length,.int .i64 (k0+i),.int .i64 i]∧S=⟨F ++ .arr ver 9 1 (ts.map .str)::R,t⟩) l.length ?_ ?_
 ·refine ⟨_,0,l,rfl,by omega,rfl,?_,zbj⟩
  simp [Env.put,Env.of,zad]
 rintro n vs S - ⟨i,ts,rfl,h_i,hts,rfl,rfl⟩
 refine W.seq ?_
 refine W.r fun K hK=>?_
 simp(disch:=omega)only[↓RU,RV,RH,↓reduceIte,qE,reduceCtorEq,if_pos,w64,↓RS,RG,qA,qM,qL,ty3,zaa,zah,gF,zeh]
 apply hK;clear hK K
 refine W.cond rfl (fun h=>?_) (fun h=>?_)
 ·try simp only[RL]at h
  refine W.skip ?_
  refine xn ?_
  refine W.seq ?_
  refine W.block ?_
  refine W.r fun K hK=>?_
  simp(disch:=omega)only[↓RU,RV,RH,↓reduceIte,qE,reduceCtorEq,if_pos,qN,↓RS,RG,qA,qM,qL,ty3,zah,gF,zeh,hts,zdc,zps]
  refine zag.pc (zxd (k0:=k0+i) (by omega) (by omega)) rfl (.inl rfl) ?_
  simp(disch:=omega)only[↓RU,RV,RH,↓reduceIte,qE,reduceCtorEq,if_pos,qN,↓RS,RG,qA,qM,qL,ty3,zah,gF,zeh,hts,zdc,zps]
  apply hK;clear hK K
  refine W.k fun K hK=>?_
  simp(disch:=omega)only[↓RU,RV,RH,↓reduceIte,qE,reduceCtorEq,if_pos,w64,↓RS,RG,qA,qM,qL,zaa,gF,zeh]
  apply hK;clear hK K
  refine XbN ?_
  refine xn ?_
  refine W.k fun K hK=>?_
  simp(disch:=omega)only[↓RU,RV,RH,↓reduceIte,qE,reduceCtorEq,if_pos,w64,↓RS,RG,qA,qM,qL,zaa,gF,zeh]
  apply hK;clear hK K
  refine xn ?_
  refine ⟨l.length - (i+1),by omega,_,i+1,ts.set i (z6y (k0+i)),rfl,by omega,by simpa using hts,?_,zbj⟩
  simp [Env.put,Env.of,Int.add_assoc]
 try simp only[RL]at h
 obtain rfl:i=l.length:=by omega
 refine W.exit ?_
 refine xe ?_
 refine xe ?_
 refine XBlock.hit ?_
 refine xn ?_
 refine W.r fun K hK=>?_
 simp(disch:=omega)only[↓RU,RV,RH,↓reduceIte,qE,reduceCtorEq,if_pos,↓RS,RG,qA,qM,qL,gF,zeh]
 apply hK;clear hK K
 refine W.ret ?_
 refine Br rfl ?_
 exact ⟨_,rfl,ts,hts,zbj⟩
theorem z2v {ts:List Int} {k0:Int} {i:Nat} (h:∀ j:Nat,j<i→ts[j]?=some (k0+j)) (hi:i<ts.length):∀ j:Nat,j<i+1→(ts.set i (k0+i))[j]?=some (k0+j):=by
 intro j hj
 rw [List.getElem?_set]
 by_cases e:i=j
 ·subst e; rw [if_pos rfl,if_pos hi]
 rw [if_neg e]; exact h j (by omega)
theorem zge {F R:List Ob} {ver t:Nat} {l:List Int} (hl:l.length≤1048576) {k0:Int} (hk0:0≤k0) (hk1:k0≤4294967296):Ev Tryz.prog 25 [.loc F.length ver 0 l.length,.int .i64 k0] ⟨F ++ .arr ver 3 1 (l.map (.int .i64))::R,t⟩ fun v S=>v = .int .i64 (k0+l.length)∧∃ ts:List Int,ts.length=l.length∧(∀ j:Nat,j<l.length→ts[j]?=some (k0+j))∧S=⟨F ++ .arr ver 3 1 (ts.map (.int .i64))::R,t⟩:=by
 refine Ev.of ⟨Tryz.func25,by kernel_rfl,rfl,by kernel_rfl⟩ za4 mixed (by show 2≤Tryz.f25.ntmps; decide) ?_
 refine W.r fun K hK=>?_
 simp(disch:=omega)only[↓RU,RV,RH,↓reduceIte,qE,reduceCtorEq,if_pos,↓RS,RG,qA,qM,qL,gF,zeh]
 apply hK;clear hK K
 refine W.seq ?_
 refine W.r fun K hK=>?_
 simp(disch:=omega)only[↓RU,RV,RH,↓reduceIte,qE,reduceCtorEq,if_pos,↓RS,RG,qA,qM,qL,gF,zeh]
 apply hK;clear hK K
 refine W.block ?_
 refine W.loop [0,1,5] (fun n vs S=>∃ (i:Nat) (ts:List Int),n=l.length - i∧i≤l.length∧ts.length=l.length∧(∀ j:Nat,j<i→ts[j]?=some (k0+j))∧vs=[.loc F.length ver 0 l.length,.int .i64 (k0+i),.int .i64 i]∧S=⟨F ++ .arr ver 3 1 (ts.map (.int .i64))::R,t⟩) l.length ?_ ?_
 ·refine ⟨_,0,l,rfl,by omega,rfl,fun j h=>absurd h (by omega),?_,zbj⟩
  simp [Env.put,Env.of,zad]
 rintro n vs S - ⟨i,ts,rfl,h_i,hts,hd,rfl,rfl⟩
 refine W.seq ?_
 refine W.r fun K hK=>?_
 simp(disch:=omega)only[↓RU,RV,RH,↓reduceIte,qE,reduceCtorEq,if_pos,w64,↓RS,RG,qA,qM,qL,zab,zaa,gF,zeh]
 apply hK;clear hK K
 refine W.cond rfl (fun h=>?_) (fun h=>?_)
 ·try simp only[RL]at h
  refine W.skip ?_
  refine xn ?_
  refine W.seq ?_
  refine W.block ?_
  refine W.r fun K hK=>?_
  simp(disch:=omega)only[↓RU,RV,RH,↓reduceIte,qE,reduceCtorEq,if_pos,↓RS,RG,qA,qM,qL,zab,zaa,gF,zeh,hts,zdc,zea]
  apply hK;clear hK K
  refine W.k fun K hK=>?_
  simp(disch:=omega)only[↓RU,RV,RH,↓reduceIte,qE,reduceCtorEq,if_pos,w64,↓RS,RG,qA,qM,qL,zaa,gF,zeh]
  apply hK;clear hK K
  refine XbN ?_
  refine xn ?_
  refine W.k fun K hK=>?_
  simp(disch:=omega)only[↓RU,RV,RH,↓reduceIte,qE,reduceCtorEq,if_pos,w64,↓RS,RG,qA,qM,qL,zaa,gF,zeh]
  apply hK;clear hK K
  refine xn ?_
  refine ⟨l.length - (i+1),by omega,_,i+1,ts.set i (k0+i),rfl,by omega,by simpa using hts,z2v hd (by omega),?_,zbj⟩
  simp [Env.put,Env.of,Int.add_assoc]
 try simp only[RL]at h
 obtain rfl:i=l.length:=by omega
 refine W.exit ?_
 refine xe ?_
 refine xe ?_
 refine XBlock.hit ?_
 refine xn ?_
 refine W.r fun K hK=>?_
 simp(disch:=omega)only[↓RU,RV,RH,↓reduceIte,qE,reduceCtorEq,if_pos,↓RS,RG,qA,qM,qL,gF,zeh]
 apply hK;clear hK K
 refine W.ret ?_
 refine Br rfl ?_
 exact ⟨_,rfl,ts,hts,hd,zbj⟩
theorem zw1 {l:List Int} (hl:l.length≤1048576) {k0:Int} (hk0:0≤k0) (hk1:k0≤4294967296) (hd:∀ j:Nat,j<l.length→l[j]?=some (k0+j)):PC Tryz.prog 64 [eInts l,.int .i64 k0] (.int .i64 (k0+l.length)) true:=by
 refine PC.of ⟨Tryz.func64,by kernel_rfl,rfl,by kernel_rfl⟩ za4 mixed (by show 2≤Tryz.f64.ntmps; decide) ?_
 refine W.r fun K hK=>?_
 simp(disch:=omega)only[↓RU,RV,RH,↓reduceIte,qE,reduceCtorEq,if_pos]
 apply hK;clear hK K
 refine W.seq ?_
 refine W.r fun K hK=>?_
 simp(disch:=omega)only[↓RU,RV,RH,↓reduceIte,qE,reduceCtorEq,if_pos]
 apply hK;clear hK K
 refine W.block ?_
 refine W.loop [0,1,5] (fun n vs S=>∃ i:Nat,n=l.length - i∧i≤l.length∧vs=[eInts l,.int .i64 (k0+i),.int .i64 i]∧S=⟨[],0⟩) (l.length) ?_ ?_
 ·refine ⟨0,0,rfl,Nat.zero_le _,?_,rfl⟩
  simp [Env.put,Env.of,zad]
 rintro n vs S - ⟨i,rfl,h_i,rfl,rfl⟩
 refine W.seq ?_
 refine W.r fun K hK=>?_
 simp(disch:=omega)only[↓RU,RV,RH,↓reduceIte,qE,reduceCtorEq,if_pos,w64,zab,zaa]
 apply hK;clear hK K
 refine W.cond rfl (fun h=>?_) (fun h=>?_)
 ·try simp only[RL]at h
  have hx:=hd i (by omega)
  refine W.skip ?_
  refine xn ?_
  refine W.seq ?_
  refine W.block ?_
  refine W.seq ?_
  refine W.r fun K hK=>?_
  have hne:((k0+(i:Int)) != (k0+(i:Int)))=false:=by simp
  simp(disch:=omega)only[↓RU,RV,RH,↓reduceIte,qE,reduceCtorEq,if_pos,w64,zab,zaa,hx]
  apply hK;clear hK K
  refine W.cond rfl (fun h1=>?_) (fun h1=>?_)
  ·try simp only[RL]at h1
   exact absurd h1 (by simp)
  try simp only[RL]at h1
  refine W.skip ?_
  refine xn ?_
  refine W.k fun K hK=>?_
  simp(disch:=omega)only[↓RU,RV,RH,↓reduceIte,qE,reduceCtorEq,if_pos,w64,zaa]
  apply hK;clear hK K
  refine XbN ?_
  refine xn ?_
  refine W.k fun K hK=>?_
  simp(disch:=omega)only[↓RU,RV,RH,↓reduceIte,qE,reduceCtorEq,if_pos,w64,zaa]
  apply hK;clear hK K
  refine xn ?_
  refine ⟨l.length - (i+1),by omega,0,i+1,rfl,by omega,?_,rfl⟩
  simp [Env.put,Env.of,Int.add_assoc]
 try simp only[RL]at h
 obtain rfl:i=l.length:=by omega
 refine W.exit ?_
 refine xe ?_
 refine xe ?_
 refine XBlock.hit ?_
 refine xn ?_
 refine W.r fun K hK=>?_
 simp(disch:=omega)only[↓RU,RV,RH,↓reduceIte,qE,reduceCtorEq,if_pos]
 apply hK;clear hK K
 refine W.ret ?_
 refine Br rfl ?_
 rfl

def ybe (x:Int × Int) (w h:Int):Bool:=decide (x.1≤w) && decide (x.2≤h)
def zho (w h:Int) (s:List (Int × Int) × Bool) (x:Int × Int):List (Int × Int) × Bool :=
 if w≤x.1∧h≤x.2 then s else if s.2=false∧w<x.1 then (s.1++[(w,h),x],true) else (s.1++[x],s.2)
def zfn (l:List (Int × Int)) (w h:Int):List (Int × Int) × Bool:=l.foldl (zho w h) ([],false)
def put (l:List (Int × Int)) (w h:Int):List (Int × Int):=if l.any (fun x=>ybe x w h) then l else if (zfn l w h).2 then (zfn l w h).1 else (zfn l w h).1++[(w,h)]
theorem zn3 {l:List (Int × Int)} {w h:Int}:∀ i,i≤l.length→(∀ y∈(zfn (l.take i) w h).1,y∈l.take i∨y=(w,h))∧(∀ x∈l.take i,x∈(zfn (l.take i) w h).1∨(w≤x.1∧h≤x.2))∧((zfn (l.take i) w h).2=true→(w,h)∈(zfn (l.take i) w h).1) ∧
  (zfn (l.take i) w h).1.length≤i+(if (zfn (l.take i) w h).2 then 1 else 0)
 | 0,_=>by simp [zfn]
 | i+1,hi=>by
  obtain ⟨h1,h2,h3,h4⟩:=zn3 (l:=l) (w:=w) (h:=h) i (by omega)
  obtain ⟨x,hx,-⟩:=zaf (show i<l.length by omega)
  have e:zfn (l.take (i+1)) w h=zho w h (zfn (l.take i) w h) x:=ze6 hx
  have et:l.take (i+1)=l.take i++[x]:=tk hx
  rw [e,et]
  generalize zfn (l.take i) w h=s at h1 h2 h3 h4
  obtain ⟨o,d⟩:=s
  unfold zho
  simp only at h1 h2 h3 h4 ⊢
  by_cases c1:w≤x.1∧h≤x.2
  ·rw [if_pos c1]
   refine ⟨fun y hy=>?_,fun y hy=>?_,h3,by split at h4 <;> split <;> simp_all <;> omega⟩
   ·rcases h1 y hy with k | k
    ·exact .inl (List.mem_append_left _ k)
    exact .inr k
   rcases List.mem_append.1 hy with k | k
   ·exact h2 y k
   rw [List.mem_singleton]at k; subst k; exact .inr c1
  rw [if_neg c1]
  by_cases c2:d=false∧w<x.1
  ·rw [if_pos c2]
   obtain ⟨rfl,c3⟩:=c2
   refine ⟨fun y hy=>?_,fun y hy=>?_,fun _=>by simp,by simp at h4 ⊢; omega⟩
   ·simp only[List.mem_append,List.mem_cons,List.not_mem_nil,or_false]at hy ⊢
    rcases hy with k | k | k
    ·rcases h1 y k with q | q
     ·exact .inl (.inl q)
     exact .inr q
    ·exact .inr k
    exact .inl (.inr k)
   rcases List.mem_append.1 hy with k | k
   ·rcases h2 y k with q | q
    ·exact .inl (List.mem_append_left _ q)
    exact .inr q
   rw [List.mem_singleton]at k; subst k; exact .inl (by simp)
  rw [if_neg c2]
  refine ⟨fun y hy=>?_,fun y hy=>?_,fun k=>List.mem_append_left _ (h3 k),by simp at h4 ⊢; omega⟩
  ·rcases List.mem_append.1 hy with k | k
   ·rcases h1 y k with q | q
    ·exact .inl (List.mem_append_left _ q)
    exact .inr q
   exact .inl (List.mem_append_right _ k)
  rcases List.mem_append.1 hy with k | k
  ·rcases h2 y k with q | q
   ·exact .inl (List.mem_append_left _ q)
   exact .inr q
  rw [List.mem_singleton]at k; subst k; exact .inl (by simp)
theorem yag {l:List (Int × Int)} {w h:Int}:(∀ y∈put l w h,y∈l∨y=(w,h))∧(∀ x,(x∈l∨x=(w,h))→∃ y∈put l w h,y.1≤x.1∧y.2≤x.2)∧(put l w h).length≤l.length+1:=by
 have hi:=zn3 (l:=l) (w:=w) (h:=h) l.length (qR _)
 rw [List.take_length]at hi
 obtain ⟨h1,h2,h3,h4⟩:=hi
 unfold put
 split
 ·rename_i hd
  refine ⟨fun y hy => .inl hy,fun x hx=>?_,by omega⟩
  rcases hx with hx | rfl
  ·exact ⟨x,hx,Int.le_refl _,Int.le_refl _⟩
  obtain ⟨y,hy,k⟩:=List.any_eq_true.1 hd
  unfold ybe at k
  simp only[qB,decide_eq_true_eq]at k
  exact ⟨y,hy,k⟩
 generalize zfn l w h=s at h1 h2 h3 h4
 obtain ⟨o,d⟩:=s
 simp only at h1 h2 h3 h4 ⊢
 cases d with
 | true =>
  rw [if_pos rfl]
  refine ⟨h1,fun x hx=>?_,by simpa using h4⟩
  rcases hx with hx | rfl
  ·rcases h2 x hx with k | k
   ·exact ⟨x,k,Int.le_refl _,Int.le_refl _⟩
   exact ⟨_,h3 rfl,k⟩
  exact ⟨_,h3 rfl,Int.le_refl _,Int.le_refl _⟩
 | false =>
  rw [if_neg Bool.false_ne_true]
  refine ⟨fun y hy=>?_,fun x hx=>?_,by simp at h4 ⊢; omega⟩
  ·rcases List.mem_append.1 hy with k | k
   ·exact h1 y k
   exact .inr (List.mem_singleton.1 k)
  rcases hx with hx | rfl
  ·rcases h2 x hx with k | k
   ·exact ⟨x,List.mem_append_left _ k,Int.le_refl _,Int.le_refl _⟩
   exact ⟨_,List.mem_append_right _ (List.mem_singleton.2 rfl),k⟩
  exact ⟨_,List.mem_append_right _ (List.mem_singleton.2 rfl),Int.le_refl _,Int.le_refl _⟩
def z0i (sh:Nat→Int × Int) (k:Nat):List (Int × Int):=(List.range k).foldl (fun l s=>put l (sh s).1 (sh s).2) []
theorem ztq {sh:Nat→Int × Int} {k:Nat}:z0i sh (k+1)=put (z0i sh k) (sh k).1 (sh k).2:=by unfold z0i; rw [ze5]
theorem zya {sh:Nat→Int × Int}:∀ k,(∀ y∈z0i sh k,∃ s,s<k∧y=sh s)∧(∀ s,s<k→∃ y∈z0i sh k,y.1≤(sh s).1∧y.2≤(sh s).2)∧(z0i sh k).length≤k
 | 0=>by simp [z0i]
 | k+1=>by
  obtain ⟨h1,h2,h3⟩:=zya (sh:=sh) k
  obtain ⟨k1,k2,k3⟩:=yag (l:=z0i sh k) (w:=(sh k).1) (h:=(sh k).2)
  rw [ztq]
  refine ⟨fun y hy=>?_,fun s hs=>?_,by omega⟩
  ·rcases k1 y hy with q | q
   ·obtain ⟨s,hs,rfl⟩:=h1 y q
    exact ⟨s,by omega,rfl⟩
   exact ⟨k,by omega,q⟩
  by_cases e:s=k
  ·subst e
   exact k2 _ (.inr rfl)
  obtain ⟨y,hy,q1,q2⟩:=h2 s (by omega)
  obtain ⟨z,hz,r1,r2⟩:=k2 y (.inl hy)
  exact ⟨z,hz,by omega,by omega⟩
def zr7 (x:Int × Int):List PV:=[.int .i64 x.1,.int .i64 x.2]
def zm4 (p:List Txt) (ws ht:List Int):Bool:=zgf p ws && zgf p ht && decide (ws.length≤8)
theorem ziw {p:List Txt} (hs:Sm p) {ws ht:List Int} (hw:ws.length≤1048576) (hh:ht.length≤1048576):PC Tryz.prog 55 [za1 p,eInts ws,eInts ht] (.bool (zm4 p ws ht)) true:=by
 refine PC.of ⟨Tryz.func55,by kernel_rfl,rfl,by kernel_rfl⟩ za4 mixed (by show 3≤Tryz.f55.ntmps; decide) ?_
 refine W.r fun K hK=>?_
 simp(disch:=omega)only[↓RU,RV,RH,↓reduceIte,qE,reduceCtorEq,if_pos]
 apply hK;clear hK K
 refine W.r fun K hK=>?_
 rcases hgg:(zgf p ws,zgf p ht) with ⟨_ | _,_ | _⟩
 ·skip
  simp only[Prod.mk.injEq]at hgg
  obtain ⟨hg,hg2⟩:=hgg
  simp(disch:=omega)only[↓RU,RV,RH,↓reduceIte,qE,reduceCtorEq,if_pos,qN,w64,zab,zaa,hg]
  refine zag.pc (zf3 hs hw) rfl (.inl rfl) ?_
  simp(disch:=omega)only[↓RU,RV,RH,↓reduceIte,qE,reduceCtorEq,if_pos,qN,w64,zab,zaa,hg]
  apply hK;clear hK K
  refine W.ret ?_
  refine Br rfl ?_
  rw [zm4,hg,hg2]
  first | rfl | exact congrArg (fun b=>some (PV.bool b)) (show decide ((ws.length:Int)≤8)=(true && true && decide (ws.length≤8)) by simp; omega)
 ·skip
  simp only[Prod.mk.injEq]at hgg
  obtain ⟨hg,hg2⟩:=hgg
  simp(disch:=omega)only[↓RU,RV,RH,↓reduceIte,qE,reduceCtorEq,if_pos,qN,w64,zab,zaa,hg]
  refine zag.pc (zf3 hs hw) rfl (.inl rfl) ?_
  simp(disch:=omega)only[↓RU,RV,RH,↓reduceIte,qE,reduceCtorEq,if_pos,qN,w64,zab,zaa,hg]
  apply hK;clear hK K
  refine W.ret ?_
  refine Br rfl ?_
  rw [zm4,hg,hg2]
  first | rfl | exact congrArg (fun b=>some (PV.bool b)) (show decide ((ws.length:Int)≤8)=(true && true && decide (ws.length≤8)) by simp; omega)
 ·skip
  simp only[Prod.mk.injEq]at hgg
  obtain ⟨hg,hg2⟩:=hgg
  simp(disch:=omega)only[↓RU,RV,RH,↓reduceIte,qE,reduceCtorEq,if_pos,qN,w64,zab,zaa,hg,hg2]
  refine zag.pc (zf3 hs hw) rfl (.inl rfl) ?_
  simp(disch:=omega)only[↓RU,RV,RH,↓reduceIte,qE,reduceCtorEq,if_pos,qN,w64,zab,zaa,hg,hg2]
  refine zag.pc (zf3 hs hh) rfl (.inl rfl) ?_
  simp(disch:=omega)only[↓RU,RV,RH,↓reduceIte,qE,reduceCtorEq,if_pos,qN,w64,zab,zaa,hg,hg2]
  apply hK;clear hK K
  refine W.ret ?_
  refine Br rfl ?_
  rw [zm4,hg,hg2]
  first | rfl | exact congrArg (fun b=>some (PV.bool b)) (show decide ((ws.length:Int)≤8)=(true && true && decide (ws.length≤8)) by simp; omega)
 skip
 simp only[Prod.mk.injEq]at hgg
 obtain ⟨hg,hg2⟩:=hgg
 simp(disch:=omega)only[↓RU,RV,RH,↓reduceIte,qE,reduceCtorEq,if_pos,qN,w64,zab,zaa,hg,hg2]
 refine zag.pc (zf3 hs hw) rfl (.inl rfl) ?_
 simp(disch:=omega)only[↓RU,RV,RH,↓reduceIte,qE,reduceCtorEq,if_pos,qN,w64,zab,zaa,hg,hg2]
 refine zag.pc (zf3 hs hh) rfl (.inl rfl) ?_
 simp(disch:=omega)only[↓RU,RV,RH,↓reduceIte,qE,reduceCtorEq,if_pos,qN,w64,zab,zaa,hg,hg2]
 apply hK;clear hK K
 refine W.ret ?_
 refine Br rfl ?_
 rw [zm4,hg,hg2]
 first | rfl | exact congrArg (fun b=>some (PV.bool b)) (show decide ((ws.length:Int)≤8)=(true && true && decide (ws.length≤8)) by simp; omega)
def zb2 (l:List (Int × Int)):List (List Int):=l.map fun x=>[x.1,x.2]
abbrev zdu (l:List (Int × Int)):PV := .sl ((zb2 l).map eInts) l.length
theorem zgj {l:List (Int × Int)} {i:Nat} {x:Int × Int} (h:l[i]?=some x):(zb2 l)[i]?=some [x.1,x.2]:=by simp [zb2,h]
theorem zcm {l:List (Int × Int)}:(zb2 l).length=l.length:=by simp [zb2]
theorem ze2 {x:Int × Int}:zb2 [x]=[[x.1,x.2]]:=rfl
theorem zf7 {x y:Int × Int}:zb2 [x,y]=[[x.1,x.2],[y.1,y.2]]:=rfl
theorem zed {l m:List (Int × Int)}:zb2 (l++m)=zb2 l++zb2 m:=by simp [zb2]
theorem znq {x:Int × Int} {w h:Int}:ybe x w h=(decide (x.1≤w) && decide (x.2≤h)):=rfl
theorem zwn {α:Type} {f:α→Bool} {l:List α} {i:Nat} {x:α} (hx:l[i]?=some x) (h:(l.take i).any f=false) (hf:f x=false):(l.take (i+1)).any f=false:=by
 rw [tk hx,List.any_append,h]; simp [hf]
theorem z4j {l:List (Int × Int)} {w h:Int} {i:Nat} {x:Int × Int} (hx:l[i]?=some x):zfn (l.take (i+1)) w h=zho w h (zfn (l.take i) w h) x:=ze6 hx
theorem z41 {S:Store} {k:Nat} {l:List (List Int)} {v:PV} {q:List Int} (h:reify S true (k+2) v=some (eInts q)):(l.map eInts++[v]).mapM (reify S true (k+2))=some ((l++[q]).map eInts):=by
 rw [qP,zg7]; simp [h]
theorem znv {l:List (Int × Int)} (hl:l.length≤1048576) (w h:Int):PC Tryz.prog 102 [zdu l,.int .i64 w,.int .i64 h] (zdu (put l w h)) false:=by
 refine PC.of ⟨Tryz.func102,by kernel_rfl,rfl,by kernel_rfl⟩ za4 mixed (by show 3≤Tryz.f102.ntmps; decide) ?_
 refine W.r fun K hK=>?_
 simp(disch:=omega)only[↓RU,RV,RH,↓reduceIte,qE,reduceCtorEq,if_pos,↓RS,RG,qA,qM,qL]
 apply hK;clear hK K
 refine W.r fun K hK=>?_
 simp(disch:=omega)only[↓RU,RV,RH,↓reduceIte,qE,reduceCtorEq,if_pos,↓RS,RG,qA,qM,qL,ty0,zab,zaa]
 apply hK;clear hK K
 refine W.r fun K hK=>?_
 simp(disch:=omega)only[↓RU,RV,RH,↓reduceIte,qE,reduceCtorEq,if_pos,↓RS,RG,qA,qM,qL]
 apply hK;clear hK K
 refine W.seq ?_
 refine W.r fun K hK=>?_
 simp(disch:=omega)only[↓RU,RV,RH,↓reduceIte,qE,reduceCtorEq,if_pos,↓RS,RG,qA,qM,qL]
 apply hK;clear hK K
 refine W.block ?_
 refine W.loopZ [0,1,2,7,8,9] (fun n vs S=>∃ i v0 tk:Nat,n=l.length - i∧i≤l.length∧((l.take i).any (fun x=>ybe x w h)=false)∧vs=[zdu l,.int .i64 w,.int .i64 h,.loc 0 v0 0 (zfn (l.take i) w h).1.length,.bool (zfn (l.take i) w h).2,.int .i64 i]∧S=⟨[.arr v0 24 1 ((zb2 (zfn (l.take i) w h).1).map eInts)],tk⟩) (l.length) ?_ ?_
 ·refine ⟨1,[zdu l,.int .i64 w,.int .i64 h,.loc 0 0 0 (zfn (l.take 0) w h).1.length,.bool (zfn (l.take 0) w h).2,.int .i64 0],⟨[.arr 0 24 1 ((zb2 (zfn (l.take 0) w h).1).map eInts)],1⟩,?_,?_,0,0,1,rfl,by omega,rfl,rfl,rfl⟩
  ·rfl
  rfl
 rintro n vs S - ⟨i,v0,tk,rfl,h_i,hall,rfl,rfl⟩
 refine W.seq ?_
 refine W.r fun K hK=>?_
 simp(disch:=omega)only[↓RU,RV,RH,↓reduceIte,qE,reduceCtorEq,if_pos,w64,↓RS,RG,qA,qM,qL,ty0,zab,zaa]
 apply hK;clear hK K
 refine W.cond rfl (fun h0=>?_) (fun h0=>?_)
 ·try simp only[RL]at h0
  obtain ⟨x,hx,-⟩:=zaf (show i<l.length by omega)
  have hxr:=zgj hx
  obtain ⟨xa,xb⟩:=x
  simp only at hxr
  have hpl:=(zn3 (l:=l) (w:=w) (h:=h) i h_i).2.2.2
  have hsu:=z4j (w:=w) (h:=h) hx
  generalize zfn (l.take i) w h=s at hpl hsu ⊢
  obtain ⟨o,d⟩:=s
  simp only at hpl ⊢
  have hol:o.length≤1048577:=by split at hpl <;> omega
  have hrl:=zcm (l:=l)
  have hro:=zcm (l:=o)
  refine W.skip ?_
  refine xn ?_
  refine W.seq ?_
  refine W.block ?_
  refine W.seq ?_
  refine W.join [0,1,2,7,8,9,34] (fun vs S=>vs=[zdu l,.int .i64 w,.int .i64 h,.loc 0 v0 0 o.length,.bool d,.int .i64 i,.bool (decide (xa≤w) && decide (xb≤h))]∧S=⟨[.arr v0 24 1 ((zb2 o).map eInts)],tk⟩) ?_ ?_
  ·
   refine W.k fun K hK=>?_
   rcases hd1:decide (xa≤w) with _ | _
   ·skip
    simp(disch:=omega)only[↓RU,RV,RH,↓reduceIte,qE,reduceCtorEq,if_pos,w64,↓RS,RG,qA,qM,qL,ty0,zab,zaa,Int.toNat_zero,Nat.zero_mul,qZ,qM,Nat.zero_add,Nat.mul_one,hxr,hd1,hrl]
    apply hK;clear hK K
    refine xn ?_
    refine ⟨1,?_,rfl⟩
    simp [Env.put,Env.of,hd1]
   skip
   simp(disch:=omega)only[↓RU,RV,RH,↓reduceIte,qE,reduceCtorEq,if_pos,w64,↓RS,RG,qA,qM,qL,ty0,zab,zaa,Int.toNat_zero,Nat.zero_mul,qZ,qM,Nat.zero_add,Nat.mul_one,hxr,hd1,hrl]
   apply hK;clear hK K
   refine xn ?_
   refine ⟨1,?_,rfl⟩
   simp [Env.put,Env.of,hd1]
  rintro vs S - ⟨rfl,rfl⟩
  refine W.cond rfl (fun h3=>?_) (fun h3=>?_)
  ·try simp only[RL]at h3
   refine W.r fun K hK=>?_
   simp(disch:=omega)only[↓RU,RV,RH,↓reduceIte,qE,reduceCtorEq,if_pos,↓RS,RG,qA,qM,qL]
   apply hK;clear hK K
   refine W.ret ?_
   refine XThen.ret ?_
   refine XBlock.ret ?_
   refine XThen.ret ?_
   refine XThen.ret ?_
   refine XBlock.ret ?_
   refine XThen.ret ?_
   refine Br rfl ?_
   rw [show put l w h=l by unfold put; rw [if_pos (List.any_eq_true.2 ⟨(xa,xb),List.mem_of_getElem? hx,by rw [znq]; exact h3⟩)]]
   rfl
  try simp only[RL]at h3
  refine W.skip ?_
  refine xn ?_
  refine W.seq ?_
  refine W.join [0,1,2,7,8,9,53] (fun vs S=>vs=[zdu l,.int .i64 w,.int .i64 h,.loc 0 v0 0 o.length,.bool d,.int .i64 i,.bool (decide (w≤xa) && decide (h≤xb))]∧S=⟨[.arr v0 24 1 ((zb2 o).map eInts)],tk⟩) ?_ ?_
  ·
   refine W.k fun K hK=>?_
   rcases hd1:decide (w≤xa) with _ | _
   ·skip
    simp(disch:=omega)only[↓RU,RV,RH,↓reduceIte,qE,reduceCtorEq,if_pos,w64,↓RS,RG,qA,qM,qL,ty0,zab,zaa,Int.toNat_zero,Nat.zero_mul,qZ,qM,Nat.zero_add,Nat.mul_one,hxr,hd1,hrl]
    apply hK;clear hK K
    refine xn ?_
    refine ⟨1,?_,rfl⟩
    simp [Env.put,Env.of,hd1]
   skip
   simp(disch:=omega)only[↓RU,RV,RH,↓reduceIte,qE,reduceCtorEq,if_pos,w64,↓RS,RG,qA,qM,qL,ty0,zab,zaa,Int.toNat_zero,Nat.zero_mul,qZ,qM,Nat.zero_add,Nat.mul_one,hxr,hd1,hrl]
   apply hK;clear hK K
   refine xn ?_
   refine ⟨1,?_,rfl⟩
   simp [Env.put,Env.of,hd1]
  rintro vs S - ⟨rfl,rfl⟩
  refine W.cond rfl (fun h4=>?_) (fun h4=>?_)
  ·try simp only[RL]at h4
   simp only[qB,decide_eq_true_eq]at h4
   have hs2:zfn (l.take (i+1)) w h=(o,d):=by rw [hsu,zho,if_pos h4]
   refine W.exit ?_
   refine xe ?_
   refine XBlock.hit ?_
   refine xn ?_
   refine W.k fun K hK=>?_
   simp(disch:=omega)only[↓RU,RV,RH,↓reduceIte,qE,reduceCtorEq,if_pos,w64,↓RS,RG,qA,qM,qL,zaa]
   apply hK;clear hK K
   refine xn ?_
   refine ⟨l.length - (i+1),by omega,1,[zdu l,.int .i64 w,.int .i64 h,.loc 0 v0 0 (zfn (l.take (i+1)) w h).1.length,.bool (zfn (l.take (i+1)) w h).2,.int .i64 (i+1)],⟨[.arr v0 24 1 ((zb2 (zfn (l.take (i+1)) w h).1).map eInts)],tk⟩,?_,?_,(i+1),v0,tk,rfl,by omega,zwn hx hall (by rw [znq]; exact h3),rfl,rfl⟩
   ·simp [-qU,Store.frz,zcn,zcx,zbe,zb7,zca,zb6,zcw,zbq,zbt,zbr,zbd,zbf,zcb,zbs,zb8,zbp,Env.put,Env.of,zad,zb9,qP,qC,hs2,zed,ze2,zf7,ze1,zch,zqd]
   simp [-qU,Store.frz,zcn,zcx,zbe,zb7,zca,zb6,zcw,zbq,zbt,zbr,zbd,zbf,zcb,zbs,zb8,zbp,Env.put,Env.of,zad,zb9,qP,qC,hs2,zed,ze2,zf7,ze1,zch,zqd]
  try simp only[RL]at h4
  have h4n:¬ (w≤xa∧h≤xb):=by intro q; rw [decide_eq_true q.1,decide_eq_true q.2]at h4; exact Bool.false_ne_true h4.symm
  refine W.skip ?_
  refine xn ?_
  refine W.seq ?_
  refine W.join [0,1,2,7,8,9,65] (fun vs S=>vs=[zdu l,.int .i64 w,.int .i64 h,.loc 0 v0 0 o.length,.bool d,.int .i64 i,.bool (!d && decide (w<xa))]∧S=⟨[.arr v0 24 1 ((zb2 o).map eInts)],tk⟩) ?_ ?_
  ·
   refine W.k fun K hK=>?_
   cases d
   ·skip
    simp(disch:=omega)only[↓RU,RV,RH,↓reduceIte,qE,reduceCtorEq,if_pos,w64,↓RS,RG,qA,qM,qL,ty0,zab,zaa,Int.toNat_zero,Nat.zero_mul,qZ,qM,Nat.zero_add,Nat.mul_one,hxr,hrl]
    apply hK;clear hK K
    refine xn ?_
    refine ⟨1,?_,rfl⟩
    simp [Env.put,Env.of]
   skip
   simp(disch:=omega)only[↓RU,RV,RH,↓reduceIte,qE,reduceCtorEq,if_pos,w64,↓RS,RG,qA,qM,qL,ty0,zab,zaa,Int.toNat_zero,Nat.zero_mul,qZ,qM,Nat.zero_add,Nat.mul_one,hxr,hrl]
   apply hK;clear hK K
   refine xn ?_
   refine ⟨1,?_,rfl⟩
   simp [Env.put,Env.of]
  rintro vs S - ⟨rfl,rfl⟩
  refine W.cond rfl (fun h5=>?_) (fun h5=>?_)
  ·try simp only[RL]at h5
   have h5y:d=false∧w<xa:=by simpa using h5
   have hs2:zfn (l.take (i+1)) w h=(o++[(w,h),(xa,xb)],true):=by rw [hsu,zho,if_neg h4n,if_pos h5y]
   obtain ⟨rfl,h5w⟩:=h5y
   have htk:∀ v:PV,((zb2 o).map eInts++[v]).take (o.length+1)=(zb2 o).map eInts++[v]:=fun v=>qT (by simp [hro])
   refine W.r fun K hK=>?_
   simp(disch:=omega)only[↓RU,RV,RH,↓reduceIte,qE,reduceCtorEq,if_pos,↓RS,RG,qA,qM,qL,ty0,zab,zaa,hro,hol]
   apply hK;clear hK K
   refine W.k fun K hK=>?_
   simp(disch:=omega)only[↓RU,RV,RH,↓reduceIte,qE,reduceCtorEq,if_pos,↓RS,RG,qA,qM,qL]
   apply hK;clear hK K
   refine xn ?_
   refine W.k fun K hK=>?_
   simp(disch:=omega)only[↓RU,RV,RH,↓reduceIte,qE,reduceCtorEq,if_pos,↓RS,RG,qA,qM,qL,ty0,zab,zaa,Int.toNat_zero,Nat.zero_mul,qZ,qM,Nat.zero_add,Nat.mul_one,hxr,hrl,hro,htk,List.length_append,List.length_map,List.length_cons,List.length_nil]
   apply hK;clear hK K
   refine XbN ?_
   refine xn ?_
   refine W.k fun K hK=>?_
   simp(disch:=omega)only[↓RU,RV,RH,↓reduceIte,qE,reduceCtorEq,if_pos,w64,↓RS,RG,qA,qM,qL,zaa]
   apply hK;clear hK K
   refine xn ?_
   refine ⟨l.length - (i+1),by omega,1,[zdu l,.int .i64 w,.int .i64 h,.loc 0 (tk+4) 0 (zfn (l.take (i+1)) w h).1.length,.bool (zfn (l.take (i+1)) w h).2,.int .i64 (i+1)],⟨[.arr (tk+4) 24 1 ((zb2 (zfn (l.take (i+1)) w h).1).map eInts)],(tk+5)⟩,?_,?_,(i+1),tk+4,tk+5,rfl,by omega,zwn hx hall (by rw [znq]; exact h3),rfl,rfl⟩
   ·simp [-qU,Store.frz,zcn,zcx,zbe,zb7,zca,zb6,zcw,zbq,zbt,zbr,zbd,zbf,zcb,zbs,zb8,zbp,Env.put,Env.of,zad,zb9,qP,qC,hs2,zed,ze2,zf7,ze1,zch,zqd]
   simp [-qU,Store.frz,zcn,zcx,zbe,zb7,zca,zb6,zcw,zbq,zbt,zbr,zbd,zbf,zcb,zbs,zb8,zbp,Env.put,Env.of,zad,zb9,qP,qC,hs2,zed,ze2,zf7,ze1,zch,zqd]
  try simp only[RL]at h5
  have h5n:¬ (d=false∧w<xa):=by simpa using h5
  have hs2:zfn (l.take (i+1)) w h=(o++[(xa,xb)],d):=by rw [hsu,zho,if_neg h4n,if_neg h5n]
  have htk:True:=trivial
  refine W.skip ?_
  refine xn ?_
  refine W.k fun K hK=>?_
  simp(disch:=omega)only[↓RU,RV,RH,↓reduceIte,qE,reduceCtorEq,if_pos,↓RS,RG,qA,qM,qL,ty0,zab,zaa,Int.toNat_zero,Nat.zero_mul,qZ,qM,Nat.zero_add,Nat.mul_one,hxr,hrl,hro,htk,List.length_append,List.length_map,List.length_cons,List.length_nil]
  apply hK;clear hK K
  refine XbN ?_
  refine xn ?_
  refine W.k fun K hK=>?_
  simp(disch:=omega)only[↓RU,RV,RH,↓reduceIte,qE,reduceCtorEq,if_pos,w64,↓RS,RG,qA,qM,qL,zaa]
  apply hK;clear hK K
  refine xn ?_
  refine ⟨l.length - (i+1),by omega,1,[zdu l,.int .i64 w,.int .i64 h,.loc 0 (tk+1) 0 (zfn (l.take (i+1)) w h).1.length,.bool (zfn (l.take (i+1)) w h).2,.int .i64 (i+1)],⟨[.arr (tk+1) 24 1 ((zb2 (zfn (l.take (i+1)) w h).1).map eInts)],(tk+2)⟩,?_,?_,(i+1),tk+1,tk+2,rfl,by omega,zwn hx hall (by rw [znq]; exact h3),rfl,rfl⟩
  ·simp [-qU,Store.frz,zcn,zcx,zbe,zb7,zca,zb6,zcw,zbq,zbt,zbr,zbd,zbf,zcb,zbs,zb8,zbp,Env.put,Env.of,zad,zb9,qP,qC,hs2,zed,ze2,zf7,ze1,zch,zqd]
  simp [-qU,Store.frz,zcn,zcx,zbe,zb7,zca,zb6,zcw,zbq,zbt,zbr,zbd,zbf,zcb,zbs,zb8,zbp,Env.put,Env.of,zad,zb9,qP,qC,hs2,zed,ze2,zf7,ze1,zch,zqd]
 try simp only[RL]at h0
 obtain rfl:i=l.length:=by omega
 have hpl:=(zn3 (l:=l) (w:=w) (h:=h) l.length (qR _)).2.2.2
 rw [List.take_length]at hall hpl ⊢
 have hput:put l w h=if (zfn l w h).2 then (zfn l w h).1 else (zfn l w h).1++[(w,h)]:=by unfold put; rw [hall]; rfl
 generalize zfn l w h=s at hpl hput ⊢
 obtain ⟨o,d⟩:=s
 simp only at hpl hput ⊢
 have hol:o.length≤1048577:=by split at hpl <;> omega
 have hro:=zcm (l:=o)
 refine W.exit ?_
 refine xe ?_
 refine xe ?_
 refine XBlock.hit ?_
 refine xn ?_
 refine W.seq ?_
 refine W.r fun K hK=>?_
 simp(disch:=omega)only[↓RU,RV,RH,↓reduceIte,qE,reduceCtorEq,if_pos,↓RS,RG,qA,qM,qL]
 apply hK;clear hK K
 refine W.cond rfl (fun h6=>?_) (fun h6=>?_)
 ·try simp only[RL]at h6
  refine W.k fun K hK=>?_
  simp(disch:=omega)only[↓RU,RV,RH,↓reduceIte,qE,reduceCtorEq,if_pos,↓RS,RG,qA,qM,qL,ty0,zab,zaa]
  apply hK;clear hK K
  refine xn ?_
  refine W.r fun K hK=>?_
  simp(disch:=omega)only[↓RU,RV,RH,↓reduceIte,qE,reduceCtorEq,if_pos,↓RS,RG,qA,qM,qL]
  apply hK;clear hK K
  refine W.ret ?_
  refine Br rfl ?_
  have hd:d=false:=by simpa using h6
  rw [hput,hd,if_neg Bool.false_ne_true]
  exact (zbc (k:=9) (n:=o.length+1) rfl (by simp [hro]) (z41 (k:=7) (q:=[w,h]) (zbc (k:=8) (n:=2) rfl rfl (zdw [w,h])))).trans (by simp [zed,zb2])
 try simp only[RL]at h6
 refine W.skip ?_
 refine xn ?_
 refine W.r fun K hK=>?_
 simp(disch:=omega)only[↓RU,RV,RH,↓reduceIte,qE,reduceCtorEq,if_pos,↓RS,RG,qA,qM,qL]
 apply hK;clear hK K
 refine W.ret ?_
 refine Br rfl ?_
 have hd:d=true:=by simpa using h6
 rw [hput,hd,if_pos rfl]
 exact (zbc (k:=9) (n:=o.length) rfl (by simp [hro]) (zg7 _))
section
section
variable {n:Nat} {M X:List (List Bool)}
def rvB (M:List (List Bool)) (a:Nat) (X:List (List Bool)) (b:Nat):List (List Bool):=z1r X b a (zc7 M a b)
def rvA (n:Nat) (M:List (List Bool)) (X:List (List Bool)) (a:Nat):List (List Bool):=(List.range n).foldl (rvB M a) X
def rv (n:Nat) (M:List (List Bool)):List (List Bool):=(List.range n).foldl (rvA n M) (zek n)
theorem Sq.ext {Y:List (List Bool)} (h:Sq n X) (k:Sq n Y) (e:∀ x y,x<n→y<n→zc7 X x y=zc7 Y x y):X=Y:=by
 apply List.ext_getElem?
 intro x
 by_cases hx:x<n
 ·obtain ⟨r,hr,hrm⟩:=zaf (show x<X.length by rw [h.1]; exact hx)
  obtain ⟨s,hs,hsm⟩:=zaf (show x<Y.length by rw [k.1]; exact hx)
  rw [hr,hs]
  congr 1
  have hrl:=h.2 r hrm
  have hsl:=k.2 s hsm
  apply List.ext_getElem?
  intro y
  by_cases hy:y<n
  ·have:=e x y hx hy
   unfold zc7 at this
   rw [hr,hs,Option.getD_some,Option.getD_some]at this
   obtain ⟨u,hu,-⟩:=zaf (show y<r.length by omega)
   obtain ⟨v,hv,-⟩:=zaf (show y<s.length by omega)
   rw [hu,hv]at this ⊢
   simpa using this
  rw [List.getElem?_eq_none (by omega),List.getElem?_eq_none (by omega)]
 rw [List.getElem?_eq_none (by rw [h.1]; omega),List.getElem?_eq_none (by rw [k.1]; omega)]
end
end

def scs (l:List (Int × Int)):List PV:=l.flatMap zr7
abbrev zd8 (l:List (Int × Int)):PV := .sl (scs l) l.length
theorem yat (l m:List (Int × Int)):scs (l++m)=scs l++scs m:=by simp [scs]
theorem zhp (x:Int × Int) (l:List (Int × Int)):scs (x::l)=zr7 x++scs l:=rfl
theorem zcd (l:List (Int × Int)):(scs l).length=l.length*2:=by
 induction l with
 | nil=>rfl
 | cons x l ih=>rw [zhp,List.length_append,ih,List.length_cons]; simp [zr7]; omega
theorem zrm {l:List (Int × Int)} {n:Nat} {x:Int × Int} (h:l[n]?=some x):((scs l).drop (n*2)).take 2=zr7 x:=by
 induction l generalizing n with
 | nil=>simp at h
 | cons a l ih =>
  cases n with
  | zero=>simp at h; subst h; rw [zhp]; simp [zr7]
  | succ n =>
   simp at h
   rw [zhp,show (n+1)*2=(zr7 a).length+n*2 by simp [zr7]; omega,List.drop_length_add_append]
   exact ih h
theorem zjj {l:List (Int × Int)}:(scs l).take (l.length*2)=scs l:=by rw [← zcd,List.take_length]
theorem zs3 (l:List (Int × Int)):(scs l).all scal=true:=by
 induction l with
 | nil=>rfl
 | cons a l ih=>rw [zhp,List.all_append,ih]; simp [zr7,scal]
def slC (b:Nat) (l:List (Int × Int)) (v:Nat):PV:=match l with | [] => .nils | _ => .loc b v 0 l.length
def tlC (l:List (Int × Int)) (v:Nat):List Ob:=match l with | []=>[] | _=>[.arr v 87 2 (scs l)]
theorem zs8 {b v:Nat}:slC b [] v = .nils:=rfl
theorem zp0 {v:Nat}:tlC [] v=[]:=rfl
theorem zfs {b v:Nat} {l:List (Int × Int)} (h:l≠[]):slC b l v = .loc b v 0 l.length:=by cases l with | nil=>exact absurd rfl h | cons a l=>rfl
theorem zfg {v:Nat} {l:List (Int × Int)} (h:l≠[]):tlC l v=[.arr v 87 2 (scs l)]:=by cases l with | nil=>exact absurd rfl h | cons a l=>rfl
theorem zvp {S:Store} {o v et n k:Nat} {l:List Int} (h:S.obs[o]?=some (.arr v et 1 (l.map (.int .i64)))) (hl:l.length=n):reify S true (k+2) (.loc o v 0 n)=some (eInts l):=by
 subst hl; exact zbc h (by simp) (zdw _)
theorem zgi {S:Store} {k f:Nat} {sel:List Nat} (l:List (Int × Int)):(scs l).mapM (rn S k sel (f+1))=some (scs l):=zxp (zs3 l)
theorem zn7 {l:List (Int × Int)} {x:Int × Int}:scs (l++[x])=scs l++[.int .i64 x.1,.int .i64 x.2]:=by rw [yat]; rfl
def zde (p:List Txt) (ws ht:List Int):Bool:=zd1 p [ws,ht] && decide ((rP p).length≤8)
theorem z2t {p:List Txt} {ws ht:List Int} (h:zde p ws ht=true):zd1 p [ws]=true∧zd1 p [ht]=true∧(rP p).length≤8:=by
 unfold zde zd1 at *
 simp only[List.all_cons,List.all_nil,Bool.and_true,qB,decide_eq_true_eq]at h ⊢
 exact ⟨⟨h.1.1,h.1.2.1⟩,⟨h.1.1,h.1.2.2⟩,h.2⟩
abbrev Shp:=Int × Int
def Stc (l:List Shp):Prop:=l.Pairwise fun x y=>x.1<y.1∧y.2<x.2
def Dom (l:List Shp) (x:Shp):Prop:=∃ y∈l,y.1≤x.1∧y.2≤x.2
theorem yca {α:Type} {R:α→α→Prop}:∀ {l:List α},l.Pairwise R→∀ {x y:α},x∈l→y∈l→x=y∨R x y∨R y x
 | [],_,x,y,h,_=>by simp at h
 | a::l,hp,x,y,hx,hy=>by
  obtain ⟨h1,h2⟩:=List.pairwise_cons.1 hp
  rcases List.mem_cons.1 hx with ex | ex
  ·rcases List.mem_cons.1 hy with ey | ey
   ·exact .inl (ex.trans ey.symm)
   rw [ex]; exact .inr (.inl (h1 _ ey))
  rcases List.mem_cons.1 hy with ey | ey
  ·rw [ey]; exact .inr (.inr (h1 _ ex))
  exact yca h2 ex ey
theorem Stc.one {l:List Shp} (h:Stc l) {x y:Shp} (hx:x∈l) (hy:y∈l) (h1:x.1≤y.1) (h2:x.2≤y.2):x=y:=by
 rcases yca h hx hy with e | e | e
 ·exact e
 ·omega
 omega
theorem z5k:∀ {B C:List Shp},Stc B→Stc C→(∀ x,x∈B↔x∈C)→B=C
 | [],[],_,_,_=>rfl
 | [],c::C,_,_,h=>by have:=(h c).2 (by simp); simp at this
 | b::B,[],_,_,h=>by have:=(h b).1 (by simp); simp at this
 | b::B,c::C,hB,hC,h=>by
  obtain ⟨b1,b2⟩:=List.pairwise_cons.1 hB
  obtain ⟨c1,c2⟩:=List.pairwise_cons.1 hC
  have e:b=c:=by
   rcases List.mem_cons.1 ((h b).1 (by simp)) with e | e
   ·exact e
   rcases List.mem_cons.1 ((h c).2 (by simp)) with e2 | e2
   ·exact e2.symm
   have:=c1 b e; have:=b1 c e2; omega
  subst e
  congr 1
  refine z5k b2 c2 fun x=>⟨fun hx=>?_,fun hx=>?_⟩
  ·rcases List.mem_cons.1 ((h x).1 (List.mem_cons_of_mem _ hx)) with e | e
   ·subst e; have:=b1 x hx; omega
   exact e
  rcases List.mem_cons.1 ((h x).2 (List.mem_cons_of_mem _ hx)) with e | e
  ·subst e; have:=c1 x hx; omega
  exact e
theorem z7x {B C:List Shp} (hB:Stc B) (hC:Stc C) (h1:∀ x∈B,Dom C x) (h2:∀ x∈C,Dom B x):B=C:=by
 have key:∀ {B C:List Shp},Stc B→(∀ x∈B,Dom C x)→(∀ x∈C,Dom B x)→∀ x∈B,x∈C:=by
  intro B C hB h1 h2 x hx
  obtain ⟨y,hy,y1,y2⟩:=h1 x hx
  obtain ⟨z,hz,z1,z2⟩:=h2 y hy
  have e:=hB.one hz hx (by omega) (by omega)
  subst e
  have e2:y=z:=Prod.ext (by omega) (by omega)
  rw [← e2]; exact hy
 exact z5k hB hC fun x=>⟨key hB h1 h2 x,key hC h2 h1 x⟩
structure Best (l B:List Shp):Prop where
 st:Stc B
 sub:∀ x∈B,x∈l
 dom:∀ x∈l,Dom B x
theorem Best.uniq {l B C:List Shp} (h:Best l B) (k:Best l C):B=C:=z7x h.st k.st (fun x hx=>k.dom x (h.sub x hx)) fun x hx=>h.dom x (k.sub x hx)
theorem Best.mem {l m B:List Shp} (h:Best l B) (e:∀ x,x∈l↔x∈m):Best m B:=⟨h.st,fun x hx=>(e x).1 (h.sub x hx),fun x hx=>h.dom x ((e x).2 hx)⟩
def bsS (out:List Shp) (s:Shp):List Shp :=
 match out.getLast? with
 | none=>[s]
 | some q=>if s.2<q.2 then out++[s] else out
def bsF (z:List Shp):List Shp:=z.foldl bsS []
theorem znn {z:List Shp} {i:Nat} {x:Shp} (h:z[i]?=some x):bsF (z.take (i+1))=bsS (bsF (z.take i)) x:=ze6 h
def LexLe (x y:Shp):Prop:=x.1<y.1∨(x.1=y.1∧x.2≤y.2)
theorem z9o {o:List Shp} {s:Shp}:(bsS o s).length≤o.length+1:=by
 unfold bsS
 split
 ·simp
 split <;> simp
theorem zwq (z:List Shp):∀ i,i≤z.length→(bsF (z.take i)).length≤i
 | 0,_=>by simp [bsF]
 | i+1,hi=>by
  obtain ⟨x,hx,-⟩:=zaf (show i<z.length by omega)
  have:=zwq z i (by omega)
  rw [znn hx]
  have:=z9o (o:=bsF (z.take i)) (s:=x)
  omega
theorem z11 {z:List Shp} (hz:z.Pairwise LexLe):∀ i,i≤z.length→Best (z.take i) (bsF (z.take i))∧∀ q,(bsF (z.take i)).getLast?=some q→∀ x∈z.take i,q.2≤x.2
 | 0,_=>by
  refine ⟨⟨?_,?_,?_⟩,?_⟩
  ·simp [bsF,Stc]
  ·simp [bsF]
  ·simp
  simp
 | i+1,hi=>by
  obtain ⟨⟨h1,h2,h3⟩,h4⟩:=z11 hz i (by omega)
  obtain ⟨s,hs,-⟩:=zaf (show i<z.length by omega)
  have et:z.take (i+1)=z.take i++[s]:=tk hs
  rw [znn hs,et]
  have hlex:∀ x∈z.take i,LexLe x s:=by
   have:=List.pairwise_iff_getElem.1 hz
   intro x hx
   obtain ⟨j,hj⟩:=List.getElem?_of_mem hx
   have hjl:=zci hj
   rw [List.length_take]at hjl
   rw [List.getElem?_take_of_lt (by omega)]at hj
   obtain ⟨a1,a2⟩:=List.getElem?_eq_some_iff.1 hj
   obtain ⟨b1,b2⟩:=List.getElem?_eq_some_iff.1 hs
   rw [← a2,← b2]
   exact this j i a1 b1 (by omega)
  generalize bsF (z.take i)=o at h1 h2 h3 h4
  unfold bsS
  cases ho:o.getLast? with
  | none =>
   have e:o=[]:=List.getLast?_eq_none_iff.1 ho
   subst e
   have en:z.take i=[]:=by
    cases hq:z.take i with
    | nil=>rfl
    | cons a l=>obtain ⟨y,hy,-⟩:=h3 a (by rw [hq]; simp); simp at hy
   rw [en]
   simp only[List.nil_append]
   refine ⟨⟨List.pairwise_singleton _ _,fun x hx=>hx,fun x hx=>⟨x,hx,Int.le_refl _,Int.le_refl _⟩⟩,fun q hq x hx=>?_⟩
   simp at hq hx; subst hq; subst hx; exact Int.le_refl _
  | some q =>
   have hqm:q∈o:=List.mem_of_getLast? ho
   have hql:=hlex q (h2 q hqm)
   simp only
   by_cases c:s.2<q.2
   ·rw [if_pos c]
    have hq1:q.1<s.1:=by rcases hql with e | ⟨e,e2⟩ <;> omega
    have hall:∀ y∈o,y.1<s.1∧s.2<y.2:=by
     intro y hy
     have hyq:q.2≤y.2:=h4 q ho y (h2 y hy)
     rcases hlex y (h2 y hy) with e | ⟨e,e2⟩ <;> omega
    refine ⟨⟨List.pairwise_append.2 ⟨h1,List.pairwise_singleton _ _,fun y hy x hx=>by simp at hx; subst hx; exact hall y hy⟩,fun x hx=>?_,fun x hx=>?_⟩,fun r hr x hx=>?_⟩
    ·rcases List.mem_append.1 hx with e | e
     ·exact List.mem_append_left _ (h2 x e)
     exact List.mem_append_right _ e
    ·rcases List.mem_append.1 hx with e | e
     ·obtain ⟨y,hy,k⟩:=h3 x e; exact ⟨y,List.mem_append_left _ hy,k⟩
     exact ⟨x,List.mem_append_right _ e,Int.le_refl _,Int.le_refl _⟩
    simp at hr; subst hr
    rcases List.mem_append.1 hx with e | e
    ·have:=h4 q ho x e; omega
    simp at e; subst e; exact Int.le_refl _
   rw [if_neg c]
   refine ⟨⟨h1,fun x hx=>List.mem_append_left _ (h2 x hx),fun x hx=>?_⟩,fun r hr x hx=>?_⟩
   ·rcases List.mem_append.1 hx with e | e
    ·exact h3 x e
    simp at e; subst e
    exact ⟨q,hqm,by rcases hql with e | ⟨e,-⟩ <;> omega,by omega⟩
   rw [ho]at hr; cases hr
   rcases List.mem_append.1 hx with e | e
   ·exact h4 q ho x e
   simp at e; subst e; omega
theorem z9p {z l:List Shp} (hz:z.Pairwise LexLe) (hp:z.Perm l):Best l (bsF z):=by
 have h:=(z11 hz z.length (qR _)).1
 rw [List.take_length]at h
 exact h.mem fun x=>hp.mem_iff
theorem yah {l:List Shp} (hl:Stc l) {w h:Int}:Stc (put l w h):=by
 unfold put
 by_cases hd:l.any (fun x=>ybe x w h)=true
 ·rw [if_pos hd]; exact hl
 rw [if_neg hd]
 have hno:∀ x∈l,w<x.1∨h<x.2:=by
  intro x hx
  have:=hd
  rw [List.any_eq_true]at this
  refine Classical.byContradiction fun hn=>this ⟨x,hx,?_⟩
  unfold ybe
  simp only[qB,decide_eq_true_eq]
  omega
 have key:∀ i,i≤l.length→Stc (zfn (l.take i) w h).1∧(∀ y∈(zfn (l.take i) w h).1,(y∈l.take i∧¬ (w≤y.1∧h≤y.2))∨(y=(w,h)∧(zfn (l.take i) w h).2=true)) ∧
   ((zfn (l.take i) w h).2=false→∀ y∈(zfn (l.take i) w h).1,y.1<w∧h<y.2)∧((zfn (l.take i) w h).2=true→∃ x∈l.take i,w<x.1):=by
  intro i
  induction i with
  | zero=>intro _; simp [zfn,Stc]
  | succ i ih =>
   intro hi
   obtain ⟨k1,k2,k3,k4⟩:=ih (by omega)
   obtain ⟨x,hx,hxm⟩:=zaf (show i<l.length by omega)
   have e:zfn (l.take (i+1)) w h=zho w h (zfn (l.take i) w h) x:=ze6 hx
   have et:l.take (i+1)=l.take i++[x]:=tk hx
   have hlt:∀ y∈l.take i,y.1<x.1∧x.2<y.2:=by
    have:=List.pairwise_iff_getElem.1 hl
    intro y hy
    obtain ⟨j,hj⟩:=List.getElem?_of_mem hy
    have hjl:=zci hj
    rw [List.length_take]at hjl
    rw [List.getElem?_take_of_lt (by omega)]at hj
    obtain ⟨a1,a2⟩:=List.getElem?_eq_some_iff.1 hj
    obtain ⟨b1,b2⟩:=List.getElem?_eq_some_iff.1 hx
    rw [← a2,← b2]
    exact this j i a1 b1 (by omega)
   have hnx:=hno x hxm
   rw [e,et]
   generalize zfn (l.take i) w h=s at k1 k2 k3 k4
   obtain ⟨o,d⟩:=s
   unfold zho
   simp only at k1 k2 k3 k4 ⊢
   by_cases c1:w≤x.1∧h≤x.2
   ·rw [if_pos c1]
    refine ⟨k1,fun y hy=>?_,k3,fun hd=>?_⟩
    ·rcases k2 y hy with ⟨a,b⟩ | b
     ·exact .inl ⟨List.mem_append_left _ a,b⟩
     exact .inr b
    obtain ⟨z,hz,hzw⟩:=k4 hd; exact ⟨z,List.mem_append_left _ hz,hzw⟩
   rw [if_neg c1]
   by_cases c2:d=false∧w<x.1
   ·rw [if_pos c2]
    obtain ⟨rfl,c3⟩:=c2
    have k5:=k3 rfl
    refine ⟨?_,fun y hy=>?_,fun hd=>by simp at hd,fun _=>⟨x,by simp,c3⟩⟩
    ·refine List.pairwise_append.2 ⟨k1,?_,fun y hy z hz=>?_⟩
     ·refine List.pairwise_cons.2 ⟨fun z hz=>?_,List.pairwise_singleton _ _⟩
      simp at hz; subst hz
      exact ⟨c3,by omega⟩
     simp at hz
     have hy5:=k5 y hy
     rcases hz with rfl | rfl
     ·exact hy5
     rcases k2 y hy with ⟨a,b⟩ | ⟨-,b⟩
     ·exact hlt y a
     cases b
    simp only[List.mem_append,List.mem_cons,List.not_mem_nil,or_false]at hy
    rcases hy with a | a | a
    ·rcases k2 y a with ⟨q,r⟩ | ⟨-,q⟩
     ·exact .inl ⟨List.mem_append_left _ q,r⟩
     cases q
    ·exact .inr ⟨a,rfl⟩
    subst a; exact .inl ⟨by simp,c1⟩
   rw [if_neg c2]
   refine ⟨?_,fun y hy=>?_,fun hd=>?_,fun hd=>?_⟩
   ·refine List.pairwise_append.2 ⟨k1,List.pairwise_singleton _ _,fun y hy z hz=>?_⟩
    simp at hz; subst hz
    rcases k2 y hy with ⟨a,b⟩ | ⟨a,b⟩
    ·exact hlt y a
    subst a
    obtain ⟨q,hq,hqw⟩:=k4 b
    have:=hlt q hq
    simp only
    omega
   ·rcases List.mem_append.1 hy with a | a
    ·rcases k2 y a with ⟨q,r⟩ | q
     ·exact .inl ⟨List.mem_append_left _ q,r⟩
     exact .inr q
    simp at a; subst a; exact .inl ⟨by simp,c1⟩
   ·intro y hy
    rcases List.mem_append.1 hy with a | a
    ·exact k3 hd y a
    simp at a; subst a
    have:¬ w<y.1:=fun q=>c2 ⟨hd,q⟩
    omega
   obtain ⟨z,hz,hzw⟩:=k4 hd; exact ⟨z,List.mem_append_left _ hz,hzw⟩
 obtain ⟨k1,k2,k3,k4⟩:=key l.length (qR _)
 rw [List.take_length]at k1 k2 k3 k4
 cases hd2:(zfn l w h).2 with
 | true=>rw [if_pos rfl]; exact k1
 | false =>
  rw [if_neg (by simp)]
  refine List.pairwise_append.2 ⟨k1,List.pairwise_singleton _ _,fun y hy z hz=>?_⟩
  simp at hz; subst hz
  exact k3 hd2 y hy
theorem z6d {sh:Nat→Int × Int} (k:Nat):Best ((List.range k).map sh) (z0i sh k):=by
 obtain ⟨h1,h2,-⟩:=zya (sh:=sh) k
 refine ⟨?_,fun x hx=>?_,fun x hx=>?_⟩
 ·have:∀ k,Stc (z0i sh k):=by
   intro k
   induction k with
   | zero=>simp [z0i,Stc]
   | succ k ih=>rw [ztq]; exact yah ih
  exact this k
 ·obtain ⟨s,hs,rfl⟩:=h1 x hx
  exact List.mem_map.2 ⟨s,List.mem_range.2 hs,rfl⟩
 obtain ⟨s,hs,rfl⟩:=List.mem_map.1 hx
 exact h2 s (List.mem_range.1 hs)
def zwi (a b:Int):Int:=if a<b then -1 else if b<a then 1 else 0
def orI (l:List Int):Int:=(l.find? fun x=>decide (x≠0)).getD 0
def z0n (x y:Shp):Int:=orI [zwi x.1 y.1,zwi x.2 y.2]
theorem yaa {l:List Int}:orI (0::l)=orI l:=by simp [orI]
theorem z30 {l:List Int} {x:Int} (h:x≠0):orI (x::l)=x:=by simp [orI,h]
theorem dropc {l:List Int} {i:Nat} {x:Int} (h:l[i]?=some x):l.drop i=x::l.drop (i+1):=by
 obtain ⟨hi,rfl⟩:=List.getElem?_eq_some_iff.1 h
 exact List.drop_eq_getElem_cons hi
theorem zqk {x y:Int}:PC Tryz.prog 106 [.int .i64 x,.int .i64 y] (.int .i64 (zwi x y)) true:=by
 refine PC.of ⟨Tryz.func106,by kernel_rfl,rfl,by kernel_rfl⟩ za4 mixed (by show 2≤Tryz.f106.ntmps; decide) ?_
 refine W.r fun K hK=>?_
 simp(disch:=omega)only[↓RU,RV,RH,↓reduceIte,qE,reduceCtorEq,if_pos]
 apply hK;clear hK K
 refine W.r fun K hK=>?_
 simp(disch:=omega)only[↓RU,RV,RH,↓reduceIte,qE,reduceCtorEq,if_pos,qN]
 refine zag.pc (zsc) rfl (.inl rfl) ?_
 simp(disch:=omega)only[↓RU,RV,RH,↓reduceIte,qE,reduceCtorEq,if_pos,qN]
 apply hK;clear hK K
 refine W.r fun K hK=>?_
 simp(disch:=omega)only[↓RU,RV,RH,↓reduceIte,qE,reduceCtorEq,if_pos,qN]
 refine zag.pc (zsc) rfl (.inl rfl) ?_
 simp(disch:=omega)only[↓RU,RV,RH,↓reduceIte,qE,reduceCtorEq,if_pos,qN]
 apply hK;clear hK K
 refine W.seq ?_
 refine W.r fun K hK=>?_
 simp(disch:=omega)only[↓RU,RV,RH,↓reduceIte,qE,reduceCtorEq,if_pos]
 apply hK;clear hK K
 refine W.cond rfl (fun h=>?_) (fun h=>?_)
 ·try simp only[RL]at h
  exact absurd h (by simp)
 try simp only[RL]at h
 refine W.skip ?_
 refine xn ?_
 refine W.seq ?_
 refine W.r fun K hK=>?_
 simp(disch:=omega)only[↓RU,RV,RH,↓reduceIte,qE,reduceCtorEq,if_pos]
 apply hK;clear hK K
 refine W.cond rfl (fun h1=>?_) (fun h1=>?_)
 ·try simp only[RL]at h1
  exact absurd h1 (by simp)
 try simp only[RL]at h1
 refine W.skip ?_
 refine xn ?_
 refine W.seq ?_
 refine W.r fun K hK=>?_
 simp(disch:=omega)only[↓RU,RV,RH,↓reduceIte,qE,reduceCtorEq,if_pos,w64,zaa]
 apply hK;clear hK K
 refine W.cond rfl (fun h3=>?_) (fun h3=>?_)
 ·try simp only[RL]at h3
  refine W.r fun K hK=>?_
  simp(disch:=omega)only[↓RU,RV,RH,↓reduceIte,qE,reduceCtorEq,if_pos]
  apply hK;clear hK K
  refine W.ret ?_
  refine XThen.ret ?_
  refine Br rfl ?_
  rw [zwi,if_pos (by simpa using h3)]
  rfl
 try simp only[RL]at h3
 refine W.skip ?_
 refine xn ?_
 refine W.seq ?_
 refine W.r fun K hK=>?_
 simp(disch:=omega)only[↓RU,RV,RH,↓reduceIte,qE,reduceCtorEq,if_pos,w64,zaa]
 apply hK;clear hK K
 refine W.cond rfl (fun h4=>?_) (fun h4=>?_)
 ·try simp only[RL]at h4
  refine W.r fun K hK=>?_
  simp(disch:=omega)only[↓RU,RV,RH,↓reduceIte,qE,reduceCtorEq,if_pos]
  apply hK;clear hK K
  refine W.ret ?_
  refine XThen.ret ?_
  refine Br rfl ?_
  rw [zwi,if_neg (by simpa using h3),if_pos (by simpa using h4)]
  rfl
 try simp only[RL]at h4
 refine W.skip ?_
 refine xn ?_
 refine W.r fun K hK=>?_
 simp(disch:=omega)only[↓RU,RV,RH,↓reduceIte,qE,reduceCtorEq,if_pos]
 apply hK;clear hK K
 refine W.ret ?_
 refine Br rfl ?_
 rw [zwi,if_neg (by simpa using h3),if_neg (by simpa using h4)]
 rfl
theorem ycz {l:List Int} (hl:l.length≤1048576):PC Tryz.prog 105 [eInts l] (.int .i64 (orI l)) true:=by
 refine PC.of ⟨Tryz.func105,by kernel_rfl,rfl,by kernel_rfl⟩ za4 mixed (by show 1≤Tryz.f105.ntmps; decide) ?_
 refine W.r fun K hK=>?_
 simp(disch:=omega)only[↓RU,RV,RH,↓reduceIte,qE,reduceCtorEq,if_pos]
 apply hK;clear hK K
 refine W.r fun K hK=>?_
 simp(disch:=omega)only[↓RU,RV,RH,↓reduceIte,qE,reduceCtorEq,if_pos]
 apply hK;clear hK K
 refine W.seq ?_
 refine W.r fun K hK=>?_
 simp(disch:=omega)only[↓RU,RV,RH,↓reduceIte,qE,reduceCtorEq,if_pos,zab,zaa]
 apply hK;clear hK K
 refine W.block ?_
 refine W.loop [0,3,6,7,8] (fun n vs S=>∃ i:Nat,n=l.length - i∧i≤l.length∧(orI l=orI (l.drop i))∧vs=[eInts l,.int .i64 0,eInts l,.int .i64 l.length,.int .i64 i]∧S=⟨[],0⟩) (l.length) ?_ ?_
 ·refine ⟨0,0,rfl,Nat.zero_le _,rfl,?_,rfl⟩
  simp [Env.put,Env.of,zad]
 rintro n vs S - ⟨i,rfl,h_i,he,rfl,rfl⟩
 refine W.r fun K hK=>?_
 simp(disch:=omega)only[↓RU,RV,RH,↓reduceIte,qE,reduceCtorEq,if_pos,w64,zaa]
 apply hK;clear hK K
 refine W.seq ?_
 refine W.cond rfl (fun h=>?_) (fun h=>?_)
 ·try simp only[RL]at h
  obtain ⟨x,hx,-⟩:=zaf (show i<l.length by omega)
  refine W.skip ?_
  refine xn ?_
  refine W.seq ?_
  refine W.block ?_
  refine W.r fun K hK=>?_
  simp(disch:=omega)only[↓RU,RV,RH,↓reduceIte,qE,reduceCtorEq,if_pos,zab,zaa,hx]
  apply hK;clear hK K
  refine W.r fun K hK=>?_
  simp(disch:=omega)only[↓RU,RV,RH,↓reduceIte,qE,reduceCtorEq,if_pos,w64,zaa]
  apply hK;clear hK K
  refine W.cond rfl (fun h1=>?_) (fun h1=>?_)
  ·try simp only[RL]at h1
   refine W.r fun K hK=>?_
   simp(disch:=omega)only[↓RU,RV,RH,↓reduceIte,qE,reduceCtorEq,if_pos]
   apply hK;clear hK K
   refine W.ret ?_
   refine XBlock.ret ?_
   refine XThen.ret ?_
   refine XThen.ret ?_
   refine XBlock.ret ?_
   refine XThen.ret ?_
   refine Br rfl ?_
   rw [he,dropc hx,z30 (by simpa using h1)]
   rfl
  try simp only[RL]at h1
  have h1z:x=0:=by simpa using h1
  refine W.skip ?_
  refine XbN ?_
  refine xn ?_
  refine W.k fun K hK=>?_
  simp(disch:=omega)only[↓RU,RV,RH,↓reduceIte,qE,reduceCtorEq,if_pos,w64,zaa]
  apply hK;clear hK K
  refine xn ?_
  refine ⟨l.length - (i+1),by omega,0,i+1,rfl,by omega,by rw [he,dropc hx,h1z,yaa],?_,rfl⟩
  simp [Env.put,Env.of]
 try simp only[RL]at h
 obtain rfl:i=l.length:=by omega
 refine W.exit ?_
 refine xe ?_
 refine xe ?_
 refine XBlock.hit ?_
 refine xn ?_
 refine W.r fun K hK=>?_
 simp(disch:=omega)only[↓RU,RV,RH,↓reduceIte,qE,reduceCtorEq,if_pos]
 apply hK;clear hK K
 refine W.ret ?_
 refine Br rfl ?_
 rw [he,List.drop_length]
 rfl
theorem zyd {x y:Shp}:PC Tryz.prog 104 [.agg (zr7 x),.agg (zr7 y)] (.int .i64 (z0n x y)) true:=by
 unfold zr7
 refine PC.of ⟨Tryz.func104,by kernel_rfl,rfl,by kernel_rfl⟩ za4 mixed (by show 2≤Tryz.f104.ntmps; decide) ?_
 refine W.r fun K hK=>?_
 simp(disch:=omega)only[↓RU,RV,RH,↓reduceIte,qE,reduceCtorEq,if_pos,↓RS,RG,qA,qM,qL,zf8,zaa,zf9]
 apply hK;clear hK K
 refine W.seq_draw (by kernel_rfl) fun K hK=>?_
 simp(disch:=omega)only[↓RU,RV,RH,↓reduceIte,qE,reduceCtorEq,if_pos,qN,↓RS,RG,qA,qM,qL,zab,zf8,zaa,zf9]
 refine zag.pc (zqk) rfl (.inl rfl) ?_
 simp(disch:=omega)only[↓RU,RV,RH,↓reduceIte,qE,reduceCtorEq,if_pos,qN,↓RS,RG,qA,qM,qL,zab,zf8,zaa,zf9]
 refine zag.pc (zqk) rfl (.inl rfl) ?_
 simp(disch:=omega)only[↓RU,RV,RH,↓reduceIte,qE,reduceCtorEq,if_pos,qN,↓RS,RG,qA,qM,qL,zab,zf8,zaa,zf9]
 refine zag.pc (ycz (l:=[zwi x.1 y.1,zwi x.2 y.2]) (by simp)) (zaj (zvp (k:=8) (l:=[zwi x.1 y.1,zwi x.2 y.2]) rfl rfl) rfl) (.inl rfl) ?_
 simp(disch:=omega)only[↓RU,RV,RH,↓reduceIte,qE,reduceCtorEq,if_pos,qN,↓RS,RG,qA,qM,qL,zab,zf8,zaa,zf9]
 apply hK;clear hK K
 refine W.ret ?_
 refine Br rfl ?_
 rfl
end Fw
end Go.Proofs.YtjobkanbijpfgaaGreat
namespace Go.Proofs.YtjobkanbijpfgaaGreat
open Go Go.Proofs
open Go.Shelf
def layS_ren:Go.Shelf.Ren:=⟨fun | 6=>103 | 15=>137 | 14=>136 | 28=>162 | 29=>163 | 20=>154 | 21=>155 | 22=>156 | 23=>157 | 24=>158 | 25=>159 | 26=>160 | 27=>161 | 46=>172 | 47=>173 | 48=>174 | 49=>175 | 50=>176 | 57=>190 | n=>n,fun | 22=>84 | 24=>87 | 25=>133 | 3=>3 | 39=>155 | 0=>0 | 53=>179 | 55=>181 | 4=>4 | 46=>173 | 45=>172 | 50=>27 | 5=>5 | 9=>9 | 66=>189 | 70=>193 | 76=>206 | 77=>109 | n=>n,fun | n=>n⟩
theorem layS:Go.Proofs.SlLaysF0.n6 Tryz.prog layS_ren:={
 mixed:=by kernel_rfl
 f6:=⟨Tryz.f103.name,by decide,Tryz.func103.trans (congrArg some (by kernel_rfl))⟩
 f14:=⟨Tryz.f136.name,by decide,Tryz.func136.trans (congrArg some (by kernel_rfl))⟩
 f15:=Tryz.func137.trans (congrArg some (by kernel_rfl))
 f20:=⟨Tryz.f154.name,by decide,Tryz.func154.trans (congrArg some (by kernel_rfl))⟩
 f21:=⟨Tryz.f155.name,by decide,Tryz.func155.trans (congrArg some (by kernel_rfl))⟩
 f22:=⟨Tryz.f156.name,by decide,Tryz.func156.trans (congrArg some (by kernel_rfl))⟩
 f23:=⟨Tryz.f157.name,by decide,Tryz.func157.trans (congrArg some (by kernel_rfl))⟩
 f24:=⟨Tryz.f158.name,by decide,Tryz.func158.trans (congrArg some (by kernel_rfl))⟩
 f25:=⟨Tryz.f159.name,by decide,Tryz.func159.trans (congrArg some (by kernel_rfl))⟩
 f26:=⟨Tryz.f160.name,by decide,Tryz.func160.trans (congrArg some (by kernel_rfl))⟩
 f27:=⟨Tryz.f161.name,by decide,Tryz.func161.trans (congrArg some (by kernel_rfl))⟩
 f28:=Tryz.func162.trans (congrArg some (by kernel_rfl))
 f29:=Tryz.func163.trans (congrArg some (by kernel_rfl))
 f46:=⟨Tryz.f172.name,by decide,Tryz.func172.trans (congrArg some (by kernel_rfl))⟩
 f47:=Tryz.func173.trans (congrArg some (by kernel_rfl))
 f48:=Tryz.func174.trans (congrArg some (by kernel_rfl))
 f49:=⟨Tryz.f175.name,by decide,Tryz.func175.trans (congrArg some (by kernel_rfl))⟩
 f50:=⟨Tryz.f176.name,by decide,Tryz.func176.trans (congrArg some (by kernel_rfl))⟩
 f57:=⟨Tryz.f190.name,by decide,Tryz.func190.trans (congrArg some (by kernel_rfl))⟩
 t0:=Tryz.underlying0
 a0:=Tryz.isAgg0
 z0:=Tryz.sizeOf0
 v0:=Tryz.zeroValue0
 t3:=Tryz.underlying3
 a3:=Tryz.isAgg3
 z3:=Tryz.sizeOf3
 v3:=Tryz.zeroValue3
 t4:=Tryz.underlying4
 a4:=Tryz.isAgg4
 z4:=Tryz.sizeOf4
 v4:=Tryz.zeroValue4
 t5:=Tryz.underlying5
 a5:=Tryz.isAgg5
 z5:=Tryz.sizeOf5
 v5:=Tryz.zeroValue5
 t9:=Tryz.underlying9
 a9:=Tryz.isAgg9
 z9:=Tryz.sizeOf9
 v9:=Tryz.zeroValue9
 t22:=Tryz.underlying84
 a22:=Tryz.isAgg84
 z22:=Tryz.sizeOf84
 v22:=Tryz.zeroValue84
 t25:=Tryz.underlying133
 a25:=Tryz.isAgg133
 z25:=Tryz.sizeOf133
 v25:=Tryz.zeroValue133
 t39:=Tryz.underlying155
 a39:=Tryz.isAgg155
 z39:=Tryz.sizeOf155
 v39:=Tryz.zeroValue155
 t45:=Tryz.underlying172
 a45:=Tryz.isAgg172
 z45:=Tryz.sizeOf172
 v45:=Tryz.zeroValue172
 t46:=Tryz.underlying173
 a46:=Tryz.isAgg173
 z46:=Tryz.sizeOf173
 v46:=Tryz.zeroValue173
 t50:=Tryz.underlying27
 a50:=Tryz.isAgg27
 z50:=Tryz.sizeOf27
 v50:=Tryz.zeroValue27
 t53:=Tryz.underlying179
 a53:=Tryz.isAgg179
 z53:=Tryz.sizeOf179
 v53:=Tryz.zeroValue179
 t55:=Tryz.underlying181
 a55:=Tryz.isAgg181
 z55:=Tryz.sizeOf181
 v55:=Tryz.zeroValue181
 t66:=Tryz.underlying189
 a66:=Tryz.isAgg189
 z66:=Tryz.sizeOf189
 v66:=Tryz.zeroValue189
 t70:=Tryz.underlying193
 a70:=Tryz.isAgg193
 z70:=Tryz.sizeOf193
 v70:=Tryz.zeroValue193
 t76:=Tryz.underlying206
 a76:=Tryz.isAgg206
 z76:=Tryz.sizeOf206
 v76:=Tryz.zeroValue206
 t77:=Tryz.underlying109
 a77:=Tryz.isAgg109
 z77:=Tryz.sizeOf109
 v77:=Tryz.zeroValue109 }
end Go.Proofs.YtjobkanbijpfgaaGreat
namespace Go.Proofs.YtjobkanbijpfgaaGreat
namespace Fw
open Go
open Nat renaming reduceEqDiff → qE, reduceLeDiff → qL, reduceAdd → qA, reduceMul → qM, le_refl → qR
open List renaming append_nil → qN, mapM_append → qP, mapM_cons → qC, mapM_map → qU, range_succ → qS, take_of_length_le → qT
open Bool renaming and_eq_true → qB, false_eq_true → qF
open Option renaming map_some → qO, map_eq_some_iff → qI
open Int renaming reduceToNat → qZ
section
open Go Go.RowKit
theorem zyl {x y:Shp}:decide (z0n x y<0)=decide (x.1<y.1∨(x.1=y.1∧x.2<y.2)):=by
 apply decide_eq_decide.2
 unfold z0n
 by_cases h1:x.1<y.1
 ·rw [zwi,if_pos h1,z30 (by decide)]; simp [h1]
 by_cases h2:y.1<x.1
 ·rw [zwi,if_neg h1,if_pos h2,z30 (by decide)]; omega
 have e:x.1=y.1:=by omega
 rw [zwi,if_neg h1,if_neg h2,yaa]
 by_cases h3:x.2<y.2
 ·rw [zwi,if_pos h3,z30 (by decide)]; omega
 by_cases h4:y.2<x.2
 ·rw [zwi,if_neg h3,if_pos h4,z30 (by decide)]; omega
 rw [zwi,if_neg h3,if_neg h4,yaa]; simp [orI]; omega
theorem z16:Sort.SWO (ltOf z0n):=by
 refine ⟨fun x=>?_,fun x y z h1 h2=>?_,fun x y z h1 h2=>?_⟩ <;> simp only[ltOf,zyl,decide_eq_true_eq,decide_eq_false_iff_not] at * <;> omega
def zwj (x:Shp):List Value:=[.int .i64 x.1,.int .i64 x.2]
theorem zs4:∀ (l:List Shp) (j:Nat),j<l.length*2→∃ n:Int,(scs l)[j]?=some (.int .i64 n)∧(zwj l.toArray[j / 2]!)[j % 2]! = .int .i64 n
 | [],j,h=>by simp at h
 | x::l,0,_=>⟨x.1,rfl,rfl⟩
 | x::l,1,_=>⟨x.2,rfl,rfl⟩
 | x::l,j+2,h=>by
  obtain ⟨n,h1,h2⟩:=zs4 l j (by simp at h; omega)
  refine ⟨n,by rw [zhp]; simpa [zr7] using h1,?_⟩
  rw [show (j+2) / 2=j / 2+1 by omega,show (j+2) % 2=j % 2 by omega]
  simpa using h2
theorem VI.fn_none {H:Array Obj} {F:Nat→Prop} {G:GSt} {f:FuncId} {v:Value} (h:VR H F G (.fn f []) v):v = .func (.func f) #[] #[]:=by
 cases h with
 | imm _ _ h=>cases h with | fn _ _ vs e _=>rw [show vs = #[] from Array.eq_empty_of_size_eq_zero (by simpa using e.symm)]
 | fn _ _ vs e _=>rw [show vs = #[] from Array.eq_empty_of_size_eq_zero (by simpa using e.symm)]
theorem z6h {w w':World} (h:Blw w w'):∃ q os',w'=Sort.grow (w.drewN q) os':=by
 obtain ⟨⟨h1,h2,h3,h4,h5⟩,h6⟩:=h
 refine ⟨w'.drawn - w.drawn,w'.heap.extract w.heap.size w'.heap.size,?_⟩
 have hh:w'.heap=w.heap++w'.heap.extract w.heap.size w'.heap.size:=by
  apply Array.ext_getElem?
  intro k
  rw [Array.getElem?_append]
  by_cases hk:k<w.heap.size
  ·rw [if_pos hk,h5 k hk]
  rw [if_neg hk,Array.getElem?_extract]
  by_cases hk2:k<w'.heap.size
  ·rw [if_pos (by omega)]; congr 1; omega
  rw [if_neg (by omega),Array.getElem?_eq_none (by omega)]
 have hd:w.drawn+(w'.drawn - w.drawn)=w'.drawn:=by omega
 have e1:w'={ w with heap:=w'.heap,drawn:=w'.drawn }:=by
  cases w'; cases w
  simp only at h1 h2 h3
  subst h1; subst h2; subst h3
  rfl
 rw [Sort.grow,World.drewN,hd]
 exact e1.trans (by rw [← hh])
set_option maxHeartbeats 1000000 in
theorem zv8 {F R:List Ob} {ver t:Nat} {l:List Shp} (hl:l.length<2147483648) :
  Ev Tryz.prog 103 [.loc F.length ver 0 l.length,.fn 104 []] ⟨F ++ .arr ver 87 2 (scs l)::R,t⟩
   fun v S=>v = .tup []∧∃ z:List Shp,z.Perm l∧z.Pairwise LexLe∧S=⟨F ++ .arr ver 87 2 (scs z)::R,t⟩:=by
 refine ⟨Fn.ent ⟨Tryz.func103,by kernel_rfl,rfl,by kernel_rfl⟩,fun F' G w cargs hE hi hlen hv=>?_⟩
 obtain ⟨c,d,rfl⟩:∃ c d,cargs = #[c,d]:=by
  match cargs,hlen with
  | ⟨[c,d]⟩,_=>exact ⟨c,d,rfl⟩
 have hobs:G.er.obs=F ++ .arr ver 87 2 (scs l)::R:=by rw [hE]
 have hSo:G.er.obs[F.length]?=some (.arr ver 87 2 (scs l)):=by rw [hobs]; simp
 obtain ⟨et,sz,lo,cap,hG,rfl,hver,hn,hcm,hroom⟩:=(hv 0 _ c rfl rfl).loc_at hi (cells:=scs l) (by simp [Store.cellsOf,hSo])
 obtain ⟨lo2,hG2⟩:=zfa hSo
 rw [hG]at hG2
 cases hG2
 obtain rfl:=VI.fn_none (hv 1 _ d rfl rfl)
 obtain ⟨cs,⟨fz,hb,hz⟩,hcs,hle,hcell⟩:=hi.arr _ _ _ _ _ lo hG
 rw [zcd]at hle
 have hblk:lo.blk<w.heap.size:=hi.blk_lt hG
 have hH:Sort.HoldsK zwj 2 w lo.blk 0 l.toArray:=by
  intro j hj
  rw [Sort.size_flatK,List.size_toArray]at hj
  obtain ⟨n,h1,h2⟩:=zs4 l j hj
  rw [Sort.get_flatK _ _ _ _ (by simpa using hj),h2]
  obtain ⟨-,u,k1,k2⟩:=hcell j _ h1
  rw [k2.int]at k1
  refine ⟨by simp [World.cell?,hb,k1],?_⟩
  obtain ⟨a,b⟩:=fz
  simp only[World.frozen?,hb,Bool.and_eq_false_iff,decide_eq_false_iff_not,Nat.zero_add]
  rcases hz with h | h <;> simp only at h <;> omega
 have hcmp:CmpLays Tryz.prog 104 #[] zwj 2 z0n lo.blk 0 l.toArray.size w:=by
  intro m os dk _ x y
  generalize sortWorldK zwj 2 w lo.blk 0 m dk os=W
  refine ((zyd (x:=x) (y:=y)).run (fun _=>False) W #[.agg (zwj x).toArray,.agg (zwj y).toArray] (fun _ h=>h.elim) rfl ?_).mono ?_
  ·have ag:∀ x:Shp,VI W.heap (fun _=>False) (.agg (zr7 x)) (.agg (zwj x).toArray):=fun x=>by
    refine .agg _ _ rfl ?_
    rintro (_ | _ | i) p v h1 h2
    ·simp [zr7]at h1; simp [zwj]at h2; subst h1; subst h2; exact .int _ _
    ·simp [zr7]at h1; simp [zwj]at h2; subst h1; subst h2; exact .int _ _
    simp [zr7]at h1
   rintro (_ | _ | i) p v h1 h2
   ·simp at h1 h2; subst h1; subst h2; exact ag x
   ·simp at h1 h2; subst h1; subst h2; exact ag y
   simp at h1
  rintro e w' ⟨cv,rfl,hB,hr⟩
  cases hr
  exact ⟨rfl,z6h hB⟩
 refine (AnyQ.slices_SortFunc layS 2 Tryz.isAgg87 Tryz.sizeOf87 zwj (fun _=>rfl) (fun x v hv=>by simp [zwj]at hv; rcases hv with rfl | rfl <;> rfl) z0n z16 104 #[] lo.blk 0 cap l.toArray w (fun _ _=>(zyd (x:=(0,0)) (y:=(0,0))).ent _ _) hcmp hH hblk (by simp; omega)).mono ?_
 rintro e w' ⟨rfl,d',n,os,⟨hds,-,hdp⟩,hsorted,rfl⟩
 have hds:d'.size=l.length:=hds
 obtain ⟨z,hz'⟩:∃ z:List Shp,d'=z.toArray:=⟨d'.toList,rfl⟩
 subst hz'
 have hds:z.length=l.length:=hds
 have hp:z.Perm l:=by
  have e1:∀ x:List Shp,x.length=l.length→(x.toArray.extract 0 l.toArray.size).toList=x:=fun x hx=>by simp [← hx]
  rw [e1 z hds,e1 l rfl]at hdp
  exact hdp
 have hs:z.Pairwise LexLe:=by
  rw [List.pairwise_iff_getElem]
  intro i j hi hj hij
  have h:=hsorted i j (Nat.zero_le _) hij (by simp; omega)
  rw [getElem!_pos _ j (by simpa using hj),getElem!_pos _ i (by simpa using hi)]at h
  simp only[ltOf,zyl,decide_eq_false_iff_not,List.getElem_toArray]at h
  unfold LexLe; omega
 have hw1:(Sort.putRowK zwj 2 (Sort.ahead w n) lo.blk 0 z.toArray).heap[lo.blk]?=some (.cells (Sort.putCells id 0 (Sort.flatK zwj 2 z.toArray) cs) 87 fz):=by
  simp [Sort.putRowK,Sort.putRow,Sort.mapBlock,Sort.ahead,Array.getElem?_modify,hb,Sort.onCells]
 have hsz:(Sort.putRowK zwj 2 (Sort.ahead w n) lo.blk 0 z.toArray).heap.size=w.heap.size:=by simp [Sort.putRowK,Sort.putRow,Sort.mapBlock,Sort.ahead]
 obtain ⟨i1,n1⟩:=zig hi hG (.arr ver 87 2 (scs z)) lo G.tick (Sort.putRowK zwj 2 (Sort.ahead w n) lo.blk 0 z.toArray) rfl rfl rfl
  (show w.drawn≤w.drawn+n from Nat.le_add_right _ _) (by omega) (.inl rfl) (fun b _ hb'=>by simp [Sort.putRowK,Sort.putRow,Sort.mapBlock,Sort.ahead,Array.getElem?_modify,Ne.symm hb']) (qR _) (show ver<G.tick from hver) (.inl ⟨rfl,by simp [Ob.like],rfl⟩) (by
   refine ⟨_,⟨fz,hw1,hz.of (by simp [Sort.putCells])⟩,by simpa [Sort.putCells] using hcs,by rw [zcd]; omega,fun i p hp=>?_⟩
   have hi2:i<z.length*2:=by rw [← zcd]; exact (List.getElem?_eq_some_iff.1 hp).1
   obtain ⟨m,h1,h2⟩:=zs4 z i hi2
   rw [h1]at hp
   cases hp
   refine ⟨rfl,.int .i64 m,?_,.imm _ _ (.int _ _)⟩
   simp only[Sort.putCells,Array.getElem?_mapIdx]
   rw [Array.getElem?_eq_getElem (show i<cs.size by omega),qO,if_pos ⟨Nat.zero_le _,by simp [Sort.size_flatK]; omega⟩]
   simp only[Nat.sub_zero,id]
   rw [Sort.get_flatK _ _ _ _ (by simpa using hi2),h2])
 obtain ⟨i2,n2⟩:=zlr i1 (w':=sortWorldK zwj 2 w lo.blk 0 n z.toArray os) ⟨⟨rfl,rfl,rfl,by simp [sortWorldK,Sort.grow],fun k hk=>by simp [sortWorldK,Sort.grow,Array.getElem?_append,hk]⟩,qR _⟩
 refine ⟨.tup [],_,_,_,rfl,⟨rfl,z,hp,hs,?_⟩,i2,n1.trans n2,.tup [] #[] rfl (by simp)⟩
 have:∀ ob,(⟨G.obs.set F.length (ob,lo),G.tick⟩:GSt).er=⟨G.er.obs.set F.length ob,G.er.tick⟩:=by intro ob; simp [GSt.er,List.map_set]
 rw [this,hE]
 simp
end
section
structure Pl (c:Nat→Nat→Nat) (H W:Nat):Prop where
 rect:∀ {i j i' j':Nat} (k l:Nat),i<H→i'<H→j<W→j'<W→c i j=c i' j'→min i i'≤k→k≤max i i'→min j j'≤l→l≤max j j'→c k l=c i j
 plain:∀ {i j:Nat},i+1<H→j+1<W→c i j≠c i (j+1)→c (i+1) j≠c (i+1) (j+1)→c i j≠c (i+1) j→c i (j+1)=c (i+1) (j+1)
def DL (c:Nat→Nat→Nat) (H W a b:Nat):Prop:=∃ j i1 i2,j+1<W∧i1<H∧i2<H∧(∀ r,min i1 i2≤r→r≤max i1 i2→c r j≠c r (j+1))∧a=c i1 j∧b=c i2 (j+1)
def DU (c:Nat→Nat→Nat) (H W a b:Nat):Prop:=∃ i j1 j2,i+1<H∧j1<W∧j2<W∧(∀ k,min j1 j2≤k→k≤max j1 j2→c i k≠c (i+1) k)∧a=c i j1∧b=c (i+1) j2
theorem z2k {P:Nat→Prop} {i:Nat}:∀ {n:Nat},i≤n→P i→¬ P n→∃ e,i≤e∧e+1≤n∧P e∧¬ P (e+1)
 | 0,h,h1,h2=>by
    obtain rfl:i=0:=by omega
    exact absurd h1 h2
 | n+1,h,h1,h2=>by
  by_cases c:P n
  ·by_cases e:i=n+1
   ·subst e; exact absurd h1 h2
   exact ⟨n,by omega,qR _,c,h2⟩
  by_cases e:i=n+1
  ·subst e; exact absurd h1 h2
  obtain ⟨m,k1,k2,k3⟩:=z2k (P:=P) (i:=i) (n:=n) (by omega) h1 c
  exact ⟨m,k1,by omega,k3⟩
section
variable {c:Nat→Nat→Nat} {H W:Nat}
def tr (c:Nat→Nat→Nat) (i j:Nat):Nat:=c j i
theorem Pl.ex (h:Pl c H W):Pl (tr c) W H :=
 ⟨fun k l h1 h2 h3 h4 h5 h6 h7 h8 h9=>h.rect l k h3 h4 h1 h2 h5 h8 h9 h6 h7,fun {i j} h1 h2 h3 h4 h5=>by
  unfold Fw.tr at *
  by_cases q:c j i=c j (i+1)
  ·exact absurd q h5
  by_cases q2:c (j+1) i=c (j+1) (i+1)
  ·exact q2
  exact absurd (h.plain (i:=j) (j:=i) h2 h1 h5 q2 h3) h4⟩
theorem DL.ex {a b:Nat} (h:DL (tr c) W H a b):DU c H W a b:=h
theorem DU.ex {a b:Nat} (h:DU (tr c) W H a b):DL c H W a b:=h
inductive TC (R:Nat→Nat→Prop):Nat→Nat→Prop
 | one {a b:Nat}:R a b→TC R a b
 | tail {a b d:Nat}:TC R a b→R b d→TC R a d
theorem TC.mono {R S:Nat→Nat→Prop} (h:∀ a b,R a b→S a b) {a b:Nat} (k:TC R a b):TC S a b:=by
 induction k with
 | one k=>exact .one (h _ _ k)
 | tail _ k ih=>exact .tail ih (h _ _ k)
theorem TC.trans {R:Nat→Nat→Prop} {a b d:Nat} (h:TC R a b) (k:TC R b d):TC R a d:=by
 induction k with
 | one k=>exact .tail h k
 | tail _ k ih=>exact .tail ih k
theorem TC.last {R:Nat→Nat→Prop} {a b:Nat} (h:TC R a b):∃ x,(x=a∨TC R a x)∧R x b:=by
 cases h with
 | one k=>exact ⟨a,.inl rfl,k⟩
 | tail h k=>exact ⟨_,.inr h,k⟩
end
end
section
section
variable {n:Nat} {M:List (List Bool)}
theorem absorb {p q:Bool}:(p || (q && p))=p:=by cases p <;> cases q <;> rfl
theorem z15 (h:Sq n M) {k:Nat} (hk:k<n):∀ i,i≤n→Sq n ((List.range i).foldl (clA n k) M) ∧
  ∀ x y,x<n→y<n→zc7 ((List.range i).foldl (clA n k) M) x y=if x<i then zc7 M x y || (zc7 M x k && zc7 M k y) else zc7 M x y
 | 0,_=>⟨h,fun x y _ _=>by simp⟩
 | i+1,hi=>by
  obtain ⟨h1,h2⟩:=z15 h hk i (by omega)
  rw [ze5]
  generalize (List.range i).foldl (clA n k) M=X at h1 h2 ⊢
  obtain ⟨h3,h4⟩:=zyi h1 hk (show i<n by omega) n (qR _)
  refine ⟨h3,fun x y hx hy=>?_⟩
  unfold clA
  rw [h4 x y hx hy]
  by_cases e:x=i
  ·subst e
   have e1:zc7 X x y=zc7 M x y:=by rw [h2 x y hx hy,if_neg (Nat.lt_irrefl _)]
   have e2:zc7 X x k=zc7 M x k:=by rw [h2 x k hx hk,if_neg (Nat.lt_irrefl _)]
   have e3:zc7 X k y=zc7 M k y:=by
    rw [h2 k y hk hy]
    split
    ·exact absorb
    rfl
   rw [if_pos ⟨rfl,hy⟩,if_pos (by omega),e1,e2,e3]
  rw [if_neg (fun q=>e q.1),h2 x y hx hy]
  by_cases e2:x<i
  ·rw [if_pos e2,if_pos (by omega)]
  rw [if_neg e2,if_neg (by omega)]
theorem z9r (h:Sq n M) {k:Nat} (hk:k<n) {x y:Nat} (hx:x<n) (hy:y<n):zc7 (clK n M k) x y=(zc7 M x y || (zc7 M x k && zc7 M k y)):=by
 have:=(z15 h hk n (qR _)).2 x y hx hy
 rw [if_pos hx]at this
 exact this
theorem zyk (h:Sq n M):∀ i,i≤n→Sq n ((List.range i).foldl (clK n) M) ∧
  (∀ a b,a<n→b<n→zc7 M a b=true→zc7 ((List.range i).foldl (clK n) M) a b=true) ∧
  (∀ m a b,m<i→a<n→b<n→zc7 ((List.range i).foldl (clK n) M) a m=true→zc7 ((List.range i).foldl (clK n) M) m b=true→zc7 ((List.range i).foldl (clK n) M) a b=true) ∧
  (∀ T:Nat→Nat→Prop,(∀ a b d,T a b→T b d→T a d)→(∀ a b,a<n→b<n→zc7 M a b=true→T a b)→∀ a b,a<n→b<n→zc7 ((List.range i).foldl (clK n) M) a b=true→T a b)
 | 0,_=>⟨h,fun a b _ _ k=>k,fun m a b k=>by omega,fun T _ k=>k⟩
 | i+1,hi=>by
  obtain ⟨h1,h2,h3,h4⟩:=zyk h i (by omega)
  rw [ze5]
  generalize (List.range i).foldl (clK n) M=X at h1 h2 h3 h4 ⊢
  have hin:i<n:=by omega
  have g:∀ {x y:Nat},x<n→y<n→(zc7 (clK n X i) x y=true↔zc7 X x y=true∨(zc7 X x i=true∧zc7 X i y=true)):=by
   intro x y hx hy
   rw [z9r h1 hin hx hy]; simp
  refine ⟨(z15 h1 hin n (qR _)).1,fun a b ha hb k=>(g ha hb).2 (.inl (h2 a b ha hb k)),fun m a b hm ha hb k1 k2=>?_,fun T tr hT a b ha hb k=>?_⟩
  ·have hmn:m<n:=by omega
   rw [g ha hmn]at k1
   rw [g hmn hb]at k2
   rw [g ha hb]
   by_cases e:m=i
   ·subst e
    rcases k1 with k1 | k1 <;> rcases k2 with k2 | k2
    ·exact .inr ⟨k1,k2⟩
    ·exact .inr ⟨k1,k2.2⟩
    ·exact .inr ⟨k1.1,k2⟩
    exact .inr ⟨k1.1,k2.2⟩
   have hmi:m<i:=by omega
   rcases k1 with k1 | k1 <;> rcases k2 with k2 | k2
   ·exact .inl (h3 m a b hmi ha hb k1 k2)
   ·exact .inr ⟨h3 m a i hmi ha hin k1 k2.1,k2.2⟩
   ·exact .inr ⟨k1.1,h3 m i b hmi hin hb k1.2 k2⟩
   exact .inr ⟨k1.1,k2.2⟩
  rw [g ha hb]at k
  rcases k with k | k
  ·exact h4 T tr hT a b ha hb k
  exact tr a i b (h4 T tr hT a i ha hin k.1) (h4 T tr hT i b hin hb k.2)
def MR (n:Nat) (M:List (List Bool)) (a b:Nat):Prop:=a<n∧b<n∧zc7 M a b=true
theorem zyj (h:Sq n M) {a b:Nat} (ha:a<n) (hb:b<n):zc7 (zh4 M) a b=true↔TC (MR n M) a b:=by
 obtain ⟨h1,h2,h3,h4⟩:=zyk h n (qR _)
 have e:zh4 M=(List.range n).foldl (clK n) M:=by unfold zh4; rw [h.1]
 rw [e]
 constructor
 ·exact h4 (TC (MR n M)) (fun _ _ _ p q=>p.trans q) (fun a b ha hb k => .one ⟨ha,hb,k⟩) a b ha hb
 intro k
 induction k with
 | one k=>exact h2 _ _ k.1 k.2.1 k.2.2
 | tail _ k ih=>exact h3 _ _ _ k.1 ha k.2.1 (ih k.1) (h2 _ _ k.1 k.2.1 k.2.2)
end
def Cov (ws:List Wall) (level:Bool) (line i1 i2:Nat):Prop:=∃ w∈ws,w.level=level∧w.line=line∧w.fr≤i1∧(i2:Int)<w.fr+w.long
theorem Cov.app {ws vs:List Wall} {level:Bool} {line i1 i2:Nat} (h:Cov ws level line i1 i2):Cov (ws++vs) level line i1 i2:=by
 obtain ⟨w,hw,k⟩:=h
 exact ⟨w,List.mem_append_left _ hw,k⟩
theorem Cov.long {ws:List Wall} {w:Wall} {level:Bool} {line i1 i2:Nat} (h:Cov (ws++[w]) level line i1 i2):Cov (ws++[{ w with long:=w.long+1 }]) level line i1 i2:=by
 obtain ⟨v,hv,k1,k2,k3,k4⟩:=h
 rcases List.mem_append.1 hv with hv | hv
 ·exact ⟨v,List.mem_append_left _ hv,k1,k2,k3,k4⟩
 rw [List.mem_singleton]at hv
 subst hv
 exact ⟨_,List.mem_append_right _ (List.mem_singleton.2 rfl),k1,k2,k3,by simp only; omega⟩
def Run (g:List (List Int)) (level:Bool) (line i1 i2:Nat):Prop:=∀ j,i1≤j→j≤i2→zhz g level line j=true
theorem zrv {g:List (List Int)} {level:Bool} {line:Nat} {ws:List Wall}:∀ n,(∀ lv ln i1 i2,Cov ws lv ln i1 i2→Cov (zd3 g level line ws n).1 lv ln i1 i2) ∧
  (∀ i1 i2,i1≤i2→i2<n→Run g level line i1 i2→Cov (zd3 g level line ws n).1 level line i1 i2) ∧
  ((zd3 g level line ws n).2=false→∀ m,n=m+1→zhz g level line m=false) ∧
  ((zd3 g level line ws n).2=true→∃ (ws0:List Wall) (w:Wall),(zd3 g level line ws n).1=ws0++[w]∧w.level=level∧w.line=(line:Int)∧w.fr+w.long=(n:Int)∧1≤w.long∧∀ i:Nat,i<n→Run g level line i (n - 1)→w.fr≤(i:Int))
 | 0=>by
  rw [zka]
  exact ⟨fun _ _ _ _ h=>h,fun i1 i2 _ h=>by omega,fun _ m h=>by omega,fun h=>by cases h⟩
 | n+1=>by
  obtain ⟨h1,h2,h3,h4⟩:=zrv (g:=g) (level:=level) (line:=line) (ws:=ws) n
  rw [zj9]
  generalize zd3 g level line ws n=s at h1 h2 h3 h4
  obtain ⟨l,op⟩:=s
  simp only at h1 h2 h3 h4
  cases hd:zhz g level line n with
  | false =>
   have e:zhf false level line n (l,op)=(l,false):=by simp [zhf]
   rw [e]
   refine ⟨h1,fun i1 i2 k1 k2 k3=>?_,fun _ m hm=>(by have e0:m=n:=(by omega); rw [e0]; exact hd),fun h=>by cases h⟩
   by_cases e2:i2=n
   ·subst e2
    have:=k3 i2 k1 (qR _)
    rw [hd]at this; cases this
   exact h2 i1 i2 k1 (by omega) k3
  | true =>
   cases op with
   | false =>
    have e:zhf true level line n (l,false)=(l++[⟨level,line,n,1⟩],true):=by simp [zhf]
    rw [e]
    have hno:∀ m,n=m+1→zhz g level line m=false:=h3 rfl
    have first:∀ i,i<n+1→Run g level line i n→i=n:=by
     intro i hi hr
     by_cases e2:i=n
     ·exact e2
     have:=hr (n - 1) (by omega) (by omega)
     rw [hno (n - 1) (by omega)]at this; cases this
    refine ⟨fun lv ln i1 i2 k=>(h1 lv ln i1 i2 k).app,fun i1 i2 k1 k2 k3=>?_,fun h=>(by cases h),fun _=>⟨l,_,rfl,rfl,rfl,by simp,by simp,fun i hi hr=>?_⟩⟩
    ·by_cases e2:i2=n
     ·subst e2
      obtain rfl:=first i1 (by omega) k3
      exact ⟨_,List.mem_append_right _ (List.mem_singleton.2 rfl),rfl,rfl,Int.le_refl _,by simp only; omega⟩
     exact (h2 i1 i2 k1 (by omega) k3).app
    have:=first i hi hr
    simp only; omega
   | true =>
    obtain ⟨ws0,w,rfl,w1,w2,w3,w4,w5⟩:=h4 rfl
    have e:zhf true level line n (ws0++[w],true)=(ws0++[{ w with long:=w.long+1 }],true):=by simp [zhf]
    rw [e]
    have hfr:∀ i:Nat,i<n+1→Run g level line i n→w.fr≤(i:Int):=by
     intro i hi hr
     by_cases e2:i=n
     ·omega
     exact w5 i (by omega) fun j j1 j2=>hr j j1 (by omega)
    refine ⟨fun lv ln i1 i2 k=>(h1 lv ln i1 i2 k).long,fun i1 i2 k1 k2 k3=>?_,fun h=>(by cases h),fun _=>⟨ws0,_,rfl,w1,w2,by simp only; omega,by simp only; omega,fun i hi hr=>hfr i hi hr⟩⟩
    by_cases e2:i2=n
    ·subst e2
     have:=hfr i1 (by omega) k3
     exact ⟨_,List.mem_append_right _ (List.mem_singleton.2 rfl),w1,w2,this,by simp only; omega⟩
    exact (h2 i1 i2 k1 (by omega) k3).long
theorem zj7 {g:List (List Int)} {level:Bool} {places:Nat} {ws:List Wall}:∀ lines,(∀ lv ln i1 i2,Cov ws lv ln i1 i2→Cov (zdk g level places ws lines) lv ln i1 i2) ∧
  (∀ line i1 i2,1≤line→line<lines→i1≤i2→i2<places→Run g level line i1 i2→Cov (zdk g level places ws lines) level line i1 i2)
 | 0=>⟨fun _ _ _ _ h=>h,fun line _ _ _ h=>by omega⟩
 | k+1=>by
  obtain ⟨h1,h2⟩:=zj7 (g:=g) (level:=level) (places:=places) (ws:=ws) k
  by_cases hk:1≤k
  ·rw [zio hk]
   obtain ⟨l1,l2,-,-⟩:=zrv (g:=g) (level:=level) (line:=k) (ws:=zdk g level places ws k) places
   refine ⟨fun lv ln i1 i2 q=>l1 _ _ _ _ (h1 _ _ _ _ q),fun line i1 i2 q1 q2 q3 q4 q5=>?_⟩
   by_cases e:line=k
   ·subst e; exact l2 i1 i2 q3 q4 q5
   exact l1 _ _ _ _ (h2 line i1 i2 q1 (by omega) q3 q4 q5)
  obtain rfl:k=0:=by omega
  rw [zx7]
  exact ⟨fun _ _ _ _ h=>h,fun line _ _ q1 q2=>by omega⟩
theorem zru {g:List (List Int)} {H W:Nat} {level:Bool} {line i1 i2:Nat} (h1:1≤line) (h2:line<if level then H else W) (h3:i1≤i2) (h4:i2<if level then W else H) (hr:Run g level line i1 i2):Cov (zhw g H W) level line i1 i2:=by
 unfold zhw
 obtain ⟨a1,a2⟩:=zj7 (g:=g) (level:=false) (places:=H) (ws:=[]) W
 obtain ⟨b1,b2⟩:=zj7 (g:=g) (level:=true) (places:=W) (ws:=zdk g false H [] W) H
 cases level with
 | false=>exact b1 _ _ _ _ (a2 line i1 i2 h1 h2 h3 h4 hr)
 | true=>exact b2 line i1 i2 h1 h2 h3 h4 hr
section
variable {n:Nat}
theorem zzu {a:Int} (ha:0≤a∧a<n):∀ {bs:List Int} {M:List (List Bool)},Rm n bs→Sq n M→Sq n (relB a bs M)∧∀ x y,zc7 (relB a bs M) x y=true↔zc7 M x y=true∨(x=a.toNat∧∃ b∈bs,y=b.toNat)
 | [],M,_,h=>⟨h,fun x y=>by simp [relB]⟩
 | b::bs,M,hb,h=>by
  have hb0:=hb b (by simp)
  obtain ⟨k1,k2⟩:=zzu ha (bs:=bs) (M:=z1r M a.toNat b.toNat true) (fun x hx=>hb x (by simp [hx])) (h.set (by omega))
  refine ⟨k1,fun x y=>?_⟩
  have e:relB a (b::bs) M=relB a bs (z1r M a.toNat b.toNat true):=rfl
  rw [e,k2,zkk h (by omega) (by omega)]
  by_cases q:x=a.toNat∧y=b.toNat
  ·rw [if_pos q]; simp [q.1,q.2]
  rw [if_neg q]
  constructor
  ·rintro (k | ⟨k,c,hc,rfl⟩)
   ·exact .inl k
   exact .inr ⟨k,c,by simp [hc],rfl⟩
  rintro (k | ⟨k,c,hc,rfl⟩)
  ·exact .inl k
  rcases List.mem_cons.1 hc with rfl | hc
  ·exact absurd ⟨k,rfl⟩ q
  exact .inr ⟨k,c,hc,rfl⟩
theorem zsw {bs:List Int} (hb:Rm n bs):∀ {la:List Int} {M:List (List Bool)},Rm n la→Sq n M→Sq n (relW M la bs)∧∀ x y,zc7 (relW M la bs) x y=true↔zc7 M x y=true∨(∃ a∈la,x=a.toNat)∧∃ b∈bs,y=b.toNat
 | [],M,_,h=>⟨h,fun x y=>by simp [relW]⟩
 | a::la,M,ha,h=>by
  obtain ⟨j1,j2⟩:=zzu (ha a (by simp)) hb h
  obtain ⟨k1,k2⟩:=zsw hb (la:=la) (M:=relB a bs M) (fun x hx=>ha x (by simp [hx])) j1
  refine ⟨k1,fun x y=>?_⟩
  have e:relW M (a::la) bs=relW (relB a bs M) la bs:=rfl
  rw [e,k2,j2]
  constructor
  ·rintro ((k | ⟨k,q⟩) | ⟨⟨c,hc,k⟩,q⟩)
   ·exact .inl k
   ·exact .inr ⟨⟨a,by simp,k⟩,q⟩
   exact .inr ⟨⟨c,by simp [hc],k⟩,q⟩
  rintro (k | ⟨⟨c,hc,k⟩,q⟩)
  ·exact .inl (.inl k)
  rcases List.mem_cons.1 hc with rfl | hc
  ·exact .inl (.inr ⟨k,q⟩)
  exact .inr ⟨⟨c,hc,k⟩,q⟩
def By (g:List (List Int)) (ws:List Wall) (lv:Bool) (x y:Nat):Prop:=∃ w∈ws,w.level=lv∧(∃ a∈(zbo g w).1,x=a.toNat)∧∃ b∈(zbo g w).2,y=b.toNat
theorem By.cons {g:List (List Int)} {w:Wall} {ws:List Wall} {lv:Bool} {x y:Nat}:By g (w::ws) lv x y↔(w.level=lv∧(∃ a∈(zbo g w).1,x=a.toNat)∧∃ b∈(zbo g w).2,y=b.toNat)∨By g ws lv x y:=by
 unfold By; simp
theorem zso {g:List (List Int)} {nh nw:Nat} (hrm:zx9 g nh nw n):∀ (ws:List Wall),(∀ w∈ws,zwh g nh nw w)→∀ {M:List (List Bool) × List (List Bool)},Sq n M.1→Sq n M.2 →
  (Sq n (ws.foldl (zu4 g) M).1∧∀ x y,zc7 (ws.foldl (zu4 g) M).1 x y=true↔zc7 M.1 x y=true∨By g ws false x y) ∧
  (Sq n (ws.foldl (zu4 g) M).2∧∀ x y,zc7 (ws.foldl (zu4 g) M).2 x y=true↔zc7 M.2 x y=true∨By g ws true x y)
 | [],_,M,h0,h1=>⟨⟨h0,fun x y=>by simp [By]⟩,⟨h1,fun x y=>by simp [By]⟩⟩
 | w::ws,hws,M,h0,h1=>by
  obtain ⟨r1,r2⟩:=zhq hrm (hws w (by simp))
  rw [List.foldl_cons]
  cases hlv:w.level with
  | false =>
   obtain ⟨k1,k2⟩:=zsw r2 r1 h0
   have e:zu4 g M w=(relW M.1 (zbo g w).1 (zbo g w).2,M.2):=by unfold zu4; rw [hlv]; rfl
   rw [e]
   obtain ⟨⟨a1,a2⟩,⟨b1,b2⟩⟩:=zso hrm ws (fun w hw=>hws w (by simp [hw])) (M:=(relW M.1 (zbo g w).1 (zbo g w).2,M.2)) k1 h1
   refine ⟨⟨a1,fun x y=>?_⟩,⟨b1,fun x y=>?_⟩⟩
   ·rw [a2,k2,By.cons,hlv]; simp only[true_and,or_assoc]
   rw [b2,By.cons,hlv]; simp
  | true =>
   obtain ⟨k1,k2⟩:=zsw r2 r1 h1
   have e:zu4 g M w=(M.1,relW M.2 (zbo g w).1 (zbo g w).2):=by unfold zu4; rw [hlv]; rfl
   rw [e]
   obtain ⟨⟨a1,a2⟩,⟨b1,b2⟩⟩:=zso hrm ws (fun w hw=>hws w (by simp [hw])) (M:=(M.1,relW M.2 (zbo g w).1 (zbo g w).2)) h0 k1
   refine ⟨⟨a1,fun x y=>?_⟩,⟨b1,fun x y=>?_⟩⟩
   ·rw [a2,By.cons,hlv]; simp
   rw [b2,k2,By.cons,hlv]; simp only[true_and,or_assoc]
theorem zua {x y:Nat}:zc7 (zek n) x y=false:=by
 unfold zc7 zek
 rw [List.getElem?_replicate]
 split
 ·rw [Option.getD_some,List.getElem?_replicate]; split <;> rfl
 rfl
def cn (g:List (List Int)) (i j:Nat):Nat:=(gz g i j).toNat
theorem zx9.ne {g:List (List Int)} {nh nw:Nat} (h:zx9 g nh nw n) {i j i' j':Nat} (h1:i<nh) (h2:j<nw) (h3:i'<nh) (h4:j'<nw):gz g i j≠gz g i' j'↔cn g i j≠cn g i' j':=by
 have a:=h i j h1 h2
 have b:=h i' j' h3 h4
 unfold cn
 omega
theorem zv5 {g:List (List Int)} {level:Bool} {line fr long j:Nat} (h1:fr≤j) (h2:j<fr+long):(zcc g level line j).1∈(zbo g ⟨level,line,fr,long⟩).1:=by
 simp only[zbo,Int.toNat_natCast]
 rw [zl2]
 simp only[zei,List.mem_map,List.mem_range]
 exact ⟨j - fr,by omega,by rw [show fr+(j - fr)=j by omega]⟩
theorem zv6 {g:List (List Int)} {level:Bool} {line fr long j:Nat} (h1:fr≤j) (h2:j<fr+long):(zcc g level line j).2∈(zbo g ⟨level,line,fr,long⟩).2:=by
 simp only[zbo,Int.toNat_natCast]
 rw [zl2]
 simp only[zei,List.mem_map,List.mem_range]
 exact ⟨j - fr,by omega,by rw [show fr+(j - fr)=j by omega]⟩
theorem zz6 {g:List (List Int)} {level:Bool} {line fr long:Nat} {x:Int} (h:x∈(zbo g ⟨level,line,fr,long⟩).1):∃ j,fr≤j∧j<fr+long∧x=(zcc g level line j).1:=by
 simp only[zbo,Int.toNat_natCast]at h
 rw [zl2]at h
 simp only[zei,List.mem_map,List.mem_range]at h
 obtain ⟨j,hj,rfl⟩:=h
 exact ⟨fr+j,by omega,by omega,rfl⟩
theorem zz7 {g:List (List Int)} {level:Bool} {line fr long:Nat} {x:Int} (h:x∈(zbo g ⟨level,line,fr,long⟩).2):∃ j,fr≤j∧j<fr+long∧x=(zcc g level line j).2:=by
 simp only[zbo,Int.toNat_natCast]at h
 rw [zl2]at h
 simp only[zei,List.mem_map,List.mem_range]at h
 obtain ⟨j,hj,rfl⟩:=h
 exact ⟨fr+j,by omega,by omega,rfl⟩
theorem z9q {g:List (List Int)} {nh nw:Nat} (h:zx9 g nh nw n) {x y:Nat}:By g (zhw g nh nw) false x y↔DL (cn g) nh nw x y:=by
 constructor
 ·rintro ⟨w,hw,hlv,⟨a,ha,rfl⟩,b,hb,rfl⟩
  obtain ⟨line,fr,long,he,hl,hin⟩:=zfh w hw
  rw [hlv]at he hin
  subst he
  obtain ⟨j1,p1,p2,rfl⟩:=zz6 ha
  obtain ⟨j2,q1,q2,rfl⟩:=zz7 hb
  have i1:=(hin j1 p1 p2).1
  have i2:=(hin j2 q1 q2).1
  unfold InL at i1 i2
  simp only[qF,if_false]at i1 i2
  obtain ⟨L,rfl⟩:∃ L,line=L+1:=⟨line - 1,by omega⟩
  refine ⟨L,j1,j2,i1.2.1,i1.2.2,i2.2.2,fun r r1 r2=>?_,?_,?_⟩
  ·have hr:=hin r (by omega) (by omega)
   have hr1:=hr.1
   unfold InL at hr1
   simp only[qF,if_false]at hr1
   have hr2:=hr.2
   unfold zhz zcc at hr2
   simp only[qF,if_false,decide_eq_true_eq,Nat.add_sub_cancel]at hr2
   exact (h.ne hr1.2.2 (by omega) hr1.2.2 hr1.2.1).1 hr2
  ·simp [zcc,cn]
  simp [zcc,cn]
 rintro ⟨L,i1,i2,h1,h2,h3,run,rfl,rfl⟩
 have hrun:Run g false (L+1) (min i1 i2) (max i1 i2):=by
  intro r r1 r2
  have:=run r r1 r2
  rw [← h.ne (by omega) (by omega) (by omega) h1]at this
  unfold zhz zcc
  simpa using this
 obtain ⟨w,hw,w1,w2,w3,w4⟩:=zru (g:=g) (H:=nh) (W:=nw) (level:=false) (line:=L+1) (by omega) (by simpa using h1) (by omega) (by simp only[qF,if_false]; omega) hrun
 obtain ⟨line,fr,long,he,hl,hin⟩:=zfh w hw
 rw [w1]at he
 subst he
 simp only at w2 w3 w4
 obtain rfl:line=L+1:=by omega
 refine ⟨_,hw,rfl,⟨_,zv5 (j:=i1) (by omega) (by omega),?_⟩,_,zv6 (j:=i2) (by omega) (by omega),?_⟩
 ·simp [zcc,cn]
 simp [zcc,cn]
theorem z6j {g:List (List Int)} {nh nw:Nat} (h:zx9 g nh nw n) {x y:Nat}:By g (zhw g nh nw) true x y↔DU (cn g) nh nw x y:=by
 constructor
 ·rintro ⟨w,hw,hlv,⟨a,ha,rfl⟩,b,hb,rfl⟩
  obtain ⟨line,fr,long,he,hl,hin⟩:=zfh w hw
  rw [hlv]at he hin
  subst he
  obtain ⟨j1,p1,p2,rfl⟩:=zz6 ha
  obtain ⟨j2,q1,q2,rfl⟩:=zz7 hb
  have i1:=(hin j1 p1 p2).1
  have i2:=(hin j2 q1 q2).1
  unfold InL at i1 i2
  simp only[if_true]at i1 i2
  obtain ⟨L,rfl⟩:∃ L,line=L+1:=⟨line - 1,by omega⟩
  refine ⟨L,j1,j2,i1.2.1,i1.2.2,i2.2.2,fun r r1 r2=>?_,?_,?_⟩
  ·have hr:=hin r (by omega) (by omega)
   have hr1:=hr.1
   unfold InL at hr1
   simp only[if_true]at hr1
   have hr2:=hr.2
   unfold zhz zcc at hr2
   simp only[if_true,decide_eq_true_eq,Nat.add_sub_cancel]at hr2
   exact (h.ne (by omega) hr1.2.2 hr1.2.1 hr1.2.2).1 hr2
  ·simp [zcc,cn]
  simp [zcc,cn]
 rintro ⟨L,i1,i2,h1,h2,h3,run,rfl,rfl⟩
 have hrun:Run g true (L+1) (min i1 i2) (max i1 i2):=by
  intro r r1 r2
  have:=run r r1 r2
  rw [← h.ne (by omega) (by omega) h1 (by omega)]at this
  unfold zhz zcc
  simpa using this
 obtain ⟨w,hw,w1,w2,w3,w4⟩:=zru (g:=g) (H:=nh) (W:=nw) (level:=true) (line:=L+1) (by omega) (by simpa using h1) (by omega) (by simp only[if_true]; omega) hrun
 obtain ⟨line,fr,long,he,hl,hin⟩:=zfh w hw
 rw [w1]at he
 subst he
 simp only at w2 w3 w4
 obtain rfl:line=L+1:=by omega
 refine ⟨_,hw,rfl,⟨_,zv5 (j:=i1) (by omega) (by omega),?_⟩,_,zv6 (j:=i2) (by omega) (by omega),?_⟩
 ·simp [zcc,cn]
 simp [zcc,cn]
theorem z6l {g:List (List Int)} {nh nw:Nat} (h:zx9 g nh nw n) {i j:Nat} (hi:i<nh) (hj:j<nw):cn g i j<n:=by
 have:=h i j hi hj
 unfold cn; omega
theorem z96 {g:List (List Int)} {nh nw:Nat} (h:zx9 g nh nw n) {a b:Nat} (ha:a<n) (hb:b<n):zc7 (zur g nh nw n) a b=true↔TC (DL (cn g) nh nw) a b:=by
 obtain ⟨⟨k1,k2⟩,-⟩:=zso h (zhw g nh nw) zfh (M:=(zek n,zek n)) (zg5 n) (zg5 n)
 have hd:∀ x y,zc7 (z8w g nh nw n).1 x y=true↔DL (cn g) nh nw x y:=fun x y=>by
  unfold z8w; rw [k2,z9q h]; simp [zua]
 unfold zur
 have k3:Sq n (z8w g nh nw n).1:=k1
 rw [zyj k3 ha hb]
 constructor
 ·exact TC.mono fun x y q=>(hd x y).1 q.2.2
 refine TC.mono fun x y q=>⟨?_,?_,(hd x y).2 q⟩
 ·obtain ⟨j,i1,i2,q1,q2,q3,-,rfl,-⟩:=q
  exact z6l h q2 (by omega)
 obtain ⟨j,i1,i2,q1,q2,q3,-,-,rfl⟩:=q
 exact z6l h q3 q1
theorem z6a {g:List (List Int)} {nh nw:Nat} (h:zx9 g nh nw n) {a b:Nat} (ha:a<n) (hb:b<n):zc7 (zmn g nh nw n) a b=true↔TC (DU (cn g) nh nw) a b:=by
 obtain ⟨-,⟨k1,k2⟩⟩:=zso h (zhw g nh nw) zfh (M:=(zek n,zek n)) (zg5 n) (zg5 n)
 have hd:∀ x y,zc7 (z8w g nh nw n).2 x y=true↔DU (cn g) nh nw x y:=fun x y=>by
  unfold z8w; rw [k2,z6j h]; simp [zua]
 unfold zmn
 have k3:Sq n (z8w g nh nw n).2:=k1
 rw [zyj k3 ha hb]
 constructor
 ·exact TC.mono fun x y q=>(hd x y).1 q.2.2
 refine TC.mono fun x y q=>⟨?_,?_,(hd x y).2 q⟩
 ·obtain ⟨j,i1,i2,q1,q2,q3,-,rfl,-⟩:=q
  exact z6l h (by omega) q2
 obtain ⟨j,i1,i2,q1,q2,q3,-,-,rfl⟩:=q
 exact z6l h q1 q3
end
end
section
def lfM (p:List Txt):List (List Bool):=zur (gP p) p.length (zax p).length (rP p).length
def abM (p:List Txt):List (List Bool):=zmn (gP p) p.length (zax p).length (rP p).length
def Lf (p:List Txt) (a b:Nat):Prop:=zc7 (lfM p) a b=true
def Ab (p:List Txt) (a b:Nat):Prop:=zc7 (abM p) a b=true
section
variable {p:List Txt} {a b d:Nat}
theorem Lf.iff (ha:a<(rP p).length) (hb:b<(rP p).length):Lf p a b↔TC (DL (cn (gP p)) p.length (zax p).length) a b:=z96 zoy ha hb
theorem Ab.iff (ha:a<(rP p).length) (hb:b<(rP p).length):Ab p a b↔TC (DU (cn (gP p)) p.length (zax p).length) a b:=z6a zoy ha hb
theorem Lf.trans (ha:a<(rP p).length) (hb:b<(rP p).length) (hd:d<(rP p).length) (h:Lf p a b) (k:Lf p b d):Lf p a d:=by
 rw [Lf.iff ha hd]; exact ((Lf.iff ha hb).1 h).trans ((Lf.iff hb hd).1 k)
theorem Ab.trans (ha:a<(rP p).length) (hb:b<(rP p).length) (hd:d<(rP p).length) (h:Ab p a b) (k:Ab p b d):Ab p a d:=by
 rw [Ab.iff ha hd]; exact ((Ab.iff ha hb).1 h).trans ((Ab.iff hb hd).1 k)
end
end
section
def rooms (n:Nat):List Int:=(List.range n).map fun i:Nat=>(i:Int)
section
variable {n:Nat} {f:Nat→Nat}
end
end
section
section
variable {p:List Txt} {below:Bool}
end
end
section
section
variable {M:List (List Bool)} {ws:List Int} {n:Nat} {rk:Nat→Nat}
theorem z3m (hw:zht ws) {b:Nat} (hb:b<ws.length):1≤zhg ws b∧zhg ws b≤9:=by
 obtain ⟨x,hx,hm⟩:=zaf hb
 rw [zgc hx]; exact hw x hm
end
end
theorem ycx {p:List Txt}:zur (gP p) p.length (w0 (zbw p)) (rP p).length=lfM p:=by rw [zg3]; rfl
theorem ycv {p:List Txt}:zmn (gP p) p.length (w0 (zbw p)) (rP p).length=abM p:=by rw [zg3]; rfl
theorem zuz {p:List Txt} {ws:List Int} (h:zd1 p [ws]=true):Up (lfM p) (rP p).length (rkL p)∧Up (abM p) (rP p).length (rkA p)∧ws.length=(rP p).length∧1≤(rP p).length∧(rP p).length≤9∧zht ws∧zha p=true:=by
 obtain ⟨-,-,h1,h2,h3,h4,h5⟩:=z4f h
 rw [ycx]at h1; rw [ycv]at h2
 obtain ⟨k1,-,-⟩:=zpb h
 have hok:okB p=true:=by
  have h9:=k1
  unfold zfc zfq at h9
  simp only[qB]at h9
  exact h9.1.1
 have h9:=zu2 hok
 rw [zic]at k1
 exact ⟨h1,h2,h3,h4,h9,h5,k1⟩
section
variable {M:List (List Bool)} {ms:List Nat} {n:Nat} {rk:Nat→Nat} {ws out:List Int}
abbrev ones (n:Nat):List Int:=List.replicate n 1
def RB (M:List (List Bool)) (n b:Nat):Int:=HB (revM n M) (ones n) n b
def ycu (M:List (List Bool)) (n:Nat) (out:List Int):Prop:=out.length=n∧∀ a,a<n→0≤zhg out a∧zhg out a≤RB M n a
theorem ycu.set (h:ycu M n out) {a:Nat} {v:Int} (ha:a<n) (h0:0≤v) (h1:v≤RB M n a):ycu M n (out.set a v):=by
 refine ⟨by simp [h.1],fun y hy=>?_⟩
 rw [z6t (by rw [h.1]; exact ha)]
 split
 ·rename_i e; subst e; exact ⟨h0,h1⟩
 exact h.2 y hy
end
section
variable {p:List Txt}
end

def Pat (g1 g2:List (List Int)) (H W:Nat):Prop:=∀ i j i' j',i<H→j<W→i'<H→j'<W→(gz g1 i j=gz g1 i' j'↔gz g2 i j=gz g2 i' j')
theorem Pat.symm {g1 g2:List (List Int)} {H W:Nat} (h:Pat g1 g2 H W):Pat g2 g1 H W:=fun i j i' j' a b c d=>(h i j i' j' a b c d).symm
theorem Pat.trans {g1 g2 g3:List (List Int)} {H W:Nat} (h:Pat g1 g2 H W) (k:Pat g2 g3 H W):Pat g1 g3 H W:=fun i j i' j' a b c d=>(h i j i' j' a b c d).trans (k i j i' j' a b c d)
structure KC (g1 g2:List (List Int)) (H W:Nat) (k1 k2:List Int):Prop where
 len:k1.length=k2.length
 at_:∀ i j,i<H→j<W→k1.idxOf (gz g1 i j)=k2.idxOf (gz g2 i j)
theorem zqy {l:List Int} {z x:Int} (h:l.idxOf x=l.length):(l++[z]).idxOf x=if x=z then l.length else l.length+1:=by
 have hn:=zo0 h
 rw [List.idxOf_append,if_neg hn]
 by_cases e:x=z
 ·subst e; simp
 rw [if_neg e]
 have e2:(z == x)=false:=by simpa using fun h=>e h.symm
 simp [List.idxOf_cons,e2]
 omega
theorem KC.step {g1 g2:List (List Int)} {H W:Nat} (hp:Pat g1 g2 H W) {k1 k2:List Int} (h:KC g1 g2 H W k1 k2) {a b:Nat} (ha:a<H) (hb:b<W):KC g1 g2 H W (zhd k1 (gz g1 a b)) (zhd k2 (gz g2 a b)):=by
 have h1:=h.at_ a b ha hb
 unfold zhd
 by_cases e:k1.idxOf (gz g1 a b)=k1.length
 ·have e2:k2.idxOf (gz g2 a b)=k2.length:=by rw [← h1,e,h.len]
  rw [if_pos e,if_pos e2]
  refine ⟨by simp [h.len],fun i j hi hj=>?_⟩
  have h2:=h.at_ i j hi hj
  have hpt:=hp i j a b hi hj ha hb
  by_cases q:k1.idxOf (gz g1 i j)=k1.length
  ·have q2:k2.idxOf (gz g2 i j)=k2.length:=by rw [← h2,q,h.len]
   rw [zqy q,zqy q2,h.len]
   by_cases r:gz g1 i j=gz g1 a b
   ·rw [if_pos r,if_pos (hpt.1 r)]
   rw [if_neg r,if_neg fun x=>r (hpt.2 x)]
  have q2:¬ k2.idxOf (gz g2 i j)=k2.length:=by rw [← h2,← h.len]; exact q
  rw [zoz q,zoz q2,h2]
 have e2:¬ k2.idxOf (gz g2 a b)=k2.length:=by rw [← h1,← h.len]; exact e
 rw [if_neg e,if_neg e2]
 exact h
theorem z49 {k1 k2 rs:List Int} {R:List Rect} {z1 z2:Int} {q:Rect} (hl:k1.length=k2.length) (hi:k1.idxOf z1=k2.idxOf z2):zn8 k1 R z1 q=zn8 k2 R z2 q:=by
 unfold zn8 zh2
 rw [hl,hi]
theorem zmg {g1 g2:List (List Int)} {H W:Nat} (hp:Pat g1 g2 H W) {i:Nat} (hi:i<H) {s1 s2:List Int × List Rect} (h:KC g1 g2 H W s1.1 s2.1) (hr:s1.2=s2.2):∀ j,j≤W →
  KC g1 g2 H W (zdb g1 i s1 j).1 (zdb g2 i s2 j).1∧(zdb g1 i s1 j).2=(zdb g2 i s2 j).2
 | 0,_=>⟨h,hr⟩
 | j+1,hj=>by
  obtain ⟨h1,h2⟩:=zmg hp hi h hr j (by omega)
  unfold zdb
  refine ⟨h1.step hp hi (by omega),?_⟩
  show zn8 _ _ _ _=zn8 _ _ _ _
  rw [h2]
  exact z49 (rs:=[]) h1.len (h1.at_ i j hi (by omega))
theorem zj0 {g1 g2:List (List Int)} {H W:Nat} (hp:Pat g1 g2 H W):∀ i,i≤H→KC g1 g2 H W (zay g1 W i).1 (zay g2 W i).1∧(zay g1 W i).2=(zay g2 W i).2
 | 0,_=>⟨⟨rfl,fun _ _ _ _=>rfl⟩,rfl⟩
 | i+1,hi=>by
  obtain ⟨h1,h2⟩:=zj0 hp i (by omega)
  exact zmg hp (by omega) h1 h2 W (qR _)
theorem zwg {g1 g2:List (List Int)} {H W:Nat} (hp:Pat g1 g2 H W) {i:Nat} (hi:i<H) {s1 s2:List Int × List Rect} (h:KC g1 g2 H W s1.1 s2.1) (hr:s1.2=s2.2):∀ j,j≤W→zmm g1 i s1 j=zmm g2 i s2 j
 | 0,_=>rfl
 | j+1,hj=>by
  unfold zmm
  rw [zwg hp hi h hr j (by omega),(zmg hp hi h hr j (by omega)).1.at_ i j hi (by omega)]
theorem zry {g1 g2:List (List Int)} {H W:Nat} (hp:Pat g1 g2 H W):∀ i,i≤H→zd4 g1 W i=zd4 g2 W i
 | 0,_=>rfl
 | i+1,hi=>by
  obtain ⟨h1,h2⟩:=zj0 hp i (by omega)
  unfold zd4
  rw [zry hp i (by omega),zwg hp (by omega) h1 h2 W (qR _)]
theorem GW.w0 {g:List (List Int)} {H W:Nat} (h:GW g H W):w0 g=W:=by
 obtain ⟨row,hrow,hl,-⟩:=h.at_ (show 0<H by have:=h.2.2.1; omega) (show 0<W by have:=h.2.2.2.2.1; omega)
 rw [z74 hrow,hl]
theorem GW.zG {g:List (List Int)} {H W:Nat} (h:GW g H W):zG g=zd4 g W H∧stG g=zay g W H:=by
 unfold Fw.zG stG; rw [h.w0,h.1]; exact ⟨rfl,rfl⟩
theorem ybc {g:List (List Int)} {H W i j:Nat} (h:GW g H W) (hi:i<H) (hj:j<W):gz (zG g) i j=(((zay g W H).1.idxOf (gz g i j):Nat):Int):=by
 rw [h.zG.1]
 unfold gz
 rw [zi6 hi,Option.getD_some,zx8 hj,Option.getD_some]
 congr 1
 exact zNum hi hj
theorem z0h {g:List (List Int)} {H W:Nat} (h:GW g H W):GW (zG g) H W:=by
 rw [h.zG.1]
 refine ⟨zcu _,fun r hr=>?_,h.2.2⟩
 obtain ⟨k,hk⟩:=List.getElem?_of_mem hr
 have:=zci hk
 rw [zcu]at this
 rw [zi6 this]at hk
 cases hk
 exact zeq _
theorem z54 {g:List (List Int)} {H W i j:Nat} (hi:i<H) (hj:j<W):gz g i j∈(zay g W H).1:=(SeInv.rows (g:=g) (W:=W) H).mem i j (znt hi hj)
theorem ycq {g:List (List Int)} {H W:Nat} (h:GW g H W):Pat (zG g) g H W:=by
 intro i j i' j' hi hj hi' hj'
 rw [ybc h hi hj,ybc h hi' hj']
 constructor
 ·intro e
  have h1:=zh9 (ks:=(zay g W H).1) (z:=gz g i j) (by have:=List.idxOf_lt_length_iff.2 (z54 (g:=g) hi hj); omega)
  have h2:=zh9 (ks:=(zay g W H).1) (z:=gz g i' j') (by have:=List.idxOf_lt_length_iff.2 (z54 (g:=g) hi' hj'); omega)
  rw [show (zay g W H).1.idxOf (gz g i j)=(zay g W H).1.idxOf (gz g i' j') by omega,h2]at h1
  exact (Option.some.inj h1).symm
 intro e; rw [e]
theorem yc7 {g:List (List Int)} {H W i j:Nat} (h:GW g H W) (hi:i<H) (hj:j<W):0≤gz (zG g) i j∧gz (zG g) i j<(zay g W H).2.length:=by
 rw [ybc h hi hj]
 have h1:=List.idxOf_lt_length_iff.2 (z54 (g:=g) hi hj)
 have h2:=(SeInv.rows (g:=g) (W:=W) H).len
 omega
theorem zrj {g:List (List Int)} {H W i j:Nat} (h:GW g H W) (hi:i<H) (hj:j<W) (h0:0≤gz g i j) (h1:gz g i j≤100):gz (zbw (zff g)) i j=gz g i j+97:=by
 obtain ⟨row,hrow,hl,hx⟩:=h.at_ hi hj
 have e1:(zbw (zff g))[i]?=some (ztn (zpo row)):=by simp [zbw,zli hrow]
 have e2:(ztn (zpo row))[j]?=some ((z3h (gz g i j)).toNat:Int):=by simp [ztn,zpo,hx]
 have e3:gz (zbw (zff g)) i j=((z3h (gz g i j)).toNat:Int):=by
  conv=>lhs; unfold gz
  rw [e1,Option.getD_some,e2,Option.getD_some]
 rw [e3]
 unfold z3h
 rw [UInt8.toNat_ofNat_of_lt' (by show 97+(gz g i j).toNat<256; omega)]
 omega
theorem z5s {g:List (List Int)} {H W:Nat} (h:GW g H W):(zff g).length=H∧(zax (zff g)).length=W:=by
 refine ⟨by rw [zwa,h.1],?_⟩
 obtain ⟨row,hrow,hl,-⟩:=h.at_ (show 0<H by have:=h.2.2.1; omega) (show 0<W by have:=h.2.2.2.2.1; omega)
 rw [zcj (zli hrow)]
 simp [zpo,hl]
theorem z5r {g:List (List Int)} {H W:Nat} (h:GW g H W) (hz:∀ i j,i<H→j<W→0≤gz g i j∧gz g i j<26):zcp (zff g)=true:=by
 obtain ⟨t1,t2⟩:=z5s h
 unfold zcp
 rw [t1,t2]
 have h2:=h.2.2
 have:(zff g).all (zqb W)=true:=by
  rw [List.all_eq_true]
  intro r hr
  obtain ⟨i,hi⟩:=List.getElem?_of_mem hr
  have hil:=zci hi
  rw [t1]at hil
  obtain ⟨row,hrow,hrm⟩:=zaf (show i<g.length by rw [h.1]; exact hil)
  have hrl:=h.2.1 row hrm
  rw [zli hrow]at hi
  cases hi
  unfold zqb
  simp only[qB,decide_eq_true_eq,List.all_eq_true]
  refine ⟨⟨⟨by simp [zpo,hrl],by simp [zpo]; omega⟩,by simp [zpo]; omega⟩,fun c hc=>?_⟩
  obtain ⟨z,hzm,rfl⟩:=List.mem_map.1 hc
  obtain ⟨j,hj⟩:=List.getElem?_of_mem hzm
  have hjl:=zci hj
  have e:gz g i j=z:=by simp [gz,hrow,hj]
  have:=hz i j hil (by omega)
  rw [e]at this
  unfold zcs z3h
  rw [UInt8.toNat_ofNat_of_lt' (by show 97+z.toNat<256; omega)]
  simp only[qB,decide_eq_true_eq]
  omega
 rw [this]
 simp only[Bool.true_and,qB,decide_eq_true_eq]
 omega
def nm (g:List (List Int)):List Txt:=zff (zG g)
structure NmOk (g:List (List Int)) (H W:Nat):Prop where
 gw:GW g H W
 le:(zay g W H).2.length≤9
theorem NmOk.bound {g:List (List Int)} {H W:Nat} (h:NmOk g H W) {i j:Nat} (hi:i<H) (hj:j<W):0≤gz (zG g) i j∧gz (zG g) i j≤8:=by
 have h1:=yc7 h.gw hi hj
 have h2:=h.le
 omega
theorem NmOk.hd {g:List (List Int)} {H W:Nat} (h:NmOk g H W):(nm g).length=H∧(zax (nm g)).length=W:=z5s (z0h h.gw)
theorem NmOk.pat {g:List (List Int)} {H W:Nat} (h:NmOk g H W):Pat (zbw (nm g)) g H W:=by
 refine Pat.trans (fun i j i' j' hi hj hi' hj'=>?_) (ycq h.gw)
 have b1:=h.bound hi hj
 have b2:=h.bound hi' hj'
 unfold nm
 rw [zrj (z0h h.gw) hi hj b1.1 (by omega),zrj (z0h h.gw) hi' hj' b2.1 (by omega)]
 constructor <;> intro e <;> omega
theorem NmOk.gP {g:List (List Int)} {H W:Nat} (h:NmOk g H W):gP (nm g)=zG g∧rP (nm g)=(zay g W H).2:=by
 rw [z2n,z4m,h.hd.1,h.hd.2,h.gw.zG.1]
 exact ⟨zry h.pat H (qR _),(zj0 h.pat H (qR _)).2⟩
theorem NmOk.named {g:List (List Int)} {H W:Nat} (h:NmOk g H W):Named (nm g):=by
 refine ⟨z5r (z0h h.gw) fun i j hi hj=>by have:=h.bound hi hj; omega,?_⟩
 rw [h.gP.1]; rfl
theorem NmOk.cell {g:List (List Int)} {H W:Nat} (h:NmOk g H W) {i j:Nat} (hi:i<H) (hj:j<W):zao (nm g) i j=gz (zG g) i j:=by
 rw [← h.named.cell (by rw [h.hd.1]; exact hi) (by rw [h.hd.2]; exact hj),h.gP.1]
structure Cells (c:Nat→Nat→Nat) (g:List (List Int)) (H W:Nat):Prop where
 gw:GW g H W
 at_:∀ i j,i<H→j<W→gz g i j=((c i j:Nat):Int)
structure Ren (c:Nat→Nat→Nat) (H W:Nat) (t:List Txt):Prop where
 hl:t.length=H
 wl:(zax t).length=W
 pat:∀ i j i' j',i<H→j<W→i'<H→j'<W→(cn (gP t) i j=cn (gP t) i' j'↔c i j=c i' j')
section
variable {c c':Nat→Nat→Nat} {H W:Nat}
theorem TC.map {R S:Nat→Nat→Prop} {f:Nat→Nat} (h:∀ a b,R a b→S (f a) (f b)) {a b:Nat} (k:TC R a b):TC S (f a) (f b):=by
 induction k with
 | one k=>exact .one (h _ _ k)
 | tail _ k ih=>exact .tail ih (h _ _ k)
structure Iso (p t:List Txt) (L U:Nat→Nat→Prop) (σ:Nat→Nat):Prop where
 pl:zha t=true
 n:(rP t).length=(rP p).length
 lt:∀ a,a<(rP p).length→σ a<(rP p).length
 inj:∀ a b,a<(rP p).length→b<(rP p).length→σ a=σ b→a=b
 lf:∀ a b,a<(rP p).length→b<(rP p).length→(Lf t (σ a) (σ b)↔L a b)
 ab:∀ a b,a<(rP p).length→b<(rP p).length→(Ab t (σ a) (σ b)↔U a b)
theorem Iso.imp {p t:List Txt} {L U L' U':Nat→Nat→Prop} {σ:Nat→Nat} (h:Iso p t L U σ) (hL:∀ a b,a<(rP p).length→b<(rP p).length→(L a b↔L' a b)) (hU:∀ a b,a<(rP p).length→b<(rP p).length→(U a b↔U' a b)):Iso p t L' U' σ :=
 ⟨h.pl,h.n,h.lt,h.inj,fun a b ha hb=>(h.lf a b ha hb).trans (hL a b ha hb),fun a b ha hb=>(h.ab a b ha hb).trans (hU a b ha hb)⟩
structure Fold1 (f:Nat→Nat) (m n:Nat):Prop where
 pos:1≤m
 z:f 0=0
 s:∀ i,i+1<m→f (i+1)=f i∨f (i+1)=f i+1
 e:f (m - 1)+1=n
theorem Fold1.mono {f:Nat→Nat} {m n:Nat} (h:Fold1 f m n):∀ {i j:Nat},i≤j→j<m→f i≤f j:=by
 intro i j hij
 induction j with
 | zero=>intro _; rw [show i=0 by omega]; exact qR _
 | succ j ih =>
  intro hj
  by_cases e:i=j+1
  ·subst e; exact qR _
  have h1:=ih (by omega) (by omega)
  have:=h.s j hj
  omega
theorem Fold1.lt {f:Nat→Nat} {m n i:Nat} (h:Fold1 f m n) (hi:i<m):f i<n:=by
 have:=h.mono (i:=i) (j:=m - 1) (by omega) (by have:=h.pos; omega)
 have:=h.e
 omega
theorem Fold1.mid {f:Nat→Nat} {m n i:Nat} (h:Fold1 f m n) {v:Nat}:∀ {j:Nat},i≤j→j<m→f i≤v→v≤f j→∃ r,i≤r∧r≤j∧f r=v:=by
 intro j
 induction j with
 | zero=>intro h1 h2 h3 h4; exact ⟨0,by omega,qR _,by rw [show i=0 by omega]at h3; omega⟩
 | succ j ih =>
  intro h1 h2 h3 h4
  by_cases e:f (j+1)=v
  ·exact ⟨j+1,h1,qR _,e⟩
  by_cases e2:i=j+1
  ·subst e2; omega
  have:=h.s j h2
  obtain ⟨r,r1,r2,r3⟩:=ih (by omega) (by omega) h3 (by omega)
  exact ⟨r,r1,by omega,r3⟩
theorem Fold1.last {f:Nat→Nat} {m n v:Nat} (h:Fold1 f m n) (hv:v+1<n):∃ r,r+1<m∧f r=v∧f (r+1)=v+1:=by
 have hp:=h.pos
 have he:=h.e
 obtain ⟨e,h1,h2,h3,h4⟩:=z2k (P:=fun r=>f r≤v) (i:=0) (n:=m - 1) (by omega) (by rw [h.z]; omega) (by omega)
 have:=h.s e (by omega)
 exact ⟨e,by omega,by omega,by omega⟩
theorem DL.fold {f g:Nat→Nat} {H' W':Nat} (hf:Fold1 f H H') (hg:Fold1 g W W') (hc:∀ i j,i<H→j<W→c i j=c' (f i) (g j)) {a b:Nat}:DL c H W a b↔DL c' H' W' a b:=by
 constructor
 ·rintro ⟨j,i1,i2,h1,h2,h3,run,rfl,rfl⟩
  have hgj:g (j+1)=g j+1:=by
   rcases hg.s j h1 with e | e
   ·have:=run i1 (by omega) (by omega)
    rw [hc i1 j h2 (by omega),hc i1 (j+1) h2 h1,e]at this
    exact absurd rfl this
   exact e
  have hlt:=hg.lt h1
  refine ⟨g j,f i1,f i2,by omega,hf.lt h2,hf.lt h3,fun r r1 r2=>?_,hc _ _ h2 (by omega),by rw [hc _ _ h3 h1,hgj]⟩
  have:∃ r0,min i1 i2≤r0∧r0≤max i1 i2∧f r0=r:=by
   rcases Nat.le_total i1 i2 with q | q
   ·have:=hf.mono q h3
    obtain ⟨r0,q1,q2,q3⟩:=hf.mid (v:=r) q h3 (by omega) (by omega)
    exact ⟨r0,by omega,by omega,q3⟩
   have:=hf.mono q h2
   obtain ⟨r0,q1,q2,q3⟩:=hf.mid (v:=r) q h2 (by omega) (by omega)
   exact ⟨r0,by omega,by omega,q3⟩
  obtain ⟨r0,q1,q2,rfl⟩:=this
  have:=run r0 q1 q2
  rw [hc r0 j (by omega) (by omega),hc r0 (j+1) (by omega) h1,hgj]at this
  exact this
 rintro ⟨j,i1,i2,h1,h2,h3,run,rfl,rfl⟩
 obtain ⟨j0,k1,k2,k3⟩:=hg.last h1
 have hfe:=hf.e
 have hfp:=hf.pos
 obtain ⟨r1,-,q2,q3⟩:=hf.mid (i:=0) (j:=H - 1) (v:=i1) (by omega) (by omega) (by rw [hf.z]; omega) (by omega)
 obtain ⟨r2,-,q5,q6⟩:=hf.mid (i:=0) (j:=H - 1) (v:=i2) (by omega) (by omega) (by rw [hf.z]; omega) (by omega)
 refine ⟨j0,r1,r2,k1,by omega,by omega,fun r s1 s2=>?_,by rw [hc _ _ (by omega) (by omega),q3,k2],by rw [hc _ _ (by omega) (by omega),q6,k3]⟩
 rw [hc r j0 (by omega) (by omega),hc r (j0+1) (by omega) k1,k2,k3]
 refine run (f r) ?_ ?_
 ·rcases Nat.le_total r1 r2 with q | q
  ·have:=hf.mono (show r1≤r by omega) (show r<H by omega); omega
  have:=hf.mono (show r2≤r by omega) (show r<H by omega); omega
 rcases Nat.le_total r1 r2 with q | q
 ·have:=hf.mono (show r≤r2 by omega) (show r2<H by omega); omega
 have:=hf.mono (show r≤r1 by omega) (show r1<H by omega); omega
theorem DU.fold {f g:Nat→Nat} {H' W':Nat} (hf:Fold1 f H H') (hg:Fold1 g W W') (hc:∀ i j,i<H→j<W→c i j=c' (f i) (g j)) {a b:Nat}:DU c H W a b↔DU c' H' W' a b :=
 DL.fold (c:=tr c) (c':=tr c') hg hf fun i j hi hj=>hc j i hj hi
theorem TC.iff {R S:Nat→Nat→Prop} (h:∀ a b,R a b↔S a b) {a b:Nat}:TC R a b↔TC S a b:=⟨TC.mono fun a b=>(h a b).1,TC.mono fun a b=>(h a b).2⟩
end
section
variable {p t:List Txt} {L U:Nat→Nat→Prop} {σ:Nat→Nat}
end
section
variable {c:Nat→Nat→Nat} {H W:Nat}
theorem DL.cols (h:Pl c H W) {i j i' j':Nat} (hi:i<H) (hj:j<W) (hi':i'<H) (hj':j'<W) (hd:DL c H W (c i j) (c i' j')):j<j':=by
 obtain ⟨k,i1,i2,h1,h2,h3,run,e1,e2⟩:=hd
 have a1:j≤k:=by
  refine Classical.byContradiction fun hn=>?_
  have:=h.rect (i:=i1) (j:=k) (i':=i) (j':=j) i1 (k+1) h2 hi (by omega) hj e1.symm (by omega) (by omega) (by omega) (by omega)
  exact run i1 (by omega) (by omega) this.symm
 have a2:k+1≤j':=by
  refine Classical.byContradiction fun hn=>?_
  have:=h.rect (i:=i2) (j:=k+1) (i':=i') (j':=j') i2 k h3 hi' h1 hj' e2.symm (by omega) (by omega) (by omega) (by omega)
  exact run i2 (by omega) (by omega) this
 omega
theorem DL.cells {a b:Nat} (hd:DL c H W a b):(∃ i j,i<H∧j<W∧c i j=a)∧∃ i j,i<H∧j<W∧c i j=b:=by
 obtain ⟨k,i1,i2,h1,h2,h3,run,e1,e2⟩:=hd
 exact ⟨⟨i1,k,h2,by omega,e1.symm⟩,i2,k+1,h3,h1,e2.symm⟩
theorem TC.cols (h:Pl c H W) {a b:Nat} (hd:TC (DL c H W) a b):∀ {i j i' j':Nat},i<H→j<W→i'<H→j'<W→c i j=a→c i' j'=b→j<j':=by
 induction hd with
 | one hd=>intro i j i' j' h1 h2 h3 h4 e1 e2; subst e1; subst e2; exact hd.cols h h1 h2 h3 h4
 | tail _ hd ih =>
  intro i j i' j' h1 h2 h3 h4 e1 e2
  obtain ⟨⟨x,y,hx,hy,e3⟩,-⟩:=hd.cells
  have q1:=ih h1 h2 hx hy e1 e3
  subst e2; rw [← e3]at hd
  have q2:=hd.cols h hx hy h3 h4
  omega
variable {p:List Txt}
end
structure Made (c:Nat→Nat→Nat) (H W:Nat) (g:List (List Int)):Prop where
 gw:GW g H W
 ok:okS g=true
 full:zkj g=true
 plan:zcz (nm g)=true
 ren:Ren c H W (nm g)
section
section
variable {P:Program} {T:Tab} {F:Nat→Prop} {G:GSt} {w:World} {e:Env} {a:Act} {F0:Nat→Prop} {G0:GSt} {w0:World} {N:Nat}
end
section
variable {P:Program} {T:Tab} {Q:Exit→Env→Store→Prop} {e:Env} {S:Store} {b:Code}
end
end

section
section
variable {p:List Txt} {room:Int} {s:Txt} {t l h w k:Nat}
end
end










section
section
variable {S:Store} {fr:Nat→Bool} {f:Nat}
end
end





def slR (rows:List (List Int)) (v:Nat):PV:=match rows with | [] => .nils | _ => .loc 0 v 0 rows.length
def stR (rows:List (List Int)) (v t:Nat):Store:=match rows with | []=>⟨[],t⟩ | _=>⟨[.arr v 24 1 (rows.map eInts)],t⟩
theorem yay {v:Nat}:slR [] v = .nils:=rfl
theorem ya1 {v t:Nat}:stR [] v t=⟨[],t⟩:=rfl
theorem z5f {rows:List (List Int)} {v:Nat} (h:rows≠[]):slR rows v = .loc 0 v 0 rows.length:=by cases rows with | nil=>exact absurd rfl h | cons a l=>rfl
theorem z5i {rows:List (List Int)} {v t:Nat} (h:rows≠[]):stR rows v t=⟨[.arr v 24 1 (rows.map eInts)],t⟩:=by cases rows with | nil=>exact absurd rfl h | cons a l=>rfl
theorem zvx {S:Store} {k f:Nat} {sel:List Nat} (l:List (List Int)):(l.map eInts).mapM (rn S k sel (f+1))=some (l.map eInts) :=
 zce fun x hx=>by obtain ⟨a,_,rfl⟩:=List.mem_map.1 hx; rfl
theorem z4r {rows:List (List Int)} {v t:Nat}:reify (stR rows v t) true 9 (slR rows v)=some (zd0 rows):=by
 by_cases h:rows=[]
 ·subst h; rfl
 rw [z5f h,z5i h]
 exact zbc rfl (by simp) (zg7 _)

theorem z44 {l:List (Int × Int)} {n:Nat} {x:Int × Int} (h:l[n]?=some x):(scs l)[n*2+1]?=some (.int .i64 x.2):=by
 induction l generalizing n with
 | nil=>simp at h
 | cons a l ih =>
  cases n with
  | zero=>simp at h; subst h; rw [zhp]; simp [zr7]
  | succ n =>
   simp at h
   rw [zhp,show (n+1)*2+1=(zr7 a).length+(n*2+1) by simp [zr7]; omega,List.getElem?_append_right (by omega),Nat.add_sub_cancel_left]
   exact ih h
theorem zxa {l:List Shp} (h:l≠[]):∃ q,l[l.length - 1]?=some q∧l.getLast?=some q:=by
 refine ⟨l.getLast h,?_,List.getLast?_eq_some_getLast h⟩
 rw [← List.getLast?_eq_getElem?]; exact List.getLast?_eq_some_getLast h
theorem zr3 {o:List Shp} {x q:Shp} (h:o.getLast?=some q):bsS o x=if x.2<q.2 then o++[x] else o:=by unfold bsS; rw [h]
theorem zye {z:List Shp} {i:Nat} (h:i≠0) (hz:i≤z.length):bsF (z.take i)≠[]:=by
 have key:∀ (z:List Shp) (o:List Shp),o≠[]→z.foldl bsS o≠[]:=by
  intro z
  induction z with
  | nil=>intro o ho; exact ho
  | cons a z ih =>
   intro o ho
   refine ih _ ?_
   obtain ⟨q,-,hq⟩:=zxa ho
   rw [zr3 hq]; split
   ·simp
   exact ho
 match z,i,h,hz with
 | a::z,i+1,_,_=>exact key (z.take i) [a] (by simp)
 | [],i+1,_,h=>simp at h
theorem z23  : PC Tryz.prog 154 [.sl [] 0,.int .i64 0,.int .i64 0,.fn 104 []] (.tup []) true:=by
 refine PC.of ⟨Tryz.func154,by kernel_rfl,rfl,by kernel_rfl⟩ za4 mixed (by show 4≤Tryz.f154.ntmps; decide) ?_
 refine W.r fun K hK=>?_
 simp(disch:=omega)only[↓RU,RV,RH,↓reduceIte,qE,reduceCtorEq,if_pos,w64,zaa]
 apply hK;clear hK K
 refine W.block ?_
 refine W.loop [2,8] (fun n vs S=>n=0∧vs=[.int .i64 0,.int .i64 1]∧S=⟨[],0⟩) 0 ?_ ?_
 ·refine ⟨0,rfl,?_,rfl⟩
  simp [Env.put,Env.of,zad]
 rintro n vs S - ⟨rfl,rfl,rfl⟩
 refine W.seq ?_
 refine W.r fun K hK=>?_
 simp(disch:=omega)only[↓RU,RV,RH,↓reduceIte,qE,reduceCtorEq,if_pos,w64,zaa]
 apply hK;clear hK K
 refine W.cond rfl (fun h=>?_) (fun h=>?_)
 ·try simp only[RL]at h
  exact absurd h (by decide)
 try simp only[RL]at h
 refine W.exit ?_
 refine xe ?_
 refine xe ?_
 refine XBlock.hit ?_
 refine zhi.norm rfl ?_
 rfl
theorem z3f  : PC Tryz.prog 163 [.int .u64 0] (.int .i64 0) true:=by
 refine PC.of ⟨Tryz.func163,by kernel_rfl,rfl,by kernel_rfl⟩ za4 mixed (by show 1≤Tryz.f163.ntmps; decide) ?_
 refine W.r fun K hK=>?_
 simp(disch:=omega)only[↓RU,RV,RH,↓reduceIte,qE,reduceCtorEq,if_pos]
 apply hK;clear hK K
 refine W.seq ?_
 refine W.r fun K hK=>?_
 simp(disch:=omega)only[↓RU,RV,RH,↓reduceIte,qE,reduceCtorEq,if_pos,w64,z9c]
 apply hK;clear hK K
 refine W.cond rfl (fun h=>?_) (fun h=>?_)
 ·try simp only[RL]at h
  exact absurd h (by decide)
 try simp only[RL]at h
 refine W.skip ?_
 refine xn ?_
 refine W.seq ?_
 refine W.r fun K hK=>?_
 simp(disch:=omega)only[↓RU,RV,RH,↓reduceIte,qE,reduceCtorEq,if_pos,w64,z9c]
 apply hK;clear hK K
 refine W.cond rfl (fun h1=>?_) (fun h1=>?_)
 ·try simp only[RL]at h1
  exact absurd h1 (by decide)
 try simp only[RL]at h1
 refine W.skip ?_
 refine xn ?_
 refine W.seq ?_
 refine W.r fun K hK=>?_
 simp(disch:=omega)only[↓RU,RV,RH,↓reduceIte,qE,reduceCtorEq,if_pos,w64,z9c]
 apply hK;clear hK K
 refine W.cond rfl (fun h2=>?_) (fun h2=>?_)
 ·try simp only[RL]at h2
  exact absurd h2 (by decide)
 try simp only[RL]at h2
 refine W.skip ?_
 refine xn ?_
 refine W.r fun K hK=>?_
 simp(disch:=omega)only[↓RU,RV,RH,↓reduceIte,qE,reduceCtorEq,if_pos,w64,w64,zaa,zah,z9c,zhh]
 apply hK;clear hK K
 refine W.ret ?_
 refine Br rfl ?_
 rfl
theorem z97  : PC Tryz.prog 137 [.int .u64 0] (.int .i64 0) true:=by
 refine PC.of ⟨Tryz.func137,by kernel_rfl,rfl,by kernel_rfl⟩ za4 mixed (by show 1≤Tryz.f137.ntmps; decide) ?_
 refine W.r fun K hK=>?_
 simp(disch:=omega)only[↓RU,RV,RH,↓reduceIte,qE,reduceCtorEq,if_pos]
 apply hK;clear hK K
 refine W.seq ?_
 refine W.cond rfl (fun h=>?_) (fun h=>?_)
 ·try simp only[RL]at h
  exact absurd h (by decide)
 try simp only[RL]at h
 refine W.skip ?_
 refine xn ?_
 refine W.r fun K hK=>?_
 simp(disch:=omega)only[↓RU,RV,RH,↓reduceIte,qE,reduceCtorEq,if_pos,qN]
 refine zag.pc (z3f) rfl (.inl rfl) ?_
 simp(disch:=omega)only[↓RU,RV,RH,↓reduceIte,qE,reduceCtorEq,if_pos,qN]
 apply hK;clear hK K
 refine W.ret ?_
 refine Br rfl ?_
 rfl
theorem z4b  : PC Tryz.prog 136 [.sl [] 0,.int .i64 0,.int .i64 0,.int .i64 0,.fn 104 []] (.tup []) true:=by
 refine PC.of ⟨Tryz.func136,by kernel_rfl,rfl,by kernel_rfl⟩ za4 mixed (by show 5≤Tryz.f136.ntmps; decide) ?_
 refine W.r fun K hK=>?_
 simp(disch:=omega)only[↓RU,RV,RH,↓reduceIte,qE,reduceCtorEq,if_pos]
 apply hK;clear hK K
 refine W.r fun K hK=>?_
 simp(disch:=omega)only[↓RU,RV,RH,↓reduceIte,qE,reduceCtorEq,if_pos]
 apply hK;clear hK K
 refine W.block ?_
 refine W.loop [0,1,2,4] (fun n vs S=>n=1∧vs=[.sl [] 0,.int .i64 0,.int .i64 0,.fn 104 []]∧S=⟨[],0⟩) 1 ?_ ?_
 ·refine ⟨0,rfl,?_,rfl⟩
  simp [Env.put,Env.of,zad]
 rintro n vs S - ⟨rfl,rfl,rfl⟩
 refine W.block ?_
 refine W.r fun K hK=>?_
 simp(disch:=omega)only[↓RU,RV,RH,↓reduceIte,qE,reduceCtorEq,if_pos,w64,zaa]
 apply hK;clear hK K
 refine W.seq ?_
 refine W.r fun K hK=>?_
 simp(disch:=omega)only[↓RU,RV,RH,↓reduceIte,qE,reduceCtorEq,if_pos,w64,zaa]
 apply hK;clear hK K
 refine W.cond rfl (fun h=>?_) (fun h=>?_)
 ·try simp only[RL]at h
  refine W.r fun K hK=>?_
  simp(disch:=omega)only[↓RU,RV,RH,↓reduceIte,qE,reduceCtorEq,if_pos,qN]
  refine zag.pc (z23) rfl (.inl rfl) ?_
  simp(disch:=omega)only[↓RU,RV,RH,↓reduceIte,qE,reduceCtorEq,if_pos,qN]
  apply hK;clear hK K
  refine W.ret ?_
  refine XThen.ret ?_
  refine XBlock.ret ?_
  refine XThen.ret ?_
  refine XBlock.ret ?_
  refine Br rfl ?_
  rfl
 try simp only[RL]at h
 exact absurd h (by decide)
theorem z1i  : PC Tryz.prog 103 [.sl [] 0,.fn 104 []] (.tup []) true:=by
 refine PC.of ⟨Tryz.func103,by kernel_rfl,rfl,by kernel_rfl⟩ za4 mixed (by show 2≤Tryz.f103.ntmps; decide) ?_
 refine W.r fun K hK=>?_
 simp(disch:=omega)only[↓RU,RV,RH,↓reduceIte,qE,reduceCtorEq,if_pos,ty2,zf8,zaa,zf9]
 apply hK;clear hK K
 refine W.k fun K hK=>?_
 simp(disch:=omega)only[↓RU,RV,RH,↓reduceIte,qE,reduceCtorEq,if_pos,w64,qN,zaa,zrs]
 refine zag.pc (z97) rfl (.inl rfl) ?_
 simp(disch:=omega)only[↓RU,RV,RH,↓reduceIte,qE,reduceCtorEq,if_pos,w64,qN,zaa,zrs]
 refine zag.pc (z4b) rfl (.inl rfl) ?_
 simp(disch:=omega)only[↓RU,RV,RH,↓reduceIte,qE,reduceCtorEq,if_pos,w64,qN,zaa,zrs]
 apply hK;clear hK K
 refine zhi.norm rfl ?_
 rfl
theorem ycs  : PC Tryz.prog 59 [.sl [] 0] (.sl [] 0) true:=by
 refine PC.of ⟨Tryz.func59,by kernel_rfl,rfl,by kernel_rfl⟩ za4 mixed (by show 1≤Tryz.f59.ntmps; decide) ?_
 refine W.r fun K hK=>?_
 simp(disch:=omega)only[↓RU,RV,RH,↓reduceIte,qE,reduceCtorEq,if_pos,↓RS,RG,qA,qM,qL]
 apply hK;clear hK K
 refine W.r fun K hK=>?_
 simp(disch:=omega)only[↓RU,RV,RH,↓reduceIte,qE,reduceCtorEq,if_pos,qN,↓RS,RG,qA,qM,qL]
 refine zag.pc (z1i) rfl (.inl rfl) ?_
 simp(disch:=omega)only[↓RU,RV,RH,↓reduceIte,qE,reduceCtorEq,if_pos,qN,↓RS,RG,qA,qM,qL]
 apply hK;clear hK K
 refine W.r fun K hK=>?_
 simp(disch:=omega)only[↓RU,RV,RH,↓reduceIte,qE,reduceCtorEq,if_pos,↓RS,RG,qA,qM,qL]
 apply hK;clear hK K
 refine W.seq ?_
 refine W.r fun K hK=>?_
 simp(disch:=omega)only[↓RU,RV,RH,↓reduceIte,qE,reduceCtorEq,if_pos,↓RS,RG,qA,qM,qL,ty2,zf8,zaa,zf9]
 apply hK;clear hK K
 refine W.block ?_
 refine W.loop [3,8,9,10] (fun n vs S=>n=0∧vs=[.nils,.sl [] 0,.int .i64 0,.int .i64 0]∧S=⟨[],0⟩) 0 ?_ ?_
 ·refine ⟨_,rfl,?_,zbj⟩
  simp [Env.put,Env.of,zad]
 rintro n vs S - ⟨rfl,rfl,rfl⟩
 refine W.r fun K hK=>?_
 simp(disch:=omega)only[↓RU,RV,RH,↓reduceIte,qE,reduceCtorEq,if_pos,w64,↓RS,RG,qA,qM,qL,zaa]
 apply hK;clear hK K
 refine W.seq ?_
 refine W.cond rfl (fun h=>?_) (fun h=>?_)
 ·try simp only[RL]at h
  exact absurd h (by decide)
 try simp only[RL]at h
 refine W.exit ?_
 refine xe ?_
 refine xe ?_
 refine XBlock.hit ?_
 refine xn ?_
 refine W.r fun K hK=>?_
 simp(disch:=omega)only[↓RU,RV,RH,↓reduceIte,qE,reduceCtorEq,if_pos,↓RS,RG,qA,qM,qL]
 apply hK;clear hK K
 refine W.ret ?_
 refine Br rfl ?_
 rfl
theorem z9n {l:List Shp} (hl:l.length≤1048576) (h1:1≤l.length) {o0:Ob} {ver t:Nat}:Ev Tryz.prog 59 [.loc 1 ver 0 l.length] ⟨[o0,.arr ver 87 2 (scs l)],t⟩ fun v S=>∃ (z:List Shp) (ver2 v2 t2:Nat),z.Perm l∧z.Pairwise LexLe∧v = .loc 1 v2 0 (bsF z).length∧S=⟨[.arr ver2 87 2 (scs z),.arr v2 87 2 (scs (bsF z))],t2⟩:=by
 refine Ev.of ⟨Tryz.func59,by kernel_rfl,rfl,by kernel_rfl⟩ za4 mixed (by show 1≤Tryz.f59.ntmps; decide) ?_
 refine W.r fun K hK=>?_
 simp(disch:=omega)only[↓RU,RV,RH,↓reduceIte,qE,reduceCtorEq,if_pos,↓RS,RG,qA,qM,qL]
 apply hK;clear hK K
 refine W.r fun K hK=>?_
 simp(disch:=omega)only[↓RU,RV,RH,↓reduceIte,qE,reduceCtorEq,if_pos,qN,↓RS,RG,qA,qM,qL]
 refine zag.ev (zv8 (F:=[o0]) (R:=[]) (by omega)) ?_
 rintro _ _ ⟨rfl,z,hzp,hzs,rfl⟩
 have hzl:z.length=l.length:=hzp.length_eq
 simp(disch:=omega)only[↓RU,RV,RH,↓reduceIte,qE,reduceCtorEq,if_pos,qN,↓RS,RG,qA,qM,qL]
 apply hK;clear hK K
 refine W.r fun K hK=>?_
 simp(disch:=omega)only[↓RU,RV,RH,↓reduceIte,qE,reduceCtorEq,if_pos,↓RS,RG,qA,qM,qL]
 apply hK;clear hK K
 refine W.seq ?_
 refine W.r fun K hK=>?_
 simp(disch:=omega)only[↓RU,RV,RH,↓reduceIte,qE,reduceCtorEq,if_pos,↓RS,RG,qA,qM,qL,ty2,zf8,zaa,zf9]
 apply hK;clear hK K
 refine W.block ?_
 refine W.loopS [3,8,9,10] (fun n vs S=>∃ i ver v t:Nat,n=l.length - i∧i≤l.length∧vs=[slC 1 (bsF (z.take i)) v,.loc 0 ver 0 l.length,.int .i64 l.length,.int .i64 i]∧S=⟨.arr ver 87 2 (scs z)::tlC (bsF (z.take i)) v,t⟩) l.length ?_ ?_
 ·refine ⟨0,[1],[.nils,.loc 0 t 0 l.length,.int .i64 l.length,.int .i64 (0:Nat)],⟨[.arr t 87 2 (scs z)],t+1⟩,?_,?_,0,t,0,t+1,rfl,Nat.zero_le _,rfl,rfl⟩
  ·simp [-qU,Env.put,Env.of,zad,za2,zac,zai,zak,zam,za3,za8,zbz,za7,zat,za9,zby,zb0,zav,zau,zan,za6,zba,zbx,zar,zaq,zal,zas,za5,zc9,qS,qP,qC]
  simp [-qU,Env.put,Env.of,zad,za2,zac,zai,zak,zam,za3,za8,zbz,za7,zat,za9,zby,zb0,zav,zau,zan,za6,zba,zbx,zar,zaq,zal,zas,za5,zc9,qS,qP,qC,zgi]
 rintro n vs S - ⟨i,ver2,v,t2,rfl,h_i,rfl,rfl⟩
 refine W.r fun K hK=>?_
 simp(disch:=omega)only[↓RU,RV,RH,↓reduceIte,qE,reduceCtorEq,if_pos,w64,↓RS,RG,qA,qM,qL,zaa]
 apply hK;clear hK K
 refine W.seq ?_
 refine W.cond rfl (fun h=>?_) (fun h=>?_)
 ·try simp only[RL]at h
  obtain ⟨x,hx,-⟩:=zaf (show i<z.length by omega)
  have hsu:=znn hx
  have hol:=zwq (z:=z) (i:=i) (by omega)
  have hpx:((scs z).drop (i*2)).take 2=[.int .i64 x.1,.int .i64 x.2]:=zrm hx
  refine W.skip ?_
  refine xn ?_
  refine W.seq ?_
  refine W.block ?_
  refine W.r fun K hK=>?_
  by_cases hi0:i=0
  ·skip
   subst hi0
   have ho:bsF (z.take 0)=[]:=rfl
   rw [ho]at hsu
   simp only[ho,zs8,zp0]
   have hpx:(scs z).take 2=[.int .i64 x.1,.int .i64 x.2]:=by simpa using hpx
   have hpq:=True.intro
   have ho0:=True.intro
   have ho1:=True.intro
   simp(disch:=omega)only[↓RU,RV,RH,↓reduceIte,qE,reduceCtorEq,if_pos,↓RS,RG,qA,qM,qL,ty2,zf8,zaa,zf9,hpx,zcd,hzl]
   apply hK;clear hK K
   refine W.seq_draw (by kernel_rfl) fun K hK=>?_
   simp(disch:=omega)only[↓RU,RV,RH,↓reduceIte,qE,reduceCtorEq,if_pos,w64,↓RS,RG,qA,qM,qL,ty2,zf8,zaa,zf9,hpq,ho0,zcq,zcd]
   apply hK;clear hK K
   refine W.cond rfl (fun h1=>?_) (fun h1=>?_)
   ·try simp only[RL]at h1
    refine W.k fun K hK=>?_
    simp(disch:=omega)only[↓RU,RV,RH,↓reduceIte,qE,reduceCtorEq,if_pos,↓RS,RG,qA,qM,qL,ty2,zf8,zaa,zf9,zcd,zjj]
    apply hK;clear hK K
    refine XbN ?_
    refine xn ?_
    refine W.k fun K hK=>?_
    simp(disch:=omega)only[↓RU,RV,RH,↓reduceIte,qE,reduceCtorEq,if_pos,w64,↓RS,RG,qA,qM,qL,zaa]
    apply hK;clear hK K
    refine xn ?_
    refine ⟨l.length - (0+1),by omega,1,[3],[.loc 1 (t2+3) 0 1,.loc 0 ver2 0 l.length,.int .i64 l.length,.int .i64 ((0+1:Nat):Int)],⟨[.arr ver2 87 2 (scs z),.arr (t2+3) 87 2 ([.int .i64 x.1,.int .i64 x.2])],t2+4⟩,?_,?_,1,ver2,t2+3,t2+4,rfl,by omega,by rw [hsu]; rfl,by rw [hsu]; rfl⟩
    ·simp [-qU,Env.put,Env.of,zad,za2,zac,zai,zak,zam,za3,za8,zbz,za7,zat,za9,zby,zb0,zav,zau,zan,za6,zba,zbx,zar,zaq,zal,zas,za5,zc9,qS,qP,qC]
    simp [-qU,Env.put,Env.of,zad,za2,zac,zai,zak,zam,za3,za8,zbz,za7,zat,za9,zby,zb0,zav,zau,zan,za6,zba,zbx,zar,zaq,zal,zas,za5,zc9,qS,qP,qC,zgi]
   try simp only[RL]at h1
   exact absurd h1 (by simp)
  skip
  have hne:=zye hi0 (show i≤z.length by omega)
  generalize bsF (z.take i)=o at hsu hol hne ⊢
  simp only[zfs hne,zfg hne]
  obtain ⟨q,hq,hq2⟩:=zxa hne
  have hpq:=z44 hq
  have ho1:1≤o.length:=List.length_pos_iff.2 hne
  have ho0:((o.length:Int) == 0)=false:=by simp; omega
  rw [zr3 hq2]at hsu
  simp(disch:=omega)only[↓RU,RV,RH,↓reduceIte,qE,reduceCtorEq,if_pos,↓RS,RG,qA,qM,qL,ty2,zf8,zaa,zf9,hpx,zcd,hzl]
  apply hK;clear hK K
  refine W.seq_draw (by kernel_rfl) fun K hK=>?_
  simp(disch:=omega)only[↓RU,RV,RH,↓reduceIte,qE,reduceCtorEq,if_pos,w64,↓RS,RG,qA,qM,qL,ty2,zf8,zaa,zf9,hpq,ho0,zcq,zcd]
  apply hK;clear hK K
  refine W.cond rfl (fun h1=>?_) (fun h1=>?_)
  ·try simp only[RL]at h1
   have h1:x.2<q.2:=by simpa using h1
   rw [if_pos h1]at hsu
   refine W.k fun K hK=>?_
   simp(disch:=omega)only[↓RU,RV,RH,↓reduceIte,qE,reduceCtorEq,if_pos,↓RS,RG,qA,qM,qL,ty2,zf8,zaa,zf9,zcd,zjj]
   apply hK;clear hK K
   refine XbN ?_
   refine xn ?_
   refine W.k fun K hK=>?_
   simp(disch:=omega)only[↓RU,RV,RH,↓reduceIte,qE,reduceCtorEq,if_pos,w64,↓RS,RG,qA,qM,qL,zaa]
   apply hK;clear hK K
   refine xn ?_
   refine ⟨l.length - (i+1),by omega,2,[],[.loc 1 (t2+2) 0 (o.length+1),.loc 0 ver2 0 l.length,.int .i64 l.length,.int .i64 ((i+1:Nat):Int)],⟨[.arr ver2 87 2 (scs z),.arr (t2+2) 87 2 (scs o++[.int .i64 x.1,.int .i64 x.2])],t2+4⟩,?_,?_,i+1,ver2,t2+2,t2+4,rfl,by omega,by rw [hsu,zfs (by simp)]; simp,by rw [hsu,zfg (by simp),zn7]⟩
   ·simp [-qU,Env.put,Env.of,zad,za2,zac,zai,zak,zam,za3,za8,zbz,za7,zat,za9,zby,zb0,zav,zau,zan,za6,zba,zbx,zar,zaq,zal,zas,za5,zc9,qS,qP,qC]
   simp [-qU,Env.put,Env.of,zad,za2,zac,zai,zak,zam,za3,za8,zbz,za7,zat,za9,zby,zb0,zav,zau,zan,za6,zba,zbx,zar,zaq,zal,zas,za5,zc9,qS,qP,qC,zgi]
  try simp only[RL]at h1
  have h1:¬ x.2<q.2:=by simpa using h1
  rw [if_neg h1]at hsu
  refine W.skip ?_
  refine XbN ?_
  refine xn ?_
  refine W.k fun K hK=>?_
  simp(disch:=omega)only[↓RU,RV,RH,↓reduceIte,qE,reduceCtorEq,if_pos,w64,↓RS,RG,qA,qM,qL,zaa]
  apply hK;clear hK K
  refine xn ?_
  refine ⟨l.length - (i+1),by omega,2,[],[.loc 1 v 0 o.length,.loc 0 ver2 0 l.length,.int .i64 l.length,.int .i64 ((i+1:Nat):Int)],⟨[.arr ver2 87 2 (scs z),.arr v 87 2 (scs o)],t2+2⟩,?_,?_,i+1,ver2,v,t2+2,rfl,by omega,by rw [hsu,zfs hne],by rw [hsu,zfg hne]⟩
  ·simp [-qU,Env.put,Env.of,zad,za2,zac,zai,zak,zam,za3,za8,zbz,za7,zat,za9,zby,zb0,zav,zau,zan,za6,zba,zbx,zar,zaq,zal,zas,za5,zc9,qS,qP,qC]
  simp [-qU,Env.put,Env.of,zad,za2,zac,zai,zak,zam,za3,za8,zbz,za7,zat,za9,zby,zb0,zav,zau,zan,za6,zba,zbx,zar,zaq,zal,zas,za5,zc9,qS,qP,qC,zgi]
 try simp only[RL]at h
 obtain rfl:i=l.length:=by omega
 refine W.exit ?_
 refine xe ?_
 refine xe ?_
 refine XBlock.hit ?_
 refine xn ?_
 refine W.r fun K hK=>?_
 simp(disch:=omega)only[↓RU,RV,RH,↓reduceIte,qE,reduceCtorEq,if_pos,↓RS,RG,qA,qM,qL]
 apply hK;clear hK K
 refine W.ret ?_
 refine Br rfl ?_
 have hne:=zye (z:=z) (show l.length≠0 by omega) (by omega)
 rw [qT (by omega)]at hne ⊢
 rw [zfs hne,zfg hne]
 exact ⟨2,z,_,_,_,hzp,hzs,rfl,rfl⟩
structure Pt where
 r:Nat
 c:Nat
 h:Nat
 w:Nat
 deriving DecidableEq
def Pt.In (t:Pt) (H W:Nat):Prop:=1≤t.h∧1≤t.w∧t.r+t.h≤H∧t.c+t.w≤W
def ztl (f:Nat→Bool):Nat→Option Nat
 | 0=>none
 | k+1=>(ztl f k).or (if decide (1≤k) && f k then some k else none)
theorem zg6 {f:Nat→Bool}:∀ {n:Nat},ztl f n=none↔∀ k,1≤k→k<n→f k=false
 | 0=>by simp [ztl]
 | n+1=>by
  simp only[ztl,Option.or_eq_none_iff,zg6 (n:=n)]
  constructor
  ·rintro ⟨h1,h2⟩ k hk hn
   by_cases e:k=n
   ·subst e; cases hf:f k with
    | false=>rfl
    | true=>rw [hf]at h2; simp at h2; omega
   exact h1 k hk (by omega)
  intro h
  refine ⟨fun k hk hn=>h k hk (by omega),?_⟩
  by_cases hn:1≤n
  ·simp [h n hn (by omega)]
  simp [hn]
theorem zel {f:Nat→Bool} {k:Nat}:∀ {n:Nat},ztl f n=some k↔1≤k∧k<n∧f k=true∧∀ j,1≤j→j<k→f j=false
 | 0=>by simp [ztl]
 | n+1=>by
  simp only[ztl]
  cases h:ztl f n with
  | some m =>
   have hm:=(zel (n:=n)).1 h
   simp only[Option.some_or,Option.some.injEq]
   constructor
   ·rintro rfl; exact ⟨hm.1,by omega,hm.2.2.1,hm.2.2.2⟩
   rintro ⟨h1,h2,h3,h4⟩
   rcases Nat.lt_trichotomy m k with e | e | e
   ·have:=h4 m hm.1 e; rw [hm.2.2.1]at this; cases this
   ·exact e
   have:=hm.2.2.2 k h1 e; rw [h3]at this; cases this
  | none =>
   have hn:=zg6.1 h
   simp only[Option.none_or]
   constructor
   ·intro e
    split at e
    ·rename_i hc
     cases e
     simp only[qB,decide_eq_true_eq]at hc
     exact ⟨hc.1,by omega,hc.2,hn⟩
    cases e
   rintro ⟨h1,h2,h3,h4⟩
   by_cases e:k=n
   ·subst e; simp [h1,h3]
   have:=hn k h1 (by omega); rw [h3]at this; cases this
def thU (z:Nat→Nat→Int) (t:Pt) (k:Nat):Bool:=(List.range t.h).all fun i=>decide (z (t.r+i) (t.c+k - 1)≠z (t.r+i) (t.c+k))
def thL (z:Nat→Nat→Int) (t:Pt) (k:Nat):Bool:=(List.range t.w).all fun j=>decide (z (t.r+k - 1) (t.c+j)≠z (t.r+k) (t.c+j))
theorem zx1 {z:Nat→Nat→Int} {t:Pt} {k:Nat}:thU z t k=true↔∀ i,i<t.h→z (t.r+i) (t.c+k - 1)≠z (t.r+i) (t.c+k):=by simp [thU]
theorem zx0 {z:Nat→Nat→Int} {t:Pt} {k:Nat}:thL z t k=true↔∀ j,j<t.w→z (t.r+k - 1) (t.c+j)≠z (t.r+k) (t.c+j):=by simp [thL]
def zdn (z:Nat→Nat→Int) (t:Pt):Option (Bool × Nat) :=
 match ztl (thU z t) t.w with
 | some k=>some (false,k)
 | none=>match ztl (thL z t) t.h with
  | some k=>some (true,k)
  | none=>none
def Pt.one (t:Pt) (q:Bool × Nat):Pt:=if q.1 then ⟨t.r,t.c,q.2,t.w⟩ else ⟨t.r,t.c,t.h,q.2⟩
def Pt.two (t:Pt) (q:Bool × Nat):Pt:=if q.1 then ⟨t.r+q.2,t.c,t.h - q.2,t.w⟩ else ⟨t.r,t.c+q.2,t.h,t.w - q.2⟩
theorem zeb {z:Nat→Nat→Int} {t:Pt} {q:Bool × Nat} (h:zdn z t=some q):1≤q.2∧if q.1 then q.2<t.h∧thL z t q.2=true else q.2<t.w∧thU z t q.2=true:=by
 unfold zdn at h
 split at h
 ·rename_i k hk; cases h; have:=zel.1 hk; exact ⟨this.1,by simp [this.2.1,this.2.2.1]⟩
 split at h
 ·rename_i k hk; cases h; have:=zel.1 hk; exact ⟨this.1,by simp [this.2.1,this.2.2.1]⟩
 cases h
theorem z0q {z:Nat→Nat→Int} {t:Pt}:zdn z t=none↔(∀ k,1≤k→k<t.w→thU z t k=false)∧∀ k,1≤k→k<t.h→thL z t k=false:=by
 unfold zdn
 split
 ·rename_i k hk
  have:=zel.1 hk
  constructor
  ·intro h; cases h
  rintro ⟨h,_⟩; rw [h k this.1 this.2.1]at this; simp at this
 rename_i hn
 split
 ·rename_i k hk
  have:=zel.1 hk
  constructor
  ·intro h; cases h
  rintro ⟨_,h⟩; rw [h k this.1 this.2.1]at this; simp at this
 rename_i hn2
 exact ⟨fun _=>⟨zg6.1 hn,zg6.1 hn2⟩,fun _=>rfl⟩
theorem Pt.In.cut {t:Pt} {H W:Nat} (h:t.In H W) {z:Nat→Nat→Int} {q:Bool × Nat} (hq:zdn z t=some q):(t.one q).In H W∧(t.two q).In H W ∧
  (t.one q).h*(t.one q).w<t.h*t.w∧(t.two q).h*(t.two q).w<t.h*t.w:=by
 obtain ⟨h1,h2⟩:=zeb hq
 obtain ⟨a,b,c,d⟩:=h
 obtain ⟨lv,k⟩:=q
 simp only at h1 h2
 cases lv with
 | true =>
  simp only[if_true]at h2
  simp only[Pt.one,Pt.two,if_true,Pt.In]
  refine ⟨⟨h1,b,by omega,d⟩,⟨by omega,b,by omega,d⟩,Nat.mul_lt_mul_of_pos_right h2.1 b,Nat.mul_lt_mul_of_pos_right (by omega) b⟩
 | false =>
  simp only[qF,if_false]at h2
  simp only[Pt.one,Pt.two,qF,if_false,Pt.In]
  refine ⟨⟨a,h1,c,by omega⟩,⟨a,by omega,c,by omega⟩,Nat.mul_lt_mul_of_pos_left h2.1 a,Nat.mul_lt_mul_of_pos_left (by omega) a⟩
def zwk (z:Nat→Nat→Int) (t:Pt):Bool:=(List.range t.h).all fun i=>(List.range t.w).all fun j=>decide (z (t.r+i) (t.c+j)=z t.r t.c)
theorem zny {z:Nat→Nat→Int} {t:Pt}:zwk z t=true↔∀ i j,i<t.h→j<t.w→z (t.r+i) (t.c+j)=z t.r t.c:=by
 simp only[zwk,List.all_eq_true,List.mem_range,decide_eq_true_eq]
 exact ⟨fun h i j hi hj=>h i hi j hj,fun h i hi j hj=>h i j hi hj⟩
inductive CT where
 | leaf (a:Int)
 | node (lv:Bool) (x y:CT)
def tree (z:Nat→Nat→Int):Nat→Pt→Option CT
 | 0,_=>none
 | f+1,t=>if zwk z t then some (.leaf (z t.r t.c)) else
  match zdn z t with
  | none=>none
  | some q=>match tree z f (t.one q),tree z f (t.two q) with
   | some x,some y=>some (.node q.1 x y)
   | _,_=>none
theorem zll {z:Nat→Nat→Int} {H W:Nat}:∀ (n:Nat) {t:Pt} {f g:Nat},t.In H W→t.h*t.w≤n→t.h*t.w≤f→t.h*t.w≤g→tree z f t=tree z g t
 | 0,t,f,g,hi,hn,_,_=>by have:=Nat.mul_pos hi.1 hi.2.1; omega
 | n+1,t,f,g,hi,hn,hf,hg=>by
  have:=Nat.mul_pos hi.1 hi.2.1
  obtain ⟨f,rfl⟩:∃ f',f=f'+1:=⟨f - 1,by omega⟩
  obtain ⟨g,rfl⟩:∃ g',g=g'+1:=⟨g - 1,by omega⟩
  simp only[tree]
  split
  ·rfl
  cases hc:zdn z t with
  | none=>rfl
  | some q =>
   obtain ⟨i1,i2,a1,a2⟩:=hi.cut hc
   simp only
   rw [zll n i1 (f:=f) (g:=g) (by omega) (by omega) (by omega),zll n i2 (f:=f) (g:=g) (by omega) (by omega) (by omega)]
def CT.fold {α:Type} (room:Int→α) (cut:Bool→α→α→α):CT→α
 | .leaf a=>room a
 | .node lv x y=>cut lv (x.fold room cut) (y.fold room cut)
structure Whole (z:Nat→Nat→Int) (H W:Nat) (t:Pt):Prop where
 inn:t.In H W
 all:∀ i j i' j',i<H→j<W→i'<H→j'<W→z i j=z i' j'→t.r≤i→i<t.r+t.h→t.c≤j→j<t.c+t.w→t.r≤i'∧i'<t.r+t.h∧t.c≤j'∧j'<t.c+t.w
def z9h (z:Nat→Nat→Int) (H W:Nat):Prop:=∀ {i j i' j':Nat} (k l:Nat),i<H→i'<H→j<W→j'<W→z i j=z i' j'→min i i'≤k→k≤max i i'→min j j'≤l→l≤max j j'→z k l=z i j
theorem Whole.cut {z:Nat→Nat→Int} {H W:Nat} (hz:z9h z H W) {t:Pt} (h:Whole z H W t) {q:Bool × Nat} (hq:zdn z t=some q):Whole z H W (t.one q)∧Whole z H W (t.two q):=by
 obtain ⟨i1,i2,_,_⟩:=h.inn.cut hq
 obtain ⟨c1,c2⟩:=zeb hq
 obtain ⟨lv,k⟩:=q
 have hin:=h.inn
 unfold Pt.In at hin
 cases lv with
 | true =>
  simp only[if_true]at c2
  have hth:=zx0.1 c2.2
  have key:∀ i j i' j',i<H→j<W→i'<H→j'<W→z i j=z i' j'→t.r≤i→i<t.r+k→t.c≤j→j<t.c+t.w→t.r+k≤i'→i'<t.r+t.h→t.c≤j'→j'<t.c+t.w→False:=by
   intro i j i' j' a b c d e f1 f2 f3 f4 g1 g2 g3 g4
   have e1:=hz (t.r+k - 1) j a c b d e (by omega) (by omega) (by omega) (by omega)
   have e2:=hz (t.r+k) j a c b d e (by omega) (by omega) (by omega) (by omega)
   have:=hth (j - t.c) (by omega)
   rw [show t.c+(j - t.c)=j by omega]at this
   exact this (e1.trans e2.symm)
  refine ⟨⟨i1,?_⟩,⟨i2,?_⟩⟩
  ·simp only[Pt.one,if_true]
   intro i j i' j' a b c d e f1 f2 f3 f4
   obtain ⟨g1,g2,g3,g4⟩:=h.all i j i' j' a b c d e f1 (by omega) f3 f4
   refine ⟨g1,?_,g3,g4⟩
   rcases Nat.lt_or_ge i' (t.r+k) with h1 | h1
   ·exact h1
   exact (key i j i' j' a b c d e f1 f2 f3 f4 h1 g2 g3 g4).elim
  simp only[Pt.two,if_true]
  intro i j i' j' a b c d e f1 f2 f3 f4
  obtain ⟨g1,g2,g3,g4⟩:=h.all i j i' j' a b c d e (by omega) (by omega) f3 f4
  refine ⟨?_,by omega,g3,g4⟩
  rcases Nat.lt_or_ge i' (t.r+k) with h1 | h1
  ·exact (key i' j' i j c d a b e.symm g1 h1 g3 g4 f1 (by omega) f3 f4).elim
  exact h1
 | false =>
  simp only[qF,if_false]at c2
  have hth:=zx1.1 c2.2
  have key:∀ i j i' j',i<H→j<W→i'<H→j'<W→z i j=z i' j'→t.r≤i→i<t.r+t.h→t.c≤j→j<t.c+k→t.r≤i'→i'<t.r+t.h→t.c+k≤j'→j'<t.c+t.w→False:=by
   intro i j i' j' a b c d e f1 f2 f3 f4 g1 g2 g3 g4
   have e1:=hz i (t.c+k - 1) a c b d e (by omega) (by omega) (by omega) (by omega)
   have e2:=hz i (t.c+k) a c b d e (by omega) (by omega) (by omega) (by omega)
   have:=hth (i - t.r) (by omega)
   rw [show t.r+(i - t.r)=i by omega]at this
   exact this (e1.trans e2.symm)
  refine ⟨⟨i1,?_⟩,⟨i2,?_⟩⟩
  ·simp only[Pt.one,qF,if_false]
   intro i j i' j' a b c d e f1 f2 f3 f4
   obtain ⟨g1,g2,g3,g4⟩:=h.all i j i' j' a b c d e f1 f2 f3 (by omega)
   refine ⟨g1,g2,g3,?_⟩
   rcases Nat.lt_or_ge j' (t.c+k) with h1 | h1
   ·exact h1
   exact (key i j i' j' a b c d e f1 f2 f3 f4 g1 g2 h1 g4).elim
  simp only[Pt.two,qF,if_false]
  intro i j i' j' a b c d e f1 f2 f3 f4
  obtain ⟨g1,g2,g3,g4⟩:=h.all i j i' j' a b c d e f1 f2 (by omega) (by omega)
  refine ⟨g1,g2,?_,by omega⟩
  rcases Nat.lt_or_ge j' (t.c+k) with h1 | h1
  ·exact (key i' j' i j c d a b e.symm g1 g2 g3 h1 f1 f2 f3 (by omega)).elim
  exact h1
section
def thW (p:List Txt) (k:Nat):Bool:=(List.range p.length).all fun i=>decide (zao p i (k - 1)≠zao p i k)
theorem zx2 {p:List Txt} {k:Nat}:thW p k=true↔∀ i,i<p.length→zao p i (k - 1)≠zao p i k:=by simp [thW]
def zes (n:Nat) (w:List Int):Bool:=decide (zhg w 2=n)
theorem zwd {p:List Txt} {k:Nat} {s0:List (List Int)}:∀ i,i≤p.length →
  ((∀ r,r<i→ze3 p k r=true)∧zds p k s0 i=(if i=0 then -1 else 0,s0)) ∨
  ((¬ ∀ r,r<i→ze3 p k r=true)∧((zds p k s0 i).1<0∨0<(zds p k s0 i).1) ∧ -1≤(zds p k s0 i).1∧∃ L,(zds p k s0 i).2=s0++L∧∀ w∈L,zes p.length w=false)
 | 0,_ => .inl ⟨fun r hr=>by omega,rfl⟩
 | i+1,hi=>by
  rcases zwd (p:=p) (k:=k) (s0:=s0) i (by omega) with ⟨h1,h2⟩ | ⟨h1,h2,h3,L,h4,h5⟩
  ·cases hw:ze3 p k i with
   | true =>
    refine .inl ⟨fun r hr=>?_,?_⟩
    ·by_cases e:r=i
     ·rw [e]; exact hw
     exact h1 r (by omega)
    simp only[zds,h2,hw,zd2]
    by_cases e:i=0
    ·subst e; simp
    simp [e]
   | false =>
    refine .inr ⟨fun h=>?_,?_⟩
    ·have:=h i (by omega); rw [hw]at this; cases this
    simp only[zds,h2,hw,zd2]
    by_cases e:i=0
    ·subst e; exact ⟨.inl (by simp),by simp,[],by simp,by simp⟩
    simp only[e,if_false,Bool.false_and,qF,Bool.not_false,Bool.true_and,Int.le_refl,decide_true,if_true]
    refine ⟨.inl (by simp),by simp,[[(k:Int),0,(i:Int) - 0]],rfl,?_⟩
    intro w hw'
    simp only[List.mem_singleton]at hw'
    subst hw'
    show decide (((i:Int) - 0)=p.length)=false
    exact decide_eq_false (by omega)
  refine .inr ⟨fun h=>h1 fun r hr=>h r (by omega),?_⟩
  simp only[zds,zd2]
  generalize (zds p k s0 i).1=f at h2 h3
  cases hw:ze3 p k i with
  | true =>
   simp only[Bool.true_and,Bool.not_true,Bool.false_and,qF,if_false]
   have hi0:i≠0:=by rintro rfl; exact h1 fun r hr=>by omega
   refine ⟨?_,?_,L,h4,h5⟩
   ·by_cases hf:f<0
    ·simp only[hf,decide_true,if_true]; exact .inr (by omega)
    simp only[hf,decide_false,qF,if_false]; omega
   by_cases hf:f<0
   ·simp only[hf,decide_true,if_true]; omega
   simp only[hf,decide_false,qF,if_false]; omega
  | false =>
   simp only[Bool.false_and,qF,if_false,Bool.not_false,Bool.true_and,decide_eq_true_eq]
   by_cases hf:0≤f
   ·rw [if_pos hf]
    refine ⟨.inl (by simp),by simp,L++[[(k:Int),f,(i:Int) - f]],by simp only[h4,List.append_assoc],?_⟩
    intro w hw'
    simp only[List.mem_append,List.mem_singleton]at hw'
    rcases hw' with hw' | rfl
    ·exact h5 w hw'
    simp [zes,zhg]; omega
   rw [if_neg hf]
   exact ⟨.inl (by simp only; omega),by simp only; omega,L,h4,h5⟩
theorem z0g {p:List Txt} {k:Nat}:(∀ r,r<p.length→ze3 p k r=true)↔thW p k=true:=by
 rw [zx2]
 constructor
 ·intro h r hr; have:=h r hr; simpa [ze3,hr] using this
 intro h r hr; simpa [ze3,hr] using h r hr
theorem ya9 {p:List Txt} (hp:1≤p.length) {k:Nat} {s0:List (List Int)}:∃ L,(zds p k s0 (p.length+1)).2=s0++L∧L.find? (zes p.length)=if thW p k then some [(k:Int),0,(p.length:Int)] else none:=by
 rcases zwd (p:=p) (k:=k) (s0:=s0) p.length (qR _) with ⟨h1,h2⟩ | ⟨h1,h2,h3,L,h4,h5⟩
 ·rw [z0g]at h1
  refine ⟨[[(k:Int),0,(p.length:Int)]],?_,?_⟩
  ·simp only[zds,h2,zd2,zp2]
   have:p.length≠0:=by omega
   simp [this]
  rw [h1]; simp [zes,zhg]
 rw [z0g]at h1
 simp only[h1,if_false,qF]
 simp only[zds,zd2,zp2]
 generalize (zds p k s0 p.length).1=f at h2 h3
 simp only[Bool.false_and,qF,if_false,Bool.not_false,Bool.true_and,decide_eq_true_eq]
 by_cases hf:0≤f
 ·rw [if_pos hf]
  refine ⟨L++[[(k:Int),f,(p.length:Int) - f]],by simp only[h4,List.append_assoc],List.find?_eq_none.2 ?_⟩
  intro w hw'
  simp only[List.mem_append,List.mem_singleton]at hw'
  rcases hw' with hw' | rfl
  ·simp [h5 w hw']
  simp [zes,zhg]; omega
 rw [if_neg hf]
 exact ⟨L,h4,List.find?_eq_none.2 fun w hw=>by simp [h5 w hw]⟩
theorem zoc {p:List Txt} (hp:1≤p.length):∀ K,(zcv p K).find? (zes p.length)=(ztl (thW p) K).map fun k=>[(k:Int),0,(p.length:Int)]
 | 0=>rfl
 | K+1=>by
  simp only[zcv,ztl]
  split
  ·rename_i hk
   obtain ⟨L,h1,h2⟩:=ya9 hp (k:=K) (s0:=zcv p K)
   rw [h1,List.find?_append,zoc hp K,h2]
   cases ztl (thW p) K with
   | some k=>rfl
   | none=>simp only[Option.map_none,Option.none_or,hk,decide_true,Bool.true_and]; split <;> rfl
  rename_i hk
  rw [zoc hp K]
  simp [hk]
def z56 (p:List Txt):Int × Int :=
 match (uprights p).find? (zes p.length) with
 | some w=>(0,zhg w 0)
 | none=>match (uprights (zcr p)).find? (zes (zax p).length) with
  | some w=>(1,zhg w 0)
  | none=>(0,0)
theorem zuf {α:Type} {f:α→Bool} {l:List α} {i:Nat} {a:α} (h:l[i]?=some a) (h1:(l.take i).find? f=none) (h2:f a=true):l.find? f=some a:=by
 have hl:=(List.getElem?_eq_some_iff.1 h).1
 have:l=l.take i++(a::l.drop (i+1)):=by
  obtain ⟨_,e⟩:=List.getElem?_eq_some_iff.1 h
  rw [← e,List.getElem_cons_drop,List.take_append_drop]
 rw [this,List.find?_append,h1]
 simp [h2]
theorem zm2 {α:Type} {f:α→Bool} {l:List α} {i:Nat} {a:α} (h:l[i]?=some a) (h1:(l.take i).find? f=none) (h2:f a=false):(l.take (i+1)).find? f=none:=by
 rw [tk h,List.find?_append,h1]; simp [h2]
def zij (t:Pt) (row:Txt):Txt:=(row.drop t.c).take t.w
def sub (p:List Txt) (t:Pt):List Txt:=((p.drop t.r).take t.h).map (zij t)
section
variable {p:List Txt} {t:Pt}
theorem zj3 {W:Nat} (hi:t.In p.length W):(sub p t).length=t.h:=by
 simp [sub]; have:=hi.2.2.1; omega
theorem ya2 {W:Nat} (hi:t.In p.length W) {i:Nat} {row:Txt} (h:i<t.h) (hr:p[t.r+i]?=some row):(sub p t)[i]?=some (zij t row):=by
 simp [sub,h,hr]
theorem zik (hg:zcp p=true) (hi:t.In p.length (zax p).length) {i:Nat} (h:i<t.h):∃ row,p[t.r+i]?=some row∧(sub p t)[i]?=some (zij t row)∧(zij t row).length=t.w∧row.length=(zax p).length:=by
 obtain ⟨row,hr,_⟩:=z2s (p:=p) (i:=t.r+i) (by have:=hi.2.2.1; omega)
 have hl:=zdv hg hr
 exact ⟨row,hr,ya2 hi h hr,by simp [zij]; have:=hi.2.2.2; omega,hl⟩
theorem zrp (hg:zcp p=true) (hi:t.In p.length (zax p).length):(zax (sub p t)).length=t.w:=by
 obtain ⟨row,_,h2,h3,_⟩:=zik hg hi (i:=0) hi.1
 rw [zcj h2,h3]
theorem zgn {row:Txt} {j:Nat} (h:j<t.w):(zij t row)[j]?=row[t.c+j]?:=by
 simp [zij,List.getElem?_take,h]
theorem zlh (hg:zcp p=true) (hi:t.In p.length (zax p).length) {i j:Nat} (h:i<t.h) (hj:j<t.w):zao (sub p t) i j=zao p (t.r+i) (t.c+j):=by
 obtain ⟨row,h1,h2,_,_⟩:=zik hg hi h
 simp only[zao,h1,h2,Option.getD_some,zgn hj]
theorem z0b (hg:zcp p=true) (hi:t.In p.length (zax p).length):zcp (sub p t)=true:=by
 have hsm:=zbk hg
 have hl:=zj3 hi
 have hh:=zrp hg hi
 obtain ⟨i1,i2,i3,i4⟩:=hi
 obtain ⟨row0,hr0,hm0⟩:=z2s (p:=p) (i:=0) (by omega)
 have hw6:=hsm.2.2 row0 hm0
 have hhd:=zcj hr0
 rw [hhd]at i4
 unfold zcp
 simp only[qB,decide_eq_true_eq,List.all_eq_true]
 refine ⟨⟨fun r hr=>?_,by omega⟩,by omega⟩
 obtain ⟨i,hi'⟩:=List.getElem?_of_mem hr
 have hil:=(List.getElem?_eq_some_iff.1 hi').1
 obtain ⟨row,h1,h2,h3,h4⟩:=zik hg ⟨i1,i2,i3,by rw [hhd]; exact i4⟩ (t:=t) (i:=i) (by omega)
 rw [h2]at hi'; cases hi'
 simp only[zqb,qB,decide_eq_true_eq,List.all_eq_true]
 refine ⟨⟨⟨by omega,by omega⟩,by omega⟩,fun c hc=>?_⟩
 obtain ⟨j,hj⟩:=List.getElem?_of_mem hc
 have hjl:=(List.getElem?_eq_some_iff.1 hj).1
 rw [zgn (by omega)]at hj
 obtain ⟨c',hc',hl'⟩:=ziv hg h1 (k:=t.c+j) (by rw [hhd]; omega)
 rw [hc']at hj; cases hj; exact hl'
theorem ya4 (hg:zcp p=true) (hi:t.In p.length (zax p).length) {k:Nat} (h1:1≤k) (h2:k<t.w):thW (sub p t) k=thU (zao p) t k:=by
 apply Bool.eq_iff_iff.2
 rw [zx2,zx1,zj3 hi]
 constructor
 ·intro h i hi'; have:=h i hi'; rw [zlh hg hi hi' h2,zlh hg hi hi' (by omega)]at this; rw [show t.c+k - 1=t.c+(k - 1) by omega]; exact this
 intro h i hi'; have:=h i hi'; rw [zlh hg hi hi' h2,zlh hg hi hi' (by omega)]; rw [show t.c+k - 1=t.c+(k - 1) by omega]at this; exact this
theorem ya3 (hg:zcp p=true) (hi:t.In p.length (zax p).length) {k:Nat} (h1:1≤k) (h2:k<t.h):thW (zcr (sub p t)) k=thL (zao p) t k:=by
 apply Bool.eq_iff_iff.2
 rw [zx2,zx0,zhe,zrp hg hi]
 have key:∀ i j,i<t.h→j<t.w→zao (zcr (sub p t)) j i=zao p (t.r+i) (t.c+j):=fun i j a b=>by
  rw [zjp (by rw [zj3 hi]; exact a) (by rw [zrp hg hi]; exact b),zlh hg hi a b]
 constructor
 ·intro h j hj; have:=h j hj; rw [key _ _ h2 hj,key _ _ (by omega) hj]at this; rw [show t.r+k - 1=t.r+(k - 1) by omega]; exact this
 intro h j hj; have:=h j hj; rw [key _ _ h2 hj,key _ _ (by omega) hj]; rw [show t.r+k - 1=t.r+(k - 1) by omega]at this; exact this
theorem zlz {f g:Nat→Bool}:∀ {n:Nat},(∀ k,1≤k→k<n→f k=g k)→ztl f n=ztl g n
 | 0,_=>rfl
 | n+1,h=>by
  simp only[ztl]
  rw [zlz fun k a b=>h k a (by omega)]
  by_cases hn:1≤n
  ·rw [h n hn (by omega)]
  simp [hn]
theorem zym (hg:zcp p=true) (hi:t.In p.length (zax p).length):z56 (sub p t)=match zdn (zao p) t with | some q=>(if q.1 then 1 else 0,(q.2:Int)) | none=>(0,0):=by
 have hl:=zj3 hi
 have hh:=zrp hg hi
 unfold z56 zdn
 rw [show uprights (sub p t)=zcv (sub p t) (zax (sub p t)).length from rfl,zoc (by rw [hl]; exact hi.1),hh,zlz fun k a b=>ya4 hg hi a b]
 cases ztl (thU (zao p) t) t.w with
 | some k=>simp [zhg]
 | none =>
  have h2:=zoc (p:=zcr (sub p t)) (by rw [zhe,hh]; exact hi.2.1) (zax (zcr (sub p t))).length
  rw [zhe,hh,zlj (by rw [hh]; exact hi.2.1),hl,zlz fun k a b=>ya3 hg hi a b]at h2
  simp only[Option.map_none]
  rw [show uprights (zcr (sub p t))=zcv (zcr (sub p t)) t.h by unfold uprights; rw [zlj (by rw [hh]; exact hi.2.1),hl],h2]
  cases ztl (thL (zao p) t) t.h with
  | some k=>simp [zhg]
  | none=>rfl
def zfw (p:List Txt) (q:Bool × Nat):List Txt:=if q.1 then p.take q.2 else p.map (·.take q.2)
def zfx (p:List Txt) (q:Bool × Nat):List Txt:=if q.1 then p.drop q.2 else p.map (·.drop q.2)
theorem ztc {q:Bool × Nat} (h:if q.1 then q.2<t.h else q.2<t.w):zfw (sub p t) q=sub p (t.one q):=by
 obtain ⟨lv,k⟩:=q
 cases lv with
 | true =>
  simp only[if_true]at h
  simp only[zfw,Pt.one,if_true,sub,← List.map_take,List.take_take]
  rw [Nat.min_eq_left (by omega)]
  rfl
 | false =>
  simp only[qF,if_false]at h
  simp only[zfw,Pt.one,qF,if_false,sub,List.map_map]
  refine List.map_congr_left fun row _=>?_
  simp only[Function.comp,zij,List.take_take]
  rw [Nat.min_eq_left (by omega)]
theorem ztd {q:Bool × Nat} (h:if q.1 then q.2<t.h else q.2<t.w):zfx (sub p t) q=sub p (t.two q):=by
 obtain ⟨lv,k⟩:=q
 cases lv with
 | true =>
  simp only[if_true]at h
  simp only[zfx,Pt.two,if_true,sub,← List.map_drop,List.drop_take,List.drop_drop]
  rfl
 | false =>
  simp only[qF,if_false]at h
  simp only[zfx,Pt.two,qF,if_false,sub,List.map_map]
  refine List.map_congr_left fun row _=>?_
  simp only[Function.comp,zij,List.drop_take,List.drop_drop]
def z57 (p:List Txt):Bool:=p.all fun row=>row.all fun c=>decide (some c=(zax p)[0]?)
theorem znx (hg:zcp p=true) (hi:t.In p.length (zax p).length):z57 (sub p t)=zwk (zao p) t:=by
 apply Bool.eq_iff_iff.2
 rw [zny]
 obtain ⟨row0,h1,h2,h3,h4⟩:=zik hg hi (i:=0) hi.1
 have hc0:(zij t row0)[0]?=row0[t.c+0]?:=zgn hi.2.1
 obtain ⟨c0,e0,_⟩:=ziv hg h1 (k:=t.c+0) (by have:=hi.2.2.2; have:=hi.2.1; omega)
 rw [e0]at hc0
 have hz0:zao p t.r t.c=(c0.toNat:Int) - 97:=zc3 (by simpa using h1) (by simpa using e0)
 simp only[z57,List.all_eq_true,decide_eq_true_eq,zcj h2,hc0,Option.some.injEq]
 constructor
 ·intro h i j hi' hj'
  obtain ⟨row,g1,g2,g3,g4⟩:=zik hg hi hi'
  obtain ⟨c,e1,_⟩:=ziv hg g1 (k:=t.c+j) (by have:=hi.2.2.2; omega)
  have:=h _ (List.mem_of_getElem? g2) c (List.mem_of_getElem? ((zgn hj').trans e1))
  rw [zc3 g1 e1,hz0,this]
 intro h r hr c hc
 obtain ⟨i,hi'⟩:=List.getElem?_of_mem hr
 have hil:=(List.getElem?_eq_some_iff.1 hi').1
 rw [zj3 hi]at hil
 obtain ⟨row,g1,g2,g3,g4⟩:=zik hg hi hil
 rw [g2]at hi'; cases hi'
 obtain ⟨j,hj⟩:=List.getElem?_of_mem hc
 have hjl:=(List.getElem?_eq_some_iff.1 hj).1
 rw [zgn (by omega)]at hj
 have:=h i j hil (by omega)
 rw [zc3 g1 hj,hz0]at this
 exact UInt8.toNat_inj.1 (by omega)
end
end
section
def Pt.rect (t:Pt):Rect:=⟨t.r,t.c,t.h,t.w⟩
abbrev zft (g:List (List Int)) (rs:List Rect) (t:Rect):PV := .agg (zaw g rs::t.cells)
def yct (rs:List Rect) (t:Rect) (i:Nat):Bool:=match rs[i]? with | some b=>decide (t.both b=t) | none=>false
def zfz (rs:List Rect) (t:Rect) (k:Nat):List Int:=((List.range k).filter (yct rs t)).map fun i:Nat=>(i:Int)
theorem zi1 {rs:List Rect} {t:Rect} {k:Nat} {b:Rect} (h:rs[k]?=some b):zfz rs t (k+1)=if t.both b=t then zfz rs t k++[(k:Int)] else zfz rs t k:=by
 unfold zfz
 rw [qS,List.filter_append,List.map_append]
 simp only[List.filter_cons,List.filter_nil,yct,h,decide_eq_true_eq]
 split <;> simp
theorem z4v {rs:List Rect} {t:Rect} {k:Nat}:(zfz rs t k).length≤k:=by
 unfold zfz
 rw [List.length_map]
 exact Nat.le_trans (List.length_filter_le _ _) (by simp)
def rms (rs:List Rect) (t:Rect):List Int:=zfz rs t rs.length
section
variable {p:List Txt} {t:Pt}
theorem zid (hp:zcz p=true):z9h (zao p) p.length (zax p).length:=by
 intro i j i' j' k l hi hi' hj hj' he h1 h2 h3 h4
 obtain ⟨b,hb,hin,_,hall⟩:=zhb hp hi hj
 obtain ⟨b',hb',hin',_,_⟩:=zhb hp hi' hj'
 rw [← he,hb]at hb'
 cases hb'
 refine hall k l (by omega) (by omega) ?_
 simp only[inB,qB,decide_eq_true_eq]at hin hin' ⊢
 omega
theorem zfi (hp:zcz p=true):Whole (zao p) p.length (zax p).length ⟨0,0,p.length,(zax p).length⟩:=by
 have hsm:=zbk (zec hp)
 obtain ⟨row0,h0,hm0⟩:=zaf hsm.1
 have hw:=zep (zec hp) h0
 rw [← zcj h0]at hw
 exact ⟨⟨hsm.1,hw,by simp,by simp⟩,fun i j i' j' a b c d _ _ _ _ _=>by simp only; omega⟩
theorem zqz (hp:zcz p=true) (ht:Whole (zao p) p.length (zax p).length t) {i:Nat} {b:Rect} (hb:(rP p)[i]?=some b) :
  t.rect.both b=t.rect↔∃ a c,t.r≤a∧a<t.r+t.h∧t.c≤c∧c<t.c+t.w∧zao p a c=i:=by
 have hh:=(zc1 hp).rect hb
 obtain ⟨a1,c1,p1,e1⟩:=hh.at_
 obtain ⟨a2,c2,p2,e2⟩:=hh.al
 obtain ⟨a3,c3,p3,e3⟩:=hh.ao
 obtain ⟨a4,c4,p4,e4⟩:=hh.ar
 have q1:=hh.inn _ _ p1
 obtain ⟨v1,g1⟩:=p1
 obtain ⟨v2,g2⟩:=p2
 obtain ⟨v3,g3⟩:=p3
 obtain ⟨v4,g4⟩:=p4
 unfold Gone at g1 g2 g3 g4
 constructor
 ·intro h
  refine ⟨a1,c1,?_⟩
  simp only[Rect.both,Pt.rect,Rect.mk.injEq]at h
  refine ⟨by omega,by omega,by omega,by omega,v1⟩
 rintro ⟨a,c,h1,h2,h3,h4,hv⟩
 have hin:=ht.inn
 unfold Pt.In at hin
 have k1:=ht.all a c a1 c1 (by omega) (by omega) (by omega) (by omega) (hv.trans v1.symm) h1 h2 h3 h4
 have k2:=ht.all a c a2 c2 (by omega) (by omega) (by omega) (by omega) (hv.trans v2.symm) h1 h2 h3 h4
 have k3:=ht.all a c a3 c3 (by omega) (by omega) (by omega) (by omega) (hv.trans v3.symm) h1 h2 h3 h4
 have k4:=ht.all a c a4 c4 (by omega) (by omega) (by omega) (by omega) (hv.trans v4.symm) h1 h2 h3 h4
 simp only[Rect.both,Pt.rect,Rect.mk.injEq]
 omega
theorem zh3 (hp:zcz p=true) {i j:Nat} (hi:i<p.length) (hj:j<(zax p).length):0≤zao p i j∧zao p i j<(rP p).length:=(zc1 hp).room hi hj
theorem zsi (hp:zcz p=true) (ht:Whole (zao p) p.length (zax p).length t) {x:Int} :
  x∈rms (rP p) t.rect↔∃ a c,t.r≤a∧a<t.r+t.h∧t.c≤c∧c<t.c+t.w∧zao p a c=x:=by
 have hin:=ht.inn
 unfold Pt.In at hin
 simp only[rms,zfz,List.mem_map,List.mem_filter,List.mem_range]
 constructor
 ·rintro ⟨i,⟨hi,hb⟩,rfl⟩
  obtain ⟨b,hb',_⟩:=zaf hi
  simp only[yct,hb',decide_eq_true_eq]at hb
  exact (zqz hp ht hb').1 hb
 rintro ⟨a,c,h1,h2,h3,h4,hv⟩
 have hr:=zh3 hp (i:=a) (j:=c) (by omega) (by omega)
 rw [hv]at hr
 obtain ⟨b,hb',_⟩:=zaf (show x.toNat<(rP p).length by omega)
 refine ⟨x.toNat,⟨by omega,?_⟩,by omega⟩
 simp only[yct,hb',decide_eq_true_eq]
 exact (zqz hp ht hb').2 ⟨a,c,h1,h2,h3,h4,by omega⟩
theorem z4w {rs:List Rect} {t:Rect}:(rms rs t).Nodup:=by
 unfold rms zfz
 rw [List.nodup_iff_pairwise_ne,List.pairwise_map]
 exact ((List.nodup_iff_pairwise_ne.1 List.nodup_range).filter _).imp fun h e=>h (Int.ofNat.inj e)
theorem yak (hp:zcz p=true) (ht:Whole (zao p) p.length (zax p).length t) (h:zwk (zao p) t=true):rms (rP p) t.rect=[zao p t.r t.c]:=by
 have hall:=zny.1 h
 have hin:=ht.inn
 unfold Pt.In at hin
 have hm:∀ x,x∈rms (rP p) t.rect↔x=zao p t.r t.c:=by
  intro x
  rw [zsi hp ht]
  constructor
  ·rintro ⟨a,c,h1,h2,h3,h4,rfl⟩
   have:=hall (a - t.r) (c - t.c) (by omega) (by omega)
   rwa [show t.r+(a - t.r)=a by omega,show t.c+(c - t.c)=c by omega]at this
  rintro rfl
  exact ⟨t.r,t.c,by omega,by omega,by omega,by omega,rfl⟩
 have hn:=z4w (rs:=rP p) (t:=t.rect)
 match hl:rms (rP p) t.rect,hm,hn with
 | [],hm,_=>exact absurd ((hm _).2 rfl) (by simp)
 | [x],hm,_=>rw [(hm x).1 (by simp)]
 | x::y::l,hm,hn =>
  have h1:=(hm x).1 (by simp)
  have h2:=(hm y).1 (by simp)
  rw [h1,h2]at hn
  simp at hn
theorem z7n (hp:zcz p=true) (ht:Whole (zao p) p.length (zax p).length t) (h:zwk (zao p) t=false):2≤(rms (rP p) t.rect).length:=by
 have hin:=ht.inn
 unfold Pt.In at hin
 have hno:¬ ∀ i j,i<t.h→j<t.w→zao p (t.r+i) (t.c+j)=zao p t.r t.c:=by
  intro hc; rw [zny.2 hc]at h; cases h
 match hl:rms (rP p) t.rect with
 | [] =>
  have:zao p t.r t.c∈rms (rP p) t.rect:=(zsi hp ht).2 ⟨t.r,t.c,by omega,by omega,by omega,by omega,rfl⟩
  rw [hl]at this; simp at this
 | [x] =>
  exfalso
  apply hno
  intro i j hi hj
  have h1:zao p (t.r+i) (t.c+j)∈rms (rP p) t.rect:=(zsi hp ht).2 ⟨t.r+i,t.c+j,by omega,by omega,by omega,by omega,rfl⟩
  have h2:zao p t.r t.c∈rms (rP p) t.rect:=(zsi hp ht).2 ⟨t.r,t.c,by omega,by omega,by omega,by omega,rfl⟩
  rw [hl]at h1 h2
  simp at h1 h2
  omega
 | x::y::l=>simp
end
def thG (g:List (List Int)) (t:Pt) (level:Bool) (line:Nat):Bool:=if level then (List.range t.w).all fun j=>zhz g true line (t.c+j) else (List.range t.h).all fun i=>zhz g false line (t.r+i)
theorem yc1 {p:List Txt} (hp:zcz p=true) {t:Pt} (ht:t.In p.length (zax p).length) {k:Nat} (h1:1≤k) (h2:k<t.w):thG (gP p) t false (t.c+k)=thU (zao p) t k:=by
 have hN:=zc1 hp
 obtain ⟨i1,i2,i3,i4⟩:=ht
 apply Bool.eq_iff_iff.2
 rw [zx1]
 simp only[thG,qF,if_false,List.all_eq_true,List.mem_range,zhz,zcc,decide_eq_true_eq]
 constructor
 ·intro h i hi
  have:=h i hi
  rwa [hN.cell (by omega) (by omega),hN.cell (by omega) (by omega)]at this
 intro h i hi
 have:=h i hi
 rwa [hN.cell (by omega) (by omega),hN.cell (by omega) (by omega)]
theorem yc0 {p:List Txt} (hp:zcz p=true) {t:Pt} (ht:t.In p.length (zax p).length) {k:Nat} (h1:1≤k) (h2:k<t.h):thG (gP p) t true (t.r+k)=thL (zao p) t k:=by
 have hN:=zc1 hp
 obtain ⟨i1,i2,i3,i4⟩:=ht
 apply Bool.eq_iff_iff.2
 rw [zx0]
 simp only[thG,if_true,List.all_eq_true,List.mem_range,zhz,zcc,decide_eq_true_eq]
 constructor
 ·intro h i hi
  have:=h i hi
  rwa [hN.cell (by omega) (by omega),hN.cell (by omega) (by omega)]at this
 intro h i hi
 have:=h i hi
 rwa [hN.cell (by omega) (by omega),hN.cell (by omega) (by omega)]
def zxh (g:List (List Int)) (rs:List Rect) (lv:Bool) (x y:Rect):List PV := .bool lv::(zaw g rs::x.cells)++(zaw g rs::y.cells)
abbrev zyq (g:List (List Int)) (rs:List Rect) (t:Pt) (q:Bool × Nat):PV := .agg (zxh g rs q.1 (t.one q).rect (t.two q).rect)
end
theorem znz {S:Store} {x t:Rect}:pEq tab S 55 (zp7 x) (.agg [.int .i64 t.row,.int .i64 t.col,.int .i64 t.high,.int .i64 t.wide])=some (decide (x=t)):=by
 have h:(tab 55).kd = .struct [(0,3),(1,3),(2,3),(3,3)]:=by kernel_rfl
 have h2:zgd tab [(0,3),(1,3),(2,3),(3,3)] 0=true:=by kernel_rfl
 obtain ⟨b1,b2,b3,b4⟩:=x
 obtain ⟨o1,o2,o3,o4⟩:=t
 unfold pEq
 rw [h]
 simp [h2,Rect.cells,zo2]
def slO (l:List Int) (v:Nat):PV:=match l with | [] => .nils | _ => .loc 1 v 0 l.length
def stO (b:Ob) (l:List Int) (v t:Nat):Store:=match l with | []=>⟨[b],t⟩ | _=>⟨[b,.arr v 3 1 (l.map (.int .i64))],t⟩
theorem zs9 {v:Nat}:slO [] v = .nils:=rfl
theorem zta {b:Ob} {v t:Nat}:stO b [] v t=⟨[b],t⟩:=rfl
theorem zv7 {l:List Int} {v:Nat} (h:l≠[]):slO l v = .loc 1 v 0 l.length:=by cases l with | nil=>exact absurd rfl h | cons a l=>rfl
theorem zv9 {b:Ob} {l:List Int} {v t:Nat} (h:l≠[]):stO b l v t=⟨[b,.arr v 3 1 (l.map (.int .i64))],t⟩:=by cases l with | nil=>exact absurd rfl h | cons a l=>rfl
theorem z4q {b:Ob} {l:List Int} {v t:Nat} {im:Bool} {k:Nat}:reify (stO b l v t) im (k+2) (slO l v)=some (eInts l):=by
 cases l with
 | nil=>rfl
 | cons a l=>exact zbc (k:=k+1) (S:=⟨[b,.arr v 3 1 ((a::l).map (.int .i64))],t⟩) (o:=1) rfl (by simp) (zdw _)
theorem zlt {g:List (List Int)} {rs:List Rect}:(zaw g rs).isDef=true:=rfl
theorem z24 (b:Rect) (t:Rect) (l:List Int):(t.both b≠t∧l=[])∨(t.both b≠t∧l≠[])∨(t.both b=t∧l=[])∨(t.both b=t∧l≠[]):=by
 by_cases h:t.both b=t <;> by_cases e:l=[] <;> simp [h,e]
theorem z3i (g:List (List Int)) {rs:List Rect} (hrs:rs.length≤1000) (hfit:∀ b∈rs,b.Fit) {t:Rect} (ht:t.Fit):PC Tryz.prog 72 [zft g rs t] (eInts (rms rs t)) true:=by
 simp only[zft,Rect.cells]
 refine PC.of ⟨Tryz.func72,by kernel_rfl,rfl,by kernel_rfl⟩ za4 mixed (by show 1≤Tryz.f72.ntmps; decide) ?_
 refine W.r fun K hK=>?_
 simp(disch:=omega)only[↓RU,RV,RH,↓reduceIte,qE,reduceCtorEq,if_pos,↓RS,RG,qA,qM,qL,ty5,ty9,zbg,zaa,zb5,zbh]
 apply hK;clear hK K
 refine W.r fun K hK=>?_
 simp(disch:=omega)only[↓RU,RV,RH,↓reduceIte,qE,reduceCtorEq,if_pos,↓RS,RG,qA,qM,qL]
 apply hK;clear hK K
 refine W.seq ?_
 refine W.r fun K hK=>?_
 simp(disch:=omega)only[↓RU,RV,RH,↓reduceIte,qE,reduceCtorEq,if_pos,↓RS,RG,qA,qM,qL,ty0,ty1,zab,ty5,ty7,ty8,ty9,zbg,zaa,zb5,zfp,zbh]
 apply hK;clear hK K
 refine W.block ?_
 refine W.loopS [1,10,11,12,3] (fun n vs S=>∃ i v tk:Nat,n=rs.length - i∧i≤rs.length∧vs=[.ref 0 0 0,zmu rs,.int .i64 rs.length,.int .i64 i,slO (zfz rs t i) v]∧S=stO (.arr 0 57 5 [zaw g rs,.int .i64 t.row,.int .i64 t.col,.int .i64 t.high,.int .i64 t.wide]) (zfz rs t i) v tk) rs.length ?_ ?_
 ·refine ⟨1,[],[.ref 0 0 0,zmu rs,.int .i64 rs.length,.int .i64 (0:Nat),slO [] 0],stO (.arr 0 57 5 [zaw g rs,.int .i64 t.row,.int .i64 t.col,.int .i64 t.high,.int .i64 t.wide]) [] 0 2,?_,?_,0,0,2,rfl,by omega,rfl,rfl⟩
  ·simp [-qU,Env.put,Env.of,zad,za2,zac,zai,zak,zam,za3,za8,zbz,za7,zat,za9,zby,zb0,zav,zau,zan,za6,zba,zbx,zar,zaq,zal,zas,za5,zc9,qS,qP,qC,zs9]
  simp [-qU,Env.put,Env.of,zad,za2,zac,zai,zak,zam,za3,za8,zbz,za7,zat,za9,zby,zb0,zav,zau,zan,za6,zba,zbx,zar,zaq,zal,zas,za5,zc9,qS,qP,qC,zta,znc,Rect.cells]
 rintro n vs S - ⟨i,v,tk,rfl,h_i,rfl,rfl⟩
 refine W.r fun K hK=>?_
 simp(disch:=omega)only[↓RU,RV,RH,↓reduceIte,qE,reduceCtorEq,if_pos,w64,↓RS,RG,qA,qM,qL,zaa]
 apply hK;clear hK K
 refine W.seq ?_
 refine W.cond rfl (fun h=>?_) (fun h=>?_)
 ·try simp only[RL]at h
  obtain ⟨b,hb,hbm⟩:=zaf (show i<rs.length by omega)
  have hbr:=zji hb
  have hlen:=z4v (rs:=rs) (t:=t) (k:=i)
  generalize hl:zfz rs t i=l at hlen
  refine W.skip ?_
  refine xn ?_
  refine W.seq ?_
  refine W.block ?_
  refine W.r fun K hK=>?_
  obtain ⟨hd,rfl⟩ | ⟨hd,hw⟩ | ⟨hd,rfl⟩ | ⟨hd,hw⟩:=z24 b t l
  ·skip
   rw [zs9,zta]
   simp(disch:=omega)only[↓RU,RV,RH,↓reduceIte,qE,reduceCtorEq,if_pos,↓RS,RG,qA,qM,qL,ty1,zbg,zaa,zbh,hbr,zbn,Rect.cells]
   apply hK;clear hK K
   refine W.seq_draw (by kernel_rfl) fun K hK=>?_
   simp(disch:=omega)only[↓RU,RV,RH,↓reduceIte,qE,reduceCtorEq,if_pos,qN,w64,↓RS,RG,qA,qM,qL,ty5,ty9,zbg,zaa,zb5,zbh]
   refine zag.pc (zjm ht.in_ (hfit b hbm).in_) rfl (.inl rfl) ?_
   simp(disch:=omega)only[↓RU,RV,RH,↓reduceIte,qE,reduceCtorEq,if_pos,qN,w64,↓RS,RG,qA,qM,qL,ty5,ty9,zbg,zaa,zb5,zbh,znz,qO]
   apply hK;clear hK K
   refine W.cond rfl (fun h1=>?_) (fun h1=>?_)
   ·try simp only[RL]at h1
    exact absurd h1 (by simp [hd])
   try simp only[RL]at h1
   refine W.skip ?_
   refine XbN ?_
   refine xn ?_
   refine W.k fun K hK=>?_
   simp(disch:=omega)only[↓RU,RV,RH,↓reduceIte,qE,reduceCtorEq,if_pos,w64,↓RS,RG,qA,qM,qL,zaa]
   apply hK;clear hK K
   refine xn ?_
   have hnx:zfz rs t (i+1)=[]:=by rw [zi1 hb,hl,if_neg hd] <;> rfl
   refine ⟨rs.length - (i+1),by omega,1,[],[.ref 0 0 0,zmu rs,.int .i64 rs.length,.int .i64 ((i+1:Nat):Int),slO (zfz rs t (i+1)) v],stO (.arr 0 57 5 [zaw g rs,.int .i64 t.row,.int .i64 t.col,.int .i64 t.high,.int .i64 t.wide]) (zfz rs t (i+1)) v (tk+2),?_,?_,i+1,v,(tk+2),rfl,by omega,rfl,rfl⟩
   ·rw [hnx]; simp [-qU,Env.put,Env.of,zad,za2,zac,zai,zak,zam,za3,za8,zbz,za7,zat,za9,zby,zb0,zav,zau,zan,za6,zba,zbx,zar,zaq,zal,zas,za5,zc9,qS,qP,qC,zs9]
   rw [hnx]; simp [-qU,Env.put,Env.of,zad,za2,zac,zai,zak,zam,za3,za8,zbz,za7,zat,za9,zby,zb0,zav,zau,zan,za6,zba,zbx,zar,zaq,zal,zas,za5,zc9,qS,qP,qC,zta,Rect.cells]
  ·skip
   rw [zv7 hw,zv9 hw]
   simp(disch:=omega)only[↓RU,RV,RH,↓reduceIte,qE,reduceCtorEq,if_pos,↓RS,RG,qA,qM,qL,ty1,zbg,zaa,zbh,hbr,zbn,Rect.cells]
   apply hK;clear hK K
   refine W.seq_draw (by kernel_rfl) fun K hK=>?_
   simp(disch:=omega)only[↓RU,RV,RH,↓reduceIte,qE,reduceCtorEq,if_pos,qN,w64,↓RS,RG,qA,qM,qL,ty5,ty9,zbg,zaa,zb5,zbh]
   refine zag.pc (zjm ht.in_ (hfit b hbm).in_) rfl (.inl rfl) ?_
   simp(disch:=omega)only[↓RU,RV,RH,↓reduceIte,qE,reduceCtorEq,if_pos,qN,w64,↓RS,RG,qA,qM,qL,ty5,ty9,zbg,zaa,zb5,zbh,znz,qO]
   apply hK;clear hK K
   refine W.cond rfl (fun h1=>?_) (fun h1=>?_)
   ·try simp only[RL]at h1
    exact absurd h1 (by simp [hd])
   try simp only[RL]at h1
   refine W.skip ?_
   refine XbN ?_
   refine xn ?_
   refine W.k fun K hK=>?_
   simp(disch:=omega)only[↓RU,RV,RH,↓reduceIte,qE,reduceCtorEq,if_pos,w64,↓RS,RG,qA,qM,qL,zaa]
   apply hK;clear hK K
   refine xn ?_
   have hnx:zfz rs t (i+1)=l:=by rw [zi1 hb,hl,if_neg hd] <;> rfl
   refine ⟨rs.length - (i+1),by omega,2,[],[.ref 0 0 0,zmu rs,.int .i64 rs.length,.int .i64 ((i+1:Nat):Int),slO (zfz rs t (i+1)) v],stO (.arr 0 57 5 [zaw g rs,.int .i64 t.row,.int .i64 t.col,.int .i64 t.high,.int .i64 t.wide]) (zfz rs t (i+1)) v (tk+2),?_,?_,i+1,v,(tk+2),rfl,by omega,rfl,rfl⟩
   ·rw [hnx]; simp [-qU,Env.put,Env.of,zad,za2,zac,zai,zak,zam,za3,za8,zbz,za7,zat,za9,zby,zb0,zav,zau,zan,za6,zba,zbx,zar,zaq,zal,zas,za5,zc9,qS,qP,qC,zv7 hw]
   rw [hnx]; simp [-qU,Env.put,Env.of,zad,za2,zac,zai,zak,zam,za3,za8,zbz,za7,zat,za9,zby,zb0,zav,zau,zan,za6,zba,zbx,zar,zaq,zal,zas,za5,zc9,qS,qP,qC,zv9 hw,zg1,Rect.cells]
  ·skip
   rw [zs9,zta]
   simp(disch:=omega)only[↓RU,RV,RH,↓reduceIte,qE,reduceCtorEq,if_pos,↓RS,RG,qA,qM,qL,ty1,zbg,zaa,zbh,hbr,zbn,Rect.cells]
   apply hK;clear hK K
   refine W.seq_draw (by kernel_rfl) fun K hK=>?_
   simp(disch:=omega)only[↓RU,RV,RH,↓reduceIte,qE,reduceCtorEq,if_pos,qN,w64,↓RS,RG,qA,qM,qL,ty5,ty9,zbg,zaa,zb5,zbh]
   refine zag.pc (zjm ht.in_ (hfit b hbm).in_) rfl (.inl rfl) ?_
   simp(disch:=omega)only[↓RU,RV,RH,↓reduceIte,qE,reduceCtorEq,if_pos,qN,w64,↓RS,RG,qA,qM,qL,ty5,ty9,zbg,zaa,zb5,zbh,znz,qO]
   apply hK;clear hK K
   refine W.cond rfl (fun h1=>?_) (fun h1=>?_)
   ·try simp only[RL]at h1
    refine W.k fun K hK=>?_
    simp(disch:=omega)only[↓RU,RV,RH,↓reduceIte,qE,reduceCtorEq,if_pos,↓RS,RG,qA,qM,qL,zab,zaa]
    apply hK;clear hK K
    refine XbN ?_
    refine xn ?_
    refine W.k fun K hK=>?_
    simp(disch:=omega)only[↓RU,RV,RH,↓reduceIte,qE,reduceCtorEq,if_pos,w64,↓RS,RG,qA,qM,qL,zaa]
    apply hK;clear hK K
    refine xn ?_
    have hnx:zfz rs t (i+1)=[(i:Int)]:=by rw [zi1 hb,hl,if_pos hd] <;> rfl
    refine ⟨rs.length - (i+1),by omega,1,[3],[.ref 0 0 0,zmu rs,.int .i64 rs.length,.int .i64 ((i+1:Nat):Int),slO (zfz rs t (i+1)) (tk+3)],stO (.arr 0 57 5 [zaw g rs,.int .i64 t.row,.int .i64 t.col,.int .i64 t.high,.int .i64 t.wide]) (zfz rs t (i+1)) (tk+3) (tk+4),?_,?_,i+1,(tk+3),(tk+4),rfl,by omega,rfl,rfl⟩
    ·rw [hnx]; simp [-qU,Env.put,Env.of,zad,za2,zac,zai,zak,zam,za3,za8,zbz,za7,zat,za9,zby,zb0,zav,zau,zan,za6,zba,zbx,zar,zaq,zal,zas,za5,zc9,qS,qP,qC,zv7]
    rw [hnx]; simp [-qU,Env.put,Env.of,zad,za2,zac,zai,zak,zam,za3,za8,zbz,za7,zat,za9,zby,zb0,zav,zau,zan,za6,zba,zbx,zar,zaq,zal,zas,za5,zc9,qS,qP,qC,zv9,znc,Rect.cells]
   try simp only[RL]at h1
   exact absurd h1 (by simp [hd])
  skip
  rw [zv7 hw,zv9 hw]
  simp(disch:=omega)only[↓RU,RV,RH,↓reduceIte,qE,reduceCtorEq,if_pos,↓RS,RG,qA,qM,qL,ty1,zbg,zaa,zbh,hbr,zbn,Rect.cells]
  apply hK;clear hK K
  refine W.seq_draw (by kernel_rfl) fun K hK=>?_
  simp(disch:=omega)only[↓RU,RV,RH,↓reduceIte,qE,reduceCtorEq,if_pos,qN,w64,↓RS,RG,qA,qM,qL,ty5,ty9,zbg,zaa,zb5,zbh]
  refine zag.pc (zjm ht.in_ (hfit b hbm).in_) rfl (.inl rfl) ?_
  simp(disch:=omega)only[↓RU,RV,RH,↓reduceIte,qE,reduceCtorEq,if_pos,qN,w64,↓RS,RG,qA,qM,qL,ty5,ty9,zbg,zaa,zb5,zbh,znz,qO]
  apply hK;clear hK K
  refine W.cond rfl (fun h1=>?_) (fun h1=>?_)
  ·try simp only[RL]at h1
   refine W.k fun K hK=>?_
   simp(disch:=omega)only[↓RU,RV,RH,↓reduceIte,qE,reduceCtorEq,if_pos,↓RS,RG,qA,qM,qL,zab,zaa]
   apply hK;clear hK K
   refine XbN ?_
   refine xn ?_
   refine W.k fun K hK=>?_
   simp(disch:=omega)only[↓RU,RV,RH,↓reduceIte,qE,reduceCtorEq,if_pos,w64,↓RS,RG,qA,qM,qL,zaa]
   apply hK;clear hK K
   refine xn ?_
   have hnx:zfz rs t (i+1)=l++[(i:Int)]:=by rw [zi1 hb,hl,if_pos hd] <;> rfl
   refine ⟨rs.length - (i+1),by omega,2,[],[.ref 0 0 0,zmu rs,.int .i64 rs.length,.int .i64 ((i+1:Nat):Int),slO (zfz rs t (i+1)) (tk+2)],stO (.arr 0 57 5 [zaw g rs,.int .i64 t.row,.int .i64 t.col,.int .i64 t.high,.int .i64 t.wide]) (zfz rs t (i+1)) (tk+2) (tk+4),?_,?_,i+1,(tk+2),(tk+4),rfl,by omega,rfl,rfl⟩
   ·rw [hnx]; simp [-qU,Env.put,Env.of,zad,za2,zac,zai,zak,zam,za3,za8,zbz,za7,zat,za9,zby,zb0,zav,zau,zan,za6,zba,zbx,zar,zaq,zal,zas,za5,zc9,qS,qP,qC,zv7 (l:=l++[(i:Int)]) (by simp)]
   rw [hnx]; simp [-qU,Env.put,Env.of,zad,za2,zac,zai,zak,zam,za3,za8,zbz,za7,zat,za9,zby,zb0,zav,zau,zan,za6,zba,zbx,zar,zaq,zal,zas,za5,zc9,qS,qP,qC,zv9 (l:=l++[(i:Int)]) (by simp),zg1,Rect.cells]
  try simp only[RL]at h1
  exact absurd h1 (by simp [hd])
 try simp only[RL]at h
 obtain rfl:rs.length=i:=by omega
 refine W.exit ?_
 refine xe ?_
 refine xe ?_
 refine XBlock.hit ?_
 refine xn ?_
 refine W.r fun K hK=>?_
 simp(disch:=omega)only[↓RU,RV,RH,↓reduceIte,qE,reduceCtorEq,if_pos,↓RS,RG,qA,qM,qL]
 apply hK;clear hK K
 refine W.ret ?_
 refine Br rfl ?_
 exact z4q
theorem zef {g:List (List Int)} {nh nw:Nat} (hg:GW g nh nw) (rs:List Rect) {t:Pt} (ht:t.In nh nw) {level:Bool} {line:Nat} (hl1:1≤line) (hl2:if level then line<nh else line<nw):PC Tryz.prog 141 [zft g rs t.rect,.bool level,.int .i64 line] (.bool (thG g t level line)) true:=by
 obtain ⟨t1,t2,t3,t4⟩:=ht
 have hgg:=hg
 obtain ⟨g1,g2,g3,g4⟩:=hg.2.2
 obtain ⟨fr,hfr⟩:∃ fr:Nat,(if level then t.c else t.r)=fr:=⟨_,rfl⟩
 obtain ⟨lg,hlg⟩:∃ lg:Nat,(if level then t.w else t.h)=lg:=⟨_,rfl⟩
 have hth:thG g t level line=(List.range lg).all fun j=>zhz g level line (fr+j):=by subst hfr hlg; cases level <;> rfl
 have hin:∀ j,j<lg→InL nh nw level line (fr+j):=by subst hfr hlg; intro j hj; refine ⟨hl1,?_⟩; cases level <;> simp at hj hl2 ⊢ <;> omega
 have hb:fr≤6∧lg≤6:=by subst hfr hlg; cases level <;> simp <;> omega
 have hln:line≤6:=by cases level <;> simp at hl2 <;> omega
 simp only[Pt.rect,zft,Rect.cells]
 refine PC.of ⟨Tryz.func141,by kernel_rfl,rfl,by kernel_rfl⟩ za4 mixed (by show 3≤Tryz.f141.ntmps; decide) ?_
 refine W.r fun K hK=>?_
 simp(disch:=omega)only[↓RU,RV,RH,↓reduceIte,qE,reduceCtorEq,if_pos,↓RS,RG,qA,qM,qL,ty5,ty9,zbg,zaa,zb5,zbh]
 apply hK;clear hK K
 refine W.seq_draw (by kernel_rfl) fun K hK=>?_
 simp(disch:=omega)only[↓RU,RV,RH,↓reduceIte,qE,reduceCtorEq,if_pos,↓RS,RG,qA,qM,qL,ty5,ty9,zbg,zaa,zb5,zbh]
 apply hK;clear hK K
 refine W.join [3,1,2,7,8] (fun vs S=>vs=[.ref 0 0 0,.bool level,.int .i64 line,.int .i64 fr,.int .i64 lg]∧S=⟨[.arr 0 57 5 [zaw g rs,.int .i64 t.r,.int .i64 t.c,.int .i64 t.h,.int .i64 t.w]],1⟩) ?_ ?_
 ·
  refine W.r fun K hK=>?_
  simp(disch:=omega)only[↓RU,RV,RH,↓reduceIte,qE,reduceCtorEq,if_pos,↓RS,RG,qA,qM,qL]
  apply hK;clear hK K
  refine W.cond rfl (fun h0=>?_) (fun h0=>?_)
  ·try simp only[RL]at h0
   refine W.draw_k (by kernel_rfl) fun K hK=>?_
   simp(disch:=omega)only[↓RU,RV,RH,↓reduceIte,qE,reduceCtorEq,if_pos,↓RS,RG,qA,qM,qL,ty5,ty9,zbg,zaa,zb5,zbh]
   apply hK;clear hK K
   refine xn ?_
   refine ⟨1,?_,rfl⟩
   simp only[h0,if_true,qF,if_false]at hfr hlg
   subst hfr hlg h0
   simp [Env.put,Env.of,zad]
  try simp only[RL]at h0
  refine W.skip ?_
  refine xn ?_
  refine ⟨1,?_,rfl⟩
  simp only[h0,if_true,qF,if_false]at hfr hlg
  subst hfr hlg h0
  simp [Env.put,Env.of,zad]
 rintro vs S - ⟨rfl,rfl⟩
 refine W.seq ?_
 refine W.r fun K hK=>?_
 simp(disch:=omega)only[↓RU,RV,RH,↓reduceIte,qE,reduceCtorEq,if_pos,↓RS,RG,qA,qM,qL]
 apply hK;clear hK K
 refine W.block ?_
 refine W.loop [3,1,2,7,8,9] (fun n vs S=>∃ i:Nat,n=lg - i∧i≤lg∧(∀ j,j<i→zhz g level line (fr+j)=true)∧vs=[.ref 0 0 0,.bool level,.int .i64 line,.int .i64 fr,.int .i64 lg,.int .i64 ((fr+i:Nat):Int)]∧S=⟨[.arr 0 57 5 [zaw g rs,.int .i64 t.r,.int .i64 t.c,.int .i64 t.h,.int .i64 t.w]],1⟩) (lg) ?_ ?_
 ·refine ⟨1,0,rfl,Nat.zero_le _,(fun j hj=>by omega),?_,rfl⟩
  simp [Env.put,Env.of,zad]
 rintro n vs S - ⟨i,rfl,h_i,hall,rfl,rfl⟩
 refine W.seq ?_
 refine W.r fun K hK=>?_
 simp(disch:=omega)only[↓RU,RV,RH,↓reduceIte,qE,reduceCtorEq,if_pos,w64,↓RS,RG,qA,qM,qL,zaa]
 apply hK;clear hK K
 refine W.cond rfl (fun h1=>?_) (fun h1=>?_)
 ·try simp only[RL]at h1
  refine W.skip ?_
  refine xn ?_
  refine W.seq ?_
  refine W.block ?_
  refine W.r fun K hK=>?_
  have hin2:=hin i (by omega)
  simp(disch:=omega)only[↓RU,RV,RH,↓reduceIte,qE,reduceCtorEq,if_pos,qN,↓RS,RG,qA,qM,qL,ty5,ty9,zbg,zaa,zb5,zbh]
  refine zag.pc (z2d hgg rs hin2) rfl (.inl rfl) ?_
  simp(disch:=omega)only[↓RU,RV,RH,↓reduceIte,qE,reduceCtorEq,if_pos,qN,↓RS,RG,qA,qM,qL,ty5,ty9,zbg,zaa,zb5,zbh]
  apply hK;clear hK K
  refine W.cond rfl (fun h2=>?_) (fun h2=>?_)
  ·try simp only[RL]at h2
   refine W.r fun K hK=>?_
   simp(disch:=omega)only[↓RU,RV,RH,↓reduceIte,qE,reduceCtorEq,if_pos,↓RS,RG,qA,qM,qL]
   apply hK;clear hK K
   refine W.ret ?_
   refine XBlock.ret ?_
   refine XThen.ret ?_
   refine XThen.ret ?_
   refine XBlock.ret ?_
   refine XThen.ret ?_
   refine Br rfl ?_
   rw [hth,show ((List.range lg).all fun j=>zhz g level line (fr+j))=false from by rw [List.all_eq_false]; exact ⟨i,List.mem_range.2 (by omega),by simpa using h2⟩]
   rfl
  try simp only[RL]at h2
  refine W.skip ?_
  refine XbN ?_
  refine xn ?_
  refine W.k fun K hK=>?_
  simp(disch:=omega)only[↓RU,RV,RH,↓reduceIte,qE,reduceCtorEq,if_pos,w64,↓RS,RG,qA,qM,qL,zaa]
  apply hK;clear hK K
  refine xn ?_
  refine ⟨lg - (i+1),by omega,1,i+1,rfl,by omega,(fun j hj=>by rcases Nat.lt_succ_iff_lt_or_eq.1 hj with h | rfl; exact hall j h; simpa using h2),?_,rfl⟩
  simp [Env.put,Env.of]; omega
 try simp only[RL]at h1
 refine W.exit ?_
 refine xe ?_
 refine xe ?_
 refine XBlock.hit ?_
 refine xn ?_
 refine W.r fun K hK=>?_
 simp(disch:=omega)only[↓RU,RV,RH,↓reduceIte,qE,reduceCtorEq,if_pos,↓RS,RG,qA,qM,qL]
 apply hK;clear hK K
 refine W.ret ?_
 refine Br rfl ?_
 rw [hth,show ((List.range lg).all fun j=>zhz g level line (fr+j))=true from by rw [List.all_eq_true]; intro j hj; exact hall j (by have:=List.mem_range.1 hj; omega)]
 rfl
theorem z75 {g:List (List Int)} {row:List Int} (h:g[0]?=some row) (rs:List Rect):PC Tryz.prog 35 [zaw g rs] (zft g rs ⟨0,0,g.length,row.length⟩) false:=by
 refine PC.of ⟨Tryz.func35,by kernel_rfl,rfl,by kernel_rfl⟩ za4 mixed (by show 1≤Tryz.f35.ntmps; decide) ?_
 refine W.r fun K hK=>?_
 simp(disch:=omega)only[↓RU,RV,RH,↓reduceIte,qE,reduceCtorEq,if_pos,↓RS,RG,qA,qM,qL,ty5,ty9,zbg,zaa,zb5,zbh]
 apply hK;clear hK K
 refine W.r fun K hK=>?_
 simp(disch:=omega)only[↓RU,RV,RH,↓reduceIte,qE,reduceCtorEq,if_pos,qN,↓RS,RG,qA,qM,qL,ty5,ty9,zbg,zaa,zb5,zbh,zlt]
 refine zag.pc (zsa g rs) rfl (.inl rfl) ?_
 simp(disch:=omega)only[↓RU,RV,RH,↓reduceIte,qE,reduceCtorEq,if_pos,qN,↓RS,RG,qA,qM,qL,ty5,ty9,zbg,zaa,zb5,zbh,zlt]
 refine zag.pc (zx6 h rs) rfl (.inl rfl) ?_
 simp(disch:=omega)only[↓RU,RV,RH,↓reduceIte,qE,reduceCtorEq,if_pos,qN,↓RS,RG,qA,qM,qL,ty5,ty9,zbg,zaa,zb5,zbh,zlt]
 apply hK;clear hK K
 refine W.ret ?_
 refine Br rfl ?_
 rw [show (tab 57).size=5 by kernel_rfl]
 rfl
theorem z9s (g:List (List Int)) (rs:List Rect) (t:Rect):PC Tryz.prog 111 [zft g rs t] (.fn 140 [.ip (zaw g rs::t.cells) 0]) false:=by
 simp only[zft,Rect.cells]
 refine PC.of ⟨Tryz.func111,by kernel_rfl,rfl,by kernel_rfl⟩ za4 mixed (by show 1≤Tryz.f111.ntmps; decide) ?_
 refine W.r fun K hK=>?_
 simp(disch:=omega)only[↓RU,RV,RH,↓reduceIte,qE,reduceCtorEq,if_pos,↓RS,RG,qA,qM,qL,ty5,ty9,zbg,zaa,zb5,zbh]
 apply hK;clear hK K
 refine W.r fun K hK=>?_
 simp(disch:=omega)only[↓RU,RV,RH,↓reduceIte,qE,reduceCtorEq,if_pos,↓RS,RG,qA,qM,qL]
 apply hK;clear hK K
 refine W.ret ?_
 refine Br rfl ?_
 rfl
section
structure LoopR (ps:Array Tmp) (asg body:Code) (r:Loop):Prop where
 hps:r.params=ps
 hasg:r.assign=asg
 hbody:r.body=body
 dps:∀ t∈ps.toList,t<r.tmps.size
 dasg:zgb r.tmps.size asg=true
 dbody:zgb r.tmps.size body=true
def Env.puts:List (Nat × PV)→Env→Env
 | [],e=>e
 | (t,v)::r,e=>Env.puts r (e.put (some t) v)
section
variable {P:Program} {T:Tab} {Q Q':Exit→Env→Store→Prop} {e:Env} {S:Store} {a b c:Code} {F:Nat→Prop} {G:GSt} {w:World}
theorem zub {ds:List Deferred}:∀ (ps:List Nat) (xs:List PV) (cs:List Value) (e:Env) (t:Array Value),zeu w.heap F G e ⟨t,ds⟩→(∀ p∈ps,p<t.size)→xs.length=cs.length →
  (∀ (i:Nat) p c,xs[i]?=some p→cs[i]?=some c→VR w.heap F G p c) →
  zeu w.heap F G (Env.puts (ps.zip xs) e) ⟨(ps.zip cs).foldl (fun t (q:Nat × Value)=>t.setIfInBounds q.1 q.2) t,ds⟩
 | [],xs,cs,e,t,he,_,_,_=>by simpa [Env.puts] using he
 | p::ps,[],[],e,t,he,_,_,_=>by simpa [Env.puts] using he
 | p::ps,x::xs,c::cs,e,t,he,hp,hl,hv=>by
  simp only[List.zip_cons_cons,Env.puts,List.foldl_cons]
  refine zub ps xs cs _ _ ?_ ?_ (by simpa using hl) fun i p c q1 q2=>hv (i+1) p c (by simpa using q1) (by simpa using q2)
  ·have:=he.put (a:=⟨t,ds⟩) (some p) (v:=x) (cv:=c) (fun t' ht=>by cases ht; exact hp p (by simp)) (hv 0 x c rfl rfl)
   exact this
  intro q hq
  have:=hp q (by simp [hq])
  simpa using this
 | p::ps,[],c::cs,_,_,_,_,hl,_=>by simp at hl
 | p::ps,x::xs,[],_,_,_,_,hl,_=>by simp at hl
theorem z0u (l:List (Nat × Value)) (t:Array Value):(l.foldl (fun t (q:Nat × Value)=>t.setIfInBounds q.1 q.2) t).size=t.size:=by
 induction l generalizing t with
 | nil=>rfl
 | cons q l ih=>simp [ih]
theorem z4l (hi:Inv F G w) {o ver l:Nat} {r:Loop × List Nat} {tm:List PV} {lc:Lc} (ho:G.obs[o]?=some (.lp ver l r tm,lc)) (s:LoopState) (pe:Option Code) :
  ∃ t:Array Value,w.heap[l]?=some (.loop { r.1 with tmps:=t }) ∧
   Inv F ⟨G.obs.set o (.lp ver l ({ r.1 with state:=s,pending:=pe },r.2) tm,lc),G.tick⟩ (w.putObj l (.loop { r.1 with tmps:=t,state:=s,pending:=pe })) ∧
   Next F G w F ⟨G.obs.set o (.lp ver l ({ r.1 with state:=s,pending:=pe },r.2) tm,lc),G.tick⟩ (w.putObj l (.loop { r.1 with tmps:=t,state:=s,pending:=pe })):=by
 obtain ⟨h0,t,h1,h2,h3⟩:=hi.lp o ver l r tm lc ho
 have hlt:=(Array.getElem?_eq_some_iff.1 h1).1
 refine ⟨t,h1,zig hi ho _ lc G.tick _ rfl rfl rfl (qR _) (by simp) (.inl rfl) (fun b hb hne=>World.putObj_heap_other (by rw [← h0]; exact hne)) (qR _) (show Ob.ver (.lp ver l r tm)<G.tick from hi.ver o _ lc ho)
  (.inl ⟨rfl,trivial,rfl⟩) ⟨h0,t,World.putObj_heap_same hlt,h2,h3⟩⟩
def ybh (o l:Nat) (J:PV→Store→Prop):Exit→Env→Store→Prop
 | .normal,_,S=>∃ ver r L tm k,S.obs[o]?=some (.lp ver l (r,L) tm)∧J (.bool true) (Store.take ⟨S.obs.set o (.lp ver l ({ r with state := .ready,pending:=none },L) tm),S.tick⟩ k)
 | .ret,_,S=>∃ ver r L tm k,S.obs[o]?=some (.lp ver l (r,L) tm)∧J (.bool false) (Store.take ⟨S.obs.set o (.lp ver l ({ r with state := .done,pending:=some .ret },L) tm),S.tick⟩ k)
 | .exit id,_,S=>∃ ver r L tm k,S.obs[o]?=some (.lp ver l (r,L) tm)∧J (.bool false) (Store.take ⟨S.obs.set o (.lp ver l ({ r with state := .done,pending:=some (.exit id) },L) tm),S.tick⟩ k)
 | _,_,_=>False
theorem VR.bool_of {H:Array Obj} {b:Bool}:VR H F G (.bool b) (.bool b) := .imm _ _ (.bool b)
theorem Ey.of (hT:zb1 P T) (hm:P.follows .mixedOrders=true) {l o ver:Nat} {r:Loop} {L:List Nat} {tm xs:List PV} {ps:Array Tmp} {asg body:Code} {J:PV→Store→Prop}
  (ho:S.obs[o]?=some (.lp ver l (r,L) tm)) (hr:LoopR ps asg body r) (hst:r.state = .ready) (hps:ps.size=xs.length)
  (hw:W P T asg (XThen (fun e1 S1=>∃ ver1 r1 L1 tm1,S1.obs[o]?=some (.lp ver1 l (r1,L1) tm1)∧r1.state = .ready ∧
   W P T body (ybh o l J) e1 ⟨S1.obs.set o (.lp ver1 l ({ r1 with state := .busy,pending:=r1.pending },L1) tm1),S1.tick⟩) (fun _ _ _=>False)) (Env.puts (ps.toList.zip xs) (Env.of L tm)) S) :
  Ey P l xs S J:=by
 refine ⟨fun F G w cargs hS hi hl hv=>?_⟩
 subst hS
 obtain ⟨lc,hG⟩:=zfa ho
 obtain ⟨h0,t,h1,⟨h2,h2'⟩,h3⟩:=hi.lp o ver l (r,L) tm lc hG
 simp only at h1 h2 h2' h3
 refine ⟨_,_,_,_,run_yield h1 (by simp only; rw [hr.hps]; omega),fun R nn=>?_⟩
 refine roundIn_of_wpIn trivial ?_
 simp only
 have hE:zeu w.heap F G (Env.puts (ps.toList.zip xs) (Env.of L tm)) ⟨(ps.toList.zip cargs.toList).foldl (fun t (q:Nat × Value)=>t.setIfInBounds q.1 q.2) t,[]⟩ :=
  zub _ _ _ _ _ (zsm L tm h2'.symm fun i j v q1 q2=>h3 i v j q2 q1) (fun p hp=>Nat.lt_of_lt_of_eq (hr.dps p hp) h2.symm) (by simpa using hl) (fun i p c q1 q2=>hv i p c q1 (by simpa using q2))
 have hsz:((ps.toList.zip cargs.toList).foldl (fun t (q:Nat × Value)=>t.setIfInBounds q.1 q.2) t).size=r.tmps.size:=by rw [z0u]; exact h2
 have hfold:(r.params.zip cargs).foldl (fun tmps (x:Nat × Value)=>tmps.setIfInBounds x.1 x.2) t=(ps.toList.zip cargs.toList).foldl (fun t (q:Nat × Value)=>t.setIfInBounds q.1 q.2) t:=by
  rw [hr.hps,← Array.foldl_toList,Array.toList_zip]
 show (r.assign).wpIn (fnc (some l)) _ P _ { tmps:=(r.params.zip cargs).foldl (fun tmps (x:Nat × Value)=>tmps.setIfInBounds x.1 x.2) t,defers:=[] } w
 rw [hfold,hr.hasg,hr.hbody]
 refine wpIn_mono (hw.run hT hm F G w r.tmps.size F G _ w rfl hi hE (Next.refl w) hsz Marks.nil hr.dasg) ?_
 rintro x a1 w1 ⟨e1,F1,G1,k1,k2,k3,k4,k5,k6⟩
 cases x with
 | normal =>
  obtain ⟨ver1,r1,L1,tm1,g1,g2,g3⟩:=k1
  obtain ⟨lc1,hG1⟩:=zfa g1
  obtain ⟨t1,q1,q2,q3⟩:=z4l k2 hG1 .busy r1.pending
  refine ⟨_,run_beginRound q1 g2,?_⟩
  refine wpIn_mono (g3.run hT hm F G w r.tmps.size F1 _ a1 _ (zmz G1 o _ lc1 G1.tick) q2 (k3.next k2 q3) (k4.trans q3) k5 (k6.next k2 q3) hr.dbody) ?_
  have fin:∀ {F2:Nat→Prop} {G2:GSt} {w2:World} {v:Bool} {s:LoopState} {pe:Option Code} {ver2:Nat} {r2:Loop} {L2:List Nat} {tm2:List PV} {k:Nat},Inv F2 G2 w2→Next F G w F2 G2 w2 →
    s=(if pe.isNone then .ready else .done)→v=pe.isNone→G2.er.obs[o]?=some (.lp ver2 l (r2,L2) tm2) →
    J (.bool v) (Store.take ⟨G2.er.obs.set o (.lp ver2 l ({ r2 with state:=s,pending:=pe },L2) tm2),G2.er.tick⟩ k) →
    ∃ cv w3,(Instr.endRound l pe).run P w2 = .ok cv w3∧∃ v cv' F' G',Ending.returned cv = .returned cv'∧J v G'.er∧Inv F' G' w3∧Next F G w F' G' w3∧VR w3.heap F' G' v cv':=by
   intro F2 G2 w2 v s pe ver2 r2 L2 tm2 k i2 n2 hs hv2 hg hJ
   obtain ⟨lc2,hG2⟩:=zfa hg
   obtain ⟨t2,p1,p2,p3⟩:=z4l i2 hG2 s pe
   obtain ⟨i3,n3⟩:=zfe p2 k
   have hrun:=run_endRound (P:=P) pe p1
   rw [← hs]at hrun
   refine ⟨_,_,hrun,.bool v,_,F2,GSt.take ⟨G2.obs.set o (.lp ver2 l ({ r2 with state:=s,pending:=pe },L2) tm2,lc2),G2.tick⟩ k,rfl,?_,i3,(n2.trans p3).trans n3,by rw [← hv2]; exact VR.bool_of⟩
   rw [zj5,zmz]; exact hJ
  rintro x a2 w2 ⟨e2,F2,G2,j1,j2,j3,j4,j5,j6⟩
  cases x with
  | normal=>obtain ⟨ver2,r2,L2,tm2,k,f1,f2⟩:=j1; exact fin j2 j4 rfl rfl f1 f2
  | ret=>obtain ⟨ver2,r2,L2,tm2,k,f1,f2⟩:=j1; exact fin j2 j4 rfl rfl f1 f2
  | exit id=>obtain ⟨ver2,r2,L2,tm2,k,f1,f2⟩:=j1; exact fin j2 j4 rfl rfl f1 f2
  | _=>exact j1.elim
 | _=>exact k1.elim
structure V (P:Program) (T:Tab) (c:Code) (Q:Exit→Env→Store→Prop) (e:Env) (S:Store):Prop where
 run:zb1 P T→P.follows .mixedOrders=true→∀ (F0:Nat→Prop) (G0:GSt) (w0:World) (N:Nat) (F:Nat→Prop) (G:GSt) (a:Act) (w:World),G.er=S→Inv F G w→zeu w.heap F G e a →
  Next F0 G0 w0 F G w→a.tmps.size=N→Marks w0 a.defers w→zgb N c=true→c.wpIn (fnc none) 0 P (Sto F0 G0 w0 N Q) a w
theorem W.v (h:W P T c Q e S):V P T c Q e S:=⟨fun h1 h2 F0 G0 w0 N F G a w h3 h4 h5 h6 h7 h8 h9=>h.run h1 h2 F0 G0 w0 N F G a w h3 h4 h5 h6 h7 h8 h9⟩
theorem V.mono (h:V P T c Q e S) (k:∀ x e S,Q x e S→Q' x e S):V P T c Q' e S :=
 ⟨fun h1 h2 F0 G0 w0 N F G a w h3 h4 h5 h6 h7 h8 h9=>wpIn_mono (h.run h1 h2 F0 G0 w0 N F G a w h3 h4 h5 h6 h7 h8 h9) fun _ _ _=>Sto.mono k⟩
theorem V.seq (h:V P T a (XThen (V P T b Q) Q) e S):V P T (.seq a b) Q e S:=by
 refine ⟨?_⟩
 intro hT hm F0 G0 w0 N F G a w h3 h4 h5 h6 h7 h8 h9
 simp only[zgb,qB]at h9
 refine wpIn_seq (wpIn_mono (h.run hT hm F0 G0 w0 N F G a w h3 h4 h5 h6 h7 h8 h9.1) ?_)
 rintro x a' w' ⟨e',F',G',k1,k2,k3,k4,k5,k6⟩
 cases x with
 | normal=>exact k1.run hT hm F0 G0 w0 N F' G' a' w' rfl k2 k3 k4 k5 k6 h9.2
 | _=>exact ⟨e',F',G',k1,k2,k3,k4,k5,k6⟩
theorem V.seq_region {id:Nat} {l:List Oper} (h:∀ K:Env→Store→Prop,(∀ e S,V P T b Q e S→K e S)→zbu false P T (dsts l) l e S K):V P T (.seq (.region id l.toArray false) b) Q e S :=
 V.seq (W.v (W.k fun K hK=>h K hK))
theorem V.seq_draw {id:Nat} {l:List Oper} (hc:zgy l.toArray (List.range' 0 l.length) (zjd l 0) []=true) (h:∀ K:Env→Store→Prop,(∀ e S,V P T b Q e S→K e S)→zbu true P T (dsts l) l e S K) :
  V P T (.seq (.region id l.toArray true) b) Q e S :=
 V.seq (W.v (W.draw_k hc fun K hK=>h K hK))
theorem V.seq_drawE {id:Nat} {l:List Oper} (hc:zgy l.toArray (List.range' 0 l.length) (zcg l 0) []=true) (h:∀ K:Env→Store→Prop,(∀ e S,V P T b Q e S→K e S)→zbu false P T (dsts l) l e S K) :
  V P T (.seq (.region id l.toArray true) b) Q e S :=
 V.seq (W.v (W.drawE_k hc fun K hK=>h K hK))
theorem V.cond {x:Operand} {t:Bool} (hc:e.ev x = .bool t) (h1:t=true→V P T a Q e S) (h2:t=false→V P T b Q e S):V P T (.cond x a b) Q e S:=by
 refine ⟨?_⟩
 intro hT hm F0 G0 w0 N F G a w h3 h4 h5 h6 h7 h8 h9
 simp only[zgb,qB]at h9
 have:=h5.ev x
 rw [hc]at this
 exact wpIn_cond_split this.bool (fun ht=>(h1 ht).run hT hm F0 G0 w0 N F G a w h3 h4 h5 h6 h7 h8 h9.1) (fun ht=>(h2 ht).run hT hm F0 G0 w0 N F G a w h3 h4 h5 h6 h7 h8 h9.2)
theorem V.block {id:Nat} (h:V P T c (XBlock id Q) e S):V P T (.block id c) Q e S:=by
 refine ⟨?_⟩
 intro hT hm F0 G0 w0 N F G a w h3 h4 h5 h6 h7 h8 h9
 refine wpIn_block (wpIn_mono (h.run hT hm F0 G0 w0 N F G a w h3 h4 h5 h6 h7 h8 h9) ?_)
 rintro x a' w' ⟨e',F',G',k1,k2⟩
 cases x with
 | exit i =>
  simp only[Exit.inBlock]
  simp only[XBlock]at k1
  split
  ·rename_i hi; rw [if_pos hi]at k1; exact ⟨e',F',G',k1,k2⟩
  rename_i hi; rw [if_neg hi]at k1; exact ⟨e',F',G',k1,k2⟩
 | _=>exact ⟨e',F',G',k1,k2⟩
def z93:Option Code→Option Exit
 | none=>some .normal
 | some .ret=>some .ret
 | some (.exit id)=>some (.exit id)
 | _=>none
theorem zwm (hi:Inv F G w) (ob:Obj):Inv F G (w.alloc ob)∧Next F G w F G (w.alloc ob):=by
 have hkeep:∀ b,b<w.heap.size→(w.alloc ob).heap[b]?=w.heap[b]?:=fun b hb=>Go.RowKit.Below.heap_alloc w ob b hb
 have hn:Next F G w F G (w.alloc ob) :=
  ⟨rfl,rfl,rfl,by simp,fun _ h=>h,fun _ h => .inl h,fun o x h => .inr ⟨o,x,h,rfl⟩,qR _,fun b hb _=>hkeep b hb,fun _ ob' _ h _=>⟨ob',h,rfl,Ob.like.refl _⟩,qR _⟩
 exact ⟨zjf (fun b hb=>Nat.lt_of_lt_of_le (hi.fr b hb) hn.size) hi.ver hi.nF (fun o ob' l h=>(hi.holds h).next hi hn (hkeep _ (hi.blk_lt h))) hi.inj,hn⟩
theorem VR.fn_at {f:FuncId} {cap:List PV} {v:Value} (h:VR w.heap F G (.fn f cap) v):∃ vs:Array Value,v = .func (.func f) #[] vs∧cap.length=vs.size∧∀ (i:Nat) p c,cap[i]?=some p→vs[i]?=some c→VR w.heap F G p c:=by
 cases h with
 | imm _ _ h=>cases h with | fn _ _ vs h1 h2=>exact ⟨vs,rfl,h1,fun i p c q1 q2 => .imm _ _ (h2 i p c q1 q2)⟩
 | fn _ _ vs h1 h2=>exact ⟨vs,rfl,h1,h2⟩
theorem V.rangeFunc {g:Operand} {ps:Array Tmp} {asg body:Code} (L:List Nat) {f:FuncId} {cap:List PV} (hg:e.ev g = .fn f cap)
  (h:∀ (l:Nat) (r:Loop),LoopR ps asg body r→r.state = .ready→r.pending=none→∃ J,Ev P f (.yl l::cap) ⟨S.obs++[.lp S.tick l (r,L) (L.map e)],S.tick+1⟩ J ∧
   ∀ v S',J v S'→∃ ver r' L' tm x,S'.obs[S.obs.length]?=some (.lp ver l (r',L') tm)∧r'.state ≠ .busy∧z93 r'.pending=some x∧Q x e (S'.take S.obs.length)) :
  V P T (.rangeFunc g ps asg body) Q e S:=by
 refine ⟨?_⟩
 intro hT hm F0 G0 w0 N F G a w h3 h4 h5 h6 h7 h8 h9
 subst h3
 simp only[zgb,qB,List.all_eq_true,decide_eq_true_eq]at h9
 obtain ⟨⟨d1,d2⟩,d3⟩:=h9
 refine wpIn_rangeFunc ?_
 intro fn _
 obtain ⟨rec,hrec⟩:∃ rec:Loop,rec={ state := .ready,pending:=none,fn,tmps:=a.tmps,params:=ps,assign:=asg,body,defers:=w.heap.size }:=⟨_,rfl⟩
 obtain ⟨i1,n1⟩:=zwm h4 (.deferred (some []))
 obtain ⟨W0,hW0⟩:∃ W0,w.alloc (.deferred (some []))=W0:=⟨_,rfl⟩
 have hsz:W0.heap.size=w.heap.size+1:=by rw [← hW0]; simp
 rw [hW0]at i1 n1
 have hdef:W0.heap[w.heap.size]?=some (.deferred (some [])):=by rw [← hW0]; exact World.alloc_heap_new w _
 obtain ⟨W1,hW1⟩:∃ W1,W0.alloc (.loop rec)=W1:=⟨_,rfl⟩
 have hL1:W1.heap[W0.heap.size]?=some (.loop rec):=by rw [← hW1]; exact World.alloc_heap_new W0 _
 have hhold:Holds W0.heap F G W1.heap (.lp G.tick W0.heap.size (rec,L) (L.map e)) ⟨W0.heap.size,0⟩:=by
  refine ⟨rfl,a.tmps,by rw [hL1,hrec],⟨by rw [hrec],by simp⟩,fun i p j q1 q2=>?_⟩
  simp only at q2
  rw [List.getElem?_map,q2]at q1
  cases q1
  exact (h5 j).next h4 n1
 obtain ⟨i2,n2⟩:=zss i1 (.lp G.tick W0.heap.size (rec,L) (L.map e)) 0 W1 W1.drawn (by rw [← hW1]; rfl) (by rw [← hW1]; exact qR _) ⟨_,by rw [← hW1]; rfl⟩ rfl hhold
 have n12:=n1.trans n2
 have hgv:=h5.ev g
 rw [hg]at hgv
 obtain ⟨vs,hge,hvl,hvr⟩:=hgv.fn_at
 obtain ⟨J,hev,hJ⟩:=h W0.heap.size rec (by rw [hrec]; exact ⟨rfl,rfl,rfl,fun t ht=>by rw [h7]; exact d1 t ht,by rw [h7]; exact d2,by rw [h7]; exact d3⟩) (by rw [hrec]) (by rw [hrec])
 refine ⟨w.heap.size+1,[{ target := .collected w.heap.size,args := #[] }],W1,{ target := .fn (.func f) vs,args := #[.func (.yield (w.heap.size+1)) #[] #[]] },W1,f,
  #[.func (.yield (w.heap.size+1)) #[] #[]]++vs,W1,?_,?_,fun _ _=>trivial,?_,fun q=>(by simp [Fence.wide]at q),?_⟩
 ·rw [← hW1,← hW0,hrec]; exact run_enterLoop_outer _ _ _ _ _
 ·simp only[resolve,hge]
  simp [go_sem]
 ·simp only[invoke]; exact hev.ent _ _
 ·refine callsIn_wide.2 ((hev.run F _ W1 _ (zwy G _ _) i2 (by simp; omega) ?_).mono ?_)
  ·intro i p c q1 q2
   cases i with
   | zero=>rw [Array.getElem?_append_left (by simp)]at q2; simp at q1 q2; subst q1; subst q2; rw [hsz]; exact .imm _ _ (.yl _)
   | succ i =>
    simp only[List.getElem?_cons_succ]at q1
    rw [Array.getElem?_append_right (by simp)]at q2
    simp at q2
    exact (hvr i p c q1 q2).next h4 n12
  ·rintro en w2 ⟨v,cv,F2,G2,rfl,j1,j2,j3,j4⟩
   obtain ⟨ver,r',L',tm,x,g1,g2,g3,g4⟩:=hJ v _ j1
   obtain ⟨lc,hG2⟩:=zfa g1
   rw [show (GSt.er G).obs.length=G.obs.length by simp [GSt.er]]at hG2 g4
   obtain ⟨t,p1,p2,p3⟩:=z4l j2 hG2 .exhausted r'.pending
   obtain ⟨i3,n3⟩:=zfe p2 G.obs.length
   rw [hsz]at p1
   refine ⟨_,_,run_endLoop p1 g2,?_⟩
   have hnx:=((h6.trans n12).trans (j3.trans p3)).trans n3
   have hmk:Marks w0 ([{ target := .collected w.heap.size,args := #[] }]++a.defers) (w2.putObj W0.heap.size (.loop { r' with tmps:=t,state := .exhausted,pending:=r'.pending })):=by
    have m1:=h8.next h4 n12
    have hd1:W1.heap[w.heap.size]?=some (.deferred (some [])):=(by rw [← hW1]; exact (Go.RowKit.Below.heap_alloc W0 _ _ (by omega)).trans hdef)
    have m2:Marks w0 ([{ target := .collected w.heap.size,args := #[] }]++a.defers) W1:=by
     obtain ⟨bs,b1,b2,b3⟩:=h8
     obtain ⟨bs',c1,c2,c3⟩:=m1
     have hb:bs'=bs:=by
      rw [b1]at c1
      have:=congrArg (List.map fun d:Deferred=>(match d.target with | .collected b=>b | _=>0)) c1
      simpa [List.map_map,Function.comp_def] using this.symm
     subst hb
     refine ⟨w.heap.size::bs',by rw [b1]; simp,?_,?_⟩
     ·refine List.nodup_cons.2 ⟨fun hm=>?_,b2⟩
      have:=(Array.getElem?_eq_some_iff.1 (b3 _ hm).2).1
      omega
     intro b hb
     rcases List.mem_cons.1 hb with rfl | hb
     ·exact ⟨h6.size,hd1⟩
     exact c3 b hb
    exact (m2.next i2 j3).next j2 p3
   have henv:zeu (w2.putObj W0.heap.size (.loop { r' with tmps:=t,state := .exhausted,pending:=r'.pending })).heap F2 (GSt.take ⟨G2.obs.set G.obs.length (.lp ver W0.heap.size ({ r' with state := .exhausted,pending:=r'.pending },L') tm,lc),G2.tick⟩ G.obs.length) e { a with defers:=[{ target := .collected w.heap.size,args := #[] }]++a.defers } :=
    fun k=>((((h5 k).next h4 n12).next i2 j3).next j2 p3).next p2 n3
   have hst:Sto F0 G0 w0 N Q x { a with defers:=[{ target := .collected w.heap.size,args := #[] }]++a.defers } (w2.putObj W0.heap.size (.loop { r' with tmps:=t,state := .exhausted,pending:=r'.pending })):=by
    refine ⟨e,F2,_,?_,i3,henv,hnx,h7,hmk⟩
    have:(GSt.take ⟨G2.obs.set G.obs.length (.lp ver W0.heap.size ({ r' with state := .exhausted,pending:=r'.pending },L') tm,lc),G2.tick⟩ G.obs.length).er=G2.er.take G.obs.length:=by
     simp [GSt.take,GSt.er,Store.take,List.take_set_of_le]
    rw [this]; exact g4
   rw [hsz]at hst
   cases hpe:r'.pending with
   | none=>rw [hpe]at g3 hst ; simp only[z93]at g3; cases g3; exact hst
   | some c =>
    rw [hpe]at g3 hst
    cases c <;> simp only[z93]at g3 <;> cases g3
    ·exact wpIn_exit hst
    exact wpIn_ret hst
theorem Fn.callsV {f:FuncId} {fn:Func} (h:Fn P f fn c) (hT:zb1 P T) (hm:P.follows .mixedOrders=true) {args:List PV} {K:PV→Store→Prop} (hn:args.length≤fn.ntmps)
  (hw:V P T c (zhi T fn.results.toList K) (zad args) S) {F:Nat→Prop} {G:GSt} {w:World} {cargs:Array Value} (hS:G.er=S) (hi:Inv F G w) (hl:args.length=cargs.size)
  (hv:∀ (i:Nat) p c,args[i]?=some p→cargs[i]?=some c→VR w.heap F G p c) :
  Calls P f cargs w fun e w'=>∃ v cv F' G',e = .returned cv∧K v G'.er∧Inv F' G' w'∧Next F G w F' G' w'∧VR w'.heap F' G' v cv :=
 h.calls_of hT hn hi hl (hw.run hT hm F G w fn.ntmps F G _ w hS hi (z1w hl hv _ _) (Next.refl w) (by simp; omega) Marks.nil h.dst)
theorem Ev.ofV {f:FuncId} {fn:Func} (h:Fn P f fn c) (hT:zb1 P T) (hm:P.follows .mixedOrders=true) {args:List PV} {J:PV→Store→Prop} (hn:args.length≤fn.ntmps)
  (hw:V P T c (zhi T fn.results.toList fun v S1=>∃ k,J v (S1.take k)) (zad args) S):Ev P f args S J:=by
 refine ⟨h.ent,fun F G w cargs hS hi hl hv=>(h.callsV hT hm hn hw hS hi hl hv).mono ?_⟩
 rintro en w' ⟨v',cv,F',G',k1,⟨k,k2⟩,k3,k4,k5⟩
 obtain ⟨i1,i2⟩:=zfe k3 k
 exact ⟨v',cv,F',G'.take k,k1,(zj5 G' k).symm ▸ k2,i1,k4.trans i2,k5.next k3 i2⟩
theorem PC.ofV {f:FuncId} {fn:Func} (h:Fn P f fn c) (hT:zb1 P T) (hm:P.follows .mixedOrders=true) {args:List PV} {r:PV} {fr:Bool} (hn:args.length≤fn.ntmps)
  (hw:V P T c (zhi T fn.results.toList fun v S=>reify S (!fr) 10 v=some r) (zad args) ⟨[],0⟩):PC P f args r fr:=by
 refine ⟨h.ent,fun F w cargs hF hl hv=>?_⟩
 have hi:Inv F ⟨[],0⟩ w:=⟨hF,by simp,by simp,by simp,by simp,by simp,by simp⟩
 refine (h.callsV hT hm hn hw rfl hi hl fun i p c q1 q2 => .imm _ _ (hv i p c q1 q2)).mono ?_
 rintro en w' ⟨v',cv,F',G',rfl,k2,k3,k4,k5⟩
 refine ⟨cv,rfl,⟨⟨k4.os,k4.tape,k4.output,k4.size,fun b hb=>k4.keep b hb (by simp)⟩,k4.drawn⟩,(zdp k3 k5 k2).mono ?_ (fun _ _=>rfl)⟩
 rintro b (⟨h1,h2⟩ | ⟨o,x,hx,rfl⟩)
 ·rcases k4.fnew b h2 with h3 | h3 | ⟨o,x,hx,_⟩
  ·exact .inr ⟨by simpa using h1,h3⟩
  ·exact .inl ⟨h3,k3.fr b h2⟩
  simp at hx
 rcases k4.gnew o x hx with h3 | ⟨o',y,hy,_⟩
 ·exact .inl ⟨h3,k3.blk_lt hx⟩
 simp at hy
end
end
end Fw
end Go.Proofs.YtjobkanbijpfgaaGreat
