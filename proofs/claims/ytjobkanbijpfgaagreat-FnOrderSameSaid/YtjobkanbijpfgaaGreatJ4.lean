/- Parts of the framework and of the proof: Plans that are cut, in plain words; Plans cut in two, gone through; Drawing plans, gone through; Drawing plans, gone through, continued; Drawing needs, gone through; Cut trees: parts of plans, their first cuts, and the tree of all; Parts of plans as texts: the specification's cut and its parts; Parts of plans in the program: the rooms of a part, its lines, its cut; Cut trees, gone down; what is told along them; Where rooms begin and how far they may be moved: the program's lists are the specification's; Shapes in plain words: the program's least shapes are the specification's; Sizes in plain words: areas, places, slacks, longest rows; What the laws of sizes ask, of plans in plain words; Grids whose cells are alike are numbered alike; the text of a numbered grid is named as it should be; Orders of plans that are made of other plans: rows and columns exchanged, turned, seen from behind, made wide or tight; Rooms put in a row by how many are ahead of them; The two orders are orders of all rooms; the places of the second order in the first one; Longest rows of rooms, as the specification finds them, in plain words; Longest growing parts of the permutation of a plan are longest rows of its rooms; Plans that are made of other plans: their orders, their permutations and their least sizes; Upright cuts are where the permutation falls apart; Cuts and orders: what lies on the two sides of a cut; widths along cuts are least widths; Plans that are cuttable, by the orders of their rooms; so by their permutations; Cuts in the specification, gone through; Texts along cuts and widths along cuts in the specification, gone through; Parts of plans in the program: rooms, lines, gone through; The framework, part ha: loops over functions: yield's contract out of the body's walk, and the statement; The framework, part hb: a region in which two variables are made, either of them ahead of the other. -/
import Derived.Test.YtjobkanbijpfgaaGreatJ3
import Derived.Test.YtjobkanbijpfgaaGreatJ2
import Derived.Test.YtjobkanbijpfgaaGreatJ1
set_option linter.all false
namespace Go.Proofs.YtjobkanbijpfgaaGreat
namespace Fw
open Go
open Nat renaming reduceEqDiff → qE, reduceLeDiff → qL, reduceAdd → qA, reduceMul → qM, le_refl → qR
open List renaming append_nil → qN, mapM_append → qP, mapM_cons → qC, mapM_map → qU, range_succ → qS, take_of_length_le → qT
open Bool renaming and_eq_true → qB, false_eq_true → qF
open Option renaming map_some → qO, map_eq_some_iff → qI
open Int renaming reduceToNat → qZ
section
def ziy (row:Txt) (l:Nat) (c:UInt8) (k:Nat):Txt:=(List.range row.length).map fun x=>if l≤x∧x<k then c else row.getD x 0
theorem zj9 {row:Txt} {l k:Nat} {c:UInt8}:(ziy row l c k).length=row.length:=by simp [ziy]
theorem z0a {row:Txt} {l:Nat} {c:UInt8}:ziy row l c l=row:=by
 apply List.ext_getElem?
 intro j
 unfold ziy
 rw [List.getElem?_map]
 by_cases hj:j<row.length
 ·rw [List.getElem?_range hj,qO,if_neg (by omega),List.getD_eq_getElem?_getD,List.getElem?_eq_getElem hj]; rfl
 rw [List.getElem?_eq_none (by simpa using hj),List.getElem?_eq_none (by omega)]; rfl
theorem zz9 {row:Txt} {l k:Nat} {c:UInt8} (h1:l≤k) (h2:k<row.length):(ziy row l c k).set k c=ziy row l c (k+1):=by
 apply List.ext_getElem?
 intro j
 rw [List.getElem?_set,zj9]
 unfold ziy
 rw [List.getElem?_map,List.getElem?_map]
 by_cases hj:j<row.length
 ·rw [List.getElem?_range hj,qO,qO]
  by_cases e:k=j
  ·subst e; rw [if_pos rfl,if_pos h2,if_pos (by omega)]
  rw [if_neg e]
  by_cases q:l≤j∧j<k
  ·rw [if_pos q,if_pos (by omega)]
  rw [if_neg q,if_neg (by omega)]
 rw [if_neg (by omega),List.getElem?_eq_none (by simpa using hj)]; rfl
def zji (p:List Txt) (t l w:Nat) (c:UInt8) (i:Nat):List Txt:=(List.range p.length).map fun j=>if t≤j∧j<i then ziy (p.getD j []) l c (l+w) else p.getD j []
theorem zg9 {p:List Txt} {t l w i:Nat} {c:UInt8}:(zji p t l w c i).length=p.length:=by simp [zji]
theorem ya2 {p:List Txt} {t l w i:Nat} {c:UInt8} {row:Txt} (h:p[i]?=some row):(zji p t l w c i)[i]?=some row:=by
 have hi:=zb7 h
 unfold zji
 rw [List.getElem?_map,List.getElem?_range hi,qO,if_neg (by omega),List.getD_eq_getElem?_getD,h]; rfl
theorem z4f {p:List Txt} {t l w:Nat} {c:UInt8}:zji p t l w c t=p:=by
 apply List.ext_getElem?
 intro j
 unfold zji
 rw [List.getElem?_map]
 by_cases hj:j<p.length
 ·rw [List.getElem?_range hj,qO,if_neg (by omega),List.getD_eq_getElem?_getD,List.getElem?_eq_getElem hj]; rfl
 rw [List.getElem?_eq_none (by simpa using hj),List.getElem?_eq_none (by omega)]; rfl
theorem z4e {p:List Txt} {t l w i:Nat} {c:UInt8} {row:Txt} (h1:t≤i) (h:p[i]?=some row):(zji p t l w c i).set i (ziy row l c (l+w))=zji p t l w c (i+1):=by
 have hi:=zb7 h
 apply List.ext_getElem?
 intro j
 rw [List.getElem?_set,zg9]
 unfold zji
 rw [List.getElem?_map,List.getElem?_map]
 by_cases hj:j<p.length
 ·rw [List.getElem?_range hj,qO,qO]
  by_cases e:i=j
  ·subst e; rw [if_pos rfl,if_pos hi,if_pos (by omega),List.getD_eq_getElem?_getD,h]; rfl
  rw [if_neg e]
  by_cases q:t≤j∧j<i
  ·rw [if_pos q,if_pos (by omega)]
  rw [if_neg q,if_neg (by omega)]
 rw [if_neg (by omega),List.getElem?_eq_none (by simpa using hj)]; rfl
theorem zu1 {p:List Txt} (hs:Sm p) {t l w i:Nat} {c:UInt8}:Sm (zji p t l w c i):=by
 refine ⟨by rw [zg9]; exact hs.1,fun r hr=>?_⟩
 obtain ⟨j,hj,rfl⟩:=List.mem_map.1 hr
 have hjl:j<p.length:=by simpa using hj
 have hm:p.getD j []∈p:=by
  rw [List.getD_eq_getElem?_getD,List.getElem?_eq_getElem hjl]; exact List.getElem_mem hjl
 have:=hs.2 _ hm
 split
 ·rw [zj9]; exact this
 exact this
def zhl (p:List Txt):List Txt × Bool:=if zc5 p && zbq (names p) then (names p,true) else ([],false)
theorem z64 {p:List Txt} (hg:zc5 p=true):(names p).length=p.length:=by
 rw [znm hg]
 have hr:(gP p).length=p.length:=by rw [z3p]; exact zc4 _
 unfold zf3
 rw [List.length_map,hr]
theorem z1a {p:List Txt} (h:(zhl p).2=true):zbq (zhl p).1=true∧(zhl p).1.length=p.length:=by
 unfold zhl at h ⊢
 split at h
 ·rename_i hq
  rw [if_pos hq]
  simp only[qB]at hq
  exact ⟨hq.2,z64 hq.1⟩
 cases h
def zfv (p:List Txt) (room:Int) (s:Txt) (k:Int):List Txt × Bool :=
 if zbq p && (decide (0≤room) && decide (room≤za2 p - 1)) then
  if (s == [104]) && (decide (1≤k) && decide (k≤zea p room - 1)) then zhl (zji p ((zg4 p room).top+k).toNat (zg4 p room).left.toNat (zd3 p room).toNat 122 ((zg4 p room).top+k+(zea p room - k)).toNat)
  else if (s == [118]) && (decide (1≤k) && decide (k≤zd3 p room - 1)) then zhl (zji p (zg4 p room).top.toNat ((zg4 p room).left+k).toNat (zd3 p room - k).toNat 122 ((zg4 p room).top+zea p room).toNat)
  else ([],false)
 else ([],false)
theorem zyt {p:List Txt} {room k:Int} {s:Txt} (h:(zfv p room s k).2=true):zbq (zfv p room s k).1=true∧(zfv p room s k).1.length=p.length:=by
 unfold zfv at h ⊢
 by_cases h1:(zbq p && (decide (0≤room) && decide (room≤za2 p - 1)))=true
 ·rw [if_pos h1]at h ⊢
  by_cases h2:((s == [104]) && (decide (1≤k) && decide (k≤zea p room - 1)))=true
  ·rw [if_pos h2]at h ⊢
   have:=z1a h
   rw [zg9]at this
   exact this
  rw [if_neg h2]at h ⊢
  by_cases h3:((s == [118]) && (decide (1≤k) && decide (k≤zd3 p room - 1)))=true
  ·rw [if_pos h3]at h ⊢
   have:=z1a h
   rw [zg9]at this
   exact this
  rw [if_neg h3]at h; cases h
 rw [if_neg h1]at h; cases h
section
variable {p:List Txt} {room:Int} {s:Txt} {t l h w k:Nat}
theorem zht {k:Int} (hgv:(zbq p && (decide (0≤room) && decide (room≤za2 p - 1)))=false):zfv p room s k=([],false):=by
 unfold zfv; rw [hgv]; rfl
theorem zgf {k:Int} (h1:((s == [104]) && (decide (1≤k) && decide (k≤zea p room - 1)))=false) (h2:((s == [118]) && (decide (1≤k) && decide (k≤zd3 p room - 1)))=false):zfv p room s k=([],false):=by
 unfold zfv; rw [h1,h2]; split <;> rfl
theorem zhu (hgv:(zbq p && (decide (0≤room) && decide (room≤za2 p - 1)))=true) (e1:(zg4 p room).top=t) (e2:(zg4 p room).left=l) (e3:zea p room=h) (e4:zd3 p room=w)
  (hb:((s == [104]) && (decide (1≤(k:Int)) && decide ((k:Int)≤zea p room - 1)))=true):zfv p room s k=zhl (zji p (t+k) l w 122 (t+k+(h - k))):=by
 have hk:(k:Int)≤h - 1:=by simp only[qB,decide_eq_true_eq,e3]at hb; exact hb.2.2
 unfold zfv
 rw [if_pos hgv,if_pos hb,e1,e2,e3,e4]
 have a1:((t:Int)+(k:Int)).toNat=t+k:=by omega
 have a2:((t:Int)+(k:Int)+((h:Int) - (k:Int))).toNat=t+k+(h - k):=by omega
 rw [a1,a2,Int.toNat_natCast,Int.toNat_natCast]
theorem zhv (hgv:(zbq p && (decide (0≤room) && decide (room≤za2 p - 1)))=true) (e1:(zg4 p room).top=t) (e2:(zg4 p room).left=l) (e3:zea p room=h) (e4:zd3 p room=w)
  (ha:((s == [104]) && (decide (1≤(k:Int)) && decide ((k:Int)≤zea p room - 1)))=false) (hb:((s == [118]) && (decide (1≤(k:Int)) && decide ((k:Int)≤zd3 p room - 1)))=true):zfv p room s k=zhl (zji p t (l+k) (w - k) 122 (t+h)):=by
 have hk:(k:Int)≤w - 1:=by simp only[qB,decide_eq_true_eq,e4]at hb; exact hb.2.2
 unfold zfv
 rw [if_pos hgv,ha,if_neg Bool.false_ne_true,if_pos hb,e1,e2,e3,e4]
 have a1:((l:Int)+(k:Int)).toNat=l+k:=by omega
 have a2:((t:Int)+(h:Int)).toNat=t+h:=by omega
 have a3:((w:Int) - (k:Int)).toNat=w - k:=by omega
 rw [a1,a2,a3,Int.toNat_natCast]
end
theorem yaz {p:List Txt} (hp:zbq p=true) {room:Int} (h0:0≤room) (h1:room≤za2 p - 1):∃ t l h w:Nat,(zg4 p room).top=t∧(zg4 p room).left=l∧zea p room=h∧zd3 p room=w∧1≤h∧1≤w∧t+h≤p.length∧l+w≤(zam p).length:=by
 have hN:=zc7 hp
 have hr:=hN.rooms
 obtain ⟨m,rfl⟩:∃ m:Nat,room=m:=⟨room.toNat,by omega⟩
 have hm:m<(rP p).length:=by omega
 obtain ⟨b,hb,-⟩:=zag hm
 have hi:=zgv p
 obtain ⟨v,hv,-⟩:=zag (show m<(keys p).length by rw [← hi.len]; exact hm)
 obtain ⟨e1,e2,e3,e4⟩:=hN.box hb
 obtain ⟨t,l,h,w,q1,q2,q3,q4,q5,q6,q7,q8,-⟩:=Hull.nat (hi.hull m v b hv hb)
 exact ⟨t,l,h,w,by omega,by omega,by omega,by omega,q5,q6,q7,q8⟩
theorem z8m {p:List Txt} (hp:zbq p=true) {i:Nat} {row:Txt} (h:p[i]?=some row):row.length=(zam p).length:=zdv (zeu hp) h
theorem znq {p:List Txt} (hp:zbq p=true):p.length≤6∧1≤p.length∧∀ row∈p,1≤row.length∧row.length≤6:=by
 have hg:=zeu hp
 have h:=zcj hg
 refine ⟨h.2.1,h.1,fun row hr=>⟨?_,h.2.2 row hr⟩⟩
 obtain ⟨i,hi,rfl⟩:=List.getElem_of_mem hr
 exact zf2 hg (List.getElem?_eq_getElem hi)
end
theorem ygd {l:Txt} {a:Nat} {c:UInt8}:(l.map eB).set a (.int .u8 (c.toNat:Int))=(l.set a c).map eB:=by rw [List.map_set]
theorem zr9 (l:Txt):zgi (l.map eB)=some l:=zk0 l
theorem zfk  : PC Tryz.prog 90 [] (.tup [zaq [],.bool false]) true:=by
 refine PC.of ⟨Tryz.func90,by kernel_rfl,rfl,by kernel_rfl⟩ zar mixed (by show 0≤Tryz.f90.ntmps; decide) ?_
 refine W.r fun K hK=>?_
 simp(disch:=omega)only[↓RU,RV,RH,↓reduceIte,qE,reduceCtorEq,if_pos,↓RS,RG,qA,qM,qL]
 apply hK;clear hK K
 refine W.r fun K hK=>?_
 simp(disch:=omega)only[↓RU,RV,RH,↓reduceIte,qE,reduceCtorEq,if_pos,↓RS,RG,qA,qM,qL,ty5,zac]
 apply hK;clear hK K
 refine W.ret ?_
 refine Br rfl ?_
 exact zid (k:=9) (zcl (k:=8) (n:=0) rfl rfl rfl) rfl
theorem zuk {p:List Txt} (hs:Sm p) {tp lf hg wd:Nat} {c:UInt8} (h1:tp+hg≤p.length) (h2:∀ row∈p,lf+wd≤row.length):PC Tryz.prog 179 [zaq p,.int .i64 tp,.int .i64 lf,.int .i64 hg,.int .i64 wd,eB c] (zaq (zji p tp lf wd c (tp+hg))) true:=by
 obtain ⟨hs1,hs2⟩:=hs
 refine PC.of ⟨Tryz.func179,by kernel_rfl,rfl,by kernel_rfl⟩ zar mixed (by show 6≤Tryz.f179.ntmps; decide) ?_
 refine W.r fun K hK=>?_
 simp(disch:=omega)only[↓RU,RV,RH,↓reduceIte,qE,reduceCtorEq,if_pos,↓RS,RG,qA,qM,qL]
 apply hK;clear hK K
 refine W.r fun K hK=>?_
 simp(disch:=omega)only[↓RU,RV,RH,↓reduceIte,qE,reduceCtorEq,if_pos,↓RS,RG,qA,qM,qL,ty5,zac]
 apply hK;clear hK K
 refine W.seq ?_
 refine W.r fun K hK=>?_
 simp(disch:=omega)only[↓RU,RV,RH,↓reduceIte,qE,reduceCtorEq,if_pos,↓RS,RG,qA,qM,qL]
 apply hK;clear hK K
 refine W.block ?_
 refine W.loop [0,1,2,3,4,5,13,14] (fun n vs S=>∃ j t v:Nat,n=hg - j∧j≤hg∧vs=[zaq p,.int .i64 tp,.int .i64 lf,.int .i64 hg,.int .i64 wd,eB c,.loc 0 v 0 p.length,.int .i64 ((tp+j:Nat):Int)]∧S=⟨[.arr v 9 1 ((zji p tp lf wd c (tp+j)).map .str)],t⟩) hg ?_ ?_
 ·refine ⟨1,0,2,1,rfl,by omega,?_,?_⟩
  ·simp [Env.put,Env.of,zae]
  simp [za3,z4f]
 rintro n vs S - ⟨j,t,v,rfl,h_j,rfl,rfl⟩
 refine W.seq ?_
 refine W.r fun K hK=>?_
 simp(disch:=omega)only[↓RU,RV,RH,↓reduceIte,qE,reduceCtorEq,if_pos,w64,↓RS,RG,qA,qM,qL,zaa]
 apply hK;clear hK K
 refine W.cond rfl (fun h=>?_) (fun h=>?_)
 ·try simp only[RL]at h
  obtain ⟨i,hi⟩:∃ i,tp+j=i:=⟨_,rfl⟩
  simp only[hi]
  obtain ⟨row,hrow0,hrm⟩:=zag (show i<p.length by omega)
  have hrow:=ya2 (t:=tp) (l:=lf) (w:=wd) (c:=c) hrow0
  have hlen:=zg9 (p:=p) (t:=tp) (l:=lf) (w:=wd) (c:=c) (i:=i)
  have hr1:=hs2 row hrm
  have hr2:=h2 row hrm
  refine W.skip ?_
  refine xn ?_
  refine W.seq ?_
  refine W.block ?_
  refine W.seq_thaw (l1:=[_,_,_,_]) (o:=_) (l2:=[_]) rfl fun K hK=>?_
  simp(disch:=omega)only[↓RU,RV,RH,↓reduceIte,qE,reduceCtorEq,if_pos,w64,↓RS,RG,qA,qM,qL,ty5,ty6,zac,zei,hrow,hlen]
  refine ⟨_,_,_,_,_,rfl,rfl,rfl,rfl,rfl,rfl,by omega,?_⟩
  simp(disch:=omega)only[↓RU,RV,RH,↓reduceIte,qE,reduceCtorEq,if_pos,w64,↓RS,RG,qA,qM,qL,ty5,ty6,zac,zei,hrow,hlen]
  apply hK;clear hK K
  refine W.seq ?_
  refine W.r fun K hK=>?_
  simp(disch:=omega)only[↓RU,RV,RH,↓reduceIte,qE,reduceCtorEq,if_pos,↓RS,RG,qA,qM,qL]
  apply hK;clear hK K
  refine W.block ?_
  refine W.loop [0,1,2,3,4,5,13,14,15,16] (fun n vs S=>∃ k t2:Nat,n=wd - k∧k≤wd∧vs=[zaq p,.int .i64 tp,.int .i64 lf,.int .i64 hg,.int .i64 wd,eB c,.loc 0 v 0 p.length,.int .i64 (i:Int),.loc 1 t 0 row.length,.int .i64 ((lf+k:Nat):Int)]∧S=⟨[.arr v 9 1 ((zji p tp lf wd c i).map .str),.arr t 5 1 ((ziy row lf c (lf+k)).map eB)],t2⟩) wd ?_ ?_
  ·refine ⟨2,0,t+1,rfl,by omega,?_,?_⟩
   ·simp [Env.put,Env.of]
   simp [za3,z0a]
  rintro n vs S - ⟨k,t2,rfl,h_k,rfl,rfl⟩
  refine W.seq ?_
  refine W.r fun K hK=>?_
  simp(disch:=omega)only[↓RU,RV,RH,↓reduceIte,qE,reduceCtorEq,if_pos,w64,↓RS,RG,qA,qM,qL,zaa]
  apply hK;clear hK K
  refine W.cond rfl (fun h3=>?_) (fun h3=>?_)
  ·try simp only[RL]at h3
   have hrl:=zj9 (row:=row) (l:=lf) (k:=lf+k) (c:=c)
   refine W.skip ?_
   refine xn ?_
   refine W.seq ?_
   refine W.block ?_
   refine W.k fun K hK=>?_
   simp(disch:=omega)only[↓RU,RV,RH,↓reduceIte,qE,reduceCtorEq,if_pos,↓RS,RG,qA,qM,qL,ty6,zei,hrl,zb0,ygd]
   apply hK;clear hK K
   refine XbN ?_
   refine xn ?_
   refine W.k fun K hK=>?_
   simp(disch:=omega)only[↓RU,RV,RH,↓reduceIte,qE,reduceCtorEq,if_pos,w64,↓RS,RG,qA,qM,qL,zaa]
   apply hK;clear hK K
   refine xn ?_
   refine ⟨wd - (k+1),by omega,2,k+1,t2,rfl,by omega,?_,?_⟩
   ·simp [Env.put,Env.of]; omega
   simp only[za3]; rw [zz9 (by omega) (by omega)]; rfl
  try simp only[RL]at h3
  obtain rfl:k=wd:=by omega
  have hrl:=zj9 (row:=row) (l:=lf) (k:=lf+k) (c:=c)
  have htk:((ziy row lf c (lf+k)).map eB).take row.length=(ziy row lf c (lf+k)).map eB:=qT (by simp [hrl])
  refine W.exit ?_
  refine xe ?_
  refine xe ?_
  refine XBlock.hit ?_
  refine xn ?_
  refine W.k fun K hK=>?_
  simp(disch:=omega)only[↓RU,RV,RH,↓reduceIte,qE,reduceCtorEq,if_pos,w64,↓RS,RG,qA,qM,qL,ty5,ty6,zac,zei,hrl,htk,zr9,hlen,zb0,zrk,zi7,List.length_cons,List.length_nil,qO]
  apply hK;clear hK K
  refine XbN ?_
  refine xn ?_
  refine W.k fun K hK=>?_
  simp(disch:=omega)only[↓RU,RV,RH,↓reduceIte,qE,reduceCtorEq,if_pos,w64,↓RS,RG,qA,qM,qL,zaa]
  apply hK;clear hK K
  refine xn ?_
  refine ⟨hg - (j+1),by omega,1,j+1,t2,v,rfl,by omega,?_,?_⟩
  ·subst hi; simp [Env.put,Env.of]; omega
  subst hi; simp only[za3,List.take_succ_cons,List.take_zero]; rw [z4e (by omega) hrow0]; rfl
 try simp only[RL]at h
 refine W.exit ?_
 refine xe ?_
 refine xe ?_
 refine XBlock.hit ?_
 refine xn ?_
 refine W.r fun K hK=>?_
 simp(disch:=omega)only[↓RU,RV,RH,↓reduceIte,qE,reduceCtorEq,if_pos,↓RS,RG,qA,qM,qL]
 apply hK;clear hK K
 refine W.ret ?_
 refine Br rfl ?_
 obtain rfl:j=hg:=by omega
 exact (zcl (k:=9) rfl (by simp [zg9]) (zj1 _)).trans (by simp [zg9])
theorem zl5 {p:List Txt} (hs:Sm p):PC Tryz.prog 91 [zaq p] (.tup [zaq (zhl p).1,.bool (zhl p).2]) false:=by
 refine PC.of ⟨Tryz.func91,by kernel_rfl,rfl,by kernel_rfl⟩ zar mixed (by show 1≤Tryz.f91.ntmps; decide) ?_
 refine W.r fun K hK=>?_
 simp(disch:=omega)only[↓RU,RV,RH,↓reduceIte,qE,reduceCtorEq,if_pos,↓RS,RG,qA,qM,qL]
 apply hK;clear hK K
 refine W.seq ?_
 refine W.r fun K hK=>?_
 rcases hgg:(zc5 p,zbq (names p)) with ⟨_ | _,_ | _⟩
 ·skip
  simp only[Prod.mk.injEq]at hgg
  obtain ⟨hg1,hg2⟩:=hgg
  simp(disch:=omega)only[↓RU,RV,RH,↓reduceIte,qE,reduceCtorEq,if_pos,qN,↓RS,RG,qA,qM,qL,hg1,hg2]
  refine zad.pc (zgb hs) rfl (.inl rfl) ?_
  simp(disch:=omega)only[↓RU,RV,RH,↓reduceIte,qE,reduceCtorEq,if_pos,qN,↓RS,RG,qA,qM,qL,hg1,hg2]
  apply hK;clear hK K
  refine W.cond rfl (fun h=>?_) (fun h=>?_)
  ·try simp only[RL]at h
   refine W.r fun K hK=>?_
   simp(disch:=omega)only[↓RU,RV,RH,↓reduceIte,qE,reduceCtorEq,if_pos,qN,↓RS,RG,qA,qM,qL]
   refine zad.pc (zfk) rfl (.inl rfl) ?_
   simp(disch:=omega)only[↓RU,RV,RH,↓reduceIte,qE,reduceCtorEq,if_pos,qN,↓RS,RG,qA,qM,qL]
   apply hK;clear hK K
   refine W.ret ?_
   refine XThen.ret ?_
   refine Br rfl ?_
   rw [show zhl p=([],false) by unfold zhl; rw [hg1]; rfl]
   rfl
  try simp only[RL]at h
  exact absurd h (by simp)
 ·skip
  simp only[Prod.mk.injEq]at hgg
  obtain ⟨hg1,hg2⟩:=hgg
  simp(disch:=omega)only[↓RU,RV,RH,↓reduceIte,qE,reduceCtorEq,if_pos,qN,↓RS,RG,qA,qM,qL,hg1,hg2]
  refine zad.pc (zgb hs) rfl (.inl rfl) ?_
  simp(disch:=omega)only[↓RU,RV,RH,↓reduceIte,qE,reduceCtorEq,if_pos,qN,↓RS,RG,qA,qM,qL,hg1,hg2]
  apply hK;clear hK K
  refine W.cond rfl (fun h=>?_) (fun h=>?_)
  ·try simp only[RL]at h
   refine W.r fun K hK=>?_
   simp(disch:=omega)only[↓RU,RV,RH,↓reduceIte,qE,reduceCtorEq,if_pos,qN,↓RS,RG,qA,qM,qL]
   refine zad.pc (zfk) rfl (.inl rfl) ?_
   simp(disch:=omega)only[↓RU,RV,RH,↓reduceIte,qE,reduceCtorEq,if_pos,qN,↓RS,RG,qA,qM,qL]
   apply hK;clear hK K
   refine W.ret ?_
   refine XThen.ret ?_
   refine Br rfl ?_
   rw [show zhl p=([],false) by unfold zhl; rw [hg1]; rfl]
   rfl
  try simp only[RL]at h
  exact absurd h (by simp)
 ·skip
  simp only[Prod.mk.injEq]at hgg
  obtain ⟨hg1,hg2⟩:=hgg
  simp(disch:=omega)only[↓RU,RV,RH,↓reduceIte,qE,reduceCtorEq,if_pos,qN,↓RS,RG,qA,qM,qL,hg1,hg2]
  refine zad.pc (zgb hs) rfl (.inl rfl) ?_
  simp(disch:=omega)only[↓RU,RV,RH,↓reduceIte,qE,reduceCtorEq,if_pos,qN,↓RS,RG,qA,qM,qL,hg1,hg2]
  refine zad.pc (zia hs) rfl (.inl rfl) ?_
  simp(disch:=omega)only[↓RU,RV,RH,↓reduceIte,qE,reduceCtorEq,if_pos,qN,↓RS,RG,qA,qM,qL,hg1,hg2]
  refine zad.pc (zfc hs.names) rfl (.inl rfl) ?_
  simp(disch:=omega)only[↓RU,RV,RH,↓reduceIte,qE,reduceCtorEq,if_pos,qN,↓RS,RG,qA,qM,qL,hg1,hg2]
  apply hK;clear hK K
  refine W.cond rfl (fun h=>?_) (fun h=>?_)
  ·try simp only[RL]at h
   refine W.r fun K hK=>?_
   simp(disch:=omega)only[↓RU,RV,RH,↓reduceIte,qE,reduceCtorEq,if_pos,qN,↓RS,RG,qA,qM,qL]
   refine zad.pc (zfk) rfl (.inl rfl) ?_
   simp(disch:=omega)only[↓RU,RV,RH,↓reduceIte,qE,reduceCtorEq,if_pos,qN,↓RS,RG,qA,qM,qL]
   apply hK;clear hK K
   refine W.ret ?_
   refine XThen.ret ?_
   refine Br rfl ?_
   rw [show zhl p=([],false) by unfold zhl; rw [hg1,hg2]; rfl]
   rfl
  try simp only[RL]at h
  exact absurd h (by simp)
 skip
 simp only[Prod.mk.injEq]at hgg
 obtain ⟨hg1,hg2⟩:=hgg
 simp(disch:=omega)only[↓RU,RV,RH,↓reduceIte,qE,reduceCtorEq,if_pos,qN,↓RS,RG,qA,qM,qL,hg1,hg2]
 refine zad.pc (zgb hs) rfl (.inl rfl) ?_
 simp(disch:=omega)only[↓RU,RV,RH,↓reduceIte,qE,reduceCtorEq,if_pos,qN,↓RS,RG,qA,qM,qL,hg1,hg2]
 refine zad.pc (zia hs) rfl (.inl rfl) ?_
 simp(disch:=omega)only[↓RU,RV,RH,↓reduceIte,qE,reduceCtorEq,if_pos,qN,↓RS,RG,qA,qM,qL,hg1,hg2]
 refine zad.pc (zfc hs.names) rfl (.inl rfl) ?_
 simp(disch:=omega)only[↓RU,RV,RH,↓reduceIte,qE,reduceCtorEq,if_pos,qN,↓RS,RG,qA,qM,qL,hg1,hg2]
 apply hK;clear hK K
 refine W.cond rfl (fun h=>?_) (fun h=>?_)
 ·try simp only[RL]at h
  exact absurd h (by simp)
 try simp only[RL]at h
 refine W.skip ?_
 refine xn ?_
 refine W.r fun K hK=>?_
 simp(disch:=omega)only[↓RU,RV,RH,↓reduceIte,qE,reduceCtorEq,if_pos,qN,↓RS,RG,qA,qM,qL]
 refine zad.pc (zia hs) rfl (.inl rfl) ?_
 simp(disch:=omega)only[↓RU,RV,RH,↓reduceIte,qE,reduceCtorEq,if_pos,qN,↓RS,RG,qA,qM,qL]
 apply hK;clear hK K
 refine W.ret ?_
 refine Br rfl ?_
 rw [show zhl p=(names p,true) by unfold zhl; rw [hg1,hg2]; rfl]
 rfl
theorem zoq {p:List Txt} (hs:Sm p) (room:Int) {s:Txt} (hsl:s.length≤1048576) (k:Int):PC Tryz.prog 165 [zaq p,.int .i64 room,.str s,.int .i64 k] (.tup [zaq (zfv p room s k).1,.bool (zfv p room s k).2]) false:=by
 have hrb:=zdp p
 refine PC.of ⟨Tryz.func165,by kernel_rfl,rfl,by kernel_rfl⟩ zar mixed (by show 4≤Tryz.f165.ntmps; decide) ?_
 refine W.r fun K hK=>?_
 simp(disch:=omega)only[↓RU,RV,RH,↓reduceIte,qE,reduceCtorEq,if_pos,↓RS,RG,qA,qM,qL]
 apply hK;clear hK K
 refine W.seq ?_
 refine W.r fun K hK=>?_
 simp(disch:=omega)only[↓RU,RV,RH,↓reduceIte,qE,reduceCtorEq,if_pos,qN,↓RS,RG,qA,qM,qL]
 refine zad.pc (z3v hs room) rfl (.inl rfl) ?_
 simp(disch:=omega)only[↓RU,RV,RH,↓reduceIte,qE,reduceCtorEq,if_pos,qN,↓RS,RG,qA,qM,qL]
 apply hK;clear hK K
 refine W.cond rfl (fun h0=>?_) (fun h0=>?_)
 ·try simp only[RL]at h0
  have hgv:(zbq p && (decide (0≤room) && decide (room≤za2 p - 1)))=false:=by simpa using h0
  refine W.r fun K hK=>?_
  simp(disch:=omega)only[↓RU,RV,RH,↓reduceIte,qE,reduceCtorEq,if_pos,qN,↓RS,RG,qA,qM,qL]
  refine zad.pc (zfk) rfl (.inl rfl) ?_
  simp(disch:=omega)only[↓RU,RV,RH,↓reduceIte,qE,reduceCtorEq,if_pos,qN,↓RS,RG,qA,qM,qL]
  apply hK;clear hK K
  refine W.ret ?_
  refine XThen.ret ?_
  refine Br rfl ?_
  first | (rw [zht hgv]; rfl) | (rw [zhu hgv e1 e2 e3 e4 hB1]; rfl) | (rw [zhv hgv e1 e2 e3 e4 hB1 hB2]; rfl) | (rw [zgf hB1 hB2]; rfl)
 try simp only[RL]at h0
 have hgv:(zbq p && (decide (0≤room) && decide (room≤za2 p - 1)))=true:=by simpa using h0
 have hgv2:=hgv
 simp only[qB,decide_eq_true_eq]at hgv2
 obtain ⟨hp,hr0,hr1⟩:=hgv2
 obtain ⟨t,l,h,w,e1,e2,e3,e4,q1,q2,q3,q4⟩:=yaz hp hr0 hr1
 obtain ⟨ps1,ps2,ps3⟩:=znq hp
 have hrw:∀ row∈p,row.length=(zam p).length:=fun row hr=>by obtain ⟨i,hi,rfl⟩:=List.getElem_of_mem hr; exact z8m hp (List.getElem?_eq_getElem hi)
 have hw6:(zam p).length≤6:=by obtain ⟨row,hrow,hrm⟩:=zag ps2; rw [← hrw row hrm]; exact (ps3 row hrm).2
 refine W.skip ?_
 refine xn ?_
 refine W.r fun K hK=>?_
 simp(disch:=omega)only[↓RU,RV,RH,↓reduceIte,qE,reduceCtorEq,if_pos,qN,↓RS,RG,qA,qM,qL,e1,e2,e3,e4]
 refine zad.pc (zw1 hs (by omega) room) rfl (.inl rfl) ?_
 simp(disch:=omega)only[↓RU,RV,RH,↓reduceIte,qE,reduceCtorEq,if_pos,qN,↓RS,RG,qA,qM,qL,e1,e2,e3,e4]
 apply hK;clear hK K
 refine W.seq ?_
 refine W.block ?_
 refine W.r fun K hK=>?_
 cases hb1:(s == ([104]:Txt))
 ·skip
  have hB1:((s == [104]) && (decide (1≤k) && decide (k≤zea p room - 1)))=false:=by rw [hb1]; rfl
  simp(disch:=omega)only[↓RU,RV,RH,↓reduceIte,qE,reduceCtorEq,if_pos,w64,qN,↓RS,RG,qA,qM,qL,zaa,zac,hb1,zvy]
  apply hK;clear hK K
  refine W.cond rfl (fun h1=>?_) (fun h1=>?_)
  ·try simp only[RL]at h1
   exact absurd h1 (by simp)
  try simp only[RL]at h1
  refine W.r fun K hK=>?_
  cases hb2:(s == ([118]:Txt))
  ·skip
   have hB2:((s == [118]) && (decide (1≤k) && decide (k≤zd3 p room - 1)))=false:=by rw [hb2]; rfl
   simp(disch:=omega)only[↓RU,RV,RH,↓reduceIte,qE,reduceCtorEq,if_pos,w64,qN,↓RS,RG,qA,qM,qL,zaa,zac,hb2,zvy]
   apply hK;clear hK K
   refine W.cond rfl (fun h2=>?_) (fun h2=>?_)
   ·try simp only[RL]at h2
    exact absurd h2 (by simp)
   try simp only[RL]at h2
   refine W.skip ?_
   refine XbN ?_
   refine xn ?_
   refine W.r fun K hK=>?_
   simp(disch:=omega)only[↓RU,RV,RH,↓reduceIte,qE,reduceCtorEq,if_pos,qN,↓RS,RG,qA,qM,qL]
   refine zad.pc (zfk) rfl (.inl rfl) ?_
   simp(disch:=omega)only[↓RU,RV,RH,↓reduceIte,qE,reduceCtorEq,if_pos,qN,↓RS,RG,qA,qM,qL]
   apply hK;clear hK K
   refine W.ret ?_
   refine Br rfl ?_
   first | (rw [zht hgv]; rfl) | (rw [zhu hgv e1 e2 e3 e4 hB1]; rfl) | (rw [zhv hgv e1 e2 e3 e4 hB1 hB2]; rfl) | (rw [zgf hB1 hB2]; rfl)
  skip
  simp(disch:=omega)only[↓RU,RV,RH,↓reduceIte,qE,reduceCtorEq,if_pos,w64,qN,↓RS,RG,qA,qM,qL,zaa,zac,hb2,zvy]
  refine zad.pc (zk7 _ _ _) rfl (.inl rfl) ?_
  simp(disch:=omega)only[↓RU,RV,RH,↓reduceIte,qE,reduceCtorEq,if_pos,w64,qN,↓RS,RG,qA,qM,qL,zaa,zac,hb2,zvy]
  apply hK;clear hK K
  refine W.cond rfl (fun h2=>?_) (fun h2=>?_)
  ·try simp only[RL]at h2
   have hB2:((s == [118]) && (decide (1≤k) && decide (k≤zd3 p room - 1)))=true:=by rw [hb2,e4]; exact h2
   have hk:=h2
   simp only[qB,decide_eq_true_eq]at hk
   obtain ⟨kn,rfl⟩:∃ kn:Nat,k=kn:=⟨k.toNat,by omega⟩
   refine W.r fun K hK=>?_
   simp(disch:=omega)only[↓RU,RV,RH,↓reduceIte,qE,reduceCtorEq,if_pos,w64,qN,↓RS,RG,qA,qM,qL,zaa,show ((l:Int)+(kn:Int))=((l+kn:Nat):Int) from by omega,show ((w:Int) - (kn:Int))=((w - kn:Nat):Int) from by omega]
   refine zad.pc (zuk hs (tp:=t) (lf:=l+kn) (hg:=h) (wd:=w - kn) (c:=122) (by omega) (fun row hr=>by rw [hrw row hr]; omega)) rfl (.inl rfl) ?_
   simp(disch:=omega)only[↓RU,RV,RH,↓reduceIte,qE,reduceCtorEq,if_pos,w64,qN,↓RS,RG,qA,qM,qL,zaa,show ((l:Int)+(kn:Int))=((l+kn:Nat):Int) from by omega,show ((w:Int) - (kn:Int))=((w - kn:Nat):Int) from by omega]
   refine zad.pc (zl5 (zu1 hs)) rfl (.inr rfl) ?_
   simp(disch:=omega)only[↓RU,RV,RH,↓reduceIte,qE,reduceCtorEq,if_pos,w64,qN,↓RS,RG,qA,qM,qL,zaa,show ((l:Int)+(kn:Int))=((l+kn:Nat):Int) from by omega,show ((w:Int) - (kn:Int))=((w - kn:Nat):Int) from by omega]
   apply hK;clear hK K
   refine W.ret ?_
   refine XBlock.ret ?_
   refine XThen.ret ?_
   refine Br rfl ?_
   first | (rw [zht hgv]; rfl) | (rw [zhu hgv e1 e2 e3 e4 hB1]; rfl) | (rw [zhv hgv e1 e2 e3 e4 hB1 hB2]; rfl) | (rw [zgf hB1 hB2]; rfl)
  try simp only[RL]at h2
  have hB2:((s == [118]) && (decide (1≤k) && decide (k≤zd3 p room - 1)))=false:=by rw [hb2,e4]; exact h2
  refine W.skip ?_
  refine XbN ?_
  refine xn ?_
  refine W.r fun K hK=>?_
  simp(disch:=omega)only[↓RU,RV,RH,↓reduceIte,qE,reduceCtorEq,if_pos,qN,↓RS,RG,qA,qM,qL]
  refine zad.pc (zfk) rfl (.inl rfl) ?_
  simp(disch:=omega)only[↓RU,RV,RH,↓reduceIte,qE,reduceCtorEq,if_pos,qN,↓RS,RG,qA,qM,qL]
  apply hK;clear hK K
  refine W.ret ?_
  refine Br rfl ?_
  first | (rw [zht hgv]; rfl) | (rw [zhu hgv e1 e2 e3 e4 hB1]; rfl) | (rw [zhv hgv e1 e2 e3 e4 hB1 hB2]; rfl) | (rw [zgf hB1 hB2]; rfl)
 skip
 simp(disch:=omega)only[↓RU,RV,RH,↓reduceIte,qE,reduceCtorEq,if_pos,w64,qN,↓RS,RG,qA,qM,qL,zaa,zac,hb1,zvy]
 refine zad.pc (zk7 _ _ _) rfl (.inl rfl) ?_
 simp(disch:=omega)only[↓RU,RV,RH,↓reduceIte,qE,reduceCtorEq,if_pos,w64,qN,↓RS,RG,qA,qM,qL,zaa,zac,hb1,zvy]
 apply hK;clear hK K
 refine W.cond rfl (fun h1=>?_) (fun h1=>?_)
 ·try simp only[RL]at h1
  have hB1:((s == [104]) && (decide (1≤k) && decide (k≤zea p room - 1)))=true:=by rw [hb1,e3]; exact h1
  have hk:=h1
  simp only[qB,decide_eq_true_eq]at hk
  obtain ⟨kn,rfl⟩:∃ kn:Nat,k=kn:=⟨k.toNat,by omega⟩
  refine W.r fun K hK=>?_
  simp(disch:=omega)only[↓RU,RV,RH,↓reduceIte,qE,reduceCtorEq,if_pos,w64,qN,↓RS,RG,qA,qM,qL,zaa,show ((t:Int)+(kn:Int))=((t+kn:Nat):Int) from by omega,show ((h:Int) - (kn:Int))=((h - kn:Nat):Int) from by omega]
  refine zad.pc (zuk hs (tp:=t+kn) (lf:=l) (hg:=h - kn) (wd:=w) (c:=122) (by omega) (fun row hr=>by rw [hrw row hr]; omega)) rfl (.inl rfl) ?_
  simp(disch:=omega)only[↓RU,RV,RH,↓reduceIte,qE,reduceCtorEq,if_pos,w64,qN,↓RS,RG,qA,qM,qL,zaa,show ((t:Int)+(kn:Int))=((t+kn:Nat):Int) from by omega,show ((h:Int) - (kn:Int))=((h - kn:Nat):Int) from by omega]
  refine zad.pc (zl5 (zu1 hs)) rfl (.inr rfl) ?_
  simp(disch:=omega)only[↓RU,RV,RH,↓reduceIte,qE,reduceCtorEq,if_pos,w64,qN,↓RS,RG,qA,qM,qL,zaa,show ((t:Int)+(kn:Int))=((t+kn:Nat):Int) from by omega,show ((h:Int) - (kn:Int))=((h - kn:Nat):Int) from by omega]
  apply hK;clear hK K
  refine W.ret ?_
  refine XBlock.ret ?_
  refine XThen.ret ?_
  refine Br rfl ?_
  first | (rw [zht hgv]; rfl) | (rw [zhu hgv e1 e2 e3 e4 hB1]; rfl) | (rw [zhv hgv e1 e2 e3 e4 hB1 hB2]; rfl) | (rw [zgf hB1 hB2]; rfl)
 try simp only[RL]at h1
 have hB1:((s == [104]) && (decide (1≤k) && decide (k≤zea p room - 1)))=false:=by rw [hb1,e3]; exact h1
 refine W.r fun K hK=>?_
 cases hb2:(s == ([118]:Txt))
 ·skip
  have hB2:((s == [118]) && (decide (1≤k) && decide (k≤zd3 p room - 1)))=false:=by rw [hb2]; rfl
  simp(disch:=omega)only[↓RU,RV,RH,↓reduceIte,qE,reduceCtorEq,if_pos,w64,qN,↓RS,RG,qA,qM,qL,zaa,zac,hb2,zvy]
  apply hK;clear hK K
  refine W.cond rfl (fun h2=>?_) (fun h2=>?_)
  ·try simp only[RL]at h2
   exact absurd h2 (by simp)
  try simp only[RL]at h2
  refine W.skip ?_
  refine XbN ?_
  refine xn ?_
  refine W.r fun K hK=>?_
  simp(disch:=omega)only[↓RU,RV,RH,↓reduceIte,qE,reduceCtorEq,if_pos,qN,↓RS,RG,qA,qM,qL]
  refine zad.pc (zfk) rfl (.inl rfl) ?_
  simp(disch:=omega)only[↓RU,RV,RH,↓reduceIte,qE,reduceCtorEq,if_pos,qN,↓RS,RG,qA,qM,qL]
  apply hK;clear hK K
  refine W.ret ?_
  refine Br rfl ?_
  first | (rw [zht hgv]; rfl) | (rw [zhu hgv e1 e2 e3 e4 hB1]; rfl) | (rw [zhv hgv e1 e2 e3 e4 hB1 hB2]; rfl) | (rw [zgf hB1 hB2]; rfl)
 skip
 simp(disch:=omega)only[↓RU,RV,RH,↓reduceIte,qE,reduceCtorEq,if_pos,w64,qN,↓RS,RG,qA,qM,qL,zaa,zac,hb2,zvy]
 refine zad.pc (zk7 _ _ _) rfl (.inl rfl) ?_
 simp(disch:=omega)only[↓RU,RV,RH,↓reduceIte,qE,reduceCtorEq,if_pos,w64,qN,↓RS,RG,qA,qM,qL,zaa,zac,hb2,zvy]
 apply hK;clear hK K
 refine W.cond rfl (fun h2=>?_) (fun h2=>?_)
 ·try simp only[RL]at h2
  have hB2:((s == [118]) && (decide (1≤k) && decide (k≤zd3 p room - 1)))=true:=by rw [hb2,e4]; exact h2
  have hk:=h2
  simp only[qB,decide_eq_true_eq]at hk
  obtain ⟨kn,rfl⟩:∃ kn:Nat,k=kn:=⟨k.toNat,by omega⟩
  refine W.r fun K hK=>?_
  simp(disch:=omega)only[↓RU,RV,RH,↓reduceIte,qE,reduceCtorEq,if_pos,w64,qN,↓RS,RG,qA,qM,qL,zaa,show ((l:Int)+(kn:Int))=((l+kn:Nat):Int) from by omega,show ((w:Int) - (kn:Int))=((w - kn:Nat):Int) from by omega]
  refine zad.pc (zuk hs (tp:=t) (lf:=l+kn) (hg:=h) (wd:=w - kn) (c:=122) (by omega) (fun row hr=>by rw [hrw row hr]; omega)) rfl (.inl rfl) ?_
  simp(disch:=omega)only[↓RU,RV,RH,↓reduceIte,qE,reduceCtorEq,if_pos,w64,qN,↓RS,RG,qA,qM,qL,zaa,show ((l:Int)+(kn:Int))=((l+kn:Nat):Int) from by omega,show ((w:Int) - (kn:Int))=((w - kn:Nat):Int) from by omega]
  refine zad.pc (zl5 (zu1 hs)) rfl (.inr rfl) ?_
  simp(disch:=omega)only[↓RU,RV,RH,↓reduceIte,qE,reduceCtorEq,if_pos,w64,qN,↓RS,RG,qA,qM,qL,zaa,show ((l:Int)+(kn:Int))=((l+kn:Nat):Int) from by omega,show ((w:Int) - (kn:Int))=((w - kn:Nat):Int) from by omega]
  apply hK;clear hK K
  refine W.ret ?_
  refine XBlock.ret ?_
  refine XThen.ret ?_
  refine Br rfl ?_
  first | (rw [zht hgv]; rfl) | (rw [zhu hgv e1 e2 e3 e4 hB1]; rfl) | (rw [zhv hgv e1 e2 e3 e4 hB1 hB2]; rfl) | (rw [zgf hB1 hB2]; rfl)
 try simp only[RL]at h2
 have hB2:((s == [118]) && (decide (1≤k) && decide (k≤zd3 p room - 1)))=false:=by rw [hb2,e4]; exact h2
 refine W.skip ?_
 refine XbN ?_
 refine xn ?_
 refine W.r fun K hK=>?_
 simp(disch:=omega)only[↓RU,RV,RH,↓reduceIte,qE,reduceCtorEq,if_pos,qN,↓RS,RG,qA,qM,qL]
 refine zad.pc (zfk) rfl (.inl rfl) ?_
 simp(disch:=omega)only[↓RU,RV,RH,↓reduceIte,qE,reduceCtorEq,if_pos,qN,↓RS,RG,qA,qM,qL]
 apply hK;clear hK K
 refine W.ret ?_
 refine Br rfl ?_
 first | (rw [zht hgv]; rfl) | (rw [zhu hgv e1 e2 e3 e4 hB1]; rfl) | (rw [zhv hgv e1 e2 e3 e4 hB1 hB2]; rfl) | (rw [zgf hB1 hB2]; rfl)
theorem zfa {code:Txt} {q vr t:Nat} {R:List Ob} (hc:code.length≤1048576) (hq:q≤1000000) (n:Int) (hn:n≤1000000) (hn0 : -1000000≤n) :
  Ev Tryz.prog 46 [.ref 0 vr 0,.int .i64 n] ⟨.arr vr 121 2 [eBy code,.int .i64 (q:Int)]::R,t⟩ fun v S=>∃ k:Nat,v = .int .i64 (k:Int)∧(n<1→k=0)∧(1≤n→(k:Int)<n)∧S=⟨.arr vr 121 2 [eBy code,.int .i64 ((q+1:Nat):Int)]::R,t⟩ :=
 yax hc hq n hn hn0
theorem yf5 {code:Txt} {q vr t v1:Nat} {R:List Ob} {l:List Txt} (hc:code.length≤1048576) (hq:q≤1000000) (hl:1≤l.length) (hl2:l.length≤1000):Ev Tryz.prog 166 [.ref 0 vr 0,.loc 1 v1 0 l.length] ⟨.arr vr 121 2 [eBy code,.int .i64 (q:Int)] :: .arr v1 9 1 (l.map .str)::R,t⟩ fun v S=>∃ s,s∈l∧v = .str s∧S=⟨.arr vr 121 2 [eBy code,.int .i64 ((q+1:Nat):Int)] :: .arr v1 9 1 (l.map .str)::R,t⟩:=by
 refine Ev.of ⟨Tryz.func166,by kernel_rfl,rfl,by kernel_rfl⟩ zar mixed (by show 2≤Tryz.f166.ntmps; decide) ?_
 refine W.r fun K hK=>?_
 simp(disch:=omega)only[↓RU,RV,RH,↓reduceIte,qE,reduceCtorEq,if_pos,↓RS,RG,qA,qM,qL]
 apply hK;clear hK K
 refine W.r fun K hK=>?_
 simp(disch:=omega)only[↓RU,RV,RH,↓reduceIte,qE,reduceCtorEq,if_pos,qN,↓RS,RG,qA,qM,qL,ty5,zac]
 refine zad.ev (zfa hc hq (l.length:Int) (by omega) (by omega)) ?_
 rintro _ _ ⟨k,rfl,-,hk,rfl⟩
 have hk2:=hk (by omega)
 obtain ⟨s,hsk,hsm⟩:=zag (show k<l.length by omega)
 simp(disch:=omega)only[↓RU,RV,RH,↓reduceIte,qE,reduceCtorEq,if_pos,qN,↓RS,RG,qA,qM,qL,ty5,zac,hsk]
 apply hK;clear hK K
 refine W.ret ?_
 refine Br rfl ?_
 exact ⟨_,s,hsm,rfl,zak⟩
theorem zzz {nh nw:Nat} (hn:nh≤100) (hm:nw≤100):PC Tryz.prog 143 [.int .i64 nh,.int .i64 nw] (zaq (List.replicate nh (List.replicate nw (97:UInt8)))) true:=by
 refine PC.of ⟨Tryz.func143,by kernel_rfl,rfl,by kernel_rfl⟩ zar mixed (by show 2≤Tryz.f143.ntmps; decide) ?_
 refine W.r fun K hK=>?_
 simp(disch:=omega)only[↓RU,RV,RH,↓reduceIte,qE,reduceCtorEq,if_pos,↓RS,RG,qA,qM,qL]
 apply hK;clear hK K
 refine W.r fun K hK=>?_
 simp(disch:=omega)only[↓RU,RV,RH,↓reduceIte,qE,reduceCtorEq,if_pos,↓RS,RG,qA,qM,qL,ty5,zac]
 apply hK;clear hK K
 refine W.seq ?_
 refine W.r fun K hK=>?_
 simp(disch:=omega)only[↓RU,RV,RH,↓reduceIte,qE,reduceCtorEq,if_pos,↓RS,RG,qA,qM,qL]
 apply hK;clear hK K
 refine W.block ?_
 refine W.loop [0,1,5,6] (fun n vs S=>∃ i v0 tk:Nat,n=nh - i∧i≤nh∧vs=[.int .i64 nh,.int .i64 nw,.loc 0 v0 0 i,.int .i64 i]∧S=⟨[.arr v0 9 1 ((List.replicate i (List.replicate nw (97:UInt8))).map .str)],tk⟩) (nh) ?_ ?_
 ·refine ⟨1,0,0,1,rfl,Nat.zero_le _,?_,rfl⟩
  simp [Env.put,Env.of,zae]
 rintro n vs S - ⟨i,v0,tk,rfl,h_i,rfl,rfl⟩
 refine W.seq ?_
 refine W.r fun K hK=>?_
 simp(disch:=omega)only[↓RU,RV,RH,↓reduceIte,qE,reduceCtorEq,if_pos,w64,↓RS,RG,qA,qM,qL,zaa]
 apply hK;clear hK K
 refine W.cond rfl (fun h=>?_) (fun h=>?_)
 ·try simp only[RL]at h
  refine W.skip ?_
  refine xn ?_
  refine W.seq ?_
  refine W.block ?_
  refine W.r fun K hK=>?_
  simp(disch:=omega)only[↓RU,RV,RH,↓reduceIte,qE,reduceCtorEq,if_pos,↓RS,RG,qA,qM,qL,ty6,zei]
  apply hK;clear hK K
  refine W.seq ?_
  refine W.r fun K hK=>?_
  simp(disch:=omega)only[↓RU,RV,RH,↓reduceIte,qE,reduceCtorEq,if_pos,↓RS,RG,qA,qM,qL]
  apply hK;clear hK K
  refine W.block ?_
  refine W.loop [0,1,5,6,7,8] (fun n vs S=>∃ k v1 tk:Nat,n=nw - k∧k≤nw∧vs=[.int .i64 nh,.int .i64 nw,.loc 0 v0 0 i,.int .i64 i,.loc 1 v1 0 k,.int .i64 k]∧S=⟨[.arr v0 9 1 ((List.replicate i (List.replicate nw (97:UInt8))).map .str),.arr v1 5 1 ((List.replicate k (97:UInt8)).map eB)],tk⟩) (nw) ?_ ?_
  ·refine ⟨2,0,tk,tk+1,rfl,Nat.zero_le _,?_,rfl⟩
   simp [Env.put,Env.of]
  rintro n vs S - ⟨k,v1,tk,rfl,h_k,rfl,rfl⟩
  refine W.seq ?_
  refine W.r fun K hK=>?_
  simp(disch:=omega)only[↓RU,RV,RH,↓reduceIte,qE,reduceCtorEq,if_pos,w64,↓RS,RG,qA,qM,qL,zaa]
  apply hK;clear hK K
  refine W.cond rfl (fun h1=>?_) (fun h1=>?_)
  ·try simp only[RL]at h1
   refine W.skip ?_
   refine xn ?_
   refine W.seq ?_
   refine W.block ?_
   refine W.k fun K hK=>?_
   simp(disch:=omega)only[↓RU,RV,RH,↓reduceIte,qE,reduceCtorEq,if_pos,↓RS,RG,qA,qM,qL,ty6,zei,List.length_replicate]
   apply hK;clear hK K
   refine XbN ?_
   refine xn ?_
   refine W.k fun K hK=>?_
   simp(disch:=omega)only[↓RU,RV,RH,↓reduceIte,qE,reduceCtorEq,if_pos,w64,↓RS,RG,qA,qM,qL,zaa]
   apply hK;clear hK K
   refine xn ?_
   refine ⟨nw - (k+1),by omega,2,k+1,tk+1,tk+2,rfl,by omega,?_,?_⟩
   all_goals simp [Env.put,Env.of,za3,zki,List.replicate_succ',List.map_append]
  ·try simp only[RL]at h1
   obtain rfl:k=nw:=by omega
   have hbo:=zr9 (List.replicate k (97:UInt8))
   have htk:((List.replicate k (97:UInt8)).map eB).take k=(List.replicate k (97:UInt8)).map eB:=qT (by simp)
   refine W.exit ?_
   refine xe ?_
   refine xe ?_
   refine XBlock.hit ?_
   refine xn ?_
   refine W.k fun K hK=>?_
   simp(disch:=omega)only[↓RU,RV,RH,↓reduceIte,qE,reduceCtorEq,if_pos,w64,↓RS,RG,qA,qM,qL,ty5,ty6,zac,zei,List.length_replicate,htk,hbo]
   apply hK;clear hK K
   refine XbN ?_
   refine xn ?_
   refine W.k fun K hK=>?_
   simp(disch:=omega)only[↓RU,RV,RH,↓reduceIte,qE,reduceCtorEq,if_pos,w64,↓RS,RG,qA,qM,qL,zaa]
   apply hK;clear hK K
   refine xn ?_
   refine ⟨nh - (i+1),by omega,1,i+1,tk+1,tk+2,rfl,by omega,?_,?_⟩
   all_goals simp [Env.put,Env.of,za3,zki,List.replicate_succ',List.map_append]
 try simp only[RL]at h
 obtain rfl:i=nh:=by omega
 refine W.exit ?_
 refine xe ?_
 refine xe ?_
 refine XBlock.hit ?_
 refine xn ?_
 refine W.r fun K hK=>?_
 simp(disch:=omega)only[↓RU,RV,RH,↓reduceIte,qE,reduceCtorEq,if_pos,↓RS,RG,qA,qM,qL]
 apply hK;clear hK K
 refine W.ret ?_
 refine Br rfl ?_
 exact (zcl (k:=9) rfl (by simp) (zj1 _)).trans (by simp)
theorem zdf {S:Store} {k ver off:Nat}:frz S 1 (k+1) (.ref 0 ver off)=some (.ref 0 ver off):=by simp [frz]
theorem zef (p:List Txt):List.take p.length (p.map PV.str)=p.map .str:=qT (by simp)
theorem zdg {S:Store} {lo k:Nat} (l:List Txt):(l.map PV.str).mapM (rfz S lo (k+1))=some (l.map PV.str):=zva (fun _=>rfl) l
theorem zz4 {p:List Txt} (h:zbq p=true):Sm p:=by
 obtain ⟨h1,-,h3⟩:=znq h
 exact ⟨by omega,fun r hr=>by have:=(h3 r hr).2; omega⟩
theorem zq7 {p:List Txt} (h:zbq p=true):za2 p≤9:=by
 unfold zbq at h; simp only[qB,decide_eq_true_eq]at h; omega
theorem ycb {s:Txt} (h:s∈([[104],[118]]:List Txt)):s.length≤1048576:=by
 simp only[List.mem_cons,List.not_mem_nil,or_false]at h
 rcases h with rfl | rfl <;> simp
theorem z6s {code:Txt} {q vr t:Nat} {R:List Ob} (hc:code.length≤1048576) (hq:q≤900000) {p:List Txt} (hp:zbq p=true) {many:Nat} (hm:many≤1000):Ev Tryz.prog 142 [.ref 0 vr 0,zaq p,.int .i64 many] ⟨.arr vr 121 2 [eBy code,.int .i64 (q:Int)]::R,t⟩ fun v S=>∃ (p2:List Txt) (q2 t2:Nat),v=zaq p2∧zbq p2=true∧p2.length=p.length∧q2≤q+3*many∧S=⟨[.arr vr 121 2 [eBy code,.int .i64 (q2:Int)]],t2⟩:=by
 refine Ev.of ⟨Tryz.func142,by kernel_rfl,rfl,by kernel_rfl⟩ zar mixed (by show 3≤Tryz.f142.ntmps; decide) ?_
 refine W.r fun K hK=>?_
 simp(disch:=omega)only[↓RU,RV,RH,↓reduceIte,qE,reduceCtorEq,if_pos,↓RS,RG,qA,qM,qL]
 apply hK;clear hK K
 refine W.seq ?_
 refine W.r fun K hK=>?_
 simp(disch:=omega)only[↓RU,RV,RH,↓reduceIte,qE,reduceCtorEq,if_pos,↓RS,RG,qA,qM,qL]
 apply hK;clear hK K
 refine W.block ?_
 refine W.loopZ [0,1,2,7] (fun n vs S=>∃ (i:Nat) (p2:List Txt) (q2 tk:Nat),n=many - i∧i≤many∧zbq p2=true∧p2.length=p.length∧q2≤q+3*i∧vs=[.ref 0 vr 0,zaq p2,.int .i64 many,.int .i64 i]∧S=⟨[.arr vr 121 2 [eBy code,.int .i64 (q2:Int)]],tk⟩) many ?_ ?_
 ·refine ⟨1,[.ref 0 vr 0,zaq p,.int .i64 many,.int .i64 (0:Nat)],⟨[.arr vr 121 2 [eBy code,.int .i64 (q:Int)]],t⟩,?_,?_,0,p,q,t,rfl,by omega,hp,rfl,by omega,rfl,rfl⟩
  ·simp [-qU,Store.frz,zb6,zcu,zav,zbn,zbp,zbr,zcq,za6,za4,za7,zau,zaw,zbu,za8,zbs,za5,Env.put,Env.of,zae,zbt,qP,qC,zdf,zef,zdg]
  simp [-qU,Store.frz,zb6,zcu,zav,zbn,zbp,zbr,zcq,za6,za4,za7,zau,zaw,zbu,za8,zbs,za5,Env.put,Env.of,zae,zbt,qP,qC,zdf,zef,zdg]
 rintro n vs S - ⟨i,p2,q2,tk,rfl,h_i,hp2,hl2,hq2,rfl,rfl⟩
 refine W.seq ?_
 refine W.r fun K hK=>?_
 simp(disch:=omega)only[↓RU,RV,RH,↓reduceIte,qE,reduceCtorEq,if_pos,w64,↓RS,RG,qA,qM,qL,zaa]
 apply hK;clear hK K
 refine W.cond rfl (fun h=>?_) (fun h=>?_)
 ·try simp only[RL]at h
  have hs2:=zz4 hp2
  have hr9:=zq7 hp2
  have hrb:=zdp p2
  refine W.skip ?_
  refine xn ?_
  refine W.seq ?_
  refine W.block ?_
  refine W.r fun K hK=>?_
  simp(disch:=omega)only[↓RU,RV,RH,↓reduceIte,qE,reduceCtorEq,if_pos,qN,↓RS,RG,qA,qM,qL]
  refine zad.pc (zg1 hs2) rfl (.inl rfl) ?_
  simp(disch:=omega)only[↓RU,RV,RH,↓reduceIte,qE,reduceCtorEq,if_pos,qN,↓RS,RG,qA,qM,qL]
  refine zad.ev (zfa hc (by omega) (za2 p2) (by omega) (by omega)) ?_
  rintro _ _ ⟨k1,rfl,-,-,rfl⟩
  simp(disch:=omega)only[↓RU,RV,RH,↓reduceIte,qE,reduceCtorEq,if_pos,qN,↓RS,RG,qA,qM,qL]
  apply hK;clear hK K
  refine W.r fun K hK=>?_
  simp(disch:=omega)only[↓RU,RV,RH,↓reduceIte,qE,reduceCtorEq,if_pos,qN,w64,↓RS,RG,qA,qM,qL,ty5,zaa,zac]
  refine zad.ev (yf5 (R:=[]) (l:=[[104],[118]]) hc (by omega) (by simp) (by simp)) ?_
  rintro _ _ ⟨s,hsm,rfl,rfl⟩
  have hsl:=ycb hsm
  simp(disch:=omega)only[↓RU,RV,RH,↓reduceIte,qE,reduceCtorEq,if_pos,qN,w64,↓RS,RG,qA,qM,qL,ty5,zaa,zac]
  refine zad.ev (zfa (q:=q2+1+1) hc (by omega) 3 (by omega) (by omega)) ?_
  rintro _ _ ⟨k2,rfl,-,hk2,rfl⟩
  have hk3:=hk2 (by omega)
  simp(disch:=omega)only[↓RU,RV,RH,↓reduceIte,qE,reduceCtorEq,if_pos,qN,w64,↓RS,RG,qA,qM,qL,ty5,zaa,zac]
  refine zad.pc (zoq hs2 k1 hsl (1+k2)) rfl (.inr rfl) ?_
  simp(disch:=omega)only[↓RU,RV,RH,↓reduceIte,qE,reduceCtorEq,if_pos,qN,w64,↓RS,RG,qA,qM,qL,ty5,zaa,zac]
  apply hK;clear hK K
  refine W.r fun K hK=>?_
  simp(disch:=omega)only[↓RU,RV,RH,↓reduceIte,qE,reduceCtorEq,if_pos,↓RS,RG,qA,qM,qL]
  apply hK;clear hK K
  refine W.cond rfl (fun h1=>?_) (fun h1=>?_)
  ·try simp only[RL]at h1
   obtain ⟨ho1,ho2⟩:=zyt h1
   refine W.k fun K hK=>?_
   simp(disch:=omega)only[↓RU,RV,RH,↓reduceIte,qE,reduceCtorEq,if_pos,↓RS,RG,qA,qM,qL]
   apply hK;clear hK K
   refine XbN ?_
   refine xn ?_
   refine W.k fun K hK=>?_
   simp(disch:=omega)only[↓RU,RV,RH,↓reduceIte,qE,reduceCtorEq,if_pos,w64,↓RS,RG,qA,qM,qL,zaa]
   apply hK;clear hK K
   refine xn ?_
   refine ⟨many - (i+1),by omega,1,[.ref 0 vr 0,zaq (zfv p2 k1 s (1+k2)).1,.int .i64 many,.int .i64 ((i+1:Nat):Int)],⟨[.arr vr 121 2 [eBy code,.int .i64 ((q2+1+1+1:Nat):Int)]],tk+1⟩,?_,?_,i+1,(zfv p2 k1 s (1+k2)).1,q2+1+1+1,tk+1,rfl,by omega,ho1,ho2.trans hl2,by omega,rfl,rfl⟩
   ·simp [-qU,Store.frz,zb6,zcu,zav,zbn,zbp,zbr,zcq,za6,za4,za7,zau,zaw,zbu,za8,zbs,za5,Env.put,Env.of,zae,zbt,qP,qC,zdf,zef,zdg]
   simp [-qU,Store.frz,zb6,zcu,zav,zbn,zbp,zbr,zcq,za6,za4,za7,zau,zaw,zbu,za8,zbs,za5,Env.put,Env.of,zae,zbt,qP,qC,zdf,zef,zdg]
  try simp only[RL]at h1
  refine W.skip ?_
  refine XbN ?_
  refine xn ?_
  refine W.k fun K hK=>?_
  simp(disch:=omega)only[↓RU,RV,RH,↓reduceIte,qE,reduceCtorEq,if_pos,w64,↓RS,RG,qA,qM,qL,zaa]
  apply hK;clear hK K
  refine xn ?_
  refine ⟨many - (i+1),by omega,1,[.ref 0 vr 0,zaq p2,.int .i64 many,.int .i64 ((i+1:Nat):Int)],⟨[.arr vr 121 2 [eBy code,.int .i64 ((q2+1+1+1:Nat):Int)]],tk+1⟩,?_,?_,i+1,p2,q2+1+1+1,tk+1,rfl,by omega,hp2,hl2,by omega,rfl,rfl⟩
  ·simp [-qU,Store.frz,zb6,zcu,zav,zbn,zbp,zbr,zcq,za6,za4,za7,zau,zaw,zbu,za8,zbs,za5,Env.put,Env.of,zae,zbt,qP,qC,zdf,zef,zdg]
  simp [-qU,Store.frz,zb6,zcu,zav,zbn,zbp,zbr,zcq,za6,za4,za7,zau,zaw,zbu,za8,zbs,za5,Env.put,Env.of,zae,zbt,qP,qC,zdf,zef,zdg]
 try simp only[RL]at h
 obtain rfl:i=many:=by omega
 refine W.exit ?_
 refine xe ?_
 refine xe ?_
 refine XBlock.hit ?_
 refine xn ?_
 refine W.r fun K hK=>?_
 simp(disch:=omega)only[↓RU,RV,RH,↓reduceIte,qE,reduceCtorEq,if_pos,↓RS,RG,qA,qM,qL]
 apply hK;clear hK K
 refine W.ret ?_
 refine Br rfl ?_
 exact ⟨_,p2,q2,tk,rfl,hp2,hl2,by omega,zak⟩
theorem zsx {code:Txt} {q vr t v1:Nat} {R:List Ob} (hc:code.length≤1048576) (hq:q≤900000) {p:List Txt} (hp:zbq p=true) {many:Nat} (hm:many≤1000):Ev Tryz.prog 142 [.ref 0 vr 0,.loc 1 v1 0 p.length,.int .i64 many] ⟨.arr vr 121 2 [eBy code,.int .i64 (q:Int)] :: .arr v1 9 1 (p.map .str)::R,t⟩ fun v S=>∃ (p2:List Txt) (q2 t2:Nat),v=zaq p2∧zbq p2=true∧p2.length=p.length∧q2≤q+3*many∧S=⟨[.arr vr 121 2 [eBy code,.int .i64 (q2:Int)]],t2⟩:=by
 refine Ev.of ⟨Tryz.func142,by kernel_rfl,rfl,by kernel_rfl⟩ zar mixed (by show 3≤Tryz.f142.ntmps; decide) ?_
 refine W.r fun K hK=>?_
 simp(disch:=omega)only[↓RU,RV,RH,↓reduceIte,qE,reduceCtorEq,if_pos,↓RS,RG,qA,qM,qL]
 apply hK;clear hK K
 refine W.seq ?_
 refine W.r fun K hK=>?_
 simp(disch:=omega)only[↓RU,RV,RH,↓reduceIte,qE,reduceCtorEq,if_pos,↓RS,RG,qA,qM,qL]
 apply hK;clear hK K
 refine W.block ?_
 refine W.loopZ [0,1,2,7] (fun n vs S=>∃ (i:Nat) (p2:List Txt) (q2 tk:Nat),n=many - i∧i≤many∧zbq p2=true∧p2.length=p.length∧q2≤q+3*i∧vs=[.ref 0 vr 0,zaq p2,.int .i64 many,.int .i64 i]∧S=⟨[.arr vr 121 2 [eBy code,.int .i64 (q2:Int)]],tk⟩) many ?_ ?_
 ·refine ⟨1,[.ref 0 vr 0,zaq p,.int .i64 many,.int .i64 (0:Nat)],⟨[.arr vr 121 2 [eBy code,.int .i64 (q:Int)]],t⟩,?_,?_,0,p,q,t,rfl,by omega,hp,rfl,by omega,rfl,rfl⟩
  ·simp [-qU,Store.frz,zb6,zcu,zav,zbn,zbp,zbr,zcq,za6,za4,za7,zau,zaw,zbu,za8,zbs,za5,Env.put,Env.of,zae,zbt,qP,qC,zdf,zef,zdg]
  simp [-qU,Store.frz,zb6,zcu,zav,zbn,zbp,zbr,zcq,za6,za4,za7,zau,zaw,zbu,za8,zbs,za5,Env.put,Env.of,zae,zbt,qP,qC,zdf,zef,zdg]
 rintro n vs S - ⟨i,p2,q2,tk,rfl,h_i,hp2,hl2,hq2,rfl,rfl⟩
 refine W.seq ?_
 refine W.r fun K hK=>?_
 simp(disch:=omega)only[↓RU,RV,RH,↓reduceIte,qE,reduceCtorEq,if_pos,w64,↓RS,RG,qA,qM,qL,zaa]
 apply hK;clear hK K
 refine W.cond rfl (fun h=>?_) (fun h=>?_)
 ·try simp only[RL]at h
  have hs2:=zz4 hp2
  have hr9:=zq7 hp2
  have hrb:=zdp p2
  refine W.skip ?_
  refine xn ?_
  refine W.seq ?_
  refine W.block ?_
  refine W.r fun K hK=>?_
  simp(disch:=omega)only[↓RU,RV,RH,↓reduceIte,qE,reduceCtorEq,if_pos,qN,↓RS,RG,qA,qM,qL]
  refine zad.pc (zg1 hs2) rfl (.inl rfl) ?_
  simp(disch:=omega)only[↓RU,RV,RH,↓reduceIte,qE,reduceCtorEq,if_pos,qN,↓RS,RG,qA,qM,qL]
  refine zad.ev (zfa hc (by omega) (za2 p2) (by omega) (by omega)) ?_
  rintro _ _ ⟨k1,rfl,-,-,rfl⟩
  simp(disch:=omega)only[↓RU,RV,RH,↓reduceIte,qE,reduceCtorEq,if_pos,qN,↓RS,RG,qA,qM,qL]
  apply hK;clear hK K
  refine W.r fun K hK=>?_
  simp(disch:=omega)only[↓RU,RV,RH,↓reduceIte,qE,reduceCtorEq,if_pos,qN,w64,↓RS,RG,qA,qM,qL,ty5,zaa,zac]
  refine zad.ev (yf5 (R:=[]) (l:=[[104],[118]]) hc (by omega) (by simp) (by simp)) ?_
  rintro _ _ ⟨s,hsm,rfl,rfl⟩
  have hsl:=ycb hsm
  simp(disch:=omega)only[↓RU,RV,RH,↓reduceIte,qE,reduceCtorEq,if_pos,qN,w64,↓RS,RG,qA,qM,qL,ty5,zaa,zac]
  refine zad.ev (zfa (q:=q2+1+1) hc (by omega) 3 (by omega) (by omega)) ?_
  rintro _ _ ⟨k2,rfl,-,hk2,rfl⟩
  have hk3:=hk2 (by omega)
  simp(disch:=omega)only[↓RU,RV,RH,↓reduceIte,qE,reduceCtorEq,if_pos,qN,w64,↓RS,RG,qA,qM,qL,ty5,zaa,zac]
  refine zad.pc (zoq hs2 k1 hsl (1+k2)) rfl (.inr rfl) ?_
  simp(disch:=omega)only[↓RU,RV,RH,↓reduceIte,qE,reduceCtorEq,if_pos,qN,w64,↓RS,RG,qA,qM,qL,ty5,zaa,zac]
  apply hK;clear hK K
  refine W.r fun K hK=>?_
  simp(disch:=omega)only[↓RU,RV,RH,↓reduceIte,qE,reduceCtorEq,if_pos,↓RS,RG,qA,qM,qL]
  apply hK;clear hK K
  refine W.cond rfl (fun h1=>?_) (fun h1=>?_)
  ·try simp only[RL]at h1
   obtain ⟨ho1,ho2⟩:=zyt h1
   refine W.k fun K hK=>?_
   simp(disch:=omega)only[↓RU,RV,RH,↓reduceIte,qE,reduceCtorEq,if_pos,↓RS,RG,qA,qM,qL]
   apply hK;clear hK K
   refine XbN ?_
   refine xn ?_
   refine W.k fun K hK=>?_
   simp(disch:=omega)only[↓RU,RV,RH,↓reduceIte,qE,reduceCtorEq,if_pos,w64,↓RS,RG,qA,qM,qL,zaa]
   apply hK;clear hK K
   refine xn ?_
   refine ⟨many - (i+1),by omega,1,[.ref 0 vr 0,zaq (zfv p2 k1 s (1+k2)).1,.int .i64 many,.int .i64 ((i+1:Nat):Int)],⟨[.arr vr 121 2 [eBy code,.int .i64 ((q2+1+1+1:Nat):Int)]],tk+1⟩,?_,?_,i+1,(zfv p2 k1 s (1+k2)).1,q2+1+1+1,tk+1,rfl,by omega,ho1,ho2.trans hl2,by omega,rfl,rfl⟩
   ·simp [-qU,Store.frz,zb6,zcu,zav,zbn,zbp,zbr,zcq,za6,za4,za7,zau,zaw,zbu,za8,zbs,za5,Env.put,Env.of,zae,zbt,qP,qC,zdf,zef,zdg]
   simp [-qU,Store.frz,zb6,zcu,zav,zbn,zbp,zbr,zcq,za6,za4,za7,zau,zaw,zbu,za8,zbs,za5,Env.put,Env.of,zae,zbt,qP,qC,zdf,zef,zdg]
  try simp only[RL]at h1
  refine W.skip ?_
  refine XbN ?_
  refine xn ?_
  refine W.k fun K hK=>?_
  simp(disch:=omega)only[↓RU,RV,RH,↓reduceIte,qE,reduceCtorEq,if_pos,w64,↓RS,RG,qA,qM,qL,zaa]
  apply hK;clear hK K
  refine xn ?_
  refine ⟨many - (i+1),by omega,1,[.ref 0 vr 0,zaq p2,.int .i64 many,.int .i64 ((i+1:Nat):Int)],⟨[.arr vr 121 2 [eBy code,.int .i64 ((q2+1+1+1:Nat):Int)]],tk+1⟩,?_,?_,i+1,p2,q2+1+1+1,tk+1,rfl,by omega,hp2,hl2,by omega,rfl,rfl⟩
  ·simp [-qU,Store.frz,zb6,zcu,zav,zbn,zbp,zbr,zcq,za6,za4,za7,zau,zaw,zbu,za8,zbs,za5,Env.put,Env.of,zae,zbt,qP,qC,zdf,zef,zdg]
  simp [-qU,Store.frz,zb6,zcu,zav,zbn,zbp,zbr,zcq,za6,za4,za7,zau,zaw,zbu,za8,zbs,za5,Env.put,Env.of,zae,zbt,qP,qC,zdf,zef,zdg]
 try simp only[RL]at h
 obtain rfl:i=many:=by omega
 refine W.exit ?_
 refine xe ?_
 refine xe ?_
 refine XBlock.hit ?_
 refine xn ?_
 refine W.r fun K hK=>?_
 simp(disch:=omega)only[↓RU,RV,RH,↓reduceIte,qE,reduceCtorEq,if_pos,↓RS,RG,qA,qM,qL]
 apply hK;clear hK K
 refine W.ret ?_
 refine Br rfl ?_
 exact ⟨_,p2,q2,tk,rfl,hp2,hl2,by omega,zak⟩
theorem z3k {nh nw:Nat} (h1:1≤nh) (h2:nh≤6) (w1:1≤nw) (w2:nw≤6):zbq (List.replicate nh (List.replicate nw (97:UInt8)))=true:=by
 rcases (show nh=1∨nh=2∨nh=3∨nh=4∨nh=5∨nh=6 by omega) with rfl | rfl | rfl | rfl | rfl | rfl <;>
 rcases (show nw=1∨nw=2∨nw=3∨nw=4∨nw=5∨nw=6 by omega) with rfl | rfl | rfl | rfl | rfl | rfl <;> decide +kernel
def ygs:List Txt:=[[97,97,98],[99,100,98],[99,101,101]]
def ygt:List Txt:=[[97,97,97,98],[99,100,100,98],[99,100,100,98],[99,101,101,101]]
theorem z0r:zbq ygs=true:=by decide +kernel
theorem z0s:zbq ygt=true:=by decide +kernel
theorem z31 {code:Txt} {q vr t:Nat} (hc:code.length≤1048576) (hq:q≤800000) {nh nw:Nat} (h1:1≤nh) (h2:nh≤6) (w1:1≤nw) (w2:nw≤6):Ev Tryz.prog 121 [.ref 0 vr 0,.int .i64 nh,.int .i64 nw] ⟨[.arr vr 121 2 [eBy code,.int .i64 (q:Int)]],t⟩ fun v S=>∃ (p2:List Txt) (q2 t2:Nat),v=zaq p2∧zbq p2=true∧p2.length=nh∧q2≤q+100∧S=⟨[.arr vr 121 2 [eBy code,.int .i64 (q2:Int)]],t2⟩:=by
 refine Ev.of ⟨Tryz.func121,by kernel_rfl,rfl,by kernel_rfl⟩ zar mixed (by show 3≤Tryz.f121.ntmps; decide) ?_
 refine W.r fun K hK=>?_
 simp(disch:=omega)only[↓RU,RV,RH,↓reduceIte,qE,reduceCtorEq,if_pos,↓RS,RG,qA,qM,qL]
 apply hK;clear hK K
 refine W.seq ?_
 refine W.join [0,1,2,17] (fun vs S=>∃ (q2:Nat) (b:Bool),q2≤q+1∧(b=true→nh=3)∧vs=[.ref 0 vr 0,.int .i64 nh,.int .i64 nw,.bool b]∧S=⟨[.arr vr 121 2 [eBy code,.int .i64 (q2:Int)]],t⟩) ?_ ?_
 ·
  refine W.k fun K hK=>?_
  rcases hd:(((nh:Int) == 3),((nw:Int) == 3)) with ⟨_ | _,_ | _⟩
  ·skip
   simp only[Prod.mk.injEq]at hd
   obtain ⟨hd1,hd2⟩:=hd
   simp(disch:=omega)only[↓RU,RV,RH,↓reduceIte,qE,reduceCtorEq,if_pos,w64,qN,↓RS,RG,qA,qM,qL,zaa,hd1,hd2]
   apply hK;clear hK K
   refine xn ?_
   refine ⟨_,q,false,by omega,fun h9=>(by cases h9),?_,zak⟩
   simp [Env.put,Env.of,zae]
  ·skip
   simp only[Prod.mk.injEq]at hd
   obtain ⟨hd1,hd2⟩:=hd
   simp(disch:=omega)only[↓RU,RV,RH,↓reduceIte,qE,reduceCtorEq,if_pos,w64,qN,↓RS,RG,qA,qM,qL,zaa,hd1,hd2]
   apply hK;clear hK K
   refine xn ?_
   refine ⟨_,q,false,by omega,fun h9=>(by cases h9),?_,zak⟩
   simp [Env.put,Env.of,zae]
  ·skip
   simp only[Prod.mk.injEq]at hd
   obtain ⟨hd1,hd2⟩:=hd
   simp(disch:=omega)only[↓RU,RV,RH,↓reduceIte,qE,reduceCtorEq,if_pos,w64,qN,↓RS,RG,qA,qM,qL,zaa,hd1,hd2]
   apply hK;clear hK K
   refine xn ?_
   refine ⟨_,q,false,by omega,fun h9=>(by cases h9),?_,zak⟩
   simp [Env.put,Env.of,zae]
  skip
  simp only[Prod.mk.injEq]at hd
  obtain ⟨hd1,hd2⟩:=hd
  simp(disch:=omega)only[↓RU,RV,RH,↓reduceIte,qE,reduceCtorEq,if_pos,w64,qN,↓RS,RG,qA,qM,qL,zaa,hd1,hd2]
  refine zad.ev (zfa (q:=q) hc (by omega) 2 (by omega) (by omega)) ?_
  rintro _ _ ⟨k1,rfl,-,hk1,rfl⟩
  have hk1b:=hk1 (by omega)
  simp(disch:=omega)only[↓RU,RV,RH,↓reduceIte,qE,reduceCtorEq,if_pos,w64,qN,↓RS,RG,qA,qM,qL,zaa,hd1,hd2]
  apply hK;clear hK K
  refine xn ?_
  refine ⟨_,q+1,((k1:Int) == 0),by omega,fun _=>(by have:=beq_iff_eq.1 hd1; omega),?_,zak⟩
  simp [Env.put,Env.of,zae]
 rintro vs S - ⟨qa,b3,hqa,hb3,rfl,rfl⟩
 refine W.cond rfl (fun h3=>?_) (fun h3=>?_)
 ·try simp only[RL]at h3
  refine W.r fun K hK=>?_
  simp(disch:=omega)only[↓RU,RV,RH,↓reduceIte,qE,reduceCtorEq,if_pos,qN,↓RS,RG,qA,qM,qL,ty5,zac]
  refine zad.ev (zfa (q:=qa) hc (by omega) 2 (by omega) (by omega)) ?_
  rintro _ _ ⟨k1,rfl,-,hk1,rfl⟩
  have hk1b:=hk1 (by omega)
  simp(disch:=omega)only[↓RU,RV,RH,↓reduceIte,qE,reduceCtorEq,if_pos,qN,↓RS,RG,qA,qM,qL,ty5,zac]
  refine zad.ev (zsx (q:=qa+1) (R:=[]) hc (by omega) z0r (many:=k1) (by omega)) ?_
  rintro _ _ ⟨p2,q2,t2,rfl,hp2,hl2,hq2,rfl⟩
  simp(disch:=omega)only[↓RU,RV,RH,↓reduceIte,qE,reduceCtorEq,if_pos,qN,↓RS,RG,qA,qM,qL,ty5,zac]
  apply hK;clear hK K
  refine W.ret ?_
  refine XThen.ret ?_
  refine Br rfl ?_
  exact ⟨_,p2,q2,t2,rfl,hp2,hl2.trans (hb3 h3).symm,by omega,zak⟩
 try simp only[RL]at h3
 refine W.skip ?_
 refine xn ?_
 refine W.seq ?_
 refine W.join [0,1,2,33] (fun vs S=>∃ (q2:Nat) (b:Bool),q2≤q+2∧(b=true→nh=4)∧vs=[.ref 0 vr 0,.int .i64 nh,.int .i64 nw,.bool b]∧S=⟨[.arr vr 121 2 [eBy code,.int .i64 (q2:Int)]],t⟩) ?_ ?_
 ·
  refine W.k fun K hK=>?_
  rcases hd:(((nh:Int) == 4),((nw:Int) == 4)) with ⟨_ | _,_ | _⟩
  ·skip
   simp only[Prod.mk.injEq]at hd
   obtain ⟨hd1,hd2⟩:=hd
   simp(disch:=omega)only[↓RU,RV,RH,↓reduceIte,qE,reduceCtorEq,if_pos,w64,qN,↓RS,RG,qA,qM,qL,zaa,hd1,hd2]
   apply hK;clear hK K
   refine xn ?_
   refine ⟨_,qa,false,by omega,fun h9=>(by cases h9),?_,zak⟩
   simp [Env.put,Env.of,zae]
  ·skip
   simp only[Prod.mk.injEq]at hd
   obtain ⟨hd1,hd2⟩:=hd
   simp(disch:=omega)only[↓RU,RV,RH,↓reduceIte,qE,reduceCtorEq,if_pos,w64,qN,↓RS,RG,qA,qM,qL,zaa,hd1,hd2]
   apply hK;clear hK K
   refine xn ?_
   refine ⟨_,qa,false,by omega,fun h9=>(by cases h9),?_,zak⟩
   simp [Env.put,Env.of,zae]
  ·skip
   simp only[Prod.mk.injEq]at hd
   obtain ⟨hd1,hd2⟩:=hd
   simp(disch:=omega)only[↓RU,RV,RH,↓reduceIte,qE,reduceCtorEq,if_pos,w64,qN,↓RS,RG,qA,qM,qL,zaa,hd1,hd2]
   apply hK;clear hK K
   refine xn ?_
   refine ⟨_,qa,false,by omega,fun h9=>(by cases h9),?_,zak⟩
   simp [Env.put,Env.of,zae]
  skip
  simp only[Prod.mk.injEq]at hd
  obtain ⟨hd1,hd2⟩:=hd
  simp(disch:=omega)only[↓RU,RV,RH,↓reduceIte,qE,reduceCtorEq,if_pos,w64,qN,↓RS,RG,qA,qM,qL,zaa,hd1,hd2]
  refine zad.ev (zfa (q:=qa) hc (by omega) 2 (by omega) (by omega)) ?_
  rintro _ _ ⟨k1,rfl,-,hk1,rfl⟩
  have hk1b:=hk1 (by omega)
  simp(disch:=omega)only[↓RU,RV,RH,↓reduceIte,qE,reduceCtorEq,if_pos,w64,qN,↓RS,RG,qA,qM,qL,zaa,hd1,hd2]
  apply hK;clear hK K
  refine xn ?_
  refine ⟨_,qa+1,((k1:Int) == 0),by omega,fun _=>(by have:=beq_iff_eq.1 hd1; omega),?_,zak⟩
  simp [Env.put,Env.of,zae]
 rintro vs S - ⟨qb,b4,hqb,hb4,rfl,rfl⟩
 refine W.cond rfl (fun h4=>?_) (fun h4=>?_)
 ·try simp only[RL]at h4
  refine W.r fun K hK=>?_
  simp(disch:=omega)only[↓RU,RV,RH,↓reduceIte,qE,reduceCtorEq,if_pos,qN,↓RS,RG,qA,qM,qL,ty5,zac]
  refine zad.ev (zfa (q:=qb) hc (by omega) 4 (by omega) (by omega)) ?_
  rintro _ _ ⟨k2,rfl,-,hk2,rfl⟩
  have hk2b:=hk2 (by omega)
  simp(disch:=omega)only[↓RU,RV,RH,↓reduceIte,qE,reduceCtorEq,if_pos,qN,↓RS,RG,qA,qM,qL,ty5,zac]
  refine zad.ev (zsx (q:=qb+1) (R:=[]) hc (by omega) z0s (many:=k2) (by omega)) ?_
  rintro _ _ ⟨p2,q2,t2,rfl,hp2,hl2,hq2,rfl⟩
  simp(disch:=omega)only[↓RU,RV,RH,↓reduceIte,qE,reduceCtorEq,if_pos,qN,↓RS,RG,qA,qM,qL,ty5,zac]
  apply hK;clear hK K
  refine W.ret ?_
  refine XThen.ret ?_
  refine Br rfl ?_
  exact ⟨_,p2,q2,t2,rfl,hp2,hl2.trans (hb4 h4).symm,by omega,zak⟩
 try simp only[RL]at h4
 refine W.skip ?_
 refine xn ?_
 refine W.r fun K hK=>?_
 simp(disch:=omega)only[↓RU,RV,RH,↓reduceIte,qE,reduceCtorEq,if_pos,qN,↓RS,RG,qA,qM,qL]
 refine zad.pc (zzz (nh:=nh) (nw:=nw) (by omega) (by omega)) rfl (.inl rfl) ?_
 simp(disch:=omega)only[↓RU,RV,RH,↓reduceIte,qE,reduceCtorEq,if_pos,qN,↓RS,RG,qA,qM,qL]
 refine zad.ev (zfa (q:=qb) hc (by omega) 9 (by omega) (by omega)) ?_
 rintro _ _ ⟨k3,rfl,-,hk3,rfl⟩
 have hk3b:=hk3 (by omega)
 simp(disch:=omega)only[↓RU,RV,RH,↓reduceIte,qE,reduceCtorEq,if_pos,qN,↓RS,RG,qA,qM,qL]
 refine zad.ev (z6s (q:=qb+1) (R:=[]) hc (by omega) (z3k h1 h2 w1 w2) (many:=k3) (by omega)) ?_
 rintro _ _ ⟨p2,q2,t2,rfl,hp2,hl2,hq2,rfl⟩
 simp(disch:=omega)only[↓RU,RV,RH,↓reduceIte,qE,reduceCtorEq,if_pos,qN,↓RS,RG,qA,qM,qL]
 apply hK;clear hK K
 refine W.ret ?_
 refine Br rfl ?_
 exact ⟨_,p2,q2,t2,rfl,hp2,by simpa using hl2,by omega,zak⟩
theorem ycx {p:List Txt} (h:Sm p) {i:Nat} {r:Txt} (hr:r.length≤1048576):Sm (p.set i r):=by
 refine ⟨by rw [List.length_set]; exact h.1,fun x hx=>?_⟩
 rcases List.mem_or_eq_of_mem_set hx with k | rfl
 ·exact h.2 x k
 exact hr
theorem yge {p:List Txt} {x:Txt} (h:0<p.length):PV.str x::List.drop 1 (p.map PV.str)=(p.set 0 x).map .str:=by cases p with | nil=>simp at h | cons a p=>simp
theorem z7j {k:Nat}:(1:Int)+(k:Int)=((1+k:Nat):Int):=by omega
theorem zsy {code:Txt} {q vr t:Nat} (hc:code.length≤1048576) (hq:q≤700000) {rows cols:Nat} (h1:1≤rows) (h2:rows≤6) (w1:1≤cols) (w2:cols≤6):Ev Tryz.prog 88 [.ref 0 vr 0,.int .i64 rows,.int .i64 cols] ⟨[.arr vr 121 2 [eBy code,.int .i64 (q:Int)]],t⟩ fun v S=>∃ (p2:List Txt) (q2 t2:Nat),v=zaq p2∧Sm p2∧p2.length≤6∧q2≤q+200∧S=⟨[.arr vr 121 2 [eBy code,.int .i64 (q2:Int)]],t2⟩:=by
 refine Ev.of ⟨Tryz.func88,by kernel_rfl,rfl,by kernel_rfl⟩ zar mixed (by show 3≤Tryz.f88.ntmps; decide) ?_
 refine W.r fun K hK=>?_
 simp(disch:=omega)only[↓RU,RV,RH,↓reduceIte,qE,reduceCtorEq,if_pos,↓RS,RG,qA,qM,qL]
 apply hK;clear hK K
 refine W.r fun K hK=>?_
 simp(disch:=omega)only[↓RU,RV,RH,↓reduceIte,qE,reduceCtorEq,if_pos,qN,w64,↓RS,RG,qA,qM,qL,zaa]
 refine zad.ev (zfa hc (by omega) (rows:Int) (by omega) (by omega)) ?_
 rintro _ _ ⟨k1,rfl,-,hk1,rfl⟩
 have hk1b:=hk1 (by omega)
 simp(disch:=omega)only[↓RU,RV,RH,↓reduceIte,qE,reduceCtorEq,if_pos,qN,w64,↓RS,RG,qA,qM,qL,zaa,z7j]
 apply hK;clear hK K
 refine W.r fun K hK=>?_
 simp(disch:=omega)only[↓RU,RV,RH,↓reduceIte,qE,reduceCtorEq,if_pos,qN,w64,↓RS,RG,qA,qM,qL,zaa]
 refine zad.ev (zfa hc (by omega) (cols:Int) (by omega) (by omega)) ?_
 rintro _ _ ⟨k2,rfl,-,hk2,rfl⟩
 have hk2b:=hk2 (by omega)
 simp(disch:=omega)only[↓RU,RV,RH,↓reduceIte,qE,reduceCtorEq,if_pos,qN,w64,↓RS,RG,qA,qM,qL,zaa,z7j]
 refine zad.ev (z31 (q:=q+1+1) hc (by omega) (nh:=1+k1) (nw:=1+k2) (by omega) (by omega) (by omega) (by omega)) ?_
 rintro _ _ ⟨p2,q2,t2,rfl,hp2,hl2,hq2,rfl⟩
 simp(disch:=omega)only[↓RU,RV,RH,↓reduceIte,qE,reduceCtorEq,if_pos,qN,w64,↓RS,RG,qA,qM,qL,zaa]
 apply hK;clear hK K
 obtain ⟨ps1,ps2,ps3⟩:=znq hp2
 have hsm:=zz4 hp2
 obtain ⟨nh,hnh⟩:∃ nh:Nat,1+k1=nh:=⟨_,rfl⟩
 simp only[hnh]at hl2 ⊢
 refine W.joinZ [8] (fun vs S=>∃ (p3:List Txt) (q3 tk:Nat),Sm p3∧p3.length≤6∧q3≤q+200∧vs=[zaq p3]∧S=⟨[.arr vr 121 2 [eBy code,.int .i64 (q3:Int)]],tk⟩) ?_ ?_
 ·
  refine W.r fun K hK=>?_
  simp(disch:=omega)only[↓RU,RV,RH,↓reduceIte,qE,reduceCtorEq,if_pos,qN,↓RS,RG,qA,qM,qL]
  refine zad.ev (zfa hc (by omega) 50 (by omega) (by omega)) ?_
  rintro _ _ ⟨k3,rfl,-,hk3,rfl⟩
  simp(disch:=omega)only[↓RU,RV,RH,↓reduceIte,qE,reduceCtorEq,if_pos,qN,↓RS,RG,qA,qM,qL]
  apply hK;clear hK K
  refine W.block ?_
  refine W.r fun K hK=>?_
  simp(disch:=omega)only[↓RU,RV,RH,↓reduceIte,qE,reduceCtorEq,if_pos,w64,↓RS,RG,qA,qM,qL,zaa]
  apply hK;clear hK K
  refine W.cond rfl (fun h0=>?_) (fun h0=>?_)
  ·try simp only[RL]at h0
   obtain ⟨row,hrow,hrm⟩:=zag (show nh - 1<p2.length by omega)
   have hr6:=(ps3 row hrm).2
   refine W.r fun K hK=>?_
   simp(disch:=omega)only[↓RU,RV,RH,↓reduceIte,qE,reduceCtorEq,if_pos,↓RS,RG,qA,qM,qL,ty5,zac]
   apply hK;clear hK K
   refine W.k fun K hK=>?_
   simp(disch:=omega)only[↓RU,RV,RH,↓reduceIte,qE,reduceCtorEq,if_pos,w64,↓RS,RG,qA,qM,qL,ty5,zaa,zac,zbl,hrow,zvy,zb0,zrk,zi7,List.length_cons,List.length_nil]
   apply hK;clear hK K
   refine XbN ?_
   refine xn ?_
   have hPs:Sm (p2.set (nh - 1) (row++[97])):=ycx hsm (by simp; omega)
   have hPl:(p2.set (nh - 1) (row++[97])).length=p2.length:=by simp
   generalize p2.set (nh - 1) (row++[97])=P at hPs hPl ⊢
   have htk:(P.map PV.str).take p2.length=P.map .str:=qT (by simp [hPl])
   refine ⟨1,[zaq P],⟨[.arr vr 121 2 [eBy code,.int .i64 ((q2+1:Nat):Int)]],t2+1+1⟩,?_,?_,P,q2+1,t2+1+1,hPs,by omega,by omega,rfl,rfl⟩
   ·simp [-qU,Store.frz,zb6,zcu,zav,zbn,zbp,zbr,zcq,za6,za4,za7,zau,zaw,zbu,za8,zbs,za5,Env.put,Env.of,zae,zbt,qP,qC,zdf,zef,zdg,htk,hPl]
   simp [-qU,Store.frz,zb6,zcu,zav,zbn,zbp,zbr,zcq,za6,za4,za7,zau,zaw,zbu,za8,zbs,za5,Env.put,Env.of,zae,zbt,qP,qC,zdf,zef,zdg]
  try simp only[RL]at h0
  refine W.r fun K hK=>?_
  simp(disch:=omega)only[↓RU,RV,RH,↓reduceIte,qE,reduceCtorEq,if_pos,w64,↓RS,RG,qA,qM,qL,zaa]
  apply hK;clear hK K
  refine W.cond rfl (fun h1=>?_) (fun h1=>?_)
  ·try simp only[RL]at h1
   obtain ⟨row,hrow,hrm⟩:=zag (show 0<p2.length by omega)
   have hr6:=ps3 row hrm
   have hdl:(row.drop 1).length≤6:=by rw [List.length_drop]; omega
   refine W.r fun K hK=>?_
   simp(disch:=omega)only[↓RU,RV,RH,↓reduceIte,qE,reduceCtorEq,if_pos,↓RS,RG,qA,qM,qL,ty5,zac]
   apply hK;clear hK K
   refine W.k fun K hK=>?_
   simp(disch:=omega)only[↓RU,RV,RH,↓reduceIte,qE,reduceCtorEq,if_pos,Option.map_none,w64,↓RS,RG,qA,qM,qL,ty5,zac,hrow,zvy,zb0,zrk,zi7,List.length_cons,List.length_nil,Int.toNat_zero,qZ,List.take_length,Nat.zero_mul,Nat.zero_add]
   apply hK;clear hK K
   rw [yge (show 0<p2.length by omega)]
   refine XbN ?_
   refine xn ?_
   have hPs:Sm (p2.set 0 (122::row.drop 1)):=ycx hsm (by simp; omega)
   have hPl:(p2.set 0 (122::row.drop 1)).length=p2.length:=by simp
   generalize p2.set 0 (122::row.drop 1)=P at hPs hPl ⊢
   have htk:(P.map PV.str).take p2.length=P.map .str:=qT (by simp [hPl])
   refine ⟨1,[zaq P],⟨[.arr vr 121 2 [eBy code,.int .i64 ((q2+1:Nat):Int)]],t2+1+1⟩,?_,?_,P,q2+1,t2+1+1,hPs,by omega,by omega,rfl,rfl⟩
   ·simp [-qU,Store.frz,zb6,zcu,zav,zbn,zbp,zbr,zcq,za6,za4,za7,zau,zaw,zbu,za8,zbs,za5,Env.put,Env.of,zae,zbt,qP,qC,zdf,zef,zdg,htk,hPl]
   simp [-qU,Store.frz,zb6,zcu,zav,zbn,zbp,zbr,zcq,za6,za4,za7,zau,zaw,zbu,za8,zbs,za5,Env.put,Env.of,zae,zbt,qP,qC,zdf,zef,zdg]
  try simp only[RL]at h1
  refine W.skip ?_
  refine XbN ?_
  refine xn ?_
  have hPs:=hsm
  have hPl:p2.length=p2.length:=rfl
  have htk:True:=trivial
  refine ⟨1,[zaq p2],⟨[.arr vr 121 2 [eBy code,.int .i64 ((q2+1:Nat):Int)]],t2⟩,?_,?_,p2,q2+1,t2,hPs,by omega,by omega,rfl,rfl⟩
  ·simp [-qU,Store.frz,zb6,zcu,zav,zbn,zbp,zbr,zcq,za6,za4,za7,zau,zaw,zbu,za8,zbs,za5,Env.put,Env.of,zae,zbt,qP,qC,zdf,zef,zdg,htk,hPl]
  simp [-qU,Store.frz,zb6,zcu,zav,zbn,zbp,zbr,zcq,za6,za4,za7,zau,zaw,zbu,za8,zbs,za5,Env.put,Env.of,zae,zbt,qP,qC,zdf,zef,zdg]
 rintro vs S - ⟨p3,q3,tk,hs3,hl3,hq3,rfl,rfl⟩
 refine W.r fun K hK=>?_
 simp(disch:=omega)only[↓RU,RV,RH,↓reduceIte,qE,reduceCtorEq,if_pos,↓RS,RG,qA,qM,qL]
 apply hK;clear hK K
 refine W.ret ?_
 refine Br rfl ?_
 exact ⟨_,p3,q3,tk,rfl,hs3,hl3,hq3,zak⟩
theorem zk8 {code:Txt} {q vr t:Nat} (hc:code.length≤1048576) (hq:q≤600000) {rows cols:Nat} (h1:1≤rows) (h2:rows≤6) (w1:1≤cols) (w2:cols≤6):Ev Tryz.prog 44 [.ref 0 vr 0,.int .i64 rows,.int .i64 cols] ⟨[.arr vr 121 2 [eBy code,.int .i64 (q:Int)]],t⟩ fun v S=>∃ (p2:List Txt) (q2 t2:Nat),v=zaq p2∧Sm p2∧p2.length≤6∧q2≤q+1000∧S=⟨[.arr vr 121 2 [eBy code,.int .i64 (q2:Int)]],t2⟩:=by
 refine Ev.of ⟨Tryz.func44,by kernel_rfl,rfl,by kernel_rfl⟩ zar mixed (by show 3≤Tryz.f44.ntmps; decide) ?_
 refine W.r fun K hK=>?_
 simp(disch:=omega)only[↓RU,RV,RH,↓reduceIte,qE,reduceCtorEq,if_pos,↓RS,RG,qA,qM,qL]
 apply hK;clear hK K
 refine W.r fun K hK=>?_
 simp(disch:=omega)only[↓RU,RV,RH,↓reduceIte,qE,reduceCtorEq,if_pos,qN,↓RS,RG,qA,qM,qL]
 refine zad.ev (zsy (q:=q) hc (by omega) h1 h2 w1 w2) ?_
 rintro _ _ ⟨p3,q3,t3,rfl,hs3,hl3,hq3,rfl⟩
 simp(disch:=omega)only[↓RU,RV,RH,↓reduceIte,qE,reduceCtorEq,if_pos,qN,↓RS,RG,qA,qM,qL]
 apply hK;clear hK K
 refine W.seq ?_
 refine W.r fun K hK=>?_
 simp(disch:=omega)only[↓RU,RV,RH,↓reduceIte,qE,reduceCtorEq,if_pos,↓RS,RG,qA,qM,qL]
 apply hK;clear hK K
 refine W.block ?_
 refine W.loop [0,1,2,7,8] (fun n vs S=>∃ (i:Nat) (p2:List Txt) (q2 tk:Nat),n=3 - i∧i≤3∧Sm p2∧p2.length≤6∧q2≤q+200+200*i∧vs=[.ref 0 vr 0,.int .i64 rows,.int .i64 cols,zaq p2,.int .i64 i]∧S=⟨[.arr vr 121 2 [eBy code,.int .i64 (q2:Int)]],tk⟩) 3 ?_ ?_
 ·refine ⟨1,0,p3,q3,t3,rfl,by omega,hs3,hl3,by omega,?_,rfl⟩
  simp [Env.put,Env.of,zae]
 rintro n vs S - ⟨i,p2,q2,tk,rfl,h_i,hs2,hl2,hq2,rfl,rfl⟩
 refine W.seq ?_
 refine W.r fun K hK=>?_
 by_cases hi3:i<3
 ·skip
  have hd:decide ((i:Int)<3)=true:=decide_eq_true (by omega)
  simp(disch:=omega)only[↓RU,RV,RH,↓reduceIte,qE,reduceCtorEq,if_pos,w64,qN,↓RS,RG,qA,qM,qL,zaa,hd]
  refine zad.pc (zmy hs2) rfl (.inl rfl) ?_
  simp(disch:=omega)only[↓RU,RV,RH,↓reduceIte,qE,reduceCtorEq,if_pos,w64,qN,↓RS,RG,qA,qM,qL,zaa,hd]
  apply hK;clear hK K
  refine W.cond rfl (fun h=>?_) (fun h=>?_)
  ·try simp only[RL]at h
   refine W.skip ?_
   refine xn ?_
   refine W.seq ?_
   refine W.block ?_
   refine W.k fun K hK=>?_
   simp(disch:=omega)only[↓RU,RV,RH,↓reduceIte,qE,reduceCtorEq,if_pos,qN,↓RS,RG,qA,qM,qL]
   refine zad.ev (zsy (q:=q2) hc (by omega) h1 h2 w1 w2) ?_
   rintro _ _ ⟨p3,q3,t3,rfl,hs3,hl3,hq3,rfl⟩
   simp(disch:=omega)only[↓RU,RV,RH,↓reduceIte,qE,reduceCtorEq,if_pos,qN,↓RS,RG,qA,qM,qL]
   apply hK;clear hK K
   refine XbN ?_
   refine xn ?_
   refine W.k fun K hK=>?_
   simp(disch:=omega)only[↓RU,RV,RH,↓reduceIte,qE,reduceCtorEq,if_pos,w64,↓RS,RG,qA,qM,qL,zaa]
   apply hK;clear hK K
   refine xn ?_
   refine ⟨3 - (i+1),by omega,1,i+1,p3,q3,t3,rfl,by omega,hs3,hl3,by omega,?_,rfl⟩
   simp [Env.put,Env.of]
  try simp only[RL]at h
  refine W.exit ?_
  refine xe ?_
  refine xe ?_
  refine XBlock.hit ?_
  refine xn ?_
  refine W.r fun K hK=>?_
  simp(disch:=omega)only[↓RU,RV,RH,↓reduceIte,qE,reduceCtorEq,if_pos,↓RS,RG,qA,qM,qL]
  apply hK;clear hK K
  refine W.ret ?_
  refine Br rfl ?_
  exact ⟨_,p2,q2,tk,rfl,hs2,hl2,by omega,zak⟩
 skip
 have hd:decide ((i:Int)<3)=false:=decide_eq_false (by omega)
 simp(disch:=omega)only[↓RU,RV,RH,↓reduceIte,qE,reduceCtorEq,if_pos,w64,qN,↓RS,RG,qA,qM,qL,zaa,hd]
 apply hK;clear hK K
 refine W.cond rfl (fun h=>?_) (fun h=>?_)
 ·try simp only[RL]at h
  exact absurd h (by simp)
 try simp only[RL]at h
 refine W.exit ?_
 refine xe ?_
 refine xe ?_
 refine XBlock.hit ?_
 refine xn ?_
 refine W.r fun K hK=>?_
 simp(disch:=omega)only[↓RU,RV,RH,↓reduceIte,qE,reduceCtorEq,if_pos,↓RS,RG,qA,qM,qL]
 apply hK;clear hK K
 refine W.ret ?_
 refine Br rfl ?_
 exact ⟨_,p2,q2,tk,rfl,hs2,hl2,by omega,zak⟩
theorem tk_i {l:List Int} {q:IntKind} {i:Nat} (h:l.length=i):(l.map (PV.int q)).take i=l.map (.int q):=qT (by simp [h])
structure Pt where
 r:Nat
 c:Nat
 h:Nat
 w:Nat
 deriving DecidableEq
def Pt.In (t:Pt) (H W:Nat):Prop:=1≤t.h∧1≤t.w∧t.r+t.h≤H∧t.c+t.w≤W
def z9n (f:Nat→Bool):Nat→Option Nat
 | 0=>none
 | k+1=>(z9n f k).or (if decide (1≤k) && f k then some k else none)
theorem zh6 {f:Nat→Bool}:∀ {n:Nat},z9n f n=none↔∀ k,1≤k→k<n→f k=false
 | 0=>by simp [z9n]
 | n+1=>by
  simp only[z9n,Option.or_eq_none_iff,zh6 (n:=n)]
  constructor
  ·rintro ⟨h1,h2⟩ k hk hn
   by_cases e:k=n
   ·subst e; cases hf:f k with
    | false=>rfl
    | true=>rw [hf]at h2; simp at h2; omega
   exact h1 k hk (by omega)
  intro h
  refine ⟨fun k hk hn=>h k hk (by omega),?_⟩
  by_cases hn:1≤n
  ·simp [h n hn (by omega)]
  simp [hn]
theorem zfi {f:Nat→Bool} {k:Nat}:∀ {n:Nat},z9n f n=some k↔1≤k∧k<n∧f k=true∧∀ j,1≤j→j<k→f j=false
 | 0=>by simp [z9n]
 | n+1=>by
  simp only[z9n]
  cases h:z9n f n with
  | some m =>
   have hm:=(zfi (n:=n)).1 h
   simp only[Option.some_or,Option.some.injEq]
   constructor
   ·rintro rfl; exact ⟨hm.1,by omega,hm.2.2.1,hm.2.2.2⟩
   rintro ⟨h1,h2,h3,h4⟩
   rcases Nat.lt_trichotomy m k with e | e | e
   ·have:=h4 m hm.1 e; rw [hm.2.2.1]at this; cases this
   ·exact e
   have:=hm.2.2.2 k h1 e; rw [h3]at this; cases this
  | none =>
   have hn:=zh6.1 h
   simp only[Option.none_or]
   constructor
   ·intro e
    split at e
    ·rename_i hc
     cases e
     simp only[qB,decide_eq_true_eq]at hc
     exact ⟨hc.1,by omega,hc.2,hn⟩
    cases e
   rintro ⟨h1,h2,h3,h4⟩
   by_cases e:k=n
   ·subst e; simp [h1,h3]
   have:=hn k h1 (by omega); rw [h3]at this; cases this
def thU (z:Nat→Nat→Int) (t:Pt) (k:Nat):Bool:=(List.range t.h).all fun i=>decide (z (t.r+i) (t.c+k - 1)≠z (t.r+i) (t.c+k))
def thL (z:Nat→Nat→Int) (t:Pt) (k:Nat):Bool:=(List.range t.w).all fun j=>decide (z (t.r+k - 1) (t.c+j)≠z (t.r+k) (t.c+j))
theorem zvl {z:Nat→Nat→Int} {t:Pt} {k:Nat}:thU z t k=true↔∀ i,i<t.h→z (t.r+i) (t.c+k - 1)≠z (t.r+i) (t.c+k):=by simp [thU]
theorem zvk {z:Nat→Nat→Int} {t:Pt} {k:Nat}:thL z t k=true↔∀ j,j<t.w→z (t.r+k - 1) (t.c+j)≠z (t.r+k) (t.c+j):=by simp [thL]
def zec (z:Nat→Nat→Int) (t:Pt):Option (Bool × Nat) :=
 match z9n (thU z t) t.w with
 | some k=>some (false,k)
 | none=>match z9n (thL z t) t.h with
  | some k=>some (true,k)
  | none=>none
def Pt.one (t:Pt) (q:Bool × Nat):Pt:=if q.1 then ⟨t.r,t.c,q.2,t.w⟩ else ⟨t.r,t.c,t.h,q.2⟩
def Pt.two (t:Pt) (q:Bool × Nat):Pt:=if q.1 then ⟨t.r+q.2,t.c,t.h - q.2,t.w⟩ else ⟨t.r,t.c+q.2,t.h,t.w - q.2⟩
theorem zg0 {z:Nat→Nat→Int} {t:Pt} {q:Bool × Nat} (h:zec z t=some q):1≤q.2∧if q.1 then q.2<t.h∧thL z t q.2=true else q.2<t.w∧thU z t q.2=true:=by
 unfold zec at h
 split at h
 ·rename_i k hk; cases h; have:=zfi.1 hk; exact ⟨this.1,by simp [this.2.1,this.2.2.1]⟩
 split at h
 ·rename_i k hk; cases h; have:=zfi.1 hk; exact ⟨this.1,by simp [this.2.1,this.2.2.1]⟩
 cases h
theorem zsf {z:Nat→Nat→Int} {t:Pt}:zec z t=none↔(∀ k,1≤k→k<t.w→thU z t k=false)∧∀ k,1≤k→k<t.h→thL z t k=false:=by
 unfold zec
 split
 ·rename_i k hk
  have:=zfi.1 hk
  constructor
  ·intro h; cases h
  rintro ⟨h,_⟩; rw [h k this.1 this.2.1]at this; simp at this
 rename_i hn
 split
 ·rename_i k hk
  have:=zfi.1 hk
  constructor
  ·intro h; cases h
  rintro ⟨_,h⟩; rw [h k this.1 this.2.1]at this; simp at this
 rename_i hn2
 exact ⟨fun _=>⟨zh6.1 hn,zh6.1 hn2⟩,fun _=>rfl⟩
theorem Pt.In.cut {t:Pt} {H W:Nat} (h:t.In H W) {z:Nat→Nat→Int} {q:Bool × Nat} (hq:zec z t=some q):(t.one q).In H W∧(t.two q).In H W ∧
  (t.one q).h*(t.one q).w<t.h*t.w∧(t.two q).h*(t.two q).w<t.h*t.w:=by
 obtain ⟨h1,h2⟩:=zg0 hq
 obtain ⟨a,b,c,d⟩:=h
 obtain ⟨lv,k⟩:=q
 simp only at h1 h2
 cases lv with
 | true =>
  simp only[if_true]at h2
  simp only[Pt.one,Pt.two,if_true,Pt.In]
  refine ⟨⟨h1,b,by omega,d⟩,⟨by omega,b,by omega,d⟩,Nat.mul_lt_mul_of_pos_right h2.1 b,Nat.mul_lt_mul_of_pos_right (by omega) b⟩
 | false =>
  simp only[qF,if_false]at h2
  simp only[Pt.one,Pt.two,qF,if_false,Pt.In]
  refine ⟨⟨a,h1,c,by omega⟩,⟨a,by omega,c,by omega⟩,Nat.mul_lt_mul_of_pos_left h2.1 a,Nat.mul_lt_mul_of_pos_left (by omega) a⟩
def zxh (z:Nat→Nat→Int) (t:Pt):Bool:=(List.range t.h).all fun i=>(List.range t.w).all fun j=>decide (z (t.r+i) (t.c+j)=z t.r t.c)
theorem zpb {z:Nat→Nat→Int} {t:Pt}:zxh z t=true↔∀ i j,i<t.h→j<t.w→z (t.r+i) (t.c+j)=z t.r t.c:=by
 simp only[zxh,List.all_eq_true,List.mem_range,decide_eq_true_eq]
 exact ⟨fun h i j hi hj=>h i hi j hj,fun h i hi j hj=>h i j hi hj⟩
inductive CT where
 | leaf (a:Int)
 | node (lv:Bool) (x y:CT)
def tree (z:Nat→Nat→Int):Nat→Pt→Option CT
 | 0,_=>none
 | f+1,t=>if zxh z t then some (.leaf (z t.r t.c)) else
  match zec z t with
  | none=>none
  | some q=>match tree z f (t.one q),tree z f (t.two q) with
   | some x,some y=>some (.node q.1 x y)
   | _,_=>none
theorem zm3 {z:Nat→Nat→Int} {H W:Nat}:∀ (n:Nat) {t:Pt} {f g:Nat},t.In H W→t.h*t.w≤n→t.h*t.w≤f→t.h*t.w≤g→tree z f t=tree z g t
 | 0,t,f,g,hi,hn,_,_=>by have:=Nat.mul_pos hi.1 hi.2.1; omega
 | n+1,t,f,g,hi,hn,hf,hg=>by
  have:=Nat.mul_pos hi.1 hi.2.1
  obtain ⟨f,rfl⟩:∃ f',f=f'+1:=⟨f - 1,by omega⟩
  obtain ⟨g,rfl⟩:∃ g',g=g'+1:=⟨g - 1,by omega⟩
  simp only[tree]
  split
  ·rfl
  cases hc:zec z t with
  | none=>rfl
  | some q =>
   obtain ⟨i1,i2,a1,a2⟩:=hi.cut hc
   simp only
   rw [zm3 n i1 (f:=f) (g:=g) (by omega) (by omega) (by omega),zm3 n i2 (f:=f) (g:=g) (by omega) (by omega) (by omega)]
def CT.fold {α:Type} (room:Int→α) (cut:Bool→α→α→α):CT→α
 | .leaf a=>room a
 | .node lv x y=>cut lv (x.fold room cut) (y.fold room cut)
structure Whole (z:Nat→Nat→Int) (H W:Nat) (t:Pt):Prop where
 inn:t.In H W
 all:∀ i j i' j',i<H→j<W→i'<H→j'<W→z i j=z i' j'→t.r≤i→i<t.r+t.h→t.c≤j→j<t.c+t.w→t.r≤i'∧i'<t.r+t.h∧t.c≤j'∧j'<t.c+t.w
def yc6 (z:Nat→Nat→Int) (H W:Nat):Prop:=∀ {i j i' j':Nat} (k l:Nat),i<H→i'<H→j<W→j'<W→z i j=z i' j'→min i i'≤k→k≤max i i'→min j j'≤l→l≤max j j'→z k l=z i j
theorem Whole.cut {z:Nat→Nat→Int} {H W:Nat} (hz:yc6 z H W) {t:Pt} (h:Whole z H W t) {q:Bool × Nat} (hq:zec z t=some q):Whole z H W (t.one q)∧Whole z H W (t.two q):=by
 obtain ⟨i1,i2,_,_⟩:=h.inn.cut hq
 obtain ⟨c1,c2⟩:=zg0 hq
 obtain ⟨lv,k⟩:=q
 have hin:=h.inn
 unfold Pt.In at hin
 cases lv with
 | true =>
  simp only[if_true]at c2
  have hth:=zvk.1 c2.2
  have key:∀ i j i' j',i<H→j<W→i'<H→j'<W→z i j=z i' j'→t.r≤i→i<t.r+k→t.c≤j→j<t.c+t.w→t.r+k≤i'→i'<t.r+t.h→t.c≤j'→j'<t.c+t.w→False:=by
   intro i j i' j' a b c d e f1 f2 f3 f4 g1 g2 g3 g4
   have e1:=hz (t.r+k - 1) j a c b d e (by omega) (by omega) (by omega) (by omega)
   have e2:=hz (t.r+k) j a c b d e (by omega) (by omega) (by omega) (by omega)
   have:=hth (j - t.c) (by omega)
   rw [show t.c+(j - t.c)=j by omega]at this
   exact this (e1.trans e2.symm)
  refine ⟨⟨i1,?_⟩,⟨i2,?_⟩⟩
  ·simp only[Pt.one,if_true]
   intro i j i' j' a b c d e f1 f2 f3 f4
   obtain ⟨g1,g2,g3,g4⟩:=h.all i j i' j' a b c d e f1 (by omega) f3 f4
   refine ⟨g1,?_,g3,g4⟩
   rcases Nat.lt_or_ge i' (t.r+k) with h1 | h1
   ·exact h1
   exact (key i j i' j' a b c d e f1 f2 f3 f4 h1 g2 g3 g4).elim
  simp only[Pt.two,if_true]
  intro i j i' j' a b c d e f1 f2 f3 f4
  obtain ⟨g1,g2,g3,g4⟩:=h.all i j i' j' a b c d e (by omega) (by omega) f3 f4
  refine ⟨?_,by omega,g3,g4⟩
  rcases Nat.lt_or_ge i' (t.r+k) with h1 | h1
  ·exact (key i' j' i j c d a b e.symm g1 h1 g3 g4 f1 (by omega) f3 f4).elim
  exact h1
 | false =>
  simp only[qF,if_false]at c2
  have hth:=zvl.1 c2.2
  have key:∀ i j i' j',i<H→j<W→i'<H→j'<W→z i j=z i' j'→t.r≤i→i<t.r+t.h→t.c≤j→j<t.c+k→t.r≤i'→i'<t.r+t.h→t.c+k≤j'→j'<t.c+t.w→False:=by
   intro i j i' j' a b c d e f1 f2 f3 f4 g1 g2 g3 g4
   have e1:=hz i (t.c+k - 1) a c b d e (by omega) (by omega) (by omega) (by omega)
   have e2:=hz i (t.c+k) a c b d e (by omega) (by omega) (by omega) (by omega)
   have:=hth (i - t.r) (by omega)
   rw [show t.r+(i - t.r)=i by omega]at this
   exact this (e1.trans e2.symm)
  refine ⟨⟨i1,?_⟩,⟨i2,?_⟩⟩
  ·simp only[Pt.one,qF,if_false]
   intro i j i' j' a b c d e f1 f2 f3 f4
   obtain ⟨g1,g2,g3,g4⟩:=h.all i j i' j' a b c d e f1 f2 f3 (by omega)
   refine ⟨g1,g2,g3,?_⟩
   rcases Nat.lt_or_ge j' (t.c+k) with h1 | h1
   ·exact h1
   exact (key i j i' j' a b c d e f1 f2 f3 f4 g1 g2 h1 g4).elim
  simp only[Pt.two,qF,if_false]
  intro i j i' j' a b c d e f1 f2 f3 f4
  obtain ⟨g1,g2,g3,g4⟩:=h.all i j i' j' a b c d e f1 f2 (by omega) (by omega)
  refine ⟨g1,g2,?_,by omega⟩
  rcases Nat.lt_or_ge j' (t.c+k) with h1 | h1
  ·exact (key i' j' i j c d a b e.symm g1 g2 g3 h1 f1 f2 f3 (by omega)).elim
  exact h1
section
def ygk (t:Pt) (row:Txt):Txt:=(row.drop t.c).take t.w
def sub (p:List Txt) (t:Pt):List Txt:=((p.drop t.r).take t.h).map (ygk t)
section
variable {p:List Txt} {t:Pt}
end
end
section
def Pt.rect (t:Pt):Rect:=⟨t.r,t.c,t.h,t.w⟩
abbrev zik (g:List (List Int)) (rs:List Rect) (t:Rect):PV := .agg (zax g rs::t.cells)
def ygx (rs:List Rect) (t:Rect) (i:Nat):Bool:=match rs[i]? with | some b=>decide (t.both b=t) | none=>false
def zgx (rs:List Rect) (t:Rect) (k:Nat):List Int:=((List.range k).filter (ygx rs t)).map fun i:Nat=>(i:Int)
theorem zj7 {rs:List Rect} {t:Rect} {k:Nat} {b:Rect} (h:rs[k]?=some b):zgx rs t (k+1)=if t.both b=t then zgx rs t k++[(k:Int)] else zgx rs t k:=by
 unfold zgx
 rw [qS,List.filter_append,List.map_append]
 simp only[List.filter_cons,List.filter_nil,ygx,h,decide_eq_true_eq]
 split <;> simp
theorem z8c {rs:List Rect} {t:Rect} {k:Nat}:(zgx rs t k).length≤k:=by
 unfold zgx
 rw [List.length_map]
 exact Nat.le_trans (List.length_filter_le _ _) (by simp)
def rms (rs:List Rect) (t:Rect):List Int:=zgx rs t rs.length
section
variable {p:List Txt} {t:Pt}
theorem zh3 (hp:zbq p=true):yc6 (zal p) p.length (zam p).length:=by
 intro i j i' j' k l hi hi' hj hj' he h1 h2 h3 h4
 obtain ⟨b,hb,hin,_,hall⟩:=zgd hp hi hj
 obtain ⟨b',hb',hin',_,_⟩:=zgd hp hi' hj'
 rw [← he,hb]at hb'
 cases hb'
 refine hall k l (by omega) (by omega) ?_
 simp only[inB,qB,decide_eq_true_eq]at hin hin' ⊢
 omega
theorem zrv (hp:zbq p=true):Whole (zal p) p.length (zam p).length ⟨0,0,p.length,(zam p).length⟩:=by
 have hsm:=zcj (zeu hp)
 obtain ⟨row0,h0,hm0⟩:=zag hsm.1
 have hw:=zf2 (zeu hp) h0
 rw [← zcz h0]at hw
 exact ⟨⟨hsm.1,hw,by simp,by simp⟩,fun i j i' j' a b c d _ _ _ _ _=>by simp only; omega⟩
theorem zsu (hp:zbq p=true) (ht:Whole (zal p) p.length (zam p).length t) {i:Nat} {b:Rect} (hb:(rP p)[i]?=some b) :
  t.rect.both b=t.rect↔∃ a c,t.r≤a∧a<t.r+t.h∧t.c≤c∧c<t.c+t.w∧zal p a c=i:=by
 have hh:=(zc7 hp).rect hb
 obtain ⟨a1,c1,p1,e1⟩:=hh.at_
 obtain ⟨a2,c2,p2,e2⟩:=hh.al
 obtain ⟨a3,c3,p3,e3⟩:=hh.ao
 obtain ⟨a4,c4,p4,e4⟩:=hh.ar
 have q1:=hh.inn _ _ p1
 obtain ⟨v1,g1⟩:=p1
 obtain ⟨v2,g2⟩:=p2
 obtain ⟨v3,g3⟩:=p3
 obtain ⟨v4,g4⟩:=p4
 unfold Gone at g1 g2 g3 g4
 constructor
 ·intro h
  refine ⟨a1,c1,?_⟩
  simp only[Rect.both,Pt.rect,Rect.mk.injEq]at h
  refine ⟨by omega,by omega,by omega,by omega,v1⟩
 rintro ⟨a,c,h1,h2,h3,h4,hv⟩
 have hin:=ht.inn
 unfold Pt.In at hin
 have k1:=ht.all a c a1 c1 (by omega) (by omega) (by omega) (by omega) (hv.trans v1.symm) h1 h2 h3 h4
 have k2:=ht.all a c a2 c2 (by omega) (by omega) (by omega) (by omega) (hv.trans v2.symm) h1 h2 h3 h4
 have k3:=ht.all a c a3 c3 (by omega) (by omega) (by omega) (by omega) (hv.trans v3.symm) h1 h2 h3 h4
 have k4:=ht.all a c a4 c4 (by omega) (by omega) (by omega) (by omega) (hv.trans v4.symm) h1 h2 h3 h4
 simp only[Rect.both,Pt.rect,Rect.mk.injEq]
 omega
theorem zek (hp:zbq p=true) {i j:Nat} (hi:i<p.length) (hj:j<(zam p).length):0≤zal p i j∧zal p i j<(rP p).length:=(zc7 hp).room hi hj
theorem zum (hp:zbq p=true) (ht:Whole (zal p) p.length (zam p).length t) {x:Int} :
  x∈rms (rP p) t.rect↔∃ a c,t.r≤a∧a<t.r+t.h∧t.c≤c∧c<t.c+t.w∧zal p a c=x:=by
 have hin:=ht.inn
 unfold Pt.In at hin
 simp only[rms,zgx,List.mem_map,List.mem_filter,List.mem_range]
 constructor
 ·rintro ⟨i,⟨hi,hb⟩,rfl⟩
  obtain ⟨b,hb',_⟩:=zag hi
  simp only[ygx,hb',decide_eq_true_eq]at hb
  exact (zsu hp ht hb').1 hb
 rintro ⟨a,c,h1,h2,h3,h4,hv⟩
 have hr:=zek hp (i:=a) (j:=c) (by omega) (by omega)
 rw [hv]at hr
 obtain ⟨b,hb',_⟩:=zag (show x.toNat<(rP p).length by omega)
 refine ⟨x.toNat,⟨by omega,?_⟩,by omega⟩
 simp only[ygx,hb',decide_eq_true_eq]
 exact (zsu hp ht hb').2 ⟨a,c,h1,h2,h3,h4,by omega⟩
theorem z8e {rs:List Rect} {t:Rect}:(rms rs t).Nodup:=by
 unfold rms zgx
 rw [List.nodup_iff_pairwise_ne,List.pairwise_map]
 exact ((List.nodup_iff_pairwise_ne.1 List.nodup_range).filter _).imp fun h e=>h (Int.ofNat.inj e)
theorem yej (hp:zbq p=true) (ht:Whole (zal p) p.length (zam p).length t) (h:zxh (zal p) t=true):rms (rP p) t.rect=[zal p t.r t.c]:=by
 have hall:=zpb.1 h
 have hin:=ht.inn
 unfold Pt.In at hin
 have hm:∀ x,x∈rms (rP p) t.rect↔x=zal p t.r t.c:=by
  intro x
  rw [zum hp ht]
  constructor
  ·rintro ⟨a,c,h1,h2,h3,h4,rfl⟩
   have:=hall (a - t.r) (c - t.c) (by omega) (by omega)
   rwa [show t.r+(a - t.r)=a by omega,show t.c+(c - t.c)=c by omega]at this
  rintro rfl
  exact ⟨t.r,t.c,by omega,by omega,by omega,by omega,rfl⟩
 have hn:=z8e (rs:=rP p) (t:=t.rect)
 match hl:rms (rP p) t.rect,hm,hn with
 | [],hm,_=>exact absurd ((hm _).2 rfl) (by simp)
 | [x],hm,_=>rw [(hm x).1 (by simp)]
 | x::y::l,hm,hn =>
  have h1:=(hm x).1 (by simp)
  have h2:=(hm y).1 (by simp)
  rw [h1,h2]at hn
  simp at hn
theorem ya7 (hp:zbq p=true) (ht:Whole (zal p) p.length (zam p).length t) (h:zxh (zal p) t=false):2≤(rms (rP p) t.rect).length:=by
 have hin:=ht.inn
 unfold Pt.In at hin
 have hno:¬ ∀ i j,i<t.h→j<t.w→zal p (t.r+i) (t.c+j)=zal p t.r t.c:=by
  intro hc; rw [zpb.2 hc]at h; cases h
 match hl:rms (rP p) t.rect with
 | [] =>
  have:zal p t.r t.c∈rms (rP p) t.rect:=(zum hp ht).2 ⟨t.r,t.c,by omega,by omega,by omega,by omega,rfl⟩
  rw [hl]at this; simp at this
 | [x] =>
  exfalso
  apply hno
  intro i j hi hj
  have h1:zal p (t.r+i) (t.c+j)∈rms (rP p) t.rect:=(zum hp ht).2 ⟨t.r+i,t.c+j,by omega,by omega,by omega,by omega,rfl⟩
  have h2:zal p t.r t.c∈rms (rP p) t.rect:=(zum hp ht).2 ⟨t.r,t.c,by omega,by omega,by omega,by omega,rfl⟩
  rw [hl]at h1 h2
  simp at h1 h2
  omega
 | x::y::l=>simp
end
def thG (g:List (List Int)) (t:Pt) (level:Bool) (line:Nat):Bool:=if level then (List.range t.w).all fun j=>zij g true line (t.c+j) else (List.range t.h).all fun i=>zij g false line (t.r+i)
theorem yhh {p:List Txt} (hp:zbq p=true) {t:Pt} (ht:t.In p.length (zam p).length) {k:Nat} (h1:1≤k) (h2:k<t.w):thG (gP p) t false (t.c+k)=thU (zal p) t k:=by
 have hN:=zc7 hp
 obtain ⟨i1,i2,i3,i4⟩:=ht
 apply Bool.eq_iff_iff.2
 rw [zvl]
 simp only[thG,qF,if_false,List.all_eq_true,List.mem_range,zij,zcr,decide_eq_true_eq]
 constructor
 ·intro h i hi
  have:=h i hi
  rwa [hN.cell (by omega) (by omega),hN.cell (by omega) (by omega)]at this
 intro h i hi
 have:=h i hi
 rwa [hN.cell (by omega) (by omega),hN.cell (by omega) (by omega)]
theorem yhg {p:List Txt} (hp:zbq p=true) {t:Pt} (ht:t.In p.length (zam p).length) {k:Nat} (h1:1≤k) (h2:k<t.h):thG (gP p) t true (t.r+k)=thL (zal p) t k:=by
 have hN:=zc7 hp
 obtain ⟨i1,i2,i3,i4⟩:=ht
 apply Bool.eq_iff_iff.2
 rw [zvk]
 simp only[thG,if_true,List.all_eq_true,List.mem_range,zij,zcr,decide_eq_true_eq]
 constructor
 ·intro h i hi
  have:=h i hi
  rwa [hN.cell (by omega) (by omega),hN.cell (by omega) (by omega)]at this
 intro h i hi
 have:=h i hi
 rwa [hN.cell (by omega) (by omega),hN.cell (by omega) (by omega)]
def zq4 (g:List (List Int)) (rs:List Rect) (lv:Bool) (x y:Rect):List PV := .bool lv::(zax g rs::x.cells)++(zax g rs::y.cells)
abbrev z1d (g:List (List Int)) (rs:List Rect) (t:Pt) (q:Bool × Nat):PV := .agg (zq4 g rs q.1 (t.one q).rect (t.two q).rect)
end
section
def zdl (z:Nat→Nat→Int) (t:Pt):Option CT:=tree z (t.h*t.w) t
section
variable {z:Nat→Nat→Int} {H W:Nat} {t:Pt}
theorem zjt (h:t.In H W):t.h*t.w=(t.h*t.w - 1)+1:=by have:=Nat.mul_pos h.1 h.2.1; omega
theorem zjr (h:t.In H W) (h1:zxh z t=true):zdl z t=some (.leaf (z t.r t.c)):=by
 unfold zdl; rw [zjt h,tree,if_pos h1]
theorem zkf (h:t.In H W) (h1:zxh z t=false) (h2:zec z t=none):zdl z t=none:=by
 unfold zdl; rw [zjt h,tree,h1,h2]; rfl
theorem zhh (h:t.In H W) (h1:zxh z t=false) {q:Bool × Nat} (h2:zec z t=some q):zdl z t=match zdl z (t.one q),zdl z (t.two q) with | some x,some y=>some (.node q.1 x y) | _,_=>none:=by
 obtain ⟨i1,i2,a1,a2⟩:=h.cut h2
 have:=zjt h
 rw [show zdl z t=tree z ((t.h*t.w - 1)+1) t by unfold zdl; rw [← this]]
 simp only[tree,h1,h2,qF,if_false]
 unfold zdl
 rw [zm3 (z:=z) _ i1 (qR _) (f:=t.h*t.w - 1) (g:=(t.one q).h*(t.one q).w) (by omega) (qR _),zm3 (z:=z) _ i2 (qR _) (f:=t.h*t.w - 1) (g:=(t.two q).h*(t.two q).w) (by omega) (qR _)]
 all_goals (cases tree z ((t.one q).h*(t.one q).w) (t.one q) <;> cases tree z ((t.two q).h*(t.two q).w) (t.two q) <;> rfl)
def z5c (z:Nat→Nat→Int):Nat→Pt→Txt × Bool
 | 0,_=>([],false)
 | f+1,t=>if zxh z t then ([UInt8.ofNat (z t.r t.c+65).toNat],true) else
  match zec z t with
  | none=>([],false)
  | some q=>((if q.1 then [104] else [118])++(z5c z f (t.one q)).1++(z5c z f (t.two q)).1,(z5c z f (t.one q)).2 && (z5c z f (t.two q)).2)
theorem zpn:∀ (n:Nat) {t:Pt} {f g:Nat},t.In H W→t.h*t.w≤n→t.h*t.w≤f→t.h*t.w≤g→z5c z f t=z5c z g t
 | 0,t,f,g,hi,hn,_,_=>by have:=Nat.mul_pos hi.1 hi.2.1; omega
 | n+1,t,f,g,hi,hn,hf,hg=>by
  have:=Nat.mul_pos hi.1 hi.2.1
  obtain ⟨f,rfl⟩:∃ f',f=f'+1:=⟨f - 1,by omega⟩
  obtain ⟨g,rfl⟩:∃ g',g=g'+1:=⟨g - 1,by omega⟩
  simp only[z5c]
  split
  ·rfl
  cases hc:zec z t with
  | none=>rfl
  | some q =>
   obtain ⟨i1,i2,a1,a2⟩:=hi.cut hc
   simp only
   rw [zpn n i1 (f:=f) (g:=g) (by omega) (by omega) (by omega),zpn n i2 (f:=f) (g:=g) (by omega) (by omega) (by omega)]
def z29 (z:Nat→Nat→Int) (t:Pt):Txt × Bool:=z5c z (t.h*t.w) t
theorem ybm (h:t.In H W) (h1:zxh z t=true):z29 z t=([UInt8.ofNat (z t.r t.c+65).toNat],true):=by
 unfold z29; rw [zjt h,z5c,if_pos h1]
theorem z9a (h:t.In H W) (h1:zxh z t=false) (h2:zec z t=none):z29 z t=([],false):=by
 unfold z29; rw [zjt h,z5c,h1,h2]; rfl
theorem ybl (h:t.In H W) (h1:zxh z t=false) {q:Bool × Nat} (h2:zec z t=some q) :
  z29 z t=((if q.1 then [104] else [118])++(z29 z (t.one q)).1++(z29 z (t.two q)).1,(z29 z (t.one q)).2 && (z29 z (t.two q)).2):=by
 obtain ⟨i1,i2,a1,a2⟩:=h.cut h2
 have:=zjt h
 rw [show z29 z t=z5c z ((t.h*t.w - 1)+1) t by unfold z29; rw [← this]]
 simp only[z5c,h1,h2,qF,if_false]
 unfold z29
 rw [zpn (z:=z) _ i1 (qR _) (f:=t.h*t.w - 1) (g:=(t.one q).h*(t.one q).w) (by omega) (qR _),zpn (z:=z) _ i2 (qR _) (f:=t.h*t.w - 1) (g:=(t.two q).h*(t.two q).w) (by omega) (qR _)]
theorem z0z {q:Bool × Nat} (h2:zec z t=some q):(t.one q).h*(t.one q).w+(t.two q).h*(t.two q).w=t.h*t.w:=by
 obtain ⟨h1,h3⟩:=zg0 h2
 obtain ⟨lv,k⟩:=q
 cases lv with
 | true =>
  simp only[if_true]at h3
  simp only[Pt.one,Pt.two,if_true]
  rw [← Nat.add_mul,show k+(t.h - k)=t.h by omega]
 | false =>
  simp only[qF,if_false]at h3
  simp only[Pt.one,Pt.two,qF,if_false]
  rw [← Nat.mul_add,show k+(t.w - k)=t.w by omega]
theorem zy0:∀ (n:Nat) {t:Pt},t.In H W→t.h*t.w≤n→(z29 z t).1.length+1≤2*(t.h*t.w)∧(z29 z t).2=(zdl z t).isSome
 | 0,t,hi,hn=>by have:=Nat.mul_pos hi.1 hi.2.1; omega
 | n+1,t,hi,hn=>by
  have:=Nat.mul_pos hi.1 hi.2.1
  cases h1:zxh z t with
  | true=>rw [ybm hi h1,zjr hi h1]; simp; omega
  | false =>
   cases hc:zec z t with
   | none=>rw [z9a hi h1 hc,zkf hi h1 hc]; simp; omega
   | some q =>
    obtain ⟨i1,i2,a1,a2⟩:=hi.cut hc
    have ha:=z0z hc
    obtain ⟨b1,b2⟩:=zy0 n i1 (by omega)
    obtain ⟨c1,c2⟩:=zy0 n i2 (by omega)
    have p1:=Nat.mul_pos i1.1 i1.2.1
    rw [ybl hi h1 hc,zhh hi h1 hc]
    constructor
    ·simp only[List.length_append]
     have:(if q.1 then [(104:UInt8)] else [118]).length=1:=by split <;> rfl
     omega
    rw [b2,c2]
    cases zdl z (t.one q) <;> cases zdl z (t.two q) <;> rfl
def CT.leaves:CT→List Int
 | .leaf a=>[a]
 | .node _ x y=>x.leaves++y.leaves
theorem CT.pos (x:CT):1≤x.leaves.length:=by
 induction x with
 | leaf a=>simp [CT.leaves]
 | node lv x y h1 h2=>simp [CT.leaves]; omega
theorem zf4 (hz:yc6 z H W):∀ (n:Nat) {t:Pt} {x:CT},Whole z H W t→t.h*t.w≤n→zdl z t=some x →
  x.leaves.Nodup∧(∀ v,v∈x.leaves↔∃ a c,t.r≤a∧a<t.r+t.h∧t.c≤c∧c<t.c+t.w∧z a c=v)∧x.leaves.length≤t.h*t.w
 | 0,t,x,hw,hn,_=>by have:=Nat.mul_pos hw.inn.1 hw.inn.2.1; omega
 | n+1,t,x,hw,hn,hx=>by
  have hi:=hw.inn
  have hpos:=Nat.mul_pos hi.1 hi.2.1
  cases h1:zxh z t with
  | true =>
   rw [zjr hi h1]at hx
   cases hx
   have hall:=zpb.1 h1
   refine ⟨by simp [CT.leaves],fun v=>?_,by simp [CT.leaves]; omega⟩
   simp only[CT.leaves,List.mem_singleton]
   constructor
   ·rintro rfl; exact ⟨t.r,t.c,by omega,by have:=hi.1; omega,by omega,by have:=hi.2.1; omega,rfl⟩
   rintro ⟨a,c,e1,e2,e3,e4,rfl⟩
   have:=hall (a - t.r) (c - t.c) (by omega) (by omega)
   rwa [show t.r+(a - t.r)=a by omega,show t.c+(c - t.c)=c by omega]at this
  | false =>
   cases hc:zec z t with
   | none=>rw [zkf hi h1 hc]at hx; cases hx
   | some q =>
    obtain ⟨i1,i2,a1,a2⟩:=hi.cut hc
    obtain ⟨w1,w2⟩:=hw.cut hz hc
    have ha:=z0z hc
    rw [zhh hi h1 hc]at hx
    cases hx1:zdl z (t.one q) with
    | none=>rw [hx1]at hx; cases hx
    | some x1 =>
     cases hx2:zdl z (t.two q) with
     | none=>rw [hx1,hx2]at hx; cases hx
     | some x2 =>
      rw [hx1,hx2]at hx
      cases hx
      obtain ⟨b1,b2,b3⟩:=zf4 hz n w1 (by omega) hx1
      obtain ⟨c1,c2,c3⟩:=zf4 hz n w2 (by omega) hx2
      obtain ⟨k1,k2⟩:=zg0 hc
      refine ⟨?_,fun v=>?_,by simp [CT.leaves]; omega⟩
      ·simp only[CT.leaves,List.nodup_append]
       refine ⟨b1,c1,fun v hv u hu e=>?_⟩
       subst e
       obtain ⟨a,c,e1,e2,e3,e4,e5⟩:=(b2 v).1 hv
       obtain ⟨a',c',f1,f2,f3,f4,f5⟩:=(c2 v).1 hu
       have hin1:=i1; have hin2:=i2
       unfold Pt.In at hin1 hin2
       have:=w1.all a c a' c' (by omega) (by omega) (by omega) (by omega) (e5.trans f5.symm) e1 e2 e3 e4
       obtain ⟨lv,k⟩:=q
       cases lv <;> simp only[Pt.one,Pt.two,qF,if_false,if_true] at * <;> omega
      simp only[CT.leaves,List.mem_append,b2,c2]
      obtain ⟨lv,k⟩:=q
      cases lv with
      | true =>
       simp only[Pt.one,Pt.two,if_true] at *
       constructor
       ·rintro (⟨a,c,e1,e2,e3,e4,e5⟩ | ⟨a,c,e1,e2,e3,e4,e5⟩)
        ·exact ⟨a,c,e1,by omega,e3,e4,e5⟩
        exact ⟨a,c,by omega,by omega,e3,e4,e5⟩
       rintro ⟨a,c,e1,e2,e3,e4,e5⟩
       rcases Nat.lt_or_ge a (t.r+k) with h | h
       ·exact .inl ⟨a,c,e1,h,e3,e4,e5⟩
       exact .inr ⟨a,c,h,by omega,e3,e4,e5⟩
      | false =>
       simp only[Pt.one,Pt.two,qF,if_false] at *
       constructor
       ·rintro (⟨a,c,e1,e2,e3,e4,e5⟩ | ⟨a,c,e1,e2,e3,e4,e5⟩)
        ·exact ⟨a,c,e1,e2,e3,by omega,e5⟩
        exact ⟨a,c,e1,e2,by omega,by omega,e5⟩
       rintro ⟨a,c,e1,e2,e3,e4,e5⟩
       rcases Nat.lt_or_ge c (t.c+k) with h | h
       ·exact .inl ⟨a,c,e1,e2,e3,h,e5⟩
       exact .inr ⟨a,c,e1,e2,h,by omega,e5⟩
end
theorem zup:∀ {n:Nat} {l:List Int},l.Nodup→(∀ x∈l,0≤x∧x<n)→l.length≤n
 | 0,l,_,hb=>by
  cases l with
  | nil=>simp
  | cons a l=>have:=hb a (by simp); omega
 | n+1,l,h,hb=>by
  by_cases hm:(n:Int)∈l
  ·obtain ⟨l1,l2,rfl⟩:=List.append_of_mem hm
   have hnd:=List.nodup_append.1 h
   have:=zup (n:=n) (l:=l1++l2) (h.sublist (by simp)) fun x hx=>by
    have h1:=hb x (by rcases List.mem_append.1 hx with h9 | h9 <;> simp [h9])
    have h2:x≠n:=by
     rintro rfl
     rcases List.mem_append.1 hx with h9 | h9
     ·exact hnd.2.2 _ h9 _ (by simp) rfl
     exact (List.nodup_cons.1 hnd.2.1).1 h9
    omega
   simp at this ⊢; omega
  have:=zup (n:=n) h fun x hx=>by
   have h1:=hb x hx
   have h2:x≠n:=by rintro rfl; exact hm hx
   omega
  omega
end
section
section
variable {M:List (List Bool)} {ms:List Nat} {ws:List Int} {n:Nat} {rk:Nat→Nat}
def revM (n:Nat) (M:List (List Bool)):List (List Bool):=(List.range n).map fun a=>(List.range n).map fun b=>zc2 M b a
def bhB (sets:List Nat) (needs:List Int) (a:Nat) (out:List Int) (b:Nat):List Int :=
 if zpv sets a b then out.set a (max (zk4 out a) (zk4 out b+zk4 needs b)) else out
def bhA (sets:List Nat) (needs:List Int) (out:List Int) (a:Nat):List Int:=(List.range needs.length).foldl (bhB sets needs a) out
def bhN (sets:List Nat) (needs:List Int) (out:List Int) (_:Nat):List Int:=(List.range needs.length).foldl (bhA sets needs) out
def behind (sets:List Nat) (needs:List Int):List Int:=(List.range needs.length).foldl (bhN sets needs) (List.replicate needs.length 0)
end
end
def domB (x:Int × Int) (w h:Int):Bool:=decide (x.1≤w) && decide (x.2≤h)
def yee (w h:Int) (s:List (Int × Int) × Bool) (x:Int × Int):List (Int × Int) × Bool :=
 if w≤x.1∧h≤x.2 then s else if s.2=false∧w<x.1 then (s.1++[(w,h),x],true) else (s.1++[x],s.2)
def yhf (l:List (Int × Int)) (w h:Int):List (Int × Int) × Bool:=l.foldl (yee w h) ([],false)
def put (l:List (Int × Int)) (w h:Int):List (Int × Int):=if l.any (fun x=>domB x w h) then l else if (yhf l w h).2 then (yhf l w h).1 else (yhf l w h).1++[(w,h)]
section
theorem z8o {f:Nat→Bool}:∀ {n:Nat},(∀ r s,r<n→s<n→f r=true→f s=true→r=s)→sN n (fun r=>b1 (f r))≤1:=by
 intro n
 induction n with
 | zero=>intro _; simp [sN]
 | succ n ih =>
  intro h
  show sN n (fun r=>b1 (f r))+b1 (f n)≤1
  have:=ih fun r s hr hs=>h r s (by omega) (by omega)
  cases hf:f n with
  | false=>simp [b1]; exact this
  | true =>
   have e:sN n (fun r=>b1 (f r))=sN n (fun _=>0):=zex fun i hi=>by
    cases hi2:f i with
    | false=>rfl
    | true=>have:=h i n (by omega) (by omega) hi2 hf; omega
   rw [e,zri]; simp [b1]
section
variable {M:List (List Bool)} {ws:List Int} {n:Nat} {rk:Nat→Nat}
theorem yfm (b:Nat):0≤beg M ws n b:=z6f n
theorem yfl {a b:Nat} (ha:a<n) (h:zc2 M a b=true):HB M ws n a≤beg M ws n b:=yca ha h
end
end

def Pat (g1 g2:List (List Int)) (H W:Nat):Prop:=∀ i j i' j',i<H→j<W→i'<H→j'<W→(gz g1 i j=gz g1 i' j'↔gz g2 i j=gz g2 i' j')
theorem Pat.symm {g1 g2:List (List Int)} {H W:Nat} (h:Pat g1 g2 H W):Pat g2 g1 H W:=fun i j i' j' a b c d=>(h i j i' j' a b c d).symm
theorem Pat.trans {g1 g2 g3:List (List Int)} {H W:Nat} (h:Pat g1 g2 H W) (k:Pat g2 g3 H W):Pat g1 g3 H W:=fun i j i' j' a b c d=>(h i j i' j' a b c d).trans (k i j i' j' a b c d)
structure KC (g1 g2:List (List Int)) (H W:Nat) (k1 k2:List Int):Prop where
 len:k1.length=k2.length
 at_:∀ i j,i<H→j<W→k1.idxOf (gz g1 i j)=k2.idxOf (gz g2 i j)
theorem zst {l:List Int} {z x:Int} (h:l.idxOf x=l.length):(l++[z]).idxOf x=if x=z then l.length else l.length+1:=by
 have hn:=zqe h
 rw [List.idxOf_append,if_neg hn]
 by_cases e:x=z
 ·subst e; simp
 rw [if_neg e]
 have e2:(z == x)=false:=by simpa using fun h=>e h.symm
 simp [List.idxOf_cons,e2]
 omega
theorem KC.step {g1 g2:List (List Int)} {H W:Nat} (hp:Pat g1 g2 H W) {k1 k2:List Int} (h:KC g1 g2 H W k1 k2) {a b:Nat} (ha:a<H) (hb:b<W):KC g1 g2 H W (zie k1 (gz g1 a b)) (zie k2 (gz g2 a b)):=by
 have h1:=h.at_ a b ha hb
 unfold zie
 by_cases e:k1.idxOf (gz g1 a b)=k1.length
 ·have e2:k2.idxOf (gz g2 a b)=k2.length:=by rw [← h1,e,h.len]
  rw [if_pos e,if_pos e2]
  refine ⟨by simp [h.len],fun i j hi hj=>?_⟩
  have h2:=h.at_ i j hi hj
  have hpt:=hp i j a b hi hj ha hb
  by_cases q:k1.idxOf (gz g1 i j)=k1.length
  ·have q2:k2.idxOf (gz g2 i j)=k2.length:=by rw [← h2,q,h.len]
   rw [zst q,zst q2,h.len]
   by_cases r:gz g1 i j=gz g1 a b
   ·rw [if_pos r,if_pos (hpt.1 r)]
   rw [if_neg r,if_neg fun x=>r (hpt.2 x)]
  have q2:¬ k2.idxOf (gz g2 i j)=k2.length:=by rw [← h2,← h.len]; exact q
  rw [zqd q,zqd q2,h2]
 have e2:¬ k2.idxOf (gz g2 a b)=k2.length:=by rw [← h1,← h.len]; exact e
 rw [if_neg e,if_neg e2]
 exact h
theorem z8s {k1 k2 rs:List Int} {R:List Rect} {z1 z2:Int} {q:Rect} (hl:k1.length=k2.length) (hi:k1.idxOf z1=k2.idxOf z2):zpl k1 R z1 q=zpl k2 R z2 q:=by
 unfold zpl zi5
 rw [hl,hi]
theorem znu {g1 g2:List (List Int)} {H W:Nat} (hp:Pat g1 g2 H W) {i:Nat} (hi:i<H) {s1 s2:List Int × List Rect} (h:KC g1 g2 H W s1.1 s2.1) (hr:s1.2=s2.2):∀ j,j≤W →
  KC g1 g2 H W (zd0 g1 i s1 j).1 (zd0 g2 i s2 j).1∧(zd0 g1 i s1 j).2=(zd0 g2 i s2 j).2
 | 0,_=>⟨h,hr⟩
 | j+1,hj=>by
  obtain ⟨h1,h2⟩:=znu hp hi h hr j (by omega)
  unfold zd0
  refine ⟨h1.step hp hi (by omega),?_⟩
  show zpl _ _ _ _=zpl _ _ _ _
  rw [h2]
  exact z8s (rs:=[]) h1.len (h1.at_ i j hi (by omega))
theorem zli {g1 g2:List (List Int)} {H W:Nat} (hp:Pat g1 g2 H W):∀ i,i≤H→KC g1 g2 H W (zap g1 W i).1 (zap g2 W i).1∧(zap g1 W i).2=(zap g2 W i).2
 | 0,_=>⟨⟨rfl,fun _ _ _ _=>rfl⟩,rfl⟩
 | i+1,hi=>by
  obtain ⟨h1,h2⟩:=zli hp i (by omega)
  exact znu hp (by omega) h1 h2 W (qR _)
theorem zy6 {g1 g2:List (List Int)} {H W:Nat} (hp:Pat g1 g2 H W) {i:Nat} (hi:i<H) {s1 s2:List Int × List Rect} (h:KC g1 g2 H W s1.1 s2.1) (hr:s1.2=s2.2):∀ j,j≤W→znz g1 i s1 j=znz g2 i s2 j
 | 0,_=>rfl
 | j+1,hj=>by
  unfold znz
  rw [zy6 hp hi h hr j (by omega),(znu hp hi h hr j (by omega)).1.at_ i j hi (by omega)]
theorem zt0 {g1 g2:List (List Int)} {H W:Nat} (hp:Pat g1 g2 H W):∀ i,i≤H→ze4 g1 W i=ze4 g2 W i
 | 0,_=>rfl
 | i+1,hi=>by
  obtain ⟨h1,h2⟩:=zli hp i (by omega)
  unfold ze4
  rw [zt0 hp i (by omega),zy6 hp (by omega) h1 h2 W (qR _)]
theorem GW.w0 {g:List (List Int)} {H W:Nat} (h:GW g H W):w0 g=W:=by
 obtain ⟨row,hrow,hl,-⟩:=h.at_ (show 0<H by have:=h.2.2.1; omega) (show 0<W by have:=h.2.2.2.2.1; omega)
 rw [ybr hrow,hl]
theorem GW.zG {g:List (List Int)} {H W:Nat} (h:GW g H W):zG g=ze4 g W H∧stG g=zap g W H:=by
 unfold Fw.zG stG; rw [h.w0,h.1]; exact ⟨rfl,rfl⟩
theorem ye7 {g:List (List Int)} {H W i j:Nat} (h:GW g H W) (hi:i<H) (hj:j<W):gz (zG g) i j=(((zap g W H).1.idxOf (gz g i j):Nat):Int):=by
 rw [h.zG.1]
 unfold gz
 rw [zkg hi,Option.getD_some,z0u hj,Option.getD_some]
 congr 1
 exact zNum hi hj
theorem zy5 {g:List (List Int)} {H W:Nat} (h:GW g H W):GW (zG g) H W:=by
 rw [h.zG.1]
 refine ⟨zc4 _,fun r hr=>?_,h.2.2⟩
 obtain ⟨k,hk⟩:=List.getElem?_of_mem hr
 have:=zb7 hk
 rw [zc4]at this
 rw [zkg this]at hk
 cases hk
 exact zfq _
theorem z9l {g:List (List Int)} {H W i j:Nat} (hi:i<H) (hj:j<W):gz g i j∈(zap g W H).1:=(SeInv.rows (g:=g) (W:=W) H).mem i j (zo6 hi hj)
theorem yc4 {g:List (List Int)} {H W:Nat} (h:GW g H W):Pat (zG g) g H W:=by
 intro i j i' j' hi hj hi' hj'
 rw [ye7 h hi hj,ye7 h hi' hj']
 constructor
 ·intro e
  have h1:=zh9 (ks:=(zap g W H).1) (z:=gz g i j) (by have:=List.idxOf_lt_length_iff.2 (z9l (g:=g) hi hj); omega)
  have h2:=zh9 (ks:=(zap g W H).1) (z:=gz g i' j') (by have:=List.idxOf_lt_length_iff.2 (z9l (g:=g) hi' hj'); omega)
  rw [show (zap g W H).1.idxOf (gz g i j)=(zap g W H).1.idxOf (gz g i' j') by omega,h2]at h1
  exact (Option.some.inj h1).symm
 intro e; rw [e]
theorem yho {g:List (List Int)} {H W i j:Nat} (h:GW g H W) (hi:i<H) (hj:j<W):0≤gz (zG g) i j∧gz (zG g) i j<(zap g W H).2.length:=by
 rw [ye7 h hi hj]
 have h1:=List.idxOf_lt_length_iff.2 (z9l (g:=g) hi hj)
 have h2:=(SeInv.rows (g:=g) (W:=W) H).len
 omega
theorem zth {g:List (List Int)} {H W i j:Nat} (h:GW g H W) (hi:i<H) (hj:j<W) (h0:0≤gz g i j) (h1:gz g i j≤100):gz (zb5 (zf3 g)) i j=gz g i j+97:=by
 obtain ⟨row,hrow,hl,hx⟩:=h.at_ hi hj
 have e1:(zb5 (zf3 g))[i]?=some (zvz (zrg row)):=by simp [zb5,zm2 hrow]
 have e2:(zvz (zrg row))[j]?=some ((z6w (gz g i j)).toNat:Int):=by simp [zvz,zrg,hx]
 have e3:gz (zb5 (zf3 g)) i j=((z6w (gz g i j)).toNat:Int):=by
  conv=>lhs; unfold gz
  rw [e1,Option.getD_some,e2,Option.getD_some]
 rw [e3]
 unfold z6w
 rw [UInt8.toNat_ofNat_of_lt' (by show 97+(gz g i j).toNat<256; omega)]
 omega
theorem z85 {g:List (List Int)} {H W:Nat} (h:GW g H W):(zf3 g).length=H∧(zam (zf3 g)).length=W:=by
 refine ⟨by rw [zyx,h.1],?_⟩
 obtain ⟨row,hrow,hl,-⟩:=h.at_ (show 0<H by have:=h.2.2.1; omega) (show 0<W by have:=h.2.2.2.2.1; omega)
 rw [zcz (zm2 hrow)]
 simp [zrg,hl]
theorem z84 {g:List (List Int)} {H W:Nat} (h:GW g H W) (hz:∀ i j,i<H→j<W→0≤gz g i j∧gz g i j<26):zc5 (zf3 g)=true:=by
 obtain ⟨t1,t2⟩:=z85 h
 unfold zc5
 rw [t1,t2]
 have h2:=h.2.2
 have:(zf3 g).all (ztk W)=true:=by
  rw [List.all_eq_true]
  intro r hr
  obtain ⟨i,hi⟩:=List.getElem?_of_mem hr
  have hil:=zb7 hi
  rw [t1]at hil
  obtain ⟨row,hrow,hrm⟩:=zag (show i<g.length by rw [h.1]; exact hil)
  have hrl:=h.2.1 row hrm
  rw [zm2 hrow]at hi
  cases hi
  unfold ztk
  simp only[qB,decide_eq_true_eq,List.all_eq_true]
  refine ⟨⟨⟨by simp [zrg,hrl],by simp [zrg]; omega⟩,by simp [zrg]; omega⟩,fun c hc=>?_⟩
  obtain ⟨z,hzm,rfl⟩:=List.mem_map.1 hc
  obtain ⟨j,hj⟩:=List.getElem?_of_mem hzm
  have hjl:=zb7 hj
  have e:gz g i j=z:=by simp [gz,hrow,hj]
  have:=hz i j hil (by omega)
  rw [e]at this
  unfold zc9 z6w
  rw [UInt8.toNat_ofNat_of_lt' (by show 97+z.toNat<256; omega)]
  simp only[qB,decide_eq_true_eq]
  omega
 rw [this]
 simp only[Bool.true_and,qB,decide_eq_true_eq]
 omega
def nm (g:List (List Int)):List Txt:=zf3 (zG g)
structure NmOk (g:List (List Int)) (H W:Nat):Prop where
 gw:GW g H W
 le:(zap g W H).2.length≤9
theorem NmOk.bound {g:List (List Int)} {H W:Nat} (h:NmOk g H W) {i j:Nat} (hi:i<H) (hj:j<W):0≤gz (zG g) i j∧gz (zG g) i j≤8:=by
 have h1:=yho h.gw hi hj
 have h2:=h.le
 omega
theorem NmOk.hd {g:List (List Int)} {H W:Nat} (h:NmOk g H W):(nm g).length=H∧(zam (nm g)).length=W:=z85 (zy5 h.gw)
theorem NmOk.pat {g:List (List Int)} {H W:Nat} (h:NmOk g H W):Pat (zb5 (nm g)) g H W:=by
 refine Pat.trans (fun i j i' j' hi hj hi' hj'=>?_) (yc4 h.gw)
 have b1:=h.bound hi hj
 have b2:=h.bound hi' hj'
 unfold nm
 rw [zth (zy5 h.gw) hi hj b1.1 (by omega),zth (zy5 h.gw) hi' hj' b2.1 (by omega)]
 constructor <;> intro e <;> omega
theorem NmOk.gP {g:List (List Int)} {H W:Nat} (h:NmOk g H W):gP (nm g)=zG g∧rP (nm g)=(zap g W H).2:=by
 rw [z3p,z71,h.hd.1,h.hd.2,h.gw.zG.1]
 exact ⟨zt0 h.pat H (qR _),(zli h.pat H (qR _)).2⟩
theorem NmOk.named {g:List (List Int)} {H W:Nat} (h:NmOk g H W):Named (nm g):=by
 refine ⟨z84 (zy5 h.gw) fun i j hi hj=>by have:=h.bound hi hj; omega,?_⟩
 rw [h.gP.1]; rfl
theorem NmOk.cell {g:List (List Int)} {H W:Nat} (h:NmOk g H W) {i j:Nat} (hi:i<H) (hj:j<W):zal (nm g) i j=gz (zG g) i j:=by
 rw [← h.named.cell (by rw [h.hd.1]; exact hi) (by rw [h.hd.2]; exact hj),h.gP.1]
theorem Named.okB {p:List Txt} (h:Named p) (hn:(rP p).length≤9):okB p=true:=by
 unfold Fw.okB okS
 have hg:=h.hg
 rw [z1q,qB]at hg
 rw [hg.1,hg.2]
 show decide ((rP p).length≤9)=true
 exact decide_eq_true hn
theorem Named.full_of {p:List Txt} (h:Named p) (hr:∀ {i j i' j':Nat} (k l:Nat),i<p.length→i'<p.length→j<(zam p).length→j'<(zam p).length→zal p i j=zal p i' j'→min i i'≤k→k≤max i i'→min j j'≤l→l≤max j j'→zal p k l=zal p i j):zh7 (zb5 p)=true:=by
 rw [h.full]
 intro m hm
 obtain ⟨b,hb,-⟩:=zag hm
 rw [zv4 hb]
 refine zwb fun i j hi hj=>?_
 have hrect:=h.rect hb
 have hin:=(zmo hrect).2
 rw [Bool.eq_iff_iff]
 constructor
 ·intro hz
  exact hin i j hi hj (by unfold inZ at hz; simpa using hz)
 intro hb2
 obtain ⟨a1,b1,⟨v1,g1⟩,e1⟩:=hrect.at_
 obtain ⟨a2,b2,⟨v2,g2⟩,e2⟩:=hrect.al
 obtain ⟨a3,b3,⟨v3,g3⟩,e3⟩:=hrect.ao
 obtain ⟨a4,b4,⟨v4,g4⟩,e4⟩:=hrect.ar
 unfold Gone at g1 g2 g3 g4
 have i1:=hrect.inn _ _ ⟨v1,g1⟩
 have i2:=hrect.inn _ _ ⟨v2,g2⟩
 have i3:=hrect.inn _ _ ⟨v3,g3⟩
 have i4:=hrect.inn _ _ ⟨v4,g4⟩
 unfold inB at hb2
 simp only[qB,decide_eq_true_eq]at hb2
 have c1:=hr (i:=a1) (j:=b1) (i':=a2) (j':=b2) a1 b2 (by omega) (by omega) (by omega) (by omega) (by omega) (by omega) (by omega) (by omega) (by omega)
 have c2:=hr (i:=a3) (j:=b3) (i':=a4) (j':=b4) a3 b4 (by omega) (by omega) (by omega) (by omega) (by omega) (by omega) (by omega) (by omega) (by omega)
 have c3:=hr (i:=a1) (j:=b2) (i':=a3) (j':=b4) i j (by omega) (by omega) (by omega) (by omega) (by omega) (by omega) (by omega) (by omega) (by omega)
 unfold inZ
 exact decide_eq_true (by omega)
structure Cells (c:Nat→Nat→Nat) (g:List (List Int)) (H W:Nat):Prop where
 gw:GW g H W
 at_:∀ i j,i<H→j<W→gz g i j=((c i j:Nat):Int)
structure Ren (c:Nat→Nat→Nat) (H W:Nat) (t:List Txt):Prop where
 hl:t.length=H
 wl:(zam t).length=W
 pat:∀ i j i' j',i<H→j<W→i'<H→j'<W→(cn (gP t) i j=cn (gP t) i' j'↔c i j=c i' j')
theorem z67 {c:Nat→Nat→Nat} {g:List (List Int)} {H W:Nat} (hc:Cells c g H W) (h9:(zap g W H).2.length≤9)
  (hr:∀ {i j i' j':Nat} (k l:Nat),i<H→i'<H→j<W→j'<W→c i j=c i' j'→min i i'≤k→k≤max i i'→min j j'≤l→l≤max j j'→c k l=c i j) :
  zbq (nm g)=true∧Ren c H W (nm g):=by
 have h:NmOk g H W:=⟨hc.gw,h9⟩
 have hN:=h.named
 obtain ⟨l1,l2⟩:=h.hd
 have hpat:∀ i j i' j',i<H→j<W→i'<H→j'<W→(gz (zG g) i j=gz (zG g) i' j'↔c i j=c i' j'):=by
  intro i j i' j' hi hj hi' hj'
  rw [yc4 hc.gw i j i' j' hi hj hi' hj',hc.at_ i j hi hj,hc.at_ i' j' hi' hj']
  omega
 constructor
 ·rw [← zel]
  unfold zfu zod
  have hf:zh7 (zb5 (nm g))=true:=by
   refine hN.full_of fun {i j i' j'} k l hi hi' hj hj' e h1 h2 h3 h4=>?_
   rw [l1]at hi hi'
   rw [l2]at hj hj'
   rw [h.cell hi hj,h.cell hi' hj']at e
   rw [h.cell (by omega) (by omega),h.cell hi hj]
   exact (hpat _ _ _ _ (by omega) (by omega) hi hj).2 (hr k l hi hi' hj hj' ((hpat _ _ _ _ hi hj hi' hj').1 e) h1 h2 h3 h4)
  rw [hN.okB (by rw [h.gP.2]; exact h9),hf,decide_eq_true hN.ht]
  rfl
 refine ⟨l1,l2,fun i j i' j' hi hj hi' hj'=>?_⟩
 rw [← hpat i j i' j' hi hj hi' hj',h.gP.1]
 have b1:=h.bound hi hj
 have b2:=h.bound hi' hj'
 unfold cn
 omega
theorem pig0 {σ:Nat→Nat} {n m:Nat} (h:∀ a,a<n→σ a<m) (hi:∀ a b,a<n→b<n→σ a=σ b→a=b):n≤m:=by
 have h1:sN n (fun a=>sN m fun b=>b1 (decide (σ a=b)))=n:=by
  have:sN n (fun a=>sN m fun b=>b1 (decide (σ a=b)))=sN n (fun _=>1):=by
   refine zex fun a ha=>?_
   have hs:∀ {k:Nat} (v:Nat),v<k→sN k (fun b=>b1 (decide (v=b)))=1:=by
    intro k
    induction k with
    | zero=>intro v hv; omega
    | succ k ih =>
     intro v hv
     unfold sN
     by_cases e:v=k
     ·subst e
      have hz:sN v (fun b=>b1 (decide (v=b)))=0:=by
       rw [← zri v]
       exact zex fun b hb=>by rw [decide_eq_false (by omega)]; rfl
      rw [hz]; simp [b1]
     rw [ih v (by omega)]; simp [b1,e]
   exact hs _ (h a ha)
  rw [this,z2s]
 rw [zvf]at h1
 have h2:sN m (fun b=>sN n fun a=>b1 (decide (σ a=b)))≤sN m (fun _=>1) :=
  z4p fun b hb=>z8o fun r s hr hs e1 e2=>hi r s hr hs (by rw [of_decide_eq_true e1,of_decide_eq_true e2])
 rw [z2s]at h2
 omega
theorem z33 {c:Nat→Nat→Nat} {g:List (List Int)} {H W:Nat} (hc:Cells c g H W) (h9:(zap g W H).2.length≤9)
  (hr:∀ {i j i' j':Nat} (k l:Nat),i<H→i'<H→j<W→j'<W→c i j=c i' j'→min i i'≤k→k≤max i i'→min j j'≤l→l≤max j j'→c k l=c i j):okS g=true∧zh7 g=true:=by
 have hpl:=(z67 hc h9 hr).1
 have h:NmOk g H W:=⟨hc.gw,h9⟩
 have hz:=hc.gw.zG
 have hf:=zx2 hpl
 constructor
 ·unfold okS
  rw [hz.2]
  have:okG g=true:=by rw [zqt,hc.gw.1,hc.gw.w0]; exact hc.gw
  rw [this]
  simpa using h9
 unfold zh7 at hf ⊢
 have e1:(stG (zb5 (nm g))).2=(stG g).2:=by rw [hz.2]; exact h.gP.2
 rw [e1,zdz,zf5,h.hd.1,h.hd.2]at hf
 rw [hc.gw.1,hc.gw.w0]
 exact hf
theorem z8i {c:Nat→Nat→Nat} {g:List (List Int)} {H W n:Nat} (hc:Cells c g H W) (hn:∀ i j,i<H→j<W→c i j<n):(zap g W H).2.length≤n:=by
 have hi:=SeInv.rows (g:=g) (W:=W) H
 rw [hi.len]
 have hk:∀ m,m<(zap g W H).1.length→∃ i j,i<H∧j<W∧(zap g W H).1[m]?=some ((c i j:Nat):Int):=by
  intro m hm
  obtain ⟨v,hv,-⟩:=zag hm
  obtain ⟨b,hb,-⟩:=zag (show m<(zap g W H).2.length by rw [hi.len]; exact hm)
  obtain ⟨i,j,⟨hz,hj,hij⟩,-⟩:=(hi.hull m v b hv hb).at_
  have hi2:i<H:=by omega
  exact ⟨i,j,hi2,hj,by rw [hv,← hz,hc.at_ i j hi2 hj]⟩
 have key:=pig0 (σ:=fun m=>((zap g W H).1[m]?.getD 0).toNat) (n:=(zap g W H).1.length) (m:=n) (fun m hm=>by
  obtain ⟨i,j,q1,q2,q3⟩:=hk m hm
  have:=hn i j q1 q2
  simp only[q3,Option.getD_some,Int.toNat_natCast]
  exact this) (fun a b ha hb e=>by
  obtain ⟨i,j,q1,q2,q3⟩:=hk a ha
  obtain ⟨i',j',r1,r2,r3⟩:=hk b hb
  simp only[q3,r3,Option.getD_some,Int.toNat_natCast]at e
  exact zl8 hi.nd q3 (by rw [r3,e]))
 exact key
section
theorem pig {σ:Nat→Nat} {n m:Nat} (h:∀ a,a<n→σ a<m) (hi:∀ a b,a<n→b<n→σ a=σ b→a=b):n≤m:=pig0 h hi
variable {c c':Nat→Nat→Nat} {H W:Nat}
theorem Pl.ren (h:Pl c H W) (hp:∀ i j i' j',i<H→j<W→i'<H→j'<W→(c' i j=c' i' j'↔c i j=c i' j')):Pl c' H W:=by
 refine ⟨fun {i j i' j'} k l h1 h2 h3 h4 h5 h6 h7 h8 h9=>?_,fun {i j} h1 h2 h3 h4 h5=>?_⟩
 ·exact (hp _ _ _ _ (by omega) (by omega) h1 h3).2 (h.rect k l h1 h2 h3 h4 ((hp _ _ _ _ h1 h3 h2 h4).1 h5) h6 h7 h8 h9)
 refine (hp _ _ _ _ (by omega) h2 h1 h2).2 (h.plain h1 h2 (fun e=>h3 ?_) (fun e=>h4 ?_) fun e=>h5 ?_)
 ·exact (hp _ _ _ _ (by omega) (by omega) (by omega) h2).2 e
 ·exact (hp _ _ _ _ h1 (by omega) h1 h2).2 e
 exact (hp _ _ _ _ (by omega) (by omega) h1 (by omega)).2 e
theorem ztf {g:List (List Int)} {i:Nat}:∀ {w:Nat},(∀ k,1≤k→k<w→dn (four g i k)≠4)→zdy g 4 i w=0
 | 0,_=>rfl
 | w+1,h=>by
  unfold zdy
  rw [ztf fun k h1 h2=>h k h1 (by omega)]
  by_cases e:1≤w
  ·have:=h w e (by omega)
   rw [if_neg (by omega)]; rfl
  rw [if_neg (by omega)]; rfl
theorem z7w {g:List (List Int)} {w:Nat}:∀ {n:Nat},(∀ i k,1≤i→i<n→1≤k→k<w→dn (four g i k)≠4)→zuz g 4 w n=0
 | 0,_=>rfl
 | n+1,h=>by
  unfold zuz
  rw [z7w fun i k h1 h2 h3 h4=>h i k h1 (by omega) h3 h4]
  by_cases e:1≤n
  ·rw [if_pos e,ztf fun k h1 h2=>h n k e (by omega) h1 h2]; rfl
  rw [if_neg e]; rfl
theorem ydh {a b x d:Int} (h:dn [a,b,x,d]=4):a≠b∧a≠x∧x≠d∧b≠d:=by
 unfold dn dn dn dn dn at h
 simp only[List.mem_cons,List.not_mem_nil,or_false,if_false]at h
 refine ⟨fun e=>?_,fun e=>?_,fun e=>?_,fun e=>?_⟩
 all_goals
  subst e
  simp at h
  repeat' split at h
  all_goals omega
theorem yay {t:List Txt} (ht:zbq t=true) (h:Pl (cn (gP t)) t.length (zam t).length):zbe t=true:=by
 rw [← zdq]
 unfold zdi
 rw [zel,ht,Bool.true_and,decide_eq_true_eq,zf5]
 refine z7w fun i k h1 h2 h3 h4 e=>?_
 obtain ⟨i,rfl⟩:∃ m,i=m+1:=⟨i - 1,by omega⟩
 obtain ⟨k,rfl⟩:∃ m,k=m+1:=⟨k - 1,by omega⟩
 obtain ⟨d1,d2,d3,d4⟩:=ydh e
 simp only[Nat.add_sub_cancel]at d1 d2 d3 d4
 have hrm:=zfy (p:=t)
 have n1:=(hrm.ne (i:=i) (j:=k) (i':=i) (j':=k+1) (by omega) (by omega) (by omega) h4).1 d1
 have n2:=(hrm.ne (i:=i) (j:=k) (i':=i+1) (j':=k) (by omega) (by omega) h2 (by omega)).1 d2
 have n3:=(hrm.ne (i:=i+1) (j:=k) (i':=i+1) (j':=k+1) h2 (by omega) h2 h4).1 d3
 have n4:=(hrm.ne (i:=i) (j:=k+1) (i':=i+1) (j':=k+1) (by omega) h4 h2 h4).1 d4
 exact n4 (h.plain h2 h4 n1 n3 n2)
theorem ycv (hp:∀ i j i' j',i<H→j<W→i'<H→j'<W→(c' i j=c' i' j'↔c i j=c i' j')):∃ σ:Nat→Nat,∀ i j,i<H→j<W→c' i j=σ (c i j):=by
 refine ⟨fun v => @dite _ (∃ q:Nat × Nat,q.1<H∧q.2<W∧c q.1 q.2=v) (Classical.propDecidable _) (fun h=>c' h.choose.1 h.choose.2) fun _=>0,fun i j hi hj=>?_⟩
 have hx:∃ q:Nat × Nat,q.1<H∧q.2<W∧c q.1 q.2=c i j:=⟨(i,j),hi,hj,rfl⟩
 simp only
 rw [dif_pos hx]
 obtain ⟨h1,h2,h3⟩:=hx.choose_spec
 exact ((hp _ _ _ _ h1 h2 hi hj).2 h3).symm
theorem DL.ren {σ:Nat→Nat} (hσ:∀ i j,i<H→j<W→c' i j=σ (c i j)) (hp:∀ i j i' j',i<H→j<W→i'<H→j'<W→(c' i j=c' i' j'↔c i j=c i' j')) {a b:Nat} (h:DL c H W a b):DL c' H W (σ a) (σ b):=by
 obtain ⟨j,i1,i2,h1,h2,h3,run,rfl,rfl⟩:=h
 exact ⟨j,i1,i2,h1,h2,h3,fun r r1 r2 e=>run r r1 r2 ((hp _ _ _ _ (by omega) (by omega) (by omega) h1).1 e),(hσ _ _ h2 (by omega)).symm,(hσ _ _ h3 h1).symm⟩
theorem DU.ren {σ:Nat→Nat} (hσ:∀ i j,i<H→j<W→c' i j=σ (c i j)) (hp:∀ i j i' j',i<H→j<W→i'<H→j'<W→(c' i j=c' i' j'↔c i j=c i' j')) {a b:Nat} (h:DU c H W a b):DU c' H W (σ a) (σ b):=by
 obtain ⟨i,j1,j2,h1,h2,h3,run,rfl,rfl⟩:=h
 exact ⟨i,j1,j2,h1,h2,h3,fun r r1 r2 e=>run r r1 r2 ((hp _ _ _ _ (by omega) (by omega) h1 (by omega)).1 e),(hσ _ _ (by omega) h2).symm,(hσ _ _ h1 h3).symm⟩
theorem TC.map {R S:Nat→Nat→Prop} {f:Nat→Nat} (h:∀ a b,R a b→S (f a) (f b)) {a b:Nat} (k:TC R a b):TC S (f a) (f b):=by
 induction k with
 | one k=>exact .one (h _ _ k)
 | tail _ k ih=>exact .tail ih (h _ _ k)
structure Iso (p t:List Txt) (L U:Nat→Nat→Prop) (σ:Nat→Nat):Prop where
 pl:zbe t=true
 n:(rP t).length=(rP p).length
 lt:∀ a,a<(rP p).length→σ a<(rP p).length
 inj:∀ a b,a<(rP p).length→b<(rP p).length→σ a=σ b→a=b
 lf:∀ a b,a<(rP p).length→b<(rP p).length→(Lf t (σ a) (σ b)↔L a b)
 ab:∀ a b,a<(rP p).length→b<(rP p).length→(Ab t (σ a) (σ b)↔U a b)
theorem yf1 {p t:List Txt} (hlt:∀ i j,i<H→j<W→c i j<(rP p).length) (hs:∀ a,a<(rP p).length→∃ i j,i<H∧j<W∧c i j=a) (hPl:Pl c H W) (ht:zbq t=true) (hR:Ren c H W t) :
  ∃ σ:Nat→Nat,(∀ i j,i<H→j<W→cn (gP t) i j=σ (c i j))∧Iso p t (TC (DL c H W)) (TC (DU c H W)) σ:=by
 obtain ⟨l1,l2,hpat⟩:=hR
 have hpl:zbe t=true:=yay ht (by rw [l1,l2]; exact hPl.ren hpat)
 obtain ⟨σ,hσ⟩:=ycv hpat
 obtain ⟨τ,hτ⟩:=ycv fun i j i' j' a b d e=>(hpat i j i' j' a b d e).symm
 have hrm:=zfy (p:=t)
 have hcl:∀ i j,i<H→j<W→cn (gP t) i j<(rP t).length:=fun i j hi hj=>zt8 hrm (by rw [l1]; exact hi) (by rw [l2]; exact hj)
 have hστ:∀ a,a<(rP p).length→τ (σ a)=a∧σ a<(rP t).length:=by
  intro a ha
  obtain ⟨i,j,hi,hj,rfl⟩:=hs a ha
  rw [← hσ i j hi hj,← hτ i j hi hj]
  exact ⟨rfl,hcl i j hi hj⟩
 have hτσ:∀ b,b<(rP t).length→σ (τ b)=b∧τ b<(rP p).length:=by
  intro b hb
  obtain ⟨i,j,hi,hj,rfl⟩:=zjj hb
  rw [l1]at hi; rw [l2]at hj
  rw [← hτ i j hi hj,← hσ i j hi hj]
  exact ⟨rfl,hlt i j hi hj⟩
 have hn:(rP t).length=(rP p).length:=by
  apply Nat.le_antisymm
  ·exact pig (fun b hb=>(hτσ b hb).2) fun a b ha hb e=>by rw [← (hτσ a ha).1,e,(hτσ b hb).1]
  exact pig (fun a ha=>(hστ a ha).2) fun a b ha hb e=>by rw [← (hστ a ha).1,e,(hστ b hb).1]
 refine ⟨σ,hσ,hpl,hn,fun a ha=>by have:=(hστ a ha).2; omega,fun a b ha hb e=>by rw [← (hστ a ha).1,e,(hστ b hb).1],fun a b ha hb=>?_,fun a b ha hb=>?_⟩
 ·rw [Lf.iff (hστ a ha).2 (hστ b hb).2,l1,l2]
  constructor
  ·intro h
   have:=TC.map (f:=τ) (fun a b=>DL.ren hτ fun i j i' j' q w e r=>(hpat i j i' j' q w e r).symm) h
   rwa [(hστ a ha).1,(hστ b hb).1]at this
  exact TC.map (f:=σ) fun a b=>DL.ren hσ hpat
 rw [Ab.iff (hστ a ha).2 (hστ b hb).2,l1,l2]
 constructor
 ·intro h
  have:=TC.map (f:=τ) (fun a b=>DU.ren hτ fun i j i' j' q w e r=>(hpat i j i' j' q w e r).symm) h
  rwa [(hστ a ha).1,(hστ b hb).1]at this
 exact TC.map (f:=σ) fun a b=>DU.ren hσ hpat
theorem Iso.imp {p t:List Txt} {L U L' U':Nat→Nat→Prop} {σ:Nat→Nat} (h:Iso p t L U σ) (hL:∀ a b,a<(rP p).length→b<(rP p).length→(L a b↔L' a b)) (hU:∀ a b,a<(rP p).length→b<(rP p).length→(U a b↔U' a b)):Iso p t L' U' σ :=
 ⟨h.pl,h.n,h.lt,h.inj,fun a b ha hb=>(h.lf a b ha hb).trans (hL a b ha hb),fun a b ha hb=>(h.ab a b ha hb).trans (hU a b ha hb)⟩
structure Fold1 (f:Nat→Nat) (m n:Nat):Prop where
 pos:1≤m
 z:f 0=0
 s:∀ i,i+1<m→f (i+1)=f i∨f (i+1)=f i+1
 e:f (m - 1)+1=n
theorem Fold1.mono {f:Nat→Nat} {m n:Nat} (h:Fold1 f m n):∀ {i j:Nat},i≤j→j<m→f i≤f j:=by
 intro i j hij
 induction j with
 | zero=>intro _; rw [show i=0 by omega]; exact qR _
 | succ j ih =>
  intro hj
  by_cases e:i=j+1
  ·subst e; exact qR _
  have h1:=ih (by omega) (by omega)
  have:=h.s j hj
  omega
theorem Fold1.lt {f:Nat→Nat} {m n i:Nat} (h:Fold1 f m n) (hi:i<m):f i<n:=by
 have:=h.mono (i:=i) (j:=m - 1) (by omega) (by have:=h.pos; omega)
 have:=h.e
 omega
theorem Fold1.mid {f:Nat→Nat} {m n i:Nat} (h:Fold1 f m n) {v:Nat}:∀ {j:Nat},i≤j→j<m→f i≤v→v≤f j→∃ r,i≤r∧r≤j∧f r=v:=by
 intro j
 induction j with
 | zero=>intro h1 h2 h3 h4; exact ⟨0,by omega,qR _,by rw [show i=0 by omega]at h3; omega⟩
 | succ j ih =>
  intro h1 h2 h3 h4
  by_cases e:f (j+1)=v
  ·exact ⟨j+1,h1,qR _,e⟩
  by_cases e2:i=j+1
  ·subst e2; omega
  have:=h.s j h2
  obtain ⟨r,r1,r2,r3⟩:=ih (by omega) (by omega) h3 (by omega)
  exact ⟨r,r1,by omega,r3⟩
theorem Fold1.last {f:Nat→Nat} {m n v:Nat} (h:Fold1 f m n) (hv:v+1<n):∃ r,r+1<m∧f r=v∧f (r+1)=v+1:=by
 have hp:=h.pos
 have he:=h.e
 obtain ⟨e,h1,h2,h3,h4⟩:=zzn (P:=fun r=>f r≤v) (i:=0) (n:=m - 1) (by omega) (by rw [h.z]; omega) (by omega)
 have:=h.s e (by omega)
 exact ⟨e,by omega,by omega,by omega⟩
theorem DL.fold {f g:Nat→Nat} {H' W':Nat} (hf:Fold1 f H H') (hg:Fold1 g W W') (hc:∀ i j,i<H→j<W→c i j=c' (f i) (g j)) {a b:Nat}:DL c H W a b↔DL c' H' W' a b:=by
 constructor
 ·rintro ⟨j,i1,i2,h1,h2,h3,run,rfl,rfl⟩
  have hgj:g (j+1)=g j+1:=by
   rcases hg.s j h1 with e | e
   ·have:=run i1 (by omega) (by omega)
    rw [hc i1 j h2 (by omega),hc i1 (j+1) h2 h1,e]at this
    exact absurd rfl this
   exact e
  have hlt:=hg.lt h1
  refine ⟨g j,f i1,f i2,by omega,hf.lt h2,hf.lt h3,fun r r1 r2=>?_,hc _ _ h2 (by omega),by rw [hc _ _ h3 h1,hgj]⟩
  have:∃ r0,min i1 i2≤r0∧r0≤max i1 i2∧f r0=r:=by
   rcases Nat.le_total i1 i2 with q | q
   ·have:=hf.mono q h3
    obtain ⟨r0,q1,q2,q3⟩:=hf.mid (v:=r) q h3 (by omega) (by omega)
    exact ⟨r0,by omega,by omega,q3⟩
   have:=hf.mono q h2
   obtain ⟨r0,q1,q2,q3⟩:=hf.mid (v:=r) q h2 (by omega) (by omega)
   exact ⟨r0,by omega,by omega,q3⟩
  obtain ⟨r0,q1,q2,rfl⟩:=this
  have:=run r0 q1 q2
  rw [hc r0 j (by omega) (by omega),hc r0 (j+1) (by omega) h1,hgj]at this
  exact this
 rintro ⟨j,i1,i2,h1,h2,h3,run,rfl,rfl⟩
 obtain ⟨j0,k1,k2,k3⟩:=hg.last h1
 have hfe:=hf.e
 have hfp:=hf.pos
 obtain ⟨r1,-,q2,q3⟩:=hf.mid (i:=0) (j:=H - 1) (v:=i1) (by omega) (by omega) (by rw [hf.z]; omega) (by omega)
 obtain ⟨r2,-,q5,q6⟩:=hf.mid (i:=0) (j:=H - 1) (v:=i2) (by omega) (by omega) (by rw [hf.z]; omega) (by omega)
 refine ⟨j0,r1,r2,k1,by omega,by omega,fun r s1 s2=>?_,by rw [hc _ _ (by omega) (by omega),q3,k2],by rw [hc _ _ (by omega) (by omega),q6,k3]⟩
 rw [hc r j0 (by omega) (by omega),hc r (j0+1) (by omega) k1,k2,k3]
 refine run (f r) ?_ ?_
 ·rcases Nat.le_total r1 r2 with q | q
  ·have:=hf.mono (show r1≤r by omega) (show r<H by omega); omega
  have:=hf.mono (show r2≤r by omega) (show r<H by omega); omega
 rcases Nat.le_total r1 r2 with q | q
 ·have:=hf.mono (show r≤r2 by omega) (show r2<H by omega); omega
 have:=hf.mono (show r≤r1 by omega) (show r1<H by omega); omega
theorem DU.fold {f g:Nat→Nat} {H' W':Nat} (hf:Fold1 f H H') (hg:Fold1 g W W') (hc:∀ i j,i<H→j<W→c i j=c' (f i) (g j)) {a b:Nat}:DU c H W a b↔DU c' H' W' a b :=
 DL.fold (c:=tr c) (c':=tr c') hg hf fun i j hi hj=>hc j i hj hi
theorem TC.iff {R S:Nat→Nat→Prop} (h:∀ a b,R a b↔S a b) {a b:Nat}:TC R a b↔TC S a b:=⟨TC.mono fun a b=>(h a b).1,TC.mono fun a b=>(h a b).2⟩
end
section
def zgq (ah:Nat→Nat) (n:Nat):Nat→List Int
 | 0=>List.replicate n 0
 | a+1=>(zgq ah n a).set (ah a) (a:Int)
theorem zic {ah:Nat→Nat} {n:Nat}:∀ k,(zgq ah n k).length=n
 | 0=>by simp [zgq]
 | k+1=>by simp [zgq,zic k]
theorem zq9 {ah:Nat→Nat} {n:Nat} (hn:∀ a,a<n→ah a<n) (hi:∀ a b,a<n→b<n→ah a=ah b→a=b):∀ k,k≤n→∀ a,a<k→(zgq ah n k)[ah a]?=some (a:Int)
 | 0,_,a,h=>by omega
 | k+1,hk,a,h=>by
  unfold zgq
  rw [List.getElem?_set,zic]
  by_cases e:a=k
  ·subst e; rw [if_pos rfl,if_pos (hn a (by omega))]
  rw [if_neg fun q=>e (hi a k (by omega) (by omega) q.symm)]
  exact zq9 hn hi k (by omega) a (by omega)
def rooms (n:Nat):List Int:=(List.range n).map fun i:Nat=>(i:Int)
theorem zrf {n:Nat}:(rooms n).length=n:=by simp [rooms]
theorem zqp {n:Nat} {x:Int}:x∈rooms n↔0≤x∧x<n:=by
 unfold rooms
 rw [List.mem_map]
 constructor
 ·rintro ⟨i,hi,rfl⟩; simp at hi; omega
 rintro ⟨h1,h2⟩; exact ⟨x.toNat,by simp; omega,by omega⟩
theorem zvd {n i:Nat} (h:i<n):(rooms n)[i]?=some (i:Int):=by simp [rooms,h]
theorem z4o {n:Nat}:rooms (n+1)=rooms n++[(n:Int)]:=by simp [rooms,qS]
theorem z4v {z:List Int} {g:Int→Int} (hs:(z.map g).Pairwise (· ≤ ·)) (hd:∀ (i j:Nat) x y,z[i]?=some x→z[j]?=some y→g x=g y→i=j) {i:Nat} {x:Int} (hx:z[i]?=some x):z.countP (fun y=>decide (g y<g x))=i:=by
 have hil:=zb7 hx
 have hp:=List.pairwise_iff_getElem.1 hs
 have lt:∀ (a b:Nat) u v,z[a]?=some u→z[b]?=some v→a<b→g u<g v:=by
  intro a b u v hu hv hab
  have h1:=zb7 hu
  have h2:=zb7 hv
  have h3:=hp a b (by simpa using h1) (by simpa using h2) hab
  simp only[List.getElem_map]at h3
  rw [List.getElem?_eq_getElem h1]at hu
  rw [List.getElem?_eq_getElem h2]at hv
  cases hu; cases hv
  rcases Int.lt_or_le (g z[a]) (g z[b]) with q | q
  ·exact q
  have e:=hd a b _ _ (List.getElem?_eq_getElem h1) (List.getElem?_eq_getElem h2) (by omega)
  omega
 have e:z=z.take i++z.drop i:=(List.take_append_drop i z).symm
 have c1:(z.take i).countP (fun y=>decide (g y<g x))=i:=by
  rw [List.countP_eq_length.2]
  ·rw [List.length_take]; omega
  intro y hy
  obtain ⟨j,hj⟩:=List.mem_iff_getElem?.1 hy
  rw [List.getElem?_take]at hj
  split at hj
  ·exact decide_eq_true (lt j i y x hj hx (by assumption))
  cases hj
 have c2:(z.drop i).countP (fun y=>decide (g y<g x))=0:=by
  rw [List.countP_eq_zero]
  intro y hy
  obtain ⟨j,hj⟩:=List.mem_iff_getElem?.1 hy
  rw [List.getElem?_drop]at hj
  by_cases q:j=0
  ·subst q; rw [Nat.add_zero,hx]at hj; cases hj; simp
  have:=lt i (i+j) x y hx hj (by omega)
  simp; omega
 rw [e,List.countP_append,c1,c2,Nat.add_zero]
theorem zn4 {f:Int→Bool}:∀ n,(rooms n).countP f=(List.range n).countP fun a:Nat=>f (a:Int)
 | 0=>rfl
 | n+1=>by rw [z4o,qS,List.countP_append,List.countP_append,zn4 n]; rfl
theorem zz8 {n:Nat}:∀ (i j:Nat) x,(rooms n)[i]?=some x→(rooms n)[j]?=some x→i=j:=by
 intro i j x hi hj
 have h1:=zb7 hi
 have h2:=zb7 hj
 rw [zrf]at h1 h2
 rw [zvd h1]at hi
 rw [zvd h2]at hj
 cases hi; cases hj; rfl
theorem zqr {z:List Int} (h:z.Nodup) {i j:Nat} (hi:i<z.length) (hj:j<z.length) (e:z[i]=z[j]):i=j:=by
 unfold List.Nodup at h
 rw [List.pairwise_iff_getElem]at h
 rcases Nat.lt_trichotomy i j with q | q | q
 ·exact absurd e (h i j hi hj q)
 ·exact q
 exact absurd e.symm (h j i hj hi q)
theorem zqs (n:Nat):(rooms n).Nodup:=by
 unfold List.Nodup
 rw [List.pairwise_iff_getElem]
 intro i j hi hj hij e
 have:=zz8 i j _ (List.getElem?_eq_getElem hi) (e ▸ List.getElem?_eq_getElem hj)
 omega
section
variable {n:Nat} {f:Nat→Nat}
theorem zv0 (hf:∀ a b,a<n→b<n→f a=f b→a=b) {a b:Nat} (ha:a<n) (hb:b<n) (h:ahead n f a=ahead n f b):a=b:=by
 rcases Nat.lt_trichotomy (f a) (f b) with q | q | q
 ·have:=zo0 (n:=n) ha q; omega
 ·exact hf a b ha hb q
 have:=zo0 (n:=n) hb q; omega
theorem z4w (hf:∀ a b,a<n→b<n→f a=f b→a=b) {z:List Int} (hp:z.Perm (rooms n)) (hs:(z.map fun x=>((f x.toNat:Nat):Int)).Pairwise (· ≤ ·)):z=zgq (ahead n f) n n:=by
 have hl:=hp.length_eq
 rw [zrf]at hl
 have hm:∀ x∈z,0≤x∧x<n:=fun x hx=>zqp.1 (hp.mem_iff.1 hx)
 have hd:∀ (i j:Nat) x y,z[i]?=some x→z[j]?=some y→((f x.toNat:Nat):Int)=((f y.toNat:Nat):Int)→i=j:=by
  intro i j x y hx hy e
  have h1:=hm x (List.mem_of_getElem? hx)
  have h2:=hm y (List.mem_of_getElem? hy)
  have e2:=hf x.toNat y.toNat (by omega) (by omega) (by omega)
  have e3:x=y:=by omega
  subst e3
  have hnd:z.Nodup:=hp.nodup_iff.2 (zqs n)
  have hi:=zb7 hx
  have hj:=zb7 hy
  rw [List.getElem?_eq_getElem hi]at hx
  rw [List.getElem?_eq_getElem hj]at hy
  exact zqr hnd hi hj ((Option.some.inj hx).trans (Option.some.inj hy).symm)
 apply List.ext_getElem?
 intro i
 by_cases hi:i<n
 ·obtain ⟨x,hx,hxm⟩:=zag (show i<z.length by omega)
  have h1:=hm x hxm
  have e:=z4v hs hd hx
  rw [hp.countP_eq,zn4]at e
  have e2:ahead n f x.toNat=i:=by
   unfold ahead
   rw [← e]
   apply List.countP_congr
   intro a ha
   simp
  have:=zq9 (fun a ha=>zza (rk:=f) ha) (fun a b ha hb h=>zv0 hf ha hb h) n (qR _) x.toNat (by omega)
  rw [e2]at this
  rw [hx,this,show ((x.toNat:Nat):Int)=x by omega]
 rw [List.getElem?_eq_none (by omega),List.getElem?_eq_none (by rw [zic]; omega)]
end
def bf1 (p:List Txt) (a b:Nat):Bool:=zc2 (lfM p) a b || zc2 (abM p) a b
def bf2 (p:List Txt) (a b:Nat):Bool:=zc2 (lfM p) a b || zc2 (abM p) b a
def bfK (p:List Txt) (below:Bool) (a b:Nat):Bool:=if below then bf2 p a b else bf1 p a b
def ahK (p:List Txt) (below:Bool) (a:Nat):Nat:=(List.range (rP p).length).countP fun b=>bfK p below b a
theorem zkw {p:List Txt} (hp:zbe p=true) (below:Bool):∃ f:Nat→Nat,(∀ a b,a<(rP p).length→b<(rP p).length→(bfK p below a b=true↔f a<f b))∧∀ a b,a<(rP p).length→b<(rP p).length→f a=f b→a=b:=by
 obtain ⟨f,g,hfg⟩:=zlb hp
 have tot:=fun a b ha hb hne=>z37 (a:=a) (b:=b) hp ha hb hne
 cases below with
 | false =>
  have h1:∀ a b,a<(rP p).length→b<(rP p).length→bfK p false a b=true→f a<f b:=by
   intro a b ha hb h
   simp only[bfK,bf1,qF,if_false,Bool.or_eq_true]at h
   rcases h with h | h
   ·exact ((hfg a b ha hb).1 h).1
   exact ((hfg a b ha hb).2 h).1
  have h2:∀ a b,a<(rP p).length→b<(rP p).length→a≠b→bfK p false a b=true∨bfK p false b a=true:=by
   intro a b ha hb hne
   simp only[bfK,bf1,qF,if_false,Bool.or_eq_true]
   rcases tot a b ha hb hne with h | h | h | h
   ·exact .inl (.inl h)
   ·exact .inr (.inl h)
   ·exact .inl (.inr h)
   exact .inr (.inr h)
  have h3:∀ a b,a<(rP p).length→b<(rP p).length→f a=f b→a=b:=by
   intro a b ha hb e
   refine Classical.byContradiction fun hne=>?_
   rcases h2 a b ha hb hne with h | h
   ·have:=h1 a b ha hb h; omega
   have:=h1 b a hb ha h; omega
  refine ⟨f,fun a b ha hb=>⟨h1 a b ha hb,fun h=>?_⟩,h3⟩
  rcases h2 a b ha hb (by rintro rfl; omega) with k | k
  ·exact k
  have:=h1 b a hb ha k; omega
 | true =>
  have h1:∀ a b,a<(rP p).length→b<(rP p).length→bfK p true a b=true→g a<g b:=by
   intro a b ha hb h
   simp only[bfK,bf2,if_true,Bool.or_eq_true]at h
   rcases h with h | h
   ·exact ((hfg a b ha hb).1 h).2
   exact ((hfg b a hb ha).2 h).2
  have h2:∀ a b,a<(rP p).length→b<(rP p).length→a≠b→bfK p true a b=true∨bfK p true b a=true:=by
   intro a b ha hb hne
   simp only[bfK,bf2,if_true,Bool.or_eq_true]
   rcases tot a b ha hb hne with h | h | h | h
   ·exact .inl (.inl h)
   ·exact .inr (.inl h)
   ·exact .inr (.inr h)
   exact .inl (.inr h)
  have h3:∀ a b,a<(rP p).length→b<(rP p).length→g a=g b→a=b:=by
   intro a b ha hb e
   refine Classical.byContradiction fun hne=>?_
   rcases h2 a b ha hb hne with h | h
   ·have:=h1 a b ha hb h; omega
   have:=h1 b a hb ha h; omega
  refine ⟨g,fun a b ha hb=>⟨h1 a b ha hb,fun h=>?_⟩,h3⟩
  rcases h2 a b ha hb (by rintro rfl; omega) with k | k
  ·exact k
  have:=h1 b a hb ha k; omega
theorem zpp {p:List Txt} {below:Bool} {f:Nat→Nat} (hf:∀ a b,a<(rP p).length→b<(rP p).length→(bfK p below a b=true↔f a<f b)) {a:Nat} (ha:a<(rP p).length):ahK p below a=ahead (rP p).length f a:=by
 unfold ahK ahead
 apply List.countP_congr
 intro b hb
 rw [hf b a (by simpa using hb) ha]; simp
theorem zor {f g:Nat→Nat} {n:Nat}:∀ k,(∀ a,a<k→f a=g a)→zgq f n k=zgq g n k
 | 0,_=>rfl
 | k+1,h=>by unfold zgq; rw [zor k fun a ha=>h a (by omega),h k (by omega)]
def srt (p:List Txt) (below:Bool):List Int:=zgq (ahK p below) (rP p).length (rP p).length
theorem zis {p:List Txt} {below:Bool}:(srt p below).length=(rP p).length:=zic _
theorem z8y {p:List Txt} {below:Bool} {f:Nat→Nat} (hf:∀ a b,a<(rP p).length→b<(rP p).length→(bfK p below a b=true↔f a<f b)) (hi:∀ a b,a<(rP p).length→b<(rP p).length→f a=f b→a=b)
  {z:List Int} (hz:z.Perm (rooms (rP p).length)) (hs:(z.map fun x=>((f x.toNat:Nat):Int)).Pairwise (· ≤ ·)):z=srt p below:=by
 rw [z4w hi hz hs]
 exact (zor _ fun a ha=>zpp hf ha).symm
end
section
section
variable {p:List Txt} {below:Bool}
theorem z25 (hp:zbe p=true) (below:Bool):(srt p below).Perm (rooms (rP p).length):=by
 obtain ⟨f,hf,hi⟩:=zkw hp below
 have h1:((rooms (rP p).length).mergeSort fun x y=>decide (f x.toNat≤f y.toNat)).Perm (rooms (rP p).length):=List.mergeSort_perm _ _
 have h2:(((rooms (rP p).length).mergeSort fun x y=>decide (f x.toNat≤f y.toNat)).map fun x=>((f x.toNat:Nat):Int)).Pairwise (· ≤ ·):=by
  rw [List.pairwise_map]
  refine (List.pairwise_mergeSort (fun a b c h k=>?_) (fun a b=>?_) _).imp fun {a b} h=>?_
  ·simp only[decide_eq_true_eq]at h k ⊢; omega
  ·simp only[Bool.or_eq_true,decide_eq_true_eq]; omega
  simp only[decide_eq_true_eq]at h; omega
 rw [← z8y hf hi h1 h2]
 exact h1
theorem yeu (hp:zbe p=true) {x:Int}:x∈srt p below↔0≤x∧x<(rP p).length:=by
 rw [(z25 hp below).mem_iff,zqp]
theorem zyu (hp:zbe p=true):(srt p below).Nodup:=(z25 hp below).nodup_iff.2 (zqs _)
theorem zhn (hp:zbe p=true) {a:Nat} (ha:a<(rP p).length):ahK p below a<(rP p).length:=by
 obtain ⟨f,hf,hi⟩:=zkw hp below
 rw [zpp hf ha]; exact zza ha
theorem zhy (hp:zbe p=true) {a b:Nat} (ha:a<(rP p).length) (hb:b<(rP p).length):bfK p below a b=true↔ahK p below a<ahK p below b:=by
 obtain ⟨f,hf,hi⟩:=zkw hp below
 rw [zpp hf ha,zpp hf hb,hf a b ha hb]
 constructor
 ·intro h; exact zo0 ha h
 intro h
 refine Classical.byContradiction fun k=>?_
 rcases Nat.lt_trichotomy (f a) (f b) with q | q | q
 ·exact k q
 ·have:=hi a b ha hb q; subst this; omega
 have:=zo0 (n:=(rP p).length) hb q; omega
theorem zkv (hp:zbe p=true) {a b:Nat} (ha:a<(rP p).length) (hb:b<(rP p).length) (h:ahK p below a=ahK p below b):a=b:=by
 obtain ⟨f,hf,hi⟩:=zkw hp below
 rw [zpp hf ha,zpp hf hb]at h
 exact zv0 hi ha hb h
theorem z24 (hp:zbe p=true) {a:Nat} (ha:a<(rP p).length):(srt p below)[ahK p below a]?=some (a:Int) :=
 zq9 (fun a ha=>zhn hp ha) (fun a b ha hb h=>zkv hp ha hb h) _ (qR _) a ha
theorem zll (hp:zbe p=true) {i:Nat} (hi:i<(rP p).length):∃ a,a<(rP p).length∧ahK p below a=i∧(srt p below)[i]?=some (a:Int):=by
 obtain ⟨x,hx,hm⟩:=zag (show i<(srt p below).length by rw [zis]; exact hi)
 obtain ⟨h1,h2⟩:=(yeu hp).1 hm
 refine ⟨x.toNat,by omega,?_,by rw [hx]; congr 1; omega⟩
 have h3:=z24 (below:=below) hp (a:=x.toNat) (by omega)
 have e:((x.toNat:Nat):Int)=x:=by omega
 rw [e]at h3
 have k1:=zb7 h3
 have k2:=zb7 hx
 rw [List.getElem?_eq_getElem k1]at h3
 rw [List.getElem?_eq_getElem k2]at hx
 exact zqr (zyu hp) k1 k2 ((Option.some.inj h3).trans (Option.some.inj hx).symm)
def zdu (p:List Txt):List Int:=(srt p true).map fun x=>((ahK p false x.toNat:Nat):Int)
theorem zfn:(zdu p).length=(rP p).length:=by simp [zdu,zis]
theorem zpe (hp:zbe p=true) {i a:Nat} (h:(srt p true)[i]?=some (a:Int)):(zdu p)[i]?=some ((ahK p false a:Nat):Int):=by
 unfold zdu
 rw [List.getElem?_map,h]
 simp
def ya0 (p:List Txt):Nat→List Int
 | 0=>List.replicate (rP p).length 0
 | i+1=>(ya0 p i).set (zk4 (srt p false) i).toNat (i:Int)
theorem zpg:∀ i,(ya0 p i).length=(rP p).length
 | 0=>by simp [ya0]
 | i+1=>by simp [ya0,zpg i]
theorem z7t (hp:zbe p=true):∀ i,i≤(rP p).length→∀ a,a<(rP p).length→ahK p false a<i→(ya0 p i)[a]?=some ((ahK p false a:Nat):Int)
 | 0,_,a,_,h=>by omega
 | i+1,hi,a,ha,h=>by
  obtain ⟨b,hb,hb2,hb3⟩:=zll (below:=false) hp (show i<(rP p).length by omega)
  unfold ya0
  rw [zzs hb3,Int.toNat_natCast,List.getElem?_set,zpg]
  by_cases e:b=a
  ·subst e; rw [if_pos rfl,if_pos hb,hb2]
  rw [if_neg e]
  refine z7t hp i (by omega) a ha ?_
  refine Classical.byContradiction fun k=>e (zkv (below:=false) hp hb ha (by omega))
end
end
section
variable {M:List (List Bool)} {ms:List Nat} {n:Nat} {rk:Nat→Nat} {ws out:List Int}
abbrev ones (n:Nat):List Int:=List.replicate n 1
def RB (M:List (List Bool)) (n b:Nat):Int:=HB (revM n M) (ones n) n b
def ygz (M:List (List Bool)) (n:Nat) (out:List Int):Prop:=out.length=n∧∀ a,a<n→0≤zk4 out a∧zk4 out a≤RB M n a
theorem ygz.set (h:ygz M n out) {a:Nat} {v:Int} (ha:a<n) (h0:0≤v) (h1:v≤RB M n a):ygz M n (out.set a v):=by
 refine ⟨by simp [h.1],fun y hy=>?_⟩
 rw [yaf (by rw [h.1]; exact ha)]
 split
 ·rename_i e; subst e; exact ⟨h0,h1⟩
 exact h.2 y hy
end
section
variable {p:List Txt}
def zy7 (p:List Txt) (i:Nat):Nat:=((srt p true)[i]?.getD 0).toNat
theorem zhc (hp:zbe p=true) {i:Nat} (hi:i<(rP p).length):zy7 p i<(rP p).length∧ahK p true (zy7 p i)=i∧(srt p true)[i]?=some (zy7 p i:Int):=by
 obtain ⟨a,h1,h2,h3⟩:=zll (below:=true) hp hi
 have e:zy7 p i=a:=by unfold zy7; rw [h3]; simp
 rw [e]; exact ⟨h1,h2,h3⟩
theorem zlg (hp:zbe p=true) {a:Nat} (ha:a<(rP p).length):zy7 p (ahK p true a)=a:=by
 have h:=z24 (below:=true) hp ha
 unfold zy7; rw [h]; simp
def xI (p:List Txt) (i:Nat):Int:=((ahK p false (zy7 p i):Nat):Int)
theorem yhm (hp:zbe p=true) {i:Nat} (hi:i<(rP p).length):(zdu p)[i]?=some (xI p i):=zpe hp (zhc hp hi).2.2
theorem x_lt (hp:zbe p=true) {k i:Nat} (hk:k<i) (hi:i<(rP p).length) :
  (xI p k<xI p i→zc2 (lfM p) (zy7 p k) (zy7 p i)=true)∧(¬ xI p k<xI p i→zc2 (abM p) (zy7 p i) (zy7 p k)=true):=by
 obtain ⟨a1,a2,-⟩:=zhc hp hi
 obtain ⟨b1,b2,-⟩:=zhc hp (show k<(rP p).length by omega)
 have h2:=(zhy (below:=true) hp b1 a1).2 (by omega)
 have h1:=zhy (below:=false) hp b1 a1
 simp only[bfK,bf1,bf2,if_true,qF,if_false,Bool.or_eq_true]at h1 h2
 unfold xI
 constructor
 ·intro h
  have h3:=h1.2 (by omega)
  rcases h2 with h2 | h2
  ·exact h2
  rcases h3 with h3 | h3
  ·exact h3
  exact absurd h3 (Ab.only hp a1 b1 h2).1
 intro h
 rcases h2 with h2 | h2
 ·exact absurd (h1.1 (.inl h2)) (by omega)
 exact h2
theorem z6y (hp:zbe p=true) {a i:Nat} (ha:a<(rP p).length) (hi:i<(rP p).length) (h:zc2 (lfM p) a (zy7 p i)=true):ahK p true a<i∧xI p (ahK p true a)<xI p i:=by
 obtain ⟨a1,a2,-⟩:=zhc hp hi
 have h2:=(zhy (below:=true) hp ha a1).1 (by simp only[bfK,bf2,if_true,Bool.or_eq_true]; exact .inl h)
 have h1:=(zhy (below:=false) hp ha a1).1 (by simp only[bfK,bf1,qF,if_false,Bool.or_eq_true]; exact .inl h)
 unfold xI
 rw [zlg hp ha]
 omega
theorem z5g (hp:zbe p=true) {b i:Nat} (hb:b<(rP p).length) (hi:i<(rP p).length) (h:zc2 (abM p) (zy7 p i) b=true):ahK p true b<i∧¬ xI p (ahK p true b)<xI p i:=by
 obtain ⟨a1,a2,-⟩:=zhc hp hi
 have h2:=(zhy (below:=true) hp hb a1).1 (by simp only[bfK,bf2,if_true,Bool.or_eq_true]; exact .inr h)
 have h1:=(zhy (below:=false) hp a1 hb).1 (by simp only[bfK,bf1,qF,if_false,Bool.or_eq_true]; exact .inr h)
 unfold xI
 rw [zlg hp hb]
 omega
def stp (f:Nat→Int) (i n:Nat):List Int:=(List.range n).map fun k=>if k<i then f k else 0
theorem z8z {f:Nat→Int} {i n:Nat}:(stp f i n).length=n:=by simp [stp]
theorem ybh {f:Nat→Int} {n:Nat}:stp f 0 n=List.replicate n 0:=by
 apply List.ext_getElem?
 intro j
 by_cases h:j<n <;> simp [stp,h]
theorem yex {f:Nat→Int} {i n:Nat}:(stp f i n).set i (f i)=stp f (i+1) n:=by
 apply List.ext_getElem?
 intro j
 rw [List.getElem?_set,z8z]
 by_cases e:i=j
 ·subst e
  by_cases h:i<n <;> simp [stp,h]
 rw [if_neg e]
 by_cases h:j<n
 ·simp only[stp,List.getElem?_map,List.getElem?_range h,qO]
  congr 1
  by_cases h2:j<i
  ·rw [if_pos h2,if_pos (by omega)]
  rw [if_neg h2,if_neg (by omega)]
 simp [stp,h]
end
section
theorem z82 {σ:Nat→Nat} {n:Nat} (h:∀ a,a<n→σ a<n) (hi:∀ a b,a<n→b<n→σ a=σ b→a=b) {v:Nat} (hv:v<n):∃ a,a<n∧σ a=v:=by
 refine Classical.byContradiction fun hno=>?_
 have hno':∀ a,a<n→σ a≠v:=fun a ha e=>hno ⟨a,ha,e⟩
 have:=pig (σ:=fun a=>if σ a<v then σ a else σ a - 1) (n:=n) (m:=n - 1) (fun a ha=>by
  have h1:=h a ha
  have h2:=hno' a ha
  split <;> omega) (fun a b ha hb e=>by
  have h2:=hno' a ha
  have h3:=hno' b hb
  refine hi a b ha hb ?_
  split at e <;> split at e <;> omega)
 omega
theorem z72 {f g:Nat→Nat} {n:Nat} (f1:∀ a,a<n→f a<n) (f2:∀ a b,a<n→b<n→f a=f b→a=b) (g1:∀ a,a<n→g a<n) (g2:∀ a b,a<n→b<n→g a=g b→a=b)
  (h:∀ a b,a<n→b<n→(f a<f b↔g a<g b)):∀ a,a<n→f a=g a:=by
 have key:∀ v a,a<n→f a=v→g a=v:=by
  intro v
  induction v using Nat.strongRecOn with
  | _ v ih =>
   intro a ha e
   have hga:=g1 a ha
   have hfa:=f1 a ha
   rcases Nat.lt_trichotomy (g a) v with q | q | q
   ·obtain ⟨b,hb,e2⟩:=z82 f1 f2 (v:=g a) hga
    have e3:=ih (g a) q b hb e2
    have:=g2 b a hb ha e3
    subst this; omega
   ·exact q
   obtain ⟨d,hd,e2⟩:=z82 g1 g2 (v:=v) (by omega)
   have h1:=(h d a hd ha).2 (by omega)
   have:=ih (f d) (by omega) d hd rfl
   omega
 exact fun a ha=>(key (f a) a ha rfl).symm
variable {p t:List Txt} {L U:Nat→Nat→Prop} {σ:Nat→Nat}
theorem zt5 {below:Bool} {a b:Nat}:bfK p below a b=true↔Lf p a b∨(if below then Ab p b a else Ab p a b):=by
 unfold bfK bf1 bf2 Lf Ab
 cases below <;> simp
theorem Iso.ah (h:Iso p t L U σ) (hp:zbe p=true) {b1 b2:Bool} (he:∀ a b,a<(rP p).length→b<(rP p).length→(bfK t b1 (σ a) (σ b)=true↔bfK p b2 a b=true)):∀ a,a<(rP p).length→ahK t b1 (σ a)=ahK p b2 a:=by
 refine z72 (n:=(rP p).length) (f:=fun a=>ahK t b1 (σ a)) (g:=ahK p b2) (fun a ha=>?_) (fun a b ha hb e=>?_) (fun a ha=>zhn hp ha) (fun a b ha hb e=>zkv hp ha hb e) fun a b ha hb=>?_
 ·have:=zhn (below:=b1) h.pl (a:=σ a) (by rw [h.n]; exact h.lt a ha)
  rwa [h.n]at this
 ·exact h.inj a b ha hb (zkv h.pl (by rw [h.n]; exact h.lt a ha) (by rw [h.n]; exact h.lt b hb) e)
 rw [← zhy h.pl (by rw [h.n]; exact h.lt a ha) (by rw [h.n]; exact h.lt b hb),he a b ha hb]
 exact zhy hp ha hb
theorem Iso.ah_rev (h:Iso p t L U σ) (hp:zbe p=true) {b1 b2:Bool} (he:∀ a b,a<(rP p).length→b<(rP p).length→(bfK t b1 (σ a) (σ b)=true↔bfK p b2 b a=true)):∀ a,a<(rP p).length→ahK t b1 (σ a)=(rP p).length - 1 - ahK p b2 a:=by
 refine z72 (n:=(rP p).length) (f:=fun a=>ahK t b1 (σ a)) (g:=fun a=>(rP p).length - 1 - ahK p b2 a) (fun a ha=>?_) (fun a b ha hb e=>?_) (fun a ha=>?_) (fun a b ha hb e=>?_) fun a b ha hb=>?_
 ·have:=zhn (below:=b1) h.pl (a:=σ a) (by rw [h.n]; exact h.lt a ha)
  rwa [h.n]at this
 ·exact h.inj a b ha hb (zkv h.pl (by rw [h.n]; exact h.lt a ha) (by rw [h.n]; exact h.lt b hb) e)
 ·omega
 ·have h1:=zhn (below:=b2) hp ha
  have h2:=zhn (below:=b2) hp hb
  exact zkv hp ha hb (by omega:ahK p b2 a=ahK p b2 b)
 rw [← zhy h.pl (by rw [h.n]; exact h.lt a ha) (by rw [h.n]; exact h.lt b hb),he a b ha hb,zhy hp hb ha]
 have h1:=zhn (below:=b2) hp ha
 have h2:=zhn (below:=b2) hp hb
 omega
theorem zno (hp:zbe p=true) {a:Nat} (ha:a<(rP p).length):(zdu p)[ahK p true a]?=some ((ahK p false a:Nat):Int):=zpe hp (z24 hp ha)
theorem Iso.perm_turn (h:Iso p t (fun a b=>Ab p b a) (Lf p) σ) (hp:zbe p=true) {a:Nat} (ha:a<(rP p).length):(zdu t)[(rP p).length - 1 - ahK p false a]?=some ((ahK p true a:Nat):Int):=by
 have e1:∀ a,a<(rP p).length→ahK t false (σ a)=ahK p true a:=h.ah hp fun x y hx hy=>by
  rw [zt5,zt5,h.lf x y hx hy]
  simp only[qF,if_false,if_true,h.ab _ _ hx hy]
  exact or_comm
 have e2:∀ a,a<(rP p).length→ahK t true (σ a)=(rP p).length - 1 - ahK p false a:=h.ah_rev hp fun x y hx hy=>by
  rw [zt5,zt5,h.lf x y hx hy]
  simp only[qF,if_false,if_true,h.ab _ _ hy hx]
  exact or_comm
 rw [← e2 a ha,zno h.pl (by rw [h.n]; exact h.lt a ha),e1 a ha]
theorem z87 {q u:List Txt} {τ:Nat→Nat} (h:Iso p t (fun a b=>Ab p b a) (Lf p) σ) (k:Iso q u (fun a b=>Ab q b a) (Lf q) τ) (hp:zbe p=true) (hq:zbe q=true) (e:zdu p=zdu q):zdu t=zdu u:=by
 have hn:(rP p).length=(rP q).length:=by rw [← zfn (p:=p),e,zfn]
 apply List.ext_getElem?
 intro i
 by_cases hi:i<(rP p).length
 ·obtain ⟨a,ha,h1,-⟩:=zll (below:=false) hp (show (rP p).length - 1 - i<(rP p).length by omega)
  have h2:=h.perm_turn hp ha
  rw [h1,show (rP p).length - 1 - ((rP p).length - 1 - i)=i by omega]at h2
  obtain ⟨b,hb,h3,-⟩:=zll (below:=true) hq (show ahK p true a<(rP q).length by rw [← hn]; exact zhn hp ha)
  have h4:=zno hp ha
  have h5:=zno hq hb
  rw [h3,← e,h4]at h5
  have h6:=k.perm_turn hq hb
  rw [show ahK q false b=ahK p false a by have:=Option.some.inj h5; omega,← hn,h1,show (rP p).length - 1 - ((rP p).length - 1 - i)=i by omega,h3]at h6
  rw [h2,h6]
 rw [List.getElem?_eq_none (by rw [zfn,h.n]; omega),List.getElem?_eq_none (by rw [zfn,k.n]; omega)]
theorem z1t (hp:zbe p=true) (ht:zbq t=true) (hR:Ren (tr (fl (cn (gP p)) p.length)) (zam p).length p.length t):∃ σ:Nat→Nat,(∀ i j,i<(zam p).length→j<p.length→cn (gP t) i j=σ (cn (gP p) (p.length - 1 - j) i))∧Iso p t (fun a b=>Ab p b a) (Lf p) σ:=by
 obtain ⟨σ,h1,h2⟩:=yf1 (p:=p) (fun i j hi hj=>zt8 zfy (by omega) hi) (fun a ha=>by obtain ⟨i,j,hi,hj,e⟩:=zjj ha; exact ⟨j,p.length - 1 - i,hj,by omega,by show cn (gP p) (p.length - 1 - (p.length - 1 - i)) j=a; rw [show p.length - 1 - (p.length - 1 - i)=i by omega]; exact e⟩) (zlc hp).dn.ex ht hR
 refine ⟨σ,h1,h2.imp (fun a b ha hb=>?_) fun a b ha hb=>?_⟩
 ·rw [Ab.iff hb ha]
  constructor
  ·exact fun h=>TC.rev (fun x y (q:DL (tr (fl (cn (gP p)) p.length)) _ _ x y)=>DU.dn q) h
  exact fun h=>TC.rev (fun x y q=>(DU.unfl q:DU (fl (cn (gP p)) p.length) _ _ y x)) h
 rw [Lf.iff ha hb]
 exact TC.iff fun x y=>⟨fun (q:DL (fl (cn (gP p)) p.length) _ _ x y)=>q.dn,fun q=>q.unfl⟩
end
section
variable {c:Nat→Nat→Nat} {H W:Nat}
theorem DL.cols (h:Pl c H W) {i j i' j':Nat} (hi:i<H) (hj:j<W) (hi':i'<H) (hj':j'<W) (hd:DL c H W (c i j) (c i' j')):j<j':=by
 obtain ⟨k,i1,i2,h1,h2,h3,run,e1,e2⟩:=hd
 have a1:j≤k:=by
  refine Classical.byContradiction fun hn=>?_
  have:=h.rect (i:=i1) (j:=k) (i':=i) (j':=j) i1 (k+1) h2 hi (by omega) hj e1.symm (by omega) (by omega) (by omega) (by omega)
  exact run i1 (by omega) (by omega) this.symm
 have a2:k+1≤j':=by
  refine Classical.byContradiction fun hn=>?_
  have:=h.rect (i:=i2) (j:=k+1) (i':=i') (j':=j') i2 k h3 hi' h1 hj' e2.symm (by omega) (by omega) (by omega) (by omega)
  exact run i2 (by omega) (by omega) this
 omega
theorem DL.cells {a b:Nat} (hd:DL c H W a b):(∃ i j,i<H∧j<W∧c i j=a)∧∃ i j,i<H∧j<W∧c i j=b:=by
 obtain ⟨k,i1,i2,h1,h2,h3,run,e1,e2⟩:=hd
 exact ⟨⟨i1,k,h2,by omega,e1.symm⟩,i2,k+1,h3,h1,e2.symm⟩
theorem TC.cols (h:Pl c H W) {a b:Nat} (hd:TC (DL c H W) a b):∀ {i j i' j':Nat},i<H→j<W→i'<H→j'<W→c i j=a→c i' j'=b→j<j':=by
 induction hd with
 | one hd=>intro i j i' j' h1 h2 h3 h4 e1 e2; subst e1; subst e2; exact hd.cols h h1 h2 h3 h4
 | tail _ hd ih =>
  intro i j i' j' h1 h2 h3 h4 e1 e2
  obtain ⟨⟨x,y,hx,hy,e3⟩,-⟩:=hd.cells
  have q1:=ih h1 h2 hx hy e1 e3
  subst e2; rw [← e3]at hd
  have q2:=hd.cols h hx hy h3 h4
  omega
def Thru (c:Nat→Nat→Nat) (H k:Nat):Prop:=∀ r,r<H→c r (k - 1)≠c r k
theorem zyy (h:Pl c H W) {k:Nat} (h1:1≤k) (h2:k<W) (ht:Thru c H k) {i j i' j':Nat} (hi:i<H) (hj:j<k) (hi':i'<H) (hj':k≤j') (hw:j'<W):TC (DL c H W) (c i j) (c i' j'):=by
 have q:TC (DL c H W) (c i (k - 1)) (c i' k) := .one ⟨k - 1,i,i',by omega,hi,hi',fun r r1 r2=>by
  have:=ht r (by omega)
  rw [show k - 1+1=k by omega]; exact this,rfl,by rw [show k - 1+1=k by omega]⟩
 have q1:c i j=c i (k - 1)∨TC (DL c H W) (c i j) (c i (k - 1)):=by
  by_cases e:c i j=c i (k - 1)
  ·exact .inl e
  exact .inr (zkc hi (by omega) (by omega) e)
 have q2:c i' k=c i' j'∨TC (DL c H W) (c i' k) (c i' j'):=by
  by_cases e:c i' k=c i' j'
  ·exact .inl e
  exact .inr (zkc hi' hj' hw e)
 have q3:TC (DL c H W) (c i j) (c i' k):=by
  rcases q1 with e | e
  ·rw [e]; exact q
  exact e.trans q
 rcases q2 with e | e
 ·rw [← e]; exact q3
 exact q3.trans e
theorem zw7 (h:Pl c H W) (hH:1≤H) {P:Nat→Prop} (ha:∃ i j,i<H∧j<W∧P (c i j)) (hb:∃ i j,i<H∧j<W∧¬ P (c i j))
  (hl:∀ i j i' j',i<H→j<W→i'<H→j'<W→P (c i j)→¬ P (c i' j')→TC (DL c H W) (c i j) (c i' j')):∃ k,1≤k∧k<W∧Thru c H k∧∀ i j,i<H→j<W→(P (c i j)↔j<k):=by
 obtain ⟨i0,j0,hi0,hj0,hp0⟩:=ha
 obtain ⟨i1,j1,hi1,hj1,hp1⟩:=hb
 -- the first column with a cell that isn't in P
 obtain ⟨k,hk,⟨r,hr,hrp⟩,hmin⟩:=zpa (P:=fun k=>∃ r,r<H∧¬ P (c r k)) ⟨i1,hi1,hp1⟩
 have hkW:k<W:=by omega
 have all:∀ i j,i<H→j<W→(P (c i j)↔j<k):=by
  intro i j hi hj
  constructor
  ·intro hp
   have:=TC.cols h (hl i j r k hi hj hr hkW hp hrp) hi hj hr hkW rfl rfl
   exact this
  intro hlt
  exact Classical.byContradiction fun hn=>hmin j hlt ⟨i,hi,hn⟩
 refine ⟨k,?_,hkW,fun r hr e=>?_,all⟩
 ·have:=(all i0 j0 hi0 hj0).1 hp0; omega
 have hk1:1≤k:=by have:=(all i0 j0 hi0 hj0).1 hp0; omega
 have q1:=(all r (k - 1) hr (by omega)).2 (by omega)
 have q2:=(all r k hr hkW)
 rw [e]at q1
 have:=q2.1 q1; omega
variable {p:List Txt}
end
section
section
variable {c:Nat→Nat→Nat} {H W:Nat}
def zi6 (c:Nat→Nat→Nat) (t:Pt) (i j:Nat):Nat:=c (t.r+i) (t.c+j)
theorem Pl.sub (h:Pl c H W) {t:Pt} (ht:t.In H W):Pl (zi6 c t) t.h t.w:=by
 obtain ⟨t1,t2,t3,t4⟩:=ht
 constructor
 ·intro i j i' j' k l a b c' d e f1 f2 f3 f4
  exact h.rect (t.r+k) (t.c+l) (by omega) (by omega) (by omega) (by omega) e (by omega) (by omega) (by omega) (by omega)
 intro i j a b e1 e2 e3
 exact h.plain (i:=t.r+i) (j:=t.c+j) (by omega) (by omega) e1 e2 e3
theorem DL.sub {t:Pt} (ht:t.In H W) {a b:Nat} (h:DL (zi6 c t) t.h t.w a b):DL c H W a b:=by
 obtain ⟨t1,t2,t3,t4⟩:=ht
 obtain ⟨j,i1,i2,a1,a2,a3,a4,a5,a6⟩:=h
 refine ⟨t.c+j,t.r+i1,t.r+i2,by omega,by omega,by omega,fun r h1 h2=>?_,a5,a6⟩
 have:=a4 (r - t.r) (by omega) (by omega)
 simp only[zi6]at this
 rwa [show t.r+(r - t.r)=r by omega]at this
theorem DU.sub {t:Pt} (ht:t.In H W) {a b:Nat} (h:DU (zi6 c t) t.h t.w a b):DU c H W a b:=by
 obtain ⟨t1,t2,t3,t4⟩:=ht
 obtain ⟨i,j1,j2,a1,a2,a3,a4,a5,a6⟩:=h
 refine ⟨t.r+i,t.c+j1,t.c+j2,by omega,by omega,by omega,fun r h1 h2=>?_,a5,a6⟩
 have:=a4 (r - t.c) (by omega) (by omega)
 simp only[zi6]at this
 rwa [show t.c+(r - t.c)=r by omega]at this
end
section
variable {p:List Txt}
theorem z5x (hp:zbe p=true) {t:Pt} (hw:Whole (zal p) p.length (zam p).length t) {q:Bool × Nat} (hq:zec (zal p) t=some q) {x y:CT} (hx:zdl (zal p) (t.one q)=some x) (hy:zdl (zal p) (t.two q)=some y) :
  ∀ a b,a∈x.leaves→b∈y.leaves→(q.1=false→Lf p a.toNat b.toNat)∧(q.1=true→Ab p a.toNat b.toNat):=by
 intro a b ha hb
 have hpl:=zeb hp
 have hi:=hw.inn
 obtain ⟨i1,i2,_,_⟩:=hi.cut hq
 obtain ⟨w1,w2⟩:=hw.cut (zh3 hpl) hq
 obtain ⟨_,m1,_⟩:=zf4 (zh3 hpl) _ w1 (qR _) hx
 obtain ⟨_,m2,_⟩:=zf4 (zh3 hpl) _ w2 (qR _) hy
 obtain ⟨r1,c1,e1,e2,e3,e4,e5⟩:=(m1 a).1 ha
 obtain ⟨r2,c2,f1,f2,f3,f4,f5⟩:=(m2 b).1 hb
 have hin:=hi
 unfold Pt.In at hin i1 i2
 have hP:=(zlc hp).sub hi
 obtain ⟨k1,k2⟩:=zg0 hq
 obtain ⟨lv,k⟩:=q
 have hra:=zek hpl (i:=r1) (j:=c1) (by omega) (by omega)
 have hrb:=zek hpl (i:=r2) (j:=c2) (by omega) (by omega)
 have ca:=zfw hpl (i:=r1) (j:=c1) (by omega) (by omega)
 have cb:=zfw hpl (i:=r2) (j:=c2) (by omega) (by omega)
 have ha':a.toNat<(rP p).length:=by omega
 have hb':b.toNat<(rP p).length:=by omega
 have ea:cn (gP p) r1 c1=a.toNat:=by omega
 have eb:cn (gP p) r2 c2=b.toNat:=by omega
 have cz:∀ i j,i<p.length→j<(zam p).length→(cn (gP p) i j:Int)=zal p i j:=fun i j h1 h2=>zfw hpl h1 h2
 constructor
 ·rintro rfl
  simp only[qF,if_false]at k2
  simp only[Pt.one,Pt.two,qF,if_false] at *
  have hth:=zvl.1 k2.2
  have hT:Thru (zi6 (cn (gP p)) t) t.h k:=by
   intro r hr e
   have:=hth r hr
   have g1:=cz (t.r+r) (t.c+k - 1) (by omega) (by omega)
   have g2:=cz (t.r+r) (t.c+k) (by omega) (by omega)
   simp only[zi6]at e
   rw [show t.c+(k - 1)=t.c+k - 1 by omega]at e
   omega
  have h:=zyy hP k1 k2.1 hT (i:=r1 - t.r) (j:=c1 - t.c) (i':=r2 - t.r) (j':=c2 - t.c) (by omega) (by omega) (by omega) (by omega) (by omega)
  have h2:TC (DL (cn (gP p)) p.length (zam p).length) (zi6 (cn (gP p)) t (r1 - t.r) (c1 - t.c)) (zi6 (cn (gP p)) t (r2 - t.r) (c2 - t.c)):=h.mono fun a b hd=>DL.sub hi hd
  simp only[zi6]at h2
  rw [show t.r+(r1 - t.r)=r1 by omega,show t.c+(c1 - t.c)=c1 by omega,show t.r+(r2 - t.r)=r2 by omega,show t.c+(c2 - t.c)=c2 by omega,ea,eb]at h2
  exact (Lf.iff ha' hb').2 h2
 rintro rfl
 simp only[if_true]at k2
 simp only[Pt.one,Pt.two,if_true] at *
 have hth:=zvk.1 k2.2
 have hT:Thru (tr (zi6 (cn (gP p)) t)) t.w k:=by
  intro r hr e
  have:=hth r hr
  have g1:=cz (t.r+k - 1) (t.c+r) (by omega) (by omega)
  have g2:=cz (t.r+k) (t.c+r) (by omega) (by omega)
  simp only[tr,zi6]at e
  rw [show t.r+(k - 1)=t.r+k - 1 by omega]at e
  omega
 have h:=zyy hP.ex k1 k2.1 hT (i:=c1 - t.c) (j:=r1 - t.r) (i':=c2 - t.c) (j':=r2 - t.r) (by omega) (by omega) (by omega) (by omega) (by omega)
 have h2:TC (DU (cn (gP p)) p.length (zam p).length) (zi6 (cn (gP p)) t (r1 - t.r) (c1 - t.c)) (zi6 (cn (gP p)) t (r2 - t.r) (c2 - t.c)):=h.mono fun a b hd=>DU.sub hi hd.ex
 simp only[zi6]at h2
 rw [show t.r+(r1 - t.r)=r1 by omega,show t.c+(c1 - t.c)=c1 by omega,show t.r+(r2 - t.r)=r2 by omega,show t.c+(c2 - t.c)=c2 by omega,ea,eb]at h2
 exact (Ab.iff ha' hb').2 h2
end
inductive Ch (M:List (List Bool)) (ws:List Int) (a:Nat):Nat→Int→Prop
 | one:Ch M ws a a (zk4 ws a)
 | snoc {b d:Nat} {s:Int}:Ch M ws a b s→zc2 M b d=true→Ch M ws a d (s+zk4 ws d)
section
variable {M:List (List Bool)} {ws:List Int} {n:Nat} {rk:Nat→Nat}
theorem Ch.le (hu:Up M n rk) (hsq:∀ a b,zc2 M a b=true→a<n) {a b:Nat} {s:Int} (h:Ch M ws a b s):b<n→s≤HB M ws n b:=by
 induction h with
 | one=>intro hb; rw [yb2 hu hb]; have:=yfm (M:=M) (ws:=ws) (n:=n) a; omega
 | snoc k hk ih =>
  intro hb
  have h1:=ih (hsq _ _ hk)
  have h2:=yfl (ws:=ws) (hsq _ _ hk) hk
  rw [yb2 hu hb]; omega
end
section
variable {p:List Txt}
end
end
section
inductive Sp (L U:Nat→Nat→Prop):(Nat→Prop)→Prop
 | one {A:Nat→Prop} (a:Nat):A a→(∀ b,A b→b=a)→Sp L U A
 | left {A:Nat→Prop} (B:Nat→Prop):(∃ a,A a∧B a)→(∃ a,A a∧¬ B a)→(∀ a b,A a→B a→A b→¬ B b→L a b)→Sp L U (fun a=>A a∧B a)→Sp L U (fun a=>A a∧¬ B a)→Sp L U A
 | up {A:Nat→Prop} (B:Nat→Prop):(∃ a,A a∧B a)→(∃ a,A a∧¬ B a)→(∀ a b,A a→B a→A b→¬ B b→U a b)→Sp L U (fun a=>A a∧B a)→Sp L U (fun a=>A a∧¬ B a)→Sp L U A
theorem Sp.congr {L U:Nat→Nat→Prop} {A A':Nat→Prop} (h:Sp L U A) (e:∀ a,A a↔A' a):Sp L U A':=by
 have:A=A':=funext fun a=>propext (e a)
 rwa [← this]
theorem Sp.ne {L U:Nat→Nat→Prop} {A:Nat→Prop} (h:Sp L U A):∃ a,A a:=by
 cases h with
 | one a h _=>exact ⟨a,h⟩
 | left B h=>obtain ⟨a,h,_⟩:=h; exact ⟨a,h⟩
 | up B h=>obtain ⟨a,h,_⟩:=h; exact ⟨a,h⟩
theorem Sp.map {L U L' U':Nat→Nat→Prop} {A:Nat→Prop} (g:Nat→Nat) (h:Sp L U A):∀ {A':Nat→Prop},(∀ i,A' i→A (g i))→(∀ a,A a→∃ i,A' i∧g i=a)→(∀ i j,A' i→A' j→g i=g j→i=j) →
  (∀ i j,A' i→A' j→L (g i) (g j)→L' i j)→(∀ i j,A' i→A' j→U (g i) (g j)→U' i j)→Sp L' U' A':=by
 induction h with
 | one a ha hu =>
  intro A' h1 h2 h3 h4 h5
  obtain ⟨i,hi,e⟩:=h2 a ha
  exact .one i hi fun j hj=>h3 j i hj hi ((hu _ (h1 j hj)).trans e.symm)
 | left B hb hn hl _ _ i1 i2 =>
  intro A' h1 h2 h3 h4 h5
  refine .left (fun i=>B (g i)) ?_ ?_ (fun a b ha hba hb' hnb=>h4 a b ha hb' (hl _ _ (h1 a ha) hba (h1 b hb') hnb)) (i1 (fun i hi=>⟨h1 i hi.1,hi.2⟩) (fun a ha=>?_) (fun i j hi hj=>h3 i j hi.1 hj.1) (fun i j hi hj=>h4 i j hi.1 hj.1) fun i j hi hj=>h5 i j hi.1 hj.1)
   (i2 (fun i hi=>⟨h1 i hi.1,hi.2⟩) (fun a ha=>?_) (fun i j hi hj=>h3 i j hi.1 hj.1) (fun i j hi hj=>h4 i j hi.1 hj.1) fun i j hi hj=>h5 i j hi.1 hj.1)
  ·obtain ⟨a,ha,hb⟩:=hb; obtain ⟨i,hi,e⟩:=h2 a ha; exact ⟨i,hi,by rw [e]; exact hb⟩
  ·obtain ⟨a,ha,hb⟩:=hn; obtain ⟨i,hi,e⟩:=h2 a ha; exact ⟨i,hi,by rw [e]; exact hb⟩
  ·obtain ⟨i,hi,e⟩:=h2 a ha.1; exact ⟨i,⟨hi,by rw [e]; exact ha.2⟩,e⟩
  obtain ⟨i,hi,e⟩:=h2 a ha.1; exact ⟨i,⟨hi,by rw [e]; exact ha.2⟩,e⟩
 | up B hb hn hl _ _ i1 i2 =>
  intro A' h1 h2 h3 h4 h5
  refine .up (fun i=>B (g i)) ?_ ?_ (fun a b ha hba hb' hnb=>h5 a b ha hb' (hl _ _ (h1 a ha) hba (h1 b hb') hnb)) (i1 (fun i hi=>⟨h1 i hi.1,hi.2⟩) (fun a ha=>?_) (fun i j hi hj=>h3 i j hi.1 hj.1) (fun i j hi hj=>h4 i j hi.1 hj.1) fun i j hi hj=>h5 i j hi.1 hj.1)
   (i2 (fun i hi=>⟨h1 i hi.1,hi.2⟩) (fun a ha=>?_) (fun i j hi hj=>h3 i j hi.1 hj.1) (fun i j hi hj=>h4 i j hi.1 hj.1) fun i j hi hj=>h5 i j hi.1 hj.1)
  ·obtain ⟨a,ha,hb⟩:=hb; obtain ⟨i,hi,e⟩:=h2 a ha; exact ⟨i,hi,by rw [e]; exact hb⟩
  ·obtain ⟨a,ha,hb⟩:=hn; obtain ⟨i,hi,e⟩:=h2 a ha; exact ⟨i,hi,by rw [e]; exact hb⟩
  ·obtain ⟨i,hi,e⟩:=h2 a ha.1; exact ⟨i,⟨hi,by rw [e]; exact ha.2⟩,e⟩
  obtain ⟨i,hi,e⟩:=h2 a ha.1; exact ⟨i,⟨hi,by rw [e]; exact ha.2⟩,e⟩
theorem Sp.sub {L U:Nat→Nat→Prop} {A:Nat→Prop} (h:Sp L U A):∀ {A':Nat→Prop},(∀ a,A' a→A a)→(∃ a,A' a)→Sp L U A':=by
 induction h with
 | one a ha hu =>
  intro A' h1 ⟨b,hb⟩
  exact .one b hb fun d hd=>(hu d (h1 d hd)).trans (hu b (h1 b hb)).symm
 | left B _ _ hl _ _ i1 i2 =>
  intro A' h1 h2
  by_cases hb:∃ a,A' a∧B a
  ·by_cases hn:∃ a,A' a∧¬ B a
   ·exact .left B hb hn (fun a b ha hba hb' hnb=>hl a b (h1 a ha) hba (h1 b hb') hnb) (i1 (fun a ha=>⟨h1 a ha.1,ha.2⟩) hb) (i2 (fun a ha=>⟨h1 a ha.1,ha.2⟩) hn)
   exact i1 (fun a ha=>⟨h1 a ha,Classical.byContradiction fun h=>hn ⟨a,ha,h⟩⟩) h2
  exact i2 (fun a ha=>⟨h1 a ha,fun h=>hb ⟨a,ha,h⟩⟩) h2
 | up B _ _ hl _ _ i1 i2 =>
  intro A' h1 h2
  by_cases hb:∃ a,A' a∧B a
  ·by_cases hn:∃ a,A' a∧¬ B a
   ·exact .up B hb hn (fun a b ha hba hb' hnb=>hl a b (h1 a ha) hba (h1 b hb') hnb) (i1 (fun a ha=>⟨h1 a ha.1,ha.2⟩) hb) (i2 (fun a ha=>⟨h1 a ha.1,ha.2⟩) hn)
   exact i1 (fun a ha=>⟨h1 a ha,Classical.byContradiction fun h=>hn ⟨a,ha,h⟩⟩) h2
  exact i2 (fun a ha=>⟨h1 a ha,fun h=>hb ⟨a,ha,h⟩⟩) h2
section
variable {p:List Txt}
def Rms (p:List Txt) (t:Pt) (v:Nat):Prop:=∃ a c,t.r≤a∧a<t.r+t.h∧t.c≤c∧c<t.c+t.w∧zal p a c=v
theorem ygc (hp:zbq p=true) {t:Pt} (h:t.In p.length (zam p).length) {v:Nat} (hv:Rms p t v):v<(rP p).length:=by
 obtain ⟨a,c,e1,e2,e3,e4,e5⟩:=hv
 unfold Pt.In at h
 have:=zek hp (i:=a) (j:=c) (by omega) (by omega)
 omega
theorem zul (hp:zbq p=true) {t:Pt} (hw:Whole (zal p) p.length (zam p).length t) {x:CT} (hx:zdl (zal p) t=some x) (v:Nat):(v:Int)∈x.leaves↔Rms p t v :=
 (zf4 (zh3 hp) _ hw (qR _) hx).2.1 v
theorem z8d (hp:zbq p=true) {t:Pt} (hw:Whole (zal p) p.length (zam p).length t) {q:Bool × Nat} (hq:zec (zal p) t=some q) (v:Nat) :
  (Rms p t v∧Rms p (t.one q) v↔Rms p (t.one q) v)∧(Rms p t v∧¬ Rms p (t.one q) v↔Rms p (t.two q) v):=by
 obtain ⟨w1,w2⟩:=hw.cut (zh3 hp) hq
 have i1:=w1.inn; have i2:=w2.inn; have i0:=hw.inn
 obtain ⟨k1,k2⟩:=zg0 hq
 obtain ⟨lv,k⟩:=q
 have h1:Rms p (t.one (lv,k)) v→Rms p t v:=by
  rintro ⟨a,c,e1,e2,e3,e4,e5⟩
  refine ⟨a,c,?_⟩
  cases lv <;> simp only[Pt.one,qF,if_false,if_true] at * <;> exact ⟨by omega,by omega,by omega,by omega,e5⟩
 have h2:Rms p (t.two (lv,k)) v→Rms p t v∧¬ Rms p (t.one (lv,k)) v:=by
  rintro ⟨a,c,e1,e2,e3,e4,e5⟩
  refine ⟨⟨a,c,?_⟩,?_⟩
  ·cases lv <;> simp only[Pt.two,qF,if_false,if_true] at * <;> exact ⟨by omega,by omega,by omega,by omega,e5⟩
  rintro ⟨a',c',f1,f2,f3,f4,f5⟩
  unfold Pt.In at i1 i2
  have:=w1.all a' c' a c (by omega) (by omega) (by omega) (by omega) (f5.trans e5.symm) f1 f2 f3 f4
  cases lv <;> simp only[Pt.one,Pt.two,qF,if_false,if_true] at * <;> omega
 refine ⟨⟨fun h=>h.2,fun h=>⟨h1 h,h⟩⟩,⟨?_,h2⟩⟩
 rintro ⟨⟨a,c,e1,e2,e3,e4,e5⟩,hn⟩
 cases lv with
 | true =>
  simp only[Pt.one,Pt.two,if_true] at *
  rcases Nat.lt_or_ge a (t.r+k) with h | h
  ·exact absurd ⟨a,c,e1,h,e3,e4,e5⟩ hn
  exact ⟨a,c,h,by simp only; omega,e3,e4,e5⟩
 | false =>
  simp only[Pt.one,Pt.two,qF,if_false] at *
  rcases Nat.lt_or_ge c (t.c+k) with h | h
  ·exact absurd ⟨a,c,e1,e2,e3,h,e5⟩ hn
  exact ⟨a,c,e1,e2,h,by simp only; omega,e5⟩
theorem z0m (hp:zbe p=true):∀ (n:Nat) {t:Pt} {x:CT},Whole (zal p) p.length (zam p).length t→t.h*t.w≤n→zdl (zal p) t=some x→Sp (Lf p) (Ab p) (Rms p t)
 | 0,t,x,hw,hn',_=>by have:=Nat.mul_pos hw.inn.1 hw.inn.2.1; omega
 | n+1,t,x,hw,hn',hx=>by
  have hpl:=zeb hp
  have hi:=hw.inn
  cases h1:zxh (zal p) t with
  | true =>
   have hl:=zul hpl hw (zjr hi h1)
   have hc:=zek hpl (i:=t.r) (j:=t.c) (by unfold Pt.In at hi; omega) (by unfold Pt.In at hi; omega)
   refine .one (zal p t.r t.c).toNat ((hl _).1 (by simp [CT.leaves]; omega)) fun b hb=>?_
   have:=(hl b).2 hb
   simp only[CT.leaves,List.mem_singleton]at this
   omega
  | false =>
   cases hq:zec (zal p) t with
   | none=>rw [zkf hi h1 hq]at hx; cases hx
   | some q =>
    obtain ⟨i1,i2,a1,a2⟩:=hi.cut hq
    obtain ⟨w1,w2⟩:=hw.cut (zh3 hpl) hq
    rw [zhh hi h1 hq]at hx
    cases hx1:zdl (zal p) (t.one q) with
    | none=>rw [hx1]at hx; cases hx
    | some x1 =>
     cases hx2:zdl (zal p) (t.two q) with
     | none=>rw [hx1,hx2]at hx; cases hx
     | some x2 =>
      have s1:=z0m hp n w1 (by omega) hx1
      have s2:=z0m hp n w2 (by omega) hx2
      have hc:=z8d hpl hw hq
      have hs:=z5x hp hw hq hx1 hx2
      obtain ⟨b1,hb1⟩:=s1.ne
      obtain ⟨b2,hb2⟩:=s2.ne
      have e1:=s1.congr fun a=>((hc a).1).symm
      have e2:=s2.congr fun a=>((hc a).2).symm
      have key:∀ a b,Rms p t a→Rms p (t.one q) a→Rms p t b→¬ Rms p (t.one q) b→(q.1=false→Lf p a b)∧(q.1=true→Ab p a b):=by
       intro a b _ ha hb hnb
       have:=hs a b ((zul hpl w1 hx1 a).2 ha) ((zul hpl w2 hx2 b).2 (((hc b).2).1 ⟨hb,hnb⟩))
       simpa using this
      cases hlv:q.1 with
      | false=>exact .left (Rms p (t.one q)) ⟨b1,((hc b1).1).2 hb1⟩ ⟨b2,((hc b2).2).2 hb2⟩ (fun a b h1 h2 h3 h4=>(key a b h1 h2 h3 h4).1 hlv) e1 e2
      | true=>exact .up (Rms p (t.one q)) ⟨b1,((hc b1).1).2 hb1⟩ ⟨b2,((hc b2).2).2 hb2⟩ (fun a b h1 h2 h3 h4=>(key a b h1 h2 h3 h4).2 hlv) e1 e2
theorem zx0 (hp:zbe p=true) {t:Pt} (hi:t.In p.length (zam p).length) {i j i' j':Nat} (h1:i<t.h) (h2:j<t.w) (h3:i'<t.h) (h4:j'<t.w) :
  (Lf p (zi6 (cn (gP p)) t i j) (zi6 (cn (gP p)) t i' j')→TC (DL (zi6 (cn (gP p)) t) t.h t.w) (zi6 (cn (gP p)) t i j) (zi6 (cn (gP p)) t i' j')) ∧
  (Ab p (zi6 (cn (gP p)) t i j) (zi6 (cn (gP p)) t i' j')→TC (DU (zi6 (cn (gP p)) t) t.h t.w) (zi6 (cn (gP p)) t i j) (zi6 (cn (gP p)) t i' j')):=by
 have hpl:=zeb hp
 have hP:=(zlc hp).sub hi
 have hin:=hi
 unfold Pt.In at hin
 have hr:∀ i j,i<t.h→j<t.w→zi6 (cn (gP p)) t i j<(rP p).length:=by
  intro i j hi' hj'
  have:=zek hpl (i:=t.r+i) (j:=t.c+j) (by omega) (by omega)
  have:=zfw hpl (i:=t.r+i) (j:=t.c+j) (by omega) (by omega)
  simp only[zi6]; omega
 have ha:=hr i j h1 h2
 have hb:=hr i' j' h3 h4
 have gl:∀ {a b:Nat},a<(rP p).length→b<(rP p).length→TC (DL (zi6 (cn (gP p)) t) t.h t.w) a b→Lf p a b:=fun x y h=>(Lf.iff x y).2 (h.mono fun _ _=>DL.sub hi)
 have gu:∀ {a b:Nat},a<(rP p).length→b<(rP p).length→TC (DU (zi6 (cn (gP p)) t) t.h t.w) a b→Ab p a b:=fun x y h=>(Ab.iff x y).2 (h.mono fun _ _=>DU.sub hi)
 constructor
 ·intro h
  have hne:zi6 (cn (gP p)) t i j≠zi6 (cn (gP p)) t i' j':=fun e=>(Lf.only hp ha hb h).1 (by rw [e]at h ⊢; exact h)
  rcases zvm hP h1 h2 h3 h4 hne with k | k | k | k
  ·exact k
  ·exact absurd (gl hb ha k) (Lf.only hp ha hb h).1
  ·exact absurd (gu ha hb k) (Lf.only hp ha hb h).2.1
  exact absurd (gu hb ha k) (Lf.only hp ha hb h).2.2
 intro h
 have hne:zi6 (cn (gP p)) t i j≠zi6 (cn (gP p)) t i' j':=fun e=>(Ab.only hp ha hb h).1 (by rw [e]at h ⊢; exact h)
 rcases zvm hP h1 h2 h3 h4 hne with k | k | k | k
 ·exact absurd (gl ha hb k) (Ab.only hp ha hb h).2.1
 ·exact absurd (gl hb ha k) (Ab.only hp ha hb h).2.2
 ·exact k
 exact absurd (gu hb ha k) (Ab.only hp ha hb h).1
theorem z0i (hp:zbe p=true):∀ (n:Nat) {t:Pt},Whole (zal p) p.length (zam p).length t→t.h*t.w≤n→Sp (Lf p) (Ab p) (Rms p t)→∃ x,zdl (zal p) t=some x
 | 0,t,hw,hn',_=>by have:=Nat.mul_pos hw.inn.1 hw.inn.2.1; omega
 | n+1,t,hw,hn',hsp=>by
  have hpl:=zeb hp
  have hi:=hw.inn
  have hP:=(zlc hp).sub hi
  have hin:=hi
  unfold Pt.In at hin
  have sc:∀ i j,i<t.h→j<t.w→(zi6 (cn (gP p)) t i j:Int)=zal p (t.r+i) (t.c+j):=fun i j a b=>zfw hpl (by omega) (by omega)
  have srm:∀ i j,i<t.h→j<t.w→Rms p t (zi6 (cn (gP p)) t i j):=fun i j a b=>⟨t.r+i,t.c+j,by omega,by omega,by omega,by omega,(sc i j a b).symm⟩
  have rsc:∀ v,Rms p t v→∃ i j,i<t.h∧j<t.w∧zi6 (cn (gP p)) t i j=v:=by
   rintro v ⟨a,c,e1,e2,e3,e4,e5⟩
   refine ⟨a - t.r,c - t.c,by omega,by omega,?_⟩
   have:=sc (a - t.r) (c - t.c) (by omega) (by omega)
   rw [show t.r+(a - t.r)=a by omega,show t.c+(c - t.c)=c by omega]at this
   omega
  cases h1:zxh (zal p) t with
  | true=>exact ⟨_,zjr hi h1⟩
  | false =>
   have hcut:∃ q,zec (zal p) t=some q:=by
    cases hq:zec (zal p) t with
    | some q=>exact ⟨q,rfl⟩
    | none =>
     exfalso
     obtain ⟨nu,nl⟩:=zsf.1 hq
     have hno:¬ ∀ i j,i<t.h→j<t.w→zal p (t.r+i) (t.c+j)=zal p t.r t.c:=fun hc=>by rw [zpb.2 hc]at h1; cases h1
     cases hsp with
     | one a ha hu =>
      apply hno
      intro i j hi' hj'
      have e1:=hu _ (srm i j hi' hj')
      have e2:=hu _ (srm 0 0 (by omega) (by omega))
      have f1:=sc i j hi' hj'
      have f2:=sc 0 0 (by omega) (by omega)
      simp only[Nat.add_zero]at f2
      omega
     | left B hb hnb hl _ _ =>
      obtain ⟨a,ha,hba⟩:=hb
      obtain ⟨b,hb',hbb⟩:=hnb
      obtain ⟨i0,j0,g1,g2,rfl⟩:=rsc a ha
      obtain ⟨i1,j1,g3,g4,rfl⟩:=rsc b hb'
      obtain ⟨k,k1,k2,k3,_⟩:=zw7 hP (by omega) (P:=B) ⟨i0,j0,g1,g2,hba⟩ ⟨i1,j1,g3,g4,hbb⟩ fun i j i' j' q1 q2 q3 q4 q5 q6=>(zx0 hp hi q1 q2 q3 q4).1 (hl _ _ (srm i j q1 q2) q5 (srm i' j' q3 q4) q6)
      have:=nu k k1 k2
      rw [Bool.eq_false_iff,ne_eq,zvl]at this
      apply this
      intro i hi' e
      apply k3 i hi'
      have f1:=sc i (k - 1) hi' (by omega)
      have f2:=sc i k hi' k2
      rw [show t.c+(k - 1)=t.c+k - 1 by omega]at f1
      omega
     | up B hb hnb hl _ _ =>
      obtain ⟨a,ha,hba⟩:=hb
      obtain ⟨b,hb',hbb⟩:=hnb
      obtain ⟨i0,j0,g1,g2,rfl⟩:=rsc a ha
      obtain ⟨i1,j1,g3,g4,rfl⟩:=rsc b hb'
      obtain ⟨k,k1,k2,k3,_⟩:=zw7 hP.ex (by omega) (P:=B) ⟨j0,i0,g2,g1,hba⟩ ⟨j1,i1,g4,g3,hbb⟩ fun j i j' i' q2 q1 q4 q3 q5 q6=>(zx0 hp hi q1 q2 q3 q4).2 (hl _ _ (srm i j q1 q2) q5 (srm i' j' q3 q4) q6)
      have:=nl k k1 k2
      rw [Bool.eq_false_iff,ne_eq,zvk]at this
      apply this
      intro j hj' e
      apply k3 j hj'
      have f1:=sc (k - 1) j (by omega) hj'
      have f2:=sc k j k2 hj'
      rw [show t.r+(k - 1)=t.r+k - 1 by omega]at f1
      simp only[tr]
      omega
   obtain ⟨q,hq⟩:=hcut
   obtain ⟨i1,i2,a1,a2⟩:=hi.cut hq
   obtain ⟨w1,w2⟩:=hw.cut (zh3 hpl) hq
   have hc:=z8d hpl hw hq
   have n1:∃ a,Rms p (t.one q) a:=by
    unfold Pt.In at i1
    have:=zek hpl (i:=(t.one q).r) (j:=(t.one q).c) (by omega) (by omega)
    exact ⟨(zal p (t.one q).r (t.one q).c).toNat,(t.one q).r,(t.one q).c,by omega,by omega,by omega,by omega,by omega⟩
   have n2:∃ a,Rms p (t.two q) a:=by
    unfold Pt.In at i2
    have:=zek hpl (i:=(t.two q).r) (j:=(t.two q).c) (by omega) (by omega)
    exact ⟨(zal p (t.two q).r (t.two q).c).toNat,(t.two q).r,(t.two q).c,by omega,by omega,by omega,by omega,by omega⟩
   obtain ⟨x1,hx1⟩:=z0i hp n w1 (by omega) (hsp.sub (fun a ha=>(((hc a).1).2 ha).1) n1)
   obtain ⟨x2,hx2⟩:=z0i hp n w2 (by omega) (hsp.sub (fun a ha=>(((hc a).2).2 ha).1) n2)
   exact ⟨_,by rw [zhh hi h1 hq,hx1,hx2]⟩
def PL (l:List Int) (i j:Nat):Prop:=i<j∧zk4 l i<zk4 l j
def PU (l:List Int) (i j:Nat):Prop:=j<i∧¬ zk4 l j<zk4 l i
theorem zhz (hp:zbq p=true) (v:Nat):Rms p ⟨0,0,p.length,(zam p).length⟩ v↔v<(rP p).length:=by
 constructor
 ·exact ygc hp (zrv hp).inn
 intro hv
 obtain ⟨i,j,hi,hj,e⟩:=zjj hv
 have:=zfw hp hi hj
 exact ⟨i,j,Nat.zero_le _,by simpa using hi,Nat.zero_le _,by simpa using hj,by omega⟩
theorem z97 (hp:zbe p=true):(∃ x,zdl (zal p) ⟨0,0,p.length,(zam p).length⟩=some x)↔Sp (PL (zdu p)) (PU (zdu p)) (· < (zdu p).length):=by
 have hpl:=zeb hp
 have hw:=zrv hpl
 have hn:(zdu p).length=(rP p).length:=zfn
 have hx:∀ i,i<(rP p).length→zk4 (zdu p) i=xI p i:=fun i hi=>zzs (yhm hp hi)
 have step:Sp (Lf p) (Ab p) (Rms p ⟨0,0,p.length,(zam p).length⟩)↔Sp (PL (zdu p)) (PU (zdu p)) (· < (zdu p).length):=by
  constructor
  ·intro h
   refine h.map (zy7 p) (fun i hi=>(zhz hpl _).2 (zhc hp (by omega)).1) (fun a ha=>?_) (fun i j hi hj e=>?_) (fun i j hi hj hl=>?_) fun i j hi hj hl=>?_
   ·have ha:=(zhz hpl a).1 ha
    exact ⟨ahK p true a,by rw [hn]; exact zhn hp ha,zlg hp ha⟩
   ·have h1:=(zhc hp (i:=i) (by omega)).2.1
    have h2:=(zhc hp (i:=j) (by omega)).2.1
    rw [e]at h1; omega
   ·have h1:=zhc hp (i:=i) (by omega)
    have:=z6y hp h1.1 (i:=j) (by omega) hl
    rw [h1.2.1]at this
    unfold PL
    rw [hx i (by omega),hx j (by omega)]; exact this
   have h1:=zhc hp (i:=j) (by omega)
   have:=z5g hp h1.1 (i:=i) (by omega) hl
   rw [h1.2.1]at this
   unfold PU
   rw [hx i (by omega),hx j (by omega)]; exact this
  intro h
  refine h.map (ahK p true) (fun a ha=>by rw [hn]; exact zhn hp ((zhz hpl a).1 ha)) (fun i hi=>?_) (fun a b ha hb e=>zkv hp ((zhz hpl a).1 ha) ((zhz hpl b).1 hb) e) (fun a b ha hb hl=>?_) fun a b ha hb hl=>?_
  ·have h1:=zhc hp (i:=i) (by omega)
   exact ⟨zy7 p i,(zhz hpl _).2 h1.1,h1.2.1⟩
  ·have ha:=(zhz hpl a).1 ha
   have hb:=(zhz hpl b).1 hb
   obtain ⟨h1,h2⟩:=hl
   have l2:=zhn (below:=true) hp hb
   rw [hx _ (by omega),hx _ l2]at h2
   have:=(x_lt hp h1 l2).1 h2
   rw [zlg hp ha,zlg hp hb]at this
   exact this
  have ha:=(zhz hpl a).1 ha
  have hb:=(zhz hpl b).1 hb
  obtain ⟨h1,h2⟩:=hl
  have l2:=zhn (below:=true) hp ha
  rw [hx _ (by omega),hx _ l2]at h2
  have:=(x_lt hp h1 l2).2 h2
  rw [zlg hp ha,zlg hp hb]at this
  exact this
 rw [← step]
 exact ⟨fun ⟨x,hx⟩=>z0m hp _ hw (qR _) hx,fun h=>z0i hp _ hw (qR _) h⟩
end
end

def zm8 (p:List Txt):Pt:=⟨0,0,p.length,(zam p).length⟩
def z96 (p:List Txt):Bool:=zbq p && (zdl (zal p) (zm8 p)).isSome
theorem zpc {S:Store} {x t:Rect}:pEq tab S 55 (zrz x) (.agg [.int .i64 t.row,.int .i64 t.col,.int .i64 t.high,.int .i64 t.wide])=some (decide (x=t)):=by
 have h:(tab 55).kd = .struct [(0,3),(1,3),(2,3),(3,3)]:=by kernel_rfl
 have h2:zg7 tab [(0,3),(1,3),(2,3),(3,3)] 0=true:=by kernel_rfl
 obtain ⟨b1,b2,b3,b4⟩:=x
 obtain ⟨o1,o2,o3,o4⟩:=t
 unfold pEq
 rw [h]
 simp [h2,Rect.cells,zqg]
def slO (l:List Int) (v:Nat):PV:=match l with | [] => .nils | _ => .loc 1 v 0 l.length
def stO (b:Ob) (l:List Int) (v t:Nat):Store:=match l with | []=>⟨[b],t⟩ | _=>⟨[b,.arr v 3 1 (l.map (.int .i64))],t⟩
theorem zvh {v:Nat}:slO [] v = .nils:=rfl
theorem zvi {b:Ob} {v t:Nat}:stO b [] v t=⟨[b],t⟩:=rfl
theorem zyr {l:List Int} {v:Nat} (h:l≠[]):slO l v = .loc 1 v 0 l.length:=by cases l with | nil=>exact absurd rfl h | cons a l=>rfl
theorem zyv {b:Ob} {l:List Int} {v t:Nat} (h:l≠[]):stO b l v t=⟨[b,.arr v 3 1 (l.map (.int .i64))],t⟩:=by cases l with | nil=>exact absurd rfl h | cons a l=>rfl
theorem z76 {b:Ob} {l:List Int} {v t:Nat} {im:Bool} {k:Nat}:reify (stO b l v t) im (k+2) (slO l v)=some (eInts l):=by
 cases l with
 | nil=>rfl
 | cons a l=>exact zcl (k:=k+1) (S:=⟨[b,.arr v 3 1 ((a::l).map (.int .i64))],t⟩) (o:=1) rfl (by simp) (zjz _)
theorem zne {g:List (List Int)} {rs:List Rect}:(zax g rs).isDef=true:=rfl
theorem z6o (b:Rect) (t:Rect) (l:List Int):(t.both b≠t∧l=[])∨(t.both b≠t∧l≠[])∨(t.both b=t∧l=[])∨(t.both b=t∧l≠[]):=by
 by_cases h:t.both b=t <;> by_cases e:l=[] <;> simp [h,e]
theorem z6z (g:List (List Int)) {rs:List Rect} (hrs:rs.length≤1000) (hfit:∀ b∈rs,b.Fit) {t:Rect} (ht:t.Fit):PC Tryz.prog 72 [zik g rs t] (eInts (rms rs t)) true:=by
 simp only[zik,Rect.cells]
 refine PC.of ⟨Tryz.func72,by kernel_rfl,rfl,by kernel_rfl⟩ zar mixed (by show 1≤Tryz.f72.ntmps; decide) ?_
 refine W.r fun K hK=>?_
 simp(disch:=omega)only[↓RU,RV,RH,↓reduceIte,qE,reduceCtorEq,if_pos,↓RS,RG,qA,qM,qL,ty7,zcm,zbb,zaa,zcn,zbc]
 apply hK;clear hK K
 refine W.r fun K hK=>?_
 simp(disch:=omega)only[↓RU,RV,RH,↓reduceIte,qE,reduceCtorEq,if_pos,↓RS,RG,qA,qM,qL]
 apply hK;clear hK K
 refine W.seq ?_
 refine W.r fun K hK=>?_
 simp(disch:=omega)only[↓RU,RV,RH,↓reduceIte,qE,reduceCtorEq,if_pos,↓RS,RG,qA,qM,qL,ty1,ty3,zab,ty7,ze1,zc3,zcm,zbb,zaa,zcn,ze3,zbc]
 apply hK;clear hK K
 refine W.block ?_
 refine W.loopS [1,10,11,12,3] (fun n vs S=>∃ i v tk:Nat,n=rs.length - i∧i≤rs.length∧vs=[.ref 0 0 0,zn6 rs,.int .i64 rs.length,.int .i64 i,slO (zgx rs t i) v]∧S=stO (.arr 0 57 5 [zax g rs,.int .i64 t.row,.int .i64 t.col,.int .i64 t.high,.int .i64 t.wide]) (zgx rs t i) v tk) rs.length ?_ ?_
 ·refine ⟨1,[],[.ref 0 0 0,zn6 rs,.int .i64 rs.length,.int .i64 (0:Nat),slO [] 0],stO (.arr 0 57 5 [zax g rs,.int .i64 t.row,.int .i64 t.col,.int .i64 t.high,.int .i64 t.wide]) [] 0 2,?_,?_,0,0,2,rfl,by omega,rfl,rfl⟩
  ·simp [-qU,Env.put,Env.of,zae,zb1,zaj,zao,zay,za0,zcc,zcd,zdc,zcb,zbi,zce,zdb,zdd,zbk,zbj,za1,zca,zcf,zda,zbg,zbf,zaz,zbh,zb9,zfe,qS,qP,qC,zvh]
  simp [-qU,Env.put,Env.of,zae,zb1,zaj,zao,zay,za0,zcc,zcd,zdc,zcb,zbi,zce,zdb,zdd,zbk,zbj,za1,zca,zcf,zda,zbg,zbf,zaz,zbh,zb9,zfe,qS,qP,qC,zvi,zos,Rect.cells]
 rintro n vs S - ⟨i,v,tk,rfl,h_i,rfl,rfl⟩
 refine W.r fun K hK=>?_
 simp(disch:=omega)only[↓RU,RV,RH,↓reduceIte,qE,reduceCtorEq,if_pos,w64,↓RS,RG,qA,qM,qL,zaa]
 apply hK;clear hK K
 refine W.seq ?_
 refine W.cond rfl (fun h=>?_) (fun h=>?_)
 ·try simp only[RL]at h
  obtain ⟨b,hb,hbm⟩:=zag (show i<rs.length by omega)
  have hbr:=zkt hb
  have hlen:=z8c (rs:=rs) (t:=t) (k:=i)
  generalize hl:zgx rs t i=l at hlen
  refine W.skip ?_
  refine xn ?_
  refine W.seq ?_
  refine W.block ?_
  refine W.r fun K hK=>?_
  obtain ⟨hd,rfl⟩ | ⟨hd,hw⟩ | ⟨hd,rfl⟩ | ⟨hd,hw⟩:=z6o b t l
  ·skip
   rw [zvh,zvi]
   simp(disch:=omega)only[↓RU,RV,RH,↓reduceIte,qE,reduceCtorEq,if_pos,↓RS,RG,qA,qM,qL,ty3,zbb,zaa,zbc,hbr,zb4,Rect.cells]
   apply hK;clear hK K
   refine W.seq_draw (by kernel_rfl) fun K hK=>?_
   simp(disch:=omega)only[↓RU,RV,RH,↓reduceIte,qE,reduceCtorEq,if_pos,qN,w64,↓RS,RG,qA,qM,qL,ty7,zcm,zbb,zaa,zcn,zbc]
   refine zad.pc (zkx ht.in_ (hfit b hbm).in_) rfl (.inl rfl) ?_
   simp(disch:=omega)only[↓RU,RV,RH,↓reduceIte,qE,reduceCtorEq,if_pos,qN,w64,↓RS,RG,qA,qM,qL,ty7,zcm,zbb,zaa,zcn,zbc,zpc,qO]
   apply hK;clear hK K
   refine W.cond rfl (fun h1=>?_) (fun h1=>?_)
   ·try simp only[RL]at h1
    exact absurd h1 (by simp [hd])
   try simp only[RL]at h1
   refine W.skip ?_
   refine XbN ?_
   refine xn ?_
   refine W.k fun K hK=>?_
   simp(disch:=omega)only[↓RU,RV,RH,↓reduceIte,qE,reduceCtorEq,if_pos,w64,↓RS,RG,qA,qM,qL,zaa]
   apply hK;clear hK K
   refine xn ?_
   have hnx:zgx rs t (i+1)=[]:=by rw [zj7 hb,hl,if_neg hd] <;> rfl
   refine ⟨rs.length - (i+1),by omega,1,[],[.ref 0 0 0,zn6 rs,.int .i64 rs.length,.int .i64 ((i+1:Nat):Int),slO (zgx rs t (i+1)) v],stO (.arr 0 57 5 [zax g rs,.int .i64 t.row,.int .i64 t.col,.int .i64 t.high,.int .i64 t.wide]) (zgx rs t (i+1)) v (tk+2),?_,?_,i+1,v,(tk+2),rfl,by omega,rfl,rfl⟩
   ·rw [hnx]; simp [-qU,Env.put,Env.of,zae,zb1,zaj,zao,zay,za0,zcc,zcd,zdc,zcb,zbi,zce,zdb,zdd,zbk,zbj,za1,zca,zcf,zda,zbg,zbf,zaz,zbh,zb9,zfe,qS,qP,qC,zvh]
   rw [hnx]; simp [-qU,Env.put,Env.of,zae,zb1,zaj,zao,zay,za0,zcc,zcd,zdc,zcb,zbi,zce,zdb,zdd,zbk,zbj,za1,zca,zcf,zda,zbg,zbf,zaz,zbh,zb9,zfe,qS,qP,qC,zvi,Rect.cells]
  ·skip
   rw [zyr hw,zyv hw]
   simp(disch:=omega)only[↓RU,RV,RH,↓reduceIte,qE,reduceCtorEq,if_pos,↓RS,RG,qA,qM,qL,ty3,zbb,zaa,zbc,hbr,zb4,Rect.cells]
   apply hK;clear hK K
   refine W.seq_draw (by kernel_rfl) fun K hK=>?_
   simp(disch:=omega)only[↓RU,RV,RH,↓reduceIte,qE,reduceCtorEq,if_pos,qN,w64,↓RS,RG,qA,qM,qL,ty7,zcm,zbb,zaa,zcn,zbc]
   refine zad.pc (zkx ht.in_ (hfit b hbm).in_) rfl (.inl rfl) ?_
   simp(disch:=omega)only[↓RU,RV,RH,↓reduceIte,qE,reduceCtorEq,if_pos,qN,w64,↓RS,RG,qA,qM,qL,ty7,zcm,zbb,zaa,zcn,zbc,zpc,qO]
   apply hK;clear hK K
   refine W.cond rfl (fun h1=>?_) (fun h1=>?_)
   ·try simp only[RL]at h1
    exact absurd h1 (by simp [hd])
   try simp only[RL]at h1
   refine W.skip ?_
   refine XbN ?_
   refine xn ?_
   refine W.k fun K hK=>?_
   simp(disch:=omega)only[↓RU,RV,RH,↓reduceIte,qE,reduceCtorEq,if_pos,w64,↓RS,RG,qA,qM,qL,zaa]
   apply hK;clear hK K
   refine xn ?_
   have hnx:zgx rs t (i+1)=l:=by rw [zj7 hb,hl,if_neg hd] <;> rfl
   refine ⟨rs.length - (i+1),by omega,2,[],[.ref 0 0 0,zn6 rs,.int .i64 rs.length,.int .i64 ((i+1:Nat):Int),slO (zgx rs t (i+1)) v],stO (.arr 0 57 5 [zax g rs,.int .i64 t.row,.int .i64 t.col,.int .i64 t.high,.int .i64 t.wide]) (zgx rs t (i+1)) v (tk+2),?_,?_,i+1,v,(tk+2),rfl,by omega,rfl,rfl⟩
   ·rw [hnx]; simp [-qU,Env.put,Env.of,zae,zb1,zaj,zao,zay,za0,zcc,zcd,zdc,zcb,zbi,zce,zdb,zdd,zbk,zbj,za1,zca,zcf,zda,zbg,zbf,zaz,zbh,zb9,zfe,qS,qP,qC,zyr hw]
   rw [hnx]; simp [-qU,Env.put,Env.of,zae,zb1,zaj,zao,zay,za0,zcc,zcd,zdc,zcb,zbi,zce,zdb,zdd,zbk,zbj,za1,zca,zcf,zda,zbg,zbf,zaz,zbh,zb9,zfe,qS,qP,qC,zyv hw,zh4,Rect.cells]
  ·skip
   rw [zvh,zvi]
   simp(disch:=omega)only[↓RU,RV,RH,↓reduceIte,qE,reduceCtorEq,if_pos,↓RS,RG,qA,qM,qL,ty3,zbb,zaa,zbc,hbr,zb4,Rect.cells]
   apply hK;clear hK K
   refine W.seq_draw (by kernel_rfl) fun K hK=>?_
   simp(disch:=omega)only[↓RU,RV,RH,↓reduceIte,qE,reduceCtorEq,if_pos,qN,w64,↓RS,RG,qA,qM,qL,ty7,zcm,zbb,zaa,zcn,zbc]
   refine zad.pc (zkx ht.in_ (hfit b hbm).in_) rfl (.inl rfl) ?_
   simp(disch:=omega)only[↓RU,RV,RH,↓reduceIte,qE,reduceCtorEq,if_pos,qN,w64,↓RS,RG,qA,qM,qL,ty7,zcm,zbb,zaa,zcn,zbc,zpc,qO]
   apply hK;clear hK K
   refine W.cond rfl (fun h1=>?_) (fun h1=>?_)
   ·try simp only[RL]at h1
    refine W.k fun K hK=>?_
    simp(disch:=omega)only[↓RU,RV,RH,↓reduceIte,qE,reduceCtorEq,if_pos,↓RS,RG,qA,qM,qL,zab,zaa]
    apply hK;clear hK K
    refine XbN ?_
    refine xn ?_
    refine W.k fun K hK=>?_
    simp(disch:=omega)only[↓RU,RV,RH,↓reduceIte,qE,reduceCtorEq,if_pos,w64,↓RS,RG,qA,qM,qL,zaa]
    apply hK;clear hK K
    refine xn ?_
    have hnx:zgx rs t (i+1)=[(i:Int)]:=by rw [zj7 hb,hl,if_pos hd] <;> rfl
    refine ⟨rs.length - (i+1),by omega,1,[3],[.ref 0 0 0,zn6 rs,.int .i64 rs.length,.int .i64 ((i+1:Nat):Int),slO (zgx rs t (i+1)) (tk+3)],stO (.arr 0 57 5 [zax g rs,.int .i64 t.row,.int .i64 t.col,.int .i64 t.high,.int .i64 t.wide]) (zgx rs t (i+1)) (tk+3) (tk+4),?_,?_,i+1,(tk+3),(tk+4),rfl,by omega,rfl,rfl⟩
    ·rw [hnx]; simp [-qU,Env.put,Env.of,zae,zb1,zaj,zao,zay,za0,zcc,zcd,zdc,zcb,zbi,zce,zdb,zdd,zbk,zbj,za1,zca,zcf,zda,zbg,zbf,zaz,zbh,zb9,zfe,qS,qP,qC,zyr]
    rw [hnx]; simp [-qU,Env.put,Env.of,zae,zb1,zaj,zao,zay,za0,zcc,zcd,zdc,zcb,zbi,zce,zdb,zdd,zbk,zbj,za1,zca,zcf,zda,zbg,zbf,zaz,zbh,zb9,zfe,qS,qP,qC,zyv,zos,Rect.cells]
   try simp only[RL]at h1
   exact absurd h1 (by simp [hd])
  skip
  rw [zyr hw,zyv hw]
  simp(disch:=omega)only[↓RU,RV,RH,↓reduceIte,qE,reduceCtorEq,if_pos,↓RS,RG,qA,qM,qL,ty3,zbb,zaa,zbc,hbr,zb4,Rect.cells]
  apply hK;clear hK K
  refine W.seq_draw (by kernel_rfl) fun K hK=>?_
  simp(disch:=omega)only[↓RU,RV,RH,↓reduceIte,qE,reduceCtorEq,if_pos,qN,w64,↓RS,RG,qA,qM,qL,ty7,zcm,zbb,zaa,zcn,zbc]
  refine zad.pc (zkx ht.in_ (hfit b hbm).in_) rfl (.inl rfl) ?_
  simp(disch:=omega)only[↓RU,RV,RH,↓reduceIte,qE,reduceCtorEq,if_pos,qN,w64,↓RS,RG,qA,qM,qL,ty7,zcm,zbb,zaa,zcn,zbc,zpc,qO]
  apply hK;clear hK K
  refine W.cond rfl (fun h1=>?_) (fun h1=>?_)
  ·try simp only[RL]at h1
   refine W.k fun K hK=>?_
   simp(disch:=omega)only[↓RU,RV,RH,↓reduceIte,qE,reduceCtorEq,if_pos,↓RS,RG,qA,qM,qL,zab,zaa]
   apply hK;clear hK K
   refine XbN ?_
   refine xn ?_
   refine W.k fun K hK=>?_
   simp(disch:=omega)only[↓RU,RV,RH,↓reduceIte,qE,reduceCtorEq,if_pos,w64,↓RS,RG,qA,qM,qL,zaa]
   apply hK;clear hK K
   refine xn ?_
   have hnx:zgx rs t (i+1)=l++[(i:Int)]:=by rw [zj7 hb,hl,if_pos hd] <;> rfl
   refine ⟨rs.length - (i+1),by omega,2,[],[.ref 0 0 0,zn6 rs,.int .i64 rs.length,.int .i64 ((i+1:Nat):Int),slO (zgx rs t (i+1)) (tk+2)],stO (.arr 0 57 5 [zax g rs,.int .i64 t.row,.int .i64 t.col,.int .i64 t.high,.int .i64 t.wide]) (zgx rs t (i+1)) (tk+2) (tk+4),?_,?_,i+1,(tk+2),(tk+4),rfl,by omega,rfl,rfl⟩
   ·rw [hnx]; simp [-qU,Env.put,Env.of,zae,zb1,zaj,zao,zay,za0,zcc,zcd,zdc,zcb,zbi,zce,zdb,zdd,zbk,zbj,za1,zca,zcf,zda,zbg,zbf,zaz,zbh,zb9,zfe,qS,qP,qC,zyr (l:=l++[(i:Int)]) (by simp)]
   rw [hnx]; simp [-qU,Env.put,Env.of,zae,zb1,zaj,zao,zay,za0,zcc,zcd,zdc,zcb,zbi,zce,zdb,zdd,zbk,zbj,za1,zca,zcf,zda,zbg,zbf,zaz,zbh,zb9,zfe,qS,qP,qC,zyv (l:=l++[(i:Int)]) (by simp),zh4,Rect.cells]
  try simp only[RL]at h1
  exact absurd h1 (by simp [hd])
 try simp only[RL]at h
 obtain rfl:rs.length=i:=by omega
 refine W.exit ?_
 refine xe ?_
 refine xe ?_
 refine XBlock.hit ?_
 refine xn ?_
 refine W.r fun K hK=>?_
 simp(disch:=omega)only[↓RU,RV,RH,↓reduceIte,qE,reduceCtorEq,if_pos,↓RS,RG,qA,qM,qL]
 apply hK;clear hK K
 refine W.ret ?_
 refine Br rfl ?_
 exact z76
theorem zfd {g:List (List Int)} {nh nw:Nat} (hg:GW g nh nw) (rs:List Rect) {t:Pt} (ht:t.In nh nw) {level:Bool} {line:Nat} (hl1:1≤line) (hl2:if level then line<nh else line<nw):PC Tryz.prog 141 [zik g rs t.rect,.bool level,.int .i64 line] (.bool (thG g t level line)) true:=by
 obtain ⟨t1,t2,t3,t4⟩:=ht
 have hgg:=hg
 obtain ⟨g1,g2,g3,g4⟩:=hg.2.2
 obtain ⟨fr,hfr⟩:∃ fr:Nat,(if level then t.c else t.r)=fr:=⟨_,rfl⟩
 obtain ⟨lg,hlg⟩:∃ lg:Nat,(if level then t.w else t.h)=lg:=⟨_,rfl⟩
 have hth:thG g t level line=(List.range lg).all fun j=>zij g level line (fr+j):=by subst hfr hlg; cases level <;> rfl
 have hin:∀ j,j<lg→InL nh nw level line (fr+j):=by subst hfr hlg; intro j hj; refine ⟨hl1,?_⟩; cases level <;> simp at hj hl2 ⊢ <;> omega
 have hb:fr≤6∧lg≤6:=by subst hfr hlg; cases level <;> simp <;> omega
 have hln:line≤6:=by cases level <;> simp at hl2 <;> omega
 simp only[Pt.rect,zik,Rect.cells]
 refine PC.of ⟨Tryz.func141,by kernel_rfl,rfl,by kernel_rfl⟩ zar mixed (by show 3≤Tryz.f141.ntmps; decide) ?_
 refine W.r fun K hK=>?_
 simp(disch:=omega)only[↓RU,RV,RH,↓reduceIte,qE,reduceCtorEq,if_pos,↓RS,RG,qA,qM,qL,ty7,zcm,zbb,zaa,zcn,zbc]
 apply hK;clear hK K
 refine W.seq_draw (by kernel_rfl) fun K hK=>?_
 simp(disch:=omega)only[↓RU,RV,RH,↓reduceIte,qE,reduceCtorEq,if_pos,↓RS,RG,qA,qM,qL,ty7,zcm,zbb,zaa,zcn,zbc]
 apply hK;clear hK K
 refine W.join [3,1,2,7,8] (fun vs S=>vs=[.ref 0 0 0,.bool level,.int .i64 line,.int .i64 fr,.int .i64 lg]∧S=⟨[.arr 0 57 5 [zax g rs,.int .i64 t.r,.int .i64 t.c,.int .i64 t.h,.int .i64 t.w]],1⟩) ?_ ?_
 ·
  refine W.r fun K hK=>?_
  simp(disch:=omega)only[↓RU,RV,RH,↓reduceIte,qE,reduceCtorEq,if_pos,↓RS,RG,qA,qM,qL]
  apply hK;clear hK K
  refine W.cond rfl (fun h0=>?_) (fun h0=>?_)
  ·try simp only[RL]at h0
   refine W.draw_k (by kernel_rfl) fun K hK=>?_
   simp(disch:=omega)only[↓RU,RV,RH,↓reduceIte,qE,reduceCtorEq,if_pos,↓RS,RG,qA,qM,qL,ty7,zcm,zbb,zaa,zcn,zbc]
   apply hK;clear hK K
   refine xn ?_
   refine ⟨1,?_,rfl⟩
   simp only[h0,if_true,qF,if_false]at hfr hlg
   subst hfr hlg h0
   simp [Env.put,Env.of,zae]
  try simp only[RL]at h0
  refine W.skip ?_
  refine xn ?_
  refine ⟨1,?_,rfl⟩
  simp only[h0,if_true,qF,if_false]at hfr hlg
  subst hfr hlg h0
  simp [Env.put,Env.of,zae]
 rintro vs S - ⟨rfl,rfl⟩
 refine W.seq ?_
 refine W.r fun K hK=>?_
 simp(disch:=omega)only[↓RU,RV,RH,↓reduceIte,qE,reduceCtorEq,if_pos,↓RS,RG,qA,qM,qL]
 apply hK;clear hK K
 refine W.block ?_
 refine W.loop [3,1,2,7,8,9] (fun n vs S=>∃ i:Nat,n=lg - i∧i≤lg∧(∀ j,j<i→zij g level line (fr+j)=true)∧vs=[.ref 0 0 0,.bool level,.int .i64 line,.int .i64 fr,.int .i64 lg,.int .i64 ((fr+i:Nat):Int)]∧S=⟨[.arr 0 57 5 [zax g rs,.int .i64 t.r,.int .i64 t.c,.int .i64 t.h,.int .i64 t.w]],1⟩) (lg) ?_ ?_
 ·refine ⟨1,0,rfl,Nat.zero_le _,(fun j hj=>by omega),?_,rfl⟩
  simp [Env.put,Env.of,zae]
 rintro n vs S - ⟨i,rfl,h_i,hall,rfl,rfl⟩
 refine W.seq ?_
 refine W.r fun K hK=>?_
 simp(disch:=omega)only[↓RU,RV,RH,↓reduceIte,qE,reduceCtorEq,if_pos,w64,↓RS,RG,qA,qM,qL,zaa]
 apply hK;clear hK K
 refine W.cond rfl (fun h1=>?_) (fun h1=>?_)
 ·try simp only[RL]at h1
  refine W.skip ?_
  refine xn ?_
  refine W.seq ?_
  refine W.block ?_
  refine W.r fun K hK=>?_
  have hin2:=hin i (by omega)
  simp(disch:=omega)only[↓RU,RV,RH,↓reduceIte,qE,reduceCtorEq,if_pos,qN,↓RS,RG,qA,qM,qL,ty7,zcm,zbb,zaa,zcn,zbc]
  refine zad.pc (zwe hgg rs hin2) rfl (.inl rfl) ?_
  simp(disch:=omega)only[↓RU,RV,RH,↓reduceIte,qE,reduceCtorEq,if_pos,qN,↓RS,RG,qA,qM,qL,ty7,zcm,zbb,zaa,zcn,zbc]
  apply hK;clear hK K
  refine W.cond rfl (fun h2=>?_) (fun h2=>?_)
  ·try simp only[RL]at h2
   refine W.r fun K hK=>?_
   simp(disch:=omega)only[↓RU,RV,RH,↓reduceIte,qE,reduceCtorEq,if_pos,↓RS,RG,qA,qM,qL]
   apply hK;clear hK K
   refine W.ret ?_
   refine XBlock.ret ?_
   refine XThen.ret ?_
   refine XThen.ret ?_
   refine XBlock.ret ?_
   refine XThen.ret ?_
   refine Br rfl ?_
   rw [hth,show ((List.range lg).all fun j=>zij g level line (fr+j))=false from by rw [List.all_eq_false]; exact ⟨i,List.mem_range.2 (by omega),by simpa using h2⟩]
   rfl
  try simp only[RL]at h2
  refine W.skip ?_
  refine XbN ?_
  refine xn ?_
  refine W.k fun K hK=>?_
  simp(disch:=omega)only[↓RU,RV,RH,↓reduceIte,qE,reduceCtorEq,if_pos,w64,↓RS,RG,qA,qM,qL,zaa]
  apply hK;clear hK K
  refine xn ?_
  refine ⟨lg - (i+1),by omega,1,i+1,rfl,by omega,(fun j hj=>by rcases Nat.lt_succ_iff_lt_or_eq.1 hj with h | rfl; exact hall j h; simpa using h2),?_,rfl⟩
  simp [Env.put,Env.of]; omega
 try simp only[RL]at h1
 refine W.exit ?_
 refine xe ?_
 refine xe ?_
 refine XBlock.hit ?_
 refine xn ?_
 refine W.r fun K hK=>?_
 simp(disch:=omega)only[↓RU,RV,RH,↓reduceIte,qE,reduceCtorEq,if_pos,↓RS,RG,qA,qM,qL]
 apply hK;clear hK K
 refine W.ret ?_
 refine Br rfl ?_
 rw [hth,show ((List.range lg).all fun j=>zij g level line (fr+j))=true from by rw [List.all_eq_true]; intro j hj; exact hall j (by have:=List.mem_range.1 hj; omega)]
 rfl
theorem ybv {g:List (List Int)} {row:List Int} (h:g[0]?=some row) (rs:List Rect):PC Tryz.prog 35 [zax g rs] (zik g rs ⟨0,0,g.length,row.length⟩) false:=by
 refine PC.of ⟨Tryz.func35,by kernel_rfl,rfl,by kernel_rfl⟩ zar mixed (by show 1≤Tryz.f35.ntmps; decide) ?_
 refine W.r fun K hK=>?_
 simp(disch:=omega)only[↓RU,RV,RH,↓reduceIte,qE,reduceCtorEq,if_pos,↓RS,RG,qA,qM,qL,ty7,zcm,zbb,zaa,zcn,zbc]
 apply hK;clear hK K
 refine W.r fun K hK=>?_
 simp(disch:=omega)only[↓RU,RV,RH,↓reduceIte,qE,reduceCtorEq,if_pos,qN,↓RS,RG,qA,qM,qL,ty7,zcm,zbb,zaa,zcn,zbc,zne]
 refine zad.pc (zk5 g rs) rfl (.inl rfl) ?_
 simp(disch:=omega)only[↓RU,RV,RH,↓reduceIte,qE,reduceCtorEq,if_pos,qN,↓RS,RG,qA,qM,qL,ty7,zcm,zbb,zaa,zcn,zbc,zne]
 refine zad.pc (zrw h rs) rfl (.inl rfl) ?_
 simp(disch:=omega)only[↓RU,RV,RH,↓reduceIte,qE,reduceCtorEq,if_pos,qN,↓RS,RG,qA,qM,qL,ty7,zcm,zbb,zaa,zcn,zbc,zne]
 apply hK;clear hK K
 refine W.ret ?_
 refine Br rfl ?_
 rw [show (tab 57).size=5 by kernel_rfl]
 rfl
theorem yde (g:List (List Int)) (rs:List Rect) (t:Rect):PC Tryz.prog 111 [zik g rs t] (.fn 140 [.ip (zax g rs::t.cells) 0]) false:=by
 simp only[zik,Rect.cells]
 refine PC.of ⟨Tryz.func111,by kernel_rfl,rfl,by kernel_rfl⟩ zar mixed (by show 1≤Tryz.f111.ntmps; decide) ?_
 refine W.r fun K hK=>?_
 simp(disch:=omega)only[↓RU,RV,RH,↓reduceIte,qE,reduceCtorEq,if_pos,↓RS,RG,qA,qM,qL,ty7,zcm,zbb,zaa,zcn,zbc]
 apply hK;clear hK K
 refine W.r fun K hK=>?_
 simp(disch:=omega)only[↓RU,RV,RH,↓reduceIte,qE,reduceCtorEq,if_pos,↓RS,RG,qA,qM,qL]
 apply hK;clear hK K
 refine W.ret ?_
 refine Br rfl ?_
 rfl
section
structure LoopR (ps:Array Tmp) (asg body:Code) (r:Loop):Prop where
 hps:r.params=ps
 hasg:r.assign=asg
 hbody:r.body=body
 dps:∀ t∈ps.toList,t<r.tmps.size
 dasg:zg5 r.tmps.size asg=true
 dbody:zg5 r.tmps.size body=true
def Env.puts:List (Nat × PV)→Env→Env
 | [],e=>e
 | (t,v)::r,e=>Env.puts r (e.put (some t) v)
section
variable {P:Program} {T:Tab} {Q Q':Exit→Env→Store→Prop} {e:Env} {S:Store} {a b c:Code} {F:Nat→Prop} {G:GSt} {w:World}
theorem zwp {ds:List Deferred}:∀ (ps:List Nat) (xs:List PV) (cs:List Value) (e:Env) (t:Array Value),zff w.heap F G e ⟨t,ds⟩→(∀ p∈ps,p<t.size)→xs.length=cs.length →
  (∀ (i:Nat) p c,xs[i]?=some p→cs[i]?=some c→VR w.heap F G p c) →
  zff w.heap F G (Env.puts (ps.zip xs) e) ⟨(ps.zip cs).foldl (fun t (q:Nat × Value)=>t.setIfInBounds q.1 q.2) t,ds⟩
 | [],xs,cs,e,t,he,_,_,_=>by simpa [Env.puts] using he
 | p::ps,[],[],e,t,he,_,_,_=>by simpa [Env.puts] using he
 | p::ps,x::xs,c::cs,e,t,he,hp,hl,hv=>by
  simp only[List.zip_cons_cons,Env.puts,List.foldl_cons]
  refine zwp ps xs cs _ _ ?_ ?_ (by simpa using hl) fun i p c q1 q2=>hv (i+1) p c (by simpa using q1) (by simpa using q2)
  ·have:=he.put (a:=⟨t,ds⟩) (some p) (v:=x) (cv:=c) (fun t' ht=>by cases ht; exact hp p (by simp)) (hv 0 x c rfl rfl)
   exact this
  intro q hq
  have:=hp q (by simp [hq])
  simpa using this
 | p::ps,[],c::cs,_,_,_,_,hl,_=>by simp at hl
 | p::ps,x::xs,[],_,_,_,_,hl,_=>by simp at hl
theorem z3n (l:List (Nat × Value)) (t:Array Value):(l.foldl (fun t (q:Nat × Value)=>t.setIfInBounds q.1 q.2) t).size=t.size:=by
 induction l generalizing t with
 | nil=>rfl
 | cons q l ih=>simp [ih]
theorem z70 (hi:Inv F G w) {o ver l:Nat} {r:Loop × List Nat} {tm:List PV} {lc:Lc} (ho:G.obs[o]?=some (.lp ver l r tm,lc)) (s:LoopState) (pe:Option Code) :
  ∃ t:Array Value,w.heap[l]?=some (.loop { r.1 with tmps:=t }) ∧
   Inv F ⟨G.obs.set o (.lp ver l ({ r.1 with state:=s,pending:=pe },r.2) tm,lc),G.tick⟩ (w.putObj l (.loop { r.1 with tmps:=t,state:=s,pending:=pe })) ∧
   Next F G w F ⟨G.obs.set o (.lp ver l ({ r.1 with state:=s,pending:=pe },r.2) tm,lc),G.tick⟩ (w.putObj l (.loop { r.1 with tmps:=t,state:=s,pending:=pe })):=by
 obtain ⟨h0,t,h1,h2,h3⟩:=hi.lp o ver l r tm lc ho
 have hlt:=(Array.getElem?_eq_some_iff.1 h1).1
 refine ⟨t,h1,zld hi ho _ lc G.tick _ rfl rfl rfl (qR _) (by simp) (.inl rfl) (fun b hb hne=>World.putObj_heap_other (by rw [← h0]; exact hne)) (qR _) (show Ob.ver (.lp ver l r tm)<G.tick from hi.ver o _ lc ho)
  (.inl ⟨rfl,trivial,rfl⟩) ⟨h0,t,World.putObj_heap_same hlt,h2,h3⟩⟩
def yfc (o l:Nat) (J:PV→Store→Prop):Exit→Env→Store→Prop
 | .normal,_,S=>∃ ver r L tm k,S.obs[o]?=some (.lp ver l (r,L) tm)∧J (.bool true) (Store.take ⟨S.obs.set o (.lp ver l ({ r with state := .ready,pending:=none },L) tm),S.tick⟩ k)
 | .ret,_,S=>∃ ver r L tm k,S.obs[o]?=some (.lp ver l (r,L) tm)∧J (.bool false) (Store.take ⟨S.obs.set o (.lp ver l ({ r with state := .done,pending:=some .ret },L) tm),S.tick⟩ k)
 | .exit id,_,S=>∃ ver r L tm k,S.obs[o]?=some (.lp ver l (r,L) tm)∧J (.bool false) (Store.take ⟨S.obs.set o (.lp ver l ({ r with state := .done,pending:=some (.exit id) },L) tm),S.tick⟩ k)
 | _,_,_=>False
theorem VR.bool_of {H:Array Obj} {b:Bool}:VR H F G (.bool b) (.bool b) := .imm _ _ (.bool b)
theorem Ey.of (hT:zb2 P T) (hm:P.follows .mixedOrders=true) {l o ver:Nat} {r:Loop} {L:List Nat} {tm xs:List PV} {ps:Array Tmp} {asg body:Code} {J:PV→Store→Prop}
  (ho:S.obs[o]?=some (.lp ver l (r,L) tm)) (hr:LoopR ps asg body r) (hst:r.state = .ready) (hps:ps.size=xs.length)
  (hw:W P T asg (XThen (fun e1 S1=>∃ ver1 r1 L1 tm1,S1.obs[o]?=some (.lp ver1 l (r1,L1) tm1)∧r1.state = .ready ∧
   W P T body (yfc o l J) e1 ⟨S1.obs.set o (.lp ver1 l ({ r1 with state := .busy,pending:=r1.pending },L1) tm1),S1.tick⟩) (fun _ _ _=>False)) (Env.puts (ps.toList.zip xs) (Env.of L tm)) S) :
  Ey P l xs S J:=by
 refine ⟨fun F G w cargs hS hi hl hv=>?_⟩
 subst hS
 obtain ⟨lc,hG⟩:=zgn ho
 obtain ⟨h0,t,h1,⟨h2,h2'⟩,h3⟩:=hi.lp o ver l (r,L) tm lc hG
 simp only at h1 h2 h2' h3
 refine ⟨_,_,_,_,run_yield h1 (by simp only; rw [hr.hps]; omega),fun R nn=>?_⟩
 refine roundIn_of_wpIn trivial ?_
 simp only
 have hE:zff w.heap F G (Env.puts (ps.toList.zip xs) (Env.of L tm)) ⟨(ps.toList.zip cargs.toList).foldl (fun t (q:Nat × Value)=>t.setIfInBounds q.1 q.2) t,[]⟩ :=
  zwp _ _ _ _ _ (zuq L tm h2'.symm fun i j v q1 q2=>h3 i v j q2 q1) (fun p hp=>Nat.lt_of_lt_of_eq (hr.dps p hp) h2.symm) (by simpa using hl) (fun i p c q1 q2=>hv i p c q1 (by simpa using q2))
 have hsz:((ps.toList.zip cargs.toList).foldl (fun t (q:Nat × Value)=>t.setIfInBounds q.1 q.2) t).size=r.tmps.size:=by rw [z3n]; exact h2
 have hfold:(r.params.zip cargs).foldl (fun tmps (x:Nat × Value)=>tmps.setIfInBounds x.1 x.2) t=(ps.toList.zip cargs.toList).foldl (fun t (q:Nat × Value)=>t.setIfInBounds q.1 q.2) t:=by
  rw [hr.hps,← Array.foldl_toList,Array.toList_zip]
 show (r.assign).wpIn (fnc (some l)) _ P _ { tmps:=(r.params.zip cargs).foldl (fun tmps (x:Nat × Value)=>tmps.setIfInBounds x.1 x.2) t,defers:=[] } w
 rw [hfold,hr.hasg,hr.hbody]
 refine wpIn_mono (hw.run hT hm F G w r.tmps.size F G _ w rfl hi hE (Next.refl w) hsz Marks.nil hr.dasg) ?_
 rintro x a1 w1 ⟨e1,F1,G1,k1,k2,k3,k4,k5,k6⟩
 cases x with
 | normal =>
  obtain ⟨ver1,r1,L1,tm1,g1,g2,g3⟩:=k1
  obtain ⟨lc1,hG1⟩:=zgn g1
  obtain ⟨t1,q1,q2,q3⟩:=z70 k2 hG1 .busy r1.pending
  refine ⟨_,run_beginRound q1 g2,?_⟩
  refine wpIn_mono (g3.run hT hm F G w r.tmps.size F1 _ a1 _ (zoa G1 o _ lc1 G1.tick) q2 (k3.next k2 q3) (k4.trans q3) k5 (k6.next k2 q3) hr.dbody) ?_
  have fin:∀ {F2:Nat→Prop} {G2:GSt} {w2:World} {v:Bool} {s:LoopState} {pe:Option Code} {ver2:Nat} {r2:Loop} {L2:List Nat} {tm2:List PV} {k:Nat},Inv F2 G2 w2→Next F G w F2 G2 w2 →
    s=(if pe.isNone then .ready else .done)→v=pe.isNone→G2.er.obs[o]?=some (.lp ver2 l (r2,L2) tm2) →
    J (.bool v) (Store.take ⟨G2.er.obs.set o (.lp ver2 l ({ r2 with state:=s,pending:=pe },L2) tm2),G2.er.tick⟩ k) →
    ∃ cv w3,(Instr.endRound l pe).run P w2 = .ok cv w3∧∃ v cv' F' G',Ending.returned cv = .returned cv'∧J v G'.er∧Inv F' G' w3∧Next F G w F' G' w3∧VR w3.heap F' G' v cv':=by
   intro F2 G2 w2 v s pe ver2 r2 L2 tm2 k i2 n2 hs hv2 hg hJ
   obtain ⟨lc2,hG2⟩:=zgn hg
   obtain ⟨t2,p1,p2,p3⟩:=z70 i2 hG2 s pe
   obtain ⟨i3,n3⟩:=zgg p2 k
   have hrun:=run_endRound (P:=P) pe p1
   rw [← hs]at hrun
   refine ⟨_,_,hrun,.bool v,_,F2,GSt.take ⟨G2.obs.set o (.lp ver2 l ({ r2 with state:=s,pending:=pe },L2) tm2,lc2),G2.tick⟩ k,rfl,?_,i3,(n2.trans p3).trans n3,by rw [← hv2]; exact VR.bool_of⟩
   rw [zlm,zoa]; exact hJ
  rintro x a2 w2 ⟨e2,F2,G2,j1,j2,j3,j4,j5,j6⟩
  cases x with
  | normal=>obtain ⟨ver2,r2,L2,tm2,k,f1,f2⟩:=j1; exact fin j2 j4 rfl rfl f1 f2
  | ret=>obtain ⟨ver2,r2,L2,tm2,k,f1,f2⟩:=j1; exact fin j2 j4 rfl rfl f1 f2
  | exit id=>obtain ⟨ver2,r2,L2,tm2,k,f1,f2⟩:=j1; exact fin j2 j4 rfl rfl f1 f2
  | _=>exact j1.elim
 | _=>exact k1.elim
structure V (P:Program) (T:Tab) (c:Code) (Q:Exit→Env→Store→Prop) (e:Env) (S:Store):Prop where
 run:zb2 P T→P.follows .mixedOrders=true→∀ (F0:Nat→Prop) (G0:GSt) (w0:World) (N:Nat) (F:Nat→Prop) (G:GSt) (a:Act) (w:World),G.er=S→Inv F G w→zff w.heap F G e a →
  Next F0 G0 w0 F G w→a.tmps.size=N→Marks w0 a.defers w→zg5 N c=true→c.wpIn (fnc none) 0 P (Sto F0 G0 w0 N Q) a w
theorem W.v (h:W P T c Q e S):V P T c Q e S:=⟨fun h1 h2 F0 G0 w0 N F G a w h3 h4 h5 h6 h7 h8 h9=>h.run h1 h2 F0 G0 w0 N F G a w h3 h4 h5 h6 h7 h8 h9⟩
theorem V.mono (h:V P T c Q e S) (k:∀ x e S,Q x e S→Q' x e S):V P T c Q' e S :=
 ⟨fun h1 h2 F0 G0 w0 N F G a w h3 h4 h5 h6 h7 h8 h9=>wpIn_mono (h.run h1 h2 F0 G0 w0 N F G a w h3 h4 h5 h6 h7 h8 h9) fun _ _ _=>Sto.mono k⟩
theorem V.seq (h:V P T a (XThen (V P T b Q) Q) e S):V P T (.seq a b) Q e S:=by
 refine ⟨?_⟩
 intro hT hm F0 G0 w0 N F G a w h3 h4 h5 h6 h7 h8 h9
 simp only[zg5,qB]at h9
 refine wpIn_seq (wpIn_mono (h.run hT hm F0 G0 w0 N F G a w h3 h4 h5 h6 h7 h8 h9.1) ?_)
 rintro x a' w' ⟨e',F',G',k1,k2,k3,k4,k5,k6⟩
 cases x with
 | normal=>exact k1.run hT hm F0 G0 w0 N F' G' a' w' rfl k2 k3 k4 k5 k6 h9.2
 | _=>exact ⟨e',F',G',k1,k2,k3,k4,k5,k6⟩
theorem V.seq_region {id:Nat} {l:List Oper} (h:∀ K:Env→Store→Prop,(∀ e S,V P T b Q e S→K e S)→zbv false P T (dsts l) l e S K):V P T (.seq (.region id l.toArray false) b) Q e S :=
 V.seq (W.v (W.k fun K hK=>h K hK))
theorem V.seq_draw {id:Nat} {l:List Oper} (hc:zh0 l.toArray (List.range' 0 l.length) (zko l 0) []=true) (h:∀ K:Env→Store→Prop,(∀ e S,V P T b Q e S→K e S)→zbv true P T (dsts l) l e S K) :
  V P T (.seq (.region id l.toArray true) b) Q e S :=
 V.seq (W.v (W.draw_k hc fun K hK=>h K hK))
theorem V.seq_drawE {id:Nat} {l:List Oper} (hc:zh0 l.toArray (List.range' 0 l.length) (zco l 0) []=true) (h:∀ K:Env→Store→Prop,(∀ e S,V P T b Q e S→K e S)→zbv false P T (dsts l) l e S K) :
  V P T (.seq (.region id l.toArray true) b) Q e S :=
 V.seq (W.v (W.drawE_k hc fun K hK=>h K hK))
theorem V.cond {x:Operand} {t:Bool} (hc:e.ev x = .bool t) (h1:t=true→V P T a Q e S) (h2:t=false→V P T b Q e S):V P T (.cond x a b) Q e S:=by
 refine ⟨?_⟩
 intro hT hm F0 G0 w0 N F G a w h3 h4 h5 h6 h7 h8 h9
 simp only[zg5,qB]at h9
 have:=h5.ev x
 rw [hc]at this
 exact wpIn_cond_split this.bool (fun ht=>(h1 ht).run hT hm F0 G0 w0 N F G a w h3 h4 h5 h6 h7 h8 h9.1) (fun ht=>(h2 ht).run hT hm F0 G0 w0 N F G a w h3 h4 h5 h6 h7 h8 h9.2)
theorem V.block {id:Nat} (h:V P T c (XBlock id Q) e S):V P T (.block id c) Q e S:=by
 refine ⟨?_⟩
 intro hT hm F0 G0 w0 N F G a w h3 h4 h5 h6 h7 h8 h9
 refine wpIn_block (wpIn_mono (h.run hT hm F0 G0 w0 N F G a w h3 h4 h5 h6 h7 h8 h9) ?_)
 rintro x a' w' ⟨e',F',G',k1,k2⟩
 cases x with
 | exit i =>
  simp only[Exit.inBlock]
  simp only[XBlock]at k1
  split
  ·rename_i hi; rw [if_pos hi]at k1; exact ⟨e',F',G',k1,k2⟩
  rename_i hi; rw [if_neg hi]at k1; exact ⟨e',F',G',k1,k2⟩
 | _=>exact ⟨e',F',G',k1,k2⟩
def ydu:Option Code→Option Exit
 | none=>some .normal
 | some .ret=>some .ret
 | some (.exit id)=>some (.exit id)
 | _=>none
theorem zzb (hi:Inv F G w) (ob:Obj):Inv F G (w.alloc ob)∧Next F G w F G (w.alloc ob):=by
 have hkeep:∀ b,b<w.heap.size→(w.alloc ob).heap[b]?=w.heap[b]?:=fun b hb=>Go.RowKit.Below.heap_alloc w ob b hb
 have hn:Next F G w F G (w.alloc ob) :=
  ⟨rfl,rfl,rfl,by simp,fun _ h=>h,fun _ h => .inl h,fun o x h => .inr ⟨o,x,h,rfl⟩,qR _,fun b hb _=>hkeep b hb,fun _ ob' _ h _=>⟨ob',h,rfl,Ob.like.refl _⟩,qR _⟩
 exact ⟨zkq (fun b hb=>Nat.lt_of_lt_of_le (hi.fr b hb) hn.size) hi.ver hi.nF (fun o ob' l h=>(hi.holds h).next hi hn (hkeep _ (hi.blk_lt h))) hi.inj,hn⟩
theorem VR.fn_at {f:FuncId} {cap:List PV} {v:Value} (h:VR w.heap F G (.fn f cap) v):∃ vs:Array Value,v = .func (.func f) #[] vs∧cap.length=vs.size∧∀ (i:Nat) p c,cap[i]?=some p→vs[i]?=some c→VR w.heap F G p c:=by
 cases h with
 | imm _ _ h=>cases h with | fn _ _ vs h1 h2=>exact ⟨vs,rfl,h1,fun i p c q1 q2 => .imm _ _ (h2 i p c q1 q2)⟩
 | fn _ _ vs h1 h2=>exact ⟨vs,rfl,h1,h2⟩
theorem V.rangeFunc {g:Operand} {ps:Array Tmp} {asg body:Code} (L:List Nat) {f:FuncId} {cap:List PV} (hg:e.ev g = .fn f cap)
  (h:∀ (l:Nat) (r:Loop),LoopR ps asg body r→r.state = .ready→r.pending=none→∃ J,Ev P f (.yl l::cap) ⟨S.obs++[.lp S.tick l (r,L) (L.map e)],S.tick+1⟩ J ∧
   ∀ v S',J v S'→∃ ver r' L' tm x,S'.obs[S.obs.length]?=some (.lp ver l (r',L') tm)∧r'.state ≠ .busy∧ydu r'.pending=some x∧Q x e (S'.take S.obs.length)) :
  V P T (.rangeFunc g ps asg body) Q e S:=by
 refine ⟨?_⟩
 intro hT hm F0 G0 w0 N F G a w h3 h4 h5 h6 h7 h8 h9
 subst h3
 simp only[zg5,qB,List.all_eq_true,decide_eq_true_eq]at h9
 obtain ⟨⟨d1,d2⟩,d3⟩:=h9
 refine wpIn_rangeFunc ?_
 intro fn _
 obtain ⟨rec,hrec⟩:∃ rec:Loop,rec={ state := .ready,pending:=none,fn,tmps:=a.tmps,params:=ps,assign:=asg,body,defers:=w.heap.size }:=⟨_,rfl⟩
 obtain ⟨i1,n1⟩:=zzb h4 (.deferred (some []))
 obtain ⟨W0,hW0⟩:∃ W0,w.alloc (.deferred (some []))=W0:=⟨_,rfl⟩
 have hsz:W0.heap.size=w.heap.size+1:=by rw [← hW0]; simp
 rw [hW0]at i1 n1
 have hdef:W0.heap[w.heap.size]?=some (.deferred (some [])):=by rw [← hW0]; exact World.alloc_heap_new w _
 obtain ⟨W1,hW1⟩:∃ W1,W0.alloc (.loop rec)=W1:=⟨_,rfl⟩
 have hL1:W1.heap[W0.heap.size]?=some (.loop rec):=by rw [← hW1]; exact World.alloc_heap_new W0 _
 have hhold:Holds W0.heap F G W1.heap (.lp G.tick W0.heap.size (rec,L) (L.map e)) ⟨W0.heap.size,0⟩:=by
  refine ⟨rfl,a.tmps,by rw [hL1,hrec],⟨by rw [hrec],by simp⟩,fun i p j q1 q2=>?_⟩
  simp only at q2
  rw [List.getElem?_map,q2]at q1
  cases q1
  exact (h5 j).next h4 n1
 obtain ⟨i2,n2⟩:=zph i1 (.lp G.tick W0.heap.size (rec,L) (L.map e)) 0 W1 W1.drawn (by rw [← hW1]; rfl) (by rw [← hW1]; exact qR _) ⟨_,by rw [← hW1]; rfl⟩ rfl hhold
 have n12:=n1.trans n2
 have hgv:=h5.ev g
 rw [hg]at hgv
 obtain ⟨vs,hge,hvl,hvr⟩:=hgv.fn_at
 obtain ⟨J,hev,hJ⟩:=h W0.heap.size rec (by rw [hrec]; exact ⟨rfl,rfl,rfl,fun t ht=>by rw [h7]; exact d1 t ht,by rw [h7]; exact d2,by rw [h7]; exact d3⟩) (by rw [hrec]) (by rw [hrec])
 refine ⟨w.heap.size+1,[{ target := .collected w.heap.size,args := #[] }],W1,{ target := .fn (.func f) vs,args := #[.func (.yield (w.heap.size+1)) #[] #[]] },W1,f,
  #[.func (.yield (w.heap.size+1)) #[] #[]]++vs,W1,?_,?_,fun _ _=>trivial,?_,fun q=>(by simp [Fence.wide]at q),?_⟩
 ·rw [← hW1,← hW0,hrec]; exact run_enterLoop_outer _ _ _ _ _
 ·simp only[resolve,hge]
  simp [go_sem]
 ·simp only[invoke]; exact hev.ent _ _
 ·refine callsIn_wide.2 ((hev.run F _ W1 _ (zub G _ _) i2 (by simp; omega) ?_).mono ?_)
  ·intro i p c q1 q2
   cases i with
   | zero=>rw [Array.getElem?_append_left (by simp)]at q2; simp at q1 q2; subst q1; subst q2; rw [hsz]; exact .imm _ _ (.yl _)
   | succ i =>
    simp only[List.getElem?_cons_succ]at q1
    rw [Array.getElem?_append_right (by simp)]at q2
    simp at q2
    exact (hvr i p c q1 q2).next h4 n12
  ·rintro en w2 ⟨v,cv,F2,G2,rfl,j1,j2,j3,j4⟩
   obtain ⟨ver,r',L',tm,x,g1,g2,g3,g4⟩:=hJ v _ j1
   obtain ⟨lc,hG2⟩:=zgn g1
   rw [show (GSt.er G).obs.length=G.obs.length by simp [GSt.er]]at hG2 g4
   obtain ⟨t,p1,p2,p3⟩:=z70 j2 hG2 .exhausted r'.pending
   obtain ⟨i3,n3⟩:=zgg p2 G.obs.length
   rw [hsz]at p1
   refine ⟨_,_,run_endLoop p1 g2,?_⟩
   have hnx:=((h6.trans n12).trans (j3.trans p3)).trans n3
   have hmk:Marks w0 ([{ target := .collected w.heap.size,args := #[] }]++a.defers) (w2.putObj W0.heap.size (.loop { r' with tmps:=t,state := .exhausted,pending:=r'.pending })):=by
    have m1:=h8.next h4 n12
    have hd1:W1.heap[w.heap.size]?=some (.deferred (some [])):=(by rw [← hW1]; exact (Go.RowKit.Below.heap_alloc W0 _ _ (by omega)).trans hdef)
    have m2:Marks w0 ([{ target := .collected w.heap.size,args := #[] }]++a.defers) W1:=by
     obtain ⟨bs,b1,b2,b3⟩:=h8
     obtain ⟨bs',c1,c2,c3⟩:=m1
     have hb:bs'=bs:=by
      rw [b1]at c1
      have:=congrArg (List.map fun d:Deferred=>(match d.target with | .collected b=>b | _=>0)) c1
      simpa [List.map_map,Function.comp_def] using this.symm
     subst hb
     refine ⟨w.heap.size::bs',by rw [b1]; simp,?_,?_⟩
     ·refine List.nodup_cons.2 ⟨fun hm=>?_,b2⟩
      have:=(Array.getElem?_eq_some_iff.1 (b3 _ hm).2).1
      omega
     intro b hb
     rcases List.mem_cons.1 hb with rfl | hb
     ·exact ⟨h6.size,hd1⟩
     exact c3 b hb
    exact (m2.next i2 j3).next j2 p3
   have henv:zff (w2.putObj W0.heap.size (.loop { r' with tmps:=t,state := .exhausted,pending:=r'.pending })).heap F2 (GSt.take ⟨G2.obs.set G.obs.length (.lp ver W0.heap.size ({ r' with state := .exhausted,pending:=r'.pending },L') tm,lc),G2.tick⟩ G.obs.length) e { a with defers:=[{ target := .collected w.heap.size,args := #[] }]++a.defers } :=
    fun k=>((((h5 k).next h4 n12).next i2 j3).next j2 p3).next p2 n3
   have hst:Sto F0 G0 w0 N Q x { a with defers:=[{ target := .collected w.heap.size,args := #[] }]++a.defers } (w2.putObj W0.heap.size (.loop { r' with tmps:=t,state := .exhausted,pending:=r'.pending })):=by
    refine ⟨e,F2,_,?_,i3,henv,hnx,h7,hmk⟩
    have:(GSt.take ⟨G2.obs.set G.obs.length (.lp ver W0.heap.size ({ r' with state := .exhausted,pending:=r'.pending },L') tm,lc),G2.tick⟩ G.obs.length).er=G2.er.take G.obs.length:=by
     simp [GSt.take,GSt.er,Store.take,List.take_set_of_le]
    rw [this]; exact g4
   rw [hsz]at hst
   cases hpe:r'.pending with
   | none=>rw [hpe]at g3 hst ; simp only[ydu]at g3; cases g3; exact hst
   | some c =>
    rw [hpe]at g3 hst
    cases c <;> simp only[ydu]at g3 <;> cases g3
    ·exact wpIn_exit hst
    exact wpIn_ret hst
theorem Fn.callsV {f:FuncId} {fn:Func} (h:Fn P f fn c) (hT:zb2 P T) (hm:P.follows .mixedOrders=true) {args:List PV} {K:PV→Store→Prop} (hn:args.length≤fn.ntmps)
  (hw:V P T c (zfs T fn.results.toList K) (zae args) S) {F:Nat→Prop} {G:GSt} {w:World} {cargs:Array Value} (hS:G.er=S) (hi:Inv F G w) (hl:args.length=cargs.size)
  (hv:∀ (i:Nat) p c,args[i]?=some p→cargs[i]?=some c→VR w.heap F G p c) :
  Calls P f cargs w fun e w'=>∃ v cv F' G',e = .returned cv∧K v G'.er∧Inv F' G' w'∧Next F G w F' G' w'∧VR w'.heap F' G' v cv :=
 h.calls_of hT hn hi hl (hw.run hT hm F G w fn.ntmps F G _ w hS hi (z5i hl hv _ _) (Next.refl w) (by simp; omega) Marks.nil h.dst)
theorem Ev.ofV {f:FuncId} {fn:Func} (h:Fn P f fn c) (hT:zb2 P T) (hm:P.follows .mixedOrders=true) {args:List PV} {J:PV→Store→Prop} (hn:args.length≤fn.ntmps)
  (hw:V P T c (zfs T fn.results.toList fun v S1=>∃ k,J v (S1.take k)) (zae args) S):Ev P f args S J:=by
 refine ⟨h.ent,fun F G w cargs hS hi hl hv=>(h.callsV hT hm hn hw hS hi hl hv).mono ?_⟩
 rintro en w' ⟨v',cv,F',G',k1,⟨k,k2⟩,k3,k4,k5⟩
 obtain ⟨i1,i2⟩:=zgg k3 k
 exact ⟨v',cv,F',G'.take k,k1,(zlm G' k).symm ▸ k2,i1,k4.trans i2,k5.next k3 i2⟩
theorem PC.ofV {f:FuncId} {fn:Func} (h:Fn P f fn c) (hT:zb2 P T) (hm:P.follows .mixedOrders=true) {args:List PV} {r:PV} {fr:Bool} (hn:args.length≤fn.ntmps)
  (hw:V P T c (zfs T fn.results.toList fun v S=>reify S (!fr) 10 v=some r) (zae args) ⟨[],0⟩):PC P f args r fr:=by
 refine ⟨h.ent,fun F w cargs hF hl hv=>?_⟩
 have hi:Inv F ⟨[],0⟩ w:=⟨hF,by simp,by simp,by simp,by simp,by simp,by simp⟩
 refine (h.callsV hT hm hn hw rfl hi hl fun i p c q1 q2 => .imm _ _ (hv i p c q1 q2)).mono ?_
 rintro en w' ⟨v',cv,F',G',rfl,k2,k3,k4,k5⟩
 refine ⟨cv,rfl,⟨⟨k4.os,k4.tape,k4.output,k4.size,fun b hb=>k4.keep b hb (by simp)⟩,k4.drawn⟩,(zem k3 k5 k2).mono ?_ (fun _ _=>rfl)⟩
 rintro b (⟨h1,h2⟩ | ⟨o,x,hx,rfl⟩)
 ·rcases k4.fnew b h2 with h3 | h3 | ⟨o,x,hx,_⟩
  ·exact .inr ⟨by simpa using h1,h3⟩
  ·exact .inl ⟨h3,k3.fr b h2⟩
  simp at hx
 rcases k4.gnew o x hx with h3 | ⟨o',y,hy,_⟩
 ·exact .inl ⟨h3,k3.blk_lt hx⟩
 simp at hy
end
end
section
section
variable {P:Program} {T:Tab} {F0:Nat→Prop} {G0:GSt} {w0:World} {N:Nat}
theorem z7o {e:Env} {S:Store} {o:Op} (hc:∀ c,o ≠ .call c) {K1 K2:PV→Store→Prop} (h1:pOp P T e S o K1) (h2:pOp P T e S o K2):pOp P T e S o fun v S'=>K1 v S'∧K2 v S':=by
 cases o with
 | call c=>exact absurd rfl (hc c)
 | alloc t=>exact ⟨h1.1,h1.2,h2.2⟩
 | box t x=>exact ⟨h1.1,h1.2.1,h1.2.2.1,h1.2.2.2,h2.2.2.2⟩
 | buildSlice t n ps =>
  simp only[pOp]at h1 h2 ⊢
  split at h1
  ·rename_i et hk
   rw [hk]at h2
   simp only at h2 ⊢
   refine ⟨h1.1,h1.2.1,?_⟩
   have h1:=h1.2.2
   have h2:=h2.2.2
   split at h1
   ·rename_i cells hf
    rw [hf]at h2
    simp only at h2 ⊢
    exact ⟨h1.1,h1.2,h2.2⟩
   exact h1.elim
  exact h1.elim
 | makeSlice t l c =>
  simp only[pOp]at h1 h2 ⊢
  split at h1
  ·rename_i et q l' q' c' hk e1 e2
   rw [hk,e1,e2]at h2
   simp only at h2 ⊢
   exact ⟨h1.1,h1.2.1,h1.2.2.1,h1.2.2.2.1,h1.2.2.2.2,h2.2.2.2.2⟩
  exact h1.elim
 | makeMap t r=>exact ⟨h1.1,h1.2,h2.2⟩
 | store t a x =>
  simp only[pOp]at h1 h2 ⊢
  split at h1
  ·rename_i o ver off ha
   rw [ha]at h2
   simp only at h2 ⊢
   split at h1
   ·rename_i v et sz cells ho
    rw [ho]at h2
    simp only at h2 ⊢
    exact ⟨h1.1,h1.2.1,h1.2.2.1,h1.2.2.2.1,h1.2.2.2.2.1,h1.2.2.2.2.2,h2.2.2.2.2.2⟩
   exact h1.elim
  exact h1.elim
 | mapUpdate t m k x =>
  simp only[pOp]at h1 h2 ⊢
  split at h1
  ·rename_i kt vt o ver hk hm
   rw [hk,hm]at h2
   simp only at h2 ⊢
   split at h1
   ·rename_i v es ho
    rw [ho]at h2
    simp only at h2 ⊢
    refine ⟨h1.1,h1.2.1,?_⟩
    have h1:=h1.2.2
    have h2:=h2.2.2
    split at h1
    ·rename_i hf; rw [hf]at h2; exact ⟨h1,h2⟩
    ·rename_i hf; rw [hf]at h2; exact ⟨h1,h2⟩
    exact h1.elim
   exact h1.elim
  exact h1.elim
 | _ =>
  simp only[pOp]at h1 h2 ⊢
  rw [zmc]at h1 h2 ⊢
  obtain ⟨v,e1,k1⟩:=h1
  obtain ⟨v',e2,k2⟩:=h2
  rw [e1]at e2
  cases e2
  exact ⟨v,e1,k1,k2⟩
theorem z39 {ops:Array Oper} {o:Oper} {e:Env} {y1 n1 y2 n2:Prop} (h1:zdh ops o e y1 n1) (h2:zdh ops o e y2 n2):zdh ops o e (y1∧y2) (n1∧n2):=by
 unfold zdh at *
 split at h1
 ·rename_i h; rw [h]at h2; exact ⟨h1,h2⟩
 ·rename_i h; rw [h]at h2; exact ⟨h1,h2⟩
 exact h1.elim
theorem z89 {R:Option Nat} {nn:Nat} (hT:zb2 P T) {ops:Array Oper} {effs pend keep:List Nat} {Q:Env→Store→Prop} {i:Nat} {r1 r2:List Nat} {e:Env} {F:Nat→Prop} {G:GSt} {a:Act} {w:World}
  (hnc:∀ o:Oper,ops[i]?=some o→∀ c,o.op ≠ .call c)
  (h1:zde P T ops effs pend keep Q (i::r1) e G.er) (h2:zde P T ops effs pend keep Q (i::r2) e G.er) (hi:Inv F G w) (he:zff w.heap F G e a) (hn:Next F0 G0 w0 F G w) (hs:a.tmps.size=N) (hd:Marks w0 a.defers w)
  (hdst:∀ o∈ops.toList,∀ d,o.dst=some d→d<N) {Qx:Exit→Act→World→Prop} {K:Act→World→Prop}
  (hK:∀ e' F' G' a' w',zde P T ops effs pend keep Q r1 e' G'.er→zde P T ops effs pend keep Q r2 e' G'.er→Inv F' G' w'→zff w'.heap F' G' e' a'→Next F0 G0 w0 F' G' w'→a'.tmps.size=N→Marks w0 a'.defers w'→K a' w') :
  wpOpIn (fnc R) nn P ops Qx i K a w:=by
 simp only[zde]at h1 h2
 unfold wpOpIn
 cases ho:ops[i]? with
 | none=>rw [ho]at h1; exact h1.elim
 | some o =>
  rw [ho]at h1 h2
  have hnc:=hnc o ho
  have hd1:∀ t,o.dst=some t→t<a.tmps.size:=fun t ht=>by
   rw [hs]; exact hdst o (List.mem_of_getElem? (i:=i) (by simpa using ho)) t ht
  simp only at h1 h2 ⊢
  rcases zim he (z39 h1 h2) with ⟨hw,h1,h2⟩ | ⟨hw,h1,h2⟩
  ·rw [if_pos hw]
   split at h1
   ·rename_i hc
    rw [if_pos hc]at h2
    refine zin hT hi he (z7o hnc h1 h2) ?_
    intro v cv F' G' w' hk i1 i2 i3
    exact hK _ _ _ _ _ hk.1.2 hk.2.2 i1 ((he.next hi i2).put _ hd1 i3) (hn.trans i2) (by rw [ze5]; exact hs) (by rw [zc8]; exact hd.next hi i2)
   ·rename_i hc
    rw [if_neg hc]at h2
    rw [zc6]at h1 h2
    obtain ⟨v,f1,_,f3⟩:=h1
    obtain ⟨v',g1,_,g3⟩:=h2
    have hv:v=v':=by
     have hop:=z7o hnc (zqw f1) (zqw g1)
     have key:∀ {op:Op},(∀ c,op ≠ .call c)→pFl P T G.er e op v→pFl P T G.er e op v'→v=v':=by
      intro op hc a1 a2
      cases op with
      | call c=>exact absurd rfl (hc c)
      | _=>exact Option.some.inj (a1.symm.trans a2)
     exact key hnc f1 g1
    subst hv
    refine zin hT hi he (zqw f1) ?_
    rintro v' cv F' G' w' ⟨rfl,hS⟩ i1 i2 i3
    exact hK _ _ _ _ _ (by rw [hS]; exact f3) (by rw [hS]; exact g3) i1 ((he.next hi i2).put _ hd1 i3) (hn.trans i2) (by rw [ze5]; exact hs) (by rw [zc8]; exact hd.next hi i2)
  rw [if_neg (by simp [hw])]
  exact ⟨fun _ _=>trivial,hK _ _ _ _ _ h1 h2 hi (zm4 hi he _ hd1) hn (by rw [ze5]; exact hs) (by rw [zc8]; exact hd)⟩
theorem z51 {R:Option Nat} {nn:Nat} (hT:zb2 P T) {ops:Array Oper} {effs pend keep:List Nat} {Q:Env→Store→Prop} (hdst:∀ o∈ops.toList,∀ d,o.dst=some d→d<N)
  (hdep:∀ (i:Nat) o,ops[i]?=some o→∀ e∈o.after.toList,Region.binds .any e=true→e.on<ops.size) {x0 y0:Nat} (hxy:x0≠y0) (hno1:((prs ops).getD x0 0).testBit y0=false) (hno2:((prs ops).getD y0 0).testBit x0=false)
  (hnc:∀ (i:Nat) (o:Oper),ops[i]?=some o→∀ c,o.op ≠ .call c) :
  ∀ (fuel:Nat) (listed:Array Bool) (l l':List Nat) {e:Env} {F:Nat→Prop} {G:GSt} {a:Act} {w:World},l.length=fuel→l'.length=fuel→x0∈l→y0∈l →
   l.Pairwise (fun x i=>zgo ops (prs ops) effs pend x i=true∨(x=x0∧i=y0))→l'.Pairwise (fun x i=>zgo ops (prs ops) effs pend x i=true∨(x=y0∧i=x0))→l.Nodup→l'.Nodup→(∀ x∈l,((prs ops).getD x 0).testBit x=false) →
   listed.size=ops.size→(∀ i,i∈l↔i<ops.size∧listed.getD i true=false)→(∀ i,i∈l'↔i<ops.size∧listed.getD i true=false) →
   (∀ i x,listed.getD i false=true→((prs ops).getD i 0).testBit x=true→x<ops.size→listed.getD x true=true) →
   zde P T ops effs pend keep Q l e G.er→zde P T ops effs pend keep Q l' e G.er→Inv F G w→zff w.heap F G e a→Next F0 G0 w0 F G w→a.tmps.size=N→Marks w0 a.defers w →
   wpAnyIn (fnc R) nn P .any ops (Sto F0 G0 w0 N (Nrm Q)) fuel listed a w:=by
 intro fuel
 induction fuel with
 | zero =>
  intro listed l l' e F G a w hl hl' hx0 hy0 hp hp' hnd hnd' hself hsz hmem hmem' hcl h h' hi he hn hs hd
  have hl0:l=[]:=List.eq_nil_of_length_eq_zero hl
  subst hl0
  simp at hx0
 | succ fuel ih =>
  intro listed l l' e F G a w hl hl' hx0 hy0 hp hp' hnd hnd' hself hsz hmem hmem' hcl h h' hi he hn hs hd
  have hmm:∀ i,i∈l↔i∈l':=fun i=>(hmem i).trans (hmem' i).symm
  have bound:∀ i x,((prs ops).getD i 0).testBit x=true→x<ops.size:=by
   have key:∀ n i x,i<n→((prs ops).getD i 0).testBit x=true→x<ops.size:=by
    intro n
    induction n with
    | zero=>intro i x h; omega
    | succ n ihn =>
     intro i x hin hx
     obtain ⟨o,ho,ed,h1,h2,h3⟩:=ziq hx
     rcases h3 with rfl | ⟨h3,h4⟩
     ·exact hdep i o ho ed h1 h2
     exact ihn ed.on x (by omega) h4
   exact fun i x=>key (i+1) i x (Nat.lt_succ_self _)
  have facts:∀ i,i∈Region.ready .any ops listed→i∈l∧∃ q,ops[i]?=some q∧∀ e∈q.after.toList,Region.binds .any e=true→listed.getD e.on false=true:=by
   intro i hr
   unfold Region.ready at hr
   rw [List.mem_filter]at hr
   obtain ⟨h1,h2⟩:=hr
   have hlt:i<ops.size:=by simpa using h1
   rw [Array.getElem?_eq_getElem hlt]at h2
   simp only[qO,Option.getD_some,qB,Bool.not_eq_true']at h2
   refine ⟨(hmem i).2 ⟨hlt,h2.1⟩,ops[i],Array.getElem?_eq_getElem hlt,fun e he hb=>?_⟩
   have:=h2.2
   rw [Array.all_eq_true_iff_forall_mem]at this
   have:=this e (by simpa using he)
   simpa [hb] using this
  have preds:∀ i,i∈Region.ready .any ops listed→∀ x,((prs ops).getD i 0).testBit x=true→listed.getD x true=true:=by
   intro i hr x hx
   obtain ⟨_,q,hq,hdeps⟩:=facts i hr
   have hxl:=bound i x hx
   obtain ⟨o,ho,ed,h1,h2,h3⟩:=ziq hx
   rw [hq]at ho
   cases ho
   have hl1:=hdeps ed h1 h2
   rcases h3 with rfl | ⟨_,h3⟩
   ·have hlt:ed.on<listed.size:=by rw [hsz]; exact hxl
    rw [Array.getD_eq_getD_getElem?,Array.getElem?_eq_getElem hlt]at hl1 ⊢
    exact hl1
   exact hcl _ _ hl1 h3 hxl
  refine ⟨fun hr0=>?_,fun i hr=>?_⟩
  ·exfalso
   cases l with
   | nil=>simp at hl
   | cons x l =>
    have hx:=(hmem x).1 (by simp)
    have hready:x∈Region.ready .any ops listed:=by
     unfold Region.ready
     rw [List.mem_filter]
     refine ⟨by simpa using hx.1,?_⟩
     rw [Array.getElem?_eq_getElem hx.1]
     simp only[qO,Option.getD_some,qB,Bool.not_eq_true']
     refine ⟨hx.2,?_⟩
     rw [Array.all_eq_true_iff_forall_mem]
     intro ed hed
     cases hb:Region.binds .any ed with
     | false=>simp
     | true =>
      have hon:=hdep x _ (Array.getElem?_eq_getElem hx.1) ed (by simpa using hed) hb
      have hbit:=ztd (Array.getElem?_eq_getElem hx.1) (by simpa using hed) hb
      cases hq:listed.getD ed.on true with
      | true =>
       have hlt:ed.on<listed.size:=by rw [hsz]; exact hon
       rw [Array.getD_eq_getD_getElem?,Array.getElem?_eq_getElem hlt]at hq ⊢
       simpa using hq
      | false =>
       exfalso
       have hm:=(hmem ed.on).2 ⟨hon,hq⟩
       rcases List.mem_cons.1 hm with he1 | hm
       ·have:=hself x (by simp)
        rw [he1]at hbit
        rw [hbit]at this
        cases this
       rcases List.rel_of_pairwise_cons hp hm with this | ⟨e1,e2⟩
       ·unfold zgo at this
        rw [hbit]at this
        simp at this
       rw [e1,e2,hno1]at hbit; cases hbit
    rw [hr0]at hready
    simp at hready
  obtain ⟨hil,q,hq,_⟩:=facts i hr
  have hil':=(hmm i).1 hil
  obtain ⟨l1,l2,rfl⟩:=List.append_of_mem hil
  obtain ⟨l3,l4,rfl⟩:=List.append_of_mem hil'
  have good:∀ x,x∈l1++i::l2→zgo ops (prs ops) effs pend x i=true→∃ p,ops[x]?=some p∧effs.contains x=false∧Oper.apart ops p q=true∧(effs.contains i=true→(pend.contains x=true∧pend.contains i=false)∨zmx p.op=true):=by
   intro x hx hpair
   have hxm:=(hmem x).1 hx
   have hnb:((prs ops).getD i 0).testBit x=false:=by
    cases hb:((prs ops).getD i 0).testBit x with
    | false=>rfl
    | true=>have:=preds i hr x hb; rw [hxm.2]at this; cases this
   unfold zgo at hpair
   rw [hnb,hq,Array.getElem?_eq_getElem hxm.1]at hpair
   simp only[Bool.false_or,qB,Bool.not_eq_true',Bool.or_eq_true]at hpair
   refine ⟨ops[x],Array.getElem?_eq_getElem hxm.1,hpair.2.1.1,hpair.2.1.2,fun hc=>?_⟩
   rcases hpair.2.2 with (h1 | h1) | h1
   ·rw [hc]at h1; cases h1
   ·exact .inl h1
   exact .inr h1
  have hlt:i<ops.size:=((hmem i).1 hil).1
  have hgetD:∀ j d,(listed.setIfInBounds i true).getD j d=if j=i then true else listed.getD j d:=by
   intro j d
   rw [Array.getD_eq_getD_getElem?,Array.getD_eq_getD_getElem?]
   by_cases hj:j=i
   ·subst hj; simp [hsz,hlt]
   rw [Array.getElem?_setIfInBounds_ne (Ne.symm hj),if_neg hj]
  have nmem:∀ {m1 m2:List Nat},(m1++i::m2).Nodup→i ∉ m1++m2:=by
   intro m1 m2 hnd hm
   have:=List.nodup_append.1 hnd
   rcases List.mem_append.1 hm with h1 | h1
   ·exact this.2.2 i h1 i (by simp) rfl
   exact (List.nodup_cons.1 this.2.1).1 h1
  have nlist:∀ {m1 m2:List Nat},(m1++i::m2).Nodup→(∀ j,j∈m1++i::m2↔j<ops.size∧listed.getD j true=false)→∀ j,j∈m1++m2↔j<ops.size∧(listed.setIfInBounds i true).getD j true=false:=by
   intro m1 m2 hnd hm j
   rw [hgetD]
   by_cases hj:j=i
   ·subst hj
    rw [if_pos rfl]
    exact ⟨fun h=>(nmem hnd h).elim,fun h=>(by cases h.2)⟩
   rw [if_neg hj,← hm j]
   simp [hj]
  have ncl:∀ (j x:Nat),(listed.setIfInBounds i true).getD j false=true→((prs ops).getD j 0).testBit x=true→x<ops.size→(listed.setIfInBounds i true).getD x true=true:=by
   intro j x h1 h2 h3
   rw [hgetD]at h1 ⊢
   by_cases hx:x=i
   ·rw [if_pos hx]
   rw [if_neg hx]
   by_cases hj:j=i
   ·subst hj; exact preds j hr x h2
   rw [if_neg hj]at h1; exact hcl j x h1 h2 h3
  by_cases ix:i=x0
  ·subst ix
   have hfront:=ze9 hq l1 (fun x hx=>good x (by simp [hx]) (by
    rcases (List.pairwise_append.1 hp).2.2 x hx i (by simp) with h1 | ⟨e1,e2⟩
    ·exact h1
    exact absurd e2 hxy)) h
   refine zma hT hfront hi he hn hs hd hdst ?_
   intro e' F' G' a' w' k1 k2 k3 k4 k5 k6
   refine zlx hT hdst hdep _ _ (l1++l2) (by simp at hl ⊢; omega) ?_ (hnd.sublist (by simp)) (fun x hx=>hself x (by rcases List.mem_append.1 hx with h9 | h9 <;> simp [h9])) (by simp [hsz]) (nlist hnd hmem) ncl k1 k2 k3 k4 k5 k6
   refine (hp.sublist (by simp)).imp_of_mem (S:=fun x i=>zgo ops (prs ops) effs pend x i=true) fun {x y} hx hy hh=>?_
   rcases hh with h1 | ⟨e1,e2⟩
   ·exact h1
   exact absurd (e1 ▸ hx) (nmem hnd)
  by_cases iy:i=y0
  ·subst iy
   have hfront:=ze9 hq l3 (fun x hx=>good x ((hmm x).2 (by simp [hx])) (by
    rcases (List.pairwise_append.1 hp').2.2 x hx i (by simp) with h1 | ⟨e1,e2⟩
    ·exact h1
    exact absurd e2 ix)) h'
   refine zma hT hfront hi he hn hs hd hdst ?_
   intro e' F' G' a' w' k1 k2 k3 k4 k5 k6
   refine zlx hT hdst hdep _ _ (l3++l4) (by simp at hl' ⊢; omega) ?_ (hnd'.sublist (by simp)) (fun x hx=>hself x ((hmm x).2 (by rcases List.mem_append.1 hx with h9 | h9 <;> simp [h9]))) (by simp [hsz]) (nlist hnd' hmem') ncl k1 k2 k3 k4 k5 k6
   refine (hp'.sublist (by simp)).imp_of_mem (S:=fun x i=>zgo ops (prs ops) effs pend x i=true) fun {x y} hx hy hh=>?_
   rcases hh with h1 | ⟨e1,e2⟩
   ·exact h1
   exact absurd (e1 ▸ hx) (nmem hnd')
  have hf1:=ze9 hq l1 (fun x hx=>good x (by simp [hx]) (by
   rcases (List.pairwise_append.1 hp).2.2 x hx i (by simp) with h1 | ⟨e1,e2⟩
   ·exact h1
   exact absurd e2 iy)) h
  have hf2:=ze9 hq l3 (fun x hx=>good x ((hmm x).2 (by simp [hx])) (by
   rcases (List.pairwise_append.1 hp').2.2 x hx i (by simp) with h1 | ⟨e1,e2⟩
   ·exact h1
   exact absurd e2 ix)) h'
  refine z89 hT (hnc i) hf1 hf2 hi he hn hs hd hdst ?_
  intro e' F' G' a' w' k1 k1' k2 k3 k4 k5 k6
  have hx1:x0∈l1++l2:=by have:=hx0; simp only[List.mem_append,List.mem_cons]at this ⊢; rcases this with h9 | h9 | h9 <;> first | exact .inl h9 | exact .inr h9 | exact absurd h9.symm ix
  have hy1:y0∈l1++l2:=by have:=hy0; simp only[List.mem_append,List.mem_cons]at this ⊢; rcases this with h9 | h9 | h9 <;> first | exact .inl h9 | exact .inr h9 | exact absurd h9.symm iy
  exact ih _ (l1++l2) (l3++l4) (by simp at hl ⊢; omega) (by simp at hl' ⊢; omega) hx1 hy1 (hp.sublist (by simp)) (hp'.sublist (by simp)) (hnd.sublist (by simp)) (hnd'.sublist (by simp)) (fun x hx=>hself x (by rcases List.mem_append.1 hx with h9 | h9 <;> simp [h9])) (by simp [hsz])
   (nlist hnd hmem) (nlist hnd' hmem') ncl k1 k1' k2 k3 k4 k5 k6
def z5p (ops:Array Oper) (l l' effs pend:List Nat) (a b:Nat):Bool :=
 let B:=prs ops
 zla (fun x i=>zgo ops B effs pend x i || (x == a && i == b)) l && zla (fun x i=>zgo ops B effs pend x i || (x == b && i == a)) l' && l.length == ops.size && l'.length == ops.size && l.all (fun x=>decide (x<ops.size) && !(B.getD x 0).testBit x) && l'.all (fun x=>decide (x<ops.size)) &&
 ((List.range ops.size).all l.contains) && ((List.range ops.size).all l'.contains) && (ops.toList.all fun o=>o.after.toList.all fun e => !Region.binds .any e || decide (e.on<ops.size)) &&
 !(a == b) && l.contains a && l.contains b && !(B.getD a 0).testBit b && !(B.getD b 0).testBit a && ops.toList.all fun o=>match o.op with | .call _=>false | _=>true
theorem W.region_two {Q:Exit→Env→Store→Prop} {e:Env} {S:Store} {id:Nat} {ops:Array Oper} (l l' effs pend keep:List Nat) (a b:Nat) (hc:z5p ops l l' effs pend a b=true) (h:zde P T ops effs pend keep (Q .normal) l e S) (h':zde P T ops effs pend keep (Q .normal) l' e S) :
  W P T (.region id ops true) Q e S:=by
 refine ⟨?_⟩
 intro hT hm F0 G0 w0 N F G act w h3 h4 h5 h6 h7 h8 h9 R nn
 subst h3
 unfold z5p at hc
 simp only[qB,beq_iff_eq,List.all_eq_true,decide_eq_true_eq,Bool.not_eq_true',List.contains_eq_mem,List.mem_range,Bool.or_eq_true,beq_eq_false_iff_ne]at hc
 obtain ⟨⟨⟨⟨⟨⟨⟨⟨⟨⟨⟨⟨⟨⟨c1,c1'⟩,c2⟩,c2'⟩,c3⟩,c3'⟩,c4⟩,c4'⟩,c5⟩,c6⟩,c7⟩,c8⟩,c9⟩,c10⟩,c11⟩:=hc
 obtain ⟨p1,p2⟩:=zgc c1
 obtain ⟨p1',p2'⟩:=zgc c1'
 have hin:∀ i,i<ops.size↔i<ops.size∧(Array.replicate ops.size false).getD i true=false:=by
  intro i
  constructor
  ·intro hi; refine ⟨hi,?_⟩; rw [Array.getD_eq_getD_getElem?]; simp [hi]
  exact fun h=>h.1
 refine wpIn_mono (wpIn_region_any hm (z51 (Q:=Q .normal) hT (zp1 h9) ?_ c6 c9 c10 ?_ ops.size (Array.replicate ops.size false) l l' c2 c2' (by simpa using c7) (by simpa using c8) (p1.imp fun h=>by simpa using h) (p1'.imp fun h=>by simpa using h) p2 p2' (fun x hx=>(c3 x hx).2) (by simp) ?_ ?_ ?_ h h' (h4.drew) h5 (h6.drew) h7 h8)) zxf
 ·intro i o ho ed hed hb
  have hmem:o∈ops.toList:=by
   have:=Array.mem_of_getElem? ho
   simpa using this
  have:=c5 o hmem ed hed
  rw [hb]at this
  simpa using this
 ·intro i o ho c hcc
  have hmem:o∈ops.toList:=by
   have:=Array.mem_of_getElem? ho
   simpa using this
  have:=c11 o hmem
  rw [hcc]at this
  simp at this
 ·exact fun i=>⟨fun hi=>(hin i).1 (c3 i hi).1,fun hi=>c4 i hi.1⟩
 ·exact fun i=>⟨fun hi=>(hin i).1 (c3' i hi),fun hi=>c4' i hi.1⟩
 intro i x hx
 rw [Array.getD_eq_getD_getElem?]at hx
 simp only[Array.getElem?_replicate]at hx
 split at hx <;> cases hx
theorem zp4 {all:List Oper} {effs pend:List Nat} {K:Env→Store→Prop} (heff:∀ (i:Nat) (o:Oper),all[i]?=some o→effs.contains i=false→zdw o.op=true) {x:Nat} {cs:List PV} {off:Nat}
  (hx:∀ (i:Nat) (o:Oper),all[i]?=some o→o.dst≠some x) (hpe:∀ (i:Nat) (o:Oper),all[i]?=some o→pend.contains i=true→∃ t,o.op = .load t (.tmp x)):∀ (r:List Nat) (l:List Oper) {e:Env} {S:Store},e x = .ip cs off→r.map (all[·]?)=l.map some →
  zbv false P T (dsts all) l e S K→zde P T all.toArray effs pend [] K r e S
 | [],l,e,S,_,hl,h=>by
  cases l with
  | nil=>exact h
  | cons o l=>simp at hl
 | i::r,l,e,S,hex,hl,h=>by
  cases l with
  | nil=>simp at hl
  | cons o l =>
   simp only[List.map_cons,List.cons.injEq]at hl
   obtain ⟨ho,hl⟩:=hl
   have hput:∀ v,(e.put o.dst v) x = .ip cs off:=fun v=>by
    have:=hx i o ho
    cases hd:o.dst with
    | none=>exact hex
    | some d=>rw [zu3,if_neg (fun e1=>this (by rw [hd,e1]))]; exact hex
   unfold zbv at h
   simp only[zde,List.getElem?_toArray,ho]
   rw [zjc]at h
   unfold zdh
   split at h
   ·rename_i hg
    rw [hg]
    simp only
    split
    ·exact zd7 (fun v S' hv=>⟨.inr (by intro o ho; cases ho),zp4 heff hx hpe r l (hput v) hl hv⟩) (zjm h)
    rename_i hc
    have:=zjy (heff i o ho (by simpa using hc)) h
    rw [zc6]at this ⊢
    obtain ⟨v,h1,h2⟩:=this
    refine ⟨v,h1,?_,zp4 heff hx hpe r l (hput v) hl h2⟩
    split
    ·rename_i hp
     obtain ⟨t,ht⟩:=hpe i o ho hp
     intro S' _
     rw [ht]at h1 ⊢
     simp only[pFl,zd5,z54,hex,zr4]at h1 ⊢
     exact h1
    trivial
   ·rename_i hg; rw [hg]; exact zp4 heff hx hpe r l (hput _) hl h
   exact h.elim
def yf7 (l:List Oper) (effs pend:List Nat) (x:Nat):Bool :=
 l.all (fun o=>o.dst != some x) && (l.zipIdx.all fun q => !pend.contains q.2 || (match q.1.op with | .load _ (.tmp y)=>y == x | _=>false))
theorem W.draw_two {Q:Exit→Env→Store→Prop} {e:Env} {S:Store} {id:Nat} {l r1 r2:List Oper} (l1 l2 pend:List Nat) (a b x:Nat) {cs:List PV} {off:Nat} (hex:e x = .ip cs off) (hc:z5p l.toArray l1 l2 (zco l 0) pend a b=true) (ho:yf7 l (zco l 0) pend x=true)
  (hr:l1.map (l[·]?)=r1.map some) (hr2:l2.map (l[·]?)=r2.map some)
  (h1:∀ K:Env→Store→Prop,(∀ e S,Q .normal e S→K e S)→zbv false P T (dsts l) r1 e S K) (h2:∀ K:Env→Store→Prop,(∀ e S,Q .normal e S→K e S)→zbv false P T (dsts l) r2 e S K):W P T (.region id l.toArray true) Q e S:=by
 unfold yf7 at ho
 simp only[qB,List.all_eq_true,bne_iff_ne,Bool.or_eq_true,Bool.not_eq_true']at ho
 have heff:∀ (i:Nat) (o:Oper),l[i]?=some o→(zco l 0).contains i=false→zdw o.op=true:=by
  intro i o hio hc
  have:=zil l 0 i o hio
  rw [Nat.zero_add]at this
  cases hf:zdw o.op with
  | true=>rfl
  | false=>have:=this.2 hf; simp at hc; exact absurd this hc
 have hx:∀ (i:Nat) (o:Oper),l[i]?=some o→o.dst≠some x:=fun i o hio=>ho.1 o (List.mem_of_getElem? hio)
 have hpe:∀ (i:Nat) (o:Oper),l[i]?=some o→pend.contains i=true→∃ t,o.op = .load t (.tmp x):=by
  intro i o hio hp
  rcases ho.2 (o,i) (List.mem_of_getElem? (i:=i) (by simp [List.getElem?_zipIdx,hio])) with h | h
  ·rw [hp]at h; cases h
  simp only at h
  split at h
  ·rename_i t y hop; exact ⟨t,by rw [hop,beq_iff_eq.1 h]⟩
  cases h
 exact W.region_two l1 l2 (zco l 0) pend [] a b hc (zp4 heff hx hpe _ _ hex hr (h1 _ fun _ _ h=>h)) (zp4 heff hx hpe _ _ hex hr2 (h2 _ fun _ _ h=>h))
end
end
end Fw
end Go.Proofs.YtjobkanbijpfgaaGreat
