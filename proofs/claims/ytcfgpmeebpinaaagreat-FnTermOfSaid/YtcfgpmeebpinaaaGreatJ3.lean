/- Parts of the framework and of the proof: The numbering of all rooms of a grid; Grids of the program, gone through; A plan of a grid, as the program finds it; Plans of the program, gone through; Plans that are read, in plain words; Reading plans, gone through; The two closures of relations are the same; The heaviest sums and the least sizes are the same; The program's walls and orders are the specification's; The program's direct orders are the specification's; Sums and counts of cells; The least rectangle around cells, by the program; The least rectangle around a room and its cells, by the specification; Plans that are read are the specification's: grids and names; Plans that are read are the specification's: numbers of rooms and rectangles; Plans that are read are the specification's: rooms fill their rectangles; Areas by the program are the specification's; Areas by the program are the specification's, joined; Arguments of laws as plain data; A slice of bytes as an argument: plain data; What holds of all arguments holds of frozen ones; The framework: what a call leaves is frozen from some object on; a call freezes all that there is; strings.Count of one sign, in the model's own words; Terms: how a text is read, by the specification and by the program; Plans in which no four rooms meet: two orders of rooms go on without end, and each two rooms are in one; Two plans side by side, each stretched where they meet; The program's closures and walls in words of cells: left of is going on from just left of, above is going on from just above; Orders of a plain plan: each two rooms are in just one; Where rooms begin and how far they may be moved: the program's lists are the specification's; Shapes in plain words: the program's least shapes are the specification's; Sizes in plain words: areas, places, slacks, longest rows; Grids whose cells are alike are numbered alike; the text of a numbered grid is named as it should be; Orders of plans that are made of other plans: rows and columns exchanged, turned, seen from behind, made wide or tight; Rooms put in a row by how many are ahead of them; The two orders are orders of all rooms; the places of the second order in the first one; What the laws of sizes ask, of plans in plain words; Longest rows of rooms, as the specification finds them, in plain words; Longest growing parts of the permutation of a plan are longest rows of its rooms; Plans that are made of other plans: their orders, their permutations and their least sizes; Upright cuts are where the permutation falls apart; Two plans side by side: their orders; Two plans side by side: their orders are those of each, and the first one's rooms are left of the second one's; Grids that are made of cells told by a function, gone through; Plans made of plans, gone through; Rooms of two plans put together, beside each other or one below the other: the permutation; Plans made of two plans beside each other or one below the other, each stretched where they meet; Cut trees: parts of plans, their first cuts, and the tree of all; Parts of plans as texts: the specification's cut and its parts; Parts of plans in the program: the rooms of a part, its lines, its cut. -/
import Derived.Test.YtcfgpmeebpinaaaGreatJ2
import Derived.Test.YtcfgpmeebpinaaaGreatRows
import Derived.ProofKit
import Derived.SliceStrings
import Derived.Test.YtcfgpmeebpinaaaGreatJ1
import Derived.Lib.Bytealg
import Derived.Lib.Walk
import Derived.WalkKit
import Derived.Laws.Externs
set_option linter.all false
namespace Go.Proofs.YtcfgpmeebpinaaaGreat
namespace Fw
open Go
open Nat renaming reduceEqDiff → qE, reduceLeDiff → qL, reduceAdd → qA, reduceMul → qM, le_refl → qR
open List renaming append_nil → qN, mapM_append → qP, mapM_cons → qC, mapM_map → qU, range_succ → qS, take_of_length_le → qT
open Bool renaming and_eq_true → qB, false_eq_true → qF
open Option renaming map_some → qO, map_eq_some_iff → qI
open Int renaming reduceToNat → qZ
section
def prS (g:List (List Int)) (w:Nat) (rv:PV) (ks:List Int):List Ob:=[.arr 0 72 1 [ze7 g],.arr 1 3 1 [.int .i64 w],.arr 2 75 2 [.nils,rv],.arr 3 43 1 [.ref 2 2 0],.map 4 (mE ks),.arr 5 143 1 [.mp 4 4]]
def seS (g:List (List Int)) (w:Nat) (xv yv:Nat) (x y:List PV) (ks:List Int) (rs:List Rect) (vq t:Nat):Store :=
 match rs with
 | []=>⟨prS g w .nils ks++[.arr xv 31 1 x,.arr yv 3 1 y],t⟩
 | rs=>⟨prS g w (.loc 8 vq 0 rs.length) ks++[.arr xv 31 1 x,.arr yv 3 1 y,.arr vq 79 4 (rcs rs)],t⟩
theorem z8u {g:List (List Int)} {w xv yv:Nat} {x y:List PV} {ks:List Int} {vq t:Nat}:seS g w xv yv x y ks [] vq t=⟨prS g w .nils ks++[.arr xv 31 1 x,.arr yv 3 1 y],t⟩:=rfl
theorem z2v {g:List (List Int)} {w xv yv:Nat} {x y:List PV} {ks:List Int} {rs:List Rect} {vq t:Nat} (h:rs≠[]):seS g w xv yv x y ks rs vq t=⟨prS g w (.loc 8 vq 0 rs.length) ks++[.arr xv 31 1 x,.arr yv 3 1 y,.arr vq 79 4 (rcs rs)],t⟩:=by
 cases rs with
 | nil=>exact absurd rfl h
 | cons a l=>rfl
section
variable {g:List (List Int)} {w xv yv:Nat} {x y y2:List PV} {ks:List Int} {rs:List Rect} {vq t:Nat}
theorem zeg:(seS g w xv yv x y ks rs vq t).obs[6]?=some (.arr xv 31 1 x):=by cases rs <;> rfl
theorem ze2:(seS g w xv yv x y ks rs vq t).obs[7]?=some (.arr yv 3 1 y):=by cases rs <;> rfl
theorem zhl:(seS g w xv yv x y ks rs vq t).set 7 (.arr yv 3 1 y2)=seS g w xv yv x y2 ks rs vq t:=by cases rs <;> rfl
end
theorem yco {S:Store} {k f:Nat} {sel:List Nat} {n:Nat} {q:IntKind} {z:Int}:(List.replicate n (PV.int q z)).mapM (rn S k sel (f+1))=some (List.replicate n (PV.int q z)) :=
 zcr fun x hx=>by obtain rfl:=List.eq_of_mem_replicate hx; rfl
theorem ya3 {S:Store} {k f:Nat} {sel:List Nat} {n:Nat}:(List.replicate n PV.nils).mapM (rn S k sel (f+1))=some (List.replicate n PV.nils) :=
 zcr fun x hx=>by obtain rfl:=List.eq_of_mem_replicate hx; rfl
theorem yeo {S:Store} {k f:Nat} {sel:List Nat} {d:List (List Int)} {cur:PV} {m:Nat}:(gcs d cur m).mapM (rn S k sel (f+1))=(rn S k sel (f+1) cur).map fun c=>gcs d c m:=by
 unfold gcs
 rw [qP,zcr (l:=d.map eInts) (fun x hx=>by obtain ⟨a,_,rfl⟩:=List.mem_map.1 hx; rfl),qC,zcr (l:=List.replicate m PV.nils) (fun x hx=>by obtain rfl:=List.eq_of_mem_replicate hx; rfl)]
 cases rn S k sel (f+1) cur <;> rfl
theorem ya1 {S:Store} {fr:Nat→Bool} {f:Nat} {q:IntKind} (l:List Int):(l.map (PV.int q)).mapM (rfq S fr (f+1))=some (l.map (PV.int q)) :=
 zcr fun x hx=>by obtain ⟨a,_,rfl⟩:=List.mem_map.1 hx; rfl
def seO (g:List (List Int)) (w:Nat) (xv:Nat) (x:List PV) (ks:List Int) (rs:List Rect) (vq t:Nat):Store :=
 match rs with
 | []=>⟨prS g w .nils ks++[.arr xv 31 1 x],t⟩
 | rs=>⟨prS g w (.loc 7 vq 0 rs.length) ks++[.arr xv 31 1 x,.arr vq 79 4 (rcs rs)],t⟩
theorem z8s {g:List (List Int)} {w xv:Nat} {x:List PV} {ks:List Int} {vq t:Nat}:seO g w xv x ks [] vq t=⟨prS g w .nils ks++[.arr xv 31 1 x],t⟩:=rfl
theorem z8r {g:List (List Int)} {w xv:Nat} {x:List PV} {ks:List Int} {rs:List Rect} {vq t:Nat} (h:rs≠[]):seO g w xv x ks rs vq t=⟨prS g w (.loc 7 vq 0 rs.length) ks++[.arr xv 31 1 x,.arr vq 79 4 (rcs rs)],t⟩:=by
 cases rs with
 | nil=>exact absurd rfl h
 | cons a l=>rfl
def zdw (g:List (List Int)) (i:Nat) (s:List Int × List Rect):Nat→List Int × List Rect
 | 0=>s
 | j+1=>(zih (zdw g i s j).1 (gz g i j),zpm (zdw g i s j).1 (zdw g i s j).2 (gz g i j) (zg7 i j))
def zaq (g:List (List Int)) (nw:Nat):Nat→List Int × List Rect
 | 0=>([],[])
 | i+1=>zdw g i (zaq g nw i) nw
def zn3 (g:List (List Int)) (i:Nat) (s:List Int × List Rect):Nat→List Int
 | 0=>[]
 | j+1=>zn3 g i s j++[(((zdw g i s j).1.idxOf (gz g i j):Nat):Int)]
def zez (g:List (List Int)) (nw:Nat):Nat→List (List Int)
 | 0=>[]
 | i+1=>zez g nw i++[zn3 g i (zaq g nw i) nw]
theorem zfi {g:List (List Int)} {i:Nat} {s:List Int × List Rect}:∀ j,(zn3 g i s j).length=j
 | 0=>rfl
 | j+1=>by simp [zn3,zfi j]
theorem ybt {g:List (List Int)} {i nw j:Nat} {s:List Int × List Rect} (h:j<nw):zn3 g i s (j+1)++List.replicate (nw - (j+1)) 0=(zn3 g i s j++List.replicate (nw - j) 0).set j (((zdw g i s j).1.idxOf (gz g i j):Nat):Int):=by
 obtain ⟨m,hm⟩:∃ m,nw - j=m+1:=⟨nw - j - 1,by omega⟩
 rw [hm,show nw - (j+1)=m by omega,List.set_append_right _ _ (by rw [zfi]; exact qR _),zfi,Nat.sub_self]
 simp [zn3,List.replicate_succ]
theorem zc0 {g:List (List Int)} {nw:Nat}:∀ i,(zez g nw i).length=i
 | 0=>rfl
 | i+1=>by simp [zez,zc0 i]
theorem z2u {ks:List Int} {z:Int}:(zih ks z).length≤ks.length+1∧ks.length≤(zih ks z).length∧1≤(zih ks z).length:=by
 have h:=zhu (ks:=ks) (z:=z)
 unfold zih
 split
 ·simp
 refine ⟨by omega,by omega,?_⟩
 have:ks.idxOf z≠ks.length:=by assumption
 omega
theorem zm0 {g:List (List Int)} {i:Nat} (hi:i<6) {s:List Int × List Rect} (h:zr9 s.1 s.2):∀ j,j≤6→zr9 (zdw g i s j).1 (zdw g i s j).2∧(zdw g i s j).1.length≤s.1.length+j∧s.1.length≤(zdw g i s j).1.length∧(1≤j→1≤(zdw g i s j).1.length)
 | 0,_=>⟨h,by simp [zdw],by simp [zdw],by omega⟩
 | j+1,hj=>by
  obtain ⟨h1,h2,h3,h4⟩:=zm0 hi h j (by omega)
  have:=z2u (ks:=(zdw g i s j).1) (z:=gz g i j)
  exact ⟨h1.step (zfd hi (by omega)),by simp only[zdw]; omega,by simp only[zdw]; omega,fun _=>by simp only[zdw]; omega⟩
theorem zgb {g:List (List Int)} {nw:Nat} (hw:nw≤6) (hw1:1≤nw):∀ i,i≤6→zr9 (zaq g nw i).1 (zaq g nw i).2∧(zaq g nw i).1.length≤6*i∧(1≤i→1≤(zaq g nw i).1.length)
 | 0,_=>⟨zr9.nil,by simp [zaq],by omega⟩
 | i+1,hi=>by
  obtain ⟨h1,h2,h3⟩:=zgb hw hw1 i (by omega)
  obtain ⟨k1,k2,k3,k4⟩:=zm0 (g:=g) (i:=i) (by omega) h1 nw hw
  exact ⟨k1,by simp only[zaq]; omega,fun _=>by simp only[zaq]; exact k4 hw1⟩
theorem zr9.ne {ks:List Int} {rs:List Rect} (h:zr9 ks rs) (h1:1≤ks.length):rs≠[]:=by
 rintro rfl
 have:=h.1
 simp at this; omega
theorem zr9.nl {ks:List Int} (h:zr9 ks []):ks=[]:=List.eq_nil_of_length_eq_zero h.1.symm
theorem zgh {d:List (List Int)} {cur:PV} {m i:Nat} (h:d.length=i):(gcs d cur m)[i]?=some cur:=by subst h; simp [gcs]
theorem zgi {d:List (List Int)} {cur:PV} {m:Nat}:(gcs d cur m).length=d.length+1+m:=by simp [gcs]; omega
def gc0 (d:List (List Int)) (m:Nat):List PV:=d.map eInts++List.replicate m .nils
theorem z6d {d:List (List Int)} {m:Nat}:(gc0 d m).length=d.length+m:=by simp [gc0]
theorem z6e {d:List (List Int)} {m i:Nat} {c:PV} (h:d.length=i) (hm:1≤m):(gc0 d m).take i++[c]++(gc0 d m).drop (i+1)=gcs d c (m - 1):=by
 subst h
 obtain ⟨m,rfl⟩:∃ n,m=n+1:=⟨m - 1,by omega⟩
 simp only[gc0,gcs,Nat.add_sub_cancel]
 rw [show d.length=(d.map eInts).length by simp,List.take_left,List.drop_length_add_append]
 simp [List.replicate_succ]
theorem ydl {d:List (List Int)} {r:List Int} {m:Nat}:gcs d (eInts r) m=gc0 (d++[r]) m:=by simp [gcs,gc0]
theorem ydj {d:List (List Int)}:gc0 d 0=d.map eInts:=by simp [gc0]
theorem ydk {m:Nat}:gc0 [] m=List.replicate m .nils:=rfl
end
theorem zz9 {g d:List (List Int)} {y:List Int} {row ks:List Int} {rs:List Rect} {z:Int} {r c w m xv yv vq t:Nat} (hr:r<6) (hc:c<6) (hrow:g[r]?=some row) (hz:row[c]?=some z) (hs:zr9 ks rs) (hk:ks.length≤64) :
  Ev Tryz.prog 107 [.int .i64 (r:Nat),.int .i64 (c:Nat),.ref 5 5 0,.ref 0 0 0,.ref 3 3 0] (seS g w xv yv (gcs d (.loc 7 yv 0 w) m) (y.map (.int .i64)) ks rs vq t)
   fun v S=>v = .int .i64 ((ks.idxOf z:Nat):Int)∧∃ vq t:Nat,S=seS g w xv yv (gcs d (.loc 7 yv 0 w) m) (y.map (.int .i64)) (zih ks z) (zpm ks rs z (zg7 r c)) vq t:=by
 have hne:zpm ks rs z (zg7 r c)≠[]:=(hs.step (z:=z) (zfd hr hc)).ne z2u.2.2
 simp only[z2v hne]
 by_cases h0:rs=[]
 ·subst h0
  rw [z8u]
  exact znz (vq:=0) hr hc hrow hz hs hk rfl hs.nl
 rw [z2v h0]
 by_cases hin:ks.idxOf z=ks.length
 ·exact zrr hr hc hrow hz hs hk hin
 exact zrs hr hc hrow hz hs hk hin
theorem z9x {g:List (List Int)} {nh nw:Nat} (hg:GW g nh nw):Ev Tryz.prog 72 [.int .i64 nh,.int .i64 nw,.fn 107 [.ref 5 5 0,.ref 0 0 0,.ref 3 3 0]] ⟨prS g nw .nils [],6⟩ fun v S=>∃ xv vq t:Nat,v = .loc 6 xv 0 nh∧S=seO g nw xv ((zez g nw nh).map eInts) (zaq g nw nh).1 (zaq g nw nh).2 vq t:=by
 have hl:=hg.1
 obtain ⟨hg1,hg2,hg3,hg4⟩:=hg.2.2
 refine Ev.of ⟨Tryz.func72,by kernel_rfl,rfl,by kernel_rfl⟩ zap mixed (by show 3≤Tryz.f72.ntmps; decide) ?_
 refine W.r fun K hK=>?_
 simp(disch:=omega)only[↓RU,RV,RH,↓reduceIte,qE,reduceCtorEq,if_pos,↓RS,RG,qA,qM,qL,prS]
 apply hK;clear hK K
 refine W.r fun K hK=>?_
 simp(disch:=omega)only[↓RU,RV,RH,↓reduceIte,qE,reduceCtorEq,if_pos,↓RS,RG,qA,qM,qL,ty1,zad,zc8,zaa,prS,zre,zf1,zgw]
 apply hK;clear hK K
 refine W.seq ?_
 refine W.r fun K hK=>?_
 simp(disch:=omega)only[↓RU,RV,RH,↓reduceIte,qE,reduceCtorEq,if_pos,↓RS,RG,qA,qM,qL,ty1,zad,zc8,zaa,prS]
 apply hK;clear hK K
 refine W.block ?_
 refine W.loopS [1,2,7,13,14] (fun n vs S=>∃ (i xv vq t:Nat),n=nh - i∧i≤nh∧vs=[.int .i64 nw,.fn 107 [.ref 5 5 0,.ref 0 0 0,.ref 3 3 0],.loc 6 xv 0 nh,.int .i64 nh,.int .i64 (i:Nat)]∧S=seO g nw xv (gc0 (zez g nw i) (nh - i)) (zaq g nw i).1 (zaq g nw i).2 vq t) nh ?_ ?_
 ·refine ⟨7,[],[.int .i64 nw,.fn 107 [.ref 5 5 0,.ref 0 0 0,.ref 3 3 0],.loc 6 6 0 nh,.int .i64 nh,.int .i64 (0:Nat)],seO g nw 6 (gc0 (zez g nw 0) (nh - 0)) (zaq g nw 0).1 (zaq g nw 0).2 0 8,?_,?_,0,6,0,8,rfl,Nat.zero_le _,rfl,rfl⟩
  ·simp [-qU,Env.put,Env.of,zae,zbv,zaj,zan,zau,zaw,zb1,zb2,zdc,zb0,zbb,zb3,zdb,zdd,zbd,zbc,zax,zbz,zb4,zda,za9,za8,zav,zba,zby,ze8,qS,qP,qC]
  simp [-qU,Env.put,Env.of,zae,zbv,zaj,zan,zau,zaw,zb1,zb2,zdc,zb0,zbb,zb3,zdb,zdd,zbd,zbc,zax,zbz,zb4,zda,za9,za8,zav,zba,zby,ze8,qS,qP,qC,prS,z8s,zaq,zez,ydk,ya3,zz1]
 rintro n vs S - ⟨i,xv,vq,t,rfl,h_i,rfl,rfl⟩
 refine W.r fun K hK=>?_
 simp(disch:=omega)only[↓RU,RV,RH,↓reduceIte,qE,reduceCtorEq,if_pos,w64,↓RS,RG,qA,qM,qL,zaa,prS]
 apply hK;clear hK K
 refine W.seq ?_
 refine W.cond rfl (fun h=>?_) (fun h=>?_)
 ·try simp only[RL]at h
  have hzl:=zc0 (g:=g) (nw:=nw) i
  have hiw:i<nh:=by omega
  obtain ⟨hso,hsl,hsp⟩:=zgb (g:=g) hg4 hg3 i (by omega)
  refine W.skip ?_
  refine xn ?_
  refine W.seq ?_
  refine W.block ?_
  refine W.r fun K hK=>?_
  simp(disch:=omega)only[↓RU,RV,RH,↓reduceIte,qE,reduceCtorEq,if_pos,↓RS,RG,qA,qM,qL,prS]
  apply hK;clear hK K
  refine W.joinS [1,2,7,8,13,14] (fun vs S=>∃ (yv vq t:Nat),vs=[.int .i64 nw,.fn 107 [.ref 5 5 0,.ref 0 0 0,.ref 3 3 0],.loc 6 xv 0 nh,.int .i64 (i:Nat),.int .i64 nh,.int .i64 (i:Nat)]∧S=seS g nw xv yv (gcs (zez g nw i) (.loc 7 yv 0 nw) (nh - i - 1)) ((List.replicate nw 0).map (.int .i64)) (zaq g nw i).1 (zaq g nw i).2 vq t) ?_ ?_
  ·
   refine W.k fun K hK=>?_
   by_cases hi0:zaq g nw i=([],[])
   ·skip
    rw [hi0,z8s]
    simp(disch:=omega)only[↓RU,RV,RH,↓reduceIte,qE,reduceCtorEq,if_pos,↓RS,RG,qA,qM,qL,ty1,zad,zc8,zaa,prS,zf1,zgw,z6d,zc0,z6e]
    apply hK;clear hK K
    refine xn ?_
    refine ⟨8,[],[.int .i64 nw,.fn 107 [.ref 5 5 0,.ref 0 0 0,.ref 3 3 0],.loc 6 xv 0 nh,.int .i64 (i:Nat),.int .i64 nh,.int .i64 (i:Nat)],seS g nw xv t (gcs (zez g nw i) (.loc 7 t 0 nw) (nh - i - 1)) ((List.replicate nw 0).map (.int .i64)) (zaq g nw i).1 (zaq g nw i).2 vq (t+2),?_,?_,t,vq,t+2,rfl,rfl⟩
    ·simp [-qU,Env.put,Env.of,zae,zbv,zaj,zan,zau,zaw,zb1,zb2,zdc,zb0,zbb,zb3,zdb,zdd,zbd,zbc,zax,zbz,zb4,zda,za9,za8,zav,zba,zby,ze8,qS,qP,qC]
    rw [hi0,z8u]; simp [-qU,Env.put,Env.of,zae,zbv,zaj,zan,zau,zaw,zb1,zb2,zdc,zb0,zbb,zb3,zdb,zdd,zbd,zbc,zax,zbz,zb4,zda,za9,za8,zav,zba,zby,ze8,qS,qP,qC,prS,zz1,zor,zh5,zx4,yco,show List.idxOf 7 [8,7]=1 from rfl]
   skip
   have hne:(zaq g nw i).2≠[]:=fun e=>hi0 (by have:=hso; rw [e]at this; rw [← Prod.eta (zaq g nw i),e,this.nl])
   rw [z8r hne]
   simp(disch:=omega)only[↓RU,RV,RH,↓reduceIte,qE,reduceCtorEq,if_pos,↓RS,RG,qA,qM,qL,ty1,zad,zc8,zaa,prS,zf1,zgw,z6d,zc0,z6e]
   apply hK;clear hK K
   refine xn ?_
   refine ⟨7,[8,7],[.int .i64 nw,.fn 107 [.ref 5 5 0,.ref 0 0 0,.ref 3 3 0],.loc 6 xv 0 nh,.int .i64 (i:Nat),.int .i64 nh,.int .i64 (i:Nat)],seS g nw xv (t+1) (gcs (zez g nw i) (.loc 7 (t+1) 0 nw) (nh - i - 1)) ((List.replicate nw 0).map (.int .i64)) (zaq g nw i).1 (zaq g nw i).2 (t+1) (t+2),?_,?_,t+1,t+1,t+2,rfl,rfl⟩
   ·simp [-qU,Env.put,Env.of,zae,zbv,zaj,zan,zau,zaw,zb1,zb2,zdc,zb0,zbb,zb3,zdb,zdd,zbd,zbc,zax,zbz,zb4,zda,za9,za8,zav,zba,zby,ze8,qS,qP,qC]
   rw [z2v hne]; simp [-qU,Env.put,Env.of,zae,zbv,zaj,zan,zau,zaw,zb1,zb2,zdc,zb0,zbb,zb3,zdb,zdd,zbd,zbc,zax,zbz,zb4,zda,za9,za8,zav,zba,zby,ze8,qS,qP,qC,prS,zz1,zor,zh5,zx4,yco,show List.idxOf 7 [8,7]=1 from rfl]
  rintro vs S - ⟨yv,vq,t,rfl,rfl⟩
  refine W.r fun K hK=>?_
  simp(disch:=omega)only[↓RU,RV,RH,↓reduceIte,qE,reduceCtorEq,if_pos,↓RS,RG,qA,qM,qL,ty1,zad,zc8,zaa,prS,zeg,ze2,zgh,zgi,hzl]
  apply hK;clear hK K
  refine W.block ?_
  refine W.loop [1,2,7,8,13,14,26,27] (fun n vs S=>∃ (j vq t:Nat),n=nw - j∧j≤nw∧vs=[.int .i64 nw,.fn 107 [.ref 5 5 0,.ref 0 0 0,.ref 3 3 0],.loc 6 xv 0 nh,.int .i64 (i:Nat),.int .i64 nh,.int .i64 (i:Nat),.int .i64 nw,.int .i64 (j:Nat)]∧S=seS g nw xv yv (gcs (zez g nw i) (.loc 7 yv 0 nw) (nh - i - 1)) ((zn3 g i (zaq g nw i) j++List.replicate (nw - j) 0).map (.int .i64)) (zdw g i (zaq g nw i) j).1 (zdw g i (zaq g nw i) j).2 vq t) nw ?_ ?_
  ·refine ⟨_,0,vq,t,rfl,Nat.zero_le _,?_,zal⟩
   simp [Env.put,Env.of]
  rintro n vs S - ⟨j,vq,t,rfl,h_j,rfl,rfl⟩
  refine W.r fun K hK=>?_
  simp(disch:=omega)only[↓RU,RV,RH,↓reduceIte,qE,reduceCtorEq,if_pos,w64,↓RS,RG,qA,qM,qL,zaa,prS]
  apply hK;clear hK K
  refine W.seq ?_
  refine W.cond rfl (fun h1=>?_) (fun h1=>?_)
  ·try simp only[RL]at h1
   have hjw:j<nw:=by omega
   obtain ⟨row,hrow,hrl,hz⟩:=hg.at_ hiw hjw
   obtain ⟨hro,hrl2,-,-⟩:=zm0 (g:=g) (i:=i) (by omega) hso j (by omega)
   have hYl:(zn3 g i (zaq g nw i) j++List.replicate (nw - j) 0).length=nw:=by simp only[List.length_append,List.length_replicate,zfi]; omega
   generalize hY:zn3 g i (zaq g nw i) j++List.replicate (nw - j) 0=Y at hYl
   refine W.skip ?_
   refine xn ?_
   refine W.seq ?_
   refine W.block ?_
   refine W.r fun K hK=>?_
   simp(disch:=omega)only[↓RU,RV,RH,↓reduceIte,qE,reduceCtorEq,if_pos,↓RS,RG,qA,qM,qL,prS]
   apply hK;clear hK K
   refine W.region_pk 9 [some 32,some 33] [6] (by decide) (by kernel_rfl) fun K hK=>?_
   simp only[List.take_succ_cons,List.take_zero,List.drop_succ_cons,List.drop_zero]
   refine za1 rfl ?_
   simp(disch:=omega)only[↓RU,RV,RH,↓reduceIte,qE,reduceCtorEq,if_pos,qN,↓RS,RG,qA,qM,qL,ty1,zad,zc8,zaa,prS,zeg,ze2,zgh,zgi,hzl,zhl,zcb,zeb,hYl,zam,zar]
   refine za1 rfl ?_
   simp(disch:=omega)only[↓RU,RV,RH,↓reduceIte,qE,reduceCtorEq,if_pos,qN,↓RS,RG,qA,qM,qL,ty1,zad,zc8,zaa,prS,zeg,ze2,zgh,zgi,hzl,zhl,zcb,zeb,hYl,zam,zar]
   refine zat (.ref 6 xv i) rfl rfl rfl (fun S' hS=>?_) ?_
   ·skip
    have k6:=(hS 6 (by decide)).trans zeg
    simp(disch:=omega)only[↓RU,RV,RH,↓reduceIte,qE,reduceCtorEq,if_pos,qN,↓RS,RG,qA,qM,qL,ty1,zad,zc8,zaa,prS,zeg,ze2,zgh,zgi,hzl,zhl,zcb,zeb,hYl,zbx,zcv,zd8,zd9,k6]
   refine zat (.loc 7 yv 0 nw) rfl rfl rfl (fun S' hS=>?_) ?_
   ·skip
    have k6:=(hS 6 (by decide)).trans zeg
    simp(disch:=omega)only[↓RU,RV,RH,↓reduceIte,qE,reduceCtorEq,if_pos,qN,↓RS,RG,qA,qM,qL,ty1,zad,zc8,zaa,prS,zeg,ze2,zgh,zgi,hzl,zhl,zcb,zeb,hYl,zbx,zcv,zd8,zd9,k6]
   refine za1 rfl ?_
   simp(disch:=omega)only[↓RU,RV,RH,↓reduceIte,qE,reduceCtorEq,if_pos,qN,↓RS,RG,qA,qM,qL,ty1,zad,zc8,zaa,prS,zeg,ze2,zgh,zgi,hzl,zhl,zcb,zeb,hYl,zam,zar]
   refine za1 rfl ?_
   simp(disch:=omega)only[↓RU,RV,RH,↓reduceIte,qE,reduceCtorEq,if_pos,qN,↓RS,RG,qA,qM,qL,ty1,zad,zc8,zaa,prS,zeg,ze2,zgh,zgi,hzl,zhl,zcb,zeb,hYl,zam,zar]
   refine za1 rfl ?_
   simp(disch:=omega)only[↓RU,RV,RH,↓reduceIte,qE,reduceCtorEq,if_pos,qN,↓RS,RG,qA,qM,qL,ty1,zad,zc8,zaa,prS,zeg,ze2,zgh,zgi,hzl,zhl,zcb,zeb,hYl,zam,zar]
   refine za1 rfl ?_
   simp(disch:=omega)only[↓RU,RV,RH,↓reduceIte,qE,reduceCtorEq,if_pos,qN,↓RS,RG,qA,qM,qL,ty1,zad,zc8,zaa,prS,zeg,ze2,zgh,zgi,hzl,zhl,zcb,zeb,hYl,zam,zar]
   refine za1 rfl ?_
   simp(disch:=omega)only[↓RU,RV,RH,↓reduceIte,qE,reduceCtorEq,if_pos,qN,↓RS,RG,qA,qM,qL,ty1,zad,zc8,zaa,prS,zeg,ze2,zgh,zgi,hzl,zhl,zcb,zeb,hYl,zam,zar]
   refine zac.ev (zz9 (y:=Y) (by omega) (by omega) hrow hz hro (by omega)) ?_
   rintro _ _ ⟨rfl,vq2,t2,rfl⟩
   simp(disch:=omega)only[↓RU,RV,RH,↓reduceIte,qE,reduceCtorEq,if_pos,qN,↓RS,RG,qA,qM,qL,ty1,zad,zc8,zaa,prS,zeg,ze2,zgh,zgi,hzl,zhl,zcb,zeb,hYl,zam,zar]
   refine zf5 ?_
   simp(disch:=omega)only[↓RU,RV,RH,↓reduceIte,qE,reduceCtorEq,if_pos,qN,↓RS,RG,qA,qM,qL,ty1,zad,zc8,zaa,prS,zeg,ze2,zgh,zgi,hzl,zhl,zcb,zeb,hYl]
   apply hK;clear hK K
   refine XbN ?_
   refine xn ?_
   refine W.k fun K hK=>?_
   simp(disch:=omega)only[↓RU,RV,RH,↓reduceIte,qE,reduceCtorEq,if_pos,w64,↓RS,RG,qA,qM,qL,zaa,prS]
   apply hK;clear hK K
   refine xn ?_
   refine ⟨nw - (j+1),by omega,_,j+1,vq2,t2,rfl,by omega,?_,za0 ?_⟩
   rotate_left
   ·rw [show zn3 g i (zaq g nw i) (j+1)++List.replicate (nw - (j+1)) 0=(zn3 g i (zaq g nw i) j++List.replicate (nw - j) 0).set j (((zdw g i (zaq g nw i) j).1.idxOf (gz g i j):Nat):Int) from ybt hjw,hY]; rfl
   simp [Env.put,Env.of]
  try simp only[RL]at h1
  obtain rfl:nw=j:=by omega
  obtain ⟨hro,hrl2,-,hro4⟩:=zm0 (g:=g) (i:=i) (by omega) hso nw hg4
  have hne:=hro.ne (hro4 hg3)
  have hY:zn3 g i (zaq g nw i) nw++List.replicate (nw - nw) 0=zn3 g i (zaq g nw i) nw:=by rw [Nat.sub_self]; exact qN _
  have hYl:=zfi (g:=g) (i:=i) (s:=zaq g nw i) nw
  rw [hY,z2v hne]
  generalize hYe:zn3 g i (zaq g nw i) nw=Y at hYl
  have hYt:(Y.map (PV.int .i64)).take nw=Y.map (PV.int .i64):=qT (by rw [List.length_map]; omega)
  have hYE:eInts Y=PV.sl (Y.map (PV.int .i64)) nw:=by rw [← hYl]
  have hsr:zdw g i (zaq g nw i) nw=zaq g nw (i+1):=rfl
  rw [hsr]at hne ⊢
  have hzs:zez g nw (i+1)=zez g nw i++[Y]:=by rw [← hYe]; rfl
  refine W.exit ?_
  refine xe ?_
  refine xe ?_
  refine XBlock.hit ?_
  refine XbN ?_
  refine xn ?_
  refine W.k fun K hK=>?_
  simp(disch:=omega)only[↓RU,RV,RH,↓reduceIte,qE,reduceCtorEq,if_pos,w64,↓RS,RG,qA,qM,qL,zaa,prS]
  apply hK;clear hK K
  refine xn ?_
  refine ⟨nh - (i+1),by omega,7,[8],[.int .i64 nw,.fn 107 [.ref 5 5 0,.ref 0 0 0,.ref 3 3 0],.loc 6 xv 0 nh,.int .i64 nh,.int .i64 ((i+1:Nat):Int)],seO g nw xv (gc0 (zez g nw (i+1)) (nh - (i+1))) (zaq g nw (i+1)).1 (zaq g nw (i+1)).2 t (t+1),?_,?_,i+1,xv,t+0,t+1,rfl,by omega,rfl,rfl⟩
  ·simp [-qU,Env.put,Env.of,zae,zbv,zaj,zan,zau,zaw,zb1,zb2,zdc,zb0,zbb,zb3,zdb,zdd,zbd,zbc,zax,zbz,zb4,zda,za9,za8,zav,zba,zby,ze8,qS,qP,qC]
  rw [z8r hne,hzs,← ydl]; simp [-qU,Env.put,Env.of,zae,zbv,zaj,zan,zau,zaw,zb1,zb2,zdc,zb0,zbb,zb3,zdb,zdd,zbd,zbc,zax,zbz,zb4,zda,za9,za8,zav,zba,zby,ze8,qS,qP,qC,prS,zz1,zor,zh5,yeo,hYl,hYt,hYE,ya1,show nh - i - 1=nh - (i+1) by omega,show List.idxOf 8 [8]=0 from rfl]
 try simp only[RL]at h
 obtain rfl:nh=i:=by omega
 refine W.exit ?_
 refine xe ?_
 refine xe ?_
 refine XBlock.hit ?_
 refine xn ?_
 refine W.r fun K hK=>?_
 simp(disch:=omega)only[↓RU,RV,RH,↓reduceIte,qE,reduceCtorEq,if_pos,↓RS,RG,qA,qM,qL,prS]
 apply hK;clear hK K
 refine W.ret ?_
 refine Br rfl ?_
 rw [Nat.sub_self,ydj]
 exact ⟨_,xv,vq,t,rfl,zal⟩
def w0 (g:List (List Int)):Nat:=(g[0]?.getD []).length
def okG (g:List (List Int)):Bool:=decide (1≤g.length) && decide (g.length≤6) && decide (1≤w0 g) && decide (w0 g≤6) && !(g.any fun r=>decide ((r.length:Int)≠(w0 g:Nat)))
def stG (g:List (List Int)):List Int × List Rect:=zaq g (w0 g) g.length
def zG (g:List (List Int)):List (List Int):=zez g (w0 g) g.length
def z4x (rs:List Rect):Int:=rs.foldl (fun s b=>s+b.high*b.wide) 0
def okS (g:List (List Int)):Bool:=okG g && decide ((stG g).2.length≤9)
def zl5 (g:List (List Int)):Bool:=decide (z4x (stG g).2=((g.length*w0 g:Nat):Int))
def zes (g:List (List Int)):PV:=if okS g then .tup [zaz (zG g) (stG g).2,.bool (zl5 g)] else .tup [.nilp,.bool false]
theorem ybk {g:List (List Int)} {row:List Int} (h:g[0]?=some row):w0 g=row.length:=by simp [w0,h]
theorem zum {g:List (List Int)}:okG g=true↔GW g g.length (w0 g):=by
 unfold okG GW
 simp only[qB,decide_eq_true_eq,Bool.not_eq_true',List.any_eq_false,decide_eq_true_eq,ne_eq,Decidable.not_not]
 constructor
 ·rintro ⟨⟨⟨⟨h1,h2⟩,h3⟩,h4⟩,h5⟩
  exact ⟨trivial,fun r hr=>by have:=h5 r hr; omega,h1,h2,h3,h4⟩
 rintro ⟨_,h5,h1,h2,h3,h4⟩
 exact ⟨⟨⟨⟨h1,h2⟩,h3⟩,h4⟩,fun r hr=>by have:=h5 r hr; omega⟩
theorem zrv {rs:List Rect} {k:Nat} {b:Rect} (h:rs[k]?=some b):z4x (rs.take (k+1))=z4x (rs.take k)+b.high*b.wide:=by
 unfold z4x; rw [zgv h]
theorem Rect.Fit.area {b:Rect} (h:b.Fit):1≤b.high*b.wide∧b.high*b.wide≤36:=by
 unfold Rect.Fit at h
 obtain ⟨h1,h2,h3,h4,h5,h6⟩:=h
 obtain ⟨m,hm⟩:∃ m:Nat,b.high=m:=⟨b.high.toNat,by omega⟩
 obtain ⟨n,hn⟩:∃ n:Nat,b.wide=n:=⟨b.wide.toNat,by omega⟩
 rw [hm,hn]
 have h7:=Nat.mul_le_mul (show m≤6 by omega) (show n≤6 by omega)
 have h8:=Nat.mul_le_mul (show 1≤m by omega) (show 1≤n by omega)
 have:((m*n:Nat):Int)=(m:Int)*n:=by simp
 omega
theorem ztt {rs:List Rect} (h:∀ b∈rs,b.Fit):∀ k,0≤z4x (rs.take k)∧z4x (rs.take k)≤36*k
 | 0=>by simp [z4x]
 | k+1=>by
  have ih:=ztt h k
  by_cases hk:k<rs.length
  ·obtain ⟨b,hb,hm⟩:=zag hk
   rw [zrv hb]
   have:=(h b hm).area
   omega
  rw [qT (by omega)]at ih ⊢
  omega
theorem zkl {g:List (List Int)} {nw:Nat}:∀ {i k:Nat},k<i→(zez g nw i)[k]?=some (zn3 g k (zaq g nw k) nw)
 | 0,k,h=>by omega
 | i+1,k,h=>by
  unfold zez
  by_cases e:k=i
  ·subst e; rw [List.getElem?_append_right (by rw [zc0]; exact qR _),zc0]; simp
  rw [List.getElem?_append_left (by rw [zc0]; omega)]; exact zkl (by omega)
theorem yg7 {g:List (List Int)} {nh nw:Nat} (hg:GW g nh nw):GW (zez g nw nh) nh nw:=by
 refine ⟨zc0 _,fun r hr=>?_,hg.2.2⟩
 obtain ⟨k,hk⟩:=List.getElem?_of_mem hr
 have hkl:=zbp hk
 rw [zc0]at hkl
 rw [zkl hkl]at hk
 cases hk
 exact zfi _
theorem zlh {S:Store} {xv vq nh f:Nat} {Z:List (List Int)} {rs:List Rect} (h2:S.obs[2]?=some (.arr 2 75 2 [.loc 6 xv 0 nh,.loc 7 vq 0 rs.length])) (h6:S.obs[6]?=some (.arr xv 31 1 (Z.map eInts))) (hZ:Z.length=nh)
  (h7:S.obs[7]?=some (.arr vq 79 4 (rcs rs))):reify S true (f+4) (.ref 2 2 0)=some (zaz Z rs):=by
 have e1:reify S true (f+3) (.loc 6 xv 0 nh)=some (ze7 Z):=by
  rw [← hZ]
  exact zcl (k:=f+2) h6 (by simp) (zs4 _)
 have e2:reify S true (f+3) (.loc 7 vq 0 rs.length)=some (zn9 rs):=zcl (k:=f+2) h7 (zbt _) (znv (z2s _))
 have hc:S.cellsOf 2 2=some [.loc 6 xv 0 nh,.loc 7 vq 0 rs.length]:=by simp [Store.cellsOf,h2]
 have e0:reify S true (f+4) (.ref 2 2 0)=(S.cellsOf 2 2).bind fun cells=>(cells.mapM (reify S true (f+3))).map (.ip · 0):=rfl
 rw [e0,hc,Option.bind_some,qC,e1,qC,e2]
 rfl
theorem zto {g:List (List Int)} (hsm:g.length<2147483648) (hsr:∀ r∈g,r.length<2147483648):PC Tryz.prog 56 [ze7 g] (zes g) false:=by
 refine PC.of ⟨Tryz.func56,by kernel_rfl,rfl,by kernel_rfl⟩ zap mixed (by show 1≤Tryz.f56.ntmps; decide) ?_
 refine W.r fun K hK=>?_
 simp(disch:=omega)only[↓RU,RV,RH,↓reduceIte,qE,reduceCtorEq,if_pos,↓RS,RG,qA,qM,qL,ty1,zad,zc8,zaa]
 apply hK;clear hK K
 refine W.seq ?_
 refine W.r fun K hK=>?_
 have hcase:g.length<1∨6<g.length∨∃ row:List Int,g[0]?=some row∧row∈g∧(1≤g.length∧g.length≤6)∧(row.length<1∨6<row.length∨(1≤row.length∧row.length≤6)):=by
  by_cases h1:g.length<1
  ·exact .inl h1
  obtain ⟨row,h2,h3⟩:=zag (show 0<g.length by omega)
  by_cases h4:6<g.length
  ·exact .inr (.inl h4)
  exact .inr (.inr ⟨row,h2,h3,by omega,by omega⟩)
 rcases hcase with hb | hb | ⟨row,hrow,hrm,hgl,hb | hb | hb⟩
 ·skip
  have hd:decide ((g.length:Int)<1)=true:=decide_eq_true (by omega)
  simp(disch:=omega)only[↓RU,RV,RH,↓reduceIte,qE,reduceCtorEq,if_pos,w64,↓RS,RG,qA,qM,qL,ty1,zad,zc8,zaa,hd]
  apply hK;clear hK K
  refine W.cond rfl (fun h=>?_) (fun h=>?_)
  ·try simp only[RL]at h
   refine W.r fun K hK=>?_
   simp(disch:=omega)only[↓RU,RV,RH,↓reduceIte,qE,reduceCtorEq,if_pos,↓RS,RG,qA,qM,qL]
   apply hK;clear hK K
   refine W.ret ?_
   refine XThen.ret ?_
   refine Br rfl ?_
   have hok:okS g=false:=by simp [okS,okG]; omega
   rw [zes,hok]
   rfl
  try simp only[RL]at h
  exact absurd h (by simp)
 ·skip
  have hd:decide ((g.length:Int)<1)=false:=decide_eq_false (by omega)
  have hd2:decide ((g.length:Int)>6)=true:=decide_eq_true (by omega)
  simp(disch:=omega)only[↓RU,RV,RH,↓reduceIte,qE,reduceCtorEq,if_pos,w64,↓RS,RG,qA,qM,qL,ty1,zad,zc8,zaa,hd,hd2]
  apply hK;clear hK K
  refine W.cond rfl (fun h=>?_) (fun h=>?_)
  ·try simp only[RL]at h
   refine W.r fun K hK=>?_
   simp(disch:=omega)only[↓RU,RV,RH,↓reduceIte,qE,reduceCtorEq,if_pos,↓RS,RG,qA,qM,qL]
   apply hK;clear hK K
   refine W.ret ?_
   refine XThen.ret ?_
   refine Br rfl ?_
   have hok:okS g=false:=by simp [okS,okG]; omega
   rw [zes,hok]
   rfl
  try simp only[RL]at h
  exact absurd h (by simp)
 ·skip
  have hrl:=hsr row hrm
  have hw0:=ybk hrow
  have hd:decide ((g.length:Int)<1)=false:=decide_eq_false (by omega)
  have hd2:decide ((g.length:Int)>6)=false:=decide_eq_false (by omega)
  have hd3:decide ((row.length:Int)<1)=true:=decide_eq_true (by omega)
  simp(disch:=omega)only[↓RU,RV,RH,↓reduceIte,qE,reduceCtorEq,if_pos,w64,↓RS,RG,qA,qM,qL,ty1,zad,zc8,zaa,hd,hd2,hd3,hrow,Int.toNat_zero,Nat.zero_mul,qZ]
  apply hK;clear hK K
  refine W.cond rfl (fun h=>?_) (fun h=>?_)
  ·try simp only[RL]at h
   refine W.r fun K hK=>?_
   simp(disch:=omega)only[↓RU,RV,RH,↓reduceIte,qE,reduceCtorEq,if_pos,↓RS,RG,qA,qM,qL]
   apply hK;clear hK K
   refine W.ret ?_
   refine XThen.ret ?_
   refine Br rfl ?_
   have hok:okS g=false:=by simp [okS,okG]; omega
   rw [zes,hok]
   rfl
  try simp only[RL]at h
  exact absurd h (by simp)
 ·skip
  have hrl:=hsr row hrm
  have hw0:=ybk hrow
  have hd:decide ((g.length:Int)<1)=false:=decide_eq_false (by omega)
  have hd2:decide ((g.length:Int)>6)=false:=decide_eq_false (by omega)
  have hd3:decide ((row.length:Int)<1)=false:=decide_eq_false (by omega)
  have hd4:decide ((row.length:Int)>6)=true:=decide_eq_true (by omega)
  simp(disch:=omega)only[↓RU,RV,RH,↓reduceIte,qE,reduceCtorEq,if_pos,w64,↓RS,RG,qA,qM,qL,ty1,zad,zc8,zaa,hd,hd2,hd3,hd4,hrow,Int.toNat_zero,Nat.zero_mul,qZ]
  apply hK;clear hK K
  refine W.cond rfl (fun h=>?_) (fun h=>?_)
  ·try simp only[RL]at h
   refine W.r fun K hK=>?_
   simp(disch:=omega)only[↓RU,RV,RH,↓reduceIte,qE,reduceCtorEq,if_pos,↓RS,RG,qA,qM,qL]
   apply hK;clear hK K
   refine W.ret ?_
   refine XThen.ret ?_
   refine Br rfl ?_
   have hok:okS g=false:=by simp [okS,okG]; omega
   rw [zes,hok]
   rfl
  try simp only[RL]at h
  exact absurd h (by simp)
 skip
 have hrl:=hsr row hrm
 have hw0:=ybk hrow
 have hd:decide ((g.length:Int)<1)=false:=decide_eq_false (by omega)
 have hd2:decide ((g.length:Int)>6)=false:=decide_eq_false (by omega)
 have hd3:decide ((row.length:Int)<1)=false:=decide_eq_false (by omega)
 have hd4:decide ((row.length:Int)>6)=false:=decide_eq_false (by omega)
 simp(disch:=omega)only[↓RU,RV,RH,↓reduceIte,qE,reduceCtorEq,if_pos,w64,↓RS,RG,qA,qM,qL,ty1,zad,zc8,zaa,hd,hd2,hd3,hd4,hrow,Int.toNat_zero,Nat.zero_mul,qZ]
 apply hK;clear hK K
 refine W.cond rfl (fun h=>?_) (fun h=>?_)
 ·try simp only[RL]at h
  exact absurd h (by simp)
 try simp only[RL]at h
 refine W.skip ?_
 refine xn ?_
 refine W.r fun K hK=>?_
 simp(disch:=omega)only[↓RU,RV,RH,↓reduceIte,qE,reduceCtorEq,if_pos,↓RS,RG,qA,qM,qL,ty1,zad,zc8,zaa,hrow,Int.toNat_zero,Nat.zero_mul,qZ]
 apply hK;clear hK K
 refine W.seq ?_
 refine W.r fun K hK=>?_
 simp(disch:=omega)only[↓RU,RV,RH,↓reduceIte,qE,reduceCtorEq,if_pos,qN,↓RS,RG,qA,qM,qL,ty1,zad,zc8,zaa,hrow]
 refine zac.pc (zrz (l:=g) hsm (g:=106) (cap:=[.ip [.int .i64 row.length] 0]) rfl rfl (test:=fun r=>decide ((r.length:Int)≠(row.length:Nat))) (fun r hr=>zz8 r _ (hsr r hr))) rfl (.inl rfl) ?_
 simp(disch:=omega)only[↓RU,RV,RH,↓reduceIte,qE,reduceCtorEq,if_pos,qN,↓RS,RG,qA,qM,qL,ty1,zad,zc8,zaa,hrow]
 apply hK;clear hK K
 refine W.cond rfl (fun h1=>?_) (fun h1=>?_)
 ·try simp only[RL]at h1
  refine W.r fun K hK=>?_
  simp(disch:=omega)only[↓RU,RV,RH,↓reduceIte,qE,reduceCtorEq,if_pos,↓RS,RG,qA,qM,qL]
  apply hK;clear hK K
  refine W.ret ?_
  refine XThen.ret ?_
  refine Br rfl ?_
  have hok:okS g=false:=by unfold okS okG; rw [hw0,h1]; simp
  rw [zes,hok]
  rfl
 try simp only[RL]at h1
 have hg:GW g g.length row.length:=by have:=zum (g:=g); rw [hw0]at this; refine this.1 ?_; unfold okG; rw [hw0,h1]; simp; omega
 obtain ⟨hso,hsl,hs1⟩:=zgb (g:=g) (nw:=row.length) (by omega) (by omega) g.length (by omega)
 have hne:=hso.ne (hs1 (by omega))
 refine W.skip ?_
 refine xn ?_
 refine W.r fun K hK=>?_
 simp(disch:=omega)only[↓RU,RV,RH,↓reduceIte,qE,reduceCtorEq,if_pos,↓RS,RG,qA,qM,qL,ty1,ty4,zad,ty8,zet,zc8,za5,zaa,zeu,za6]
 apply hK;clear hK K
 refine W.r fun K hK=>?_
 simp(disch:=omega)only[↓RU,RV,RH,↓reduceIte,qE,reduceCtorEq,if_pos,↓RS,RG,qA,qM,qL,zaa,ycw]
 apply hK;clear hK K
 refine W.seq_pk 6 [some 42] [3] (by decide) (by kernel_rfl) fun K hK=>?_
 simp only[List.take_succ_cons,List.take_zero,List.drop_succ_cons,List.drop_zero]
 refine zat (.ref 2 2 0) rfl rfl rfl (fun S' hS=>?_) ?_
 ·skip
  have k3:=(hS 3 (by decide)).trans (show _=some _ from rfl)
  simp(disch:=omega)only[↓RU,RV,RH,↓reduceIte,qE,reduceCtorEq,if_pos,qN,↓RS,RG,qA,qM,qL,ty1,ty4,zad,ty8,zet,zc8,za5,zaa,zeu,za6,zbx,zcv,zd8,zd9,k3]
 refine za1 rfl ?_
 simp(disch:=omega)only[↓RU,RV,RH,↓reduceIte,qE,reduceCtorEq,if_pos,qN,↓RS,RG,qA,qM,qL,ty1,ty4,zad,ty8,zet,zc8,za5,zaa,zeu,za6,zam,zar]
 refine za1 rfl ?_
 simp(disch:=omega)only[↓RU,RV,RH,↓reduceIte,qE,reduceCtorEq,if_pos,qN,↓RS,RG,qA,qM,qL,ty1,ty4,zad,ty8,zet,zc8,za5,zaa,zeu,za6,zam,zar]
 refine za1 rfl ?_
 simp(disch:=omega)only[↓RU,RV,RH,↓reduceIte,qE,reduceCtorEq,if_pos,qN,↓RS,RG,qA,qM,qL,ty1,ty4,zad,ty8,zet,zc8,za5,zaa,zeu,za6,zam,zar]
 refine za1 rfl ?_
 simp(disch:=omega)only[↓RU,RV,RH,↓reduceIte,qE,reduceCtorEq,if_pos,qN,↓RS,RG,qA,qM,qL,ty1,ty4,zad,ty8,zet,zc8,za5,zaa,zeu,za6,zam,zar]
 refine za1 rfl ?_
 simp(disch:=omega)only[↓RU,RV,RH,↓reduceIte,qE,reduceCtorEq,if_pos,qN,↓RS,RG,qA,qM,qL,ty1,ty4,zad,ty8,zet,zc8,za5,zaa,zeu,za6,zam,zar]
 refine zac.ev (z9x hg) ?_
 rintro _ _ ⟨xv,vq,t,rfl,rfl⟩
 rw [z8r hne]
 simp only[prS]
 simp(disch:=omega)only[↓RU,RV,RH,↓reduceIte,qE,reduceCtorEq,if_pos,qN,↓RS,RG,qA,qM,qL,ty1,ty4,zad,ty8,zet,zc8,za5,zaa,zeu,za6,zam,zar]
 refine zf5 ?_
 simp(disch:=omega)only[↓RU,RV,RH,↓reduceIte,qE,reduceCtorEq,if_pos,qN,↓RS,RG,qA,qM,qL,ty1,ty4,zad,ty8,zet,zc8,za5,zaa,zeu,za6]
 apply hK;clear hK K
 refine W.seq ?_
 refine W.r fun K hK=>?_
 simp(disch:=omega)only[↓RU,RV,RH,↓reduceIte,qE,reduceCtorEq,if_pos,w64,↓RS,RG,qA,qM,qL,ty1,ty4,zad,ty8,zet,zc8,za5,zaa,zeu,za6]
 apply hK;clear hK K
 refine W.cond rfl (fun h2=>?_) (fun h2=>?_)
 ·try simp only[RL]at h2
  refine W.r fun K hK=>?_
  simp(disch:=omega)only[↓RU,RV,RH,↓reduceIte,qE,reduceCtorEq,if_pos,↓RS,RG,qA,qM,qL]
  apply hK;clear hK K
  refine W.ret ?_
  refine XThen.ret ?_
  refine Br rfl ?_
  have hok:okS g=false:=by unfold okS stG; rw [hw0]; simp only[Bool.and_eq_false_iff]; right; exact decide_eq_false (by omega)
  rw [zes,hok]
  rfl
 try simp only[RL]at h2
 refine W.skip ?_
 refine xn ?_
 refine W.r fun K hK=>?_
 simp(disch:=omega)only[↓RU,RV,RH,↓reduceIte,qE,reduceCtorEq,if_pos,↓RS,RG,qA,qM,qL]
 apply hK;clear hK K
 refine W.seq ?_
 refine W.r fun K hK=>?_
 simp(disch:=omega)only[↓RU,RV,RH,↓reduceIte,qE,reduceCtorEq,if_pos,↓RS,RG,qA,qM,qL,ty1,ty4,zad,ty8,zet,zc8,za5,zaa,zeu,za6]
 apply hK;clear hK K
 refine W.block ?_
 refine W.loop [5,7,59,60,61] (fun n vs S=>∃ k t:Nat,n=(zaq g row.length g.length).2.length - k∧k≤(zaq g row.length g.length).2.length∧vs=[.ref 3 3 0,.int .i64 (z4x ((zaq g row.length g.length).2.take k)),.loc 7 vq 0 (zaq g row.length g.length).2.length,.int .i64 (zaq g row.length g.length).2.length,.int .i64 (k:Nat)]∧S=⟨[.arr 0 72 1 [ze7 g],.arr 1 3 1 [.int .i64 row.length],.arr 2 75 2 [.loc 6 xv 0 g.length,.loc 7 vq 0 (zaq g row.length g.length).2.length],.arr 3 43 1 [.ref 2 2 0],.map 4 (mE (zaq g row.length g.length).1),.arr 5 143 1 [.mp 4 4],.arr xv 31 1 ((zez g row.length g.length).map eInts),.arr vq 79 4 (rcs (zaq g row.length g.length).2)],t⟩) (zaq g row.length g.length).2.length ?_ ?_
 ·refine ⟨8,0,t,rfl,Nat.zero_le _,?_,?_⟩
  ·simp [Env.put,Env.of,zae,z4x]
  simp [zck]
 rintro n vs S - ⟨k,t,rfl,h_k,rfl,rfl⟩
 refine W.r fun K hK=>?_
 simp(disch:=omega)only[↓RU,RV,RH,↓reduceIte,qE,reduceCtorEq,if_pos,w64,↓RS,RG,qA,qM,qL,zaa]
 apply hK;clear hK K
 refine W.seq ?_
 refine W.cond rfl (fun h3=>?_) (fun h3=>?_)
 ·try simp only[RL]at h3
  obtain ⟨b,hb2,hbm⟩:=zag (show k<(zaq g row.length g.length).2.length by omega)
  have hbf:=hso.2 b hbm
  have hba:=hbf.area
  have hsb:=ztt hso.2 k
  refine W.skip ?_
  refine xn ?_
  refine W.seq ?_
  refine W.block ?_
  refine W.r fun K hK=>?_
  simp(disch:=omega)only[↓RU,RV,RH,↓reduceIte,qE,reduceCtorEq,if_pos,↓RS,RG,qA,qM,qL,ty4,za5,zaa,za6,zkz hb2,zbt,zbe,zbh]
  apply hK;clear hK K
  refine W.k fun K hK=>?_
  simp(disch:=omega)only[↓RU,RV,RH,↓reduceIte,qE,reduceCtorEq,if_pos,qN,w64,↓RS,RG,qA,qM,qL,za5,zaa,za6,zkz hb2,zbe,zbt]
  refine zac.pc (yc7 (r:=b) (by omega) (by omega)) rfl (.inl rfl) ?_
  simp(disch:=omega)only[↓RU,RV,RH,↓reduceIte,qE,reduceCtorEq,if_pos,qN,w64,↓RS,RG,qA,qM,qL,za5,zaa,za6,zkz hb2,zbe,zbt]
  apply hK;clear hK K
  refine XbN ?_
  refine xn ?_
  refine W.k fun K hK=>?_
  simp(disch:=omega)only[↓RU,RV,RH,↓reduceIte,qE,reduceCtorEq,if_pos,w64,↓RS,RG,qA,qM,qL,zaa]
  apply hK;clear hK K
  refine xn ?_
  refine ⟨(zaq g row.length g.length).2.length - (k+1),by omega,8,k+1,_,rfl,by omega,?_,rfl⟩
  simp [Env.put,Env.of,zrv hb2]
 try simp only[RL]at h3
 obtain rfl:k=(zaq g row.length g.length).2.length:=by omega
 rw [List.take_length]
 refine W.exit ?_
 refine xe ?_
 refine xe ?_
 refine XBlock.hit ?_
 refine xn ?_
 refine W.seq_draw (by kernel_rfl) fun K hK=>?_
 obtain ⟨zr,hzr,hzl,-⟩:=(yg7 hg).at_ (i:=0) (j:=0) (by omega) (by omega)
 have hZl:=zc0 (g:=g) (nw:=row.length) g.length
 have hpr:=Nat.mul_le_mul hgl.2 hb.2
 simp(disch:=omega)only[↓RU,RV,RH,↓reduceIte,qE,reduceCtorEq,if_pos,qN,w64,↓RS,RG,qA,qM,qL,ty8,zaa,hZl,hzl]
 refine zac.pc (zqe (zez g row.length g.length) (zaq g row.length g.length).2) (zas (zlh (f:=6) rfl rfl (zc0 _) rfl) rfl) (.inl rfl) ?_
 simp(disch:=omega)only[↓RU,RV,RH,↓reduceIte,qE,reduceCtorEq,if_pos,qN,w64,↓RS,RG,qA,qM,qL,ty8,zaa,hZl,hzl]
 refine zac.pc (zvm (g:=(zez g row.length g.length)) hzr (zaq g row.length g.length).2) (zas (zlh (f:=6) rfl rfl (zc0 _) rfl) rfl) (.inl rfl) ?_
 simp(disch:=omega)only[↓RU,RV,RH,↓reduceIte,qE,reduceCtorEq,if_pos,qN,w64,↓RS,RG,qA,qM,qL,ty8,zaa,hZl,hzl]
 apply hK;clear hK K
 refine W.ret ?_
 refine Br rfl ?_
 have hok:okS g=true:=by unfold okS stG; rw [hw0,zum.2 (by rw [hw0]; exact hg)]; simp; omega
 rw [zes,hok,if_pos rfl]
 unfold stG zG zl5 stG
 rw [hw0]
 refine zke (k:=9) (zlh (f:=5) rfl rfl (zc0 _) rfl) ?_
 have he:(z4x (zaq g row.length g.length).2 == (g.length:Int)*row.length)=decide (z4x (zaq g row.length g.length).2=((g.length*row.length:Nat):Int)):=by rw [Int.natCast_mul]; rfl
 rw [← he]
 rfl
def zvq (t:Txt):List Int:=t.map fun c=>(c.toNat:Int)
def zb6 (p:List Txt):List (List Int):=p.map zvq
def zhv (p:List Txt):Bool:=p.all fun r=>r.all zc5
def zuw (p:List Txt):PV:=if zhv p then zes (zb6 p) else .tup [.nilp,.bool false]
def okB (p:List Txt):Bool:=zhv p && okS (zb6 p)
def gP (p:List Txt):List (List Int):=zG (zb6 p)
def rP (p:List Txt):List Rect:=(stG (zb6 p)).2
theorem zki (t:Txt):(zvq t).length=t.length:=by simp [zvq]
theorem z8n {t:Txt} {k:Nat} {c:UInt8} (h:t[k]?=some c):zvq (t.take (k+1))=zvq (t.take k)++[(c.toNat:Int)]:=by simp [zvq,tk h]
theorem z4e {p:List Txt} {i:Nat} {t:Txt} (h:p[i]?=some t):zb6 (p.take (i+1))=zb6 (p.take i)++[zvq t]:=by simp [zb6,tk h]
theorem zd4 (p:List Txt):(zb6 p).length=p.length:=by simp [zb6]
theorem zqr {p:List Txt} {r:Txt} {c:UInt8} (hr:r∈p) (hc:c∈r) (h:zc5 c=false):zhv p=false:=by
 unfold zhv
 rw [List.all_eq_false]
 refine ⟨r,hr,?_⟩
 rw [Bool.not_eq_true,List.all_eq_false]
 exact ⟨c,hc,by rw [h]; exact Bool.false_ne_true⟩
theorem zty {g:List (List Int)} {i:Nat} (hi:i<6) {s:List Int × List Rect} (hs:zr9 s.1 s.2) {n:Nat} (hn:n≤6):∀ j,j≤n→∀ z∈zn3 g i s j,0≤z∧z≤s.1.length+n
 | 0,_,z,h=>by simp [zn3]at h
 | j+1,hj,z,h=>by
  simp only[zn3,List.mem_append,List.mem_singleton]at h
  rcases h with h | rfl
  ·exact zty hi hs hn j (by omega) z h
  have h1:=zhu (ks:=(zdw g i s j).1) (z:=gz g i j)
  obtain ⟨-,h2,-,-⟩:=zm0 (g:=g) hi hs j (by omega)
  omega
theorem zlt {g:List (List Int)} {nw:Nat} (hw:nw≤6) (hw1:1≤nw):∀ i,i≤6→∀ r∈zez g nw i,∀ z∈r,0≤z∧z≤100
 | 0,_,r,h=>by simp [zez]at h
 | i+1,hi,r,h=>by
  simp only[zez,List.mem_append,List.mem_singleton]at h
  rcases h with h | rfl
  ·exact zlt hw hw1 i (by omega) r h
  intro z hz
  obtain ⟨h1,h2,-⟩:=zgb (g:=g) hw hw1 i (by omega)
  have:=zty (g:=g) (i:=i) (by omega) h1 hw nw (qR _) z hz
  omega
theorem z7j {g:List (List Int)} (h:okS g=true):GW g g.length (w0 g):=by
 unfold okS at h
 rw [qB]at h
 exact zum.1 h.1
theorem yh3 {g:List (List Int)} (h:okS g=true):GW (zG g) g.length (w0 g):=yg7 (z7j h)
theorem ybs {g:List (List Int)} (h:okS g=true):∀ r∈zG g,∀ z∈r,0≤z∧z≤100:=by
 obtain ⟨-,-,h1,h2,h3,h4⟩:=z7j h
 exact zlt h4 h3 _ h2
theorem zlm {g:List (List Int)} (h:okS g=false):zes g = .tup [.nilp,.bool false]:=by rw [zes,h]; rfl
theorem zjs {g:List (List Int)} (h:okS g=true):zes g = .tup [zaz (zG g) (stG g).2,.bool (zl5 g)]:=by rw [zes,h]; rfl
theorem z4k {S:Store} {lo k:Nat} (l:List (List Int)):(l.map eInts).mapM (rfz S lo (k+1))=some (l.map eInts):=zu1 (fun _=>rfl) l
theorem yaz {p:List Txt} (h:okB p=false):zuw p = .tup [.nilp,.bool false]:=by
 unfold okB at h
 unfold zuw
 cases hl:zhv p with
 | false=>rfl
 | true=>rw [hl,Bool.true_and]at h; rw [if_pos rfl,zlm h]
theorem z79 {p:List Txt} (h:okB p=true):zuw p = .tup [zaz (gP p) (rP p),.bool (zl5 (zb6 p))]:=by
 unfold okB at h
 rw [qB]at h
 rw [zuw,if_pos h.1,zjs h.2]
 rfl
theorem z1u {p:List Txt} (h:okB p=true):GW (gP p) p.length (w0 (zb6 p)):=by
 unfold okB at h
 rw [qB]at h
 have:=yh3 h.2
 rwa [zd4]at this
theorem z7i {p:List Txt} (h:okB p=true):∀ r∈gP p,∀ z∈r,0≤z∧z≤100:=by
 unfold okB at h
 rw [qB]at h
 exact ybs h.2
theorem zym (g:List (List Int)):(zfz g).length=g.length:=by simp [zfz]
def zqc (p:List Txt):Bool:=zl5 (zb6 p) && decide (zfz (gP p)=p)
def zht (p:List Txt):Bool:=okB p && zqc p
def zdj (p:List Txt):Bool:=zht p && decide (zxp (gP p) 4 (w0 (zb6 p)) p.length=0)
theorem zqy {p:List Txt} (h:okB p=true):(rP p).length≤9:=by
 unfold okB okS at h
 simp only[qB,decide_eq_true_eq]at h
 exact h.2.2
theorem znq {p:List Txt} (h:okB p=true):1≤(rP p).length:=by
 unfold okB at h
 rw [qB]at h
 obtain ⟨-,-,h1,h2,h3,h4⟩:=z7j h.2
 obtain ⟨k1,-,k3⟩:=zgb (g:=zb6 p) h4 h3 _ h2
 have:=k1.1
 have:=k3 h1
 unfold rP stG
 omega
theorem z4r {g:List (List Int)} (hsm:g.length<2147483648) (hsr:∀ r∈g,r.length<2147483648) (h:okS g=false):PC Tryz.prog 56 [ze7 g] (.tup [.nilp,.bool false]) false:=by
 rw [← zlm h]; exact zto hsm hsr
theorem z0a {g:List (List Int)} (hsm:g.length<2147483648) (hsr:∀ r∈g,r.length<2147483648) (h:okS g=true):PC Tryz.prog 56 [ze7 g] (.tup [zaz (zG g) (stG g).2,.bool (zl5 g)]) false:=by
 rw [← zjs h]; exact zto hsm hsr
theorem z8a {p:List Txt} (hs:Sm p):PC Tryz.prog 117 [zay p] (zuw p) false:=by
 have hp:=hs.rows
 refine PC.of ⟨Tryz.func117,by kernel_rfl,rfl,by kernel_rfl⟩ zap mixed (by show 1≤Tryz.f117.ntmps; decide) ?_
 refine W.r fun K hK=>?_
 simp(disch:=omega)only[↓RU,RV,RH,↓reduceIte,qE,reduceCtorEq,if_pos,↓RS,RG,qA,qM,qL]
 apply hK;clear hK K
 refine W.r fun K hK=>?_
 simp(disch:=omega)only[↓RU,RV,RH,↓reduceIte,qE,reduceCtorEq,if_pos,↓RS,RG,qA,qM,qL,ty1,zad,zc8,zaa]
 apply hK;clear hK K
 refine W.joinZ [4] (fun vs S=>∃ tk:Nat,zhv p=true∧vs=[ze7 (zb6 p)]∧S=⟨[],tk⟩) ?_ ?_
 ·
  refine W.r fun K hK=>?_
  simp(disch:=omega)only[↓RU,RV,RH,↓reduceIte,qE,reduceCtorEq,if_pos,↓RS,RG,qA,qM,qL,ty6,zab]
  apply hK;clear hK K
  refine W.block ?_
  refine W.loopZ [4,11,12,13] (fun n vs S=>∃ i v0 tk:Nat,n=p.length - i∧i≤p.length∧((p.take i).all (fun r=>r.all zc5)=true)∧vs=[.loc 0 v0 0 i,zay p,.int .i64 p.length,.int .i64 i]∧S=⟨[.arr v0 31 1 ((zb6 (p.take i)).map eInts)],tk⟩) (p.length) ?_ ?_
  ·refine ⟨1,[.loc 0 0 0 0,zay p,.int .i64 p.length,.int .i64 0],⟨[.arr 0 31 1 ((zb6 (p.take 0)).map eInts)],1⟩,?_,?_,0,0,1,rfl,by omega,rfl,rfl,rfl⟩
   ·rfl
   rfl
  rintro n vs S - ⟨i,v0,tk,rfl,h_i,hall,rfl,rfl⟩
  refine W.r fun K hK=>?_
  simp(disch:=omega)only[↓RU,RV,RH,↓reduceIte,qE,reduceCtorEq,if_pos,w64,↓RS,RG,qA,qM,qL,zaa]
  apply hK;clear hK K
  refine W.seq ?_
  refine W.cond rfl (fun h=>?_) (fun h=>?_)
  ·try simp only[RL]at h
   obtain ⟨row,hrow,hrm⟩:=zag (show i<p.length by omega)
   have hrl:=hs.cols row hrm
   have hgk:(zb6 (p.take i)).length=i:=by rw [zd4,List.length_take]; omega
   have hgt:((zb6 (p.take i)).map eInts).take i=(zb6 (p.take i)).map eInts:=qT (by rw [List.length_map]; omega)
   refine W.skip ?_
   refine xn ?_
   refine W.seq ?_
   refine W.block ?_
   refine W.r fun K hK=>?_
   simp(disch:=omega)only[↓RU,RV,RH,↓reduceIte,qE,reduceCtorEq,if_pos,↓RS,RG,qA,qM,qL,ty6,zab,hrow]
   apply hK;clear hK K
   refine W.r fun K hK=>?_
   simp(disch:=omega)only[↓RU,RV,RH,↓reduceIte,qE,reduceCtorEq,if_pos,↓RS,RG,qA,qM,qL,zad,zaa]
   apply hK;clear hK K
   refine W.seq ?_
   refine W.r fun K hK=>?_
   simp(disch:=omega)only[↓RU,RV,RH,↓reduceIte,qE,reduceCtorEq,if_pos,w64,↓RS,RG,qA,qM,qL,ty7,zab,zce]
   apply hK;clear hK K
   refine W.block ?_
   refine W.loop [4,11,12,13,7,19,20,21] (fun n vs S=>∃ k v1 t:Nat,n=row.length - k∧k≤row.length∧((row.take k).all zc5=true)∧vs=[.loc 0 v0 0 i,zay p,.int .i64 p.length,.int .i64 i,.loc 1 v1 0 k,.sl (row.map eB) row.length,.int .i64 row.length,.int .i64 k]∧S=⟨[.arr v0 31 1 ((zb6 (p.take i)).map eInts),.arr v1 3 1 ((zvq (row.take k)).map (.int .i64))],t⟩) (row.length) ?_ ?_
   ·refine ⟨2,0,_,_,rfl,Nat.zero_le _,rfl,?_,rfl⟩
    simp [Env.put,Env.of]
   rintro n vs S - ⟨k,v1,t,rfl,h_k,hrk,rfl,rfl⟩
   refine W.r fun K hK=>?_
   simp(disch:=omega)only[↓RU,RV,RH,↓reduceIte,qE,reduceCtorEq,if_pos,w64,↓RS,RG,qA,qM,qL,zaa]
   apply hK;clear hK K
   refine W.seq ?_
   refine W.cond rfl (fun h1=>?_) (fun h1=>?_)
   ·try simp only[RL]at h1
    obtain ⟨c,hc,hcm⟩:=zag (show k<row.length by omega)
    have hcb:=c.toNat_lt
    have hrowk:(zvq (row.take k)).length=k:=by rw [zki,List.length_take]; omega
    have hrowt:((zvq (row.take k)).map (PV.int .i64)).take k=(zvq (row.take k)).map (PV.int .i64):=qT (by rw [List.length_map]; omega)
    refine W.skip ?_
    refine xn ?_
    refine W.seq ?_
    refine W.block ?_
    refine W.r fun K hK=>?_
    simp(disch:=omega)only[↓RU,RV,RH,↓reduceIte,qE,reduceCtorEq,if_pos,↓RS,RG,qA,qM,qL,ty7,zce,hc]
    apply hK;clear hK K
    refine W.seq ?_
    refine W.r fun K hK=>?_
    rcases (show (c.toNat:Int)<97∨(c.toNat:Int)>122∨(97≤c.toNat∧c.toNat≤122) by omega) with hb | hb | hb
    ·skip
     have hd:decide ((c.toNat:Int)<97)=true:=decide_eq_true hb
     have hlc:zc5 c=false:=by unfold zc5; rw [decide_eq_false (by omega)]; rfl
     simp(disch:=omega)only[↓RU,RV,RH,↓reduceIte,qE,reduceCtorEq,if_pos,w64,↓RS,RG,qA,qM,qL,zce,hd]
     apply hK;clear hK K
     refine W.cond rfl (fun h2=>?_) (fun h2=>?_)
     ·try simp only[RL]at h2
      refine W.r fun K hK=>?_
      simp(disch:=omega)only[↓RU,RV,RH,↓reduceIte,qE,reduceCtorEq,if_pos,↓RS,RG,qA,qM,qL]
      apply hK;clear hK K
      refine W.ret ?_
      refine XThen.ret ?_
      refine XBlock.ret ?_
      refine XThen.ret ?_
      refine XThen.ret ?_
      refine XBlock.ret ?_
      refine XThen.ret ?_
      refine XBlock.ret ?_
      refine XThen.ret ?_
      refine XThen.ret ?_
      refine XBlock.ret ?_
      refine XThen.ret ?_
      refine Br rfl ?_
      rw [zuw,zqr hrm hcm hlc]
      rfl
     try simp only[RL]at h2
     exact absurd h2 (by simp)
    ·skip
     have hd:decide ((c.toNat:Int)<97)=false:=decide_eq_false (by omega)
     have hd2:decide ((c.toNat:Int)>122)=true:=decide_eq_true hb
     have hlc:zc5 c=false:=by unfold zc5; rw [decide_eq_false (p:=c.toNat≤122) (by omega),Bool.and_false]
     simp(disch:=omega)only[↓RU,RV,RH,↓reduceIte,qE,reduceCtorEq,if_pos,w64,↓RS,RG,qA,qM,qL,zce,hd,hd2]
     apply hK;clear hK K
     refine W.cond rfl (fun h2=>?_) (fun h2=>?_)
     ·try simp only[RL]at h2
      refine W.r fun K hK=>?_
      simp(disch:=omega)only[↓RU,RV,RH,↓reduceIte,qE,reduceCtorEq,if_pos,↓RS,RG,qA,qM,qL]
      apply hK;clear hK K
      refine W.ret ?_
      refine XThen.ret ?_
      refine XBlock.ret ?_
      refine XThen.ret ?_
      refine XThen.ret ?_
      refine XBlock.ret ?_
      refine XThen.ret ?_
      refine XBlock.ret ?_
      refine XThen.ret ?_
      refine XThen.ret ?_
      refine XBlock.ret ?_
      refine XThen.ret ?_
      refine Br rfl ?_
      rw [zuw,zqr hrm hcm hlc]
      rfl
     try simp only[RL]at h2
     exact absurd h2 (by simp)
    skip
    have hd:decide ((c.toNat:Int)<97)=false:=decide_eq_false (by omega)
    have hd2:decide ((c.toNat:Int)>122)=false:=decide_eq_false (by omega)
    have hlc:zc5 c=true:=by unfold zc5; rw [decide_eq_true hb.1,decide_eq_true hb.2]; rfl
    simp(disch:=omega)only[↓RU,RV,RH,↓reduceIte,qE,reduceCtorEq,if_pos,w64,↓RS,RG,qA,qM,qL,zce,hd,hd2]
    apply hK;clear hK K
    refine W.cond rfl (fun h2=>?_) (fun h2=>?_)
    ·try simp only[RL]at h2
     exact absurd h2 (by simp)
    try simp only[RL]at h2
    refine W.skip ?_
    refine xn ?_
    refine W.k fun K hK=>?_
    simp(disch:=omega)only[↓RU,RV,RH,↓reduceIte,qE,reduceCtorEq,if_pos,w64,↓RS,RG,qA,qM,qL,zad,zaa,zce,hrowk,hrowt,qR]
    apply hK;clear hK K
    refine XbN ?_
    refine xn ?_
    refine W.k fun K hK=>?_
    simp(disch:=omega)only[↓RU,RV,RH,↓reduceIte,qE,reduceCtorEq,if_pos,w64,↓RS,RG,qA,qM,qL,zaa]
    apply hK;clear hK K
    refine xn ?_
    refine ⟨row.length - (k+1),by omega,2,k+1,t+1,t+2,rfl,by omega,zsc hc hrk hlc,?_,?_⟩
    ·simp [Env.put,Env.of]
    simp [zck,z8n hc]
   try simp only[RL]at h1
   obtain rfl:k=row.length:=by omega
   have hra:row.all zc5=true:=by rw [List.take_length]at hrk; exact hrk
   have hrz:=zki row
   rw [List.take_length]
   generalize hYe:zvq row=Y at hrz
   have hYt:(Y.map (PV.int .i64)).take row.length=Y.map (PV.int .i64):=qT (by rw [List.length_map]; omega)
   have hYE:eInts Y=PV.sl (Y.map (PV.int .i64)) row.length:=by rw [← hrz]
   refine W.exit ?_
   refine xe ?_
   refine xe ?_
   refine XBlock.hit ?_
   refine xn ?_
   refine W.k fun K hK=>?_
   simp(disch:=omega)only[↓RU,RV,RH,↓reduceIte,qE,reduceCtorEq,if_pos,↓RS,RG,qA,qM,qL,ty1,zad,zc8,zaa,hgk,hgt,qR]
   apply hK;clear hK K
   refine XbN ?_
   refine xn ?_
   refine W.k fun K hK=>?_
   simp(disch:=omega)only[↓RU,RV,RH,↓reduceIte,qE,reduceCtorEq,if_pos,w64,↓RS,RG,qA,qM,qL,zaa]
   apply hK;clear hK K
   refine xn ?_
   refine ⟨p.length - (i+1),by omega,1,[.loc 0 (t+1) 0 (i+1),zay p,.int .i64 p.length,.int .i64 (i+1)],⟨[.arr (t+1) 31 1 ((zb6 (p.take (i+1))).map eInts)],(t+2)⟩,?_,?_,(i+1),(t+1),(t+2),rfl,by omega,zsc hrow hall hra,rfl,rfl⟩
   ·simp [-qU,Store.frz,zcq,zc4,za3,zb9,zbg,zb8,zc2,zbj,zbn,zbk,za2,za4,zca,zbm,zb7,zbi,Env.put,Env.of,zae,zbf,qP,qC]
   simp [-qU,Store.frz,zcq,zc4,za3,zb9,zbg,zb8,zc2,zbj,zbn,zbk,za2,za4,zca,zbm,zb7,zbi,Env.put,Env.of,zae,zbf,qP,qC,z4e hrow,hYe,hYt,hYE,hrz]
  try simp only[RL]at h
  refine W.exit ?_
  refine xe ?_
  refine xe ?_
  refine XBlock.hit ?_
  refine xn ?_
  obtain rfl:i=p.length:=by omega
  rw [List.take_length]at hall ⊢
  have hgt2:((zb6 p).map eInts).take p.length=(zb6 p).map eInts:=qT (by simp [zb6])
  have hgE:ze7 (zb6 p)=PV.sl ((zb6 p).map eInts) p.length:=by rw [← zd4 p]
  refine ⟨0,[ze7 (zb6 p)],⟨[],tk⟩,?_,?_,tk,hall,rfl,rfl⟩
  ·simp [-qU,Store.frz,zcq,zc4,za3,zb9,zbg,zb8,zc2,zbj,zbn,zbk,za2,za4,zca,zbm,zb7,zbi,Env.put,Env.of,zae,zbf,qP,qC,hgt2,hgE,zd4,z4k]
  simp [-qU,Store.frz,zcq,zc4,za3,zb9,zbg,zb8,zc2,zbj,zbn,zbk,za2,za4,zca,zbm,zb7,zbi,Env.put,Env.of,zae,zbf,qP,qC]
 rintro vs S - ⟨tk,hlet,rfl,rfl⟩
 refine W.r fun K hK=>?_
 cases hok:okS (zb6 p)
 ·skip
  simp(disch:=omega)only[↓RU,RV,RH,↓reduceIte,qE,reduceCtorEq,if_pos,qN,↓RS,RG,qA,qM,qL]
  refine zac.pc (z4r (g:=zb6 p) (by rw [zd4]; omega) (fun r hr=>by obtain ⟨t,ht,rfl⟩:=List.mem_map.1 hr; rw [zki]; exact hs.cols t ht) hok) rfl (.inr rfl) ?_
  simp(disch:=omega)only[↓RU,RV,RH,↓reduceIte,qE,reduceCtorEq,if_pos,qN,↓RS,RG,qA,qM,qL]
  apply hK;clear hK K
  refine W.ret ?_
  refine Br rfl ?_
  rw [zuw,hlet,if_pos rfl,zlm hok]
  rfl
 skip
 simp(disch:=omega)only[↓RU,RV,RH,↓reduceIte,qE,reduceCtorEq,if_pos,qN,↓RS,RG,qA,qM,qL]
 refine zac.pc (z0a (g:=zb6 p) (by rw [zd4]; omega) (fun r hr=>by obtain ⟨t,ht,rfl⟩:=List.mem_map.1 hr; rw [zki]; exact hs.cols t ht) hok) rfl (.inr rfl) ?_
 simp(disch:=omega)only[↓RU,RV,RH,↓reduceIte,qE,reduceCtorEq,if_pos,qN,↓RS,RG,qA,qM,qL]
 apply hK;clear hK K
 refine W.ret ?_
 refine Br rfl ?_
 rw [zuw,hlet,if_pos rfl,zjs hok]
 rfl
theorem yej {p:List Txt} (hs:Sm p) (h:okB p=false):PC Tryz.prog 117 [zay p] (.tup [.nilp,.bool false]) false:=by
 rw [← yaz h]; exact z8a hs
theorem ya0 {p:List Txt} (hs:Sm p) (h:okB p=true):PC Tryz.prog 117 [zay p] (.tup [zaz (gP p) (rP p),.bool (zl5 (zb6 p))]) false:=by
 rw [← z79 h]; exact z8a hs
theorem z3m {p:List Txt} (hs:Sm p) (h:okB p=false):PC Tryz.prog 70 [zay p] (.tup [.nilp,.bool false]) false:=by
 refine PC.of ⟨Tryz.func70,by kernel_rfl,rfl,by kernel_rfl⟩ zap mixed (by show 1≤Tryz.f70.ntmps; decide) ?_
 refine W.r fun K hK=>?_
 simp(disch:=omega)only[↓RU,RV,RH,↓reduceIte,qE,reduceCtorEq,if_pos]
 apply hK;clear hK K
 refine W.r fun K hK=>?_
 simp(disch:=omega)only[↓RU,RV,RH,↓reduceIte,qE,reduceCtorEq,if_pos,qN]
 refine zac.pc (yej hs h) rfl (.inr rfl) ?_
 simp(disch:=omega)only[↓RU,RV,RH,↓reduceIte,qE,reduceCtorEq,if_pos,qN]
 apply hK;clear hK K
 refine W.r fun K hK=>?_
 simp(disch:=omega)only[↓RU,RV,RH,↓reduceIte,qE,reduceCtorEq,if_pos,qN]
 apply hK;clear hK K
 refine W.ret ?_
 refine Br rfl ?_
 rfl
theorem zzd {p:List Txt} (hs:Sm p) (h:okB p=true):PC Tryz.prog 70 [zay p] (.tup [zaz (gP p) (rP p),.bool (zqc p)]) false:=by
 have hg:=z1u h
 have hz:=z7i h
 have hrows:=hs.rows
 refine PC.of ⟨Tryz.func70,by kernel_rfl,rfl,by kernel_rfl⟩ zap mixed (by show 1≤Tryz.f70.ntmps; decide) ?_
 refine W.r fun K hK=>?_
 simp(disch:=omega)only[↓RU,RV,RH,↓reduceIte,qE,reduceCtorEq,if_pos]
 apply hK;clear hK K
 refine W.r fun K hK=>?_
 simp(disch:=omega)only[↓RU,RV,RH,↓reduceIte,qE,reduceCtorEq,if_pos,qN]
 refine zac.pc (ya0 hs h) rfl (.inr rfl) ?_
 simp(disch:=omega)only[↓RU,RV,RH,↓reduceIte,qE,reduceCtorEq,if_pos,qN]
 apply hK;clear hK K
 refine W.r fun K hK=>?_
 cases hf:zl5 (zb6 p)
 ·skip
  simp(disch:=omega)only[↓RU,RV,RH,↓reduceIte,qE,reduceCtorEq,if_pos,qN]
  apply hK;clear hK K
  refine W.ret ?_
  refine Br rfl ?_
  rw [zqc,hf]
  rfl
 skip
 simp(disch:=omega)only[↓RU,RV,RH,↓reduceIte,qE,reduceCtorEq,if_pos,qN,hf]
 refine zac.pc (ye8 hg (rP p) hz) rfl (.inl rfl) ?_
 simp(disch:=omega)only[↓RU,RV,RH,↓reduceIte,qE,reduceCtorEq,if_pos,qN,hf]
 refine zac.pc (zwg (p:=zfz (gP p)) (q:=p) (by rw [zym,hg.1]; omega) hs.rows) rfl (.inl rfl) ?_
 simp(disch:=omega)only[↓RU,RV,RH,↓reduceIte,qE,reduceCtorEq,if_pos,qN,hf]
 apply hK;clear hK K
 refine W.ret ?_
 refine Br rfl ?_
 rw [zqc,hf]
 rfl
theorem z3l {p:List Txt} (hs:Sm p):∃ x,PC Tryz.prog 70 [zay p] (.tup [x,.bool (zht p)]) false∧(zht p=true→x=zaz (gP p) (rP p))∧∀ (S:Store) (k:Nat),reify S true (k+1) x=some x:=by
 unfold zht
 cases h:okB p with
 | false=>exact ⟨_,z3m hs h,(fun h=>by cases h),fun _ _=>rfl⟩
 | true=>exact ⟨_,zzd hs h,fun _=>rfl,fun _ _=>rfl⟩
theorem zzu {p:List Txt} (hs:Sm p) {x:PV} (hx:PC Tryz.prog 70 [zay p] (.tup [x,.bool (zht p)]) false) (hy:zht p=true→x=zaz (gP p) (rP p)) (hr:∀ (S:Store) (k:Nat),reify S true (k+1) x=some x):PC Tryz.prog 32 [zay p] (.tup [x,.bool (zdj p)]) false:=by
 refine PC.of ⟨Tryz.func32,by kernel_rfl,rfl,by kernel_rfl⟩ zap mixed (by show 1≤Tryz.f32.ntmps; decide) ?_
 refine W.r fun K hK=>?_
 simp(disch:=omega)only[↓RU,RV,RH,↓reduceIte,qE,reduceCtorEq,if_pos]
 apply hK;clear hK K
 refine W.r fun K hK=>?_
 simp(disch:=omega)only[↓RU,RV,RH,↓reduceIte,qE,reduceCtorEq,if_pos,qN]
 refine zac.pc (hx) rfl (.inr rfl) ?_
 simp(disch:=omega)only[↓RU,RV,RH,↓reduceIte,qE,reduceCtorEq,if_pos,qN]
 apply hK;clear hK K
 refine W.r fun K hK=>?_
 cases hf:zht p
 ·skip
  simp(disch:=omega)only[↓RU,RV,RH,↓reduceIte,qE,reduceCtorEq,if_pos,qN]
  apply hK;clear hK K
  refine W.ret ?_
  refine Br rfl ?_
  rw [zdj,hf]
  exact zke (k:=9) (hr _ 8) rfl
 skip
 have hxe:=hy hf
 subst hxe
 have hok:okB p=true:=by unfold zht at hf; rw [qB]at hf; exact hf.1
 have hg:=z1u hok
 simp(disch:=omega)only[↓RU,RV,RH,↓reduceIte,qE,reduceCtorEq,if_pos,qN,hf]
 refine zac.pc (z59 hg (rP p)) rfl (.inl rfl) ?_
 simp(disch:=omega)only[↓RU,RV,RH,↓reduceIte,qE,reduceCtorEq,if_pos,qN,hf]
 apply hK;clear hK K
 refine W.ret ?_
 refine Br rfl ?_
 rw [zdj,hf]
 rfl
theorem zra {p:List Txt} (h:zdj p=true):okB p=true∧zdj p=true:=by
 refine ⟨?_,h⟩
 unfold zdj zht at h
 simp only[qB]at h
 exact h.1.1
theorem zns {p:List Txt} (hs:Sm p):∃ x,PC Tryz.prog 32 [zay p] (.tup [x,.bool (zdj p)]) false∧(zdj p=true→x=zaz (gP p) (rP p))∧∀ (S:Store) (k:Nat),reify S true (k+1) x=some x:=by
 obtain ⟨x,h1,h2,h3⟩:=z3l hs
 refine ⟨x,zzu hs h1 h2 h3,fun h=>h2 ?_,h3⟩
 unfold zdj at h
 rw [qB]at h
 exact h.1
def Same (n:Nat) (M:List (List Bool)) (ms:List Nat):Prop:=Sq n M∧ms.length=n∧∀ a b,a<n→b<n→zc7 M a b=zt1 ms a b
theorem zl6 {n:Nat} {M:List (List Bool)} (h:Sq n M) {a b x y:Nat} {v:Bool} (ha:a<n) (hb:b<n):zc7 (z4q M a b v) x y=if x=a∧y=b then v else zc7 M x y:=by
 obtain ⟨row,hr,hl,-⟩:=h.at_ ha hb
 rw [zhm hr]
 unfold zc7
 rw [List.getElem?_set]
 by_cases hx:a=x
 ·subst hx
  rw [if_pos rfl,if_pos (by rw [h.1]; exact ha),Option.getD_some,List.getElem?_set,hr]
  by_cases hy:b=y
  ·subst hy
   rw [if_pos rfl,if_pos (by omega),if_pos ⟨rfl,rfl⟩]; rfl
  rw [if_neg hy,if_neg (fun h=>hy h.2.symm)]; rfl
 rw [if_neg hx,if_neg (fun h=>hx h.1.symm)]
theorem z0y {n:Nat} {M:List (List Bool)} (h:Sq n M) {k a:Nat} (hk:k<n) (ha:a<n):∀ i,i≤n→Sq n ((List.range i).foldl (clB k a) M) ∧
  ∀ x y,x<n→y<n→zc7 ((List.range i).foldl (clB k a) M) x y=if x=a∧y<i then zc7 M a y || (zc7 M a k && zc7 M k y) else zc7 M x y
 | 0,_=>⟨h,fun x y _ _=>by simp⟩
 | i+1,hi=>by
  obtain ⟨h1,h2⟩:=z0y h hk ha i (by omega)
  rw [zc1]
  generalize (List.range i).foldl (clB k a) M=X at h1 h2 ⊢
  refine ⟨h1.clB ha,fun x y hx hy=>?_⟩
  unfold clB
  rw [zl6 h1 ha (by omega),h2 a i ha (by omega),h2 a k ha hk,h2 k i hk (by omega),h2 x y hx hy]
  have e1:(if a=a∧k<i then zc7 M a k || (zc7 M a k && zc7 M k k) else zc7 M a k)=zc7 M a k:=by
   split
   ·cases zc7 M a k <;> simp
   rfl
  have e2:(if k=a∧i<i then zc7 M a i || (zc7 M a k && zc7 M k i) else zc7 M k i)=zc7 M k i:=by rw [if_neg (by omega)]
  have e3:(if a=a∧i<i then zc7 M a i || (zc7 M a k && zc7 M k i) else zc7 M a i)=zc7 M a i:=by rw [if_neg (by omega)]
  rw [e1,e2,e3]
  by_cases hxa:x=a
  ·subst hxa
   by_cases hyi:y=i
   ·subst hyi; rw [if_pos ⟨rfl,rfl⟩,if_pos ⟨rfl,by omega⟩]
   rw [if_neg (fun h=>hyi h.2)]
   by_cases hlt:y<i
   ·rw [if_pos ⟨rfl,hlt⟩,if_pos ⟨rfl,by omega⟩]
   rw [if_neg (fun h=>hlt h.2),if_neg (fun h=>hlt (by have:=h.2; omega))]
  rw [if_neg (fun h=>hxa h.1),if_neg (fun h=>hxa h.1),if_neg (fun h=>hxa h.1)]
theorem zvv {ms:List Nat} {a m x y:Nat} (ha:a<ms.length):zt1 (ms.set a m) x y=if x=a then m.testBit y else zt1 ms x y:=by
 unfold zt1
 rw [List.getElem?_set]
 by_cases h:a=x
 ·subst h; rw [if_pos rfl,if_pos ha,if_pos rfl]; rfl
 rw [if_neg h,if_neg (Ne.symm h)]
theorem z9s {c a:Nat} {ms:List Nat}:(yby c ms a).length=ms.length:=by unfold yby; split <;> simp
theorem Same.clA {n:Nat} {M:List (List Bool)} {ms:List Nat} (h:Same n M ms) {k a:Nat} (hk:k<n) (ha:a<n):Same n (clA n k M a) (yby k ms a):=by
 obtain ⟨h1,h2,h3⟩:=h
 obtain ⟨k1,k2⟩:=z0y h1 hk ha n (qR _)
 refine ⟨k1,by rw [z9s,h2],fun x y hx hy=>?_⟩
 unfold Fw.clA
 rw [k2 x y hx hy]
 obtain ⟨m,hm,-⟩:=zag (show a<ms.length by omega)
 obtain ⟨c,hc,-⟩:=zag (show k<ms.length by omega)
 have hak:zc7 M a k=m.testBit k:=by rw [h3 a k ha hk,zo2 hm]
 cases hb:m.testBit k with
 | true =>
  rw [z9t hm hc hb,zvv (by omega),hak,hb]
  by_cases hxa:x=a
  ·subst hxa
   rw [if_pos ⟨rfl,hy⟩,if_pos rfl,Nat.testBit_or,h3 x y hx hy,h3 k y hk hy,zo2 hm,zo2 hc,Bool.true_and]
  rw [if_neg (fun h=>hxa h.1),if_neg hxa,h3 x y hx hy]
 | false =>
  rw [yc5 hm hb,hak,hb]
  by_cases hxa:x=a
  ·subst hxa; rw [if_pos ⟨rfl,hy⟩,Bool.false_and,Bool.or_false,h3 x y hx hy]
  rw [if_neg (fun h=>hxa h.1),h3 x y hx hy]
theorem Same.fold {n:Nat} {f:List (List Bool)→Nat→List (List Bool)} {g:List Nat→Nat→List Nat}:∀ (i:Nat) {M:List (List Bool)} {ms:List Nat},i≤n→(∀ M ms j,j<n→Same n M ms→Same n (f M j) (g ms j))→Same n M ms→Same n ((List.range i).foldl f M) ((List.range i).foldl g ms)
 | 0,_,_,_,_,h=>h
 | i+1,M,ms,hi,hs,h=>by
  rw [zc1,zc1]
  exact hs _ _ i (by omega) (Same.fold i (by omega) hs h)
theorem Same.close {p:List Txt} {kind:Int} {n:Nat} {M:List (List Bool)} (h:Same n M (just p kind)):Same n (zf4 M) (allS p kind):=by
 unfold zf4 allS
 rw [h.1.1,h.2.1]
 exact Same.fold n (qR _) (fun _ _ k hk h=>Same.fold n (qR _) (fun _ _ a ha h=>h.clA hk ha) h) h
section
theorem zo3 {α:Type} {f g:α→Bool}:∀ {l:List α},(∀ x∈l,f x=true→g x=true)→(∃ x∈l,g x=true∧f x=false)→l.countP f<l.countP g
 | [],_,h=>by obtain ⟨x,hx,_⟩:=h; simp at hx
 | a::l,h1,h2=>by
  have hle:l.countP f≤l.countP g:=List.countP_mono_left fun x hx=>h1 x (by simp [hx])
  have ha:=h1 a (by simp)
  rw [List.countP_cons,List.countP_cons]
  obtain ⟨x,hx,k1,k2⟩:=h2
  rcases List.mem_cons.1 hx with rfl | hx
  ·rw [k1,k2]; simp; omega
  have:=zo3 (l:=l) (fun x hx=>h1 x (by simp [hx])) ⟨x,hx,k1,k2⟩
  cases hf:f a with
  | false=>simp; omega
  | true=>rw [ha hf]; simp; omega
def ahead (n:Nat) (rk:Nat→Nat) (b:Nat):Nat:=(List.range n).countP fun a=>decide (rk a<rk b)
theorem zo1 {n:Nat} {rk:Nat→Nat} {a b:Nat} (ha:a<n) (h:rk a<rk b):ahead n rk a<ahead n rk b :=
 zo3 (fun x _ hx=>by simp at hx ⊢; omega) ⟨a,by simpa using ha,by simpa using h,by simp⟩
theorem z5d {n:Nat} {rk:Nat→Nat} {b:Nat} (hb:b<n):ahead n rk b<n:=by
 have:=zo3 (l:=List.range n) (f:=fun a=>decide (rk a<rk b)) (g:=fun _=>true) (fun _ _ _=>rfl) ⟨b,by simpa using hb,rfl,by simp⟩
 simpa [ahead] using this
section
variable {M:List (List Bool)} {ms:List Nat} {ws:List Int} {n:Nat} {rk:Nat→Nat}
def beg (M:List (List Bool)) (ws:List Int) (n b:Nat):Int:=hvF M (HB M ws n) b n
def Ge (n:Nat) (o out:List Int):Prop:=∀ b,b<n→zjk o b≤zjk out b
theorem Ge.refl (o:List Int):Ge n o o:=fun _ _=>Int.le_refl _
theorem Ge.trans {a b c:List Int} (h:Ge n a b) (k:Ge n b c):Ge n a c:=fun x hx=>Int.le_trans (h x hx) (k x hx)
theorem z98 {l:List Int} {b y:Nat} {v:Int} (hb:b<l.length):zjk (l.set b v) y=if y=b then v else zjk l y:=by
 unfold zjk
 rw [List.getElem?_set]
 by_cases h:b=y
 ·subst h; rw [if_pos rfl,if_pos hb,if_pos rfl]; rfl
 rw [if_neg h,if_neg (Ne.symm h)]
theorem ybv (hu:Up M n rk) {b:Nat} (hb:b<n):HB M ws n b=beg M ws n b+zjk ws b:=yhb hu hb
theorem z6k {g:Nat→Int} {b:Nat}:∀ i,0≤hvF M g b i
 | 0=>by simp [hvF]
 | i+1=>by
  have:=z6k (g:=g) (b:=b) i
  rw [zo9]
  split <;> omega
end
end
def kk (lv:Bool):Int:=if lv then 1 else 0
theorem Same.orBit {n:Nat} {M:List (List Bool)} {ms:List Nat} (h:Same n M ms) {a b:Nat} (ha:a<n) (hb:b<n):Same n (z4q M a b true) (orBit ms a b):=by
 obtain ⟨h1,h2,h3⟩:=h
 obtain ⟨m,hm,-⟩:=zag (show a<ms.length by omega)
 rw [yak hm]
 refine ⟨h1.set ha,by simp [h2],fun x y hx hy=>?_⟩
 rw [zl6 h1 ha hb,zvv (by omega)]
 by_cases hxa:x=a
 ·subst hxa
  rw [if_pos rfl,Nat.testBit_or,Nat.testBit_two_pow,h3 x y hx hy,zo2 hm]
  by_cases hyb:y=b
  ·subst hyb; simp
  rw [if_neg (fun h=>hyb h.2),decide_eq_false (fun h=>hyb h.symm),Bool.or_false]
 rw [if_neg (fun h=>hxa h.1),if_neg hxa,h3 x y hx hy]
def Rm (n:Nat) (l:List Int):Prop:=∀ x∈l,0≤x∧x<n
theorem Same.relB {n:Nat} {a:Int} (ha:0≤a∧a<n):∀ {bs:List Int} {M:List (List Bool)} {ms:List Nat},Rm n bs→Same n M ms→Same n (relB a bs M) (ygc a.toNat ms bs)
 | [],_,_,_,h=>h
 | b::bs,M,ms,hb,h=>by
  have hb0:=hb b (by simp)
  exact Same.relB ha (bs:=bs) (fun x hx=>hb x (by simp [hx])) (h.orBit (by omega) (by omega))
theorem Same.relW {n:Nat} {bs:List Int} (hb:Rm n bs):∀ {la:List Int} {M:List (List Bool)} {ms:List Nat},Rm n la→Same n M ms→Same n (relW M la bs) (ygb bs ms la)
 | [],_,_,_,h=>h
 | a::la,M,ms,ha,h=>Same.relW hb (la:=la) (fun x hx=>ha x (by simp [hx])) (h.relB (ha a (by simp)) hb)
theorem Same.empty {n:Nat}:Same n (zcc n) (List.replicate n 0):=by
 refine ⟨zev n,by simp,fun a b ha hb=>?_⟩
 simp [zc7,zcc,zt1,ha,hb]
def sN:Nat→(Nat→Nat)→Nat
 | 0,_=>0
 | n+1,f=>sN n f+f n
theorem zer {f g:Nat→Nat}:∀ {n:Nat},(∀ i,i<n→f i=g i)→sN n f=sN n g
 | 0,_=>rfl
 | n+1,h=>by rw [sN,sN,zer (n:=n) fun i hi=>h i (by omega),h n (by omega)]
theorem z4o {f g:Nat→Nat}:∀ {n:Nat},(∀ i,i<n→f i≤g i)→sN n f≤sN n g
 | 0,_=>qR _
 | n+1,h=>by
  have:=z4o (n:=n) fun i hi=>h i (by omega)
  have:=h n (by omega)
  simp only[sN]; omega
theorem ya4 {f g:Nat→Nat}:∀ {n:Nat},(∀ i,i<n→f i≤g i)→sN n f=sN n g→∀ i,i<n→f i=g i
 | 0,_,_,i,hi=>by omega
 | n+1,h,e,i,hi=>by
  have h1:=z4o (n:=n) fun i hi=>h i (by omega)
  have h2:=h n (by omega)
  simp only[sN]at e
  by_cases hin:i=n
  ·subst hin; omega
  exact ya4 (n:=n) (fun i hi=>h i (by omega)) (by omega) i (by omega)
theorem zro:∀ n,sN n (fun _=>0)=0
 | 0=>rfl
 | n+1=>by rw [sN,zro n]
theorem z2r:∀ n,sN n (fun _=>1)=n
 | 0=>rfl
 | n+1=>by rw [sN,z2r n]
theorem z2q (c:Nat):∀ n,sN n (fun _=>c)=n*c
 | 0=>by simp [sN]
 | n+1=>by rw [sN,z2q c n,Nat.succ_mul]
theorem ycp {f g:Nat→Nat}:∀ n,sN n (fun i=>f i+g i)=sN n f+sN n g
 | 0=>rfl
 | n+1=>by rw [sN,sN,sN,ycp n]; omega
theorem zu7 {f:Nat→Nat→Nat} {m:Nat}:∀ n,sN n (fun i=>sN m (fun j=>f i j))=sN m (fun j=>sN n (fun i=>f i j))
 | 0=>by simp only[sN]; rw [zro]
 | n+1=>by
  simp only[sN]
  rw [zu7 n,ycp]
theorem z8p {f:Nat→Nat} {c:Nat}:∀ n,sN n (fun i=>f i*c)=sN n f*c
 | 0=>by simp [sN]
 | n+1=>by rw [sN,sN,z8p n,Nat.add_mul]
def b1 (b:Bool):Nat:=if b then 1 else 0
def cnt (H W:Nat) (f:Nat→Nat→Bool):Nat:=sN H fun i=>sN W fun j=>b1 (f i j)
theorem yc8 {a b:Bool} (h:a=true→b=true):b1 a≤b1 b:=by
 cases a with
 | false=>simp [b1]
 | true=>rw [h rfl]; exact qR _
theorem yfq {a b:Bool} (h:b1 a=b1 b):a=b:=by cases a <;> cases b <;> simp [b1]at h ⊢
theorem yfz {H W:Nat} {f g:Nat→Nat→Bool} (h:∀ i j,i<H→j<W→f i j=true→g i j=true):cnt H W f≤cnt H W g :=
 z4o fun i hi=>z4o fun j hj=>yc8 (h i j hi hj)
theorem yfy {H W:Nat} {f g:Nat→Nat→Bool} (h:∀ i j,i<H→j<W→f i j=true→g i j=true) (e:cnt H W f=cnt H W g):∀ i j,i<H→j<W→f i j=g i j:=by
 intro i j hi hj
 have h1:=ya4 (n:=H) (fun i hi=>z4o fun j hj=>yc8 (h i j hi hj)) e i hi
 exact yfq (ya4 (n:=W) (fun j hj=>yc8 (h i j hi hj)) h1 j hj)
theorem z5s {H W:Nat} {f g:Nat→Nat→Bool} (h:∀ i j,i<H→j<W→f i j=g i j):cnt H W f=cnt H W g :=
 zer fun i hi=>zer fun j hj=>by rw [h i j hi hj]
theorem zya {a k:Nat}:∀ {n:Nat},a+k≤n→sN n (fun i=>b1 (decide (a≤i) && decide (i<a+k)))=k
 | 0,h=>by simp [sN]; omega
 | n+1,h=>by
  rw [sN]
  by_cases hn:a+k≤n
  ·rw [zya hn,decide_eq_false (p:=n<a+k) (by omega),Bool.and_false]; rfl
  have hnk:n+1=a+k:=by omega
  cases k with
  | zero =>
   have:sN n (fun i=>b1 (decide (a≤i) && decide (i<a+0)))=sN n (fun _=>0):=zer fun i hi=>by
    rw [decide_eq_false (p:=a≤i) (by omega)]; rfl
   rw [this,zro,decide_eq_false (p:=a≤n) (by omega)]; rfl
  | succ k =>
   have e:sN n (fun i=>b1 (decide (a≤i) && decide (i<a+(k+1))))=sN n (fun i=>b1 (decide (a≤i) && decide (i<a+k))):=zer fun i hi=>by
    congr 2
    apply decide_eq_decide.2; omega
   rw [e,zya (k:=k) (by omega),decide_eq_true (p:=a≤n) (by omega),decide_eq_true (p:=n<a+(k+1)) (by omega)]
   rfl
def inR (t l h w i j:Nat):Bool:=(decide (t≤i) && decide (i<t+h)) && (decide (l≤j) && decide (j<l+w))
theorem yfp {a b:Bool}:b1 (a && b)=b1 a*b1 b:=by cases a <;> cases b <;> rfl
theorem z91 {H W t l h w:Nat} (h1:t+h≤H) (h2:l+w≤W):cnt H W (inR t l h w)=h*w:=by
 unfold cnt inR
 have e:(fun i=>sN W fun j=>b1 ((decide (t≤i) && decide (i<t+h)) && (decide (l≤j) && decide (j<l+w))))=fun i=>b1 (decide (t≤i) && decide (i<t+h))*w:=by
  funext i
  have:(fun j=>b1 ((decide (t≤i) && decide (i<t+h)) && (decide (l≤j) && decide (j<l+w))))=fun j=>b1 (decide (l≤j) && decide (j<l+w))*b1 (decide (t≤i) && decide (i<t+h)):=by
   funext j; rw [yfp,Nat.mul_comm]
  rw [this,z8p,zya h2,Nat.mul_comm]
 rw [e,z8p,zya h1]
theorem zy6 {H W n:Nat} {z:Nat→Nat→Nat} (hz:∀ i j,i<H→j<W→z i j<n):sN n (fun r=>cnt H W fun i j=>decide (z i j=r))=H*W:=by
 unfold cnt
 rw [zu7]
 have:sN H (fun i=>sN n fun r=>sN W fun j=>b1 (decide (z i j=r)))=sN H (fun _=>W):=zer fun i hi=>by
  rw [zu7]
  have:sN W (fun j=>sN n fun r=>b1 (decide (z i j=r)))=sN W (fun _=>1):=zer fun j hj=>by
   have h1:=hz i j hi hj
   have e:sN n (fun r=>b1 (decide (z i j=r)))=sN n (fun r=>b1 (decide (z i j≤r) && decide (r<z i j+1))):=zer fun r hr=>by
    congr 1
    rw [Bool.eq_iff_iff]
    simp only[qB,decide_eq_true_eq]
    omega
   rw [e,zya (by omega)]
  rw [this,z2r]
 rw [this,z2q]
structure Hull (pr:Nat→Nat→Prop) (t l lo ri:Int):Prop where
 inn:∀ a b,pr a b→t≤a∧(a:Int)≤lo∧l≤b∧(b:Int)≤ri
 at_:∃ a b:Nat,pr a b∧(a:Int)=t
 al:∃ a b:Nat,pr a b∧(b:Int)=l
 ao:∃ a b:Nat,pr a b∧(a:Int)=lo
 ar:∃ a b:Nat,pr a b∧(b:Int)=ri
theorem Hull.uniq {pr:Nat→Nat→Prop} {t l lo ri t' l' lo' ri':Int} (h:Hull pr t l lo ri) (k:Hull pr t' l' lo' ri'):t=t'∧l=l'∧lo=lo'∧ri=ri':=by
 obtain ⟨a1,b1,p1,e1⟩:=h.at_
 obtain ⟨a2,b2,p2,e2⟩:=h.al
 obtain ⟨a3,b3,p3,e3⟩:=h.ao
 obtain ⟨a4,b4,p4,e4⟩:=h.ar
 obtain ⟨a5,b5,p5,e5⟩:=k.at_
 obtain ⟨a6,b6,p6,e6⟩:=k.al
 obtain ⟨a7,b7,p7,e7⟩:=k.ao
 obtain ⟨a8,b8,p8,e8⟩:=k.ar
 have q1:=k.inn _ _ p1
 have q2:=k.inn _ _ p2
 have q3:=k.inn _ _ p3
 have q4:=k.inn _ _ p4
 have q5:=h.inn _ _ p5
 have q6:=h.inn _ _ p6
 have q7:=h.inn _ _ p7
 have q8:=h.inn _ _ p8
 omega
theorem Hull.congr {pr pr':Nat→Nat→Prop} {t l lo ri:Int} (h:Hull pr t l lo ri) (e:∀ a b,pr a b↔pr' a b):Hull pr' t l lo ri:=by
 have:pr=pr':=by funext a b; exact propext (e a b)
 exact this ▸ h
theorem Hull.add {pr:Nat→Nat→Prop} {t l lo ri:Int} (h:Hull pr t l lo ri) (i j:Nat):Hull (fun a b=>pr a b∨(a=i∧b=j)) (min t i) (min l j) (max lo i) (max ri j):=by
 refine ⟨?_,?_,?_,?_,?_⟩
 ·rintro a b (p | ⟨rfl,rfl⟩)
  ·have:=h.inn a b p; omega
  omega
 ·by_cases e:t≤i
  ·obtain ⟨a,b,p,q⟩:=h.at_; exact ⟨a,b,.inl p,by omega⟩
  exact ⟨i,j,.inr ⟨rfl,rfl⟩,by omega⟩
 ·by_cases e:l≤j
  ·obtain ⟨a,b,p,q⟩:=h.al; exact ⟨a,b,.inl p,by omega⟩
  exact ⟨i,j,.inr ⟨rfl,rfl⟩,by omega⟩
 ·by_cases e:(i:Int)≤lo
  ·obtain ⟨a,b,p,q⟩:=h.ao; exact ⟨a,b,.inl p,by omega⟩
  exact ⟨i,j,.inr ⟨rfl,rfl⟩,by omega⟩
 by_cases e:(j:Int)≤ri
 ·obtain ⟨a,b,p,q⟩:=h.ar; exact ⟨a,b,.inl p,by omega⟩
 exact ⟨i,j,.inr ⟨rfl,rfl⟩,by omega⟩
theorem Hull.one {pr:Nat→Nat→Prop} (h:∀ a b,¬ pr a b) (i j:Nat):Hull (fun a b=>pr a b∨(a=i∧b=j)) i j i j:=by
 refine ⟨?_,⟨i,j,.inr ⟨rfl,rfl⟩,rfl⟩,⟨i,j,.inr ⟨rfl,rfl⟩,rfl⟩,⟨i,j,.inr ⟨rfl,rfl⟩,rfl⟩,⟨i,j,.inr ⟨rfl,rfl⟩,rfl⟩⟩
 rintro a b (p | ⟨rfl,rfl⟩)
 ·exact absurd p (h a b)
 omega
def Gone (W i j a b:Nat):Prop:=b<W∧(a<i∨(a=i∧b<j))
theorem zl7 {W i j a b:Nat} (hj:j<W):Gone W i (j+1) a b↔Gone W i j a b∨(a=i∧b=j):=by unfold Gone; omega
theorem z1k {W i a b:Nat}:Gone W i W a b↔Gone W (i+1) 0 a b:=by unfold Gone; omega
def Val (z:Nat→Nat→Int) (W i j:Nat) (v:Int) (a b:Nat):Prop:=z a b=v∧Gone W i j a b
theorem z0n {z:Nat→Nat→Int} {W i j:Nat} {v:Int} (hj:j<W) (h:z i j=v) (a b:Nat):(Val z W i j v a b∨(a=i∧b=j))↔Val z W i (j+1) v a b:=by
 unfold Val
 rw [zl7 hj]
 constructor
 ·rintro (⟨h1,h2⟩ | ⟨rfl,rfl⟩)
  ·exact ⟨h1,.inl h2⟩
  exact ⟨h,.inr ⟨rfl,rfl⟩⟩
 rintro ⟨h1,h2 | h2⟩
 ·exact .inl ⟨h1,h2⟩
 exact .inr h2
theorem zvk {z:Nat→Nat→Int} {W i j:Nat} {v:Int} (hj:j<W) (h:z i j≠v) (a b:Nat):Val z W i j v a b↔Val z W i (j+1) v a b:=by
 unfold Val
 rw [zl7 hj]
 constructor
 ·rintro ⟨h1,h2⟩; exact ⟨h1,.inl h2⟩
 rintro ⟨h1,h2 | ⟨rfl,rfl⟩⟩
 ·exact ⟨h1,h2⟩
 exact absurd h1 h
theorem z9k {z:Nat→Nat→Int} {W i:Nat} {v:Int} (a b:Nat):Val z W i W v a b↔Val z W (i+1) 0 v a b:=by unfold Val; rw [z1k]
def zlw (pr:Nat→Nat→Prop) (b:Rect):Prop:=Hull pr b.row b.col (b.row+b.high - 1) (b.col+b.wide - 1)
theorem zlw.both {pr:Nat→Nat→Prop} {b:Rect} (h:zlw pr b) (i j:Nat):zlw (fun a c=>pr a c∨(a=i∧c=j)) (b.both (zg7 i j)):=by
 have:=Hull.add h i j
 unfold zlw Rect.both zg7
 simp only
 rw [show min b.row (i:Int)+(max (b.row+b.high) ((i:Int)+1) - min b.row (i:Int)) - 1=max (b.row+b.high - 1) i by omega,show min b.col (j:Int)+(max (b.col+b.wide) ((j:Int)+1) - min b.col (j:Int)) - 1=max (b.col+b.wide - 1) j by omega]
 exact this
theorem yaj {i j:Nat}:(zg7 i j).both (zg7 i j)=zg7 i j:=by
 unfold Rect.both zg7
 simp only[Rect.mk.injEq]
 omega
theorem zlw.one {pr:Nat→Nat→Prop} (h:∀ a b,¬ pr a b) (i j:Nat):zlw (fun a b=>pr a b∨(a=i∧b=j)) (zg7 i j):=by
 have:=Hull.one h i j
 unfold zlw zg7
 simp only
 rw [show (i:Int)+1 - 1=i by omega,show (j:Int)+1 - 1=j by omega]
 exact this
theorem zlw.congr {pr pr':Nat→Nat→Prop} {b:Rect} (h:zlw pr b) (e:∀ a c,pr a c↔pr' a c):zlw pr' b:=Hull.congr h e
structure SeInv (z:Nat→Nat→Int) (W i j:Nat) (ks:List Int) (rs:List Rect):Prop where
 nd:ks.Nodup
 len:rs.length=ks.length
 mem:∀ a b,Gone W i j a b→z a b∈ks
 hull:∀ (m:Nat) v b,ks[m]?=some v→rs[m]?=some b→zlw (Val z W i j v) b
theorem zqw {l:List Int} (h:l.Nodup) {a b:Nat} {v:Int} (ha:l[a]?=some v) (hb:l[b]?=some v):a=b:=by
 obtain ⟨p1,q1⟩:=List.getElem?_eq_some_iff.1 ha
 obtain ⟨p2,q2⟩:=List.getElem?_eq_some_iff.1 hb
 have:=List.pairwise_iff_getElem.1 h
 rcases Nat.lt_trichotomy a b with hlt | heq | hgt
 ·exact absurd (q1.trans q2.symm) (this a b p1 p2 hlt)
 ·exact heq
 exact absurd (q2.trans q1.symm) (this b a p2 p1 hgt)
theorem zic {ks:List Int} {z:Int} (h:¬ ks.idxOf z=ks.length):ks[ks.idxOf z]?=some z:=by
 have hl:=zhu (ks:=ks) (z:=z)
 have:z∈ks:=by rw [← List.idxOf_lt_length_iff]; omega
 rw [List.getElem?_eq_getElem (List.idxOf_lt_length_iff.2 this),List.getElem_idxOf]
theorem zqh {ks:List Int} {z:Int} (h:ks.idxOf z=ks.length):z ∉ ks:=by
 intro hm
 have:=List.idxOf_lt_length_iff.2 hm
 omega
theorem SeInv.step {z:Nat→Nat→Int} {W i j:Nat} {ks:List Int} {rs:List Rect} (h:SeInv z W i j ks rs) (hj:j<W):SeInv z W i (j+1) (zih ks (z i j)) (zpm ks rs (z i j) (zg7 i j)):=by
 have hlen:=h.len
 by_cases hin:ks.idxOf (z i j)=ks.length
 ·have hnm:=zqh hin
  have e1:zih ks (z i j)=ks++[z i j]:=by simp [zih,hin]
  have e2:zpm ks rs (z i j) (zg7 i j)=rs++[zg7 i j]:=by
   unfold zpm zja
   rw [if_pos hin,hin,← hlen,List.getD_eq_getElem?_getD]
   simp [yaj]
  rw [e1,e2]
  refine ⟨?_,by simp [hlen],?_,?_⟩
  ·rw [List.nodup_append]
   refine ⟨h.nd,by simp,?_⟩
   intro a ha b hb
   rw [List.mem_singleton]at hb
   rintro rfl
   exact hnm (hb ▸ ha)
  ·intro a b hab
   rw [zl7 hj]at hab
   rcases hab with hab | ⟨rfl,rfl⟩
   ·exact List.mem_append_left _ (h.mem a b hab)
   simp
  intro m v b hm hb
  by_cases hml:m<ks.length
  ·rw [List.getElem?_append_left hml]at hm
   rw [List.getElem?_append_left (by omega)]at hb
   have hv:z i j≠v:=fun e=>hnm (e ▸ List.mem_of_getElem? hm)
   exact (h.hull m v b hm hb).congr (zvk hj hv)
  have hml2:=zbp hm
  simp only[List.length_append,List.length_singleton]at hml2
  obtain rfl:m=ks.length:=by omega
  rw [List.getElem?_append_right (qR _),Nat.sub_self]at hm
  rw [← hlen,List.getElem?_append_right (qR _),Nat.sub_self]at hb
  simp only[List.getElem?_cons_zero,Option.some.injEq]at hm hb
  subst hm hb
  exact (zlw.one (pr:=Val z W i j (z i j)) (fun a b hab=>hnm (hab.1 ▸ h.mem a b hab.2)) i j).congr (z0n hj rfl)
 have hk:=zic hin
 have hkl:=zbp hk
 have e1:zih ks (z i j)=ks:=by simp [zih,hin]
 obtain ⟨b0,hb0,-⟩:=zag (show ks.idxOf (z i j)<rs.length by omega)
 have e2:zpm ks rs (z i j) (zg7 i j)=rs.set (ks.idxOf (z i j)) (b0.both (zg7 i j)):=by
  unfold zpm zja
  rw [if_neg hin,List.getD_eq_getElem?_getD,hb0]; rfl
 rw [e1,e2]
 refine ⟨h.nd,by simp [hlen],?_,?_⟩
 ·intro a b hab
  rw [zl7 hj]at hab
  rcases hab with hab | ⟨rfl,rfl⟩
  ·exact h.mem a b hab
  exact List.mem_of_getElem? hk
 intro m v b hm hb
 rw [List.getElem?_set]at hb
 by_cases e:ks.idxOf (z i j)=m
 ·subst e
  rw [if_pos rfl,if_pos (by omega)]at hb
  cases hb
  rw [hk]at hm
  cases hm
  exact ((h.hull _ _ _ hk hb0).both i j).congr (z0n hj rfl)
 rw [if_neg e]at hb
 have hv:z i j≠v:=by
  rintro rfl
  exact e (zqw h.nd hk hm)
 exact (h.hull m v b hm hb).congr (zvk hj hv)
theorem SeInv.nil {z:Nat→Nat→Int} {W:Nat}:SeInv z W 0 0 [] []:=by
 refine ⟨by simp,rfl,?_,by simp⟩
 intro a b h
 unfold Gone at h; omega
theorem SeInv.row {g:List (List Int)} {W i:Nat} {s:List Int × List Rect} (h:SeInv (gz g) W i 0 s.1 s.2):∀ j,j≤W→SeInv (gz g) W i j (zdw g i s j).1 (zdw g i s j).2
 | 0,_=>h
 | j+1,hj=>(SeInv.row h j (by omega)).step (by omega)
theorem SeInv.rows {g:List (List Int)} {W:Nat}:∀ i,SeInv (gz g) W i 0 (zaq g W i).1 (zaq g W i).2
 | 0=>SeInv.nil
 | i+1=>by
  have h:=(SeInv.rows (g:=g) (W:=W) i).row W (qR _)
  refine ⟨h.nd,h.len,fun a b hab=>h.mem a b (z1k.2 hab),fun m v b hm hb=>(h.hull m v b hm hb).congr (fun a c=>z9k a c)⟩
theorem zrp {g:List (List Int)} {i:Nat} {s:List Int × List Rect}:∀ {j k:Nat},j≤k→∃ r,(zdw g i s k).1=(zdw g i s j).1++r
 | j,0,h=>by
  have hj:j=0:=by omega
  subst hj; exact ⟨[],by simp⟩
 | j,k+1,h=>by
  by_cases e:j=k+1
  ·subst e; exact ⟨[],by simp⟩
  obtain ⟨r,hr⟩:=zrp (g:=g) (i:=i) (s:=s) (show j≤k by omega)
  simp only[zdw,zih]
  split
  ·exact ⟨r++[gz g i k],by rw [hr,List.append_assoc]⟩
  exact ⟨r,hr⟩
theorem ztn {g:List (List Int)} {W:Nat}:∀ {i k:Nat},i≤k→∃ r,(zaq g W k).1=(zaq g W i).1++r
 | i,0,h=>by
  have hi:i=0:=by omega
  subst hi; exact ⟨[],by simp⟩
 | i,k+1,h=>by
  by_cases e:i=k+1
  ·subst e; exact ⟨[],by simp⟩
  obtain ⟨r,hr⟩:=ztn (g:=g) (W:=W) (show i≤k by omega)
  obtain ⟨r2,hr2⟩:=zrp (g:=g) (i:=k) (s:=zaq g W k) (Nat.zero_le W)
  simp only[zaq]
  refine ⟨r++r2,?_⟩
  rw [hr2,← List.append_assoc,← hr]; rfl
theorem zqg {l r:List Int} {x:Int} (h:¬ l.idxOf x=l.length):(l++r).idxOf x=l.idxOf x:=by
 have hl:=zhu (ks:=l) (z:=x)
 have hm:x∈l:=by rw [← List.idxOf_lt_length_iff]; omega
 rw [List.idxOf_append,if_pos hm]
theorem z6q {l r:List Int} {x:Int} (h:l.idxOf x=l.length):(l++[x]++r).idxOf x=l.length:=by
 have hm:x ∉ l:=zqh h
 rw [List.append_assoc,List.idxOf_append,if_neg hm]
 simp
theorem zNum {g:List (List Int)} {W nh i j:Nat} (hi:i<nh) (hj:j<W):((zdw g i (zaq g W i) j).1.idxOf (gz g i j))=(zaq g W nh).1.idxOf (gz g i j):=by
 obtain ⟨r,hr⟩:=ztn (g:=g) (W:=W) (show i+1≤nh by omega)
 obtain ⟨r2,hr2⟩:=zrp (g:=g) (i:=i) (s:=zaq g W i) (show j+1≤W by omega)
 have e:(zaq g W nh).1=zih (zdw g i (zaq g W i) j).1 (gz g i j)++(r2++r):=by
  rw [hr,← List.append_assoc]
  congr 1
 rw [e]
 generalize (zdw g i (zaq g W i) j).1=ks
 unfold zih
 by_cases hin:ks.idxOf (gz g i j)=ks.length
 ·rw [if_pos hin,z6q hin,hin]
 rw [if_neg hin,zqg hin]
def inZ (p:List Txt) (r:Int) (i j:Nat):Bool:=decide (zak p i j=r)
theorem zwm {p:List Txt} {i k:Nat} {row:Txt} {c:UInt8} {r:Int} (h:p[i]?=some row) (hc:row[k]?=some c):zkv r c=inZ p r i k:=by
 unfold zkv inZ; rw [zcy h hc]
theorem zn5 {p:List Txt} {i:Nat} {row:Txt} {r:Int} (h:p[i]?=some row) (n:Int):∀ k,k≤row.length→zdn r n (row.take k)=n+sN k fun j=>b1 (inZ p r i j)
 | 0,_=>by simp [zdn,sN]
 | k+1,hk=>by
  obtain ⟨c,hc,-⟩:=zag (show k<row.length by omega)
  have ih:=zn5 (r:=r) h n k (by omega)
  unfold zdn at ih ⊢
  rw [zgv hc,ih,sN,zwm h hc]
  cases inZ p r i k <;> simp [b1]
  omega
theorem zqn {p:List Txt} {W:Nat} (hW:∀ row∈p,row.length=W) {r:Int}:∀ i,i≤p.length→(p.take i).foldl (zdn r) 0=((sN i fun i=>sN W fun j=>b1 (inZ p r i j):Nat):Int)
 | 0,_=>by simp [sN]
 | i+1,hi=>by
  obtain ⟨row,hr,hm⟩:=zag (show i<p.length by omega)
  have ih:=zqn hW (r:=r) i (by omega)
  have hl:=hW row hm
  have:=zn5 (r:=r) hr (((sN i fun i=>sN W fun j=>b1 (inZ p r i j):Nat):Int)) W (by omega)
  rw [qT (by omega)]at this
  rw [zgv hr,ih,this,sN]
  simp
theorem z3v {p:List Txt} {W:Nat} (hW:∀ row∈p,row.length=W) {r:Int}:zfr p r=((cnt p.length W (inZ p r):Nat):Int):=by
 have:=zqn hW (r:=r) p.length (qR _)
 rwa [List.take_length]at this
def zkn (H W:Nat) (pr:Nat→Nat→Prop) (b:Box):Prop:=((∀ a c,¬ pr a c)∧b=⟨H,W,-1,-1⟩)∨Hull pr b.top b.left b.low b.right
theorem zkn.congr {H W:Nat} {pr pr':Nat→Nat→Prop} {b:Box} (h:zkn H W pr b) (e:∀ a c,pr a c↔pr' a c):zkn H W pr' b:=by
 have:pr=pr':=by funext a b; exact propext (e a b)
 exact this ▸ h
theorem zkn.add {H W:Nat} {pr:Nat→Nat→Prop} {b:Box} (h:zkn H W pr b) {i k:Nat} (hi:i<H) (hk:k<W):zkn H W (fun a c=>pr a c∨(a=i∧c=k)) ⟨min b.top i,min b.left k,max b.low i,max b.right k⟩:=by
 rcases h with ⟨h1,rfl⟩ | h
 ·right
  have:=Hull.one h1 i k
  simp only
  rw [show min (H:Int) i=i by omega,show min (W:Int) k=k by omega,show max (-1:Int) i=i by omega,show max (-1:Int) k=k by omega]
  exact this
 exact .inr (Hull.add h i k)
theorem zx7 {p:List Txt} {H W i:Nat} {row:Txt} {r:Int} (hr:p[i]?=some row) (hW:row.length=W) (hi:i<H) {b:Box} (h:zkn H W (Val (zak p) W i 0 r) b):∀ k,k≤W→zkn H W (Val (zak p) W i k r) (zmv r i b row k)
 | 0,_=>by simpa [zmv] using h
 | k+1,hk=>by
  obtain ⟨c,hc,-⟩:=zag (show k<row.length by omega)
  have ih:=zx7 hr hW hi h k (by omega)
  rw [zkh hc]
  unfold zk4
  simp only
  rw [zwm hr hc]
  by_cases e:zak p i k=r
  ·rw [if_pos (by unfold inZ; exact decide_eq_true e)]
   exact (ih.add hi (by omega)).congr (z0n (by omega) e)
  rw [if_neg (by unfold inZ; rw [decide_eq_false e]; exact Bool.false_ne_true)]
  exact ih.congr (zvk (by omega) e)
theorem zvw {p:List Txt} {W:Nat} (hW:∀ row∈p,row.length=W) (hh:(zao p).length=W) {r:Int}:∀ i,i≤p.length→zkn p.length W (Val (zak p) W i 0 r) (zi3 p r i)
 | 0,_=>by
  left
  refine ⟨fun a c h=>?_,by simp [zi3,hh]⟩
  have:=h.2
  unfold Gone at this; omega
 | i+1,hi=>by
  obtain ⟨row,hr,hm⟩:=zag (show i<p.length by omega)
  rw [zne hr]
  have:=zx7 (r:=r) hr (hW row hm) (by omega) (zvw hW hh i (by omega)) W (qR _)
  rw [hW row hm]
  exact this.congr fun a c=>z9k a c
theorem z5i {p:List Txt} {W:Nat} (hW:∀ row∈p,row.length=W) (hh:(zao p).length=W) {r:Int}:zkn p.length W (Val (zak p) W p.length 0 r) (zg8 p r):=by
 rw [← zly]; exact zvw hW hh p.length (qR _)
theorem Hull.nat {z:Nat→Nat→Int} {H W:Nat} {v:Int} {t l lo ri:Int} (h:Hull (Val z W H 0 v) t l lo ri):∃ t' l' h' w':Nat,t=t'∧l=l'∧lo=t'+h' - 1∧ri=l'+w' - 1∧1≤h'∧1≤w'∧t'+h'≤H∧l'+w'≤W ∧
  ∀ i j,i<H→j<W→z i j=v→inR t' l' h' w' i j=true:=by
 obtain ⟨a1,b1,p1,e1⟩:=h.at_
 obtain ⟨a2,b2,p2,e2⟩:=h.al
 obtain ⟨a3,b3,p3,e3⟩:=h.ao
 obtain ⟨a4,b4,p4,e4⟩:=h.ar
 have q1:=h.inn _ _ p1
 have q2:=h.inn _ _ p2
 obtain ⟨-,g3,g3'⟩:=p3
 obtain ⟨-,g4,g4'⟩:=p4
 refine ⟨a1,b2,a3+1 - a1,b4+1 - b2,e1.symm,e2.symm,by omega,by omega,by omega,by omega,by omega,by omega,fun i j hi hj hv=>?_⟩
 have:=h.inn i j ⟨hv,by unfold Gone; omega⟩
 unfold inR
 simp only[qB,decide_eq_true_eq]
 omega
def u8I (c:UInt8):Int:=(c.toNat:Int)
theorem yfb {a b:UInt8} (h:u8I a=u8I b):a=b:=by
 unfold u8I at h
 exact UInt8.toNat_inj.1 (by omega)
theorem zwl {α β:Type} [DecidableEq α] [DecidableEq β] {f:α→β} (hf:∀ a b,f a=f b→a=b) {c:α}:∀ (l:List α),(l.map f).idxOf (f c)=l.idxOf c
 | []=>rfl
 | a::l=>by
  rw [List.map_cons,List.idxOf_cons,List.idxOf_cons,zwl hf l]
  by_cases e:a=c
  ·subst e; simp
  have e2:f a≠f c:=fun h=>e (hf _ _ h)
  rw [show (f a == f c)=false by simpa using e2,show (a == c)=false by simpa using e]
theorem ydq {p:List Txt} {i k:Nat} {row:Txt} {c:UInt8} (h:p[i]?=some row) (hc:row[k]?=some c):gz (zb6 p) i k=u8I c:=by
 simp [gz,zb6,zvq,h,hc,u8I]
theorem zs5 {p:List Txt} {i:Nat} {row:Txt} (h:p[i]?=some row) {o:List UInt8} {s:List Int × List Rect} (ho:o.map u8I=s.1):∀ j,j≤row.length →
  ((row.take j).foldl zeq (o,[])).1.map u8I=(zdw (zb6 p) i s j).1∧((row.take j).foldl zeq (o,[])).2=zrl (zn3 (zb6 p) i s j)
 | 0,_=>⟨by simpa [zdw] using ho,by simp [zn3,zrl]⟩
 | j+1,hj=>by
  obtain ⟨c,hc,-⟩:=zag (show j<row.length by omega)
  obtain ⟨h1,h2⟩:=zs5 h ho j (by omega)
  rw [zgv hc]
  generalize (row.take j).foldl zeq (o,[])=q at h1 h2 ⊢
  have hz:=ydq h hc
  have hi:(zdw (zb6 p) i s j).1.idxOf (gz (zb6 p) i j)=q.1.idxOf c:=by rw [← h1,hz,zwl fun a b=>yfb]
  have hl:(zdw (zb6 p) i s j).1.length=q.1.length:=by rw [← h1,List.length_map]
  constructor
  ·simp only[zeq,zdw,zih]
   rw [hi,hl]
   split
   ·rw [List.map_append,h1,hz]; rfl
   exact h1
  simp only[zeq,zn3]
  rw [hi,h2]
  simp [zrl,z61]
theorem z1s {p:List Txt} {W:Nat} (hW:∀ row∈p,row.length=W):∀ i,i≤p.length →
  ((p.take i).foldl zok ([],[])).1.map u8I=(zaq (zb6 p) W i).1∧((p.take i).foldl zok ([],[])).2=zfz (zez (zb6 p) W i)
 | 0,_=>by simp [zaq,zez,zfz]
 | i+1,hi=>by
  obtain ⟨row,hr,hm⟩:=zag (show i<p.length by omega)
  obtain ⟨h1,h2⟩:=z1s hW i (by omega)
  rw [zgv hr]
  generalize (p.take i).foldl zok ([],[])=q at h1 h2 ⊢
  have hl:=hW row hm
  obtain ⟨k1,k2⟩:=zs5 hr h1 row.length (qR _)
  rw [List.take_length,hl]at k1 k2
  constructor
  ·simp only[zok,zqt,zaq]; exact k1
  simp only[zok,zqt,zez,zfz,List.map_append,List.map_cons,List.map_nil]
  rw [k2,h2]
  rfl
theorem zh7 {p:List Txt}:w0 (zb6 p)=(zao p).length:=by
 cases p with
 | nil=>rfl
 | cons a p=>simp [w0,zb6,zvq,zao]
theorem zl8 {p:List Txt} (hg:zcw p=true):∀ row∈p,row.length=(zao p).length:=by
 intro row hm
 obtain ⟨i,hi⟩:=List.getElem?_of_mem hm
 exact zdt hg hi
theorem znp {p:List Txt} (hg:zcw p=true):names p=zfz (gP p):=by
 have:=(z1s (zl8 hg) p.length (qR _)).2
 rw [List.take_length]at this
 unfold names zuj gP zG
 rw [this,zh7,zd4]
theorem yab {p:List Txt}:zcw p=(zhv p && okG (zb6 p)):=by
 rw [Bool.eq_iff_iff,qB,zum,zd4,zh7]
 unfold zcw zhv GW zr8
 simp only[qB,decide_eq_true_eq,List.all_eq_true,zd4,true_and]
 constructor
 ·rintro ⟨⟨h1,h2⟩,h3⟩
  obtain ⟨row0,hr0,hm0⟩:=zag (show 0<p.length by omega)
  have hh:=zcu hr0
  have h4:=h1 row0 hm0
  refine ⟨fun r hr=>(h1 r hr).2,fun r hr=>?_,h2,h3,by rw [hh]; omega,by rw [hh]; omega⟩
  obtain ⟨t,ht,rfl⟩:=List.mem_map.1 hr
  rw [zki]; exact (h1 t ht).1.1.1
 rintro ⟨h1,h2,h3,h4,h5,h6⟩
 refine ⟨⟨fun r hr=>?_,h3⟩,h4⟩
 have:=h2 (zvq r) (List.mem_map.2 ⟨r,hr,rfl⟩)
 rw [zki]at this
 exact ⟨⟨⟨this,by omega⟩,by omega⟩,h1 r hr⟩
theorem z0s {g:List (List Int)} {i:Nat} {s:List Int × List Rect}:∀ {j k:Nat},k<j→(zn3 g i s j)[k]?=some (((zdw g i s k).1.idxOf (gz g i k):Nat):Int)
 | 0,k,h=>by omega
 | j+1,k,h=>by
  unfold zn3
  by_cases e:k=j
  ·subst e; rw [List.getElem?_append_right (by rw [zfi]; exact qR _),zfi]; simp
  rw [List.getElem?_append_left (by rw [zfi]; omega)]; exact z0s (by omega)
def keys (p:List Txt):List Int:=(zaq (zb6 p) (zao p).length p.length).1
theorem z3q {p:List Txt}:gP p=zez (zb6 p) (zao p).length p.length:=by unfold gP zG; rw [zh7,zd4]
theorem z76 {p:List Txt}:rP p=(zaq (zb6 p) (zao p).length p.length).2:=by unfold rP stG; rw [zh7,zd4]
theorem z6c {p:List Txt} {i j:Nat} (hi:i<p.length) (hj:j<(zao p).length):gz (gP p) i j=(((keys p).idxOf (gz (zb6 p) i j):Nat):Int):=by
 rw [z3q]
 unfold gz
 rw [zkl hi,Option.getD_some,z0s hj,Option.getD_some]
 congr 1
 exact zNum hi hj
theorem zgx (p:List Txt):SeInv (gz (zb6 p)) (zao p).length p.length 0 (keys p) (rP p):=by
 rw [z76]; exact SeInv.rows p.length
theorem zo7 {H W i j:Nat} (hi:i<H) (hj:j<W):Gone W H 0 i j:=⟨hj,.inl hi⟩
theorem zhd {p:List Txt}:zyx (gP p) p.length (zao p).length (rP p).length:=by
 intro i j hi hj
 rw [z6c hi hj]
 have hm:=(zgx p).mem i j (zo7 hi hj)
 have hl:=(zgx p).len
 have:=List.idxOf_lt_length_iff.2 hm
 omega
structure Named (p:List Txt):Prop where
 hg:zcw p=true
 ht:zfz (gP p)=p
theorem Named.cell {p:List Txt} (h:Named p) {i j:Nat} (hi:i<p.length) (hj:j<(zao p).length):gz (gP p) i j=zak p i j:=by
 have hgz:=z6c hi hj
 have hm:=(zgx p).mem i j (zo7 hi hj)
 have hsm:=zbl h.hg
 obtain ⟨row0,hr0,hm0⟩:=zag hsm.1
 have hh:=zcu hr0
 have hw6:=hsm.2.2 row0 hm0
 have hw1:=zfg h.hg hr0
 rw [← hh]at hw6 hw1
 have hb:=zlt (g:=zb6 p) hw6 hw1 p.length hsm.2.1
 rw [← z3q]at hb
 have hrl:(gP p).length=p.length:=by rw [z3q]; exact zc0 _
 obtain ⟨zr,hzr,hzm⟩:=zag (show i<(gP p).length by omega)
 have hzl:zr.length=(zao p).length:=by
  have e:=hzr
  rw [z3q,zkl hi]at e
  cases e
  exact zfi _
 obtain ⟨z,hz,hzm2⟩:=zag (show j<zr.length by omega)
 have hz1:=hb zr hzm z hzm2
 have e1:gz (gP p) i j=z:=by simp [gz,hzr,hz]
 have e2:p[i]?=some (zrl zr):=by
  have:=zm4 hzr
  rwa [h.ht]at this
 have e3:(zrl zr)[j]?=some (z61 z):=by simp [zrl,hz]
 rw [e1,zcy e2 e3]
 unfold z61
 rw [UInt8.toNat_ofNat_of_lt' (by show 97+z.toNat<256; omega)]
 omega
theorem Named.room {p:List Txt} (h:Named p) {i j:Nat} (hi:i<p.length) (hj:j<(zao p).length):0≤zak p i j∧zak p i j<(rP p).length:=by
 rw [← h.cell hi hj]; exact zhd i j hi hj
theorem Named.key {p:List Txt} (h:Named p) {m:Nat} {v:Int} (hm:(keys p)[m]?=some v) (a b:Nat):Val (gz (zb6 p)) (zao p).length p.length 0 v a b↔Val (zak p) (zao p).length p.length 0 m a b:=by
 unfold Val
 constructor
 ·rintro ⟨h1,h2⟩
  refine ⟨?_,h2⟩
  obtain ⟨hb,ha⟩:=h2
  have ha':a<p.length:=by omega
  rw [← h.cell ha' hb,z6c ha' hb,h1]
  congr 1
  have hv:=List.mem_of_getElem? hm
  have hlt:=List.idxOf_lt_length_iff.2 hv
  have:=zic (ks:=keys p) (z:=v) (by omega)
  exact zqw (zgx p).nd this hm
 rintro ⟨h1,h2⟩
 refine ⟨?_,h2⟩
 obtain ⟨hb,ha⟩:=h2
 have ha':a<p.length:=by omega
 have hmem:=(zgx p).mem a b (zo7 ha' hb)
 have hlt:=List.idxOf_lt_length_iff.2 hmem
 rw [← h.cell ha' hb,z6c ha' hb]at h1
 have:=zic (ks:=keys p) (z:=gz (zb6 p) a b) (by omega)
 rw [show (keys p).idxOf (gz (zb6 p) a b)=m by omega,hm]at this
 cases this; rfl
theorem Named.rect {p:List Txt} (h:Named p) {m:Nat} {b:Rect} (hb:(rP p)[m]?=some b):zlw (Val (zak p) (zao p).length p.length 0 m) b:=by
 have hi:=zgx p
 have hml:=zbp hb
 rw [hi.len]at hml
 obtain ⟨v,hv,-⟩:=zag hml
 exact (hi.hull m v b hv hb).congr (h.key hv)
theorem Named.box {p:List Txt} (h:Named p) {m:Nat} {b:Rect} (hb:(rP p)[m]?=some b):b.row=(zg8 p m).top∧b.col=(zg8 p m).left∧b.high=zd3 p m∧b.wide=zdy p m:=by
 have h1:=h.rect hb
 have h2:=z5i (zl8 h.hg) rfl (r:=(m:Int))
 rcases h2 with ⟨h2,-⟩ | h2
 ·obtain ⟨a,c,q,-⟩:=h1.at_
  exact absurd q (h2 a c)
 have:=Hull.uniq h1 h2
 unfold zd3 zdy
 omega
theorem zoh {f:UInt8→Int} {B:Int}:∀ (row:Txt) (n:Int),n≤B→(∀ c∈row,f c≤B)→row.foldl (fun n c=>max n (f c)) n≤B
 | [],n,h,_=>h
 | c::row,n,h,hc=>zoh row _ (by have:=hc c (by simp); show max n (f c)≤B; omega) fun d hd=>hc d (by simp [hd])
theorem z2o {B:Int}:∀ (p:List Txt) (n:Int),n≤B→(∀ row∈p,∀ c∈row,(c.toNat:Int) - 97+1≤B)→p.foldl zgr n≤B
 | [],n,h,_=>h
 | row::p,n,h,hc=>z2o p _ (zoh row n h (hc row (by simp))) fun r hr=>hc r (by simp [hr])
theorem Named.rooms {p:List Txt} (h:Named p):zcg p=(rP p).length:=by
 have hi:=zgx p
 have hl:=hi.len
 apply Int.le_antisymm
 ·refine z2o p 0 (by omega) fun row hr c hc=>?_
  obtain ⟨i,hrow⟩:=List.getElem?_of_mem hr
  obtain ⟨j,hcol⟩:=List.getElem?_of_mem hc
  have hil:=zbp hrow
  have hjl:=zbp hcol
  have:=h.room hil (by rw [← zdt h.hg hrow]; exact hjl)
  rw [zcy hrow hcol]at this
  omega
 by_cases h0:(rP p).length=0
 ·have:=(zep p).1; omega
 obtain ⟨b,hb,-⟩:=zag (show (rP p).length - 1<(rP p).length by omega)
 obtain ⟨a,c,⟨q1,q2⟩,-⟩:=(h.rect hb).at_
 obtain ⟨hc,ha⟩:=q2
 have ha':a<p.length:=by omega
 obtain ⟨row,hrow,hrm⟩:=zag ha'
 have hrl:=zdt h.hg hrow
 obtain ⟨d,hd,-⟩:=zag (show c<row.length by omega)
 have:=(z4m p 0).2 a c row d hrow hd
 rw [zcy hrow hd]at q1
 unfold zcg
 omega
def inB (b:Rect) (i j:Nat):Bool:=(decide (b.row≤i) && decide ((i:Int)<b.row+b.high)) && (decide (b.col≤j) && decide ((j:Int)<b.col+b.wide))
theorem zpi {z:Nat→Nat→Int} {H W:Nat} {v:Int} {b:Rect} (h:zlw (Val z W H 0 v) b):((cnt H W (inB b):Nat):Int)=b.high*b.wide∧∀ i j,i<H→j<W→z i j=v→inB b i j=true:=by
 obtain ⟨t,l,hh,w,e1,e2,e3,e4,h1,h2,h3,h4,h5⟩:=Hull.nat h
 have e5:b.high=hh:=by omega
 have e6:b.wide=w:=by omega
 have e:∀ i j,inB b i j=inR t l hh w i j:=by
  intro i j
  unfold inB inR
  rw [e1,e2,e5,e6,Bool.eq_iff_iff]
  simp only[qB,decide_eq_true_eq]
  omega
 have e7:inB b=inR t l hh w:=by funext i j; exact e i j
 rw [e7,z91 h3 h4,e5,e6]
 exact ⟨by simp,h5⟩
def arN (p:List Txt) (m:Nat):Nat :=
 match (rP p)[m]? with
 | some b=>cnt p.length (zao p).length (inB b)
 | none=>0
theorem z0u {p:List Txt} {m:Nat} {b:Rect} (h:(rP p)[m]?=some b):arN p m=cnt p.length (zao p).length (inB b):=by simp [arN,h]
theorem z85 {p:List Txt} (h:Named p):∀ k,k≤(rP p).length→z4x ((rP p).take k)=((sN k (arN p):Nat):Int)
 | 0,_=>by simp [z4x,sN]
 | k+1,hk=>by
  obtain ⟨b,hb,-⟩:=zag (show k<(rP p).length by omega)
  rw [zrv hb,z85 h k (by omega),sN,z0u hb,← (zpi (h.rect hb)).1]
  simp
theorem Named.cells_le {p:List Txt} (h:Named p) {m:Nat} (hm:m<(rP p).length):cnt p.length (zao p).length (inZ p m)≤arN p m:=by
 obtain ⟨b,hb,-⟩:=zag hm
 rw [z0u hb]
 exact yfz fun i j hi hj hz=>(zpi (h.rect hb)).2 i j hi hj (by unfold inZ at hz; simpa using hz)
theorem Named.all {p:List Txt} (h:Named p):sN (rP p).length (fun m=>cnt p.length (zao p).length (inZ p m))=p.length*(zao p).length:=by
 rw [← zy6 (H:=p.length) (W:=(zao p).length) (n:=(rP p).length) (z:=fun i j=>(zak p i j).toNat) fun i j hi hj=>by have:=h.room hi hj; omega]
 refine zer fun m hm=>z5s fun i j hi hj=>?_
 unfold inZ
 have:=h.room hi hj
 apply decide_eq_decide.2
 omega
theorem z97 {p:List Txt} (h:Named p):zl5 (zb6 p)=decide (sN (rP p).length (arN p)=p.length*(zao p).length):=by
 have:=z85 h (rP p).length (qR _)
 rw [List.take_length]at this
 unfold zl5
 rw [show (stG (zb6 p)).2=rP p from rfl,this,zd4,zh7]
 apply decide_eq_decide.2
 omega
theorem Named.area {p:List Txt} (h:Named p) {m:Nat} (hm:m<(rP p).length):(zfr p m=zd3 p m*zdy p m)↔cnt p.length (zao p).length (inZ p m)=arN p m:=by
 obtain ⟨b,hb,-⟩:=zag hm
 obtain ⟨-,-,e1,e2⟩:=h.box hb
 rw [z3v (zl8 h.hg),← e1,← e2,← (zpi (h.rect hb)).1,z0u hb]
 omega
theorem Named.full {p:List Txt} (h:Named p):zl5 (zb6 p)=true↔∀ m,m<(rP p).length→cnt p.length (zao p).length (inZ p m)=arN p m:=by
 rw [z97 h,decide_eq_true_eq,← h.all]
 constructor
 ·intro e m hm
  exact ya4 (fun m hm=>h.cells_le hm) e.symm m hm
 intro e
 exact zer fun m hm=>(e m hm).symm
theorem Named.fill {p:List Txt} (h:Named p) (hf:zl5 (zb6 p)=true) {m:Nat} {b:Rect} (hb:(rP p)[m]?=some b) {i j:Nat} (hi:i<p.length) (hj:j<(zao p).length):inB b i j=decide (zak p i j=m):=by
 have e:=h.full.1 hf m (zbp hb)
 rw [z0u hb]at e
 exact (yfy (fun i j hi hj hz=>(zpi (h.rect hb)).2 i j hi hj (by unfold inZ at hz; simpa using hz)) e i j hi hj).symm
theorem zin {p:List Txt}:zht p=zbs p:=by
 unfold zht zqc okB okS zbs
 rw [Bool.eq_iff_iff]
 simp only[qB,decide_eq_true_eq,List.all_eq_true,List.mem_range]
 have hgi:=yab (p:=p)
 constructor
 ·rintro ⟨⟨h1,h2,h3⟩,h4,h5⟩
  have hg:zcw p=true:=by rw [hgi,h1,h2]; rfl
  have hN:Named p:=⟨hg,h5⟩
  have hr:=hN.rooms
  have h3':(rP p).length≤9:=h3
  refine ⟨⟨⟨hg,by rw [znp hg]; exact h5⟩,by omega⟩,fun m hm=>?_⟩
  have hm':m<(rP p).length:=by omega
  exact (hN.area hm').2 (hN.full.1 h4 m hm')
 rintro ⟨⟨⟨hg,h2⟩,h3⟩,h4⟩
 have h5:zfz (gP p)=p:=by rw [← znp hg]; exact h2
 have hN:Named p:=⟨hg,h5⟩
 have hr:=hN.rooms
 rw [hgi,qB]at hg
 have h3':(rP p).length≤9:=by omega
 exact ⟨⟨hg.1,hg.2,h3'⟩,hN.full.2 fun m hm=>(hN.area hm).1 (h4 m (by omega)),h5⟩
theorem zcx {p:List Txt} (h:zbs p=true):Named p:=by
 have h2:=h
 rw [← zin]at h2
 unfold zht zqc at h2
 simp only[qB,decide_eq_true_eq]at h2
 exact ⟨zd7 h,h2.2.2⟩
theorem z7z {p:List Txt} (h:zbs p=true):zl5 (zb6 p)=true:=by
 rw [← zin]at h
 unfold zht zqc at h
 simp only[qB,decide_eq_true_eq]at h
 exact h.2.1
def cz (c:UInt8):Int:=(c.toNat:Int) - 97
theorem yf0 {a b:UInt8}:(cz a=cz b)=(a=b):=by
 rw [ybg]
 unfold cz
 apply propext; omega
theorem yde (a b c d:UInt8):((dn [cz a,cz b,cz c,cz d]:Nat):Int)=zgn [a,b,c,d] 4:=by
 simp only[dn,zgn,z67,zr4,List.mem_cons,List.not_mem_nil,or_false,yf0]
 by_cases h1:a=b <;> by_cases h2:a=c <;> by_cases h3:a=d <;> by_cases h4:b=c <;> by_cases h5:b=d <;> by_cases h6:c=d <;> simp_all [eq_comm]
theorem z3o {p:List Txt} (h:Named p) {i k:Nat} (hi:1≤i) (hi2:i<p.length) (hk:1≤k) (hk2:k<(zao p).length):((dn (four (gP p) i k):Nat):Int)=zjm p i k:=by
 obtain ⟨r1,hr1,-⟩:=zag (show i - 1<p.length by omega)
 obtain ⟨r2,hr2,-⟩:=zag hi2
 have l1:=zdt h.hg hr1
 have l2:=zdt h.hg hr2
 obtain ⟨a,ha,-⟩:=zag (show k - 1<r1.length by omega)
 obtain ⟨b,hb,-⟩:=zag (show k<r1.length by omega)
 obtain ⟨c,hc,-⟩:=zag (show k - 1<r2.length by omega)
 obtain ⟨d,hd,-⟩:=zag (show k<r2.length by omega)
 unfold four zjm
 rw [h.cell (by omega) (by omega),h.cell (by omega) (by omega),h.cell (by omega) (by omega),h.cell (by omega) (by omega),zcy hr1 ha,zcy hr1 hb,zcy hr2 hc,zcy hr2 hd]
 simp only[hr1,hr2,ha,hb,hc,hd]
 exact yde a b c d
theorem zxr {p:List Txt} (h:Named p) {many:Int} {i:Nat} (hi:1≤i) (hi2:i<p.length):∀ k,k≤(zao p).length→zea (gP p) many i k=zgq p many i k
 | 0,_=>rfl
 | k+1,hk=>by
  unfold zea zgq
  rw [zxr h hi hi2 k (by omega)]
  by_cases h1:1≤k
  ·rw [z3o h hi hi2 h1 (by omega)]
  rw [if_neg (fun e=>h1 e.1),if_neg (fun e=>h1 e.1)]
theorem ycm {p:List Txt} (h:Named p) {many:Int}:∀ i,i≤p.length→zxp (gP p) many (zao p).length i=zi7 p many (zao p).length i
 | 0,_=>rfl
 | i+1,hi=>by
  unfold zxp zi7
  rw [ycm h i (by omega)]
  by_cases h1:1≤i
  ·rw [zxr h h1 (by omega) _ (qR _)]
  rw [if_neg h1,if_neg h1]
theorem zf9 {p:List Txt}:zdj p=zb5 p:=by
 unfold zdj zb5
 rw [zin]
 cases hp:zbs p with
 | false=>rfl
 | true =>
  rw [zh7,ycm (zcx hp) p.length (qR _)]
  rfl
theorem zd6 {p:List Txt} (h:zb5 p=true):zbs p=true:=by
 unfold zb5 at h
 rw [qB]at h
 exact h.1
theorem zno {l:List Int} {x:Int}:x∈ddp l↔x∈l:=by
 have:∀ (l m:List Int),x∈l.foldl zr7 m↔x∈m∨x∈l:=by
  intro l
  induction l with
  | nil=>intro m; simp
  | cons a l ih=>intro m; rw [List.foldl_cons,ih,z1r,List.mem_cons,or_assoc]
 unfold ddp
 rw [this]
 simp
def Rise (n:Nat) (rk:Nat→Nat) (M:List (List Bool)):Prop:=Sq n M∧∀ a b,a<n→b<n→zc7 M a b=true→rk a<rk b
theorem Rise.clA {n:Nat} {rk:Nat→Nat} {M:List (List Bool)} (h:Rise n rk M) {k a:Nat} (hk:k<n) (ha:a<n):Rise n rk (clA n k M a):=by
 obtain ⟨h1,h2⟩:=z0y h.1 hk ha n (qR _)
 refine ⟨h1,fun x y hx hy hxy=>?_⟩
 unfold Fw.clA at hxy
 rw [h2 x y hx hy]at hxy
 split at hxy
 ·rename_i e
  obtain ⟨rfl,-⟩:=e
  rw [Bool.or_eq_true,qB]at hxy
  rcases hxy with hxy | ⟨h3,h4⟩
  ·exact h.2 x y hx hy hxy
  exact Nat.lt_trans (h.2 x k hx hk h3) (h.2 k y hk hy h4)
 exact h.2 x y hx hy hxy
theorem Rise.fold {n:Nat} {rk:Nat→Nat} {f:List (List Bool)→Nat→List (List Bool)}:∀ (i:Nat) {M:List (List Bool)},i≤n→(∀ M j,j<n→Rise n rk M→Rise n rk (f M j))→Rise n rk M→Rise n rk ((List.range i).foldl f M)
 | 0,_,_,_,h=>h
 | i+1,M,hi,hs,h=>by
  rw [zc1]
  exact hs _ i (by omega) (Rise.fold i (by omega) hs h)
theorem Rise.close {n:Nat} {rk:Nat→Nat} {M:List (List Bool)} (h:Rise n rk M):Rise n rk (zf4 M):=by
 unfold zf4
 rw [h.1.1]
 exact Rise.fold n (qR _) (fun _ k hk h=>Rise.fold n (qR _) (fun _ a ha h=>h.clA hk ha) h) h
theorem Rise.relB {n:Nat} {rk:Nat→Nat} {a:Int} (ha:0≤a∧a<n):∀ {bs:List Int} {M:List (List Bool)},Rm n bs→(∀ b∈bs,rk a.toNat<rk b.toNat)→Rise n rk M→Rise n rk (relB a bs M)
 | [],_,_,_,h=>h
 | b::bs,M,hb,hr,h=>by
  have hb0:=hb b (by simp)
  refine Rise.relB ha (bs:=bs) (fun x hx=>hb x (by simp [hx])) (fun x hx=>hr x (by simp [hx])) ⟨h.1.set (by omega),fun x y hx hy hxy=>?_⟩
  rw [zl6 h.1 (by omega) (by omega)]at hxy
  split at hxy
  ·rename_i e
   rw [e.1,e.2]; exact hr b (by simp)
  exact h.2 x y hx hy hxy
theorem Rise.relW {n:Nat} {rk:Nat→Nat} {bs:List Int} (hb:Rm n bs):∀ {la:List Int} {M:List (List Bool)},Rm n la→(∀ a∈la,∀ b∈bs,rk a.toNat<rk b.toNat)→Rise n rk M→Rise n rk (relW M la bs)
 | [],_,_,_,h=>h
 | a::la,M,ha,hr,h=>Rise.relW hb (la:=la) (fun x hx=>ha x (by simp [hx])) (fun x hx=>hr x (by simp [hx])) (h.relB (ha a (by simp)) hb (hr a (by simp)))
theorem Rise.empty {n:Nat} {rk:Nat→Nat}:Rise n rk (zcc n):=by
 refine ⟨zev n,fun a b ha hb h=>?_⟩
 simp [zc7,zcc,ha,hb]at h
theorem Rise.ord {g:List (List Int)} {nh nw n:Nat} {r0 r1:Nat→Nat} (hrm:zyx g nh nw n) (h0:∀ w,zvr g nh nw w→w.level=false→∀ a∈(za7 g w).1,∀ b∈(za7 g w).2,r0 a.toNat<r0 b.toNat)
  (h1:∀ w,zvr g nh nw w→w.level=true→∀ a∈(za7 g w).1,∀ b∈(za7 g w).2,r1 a.toNat<r1 b.toNat):∀ (ws:List Wall),(∀ w∈ws,zvr g nh nw w)→∀ {M:List (List Bool) × List (List Bool)},Rise n r0 M.1→Rise n r1 M.2 →
  Rise n r0 (ws.foldl (zpd g) M).1∧Rise n r1 (ws.foldl (zpd g) M).2
 | [],_,_,k0,k1=>⟨k0,k1⟩
 | w::ws,hws,M,k0,k1=>by
  have hw:=hws w (by simp)
  obtain ⟨hr1,hr2⟩:=zg2 hrm hw
  rw [List.foldl_cons]
  refine Rise.ord hrm h0 h1 ws (fun w hw=>hws w (by simp [hw])) ?_ ?_
  ·unfold zpd
   cases hlv:w.level with
   | false=>simpa using k0.relW hr2 hr1 (h0 w hw hlv)
   | true=>simpa using k0
  unfold zpd
  cases hlv:w.level with
  | false=>simpa using k1
  | true=>simpa using k1.relW hr2 hr1 (h1 w hw hlv)
theorem ygr {g:List (List Int)} {nh nw:Nat} {w:Wall} (hw:zvr g nh nw w) {x:Int} (hx:x∈(za7 g w).1):∃ line j:Nat,w.line=line∧x=(zcs g w.level line j).1∧InL nh nw w.level line j∧zkp g w.level line j=true:=by
 obtain ⟨line,fr,long,e,h1,h2⟩:=hw
 have e1:w.line.toNat=line:=by rw [e]; simp
 have e2:w.fr.toNat=fr:=by rw [e]; simp
 have e3:w.long.toNat=long:=by rw [e]; simp
 simp only[za7,e1,e2,e3]at hx
 have:=zno.1 hx
 simp only[zbu,List.mem_map,List.mem_range]at this
 obtain ⟨j,hj,rfl⟩:=this
 have h3:=h2 (fr+j) (by omega) (by omega)
 exact ⟨line,fr+j,by rw [e],rfl,h3.1,h3.2⟩
theorem ygs {g:List (List Int)} {nh nw:Nat} {w:Wall} (hw:zvr g nh nw w) {x:Int} (hx:x∈(za7 g w).2):∃ line j:Nat,w.line=line∧x=(zcs g w.level line j).2∧InL nh nw w.level line j∧zkp g w.level line j=true:=by
 obtain ⟨line,fr,long,e,h1,h2⟩:=hw
 have e1:w.line.toNat=line:=by rw [e]; simp
 have e2:w.fr.toNat=fr:=by rw [e]; simp
 have e3:w.long.toNat=long:=by rw [e]; simp
 simp only[za7,e1,e2,e3]at hx
 have:=zno.1 hx
 simp only[zbu,List.mem_map,List.mem_range]at this
 obtain ⟨j,hj,rfl⟩:=this
 have h3:=h2 (fr+j) (by omega) (by omega)
 exact ⟨line,fr+j,by rw [e],rfl,h3.1,h3.2⟩
def rkL (p:List Txt) (a:Nat):Nat:=match (rP p)[a]? with | some b=>b.col.toNat | none=>0
def rkA (p:List Txt) (a:Nat):Nat:=match (rP p)[a]? with | some b=>b.row.toNat | none=>0
theorem zga {p:List Txt} (hp:zbs p=true) {i j:Nat} (hi:i<p.length) (hj:j<(zao p).length):∃ b,(rP p)[(zak p i j).toNat]?=some b∧inB b i j=true∧b.Fit∧∀ k l,k<p.length→l<(zao p).length→inB b k l=true→zak p k l=zak p i j:=by
 have hN:=zcx hp
 have hr:=hN.room hi hj
 obtain ⟨b,hb,hbm⟩:=zag (show (zak p i j).toNat<(rP p).length by omega)
 have hf:=z7z hp
 have hsm:=zbl hN.hg
 obtain ⟨row0,hr0,hm0⟩:=zag hsm.1
 have hh:=zcu hr0
 have hw6:=hsm.2.2 row0 hm0
 have hw1:=zfg hN.hg hr0
 rw [← hh]at hw6 hw1
 have hok:=(zgb (g:=zb6 p) hw6 hw1 p.length hsm.2.1).1
 rw [← z76]at hok
 refine ⟨b,hb,?_,hok.2 b hbm,fun k l hk hl hkl=>?_⟩
 ·rw [hN.fill hf hb hi hj]; exact decide_eq_true (by omega)
 rw [hN.fill hf hb hk hl]at hkl
 have:=of_decide_eq_true hkl
 omega
theorem z70 {p:List Txt} (hp:zbs p=true) {w:Wall} (hw:zvr (gP p) p.length (zao p).length w) (hl:w.level=false):∀ a∈(za7 (gP p) w).1,∀ b∈(za7 (gP p) w).2,rkL p a.toNat<rkL p b.toNat:=by
 intro a ha b hb
 have hN:=zcx hp
 obtain ⟨L,j,e1,rfl,⟨h1,h2⟩,h3⟩:=ygr hw ha
 obtain ⟨L',j',e2,rfl,⟨k1,k2⟩,k3⟩:=ygs hw hb
 obtain rfl:L=L':=by omega
 simp only[hl,qF,if_false]at h2 k2
 unfold zkp at k3
 simp only[hl,zcs,qF,if_false,decide_eq_true_eq]at k3 ⊢
 rw [hN.cell k2.2 (by omega),hN.cell k2.2 k2.1]at k3
 rw [hN.cell h2.2 (by omega),hN.cell k2.2 k2.1]
 obtain ⟨r1,hr1,q1,f1,-⟩:=zga hp h2.2 (show L - 1<(zao p).length by omega)
 obtain ⟨r2,hr2,q2,f2,c2⟩:=zga hp k2.2 k2.1
 unfold rkL
 rw [hr1,hr2]
 simp only
 have c3:=c2 j' (L - 1) k2.2 (by omega)
 unfold inB at q1 q2 c3
 unfold Rect.Fit at f1 f2
 simp only[qB,decide_eq_true_eq]at q1 q2 c3
 by_cases hc:r2.col<(L:Int)
 ·exact absurd (c3 (by omega)) k3
 omega
theorem z4a {p:List Txt} (hp:zbs p=true) {w:Wall} (hw:zvr (gP p) p.length (zao p).length w) (hl:w.level=true):∀ a∈(za7 (gP p) w).1,∀ b∈(za7 (gP p) w).2,rkA p a.toNat<rkA p b.toNat:=by
 intro a ha b hb
 have hN:=zcx hp
 obtain ⟨L,j,e1,rfl,⟨h1,h2⟩,h3⟩:=ygr hw ha
 obtain ⟨L',j',e2,rfl,⟨k1,k2⟩,k3⟩:=ygs hw hb
 obtain rfl:L=L':=by omega
 simp only[hl,if_true]at h2 k2
 unfold zkp at k3
 simp only[hl,zcs,if_true,decide_eq_true_eq]at k3 ⊢
 rw [hN.cell (by omega) k2.2,hN.cell k2.1 k2.2]at k3
 rw [hN.cell (by omega) h2.2,hN.cell k2.1 k2.2]
 obtain ⟨r1,hr1,q1,f1,-⟩:=zga hp (show L - 1<p.length by omega) h2.2
 obtain ⟨r2,hr2,q2,f2,c2⟩:=zga hp k2.1 k2.2
 unfold rkA
 rw [hr1,hr2]
 simp only
 have c3:=c2 (L - 1) j' (by omega) k2.2
 unfold inB at q1 q2 c3
 unfold Rect.Fit at f1 f2
 simp only[qB,decide_eq_true_eq]at q1 q2 c3
 by_cases hc:r2.row<(L:Int)
 ·exact absurd (c3 (by omega)) k3
 omega
theorem ygo {p:List Txt} (hp:zbs p=true) (b:Nat):rkL p b≤100∧rkA p b≤100:=by
 have hN:=zcx hp
 have hsm:=zbl hN.hg
 obtain ⟨row0,hr0,hm0⟩:=zag hsm.1
 have hh:=zcu hr0
 have hw6:=hsm.2.2 row0 hm0
 have hw1:=zfg hN.hg hr0
 rw [← hh]at hw6 hw1
 have hok:=(zgb (g:=zb6 p) hw6 hw1 p.length hsm.2.1).1
 rw [← z76]at hok
 unfold rkL rkA
 cases hb:(rP p)[b]? with
 | none=>simp
 | some r =>
  have:=hok.2 r (List.mem_of_getElem? hb)
  unfold Rect.Fit at this
  simp only
  omega
theorem yef {p:List Txt} (hp:zbs p=true):Up (zzn (gP p) p.length (zao p).length (rP p).length) (rP p).length (rkL p)∧Up (zpt (gP p) p.length (zao p).length (rP p).length) (rP p).length (rkA p):=by
 have h:=Rise.ord (r0:=rkL p) (r1:=rkA p) (zhd (p:=p)) (fun w hw hl=>z70 hp hw hl) (fun w hw hl=>z4a hp hw hl) (zcz (gP p) p.length (zao p).length) zd5 (M:=(zcc (rP p).length,zcc (rP p).length)) Rise.empty Rise.empty
 have h0:=h.1.close
 have h1:=h.2.close
 exact ⟨⟨h0.1,h0.2,fun b=>(ygo hp b).1⟩,⟨h1.1,h1.2,fun b=>(ygo hp b).2⟩⟩
theorem zuq {p:List Txt} (hp:zdj p=true):zyx (gP p) p.length (w0 (zb6 p)) (rP p).length∧(∃ rk,Up (zzn (gP p) p.length (w0 (zb6 p)) (rP p).length) (rP p).length rk)∧∃ rk,Up (zpt (gP p) p.length (w0 (zb6 p)) (rP p).length) (rP p).length rk:=by
 rw [zf9]at hp
 have h:=yef (zd6 hp)
 rw [zh7]
 exact ⟨zhd,⟨_,h.1⟩,⟨_,h.2⟩⟩
section
open Go Go.ChangeShapes Go.WideShapes Go.ChangeAt Go.RowKit
set_option maxRecDepth 100000 in
theorem ya8 {W:World} {base:Nat} {t e:TypeId} {a:Addr} {len cap:Nat} (ht:Tryz.prog.underlying t=some (.slice e)) (hval:Value.okWide Tryz.prog W .any base t (.slice (some a) len cap)):a.spot=none∧a.block<W.heap.size:=by
 simp only[Value.okWide,ht,Cell.okWide,Cell.ok]at hval
 obtain ⟨-,-,-,hsp,row,cells,hsh,-⟩:=hval
 refine ⟨hsp,?_⟩
 unfold World.shape? at hsh
 rcases Nat.lt_or_ge a.block W.heap.size with h | h
 ·exact h
 rw [Array.getElem?_eq_none h]at hsh; cases hsh
end
section
open Go Go.ChangeShapes Go.WideShapes Go.ChangeAt Go.RowKit
set_option maxRecDepth 100000 in
theorem ybj {H:Type} {enc:TypeId × Value→H} {W:World} {base:Nat} {v:Value} {d:DataW H} {ps:List MemPlace} (hval:Value.okWide Tryz.prog W .any base 22 v) (h:DataW.Trod enc Tryz.prog W 0 (fun _=>true) true 22 v d ps) :
  ∃ p:Txt,VI W.heap (fun b=>b<W.heap.size) (.sl (p.map eB) p.length) v∧p.length≤9223372036854775807:=by
 obtain ⟨a0,len,cap,rfl⟩:=okWide_slice Tryz.underlying22 hval
 obtain ⟨fuel,hf⟩:=h
 rcases open_ints Tryz.underlying22 Tryz.underlying5 (by kernel_rfl) hf with ⟨hcs,hx⟩ | ⟨a,len',cap',zs,hcs,-,hl,hm,hz,hx,hcell,hwf⟩
 ·simp [Value.cells]at hcs
  obtain ⟨rfl,rfl,rfl⟩:=hcs
  exact ⟨[],.sl0,by simp⟩
 simp [Value.cells]at hcs
 obtain ⟨rfl,rfl,rfl⟩:=hcs
 obtain ⟨hsp,hlt⟩:=ya8 Tryz.underlying22 hval
 obtain ⟨b,off,spot⟩:=a
 simp only at hsp hlt
 subst hsp
 simp only[if_true]at hz
 have hml:maxLen≤9223372036854775807:=by decide
 have hlen:((zs.take len).map fun n:Int=>UInt8.ofNat n.toNat).length=len:=by simp; omega
 have hget:∀ (i:Nat) c,((zs.take len).map fun n:Int=>UInt8.ofNat n.toNat)[i]?=some c→i<len∧(c.toNat:Int)=zs.getD i 0:=by
  intro i c hc
  rw [List.getElem?_map,qI]at hc
  obtain ⟨z,hz1,rfl⟩:=hc
  have hi:=zbp hz1
  simp only[List.length_take]at hi
  rw [List.getElem?_take_of_lt (by omega)]at hz1
  refine ⟨by omega,?_⟩
  rw [List.getD_eq_getElem?_getD,hz1,Option.getD_some]
  have hw:=hwf z (List.mem_of_getElem? hz1)
  have hz8:0≤z∧z<256:=by
   have e:IntKind.u8.min≤z∧z≤IntKind.u8.max:=by simpa [Lit.wf] using hw
   have e1:IntKind.u8.min=0:=by decide
   have e2:IntKind.u8.max=255:=by decide
   omega
  have e3:(UInt8.ofNat z.toNat).toNat=z.toNat % 256:=rfl
  rw [e3]
  omega
 refine ⟨(zs.take len).map fun n:Int=>UInt8.ofNat n.toNat,?_,by rw [hlen]; omega⟩
 rw [hlen]
 refine .sl _ _ b off cap (fun i => .int .u8 (zs.getD i 0)) (fun _=>hlt) hl (fun i q hq=>?_) (fun i q hq=>?_)
 ·rw [List.getElem?_map,qI]at hq
  obtain ⟨c,hc,rfl⟩:=hq
  obtain ⟨hi,-⟩:=hget i c hc
  refine ⟨rfl,?_⟩
  rw [← zgs]
  have:=hcell i (by omega)
  rwa [add_lit]at this
 rw [List.getElem?_map,qI]at hq
 obtain ⟨c,hc,rfl⟩:=hq
 obtain ⟨-,e⟩:=hget i c hc
 show VI _ _ (.int .u8 (c.toNat:Int)) _
 rw [e]
 exact .int _ _
end
theorem PC.old {P:Program} {f:FuncId} {args:List PV} {r:PV} (h:PC P f args r true):PC P f args r false :=
 ⟨h.ent,fun F w c h1 h2 h3=>(h.run F w c h1 h2 h3).mono fun _ _ ⟨cv,a,b,d⟩=>⟨cv,a,b,d.mono (fun _ hb => .inl (hb.resolve_right (by simp))) (fun _ _=>rfl)⟩⟩
section
theorem Ev.fz {P:Program} {f:FuncId} {args:List PV} {S:Store} {J J':PV→Store→Prop} (h:Ev P f args S J) (lo:Nat)
  (hJ:∀ v S1,J v S1→∃ v' S',frz S1 lo 10 v=some v'∧S1.frz lo=some S'∧J' v' S'):Ev P f args S J':=by
 refine ⟨h.ent,fun F G w cargs h1 h2 h3 h4=>(h.run F G w cargs h1 h2 h3 h4).mono ?_⟩
 rintro en w' ⟨v,cv,F',G',rfl,k1,k2,k3,k4⟩
 obtain ⟨v',S',j1,j2,j3⟩:=hJ _ _ k1
 obtain ⟨G2,rfl,i1,i2⟩:=z1i k2 j2
 exact ⟨v',cv,_,G2,rfl,j3,i1,k3.trans i2,zl4 k2 (fun _ h=>h) i2 k4 j1⟩
theorem PC.all {P:Program} {f:FuncId} {xs ts:List PV} {r:PV} {fr:Bool} {S:Store} (h:PC P f ts r fr) (h1:xs.mapM (rfz S 0 10)=some ts):Ev P f xs S fun v S'=>v=r∧S'=⟨[],S.tick⟩:=by
 refine ⟨h.ent,fun F G w cargs hS hi hl hv=>?_⟩
 subst hS
 obtain ⟨m1,m2⟩:=zco _ _ h1
 have hF:∀ b,zov F G 0 b→b<w.heap.size:=by
  rintro b (hb | ⟨o,x,-,hx,rfl⟩)
  ·exact hi.fr b hb
  exact hi.blk_lt hx
 refine (h.run (zov F G 0) w cargs hF (by omega) fun i p c q1 q2=>?_).mono ?_
 ·obtain ⟨x,x1,x2⟩:=m2 i p q1
  exact zms hi (hv i x c x1 q2) x2
 rintro e w' ⟨cv,rfl,⟨hb,hd⟩,hvi⟩
 refine ⟨r,cv,fun b=>zov F G 0 b∨(w.heap.size≤b∧b<w'.heap.size),⟨[],G.tick⟩,rfl,⟨rfl,rfl⟩,⟨?_,by simp,by simp,by simp,by simp,by simp,by simp⟩,⟨hb.os,hb.tape,hb.output,hb.size,fun b hb => .inl (.inl hb),?_,by simp,qR _,fun b h2 _=>hb.block b h2,by simp,hd⟩,.imm _ _ (hvi.mono ?_ (fun _ _=>rfl))⟩
 ·rintro b (h2 | h2)
  ·exact Nat.lt_of_lt_of_le (hF b h2) hb.size
  exact h2.2
 ·rintro b ((h2 | ⟨o,x,-,hx,rfl⟩) | h2)
  ·exact .inl h2
  ·exact .inr (.inr ⟨o,x,hx,rfl⟩)
  exact .inr (.inl h2.1)
 rintro b (h2 | ⟨-,h2⟩)
 ·exact .inr h2
 exact .inl h2
section
variable {P:Program} {T:Tab} {Q:Exit→Env→Store→Prop} {e:Env} {S:Store} {b:Code}
end
end
section
open Go Go.RowKit
set_option maxHeartbeats 1000000 in
set_option maxRecDepth 100000 in
theorem zy9 (s:ByteArray) (w:World) :
  Calls Tryz.prog 54 #[.string s,.string ⟨#[111]⟩] w fun e w'=>e = .returned (.int .i64 ((s.data.toList.count 111:Nat):Int))∧w'=w:=by
 go_enter Tryz.func54,Tryz.ntmps54
 go_wp2
 rw [run_callFunc_extern Tryz.func102 (by kernel_rfl) (by kernel_rfl) (by kernel_rfl) (e:=Extern.BytealgCount.count) (by kernel_rfl)]
 rw [Lib.run_countString]
 simp only[Result.andThen]
 rw [Oper.upon_value]
 go_wp2
 go_ret
 exact ⟨rfl,rfl⟩
theorem z02 (s:List UInt8):PC Tryz.prog 54 [.str s,.str [111]] (.int .i64 ((s.count 111:Nat):Int)) true:=by
 refine ⟨(⟨Tryz.func54,by kernel_rfl,rfl,by kernel_rfl⟩:Fn Tryz.prog 54 _ _).ent,fun F w cargs hF hl hv=>?_⟩
 obtain ⟨cs⟩:=cargs
 match cs,hl,hv with
 | [c0,c1],_,hv =>
  have h0:=hv 0 _ _ rfl rfl
  have h1:=hv 1 _ _ rfl rfl
  cases h0 with
  | str _ b0 e0 =>
   cases h1 with
   | str _ b1 e1 =>
    have hb:b1=⟨#[111]⟩:=by
     obtain ⟨d⟩:=b1
     congr 1
     exact Array.toList_inj.1 e1
    subst hb
    refine (zy9 b0 w).mono ?_
    rintro e w' ⟨rfl,rfl⟩
    exact ⟨_,rfl,⟨RowKit.Below.refl _ _,qR _⟩,by rw [e0]; exact .int _ _⟩
end
inductive Tm where
 | o
 | un (s:UInt8) (t:Tm)
 | bin (s:UInt8) (a b:Tm)
def rd:Nat→Txt→Option (Tm × Txt)
 | 0,_=>none
 | _+1,[]=>none
 | f+1,c::r =>
  if c=111 then some (.o,r)
  else if c=62∨c=94 then match rd f r with
   | some (t,r)=>some (.un c t,r)
   | none=>none
  else if c=40 then match rd f r with
   | some (a,m::r)=>if m=124∨m=45 then match rd f r with
    | some (b,e::r)=>if e=41 then some (.bin m a b,r) else none
    | _=>none else none
   | _=>none
  else none
theorem z2j:∀ (f:Nat) {s:Txt} {t:Tm} {r:Txt},rd f s=some (t,r)→r.length<s.length∧∃ k,r=s.drop k:=by
 intro f
 induction f with
 | zero=>intro s t r h; simp [rd]at h
 | succ f ih =>
  intro s t r h
  cases s with
  | nil=>simp [rd]at h
  | cons c s =>
   simp only[rd]at h
   split at h
   ·cases h; exact ⟨by simp,1,rfl⟩
   split at h
   ·split at h
    ·rename_i t' r' e
     cases h
     obtain ⟨h1,k,h2⟩:=ih e
     exact ⟨by simp; omega,k+1,by simpa using h2⟩
    cases h
   split at h
   ·split at h
    ·rename_i a m r1 e
     obtain ⟨h1,k,h2⟩:=ih e
     split at h
     ·split at h
      ·rename_i b e2 r2 e3
       obtain ⟨h3,k3,h4⟩:=ih e3
       split at h
       ·cases h
        simp only[List.length_cons]at h1 h3 ⊢
        refine ⟨by omega,k+k3+3,?_⟩
        have e4:r1=s.drop (k+1):=by
         have:=congrArg (List.drop 1) h2
         simpa [List.drop_drop,Nat.add_comm] using this
        have e5:r=r1.drop (k3+1):=by
         have:=congrArg (List.drop 1) h4
         simpa [List.drop_drop,Nat.add_comm] using this
        rw [e5,e4,List.drop_drop,show k+k3+3=(k+1+(k3+1))+1 by omega,List.drop_succ_cons]
       cases h
      cases h
     cases h
    cases h
   cases h
theorem yei:∀ (f:Nat) {s:Txt} {g:Nat},s.length<f→s.length<g→rd f s=rd g s:=by
 intro f
 induction f with
 | zero=>intro s g h; omega
 | succ f ih =>
  intro s g hf hg
  obtain ⟨g,rfl⟩:∃ k,g=k+1:=⟨g - 1,by omega⟩
  cases s with
  | nil=>simp [rd]
  | cons c s =>
   simp only[List.length_cons]at hf hg
   have e:=ih (s:=s) (g:=g) (by omega) (by omega)
   simp only[rd,e]
   cases h:rd g s with
   | none=>rfl
   | some q =>
    obtain ⟨a,r⟩:=q
    have hs:=(z2j g h).1
    cases r with
    | nil=>rfl
    | cons m r =>
     simp only[List.length_cons]at hs
     have e2:=ih (s:=r) (g:=g) (by omega) (by omega)
     simp only[e2]
section
structure Pl (c:Nat→Nat→Nat) (H W:Nat):Prop where
 rect:∀ {i j i' j':Nat} (k l:Nat),i<H→i'<H→j<W→j'<W→c i j=c i' j'→min i i'≤k→k≤max i i'→min j j'≤l→l≤max j j'→c k l=c i j
 plain:∀ {i j:Nat},i+1<H→j+1<W→c i j≠c i (j+1)→c (i+1) j≠c (i+1) (j+1)→c i j≠c (i+1) j→c i (j+1)=c (i+1) (j+1)
def DL (c:Nat→Nat→Nat) (H W a b:Nat):Prop:=∃ j i1 i2,j+1<W∧i1<H∧i2<H∧(∀ r,min i1 i2≤r→r≤max i1 i2→c r j≠c r (j+1))∧a=c i1 j∧b=c i2 (j+1)
def DU (c:Nat→Nat→Nat) (H W a b:Nat):Prop:=∃ i j1 j2,i+1<H∧j1<W∧j2<W∧(∀ k,min j1 j2≤k→k≤max j1 j2→c i k≠c (i+1) k)∧a=c i j1∧b=c (i+1) j2
theorem zuh {P:Nat→Prop}:∀ {n:Nat},P n→∃ m,m≤n∧P m∧∀ k,k<m→¬ P k:=by
 intro n
 induction n using Nat.strongRecOn with
 | _ n ih =>
  intro h
  by_cases c:∃ k,k<n∧P k
  ·obtain ⟨k,hk,hp⟩:=c
   obtain ⟨m,h1,h2,h3⟩:=ih k hk hp
   exact ⟨m,by omega,h2,h3⟩
  exact ⟨n,qR _,h,fun k hk hp=>c ⟨k,hk,hp⟩⟩
theorem zzc {P:Nat→Prop} {i:Nat}:∀ {n:Nat},i≤n→P i→¬ P n→∃ e,i≤e∧e+1≤n∧P e∧¬ P (e+1)
 | 0,h,h1,h2=>by
    obtain rfl:i=0:=by omega
    exact absurd h1 h2
 | n+1,h,h1,h2=>by
  by_cases c:P n
  ·by_cases e:i=n+1
   ·subst e; exact absurd h1 h2
   exact ⟨n,by omega,qR _,c,h2⟩
  by_cases e:i=n+1
  ·subst e; exact absurd h1 h2
  obtain ⟨m,k1,k2,k3⟩:=zzc (P:=P) (i:=i) (n:=n) (by omega) h1 c
  exact ⟨m,k1,by omega,k3⟩
section
variable {c:Nat→Nat→Nat} {H W:Nat}
def Stair (c:Nat→Nat→Nat) (H W:Nat) (Z:Nat→Prop):Prop:=∀ {i j:Nat} (i' j':Nat),i<H→j<W→i'≤i→j'≤j→Z (c i j)→Z (c i' j')
def Free (c:Nat→Nat→Nat) (H W:Nat) (Z:Nat→Prop):Prop:=∃ i j,i<H∧j<W∧¬ Z (c i j)∧(∀ a,DL c H W a (c i j)∨DU c H W a (c i j)→Z a)∧Stair c H W fun x=>Z x∨x=c i j
theorem z6b (h:Pl c H W) {Z:Nat→Prop} (hZ:Stair c H W Z) {i j:Nat} (hi:i<H) (hj:j<W) (hn:¬ Z (c i j)) (hu:∀ i',i'+1=i→Z (c i' j)) (hl:∀ j',j'+1=j→Z (c i j'))
  (hN:∀ i',i'+1=i→∀ k,j≤k→k<W→(∀ l,j≤l→l≤k→c i' l≠c i l)→Z (c i' k))
  (hA:∀ j',j'+1=j→∀ k,i≤k→k<H→(∀ r,i≤r→r≤k→c r j'≠c r j)→Z (c k j')):Free c H W Z:=by
 have up:∀ {i2 j2:Nat},i2<H→j2<W→c i2 j2=c i j→i≤i2:=by
  intro i2 j2 h1 h2 h3
  by_cases q:i≤i2
  ·exact q
  have h4:=hu (i - 1) (by omega)
  rw [h.rect (i - 1) j h1 hi h2 hj h3 (by omega) (by omega) (by omega) (by omega),h3]at h4
  exact absurd h4 hn
 have lf:∀ {i2 j2:Nat},i2<H→j2<W→c i2 j2=c i j→j≤j2:=by
  intro i2 j2 h1 h2 h3
  by_cases q:j≤j2
  ·exact q
  have h4:=hl (j - 1) (by omega)
  rw [h.rect i (j - 1) h1 hi h2 hj h3 (by omega) (by omega) (by omega) (by omega),h3]at h4
  exact absurd h4 hn
 have runL:∀ {i2 j2 r j':Nat},i2<H→j2<W→c i2 j2=c i j→j'+1=j→i≤r→r≤i2→c r j'≠c r j:=by
  intro i2 j2 r j' h1 h2 h3 h4 h5 h6 h7
  have h8:=lf h1 h2 h3
  have e1:c r j=c i j:=by
   rw [h.rect r j h1 hi h2 hj h3 (by omega) (by omega) (by omega) (by omega),h3]
  have h9:=lf (i2:=r) (j2:=j') (by omega) (by omega) (by rw [h7,e1])
  omega
 have runU:∀ {i2 j2 l i':Nat},i2<H→j2<W→c i2 j2=c i j→i'+1=i→j≤l→l≤j2→c i' l≠c i l:=by
  intro i2 j2 l i' h1 h2 h3 h4 h5 h6 h7
  have h8:=up h1 h2 h3
  have e1:c i l=c i j:=by
   rw [h.rect i l h1 hi h2 hj h3 (by omega) (by omega) (by omega) (by omega),h3]
  have h9:=up (i2:=i') (j2:=l) (by omega) (by omega) (by rw [h7,e1])
  omega
 refine ⟨i,j,hi,hj,hn,?_,?_⟩
 ·rintro a (⟨j0,i1,i2,k1,k2,k3,run,rfl,k4⟩ | ⟨i0,j1,j2,k1,k2,k3,run,rfl,k4⟩)
  ·have h1:=lf k3 k1 k4.symm
   have e:j0+1=j:=by
    by_cases q:j0+1=j
    ·exact q
    have:=h.rect i2 j0 k3 hi k1 hj k4.symm (by omega) (by omega) (by omega) (by omega)
    exact absurd this (run i2 (by omega) (by omega))
   subst e
   have h2:=up k3 k1 k4.symm
   by_cases q:i1<i
   ·exact hZ i1 j0 hi (by omega) (by omega) (qR _) (hl j0 rfl)
   refine hA j0 rfl i1 (by omega) k2 fun r r1 r2=>?_
   by_cases q2:min i1 i2≤r
   ·exact run r q2 (by omega)
   exact runL k3 k1 k4.symm rfl r1 (by omega)
  have h1:=up k1 k3 k4.symm
  have e:i0+1=i:=by
   by_cases q:i0+1=i
   ·exact q
   have:=h.rect i0 j2 k1 hi k3 hj k4.symm (by omega) (by omega) (by omega) (by omega)
   exact absurd this (run j2 (by omega) (by omega))
  subst e
  have h2:=lf k1 k3 k4.symm
  by_cases q:j1<j
  ·exact hZ i0 j1 (by omega) hj (qR _) (by omega) (hu i0 rfl)
  refine hN i0 rfl j1 (by omega) k2 fun r r1 r2=>?_
  by_cases q2:min j1 j2≤r
  ·exact run r q2 (by omega)
  exact runU k1 k3 k4.symm rfl r1 (by omega)
 intro i2 k2 i' j' h1 h2 h3 h4 h5
 rcases h5 with h5 | h5
 ·exact .inl (hZ i' j' h1 h2 h3 h4 h5)
 have q1:=up h1 h2 h5
 have q2:=lf h1 h2 h5
 by_cases q3:i'<i
 ·left
  refine hZ i' j' (show i - 1<H by omega) h2 (by omega) h4 (hN (i - 1) (by omega) k2 q2 h2 fun l l1 l2=>runU h1 h2 h5 (by omega) l1 l2)
 by_cases q4:j'<j
 ·left
  exact hZ i' j' h1 (show j - 1<W by omega) h3 (by omega) (hA (j - 1) (by omega) i2 q1 h1 fun r r1 r2=>runL h1 h2 h5 (by omega) r1 r2)
 right
 rw [h.rect i' j' h1 hi h2 hj h5 (by omega) (by omega) (by omega) (by omega),h5]
theorem z6a (h:Pl c H W) {Z:Nat→Prop} (hZ:Stair c H W Z):∀ (j i:Nat),i<H→j<W→¬ Z (c i j)→(∀ i',i'+1=i→Z (c i' j))→(∀ j',j'+1=j→Z (c i j')) →
  (∀ i',i'+1=i→∀ k,j≤k→k<W→(∀ l,j≤l→l≤k→c i' l≠c i l)→Z (c i' k))→Free c H W Z:=by
 intro j
 induction j using Nat.strongRecOn with
 | _ j ih =>
  intro i hi hj hn hu hl hN
  by_cases hA:∀ j',j'+1=j→∀ k,i≤k→k<H→(∀ r,i≤r→r≤k→c r j'≠c r j)→Z (c k j')
  ·exact z6b h hZ hi hj hn hu hl hN hA
  simp only[Classical.not_forall]at hA
  obtain ⟨j',rfl,k,h1,h2,run,h3⟩:=hA
  obtain ⟨e,e1,e2,e3,e4⟩:=zzc (P:=fun r=>Z (c r j')) h1 (hl j' rfl) h3
  obtain ⟨m,m1,m2,m3⟩:=zuh (P:=fun l=>¬ Z (c (e+1) l)) e4
  refine ih m (by omega) (e+1) (by omega) (by omega) m2 ?_ ?_ ?_
  ·intro i' hi'
   obtain rfl:i'=e:=by omega
   exact hZ i' m (by omega) (by omega) (qR _) m1 e3
  ·intro l hl'
   exact Classical.not_not.1 (m3 l (by omega))
  intro i' hi' k2 k3 k4 k5
  obtain rfl:i'=e:=by omega
  by_cases q:k2≤j'
  ·exact hZ i' k2 (by omega) (by omega) (qR _) q e3
  have q1:=k5 (j'+1) (by omega) (by omega)
  have q2:=h.plain (i:=i') (j:=j') (by omega) hj (run i' (by omega) (by omega)) (run (i'+1) (by omega) (by omega)) (fun q3=>e4 (by rw [← q3]; exact e3))
  exact absurd q2 q1
theorem ydi (h:Pl c H W) {Z:Nat→Prop} (hZ:Stair c H W Z) (hx:∃ i j,i<H∧j<W∧¬ Z (c i j)):Free c H W Z:=by
 obtain ⟨i,hx⟩:=hx
 obtain ⟨i,-,⟨j,h1,h2,h3⟩,h4⟩:=zuh (P:=fun i=>∃ j,i<H∧j<W∧¬ Z (c i j)) hx
 obtain ⟨j,j1,j2,j3⟩:=zuh (P:=fun j=>¬ Z (c i j)) h3
 have all:∀ i',i'+1=i→∀ k,k<W→Z (c i' k):=fun i' e k hk=>Classical.byContradiction fun q=>h4 i' (by omega) ⟨k,by omega,hk,q⟩
 exact z6a h hZ j i h1 (by omega) j2 (fun i' e=>all i' e j (by omega)) (fun j' e=>Classical.not_not.1 (j3 j' (by omega))) (fun i' e k _ hk _=>all i' e k hk)
theorem z34 (h:Pl c H W) {n:Nat} (hc:∀ i j,i<H→j<W→c i j<n):∀ (m:Nat) (Z:Nat→Bool),Stair c H W (fun x=>Z x=true)→(List.range n).countP (fun x => !Z x)≤m→∃ f:Nat→Nat,∀ a b,Z a=false→Z b=false→DL c H W a b∨DU c H W a b→f a<f b:=by
 have cell:∀ {a b:Nat},DL c H W a b∨DU c H W a b→∃ i j,i<H∧j<W∧a=c i j:=by
  rintro a b (⟨j0,i1,i2,k1,k2,k3,run,rfl,k4⟩ | ⟨i0,j1,j2,k1,k2,k3,run,rfl,k4⟩)
  ·exact ⟨i1,j0,k2,by omega,rfl⟩
  exact ⟨i0,j1,by omega,k2,rfl⟩
 intro m
 induction m with
 | zero =>
  intro Z hZ hm
  refine ⟨fun _=>0,fun a b ha hb hd=>?_⟩
  obtain ⟨i,j,hi,hj,rfl⟩:=cell hd
  have h0:(List.range n).countP (fun x => !Z x)=0:=by omega
  rw [List.countP_eq_zero]at h0
  exact absurd (show (!Z (c i j))=true by rw [ha]; rfl) (h0 _ (by simpa using hc i j hi hj))
 | succ m ih =>
  intro Z hZ hm
  by_cases hx:∃ i j,i<H∧j<W∧¬ (Z (c i j)=true)
  ·obtain ⟨i,j,hi,hj,hn,hp,hs⟩:=ydi h (Z:=fun x=>Z x=true) hZ hx
   have hZ':Stair c H W (fun x=>(Z x || x == c i j)=true):=by
    intro i1 j1 i' j' h1 h2 h3 h4 h5
    have h6:=hs i' j' h1 h2 h3 h4 (by simpa using h5)
    simpa using h6
   have hlt:(List.range n).countP (fun x => !(Z x || x == c i j))<(List.range n).countP (fun x => !Z x):=by
    refine zo3 (fun x _ hx=>?_) ⟨c i j,by simpa using hc i j hi hj,by simpa using hn,by simp⟩
    cases hz:Z x with
    | false=>rfl
    | true=>rw [hz]at hx; simp at hx
   obtain ⟨f,hf⟩:=ih (fun x=>Z x || x == c i j) hZ' (by omega)
   refine ⟨fun x=>if x=c i j then 0 else f x+1,fun a b ha hb hd=>?_⟩
   have hbA:b≠c i j:=by
    rintro rfl
    have q:Z a=true:=hp a hd
    rw [ha]at q; cases q
   simp only[if_neg hbA]
   by_cases haA:a=c i j
   ·simp only[if_pos haA]; omega
   simp only[if_neg haA]
   have:=hf a b (by simp [ha,haA]) (by simp [hb,hbA]) hd
   omega
  refine ⟨fun _=>0,fun a b ha hb hd=>?_⟩
  obtain ⟨i,j,hi,hj,rfl⟩:=cell hd
  exact absurd ⟨i,j,hi,hj,by rw [ha]; exact Bool.false_ne_true⟩ hx
theorem z1w (h:Pl c H W) {n:Nat} (hc:∀ i j,i<H→j<W→c i j<n):∃ f:Nat→Nat,∀ a b,DL c H W a b∨DU c H W a b→f a<f b:=by
 obtain ⟨f,hf⟩:=z34 h hc _ (fun _=>false) (fun _ _ _ _ _ _ h=>h) (qR _)
 exact ⟨f,fun a b hd=>hf a b rfl rfl hd⟩
def fl (c:Nat→Nat→Nat) (H i j:Nat):Nat:=c (H - 1 - i) j
def tr (c:Nat→Nat→Nat) (i j:Nat):Nat:=c j i
theorem Pl.dn (h:Pl c H W):Pl (fl c H) H W:=by
 refine ⟨fun k l h1 h2 h3 h4 h5 h6 h7 h8 h9=>?_,fun {i j} h1 h2 h3 h4 h5=>?_⟩
 ·exact h.rect _ _ (by omega) (by omega) h3 h4 h5 (by omega) (by omega) h8 h9
 unfold Fw.fl at *
 obtain ⟨k,rfl⟩:∃ k,H=i+2+k:=⟨H - (i+2),by omega⟩
 rw [show i+2+k - 1 - i=k+1 by omega,show i+2+k - 1 - (i+1)=k by omega] at *
 exact (h.plain (i:=k) (j:=j) (by omega) h2 h4 h3 (Ne.symm h5)).symm
theorem Pl.ex (h:Pl c H W):Pl (tr c) W H :=
 ⟨fun k l h1 h2 h3 h4 h5 h6 h7 h8 h9=>h.rect l k h3 h4 h1 h2 h5 h8 h9 h6 h7,fun {i j} h1 h2 h3 h4 h5=>by
  unfold Fw.tr at *
  by_cases q:c j i=c j (i+1)
  ·exact absurd q h5
  by_cases q2:c (j+1) i=c (j+1) (i+1)
  ·exact q2
  exact absurd (h.plain (i:=j) (j:=i) h2 h1 h5 q2 h3) h4⟩
theorem DL.ex {a b:Nat} (h:DL (tr c) W H a b):DU c H W a b:=h
theorem DU.ex {a b:Nat} (h:DU (tr c) W H a b):DL c H W a b:=h
theorem DL.dn {a b:Nat} (h:DL (fl c H) H W a b):DL c H W a b:=by
 obtain ⟨j,i1,i2,h1,h2,h3,run,rfl,rfl⟩:=h
 refine ⟨j,H - 1 - i1,H - 1 - i2,h1,by omega,by omega,fun r r1 r2=>?_,rfl,rfl⟩
 have:=run (H - 1 - r) (by omega) (by omega)
 unfold Fw.fl at this
 rwa [show H - 1 - (H - 1 - r)=r by omega]at this
theorem DL.unfl {a b:Nat} (h:DL c H W a b):DL (fl c H) H W a b:=by
 obtain ⟨j,i1,i2,h1,h2,h3,run,rfl,rfl⟩:=h
 refine ⟨j,H - 1 - i1,H - 1 - i2,h1,by omega,by omega,fun r r1 r2=>?_,?_,?_⟩
 ·exact run (H - 1 - r) (by omega) (by omega)
 ·unfold Fw.fl; rw [show H - 1 - (H - 1 - i1)=i1 by omega]
 unfold Fw.fl; rw [show H - 1 - (H - 1 - i2)=i2 by omega]
theorem DU.dn {a b:Nat} (h:DU (fl c H) H W a b):DU c H W b a:=by
 obtain ⟨i,j1,j2,h1,h2,h3,run,rfl,rfl⟩:=h
 refine ⟨H - 1 - (i+1),j2,j1,by omega,h3,h2,fun k k1 k2=>?_,?_,?_⟩
 ·have:=run k (by omega) (by omega)
  unfold Fw.fl at this
  rw [show H - 1 - (i+1)+1=H - 1 - i by omega]
  exact Ne.symm this
 ·rfl
 unfold Fw.fl; rw [show H - 1 - (i+1)+1=H - 1 - i by omega]
theorem DU.unfl {a b:Nat} (h:DU c H W a b):DU (fl c H) H W b a:=by
 obtain ⟨i,j1,j2,h1,h2,h3,run,rfl,rfl⟩:=h
 refine ⟨H - 1 - (i+1),j2,j1,by omega,h3,h2,fun k k1 k2=>?_,?_,?_⟩
 ·unfold Fw.fl
  rw [show H - 1 - (H - 1 - (i+1))=i+1 by omega,show H - 1 - (H - 1 - (i+1)+1)=i by omega]
  exact Ne.symm (run k (by omega) (by omega))
 ·unfold Fw.fl; rw [show H - 1 - (H - 1 - (i+1))=i+1 by omega]
 unfold Fw.fl; rw [show H - 1 - (H - 1 - (i+1)+1)=i by omega]
theorem z7m (h:Pl c H W) {n:Nat} (hc:∀ i j,i<H→j<W→c i j<n):∃ f:Nat→Nat,∀ a b,DL c H W a b∨DU c H W b a→f a<f b:=by
 obtain ⟨f,hf⟩:=z1w h.dn (n:=n) (fun i j hi hj=>hc _ j (by omega) hj)
 refine ⟨f,fun a b hd=>hf a b ?_⟩
 rcases hd with hd | hd
 ·exact .inl hd.unfl
 exact .inr hd.unfl
inductive TC (R:Nat→Nat→Prop):Nat→Nat→Prop
 | one {a b:Nat}:R a b→TC R a b
 | tail {a b d:Nat}:TC R a b→R b d→TC R a d
theorem TC.mono {R S:Nat→Nat→Prop} (h:∀ a b,R a b→S a b) {a b:Nat} (k:TC R a b):TC S a b:=by
 induction k with
 | one k=>exact .one (h _ _ k)
 | tail _ k ih=>exact .tail ih (h _ _ k)
theorem TC.trans {R:Nat→Nat→Prop} {a b d:Nat} (h:TC R a b) (k:TC R b d):TC R a d:=by
 induction k with
 | one k=>exact .tail h k
 | tail _ k ih=>exact .tail ih k
theorem TC.rev {R S:Nat→Nat→Prop} (h:∀ a b,R a b→S b a) {a b:Nat} (k:TC R a b):TC S b a:=by
 induction k with
 | one k=>exact .one (h _ _ k)
 | tail _ k ih=>exact (TC.one (h _ _ k)).trans ih
theorem TC.last {R:Nat→Nat→Prop} {a b:Nat} (h:TC R a b):∃ x,(x=a∨TC R a x)∧R x b:=by
 cases h with
 | one k=>exact ⟨a,.inl rfl,k⟩
 | tail h k=>exact ⟨_,.inr h,k⟩
theorem TC.rise {R:Nat→Nat→Prop} {f:Nat→Nat} (h:∀ a b,R a b→f a<f b) {a b:Nat} (k:TC R a b):f a<f b:=by
 induction k with
 | one k=>exact h _ _ k
 | tail _ k ih=>exact Nat.lt_trans ih (h _ _ k)
theorem zkj {i:Nat} (hi:i<H) {j1:Nat}:∀ {j2:Nat},j1≤j2→j2<W→c i j1≠c i j2→TC (DL c H W) (c i j1) (c i j2)
 | 0,h1,_,h3=>by
    obtain rfl:j1=0:=by omega
    exact absurd rfl h3
 | j2+1,h1,h2,h3=>by
  by_cases e:j1=j2+1
  ·subst e; exact absurd rfl h3
  by_cases q:c i j2=c i (j2+1)
  ·rw [← q]at h3 ⊢
   exact zkj hi (by omega) (by omega) h3
  have hd:DL c H W (c i j2) (c i (j2+1)):=⟨j2,i,i,h2,hi,hi,fun r r1 r2=>by
  obtain rfl:r=i:=by omega
  exact q,rfl,rfl⟩
  by_cases q2:c i j1=c i j2
  ·rw [q2]; exact .one hd
  exact .tail (zkj hi (by omega) (by omega) q2) hd
theorem z92 {j:Nat} (hj:j<W) {i1 i2:Nat} (h1:i1≤i2) (h2:i2<H) (h3:c i1 j≠c i2 j):TC (DU c H W) (c i1 j) (c i2 j) :=
 (zkj (c:=tr c) (H:=W) (W:=H) hj h1 h2 h3).mono fun _ _ h=>h.ex
theorem pass (h:Pl c H W) {r q A:Nat} (hr:r+1<H) (hq:q+1<W) (hNP:c r q=c (r+1) q) (hP:c (r+1) q≠c (r+1) (q+1)) (hQ:c r (q+1)≠c (r+1) (q+1))
  (h1:c (r+1) q=A∨TC (DL c H W) A (c (r+1) q)∨TC (DU c H W) A (c (r+1) q)) (h2:c r (q+1)=A∨TC (DL c H W) A (c r (q+1))∨TC (DU c H W) A (c r (q+1))) :
  TC (DL c H W) A (c (r+1) (q+1))∨TC (DU c H W) A (c (r+1) (q+1)):=by
 have hNQ:c r q≠c r (q+1):=by
  intro e
  have:=h.rect (i:=r+1) (j:=q) (i':=r) (j':=q+1) (r+1) (q+1) hr (by omega) (by omega) hq (by rw [← hNP,e]) (by omega) (by omega) (by omega) (by omega)
  exact hP this.symm
 have dP:DL c H W (c (r+1) q) (c (r+1) (q+1)):=⟨q,r+1,r+1,hq,hr,hr,fun x x1 x2=>by
    obtain rfl:x=r+1:=by omega
    exact hP,rfl,rfl⟩
 have dQ:DU c H W (c r (q+1)) (c (r+1) (q+1)):=⟨r,q+1,q+1,hr,hq,hq,fun x x1 x2=>by
    obtain rfl:x=q+1:=by omega
    exact hQ,rfl,rfl⟩
 rcases h1 with rfl | h1 | h1
 ·exact .inl (.one dP)
 ·exact .inl (.tail h1 dP)
 rcases h2 with rfl | h2 | h2
 ·exact .inr (.one dQ)
 ·left
  obtain ⟨x,hx,j0,i1,i2,k1,k2,k3,run,rfl,k4⟩:=h2.last
  have e:j0=q:=by
   by_cases q1:j0<q
   ·have:=h.rect r q k3 (show r<H by omega) k1 hq k4.symm (by omega) (by omega) (by omega) (by omega)
    rw [← k4]at this
    exact absurd this hNQ
   by_cases q2:q<j0
   ·have:=h.rect i2 j0 k3 (show r<H by omega) k1 hq k4.symm (by omega) (by omega) (by omega) (by omega)
    exact absurd this (run i2 (by omega) (by omega))
   omega
  subst e
  have hd:DL c H W (c i1 j0) (c (r+1) (j0+1)):=by
   refine ⟨j0,i1,r+1,hq,k2,hr,fun x x1 x2=>?_,rfl,rfl⟩
   by_cases q1:min i1 i2≤x∧x≤max i1 i2
   ·exact run x q1.1 q1.2
   by_cases q2:x=r+1
   ·subst q2; exact hP
   intro q3
   have e1:=h.rect x (j0+1) k3 (show r<H by omega) k1 hq k4.symm (by omega) (by omega) (by omega) (by omega)
   rw [← k4]at e1
   have e2:=h.rect (i:=x) (j:=j0) (i':=r) (j':=j0+1) r j0 (by omega) (by omega) (by omega) hq (by rw [q3,e1]) (by omega) (by omega) (by omega) (by omega)
   rw [q3,e1]at e2
   exact hNQ e2
  rcases hx with hx | hx
  ·rw [hx]at hd; exact .one hd
  exact .tail hx hd
 exact .inr (.tail h2 dQ)
theorem z0t (h:Pl c H W) {x y:Nat}:∀ (s:Nat) {i j:Nat},i+j≤s→x≤i→y≤j→i<H→j<W→c x y≠c i j→TC (DL c H W) (c x y) (c i j)∨TC (DU c H W) (c x y) (c i j):=by
 intro s
 induction s with
 | zero =>
  intro i j h1 h2 h3 h4 h5 h6
  obtain rfl:i=0:=by omega
  obtain rfl:j=0:=by omega
  obtain rfl:x=0:=by omega
  obtain rfl:y=0:=by omega
  exact absurd rfl h6
 | succ s ih =>
  intro i j h1 h2 h3 h4 h5 h6
  by_cases e1:x=i
  ·subst e1; exact .inl (zkj h4 h3 h5 h6)
  by_cases e2:y=j
  ·subst e2; exact .inr (z92 h5 h2 h4 h6)
  obtain ⟨r,rfl⟩:∃ r,i=r+1:=⟨i - 1,by omega⟩
  obtain ⟨q,rfl⟩:∃ q,j=q+1:=⟨j - 1,by omega⟩
  by_cases e3:c r (q+1)=c (r+1) (q+1)
  ·rw [← e3]at h6 ⊢
   exact ih (by omega) (by omega) h3 (by omega) h5 h6
  by_cases e4:c (r+1) q=c (r+1) (q+1)
  ·rw [← e4]at h6 ⊢
   exact ih (by omega) h2 (by omega) h4 (by omega) h6
  have iP:c (r+1) q=c x y∨TC (DL c H W) (c x y) (c (r+1) q)∨TC (DU c H W) (c x y) (c (r+1) q):=by
   by_cases k:c x y=c (r+1) q
   ·exact .inl k.symm
   exact .inr (ih (by omega) h2 (by omega) h4 (by omega) k)
  have iQ:c r (q+1)=c x y∨TC (DL c H W) (c x y) (c r (q+1))∨TC (DU c H W) (c x y) (c r (q+1)):=by
   by_cases k:c x y=c r (q+1)
   ·exact .inl k.symm
   exact .inr (ih (by omega) (by omega) h3 (by omega) h5 k)
  by_cases hNP:c r q=c (r+1) q
  ·exact pass h h4 h5 hNP e4 e3 iP iQ
  by_cases hNQ:c r q=c r (q+1)
  ·have:=pass (c:=tr c) (H:=W) (W:=H) h.ex (r:=q) (q:=r) (A:=c x y) h5 h4 hNQ e3 e4 ?_ ?_
   ·rcases this with k | k
    ·exact .inr (k.mono fun _ _ h=>h.ex)
    exact .inl (k.mono fun _ _ h=>h.ex)
   ·rcases iQ with k | k | k
    ·exact .inl k
    ·exact .inr (.inr k)
    exact .inr (.inl k)
   rcases iP with k | k | k
   ·exact .inl k
   ·exact .inr (.inr k)
   exact .inr (.inl k)
  exact absurd (h.plain h4 h5 hNQ e4 hNP) e3
theorem ybd (h:Pl c H W) {x y i j:Nat} (hx:x<H) (hy:y<W) (hi:i<H) (hj:j<W) (hne:c x y≠c i j) :
  TC (DL c H W) (c x y) (c i j)∨TC (DL c H W) (c i j) (c x y)∨TC (DU c H W) (c x y) (c i j)∨TC (DU c H W) (c i j) (c x y):=by
 have key:∀ {x y i j:Nat},x<H→y<W→i<H→j<W→c x y≠c i j→x≤i→TC (DL c H W) (c x y) (c i j)∨TC (DL c H W) (c i j) (c x y)∨TC (DU c H W) (c x y) (c i j)∨TC (DU c H W) (c i j) (c x y):=by
  intro x y i j hx hy hi hj hne hle
  by_cases q:y≤j
  ·rcases z0t h _ (qR _) hle q hi hj hne with k | k
   ·exact .inl k
   exact .inr (.inr (.inl k))
  have e1:fl c H (H - 1 - i) j=c i j:=by unfold fl; rw [show H - 1 - (H - 1 - i)=i by omega]
  have e2:fl c H (H - 1 - x) y=c x y:=by unfold fl; rw [show H - 1 - (H - 1 - x)=x by omega]
  have:=z0t h.dn (x:=H - 1 - i) (y:=j) _ (i:=H - 1 - x) (j:=y) (qR _) (by omega) (by omega) (by omega) hy (by rw [e1,e2]; exact Ne.symm hne)
  rw [e1,e2]at this
  rcases this with k | k
  ·exact .inr (.inl (k.mono fun _ _ h=>h.dn))
  exact .inr (.inr (.inl (k.rev fun _ _ h=>h.dn)))
 by_cases q:x≤i
 ·exact key hx hy hi hj hne q
 rcases key hi hj hx hy (Ne.symm hne) (by omega) with k | k | k | k
 ·exact .inr (.inl k)
 ·exact .inl k
 ·exact .inr (.inr (.inr k))
 exact .inr (.inr (.inl k))
end
end

section
section
variable {n:Nat} {M:List (List Bool)}
theorem absorb {p q:Bool}:(p || (q && p))=p:=by cases p <;> cases q <;> rfl
theorem z5o (h:Sq n M) {k:Nat} (hk:k<n):∀ i,i≤n→Sq n ((List.range i).foldl (clA n k) M) ∧
  ∀ x y,x<n→y<n→zc7 ((List.range i).foldl (clA n k) M) x y=if x<i then zc7 M x y || (zc7 M x k && zc7 M k y) else zc7 M x y
 | 0,_=>⟨h,fun x y _ _=>by simp⟩
 | i+1,hi=>by
  obtain ⟨h1,h2⟩:=z5o h hk i (by omega)
  rw [zc1]
  generalize (List.range i).foldl (clA n k) M=X at h1 h2 ⊢
  obtain ⟨h3,h4⟩:=z0y h1 hk (show i<n by omega) n (qR _)
  refine ⟨h3,fun x y hx hy=>?_⟩
  unfold clA
  rw [h4 x y hx hy]
  by_cases e:x=i
  ·subst e
   have e1:zc7 X x y=zc7 M x y:=by rw [h2 x y hx hy,if_neg (Nat.lt_irrefl _)]
   have e2:zc7 X x k=zc7 M x k:=by rw [h2 x k hx hk,if_neg (Nat.lt_irrefl _)]
   have e3:zc7 X k y=zc7 M k y:=by
    rw [h2 k y hk hy]
    split
    ·exact absorb
    rfl
   rw [if_pos ⟨rfl,hy⟩,if_pos (by omega),e1,e2,e3]
  rw [if_neg (fun q=>e q.1),h2 x y hx hy]
  by_cases e2:x<i
  ·rw [if_pos e2,if_pos (by omega)]
  rw [if_neg e2,if_neg (by omega)]
theorem yda (h:Sq n M) {k:Nat} (hk:k<n) {x y:Nat} (hx:x<n) (hy:y<n):zc7 (clK n M k) x y=(zc7 M x y || (zc7 M x k && zc7 M k y)):=by
 have:=(z5o h hk n (qR _)).2 x y hx hy
 rw [if_pos hx]at this
 exact this
theorem z01 (h:Sq n M):∀ i,i≤n→Sq n ((List.range i).foldl (clK n) M) ∧
  (∀ a b,a<n→b<n→zc7 M a b=true→zc7 ((List.range i).foldl (clK n) M) a b=true) ∧
  (∀ m a b,m<i→a<n→b<n→zc7 ((List.range i).foldl (clK n) M) a m=true→zc7 ((List.range i).foldl (clK n) M) m b=true→zc7 ((List.range i).foldl (clK n) M) a b=true) ∧
  (∀ T:Nat→Nat→Prop,(∀ a b d,T a b→T b d→T a d)→(∀ a b,a<n→b<n→zc7 M a b=true→T a b)→∀ a b,a<n→b<n→zc7 ((List.range i).foldl (clK n) M) a b=true→T a b)
 | 0,_=>⟨h,fun a b _ _ k=>k,fun m a b k=>by omega,fun T _ k=>k⟩
 | i+1,hi=>by
  obtain ⟨h1,h2,h3,h4⟩:=z01 h i (by omega)
  rw [zc1]
  generalize (List.range i).foldl (clK n) M=X at h1 h2 h3 h4 ⊢
  have hin:i<n:=by omega
  have g:∀ {x y:Nat},x<n→y<n→(zc7 (clK n X i) x y=true↔zc7 X x y=true∨(zc7 X x i=true∧zc7 X i y=true)):=by
   intro x y hx hy
   rw [yda h1 hin hx hy]; simp
  refine ⟨(z5o h1 hin n (qR _)).1,fun a b ha hb k=>(g ha hb).2 (.inl (h2 a b ha hb k)),fun m a b hm ha hb k1 k2=>?_,fun T tr hT a b ha hb k=>?_⟩
  ·have hmn:m<n:=by omega
   rw [g ha hmn]at k1
   rw [g hmn hb]at k2
   rw [g ha hb]
   by_cases e:m=i
   ·subst e
    rcases k1 with k1 | k1 <;> rcases k2 with k2 | k2
    ·exact .inr ⟨k1,k2⟩
    ·exact .inr ⟨k1,k2.2⟩
    ·exact .inr ⟨k1.1,k2⟩
    exact .inr ⟨k1.1,k2.2⟩
   have hmi:m<i:=by omega
   rcases k1 with k1 | k1 <;> rcases k2 with k2 | k2
   ·exact .inl (h3 m a b hmi ha hb k1 k2)
   ·exact .inr ⟨h3 m a i hmi ha hin k1 k2.1,k2.2⟩
   ·exact .inr ⟨k1.1,h3 m i b hmi hin hb k1.2 k2⟩
   exact .inr ⟨k1.1,k2.2⟩
  rw [g ha hb]at k
  rcases k with k | k
  ·exact h4 T tr hT a b ha hb k
  exact tr a i b (h4 T tr hT a i ha hin k.1) (h4 T tr hT i b hin hb k.2)
def MR (n:Nat) (M:List (List Bool)) (a b:Nat):Prop:=a<n∧b<n∧zc7 M a b=true
theorem z00 (h:Sq n M) {a b:Nat} (ha:a<n) (hb:b<n):zc7 (zf4 M) a b=true↔TC (MR n M) a b:=by
 obtain ⟨h1,h2,h3,h4⟩:=z01 h n (qR _)
 have e:zf4 M=(List.range n).foldl (clK n) M:=by unfold zf4; rw [h.1]
 rw [e]
 constructor
 ·exact h4 (TC (MR n M)) (fun _ _ _ p q=>p.trans q) (fun a b ha hb k => .one ⟨ha,hb,k⟩) a b ha hb
 intro k
 induction k with
 | one k=>exact h2 _ _ k.1 k.2.1 k.2.2
 | tail _ k ih=>exact h3 _ _ _ k.1 ha k.2.1 (ih k.1) (h2 _ _ k.1 k.2.1 k.2.2)
end
def Cov (ws:List Wall) (level:Bool) (line i1 i2:Nat):Prop:=∃ w∈ws,w.level=level∧w.line=line∧w.fr≤i1∧(i2:Int)<w.fr+w.long
theorem Cov.app {ws vs:List Wall} {level:Bool} {line i1 i2:Nat} (h:Cov ws level line i1 i2):Cov (ws++vs) level line i1 i2:=by
 obtain ⟨w,hw,k⟩:=h
 exact ⟨w,List.mem_append_left _ hw,k⟩
theorem Cov.long {ws:List Wall} {w:Wall} {level:Bool} {line i1 i2:Nat} (h:Cov (ws++[w]) level line i1 i2):Cov (ws++[{ w with long:=w.long+1 }]) level line i1 i2:=by
 obtain ⟨v,hv,k1,k2,k3,k4⟩:=h
 rcases List.mem_append.1 hv with hv | hv
 ·exact ⟨v,List.mem_append_left _ hv,k1,k2,k3,k4⟩
 rw [List.mem_singleton]at hv
 subst hv
 exact ⟨_,List.mem_append_right _ (List.mem_singleton.2 rfl),k1,k2,k3,by simp only; omega⟩
def Run (g:List (List Int)) (level:Bool) (line i1 i2:Nat):Prop:=∀ j,i1≤j→j≤i2→zkp g level line j=true
theorem ztx {g:List (List Int)} {level:Bool} {line:Nat} {ws:List Wall}:∀ n,(∀ lv ln i1 i2,Cov ws lv ln i1 i2→Cov (zcd g level line ws n).1 lv ln i1 i2) ∧
  (∀ i1 i2,i1≤i2→i2<n→Run g level line i1 i2→Cov (zcd g level line ws n).1 level line i1 i2) ∧
  ((zcd g level line ws n).2=false→∀ m,n=m+1→zkp g level line m=false) ∧
  ((zcd g level line ws n).2=true→∃ (ws0:List Wall) (w:Wall),(zcd g level line ws n).1=ws0++[w]∧w.level=level∧w.line=(line:Int)∧w.fr+w.long=(n:Int)∧1≤w.long∧∀ i:Nat,i<n→Run g level line i (n - 1)→w.fr≤(i:Int))
 | 0=>by
  rw [z0q]
  exact ⟨fun _ _ _ _ h=>h,fun i1 i2 _ h=>by omega,fun _ m h=>by omega,fun h=>by cases h⟩
 | n+1=>by
  obtain ⟨h1,h2,h3,h4⟩:=ztx (g:=g) (level:=level) (line:=line) (ws:=ws) n
  rw [zem]
  generalize zcd g level line ws n=s at h1 h2 h3 h4
  obtain ⟨l,op⟩:=s
  simp only at h1 h2 h3 h4
  cases hd:zkp g level line n with
  | false =>
   have e:zey false level line n (l,op)=(l,false):=by simp [zey]
   rw [e]
   refine ⟨h1,fun i1 i2 k1 k2 k3=>?_,fun _ m hm=>(by have e0:m=n:=(by omega); rw [e0]; exact hd),fun h=>by cases h⟩
   by_cases e2:i2=n
   ·subst e2
    have:=k3 i2 k1 (qR _)
    rw [hd]at this; cases this
   exact h2 i1 i2 k1 (by omega) k3
  | true =>
   cases op with
   | false =>
    have e:zey true level line n (l,false)=(l++[⟨level,line,n,1⟩],true):=by simp [zey]
    rw [e]
    have hno:∀ m,n=m+1→zkp g level line m=false:=h3 rfl
    have first:∀ i,i<n+1→Run g level line i n→i=n:=by
     intro i hi hr
     by_cases e2:i=n
     ·exact e2
     have:=hr (n - 1) (by omega) (by omega)
     rw [hno (n - 1) (by omega)]at this; cases this
    refine ⟨fun lv ln i1 i2 k=>(h1 lv ln i1 i2 k).app,fun i1 i2 k1 k2 k3=>?_,fun h=>(by cases h),fun _=>⟨l,_,rfl,rfl,rfl,by simp,by simp,fun i hi hr=>?_⟩⟩
    ·by_cases e2:i2=n
     ·subst e2
      obtain rfl:=first i1 (by omega) k3
      exact ⟨_,List.mem_append_right _ (List.mem_singleton.2 rfl),rfl,rfl,Int.le_refl _,by simp only; omega⟩
     exact (h2 i1 i2 k1 (by omega) k3).app
    have:=first i hi hr
    simp only; omega
   | true =>
    obtain ⟨ws0,w,rfl,w1,w2,w3,w4,w5⟩:=h4 rfl
    have e:zey true level line n (ws0++[w],true)=(ws0++[{ w with long:=w.long+1 }],true):=by simp [zey]
    rw [e]
    have hfr:∀ i:Nat,i<n+1→Run g level line i n→w.fr≤(i:Int):=by
     intro i hi hr
     by_cases e2:i=n
     ·omega
     exact w5 i (by omega) fun j j1 j2=>hr j j1 (by omega)
    refine ⟨fun lv ln i1 i2 k=>(h1 lv ln i1 i2 k).long,fun i1 i2 k1 k2 k3=>?_,fun h=>(by cases h),fun _=>⟨ws0,_,rfl,w1,w2,by simp only; omega,by simp only; omega,fun i hi hr=>hfr i hi hr⟩⟩
    by_cases e2:i2=n
    ·subst e2
     have:=hfr i1 (by omega) k3
     exact ⟨_,List.mem_append_right _ (List.mem_singleton.2 rfl),w1,w2,this,by simp only; omega⟩
    exact (h2 i1 i2 k1 (by omega) k3).long
theorem zlp {g:List (List Int)} {level:Bool} {places:Nat} {ws:List Wall}:∀ lines,(∀ lv ln i1 i2,Cov ws lv ln i1 i2→Cov (zcp g level places ws lines) lv ln i1 i2) ∧
  (∀ line i1 i2,1≤line→line<lines→i1≤i2→i2<places→Run g level line i1 i2→Cov (zcp g level places ws lines) level line i1 i2)
 | 0=>⟨fun _ _ _ _ h=>h,fun line _ _ _ h=>by omega⟩
 | k+1=>by
  obtain ⟨h1,h2⟩:=zlp (g:=g) (level:=level) (places:=places) (ws:=ws) k
  by_cases hk:1≤k
  ·rw [ze6 hk]
   obtain ⟨l1,l2,-,-⟩:=ztx (g:=g) (level:=level) (line:=k) (ws:=zcp g level places ws k) places
   refine ⟨fun lv ln i1 i2 q=>l1 _ _ _ _ (h1 _ _ _ _ q),fun line i1 i2 q1 q2 q3 q4 q5=>?_⟩
   by_cases e:line=k
   ·subst e; exact l2 i1 i2 q3 q4 q5
   exact l1 _ _ _ _ (h2 line i1 i2 q1 (by omega) q3 q4 q5)
  obtain rfl:k=0:=by omega
  rw [zlq]
  exact ⟨fun _ _ _ _ h=>h,fun line _ _ q1 q2=>by omega⟩
theorem ztw {g:List (List Int)} {H W:Nat} {level:Bool} {line i1 i2:Nat} (h1:1≤line) (h2:line<if level then H else W) (h3:i1≤i2) (h4:i2<if level then W else H) (hr:Run g level line i1 i2):Cov (zcz g H W) level line i1 i2:=by
 unfold zcz
 obtain ⟨a1,a2⟩:=zlp (g:=g) (level:=false) (places:=H) (ws:=[]) W
 obtain ⟨b1,b2⟩:=zlp (g:=g) (level:=true) (places:=W) (ws:=zcp g false H [] W) H
 cases level with
 | false=>exact b1 _ _ _ _ (a2 line i1 i2 h1 h2 h3 h4 hr)
 | true=>exact b2 line i1 i2 h1 h2 h3 h4 hr
section
variable {n:Nat}
theorem z2k {a:Int} (ha:0≤a∧a<n):∀ {bs:List Int} {M:List (List Bool)},Rm n bs→Sq n M→Sq n (relB a bs M)∧∀ x y,zc7 (relB a bs M) x y=true↔zc7 M x y=true∨(x=a.toNat∧∃ b∈bs,y=b.toNat)
 | [],M,_,h=>⟨h,fun x y=>by simp [relB]⟩
 | b::bs,M,hb,h=>by
  have hb0:=hb b (by simp)
  obtain ⟨k1,k2⟩:=z2k ha (bs:=bs) (M:=z4q M a.toNat b.toNat true) (fun x hx=>hb x (by simp [hx])) (h.set (by omega))
  refine ⟨k1,fun x y=>?_⟩
  have e:relB a (b::bs) M=relB a bs (z4q M a.toNat b.toNat true):=rfl
  rw [e,k2,zl6 h (by omega) (by omega)]
  by_cases q:x=a.toNat∧y=b.toNat
  ·rw [if_pos q]; simp [q.1,q.2]
  rw [if_neg q]
  constructor
  ·rintro (k | ⟨k,c,hc,rfl⟩)
   ·exact .inl k
   exact .inr ⟨k,c,by simp [hc],rfl⟩
  rintro (k | ⟨k,c,hc,rfl⟩)
  ·exact .inl k
  rcases List.mem_cons.1 hc with rfl | hc
  ·exact absurd ⟨k,rfl⟩ q
  exact .inr ⟨k,c,hc,rfl⟩
theorem zuy {bs:List Int} (hb:Rm n bs):∀ {la:List Int} {M:List (List Bool)},Rm n la→Sq n M→Sq n (relW M la bs)∧∀ x y,zc7 (relW M la bs) x y=true↔zc7 M x y=true∨(∃ a∈la,x=a.toNat)∧∃ b∈bs,y=b.toNat
 | [],M,_,h=>⟨h,fun x y=>by simp [relW]⟩
 | a::la,M,ha,h=>by
  obtain ⟨j1,j2⟩:=z2k (ha a (by simp)) hb h
  obtain ⟨k1,k2⟩:=zuy hb (la:=la) (M:=relB a bs M) (fun x hx=>ha x (by simp [hx])) j1
  refine ⟨k1,fun x y=>?_⟩
  have e:relW M (a::la) bs=relW (relB a bs M) la bs:=rfl
  rw [e,k2,j2]
  constructor
  ·rintro ((k | ⟨k,q⟩) | ⟨⟨c,hc,k⟩,q⟩)
   ·exact .inl k
   ·exact .inr ⟨⟨a,by simp,k⟩,q⟩
   exact .inr ⟨⟨c,by simp [hc],k⟩,q⟩
  rintro (k | ⟨⟨c,hc,k⟩,q⟩)
  ·exact .inl (.inl k)
  rcases List.mem_cons.1 hc with rfl | hc
  ·exact .inl (.inr ⟨k,q⟩)
  exact .inr ⟨⟨c,hc,k⟩,q⟩
def By (g:List (List Int)) (ws:List Wall) (lv:Bool) (x y:Nat):Prop:=∃ w∈ws,w.level=lv∧(∃ a∈(za7 g w).1,x=a.toNat)∧∃ b∈(za7 g w).2,y=b.toNat
theorem By.cons {g:List (List Int)} {w:Wall} {ws:List Wall} {lv:Bool} {x y:Nat}:By g (w::ws) lv x y↔(w.level=lv∧(∃ a∈(za7 g w).1,x=a.toNat)∧∃ b∈(za7 g w).2,y=b.toNat)∨By g ws lv x y:=by
 unfold By; simp
theorem zuo {g:List (List Int)} {nh nw:Nat} (hrm:zyx g nh nw n):∀ (ws:List Wall),(∀ w∈ws,zvr g nh nw w)→∀ {M:List (List Bool) × List (List Bool)},Sq n M.1→Sq n M.2 →
  (Sq n (ws.foldl (zpd g) M).1∧∀ x y,zc7 (ws.foldl (zpd g) M).1 x y=true↔zc7 M.1 x y=true∨By g ws false x y) ∧
  (Sq n (ws.foldl (zpd g) M).2∧∀ x y,zc7 (ws.foldl (zpd g) M).2 x y=true↔zc7 M.2 x y=true∨By g ws true x y)
 | [],_,M,h0,h1=>⟨⟨h0,fun x y=>by simp [By]⟩,⟨h1,fun x y=>by simp [By]⟩⟩
 | w::ws,hws,M,h0,h1=>by
  obtain ⟨r1,r2⟩:=zg2 hrm (hws w (by simp))
  rw [List.foldl_cons]
  cases hlv:w.level with
  | false =>
   obtain ⟨k1,k2⟩:=zuy r2 r1 h0
   have e:zpd g M w=(relW M.1 (za7 g w).1 (za7 g w).2,M.2):=by unfold zpd; rw [hlv]; rfl
   rw [e]
   obtain ⟨⟨a1,a2⟩,⟨b1,b2⟩⟩:=zuo hrm ws (fun w hw=>hws w (by simp [hw])) (M:=(relW M.1 (za7 g w).1 (za7 g w).2,M.2)) k1 h1
   refine ⟨⟨a1,fun x y=>?_⟩,⟨b1,fun x y=>?_⟩⟩
   ·rw [a2,k2,By.cons,hlv]; simp only[true_and,or_assoc]
   rw [b2,By.cons,hlv]; simp
  | true =>
   obtain ⟨k1,k2⟩:=zuy r2 r1 h1
   have e:zpd g M w=(M.1,relW M.2 (za7 g w).1 (za7 g w).2):=by unfold zpd; rw [hlv]; rfl
   rw [e]
   obtain ⟨⟨a1,a2⟩,⟨b1,b2⟩⟩:=zuo hrm ws (fun w hw=>hws w (by simp [hw])) (M:=(M.1,relW M.2 (za7 g w).1 (za7 g w).2)) h0 k1
   refine ⟨⟨a1,fun x y=>?_⟩,⟨b1,fun x y=>?_⟩⟩
   ·rw [a2,By.cons,hlv]; simp
   rw [b2,k2,By.cons,hlv]; simp only[true_and,or_assoc]
theorem zwe {x y:Nat}:zc7 (zcc n) x y=false:=by
 unfold zc7 zcc
 rw [List.getElem?_replicate]
 split
 ·rw [Option.getD_some,List.getElem?_replicate]; split <;> rfl
 rfl
def cn (g:List (List Int)) (i j:Nat):Nat:=(gz g i j).toNat
theorem zyx.ne {g:List (List Int)} {nh nw:Nat} (h:zyx g nh nw n) {i j i' j':Nat} (h1:i<nh) (h2:j<nw) (h3:i'<nh) (h4:j'<nw):gz g i j≠gz g i' j'↔cn g i j≠cn g i' j':=by
 have a:=h i j h1 h2
 have b:=h i' j' h3 h4
 unfold cn
 omega
theorem zyc {g:List (List Int)} {level:Bool} {line fr long j:Nat} (h1:fr≤j) (h2:j<fr+long):(zcs g level line j).1∈(za7 g ⟨level,line,fr,long⟩).1:=by
 simp only[za7,Int.toNat_natCast]
 rw [zno]
 simp only[zbu,List.mem_map,List.mem_range]
 exact ⟨j - fr,by omega,by rw [show fr+(j - fr)=j by omega]⟩
theorem zyd {g:List (List Int)} {level:Bool} {line fr long j:Nat} (h1:fr≤j) (h2:j<fr+long):(zcs g level line j).2∈(za7 g ⟨level,line,fr,long⟩).2:=by
 simp only[za7,Int.toNat_natCast]
 rw [zno]
 simp only[zbu,List.mem_map,List.mem_range]
 exact ⟨j - fr,by omega,by rw [show fr+(j - fr)=j by omega]⟩
theorem z2x {g:List (List Int)} {level:Bool} {line fr long:Nat} {x:Int} (h:x∈(za7 g ⟨level,line,fr,long⟩).1):∃ j,fr≤j∧j<fr+long∧x=(zcs g level line j).1:=by
 simp only[za7,Int.toNat_natCast]at h
 rw [zno]at h
 simp only[zbu,List.mem_map,List.mem_range]at h
 obtain ⟨j,hj,rfl⟩:=h
 exact ⟨fr+j,by omega,by omega,rfl⟩
theorem z2y {g:List (List Int)} {level:Bool} {line fr long:Nat} {x:Int} (h:x∈(za7 g ⟨level,line,fr,long⟩).2):∃ j,fr≤j∧j<fr+long∧x=(zcs g level line j).2:=by
 simp only[za7,Int.toNat_natCast]at h
 rw [zno]at h
 simp only[zbu,List.mem_map,List.mem_range]at h
 obtain ⟨j,hj,rfl⟩:=h
 exact ⟨fr+j,by omega,by omega,rfl⟩
theorem yc9 {g:List (List Int)} {nh nw:Nat} (h:zyx g nh nw n) {x y:Nat}:By g (zcz g nh nw) false x y↔DL (cn g) nh nw x y:=by
 constructor
 ·rintro ⟨w,hw,hlv,⟨a,ha,rfl⟩,b,hb,rfl⟩
  obtain ⟨line,fr,long,he,hl,hin⟩:=zd5 w hw
  rw [hlv]at he hin
  subst he
  obtain ⟨j1,p1,p2,rfl⟩:=z2x ha
  obtain ⟨j2,q1,q2,rfl⟩:=z2y hb
  have i1:=(hin j1 p1 p2).1
  have i2:=(hin j2 q1 q2).1
  unfold InL at i1 i2
  simp only[qF,if_false]at i1 i2
  obtain ⟨L,rfl⟩:∃ L,line=L+1:=⟨line - 1,by omega⟩
  refine ⟨L,j1,j2,i1.2.1,i1.2.2,i2.2.2,fun r r1 r2=>?_,?_,?_⟩
  ·have hr:=hin r (by omega) (by omega)
   have hr1:=hr.1
   unfold InL at hr1
   simp only[qF,if_false]at hr1
   have hr2:=hr.2
   unfold zkp zcs at hr2
   simp only[qF,if_false,decide_eq_true_eq,Nat.add_sub_cancel]at hr2
   exact (h.ne hr1.2.2 (by omega) hr1.2.2 hr1.2.1).1 hr2
  ·simp [zcs,cn]
  simp [zcs,cn]
 rintro ⟨L,i1,i2,h1,h2,h3,run,rfl,rfl⟩
 have hrun:Run g false (L+1) (min i1 i2) (max i1 i2):=by
  intro r r1 r2
  have:=run r r1 r2
  rw [← h.ne (by omega) (by omega) (by omega) h1]at this
  unfold zkp zcs
  simpa using this
 obtain ⟨w,hw,w1,w2,w3,w4⟩:=ztw (g:=g) (H:=nh) (W:=nw) (level:=false) (line:=L+1) (by omega) (by simpa using h1) (by omega) (by simp only[qF,if_false]; omega) hrun
 obtain ⟨line,fr,long,he,hl,hin⟩:=zd5 w hw
 rw [w1]at he
 subst he
 simp only at w2 w3 w4
 obtain rfl:line=L+1:=by omega
 refine ⟨_,hw,rfl,⟨_,zyc (j:=i1) (by omega) (by omega),?_⟩,_,zyd (j:=i2) (by omega) (by omega),?_⟩
 ·simp [zcs,cn]
 simp [zcs,cn]
theorem z9z {g:List (List Int)} {nh nw:Nat} (h:zyx g nh nw n) {x y:Nat}:By g (zcz g nh nw) true x y↔DU (cn g) nh nw x y:=by
 constructor
 ·rintro ⟨w,hw,hlv,⟨a,ha,rfl⟩,b,hb,rfl⟩
  obtain ⟨line,fr,long,he,hl,hin⟩:=zd5 w hw
  rw [hlv]at he hin
  subst he
  obtain ⟨j1,p1,p2,rfl⟩:=z2x ha
  obtain ⟨j2,q1,q2,rfl⟩:=z2y hb
  have i1:=(hin j1 p1 p2).1
  have i2:=(hin j2 q1 q2).1
  unfold InL at i1 i2
  simp only[if_true]at i1 i2
  obtain ⟨L,rfl⟩:∃ L,line=L+1:=⟨line - 1,by omega⟩
  refine ⟨L,j1,j2,i1.2.1,i1.2.2,i2.2.2,fun r r1 r2=>?_,?_,?_⟩
  ·have hr:=hin r (by omega) (by omega)
   have hr1:=hr.1
   unfold InL at hr1
   simp only[if_true]at hr1
   have hr2:=hr.2
   unfold zkp zcs at hr2
   simp only[if_true,decide_eq_true_eq,Nat.add_sub_cancel]at hr2
   exact (h.ne (by omega) hr1.2.2 hr1.2.1 hr1.2.2).1 hr2
  ·simp [zcs,cn]
  simp [zcs,cn]
 rintro ⟨L,i1,i2,h1,h2,h3,run,rfl,rfl⟩
 have hrun:Run g true (L+1) (min i1 i2) (max i1 i2):=by
  intro r r1 r2
  have:=run r r1 r2
  rw [← h.ne (by omega) (by omega) h1 (by omega)]at this
  unfold zkp zcs
  simpa using this
 obtain ⟨w,hw,w1,w2,w3,w4⟩:=ztw (g:=g) (H:=nh) (W:=nw) (level:=true) (line:=L+1) (by omega) (by simpa using h1) (by omega) (by simp only[if_true]; omega) hrun
 obtain ⟨line,fr,long,he,hl,hin⟩:=zd5 w hw
 rw [w1]at he
 subst he
 simp only at w2 w3 w4
 obtain rfl:line=L+1:=by omega
 refine ⟨_,hw,rfl,⟨_,zyc (j:=i1) (by omega) (by omega),?_⟩,_,zyd (j:=i2) (by omega) (by omega),?_⟩
 ·simp [zcs,cn]
 simp [zcs,cn]
theorem zry {g:List (List Int)} {nh nw:Nat} (h:zyx g nh nw n) {i j:Nat} (hi:i<nh) (hj:j<nw):cn g i j<n:=by
 have:=h i j hi hj
 unfold cn; omega
theorem ydv {g:List (List Int)} {nh nw:Nat} (h:zyx g nh nw n) {a b:Nat} (ha:a<n) (hb:b<n):zc7 (zzn g nh nw n) a b=true↔TC (DL (cn g) nh nw) a b:=by
 obtain ⟨⟨k1,k2⟩,-⟩:=zuo h (zcz g nh nw) zd5 (M:=(zcc n,zcc n)) (zev n) (zev n)
 have hd:∀ x y,zc7 (yam g nh nw n).1 x y=true↔DL (cn g) nh nw x y:=fun x y=>by
  unfold yam; rw [k2,yc9 h]; simp [zwe]
 unfold zzn
 have k3:Sq n (yam g nh nw n).1:=k1
 rw [z00 k3 ha hb]
 constructor
 ·exact TC.mono fun x y q=>(hd x y).1 q.2.2
 refine TC.mono fun x y q=>⟨?_,?_,(hd x y).2 q⟩
 ·obtain ⟨j,i1,i2,q1,q2,q3,-,rfl,-⟩:=q
  exact zry h q2 (by omega)
 obtain ⟨j,i1,i2,q1,q2,q3,-,-,rfl⟩:=q
 exact zry h q3 q1
theorem z9r {g:List (List Int)} {nh nw:Nat} (h:zyx g nh nw n) {a b:Nat} (ha:a<n) (hb:b<n):zc7 (zpt g nh nw n) a b=true↔TC (DU (cn g) nh nw) a b:=by
 obtain ⟨-,⟨k1,k2⟩⟩:=zuo h (zcz g nh nw) zd5 (M:=(zcc n,zcc n)) (zev n) (zev n)
 have hd:∀ x y,zc7 (yam g nh nw n).2 x y=true↔DU (cn g) nh nw x y:=fun x y=>by
  unfold yam; rw [k2,z9z h]; simp [zwe]
 unfold zpt
 have k3:Sq n (yam g nh nw n).2:=k1
 rw [z00 k3 ha hb]
 constructor
 ·exact TC.mono fun x y q=>(hd x y).1 q.2.2
 refine TC.mono fun x y q=>⟨?_,?_,(hd x y).2 q⟩
 ·obtain ⟨j,i1,i2,q1,q2,q3,-,rfl,-⟩:=q
  exact zry h (by omega) q2
 obtain ⟨j,i1,i2,q1,q2,q3,-,-,rfl⟩:=q
 exact zry h q1 q3
end
end
section
theorem zxs {p:List Txt} {i:Nat}:∀ {w:Nat},zgq p 4 i w=0→∀ k,1≤k→k<w→zjm p i k≠4
 | w+1,h,k,h1,h2=>by
  have hb:=(ze4 p 4 i w).1
  unfold zgq at h
  by_cases e:k=w
  ·subst e
   intro q
   rw [if_pos ⟨h1,q⟩]at h
   omega
  have h0:zgq p 4 i w=0:=by split at h <;> omega
  exact zxs h0 k h1 (by omega)
theorem z2f {p:List Txt} {w:Nat}:∀ {n:Nat},zi7 p 4 w n=0→∀ i,1≤i→i<n→zgq p 4 i w=0
 | n+1,h,i,h1,h2=>by
  have hb:0≤zi7 p 4 w n:=by
   clear h h1 h2
   induction n with
   | zero=>simp [zi7]
   | succ n ih =>
    have:=(ze4 p 4 n w).1
    unfold zi7; split <;> omega
  have hr:=(ze4 p 4 n w).1
  unfold zi7 at h
  by_cases e:i=n
  ·subst e
   rw [if_pos h1]at h
   omega
  have h0:zi7 p 4 w n=0:=by split at h <;> omega
  exact z2f h0 i h1 (by omega)
theorem z45 {a b:UInt8} (h:(a.toNat:Int) - 97≠(b.toNat:Int) - 97):a≠b:=by
 rintro rfl; exact h rfl
theorem z31 {p:List Txt} (hg:zcw p=true) {i k:Nat} (hi:i+1<p.length) (hk:k+1<(zao p).length) (h1:zak p i k≠zak p i (k+1)) (h2:zak p i k≠zak p (i+1) k) (h3:zak p i k≠zak p (i+1) (k+1))
  (h4:zak p i (k+1)≠zak p (i+1) k) (h5:zak p i (k+1)≠zak p (i+1) (k+1)) (h6:zak p (i+1) k≠zak p (i+1) (k+1)):zjm p (i+1) (k+1)=4:=by
 obtain ⟨r1,hr1,-⟩:=zag (show i<p.length by omega)
 obtain ⟨r2,hr2,-⟩:=zag hi
 have e1:=zdt hg hr1
 have e2:=zdt hg hr2
 obtain ⟨a,ha,-⟩:=zag (show k<r1.length by omega)
 obtain ⟨b,hb,-⟩:=zag (show k+1<r1.length by omega)
 obtain ⟨c,hc,-⟩:=zag (show k<r2.length by omega)
 obtain ⟨d,hd,-⟩:=zag (show k+1<r2.length by omega)
 rw [zcy hr1 ha]at h1 h2 h3
 rw [zcy hr1 hb]at h1 h4 h5
 rw [zcy hr2 hc]at h2 h4 h6
 rw [zcy hr2 hd]at h3 h5 h6
 have n1:=z45 h1
 have n2:=z45 h2
 have n3:=z45 h3
 have n4:=z45 h4
 have n5:=z45 h5
 have n6:=z45 h6
 unfold zjm
 simp only[Nat.add_sub_cancel,hr1,hr2,ha,hb,hc,hd]
 simp [zgn,z67,zr4,Ne.symm n1,Ne.symm n2,Ne.symm n3,Ne.symm n4,Ne.symm n5,Ne.symm n6]
theorem zg9 {p:List Txt} (hp:zbs p=true) {i j:Nat} (hi:i<p.length) (hj:j<(zao p).length):(cn (gP p) i j:Int)=zak p i j:=by
 have hN:=zcx hp
 have:=hN.room hi hj
 unfold cn
 rw [hN.cell hi hj]; omega
theorem zzw {p:List Txt} (hp:zb5 p=true):Pl (cn (gP p)) p.length (zao p).length:=by
 have hpl:=zd6 hp
 have hN:=zcx hpl
 have rect:∀ {i j i' j':Nat} (k l:Nat),i<p.length→i'<p.length→j<(zao p).length→j'<(zao p).length→cn (gP p) i j=cn (gP p) i' j'→min i i'≤k→k≤max i i'→min j j'≤l→l≤max j j'→cn (gP p) k l=cn (gP p) i j:=by
  intro i j i' j' k l h1 h2 h3 h4 e h5 h6 h7 h8
  have e1:=zg9 hpl h1 h3
  have e2:=zg9 hpl h2 h4
  have e3:=zg9 hpl (show k<p.length by omega) (show l<(zao p).length by omega)
  obtain ⟨b,hb,q1,-,c1⟩:=zga hpl h1 h3
  obtain ⟨b',hb',q2,-,-⟩:=zga hpl h2 h4
  have e4:zak p i j=zak p i' j':=by omega
  rw [e4,hb']at hb
  obtain rfl:=Option.some.inj hb
  have q3:inB b' k l=true:=by
   unfold inB at q1 q2 ⊢
   simp only[qB,decide_eq_true_eq]at q1 q2 ⊢
   omega
  have:=c1 k l (by omega) (by omega) q3
  omega
 refine ⟨rect,fun {i j} h1 h2 n1 n2 n3=>Classical.byContradiction fun n4=>?_⟩
 have h0:points p 4=0:=by
  unfold zb5 at hp
  simp only[qB,decide_eq_true_eq]at hp
  exact hp.2
 have hno:=zxs (z2f h0 (i+1) (by omega) h1) (j+1) (by omega) h2
 have n5:cn (gP p) i j≠cn (gP p) (i+1) (j+1):=by
  intro e
  exact n1 (rect i (j+1) (by omega) h1 (by omega) h2 e (by omega) (by omega) (by omega) (by omega)).symm
 have n6:cn (gP p) i (j+1)≠cn (gP p) (i+1) j:=by
  intro e
  exact n1 (rect i j (by omega) h1 h2 (by omega) e (by omega) (by omega) (by omega) (by omega))
 have c1:=zg9 hpl (show i<p.length by omega) (show j<(zao p).length by omega)
 have c2:=zg9 hpl (show i<p.length by omega) h2
 have c3:=zg9 hpl h1 (show j<(zao p).length by omega)
 have c4:=zg9 hpl h1 h2
 exact hno (z31 hN.hg h1 h2 (by omega) (by omega) (by omega) (by omega) (by omega) (by omega))
theorem zrj {p:List Txt} {a:Nat} (ha:a<(rP p).length):∃ i j,i<p.length∧j<(zao p).length∧cn (gP p) i j=a:=by
 have hi:=zgx p
 obtain ⟨b,hb,-⟩:=zag ha
 obtain ⟨v,hv,-⟩:=zag (show a<(keys p).length by rw [← hi.len]; exact ha)
 obtain ⟨i,j,⟨hz,hj,hij⟩,-⟩:=(hi.hull a v b hv hb).at_
 have hi2:i<p.length:=by omega
 refine ⟨i,j,hi2,hj,?_⟩
 unfold cn
 rw [z6c hi2 hj,hz,Int.toNat_natCast]
 have hlt:¬ (keys p).idxOf v=(keys p).length:=by
  have:=List.idxOf_lt_length_iff.2 (List.mem_of_getElem? hv)
  omega
 exact zqw hi.nd (zic hlt) hv
def lfM (p:List Txt):List (List Bool):=zzn (gP p) p.length (zao p).length (rP p).length
def abM (p:List Txt):List (List Bool):=zpt (gP p) p.length (zao p).length (rP p).length
def Lf (p:List Txt) (a b:Nat):Prop:=zc7 (lfM p) a b=true
def Ab (p:List Txt) (a b:Nat):Prop:=zc7 (abM p) a b=true
section
variable {p:List Txt} {a b d:Nat}
theorem Lf.iff (ha:a<(rP p).length) (hb:b<(rP p).length):Lf p a b↔TC (DL (cn (gP p)) p.length (zao p).length) a b:=ydv zhd ha hb
theorem Ab.iff (ha:a<(rP p).length) (hb:b<(rP p).length):Ab p a b↔TC (DU (cn (gP p)) p.length (zao p).length) a b:=z9r zhd ha hb
theorem Lf.trans (ha:a<(rP p).length) (hb:b<(rP p).length) (hd:d<(rP p).length) (h:Lf p a b) (k:Lf p b d):Lf p a d:=by
 rw [Lf.iff ha hd]; exact ((Lf.iff ha hb).1 h).trans ((Lf.iff hb hd).1 k)
theorem Ab.trans (ha:a<(rP p).length) (hb:b<(rP p).length) (hd:d<(rP p).length) (h:Ab p a b) (k:Ab p b d):Ab p a d:=by
 rw [Ab.iff ha hd]; exact ((Ab.iff ha hb).1 h).trans ((Ab.iff hb hd).1 k)
theorem zlf (hp:zb5 p=true):∃ f g:Nat→Nat,∀ a b,a<(rP p).length→b<(rP p).length→(Lf p a b→f a<f b∧g a<g b)∧(Ab p a b→f a<f b∧g b<g a):=by
 have hpl:=zzw hp
 obtain ⟨f,hf⟩:=z1w hpl (n:=(rP p).length) (fun i j hi hj=>zry zhd hi hj)
 obtain ⟨g,hg⟩:=z7m hpl (n:=(rP p).length) (fun i j hi hj=>zry zhd hi hj)
 refine ⟨f,g,fun a b ha hb=>⟨fun h=>?_,fun h=>?_⟩⟩
 ·rw [Lf.iff ha hb]at h
  exact ⟨h.rise fun a b k=>hf a b (.inl k),h.rise fun a b k=>hg a b (.inl k)⟩
 rw [Ab.iff ha hb]at h
 exact ⟨h.rise fun a b k=>hf a b (.inr k),(h.rev (S:=fun x y=>DU (cn (gP p)) p.length (zao p).length y x) fun _ _ k=>k).rise fun a b k=>hg a b (.inr k)⟩
theorem Lf.only (hp:zb5 p=true) (ha:a<(rP p).length) (hb:b<(rP p).length) (h:Lf p a b):¬ Lf p b a∧¬ Ab p a b∧¬ Ab p b a:=by
 obtain ⟨f,g,k⟩:=zlf hp
 have h1:=(k a b ha hb).1 h
 refine ⟨fun q=>?_,fun q=>?_,fun q=>?_⟩
 ·have:=(k b a hb ha).1 q; omega
 ·have:=(k a b ha hb).2 q; omega
 have:=(k b a hb ha).2 q; omega
theorem Ab.only (hp:zb5 p=true) (ha:a<(rP p).length) (hb:b<(rP p).length) (h:Ab p a b):¬ Ab p b a∧¬ Lf p a b∧¬ Lf p b a:=by
 obtain ⟨f,g,k⟩:=zlf hp
 have h1:=(k a b ha hb).2 h
 refine ⟨fun q=>?_,fun q=>?_,fun q=>?_⟩
 ·have:=(k b a hb ha).2 q; omega
 ·have:=(k a b ha hb).1 q; omega
 have:=(k b a hb ha).1 q; omega
theorem z35 (hp:zb5 p=true) (ha:a<(rP p).length) (hb:b<(rP p).length) (hne:a≠b):Lf p a b∨Lf p b a∨Ab p a b∨Ab p b a:=by
 obtain ⟨i,j,h1,h2,e1⟩:=zrj ha
 obtain ⟨k,l,h3,h4,e2⟩:=zrj hb
 have:=ybd (zzw hp) h1 h2 h3 h4 (by rw [e1,e2]; exact hne)
 rw [e1,e2]at this
 rw [Lf.iff ha hb,Lf.iff hb ha,Ab.iff ha hb,Ab.iff hb ha]
 exact this
end
end
section
section
variable {M:List (List Bool)} {ms:List Nat} {ws:List Int} {n:Nat} {rk:Nat→Nat}
def revM (n:Nat) (M:List (List Bool)):List (List Bool):=(List.range n).map fun a=>(List.range n).map fun b=>zc7 M b a
def bhB (sets:List Nat) (needs:List Int) (a:Nat) (out:List Int) (b:Nat):List Int :=
 if zt1 sets a b then out.set a (max (zjk out a) (zjk out b+zjk needs b)) else out
def bhA (sets:List Nat) (needs:List Int) (out:List Int) (a:Nat):List Int:=(List.range needs.length).foldl (bhB sets needs a) out
def bhN (sets:List Nat) (needs:List Int) (out:List Int) (_:Nat):List Int:=(List.range needs.length).foldl (bhA sets needs) out
def behind (sets:List Nat) (needs:List Int):List Int:=(List.range needs.length).foldl (bhN sets needs) (List.replicate needs.length 0)
end
end
def domB (x:Int × Int) (w h:Int):Bool:=decide (x.1≤w) && decide (x.2≤h)
def yeg (w h:Int) (s:List (Int × Int) × Bool) (x:Int × Int):List (Int × Int) × Bool :=
 if w≤x.1∧h≤x.2 then s else if s.2=false∧w<x.1 then (s.1++[(w,h),x],true) else (s.1++[x],s.2)
def yht (l:List (Int × Int)) (w h:Int):List (Int × Int) × Bool:=l.foldl (yeg w h) ([],false)
def put (l:List (Int × Int)) (w h:Int):List (Int × Int):=if l.any (fun x=>domB x w h) then l else if (yht l w h).2 then (yht l w h).1 else (yht l w h).1++[(w,h)]
section
theorem z8q {f:Nat→Bool}:∀ {n:Nat},(∀ r s,r<n→s<n→f r=true→f s=true→r=s)→sN n (fun r=>b1 (f r))≤1:=by
 intro n
 induction n with
 | zero=>intro _; simp [sN]
 | succ n ih =>
  intro h
  show sN n (fun r=>b1 (f r))+b1 (f n)≤1
  have:=ih fun r s hr hs=>h r s (by omega) (by omega)
  cases hf:f n with
  | false=>simp [b1]; exact this
  | true =>
   have e:sN n (fun r=>b1 (f r))=sN n (fun _=>0):=zer fun i hi=>by
    cases hi2:f i with
    | false=>rfl
    | true=>have:=h i n (by omega) (by omega) hi2 hf; omega
   rw [e,zro]; simp [b1]
section
variable {M:List (List Bool)} {ws:List Int} {n:Nat} {rk:Nat→Nat}
theorem yfv (b:Nat):0≤beg M ws n b:=z6k n
theorem yfu {a b:Nat} (ha:a<n) (h:zc7 M a b=true):HB M ws n a≤beg M ws n b:=yb5 ha h
end
end
def Pat (g1 g2:List (List Int)) (H W:Nat):Prop:=∀ i j i' j',i<H→j<W→i'<H→j'<W→(gz g1 i j=gz g1 i' j'↔gz g2 i j=gz g2 i' j')
theorem Pat.symm {g1 g2:List (List Int)} {H W:Nat} (h:Pat g1 g2 H W):Pat g2 g1 H W:=fun i j i' j' a b c d=>(h i j i' j' a b c d).symm
theorem Pat.trans {g1 g2 g3:List (List Int)} {H W:Nat} (h:Pat g1 g2 H W) (k:Pat g2 g3 H W):Pat g1 g3 H W:=fun i j i' j' a b c d=>(h i j i' j' a b c d).trans (k i j i' j' a b c d)
structure KC (g1 g2:List (List Int)) (H W:Nat) (k1 k2:List Int):Prop where
 len:k1.length=k2.length
 at_:∀ i j,i<H→j<W→k1.idxOf (gz g1 i j)=k2.idxOf (gz g2 i j)
theorem zsx {l:List Int} {z x:Int} (h:l.idxOf x=l.length):(l++[z]).idxOf x=if x=z then l.length else l.length+1:=by
 have hn:=zqh h
 rw [List.idxOf_append,if_neg hn]
 by_cases e:x=z
 ·subst e; simp
 rw [if_neg e]
 have e2:(z == x)=false:=by simpa using fun h=>e h.symm
 simp [List.idxOf_cons,e2]
 omega
theorem KC.step {g1 g2:List (List Int)} {H W:Nat} (hp:Pat g1 g2 H W) {k1 k2:List Int} (h:KC g1 g2 H W k1 k2) {a b:Nat} (ha:a<H) (hb:b<W):KC g1 g2 H W (zih k1 (gz g1 a b)) (zih k2 (gz g2 a b)):=by
 have h1:=h.at_ a b ha hb
 unfold zih
 by_cases e:k1.idxOf (gz g1 a b)=k1.length
 ·have e2:k2.idxOf (gz g2 a b)=k2.length:=by rw [← h1,e,h.len]
  rw [if_pos e,if_pos e2]
  refine ⟨by simp [h.len],fun i j hi hj=>?_⟩
  have h2:=h.at_ i j hi hj
  have hpt:=hp i j a b hi hj ha hb
  by_cases q:k1.idxOf (gz g1 i j)=k1.length
  ·have q2:k2.idxOf (gz g2 i j)=k2.length:=by rw [← h2,q,h.len]
   rw [zsx q,zsx q2,h.len]
   by_cases r:gz g1 i j=gz g1 a b
   ·rw [if_pos r,if_pos (hpt.1 r)]
   rw [if_neg r,if_neg fun x=>r (hpt.2 x)]
  have q2:¬ k2.idxOf (gz g2 i j)=k2.length:=by rw [← h2,← h.len]; exact q
  rw [zqg q,zqg q2,h2]
 have e2:¬ k2.idxOf (gz g2 a b)=k2.length:=by rw [← h1,← h.len]; exact e
 rw [if_neg e,if_neg e2]
 exact h
theorem z8t {k1 k2 rs:List Int} {R:List Rect} {z1 z2:Int} {q:Rect} (hl:k1.length=k2.length) (hi:k1.idxOf z1=k2.idxOf z2):zpm k1 R z1 q=zpm k2 R z2 q:=by
 unfold zpm zja
 rw [hl,hi]
theorem zny {g1 g2:List (List Int)} {H W:Nat} (hp:Pat g1 g2 H W) {i:Nat} (hi:i<H) {s1 s2:List Int × List Rect} (h:KC g1 g2 H W s1.1 s2.1) (hr:s1.2=s2.2):∀ j,j≤W →
  KC g1 g2 H W (zdw g1 i s1 j).1 (zdw g2 i s2 j).1∧(zdw g1 i s1 j).2=(zdw g2 i s2 j).2
 | 0,_=>⟨h,hr⟩
 | j+1,hj=>by
  obtain ⟨h1,h2⟩:=zny hp hi h hr j (by omega)
  unfold zdw
  refine ⟨h1.step hp hi (by omega),?_⟩
  show zpm _ _ _ _=zpm _ _ _ _
  rw [h2]
  exact z8t (rs:=[]) h1.len (h1.at_ i j hi (by omega))
theorem zll {g1 g2:List (List Int)} {H W:Nat} (hp:Pat g1 g2 H W):∀ i,i≤H→KC g1 g2 H W (zaq g1 W i).1 (zaq g2 W i).1∧(zaq g1 W i).2=(zaq g2 W i).2
 | 0,_=>⟨⟨rfl,fun _ _ _ _=>rfl⟩,rfl⟩
 | i+1,hi=>by
  obtain ⟨h1,h2⟩:=zll hp i (by omega)
  exact zny hp (by omega) h1 h2 W (qR _)
theorem zyw {g1 g2:List (List Int)} {H W:Nat} (hp:Pat g1 g2 H W) {i:Nat} (hi:i<H) {s1 s2:List Int × List Rect} (h:KC g1 g2 H W s1.1 s2.1) (hr:s1.2=s2.2):∀ j,j≤W→zn3 g1 i s1 j=zn3 g2 i s2 j
 | 0,_=>rfl
 | j+1,hj=>by
  unfold zn3
  rw [zyw hp hi h hr j (by omega),(zny hp hi h hr j (by omega)).1.at_ i j hi (by omega)]
theorem ztz {g1 g2:List (List Int)} {H W:Nat} (hp:Pat g1 g2 H W):∀ i,i≤H→zez g1 W i=zez g2 W i
 | 0,_=>rfl
 | i+1,hi=>by
  obtain ⟨h1,h2⟩:=zll hp i (by omega)
  unfold zez
  rw [ztz hp i (by omega),zyw hp (by omega) h1 h2 W (qR _)]
theorem GW.w0 {g:List (List Int)} {H W:Nat} (h:GW g H W):w0 g=W:=by
 obtain ⟨row,hrow,hl,-⟩:=h.at_ (show 0<H by have:=h.2.2.1; omega) (show 0<W by have:=h.2.2.2.2.1; omega)
 rw [ybk hrow,hl]
theorem GW.zG {g:List (List Int)} {H W:Nat} (h:GW g H W):zG g=zez g W H∧stG g=zaq g W H:=by
 unfold Fw.zG stG; rw [h.w0,h.1]; exact ⟨rfl,rfl⟩
theorem yfh {g:List (List Int)} {H W i j:Nat} (h:GW g H W) (hi:i<H) (hj:j<W):gz (zG g) i j=(((zaq g W H).1.idxOf (gz g i j):Nat):Int):=by
 rw [h.zG.1]
 unfold gz
 rw [zkl hi,Option.getD_some,z0s hj,Option.getD_some]
 congr 1
 exact zNum hi hj
theorem z3a {g:List (List Int)} {H W:Nat} (h:GW g H W):GW (zG g) H W:=by
 rw [h.zG.1]
 refine ⟨zc0 _,fun r hr=>?_,h.2.2⟩
 obtain ⟨k,hk⟩:=List.getElem?_of_mem hr
 have:=zbp hk
 rw [zc0]at this
 rw [zkl this]at hk
 cases hk
 exact zfi _
theorem z9m {g:List (List Int)} {H W i j:Nat} (hi:i<H) (hj:j<W):gz g i j∈(zaq g W H).1:=(SeInv.rows (g:=g) (W:=W) H).mem i j (zo7 hi hj)
theorem yg8 {g:List (List Int)} {H W:Nat} (h:GW g H W):Pat (zG g) g H W:=by
 intro i j i' j' hi hj hi' hj'
 rw [yfh h hi hj,yfh h hi' hj']
 constructor
 ·intro e
  have h1:=zic (ks:=(zaq g W H).1) (z:=gz g i j) (by have:=List.idxOf_lt_length_iff.2 (z9m (g:=g) hi hj); omega)
  have h2:=zic (ks:=(zaq g W H).1) (z:=gz g i' j') (by have:=List.idxOf_lt_length_iff.2 (z9m (g:=g) hi' hj'); omega)
  rw [show (zaq g W H).1.idxOf (gz g i j)=(zaq g W H).1.idxOf (gz g i' j') by omega,h2]at h1
  exact (Option.some.inj h1).symm
 intro e; rw [e]
theorem yh4 {g:List (List Int)} {H W i j:Nat} (h:GW g H W) (hi:i<H) (hj:j<W):0≤gz (zG g) i j∧gz (zG g) i j<(zaq g W H).2.length:=by
 rw [yfh h hi hj]
 have h1:=List.idxOf_lt_length_iff.2 (z9m (g:=g) hi hj)
 have h2:=(SeInv.rows (g:=g) (W:=W) H).len
 omega
theorem ztj {g:List (List Int)} {H W i j:Nat} (h:GW g H W) (hi:i<H) (hj:j<W) (h0:0≤gz g i j) (h1:gz g i j≤100):gz (zb6 (zfz g)) i j=gz g i j+97:=by
 obtain ⟨row,hrow,hl,hx⟩:=h.at_ hi hj
 have e1:(zb6 (zfz g))[i]?=some (zvq (zrl row)):=by simp [zb6,zm4 hrow]
 have e2:(zvq (zrl row))[j]?=some ((z61 (gz g i j)).toNat:Int):=by simp [zvq,zrl,hx]
 have e3:gz (zb6 (zfz g)) i j=((z61 (gz g i j)).toNat:Int):=by
  conv=>lhs; unfold gz
  rw [e1,Option.getD_some,e2,Option.getD_some]
 rw [e3]
 unfold z61
 rw [UInt8.toNat_ofNat_of_lt' (by show 97+(gz g i j).toNat<256; omega)]
 omega
theorem z9a {g:List (List Int)} {H W:Nat} (h:GW g H W):(zfz g).length=H∧(zao (zfz g)).length=W:=by
 refine ⟨by rw [zym,h.1],?_⟩
 obtain ⟨row,hrow,hl,-⟩:=h.at_ (show 0<H by have:=h.2.2.1; omega) (show 0<W by have:=h.2.2.2.2.1; omega)
 rw [zcu (zm4 hrow)]
 simp [zrl,hl]
theorem z89 {g:List (List Int)} {H W:Nat} (h:GW g H W) (hz:∀ i j,i<H→j<W→0≤gz g i j∧gz g i j<26):zcw (zfz g)=true:=by
 obtain ⟨t1,t2⟩:=z9a h
 unfold zcw
 rw [t1,t2]
 have h2:=h.2.2
 have:(zfz g).all (zr8 W)=true:=by
  rw [List.all_eq_true]
  intro r hr
  obtain ⟨i,hi⟩:=List.getElem?_of_mem hr
  have hil:=zbp hi
  rw [t1]at hil
  obtain ⟨row,hrow,hrm⟩:=zag (show i<g.length by rw [h.1]; exact hil)
  have hrl:=h.2.1 row hrm
  rw [zm4 hrow]at hi
  cases hi
  unfold zr8
  simp only[qB,decide_eq_true_eq,List.all_eq_true]
  refine ⟨⟨⟨by simp [zrl,hrl],by simp [zrl]; omega⟩,by simp [zrl]; omega⟩,fun c hc=>?_⟩
  obtain ⟨z,hzm,rfl⟩:=List.mem_map.1 hc
  obtain ⟨j,hj⟩:=List.getElem?_of_mem hzm
  have hjl:=zbp hj
  have e:gz g i j=z:=by simp [gz,hrow,hj]
  have:=hz i j hil (by omega)
  rw [e]at this
  unfold zc5 z61
  rw [UInt8.toNat_ofNat_of_lt' (by show 97+z.toNat<256; omega)]
  simp only[qB,decide_eq_true_eq]
  omega
 rw [this]
 simp only[Bool.true_and,qB,decide_eq_true_eq]
 omega
def nm (g:List (List Int)):List Txt:=zfz (zG g)
structure NmOk (g:List (List Int)) (H W:Nat):Prop where
 gw:GW g H W
 le:(zaq g W H).2.length≤9
theorem NmOk.bound {g:List (List Int)} {H W:Nat} (h:NmOk g H W) {i j:Nat} (hi:i<H) (hj:j<W):0≤gz (zG g) i j∧gz (zG g) i j≤8:=by
 have h1:=yh4 h.gw hi hj
 have h2:=h.le
 omega
theorem NmOk.hd {g:List (List Int)} {H W:Nat} (h:NmOk g H W):(nm g).length=H∧(zao (nm g)).length=W:=z9a (z3a h.gw)
theorem NmOk.pat {g:List (List Int)} {H W:Nat} (h:NmOk g H W):Pat (zb6 (nm g)) g H W:=by
 refine Pat.trans (fun i j i' j' hi hj hi' hj'=>?_) (yg8 h.gw)
 have b1:=h.bound hi hj
 have b2:=h.bound hi' hj'
 unfold nm
 rw [ztj (z3a h.gw) hi hj b1.1 (by omega),ztj (z3a h.gw) hi' hj' b2.1 (by omega)]
 constructor <;> intro e <;> omega
theorem NmOk.gP {g:List (List Int)} {H W:Nat} (h:NmOk g H W):gP (nm g)=zG g∧rP (nm g)=(zaq g W H).2:=by
 rw [z3q,z76,h.hd.1,h.hd.2,h.gw.zG.1]
 exact ⟨ztz h.pat H (qR _),(zll h.pat H (qR _)).2⟩
theorem NmOk.named {g:List (List Int)} {H W:Nat} (h:NmOk g H W):Named (nm g):=by
 refine ⟨z89 (z3a h.gw) fun i j hi hj=>by have:=h.bound hi hj; omega,?_⟩
 rw [h.gP.1]; rfl
theorem NmOk.cell {g:List (List Int)} {H W:Nat} (h:NmOk g H W) {i j:Nat} (hi:i<H) (hj:j<W):zak (nm g) i j=gz (zG g) i j:=by
 rw [← h.named.cell (by rw [h.hd.1]; exact hi) (by rw [h.hd.2]; exact hj),h.gP.1]
structure Cells (c:Nat→Nat→Nat) (g:List (List Int)) (H W:Nat):Prop where
 gw:GW g H W
 at_:∀ i j,i<H→j<W→gz g i j=((c i j:Nat):Int)
structure Ren (c:Nat→Nat→Nat) (H W:Nat) (t:List Txt):Prop where
 hl:t.length=H
 wl:(zao t).length=W
 pat:∀ i j i' j',i<H→j<W→i'<H→j'<W→(cn (gP t) i j=cn (gP t) i' j'↔c i j=c i' j')
theorem pig0 {σ:Nat→Nat} {n m:Nat} (h:∀ a,a<n→σ a<m) (hi:∀ a b,a<n→b<n→σ a=σ b→a=b):n≤m:=by
 have h1:sN n (fun a=>sN m fun b=>b1 (decide (σ a=b)))=n:=by
  have:sN n (fun a=>sN m fun b=>b1 (decide (σ a=b)))=sN n (fun _=>1):=by
   refine zer fun a ha=>?_
   have hs:∀ {k:Nat} (v:Nat),v<k→sN k (fun b=>b1 (decide (v=b)))=1:=by
    intro k
    induction k with
    | zero=>intro v hv; omega
    | succ k ih =>
     intro v hv
     unfold sN
     by_cases e:v=k
     ·subst e
      have hz:sN v (fun b=>b1 (decide (v=b)))=0:=by
       rw [← zro v]
       exact zer fun b hb=>by rw [decide_eq_false (by omega)]; rfl
      rw [hz]; simp [b1]
     rw [ih v (by omega)]; simp [b1,e]
   exact hs _ (h a ha)
  rw [this,z2r]
 rw [zu7]at h1
 have h2:sN m (fun b=>sN n fun a=>b1 (decide (σ a=b)))≤sN m (fun _=>1) :=
  z4o fun b hb=>z8q fun r s hr hs e1 e2=>hi r s hr hs (by rw [of_decide_eq_true e1,of_decide_eq_true e2])
 rw [z2r]at h2
 omega
section
theorem pig {σ:Nat→Nat} {n m:Nat} (h:∀ a,a<n→σ a<m) (hi:∀ a b,a<n→b<n→σ a=σ b→a=b):n≤m:=pig0 h hi
variable {c c':Nat→Nat→Nat} {H W:Nat}
theorem TC.map {R S:Nat→Nat→Prop} {f:Nat→Nat} (h:∀ a b,R a b→S (f a) (f b)) {a b:Nat} (k:TC R a b):TC S (f a) (f b):=by
 induction k with
 | one k=>exact .one (h _ _ k)
 | tail _ k ih=>exact .tail ih (h _ _ k)
structure Iso (p t:List Txt) (L U:Nat→Nat→Prop) (σ:Nat→Nat):Prop where
 pl:zb5 t=true
 n:(rP t).length=(rP p).length
 lt:∀ a,a<(rP p).length→σ a<(rP p).length
 inj:∀ a b,a<(rP p).length→b<(rP p).length→σ a=σ b→a=b
 lf:∀ a b,a<(rP p).length→b<(rP p).length→(Lf t (σ a) (σ b)↔L a b)
 ab:∀ a b,a<(rP p).length→b<(rP p).length→(Ab t (σ a) (σ b)↔U a b)
theorem Iso.imp {p t:List Txt} {L U L' U':Nat→Nat→Prop} {σ:Nat→Nat} (h:Iso p t L U σ) (hL:∀ a b,a<(rP p).length→b<(rP p).length→(L a b↔L' a b)) (hU:∀ a b,a<(rP p).length→b<(rP p).length→(U a b↔U' a b)):Iso p t L' U' σ :=
 ⟨h.pl,h.n,h.lt,h.inj,fun a b ha hb=>(h.lf a b ha hb).trans (hL a b ha hb),fun a b ha hb=>(h.ab a b ha hb).trans (hU a b ha hb)⟩
structure Fold1 (f:Nat→Nat) (m n:Nat):Prop where
 pos:1≤m
 z:f 0=0
 s:∀ i,i+1<m→f (i+1)=f i∨f (i+1)=f i+1
 e:f (m - 1)+1=n
theorem Fold1.mono {f:Nat→Nat} {m n:Nat} (h:Fold1 f m n):∀ {i j:Nat},i≤j→j<m→f i≤f j:=by
 intro i j hij
 induction j with
 | zero=>intro _; rw [show i=0 by omega]; exact qR _
 | succ j ih =>
  intro hj
  by_cases e:i=j+1
  ·subst e; exact qR _
  have h1:=ih (by omega) (by omega)
  have:=h.s j hj
  omega
theorem Fold1.lt {f:Nat→Nat} {m n i:Nat} (h:Fold1 f m n) (hi:i<m):f i<n:=by
 have:=h.mono (i:=i) (j:=m - 1) (by omega) (by have:=h.pos; omega)
 have:=h.e
 omega
theorem Fold1.mid {f:Nat→Nat} {m n i:Nat} (h:Fold1 f m n) {v:Nat}:∀ {j:Nat},i≤j→j<m→f i≤v→v≤f j→∃ r,i≤r∧r≤j∧f r=v:=by
 intro j
 induction j with
 | zero=>intro h1 h2 h3 h4; exact ⟨0,by omega,qR _,by rw [show i=0 by omega]at h3; omega⟩
 | succ j ih =>
  intro h1 h2 h3 h4
  by_cases e:f (j+1)=v
  ·exact ⟨j+1,h1,qR _,e⟩
  by_cases e2:i=j+1
  ·subst e2; omega
  have:=h.s j h2
  obtain ⟨r,r1,r2,r3⟩:=ih (by omega) (by omega) h3 (by omega)
  exact ⟨r,r1,by omega,r3⟩
theorem Fold1.last {f:Nat→Nat} {m n v:Nat} (h:Fold1 f m n) (hv:v+1<n):∃ r,r+1<m∧f r=v∧f (r+1)=v+1:=by
 have hp:=h.pos
 have he:=h.e
 obtain ⟨e,h1,h2,h3,h4⟩:=zzc (P:=fun r=>f r≤v) (i:=0) (n:=m - 1) (by omega) (by rw [h.z]; omega) (by omega)
 have:=h.s e (by omega)
 exact ⟨e,by omega,by omega,by omega⟩
theorem DL.fold {f g:Nat→Nat} {H' W':Nat} (hf:Fold1 f H H') (hg:Fold1 g W W') (hc:∀ i j,i<H→j<W→c i j=c' (f i) (g j)) {a b:Nat}:DL c H W a b↔DL c' H' W' a b:=by
 constructor
 ·rintro ⟨j,i1,i2,h1,h2,h3,run,rfl,rfl⟩
  have hgj:g (j+1)=g j+1:=by
   rcases hg.s j h1 with e | e
   ·have:=run i1 (by omega) (by omega)
    rw [hc i1 j h2 (by omega),hc i1 (j+1) h2 h1,e]at this
    exact absurd rfl this
   exact e
  have hlt:=hg.lt h1
  refine ⟨g j,f i1,f i2,by omega,hf.lt h2,hf.lt h3,fun r r1 r2=>?_,hc _ _ h2 (by omega),by rw [hc _ _ h3 h1,hgj]⟩
  have:∃ r0,min i1 i2≤r0∧r0≤max i1 i2∧f r0=r:=by
   rcases Nat.le_total i1 i2 with q | q
   ·have:=hf.mono q h3
    obtain ⟨r0,q1,q2,q3⟩:=hf.mid (v:=r) q h3 (by omega) (by omega)
    exact ⟨r0,by omega,by omega,q3⟩
   have:=hf.mono q h2
   obtain ⟨r0,q1,q2,q3⟩:=hf.mid (v:=r) q h2 (by omega) (by omega)
   exact ⟨r0,by omega,by omega,q3⟩
  obtain ⟨r0,q1,q2,rfl⟩:=this
  have:=run r0 q1 q2
  rw [hc r0 j (by omega) (by omega),hc r0 (j+1) (by omega) h1,hgj]at this
  exact this
 rintro ⟨j,i1,i2,h1,h2,h3,run,rfl,rfl⟩
 obtain ⟨j0,k1,k2,k3⟩:=hg.last h1
 have hfe:=hf.e
 have hfp:=hf.pos
 obtain ⟨r1,-,q2,q3⟩:=hf.mid (i:=0) (j:=H - 1) (v:=i1) (by omega) (by omega) (by rw [hf.z]; omega) (by omega)
 obtain ⟨r2,-,q5,q6⟩:=hf.mid (i:=0) (j:=H - 1) (v:=i2) (by omega) (by omega) (by rw [hf.z]; omega) (by omega)
 refine ⟨j0,r1,r2,k1,by omega,by omega,fun r s1 s2=>?_,by rw [hc _ _ (by omega) (by omega),q3,k2],by rw [hc _ _ (by omega) (by omega),q6,k3]⟩
 rw [hc r j0 (by omega) (by omega),hc r (j0+1) (by omega) k1,k2,k3]
 refine run (f r) ?_ ?_
 ·rcases Nat.le_total r1 r2 with q | q
  ·have:=hf.mono (show r1≤r by omega) (show r<H by omega); omega
  have:=hf.mono (show r2≤r by omega) (show r<H by omega); omega
 rcases Nat.le_total r1 r2 with q | q
 ·have:=hf.mono (show r≤r2 by omega) (show r2<H by omega); omega
 have:=hf.mono (show r≤r1 by omega) (show r1<H by omega); omega
theorem DU.fold {f g:Nat→Nat} {H' W':Nat} (hf:Fold1 f H H') (hg:Fold1 g W W') (hc:∀ i j,i<H→j<W→c i j=c' (f i) (g j)) {a b:Nat}:DU c H W a b↔DU c' H' W' a b :=
 DL.fold (c:=tr c) (c':=tr c') hg hf fun i j hi hj=>hc j i hj hi
theorem TC.iff {R S:Nat→Nat→Prop} (h:∀ a b,R a b↔S a b) {a b:Nat}:TC R a b↔TC S a b:=⟨TC.mono fun a b=>(h a b).1,TC.mono fun a b=>(h a b).2⟩
end
section
def zjn (ah:Nat→Nat) (n:Nat):Nat→List Int
 | 0=>List.replicate n 0
 | a+1=>(zjn ah n a).set (ah a) (a:Int)
theorem zkc {ah:Nat→Nat} {n:Nat}:∀ k,(zjn ah n k).length=n
 | 0=>by simp [zjn]
 | k+1=>by simp [zjn,zkc k]
theorem zrd {ah:Nat→Nat} {n:Nat} (hn:∀ a,a<n→ah a<n) (hi:∀ a b,a<n→b<n→ah a=ah b→a=b):∀ k,k≤n→∀ a,a<k→(zjn ah n k)[ah a]?=some (a:Int)
 | 0,_,a,h=>by omega
 | k+1,hk,a,h=>by
  unfold zjn
  rw [List.getElem?_set,zkc]
  by_cases e:a=k
  ·subst e; rw [if_pos rfl,if_pos (hn a (by omega))]
  rw [if_neg fun q=>e (hi a k (by omega) (by omega) q.symm)]
  exact zrd hn hi k (by omega) a (by omega)
def rooms (n:Nat):List Int:=(List.range n).map fun i:Nat=>(i:Int)
theorem zrk {n:Nat}:(rooms n).length=n:=by simp [rooms]
theorem zqs {n:Nat} {x:Int}:x∈rooms n↔0≤x∧x<n:=by
 unfold rooms
 rw [List.mem_map]
 constructor
 ·rintro ⟨i,hi,rfl⟩; simp at hi; omega
 rintro ⟨h1,h2⟩; exact ⟨x.toNat,by simp; omega,by omega⟩
theorem zu5 {n i:Nat} (h:i<n):(rooms n)[i]?=some (i:Int):=by simp [rooms,h]
theorem z4n {n:Nat}:rooms (n+1)=rooms n++[(n:Int)]:=by simp [rooms,qS]
theorem z4u {z:List Int} {g:Int→Int} (hs:(z.map g).Pairwise (· ≤ ·)) (hd:∀ (i j:Nat) x y,z[i]?=some x→z[j]?=some y→g x=g y→i=j) {i:Nat} {x:Int} (hx:z[i]?=some x):z.countP (fun y=>decide (g y<g x))=i:=by
 have hil:=zbp hx
 have hp:=List.pairwise_iff_getElem.1 hs
 have lt:∀ (a b:Nat) u v,z[a]?=some u→z[b]?=some v→a<b→g u<g v:=by
  intro a b u v hu hv hab
  have h1:=zbp hu
  have h2:=zbp hv
  have h3:=hp a b (by simpa using h1) (by simpa using h2) hab
  simp only[List.getElem_map]at h3
  rw [List.getElem?_eq_getElem h1]at hu
  rw [List.getElem?_eq_getElem h2]at hv
  cases hu; cases hv
  rcases Int.lt_or_le (g z[a]) (g z[b]) with q | q
  ·exact q
  have e:=hd a b _ _ (List.getElem?_eq_getElem h1) (List.getElem?_eq_getElem h2) (by omega)
  omega
 have e:z=z.take i++z.drop i:=(List.take_append_drop i z).symm
 have c1:(z.take i).countP (fun y=>decide (g y<g x))=i:=by
  rw [List.countP_eq_length.2]
  ·rw [List.length_take]; omega
  intro y hy
  obtain ⟨j,hj⟩:=List.mem_iff_getElem?.1 hy
  rw [List.getElem?_take]at hj
  split at hj
  ·exact decide_eq_true (lt j i y x hj hx (by assumption))
  cases hj
 have c2:(z.drop i).countP (fun y=>decide (g y<g x))=0:=by
  rw [List.countP_eq_zero]
  intro y hy
  obtain ⟨j,hj⟩:=List.mem_iff_getElem?.1 hy
  rw [List.getElem?_drop]at hj
  by_cases q:j=0
  ·subst q; rw [Nat.add_zero,hx]at hj; cases hj; simp
  have:=lt i (i+j) x y hx hj (by omega)
  simp; omega
 rw [e,List.countP_append,c1,c2,Nat.add_zero]
theorem zn7 {f:Int→Bool}:∀ n,(rooms n).countP f=(List.range n).countP fun a:Nat=>f (a:Int)
 | 0=>rfl
 | n+1=>by rw [z4n,qS,List.countP_append,List.countP_append,zn7 n]; rfl
theorem zz2 {n:Nat}:∀ (i j:Nat) x,(rooms n)[i]?=some x→(rooms n)[j]?=some x→i=j:=by
 intro i j x hi hj
 have h1:=zbp hi
 have h2:=zbp hj
 rw [zrk]at h1 h2
 rw [zu5 h1]at hi
 rw [zu5 h2]at hj
 cases hi; cases hj; rfl
theorem zqv {z:List Int} (h:z.Nodup) {i j:Nat} (hi:i<z.length) (hj:j<z.length) (e:z[i]=z[j]):i=j:=by
 unfold List.Nodup at h
 rw [List.pairwise_iff_getElem]at h
 rcases Nat.lt_trichotomy i j with q | q | q
 ·exact absurd e (h i j hi hj q)
 ·exact q
 exact absurd e.symm (h j i hj hi q)
theorem zqx (n:Nat):(rooms n).Nodup:=by
 unfold List.Nodup
 rw [List.pairwise_iff_getElem]
 intro i j hi hj hij e
 have:=zz2 i j _ (List.getElem?_eq_getElem hi) (e ▸ List.getElem?_eq_getElem hj)
 omega
section
variable {n:Nat} {f:Nat→Nat}
theorem zvs (hf:∀ a b,a<n→b<n→f a=f b→a=b) {a b:Nat} (ha:a<n) (hb:b<n) (h:ahead n f a=ahead n f b):a=b:=by
 rcases Nat.lt_trichotomy (f a) (f b) with q | q | q
 ·have:=zo1 (n:=n) ha q; omega
 ·exact hf a b ha hb q
 have:=zo1 (n:=n) hb q; omega
theorem z4v (hf:∀ a b,a<n→b<n→f a=f b→a=b) {z:List Int} (hp:z.Perm (rooms n)) (hs:(z.map fun x=>((f x.toNat:Nat):Int)).Pairwise (· ≤ ·)):z=zjn (ahead n f) n n:=by
 have hl:=hp.length_eq
 rw [zrk]at hl
 have hm:∀ x∈z,0≤x∧x<n:=fun x hx=>zqs.1 (hp.mem_iff.1 hx)
 have hd:∀ (i j:Nat) x y,z[i]?=some x→z[j]?=some y→((f x.toNat:Nat):Int)=((f y.toNat:Nat):Int)→i=j:=by
  intro i j x y hx hy e
  have h1:=hm x (List.mem_of_getElem? hx)
  have h2:=hm y (List.mem_of_getElem? hy)
  have e2:=hf x.toNat y.toNat (by omega) (by omega) (by omega)
  have e3:x=y:=by omega
  subst e3
  have hnd:z.Nodup:=hp.nodup_iff.2 (zqx n)
  have hi:=zbp hx
  have hj:=zbp hy
  rw [List.getElem?_eq_getElem hi]at hx
  rw [List.getElem?_eq_getElem hj]at hy
  exact zqv hnd hi hj ((Option.some.inj hx).trans (Option.some.inj hy).symm)
 apply List.ext_getElem?
 intro i
 by_cases hi:i<n
 ·obtain ⟨x,hx,hxm⟩:=zag (show i<z.length by omega)
  have h1:=hm x hxm
  have e:=z4u hs hd hx
  rw [hp.countP_eq,zn7]at e
  have e2:ahead n f x.toNat=i:=by
   unfold ahead
   rw [← e]
   apply List.countP_congr
   intro a ha
   simp
  have:=zrd (fun a ha=>z5d (rk:=f) ha) (fun a b ha hb h=>zvs hf ha hb h) n (qR _) x.toNat (by omega)
  rw [e2]at this
  rw [hx,this,show ((x.toNat:Nat):Int)=x by omega]
 rw [List.getElem?_eq_none (by omega),List.getElem?_eq_none (by rw [zkc]; omega)]
end
def bf1 (p:List Txt) (a b:Nat):Bool:=zc7 (lfM p) a b || zc7 (abM p) a b
def bf2 (p:List Txt) (a b:Nat):Bool:=zc7 (lfM p) a b || zc7 (abM p) b a
def bfK (p:List Txt) (below:Bool) (a b:Nat):Bool:=if below then bf2 p a b else bf1 p a b
def ahK (p:List Txt) (below:Bool) (a:Nat):Nat:=(List.range (rP p).length).countP fun b=>bfK p below b a
theorem znd {p:List Txt} (hp:zb5 p=true) (below:Bool):∃ f:Nat→Nat,(∀ a b,a<(rP p).length→b<(rP p).length→(bfK p below a b=true↔f a<f b))∧∀ a b,a<(rP p).length→b<(rP p).length→f a=f b→a=b:=by
 obtain ⟨f,g,hfg⟩:=zlf hp
 have tot:=fun a b ha hb hne=>z35 (a:=a) (b:=b) hp ha hb hne
 cases below with
 | false =>
  have h1:∀ a b,a<(rP p).length→b<(rP p).length→bfK p false a b=true→f a<f b:=by
   intro a b ha hb h
   simp only[bfK,bf1,qF,if_false,Bool.or_eq_true]at h
   rcases h with h | h
   ·exact ((hfg a b ha hb).1 h).1
   exact ((hfg a b ha hb).2 h).1
  have h2:∀ a b,a<(rP p).length→b<(rP p).length→a≠b→bfK p false a b=true∨bfK p false b a=true:=by
   intro a b ha hb hne
   simp only[bfK,bf1,qF,if_false,Bool.or_eq_true]
   rcases tot a b ha hb hne with h | h | h | h
   ·exact .inl (.inl h)
   ·exact .inr (.inl h)
   ·exact .inl (.inr h)
   exact .inr (.inr h)
  have h3:∀ a b,a<(rP p).length→b<(rP p).length→f a=f b→a=b:=by
   intro a b ha hb e
   refine Classical.byContradiction fun hne=>?_
   rcases h2 a b ha hb hne with h | h
   ·have:=h1 a b ha hb h; omega
   have:=h1 b a hb ha h; omega
  refine ⟨f,fun a b ha hb=>⟨h1 a b ha hb,fun h=>?_⟩,h3⟩
  rcases h2 a b ha hb (by rintro rfl; omega) with k | k
  ·exact k
  have:=h1 b a hb ha k; omega
 | true =>
  have h1:∀ a b,a<(rP p).length→b<(rP p).length→bfK p true a b=true→g a<g b:=by
   intro a b ha hb h
   simp only[bfK,bf2,if_true,Bool.or_eq_true]at h
   rcases h with h | h
   ·exact ((hfg a b ha hb).1 h).2
   exact ((hfg b a hb ha).2 h).2
  have h2:∀ a b,a<(rP p).length→b<(rP p).length→a≠b→bfK p true a b=true∨bfK p true b a=true:=by
   intro a b ha hb hne
   simp only[bfK,bf2,if_true,Bool.or_eq_true]
   rcases tot a b ha hb hne with h | h | h | h
   ·exact .inl (.inl h)
   ·exact .inr (.inl h)
   ·exact .inr (.inr h)
   exact .inl (.inr h)
  have h3:∀ a b,a<(rP p).length→b<(rP p).length→g a=g b→a=b:=by
   intro a b ha hb e
   refine Classical.byContradiction fun hne=>?_
   rcases h2 a b ha hb hne with h | h
   ·have:=h1 a b ha hb h; omega
   have:=h1 b a hb ha h; omega
  refine ⟨g,fun a b ha hb=>⟨h1 a b ha hb,fun h=>?_⟩,h3⟩
  rcases h2 a b ha hb (by rintro rfl; omega) with k | k
  ·exact k
  have:=h1 b a hb ha k; omega
theorem zsa {p:List Txt} {below:Bool} {f:Nat→Nat} (hf:∀ a b,a<(rP p).length→b<(rP p).length→(bfK p below a b=true↔f a<f b)) {a:Nat} (ha:a<(rP p).length):ahK p below a=ahead (rP p).length f a:=by
 unfold ahK ahead
 apply List.countP_congr
 intro b hb
 rw [hf b a (by simpa using hb) ha]; simp
theorem zoq {f g:Nat→Nat} {n:Nat}:∀ k,(∀ a,a<k→f a=g a)→zjn f n k=zjn g n k
 | 0,_=>rfl
 | k+1,h=>by unfold zjn; rw [zoq k fun a ha=>h a (by omega),h k (by omega)]
def srt (p:List Txt) (below:Bool):List Int:=zjn (ahK p below) (rP p).length (rP p).length
theorem zn0 {p:List Txt} {below:Bool}:(srt p below).length=(rP p).length:=zkc _
theorem z82 {p:List Txt} {below:Bool} {f:Nat→Nat} (hf:∀ a b,a<(rP p).length→b<(rP p).length→(bfK p below a b=true↔f a<f b)) (hi:∀ a b,a<(rP p).length→b<(rP p).length→f a=f b→a=b)
  {z:List Int} (hz:z.Perm (rooms (rP p).length)) (hs:(z.map fun x=>((f x.toNat:Nat):Int)).Pairwise (· ≤ ·)):z=srt p below:=by
 rw [z4v hi hz hs]
 exact (zoq _ fun a ha=>zsa hf ha).symm
end
section
section
variable {p:List Txt} {below:Bool}
theorem z20 (hp:zb5 p=true) (below:Bool):(srt p below).Perm (rooms (rP p).length):=by
 obtain ⟨f,hf,hi⟩:=znd hp below
 have h1:((rooms (rP p).length).mergeSort fun x y=>decide (f x.toNat≤f y.toNat)).Perm (rooms (rP p).length):=List.mergeSort_perm _ _
 have h2:(((rooms (rP p).length).mergeSort fun x y=>decide (f x.toNat≤f y.toNat)).map fun x=>((f x.toNat:Nat):Int)).Pairwise (· ≤ ·):=by
  rw [List.pairwise_map]
  refine (List.pairwise_mergeSort (fun a b c h k=>?_) (fun a b=>?_) _).imp fun {a b} h=>?_
  ·simp only[decide_eq_true_eq]at h k ⊢; omega
  ·simp only[Bool.or_eq_true,decide_eq_true_eq]; omega
  simp only[decide_eq_true_eq]at h; omega
 rw [← z82 hf hi h1 h2]
 exact h1
theorem yex (hp:zb5 p=true) {x:Int}:x∈srt p below↔0≤x∧x<(rP p).length:=by
 rw [(z20 hp below).mem_iff,zqs]
theorem zyh (hp:zb5 p=true):(srt p below).Nodup:=(z20 hp below).nodup_iff.2 (zqx _)
theorem zf3 (hp:zb5 p=true) {a:Nat} (ha:a<(rP p).length):ahK p below a<(rP p).length:=by
 obtain ⟨f,hf,hi⟩:=znd hp below
 rw [zsa hf ha]; exact z5d ha
theorem zik (hp:zb5 p=true) {a b:Nat} (ha:a<(rP p).length) (hb:b<(rP p).length):bfK p below a b=true↔ahK p below a<ahK p below b:=by
 obtain ⟨f,hf,hi⟩:=znd hp below
 rw [zsa hf ha,zsa hf hb,hf a b ha hb]
 constructor
 ·intro h; exact zo1 ha h
 intro h
 refine Classical.byContradiction fun k=>?_
 rcases Nat.lt_trichotomy (f a) (f b) with q | q | q
 ·exact k q
 ·have:=hi a b ha hb q; subst this; omega
 have:=zo1 (n:=(rP p).length) hb q; omega
theorem zk1 (hp:zb5 p=true) {a b:Nat} (ha:a<(rP p).length) (hb:b<(rP p).length) (h:ahK p below a=ahK p below b):a=b:=by
 obtain ⟨f,hf,hi⟩:=znd hp below
 rw [zsa hf ha,zsa hf hb]at h
 exact zvs hi ha hb h
theorem z80 (hp:zb5 p=true) {a:Nat} (ha:a<(rP p).length):(srt p below)[ahK p below a]?=some (a:Int) :=
 zrd (fun a ha=>zf3 hp ha) (fun a b ha hb h=>zk1 hp ha hb h) _ (qR _) a ha
theorem z81 (hp:zb5 p=true) {i:Nat} (hi:i<(rP p).length):∃ a,a<(rP p).length∧ahK p below a=i∧(srt p below)[i]?=some (a:Int):=by
 obtain ⟨x,hx,hm⟩:=zag (show i<(srt p below).length by rw [zn0]; exact hi)
 obtain ⟨h1,h2⟩:=(yex hp).1 hm
 refine ⟨x.toNat,by omega,?_,by rw [hx]; congr 1; omega⟩
 have h3:=z80 (below:=below) hp (a:=x.toNat) (by omega)
 have e:((x.toNat:Nat):Int)=x:=by omega
 rw [e]at h3
 have k1:=zbp h3
 have k2:=zbp hx
 rw [List.getElem?_eq_getElem k1]at h3
 rw [List.getElem?_eq_getElem k2]at hx
 exact zqv (zyh hp) k1 k2 ((Option.some.inj h3).trans (Option.some.inj hx).symm)
def zif (p:List Txt):List Int:=(srt p true).map fun x=>((ahK p false x.toNat:Nat):Int)
theorem zej:(zif p).length=(rP p).length:=by simp [zif,zn0]
theorem z2c (hp:zb5 p=true) {i a:Nat} (h:(srt p true)[i]?=some (a:Int)):(zif p)[i]?=some ((ahK p false a:Nat):Int):=by
 unfold zif
 rw [List.getElem?_map,h]
 simp
end
end

section
variable {M:List (List Bool)} {ms:List Nat} {n:Nat} {rk:Nat→Nat} {ws out:List Int}
abbrev ones (n:Nat):List Int:=List.replicate n 1
def RB (M:List (List Bool)) (n b:Nat):Int:=HB (revM n M) (ones n) n b
def yhc (M:List (List Bool)) (n:Nat) (out:List Int):Prop:=out.length=n∧∀ a,a<n→0≤zjk out a∧zjk out a≤RB M n a
theorem yhc.set (h:yhc M n out) {a:Nat} {v:Int} (ha:a<n) (h0:0≤v) (h1:v≤RB M n a):yhc M n (out.set a v):=by
 refine ⟨by simp [h.1],fun y hy=>?_⟩
 rw [z98 (by rw [h.1]; exact ha)]
 split
 ·rename_i e; subst e; exact ⟨h0,h1⟩
 exact h.2 y hy
end
section
variable {p:List Txt}
end
section
theorem zvd {σ:Nat→Nat} {n:Nat} (h:∀ a,a<n→σ a<n) (hi:∀ a b,a<n→b<n→σ a=σ b→a=b) {v:Nat} (hv:v<n):∃ a,a<n∧σ a=v:=by
 refine Classical.byContradiction fun hno=>?_
 have hno':∀ a,a<n→σ a≠v:=fun a ha e=>hno ⟨a,ha,e⟩
 have:=pig (σ:=fun a=>if σ a<v then σ a else σ a - 1) (n:=n) (m:=n - 1) (fun a ha=>by
  have h1:=h a ha
  have h2:=hno' a ha
  split <;> omega) (fun a b ha hb e=>by
  have h2:=hno' a ha
  have h3:=hno' b hb
  refine hi a b ha hb ?_
  split at e <;> split at e <;> omega)
 omega
theorem z77 {f g:Nat→Nat} {n:Nat} (f1:∀ a,a<n→f a<n) (f2:∀ a b,a<n→b<n→f a=f b→a=b) (g1:∀ a,a<n→g a<n) (g2:∀ a b,a<n→b<n→g a=g b→a=b)
  (h:∀ a b,a<n→b<n→(f a<f b↔g a<g b)):∀ a,a<n→f a=g a:=by
 have key:∀ v a,a<n→f a=v→g a=v:=by
  intro v
  induction v using Nat.strongRecOn with
  | _ v ih =>
   intro a ha e
   have hga:=g1 a ha
   have hfa:=f1 a ha
   rcases Nat.lt_trichotomy (g a) v with q | q | q
   ·obtain ⟨b,hb,e2⟩:=zvd f1 f2 (v:=g a) hga
    have e3:=ih (g a) q b hb e2
    have:=g2 b a hb ha e3
    subst this; omega
   ·exact q
   obtain ⟨d,hd,e2⟩:=zvd g1 g2 (v:=v) (by omega)
   have h1:=(h d a hd ha).2 (by omega)
   have:=ih (f d) (by omega) d hd rfl
   omega
 exact fun a ha=>(key (f a) a ha rfl).symm
variable {p t:List Txt} {L U:Nat→Nat→Prop} {σ:Nat→Nat}
theorem zfp {below:Bool} {a b:Nat}:bfK p below a b=true↔Lf p a b∨(if below then Ab p b a else Ab p a b):=by
 unfold bfK bf1 bf2 Lf Ab
 cases below <;> simp
theorem zfv (hp:zb5 p=true) {a:Nat} (ha:a<(rP p).length):(zif p)[ahK p true a]?=some ((ahK p false a:Nat):Int):=z2c hp (z80 hp ha)
theorem zz0 (hp:zb5 p=true) {i:Nat} (hi:i<(rP p).length):∃ a,a<(rP p).length∧ahK p true a=i:=by
 obtain ⟨a,h1,h2,-⟩:=z81 (below:=true) hp hi
 exact ⟨a,h1,h2⟩
end
section
variable {c:Nat→Nat→Nat} {H W:Nat}
theorem DL.cols (h:Pl c H W) {i j i' j':Nat} (hi:i<H) (hj:j<W) (hi':i'<H) (hj':j'<W) (hd:DL c H W (c i j) (c i' j')):j<j':=by
 obtain ⟨k,i1,i2,h1,h2,h3,run,e1,e2⟩:=hd
 have a1:j≤k:=by
  refine Classical.byContradiction fun hn=>?_
  have:=h.rect (i:=i1) (j:=k) (i':=i) (j':=j) i1 (k+1) h2 hi (by omega) hj e1.symm (by omega) (by omega) (by omega) (by omega)
  exact run i1 (by omega) (by omega) this.symm
 have a2:k+1≤j':=by
  refine Classical.byContradiction fun hn=>?_
  have:=h.rect (i:=i2) (j:=k+1) (i':=i') (j':=j') i2 k h3 hi' h1 hj' e2.symm (by omega) (by omega) (by omega) (by omega)
  exact run i2 (by omega) (by omega) this
 omega
theorem DL.cells {a b:Nat} (hd:DL c H W a b):(∃ i j,i<H∧j<W∧c i j=a)∧∃ i j,i<H∧j<W∧c i j=b:=by
 obtain ⟨k,i1,i2,h1,h2,h3,run,e1,e2⟩:=hd
 exact ⟨⟨i1,k,h2,by omega,e1.symm⟩,i2,k+1,h3,h1,e2.symm⟩
theorem TC.cols (h:Pl c H W) {a b:Nat} (hd:TC (DL c H W) a b):∀ {i j i' j':Nat},i<H→j<W→i'<H→j'<W→c i j=a→c i' j'=b→j<j':=by
 induction hd with
 | one hd=>intro i j i' j' h1 h2 h3 h4 e1 e2; subst e1; subst e2; exact hd.cols h h1 h2 h3 h4
 | tail _ hd ih =>
  intro i j i' j' h1 h2 h3 h4 e1 e2
  obtain ⟨⟨x,y,hx,hy,e3⟩,-⟩:=hd.cells
  have q1:=ih h1 h2 hx hy e1 e3
  subst e2; rw [← e3]at hd
  have q2:=hd.cols h hx hy h3 h4
  omega
def Thru (c:Nat→Nat→Nat) (H k:Nat):Prop:=∀ r,r<H→c r (k - 1)≠c r k
theorem zyn (h:Pl c H W) {k:Nat} (h1:1≤k) (h2:k<W) (ht:Thru c H k) {i j i' j':Nat} (hi:i<H) (hj:j<k) (hi':i'<H) (hj':k≤j') (hw:j'<W):TC (DL c H W) (c i j) (c i' j'):=by
 have q:TC (DL c H W) (c i (k - 1)) (c i' k) := .one ⟨k - 1,i,i',by omega,hi,hi',fun r r1 r2=>by
  have:=ht r (by omega)
  rw [show k - 1+1=k by omega]; exact this,rfl,by rw [show k - 1+1=k by omega]⟩
 have q1:c i j=c i (k - 1)∨TC (DL c H W) (c i j) (c i (k - 1)):=by
  by_cases e:c i j=c i (k - 1)
  ·exact .inl e
  exact .inr (zkj hi (by omega) (by omega) e)
 have q2:c i' k=c i' j'∨TC (DL c H W) (c i' k) (c i' j'):=by
  by_cases e:c i' k=c i' j'
  ·exact .inl e
  exact .inr (zkj hi' hj' hw e)
 have q3:TC (DL c H W) (c i j) (c i' k):=by
  rcases q1 with e | e
  ·rw [e]; exact q
  exact e.trans q
 rcases q2 with e | e
 ·rw [← e]; exact q3
 exact q3.trans e
variable {p:List Txt}
end
section
section
variable {cf cg:Nat→Nat→Nat} {H1 W1 H2 W2 n:Nat}
end
end
section
section
variable {cf cg:Nat→Nat→Nat} {H1 W1 H2 W2 n N:Nat}
end
end

structure Made (c:Nat→Nat→Nat) (H W:Nat) (g:List (List Int)):Prop where
 gw:GW g H W
 ok:okS g=true
 full:zl5 g=true
 plan:zbs (nm g)=true
 ren:Ren c H W (nm g)
section
section
variable {p q t:List Txt} {L U:Nat→Nat→Prop} {σ:Nat→Nat}
structure Two (p q t:List Txt) (σ:Nat→Nat):Prop where
 hp:zb5 p=true
 hq:zb5 q=true
 pl:zb5 t=true
 n:(rP t).length=(rP p).length+(rP q).length
 lt:∀ a,a<(rP t).length→σ a<(rP t).length
 inj:∀ a b,a<(rP t).length→b<(rP t).length→σ a=σ b→a=b
 l1:∀ a b,a<(rP p).length→b<(rP p).length→a≠b→(Lf t (σ a) (σ b)↔Lf p a b)∧(Ab t (σ a) (σ b)↔Ab p a b)
 l2:∀ a b,a<(rP q).length→b<(rP q).length→a≠b→(Lf t (σ ((rP p).length+a)) (σ ((rP p).length+b))↔Lf q a b)∧(Ab t (σ ((rP p).length+a)) (σ ((rP p).length+b))↔Ab q a b)
theorem Two.blk (h:Two p q t σ) (b1:Bool):(∀ a b,a<(rP p).length→b<(rP p).length→(ahK t b1 (σ a)<ahK t b1 (σ b)↔ahK p b1 a<ahK p b1 b)) ∧
  ∀ a b,a<(rP q).length→b<(rP q).length→(ahK t b1 (σ ((rP p).length+a))<ahK t b1 (σ ((rP p).length+b))↔ahK q b1 a<ahK q b1 b):=by
 have hn:=h.n
 constructor
 ·intro a b ha hb
  by_cases e:a=b
  ·subst e; simp
  rw [← zik h.pl (h.lt a (by omega)) (h.lt b (by omega)),← zik h.hp ha hb,zfp,zfp,(h.l1 a b ha hb e).1]
  cases b1 <;> simp [(h.l1 a b ha hb e).2,(h.l1 b a hb ha fun x=>e x.symm).2]
 intro a b ha hb
 by_cases e:a=b
 ·subst e; simp
 rw [← zik h.pl (h.lt _ (by omega)) (h.lt _ (by omega)),← zik h.hq ha hb,zfp,zfp,(h.l2 a b ha hb e).1]
 cases b1 <;> simp [(h.l2 a b ha hb e).2,(h.l2 b a hb ha fun x=>e x.symm).2]
theorem Two.fst (h:Two p q t σ) {b1:Bool} (hc:∀ a b,a<(rP p).length→b<(rP q).length→bfK t b1 (σ a) (σ ((rP p).length+b))=true) {a:Nat} (ha:a<(rP t).length) :
  ahK t b1 (σ a)=if a<(rP p).length then ahK p b1 a else (rP p).length+ahK q b1 (a - (rP p).length):=by
 have hn:=h.n
 refine z77 (n:=(rP t).length) (f:=fun a=>ahK t b1 (σ a)) (g:=fun a=>if a<(rP p).length then ahK p b1 a else (rP p).length+ahK q b1 (a - (rP p).length)) (fun a ha=>zf3 h.pl (h.lt a ha)) (fun a b ha hb e=>h.inj a b ha hb (zk1 h.pl (h.lt a ha) (h.lt b hb) e)) (fun a ha=>?_) (fun a b ha hb e=>?_) (fun a b ha hb=>?_) a ha
 ·skip
  split
  ·rename_i q1; have:=zf3 (below:=b1) h.hp q1; omega
  have:=zf3 (below:=b1) h.hq (show a - (rP p).length<(rP q).length by omega); omega
 ·try simp only at e
  split at e <;> split at e
  ·rename_i q1 q2; exact zk1 h.hp q1 q2 e
  ·rename_i q1 q2; have:=zf3 (below:=b1) h.hp q1; omega
  ·rename_i q1 q2; have:=zf3 (below:=b1) h.hp q2; omega
  have:=zk1 (below:=b1) h.hq (show a - (rP p).length<(rP q).length by omega) (show b - (rP p).length<(rP q).length by omega) (by omega)
  omega
 skip
 obtain ⟨k1,k2⟩:=h.blk b1
 by_cases q1:a<(rP p).length <;> by_cases q2:b<(rP p).length
 ·rw [if_pos q1,if_pos q2]; exact k1 a b q1 q2
 ·rw [if_pos q1,if_neg q2]
  have h1:=zf3 (below:=b1) h.hp q1
  have h2:=hc a (b - (rP p).length) q1 (by omega)
  rw [show (rP p).length+(b - (rP p).length)=b by omega,zik h.pl (h.lt a ha) (h.lt b hb)]at h2
  omega
 ·rw [if_neg q1,if_pos q2]
  have h1:=zf3 (below:=b1) h.hp q2
  have h2:=hc b (a - (rP p).length) q2 (by omega)
  rw [show (rP p).length+(a - (rP p).length)=a by omega,zik h.pl (h.lt b hb) (h.lt a ha)]at h2
  omega
 rw [if_neg q1,if_neg q2]
 have:=k2 (a - (rP p).length) (b - (rP p).length) (by omega) (by omega)
 rw [show (rP p).length+(a - (rP p).length)=a by omega,show (rP p).length+(b - (rP p).length)=b by omega]at this
 omega
theorem Two.snd (h:Two p q t σ) {b1:Bool} (hc:∀ a b,a<(rP p).length→b<(rP q).length→bfK t b1 (σ ((rP p).length+b)) (σ a)=true) {a:Nat} (ha:a<(rP t).length) :
  ahK t b1 (σ a)=if a<(rP p).length then (rP q).length+ahK p b1 a else ahK q b1 (a - (rP p).length):=by
 have hn:=h.n
 refine z77 (n:=(rP t).length) (f:=fun a=>ahK t b1 (σ a)) (g:=fun a=>if a<(rP p).length then (rP q).length+ahK p b1 a else ahK q b1 (a - (rP p).length)) (fun a ha=>zf3 h.pl (h.lt a ha)) (fun a b ha hb e=>h.inj a b ha hb (zk1 h.pl (h.lt a ha) (h.lt b hb) e)) (fun a ha=>?_) (fun a b ha hb e=>?_) (fun a b ha hb=>?_) a ha
 ·skip
  split
  ·rename_i q1; have:=zf3 (below:=b1) h.hp q1; omega
  have:=zf3 (below:=b1) h.hq (show a - (rP p).length<(rP q).length by omega); omega
 ·try simp only at e
  split at e <;> split at e
  ·rename_i q1 q2; exact zk1 h.hp q1 q2 (Nat.add_left_cancel e)
  ·rename_i q1 q2; have:=zf3 (below:=b1) h.hq (show b - (rP p).length<(rP q).length by omega); omega
  ·rename_i q1 q2; have:=zf3 (below:=b1) h.hq (show a - (rP p).length<(rP q).length by omega); omega
  have:=zk1 (below:=b1) h.hq (show a - (rP p).length<(rP q).length by omega) (show b - (rP p).length<(rP q).length by omega) (by omega)
  omega
 skip
 obtain ⟨k1,k2⟩:=h.blk b1
 by_cases q1:a<(rP p).length <;> by_cases q2:b<(rP p).length
 ·rw [if_pos q1,if_pos q2]; have:=k1 a b q1 q2; omega
 ·rw [if_pos q1,if_neg q2]
  have h1:=zf3 (below:=b1) h.hq (show b - (rP p).length<(rP q).length by omega)
  have h2:=hc a (b - (rP p).length) q1 (by omega)
  rw [show (rP p).length+(b - (rP p).length)=b by omega,zik h.pl (h.lt b hb) (h.lt a ha)]at h2
  omega
 ·rw [if_neg q1,if_pos q2]
  have h1:=zf3 (below:=b1) h.hq (show a - (rP p).length<(rP q).length by omega)
  have h2:=hc b (a - (rP p).length) q2 (by omega)
  rw [show (rP p).length+(a - (rP p).length)=a by omega,zik h.pl (h.lt a ha) (h.lt b hb)]at h2
  omega
 rw [if_neg q1,if_neg q2]
 have:=k2 (a - (rP p).length) (b - (rP p).length) (by omega) (by omega)
 rw [show (rP p).length+(a - (rP p).length)=a by omega,show (rP p).length+(b - (rP p).length)=b by omega]at this
 exact this
def upL (l:List Int) (k:Nat):List Int:=l.map (· + (k:Int))
theorem Two.beside (h:Two p q t σ) (hc:∀ a b,a<(rP p).length→b<(rP q).length→Lf t (σ a) (σ ((rP p).length+b))):zif t=zif p++upL (zif q) (rP p).length:=by
 have hn:=h.n
 have e:∀ b1,∀ a,a<(rP t).length→_:=fun b1 a ha=>h.fst (b1:=b1) (fun a b ha hb=>by rw [zfp]; exact .inl (hc a b ha hb)) ha
 apply List.ext_getElem?
 intro i
 by_cases hi:i<(rP t).length
 ·obtain ⟨r,hr,rfl⟩:=zz0 h.pl hi
  obtain ⟨a,ha,rfl⟩:=zvd h.lt h.inj hr
  rw [zfv h.pl hr,e true a ha,e false a ha]
  by_cases q1:a<(rP p).length
  ·rw [if_pos q1,if_pos q1,List.getElem?_append_left (by rw [zej]; exact zf3 h.hp q1),zfv h.hp q1]
  rw [if_neg q1,if_neg q1,List.getElem?_append_right (by rw [zej]; omega),zej,Nat.add_sub_cancel_left]
  unfold upL
  rw [List.getElem?_map,zfv h.hq (by omega),qO]
  congr 1; omega
 rw [List.getElem?_eq_none (by rw [zej]; omega),List.getElem?_eq_none (by simp [upL,zej]; omega)]
theorem Two.under (h:Two p q t σ) (hc:∀ a b,a<(rP p).length→b<(rP q).length→Ab t (σ a) (σ ((rP p).length+b))):zif t=upL (zif q) (rP p).length++zif p:=by
 have hn:=h.n
 have e1:∀ a,a<(rP t).length→_:=fun a ha=>h.fst (b1:=false) (fun a b ha hb=>by rw [zfp]; exact .inr (hc a b ha hb)) ha
 have e2:∀ a,a<(rP t).length→_:=fun a ha=>h.snd (b1:=true) (fun a b ha hb=>by rw [zfp]; exact .inr (hc a b ha hb)) ha
 apply List.ext_getElem?
 intro i
 by_cases hi:i<(rP t).length
 ·obtain ⟨r,hr,rfl⟩:=zz0 h.pl hi
  obtain ⟨a,ha,rfl⟩:=zvd h.lt h.inj hr
  rw [zfv h.pl hr,e1 a ha,e2 a ha]
  have hul:(upL (zif q) (rP p).length).length=(rP q).length:=by simp [upL,zej]
  by_cases q1:a<(rP p).length
  ·rw [if_pos q1,if_pos q1,List.getElem?_append_right (by omega),hul,Nat.add_sub_cancel_left,zfv h.hp q1]
  have:=zf3 (below:=true) h.hq (show a - (rP p).length<(rP q).length by omega)
  rw [if_neg q1,if_neg q1,List.getElem?_append_left (by omega)]
  unfold upL
  rw [List.getElem?_map,zfv h.hq (by omega),qO]
  congr 1; omega
 rw [List.getElem?_eq_none (by rw [zej]; omega),List.getElem?_eq_none (by simp [upL,zej]; omega)]
end
end
section
section
variable {p q:List Txt}
end
end
structure Pt where
 r:Nat
 c:Nat
 h:Nat
 w:Nat
 deriving DecidableEq
def Pt.In (t:Pt) (H W:Nat):Prop:=1≤t.h∧1≤t.w∧t.r+t.h≤H∧t.c+t.w≤W
def zvp (f:Nat→Bool):Nat→Option Nat
 | 0=>none
 | k+1=>(zvp f k).or (if decide (1≤k) && f k then some k else none)
theorem zh9 {f:Nat→Bool}:∀ {n:Nat},zvp f n=none↔∀ k,1≤k→k<n→f k=false
 | 0=>by simp [zvp]
 | n+1=>by
  simp only[zvp,Option.or_eq_none_iff,zh9 (n:=n)]
  constructor
  ·rintro ⟨h1,h2⟩ k hk hn
   by_cases e:k=n
   ·subst e; cases hf:f k with
    | false=>rfl
    | true=>rw [hf]at h2; simp at h2; omega
   exact h1 k hk (by omega)
  intro h
  refine ⟨fun k hk hn=>h k hk (by omega),?_⟩
  by_cases hn:1≤n
  ·simp [h n hn (by omega)]
  simp [hn]
theorem zfb {f:Nat→Bool} {k:Nat}:∀ {n:Nat},zvp f n=some k↔1≤k∧k<n∧f k=true∧∀ j,1≤j→j<k→f j=false
 | 0=>by simp [zvp]
 | n+1=>by
  simp only[zvp]
  cases h:zvp f n with
  | some m =>
   have hm:=(zfb (n:=n)).1 h
   simp only[Option.some_or,Option.some.injEq]
   constructor
   ·rintro rfl; exact ⟨hm.1,by omega,hm.2.2.1,hm.2.2.2⟩
   rintro ⟨h1,h2,h3,h4⟩
   rcases Nat.lt_trichotomy m k with e | e | e
   ·have:=h4 m hm.1 e; rw [hm.2.2.1]at this; cases this
   ·exact e
   have:=hm.2.2.2 k h1 e; rw [h3]at this; cases this
  | none =>
   have hn:=zh9.1 h
   simp only[Option.none_or]
   constructor
   ·intro e
    split at e
    ·rename_i hc
     cases e
     simp only[qB,decide_eq_true_eq]at hc
     exact ⟨hc.1,by omega,hc.2,hn⟩
    cases e
   rintro ⟨h1,h2,h3,h4⟩
   by_cases e:k=n
   ·subst e; simp [h1,h3]
   have:=hn k h1 (by omega); rw [h3]at this; cases this
def thU (z:Nat→Nat→Int) (t:Pt) (k:Nat):Bool:=(List.range t.h).all fun i=>decide (z (t.r+i) (t.c+k - 1)≠z (t.r+i) (t.c+k))
def thL (z:Nat→Nat→Int) (t:Pt) (k:Nat):Bool:=(List.range t.w).all fun j=>decide (z (t.r+k - 1) (t.c+j)≠z (t.r+k) (t.c+j))
theorem zvg {z:Nat→Nat→Int} {t:Pt} {k:Nat}:thU z t k=true↔∀ i,i<t.h→z (t.r+i) (t.c+k - 1)≠z (t.r+i) (t.c+k):=by simp [thU]
theorem zvf {z:Nat→Nat→Int} {t:Pt} {k:Nat}:thL z t k=true↔∀ j,j<t.w→z (t.r+k - 1) (t.c+j)≠z (t.r+k) (t.c+j):=by simp [thL]
def zd2 (z:Nat→Nat→Int) (t:Pt):Option (Bool × Nat) :=
 match zvp (thU z t) t.w with
 | some k=>some (false,k)
 | none=>match zvp (thL z t) t.h with
  | some k=>some (true,k)
  | none=>none
def Pt.one (t:Pt) (q:Bool × Nat):Pt:=if q.1 then ⟨t.r,t.c,q.2,t.w⟩ else ⟨t.r,t.c,t.h,q.2⟩
def Pt.two (t:Pt) (q:Bool × Nat):Pt:=if q.1 then ⟨t.r+q.2,t.c,t.h - q.2,t.w⟩ else ⟨t.r,t.c+q.2,t.h,t.w - q.2⟩
theorem zeo {z:Nat→Nat→Int} {t:Pt} {q:Bool × Nat} (h:zd2 z t=some q):1≤q.2∧if q.1 then q.2<t.h∧thL z t q.2=true else q.2<t.w∧thU z t q.2=true:=by
 unfold zd2 at h
 split at h
 ·rename_i k hk; cases h; have:=zfb.1 hk; exact ⟨this.1,by simp [this.2.1,this.2.2.1]⟩
 split at h
 ·rename_i k hk; cases h; have:=zfb.1 hk; exact ⟨this.1,by simp [this.2.1,this.2.2.1]⟩
 cases h
theorem z3g {z:Nat→Nat→Int} {t:Pt}:zd2 z t=none↔(∀ k,1≤k→k<t.w→thU z t k=false)∧∀ k,1≤k→k<t.h→thL z t k=false:=by
 unfold zd2
 split
 ·rename_i k hk
  have:=zfb.1 hk
  constructor
  ·intro h; cases h
  rintro ⟨h,_⟩; rw [h k this.1 this.2.1]at this; simp at this
 rename_i hn
 split
 ·rename_i k hk
  have:=zfb.1 hk
  constructor
  ·intro h; cases h
  rintro ⟨_,h⟩; rw [h k this.1 this.2.1]at this; simp at this
 rename_i hn2
 exact ⟨fun _=>⟨zh9.1 hn,zh9.1 hn2⟩,fun _=>rfl⟩
theorem Pt.In.cut {t:Pt} {H W:Nat} (h:t.In H W) {z:Nat→Nat→Int} {q:Bool × Nat} (hq:zd2 z t=some q):(t.one q).In H W∧(t.two q).In H W ∧
  (t.one q).h*(t.one q).w<t.h*t.w∧(t.two q).h*(t.two q).w<t.h*t.w:=by
 obtain ⟨h1,h2⟩:=zeo hq
 obtain ⟨a,b,c,d⟩:=h
 obtain ⟨lv,k⟩:=q
 simp only at h1 h2
 cases lv with
 | true =>
  simp only[if_true]at h2
  simp only[Pt.one,Pt.two,if_true,Pt.In]
  refine ⟨⟨h1,b,by omega,d⟩,⟨by omega,b,by omega,d⟩,Nat.mul_lt_mul_of_pos_right h2.1 b,Nat.mul_lt_mul_of_pos_right (by omega) b⟩
 | false =>
  simp only[qF,if_false]at h2
  simp only[Pt.one,Pt.two,qF,if_false,Pt.In]
  refine ⟨⟨a,h1,c,by omega⟩,⟨a,by omega,c,by omega⟩,Nat.mul_lt_mul_of_pos_left h2.1 a,Nat.mul_lt_mul_of_pos_left (by omega) a⟩
def zw4 (z:Nat→Nat→Int) (t:Pt):Bool:=(List.range t.h).all fun i=>(List.range t.w).all fun j=>decide (z (t.r+i) (t.c+j)=z t.r t.c)
theorem zpc {z:Nat→Nat→Int} {t:Pt}:zw4 z t=true↔∀ i j,i<t.h→j<t.w→z (t.r+i) (t.c+j)=z t.r t.c:=by
 simp only[zw4,List.all_eq_true,List.mem_range,decide_eq_true_eq]
 exact ⟨fun h i j hi hj=>h i hi j hj,fun h i hi j hj=>h i j hi hj⟩
inductive CT where
 | leaf (a:Int)
 | node (lv:Bool) (x y:CT)
def tree (z:Nat→Nat→Int):Nat→Pt→Option CT
 | 0,_=>none
 | f+1,t=>if zw4 z t then some (.leaf (z t.r t.c)) else
  match zd2 z t with
  | none=>none
  | some q=>match tree z f (t.one q),tree z f (t.two q) with
   | some x,some y=>some (.node q.1 x y)
   | _,_=>none
theorem zm5 {z:Nat→Nat→Int} {H W:Nat}:∀ (n:Nat) {t:Pt} {f g:Nat},t.In H W→t.h*t.w≤n→t.h*t.w≤f→t.h*t.w≤g→tree z f t=tree z g t
 | 0,t,f,g,hi,hn,_,_=>by have:=Nat.mul_pos hi.1 hi.2.1; omega
 | n+1,t,f,g,hi,hn,hf,hg=>by
  have:=Nat.mul_pos hi.1 hi.2.1
  obtain ⟨f,rfl⟩:∃ f',f=f'+1:=⟨f - 1,by omega⟩
  obtain ⟨g,rfl⟩:∃ g',g=g'+1:=⟨g - 1,by omega⟩
  simp only[tree]
  split
  ·rfl
  cases hc:zd2 z t with
  | none=>rfl
  | some q =>
   obtain ⟨i1,i2,a1,a2⟩:=hi.cut hc
   simp only
   rw [zm5 n i1 (f:=f) (g:=g) (by omega) (by omega) (by omega),zm5 n i2 (f:=f) (g:=g) (by omega) (by omega) (by omega)]
def CT.fold {α:Type} (room:Int→α) (cut:Bool→α→α→α):CT→α
 | .leaf a=>room a
 | .node lv x y=>cut lv (x.fold room cut) (y.fold room cut)
structure Whole (z:Nat→Nat→Int) (H W:Nat) (t:Pt):Prop where
 inn:t.In H W
 all:∀ i j i' j',i<H→j<W→i'<H→j'<W→z i j=z i' j'→t.r≤i→i<t.r+t.h→t.c≤j→j<t.c+t.w→t.r≤i'∧i'<t.r+t.h∧t.c≤j'∧j'<t.c+t.w
def yc3 (z:Nat→Nat→Int) (H W:Nat):Prop:=∀ {i j i' j':Nat} (k l:Nat),i<H→i'<H→j<W→j'<W→z i j=z i' j'→min i i'≤k→k≤max i i'→min j j'≤l→l≤max j j'→z k l=z i j
theorem Whole.cut {z:Nat→Nat→Int} {H W:Nat} (hz:yc3 z H W) {t:Pt} (h:Whole z H W t) {q:Bool × Nat} (hq:zd2 z t=some q):Whole z H W (t.one q)∧Whole z H W (t.two q):=by
 obtain ⟨i1,i2,_,_⟩:=h.inn.cut hq
 obtain ⟨c1,c2⟩:=zeo hq
 obtain ⟨lv,k⟩:=q
 have hin:=h.inn
 unfold Pt.In at hin
 cases lv with
 | true =>
  simp only[if_true]at c2
  have hth:=zvf.1 c2.2
  have key:∀ i j i' j',i<H→j<W→i'<H→j'<W→z i j=z i' j'→t.r≤i→i<t.r+k→t.c≤j→j<t.c+t.w→t.r+k≤i'→i'<t.r+t.h→t.c≤j'→j'<t.c+t.w→False:=by
   intro i j i' j' a b c d e f1 f2 f3 f4 g1 g2 g3 g4
   have e1:=hz (t.r+k - 1) j a c b d e (by omega) (by omega) (by omega) (by omega)
   have e2:=hz (t.r+k) j a c b d e (by omega) (by omega) (by omega) (by omega)
   have:=hth (j - t.c) (by omega)
   rw [show t.c+(j - t.c)=j by omega]at this
   exact this (e1.trans e2.symm)
  refine ⟨⟨i1,?_⟩,⟨i2,?_⟩⟩
  ·simp only[Pt.one,if_true]
   intro i j i' j' a b c d e f1 f2 f3 f4
   obtain ⟨g1,g2,g3,g4⟩:=h.all i j i' j' a b c d e f1 (by omega) f3 f4
   refine ⟨g1,?_,g3,g4⟩
   rcases Nat.lt_or_ge i' (t.r+k) with h1 | h1
   ·exact h1
   exact (key i j i' j' a b c d e f1 f2 f3 f4 h1 g2 g3 g4).elim
  simp only[Pt.two,if_true]
  intro i j i' j' a b c d e f1 f2 f3 f4
  obtain ⟨g1,g2,g3,g4⟩:=h.all i j i' j' a b c d e (by omega) (by omega) f3 f4
  refine ⟨?_,by omega,g3,g4⟩
  rcases Nat.lt_or_ge i' (t.r+k) with h1 | h1
  ·exact (key i' j' i j c d a b e.symm g1 h1 g3 g4 f1 (by omega) f3 f4).elim
  exact h1
 | false =>
  simp only[qF,if_false]at c2
  have hth:=zvg.1 c2.2
  have key:∀ i j i' j',i<H→j<W→i'<H→j'<W→z i j=z i' j'→t.r≤i→i<t.r+t.h→t.c≤j→j<t.c+k→t.r≤i'→i'<t.r+t.h→t.c+k≤j'→j'<t.c+t.w→False:=by
   intro i j i' j' a b c d e f1 f2 f3 f4 g1 g2 g3 g4
   have e1:=hz i (t.c+k - 1) a c b d e (by omega) (by omega) (by omega) (by omega)
   have e2:=hz i (t.c+k) a c b d e (by omega) (by omega) (by omega) (by omega)
   have:=hth (i - t.r) (by omega)
   rw [show t.r+(i - t.r)=i by omega]at this
   exact this (e1.trans e2.symm)
  refine ⟨⟨i1,?_⟩,⟨i2,?_⟩⟩
  ·simp only[Pt.one,qF,if_false]
   intro i j i' j' a b c d e f1 f2 f3 f4
   obtain ⟨g1,g2,g3,g4⟩:=h.all i j i' j' a b c d e f1 f2 f3 (by omega)
   refine ⟨g1,g2,g3,?_⟩
   rcases Nat.lt_or_ge j' (t.c+k) with h1 | h1
   ·exact h1
   exact (key i j i' j' a b c d e f1 f2 f3 f4 g1 g2 h1 g4).elim
  simp only[Pt.two,qF,if_false]
  intro i j i' j' a b c d e f1 f2 f3 f4
  obtain ⟨g1,g2,g3,g4⟩:=h.all i j i' j' a b c d e f1 f2 (by omega) (by omega)
  refine ⟨g1,g2,?_,by omega⟩
  rcases Nat.lt_or_ge j' (t.c+k) with h1 | h1
  ·exact (key i' j' i j c d a b e.symm g1 g2 g3 h1 f1 f2 f3 (by omega)).elim
  exact h1
section
def thW (p:List Txt) (k:Nat):Bool:=(List.range p.length).all fun i=>decide (zak p i (k - 1)≠zak p i k)
theorem z0i {p:List Txt} {k:Nat}:thW p k=true↔∀ i,i<p.length→zak p i (k - 1)≠zak p i k:=by simp [thW]
def zfm (n:Nat) (w:List Int):Bool:=decide (zjk w 2=n)
theorem zyr {p:List Txt} {k:Nat} {s0:List (List Int)}:∀ i,i≤p.length →
  ((∀ r,r<i→zi9 p k r=true)∧zfj p k s0 i=(if i=0 then -1 else 0,s0)) ∨
  ((¬ ∀ r,r<i→zi9 p k r=true)∧((zfj p k s0 i).1<0∨0<(zfj p k s0 i).1) ∧ -1≤(zfj p k s0 i).1∧∃ L,(zfj p k s0 i).2=s0++L∧∀ w∈L,zfm p.length w=false)
 | 0,_ => .inl ⟨fun r hr=>by omega,rfl⟩
 | i+1,hi=>by
  rcases zyr (p:=p) (k:=k) (s0:=s0) i (by omega) with ⟨h1,h2⟩ | ⟨h1,h2,h3,L,h4,h5⟩
  ·cases hw:zi9 p k i with
   | true =>
    refine .inl ⟨fun r hr=>?_,?_⟩
    ·by_cases e:r=i
     ·rw [e]; exact hw
     exact h1 r (by omega)
    simp only[zfj,h2,hw,zfo]
    by_cases e:i=0
    ·subst e; simp
    simp [e]
   | false =>
    refine .inr ⟨fun h=>?_,?_⟩
    ·have:=h i (by omega); rw [hw]at this; cases this
    simp only[zfj,h2,hw,zfo]
    by_cases e:i=0
    ·subst e; exact ⟨.inl (by simp),by simp,[],by simp,by simp⟩
    simp only[e,if_false,Bool.false_and,qF,Bool.not_false,Bool.true_and,Int.le_refl,decide_true,if_true]
    refine ⟨.inl (by simp),by simp,[[(k:Int),0,(i:Int) - 0]],rfl,?_⟩
    intro w hw'
    simp only[List.mem_singleton]at hw'
    subst hw'
    show decide (((i:Int) - 0)=p.length)=false
    exact decide_eq_false (by omega)
  refine .inr ⟨fun h=>h1 fun r hr=>h r (by omega),?_⟩
  simp only[zfj,zfo]
  generalize (zfj p k s0 i).1=f at h2 h3
  cases hw:zi9 p k i with
  | true =>
   simp only[Bool.true_and,Bool.not_true,Bool.false_and,qF,if_false]
   have hi0:i≠0:=by rintro rfl; exact h1 fun r hr=>by omega
   refine ⟨?_,?_,L,h4,h5⟩
   ·by_cases hf:f<0
    ·simp only[hf,decide_true,if_true]; exact .inr (by omega)
    simp only[hf,decide_false,qF,if_false]; omega
   by_cases hf:f<0
   ·simp only[hf,decide_true,if_true]; omega
   simp only[hf,decide_false,qF,if_false]; omega
  | false =>
   simp only[Bool.false_and,qF,if_false,Bool.not_false,Bool.true_and,decide_eq_true_eq]
   by_cases hf:0≤f
   ·rw [if_pos hf]
    refine ⟨.inl (by simp),by simp,L++[[(k:Int),f,(i:Int) - f]],by simp only[h4,List.append_assoc],?_⟩
    intro w hw'
    simp only[List.mem_append,List.mem_singleton]at hw'
    rcases hw' with hw' | rfl
    ·exact h5 w hw'
    simp [zfm,zjk]; omega
   rw [if_neg hf]
   exact ⟨.inl (by simp only; omega),by simp only; omega,L,h4,h5⟩
theorem z29 {p:List Txt} {k:Nat}:(∀ r,r<p.length→zi9 p k r=true)↔thW p k=true:=by
 rw [z0i]
 constructor
 ·intro h r hr; have:=h r hr; simpa [zi9,hr] using this
 intro h r hr; simpa [zi9,hr] using h r hr
theorem yff {p:List Txt} (hp:1≤p.length) {k:Nat} {s0:List (List Int)}:∃ L,(zfj p k s0 (p.length+1)).2=s0++L∧L.find? (zfm p.length)=if thW p k then some [(k:Int),0,(p.length:Int)] else none:=by
 rcases zyr (p:=p) (k:=k) (s0:=s0) p.length (qR _) with ⟨h1,h2⟩ | ⟨h1,h2,h3,L,h4,h5⟩
 ·rw [z29]at h1
  refine ⟨[[(k:Int),0,(p.length:Int)]],?_,?_⟩
  ·simp only[zfj,h2,zfo,zys]
   have:p.length≠0:=by omega
   simp [this]
  rw [h1]; simp [zfm,zjk]
 rw [z29]at h1
 simp only[h1,if_false,qF]
 simp only[zfj,zfo,zys]
 generalize (zfj p k s0 p.length).1=f at h2 h3
 simp only[Bool.false_and,qF,if_false,Bool.not_false,Bool.true_and,decide_eq_true_eq]
 by_cases hf:0≤f
 ·rw [if_pos hf]
  refine ⟨L++[[(k:Int),f,(p.length:Int) - f]],by simp only[h4,List.append_assoc],List.find?_eq_none.2 ?_⟩
  intro w hw'
  simp only[List.mem_append,List.mem_singleton]at hw'
  rcases hw' with hw' | rfl
  ·simp [h5 w hw']
  simp [zfm,zjk]; omega
 rw [if_neg hf]
 exact ⟨L,h4,List.find?_eq_none.2 fun w hw=>by simp [h5 w hw]⟩
theorem zpr {p:List Txt} (hp:1≤p.length):∀ K,(zdi p K).find? (zfm p.length)=(zvp (thW p) K).map fun k=>[(k:Int),0,(p.length:Int)]
 | 0=>rfl
 | K+1=>by
  simp only[zdi,zvp]
  split
  ·rename_i hk
   obtain ⟨L,h1,h2⟩:=yff hp (k:=K) (s0:=zdi p K)
   rw [h1,List.find?_append,zpr hp K,h2]
   cases zvp (thW p) K with
   | some k=>rfl
   | none=>simp only[Option.map_none,Option.none_or,hk,decide_true,Bool.true_and]; split <;> rfl
  rename_i hk
  rw [zpr hp K]
  simp [hk]
def z9o (p:List Txt):Int × Int :=
 match (uprights p).find? (zfm p.length) with
 | some w=>(0,zjk w 0)
 | none=>match (uprights (zde p)).find? (zfm (zao p).length) with
  | some w=>(1,zjk w 0)
  | none=>(0,0)
theorem zwj {α:Type} {f:α→Bool} {l:List α} {i:Nat} {a:α} (h:l[i]?=some a) (h1:(l.take i).find? f=none) (h2:f a=true):l.find? f=some a:=by
 have hl:=(List.getElem?_eq_some_iff.1 h).1
 have:l=l.take i++(a::l.drop (i+1)):=by
  obtain ⟨_,e⟩:=List.getElem?_eq_some_iff.1 h
  rw [← e,List.getElem_cons_drop,List.take_append_drop]
 rw [this,List.find?_append,h1]
 simp [h2]
theorem zog {α:Type} {f:α→Bool} {l:List α} {i:Nat} {a:α} (h:l[i]?=some a) (h1:(l.take i).find? f=none) (h2:f a=false):(l.take (i+1)).find? f=none:=by
 rw [tk h,List.find?_append,h1]; simp [h2]
def zjt (t:Pt) (row:Txt):Txt:=(row.drop t.c).take t.w
def sub (p:List Txt) (t:Pt):List Txt:=((p.drop t.r).take t.h).map (zjt t)
section
variable {p:List Txt} {t:Pt}
theorem zln {W:Nat} (hi:t.In p.length W):(sub p t).length=t.h:=by
 simp [sub]; have:=hi.2.2.1; omega
theorem yez {W:Nat} (hi:t.In p.length W) {i:Nat} {row:Txt} (h:i<t.h) (hr:p[t.r+i]?=some row):(sub p t)[i]?=some (zjt t row):=by
 simp [sub,h,hr]
theorem zju (hg:zcw p=true) (hi:t.In p.length (zao p).length) {i:Nat} (h:i<t.h):∃ row,p[t.r+i]?=some row∧(sub p t)[i]?=some (zjt t row)∧(zjt t row).length=t.w∧row.length=(zao p).length:=by
 obtain ⟨row,hr,_⟩:=z6h (p:=p) (i:=t.r+i) (by have:=hi.2.2.1; omega)
 have hl:=zdt hg hr
 exact ⟨row,hr,yez hi h hr,by simp [zjt]; have:=hi.2.2.2; omega,hl⟩
theorem ztr (hg:zcw p=true) (hi:t.In p.length (zao p).length):(zao (sub p t)).length=t.w:=by
 obtain ⟨row,_,h2,h3,_⟩:=zju hg hi (i:=0) hi.1
 rw [zcu h2,h3]
theorem zhn {row:Txt} {j:Nat} (h:j<t.w):(zjt t row)[j]?=row[t.c+j]?:=by
 simp [zjt,List.getElem?_take,h]
theorem zm3 (hg:zcw p=true) (hi:t.In p.length (zao p).length) {i j:Nat} (h:i<t.h) (hj:j<t.w):zak (sub p t) i j=zak p (t.r+i) (t.c+j):=by
 obtain ⟨row,h1,h2,_,_⟩:=zju hg hi h
 simp only[zak,h1,h2,Option.getD_some,zhn hj]
theorem z21 (hg:zcw p=true) (hi:t.In p.length (zao p).length):zcw (sub p t)=true:=by
 have hsm:=zbl hg
 have hl:=zln hi
 have hh:=ztr hg hi
 obtain ⟨i1,i2,i3,i4⟩:=hi
 obtain ⟨row0,hr0,hm0⟩:=z6h (p:=p) (i:=0) (by omega)
 have hw6:=hsm.2.2 row0 hm0
 have hhd:=zcu hr0
 rw [hhd]at i4
 unfold zcw
 simp only[qB,decide_eq_true_eq,List.all_eq_true]
 refine ⟨⟨fun r hr=>?_,by omega⟩,by omega⟩
 obtain ⟨i,hi'⟩:=List.getElem?_of_mem hr
 have hil:=(List.getElem?_eq_some_iff.1 hi').1
 obtain ⟨row,h1,h2,h3,h4⟩:=zju hg ⟨i1,i2,i3,by rw [hhd]; exact i4⟩ (t:=t) (i:=i) (by omega)
 rw [h2]at hi'; cases hi'
 simp only[zr8,qB,decide_eq_true_eq,List.all_eq_true]
 refine ⟨⟨⟨by omega,by omega⟩,by omega⟩,fun c hc=>?_⟩
 obtain ⟨j,hj⟩:=List.getElem?_of_mem hc
 have hjl:=(List.getElem?_eq_some_iff.1 hj).1
 rw [zhn (by omega)]at hj
 obtain ⟨c',hc',hl'⟩:=zj7 hg h1 (k:=t.c+j) (by rw [hhd]; omega)
 rw [hc']at hj; cases hj; exact hl'
theorem ye1 (hg:zcw p=true) (hi:t.In p.length (zao p).length) {k:Nat} (h1:1≤k) (h2:k<t.w):thW (sub p t) k=thU (zak p) t k:=by
 apply Bool.eq_iff_iff.2
 rw [z0i,zvg,zln hi]
 constructor
 ·intro h i hi'; have:=h i hi'; rw [zm3 hg hi hi' h2,zm3 hg hi hi' (by omega)]at this; rw [show t.c+k - 1=t.c+(k - 1) by omega]; exact this
 intro h i hi'; have:=h i hi'; rw [zm3 hg hi hi' h2,zm3 hg hi hi' (by omega)]; rw [show t.c+k - 1=t.c+(k - 1) by omega]at this; exact this
theorem ye0 (hg:zcw p=true) (hi:t.In p.length (zao p).length) {k:Nat} (h1:1≤k) (h2:k<t.h):thW (zde (sub p t)) k=thL (zak p) t k:=by
 apply Bool.eq_iff_iff.2
 rw [z0i,zvf,zjy,ztr hg hi]
 have key:∀ i j,i<t.h→j<t.w→zak (zde (sub p t)) j i=zak p (t.r+i) (t.c+j):=fun i j a b=>by
  rw [zy5 (by rw [zln hi]; exact a) (by rw [ztr hg hi]; exact b),zm3 hg hi a b]
 constructor
 ·intro h j hj; have:=h j hj; rw [key _ _ h2 hj,key _ _ (by omega) hj]at this; rw [show t.r+k - 1=t.r+(k - 1) by omega]; exact this
 intro h j hj; have:=h j hj; rw [key _ _ h2 hj,key _ _ (by omega) hj]; rw [show t.r+k - 1=t.r+(k - 1) by omega]at this; exact this
theorem znl {f g:Nat→Bool}:∀ {n:Nat},(∀ k,1≤k→k<n→f k=g k)→zvp f n=zvp g n
 | 0,_=>rfl
 | n+1,h=>by
  simp only[zvp]
  rw [znl fun k a b=>h k a (by omega)]
  by_cases hn:1≤n
  ·rw [h n hn (by omega)]
  simp [hn]
theorem z03 (hg:zcw p=true) (hi:t.In p.length (zao p).length):z9o (sub p t)=match zd2 (zak p) t with | some q=>(if q.1 then 1 else 0,(q.2:Int)) | none=>(0,0):=by
 have hl:=zln hi
 have hh:=ztr hg hi
 unfold z9o zd2
 rw [show uprights (sub p t)=zdi (sub p t) (zao (sub p t)).length from rfl,zpr (by rw [hl]; exact hi.1),hh,znl fun k a b=>ye1 hg hi a b]
 cases zvp (thU (zak p) t) t.w with
 | some k=>simp [zjk]
 | none =>
  have h2:=zpr (p:=zde (sub p t)) (by rw [zjy,hh]; exact hi.2.1) (zao (zde (sub p t))).length
  rw [zjy,hh,zpp (by rw [hh]; exact hi.2.1),hl,znl fun k a b=>ye0 hg hi a b]at h2
  simp only[Option.map_none]
  rw [show uprights (zde (sub p t))=zdi (zde (sub p t)) t.h by unfold uprights; rw [zpp (by rw [hh]; exact hi.2.1),hl],h2]
  cases zvp (thL (zak p) t) t.h with
  | some k=>simp [zjk]
  | none=>rfl
def zgz (p:List Txt) (q:Bool × Nat):List Txt:=if q.1 then p.take q.2 else p.map (·.take q.2)
def zg0 (p:List Txt) (q:Bool × Nat):List Txt:=if q.1 then p.drop q.2 else p.map (·.drop q.2)
theorem zvb {q:Bool × Nat} (h:if q.1 then q.2<t.h else q.2<t.w):zgz (sub p t) q=sub p (t.one q):=by
 obtain ⟨lv,k⟩:=q
 cases lv with
 | true =>
  simp only[if_true]at h
  simp only[zgz,Pt.one,if_true,sub,← List.map_take,List.take_take]
  rw [Nat.min_eq_left (by omega)]
  rfl
 | false =>
  simp only[qF,if_false]at h
  simp only[zgz,Pt.one,qF,if_false,sub,List.map_map]
  refine List.map_congr_left fun row _=>?_
  simp only[Function.comp,zjt,List.take_take]
  rw [Nat.min_eq_left (by omega)]
theorem zvc {q:Bool × Nat} (h:if q.1 then q.2<t.h else q.2<t.w):zg0 (sub p t) q=sub p (t.two q):=by
 obtain ⟨lv,k⟩:=q
 cases lv with
 | true =>
  simp only[if_true]at h
  simp only[zg0,Pt.two,if_true,sub,← List.map_drop,List.drop_take,List.drop_drop]
  rfl
 | false =>
  simp only[qF,if_false]at h
  simp only[zg0,Pt.two,qF,if_false,sub,List.map_map]
  refine List.map_congr_left fun row _=>?_
  simp only[Function.comp,zjt,List.drop_take,List.drop_drop]
def z9p (p:List Txt):Bool:=p.all fun row=>row.all fun c=>decide (some c=(zao p)[0]?)
theorem zpb (hg:zcw p=true) (hi:t.In p.length (zao p).length):z9p (sub p t)=zw4 (zak p) t:=by
 apply Bool.eq_iff_iff.2
 rw [zpc]
 obtain ⟨row0,h1,h2,h3,h4⟩:=zju hg hi (i:=0) hi.1
 have hc0:(zjt t row0)[0]?=row0[t.c+0]?:=zhn hi.2.1
 obtain ⟨c0,e0,_⟩:=zj7 hg h1 (k:=t.c+0) (by have:=hi.2.2.2; have:=hi.2.1; omega)
 rw [e0]at hc0
 have hz0:zak p t.r t.c=(c0.toNat:Int) - 97:=zcy (by simpa using h1) (by simpa using e0)
 simp only[z9p,List.all_eq_true,decide_eq_true_eq,zcu h2,hc0,Option.some.injEq]
 constructor
 ·intro h i j hi' hj'
  obtain ⟨row,g1,g2,g3,g4⟩:=zju hg hi hi'
  obtain ⟨c,e1,_⟩:=zj7 hg g1 (k:=t.c+j) (by have:=hi.2.2.2; omega)
  have:=h _ (List.mem_of_getElem? g2) c (List.mem_of_getElem? ((zhn hj').trans e1))
  rw [zcy g1 e1,hz0,this]
 intro h r hr c hc
 obtain ⟨i,hi'⟩:=List.getElem?_of_mem hr
 have hil:=(List.getElem?_eq_some_iff.1 hi').1
 rw [zln hi]at hil
 obtain ⟨row,g1,g2,g3,g4⟩:=zju hg hi hil
 rw [g2]at hi'; cases hi'
 obtain ⟨j,hj⟩:=List.getElem?_of_mem hc
 have hjl:=(List.getElem?_eq_some_iff.1 hj).1
 rw [zhn (by omega)]at hj
 have:=h i j hil (by omega)
 rw [zcy g1 hj,hz0]at this
 exact UInt8.toNat_inj.1 (by omega)
end
end
section
def Pt.rect (t:Pt):Rect:=⟨t.r,t.c,t.h,t.w⟩
abbrev zje (g:List (List Int)) (rs:List Rect) (t:Rect):PV := .agg (zaz g rs::t.cells)
def yha (rs:List Rect) (t:Rect) (i:Nat):Bool:=match rs[i]? with | some b=>decide (t.both b=t) | none=>false
def zg1 (rs:List Rect) (t:Rect) (k:Nat):List Int:=((List.range k).filter (yha rs t)).map fun i:Nat=>(i:Int)
theorem zkf {rs:List Rect} {t:Rect} {k:Nat} {b:Rect} (h:rs[k]?=some b):zg1 rs t (k+1)=if t.both b=t then zg1 rs t k++[(k:Int)] else zg1 rs t k:=by
 unfold zg1
 rw [qS,List.filter_append,List.map_append]
 simp only[List.filter_cons,List.filter_nil,yha,h,decide_eq_true_eq]
 split <;> simp
theorem z8g {rs:List Rect} {t:Rect} {k:Nat}:(zg1 rs t k).length≤k:=by
 unfold zg1
 rw [List.length_map]
 exact Nat.le_trans (List.length_filter_le _ _) (by simp)
def rms (rs:List Rect) (t:Rect):List Int:=zg1 rs t rs.length
section
variable {p:List Txt} {t:Pt}
theorem zfx (hp:zbs p=true):yc3 (zak p) p.length (zao p).length:=by
 intro i j i' j' k l hi hi' hj hj' he h1 h2 h3 h4
 obtain ⟨b,hb,hin,_,hall⟩:=zga hp hi hj
 obtain ⟨b',hb',hin',_,_⟩:=zga hp hi' hj'
 rw [← he,hb]at hb'
 cases hb'
 refine hall k l (by omega) (by omega) ?_
 simp only[inB,qB,decide_eq_true_eq]at hin hin' ⊢
 omega
theorem zna (hp:zbs p=true):Whole (zak p) p.length (zao p).length ⟨0,0,p.length,(zao p).length⟩:=by
 have hsm:=zbl (zd7 hp)
 obtain ⟨row0,h0,hm0⟩:=zag hsm.1
 have hw:=zfg (zd7 hp) h0
 rw [← zcu h0]at hw
 exact ⟨⟨hsm.1,hw,by simp,by simp⟩,fun i j i' j' a b c d _ _ _ _ _=>by simp only; omega⟩
theorem zsy (hp:zbs p=true) (ht:Whole (zak p) p.length (zao p).length t) {i:Nat} {b:Rect} (hb:(rP p)[i]?=some b) :
  t.rect.both b=t.rect↔∃ a c,t.r≤a∧a<t.r+t.h∧t.c≤c∧c<t.c+t.w∧zak p a c=i:=by
 have hh:=(zcx hp).rect hb
 obtain ⟨a1,c1,p1,e1⟩:=hh.at_
 obtain ⟨a2,c2,p2,e2⟩:=hh.al
 obtain ⟨a3,c3,p3,e3⟩:=hh.ao
 obtain ⟨a4,c4,p4,e4⟩:=hh.ar
 have q1:=hh.inn _ _ p1
 obtain ⟨v1,g1⟩:=p1
 obtain ⟨v2,g2⟩:=p2
 obtain ⟨v3,g3⟩:=p3
 obtain ⟨v4,g4⟩:=p4
 unfold Gone at g1 g2 g3 g4
 constructor
 ·intro h
  refine ⟨a1,c1,?_⟩
  simp only[Rect.both,Pt.rect,Rect.mk.injEq]at h
  refine ⟨by omega,by omega,by omega,by omega,v1⟩
 rintro ⟨a,c,h1,h2,h3,h4,hv⟩
 have hin:=ht.inn
 unfold Pt.In at hin
 have k1:=ht.all a c a1 c1 (by omega) (by omega) (by omega) (by omega) (hv.trans v1.symm) h1 h2 h3 h4
 have k2:=ht.all a c a2 c2 (by omega) (by omega) (by omega) (by omega) (hv.trans v2.symm) h1 h2 h3 h4
 have k3:=ht.all a c a3 c3 (by omega) (by omega) (by omega) (by omega) (hv.trans v3.symm) h1 h2 h3 h4
 have k4:=ht.all a c a4 c4 (by omega) (by omega) (by omega) (by omega) (hv.trans v4.symm) h1 h2 h3 h4
 simp only[Rect.both,Pt.rect,Rect.mk.injEq]
 omega
theorem zei (hp:zbs p=true) {i j:Nat} (hi:i<p.length) (hj:j<(zao p).length):0≤zak p i j∧zak p i j<(rP p).length:=(zcx hp).room hi hj
theorem zui (hp:zbs p=true) (ht:Whole (zak p) p.length (zao p).length t) {x:Int} :
  x∈rms (rP p) t.rect↔∃ a c,t.r≤a∧a<t.r+t.h∧t.c≤c∧c<t.c+t.w∧zak p a c=x:=by
 have hin:=ht.inn
 unfold Pt.In at hin
 simp only[rms,zg1,List.mem_map,List.mem_filter,List.mem_range]
 constructor
 ·rintro ⟨i,⟨hi,hb⟩,rfl⟩
  obtain ⟨b,hb',_⟩:=zag hi
  simp only[yha,hb',decide_eq_true_eq]at hb
  exact (zsy hp ht hb').1 hb
 rintro ⟨a,c,h1,h2,h3,h4,hv⟩
 have hr:=zei hp (i:=a) (j:=c) (by omega) (by omega)
 rw [hv]at hr
 obtain ⟨b,hb',_⟩:=zag (show x.toNat<(rP p).length by omega)
 refine ⟨x.toNat,⟨by omega,?_⟩,by omega⟩
 simp only[yha,hb',decide_eq_true_eq]
 exact (zsy hp ht hb').2 ⟨a,c,h1,h2,h3,h4,by omega⟩
theorem z8h {rs:List Rect} {t:Rect}:(rms rs t).Nodup:=by
 unfold rms zg1
 rw [List.nodup_iff_pairwise_ne,List.pairwise_map]
 exact ((List.nodup_iff_pairwise_ne.1 List.nodup_range).filter _).imp fun h e=>h (Int.ofNat.inj e)
theorem yem (hp:zbs p=true) (ht:Whole (zak p) p.length (zao p).length t) (h:zw4 (zak p) t=true):rms (rP p) t.rect=[zak p t.r t.c]:=by
 have hall:=zpc.1 h
 have hin:=ht.inn
 unfold Pt.In at hin
 have hm:∀ x,x∈rms (rP p) t.rect↔x=zak p t.r t.c:=by
  intro x
  rw [zui hp ht]
  constructor
  ·rintro ⟨a,c,h1,h2,h3,h4,rfl⟩
   have:=hall (a - t.r) (c - t.c) (by omega) (by omega)
   rwa [show t.r+(a - t.r)=a by omega,show t.c+(c - t.c)=c by omega]at this
  rintro rfl
  exact ⟨t.r,t.c,by omega,by omega,by omega,by omega,rfl⟩
 have hn:=z8h (rs:=rP p) (t:=t.rect)
 match hl:rms (rP p) t.rect,hm,hn with
 | [],hm,_=>exact absurd ((hm _).2 rfl) (by simp)
 | [x],hm,_=>rw [(hm x).1 (by simp)]
 | x::y::l,hm,hn =>
  have h1:=(hm x).1 (by simp)
  have h2:=(hm y).1 (by simp)
  rw [h1,h2]at hn
  simp at hn
theorem ya2 (hp:zbs p=true) (ht:Whole (zak p) p.length (zao p).length t) (h:zw4 (zak p) t=false):2≤(rms (rP p) t.rect).length:=by
 have hin:=ht.inn
 unfold Pt.In at hin
 have hno:¬ ∀ i j,i<t.h→j<t.w→zak p (t.r+i) (t.c+j)=zak p t.r t.c:=by
  intro hc; rw [zpc.2 hc]at h; cases h
 match hl:rms (rP p) t.rect with
 | [] =>
  have:zak p t.r t.c∈rms (rP p) t.rect:=(zui hp ht).2 ⟨t.r,t.c,by omega,by omega,by omega,by omega,rfl⟩
  rw [hl]at this; simp at this
 | [x] =>
  exfalso
  apply hno
  intro i j hi hj
  have h1:zak p (t.r+i) (t.c+j)∈rms (rP p) t.rect:=(zui hp ht).2 ⟨t.r+i,t.c+j,by omega,by omega,by omega,by omega,rfl⟩
  have h2:zak p t.r t.c∈rms (rP p) t.rect:=(zui hp ht).2 ⟨t.r,t.c,by omega,by omega,by omega,by omega,rfl⟩
  rw [hl]at h1 h2
  simp at h1 h2
  omega
 | x::y::l=>simp
end
def thG (g:List (List Int)) (t:Pt) (level:Bool) (line:Nat):Bool:=if level then (List.range t.w).all fun j=>zkp g true line (t.c+j) else (List.range t.h).all fun i=>zkp g false line (t.r+i)
theorem yhx {p:List Txt} (hp:zbs p=true) {t:Pt} (ht:t.In p.length (zao p).length) {k:Nat} (h1:1≤k) (h2:k<t.w):thG (gP p) t false (t.c+k)=thU (zak p) t k:=by
 have hN:=zcx hp
 obtain ⟨i1,i2,i3,i4⟩:=ht
 apply Bool.eq_iff_iff.2
 rw [zvg]
 simp only[thG,qF,if_false,List.all_eq_true,List.mem_range,zkp,zcs,decide_eq_true_eq]
 constructor
 ·intro h i hi
  have:=h i hi
  rwa [hN.cell (by omega) (by omega),hN.cell (by omega) (by omega)]at this
 intro h i hi
 have:=h i hi
 rwa [hN.cell (by omega) (by omega),hN.cell (by omega) (by omega)]
theorem yhw {p:List Txt} (hp:zbs p=true) {t:Pt} (ht:t.In p.length (zao p).length) {k:Nat} (h1:1≤k) (h2:k<t.h):thG (gP p) t true (t.r+k)=thL (zak p) t k:=by
 have hN:=zcx hp
 obtain ⟨i1,i2,i3,i4⟩:=ht
 apply Bool.eq_iff_iff.2
 rw [zvf]
 simp only[thG,if_true,List.all_eq_true,List.mem_range,zkp,zcs,decide_eq_true_eq]
 constructor
 ·intro h i hi
  have:=h i hi
  rwa [hN.cell (by omega) (by omega),hN.cell (by omega) (by omega)]at this
 intro h i hi
 have:=h i hi
 rwa [hN.cell (by omega) (by omega),hN.cell (by omega) (by omega)]
def zzt (g:List (List Int)) (rs:List Rect) (lv:Bool) (x y:Rect):List PV := .bool lv::(zaz g rs::x.cells)++(zaz g rs::y.cells)
abbrev z07 (g:List (List Int)) (rs:List Rect) (t:Pt) (q:Bool × Nat):PV := .agg (zzt g rs q.1 (t.one q).rect (t.two q).rect)
end
end Fw
end Go.Proofs.YtcfgpmeebpinaaaGreat
