/- Parts of the framework and of the proof: Parts of plans in the program: rooms, lines, gone through; The framework, part ha: loops over functions: yield's contract out of the body's walk, and the statement; The framework, part hb: a region in which two variables are made, either of them ahead of the other; The cuts of a part, and the first one, gone through; Rooms put in a row by how many are ahead of them; Plans that are cut, in plain words; Orders of two rooms, gone through; Sorting by a function, gone through; Sizes by the program, gone through; Sizes, gone through; the small functions of the statements; Heaviest sums, gone through; Where rooms begin and how far they may be moved: the program's lists are the specification's; Marks, gone through; Places and slack by the specification, gone through; Shapes in plain words: the program's least shapes are the specification's; A relation the other way round, place by place; Places and slack by the program, gone through; Rooms in order by the program, gone through; The first and the second order, gone through; The orders by the specification, gone through; The two orders are orders of all rooms; the places of the second order in the first one; The framework, part z: a region in which the bytes of a text become a new row that is written later; Drawing: the reader, gone through; Plans cut in two, gone through; Drawing plans, gone through. -/
import Derived.Test.YtjnbmmjpibpkhaaGreatJ2
import Derived.Test.YtjnbmmjpibpkhaaGreatJ3
import Derived.Test.YtjnbmmjpibpkhaaGreatJ1
import Derived.Lib.ConvBytes
set_option linter.all false
namespace Go.Proofs.YtjnbmmjpibpkhaaGreat
namespace Fw
open Go
open Nat renaming reduceEqDiff → qE, reduceLeDiff → qL, reduceAdd → qA, reduceMul → qM, le_refl → qR
open List renaming append_nil → qN, mapM_append → qP, mapM_cons → qC, mapM_map → qU, range_succ → qS, take_of_length_le → qT
open Bool renaming and_eq_true → qB, false_eq_true → qF
open Option renaming map_some → qO, map_eq_some_iff → qI
open Int renaming reduceToNat → qZ
theorem zoz {S:Store} {x t:Rect}:pEq tab S 93 (zro x) (.agg [.int .i64 t.row,.int .i64 t.col,.int .i64 t.high,.int .i64 t.wide])=some (decide (x=t)):=by
 have h:(tab 93).kd = .struct [(0,3),(1,3),(2,3),(3,3)]:=by kernel_rfl
 have h2:zg8 tab [(0,3),(1,3),(2,3),(3,3)] 0=true:=by kernel_rfl
 obtain ⟨b1,b2,b3,b4⟩:=x
 obtain ⟨o1,o2,o3,o4⟩:=t
 unfold pEq
 rw [h]
 simp [h2,Rect.cells,zp7]
def slO (l:List Int) (v:Nat):PV:=match l with | [] => .nils | _ => .loc 1 v 0 l.length
def stO (b:Ob) (l:List Int) (v t:Nat):Store:=match l with | []=>⟨[b],t⟩ | _=>⟨[b,.arr v 3 1 (l.map (.int .i64))],t⟩
theorem zu0 {v:Nat}:slO [] v = .nils:=rfl
theorem zu1 {b:Ob} {v t:Nat}:stO b [] v t=⟨[b],t⟩:=rfl
theorem zx8 {l:List Int} {v:Nat} (h:l≠[]):slO l v = .loc 1 v 0 l.length:=by cases l with | nil=>exact absurd rfl h | cons a l=>rfl
theorem zyc {b:Ob} {l:List Int} {v t:Nat} (h:l≠[]):stO b l v t=⟨[b,.arr v 3 1 (l.map (.int .i64))],t⟩:=by cases l with | nil=>exact absurd rfl h | cons a l=>rfl
theorem z7r {b:Ob} {l:List Int} {v t:Nat} {im:Bool} {k:Nat}:reify (stO b l v t) im (k+2) (slO l v)=some (eInts l):=by
 cases l with
 | nil=>rfl
 | cons a l=>exact zcv (k:=k+1) (S:=⟨[b,.arr v 3 1 ((a::l).map (.int .i64))],t⟩) (o:=1) rfl (by simp) (zjy _)
theorem zmz {g:List (List Int)} {rs:List Rect}:(za3 g rs).isDef=true:=rfl
theorem z58 (b:Rect) (t:Rect) (l:List Int):(t.both b≠t∧l=[])∨(t.both b≠t∧l≠[])∨(t.both b=t∧l=[])∨(t.both b=t∧l≠[]):=by
 by_cases h:t.both b=t <;> by_cases e:l=[] <;> simp [h,e]
theorem z6j (g:List (List Int)) {rs:List Rect} (hrs:rs.length≤1000) (hfit:∀ b∈rs,b.Fit) {t:Rect} (ht:t.Fit):PC Tryz.prog 113 [zik g rs t] (eInts (rms rs t)) true:=by
 simp only[zik,Rect.cells]
 refine PC.of ⟨Tryz.func113,by kernel_rfl,rfl,by kernel_rfl⟩ zap mixed (by show 1≤Tryz.f113.ntmps; decide) ?_
 refine W.r fun K hK=>?_
 simp(disch:=omega)only[↓RU,RV,RH,↓reduceIte,qE,reduceCtorEq,if_pos,↓RS,RG,qA,qM,qL,ty7,zck,za7,zaa,zcl,za8]
 apply hK;clear hK K
 refine W.r fun K hK=>?_
 simp(disch:=omega)only[↓RU,RV,RH,↓reduceIte,qE,reduceCtorEq,if_pos,↓RS,RG,qA,qM,qL]
 apply hK;clear hK K
 refine W.seq ?_
 refine W.r fun K hK=>?_
 simp(disch:=omega)only[↓RU,RV,RH,↓reduceIte,qE,reduceCtorEq,if_pos,↓RS,RG,qA,qM,qL,ty1,ty3,zab,ty7,ze6,zde,zck,za7,zaa,zcl,ze7,za8]
 apply hK;clear hK K
 refine W.block ?_
 refine W.loopS [1,10,11,12,3] (fun n vs S=>∃ i v tk:Nat,n=rs.length - i∧i≤rs.length∧vs=[.ref 0 0 0,znu rs,.int .i64 rs.length,.int .i64 i,slO (zgw rs t i) v]∧S=stO (.arr 0 104 5 [za3 g rs,.int .i64 t.row,.int .i64 t.col,.int .i64 t.high,.int .i64 t.wide]) (zgw rs t i) v tk) rs.length ?_ ?_
 ·refine ⟨1,[],[.ref 0 0 0,znu rs,.int .i64 rs.length,.int .i64 (0:Nat),slO [] 0],stO (.arr 0 104 5 [za3 g rs,.int .i64 t.row,.int .i64 t.col,.int .i64 t.high,.int .i64 t.wide]) [] 0 2,?_,?_,0,0,2,rfl,by omega,rfl,rfl⟩
  ·simp [-qU,Env.put,Env.of,zaf,zb1,zaj,zan,zau,zax,zb9,zca,zdc,zb8,zbi,zcb,zdb,zdd,zbk,zbj,zay,zb7,zcc,zda,zbg,zbf,zaw,zbh,zb6,zfc,qS,qP,qC,zu0]
  simp [-qU,Env.put,Env.of,zaf,zb1,zaj,zan,zau,zax,zb9,zca,zdc,zb8,zbi,zcb,zdb,zdd,zbk,zbj,zay,zb7,zcc,zda,zbg,zbf,zaw,zbh,zb6,zfc,qS,qP,qC,zu1,zod,Rect.cells]
 rintro n vs S - ⟨i,v,tk,rfl,h_i,rfl,rfl⟩
 refine W.r fun K hK=>?_
 simp(disch:=omega)only[↓RU,RV,RH,↓reduceIte,qE,reduceCtorEq,if_pos,w64,↓RS,RG,qA,qM,qL,zaa]
 apply hK;clear hK K
 refine W.seq ?_
 refine W.cond rfl (fun h=>?_) (fun h=>?_)
 ·try simp only[RL]at h
  obtain ⟨b,hb,hbm⟩:=zag (show i<rs.length by omega)
  have hbr:=zkn hb
  have hlen:=z7w (rs:=rs) (t:=t) (k:=i)
  generalize hl:zgw rs t i=l at hlen
  refine W.skip ?_
  refine xn ?_
  refine W.seq ?_
  refine W.block ?_
  refine W.r fun K hK=>?_
  obtain ⟨hd,rfl⟩ | ⟨hd,hw⟩ | ⟨hd,rfl⟩ | ⟨hd,hw⟩:=z58 b t l
  ·skip
   rw [zu0,zu1]
   simp(disch:=omega)only[↓RU,RV,RH,↓reduceIte,qE,reduceCtorEq,if_pos,↓RS,RG,qA,qM,qL,ty3,za7,zaa,za8,hbr,zb4,Rect.cells]
   apply hK;clear hK K
   refine W.seq_draw (by kernel_rfl) fun K hK=>?_
   simp(disch:=omega)only[↓RU,RV,RH,↓reduceIte,qE,reduceCtorEq,if_pos,qN,w64,↓RS,RG,qA,qM,qL,ty7,zck,za7,zaa,zcl,za8]
   refine zad.pc (zkq ht.in_ (hfit b hbm).in_) rfl (.inl rfl) ?_
   simp(disch:=omega)only[↓RU,RV,RH,↓reduceIte,qE,reduceCtorEq,if_pos,qN,w64,↓RS,RG,qA,qM,qL,ty7,zck,za7,zaa,zcl,za8,zoz,qO]
   apply hK;clear hK K
   refine W.cond rfl (fun h1=>?_) (fun h1=>?_)
   ·try simp only[RL]at h1
    exact absurd h1 (by simp [hd])
   try simp only[RL]at h1
   refine W.skip ?_
   refine XbN ?_
   refine xn ?_
   refine W.k fun K hK=>?_
   simp(disch:=omega)only[↓RU,RV,RH,↓reduceIte,qE,reduceCtorEq,if_pos,w64,↓RS,RG,qA,qM,qL,zaa]
   apply hK;clear hK K
   refine xn ?_
   have hnx:zgw rs t (i+1)=[]:=by rw [zj3 hb,hl,if_neg hd] <;> rfl
   refine ⟨rs.length - (i+1),by omega,1,[],[.ref 0 0 0,znu rs,.int .i64 rs.length,.int .i64 ((i+1:Nat):Int),slO (zgw rs t (i+1)) v],stO (.arr 0 104 5 [za3 g rs,.int .i64 t.row,.int .i64 t.col,.int .i64 t.high,.int .i64 t.wide]) (zgw rs t (i+1)) v (tk+2),?_,?_,i+1,v,(tk+2),rfl,by omega,rfl,rfl⟩
   ·rw [hnx]; simp [-qU,Env.put,Env.of,zaf,zb1,zaj,zan,zau,zax,zb9,zca,zdc,zb8,zbi,zcb,zdb,zdd,zbk,zbj,zay,zb7,zcc,zda,zbg,zbf,zaw,zbh,zb6,zfc,qS,qP,qC,zu0]
   rw [hnx]; simp [-qU,Env.put,Env.of,zaf,zb1,zaj,zan,zau,zax,zb9,zca,zdc,zb8,zbi,zcb,zdb,zdd,zbk,zbj,zay,zb7,zcc,zda,zbg,zbf,zaw,zbh,zb6,zfc,qS,qP,qC,zu1,Rect.cells]
  ·skip
   rw [zx8 hw,zyc hw]
   simp(disch:=omega)only[↓RU,RV,RH,↓reduceIte,qE,reduceCtorEq,if_pos,↓RS,RG,qA,qM,qL,ty3,za7,zaa,za8,hbr,zb4,Rect.cells]
   apply hK;clear hK K
   refine W.seq_draw (by kernel_rfl) fun K hK=>?_
   simp(disch:=omega)only[↓RU,RV,RH,↓reduceIte,qE,reduceCtorEq,if_pos,qN,w64,↓RS,RG,qA,qM,qL,ty7,zck,za7,zaa,zcl,za8]
   refine zad.pc (zkq ht.in_ (hfit b hbm).in_) rfl (.inl rfl) ?_
   simp(disch:=omega)only[↓RU,RV,RH,↓reduceIte,qE,reduceCtorEq,if_pos,qN,w64,↓RS,RG,qA,qM,qL,ty7,zck,za7,zaa,zcl,za8,zoz,qO]
   apply hK;clear hK K
   refine W.cond rfl (fun h1=>?_) (fun h1=>?_)
   ·try simp only[RL]at h1
    exact absurd h1 (by simp [hd])
   try simp only[RL]at h1
   refine W.skip ?_
   refine XbN ?_
   refine xn ?_
   refine W.k fun K hK=>?_
   simp(disch:=omega)only[↓RU,RV,RH,↓reduceIte,qE,reduceCtorEq,if_pos,w64,↓RS,RG,qA,qM,qL,zaa]
   apply hK;clear hK K
   refine xn ?_
   have hnx:zgw rs t (i+1)=l:=by rw [zj3 hb,hl,if_neg hd] <;> rfl
   refine ⟨rs.length - (i+1),by omega,2,[],[.ref 0 0 0,znu rs,.int .i64 rs.length,.int .i64 ((i+1:Nat):Int),slO (zgw rs t (i+1)) v],stO (.arr 0 104 5 [za3 g rs,.int .i64 t.row,.int .i64 t.col,.int .i64 t.high,.int .i64 t.wide]) (zgw rs t (i+1)) v (tk+2),?_,?_,i+1,v,(tk+2),rfl,by omega,rfl,rfl⟩
   ·rw [hnx]; simp [-qU,Env.put,Env.of,zaf,zb1,zaj,zan,zau,zax,zb9,zca,zdc,zb8,zbi,zcb,zdb,zdd,zbk,zbj,zay,zb7,zcc,zda,zbg,zbf,zaw,zbh,zb6,zfc,qS,qP,qC,zx8 hw]
   rw [hnx]; simp [-qU,Env.put,Env.of,zaf,zb1,zaj,zan,zau,zax,zb9,zca,zdc,zb8,zbi,zcb,zdb,zdd,zbk,zbj,zay,zb7,zcc,zda,zbg,zbf,zaw,zbh,zb6,zfc,qS,qP,qC,zyc hw,zh2,Rect.cells]
  ·skip
   rw [zu0,zu1]
   simp(disch:=omega)only[↓RU,RV,RH,↓reduceIte,qE,reduceCtorEq,if_pos,↓RS,RG,qA,qM,qL,ty3,za7,zaa,za8,hbr,zb4,Rect.cells]
   apply hK;clear hK K
   refine W.seq_draw (by kernel_rfl) fun K hK=>?_
   simp(disch:=omega)only[↓RU,RV,RH,↓reduceIte,qE,reduceCtorEq,if_pos,qN,w64,↓RS,RG,qA,qM,qL,ty7,zck,za7,zaa,zcl,za8]
   refine zad.pc (zkq ht.in_ (hfit b hbm).in_) rfl (.inl rfl) ?_
   simp(disch:=omega)only[↓RU,RV,RH,↓reduceIte,qE,reduceCtorEq,if_pos,qN,w64,↓RS,RG,qA,qM,qL,ty7,zck,za7,zaa,zcl,za8,zoz,qO]
   apply hK;clear hK K
   refine W.cond rfl (fun h1=>?_) (fun h1=>?_)
   ·try simp only[RL]at h1
    refine W.k fun K hK=>?_
    simp(disch:=omega)only[↓RU,RV,RH,↓reduceIte,qE,reduceCtorEq,if_pos,↓RS,RG,qA,qM,qL,zab,zaa]
    apply hK;clear hK K
    refine XbN ?_
    refine xn ?_
    refine W.k fun K hK=>?_
    simp(disch:=omega)only[↓RU,RV,RH,↓reduceIte,qE,reduceCtorEq,if_pos,w64,↓RS,RG,qA,qM,qL,zaa]
    apply hK;clear hK K
    refine xn ?_
    have hnx:zgw rs t (i+1)=[(i:Int)]:=by rw [zj3 hb,hl,if_pos hd] <;> rfl
    refine ⟨rs.length - (i+1),by omega,1,[3],[.ref 0 0 0,znu rs,.int .i64 rs.length,.int .i64 ((i+1:Nat):Int),slO (zgw rs t (i+1)) (tk+3)],stO (.arr 0 104 5 [za3 g rs,.int .i64 t.row,.int .i64 t.col,.int .i64 t.high,.int .i64 t.wide]) (zgw rs t (i+1)) (tk+3) (tk+4),?_,?_,i+1,(tk+3),(tk+4),rfl,by omega,rfl,rfl⟩
    ·rw [hnx]; simp [-qU,Env.put,Env.of,zaf,zb1,zaj,zan,zau,zax,zb9,zca,zdc,zb8,zbi,zcb,zdb,zdd,zbk,zbj,zay,zb7,zcc,zda,zbg,zbf,zaw,zbh,zb6,zfc,qS,qP,qC,zx8]
    rw [hnx]; simp [-qU,Env.put,Env.of,zaf,zb1,zaj,zan,zau,zax,zb9,zca,zdc,zb8,zbi,zcb,zdb,zdd,zbk,zbj,zay,zb7,zcc,zda,zbg,zbf,zaw,zbh,zb6,zfc,qS,qP,qC,zyc,zod,Rect.cells]
   try simp only[RL]at h1
   exact absurd h1 (by simp [hd])
  skip
  rw [zx8 hw,zyc hw]
  simp(disch:=omega)only[↓RU,RV,RH,↓reduceIte,qE,reduceCtorEq,if_pos,↓RS,RG,qA,qM,qL,ty3,za7,zaa,za8,hbr,zb4,Rect.cells]
  apply hK;clear hK K
  refine W.seq_draw (by kernel_rfl) fun K hK=>?_
  simp(disch:=omega)only[↓RU,RV,RH,↓reduceIte,qE,reduceCtorEq,if_pos,qN,w64,↓RS,RG,qA,qM,qL,ty7,zck,za7,zaa,zcl,za8]
  refine zad.pc (zkq ht.in_ (hfit b hbm).in_) rfl (.inl rfl) ?_
  simp(disch:=omega)only[↓RU,RV,RH,↓reduceIte,qE,reduceCtorEq,if_pos,qN,w64,↓RS,RG,qA,qM,qL,ty7,zck,za7,zaa,zcl,za8,zoz,qO]
  apply hK;clear hK K
  refine W.cond rfl (fun h1=>?_) (fun h1=>?_)
  ·try simp only[RL]at h1
   refine W.k fun K hK=>?_
   simp(disch:=omega)only[↓RU,RV,RH,↓reduceIte,qE,reduceCtorEq,if_pos,↓RS,RG,qA,qM,qL,zab,zaa]
   apply hK;clear hK K
   refine XbN ?_
   refine xn ?_
   refine W.k fun K hK=>?_
   simp(disch:=omega)only[↓RU,RV,RH,↓reduceIte,qE,reduceCtorEq,if_pos,w64,↓RS,RG,qA,qM,qL,zaa]
   apply hK;clear hK K
   refine xn ?_
   have hnx:zgw rs t (i+1)=l++[(i:Int)]:=by rw [zj3 hb,hl,if_pos hd] <;> rfl
   refine ⟨rs.length - (i+1),by omega,2,[],[.ref 0 0 0,znu rs,.int .i64 rs.length,.int .i64 ((i+1:Nat):Int),slO (zgw rs t (i+1)) (tk+2)],stO (.arr 0 104 5 [za3 g rs,.int .i64 t.row,.int .i64 t.col,.int .i64 t.high,.int .i64 t.wide]) (zgw rs t (i+1)) (tk+2) (tk+4),?_,?_,i+1,(tk+2),(tk+4),rfl,by omega,rfl,rfl⟩
   ·rw [hnx]; simp [-qU,Env.put,Env.of,zaf,zb1,zaj,zan,zau,zax,zb9,zca,zdc,zb8,zbi,zcb,zdb,zdd,zbk,zbj,zay,zb7,zcc,zda,zbg,zbf,zaw,zbh,zb6,zfc,qS,qP,qC,zx8 (l:=l++[(i:Int)]) (by simp)]
   rw [hnx]; simp [-qU,Env.put,Env.of,zaf,zb1,zaj,zan,zau,zax,zb9,zca,zdc,zb8,zbi,zcb,zdb,zdd,zbk,zbj,zay,zb7,zcc,zda,zbg,zbf,zaw,zbh,zb6,zfc,qS,qP,qC,zyc (l:=l++[(i:Int)]) (by simp),zh2,Rect.cells]
  try simp only[RL]at h1
  exact absurd h1 (by simp [hd])
 try simp only[RL]at h
 obtain rfl:rs.length=i:=by omega
 refine W.exit ?_
 refine xe ?_
 refine xe ?_
 refine XBlock.hit ?_
 refine xn ?_
 refine W.r fun K hK=>?_
 simp(disch:=omega)only[↓RU,RV,RH,↓reduceIte,qE,reduceCtorEq,if_pos,↓RS,RG,qA,qM,qL]
 apply hK;clear hK K
 refine W.ret ?_
 refine Br rfl ?_
 exact z7r
theorem zfa {g:List (List Int)} {nh nw:Nat} (hg:GW g nh nw) (rs:List Rect) {t:Pt} (ht:t.In nh nw) {level:Bool} {line:Nat} (hl1:1≤line) (hl2:if level then line<nh else line<nw):PC Tryz.prog 158 [zik g rs t.rect,.bool level,.int .i64 line] (.bool (thG g t level line)) true:=by
 obtain ⟨t1,t2,t3,t4⟩:=ht
 have hgg:=hg
 obtain ⟨g1,g2,g3,g4⟩:=hg.2.2
 obtain ⟨fr,hfr⟩:∃ fr:Nat,(if level then t.c else t.r)=fr:=⟨_,rfl⟩
 obtain ⟨lg,hlg⟩:∃ lg:Nat,(if level then t.w else t.h)=lg:=⟨_,rfl⟩
 have hth:thG g t level line=(List.range lg).all fun j=>zij g level line (fr+j):=by subst hfr hlg; cases level <;> rfl
 have hin:∀ j,j<lg→InL nh nw level line (fr+j):=by subst hfr hlg; intro j hj; refine ⟨hl1,?_⟩; cases level <;> simp at hj hl2 ⊢ <;> omega
 have hb:fr≤6∧lg≤6:=by subst hfr hlg; cases level <;> simp <;> omega
 have hln:line≤6:=by cases level <;> simp at hl2 <;> omega
 simp only[Pt.rect,zik,Rect.cells]
 refine PC.of ⟨Tryz.func158,by kernel_rfl,rfl,by kernel_rfl⟩ zap mixed (by show 3≤Tryz.f158.ntmps; decide) ?_
 refine W.r fun K hK=>?_
 simp(disch:=omega)only[↓RU,RV,RH,↓reduceIte,qE,reduceCtorEq,if_pos,↓RS,RG,qA,qM,qL,ty7,zck,za7,zaa,zcl,za8]
 apply hK;clear hK K
 refine W.seq_draw (by kernel_rfl) fun K hK=>?_
 simp(disch:=omega)only[↓RU,RV,RH,↓reduceIte,qE,reduceCtorEq,if_pos,↓RS,RG,qA,qM,qL,ty7,zck,za7,zaa,zcl,za8]
 apply hK;clear hK K
 refine W.join [3,1,2,7,8] (fun vs S=>vs=[.ref 0 0 0,.bool level,.int .i64 line,.int .i64 fr,.int .i64 lg]∧S=⟨[.arr 0 104 5 [za3 g rs,.int .i64 t.r,.int .i64 t.c,.int .i64 t.h,.int .i64 t.w]],1⟩) ?_ ?_
 ·
  refine W.r fun K hK=>?_
  simp(disch:=omega)only[↓RU,RV,RH,↓reduceIte,qE,reduceCtorEq,if_pos,↓RS,RG,qA,qM,qL]
  apply hK;clear hK K
  refine W.cond rfl (fun h0=>?_) (fun h0=>?_)
  ·try simp only[RL]at h0
   refine W.draw_k (by kernel_rfl) fun K hK=>?_
   simp(disch:=omega)only[↓RU,RV,RH,↓reduceIte,qE,reduceCtorEq,if_pos,↓RS,RG,qA,qM,qL,ty7,zck,za7,zaa,zcl,za8]
   apply hK;clear hK K
   refine xn ?_
   refine ⟨1,?_,rfl⟩
   simp only[h0,if_true,qF,if_false]at hfr hlg
   subst hfr hlg h0
   simp [Env.put,Env.of,zaf]
  try simp only[RL]at h0
  refine W.skip ?_
  refine xn ?_
  refine ⟨1,?_,rfl⟩
  simp only[h0,if_true,qF,if_false]at hfr hlg
  subst hfr hlg h0
  simp [Env.put,Env.of,zaf]
 rintro vs S - ⟨rfl,rfl⟩
 refine W.seq ?_
 refine W.r fun K hK=>?_
 simp(disch:=omega)only[↓RU,RV,RH,↓reduceIte,qE,reduceCtorEq,if_pos,↓RS,RG,qA,qM,qL]
 apply hK;clear hK K
 refine W.block ?_
 refine W.loop [3,1,2,7,8,9] (fun n vs S=>∃ i:Nat,n=lg - i∧i≤lg∧(∀ j,j<i→zij g level line (fr+j)=true)∧vs=[.ref 0 0 0,.bool level,.int .i64 line,.int .i64 fr,.int .i64 lg,.int .i64 ((fr+i:Nat):Int)]∧S=⟨[.arr 0 104 5 [za3 g rs,.int .i64 t.r,.int .i64 t.c,.int .i64 t.h,.int .i64 t.w]],1⟩) (lg) ?_ ?_
 ·refine ⟨1,0,rfl,Nat.zero_le _,(fun j hj=>by omega),?_,rfl⟩
  simp [Env.put,Env.of,zaf]
 rintro n vs S - ⟨i,rfl,h_i,hall,rfl,rfl⟩
 refine W.seq ?_
 refine W.r fun K hK=>?_
 simp(disch:=omega)only[↓RU,RV,RH,↓reduceIte,qE,reduceCtorEq,if_pos,w64,↓RS,RG,qA,qM,qL,zaa]
 apply hK;clear hK K
 refine W.cond rfl (fun h1=>?_) (fun h1=>?_)
 ·try simp only[RL]at h1
  refine W.skip ?_
  refine xn ?_
  refine W.seq ?_
  refine W.block ?_
  refine W.r fun K hK=>?_
  have hin2:=hin i (by omega)
  simp(disch:=omega)only[↓RU,RV,RH,↓reduceIte,qE,reduceCtorEq,if_pos,qN,↓RS,RG,qA,qM,qL,ty7,zck,za7,zaa,zcl,za8]
  refine zad.pc (zvv hgg rs hin2) rfl (.inl rfl) ?_
  simp(disch:=omega)only[↓RU,RV,RH,↓reduceIte,qE,reduceCtorEq,if_pos,qN,↓RS,RG,qA,qM,qL,ty7,zck,za7,zaa,zcl,za8]
  apply hK;clear hK K
  refine W.cond rfl (fun h2=>?_) (fun h2=>?_)
  ·try simp only[RL]at h2
   refine W.r fun K hK=>?_
   simp(disch:=omega)only[↓RU,RV,RH,↓reduceIte,qE,reduceCtorEq,if_pos,↓RS,RG,qA,qM,qL]
   apply hK;clear hK K
   refine W.ret ?_
   refine XBlock.ret ?_
   refine XThen.ret ?_
   refine XThen.ret ?_
   refine XBlock.ret ?_
   refine XThen.ret ?_
   refine Br rfl ?_
   rw [hth,show ((List.range lg).all fun j=>zij g level line (fr+j))=false from by rw [List.all_eq_false]; exact ⟨i,List.mem_range.2 (by omega),by simpa using h2⟩]
   rfl
  try simp only[RL]at h2
  refine W.skip ?_
  refine XbN ?_
  refine xn ?_
  refine W.k fun K hK=>?_
  simp(disch:=omega)only[↓RU,RV,RH,↓reduceIte,qE,reduceCtorEq,if_pos,w64,↓RS,RG,qA,qM,qL,zaa]
  apply hK;clear hK K
  refine xn ?_
  refine ⟨lg - (i+1),by omega,1,i+1,rfl,by omega,(fun j hj=>by rcases Nat.lt_succ_iff_lt_or_eq.1 hj with h | rfl; exact hall j h; simpa using h2),?_,rfl⟩
  simp [Env.put,Env.of]; omega
 try simp only[RL]at h1
 refine W.exit ?_
 refine xe ?_
 refine xe ?_
 refine XBlock.hit ?_
 refine xn ?_
 refine W.r fun K hK=>?_
 simp(disch:=omega)only[↓RU,RV,RH,↓reduceIte,qE,reduceCtorEq,if_pos,↓RS,RG,qA,qM,qL]
 apply hK;clear hK K
 refine W.ret ?_
 refine Br rfl ?_
 rw [hth,show ((List.range lg).all fun j=>zij g level line (fr+j))=true from by rw [List.all_eq_true]; intro j hj; exact hall j (by have:=List.mem_range.1 hj; omega)]
 rfl
theorem ya2 {g:List (List Int)} {row:List Int} (h:g[0]?=some row) (rs:List Rect):PC Tryz.prog 71 [za3 g rs] (zik g rs ⟨0,0,g.length,row.length⟩) false:=by
 refine PC.of ⟨Tryz.func71,by kernel_rfl,rfl,by kernel_rfl⟩ zap mixed (by show 1≤Tryz.f71.ntmps; decide) ?_
 refine W.r fun K hK=>?_
 simp(disch:=omega)only[↓RU,RV,RH,↓reduceIte,qE,reduceCtorEq,if_pos,↓RS,RG,qA,qM,qL,ty7,zck,za7,zaa,zcl,za8]
 apply hK;clear hK K
 refine W.r fun K hK=>?_
 simp(disch:=omega)only[↓RU,RV,RH,↓reduceIte,qE,reduceCtorEq,if_pos,qN,↓RS,RG,qA,qM,qL,ty7,zck,za7,zaa,zcl,za8,zmz]
 refine zad.pc (zp2 g rs) rfl (.inl rfl) ?_
 simp(disch:=omega)only[↓RU,RV,RH,↓reduceIte,qE,reduceCtorEq,if_pos,qN,↓RS,RG,qA,qM,qL,ty7,zck,za7,zaa,zcl,za8,zmz]
 refine zad.pc (zvc h rs) rfl (.inl rfl) ?_
 simp(disch:=omega)only[↓RU,RV,RH,↓reduceIte,qE,reduceCtorEq,if_pos,qN,↓RS,RG,qA,qM,qL,ty7,zck,za7,zaa,zcl,za8,zmz]
 apply hK;clear hK K
 refine W.ret ?_
 refine Br rfl ?_
 rw [show (tab 104).size=5 by kernel_rfl]
 rfl
theorem ycm (g:List (List Int)) (rs:List Rect) (t:Rect):PC Tryz.prog 140 [zik g rs t] (.fn 157 [.ip (za3 g rs::t.cells) 0]) false:=by
 simp only[zik,Rect.cells]
 refine PC.of ⟨Tryz.func140,by kernel_rfl,rfl,by kernel_rfl⟩ zap mixed (by show 1≤Tryz.f140.ntmps; decide) ?_
 refine W.r fun K hK=>?_
 simp(disch:=omega)only[↓RU,RV,RH,↓reduceIte,qE,reduceCtorEq,if_pos,↓RS,RG,qA,qM,qL,ty7,zck,za7,zaa,zcl,za8]
 apply hK;clear hK K
 refine W.r fun K hK=>?_
 simp(disch:=omega)only[↓RU,RV,RH,↓reduceIte,qE,reduceCtorEq,if_pos,↓RS,RG,qA,qM,qL]
 apply hK;clear hK K
 refine W.ret ?_
 refine Br rfl ?_
 rfl
section
structure LoopR (ps:Array Tmp) (asg body:Code) (r:Loop):Prop where
 hps:r.params=ps
 hasg:r.assign=asg
 hbody:r.body=body
 dps:∀ t∈ps.toList,t<r.tmps.size
 dasg:zg4 r.tmps.size asg=true
 dbody:zg4 r.tmps.size body=true
def Env.puts:List (Nat × PV)→Env→Env
 | [],e=>e
 | (t,v)::r,e=>Env.puts r (e.put (some t) v)
section
variable {P:Program} {T:Tab} {Q Q':Exit→Env→Store→Prop} {e:Env} {S:Store} {a b c:Code} {F:Nat→Prop} {G:GSt} {w:World}
theorem zv6 {ds:List Deferred}:∀ (ps:List Nat) (xs:List PV) (cs:List Value) (e:Env) (t:Array Value),zfd w.heap F G e ⟨t,ds⟩→(∀ p∈ps,p<t.size)→xs.length=cs.length →
  (∀ (i:Nat) p c,xs[i]?=some p→cs[i]?=some c→VR w.heap F G p c) →
  zfd w.heap F G (Env.puts (ps.zip xs) e) ⟨(ps.zip cs).foldl (fun t (q:Nat × Value)=>t.setIfInBounds q.1 q.2) t,ds⟩
 | [],xs,cs,e,t,he,_,_,_=>by simpa [Env.puts] using he
 | p::ps,[],[],e,t,he,_,_,_=>by simpa [Env.puts] using he
 | p::ps,x::xs,c::cs,e,t,he,hp,hl,hv=>by
  simp only[List.zip_cons_cons,Env.puts,List.foldl_cons]
  refine zv6 ps xs cs _ _ ?_ ?_ (by simpa using hl) fun i p c q1 q2=>hv (i+1) p c (by simpa using q1) (by simpa using q2)
  ·have:=he.put (a:=⟨t,ds⟩) (some p) (v:=x) (cv:=c) (fun t' ht=>by cases ht; exact hp p (by simp)) (hv 0 x c rfl rfl)
   exact this
  intro q hq
  have:=hp q (by simp [hq])
  simpa using this
 | p::ps,[],c::cs,_,_,_,_,hl,_=>by simp at hl
 | p::ps,x::xs,[],_,_,_,_,hl,_=>by simp at hl
theorem z3c (l:List (Nat × Value)) (t:Array Value):(l.foldl (fun t (q:Nat × Value)=>t.setIfInBounds q.1 q.2) t).size=t.size:=by
 induction l generalizing t with
 | nil=>rfl
 | cons q l ih=>simp [ih]
theorem z7m (hi:Inv F G w) {o ver l:Nat} {r:Loop × List Nat} {tm:List PV} {lc:Lc} (ho:G.obs[o]?=some (.lp ver l r tm,lc)) (s:LoopState) (pe:Option Code) :
  ∃ t:Array Value,w.heap[l]?=some (.loop { r.1 with tmps:=t }) ∧
   Inv F ⟨G.obs.set o (.lp ver l ({ r.1 with state:=s,pending:=pe },r.2) tm,lc),G.tick⟩ (w.putObj l (.loop { r.1 with tmps:=t,state:=s,pending:=pe })) ∧
   Next F G w F ⟨G.obs.set o (.lp ver l ({ r.1 with state:=s,pending:=pe },r.2) tm,lc),G.tick⟩ (w.putObj l (.loop { r.1 with tmps:=t,state:=s,pending:=pe })):=by
 obtain ⟨h0,t,h1,h2,h3⟩:=hi.lp o ver l r tm lc ho
 have hlt:=(Array.getElem?_eq_some_iff.1 h1).1
 refine ⟨t,h1,zk1 hi ho _ lc G.tick _ rfl rfl rfl (qR _) (by simp) (.inl rfl) (fun b hb hne=>World.putObj_heap_other (by rw [← h0]; exact hne)) (qR _) (show Ob.ver (.lp ver l r tm)<G.tick from hi.ver o _ lc ho)
  (.inl ⟨rfl,trivial,rfl⟩) ⟨h0,t,World.putObj_heap_same hlt,h2,h3⟩⟩
def yej (o l:Nat) (J:PV→Store→Prop):Exit→Env→Store→Prop
 | .normal,_,S=>∃ ver r L tm k,S.obs[o]?=some (.lp ver l (r,L) tm)∧J (.bool true) (Store.take ⟨S.obs.set o (.lp ver l ({ r with state := .ready,pending:=none },L) tm),S.tick⟩ k)
 | .ret,_,S=>∃ ver r L tm k,S.obs[o]?=some (.lp ver l (r,L) tm)∧J (.bool false) (Store.take ⟨S.obs.set o (.lp ver l ({ r with state := .done,pending:=some .ret },L) tm),S.tick⟩ k)
 | .exit id,_,S=>∃ ver r L tm k,S.obs[o]?=some (.lp ver l (r,L) tm)∧J (.bool false) (Store.take ⟨S.obs.set o (.lp ver l ({ r with state := .done,pending:=some (.exit id) },L) tm),S.tick⟩ k)
 | _,_,_=>False
theorem VR.bool_of {H:Array Obj} {b:Bool}:VR H F G (.bool b) (.bool b) := .imm _ _ (.bool b)
theorem Ey.of (hT:zb2 P T) (hm:P.follows .mixedOrders=true) {l o ver:Nat} {r:Loop} {L:List Nat} {tm xs:List PV} {ps:Array Tmp} {asg body:Code} {J:PV→Store→Prop}
  (ho:S.obs[o]?=some (.lp ver l (r,L) tm)) (hr:LoopR ps asg body r) (hst:r.state = .ready) (hps:ps.size=xs.length)
  (hw:W P T asg (XThen (fun e1 S1=>∃ ver1 r1 L1 tm1,S1.obs[o]?=some (.lp ver1 l (r1,L1) tm1)∧r1.state = .ready ∧
   W P T body (yej o l J) e1 ⟨S1.obs.set o (.lp ver1 l ({ r1 with state := .busy,pending:=r1.pending },L1) tm1),S1.tick⟩) (fun _ _ _=>False)) (Env.puts (ps.toList.zip xs) (Env.of L tm)) S) :
  Ey P l xs S J:=by
 refine ⟨fun F G w cargs hS hi hl hv=>?_⟩
 subst hS
 obtain ⟨lc,hG⟩:=zgm ho
 obtain ⟨h0,t,h1,⟨h2,h2'⟩,h3⟩:=hi.lp o ver l (r,L) tm lc hG
 simp only at h1 h2 h2' h3
 refine ⟨_,_,_,_,run_yield h1 (by simp only; rw [hr.hps]; omega),fun R nn=>?_⟩
 refine roundIn_of_wpIn trivial ?_
 simp only
 have hE:zfd w.heap F G (Env.puts (ps.toList.zip xs) (Env.of L tm)) ⟨(ps.toList.zip cargs.toList).foldl (fun t (q:Nat × Value)=>t.setIfInBounds q.1 q.2) t,[]⟩ :=
  zv6 _ _ _ _ _ (zud L tm h2'.symm fun i j v q1 q2=>h3 i v j q2 q1) (fun p hp=>Nat.lt_of_lt_of_eq (hr.dps p hp) h2.symm) (by simpa using hl) (fun i p c q1 q2=>hv i p c q1 (by simpa using q2))
 have hsz:((ps.toList.zip cargs.toList).foldl (fun t (q:Nat × Value)=>t.setIfInBounds q.1 q.2) t).size=r.tmps.size:=by rw [z3c]; exact h2
 have hfold:(r.params.zip cargs).foldl (fun tmps (x:Nat × Value)=>tmps.setIfInBounds x.1 x.2) t=(ps.toList.zip cargs.toList).foldl (fun t (q:Nat × Value)=>t.setIfInBounds q.1 q.2) t:=by
  rw [hr.hps,← Array.foldl_toList,Array.toList_zip]
 show (r.assign).wpIn (fnc (some l)) _ P _ { tmps:=(r.params.zip cargs).foldl (fun tmps (x:Nat × Value)=>tmps.setIfInBounds x.1 x.2) t,defers:=[] } w
 rw [hfold,hr.hasg,hr.hbody]
 refine wpIn_mono (hw.run hT hm F G w r.tmps.size F G _ w rfl hi hE (Next.refl w) hsz Marks.nil hr.dasg) ?_
 rintro x a1 w1 ⟨e1,F1,G1,k1,k2,k3,k4,k5,k6⟩
 cases x with
 | normal =>
  obtain ⟨ver1,r1,L1,tm1,g1,g2,g3⟩:=k1
  obtain ⟨lc1,hG1⟩:=zgm g1
  obtain ⟨t1,q1,q2,q3⟩:=z7m k2 hG1 .busy r1.pending
  refine ⟨_,run_beginRound q1 g2,?_⟩
  refine wpIn_mono (g3.run hT hm F G w r.tmps.size F1 _ a1 _ (zny G1 o _ lc1 G1.tick) q2 (k3.next k2 q3) (k4.trans q3) k5 (k6.next k2 q3) hr.dbody) ?_
  have fin:∀ {F2:Nat→Prop} {G2:GSt} {w2:World} {v:Bool} {s:LoopState} {pe:Option Code} {ver2:Nat} {r2:Loop} {L2:List Nat} {tm2:List PV} {k:Nat},Inv F2 G2 w2→Next F G w F2 G2 w2 →
    s=(if pe.isNone then .ready else .done)→v=pe.isNone→G2.er.obs[o]?=some (.lp ver2 l (r2,L2) tm2) →
    J (.bool v) (Store.take ⟨G2.er.obs.set o (.lp ver2 l ({ r2 with state:=s,pending:=pe },L2) tm2),G2.er.tick⟩ k) →
    ∃ cv w3,(Instr.endRound l pe).run P w2 = .ok cv w3∧∃ v cv' F' G',Ending.returned cv = .returned cv'∧J v G'.er∧Inv F' G' w3∧Next F G w F' G' w3∧VR w3.heap F' G' v cv':=by
   intro F2 G2 w2 v s pe ver2 r2 L2 tm2 k i2 n2 hs hv2 hg hJ
   obtain ⟨lc2,hG2⟩:=zgm hg
   obtain ⟨t2,p1,p2,p3⟩:=z7m i2 hG2 s pe
   obtain ⟨i3,n3⟩:=zgc p2 k
   have hrun:=run_endRound (P:=P) pe p1
   rw [← hs]at hrun
   refine ⟨_,_,hrun,.bool v,_,F2,GSt.take ⟨G2.obs.set o (.lp ver2 l ({ r2 with state:=s,pending:=pe },L2) tm2,lc2),G2.tick⟩ k,rfl,?_,i3,(n2.trans p3).trans n3,by rw [← hv2]; exact VR.bool_of⟩
   rw [zk9,zny]; exact hJ
  rintro x a2 w2 ⟨e2,F2,G2,j1,j2,j3,j4,j5,j6⟩
  cases x with
  | normal=>obtain ⟨ver2,r2,L2,tm2,k,f1,f2⟩:=j1; exact fin j2 j4 rfl rfl f1 f2
  | ret=>obtain ⟨ver2,r2,L2,tm2,k,f1,f2⟩:=j1; exact fin j2 j4 rfl rfl f1 f2
  | exit id=>obtain ⟨ver2,r2,L2,tm2,k,f1,f2⟩:=j1; exact fin j2 j4 rfl rfl f1 f2
  | _=>exact j1.elim
 | _=>exact k1.elim
structure V (P:Program) (T:Tab) (c:Code) (Q:Exit→Env→Store→Prop) (e:Env) (S:Store):Prop where
 run:zb2 P T→P.follows .mixedOrders=true→∀ (F0:Nat→Prop) (G0:GSt) (w0:World) (N:Nat) (F:Nat→Prop) (G:GSt) (a:Act) (w:World),G.er=S→Inv F G w→zfd w.heap F G e a →
  Next F0 G0 w0 F G w→a.tmps.size=N→Marks w0 a.defers w→zg4 N c=true→c.wpIn (fnc none) 0 P (Sto F0 G0 w0 N Q) a w
theorem W.v (h:W P T c Q e S):V P T c Q e S:=⟨fun h1 h2 F0 G0 w0 N F G a w h3 h4 h5 h6 h7 h8 h9=>h.run h1 h2 F0 G0 w0 N F G a w h3 h4 h5 h6 h7 h8 h9⟩
theorem V.mono (h:V P T c Q e S) (k:∀ x e S,Q x e S→Q' x e S):V P T c Q' e S :=
 ⟨fun h1 h2 F0 G0 w0 N F G a w h3 h4 h5 h6 h7 h8 h9=>wpIn_mono (h.run h1 h2 F0 G0 w0 N F G a w h3 h4 h5 h6 h7 h8 h9) fun _ _ _=>Sto.mono k⟩
theorem V.seq (h:V P T a (XThen (V P T b Q) Q) e S):V P T (.seq a b) Q e S:=by
 refine ⟨?_⟩
 intro hT hm F0 G0 w0 N F G a w h3 h4 h5 h6 h7 h8 h9
 simp only[zg4,qB]at h9
 refine wpIn_seq (wpIn_mono (h.run hT hm F0 G0 w0 N F G a w h3 h4 h5 h6 h7 h8 h9.1) ?_)
 rintro x a' w' ⟨e',F',G',k1,k2,k3,k4,k5,k6⟩
 cases x with
 | normal=>exact k1.run hT hm F0 G0 w0 N F' G' a' w' rfl k2 k3 k4 k5 k6 h9.2
 | _=>exact ⟨e',F',G',k1,k2,k3,k4,k5,k6⟩
theorem V.seq_region {id:Nat} {l:List Oper} (h:∀ K:Env→Store→Prop,(∀ e S,V P T b Q e S→K e S)→zbp false P T (dsts l) l e S K):V P T (.seq (.region id l.toArray false) b) Q e S :=
 V.seq (W.v (W.k fun K hK=>h K hK))
theorem V.seq_draw {id:Nat} {l:List Oper} (hc:zhy l.toArray (List.range' 0 l.length) (zki l 0) []=true) (h:∀ K:Env→Store→Prop,(∀ e S,V P T b Q e S→K e S)→zbp true P T (dsts l) l e S K) :
  V P T (.seq (.region id l.toArray true) b) Q e S :=
 V.seq (W.v (W.draw_k hc fun K hK=>h K hK))
theorem V.seq_drawE {id:Nat} {l:List Oper} (hc:zhy l.toArray (List.range' 0 l.length) (zcm l 0) []=true) (h:∀ K:Env→Store→Prop,(∀ e S,V P T b Q e S→K e S)→zbp false P T (dsts l) l e S K) :
  V P T (.seq (.region id l.toArray true) b) Q e S :=
 V.seq (W.v (W.drawE_k hc fun K hK=>h K hK))
theorem V.cond {x:Operand} {t:Bool} (hc:e.ev x = .bool t) (h1:t=true→V P T a Q e S) (h2:t=false→V P T b Q e S):V P T (.cond x a b) Q e S:=by
 refine ⟨?_⟩
 intro hT hm F0 G0 w0 N F G a w h3 h4 h5 h6 h7 h8 h9
 simp only[zg4,qB]at h9
 have:=h5.ev x
 rw [hc]at this
 exact wpIn_cond_split this.bool (fun ht=>(h1 ht).run hT hm F0 G0 w0 N F G a w h3 h4 h5 h6 h7 h8 h9.1) (fun ht=>(h2 ht).run hT hm F0 G0 w0 N F G a w h3 h4 h5 h6 h7 h8 h9.2)
theorem V.block {id:Nat} (h:V P T c (XBlock id Q) e S):V P T (.block id c) Q e S:=by
 refine ⟨?_⟩
 intro hT hm F0 G0 w0 N F G a w h3 h4 h5 h6 h7 h8 h9
 refine wpIn_block (wpIn_mono (h.run hT hm F0 G0 w0 N F G a w h3 h4 h5 h6 h7 h8 h9) ?_)
 rintro x a' w' ⟨e',F',G',k1,k2⟩
 cases x with
 | exit i =>
  simp only[Exit.inBlock]
  simp only[XBlock]at k1
  split
  ·rename_i hi; rw [if_pos hi]at k1; exact ⟨e',F',G',k1,k2⟩
  rename_i hi; rw [if_neg hi]at k1; exact ⟨e',F',G',k1,k2⟩
 | _=>exact ⟨e',F',G',k1,k2⟩
def yc3:Option Code→Option Exit
 | none=>some .normal
 | some .ret=>some .ret
 | some (.exit id)=>some (.exit id)
 | _=>none
theorem zyq (hi:Inv F G w) (ob:Obj):Inv F G (w.alloc ob)∧Next F G w F G (w.alloc ob):=by
 have hkeep:∀ b,b<w.heap.size→(w.alloc ob).heap[b]?=w.heap[b]?:=fun b hb=>Go.RowKit.Below.heap_alloc w ob b hb
 have hn:Next F G w F G (w.alloc ob) :=
  ⟨rfl,rfl,rfl,by simp,fun _ h=>h,fun _ h => .inl h,fun o x h => .inr ⟨o,x,h,rfl⟩,qR _,fun b hb _=>hkeep b hb,fun _ ob' _ h _=>⟨ob',h,rfl,Ob.like.refl _⟩,qR _⟩
 exact ⟨zkk (fun b hb=>Nat.lt_of_lt_of_le (hi.fr b hb) hn.size) hi.ver hi.nF (fun o ob' l h=>(hi.holds h).next hi hn (hkeep _ (hi.blk_lt h))) hi.inj,hn⟩
theorem VR.fn_at {f:FuncId} {cap:List PV} {v:Value} (h:VR w.heap F G (.fn f cap) v):∃ vs:Array Value,v = .func (.func f) #[] vs∧cap.length=vs.size∧∀ (i:Nat) p c,cap[i]?=some p→vs[i]?=some c→VR w.heap F G p c:=by
 cases h with
 | imm _ _ h=>cases h with | fn _ _ vs h1 h2=>exact ⟨vs,rfl,h1,fun i p c q1 q2 => .imm _ _ (h2 i p c q1 q2)⟩
 | fn _ _ vs h1 h2=>exact ⟨vs,rfl,h1,h2⟩
theorem V.rangeFunc {g:Operand} {ps:Array Tmp} {asg body:Code} (L:List Nat) {f:FuncId} {cap:List PV} (hg:e.ev g = .fn f cap)
  (h:∀ (l:Nat) (r:Loop),LoopR ps asg body r→r.state = .ready→r.pending=none→∃ J,Ev P f (.yl l::cap) ⟨S.obs++[.lp S.tick l (r,L) (L.map e)],S.tick+1⟩ J ∧
   ∀ v S',J v S'→∃ ver r' L' tm x,S'.obs[S.obs.length]?=some (.lp ver l (r',L') tm)∧r'.state ≠ .busy∧yc3 r'.pending=some x∧Q x e (S'.take S.obs.length)) :
  V P T (.rangeFunc g ps asg body) Q e S:=by
 refine ⟨?_⟩
 intro hT hm F0 G0 w0 N F G a w h3 h4 h5 h6 h7 h8 h9
 subst h3
 simp only[zg4,qB,List.all_eq_true,decide_eq_true_eq]at h9
 obtain ⟨⟨d1,d2⟩,d3⟩:=h9
 refine wpIn_rangeFunc ?_
 intro fn _
 obtain ⟨rec,hrec⟩:∃ rec:Loop,rec={ state := .ready,pending:=none,fn,tmps:=a.tmps,params:=ps,assign:=asg,body,defers:=w.heap.size }:=⟨_,rfl⟩
 obtain ⟨i1,n1⟩:=zyq h4 (.deferred (some []))
 obtain ⟨W0,hW0⟩:∃ W0,w.alloc (.deferred (some []))=W0:=⟨_,rfl⟩
 have hsz:W0.heap.size=w.heap.size+1:=by rw [← hW0]; simp
 rw [hW0]at i1 n1
 have hdef:W0.heap[w.heap.size]?=some (.deferred (some [])):=by rw [← hW0]; exact World.alloc_heap_new w _
 obtain ⟨W1,hW1⟩:∃ W1,W0.alloc (.loop rec)=W1:=⟨_,rfl⟩
 have hL1:W1.heap[W0.heap.size]?=some (.loop rec):=by rw [← hW1]; exact World.alloc_heap_new W0 _
 have hhold:Holds W0.heap F G W1.heap (.lp G.tick W0.heap.size (rec,L) (L.map e)) ⟨W0.heap.size,0⟩:=by
  refine ⟨rfl,a.tmps,by rw [hL1,hrec],⟨by rw [hrec],by simp⟩,fun i p j q1 q2=>?_⟩
  simp only at q2
  rw [List.getElem?_map,q2]at q1
  cases q1
  exact (h5 j).next h4 n1
 obtain ⟨i2,n2⟩:=zo4 i1 (.lp G.tick W0.heap.size (rec,L) (L.map e)) 0 W1 W1.drawn (by rw [← hW1]; rfl) (by rw [← hW1]; exact qR _) ⟨_,by rw [← hW1]; rfl⟩ rfl hhold
 have n12:=n1.trans n2
 have hgv:=h5.ev g
 rw [hg]at hgv
 obtain ⟨vs,hge,hvl,hvr⟩:=hgv.fn_at
 obtain ⟨J,hev,hJ⟩:=h W0.heap.size rec (by rw [hrec]; exact ⟨rfl,rfl,rfl,fun t ht=>by rw [h7]; exact d1 t ht,by rw [h7]; exact d2,by rw [h7]; exact d3⟩) (by rw [hrec]) (by rw [hrec])
 refine ⟨w.heap.size+1,[{ target := .collected w.heap.size,args := #[] }],W1,{ target := .fn (.func f) vs,args := #[.func (.yield (w.heap.size+1)) #[] #[]] },W1,f,
  #[.func (.yield (w.heap.size+1)) #[] #[]]++vs,W1,?_,?_,fun _ _=>trivial,?_,fun q=>(by simp [Fence.wide]at q),?_⟩
 ·rw [← hW1,← hW0,hrec]; exact run_enterLoop_outer _ _ _ _ _
 ·simp only[resolve,hge]
  simp [go_sem]
 ·simp only[invoke]; exact hev.ent _ _
 ·refine callsIn_wide.2 ((hev.run F _ W1 _ (ztz G _ _) i2 (by simp; omega) ?_).mono ?_)
  ·intro i p c q1 q2
   cases i with
   | zero=>rw [Array.getElem?_append_left (by simp)]at q2; simp at q1 q2; subst q1; subst q2; rw [hsz]; exact .imm _ _ (.yl _)
   | succ i =>
    simp only[List.getElem?_cons_succ]at q1
    rw [Array.getElem?_append_right (by simp)]at q2
    simp at q2
    exact (hvr i p c q1 q2).next h4 n12
  ·rintro en w2 ⟨v,cv,F2,G2,rfl,j1,j2,j3,j4⟩
   obtain ⟨ver,r',L',tm,x,g1,g2,g3,g4⟩:=hJ v _ j1
   obtain ⟨lc,hG2⟩:=zgm g1
   rw [show (GSt.er G).obs.length=G.obs.length by simp [GSt.er]]at hG2 g4
   obtain ⟨t,p1,p2,p3⟩:=z7m j2 hG2 .exhausted r'.pending
   obtain ⟨i3,n3⟩:=zgc p2 G.obs.length
   rw [hsz]at p1
   refine ⟨_,_,run_endLoop p1 g2,?_⟩
   have hnx:=((h6.trans n12).trans (j3.trans p3)).trans n3
   have hmk:Marks w0 ([{ target := .collected w.heap.size,args := #[] }]++a.defers) (w2.putObj W0.heap.size (.loop { r' with tmps:=t,state := .exhausted,pending:=r'.pending })):=by
    have m1:=h8.next h4 n12
    have hd1:W1.heap[w.heap.size]?=some (.deferred (some [])):=(by rw [← hW1]; exact (Go.RowKit.Below.heap_alloc W0 _ _ (by omega)).trans hdef)
    have m2:Marks w0 ([{ target := .collected w.heap.size,args := #[] }]++a.defers) W1:=by
     obtain ⟨bs,b1,b2,b3⟩:=h8
     obtain ⟨bs',c1,c2,c3⟩:=m1
     have hb:bs'=bs:=by
      rw [b1]at c1
      have:=congrArg (List.map fun d:Deferred=>(match d.target with | .collected b=>b | _=>0)) c1
      simpa [List.map_map,Function.comp_def] using this.symm
     subst hb
     refine ⟨w.heap.size::bs',by rw [b1]; simp,?_,?_⟩
     ·refine List.nodup_cons.2 ⟨fun hm=>?_,b2⟩
      have:=(Array.getElem?_eq_some_iff.1 (b3 _ hm).2).1
      omega
     intro b hb
     rcases List.mem_cons.1 hb with rfl | hb
     ·exact ⟨h6.size,hd1⟩
     exact c3 b hb
    exact (m2.next i2 j3).next j2 p3
   have henv:zfd (w2.putObj W0.heap.size (.loop { r' with tmps:=t,state := .exhausted,pending:=r'.pending })).heap F2 (GSt.take ⟨G2.obs.set G.obs.length (.lp ver W0.heap.size ({ r' with state := .exhausted,pending:=r'.pending },L') tm,lc),G2.tick⟩ G.obs.length) e { a with defers:=[{ target := .collected w.heap.size,args := #[] }]++a.defers } :=
    fun k=>((((h5 k).next h4 n12).next i2 j3).next j2 p3).next p2 n3
   have hst:Sto F0 G0 w0 N Q x { a with defers:=[{ target := .collected w.heap.size,args := #[] }]++a.defers } (w2.putObj W0.heap.size (.loop { r' with tmps:=t,state := .exhausted,pending:=r'.pending })):=by
    refine ⟨e,F2,_,?_,i3,henv,hnx,h7,hmk⟩
    have:(GSt.take ⟨G2.obs.set G.obs.length (.lp ver W0.heap.size ({ r' with state := .exhausted,pending:=r'.pending },L') tm,lc),G2.tick⟩ G.obs.length).er=G2.er.take G.obs.length:=by
     simp [GSt.take,GSt.er,Store.take,List.take_set_of_le]
    rw [this]; exact g4
   rw [hsz]at hst
   cases hpe:r'.pending with
   | none=>rw [hpe]at g3 hst ; simp only[yc3]at g3; cases g3; exact hst
   | some c =>
    rw [hpe]at g3 hst
    cases c <;> simp only[yc3]at g3 <;> cases g3
    ·exact wpIn_exit hst
    exact wpIn_ret hst
theorem Fn.callsV {f:FuncId} {fn:Func} (h:Fn P f fn c) (hT:zb2 P T) (hm:P.follows .mixedOrders=true) {args:List PV} {K:PV→Store→Prop} (hn:args.length≤fn.ntmps)
  (hw:V P T c (zfe T fn.results.toList K) (zaf args) S) {F:Nat→Prop} {G:GSt} {w:World} {cargs:Array Value} (hS:G.er=S) (hi:Inv F G w) (hl:args.length=cargs.size)
  (hv:∀ (i:Nat) p c,args[i]?=some p→cargs[i]?=some c→VR w.heap F G p c) :
  Calls P f cargs w fun e w'=>∃ v cv F' G',e = .returned cv∧K v G'.er∧Inv F' G' w'∧Next F G w F' G' w'∧VR w'.heap F' G' v cv :=
 h.calls_of hT hn hi hl (hw.run hT hm F G w fn.ntmps F G _ w hS hi (z42 hl hv _ _) (Next.refl w) (by simp; omega) Marks.nil h.dst)
theorem Ev.ofV {f:FuncId} {fn:Func} (h:Fn P f fn c) (hT:zb2 P T) (hm:P.follows .mixedOrders=true) {args:List PV} {J:PV→Store→Prop} (hn:args.length≤fn.ntmps)
  (hw:V P T c (zfe T fn.results.toList fun v S1=>∃ k,J v (S1.take k)) (zaf args) S):Ev P f args S J:=by
 refine ⟨h.ent,fun F G w cargs hS hi hl hv=>(h.callsV hT hm hn hw hS hi hl hv).mono ?_⟩
 rintro en w' ⟨v',cv,F',G',k1,⟨k,k2⟩,k3,k4,k5⟩
 obtain ⟨i1,i2⟩:=zgc k3 k
 exact ⟨v',cv,F',G'.take k,k1,(zk9 G' k).symm ▸ k2,i1,k4.trans i2,k5.next k3 i2⟩
theorem PC.ofV {f:FuncId} {fn:Func} (h:Fn P f fn c) (hT:zb2 P T) (hm:P.follows .mixedOrders=true) {args:List PV} {r:PV} {fr:Bool} (hn:args.length≤fn.ntmps)
  (hw:V P T c (zfe T fn.results.toList fun v S=>reify S (!fr) 10 v=some r) (zaf args) ⟨[],0⟩):PC P f args r fr:=by
 refine ⟨h.ent,fun F w cargs hF hl hv=>?_⟩
 have hi:Inv F ⟨[],0⟩ w:=⟨hF,by simp,by simp,by simp,by simp,by simp,by simp⟩
 refine (h.callsV hT hm hn hw rfl hi hl fun i p c q1 q2 => .imm _ _ (hv i p c q1 q2)).mono ?_
 rintro en w' ⟨v',cv,F',G',rfl,k2,k3,k4,k5⟩
 refine ⟨cv,rfl,⟨⟨k4.os,k4.tape,k4.output,k4.size,fun b hb=>k4.keep b hb (by simp)⟩,k4.drawn⟩,(zek k3 k5 k2).mono ?_ (fun _ _=>rfl)⟩
 rintro b (⟨h1,h2⟩ | ⟨o,x,hx,rfl⟩)
 ·rcases k4.fnew b h2 with h3 | h3 | ⟨o,x,hx,_⟩
  ·exact .inr ⟨by simpa using h1,h3⟩
  ·exact .inl ⟨h3,k3.fr b h2⟩
  simp at hx
 rcases k4.gnew o x hx with h3 | ⟨o',y,hy,_⟩
 ·exact .inl ⟨h3,k3.blk_lt hx⟩
 simp at hy
end
end
section
section
variable {P:Program} {T:Tab} {F0:Nat→Prop} {G0:GSt} {w0:World} {N:Nat}
theorem z67 {e:Env} {S:Store} {o:Op} (hc:∀ c,o ≠ .call c) {K1 K2:PV→Store→Prop} (h1:pOp P T e S o K1) (h2:pOp P T e S o K2):pOp P T e S o fun v S'=>K1 v S'∧K2 v S':=by
 cases o with
 | call c=>exact absurd rfl (hc c)
 | alloc t=>exact ⟨h1.1,h1.2,h2.2⟩
 | box t x=>exact ⟨h1.1,h1.2.1,h1.2.2.1,h1.2.2.2,h2.2.2.2⟩
 | buildSlice t n ps =>
  simp only[pOp]at h1 h2 ⊢
  split at h1
  ·rename_i et hk
   rw [hk]at h2
   simp only at h2 ⊢
   refine ⟨h1.1,h1.2.1,?_⟩
   have h1:=h1.2.2
   have h2:=h2.2.2
   split at h1
   ·rename_i cells hf
    rw [hf]at h2
    simp only at h2 ⊢
    exact ⟨h1.1,h1.2,h2.2⟩
   exact h1.elim
  exact h1.elim
 | makeSlice t l c =>
  simp only[pOp]at h1 h2 ⊢
  split at h1
  ·rename_i et q l' q' c' hk e1 e2
   rw [hk,e1,e2]at h2
   simp only at h2 ⊢
   exact ⟨h1.1,h1.2.1,h1.2.2.1,h1.2.2.2.1,h1.2.2.2.2,h2.2.2.2.2⟩
  exact h1.elim
 | makeMap t r=>exact ⟨h1.1,h1.2,h2.2⟩
 | store t a x =>
  simp only[pOp]at h1 h2 ⊢
  split at h1
  ·rename_i o ver off ha
   rw [ha]at h2
   simp only at h2 ⊢
   split at h1
   ·rename_i v et sz cells ho
    rw [ho]at h2
    simp only at h2 ⊢
    exact ⟨h1.1,h1.2.1,h1.2.2.1,h1.2.2.2.1,h1.2.2.2.2.1,h1.2.2.2.2.2,h2.2.2.2.2.2⟩
   exact h1.elim
  exact h1.elim
 | mapUpdate t m k x =>
  simp only[pOp]at h1 h2 ⊢
  split at h1
  ·rename_i kt vt o ver hk hm
   rw [hk,hm]at h2
   simp only at h2 ⊢
   split at h1
   ·rename_i v es ho
    rw [ho]at h2
    simp only at h2 ⊢
    refine ⟨h1.1,h1.2.1,?_⟩
    have h1:=h1.2.2
    have h2:=h2.2.2
    split at h1
    ·rename_i hf; rw [hf]at h2; exact ⟨h1,h2⟩
    ·rename_i hf; rw [hf]at h2; exact ⟨h1,h2⟩
    exact h1.elim
   exact h1.elim
  exact h1.elim
 | _ =>
  simp only[pOp]at h1 h2 ⊢
  rw [zlz]at h1 h2 ⊢
  obtain ⟨v,e1,k1⟩:=h1
  obtain ⟨v',e2,k2⟩:=h2
  rw [e1]at e2
  cases e2
  exact ⟨v,e1,k1,k2⟩
theorem z3w {ops:Array Oper} {o:Oper} {e:Env} {y1 n1 y2 n2:Prop} (h1:zdj ops o e y1 n1) (h2:zdj ops o e y2 n2):zdj ops o e (y1∧y2) (n1∧n2):=by
 unfold zdj at *
 split at h1
 ·rename_i h; rw [h]at h2; exact ⟨h1,h2⟩
 ·rename_i h; rw [h]at h2; exact ⟨h1,h2⟩
 exact h1.elim
theorem z8n {R:Option Nat} {nn:Nat} (hT:zb2 P T) {ops:Array Oper} {effs pend keep:List Nat} {Q:Env→Store→Prop} {i:Nat} {r1 r2:List Nat} {e:Env} {F:Nat→Prop} {G:GSt} {a:Act} {w:World}
  (hnc:∀ o:Oper,ops[i]?=some o→∀ c,o.op ≠ .call c)
  (h1:zdf P T ops effs pend keep Q (i::r1) e G.er) (h2:zdf P T ops effs pend keep Q (i::r2) e G.er) (hi:Inv F G w) (he:zfd w.heap F G e a) (hn:Next F0 G0 w0 F G w) (hs:a.tmps.size=N) (hd:Marks w0 a.defers w)
  (hdst:∀ o∈ops.toList,∀ d,o.dst=some d→d<N) {Qx:Exit→Act→World→Prop} {K:Act→World→Prop}
  (hK:∀ e' F' G' a' w',zdf P T ops effs pend keep Q r1 e' G'.er→zdf P T ops effs pend keep Q r2 e' G'.er→Inv F' G' w'→zfd w'.heap F' G' e' a'→Next F0 G0 w0 F' G' w'→a'.tmps.size=N→Marks w0 a'.defers w'→K a' w') :
  wpOpIn (fnc R) nn P ops Qx i K a w:=by
 simp only[zdf]at h1 h2
 unfold wpOpIn
 cases ho:ops[i]? with
 | none=>rw [ho]at h1; exact h1.elim
 | some o =>
  rw [ho]at h1 h2
  have hnc:=hnc o ho
  have hd1:∀ t,o.dst=some t→t<a.tmps.size:=fun t ht=>by
   rw [hs]; exact hdst o (List.mem_of_getElem? (i:=i) (by simpa using ho)) t ht
  simp only at h1 h2 ⊢
  rcases zim he (z3w h1 h2) with ⟨hw,h1,h2⟩ | ⟨hw,h1,h2⟩
  ·rw [if_pos hw]
   split at h1
   ·rename_i hc
    rw [if_pos hc]at h2
    refine zin hT hi he (z67 hnc h1 h2) ?_
    intro v cv F' G' w' hk i1 i2 i3
    exact hK _ _ _ _ _ hk.1.2 hk.2.2 i1 ((he.next hi i2).put _ hd1 i3) (hn.trans i2) (by rw [ze2]; exact hs) (by rw [zc7]; exact hd.next hi i2)
   ·rename_i hc
    rw [if_neg hc]at h2
    rw [zc5]at h1 h2
    obtain ⟨v,f1,_,f3⟩:=h1
    obtain ⟨v',g1,_,g3⟩:=h2
    have hv:v=v':=by
     have hop:=z67 hnc (zqn f1) (zqn g1)
     have key:∀ {op:Op},(∀ c,op ≠ .call c)→pFl P T G.er e op v→pFl P T G.er e op v'→v=v':=by
      intro op hc a1 a2
      cases op with
      | call c=>exact absurd rfl (hc c)
      | _=>exact Option.some.inj (a1.symm.trans a2)
     exact key hnc f1 g1
    subst hv
    refine zin hT hi he (zqn f1) ?_
    rintro v' cv F' G' w' ⟨rfl,hS⟩ i1 i2 i3
    exact hK _ _ _ _ _ (by rw [hS]; exact f3) (by rw [hS]; exact g3) i1 ((he.next hi i2).put _ hd1 i3) (hn.trans i2) (by rw [ze2]; exact hs) (by rw [zc7]; exact hd.next hi i2)
  rw [if_neg (by simp [hw])]
  exact ⟨fun _ _=>trivial,hK _ _ _ _ _ h1 h2 hi (zmq hi he _ hd1) hn (by rw [ze2]; exact hs) (by rw [zc7]; exact hd)⟩
theorem z5n {R:Option Nat} {nn:Nat} (hT:zb2 P T) {ops:Array Oper} {effs pend keep:List Nat} {Q:Env→Store→Prop} (hdst:∀ o∈ops.toList,∀ d,o.dst=some d→d<N)
  (hdep:∀ (i:Nat) o,ops[i]?=some o→∀ e∈o.after.toList,Region.binds .any e=true→e.on<ops.size) {x0 y0:Nat} (hxy:x0≠y0) (hno1:((prs ops).getD x0 0).testBit y0=false) (hno2:((prs ops).getD y0 0).testBit x0=false)
  (hnc:∀ (i:Nat) (o:Oper),ops[i]?=some o→∀ c,o.op ≠ .call c) :
  ∀ (fuel:Nat) (listed:Array Bool) (l l':List Nat) {e:Env} {F:Nat→Prop} {G:GSt} {a:Act} {w:World},l.length=fuel→l'.length=fuel→x0∈l→y0∈l →
   l.Pairwise (fun x i=>zgn ops (prs ops) effs pend x i=true∨(x=x0∧i=y0))→l'.Pairwise (fun x i=>zgn ops (prs ops) effs pend x i=true∨(x=y0∧i=x0))→l.Nodup→l'.Nodup→(∀ x∈l,((prs ops).getD x 0).testBit x=false) →
   listed.size=ops.size→(∀ i,i∈l↔i<ops.size∧listed.getD i true=false)→(∀ i,i∈l'↔i<ops.size∧listed.getD i true=false) →
   (∀ i x,listed.getD i false=true→((prs ops).getD i 0).testBit x=true→x<ops.size→listed.getD x true=true) →
   zdf P T ops effs pend keep Q l e G.er→zdf P T ops effs pend keep Q l' e G.er→Inv F G w→zfd w.heap F G e a→Next F0 G0 w0 F G w→a.tmps.size=N→Marks w0 a.defers w →
   wpAnyIn (fnc R) nn P .any ops (Sto F0 G0 w0 N (Nrm Q)) fuel listed a w:=by
 intro fuel
 induction fuel with
 | zero =>
  intro listed l l' e F G a w hl hl' hx0 hy0 hp hp' hnd hnd' hself hsz hmem hmem' hcl h h' hi he hn hs hd
  have hl0:l=[]:=List.eq_nil_of_length_eq_zero hl
  subst hl0
  simp at hx0
 | succ fuel ih =>
  intro listed l l' e F G a w hl hl' hx0 hy0 hp hp' hnd hnd' hself hsz hmem hmem' hcl h h' hi he hn hs hd
  have hmm:∀ i,i∈l↔i∈l':=fun i=>(hmem i).trans (hmem' i).symm
  have bound:∀ i x,((prs ops).getD i 0).testBit x=true→x<ops.size:=by
   have key:∀ n i x,i<n→((prs ops).getD i 0).testBit x=true→x<ops.size:=by
    intro n
    induction n with
    | zero=>intro i x h; omega
    | succ n ihn =>
     intro i x hin hx
     obtain ⟨o,ho,ed,h1,h2,h3⟩:=ziq hx
     rcases h3 with rfl | ⟨h3,h4⟩
     ·exact hdep i o ho ed h1 h2
     exact ihn ed.on x (by omega) h4
   exact fun i x=>key (i+1) i x (Nat.lt_succ_self _)
  have facts:∀ i,i∈Region.ready .any ops listed→i∈l∧∃ q,ops[i]?=some q∧∀ e∈q.after.toList,Region.binds .any e=true→listed.getD e.on false=true:=by
   intro i hr
   unfold Region.ready at hr
   rw [List.mem_filter]at hr
   obtain ⟨h1,h2⟩:=hr
   have hlt:i<ops.size:=by simpa using h1
   rw [Array.getElem?_eq_getElem hlt]at h2
   simp only[qO,Option.getD_some,qB,Bool.not_eq_true']at h2
   refine ⟨(hmem i).2 ⟨hlt,h2.1⟩,ops[i],Array.getElem?_eq_getElem hlt,fun e he hb=>?_⟩
   have:=h2.2
   rw [Array.all_eq_true_iff_forall_mem]at this
   have:=this e (by simpa using he)
   simpa [hb] using this
  have preds:∀ i,i∈Region.ready .any ops listed→∀ x,((prs ops).getD i 0).testBit x=true→listed.getD x true=true:=by
   intro i hr x hx
   obtain ⟨_,q,hq,hdeps⟩:=facts i hr
   have hxl:=bound i x hx
   obtain ⟨o,ho,ed,h1,h2,h3⟩:=ziq hx
   rw [hq]at ho
   cases ho
   have hl1:=hdeps ed h1 h2
   rcases h3 with rfl | ⟨_,h3⟩
   ·have hlt:ed.on<listed.size:=by rw [hsz]; exact hxl
    rw [Array.getD_eq_getD_getElem?,Array.getElem?_eq_getElem hlt]at hl1 ⊢
    exact hl1
   exact hcl _ _ hl1 h3 hxl
  refine ⟨fun hr0=>?_,fun i hr=>?_⟩
  ·exfalso
   cases l with
   | nil=>simp at hl
   | cons x l =>
    have hx:=(hmem x).1 (by simp)
    have hready:x∈Region.ready .any ops listed:=by
     unfold Region.ready
     rw [List.mem_filter]
     refine ⟨by simpa using hx.1,?_⟩
     rw [Array.getElem?_eq_getElem hx.1]
     simp only[qO,Option.getD_some,qB,Bool.not_eq_true']
     refine ⟨hx.2,?_⟩
     rw [Array.all_eq_true_iff_forall_mem]
     intro ed hed
     cases hb:Region.binds .any ed with
     | false=>simp
     | true =>
      have hon:=hdep x _ (Array.getElem?_eq_getElem hx.1) ed (by simpa using hed) hb
      have hbit:=zs2 (Array.getElem?_eq_getElem hx.1) (by simpa using hed) hb
      cases hq:listed.getD ed.on true with
      | true =>
       have hlt:ed.on<listed.size:=by rw [hsz]; exact hon
       rw [Array.getD_eq_getD_getElem?,Array.getElem?_eq_getElem hlt]at hq ⊢
       simpa using hq
      | false =>
       exfalso
       have hm:=(hmem ed.on).2 ⟨hon,hq⟩
       rcases List.mem_cons.1 hm with he1 | hm
       ·have:=hself x (by simp)
        rw [he1]at hbit
        rw [hbit]at this
        cases this
       rcases List.rel_of_pairwise_cons hp hm with this | ⟨e1,e2⟩
       ·unfold zgn at this
        rw [hbit]at this
        simp at this
       rw [e1,e2,hno1]at hbit; cases hbit
    rw [hr0]at hready
    simp at hready
  obtain ⟨hil,q,hq,_⟩:=facts i hr
  have hil':=(hmm i).1 hil
  obtain ⟨l1,l2,rfl⟩:=List.append_of_mem hil
  obtain ⟨l3,l4,rfl⟩:=List.append_of_mem hil'
  have good:∀ x,x∈l1++i::l2→zgn ops (prs ops) effs pend x i=true→∃ p,ops[x]?=some p∧effs.contains x=false∧Oper.apart ops p q=true∧(effs.contains i=true→(pend.contains x=true∧pend.contains i=false)∨zmh p.op=true):=by
   intro x hx hpair
   have hxm:=(hmem x).1 hx
   have hnb:((prs ops).getD i 0).testBit x=false:=by
    cases hb:((prs ops).getD i 0).testBit x with
    | false=>rfl
    | true=>have:=preds i hr x hb; rw [hxm.2]at this; cases this
   unfold zgn at hpair
   rw [hnb,hq,Array.getElem?_eq_getElem hxm.1]at hpair
   simp only[Bool.false_or,qB,Bool.not_eq_true',Bool.or_eq_true]at hpair
   refine ⟨ops[x],Array.getElem?_eq_getElem hxm.1,hpair.2.1.1,hpair.2.1.2,fun hc=>?_⟩
   rcases hpair.2.2 with (h1 | h1) | h1
   ·rw [hc]at h1; cases h1
   ·exact .inl h1
   exact .inr h1
  have hlt:i<ops.size:=((hmem i).1 hil).1
  have hgetD:∀ j d,(listed.setIfInBounds i true).getD j d=if j=i then true else listed.getD j d:=by
   intro j d
   rw [Array.getD_eq_getD_getElem?,Array.getD_eq_getD_getElem?]
   by_cases hj:j=i
   ·subst hj; simp [hsz,hlt]
   rw [Array.getElem?_setIfInBounds_ne (Ne.symm hj),if_neg hj]
  have nmem:∀ {m1 m2:List Nat},(m1++i::m2).Nodup→i ∉ m1++m2:=by
   intro m1 m2 hnd hm
   have:=List.nodup_append.1 hnd
   rcases List.mem_append.1 hm with h1 | h1
   ·exact this.2.2 i h1 i (by simp) rfl
   exact (List.nodup_cons.1 this.2.1).1 h1
  have nlist:∀ {m1 m2:List Nat},(m1++i::m2).Nodup→(∀ j,j∈m1++i::m2↔j<ops.size∧listed.getD j true=false)→∀ j,j∈m1++m2↔j<ops.size∧(listed.setIfInBounds i true).getD j true=false:=by
   intro m1 m2 hnd hm j
   rw [hgetD]
   by_cases hj:j=i
   ·subst hj
    rw [if_pos rfl]
    exact ⟨fun h=>(nmem hnd h).elim,fun h=>(by cases h.2)⟩
   rw [if_neg hj,← hm j]
   simp [hj]
  have ncl:∀ (j x:Nat),(listed.setIfInBounds i true).getD j false=true→((prs ops).getD j 0).testBit x=true→x<ops.size→(listed.setIfInBounds i true).getD x true=true:=by
   intro j x h1 h2 h3
   rw [hgetD]at h1 ⊢
   by_cases hx:x=i
   ·rw [if_pos hx]
   rw [if_neg hx]
   by_cases hj:j=i
   ·subst hj; exact preds j hr x h2
   rw [if_neg hj]at h1; exact hcl j x h1 h2 h3
  by_cases ix:i=x0
  ·subst ix
   have hfront:=ze5 hq l1 (fun x hx=>good x (by simp [hx]) (by
    rcases (List.pairwise_append.1 hp).2.2 x hx i (by simp) with h1 | ⟨e1,e2⟩
    ·exact h1
    exact absurd e2 hxy)) h
   refine zlx hT hfront hi he hn hs hd hdst ?_
   intro e' F' G' a' w' k1 k2 k3 k4 k5 k6
   refine zlm hT hdst hdep _ _ (l1++l2) (by simp at hl ⊢; omega) ?_ (hnd.sublist (by simp)) (fun x hx=>hself x (by rcases List.mem_append.1 hx with h9 | h9 <;> simp [h9])) (by simp [hsz]) (nlist hnd hmem) ncl k1 k2 k3 k4 k5 k6
   refine (hp.sublist (by simp)).imp_of_mem (S:=fun x i=>zgn ops (prs ops) effs pend x i=true) fun {x y} hx hy hh=>?_
   rcases hh with h1 | ⟨e1,e2⟩
   ·exact h1
   exact absurd (e1 ▸ hx) (nmem hnd)
  by_cases iy:i=y0
  ·subst iy
   have hfront:=ze5 hq l3 (fun x hx=>good x ((hmm x).2 (by simp [hx])) (by
    rcases (List.pairwise_append.1 hp').2.2 x hx i (by simp) with h1 | ⟨e1,e2⟩
    ·exact h1
    exact absurd e2 ix)) h'
   refine zlx hT hfront hi he hn hs hd hdst ?_
   intro e' F' G' a' w' k1 k2 k3 k4 k5 k6
   refine zlm hT hdst hdep _ _ (l3++l4) (by simp at hl' ⊢; omega) ?_ (hnd'.sublist (by simp)) (fun x hx=>hself x ((hmm x).2 (by rcases List.mem_append.1 hx with h9 | h9 <;> simp [h9]))) (by simp [hsz]) (nlist hnd' hmem') ncl k1 k2 k3 k4 k5 k6
   refine (hp'.sublist (by simp)).imp_of_mem (S:=fun x i=>zgn ops (prs ops) effs pend x i=true) fun {x y} hx hy hh=>?_
   rcases hh with h1 | ⟨e1,e2⟩
   ·exact h1
   exact absurd (e1 ▸ hx) (nmem hnd')
  have hf1:=ze5 hq l1 (fun x hx=>good x (by simp [hx]) (by
   rcases (List.pairwise_append.1 hp).2.2 x hx i (by simp) with h1 | ⟨e1,e2⟩
   ·exact h1
   exact absurd e2 iy)) h
  have hf2:=ze5 hq l3 (fun x hx=>good x ((hmm x).2 (by simp [hx])) (by
   rcases (List.pairwise_append.1 hp').2.2 x hx i (by simp) with h1 | ⟨e1,e2⟩
   ·exact h1
   exact absurd e2 ix)) h'
  refine z8n hT (hnc i) hf1 hf2 hi he hn hs hd hdst ?_
  intro e' F' G' a' w' k1 k1' k2 k3 k4 k5 k6
  have hx1:x0∈l1++l2:=by have:=hx0; simp only[List.mem_append,List.mem_cons]at this ⊢; rcases this with h9 | h9 | h9 <;> first | exact .inl h9 | exact .inr h9 | exact absurd h9.symm ix
  have hy1:y0∈l1++l2:=by have:=hy0; simp only[List.mem_append,List.mem_cons]at this ⊢; rcases this with h9 | h9 | h9 <;> first | exact .inl h9 | exact .inr h9 | exact absurd h9.symm iy
  exact ih _ (l1++l2) (l3++l4) (by simp at hl ⊢; omega) (by simp at hl' ⊢; omega) hx1 hy1 (hp.sublist (by simp)) (hp'.sublist (by simp)) (hnd.sublist (by simp)) (hnd'.sublist (by simp)) (fun x hx=>hself x (by rcases List.mem_append.1 hx with h9 | h9 <;> simp [h9])) (by simp [hsz])
   (nlist hnd hmem) (nlist hnd' hmem') ncl k1 k1' k2 k3 k4 k5 k6
def z5a (ops:Array Oper) (l l' effs pend:List Nat) (a b:Nat):Bool :=
 let B:=prs ops
 zkz (fun x i=>zgn ops B effs pend x i || (x == a && i == b)) l && zkz (fun x i=>zgn ops B effs pend x i || (x == b && i == a)) l' && l.length == ops.size && l'.length == ops.size && l.all (fun x=>decide (x<ops.size) && !(B.getD x 0).testBit x) && l'.all (fun x=>decide (x<ops.size)) &&
 ((List.range ops.size).all l.contains) && ((List.range ops.size).all l'.contains) && (ops.toList.all fun o=>o.after.toList.all fun e => !Region.binds .any e || decide (e.on<ops.size)) &&
 !(a == b) && l.contains a && l.contains b && !(B.getD a 0).testBit b && !(B.getD b 0).testBit a && ops.toList.all fun o=>match o.op with | .call _=>false | _=>true
theorem W.region_two {Q:Exit→Env→Store→Prop} {e:Env} {S:Store} {id:Nat} {ops:Array Oper} (l l' effs pend keep:List Nat) (a b:Nat) (hc:z5a ops l l' effs pend a b=true) (h:zdf P T ops effs pend keep (Q .normal) l e S) (h':zdf P T ops effs pend keep (Q .normal) l' e S) :
  W P T (.region id ops true) Q e S:=by
 refine ⟨?_⟩
 intro hT hm F0 G0 w0 N F G act w h3 h4 h5 h6 h7 h8 h9 R nn
 subst h3
 unfold z5a at hc
 simp only[qB,beq_iff_eq,List.all_eq_true,decide_eq_true_eq,Bool.not_eq_true',List.contains_eq_mem,List.mem_range,Bool.or_eq_true,beq_eq_false_iff_ne]at hc
 obtain ⟨⟨⟨⟨⟨⟨⟨⟨⟨⟨⟨⟨⟨⟨c1,c1'⟩,c2⟩,c2'⟩,c3⟩,c3'⟩,c4⟩,c4'⟩,c5⟩,c6⟩,c7⟩,c8⟩,c9⟩,c10⟩,c11⟩:=hc
 obtain ⟨p1,p2⟩:=zf8 c1
 obtain ⟨p1',p2'⟩:=zf8 c1'
 have hin:∀ i,i<ops.size↔i<ops.size∧(Array.replicate ops.size false).getD i true=false:=by
  intro i
  constructor
  ·intro hi; refine ⟨hi,?_⟩; rw [Array.getD_eq_getD_getElem?]; simp [hi]
  exact fun h=>h.1
 refine wpIn_mono (wpIn_region_any hm (z5n (Q:=Q .normal) hT (zpq h9) ?_ c6 c9 c10 ?_ ops.size (Array.replicate ops.size false) l l' c2 c2' (by simpa using c7) (by simpa using c8) (p1.imp fun h=>by simpa using h) (p1'.imp fun h=>by simpa using h) p2 p2' (fun x hx=>(c3 x hx).2) (by simp) ?_ ?_ ?_ h h' (h4.drew) h5 (h6.drew) h7 h8)) zwv
 ·intro i o ho ed hed hb
  have hmem:o∈ops.toList:=by
   have:=Array.mem_of_getElem? ho
   simpa using this
  have:=c5 o hmem ed hed
  rw [hb]at this
  simpa using this
 ·intro i o ho c hcc
  have hmem:o∈ops.toList:=by
   have:=Array.mem_of_getElem? ho
   simpa using this
  have:=c11 o hmem
  rw [hcc]at this
  simp at this
 ·exact fun i=>⟨fun hi=>(hin i).1 (c3 i hi).1,fun hi=>c4 i hi.1⟩
 ·exact fun i=>⟨fun hi=>(hin i).1 (c3' i hi),fun hi=>c4' i hi.1⟩
 intro i x hx
 rw [Array.getD_eq_getD_getElem?]at hx
 simp only[Array.getElem?_replicate]at hx
 split at hx <;> cases hx
theorem zpt {all:List Oper} {effs pend:List Nat} {K:Env→Store→Prop} (heff:∀ (i:Nat) (o:Oper),all[i]?=some o→effs.contains i=false→zdu o.op=true) {x:Nat} {cs:List PV} {off:Nat}
  (hx:∀ (i:Nat) (o:Oper),all[i]?=some o→o.dst≠some x) (hpe:∀ (i:Nat) (o:Oper),all[i]?=some o→pend.contains i=true→∃ t,o.op = .load t (.tmp x)):∀ (r:List Nat) (l:List Oper) {e:Env} {S:Store},e x = .ip cs off→r.map (all[·]?)=l.map some →
  zbp false P T (dsts all) l e S K→zdf P T all.toArray effs pend [] K r e S
 | [],l,e,S,_,hl,h=>by
  cases l with
  | nil=>exact h
  | cons o l=>simp at hl
 | i::r,l,e,S,hex,hl,h=>by
  cases l with
  | nil=>simp at hl
  | cons o l =>
   simp only[List.map_cons,List.cons.injEq]at hl
   obtain ⟨ho,hl⟩:=hl
   have hput:∀ v,(e.put o.dst v) x = .ip cs off:=fun v=>by
    have:=hx i o ho
    cases hd:o.dst with
    | none=>exact hex
    | some d=>rw [zun,if_neg (fun e1=>this (by rw [hd,e1]))]; exact hex
   unfold zbp at h
   simp only[zdf,List.getElem?_toArray,ho]
   rw [zje]at h
   unfold zdj
   split at h
   ·rename_i hg
    rw [hg]
    simp only
    split
    ·exact zd4 (fun v S' hv=>⟨.inr (by intro o ho; cases ho),zpt heff hx hpe r l (hput v) hl hv⟩) (zjo h)
    rename_i hc
    have:=zjx (heff i o ho (by simpa using hc)) h
    rw [zc5]at this ⊢
    obtain ⟨v,h1,h2⟩:=this
    refine ⟨v,h1,?_,zpt heff hx hpe r l (hput v) hl h2⟩
    split
    ·rename_i hp
     obtain ⟨t,ht⟩:=hpe i o ho hp
     intro S' _
     rw [ht]at h1 ⊢
     simp only[pFl,zd3,z5q,hex,zrt]at h1 ⊢
     exact h1
    trivial
   ·rename_i hg; rw [hg]; exact zpt heff hx hpe r l (hput _) hl h
   exact h.elim
def yfh (l:List Oper) (effs pend:List Nat) (x:Nat):Bool :=
 l.all (fun o=>o.dst != some x) && (l.zipIdx.all fun q => !pend.contains q.2 || (match q.1.op with | .load _ (.tmp y)=>y == x | _=>false))
theorem W.draw_two {Q:Exit→Env→Store→Prop} {e:Env} {S:Store} {id:Nat} {l r1 r2:List Oper} (l1 l2 pend:List Nat) (a b x:Nat) {cs:List PV} {off:Nat} (hex:e x = .ip cs off) (hc:z5a l.toArray l1 l2 (zcm l 0) pend a b=true) (ho:yfh l (zcm l 0) pend x=true)
  (hr:l1.map (l[·]?)=r1.map some) (hr2:l2.map (l[·]?)=r2.map some)
  (h1:∀ K:Env→Store→Prop,(∀ e S,Q .normal e S→K e S)→zbp false P T (dsts l) r1 e S K) (h2:∀ K:Env→Store→Prop,(∀ e S,Q .normal e S→K e S)→zbp false P T (dsts l) r2 e S K):W P T (.region id l.toArray true) Q e S:=by
 unfold yfh at ho
 simp only[qB,List.all_eq_true,bne_iff_ne,Bool.or_eq_true,Bool.not_eq_true']at ho
 have heff:∀ (i:Nat) (o:Oper),l[i]?=some o→(zcm l 0).contains i=false→zdu o.op=true:=by
  intro i o hio hc
  have:=zil l 0 i o hio
  rw [Nat.zero_add]at this
  cases hf:zdu o.op with
  | true=>rfl
  | false=>have:=this.2 hf; simp at hc; exact absurd this hc
 have hx:∀ (i:Nat) (o:Oper),l[i]?=some o→o.dst≠some x:=fun i o hio=>ho.1 o (List.mem_of_getElem? hio)
 have hpe:∀ (i:Nat) (o:Oper),l[i]?=some o→pend.contains i=true→∃ t,o.op = .load t (.tmp x):=by
  intro i o hio hp
  rcases ho.2 (o,i) (List.mem_of_getElem? (i:=i) (by simp [List.getElem?_zipIdx,hio])) with h | h
  ·rw [hp]at h; cases h
  simp only at h
  split at h
  ·rename_i t y hop; exact ⟨t,by rw [hop,beq_iff_eq.1 h]⟩
  cases h
 exact W.region_two l1 l2 (zcm l 0) pend [] a b hc (zpt heff hx hpe _ _ hex hr (h1 _ fun _ _ h=>h)) (zpt heff hx hpe _ _ hex hr2 (h2 _ fun _ _ h=>h))
end
end
theorem zae {a b:Nat}:((a+b:Nat):Int) - (a:Int)=(b:Int):=by omega
theorem zzi {p:List Txt} (hp:zbw p=true):GW (gP p) p.length (zao p).length:=by
 rw [← zg7]at hp
 simp only[zg6,qB]at hp
 have:=z1j hp.1
 rwa [zh3]at this
theorem z9k {p:List Txt} (hp:zbw p=true) {t:Pt} (ht:t.In p.length (zao p).length) (l:Nat) (a b c d:Ob) (tk:Nat) (B C D:Bool × Nat→Ob)
  (hy:∀ q,zeb (zal p) t=some q→∀ (x y:Ob) (tk2:Nat),tk≤tk2→Ey Tryz.prog l [z0w (gP p) (rP p) t q] ⟨[a,b,c,d,x,y],tk2⟩ fun v S=>v = .bool false∧∃ tk3,S=⟨[a,B q,C q,D q,x,y],tk3⟩):Ev Tryz.prog 157 [.yl l,.ip (za3 (gP p) (rP p)::t.rect.cells) 0] ⟨[a,b,c,d],tk⟩ fun v S=>(∃ tk2,zeb (zal p) t=none∧S=⟨[a,b,c,d],tk2⟩)∨∃ q tk2,zeb (zal p) t=some q∧S=⟨[a,B q,C q,D q],tk2⟩:=by
 have hsm:=zce (zeu hp)
 obtain ⟨t1,t2,t3,t4⟩:=id ht
 have hgw:=zzi hp
 obtain ⟨g1,g2,g3,g4⟩:=hgw.2.2
 simp only[Pt.rect,Rect.cells]
 refine Ev.of ⟨Tryz.func157,by kernel_rfl,rfl,by kernel_rfl⟩ zap mixed (by show 2≤Tryz.f157.ntmps; decide) ?_
 refine W.seq ?_
 refine W.r fun K hK=>?_
 simp(disch:=omega)only[↓RU,RV,RH,↓reduceIte,qE,reduceCtorEq,if_pos,w64,↓RS,RG,qA,qM,qL,ty7,zck,za7,zaa,zcl,za8,zae]
 apply hK;clear hK K
 refine W.block ?_
 refine W.loop [0,1,3] (fun n vs S=>∃ k tk2:Nat,n=t.w - k∧1≤k∧k≤t.w∧(∀ j,1≤j→j<k→thU (zal p) t j=false)∧tk≤tk2∧vs=[.yl l,.ip [za3 (gP p) (rP p),.int .i64 t.r,.int .i64 t.c,.int .i64 t.h,.int .i64 t.w] 0,.int .i64 ((t.c+k:Nat):Int)]∧S=⟨[a,b,c,d],tk2⟩) (t.w - 1) ?_ ?_
 ·refine ⟨4,1,_,rfl,by omega,by omega,fun j _ _=>by omega,qR _,?_,rfl⟩
  simp [Env.put,Env.of,zaf]
 rintro n vs S - ⟨k,tk2,rfl,hk1,h_k,hall,htk,rfl,rfl⟩
 refine W.seq ?_
 refine W.r fun K hK=>?_
 simp(disch:=omega)only[↓RU,RV,RH,↓reduceIte,qE,reduceCtorEq,if_pos,w64,↓RS,RG,qA,qM,qL,ty7,zck,za7,zaa,zcl,za8,zae]
 apply hK;clear hK K
 refine W.cond rfl (fun h=>?_) (fun h=>?_)
 ·try simp only[RL]at h
  have hgu:=ygs hp ht hk1 (show k<t.w by omega)
  have e1:((t.w:Nat):Int) - ((k:Nat):Int)=((t.w - k:Nat):Int):=by omega
  refine W.skip ?_
  refine xn ?_
  refine W.seq ?_
  refine W.block ?_
  refine W.seq (W.draw_two (r1:=[_,_,_,_,_,_]) (r2:=[_,_,_,_,_,_]) [0,1,2,3,4,5] [0,1,3,2,4,5] [0,1] 2 3 1 rfl (by kernel_rfl) (by kernel_rfl) rfl rfl (fun K hK=>?_) (fun K hK=>?_))
  ·simp(disch:=omega)only[↓RU,RV,RH,↓reduceIte,qE,reduceCtorEq,if_pos,↓RS,RG,qA,qM,qL,ty7,zck,za7,zaa,zcl,za8,zae]
   apply hK;clear hK K
   refine xn ?_
   refine W.r fun K hK=>?_
   simp(disch:=omega)only[↓RU,RV,RH,↓reduceIte,qE,reduceCtorEq,if_pos,w64,↓RS,RG,qA,qM,qL,ty7,zck,za7,zaa,zcl,za8,zae]
   apply hK;clear hK K
   refine W.seq_pk 11 [some 34,some 35,some 36,some 37,some 38,some 39] [4] (by decide) (by kernel_rfl) fun K hK=>?_
   simp only[List.take_succ_cons,List.take_zero,List.drop_succ_cons,List.drop_zero]
   refine za5 rfl ?_
   simp(disch:=omega)only[↓RU,RV,RH,↓reduceIte,qE,reduceCtorEq,if_pos,w64,↓RS,RG,qA,qM,qL,ty7,zck,za7,zaa,zcl,za8,zae,e1,zam,zar]
   refine zas (.ip [za3 (gP p) (rP p),.int .i64 t.r,.int .i64 t.c,.int .i64 t.h,.int .i64 t.w] 1) rfl rfl rfl (fun S' hS=>?_) ?_
   ·skip
    have k4:=(hS 4 (by decide)).trans (show _=some _ from rfl)
    simp(disch:=omega)only[↓RU,RV,RH,↓reduceIte,qE,reduceCtorEq,if_pos,w64,↓RS,RG,qA,qM,qL,ty7,zck,za7,zaa,zcl,za8,zae,e1,zb3,zcz,zec,zed,k4]
   refine zas (.ip [za3 (gP p) (rP p),.int .i64 t.r,.int .i64 t.c,.int .i64 t.h,.int .i64 t.w] 4) rfl rfl rfl (fun S' hS=>?_) ?_
   ·skip
    have k4:=(hS 4 (by decide)).trans (show _=some _ from rfl)
    simp(disch:=omega)only[↓RU,RV,RH,↓reduceIte,qE,reduceCtorEq,if_pos,w64,↓RS,RG,qA,qM,qL,ty7,zck,za7,zaa,zcl,za8,zae,e1,zb3,zcz,zec,zed,k4]
   refine zas (.int .i64 t.w) rfl rfl rfl (fun S' hS=>?_) ?_
   ·skip
    have k4:=(hS 4 (by decide)).trans (show _=some _ from rfl)
    simp(disch:=omega)only[↓RU,RV,RH,↓reduceIte,qE,reduceCtorEq,if_pos,w64,↓RS,RG,qA,qM,qL,ty7,zck,za7,zaa,zcl,za8,zae,e1,zb3,zcz,zec,zed,k4]
   refine zas (.ref 4 tk2 1) rfl rfl rfl (fun S' hS=>?_) ?_
   ·skip
    have k4:=(hS 4 (by decide)).trans (show _=some _ from rfl)
    simp(disch:=omega)only[↓RU,RV,RH,↓reduceIte,qE,reduceCtorEq,if_pos,w64,↓RS,RG,qA,qM,qL,ty7,zck,za7,zaa,zcl,za8,zae,e1,zb3,zcz,zec,zed,k4]
   refine zas (.ref 4 tk2 4) rfl rfl rfl (fun S' hS=>?_) ?_
   ·skip
    have k4:=(hS 4 (by decide)).trans (show _=some _ from rfl)
    simp(disch:=omega)only[↓RU,RV,RH,↓reduceIte,qE,reduceCtorEq,if_pos,w64,↓RS,RG,qA,qM,qL,ty7,zck,za7,zaa,zcl,za8,zae,e1,zb3,zcz,zec,zed,k4]
   refine zas (.int .i64 k) rfl rfl rfl (fun S' hS=>?_) ?_
   ·skip
    have k4:=(hS 4 (by decide)).trans (show _=some _ from rfl)
    simp(disch:=omega)only[↓RU,RV,RH,↓reduceIte,qE,reduceCtorEq,if_pos,w64,↓RS,RG,qA,qM,qL,ty7,zck,za7,zaa,zcl,za8,zae,e1,zb3,zcz,zec,zed,k4]
   refine za5 rfl ?_
   simp(disch:=omega)only[↓RU,RV,RH,↓reduceIte,qE,reduceCtorEq,if_pos,w64,↓RS,RG,qA,qM,qL,ty7,zck,za7,zaa,zcl,za8,zae,e1,zam,zar]
   refine za5 rfl ?_
   simp(disch:=omega)only[↓RU,RV,RH,↓reduceIte,qE,reduceCtorEq,if_pos,w64,↓RS,RG,qA,qM,qL,ty7,zck,za7,zaa,zcl,za8,zae,e1,zam,zar]
   refine za5 rfl ?_
   simp(disch:=omega)only[↓RU,RV,RH,↓reduceIte,qE,reduceCtorEq,if_pos,w64,↓RS,RG,qA,qM,qL,ty7,zck,za7,zaa,zcl,za8,zae,e1,zam,zar]
   refine za5 rfl ?_
   simp(disch:=omega)only[↓RU,RV,RH,↓reduceIte,qE,reduceCtorEq,if_pos,w64,↓RS,RG,qA,qM,qL,ty7,zck,za7,zaa,zcl,za8,zae,e1,zam,zar]
   refine zf5 ?_
   simp(disch:=omega)only[↓RU,RV,RH,↓reduceIte,qE,reduceCtorEq,if_pos,w64,↓RS,RG,qA,qM,qL,ty7,zck,za7,zaa,zcl,za8,zae,e1]
   apply hK;clear hK K
   refine W.r fun K hK=>?_
   cases hth:thU (zal p) t k
   ·skip
    simp(disch:=omega)only[↓RU,RV,RH,↓reduceIte,qE,reduceCtorEq,if_pos,qN,↓RS,RG,qA,qM,qL,ty7,zah,zck,zhi,za7,zaa,zcl,zhj,za8,zae,hgu,hth]
    refine zad.pc (zfa hgw (rP p) ht (level:=false) (line:=t.c+k) (by omega) (by simp; omega)) rfl (.inl rfl) ?_
    simp(disch:=omega)only[↓RU,RV,RH,↓reduceIte,qE,reduceCtorEq,if_pos,qN,↓RS,RG,qA,qM,qL,ty7,zah,zck,zhi,za7,zaa,zcl,zhj,za8,zae,hgu,hth]
    apply hK;clear hK K
    refine W.cond rfl (fun h1=>?_) (fun h1=>?_)
    ·try simp only[RL]at h1
     exact absurd h1 (by simp)
    try simp only[RL]at h1
    refine W.skip ?_
    refine XbN ?_
    refine xn ?_
    refine W.k fun K hK=>?_
    simp(disch:=omega)only[↓RU,RV,RH,↓reduceIte,qE,reduceCtorEq,if_pos,w64,↓RS,RG,qA,qM,qL,zaa,zae]
    apply hK;clear hK K
    refine xn ?_
    refine ⟨t.w - (k+1),by omega,4,k+1,_,rfl,by omega,by omega,fun j j1 j2=>?_,?_,?_,rfl⟩
    ·rcases Nat.lt_succ_iff_lt_or_eq.1 j2 with h | rfl
     ·exact hall j j1 h
     exact hth
    ·exact Nat.le_trans htk (Nat.le_add_right _ 2)
    simp [Env.put,Env.of]; omega
   skip
   have hq:zeb (zal p) t=some (false,k):=by unfold zeb; rw [zfg.2 ⟨hk1,by omega,hth,hall⟩]
   simp(disch:=omega)only[↓RU,RV,RH,↓reduceIte,qE,reduceCtorEq,if_pos,qN,↓RS,RG,qA,qM,qL,ty7,zah,zck,zhi,za7,zaa,zcl,zhj,za8,zae,hgu,hth]
   refine zad.pc (zfa hgw (rP p) ht (level:=false) (line:=t.c+k) (by omega) (by simp; omega)) rfl (.inl rfl) ?_
   simp(disch:=omega)only[↓RU,RV,RH,↓reduceIte,qE,reduceCtorEq,if_pos,qN,↓RS,RG,qA,qM,qL,ty7,zah,zck,zhi,za7,zaa,zcl,zhj,za8,zae,hgu,hth]
   refine ztp.ey (hy _ hq _ _ _ (Nat.le_trans htk (Nat.le_add_right _ 2))) ?_
   rintro _ _ ⟨rfl,tk3,rfl⟩
   simp(disch:=omega)only[↓RU,RV,RH,↓reduceIte,qE,reduceCtorEq,if_pos,qN,↓RS,RG,qA,qM,qL,ty7,zah,zck,zhi,za7,zaa,zcl,zhj,za8,zae,hgu,hth]
   apply hK;clear hK K
   refine W.cond rfl (fun h1=>?_) (fun h1=>?_)
   ·try simp only[RL]at h1
    refine W.ret ?_
    refine XBlock.ret ?_
    refine XThen.ret ?_
    refine XThen.ret ?_
    refine XBlock.ret ?_
    refine XThen.ret ?_
    refine Br rfl ?_
    exact ⟨4,.inr ⟨_,_,hq,rfl⟩⟩
   try simp only[RL]at h1
   exact absurd h1 (by simp)
  simp(disch:=omega)only[↓RU,RV,RH,↓reduceIte,qE,reduceCtorEq,if_pos,↓RS,RG,qA,qM,qL,ty7,zck,za7,zaa,zcl,za8,zae]
  apply hK;clear hK K
  refine xn ?_
  refine W.r fun K hK=>?_
  simp(disch:=omega)only[↓RU,RV,RH,↓reduceIte,qE,reduceCtorEq,if_pos,w64,↓RS,RG,qA,qM,qL,ty7,zck,za7,zaa,zcl,za8,zae]
  apply hK;clear hK K
  refine W.seq_pk 11 [some 34,some 35,some 36,some 37,some 38,some 39] [5] (by decide) (by kernel_rfl) fun K hK=>?_
  simp only[List.take_succ_cons,List.take_zero,List.drop_succ_cons,List.drop_zero]
  refine za5 rfl ?_
  simp(disch:=omega)only[↓RU,RV,RH,↓reduceIte,qE,reduceCtorEq,if_pos,w64,↓RS,RG,qA,qM,qL,ty7,zck,za7,zaa,zcl,za8,zae,e1,zam,zar]
  refine zas (.ip [za3 (gP p) (rP p),.int .i64 t.r,.int .i64 t.c,.int .i64 t.h,.int .i64 t.w] 1) rfl rfl rfl (fun S' hS=>?_) ?_
  ·skip
   have k5:=(hS 5 (by decide)).trans (show _=some _ from rfl)
   simp(disch:=omega)only[↓RU,RV,RH,↓reduceIte,qE,reduceCtorEq,if_pos,w64,↓RS,RG,qA,qM,qL,ty7,zck,za7,zaa,zcl,za8,zae,e1,zb3,zcz,zec,zed,k5]
  refine zas (.ip [za3 (gP p) (rP p),.int .i64 t.r,.int .i64 t.c,.int .i64 t.h,.int .i64 t.w] 4) rfl rfl rfl (fun S' hS=>?_) ?_
  ·skip
   have k5:=(hS 5 (by decide)).trans (show _=some _ from rfl)
   simp(disch:=omega)only[↓RU,RV,RH,↓reduceIte,qE,reduceCtorEq,if_pos,w64,↓RS,RG,qA,qM,qL,ty7,zck,za7,zaa,zcl,za8,zae,e1,zb3,zcz,zec,zed,k5]
  refine zas (.int .i64 t.w) rfl rfl rfl (fun S' hS=>?_) ?_
  ·skip
   have k5:=(hS 5 (by decide)).trans (show _=some _ from rfl)
   simp(disch:=omega)only[↓RU,RV,RH,↓reduceIte,qE,reduceCtorEq,if_pos,w64,↓RS,RG,qA,qM,qL,ty7,zck,za7,zaa,zcl,za8,zae,e1,zb3,zcz,zec,zed,k5]
  refine zas (.ref 5 (tk2+1) 1) rfl rfl rfl (fun S' hS=>?_) ?_
  ·skip
   have k5:=(hS 5 (by decide)).trans (show _=some _ from rfl)
   simp(disch:=omega)only[↓RU,RV,RH,↓reduceIte,qE,reduceCtorEq,if_pos,w64,↓RS,RG,qA,qM,qL,ty7,zck,za7,zaa,zcl,za8,zae,e1,zb3,zcz,zec,zed,k5]
  refine zas (.ref 5 (tk2+1) 4) rfl rfl rfl (fun S' hS=>?_) ?_
  ·skip
   have k5:=(hS 5 (by decide)).trans (show _=some _ from rfl)
   simp(disch:=omega)only[↓RU,RV,RH,↓reduceIte,qE,reduceCtorEq,if_pos,w64,↓RS,RG,qA,qM,qL,ty7,zck,za7,zaa,zcl,za8,zae,e1,zb3,zcz,zec,zed,k5]
  refine zas (.int .i64 k) rfl rfl rfl (fun S' hS=>?_) ?_
  ·skip
   have k5:=(hS 5 (by decide)).trans (show _=some _ from rfl)
   simp(disch:=omega)only[↓RU,RV,RH,↓reduceIte,qE,reduceCtorEq,if_pos,w64,↓RS,RG,qA,qM,qL,ty7,zck,za7,zaa,zcl,za8,zae,e1,zb3,zcz,zec,zed,k5]
  refine za5 rfl ?_
  simp(disch:=omega)only[↓RU,RV,RH,↓reduceIte,qE,reduceCtorEq,if_pos,w64,↓RS,RG,qA,qM,qL,ty7,zck,za7,zaa,zcl,za8,zae,e1,zam,zar]
  refine za5 rfl ?_
  simp(disch:=omega)only[↓RU,RV,RH,↓reduceIte,qE,reduceCtorEq,if_pos,w64,↓RS,RG,qA,qM,qL,ty7,zck,za7,zaa,zcl,za8,zae,e1,zam,zar]
  refine za5 rfl ?_
  simp(disch:=omega)only[↓RU,RV,RH,↓reduceIte,qE,reduceCtorEq,if_pos,w64,↓RS,RG,qA,qM,qL,ty7,zck,za7,zaa,zcl,za8,zae,e1,zam,zar]
  refine za5 rfl ?_
  simp(disch:=omega)only[↓RU,RV,RH,↓reduceIte,qE,reduceCtorEq,if_pos,w64,↓RS,RG,qA,qM,qL,ty7,zck,za7,zaa,zcl,za8,zae,e1,zam,zar]
  refine zf5 ?_
  simp(disch:=omega)only[↓RU,RV,RH,↓reduceIte,qE,reduceCtorEq,if_pos,w64,↓RS,RG,qA,qM,qL,ty7,zck,za7,zaa,zcl,za8,zae,e1]
  apply hK;clear hK K
  refine W.r fun K hK=>?_
  cases hth:thU (zal p) t k
  ·skip
   simp(disch:=omega)only[↓RU,RV,RH,↓reduceIte,qE,reduceCtorEq,if_pos,qN,↓RS,RG,qA,qM,qL,ty7,zah,zck,zhi,za7,zaa,zcl,zhj,za8,zae,hgu,hth]
   refine zad.pc (zfa hgw (rP p) ht (level:=false) (line:=t.c+k) (by omega) (by simp; omega)) rfl (.inl rfl) ?_
   simp(disch:=omega)only[↓RU,RV,RH,↓reduceIte,qE,reduceCtorEq,if_pos,qN,↓RS,RG,qA,qM,qL,ty7,zah,zck,zhi,za7,zaa,zcl,zhj,za8,zae,hgu,hth]
   apply hK;clear hK K
   refine W.cond rfl (fun h1=>?_) (fun h1=>?_)
   ·try simp only[RL]at h1
    exact absurd h1 (by simp)
   try simp only[RL]at h1
   refine W.skip ?_
   refine XbN ?_
   refine xn ?_
   refine W.k fun K hK=>?_
   simp(disch:=omega)only[↓RU,RV,RH,↓reduceIte,qE,reduceCtorEq,if_pos,w64,↓RS,RG,qA,qM,qL,zaa,zae]
   apply hK;clear hK K
   refine xn ?_
   refine ⟨t.w - (k+1),by omega,4,k+1,_,rfl,by omega,by omega,fun j j1 j2=>?_,?_,?_,rfl⟩
   ·rcases Nat.lt_succ_iff_lt_or_eq.1 j2 with h | rfl
    ·exact hall j j1 h
    exact hth
   ·exact Nat.le_trans htk (Nat.le_add_right _ 2)
   simp [Env.put,Env.of]; omega
  skip
  have hq:zeb (zal p) t=some (false,k):=by unfold zeb; rw [zfg.2 ⟨hk1,by omega,hth,hall⟩]
  simp(disch:=omega)only[↓RU,RV,RH,↓reduceIte,qE,reduceCtorEq,if_pos,qN,↓RS,RG,qA,qM,qL,ty7,zah,zck,zhi,za7,zaa,zcl,zhj,za8,zae,hgu,hth]
  refine zad.pc (zfa hgw (rP p) ht (level:=false) (line:=t.c+k) (by omega) (by simp; omega)) rfl (.inl rfl) ?_
  simp(disch:=omega)only[↓RU,RV,RH,↓reduceIte,qE,reduceCtorEq,if_pos,qN,↓RS,RG,qA,qM,qL,ty7,zah,zck,zhi,za7,zaa,zcl,zhj,za8,zae,hgu,hth]
  refine ztp.ey (hy _ hq _ _ _ (Nat.le_trans htk (Nat.le_add_right _ 2))) ?_
  rintro _ _ ⟨rfl,tk3,rfl⟩
  simp(disch:=omega)only[↓RU,RV,RH,↓reduceIte,qE,reduceCtorEq,if_pos,qN,↓RS,RG,qA,qM,qL,ty7,zah,zck,zhi,za7,zaa,zcl,zhj,za8,zae,hgu,hth]
  apply hK;clear hK K
  refine W.cond rfl (fun h1=>?_) (fun h1=>?_)
  ·try simp only[RL]at h1
   refine W.ret ?_
   refine XBlock.ret ?_
   refine XThen.ret ?_
   refine XThen.ret ?_
   refine XBlock.ret ?_
   refine XThen.ret ?_
   refine Br rfl ?_
   exact ⟨4,.inr ⟨_,_,hq,rfl⟩⟩
  try simp only[RL]at h1
  exact absurd h1 (by simp)
 try simp only[RL]at h
 obtain rfl:k=t.w:=by omega
 refine W.exit ?_
 refine xe ?_
 refine xe ?_
 refine XBlock.hit ?_
 refine xn ?_
 refine W.r fun K hK=>?_
 simp(disch:=omega)only[↓RU,RV,RH,↓reduceIte,qE,reduceCtorEq,if_pos,w64,↓RS,RG,qA,qM,qL,ty7,zck,za7,zaa,zcl,za8,zae]
 apply hK;clear hK K
 refine W.block ?_
 refine W.loop [0,1,6] (fun n vs S=>∃ k tk2:Nat,n=t.h - k∧1≤k∧k≤t.h∧(∀ j,1≤j→j<k→thL (zal p) t j=false)∧tk≤tk2∧vs=[.yl l,.ip [za3 (gP p) (rP p),.int .i64 t.r,.int .i64 t.c,.int .i64 t.h,.int .i64 t.w] 0,.int .i64 ((t.r+k:Nat):Int)]∧S=⟨[a,b,c,d],tk2⟩) (t.h - 1) ?_ ?_
 ·refine ⟨4,1,_,rfl,by omega,by omega,fun j _ _=>by omega,htk,?_,rfl⟩
  simp [Env.put,Env.of,zaf]
 rintro n vs S - ⟨k,tk2,rfl,hk1,h_k,hall2,htk,rfl,rfl⟩
 refine W.seq ?_
 refine W.r fun K hK=>?_
 simp(disch:=omega)only[↓RU,RV,RH,↓reduceIte,qE,reduceCtorEq,if_pos,w64,↓RS,RG,qA,qM,qL,ty7,zck,za7,zaa,zcl,za8,zae]
 apply hK;clear hK K
 refine W.cond rfl (fun h=>?_) (fun h=>?_)
 ·try simp only[RL]at h
  have hgu:=ygr hp ht hk1 (show k<t.h by omega)
  have e1:((t.h:Nat):Int) - ((k:Nat):Int)=((t.h - k:Nat):Int):=by omega
  refine W.skip ?_
  refine xn ?_
  refine W.seq ?_
  refine W.block ?_
  refine W.seq (W.draw_two (r1:=[_,_,_,_,_,_]) (r2:=[_,_,_,_,_,_]) [0,1,2,3,4,5] [0,1,3,2,4,5] [0,1] 2 3 1 rfl (by kernel_rfl) (by kernel_rfl) rfl rfl (fun K hK=>?_) (fun K hK=>?_))
  ·simp(disch:=omega)only[↓RU,RV,RH,↓reduceIte,qE,reduceCtorEq,if_pos,↓RS,RG,qA,qM,qL,ty7,zck,za7,zaa,zcl,za8,zae]
   apply hK;clear hK K
   refine xn ?_
   refine W.r fun K hK=>?_
   simp(disch:=omega)only[↓RU,RV,RH,↓reduceIte,qE,reduceCtorEq,if_pos,w64,↓RS,RG,qA,qM,qL,ty7,zck,za7,zaa,zcl,za8,zae]
   apply hK;clear hK K
   refine W.seq_pk 11 [some 81,some 82,some 83,some 84,some 85,some 86] [4] (by decide) (by kernel_rfl) fun K hK=>?_
   simp only[List.take_succ_cons,List.take_zero,List.drop_succ_cons,List.drop_zero]
   refine za5 rfl ?_
   simp(disch:=omega)only[↓RU,RV,RH,↓reduceIte,qE,reduceCtorEq,if_pos,w64,↓RS,RG,qA,qM,qL,ty7,zck,za7,zaa,zcl,za8,zae,e1,zam,zar]
   refine zas (.ip [za3 (gP p) (rP p),.int .i64 t.r,.int .i64 t.c,.int .i64 t.h,.int .i64 t.w] 1) rfl rfl rfl (fun S' hS=>?_) ?_
   ·skip
    have k4:=(hS 4 (by decide)).trans (show _=some _ from rfl)
    simp(disch:=omega)only[↓RU,RV,RH,↓reduceIte,qE,reduceCtorEq,if_pos,w64,↓RS,RG,qA,qM,qL,ty7,zck,za7,zaa,zcl,za8,zae,e1,zb3,zcz,zec,zed,k4]
   refine zas (.ip [za3 (gP p) (rP p),.int .i64 t.r,.int .i64 t.c,.int .i64 t.h,.int .i64 t.w] 3) rfl rfl rfl (fun S' hS=>?_) ?_
   ·skip
    have k4:=(hS 4 (by decide)).trans (show _=some _ from rfl)
    simp(disch:=omega)only[↓RU,RV,RH,↓reduceIte,qE,reduceCtorEq,if_pos,w64,↓RS,RG,qA,qM,qL,ty7,zck,za7,zaa,zcl,za8,zae,e1,zb3,zcz,zec,zed,k4]
   refine zas (.int .i64 t.h) rfl rfl rfl (fun S' hS=>?_) ?_
   ·skip
    have k4:=(hS 4 (by decide)).trans (show _=some _ from rfl)
    simp(disch:=omega)only[↓RU,RV,RH,↓reduceIte,qE,reduceCtorEq,if_pos,w64,↓RS,RG,qA,qM,qL,ty7,zck,za7,zaa,zcl,za8,zae,e1,zb3,zcz,zec,zed,k4]
   refine zas (.ref 4 tk2 1) rfl rfl rfl (fun S' hS=>?_) ?_
   ·skip
    have k4:=(hS 4 (by decide)).trans (show _=some _ from rfl)
    simp(disch:=omega)only[↓RU,RV,RH,↓reduceIte,qE,reduceCtorEq,if_pos,w64,↓RS,RG,qA,qM,qL,ty7,zck,za7,zaa,zcl,za8,zae,e1,zb3,zcz,zec,zed,k4]
   refine zas (.ref 4 tk2 3) rfl rfl rfl (fun S' hS=>?_) ?_
   ·skip
    have k4:=(hS 4 (by decide)).trans (show _=some _ from rfl)
    simp(disch:=omega)only[↓RU,RV,RH,↓reduceIte,qE,reduceCtorEq,if_pos,w64,↓RS,RG,qA,qM,qL,ty7,zck,za7,zaa,zcl,za8,zae,e1,zb3,zcz,zec,zed,k4]
   refine zas (.int .i64 k) rfl rfl rfl (fun S' hS=>?_) ?_
   ·skip
    have k4:=(hS 4 (by decide)).trans (show _=some _ from rfl)
    simp(disch:=omega)only[↓RU,RV,RH,↓reduceIte,qE,reduceCtorEq,if_pos,w64,↓RS,RG,qA,qM,qL,ty7,zck,za7,zaa,zcl,za8,zae,e1,zb3,zcz,zec,zed,k4]
   refine za5 rfl ?_
   simp(disch:=omega)only[↓RU,RV,RH,↓reduceIte,qE,reduceCtorEq,if_pos,w64,↓RS,RG,qA,qM,qL,ty7,zck,za7,zaa,zcl,za8,zae,e1,zam,zar]
   refine za5 rfl ?_
   simp(disch:=omega)only[↓RU,RV,RH,↓reduceIte,qE,reduceCtorEq,if_pos,w64,↓RS,RG,qA,qM,qL,ty7,zck,za7,zaa,zcl,za8,zae,e1,zam,zar]
   refine za5 rfl ?_
   simp(disch:=omega)only[↓RU,RV,RH,↓reduceIte,qE,reduceCtorEq,if_pos,w64,↓RS,RG,qA,qM,qL,ty7,zck,za7,zaa,zcl,za8,zae,e1,zam,zar]
   refine za5 rfl ?_
   simp(disch:=omega)only[↓RU,RV,RH,↓reduceIte,qE,reduceCtorEq,if_pos,w64,↓RS,RG,qA,qM,qL,ty7,zck,za7,zaa,zcl,za8,zae,e1,zam,zar]
   refine zf5 ?_
   simp(disch:=omega)only[↓RU,RV,RH,↓reduceIte,qE,reduceCtorEq,if_pos,w64,↓RS,RG,qA,qM,qL,ty7,zck,za7,zaa,zcl,za8,zae,e1]
   apply hK;clear hK K
   refine W.r fun K hK=>?_
   cases hth:thL (zal p) t k
   ·skip
    simp(disch:=omega)only[↓RU,RV,RH,↓reduceIte,qE,reduceCtorEq,if_pos,qN,↓RS,RG,qA,qM,qL,ty7,zah,zck,zhi,za7,zaa,zcl,zhj,za8,zae,hgu,hth]
    refine zad.pc (zfa hgw (rP p) ht (level:=true) (line:=t.r+k) (by omega) (by simp; omega)) rfl (.inl rfl) ?_
    simp(disch:=omega)only[↓RU,RV,RH,↓reduceIte,qE,reduceCtorEq,if_pos,qN,↓RS,RG,qA,qM,qL,ty7,zah,zck,zhi,za7,zaa,zcl,zhj,za8,zae,hgu,hth]
    apply hK;clear hK K
    refine W.cond rfl (fun h1=>?_) (fun h1=>?_)
    ·try simp only[RL]at h1
     exact absurd h1 (by simp)
    try simp only[RL]at h1
    refine W.skip ?_
    refine XbN ?_
    refine xn ?_
    refine W.k fun K hK=>?_
    simp(disch:=omega)only[↓RU,RV,RH,↓reduceIte,qE,reduceCtorEq,if_pos,w64,↓RS,RG,qA,qM,qL,zaa,zae]
    apply hK;clear hK K
    refine xn ?_
    refine ⟨t.h - (k+1),by omega,4,k+1,_,rfl,by omega,by omega,fun j j1 j2=>?_,?_,?_,rfl⟩
    ·rcases Nat.lt_succ_iff_lt_or_eq.1 j2 with h | rfl
     ·exact hall2 j j1 h
     exact hth
    ·exact Nat.le_trans htk (Nat.le_add_right _ 2)
    simp [Env.put,Env.of]; omega
   skip
   have hq:zeb (zal p) t=some (true,k):=by unfold zeb; rw [zh5.2 hall,zfg.2 ⟨hk1,by omega,hth,hall2⟩]
   simp(disch:=omega)only[↓RU,RV,RH,↓reduceIte,qE,reduceCtorEq,if_pos,qN,↓RS,RG,qA,qM,qL,ty7,zah,zck,zhi,za7,zaa,zcl,zhj,za8,zae,hgu,hth]
   refine zad.pc (zfa hgw (rP p) ht (level:=true) (line:=t.r+k) (by omega) (by simp; omega)) rfl (.inl rfl) ?_
   simp(disch:=omega)only[↓RU,RV,RH,↓reduceIte,qE,reduceCtorEq,if_pos,qN,↓RS,RG,qA,qM,qL,ty7,zah,zck,zhi,za7,zaa,zcl,zhj,za8,zae,hgu,hth]
   refine ztp.ey (hy _ hq _ _ _ (Nat.le_trans htk (Nat.le_add_right _ 2))) ?_
   rintro _ _ ⟨rfl,tk3,rfl⟩
   simp(disch:=omega)only[↓RU,RV,RH,↓reduceIte,qE,reduceCtorEq,if_pos,qN,↓RS,RG,qA,qM,qL,ty7,zah,zck,zhi,za7,zaa,zcl,zhj,za8,zae,hgu,hth]
   apply hK;clear hK K
   refine W.cond rfl (fun h1=>?_) (fun h1=>?_)
   ·try simp only[RL]at h1
    refine W.ret ?_
    refine XBlock.ret ?_
    refine XThen.ret ?_
    refine XThen.ret ?_
    refine XBlock.ret ?_
    refine Br rfl ?_
    exact ⟨4,.inr ⟨_,_,hq,rfl⟩⟩
   try simp only[RL]at h1
   exact absurd h1 (by simp)
  simp(disch:=omega)only[↓RU,RV,RH,↓reduceIte,qE,reduceCtorEq,if_pos,↓RS,RG,qA,qM,qL,ty7,zck,za7,zaa,zcl,za8,zae]
  apply hK;clear hK K
  refine xn ?_
  refine W.r fun K hK=>?_
  simp(disch:=omega)only[↓RU,RV,RH,↓reduceIte,qE,reduceCtorEq,if_pos,w64,↓RS,RG,qA,qM,qL,ty7,zck,za7,zaa,zcl,za8,zae]
  apply hK;clear hK K
  refine W.seq_pk 11 [some 81,some 82,some 83,some 84,some 85,some 86] [5] (by decide) (by kernel_rfl) fun K hK=>?_
  simp only[List.take_succ_cons,List.take_zero,List.drop_succ_cons,List.drop_zero]
  refine za5 rfl ?_
  simp(disch:=omega)only[↓RU,RV,RH,↓reduceIte,qE,reduceCtorEq,if_pos,w64,↓RS,RG,qA,qM,qL,ty7,zck,za7,zaa,zcl,za8,zae,e1,zam,zar]
  refine zas (.ip [za3 (gP p) (rP p),.int .i64 t.r,.int .i64 t.c,.int .i64 t.h,.int .i64 t.w] 1) rfl rfl rfl (fun S' hS=>?_) ?_
  ·skip
   have k5:=(hS 5 (by decide)).trans (show _=some _ from rfl)
   simp(disch:=omega)only[↓RU,RV,RH,↓reduceIte,qE,reduceCtorEq,if_pos,w64,↓RS,RG,qA,qM,qL,ty7,zck,za7,zaa,zcl,za8,zae,e1,zb3,zcz,zec,zed,k5]
  refine zas (.ip [za3 (gP p) (rP p),.int .i64 t.r,.int .i64 t.c,.int .i64 t.h,.int .i64 t.w] 3) rfl rfl rfl (fun S' hS=>?_) ?_
  ·skip
   have k5:=(hS 5 (by decide)).trans (show _=some _ from rfl)
   simp(disch:=omega)only[↓RU,RV,RH,↓reduceIte,qE,reduceCtorEq,if_pos,w64,↓RS,RG,qA,qM,qL,ty7,zck,za7,zaa,zcl,za8,zae,e1,zb3,zcz,zec,zed,k5]
  refine zas (.int .i64 t.h) rfl rfl rfl (fun S' hS=>?_) ?_
  ·skip
   have k5:=(hS 5 (by decide)).trans (show _=some _ from rfl)
   simp(disch:=omega)only[↓RU,RV,RH,↓reduceIte,qE,reduceCtorEq,if_pos,w64,↓RS,RG,qA,qM,qL,ty7,zck,za7,zaa,zcl,za8,zae,e1,zb3,zcz,zec,zed,k5]
  refine zas (.ref 5 (tk2+1) 1) rfl rfl rfl (fun S' hS=>?_) ?_
  ·skip
   have k5:=(hS 5 (by decide)).trans (show _=some _ from rfl)
   simp(disch:=omega)only[↓RU,RV,RH,↓reduceIte,qE,reduceCtorEq,if_pos,w64,↓RS,RG,qA,qM,qL,ty7,zck,za7,zaa,zcl,za8,zae,e1,zb3,zcz,zec,zed,k5]
  refine zas (.ref 5 (tk2+1) 3) rfl rfl rfl (fun S' hS=>?_) ?_
  ·skip
   have k5:=(hS 5 (by decide)).trans (show _=some _ from rfl)
   simp(disch:=omega)only[↓RU,RV,RH,↓reduceIte,qE,reduceCtorEq,if_pos,w64,↓RS,RG,qA,qM,qL,ty7,zck,za7,zaa,zcl,za8,zae,e1,zb3,zcz,zec,zed,k5]
  refine zas (.int .i64 k) rfl rfl rfl (fun S' hS=>?_) ?_
  ·skip
   have k5:=(hS 5 (by decide)).trans (show _=some _ from rfl)
   simp(disch:=omega)only[↓RU,RV,RH,↓reduceIte,qE,reduceCtorEq,if_pos,w64,↓RS,RG,qA,qM,qL,ty7,zck,za7,zaa,zcl,za8,zae,e1,zb3,zcz,zec,zed,k5]
  refine za5 rfl ?_
  simp(disch:=omega)only[↓RU,RV,RH,↓reduceIte,qE,reduceCtorEq,if_pos,w64,↓RS,RG,qA,qM,qL,ty7,zck,za7,zaa,zcl,za8,zae,e1,zam,zar]
  refine za5 rfl ?_
  simp(disch:=omega)only[↓RU,RV,RH,↓reduceIte,qE,reduceCtorEq,if_pos,w64,↓RS,RG,qA,qM,qL,ty7,zck,za7,zaa,zcl,za8,zae,e1,zam,zar]
  refine za5 rfl ?_
  simp(disch:=omega)only[↓RU,RV,RH,↓reduceIte,qE,reduceCtorEq,if_pos,w64,↓RS,RG,qA,qM,qL,ty7,zck,za7,zaa,zcl,za8,zae,e1,zam,zar]
  refine za5 rfl ?_
  simp(disch:=omega)only[↓RU,RV,RH,↓reduceIte,qE,reduceCtorEq,if_pos,w64,↓RS,RG,qA,qM,qL,ty7,zck,za7,zaa,zcl,za8,zae,e1,zam,zar]
  refine zf5 ?_
  simp(disch:=omega)only[↓RU,RV,RH,↓reduceIte,qE,reduceCtorEq,if_pos,w64,↓RS,RG,qA,qM,qL,ty7,zck,za7,zaa,zcl,za8,zae,e1]
  apply hK;clear hK K
  refine W.r fun K hK=>?_
  cases hth:thL (zal p) t k
  ·skip
   simp(disch:=omega)only[↓RU,RV,RH,↓reduceIte,qE,reduceCtorEq,if_pos,qN,↓RS,RG,qA,qM,qL,ty7,zah,zck,zhi,za7,zaa,zcl,zhj,za8,zae,hgu,hth]
   refine zad.pc (zfa hgw (rP p) ht (level:=true) (line:=t.r+k) (by omega) (by simp; omega)) rfl (.inl rfl) ?_
   simp(disch:=omega)only[↓RU,RV,RH,↓reduceIte,qE,reduceCtorEq,if_pos,qN,↓RS,RG,qA,qM,qL,ty7,zah,zck,zhi,za7,zaa,zcl,zhj,za8,zae,hgu,hth]
   apply hK;clear hK K
   refine W.cond rfl (fun h1=>?_) (fun h1=>?_)
   ·try simp only[RL]at h1
    exact absurd h1 (by simp)
   try simp only[RL]at h1
   refine W.skip ?_
   refine XbN ?_
   refine xn ?_
   refine W.k fun K hK=>?_
   simp(disch:=omega)only[↓RU,RV,RH,↓reduceIte,qE,reduceCtorEq,if_pos,w64,↓RS,RG,qA,qM,qL,zaa,zae]
   apply hK;clear hK K
   refine xn ?_
   refine ⟨t.h - (k+1),by omega,4,k+1,_,rfl,by omega,by omega,fun j j1 j2=>?_,?_,?_,rfl⟩
   ·rcases Nat.lt_succ_iff_lt_or_eq.1 j2 with h | rfl
    ·exact hall2 j j1 h
    exact hth
   ·exact Nat.le_trans htk (Nat.le_add_right _ 2)
   simp [Env.put,Env.of]; omega
  skip
  have hq:zeb (zal p) t=some (true,k):=by unfold zeb; rw [zh5.2 hall,zfg.2 ⟨hk1,by omega,hth,hall2⟩]
  simp(disch:=omega)only[↓RU,RV,RH,↓reduceIte,qE,reduceCtorEq,if_pos,qN,↓RS,RG,qA,qM,qL,ty7,zah,zck,zhi,za7,zaa,zcl,zhj,za8,zae,hgu,hth]
  refine zad.pc (zfa hgw (rP p) ht (level:=true) (line:=t.r+k) (by omega) (by simp; omega)) rfl (.inl rfl) ?_
  simp(disch:=omega)only[↓RU,RV,RH,↓reduceIte,qE,reduceCtorEq,if_pos,qN,↓RS,RG,qA,qM,qL,ty7,zah,zck,zhi,za7,zaa,zcl,zhj,za8,zae,hgu,hth]
  refine ztp.ey (hy _ hq _ _ _ (Nat.le_trans htk (Nat.le_add_right _ 2))) ?_
  rintro _ _ ⟨rfl,tk3,rfl⟩
  simp(disch:=omega)only[↓RU,RV,RH,↓reduceIte,qE,reduceCtorEq,if_pos,qN,↓RS,RG,qA,qM,qL,ty7,zah,zck,zhi,za7,zaa,zcl,zhj,za8,zae,hgu,hth]
  apply hK;clear hK K
  refine W.cond rfl (fun h1=>?_) (fun h1=>?_)
  ·try simp only[RL]at h1
   refine W.ret ?_
   refine XBlock.ret ?_
   refine XThen.ret ?_
   refine XThen.ret ?_
   refine XBlock.ret ?_
   refine Br rfl ?_
   exact ⟨4,.inr ⟨_,_,hq,rfl⟩⟩
  try simp only[RL]at h1
  exact absurd h1 (by simp)
 try simp only[RL]at h
 obtain rfl:k=t.h:=by omega
 refine W.exit ?_
 refine xe ?_
 refine xe ?_
 refine XBlock.hit ?_
 refine zfe.norm rfl ?_
 exact ⟨4,.inl ⟨_,zr3.2 ⟨hall,hall2⟩,rfl⟩⟩
def ydh:PV := .agg [.bool false,.nilp,.int .i64 0,.int .i64 0,.int .i64 0,.int .i64 0,.nilp,.int .i64 0,.int .i64 0,.int .i64 0,.int .i64 0]
def zwa (p:List Txt) (t:Pt):PV:=match zeb (zal p) t with | some q => .tup [z0w (gP p) (rP p) t q,.bool true] | none => .tup [ydh,.bool false]
theorem z05 {p:List Txt} (hp:zbw p=true) {t:Pt} (ht:t.In p.length (zao p).length):PC Tryz.prog 114 [zik (gP p) (rP p) t.rect] (zwa p t) false:=by
 simp only[zik,Pt.rect,Rect.cells]
 refine PC.ofV ⟨Tryz.func114,by kernel_rfl,rfl,by kernel_rfl⟩ zap mixed (by show 1≤Tryz.f114.ntmps; decide) ?_
 refine V.seq_region fun K hK=>?_
 simp(disch:=omega)only[↓RU,RV,RH,↓reduceIte,qE,reduceCtorEq,if_pos,↓RS,RG,qA,qM,qL,ty7,zah,zck,zhi,za7,zaa,zcl,zhj,za8]
 apply hK;clear hK K
 refine V.seq ?_
 refine V.seq_region fun K hK=>?_
 simp(disch:=omega)only[↓RU,RV,RH,↓reduceIte,qE,reduceCtorEq,if_pos,qN,↓RS,RG,qA,qM,qL,ty7,zck,za7,zaa,zcl,za8]
 refine zad.pc (ycm (gP p) (rP p) t.rect) rfl (.inr rfl) ?_
 simp(disch:=omega)only[↓RU,RV,RH,↓reduceIte,qE,reduceCtorEq,if_pos,qN,↓RS,RG,qA,qM,qL,ty7,zck,za7,zaa,zcl,za8]
 apply hK;clear hK K
 refine V.block ?_
 refine V.rangeFunc [2,3] rfl fun l r hr hst hpd=>?_
 refine ⟨_,z9k hp ht l _ _ _ _ _ (fun q => .arr 1 123 11 [.bool q.1,za3 (gP p) (rP p),.int .i64 (t.one q).r,.int .i64 (t.one q).c,.int .i64 (t.one q).h,.int .i64 (t.one q).w,za3 (gP p) (rP p),.int .i64 (t.two q).r,.int .i64 (t.two q).c,.int .i64 (t.two q).h,.int .i64 (t.two q).w]) (fun _ => .arr 2 4 1 [.bool true]) (fun _ => .lp 3 l ({ r with state := .done,pending:=some .ret },[2,3]) [.ref 1 1 0,.ref 2 2 0]) (fun q hq x y tk2 htk=>?_),?_⟩
 ·refine Ey.of (o:=3) zap mixed rfl hr hst rfl ?_
  change W _ _ _ _ (Env.put (Env.of [2,3] [.ref 1 1 0,.ref 2 2 0]) (some 7) (.agg [.bool q.1,za3 (gP p) (rP p),.int .i64 (t.one q).r,.int .i64 (t.one q).c,.int .i64 (t.one q).h,.int .i64 (t.one q).w,za3 (gP p) (rP p),.int .i64 (t.two q).r,.int .i64 (t.two q).c,.int .i64 (t.two q).h,.int .i64 (t.two q).w])) _
  refine W.k fun K hK=>?_
  simp(disch:=omega)only[↓RU,RV,RH,↓reduceIte,qE,reduceCtorEq,if_pos,↓RS,RG,qA,qM,qL,ty7,zah,zck,zhi,za7,zaa,zcl,zhj,za8]
  apply hK;clear hK K
  refine xn ⟨_,_,_,_,rfl,hst,?_⟩
  simp only[List.set_cons_succ,List.set_cons_zero]
  refine W.block ?_
  refine W.r fun K hK=>?_
  simp(disch:=omega)only[↓RU,RV,RH,↓reduceIte,qE,reduceCtorEq,if_pos,↓RS,RG,qA,qM,qL,ty7,zah,zck,zhi,za7,zaa,zcl,zhj,za8]
  apply hK;clear hK K
  refine W.ret ?_
  refine XBlock.ret ?_
  exact ⟨_,_,_,_,6,rfl,rfl,_,rfl⟩
 rintro v S2 (⟨tk2,hq,rfl⟩ | ⟨q,tk2,hq,rfl⟩)
 ·skip
  refine ⟨_,_,_,_,.normal,rfl,by rw [hst]; simp,by rw [hpd]; rfl,?_⟩
  change XBlock _ _ _ _ ⟨[_,_,_],_⟩
  refine XbN ?_
  refine xn ?_
  refine W.v ?_
  refine W.r fun K hK=>?_
  simp(disch:=omega)only[↓RU,RV,RH,↓reduceIte,qE,reduceCtorEq,if_pos,↓RS,RG,qA,qM,qL,ty7,zah,zck,zhi,za7,zaa,zcl,zhj,za8]
  apply hK;clear hK K
  refine W.ret ?_
  refine Br rfl ?_
  simp only[zwa,hq]
  rfl
 skip
 refine ⟨_,_,_,_,.ret,rfl,by simp,rfl,?_⟩
 change XBlock _ _ _ _ ⟨[_,_,_],_⟩
 refine XBlock.ret ?_
 refine XThen.ret ?_
 refine Br rfl ?_
 simp only[zwa,hq]
 rfl
section
def zgp (ah:Nat→Nat) (n:Nat):Nat→List Int
 | 0=>List.replicate n 0
 | a+1=>(zgp ah n a).set (ah a) (a:Int)
theorem zic {ah:Nat→Nat} {n:Nat}:∀ k,(zgp ah n k).length=n
 | 0=>by simp [zgp]
 | k+1=>by simp [zgp,zic k]
theorem zqy {ah:Nat→Nat} {n:Nat} (hn:∀ a,a<n→ah a<n) (hi:∀ a b,a<n→b<n→ah a=ah b→a=b):∀ k,k≤n→∀ a,a<k→(zgp ah n k)[ah a]?=some (a:Int)
 | 0,_,a,h=>by omega
 | k+1,hk,a,h=>by
  unfold zgp
  rw [List.getElem?_set,zic]
  by_cases e:a=k
  ·subst e; rw [if_pos rfl,if_pos (hn a (by omega))]
  rw [if_neg fun q=>e (hi a k (by omega) (by omega) q.symm)]
  exact zqy hn hi k (by omega) a (by omega)
def rooms (n:Nat):List Int:=(List.range n).map fun i:Nat=>(i:Int)
theorem zq6 {n:Nat}:(rooms n).length=n:=by simp [rooms]
theorem zqg {n:Nat} {x:Int}:x∈rooms n↔0≤x∧x<n:=by
 unfold rooms
 rw [List.mem_map]
 constructor
 ·rintro ⟨i,hi,rfl⟩; simp at hi; omega
 rintro ⟨h1,h2⟩; exact ⟨x.toNat,by simp; omega,by omega⟩
theorem zux {n i:Nat} (h:i<n):(rooms n)[i]?=some (i:Int):=by simp [rooms,h]
theorem z4b {n:Nat}:rooms (n+1)=rooms n++[(n:Int)]:=by simp [rooms,qS]
theorem z4h {z:List Int} {g:Int→Int} (hs:(z.map g).Pairwise (· ≤ ·)) (hd:∀ (i j:Nat) x y,z[i]?=some x→z[j]?=some y→g x=g y→i=j) {i:Nat} {x:Int} (hx:z[i]?=some x):z.countP (fun y=>decide (g y<g x))=i:=by
 have hil:=zb0 hx
 have hp:=List.pairwise_iff_getElem.1 hs
 have lt:∀ (a b:Nat) u v,z[a]?=some u→z[b]?=some v→a<b→g u<g v:=by
  intro a b u v hu hv hab
  have h1:=zb0 hu
  have h2:=zb0 hv
  have h3:=hp a b (by simpa using h1) (by simpa using h2) hab
  simp only[List.getElem_map]at h3
  rw [List.getElem?_eq_getElem h1]at hu
  rw [List.getElem?_eq_getElem h2]at hv
  cases hu; cases hv
  rcases Int.lt_or_le (g z[a]) (g z[b]) with q | q
  ·exact q
  have e:=hd a b _ _ (List.getElem?_eq_getElem h1) (List.getElem?_eq_getElem h2) (by omega)
  omega
 have e:z=z.take i++z.drop i:=(List.take_append_drop i z).symm
 have c1:(z.take i).countP (fun y=>decide (g y<g x))=i:=by
  rw [List.countP_eq_length.2]
  ·rw [List.length_take]; omega
  intro y hy
  obtain ⟨j,hj⟩:=List.mem_iff_getElem?.1 hy
  rw [List.getElem?_take]at hj
  split at hj
  ·exact decide_eq_true (lt j i y x hj hx (by assumption))
  cases hj
 have c2:(z.drop i).countP (fun y=>decide (g y<g x))=0:=by
  rw [List.countP_eq_zero]
  intro y hy
  obtain ⟨j,hj⟩:=List.mem_iff_getElem?.1 hy
  rw [List.getElem?_drop]at hj
  by_cases q:j=0
  ·subst q; rw [Nat.add_zero,hx]at hj; cases hj; simp
  have:=lt i (i+j) x y hx hj (by omega)
  simp; omega
 rw [e,List.countP_append,c1,c2,Nat.add_zero]
theorem zns {f:Int→Bool}:∀ n,(rooms n).countP f=(List.range n).countP fun a:Nat=>f (a:Int)
 | 0=>rfl
 | n+1=>by rw [z4b,qS,List.countP_append,List.countP_append,zns n]; rfl
theorem zzn {n:Nat}:∀ (i j:Nat) x,(rooms n)[i]?=some x→(rooms n)[j]?=some x→i=j:=by
 intro i j x hi hj
 have h1:=zb0 hi
 have h2:=zb0 hj
 rw [zq6]at h1 h2
 rw [zux h1]at hi
 rw [zux h2]at hj
 cases hi; cases hj; rfl
theorem zqi {z:List Int} (h:z.Nodup) {i j:Nat} (hi:i<z.length) (hj:j<z.length) (e:z[i]=z[j]):i=j:=by
 unfold List.Nodup at h
 rw [List.pairwise_iff_getElem]at h
 rcases Nat.lt_trichotomy i j with q | q | q
 ·exact absurd e (h i j hi hj q)
 ·exact q
 exact absurd e.symm (h j i hj hi q)
theorem zqk (n:Nat):(rooms n).Nodup:=by
 unfold List.Nodup
 rw [List.pairwise_iff_getElem]
 intro i j hi hj hij e
 have:=zzn i j _ (List.getElem?_eq_getElem hi) (e ▸ List.getElem?_eq_getElem hj)
 omega
section
variable {n:Nat} {f:Nat→Nat}
theorem zvj (hf:∀ a b,a<n→b<n→f a=f b→a=b) {a b:Nat} (ha:a<n) (hb:b<n) (h:ahead n f a=ahead n f b):a=b:=by
 rcases Nat.lt_trichotomy (f a) (f b) with q | q | q
 ·have:=zon (n:=n) ha q; omega
 ·exact hf a b ha hb q
 have:=zon (n:=n) hb q; omega
theorem z4i (hf:∀ a b,a<n→b<n→f a=f b→a=b) {z:List Int} (hp:z.Perm (rooms n)) (hs:(z.map fun x=>((f x.toNat:Nat):Int)).Pairwise (· ≤ ·)):z=zgp (ahead n f) n n:=by
 have hl:=hp.length_eq
 rw [zq6]at hl
 have hm:∀ x∈z,0≤x∧x<n:=fun x hx=>zqg.1 (hp.mem_iff.1 hx)
 have hd:∀ (i j:Nat) x y,z[i]?=some x→z[j]?=some y→((f x.toNat:Nat):Int)=((f y.toNat:Nat):Int)→i=j:=by
  intro i j x y hx hy e
  have h1:=hm x (List.mem_of_getElem? hx)
  have h2:=hm y (List.mem_of_getElem? hy)
  have e2:=hf x.toNat y.toNat (by omega) (by omega) (by omega)
  have e3:x=y:=by omega
  subst e3
  have hnd:z.Nodup:=hp.nodup_iff.2 (zqk n)
  have hi:=zb0 hx
  have hj:=zb0 hy
  rw [List.getElem?_eq_getElem hi]at hx
  rw [List.getElem?_eq_getElem hj]at hy
  exact zqi hnd hi hj ((Option.some.inj hx).trans (Option.some.inj hy).symm)
 apply List.ext_getElem?
 intro i
 by_cases hi:i<n
 ·obtain ⟨x,hx,hxm⟩:=zag (show i<z.length by omega)
  have h1:=hm x hxm
  have e:=z4h hs hd hx
  rw [hp.countP_eq,zns]at e
  have e2:ahead n f x.toNat=i:=by
   unfold ahead
   rw [← e]
   apply List.countP_congr
   intro a ha
   simp
  have:=zqy (fun a ha=>zyp (rk:=f) ha) (fun a b ha hb h=>zvj hf ha hb h) n (qR _) x.toNat (by omega)
  rw [e2]at this
  rw [hx,this,show ((x.toNat:Nat):Int)=x by omega]
 rw [List.getElem?_eq_none (by omega),List.getElem?_eq_none (by rw [zic]; omega)]
end
def bf1 (p:List Txt) (a b:Nat):Bool:=zc2 (lfM p) a b || zc2 (abM p) a b
def bf2 (p:List Txt) (a b:Nat):Bool:=zc2 (lfM p) a b || zc2 (abM p) b a
def bfK (p:List Txt) (below:Bool) (a b:Nat):Bool:=if below then bf2 p a b else bf1 p a b
def ahK (p:List Txt) (below:Bool) (a:Nat):Nat:=(List.range (rP p).length).countP fun b=>bfK p below b a
theorem zkp {p:List Txt} (hp:zbo p=true) (below:Bool):∃ f:Nat→Nat,(∀ a b,a<(rP p).length→b<(rP p).length→(bfK p below a b=true↔f a<f b))∧∀ a b,a<(rP p).length→b<(rP p).length→f a=f b→a=b:=by
 obtain ⟨f,g,hfg⟩:=zk0 hp
 have tot:=fun a b ha hb hne=>z3u (a:=a) (b:=b) hp ha hb hne
 cases below with
 | false =>
  have h1:∀ a b,a<(rP p).length→b<(rP p).length→bfK p false a b=true→f a<f b:=by
   intro a b ha hb h
   simp only[bfK,bf1,qF,if_false,Bool.or_eq_true]at h
   rcases h with h | h
   ·exact ((hfg a b ha hb).1 h).1
   exact ((hfg a b ha hb).2 h).1
  have h2:∀ a b,a<(rP p).length→b<(rP p).length→a≠b→bfK p false a b=true∨bfK p false b a=true:=by
   intro a b ha hb hne
   simp only[bfK,bf1,qF,if_false,Bool.or_eq_true]
   rcases tot a b ha hb hne with h | h | h | h
   ·exact .inl (.inl h)
   ·exact .inr (.inl h)
   ·exact .inl (.inr h)
   exact .inr (.inr h)
  have h3:∀ a b,a<(rP p).length→b<(rP p).length→f a=f b→a=b:=by
   intro a b ha hb e
   refine Classical.byContradiction fun hne=>?_
   rcases h2 a b ha hb hne with h | h
   ·have:=h1 a b ha hb h; omega
   have:=h1 b a hb ha h; omega
  refine ⟨f,fun a b ha hb=>⟨h1 a b ha hb,fun h=>?_⟩,h3⟩
  rcases h2 a b ha hb (by rintro rfl; omega) with k | k
  ·exact k
  have:=h1 b a hb ha k; omega
 | true =>
  have h1:∀ a b,a<(rP p).length→b<(rP p).length→bfK p true a b=true→g a<g b:=by
   intro a b ha hb h
   simp only[bfK,bf2,if_true,Bool.or_eq_true]at h
   rcases h with h | h
   ·exact ((hfg a b ha hb).1 h).2
   exact ((hfg b a hb ha).2 h).2
  have h2:∀ a b,a<(rP p).length→b<(rP p).length→a≠b→bfK p true a b=true∨bfK p true b a=true:=by
   intro a b ha hb hne
   simp only[bfK,bf2,if_true,Bool.or_eq_true]
   rcases tot a b ha hb hne with h | h | h | h
   ·exact .inl (.inl h)
   ·exact .inr (.inl h)
   ·exact .inr (.inr h)
   exact .inl (.inr h)
  have h3:∀ a b,a<(rP p).length→b<(rP p).length→g a=g b→a=b:=by
   intro a b ha hb e
   refine Classical.byContradiction fun hne=>?_
   rcases h2 a b ha hb hne with h | h
   ·have:=h1 a b ha hb h; omega
   have:=h1 b a hb ha h; omega
  refine ⟨g,fun a b ha hb=>⟨h1 a b ha hb,fun h=>?_⟩,h3⟩
  rcases h2 a b ha hb (by rintro rfl; omega) with k | k
  ·exact k
  have:=h1 b a hb ha k; omega
theorem zpe {p:List Txt} {below:Bool} {f:Nat→Nat} (hf:∀ a b,a<(rP p).length→b<(rP p).length→(bfK p below a b=true↔f a<f b)) {a:Nat} (ha:a<(rP p).length):ahK p below a=ahead (rP p).length f a:=by
 unfold ahK ahead
 apply List.countP_congr
 intro b hb
 rw [hf b a (by simpa using hb) ha]; simp
theorem zoc {f g:Nat→Nat} {n:Nat}:∀ k,(∀ a,a<k→f a=g a)→zgp f n k=zgp g n k
 | 0,_=>rfl
 | k+1,h=>by unfold zgp; rw [zoc k fun a ha=>h a (by omega),h k (by omega)]
def srt (p:List Txt) (below:Bool):List Int:=zgp (ahK p below) (rP p).length (rP p).length
theorem ziu {p:List Txt} {below:Bool}:(srt p below).length=(rP p).length:=zic _
theorem z8h {p:List Txt} {below:Bool} {f:Nat→Nat} (hf:∀ a b,a<(rP p).length→b<(rP p).length→(bfK p below a b=true↔f a<f b)) (hi:∀ a b,a<(rP p).length→b<(rP p).length→f a=f b→a=b)
  {z:List Int} (hz:z.Perm (rooms (rP p).length)) (hs:(z.map fun x=>((f x.toNat:Nat):Int)).Pairwise (· ≤ ·)):z=srt p below:=by
 rw [z4i hi hz hs]
 exact (zoc _ fun a ha=>zpe hf ha).symm
end
section
def ziz (row:Txt) (l:Nat) (c:UInt8) (k:Nat):Txt:=(List.range row.length).map fun x=>if l≤x∧x<k then c else row.getD x 0
theorem zj5 {row:Txt} {l k:Nat} {c:UInt8}:(ziz row l c k).length=row.length:=by simp [ziz]
theorem zzp {row:Txt} {l:Nat} {c:UInt8}:ziz row l c l=row:=by
 apply List.ext_getElem?
 intro j
 unfold ziz
 rw [List.getElem?_map]
 by_cases hj:j<row.length
 ·rw [List.getElem?_range hj,qO,if_neg (by omega),List.getD_eq_getElem?_getD,List.getElem?_eq_getElem hj]; rfl
 rw [List.getElem?_eq_none (by simpa using hj),List.getElem?_eq_none (by omega)]; rfl
theorem zzo {row:Txt} {l k:Nat} {c:UInt8} (h1:l≤k) (h2:k<row.length):(ziz row l c k).set k c=ziz row l c (k+1):=by
 apply List.ext_getElem?
 intro j
 rw [List.getElem?_set,zj5]
 unfold ziz
 rw [List.getElem?_map,List.getElem?_map]
 by_cases hj:j<row.length
 ·rw [List.getElem?_range hj,qO,qO]
  by_cases e:k=j
  ·subst e; rw [if_pos rfl,if_pos h2,if_pos (by omega)]
  rw [if_neg e]
  by_cases q:l≤j∧j<k
  ·rw [if_pos q,if_pos (by omega)]
  rw [if_neg q,if_neg (by omega)]
 rw [if_neg (by omega),List.getElem?_eq_none (by simpa using hj)]; rfl
def zjl (p:List Txt) (t l w:Nat) (c:UInt8) (i:Nat):List Txt:=(List.range p.length).map fun j=>if t≤j∧j<i then ziz (p.getD j []) l c (l+w) else p.getD j []
theorem zha {p:List Txt} {t l w i:Nat} {c:UInt8}:(zjl p t l w c i).length=p.length:=by simp [zjl]
theorem yab {p:List Txt} {t l w i:Nat} {c:UInt8} {row:Txt} (h:p[i]?=some row):(zjl p t l w c i)[i]?=some row:=by
 have hi:=zb0 h
 unfold zjl
 rw [List.getElem?_map,List.getElem?_range hi,qO,if_neg (by omega),List.getD_eq_getElem?_getD,h]; rfl
theorem z32 {p:List Txt} {t l w:Nat} {c:UInt8}:zjl p t l w c t=p:=by
 apply List.ext_getElem?
 intro j
 unfold zjl
 rw [List.getElem?_map]
 by_cases hj:j<p.length
 ·rw [List.getElem?_range hj,qO,if_neg (by omega),List.getD_eq_getElem?_getD,List.getElem?_eq_getElem hj]; rfl
 rw [List.getElem?_eq_none (by simpa using hj),List.getElem?_eq_none (by omega)]; rfl
theorem z31 {p:List Txt} {t l w i:Nat} {c:UInt8} {row:Txt} (h1:t≤i) (h:p[i]?=some row):(zjl p t l w c i).set i (ziz row l c (l+w))=zjl p t l w c (i+1):=by
 have hi:=zb0 h
 apply List.ext_getElem?
 intro j
 rw [List.getElem?_set,zha]
 unfold zjl
 rw [List.getElem?_map,List.getElem?_map]
 by_cases hj:j<p.length
 ·rw [List.getElem?_range hj,qO,qO]
  by_cases e:i=j
  ·subst e; rw [if_pos rfl,if_pos hi,if_pos (by omega),List.getD_eq_getElem?_getD,h]; rfl
  rw [if_neg e]
  by_cases q:t≤j∧j<i
  ·rw [if_pos q,if_pos (by omega)]
  rw [if_neg q,if_neg (by omega)]
 rw [if_neg (by omega),List.getElem?_eq_none (by simpa using hj)]; rfl
theorem zul {p:List Txt} (hs:Sm p) {t l w i:Nat} {c:UInt8}:Sm (zjl p t l w c i):=by
 refine ⟨by rw [zha]; exact hs.1,fun r hr=>?_⟩
 obtain ⟨j,hj,rfl⟩:=List.mem_map.1 hr
 have hjl:j<p.length:=by simpa using hj
 have hm:p.getD j []∈p:=by
  rw [List.getD_eq_getElem?_getD,List.getElem?_eq_getElem hjl]; exact List.getElem_mem hjl
 have:=hs.2 _ hm
 split
 ·rw [zj5]; exact this
 exact this
def zi1 (p:List Txt):List Txt × Bool:=if zc4 p && zbw (names p) then (names p,true) else ([],false)
theorem z6p {p:List Txt} (hg:zc4 p=true):(names p).length=p.length:=by
 rw [zm9 hg]
 have hr:(gP p).length=p.length:=by rw [z3e]; exact zc3 _
 unfold zfy
 rw [List.length_map,hr]
theorem z0t {p:List Txt} (h:(zi1 p).2=true):zbw (zi1 p).1=true∧(zi1 p).1.length=p.length:=by
 unfold zi1 at h ⊢
 split at h
 ·rename_i hq
  rw [if_pos hq]
  simp only[qB]at hq
  exact ⟨hq.2,z6p hq.1⟩
 cases h
def zfq (p:List Txt) (room:Int) (s:Txt) (k:Int):List Txt × Bool :=
 if zbw p && (decide (0≤room) && decide (room≤za2 p - 1)) then
  if (s == [104]) && (decide (1≤k) && decide (k≤zd9 p room - 1)) then zi1 (zjl p ((zg3 p room).top+k).toNat (zg3 p room).left.toNat (zd0 p room).toNat 122 ((zg3 p room).top+k+(zd9 p room - k)).toNat)
  else if (s == [118]) && (decide (1≤k) && decide (k≤zd0 p room - 1)) then zi1 (zjl p (zg3 p room).top.toNat ((zg3 p room).left+k).toNat (zd0 p room - k).toNat 122 ((zg3 p room).top+zd9 p room).toNat)
  else ([],false)
 else ([],false)
theorem zya {p:List Txt} {room k:Int} {s:Txt} (h:(zfq p room s k).2=true):zbw (zfq p room s k).1=true∧(zfq p room s k).1.length=p.length:=by
 unfold zfq at h ⊢
 by_cases h1:(zbw p && (decide (0≤room) && decide (room≤za2 p - 1)))=true
 ·rw [if_pos h1]at h ⊢
  by_cases h2:((s == [104]) && (decide (1≤k) && decide (k≤zd9 p room - 1)))=true
  ·rw [if_pos h2]at h ⊢
   have:=z0t h
   rw [zha]at this
   exact this
  rw [if_neg h2]at h ⊢
  by_cases h3:((s == [118]) && (decide (1≤k) && decide (k≤zd0 p room - 1)))=true
  ·rw [if_pos h3]at h ⊢
   have:=z0t h
   rw [zha]at this
   exact this
  rw [if_neg h3]at h; cases h
 rw [if_neg h1]at h; cases h
section
variable {p:List Txt} {room:Int} {s:Txt} {t l h w k:Nat}
theorem zhs {k:Int} (hgv:(zbw p && (decide (0≤room) && decide (room≤za2 p - 1)))=false):zfq p room s k=([],false):=by
 unfold zfq; rw [hgv]; rfl
theorem zgb {k:Int} (h1:((s == [104]) && (decide (1≤k) && decide (k≤zd9 p room - 1)))=false) (h2:((s == [118]) && (decide (1≤k) && decide (k≤zd0 p room - 1)))=false):zfq p room s k=([],false):=by
 unfold zfq; rw [h1,h2]; split <;> rfl
theorem zht (hgv:(zbw p && (decide (0≤room) && decide (room≤za2 p - 1)))=true) (e1:(zg3 p room).top=t) (e2:(zg3 p room).left=l) (e3:zd9 p room=h) (e4:zd0 p room=w)
  (hb:((s == [104]) && (decide (1≤(k:Int)) && decide ((k:Int)≤zd9 p room - 1)))=true):zfq p room s k=zi1 (zjl p (t+k) l w 122 (t+k+(h - k))):=by
 have hk:(k:Int)≤h - 1:=by simp only[qB,decide_eq_true_eq,e3]at hb; exact hb.2.2
 unfold zfq
 rw [if_pos hgv,if_pos hb,e1,e2,e3,e4]
 have a1:((t:Int)+(k:Int)).toNat=t+k:=by omega
 have a2:((t:Int)+(k:Int)+((h:Int) - (k:Int))).toNat=t+k+(h - k):=by omega
 rw [a1,a2,Int.toNat_natCast,Int.toNat_natCast]
theorem zhu (hgv:(zbw p && (decide (0≤room) && decide (room≤za2 p - 1)))=true) (e1:(zg3 p room).top=t) (e2:(zg3 p room).left=l) (e3:zd9 p room=h) (e4:zd0 p room=w)
  (ha:((s == [104]) && (decide (1≤(k:Int)) && decide ((k:Int)≤zd9 p room - 1)))=false) (hb:((s == [118]) && (decide (1≤(k:Int)) && decide ((k:Int)≤zd0 p room - 1)))=true):zfq p room s k=zi1 (zjl p t (l+k) (w - k) 122 (t+h)):=by
 have hk:(k:Int)≤w - 1:=by simp only[qB,decide_eq_true_eq,e4]at hb; exact hb.2.2
 unfold zfq
 rw [if_pos hgv,ha,if_neg Bool.false_ne_true,if_pos hb,e1,e2,e3,e4]
 have a1:((l:Int)+(k:Int)).toNat=l+k:=by omega
 have a2:((t:Int)+(h:Int)).toNat=t+h:=by omega
 have a3:((w:Int) - (k:Int)).toNat=w - k:=by omega
 rw [a1,a2,a3,Int.toNat_natCast]
end
theorem z98 {p:List Txt} (hp:zbw p=true) {room:Int} (h0:0≤room) (h1:room≤za2 p - 1):∃ t l h w:Nat,(zg3 p room).top=t∧(zg3 p room).left=l∧zd9 p room=h∧zd0 p room=w∧1≤h∧1≤w∧t+h≤p.length∧l+w≤(zao p).length:=by
 have hN:=zc6 hp
 have hr:=hN.rooms
 obtain ⟨m,rfl⟩:∃ m:Nat,room=m:=⟨room.toNat,by omega⟩
 have hm:m<(rP p).length:=by omega
 obtain ⟨b,hb,-⟩:=zag hm
 have hi:=zgu p
 obtain ⟨v,hv,-⟩:=zag (show m<(keys p).length by rw [← hi.len]; exact hm)
 obtain ⟨e1,e2,e3,e4⟩:=hN.box hb
 obtain ⟨t,l,h,w,q1,q2,q3,q4,q5,q6,q7,q8,-⟩:=Hull.nat (hi.hull m v b hv hb)
 exact ⟨t,l,h,w,by omega,by omega,by omega,by omega,q5,q6,q7,q8⟩
theorem z75 {p:List Txt} (hp:zbw p=true) {i:Nat} {row:Txt} (h:p[i]?=some row):row.length=(zao p).length:=zdt (zeu hp) h
theorem znc {p:List Txt} (hp:zbw p=true):p.length≤6∧1≤p.length∧∀ row∈p,1≤row.length∧row.length≤6:=by
 have hg:=zeu hp
 have h:=zce hg
 refine ⟨h.2.1,h.1,fun row hr=>⟨?_,h.2.2 row hr⟩⟩
 obtain ⟨i,hi,rfl⟩:=List.getElem_of_mem hr
 exact zfk hg (List.getElem?_eq_getElem hi)
end
theorem yfd {p:List Txt}:zwm (gP p) p.length (w0 (zcf p)) (rP p).length=lfM p:=by rw [zh3]; rfl
theorem yel {p:List Txt}:znn (gP p) p.length (w0 (zcf p)) (rP p).length=abM p:=by rw [zh3]; rfl
theorem ybt {p:List Txt} (h:zds p=true):Sq (rP p).length (lfM p):=by
 obtain ⟨-,⟨_,hu⟩,-⟩:=zuj h
 rw [yfd]at hu; exact hu.sq
theorem ybc {p:List Txt} (h:zds p=true):Sq (rP p).length (abM p):=by
 obtain ⟨-,-,⟨_,hu⟩⟩:=zuj h
 rw [yel]at hu; exact hu.sq
theorem zze {p:List Txt} (hs:Sm p) (hv:zds p=false):PC Tryz.prog 38 [zav p] (.tup [.agg [.sl [] 0,.sl [] 0],.bool false]) false:=by
 obtain ⟨x,hx,hxy,hxr⟩:=zs0 hs
 refine PC.of ⟨Tryz.func38,by kernel_rfl,rfl,by kernel_rfl⟩ zap mixed (by show 1≤Tryz.f38.ntmps; decide) ?_
 refine W.r fun K hK=>?_
 simp(disch:=omega)only[↓RU,RV,RH,↓reduceIte,qE,reduceCtorEq,if_pos,↓RS,RG,qA,qM,qL,ty0,ty2,zah,zgx,ze0,zgy]
 apply hK;clear hK K
 refine W.r fun K hK=>?_
 simp(disch:=omega)only[↓RU,RV,RH,↓reduceIte,qE,reduceCtorEq,if_pos,qN,↓RS,RG,qA,qM,qL,hv]
 refine zad.pc (hx) rfl (.inr rfl) ?_
 simp(disch:=omega)only[↓RU,RV,RH,↓reduceIte,qE,reduceCtorEq,if_pos,qN,↓RS,RG,qA,qM,qL,hv]
 apply hK;clear hK K
 refine W.seq ?_
 refine W.r fun K hK=>?_
 simp(disch:=omega)only[↓RU,RV,RH,↓reduceIte,qE,reduceCtorEq,if_pos,↓RS,RG,qA,qM,qL]
 apply hK;clear hK K
 refine W.cond rfl (fun h=>?_) (fun h=>?_)
 ·try simp only[RL]at h
  refine W.r fun K hK=>?_
  simp(disch:=omega)only[↓RU,RV,RH,↓reduceIte,qE,reduceCtorEq,if_pos,↓RS,RG,qA,qM,qL,ty0,ty2,zah,zgx,ze0,zgy]
  apply hK;clear hK K
  refine W.ret ?_
  refine XThen.ret ?_
  refine Br rfl ?_
  rfl
 try simp only[RL]at h
 exact absurd h (by simp)
theorem zw0 {p:List Txt} (hs:Sm p) (hv:zds p=true):PC Tryz.prog 38 [zav p] (.tup [(.agg [zhn (lfM p),zhn (abM p)]),.bool true]) false:=by
 obtain ⟨x,hx,hxy,hxr⟩:=zs0 hs
 obtain rfl:=hxy hv
 obtain ⟨hrm,-,-⟩:=zuj hv
 have hok:=(zjk hv).1
 have hg:=z1j hok
 have hn9:=zji hok
 have hn1:=zh9 hok
 refine PC.of ⟨Tryz.func38,by kernel_rfl,rfl,by kernel_rfl⟩ zap mixed (by show 1≤Tryz.f38.ntmps; decide) ?_
 refine W.r fun K hK=>?_
 simp(disch:=omega)only[↓RU,RV,RH,↓reduceIte,qE,reduceCtorEq,if_pos,↓RS,RG,qA,qM,qL,ty0,ty2,zah,zgx,ze0,zgy]
 apply hK;clear hK K
 refine W.r fun K hK=>?_
 simp(disch:=omega)only[↓RU,RV,RH,↓reduceIte,qE,reduceCtorEq,if_pos,qN,↓RS,RG,qA,qM,qL,hv]
 refine zad.pc (hx) rfl (.inr rfl) ?_
 simp(disch:=omega)only[↓RU,RV,RH,↓reduceIte,qE,reduceCtorEq,if_pos,qN,↓RS,RG,qA,qM,qL,hv]
 apply hK;clear hK K
 refine W.seq ?_
 refine W.r fun K hK=>?_
 simp(disch:=omega)only[↓RU,RV,RH,↓reduceIte,qE,reduceCtorEq,if_pos,↓RS,RG,qA,qM,qL]
 apply hK;clear hK K
 refine W.cond rfl (fun h=>?_) (fun h=>?_)
 ·try simp only[RL]at h
  exact absurd h (by simp)
 try simp only[RL]at h
 refine W.skip ?_
 refine xn ?_
 refine W.r fun K hK=>?_
 simp(disch:=omega)only[↓RU,RV,RH,↓reduceIte,qE,reduceCtorEq,if_pos,qN,↓RS,RG,qA,qM,qL,ty0,ty2,zah,zgx,ze0,zgy]
 refine zad.pc (z64 hg rfl hn9 hrm) rfl (.inl rfl) ?_
 simp(disch:=omega)only[↓RU,RV,RH,↓reduceIte,qE,reduceCtorEq,if_pos,qN,↓RS,RG,qA,qM,qL,ty0,ty2,zah,zgx,ze0,zgy]
 apply hK;clear hK K
 refine W.ret ?_
 refine Br rfl ?_
 rw [yfd,yel]
 rfl
theorem z3f {F R:List Ob} {ver t:Nat} {l:List Int} {f:FuncId} {cs:List PV} {cm:Int→Int→Int} {g:Int→Int} (hf:∀ x y,x∈l→y∈l→PC Tryz.prog f [.int .i64 x,.int .i64 y,.ip cs 0] (.int .i64 (cm x y)) true) (hg:∀ x y,x∈l→y∈l→(cm x y<0↔g x<g y)) (hl:l.length<2147483648) (h1:1≤l.length):Ev Tryz.prog 119 [.loc F.length ver 0 l.length,.int .i64 0,.int .i64 l.length,.fn f [.ip cs 0]] ⟨F ++ .arr ver 3 1 (l.map (.int .i64))::R,t⟩ fun v S=>v = .tup []∧∃ z:List Int,z.Perm l∧(z.map g).Pairwise (· ≤ ·)∧S=⟨F ++ .arr ver 3 1 (z.map (.int .i64))::R,t⟩:=by
 refine Ev.of ⟨Tryz.func119,by kernel_rfl,rfl,by kernel_rfl⟩ zap mixed (by show 4≤Tryz.f119.ntmps; decide) ?_
 refine W.r fun K hK=>?_
 simp(disch:=omega)only[↓RU,RV,RH,↓reduceIte,qE,reduceCtorEq,if_pos,w64,↓RS,RG,qA,qM,qL,zaa,gF,zd1]
 apply hK;clear hK K
 refine W.block ?_
 refine W.loop [0,1,2,3,8] (fun n vs S=>∃ (i:Nat) (c:List Int),n=l.length - i∧1≤i∧i≤l.length∧c.Perm l∧Ord (c.map g) i∧vs=[.loc F.length ver 0 l.length,.int .i64 0,.int .i64 l.length,.fn f [.ip cs 0],.int .i64 i]∧S=⟨F ++ .arr ver 3 1 (c.map (.int .i64))::R,t⟩) (l.length - 1) ?_ ?_
 ·refine ⟨_,1,l,rfl,qR _,h1,List.Perm.refl _,Ord.one _,?_,zak⟩
  simp [Env.put,Env.of,zaf]
 rintro n vs S - ⟨i,c,rfl,hi1,h_i,hp,ho,rfl,rfl⟩
 refine W.seq ?_
 refine W.r fun K hK=>?_
 simp(disch:=omega)only[↓RU,RV,RH,↓reduceIte,qE,reduceCtorEq,if_pos,w64,↓RS,RG,qA,qM,qL,zaa,gF,zd1]
 apply hK;clear hK K
 refine W.cond rfl (fun h=>?_) (fun h=>?_)
 ·try simp only[RL]at h
  refine W.skip ?_
  refine xn ?_
  refine W.seq ?_
  refine W.block ?_
  refine W.r fun K hK=>?_
  simp(disch:=omega)only[↓RU,RV,RH,↓reduceIte,qE,reduceCtorEq,if_pos,↓RS,RG,qA,qM,qL,gF,zd1]
  apply hK;clear hK K
  refine W.block ?_
  refine W.loop [0,1,2,3,8,9] (fun n vs S=>∃ (j:Nat) (d:List Int),n=j+1∧j≤i∧d.Perm l∧z80 (d.map g) j i∧vs=[.loc F.length ver 0 l.length,.int .i64 0,.int .i64 l.length,.fn f [.ip cs 0],.int .i64 i,.int .i64 j]∧S=⟨F ++ .arr ver 3 1 (d.map (.int .i64))::R,t⟩) (i+1) ?_ ?_
  ·refine ⟨_,i,c,rfl,qR _,hp,ho.ins,?_,zak⟩
   simp [Env.put,Env.of]
  rintro n vs S - ⟨j,d,rfl,h_j,hq,hO,rfl,rfl⟩
  refine W.seq ?_
  refine W.seq_draw (by kernel_rfl) fun K hK=>?_
  cases hd:decide ((j:Int)>0)
  ·skip
   obtain rfl:j=0:=by simpa using hd
   simp(disch:=omega)only[↓RU,RV,RH,↓reduceIte,qE,reduceCtorEq,if_pos,w64,qN,↓RS,RG,qA,qM,qL,zab,zaa,gF,zd1,hd]
   apply hK;clear hK K
   refine W.cond rfl (fun h2=>?_) (fun h2=>?_)
   ·try simp only[RL]at h2
    exact absurd h2 (by simp)
   try simp only[RL]at h2
   have hO2:Ord (d.map g) (i+1):=hO.zero
   refine W.exit ?_
   refine xe ?_
   refine xe ?_
   refine XBlock.hit ?_
   refine XbN ?_
   refine xn ?_
   refine W.k fun K hK=>?_
   simp(disch:=omega)only[↓RU,RV,RH,↓reduceIte,qE,reduceCtorEq,if_pos,w64,↓RS,RG,qA,qM,qL,zaa,gF,zd1]
   apply hK;clear hK K
   refine xn ?_
   refine ⟨l.length - (i+1),by omega,_,i+1,d,rfl,by omega,by omega,hq,hO2,?_,zak⟩
   simp [Env.put,Env.of]
  ·skip
   have hj0:j≠0:=by have:=of_decide_eq_true hd; omega
   have hdl:=hq.length_eq
   obtain ⟨x,hx,hxm⟩:=zag (show j<d.length by omega)
   obtain ⟨y,hy,hym⟩:=zag (show j - 1<d.length by omega)
   have hxl:=hq.mem_iff.1 hxm
   have hyl:=hq.mem_iff.1 hym
   have hxg:(d.map g)[j]?=some (g x):=by rw [List.getElem?_map,hx]; rfl
   have hyg:(d.map g)[j - 1]?=some (g y):=by rw [List.getElem?_map,hy]; rfl
   simp(disch:=omega)only[↓RU,RV,RH,↓reduceIte,qE,reduceCtorEq,if_pos,w64,qN,↓RS,RG,qA,qM,qL,zab,zaa,gF,zd1,hd,hx,hy,zbl]
   refine zad.pc (hf x y hxl hyl) rfl (.inl rfl) ?_
   simp(disch:=omega)only[↓RU,RV,RH,↓reduceIte,qE,reduceCtorEq,if_pos,w64,qN,↓RS,RG,qA,qM,qL,zab,zaa,gF,zd1,hd,hx,hy,zbl]
   apply hK;clear hK K
   refine W.cond rfl (fun h2=>?_) (fun h2=>?_)
   ·try simp only[RL]at h2
    have hjl:=zb0 hx
    have hsl:(d.set j y).length=d.length:=by simp
    refine W.skip ?_
    refine xn ?_
    refine W.seq ?_
    refine W.block ?_
    refine W.draw_k (by kernel_rfl) fun K hK=>?_
    simp(disch:=omega)only[↓RU,RV,RH,↓reduceIte,qE,reduceCtorEq,if_pos,w64,↓RS,RG,qA,qM,qL,zab,zaa,gF,zd1,hx,hy,zbl,zb5,zd6,List.length_set]
    apply hK;clear hK K
    refine XbN ?_
    refine xn ?_
    refine W.k fun K hK=>?_
    simp(disch:=omega)only[↓RU,RV,RH,↓reduceIte,qE,reduceCtorEq,if_pos,w64,↓RS,RG,qA,qM,qL,zaa,gF,zd1]
    apply hK;clear hK K
    refine xn ?_
    refine ⟨j - 1+1,by omega,_,j - 1,(d.set j y).set (j - 1) x,rfl,by omega,zyd hq hx hy,by rw [List.map_set,List.map_set]; exact hO.swap hj0 h_j hxg hyg ((hg x y hxl hyl).1 h2),?_,zak⟩
    simp [Env.put,Env.of]; omega
   try simp only[RL]at h2
   have hO2:Ord (d.map g) (i+1):=hO.stop hxg hyg (fun q=>h2 ((hg x y hxl hyl).2 q))
   refine W.exit ?_
   refine xe ?_
   refine xe ?_
   refine XBlock.hit ?_
   refine XbN ?_
   refine xn ?_
   refine W.k fun K hK=>?_
   simp(disch:=omega)only[↓RU,RV,RH,↓reduceIte,qE,reduceCtorEq,if_pos,w64,↓RS,RG,qA,qM,qL,zaa,gF,zd1]
   apply hK;clear hK K
   refine xn ?_
   refine ⟨l.length - (i+1),by omega,_,i+1,d,rfl,by omega,by omega,hq,hO2,?_,zak⟩
   simp [Env.put,Env.of]
 try simp only[RL]at h
 obtain rfl:l.length=i:=by omega
 refine W.exit ?_
 refine xe ?_
 refine xe ?_
 refine XBlock.hit ?_
 refine zfe.norm rfl ?_
 exact ⟨_,rfl,c,hp,(by rw [← hp.length_eq]at ho; exact Ord.pair (by rw [List.length_map]; exact ho)),zak⟩
theorem yc6  : PC Tryz.prog 128 [.int .u64 1] (.int .i64 1) true:=by
 refine PC.of ⟨Tryz.func128,by kernel_rfl,rfl,by kernel_rfl⟩ zap mixed (by show 1≤Tryz.f128.ntmps; decide) ?_
 refine W.r fun K hK=>?_
 simp(disch:=omega)only[↓RU,RV,RH,↓reduceIte,qE,reduceCtorEq,if_pos]
 apply hK;clear hK K
 refine W.seq ?_
 refine W.r fun K hK=>?_
 simp(disch:=omega)only[↓RU,RV,RH,↓reduceIte,qE,reduceCtorEq,if_pos,w64,zif]
 apply hK;clear hK K
 refine W.cond rfl (fun h=>?_) (fun h=>?_)
 ·try simp only[RL]at h
  exact absurd h (by decide)
 try simp only[RL]at h
 refine W.skip ?_
 refine xn ?_
 refine W.seq ?_
 refine W.r fun K hK=>?_
 simp(disch:=omega)only[↓RU,RV,RH,↓reduceIte,qE,reduceCtorEq,if_pos,w64,zif]
 apply hK;clear hK K
 refine W.cond rfl (fun h1=>?_) (fun h1=>?_)
 ·try simp only[RL]at h1
  exact absurd h1 (by decide)
 try simp only[RL]at h1
 refine W.skip ?_
 refine xn ?_
 refine W.seq ?_
 refine W.r fun K hK=>?_
 simp(disch:=omega)only[↓RU,RV,RH,↓reduceIte,qE,reduceCtorEq,if_pos,w64,zif]
 apply hK;clear hK K
 refine W.cond rfl (fun h2=>?_) (fun h2=>?_)
 ·try simp only[RL]at h2
  exact absurd h2 (by decide)
 try simp only[RL]at h2
 refine W.skip ?_
 refine xn ?_
 refine W.r fun K hK=>?_
 simp(disch:=omega)only[↓RU,RV,RH,↓reduceIte,qE,reduceCtorEq,if_pos,w64,w64,zaa,zac,zif,zen]
 apply hK;clear hK K
 refine W.ret ?_
 refine Br rfl ?_
 rfl
theorem ygg  : PC Tryz.prog 109 [.int .u64 1] (.int .i64 1) true:=by
 refine PC.of ⟨Tryz.func109,by kernel_rfl,rfl,by kernel_rfl⟩ zap mixed (by show 1≤Tryz.f109.ntmps; decide) ?_
 refine W.r fun K hK=>?_
 simp(disch:=omega)only[↓RU,RV,RH,↓reduceIte,qE,reduceCtorEq,if_pos]
 apply hK;clear hK K
 refine W.seq ?_
 refine W.cond rfl (fun h=>?_) (fun h=>?_)
 ·try simp only[RL]at h
  exact absurd h (by decide)
 try simp only[RL]at h
 refine W.skip ?_
 refine xn ?_
 refine W.r fun K hK=>?_
 simp(disch:=omega)only[↓RU,RV,RH,↓reduceIte,qE,reduceCtorEq,if_pos,qN]
 refine zad.pc (yc6) rfl (.inl rfl) ?_
 simp(disch:=omega)only[↓RU,RV,RH,↓reduceIte,qE,reduceCtorEq,if_pos,qN]
 apply hK;clear hK K
 refine W.ret ?_
 refine Br rfl ?_
 rfl
theorem yc7  : PC Tryz.prog 128 [.int .u64 2] (.int .i64 2) true:=by
 refine PC.of ⟨Tryz.func128,by kernel_rfl,rfl,by kernel_rfl⟩ zap mixed (by show 1≤Tryz.f128.ntmps; decide) ?_
 refine W.r fun K hK=>?_
 simp(disch:=omega)only[↓RU,RV,RH,↓reduceIte,qE,reduceCtorEq,if_pos]
 apply hK;clear hK K
 refine W.seq ?_
 refine W.r fun K hK=>?_
 simp(disch:=omega)only[↓RU,RV,RH,↓reduceIte,qE,reduceCtorEq,if_pos,w64,zif]
 apply hK;clear hK K
 refine W.cond rfl (fun h=>?_) (fun h=>?_)
 ·try simp only[RL]at h
  exact absurd h (by decide)
 try simp only[RL]at h
 refine W.skip ?_
 refine xn ?_
 refine W.seq ?_
 refine W.r fun K hK=>?_
 simp(disch:=omega)only[↓RU,RV,RH,↓reduceIte,qE,reduceCtorEq,if_pos,w64,zif]
 apply hK;clear hK K
 refine W.cond rfl (fun h1=>?_) (fun h1=>?_)
 ·try simp only[RL]at h1
  exact absurd h1 (by decide)
 try simp only[RL]at h1
 refine W.skip ?_
 refine xn ?_
 refine W.seq ?_
 refine W.r fun K hK=>?_
 simp(disch:=omega)only[↓RU,RV,RH,↓reduceIte,qE,reduceCtorEq,if_pos,w64,zif]
 apply hK;clear hK K
 refine W.cond rfl (fun h2=>?_) (fun h2=>?_)
 ·try simp only[RL]at h2
  exact absurd h2 (by decide)
 try simp only[RL]at h2
 refine W.skip ?_
 refine xn ?_
 refine W.r fun K hK=>?_
 simp(disch:=omega)only[↓RU,RV,RH,↓reduceIte,qE,reduceCtorEq,if_pos,w64,w64,zaa,zac,zif,zen]
 apply hK;clear hK K
 refine W.ret ?_
 refine Br rfl ?_
 rfl
theorem ygh  : PC Tryz.prog 109 [.int .u64 2] (.int .i64 2) true:=by
 refine PC.of ⟨Tryz.func109,by kernel_rfl,rfl,by kernel_rfl⟩ zap mixed (by show 1≤Tryz.f109.ntmps; decide) ?_
 refine W.r fun K hK=>?_
 simp(disch:=omega)only[↓RU,RV,RH,↓reduceIte,qE,reduceCtorEq,if_pos]
 apply hK;clear hK K
 refine W.seq ?_
 refine W.cond rfl (fun h=>?_) (fun h=>?_)
 ·try simp only[RL]at h
  exact absurd h (by decide)
 try simp only[RL]at h
 refine W.skip ?_
 refine xn ?_
 refine W.r fun K hK=>?_
 simp(disch:=omega)only[↓RU,RV,RH,↓reduceIte,qE,reduceCtorEq,if_pos,qN]
 refine zad.pc (yc7) rfl (.inl rfl) ?_
 simp(disch:=omega)only[↓RU,RV,RH,↓reduceIte,qE,reduceCtorEq,if_pos,qN]
 apply hK;clear hK K
 refine W.ret ?_
 refine Br rfl ?_
 rfl
theorem yc8  : PC Tryz.prog 128 [.int .u64 3] (.int .i64 2) true:=by
 refine PC.of ⟨Tryz.func128,by kernel_rfl,rfl,by kernel_rfl⟩ zap mixed (by show 1≤Tryz.f128.ntmps; decide) ?_
 refine W.r fun K hK=>?_
 simp(disch:=omega)only[↓RU,RV,RH,↓reduceIte,qE,reduceCtorEq,if_pos]
 apply hK;clear hK K
 refine W.seq ?_
 refine W.r fun K hK=>?_
 simp(disch:=omega)only[↓RU,RV,RH,↓reduceIte,qE,reduceCtorEq,if_pos,w64,zif]
 apply hK;clear hK K
 refine W.cond rfl (fun h=>?_) (fun h=>?_)
 ·try simp only[RL]at h
  exact absurd h (by decide)
 try simp only[RL]at h
 refine W.skip ?_
 refine xn ?_
 refine W.seq ?_
 refine W.r fun K hK=>?_
 simp(disch:=omega)only[↓RU,RV,RH,↓reduceIte,qE,reduceCtorEq,if_pos,w64,zif]
 apply hK;clear hK K
 refine W.cond rfl (fun h1=>?_) (fun h1=>?_)
 ·try simp only[RL]at h1
  exact absurd h1 (by decide)
 try simp only[RL]at h1
 refine W.skip ?_
 refine xn ?_
 refine W.seq ?_
 refine W.r fun K hK=>?_
 simp(disch:=omega)only[↓RU,RV,RH,↓reduceIte,qE,reduceCtorEq,if_pos,w64,zif]
 apply hK;clear hK K
 refine W.cond rfl (fun h2=>?_) (fun h2=>?_)
 ·try simp only[RL]at h2
  exact absurd h2 (by decide)
 try simp only[RL]at h2
 refine W.skip ?_
 refine xn ?_
 refine W.r fun K hK=>?_
 simp(disch:=omega)only[↓RU,RV,RH,↓reduceIte,qE,reduceCtorEq,if_pos,w64,w64,zaa,zac,zif,zen]
 apply hK;clear hK K
 refine W.ret ?_
 refine Br rfl ?_
 rfl
theorem ygi  : PC Tryz.prog 109 [.int .u64 3] (.int .i64 2) true:=by
 refine PC.of ⟨Tryz.func109,by kernel_rfl,rfl,by kernel_rfl⟩ zap mixed (by show 1≤Tryz.f109.ntmps; decide) ?_
 refine W.r fun K hK=>?_
 simp(disch:=omega)only[↓RU,RV,RH,↓reduceIte,qE,reduceCtorEq,if_pos]
 apply hK;clear hK K
 refine W.seq ?_
 refine W.cond rfl (fun h=>?_) (fun h=>?_)
 ·try simp only[RL]at h
  exact absurd h (by decide)
 try simp only[RL]at h
 refine W.skip ?_
 refine xn ?_
 refine W.r fun K hK=>?_
 simp(disch:=omega)only[↓RU,RV,RH,↓reduceIte,qE,reduceCtorEq,if_pos,qN]
 refine zad.pc (yc8) rfl (.inl rfl) ?_
 simp(disch:=omega)only[↓RU,RV,RH,↓reduceIte,qE,reduceCtorEq,if_pos,qN]
 apply hK;clear hK K
 refine W.ret ?_
 refine Br rfl ?_
 rfl
theorem yc9  : PC Tryz.prog 128 [.int .u64 4] (.int .i64 3) true:=by
 refine PC.of ⟨Tryz.func128,by kernel_rfl,rfl,by kernel_rfl⟩ zap mixed (by show 1≤Tryz.f128.ntmps; decide) ?_
 refine W.r fun K hK=>?_
 simp(disch:=omega)only[↓RU,RV,RH,↓reduceIte,qE,reduceCtorEq,if_pos]
 apply hK;clear hK K
 refine W.seq ?_
 refine W.r fun K hK=>?_
 simp(disch:=omega)only[↓RU,RV,RH,↓reduceIte,qE,reduceCtorEq,if_pos,w64,zif]
 apply hK;clear hK K
 refine W.cond rfl (fun h=>?_) (fun h=>?_)
 ·try simp only[RL]at h
  exact absurd h (by decide)
 try simp only[RL]at h
 refine W.skip ?_
 refine xn ?_
 refine W.seq ?_
 refine W.r fun K hK=>?_
 simp(disch:=omega)only[↓RU,RV,RH,↓reduceIte,qE,reduceCtorEq,if_pos,w64,zif]
 apply hK;clear hK K
 refine W.cond rfl (fun h1=>?_) (fun h1=>?_)
 ·try simp only[RL]at h1
  exact absurd h1 (by decide)
 try simp only[RL]at h1
 refine W.skip ?_
 refine xn ?_
 refine W.seq ?_
 refine W.r fun K hK=>?_
 simp(disch:=omega)only[↓RU,RV,RH,↓reduceIte,qE,reduceCtorEq,if_pos,w64,zif]
 apply hK;clear hK K
 refine W.cond rfl (fun h2=>?_) (fun h2=>?_)
 ·try simp only[RL]at h2
  exact absurd h2 (by decide)
 try simp only[RL]at h2
 refine W.skip ?_
 refine xn ?_
 refine W.r fun K hK=>?_
 simp(disch:=omega)only[↓RU,RV,RH,↓reduceIte,qE,reduceCtorEq,if_pos,w64,w64,zaa,zac,zif,zen]
 apply hK;clear hK K
 refine W.ret ?_
 refine Br rfl ?_
 rfl
theorem ygj  : PC Tryz.prog 109 [.int .u64 4] (.int .i64 3) true:=by
 refine PC.of ⟨Tryz.func109,by kernel_rfl,rfl,by kernel_rfl⟩ zap mixed (by show 1≤Tryz.f109.ntmps; decide) ?_
 refine W.r fun K hK=>?_
 simp(disch:=omega)only[↓RU,RV,RH,↓reduceIte,qE,reduceCtorEq,if_pos]
 apply hK;clear hK K
 refine W.seq ?_
 refine W.cond rfl (fun h=>?_) (fun h=>?_)
 ·try simp only[RL]at h
  exact absurd h (by decide)
 try simp only[RL]at h
 refine W.skip ?_
 refine xn ?_
 refine W.r fun K hK=>?_
 simp(disch:=omega)only[↓RU,RV,RH,↓reduceIte,qE,reduceCtorEq,if_pos,qN]
 refine zad.pc (yc9) rfl (.inl rfl) ?_
 simp(disch:=omega)only[↓RU,RV,RH,↓reduceIte,qE,reduceCtorEq,if_pos,qN]
 apply hK;clear hK K
 refine W.ret ?_
 refine Br rfl ?_
 rfl
theorem yda  : PC Tryz.prog 128 [.int .u64 5] (.int .i64 3) true:=by
 refine PC.of ⟨Tryz.func128,by kernel_rfl,rfl,by kernel_rfl⟩ zap mixed (by show 1≤Tryz.f128.ntmps; decide) ?_
 refine W.r fun K hK=>?_
 simp(disch:=omega)only[↓RU,RV,RH,↓reduceIte,qE,reduceCtorEq,if_pos]
 apply hK;clear hK K
 refine W.seq ?_
 refine W.r fun K hK=>?_
 simp(disch:=omega)only[↓RU,RV,RH,↓reduceIte,qE,reduceCtorEq,if_pos,w64,zif]
 apply hK;clear hK K
 refine W.cond rfl (fun h=>?_) (fun h=>?_)
 ·try simp only[RL]at h
  exact absurd h (by decide)
 try simp only[RL]at h
 refine W.skip ?_
 refine xn ?_
 refine W.seq ?_
 refine W.r fun K hK=>?_
 simp(disch:=omega)only[↓RU,RV,RH,↓reduceIte,qE,reduceCtorEq,if_pos,w64,zif]
 apply hK;clear hK K
 refine W.cond rfl (fun h1=>?_) (fun h1=>?_)
 ·try simp only[RL]at h1
  exact absurd h1 (by decide)
 try simp only[RL]at h1
 refine W.skip ?_
 refine xn ?_
 refine W.seq ?_
 refine W.r fun K hK=>?_
 simp(disch:=omega)only[↓RU,RV,RH,↓reduceIte,qE,reduceCtorEq,if_pos,w64,zif]
 apply hK;clear hK K
 refine W.cond rfl (fun h2=>?_) (fun h2=>?_)
 ·try simp only[RL]at h2
  exact absurd h2 (by decide)
 try simp only[RL]at h2
 refine W.skip ?_
 refine xn ?_
 refine W.r fun K hK=>?_
 simp(disch:=omega)only[↓RU,RV,RH,↓reduceIte,qE,reduceCtorEq,if_pos,w64,w64,zaa,zac,zif,zen]
 apply hK;clear hK K
 refine W.ret ?_
 refine Br rfl ?_
 rfl
theorem ygk  : PC Tryz.prog 109 [.int .u64 5] (.int .i64 3) true:=by
 refine PC.of ⟨Tryz.func109,by kernel_rfl,rfl,by kernel_rfl⟩ zap mixed (by show 1≤Tryz.f109.ntmps; decide) ?_
 refine W.r fun K hK=>?_
 simp(disch:=omega)only[↓RU,RV,RH,↓reduceIte,qE,reduceCtorEq,if_pos]
 apply hK;clear hK K
 refine W.seq ?_
 refine W.cond rfl (fun h=>?_) (fun h=>?_)
 ·try simp only[RL]at h
  exact absurd h (by decide)
 try simp only[RL]at h
 refine W.skip ?_
 refine xn ?_
 refine W.r fun K hK=>?_
 simp(disch:=omega)only[↓RU,RV,RH,↓reduceIte,qE,reduceCtorEq,if_pos,qN]
 refine zad.pc (yda) rfl (.inl rfl) ?_
 simp(disch:=omega)only[↓RU,RV,RH,↓reduceIte,qE,reduceCtorEq,if_pos,qN]
 apply hK;clear hK K
 refine W.ret ?_
 refine Br rfl ?_
 rfl
theorem ydb  : PC Tryz.prog 128 [.int .u64 6] (.int .i64 3) true:=by
 refine PC.of ⟨Tryz.func128,by kernel_rfl,rfl,by kernel_rfl⟩ zap mixed (by show 1≤Tryz.f128.ntmps; decide) ?_
 refine W.r fun K hK=>?_
 simp(disch:=omega)only[↓RU,RV,RH,↓reduceIte,qE,reduceCtorEq,if_pos]
 apply hK;clear hK K
 refine W.seq ?_
 refine W.r fun K hK=>?_
 simp(disch:=omega)only[↓RU,RV,RH,↓reduceIte,qE,reduceCtorEq,if_pos,w64,zif]
 apply hK;clear hK K
 refine W.cond rfl (fun h=>?_) (fun h=>?_)
 ·try simp only[RL]at h
  exact absurd h (by decide)
 try simp only[RL]at h
 refine W.skip ?_
 refine xn ?_
 refine W.seq ?_
 refine W.r fun K hK=>?_
 simp(disch:=omega)only[↓RU,RV,RH,↓reduceIte,qE,reduceCtorEq,if_pos,w64,zif]
 apply hK;clear hK K
 refine W.cond rfl (fun h1=>?_) (fun h1=>?_)
 ·try simp only[RL]at h1
  exact absurd h1 (by decide)
 try simp only[RL]at h1
 refine W.skip ?_
 refine xn ?_
 refine W.seq ?_
 refine W.r fun K hK=>?_
 simp(disch:=omega)only[↓RU,RV,RH,↓reduceIte,qE,reduceCtorEq,if_pos,w64,zif]
 apply hK;clear hK K
 refine W.cond rfl (fun h2=>?_) (fun h2=>?_)
 ·try simp only[RL]at h2
  exact absurd h2 (by decide)
 try simp only[RL]at h2
 refine W.skip ?_
 refine xn ?_
 refine W.r fun K hK=>?_
 simp(disch:=omega)only[↓RU,RV,RH,↓reduceIte,qE,reduceCtorEq,if_pos,w64,w64,zaa,zac,zif,zen]
 apply hK;clear hK K
 refine W.ret ?_
 refine Br rfl ?_
 rfl
theorem ygl  : PC Tryz.prog 109 [.int .u64 6] (.int .i64 3) true:=by
 refine PC.of ⟨Tryz.func109,by kernel_rfl,rfl,by kernel_rfl⟩ zap mixed (by show 1≤Tryz.f109.ntmps; decide) ?_
 refine W.r fun K hK=>?_
 simp(disch:=omega)only[↓RU,RV,RH,↓reduceIte,qE,reduceCtorEq,if_pos]
 apply hK;clear hK K
 refine W.seq ?_
 refine W.cond rfl (fun h=>?_) (fun h=>?_)
 ·try simp only[RL]at h
  exact absurd h (by decide)
 try simp only[RL]at h
 refine W.skip ?_
 refine xn ?_
 refine W.r fun K hK=>?_
 simp(disch:=omega)only[↓RU,RV,RH,↓reduceIte,qE,reduceCtorEq,if_pos,qN]
 refine zad.pc (ydb) rfl (.inl rfl) ?_
 simp(disch:=omega)only[↓RU,RV,RH,↓reduceIte,qE,reduceCtorEq,if_pos,qN]
 apply hK;clear hK K
 refine W.ret ?_
 refine Br rfl ?_
 rfl
theorem ydc  : PC Tryz.prog 128 [.int .u64 7] (.int .i64 3) true:=by
 refine PC.of ⟨Tryz.func128,by kernel_rfl,rfl,by kernel_rfl⟩ zap mixed (by show 1≤Tryz.f128.ntmps; decide) ?_
 refine W.r fun K hK=>?_
 simp(disch:=omega)only[↓RU,RV,RH,↓reduceIte,qE,reduceCtorEq,if_pos]
 apply hK;clear hK K
 refine W.seq ?_
 refine W.r fun K hK=>?_
 simp(disch:=omega)only[↓RU,RV,RH,↓reduceIte,qE,reduceCtorEq,if_pos,w64,zif]
 apply hK;clear hK K
 refine W.cond rfl (fun h=>?_) (fun h=>?_)
 ·try simp only[RL]at h
  exact absurd h (by decide)
 try simp only[RL]at h
 refine W.skip ?_
 refine xn ?_
 refine W.seq ?_
 refine W.r fun K hK=>?_
 simp(disch:=omega)only[↓RU,RV,RH,↓reduceIte,qE,reduceCtorEq,if_pos,w64,zif]
 apply hK;clear hK K
 refine W.cond rfl (fun h1=>?_) (fun h1=>?_)
 ·try simp only[RL]at h1
  exact absurd h1 (by decide)
 try simp only[RL]at h1
 refine W.skip ?_
 refine xn ?_
 refine W.seq ?_
 refine W.r fun K hK=>?_
 simp(disch:=omega)only[↓RU,RV,RH,↓reduceIte,qE,reduceCtorEq,if_pos,w64,zif]
 apply hK;clear hK K
 refine W.cond rfl (fun h2=>?_) (fun h2=>?_)
 ·try simp only[RL]at h2
  exact absurd h2 (by decide)
 try simp only[RL]at h2
 refine W.skip ?_
 refine xn ?_
 refine W.r fun K hK=>?_
 simp(disch:=omega)only[↓RU,RV,RH,↓reduceIte,qE,reduceCtorEq,if_pos,w64,w64,zaa,zac,zif,zen]
 apply hK;clear hK K
 refine W.ret ?_
 refine Br rfl ?_
 rfl
theorem ygm  : PC Tryz.prog 109 [.int .u64 7] (.int .i64 3) true:=by
 refine PC.of ⟨Tryz.func109,by kernel_rfl,rfl,by kernel_rfl⟩ zap mixed (by show 1≤Tryz.f109.ntmps; decide) ?_
 refine W.r fun K hK=>?_
 simp(disch:=omega)only[↓RU,RV,RH,↓reduceIte,qE,reduceCtorEq,if_pos]
 apply hK;clear hK K
 refine W.seq ?_
 refine W.cond rfl (fun h=>?_) (fun h=>?_)
 ·try simp only[RL]at h
  exact absurd h (by decide)
 try simp only[RL]at h
 refine W.skip ?_
 refine xn ?_
 refine W.r fun K hK=>?_
 simp(disch:=omega)only[↓RU,RV,RH,↓reduceIte,qE,reduceCtorEq,if_pos,qN]
 refine zad.pc (ydc) rfl (.inl rfl) ?_
 simp(disch:=omega)only[↓RU,RV,RH,↓reduceIte,qE,reduceCtorEq,if_pos,qN]
 apply hK;clear hK K
 refine W.ret ?_
 refine Br rfl ?_
 rfl
theorem ydd  : PC Tryz.prog 128 [.int .u64 8] (.int .i64 4) true:=by
 refine PC.of ⟨Tryz.func128,by kernel_rfl,rfl,by kernel_rfl⟩ zap mixed (by show 1≤Tryz.f128.ntmps; decide) ?_
 refine W.r fun K hK=>?_
 simp(disch:=omega)only[↓RU,RV,RH,↓reduceIte,qE,reduceCtorEq,if_pos]
 apply hK;clear hK K
 refine W.seq ?_
 refine W.r fun K hK=>?_
 simp(disch:=omega)only[↓RU,RV,RH,↓reduceIte,qE,reduceCtorEq,if_pos,w64,zif]
 apply hK;clear hK K
 refine W.cond rfl (fun h=>?_) (fun h=>?_)
 ·try simp only[RL]at h
  exact absurd h (by decide)
 try simp only[RL]at h
 refine W.skip ?_
 refine xn ?_
 refine W.seq ?_
 refine W.r fun K hK=>?_
 simp(disch:=omega)only[↓RU,RV,RH,↓reduceIte,qE,reduceCtorEq,if_pos,w64,zif]
 apply hK;clear hK K
 refine W.cond rfl (fun h1=>?_) (fun h1=>?_)
 ·try simp only[RL]at h1
  exact absurd h1 (by decide)
 try simp only[RL]at h1
 refine W.skip ?_
 refine xn ?_
 refine W.seq ?_
 refine W.r fun K hK=>?_
 simp(disch:=omega)only[↓RU,RV,RH,↓reduceIte,qE,reduceCtorEq,if_pos,w64,zif]
 apply hK;clear hK K
 refine W.cond rfl (fun h2=>?_) (fun h2=>?_)
 ·try simp only[RL]at h2
  exact absurd h2 (by decide)
 try simp only[RL]at h2
 refine W.skip ?_
 refine xn ?_
 refine W.r fun K hK=>?_
 simp(disch:=omega)only[↓RU,RV,RH,↓reduceIte,qE,reduceCtorEq,if_pos,w64,w64,zaa,zac,zif,zen]
 apply hK;clear hK K
 refine W.ret ?_
 refine Br rfl ?_
 rfl
theorem ygn  : PC Tryz.prog 109 [.int .u64 8] (.int .i64 4) true:=by
 refine PC.of ⟨Tryz.func109,by kernel_rfl,rfl,by kernel_rfl⟩ zap mixed (by show 1≤Tryz.f109.ntmps; decide) ?_
 refine W.r fun K hK=>?_
 simp(disch:=omega)only[↓RU,RV,RH,↓reduceIte,qE,reduceCtorEq,if_pos]
 apply hK;clear hK K
 refine W.seq ?_
 refine W.cond rfl (fun h=>?_) (fun h=>?_)
 ·try simp only[RL]at h
  exact absurd h (by decide)
 try simp only[RL]at h
 refine W.skip ?_
 refine xn ?_
 refine W.r fun K hK=>?_
 simp(disch:=omega)only[↓RU,RV,RH,↓reduceIte,qE,reduceCtorEq,if_pos,qN]
 refine zad.pc (ydd) rfl (.inl rfl) ?_
 simp(disch:=omega)only[↓RU,RV,RH,↓reduceIte,qE,reduceCtorEq,if_pos,qN]
 apply hK;clear hK K
 refine W.ret ?_
 refine Br rfl ?_
 rfl
theorem yde  : PC Tryz.prog 128 [.int .u64 9] (.int .i64 4) true:=by
 refine PC.of ⟨Tryz.func128,by kernel_rfl,rfl,by kernel_rfl⟩ zap mixed (by show 1≤Tryz.f128.ntmps; decide) ?_
 refine W.r fun K hK=>?_
 simp(disch:=omega)only[↓RU,RV,RH,↓reduceIte,qE,reduceCtorEq,if_pos]
 apply hK;clear hK K
 refine W.seq ?_
 refine W.r fun K hK=>?_
 simp(disch:=omega)only[↓RU,RV,RH,↓reduceIte,qE,reduceCtorEq,if_pos,w64,zif]
 apply hK;clear hK K
 refine W.cond rfl (fun h=>?_) (fun h=>?_)
 ·try simp only[RL]at h
  exact absurd h (by decide)
 try simp only[RL]at h
 refine W.skip ?_
 refine xn ?_
 refine W.seq ?_
 refine W.r fun K hK=>?_
 simp(disch:=omega)only[↓RU,RV,RH,↓reduceIte,qE,reduceCtorEq,if_pos,w64,zif]
 apply hK;clear hK K
 refine W.cond rfl (fun h1=>?_) (fun h1=>?_)
 ·try simp only[RL]at h1
  exact absurd h1 (by decide)
 try simp only[RL]at h1
 refine W.skip ?_
 refine xn ?_
 refine W.seq ?_
 refine W.r fun K hK=>?_
 simp(disch:=omega)only[↓RU,RV,RH,↓reduceIte,qE,reduceCtorEq,if_pos,w64,zif]
 apply hK;clear hK K
 refine W.cond rfl (fun h2=>?_) (fun h2=>?_)
 ·try simp only[RL]at h2
  exact absurd h2 (by decide)
 try simp only[RL]at h2
 refine W.skip ?_
 refine xn ?_
 refine W.r fun K hK=>?_
 simp(disch:=omega)only[↓RU,RV,RH,↓reduceIte,qE,reduceCtorEq,if_pos,w64,w64,zaa,zac,zif,zen]
 apply hK;clear hK K
 refine W.ret ?_
 refine Br rfl ?_
 rfl
theorem ygo  : PC Tryz.prog 109 [.int .u64 9] (.int .i64 4) true:=by
 refine PC.of ⟨Tryz.func109,by kernel_rfl,rfl,by kernel_rfl⟩ zap mixed (by show 1≤Tryz.f109.ntmps; decide) ?_
 refine W.r fun K hK=>?_
 simp(disch:=omega)only[↓RU,RV,RH,↓reduceIte,qE,reduceCtorEq,if_pos]
 apply hK;clear hK K
 refine W.seq ?_
 refine W.cond rfl (fun h=>?_) (fun h=>?_)
 ·try simp only[RL]at h
  exact absurd h (by decide)
 try simp only[RL]at h
 refine W.skip ?_
 refine xn ?_
 refine W.r fun K hK=>?_
 simp(disch:=omega)only[↓RU,RV,RH,↓reduceIte,qE,reduceCtorEq,if_pos,qN]
 refine zad.pc (yde) rfl (.inl rfl) ?_
 simp(disch:=omega)only[↓RU,RV,RH,↓reduceIte,qE,reduceCtorEq,if_pos,qN]
 apply hK;clear hK K
 refine W.ret ?_
 refine Br rfl ?_
 rfl
theorem zio {F R:List Ob} {ver t:Nat} {l:List Int} {f:FuncId} {cs:List PV} {cm:Int→Int→Int} {g:Int→Int} (hf:∀ x y,x∈l→y∈l→PC Tryz.prog f [.int .i64 x,.int .i64 y,.ip cs 0] (.int .i64 (cm x y)) true) (hg:∀ x y,x∈l→y∈l→(cm x y<0↔g x<g y)) (hl:l.length≤12) (h1:1≤l.length) (lim:Int):Ev Tryz.prog 108 [.loc F.length ver 0 l.length,.int .i64 0,.int .i64 l.length,.int .i64 lim,.fn f [.ip cs 0]] ⟨F ++ .arr ver 3 1 (l.map (.int .i64))::R,t⟩ fun v S=>v = .tup []∧∃ z:List Int,z.Perm l∧(z.map g).Pairwise (· ≤ ·)∧S=⟨F ++ .arr ver 3 1 (z.map (.int .i64))::R,t⟩:=by
 refine Ev.of ⟨Tryz.func108,by kernel_rfl,rfl,by kernel_rfl⟩ zap mixed (by show 5≤Tryz.f108.ntmps; decide) ?_
 refine W.r fun K hK=>?_
 simp(disch:=omega)only[↓RU,RV,RH,↓reduceIte,qE,reduceCtorEq,if_pos,↓RS,RG,qA,qM,qL,gF,zd1]
 apply hK;clear hK K
 refine W.r fun K hK=>?_
 simp(disch:=omega)only[↓RU,RV,RH,↓reduceIte,qE,reduceCtorEq,if_pos,↓RS,RG,qA,qM,qL,gF,zd1]
 apply hK;clear hK K
 refine W.block ?_
 refine W.loop [0,1,2,4] (fun n vs S=>vs=[.loc F.length ver 0 l.length,.int .i64 0,.int .i64 l.length,.fn f [.ip cs 0]]∧S=⟨F ++ .arr ver 3 1 (l.map (.int .i64))::R,t⟩) 0 ?_ ?_
 ·refine ⟨_,?_,zak⟩
  simp [Env.put,Env.of,zaf]
 rintro n vs S - ⟨rfl,rfl⟩
 refine W.block ?_
 refine W.r fun K hK=>?_
 simp(disch:=omega)only[↓RU,RV,RH,↓reduceIte,qE,reduceCtorEq,if_pos,w64,↓RS,RG,qA,qM,qL,zaa,gF,zd1]
 apply hK;clear hK K
 refine W.seq ?_
 refine W.r fun K hK=>?_
 simp(disch:=omega)only[↓RU,RV,RH,↓reduceIte,qE,reduceCtorEq,if_pos,w64,↓RS,RG,qA,qM,qL,zaa,gF,zd1]
 apply hK;clear hK K
 refine W.cond rfl (fun h=>?_) (fun h=>?_)
 ·try simp only[RL]at h
  refine W.r fun K hK=>?_
  simp(disch:=omega)only[↓RU,RV,RH,↓reduceIte,qE,reduceCtorEq,if_pos,qN,↓RS,RG,qA,qM,qL,gF,zd1]
  refine zad.ev (z3f hf hg (by omega) h1) ?_
  rintro _ _ ⟨rfl,z,hz1,hz2,rfl⟩
  simp(disch:=omega)only[↓RU,RV,RH,↓reduceIte,qE,reduceCtorEq,if_pos,qN,↓RS,RG,qA,qM,qL,gF,zd1]
  apply hK;clear hK K
  refine W.ret ?_
  refine XThen.ret ?_
  refine XBlock.ret ?_
  refine XThen.ret ?_
  refine XBlock.ret ?_
  refine Br rfl ?_
  exact ⟨_,rfl,z,hz1,hz2,zak⟩
 try simp only[RL]at h
 exact absurd (show (l.length:Int)≤12 by omega) h
theorem yao {F R:List Ob} {ver t:Nat} {l:List Int} {f:FuncId} {cs:List PV} {cm:Int→Int→Int} {g:Int→Int} (hf:∀ x y,x∈l→y∈l→PC Tryz.prog f [.int .i64 x,.int .i64 y,.ip cs 0] (.int .i64 (cm x y)) true) (hg:∀ x y,x∈l→y∈l→(cm x y<0↔g x<g y)) (h9:l.length≤9) (h1:1≤l.length):Ev Tryz.prog 83 [.loc F.length ver 0 l.length,.fn f [.ip cs 0]] ⟨F ++ .arr ver 3 1 (l.map (.int .i64))::R,t⟩ fun v S=>v = .tup []∧∃ z:List Int,z.Perm l∧(z.map g).Pairwise (· ≤ ·)∧S=⟨F ++ .arr ver 3 1 (z.map (.int .i64))::R,t⟩:=by
 refine Ev.of ⟨Tryz.func83,by kernel_rfl,rfl,by kernel_rfl⟩ zap mixed (by show 2≤Tryz.f83.ntmps; decide) ?_
 refine W.r fun K hK=>?_
 simp(disch:=omega)only[↓RU,RV,RH,↓reduceIte,qE,reduceCtorEq,if_pos,↓RS,RG,qA,qM,qL,zab,zaa,gF,zd1]
 apply hK;clear hK K
 refine W.k fun K hK=>?_
 obtain hk | hk | hk | hk | hk | hk | hk | hk | hk:l.length=1∨l.length=2∨l.length=3∨l.length=4∨l.length=5∨l.length=6∨l.length=7∨l.length=8∨l.length=9:=by omega
 ·skip
  have hw:IntKind.u64.wrap ((l.length:Nat):Int)=1:=by rw [hk]; rfl
  simp(disch:=omega)only[↓RU,RV,RH,↓reduceIte,qE,reduceCtorEq,if_pos,w64,qN,↓RS,RG,qA,qM,qL,zaa,zdk,gF,zd1,hw]
  refine zad.pc (ygg) rfl (.inl rfl) ?_
  simp(disch:=omega)only[↓RU,RV,RH,↓reduceIte,qE,reduceCtorEq,if_pos,w64,qN,↓RS,RG,qA,qM,qL,zaa,zdk,gF,zd1,hw]
  refine zad.ev (zio hf hg (by omega) (by omega) 1) ?_
  rintro _ _ ⟨rfl,z,hz1,hz2,rfl⟩
  simp(disch:=omega)only[↓RU,RV,RH,↓reduceIte,qE,reduceCtorEq,if_pos,w64,qN,↓RS,RG,qA,qM,qL,zaa,zdk,gF,zd1,hw]
  apply hK;clear hK K
  refine zfe.norm rfl ?_
  exact ⟨_,rfl,z,hz1,hz2,zak⟩
 ·skip
  have hw:IntKind.u64.wrap ((l.length:Nat):Int)=2:=by rw [hk]; rfl
  simp(disch:=omega)only[↓RU,RV,RH,↓reduceIte,qE,reduceCtorEq,if_pos,w64,qN,↓RS,RG,qA,qM,qL,zaa,zdk,gF,zd1,hw]
  refine zad.pc (ygh) rfl (.inl rfl) ?_
  simp(disch:=omega)only[↓RU,RV,RH,↓reduceIte,qE,reduceCtorEq,if_pos,w64,qN,↓RS,RG,qA,qM,qL,zaa,zdk,gF,zd1,hw]
  refine zad.ev (zio hf hg (by omega) (by omega) 2) ?_
  rintro _ _ ⟨rfl,z,hz1,hz2,rfl⟩
  simp(disch:=omega)only[↓RU,RV,RH,↓reduceIte,qE,reduceCtorEq,if_pos,w64,qN,↓RS,RG,qA,qM,qL,zaa,zdk,gF,zd1,hw]
  apply hK;clear hK K
  refine zfe.norm rfl ?_
  exact ⟨_,rfl,z,hz1,hz2,zak⟩
 ·skip
  have hw:IntKind.u64.wrap ((l.length:Nat):Int)=3:=by rw [hk]; rfl
  simp(disch:=omega)only[↓RU,RV,RH,↓reduceIte,qE,reduceCtorEq,if_pos,w64,qN,↓RS,RG,qA,qM,qL,zaa,zdk,gF,zd1,hw]
  refine zad.pc (ygi) rfl (.inl rfl) ?_
  simp(disch:=omega)only[↓RU,RV,RH,↓reduceIte,qE,reduceCtorEq,if_pos,w64,qN,↓RS,RG,qA,qM,qL,zaa,zdk,gF,zd1,hw]
  refine zad.ev (zio hf hg (by omega) (by omega) 2) ?_
  rintro _ _ ⟨rfl,z,hz1,hz2,rfl⟩
  simp(disch:=omega)only[↓RU,RV,RH,↓reduceIte,qE,reduceCtorEq,if_pos,w64,qN,↓RS,RG,qA,qM,qL,zaa,zdk,gF,zd1,hw]
  apply hK;clear hK K
  refine zfe.norm rfl ?_
  exact ⟨_,rfl,z,hz1,hz2,zak⟩
 ·skip
  have hw:IntKind.u64.wrap ((l.length:Nat):Int)=4:=by rw [hk]; rfl
  simp(disch:=omega)only[↓RU,RV,RH,↓reduceIte,qE,reduceCtorEq,if_pos,w64,qN,↓RS,RG,qA,qM,qL,zaa,zdk,gF,zd1,hw]
  refine zad.pc (ygj) rfl (.inl rfl) ?_
  simp(disch:=omega)only[↓RU,RV,RH,↓reduceIte,qE,reduceCtorEq,if_pos,w64,qN,↓RS,RG,qA,qM,qL,zaa,zdk,gF,zd1,hw]
  refine zad.ev (zio hf hg (by omega) (by omega) 3) ?_
  rintro _ _ ⟨rfl,z,hz1,hz2,rfl⟩
  simp(disch:=omega)only[↓RU,RV,RH,↓reduceIte,qE,reduceCtorEq,if_pos,w64,qN,↓RS,RG,qA,qM,qL,zaa,zdk,gF,zd1,hw]
  apply hK;clear hK K
  refine zfe.norm rfl ?_
  exact ⟨_,rfl,z,hz1,hz2,zak⟩
 ·skip
  have hw:IntKind.u64.wrap ((l.length:Nat):Int)=5:=by rw [hk]; rfl
  simp(disch:=omega)only[↓RU,RV,RH,↓reduceIte,qE,reduceCtorEq,if_pos,w64,qN,↓RS,RG,qA,qM,qL,zaa,zdk,gF,zd1,hw]
  refine zad.pc (ygk) rfl (.inl rfl) ?_
  simp(disch:=omega)only[↓RU,RV,RH,↓reduceIte,qE,reduceCtorEq,if_pos,w64,qN,↓RS,RG,qA,qM,qL,zaa,zdk,gF,zd1,hw]
  refine zad.ev (zio hf hg (by omega) (by omega) 3) ?_
  rintro _ _ ⟨rfl,z,hz1,hz2,rfl⟩
  simp(disch:=omega)only[↓RU,RV,RH,↓reduceIte,qE,reduceCtorEq,if_pos,w64,qN,↓RS,RG,qA,qM,qL,zaa,zdk,gF,zd1,hw]
  apply hK;clear hK K
  refine zfe.norm rfl ?_
  exact ⟨_,rfl,z,hz1,hz2,zak⟩
 ·skip
  have hw:IntKind.u64.wrap ((l.length:Nat):Int)=6:=by rw [hk]; rfl
  simp(disch:=omega)only[↓RU,RV,RH,↓reduceIte,qE,reduceCtorEq,if_pos,w64,qN,↓RS,RG,qA,qM,qL,zaa,zdk,gF,zd1,hw]
  refine zad.pc (ygl) rfl (.inl rfl) ?_
  simp(disch:=omega)only[↓RU,RV,RH,↓reduceIte,qE,reduceCtorEq,if_pos,w64,qN,↓RS,RG,qA,qM,qL,zaa,zdk,gF,zd1,hw]
  refine zad.ev (zio hf hg (by omega) (by omega) 3) ?_
  rintro _ _ ⟨rfl,z,hz1,hz2,rfl⟩
  simp(disch:=omega)only[↓RU,RV,RH,↓reduceIte,qE,reduceCtorEq,if_pos,w64,qN,↓RS,RG,qA,qM,qL,zaa,zdk,gF,zd1,hw]
  apply hK;clear hK K
  refine zfe.norm rfl ?_
  exact ⟨_,rfl,z,hz1,hz2,zak⟩
 ·skip
  have hw:IntKind.u64.wrap ((l.length:Nat):Int)=7:=by rw [hk]; rfl
  simp(disch:=omega)only[↓RU,RV,RH,↓reduceIte,qE,reduceCtorEq,if_pos,w64,qN,↓RS,RG,qA,qM,qL,zaa,zdk,gF,zd1,hw]
  refine zad.pc (ygm) rfl (.inl rfl) ?_
  simp(disch:=omega)only[↓RU,RV,RH,↓reduceIte,qE,reduceCtorEq,if_pos,w64,qN,↓RS,RG,qA,qM,qL,zaa,zdk,gF,zd1,hw]
  refine zad.ev (zio hf hg (by omega) (by omega) 3) ?_
  rintro _ _ ⟨rfl,z,hz1,hz2,rfl⟩
  simp(disch:=omega)only[↓RU,RV,RH,↓reduceIte,qE,reduceCtorEq,if_pos,w64,qN,↓RS,RG,qA,qM,qL,zaa,zdk,gF,zd1,hw]
  apply hK;clear hK K
  refine zfe.norm rfl ?_
  exact ⟨_,rfl,z,hz1,hz2,zak⟩
 ·skip
  have hw:IntKind.u64.wrap ((l.length:Nat):Int)=8:=by rw [hk]; rfl
  simp(disch:=omega)only[↓RU,RV,RH,↓reduceIte,qE,reduceCtorEq,if_pos,w64,qN,↓RS,RG,qA,qM,qL,zaa,zdk,gF,zd1,hw]
  refine zad.pc (ygn) rfl (.inl rfl) ?_
  simp(disch:=omega)only[↓RU,RV,RH,↓reduceIte,qE,reduceCtorEq,if_pos,w64,qN,↓RS,RG,qA,qM,qL,zaa,zdk,gF,zd1,hw]
  refine zad.ev (zio hf hg (by omega) (by omega) 4) ?_
  rintro _ _ ⟨rfl,z,hz1,hz2,rfl⟩
  simp(disch:=omega)only[↓RU,RV,RH,↓reduceIte,qE,reduceCtorEq,if_pos,w64,qN,↓RS,RG,qA,qM,qL,zaa,zdk,gF,zd1,hw]
  apply hK;clear hK K
  refine zfe.norm rfl ?_
  exact ⟨_,rfl,z,hz1,hz2,zak⟩
 skip
 have hw:IntKind.u64.wrap ((l.length:Nat):Int)=9:=by rw [hk]; rfl
 simp(disch:=omega)only[↓RU,RV,RH,↓reduceIte,qE,reduceCtorEq,if_pos,w64,qN,↓RS,RG,qA,qM,qL,zaa,zdk,gF,zd1,hw]
 refine zad.pc (ygo) rfl (.inl rfl) ?_
 simp(disch:=omega)only[↓RU,RV,RH,↓reduceIte,qE,reduceCtorEq,if_pos,w64,qN,↓RS,RG,qA,qM,qL,zaa,zdk,gF,zd1,hw]
 refine zad.ev (zio hf hg (by omega) (by omega) 4) ?_
 rintro _ _ ⟨rfl,z,hz1,hz2,rfl⟩
 simp(disch:=omega)only[↓RU,RV,RH,↓reduceIte,qE,reduceCtorEq,if_pos,w64,qN,↓RS,RG,qA,qM,qL,zaa,zdk,gF,zd1,hw]
 apply hK;clear hK K
 refine zfe.norm rfl ?_
 exact ⟨_,rfl,z,hz1,hz2,zak⟩



section
section
variable {M:List (List Bool)} {ms:List Nat} {ws:List Int} {n:Nat} {rk:Nat→Nat}
def revM (n:Nat) (M:List (List Bool)):List (List Bool):=(List.range n).map fun a=>(List.range n).map fun b=>zc2 M b a
def bhB (sets:List Nat) (needs:List Int) (a:Nat) (out:List Int) (b:Nat):List Int :=
 if zpk sets a b then out.set a (max (zd2 out a) (zd2 out b+zd2 needs b)) else out
def bhA (sets:List Nat) (needs:List Int) (out:List Int) (a:Nat):List Int:=(List.range needs.length).foldl (bhB sets needs a) out
def bhN (sets:List Nat) (needs:List Int) (out:List Int) (_:Nat):List Int:=(List.range needs.length).foldl (bhA sets needs) out
def behind (sets:List Nat) (needs:List Int):List Int:=(List.range needs.length).foldl (bhN sets needs) (List.replicate needs.length 0)
end
end


def domB (x:Int × Int) (w h:Int):Bool:=decide (x.1≤w) && decide (x.2≤h)
def ydm (w h:Int) (s:List (Int × Int) × Bool) (x:Int × Int):List (Int × Int) × Bool :=
 if w≤x.1∧h≤x.2 then s else if s.2=false∧w<x.1 then (s.1++[(w,h),x],true) else (s.1++[x],s.2)
def ygq (l:List (Int × Int)) (w h:Int):List (Int × Int) × Bool:=l.foldl (ydm w h) ([],false)
def put (l:List (Int × Int)) (w h:Int):List (Int × Int):=if l.any (fun x=>domB x w h) then l else if (ygq l w h).2 then (ygq l w h).1 else (ygq l w h).1++[(w,h)]
section
section
variable {n:Nat} {M X:List (List Bool)}
def rvB (M:List (List Bool)) (a:Nat) (X:List (List Bool)) (b:Nat):List (List Bool):=z4c X b a (zc2 M a b)
def rvA (n:Nat) (M:List (List Bool)) (X:List (List Bool)) (a:Nat):List (List Bool):=(List.range n).foldl (rvB M a) X
def rv (n:Nat) (M:List (List Bool)):List (List Bool):=(List.range n).foldl (rvA n M) (zcg n)
end
end
theorem z7z {S:Store} {k f n:Nat} {sel:List Nat}:(List.replicate n (PV.int .i64 0)).mapM (rn S k sel (f+1))=some (List.replicate n (PV.int .i64 0)):=zuv (by simp [List.all_replicate,scal])
section
theorem z44 {L A:List (List Bool)} {n a b:Nat} (hL:Sq n L) (hA:Sq n A) (ha:a<n) (hb:b<n):PC Tryz.prog 52 [(.agg [zhn L,zhn A]),.int .i64 a,.int .i64 b] (.bool (zc2 L a b || zc2 A a b)) true:=by
 have hL1:=hL.1
 have hA1:=hA.1
 obtain ⟨row,hrow,hrl,hrb⟩:=hL.at_ ha hb
 obtain ⟨sow,hsow,hsl,hsb⟩:=hA.at_ ha hb
 refine PC.of ⟨Tryz.func52,by kernel_rfl,rfl,by kernel_rfl⟩ zap mixed (by show 3≤Tryz.f52.ntmps; decide) ?_
 refine W.r fun K hK=>?_
 simp(disch:=omega)only[↓RU,RV,RH,↓reduceIte,qE,reduceCtorEq,if_pos,↓RS,RG,qA,qM,qL,ty0,ty2,zah,zgx,ze0,zgy]
 apply hK;clear hK K
 refine W.r fun K hK=>?_
 cases hc:zc2 L a b
 ·skip
  rw [hc]at hrb
  simp(disch:=omega)only[↓RU,RV,RH,↓reduceIte,qE,reduceCtorEq,if_pos,↓RS,RG,qA,qM,qL,ty0,ty2,zah,zgx,ze0,zgy,hrow,hrl,hrb,hsow,hsl,hsb,hL1,hA1]
  apply hK;clear hK K
  refine W.ret ?_
  refine Br rfl ?_
  rw [hc]
  rfl
 skip
 rw [hc]at hrb
 simp(disch:=omega)only[↓RU,RV,RH,↓reduceIte,qE,reduceCtorEq,if_pos,↓RS,RG,qA,qM,qL,ty0,ty2,zah,zgx,ze0,zgy,hrow,hrl,hrb,hsow,hsl,hsb,hL1,hA1]
 apply hK;clear hK K
 refine W.ret ?_
 refine Br rfl ?_
 rw [hc]
 rfl
theorem zpj {L A:List (List Bool)} {n a b:Nat} (hL:Sq n L) (hA:Sq n A) (ha:a<n) (hb:b<n):PC Tryz.prog 53 [(.agg [zhn L,zhn A]),.int .i64 a,.int .i64 b] (.bool (zc2 L a b || zc2 A b a)) true:=by
 have hL1:=hL.1
 have hA1:=hA.1
 obtain ⟨row,hrow,hrl,hrb⟩:=hL.at_ ha hb
 obtain ⟨sow,hsow,hsl,hsb⟩:=hA.at_ hb ha
 refine PC.of ⟨Tryz.func53,by kernel_rfl,rfl,by kernel_rfl⟩ zap mixed (by show 3≤Tryz.f53.ntmps; decide) ?_
 refine W.r fun K hK=>?_
 simp(disch:=omega)only[↓RU,RV,RH,↓reduceIte,qE,reduceCtorEq,if_pos,↓RS,RG,qA,qM,qL,ty0,ty2,zah,zgx,ze0,zgy]
 apply hK;clear hK K
 refine W.r fun K hK=>?_
 cases hc:zc2 L a b
 ·skip
  rw [hc]at hrb
  simp(disch:=omega)only[↓RU,RV,RH,↓reduceIte,qE,reduceCtorEq,if_pos,↓RS,RG,qA,qM,qL,ty0,ty2,zah,zgx,ze0,zgy,hrow,hrl,hrb,hsow,hsl,hsb,hL1,hA1]
  apply hK;clear hK K
  refine W.ret ?_
  refine Br rfl ?_
  rw [hc]
  rfl
 skip
 rw [hc]at hrb
 simp(disch:=omega)only[↓RU,RV,RH,↓reduceIte,qE,reduceCtorEq,if_pos,↓RS,RG,qA,qM,qL,ty0,ty2,zah,zgx,ze0,zgy,hrow,hrl,hrb,hsow,hsl,hsb,hL1,hA1]
 apply hK;clear hK K
 refine W.ret ?_
 refine Br rfl ?_
 rw [hc]
 rfl
def cmV (b1 b2:Bool):Int:=if b1 then -1 else if b2 then 1 else 0
theorem yex {b1 b2:Bool}:cmV b1 b2<0↔b1=true:=by cases b1 <;> cases b2 <;> simp [cmV]
theorem z4f {q:FuncId} {L A:List (List Bool)} {x y:Int} {b1 b2:Bool} (h1:PC Tryz.prog q [(.agg [zhn L,zhn A]),.int .i64 x,.int .i64 y] (.bool b1) true) (h2:PC Tryz.prog q [(.agg [zhn L,zhn A]),.int .i64 y,.int .i64 x] (.bool b2) true):PC Tryz.prog 84 [.int .i64 x,.int .i64 y,.ip [.bm q (.agg [zhn L,zhn A])] 0] (.int .i64 (cmV b1 b2)) true:=by
 refine PC.of ⟨Tryz.func84,by kernel_rfl,rfl,by kernel_rfl⟩ zap mixed (by show 3≤Tryz.f84.ntmps; decide) ?_
 refine W.r fun K hK=>?_
 simp(disch:=omega)only[↓RU,RV,RH,↓reduceIte,qE,reduceCtorEq,if_pos,↓RS,RG,qA,qM,qL]
 apply hK;clear hK K
 refine W.seq ?_
 refine W.block ?_
 refine W.r fun K hK=>?_
 simp(disch:=omega)only[↓RU,RV,RH,↓reduceIte,qE,reduceCtorEq,if_pos,qN,↓RS,RG,qA,qM,qL,ty9]
 refine zad.pc (h1) rfl (.inl rfl) ?_
 simp(disch:=omega)only[↓RU,RV,RH,↓reduceIte,qE,reduceCtorEq,if_pos,qN,↓RS,RG,qA,qM,qL,ty9]
 apply hK;clear hK K
 refine W.cond rfl (fun k1=>?_) (fun k1=>?_)
 ·try simp only[RL]at k1
  refine W.r fun K hK=>?_
  simp(disch:=omega)only[↓RU,RV,RH,↓reduceIte,qE,reduceCtorEq,if_pos,↓RS,RG,qA,qM,qL]
  apply hK;clear hK K
  refine W.ret ?_
  refine XBlock.ret ?_
  refine XThen.ret ?_
  refine Br rfl ?_
  subst k1
  rfl
 try simp only[RL]at k1
 refine W.r fun K hK=>?_
 simp(disch:=omega)only[↓RU,RV,RH,↓reduceIte,qE,reduceCtorEq,if_pos,qN,↓RS,RG,qA,qM,qL,ty9]
 refine zad.pc (h2) rfl (.inl rfl) ?_
 simp(disch:=omega)only[↓RU,RV,RH,↓reduceIte,qE,reduceCtorEq,if_pos,qN,↓RS,RG,qA,qM,qL,ty9]
 apply hK;clear hK K
 refine W.cond rfl (fun k2=>?_) (fun k2=>?_)
 ·try simp only[RL]at k2
  refine W.r fun K hK=>?_
  simp(disch:=omega)only[↓RU,RV,RH,↓reduceIte,qE,reduceCtorEq,if_pos,↓RS,RG,qA,qM,qL]
  apply hK;clear hK K
  refine W.ret ?_
  refine XBlock.ret ?_
  refine XThen.ret ?_
  refine Br rfl ?_
  have k1:b1=false:=by simpa using k1
  subst k1
  subst k2
  rfl
 try simp only[RL]at k2
 refine W.skip ?_
 refine XbN ?_
 refine xn ?_
 refine W.r fun K hK=>?_
 simp(disch:=omega)only[↓RU,RV,RH,↓reduceIte,qE,reduceCtorEq,if_pos,↓RS,RG,qA,qM,qL]
 apply hK;clear hK K
 refine W.ret ?_
 refine Br rfl ?_
 have k1:b1=false:=by simpa using k1
 have k2:b2=false:=by simpa using k2
 subst k1
 subst k2
 rfl
theorem zuk {L A:List (List Bool)}:zl5 10 (.agg [zhn L,zhn A])=true:=rfl
section
variable {S:Store} {fr:Nat→Bool} {f:Nat}
theorem ydq {o ver off:Nat}:rfq S fr (f+1) (.ref o ver off)=if fr o=true then (S.cellsOf o ver).bind fun cells=>(cells.mapM (rfq S fr f)).map (.ip · off) else none:=rfl
theorem yfk {g:FuncId} {b:PV}:rfq S fr (f+1) (.bm g b)=some (.bm g b):=rfl
theorem z9e {g:FuncId} {b:PV}:(PV.bm g b).cells=[.bm g b]:=rfl
theorem ygc {g:FuncId} {b:PV}:(PV.bm g b).isCell=true:=rfl
end
theorem zx9 {q:FuncId} {L A:List (List Bool)} {n:Nat} (hL:Sq n L) (h1:1≤n) (h9:n≤9) {bf:Nat→Nat→Bool} {f:Nat→Nat} (hq:∀ a b:Nat,a<n→b<n→PC Tryz.prog q [(.agg [zhn L,zhn A]),.int .i64 a,.int .i64 b] (.bool (bf a b)) true) (hf:∀ a b,a<n→b<n→(bf a b=true↔f a<f b)) {Z:List Int} (hZ:∀ z:List Int,z.Perm (rooms n)→(z.map fun x=>((f x.toNat:Nat):Int)).Pairwise (· ≤ ·)→z=Z):PN Tryz.prog 51 [(.agg [zhn L,zhn A]),.bm q (.agg [zhn L,zhn A])] (.loc 0 0 0 n) [.arr 0 3 1 (Z.map (.int .i64))] false:=by
 have hL1:=hL.1
 obtain ⟨l,hl,hln⟩:∃ l,l=rooms n∧l.length=n:=⟨_,rfl,zq6⟩
 subst hln
 have hmem:∀ x,x∈l→∃ a:Nat,x=a∧a<l.length:=fun x hx=>by rw [hl,zqg]at hx; exact ⟨x.toNat,by omega,by omega⟩
 have hcm:∀ x y,x∈l→y∈l→PC Tryz.prog 84 [.int .i64 x,.int .i64 y,.ip [.bm q (.agg [zhn L,zhn A])] 0] (.int .i64 (cmV (bf x.toNat y.toNat) (bf y.toNat x.toNat))) true:=fun x y hx hy=>by
  obtain ⟨a,rfl,ha⟩:=hmem x hx
  obtain ⟨b,rfl,hb⟩:=hmem y hy
  exact z4f (hq a b ha hb) (hq b a hb ha)
 have hlt:∀ x y,x∈l→y∈l→(cmV (bf x.toNat y.toNat) (bf y.toNat x.toNat)<0↔(fun x:Int=>((f x.toNat:Nat):Int)) x<(fun x:Int=>((f x.toNat:Nat):Int)) y):=fun x y hx hy=>by
  obtain ⟨a,rfl,ha⟩:=hmem x hx
  obtain ⟨b,rfl,hb⟩:=hmem y hy
  rw [yex,hf _ _ (by simpa using ha) (by simpa using hb)]
  simp only; omega
 refine PN.of ⟨Tryz.func51,by kernel_rfl,rfl,by kernel_rfl⟩ zap mixed (by show 2≤Tryz.f51.ntmps; decide) ?_
 refine W.r fun K hK=>?_
 simp(disch:=omega)only[↓RU,RV,RH,↓reduceIte,qE,reduceCtorEq,if_pos,↓RS,RG,qA,qM,qL,ty0,ty2,zah,ty9,zgx,ze0,zgy,z9e,ygc]
 apply hK;clear hK K
 refine W.joinS [3,5] (fun vs S=>∃ t tk:Nat,vs=[.ip [.bm q (.agg [zhn L,zhn A])] 0,.loc 0 t 0 l.length]∧S=⟨[.arr t 3 1 ((List.replicate l.length 0).map (.int .i64))],tk⟩) ?_ ?_
 ·
  refine W.k fun K hK=>?_
  simp(disch:=omega)only[↓RU,RV,RH,↓reduceIte,qE,reduceCtorEq,if_pos,↓RS,RG,qA,qM,qL,ty0,ty2,zab,zah,zgx,ze0,zaa,zgy,hL1,ze3,zes]
  apply hK;clear hK K
  refine xn ?_
  refine ⟨0,[2],[.ip [.bm q (.agg [zhn L,zhn A])] 0,.loc 0 3 0 l.length],⟨[.arr 3 3 1 ((List.replicate l.length 0).map (.int .i64))],4⟩,?_,?_,3,4,rfl,rfl⟩
  ·simp [-qU,Env.put,Env.of,zaf,zb1,zaj,zan,zau,zax,zb9,zca,zdc,zb8,zbi,zcb,zdb,zdd,zbk,zbj,zay,zb7,zcc,zda,zbg,zbf,zaw,zbh,zb6,zfc,qS,qP,qC,ydq,yfk,Store.cellsOf]
  simp [-qU,Env.put,Env.of,zaf,zb1,zaj,zan,zau,zax,zb9,zca,zdc,zb8,zbi,zcb,zdb,zdd,zbk,zbj,zay,zb7,zcc,zda,zbg,zbf,zaw,zbh,zb6,zfc,qS,qP,qC,z7z]
 rintro vs S - ⟨t0,tk0,rfl,rfl⟩
 refine W.seq ?_
 refine W.r fun K hK=>?_
 simp(disch:=omega)only[↓RU,RV,RH,↓reduceIte,qE,reduceCtorEq,if_pos,↓RS,RG,qA,qM,qL,zab,zaa]
 apply hK;clear hK K
 refine W.block ?_
 refine W.loop [3,5,12,13] (fun n vs S=>∃ i t tk:Nat,n=l.length - i∧i≤l.length∧vs=[.ip [.bm q (.agg [zhn L,zhn A])] 0,.loc 0 t 0 l.length,.int .i64 l.length,.int .i64 i]∧S=⟨[.arr t 3 1 ((l.take i++List.replicate (l.length - i) 0).map (.int .i64))],tk⟩) l.length ?_ ?_
 ·refine ⟨1,0,t0,tk0,rfl,by omega,?_,by simp [Store.take]⟩
  simp [Env.put,Env.of,zaf]
 rintro n vs S - ⟨i,t,tk,rfl,h_i,rfl,rfl⟩
 refine W.r fun K hK=>?_
 simp(disch:=omega)only[↓RU,RV,RH,↓reduceIte,qE,reduceCtorEq,if_pos,w64,↓RS,RG,qA,qM,qL,zaa]
 apply hK;clear hK K
 refine W.seq ?_
 refine W.cond rfl (fun h=>?_) (fun h=>?_)
 ·try simp only[RL]at h
  have hix:l[i]?=some (i:Int):=by rw [hl]; exact zux (by omega)
  have hol:(l.take i++List.replicate (l.length - i) 0).length=l.length:=by simp; omega
  refine W.skip ?_
  refine xn ?_
  refine W.seq ?_
  refine W.block ?_
  refine W.r fun K hK=>?_
  simp(disch:=omega)only[↓RU,RV,RH,↓reduceIte,qE,reduceCtorEq,if_pos,↓RS,RG,qA,qM,qL]
  apply hK;clear hK K
  refine W.k fun K hK=>?_
  simp(disch:=omega)only[↓RU,RV,RH,↓reduceIte,qE,reduceCtorEq,if_pos,↓RS,RG,qA,qM,qL,zab,zaa,zb5,zd6,hol]
  apply hK;clear hK K
  refine XbN ?_
  refine xn ?_
  refine W.k fun K hK=>?_
  simp(disch:=omega)only[↓RU,RV,RH,↓reduceIte,qE,reduceCtorEq,if_pos,w64,↓RS,RG,qA,qM,qL,zaa]
  apply hK;clear hK K
  refine xn ?_
  refine ⟨l.length - (i+1),by omega,1,i+1,t,tk,rfl,by omega,?_,?_⟩
  ·simp [Env.put,Env.of]
  simp only[zbe,zvt hix]; rfl
 try simp only[RL]at h
 obtain rfl:l.length=i:=by omega
 rw [List.take_length,Nat.sub_self]
 simp only[List.replicate_zero,qN]
 refine W.exit ?_
 refine xe ?_
 refine xe ?_
 refine XBlock.hit ?_
 refine xn ?_
 refine W.r fun K hK=>?_
 simp(disch:=omega)only[↓RU,RV,RH,↓reduceIte,qE,reduceCtorEq,if_pos,qN,↓RS,RG,qA,qM,qL]
 refine zad.ev (yao (F:=[]) (R:=[]) hcm hlt h9 h1) ?_
 rintro _ _ ⟨rfl,z,hz1,hz2,rfl⟩
 simp(disch:=omega)only[↓RU,RV,RH,↓reduceIte,qE,reduceCtorEq,if_pos,qN,↓RS,RG,qA,qM,qL]
 apply hK;clear hK K
 refine W.r fun K hK=>?_
 simp(disch:=omega)only[↓RU,RV,RH,↓reduceIte,qE,reduceCtorEq,if_pos,↓RS,RG,qA,qM,qL]
 apply hK;clear hK K
 refine W.ret ?_
 refine Br rfl ?_
 have e:=hZ z (by rw [← hl]; exact hz1) hz2
 subst e
 exact z2k rfl (zzx _)
end

theorem zpp {f:Nat→Bool} {b:Nat}:(List.range (b+1)).countP f=(List.range b).countP f+(if f b then 1 else 0):=by
 rw [qS,List.countP_append]; simp
theorem zs1 {p:List Txt} (hp:zbo p=true):zc4 p=true∧za2 p=(rP p).length∧(rP p).length≤9∧1≤(rP p).length∧(∀ a b,a<(rP p).length→b<(rP p).length→zpk (zvl p 0) a b=zc2 (lfM p) a b)∧∀ a b,a<(rP p).length→b<(rP p).length→zpk (zvl p 1) a b=zc2 (abM p) a b:=by
 have hpl:=zdw hp
 have hN:=zc6 hpl
 have hr:=hN.rooms
 have h1:=hp
 rw [← ze8]at h1
 have hok:okB p=true:=by
  have h9:=h1
  unfold zds zg6 at h9
  simp only[qB]at h9
  exact h9.1.1
 obtain ⟨s0,s1⟩:=yaj hN.hg (n:=(rP p).length) (by omega) (fun i j hi hj=>hN.cell hi hj) zft
 exact ⟨hN.hg,hr,zji hok,zh9 hok,fun a b ha hb=>(s0.2.2 a b ha hb).symm,fun a b ha hb=>(s1.2.2 a b ha hb).symm⟩
theorem zy9 {p:List Txt} (hs:Sm p) (hp:zbo p=true) (below:Bool):PN Tryz.prog 44 [zav p,.bool below] (.loc 0 0 0 (rP p).length) [.arr 0 3 1 ((srt p below).map (.int .i64))] false:=by
 obtain ⟨hg,hr,hn9,hn1,e0,e1⟩:=zs1 hp
 have h9:za2 p≤9:=by omega
 have hm0:=ztu hg h9 0
 have hm1:=ztu hg h9 1
 obtain ⟨f,hf,hi⟩:=zkp hp below
 have hahl:∀ a,a<(rP p).length→ahK p below a<(rP p).length:=fun a ha=>by rw [zpe hf ha]; exact zyp ha
 obtain ⟨nr,hnr⟩:∃ nr:Nat,(rP p).length=nr:=⟨_,rfl⟩
 unfold srt
 rw [hnr]at hr hn9 hn1 e0 e1 hahl ⊢
 rw [show (za2 p).toNat=nr by omega]at hm0 hm1
 have hml:=hm0.1
 have hml1:=hm1.1
 refine PN.of ⟨Tryz.func44,by kernel_rfl,rfl,by kernel_rfl⟩ zap mixed (by show 2≤Tryz.f44.ntmps; decide) ?_
 refine W.r fun K hK=>?_
 simp(disch:=omega)only[↓RU,RV,RH,↓reduceIte,qE,reduceCtorEq,if_pos,↓RS,RG,qA,qM,qL]
 apply hK;clear hK K
 refine W.r fun K hK=>?_
 simp(disch:=omega)only[↓RU,RV,RH,↓reduceIte,qE,reduceCtorEq,if_pos,qN,↓RS,RG,qA,qM,qL]
 refine zad.pc (z1d hs hg h9 0) rfl (.inl rfl) ?_
 simp(disch:=omega)only[↓RU,RV,RH,↓reduceIte,qE,reduceCtorEq,if_pos,qN,↓RS,RG,qA,qM,qL]
 apply hK;clear hK K
 refine W.r fun K hK=>?_
 simp(disch:=omega)only[↓RU,RV,RH,↓reduceIte,qE,reduceCtorEq,if_pos,qN,↓RS,RG,qA,qM,qL]
 refine zad.pc (z1d hs hg h9 1) rfl (.inl rfl) ?_
 simp(disch:=omega)only[↓RU,RV,RH,↓reduceIte,qE,reduceCtorEq,if_pos,qN,↓RS,RG,qA,qM,qL]
 apply hK;clear hK K
 refine W.r fun K hK=>?_
 simp(disch:=omega)only[↓RU,RV,RH,↓reduceIte,qE,reduceCtorEq,if_pos,↓RS,RG,qA,qM,qL,zab,zaa,hml]
 apply hK;clear hK K
 refine W.r fun K hK=>?_
 simp(disch:=omega)only[↓RU,RV,RH,↓reduceIte,qE,reduceCtorEq,if_pos,↓RS,RG,qA,qM,qL,zab,zaa,ze3,zes]
 apply hK;clear hK K
 refine W.seq ?_
 refine W.r fun K hK=>?_
 simp(disch:=omega)only[↓RU,RV,RH,↓reduceIte,qE,reduceCtorEq,if_pos,↓RS,RG,qA,qM,qL]
 apply hK;clear hK K
 refine W.block ?_
 refine W.loop [0,1,5,6,7,8,9] (fun n vs S=>∃ a:Nat,n=nr - a∧a≤nr∧vs=[zav p,.bool below,zy1 (zvl p 0),zy1 (zvl p 1),.int .i64 nr,.loc 0 0 0 nr,.int .i64 a]∧S=⟨[.arr 0 3 1 ((zgp (ahK p below) nr a).map (.int .i64))],1⟩) (nr) ?_ ?_
 ·refine ⟨1,0,rfl,Nat.zero_le _,?_,by simp [zbe,zgp]⟩
  simp [Env.put,Env.of,zaf]
 rintro n vs S - ⟨a,rfl,h_a,rfl,rfl⟩
 refine W.seq ?_
 refine W.r fun K hK=>?_
 simp(disch:=omega)only[↓RU,RV,RH,↓reduceIte,qE,reduceCtorEq,if_pos,w64,↓RS,RG,qA,qM,qL,zaa]
 apply hK;clear hK K
 refine W.cond rfl (fun h=>?_) (fun h=>?_)
 ·try simp only[RL]at h
  have hal:=zic (ah:=ahK p below) (n:=nr) a
  have hah:=hahl a (by omega)
  refine W.skip ?_
  refine xn ?_
  refine W.seq ?_
  refine W.block ?_
  refine W.r fun K hK=>?_
  simp(disch:=omega)only[↓RU,RV,RH,↓reduceIte,qE,reduceCtorEq,if_pos,↓RS,RG,qA,qM,qL]
  apply hK;clear hK K
  refine W.seq ?_
  refine W.r fun K hK=>?_
  simp(disch:=omega)only[↓RU,RV,RH,↓reduceIte,qE,reduceCtorEq,if_pos,↓RS,RG,qA,qM,qL]
  apply hK;clear hK K
  refine W.block ?_
  refine W.loop [0,1,5,6,7,8,9,10,11] (fun n vs S=>∃ b:Nat,n=nr - b∧b≤nr∧vs=[zav p,.bool below,zy1 (zvl p 0),zy1 (zvl p 1),.int .i64 nr,.loc 0 0 0 nr,.int .i64 a,.int .i64 (((List.range b).countP fun c=>bfK p below c a):Nat),.int .i64 b]∧S=⟨[.arr 0 3 1 ((zgp (ahK p below) nr a).map (.int .i64))],1⟩) nr ?_ ?_
  ·refine ⟨1,0,rfl,Nat.zero_le _,?_,rfl⟩
   simp [Env.put,Env.of]
  rintro n vs S - ⟨b,rfl,h_b,rfl,rfl⟩
  refine W.seq ?_
  refine W.r fun K hK=>?_
  simp(disch:=omega)only[↓RU,RV,RH,↓reduceIte,qE,reduceCtorEq,if_pos,w64,↓RS,RG,qA,qM,qL,zaa]
  apply hK;clear hK K
  refine W.cond rfl (fun h1=>?_) (fun h1=>?_)
  ·try simp only[RL]at h1
   have hcl:((List.range b).countP fun c=>bfK p below c a)≤b:=by have:=List.countP_le_length (p:=fun c=>bfK p below c a) (l:=List.range b); simpa using this
   obtain ⟨m,hm,hm5⟩:=hm0.at_ (show b<nr by omega)
   obtain ⟨k,hk,hk5⟩:=hm1.at_ (show a<nr by omega)
   obtain ⟨o,ho,ho5⟩:=hm1.at_ (show b<nr by omega)
   have e0m:=e0 b a (by omega) (by omega)
   have e1k:=e1 a b (by omega) (by omega)
   have e1o:=e1 b a (by omega) (by omega)
   rw [zig hm]at e0m
   rw [zig hk]at e1k
   rw [zig ho]at e1o
   refine W.skip ?_
   refine xn ?_
   refine W.seq ?_
   refine W.block ?_
   refine W.r fun K hK=>?_
   simp(disch:=omega)only[↓RU,RV,RH,↓reduceIte,qE,reduceCtorEq,if_pos,w64,↓RS,RG,qA,qM,qL,zab,zaa,hm,hml,yeh,z4p]
   apply hK;clear hK K
   refine W.join [0,1,5,6,7,8,9,10,11,12] (fun vs S=>vs=[zav p,.bool below,zy1 (zvl p 0),zy1 (zvl p 1),.int .i64 nr,.loc 0 0 0 nr,.int .i64 a,.int .i64 (((List.range b).countP fun c=>bfK p below c a):Nat),.int .i64 b,.bool (bfK p below b a)]∧S=⟨[.arr 0 3 1 ((zgp (ahK p below) nr a).map (.int .i64))],1⟩) ?_ ?_
   ·
    refine W.r fun K hK=>?_
    simp(disch:=omega)only[↓RU,RV,RH,↓reduceIte,qE,reduceCtorEq,if_pos,↓RS,RG,qA,qM,qL]
    apply hK;clear hK K
    refine W.cond rfl (fun h2=>?_) (fun h2=>?_)
    ·try simp only[RL]at h2
     refine W.k fun K hK=>?_
     cases hx:m.testBit a
     ·skip
      simp(disch:=omega)only[↓RU,RV,RH,↓reduceIte,qE,reduceCtorEq,if_pos,w64,↓RS,RG,qA,qM,qL,zab,zaa,hk,hml1,yeh,z4p]
      apply hK;clear hK K
      refine xn ?_
      refine ⟨1,?_,?_⟩
      ·simp [Env.put,Env.of,bfK,bf2,h2,← e0m,← e1k,hx]
      rfl
     skip
     simp(disch:=omega)only[↓RU,RV,RH,↓reduceIte,qE,reduceCtorEq,if_pos,w64,↓RS,RG,qA,qM,qL,zab,zaa,hk,hml1,yeh,z4p]
     apply hK;clear hK K
     refine xn ?_
     refine ⟨1,?_,?_⟩
     ·simp [Env.put,Env.of,bfK,bf2,h2,← e0m,hx]
     rfl
    try simp only[RL]at h2
    refine W.k fun K hK=>?_
    cases hx:m.testBit a
    ·skip
     simp(disch:=omega)only[↓RU,RV,RH,↓reduceIte,qE,reduceCtorEq,if_pos,w64,↓RS,RG,qA,qM,qL,zab,zaa,ho,hml1,yeh,z4p]
     apply hK;clear hK K
     refine xn ?_
     refine ⟨1,?_,?_⟩
     ·simp [Env.put,Env.of,bfK,bf1,h2,← e0m,← e1o,hx]
     rfl
    skip
    simp(disch:=omega)only[↓RU,RV,RH,↓reduceIte,qE,reduceCtorEq,if_pos,w64,↓RS,RG,qA,qM,qL,zab,zaa,ho,hml1,yeh,z4p]
    apply hK;clear hK K
    refine xn ?_
    refine ⟨1,?_,?_⟩
    ·simp [Env.put,Env.of,bfK,bf1,h2,← e0m,hx]
    rfl
   rintro vs S - ⟨rfl,rfl⟩
   refine W.r fun K hK=>?_
   simp(disch:=omega)only[↓RU,RV,RH,↓reduceIte,qE,reduceCtorEq,if_pos,↓RS,RG,qA,qM,qL]
   apply hK;clear hK K
   refine W.cond rfl (fun h3=>?_) (fun h3=>?_)
   ·try simp only[RL]at h3
    refine W.k fun K hK=>?_
    simp(disch:=omega)only[↓RU,RV,RH,↓reduceIte,qE,reduceCtorEq,if_pos,w64,↓RS,RG,qA,qM,qL,zaa]
    apply hK;clear hK K
    refine XbN ?_
    refine xn ?_
    refine W.k fun K hK=>?_
    simp(disch:=omega)only[↓RU,RV,RH,↓reduceIte,qE,reduceCtorEq,if_pos,w64,↓RS,RG,qA,qM,qL,zaa]
    apply hK;clear hK K
    refine xn ?_
    refine ⟨nr - (b+1),by omega,1,b+1,rfl,by omega,?_,rfl⟩
    simp only[zpp,h3]
    simp [Env.put,Env.of]
   try simp only[RL]at h3
   refine W.skip ?_
   refine XbN ?_
   refine xn ?_
   refine W.k fun K hK=>?_
   simp(disch:=omega)only[↓RU,RV,RH,↓reduceIte,qE,reduceCtorEq,if_pos,w64,↓RS,RG,qA,qM,qL,zaa]
   apply hK;clear hK K
   refine xn ?_
   refine ⟨nr - (b+1),by omega,1,b+1,rfl,by omega,?_,rfl⟩
   simp only[zpp,h3]
   simp [Env.put,Env.of]
  try simp only[RL]at h1
  obtain rfl:nr=b:=by omega
  have hcq:((List.range nr).countP fun c=>bfK p below c a)=ahK p below a:=by unfold ahK; rw [hnr]
  refine W.exit ?_
  refine xe ?_
  refine xe ?_
  refine XBlock.hit ?_
  refine xn ?_
  refine W.k fun K hK=>?_
  rw [hcq]
  simp(disch:=omega)only[↓RU,RV,RH,↓reduceIte,qE,reduceCtorEq,if_pos,↓RS,RG,qA,qM,qL,zab,zaa,hal,zb5,zd6]
  apply hK;clear hK K
  refine XbN ?_
  refine xn ?_
  refine W.k fun K hK=>?_
  simp(disch:=omega)only[↓RU,RV,RH,↓reduceIte,qE,reduceCtorEq,if_pos,w64,↓RS,RG,qA,qM,qL,zaa]
  apply hK;clear hK K
  refine xn ?_
  refine ⟨nr - (a+1),by omega,1,a+1,rfl,by omega,?_,?_⟩
  ·simp [Env.put,Env.of]
  simp only[zbe,zgp]; rfl
 try simp only[RL]at h
 obtain rfl:nr=a:=by omega
 refine W.exit ?_
 refine xe ?_
 refine xe ?_
 refine XBlock.hit ?_
 refine xn ?_
 refine W.r fun K hK=>?_
 simp(disch:=omega)only[↓RU,RV,RH,↓reduceIte,qE,reduceCtorEq,if_pos,↓RS,RG,qA,qM,qL]
 apply hK;clear hK K
 refine W.ret ?_
 refine Br rfl ?_
 rw [← hnr]
 exact z2k rfl (zzx _)
section
section
variable {p:List Txt} {below:Bool}
theorem z2q (hp:zbo p=true) (below:Bool):(srt p below).Perm (rooms (rP p).length):=by
 obtain ⟨f,hf,hi⟩:=zkp hp below
 have h1:((rooms (rP p).length).mergeSort fun x y=>decide (f x.toNat≤f y.toNat)).Perm (rooms (rP p).length):=List.mergeSort_perm _ _
 have h2:(((rooms (rP p).length).mergeSort fun x y=>decide (f x.toNat≤f y.toNat)).map fun x=>((f x.toNat:Nat):Int)).Pairwise (· ≤ ·):=by
  rw [List.pairwise_map]
  refine (List.pairwise_mergeSort (fun a b c h k=>?_) (fun a b=>?_) _).imp fun {a b} h=>?_
  ·simp only[decide_eq_true_eq]at h k ⊢; omega
  ·simp only[Bool.or_eq_true,decide_eq_true_eq]; omega
  simp only[decide_eq_true_eq]at h; omega
 rw [← z8h hf hi h1 h2]
 exact h1
theorem yd1 (hp:zbo p=true) {x:Int}:x∈srt p below↔0≤x∧x<(rP p).length:=by
 rw [(z2q hp below).mem_iff,zqg]
theorem zyb (hp:zbo p=true):(srt p below).Nodup:=(z2q hp below).nodup_iff.2 (zqk _)
theorem zno (hp:zbo p=true) {a:Nat} (ha:a<(rP p).length):ahK p below a<(rP p).length:=by
 obtain ⟨f,hf,hi⟩:=zkp hp below
 rw [zpe hf ha]; exact zyp ha
theorem zmu (hp:zbo p=true) {a b:Nat} (ha:a<(rP p).length) (hb:b<(rP p).length):bfK p below a b=true↔ahK p below a<ahK p below b:=by
 obtain ⟨f,hf,hi⟩:=zkp hp below
 rw [zpe hf ha,zpe hf hb,hf a b ha hb]
 constructor
 ·intro h; exact zon ha h
 intro h
 refine Classical.byContradiction fun k=>?_
 rcases Nat.lt_trichotomy (f a) (f b) with q | q | q
 ·exact k q
 ·have:=hi a b ha hb q; subst this; omega
 have:=zon (n:=(rP p).length) hb q; omega
theorem ztt (hp:zbo p=true) {a b:Nat} (ha:a<(rP p).length) (hb:b<(rP p).length) (h:ahK p below a=ahK p below b):a=b:=by
 obtain ⟨f,hf,hi⟩:=zkp hp below
 rw [zpe hf ha,zpe hf hb]at h
 exact zvj hi ha hb h
theorem z2p (hp:zbo p=true) {a:Nat} (ha:a<(rP p).length):(srt p below)[ahK p below a]?=some (a:Int) :=
 zqy (fun a ha=>zno hp ha) (fun a b ha hb h=>ztt hp ha hb h) _ (qR _) a ha
theorem znj (hp:zbo p=true) {i:Nat} (hi:i<(rP p).length):∃ a,a<(rP p).length∧ahK p below a=i∧(srt p below)[i]?=some (a:Int):=by
 obtain ⟨x,hx,hm⟩:=zag (show i<(srt p below).length by rw [ziu]; exact hi)
 obtain ⟨h1,h2⟩:=(yd1 hp).1 hm
 refine ⟨x.toNat,by omega,?_,by rw [hx]; congr 1; omega⟩
 have h3:=z2p (below:=below) hp (a:=x.toNat) (by omega)
 have e:((x.toNat:Nat):Int)=x:=by omega
 rw [e]at h3
 have k1:=zb0 h3
 have k2:=zb0 hx
 rw [List.getElem?_eq_getElem k1]at h3
 rw [List.getElem?_eq_getElem k2]at hx
 exact zqi (zyb hp) k1 k2 ((Option.some.inj h3).trans (Option.some.inj hx).symm)
def zd5 (p:List Txt):List Int:=(srt p true).map fun x=>((ahK p false x.toNat:Nat):Int)
theorem zey:(zd5 p).length=(rP p).length:=by simp [zd5,ziu]
theorem zo1 (hp:zbo p=true) {i a:Nat} (h:(srt p true)[i]?=some (a:Int)):(zd5 p)[i]?=some ((ahK p false a:Nat):Int):=by
 unfold zd5
 rw [List.getElem?_map,h]
 simp
def z99 (p:List Txt):Nat→List Int
 | 0=>List.replicate (rP p).length 0
 | i+1=>(z99 p i).set (zd2 (srt p false) i).toNat (i:Int)
theorem zo3:∀ i,(z99 p i).length=(rP p).length
 | 0=>by simp [z99]
 | i+1=>by simp [z99,zo3 i]
theorem z7g (hp:zbo p=true):∀ i,i≤(rP p).length→∀ a,a<(rP p).length→ahK p false a<i→(z99 p i)[a]?=some ((ahK p false a:Nat):Int)
 | 0,_,a,_,h=>by omega
 | i+1,hi,a,ha,h=>by
  obtain ⟨b,hb,hb2,hb3⟩:=znj (below:=false) hp (show i<(rP p).length by omega)
  unfold z99
  rw [zgh hb3,Int.toNat_natCast,List.getElem?_set,zo3]
  by_cases e:b=a
  ·subst e; rw [if_pos rfl,if_pos hb,hb2]
  rw [if_neg e]
  refine z7g hp i (by omega) a ha ?_
  refine Classical.byContradiction fun k=>e (ztt (below:=false) hp hb ha (by omega))
end
end
section
section
variable {P:Program} {T:Tab} {F:Nat→Prop} {G:GSt} {w:World} {e:Env} {a:Act} {F0:Nat→Prop} {G0:GSt} {w0:World} {N:Nat}
theorem z9h (hT:zb2 P T) (hi:Inv F G w) (he:zfd w.heap F G e a) {o:Oper} {s d el:TypeId} {x:Operand} {str:List UInt8} (hop:o.op = .convert s d x) (hs:(T s).kd = .str) (hd:(T d).kd = .slice el) (hu8:(T el).kd = .int .u8)
  (hx0:e.ev x = .str str) (hlen63:str.length≤1048576) {K:PV→Store→Prop} (h:K (.loc G.er.obs.length G.er.tick 0 str.length) (G.er.push el 1 (str.map eB))) {next:Act→World→Prop} {Q:Exit→Act→World→Prop}
  (hk:Goes F G w K fun cv w'=>next (a.put o.dst cv) w'):o.wp P a w next Q:=by
 have hx:=he.ev x
 rw [hx0]at hx
 obtain ⟨b,ex,hb⟩:=hx.str
 have hr:(execOp a.eval o).run P w = .ok (.value (.slice (some ⟨w.heap.size,0,none⟩) b.size (grownCap w b.size 0 el))) (Lib.bytesWorld w el b):=by
  simp only[execOp,hop,ex]
  rw [Sem.run_bind,Lib.run_convert_string_bytes w s d el b (ziy hT hs) (zcr hT hd) (zkl hT hu8)]
  rfl
 have hlen:str.length=b.size:=by rw [← hb]; simp
 have hsz:(Lib.bytesWorld w el b).heap.size=w.heap.size+1:=Lib.bytesWorld_size w el b
 have hge:=grownCap_ge w b.size 0 el
 have hcs:(Lib.bytesCells w el b).size=grownCap w b.size 0 el:=by
  simp [Lib.bytesCells]; omega
 have hpush:(Lib.bytesWorld w el b).heap=w.heap.push (.cells (Lib.bytesCells w el b) el ((Lib.bytesCells w el b).size,(Lib.bytesCells w el b).size+1)):=by
  apply Array.ext_getElem?
  intro j
  rw [Array.getElem?_push]
  by_cases hj:j=w.heap.size
  ·subst hj; rw [if_pos rfl]; exact Lib.bytesWorld_at_new w el b
  rw [if_neg hj]
  by_cases hj2:j<w.heap.size
  ·exact Lib.bytesWorld_at_old w el b j hj2
  rw [Array.getElem?_eq_none (by omega),Array.getElem?_eq_none (by omega)]
 obtain ⟨k1,k2⟩:=zo4 hi (.arr G.tick el 1 (str.map eB)) (Lib.bytesCells w el b).size (Lib.bytesWorld w el b) (w.drawn+1) rfl (Nat.le_succ _) ⟨_,hpush⟩ rfl
  ⟨_,⟨_,Lib.bytesWorld_at_new w el b,.inr (qR _)⟩,rfl,by show (str.map eB).length≤(Lib.bytesCells w el b).size; rw [List.length_map,hcs]; omega,fun i p hp=>by
   have hil:i<str.length:=by have:=(List.getElem?_eq_some_iff.1 hp).1; simpa using this
   rw [List.getElem?_map,List.getElem?_eq_getElem hil]at hp
   cases hp
   refine ⟨rfl,.int .u8 (str[i].toNat:Int),?_,.imm _ _ (.int _ _)⟩
   have:=Lib.bytesWorld_cell w el b i (by omega)
   simp only[World.cell?,Lib.bytesWorld_at_new,Option.isSome_none,qF,if_false]at this
   rw [this,hb,List.getD_eq_getElem?_getD,List.getElem?_eq_getElem hil]
   rfl⟩
 unfold Oper.wp
 rw [hr]
 refine hk (.loc G.er.obs.length G.er.tick 0 str.length) _ _ _ _ (by rw [ztz]; exact h) k1 k2 ?_
 rw [hlen]
 exact zub (et:=el) (sz:=1) (cells:=str.map eB) (l:=⟨w.heap.size,(Lib.bytesCells w el b).size⟩) _ _ _ (by simp) (Nat.lt_succ_self _) rfl hge (grownCap_le_maxLen w _ _ _ (by unfold maxLen; omega)) (by rw [Nat.mul_one]; exact hcs.symm)
def zzf (P:Program) (T:Tab) (ops:Array Oper) (Q:Env→Store→Prop):Nat→List Oper→Env→Store→Prop
 | _,[],e,S=>Q e S
 | 0,o::l,e,S=>∃ (s d el:TypeId) (x:Operand) (str:List UInt8),o.guard=none∧o.op = .convert s d x∧(T s).kd = .str∧(T d).kd = .slice el∧(T el).kd = .int .u8∧e.ev x = .str str∧str.length≤1048576 ∧
   z1y P T ops Q l (e.put o.dst (.loc S.obs.length S.tick 0 str.length)) (S.push el 1 (str.map eB))
 | k+1,o::l,e,S=>o.guard=none∧pOp P T e S o.op fun v S'=>zzf P T ops Q k l (e.put o.dst v) S'
theorem zqr {R:Option Nat} {nn:Nat} (hT:zb2 P T) {ops:Array Oper} {Q:Env→Store→Prop}:∀ (k:Nat) (l:List Oper) {e:Env} {F:Nat→Prop} {G:GSt} {a:Act} {w:World},zzf P T ops Q k l e G.er→Inv F G w→zfd w.heap F G e a →
  Next F0 G0 w0 F G w→a.tmps.size=N→Marks w0 a.defers w→(∀ o∈l,∀ d,o.dst=some d→d<N)→wpListIn (fnc R) nn P ops (Sto F0 G0 w0 N (Nrm Q)) l a w
 | _,[],e,F,G,a,w,h,hi,he,hn,hs,hd,_=>by
  have h':Q e G.er:=by unfold zzf at h; exact h
  exact ⟨e,F,G,h',hi,he,hn,hs,hd⟩
 | 0,o::l,e,F,G,a,w,h,hi,he,hn,hs,hd,hdst=>by
  have ho:∀ t,o.dst=some t→t<a.tmps.size:=fun t ht=>by rw [hs]; exact hdst o (by simp) t ht
  have hl:∀ o∈l,∀ d,o.dst=some d→d<N:=fun o' h'=>hdst o' (by simp [h'])
  unfold zzf at h
  obtain ⟨s,d,el,x,str,hg,hop,q1,q2,q3,q4,q5,h⟩:=h
  unfold wpListIn
  have hw:Region.wanted o (yielded ops a.tmps)=true:=by unfold Region.wanted; rw [hg]
  rw [if_pos hw]
  refine yf4 (by rw [hop]; intro c q; cases q) (z9h hT hi he hop q1 q2 q3 q4 q5 (K:=fun v S'=>v = .loc G.er.obs.length G.er.tick 0 str.length∧S'=G.er.push el 1 (str.map eB)) ⟨rfl,rfl⟩ ?_)
  rintro v cv F' G' w' ⟨rfl,hE⟩ i1 i2 i3
  refine zj0 hT l (by rw [hE]; exact h) i1 ((he.next hi i2).put _ ho i3) (hn.trans i2) (by rw [ze2]; exact hs) (by rw [zc7]; exact hd.next hi i2) hl
 | k+1,o::l,e,F,G,a,w,h,hi,he,hn,hs,hd,hdst=>by
  have ho:∀ t,o.dst=some t→t<a.tmps.size:=fun t ht=>by rw [hs]; exact hdst o (by simp) t ht
  have hl:∀ o∈l,∀ d,o.dst=some d→d<N:=fun o' h'=>hdst o' (by simp [h'])
  unfold zzf at h
  obtain ⟨hg,h⟩:=h
  unfold wpListIn
  have hw:Region.wanted o (yielded ops a.tmps)=true:=by unfold Region.wanted; rw [hg]
  rw [if_pos hw]
  refine zin hT hi he h ?_
  intro v cv F' G' w' hK i1 i2 i3
  exact zqr hT k l hK i1 ((he.next hi i2).put _ ho i3) (hn.trans i2) (by rw [ze2]; exact hs) (by rw [zc7]; exact hd.next hi i2) hl
end
section
variable {P:Program} {T:Tab} {Q:Exit→Env→Store→Prop} {e:Env} {S:Store} {b:Code}
theorem W.region_t (k:Nat) {id:Nat} {ops:Array Oper} (h:zzf P T ops (Q .normal) k ops.toList e S):W P T (.region id ops false) Q e S:=by
 refine ⟨?_⟩
 intro hT hm F0 G0 w0 N F G a w h3 h4 h5 h6 h7 h8 h9 R nn
 subst h3
 refine wpIn_mono (wpIn_region_list (zqr hT k _ h h4 h5 h6 h7 h8 (zpq h9))) ?_
 exact zwv
def ygb (P:Program) (T:Tab) (ds:List (Option Tmp)) (o:Oper) (l:List Oper) (e:Env) (S:Store) (K:Env→Store→Prop):Prop :=
 ∃ (s d el:TypeId) (x:Operand) (str:List UInt8),o.guard=none∧o.op = .convert s d x∧(T s).kd = .str∧(T d).kd = .slice el∧(T el).kd = .int .u8∧e.ev x = .str str∧str.length≤1048576 ∧
  zbp false P T ds l (e.put o.dst (.loc S.obs.length S.tick 0 str.length)) (S.push el 1 (str.map eB)) K
theorem zqs {ops:Array Oper} {K K':Env→Store→Prop} (h:∀ e S,K e S→K' e S):∀ (l:List Oper) {e:Env} {S:Store},z1y P T ops K l e S→z1y P T ops K' l e S
 | [],e,S,k=>h e S k
 | o::l,e,S,k=>by
  unfold z1y zdj at k ⊢
  cases hg:gdec ops o e with
  | none=>rw [hg]at k; exact k.elim
  | some b =>
   rw [hg]at k
   cases b with
   | true=>exact zd4 (fun v S' k=>zqs h l k) k
   | false=>exact zqs h l k
theorem zxd {ops:Array Oper} {K:Env→Store→Prop} {o:Oper} {l2:List Oper}:∀ (l1:List Oper) {e:Env} {S:Store},l1.all (fun o=>o.guard.isNone)=true →
  z1y P T ops (fun e S=>∃ (s d el:TypeId) (x:Operand) (str:List UInt8),o.guard=none∧o.op = .convert s d x∧(T s).kd = .str∧(T d).kd = .slice el∧(T el).kd = .int .u8∧e.ev x = .str str∧str.length≤1048576 ∧
   z1y P T ops K l2 (e.put o.dst (.loc S.obs.length S.tick 0 str.length)) (S.push el 1 (str.map eB))) l1 e S→zzf P T ops K l1.length (l1++o::l2) e S
 | [],e,S,_,h=>h
 | q::l1,e,S,hg,h=>by
  simp only[List.all_cons,qB,Option.isNone_iff_eq_none]at hg
  show q.guard=none∧_
  refine ⟨hg.1,?_⟩
  unfold z1y zdj gdec at h
  rw [hg.1]at h
  exact zd4 (fun v S' h=>zxd l1 hg.2 h) h
theorem W.seq_thaw {id:Nat} {l1 l2:List Oper} {o:Oper} (hg:l1.all (fun o=>o.guard.isNone)=true) (h:∀ K:Env→Store→Prop,(∀ e S,W P T b Q e S→K e S)→zbp false P T (dsts (l1++o::l2)) l1 e S fun e S=>ygb P T (dsts (l1++o::l2)) o l2 e S K) :
  W P T (.seq (.region id (l1++o::l2).toArray false) b) Q e S:=by
 refine W.seq (W.region_t l1.length ?_)
 have h1:=zjc l1 e S (h _ fun _ _ h=>h)
 refine zxd l1 hg (zqs ?_ l1 h1)
 rintro e S ⟨s,d,el,x,str,q1,q2,q3,q4,q5,q6,q7,q8⟩
 exact ⟨s,d,el,x,str,q1,q2,q3,q4,q5,q6,q7,zjc l2 _ _ q8⟩
end
end
abbrev eBy (l:Txt):PV := .sl (l.map eB) l.length
theorem zz3 {a b:Nat}:((a:Nat):Int).tmod ((b:Nat):Int)=((a % b:Nat):Int):=(Int.ofNat_tmod a b).symm
theorem yd5 {a b:Nat}:((a:Nat):Int).tdiv ((b:Nat):Int)=((a / b:Nat):Int):=(Int.ofNat_tdiv a b).symm
theorem ygw {a b:Nat} (ha:a<1099511627776) (hb:b<1099511627776):IntKind.i64.wrap ((BitVec.ofInt IntKind.i64.bits (a:Int) ^^^ BitVec.ofInt IntKind.i64.bits (b:Int)).toNat:Int)=((a ^^^ b:Nat):Int):=by
 have h1:(BitVec.ofInt 64 (a:Int)).toNat=a:=by simp [BitVec.toNat_ofInt]; omega
 have h2:(BitVec.ofInt 64 (b:Int)).toNat=b:=by simp [BitVec.toNat_ofInt]; omega
 have h3:(BitVec.ofInt IntKind.i64.bits (a:Int) ^^^ BitVec.ofInt IntKind.i64.bits (b:Int)).toNat=a ^^^ b:=by
  show (BitVec.ofInt 64 (a:Int) ^^^ BitVec.ofInt 64 (b:Int)).toNat=_
  rw [BitVec.toNat_xor,h1,h2]
 have h4:a ^^^ b<1099511627776:=Nat.xor_lt_two_pow (n:=40) ha hb
 rw [h3]
 exact w64 (by omega) (by omega)
theorem yfw {k:Nat}:((k:Nat):Int).tdiv 64=((k / 64:Nat):Int):=(Int.ofNat_tdiv k 64).symm
theorem sf0:((64:Int)=0)=False:=by simp
def rdO (vr:Nat) (code:Txt) (q:Nat):Ob := .arr vr 96 2 [eBy code,.int .i64 (q:Int)]
theorem z6c {code:Txt} (hc:code.length≤1048576):PN Tryz.prog 32 [eBy code] (.ref 0 0 0) [rdO 0 (code.take 2000) 0] true:=by
 refine PN.of ⟨Tryz.func32,by kernel_rfl,rfl,by kernel_rfl⟩ zap mixed (by show 1≤Tryz.f32.ntmps; decide) ?_
 refine W.r fun K hK=>?_
 simp(disch:=omega)only[↓RU,RV,RH,↓reduceIte,qE,reduceCtorEq,if_pos,↓RS,RG,qA,qM,qL]
 apply hK;clear hK K
 refine W.seq ?_
 refine W.r fun K hK=>?_
 simp(disch:=omega)only[↓RU,RV,RH,↓reduceIte,qE,reduceCtorEq,if_pos,w64,↓RS,RG,qA,qM,qL,ty6,zaa,zen]
 apply hK;clear hK K
 refine W.cond rfl (fun h=>?_) (fun h=>?_)
 ·try simp only[RL]at h
  refine W.k fun K hK=>?_
  simp(disch:=omega)only[↓RU,RV,RH,↓reduceIte,qE,reduceCtorEq,if_pos,Option.map_none,↓RS,RG,qA,qM,qL,ty6,zen]
  apply hK;clear hK K
  refine xn ?_
  refine W.r fun K hK=>?_
  simp(disch:=omega)only[↓RU,RV,RH,↓reduceIte,qE,reduceCtorEq,if_pos,↓RS,RG,qA,qM,qL,ty6,zaa,yau,yav,zen]
  apply hK;clear hK K
  refine W.ret ?_
  refine Br rfl ?_
  have e:(code.take 2000).length=2000:=by rw [List.length_take]; omega
  refine ⟨1,rfl,?_⟩
  simp [Store.take,zi6,zyo,sh,rdO,eBy,e,List.map_take]
 try simp only[RL]at h
 refine W.skip ?_
 refine xn ?_
 refine W.r fun K hK=>?_
 simp(disch:=omega)only[↓RU,RV,RH,↓reduceIte,qE,reduceCtorEq,if_pos,↓RS,RG,qA,qM,qL,ty6,zaa,yau,yav,zen]
 apply hK;clear hK K
 refine W.ret ?_
 refine Br rfl ?_
 have e:code.take 2000=code:=qT (by omega)
 refine ⟨1,rfl,?_⟩
 simp [Store.take,zi6,zyo,sh,rdO,eBy,e]
theorem z97 {code:Txt} {q vr t:Nat} {R:List Ob} (hc:code.length≤1048576) (hq:q≤1000000) (n:Int) (hn:n≤1000000) (hn0 : -1000000≤n):Ev Tryz.prog 34 [.ref 0 vr 0,.int .i64 n] ⟨.arr vr 96 2 [eBy code,.int .i64 (q:Int)]::R,t⟩ fun v S=>∃ k:Nat,v = .int .i64 (k:Int)∧(n<1→k=0)∧(1≤n→(k:Int)<n)∧S=⟨.arr vr 96 2 [eBy code,.int .i64 ((q:Int)+1)]::R,t⟩:=by
 refine Ev.of ⟨Tryz.func34,by kernel_rfl,rfl,by kernel_rfl⟩ zap mixed (by show 2≤Tryz.f34.ntmps; decide) ?_
 refine W.r fun K hK=>?_
 simp(disch:=omega)only[↓RU,RV,RH,↓reduceIte,qE,reduceCtorEq,if_pos,↓RS,RG,qA,qM,qL]
 apply hK;clear hK K
 refine W.r fun K hK=>?_
 simp(disch:=omega)only[↓RU,RV,RH,↓reduceIte,qE,reduceCtorEq,if_pos,w64,↓RS,RG,qA,qM,qL,ty6,zaa,yau,yav,zen]
 apply hK;clear hK K
 refine W.seq ?_
 refine W.r fun K hK=>?_
 by_cases hn1:n<1
 ·skip
  have hd:decide (n<1)=true:=decide_eq_true hn1
  simp(disch:=omega)only[↓RU,RV,RH,↓reduceIte,qE,reduceCtorEq,if_pos,w64,↓RS,RG,qA,qM,qL,ty6,zaa,yau,yav,zen,hd]
  apply hK;clear hK K
  refine W.cond rfl (fun h0=>?_) (fun h0=>?_)
  ·try simp only[RL]at h0
   refine W.r fun K hK=>?_
   simp(disch:=omega)only[↓RU,RV,RH,↓reduceIte,qE,reduceCtorEq,if_pos,↓RS,RG,qA,qM,qL]
   apply hK;clear hK K
   refine W.ret ?_
   refine XThen.ret ?_
   refine Br rfl ?_
   exact ⟨_,0,rfl,fun _=>rfl,fun h9=>by omega,zak⟩
  try simp only[RL]at h0
  exact absurd h0 (by simp)
 skip
 have hd:decide (n<1)=false:=decide_eq_false hn1
 obtain ⟨m,rfl⟩:∃ m:Nat,n=m:=⟨n.toNat,by omega⟩
 simp(disch:=omega)only[↓RU,RV,RH,↓reduceIte,qE,reduceCtorEq,if_pos,w64,↓RS,RG,qA,qM,qL,ty6,zaa,yau,yav,zen,hd]
 apply hK;clear hK K
 refine W.cond rfl (fun h0=>?_) (fun h0=>?_)
 ·try simp only[RL]at h0
  have hl0:code.length=0:=by simpa using h0
  refine W.r fun K hK=>?_
  simp(disch:=omega)only[↓RU,RV,RH,↓reduceIte,qE,reduceCtorEq,if_pos,↓RS,RG,qA,qM,qL]
  apply hK;clear hK K
  refine W.ret ?_
  refine XThen.ret ?_
  refine Br rfl ?_
  exact ⟨_,0,rfl,fun _=>rfl,fun h9=>by omega,zak⟩
 try simp only[RL]at h0
 have hl0:code.length≠0:=by intro h9; rw [h9]at h0; simp at h0
 obtain ⟨L,hL⟩:∃ L:Nat,code.length=L:=⟨_,rfl⟩
 have hLi:((L:Int)=0)=False:=by simp; omega
 have hmi:((m:Int)=0)=False:=by simp; omega
 rw [hL]at hl0 hc
 refine W.skip ?_
 refine xn ?_
 refine W.r fun K hK=>?_
 simp(disch:=omega)only[↓RU,RV,RH,↓reduceIte,qE,reduceCtorEq,if_pos,w64,↓RS,RG,qA,qM,qL,ty6,zaa,yau,yav,zen]
 apply hK;clear hK K
 simp only[show ((q:Int)+1 - 1)=(q:Int) from by omega]
 refine W.seq ?_
 refine W.r fun K hK=>?_
 simp(disch:=omega)only[↓RU,RV,RH,↓reduceIte,qE,reduceCtorEq,if_pos,w64,↓RS,RG,qA,qM,qL,ty6,zaa,yau,yav,zen,hL]
 apply hK;clear hK K
 refine W.cond rfl (fun h1=>?_) (fun h1=>?_)
 ·try simp only[RL]at h1
  obtain ⟨c,hcq,-⟩:=zag (show q<code.length by omega)
  have hc8:=c.toNat_lt
  refine W.r fun K hK=>?_
  simp(disch:=omega)only[↓RU,RV,RH,↓reduceIte,qE,reduceCtorEq,if_pos,w64,w64,↓RS,RG,qA,qM,qL,ty6,zaa,yau,yav,zen,hcq,hmi,zz3]
  apply hK;clear hK K
  refine W.ret ?_
  refine XThen.ret ?_
  refine Br rfl ?_
  exact ⟨_,_,rfl,fun h9=>by omega,fun _=>by have:=Nat.mod_lt c.toNat (show 0<m by omega); omega,zak⟩
 try simp only[RL]at h1
 obtain ⟨c1,hc1,-⟩:=zag (show q % L<code.length by rw [hL]; exact Nat.mod_lt _ (by omega))
 obtain ⟨c2,hc2,-⟩:=zag (show (q*7+3) % L<code.length by rw [hL]; exact Nat.mod_lt _ (by omega))
 have hb1:=c1.toNat_lt
 have hb2:=c2.toNat_lt
 have hq7:(q:Int)*7+3=((q*7+3:Nat):Int):=by omega
 obtain ⟨d,hd⟩:∃ d,q / L=d:=⟨_,rfl⟩
 have hqL:d≤q:=hd ▸ Nat.div_le_self _ _
 have hml1:=Nat.mod_lt q (show 0<L by omega)
 have hml2:=Nat.mod_lt (q*7+3) (show 0<L by omega)
 refine W.skip ?_
 refine xn ?_
 refine W.seq_draw (by kernel_rfl) fun K hK=>?_
 simp(disch:=omega)only[↓RU,RV,RH,↓reduceIte,qE,reduceCtorEq,if_pos,w64,w64,↓RS,RG,qA,qM,qL,ty6,zaa,yau,yav,zen,hL,hLi,zz3,yd5,hc1,hc2,hq7,hd]
 apply hK;clear hK K
 obtain ⟨Y,hY⟩:∃ Y:Nat,(c1.toNat:Int)*131+(c2.toNat:Int)*1117+(q:Int)*29+(d:Int)*53=Y:=⟨c1.toNat*131+c2.toNat*1117+q*29+d*53,by omega⟩
 have hYb:Y<1099511627776:=by omega
 have hYd:Y / 64<1099511627776:=by omega
 simp only[hY]
 refine W.r fun K hK=>?_
 simp(disch:=omega)only[↓RU,RV,RH,↓reduceIte,qE,reduceCtorEq,if_pos,w64,↓RS,RG,qA,qM,qL,zaa,sf0,yfw,ygw hYb hYd]
 apply hK;clear hK K
 refine W.r fun K hK=>?_
 simp(disch:=omega)only[↓RU,RV,RH,↓reduceIte,qE,reduceCtorEq,if_pos,w64,↓RS,RG,qA,qM,qL,zaa,hmi,zz3]
 apply hK;clear hK K
 refine W.ret ?_
 refine Br rfl ?_
 exact ⟨_,_,rfl,fun h9=>by omega,fun _=>by have:=Nat.mod_lt (Y ^^^ Y / 64) (show 0<m by omega); omega,zak⟩
theorem yfn {l:Txt} {a:Nat} {c:UInt8}:(l.map eB).set a (.int .u8 (c.toNat:Int))=(l.set a c).map eB:=by rw [List.map_set]
theorem zry (l:Txt):zge (l.map eB)=some l:=zkt l
theorem zf7  : PC Tryz.prog 155 [] (.tup [zav [],.bool false]) true:=by
 refine PC.of ⟨Tryz.func155,by kernel_rfl,rfl,by kernel_rfl⟩ zap mixed (by show 0≤Tryz.f155.ntmps; decide) ?_
 refine W.r fun K hK=>?_
 simp(disch:=omega)only[↓RU,RV,RH,↓reduceIte,qE,reduceCtorEq,if_pos,↓RS,RG,qA,qM,qL]
 apply hK;clear hK K
 refine W.r fun K hK=>?_
 simp(disch:=omega)only[↓RU,RV,RH,↓reduceIte,qE,reduceCtorEq,if_pos,↓RS,RG,qA,qM,qL,ty5,zac]
 apply hK;clear hK K
 refine W.ret ?_
 refine Br rfl ?_
 exact zid (k:=9) (zcv (k:=8) (n:=0) rfl rfl rfl) rfl
theorem zt7 {p:List Txt} (hs:Sm p) {tp lf hg wd:Nat} {c:UInt8} (h1:tp+hg≤p.length) (h2:∀ row∈p,lf+wd≤row.length):PC Tryz.prog 105 [zav p,.int .i64 tp,.int .i64 lf,.int .i64 hg,.int .i64 wd,eB c] (zav (zjl p tp lf wd c (tp+hg))) true:=by
 obtain ⟨hs1,hs2⟩:=hs
 refine PC.of ⟨Tryz.func105,by kernel_rfl,rfl,by kernel_rfl⟩ zap mixed (by show 6≤Tryz.f105.ntmps; decide) ?_
 refine W.r fun K hK=>?_
 simp(disch:=omega)only[↓RU,RV,RH,↓reduceIte,qE,reduceCtorEq,if_pos,↓RS,RG,qA,qM,qL]
 apply hK;clear hK K
 refine W.r fun K hK=>?_
 simp(disch:=omega)only[↓RU,RV,RH,↓reduceIte,qE,reduceCtorEq,if_pos,↓RS,RG,qA,qM,qL,ty5,zac]
 apply hK;clear hK K
 refine W.seq ?_
 refine W.r fun K hK=>?_
 simp(disch:=omega)only[↓RU,RV,RH,↓reduceIte,qE,reduceCtorEq,if_pos,↓RS,RG,qA,qM,qL]
 apply hK;clear hK K
 refine W.block ?_
 refine W.loop [0,1,2,3,4,5,13,14] (fun n vs S=>∃ j t v:Nat,n=hg - j∧j≤hg∧vs=[zav p,.int .i64 tp,.int .i64 lf,.int .i64 hg,.int .i64 wd,eB c,.loc 0 v 0 p.length,.int .i64 ((tp+j:Nat):Int)]∧S=⟨[.arr v 9 1 ((zjl p tp lf wd c (tp+j)).map .str)],t⟩) hg ?_ ?_
 ·refine ⟨1,0,2,1,rfl,by omega,?_,?_⟩
  ·simp [Env.put,Env.of,zaf]
  simp [zbe,z32]
 rintro n vs S - ⟨j,t,v,rfl,h_j,rfl,rfl⟩
 refine W.seq ?_
 refine W.r fun K hK=>?_
 simp(disch:=omega)only[↓RU,RV,RH,↓reduceIte,qE,reduceCtorEq,if_pos,w64,↓RS,RG,qA,qM,qL,zaa]
 apply hK;clear hK K
 refine W.cond rfl (fun h=>?_) (fun h=>?_)
 ·try simp only[RL]at h
  obtain ⟨i,hi⟩:∃ i,tp+j=i:=⟨_,rfl⟩
  simp only[hi]
  obtain ⟨row,hrow0,hrm⟩:=zag (show i<p.length by omega)
  have hrow:=yab (t:=tp) (l:=lf) (w:=wd) (c:=c) hrow0
  have hlen:=zha (p:=p) (t:=tp) (l:=lf) (w:=wd) (c:=c) (i:=i)
  have hr1:=hs2 row hrm
  have hr2:=h2 row hrm
  refine W.skip ?_
  refine xn ?_
  refine W.seq ?_
  refine W.block ?_
  refine W.seq_thaw (l1:=[_,_,_,_]) (o:=_) (l2:=[_]) rfl fun K hK=>?_
  simp(disch:=omega)only[↓RU,RV,RH,↓reduceIte,qE,reduceCtorEq,if_pos,w64,↓RS,RG,qA,qM,qL,ty5,ty6,zac,zen,hrow,hlen]
  refine ⟨_,_,_,_,_,rfl,rfl,rfl,rfl,rfl,rfl,by omega,?_⟩
  simp(disch:=omega)only[↓RU,RV,RH,↓reduceIte,qE,reduceCtorEq,if_pos,w64,↓RS,RG,qA,qM,qL,ty5,ty6,zac,zen,hrow,hlen]
  apply hK;clear hK K
  refine W.seq ?_
  refine W.r fun K hK=>?_
  simp(disch:=omega)only[↓RU,RV,RH,↓reduceIte,qE,reduceCtorEq,if_pos,↓RS,RG,qA,qM,qL]
  apply hK;clear hK K
  refine W.block ?_
  refine W.loop [0,1,2,3,4,5,13,14,15,16] (fun n vs S=>∃ k t2:Nat,n=wd - k∧k≤wd∧vs=[zav p,.int .i64 tp,.int .i64 lf,.int .i64 hg,.int .i64 wd,eB c,.loc 0 v 0 p.length,.int .i64 (i:Int),.loc 1 t 0 row.length,.int .i64 ((lf+k:Nat):Int)]∧S=⟨[.arr v 9 1 ((zjl p tp lf wd c i).map .str),.arr t 5 1 ((ziz row lf c (lf+k)).map eB)],t2⟩) wd ?_ ?_
  ·refine ⟨2,0,t+1,rfl,by omega,?_,?_⟩
   ·simp [Env.put,Env.of]
   simp [zbe,zzp]
  rintro n vs S - ⟨k,t2,rfl,h_k,rfl,rfl⟩
  refine W.seq ?_
  refine W.r fun K hK=>?_
  simp(disch:=omega)only[↓RU,RV,RH,↓reduceIte,qE,reduceCtorEq,if_pos,w64,↓RS,RG,qA,qM,qL,zaa]
  apply hK;clear hK K
  refine W.cond rfl (fun h3=>?_) (fun h3=>?_)
  ·try simp only[RL]at h3
   have hrl:=zj5 (row:=row) (l:=lf) (k:=lf+k) (c:=c)
   refine W.skip ?_
   refine xn ?_
   refine W.seq ?_
   refine W.block ?_
   refine W.k fun K hK=>?_
   simp(disch:=omega)only[↓RU,RV,RH,↓reduceIte,qE,reduceCtorEq,if_pos,↓RS,RG,qA,qM,qL,ty6,zen,hrl,zb5,yfn]
   apply hK;clear hK K
   refine XbN ?_
   refine xn ?_
   refine W.k fun K hK=>?_
   simp(disch:=omega)only[↓RU,RV,RH,↓reduceIte,qE,reduceCtorEq,if_pos,w64,↓RS,RG,qA,qM,qL,zaa]
   apply hK;clear hK K
   refine xn ?_
   refine ⟨wd - (k+1),by omega,2,k+1,t2,rfl,by omega,?_,?_⟩
   ·simp [Env.put,Env.of]; omega
   simp only[zbe]; rw [zzo (by omega) (by omega)]; rfl
  try simp only[RL]at h3
  obtain rfl:k=wd:=by omega
  have hrl:=zj5 (row:=row) (l:=lf) (k:=lf+k) (c:=c)
  have htk:((ziz row lf c (lf+k)).map eB).take row.length=(ziz row lf c (lf+k)).map eB:=qT (by simp [hrl])
  refine W.exit ?_
  refine xe ?_
  refine xe ?_
  refine XBlock.hit ?_
  refine xn ?_
  refine W.k fun K hK=>?_
  simp(disch:=omega)only[↓RU,RV,RH,↓reduceIte,qE,reduceCtorEq,if_pos,w64,↓RS,RG,qA,qM,qL,ty5,ty6,zac,zen,hrl,htk,zry,hlen,zb5,zra,zi9,List.length_cons,List.length_nil,qO]
  apply hK;clear hK K
  refine XbN ?_
  refine xn ?_
  refine W.k fun K hK=>?_
  simp(disch:=omega)only[↓RU,RV,RH,↓reduceIte,qE,reduceCtorEq,if_pos,w64,↓RS,RG,qA,qM,qL,zaa]
  apply hK;clear hK K
  refine xn ?_
  refine ⟨hg - (j+1),by omega,1,j+1,t2,v,rfl,by omega,?_,?_⟩
  ·subst hi; simp [Env.put,Env.of]; omega
  subst hi; simp only[zbe,List.take_succ_cons,List.take_zero]; rw [z31 (by omega) hrow0]; rfl
 try simp only[RL]at h
 refine W.exit ?_
 refine xe ?_
 refine xe ?_
 refine XBlock.hit ?_
 refine xn ?_
 refine W.r fun K hK=>?_
 simp(disch:=omega)only[↓RU,RV,RH,↓reduceIte,qE,reduceCtorEq,if_pos,↓RS,RG,qA,qM,qL]
 apply hK;clear hK K
 refine W.ret ?_
 refine Br rfl ?_
 obtain rfl:j=hg:=by omega
 exact (zcv (k:=9) rfl (by simp [zha]) (zox _)).trans (by simp [zha])
theorem zqb {p:List Txt} (hs:Sm p):PC Tryz.prog 156 [zav p] (.tup [zav (zi1 p).1,.bool (zi1 p).2]) false:=by
 refine PC.of ⟨Tryz.func156,by kernel_rfl,rfl,by kernel_rfl⟩ zap mixed (by show 1≤Tryz.f156.ntmps; decide) ?_
 refine W.r fun K hK=>?_
 simp(disch:=omega)only[↓RU,RV,RH,↓reduceIte,qE,reduceCtorEq,if_pos,↓RS,RG,qA,qM,qL]
 apply hK;clear hK K
 refine W.seq ?_
 refine W.r fun K hK=>?_
 rcases hgg:(zc4 p,zbw (names p)) with ⟨_ | _,_ | _⟩
 ·skip
  simp only[Prod.mk.injEq]at hgg
  obtain ⟨hg1,hg2⟩:=hgg
  simp(disch:=omega)only[↓RU,RV,RH,↓reduceIte,qE,reduceCtorEq,if_pos,qN,↓RS,RG,qA,qM,qL,hg1,hg2]
  refine zad.pc (zf6 hs) rfl (.inl rfl) ?_
  simp(disch:=omega)only[↓RU,RV,RH,↓reduceIte,qE,reduceCtorEq,if_pos,qN,↓RS,RG,qA,qM,qL,hg1,hg2]
  apply hK;clear hK K
  refine W.cond rfl (fun h=>?_) (fun h=>?_)
  ·try simp only[RL]at h
   refine W.r fun K hK=>?_
   simp(disch:=omega)only[↓RU,RV,RH,↓reduceIte,qE,reduceCtorEq,if_pos,qN,↓RS,RG,qA,qM,qL]
   refine zad.pc (zf7) rfl (.inl rfl) ?_
   simp(disch:=omega)only[↓RU,RV,RH,↓reduceIte,qE,reduceCtorEq,if_pos,qN,↓RS,RG,qA,qM,qL]
   apply hK;clear hK K
   refine W.ret ?_
   refine XThen.ret ?_
   refine Br rfl ?_
   rw [show zi1 p=([],false) by unfold zi1; rw [hg1]; rfl]
   rfl
  try simp only[RL]at h
  exact absurd h (by simp)
 ·skip
  simp only[Prod.mk.injEq]at hgg
  obtain ⟨hg1,hg2⟩:=hgg
  simp(disch:=omega)only[↓RU,RV,RH,↓reduceIte,qE,reduceCtorEq,if_pos,qN,↓RS,RG,qA,qM,qL,hg1,hg2]
  refine zad.pc (zf6 hs) rfl (.inl rfl) ?_
  simp(disch:=omega)only[↓RU,RV,RH,↓reduceIte,qE,reduceCtorEq,if_pos,qN,↓RS,RG,qA,qM,qL,hg1,hg2]
  apply hK;clear hK K
  refine W.cond rfl (fun h=>?_) (fun h=>?_)
  ·try simp only[RL]at h
   refine W.r fun K hK=>?_
   simp(disch:=omega)only[↓RU,RV,RH,↓reduceIte,qE,reduceCtorEq,if_pos,qN,↓RS,RG,qA,qM,qL]
   refine zad.pc (zf7) rfl (.inl rfl) ?_
   simp(disch:=omega)only[↓RU,RV,RH,↓reduceIte,qE,reduceCtorEq,if_pos,qN,↓RS,RG,qA,qM,qL]
   apply hK;clear hK K
   refine W.ret ?_
   refine XThen.ret ?_
   refine Br rfl ?_
   rw [show zi1 p=([],false) by unfold zi1; rw [hg1]; rfl]
   rfl
  try simp only[RL]at h
  exact absurd h (by simp)
 ·skip
  simp only[Prod.mk.injEq]at hgg
  obtain ⟨hg1,hg2⟩:=hgg
  simp(disch:=omega)only[↓RU,RV,RH,↓reduceIte,qE,reduceCtorEq,if_pos,qN,↓RS,RG,qA,qM,qL,hg1,hg2]
  refine zad.pc (zf6 hs) rfl (.inl rfl) ?_
  simp(disch:=omega)only[↓RU,RV,RH,↓reduceIte,qE,reduceCtorEq,if_pos,qN,↓RS,RG,qA,qM,qL,hg1,hg2]
  refine zad.pc (zh8 hs) rfl (.inl rfl) ?_
  simp(disch:=omega)only[↓RU,RV,RH,↓reduceIte,qE,reduceCtorEq,if_pos,qN,↓RS,RG,qA,qM,qL,hg1,hg2]
  refine zad.pc (zg2 hs.names) rfl (.inl rfl) ?_
  simp(disch:=omega)only[↓RU,RV,RH,↓reduceIte,qE,reduceCtorEq,if_pos,qN,↓RS,RG,qA,qM,qL,hg1,hg2]
  apply hK;clear hK K
  refine W.cond rfl (fun h=>?_) (fun h=>?_)
  ·try simp only[RL]at h
   refine W.r fun K hK=>?_
   simp(disch:=omega)only[↓RU,RV,RH,↓reduceIte,qE,reduceCtorEq,if_pos,qN,↓RS,RG,qA,qM,qL]
   refine zad.pc (zf7) rfl (.inl rfl) ?_
   simp(disch:=omega)only[↓RU,RV,RH,↓reduceIte,qE,reduceCtorEq,if_pos,qN,↓RS,RG,qA,qM,qL]
   apply hK;clear hK K
   refine W.ret ?_
   refine XThen.ret ?_
   refine Br rfl ?_
   rw [show zi1 p=([],false) by unfold zi1; rw [hg1,hg2]; rfl]
   rfl
  try simp only[RL]at h
  exact absurd h (by simp)
 skip
 simp only[Prod.mk.injEq]at hgg
 obtain ⟨hg1,hg2⟩:=hgg
 simp(disch:=omega)only[↓RU,RV,RH,↓reduceIte,qE,reduceCtorEq,if_pos,qN,↓RS,RG,qA,qM,qL,hg1,hg2]
 refine zad.pc (zf6 hs) rfl (.inl rfl) ?_
 simp(disch:=omega)only[↓RU,RV,RH,↓reduceIte,qE,reduceCtorEq,if_pos,qN,↓RS,RG,qA,qM,qL,hg1,hg2]
 refine zad.pc (zh8 hs) rfl (.inl rfl) ?_
 simp(disch:=omega)only[↓RU,RV,RH,↓reduceIte,qE,reduceCtorEq,if_pos,qN,↓RS,RG,qA,qM,qL,hg1,hg2]
 refine zad.pc (zg2 hs.names) rfl (.inl rfl) ?_
 simp(disch:=omega)only[↓RU,RV,RH,↓reduceIte,qE,reduceCtorEq,if_pos,qN,↓RS,RG,qA,qM,qL,hg1,hg2]
 apply hK;clear hK K
 refine W.cond rfl (fun h=>?_) (fun h=>?_)
 ·try simp only[RL]at h
  exact absurd h (by simp)
 try simp only[RL]at h
 refine W.skip ?_
 refine xn ?_
 refine W.r fun K hK=>?_
 simp(disch:=omega)only[↓RU,RV,RH,↓reduceIte,qE,reduceCtorEq,if_pos,qN,↓RS,RG,qA,qM,qL]
 refine zad.pc (zh8 hs) rfl (.inl rfl) ?_
 simp(disch:=omega)only[↓RU,RV,RH,↓reduceIte,qE,reduceCtorEq,if_pos,qN,↓RS,RG,qA,qM,qL]
 apply hK;clear hK K
 refine W.ret ?_
 refine Br rfl ?_
 rw [show zi1 p=(names p,true) by unfold zi1; rw [hg1,hg2]; rfl]
 rfl
theorem zob {p:List Txt} (hs:Sm p) (room:Int) {s:Txt} (hsl:s.length≤1048576) (k:Int):PC Tryz.prog 138 [zav p,.int .i64 room,.str s,.int .i64 k] (.tup [zav (zfq p room s k).1,.bool (zfq p room s k).2]) false:=by
 have hrb:=zdp p
 refine PC.of ⟨Tryz.func138,by kernel_rfl,rfl,by kernel_rfl⟩ zap mixed (by show 4≤Tryz.f138.ntmps; decide) ?_
 refine W.r fun K hK=>?_
 simp(disch:=omega)only[↓RU,RV,RH,↓reduceIte,qE,reduceCtorEq,if_pos,↓RS,RG,qA,qM,qL]
 apply hK;clear hK K
 refine W.seq ?_
 refine W.r fun K hK=>?_
 simp(disch:=omega)only[↓RU,RV,RH,↓reduceIte,qE,reduceCtorEq,if_pos,qN,↓RS,RG,qA,qM,qL]
 refine zad.pc (z3j hs room) rfl (.inl rfl) ?_
 simp(disch:=omega)only[↓RU,RV,RH,↓reduceIte,qE,reduceCtorEq,if_pos,qN,↓RS,RG,qA,qM,qL]
 apply hK;clear hK K
 refine W.cond rfl (fun h0=>?_) (fun h0=>?_)
 ·try simp only[RL]at h0
  have hgv:(zbw p && (decide (0≤room) && decide (room≤za2 p - 1)))=false:=by simpa using h0
  refine W.r fun K hK=>?_
  simp(disch:=omega)only[↓RU,RV,RH,↓reduceIte,qE,reduceCtorEq,if_pos,qN,↓RS,RG,qA,qM,qL]
  refine zad.pc (zf7) rfl (.inl rfl) ?_
  simp(disch:=omega)only[↓RU,RV,RH,↓reduceIte,qE,reduceCtorEq,if_pos,qN,↓RS,RG,qA,qM,qL]
  apply hK;clear hK K
  refine W.ret ?_
  refine XThen.ret ?_
  refine Br rfl ?_
  first | (rw [zhs hgv]; rfl) | (rw [zht hgv e1 e2 e3 e4 hB1]; rfl) | (rw [zhu hgv e1 e2 e3 e4 hB1 hB2]; rfl) | (rw [zgb hB1 hB2]; rfl)
 try simp only[RL]at h0
 have hgv:(zbw p && (decide (0≤room) && decide (room≤za2 p - 1)))=true:=by simpa using h0
 have hgv2:=hgv
 simp only[qB,decide_eq_true_eq]at hgv2
 obtain ⟨hp,hr0,hr1⟩:=hgv2
 obtain ⟨t,l,h,w,e1,e2,e3,e4,q1,q2,q3,q4⟩:=z98 hp hr0 hr1
 obtain ⟨ps1,ps2,ps3⟩:=znc hp
 have hrw:∀ row∈p,row.length=(zao p).length:=fun row hr=>by obtain ⟨i,hi,rfl⟩:=List.getElem_of_mem hr; exact z75 hp (List.getElem?_eq_getElem hi)
 have hw6:(zao p).length≤6:=by obtain ⟨row,hrow,hrm⟩:=zag ps2; rw [← hrw row hrm]; exact (ps3 row hrm).2
 refine W.skip ?_
 refine xn ?_
 refine W.r fun K hK=>?_
 simp(disch:=omega)only[↓RU,RV,RH,↓reduceIte,qE,reduceCtorEq,if_pos,qN,↓RS,RG,qA,qM,qL,e1,e2,e3,e4]
 refine zad.pc (zwi hs (by omega) room) rfl (.inl rfl) ?_
 simp(disch:=omega)only[↓RU,RV,RH,↓reduceIte,qE,reduceCtorEq,if_pos,qN,↓RS,RG,qA,qM,qL,e1,e2,e3,e4]
 apply hK;clear hK K
 refine W.seq ?_
 refine W.block ?_
 refine W.r fun K hK=>?_
 cases hb1:(s == ([104]:Txt))
 ·skip
  have hB1:((s == [104]) && (decide (1≤k) && decide (k≤zd9 p room - 1)))=false:=by rw [hb1]; rfl
  simp(disch:=omega)only[↓RU,RV,RH,↓reduceIte,qE,reduceCtorEq,if_pos,w64,qN,↓RS,RG,qA,qM,qL,zaa,zac,hb1,zvh]
  apply hK;clear hK K
  refine W.cond rfl (fun h1=>?_) (fun h1=>?_)
  ·try simp only[RL]at h1
   exact absurd h1 (by simp)
  try simp only[RL]at h1
  refine W.r fun K hK=>?_
  cases hb2:(s == ([118]:Txt))
  ·skip
   have hB2:((s == [118]) && (decide (1≤k) && decide (k≤zd0 p room - 1)))=false:=by rw [hb2]; rfl
   simp(disch:=omega)only[↓RU,RV,RH,↓reduceIte,qE,reduceCtorEq,if_pos,w64,qN,↓RS,RG,qA,qM,qL,zaa,zac,hb2,zvh]
   apply hK;clear hK K
   refine W.cond rfl (fun h2=>?_) (fun h2=>?_)
   ·try simp only[RL]at h2
    exact absurd h2 (by simp)
   try simp only[RL]at h2
   refine W.skip ?_
   refine XbN ?_
   refine xn ?_
   refine W.r fun K hK=>?_
   simp(disch:=omega)only[↓RU,RV,RH,↓reduceIte,qE,reduceCtorEq,if_pos,qN,↓RS,RG,qA,qM,qL]
   refine zad.pc (zf7) rfl (.inl rfl) ?_
   simp(disch:=omega)only[↓RU,RV,RH,↓reduceIte,qE,reduceCtorEq,if_pos,qN,↓RS,RG,qA,qM,qL]
   apply hK;clear hK K
   refine W.ret ?_
   refine Br rfl ?_
   first | (rw [zhs hgv]; rfl) | (rw [zht hgv e1 e2 e3 e4 hB1]; rfl) | (rw [zhu hgv e1 e2 e3 e4 hB1 hB2]; rfl) | (rw [zgb hB1 hB2]; rfl)
  skip
  simp(disch:=omega)only[↓RU,RV,RH,↓reduceIte,qE,reduceCtorEq,if_pos,w64,qN,↓RS,RG,qA,qM,qL,zaa,zac,hb2,zvh]
  refine zad.pc (zm6 _ _ _) rfl (.inl rfl) ?_
  simp(disch:=omega)only[↓RU,RV,RH,↓reduceIte,qE,reduceCtorEq,if_pos,w64,qN,↓RS,RG,qA,qM,qL,zaa,zac,hb2,zvh]
  apply hK;clear hK K
  refine W.cond rfl (fun h2=>?_) (fun h2=>?_)
  ·try simp only[RL]at h2
   have hB2:((s == [118]) && (decide (1≤k) && decide (k≤zd0 p room - 1)))=true:=by rw [hb2,e4]; exact h2
   have hk:=h2
   simp only[qB,decide_eq_true_eq]at hk
   obtain ⟨kn,rfl⟩:∃ kn:Nat,k=kn:=⟨k.toNat,by omega⟩
   refine W.r fun K hK=>?_
   simp(disch:=omega)only[↓RU,RV,RH,↓reduceIte,qE,reduceCtorEq,if_pos,w64,qN,↓RS,RG,qA,qM,qL,zaa,show ((l:Int)+(kn:Int))=((l+kn:Nat):Int) from by omega,show ((w:Int) - (kn:Int))=((w - kn:Nat):Int) from by omega]
   refine zad.pc (zt7 hs (tp:=t) (lf:=l+kn) (hg:=h) (wd:=w - kn) (c:=122) (by omega) (fun row hr=>by rw [hrw row hr]; omega)) rfl (.inl rfl) ?_
   simp(disch:=omega)only[↓RU,RV,RH,↓reduceIte,qE,reduceCtorEq,if_pos,w64,qN,↓RS,RG,qA,qM,qL,zaa,show ((l:Int)+(kn:Int))=((l+kn:Nat):Int) from by omega,show ((w:Int) - (kn:Int))=((w - kn:Nat):Int) from by omega]
   refine zad.pc (zqb (zul hs)) rfl (.inr rfl) ?_
   simp(disch:=omega)only[↓RU,RV,RH,↓reduceIte,qE,reduceCtorEq,if_pos,w64,qN,↓RS,RG,qA,qM,qL,zaa,show ((l:Int)+(kn:Int))=((l+kn:Nat):Int) from by omega,show ((w:Int) - (kn:Int))=((w - kn:Nat):Int) from by omega]
   apply hK;clear hK K
   refine W.ret ?_
   refine XBlock.ret ?_
   refine XThen.ret ?_
   refine Br rfl ?_
   first | (rw [zhs hgv]; rfl) | (rw [zht hgv e1 e2 e3 e4 hB1]; rfl) | (rw [zhu hgv e1 e2 e3 e4 hB1 hB2]; rfl) | (rw [zgb hB1 hB2]; rfl)
  try simp only[RL]at h2
  have hB2:((s == [118]) && (decide (1≤k) && decide (k≤zd0 p room - 1)))=false:=by rw [hb2,e4]; exact h2
  refine W.skip ?_
  refine XbN ?_
  refine xn ?_
  refine W.r fun K hK=>?_
  simp(disch:=omega)only[↓RU,RV,RH,↓reduceIte,qE,reduceCtorEq,if_pos,qN,↓RS,RG,qA,qM,qL]
  refine zad.pc (zf7) rfl (.inl rfl) ?_
  simp(disch:=omega)only[↓RU,RV,RH,↓reduceIte,qE,reduceCtorEq,if_pos,qN,↓RS,RG,qA,qM,qL]
  apply hK;clear hK K
  refine W.ret ?_
  refine Br rfl ?_
  first | (rw [zhs hgv]; rfl) | (rw [zht hgv e1 e2 e3 e4 hB1]; rfl) | (rw [zhu hgv e1 e2 e3 e4 hB1 hB2]; rfl) | (rw [zgb hB1 hB2]; rfl)
 skip
 simp(disch:=omega)only[↓RU,RV,RH,↓reduceIte,qE,reduceCtorEq,if_pos,w64,qN,↓RS,RG,qA,qM,qL,zaa,zac,hb1,zvh]
 refine zad.pc (zm6 _ _ _) rfl (.inl rfl) ?_
 simp(disch:=omega)only[↓RU,RV,RH,↓reduceIte,qE,reduceCtorEq,if_pos,w64,qN,↓RS,RG,qA,qM,qL,zaa,zac,hb1,zvh]
 apply hK;clear hK K
 refine W.cond rfl (fun h1=>?_) (fun h1=>?_)
 ·try simp only[RL]at h1
  have hB1:((s == [104]) && (decide (1≤k) && decide (k≤zd9 p room - 1)))=true:=by rw [hb1,e3]; exact h1
  have hk:=h1
  simp only[qB,decide_eq_true_eq]at hk
  obtain ⟨kn,rfl⟩:∃ kn:Nat,k=kn:=⟨k.toNat,by omega⟩
  refine W.r fun K hK=>?_
  simp(disch:=omega)only[↓RU,RV,RH,↓reduceIte,qE,reduceCtorEq,if_pos,w64,qN,↓RS,RG,qA,qM,qL,zaa,show ((t:Int)+(kn:Int))=((t+kn:Nat):Int) from by omega,show ((h:Int) - (kn:Int))=((h - kn:Nat):Int) from by omega]
  refine zad.pc (zt7 hs (tp:=t+kn) (lf:=l) (hg:=h - kn) (wd:=w) (c:=122) (by omega) (fun row hr=>by rw [hrw row hr]; omega)) rfl (.inl rfl) ?_
  simp(disch:=omega)only[↓RU,RV,RH,↓reduceIte,qE,reduceCtorEq,if_pos,w64,qN,↓RS,RG,qA,qM,qL,zaa,show ((t:Int)+(kn:Int))=((t+kn:Nat):Int) from by omega,show ((h:Int) - (kn:Int))=((h - kn:Nat):Int) from by omega]
  refine zad.pc (zqb (zul hs)) rfl (.inr rfl) ?_
  simp(disch:=omega)only[↓RU,RV,RH,↓reduceIte,qE,reduceCtorEq,if_pos,w64,qN,↓RS,RG,qA,qM,qL,zaa,show ((t:Int)+(kn:Int))=((t+kn:Nat):Int) from by omega,show ((h:Int) - (kn:Int))=((h - kn:Nat):Int) from by omega]
  apply hK;clear hK K
  refine W.ret ?_
  refine XBlock.ret ?_
  refine XThen.ret ?_
  refine Br rfl ?_
  first | (rw [zhs hgv]; rfl) | (rw [zht hgv e1 e2 e3 e4 hB1]; rfl) | (rw [zhu hgv e1 e2 e3 e4 hB1 hB2]; rfl) | (rw [zgb hB1 hB2]; rfl)
 try simp only[RL]at h1
 have hB1:((s == [104]) && (decide (1≤k) && decide (k≤zd9 p room - 1)))=false:=by rw [hb1,e3]; exact h1
 refine W.r fun K hK=>?_
 cases hb2:(s == ([118]:Txt))
 ·skip
  have hB2:((s == [118]) && (decide (1≤k) && decide (k≤zd0 p room - 1)))=false:=by rw [hb2]; rfl
  simp(disch:=omega)only[↓RU,RV,RH,↓reduceIte,qE,reduceCtorEq,if_pos,w64,qN,↓RS,RG,qA,qM,qL,zaa,zac,hb2,zvh]
  apply hK;clear hK K
  refine W.cond rfl (fun h2=>?_) (fun h2=>?_)
  ·try simp only[RL]at h2
   exact absurd h2 (by simp)
  try simp only[RL]at h2
  refine W.skip ?_
  refine XbN ?_
  refine xn ?_
  refine W.r fun K hK=>?_
  simp(disch:=omega)only[↓RU,RV,RH,↓reduceIte,qE,reduceCtorEq,if_pos,qN,↓RS,RG,qA,qM,qL]
  refine zad.pc (zf7) rfl (.inl rfl) ?_
  simp(disch:=omega)only[↓RU,RV,RH,↓reduceIte,qE,reduceCtorEq,if_pos,qN,↓RS,RG,qA,qM,qL]
  apply hK;clear hK K
  refine W.ret ?_
  refine Br rfl ?_
  first | (rw [zhs hgv]; rfl) | (rw [zht hgv e1 e2 e3 e4 hB1]; rfl) | (rw [zhu hgv e1 e2 e3 e4 hB1 hB2]; rfl) | (rw [zgb hB1 hB2]; rfl)
 skip
 simp(disch:=omega)only[↓RU,RV,RH,↓reduceIte,qE,reduceCtorEq,if_pos,w64,qN,↓RS,RG,qA,qM,qL,zaa,zac,hb2,zvh]
 refine zad.pc (zm6 _ _ _) rfl (.inl rfl) ?_
 simp(disch:=omega)only[↓RU,RV,RH,↓reduceIte,qE,reduceCtorEq,if_pos,w64,qN,↓RS,RG,qA,qM,qL,zaa,zac,hb2,zvh]
 apply hK;clear hK K
 refine W.cond rfl (fun h2=>?_) (fun h2=>?_)
 ·try simp only[RL]at h2
  have hB2:((s == [118]) && (decide (1≤k) && decide (k≤zd0 p room - 1)))=true:=by rw [hb2,e4]; exact h2
  have hk:=h2
  simp only[qB,decide_eq_true_eq]at hk
  obtain ⟨kn,rfl⟩:∃ kn:Nat,k=kn:=⟨k.toNat,by omega⟩
  refine W.r fun K hK=>?_
  simp(disch:=omega)only[↓RU,RV,RH,↓reduceIte,qE,reduceCtorEq,if_pos,w64,qN,↓RS,RG,qA,qM,qL,zaa,show ((l:Int)+(kn:Int))=((l+kn:Nat):Int) from by omega,show ((w:Int) - (kn:Int))=((w - kn:Nat):Int) from by omega]
  refine zad.pc (zt7 hs (tp:=t) (lf:=l+kn) (hg:=h) (wd:=w - kn) (c:=122) (by omega) (fun row hr=>by rw [hrw row hr]; omega)) rfl (.inl rfl) ?_
  simp(disch:=omega)only[↓RU,RV,RH,↓reduceIte,qE,reduceCtorEq,if_pos,w64,qN,↓RS,RG,qA,qM,qL,zaa,show ((l:Int)+(kn:Int))=((l+kn:Nat):Int) from by omega,show ((w:Int) - (kn:Int))=((w - kn:Nat):Int) from by omega]
  refine zad.pc (zqb (zul hs)) rfl (.inr rfl) ?_
  simp(disch:=omega)only[↓RU,RV,RH,↓reduceIte,qE,reduceCtorEq,if_pos,w64,qN,↓RS,RG,qA,qM,qL,zaa,show ((l:Int)+(kn:Int))=((l+kn:Nat):Int) from by omega,show ((w:Int) - (kn:Int))=((w - kn:Nat):Int) from by omega]
  apply hK;clear hK K
  refine W.ret ?_
  refine XBlock.ret ?_
  refine XThen.ret ?_
  refine Br rfl ?_
  first | (rw [zhs hgv]; rfl) | (rw [zht hgv e1 e2 e3 e4 hB1]; rfl) | (rw [zhu hgv e1 e2 e3 e4 hB1 hB2]; rfl) | (rw [zgb hB1 hB2]; rfl)
 try simp only[RL]at h2
 have hB2:((s == [118]) && (decide (1≤k) && decide (k≤zd0 p room - 1)))=false:=by rw [hb2,e4]; exact h2
 refine W.skip ?_
 refine XbN ?_
 refine xn ?_
 refine W.r fun K hK=>?_
 simp(disch:=omega)only[↓RU,RV,RH,↓reduceIte,qE,reduceCtorEq,if_pos,qN,↓RS,RG,qA,qM,qL]
 refine zad.pc (zf7) rfl (.inl rfl) ?_
 simp(disch:=omega)only[↓RU,RV,RH,↓reduceIte,qE,reduceCtorEq,if_pos,qN,↓RS,RG,qA,qM,qL]
 apply hK;clear hK K
 refine W.ret ?_
 refine Br rfl ?_
 first | (rw [zhs hgv]; rfl) | (rw [zht hgv e1 e2 e3 e4 hB1]; rfl) | (rw [zhu hgv e1 e2 e3 e4 hB1 hB2]; rfl) | (rw [zgb hB1 hB2]; rfl)
theorem zfx {code:Txt} {q vr t:Nat} {R:List Ob} (hc:code.length≤1048576) (hq:q≤1000000) (n:Int) (hn:n≤1000000) (hn0 : -1000000≤n) :
  Ev Tryz.prog 34 [.ref 0 vr 0,.int .i64 n] ⟨.arr vr 96 2 [eBy code,.int .i64 (q:Int)]::R,t⟩ fun v S=>∃ k:Nat,v = .int .i64 (k:Int)∧(n<1→k=0)∧(1≤n→(k:Int)<n)∧S=⟨.arr vr 96 2 [eBy code,.int .i64 ((q+1:Nat):Int)]::R,t⟩ :=
 z97 hc hq n hn hn0
theorem yff {code:Txt} {q vr t v1:Nat} {R:List Ob} {l:List Txt} (hc:code.length≤1048576) (hq:q≤1000000) (hl:1≤l.length) (hl2:l.length≤1000):Ev Tryz.prog 139 [.ref 0 vr 0,.loc 1 v1 0 l.length] ⟨.arr vr 96 2 [eBy code,.int .i64 (q:Int)] :: .arr v1 9 1 (l.map .str)::R,t⟩ fun v S=>∃ s,s∈l∧v = .str s∧S=⟨.arr vr 96 2 [eBy code,.int .i64 ((q+1:Nat):Int)] :: .arr v1 9 1 (l.map .str)::R,t⟩:=by
 refine Ev.of ⟨Tryz.func139,by kernel_rfl,rfl,by kernel_rfl⟩ zap mixed (by show 2≤Tryz.f139.ntmps; decide) ?_
 refine W.r fun K hK=>?_
 simp(disch:=omega)only[↓RU,RV,RH,↓reduceIte,qE,reduceCtorEq,if_pos,↓RS,RG,qA,qM,qL]
 apply hK;clear hK K
 refine W.r fun K hK=>?_
 simp(disch:=omega)only[↓RU,RV,RH,↓reduceIte,qE,reduceCtorEq,if_pos,qN,↓RS,RG,qA,qM,qL,ty5,zac]
 refine zad.ev (zfx hc hq (l.length:Int) (by omega) (by omega)) ?_
 rintro _ _ ⟨k,rfl,-,hk,rfl⟩
 have hk2:=hk (by omega)
 obtain ⟨s,hsk,hsm⟩:=zag (show k<l.length by omega)
 simp(disch:=omega)only[↓RU,RV,RH,↓reduceIte,qE,reduceCtorEq,if_pos,qN,↓RS,RG,qA,qM,qL,ty5,zac,hsk]
 apply hK;clear hK K
 refine W.ret ?_
 refine Br rfl ?_
 exact ⟨_,s,hsm,rfl,zak⟩
theorem zza {nh nw:Nat} (hn:nh≤100) (hm:nw≤100):PC Tryz.prog 112 [.int .i64 nh,.int .i64 nw] (zav (List.replicate nh (List.replicate nw (97:UInt8)))) true:=by
 refine PC.of ⟨Tryz.func112,by kernel_rfl,rfl,by kernel_rfl⟩ zap mixed (by show 2≤Tryz.f112.ntmps; decide) ?_
 refine W.r fun K hK=>?_
 simp(disch:=omega)only[↓RU,RV,RH,↓reduceIte,qE,reduceCtorEq,if_pos,↓RS,RG,qA,qM,qL]
 apply hK;clear hK K
 refine W.r fun K hK=>?_
 simp(disch:=omega)only[↓RU,RV,RH,↓reduceIte,qE,reduceCtorEq,if_pos,↓RS,RG,qA,qM,qL,ty5,zac]
 apply hK;clear hK K
 refine W.seq ?_
 refine W.r fun K hK=>?_
 simp(disch:=omega)only[↓RU,RV,RH,↓reduceIte,qE,reduceCtorEq,if_pos,↓RS,RG,qA,qM,qL]
 apply hK;clear hK K
 refine W.block ?_
 refine W.loop [0,1,5,6] (fun n vs S=>∃ i v0 tk:Nat,n=nh - i∧i≤nh∧vs=[.int .i64 nh,.int .i64 nw,.loc 0 v0 0 i,.int .i64 i]∧S=⟨[.arr v0 9 1 ((List.replicate i (List.replicate nw (97:UInt8))).map .str)],tk⟩) (nh) ?_ ?_
 ·refine ⟨1,0,0,1,rfl,Nat.zero_le _,?_,rfl⟩
  simp [Env.put,Env.of,zaf]
 rintro n vs S - ⟨i,v0,tk,rfl,h_i,rfl,rfl⟩
 refine W.seq ?_
 refine W.r fun K hK=>?_
 simp(disch:=omega)only[↓RU,RV,RH,↓reduceIte,qE,reduceCtorEq,if_pos,w64,↓RS,RG,qA,qM,qL,zaa]
 apply hK;clear hK K
 refine W.cond rfl (fun h=>?_) (fun h=>?_)
 ·try simp only[RL]at h
  refine W.skip ?_
  refine xn ?_
  refine W.seq ?_
  refine W.block ?_
  refine W.r fun K hK=>?_
  simp(disch:=omega)only[↓RU,RV,RH,↓reduceIte,qE,reduceCtorEq,if_pos,↓RS,RG,qA,qM,qL,ty6,zen]
  apply hK;clear hK K
  refine W.seq ?_
  refine W.r fun K hK=>?_
  simp(disch:=omega)only[↓RU,RV,RH,↓reduceIte,qE,reduceCtorEq,if_pos,↓RS,RG,qA,qM,qL]
  apply hK;clear hK K
  refine W.block ?_
  refine W.loop [0,1,5,6,7,8] (fun n vs S=>∃ k v1 tk:Nat,n=nw - k∧k≤nw∧vs=[.int .i64 nh,.int .i64 nw,.loc 0 v0 0 i,.int .i64 i,.loc 1 v1 0 k,.int .i64 k]∧S=⟨[.arr v0 9 1 ((List.replicate i (List.replicate nw (97:UInt8))).map .str),.arr v1 5 1 ((List.replicate k (97:UInt8)).map eB)],tk⟩) (nw) ?_ ?_
  ·refine ⟨2,0,tk,tk+1,rfl,Nat.zero_le _,?_,rfl⟩
   simp [Env.put,Env.of]
  rintro n vs S - ⟨k,v1,tk,rfl,h_k,rfl,rfl⟩
  refine W.seq ?_
  refine W.r fun K hK=>?_
  simp(disch:=omega)only[↓RU,RV,RH,↓reduceIte,qE,reduceCtorEq,if_pos,w64,↓RS,RG,qA,qM,qL,zaa]
  apply hK;clear hK K
  refine W.cond rfl (fun h1=>?_) (fun h1=>?_)
  ·try simp only[RL]at h1
   refine W.skip ?_
   refine xn ?_
   refine W.seq ?_
   refine W.block ?_
   refine W.k fun K hK=>?_
   simp(disch:=omega)only[↓RU,RV,RH,↓reduceIte,qE,reduceCtorEq,if_pos,↓RS,RG,qA,qM,qL,ty6,zen,List.length_replicate]
   apply hK;clear hK K
   refine XbN ?_
   refine xn ?_
   refine W.k fun K hK=>?_
   simp(disch:=omega)only[↓RU,RV,RH,↓reduceIte,qE,reduceCtorEq,if_pos,w64,↓RS,RG,qA,qM,qL,zaa]
   apply hK;clear hK K
   refine xn ?_
   refine ⟨nw - (k+1),by omega,2,k+1,tk+1,tk+2,rfl,by omega,?_,?_⟩
   all_goals simp [Env.put,Env.of,zbe,zmn,List.replicate_succ',List.map_append]
  ·try simp only[RL]at h1
   obtain rfl:k=nw:=by omega
   have hbo:=zry (List.replicate k (97:UInt8))
   have htk:((List.replicate k (97:UInt8)).map eB).take k=(List.replicate k (97:UInt8)).map eB:=qT (by simp)
   refine W.exit ?_
   refine xe ?_
   refine xe ?_
   refine XBlock.hit ?_
   refine xn ?_
   refine W.k fun K hK=>?_
   simp(disch:=omega)only[↓RU,RV,RH,↓reduceIte,qE,reduceCtorEq,if_pos,w64,↓RS,RG,qA,qM,qL,ty5,ty6,zac,zen,List.length_replicate,htk,hbo]
   apply hK;clear hK K
   refine XbN ?_
   refine xn ?_
   refine W.k fun K hK=>?_
   simp(disch:=omega)only[↓RU,RV,RH,↓reduceIte,qE,reduceCtorEq,if_pos,w64,↓RS,RG,qA,qM,qL,zaa]
   apply hK;clear hK K
   refine xn ?_
   refine ⟨nh - (i+1),by omega,1,i+1,tk+1,tk+2,rfl,by omega,?_,?_⟩
   all_goals simp [Env.put,Env.of,zbe,zmn,List.replicate_succ',List.map_append]
 try simp only[RL]at h
 obtain rfl:i=nh:=by omega
 refine W.exit ?_
 refine xe ?_
 refine xe ?_
 refine XBlock.hit ?_
 refine xn ?_
 refine W.r fun K hK=>?_
 simp(disch:=omega)only[↓RU,RV,RH,↓reduceIte,qE,reduceCtorEq,if_pos,↓RS,RG,qA,qM,qL]
 apply hK;clear hK K
 refine W.ret ?_
 refine Br rfl ?_
 exact (zcv (k:=9) rfl (by simp) (zox _)).trans (by simp)
theorem zdg {S:Store} {k ver off:Nat}:frz S 1 (k+1) (.ref 0 ver off)=some (.ref 0 ver off):=by simp [frz]
theorem zef (p:List Txt):List.take p.length (p.map PV.str)=p.map .str:=qT (by simp)
theorem zdh {S:Store} {lo k:Nat} (l:List Txt):(l.map PV.str).mapM (rfz S lo (k+1))=some (l.map PV.str):=zuu (fun _=>rfl) l
theorem zzj {p:List Txt} (h:zbw p=true):Sm p:=by
 obtain ⟨h1,-,h3⟩:=znc h
 exact ⟨by omega,fun r hr=>by have:=(h3 r hr).2; omega⟩
theorem zqw {p:List Txt} (h:zbw p=true):za2 p≤9:=by
 unfold zbw at h; simp only[qB,decide_eq_true_eq]at h; omega
theorem ybj {s:Txt} (h:s∈([[104],[118]]:List Txt)):s.length≤1048576:=by
 simp only[List.mem_cons,List.not_mem_nil,or_false]at h
 rcases h with rfl | rfl <;> simp
theorem z6d {code:Txt} {q vr t:Nat} {R:List Ob} (hc:code.length≤1048576) (hq:q≤900000) {p:List Txt} (hp:zbw p=true) {many:Nat} (hm:many≤1000):Ev Tryz.prog 111 [.ref 0 vr 0,zav p,.int .i64 many] ⟨.arr vr 96 2 [eBy code,.int .i64 (q:Int)]::R,t⟩ fun v S=>∃ (p2:List Txt) (q2 t2:Nat),v=zav p2∧zbw p2=true∧p2.length=p.length∧q2≤q+3*many∧S=⟨[.arr vr 96 2 [eBy code,.int .i64 (q2:Int)]],t2⟩:=by
 refine Ev.of ⟨Tryz.func111,by kernel_rfl,rfl,by kernel_rfl⟩ zap mixed (by show 3≤Tryz.f111.ntmps; decide) ?_
 refine W.r fun K hK=>?_
 simp(disch:=omega)only[↓RU,RV,RH,↓reduceIte,qE,reduceCtorEq,if_pos,↓RS,RG,qA,qM,qL]
 apply hK;clear hK K
 refine W.seq ?_
 refine W.r fun K hK=>?_
 simp(disch:=omega)only[↓RU,RV,RH,↓reduceIte,qE,reduceCtorEq,if_pos,↓RS,RG,qA,qM,qL]
 apply hK;clear hK K
 refine W.block ?_
 refine W.loopZ [0,1,2,7] (fun n vs S=>∃ (i:Nat) (p2:List Txt) (q2 tk:Nat),n=many - i∧i≤many∧zbw p2=true∧p2.length=p.length∧q2≤q+3*i∧vs=[.ref 0 vr 0,zav p2,.int .i64 many,.int .i64 i]∧S=⟨[.arr vr 96 2 [eBy code,.int .i64 (q2:Int)]],tk⟩) many ?_ ?_
 ·refine ⟨1,[.ref 0 vr 0,zav p,.int .i64 many,.int .i64 (0:Nat)],⟨[.arr vr 96 2 [eBy code,.int .i64 (q:Int)]],t⟩,?_,?_,0,p,q,t,rfl,by omega,hp,rfl,by omega,rfl,rfl⟩
  ·simp [-qU,Store.frz,zcj,zcy,za0,zbu,zby,zbt,zcs,zba,zbd,zbb,zaz,za1,zbz,zbc,zbv,za9,Env.put,Env.of,zaf,zbx,qP,qC,zdg,zef,zdh]
  simp [-qU,Store.frz,zcj,zcy,za0,zbu,zby,zbt,zcs,zba,zbd,zbb,zaz,za1,zbz,zbc,zbv,za9,Env.put,Env.of,zaf,zbx,qP,qC,zdg,zef,zdh]
 rintro n vs S - ⟨i,p2,q2,tk,rfl,h_i,hp2,hl2,hq2,rfl,rfl⟩
 refine W.seq ?_
 refine W.r fun K hK=>?_
 simp(disch:=omega)only[↓RU,RV,RH,↓reduceIte,qE,reduceCtorEq,if_pos,w64,↓RS,RG,qA,qM,qL,zaa]
 apply hK;clear hK K
 refine W.cond rfl (fun h=>?_) (fun h=>?_)
 ·try simp only[RL]at h
  have hs2:=zzj hp2
  have hr9:=zqw hp2
  have hrb:=zdp p2
  refine W.skip ?_
  refine xn ?_
  refine W.seq ?_
  refine W.block ?_
  refine W.r fun K hK=>?_
  simp(disch:=omega)only[↓RU,RV,RH,↓reduceIte,qE,reduceCtorEq,if_pos,qN,↓RS,RG,qA,qM,qL]
  refine zad.pc (zg0 hs2) rfl (.inl rfl) ?_
  simp(disch:=omega)only[↓RU,RV,RH,↓reduceIte,qE,reduceCtorEq,if_pos,qN,↓RS,RG,qA,qM,qL]
  refine zad.ev (zfx hc (by omega) (za2 p2) (by omega) (by omega)) ?_
  rintro _ _ ⟨k1,rfl,-,-,rfl⟩
  simp(disch:=omega)only[↓RU,RV,RH,↓reduceIte,qE,reduceCtorEq,if_pos,qN,↓RS,RG,qA,qM,qL]
  apply hK;clear hK K
  refine W.r fun K hK=>?_
  simp(disch:=omega)only[↓RU,RV,RH,↓reduceIte,qE,reduceCtorEq,if_pos,qN,w64,↓RS,RG,qA,qM,qL,ty5,zaa,zac]
  refine zad.ev (yff (R:=[]) (l:=[[104],[118]]) hc (by omega) (by simp) (by simp)) ?_
  rintro _ _ ⟨s,hsm,rfl,rfl⟩
  have hsl:=ybj hsm
  simp(disch:=omega)only[↓RU,RV,RH,↓reduceIte,qE,reduceCtorEq,if_pos,qN,w64,↓RS,RG,qA,qM,qL,ty5,zaa,zac]
  refine zad.ev (zfx (q:=q2+1+1) hc (by omega) 3 (by omega) (by omega)) ?_
  rintro _ _ ⟨k2,rfl,-,hk2,rfl⟩
  have hk3:=hk2 (by omega)
  simp(disch:=omega)only[↓RU,RV,RH,↓reduceIte,qE,reduceCtorEq,if_pos,qN,w64,↓RS,RG,qA,qM,qL,ty5,zaa,zac]
  refine zad.pc (zob hs2 k1 hsl (1+k2)) rfl (.inr rfl) ?_
  simp(disch:=omega)only[↓RU,RV,RH,↓reduceIte,qE,reduceCtorEq,if_pos,qN,w64,↓RS,RG,qA,qM,qL,ty5,zaa,zac]
  apply hK;clear hK K
  refine W.r fun K hK=>?_
  simp(disch:=omega)only[↓RU,RV,RH,↓reduceIte,qE,reduceCtorEq,if_pos,↓RS,RG,qA,qM,qL]
  apply hK;clear hK K
  refine W.cond rfl (fun h1=>?_) (fun h1=>?_)
  ·try simp only[RL]at h1
   obtain ⟨ho1,ho2⟩:=zya h1
   refine W.k fun K hK=>?_
   simp(disch:=omega)only[↓RU,RV,RH,↓reduceIte,qE,reduceCtorEq,if_pos,↓RS,RG,qA,qM,qL]
   apply hK;clear hK K
   refine XbN ?_
   refine xn ?_
   refine W.k fun K hK=>?_
   simp(disch:=omega)only[↓RU,RV,RH,↓reduceIte,qE,reduceCtorEq,if_pos,w64,↓RS,RG,qA,qM,qL,zaa]
   apply hK;clear hK K
   refine xn ?_
   refine ⟨many - (i+1),by omega,1,[.ref 0 vr 0,zav (zfq p2 k1 s (1+k2)).1,.int .i64 many,.int .i64 ((i+1:Nat):Int)],⟨[.arr vr 96 2 [eBy code,.int .i64 ((q2+1+1+1:Nat):Int)]],tk+1⟩,?_,?_,i+1,(zfq p2 k1 s (1+k2)).1,q2+1+1+1,tk+1,rfl,by omega,ho1,ho2.trans hl2,by omega,rfl,rfl⟩
   ·simp [-qU,Store.frz,zcj,zcy,za0,zbu,zby,zbt,zcs,zba,zbd,zbb,zaz,za1,zbz,zbc,zbv,za9,Env.put,Env.of,zaf,zbx,qP,qC,zdg,zef,zdh]
   simp [-qU,Store.frz,zcj,zcy,za0,zbu,zby,zbt,zcs,zba,zbd,zbb,zaz,za1,zbz,zbc,zbv,za9,Env.put,Env.of,zaf,zbx,qP,qC,zdg,zef,zdh]
  try simp only[RL]at h1
  refine W.skip ?_
  refine XbN ?_
  refine xn ?_
  refine W.k fun K hK=>?_
  simp(disch:=omega)only[↓RU,RV,RH,↓reduceIte,qE,reduceCtorEq,if_pos,w64,↓RS,RG,qA,qM,qL,zaa]
  apply hK;clear hK K
  refine xn ?_
  refine ⟨many - (i+1),by omega,1,[.ref 0 vr 0,zav p2,.int .i64 many,.int .i64 ((i+1:Nat):Int)],⟨[.arr vr 96 2 [eBy code,.int .i64 ((q2+1+1+1:Nat):Int)]],tk+1⟩,?_,?_,i+1,p2,q2+1+1+1,tk+1,rfl,by omega,hp2,hl2,by omega,rfl,rfl⟩
  ·simp [-qU,Store.frz,zcj,zcy,za0,zbu,zby,zbt,zcs,zba,zbd,zbb,zaz,za1,zbz,zbc,zbv,za9,Env.put,Env.of,zaf,zbx,qP,qC,zdg,zef,zdh]
  simp [-qU,Store.frz,zcj,zcy,za0,zbu,zby,zbt,zcs,zba,zbd,zbb,zaz,za1,zbz,zbc,zbv,za9,Env.put,Env.of,zaf,zbx,qP,qC,zdg,zef,zdh]
 try simp only[RL]at h
 obtain rfl:i=many:=by omega
 refine W.exit ?_
 refine xe ?_
 refine xe ?_
 refine XBlock.hit ?_
 refine xn ?_
 refine W.r fun K hK=>?_
 simp(disch:=omega)only[↓RU,RV,RH,↓reduceIte,qE,reduceCtorEq,if_pos,↓RS,RG,qA,qM,qL]
 apply hK;clear hK K
 refine W.ret ?_
 refine Br rfl ?_
 exact ⟨_,p2,q2,tk,rfl,hp2,hl2,by omega,zak⟩
theorem zsm {code:Txt} {q vr t v1:Nat} {R:List Ob} (hc:code.length≤1048576) (hq:q≤900000) {p:List Txt} (hp:zbw p=true) {many:Nat} (hm:many≤1000):Ev Tryz.prog 111 [.ref 0 vr 0,.loc 1 v1 0 p.length,.int .i64 many] ⟨.arr vr 96 2 [eBy code,.int .i64 (q:Int)] :: .arr v1 9 1 (p.map .str)::R,t⟩ fun v S=>∃ (p2:List Txt) (q2 t2:Nat),v=zav p2∧zbw p2=true∧p2.length=p.length∧q2≤q+3*many∧S=⟨[.arr vr 96 2 [eBy code,.int .i64 (q2:Int)]],t2⟩:=by
 refine Ev.of ⟨Tryz.func111,by kernel_rfl,rfl,by kernel_rfl⟩ zap mixed (by show 3≤Tryz.f111.ntmps; decide) ?_
 refine W.r fun K hK=>?_
 simp(disch:=omega)only[↓RU,RV,RH,↓reduceIte,qE,reduceCtorEq,if_pos,↓RS,RG,qA,qM,qL]
 apply hK;clear hK K
 refine W.seq ?_
 refine W.r fun K hK=>?_
 simp(disch:=omega)only[↓RU,RV,RH,↓reduceIte,qE,reduceCtorEq,if_pos,↓RS,RG,qA,qM,qL]
 apply hK;clear hK K
 refine W.block ?_
 refine W.loopZ [0,1,2,7] (fun n vs S=>∃ (i:Nat) (p2:List Txt) (q2 tk:Nat),n=many - i∧i≤many∧zbw p2=true∧p2.length=p.length∧q2≤q+3*i∧vs=[.ref 0 vr 0,zav p2,.int .i64 many,.int .i64 i]∧S=⟨[.arr vr 96 2 [eBy code,.int .i64 (q2:Int)]],tk⟩) many ?_ ?_
 ·refine ⟨1,[.ref 0 vr 0,zav p,.int .i64 many,.int .i64 (0:Nat)],⟨[.arr vr 96 2 [eBy code,.int .i64 (q:Int)]],t⟩,?_,?_,0,p,q,t,rfl,by omega,hp,rfl,by omega,rfl,rfl⟩
  ·simp [-qU,Store.frz,zcj,zcy,za0,zbu,zby,zbt,zcs,zba,zbd,zbb,zaz,za1,zbz,zbc,zbv,za9,Env.put,Env.of,zaf,zbx,qP,qC,zdg,zef,zdh]
  simp [-qU,Store.frz,zcj,zcy,za0,zbu,zby,zbt,zcs,zba,zbd,zbb,zaz,za1,zbz,zbc,zbv,za9,Env.put,Env.of,zaf,zbx,qP,qC,zdg,zef,zdh]
 rintro n vs S - ⟨i,p2,q2,tk,rfl,h_i,hp2,hl2,hq2,rfl,rfl⟩
 refine W.seq ?_
 refine W.r fun K hK=>?_
 simp(disch:=omega)only[↓RU,RV,RH,↓reduceIte,qE,reduceCtorEq,if_pos,w64,↓RS,RG,qA,qM,qL,zaa]
 apply hK;clear hK K
 refine W.cond rfl (fun h=>?_) (fun h=>?_)
 ·try simp only[RL]at h
  have hs2:=zzj hp2
  have hr9:=zqw hp2
  have hrb:=zdp p2
  refine W.skip ?_
  refine xn ?_
  refine W.seq ?_
  refine W.block ?_
  refine W.r fun K hK=>?_
  simp(disch:=omega)only[↓RU,RV,RH,↓reduceIte,qE,reduceCtorEq,if_pos,qN,↓RS,RG,qA,qM,qL]
  refine zad.pc (zg0 hs2) rfl (.inl rfl) ?_
  simp(disch:=omega)only[↓RU,RV,RH,↓reduceIte,qE,reduceCtorEq,if_pos,qN,↓RS,RG,qA,qM,qL]
  refine zad.ev (zfx hc (by omega) (za2 p2) (by omega) (by omega)) ?_
  rintro _ _ ⟨k1,rfl,-,-,rfl⟩
  simp(disch:=omega)only[↓RU,RV,RH,↓reduceIte,qE,reduceCtorEq,if_pos,qN,↓RS,RG,qA,qM,qL]
  apply hK;clear hK K
  refine W.r fun K hK=>?_
  simp(disch:=omega)only[↓RU,RV,RH,↓reduceIte,qE,reduceCtorEq,if_pos,qN,w64,↓RS,RG,qA,qM,qL,ty5,zaa,zac]
  refine zad.ev (yff (R:=[]) (l:=[[104],[118]]) hc (by omega) (by simp) (by simp)) ?_
  rintro _ _ ⟨s,hsm,rfl,rfl⟩
  have hsl:=ybj hsm
  simp(disch:=omega)only[↓RU,RV,RH,↓reduceIte,qE,reduceCtorEq,if_pos,qN,w64,↓RS,RG,qA,qM,qL,ty5,zaa,zac]
  refine zad.ev (zfx (q:=q2+1+1) hc (by omega) 3 (by omega) (by omega)) ?_
  rintro _ _ ⟨k2,rfl,-,hk2,rfl⟩
  have hk3:=hk2 (by omega)
  simp(disch:=omega)only[↓RU,RV,RH,↓reduceIte,qE,reduceCtorEq,if_pos,qN,w64,↓RS,RG,qA,qM,qL,ty5,zaa,zac]
  refine zad.pc (zob hs2 k1 hsl (1+k2)) rfl (.inr rfl) ?_
  simp(disch:=omega)only[↓RU,RV,RH,↓reduceIte,qE,reduceCtorEq,if_pos,qN,w64,↓RS,RG,qA,qM,qL,ty5,zaa,zac]
  apply hK;clear hK K
  refine W.r fun K hK=>?_
  simp(disch:=omega)only[↓RU,RV,RH,↓reduceIte,qE,reduceCtorEq,if_pos,↓RS,RG,qA,qM,qL]
  apply hK;clear hK K
  refine W.cond rfl (fun h1=>?_) (fun h1=>?_)
  ·try simp only[RL]at h1
   obtain ⟨ho1,ho2⟩:=zya h1
   refine W.k fun K hK=>?_
   simp(disch:=omega)only[↓RU,RV,RH,↓reduceIte,qE,reduceCtorEq,if_pos,↓RS,RG,qA,qM,qL]
   apply hK;clear hK K
   refine XbN ?_
   refine xn ?_
   refine W.k fun K hK=>?_
   simp(disch:=omega)only[↓RU,RV,RH,↓reduceIte,qE,reduceCtorEq,if_pos,w64,↓RS,RG,qA,qM,qL,zaa]
   apply hK;clear hK K
   refine xn ?_
   refine ⟨many - (i+1),by omega,1,[.ref 0 vr 0,zav (zfq p2 k1 s (1+k2)).1,.int .i64 many,.int .i64 ((i+1:Nat):Int)],⟨[.arr vr 96 2 [eBy code,.int .i64 ((q2+1+1+1:Nat):Int)]],tk+1⟩,?_,?_,i+1,(zfq p2 k1 s (1+k2)).1,q2+1+1+1,tk+1,rfl,by omega,ho1,ho2.trans hl2,by omega,rfl,rfl⟩
   ·simp [-qU,Store.frz,zcj,zcy,za0,zbu,zby,zbt,zcs,zba,zbd,zbb,zaz,za1,zbz,zbc,zbv,za9,Env.put,Env.of,zaf,zbx,qP,qC,zdg,zef,zdh]
   simp [-qU,Store.frz,zcj,zcy,za0,zbu,zby,zbt,zcs,zba,zbd,zbb,zaz,za1,zbz,zbc,zbv,za9,Env.put,Env.of,zaf,zbx,qP,qC,zdg,zef,zdh]
  try simp only[RL]at h1
  refine W.skip ?_
  refine XbN ?_
  refine xn ?_
  refine W.k fun K hK=>?_
  simp(disch:=omega)only[↓RU,RV,RH,↓reduceIte,qE,reduceCtorEq,if_pos,w64,↓RS,RG,qA,qM,qL,zaa]
  apply hK;clear hK K
  refine xn ?_
  refine ⟨many - (i+1),by omega,1,[.ref 0 vr 0,zav p2,.int .i64 many,.int .i64 ((i+1:Nat):Int)],⟨[.arr vr 96 2 [eBy code,.int .i64 ((q2+1+1+1:Nat):Int)]],tk+1⟩,?_,?_,i+1,p2,q2+1+1+1,tk+1,rfl,by omega,hp2,hl2,by omega,rfl,rfl⟩
  ·simp [-qU,Store.frz,zcj,zcy,za0,zbu,zby,zbt,zcs,zba,zbd,zbb,zaz,za1,zbz,zbc,zbv,za9,Env.put,Env.of,zaf,zbx,qP,qC,zdg,zef,zdh]
  simp [-qU,Store.frz,zcj,zcy,za0,zbu,zby,zbt,zcs,zba,zbd,zbb,zaz,za1,zbz,zbc,zbv,za9,Env.put,Env.of,zaf,zbx,qP,qC,zdg,zef,zdh]
 try simp only[RL]at h
 obtain rfl:i=many:=by omega
 refine W.exit ?_
 refine xe ?_
 refine xe ?_
 refine XBlock.hit ?_
 refine xn ?_
 refine W.r fun K hK=>?_
 simp(disch:=omega)only[↓RU,RV,RH,↓reduceIte,qE,reduceCtorEq,if_pos,↓RS,RG,qA,qM,qL]
 apply hK;clear hK K
 refine W.ret ?_
 refine Br rfl ?_
 exact ⟨_,p2,q2,tk,rfl,hp2,hl2,by omega,zak⟩
theorem z28 {nh nw:Nat} (h1:1≤nh) (h2:nh≤6) (w1:1≤nw) (w2:nw≤6):zbw (List.replicate nh (List.replicate nw (97:UInt8)))=true:=by
 rcases (show nh=1∨nh=2∨nh=3∨nh=4∨nh=5∨nh=6 by omega) with rfl | rfl | rfl | rfl | rfl | rfl <;>
 rcases (show nw=1∨nw=2∨nw=3∨nw=4∨nw=5∨nw=6 by omega) with rfl | rfl | rfl | rfl | rfl | rfl <;> decide +kernel
def yf2:List Txt:=[[97,97,98],[99,100,98],[99,101,101]]
def yf3:List Txt:=[[97,97,97,98],[99,100,100,98],[99,100,100,98],[99,101,101,101]]
theorem zz9:zbw yf2=true:=by decide +kernel
theorem z0a:zbw yf3=true:=by decide +kernel
theorem z3p {code:Txt} {q vr t:Nat} (hc:code.length≤1048576) (hq:q≤800000) {nh nw:Nat} (h1:1≤nh) (h2:nh≤6) (w1:1≤nw) (w2:nw≤6):Ev Tryz.prog 91 [.ref 0 vr 0,.int .i64 nh,.int .i64 nw] ⟨[.arr vr 96 2 [eBy code,.int .i64 (q:Int)]],t⟩ fun v S=>∃ (p2:List Txt) (q2 t2:Nat),v=zav p2∧zbw p2=true∧p2.length=nh∧q2≤q+100∧S=⟨[.arr vr 96 2 [eBy code,.int .i64 (q2:Int)]],t2⟩:=by
 refine Ev.of ⟨Tryz.func91,by kernel_rfl,rfl,by kernel_rfl⟩ zap mixed (by show 3≤Tryz.f91.ntmps; decide) ?_
 refine W.r fun K hK=>?_
 simp(disch:=omega)only[↓RU,RV,RH,↓reduceIte,qE,reduceCtorEq,if_pos,↓RS,RG,qA,qM,qL]
 apply hK;clear hK K
 refine W.seq ?_
 refine W.join [0,1,2,17] (fun vs S=>∃ (q2:Nat) (b:Bool),q2≤q+1∧(b=true→nh=3)∧vs=[.ref 0 vr 0,.int .i64 nh,.int .i64 nw,.bool b]∧S=⟨[.arr vr 96 2 [eBy code,.int .i64 (q2:Int)]],t⟩) ?_ ?_
 ·
  refine W.k fun K hK=>?_
  rcases hd:(((nh:Int) == 3),((nw:Int) == 3)) with ⟨_ | _,_ | _⟩
  ·skip
   simp only[Prod.mk.injEq]at hd
   obtain ⟨hd1,hd2⟩:=hd
   simp(disch:=omega)only[↓RU,RV,RH,↓reduceIte,qE,reduceCtorEq,if_pos,w64,qN,↓RS,RG,qA,qM,qL,zaa,hd1,hd2]
   apply hK;clear hK K
   refine xn ?_
   refine ⟨_,q,false,by omega,fun h9=>(by cases h9),?_,zak⟩
   simp [Env.put,Env.of,zaf]
  ·skip
   simp only[Prod.mk.injEq]at hd
   obtain ⟨hd1,hd2⟩:=hd
   simp(disch:=omega)only[↓RU,RV,RH,↓reduceIte,qE,reduceCtorEq,if_pos,w64,qN,↓RS,RG,qA,qM,qL,zaa,hd1,hd2]
   apply hK;clear hK K
   refine xn ?_
   refine ⟨_,q,false,by omega,fun h9=>(by cases h9),?_,zak⟩
   simp [Env.put,Env.of,zaf]
  ·skip
   simp only[Prod.mk.injEq]at hd
   obtain ⟨hd1,hd2⟩:=hd
   simp(disch:=omega)only[↓RU,RV,RH,↓reduceIte,qE,reduceCtorEq,if_pos,w64,qN,↓RS,RG,qA,qM,qL,zaa,hd1,hd2]
   apply hK;clear hK K
   refine xn ?_
   refine ⟨_,q,false,by omega,fun h9=>(by cases h9),?_,zak⟩
   simp [Env.put,Env.of,zaf]
  skip
  simp only[Prod.mk.injEq]at hd
  obtain ⟨hd1,hd2⟩:=hd
  simp(disch:=omega)only[↓RU,RV,RH,↓reduceIte,qE,reduceCtorEq,if_pos,w64,qN,↓RS,RG,qA,qM,qL,zaa,hd1,hd2]
  refine zad.ev (zfx (q:=q) hc (by omega) 2 (by omega) (by omega)) ?_
  rintro _ _ ⟨k1,rfl,-,hk1,rfl⟩
  have hk1b:=hk1 (by omega)
  simp(disch:=omega)only[↓RU,RV,RH,↓reduceIte,qE,reduceCtorEq,if_pos,w64,qN,↓RS,RG,qA,qM,qL,zaa,hd1,hd2]
  apply hK;clear hK K
  refine xn ?_
  refine ⟨_,q+1,((k1:Int) == 0),by omega,fun _=>(by have:=beq_iff_eq.1 hd1; omega),?_,zak⟩
  simp [Env.put,Env.of,zaf]
 rintro vs S - ⟨qa,b3,hqa,hb3,rfl,rfl⟩
 refine W.cond rfl (fun h3=>?_) (fun h3=>?_)
 ·try simp only[RL]at h3
  refine W.r fun K hK=>?_
  simp(disch:=omega)only[↓RU,RV,RH,↓reduceIte,qE,reduceCtorEq,if_pos,qN,↓RS,RG,qA,qM,qL,ty5,zac]
  refine zad.ev (zfx (q:=qa) hc (by omega) 2 (by omega) (by omega)) ?_
  rintro _ _ ⟨k1,rfl,-,hk1,rfl⟩
  have hk1b:=hk1 (by omega)
  simp(disch:=omega)only[↓RU,RV,RH,↓reduceIte,qE,reduceCtorEq,if_pos,qN,↓RS,RG,qA,qM,qL,ty5,zac]
  refine zad.ev (zsm (q:=qa+1) (R:=[]) hc (by omega) zz9 (many:=k1) (by omega)) ?_
  rintro _ _ ⟨p2,q2,t2,rfl,hp2,hl2,hq2,rfl⟩
  simp(disch:=omega)only[↓RU,RV,RH,↓reduceIte,qE,reduceCtorEq,if_pos,qN,↓RS,RG,qA,qM,qL,ty5,zac]
  apply hK;clear hK K
  refine W.ret ?_
  refine XThen.ret ?_
  refine Br rfl ?_
  exact ⟨_,p2,q2,t2,rfl,hp2,hl2.trans (hb3 h3).symm,by omega,zak⟩
 try simp only[RL]at h3
 refine W.skip ?_
 refine xn ?_
 refine W.seq ?_
 refine W.join [0,1,2,33] (fun vs S=>∃ (q2:Nat) (b:Bool),q2≤q+2∧(b=true→nh=4)∧vs=[.ref 0 vr 0,.int .i64 nh,.int .i64 nw,.bool b]∧S=⟨[.arr vr 96 2 [eBy code,.int .i64 (q2:Int)]],t⟩) ?_ ?_
 ·
  refine W.k fun K hK=>?_
  rcases hd:(((nh:Int) == 4),((nw:Int) == 4)) with ⟨_ | _,_ | _⟩
  ·skip
   simp only[Prod.mk.injEq]at hd
   obtain ⟨hd1,hd2⟩:=hd
   simp(disch:=omega)only[↓RU,RV,RH,↓reduceIte,qE,reduceCtorEq,if_pos,w64,qN,↓RS,RG,qA,qM,qL,zaa,hd1,hd2]
   apply hK;clear hK K
   refine xn ?_
   refine ⟨_,qa,false,by omega,fun h9=>(by cases h9),?_,zak⟩
   simp [Env.put,Env.of,zaf]
  ·skip
   simp only[Prod.mk.injEq]at hd
   obtain ⟨hd1,hd2⟩:=hd
   simp(disch:=omega)only[↓RU,RV,RH,↓reduceIte,qE,reduceCtorEq,if_pos,w64,qN,↓RS,RG,qA,qM,qL,zaa,hd1,hd2]
   apply hK;clear hK K
   refine xn ?_
   refine ⟨_,qa,false,by omega,fun h9=>(by cases h9),?_,zak⟩
   simp [Env.put,Env.of,zaf]
  ·skip
   simp only[Prod.mk.injEq]at hd
   obtain ⟨hd1,hd2⟩:=hd
   simp(disch:=omega)only[↓RU,RV,RH,↓reduceIte,qE,reduceCtorEq,if_pos,w64,qN,↓RS,RG,qA,qM,qL,zaa,hd1,hd2]
   apply hK;clear hK K
   refine xn ?_
   refine ⟨_,qa,false,by omega,fun h9=>(by cases h9),?_,zak⟩
   simp [Env.put,Env.of,zaf]
  skip
  simp only[Prod.mk.injEq]at hd
  obtain ⟨hd1,hd2⟩:=hd
  simp(disch:=omega)only[↓RU,RV,RH,↓reduceIte,qE,reduceCtorEq,if_pos,w64,qN,↓RS,RG,qA,qM,qL,zaa,hd1,hd2]
  refine zad.ev (zfx (q:=qa) hc (by omega) 2 (by omega) (by omega)) ?_
  rintro _ _ ⟨k1,rfl,-,hk1,rfl⟩
  have hk1b:=hk1 (by omega)
  simp(disch:=omega)only[↓RU,RV,RH,↓reduceIte,qE,reduceCtorEq,if_pos,w64,qN,↓RS,RG,qA,qM,qL,zaa,hd1,hd2]
  apply hK;clear hK K
  refine xn ?_
  refine ⟨_,qa+1,((k1:Int) == 0),by omega,fun _=>(by have:=beq_iff_eq.1 hd1; omega),?_,zak⟩
  simp [Env.put,Env.of,zaf]
 rintro vs S - ⟨qb,b4,hqb,hb4,rfl,rfl⟩
 refine W.cond rfl (fun h4=>?_) (fun h4=>?_)
 ·try simp only[RL]at h4
  refine W.r fun K hK=>?_
  simp(disch:=omega)only[↓RU,RV,RH,↓reduceIte,qE,reduceCtorEq,if_pos,qN,↓RS,RG,qA,qM,qL,ty5,zac]
  refine zad.ev (zfx (q:=qb) hc (by omega) 4 (by omega) (by omega)) ?_
  rintro _ _ ⟨k2,rfl,-,hk2,rfl⟩
  have hk2b:=hk2 (by omega)
  simp(disch:=omega)only[↓RU,RV,RH,↓reduceIte,qE,reduceCtorEq,if_pos,qN,↓RS,RG,qA,qM,qL,ty5,zac]
  refine zad.ev (zsm (q:=qb+1) (R:=[]) hc (by omega) z0a (many:=k2) (by omega)) ?_
  rintro _ _ ⟨p2,q2,t2,rfl,hp2,hl2,hq2,rfl⟩
  simp(disch:=omega)only[↓RU,RV,RH,↓reduceIte,qE,reduceCtorEq,if_pos,qN,↓RS,RG,qA,qM,qL,ty5,zac]
  apply hK;clear hK K
  refine W.ret ?_
  refine XThen.ret ?_
  refine Br rfl ?_
  exact ⟨_,p2,q2,t2,rfl,hp2,hl2.trans (hb4 h4).symm,by omega,zak⟩
 try simp only[RL]at h4
 refine W.skip ?_
 refine xn ?_
 refine W.r fun K hK=>?_
 simp(disch:=omega)only[↓RU,RV,RH,↓reduceIte,qE,reduceCtorEq,if_pos,qN,↓RS,RG,qA,qM,qL]
 refine zad.pc (zza (nh:=nh) (nw:=nw) (by omega) (by omega)) rfl (.inl rfl) ?_
 simp(disch:=omega)only[↓RU,RV,RH,↓reduceIte,qE,reduceCtorEq,if_pos,qN,↓RS,RG,qA,qM,qL]
 refine zad.ev (zfx (q:=qb) hc (by omega) 9 (by omega) (by omega)) ?_
 rintro _ _ ⟨k3,rfl,-,hk3,rfl⟩
 have hk3b:=hk3 (by omega)
 simp(disch:=omega)only[↓RU,RV,RH,↓reduceIte,qE,reduceCtorEq,if_pos,qN,↓RS,RG,qA,qM,qL]
 refine zad.ev (z6d (q:=qb+1) (R:=[]) hc (by omega) (z28 h1 h2 w1 w2) (many:=k3) (by omega)) ?_
 rintro _ _ ⟨p2,q2,t2,rfl,hp2,hl2,hq2,rfl⟩
 simp(disch:=omega)only[↓RU,RV,RH,↓reduceIte,qE,reduceCtorEq,if_pos,qN,↓RS,RG,qA,qM,qL]
 apply hK;clear hK K
 refine W.ret ?_
 refine Br rfl ?_
 exact ⟨_,p2,q2,t2,rfl,hp2,by simpa using hl2,by omega,zak⟩
end Fw
end Go.Proofs.YtjnbmmjpibpkhaaGreat
