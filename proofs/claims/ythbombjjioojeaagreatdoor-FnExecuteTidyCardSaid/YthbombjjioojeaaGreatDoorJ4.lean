/- Parts of the framework and of the proof: Texts cut at a sign; numbers of one digit; a builder and texts, gone through; The lines of a script, gone through: what makes them, and both tables; Orders of two rooms, gone through; A script of one line, gone through; Drawing terms, gone through; Sorting by a function, gone through; Sizes by the program, gone through; Sizes, gone through; the small functions of the statements; Heaviest sums, gone through; Marks, gone through; Places and slack by the specification, gone through; A relation the other way round, place by place; Places and slack by the program, gone through; Rooms in order by the program, gone through; The first and the second order, gone through; The orders by the specification, gone through; Areas, gone through; The law of areas, gone through; The laws of left and above, gone through; The law of places, gone through; Permutations by the program and by the specification, gone through; Permutations of plans, gone through; The orders and permutations: the exported functions, gone through; The law of scripts that tidy terms, gone through. -/
import Derived.Test.YthbombjjioojeaaGreatDoorJ2
import Derived.Test.YthbombjjioojeaaGreatDoorJ3
import Derived.Test.YthbombjjioojeaaGreatDoorJ1
set_option linter.all false
namespace Go.Proofs.YthbombjjioojeaaGreatDoor
namespace Fw
open Go
open Nat renaming reduceEqDiff → qE, reduceLeDiff → qL, reduceAdd → qA, reduceMul → qM, le_refl → qR
open List renaming append_nil → qN, mapM_append → qP, mapM_cons → qC, mapM_map → qU, range_succ → qS, take_of_length_le → qT
open Bool renaming and_eq_true → qB, false_eq_true → qF
open Option renaming map_some → qO, map_eq_some_iff → qI
open Int renaming reduceToNat → qZ
def zrf (c:UInt8) (s:Txt):PV := .tup [.str (znp c s).1,.str (znp c s).2.1,.bool (znp c s).2.2]
theorem z5u {a:Txt}:(a == a)=true:=beq_self_eq_true a
theorem z6c:((1:Int) == 1)=true:=rfl
theorem zv6:((1:Int) == 0)=false:=rfl
theorem zzy (s:Txt) (c:UInt8):PC Tryz.prog 237 [.str s,.str [c]] (.int .i64 (Lib.indexByte s c)) true:=by
 refine PC.of ⟨Tryz.func237,by kernel_rfl,rfl,by kernel_rfl⟩ zal mixed (by show 2≤Tryz.f237.ntmps; decide) ?_
 refine W.r fun K hK=>?_
 simp(disch:=omega)only[↓RU,RV,RH,↓reduceIte,qE,reduceCtorEq,if_pos]
 apply hK;clear hK K
 refine W.r fun K hK=>?_
 simp(disch:=omega)only[↓RU,RV,RH,↓reduceIte,qE,reduceCtorEq,if_pos,zaa]
 apply hK;clear hK K
 refine W.seq ?_
 refine W.block ?_
 refine W.r fun K hK=>?_
 by_cases he:s=[c]
 ·skip
  subst he
  simp(disch:=omega)only[↓RU,RV,RH,↓reduceIte,qE,reduceCtorEq,if_pos,w64,zab,zaa,zv6,z0u,z5u]
  apply hK;clear hK K
  refine W.cond rfl (fun h0=>?_) (fun h0=>?_)
  ·try simp only[RL]at h0
   refine W.r fun K hK=>?_
   simp(disch:=omega)only[↓RU,RV,RH,↓reduceIte,qE,reduceCtorEq,if_pos]
   apply hK;clear hK K
   refine W.ret ?_
   refine XBlock.ret ?_
   refine XThen.ret ?_
   refine Br rfl ?_
   rw [show Lib.indexByte [c] c=0 by rw [Lib.indexByte,if_pos (beq_self_eq_true c)]]
   rfl
  try simp only[RL]at h0
  exact absurd h0 (by simp)
 skip
 have heb:(([c]:Txt) == s)=false:=by rw [beq_eq_false_iff_ne]; exact fun h=>he h.symm
 simp(disch:=omega)only[↓RU,RV,RH,↓reduceIte,qE,reduceCtorEq,if_pos,w64,zab,zaa,zv6,z0u,heb]
 apply hK;clear hK K
 refine W.cond rfl (fun h0=>?_) (fun h0=>?_)
 ·try simp only[RL]at h0
  exact absurd h0 (by simp)
 try simp only[RL]at h0
 refine W.r fun K hK=>?_
 simp(disch:=omega)only[↓RU,RV,RH,↓reduceIte,qE,reduceCtorEq,if_pos,w64,zab,z6c]
 apply hK;clear hK K
 refine W.cond rfl (fun h1=>?_) (fun h1=>?_)
 ·try simp only[RL]at h1
  refine W.r fun K hK=>?_
  simp(disch:=omega)only[↓RU,RV,RH,↓reduceIte,qE,reduceCtorEq,if_pos,qN,zaa,qZ,List.getElem?_cons_zero]
  refine zac.pc (zry s c) rfl (.inl rfl) ?_
  simp(disch:=omega)only[↓RU,RV,RH,↓reduceIte,qE,reduceCtorEq,if_pos,qN,zaa,qZ,List.getElem?_cons_zero]
  apply hK;clear hK K
  refine W.ret ?_
  refine XBlock.ret ?_
  refine XThen.ret ?_
  refine Br rfl ?_
  rfl
 try simp only[RL]at h1
 exact absurd h1 (by simp)
theorem z5q (s:Txt) (c:UInt8) (hs:s.length≤1048576):PC Tryz.prog 123 [.str s,.str [c]] (zrf c s) true:=by
 refine PC.of ⟨Tryz.func123,by kernel_rfl,rfl,by kernel_rfl⟩ zal mixed (by show 2≤Tryz.f123.ntmps; decide) ?_
 refine W.r fun K hK=>?_
 simp(disch:=omega)only[↓RU,RV,RH,↓reduceIte,qE,reduceCtorEq,if_pos]
 apply hK;clear hK K
 refine W.seq ?_
 refine W.r fun K hK=>?_
 simp(disch:=omega)only[↓RU,RV,RH,↓reduceIte,qE,reduceCtorEq,if_pos,qN]
 refine zac.pc (zzy s c) rfl (.inl rfl) ?_
 simp(disch:=omega)only[↓RU,RV,RH,↓reduceIte,qE,reduceCtorEq,if_pos,qN]
 apply hK;clear hK K
 refine W.r fun K hK=>?_
 rcases zvf (c:=c) (s:=s) with ⟨h1,h2,h3⟩ | ⟨k,hk,h1,h2,h3⟩
 ·skip
  rw [h2]
  simp(disch:=omega)only[↓RU,RV,RH,↓reduceIte,qE,reduceCtorEq,if_pos,w64,zab]
  apply hK;clear hK K
  refine W.cond rfl (fun h0=>?_) (fun h0=>?_)
  ·try simp only[RL]at h0
   exact absurd h0 (by simp)
  try simp only[RL]at h0
  refine W.skip ?_
  refine xn ?_
  refine W.r fun K hK=>?_
  simp(disch:=omega)only[↓RU,RV,RH,↓reduceIte,qE,reduceCtorEq,if_pos]
  apply hK;clear hK K
  refine W.ret ?_
  refine Br rfl ?_
  rw [zrf,h3]
  rfl
 skip
 rw [h2]
 have dk:decide ((k:Int) ≥ 0)=true:=decide_eq_true (by omega)
 simp(disch:=omega)only[↓RU,RV,RH,↓reduceIte,qE,reduceCtorEq,if_pos,w64,zab,dk]
 apply hK;clear hK K
 refine W.cond rfl (fun h0=>?_) (fun h0=>?_)
 ·try simp only[RL]at h0
  refine W.seq_draw (by kernel_rfl) fun K hK=>?_
  simp(disch:=omega)only[↓RU,RV,RH,↓reduceIte,qE,reduceCtorEq,if_pos,Option.map_none,w64,↓RS,RG,qA,qM,qL,zab,zaa]
  apply hK;clear hK K
  refine W.ret ?_
  refine XThen.ret ?_
  refine Br rfl ?_
  rw [zrf,h3,show s.drop (k+1)=((s.take s.length).drop (((k:Int)+((1:Nat):Int)).toNat)) by rw [List.take_length]; congr 1]
  rfl
 try simp only[RL]at h0
 exact absurd h0 (by simp)
theorem z4c (s:Txt) (c:UInt8) (hs:s.length≤1048576):PC Tryz.prog 27 [.str s,.str [c]] (zrf c s) true:=by
 refine PC.of ⟨Tryz.func27,by kernel_rfl,rfl,by kernel_rfl⟩ zal mixed (by show 2≤Tryz.f27.ntmps; decide) ?_
 refine W.r fun K hK=>?_
 simp(disch:=omega)only[↓RU,RV,RH,↓reduceIte,qE,reduceCtorEq,if_pos]
 apply hK;clear hK K
 refine W.r fun K hK=>?_
 simp(disch:=omega)only[↓RU,RV,RH,↓reduceIte,qE,reduceCtorEq,if_pos,qN,zrf]
 refine zac.pc (z5q s c hs) rfl (.inl rfl) ?_
 simp(disch:=omega)only[↓RU,RV,RH,↓reduceIte,qE,reduceCtorEq,if_pos,qN,zrf]
 apply hK;clear hK K
 refine W.ret ?_
 refine Br rfl ?_
 rfl
theorem zy5 {a r:Txt} {c:UInt8} (h:c ∉ a) (hl:(a++c::r).length≤1048576):PC Tryz.prog 27 [.str (a++c::r),.str [c]] (.tup [.str a,.str r,.bool true]) true:=by
 have:=z4c (a++c::r) c hl
 rw [zrf,zve h]at this
 exact this
theorem z7r {a:Txt} {c:UInt8} (h:c ∉ a) (hl:a.length≤1048576):PC Tryz.prog 27 [.str a,.str [c]] (.tup [.str a,.str [],.bool false]) true:=by
 have:=z4c a c hl
 rw [zrf,zy4 h]at this
 exact this
def z18 (k:Nat):Txt:=[UInt8.ofNat (48+k)]
theorem z2m {k:Nat} (h:k<10):(([48,49,50,51,52,53,54,55,56,57,97,98,99,100,101,102,103,104,105,106,107,108,109,110,111,112,113,114,115,116,117,118,119,120,121,122]:Txt).take (k+1)).drop k=z18 k:=by
 have:k=0∨k=1∨k=2∨k=3∨k=4∨k=5∨k=6∨k=7∨k=8∨k=9:=by omega
 rcases this with rfl | rfl | rfl | rfl | rfl | rfl | rfl | rfl | rfl | rfl <;> rfl
theorem z3s {k:Nat} (hk:k<10):PC Tryz.prog 286 [.int .i64 k] (.str (z18 k)) true:=by
 refine PC.of ⟨Tryz.func286,by kernel_rfl,rfl,by kernel_rfl⟩ zal mixed (by show 1≤Tryz.f286.ntmps; decide) ?_
 refine W.r fun K hK=>?_
 simp(disch:=omega)only[↓RU,RV,RH,↓reduceIte,qE,reduceCtorEq,if_pos]
 apply hK;clear hK K
 refine W.seq ?_
 refine W.r fun K hK=>?_
 simp(disch:=omega)only[↓RU,RV,RH,↓reduceIte,qE,reduceCtorEq,if_pos,w64,zab]
 apply hK;clear hK K
 refine W.cond rfl (fun h0=>?_) (fun h0=>?_)
 ·try simp only[RL]at h0
  refine W.r fun K hK=>?_
  simp(disch:=omega)only[↓RU,RV,RH,↓reduceIte,qE,reduceCtorEq,if_pos,w64,Option.map_none,↓RS,RG,qA,qM,qL,zab,zaa]
  apply hK;clear hK K
  refine W.ret ?_
  refine XThen.ret ?_
  refine Br rfl ?_
  rw [← z2m hk]
  rfl
 try simp only[RL]at h0
 exfalso; omega
theorem zrt {k:Nat} (hk:k<10):PC Tryz.prog 239 [.int .i64 k,.int .i64 10] (.str (z18 k)) true:=by
 have d0:decide ((0:Int)≤(k:Int))=true:=decide_eq_true (by omega)
 have d1:decide ((k:Int)<100)=true:=decide_eq_true (by omega)
 have t10:((10:Int) == 10)=true:=rfl
 refine PC.of ⟨Tryz.func239,by kernel_rfl,rfl,by kernel_rfl⟩ zal mixed (by show 2≤Tryz.f239.ntmps; decide) ?_
 refine W.r fun K hK=>?_
 simp(disch:=omega)only[↓RU,RV,RH,↓reduceIte,qE,reduceCtorEq,if_pos]
 apply hK;clear hK K
 refine W.seq ?_
 refine W.r fun K hK=>?_
 simp(disch:=omega)only[↓RU,RV,RH,↓reduceIte,qE,reduceCtorEq,if_pos,w64,zab,t10]
 apply hK;clear hK K
 refine W.cond rfl (fun h0=>?_) (fun h0=>?_)
 ·try simp only[RL]at h0
  refine W.seq ?_
  refine W.r fun K hK=>?_
  simp(disch:=omega)only[↓RU,RV,RH,↓reduceIte,qE,reduceCtorEq,if_pos,w64,z64,d0,d1]
  apply hK;clear hK K
  refine W.cond rfl (fun h1=>?_) (fun h1=>?_)
  ·try simp only[RL]at h1
   refine W.r fun K hK=>?_
   simp(disch:=omega)only[↓RU,RV,RH,↓reduceIte,qE,reduceCtorEq,if_pos,qN]
   refine zac.pc (z3s hk) rfl (.inl rfl) ?_
   simp(disch:=omega)only[↓RU,RV,RH,↓reduceIte,qE,reduceCtorEq,if_pos,qN]
   apply hK;clear hK K
   refine W.ret ?_
   refine XThen.ret ?_
   refine XThen.ret ?_
   refine Br rfl ?_
   rfl
  try simp only[RL]at h1
  exact absurd h1 (by simp)
 try simp only[RL]at h0
 exact absurd h0 (by simp)
theorem z2v {k:Nat} (hk:k<10):PC Tryz.prog 125 [.int .i64 k] (.str (z18 k)) true:=by
 refine PC.of ⟨Tryz.func125,by kernel_rfl,rfl,by kernel_rfl⟩ zal mixed (by show 1≤Tryz.f125.ntmps; decide) ?_
 refine W.r fun K hK=>?_
 simp(disch:=omega)only[↓RU,RV,RH,↓reduceIte,qE,reduceCtorEq,if_pos]
 apply hK;clear hK K
 refine W.r fun K hK=>?_
 simp(disch:=omega)only[↓RU,RV,RH,↓reduceIte,qE,reduceCtorEq,if_pos,qN]
 refine zac.pc (zrt hk) rfl (.inl rfl) ?_
 simp(disch:=omega)only[↓RU,RV,RH,↓reduceIte,qE,reduceCtorEq,if_pos,qN]
 apply hK;clear hK K
 refine W.ret ?_
 refine Br rfl ?_
 rfl
theorem z55 {k:Nat} (hk:k<10):PC Tryz.prog 29 [.int .i64 k] (.str (z18 k)) true:=by
 refine PC.of ⟨Tryz.func29,by kernel_rfl,rfl,by kernel_rfl⟩ zal mixed (by show 1≤Tryz.f29.ntmps; decide) ?_
 refine W.r fun K hK=>?_
 simp(disch:=omega)only[↓RU,RV,RH,↓reduceIte,qE,reduceCtorEq,if_pos]
 apply hK;clear hK K
 refine W.r fun K hK=>?_
 simp(disch:=omega)only[↓RU,RV,RH,↓reduceIte,qE,reduceCtorEq,if_pos,qN]
 refine zac.pc (z2v hk) rfl (.inl rfl) ?_
 simp(disch:=omega)only[↓RU,RV,RH,↓reduceIte,qE,reduceCtorEq,if_pos,qN]
 apply hK;clear hK K
 refine W.ret ?_
 refine Br rfl ?_
 rfl
theorem zzb {s:Txt}:(s.map eB).take s.length=s.map eB:=qT (by simp)
theorem zyt {s:Txt}:z7f tab 22 9 (.str s)=some (.sl (s.map eB) s.length):=rfl
theorem znk {X0 X1 X2:Ob} {vb t:Nat} {s:Txt} (h0:s≠[]) (hs:s.length≤100000):Ev Tryz.prog 28 [.ref 3 vb 0,.str s] ⟨[X0,X1,X2,.arr vb 54 2 [.nilp,.nils]],t⟩ fun v S=>∃ vq t2:Nat,S=⟨[X0,X1,X2,.arr vb 54 2 [.ref 3 vb 0,.loc 4 vq 0 (s).length],.arr vq 5 1 ((s).map eB)],t2⟩:=by
 have hl:¬ s.length=0:=fun h=>h0 (List.eq_nil_of_length_eq_zero h)
 refine Ev.of ⟨Tryz.func28,by kernel_rfl,rfl,by kernel_rfl⟩ zal mixed (by show 2≤Tryz.f28.ntmps; decide) ?_
 refine W.r fun K hK=>?_
 simp(disch:=omega)only[↓RU,RV,RH,↓reduceIte,qE,reduceCtorEq,if_pos,↓RS,RG,qA,qM,qL]
 apply hK;clear hK K
 refine W.r fun K hK=>?_
 simp(disch:=omega)only[↓RU,RV,RH,↓reduceIte,qE,reduceCtorEq,if_pos,qN,↓RS,RG,qA,qM,qL,List.set_cons_succ,List.set_cons_zero]
 refine zac.ev (ze5 (S:=⟨[X0,X1,X2,.arr vb 54 2 [.nilp,.nils]],t⟩) (o:=3) rfl (.inl rfl)) ?_
 rintro _ _ ⟨rfl,rfl⟩
 simp(disch:=omega)only[↓RU,RV,RH,↓reduceIte,qE,reduceCtorEq,if_pos,qN,↓RS,RG,qA,qM,qL,List.set_cons_succ,List.set_cons_zero]
 apply hK;clear hK K
 refine W.r fun K hK=>?_
 simp(disch:=omega)only[↓RU,RV,RH,↓reduceIte,qE,reduceCtorEq,if_pos,↓RS,RG,qA,qM,qL,ty7,z69,zaa,z7a,z7b,zai,zyt,List.length_map,hl,zzb]
 apply hK;clear hK K
 refine W.r fun K hK=>?_
 simp(disch:=omega)only[↓RU,RV,RH,↓reduceIte,qE,reduceCtorEq,if_pos,↓RS,RG,qA,qM,qL,zaa]
 apply hK;clear hK K
 refine W.ret ?_
 refine Br rfl ?_
 exact ⟨5,_,_,rfl⟩
theorem znl {X0 X1 X2:Ob} {vb vq t:Nat} {l s:Txt} (hl:l.length≤100000) (hs:s.length≤100000):Ev Tryz.prog 28 [.ref 3 vb 0,.str s] ⟨[X0,X1,X2,.arr vb 54 2 [.ref 3 vb 0,.loc 4 vq 0 (l).length],.arr vq 5 1 ((l).map eB)],t⟩ fun v S=>∃ vq t2:Nat,S=⟨[X0,X1,X2,.arr vb 54 2 [.ref 3 vb 0,.loc 4 vq 0 ((l++s)).length],.arr vq 5 1 (((l++s)).map eB)],t2⟩:=by
 refine Ev.of ⟨Tryz.func28,by kernel_rfl,rfl,by kernel_rfl⟩ zal mixed (by show 2≤Tryz.f28.ntmps; decide) ?_
 refine W.r fun K hK=>?_
 simp(disch:=omega)only[↓RU,RV,RH,↓reduceIte,qE,reduceCtorEq,if_pos,↓RS,RG,qA,qM,qL]
 apply hK;clear hK K
 refine W.r fun K hK=>?_
 simp(disch:=omega)only[↓RU,RV,RH,↓reduceIte,qE,reduceCtorEq,if_pos,qN,↓RS,RG,qA,qM,qL,List.set_cons_succ,List.set_cons_zero]
 refine zac.ev (ze5 (S:=⟨[X0,X1,X2,.arr vb 54 2 [.ref 3 vb 0,.loc 4 vq 0 (l).length],.arr vq 5 1 ((l).map eB)],t⟩) (o:=3) rfl (.inr rfl)) ?_
 rintro _ _ ⟨rfl,rfl⟩
 simp(disch:=omega)only[↓RU,RV,RH,↓reduceIte,qE,reduceCtorEq,if_pos,qN,↓RS,RG,qA,qM,qL,List.set_cons_succ,List.set_cons_zero]
 apply hK;clear hK K
 refine W.r fun K hK=>?_
 simp(disch:=omega)only[↓RU,RV,RH,↓reduceIte,qE,reduceCtorEq,if_pos,↓RS,RG,qA,qM,qL,ty7,z69,zaa,z7a,z7b,zai,zyt,List.length_map,zzb]
 apply hK;clear hK K
 refine W.r fun K hK=>?_
 simp(disch:=omega)only[↓RU,RV,RH,↓reduceIte,qE,reduceCtorEq,if_pos,↓RS,RG,qA,qM,qL,zaa]
 apply hK;clear hK K
 refine W.ret ?_
 refine Br rfl ?_
 exact ⟨5,t,t+1,by simp [zev]⟩
theorem zee (f:FuncId):PC Tryz.prog 55 [.fn f []] (.fn 171 [.ip [.fn f []] 0]) false:=by
 refine PC.of ⟨Tryz.func55,by kernel_rfl,rfl,by kernel_rfl⟩ zal mixed (by show 1≤Tryz.f55.ntmps; decide) ?_
 refine W.r fun K hK=>?_
 simp(disch:=omega)only[↓RU,RV,RH,↓reduceIte,qE,reduceCtorEq,if_pos,↓RS,RG,qA,qM,qL,ty17,za3,zf5,zat,zau]
 apply hK;clear hK K
 refine W.r fun K hK=>?_
 simp(disch:=omega)only[↓RU,RV,RH,↓reduceIte,qE,reduceCtorEq,if_pos,↓RS,RG,qA,qM,qL,za3,zf5,zat,zau]
 apply hK;clear hK K
 refine W.ret ?_
 refine Br rfl ?_
 rfl
theorem zog {f:FuncId} {X0:Ob} {v0 t:Nat}:Ev Tryz.prog 55 [.fn f [.ref 0 v0 0]] ⟨[X0],t⟩ fun v S=>v = .fn 171 [.ref 1 t 0]∧S=⟨[X0,.arr t 105 1 [.fn f [.ref 0 v0 0]]],t+1⟩:=by
 refine Ev.of ⟨Tryz.func55,by kernel_rfl,rfl,by kernel_rfl⟩ zal mixed (by show 1≤Tryz.f55.ntmps; decide) ?_
 refine W.r fun K hK=>?_
 simp(disch:=omega)only[↓RU,RV,RH,↓reduceIte,qE,reduceCtorEq,if_pos,↓RS,RG,qA,qM,qL,ty17,za3,zf5]
 apply hK;clear hK K
 refine W.r fun K hK=>?_
 simp(disch:=omega)only[↓RU,RV,RH,↓reduceIte,qE,reduceCtorEq,if_pos,↓RS,RG,qA,qM,qL,za3,zf5]
 apply hK;clear hK K
 refine W.ret ?_
 refine Br rfl ?_
 exact ⟨2,rfl,rfl⟩
theorem zg9 (f:FuncId):PC Tryz.prog 49 [.fn f []] (.fn 171 [.ip [.fn 158 [.ip [.fn f []] 0]] 0]) false:=by
 refine PC.of ⟨Tryz.func49,by kernel_rfl,rfl,by kernel_rfl⟩ zal mixed (by show 1≤Tryz.f49.ntmps; decide) ?_
 refine W.r fun K hK=>?_
 simp(disch:=omega)only[↓RU,RV,RH,↓reduceIte,qE,reduceCtorEq,if_pos,↓RS,RG,qA,qM,qL,ty14,za3,zf5,zat,zau]
 apply hK;clear hK K
 refine W.r fun K hK=>?_
 simp(disch:=omega)only[↓RU,RV,RH,↓reduceIte,qE,reduceCtorEq,if_pos,qN,↓RS,RG,qA,qM,qL,za3,zf5,zat,zau]
 refine zac.ev (zog) ?_
 rintro _ _ ⟨rfl,rfl⟩
 simp(disch:=omega)only[↓RU,RV,RH,↓reduceIte,qE,reduceCtorEq,if_pos,qN,↓RS,RG,qA,qM,qL,za3,zf5,zat,zau]
 apply hK;clear hK K
 refine W.ret ?_
 refine Br rfl ?_
 rfl
theorem zss (s:Txt):PC Tryz.prog 90 [.str s] (.fn 171 [.ip [.fn 203 [.ip [.str s] 0]] 0]) false:=by
 refine PC.of ⟨Tryz.func90,by kernel_rfl,rfl,by kernel_rfl⟩ zal mixed (by show 1≤Tryz.f90.ntmps; decide) ?_
 refine W.r fun K hK=>?_
 simp(disch:=omega)only[↓RU,RV,RH,↓reduceIte,qE,reduceCtorEq,if_pos,↓RS,RG,qA,qM,qL,zaa,za3,zf5,zat,zau]
 apply hK;clear hK K
 refine W.r fun K hK=>?_
 simp(disch:=omega)only[↓RU,RV,RH,↓reduceIte,qE,reduceCtorEq,if_pos,qN,↓RS,RG,qA,qM,qL,za3,zf5,zat,zau]
 refine zac.ev (zog) ?_
 rintro _ _ ⟨rfl,rfl⟩
 simp(disch:=omega)only[↓RU,RV,RH,↓reduceIte,qE,reduceCtorEq,if_pos,qN,↓RS,RG,qA,qM,qL,za3,zf5,zat,zau]
 apply hK;clear hK K
 refine W.ret ?_
 refine Br rfl ?_
 rfl
theorem ztg (f:FuncId):PC Tryz.prog 121 [.fn f []] (.fn 235 [.ip [.fn f []] 0]) false:=by
 refine PC.of ⟨Tryz.func121,by kernel_rfl,rfl,by kernel_rfl⟩ zal mixed (by show 1≤Tryz.f121.ntmps; decide) ?_
 refine W.r fun K hK=>?_
 simp(disch:=omega)only[↓RU,RV,RH,↓reduceIte,qE,reduceCtorEq,if_pos,↓RS,RG,qA,qM,qL,z9r,za3,zf5,zat,zau]
 apply hK;clear hK K
 refine W.r fun K hK=>?_
 simp(disch:=omega)only[↓RU,RV,RH,↓reduceIte,qE,reduceCtorEq,if_pos,↓RS,RG,qA,qM,qL,za3,zf5,zat,zau]
 apply hK;clear hK K
 refine W.ret ?_
 refine Br rfl ?_
 rfl
theorem zg0 (f g:FuncId):PC Tryz.prog 62 [.fn f [],.fn g []] (.fn 178 [.ip [.fn f []] 0,.ip [.fn g []] 0]) false:=by
 refine PC.of ⟨Tryz.func62,by kernel_rfl,rfl,by kernel_rfl⟩ zal mixed (by show 2≤Tryz.f62.ntmps; decide) ?_
 refine W.r fun K hK=>?_
 simp(disch:=omega)only[↓RU,RV,RH,↓reduceIte,qE,reduceCtorEq,if_pos,↓RS,RG,qA,qM,qL,ty15,ty19,za3,zf5,zat,zau]
 apply hK;clear hK K
 refine W.r fun K hK=>?_
 simp(disch:=omega)only[↓RU,RV,RH,↓reduceIte,qE,reduceCtorEq,if_pos,↓RS,RG,qA,qM,qL,za3,zf5,zat,zau]
 apply hK;clear hK K
 refine W.ret ?_
 refine Br rfl ?_
 rfl
theorem zjs (f g:FuncId):PC Tryz.prog 64 [.fn f [],.fn g []] (.fn 179 [.ip [.fn f []] 0,.ip [.fn g []] 0]) false:=by
 refine PC.of ⟨Tryz.func64,by kernel_rfl,rfl,by kernel_rfl⟩ zal mixed (by show 2≤Tryz.f64.ntmps; decide) ?_
 refine W.r fun K hK=>?_
 simp(disch:=omega)only[↓RU,RV,RH,↓reduceIte,qE,reduceCtorEq,if_pos,↓RS,RG,qA,qM,qL,ty11,ty12,za3,zf5,zat,zau]
 apply hK;clear hK K
 refine W.r fun K hK=>?_
 simp(disch:=omega)only[↓RU,RV,RH,↓reduceIte,qE,reduceCtorEq,if_pos,↓RS,RG,qA,qM,qL,za3,zf5,zat,zau]
 apply hK;clear hK K
 refine W.ret ?_
 refine Br rfl ?_
 rfl
theorem zuh (f g:FuncId):PC Tryz.prog 73 [.fn f [],.fn g []] (.fn 184 [.ip [.fn f []] 0,.ip [.fn g []] 0]) false:=by
 refine PC.of ⟨Tryz.func73,by kernel_rfl,rfl,by kernel_rfl⟩ zal mixed (by show 2≤Tryz.f73.ntmps; decide) ?_
 refine W.r fun K hK=>?_
 simp(disch:=omega)only[↓RU,RV,RH,↓reduceIte,qE,reduceCtorEq,if_pos,↓RS,RG,qA,qM,qL,ty16,ty20,za3,zf5,zat,zau]
 apply hK;clear hK K
 refine W.r fun K hK=>?_
 simp(disch:=omega)only[↓RU,RV,RH,↓reduceIte,qE,reduceCtorEq,if_pos,↓RS,RG,qA,qM,qL,za3,zf5,zat,zau]
 apply hK;clear hK K
 refine W.ret ?_
 refine Br rfl ?_
 rfl
theorem zc9 (k:Int) (f:FuncId):PC Tryz.prog 96 [.int .i64 k,.fn f []] (.fn 212 [.ip [.int .i64 k] 0,.ip [.fn f []] 0]) false:=by
 refine PC.of ⟨Tryz.func96,by kernel_rfl,rfl,by kernel_rfl⟩ zal mixed (by show 2≤Tryz.f96.ntmps; decide) ?_
 refine W.r fun K hK=>?_
 simp(disch:=omega)only[↓RU,RV,RH,↓reduceIte,qE,reduceCtorEq,if_pos,↓RS,RG,qA,qM,qL,ty13,zab,za3,zf5,zat,zau]
 apply hK;clear hK K
 refine W.r fun K hK=>?_
 simp(disch:=omega)only[↓RU,RV,RH,↓reduceIte,qE,reduceCtorEq,if_pos,↓RS,RG,qA,qM,qL,za3,zf5,zat,zau]
 apply hK;clear hK K
 refine W.ret ?_
 refine Br rfl ?_
 rfl
theorem zew {s:Txt}:TK.keyed tab 9 (.str s)=true:=rfl
def z9p:List (PV × PV):=[]
def tabA1:List (PV × PV):=z9p++[(.str [116,117,114,110],.fn 171 [.ip [.fn 158 [.ip [.fn 50 []] 0]] 0])]
theorem zkt:findKey (.str [116,117,114,110]) [] 0=some none:=rfl
theorem zk3:[((.str [116,117,114,110]:PV),(.fn 171 [.ip [.fn 158 [.ip [.fn 50 []] 0]] 0]:PV))]=tabA1:=rfl
def tabA2:List (PV × PV):=tabA1++[(.str [102,108,105,112],.fn 171 [.ip [.fn 158 [.ip [.fn 51 []] 0]] 0])]
theorem zku:findKey (.str [102,108,105,112]) tabA1 0=some none:=rfl
theorem zk4:tabA1++[((.str [102,108,105,112]:PV),(.fn 171 [.ip [.fn 158 [.ip [.fn 51 []] 0]] 0]:PV))]=tabA2:=rfl
def tabA3:List (PV × PV):=tabA2++[(.str [116,114,97,110,115],.fn 171 [.ip [.fn 158 [.ip [.fn 52 []] 0]] 0])]
theorem zkv:findKey (.str [116,114,97,110,115]) tabA2 0=some none:=rfl
theorem zk5:tabA2++[((.str [116,114,97,110,115]:PV),(.fn 171 [.ip [.fn 158 [.ip [.fn 52 []] 0]] 0]:PV))]=tabA3:=rfl
def tabA4:List (PV × PV):=tabA3++[(.str [116,105,103,104,116],.fn 171 [.ip [.fn 158 [.ip [.fn 53 []] 0]] 0])]
theorem zkw:findKey (.str [116,105,103,104,116]) tabA3 0=some none:=rfl
theorem zk6:tabA3++[((.str [116,105,103,104,116]:PV),(.fn 171 [.ip [.fn 158 [.ip [.fn 53 []] 0]] 0]:PV))]=tabA4:=rfl
def tabA5:List (PV × PV):=tabA4++[(.str [97,115,105,100,101],.fn 54 [])]
theorem zkx:findKey (.str [97,115,105,100,101]) tabA4 0=some none:=rfl
theorem zk7:tabA4++[((.str [97,115,105,100,101]:PV),(.fn 54 []:PV))]=tabA5:=rfl
def tabA6:List (PV × PV):=tabA5++[(.str [98,101,115,105,100,101],.fn 171 [.ip [.fn 56 []] 0])]
theorem zky:findKey (.str [98,101,115,105,100,101]) tabA5 0=some none:=rfl
theorem zk8:tabA5++[((.str [98,101,115,105,100,101]:PV),(.fn 171 [.ip [.fn 56 []] 0]:PV))]=tabA6:=rfl
def tabA7:List (PV × PV):=tabA6++[(.str [117,110,100,101,114],.fn 171 [.ip [.fn 58 []] 0])]
theorem zkz:findKey (.str [117,110,100,101,114]) tabA6 0=some none:=rfl
theorem zk9:tabA6++[((.str [117,110,100,101,114]:PV),(.fn 171 [.ip [.fn 58 []] 0]:PV))]=tabA7:=rfl
def tabA8:List (PV × PV):=tabA7++[(.str [115,104,111,119],.fn 60 [])]
theorem zk0:findKey (.str [115,104,111,119]) tabA7 0=some none:=rfl
theorem zla:tabA7++[((.str [115,104,111,119]:PV),(.fn 60 []:PV))]=tabA8:=rfl
def tabA9:List (PV × PV):=tabA8++[(.str [114,111,111,109,115],.fn 178 [.ip [.fn 13 []] 0,.ip [.fn 63 []] 0])]
theorem zk1:findKey (.str [114,111,111,109,115]) tabA8 0=some none:=rfl
theorem zlb:tabA8++[((.str [114,111,111,109,115]:PV),(.fn 178 [.ip [.fn 13 []] 0,.ip [.fn 63 []] 0]:PV))]=tabA9:=rfl
def tabA10:List (PV × PV):=tabA9++[(.str [97,114,101,97,115],.fn 179 [.ip [.fn 65 []] 0,.ip [.fn 66 []] 0])]
theorem zk2:findKey (.str [97,114,101,97,115]) tabA9 0=some none:=rfl
theorem zlc:tabA9++[((.str [97,114,101,97,115]:PV),(.fn 179 [.ip [.fn 65 []] 0,.ip [.fn 66 []] 0]:PV))]=tabA10:=rfl
def tabA11:List (PV × PV):=tabA10++[(.str [119,97,108,108,115],.fn 67 [])]
theorem zdi:findKey (.str [119,97,108,108,115]) tabA10 0=some none:=rfl
theorem zdy:tabA10++[((.str [119,97,108,108,115]:PV),(.fn 67 []:PV))]=tabA11:=rfl
def tabA12:List (PV × PV):=tabA11++[(.str [99,114,111,115,115],.fn 178 [.ip [.fn 70 []] 0,.ip [.fn 63 []] 0])]
theorem zdj:findKey (.str [99,114,111,115,115]) tabA11 0=some none:=rfl
theorem zdz:tabA11++[((.str [99,114,111,115,115]:PV),(.fn 178 [.ip [.fn 70 []] 0,.ip [.fn 63 []] 0]:PV))]=tabA12:=rfl
def tabA13:List (PV × PV):=tabA12++[(.str [116,101,101,115],.fn 178 [.ip [.fn 71 []] 0,.ip [.fn 63 []] 0])]
theorem zdk:findKey (.str [116,101,101,115]) tabA12 0=some none:=rfl
theorem zd0:tabA12++[((.str [116,101,101,115]:PV),(.fn 178 [.ip [.fn 71 []] 0,.ip [.fn 63 []] 0]:PV))]=tabA13:=rfl
def tabA14:List (PV × PV):=tabA13++[(.str [101,110,100,115],.fn 178 [.ip [.fn 72 []] 0,.ip [.fn 63 []] 0])]
theorem zdl:findKey (.str [101,110,100,115]) tabA13 0=some none:=rfl
theorem zd1:tabA13++[((.str [101,110,100,115]:PV),(.fn 178 [.ip [.fn 72 []] 0,.ip [.fn 63 []] 0]:PV))]=tabA14:=rfl
def tabA15:List (PV × PV):=tabA14++[(.str [99,117,116],.fn 184 [.ip [.fn 11 []] 0,.ip [.fn 74 []] 0])]
theorem zdm:findKey (.str [99,117,116]) tabA14 0=some none:=rfl
theorem zd2:tabA14++[((.str [99,117,116]:PV),(.fn 184 [.ip [.fn 11 []] 0,.ip [.fn 74 []] 0]:PV))]=tabA15:=rfl
def tabA16:List (PV × PV):=tabA15++[(.str [100,101,101,112],.fn 178 [.ip [.fn 75 []] 0,.ip [.fn 63 []] 0])]
theorem zdn:findKey (.str [100,101,101,112]) tabA15 0=some none:=rfl
theorem zd3:tabA15++[((.str [100,101,101,112]:PV),(.fn 178 [.ip [.fn 75 []] 0,.ip [.fn 63 []] 0]:PV))]=tabA16:=rfl
def tabA17:List (PV × PV):=tabA16++[(.str [119,97,121,115],.fn 178 [.ip [.fn 76 []] 0,.ip [.fn 63 []] 0])]
theorem zdo:findKey (.str [119,97,121,115]) tabA16 0=some none:=rfl
theorem zd4:tabA16++[((.str [119,97,121,115]:PV),(.fn 178 [.ip [.fn 76 []] 0,.ip [.fn 63 []] 0]:PV))]=tabA17:=rfl
def tabA18:List (PV × PV):=tabA17++[(.str [115,116,117,99,107],.fn 179 [.ip [.fn 77 []] 0,.ip [.fn 66 []] 0])]
theorem zdp:findKey (.str [115,116,117,99,107]) tabA17 0=some none:=rfl
theorem zd5:tabA17++[((.str [115,116,117,99,107]:PV),(.fn 179 [.ip [.fn 77 []] 0,.ip [.fn 66 []] 0]:PV))]=tabA18:=rfl
def tabA19:List (PV × PV):=tabA18++[(.str [112,97,105,114,115],.fn 178 [.ip [.fn 78 []] 0,.ip [.fn 63 []] 0])]
theorem zdq:findKey (.str [112,97,105,114,115]) tabA18 0=some none:=rfl
theorem zd6:tabA18++[((.str [112,97,105,114,115]:PV),(.fn 178 [.ip [.fn 78 []] 0,.ip [.fn 63 []] 0]:PV))]=tabA19:=rfl
def tabA20:List (PV × PV):=tabA19++[(.str [102,97,114],.fn 178 [.ip [.fn 79 []] 0,.ip [.fn 63 []] 0])]
theorem zdr:findKey (.str [102,97,114]) tabA19 0=some none:=rfl
theorem zd7:tabA19++[((.str [102,97,114]:PV),(.fn 178 [.ip [.fn 79 []] 0,.ip [.fn 63 []] 0]:PV))]=tabA20:=rfl
def tabA21:List (PV × PV):=tabA20++[(.str [99,111,108,111,117,114,115],.fn 179 [.ip [.fn 80 []] 0,.ip [.fn 66 []] 0])]
theorem zds:findKey (.str [99,111,108,111,117,114,115]) tabA20 0=some none:=rfl
theorem zd8:tabA20++[((.str [99,111,108,111,117,114,115]:PV),(.fn 179 [.ip [.fn 80 []] 0,.ip [.fn 66 []] 0]:PV))]=tabA21:=rfl
def tabA22:List (PV × PV):=tabA21++[(.str [102,105,114,115,116],.fn 179 [.ip [.fn 81 []] 0,.ip [.fn 66 []] 0])]
theorem zdt:findKey (.str [102,105,114,115,116]) tabA21 0=some none:=rfl
theorem zd9:tabA21++[((.str [102,105,114,115,116]:PV),(.fn 179 [.ip [.fn 81 []] 0,.ip [.fn 66 []] 0]:PV))]=tabA22:=rfl
def tabA23:List (PV × PV):=tabA22++[(.str [115,101,99,111,110,100],.fn 179 [.ip [.fn 82 []] 0,.ip [.fn 66 []] 0])]
theorem zdu:findKey (.str [115,101,99,111,110,100]) tabA22 0=some none:=rfl
theorem zea:tabA22++[((.str [115,101,99,111,110,100]:PV),(.fn 179 [.ip [.fn 82 []] 0,.ip [.fn 66 []] 0]:PV))]=tabA23:=rfl
def tabA24:List (PV × PV):=tabA23++[(.str [112,101,114,109],.fn 179 [.ip [.fn 83 []] 0,.ip [.fn 66 []] 0])]
theorem zdv:findKey (.str [112,101,114,109]) tabA23 0=some none:=rfl
theorem zeb:tabA23++[((.str [112,101,114,109]:PV),(.fn 179 [.ip [.fn 83 []] 0,.ip [.fn 66 []] 0]:PV))]=tabA24:=rfl
def tabA25:List (PV × PV):=tabA24++[(.str [97,115],.fn 184 [.ip [.fn 84 []] 0,.ip [.fn 74 []] 0])]
theorem zdw:findKey (.str [97,115]) tabA24 0=some none:=rfl
theorem zec:tabA24++[((.str [97,115]:PV),(.fn 184 [.ip [.fn 84 []] 0,.ip [.fn 74 []] 0]:PV))]=tabA25:=rfl
def tabA26:List (PV × PV):=tabA25++[(.str [112,114,111,111,102],.fn 184 [.ip [.fn 17 []] 0,.ip [.fn 74 []] 0])]
theorem zdx:findKey (.str [112,114,111,111,102]) tabA25 0=some none:=rfl
theorem zed:tabA25++[((.str [112,114,111,111,102]:PV),(.fn 184 [.ip [.fn 17 []] 0,.ip [.fn 74 []] 0]:PV))]=tabA26:=rfl
def z9q:List (PV × PV):=[]
def tabT1:List (PV × PV):=z9q++[(.str [112,108,97,110],.fn 171 [.ip [.fn 85 []] 0])]
theorem znq:findKey (.str [112,108,97,110]) [] 0=some none:=rfl
theorem zn0:[((.str [112,108,97,110]:PV),(.fn 171 [.ip [.fn 85 []] 0]:PV))]=tabT1:=rfl
def tabT2:List (PV × PV):=tabT1++[(.str [116,101,114,109],.fn 171 [.ip [.fn 88 []] 0])]
theorem znr:findKey (.str [116,101,114,109]) tabT1 0=some none:=rfl
theorem zn1:tabT1++[((.str [116,101,114,109]:PV),(.fn 171 [.ip [.fn 88 []] 0]:PV))]=tabT2:=rfl
def tabT3:List (PV × PV):=tabT2++[(.str [115,112,108,105,116,104],.fn 171 [.ip [.fn 203 [.ip [.str [104]] 0]] 0])]
theorem zns:findKey (.str [115,112,108,105,116,104]) tabT2 0=some none:=rfl
theorem zn2:tabT2++[((.str [115,112,108,105,116,104]:PV),(.fn 171 [.ip [.fn 203 [.ip [.str [104]] 0]] 0]:PV))]=tabT3:=rfl
def tabT4:List (PV × PV):=tabT3++[(.str [115,112,108,105,116,118],.fn 171 [.ip [.fn 203 [.ip [.str [118]] 0]] 0])]
theorem znt:findKey (.str [115,112,108,105,116,118]) tabT3 0=some none:=rfl
theorem zn3:tabT3++[((.str [115,112,108,105,116,118]:PV),(.fn 171 [.ip [.fn 203 [.ip [.str [118]] 0]] 0]:PV))]=tabT4:=rfl
def tabT5:List (PV × PV):=tabT4++[(.str [119,105,100,101],.fn 171 [.ip [.fn 91 []] 0])]
theorem znu:findKey (.str [119,105,100,101]) tabT4 0=some none:=rfl
theorem zn4:tabT4++[((.str [119,105,100,101]:PV),(.fn 171 [.ip [.fn 91 []] 0]:PV))]=tabT5:=rfl
def tabT6:List (PV × PV):=tabT5++[(.str [109,101,114,103,101],.fn 171 [.ip [.fn 94 []] 0])]
theorem znv:findKey (.str [109,101,114,103,101]) tabT5 0=some none:=rfl
theorem zn5:tabT5++[((.str [109,101,114,103,101]:PV),(.fn 171 [.ip [.fn 94 []] 0]:PV))]=tabT6:=rfl
def tabT7:List (PV × PV):=tabT6++[(.str [114,111,111,109],.fn 212 [.ip [.int .i64 (1)] 0,.ip [.fn 97 []] 0])]
theorem znw:findKey (.str [114,111,111,109]) tabT6 0=some none:=rfl
theorem zn6:tabT6++[((.str [114,111,111,109]:PV),(.fn 212 [.ip [.int .i64 (1)] 0,.ip [.fn 97 []] 0]:PV))]=tabT7:=rfl
def tabT8:List (PV × PV):=tabT7++[(.str [115,105,100,101,115],.fn 212 [.ip [.int .i64 (1)] 0,.ip [.fn 99 []] 0])]
theorem znx:findKey (.str [115,105,100,101,115]) tabT7 0=some none:=rfl
theorem zn7:tabT7++[((.str [115,105,100,101,115]:PV),(.fn 212 [.ip [.int .i64 (1)] 0,.ip [.fn 99 []] 0]:PV))]=tabT8:=rfl
def tabT9:List (PV × PV):=tabT8++[(.str [110,101,97,114],.fn 212 [.ip [.int .i64 (1)] 0,.ip [.fn 101 []] 0])]
theorem zny:findKey (.str [110,101,97,114]) tabT8 0=some none:=rfl
theorem zn8:tabT8++[((.str [110,101,97,114]:PV),(.fn 212 [.ip [.int .i64 (1)] 0,.ip [.fn 101 []] 0]:PV))]=tabT9:=rfl
def tabT10:List (PV × PV):=tabT9++[(.str [119,97,121],.fn 212 [.ip [.int .i64 (2)] 0,.ip [.fn 103 []] 0])]
theorem znz:findKey (.str [119,97,121]) tabT9 0=some none:=rfl
theorem zn9:tabT9++[((.str [119,97,121]:PV),(.fn 212 [.ip [.int .i64 (2)] 0,.ip [.fn 103 []] 0]:PV))]=tabT10:=rfl
def tabT11:List (PV × PV):=tabT10++[(.str [107,105,110,100],.fn 212 [.ip [.int .i64 (2)] 0,.ip [.fn 105 []] 0])]
theorem zfh:findKey (.str [107,105,110,100]) tabT10 0=some none:=rfl
theorem zfr:tabT10++[((.str [107,105,110,100]:PV),(.fn 212 [.ip [.int .i64 (2)] 0,.ip [.fn 105 []] 0]:PV))]=tabT11:=rfl
def tabT12:List (PV × PV):=tabT11++[(.str [115,105,122,101],.fn 212 [.ip [.int .i64 (-1)] 0,.ip [.fn 107 []] 0])]
theorem zfi:findKey (.str [115,105,122,101]) tabT11 0=some none:=rfl
theorem zfs:tabT11++[((.str [115,105,122,101]:PV),(.fn 212 [.ip [.int .i64 (-1)] 0,.ip [.fn 107 []] 0]:PV))]=tabT12:=rfl
def tabT13:List (PV × PV):=tabT12++[(.str [104,105,103,104],.fn 212 [.ip [.int .i64 (-1)] 0,.ip [.fn 109 []] 0])]
theorem zfj:findKey (.str [104,105,103,104]) tabT12 0=some none:=rfl
theorem zft:tabT12++[((.str [104,105,103,104]:PV),(.fn 212 [.ip [.int .i64 (-1)] 0,.ip [.fn 109 []] 0]:PV))]=tabT13:=rfl
def tabT14:List (PV × PV):=tabT13++[(.str [112,108,97,99,101,115],.fn 212 [.ip [.int .i64 (-1)] 0,.ip [.fn 111 []] 0])]
theorem zfk:findKey (.str [112,108,97,99,101,115]) tabT13 0=some none:=rfl
theorem zfu:tabT13++[((.str [112,108,97,99,101,115]:PV),(.fn 212 [.ip [.int .i64 (-1)] 0,.ip [.fn 111 []] 0]:PV))]=tabT14:=rfl
def tabT15:List (PV × PV):=tabT14++[(.str [115,104,101,101,116],.fn 212 [.ip [.int .i64 (4)] 0,.ip [.fn 113 []] 0])]
theorem zfl:findKey (.str [115,104,101,101,116]) tabT14 0=some none:=rfl
theorem zfv:tabT14++[((.str [115,104,101,101,116]:PV),(.fn 212 [.ip [.int .i64 (4)] 0,.ip [.fn 113 []] 0]:PV))]=tabT15:=rfl
def tabT16:List (PV × PV):=tabT15++[(.str [115,113,117,97,114,101,115],.fn 212 [.ip [.int .i64 (2)] 0,.ip [.fn 115 []] 0])]
theorem zfm:findKey (.str [115,113,117,97,114,101,115]) tabT15 0=some none:=rfl
theorem zfw:tabT15++[((.str [115,113,117,97,114,101,115]:PV),(.fn 212 [.ip [.int .i64 (2)] 0,.ip [.fn 115 []] 0]:PV))]=tabT16:=rfl
def tabT17:List (PV × PV):=tabT16++[(.str [102,97,105,114],.fn 212 [.ip [.int .i64 (-1)] 0,.ip [.fn 117 []] 0])]
theorem zfn:findKey (.str [102,97,105,114]) tabT16 0=some none:=rfl
theorem zfx:tabT16++[((.str [102,97,105,114]:PV),(.fn 212 [.ip [.int .i64 (-1)] 0,.ip [.fn 117 []] 0]:PV))]=tabT17:=rfl
def tabT18:List (PV × PV):=tabT17++[(.str [108,111,111,115,101],.fn 212 [.ip [.int .i64 (-1)] 0,.ip [.fn 119 []] 0])]
theorem zfo:findKey (.str [108,111,111,115,101]) tabT17 0=some none:=rfl
theorem zfy:tabT17++[((.str [108,111,111,115,101]:PV),(.fn 212 [.ip [.int .i64 (-1)] 0,.ip [.fn 119 []] 0]:PV))]=tabT18:=rfl
def tabT19:List (PV × PV):=tabT18++[(.str [108,101,102,116],.fn 235 [.ip [.fn 122 []] 0])]
theorem zfp:findKey (.str [108,101,102,116]) tabT18 0=some none:=rfl
theorem zfz:tabT18++[((.str [108,101,102,116]:PV),(.fn 235 [.ip [.fn 122 []] 0]:PV))]=tabT19:=rfl
def tabT20:List (PV × PV):=tabT19++[(.str [116,105,100,121],.fn 235 [.ip [.fn 7 []] 0])]
theorem zfq:findKey (.str [116,105,100,121]) tabT19 0=some none:=rfl
theorem zf0:tabT19++[((.str [116,105,100,121]:PV),(.fn 235 [.ip [.fn 7 []] 0]:PV))]=tabT20:=rfl
abbrev tabA:=tabA26
abbrev tabT:=tabT20
theorem zze:findKey (.str [116,105,100,121]) tabT20 0=some (some (19,.fn 235 [.ip [.fn 7 []] 0])):=rfl
theorem z2z {X0 X1:Ob} {t:Nat}:Ev Tryz.prog 26 [] ⟨[X0,X1],t⟩ fun v S=>v = .tup [.mp 2 t,.mp 3 (t+1)]∧S=⟨[X0,X1,.map t tabA,.map (t+1) tabT],t+2⟩:=by
 refine Ev.of ⟨Tryz.func26,by kernel_rfl,rfl,by kernel_rfl⟩ zal mixed (by show 0≤Tryz.f26.ntmps; decide) ?_
 refine W.r fun K hK=>?_
 simp(disch:=omega)only[↓RU,RV,RH,↓reduceIte,qE,reduceCtorEq,if_pos,↓RS,RG,qA,qM,qL]
 apply hK;clear hK K
 refine W.r fun K hK=>?_
 simp(disch:=omega)only[↓RU,RV,RH,↓reduceIte,qE,reduceCtorEq,if_pos,qN,↓RS,RG,qA,qM,qL,zex,zey,zez,zaa,zew,true_and,zkt,zk3,zku,zk4,zkv,zk5,zkw,zk6,zkx,zk7,zky,zk8,zkz,zk9,zk0,zla,zk1,zlb,zk2,zlc,zdi,zdy,zdj,zdz,zdk,zd0,zdl,zd1,zdm,zd2,zdn,zd3,zdo,zd4,zdp,zd5,zdq,zd6,zdr,zd7,zds,zd8,zdt,zd9,zdu,zea,zdv,zeb,zdw,zec,zdx,zed]
 refine zac.pc (zg9 50) rfl (.inr rfl) ?_
 simp(disch:=omega)only[↓RU,RV,RH,↓reduceIte,qE,reduceCtorEq,if_pos,qN,↓RS,RG,qA,qM,qL,zex,zey,zez,zaa,zew,true_and,zkt,zk3,zku,zk4,zkv,zk5,zkw,zk6,zkx,zk7,zky,zk8,zkz,zk9,zk0,zla,zk1,zlb,zk2,zlc,zdi,zdy,zdj,zdz,zdk,zd0,zdl,zd1,zdm,zd2,zdn,zd3,zdo,zd4,zdp,zd5,zdq,zd6,zdr,zd7,zds,zd8,zdt,zd9,zdu,zea,zdv,zeb,zdw,zec,zdx,zed]
 refine zac.pc (zg9 51) rfl (.inr rfl) ?_
 simp(disch:=omega)only[↓RU,RV,RH,↓reduceIte,qE,reduceCtorEq,if_pos,qN,↓RS,RG,qA,qM,qL,zex,zey,zez,zaa,zew,true_and,zkt,zk3,zku,zk4,zkv,zk5,zkw,zk6,zkx,zk7,zky,zk8,zkz,zk9,zk0,zla,zk1,zlb,zk2,zlc,zdi,zdy,zdj,zdz,zdk,zd0,zdl,zd1,zdm,zd2,zdn,zd3,zdo,zd4,zdp,zd5,zdq,zd6,zdr,zd7,zds,zd8,zdt,zd9,zdu,zea,zdv,zeb,zdw,zec,zdx,zed]
 refine zac.pc (zg9 52) rfl (.inr rfl) ?_
 simp(disch:=omega)only[↓RU,RV,RH,↓reduceIte,qE,reduceCtorEq,if_pos,qN,↓RS,RG,qA,qM,qL,zex,zey,zez,zaa,zew,true_and,zkt,zk3,zku,zk4,zkv,zk5,zkw,zk6,zkx,zk7,zky,zk8,zkz,zk9,zk0,zla,zk1,zlb,zk2,zlc,zdi,zdy,zdj,zdz,zdk,zd0,zdl,zd1,zdm,zd2,zdn,zd3,zdo,zd4,zdp,zd5,zdq,zd6,zdr,zd7,zds,zd8,zdt,zd9,zdu,zea,zdv,zeb,zdw,zec,zdx,zed]
 refine zac.pc (zg9 53) rfl (.inr rfl) ?_
 simp(disch:=omega)only[↓RU,RV,RH,↓reduceIte,qE,reduceCtorEq,if_pos,qN,↓RS,RG,qA,qM,qL,zex,zey,zez,zaa,zew,true_and,zkt,zk3,zku,zk4,zkv,zk5,zkw,zk6,zkx,zk7,zky,zk8,zkz,zk9,zk0,zla,zk1,zlb,zk2,zlc,zdi,zdy,zdj,zdz,zdk,zd0,zdl,zd1,zdm,zd2,zdn,zd3,zdo,zd4,zdp,zd5,zdq,zd6,zdr,zd7,zds,zd8,zdt,zd9,zdu,zea,zdv,zeb,zdw,zec,zdx,zed]
 refine zac.pc (zee 56) rfl (.inr rfl) ?_
 simp(disch:=omega)only[↓RU,RV,RH,↓reduceIte,qE,reduceCtorEq,if_pos,qN,↓RS,RG,qA,qM,qL,zex,zey,zez,zaa,zew,true_and,zkt,zk3,zku,zk4,zkv,zk5,zkw,zk6,zkx,zk7,zky,zk8,zkz,zk9,zk0,zla,zk1,zlb,zk2,zlc,zdi,zdy,zdj,zdz,zdk,zd0,zdl,zd1,zdm,zd2,zdn,zd3,zdo,zd4,zdp,zd5,zdq,zd6,zdr,zd7,zds,zd8,zdt,zd9,zdu,zea,zdv,zeb,zdw,zec,zdx,zed]
 refine zac.pc (zee 58) rfl (.inr rfl) ?_
 simp(disch:=omega)only[↓RU,RV,RH,↓reduceIte,qE,reduceCtorEq,if_pos,qN,↓RS,RG,qA,qM,qL,zex,zey,zez,zaa,zew,true_and,zkt,zk3,zku,zk4,zkv,zk5,zkw,zk6,zkx,zk7,zky,zk8,zkz,zk9,zk0,zla,zk1,zlb,zk2,zlc,zdi,zdy,zdj,zdz,zdk,zd0,zdl,zd1,zdm,zd2,zdn,zd3,zdo,zd4,zdp,zd5,zdq,zd6,zdr,zd7,zds,zd8,zdt,zd9,zdu,zea,zdv,zeb,zdw,zec,zdx,zed]
 refine zac.pc (zg0 13 63) rfl (.inr rfl) ?_
 simp(disch:=omega)only[↓RU,RV,RH,↓reduceIte,qE,reduceCtorEq,if_pos,qN,↓RS,RG,qA,qM,qL,zex,zey,zez,zaa,zew,true_and,zkt,zk3,zku,zk4,zkv,zk5,zkw,zk6,zkx,zk7,zky,zk8,zkz,zk9,zk0,zla,zk1,zlb,zk2,zlc,zdi,zdy,zdj,zdz,zdk,zd0,zdl,zd1,zdm,zd2,zdn,zd3,zdo,zd4,zdp,zd5,zdq,zd6,zdr,zd7,zds,zd8,zdt,zd9,zdu,zea,zdv,zeb,zdw,zec,zdx,zed]
 refine zac.pc (zjs 65 66) rfl (.inr rfl) ?_
 simp(disch:=omega)only[↓RU,RV,RH,↓reduceIte,qE,reduceCtorEq,if_pos,qN,↓RS,RG,qA,qM,qL,zex,zey,zez,zaa,zew,true_and,zkt,zk3,zku,zk4,zkv,zk5,zkw,zk6,zkx,zk7,zky,zk8,zkz,zk9,zk0,zla,zk1,zlb,zk2,zlc,zdi,zdy,zdj,zdz,zdk,zd0,zdl,zd1,zdm,zd2,zdn,zd3,zdo,zd4,zdp,zd5,zdq,zd6,zdr,zd7,zds,zd8,zdt,zd9,zdu,zea,zdv,zeb,zdw,zec,zdx,zed]
 refine zac.pc (zg0 70 63) rfl (.inr rfl) ?_
 simp(disch:=omega)only[↓RU,RV,RH,↓reduceIte,qE,reduceCtorEq,if_pos,qN,↓RS,RG,qA,qM,qL,zex,zey,zez,zaa,zew,true_and,zkt,zk3,zku,zk4,zkv,zk5,zkw,zk6,zkx,zk7,zky,zk8,zkz,zk9,zk0,zla,zk1,zlb,zk2,zlc,zdi,zdy,zdj,zdz,zdk,zd0,zdl,zd1,zdm,zd2,zdn,zd3,zdo,zd4,zdp,zd5,zdq,zd6,zdr,zd7,zds,zd8,zdt,zd9,zdu,zea,zdv,zeb,zdw,zec,zdx,zed]
 refine zac.pc (zg0 71 63) rfl (.inr rfl) ?_
 simp(disch:=omega)only[↓RU,RV,RH,↓reduceIte,qE,reduceCtorEq,if_pos,qN,↓RS,RG,qA,qM,qL,zex,zey,zez,zaa,zew,true_and,zkt,zk3,zku,zk4,zkv,zk5,zkw,zk6,zkx,zk7,zky,zk8,zkz,zk9,zk0,zla,zk1,zlb,zk2,zlc,zdi,zdy,zdj,zdz,zdk,zd0,zdl,zd1,zdm,zd2,zdn,zd3,zdo,zd4,zdp,zd5,zdq,zd6,zdr,zd7,zds,zd8,zdt,zd9,zdu,zea,zdv,zeb,zdw,zec,zdx,zed]
 refine zac.pc (zg0 72 63) rfl (.inr rfl) ?_
 simp(disch:=omega)only[↓RU,RV,RH,↓reduceIte,qE,reduceCtorEq,if_pos,qN,↓RS,RG,qA,qM,qL,zex,zey,zez,zaa,zew,true_and,zkt,zk3,zku,zk4,zkv,zk5,zkw,zk6,zkx,zk7,zky,zk8,zkz,zk9,zk0,zla,zk1,zlb,zk2,zlc,zdi,zdy,zdj,zdz,zdk,zd0,zdl,zd1,zdm,zd2,zdn,zd3,zdo,zd4,zdp,zd5,zdq,zd6,zdr,zd7,zds,zd8,zdt,zd9,zdu,zea,zdv,zeb,zdw,zec,zdx,zed]
 refine zac.pc (zuh 11 74) rfl (.inr rfl) ?_
 simp(disch:=omega)only[↓RU,RV,RH,↓reduceIte,qE,reduceCtorEq,if_pos,qN,↓RS,RG,qA,qM,qL,zex,zey,zez,zaa,zew,true_and,zkt,zk3,zku,zk4,zkv,zk5,zkw,zk6,zkx,zk7,zky,zk8,zkz,zk9,zk0,zla,zk1,zlb,zk2,zlc,zdi,zdy,zdj,zdz,zdk,zd0,zdl,zd1,zdm,zd2,zdn,zd3,zdo,zd4,zdp,zd5,zdq,zd6,zdr,zd7,zds,zd8,zdt,zd9,zdu,zea,zdv,zeb,zdw,zec,zdx,zed]
 refine zac.pc (zg0 75 63) rfl (.inr rfl) ?_
 simp(disch:=omega)only[↓RU,RV,RH,↓reduceIte,qE,reduceCtorEq,if_pos,qN,↓RS,RG,qA,qM,qL,zex,zey,zez,zaa,zew,true_and,zkt,zk3,zku,zk4,zkv,zk5,zkw,zk6,zkx,zk7,zky,zk8,zkz,zk9,zk0,zla,zk1,zlb,zk2,zlc,zdi,zdy,zdj,zdz,zdk,zd0,zdl,zd1,zdm,zd2,zdn,zd3,zdo,zd4,zdp,zd5,zdq,zd6,zdr,zd7,zds,zd8,zdt,zd9,zdu,zea,zdv,zeb,zdw,zec,zdx,zed]
 refine zac.pc (zg0 76 63) rfl (.inr rfl) ?_
 simp(disch:=omega)only[↓RU,RV,RH,↓reduceIte,qE,reduceCtorEq,if_pos,qN,↓RS,RG,qA,qM,qL,zex,zey,zez,zaa,zew,true_and,zkt,zk3,zku,zk4,zkv,zk5,zkw,zk6,zkx,zk7,zky,zk8,zkz,zk9,zk0,zla,zk1,zlb,zk2,zlc,zdi,zdy,zdj,zdz,zdk,zd0,zdl,zd1,zdm,zd2,zdn,zd3,zdo,zd4,zdp,zd5,zdq,zd6,zdr,zd7,zds,zd8,zdt,zd9,zdu,zea,zdv,zeb,zdw,zec,zdx,zed]
 refine zac.pc (zjs 77 66) rfl (.inr rfl) ?_
 simp(disch:=omega)only[↓RU,RV,RH,↓reduceIte,qE,reduceCtorEq,if_pos,qN,↓RS,RG,qA,qM,qL,zex,zey,zez,zaa,zew,true_and,zkt,zk3,zku,zk4,zkv,zk5,zkw,zk6,zkx,zk7,zky,zk8,zkz,zk9,zk0,zla,zk1,zlb,zk2,zlc,zdi,zdy,zdj,zdz,zdk,zd0,zdl,zd1,zdm,zd2,zdn,zd3,zdo,zd4,zdp,zd5,zdq,zd6,zdr,zd7,zds,zd8,zdt,zd9,zdu,zea,zdv,zeb,zdw,zec,zdx,zed]
 refine zac.pc (zg0 78 63) rfl (.inr rfl) ?_
 simp(disch:=omega)only[↓RU,RV,RH,↓reduceIte,qE,reduceCtorEq,if_pos,qN,↓RS,RG,qA,qM,qL,zex,zey,zez,zaa,zew,true_and,zkt,zk3,zku,zk4,zkv,zk5,zkw,zk6,zkx,zk7,zky,zk8,zkz,zk9,zk0,zla,zk1,zlb,zk2,zlc,zdi,zdy,zdj,zdz,zdk,zd0,zdl,zd1,zdm,zd2,zdn,zd3,zdo,zd4,zdp,zd5,zdq,zd6,zdr,zd7,zds,zd8,zdt,zd9,zdu,zea,zdv,zeb,zdw,zec,zdx,zed]
 refine zac.pc (zg0 79 63) rfl (.inr rfl) ?_
 simp(disch:=omega)only[↓RU,RV,RH,↓reduceIte,qE,reduceCtorEq,if_pos,qN,↓RS,RG,qA,qM,qL,zex,zey,zez,zaa,zew,true_and,zkt,zk3,zku,zk4,zkv,zk5,zkw,zk6,zkx,zk7,zky,zk8,zkz,zk9,zk0,zla,zk1,zlb,zk2,zlc,zdi,zdy,zdj,zdz,zdk,zd0,zdl,zd1,zdm,zd2,zdn,zd3,zdo,zd4,zdp,zd5,zdq,zd6,zdr,zd7,zds,zd8,zdt,zd9,zdu,zea,zdv,zeb,zdw,zec,zdx,zed]
 refine zac.pc (zjs 80 66) rfl (.inr rfl) ?_
 simp(disch:=omega)only[↓RU,RV,RH,↓reduceIte,qE,reduceCtorEq,if_pos,qN,↓RS,RG,qA,qM,qL,zex,zey,zez,zaa,zew,true_and,zkt,zk3,zku,zk4,zkv,zk5,zkw,zk6,zkx,zk7,zky,zk8,zkz,zk9,zk0,zla,zk1,zlb,zk2,zlc,zdi,zdy,zdj,zdz,zdk,zd0,zdl,zd1,zdm,zd2,zdn,zd3,zdo,zd4,zdp,zd5,zdq,zd6,zdr,zd7,zds,zd8,zdt,zd9,zdu,zea,zdv,zeb,zdw,zec,zdx,zed]
 refine zac.pc (zjs 81 66) rfl (.inr rfl) ?_
 simp(disch:=omega)only[↓RU,RV,RH,↓reduceIte,qE,reduceCtorEq,if_pos,qN,↓RS,RG,qA,qM,qL,zex,zey,zez,zaa,zew,true_and,zkt,zk3,zku,zk4,zkv,zk5,zkw,zk6,zkx,zk7,zky,zk8,zkz,zk9,zk0,zla,zk1,zlb,zk2,zlc,zdi,zdy,zdj,zdz,zdk,zd0,zdl,zd1,zdm,zd2,zdn,zd3,zdo,zd4,zdp,zd5,zdq,zd6,zdr,zd7,zds,zd8,zdt,zd9,zdu,zea,zdv,zeb,zdw,zec,zdx,zed]
 refine zac.pc (zjs 82 66) rfl (.inr rfl) ?_
 simp(disch:=omega)only[↓RU,RV,RH,↓reduceIte,qE,reduceCtorEq,if_pos,qN,↓RS,RG,qA,qM,qL,zex,zey,zez,zaa,zew,true_and,zkt,zk3,zku,zk4,zkv,zk5,zkw,zk6,zkx,zk7,zky,zk8,zkz,zk9,zk0,zla,zk1,zlb,zk2,zlc,zdi,zdy,zdj,zdz,zdk,zd0,zdl,zd1,zdm,zd2,zdn,zd3,zdo,zd4,zdp,zd5,zdq,zd6,zdr,zd7,zds,zd8,zdt,zd9,zdu,zea,zdv,zeb,zdw,zec,zdx,zed]
 refine zac.pc (zjs 83 66) rfl (.inr rfl) ?_
 simp(disch:=omega)only[↓RU,RV,RH,↓reduceIte,qE,reduceCtorEq,if_pos,qN,↓RS,RG,qA,qM,qL,zex,zey,zez,zaa,zew,true_and,zkt,zk3,zku,zk4,zkv,zk5,zkw,zk6,zkx,zk7,zky,zk8,zkz,zk9,zk0,zla,zk1,zlb,zk2,zlc,zdi,zdy,zdj,zdz,zdk,zd0,zdl,zd1,zdm,zd2,zdn,zd3,zdo,zd4,zdp,zd5,zdq,zd6,zdr,zd7,zds,zd8,zdt,zd9,zdu,zea,zdv,zeb,zdw,zec,zdx,zed]
 refine zac.pc (zuh 84 74) rfl (.inr rfl) ?_
 simp(disch:=omega)only[↓RU,RV,RH,↓reduceIte,qE,reduceCtorEq,if_pos,qN,↓RS,RG,qA,qM,qL,zex,zey,zez,zaa,zew,true_and,zkt,zk3,zku,zk4,zkv,zk5,zkw,zk6,zkx,zk7,zky,zk8,zkz,zk9,zk0,zla,zk1,zlb,zk2,zlc,zdi,zdy,zdj,zdz,zdk,zd0,zdl,zd1,zdm,zd2,zdn,zd3,zdo,zd4,zdp,zd5,zdq,zd6,zdr,zd7,zds,zd8,zdt,zd9,zdu,zea,zdv,zeb,zdw,zec,zdx,zed]
 refine zac.pc (zuh 17 74) rfl (.inr rfl) ?_
 simp(disch:=omega)only[↓RU,RV,RH,↓reduceIte,qE,reduceCtorEq,if_pos,qN,↓RS,RG,qA,qM,qL,zex,zey,zez,zaa,zew,true_and,zkt,zk3,zku,zk4,zkv,zk5,zkw,zk6,zkx,zk7,zky,zk8,zkz,zk9,zk0,zla,zk1,zlb,zk2,zlc,zdi,zdy,zdj,zdz,zdk,zd0,zdl,zd1,zdm,zd2,zdn,zd3,zdo,zd4,zdp,zd5,zdq,zd6,zdr,zd7,zds,zd8,zdt,zd9,zdu,zea,zdv,zeb,zdw,zec,zdx,zed]
 apply hK;clear hK K
 refine W.r fun K hK=>?_
 simp(disch:=omega)only[↓RU,RV,RH,↓reduceIte,qE,reduceCtorEq,if_pos,qN,↓RS,RG,qA,qM,qL,zex,zey,zez,zaa,zew,true_and,znq,zn0,znr,zn1,zns,zn2,znt,zn3,znu,zn4,znv,zn5,znw,zn6,znx,zn7,zny,zn8,znz,zn9,zfh,zfr,zfi,zfs,zfj,zft,zfk,zfu,zfl,zfv,zfm,zfw,zfn,zfx,zfo,zfy,zfp,zfz,zfq,zf0]
 refine zac.pc (zee 85) rfl (.inr rfl) ?_
 simp(disch:=omega)only[↓RU,RV,RH,↓reduceIte,qE,reduceCtorEq,if_pos,qN,↓RS,RG,qA,qM,qL,zex,zey,zez,zaa,zew,true_and,znq,zn0,znr,zn1,zns,zn2,znt,zn3,znu,zn4,znv,zn5,znw,zn6,znx,zn7,zny,zn8,znz,zn9,zfh,zfr,zfi,zfs,zfj,zft,zfk,zfu,zfl,zfv,zfm,zfw,zfn,zfx,zfo,zfy,zfp,zfz,zfq,zf0]
 refine zac.pc (zee 88) rfl (.inr rfl) ?_
 simp(disch:=omega)only[↓RU,RV,RH,↓reduceIte,qE,reduceCtorEq,if_pos,qN,↓RS,RG,qA,qM,qL,zex,zey,zez,zaa,zew,true_and,znq,zn0,znr,zn1,zns,zn2,znt,zn3,znu,zn4,znv,zn5,znw,zn6,znx,zn7,zny,zn8,znz,zn9,zfh,zfr,zfi,zfs,zfj,zft,zfk,zfu,zfl,zfv,zfm,zfw,zfn,zfx,zfo,zfy,zfp,zfz,zfq,zf0]
 refine zac.pc (zss [104]) rfl (.inr rfl) ?_
 simp(disch:=omega)only[↓RU,RV,RH,↓reduceIte,qE,reduceCtorEq,if_pos,qN,↓RS,RG,qA,qM,qL,zex,zey,zez,zaa,zew,true_and,znq,zn0,znr,zn1,zns,zn2,znt,zn3,znu,zn4,znv,zn5,znw,zn6,znx,zn7,zny,zn8,znz,zn9,zfh,zfr,zfi,zfs,zfj,zft,zfk,zfu,zfl,zfv,zfm,zfw,zfn,zfx,zfo,zfy,zfp,zfz,zfq,zf0]
 refine zac.pc (zss [118]) rfl (.inr rfl) ?_
 simp(disch:=omega)only[↓RU,RV,RH,↓reduceIte,qE,reduceCtorEq,if_pos,qN,↓RS,RG,qA,qM,qL,zex,zey,zez,zaa,zew,true_and,znq,zn0,znr,zn1,zns,zn2,znt,zn3,znu,zn4,znv,zn5,znw,zn6,znx,zn7,zny,zn8,znz,zn9,zfh,zfr,zfi,zfs,zfj,zft,zfk,zfu,zfl,zfv,zfm,zfw,zfn,zfx,zfo,zfy,zfp,zfz,zfq,zf0]
 refine zac.pc (zee 91) rfl (.inr rfl) ?_
 simp(disch:=omega)only[↓RU,RV,RH,↓reduceIte,qE,reduceCtorEq,if_pos,qN,↓RS,RG,qA,qM,qL,zex,zey,zez,zaa,zew,true_and,znq,zn0,znr,zn1,zns,zn2,znt,zn3,znu,zn4,znv,zn5,znw,zn6,znx,zn7,zny,zn8,znz,zn9,zfh,zfr,zfi,zfs,zfj,zft,zfk,zfu,zfl,zfv,zfm,zfw,zfn,zfx,zfo,zfy,zfp,zfz,zfq,zf0]
 refine zac.pc (zee 94) rfl (.inr rfl) ?_
 simp(disch:=omega)only[↓RU,RV,RH,↓reduceIte,qE,reduceCtorEq,if_pos,qN,↓RS,RG,qA,qM,qL,zex,zey,zez,zaa,zew,true_and,znq,zn0,znr,zn1,zns,zn2,znt,zn3,znu,zn4,znv,zn5,znw,zn6,znx,zn7,zny,zn8,znz,zn9,zfh,zfr,zfi,zfs,zfj,zft,zfk,zfu,zfl,zfv,zfm,zfw,zfn,zfx,zfo,zfy,zfp,zfz,zfq,zf0]
 refine zac.pc (zc9 (1) 97) rfl (.inr rfl) ?_
 simp(disch:=omega)only[↓RU,RV,RH,↓reduceIte,qE,reduceCtorEq,if_pos,qN,↓RS,RG,qA,qM,qL,zex,zey,zez,zaa,zew,true_and,znq,zn0,znr,zn1,zns,zn2,znt,zn3,znu,zn4,znv,zn5,znw,zn6,znx,zn7,zny,zn8,znz,zn9,zfh,zfr,zfi,zfs,zfj,zft,zfk,zfu,zfl,zfv,zfm,zfw,zfn,zfx,zfo,zfy,zfp,zfz,zfq,zf0]
 refine zac.pc (zc9 (1) 99) rfl (.inr rfl) ?_
 simp(disch:=omega)only[↓RU,RV,RH,↓reduceIte,qE,reduceCtorEq,if_pos,qN,↓RS,RG,qA,qM,qL,zex,zey,zez,zaa,zew,true_and,znq,zn0,znr,zn1,zns,zn2,znt,zn3,znu,zn4,znv,zn5,znw,zn6,znx,zn7,zny,zn8,znz,zn9,zfh,zfr,zfi,zfs,zfj,zft,zfk,zfu,zfl,zfv,zfm,zfw,zfn,zfx,zfo,zfy,zfp,zfz,zfq,zf0]
 refine zac.pc (zc9 (1) 101) rfl (.inr rfl) ?_
 simp(disch:=omega)only[↓RU,RV,RH,↓reduceIte,qE,reduceCtorEq,if_pos,qN,↓RS,RG,qA,qM,qL,zex,zey,zez,zaa,zew,true_and,znq,zn0,znr,zn1,zns,zn2,znt,zn3,znu,zn4,znv,zn5,znw,zn6,znx,zn7,zny,zn8,znz,zn9,zfh,zfr,zfi,zfs,zfj,zft,zfk,zfu,zfl,zfv,zfm,zfw,zfn,zfx,zfo,zfy,zfp,zfz,zfq,zf0]
 refine zac.pc (zc9 (2) 103) rfl (.inr rfl) ?_
 simp(disch:=omega)only[↓RU,RV,RH,↓reduceIte,qE,reduceCtorEq,if_pos,qN,↓RS,RG,qA,qM,qL,zex,zey,zez,zaa,zew,true_and,znq,zn0,znr,zn1,zns,zn2,znt,zn3,znu,zn4,znv,zn5,znw,zn6,znx,zn7,zny,zn8,znz,zn9,zfh,zfr,zfi,zfs,zfj,zft,zfk,zfu,zfl,zfv,zfm,zfw,zfn,zfx,zfo,zfy,zfp,zfz,zfq,zf0]
 refine zac.pc (zc9 (2) 105) rfl (.inr rfl) ?_
 simp(disch:=omega)only[↓RU,RV,RH,↓reduceIte,qE,reduceCtorEq,if_pos,qN,↓RS,RG,qA,qM,qL,zex,zey,zez,zaa,zew,true_and,znq,zn0,znr,zn1,zns,zn2,znt,zn3,znu,zn4,znv,zn5,znw,zn6,znx,zn7,zny,zn8,znz,zn9,zfh,zfr,zfi,zfs,zfj,zft,zfk,zfu,zfl,zfv,zfm,zfw,zfn,zfx,zfo,zfy,zfp,zfz,zfq,zf0]
 refine zac.pc (zc9 (-1) 107) rfl (.inr rfl) ?_
 simp(disch:=omega)only[↓RU,RV,RH,↓reduceIte,qE,reduceCtorEq,if_pos,qN,↓RS,RG,qA,qM,qL,zex,zey,zez,zaa,zew,true_and,znq,zn0,znr,zn1,zns,zn2,znt,zn3,znu,zn4,znv,zn5,znw,zn6,znx,zn7,zny,zn8,znz,zn9,zfh,zfr,zfi,zfs,zfj,zft,zfk,zfu,zfl,zfv,zfm,zfw,zfn,zfx,zfo,zfy,zfp,zfz,zfq,zf0]
 refine zac.pc (zc9 (-1) 109) rfl (.inr rfl) ?_
 simp(disch:=omega)only[↓RU,RV,RH,↓reduceIte,qE,reduceCtorEq,if_pos,qN,↓RS,RG,qA,qM,qL,zex,zey,zez,zaa,zew,true_and,znq,zn0,znr,zn1,zns,zn2,znt,zn3,znu,zn4,znv,zn5,znw,zn6,znx,zn7,zny,zn8,znz,zn9,zfh,zfr,zfi,zfs,zfj,zft,zfk,zfu,zfl,zfv,zfm,zfw,zfn,zfx,zfo,zfy,zfp,zfz,zfq,zf0]
 refine zac.pc (zc9 (-1) 111) rfl (.inr rfl) ?_
 simp(disch:=omega)only[↓RU,RV,RH,↓reduceIte,qE,reduceCtorEq,if_pos,qN,↓RS,RG,qA,qM,qL,zex,zey,zez,zaa,zew,true_and,znq,zn0,znr,zn1,zns,zn2,znt,zn3,znu,zn4,znv,zn5,znw,zn6,znx,zn7,zny,zn8,znz,zn9,zfh,zfr,zfi,zfs,zfj,zft,zfk,zfu,zfl,zfv,zfm,zfw,zfn,zfx,zfo,zfy,zfp,zfz,zfq,zf0]
 refine zac.pc (zc9 (4) 113) rfl (.inr rfl) ?_
 simp(disch:=omega)only[↓RU,RV,RH,↓reduceIte,qE,reduceCtorEq,if_pos,qN,↓RS,RG,qA,qM,qL,zex,zey,zez,zaa,zew,true_and,znq,zn0,znr,zn1,zns,zn2,znt,zn3,znu,zn4,znv,zn5,znw,zn6,znx,zn7,zny,zn8,znz,zn9,zfh,zfr,zfi,zfs,zfj,zft,zfk,zfu,zfl,zfv,zfm,zfw,zfn,zfx,zfo,zfy,zfp,zfz,zfq,zf0]
 refine zac.pc (zc9 (2) 115) rfl (.inr rfl) ?_
 simp(disch:=omega)only[↓RU,RV,RH,↓reduceIte,qE,reduceCtorEq,if_pos,qN,↓RS,RG,qA,qM,qL,zex,zey,zez,zaa,zew,true_and,znq,zn0,znr,zn1,zns,zn2,znt,zn3,znu,zn4,znv,zn5,znw,zn6,znx,zn7,zny,zn8,znz,zn9,zfh,zfr,zfi,zfs,zfj,zft,zfk,zfu,zfl,zfv,zfm,zfw,zfn,zfx,zfo,zfy,zfp,zfz,zfq,zf0]
 refine zac.pc (zc9 (-1) 117) rfl (.inr rfl) ?_
 simp(disch:=omega)only[↓RU,RV,RH,↓reduceIte,qE,reduceCtorEq,if_pos,qN,↓RS,RG,qA,qM,qL,zex,zey,zez,zaa,zew,true_and,znq,zn0,znr,zn1,zns,zn2,znt,zn3,znu,zn4,znv,zn5,znw,zn6,znx,zn7,zny,zn8,znz,zn9,zfh,zfr,zfi,zfs,zfj,zft,zfk,zfu,zfl,zfv,zfm,zfw,zfn,zfx,zfo,zfy,zfp,zfz,zfq,zf0]
 refine zac.pc (zc9 (-1) 119) rfl (.inr rfl) ?_
 simp(disch:=omega)only[↓RU,RV,RH,↓reduceIte,qE,reduceCtorEq,if_pos,qN,↓RS,RG,qA,qM,qL,zex,zey,zez,zaa,zew,true_and,znq,zn0,znr,zn1,zns,zn2,znt,zn3,znu,zn4,znv,zn5,znw,zn6,znx,zn7,zny,zn8,znz,zn9,zfh,zfr,zfi,zfs,zfj,zft,zfk,zfu,zfl,zfv,zfm,zfw,zfn,zfx,zfo,zfy,zfp,zfz,zfq,zf0]
 refine zac.pc (ztg 122) rfl (.inr rfl) ?_
 simp(disch:=omega)only[↓RU,RV,RH,↓reduceIte,qE,reduceCtorEq,if_pos,qN,↓RS,RG,qA,qM,qL,zex,zey,zez,zaa,zew,true_and,znq,zn0,znr,zn1,zns,zn2,znt,zn3,znu,zn4,znv,zn5,znw,zn6,znx,zn7,zny,zn8,znz,zn9,zfh,zfr,zfi,zfs,zfj,zft,zfk,zfu,zfl,zfv,zfm,zfw,zfn,zfx,zfo,zfy,zfp,zfz,zfq,zf0]
 refine zac.pc (ztg 7) rfl (.inr rfl) ?_
 simp(disch:=omega)only[↓RU,RV,RH,↓reduceIte,qE,reduceCtorEq,if_pos,qN,↓RS,RG,qA,qM,qL,zex,zey,zez,zaa,zew,true_and,znq,zn0,znr,zn1,zns,zn2,znt,zn3,znu,zn4,znv,zn5,znw,zn6,znx,zn7,zny,zn8,znz,zn9,zfh,zfr,zfi,zfs,zfj,zft,zfk,zfu,zfl,zfv,zfm,zfw,zfn,zfx,zfo,zfy,zfp,zfz,zfq,zf0]
 apply hK;clear hK K
 refine W.r fun K hK=>?_
 simp(disch:=omega)only[↓RU,RV,RH,↓reduceIte,qE,reduceCtorEq,if_pos,↓RS,RG,qA,qM,qL]
 apply hK;clear hK K
 refine W.ret ?_
 refine Br rfl ?_
 exact ⟨4,rfl,rfl⟩
theorem zyi {f:FuncId} {c r:Txt} {b:PV} (hf:PC Tryz.prog f [.str c] (.tup [.str r,.bool true]) true):PC Tryz.prog 235 [b,.str c,.ip [.fn f []] 0] (.tup [.str r,.bool true]) true:=by
 refine PC.of ⟨Tryz.func235,by kernel_rfl,rfl,by kernel_rfl⟩ zal mixed (by show 3≤Tryz.f235.ntmps; decide) ?_
 refine W.r fun K hK=>?_
 simp(disch:=omega)only[↓RU,RV,RH,↓reduceIte,qE,reduceCtorEq,if_pos]
 apply hK;clear hK K
 refine W.r fun K hK=>?_
 simp(disch:=omega)only[↓RU,RV,RH,↓reduceIte,qE,reduceCtorEq,if_pos,qN,z9r,Int.toNat_zero,List.getElem?_cons_zero]
 refine zac.pc (hf) rfl (.inl rfl) ?_
 simp(disch:=omega)only[↓RU,RV,RH,↓reduceIte,qE,reduceCtorEq,if_pos,qN,z9r,Int.toNat_zero,List.getElem?_cons_zero]
 apply hK;clear hK K
 refine W.ret ?_
 refine Br rfl ?_
 rfl
theorem z6d {p:List Txt} (hs:Sm p) (hv:zm0 p=false):PC Tryz.prog 192 [zbx p] (.tup [.agg [.sl [] 0,.sl [] 0],.bool false]) false:=by
 obtain ⟨x,hx,hxy,hxr⟩:=zx3 hs
 refine PC.of ⟨Tryz.func192,by kernel_rfl,rfl,by kernel_rfl⟩ zal mixed (by show 1≤Tryz.f192.ntmps; decide) ?_
 refine W.r fun K hK=>?_
 simp(disch:=omega)only[↓RU,RV,RH,↓reduceIte,qE,reduceCtorEq,if_pos,↓RS,RG,qA,qM,qL,ty0,ty3,ztj,ty26,ty29,ty39]
 apply hK;clear hK K
 refine W.r fun K hK=>?_
 simp(disch:=omega)only[↓RU,RV,RH,↓reduceIte,qE,reduceCtorEq,if_pos,qN,↓RS,RG,qA,qM,qL,hv]
 refine zac.pc (hx) rfl (.inr rfl) ?_
 simp(disch:=omega)only[↓RU,RV,RH,↓reduceIte,qE,reduceCtorEq,if_pos,qN,↓RS,RG,qA,qM,qL,hv]
 apply hK;clear hK K
 refine W.seq ?_
 refine W.r fun K hK=>?_
 simp(disch:=omega)only[↓RU,RV,RH,↓reduceIte,qE,reduceCtorEq,if_pos,↓RS,RG,qA,qM,qL]
 apply hK;clear hK K
 refine W.cond rfl (fun h=>?_) (fun h=>?_)
 ·try simp only[RL]at h
  refine W.r fun K hK=>?_
  simp(disch:=omega)only[↓RU,RV,RH,↓reduceIte,qE,reduceCtorEq,if_pos,↓RS,RG,qA,qM,qL,ty0,ty3,ztj,ty26,ty29,ty39]
  apply hK;clear hK K
  refine W.ret ?_
  refine XThen.ret ?_
  refine Br rfl ?_
  rfl
 try simp only[RL]at h
 exact absurd h (by simp)
theorem zst {p:List Txt} (hs:Sm p) (hv:ze7 p=true):PC Tryz.prog 13 [zbx p] (.tup [.int .i64 (rP p).length,.bool true]) true:=by
 obtain ⟨x,hx,hxy,hxr⟩:=zov hs
 obtain rfl:=hxy hv
 refine PC.of ⟨Tryz.func13,by kernel_rfl,rfl,by kernel_rfl⟩ zal mixed (by show 1≤Tryz.f13.ntmps; decide) ?_
 refine W.r fun K hK=>?_
 simp(disch:=omega)only[↓RU,RV,RH,↓reduceIte,qE,reduceCtorEq,if_pos,↓RS,RG,qA,qM,qL]
 apply hK;clear hK K
 refine W.r fun K hK=>?_
 simp(disch:=omega)only[↓RU,RV,RH,↓reduceIte,qE,reduceCtorEq,if_pos,qN,↓RS,RG,qA,qM,qL,hv]
 refine zac.pc (hx) rfl (.inr rfl) ?_
 simp(disch:=omega)only[↓RU,RV,RH,↓reduceIte,qE,reduceCtorEq,if_pos,qN,↓RS,RG,qA,qM,qL,hv]
 apply hK;clear hK K
 refine W.seq ?_
 refine W.r fun K hK=>?_
 simp(disch:=omega)only[↓RU,RV,RH,↓reduceIte,qE,reduceCtorEq,if_pos,↓RS,RG,qA,qM,qL]
 apply hK;clear hK K
 refine W.cond rfl (fun h=>?_) (fun h=>?_)
 ·try simp only[RL]at h
  exact absurd h (by simp)
 try simp only[RL]at h
 refine W.skip ?_
 refine xn ?_
 refine W.r fun K hK=>?_
 simp(disch:=omega)only[↓RU,RV,RH,↓reduceIte,qE,reduceCtorEq,if_pos,↓RS,RG,qA,qM,qL,ty1,ty4,zad,zff,zbp,zc2,zab,zfg,zc3,zap]
 apply hK;clear hK K
 refine W.ret ?_
 refine Br rfl ?_
 rfl
def plan0:List Txt:=[[97,97,98],[99,100,98],[99,101,101]]
theorem z3c:Sm plan0:=by unfold plan0; exact ⟨by decide,by decide⟩
theorem z3b:ze7 plan0=true:=by decide +kernel
theorem z0x:(rP plan0).length=5:=by decide +kernel
def zng (s:Txt):Txt:=[116,105,100,121,32]++s
def Stt (s o:Txt) (v:Nat) (tx:Txt) (S:Store):Bool→Prop
 | false=>tx=zng s++[10]∧S=⟨[.arr v 48 2 [zbx plan0,zbx plan0],.map v tabA,.map v tabT,.arr v 54 2 [.nilp,.nils]],v+1⟩
 | true=>tx=[]∧∃ vq t:Nat,S=⟨[.arr v 48 2 [zbx plan0,zbx plan0],.map v tabA,.map v tabT,.arr v 54 2 [.ref 3 v 0,.loc 4 vq 0 ((o++[10])).length],.arr vq 5 1 (((o++[10])).map eB)],t⟩
theorem zz8 {s:Txt} (h10:(10:UInt8) ∉ s) (hs:s.length≤500):PC Tryz.prog 27 [.str (zng s++[10]),.str [10]] (.tup [.str (zng s),.str [],.bool true]) true ∧
  PC Tryz.prog 27 [.str (zng s),.str [32]] (.tup [.str [116,105,100,121],.str s,.bool true]) true∧PC Tryz.prog 27 [.str [],.str [10]] (.tup [.str [],.str [],.bool false]) true:=by
 refine ⟨zy5 (r:=[]) ?_ ?_,zy5 (a:=[116,105,100,121]) (r:=s) (by decide) ?_,z7r (by simp) (by simp)⟩
 ·unfold zng
  rw [List.mem_append]
  rintro (h | h)
  ·exact absurd h (by decide)
  exact h10 h
 ·simp [zng]; omega
 simp; omega
theorem zt2 {s o:Txt} (hs:s.length≤500) (h10:(10:UInt8) ∉ s) (ho:o.length≤500) (hT:PC Tryz.prog 7 [.str s] (.tup [.str o,.bool true]) true):PC Tryz.prog 9 [.str (zng s++[10])] (.str (o++[10,114,111,111,109,115,32,53,10])) true:=by
 obtain ⟨hC0,hC2,hC1⟩:=zz8 h10 hs
 have e1:([10]:Txt).length=1:=rfl
 have e3:([114,111,111,109,115,32]:Txt).length=6:=rfl
 have e4:(z18 5).length=1:=rfl
 have e5:([114,111,111,109,115,32]++z18 5:Txt).length=7:=rfl
 have hln:(zng s++[10]:Txt).length=s.length+6:=by simp [zng]
 refine PC.of ⟨Tryz.func9,by kernel_rfl,rfl,by kernel_rfl⟩ zal mixed (by show 1≤Tryz.f9.ntmps; decide) ?_
 refine W.r fun K hK=>?_
 simp(disch:=omega)only[↓RU,RV,RH,↓reduceIte,qE,reduceCtorEq,if_pos,↓RS,RG,qA,qM,qL]
 apply hK;clear hK K
 refine W.seq ?_
 refine W.r fun K hK=>?_
 simp(disch:=omega)only[↓RU,RV,RH,↓reduceIte,qE,reduceCtorEq,if_pos,w64,↓RS,RG,qA,qM,qL,zab,zaa]
 apply hK;clear hK K
 refine W.cond rfl (fun h0=>?_) (fun h0=>?_)
 ·try simp only[RL]at h0
  exfalso; rw [hln]at h0; omega
 try simp only[RL]at h0
 refine W.skip ?_
 refine xn ?_
 refine W.r fun K hK=>?_
 simp(disch:=omega)only[↓RU,RV,RH,↓reduceIte,qE,reduceCtorEq,if_pos,↓RS,RG,qA,qM,qL,ty6,zaa]
 apply hK;clear hK K
 refine W.r fun K hK=>?_
 simp(disch:=omega)only[↓RU,RV,RH,↓reduceIte,qE,reduceCtorEq,if_pos,↓RS,RG,qA,qM,qL,ty6,z9s,zaa,z9t]
 apply hK;clear hK K
 refine W.r fun K hK=>?_
 simp(disch:=omega)only[↓RU,RV,RH,↓reduceIte,qE,reduceCtorEq,if_pos,qN,↓RS,RG,qA,qM,qL]
 refine zac.ev (z2z) ?_
 rintro _ _ ⟨rfl,rfl⟩
 simp(disch:=omega)only[↓RU,RV,RH,↓reduceIte,qE,reduceCtorEq,if_pos,qN,↓RS,RG,qA,qM,qL]
 apply hK;clear hK K
 refine W.joinS [0,4,5,6,7] (fun vs S=>∃ v:Nat,vs=[.str (zng s++[10]),.ref 0 v 0,.mp 1 v,.mp 2 v,.ref 3 v 0]∧S=⟨[.arr v 48 2 [zbx plan0,zbx plan0],.map v tabA,.map v tabT,.arr v 54 2 [.nilp,.nils]],v+1⟩) ?_ ?_
 ·
  refine W.k fun K hK=>?_
  simp(disch:=omega)only[↓RU,RV,RH,↓reduceIte,qE,reduceCtorEq,if_pos,↓RS,RG,qA,qM,qL,ty7,z69,z7a,z7b,zai]
  apply hK;clear hK K
  refine xn ?_
  refine ⟨0,[1,2,3,4],[.str (zng s++[10]),.ref 0 5 0,.mp 1 5,.mp 2 5,.ref 3 5 0],⟨[.arr 5 48 2 [zbx plan0,zbx plan0],.map 5 tabA,.map 5 tabT,.arr 5 54 2 [.nilp,.nils]],5+1⟩,?_,?_,5,rfl,rfl⟩
  ·rfl
  rfl
 rintro vs S - ⟨v,rfl,rfl⟩
 refine W.seq ?_
 refine W.block ?_
 refine W.loop [0,4,5,6,7] (fun n vs S=>∃ (b:Bool) (v:Nat) (tx:Txt),n=(if b then 0 else 1)∧vs=[.str tx,.ref 0 v 0,.mp 1 v,.mp 2 v,.ref 3 v 0]∧Stt s o v tx S b) 1 ?_ ?_
 ·exact ⟨4,false,v,_,rfl,rfl,rfl,rfl⟩
 rintro n vs S - ⟨b,v,tx,rfl,rfl,hSt⟩
 refine W.block ?_
 refine W.r fun K hK=>?_
 rcases b with _ | _
 ·skip
  obtain ⟨rfl,rfl⟩:=hSt
  simp(disch:=omega)only[↓RU,RV,RH,↓reduceIte,qE,reduceCtorEq,if_pos,qN,↓RS,RG,qA,qM,qL]
  refine zac.pc (hC0) rfl (.inl rfl) ?_
  simp(disch:=omega)only[↓RU,RV,RH,↓reduceIte,qE,reduceCtorEq,if_pos,qN,↓RS,RG,qA,qM,qL]
  apply hK;clear hK K
  refine W.seq ?_
  refine W.r fun K hK=>?_
  simp(disch:=omega)only[↓RU,RV,RH,↓reduceIte,qE,reduceCtorEq,if_pos,↓RS,RG,qA,qM,qL]
  apply hK;clear hK K
  refine W.cond rfl (fun h1=>?_) (fun h1=>?_)
  ·try simp only[RL]at h1
   exact absurd h1 (by simp)
  try simp only[RL]at h1
  refine W.skip ?_
  refine xn ?_
  refine W.r fun K hK=>?_
  simp(disch:=omega)only[↓RU,RV,RH,↓reduceIte,qE,reduceCtorEq,if_pos,↓RS,RG,qA,qM,qL]
  apply hK;clear hK K
  refine W.r fun K hK=>?_
  simp(disch:=omega)only[↓RU,RV,RH,↓reduceIte,qE,reduceCtorEq,if_pos,qN,↓RS,RG,qA,qM,qL]
  refine zac.pc (hC2) rfl (.inl rfl) ?_
  simp(disch:=omega)only[↓RU,RV,RH,↓reduceIte,qE,reduceCtorEq,if_pos,qN,↓RS,RG,qA,qM,qL]
  apply hK;clear hK K
  refine W.r fun K hK=>?_
  simp(disch:=omega)only[↓RU,RV,RH,↓reduceIte,qE,reduceCtorEq,if_pos,↓RS,RG,qA,qM,qL]
  apply hK;clear hK K
  refine W.seq ?_
  refine W.r fun K hK=>?_
  simp(disch:=omega)only[↓RU,RV,RH,↓reduceIte,qE,reduceCtorEq,if_pos,↓RS,RG,qA,qM,qL]
  apply hK;clear hK K
  refine W.cond rfl (fun h2=>?_) (fun h2=>?_)
  ·try simp only[RL]at h2
   refine W.k fun K hK=>?_
   simp(disch:=omega)only[↓RU,RV,RH,↓reduceIte,qE,reduceCtorEq,if_pos,↓RS,RG,qA,qM,qL]
   apply hK;clear hK K
   refine xn ?_
   refine W.r fun K hK=>?_
   simp(disch:=omega)only[↓RU,RV,RH,↓reduceIte,qE,reduceCtorEq,if_pos,↓RS,RG,qA,qM,qL,zex,zey,zez,zaa,zze,zew,true_and]
   apply hK;clear hK K
   refine W.seq ?_
   refine W.r fun K hK=>?_
   simp(disch:=omega)only[↓RU,RV,RH,↓reduceIte,qE,reduceCtorEq,if_pos,↓RS,RG,qA,qM,qL]
   apply hK;clear hK K
   refine W.cond rfl (fun h3=>?_) (fun h3=>?_)
   ·try simp only[RL]at h3
    exact absurd h3 (by simp)
   try simp only[RL]at h3
   refine W.skip ?_
   refine xn ?_
   refine W.r fun K hK=>?_
   simp(disch:=omega)only[↓RU,RV,RH,↓reduceIte,qE,reduceCtorEq,if_pos,qN,↓RS,RG,qA,qM,qL]
   refine zac.pc (zyi (b := .ip [zbx plan0,zbx plan0] 0) hT) (by simp [-qU,reify,Store.cellsOf,qC]) (.inl rfl) ?_
   simp(disch:=omega)only[↓RU,RV,RH,↓reduceIte,qE,reduceCtorEq,if_pos,qN,↓RS,RG,qA,qM,qL]
   apply hK;clear hK K
   refine W.seq ?_
   refine W.r fun K hK=>?_
   simp(disch:=omega)only[↓RU,RV,RH,↓reduceIte,qE,reduceCtorEq,if_pos,↓RS,RG,qA,qM,qL]
   apply hK;clear hK K
   refine W.cond rfl (fun h4=>?_) (fun h4=>?_)
   ·try simp only[RL]at h4
    exact absurd h4 (by simp)
   try simp only[RL]at h4
   refine W.skip ?_
   refine xn ?_
   refine W.k fun K hK=>?_
   simp(disch:=omega)only[↓RU,RV,RH,↓reduceIte,qE,reduceCtorEq,if_pos,w64,qN,↓RS,RG,qA,qM,qL,zaa,za7]
   refine zac.ev (znk (s:=o++[10]) (by simp) (by simp; omega)) ?_
   rintro _ _ ⟨vq,t2,rfl⟩
   simp(disch:=omega)only[↓RU,RV,RH,↓reduceIte,qE,reduceCtorEq,if_pos,w64,qN,↓RS,RG,qA,qM,qL,zaa,za7]
   apply hK;clear hK K
   refine XbN ?_
   refine xn ?_
   refine ⟨0,by simp,5,true,v,[],rfl,?_,rfl,vq,t2,rfl⟩
   simp [Env.put,Env.of]
  try simp only[RL]at h2
  exact absurd h2 (by simp)
 skip
 obtain ⟨rfl,vq,t,rfl⟩:=hSt
 simp(disch:=omega)only[↓RU,RV,RH,↓reduceIte,qE,reduceCtorEq,if_pos,qN,↓RS,RG,qA,qM,qL]
 refine zac.pc (hC1) rfl (.inl rfl) ?_
 simp(disch:=omega)only[↓RU,RV,RH,↓reduceIte,qE,reduceCtorEq,if_pos,qN,↓RS,RG,qA,qM,qL]
 apply hK;clear hK K
 refine W.seq ?_
 refine W.r fun K hK=>?_
 simp(disch:=omega)only[↓RU,RV,RH,↓reduceIte,qE,reduceCtorEq,if_pos,↓RS,RG,qA,qM,qL]
 apply hK;clear hK K
 refine W.cond rfl (fun h1=>?_) (fun h1=>?_)
 ·try simp only[RL]at h1
  refine W.exit ?_
  refine xe ?_
  refine XBlock.miss (by decide) ?_
  refine xe ?_
  refine XBlock.hit ?_
  refine xn ?_
  refine W.r fun K hK=>?_
  simp(disch:=omega)only[↓RU,RV,RH,↓reduceIte,qE,reduceCtorEq,if_pos,qN,↓RS,RG,qA,qM,qL,ty6,z9s,zaa,z9t,z0x]
  refine zac.pc (zst z3c z3b) rfl (.inl rfl) ?_
  simp(disch:=omega)only[↓RU,RV,RH,↓reduceIte,qE,reduceCtorEq,if_pos,qN,↓RS,RG,qA,qM,qL,ty6,z9s,zaa,z9t,z0x]
  apply hK;clear hK K
  refine W.r fun K hK=>?_
  simp(disch:=omega)only[↓RU,RV,RH,↓reduceIte,qE,reduceCtorEq,if_pos,qN,w64,↓RS,RG,qA,qM,qL,zaa,za7]
  refine zac.pc (z55 (k:=5) (by omega)) rfl (.inl rfl) ?_
  simp(disch:=omega)only[↓RU,RV,RH,↓reduceIte,qE,reduceCtorEq,if_pos,qN,w64,↓RS,RG,qA,qM,qL,zaa,za7]
  refine zac.ev (znl (l:=o++[10]) (s:=[114,111,111,109,115,32]++z18 5++[10]) (by simp; omega) (by simp [z18])) ?_
  rintro _ _ ⟨vq2,t3,rfl⟩
  simp(disch:=omega)only[↓RU,RV,RH,↓reduceIte,qE,reduceCtorEq,if_pos,qN,w64,↓RS,RG,qA,qM,qL,zaa,za7]
  apply hK;clear hK K
  refine W.r fun K hK=>?_
  simp(disch:=omega)only[↓RU,RV,RH,↓reduceIte,qE,reduceCtorEq,if_pos,qN,↓RS,RG,qA,qM,qL]
  refine zac.ev (zgl (A:=[.arr v 48 2 [zbx plan0,zbx plan0],.map v tabA,.map v tabT]) (by simp)) ?_
  rintro _ _ ⟨rfl,rfl⟩
  simp(disch:=omega)only[↓RU,RV,RH,↓reduceIte,qE,reduceCtorEq,if_pos,qN,↓RS,RG,qA,qM,qL]
  apply hK;clear hK K
  refine W.ret ?_
  refine Br rfl ?_
  simp [reify,Env.put,z18]
 try simp only[RL]at h1
 exact absurd h1 (by simp)
theorem zv5 {k:Nat}:(1:Int)+(k:Int)=((1+k:Nat):Int):=by omega
theorem mem2 {a b s:Txt} (h:s∈[a,b]) {n:Nat} (ha:a.length≤n) (hb:b.length≤n):s.length≤n:=by
 simp only[List.mem_cons,List.not_mem_nil,or_false]at h
 rcases h with rfl | rfl <;> assumption
theorem zqg {l:List Txt} {n:Nat} (hl:l.all (fun a=>decide (a.length≤n))=true) {s:Txt} (h:s∈l):s.length≤n:=by
 rw [List.all_eq_true]at hl
 exact of_decide_eq_true (hl s h)
theorem z5l {code:Txt} {n:Nat}:Bel n (eBy code) := .sl _ _
theorem zug {code:Txt} {vr m:Nat} (hc:code.length≤1048576) (h1:1≤m) (h6:m≤10) (ih:∀ m2:Nat,m2<m→1≤m2→∀ q:Nat,q+6*m2≤900000→∀ t,Ev Tryz.prog 152 [.ref 0 vr 0,.int .i64 m2] ⟨[.arr vr 159 2 [eBy code,.int .i64 (q:Int)]],t⟩ fun v S=>∃ (s:Txt) (q2 t2:Nat),v = .str s∧s.length+5≤8*m2∧q2+4≤q+6*m2∧S=⟨[.arr vr 159 2 [eBy code,.int .i64 (q2:Int)]],t2⟩) (q:Nat) (hq:q+6*m≤900000) (t:Nat):Ev Tryz.prog 152 [.ref 0 vr 0,.int .i64 m] ⟨[.arr vr 159 2 [eBy code,.int .i64 (q:Int)]],t⟩ fun v S=>∃ (s:Txt) (q2 t2:Nat),v = .str s∧s.length+5≤8*m∧q2+4≤q+6*m∧S=⟨[.arr vr 159 2 [eBy code,.int .i64 (q2:Int)]],t2⟩:=by
 refine Ev.of ⟨Tryz.func152,by kernel_rfl,rfl,by kernel_rfl⟩ zal mixed (by show 2≤Tryz.f152.ntmps; decide) ?_
 refine W.r fun K hK=>?_
 simp(disch:=omega)only[↓RU,RV,RH,↓reduceIte,qE,reduceCtorEq,if_pos,↓RS,RG,qA,qM,qL]
 apply hK;clear hK K
 refine W.r fun K hK=>?_
 simp(disch:=omega)only[↓RU,RV,RH,↓reduceIte,qE,reduceCtorEq,if_pos,↓RS,RG,qA,qM,qL]
 apply hK;clear hK K
 refine W.join [0,5] (fun vs S=>∃ (s:Txt) (q2 t2:Nat),s.length+7≤8*m∧q2+6≤q+6*m∧vs=[.ref 0 vr 0,.str s]∧S=⟨[.arr vr 159 2 [eBy code,.int .i64 (q2:Int)]],t2⟩) ?_ ?_
 ·
  refine W.r fun K hK=>?_
  simp(disch:=omega)only[↓RU,RV,RH,↓reduceIte,qE,reduceCtorEq,if_pos,w64,↓RS,RG,qA,qM,qL,zab]
  apply hK;clear hK K
  refine W.cond rfl (fun h0=>?_) (fun h0=>?_)
  ·try simp only[RL]at h0
   refine W.r fun K hK=>?_
   simp(disch:=omega)only[↓RU,RV,RH,↓reduceIte,qE,reduceCtorEq,if_pos,w64,qN,↓RS,RG,qA,qM,qL,zab]
   refine zac.ev (zmz (q:=q) (R:=[]) hc (by omega) ((m:Int) - 1) (by omega) (by omega)) ?_
   rintro _ _ ⟨k,rfl,-,hk,rfl⟩
   have hk2:=hk (by omega)
   simp(disch:=omega)only[↓RU,RV,RH,↓reduceIte,qE,reduceCtorEq,if_pos,w64,qN,↓RS,RG,qA,qM,qL,zab,zv5]
   apply hK;clear hK K
   refine W.k fun K hK=>?_
   simp(disch:=omega)only[↓RU,RV,RH,↓reduceIte,qE,reduceCtorEq,if_pos,qN,w64,↓RS,RG,qA,qM,qL,ty6,zab,zaa,za7]
   refine zac.ev (ih (1+k) (by omega) (by omega) (q+1) (by omega) _) ?_
   rintro _ _ ⟨a,qa,ta,rfl,ha,hqa,rfl⟩
   have l1:(40::a:Txt).length=a.length+1:=by simp
   have l0:([40]:Txt).length=1:=rfl
   simp(disch:=omega)only[↓RU,RV,RH,↓reduceIte,qE,reduceCtorEq,if_pos,qN,w64,↓RS,RG,qA,qM,qL,ty6,zab,zaa,za7]
   refine zac.ev (z23 (q:=qa) (l:=[[124],[45]]) (R:=[]) hc (by omega) (by simp) (by simp)) ?_
   rintro _ _ ⟨sg,hsg,rfl,rfl⟩
   have hsl:sg.length≤1:=zqg (by decide) hsg
   have l2:(40::a++sg:Txt).length=a.length+1+sg.length:=by simp; omega
   have l2b:(40::(a++sg):Txt).length=a.length+1+sg.length:=by simp; omega
   simp(disch:=omega)only[↓RU,RV,RH,↓reduceIte,qE,reduceCtorEq,if_pos,qN,w64,↓RS,RG,qA,qM,qL,ty6,zab,zaa,za7,show ((m:Int) - ((1+k:Nat):Int))=((m - (1+k):Nat):Int) from by omega]
   refine zac.ev ((ih (m - (1+k)) (by omega) (by omega) (qa+1) (by omega) (ta+1)).frame (fun v S hJ=>by obtain ⟨s,q2,t2,rfl,-,-,rfl⟩:=hJ; exact ⟨rfl,.str _,by intro ob hob; simp only[List.mem_singleton]at hob; subst hob; intro c hc; simp only[List.mem_cons,List.not_mem_nil,or_false]at hc; rcases hc with rfl | rfl; exact z5l; exact .int _ _⟩) [.arr ta 9 1 ([([124]:Txt),[45]].map .str)]) ?_
   rintro _ _ ⟨S1,⟨b,qb,tb,rfl,hb,hqb,rfl⟩,rfl⟩
   have l3:(40::a++sg++b:Txt).length=a.length+1+sg.length+b.length:=by simp; omega
   have l3b:(40::(a++sg++b):Txt).length=a.length+1+sg.length+b.length:=by simp; omega
   have l3c:(40::(a++sg)++b:Txt).length=a.length+1+sg.length+b.length:=by simp; omega
   have l41:([41]:Txt).length=1:=rfl
   simp(disch:=omega)only[↓RU,RV,RH,↓reduceIte,qE,reduceCtorEq,if_pos,qN,w64,↓RS,RG,qA,qM,qL,ty6,zab,zaa,za7]
   apply hK;clear hK K
   refine xn ?_
   refine ⟨1,40::a++sg++b++[41],qb,tb,?_,?_,?_,rfl⟩
   ·simp only[List.length_append,List.length_cons,List.length_nil]; omega
   ·omega
   simp [Env.put,Env.of,zaj]
  try simp only[RL]at h0
  refine W.skip ?_
  refine xn ?_
  refine ⟨1,[111],q,t,by simp; omega,by omega,?_,rfl⟩
  simp [Env.put,Env.of,zaj]
 rintro vs S - ⟨s,q2,t2,hs,hq2,rfl,rfl⟩
 refine W.seq ?_
 refine W.r fun K hK=>?_
 simp(disch:=omega)only[↓RU,RV,RH,↓reduceIte,qE,reduceCtorEq,if_pos,qN,w64,↓RS,RG,qA,qM,qL,zab]
 refine zac.ev (zmz (q:=q2) (R:=[]) hc (by omega) 6 (by omega) (by omega)) ?_
 rintro _ _ ⟨k,rfl,-,-,rfl⟩
 simp(disch:=omega)only[↓RU,RV,RH,↓reduceIte,qE,reduceCtorEq,if_pos,qN,w64,↓RS,RG,qA,qM,qL,zab]
 apply hK;clear hK K
 refine W.cond rfl (fun h1x=>?_) (fun h1x=>?_)
 ·try simp only[RL]at h1x
  refine W.r fun K hK=>?_
  simp(disch:=omega)only[↓RU,RV,RH,↓reduceIte,qE,reduceCtorEq,if_pos,qN,w64,↓RS,RG,qA,qM,qL,ty6,zaa,za7]
  refine zac.ev (z23 (q:=q2+1) (l:=[[62],[94],[62,62],[94,62]]) (R:=[]) hc (by omega) (by simp) (by simp)) ?_
  rintro _ _ ⟨sg,hsg,rfl,rfl⟩
  have hsl:sg.length≤2:=zqg (by decide) hsg
  simp(disch:=omega)only[↓RU,RV,RH,↓reduceIte,qE,reduceCtorEq,if_pos,qN,w64,↓RS,RG,qA,qM,qL,ty6,zaa,za7]
  apply hK;clear hK K
  refine W.ret ?_
  refine XThen.ret ?_
  refine Br rfl ?_
  refine ⟨1,sg++s,q2+2,_,rfl,?_,?_,rfl⟩
  ·rw [List.length_append]; omega
  omega
 try simp only[RL]at h1x
 refine W.skip ?_
 refine xn ?_
 refine W.r fun K hK=>?_
 simp(disch:=omega)only[↓RU,RV,RH,↓reduceIte,qE,reduceCtorEq,if_pos,↓RS,RG,qA,qM,qL]
 apply hK;clear hK K
 refine W.ret ?_
 refine Br rfl ?_
 exact ⟨1,s,q2+1,_,rfl,by omega,by omega,rfl⟩
theorem zxr {code:Txt} {vr:Nat} (hc:code.length≤1048576):∀ m:Nat,1≤m→m≤10→∀ q:Nat,q+6*m≤900000→∀ t,Ev Tryz.prog 152 [.ref 0 vr 0,.int .i64 m] ⟨[.arr vr 159 2 [eBy code,.int .i64 (q:Int)]],t⟩ fun v S=>∃ (s:Txt) (q2 t2:Nat),v = .str s∧s.length+5≤8*m∧q2+4≤q+6*m∧S=⟨[.arr vr 159 2 [eBy code,.int .i64 (q2:Int)]],t2⟩:=by
 intro m
 induction m using Nat.strongRecOn with
 | _ m ih =>
  intro h1 h6 q hq t
  exact zug hc h1 h6 (fun m2 h2 h3 q hq t=>ih m2 h2 h3 (by omega) q hq t) q hq t
theorem zxs {code:Txt} {vr t:Nat} (hc:code.length≤1048576):Ev Tryz.prog 42 [.ref 0 vr 0] ⟨[.arr vr 159 2 [eBy code,.int .i64 ((0:Nat):Int)]],t⟩ fun v S=>∃ (s:Txt) (t2:Nat),v = .str s∧s.length≤100∧S=⟨[],t2⟩:=by
 refine Ev.of ⟨Tryz.func42,by kernel_rfl,rfl,by kernel_rfl⟩ zal mixed (by show 1≤Tryz.f42.ntmps; decide) ?_
 refine W.r fun K hK=>?_
 simp(disch:=omega)only[↓RU,RV,RH,↓reduceIte,qE,reduceCtorEq,if_pos,↓RS,RG,qA,qM,qL]
 apply hK;clear hK K
 refine W.r fun K hK=>?_
 simp(disch:=omega)only[↓RU,RV,RH,↓reduceIte,qE,reduceCtorEq,if_pos,qN,w64,↓RS,RG,qA,qM,qL,zab]
 refine zac.ev (zmz (q:=0) (R:=[]) hc (by omega) 6 (by omega) (by omega)) ?_
 rintro _ _ ⟨k,rfl,-,hk,rfl⟩
 have hk2:=hk (by omega)
 simp(disch:=omega)only[↓RU,RV,RH,↓reduceIte,qE,reduceCtorEq,if_pos,qN,w64,↓RS,RG,qA,qM,qL,zab,zv5]
 refine zac.ev (zxr hc (1+k) (by omega) (by omega) (0+1) (by omega) _) ?_
 rintro _ _ ⟨s,q2,t2,rfl,hs,hq2,rfl⟩
 simp(disch:=omega)only[↓RU,RV,RH,↓reduceIte,qE,reduceCtorEq,if_pos,qN,w64,↓RS,RG,qA,qM,qL,zab]
 apply hK;clear hK K
 refine W.seq ?_
 refine W.r fun K hK=>?_
 simp(disch:=omega)only[↓RU,RV,RH,↓reduceIte,qE,reduceCtorEq,if_pos,qN,↓RS,RG,qA,qM,qL]
 refine zac.ev (zmz (q:=q2) (R:=[]) hc (by omega) 24 (by omega) (by omega)) ?_
 rintro _ _ ⟨k2,rfl,-,-,rfl⟩
 simp(disch:=omega)only[↓RU,RV,RH,↓reduceIte,qE,reduceCtorEq,if_pos,qN,↓RS,RG,qA,qM,qL]
 apply hK;clear hK K
 refine W.block ?_
 refine W.r fun K hK=>?_
 simp(disch:=omega)only[↓RU,RV,RH,↓reduceIte,qE,reduceCtorEq,if_pos,w64,↓RS,RG,qA,qM,qL,zab]
 apply hK;clear hK K
 refine W.cond rfl (fun h0=>?_) (fun h0=>?_)
 ·try simp only[RL]at h0
  refine W.r fun K hK=>?_
  simp(disch:=omega)only[↓RU,RV,RH,↓reduceIte,qE,reduceCtorEq,if_pos,qN,w64,↓RS,RG,qA,qM,qL,ty6,zaa,za7]
  refine zac.ev (z23 (q:=q2+1) (l:=[[41],[111],[124]]) (R:=[]) hc (by omega) (by simp) (by simp)) ?_
  rintro _ _ ⟨sg,hsg,rfl,rfl⟩
  have hsl:sg.length≤1:=zqg (by decide) hsg
  simp(disch:=omega)only[↓RU,RV,RH,↓reduceIte,qE,reduceCtorEq,if_pos,qN,w64,↓RS,RG,qA,qM,qL,ty6,zaa,za7]
  apply hK;clear hK K
  refine W.ret ?_
  refine XBlock.ret ?_
  refine XThen.ret ?_
  refine Br rfl ?_
  exact ⟨0,s++sg,_,rfl,by rw [List.length_append]; omega,rfl⟩
 try simp only[RL]at h0
 refine W.r fun K hK=>?_
 simp(disch:=omega)only[↓RU,RV,RH,↓reduceIte,qE,reduceCtorEq,if_pos,w64,↓RS,RG,qA,qM,qL,zab]
 apply hK;clear hK K
 refine W.cond rfl (fun h1=>?_) (fun h1=>?_)
 ·try simp only[RL]at h1
  refine W.r fun K hK=>?_
  simp(disch:=omega)only[↓RU,RV,RH,↓reduceIte,qE,reduceCtorEq,if_pos,qN,↓RS,RG,qA,qM,qL,ty6,zaa,za7]
  refine zac.ev (z23 (q:=q2+1) (l:=[[],[120],[40,111,41],[40,111,124,111],[62],[40,111,124,40,111,124,40,111,124,40,111,124,40,111,124,40,111,124,40,111,124,111,41,41,41,41,41,41,41],[40,40,111,124,111,41,124,40,111,124,111,41,41]]) (R:=[]) hc (by omega) (by simp) (by simp)) ?_
  rintro _ _ ⟨sg,hsg,rfl,rfl⟩
  have hsl:sg.length≤36:=zqg (by decide) hsg
  simp(disch:=omega)only[↓RU,RV,RH,↓reduceIte,qE,reduceCtorEq,if_pos,qN,↓RS,RG,qA,qM,qL,ty6,zaa,za7]
  apply hK;clear hK K
  refine W.ret ?_
  refine XBlock.ret ?_
  refine XThen.ret ?_
  refine Br rfl ?_
  exact ⟨0,sg,_,rfl,by omega,rfl⟩
 try simp only[RL]at h1
 refine W.skip ?_
 refine XbN ?_
 refine xn ?_
 refine W.r fun K hK=>?_
 simp(disch:=omega)only[↓RU,RV,RH,↓reduceIte,qE,reduceCtorEq,if_pos,↓RS,RG,qA,qM,qL]
 apply hK;clear hK K
 refine W.ret ?_
 refine Br rfl ?_
 exact ⟨0,s,_,rfl,by omega,rfl⟩
theorem zxt {code:Txt} (hc:code.length≤1048576):Ev Tryz.prog 19 [eBy code] ⟨[],0⟩ fun v S=>∃ (s:Txt) (t2:Nat),v = .str s∧s.length≤100∧S=⟨[],t2⟩:=by
 refine Ev.of ⟨Tryz.func19,by kernel_rfl,rfl,by kernel_rfl⟩ zal mixed (by show 1≤Tryz.f19.ntmps; decide) ?_
 refine W.r fun K hK=>?_
 simp(disch:=omega)only[↓RU,RV,RH,↓reduceIte,qE,reduceCtorEq,if_pos,↓RS,RG,qA,qM,qL]
 apply hK;clear hK K
 refine W.r fun K hK=>?_
 simp(disch:=omega)only[↓RU,RV,RH,↓reduceIte,qE,reduceCtorEq,if_pos,qN,↓RS,RG,qA,qM,qL,rdO]
 refine zac.pn (zz4 hc) rfl (.inr rfl) ?_
 simp(disch:=omega)only[↓RU,RV,RH,↓reduceIte,qE,reduceCtorEq,if_pos,qN,↓RS,RG,qA,qM,qL,rdO,rdO,RN]
 have hc2:(code.take 2000).length≤1048576:=by rw [List.length_take]; omega
 refine zac.ev (zxs hc2) ?_
 rintro _ _ ⟨s,t,rfl,hs,rfl⟩
 simp(disch:=omega)only[↓RU,RV,RH,↓reduceIte,qE,reduceCtorEq,if_pos,qN,↓RS,RG,qA,qM,qL,rdO]
 apply hK;clear hK K
 refine W.ret ?_
 refine Br rfl ?_
 exact ⟨0,s,_,rfl,hs,rfl⟩
theorem zly {code:Txt} (hc:code.length≤1048576):Ev Tryz.prog 6 [eBy code] ⟨[],0⟩ fun v S=>∃ (s:Txt) (t2:Nat),v = .str s∧s.length≤100∧S=⟨[],t2⟩:=by
 refine Ev.of ⟨Tryz.func6,by kernel_rfl,rfl,by kernel_rfl⟩ zal mixed (by show 1≤Tryz.f6.ntmps; decide) ?_
 refine W.r fun K hK=>?_
 simp(disch:=omega)only[↓RU,RV,RH,↓reduceIte,qE,reduceCtorEq,if_pos,↓RS,RG,qA,qM,qL]
 apply hK;clear hK K
 refine W.r fun K hK=>?_
 simp(disch:=omega)only[↓RU,RV,RH,↓reduceIte,qE,reduceCtorEq,if_pos,qN,↓RS,RG,qA,qM,qL]
 refine zac.ev (zxt hc) ?_
 rintro _ _ ⟨s,t,rfl,hs,rfl⟩
 simp(disch:=omega)only[↓RU,RV,RH,↓reduceIte,qE,reduceCtorEq,if_pos,qN,↓RS,RG,qA,qM,qL]
 apply hK;clear hK K
 refine W.ret ?_
 refine Br rfl ?_
 exact ⟨0,s,_,rfl,hs,rfl⟩






section
section
variable {n:Nat} {M X:List (List Bool)}
def rvB (M:List (List Bool)) (a:Nat) (X:List (List Bool)) (b:Nat):List (List Bool):=z19 X b a (za9 M a b)
def rvA (n:Nat) (M:List (List Bool)) (X:List (List Bool)) (a:Nat):List (List Bool):=(List.range n).foldl (rvB M a) X
def rv (n:Nat) (M:List (List Bool)):List (List Bool):=(List.range n).foldl (rvA n M) (zel n)
end
end

section
section
variable {S:Store} {fr:Nat→Bool} {f:Nat}
end
end



theorem zsg {S:Store} {a b:Bool}:pEq tab S 4 (.bool a) (.bool b)=some (a == b):=rfl





theorem zwl {a:Txt}:z0u .neq a a=some (.bool false):=by simp [z0u]
theorem zqq {a:Txt}:z0u .eql a a=some (.bool true):=by simp [z0u]
theorem z8j {s o:Txt} (h:ttV s=some o):s.length≤60∧(10:UInt8) ∉ s∧o.length≤60:=by
 unfold ttV at h
 rw [qI]at h
 obtain ⟨t,h1,rfl⟩:=h
 obtain ⟨k1,k2,k3,-⟩:=zr9 h1
 obtain ⟨p1,p2⟩:=zj3 k1
 have:=(znh p1).1
 exact ⟨k3,(z0j h1).1,by omega⟩
theorem zl6 {code:Txt} (hcode:code.length≤9223372036854775807):PC Tryz.prog 3 [eBy code] (.bool true) true:=by
 refine PC.of ⟨Tryz.func3,by kernel_rfl,rfl,by kernel_rfl⟩ zal mixed (by show 1≤Tryz.f3.ntmps; decide) ?_
 refine W.r fun K hK=>?_
 simp(disch:=omega)only[↓RU,RV,RH,↓reduceIte,qE,reduceCtorEq,if_pos,↓RS,RG,qA,qM,qL]
 apply hK;clear hK K
 refine W.seq ?_
 refine W.r fun K hK=>?_
 simp(disch:=omega)only[↓RU,RV,RH,↓reduceIte,qE,reduceCtorEq,if_pos,w64,↓RS,RG,qA,qM,qL,ty7,zab,zai]
 apply hK;clear hK K
 refine W.cond rfl (fun h0=>?_) (fun h0=>?_)
 ·try simp only[RL]at h0
  refine W.r fun K hK=>?_
  simp(disch:=omega)only[↓RU,RV,RH,↓reduceIte,qE,reduceCtorEq,if_pos,↓RS,RG,qA,qM,qL]
  apply hK;clear hK K
  refine W.ret ?_
  refine XThen.ret ?_
  refine Br rfl ?_
  rfl
 try simp only[RL]at h0
 have hcl:code.length≤1048576:=by omega
 refine W.skip ?_
 refine xn ?_
 refine W.r fun K hK=>?_
 simp(disch:=omega)only[↓RU,RV,RH,↓reduceIte,qE,reduceCtorEq,if_pos,qN,↓RS,RG,qA,qM,qL]
 refine zac.ev (zly hcl) ?_
 rintro _ _ ⟨s,t,rfl,hs,rfl⟩
 simp(disch:=omega)only[↓RU,RV,RH,↓reduceIte,qE,reduceCtorEq,if_pos,qN,↓RS,RG,qA,qM,qL]
 apply hK;clear hK K
 refine W.r fun K hK=>?_
 simp(disch:=omega)only[↓RU,RV,RH,↓reduceIte,qE,reduceCtorEq,if_pos,qN,↓RS,RG,qA,qM,qL,ppT]
 refine zac.pc (znf s (by omega)) rfl (.inl rfl) ?_
 simp(disch:=omega)only[↓RU,RV,RH,↓reduceIte,qE,reduceCtorEq,if_pos,qN,↓RS,RG,qA,qM,qL,ppT]
 apply hK;clear hK K
 refine W.r fun K hK=>?_
 simp(disch:=omega)only[↓RU,RV,RH,↓reduceIte,qE,reduceCtorEq,if_pos,qN,↓RS,RG,qA,qM,qL,ppT]
 refine zac.pc (ztc s (by omega)) rfl (.inl rfl) ?_
 simp(disch:=omega)only[↓RU,RV,RH,↓reduceIte,qE,reduceCtorEq,if_pos,qN,↓RS,RG,qA,qM,qL,ppT]
 apply hK;clear hK K
 refine W.seq ?_
 refine W.r fun K hK=>?_
 rcases hv:ttV s with _ | o
 ·skip
  simp(disch:=omega)only[↓RU,RV,RH,↓reduceIte,qE,reduceCtorEq,if_pos,w64,↓RS,RG,qA,qM,qL,ztj,zaa,zsg,qO,bne_self_eq_false,beq_self_eq_true,Bool.not_true,Bool.not_false,decide_true,zwl,Option.isSome_none,Option.getD_none]
  apply hK;clear hK K
  refine W.cond rfl (fun h1=>?_) (fun h1=>?_)
  ·try simp only[RL]at h1
   refine W.r fun K hK=>?_
   simp(disch:=omega)only[↓RU,RV,RH,↓reduceIte,qE,reduceCtorEq,if_pos,w64,↓RS,RG,qA,qM,qL,ztj,zaa,zsg,qO,bne_self_eq_false,beq_self_eq_true,Bool.not_true,Bool.not_false,decide_true,zqq,Option.getD_none,Option.isSome_none]
   apply hK;clear hK K
   refine W.ret ?_
   refine XThen.ret ?_
   refine Br rfl ?_
   rfl
  try simp only[RL]at h1
  exact absurd h1 (by simp)
 skip
 obtain ⟨k1,k2,k3⟩:=z8j hv
 have hT:=znf s (by omega)
 rw [hv]at hT
 have hE:=zt2 (s:=s) (o:=o) (by omega) k2 (by omega) hT
 have e1:([10]:Txt).length=1:=rfl
 have e2:([116,105,100,121,32]:Txt).length=5:=rfl
 have e3:([116,105,100,121,32]++s:Txt).length=s.length+5:=by simp
 have e5:(116::105::100::121::32::s:Txt).length=s.length+5:=rfl
 have e4:([10,114,111,111,109,115,32,53,10]:Txt).length=9:=rfl
 simp(disch:=omega)only[↓RU,RV,RH,↓reduceIte,qE,reduceCtorEq,if_pos,w64,↓RS,RG,qA,qM,qL,ztj,zaa,zsg,qO,bne_self_eq_false,beq_self_eq_true,Bool.not_true,Bool.not_false,decide_true,zwl,Option.isSome_some,Option.getD_some]
 apply hK;clear hK K
 refine W.cond rfl (fun h1=>?_) (fun h1=>?_)
 ·try simp only[RL]at h1
  exact absurd h1 (by simp)
 try simp only[RL]at h1
 refine W.skip ?_
 refine xn ?_
 refine W.r fun K hK=>?_
 simp(disch:=omega)only[↓RU,RV,RH,↓reduceIte,qE,reduceCtorEq,if_pos,w64,qN,↓RS,RG,qA,qM,qL,zaa,zsg,qO,bne_self_eq_false,beq_self_eq_true,Bool.not_true,Bool.not_false,decide_true,za7,zqq]
 refine zac.pc (hE) rfl (.inl rfl) ?_
 simp(disch:=omega)only[↓RU,RV,RH,↓reduceIte,qE,reduceCtorEq,if_pos,w64,qN,↓RS,RG,qA,qM,qL,zaa,zsg,qO,bne_self_eq_false,beq_self_eq_true,Bool.not_true,Bool.not_false,decide_true,za7,zqq]
 apply hK;clear hK K
 refine W.ret ?_
 refine Br rfl ?_
 rfl
end Fw
end Go.Proofs.YthbombjjioojeaaGreatDoor
