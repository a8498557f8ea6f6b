/- Parts of the framework and of the proof: Terms: the reader of the program, gone through; Plans that are cut, in plain words; Plans of terms by the specification: its texts are those of the grids; Plans of two plans by the program, gone through; Plans of terms by the program, gone through; Plans cut in two, gone through; Drawing plans, gone through; Drawing plans, gone through, continued; Drawing needs, gone through; Parts of plans in the program: rooms, lines, gone through; The framework, part ha: loops over functions: yield's contract out of the body's walk, and the statement; The framework, part hb: a region in which two variables are made, either of them ahead of the other; The cuts of a part, and the first one, gone through; Wider plans in the specification; draws of two plans, gone through; Terms by the specification, gone through; Plans turned, seen from behind and put beside each other by the specification, gone through. -/
import Derived.Test.YtcfgpmeebpinaaaGreatJ2
import Derived.Test.YtcfgpmeebpinaaaGreatJ3
import Derived.Test.YtcfgpmeebpinaaaGreatJ1
set_option linter.all false
namespace Go.Proofs.YtcfgpmeebpinaaaGreat
namespace Fw
open Go
open Nat renaming reduceEqDiff → qE, reduceLeDiff → qL, reduceAdd → qA, reduceMul → qM, le_refl → qR
open List renaming append_nil → qN, mapM_append → qP, mapM_cons → qC, mapM_map → qU, range_succ → qS, take_of_length_le → qT
open Bool renaming and_eq_true → qB, false_eq_true → qF
open Option renaming map_some → qO, map_eq_some_iff → qI
open Int renaming reduceToNat → qZ
def eT:Tm→PV
 | .o => .ip [.int .u8 111,.nils] 0
 | .un c t => .ip [eB c,.sl [eT t] 1] 0
 | .bin m a b => .ip [eB m,.sl [eT a,eT b] 2] 0
def eO:Option Tm→PV
 | some t=>eT t
 | none => .nilp
theorem zlp (t:Tm):∃ cs,eT t = .ip cs 0:=by cases t <;> exact ⟨_,rfl⟩
theorem zwi:eO none = .nilp:=rfl
theorem zji {t:Tm}:eO (some t)=eT t:=rfl
def hd0 (s:Txt):UInt8:=s.headD 0
def rdT (s:Txt):Option (Tm × Txt):=rd (s.length+1) s
theorem z22 {s:Txt} (h:hd0 s≠0):s.length=s.tail.length+1:=by
 cases s with
 | nil=>exact absurd rfl h
 | cons c s=>rfl
theorem zy9 (s:Txt):rdT s=if hd0 s=111 then some (.o,s.tail) else if hd0 s=62∨hd0 s=94 then (match rdT s.tail with | some (t,r)=>some (.un (hd0 s) t,r) | none=>none)
  else if hd0 s=40 then (match rdT s.tail with | some (a,r)=>(if hd0 r=124∨hd0 r=45 then (match rdT r.tail with | some (b,r2)=>(if hd0 r2=41 then some (.bin (hd0 r) a b,r2.tail) else none) | none=>none) else none) | none=>none) else none:=by
 cases s with
 | nil=>simp [rdT,rd,hd0]
 | cons c s =>
  show rd (s.length+1+1) (c::s)=_
  rw [rd]
  by_cases e1:c=111
  ·rw [if_pos e1,if_pos (show hd0 (c::s)=111 from e1)]; rfl
  rw [if_neg e1,if_neg (show ¬ hd0 (c::s)=111 from e1)]
  by_cases e2:c=62∨c=94
  ·rw [if_pos e2,if_pos (show hd0 (c::s)=62∨hd0 (c::s)=94 from e2)]; rfl
  rw [if_neg e2,if_neg (show ¬ (hd0 (c::s)=62∨hd0 (c::s)=94) from e2)]
  by_cases e3:c=40
  ·rw [if_pos e3,if_pos (show hd0 (c::s)=40 from e3)]
   show (match rd (s.length+1) s with | some (a,m::r)=>_ | _=>none)=match rd (s.length+1) s with | some (a,r)=>_ | none=>none
   cases h:rd (s.length+1) s with
   | none=>rfl
   | some q =>
    obtain ⟨a,r⟩:=q
    cases r with
    | nil=>rfl
    | cons m r =>
     have hs:=(zza _ h).1
     simp only[List.length_cons]at hs
     show (if m=124∨m=45 then _ else none)=if hd0 (m::r)=124∨hd0 (m::r)=45 then (match rd (r.length+1) r with | some (b,r2)=>_ | none=>none) else none
     by_cases e4:m=124∨m=45
     ·rw [if_pos e4,if_pos (show hd0 (m::r)=124∨hd0 (m::r)=45 from e4)]
      rw [yba (s.length+1) (s:=r) (g:=r.length+1) (by omega) (by omega)]
      cases h2:rd (r.length+1) r with
      | none=>rfl
      | some q =>
       obtain ⟨b,r2⟩:=q
       cases r2 with
       | nil=>rfl
       | cons e r2=>rfl
     rw [if_neg e4,if_neg (show ¬ (hd0 (m::r)=124∨hd0 (m::r)=45) from e4)]
  rw [if_neg e3,if_neg (show ¬ hd0 (c::s)=40 from e3)]
def zj5 (s:Txt):Option Tm:=(rdT s).map (·.1)
theorem zl7 (s:Txt) {ver t:Nat} (hs:s.length≤1048576):Ev Tryz.prog 104 [.ref 0 ver 0] ⟨[.arr ver 97 1 [.str s]],t⟩ fun v S=>v=eB (hd0 s)∧∃ t2,S=⟨[.arr ver 97 1 [.str s.tail]],t2⟩:=by
 refine Ev.of ⟨Tryz.func104,by kernel_rfl,rfl,by kernel_rfl⟩ zav mixed (by show 1≤Tryz.f104.ntmps; decide) ?_
 refine W.r fun K hK=>?_
 simp(disch:=omega)only[↓RU,RV,RH,↓reduceIte,qE,reduceCtorEq,if_pos,↓RS,RG,qA,qM,qL]
 apply hK;clear hK K
 refine W.seq ?_
 refine W.r fun K hK=>?_
 rcases s with _ | ⟨c,s⟩
 ·skip
  simp(disch:=omega)only[↓RU,RV,RH,↓reduceIte,qE,reduceCtorEq,if_pos,w64,↓RS,RG,qA,qM,qL,ybw,zab,ybx,Int.toNat_zero,Nat.zero_mul,qZ,qM,Nat.zero_add,Nat.mul_one,List.getElem?_cons_zero,List.getElem?_cons_succ]
  apply hK;clear hK K
  refine W.cond rfl (fun h0=>?_) (fun h0=>?_)
  ·try simp only[RL]at h0
   refine W.r fun K hK=>?_
   simp(disch:=omega)only[↓RU,RV,RH,↓reduceIte,qE,reduceCtorEq,if_pos,↓RS,RG,qA,qM,qL]
   apply hK;clear hK K
   refine W.ret ?_
   refine XThen.ret ?_
   refine Br rfl ?_
   exact ⟨1,rfl,_,rfl⟩
  try simp only[RL]at h0
  exact absurd h0 (by simp)
 skip
 simp(disch:=omega)only[↓RU,RV,RH,↓reduceIte,qE,reduceCtorEq,if_pos,w64,↓RS,RG,qA,qM,qL,ybw,zab,ybx,Int.toNat_zero,Nat.zero_mul,qZ,qM,Nat.zero_add,Nat.mul_one,List.getElem?_cons_zero,List.getElem?_cons_succ]
 apply hK;clear hK K
 refine W.cond rfl (fun h0=>?_) (fun h0=>?_)
 ·try simp only[RL]at h0
  exact absurd h0 (by simp)
 try simp only[RL]at h0
 refine W.skip ?_
 refine xn ?_
 refine W.r fun K hK=>?_
 simp(disch:=omega)only[↓RU,RV,RH,↓reduceIte,qE,reduceCtorEq,if_pos,↓RS,RG,qA,qM,qL,ybw,zab,ybx,Int.toNat_zero,Nat.zero_mul,qZ,qM,Nat.zero_add,Nat.mul_one,List.getElem?_cons_zero,List.getElem?_cons_succ]
 apply hK;clear hK K
 refine W.r fun K hK=>?_
 simp(disch:=omega)only[↓RU,RV,RH,↓reduceIte,qE,reduceCtorEq,if_pos,Option.map_none,↓RS,RG,qA,qM,qL,ybw,zab,ybx,Int.toNat_zero,Nat.zero_mul,qZ,qM,Nat.zero_add,Nat.mul_one,List.getElem?_cons_zero,List.getElem?_cons_succ,List.drop_succ_cons,List.drop_zero,List.take_length]
 apply hK;clear hK K
 refine W.r fun K hK=>?_
 simp(disch:=omega)only[↓RU,RV,RH,↓reduceIte,qE,reduceCtorEq,if_pos,↓RS,RG,qA,qM,qL]
 apply hK;clear hK K
 refine W.ret ?_
 refine Br rfl ?_
 exact ⟨1,rfl,_,rfl⟩
def JT (s:Txt) (ver:Nat) (v:PV) (S:Store):Prop:=v=eO (zj5 s)∧∃ (s':Txt) (t2:Nat),S=⟨[.arr ver 97 1 [.str s']],t2⟩∧s'.length≤s.length∧∀ u r,rdT s=some (u,r)→s'=r
def JF (s:Txt) (ver:Nat) (v:PV) (S:Store):Prop:=∃ v' S',frz S 1 10 v=some v'∧S.frz 1=some S'∧JT s ver v' S'
theorem u8i {c:UInt8} {k:Nat} (h:c.toNat=k) (hk:k<256):c=UInt8.ofNat k:=by
 apply UInt8.toNat_inj.1
 rw [h,UInt8.toNat_ofNat_of_lt' (by show k<256; omega)]
theorem zfy {S:Store} {lo k o ver off:Nat}:rfz S lo (k+1) (.ref o ver off)=if lo≤o then (S.cellsOf o ver).bind fun cells=>(cells.mapM (rfz S lo k)).map (.ip · off) else none:=rfl
theorem zh8 {S:Store} {lo k n:Nat} {cs:List PV}:rfz S lo (k+1) (.ip cs n)=some (.ip cs n):=rfl
theorem zea {S:Store} {lo k:Nat}:rfz S lo (k+1) .nils=some .nils:=rfl
theorem yd2 {c:UInt8}:((c.toNat:Int) == 94)=decide (c=94):=by
 rw [Bool.eq_iff_iff,decide_eq_true_eq,beq_iff_eq]
 exact ⟨fun h=>u8i (k:=94) (by omega) (by decide),fun h=>by rw [h]; rfl⟩
theorem z2i {cs:List PV} {n:Nat}:(PV.ip cs n).isDef=true:=rfl
theorem z11 {s s2 s4:Txt} (hb:rdT s=match rdT s.tail with | some (a,r)=>(if hd0 r=124∨hd0 r=45 then (match rdT r.tail with | some (b,r2)=>(if hd0 r2=41 then some (.bin (hd0 r) a b,r2.tail) else none) | none=>none) else none) | none=>none) (hr2:∀ u r,rdT s.tail=some (u,r)→s2=r) (hr4:∀ u r,rdT s2.tail=some (u,r)→s4=r) :
  (zj5 s.tail=none∧rdT s=none)∨(∃ a,zj5 s.tail=some a∧zj5 s2.tail=none∧rdT s=none)∨(∃ a b,zj5 s.tail=some a∧zj5 s2.tail=some b∧((hd0 s2≠124∧hd0 s2≠45∧rdT s=none)∨((hd0 s2=124∨hd0 s2=45)∧hd0 s4=41∧rdT s=some (.bin (hd0 s2) a b,s4.tail))∨((hd0 s2=124∨hd0 s2=45)∧hd0 s4≠41∧rdT s=none))):=by
 cases h1:rdT s.tail with
 | none=>rw [h1]at hb; exact .inl ⟨by rw [zj5,h1]; rfl,hb⟩
 | some q =>
  obtain ⟨a,r⟩:=q
  rw [h1]at hb
  have e2:=hr2 a r h1
  subst e2
  simp only at hb
  cases h2:rdT s2.tail with
  | none=>exact .inr (.inl ⟨a,by rw [zj5,h1]; rfl,by rw [zj5,h2]; rfl,by rw [hb,h2]; split <;> rfl⟩)
  | some q =>
   obtain ⟨b,r⟩:=q
   have e4:=hr4 b r h2
   subst e4
   rw [h2]at hb
   simp only at hb
   refine .inr (.inr ⟨a,b,by rw [zj5,h1]; rfl,by rw [zj5,h2]; rfl,?_⟩)
   by_cases k:hd0 s2=124∨hd0 s2=45
   ·rw [if_pos k]at hb
    by_cases k2:hd0 s4=41
    ·rw [if_pos k2]at hb; exact .inr (.inl ⟨k,k2,hb⟩)
    rw [if_neg k2]at hb; exact .inr (.inr ⟨k,k2,hb⟩)
   rw [if_neg k]at hb
   exact .inl ⟨fun e=>k (.inl e),fun e=>k (.inr e),hb⟩
theorem zef {c:UInt8} {k:Nat} (h:c≠UInt8.ofNat k) (hk:k<256):¬ (c.toNat:Int)=(k:Int):=fun e=>h (u8i (by omega) hk)
theorem zrt {c:UInt8}:(eB c).cells=[eB c]:=rfl
theorem z2g {c:UInt8}:(eB c).isDef=true:=rfl
theorem yaq {c:UInt8}:(eB c).isCell=true:=rfl
theorem zj3 {S:Store}:pEq tab S 41 .nilp .nilp=some true:=rfl
theorem zj2 {S:Store} {cs:List PV} {n:Nat}:pEq tab S 41 (.ip cs n) .nilp=some false:=rfl
theorem z0f {ver tk:Nat} {s:Txt} {obs:List Ob}:Store.frz ⟨.arr ver 97 1 [.str s]::obs,tk⟩ 1=some ⟨[.arr ver 97 1 [.str s]],tk⟩:=by simp [Store.frz,zf9,ze6,zhz]
theorem JF.mk {s s':Txt} {ver tk:Nat} {v val:PV} {obs:List Ob} (h1:frz ⟨.arr ver 97 1 [.str s']::obs,tk⟩ 1 10 v=some val) (h3:val=eO (zj5 s)) (h4:s'.length≤s.length) (h5:∀ u r,rdT s=some (u,r)→s'=r):JF s ver v ⟨.arr ver 97 1 [.str s']::obs,tk⟩ :=
 ⟨val,_,h1,z0f,h3,s',tk,rfl,h4,h5⟩
theorem zic (s:Txt):s.tail.length≤s.length:=by rw [List.length_tail]; omega
theorem z79 (s:Txt) {ver:Nat} (hs:s.length≤1048576) (ih:∀ s2:Txt,s2.length<s.length→∀ t,Ev Tryz.prog 55 [.ref 0 ver 0] ⟨[.arr ver 97 1 [.str s2]],t⟩ (JT s2 ver)) (t:Nat):Ev Tryz.prog 55 [.ref 0 ver 0] ⟨[.arr ver 97 1 [.str s]],t⟩ fun v S=>JF s ver v S:=by
 refine Ev.of ⟨Tryz.func55,by kernel_rfl,rfl,by kernel_rfl⟩ zav mixed (by show 1≤Tryz.f55.ntmps; decide) ?_
 refine W.r fun K hK=>?_
 simp(disch:=omega)only[↓RU,RV,RH,↓reduceIte,qE,reduceCtorEq,if_pos,↓RS,RG,qA,qM,qL]
 apply hK;clear hK K
 refine W.seq ?_
 refine W.r fun K hK=>?_
 simp(disch:=omega)only[↓RU,RV,RH,↓reduceIte,qE,reduceCtorEq,if_pos,qN,↓RS,RG,qA,qM,qL]
 refine zae.ev (zl7 s hs) ?_
 rintro _ _ ⟨rfl,t1,rfl⟩
 simp(disch:=omega)only[↓RU,RV,RH,↓reduceIte,qE,reduceCtorEq,if_pos,qN,↓RS,RG,qA,qM,qL]
 apply hK;clear hK K
 refine W.r fun K hK=>?_
 simp(disch:=omega)only[↓RU,RV,RH,↓reduceIte,qE,reduceCtorEq,if_pos,↓RS,RG,qA,qM,qL]
 apply hK;clear hK K
 refine W.block ?_
 refine W.r fun K hK=>?_
 simp(disch:=omega)only[↓RU,RV,RH,↓reduceIte,qE,reduceCtorEq,if_pos,w64,↓RS,RG,qA,qM,qL,za0]
 apply hK;clear hK K
 refine W.cond rfl (fun h0=>?_) (fun h0=>?_)
 ·try simp only[RL]at h0
  have hc:hd0 s=111:=u8i (k:=111) (by omega) (by decide)
  have hl:=z22 (s:=s) (by rw [hc]; decide)
  have hrd:rdT s=some (.o,s.tail):=by rw [zy9,if_pos hc]
  refine W.r fun K hK=>?_
  simp(disch:=omega)only[↓RU,RV,RH,↓reduceIte,qE,reduceCtorEq,if_pos,↓RS,RG,qA,qM,qL,ty2,ty8,z9s,z9u,za0]
  apply hK;clear hK K
  refine W.ret ?_
  refine XBlock.ret ?_
  refine XThen.ret ?_
  refine Br rfl ?_
  refine ⟨2,JF.mk (val:=eT .o) ?_ ?_ ?_ ?_⟩
  ·simp [Env.put,Env.of,zaj,Store.take,zfr,zfy,zcy,zc6,zh8,zea,Store.cellsOf,eB,eT,hc]
  ·rw [zj5,hrd]; rfl
  ·omega
  intro u r h; rw [hrd]at h; cases h; rfl
 try simp only[RL]at h0
 have hc0:¬ hd0 s=111:=fun e=>h0 (by rw [e]; rfl)
 refine W.join [0,3,10,16] (fun vs S=>∃ b:Bool,(b=true↔(hd0 s=62∨hd0 s=94))∧vs=[.ref 0 ver 0,eB (hd0 s),eB (hd0 s),.bool b]∧S=⟨[.arr ver 97 1 [.str s.tail]],t1⟩) ?_ ?_
 ·
  refine W.r fun K hK=>?_
  simp(disch:=omega)only[↓RU,RV,RH,↓reduceIte,qE,reduceCtorEq,if_pos,w64,↓RS,RG,qA,qM,qL,za0]
  apply hK;clear hK K
  refine W.cond rfl (fun h1=>?_) (fun h1=>?_)
  ·try simp only[RL]at h1
   refine W.skip ?_
   refine xn ?_
   refine ⟨1,true,⟨fun _ => .inl (u8i (k:=62) (by omega) (by decide)),fun _=>rfl⟩,?_,rfl⟩
   simp [Env.put,Env.of,zaj]; simpa using h1
  try simp only[RL]at h1
  refine W.k fun K hK=>?_
  simp(disch:=omega)only[↓RU,RV,RH,↓reduceIte,qE,reduceCtorEq,if_pos,w64,↓RS,RG,qA,qM,qL,za0]
  apply hK;clear hK K
  refine xn ?_
  refine ⟨1,decide (hd0 s=94),⟨fun e => .inr (of_decide_eq_true e),fun e=>decide_eq_true (e.resolve_left fun e=>h1 (by rw [e]; rfl))⟩,?_,rfl⟩
  simp [Env.put,Env.of,zaj,yd2]
 rintro vs S - ⟨b,hb,rfl,rfl⟩
 refine W.cond rfl (fun h2=>?_) (fun h2=>?_)
 ·try simp only[RL]at h2
  have hcu:=hb.1 h2
  have hl:=z22 (s:=s) (by rcases hcu with e | e <;> rw [e] <;> decide)
  have hun:=zy9 s
  rw [if_neg hc0,if_pos hcu]at hun
  refine W.r fun K hK=>?_
  simp(disch:=omega)only[↓RU,RV,RH,↓reduceIte,qE,reduceCtorEq,if_pos,qN,↓RS,RG,qA,qM,qL]
  refine zae.ev (ih s.tail (by omega) t1) ?_
  rintro _ _ ⟨rfl,s2,t2,rfl,hs2,hr2⟩
  simp(disch:=omega)only[↓RU,RV,RH,↓reduceIte,qE,reduceCtorEq,if_pos,qN,↓RS,RG,qA,qM,qL]
  apply hK;clear hK K
  refine W.r fun K hK=>?_
  rcases hq:rdT s.tail with _ | ⟨u,r⟩
  ·skip
   have hno:rdT s=none:=by rw [hun,hq]
   have e1:zj5 s.tail=none:=by rw [zj5,hq]; rfl
   rw [e1]
   simp only[eO]
   simp(disch:=omega)only[↓RU,RV,RH,↓reduceIte,qE,reduceCtorEq,if_pos,w64,↓RS,RG,qA,qM,qL,ty8,zj3,zj2,qO,Bool.not_true,Bool.not_false]
   apply hK;clear hK K
   refine W.cond rfl (fun h3=>?_) (fun h3=>?_)
   ·try simp only[RL]at h3
    exact absurd h3 (by simp)
   try simp only[RL]at h3
   refine W.skip ?_
   refine XbN ?_
   refine xn ?_
   refine W.r fun K hK=>?_
   simp(disch:=omega)only[↓RU,RV,RH,↓reduceIte,qE,reduceCtorEq,if_pos,↓RS,RG,qA,qM,qL]
   apply hK;clear hK K
   refine W.ret ?_
   refine Br rfl ?_
   refine ⟨1,JF.mk (val := .nilp) ?_ ?_ ?_ ?_⟩
   ·simp [Env.put,Env.of,zaj,Store.take,zfr,zfy,zcy,zc6,zh8,zea,Store.cellsOf,eB,eT,zg8]
   ·rw [zj5,hno]; rfl
   ·omega
   intro u r h; rw [hno]at h; cases h
  skip
  have hyes:rdT s=some (.un (hd0 s) u,r):=by rw [hun,hq]
  have e1:zj5 s.tail=some u:=by rw [zj5,hq]; rfl
  obtain ⟨cu,hcu2⟩:=zlp u
  rw [e1]
  simp only[eO,hcu2]
  obtain rfl:=hr2 u r hq
  simp(disch:=omega)only[↓RU,RV,RH,↓reduceIte,qE,reduceCtorEq,if_pos,w64,↓RS,RG,qA,qM,qL,ty8,zj3,zj2,qO,Bool.not_true,Bool.not_false]
  apply hK;clear hK K
  refine W.cond rfl (fun h3=>?_) (fun h3=>?_)
  ·try simp only[RL]at h3
   refine W.r fun K hK=>?_
   simp(disch:=omega)only[↓RU,RV,RH,↓reduceIte,qE,reduceCtorEq,if_pos,↓RS,RG,qA,qM,qL,ty2,ty8,z9s,z9u,za0,z2i,z25,zkc,zrt,z2g,yaq]
   apply hK;clear hK K
   refine W.ret ?_
   refine XBlock.ret ?_
   refine XThen.ret ?_
   refine Br rfl ?_
   refine ⟨3,JF.mk (val:=eT (.un (hd0 s) u)) ?_ ?_ ?_ ?_⟩
   ·simp [Env.put,Env.of,zaj,Store.take,zfr,zfy,zcy,zc6,zh8,zea,Store.cellsOf,eB,eT,hcu2]
   ·rw [zj5,hyes]; rfl
   ·omega
   intro u r h; rw [hyes]at h; cases h; rfl
  try simp only[RL]at h3
  exact absurd h3 (by simp)
 try simp only[RL]at h2
 have hcu:¬ (hd0 s=62∨hd0 s=94):=fun e=>by rw [hb.2 e]at h2; cases h2
 refine W.r fun K hK=>?_
 simp(disch:=omega)only[↓RU,RV,RH,↓reduceIte,qE,reduceCtorEq,if_pos,w64,↓RS,RG,qA,qM,qL,za0]
 apply hK;clear hK K
 refine W.cond rfl (fun h4=>?_) (fun h4=>?_)
 ·try simp only[RL]at h4
  have hc:hd0 s=40:=u8i (k:=40) (by omega) (by decide)
  have hl:=z22 (s:=s) (by rw [hc]; decide)
  have ht1:=zic s
  have hbin:=zy9 s
  rw [if_neg hc0,if_neg hcu,if_pos hc]at hbin
  refine W.r fun K hK=>?_
  simp(disch:=omega)only[↓RU,RV,RH,↓reduceIte,qE,reduceCtorEq,if_pos,qN,↓RS,RG,qA,qM,qL]
  refine zae.ev (ih s.tail (by omega) t1) ?_
  rintro _ _ ⟨rfl,s2,t2,rfl,hs2,hr2⟩
  simp(disch:=omega)only[↓RU,RV,RH,↓reduceIte,qE,reduceCtorEq,if_pos,qN,↓RS,RG,qA,qM,qL]
  apply hK;clear hK K
  refine W.r fun K hK=>?_
  simp(disch:=omega)only[↓RU,RV,RH,↓reduceIte,qE,reduceCtorEq,if_pos,qN,↓RS,RG,qA,qM,qL]
  refine zae.ev (zl7 s2 (by omega)) ?_
  rintro _ _ ⟨rfl,t3,rfl⟩
  simp(disch:=omega)only[↓RU,RV,RH,↓reduceIte,qE,reduceCtorEq,if_pos,qN,↓RS,RG,qA,qM,qL]
  apply hK;clear hK K
  refine W.r fun K hK=>?_
  have ht2:=zic s2
  simp(disch:=omega)only[↓RU,RV,RH,↓reduceIte,qE,reduceCtorEq,if_pos,qN,↓RS,RG,qA,qM,qL]
  refine zae.ev (ih s2.tail (by omega) t3) ?_
  rintro _ _ ⟨rfl,s4,t4,rfl,hs4,hr4⟩
  simp(disch:=omega)only[↓RU,RV,RH,↓reduceIte,qE,reduceCtorEq,if_pos,qN,↓RS,RG,qA,qM,qL]
  apply hK;clear hK K
  refine W.r fun K hK=>?_
  rcases z11 hbin hr2 hr4 with ⟨e1,hno⟩ | ⟨a,e1,e2,hno⟩ | ⟨a,b2,e1,e2,⟨n1,n2,hno⟩ | ⟨m1 | m1,k1,hyes⟩ | ⟨m1 | m1,k1,hno⟩⟩
  ·skip
   rw [e1,zwi]
   simp(disch:=omega)only[↓RU,RV,RH,↓reduceIte,qE,reduceCtorEq,if_pos,w64,qN,↓RS,RG,qA,qM,qL,ty8,za0,zj3,zj2,qO,Bool.not_true,Bool.not_false]
   apply hK;clear hK K
   refine W.cond rfl (fun h5=>?_) (fun h5=>?_)
   ·try simp only[RL]at h5
    exact absurd h5 (by simp)
   try simp only[RL]at h5
   refine W.skip ?_
   refine XbN ?_
   refine xn ?_
   refine W.r fun K hK=>?_
   simp(disch:=omega)only[↓RU,RV,RH,↓reduceIte,qE,reduceCtorEq,if_pos,↓RS,RG,qA,qM,qL]
   apply hK;clear hK K
   refine W.ret ?_
   refine Br rfl ?_
   refine ⟨1,JF.mk (val := .nilp) ?_ ?_ ?_ ?_⟩
   ·simp [Env.put,Env.of,zaj,Store.take,zfr,zfy,zcy,zc6,zh8,zea,Store.cellsOf,eB,eT,zg8]
   ·rw [zj5,hno]; rfl
   ·omega
   intro u r h; rw [hno]at h; cases h
  ·skip
   rw [e1,e2]
   obtain ⟨ca,hca⟩:=zlp a
   simp only[zwi,zji,hca]
   simp(disch:=omega)only[↓RU,RV,RH,↓reduceIte,qE,reduceCtorEq,if_pos,w64,qN,↓RS,RG,qA,qM,qL,ty8,za0,zj3,zj2,qO,Bool.not_true,Bool.not_false]
   apply hK;clear hK K
   refine W.cond rfl (fun h5=>?_) (fun h5=>?_)
   ·try simp only[RL]at h5
    exact absurd h5 (by simp)
   try simp only[RL]at h5
   refine W.skip ?_
   refine XbN ?_
   refine xn ?_
   refine W.r fun K hK=>?_
   simp(disch:=omega)only[↓RU,RV,RH,↓reduceIte,qE,reduceCtorEq,if_pos,↓RS,RG,qA,qM,qL]
   apply hK;clear hK K
   refine W.ret ?_
   refine Br rfl ?_
   refine ⟨1,JF.mk (val := .nilp) ?_ ?_ ?_ ?_⟩
   ·simp [Env.put,Env.of,zaj,Store.take,zfr,zfy,zcy,zc6,zh8,zea,Store.cellsOf,eB,eT,zg8]
   ·rw [zj5,hno]; rfl
   ·omega
   intro u r h; rw [hno]at h; cases h
  ·skip
   have ht4:=zic s4
   rw [e1,e2]
   obtain ⟨ca,hca⟩:=zlp a
   obtain ⟨cb,hcb⟩:=zlp b2
   simp only[zji,hca,hcb]
   have d1:(((hd0 s2).toNat:Int) == 124)=false:=by rw [beq_eq_false_iff_ne]; exact zef (k:=124) (by assumption) (by decide)
   have d2:(((hd0 s2).toNat:Int) == 45)=false:=by rw [beq_eq_false_iff_ne]; exact zef (k:=45) (by assumption) (by decide)
   simp(disch:=omega)only[↓RU,RV,RH,↓reduceIte,qE,reduceCtorEq,if_pos,w64,qN,↓RS,RG,qA,qM,qL,ty8,za0,zj3,zj2,qO,Bool.not_true,Bool.not_false,d1,d2]
   apply hK;clear hK K
   refine W.cond rfl (fun h5=>?_) (fun h5=>?_)
   ·try simp only[RL]at h5
    exact absurd h5 (by simp)
   try simp only[RL]at h5
   refine W.skip ?_
   refine XbN ?_
   refine xn ?_
   refine W.r fun K hK=>?_
   simp(disch:=omega)only[↓RU,RV,RH,↓reduceIte,qE,reduceCtorEq,if_pos,↓RS,RG,qA,qM,qL]
   apply hK;clear hK K
   refine W.ret ?_
   refine Br rfl ?_
   refine ⟨1,JF.mk (val := .nilp) ?_ ?_ ?_ ?_⟩
   ·simp [Env.put,Env.of,zaj,Store.take,zfr,zfy,zcy,zc6,zh8,zea,Store.cellsOf,eB,eT,zg8]
   ·rw [zj5,hno]; rfl
   ·omega
   intro u r h; rw [hno]at h; cases h
  ·skip
   have ht4:=zic s4
   rw [e1,e2]
   obtain ⟨ca,hca⟩:=zlp a
   obtain ⟨cb,hcb⟩:=zlp b2
   simp only[zji,hca,hcb]
   have d1:(((hd0 s2).toNat:Int) == 124)=true:=by rw [m1]; rfl
   have d3:(((hd0 s4).toNat:Int) == 41)=true:=by rw [k1]; rfl
   simp(disch:=omega)only[↓RU,RV,RH,↓reduceIte,qE,reduceCtorEq,if_pos,w64,qN,↓RS,RG,qA,qM,qL,ty8,za0,zj3,zj2,qO,Bool.not_true,Bool.not_false,d1,d3]
   refine zae.ev (zl7 s4 (by omega)) ?_
   rintro _ _ ⟨rfl,t5,rfl⟩
   simp(disch:=omega)only[↓RU,RV,RH,↓reduceIte,qE,reduceCtorEq,if_pos,w64,qN,↓RS,RG,qA,qM,qL,ty8,za0,zj3,zj2,qO,Bool.not_true,Bool.not_false,d1,d3]
   apply hK;clear hK K
   refine W.cond rfl (fun h5=>?_) (fun h5=>?_)
   ·try simp only[RL]at h5
    refine W.r fun K hK=>?_
    simp(disch:=omega)only[↓RU,RV,RH,↓reduceIte,qE,reduceCtorEq,if_pos,↓RS,RG,qA,qM,qL,ty2,ty8,z9s,z9u,za0,z2i,z25,zkc,zrt,z2g,yaq]
    apply hK;clear hK K
    refine W.ret ?_
    refine XBlock.ret ?_
    refine XThen.ret ?_
    refine Br rfl ?_
    refine ⟨4,JF.mk (val:=eT (.bin (hd0 s2) a b2)) ?_ ?_ ?_ ?_⟩
    ·simp [Env.put,Env.of,zaj,Store.take,zfr,zfy,zcy,zc6,zh8,zea,Store.cellsOf,eB,eT,hca,hcb]
    ·rw [zj5,hyes]; rfl
    ·omega
    intro u r h; rw [hyes]at h; cases h; rfl
   try simp only[RL]at h5
   exact absurd h5 (by simp)
  ·skip
   have ht4:=zic s4
   rw [e1,e2]
   obtain ⟨ca,hca⟩:=zlp a
   obtain ⟨cb,hcb⟩:=zlp b2
   simp only[zji,hca,hcb]
   have m2:hd0 s2≠UInt8.ofNat 124:=by rw [m1]; decide
   have d1:(((hd0 s2).toNat:Int) == 124)=false:=by rw [beq_eq_false_iff_ne]; exact zef (k:=124) (by assumption) (by decide)
   have d2:(((hd0 s2).toNat:Int) == 45)=true:=by rw [m1]; rfl
   have d3:(((hd0 s4).toNat:Int) == 41)=true:=by rw [k1]; rfl
   simp(disch:=omega)only[↓RU,RV,RH,↓reduceIte,qE,reduceCtorEq,if_pos,w64,qN,↓RS,RG,qA,qM,qL,ty8,za0,zj3,zj2,qO,Bool.not_true,Bool.not_false,d1,d2,d3]
   refine zae.ev (zl7 s4 (by omega)) ?_
   rintro _ _ ⟨rfl,t5,rfl⟩
   simp(disch:=omega)only[↓RU,RV,RH,↓reduceIte,qE,reduceCtorEq,if_pos,w64,qN,↓RS,RG,qA,qM,qL,ty8,za0,zj3,zj2,qO,Bool.not_true,Bool.not_false,d1,d2,d3]
   apply hK;clear hK K
   refine W.cond rfl (fun h5=>?_) (fun h5=>?_)
   ·try simp only[RL]at h5
    refine W.r fun K hK=>?_
    simp(disch:=omega)only[↓RU,RV,RH,↓reduceIte,qE,reduceCtorEq,if_pos,↓RS,RG,qA,qM,qL,ty2,ty8,z9s,z9u,za0,z2i,z25,zkc,zrt,z2g,yaq]
    apply hK;clear hK K
    refine W.ret ?_
    refine XBlock.ret ?_
    refine XThen.ret ?_
    refine Br rfl ?_
    refine ⟨4,JF.mk (val:=eT (.bin (hd0 s2) a b2)) ?_ ?_ ?_ ?_⟩
    ·simp [Env.put,Env.of,zaj,Store.take,zfr,zfy,zcy,zc6,zh8,zea,Store.cellsOf,eB,eT,hca,hcb]
    ·rw [zj5,hyes]; rfl
    ·omega
    intro u r h; rw [hyes]at h; cases h; rfl
   try simp only[RL]at h5
   exact absurd h5 (by simp)
  ·skip
   have ht4:=zic s4
   rw [e1,e2]
   obtain ⟨ca,hca⟩:=zlp a
   obtain ⟨cb,hcb⟩:=zlp b2
   simp only[zji,hca,hcb]
   have d1:(((hd0 s2).toNat:Int) == 124)=true:=by rw [m1]; rfl
   have d3:(((hd0 s4).toNat:Int) == 41)=false:=by rw [beq_eq_false_iff_ne]; exact zef (k:=41) (by assumption) (by decide)
   simp(disch:=omega)only[↓RU,RV,RH,↓reduceIte,qE,reduceCtorEq,if_pos,w64,qN,↓RS,RG,qA,qM,qL,ty8,za0,zj3,zj2,qO,Bool.not_true,Bool.not_false,d1,d3]
   refine zae.ev (zl7 s4 (by omega)) ?_
   rintro _ _ ⟨rfl,t5,rfl⟩
   simp(disch:=omega)only[↓RU,RV,RH,↓reduceIte,qE,reduceCtorEq,if_pos,w64,qN,↓RS,RG,qA,qM,qL,ty8,za0,zj3,zj2,qO,Bool.not_true,Bool.not_false,d1,d3]
   apply hK;clear hK K
   refine W.cond rfl (fun h5=>?_) (fun h5=>?_)
   ·try simp only[RL]at h5
    exact absurd h5 (by simp)
   try simp only[RL]at h5
   refine W.skip ?_
   refine XbN ?_
   refine xn ?_
   refine W.r fun K hK=>?_
   simp(disch:=omega)only[↓RU,RV,RH,↓reduceIte,qE,reduceCtorEq,if_pos,↓RS,RG,qA,qM,qL]
   apply hK;clear hK K
   refine W.ret ?_
   refine Br rfl ?_
   refine ⟨1,JF.mk (val := .nilp) ?_ ?_ ?_ ?_⟩
   ·simp [Env.put,Env.of,zaj,Store.take,zfr,zfy,zcy,zc6,zh8,zea,Store.cellsOf,eB,eT,zg8]
   ·rw [zj5,hno]; rfl
   ·omega
   intro u r h; rw [hno]at h; cases h
  skip
  have ht4:=zic s4
  rw [e1,e2]
  obtain ⟨ca,hca⟩:=zlp a
  obtain ⟨cb,hcb⟩:=zlp b2
  simp only[zji,hca,hcb]
  have m2:hd0 s2≠UInt8.ofNat 124:=by rw [m1]; decide
  have d1:(((hd0 s2).toNat:Int) == 124)=false:=by rw [beq_eq_false_iff_ne]; exact zef (k:=124) (by assumption) (by decide)
  have d2:(((hd0 s2).toNat:Int) == 45)=true:=by rw [m1]; rfl
  have d3:(((hd0 s4).toNat:Int) == 41)=false:=by rw [beq_eq_false_iff_ne]; exact zef (k:=41) (by assumption) (by decide)
  simp(disch:=omega)only[↓RU,RV,RH,↓reduceIte,qE,reduceCtorEq,if_pos,w64,qN,↓RS,RG,qA,qM,qL,ty8,za0,zj3,zj2,qO,Bool.not_true,Bool.not_false,d1,d2,d3]
  refine zae.ev (zl7 s4 (by omega)) ?_
  rintro _ _ ⟨rfl,t5,rfl⟩
  simp(disch:=omega)only[↓RU,RV,RH,↓reduceIte,qE,reduceCtorEq,if_pos,w64,qN,↓RS,RG,qA,qM,qL,ty8,za0,zj3,zj2,qO,Bool.not_true,Bool.not_false,d1,d2,d3]
  apply hK;clear hK K
  refine W.cond rfl (fun h5=>?_) (fun h5=>?_)
  ·try simp only[RL]at h5
   exact absurd h5 (by simp)
  try simp only[RL]at h5
  refine W.skip ?_
  refine XbN ?_
  refine xn ?_
  refine W.r fun K hK=>?_
  simp(disch:=omega)only[↓RU,RV,RH,↓reduceIte,qE,reduceCtorEq,if_pos,↓RS,RG,qA,qM,qL]
  apply hK;clear hK K
  refine W.ret ?_
  refine Br rfl ?_
  refine ⟨1,JF.mk (val := .nilp) ?_ ?_ ?_ ?_⟩
  ·simp [Env.put,Env.of,zaj,Store.take,zfr,zfy,zcy,zc6,zh8,zea,Store.cellsOf,eB,eT,zg8]
  ·rw [zj5,hno]; rfl
  ·omega
  intro u r h; rw [hno]at h; cases h
 try simp only[RL]at h4
 have hno:rdT s=none:=by rw [zy9,if_neg hc0,if_neg hcu,if_neg fun e=>h4 (by rw [e]; rfl)]
 have ht1:=zic s
 refine W.skip ?_
 refine XbN ?_
 refine xn ?_
 refine W.r fun K hK=>?_
 simp(disch:=omega)only[↓RU,RV,RH,↓reduceIte,qE,reduceCtorEq,if_pos,↓RS,RG,qA,qM,qL]
 apply hK;clear hK K
 refine W.ret ?_
 refine Br rfl ?_
 refine ⟨1,JF.mk (val := .nilp) ?_ ?_ ?_ ?_⟩
 ·simp [Env.put,Env.of,zaj,Store.take,zfr,zfy,zcy,zc6,zh8,zea,Store.cellsOf,eB,eT,zg8]
 ·rw [zj5,hno]; rfl
 ·omega
 intro u r h; rw [hno]at h; cases h
theorem ybt {ver:Nat}:∀ (n:Nat) (s:Txt),s.length≤n→s.length≤1048576→∀ t,Ev Tryz.prog 55 [.ref 0 ver 0] ⟨[.arr ver 97 1 [.str s]],t⟩ (JT s ver):=by
 intro n
 induction n using Nat.strongRecOn with
 | _ n ih =>
  intro s hn hs t
  exact (z79 s hs (fun s2 h2 t=>ih s2.length (by omega) s2 (qR _) (by omega) t) t).fz 1 fun v S1 h=>h
theorem z89 {s:Txt} (h1:s.length≤60) (h2:s.count 111≤7):ofT s=match rdT s with | some (t,[])=>some t | _=>none:=by
 unfold ofT
 rw [if_neg (by omega)]
 rfl
theorem zsd {s:Txt} (h:60<s.length∨7<s.count 111):ofT s=none:=by
 unfold ofT
 rw [if_pos h]
theorem zzc (t:Tm) {S:Store}:reify S true 10 (eT t)=some (eT t):=by cases t <;> rfl
theorem z5o (s:Txt) (hs:s.length≤1048576):PC Tryz.prog 24 [.str s] (eO (ofT s)) false:=by
 refine PC.of ⟨Tryz.func24,by kernel_rfl,rfl,by kernel_rfl⟩ zav mixed (by show 1≤Tryz.f24.ntmps; decide) ?_
 refine W.r fun K hK=>?_
 simp(disch:=omega)only[↓RU,RV,RH,↓reduceIte,qE,reduceCtorEq,if_pos,↓RS,RG,qA,qM,qL]
 apply hK;clear hK K
 refine W.seq ?_
 refine W.r fun K hK=>?_
 rcases (show 60<s.length∨(s.length≤60∧7<s.count 111)∨(s.length≤60∧s.count 111≤7) by omega) with q1 | ⟨q1,q2⟩ | ⟨q1,q2⟩
 ·skip
  have d1:decide ((s.length:Int)>60)=true:=decide_eq_true (by omega)
  simp(disch:=omega)only[↓RU,RV,RH,↓reduceIte,qE,reduceCtorEq,if_pos,w64,qN,↓RS,RG,qA,qM,qL,zaa,zab,d1]
  apply hK;clear hK K
  refine W.cond rfl (fun h0=>?_) (fun h0=>?_)
  ·try simp only[RL]at h0
   refine W.r fun K hK=>?_
   simp(disch:=omega)only[↓RU,RV,RH,↓reduceIte,qE,reduceCtorEq,if_pos,↓RS,RG,qA,qM,qL]
   apply hK;clear hK K
   refine W.ret ?_
   refine XThen.ret ?_
   refine Br rfl ?_
   rw [zsd (.inl q1)]
   rfl
  try simp only[RL]at h0
  exact absurd h0 (by simp)
 ·skip
  have d1:decide ((s.length:Int)>60)=false:=decide_eq_false (by omega)
  have d2:decide (((s.count 111:Nat):Int)>7)=true:=decide_eq_true (by omega)
  simp(disch:=omega)only[↓RU,RV,RH,↓reduceIte,qE,reduceCtorEq,if_pos,w64,qN,↓RS,RG,qA,qM,qL,zaa,zab,d1,d2]
  refine zae.pc (zxy s) rfl (.inl rfl) ?_
  simp(disch:=omega)only[↓RU,RV,RH,↓reduceIte,qE,reduceCtorEq,if_pos,w64,qN,↓RS,RG,qA,qM,qL,zaa,zab,d1,d2]
  apply hK;clear hK K
  refine W.cond rfl (fun h0=>?_) (fun h0=>?_)
  ·try simp only[RL]at h0
   refine W.r fun K hK=>?_
   simp(disch:=omega)only[↓RU,RV,RH,↓reduceIte,qE,reduceCtorEq,if_pos,↓RS,RG,qA,qM,qL]
   apply hK;clear hK K
   refine W.ret ?_
   refine XThen.ret ?_
   refine Br rfl ?_
   rw [zsd (.inr q2)]
   rfl
  try simp only[RL]at h0
  exact absurd h0 (by simp)
 skip
 have d1:decide ((s.length:Int)>60)=false:=decide_eq_false (by omega)
 have d2:decide (((s.count 111:Nat):Int)>7)=false:=decide_eq_false (by omega)
 simp(disch:=omega)only[↓RU,RV,RH,↓reduceIte,qE,reduceCtorEq,if_pos,w64,qN,↓RS,RG,qA,qM,qL,zaa,zab,d1,d2]
 refine zae.pc (zxy s) rfl (.inl rfl) ?_
 simp(disch:=omega)only[↓RU,RV,RH,↓reduceIte,qE,reduceCtorEq,if_pos,w64,qN,↓RS,RG,qA,qM,qL,zaa,zab,d1,d2]
 apply hK;clear hK K
 refine W.cond rfl (fun h0=>?_) (fun h0=>?_)
 ·try simp only[RL]at h0
  exact absurd h0 (by simp)
 try simp only[RL]at h0
 refine W.skip ?_
 refine xn ?_
 refine W.r fun K hK=>?_
 simp(disch:=omega)only[↓RU,RV,RH,↓reduceIte,qE,reduceCtorEq,if_pos,↓RS,RG,qA,qM,qL,ybw,zab,ybx]
 apply hK;clear hK K
 refine W.r fun K hK=>?_
 simp(disch:=omega)only[↓RU,RV,RH,↓reduceIte,qE,reduceCtorEq,if_pos,qN,↓RS,RG,qA,qM,qL]
 refine zae.ev (ybt s.length s (qR _) hs _) ?_
 rintro _ _ ⟨rfl,s2,t2,rfl,hs2,hr2⟩
 simp(disch:=omega)only[↓RU,RV,RH,↓reduceIte,qE,reduceCtorEq,if_pos,qN,↓RS,RG,qA,qM,qL]
 apply hK;clear hK K
 refine W.seq ?_
 refine W.r fun K hK=>?_
 rcases s2 with _ | ⟨c,s2⟩
 ·skip
  simp(disch:=omega)only[↓RU,RV,RH,↓reduceIte,qE,reduceCtorEq,if_pos,w64,↓RS,RG,qA,qM,qL,ybw,zab,ybx]
  apply hK;clear hK K
  refine W.cond rfl (fun h1=>?_) (fun h1=>?_)
  ·try simp only[RL]at h1
   exact absurd h1 (by simp)
  try simp only[RL]at h1
  refine W.skip ?_
  refine xn ?_
  refine W.r fun K hK=>?_
  simp(disch:=omega)only[↓RU,RV,RH,↓reduceIte,qE,reduceCtorEq,if_pos,↓RS,RG,qA,qM,qL]
  apply hK;clear hK K
  refine W.ret ?_
  refine Br rfl ?_
  have e:eO (ofT s)=eO (zj5 s):=by
   rw [z89 q1 q2,zj5]
   cases h:rdT s with
   | none=>rfl
   | some q=>obtain ⟨t,r⟩:=q; obtain rfl:=hr2 t r h; rfl
  rw [e]
  cases h:zj5 s with
  | none=>rfl
  | some q=>exact zzc q
 skip
 simp(disch:=omega)only[↓RU,RV,RH,↓reduceIte,qE,reduceCtorEq,if_pos,w64,↓RS,RG,qA,qM,qL,ybw,zab,ybx]
 apply hK;clear hK K
 refine W.cond rfl (fun h1=>?_) (fun h1=>?_)
 ·try simp only[RL]at h1
  refine W.r fun K hK=>?_
  simp(disch:=omega)only[↓RU,RV,RH,↓reduceIte,qE,reduceCtorEq,if_pos,↓RS,RG,qA,qM,qL]
  apply hK;clear hK K
  refine W.ret ?_
  refine XThen.ret ?_
  refine Br rfl ?_
  have e:ofT s=none:=by
   rw [z89 q1 q2]
   cases h:rdT s with
   | none=>rfl
   | some q=>obtain ⟨t,r⟩:=q; obtain rfl:=hr2 t r h; rfl
  rw [e]
  rfl
 try simp only[RL]at h1
 exact absurd h1 (by simp)
section
def zi0 (p:List Txt):List Txt × Bool:=if zcr p && zbx (names p) then (names p,true) else ([],false)
section
variable {p:List Txt} {room:Int} {s:Txt} {t l h w k:Nat}
end
end
section
def ch (p:List Txt) (i j:Nat):UInt8:=(p[i]?.getD [])[j]?.getD 0
structure Shp2 (X:List Txt) (H W:Nat):Prop where
 h:X.length=H
 w:∀ r∈X,r.length=W
theorem Shp2.row {X:List Txt} {H W:Nat} (h:Shp2 X H W) {i:Nat} (hi:i<H):∃ r,X[i]?=some r∧r.length=W∧∀ j,j<W→r[j]?=some (ch X i j):=by
 obtain ⟨r,hr,hm⟩:=zag (show i<X.length by rw [h.h]; exact hi)
 refine ⟨r,hr,h.w r hm,fun j hj=>?_⟩
 obtain ⟨c,hc,-⟩:=zag (show j<r.length by rw [h.w r hm]; exact hj)
 rw [hc,ch,hr,Option.getD_some,hc,Option.getD_some]
theorem Shp2.hd {X:List Txt} {H W:Nat} (h:Shp2 X H W) (h1:1≤H):(zad X).length=W:=by
 obtain ⟨r,hr,hl,-⟩:=h.row (show 0<H by omega)
 rw [zd7 hr,hl]
theorem zgq {X:List Txt} {H W i j:Nat} (h:Shp2 X H W) (hi:i<H) (hj:j<W):gz (za5 X) i j=((ch X i j).toNat:Int):=by
 obtain ⟨r,hr,hl,hx⟩:=h.row hi
 have e1:(za5 X)[i]?=some (zp3 r):=by simp [za5,hr]
 have e2:(zp3 r)[j]?=some ((ch X i j).toNat:Int):=by simp [zp3,hx j hj]
 unfold gz
 rw [e1,Option.getD_some,e2,Option.getD_some]
theorem z63 {p:List Txt} (h:zcr p=true):Shp2 p p.length (zad p).length:=⟨rfl,zkl h⟩
theorem zzq {X:List Txt} {H W:Nat} (h:Shp2 X H W) (h1:1≤H) (h2:H≤6) (h3:1≤W) (h4:W≤6) (hl:∀ i j,i<H→j<W→97≤(ch X i j).toNat∧(ch X i j).toNat≤122):zcr X=true:=by
 unfold zcr
 rw [h.hd h1,h.h]
 simp only[qB,decide_eq_true_eq,List.all_eq_true]
 refine ⟨⟨fun r hr=>?_,h1⟩,h2⟩
 obtain ⟨i,hi⟩:=List.getElem?_of_mem hr
 have hil:=zbc hi
 rw [h.h]at hil
 obtain ⟨r',hr',hrl,hx⟩:=h.row hil
 rw [hi]at hr'
 cases hr'
 simp only[zre,qB,decide_eq_true_eq,List.all_eq_true]
 refine ⟨⟨⟨hrl,by omega⟩,by omega⟩,fun c hc=>?_⟩
 obtain ⟨j,hj⟩:=List.getElem?_of_mem hc
 have hjl:=zbc hj
 rw [hrl]at hjl
 have e:=hx j hjl
 rw [hj]at e
 cases e
 have:=hl i j hil hjl
 simp only[zcj,qB,decide_eq_true_eq]
 exact this
theorem zt5 {X:List Txt} {H W:Nat} (h:Shp2 X H W) (h1:1≤H) (hg:zcr X=true):H≤6∧W≤6:=by
 obtain ⟨r,hr,hl,-⟩:=h.row (show 0<H by omega)
 unfold zcr at hg
 simp only[qB,decide_eq_true_eq,List.all_eq_true]at hg
 have:=hg.1.1 r (List.mem_of_getElem? hr)
 simp only[zre,qB,decide_eq_true_eq,h.h]at this hg
 rw [hl]at this
 exact ⟨hg.2,this.1.2⟩
theorem ya2 {g1 g2:List (List Int)} {H W:Nat} (h1:GW g1 H W) (h2:GW g2 H W) (hp:Pat g1 g2 H W):nm g1=nm g2:=by
 unfold nm
 rw [h1.zG.1,h2.zG.1,zmc hp H (qR _)]
theorem zzb {X:List Txt} (h:zcr X=true):GW (za5 X) X.length (zad X).length:=by
 rw [zr1,qB,zjt,zco,zf5]at h
 exact h.2
theorem zyn {X:List Txt} (h:zcr X=true):names X=nm (za5 X):=zim h
theorem zkq {X:List Txt} {g:List (List Int)} {H W:Nat} (h:Shp2 X H W) (hg:GW g H W) (hl:∀ i j,i<H→j<W→97≤(ch X i j).toNat∧(ch X i j).toNat≤122)
  (hp:∀ i j i' j',i<H→j<W→i'<H→j'<W→(ch X i j=ch X i' j'↔gz g i j=gz g i' j')):zcr X=true∧names X=nm g:=by
 have hG:=zzq h hg.2.2.1 hg.2.2.2.1 hg.2.2.2.2.1 hg.2.2.2.2.2 hl
 refine ⟨hG,?_⟩
 have hr:=zzb hG
 rw [h.h,h.hd hg.2.2.1]at hr
 rw [zyn hG]
 refine ya2 hr hg fun i j i' j' hi hj hi' hj'=>?_
 rw [← hp i j i' j' hi hj hi' hj',zgq h hi hj,zgq h hi' hj']
 constructor
 ·intro e
  apply UInt8.toNat_inj.1
  omega
 intro e; rw [e]
theorem zh5 {X:List Txt} {H W:Nat} (h:Shp2 X H W):Shp2 (names X) H W:=by
 have e:names X=zek (zdl (za5 X) W X.length):=by
  have:=(zsb h.w X.length (qR _)).2
  rw [List.take_length]at this
  exact this
 rw [e,h.h]
 refine ⟨by rw [zpq,zbz],fun r hr=>?_⟩
 obtain ⟨z,hz,rfl⟩:=List.mem_map.1 hr
 obtain ⟨k,hk⟩:=List.getElem?_of_mem hz
 have:=zbc hk
 rw [zbz]at this
 rw [zhh this]at hk
 cases hk
 simp [znw,zdt]
theorem zec {X:List Txt} {H W:Nat} (h:Shp2 X H W) (h1:1≤H):Shp2 (zb2 X) W H:=by
 refine ⟨by rw [z5v,h.hd h1],fun r hr=>?_⟩
 simp only[zb2,zi4,List.mem_map,List.mem_range]at hr
 obtain ⟨k,-,rfl⟩:=hr
 rw [zn7 (qR _),h.h]
theorem zli {X:List Txt} {H W i j:Nat} (h:Shp2 X H W) (h1:1≤H) (hi:i<W) (hj:j<H):ch (zb2 X) i j=ch X j i:=by
 obtain ⟨r,hr,hl,hx⟩:=h.row hj
 have e:(zb2 X)[i]?=some (zm8 X i X.length):=z5u (by rw [h.hd h1]; exact hi)
 have e2:=z2a (k:=i) hr
 rw [ch,e,Option.getD_some,e2,Option.getD_some,List.getD_eq_getElem?_getD,hx i hi,Option.getD_some]
section
variable {p q:List Txt}
theorem zgo (hp:zak p=true) {i j:Nat} (hi:i<p.length) (hj:j<(zad p).length):gz (gP p) i j=((ch p i j).toNat:Int) - 97∧97≤(ch p i j).toNat∧(ch p i j).toNat≤105:=by
 have hN:=zbw (zbi hp)
 have e:=hN.cell hi hj
 have r:=hN.room hi hj
 have h9:=(zai hp).2.2.2.2.2.2.1
 have e2:zam p i j=((ch p i j).toNat:Int) - 97:=rfl
 rw [e2]at e r
 exact ⟨e,by omega,by omega⟩
theorem zb6 (hp:zak p=true):Shp2 p p.length (zad p).length:=z63 (zc0 (zbi hp))
theorem zzy {a b:UInt8}:a=b↔a.toNat=b.toNat:=UInt8.toNat_inj.symm
def zp6 (p:List Txt):List Txt:=(List.range (zad p).length).map fun k=>(List.range p.length).map fun i=>ch p (p.length - 1 - i) k
def zhp (p:List Txt):List Txt:=p.map List.reverse
theorem zs3 {i j:Nat} (hi:i<(zad p).length) (hj:j<p.length):ch (zp6 p) i j=ch p (p.length - 1 - j) i:=by
 unfold zp6
 conv=>lhs; unfold ch
 simp [hi,hj]
 rfl
theorem zvw:Shp2 (zp6 p) (zad p).length p.length:=by
 refine ⟨by simp [zp6],fun r hr=>?_⟩
 obtain ⟨k,-,rfl⟩:=List.mem_map.1 hr
 simp
theorem z8d (hp:zak p=true):names (zp6 p)=nm (zl8 p):=by
 have hm:=(zif hp).gw
 obtain ⟨q1,q2,q3,q4,-,-,q7,q8⟩:=zai hp
 refine (zkq zvw hm (fun i j hi hj=>?_) fun i j i' j' hi hj hi' hj'=>?_).2
 ·rw [zs3 hi hj]
  have:=zgo hp (i:=p.length - 1 - j) (j:=i) (by omega) hi
  omega
 rw [zs3 hi hj,zs3 hi' hj',zzy]
 unfold zl8
 rw [zi3 hi hj,zi3 hi' hj']
 have e1:=zgo hp (i:=p.length - 1 - j) (j:=i) (by omega) hi
 have e2:=zgo hp (i:=p.length - 1 - j') (j:=i') (by omega) hi'
 omega
theorem z2q (hp:zak p=true):Shp2 (zhp p) p.length (zad p).length:=by
 refine ⟨by simp [zhp],fun r hr=>?_⟩
 obtain ⟨x,hx,rfl⟩:=List.mem_map.1 hr
 rw [List.length_reverse,(zb6 hp).w x hx]
theorem zrx (hp:zak p=true) {i j:Nat} (hi:i<p.length) (hj:j<(zad p).length):ch (zhp p) i j=ch p i ((zad p).length - 1 - j):=by
 obtain ⟨r,hr,hl,hx⟩:=(zb6 hp).row hi
 have e:(zhp p)[i]?=some r.reverse:=by simp [zhp,hr]
 have e2:r.reverse[j]?=r[(zad p).length - 1 - j]?:=by rw [List.getElem?_reverse (by omega),hl]
 rw [ch,e,Option.getD_some,e2,hx _ (by omega),Option.getD_some]
theorem z6w (hp:zak p=true):names (zhp p)=nm (zrw p):=by
 have hm:=(zoi hp).gw
 obtain ⟨q1,q2,q3,q4,-,-,q7,q8⟩:=zai hp
 refine (zkq (z2q hp) hm (fun i j hi hj=>?_) fun i j i' j' hi hj hi' hj'=>?_).2
 ·rw [zrx hp hi hj]
  have:=zgo hp (i:=i) (j:=(zad p).length - 1 - j) hi (by omega)
  omega
 rw [zrx hp hi hj,zrx hp hi' hj',zzy]
 unfold zrw
 rw [zi3 hi hj,zi3 hi' hj']
 have e1:=zgo hp (i:=i) (j:=(zad p).length - 1 - j) hi (by omega)
 have e2:=zgo hp (i:=i') (j:=(zad p).length - 1 - j') hi' (by omega)
 omega
def zv3 (q:List Txt):List Txt:=q.map fun r=>r.map (· + 9)
def zi2 (p q:List Txt):List Txt:=(List.range (p.length+q.length - 1)).map fun i=>(p[min i (p.length - 1)]?.getD [])++((zv3 q)[i - (p.length - 1)]?.getD [])
theorem zrq {H1 W1 H2 W2:Nat} (hp:Shp2 p H1 W1) (hq:Shp2 q H2 W2) (h1:1≤H1) (h2:1≤H2) {i:Nat} (hi:i<H1+H2 - 1) :
  ∃ r r',p[min i (H1 - 1)]?=some r∧q[i - (H1 - 1)]?=some r'∧(zi2 p q)[i]?=some (r++r'.map (· + 9))∧r.length=W1∧r'.length=W2∧(∀ j,j<W1→r[j]?=some (ch p (min i (H1 - 1)) j))∧∀ j,j<W2→r'[j]?=some (ch q (i - (H1 - 1)) j):=by
 obtain ⟨r,hr,hl,hx⟩:=hp.row (show min i (H1 - 1)<H1 by omega)
 obtain ⟨r',hr',hl',hx'⟩:=hq.row (show i - (H1 - 1)<H2 by omega)
 refine ⟨r,r',hr,hr',?_,hl,hl',hx,hx'⟩
 unfold zi2 zv3
 rw [hp.h,hq.h]
 simp [hi,hr,hr']
theorem zg2 {H1 W1 H2 W2:Nat} (hp:Shp2 p H1 W1) (hq:Shp2 q H2 W2) (h1:1≤H1) (h2:1≤H2):Shp2 (zi2 p q) (H1+H2 - 1) (W1+W2):=by
 refine ⟨by simp [zi2,hp.h,hq.h],fun x hx=>?_⟩
 obtain ⟨i,hi⟩:=List.getElem?_of_mem hx
 have hl:=zbc hi
 have hl2:(zi2 p q).length=H1+H2 - 1:=by simp [zi2,hp.h,hq.h]
 obtain ⟨r,r',-,-,e,k1,k2,-⟩:=zrq hp hq h1 h2 (show i<H1+H2 - 1 by omega)
 rw [e]at hi
 cases hi
 simp [k1,k2]
theorem z10 {H1 W1 H2 W2:Nat} (hp:Shp2 p H1 W1) (hq:Shp2 q H2 W2) (h1:1≤H1) (h2:1≤H2) {i j:Nat} (hi:i<H1+H2 - 1) (hj:j<W1+W2) :
  ch (zi2 p q) i j=if j<W1 then ch p (min i (H1 - 1)) j else ch q (i - (H1 - 1)) (j - W1)+9:=by
 obtain ⟨r,r',-,-,e,k1,k2,k3,k4⟩:=zrq hp hq h1 h2 hi
 conv=>lhs; unfold ch
 rw [e,Option.getD_some]
 split
 ·rename_i k
  rw [List.getElem?_append_left (by omega),k3 j k,Option.getD_some]
 rename_i k
 rw [List.getElem?_append_right (by omega),k1,List.getElem?_map,k4 _ (by omega)]
 rfl
theorem add9 {c:UInt8} (h:c.toNat≤105):(c+9).toNat=c.toNat+9:=by
 rw [UInt8.toNat_add]
 show (c.toNat+9) % 256=_
 omega
theorem z99 (hp:zak p=true) (hq:zak q=true) (hH:p.length+q.length - 1≤6) (hW:(zad p).length+(zad q).length≤6) (h9:(rP p).length+(rP q).length≤9):names (zi2 p q)=nm (zv2 p q):=by
 have hm:=(znc hp hq hH hW h9).gw
 obtain ⟨a1,a2,a3,a4,-,-,a7,-⟩:=zai hp
 obtain ⟨b1,b2,b3,b4,-,-,b7,-⟩:=zai hq
 have hc:∀ i j,i<p.length+q.length - 1→j<(zad p).length+(zad q).length→(j<(zad p).length∧((ch (zi2 p q) i j).toNat:Int)=gz (zv2 p q) i j+97∧gz (zv2 p q) i j<(rP p).length∧97≤(ch (zi2 p q) i j).toNat∧(ch (zi2 p q) i j).toNat≤105) ∨
   (((ch (zi2 p q) i j).toNat:Int)=gz (zv2 p q) i j+106 - (rP p).length∧(rP p).length≤gz (zv2 p q) i j∧106≤(ch (zi2 p q) i j).toNat∧(ch (zi2 p q) i j).toNat≤114):=by
  intro i j hi hj
  rw [z10 (zb6 hp) (zb6 hq) a1 b1 hi hj]
  unfold zv2
  rw [zi3 hi hj]
  by_cases k:j<(zad p).length
  ·rw [if_pos k,if_pos k]
   have e:=zgo hp (i:=min i (p.length - 1)) (j:=j) (by omega) k
   have e2:=(zbw (zbi hp)).room (i:=min i (p.length - 1)) (j:=j) (by omega) k
   rw [← (zbw (zbi hp)).cell (by omega) k]at e2
   exact .inl ⟨k,by omega,e2.2,e.2⟩
  rw [if_neg k,if_neg k]
  have e:=zgo hq (i:=i - (p.length - 1)) (j:=j - (zad p).length) (by omega) (by omega)
  rw [add9 e.2.2]
  exact .inr (by omega)
 refine (zkq (zg2 (zb6 hp) (zb6 hq) a1 b1) hm (fun i j hi hj=>?_) fun i j i' j' hi hj hi' hj'=>?_).2
 ·have:=hc i j hi hj; omega
 have h1:=hc i j hi hj
 have h2:=hc i' j' hi' hj'
 rw [zzy]
 omega
theorem z96 (hp:zak p=true) (hq:zak q=true) (hH:p.length+q.length≤6) (hW:(zad p).length+(zad q).length - 1≤6) (h9:(rP p).length+(rP q).length≤9) :
  zcr (zb2 (names (zi2 (zb2 p) (zb2 q))))=true∧names (zb2 (names (zi2 (zb2 p) (zb2 q))))=nm (zpv p q):=by
 have hm:=(zj9 hp hq hH hW h9).gw
 obtain ⟨a1,a2,a3,a4,-,-,a7,-⟩:=zai hp
 obtain ⟨b1,b2,b3,b4,-,-,b7,-⟩:=zai hq
 have sp:=zec (zb6 hp) a1
 have sq:=zec (zb6 hq) b1
 have sb:=zg2 sp sq a3 b3
 generalize hY:zi2 (zb2 p) (zb2 q)=Y at sb ⊢
 have hc:∀ i j,i<p.length+q.length→j<(zad p).length+(zad q).length - 1→(((ch Y j i).toNat:Int)=gz (zpv p q) i j+97∧gz (zpv p q) i j<(rP p).length∧97≤(ch Y j i).toNat∧(ch Y j i).toNat≤105) ∨
   (((ch Y j i).toNat:Int)=gz (zpv p q) i j+106 - (rP p).length∧(rP p).length≤gz (zpv p q) i j∧106≤(ch Y j i).toNat∧(ch Y j i).toNat≤114):=by
  intro i j hi hj
  rw [← hY,z10 sp sq a3 b3 hj hi]
  unfold zpv
  rw [zi3 hi hj]
  by_cases k:i<p.length
  ·rw [if_pos k,if_pos k,zli (zb6 hp) a1 (by omega) k]
   have e:=zgo hp (i:=i) (j:=min j ((zad p).length - 1)) k (by omega)
   have e2:=(zbw (zbi hp)).room (i:=i) (j:=min j ((zad p).length - 1)) k (by omega)
   rw [← (zbw (zbi hp)).cell k (by omega)]at e2
   exact .inl ⟨by omega,e2.2,e.2⟩
  rw [if_neg k,if_neg k,zli (zb6 hq) b1 (by omega) (by omega)]
  have e:=zgo hq (i:=i - p.length) (j:=j - ((zad p).length - 1)) (by omega) (by omega)
  rw [add9 e.2.2]
  exact .inr (by omega)
 have hgY:zcr Y=true:=zzq sb (by omega) hW (by omega) hH fun i j hi hj=>by have:=hc j i hj hi; omega
 have sn:=zh5 sb
 have hN:=zyn hgY
 have hgr:=zzb hgY
 rw [sb.h,sb.hd (by omega)]at hgr
 have hle:(zal (za5 Y) (p.length+q.length) ((zad p).length+(zad q).length - 1)).2.length≤9:=by
  have hcells:Cells (fun i j=>(gz (za5 Y) i j).toNat) (za5 Y) ((zad p).length+(zad q).length - 1) (p.length+q.length):=⟨hgr,fun i j hi hj=>by rw [zgq sb hi hj]; omega⟩
  have hcells2:Cells (fun i j=>(gz (zpv p q) j i).toNat) (bgT (fun i j=>gz (zpv p q) j i) (p.length+q.length) ((zad p).length+(zad q).length - 1)) ((zad p).length+(zad q).length - 1) (p.length+q.length):=by
   refine zka (by omega) hW (by omega) hH fun i j hi hj=>?_
   have:=hc j i hj hi
   omega
  have e:=(zhf (g1:=za5 Y) (g2:=bgT (fun i j=>gz (zpv p q) j i) (p.length+q.length) ((zad p).length+(zad q).length - 1)) (W:=p.length+q.length) (H:=(zad p).length+(zad q).length - 1) (fun i j i' j' hi hj hi' hj'=>by
   rw [zi3 hi hj,zi3 hi' hj',zgq sb hi hj,zgq sb hi' hj']
   have h1:=hc j i hj hi
   have h2:=hc j' i' hj' hi'
   omega) _ (qR _)).2
  rw [e]
  refine Nat.le_trans (zvi hcells2 (n:=(rP p).length+(rP q).length) fun i j hi hj=>?_) h9
  have e3:=(zj9 hp hq hH hW h9)
  have e4:=zte hp hq j i hj hi
  have e5:gz (zpv p q) j i=((z6i p q j i:Nat):Int):=by
   obtain ⟨-,-,-,-,-,-,-,a8⟩:=zai hp
   obtain ⟨-,-,-,-,-,-,-,b8⟩:=zai hq
   unfold zpv
   rw [zi3 hj hi]
   simp only[z6i,tr,asd]
   split
   ·rename_i k; exact a8 _ _ k (by omega)
   rw [b8 _ _ (by omega) (by omega),Int.natCast_add]
  show (gz (zpv p q) j i).toNat<_
  omega
 have hNm:NmOk (za5 Y) ((zad p).length+(zad q).length - 1) (p.length+q.length):=⟨hgr,hle⟩
 have hpat:=hNm.pat
 rw [← hN]at hpat
 have hchN:∀ i j,i<(zad p).length+(zad q).length - 1→j<p.length+q.length→97≤(ch (names Y) i j).toNat∧(ch (names Y) i j).toNat≤105:=by
  intro i j hi hj
  have h1:=zgq sn hi hj
  have h2:=hNm.bound hi hj
  rw [hN]at h1
  unfold nm at h1
  rw [zl1 (zrn hgr) hi hj h2.1 (by omega),← show names Y=zek (zG (za5 Y)) from hN]at h1
  omega
 refine zkq (zec sn (by omega)) hm (fun i j hi hj=>?_) fun i j i' j' hi hj hi' hj'=>?_
 ·rw [zli sn (by omega) hi hj]
  have:=hchN j i hj hi
  omega
 rw [zli sn (by omega) hi hj,zli sn (by omega) hi' hj',zzy]
 have h1:=hpat j i j' i' hj hi hj' hi'
 rw [zgq sn hj hi,zgq sn hj' hi',zgq sb hj hi,zgq sb hj' hi']at h1
 have h2:=hc i j hi hj
 have h3:=hc i' j' hi' hj'
 omega
theorem z5e {m:UInt8} (hm:m=124∨m=45) (hp:zak p=true) (hq:zak q=true) (h9:(rP p).length+(rP q).length≤9) :
  (if m=124 then zi0 (names (zi2 p q)) else zi0 (zb2 (names (zi2 (zb2 p) (zb2 q)))))=match zjq m p q with | some t=>(t,true) | none=>([],false):=by
 obtain ⟨a1,a2,a3,a4,-,-,a7,-⟩:=zai hp
 obtain ⟨b1,b2,b3,b4,-,-,b7,-⟩:=zai hq
 have named_id:∀ {X:List Txt},zbx X=true→names X=X:=fun h=>by
  have:=zbw h
  rw [zim this.hg,this.ht]
 rcases hm with rfl | rfl
 ·rw [if_pos rfl]
  have sb:=zg2 (zb6 hp) (zb6 hq) a1 b1
  unfold zjq
  rw [if_pos rfl]
  by_cases k:p.length+q.length - 1≤6∧(zad p).length+(zad q).length≤6
  ·rw [if_pos k,z99 hp hq k.1 k.2 h9]
   have hpl:=(znc hp hq k.1 k.2 h9).plan
   unfold zi0
   rw [zc0 hpl,named_id hpl,hpl]; rfl
  rw [if_neg k]
  have:zcr (names (zi2 p q))=false:=by
   cases hg:zcr (names (zi2 p q)) with
   | false=>rfl
   | true=>exact absurd (zt5 (zh5 sb) (by omega) hg) k
  unfold zi0
  rw [this]; rfl
 rw [if_neg (by decide)]
 have sb:=zg2 (zec (zb6 hp) a1) (zec (zb6 hq) b1) a3 b3
 unfold zjq
 rw [if_neg (by decide)]
 by_cases k:p.length+q.length≤6∧(zad p).length+(zad q).length - 1≤6
 ·obtain ⟨k1,k2⟩:=z96 hp hq k.1 k.2 h9
  rw [if_pos k]
  have hpl:=(zj9 hp hq k.1 k.2 h9).plan
  unfold zi0
  rw [k1,k2,hpl]; rfl
 rw [if_neg k]
 have:zcr (zb2 (names (zi2 (zb2 p) (zb2 q))))=false:=by
  cases hg:zcr (zb2 (names (zi2 (zb2 p) (zb2 q)))) with
  | false=>rfl
  | true=>exact absurd (zt5 (zec (zh5 sb) (by omega)) (by omega) hg) k
 unfold zi0
 rw [this]; rfl
end
end
theorem z1x {g1 g2:List (List Int)} {H1 W1 H2 W2:Nat} (hg1:GW g1 H1 W1) (hg2:GW g2 H2 W2) (rs1 rs2:List Rect) (hl1:rs1.length≤1000) (hb2:∀ i j,i<H2→j<W2→0≤gz g2 i j∧gz g2 i j≤100) {r c:Nat} (hr:r<H1+H2 - 1) (hc:c<W1+W2):PC Tryz.prog 111 [.int .i64 r,.int .i64 c,.ip [zap g1 rs1] 0,.ip [zap g2 rs2] 0] (.int .i64 (if c<W1 then gz g1 (min r (H1 - 1)) c else (rs1.length:Int)+gz g2 (r - (H1 - 1)) (c - W1))) true:=by
 obtain ⟨q1,q2,q3,q4,q5,q6⟩:=hg1
 have hg1:GW g1 H1 W1:=⟨q1,q2,q3,q4,q5,q6⟩
 obtain ⟨p1,p2,p3,p4,p5,p6⟩:=hg2
 have hg2:GW g2 H2 W2:=⟨p1,p2,p3,p4,p5,p6⟩
 obtain ⟨row0,hrow0,hrl0,-⟩:=hg1.at_ (i:=0) (j:=0) (by omega) (by omega)
 have hgl:=q1
 have hgl2:=p1
 refine PC.of ⟨Tryz.func111,by kernel_rfl,rfl,by kernel_rfl⟩ zav mixed (by show 4≤Tryz.f111.ntmps; decide) ?_
 refine W.r fun K hK=>?_
 simp(disch:=omega)only[↓RU,RV,RH,↓reduceIte,qE,reduceCtorEq,if_pos,↓RS,RG,qA,qM,qL]
 apply hK;clear hK K
 refine W.seq ?_
 refine W.r fun K hK=>?_
 simp(disch:=omega)only[↓RU,RV,RH,↓reduceIte,qE,reduceCtorEq,if_pos,qN,w64,↓RS,RG,qA,qM,qL,ty7,zaa,hrl0]
 refine zae.pc (zeg hrow0 rs1) rfl (.inl rfl) ?_
 simp(disch:=omega)only[↓RU,RV,RH,↓reduceIte,qE,reduceCtorEq,if_pos,qN,w64,↓RS,RG,qA,qM,qL,ty7,zaa,hrl0]
 apply hK;clear hK K
 refine W.cond rfl (fun h0=>?_) (fun h0=>?_)
 ·try simp only[RL]at h0
  have hcw:c<W1:=by omega
  obtain ⟨row,hrow,hrl,hx⟩:=hg1.at_ (i:=min r (H1 - 1)) (j:=c) (by omega) hcw
  have hm:(min (r:Int) ((H1:Int) - 1)).toNat=min r (H1 - 1):=by omega
  refine W.seq_draw (by kernel_rfl) fun K hK=>?_
  simp(disch:=omega)only[↓RU,RV,RH,↓reduceIte,qE,reduceCtorEq,if_pos,qN,w64,zh2,↓RS,RG,qA,qM,qL,ty0,ty3,zaf,ty7,zd3,zb4,zas,zaa,zd4,zat,hgl,hm,hrow,hx]
  refine zae.pc (zdx g1 rs1) rfl (.inl rfl) ?_
  simp(disch:=omega)only[↓RU,RV,RH,↓reduceIte,qE,reduceCtorEq,if_pos,qN,w64,zh2,↓RS,RG,qA,qM,qL,ty0,ty3,zaf,ty7,zd3,zb4,zas,zaa,zd4,zat,hgl,hm,hrow,hx]
  apply hK;clear hK K
  refine W.ret ?_
  refine XThen.ret ?_
  refine Br rfl ?_
  rw [if_pos hcw]
  rfl
 try simp only[RL]at h0
 have hcw:¬ c<W1:=by omega
 obtain ⟨row,hrow,hrl,hx⟩:=hg2.at_ (i:=r - (H1 - 1)) (j:=c - W1) (by omega) (by omega)
 have hm:(max ((r:Int) - (H1:Int)+1) 0).toNat=r - (H1 - 1):=by omega
 have hcz:((c:Int) - (W1:Int)).toNat=c - W1:=by omega
 have hbb:=hb2 (r - (H1 - 1)) (c - W1) (by omega) (by omega)
 refine W.skip ?_
 refine xn ?_
 refine W.seq_draw (by kernel_rfl) fun K hK=>?_
 simp(disch:=omega)only[↓RU,RV,RH,↓reduceIte,qE,reduceCtorEq,if_pos,qN,w64,ze7,↓RS,RG,qA,qM,qL,ty0,ty3,zaf,ty7,zd3,zb4,zas,zaa,zd4,zat,hgl,hrl0,hm,hrow,hx,hcz]
 refine zae.pc (zdx g1 rs1) rfl (.inl rfl) ?_
 simp(disch:=omega)only[↓RU,RV,RH,↓reduceIte,qE,reduceCtorEq,if_pos,qN,w64,ze7,↓RS,RG,qA,qM,qL,ty0,ty3,zaf,ty7,zd3,zb4,zas,zaa,zd4,zat,hgl,hrl0,hm,hrow,hx,hcz]
 refine zae.pc (zeg hrow0 rs1) rfl (.inl rfl) ?_
 simp(disch:=omega)only[↓RU,RV,RH,↓reduceIte,qE,reduceCtorEq,if_pos,qN,w64,ze7,↓RS,RG,qA,qM,qL,ty0,ty3,zaf,ty7,zd3,zb4,zas,zaa,zd4,zat,hgl,hrl0,hm,hrow,hx,hcz]
 apply hK;clear hK K
 refine W.ret ?_
 refine Br rfl ?_
 rw [if_neg hcw]
 rfl
theorem z1z {g1 g2:List (List Int)} {H1 W1 H2 W2:Nat} (hg1:GW g1 H1 W1) (hg2:GW g2 H2 W2) (rs1 rs2:List Rect) (hl1:rs1.length≤1000) (hb2:∀ i j,i<H2→j<W2→0≤gz g2 i j∧gz g2 i j≤100) {r c:Nat} (hr:r<H1+H2) (hc:c<W1+W2 - 1):PC Tryz.prog 112 [.int .i64 r,.int .i64 c,.ip [zap g1 rs1] 0,.ip [zap g2 rs2] 0] (.int .i64 (if r<H1 then gz g1 r (min c (W1 - 1)) else (rs1.length:Int)+gz g2 (r - H1) (c - (W1 - 1)))) true:=by
 obtain ⟨q1,q2,q3,q4,q5,q6⟩:=hg1
 have hg1:GW g1 H1 W1:=⟨q1,q2,q3,q4,q5,q6⟩
 obtain ⟨p1,p2,p3,p4,p5,p6⟩:=hg2
 have hg2:GW g2 H2 W2:=⟨p1,p2,p3,p4,p5,p6⟩
 obtain ⟨row0,hrow0,hrl0,-⟩:=hg1.at_ (i:=0) (j:=0) (by omega) (by omega)
 have hgl:=q1
 have hgl2:=p1
 refine PC.of ⟨Tryz.func112,by kernel_rfl,rfl,by kernel_rfl⟩ zav mixed (by show 4≤Tryz.f112.ntmps; decide) ?_
 refine W.r fun K hK=>?_
 simp(disch:=omega)only[↓RU,RV,RH,↓reduceIte,qE,reduceCtorEq,if_pos,↓RS,RG,qA,qM,qL]
 apply hK;clear hK K
 refine W.seq ?_
 refine W.r fun K hK=>?_
 simp(disch:=omega)only[↓RU,RV,RH,↓reduceIte,qE,reduceCtorEq,if_pos,qN,w64,↓RS,RG,qA,qM,qL,ty7,zaa,hgl]
 refine zae.pc (zdx g1 rs1) rfl (.inl rfl) ?_
 simp(disch:=omega)only[↓RU,RV,RH,↓reduceIte,qE,reduceCtorEq,if_pos,qN,w64,↓RS,RG,qA,qM,qL,ty7,zaa,hgl]
 apply hK;clear hK K
 refine W.cond rfl (fun h0=>?_) (fun h0=>?_)
 ·try simp only[RL]at h0
  have hcw:r<H1:=by omega
  obtain ⟨row,hrow,hrl,hx⟩:=hg1.at_ (i:=r) (j:=min c (W1 - 1)) hcw (by omega)
  have hm:(min (c:Int) ((W1:Int) - 1)).toNat=min c (W1 - 1):=by omega
  refine W.seq_draw (by kernel_rfl) fun K hK=>?_
  simp(disch:=omega)only[↓RU,RV,RH,↓reduceIte,qE,reduceCtorEq,if_pos,qN,w64,zh2,↓RS,RG,qA,qM,qL,ty0,ty3,zaf,ty7,zd3,zb4,zas,zaa,zd4,zat,hgl,hrl0,hm,hrow,hx]
  refine zae.pc (zeg hrow0 rs1) rfl (.inl rfl) ?_
  simp(disch:=omega)only[↓RU,RV,RH,↓reduceIte,qE,reduceCtorEq,if_pos,qN,w64,zh2,↓RS,RG,qA,qM,qL,ty0,ty3,zaf,ty7,zd3,zb4,zas,zaa,zd4,zat,hgl,hrl0,hm,hrow,hx]
  apply hK;clear hK K
  refine W.ret ?_
  refine XThen.ret ?_
  refine Br rfl ?_
  rw [if_pos hcw]
  rfl
 try simp only[RL]at h0
 have hcw:¬ r<H1:=by omega
 obtain ⟨row,hrow,hrl,hx⟩:=hg2.at_ (i:=r - H1) (j:=c - (W1 - 1)) (by omega) (by omega)
 have hm:(max ((c:Int) - (W1:Int)+1) 0).toNat=c - (W1 - 1):=by omega
 have hcz:((r:Int) - (H1:Int)).toNat=r - H1:=by omega
 have hbb:=hb2 (r - H1) (c - (W1 - 1)) (by omega) (by omega)
 refine W.skip ?_
 refine xn ?_
 refine W.seq_draw (by kernel_rfl) fun K hK=>?_
 simp(disch:=omega)only[↓RU,RV,RH,↓reduceIte,qE,reduceCtorEq,if_pos,qN,w64,ze7,↓RS,RG,qA,qM,qL,ty0,ty3,zaf,ty7,zd3,zb4,zas,zaa,zd4,zat,hgl,hrl0,hm,hrow,hx,hcz]
 refine zae.pc (zdx g1 rs1) rfl (.inl rfl) ?_
 simp(disch:=omega)only[↓RU,RV,RH,↓reduceIte,qE,reduceCtorEq,if_pos,qN,w64,ze7,↓RS,RG,qA,qM,qL,ty0,ty3,zaf,ty7,zd3,zb4,zas,zaa,zd4,zat,hgl,hrl0,hm,hrow,hx,hcz]
 refine zae.pc (zeg hrow0 rs1) rfl (.inl rfl) ?_
 simp(disch:=omega)only[↓RU,RV,RH,↓reduceIte,qE,reduceCtorEq,if_pos,qN,w64,ze7,↓RS,RG,qA,qM,qL,ty0,ty3,zaf,ty7,zd3,zb4,zas,zaa,zd4,zat,hgl,hrl0,hm,hrow,hx,hcz]
 apply hK;clear hK K
 refine W.ret ?_
 refine Br rfl ?_
 rw [if_neg hcw]
 rfl
theorem z6h {g1 g2:List (List Int)} {H1 W1 H2 W2:Nat} (hg1:GW g1 H1 W1) (hg2:GW g2 H2 W2) (rs1 rs2:List Rect) (hl1:rs1.length≤1000) (hb2:∀ i j,i<H2→j<W2→0≤gz g2 i j∧gz g2 i j≤100):PC Tryz.prog 58 [zap g1 rs1,zap g2 rs2] (zc3 (bgT (fun r w=>if w<W1 then gz g1 (min r (H1 - 1)) w else (rs1.length:Int)+gz g2 (r - (H1 - 1)) (w - W1)) (W1+W2) (H1+H2 - 1))) false:=by
 obtain ⟨q1,q2,q3,q4,q5,q6⟩:=hg1
 have hg1:GW g1 H1 W1:=⟨q1,q2,q3,q4,q5,q6⟩
 obtain ⟨p1,p2,p3,p4,p5,p6⟩:=hg2
 have hg2:GW g2 H2 W2:=⟨p1,p2,p3,p4,p5,p6⟩
 obtain ⟨row0,hrow0,hrl0,-⟩:=hg1.at_ (i:=0) (j:=0) (by omega) (by omega)
 have hgl:=q1
 have hgl2:=p1
 obtain ⟨row2,hrow2,hrl2,-⟩:=hg2.at_ (i:=0) (j:=0) (by omega) (by omega)
 have e9:((H1:Int)+(H2:Int) - 1)=((H1+H2 - 1:Nat):Int):=by omega
 have e8:((W1:Int)+(W2:Int))=((W1+W2:Nat):Int):=by omega
 refine PC.of ⟨Tryz.func58,by kernel_rfl,rfl,by kernel_rfl⟩ zav mixed (by show 2≤Tryz.f58.ntmps; decide) ?_
 refine W.joinZ [2,3] (fun vs S=>∃ tk:Nat,vs=[.ip [zap g1 rs1] 0,.ip [zap g2 rs2] 0]∧S=⟨[],tk⟩) ?_ ?_
 ·
  refine W.k fun K hK=>?_
  simp(disch:=omega)only[↓RU,RV,RH,↓reduceIte,qE,reduceCtorEq,if_pos,↓RS,RG,qA,qM,qL,ty7]
  apply hK;clear hK K
  refine xn ?_
  refine ⟨0,[.ip [zap g1 rs1] 0,.ip [zap g2 rs2] 0],⟨[],2⟩,?_,?_,2,rfl,rfl⟩
  ·rfl
  rfl
 rintro vs S - ⟨tk,rfl,rfl⟩
 refine W.seq_draw (by kernel_rfl) fun K hK=>?_
 simp(disch:=omega)only[↓RU,RV,RH,↓reduceIte,qE,reduceCtorEq,if_pos,qN,w64,↓RS,RG,qA,qM,qL,ty7,zaa,hgl,hgl2,hrl0,hrl2]
 refine zae.pc (zdx g1 rs1) rfl (.inl rfl) ?_
 simp(disch:=omega)only[↓RU,RV,RH,↓reduceIte,qE,reduceCtorEq,if_pos,qN,w64,↓RS,RG,qA,qM,qL,ty7,zaa,hgl,hgl2,hrl0,hrl2]
 refine zae.pc (zdx g2 rs2) rfl (.inl rfl) ?_
 simp(disch:=omega)only[↓RU,RV,RH,↓reduceIte,qE,reduceCtorEq,if_pos,qN,w64,↓RS,RG,qA,qM,qL,ty7,zaa,hgl,hgl2,hrl0,hrl2]
 apply hK;clear hK K
 simp only[e9]
 refine W.seq_draw (by kernel_rfl) fun K hK=>?_
 simp(disch:=omega)only[↓RU,RV,RH,↓reduceIte,qE,reduceCtorEq,if_pos,qN,w64,↓RS,RG,qA,qM,qL,ty7,zaa,hgl,hgl2,hrl0,hrl2]
 refine zae.pc (zeg hrow0 rs1) rfl (.inl rfl) ?_
 simp(disch:=omega)only[↓RU,RV,RH,↓reduceIte,qE,reduceCtorEq,if_pos,qN,w64,↓RS,RG,qA,qM,qL,ty7,zaa,hgl,hgl2,hrl0,hrl2]
 refine zae.pc (zeg hrow2 rs2) rfl (.inl rfl) ?_
 simp(disch:=omega)only[↓RU,RV,RH,↓reduceIte,qE,reduceCtorEq,if_pos,qN,w64,↓RS,RG,qA,qM,qL,ty7,zaa,hgl,hgl2,hrl0,hrl2,e8]
 refine zae.pc (zne (c:=fun r w=>if w<W1 then gz g1 (min r (H1 - 1)) w else (rs1.length:Int)+gz g2 (r - (H1 - 1)) (w - W1)) (nh:=H1+H2 - 1) (nw:=W1+W2) (by omega) (by omega) (fun _ _=>rfl) (fun _ _ _=>rfl) (fun r w h1 h2=>z1x hg1 hg2 rs1 rs2 hl1 hb2 h1 h2)) rfl (.inr rfl) ?_
 simp(disch:=omega)only[↓RU,RV,RH,↓reduceIte,qE,reduceCtorEq,if_pos,qN,w64,↓RS,RG,qA,qM,qL,ty7,zaa,hgl,hgl2,hrl0,hrl2]
 apply hK;clear hK K
 refine W.ret ?_
 refine Br rfl ?_
 rfl
theorem z6j {g1 g2:List (List Int)} {H1 W1 H2 W2:Nat} (hg1:GW g1 H1 W1) (hg2:GW g2 H2 W2) (rs1 rs2:List Rect) (hl1:rs1.length≤1000) (hb2:∀ i j,i<H2→j<W2→0≤gz g2 i j∧gz g2 i j≤100):PC Tryz.prog 59 [zap g1 rs1,zap g2 rs2] (zc3 (bgT (fun r w=>if r<H1 then gz g1 r (min w (W1 - 1)) else (rs1.length:Int)+gz g2 (r - H1) (w - (W1 - 1))) (W1+W2 - 1) (H1+H2))) false:=by
 obtain ⟨q1,q2,q3,q4,q5,q6⟩:=hg1
 have hg1:GW g1 H1 W1:=⟨q1,q2,q3,q4,q5,q6⟩
 obtain ⟨p1,p2,p3,p4,p5,p6⟩:=hg2
 have hg2:GW g2 H2 W2:=⟨p1,p2,p3,p4,p5,p6⟩
 obtain ⟨row0,hrow0,hrl0,-⟩:=hg1.at_ (i:=0) (j:=0) (by omega) (by omega)
 have hgl:=q1
 have hgl2:=p1
 obtain ⟨row2,hrow2,hrl2,-⟩:=hg2.at_ (i:=0) (j:=0) (by omega) (by omega)
 have e9:((W1:Int)+(W2:Int) - 1)=((W1+W2 - 1:Nat):Int):=by omega
 have e8:((H1:Int)+(H2:Int))=((H1+H2:Nat):Int):=by omega
 refine PC.of ⟨Tryz.func59,by kernel_rfl,rfl,by kernel_rfl⟩ zav mixed (by show 2≤Tryz.f59.ntmps; decide) ?_
 refine W.joinZ [2,3] (fun vs S=>∃ tk:Nat,vs=[.ip [zap g1 rs1] 0,.ip [zap g2 rs2] 0]∧S=⟨[],tk⟩) ?_ ?_
 ·
  refine W.k fun K hK=>?_
  simp(disch:=omega)only[↓RU,RV,RH,↓reduceIte,qE,reduceCtorEq,if_pos,↓RS,RG,qA,qM,qL,ty7]
  apply hK;clear hK K
  refine xn ?_
  refine ⟨0,[.ip [zap g1 rs1] 0,.ip [zap g2 rs2] 0],⟨[],2⟩,?_,?_,2,rfl,rfl⟩
  ·rfl
  rfl
 rintro vs S - ⟨tk,rfl,rfl⟩
 refine W.seq_draw (by kernel_rfl) fun K hK=>?_
 simp(disch:=omega)only[↓RU,RV,RH,↓reduceIte,qE,reduceCtorEq,if_pos,qN,w64,↓RS,RG,qA,qM,qL,ty7,zaa,hgl,hgl2,hrl0,hrl2]
 refine zae.pc (zeg hrow0 rs1) rfl (.inl rfl) ?_
 simp(disch:=omega)only[↓RU,RV,RH,↓reduceIte,qE,reduceCtorEq,if_pos,qN,w64,↓RS,RG,qA,qM,qL,ty7,zaa,hgl,hgl2,hrl0,hrl2]
 refine zae.pc (zeg hrow2 rs2) rfl (.inl rfl) ?_
 simp(disch:=omega)only[↓RU,RV,RH,↓reduceIte,qE,reduceCtorEq,if_pos,qN,w64,↓RS,RG,qA,qM,qL,ty7,zaa,hgl,hgl2,hrl0,hrl2]
 apply hK;clear hK K
 simp only[e9]
 refine W.seq_draw (by kernel_rfl) fun K hK=>?_
 simp(disch:=omega)only[↓RU,RV,RH,↓reduceIte,qE,reduceCtorEq,if_pos,qN,w64,↓RS,RG,qA,qM,qL,ty7,zaa,hgl,hgl2,hrl0,hrl2]
 refine zae.pc (zdx g1 rs1) rfl (.inl rfl) ?_
 simp(disch:=omega)only[↓RU,RV,RH,↓reduceIte,qE,reduceCtorEq,if_pos,qN,w64,↓RS,RG,qA,qM,qL,ty7,zaa,hgl,hgl2,hrl0,hrl2]
 refine zae.pc (zdx g2 rs2) rfl (.inl rfl) ?_
 simp(disch:=omega)only[↓RU,RV,RH,↓reduceIte,qE,reduceCtorEq,if_pos,qN,w64,↓RS,RG,qA,qM,qL,ty7,zaa,hgl,hgl2,hrl0,hrl2,e8]
 refine zae.pc (zne (c:=fun r w=>if r<H1 then gz g1 r (min w (W1 - 1)) else (rs1.length:Int)+gz g2 (r - H1) (w - (W1 - 1))) (nh:=H1+H2) (nw:=W1+W2 - 1) (by omega) (by omega) (fun _ _=>rfl) (fun _ _ _=>rfl) (fun r w h1 h2=>z1z hg1 hg2 rs1 rs2 hl1 hb2 h1 h2)) rfl (.inr rfl) ?_
 simp(disch:=omega)only[↓RU,RV,RH,↓reduceIte,qE,reduceCtorEq,if_pos,qN,w64,↓RS,RG,qA,qM,qL,ty7,zaa,hgl,hgl2,hrl0,hrl2]
 apply hK;clear hK K
 refine W.ret ?_
 refine Br rfl ?_
 rfl
theorem zwn {g:List (List Int)} {nh nw:Nat} (hg:GW g nh nw) (rs:List Rect) {r c:Nat} (hr:r<nh) (hc:c<nw):PC Tryz.prog 110 [.int .i64 r,.int .i64 c,.ip [zap g rs] 0] (.int .i64 (gz g r (nw - 1 - c))) true:=by
 obtain ⟨row0,hrow0,hrl0,-⟩:=hg.at_ (i:=0) (j:=0) (by omega) (by omega)
 obtain ⟨row,hrow,hrl,hx⟩:=hg.at_ (i:=r) (j:=nw - 1 - c) (by omega) (by omega)
 obtain ⟨q1,q2,q3,q4,q5,q6⟩:=hg
 have hgl:=q1
 have hcz:((nw:Int) - 1 - (c:Int)).toNat=nw - 1 - c:=by omega
 refine PC.of ⟨Tryz.func110,by kernel_rfl,rfl,by kernel_rfl⟩ zav mixed (by show 3≤Tryz.f110.ntmps; decide) ?_
 refine W.r fun K hK=>?_
 simp(disch:=omega)only[↓RU,RV,RH,↓reduceIte,qE,reduceCtorEq,if_pos]
 apply hK;clear hK K
 refine W.seq_draw (by kernel_rfl) fun K hK=>?_
 simp(disch:=omega)only[↓RU,RV,RH,↓reduceIte,qE,reduceCtorEq,if_pos,qN,w64,↓RS,RG,qA,qM,qL,ty0,ty3,zaf,ty7,zd3,zb4,zas,zaa,zd4,zat,hrow,hx,hcz,hrl0,hrl,hgl]
 refine zae.pc (zeg hrow0 rs) rfl (.inl rfl) ?_
 simp(disch:=omega)only[↓RU,RV,RH,↓reduceIte,qE,reduceCtorEq,if_pos,qN,w64,↓RS,RG,qA,qM,qL,ty0,ty3,zaf,ty7,zd3,zb4,zas,zaa,zd4,zat,hrow,hx,hcz,hrl0,hrl,hgl]
 apply hK;clear hK K
 refine W.ret ?_
 refine Br rfl ?_
 rfl
theorem z0b {g:List (List Int)} {nh nw:Nat} (hg:GW g nh nw) (rs:List Rect):PC Tryz.prog 57 [zap g rs] (zc3 (bgT (fun r w=>gz g r (nw - 1 - w)) nw nh)) false:=by
 obtain ⟨q1,q2,q3,q4,q5,q6⟩:=hg
 have hg:GW g nh nw:=⟨q1,q2,q3,q4,q5,q6⟩
 have hgl:=q1
 obtain ⟨row0,hrow0,hrl0,-⟩:=hg.at_ (i:=0) (j:=0) (by omega) (by omega)
 refine PC.of ⟨Tryz.func57,by kernel_rfl,rfl,by kernel_rfl⟩ zav mixed (by show 1≤Tryz.f57.ntmps; decide) ?_
 refine W.joinZ [1] (fun vs S=>∃ tk:Nat,vs=[.ip [zap g rs] 0]∧S=⟨[],tk⟩) ?_ ?_
 ·
  refine W.k fun K hK=>?_
  simp(disch:=omega)only[↓RU,RV,RH,↓reduceIte,qE,reduceCtorEq,if_pos,↓RS,RG,qA,qM,qL,ty7]
  apply hK;clear hK K
  refine xn ?_
  refine ⟨0,[.ip [zap g rs] 0],⟨[],1⟩,?_,?_,1,rfl,rfl⟩
  ·rfl
  rfl
 rintro vs S - ⟨tk,rfl,rfl⟩
 refine W.seq_draw (by kernel_rfl) fun K hK=>?_
 simp(disch:=omega)only[↓RU,RV,RH,↓reduceIte,qE,reduceCtorEq,if_pos,qN,↓RS,RG,qA,qM,qL,ty7,hgl,hrl0]
 refine zae.pc (zdx g rs) rfl (.inl rfl) ?_
 simp(disch:=omega)only[↓RU,RV,RH,↓reduceIte,qE,reduceCtorEq,if_pos,qN,↓RS,RG,qA,qM,qL,ty7,hgl,hrl0]
 refine zae.pc (zeg hrow0 rs) rfl (.inl rfl) ?_
 simp(disch:=omega)only[↓RU,RV,RH,↓reduceIte,qE,reduceCtorEq,if_pos,qN,↓RS,RG,qA,qM,qL,ty7,hgl,hrl0]
 refine zae.pc (zne (c:=fun r w=>gz g r (nw - 1 - w)) (nh:=nh) (nw:=nw) (by omega) (by omega) (fun _ _=>rfl) (fun _ _ _=>rfl) (fun r w h1 h2=>zwn hg rs h1 h2)) rfl (.inr rfl) ?_
 simp(disch:=omega)only[↓RU,RV,RH,↓reduceIte,qE,reduceCtorEq,if_pos,qN,↓RS,RG,qA,qM,qL,ty7,hgl,hrl0]
 apply hK;clear hK K
 refine W.ret ?_
 refine Br rfl ?_
 rfl
def flP:Option (List Txt)→PV
 | some p=>zap (gP p) (rP p)
 | none => .nilp
def flV (o:Option (List Txt)):PV := .tup [flP o,.bool o.isSome]
theorem zle {c:Nat→Nat→Nat} {H W:Nat} {g:List (List Int)} (h:Made c H W g):zb7 g=flV (some (nm g)):=by
 have hz:=h.gw.zG
 have ho:=h.ok
 unfold okS at ho
 rw [hz.2,qB,decide_eq_true_eq]at ho
 have e:=(NmOk.mk h.gw ho.2).gP
 unfold zb7
 rw [h.ok,if_pos rfl,h.full,hz.2]
 show _=PV.tup [zap (gP (nm g)) (rP (nm g)),.bool true]
 rw [e.1,e.2]
theorem z9l {g:List (List Int)} {H W:Nat} (h1:g.length=H) (h2:∀ r∈g,r.length=W) (h3:1≤H) (h:¬ (H≤6∧W≤6)):zb7 g=flV none:=by
 have hok:okS g=false:=by
  unfold okS
  have:okG g=false:=by
   cases e:okG g with
   | false=>rfl
   | true =>
    obtain ⟨row,hrow,hm⟩:=zag (show 0<g.length by omega)
    have e2:=zjt.1 e
    rw [z56 hrow,h2 row hm,h1]at e2
    exact absurd ⟨e2.2.2.2.1,e2.2.2.2.2.2⟩ h
  rw [this]; rfl
 unfold zb7
 rw [hok]; rfl
theorem znd {c:Nat→Nat→Int} {nw n:Nat}:∀ r∈bgT c nw n,r.length=nw:=by
 intro r hr
 obtain ⟨k,-,rfl⟩:=List.mem_map.1 hr
 simp
theorem zzp {m:UInt8} {p q:List Txt} (hp:zak p=true) (hq:zak q=true) (h9:(rP p).length+(rP q).length≤9):zb7 (if m=124 then zv2 p q else zpv p q)=flV (zjq m p q):=by
 obtain ⟨a1,a2,a3,a4,-⟩:=zai hp
 obtain ⟨b1,b2,b3,b4,-⟩:=zai hq
 unfold zjq
 by_cases e:m=124
 ·rw [if_pos e,if_pos e]
  by_cases k:p.length+q.length - 1≤6∧(zad p).length+(zad q).length≤6
  ·rw [if_pos k]; exact zle (znc hp hq k.1 k.2 h9)
  rw [if_neg k]; exact z9l zje znd (by omega) k
 rw [if_neg e,if_neg e]
 by_cases k:p.length+q.length≤6∧(zad p).length+(zad q).length - 1≤6
 ·rw [if_pos k]; exact zle (zj9 hp hq k.1 k.2 h9)
 rw [if_neg k]; exact z9l zje znd (by omega) k
def slP (l:List PV) (v:Nat):PV:=match l with | [] => .nils | _ => .loc 0 v 0 l.length
def tlP (l:List PV) (v:Nat):List Ob:=match l with | []=>[] | _=>[.arr v 43 1 l]
theorem ybl {v:Nat}:slP [] v = .nils:=rfl
theorem ybu {v:Nat}:tlP [] v=[]:=rfl
theorem z5b {v:Nat} {l:List PV} (h:l≠[]):slP l v = .loc 0 v 0 l.length:=by cases l with | nil=>exact absurd rfl h | cons a l=>rfl
theorem z5t {v:Nat} {l:List PV} (h:l≠[]):tlP l v=[.arr v 43 1 l]:=by cases l with | nil=>exact absurd rfl h | cons a l=>rfl
def psT (ks:List Tm):List PV:=ks.map fun k=>flP (zbp k)
theorem z4w {S:Store} {k f:Nat} {sel:List Nat} {o:Option (List Txt)}:rn S k sel (f+1) (flP o)=some (flP o):=by cases o <;> rfl
theorem yc4 {S:Store} {k f:Nat} {sel:List Nat} {ks:List Tm}:(psT ks).mapM (rn S k sel (f+1))=some (psT ks):=zbq fun x hx=>by obtain ⟨a,-,rfl⟩:=List.mem_map.1 hx; exact z4w
theorem zth {o:Option (List Txt)}:(flP o).cells=[flP o]:=by cases o <;> rfl
theorem z2h {o:Option (List Txt)}:(flP o).isDef=true:=by cases o <;> rfl
theorem z8w {o:Option (List Txt)}:(flP o).isCell=true:=by cases o <;> rfl
theorem ya7 {ks:List Tm}:(psT ks).length=ks.length:=by simp [psT]
theorem zge {ks:List Tm} {i:Nat} {k:Tm} (h:ks[i]?=some k):psT (ks.take (i+1))=psT (ks.take i)++[flP (zbp k)]:=by rw [tk h]; simp [psT]
def eK (c:UInt8) (ks:List Tm):PV := .ip [eB c,.sl (ks.map eT) ks.length] 0
def zo8 (c:UInt8):List Tm→Option (List Txt)
 | [k]=>zbp (.un c k)
 | [a,b]=>zbp (.bin c a b)
 | _=>none
theorem z01 {c:UInt8} {ks:List Tm} {k:Tm} (hk:k∈ks) (h:zbp k=none):zo8 c ks=none:=by
 unfold zo8
 split
 ·simp only[List.mem_cons,List.not_mem_nil,or_false]at hk; subst hk; simp only[zbp,h,Option.map_none]
 ·rename_i a b
  simp only[List.mem_cons,List.not_mem_nil,or_false]at hk
  rcases hk with rfl | rfl
  ·simp only[zbp,h,Option.bind_none]
  simp only[zbp,h,Option.bind_none,Option.bind_fun_none]
 rfl
theorem ybj:zb7 [[0]]=flV (some [[97]]):=by
 have h:Made (fun _ _=>0) 1 1 [[0]]:=zox (n:=1) ⟨⟨rfl,by simp,by omega,by omega,by omega,by omega⟩,fun i j hi hj=>by
  have e1:i=0:=by omega
  have e2:j=0:=by omega
  subst e1 e2
  rfl⟩ (fun _ _ _ _=>by omega) (by omega) ⟨fun _ _ _ _ _ _ _ _ _ _ _=>rfl,fun _ _ h _ _=>absurd rfl h⟩
 rw [zle h,show nm [[0]]=[[97]] by decide +kernel]
theorem yam  : PC Tryz.prog 25 [eT .o] (flV (zbp .o)) false:=by
 have hS:=zeu (g:=[[0]]) (by simp) (by simp)
 rw [ybj]at hS
 simp only[eT]
 have d0:((111:Int) == 62)=false:=rfl
 have d1:((111:Int) == 94)=false:=rfl
 have d2:((111:Int) == 124)=false:=rfl
 have d3:((111:Int) == 45)=false:=rfl
 refine PC.of ⟨Tryz.func25,by kernel_rfl,rfl,by kernel_rfl⟩ zav mixed (by show 1≤Tryz.f25.ntmps; decide) ?_
 refine W.r fun K hK=>?_
 simp(disch:=omega)only[↓RU,RV,RH,↓reduceIte,qE,reduceCtorEq,if_pos,↓RS,RG,qA,qM,qL]
 apply hK;clear hK K
 refine W.r fun K hK=>?_
 simp(disch:=omega)only[↓RU,RV,RH,↓reduceIte,qE,reduceCtorEq,if_pos,↓RS,RG,qA,qM,qL]
 apply hK;clear hK K
 refine W.seq ?_
 refine W.r fun K hK=>?_
 simp(disch:=omega)only[↓RU,RV,RH,↓reduceIte,qE,reduceCtorEq,if_pos,↓RS,RG,qA,qM,qL,ty2,ty8,z9s,z9u,za0]
 apply hK;clear hK K
 refine W.block ?_
 refine W.loop [0,4,12,13,14] (fun n vs S=>vs=[.ip [.int .u8 111,.nils] 0,.nils,.nils,.int .i64 0,.int .i64 0]∧S=⟨[],0⟩) 0 ?_ ?_
 ·refine ⟨0,?_,rfl⟩
  simp [Env.put,Env.of,zaj]
 rintro n vs S - ⟨rfl,rfl⟩
 refine W.r fun K hK=>?_
 simp(disch:=omega)only[↓RU,RV,RH,↓reduceIte,qE,reduceCtorEq,if_pos,w64,↓RS,RG,qA,qM,qL,zaa]
 apply hK;clear hK K
 refine W.seq ?_
 refine W.cond rfl (fun h0=>?_) (fun h0=>?_)
 ·try simp only[RL]at h0
  exact absurd h0 (by simp)
 try simp only[RL]at h0
 refine W.exit ?_
 refine xe ?_
 refine xe ?_
 refine XBlock.hit ?_
 refine xn ?_
 refine W.seq ?_
 refine W.r fun K hK=>?_
 simp(disch:=omega)only[↓RU,RV,RH,↓reduceIte,qE,reduceCtorEq,if_pos,↓RS,RG,qA,qM,qL,ty2,ty8,z9s,z9u,za0,Int.toNat_zero,Nat.zero_mul,qZ,qM,Nat.zero_add,Nat.mul_one,List.getElem?_cons_zero,List.getElem?_cons_succ]
 apply hK;clear hK K
 refine W.block ?_
 refine W.r fun K hK=>?_
 simp(disch:=omega)only[↓RU,RV,RH,↓reduceIte,qE,reduceCtorEq,if_pos,w64,↓RS,RG,qA,qM,qL,za0,d0]
 apply hK;clear hK K
 refine W.cond rfl (fun h1=>?_) (fun h1=>?_)
 ·try simp only[RL]at h1
  exact absurd h1 (by simp)
 try simp only[RL]at h1
 refine W.r fun K hK=>?_
 simp(disch:=omega)only[↓RU,RV,RH,↓reduceIte,qE,reduceCtorEq,if_pos,w64,↓RS,RG,qA,qM,qL,za0,d1]
 apply hK;clear hK K
 refine W.cond rfl (fun h2=>?_) (fun h2=>?_)
 ·try simp only[RL]at h2
  exact absurd h2 (by simp)
 try simp only[RL]at h2
 refine W.r fun K hK=>?_
 simp(disch:=omega)only[↓RU,RV,RH,↓reduceIte,qE,reduceCtorEq,if_pos,w64,↓RS,RG,qA,qM,qL,za0,d2]
 apply hK;clear hK K
 refine W.cond rfl (fun h3=>?_) (fun h3=>?_)
 ·try simp only[RL]at h3
  exact absurd h3 (by simp)
 try simp only[RL]at h3
 refine W.r fun K hK=>?_
 simp(disch:=omega)only[↓RU,RV,RH,↓reduceIte,qE,reduceCtorEq,if_pos,w64,↓RS,RG,qA,qM,qL,za0,d3]
 apply hK;clear hK K
 refine W.cond rfl (fun h4=>?_) (fun h4=>?_)
 ·try simp only[RL]at h4
  exact absurd h4 (by simp)
 try simp only[RL]at h4
 refine W.skip ?_
 refine XbN ?_
 refine xn ?_
 refine W.r fun K hK=>?_
 simp(disch:=omega)only[↓RU,RV,RH,↓reduceIte,qE,reduceCtorEq,if_pos,qN,↓RS,RG,qA,qM,qL,ty0,zaf,zb4,zaa]
 refine zae.ev (hS.all rfl) ?_
 rintro _ _ ⟨rfl,rfl⟩
 simp(disch:=omega)only[↓RU,RV,RH,↓reduceIte,qE,reduceCtorEq,if_pos,qN,↓RS,RG,qA,qM,qL,ty0,zaf,zb4,zaa,flV]
 apply hK;clear hK K
 refine W.ret ?_
 refine Br rfl ?_
 rfl
theorem slP1 {x:PV} {v:Nat}:slP [x] v = .loc 0 v 0 1:=rfl
theorem tlP1 {x:PV} {v:Nat}:tlP [x] v=[.arr v 43 1 [x]]:=rfl
theorem slP2 {x y:PV} {v:Nat}:slP [x,y] v = .loc 0 v 0 2:=rfl
theorem tlP2 {x y:PV} {v:Nat}:tlP [x,y] v=[.arr v 43 1 [x,y]]:=rfl
theorem zdg {p:List Txt}:flP (some p)=zap (gP p) (rP p):=rfl
theorem z0h {c:UInt8} {ks:List Tm} (hn:∀ k∈ks,k.ok∧k.n≤7) (h9:(ks.map Tm.n).sum≤7) (hc:((c=62∨c=94)∧ks.length=1)∨((c=124∨c=45)∧ks.length=2)) (hall:∀ k∈ks,∃ p,zbp k=some p) :
  (∃ k p,ks=[k]∧c=62∧zbp k=some p∧zak p=true)∨(∃ k p,ks=[k]∧c=94∧zbp k=some p∧zak p=true) ∨
  (∃ a b p q,ks=[a,b]∧c=124∧zbp a=some p∧zbp b=some q∧zak p=true∧zak q=true∧(rP p).length+(rP q).length≤9)∨(∃ a b p q,ks=[a,b]∧c=45∧zbp a=some p∧zbp b=some q∧zak p=true∧zak q=true∧(rP p).length+(rP q).length≤9):=by
 rcases hc with ⟨hc,hl⟩ | ⟨hc,hl⟩
 ·obtain ⟨k,rfl⟩:=List.length_eq_one_iff.1 hl
  obtain ⟨p,hp⟩:=hall k (by simp)
  have h:=hn k (by simp)
  have hpl:=(ze3 h.1 (by omega) hp).1
  rcases hc with hc | hc
  ·exact .inl ⟨k,p,rfl,hc,hp,hpl⟩
  exact .inr (.inl ⟨k,p,rfl,hc,hp,hpl⟩)
 obtain ⟨a,b,rfl⟩:∃ a b,ks=[a,b]:=by
  match ks,hl with
  | [a,b],_=>exact ⟨a,b,rfl⟩
 obtain ⟨p,hp⟩:=hall a (by simp)
 obtain ⟨q,hq⟩:=hall b (by simp)
 have ha:=hn a (by simp)
 have hb:=hn b (by simp)
 have ia:=ze3 ha.1 (by omega) hp
 have ib:=ze3 hb.1 (by omega) hq
 simp at h9
 rcases hc with hc | hc
 ·exact .inr (.inr (.inl ⟨a,b,p,q,rfl,hc,hp,hq,ia.1,ib.1,by omega⟩))
 exact .inr (.inr (.inr ⟨a,b,p,q,rfl,hc,hp,hq,ia.1,ib.1,by omega⟩))
theorem zsj {p:List Txt} (hp:zak p=true):∀ i j,i<p.length→j<(zad p).length→0≤gz (gP p) i j∧gz (gP p) i j≤100:=fun i j hi hj=>by
 have:=zb0 (p:=p) i j hi hj
 have:=(zai hp).2.2.2.2.2.2.1
 omega
theorem z2r {c:UInt8} {ks:List Tm} (h1:1≤ks.length) (h2:ks.length≤2) (hn:∀ k∈ks,k.ok∧k.n≤7) (h9:(ks.map Tm.n).sum≤7) (ih:∀ k∈ks,PC Tryz.prog 25 [eT k] (flV (zbp k)) false) (hc:((c=62∨c=94)∧ks.length=1)∨((c=124∨c=45)∧ks.length=2)):PC Tryz.prog 25 [eK c ks] (flV (zo8 c ks)) false:=by
 skip
 refine PC.of ⟨Tryz.func25,by kernel_rfl,rfl,by kernel_rfl⟩ zav mixed (by show 1≤Tryz.f25.ntmps; decide) ?_
 refine W.r fun K hK=>?_
 simp(disch:=omega)only[↓RU,RV,RH,↓reduceIte,qE,reduceCtorEq,if_pos,↓RS,RG,qA,qM,qL]
 apply hK;clear hK K
 refine W.r fun K hK=>?_
 simp(disch:=omega)only[↓RU,RV,RH,↓reduceIte,qE,reduceCtorEq,if_pos,↓RS,RG,qA,qM,qL]
 apply hK;clear hK K
 refine W.seq ?_
 refine W.r fun K hK=>?_
 simp(disch:=omega)only[↓RU,RV,RH,↓reduceIte,qE,reduceCtorEq,if_pos,↓RS,RG,qA,qM,qL,ty2,ty8,z9s,z9u,za0]
 apply hK;clear hK K
 refine W.block ?_
 refine W.loopS [0,4,12,13,14] (fun n vs S=>∃ i v t:Nat,n=ks.length - i∧i≤ks.length∧(∀ k∈ks.take i,∃ p,zbp k=some p)∧vs=[eK c ks,slP (psT (ks.take i)) v,.sl (ks.map eT) ks.length,.int .i64 ks.length,.int .i64 i]∧S=⟨tlP (psT (ks.take i)) v,t⟩) ks.length ?_ ?_
 ·refine ⟨0,[],[eK c ks,.nils,.sl (ks.map eT) ks.length,.int .i64 ks.length,.int .i64 (0:Nat)],⟨[],1⟩,?_,?_,0,0,1,rfl,Nat.zero_le _,?_,rfl,rfl⟩
  ·simp [-qU,Env.put,Env.of,zaj,zb9,zaq,zau,za2,za3,zcd,zce,zdo,zcc,zbm,zcf,zdn,zdp,zbo,zbn,za4,zcb,zcg,zdm,zbk,zbj,za1,zbl,zca,zf8,qS,qP,qC,eK]
  ·simp [-qU,Env.put,Env.of,zaj,zb9,zaq,zau,za2,za3,zcd,zce,zdo,zcc,zbm,zcf,zdn,zdp,zbo,zbn,za4,zcb,zcg,zdm,zbk,zbj,za1,zbl,zca,zf8,qS,qP,qC]
  intro k hk; simp at hk
 rintro n vs S - ⟨i,v,t,rfl,h_i,hall,rfl,rfl⟩
 refine W.r fun K hK=>?_
 simp(disch:=omega)only[↓RU,RV,RH,↓reduceIte,qE,reduceCtorEq,if_pos,w64,↓RS,RG,qA,qM,qL,zaa]
 apply hK;clear hK K
 refine W.seq ?_
 refine W.cond rfl (fun h0=>?_) (fun h0=>?_)
 ·try simp only[RL]at h0
  obtain ⟨k,hk,hkm⟩:=zag (show i<ks.length by omega)
  have hke:(ks.map eT)[i]?=some (eT k):=by rw [List.getElem?_map,hk]; rfl
  have hkr:∀ {S:Store},[eT k].mapM (reify S true 10)=some [eT k]:=fun {S}=>zax (zzc k) rfl
  refine W.skip ?_
  refine xn ?_
  refine W.seq ?_
  refine W.block ?_
  refine W.r fun K hK=>?_
  simp(disch:=omega)only[↓RU,RV,RH,↓reduceIte,qE,reduceCtorEq,if_pos,↓RS,RG,qA,qM,qL,ty2,ty8,hke]
  apply hK;clear hK K
  refine W.r fun K hK=>?_
  simp(disch:=omega)only[↓RU,RV,RH,↓reduceIte,qE,reduceCtorEq,if_pos,qN,↓RS,RG,qA,qM,qL,flV]
  refine zae.pc (ih k hkm) hkr (.inr hkr) ?_
  simp(disch:=omega)only[↓RU,RV,RH,↓reduceIte,qE,reduceCtorEq,if_pos,qN,↓RS,RG,qA,qM,qL,flV]
  apply hK;clear hK K
  refine W.seq ?_
  refine W.r fun K hK=>?_
  simp(disch:=omega)only[↓RU,RV,RH,↓reduceIte,qE,reduceCtorEq,if_pos,↓RS,RG,qA,qM,qL]
  apply hK;clear hK K
  refine W.cond rfl (fun h1=>?_) (fun h1=>?_)
  ·try simp only[RL]at h1
   have hno:zbp k=none:=by cases h:zbp k with | none=>rfl | some p=>rw [h]at h1; simp at h1
   refine W.r fun K hK=>?_
   simp(disch:=omega)only[↓RU,RV,RH,↓reduceIte,qE,reduceCtorEq,if_pos,↓RS,RG,qA,qM,qL]
   apply hK;clear hK K
   refine W.ret ?_
   refine XThen.ret ?_
   refine XBlock.ret ?_
   refine XThen.ret ?_
   refine XThen.ret ?_
   refine XBlock.ret ?_
   refine XThen.ret ?_
   refine Br rfl ?_
   rw [z01 hkm hno]
   rfl
  try simp only[RL]at h1
  obtain ⟨p,hp⟩:∃ p,zbp k=some p:=by cases h:zbp k with | none=>rw [h]at h1; simp at h1 | some p=>exact ⟨p,rfl⟩
  refine W.skip ?_
  refine xn ?_
  refine W.k fun K hK=>?_
  by_cases hP0:(psT (ks.take i))=[]
  ·skip
   rw [hP0,ybl,ybu]
   simp(disch:=omega)only[↓RU,RV,RH,↓reduceIte,qE,reduceCtorEq,if_pos,↓RS,RG,qA,qM,qL,ty1,ty7,zth,z2h,z8w]
   apply hK;clear hK K
   refine XbN ?_
   refine xn ?_
   refine W.k fun K hK=>?_
   simp(disch:=omega)only[↓RU,RV,RH,↓reduceIte,qE,reduceCtorEq,if_pos,w64,↓RS,RG,qA,qM,qL,zaa]
   apply hK;clear hK K
   refine xn ?_
   refine ⟨ks.length - (i+1),by omega,0,[1],[eK c ks,.loc 0 (t+2) 0 (psT (ks.take (i+1))).length,.sl (ks.map eT) ks.length,.int .i64 ks.length,.int .i64 ((i+1:Nat):Int)],⟨[.arr (t+2) 43 1 (psT (ks.take (i+1)))],t+3⟩,?_,?_,i+1,t+2,t+3,rfl,by omega,?_,?_,?_⟩
   ·rw [zge hk,hP0]; simp [-qU,Env.put,Env.of,zaj,zb9,zaq,zau,za2,za3,zcd,zce,zdo,zcc,zbm,zcf,zdn,zdp,zbo,zbn,za4,zcb,zcg,zdm,zbk,zbj,za1,zbl,zca,zf8,qS,qP,qC,eK]
   ·rw [zge hk,hP0]; simp [-qU,Env.put,Env.of,zaj,zb9,zaq,zau,za2,za3,zcd,zce,zdo,zcc,zbm,zcf,zdn,zdp,zbo,zbn,za4,zcb,zcg,zdm,zbk,zbj,za1,zbl,zca,zf8,qS,qP,qC,z4w]
   ·intro x hx; rw [tk hk,List.mem_append,List.mem_singleton]at hx; rcases hx with hx | rfl; exact hall x hx; exact ⟨p,hp⟩
   ·rw [z5b (by rw [zge hk]; simp)]
   rw [z5t (by rw [zge hk]; simp)]
  skip
  have hpl:=ya7 (ks:=ks.take i)
  have htl:=List.length_take_le i ks
  rw [z5b hP0,z5t hP0]
  simp(disch:=omega)only[↓RU,RV,RH,↓reduceIte,qE,reduceCtorEq,if_pos,↓RS,RG,qA,qM,qL,ty1,ty7,zth,z2h,z8w]
  apply hK;clear hK K
  refine XbN ?_
  refine xn ?_
  refine W.k fun K hK=>?_
  simp(disch:=omega)only[↓RU,RV,RH,↓reduceIte,qE,reduceCtorEq,if_pos,w64,↓RS,RG,qA,qM,qL,zaa]
  apply hK;clear hK K
  refine xn ?_
  refine ⟨ks.length - (i+1),by omega,1,[],[eK c ks,.loc 0 (t+1) 0 (psT (ks.take (i+1))).length,.sl (ks.map eT) ks.length,.int .i64 ks.length,.int .i64 ((i+1:Nat):Int)],⟨[.arr (t+1) 43 1 (psT (ks.take (i+1)))],t+3⟩,?_,?_,i+1,t+1,t+3,rfl,by omega,?_,?_,?_⟩
  ·rw [zge hk]; simp [-qU,Env.put,Env.of,zaj,zb9,zaq,zau,za2,za3,zcd,zce,zdo,zcc,zbm,zcf,zdn,zdp,zbo,zbn,za4,zcb,zcg,zdm,zbk,zbj,za1,zbl,zca,zf8,qS,qP,qC,eK]
  ·rw [zge hk]; simp [-qU,Env.put,Env.of,zaj,zb9,zaq,zau,za2,za3,zcd,zce,zdo,zcc,zbm,zcf,zdn,zdp,zbo,zbn,za4,zcb,zcg,zdm,zbk,zbj,za1,zbl,zca,zf8,qS,qP,qC,z4w,yc4]
  ·intro x hx; rw [tk hk,List.mem_append,List.mem_singleton]at hx; rcases hx with hx | rfl; exact hall x hx; exact ⟨p,hp⟩
  ·rw [z5b (by rw [zge hk]; simp)]
  rw [z5t (by rw [zge hk]; simp)]
 try simp only[RL]at h0
 obtain rfl:i=ks.length:=by omega
 rw [List.take_length]at hall ⊢
 refine W.exit ?_
 refine xe ?_
 refine xe ?_
 refine XBlock.hit ?_
 refine xn ?_
 refine W.seq ?_
 refine W.r fun K hK=>?_
 simp(disch:=omega)only[↓RU,RV,RH,↓reduceIte,qE,reduceCtorEq,if_pos,↓RS,RG,qA,qM,qL,ty2,ty8,z9s,z9u,za0,eK]
 apply hK;clear hK K
 refine W.block ?_
 refine W.r fun K hK=>?_
 rcases z0h hn h9 hc hall with ⟨k,p,rfl,hcc,hp,hpl⟩ | ⟨k,p,rfl,hcc,hp,hpl⟩ | ⟨a,b,p,q,rfl,hcc,hp,hq,hpl,hql,hpq⟩ | ⟨a,b,p,q,rfl,hcc,hp,hq,hpl,hql,hpq⟩
 ·skip
  have hps:psT [k]=[flP (some p)]:=by simp [psT,hp]
  rw [hps]
  simp only[slP1,tlP1]
  have d1:((c.toNat:Int) == 62)=true:=by rw [hcc]; rfl
  simp(disch:=omega)only[↓RU,RV,RH,↓reduceIte,qE,reduceCtorEq,if_pos,w64,↓RS,RG,qA,qM,qL,za0,d1]
  apply hK;clear hK K
  refine W.cond rfl (fun k0=>?_) (fun k0=>?_)
  ·try simp only[RL]at k0
   refine W.r fun K hK=>?_
   obtain ⟨-,-,-,-,hg,-,-,-⟩:=zai hpl
   have hm:=zif hpl
   have hS:=zeu (g:=zl8 p) (by have:=hm.gw.1; have:=hm.gw.2.2.2.1; omega) (fun r hr=>by have:=hm.gw.2.1 r hr; have:=hm.gw.2.2.2.2.2; omega)
   rw [zle hm]at hS
   simp(disch:=omega)only[↓RU,RV,RH,↓reduceIte,qE,reduceCtorEq,if_pos,qN,↓RS,RG,qA,qM,qL,ty1,ty7,Int.toNat_zero,Nat.zero_mul,qZ,qM,Nat.zero_add,Nat.mul_one,List.getElem?_cons_zero,List.getElem?_cons_succ,zdg]
   refine zae.pc (zvx hg (rP p)) rfl (.inr rfl) ?_
   simp(disch:=omega)only[↓RU,RV,RH,↓reduceIte,qE,reduceCtorEq,if_pos,qN,↓RS,RG,qA,qM,qL,ty1,ty7,Int.toNat_zero,Nat.zero_mul,qZ,qM,Nat.zero_add,Nat.mul_one,List.getElem?_cons_zero,List.getElem?_cons_succ,zdg]
   refine zae.pc (hS) rfl (.inr rfl) ?_
   simp(disch:=omega)only[↓RU,RV,RH,↓reduceIte,qE,reduceCtorEq,if_pos,qN,↓RS,RG,qA,qM,qL,ty1,ty7,Int.toNat_zero,Nat.zero_mul,qZ,qM,Nat.zero_add,Nat.mul_one,List.getElem?_cons_zero,List.getElem?_cons_succ,zdg,flV]
   apply hK;clear hK K
   refine W.ret ?_
   refine XBlock.ret ?_
   refine XThen.ret ?_
   refine Br rfl ?_
   rw [show zo8 c [k]=some (nm (zl8 p)) by simp only[zo8,zbp,hp,qO,hcc,if_pos]]
   rfl
  try simp only[RL]at k0
  exact absurd k0 (by simp)
 ·skip
  have hps:psT [k]=[flP (some p)]:=by simp [psT,hp]
  rw [hps]
  simp only[slP1,tlP1]
  have d1:((c.toNat:Int) == 62)=false:=by rw [hcc]; rfl
  have d2:((c.toNat:Int) == 94)=true:=by rw [hcc]; rfl
  simp(disch:=omega)only[↓RU,RV,RH,↓reduceIte,qE,reduceCtorEq,if_pos,w64,↓RS,RG,qA,qM,qL,za0,d1]
  apply hK;clear hK K
  refine W.cond rfl (fun k0=>?_) (fun k0=>?_)
  ·try simp only[RL]at k0
   exact absurd k0 (by simp)
  try simp only[RL]at k0
  refine W.r fun K hK=>?_
  simp(disch:=omega)only[↓RU,RV,RH,↓reduceIte,qE,reduceCtorEq,if_pos,w64,↓RS,RG,qA,qM,qL,za0,d2]
  apply hK;clear hK K
  refine W.cond rfl (fun k1=>?_) (fun k1=>?_)
  ·try simp only[RL]at k1
   refine W.r fun K hK=>?_
   obtain ⟨-,-,-,-,hg,-,-,-⟩:=zai hpl
   have hm:=zoi hpl
   have hS:=zeu (g:=zrw p) (by have:=hm.gw.1; have:=hm.gw.2.2.2.1; omega) (fun r hr=>by have:=hm.gw.2.1 r hr; have:=hm.gw.2.2.2.2.2; omega)
   rw [zle hm]at hS
   simp(disch:=omega)only[↓RU,RV,RH,↓reduceIte,qE,reduceCtorEq,if_pos,qN,↓RS,RG,qA,qM,qL,ty1,ty7,Int.toNat_zero,Nat.zero_mul,qZ,qM,Nat.zero_add,Nat.mul_one,List.getElem?_cons_zero,List.getElem?_cons_succ,zdg]
   refine zae.pc (z0b hg (rP p)) rfl (.inr rfl) ?_
   simp(disch:=omega)only[↓RU,RV,RH,↓reduceIte,qE,reduceCtorEq,if_pos,qN,↓RS,RG,qA,qM,qL,ty1,ty7,Int.toNat_zero,Nat.zero_mul,qZ,qM,Nat.zero_add,Nat.mul_one,List.getElem?_cons_zero,List.getElem?_cons_succ,zdg]
   refine zae.pc (hS) rfl (.inr rfl) ?_
   simp(disch:=omega)only[↓RU,RV,RH,↓reduceIte,qE,reduceCtorEq,if_pos,qN,↓RS,RG,qA,qM,qL,ty1,ty7,Int.toNat_zero,Nat.zero_mul,qZ,qM,Nat.zero_add,Nat.mul_one,List.getElem?_cons_zero,List.getElem?_cons_succ,zdg,flV]
   apply hK;clear hK K
   refine W.ret ?_
   refine XBlock.ret ?_
   refine XThen.ret ?_
   refine Br rfl ?_
   rw [show zo8 c [k]=some (nm (zrw p)) by simp only[zo8,zbp,hp,qO,hcc]; rw [if_neg (by decide)]]
   rfl
  try simp only[RL]at k1
  exact absurd k1 (by simp)
 ·skip
  have hps:psT [a,b]=[flP (some p),flP (some q)]:=by simp [psT,hp,hq]
  rw [hps]
  simp only[slP2,tlP2]
  have d1:((c.toNat:Int) == 62)=false:=by rw [hcc]; rfl
  have d2:((c.toNat:Int) == 94)=false:=by rw [hcc]; rfl
  have d3:((c.toNat:Int) == 124)=true:=by rw [hcc]; rfl
  simp(disch:=omega)only[↓RU,RV,RH,↓reduceIte,qE,reduceCtorEq,if_pos,w64,↓RS,RG,qA,qM,qL,za0,d1]
  apply hK;clear hK K
  refine W.cond rfl (fun k0=>?_) (fun k0=>?_)
  ·try simp only[RL]at k0
   exact absurd k0 (by simp)
  try simp only[RL]at k0
  refine W.r fun K hK=>?_
  simp(disch:=omega)only[↓RU,RV,RH,↓reduceIte,qE,reduceCtorEq,if_pos,w64,↓RS,RG,qA,qM,qL,za0,d2]
  apply hK;clear hK K
  refine W.cond rfl (fun k1=>?_) (fun k1=>?_)
  ·try simp only[RL]at k1
   exact absurd k1 (by simp)
  try simp only[RL]at k1
  refine W.r fun K hK=>?_
  simp(disch:=omega)only[↓RU,RV,RH,↓reduceIte,qE,reduceCtorEq,if_pos,w64,↓RS,RG,qA,qM,qL,za0,d3]
  apply hK;clear hK K
  refine W.cond rfl (fun k2=>?_) (fun k2=>?_)
  ·try simp only[RL]at k2
   refine W.seq_draw (by kernel_rfl) fun K hK=>?_
   obtain ⟨a1,a2,a3,a4,hg1,-,a7,-⟩:=zai hpl
   obtain ⟨b1,b2,b3,b4,hg2,-,b7,-⟩:=zai hql
   have hS:=zeu (g:=zv2 p q) (by unfold zv2; rw [zje]; omega) (fun r hr=>by rw [znd r hr]; omega)
   have hj:=zzp (m:=c) hpl hql hpq
   rw [if_pos hcc]at hj
   rw [hj]at hS
   clear hj
   simp(disch:=omega)only[↓RU,RV,RH,↓reduceIte,qE,reduceCtorEq,if_pos,qN,↓RS,RG,qA,qM,qL,ty1,ty7,Int.toNat_zero,Nat.zero_mul,qZ,qM,Nat.zero_add,Nat.mul_one,List.getElem?_cons_zero,List.getElem?_cons_succ,zdg]
   refine zae.pc (z6h hg1 hg2 (rP p) (rP q) (by omega) (zsj hql)) rfl (.inr rfl) ?_
   simp(disch:=omega)only[↓RU,RV,RH,↓reduceIte,qE,reduceCtorEq,if_pos,qN,↓RS,RG,qA,qM,qL,ty1,ty7,Int.toNat_zero,Nat.zero_mul,qZ,qM,Nat.zero_add,Nat.mul_one,List.getElem?_cons_zero,List.getElem?_cons_succ,zdg]
   refine zae.pc (hS) rfl (.inr rfl) ?_
   simp(disch:=omega)only[↓RU,RV,RH,↓reduceIte,qE,reduceCtorEq,if_pos,qN,↓RS,RG,qA,qM,qL,ty1,ty7,Int.toNat_zero,Nat.zero_mul,qZ,qM,Nat.zero_add,Nat.mul_one,List.getElem?_cons_zero,List.getElem?_cons_succ,zdg,flV]
   apply hK;clear hK K
   refine W.ret ?_
   refine XBlock.ret ?_
   refine XThen.ret ?_
   refine Br rfl ?_
   rw [show zo8 c [a,b]=zjq c p q by simp only[zo8,zbp,hp,hq,Option.bind_some]]
   cases zjq c p q <;> rfl
  try simp only[RL]at k2
  exact absurd k2 (by simp)
 skip
 have hps:psT [a,b]=[flP (some p),flP (some q)]:=by simp [psT,hp,hq]
 rw [hps]
 simp only[slP2,tlP2]
 have d1:((c.toNat:Int) == 62)=false:=by rw [hcc]; rfl
 have d2:((c.toNat:Int) == 94)=false:=by rw [hcc]; rfl
 have d3:((c.toNat:Int) == 124)=false:=by rw [hcc]; rfl
 have d4:((c.toNat:Int) == 45)=true:=by rw [hcc]; rfl
 simp(disch:=omega)only[↓RU,RV,RH,↓reduceIte,qE,reduceCtorEq,if_pos,w64,↓RS,RG,qA,qM,qL,za0,d1]
 apply hK;clear hK K
 refine W.cond rfl (fun k0=>?_) (fun k0=>?_)
 ·try simp only[RL]at k0
  exact absurd k0 (by simp)
 try simp only[RL]at k0
 refine W.r fun K hK=>?_
 simp(disch:=omega)only[↓RU,RV,RH,↓reduceIte,qE,reduceCtorEq,if_pos,w64,↓RS,RG,qA,qM,qL,za0,d2]
 apply hK;clear hK K
 refine W.cond rfl (fun k1=>?_) (fun k1=>?_)
 ·try simp only[RL]at k1
  exact absurd k1 (by simp)
 try simp only[RL]at k1
 refine W.r fun K hK=>?_
 simp(disch:=omega)only[↓RU,RV,RH,↓reduceIte,qE,reduceCtorEq,if_pos,w64,↓RS,RG,qA,qM,qL,za0,d3]
 apply hK;clear hK K
 refine W.cond rfl (fun k2=>?_) (fun k2=>?_)
 ·try simp only[RL]at k2
  exact absurd k2 (by simp)
 try simp only[RL]at k2
 refine W.r fun K hK=>?_
 simp(disch:=omega)only[↓RU,RV,RH,↓reduceIte,qE,reduceCtorEq,if_pos,w64,↓RS,RG,qA,qM,qL,za0,d4]
 apply hK;clear hK K
 refine W.cond rfl (fun k3=>?_) (fun k3=>?_)
 ·try simp only[RL]at k3
  refine W.seq_draw (by kernel_rfl) fun K hK=>?_
  obtain ⟨a1,a2,a3,a4,hg1,-,a7,-⟩:=zai hpl
  obtain ⟨b1,b2,b3,b4,hg2,-,b7,-⟩:=zai hql
  have hS:=zeu (g:=zpv p q) (by unfold zpv; rw [zje]; omega) (fun r hr=>by rw [znd r hr]; omega)
  have hj:=zzp (m:=c) hpl hql hpq
  rw [if_neg (by rw [hcc]; decide)]at hj
  rw [hj]at hS
  clear hj
  simp(disch:=omega)only[↓RU,RV,RH,↓reduceIte,qE,reduceCtorEq,if_pos,qN,↓RS,RG,qA,qM,qL,ty1,ty7,Int.toNat_zero,Nat.zero_mul,qZ,qM,Nat.zero_add,Nat.mul_one,List.getElem?_cons_zero,List.getElem?_cons_succ,zdg]
  refine zae.pc (z6j hg1 hg2 (rP p) (rP q) (by omega) (zsj hql)) rfl (.inr rfl) ?_
  simp(disch:=omega)only[↓RU,RV,RH,↓reduceIte,qE,reduceCtorEq,if_pos,qN,↓RS,RG,qA,qM,qL,ty1,ty7,Int.toNat_zero,Nat.zero_mul,qZ,qM,Nat.zero_add,Nat.mul_one,List.getElem?_cons_zero,List.getElem?_cons_succ,zdg]
  refine zae.pc (hS) rfl (.inr rfl) ?_
  simp(disch:=omega)only[↓RU,RV,RH,↓reduceIte,qE,reduceCtorEq,if_pos,qN,↓RS,RG,qA,qM,qL,ty1,ty7,Int.toNat_zero,Nat.zero_mul,qZ,qM,Nat.zero_add,Nat.mul_one,List.getElem?_cons_zero,List.getElem?_cons_succ,zdg,flV]
  apply hK;clear hK K
  refine W.ret ?_
  refine XBlock.ret ?_
  refine XThen.ret ?_
  refine Br rfl ?_
  rw [show zo8 c [a,b]=zjq c p q by simp only[zo8,zbp,hp,hq,Option.bind_some]]
  cases zjq c p q <;> rfl
 try simp only[RL]at k3
 exact absurd k3 (by simp)
theorem z6x:∀ t:Tm,t.ok→t.n≤7→PC Tryz.prog 25 [eT t] (flV (zbp t)) false:=by
 intro t
 induction t with
 | o=>intro _ _; exact yam
 | un c t ih =>
  intro h h7
  exact z2r (c:=c) (ks:=[t]) (by simp) (by simp) (fun k hk=>by obtain rfl:=List.mem_singleton.1 hk; exact ⟨h.2,h7⟩) (by have h8:t.n≤7:=h7; simpa using h8) (fun k hk=>by obtain rfl:=List.mem_singleton.1 hk; exact ih h.2 h7) (.inl ⟨h.1,rfl⟩)
 | bin m a b i1 i2 =>
  intro h h7
  have pa:=a.pos
  have pb:=b.pos
  simp only[Tm.n]at h7
  exact z2r (c:=m) (ks:=[a,b]) (by simp) (by simp) (fun k hk=>by
   simp only[List.mem_cons,List.not_mem_nil,or_false]at hk
   rcases hk with rfl | rfl
   ·exact ⟨h.2.1,by omega⟩
   ·exact ⟨h.2.2,by omega⟩) (by simpa using h7) (fun k hk=>by
   simp only[List.mem_cons,List.not_mem_nil,or_false]at hk
   rcases hk with rfl | rfl
   ·exact i1 h.2.1 (by omega)
   exact i2 h.2.2 (by omega)) (.inr ⟨h.1,rfl⟩)
def tpR (s:Txt):PV:=match tpV s with | some p => .tup [zaz p,.bool true] | none => .tup [.sl [] 0,.bool false]
theorem z7q {p:List Txt} (hp:zak p=true) {r:List Int} (hr:r∈gP p) {z:Int} (hz:z∈r):0≤z∧z≤100:=by
 obtain ⟨a1,a2,a3,a4,hg,-,-,-⟩:=zai hp
 obtain ⟨i,hi⟩:=List.getElem?_of_mem hr
 obtain ⟨j,hj⟩:=List.getElem?_of_mem hz
 have h1:=zbc hi
 have h2:=zbc hj
 rw [hg.1]at h1
 rw [hg.2.1 r hr]at h2
 have:=zsj hp i j h1 h2
 rwa [show gz (gP p) i j=z by simp [gz,hi,hj]]at this
theorem zpp (s:Txt) (hs:s.length≤1048576):PC Tryz.prog 7 [.str s] (tpR s) false:=by
 refine PC.of ⟨Tryz.func7,by kernel_rfl,rfl,by kernel_rfl⟩ zav mixed (by show 1≤Tryz.f7.ntmps; decide) ?_
 refine W.r fun K hK=>?_
 simp(disch:=omega)only[↓RU,RV,RH,↓reduceIte,qE,reduceCtorEq,if_pos,↓RS,RG,qA,qM,qL]
 apply hK;clear hK K
 refine W.r fun K hK=>?_
 simp(disch:=omega)only[↓RU,RV,RH,↓reduceIte,qE,reduceCtorEq,if_pos,qN,↓RS,RG,qA,qM,qL]
 refine zae.pc (z5o s hs) rfl (.inr rfl) ?_
 simp(disch:=omega)only[↓RU,RV,RH,↓reduceIte,qE,reduceCtorEq,if_pos,qN,↓RS,RG,qA,qM,qL]
 apply hK;clear hK K
 refine W.seq ?_
 refine W.r fun K hK=>?_
 rcases ho:ofT s with _ | t
 ·skip
  rw [zwi]
  simp(disch:=omega)only[↓RU,RV,RH,↓reduceIte,qE,reduceCtorEq,if_pos,w64,↓RS,RG,qA,qM,qL,ty8,zj3,zj2,qO]
  apply hK;clear hK K
  refine W.cond rfl (fun h0=>?_) (fun h0=>?_)
  ·try simp only[RL]at h0
   refine W.r fun K hK=>?_
   simp(disch:=omega)only[↓RU,RV,RH,↓reduceIte,qE,reduceCtorEq,if_pos,↓RS,RG,qA,qM,qL]
   apply hK;clear hK K
   refine W.ret ?_
   refine XThen.ret ?_
   refine Br rfl ?_
   rw [show tpR s = .tup [.sl [] 0,.bool false] by unfold tpR tpV; rw [ho]; rfl]
   rfl
  try simp only[RL]at h0
  exact absurd h0 (by simp)
 skip
 obtain ⟨cs,hcs⟩:=zlp t
 have hok:=zum ho
 have hfl:=z6x t hok.1 hok.2.1
 rw [zji,hcs]
 rw [hcs]at hfl
 simp(disch:=omega)only[↓RU,RV,RH,↓reduceIte,qE,reduceCtorEq,if_pos,w64,↓RS,RG,qA,qM,qL,ty8,zj3,zj2,qO]
 apply hK;clear hK K
 refine W.cond rfl (fun h0=>?_) (fun h0=>?_)
 ·try simp only[RL]at h0
  exact absurd h0 (by simp)
 try simp only[RL]at h0
 refine W.skip ?_
 refine xn ?_
 refine W.r fun K hK=>?_
 simp(disch:=omega)only[↓RU,RV,RH,↓reduceIte,qE,reduceCtorEq,if_pos,qN,↓RS,RG,qA,qM,qL,flV]
 refine zae.pc (hfl) rfl (.inr rfl) ?_
 simp(disch:=omega)only[↓RU,RV,RH,↓reduceIte,qE,reduceCtorEq,if_pos,qN,↓RS,RG,qA,qM,qL,flV]
 apply hK;clear hK K
 refine W.seq ?_
 refine W.r fun K hK=>?_
 rcases hp:zbp t with _ | p
 ·skip
  simp only[Option.isSome_none]
  simp(disch:=omega)only[↓RU,RV,RH,↓reduceIte,qE,reduceCtorEq,if_pos,↓RS,RG,qA,qM,qL]
  apply hK;clear hK K
  refine W.cond rfl (fun h1=>?_) (fun h1=>?_)
  ·try simp only[RL]at h1
   refine W.r fun K hK=>?_
   simp(disch:=omega)only[↓RU,RV,RH,↓reduceIte,qE,reduceCtorEq,if_pos,↓RS,RG,qA,qM,qL]
   apply hK;clear hK K
   refine W.ret ?_
   refine XThen.ret ?_
   refine Br rfl ?_
   rw [show tpR s = .tup [.sl [] 0,.bool false] by unfold tpR tpV; rw [ho,Option.bind_some,hp]]
   rfl
  try simp only[RL]at h1
  exact absurd h1 (by simp)
 skip
 obtain ⟨hpl,hn7,-⟩:=ze3 hok.1 (by have:=hok.2.1; omega) hp
 obtain ⟨a1,a2,a3,a4,hg,-,-,-⟩:=zai hpl
 simp only[Option.isSome_some,zdg]
 simp(disch:=omega)only[↓RU,RV,RH,↓reduceIte,qE,reduceCtorEq,if_pos,↓RS,RG,qA,qM,qL]
 apply hK;clear hK K
 refine W.cond rfl (fun h1=>?_) (fun h1=>?_)
 ·try simp only[RL]at h1
  exact absurd h1 (by simp)
 try simp only[RL]at h1
 refine W.skip ?_
 refine xn ?_
 refine W.r fun K hK=>?_
 simp(disch:=omega)only[↓RU,RV,RH,↓reduceIte,qE,reduceCtorEq,if_pos,qN,↓RS,RG,qA,qM,qL]
 refine zae.pc (zxf hg (rP p) (fun r hr z hz=>z7q hpl hr hz)) rfl (.inl rfl) ?_
 simp(disch:=omega)only[↓RU,RV,RH,↓reduceIte,qE,reduceCtorEq,if_pos,qN,↓RS,RG,qA,qM,qL]
 apply hK;clear hK K
 refine W.ret ?_
 refine Br rfl ?_
 rw [show tpR s = .tup [zaz p,.bool true] by unfold tpR tpV; rw [ho,Option.bind_some,hp]]
 rw [(zbw (zbi hpl)).ht]
 rfl
theorem zft  : PC Tryz.prog 28 [] (.tup [zaz [],.bool false]) true:=by
 refine PC.of ⟨Tryz.func28,by kernel_rfl,rfl,by kernel_rfl⟩ zav mixed (by show 0≤Tryz.f28.ntmps; decide) ?_
 refine W.r fun K hK=>?_
 simp(disch:=omega)only[↓RU,RV,RH,↓reduceIte,qE,reduceCtorEq,if_pos,↓RS,RG,qA,qM,qL]
 apply hK;clear hK K
 refine W.r fun K hK=>?_
 simp(disch:=omega)only[↓RU,RV,RH,↓reduceIte,qE,reduceCtorEq,if_pos,↓RS,RG,qA,qM,qL,ty5,zab]
 apply hK;clear hK K
 refine W.ret ?_
 refine Br rfl ?_
 exact zl2 (k:=9) (zd9 (k:=8) (n:=0) rfl rfl rfl) rfl
theorem zub {p:List Txt} (hs:Sm p):PC Tryz.prog 67 [zaz p] (.tup [zaz (zi0 p).1,.bool (zi0 p).2]) false:=by
 refine PC.of ⟨Tryz.func67,by kernel_rfl,rfl,by kernel_rfl⟩ zav mixed (by show 1≤Tryz.f67.ntmps; decide) ?_
 refine W.r fun K hK=>?_
 simp(disch:=omega)only[↓RU,RV,RH,↓reduceIte,qE,reduceCtorEq,if_pos,↓RS,RG,qA,qM,qL]
 apply hK;clear hK K
 refine W.seq ?_
 refine W.r fun K hK=>?_
 rcases hgg:(zcr p,zbx (names p)) with ⟨_ | _,_ | _⟩
 ·skip
  simp only[Prod.mk.injEq]at hgg
  obtain ⟨hg1,hg2⟩:=hgg
  simp(disch:=omega)only[↓RU,RV,RH,↓reduceIte,qE,reduceCtorEq,if_pos,qN,↓RS,RG,qA,qM,qL,hg1,hg2]
  refine zae.pc (ze1 hs) rfl (.inl rfl) ?_
  simp(disch:=omega)only[↓RU,RV,RH,↓reduceIte,qE,reduceCtorEq,if_pos,qN,↓RS,RG,qA,qM,qL,hg1,hg2]
  apply hK;clear hK K
  refine W.cond rfl (fun h=>?_) (fun h=>?_)
  ·try simp only[RL]at h
   refine W.r fun K hK=>?_
   simp(disch:=omega)only[↓RU,RV,RH,↓reduceIte,qE,reduceCtorEq,if_pos,qN,↓RS,RG,qA,qM,qL]
   refine zae.pc (zft) rfl (.inl rfl) ?_
   simp(disch:=omega)only[↓RU,RV,RH,↓reduceIte,qE,reduceCtorEq,if_pos,qN,↓RS,RG,qA,qM,qL]
   apply hK;clear hK K
   refine W.ret ?_
   refine XThen.ret ?_
   refine Br rfl ?_
   rw [show zi0 p=([],false) by unfold zi0; rw [hg1]; rfl]
   rfl
  try simp only[RL]at h
  exact absurd h (by simp)
 ·skip
  simp only[Prod.mk.injEq]at hgg
  obtain ⟨hg1,hg2⟩:=hgg
  simp(disch:=omega)only[↓RU,RV,RH,↓reduceIte,qE,reduceCtorEq,if_pos,qN,↓RS,RG,qA,qM,qL,hg1,hg2]
  refine zae.pc (ze1 hs) rfl (.inl rfl) ?_
  simp(disch:=omega)only[↓RU,RV,RH,↓reduceIte,qE,reduceCtorEq,if_pos,qN,↓RS,RG,qA,qM,qL,hg1,hg2]
  apply hK;clear hK K
  refine W.cond rfl (fun h=>?_) (fun h=>?_)
  ·try simp only[RL]at h
   refine W.r fun K hK=>?_
   simp(disch:=omega)only[↓RU,RV,RH,↓reduceIte,qE,reduceCtorEq,if_pos,qN,↓RS,RG,qA,qM,qL]
   refine zae.pc (zft) rfl (.inl rfl) ?_
   simp(disch:=omega)only[↓RU,RV,RH,↓reduceIte,qE,reduceCtorEq,if_pos,qN,↓RS,RG,qA,qM,qL]
   apply hK;clear hK K
   refine W.ret ?_
   refine XThen.ret ?_
   refine Br rfl ?_
   rw [show zi0 p=([],false) by unfold zi0; rw [hg1]; rfl]
   rfl
  try simp only[RL]at h
  exact absurd h (by simp)
 ·skip
  simp only[Prod.mk.injEq]at hgg
  obtain ⟨hg1,hg2⟩:=hgg
  simp(disch:=omega)only[↓RU,RV,RH,↓reduceIte,qE,reduceCtorEq,if_pos,qN,↓RS,RG,qA,qM,qL,hg1,hg2]
  refine zae.pc (ze1 hs) rfl (.inl rfl) ?_
  simp(disch:=omega)only[↓RU,RV,RH,↓reduceIte,qE,reduceCtorEq,if_pos,qN,↓RS,RG,qA,qM,qL,hg1,hg2]
  refine zae.pc (zd0 hs) rfl (.inl rfl) ?_
  simp(disch:=omega)only[↓RU,RV,RH,↓reduceIte,qE,reduceCtorEq,if_pos,qN,↓RS,RG,qA,qM,qL,hg1,hg2]
  refine zae.pc (zrf hs.names) rfl (.inl rfl) ?_
  simp(disch:=omega)only[↓RU,RV,RH,↓reduceIte,qE,reduceCtorEq,if_pos,qN,↓RS,RG,qA,qM,qL,hg1,hg2]
  apply hK;clear hK K
  refine W.cond rfl (fun h=>?_) (fun h=>?_)
  ·try simp only[RL]at h
   refine W.r fun K hK=>?_
   simp(disch:=omega)only[↓RU,RV,RH,↓reduceIte,qE,reduceCtorEq,if_pos,qN,↓RS,RG,qA,qM,qL]
   refine zae.pc (zft) rfl (.inl rfl) ?_
   simp(disch:=omega)only[↓RU,RV,RH,↓reduceIte,qE,reduceCtorEq,if_pos,qN,↓RS,RG,qA,qM,qL]
   apply hK;clear hK K
   refine W.ret ?_
   refine XThen.ret ?_
   refine Br rfl ?_
   rw [show zi0 p=([],false) by unfold zi0; rw [hg1,hg2]; rfl]
   rfl
  try simp only[RL]at h
  exact absurd h (by simp)
 skip
 simp only[Prod.mk.injEq]at hgg
 obtain ⟨hg1,hg2⟩:=hgg
 simp(disch:=omega)only[↓RU,RV,RH,↓reduceIte,qE,reduceCtorEq,if_pos,qN,↓RS,RG,qA,qM,qL,hg1,hg2]
 refine zae.pc (ze1 hs) rfl (.inl rfl) ?_
 simp(disch:=omega)only[↓RU,RV,RH,↓reduceIte,qE,reduceCtorEq,if_pos,qN,↓RS,RG,qA,qM,qL,hg1,hg2]
 refine zae.pc (zd0 hs) rfl (.inl rfl) ?_
 simp(disch:=omega)only[↓RU,RV,RH,↓reduceIte,qE,reduceCtorEq,if_pos,qN,↓RS,RG,qA,qM,qL,hg1,hg2]
 refine zae.pc (zrf hs.names) rfl (.inl rfl) ?_
 simp(disch:=omega)only[↓RU,RV,RH,↓reduceIte,qE,reduceCtorEq,if_pos,qN,↓RS,RG,qA,qM,qL,hg1,hg2]
 apply hK;clear hK K
 refine W.cond rfl (fun h=>?_) (fun h=>?_)
 ·try simp only[RL]at h
  exact absurd h (by simp)
 try simp only[RL]at h
 refine W.skip ?_
 refine xn ?_
 refine W.r fun K hK=>?_
 simp(disch:=omega)only[↓RU,RV,RH,↓reduceIte,qE,reduceCtorEq,if_pos,qN,↓RS,RG,qA,qM,qL]
 refine zae.pc (zd0 hs) rfl (.inl rfl) ?_
 simp(disch:=omega)only[↓RU,RV,RH,↓reduceIte,qE,reduceCtorEq,if_pos,qN,↓RS,RG,qA,qM,qL]
 apply hK;clear hK K
 refine W.ret ?_
 refine Br rfl ?_
 rw [show zi0 p=(names p,true) by unfold zi0; rw [hg1,hg2]; rfl]
 rfl
theorem zo7 {code:Txt} {q vr t:Nat} {R:List Ob} (hc:code.length≤1048576) (hq:q≤1000000) (n:Int) (hn:n≤1000000) (hn0 : -1000000≤n) :
  Ev Tryz.prog 99 [.ref 0 vr 0,.int .i64 n] ⟨.arr vr 131 2 [eBy code,.int .i64 (q:Int)]::R,t⟩ fun v S=>∃ k:Nat,v = .int .i64 (k:Int)∧(n<1→k=0)∧(1≤n→(k:Int)<n)∧S=⟨.arr vr 131 2 [eBy code,.int .i64 ((q+1:Nat):Int)]::R,t⟩ :=
 z7n hc hq n hn hn0
theorem z7f {code:Txt} {q vr t v1:Nat} {R:List Ob} {l:List Txt} (hc:code.length≤1048576) (hq:q≤1000000) (hl:1≤l.length) (hl2:l.length≤1000):Ev Tryz.prog 100 [.ref 0 vr 0,.loc 1 v1 0 l.length] ⟨.arr vr 131 2 [eBy code,.int .i64 (q:Int)] :: .arr v1 9 1 (l.map .str)::R,t⟩ fun v S=>∃ s,s∈l∧v = .str s∧S=⟨.arr vr 131 2 [eBy code,.int .i64 ((q+1:Nat):Int)] :: .arr v1 9 1 (l.map .str)::R,t⟩:=by
 refine Ev.of ⟨Tryz.func100,by kernel_rfl,rfl,by kernel_rfl⟩ zav mixed (by show 2≤Tryz.f100.ntmps; decide) ?_
 refine W.r fun K hK=>?_
 simp(disch:=omega)only[↓RU,RV,RH,↓reduceIte,qE,reduceCtorEq,if_pos,↓RS,RG,qA,qM,qL]
 apply hK;clear hK K
 refine W.r fun K hK=>?_
 simp(disch:=omega)only[↓RU,RV,RH,↓reduceIte,qE,reduceCtorEq,if_pos,qN,↓RS,RG,qA,qM,qL,ty5,zab]
 refine zae.ev (zo7 hc hq (l.length:Int) (by omega) (by omega)) ?_
 rintro _ _ ⟨k,rfl,-,hk,rfl⟩
 have hk2:=hk (by omega)
 obtain ⟨s,hsk,hsm⟩:=zag (show k<l.length by omega)
 simp(disch:=omega)only[↓RU,RV,RH,↓reduceIte,qE,reduceCtorEq,if_pos,qN,↓RS,RG,qA,qM,qL,ty5,zab,hsk]
 apply hK;clear hK K
 refine W.ret ?_
 refine Br rfl ?_
 exact ⟨_,s,hsm,rfl,zbd⟩


theorem zno {S:Store} {x t:Rect}:pEq tab S 79 (zpy x) (.agg [.int .i64 t.row,.int .i64 t.col,.int .i64 t.high,.int .i64 t.wide])=some (decide (x=t)):=by
 have h:(tab 79).kd = .struct [(0,3),(1,3),(2,3),(3,3)]:=by kernel_rfl
 have h2:zfs tab [(0,3),(1,3),(2,3),(3,3)] 0=true:=by kernel_rfl
 obtain ⟨b1,b2,b3,b4⟩:=x
 obtain ⟨o1,o2,o3,o4⟩:=t
 unfold pEq
 rw [h]
 simp [h2,Rect.cells,zop]
def slO (l:List Int) (v:Nat):PV:=match l with | [] => .nils | _ => .loc 1 v 0 l.length
def stO (b:Ob) (l:List Int) (v t:Nat):Store:=match l with | []=>⟨[b],t⟩ | _=>⟨[b,.arr v 3 1 (l.map (.int .i64))],t⟩
theorem zsx {v:Nat}:slO [] v = .nils:=rfl
theorem zsy {b:Ob} {v t:Nat}:stO b [] v t=⟨[b],t⟩:=rfl
theorem zvs {l:List Int} {v:Nat} (h:l≠[]):slO l v = .loc 1 v 0 l.length:=by cases l with | nil=>exact absurd rfl h | cons a l=>rfl
theorem zvt {b:Ob} {l:List Int} {v t:Nat} (h:l≠[]):stO b l v t=⟨[b,.arr v 3 1 (l.map (.int .i64))],t⟩:=by cases l with | nil=>exact absurd rfl h | cons a l=>rfl
theorem z4o {b:Ob} {l:List Int} {v t:Nat} {im:Bool} {k:Nat}:reify (stO b l v t) im (k+2) (slO l v)=some (eInts l):=by
 cases l with
 | nil=>rfl
 | cons a l=>exact zd9 (k:=k+1) (S:=⟨[b,.arr v 3 1 ((a::l).map (.int .i64))],t⟩) (o:=1) rfl (by simp) (z7b _)
theorem zln {g:List (List Int)} {rs:List Rect}:(zap g rs).isDef=true:=rfl
theorem z3b (b:Rect) (t:Rect) (l:List Int):(t.both b≠t∧l=[])∨(t.both b≠t∧l≠[])∨(t.both b=t∧l=[])∨(t.both b=t∧l≠[]):=by
 by_cases h:t.both b=t <;> by_cases e:l=[] <;> simp [h,e]
theorem z3p (g:List (List Int)) {rs:List Rect} (hrs:rs.length≤1000) (hfit:∀ b∈rs,b.Fit) {t:Rect} (ht:t.Fit):PC Tryz.prog 91 [zg5 g rs t] (eInts (rms rs t)) true:=by
 simp only[zg5,Rect.cells]
 refine PC.of ⟨Tryz.func91,by kernel_rfl,rfl,by kernel_rfl⟩ zav mixed (by show 1≤Tryz.f91.ntmps; decide) ?_
 refine W.r fun K hK=>?_
 simp(disch:=omega)only[↓RU,RV,RH,↓reduceIte,qE,reduceCtorEq,if_pos,↓RS,RG,qA,qM,qL,ty7,zbf,zas,zaa,zbg,zat]
 apply hK;clear hK K
 refine W.r fun K hK=>?_
 simp(disch:=omega)only[↓RU,RV,RH,↓reduceIte,qE,reduceCtorEq,if_pos,↓RS,RG,qA,qM,qL]
 apply hK;clear hK K
 refine W.seq ?_
 refine W.r fun K hK=>?_
 simp(disch:=omega)only[↓RU,RV,RH,↓reduceIte,qE,reduceCtorEq,if_pos,↓RS,RG,qA,qM,qL,ty0,ty3,zaf,ty7,zd3,zb4,zbf,zas,zaa,zbg,zd4,zat]
 apply hK;clear hK K
 refine W.block ?_
 refine W.loopS [1,10,11,12,3] (fun n vs S=>∃ i v tk:Nat,n=rs.length - i∧i≤rs.length∧vs=[.ref 0 0 0,zmj rs,.int .i64 rs.length,.int .i64 i,slO (zfh rs t i) v]∧S=stO (.arr 0 81 5 [zap g rs,.int .i64 t.row,.int .i64 t.col,.int .i64 t.high,.int .i64 t.wide]) (zfh rs t i) v tk) rs.length ?_ ?_
 ·refine ⟨1,[],[.ref 0 0 0,zmj rs,.int .i64 rs.length,.int .i64 (0:Nat),slO [] 0],stO (.arr 0 81 5 [zap g rs,.int .i64 t.row,.int .i64 t.col,.int .i64 t.high,.int .i64 t.wide]) [] 0 2,?_,?_,0,0,2,rfl,by omega,rfl,rfl⟩
  ·simp [-qU,Env.put,Env.of,zaj,zb9,zaq,zau,za2,za3,zcd,zce,zdo,zcc,zbm,zcf,zdn,zdp,zbo,zbn,za4,zcb,zcg,zdm,zbk,zbj,za1,zbl,zca,zf8,qS,qP,qC,zsx]
  simp [-qU,Env.put,Env.of,zaj,zb9,zaq,zau,za2,za3,zcd,zce,zdo,zcc,zbm,zcf,zdn,zdp,zbo,zbn,za4,zcb,zcg,zdm,zbk,zbj,za1,zbl,zca,zf8,qS,qP,qC,zsy,zm1,Rect.cells]
 rintro n vs S - ⟨i,v,tk,rfl,h_i,rfl,rfl⟩
 refine W.r fun K hK=>?_
 simp(disch:=omega)only[↓RU,RV,RH,↓reduceIte,qE,reduceCtorEq,if_pos,w64,↓RS,RG,qA,qM,qL,zaa]
 apply hK;clear hK K
 refine W.seq ?_
 refine W.cond rfl (fun h=>?_) (fun h=>?_)
 ·try simp only[RL]at h
  obtain ⟨b,hb,hbm⟩:=zag (show i<rs.length by omega)
  have hbr:=zjc hb
  have hlen:=z4t (rs:=rs) (t:=t) (k:=i)
  generalize hl:zfh rs t i=l at hlen
  refine W.skip ?_
  refine xn ?_
  refine W.seq ?_
  refine W.block ?_
  refine W.r fun K hK=>?_
  obtain ⟨hd,rfl⟩ | ⟨hd,hw⟩ | ⟨hd,rfl⟩ | ⟨hd,hw⟩:=z3b b t l
  ·skip
   rw [zsx,zsy]
   simp(disch:=omega)only[↓RU,RV,RH,↓reduceIte,qE,reduceCtorEq,if_pos,↓RS,RG,qA,qM,qL,ty3,zas,zaa,zat,hbr,zba,Rect.cells]
   apply hK;clear hK K
   refine W.seq_draw (by kernel_rfl) fun K hK=>?_
   simp(disch:=omega)only[↓RU,RV,RH,↓reduceIte,qE,reduceCtorEq,if_pos,qN,w64,↓RS,RG,qA,qM,qL,ty7,zbf,zas,zaa,zbg,zat]
   refine zae.pc (zjf ht.in_ (hfit b hbm).in_) rfl (.inl rfl) ?_
   simp(disch:=omega)only[↓RU,RV,RH,↓reduceIte,qE,reduceCtorEq,if_pos,qN,w64,↓RS,RG,qA,qM,qL,ty7,zbf,zas,zaa,zbg,zat,zno,qO]
   apply hK;clear hK K
   refine W.cond rfl (fun h1=>?_) (fun h1=>?_)
   ·try simp only[RL]at h1
    exact absurd h1 (by simp [hd])
   try simp only[RL]at h1
   refine W.skip ?_
   refine XbN ?_
   refine xn ?_
   refine W.k fun K hK=>?_
   simp(disch:=omega)only[↓RU,RV,RH,↓reduceIte,qE,reduceCtorEq,if_pos,w64,↓RS,RG,qA,qM,qL,zaa]
   apply hK;clear hK K
   refine xn ?_
   have hnx:zfh rs t (i+1)=[]:=by rw [zit hb,hl,if_neg hd] <;> rfl
   refine ⟨rs.length - (i+1),by omega,1,[],[.ref 0 0 0,zmj rs,.int .i64 rs.length,.int .i64 ((i+1:Nat):Int),slO (zfh rs t (i+1)) v],stO (.arr 0 81 5 [zap g rs,.int .i64 t.row,.int .i64 t.col,.int .i64 t.high,.int .i64 t.wide]) (zfh rs t (i+1)) v (tk+2),?_,?_,i+1,v,(tk+2),rfl,by omega,rfl,rfl⟩
   ·rw [hnx]; simp [-qU,Env.put,Env.of,zaj,zb9,zaq,zau,za2,za3,zcd,zce,zdo,zcc,zbm,zcf,zdn,zdp,zbo,zbn,za4,zcb,zcg,zdm,zbk,zbj,za1,zbl,zca,zf8,qS,qP,qC,zsx]
   rw [hnx]; simp [-qU,Env.put,Env.of,zaj,zb9,zaq,zau,za2,za3,zcd,zce,zdo,zcc,zbm,zcf,zdn,zdp,zbo,zbn,za4,zcb,zcg,zdm,zbk,zbj,za1,zbl,zca,zf8,qS,qP,qC,zsy,Rect.cells]
  ·skip
   rw [zvs hw,zvt hw]
   simp(disch:=omega)only[↓RU,RV,RH,↓reduceIte,qE,reduceCtorEq,if_pos,↓RS,RG,qA,qM,qL,ty3,zas,zaa,zat,hbr,zba,Rect.cells]
   apply hK;clear hK K
   refine W.seq_draw (by kernel_rfl) fun K hK=>?_
   simp(disch:=omega)only[↓RU,RV,RH,↓reduceIte,qE,reduceCtorEq,if_pos,qN,w64,↓RS,RG,qA,qM,qL,ty7,zbf,zas,zaa,zbg,zat]
   refine zae.pc (zjf ht.in_ (hfit b hbm).in_) rfl (.inl rfl) ?_
   simp(disch:=omega)only[↓RU,RV,RH,↓reduceIte,qE,reduceCtorEq,if_pos,qN,w64,↓RS,RG,qA,qM,qL,ty7,zbf,zas,zaa,zbg,zat,zno,qO]
   apply hK;clear hK K
   refine W.cond rfl (fun h1=>?_) (fun h1=>?_)
   ·try simp only[RL]at h1
    exact absurd h1 (by simp [hd])
   try simp only[RL]at h1
   refine W.skip ?_
   refine XbN ?_
   refine xn ?_
   refine W.k fun K hK=>?_
   simp(disch:=omega)only[↓RU,RV,RH,↓reduceIte,qE,reduceCtorEq,if_pos,w64,↓RS,RG,qA,qM,qL,zaa]
   apply hK;clear hK K
   refine xn ?_
   have hnx:zfh rs t (i+1)=l:=by rw [zit hb,hl,if_neg hd] <;> rfl
   refine ⟨rs.length - (i+1),by omega,2,[],[.ref 0 0 0,zmj rs,.int .i64 rs.length,.int .i64 ((i+1:Nat):Int),slO (zfh rs t (i+1)) v],stO (.arr 0 81 5 [zap g rs,.int .i64 t.row,.int .i64 t.col,.int .i64 t.high,.int .i64 t.wide]) (zfh rs t (i+1)) v (tk+2),?_,?_,i+1,v,(tk+2),rfl,by omega,rfl,rfl⟩
   ·rw [hnx]; simp [-qU,Env.put,Env.of,zaj,zb9,zaq,zau,za2,za3,zcd,zce,zdo,zcc,zbm,zcf,zdn,zdp,zbo,zbn,za4,zcb,zcg,zdm,zbk,zbj,za1,zbl,zca,zf8,qS,qP,qC,zvs hw]
   rw [hnx]; simp [-qU,Env.put,Env.of,zaj,zb9,zaq,zau,za2,za3,zcd,zce,zdo,zcc,zbm,zcf,zdn,zdp,zbo,zbn,za4,zcb,zcg,zdm,zbk,zbj,za1,zbl,zca,zf8,qS,qP,qC,zvt hw,zh9,Rect.cells]
  ·skip
   rw [zsx,zsy]
   simp(disch:=omega)only[↓RU,RV,RH,↓reduceIte,qE,reduceCtorEq,if_pos,↓RS,RG,qA,qM,qL,ty3,zas,zaa,zat,hbr,zba,Rect.cells]
   apply hK;clear hK K
   refine W.seq_draw (by kernel_rfl) fun K hK=>?_
   simp(disch:=omega)only[↓RU,RV,RH,↓reduceIte,qE,reduceCtorEq,if_pos,qN,w64,↓RS,RG,qA,qM,qL,ty7,zbf,zas,zaa,zbg,zat]
   refine zae.pc (zjf ht.in_ (hfit b hbm).in_) rfl (.inl rfl) ?_
   simp(disch:=omega)only[↓RU,RV,RH,↓reduceIte,qE,reduceCtorEq,if_pos,qN,w64,↓RS,RG,qA,qM,qL,ty7,zbf,zas,zaa,zbg,zat,zno,qO]
   apply hK;clear hK K
   refine W.cond rfl (fun h1=>?_) (fun h1=>?_)
   ·try simp only[RL]at h1
    refine W.k fun K hK=>?_
    simp(disch:=omega)only[↓RU,RV,RH,↓reduceIte,qE,reduceCtorEq,if_pos,↓RS,RG,qA,qM,qL,zaf,zaa]
    apply hK;clear hK K
    refine XbN ?_
    refine xn ?_
    refine W.k fun K hK=>?_
    simp(disch:=omega)only[↓RU,RV,RH,↓reduceIte,qE,reduceCtorEq,if_pos,w64,↓RS,RG,qA,qM,qL,zaa]
    apply hK;clear hK K
    refine xn ?_
    have hnx:zfh rs t (i+1)=[(i:Int)]:=by rw [zit hb,hl,if_pos hd] <;> rfl
    refine ⟨rs.length - (i+1),by omega,1,[3],[.ref 0 0 0,zmj rs,.int .i64 rs.length,.int .i64 ((i+1:Nat):Int),slO (zfh rs t (i+1)) (tk+3)],stO (.arr 0 81 5 [zap g rs,.int .i64 t.row,.int .i64 t.col,.int .i64 t.high,.int .i64 t.wide]) (zfh rs t (i+1)) (tk+3) (tk+4),?_,?_,i+1,(tk+3),(tk+4),rfl,by omega,rfl,rfl⟩
    ·rw [hnx]; simp [-qU,Env.put,Env.of,zaj,zb9,zaq,zau,za2,za3,zcd,zce,zdo,zcc,zbm,zcf,zdn,zdp,zbo,zbn,za4,zcb,zcg,zdm,zbk,zbj,za1,zbl,zca,zf8,qS,qP,qC,zvs]
    rw [hnx]; simp [-qU,Env.put,Env.of,zaj,zb9,zaq,zau,za2,za3,zcd,zce,zdo,zcc,zbm,zcf,zdn,zdp,zbo,zbn,za4,zcb,zcg,zdm,zbk,zbj,za1,zbl,zca,zf8,qS,qP,qC,zvt,zm1,Rect.cells]
   try simp only[RL]at h1
   exact absurd h1 (by simp [hd])
  skip
  rw [zvs hw,zvt hw]
  simp(disch:=omega)only[↓RU,RV,RH,↓reduceIte,qE,reduceCtorEq,if_pos,↓RS,RG,qA,qM,qL,ty3,zas,zaa,zat,hbr,zba,Rect.cells]
  apply hK;clear hK K
  refine W.seq_draw (by kernel_rfl) fun K hK=>?_
  simp(disch:=omega)only[↓RU,RV,RH,↓reduceIte,qE,reduceCtorEq,if_pos,qN,w64,↓RS,RG,qA,qM,qL,ty7,zbf,zas,zaa,zbg,zat]
  refine zae.pc (zjf ht.in_ (hfit b hbm).in_) rfl (.inl rfl) ?_
  simp(disch:=omega)only[↓RU,RV,RH,↓reduceIte,qE,reduceCtorEq,if_pos,qN,w64,↓RS,RG,qA,qM,qL,ty7,zbf,zas,zaa,zbg,zat,zno,qO]
  apply hK;clear hK K
  refine W.cond rfl (fun h1=>?_) (fun h1=>?_)
  ·try simp only[RL]at h1
   refine W.k fun K hK=>?_
   simp(disch:=omega)only[↓RU,RV,RH,↓reduceIte,qE,reduceCtorEq,if_pos,↓RS,RG,qA,qM,qL,zaf,zaa]
   apply hK;clear hK K
   refine XbN ?_
   refine xn ?_
   refine W.k fun K hK=>?_
   simp(disch:=omega)only[↓RU,RV,RH,↓reduceIte,qE,reduceCtorEq,if_pos,w64,↓RS,RG,qA,qM,qL,zaa]
   apply hK;clear hK K
   refine xn ?_
   have hnx:zfh rs t (i+1)=l++[(i:Int)]:=by rw [zit hb,hl,if_pos hd] <;> rfl
   refine ⟨rs.length - (i+1),by omega,2,[],[.ref 0 0 0,zmj rs,.int .i64 rs.length,.int .i64 ((i+1:Nat):Int),slO (zfh rs t (i+1)) (tk+2)],stO (.arr 0 81 5 [zap g rs,.int .i64 t.row,.int .i64 t.col,.int .i64 t.high,.int .i64 t.wide]) (zfh rs t (i+1)) (tk+2) (tk+4),?_,?_,i+1,(tk+2),(tk+4),rfl,by omega,rfl,rfl⟩
   ·rw [hnx]; simp [-qU,Env.put,Env.of,zaj,zb9,zaq,zau,za2,za3,zcd,zce,zdo,zcc,zbm,zcf,zdn,zdp,zbo,zbn,za4,zcb,zcg,zdm,zbk,zbj,za1,zbl,zca,zf8,qS,qP,qC,zvs (l:=l++[(i:Int)]) (by simp)]
   rw [hnx]; simp [-qU,Env.put,Env.of,zaj,zb9,zaq,zau,za2,za3,zcd,zce,zdo,zcc,zbm,zcf,zdn,zdp,zbo,zbn,za4,zcb,zcg,zdm,zbk,zbj,za1,zbl,zca,zf8,qS,qP,qC,zvt (l:=l++[(i:Int)]) (by simp),zh9,Rect.cells]
  try simp only[RL]at h1
  exact absurd h1 (by simp [hd])
 try simp only[RL]at h
 obtain rfl:rs.length=i:=by omega
 refine W.exit ?_
 refine xe ?_
 refine xe ?_
 refine XBlock.hit ?_
 refine xn ?_
 refine W.r fun K hK=>?_
 simp(disch:=omega)only[↓RU,RV,RH,↓reduceIte,qE,reduceCtorEq,if_pos,↓RS,RG,qA,qM,qL]
 apply hK;clear hK K
 refine W.ret ?_
 refine Br rfl ?_
 exact z4o
theorem zd1 {g:List (List Int)} {nh nw:Nat} (hg:GW g nh nw) (rs:List Rect) {t:Pt} (ht:t.In nh nw) {level:Bool} {line:Nat} (hl1:1≤line) (hl2:if level then line<nh else line<nw):PC Tryz.prog 154 [zg5 g rs t.rect,.bool level,.int .i64 line] (.bool (thG g t level line)) true:=by
 obtain ⟨t1,t2,t3,t4⟩:=ht
 have hgg:=hg
 obtain ⟨g1,g2,g3,g4⟩:=hg.2.2
 obtain ⟨fr,hfr⟩:∃ fr:Nat,(if level then t.c else t.r)=fr:=⟨_,rfl⟩
 obtain ⟨lg,hlg⟩:∃ lg:Nat,(if level then t.w else t.h)=lg:=⟨_,rfl⟩
 have hth:thG g t level line=(List.range lg).all fun j=>zmi g level line (fr+j):=by subst hfr hlg; cases level <;> rfl
 have hin:∀ j,j<lg→InL nh nw level line (fr+j):=by subst hfr hlg; intro j hj; refine ⟨hl1,?_⟩; cases level <;> simp at hj hl2 ⊢ <;> omega
 have hb:fr≤6∧lg≤6:=by subst hfr hlg; cases level <;> simp <;> omega
 have hln:line≤6:=by cases level <;> simp at hl2 <;> omega
 simp only[Pt.rect,zg5,Rect.cells]
 refine PC.of ⟨Tryz.func154,by kernel_rfl,rfl,by kernel_rfl⟩ zav mixed (by show 3≤Tryz.f154.ntmps; decide) ?_
 refine W.r fun K hK=>?_
 simp(disch:=omega)only[↓RU,RV,RH,↓reduceIte,qE,reduceCtorEq,if_pos,↓RS,RG,qA,qM,qL,ty7,zbf,zas,zaa,zbg,zat]
 apply hK;clear hK K
 refine W.seq_draw (by kernel_rfl) fun K hK=>?_
 simp(disch:=omega)only[↓RU,RV,RH,↓reduceIte,qE,reduceCtorEq,if_pos,↓RS,RG,qA,qM,qL,ty7,zbf,zas,zaa,zbg,zat]
 apply hK;clear hK K
 refine W.join [3,1,2,7,8] (fun vs S=>vs=[.ref 0 0 0,.bool level,.int .i64 line,.int .i64 fr,.int .i64 lg]∧S=⟨[.arr 0 81 5 [zap g rs,.int .i64 t.r,.int .i64 t.c,.int .i64 t.h,.int .i64 t.w]],1⟩) ?_ ?_
 ·
  refine W.r fun K hK=>?_
  simp(disch:=omega)only[↓RU,RV,RH,↓reduceIte,qE,reduceCtorEq,if_pos,↓RS,RG,qA,qM,qL]
  apply hK;clear hK K
  refine W.cond rfl (fun h0=>?_) (fun h0=>?_)
  ·try simp only[RL]at h0
   refine W.draw_k (by kernel_rfl) fun K hK=>?_
   simp(disch:=omega)only[↓RU,RV,RH,↓reduceIte,qE,reduceCtorEq,if_pos,↓RS,RG,qA,qM,qL,ty7,zbf,zas,zaa,zbg,zat]
   apply hK;clear hK K
   refine xn ?_
   refine ⟨1,?_,rfl⟩
   simp only[h0,if_true,qF,if_false]at hfr hlg
   subst hfr hlg h0
   simp [Env.put,Env.of,zaj]
  try simp only[RL]at h0
  refine W.skip ?_
  refine xn ?_
  refine ⟨1,?_,rfl⟩
  simp only[h0,if_true,qF,if_false]at hfr hlg
  subst hfr hlg h0
  simp [Env.put,Env.of,zaj]
 rintro vs S - ⟨rfl,rfl⟩
 refine W.seq ?_
 refine W.r fun K hK=>?_
 simp(disch:=omega)only[↓RU,RV,RH,↓reduceIte,qE,reduceCtorEq,if_pos,↓RS,RG,qA,qM,qL]
 apply hK;clear hK K
 refine W.block ?_
 refine W.loop [3,1,2,7,8,9] (fun n vs S=>∃ i:Nat,n=lg - i∧i≤lg∧(∀ j,j<i→zmi g level line (fr+j)=true)∧vs=[.ref 0 0 0,.bool level,.int .i64 line,.int .i64 fr,.int .i64 lg,.int .i64 ((fr+i:Nat):Int)]∧S=⟨[.arr 0 81 5 [zap g rs,.int .i64 t.r,.int .i64 t.c,.int .i64 t.h,.int .i64 t.w]],1⟩) (lg) ?_ ?_
 ·refine ⟨1,0,rfl,Nat.zero_le _,(fun j hj=>by omega),?_,rfl⟩
  simp [Env.put,Env.of,zaj]
 rintro n vs S - ⟨i,rfl,h_i,hall,rfl,rfl⟩
 refine W.seq ?_
 refine W.r fun K hK=>?_
 simp(disch:=omega)only[↓RU,RV,RH,↓reduceIte,qE,reduceCtorEq,if_pos,w64,↓RS,RG,qA,qM,qL,zaa]
 apply hK;clear hK K
 refine W.cond rfl (fun h1=>?_) (fun h1=>?_)
 ·try simp only[RL]at h1
  refine W.skip ?_
  refine xn ?_
  refine W.seq ?_
  refine W.block ?_
  refine W.r fun K hK=>?_
  have hin2:=hin i (by omega)
  simp(disch:=omega)only[↓RU,RV,RH,↓reduceIte,qE,reduceCtorEq,if_pos,qN,↓RS,RG,qA,qM,qL,ty7,zbf,zas,zaa,zbg,zat]
  refine zae.pc (z2k hgg rs hin2) rfl (.inl rfl) ?_
  simp(disch:=omega)only[↓RU,RV,RH,↓reduceIte,qE,reduceCtorEq,if_pos,qN,↓RS,RG,qA,qM,qL,ty7,zbf,zas,zaa,zbg,zat]
  apply hK;clear hK K
  refine W.cond rfl (fun h2=>?_) (fun h2=>?_)
  ·try simp only[RL]at h2
   refine W.r fun K hK=>?_
   simp(disch:=omega)only[↓RU,RV,RH,↓reduceIte,qE,reduceCtorEq,if_pos,↓RS,RG,qA,qM,qL]
   apply hK;clear hK K
   refine W.ret ?_
   refine XBlock.ret ?_
   refine XThen.ret ?_
   refine XThen.ret ?_
   refine XBlock.ret ?_
   refine XThen.ret ?_
   refine Br rfl ?_
   rw [hth,show ((List.range lg).all fun j=>zmi g level line (fr+j))=false from by rw [List.all_eq_false]; exact ⟨i,List.mem_range.2 (by omega),by simpa using h2⟩]
   rfl
  try simp only[RL]at h2
  refine W.skip ?_
  refine XbN ?_
  refine xn ?_
  refine W.k fun K hK=>?_
  simp(disch:=omega)only[↓RU,RV,RH,↓reduceIte,qE,reduceCtorEq,if_pos,w64,↓RS,RG,qA,qM,qL,zaa]
  apply hK;clear hK K
  refine xn ?_
  refine ⟨lg - (i+1),by omega,1,i+1,rfl,by omega,(fun j hj=>by rcases Nat.lt_succ_iff_lt_or_eq.1 hj with h | rfl; exact hall j h; simpa using h2),?_,rfl⟩
  simp [Env.put,Env.of]; omega
 try simp only[RL]at h1
 refine W.exit ?_
 refine xe ?_
 refine xe ?_
 refine XBlock.hit ?_
 refine xn ?_
 refine W.r fun K hK=>?_
 simp(disch:=omega)only[↓RU,RV,RH,↓reduceIte,qE,reduceCtorEq,if_pos,↓RS,RG,qA,qM,qL]
 apply hK;clear hK K
 refine W.ret ?_
 refine Br rfl ?_
 rw [hth,show ((List.range lg).all fun j=>zmi g level line (fr+j))=true from by rw [List.all_eq_true]; intro j hj; exact hall j (by have:=List.mem_range.1 hj; omega)]
 rfl
theorem z8k {g:List (List Int)} {row:List Int} (h:g[0]?=some row) (rs:List Rect):PC Tryz.prog 45 [zap g rs] (zg5 g rs ⟨0,0,g.length,row.length⟩) false:=by
 refine PC.of ⟨Tryz.func45,by kernel_rfl,rfl,by kernel_rfl⟩ zav mixed (by show 1≤Tryz.f45.ntmps; decide) ?_
 refine W.r fun K hK=>?_
 simp(disch:=omega)only[↓RU,RV,RH,↓reduceIte,qE,reduceCtorEq,if_pos,↓RS,RG,qA,qM,qL,ty7,zbf,zas,zaa,zbg,zat]
 apply hK;clear hK K
 refine W.r fun K hK=>?_
 simp(disch:=omega)only[↓RU,RV,RH,↓reduceIte,qE,reduceCtorEq,if_pos,qN,↓RS,RG,qA,qM,qL,ty7,zbf,zas,zaa,zbg,zat,zln]
 refine zae.pc (zdx g rs) rfl (.inl rfl) ?_
 simp(disch:=omega)only[↓RU,RV,RH,↓reduceIte,qE,reduceCtorEq,if_pos,qN,↓RS,RG,qA,qM,qL,ty7,zbf,zas,zaa,zbg,zat,zln]
 refine zae.pc (zeg h rs) rfl (.inl rfl) ?_
 simp(disch:=omega)only[↓RU,RV,RH,↓reduceIte,qE,reduceCtorEq,if_pos,qN,↓RS,RG,qA,qM,qL,ty7,zbf,zas,zaa,zbg,zat,zln]
 apply hK;clear hK K
 refine W.ret ?_
 refine Br rfl ?_
 rw [show (tab 81).size=5 by kernel_rfl]
 rfl
theorem yae (g:List (List Int)) (rs:List Rect) (t:Rect):PC Tryz.prog 135 [zg5 g rs t] (.fn 153 [.ip (zap g rs::t.cells) 0]) false:=by
 simp only[zg5,Rect.cells]
 refine PC.of ⟨Tryz.func135,by kernel_rfl,rfl,by kernel_rfl⟩ zav mixed (by show 1≤Tryz.f135.ntmps; decide) ?_
 refine W.r fun K hK=>?_
 simp(disch:=omega)only[↓RU,RV,RH,↓reduceIte,qE,reduceCtorEq,if_pos,↓RS,RG,qA,qM,qL,ty7,zbf,zas,zaa,zbg,zat]
 apply hK;clear hK K
 refine W.r fun K hK=>?_
 simp(disch:=omega)only[↓RU,RV,RH,↓reduceIte,qE,reduceCtorEq,if_pos,↓RS,RG,qA,qM,qL]
 apply hK;clear hK K
 refine W.ret ?_
 refine Br rfl ?_
 rfl
section
structure LoopR (ps:Array Tmp) (asg body:Code) (r:Loop):Prop where
 hps:r.params=ps
 hasg:r.assign=asg
 hbody:r.body=body
 dps:∀ t∈ps.toList,t<r.tmps.size
 dasg:zfn r.tmps.size asg=true
 dbody:zfn r.tmps.size body=true
def Env.puts:List (Nat × PV)→Env→Env
 | [],e=>e
 | (t,v)::r,e=>Env.puts r (e.put (some t) v)
section
variable {P:Program} {T:Tab} {Q Q':Exit→Env→Store→Prop} {e:Env} {S:Store} {a b c:Code} {F:Nat→Prop} {G:GSt} {w:World}
theorem zty {ds:List Deferred}:∀ (ps:List Nat) (xs:List PV) (cs:List Value) (e:Env) (t:Array Value),zem w.heap F G e ⟨t,ds⟩→(∀ p∈ps,p<t.size)→xs.length=cs.length →
  (∀ (i:Nat) p c,xs[i]?=some p→cs[i]?=some c→VR w.heap F G p c) →
  zem w.heap F G (Env.puts (ps.zip xs) e) ⟨(ps.zip cs).foldl (fun t (q:Nat × Value)=>t.setIfInBounds q.1 q.2) t,ds⟩
 | [],xs,cs,e,t,he,_,_,_=>by simpa [Env.puts] using he
 | p::ps,[],[],e,t,he,_,_,_=>by simpa [Env.puts] using he
 | p::ps,x::xs,c::cs,e,t,he,hp,hl,hv=>by
  simp only[List.zip_cons_cons,Env.puts,List.foldl_cons]
  refine zty ps xs cs _ _ ?_ ?_ (by simpa using hl) fun i p c q1 q2=>hv (i+1) p c (by simpa using q1) (by simpa using q2)
  ·have:=he.put (a:=⟨t,ds⟩) (some p) (v:=x) (cv:=c) (fun t' ht=>by cases ht; exact hp p (by simp)) (hv 0 x c rfl rfl)
   exact this
  intro q hq
  have:=hp q (by simp [hq])
  simpa using this
 | p::ps,[],c::cs,_,_,_,_,hl,_=>by simp at hl
 | p::ps,x::xs,[],_,_,_,_,hl,_=>by simp at hl
theorem z0d (l:List (Nat × Value)) (t:Array Value):(l.foldl (fun t (q:Nat × Value)=>t.setIfInBounds q.1 q.2) t).size=t.size:=by
 induction l generalizing t with
 | nil=>rfl
 | cons q l ih=>simp [ih]
theorem z4k (hi:Inv F G w) {o ver l:Nat} {r:Loop × List Nat} {tm:List PV} {lc:Lc} (ho:G.obs[o]?=some (.lp ver l r tm,lc)) (s:LoopState) (pe:Option Code) :
  ∃ t:Array Value,w.heap[l]?=some (.loop { r.1 with tmps:=t }) ∧
   Inv F ⟨G.obs.set o (.lp ver l ({ r.1 with state:=s,pending:=pe },r.2) tm,lc),G.tick⟩ (w.putObj l (.loop { r.1 with tmps:=t,state:=s,pending:=pe })) ∧
   Next F G w F ⟨G.obs.set o (.lp ver l ({ r.1 with state:=s,pending:=pe },r.2) tm,lc),G.tick⟩ (w.putObj l (.loop { r.1 with tmps:=t,state:=s,pending:=pe })):=by
 obtain ⟨h0,t,h1,h2,h3⟩:=hi.lp o ver l r tm lc ho
 have hlt:=(Array.getElem?_eq_some_iff.1 h1).1
 refine ⟨t,h1,zjv hi ho _ lc G.tick _ rfl rfl rfl (qR _) (by simp) (.inl rfl) (fun b hb hne=>World.putObj_heap_other (by rw [← h0]; exact hne)) (qR _) (show Ob.ver (.lp ver l r tm)<G.tick from hi.ver o _ lc ho)
  (.inl ⟨rfl,trivial,rfl⟩) ⟨h0,t,World.putObj_heap_same hlt,h2,h3⟩⟩
def yb6 (o l:Nat) (J:PV→Store→Prop):Exit→Env→Store→Prop
 | .normal,_,S=>∃ ver r L tm k,S.obs[o]?=some (.lp ver l (r,L) tm)∧J (.bool true) (Store.take ⟨S.obs.set o (.lp ver l ({ r with state := .ready,pending:=none },L) tm),S.tick⟩ k)
 | .ret,_,S=>∃ ver r L tm k,S.obs[o]?=some (.lp ver l (r,L) tm)∧J (.bool false) (Store.take ⟨S.obs.set o (.lp ver l ({ r with state := .done,pending:=some .ret },L) tm),S.tick⟩ k)
 | .exit id,_,S=>∃ ver r L tm k,S.obs[o]?=some (.lp ver l (r,L) tm)∧J (.bool false) (Store.take ⟨S.obs.set o (.lp ver l ({ r with state := .done,pending:=some (.exit id) },L) tm),S.tick⟩ k)
 | _,_,_=>False
theorem VR.bool_of {H:Array Obj} {b:Bool}:VR H F G (.bool b) (.bool b) := .imm _ _ (.bool b)
theorem Ey.of (hT:zbb P T) (hm:P.follows .mixedOrders=true) {l o ver:Nat} {r:Loop} {L:List Nat} {tm xs:List PV} {ps:Array Tmp} {asg body:Code} {J:PV→Store→Prop}
  (ho:S.obs[o]?=some (.lp ver l (r,L) tm)) (hr:LoopR ps asg body r) (hst:r.state = .ready) (hps:ps.size=xs.length)
  (hw:W P T asg (XThen (fun e1 S1=>∃ ver1 r1 L1 tm1,S1.obs[o]?=some (.lp ver1 l (r1,L1) tm1)∧r1.state = .ready ∧
   W P T body (yb6 o l J) e1 ⟨S1.obs.set o (.lp ver1 l ({ r1 with state := .busy,pending:=r1.pending },L1) tm1),S1.tick⟩) (fun _ _ _=>False)) (Env.puts (ps.toList.zip xs) (Env.of L tm)) S) :
  Ey P l xs S J:=by
 refine ⟨fun F G w cargs hS hi hl hv=>?_⟩
 subst hS
 obtain ⟨lc,hG⟩:=zfb ho
 obtain ⟨h0,t,h1,⟨h2,h2'⟩,h3⟩:=hi.lp o ver l (r,L) tm lc hG
 simp only at h1 h2 h2' h3
 refine ⟨_,_,_,_,run_yield h1 (by simp only; rw [hr.hps]; omega),fun R nn=>?_⟩
 refine roundIn_of_wpIn trivial ?_
 simp only
 have hE:zem w.heap F G (Env.puts (ps.toList.zip xs) (Env.of L tm)) ⟨(ps.toList.zip cargs.toList).foldl (fun t (q:Nat × Value)=>t.setIfInBounds q.1 q.2) t,[]⟩ :=
  zty _ _ _ _ _ (zsf L tm h2'.symm fun i j v q1 q2=>h3 i v j q2 q1) (fun p hp=>Nat.lt_of_lt_of_eq (hr.dps p hp) h2.symm) (by simpa using hl) (fun i p c q1 q2=>hv i p c q1 (by simpa using q2))
 have hsz:((ps.toList.zip cargs.toList).foldl (fun t (q:Nat × Value)=>t.setIfInBounds q.1 q.2) t).size=r.tmps.size:=by rw [z0d]; exact h2
 have hfold:(r.params.zip cargs).foldl (fun tmps (x:Nat × Value)=>tmps.setIfInBounds x.1 x.2) t=(ps.toList.zip cargs.toList).foldl (fun t (q:Nat × Value)=>t.setIfInBounds q.1 q.2) t:=by
  rw [hr.hps,← Array.foldl_toList,Array.toList_zip]
 show (r.assign).wpIn (fnc (some l)) _ P _ { tmps:=(r.params.zip cargs).foldl (fun tmps (x:Nat × Value)=>tmps.setIfInBounds x.1 x.2) t,defers:=[] } w
 rw [hfold,hr.hasg,hr.hbody]
 refine wpIn_mono (hw.run hT hm F G w r.tmps.size F G _ w rfl hi hE (Next.refl w) hsz Marks.nil hr.dasg) ?_
 rintro x a1 w1 ⟨e1,F1,G1,k1,k2,k3,k4,k5,k6⟩
 cases x with
 | normal =>
  obtain ⟨ver1,r1,L1,tm1,g1,g2,g3⟩:=k1
  obtain ⟨lc1,hG1⟩:=zfb g1
  obtain ⟨t1,q1,q2,q3⟩:=z4k k2 hG1 .busy r1.pending
  refine ⟨_,run_beginRound q1 g2,?_⟩
  refine wpIn_mono (g3.run hT hm F G w r.tmps.size F1 _ a1 _ (zmn G1 o _ lc1 G1.tick) q2 (k3.next k2 q3) (k4.trans q3) k5 (k6.next k2 q3) hr.dbody) ?_
  have fin:∀ {F2:Nat→Prop} {G2:GSt} {w2:World} {v:Bool} {s:LoopState} {pe:Option Code} {ver2:Nat} {r2:Loop} {L2:List Nat} {tm2:List PV} {k:Nat},Inv F2 G2 w2→Next F G w F2 G2 w2 →
    s=(if pe.isNone then .ready else .done)→v=pe.isNone→G2.er.obs[o]?=some (.lp ver2 l (r2,L2) tm2) →
    J (.bool v) (Store.take ⟨G2.er.obs.set o (.lp ver2 l ({ r2 with state:=s,pending:=pe },L2) tm2),G2.er.tick⟩ k) →
    ∃ cv w3,(Instr.endRound l pe).run P w2 = .ok cv w3∧∃ v cv' F' G',Ending.returned cv = .returned cv'∧J v G'.er∧Inv F' G' w3∧Next F G w F' G' w3∧VR w3.heap F' G' v cv':=by
   intro F2 G2 w2 v s pe ver2 r2 L2 tm2 k i2 n2 hs hv2 hg hJ
   obtain ⟨lc2,hG2⟩:=zfb hg
   obtain ⟨t2,p1,p2,p3⟩:=z4k i2 hG2 s pe
   obtain ⟨i3,n3⟩:=zeb p2 k
   have hrun:=run_endRound (P:=P) pe p1
   rw [← hs]at hrun
   refine ⟨_,_,hrun,.bool v,_,F2,GSt.take ⟨G2.obs.set o (.lp ver2 l ({ r2 with state:=s,pending:=pe },L2) tm2,lc2),G2.tick⟩ k,rfl,?_,i3,(n2.trans p3).trans n3,by rw [← hv2]; exact VR.bool_of⟩
   rw [zid,zmn]; exact hJ
  rintro x a2 w2 ⟨e2,F2,G2,j1,j2,j3,j4,j5,j6⟩
  cases x with
  | normal=>obtain ⟨ver2,r2,L2,tm2,k,f1,f2⟩:=j1; exact fin j2 j4 rfl rfl f1 f2
  | ret=>obtain ⟨ver2,r2,L2,tm2,k,f1,f2⟩:=j1; exact fin j2 j4 rfl rfl f1 f2
  | exit id=>obtain ⟨ver2,r2,L2,tm2,k,f1,f2⟩:=j1; exact fin j2 j4 rfl rfl f1 f2
  | _=>exact j1.elim
 | _=>exact k1.elim
structure V (P:Program) (T:Tab) (c:Code) (Q:Exit→Env→Store→Prop) (e:Env) (S:Store):Prop where
 run:zbb P T→P.follows .mixedOrders=true→∀ (F0:Nat→Prop) (G0:GSt) (w0:World) (N:Nat) (F:Nat→Prop) (G:GSt) (a:Act) (w:World),G.er=S→Inv F G w→zem w.heap F G e a →
  Next F0 G0 w0 F G w→a.tmps.size=N→Marks w0 a.defers w→zfn N c=true→c.wpIn (fnc none) 0 P (Sto F0 G0 w0 N Q) a w
theorem W.v (h:W P T c Q e S):V P T c Q e S:=⟨fun h1 h2 F0 G0 w0 N F G a w h3 h4 h5 h6 h7 h8 h9=>h.run h1 h2 F0 G0 w0 N F G a w h3 h4 h5 h6 h7 h8 h9⟩
theorem V.mono (h:V P T c Q e S) (k:∀ x e S,Q x e S→Q' x e S):V P T c Q' e S :=
 ⟨fun h1 h2 F0 G0 w0 N F G a w h3 h4 h5 h6 h7 h8 h9=>wpIn_mono (h.run h1 h2 F0 G0 w0 N F G a w h3 h4 h5 h6 h7 h8 h9) fun _ _ _=>Sto.mono k⟩
theorem V.seq (h:V P T a (XThen (V P T b Q) Q) e S):V P T (.seq a b) Q e S:=by
 refine ⟨?_⟩
 intro hT hm F0 G0 w0 N F G a w h3 h4 h5 h6 h7 h8 h9
 simp only[zfn,qB]at h9
 refine wpIn_seq (wpIn_mono (h.run hT hm F0 G0 w0 N F G a w h3 h4 h5 h6 h7 h8 h9.1) ?_)
 rintro x a' w' ⟨e',F',G',k1,k2,k3,k4,k5,k6⟩
 cases x with
 | normal=>exact k1.run hT hm F0 G0 w0 N F' G' a' w' rfl k2 k3 k4 k5 k6 h9.2
 | _=>exact ⟨e',F',G',k1,k2,k3,k4,k5,k6⟩
theorem V.seq_region {id:Nat} {l:List Oper} (h:∀ K:Env→Store→Prop,(∀ e S,V P T b Q e S→K e S)→za7 false P T (dsts l) l e S K):V P T (.seq (.region id l.toArray false) b) Q e S :=
 V.seq (W.v (W.k fun K hK=>h K hK))
theorem V.seq_draw {id:Nat} {l:List Oper} (hc:zg3 l.toArray (List.range' 0 l.length) (zf7 l 0) []=true) (h:∀ K:Env→Store→Prop,(∀ e S,V P T b Q e S→K e S)→za7 true P T (dsts l) l e S K) :
  V P T (.seq (.region id l.toArray true) b) Q e S :=
 V.seq (W.v (W.draw_k hc fun K hK=>h K hK))
theorem V.cond {x:Operand} {t:Bool} (hc:e.ev x = .bool t) (h1:t=true→V P T a Q e S) (h2:t=false→V P T b Q e S):V P T (.cond x a b) Q e S:=by
 refine ⟨?_⟩
 intro hT hm F0 G0 w0 N F G a w h3 h4 h5 h6 h7 h8 h9
 simp only[zfn,qB]at h9
 have:=h5.ev x
 rw [hc]at this
 exact wpIn_cond_split this.bool (fun ht=>(h1 ht).run hT hm F0 G0 w0 N F G a w h3 h4 h5 h6 h7 h8 h9.1) (fun ht=>(h2 ht).run hT hm F0 G0 w0 N F G a w h3 h4 h5 h6 h7 h8 h9.2)
theorem V.block {id:Nat} (h:V P T c (XBlock id Q) e S):V P T (.block id c) Q e S:=by
 refine ⟨?_⟩
 intro hT hm F0 G0 w0 N F G a w h3 h4 h5 h6 h7 h8 h9
 refine wpIn_block (wpIn_mono (h.run hT hm F0 G0 w0 N F G a w h3 h4 h5 h6 h7 h8 h9) ?_)
 rintro x a' w' ⟨e',F',G',k1,k2⟩
 cases x with
 | exit i =>
  simp only[Exit.inBlock]
  simp only[XBlock]at k1
  split
  ·rename_i hi; rw [if_pos hi]at k1; exact ⟨e',F',G',k1,k2⟩
  rename_i hi; rw [if_neg hi]at k1; exact ⟨e',F',G',k1,k2⟩
 | _=>exact ⟨e',F',G',k1,k2⟩
def yas:Option Code→Option Exit
 | none=>some .normal
 | some .ret=>some .ret
 | some (.exit id)=>some (.exit id)
 | _=>none
theorem zv6 (hi:Inv F G w) (ob:Obj):Inv F G (w.alloc ob)∧Next F G w F G (w.alloc ob):=by
 have hkeep:∀ b,b<w.heap.size→(w.alloc ob).heap[b]?=w.heap[b]?:=fun b hb=>Go.RowKit.Below.heap_alloc w ob b hb
 have hn:Next F G w F G (w.alloc ob) :=
  ⟨rfl,rfl,rfl,by simp,fun _ h=>h,fun _ h => .inl h,fun o x h => .inr ⟨o,x,h,rfl⟩,qR _,fun b hb _=>hkeep b hb,fun _ ob' _ h _=>⟨ob',h,rfl,Ob.like.refl _⟩,qR _⟩
 exact ⟨zh1 (fun b hb=>Nat.lt_of_lt_of_le (hi.fr b hb) hn.size) hi.ver hi.nF (fun o ob' l h=>(hi.holds h).next hi hn (hkeep _ (hi.blk_lt h))) hi.inj,hn⟩
theorem VR.fn_at {f:FuncId} {cap:List PV} {v:Value} (h:VR w.heap F G (.fn f cap) v):∃ vs:Array Value,v = .func (.func f) #[] vs∧cap.length=vs.size∧∀ (i:Nat) p c,cap[i]?=some p→vs[i]?=some c→VR w.heap F G p c:=by
 cases h with
 | imm _ _ h=>cases h with | fn _ _ vs h1 h2=>exact ⟨vs,rfl,h1,fun i p c q1 q2 => .imm _ _ (h2 i p c q1 q2)⟩
 | fn _ _ vs h1 h2=>exact ⟨vs,rfl,h1,h2⟩
theorem V.rangeFunc {g:Operand} {ps:Array Tmp} {asg body:Code} (L:List Nat) {f:FuncId} {cap:List PV} (hg:e.ev g = .fn f cap)
  (h:∀ (l:Nat) (r:Loop),LoopR ps asg body r→r.state = .ready→r.pending=none→∃ J,Ev P f (.yl l::cap) ⟨S.obs++[.lp S.tick l (r,L) (L.map e)],S.tick+1⟩ J ∧
   ∀ v S',J v S'→∃ ver r' L' tm x,S'.obs[S.obs.length]?=some (.lp ver l (r',L') tm)∧r'.state ≠ .busy∧yas r'.pending=some x∧Q x e (S'.take S.obs.length)) :
  V P T (.rangeFunc g ps asg body) Q e S:=by
 refine ⟨?_⟩
 intro hT hm F0 G0 w0 N F G a w h3 h4 h5 h6 h7 h8 h9
 subst h3
 simp only[zfn,qB,List.all_eq_true,decide_eq_true_eq]at h9
 obtain ⟨⟨d1,d2⟩,d3⟩:=h9
 refine wpIn_rangeFunc ?_
 intro fn _
 obtain ⟨rec,hrec⟩:∃ rec:Loop,rec={ state := .ready,pending:=none,fn,tmps:=a.tmps,params:=ps,assign:=asg,body,defers:=w.heap.size }:=⟨_,rfl⟩
 obtain ⟨i1,n1⟩:=zv6 h4 (.deferred (some []))
 obtain ⟨W0,hW0⟩:∃ W0,w.alloc (.deferred (some []))=W0:=⟨_,rfl⟩
 have hsz:W0.heap.size=w.heap.size+1:=by rw [← hW0]; simp
 rw [hW0]at i1 n1
 have hdef:W0.heap[w.heap.size]?=some (.deferred (some [])):=by rw [← hW0]; exact World.alloc_heap_new w _
 obtain ⟨W1,hW1⟩:∃ W1,W0.alloc (.loop rec)=W1:=⟨_,rfl⟩
 have hL1:W1.heap[W0.heap.size]?=some (.loop rec):=by rw [← hW1]; exact World.alloc_heap_new W0 _
 have hhold:Holds W0.heap F G W1.heap (.lp G.tick W0.heap.size (rec,L) (L.map e)) ⟨W0.heap.size,0⟩:=by
  refine ⟨rfl,a.tmps,by rw [hL1,hrec],⟨by rw [hrec],by simp⟩,fun i p j q1 q2=>?_⟩
  simp only at q2
  rw [List.getElem?_map,q2]at q1
  cases q1
  exact (h5 j).next h4 n1
 obtain ⟨i2,n2⟩:=zsl i1 (.lp G.tick W0.heap.size (rec,L) (L.map e)) 0 W1 W1.drawn (by rw [← hW1]; rfl) (by rw [← hW1]; exact qR _) ⟨_,by rw [← hW1]; rfl⟩ rfl hhold
 have n12:=n1.trans n2
 have hgv:=h5.ev g
 rw [hg]at hgv
 obtain ⟨vs,hge,hvl,hvr⟩:=hgv.fn_at
 obtain ⟨J,hev,hJ⟩:=h W0.heap.size rec (by rw [hrec]; exact ⟨rfl,rfl,rfl,fun t ht=>by rw [h7]; exact d1 t ht,by rw [h7]; exact d2,by rw [h7]; exact d3⟩) (by rw [hrec]) (by rw [hrec])
 refine ⟨w.heap.size+1,[{ target := .collected w.heap.size,args := #[] }],W1,{ target := .fn (.func f) vs,args := #[.func (.yield (w.heap.size+1)) #[] #[]] },W1,f,
  #[.func (.yield (w.heap.size+1)) #[] #[]]++vs,W1,?_,?_,fun _ _=>trivial,?_,fun q=>(by simp [Fence.wide]at q),?_⟩
 ·rw [← hW1,← hW0,hrec]; exact run_enterLoop_outer _ _ _ _ _
 ·simp only[resolve,hge]
  simp [go_sem]
 ·simp only[invoke]; exact hev.ent _ _
 ·refine callsIn_wide.2 ((hev.run F _ W1 _ (zwj G _ _) i2 (by simp; omega) ?_).mono ?_)
  ·intro i p c q1 q2
   cases i with
   | zero=>rw [Array.getElem?_append_left (by simp)]at q2; simp at q1 q2; subst q1; subst q2; rw [hsz]; exact .imm _ _ (.yl _)
   | succ i =>
    simp only[List.getElem?_cons_succ]at q1
    rw [Array.getElem?_append_right (by simp)]at q2
    simp at q2
    exact (hvr i p c q1 q2).next h4 n12
  ·rintro en w2 ⟨v,cv,F2,G2,rfl,j1,j2,j3,j4⟩
   obtain ⟨ver,r',L',tm,x,g1,g2,g3,g4⟩:=hJ v _ j1
   obtain ⟨lc,hG2⟩:=zfb g1
   rw [show (GSt.er G).obs.length=G.obs.length by simp [GSt.er]]at hG2 g4
   obtain ⟨t,p1,p2,p3⟩:=z4k j2 hG2 .exhausted r'.pending
   obtain ⟨i3,n3⟩:=zeb p2 G.obs.length
   rw [hsz]at p1
   refine ⟨_,_,run_endLoop p1 g2,?_⟩
   have hnx:=((h6.trans n12).trans (j3.trans p3)).trans n3
   have hmk:Marks w0 ([{ target := .collected w.heap.size,args := #[] }]++a.defers) (w2.putObj W0.heap.size (.loop { r' with tmps:=t,state := .exhausted,pending:=r'.pending })):=by
    have m1:=h8.next h4 n12
    have hd1:W1.heap[w.heap.size]?=some (.deferred (some [])):=(by rw [← hW1]; exact (Go.RowKit.Below.heap_alloc W0 _ _ (by omega)).trans hdef)
    have m2:Marks w0 ([{ target := .collected w.heap.size,args := #[] }]++a.defers) W1:=by
     obtain ⟨bs,b1,b2,b3⟩:=h8
     obtain ⟨bs',c1,c2,c3⟩:=m1
     have hb:bs'=bs:=by
      rw [b1]at c1
      have:=congrArg (List.map fun d:Deferred=>(match d.target with | .collected b=>b | _=>0)) c1
      simpa [List.map_map,Function.comp_def] using this.symm
     subst hb
     refine ⟨w.heap.size::bs',by rw [b1]; simp,?_,?_⟩
     ·refine List.nodup_cons.2 ⟨fun hm=>?_,b2⟩
      have:=(Array.getElem?_eq_some_iff.1 (b3 _ hm).2).1
      omega
     intro b hb
     rcases List.mem_cons.1 hb with rfl | hb
     ·exact ⟨h6.size,hd1⟩
     exact c3 b hb
    exact (m2.next i2 j3).next j2 p3
   have henv:zem (w2.putObj W0.heap.size (.loop { r' with tmps:=t,state := .exhausted,pending:=r'.pending })).heap F2 (GSt.take ⟨G2.obs.set G.obs.length (.lp ver W0.heap.size ({ r' with state := .exhausted,pending:=r'.pending },L') tm,lc),G2.tick⟩ G.obs.length) e { a with defers:=[{ target := .collected w.heap.size,args := #[] }]++a.defers } :=
    fun k=>((((h5 k).next h4 n12).next i2 j3).next j2 p3).next p2 n3
   have hst:Sto F0 G0 w0 N Q x { a with defers:=[{ target := .collected w.heap.size,args := #[] }]++a.defers } (w2.putObj W0.heap.size (.loop { r' with tmps:=t,state := .exhausted,pending:=r'.pending })):=by
    refine ⟨e,F2,_,?_,i3,henv,hnx,h7,hmk⟩
    have:(GSt.take ⟨G2.obs.set G.obs.length (.lp ver W0.heap.size ({ r' with state := .exhausted,pending:=r'.pending },L') tm,lc),G2.tick⟩ G.obs.length).er=G2.er.take G.obs.length:=by
     simp [GSt.take,GSt.er,Store.take,List.take_set_of_le]
    rw [this]; exact g4
   rw [hsz]at hst
   cases hpe:r'.pending with
   | none=>rw [hpe]at g3 hst ; simp only[yas]at g3; cases g3; exact hst
   | some c =>
    rw [hpe]at g3 hst
    cases c <;> simp only[yas]at g3 <;> cases g3
    ·exact wpIn_exit hst
    exact wpIn_ret hst
theorem Fn.callsV {f:FuncId} {fn:Func} (h:Fn P f fn c) (hT:zbb P T) (hm:P.follows .mixedOrders=true) {args:List PV} {K:PV→Store→Prop} (hn:args.length≤fn.ntmps)
  (hw:V P T c (zhu T fn.results.toList K) (zaj args) S) {F:Nat→Prop} {G:GSt} {w:World} {cargs:Array Value} (hS:G.er=S) (hi:Inv F G w) (hl:args.length=cargs.size)
  (hv:∀ (i:Nat) p c,args[i]?=some p→cargs[i]?=some c→VR w.heap F G p c) :
  Calls P f cargs w fun e w'=>∃ v cv F' G',e = .returned cv∧K v G'.er∧Inv F' G' w'∧Next F G w F' G' w'∧VR w'.heap F' G' v cv :=
 h.calls_of hT hn hi hl (hw.run hT hm F G w fn.ntmps F G _ w hS hi (z1v hl hv _ _) (Next.refl w) (by simp; omega) Marks.nil h.dst)
theorem Ev.ofV {f:FuncId} {fn:Func} (h:Fn P f fn c) (hT:zbb P T) (hm:P.follows .mixedOrders=true) {args:List PV} {J:PV→Store→Prop} (hn:args.length≤fn.ntmps)
  (hw:V P T c (zhu T fn.results.toList fun v S1=>∃ k,J v (S1.take k)) (zaj args) S):Ev P f args S J:=by
 refine ⟨h.ent,fun F G w cargs hS hi hl hv=>(h.callsV hT hm hn hw hS hi hl hv).mono ?_⟩
 rintro en w' ⟨v',cv,F',G',k1,⟨k,k2⟩,k3,k4,k5⟩
 obtain ⟨i1,i2⟩:=zeb k3 k
 exact ⟨v',cv,F',G'.take k,k1,(zid G' k).symm ▸ k2,i1,k4.trans i2,k5.next k3 i2⟩
theorem PC.ofV {f:FuncId} {fn:Func} (h:Fn P f fn c) (hT:zbb P T) (hm:P.follows .mixedOrders=true) {args:List PV} {r:PV} {fr:Bool} (hn:args.length≤fn.ntmps)
  (hw:V P T c (zhu T fn.results.toList fun v S=>reify S (!fr) 10 v=some r) (zaj args) ⟨[],0⟩):PC P f args r fr:=by
 refine ⟨h.ent,fun F w cargs hF hl hv=>?_⟩
 have hi:Inv F ⟨[],0⟩ w:=⟨hF,by simp,by simp,by simp,by simp,by simp,by simp⟩
 refine (h.callsV hT hm hn hw rfl hi hl fun i p c q1 q2 => .imm _ _ (hv i p c q1 q2)).mono ?_
 rintro en w' ⟨v',cv,F',G',rfl,k2,k3,k4,k5⟩
 refine ⟨cv,rfl,⟨⟨k4.os,k4.tape,k4.output,k4.size,fun b hb=>k4.keep b hb (by simp)⟩,k4.drawn⟩,(zdc k3 k5 k2).mono ?_ (fun _ _=>rfl)⟩
 rintro b (⟨h1,h2⟩ | ⟨o,x,hx,rfl⟩)
 ·rcases k4.fnew b h2 with h3 | h3 | ⟨o,x,hx,_⟩
  ·exact .inr ⟨by simpa using h1,h3⟩
  ·exact .inl ⟨h3,k3.fr b h2⟩
  simp at hx
 rcases k4.gnew o x hx with h3 | ⟨o',y,hy,_⟩
 ·exact .inl ⟨h3,k3.blk_lt hx⟩
 simp at hy
end
end
section
section
variable {P:Program} {T:Tab} {F0:Nat→Prop} {G0:GSt} {w0:World} {N:Nat}
theorem z39 {e:Env} {S:Store} {o:Op} (hc:∀ c,o ≠ .call c) {K1 K2:PV→Store→Prop} (h1:pOp P T e S o K1) (h2:pOp P T e S o K2):pOp P T e S o fun v S'=>K1 v S'∧K2 v S':=by
 cases o with
 | call c=>exact absurd rfl (hc c)
 | alloc t=>exact ⟨h1.1,h1.2,h2.2⟩
 | box t x=>exact ⟨h1.1,h1.2.1,h1.2.2.1,h1.2.2.2,h2.2.2.2⟩
 | buildSlice t n ps =>
  simp only[pOp]at h1 h2 ⊢
  split at h1
  ·rename_i et hk
   rw [hk]at h2
   simp only at h2 ⊢
   refine ⟨h1.1,h1.2.1,?_⟩
   have h1:=h1.2.2
   have h2:=h2.2.2
   split at h1
   ·rename_i cells hf
    rw [hf]at h2
    simp only at h2 ⊢
    exact ⟨h1.1,h1.2,h2.2⟩
   exact h1.elim
  exact h1.elim
 | makeSlice t l c =>
  simp only[pOp]at h1 h2 ⊢
  split at h1
  ·rename_i et q l' q' c' hk e1 e2
   rw [hk,e1,e2]at h2
   simp only at h2 ⊢
   exact ⟨h1.1,h1.2.1,h1.2.2.1,h1.2.2.2.1,h1.2.2.2.2,h2.2.2.2.2⟩
  exact h1.elim
 | makeMap t r=>exact ⟨h1.1,h1.2,h2.2⟩
 | store t a x =>
  simp only[pOp]at h1 h2 ⊢
  split at h1
  ·rename_i o ver off ha
   rw [ha]at h2
   simp only at h2 ⊢
   split at h1
   ·rename_i v et sz cells ho
    rw [ho]at h2
    simp only at h2 ⊢
    exact ⟨h1.1,h1.2.1,h1.2.2.1,h1.2.2.2.1,h1.2.2.2.2.1,h1.2.2.2.2.2,h2.2.2.2.2.2⟩
   exact h1.elim
  exact h1.elim
 | mapUpdate t m k x =>
  simp only[pOp]at h1 h2 ⊢
  split at h1
  ·rename_i kt vt o ver hk hm
   rw [hk,hm]at h2
   simp only at h2 ⊢
   split at h1
   ·rename_i v es ho
    rw [ho]at h2
    simp only at h2 ⊢
    refine ⟨h1.1,h1.2.1,?_⟩
    have h1:=h1.2.2
    have h2:=h2.2.2
    split at h1
    ·rename_i hf; rw [hf]at h2; exact ⟨h1,h2⟩
    ·rename_i hf; rw [hf]at h2; exact ⟨h1,h2⟩
    exact h1.elim
   exact h1.elim
  exact h1.elim
 | _ =>
  simp only[pOp]at h1 h2 ⊢
  rw [zkv]at h1 h2 ⊢
  obtain ⟨v,e1,k1⟩:=h1
  obtain ⟨v',e2,k2⟩:=h2
  rw [e1]at e2
  cases e2
  exact ⟨v,e1,k1,k2⟩
theorem z0x {ops:Array Oper} {o:Oper} {e:Env} {y1 n1 y2 n2:Prop} (h1:zel ops o e y1 n1) (h2:zel ops o e y2 n2):zel ops o e (y1∧y2) (n1∧n2):=by
 unfold zel at *
 split at h1
 ·rename_i h; rw [h]at h2; exact ⟨h1,h2⟩
 ·rename_i h; rw [h]at h2; exact ⟨h1,h2⟩
 exact h1.elim
theorem z5w {R:Option Nat} {nn:Nat} (hT:zbb P T) {ops:Array Oper} {effs pend keep:List Nat} {Q:Env→Store→Prop} {i:Nat} {r1 r2:List Nat} {e:Env} {F:Nat→Prop} {G:GSt} {a:Act} {w:World}
  (hnc:∀ o:Oper,ops[i]?=some o→∀ c,o.op ≠ .call c)
  (h1:zcs P T ops effs pend keep Q (i::r1) e G.er) (h2:zcs P T ops effs pend keep Q (i::r2) e G.er) (hi:Inv F G w) (he:zem w.heap F G e a) (hn:Next F0 G0 w0 F G w) (hs:a.tmps.size=N) (hd:Marks w0 a.defers w)
  (hdst:∀ o∈ops.toList,∀ d,o.dst=some d→d<N) {Qx:Exit→Act→World→Prop} {K:Act→World→Prop}
  (hK:∀ e' F' G' a' w',zcs P T ops effs pend keep Q r1 e' G'.er→zcs P T ops effs pend keep Q r2 e' G'.er→Inv F' G' w'→zem w'.heap F' G' e' a'→Next F0 G0 w0 F' G' w'→a'.tmps.size=N→Marks w0 a'.defers w'→K a' w') :
  wpOpIn (fnc R) nn P ops Qx i K a w:=by
 simp only[zcs]at h1 h2
 unfold wpOpIn
 cases ho:ops[i]? with
 | none=>rw [ho]at h1; exact h1.elim
 | some o =>
  rw [ho]at h1 h2
  have hnc:=hnc o ho
  have hd1:∀ t,o.dst=some t→t<a.tmps.size:=fun t ht=>by
   rw [hs]; exact hdst o (List.mem_of_getElem? (i:=i) (by simpa using ho)) t ht
  simp only at h1 h2 ⊢
  rcases zjp he (z0x h1 h2) with ⟨hw,h1,h2⟩ | ⟨hw,h1,h2⟩
  ·rw [if_pos hw]
   split at h1
   ·rename_i hc
    rw [if_pos hc]at h2
    refine zks hT hi he (z39 hnc h1 h2) ?_
    intro v cv F' G' w' hk i1 i2 i3
    exact hK _ _ _ _ _ hk.1.2 hk.2.2 i1 ((he.next hi i2).put _ hd1 i3) (hn.trans i2) (by rw [zgg]; exact hs) (by rw [zdb]; exact hd.next hi i2)
   ·rename_i hc
    rw [if_neg hc]at h2
    rw [zdr]at h1 h2
    obtain ⟨v,f1,_,f3⟩:=h1
    obtain ⟨v',g1,_,g3⟩:=h2
    have hv:v=v':=by
     have hop:=z39 hnc (zsh f1) (zsh g1)
     have key:∀ {op:Op},(∀ c,op ≠ .call c)→pFl P T G.er e op v→pFl P T G.er e op v'→v=v':=by
      intro op hc a1 a2
      cases op with
      | call c=>exact absurd rfl (hc c)
      | _=>exact Option.some.inj (a1.symm.trans a2)
     exact key hnc f1 g1
    subst hv
    refine zks hT hi he (zsh f1) ?_
    rintro v' cv F' G' w' ⟨rfl,hS⟩ i1 i2 i3
    exact hK _ _ _ _ _ (by rw [hS]; exact f3) (by rw [hS]; exact g3) i1 ((he.next hi i2).put _ hd1 i3) (hn.trans i2) (by rw [zgg]; exact hs) (by rw [zdb]; exact hd.next hi i2)
  rw [if_neg (by simp [hw])]
  exact ⟨fun _ _=>trivial,hK _ _ _ _ _ h1 h2 hi (zps hi he _ hd1) hn (by rw [zgg]; exact hs) (by rw [zdb]; exact hd)⟩
theorem z2l {R:Option Nat} {nn:Nat} (hT:zbb P T) {ops:Array Oper} {effs pend keep:List Nat} {Q:Env→Store→Prop} (hdst:∀ o∈ops.toList,∀ d,o.dst=some d→d<N)
  (hdep:∀ (i:Nat) o,ops[i]?=some o→∀ e∈o.after.toList,Region.binds .any e=true→e.on<ops.size) {x0 y0:Nat} (hxy:x0≠y0) (hno1:((prs ops).getD x0 0).testBit y0=false) (hno2:((prs ops).getD y0 0).testBit x0=false)
  (hnc:∀ (i:Nat) (o:Oper),ops[i]?=some o→∀ c,o.op ≠ .call c) :
  ∀ (fuel:Nat) (listed:Array Bool) (l l':List Nat) {e:Env} {F:Nat→Prop} {G:GSt} {a:Act} {w:World},l.length=fuel→l'.length=fuel→x0∈l→y0∈l →
   l.Pairwise (fun x i=>zgx ops (prs ops) effs pend x i=true∨(x=x0∧i=y0))→l'.Pairwise (fun x i=>zgx ops (prs ops) effs pend x i=true∨(x=y0∧i=x0))→l.Nodup→l'.Nodup→(∀ x∈l,((prs ops).getD x 0).testBit x=false) →
   listed.size=ops.size→(∀ i,i∈l↔i<ops.size∧listed.getD i true=false)→(∀ i,i∈l'↔i<ops.size∧listed.getD i true=false) →
   (∀ i x,listed.getD i false=true→((prs ops).getD i 0).testBit x=true→x<ops.size→listed.getD x true=true) →
   zcs P T ops effs pend keep Q l e G.er→zcs P T ops effs pend keep Q l' e G.er→Inv F G w→zem w.heap F G e a→Next F0 G0 w0 F G w→a.tmps.size=N→Marks w0 a.defers w →
   wpAnyIn (fnc R) nn P .any ops (Sto F0 G0 w0 N (Nrm Q)) fuel listed a w:=by
 intro fuel
 induction fuel with
 | zero =>
  intro listed l l' e F G a w hl hl' hx0 hy0 hp hp' hnd hnd' hself hsz hmem hmem' hcl h h' hi he hn hs hd
  have hl0:l=[]:=List.eq_nil_of_length_eq_zero hl
  subst hl0
  simp at hx0
 | succ fuel ih =>
  intro listed l l' e F G a w hl hl' hx0 hy0 hp hp' hnd hnd' hself hsz hmem hmem' hcl h h' hi he hn hs hd
  have hmm:∀ i,i∈l↔i∈l':=fun i=>(hmem i).trans (hmem' i).symm
  have bound:∀ i x,((prs ops).getD i 0).testBit x=true→x<ops.size:=by
   have key:∀ n i x,i<n→((prs ops).getD i 0).testBit x=true→x<ops.size:=by
    intro n
    induction n with
    | zero=>intro i x h; omega
    | succ n ihn =>
     intro i x hin hx
     obtain ⟨o,ho,ed,h1,h2,h3⟩:=zns hx
     rcases h3 with rfl | ⟨h3,h4⟩
     ·exact hdep i o ho ed h1 h2
     exact ihn ed.on x (by omega) h4
   exact fun i x=>key (i+1) i x (Nat.lt_succ_self _)
  have facts:∀ i,i∈Region.ready .any ops listed→i∈l∧∃ q,ops[i]?=some q∧∀ e∈q.after.toList,Region.binds .any e=true→listed.getD e.on false=true:=by
   intro i hr
   unfold Region.ready at hr
   rw [List.mem_filter]at hr
   obtain ⟨h1,h2⟩:=hr
   have hlt:i<ops.size:=by simpa using h1
   rw [Array.getElem?_eq_getElem hlt]at h2
   simp only[qO,Option.getD_some,qB,Bool.not_eq_true']at h2
   refine ⟨(hmem i).2 ⟨hlt,h2.1⟩,ops[i],Array.getElem?_eq_getElem hlt,fun e he hb=>?_⟩
   have:=h2.2
   rw [Array.all_eq_true_iff_forall_mem]at this
   have:=this e (by simpa using he)
   simpa [hb] using this
  have preds:∀ i,i∈Region.ready .any ops listed→∀ x,((prs ops).getD i 0).testBit x=true→listed.getD x true=true:=by
   intro i hr x hx
   obtain ⟨_,q,hq,hdeps⟩:=facts i hr
   have hxl:=bound i x hx
   obtain ⟨o,ho,ed,h1,h2,h3⟩:=zns hx
   rw [hq]at ho
   cases ho
   have hl1:=hdeps ed h1 h2
   rcases h3 with rfl | ⟨_,h3⟩
   ·have hlt:ed.on<listed.size:=by rw [hsz]; exact hxl
    rw [Array.getD_eq_getD_getElem?,Array.getElem?_eq_getElem hlt]at hl1 ⊢
    exact hl1
   exact hcl _ _ hl1 h3 hxl
  refine ⟨fun hr0=>?_,fun i hr=>?_⟩
  ·exfalso
   cases l with
   | nil=>simp at hl
   | cons x l =>
    have hx:=(hmem x).1 (by simp)
    have hready:x∈Region.ready .any ops listed:=by
     unfold Region.ready
     rw [List.mem_filter]
     refine ⟨by simpa using hx.1,?_⟩
     rw [Array.getElem?_eq_getElem hx.1]
     simp only[qO,Option.getD_some,qB,Bool.not_eq_true']
     refine ⟨hx.2,?_⟩
     rw [Array.all_eq_true_iff_forall_mem]
     intro ed hed
     cases hb:Region.binds .any ed with
     | false=>simp
     | true =>
      have hon:=hdep x _ (Array.getElem?_eq_getElem hx.1) ed (by simpa using hed) hb
      have hbit:=zq8 (Array.getElem?_eq_getElem hx.1) (by simpa using hed) hb
      cases hq:listed.getD ed.on true with
      | true =>
       have hlt:ed.on<listed.size:=by rw [hsz]; exact hon
       rw [Array.getD_eq_getD_getElem?,Array.getElem?_eq_getElem hlt]at hq ⊢
       simpa using hq
      | false =>
       exfalso
       have hm:=(hmem ed.on).2 ⟨hon,hq⟩
       rcases List.mem_cons.1 hm with he1 | hm
       ·have:=hself x (by simp)
        rw [he1]at hbit
        rw [hbit]at this
        cases this
       rcases List.rel_of_pairwise_cons hp hm with this | ⟨e1,e2⟩
       ·unfold zgx at this
        rw [hbit]at this
        simp at this
       rw [e1,e2,hno1]at hbit; cases hbit
    rw [hr0]at hready
    simp at hready
  obtain ⟨hil,q,hq,_⟩:=facts i hr
  have hil':=(hmm i).1 hil
  obtain ⟨l1,l2,rfl⟩:=List.append_of_mem hil
  obtain ⟨l3,l4,rfl⟩:=List.append_of_mem hil'
  have good:∀ x,x∈l1++i::l2→zgx ops (prs ops) effs pend x i=true→∃ p,ops[x]?=some p∧effs.contains x=false∧Oper.apart ops p q=true∧(effs.contains i=true→(pend.contains x=true∧pend.contains i=false)∨zsu p.op=true):=by
   intro x hx hpair
   have hxm:=(hmem x).1 hx
   have hnb:((prs ops).getD i 0).testBit x=false:=by
    cases hb:((prs ops).getD i 0).testBit x with
    | false=>rfl
    | true=>have:=preds i hr x hb; rw [hxm.2]at this; cases this
   unfold zgx at hpair
   rw [hnb,hq,Array.getElem?_eq_getElem hxm.1]at hpair
   simp only[Bool.false_or,qB,Bool.not_eq_true',Bool.or_eq_true]at hpair
   refine ⟨ops[x],Array.getElem?_eq_getElem hxm.1,hpair.2.1.1,hpair.2.1.2,fun hc=>?_⟩
   rcases hpair.2.2 with (h1 | h1) | h1
   ·rw [hc]at h1; cases h1
   ·exact .inl h1
   exact .inr h1
  have hlt:i<ops.size:=((hmem i).1 hil).1
  have hgetD:∀ j d,(listed.setIfInBounds i true).getD j d=if j=i then true else listed.getD j d:=by
   intro j d
   rw [Array.getD_eq_getD_getElem?,Array.getD_eq_getD_getElem?]
   by_cases hj:j=i
   ·subst hj; simp [hsz,hlt]
   rw [Array.getElem?_setIfInBounds_ne (Ne.symm hj),if_neg hj]
  have nmem:∀ {m1 m2:List Nat},(m1++i::m2).Nodup→i ∉ m1++m2:=by
   intro m1 m2 hnd hm
   have:=List.nodup_append.1 hnd
   rcases List.mem_append.1 hm with h1 | h1
   ·exact this.2.2 i h1 i (by simp) rfl
   exact (List.nodup_cons.1 this.2.1).1 h1
  have nlist:∀ {m1 m2:List Nat},(m1++i::m2).Nodup→(∀ j,j∈m1++i::m2↔j<ops.size∧listed.getD j true=false)→∀ j,j∈m1++m2↔j<ops.size∧(listed.setIfInBounds i true).getD j true=false:=by
   intro m1 m2 hnd hm j
   rw [hgetD]
   by_cases hj:j=i
   ·subst hj
    rw [if_pos rfl]
    exact ⟨fun h=>(nmem hnd h).elim,fun h=>(by cases h.2)⟩
   rw [if_neg hj,← hm j]
   simp [hj]
  have ncl:∀ (j x:Nat),(listed.setIfInBounds i true).getD j false=true→((prs ops).getD j 0).testBit x=true→x<ops.size→(listed.setIfInBounds i true).getD x true=true:=by
   intro j x h1 h2 h3
   rw [hgetD]at h1 ⊢
   by_cases hx:x=i
   ·rw [if_pos hx]
   rw [if_neg hx]
   by_cases hj:j=i
   ·subst hj; exact preds j hr x h2
   rw [if_neg hj]at h1; exact hcl j x h1 h2 h3
  by_cases ix:i=x0
  ·subst ix
   have hfront:=zer hq l1 (fun x hx=>good x (by simp [hx]) (by
    rcases (List.pairwise_append.1 hp).2.2 x hx i (by simp) with h1 | ⟨e1,e2⟩
    ·exact h1
    exact absurd e2 hxy)) h
   refine zo0 hT hfront hi he hn hs hd hdst ?_
   intro e' F' G' a' w' k1 k2 k3 k4 k5 k6
   refine zoa hT hdst hdep _ _ (l1++l2) (by simp at hl ⊢; omega) ?_ (hnd.sublist (by simp)) (fun x hx=>hself x (by rcases List.mem_append.1 hx with h9 | h9 <;> simp [h9])) (by simp [hsz]) (nlist hnd hmem) ncl k1 k2 k3 k4 k5 k6
   refine (hp.sublist (by simp)).imp_of_mem (S:=fun x i=>zgx ops (prs ops) effs pend x i=true) fun {x y} hx hy hh=>?_
   rcases hh with h1 | ⟨e1,e2⟩
   ·exact h1
   exact absurd (e1 ▸ hx) (nmem hnd)
  by_cases iy:i=y0
  ·subst iy
   have hfront:=zer hq l3 (fun x hx=>good x ((hmm x).2 (by simp [hx])) (by
    rcases (List.pairwise_append.1 hp').2.2 x hx i (by simp) with h1 | ⟨e1,e2⟩
    ·exact h1
    exact absurd e2 ix)) h'
   refine zo0 hT hfront hi he hn hs hd hdst ?_
   intro e' F' G' a' w' k1 k2 k3 k4 k5 k6
   refine zoa hT hdst hdep _ _ (l3++l4) (by simp at hl' ⊢; omega) ?_ (hnd'.sublist (by simp)) (fun x hx=>hself x ((hmm x).2 (by rcases List.mem_append.1 hx with h9 | h9 <;> simp [h9]))) (by simp [hsz]) (nlist hnd' hmem') ncl k1 k2 k3 k4 k5 k6
   refine (hp'.sublist (by simp)).imp_of_mem (S:=fun x i=>zgx ops (prs ops) effs pend x i=true) fun {x y} hx hy hh=>?_
   rcases hh with h1 | ⟨e1,e2⟩
   ·exact h1
   exact absurd (e1 ▸ hx) (nmem hnd')
  have hf1:=zer hq l1 (fun x hx=>good x (by simp [hx]) (by
   rcases (List.pairwise_append.1 hp).2.2 x hx i (by simp) with h1 | ⟨e1,e2⟩
   ·exact h1
   exact absurd e2 iy)) h
  have hf2:=zer hq l3 (fun x hx=>good x ((hmm x).2 (by simp [hx])) (by
   rcases (List.pairwise_append.1 hp').2.2 x hx i (by simp) with h1 | ⟨e1,e2⟩
   ·exact h1
   exact absurd e2 ix)) h'
  refine z5w hT (hnc i) hf1 hf2 hi he hn hs hd hdst ?_
  intro e' F' G' a' w' k1 k1' k2 k3 k4 k5 k6
  have hx1:x0∈l1++l2:=by have:=hx0; simp only[List.mem_append,List.mem_cons]at this ⊢; rcases this with h9 | h9 | h9 <;> first | exact .inl h9 | exact .inr h9 | exact absurd h9.symm ix
  have hy1:y0∈l1++l2:=by have:=hy0; simp only[List.mem_append,List.mem_cons]at this ⊢; rcases this with h9 | h9 | h9 <;> first | exact .inl h9 | exact .inr h9 | exact absurd h9.symm iy
  exact ih _ (l1++l2) (l3++l4) (by simp at hl ⊢; omega) (by simp at hl' ⊢; omega) hx1 hy1 (hp.sublist (by simp)) (hp'.sublist (by simp)) (hnd.sublist (by simp)) (hnd'.sublist (by simp)) (fun x hx=>hself x (by rcases List.mem_append.1 hx with h9 | h9 <;> simp [h9])) (by simp [hsz])
   (nlist hnd hmem) (nlist hnd' hmem') ncl k1 k1' k2 k3 k4 k5 k6
def z18 (ops:Array Oper) (l l' effs pend:List Nat) (a b:Nat):Bool :=
 let B:=prs ops
 zly (fun x i=>zgx ops B effs pend x i || (x == a && i == b)) l && zly (fun x i=>zgx ops B effs pend x i || (x == b && i == a)) l' && l.length == ops.size && l'.length == ops.size && l.all (fun x=>decide (x<ops.size) && !(B.getD x 0).testBit x) && l'.all (fun x=>decide (x<ops.size)) &&
 ((List.range ops.size).all l.contains) && ((List.range ops.size).all l'.contains) && (ops.toList.all fun o=>o.after.toList.all fun e => !Region.binds .any e || decide (e.on<ops.size)) &&
 !(a == b) && l.contains a && l.contains b && !(B.getD a 0).testBit b && !(B.getD b 0).testBit a && ops.toList.all fun o=>match o.op with | .call _=>false | _=>true
theorem W.region_two {Q:Exit→Env→Store→Prop} {e:Env} {S:Store} {id:Nat} {ops:Array Oper} (l l' effs pend keep:List Nat) (a b:Nat) (hc:z18 ops l l' effs pend a b=true) (h:zcs P T ops effs pend keep (Q .normal) l e S) (h':zcs P T ops effs pend keep (Q .normal) l' e S) :
  W P T (.region id ops true) Q e S:=by
 refine ⟨?_⟩
 intro hT hm F0 G0 w0 N F G act w h3 h4 h5 h6 h7 h8 h9 R nn
 subst h3
 unfold z18 at hc
 simp only[qB,beq_iff_eq,List.all_eq_true,decide_eq_true_eq,Bool.not_eq_true',List.contains_eq_mem,List.mem_range,Bool.or_eq_true,beq_eq_false_iff_ne]at hc
 obtain ⟨⟨⟨⟨⟨⟨⟨⟨⟨⟨⟨⟨⟨⟨c1,c1'⟩,c2⟩,c2'⟩,c3⟩,c3'⟩,c4⟩,c4'⟩,c5⟩,c6⟩,c7⟩,c8⟩,c9⟩,c10⟩,c11⟩:=hc
 obtain ⟨p1,p2⟩:=zgd c1
 obtain ⟨p1',p2'⟩:=zgd c1'
 have hin:∀ i,i<ops.size↔i<ops.size∧(Array.replicate ops.size false).getD i true=false:=by
  intro i
  constructor
  ·intro hi; refine ⟨hi,?_⟩; rw [Array.getD_eq_getD_getElem?]; simp [hi]
  exact fun h=>h.1
 refine wpIn_mono (wpIn_region_any hm (z2l (Q:=Q .normal) hT (zwh h9) ?_ c6 c9 c10 ?_ ops.size (Array.replicate ops.size false) l l' c2 c2' (by simpa using c7) (by simpa using c8) (p1.imp fun h=>by simpa using h) (p1'.imp fun h=>by simpa using h) p2 p2' (fun x hx=>(c3 x hx).2) (by simp) ?_ ?_ ?_ h h' (h4.drew) h5 (h6.drew) h7 h8)) z3w
 ·intro i o ho ed hed hb
  have hmem:o∈ops.toList:=by
   have:=Array.mem_of_getElem? ho
   simpa using this
  have:=c5 o hmem ed hed
  rw [hb]at this
  simpa using this
 ·intro i o ho c hcc
  have hmem:o∈ops.toList:=by
   have:=Array.mem_of_getElem? ho
   simpa using this
  have:=c11 o hmem
  rw [hcc]at this
  simp at this
 ·exact fun i=>⟨fun hi=>(hin i).1 (c3 i hi).1,fun hi=>c4 i hi.1⟩
 ·exact fun i=>⟨fun hi=>(hin i).1 (c3' i hi),fun hi=>c4' i hi.1⟩
 intro i x hx
 rw [Array.getD_eq_getD_getElem?]at hx
 simp only[Array.getElem?_replicate]at hx
 split at hx <;> cases hx
theorem zoc {all:List Oper} {effs pend:List Nat} {K:Env→Store→Prop} (heff:∀ (i:Nat) (o:Oper),all[i]?=some o→effs.contains i=false→zep o.op=true) {x:Nat} {cs:List PV} {off:Nat}
  (hx:∀ (i:Nat) (o:Oper),all[i]?=some o→o.dst≠some x) (hpe:∀ (i:Nat) (o:Oper),all[i]?=some o→pend.contains i=true→∃ t,o.op = .load t (.tmp x)):∀ (r:List Nat) (l:List Oper) {e:Env} {S:Store},e x = .ip cs off→r.map (all[·]?)=l.map some →
  za7 false P T (dsts all) l e S K→zcs P T all.toArray effs pend [] K r e S
 | [],l,e,S,_,hl,h=>by
  cases l with
  | nil=>exact h
  | cons o l=>simp at hl
 | i::r,l,e,S,hex,hl,h=>by
  cases l with
  | nil=>simp at hl
  | cons o l =>
   simp only[List.map_cons,List.cons.injEq]at hl
   obtain ⟨ho,hl⟩:=hl
   have hput:∀ v,(e.put o.dst v) x = .ip cs off:=fun v=>by
    have:=hx i o ho
    cases hd:o.dst with
    | none=>exact hex
    | some d=>rw [zsm,if_neg (fun e1=>this (by rw [hd,e1]))]; exact hex
   unfold za7 at h
   simp only[zcs,List.getElem?_toArray,ho]
   rw [zjn]at h
   unfold zel
   split at h
   ·rename_i hg
    rw [hg]
    simp only
    split
    ·exact zff (fun v S' hv=>⟨.inr (by intro o ho; cases ho),zoc heff hx hpe r l (hput v) hl hv⟩) (zj0 h)
    rename_i hc
    have:=znj (heff i o ho (by simpa using hc)) h
    rw [zdr]at this ⊢
    obtain ⟨v,h1,h2⟩:=this
    refine ⟨v,h1,?_,zoc heff hx hpe r l (hput v) hl h2⟩
    split
    ·rename_i hp
     obtain ⟨t,ht⟩:=hpe i o ho hp
     intro S' _
     rw [ht]at h1 ⊢
     simp only[pFl,zdk,z2p,hex,zsi]at h1 ⊢
     exact h1
    trivial
   ·rename_i hg; rw [hg]; exact zoc heff hx hpe r l (hput _) hl h
   exact h.elim
def ycx (l:List Oper) (effs pend:List Nat) (x:Nat):Bool :=
 l.all (fun o=>o.dst != some x) && (l.zipIdx.all fun q => !pend.contains q.2 || (match q.1.op with | .load _ (.tmp y)=>y == x | _=>false))
theorem W.draw_two {Q:Exit→Env→Store→Prop} {e:Env} {S:Store} {id:Nat} {l r1 r2:List Oper} (l1 l2 pend:List Nat) (a b x:Nat) {cs:List PV} {off:Nat} (hex:e x = .ip cs off) (hc:z18 l.toArray l1 l2 (zb5 l 0) pend a b=true) (ho:ycx l (zb5 l 0) pend x=true)
  (hr:l1.map (l[·]?)=r1.map some) (hr2:l2.map (l[·]?)=r2.map some)
  (h1:∀ K:Env→Store→Prop,(∀ e S,Q .normal e S→K e S)→za7 false P T (dsts l) r1 e S K) (h2:∀ K:Env→Store→Prop,(∀ e S,Q .normal e S→K e S)→za7 false P T (dsts l) r2 e S K):W P T (.region id l.toArray true) Q e S:=by
 unfold ycx at ho
 simp only[qB,List.all_eq_true,bne_iff_ne,Bool.or_eq_true,Bool.not_eq_true']at ho
 have heff:∀ (i:Nat) (o:Oper),l[i]?=some o→(zb5 l 0).contains i=false→zep o.op=true:=by
  intro i o hio hc
  have:=zjj l 0 i o hio
  rw [Nat.zero_add]at this
  cases hf:zep o.op with
  | true=>rfl
  | false=>have:=this.2 hf; simp at hc; exact absurd this hc
 have hx:∀ (i:Nat) (o:Oper),l[i]?=some o→o.dst≠some x:=fun i o hio=>ho.1 o (List.mem_of_getElem? hio)
 have hpe:∀ (i:Nat) (o:Oper),l[i]?=some o→pend.contains i=true→∃ t,o.op = .load t (.tmp x):=by
  intro i o hio hp
  rcases ho.2 (o,i) (List.mem_of_getElem? (i:=i) (by simp [List.getElem?_zipIdx,hio])) with h | h
  ·rw [hp]at h; cases h
  simp only at h
  split at h
  ·rename_i t y hop; exact ⟨t,by rw [hop,beq_iff_eq.1 h]⟩
  cases h
 exact W.region_two l1 l2 (zb5 l 0) pend [] a b hc (zoc heff hx hpe _ _ hex hr (h1 _ fun _ _ h=>h)) (zoc heff hx hpe _ _ hex hr2 (h2 _ fun _ _ h=>h))
end
end
theorem zac {a b:Nat}:((a+b:Nat):Int) - (a:Int)=(b:Int):=by omega
theorem zw0 {p:List Txt} (hp:zbx p=true):GW (gP p) p.length (zad p).length:=by
 rw [← zda]at hp
 simp only[ze0,qB]at hp
 have:=zyo hp.1
 rwa [zf5]at this
theorem z6u {p:List Txt} (hp:zbx p=true) {t:Pt} (ht:t.In p.length (zad p).length) (l:Nat) (a b c d:Ob) (tk:Nat) (B C D:Bool × Nat→Ob)
  (hy:∀ q,zc2 (zam p) t=some q→∀ (x y:Ob) (tk2:Nat),tk≤tk2→Ey Tryz.prog l [zx3 (gP p) (rP p) t q] ⟨[a,b,c,d,x,y],tk2⟩ fun v S=>v = .bool false∧∃ tk3,S=⟨[a,B q,C q,D q,x,y],tk3⟩):Ev Tryz.prog 153 [.yl l,.ip (zap (gP p) (rP p)::t.rect.cells) 0] ⟨[a,b,c,d],tk⟩ fun v S=>(∃ tk2,zc2 (zam p) t=none∧S=⟨[a,b,c,d],tk2⟩)∨∃ q tk2,zc2 (zam p) t=some q∧S=⟨[a,B q,C q,D q],tk2⟩:=by
 have hsm:=zdz (zc0 hp)
 obtain ⟨t1,t2,t3,t4⟩:=id ht
 have hgw:=zw0 hp
 obtain ⟨g1,g2,g3,g4⟩:=hgw.2.2
 simp only[Pt.rect,Rect.cells]
 refine Ev.of ⟨Tryz.func153,by kernel_rfl,rfl,by kernel_rfl⟩ zav mixed (by show 2≤Tryz.f153.ntmps; decide) ?_
 refine W.seq ?_
 refine W.r fun K hK=>?_
 simp(disch:=omega)only[↓RU,RV,RH,↓reduceIte,qE,reduceCtorEq,if_pos,w64,↓RS,RG,qA,qM,qL,ty7,zbf,zas,zaa,zbg,zat,zac]
 apply hK;clear hK K
 refine W.block ?_
 refine W.loop [0,1,3] (fun n vs S=>∃ k tk2:Nat,n=t.w - k∧1≤k∧k≤t.w∧(∀ j,1≤j→j<k→thU (zam p) t j=false)∧tk≤tk2∧vs=[.yl l,.ip [zap (gP p) (rP p),.int .i64 t.r,.int .i64 t.c,.int .i64 t.h,.int .i64 t.w] 0,.int .i64 ((t.c+k:Nat):Int)]∧S=⟨[a,b,c,d],tk2⟩) (t.w - 1) ?_ ?_
 ·refine ⟨4,1,_,rfl,by omega,by omega,fun j _ _=>by omega,qR _,?_,rfl⟩
  simp [Env.put,Env.of,zaj]
 rintro n vs S - ⟨k,tk2,rfl,hk1,h_k,hall,htk,rfl,rfl⟩
 refine W.seq ?_
 refine W.r fun K hK=>?_
 simp(disch:=omega)only[↓RU,RV,RH,↓reduceIte,qE,reduceCtorEq,if_pos,w64,↓RS,RG,qA,qM,qL,ty7,zbf,zas,zaa,zbg,zat,zac]
 apply hK;clear hK K
 refine W.cond rfl (fun h=>?_) (fun h=>?_)
 ·try simp only[RL]at h
  have hgu:=ydz hp ht hk1 (show k<t.w by omega)
  have e1:((t.w:Nat):Int) - ((k:Nat):Int)=((t.w - k:Nat):Int):=by omega
  refine W.skip ?_
  refine xn ?_
  refine W.seq ?_
  refine W.block ?_
  refine W.seq (W.draw_two (r1:=[_,_,_,_,_,_]) (r2:=[_,_,_,_,_,_]) [0,1,2,3,4,5] [0,1,3,2,4,5] [0,1] 2 3 1 rfl (by kernel_rfl) (by kernel_rfl) rfl rfl (fun K hK=>?_) (fun K hK=>?_))
  ·simp(disch:=omega)only[↓RU,RV,RH,↓reduceIte,qE,reduceCtorEq,if_pos,↓RS,RG,qA,qM,qL,ty7,zbf,zas,zaa,zbg,zat,zac]
   apply hK;clear hK K
   refine xn ?_
   refine W.r fun K hK=>?_
   simp(disch:=omega)only[↓RU,RV,RH,↓reduceIte,qE,reduceCtorEq,if_pos,w64,↓RS,RG,qA,qM,qL,ty7,zbf,zas,zaa,zbg,zat,zac]
   apply hK;clear hK K
   refine W.seq_pk 11 [some 34,some 35,some 36,some 37,some 38,some 39] [4] (by decide) (by kernel_rfl) fun K hK=>?_
   simp only[List.take_succ_cons,List.take_zero,List.drop_succ_cons,List.drop_zero]
   refine zar rfl ?_
   simp(disch:=omega)only[↓RU,RV,RH,↓reduceIte,qE,reduceCtorEq,if_pos,w64,↓RS,RG,qA,qM,qL,ty7,zbf,zas,zaa,zbg,zat,zac,e1,zah,zan]
   refine zao (.ip [zap (gP p) (rP p),.int .i64 t.r,.int .i64 t.c,.int .i64 t.h,.int .i64 t.w] 1) rfl rfl rfl (fun S' hS=>?_) ?_
   ·skip
    have k4:=(hS 4 (by decide)).trans (show _=some _ from rfl)
    simp(disch:=omega)only[↓RU,RV,RH,↓reduceIte,qE,reduceCtorEq,if_pos,w64,↓RS,RG,qA,qM,qL,ty7,zbf,zas,zaa,zbg,zat,zac,e1,za9,zby,zc4,zc5,k4]
   refine zao (.ip [zap (gP p) (rP p),.int .i64 t.r,.int .i64 t.c,.int .i64 t.h,.int .i64 t.w] 4) rfl rfl rfl (fun S' hS=>?_) ?_
   ·skip
    have k4:=(hS 4 (by decide)).trans (show _=some _ from rfl)
    simp(disch:=omega)only[↓RU,RV,RH,↓reduceIte,qE,reduceCtorEq,if_pos,w64,↓RS,RG,qA,qM,qL,ty7,zbf,zas,zaa,zbg,zat,zac,e1,za9,zby,zc4,zc5,k4]
   refine zao (.int .i64 t.w) rfl rfl rfl (fun S' hS=>?_) ?_
   ·skip
    have k4:=(hS 4 (by decide)).trans (show _=some _ from rfl)
    simp(disch:=omega)only[↓RU,RV,RH,↓reduceIte,qE,reduceCtorEq,if_pos,w64,↓RS,RG,qA,qM,qL,ty7,zbf,zas,zaa,zbg,zat,zac,e1,za9,zby,zc4,zc5,k4]
   refine zao (.ref 4 tk2 1) rfl rfl rfl (fun S' hS=>?_) ?_
   ·skip
    have k4:=(hS 4 (by decide)).trans (show _=some _ from rfl)
    simp(disch:=omega)only[↓RU,RV,RH,↓reduceIte,qE,reduceCtorEq,if_pos,w64,↓RS,RG,qA,qM,qL,ty7,zbf,zas,zaa,zbg,zat,zac,e1,za9,zby,zc4,zc5,k4]
   refine zao (.ref 4 tk2 4) rfl rfl rfl (fun S' hS=>?_) ?_
   ·skip
    have k4:=(hS 4 (by decide)).trans (show _=some _ from rfl)
    simp(disch:=omega)only[↓RU,RV,RH,↓reduceIte,qE,reduceCtorEq,if_pos,w64,↓RS,RG,qA,qM,qL,ty7,zbf,zas,zaa,zbg,zat,zac,e1,za9,zby,zc4,zc5,k4]
   refine zao (.int .i64 k) rfl rfl rfl (fun S' hS=>?_) ?_
   ·skip
    have k4:=(hS 4 (by decide)).trans (show _=some _ from rfl)
    simp(disch:=omega)only[↓RU,RV,RH,↓reduceIte,qE,reduceCtorEq,if_pos,w64,↓RS,RG,qA,qM,qL,ty7,zbf,zas,zaa,zbg,zat,zac,e1,za9,zby,zc4,zc5,k4]
   refine zar rfl ?_
   simp(disch:=omega)only[↓RU,RV,RH,↓reduceIte,qE,reduceCtorEq,if_pos,w64,↓RS,RG,qA,qM,qL,ty7,zbf,zas,zaa,zbg,zat,zac,e1,zah,zan]
   refine zar rfl ?_
   simp(disch:=omega)only[↓RU,RV,RH,↓reduceIte,qE,reduceCtorEq,if_pos,w64,↓RS,RG,qA,qM,qL,ty7,zbf,zas,zaa,zbg,zat,zac,e1,zah,zan]
   refine zar rfl ?_
   simp(disch:=omega)only[↓RU,RV,RH,↓reduceIte,qE,reduceCtorEq,if_pos,w64,↓RS,RG,qA,qM,qL,ty7,zbf,zas,zaa,zbg,zat,zac,e1,zah,zan]
   refine zar rfl ?_
   simp(disch:=omega)only[↓RU,RV,RH,↓reduceIte,qE,reduceCtorEq,if_pos,w64,↓RS,RG,qA,qM,qL,ty7,zbf,zas,zaa,zbg,zat,zac,e1,zah,zan]
   refine zez ?_
   simp(disch:=omega)only[↓RU,RV,RH,↓reduceIte,qE,reduceCtorEq,if_pos,w64,↓RS,RG,qA,qM,qL,ty7,zbf,zas,zaa,zbg,zat,zac,e1]
   apply hK;clear hK K
   refine W.r fun K hK=>?_
   cases hth:thU (zam p) t k
   ·skip
    simp(disch:=omega)only[↓RU,RV,RH,↓reduceIte,qE,reduceCtorEq,if_pos,qN,↓RS,RG,qA,qM,qL,ty7,za6,zbf,zf3,zas,zaa,zbg,zf4,zat,zac,hgu,hth]
    refine zae.pc (zd1 hgw (rP p) ht (level:=false) (line:=t.c+k) (by omega) (by simp; omega)) rfl (.inl rfl) ?_
    simp(disch:=omega)only[↓RU,RV,RH,↓reduceIte,qE,reduceCtorEq,if_pos,qN,↓RS,RG,qA,qM,qL,ty7,za6,zbf,zf3,zas,zaa,zbg,zf4,zat,zac,hgu,hth]
    apply hK;clear hK K
    refine W.cond rfl (fun h1=>?_) (fun h1=>?_)
    ·try simp only[RL]at h1
     exact absurd h1 (by simp)
    try simp only[RL]at h1
    refine W.skip ?_
    refine XbN ?_
    refine xn ?_
    refine W.k fun K hK=>?_
    simp(disch:=omega)only[↓RU,RV,RH,↓reduceIte,qE,reduceCtorEq,if_pos,w64,↓RS,RG,qA,qM,qL,zaa,zac]
    apply hK;clear hK K
    refine xn ?_
    refine ⟨t.w - (k+1),by omega,4,k+1,_,rfl,by omega,by omega,fun j j1 j2=>?_,?_,?_,rfl⟩
    ·rcases Nat.lt_succ_iff_lt_or_eq.1 j2 with h | rfl
     ·exact hall j j1 h
     exact hth
    ·exact Nat.le_trans htk (Nat.le_add_right _ 2)
    simp [Env.put,Env.of]; omega
   skip
   have hq:zc2 (zam p) t=some (false,k):=by unfold zc2; rw [zd6.2 ⟨hk1,by omega,hth,hall⟩]
   simp(disch:=omega)only[↓RU,RV,RH,↓reduceIte,qE,reduceCtorEq,if_pos,qN,↓RS,RG,qA,qM,qL,ty7,za6,zbf,zf3,zas,zaa,zbg,zf4,zat,zac,hgu,hth]
   refine zae.pc (zd1 hgw (rP p) ht (level:=false) (line:=t.c+k) (by omega) (by simp; omega)) rfl (.inl rfl) ?_
   simp(disch:=omega)only[↓RU,RV,RH,↓reduceIte,qE,reduceCtorEq,if_pos,qN,↓RS,RG,qA,qM,qL,ty7,za6,zbf,zf3,zas,zaa,zbg,zf4,zat,zac,hgu,hth]
   refine zv5.ey (hy _ hq _ _ _ (Nat.le_trans htk (Nat.le_add_right _ 2))) ?_
   rintro _ _ ⟨rfl,tk3,rfl⟩
   simp(disch:=omega)only[↓RU,RV,RH,↓reduceIte,qE,reduceCtorEq,if_pos,qN,↓RS,RG,qA,qM,qL,ty7,za6,zbf,zf3,zas,zaa,zbg,zf4,zat,zac,hgu,hth]
   apply hK;clear hK K
   refine W.cond rfl (fun h1=>?_) (fun h1=>?_)
   ·try simp only[RL]at h1
    refine W.ret ?_
    refine XBlock.ret ?_
    refine XThen.ret ?_
    refine XThen.ret ?_
    refine XBlock.ret ?_
    refine XThen.ret ?_
    refine Br rfl ?_
    exact ⟨4,.inr ⟨_,_,hq,rfl⟩⟩
   try simp only[RL]at h1
   exact absurd h1 (by simp)
  simp(disch:=omega)only[↓RU,RV,RH,↓reduceIte,qE,reduceCtorEq,if_pos,↓RS,RG,qA,qM,qL,ty7,zbf,zas,zaa,zbg,zat,zac]
  apply hK;clear hK K
  refine xn ?_
  refine W.r fun K hK=>?_
  simp(disch:=omega)only[↓RU,RV,RH,↓reduceIte,qE,reduceCtorEq,if_pos,w64,↓RS,RG,qA,qM,qL,ty7,zbf,zas,zaa,zbg,zat,zac]
  apply hK;clear hK K
  refine W.seq_pk 11 [some 34,some 35,some 36,some 37,some 38,some 39] [5] (by decide) (by kernel_rfl) fun K hK=>?_
  simp only[List.take_succ_cons,List.take_zero,List.drop_succ_cons,List.drop_zero]
  refine zar rfl ?_
  simp(disch:=omega)only[↓RU,RV,RH,↓reduceIte,qE,reduceCtorEq,if_pos,w64,↓RS,RG,qA,qM,qL,ty7,zbf,zas,zaa,zbg,zat,zac,e1,zah,zan]
  refine zao (.ip [zap (gP p) (rP p),.int .i64 t.r,.int .i64 t.c,.int .i64 t.h,.int .i64 t.w] 1) rfl rfl rfl (fun S' hS=>?_) ?_
  ·skip
   have k5:=(hS 5 (by decide)).trans (show _=some _ from rfl)
   simp(disch:=omega)only[↓RU,RV,RH,↓reduceIte,qE,reduceCtorEq,if_pos,w64,↓RS,RG,qA,qM,qL,ty7,zbf,zas,zaa,zbg,zat,zac,e1,za9,zby,zc4,zc5,k5]
  refine zao (.ip [zap (gP p) (rP p),.int .i64 t.r,.int .i64 t.c,.int .i64 t.h,.int .i64 t.w] 4) rfl rfl rfl (fun S' hS=>?_) ?_
  ·skip
   have k5:=(hS 5 (by decide)).trans (show _=some _ from rfl)
   simp(disch:=omega)only[↓RU,RV,RH,↓reduceIte,qE,reduceCtorEq,if_pos,w64,↓RS,RG,qA,qM,qL,ty7,zbf,zas,zaa,zbg,zat,zac,e1,za9,zby,zc4,zc5,k5]
  refine zao (.int .i64 t.w) rfl rfl rfl (fun S' hS=>?_) ?_
  ·skip
   have k5:=(hS 5 (by decide)).trans (show _=some _ from rfl)
   simp(disch:=omega)only[↓RU,RV,RH,↓reduceIte,qE,reduceCtorEq,if_pos,w64,↓RS,RG,qA,qM,qL,ty7,zbf,zas,zaa,zbg,zat,zac,e1,za9,zby,zc4,zc5,k5]
  refine zao (.ref 5 (tk2+1) 1) rfl rfl rfl (fun S' hS=>?_) ?_
  ·skip
   have k5:=(hS 5 (by decide)).trans (show _=some _ from rfl)
   simp(disch:=omega)only[↓RU,RV,RH,↓reduceIte,qE,reduceCtorEq,if_pos,w64,↓RS,RG,qA,qM,qL,ty7,zbf,zas,zaa,zbg,zat,zac,e1,za9,zby,zc4,zc5,k5]
  refine zao (.ref 5 (tk2+1) 4) rfl rfl rfl (fun S' hS=>?_) ?_
  ·skip
   have k5:=(hS 5 (by decide)).trans (show _=some _ from rfl)
   simp(disch:=omega)only[↓RU,RV,RH,↓reduceIte,qE,reduceCtorEq,if_pos,w64,↓RS,RG,qA,qM,qL,ty7,zbf,zas,zaa,zbg,zat,zac,e1,za9,zby,zc4,zc5,k5]
  refine zao (.int .i64 k) rfl rfl rfl (fun S' hS=>?_) ?_
  ·skip
   have k5:=(hS 5 (by decide)).trans (show _=some _ from rfl)
   simp(disch:=omega)only[↓RU,RV,RH,↓reduceIte,qE,reduceCtorEq,if_pos,w64,↓RS,RG,qA,qM,qL,ty7,zbf,zas,zaa,zbg,zat,zac,e1,za9,zby,zc4,zc5,k5]
  refine zar rfl ?_
  simp(disch:=omega)only[↓RU,RV,RH,↓reduceIte,qE,reduceCtorEq,if_pos,w64,↓RS,RG,qA,qM,qL,ty7,zbf,zas,zaa,zbg,zat,zac,e1,zah,zan]
  refine zar rfl ?_
  simp(disch:=omega)only[↓RU,RV,RH,↓reduceIte,qE,reduceCtorEq,if_pos,w64,↓RS,RG,qA,qM,qL,ty7,zbf,zas,zaa,zbg,zat,zac,e1,zah,zan]
  refine zar rfl ?_
  simp(disch:=omega)only[↓RU,RV,RH,↓reduceIte,qE,reduceCtorEq,if_pos,w64,↓RS,RG,qA,qM,qL,ty7,zbf,zas,zaa,zbg,zat,zac,e1,zah,zan]
  refine zar rfl ?_
  simp(disch:=omega)only[↓RU,RV,RH,↓reduceIte,qE,reduceCtorEq,if_pos,w64,↓RS,RG,qA,qM,qL,ty7,zbf,zas,zaa,zbg,zat,zac,e1,zah,zan]
  refine zez ?_
  simp(disch:=omega)only[↓RU,RV,RH,↓reduceIte,qE,reduceCtorEq,if_pos,w64,↓RS,RG,qA,qM,qL,ty7,zbf,zas,zaa,zbg,zat,zac,e1]
  apply hK;clear hK K
  refine W.r fun K hK=>?_
  cases hth:thU (zam p) t k
  ·skip
   simp(disch:=omega)only[↓RU,RV,RH,↓reduceIte,qE,reduceCtorEq,if_pos,qN,↓RS,RG,qA,qM,qL,ty7,za6,zbf,zf3,zas,zaa,zbg,zf4,zat,zac,hgu,hth]
   refine zae.pc (zd1 hgw (rP p) ht (level:=false) (line:=t.c+k) (by omega) (by simp; omega)) rfl (.inl rfl) ?_
   simp(disch:=omega)only[↓RU,RV,RH,↓reduceIte,qE,reduceCtorEq,if_pos,qN,↓RS,RG,qA,qM,qL,ty7,za6,zbf,zf3,zas,zaa,zbg,zf4,zat,zac,hgu,hth]
   apply hK;clear hK K
   refine W.cond rfl (fun h1=>?_) (fun h1=>?_)
   ·try simp only[RL]at h1
    exact absurd h1 (by simp)
   try simp only[RL]at h1
   refine W.skip ?_
   refine XbN ?_
   refine xn ?_
   refine W.k fun K hK=>?_
   simp(disch:=omega)only[↓RU,RV,RH,↓reduceIte,qE,reduceCtorEq,if_pos,w64,↓RS,RG,qA,qM,qL,zaa,zac]
   apply hK;clear hK K
   refine xn ?_
   refine ⟨t.w - (k+1),by omega,4,k+1,_,rfl,by omega,by omega,fun j j1 j2=>?_,?_,?_,rfl⟩
   ·rcases Nat.lt_succ_iff_lt_or_eq.1 j2 with h | rfl
    ·exact hall j j1 h
    exact hth
   ·exact Nat.le_trans htk (Nat.le_add_right _ 2)
   simp [Env.put,Env.of]; omega
  skip
  have hq:zc2 (zam p) t=some (false,k):=by unfold zc2; rw [zd6.2 ⟨hk1,by omega,hth,hall⟩]
  simp(disch:=omega)only[↓RU,RV,RH,↓reduceIte,qE,reduceCtorEq,if_pos,qN,↓RS,RG,qA,qM,qL,ty7,za6,zbf,zf3,zas,zaa,zbg,zf4,zat,zac,hgu,hth]
  refine zae.pc (zd1 hgw (rP p) ht (level:=false) (line:=t.c+k) (by omega) (by simp; omega)) rfl (.inl rfl) ?_
  simp(disch:=omega)only[↓RU,RV,RH,↓reduceIte,qE,reduceCtorEq,if_pos,qN,↓RS,RG,qA,qM,qL,ty7,za6,zbf,zf3,zas,zaa,zbg,zf4,zat,zac,hgu,hth]
  refine zv5.ey (hy _ hq _ _ _ (Nat.le_trans htk (Nat.le_add_right _ 2))) ?_
  rintro _ _ ⟨rfl,tk3,rfl⟩
  simp(disch:=omega)only[↓RU,RV,RH,↓reduceIte,qE,reduceCtorEq,if_pos,qN,↓RS,RG,qA,qM,qL,ty7,za6,zbf,zf3,zas,zaa,zbg,zf4,zat,zac,hgu,hth]
  apply hK;clear hK K
  refine W.cond rfl (fun h1=>?_) (fun h1=>?_)
  ·try simp only[RL]at h1
   refine W.ret ?_
   refine XBlock.ret ?_
   refine XThen.ret ?_
   refine XThen.ret ?_
   refine XBlock.ret ?_
   refine XThen.ret ?_
   refine Br rfl ?_
   exact ⟨4,.inr ⟨_,_,hq,rfl⟩⟩
  try simp only[RL]at h1
  exact absurd h1 (by simp)
 try simp only[RL]at h
 obtain rfl:k=t.w:=by omega
 refine W.exit ?_
 refine xe ?_
 refine xe ?_
 refine XBlock.hit ?_
 refine xn ?_
 refine W.r fun K hK=>?_
 simp(disch:=omega)only[↓RU,RV,RH,↓reduceIte,qE,reduceCtorEq,if_pos,w64,↓RS,RG,qA,qM,qL,ty7,zbf,zas,zaa,zbg,zat,zac]
 apply hK;clear hK K
 refine W.block ?_
 refine W.loop [0,1,6] (fun n vs S=>∃ k tk2:Nat,n=t.h - k∧1≤k∧k≤t.h∧(∀ j,1≤j→j<k→thL (zam p) t j=false)∧tk≤tk2∧vs=[.yl l,.ip [zap (gP p) (rP p),.int .i64 t.r,.int .i64 t.c,.int .i64 t.h,.int .i64 t.w] 0,.int .i64 ((t.r+k:Nat):Int)]∧S=⟨[a,b,c,d],tk2⟩) (t.h - 1) ?_ ?_
 ·refine ⟨4,1,_,rfl,by omega,by omega,fun j _ _=>by omega,htk,?_,rfl⟩
  simp [Env.put,Env.of,zaj]
 rintro n vs S - ⟨k,tk2,rfl,hk1,h_k,hall2,htk,rfl,rfl⟩
 refine W.seq ?_
 refine W.r fun K hK=>?_
 simp(disch:=omega)only[↓RU,RV,RH,↓reduceIte,qE,reduceCtorEq,if_pos,w64,↓RS,RG,qA,qM,qL,ty7,zbf,zas,zaa,zbg,zat,zac]
 apply hK;clear hK K
 refine W.cond rfl (fun h=>?_) (fun h=>?_)
 ·try simp only[RL]at h
  have hgu:=ydy hp ht hk1 (show k<t.h by omega)
  have e1:((t.h:Nat):Int) - ((k:Nat):Int)=((t.h - k:Nat):Int):=by omega
  refine W.skip ?_
  refine xn ?_
  refine W.seq ?_
  refine W.block ?_
  refine W.seq (W.draw_two (r1:=[_,_,_,_,_,_]) (r2:=[_,_,_,_,_,_]) [0,1,2,3,4,5] [0,1,3,2,4,5] [0,1] 2 3 1 rfl (by kernel_rfl) (by kernel_rfl) rfl rfl (fun K hK=>?_) (fun K hK=>?_))
  ·simp(disch:=omega)only[↓RU,RV,RH,↓reduceIte,qE,reduceCtorEq,if_pos,↓RS,RG,qA,qM,qL,ty7,zbf,zas,zaa,zbg,zat,zac]
   apply hK;clear hK K
   refine xn ?_
   refine W.r fun K hK=>?_
   simp(disch:=omega)only[↓RU,RV,RH,↓reduceIte,qE,reduceCtorEq,if_pos,w64,↓RS,RG,qA,qM,qL,ty7,zbf,zas,zaa,zbg,zat,zac]
   apply hK;clear hK K
   refine W.seq_pk 11 [some 81,some 82,some 83,some 84,some 85,some 86] [4] (by decide) (by kernel_rfl) fun K hK=>?_
   simp only[List.take_succ_cons,List.take_zero,List.drop_succ_cons,List.drop_zero]
   refine zar rfl ?_
   simp(disch:=omega)only[↓RU,RV,RH,↓reduceIte,qE,reduceCtorEq,if_pos,w64,↓RS,RG,qA,qM,qL,ty7,zbf,zas,zaa,zbg,zat,zac,e1,zah,zan]
   refine zao (.ip [zap (gP p) (rP p),.int .i64 t.r,.int .i64 t.c,.int .i64 t.h,.int .i64 t.w] 1) rfl rfl rfl (fun S' hS=>?_) ?_
   ·skip
    have k4:=(hS 4 (by decide)).trans (show _=some _ from rfl)
    simp(disch:=omega)only[↓RU,RV,RH,↓reduceIte,qE,reduceCtorEq,if_pos,w64,↓RS,RG,qA,qM,qL,ty7,zbf,zas,zaa,zbg,zat,zac,e1,za9,zby,zc4,zc5,k4]
   refine zao (.ip [zap (gP p) (rP p),.int .i64 t.r,.int .i64 t.c,.int .i64 t.h,.int .i64 t.w] 3) rfl rfl rfl (fun S' hS=>?_) ?_
   ·skip
    have k4:=(hS 4 (by decide)).trans (show _=some _ from rfl)
    simp(disch:=omega)only[↓RU,RV,RH,↓reduceIte,qE,reduceCtorEq,if_pos,w64,↓RS,RG,qA,qM,qL,ty7,zbf,zas,zaa,zbg,zat,zac,e1,za9,zby,zc4,zc5,k4]
   refine zao (.int .i64 t.h) rfl rfl rfl (fun S' hS=>?_) ?_
   ·skip
    have k4:=(hS 4 (by decide)).trans (show _=some _ from rfl)
    simp(disch:=omega)only[↓RU,RV,RH,↓reduceIte,qE,reduceCtorEq,if_pos,w64,↓RS,RG,qA,qM,qL,ty7,zbf,zas,zaa,zbg,zat,zac,e1,za9,zby,zc4,zc5,k4]
   refine zao (.ref 4 tk2 1) rfl rfl rfl (fun S' hS=>?_) ?_
   ·skip
    have k4:=(hS 4 (by decide)).trans (show _=some _ from rfl)
    simp(disch:=omega)only[↓RU,RV,RH,↓reduceIte,qE,reduceCtorEq,if_pos,w64,↓RS,RG,qA,qM,qL,ty7,zbf,zas,zaa,zbg,zat,zac,e1,za9,zby,zc4,zc5,k4]
   refine zao (.ref 4 tk2 3) rfl rfl rfl (fun S' hS=>?_) ?_
   ·skip
    have k4:=(hS 4 (by decide)).trans (show _=some _ from rfl)
    simp(disch:=omega)only[↓RU,RV,RH,↓reduceIte,qE,reduceCtorEq,if_pos,w64,↓RS,RG,qA,qM,qL,ty7,zbf,zas,zaa,zbg,zat,zac,e1,za9,zby,zc4,zc5,k4]
   refine zao (.int .i64 k) rfl rfl rfl (fun S' hS=>?_) ?_
   ·skip
    have k4:=(hS 4 (by decide)).trans (show _=some _ from rfl)
    simp(disch:=omega)only[↓RU,RV,RH,↓reduceIte,qE,reduceCtorEq,if_pos,w64,↓RS,RG,qA,qM,qL,ty7,zbf,zas,zaa,zbg,zat,zac,e1,za9,zby,zc4,zc5,k4]
   refine zar rfl ?_
   simp(disch:=omega)only[↓RU,RV,RH,↓reduceIte,qE,reduceCtorEq,if_pos,w64,↓RS,RG,qA,qM,qL,ty7,zbf,zas,zaa,zbg,zat,zac,e1,zah,zan]
   refine zar rfl ?_
   simp(disch:=omega)only[↓RU,RV,RH,↓reduceIte,qE,reduceCtorEq,if_pos,w64,↓RS,RG,qA,qM,qL,ty7,zbf,zas,zaa,zbg,zat,zac,e1,zah,zan]
   refine zar rfl ?_
   simp(disch:=omega)only[↓RU,RV,RH,↓reduceIte,qE,reduceCtorEq,if_pos,w64,↓RS,RG,qA,qM,qL,ty7,zbf,zas,zaa,zbg,zat,zac,e1,zah,zan]
   refine zar rfl ?_
   simp(disch:=omega)only[↓RU,RV,RH,↓reduceIte,qE,reduceCtorEq,if_pos,w64,↓RS,RG,qA,qM,qL,ty7,zbf,zas,zaa,zbg,zat,zac,e1,zah,zan]
   refine zez ?_
   simp(disch:=omega)only[↓RU,RV,RH,↓reduceIte,qE,reduceCtorEq,if_pos,w64,↓RS,RG,qA,qM,qL,ty7,zbf,zas,zaa,zbg,zat,zac,e1]
   apply hK;clear hK K
   refine W.r fun K hK=>?_
   cases hth:thL (zam p) t k
   ·skip
    simp(disch:=omega)only[↓RU,RV,RH,↓reduceIte,qE,reduceCtorEq,if_pos,qN,↓RS,RG,qA,qM,qL,ty7,za6,zbf,zf3,zas,zaa,zbg,zf4,zat,zac,hgu,hth]
    refine zae.pc (zd1 hgw (rP p) ht (level:=true) (line:=t.r+k) (by omega) (by simp; omega)) rfl (.inl rfl) ?_
    simp(disch:=omega)only[↓RU,RV,RH,↓reduceIte,qE,reduceCtorEq,if_pos,qN,↓RS,RG,qA,qM,qL,ty7,za6,zbf,zf3,zas,zaa,zbg,zf4,zat,zac,hgu,hth]
    apply hK;clear hK K
    refine W.cond rfl (fun h1=>?_) (fun h1=>?_)
    ·try simp only[RL]at h1
     exact absurd h1 (by simp)
    try simp only[RL]at h1
    refine W.skip ?_
    refine XbN ?_
    refine xn ?_
    refine W.k fun K hK=>?_
    simp(disch:=omega)only[↓RU,RV,RH,↓reduceIte,qE,reduceCtorEq,if_pos,w64,↓RS,RG,qA,qM,qL,zaa,zac]
    apply hK;clear hK K
    refine xn ?_
    refine ⟨t.h - (k+1),by omega,4,k+1,_,rfl,by omega,by omega,fun j j1 j2=>?_,?_,?_,rfl⟩
    ·rcases Nat.lt_succ_iff_lt_or_eq.1 j2 with h | rfl
     ·exact hall2 j j1 h
     exact hth
    ·exact Nat.le_trans htk (Nat.le_add_right _ 2)
    simp [Env.put,Env.of]; omega
   skip
   have hq:zc2 (zam p) t=some (true,k):=by unfold zc2; rw [zgs.2 hall,zd6.2 ⟨hk1,by omega,hth,hall2⟩]
   simp(disch:=omega)only[↓RU,RV,RH,↓reduceIte,qE,reduceCtorEq,if_pos,qN,↓RS,RG,qA,qM,qL,ty7,za6,zbf,zf3,zas,zaa,zbg,zf4,zat,zac,hgu,hth]
   refine zae.pc (zd1 hgw (rP p) ht (level:=true) (line:=t.r+k) (by omega) (by simp; omega)) rfl (.inl rfl) ?_
   simp(disch:=omega)only[↓RU,RV,RH,↓reduceIte,qE,reduceCtorEq,if_pos,qN,↓RS,RG,qA,qM,qL,ty7,za6,zbf,zf3,zas,zaa,zbg,zf4,zat,zac,hgu,hth]
   refine zv5.ey (hy _ hq _ _ _ (Nat.le_trans htk (Nat.le_add_right _ 2))) ?_
   rintro _ _ ⟨rfl,tk3,rfl⟩
   simp(disch:=omega)only[↓RU,RV,RH,↓reduceIte,qE,reduceCtorEq,if_pos,qN,↓RS,RG,qA,qM,qL,ty7,za6,zbf,zf3,zas,zaa,zbg,zf4,zat,zac,hgu,hth]
   apply hK;clear hK K
   refine W.cond rfl (fun h1=>?_) (fun h1=>?_)
   ·try simp only[RL]at h1
    refine W.ret ?_
    refine XBlock.ret ?_
    refine XThen.ret ?_
    refine XThen.ret ?_
    refine XBlock.ret ?_
    refine Br rfl ?_
    exact ⟨4,.inr ⟨_,_,hq,rfl⟩⟩
   try simp only[RL]at h1
   exact absurd h1 (by simp)
  simp(disch:=omega)only[↓RU,RV,RH,↓reduceIte,qE,reduceCtorEq,if_pos,↓RS,RG,qA,qM,qL,ty7,zbf,zas,zaa,zbg,zat,zac]
  apply hK;clear hK K
  refine xn ?_
  refine W.r fun K hK=>?_
  simp(disch:=omega)only[↓RU,RV,RH,↓reduceIte,qE,reduceCtorEq,if_pos,w64,↓RS,RG,qA,qM,qL,ty7,zbf,zas,zaa,zbg,zat,zac]
  apply hK;clear hK K
  refine W.seq_pk 11 [some 81,some 82,some 83,some 84,some 85,some 86] [5] (by decide) (by kernel_rfl) fun K hK=>?_
  simp only[List.take_succ_cons,List.take_zero,List.drop_succ_cons,List.drop_zero]
  refine zar rfl ?_
  simp(disch:=omega)only[↓RU,RV,RH,↓reduceIte,qE,reduceCtorEq,if_pos,w64,↓RS,RG,qA,qM,qL,ty7,zbf,zas,zaa,zbg,zat,zac,e1,zah,zan]
  refine zao (.ip [zap (gP p) (rP p),.int .i64 t.r,.int .i64 t.c,.int .i64 t.h,.int .i64 t.w] 1) rfl rfl rfl (fun S' hS=>?_) ?_
  ·skip
   have k5:=(hS 5 (by decide)).trans (show _=some _ from rfl)
   simp(disch:=omega)only[↓RU,RV,RH,↓reduceIte,qE,reduceCtorEq,if_pos,w64,↓RS,RG,qA,qM,qL,ty7,zbf,zas,zaa,zbg,zat,zac,e1,za9,zby,zc4,zc5,k5]
  refine zao (.ip [zap (gP p) (rP p),.int .i64 t.r,.int .i64 t.c,.int .i64 t.h,.int .i64 t.w] 3) rfl rfl rfl (fun S' hS=>?_) ?_
  ·skip
   have k5:=(hS 5 (by decide)).trans (show _=some _ from rfl)
   simp(disch:=omega)only[↓RU,RV,RH,↓reduceIte,qE,reduceCtorEq,if_pos,w64,↓RS,RG,qA,qM,qL,ty7,zbf,zas,zaa,zbg,zat,zac,e1,za9,zby,zc4,zc5,k5]
  refine zao (.int .i64 t.h) rfl rfl rfl (fun S' hS=>?_) ?_
  ·skip
   have k5:=(hS 5 (by decide)).trans (show _=some _ from rfl)
   simp(disch:=omega)only[↓RU,RV,RH,↓reduceIte,qE,reduceCtorEq,if_pos,w64,↓RS,RG,qA,qM,qL,ty7,zbf,zas,zaa,zbg,zat,zac,e1,za9,zby,zc4,zc5,k5]
  refine zao (.ref 5 (tk2+1) 1) rfl rfl rfl (fun S' hS=>?_) ?_
  ·skip
   have k5:=(hS 5 (by decide)).trans (show _=some _ from rfl)
   simp(disch:=omega)only[↓RU,RV,RH,↓reduceIte,qE,reduceCtorEq,if_pos,w64,↓RS,RG,qA,qM,qL,ty7,zbf,zas,zaa,zbg,zat,zac,e1,za9,zby,zc4,zc5,k5]
  refine zao (.ref 5 (tk2+1) 3) rfl rfl rfl (fun S' hS=>?_) ?_
  ·skip
   have k5:=(hS 5 (by decide)).trans (show _=some _ from rfl)
   simp(disch:=omega)only[↓RU,RV,RH,↓reduceIte,qE,reduceCtorEq,if_pos,w64,↓RS,RG,qA,qM,qL,ty7,zbf,zas,zaa,zbg,zat,zac,e1,za9,zby,zc4,zc5,k5]
  refine zao (.int .i64 k) rfl rfl rfl (fun S' hS=>?_) ?_
  ·skip
   have k5:=(hS 5 (by decide)).trans (show _=some _ from rfl)
   simp(disch:=omega)only[↓RU,RV,RH,↓reduceIte,qE,reduceCtorEq,if_pos,w64,↓RS,RG,qA,qM,qL,ty7,zbf,zas,zaa,zbg,zat,zac,e1,za9,zby,zc4,zc5,k5]
  refine zar rfl ?_
  simp(disch:=omega)only[↓RU,RV,RH,↓reduceIte,qE,reduceCtorEq,if_pos,w64,↓RS,RG,qA,qM,qL,ty7,zbf,zas,zaa,zbg,zat,zac,e1,zah,zan]
  refine zar rfl ?_
  simp(disch:=omega)only[↓RU,RV,RH,↓reduceIte,qE,reduceCtorEq,if_pos,w64,↓RS,RG,qA,qM,qL,ty7,zbf,zas,zaa,zbg,zat,zac,e1,zah,zan]
  refine zar rfl ?_
  simp(disch:=omega)only[↓RU,RV,RH,↓reduceIte,qE,reduceCtorEq,if_pos,w64,↓RS,RG,qA,qM,qL,ty7,zbf,zas,zaa,zbg,zat,zac,e1,zah,zan]
  refine zar rfl ?_
  simp(disch:=omega)only[↓RU,RV,RH,↓reduceIte,qE,reduceCtorEq,if_pos,w64,↓RS,RG,qA,qM,qL,ty7,zbf,zas,zaa,zbg,zat,zac,e1,zah,zan]
  refine zez ?_
  simp(disch:=omega)only[↓RU,RV,RH,↓reduceIte,qE,reduceCtorEq,if_pos,w64,↓RS,RG,qA,qM,qL,ty7,zbf,zas,zaa,zbg,zat,zac,e1]
  apply hK;clear hK K
  refine W.r fun K hK=>?_
  cases hth:thL (zam p) t k
  ·skip
   simp(disch:=omega)only[↓RU,RV,RH,↓reduceIte,qE,reduceCtorEq,if_pos,qN,↓RS,RG,qA,qM,qL,ty7,za6,zbf,zf3,zas,zaa,zbg,zf4,zat,zac,hgu,hth]
   refine zae.pc (zd1 hgw (rP p) ht (level:=true) (line:=t.r+k) (by omega) (by simp; omega)) rfl (.inl rfl) ?_
   simp(disch:=omega)only[↓RU,RV,RH,↓reduceIte,qE,reduceCtorEq,if_pos,qN,↓RS,RG,qA,qM,qL,ty7,za6,zbf,zf3,zas,zaa,zbg,zf4,zat,zac,hgu,hth]
   apply hK;clear hK K
   refine W.cond rfl (fun h1=>?_) (fun h1=>?_)
   ·try simp only[RL]at h1
    exact absurd h1 (by simp)
   try simp only[RL]at h1
   refine W.skip ?_
   refine XbN ?_
   refine xn ?_
   refine W.k fun K hK=>?_
   simp(disch:=omega)only[↓RU,RV,RH,↓reduceIte,qE,reduceCtorEq,if_pos,w64,↓RS,RG,qA,qM,qL,zaa,zac]
   apply hK;clear hK K
   refine xn ?_
   refine ⟨t.h - (k+1),by omega,4,k+1,_,rfl,by omega,by omega,fun j j1 j2=>?_,?_,?_,rfl⟩
   ·rcases Nat.lt_succ_iff_lt_or_eq.1 j2 with h | rfl
    ·exact hall2 j j1 h
    exact hth
   ·exact Nat.le_trans htk (Nat.le_add_right _ 2)
   simp [Env.put,Env.of]; omega
  skip
  have hq:zc2 (zam p) t=some (true,k):=by unfold zc2; rw [zgs.2 hall,zd6.2 ⟨hk1,by omega,hth,hall2⟩]
  simp(disch:=omega)only[↓RU,RV,RH,↓reduceIte,qE,reduceCtorEq,if_pos,qN,↓RS,RG,qA,qM,qL,ty7,za6,zbf,zf3,zas,zaa,zbg,zf4,zat,zac,hgu,hth]
  refine zae.pc (zd1 hgw (rP p) ht (level:=true) (line:=t.r+k) (by omega) (by simp; omega)) rfl (.inl rfl) ?_
  simp(disch:=omega)only[↓RU,RV,RH,↓reduceIte,qE,reduceCtorEq,if_pos,qN,↓RS,RG,qA,qM,qL,ty7,za6,zbf,zf3,zas,zaa,zbg,zf4,zat,zac,hgu,hth]
  refine zv5.ey (hy _ hq _ _ _ (Nat.le_trans htk (Nat.le_add_right _ 2))) ?_
  rintro _ _ ⟨rfl,tk3,rfl⟩
  simp(disch:=omega)only[↓RU,RV,RH,↓reduceIte,qE,reduceCtorEq,if_pos,qN,↓RS,RG,qA,qM,qL,ty7,za6,zbf,zf3,zas,zaa,zbg,zf4,zat,zac,hgu,hth]
  apply hK;clear hK K
  refine W.cond rfl (fun h1=>?_) (fun h1=>?_)
  ·try simp only[RL]at h1
   refine W.ret ?_
   refine XBlock.ret ?_
   refine XThen.ret ?_
   refine XThen.ret ?_
   refine XBlock.ret ?_
   refine Br rfl ?_
   exact ⟨4,.inr ⟨_,_,hq,rfl⟩⟩
  try simp only[RL]at h1
  exact absurd h1 (by simp)
 try simp only[RL]at h
 obtain rfl:k=t.h:=by omega
 refine W.exit ?_
 refine xe ?_
 refine xe ?_
 refine XBlock.hit ?_
 refine zhu.norm rfl ?_
 exact ⟨4,.inl ⟨_,zqf.2 ⟨hall,hall2⟩,rfl⟩⟩
def ya3:PV := .agg [.bool false,.nilp,.int .i64 0,.int .i64 0,.int .i64 0,.int .i64 0,.nilp,.int .i64 0,.int .i64 0,.int .i64 0,.int .i64 0]
def zt2 (p:List Txt) (t:Pt):PV:=match zc2 (zam p) t with | some q => .tup [zx3 (gP p) (rP p) t q,.bool true] | none => .tup [ya3,.bool false]
theorem zyc {p:List Txt} (hp:zbx p=true) {t:Pt} (ht:t.In p.length (zad p).length):PC Tryz.prog 92 [zg5 (gP p) (rP p) t.rect] (zt2 p t) false:=by
 simp only[zg5,Pt.rect,Rect.cells]
 refine PC.ofV ⟨Tryz.func92,by kernel_rfl,rfl,by kernel_rfl⟩ zav mixed (by show 1≤Tryz.f92.ntmps; decide) ?_
 refine V.seq_region fun K hK=>?_
 simp(disch:=omega)only[↓RU,RV,RH,↓reduceIte,qE,reduceCtorEq,if_pos,↓RS,RG,qA,qM,qL,ty7,za6,zbf,zf3,zas,zaa,zbg,zf4,zat]
 apply hK;clear hK K
 refine V.seq ?_
 refine V.seq_region fun K hK=>?_
 simp(disch:=omega)only[↓RU,RV,RH,↓reduceIte,qE,reduceCtorEq,if_pos,qN,↓RS,RG,qA,qM,qL,ty7,zbf,zas,zaa,zbg,zat]
 refine zae.pc (yae (gP p) (rP p) t.rect) rfl (.inr rfl) ?_
 simp(disch:=omega)only[↓RU,RV,RH,↓reduceIte,qE,reduceCtorEq,if_pos,qN,↓RS,RG,qA,qM,qL,ty7,zbf,zas,zaa,zbg,zat]
 apply hK;clear hK K
 refine V.block ?_
 refine V.rangeFunc [2,3] rfl fun l r hr hst hpd=>?_
 refine ⟨_,z6u hp ht l _ _ _ _ _ (fun q => .arr 1 88 11 [.bool q.1,zap (gP p) (rP p),.int .i64 (t.one q).r,.int .i64 (t.one q).c,.int .i64 (t.one q).h,.int .i64 (t.one q).w,zap (gP p) (rP p),.int .i64 (t.two q).r,.int .i64 (t.two q).c,.int .i64 (t.two q).h,.int .i64 (t.two q).w]) (fun _ => .arr 2 4 1 [.bool true]) (fun _ => .lp 3 l ({ r with state := .done,pending:=some .ret },[2,3]) [.ref 1 1 0,.ref 2 2 0]) (fun q hq x y tk2 htk=>?_),?_⟩
 ·refine Ey.of (o:=3) zav mixed rfl hr hst rfl ?_
  change W _ _ _ _ (Env.put (Env.of [2,3] [.ref 1 1 0,.ref 2 2 0]) (some 7) (.agg [.bool q.1,zap (gP p) (rP p),.int .i64 (t.one q).r,.int .i64 (t.one q).c,.int .i64 (t.one q).h,.int .i64 (t.one q).w,zap (gP p) (rP p),.int .i64 (t.two q).r,.int .i64 (t.two q).c,.int .i64 (t.two q).h,.int .i64 (t.two q).w])) _
  refine W.k fun K hK=>?_
  simp(disch:=omega)only[↓RU,RV,RH,↓reduceIte,qE,reduceCtorEq,if_pos,↓RS,RG,qA,qM,qL,ty7,za6,zbf,zf3,zas,zaa,zbg,zf4,zat]
  apply hK;clear hK K
  refine xn ⟨_,_,_,_,rfl,hst,?_⟩
  simp only[List.set_cons_succ,List.set_cons_zero]
  refine W.block ?_
  refine W.r fun K hK=>?_
  simp(disch:=omega)only[↓RU,RV,RH,↓reduceIte,qE,reduceCtorEq,if_pos,↓RS,RG,qA,qM,qL,ty7,za6,zbf,zf3,zas,zaa,zbg,zf4,zat]
  apply hK;clear hK K
  refine W.ret ?_
  refine XBlock.ret ?_
  exact ⟨_,_,_,_,6,rfl,rfl,_,rfl⟩
 rintro v S2 (⟨tk2,hq,rfl⟩ | ⟨q,tk2,hq,rfl⟩)
 ·skip
  refine ⟨_,_,_,_,.normal,rfl,by rw [hst]; simp,by rw [hpd]; rfl,?_⟩
  change XBlock _ _ _ _ ⟨[_,_,_],_⟩
  refine XbN ?_
  refine xn ?_
  refine W.v ?_
  refine W.r fun K hK=>?_
  simp(disch:=omega)only[↓RU,RV,RH,↓reduceIte,qE,reduceCtorEq,if_pos,↓RS,RG,qA,qM,qL,ty7,za6,zbf,zf3,zas,zaa,zbg,zf4,zat]
  apply hK;clear hK K
  refine W.ret ?_
  refine Br rfl ?_
  simp only[zt2,hq]
  rfl
 skip
 refine ⟨_,_,_,_,.ret,rfl,by simp,rfl,?_⟩
 change XBlock _ _ _ _ ⟨[_,_,_],_⟩
 refine XBlock.ret ?_
 refine XThen.ret ?_
 refine Br rfl ?_
 simp only[zt2,hq]
 rfl
theorem zjs {p:List Txt} (hs:Sm p) (hne:0<p.length) (hpl:p.length≤100) {w:Nat} (hw:∀ r∈p,r.length=w) (hw6:w≤100):PC Tryz.prog 69 [zaz p] (zaz (zb2 p)) true:=by
 have hp:=hs.rows
 obtain ⟨row0,hrow0,hrm0⟩:=zag hne
 have hhd:=zd7 hrow0
 have hw0:=hw row0 hrm0
 refine PC.of ⟨Tryz.func69,by kernel_rfl,rfl,by kernel_rfl⟩ zav mixed (by show 1≤Tryz.f69.ntmps; decide) ?_
 refine W.r fun K hK=>?_
 simp(disch:=omega)only[↓RU,RV,RH,↓reduceIte,qE,reduceCtorEq,if_pos,↓RS,RG,qA,qM,qL]
 apply hK;clear hK K
 refine W.r fun K hK=>?_
 simp(disch:=omega)only[↓RU,RV,RH,↓reduceIte,qE,reduceCtorEq,if_pos,↓RS,RG,qA,qM,qL,ty5,zab]
 apply hK;clear hK K
 refine W.seq ?_
 refine W.r fun K hK=>?_
 simp(disch:=omega)only[↓RU,RV,RH,↓reduceIte,qE,reduceCtorEq,if_pos,↓RS,RG,qA,qM,qL]
 apply hK;clear hK K
 refine W.block ?_
 refine W.loop [0,3,4] (fun n vs S=>∃ k v0 tk:Nat,n=row0.length - k∧k≤row0.length∧vs=[zaz p,.loc 0 v0 0 k,.int .i64 k]∧S=⟨[.arr v0 9 1 ((zi4 p k).map .str)],tk⟩) (row0.length) ?_ ?_
 ·refine ⟨1,0,0,1,rfl,Nat.zero_le _,?_,rfl⟩
  simp [Env.put,Env.of,zaj]
 rintro n vs S - ⟨k,v0,tk,rfl,h_k,rfl,rfl⟩
 refine W.seq ?_
 refine W.r fun K hK=>?_
 simp(disch:=omega)only[↓RU,RV,RH,↓reduceIte,qE,reduceCtorEq,if_pos,w64,↓RS,RG,qA,qM,qL,ty5,zaa,zab,hrow0,Int.toNat_zero,Nat.zero_mul,qZ]
 apply hK;clear hK K
 refine W.cond rfl (fun h=>?_) (fun h=>?_)
 ·try simp only[RL]at h
  have hcl0:=zii (p:=p) (k:=k)
  refine W.skip ?_
  refine xn ?_
  refine W.seq ?_
  refine W.block ?_
  refine W.r fun K hK=>?_
  simp(disch:=omega)only[↓RU,RV,RH,↓reduceIte,qE,reduceCtorEq,if_pos,↓RS,RG,qA,qM,qL,ty6,za0]
  apply hK;clear hK K
  refine W.seq ?_
  refine W.r fun K hK=>?_
  simp(disch:=omega)only[↓RU,RV,RH,↓reduceIte,qE,reduceCtorEq,if_pos,↓RS,RG,qA,qM,qL]
  apply hK;clear hK K
  refine W.block ?_
  refine W.loop [0,3,4,5,6] (fun n vs S=>∃ i v1 tk:Nat,n=p.length - i∧i≤p.length∧vs=[zaz p,.loc 0 v0 0 k,.int .i64 k,.loc 1 v1 0 i,.int .i64 i]∧S=⟨[.arr v0 9 1 ((zi4 p k).map .str),.arr v1 5 1 ((zm8 p k i).map eB)],tk⟩) (p.length) ?_ ?_
  ·refine ⟨2,0,tk,tk+1,rfl,Nat.zero_le _,?_,rfl⟩
   simp [Env.put,Env.of,zaj]
  rintro n vs S - ⟨i,v1,tk,rfl,h_i,rfl,rfl⟩
  refine W.seq ?_
  refine W.r fun K hK=>?_
  simp(disch:=omega)only[↓RU,RV,RH,↓reduceIte,qE,reduceCtorEq,if_pos,w64,↓RS,RG,qA,qM,qL,ty5,zaa,zab]
  apply hK;clear hK K
  refine W.cond rfl (fun h1=>?_) (fun h1=>?_)
  ·try simp only[RL]at h1
   obtain ⟨row,hrow,hrm⟩:=zag (show i<p.length by omega)
   have hrl:row.length=row0.length:=(hw row hrm).trans hw0.symm
   obtain ⟨c,hc,-⟩:=zag (show k<row.length by omega)
   have hctl:=zn7 (p:=p) (k:=k) h_i
   refine W.skip ?_
   refine xn ?_
   refine W.seq ?_
   refine W.block ?_
   refine W.k fun K hK=>?_
   simp(disch:=omega)only[↓RU,RV,RH,↓reduceIte,qE,reduceCtorEq,if_pos,↓RS,RG,qA,qM,qL,ty5,ty6,zab,za0,hrow,hc]
   apply hK;clear hK K
   refine XbN ?_
   refine xn ?_
   refine W.k fun K hK=>?_
   simp(disch:=omega)only[↓RU,RV,RH,↓reduceIte,qE,reduceCtorEq,if_pos,w64,↓RS,RG,qA,qM,qL,zaa]
   apply hK;clear hK K
   refine xn ?_
   refine ⟨p.length - (i+1),by omega,2,i+1,tk+1,tk+2,rfl,by omega,?_,?_⟩
   all_goals simp [Env.put,Env.of,zb8,zz6 hrow hc,hcl0,hctl,zp5]
  ·try simp only[RL]at h1
   have hip:i=p.length:=by omega
   subst hip
   have hctl:=zn7 (p:=p) (k:=k) (qR _)
   refine W.exit ?_
   refine xe ?_
   refine xe ?_
   refine XBlock.hit ?_
   refine xn ?_
   refine W.k fun K hK=>?_
   simp(disch:=omega)only[↓RU,RV,RH,↓reduceIte,qE,reduceCtorEq,if_pos,w64,↓RS,RG,qA,qM,qL,ty5,ty6,zab,za0]
   apply hK;clear hK K
   refine XbN ?_
   refine xn ?_
   refine W.k fun K hK=>?_
   simp(disch:=omega)only[↓RU,RV,RH,↓reduceIte,qE,reduceCtorEq,if_pos,w64,↓RS,RG,qA,qM,qL,zaa]
   apply hK;clear hK K
   refine xn ?_
   refine ⟨row0.length - (k+1),by omega,1,k+1,tk+1,tk+2,rfl,by omega,?_,?_⟩
   all_goals simp [Env.put,Env.of,zb8,zwc,hctl,zp5,hcl0]
 try simp only[RL]at h
 refine W.exit ?_
 refine xe ?_
 refine xe ?_
 refine XBlock.hit ?_
 refine xn ?_
 refine W.r fun K hK=>?_
 simp(disch:=omega)only[↓RU,RV,RH,↓reduceIte,qE,reduceCtorEq,if_pos,↓RS,RG,qA,qM,qL]
 apply hK;clear hK K
 refine W.ret ?_
 refine Br rfl ?_
 have hkp:k=row0.length:=by omega
 subst hkp
 rw [zb2,hhd]
 exact zd9 (k:=9) rfl (by simp [zii]) (zr6 _) |>.trans (by simp [zii])
theorem z1d {p:List Txt} {w:Nat} (h1:p.length≤100) (hw:∀ r∈p,r.length=w) (h2:w≤100):Sm p:=⟨by omega,fun r hr=>by have:=hw r hr; omega⟩
def eS:Tm→List PV
 | .o=>[.int .u8 111,.sl [] 0]
 | .un c t=>[eB c,.sl (eS t) 1]
 | .bin m a b=>[eB m,.sl (eS a++eS b) 2]
theorem zi9 (t:Tm):∃ (c:UInt8) (cs:List PV) (n:Nat),eS t=[eB c,.sl cs n]:=by
 cases t with
 | o=>exact ⟨111,_,_,rfl⟩
 | un c t=>exact ⟨_,_,_,rfl⟩
 | bin m a b=>exact ⟨_,_,_,rfl⟩
theorem yc1:∀ (f:Nat) (s:Txt) (k:Nat),(rdS f s k).2=0∨k<(rdS f s k).2:=by
 intro f
 induction f with
 | zero=>intro s k; exact .inl rfl
 | succ f ih =>
  intro s k
  simp only[rdS]
  split
  ·exact .inl rfl
  split
  ·exact .inr (by simp)
  split
  ·have:=ih s (k+1)
   simp only
   omega
  split
  ·split
   ·exact .inl rfl
   split
   ·exact .inl rfl
   split
   ·split
    ·exact .inl rfl
    split
    ·exact .inl rfl
    split
    ·have h1:=ih s (k+1)
     have h2:=ih s ((rdS f s (k+1)).2+1)
     simp only
     omega
    exact .inl rfl
   exact .inl rfl
  exact .inl rfl
theorem ydw {f k:Nat} {s:Txt} {c:UInt8} (hc:s[k]?=some c):rdS (f+1) s k =
   if c=111 then (.o,k+1)
   else if c=62∨c=94 then (.un c (rdS f s (k+1)).1,(rdS f s (k+1)).2)
   else if c=40 then
    if (rdS f s (k+1)).2=0 then (.o,0) else
    match s[(rdS f s (k+1)).2]? with
    | none=>(.o,0)
    | some m=>if m=124∨m=45 then
      if (rdS f s ((rdS f s (k+1)).2+1)).2=0 then (.o,0) else
      match s[(rdS f s ((rdS f s (k+1)).2+1)).2]? with
      | none=>(.o,0)
      | some e=>if e=41 then (.bin m (rdS f s (k+1)).1 (rdS f s ((rdS f s (k+1)).2+1)).1,(rdS f s ((rdS f s (k+1)).2+1)).2+1) else (.o,0)
     else (.o,0)
   else (.o,0):=by simp only[rdS,hc]; rfl
def rdV (f:Nat) (s:Txt) (k:Nat):PV := .tup [.agg (eS (rdS f s k).1),.int .i64 ((rdS f s k).2:Nat)]
theorem zot (s:Txt) (hs:s.length≤1048576):PC Tryz.prog 63 [.str s] (.int .i64 ((s.count 111:Nat):Int)) true:=by
 refine PC.of ⟨Tryz.func63,by kernel_rfl,rfl,by kernel_rfl⟩ zav mixed (by show 1≤Tryz.f63.ntmps; decide) ?_
 refine W.r fun K hK=>?_
 simp(disch:=omega)only[↓RU,RV,RH,↓reduceIte,qE,reduceCtorEq,if_pos,↓RS,RG,qA,qM,qL]
 apply hK;clear hK K
 refine W.r fun K hK=>?_
 simp(disch:=omega)only[↓RU,RV,RH,↓reduceIte,qE,reduceCtorEq,if_pos,↓RS,RG,qA,qM,qL]
 apply hK;clear hK K
 refine W.seq ?_
 refine W.r fun K hK=>?_
 simp(disch:=omega)only[↓RU,RV,RH,↓reduceIte,qE,reduceCtorEq,if_pos,↓RS,RG,qA,qM,qL]
 apply hK;clear hK K
 refine W.block ?_
 refine W.loop [0,3,4] (fun n vs S=>∃ i:Nat,n=s.length - i∧i≤s.length∧vs=[.str s,.int .i64 (((s.take i).count 111:Nat):Int),.int .i64 i]∧S=⟨[],0⟩) (s.length) ?_ ?_
 ·refine ⟨0,0,rfl,Nat.zero_le _,?_,rfl⟩
  simp [Env.put,Env.of,zaj]
 rintro n vs S - ⟨i,rfl,h_i,rfl,rfl⟩
 refine W.seq ?_
 refine W.r fun K hK=>?_
 simp(disch:=omega)only[↓RU,RV,RH,↓reduceIte,qE,reduceCtorEq,if_pos,w64,↓RS,RG,qA,qM,qL,zaa,zab]
 apply hK;clear hK K
 refine W.cond rfl (fun h0=>?_) (fun h0=>?_)
 ·try simp only[RL]at h0
  obtain ⟨c,hc,-⟩:=zag (show i<s.length by omega)
  have hcn:=List.count_le_length (a:=111) (l:=s.take i)
  have htl:=List.length_take_le i s
  refine W.skip ?_
  refine xn ?_
  refine W.seq ?_
  refine W.block ?_
  refine W.r fun K hK=>?_
  simp(disch:=omega)only[↓RU,RV,RH,↓reduceIte,qE,reduceCtorEq,if_pos,w64,↓RS,RG,qA,qM,qL,zab,za0,hc]
  apply hK;clear hK K
  refine W.cond rfl (fun h1=>?_) (fun h1=>?_)
  ·try simp only[RL]at h1
   refine W.k fun K hK=>?_
   simp(disch:=omega)only[↓RU,RV,RH,↓reduceIte,qE,reduceCtorEq,if_pos,w64,↓RS,RG,qA,qM,qL,zaa]
   apply hK;clear hK K
   refine XbN ?_
   refine xn ?_
   refine W.k fun K hK=>?_
   simp(disch:=omega)only[↓RU,RV,RH,↓reduceIte,qE,reduceCtorEq,if_pos,w64,↓RS,RG,qA,qM,qL,zaa]
   apply hK;clear hK K
   refine xn ?_
   refine ⟨s.length - (i+1),by omega,0,i+1,rfl,by omega,?_,rfl⟩
   have e:(s.take (i+1)).count 111=(s.take i).count 111+1:=by rw [tk hc,List.count_append,u8i (c:=c) (k:=111) (by omega) (by decide)]; rfl
   rw [e]
   simp [Env.put,Env.of,zaj]
  try simp only[RL]at h1
  refine W.skip ?_
  refine XbN ?_
  refine xn ?_
  refine W.k fun K hK=>?_
  simp(disch:=omega)only[↓RU,RV,RH,↓reduceIte,qE,reduceCtorEq,if_pos,w64,↓RS,RG,qA,qM,qL,zaa]
  apply hK;clear hK K
  refine xn ?_
  refine ⟨s.length - (i+1),by omega,0,i+1,rfl,by omega,?_,rfl⟩
  have e:(s.take (i+1)).count 111=(s.take i).count 111:=by rw [tk hc,List.count_append,List.count_singleton,if_neg (by simp; intro e; exact h1 (by rw [e]; rfl))]; rfl
  rw [e]
  simp [Env.put,Env.of,zaj]
 try simp only[RL]at h0
 obtain rfl:i=s.length:=by omega
 rw [List.take_length]
 refine W.exit ?_
 refine xe ?_
 refine xe ?_
 refine XBlock.hit ?_
 refine xn ?_
 refine W.r fun K hK=>?_
 simp(disch:=omega)only[↓RU,RV,RH,↓reduceIte,qE,reduceCtorEq,if_pos,↓RS,RG,qA,qM,qL]
 apply hK;clear hK K
 refine W.ret ?_
 refine Br rfl ?_
 rfl
theorem zos {s:Txt} (hs:s.length≤1048576) {f k:Nat} (hk:s.length<f+1+k) (hk2:k≤s.length+1) (ih:∀ k2:Nat,s.length<f+k2∧k2≤s.length+1∧k<k2→PC Tryz.prog 64 [.str s,.int .i64 k2] (rdV f s k2) false):PC Tryz.prog 64 [.str s,.int .i64 k] (rdV (f+1) s k) false:=by
 refine PC.of ⟨Tryz.func64,by kernel_rfl,rfl,by kernel_rfl⟩ zav mixed (by show 2≤Tryz.f64.ntmps; decide) ?_
 refine W.r fun K hK=>?_
 simp(disch:=omega)only[↓RU,RV,RH,↓reduceIte,qE,reduceCtorEq,if_pos,↓RS,RG,qA,qM,qL,ty4,zed,zee,za0]
 apply hK;clear hK K
 refine W.r fun K hK=>?_
 simp(disch:=omega)only[↓RU,RV,RH,↓reduceIte,qE,reduceCtorEq,if_pos,↓RS,RG,qA,qM,qL,ty4,zed,zee,za0]
 apply hK;clear hK K
 refine W.seq ?_
 refine W.r fun K hK=>?_
 simp(disch:=omega)only[↓RU,RV,RH,↓reduceIte,qE,reduceCtorEq,if_pos,w64,↓RS,RG,qA,qM,qL,zaa,zab]
 apply hK;clear hK K
 refine W.cond rfl (fun h0=>?_) (fun h0=>?_)
 ·try simp only[RL]at h0
  have hno:rdS (f+1) s k=(.o,0):=by simp only[rdS]; rw [List.getElem?_eq_none (by omega)]
  refine W.r fun K hK=>?_
  simp(disch:=omega)only[↓RU,RV,RH,↓reduceIte,qE,reduceCtorEq,if_pos,↓RS,RG,qA,qM,qL,ty4,zed,zee,za0]
  apply hK;clear hK K
  refine W.ret ?_
  refine XThen.ret ?_
  refine Br rfl ?_
  rw [show rdV (f+1) s k = .tup [.agg (eS .o),.int .i64 0] by unfold rdV; rw [hno]; rfl]
  rfl
 try simp only[RL]at h0
 obtain ⟨c,hc,-⟩:=zag (show k<s.length by omega)
 have hrd:=ydw (f:=f) hc
 refine W.skip ?_
 refine xn ?_
 refine W.r fun K hK=>?_
 simp(disch:=omega)only[↓RU,RV,RH,↓reduceIte,qE,reduceCtorEq,if_pos,↓RS,RG,qA,qM,qL,zab,hc]
 apply hK;clear hK K
 refine W.seq ?_
 refine W.r fun K hK=>?_
 simp(disch:=omega)only[↓RU,RV,RH,↓reduceIte,qE,reduceCtorEq,if_pos,w64,↓RS,RG,qA,qM,qL,za0]
 apply hK;clear hK K
 refine W.cond rfl (fun h1=>?_) (fun h1=>?_)
 ·try simp only[RL]at h1
  have hc1:c=111:=u8i (k:=111) (by omega) (by decide)
  rw [if_pos hc1]at hrd
  refine W.r fun K hK=>?_
  simp(disch:=omega)only[↓RU,RV,RH,↓reduceIte,qE,reduceCtorEq,if_pos,w64,↓RS,RG,qA,qM,qL,ty4,zaa,zed,zee,za0]
  apply hK;clear hK K
  refine W.ret ?_
  refine XThen.ret ?_
  refine Br rfl ?_
  rw [show rdV (f+1) s k = .tup [.agg (eS .o),.int .i64 ((k:Int)+1)] by unfold rdV; rw [hrd]; show PV.tup [.agg (eS .o),.int .i64 ((k+1:Nat):Int)]=_; rw [Int.natCast_add]; rfl]
  rfl
 try simp only[RL]at h1
 have hc1:¬ c=111:=fun e=>h1 (by rw [e]; rfl)
 rw [if_neg hc1]at hrd
 refine W.skip ?_
 refine xn ?_
 refine W.seq ?_
 refine W.r fun K hK=>?_
 rcases (show c=62∨(c≠62∧c=94)∨(c≠62∧c≠94) by by_cases e:c=62 <;> by_cases e2:c=94 <;> simp [e,e2]) with m1 | ⟨m0,m1⟩ | ⟨m0,m1⟩
 ·skip
  have d1:((c.toNat:Int) == 62)=true:=by rw [m1]; rfl
  simp(disch:=omega)only[↓RU,RV,RH,↓reduceIte,qE,reduceCtorEq,if_pos,w64,↓RS,RG,qA,qM,qL,za0,d1]
  apply hK;clear hK K
  refine W.cond rfl (fun h2=>?_) (fun h2=>?_)
  ·try simp only[RL]at h2
   rw [if_pos (.inl m1)]at hrd
   refine W.r fun K hK=>?_
   obtain ⟨u,e,hue⟩:∃ u e,rdS f s (k+1)=(u,e):=⟨_,_,rfl⟩
   have hI:=ih (k+1) (by omega)
   unfold rdV at hI
   rw [hue]at hI hrd
   obtain ⟨cu,us,un,hus⟩:=zi9 u
   simp only[hus]at hI
   simp(disch:=omega)only[↓RU,RV,RH,↓reduceIte,qE,reduceCtorEq,if_pos,w64,qN,↓RS,RG,qA,qM,qL,ty4,zaa,zed,zee,za0,Int.toNat_zero,Nat.zero_mul,qZ,qM,Nat.zero_add,Nat.mul_one,List.getElem?_cons_zero,List.getElem?_cons_succ]
   refine zae.pc (hI) rfl (.inr rfl) ?_
   simp(disch:=omega)only[↓RU,RV,RH,↓reduceIte,qE,reduceCtorEq,if_pos,w64,qN,↓RS,RG,qA,qM,qL,ty4,zaa,zed,zee,za0,Int.toNat_zero,Nat.zero_mul,qZ,qM,Nat.zero_add,Nat.mul_one,List.getElem?_cons_zero,List.getElem?_cons_succ]
   apply hK;clear hK K
   refine W.r fun K hK=>?_
   simp(disch:=omega)only[↓RU,RV,RH,↓reduceIte,qE,reduceCtorEq,if_pos,↓RS,RG,qA,qM,qL,ty4,zed,zee,za0,Int.toNat_zero,Nat.zero_mul,qZ,qM,Nat.zero_add,Nat.mul_one,List.getElem?_cons_zero,List.getElem?_cons_succ]
   apply hK;clear hK K
   refine W.ret ?_
   refine XThen.ret ?_
   refine Br rfl ?_
   rw [show rdV (f+1) s k = .tup [.agg (eS (.un c u)),.int .i64 e] by unfold rdV; rw [hrd]]
   rw [show eS (.un c u)=[eB c,.sl [eB cu,.sl us un] 1] by rw [eS,hus]]
   rfl
  try simp only[RL]at h2
  exact absurd h2 (by simp)
 ·skip
  have d1:((c.toNat:Int) == 62)=false:=by rw [beq_eq_false_iff_ne]; exact zef (k:=62) (by assumption) (by decide)
  have d2:((c.toNat:Int) == 94)=true:=by rw [m1]; rfl
  simp(disch:=omega)only[↓RU,RV,RH,↓reduceIte,qE,reduceCtorEq,if_pos,w64,↓RS,RG,qA,qM,qL,za0,d1,d2]
  apply hK;clear hK K
  refine W.cond rfl (fun h2=>?_) (fun h2=>?_)
  ·try simp only[RL]at h2
   rw [if_pos (.inr m1)]at hrd
   refine W.r fun K hK=>?_
   obtain ⟨u,e,hue⟩:∃ u e,rdS f s (k+1)=(u,e):=⟨_,_,rfl⟩
   have hI:=ih (k+1) (by omega)
   unfold rdV at hI
   rw [hue]at hI hrd
   obtain ⟨cu,us,un,hus⟩:=zi9 u
   simp only[hus]at hI
   simp(disch:=omega)only[↓RU,RV,RH,↓reduceIte,qE,reduceCtorEq,if_pos,w64,qN,↓RS,RG,qA,qM,qL,ty4,zaa,zed,zee,za0,Int.toNat_zero,Nat.zero_mul,qZ,qM,Nat.zero_add,Nat.mul_one,List.getElem?_cons_zero,List.getElem?_cons_succ]
   refine zae.pc (hI) rfl (.inr rfl) ?_
   simp(disch:=omega)only[↓RU,RV,RH,↓reduceIte,qE,reduceCtorEq,if_pos,w64,qN,↓RS,RG,qA,qM,qL,ty4,zaa,zed,zee,za0,Int.toNat_zero,Nat.zero_mul,qZ,qM,Nat.zero_add,Nat.mul_one,List.getElem?_cons_zero,List.getElem?_cons_succ]
   apply hK;clear hK K
   refine W.r fun K hK=>?_
   simp(disch:=omega)only[↓RU,RV,RH,↓reduceIte,qE,reduceCtorEq,if_pos,↓RS,RG,qA,qM,qL,ty4,zed,zee,za0,Int.toNat_zero,Nat.zero_mul,qZ,qM,Nat.zero_add,Nat.mul_one,List.getElem?_cons_zero,List.getElem?_cons_succ]
   apply hK;clear hK K
   refine W.ret ?_
   refine XThen.ret ?_
   refine Br rfl ?_
   rw [show rdV (f+1) s k = .tup [.agg (eS (.un c u)),.int .i64 e] by unfold rdV; rw [hrd]]
   rw [show eS (.un c u)=[eB c,.sl [eB cu,.sl us un] 1] by rw [eS,hus]]
   rfl
  try simp only[RL]at h2
  exact absurd h2 (by simp)
 skip
 have m2:c≠UInt8.ofNat 94:=m1
 have d1:((c.toNat:Int) == 62)=false:=by rw [beq_eq_false_iff_ne]; exact zef (k:=62) (by assumption) (by decide)
 have d2:((c.toNat:Int) == 94)=false:=by rw [beq_eq_false_iff_ne]; exact zef (k:=94) (by assumption) (by decide)
 simp(disch:=omega)only[↓RU,RV,RH,↓reduceIte,qE,reduceCtorEq,if_pos,w64,↓RS,RG,qA,qM,qL,za0,d1,d2]
 apply hK;clear hK K
 refine W.cond rfl (fun h2=>?_) (fun h2=>?_)
 ·try simp only[RL]at h2
  exact absurd h2 (by simp)
 try simp only[RL]at h2
 rw [if_neg (fun e=>e.elim m0 m1)]at hrd
 refine W.skip ?_
 refine xn ?_
 refine W.seq ?_
 refine W.r fun K hK=>?_
 simp(disch:=omega)only[↓RU,RV,RH,↓reduceIte,qE,reduceCtorEq,if_pos,w64,↓RS,RG,qA,qM,qL,za0]
 apply hK;clear hK K
 refine W.cond rfl (fun h3=>?_) (fun h3=>?_)
 ·try simp only[RL]at h3
  have hc4:¬ c=40:=fun e=>h3 (by rw [e]; rfl)
  have hno:rdS (f+1) s k=(.o,0):=by rw [hrd,if_neg hc4]
  refine W.r fun K hK=>?_
  simp(disch:=omega)only[↓RU,RV,RH,↓reduceIte,qE,reduceCtorEq,if_pos,↓RS,RG,qA,qM,qL,ty4,zed,zee,za0]
  apply hK;clear hK K
  refine W.ret ?_
  refine XThen.ret ?_
  refine Br rfl ?_
  rw [show rdV (f+1) s k = .tup [.agg (eS .o),.int .i64 0] by unfold rdV; rw [hno]; rfl]
  rfl
 try simp only[RL]at h3
 have hc4:c=40:=u8i (k:=40) (by omega) (by decide)
 rw [if_pos hc4]at hrd
 refine W.skip ?_
 refine xn ?_
 refine W.r fun K hK=>?_
 obtain ⟨u,e,hue⟩:∃ u e,rdS f s (k+1)=(u,e):=⟨_,_,rfl⟩
 have hge:=yc1 f s (k+1)
 have hI:=ih (k+1) (by omega)
 unfold rdV at hI
 rw [hue]at hI hrd hge
 obtain ⟨cu,us,un,hus⟩:=zi9 u
 simp only[hus]at hI
 simp only at hrd hge
 simp(disch:=omega)only[↓RU,RV,RH,↓reduceIte,qE,reduceCtorEq,if_pos,w64,qN,↓RS,RG,qA,qM,qL,ty4,zaa,zed,zee,za0,Int.toNat_zero,Nat.zero_mul,qZ,qM,Nat.zero_add,Nat.mul_one,List.getElem?_cons_zero,List.getElem?_cons_succ]
 refine zae.pc (hI) rfl (.inr rfl) ?_
 simp(disch:=omega)only[↓RU,RV,RH,↓reduceIte,qE,reduceCtorEq,if_pos,w64,qN,↓RS,RG,qA,qM,qL,ty4,zaa,zed,zee,za0,Int.toNat_zero,Nat.zero_mul,qZ,qM,Nat.zero_add,Nat.mul_one,List.getElem?_cons_zero,List.getElem?_cons_succ]
 apply hK;clear hK K
 refine W.seq ?_
 refine W.r fun K hK=>?_
 rcases (show e=0∨(e≠0∧s.length≤e)∨(e≠0∧e<s.length∧∃ m,s[e]?=some m∧(m=124∨(m≠124∧m=45)∨(m≠124∧m≠45))) by
  by_cases e0:e=0
  ·exact .inl e0
  by_cases e1:e<s.length
  ·obtain ⟨m,hm,-⟩:=zag e1
   exact .inr (.inr ⟨e0,e1,m,hm,by by_cases x:m=124 <;> by_cases y:m=45 <;> simp [x,y]⟩)
  exact .inr (.inl ⟨e0,by omega⟩)) with e0 | ⟨e0,el⟩ | ⟨e0,el,m,hm,m1 | ⟨m0,m1⟩ | ⟨m0,m1⟩⟩
 ·skip
  have ze:((e:Int) == 0)=true:=by rw [beq_iff_eq]; omega
  have hno:rdS (f+1) s k=(.o,0):=by rw [hrd,if_pos e0]
  simp(disch:=omega)only[↓RU,RV,RH,↓reduceIte,qE,reduceCtorEq,if_pos,w64,↓RS,RG,qA,qM,qL,zaa,zab,za0,ze]
  apply hK;clear hK K
  refine W.cond rfl (fun h4=>?_) (fun h4=>?_)
  ·try simp only[RL]at h4
   refine W.r fun K hK=>?_
   simp(disch:=omega)only[↓RU,RV,RH,↓reduceIte,qE,reduceCtorEq,if_pos,↓RS,RG,qA,qM,qL,ty4,zed,zee,za0]
   apply hK;clear hK K
   refine W.ret ?_
   refine XThen.ret ?_
   refine Br rfl ?_
   rw [show rdV (f+1) s k = .tup [.agg (eS .o),.int .i64 0] by unfold rdV; rw [hno]; rfl]
   rfl
  try simp only[RL]at h4
  exact absurd h4 (by simp)
 ·skip
  have ze:((e:Int) == 0)=false:=by rw [beq_eq_false_iff_ne]; omega
  have ge:decide ((e:Int) ≥ (s.length:Int))=true:=decide_eq_true (by omega)
  have hno:rdS (f+1) s k=(.o,0):=by rw [hrd,if_neg e0,List.getElem?_eq_none el]
  simp(disch:=omega)only[↓RU,RV,RH,↓reduceIte,qE,reduceCtorEq,if_pos,w64,↓RS,RG,qA,qM,qL,zaa,zab,za0,ze,ge]
  apply hK;clear hK K
  refine W.cond rfl (fun h4=>?_) (fun h4=>?_)
  ·try simp only[RL]at h4
   refine W.r fun K hK=>?_
   simp(disch:=omega)only[↓RU,RV,RH,↓reduceIte,qE,reduceCtorEq,if_pos,↓RS,RG,qA,qM,qL,ty4,zed,zee,za0]
   apply hK;clear hK K
   refine W.ret ?_
   refine XThen.ret ?_
   refine Br rfl ?_
   rw [show rdV (f+1) s k = .tup [.agg (eS .o),.int .i64 0] by unfold rdV; rw [hno]; rfl]
   rfl
  try simp only[RL]at h4
  exact absurd h4 (by simp)
 ·skip
  have ze:((e:Int) == 0)=false:=by rw [beq_eq_false_iff_ne]; omega
  have ge:decide ((e:Int) ≥ (s.length:Int))=false:=decide_eq_false (by omega)
  have n1:((m.toNat:Int) != 124)=false:=by rw [m1]; rfl
  rw [if_neg e0,hm]at hrd
  simp only at hrd
  rw [if_pos (.inl m1)]at hrd
  simp(disch:=omega)only[↓RU,RV,RH,↓reduceIte,qE,reduceCtorEq,if_pos,w64,↓RS,RG,qA,qM,qL,zaa,zab,za0,ze,ge,hm,n1]
  apply hK;clear hK K
  refine W.cond rfl (fun h4=>?_) (fun h4=>?_)
  ·try simp only[RL]at h4
   exact absurd h4 (by simp)
  try simp only[RL]at h4
  refine W.skip ?_
  refine xn ?_
  refine W.r fun K hK=>?_
  obtain ⟨u2,e2,hue2⟩:∃ u2 e2,rdS f s (e+1)=(u2,e2):=⟨_,_,rfl⟩
  have hI2:=ih (e+1) (by omega)
  unfold rdV at hI2
  rw [hue2]at hI2 hrd
  obtain ⟨cv,vs,vn,hvs⟩:=zi9 u2
  simp only[hvs]at hI2
  simp only at hrd
  simp(disch:=omega)only[↓RU,RV,RH,↓reduceIte,qE,reduceCtorEq,if_pos,w64,qN,↓RS,RG,qA,qM,qL,ty4,zaa,zed,zee,za0,Int.toNat_zero,Nat.zero_mul,qZ,qM,Nat.zero_add,Nat.mul_one,List.getElem?_cons_zero,List.getElem?_cons_succ]
  refine zae.pc (hI2) rfl (.inr rfl) ?_
  simp(disch:=omega)only[↓RU,RV,RH,↓reduceIte,qE,reduceCtorEq,if_pos,w64,qN,↓RS,RG,qA,qM,qL,ty4,zaa,zed,zee,za0,Int.toNat_zero,Nat.zero_mul,qZ,qM,Nat.zero_add,Nat.mul_one,List.getElem?_cons_zero,List.getElem?_cons_succ]
  apply hK;clear hK K
  refine W.seq ?_
  refine W.r fun K hK=>?_
  rcases (show e2=0∨(e2≠0∧s.length≤e2)∨(e2≠0∧e2<s.length∧∃ x,s[e2]?=some x∧(x=41∨x≠41)) by
   by_cases e0:e2=0
   ·exact .inl e0
   by_cases e1:e2<s.length
   ·obtain ⟨m,hm,-⟩:=zag e1
    exact .inr (.inr ⟨e0,e1,m,hm,Classical.em _⟩)
   exact .inr (.inl ⟨e0,by omega⟩)) with f0 | ⟨f0,fl⟩ | ⟨f0,fl,x,hx,x1 | x1⟩
  ·skip
   have ze2:((e2:Int) == 0)=true:=by rw [beq_iff_eq]; omega
   have hno:rdS (f+1) s k=(.o,0):=by rw [hrd,if_pos f0]
   simp(disch:=omega)only[↓RU,RV,RH,↓reduceIte,qE,reduceCtorEq,if_pos,w64,↓RS,RG,qA,qM,qL,zaa,zab,za0,ze2]
   apply hK;clear hK K
   refine W.cond rfl (fun h5=>?_) (fun h5=>?_)
   ·try simp only[RL]at h5
    refine W.r fun K hK=>?_
    simp(disch:=omega)only[↓RU,RV,RH,↓reduceIte,qE,reduceCtorEq,if_pos,↓RS,RG,qA,qM,qL,ty4,zed,zee,za0]
    apply hK;clear hK K
    refine W.ret ?_
    refine XThen.ret ?_
    refine Br rfl ?_
    rw [show rdV (f+1) s k = .tup [.agg (eS .o),.int .i64 0] by unfold rdV; rw [hno]; rfl]
    rfl
   try simp only[RL]at h5
   exact absurd h5 (by simp)
  ·skip
   have ze2:((e2:Int) == 0)=false:=by rw [beq_eq_false_iff_ne]; omega
   have ge2:decide ((e2:Int) ≥ (s.length:Int))=true:=decide_eq_true (by omega)
   have hno:rdS (f+1) s k=(.o,0):=by rw [hrd,if_neg f0,List.getElem?_eq_none fl]
   simp(disch:=omega)only[↓RU,RV,RH,↓reduceIte,qE,reduceCtorEq,if_pos,w64,↓RS,RG,qA,qM,qL,zaa,zab,za0,ze2,ge2]
   apply hK;clear hK K
   refine W.cond rfl (fun h5=>?_) (fun h5=>?_)
   ·try simp only[RL]at h5
    refine W.r fun K hK=>?_
    simp(disch:=omega)only[↓RU,RV,RH,↓reduceIte,qE,reduceCtorEq,if_pos,↓RS,RG,qA,qM,qL,ty4,zed,zee,za0]
    apply hK;clear hK K
    refine W.ret ?_
    refine XThen.ret ?_
    refine Br rfl ?_
    rw [show rdV (f+1) s k = .tup [.agg (eS .o),.int .i64 0] by unfold rdV; rw [hno]; rfl]
    rfl
   try simp only[RL]at h5
   exact absurd h5 (by simp)
  ·skip
   have ze2:((e2:Int) == 0)=false:=by rw [beq_eq_false_iff_ne]; omega
   have ge2:decide ((e2:Int) ≥ (s.length:Int))=false:=decide_eq_false (by omega)
   have n3:((x.toNat:Int) != 41)=false:=by rw [x1]; rfl
   rw [if_neg f0,hx]at hrd
   simp only at hrd
   rw [if_pos x1]at hrd
   simp(disch:=omega)only[↓RU,RV,RH,↓reduceIte,qE,reduceCtorEq,if_pos,w64,↓RS,RG,qA,qM,qL,zaa,zab,za0,ze2,ge2,hx,n3]
   apply hK;clear hK K
   refine W.cond rfl (fun h5=>?_) (fun h5=>?_)
   ·try simp only[RL]at h5
    exact absurd h5 (by simp)
   try simp only[RL]at h5
   refine W.skip ?_
   refine xn ?_
   refine W.seq_draw_p [0,1,2,3,4,7,8,5,6,9,10] [_,_,_,_,_,_,_,_,_,_,_] rfl (by kernel_rfl) fun K hK=>?_
   simp(disch:=omega)only[↓RU,RV,RH,↓reduceIte,qE,reduceCtorEq,if_pos,w64,↓RS,RG,qA,qM,qL,ty4,zaa,zed,zab,zee,za0,Int.toNat_zero,Nat.zero_mul,qZ,qM,Nat.zero_add,Nat.mul_one,List.getElem?_cons_zero,List.getElem?_cons_succ,hm]
   apply hK;clear hK K
   refine W.ret ?_
   refine Br rfl ?_
   rw [show rdV (f+1) s k = .tup [.agg (eS (.bin m u u2)),.int .i64 ((e2:Int)+1)] by unfold rdV; rw [hrd]; show PV.tup [.agg (eS (.bin m u u2)),.int .i64 ((e2+1:Nat):Int)]=_; rw [Int.natCast_add]; rfl]
   rw [show eS (.bin m u u2)=[eB m,.sl [eB cu,.sl us un,eB cv,.sl vs vn] 2] by rw [eS,hus,hvs]; rfl]
   rfl
  skip
  have ze2:((e2:Int) == 0)=false:=by rw [beq_eq_false_iff_ne]; omega
  have ge2:decide ((e2:Int) ≥ (s.length:Int))=false:=decide_eq_false (by omega)
  have n3:((x.toNat:Int) != 41)=true:=by rw [bne_iff_ne]; exact zef (k:=41) (by assumption) (by decide)
  have hno:rdS (f+1) s k=(.o,0):=by rw [hrd,if_neg f0,hx]; simp only; rw [if_neg x1]
  simp(disch:=omega)only[↓RU,RV,RH,↓reduceIte,qE,reduceCtorEq,if_pos,w64,↓RS,RG,qA,qM,qL,zaa,zab,za0,ze2,ge2,hx,n3]
  apply hK;clear hK K
  refine W.cond rfl (fun h5=>?_) (fun h5=>?_)
  ·try simp only[RL]at h5
   refine W.r fun K hK=>?_
   simp(disch:=omega)only[↓RU,RV,RH,↓reduceIte,qE,reduceCtorEq,if_pos,↓RS,RG,qA,qM,qL,ty4,zed,zee,za0]
   apply hK;clear hK K
   refine W.ret ?_
   refine XThen.ret ?_
   refine Br rfl ?_
   rw [show rdV (f+1) s k = .tup [.agg (eS .o),.int .i64 0] by unfold rdV; rw [hno]; rfl]
   rfl
  try simp only[RL]at h5
  exact absurd h5 (by simp)
 ·skip
  have ze:((e:Int) == 0)=false:=by rw [beq_eq_false_iff_ne]; omega
  have ge:decide ((e:Int) ≥ (s.length:Int))=false:=decide_eq_false (by omega)
  have n1:((m.toNat:Int) != 124)=true:=by rw [bne_iff_ne]; exact zef (k:=124) (by assumption) (by decide)
  have n2:((m.toNat:Int) != 45)=false:=by rw [m1]; rfl
  rw [if_neg e0,hm]at hrd
  simp only at hrd
  rw [if_pos (.inr m1)]at hrd
  simp(disch:=omega)only[↓RU,RV,RH,↓reduceIte,qE,reduceCtorEq,if_pos,w64,↓RS,RG,qA,qM,qL,zaa,zab,za0,ze,ge,hm,n1,n2]
  apply hK;clear hK K
  refine W.cond rfl (fun h4=>?_) (fun h4=>?_)
  ·try simp only[RL]at h4
   exact absurd h4 (by simp)
  try simp only[RL]at h4
  refine W.skip ?_
  refine xn ?_
  refine W.r fun K hK=>?_
  obtain ⟨u2,e2,hue2⟩:∃ u2 e2,rdS f s (e+1)=(u2,e2):=⟨_,_,rfl⟩
  have hI2:=ih (e+1) (by omega)
  unfold rdV at hI2
  rw [hue2]at hI2 hrd
  obtain ⟨cv,vs,vn,hvs⟩:=zi9 u2
  simp only[hvs]at hI2
  simp only at hrd
  simp(disch:=omega)only[↓RU,RV,RH,↓reduceIte,qE,reduceCtorEq,if_pos,w64,qN,↓RS,RG,qA,qM,qL,ty4,zaa,zed,zee,za0,Int.toNat_zero,Nat.zero_mul,qZ,qM,Nat.zero_add,Nat.mul_one,List.getElem?_cons_zero,List.getElem?_cons_succ]
  refine zae.pc (hI2) rfl (.inr rfl) ?_
  simp(disch:=omega)only[↓RU,RV,RH,↓reduceIte,qE,reduceCtorEq,if_pos,w64,qN,↓RS,RG,qA,qM,qL,ty4,zaa,zed,zee,za0,Int.toNat_zero,Nat.zero_mul,qZ,qM,Nat.zero_add,Nat.mul_one,List.getElem?_cons_zero,List.getElem?_cons_succ]
  apply hK;clear hK K
  refine W.seq ?_
  refine W.r fun K hK=>?_
  rcases (show e2=0∨(e2≠0∧s.length≤e2)∨(e2≠0∧e2<s.length∧∃ x,s[e2]?=some x∧(x=41∨x≠41)) by
   by_cases e0:e2=0
   ·exact .inl e0
   by_cases e1:e2<s.length
   ·obtain ⟨m,hm,-⟩:=zag e1
    exact .inr (.inr ⟨e0,e1,m,hm,Classical.em _⟩)
   exact .inr (.inl ⟨e0,by omega⟩)) with f0 | ⟨f0,fl⟩ | ⟨f0,fl,x,hx,x1 | x1⟩
  ·skip
   have ze2:((e2:Int) == 0)=true:=by rw [beq_iff_eq]; omega
   have hno:rdS (f+1) s k=(.o,0):=by rw [hrd,if_pos f0]
   simp(disch:=omega)only[↓RU,RV,RH,↓reduceIte,qE,reduceCtorEq,if_pos,w64,↓RS,RG,qA,qM,qL,zaa,zab,za0,ze2]
   apply hK;clear hK K
   refine W.cond rfl (fun h5=>?_) (fun h5=>?_)
   ·try simp only[RL]at h5
    refine W.r fun K hK=>?_
    simp(disch:=omega)only[↓RU,RV,RH,↓reduceIte,qE,reduceCtorEq,if_pos,↓RS,RG,qA,qM,qL,ty4,zed,zee,za0]
    apply hK;clear hK K
    refine W.ret ?_
    refine XThen.ret ?_
    refine Br rfl ?_
    rw [show rdV (f+1) s k = .tup [.agg (eS .o),.int .i64 0] by unfold rdV; rw [hno]; rfl]
    rfl
   try simp only[RL]at h5
   exact absurd h5 (by simp)
  ·skip
   have ze2:((e2:Int) == 0)=false:=by rw [beq_eq_false_iff_ne]; omega
   have ge2:decide ((e2:Int) ≥ (s.length:Int))=true:=decide_eq_true (by omega)
   have hno:rdS (f+1) s k=(.o,0):=by rw [hrd,if_neg f0,List.getElem?_eq_none fl]
   simp(disch:=omega)only[↓RU,RV,RH,↓reduceIte,qE,reduceCtorEq,if_pos,w64,↓RS,RG,qA,qM,qL,zaa,zab,za0,ze2,ge2]
   apply hK;clear hK K
   refine W.cond rfl (fun h5=>?_) (fun h5=>?_)
   ·try simp only[RL]at h5
    refine W.r fun K hK=>?_
    simp(disch:=omega)only[↓RU,RV,RH,↓reduceIte,qE,reduceCtorEq,if_pos,↓RS,RG,qA,qM,qL,ty4,zed,zee,za0]
    apply hK;clear hK K
    refine W.ret ?_
    refine XThen.ret ?_
    refine Br rfl ?_
    rw [show rdV (f+1) s k = .tup [.agg (eS .o),.int .i64 0] by unfold rdV; rw [hno]; rfl]
    rfl
   try simp only[RL]at h5
   exact absurd h5 (by simp)
  ·skip
   have ze2:((e2:Int) == 0)=false:=by rw [beq_eq_false_iff_ne]; omega
   have ge2:decide ((e2:Int) ≥ (s.length:Int))=false:=decide_eq_false (by omega)
   have n3:((x.toNat:Int) != 41)=false:=by rw [x1]; rfl
   rw [if_neg f0,hx]at hrd
   simp only at hrd
   rw [if_pos x1]at hrd
   simp(disch:=omega)only[↓RU,RV,RH,↓reduceIte,qE,reduceCtorEq,if_pos,w64,↓RS,RG,qA,qM,qL,zaa,zab,za0,ze2,ge2,hx,n3]
   apply hK;clear hK K
   refine W.cond rfl (fun h5=>?_) (fun h5=>?_)
   ·try simp only[RL]at h5
    exact absurd h5 (by simp)
   try simp only[RL]at h5
   refine W.skip ?_
   refine xn ?_
   refine W.seq_draw_p [0,1,2,3,4,7,8,5,6,9,10] [_,_,_,_,_,_,_,_,_,_,_] rfl (by kernel_rfl) fun K hK=>?_
   simp(disch:=omega)only[↓RU,RV,RH,↓reduceIte,qE,reduceCtorEq,if_pos,w64,↓RS,RG,qA,qM,qL,ty4,zaa,zed,zab,zee,za0,Int.toNat_zero,Nat.zero_mul,qZ,qM,Nat.zero_add,Nat.mul_one,List.getElem?_cons_zero,List.getElem?_cons_succ,hm]
   apply hK;clear hK K
   refine W.ret ?_
   refine Br rfl ?_
   rw [show rdV (f+1) s k = .tup [.agg (eS (.bin m u u2)),.int .i64 ((e2:Int)+1)] by unfold rdV; rw [hrd]; show PV.tup [.agg (eS (.bin m u u2)),.int .i64 ((e2+1:Nat):Int)]=_; rw [Int.natCast_add]; rfl]
   rw [show eS (.bin m u u2)=[eB m,.sl [eB cu,.sl us un,eB cv,.sl vs vn] 2] by rw [eS,hus,hvs]; rfl]
   rfl
  skip
  have ze2:((e2:Int) == 0)=false:=by rw [beq_eq_false_iff_ne]; omega
  have ge2:decide ((e2:Int) ≥ (s.length:Int))=false:=decide_eq_false (by omega)
  have n3:((x.toNat:Int) != 41)=true:=by rw [bne_iff_ne]; exact zef (k:=41) (by assumption) (by decide)
  have hno:rdS (f+1) s k=(.o,0):=by rw [hrd,if_neg f0,hx]; simp only; rw [if_neg x1]
  simp(disch:=omega)only[↓RU,RV,RH,↓reduceIte,qE,reduceCtorEq,if_pos,w64,↓RS,RG,qA,qM,qL,zaa,zab,za0,ze2,ge2,hx,n3]
  apply hK;clear hK K
  refine W.cond rfl (fun h5=>?_) (fun h5=>?_)
  ·try simp only[RL]at h5
   refine W.r fun K hK=>?_
   simp(disch:=omega)only[↓RU,RV,RH,↓reduceIte,qE,reduceCtorEq,if_pos,↓RS,RG,qA,qM,qL,ty4,zed,zee,za0]
   apply hK;clear hK K
   refine W.ret ?_
   refine XThen.ret ?_
   refine Br rfl ?_
   rw [show rdV (f+1) s k = .tup [.agg (eS .o),.int .i64 0] by unfold rdV; rw [hno]; rfl]
   rfl
  try simp only[RL]at h5
  exact absurd h5 (by simp)
 skip
 have ze:((e:Int) == 0)=false:=by rw [beq_eq_false_iff_ne]; omega
 have ge:decide ((e:Int) ≥ (s.length:Int))=false:=decide_eq_false (by omega)
 have m2:m≠UInt8.ofNat 45:=m1
 have n1:((m.toNat:Int) != 124)=true:=by rw [bne_iff_ne]; exact zef (k:=124) (by assumption) (by decide)
 have n2:((m.toNat:Int) != 45)=true:=by rw [bne_iff_ne]; exact zef (k:=45) (by assumption) (by decide)
 have hno:rdS (f+1) s k=(.o,0):=by rw [hrd,if_neg e0,hm]; simp only; rw [if_neg (fun x=>x.elim m0 m1)]
 simp(disch:=omega)only[↓RU,RV,RH,↓reduceIte,qE,reduceCtorEq,if_pos,w64,↓RS,RG,qA,qM,qL,zaa,zab,za0,ze,ge,hm,n1,n2]
 apply hK;clear hK K
 refine W.cond rfl (fun h4=>?_) (fun h4=>?_)
 ·try simp only[RL]at h4
  refine W.r fun K hK=>?_
  simp(disch:=omega)only[↓RU,RV,RH,↓reduceIte,qE,reduceCtorEq,if_pos,↓RS,RG,qA,qM,qL,ty4,zed,zee,za0]
  apply hK;clear hK K
  refine W.ret ?_
  refine XThen.ret ?_
  refine Br rfl ?_
  rw [show rdV (f+1) s k = .tup [.agg (eS .o),.int .i64 0] by unfold rdV; rw [hno]; rfl]
  rfl
 try simp only[RL]at h4
 exact absurd h4 (by simp)
def z8u (p:List Txt) (k j:Nat):Txt:=(List.range j).map fun i=>ch p (p.length - 1 - i) k
theorem z2b {p:List Txt} {k j:Nat}:z8u p k (j+1)=z8u p k j++[ch p (p.length - 1 - j) k]:=by simp [z8u,qS]
theorem zxx {p:List Txt} {k j:Nat}:(z8u p k j).length=j:=by simp [z8u]
def zlk (p:List Txt) (k:Nat):List Txt:=(List.range k).map fun c=>z8u p c p.length
theorem zxi {p:List Txt} {k:Nat}:zlk p (k+1)=zlk p k++[z8u p k p.length]:=by simp [zlk,qS]
theorem zl9 {p:List Txt} {k:Nat}:(zlk p k).length=k:=by simp [zlk]
theorem zrk {p:List Txt}:zlk p (zad p).length=zp6 p:=rfl
theorem yb2 {c:UInt8}:IntKind.u8.wrap ((c.toNat:Int)+9)=(((c+9).toNat:Nat):Int):=by
 have e:(c+9).toNat=(c.toNat+9) % 256:=by rw [UInt8.toNat_add]; rfl
 rw [e]
 simp [IntKind.wrap,IntKind.bits,IntKind.signed]
theorem zis {S:Store} {im:Bool} {v:Nat} {l:List Txt} {n f:Nat} (h:S.obs[0]?=some (.arr v 9 1 (l.map .str))) (hn:n=l.length):reify S im (f+2) (.loc 0 v 0 n)=some (zaz l):=by
 subst hn
 exact (zd9 (k:=f+1) h (by simp) (zr6 _)).trans rfl
theorem z3g {p:List Txt} {wd:Nat} (h1:1≤p.length) (hl:p.length≤100) (hw:∀ r∈p,r.length=wd) (hW:wd≤100):PC Tryz.prog 65 [zaz p] (zaz (names (zp6 p))) false:=by
 have hX:Shp2 p p.length wd:=⟨rfl,hw⟩
 obtain ⟨row0,hrow0,hrl0,-⟩:=hX.row (show 0<p.length by omega)
 have hhd:=hX.hd h1
 have hsm:Sm p:=z1d hl hw hW
 refine PC.of ⟨Tryz.func65,by kernel_rfl,rfl,by kernel_rfl⟩ zav mixed (by show 1≤Tryz.f65.ntmps; decide) ?_
 refine W.r fun K hK=>?_
 simp(disch:=omega)only[↓RU,RV,RH,↓reduceIte,qE,reduceCtorEq,if_pos,↓RS,RG,qA,qM,qL]
 apply hK;clear hK K
 refine W.r fun K hK=>?_
 simp(disch:=omega)only[↓RU,RV,RH,↓reduceIte,qE,reduceCtorEq,if_pos,↓RS,RG,qA,qM,qL,ty5,zab]
 apply hK;clear hK K
 refine W.seq ?_
 refine W.r fun K hK=>?_
 simp(disch:=omega)only[↓RU,RV,RH,↓reduceIte,qE,reduceCtorEq,if_pos,↓RS,RG,qA,qM,qL]
 apply hK;clear hK K
 refine W.block ?_
 refine W.loop [0,3,4] (fun n vs S=>∃ k v0 tq:Nat,n=wd - k∧k≤wd∧vs=[zaz p,.loc 0 v0 0 k,.int .i64 k]∧S=⟨[.arr v0 9 1 ((zlk p k).map .str)],tq⟩) wd ?_ ?_
 ·refine ⟨1,0,0,1,rfl,Nat.zero_le _,?_,rfl⟩
  simp [Env.put,Env.of,zaj]
 rintro n vs S - ⟨k,v0,tq,rfl,h_k,rfl,rfl⟩
 refine W.seq ?_
 refine W.r fun K hK=>?_
 simp(disch:=omega)only[↓RU,RV,RH,↓reduceIte,qE,reduceCtorEq,if_pos,w64,↓RS,RG,qA,qM,qL,ty5,zaa,zab,hrow0,hrl0,Int.toNat_zero,Nat.zero_mul,qZ,qM,Nat.zero_add,Nat.mul_one,List.getElem?_cons_zero,List.getElem?_cons_succ]
 apply hK;clear hK K
 refine W.cond rfl (fun h=>?_) (fun h=>?_)
 ·try simp only[RL]at h
  have hcl0:=zl9 (p:=p) (k:=k)
  refine W.skip ?_
  refine xn ?_
  refine W.seq ?_
  refine W.block ?_
  refine W.r fun K hK=>?_
  simp(disch:=omega)only[↓RU,RV,RH,↓reduceIte,qE,reduceCtorEq,if_pos,↓RS,RG,qA,qM,qL,ty6,za0]
  apply hK;clear hK K
  refine W.seq ?_
  refine W.r fun K hK=>?_
  simp(disch:=omega)only[↓RU,RV,RH,↓reduceIte,qE,reduceCtorEq,if_pos,w64,↓RS,RG,qA,qM,qL,ty5,zaa,zab]
  apply hK;clear hK K
  refine W.block ?_
  refine W.loop [0,3,4,5,6] (fun n vs S=>∃ j v1 tq:Nat,n=p.length - j∧j≤p.length∧vs=[zaz p,.loc 0 v0 0 k,.int .i64 k,.loc 1 v1 0 j,.int .i64 ((p.length:Int) - 1 - (j:Int))]∧S=⟨[.arr v0 9 1 ((zlk p k).map .str),.arr v1 5 1 ((z8u p k j).map eB)],tq⟩) p.length ?_ ?_
  ·refine ⟨2,0,tq,tq+1,rfl,Nat.zero_le _,?_,rfl⟩
   simp [Env.put,Env.of,zaj]
  rintro n vs S - ⟨j,v1,tq,rfl,h_j,rfl,rfl⟩
  refine W.seq ?_
  refine W.r fun K hK=>?_
  simp(disch:=omega)only[↓RU,RV,RH,↓reduceIte,qE,reduceCtorEq,if_pos,w64,↓RS,RG,qA,qM,qL,zaa]
  apply hK;clear hK K
  refine W.cond rfl (fun h1x=>?_) (fun h1x=>?_)
  ·try simp only[RL]at h1x
   have hjl:j<p.length:=by omega
   obtain ⟨row,hrow,hrl,hx⟩:=hX.row (show p.length - 1 - j<p.length by omega)
   have hc:=hx k (by omega)
   have hcz:((p.length:Int) - 1 - (j:Int)).toNat=p.length - 1 - j:=by omega
   have hctl:=zxx (p:=p) (k:=k) (j:=j)
   refine W.skip ?_
   refine xn ?_
   refine W.seq ?_
   refine W.block ?_
   refine W.k fun K hK=>?_
   simp(disch:=omega)only[↓RU,RV,RH,↓reduceIte,qE,reduceCtorEq,if_pos,↓RS,RG,qA,qM,qL,ty5,ty6,zab,za0,hcz,hrow,hc,hrl]
   apply hK;clear hK K
   refine XbN ?_
   refine xn ?_
   refine W.k fun K hK=>?_
   simp(disch:=omega)only[↓RU,RV,RH,↓reduceIte,qE,reduceCtorEq,if_pos,w64,↓RS,RG,qA,qM,qL,zaa]
   apply hK;clear hK K
   refine xn ?_
   refine ⟨p.length - (j+1),by omega,2,j+1,tq+1,tq+2,rfl,by omega,?_,?_⟩
   all_goals simp [Env.put,Env.of,zb8,z2b,hcl0,hctl,zp5]
   all_goals omega
  ·try simp only[RL]at h1x
   obtain rfl:j=p.length:=by omega
   have hctl:=zxx (p:=p) (k:=k) (j:=p.length)
   refine W.exit ?_
   refine xe ?_
   refine xe ?_
   refine XBlock.hit ?_
   refine xn ?_
   refine W.k fun K hK=>?_
   simp(disch:=omega)only[↓RU,RV,RH,↓reduceIte,qE,reduceCtorEq,if_pos,w64,↓RS,RG,qA,qM,qL,ty5,ty6,zab,za0]
   apply hK;clear hK K
   refine XbN ?_
   refine xn ?_
   refine W.k fun K hK=>?_
   simp(disch:=omega)only[↓RU,RV,RH,↓reduceIte,qE,reduceCtorEq,if_pos,w64,↓RS,RG,qA,qM,qL,zaa]
   apply hK;clear hK K
   refine xn ?_
   refine ⟨wd - (k+1),by omega,1,k+1,tq+1,tq+2,rfl,by omega,?_,?_⟩
   all_goals simp [Env.put,Env.of,zb8,zxi,hctl,zp5,hcl0]
 try simp only[RL]at h
 obtain rfl:k=wd:=by omega
 refine W.exit ?_
 refine xe ?_
 refine xe ?_
 refine XBlock.hit ?_
 refine xn ?_
 refine W.r fun K hK=>?_
 have hsx:Sm (zp6 p):=⟨by rw [← zrk,zl9]; omega,fun r hr=>by rw [zvw.w r hr]; omega⟩
 rw [show zlk p k=zp6 p by rw [← hhd]; rfl]
 simp(disch:=omega)only[↓RU,RV,RH,↓reduceIte,qE,reduceCtorEq,if_pos,qN,↓RS,RG,qA,qM,qL]
 refine zae.pc (zd0 hsx) (zax (zis rfl (by rw [← zrk,hhd,zl9])) rfl) (.inl rfl) ?_
 simp(disch:=omega)only[↓RU,RV,RH,↓reduceIte,qE,reduceCtorEq,if_pos,qN,↓RS,RG,qA,qM,qL]
 apply hK;clear hK K
 refine W.ret ?_
 refine Br rfl ?_
 rfl
theorem z0a {p:List Txt} {i:Nat} {row:Txt} (h:p[i]?=some row):zhp (p.take (i+1))=zhp (p.take i)++[row.reverse]:=by rw [tk h]; simp [zhp]
theorem z3e {p:List Txt} {wd:Nat} (h1:1≤p.length) (hl:p.length≤100) (hw:∀ r∈p,r.length=wd) (hW:wd≤100):PC Tryz.prog 66 [zaz p] (zaz (names (zhp p))) false:=by
 have hX:Shp2 p p.length wd:=⟨rfl,hw⟩
 obtain ⟨row0,hrow0,hrl0,-⟩:=hX.row (show 0<p.length by omega)
 have hhd:=hX.hd h1
 have hsm:Sm p:=z1d hl hw hW
 refine PC.of ⟨Tryz.func66,by kernel_rfl,rfl,by kernel_rfl⟩ zav mixed (by show 1≤Tryz.f66.ntmps; decide) ?_
 refine W.r fun K hK=>?_
 simp(disch:=omega)only[↓RU,RV,RH,↓reduceIte,qE,reduceCtorEq,if_pos,↓RS,RG,qA,qM,qL]
 apply hK;clear hK K
 refine W.r fun K hK=>?_
 simp(disch:=omega)only[↓RU,RV,RH,↓reduceIte,qE,reduceCtorEq,if_pos,↓RS,RG,qA,qM,qL,ty5,zab]
 apply hK;clear hK K
 refine W.seq ?_
 refine W.r fun K hK=>?_
 simp(disch:=omega)only[↓RU,RV,RH,↓reduceIte,qE,reduceCtorEq,if_pos,↓RS,RG,qA,qM,qL]
 apply hK;clear hK K
 refine W.block ?_
 refine W.loop [0,3,4] (fun n vs S=>∃ i v0 tq:Nat,n=p.length - i∧i≤p.length∧vs=[zaz p,.loc 0 v0 0 i,.int .i64 i]∧S=⟨[.arr v0 9 1 ((zhp (p.take i)).map .str)],tq⟩) p.length ?_ ?_
 ·refine ⟨1,0,0,1,rfl,Nat.zero_le _,?_,rfl⟩
  simp [Env.put,Env.of,zaj]
 rintro n vs S - ⟨i,v0,tq,rfl,h_i,rfl,rfl⟩
 refine W.seq ?_
 refine W.r fun K hK=>?_
 simp(disch:=omega)only[↓RU,RV,RH,↓reduceIte,qE,reduceCtorEq,if_pos,w64,↓RS,RG,qA,qM,qL,ty5,zaa,zab]
 apply hK;clear hK K
 refine W.cond rfl (fun h=>?_) (fun h=>?_)
 ·try simp only[RL]at h
  obtain ⟨row,hrow,hrl,hx⟩:=hX.row (show i<p.length by omega)
  have hcl0:(zhp (p.take i)).length=i:=by simp [zhp]; omega
  refine W.skip ?_
  refine xn ?_
  refine W.seq ?_
  refine W.block ?_
  refine W.r fun K hK=>?_
  simp(disch:=omega)only[↓RU,RV,RH,↓reduceIte,qE,reduceCtorEq,if_pos,↓RS,RG,qA,qM,qL,ty6,za0]
  apply hK;clear hK K
  refine W.seq ?_
  refine W.r fun K hK=>?_
  simp(disch:=omega)only[↓RU,RV,RH,↓reduceIte,qE,reduceCtorEq,if_pos,w64,↓RS,RG,qA,qM,qL,ty5,zaa,zab,hrow,hrl]
  apply hK;clear hK K
  refine W.block ?_
  refine W.loop [0,3,4,5,6] (fun n vs S=>∃ j v1 tq:Nat,n=wd - j∧j≤wd∧vs=[zaz p,.loc 0 v0 0 i,.int .i64 i,.loc 1 v1 0 j,.int .i64 ((wd:Int) - 1 - (j:Int))]∧S=⟨[.arr v0 9 1 ((zhp (p.take i)).map .str),.arr v1 5 1 ((row.reverse.take j).map eB)],tq⟩) wd ?_ ?_
  ·refine ⟨2,0,tq,tq+1,rfl,Nat.zero_le _,?_,rfl⟩
   simp [Env.put,Env.of,zaj,hrow,hrl]
  rintro n vs S - ⟨j,v1,tq,rfl,h_j,rfl,rfl⟩
  refine W.seq ?_
  refine W.r fun K hK=>?_
  simp(disch:=omega)only[↓RU,RV,RH,↓reduceIte,qE,reduceCtorEq,if_pos,w64,↓RS,RG,qA,qM,qL,zaa]
  apply hK;clear hK K
  refine W.cond rfl (fun h1x=>?_) (fun h1x=>?_)
  ·try simp only[RL]at h1x
   have hjl:j<wd:=by omega
   have hc:=hx (wd - 1 - j) (by omega)
   have hcz:((wd:Int) - 1 - (j:Int)).toNat=wd - 1 - j:=by omega
   have hre:row.reverse[j]?=some (ch p i (wd - 1 - j)):=by rw [List.getElem?_reverse (by omega),hrl]; exact hc
   have hctl:(row.reverse.take j).length=j:=by simp [hrl]; omega
   refine W.skip ?_
   refine xn ?_
   refine W.seq ?_
   refine W.block ?_
   refine W.k fun K hK=>?_
   simp(disch:=omega)only[↓RU,RV,RH,↓reduceIte,qE,reduceCtorEq,if_pos,↓RS,RG,qA,qM,qL,ty5,ty6,zab,za0,hcz,hrow,hc,hrl]
   apply hK;clear hK K
   refine XbN ?_
   refine xn ?_
   refine W.k fun K hK=>?_
   simp(disch:=omega)only[↓RU,RV,RH,↓reduceIte,qE,reduceCtorEq,if_pos,w64,↓RS,RG,qA,qM,qL,zaa]
   apply hK;clear hK K
   refine xn ?_
   refine ⟨wd - (j+1),by omega,2,j+1,tq+1,tq+2,rfl,by omega,?_,?_⟩
   ·simp [Env.put,Env.of]; omega
   rw [tk hre]; simp [zb8,hcl0,hctl,zp5]
  ·try simp only[RL]at h1x
   obtain rfl:j=wd:=by omega
   have hctl:(row.reverse.take j).length=j:=by simp [hrl]
   have htk:row.reverse.take j=row.reverse:=qT (by simp [hrl])
   refine W.exit ?_
   refine xe ?_
   refine xe ?_
   refine XBlock.hit ?_
   refine xn ?_
   refine W.k fun K hK=>?_
   simp(disch:=omega)only[↓RU,RV,RH,↓reduceIte,qE,reduceCtorEq,if_pos,w64,↓RS,RG,qA,qM,qL,ty5,ty6,zab,za0]
   apply hK;clear hK K
   refine XbN ?_
   refine xn ?_
   refine W.k fun K hK=>?_
   simp(disch:=omega)only[↓RU,RV,RH,↓reduceIte,qE,reduceCtorEq,if_pos,w64,↓RS,RG,qA,qM,qL,zaa]
   apply hK;clear hK K
   refine xn ?_
   refine ⟨p.length - (i+1),by omega,1,i+1,tq+1,tq+2,rfl,by omega,?_,?_⟩
   skip
   all_goals simp [Env.put,Env.of,zb8,z0a hrow,htk,zp5,hcl0]
 try simp only[RL]at h
 obtain rfl:i=p.length:=by omega
 rw [List.take_length]
 refine W.exit ?_
 refine xe ?_
 refine xe ?_
 refine XBlock.hit ?_
 refine xn ?_
 refine W.r fun K hK=>?_
 have hsx:Sm (zhp p):=⟨by simp [zhp]; omega,fun r hr=>by obtain ⟨x,hx,rfl⟩:=List.mem_map.1 hr; rw [List.length_reverse,hw x hx]; omega⟩
 simp(disch:=omega)only[↓RU,RV,RH,↓reduceIte,qE,reduceCtorEq,if_pos,qN,↓RS,RG,qA,qM,qL]
 refine zae.pc (zd0 hsx) (zax (zis rfl (by simp [zhp])) rfl) (.inl rfl) ?_
 simp(disch:=omega)only[↓RU,RV,RH,↓reduceIte,qE,reduceCtorEq,if_pos,qN,↓RS,RG,qA,qM,qL]
 apply hK;clear hK K
 refine W.ret ?_
 refine Br rfl ?_
 rfl
theorem z3j {p:List Txt} {i:Nat} {row:Txt} (h:p[i]?=some row):zv3 (p.take (i+1))=zv3 (p.take i)++[row.map (· + 9)]:=by rw [tk h]; simp [zv3]
theorem z0n {p:List Txt} {wd:Nat} (h1:1≤p.length) (hl:p.length≤100) (hw:∀ r∈p,r.length=wd) (hW:wd≤100):PC Tryz.prog 116 [zaz p,.int .i64 9] (zaz (zv3 p)) true:=by
 have hX:Shp2 p p.length wd:=⟨rfl,hw⟩
 obtain ⟨row0,hrow0,hrl0,-⟩:=hX.row (show 0<p.length by omega)
 have hhd:=hX.hd h1
 have hsm:Sm p:=z1d hl hw hW
 refine PC.of ⟨Tryz.func116,by kernel_rfl,rfl,by kernel_rfl⟩ zav mixed (by show 2≤Tryz.f116.ntmps; decide) ?_
 refine W.r fun K hK=>?_
 simp(disch:=omega)only[↓RU,RV,RH,↓reduceIte,qE,reduceCtorEq,if_pos,↓RS,RG,qA,qM,qL]
 apply hK;clear hK K
 refine W.r fun K hK=>?_
 simp(disch:=omega)only[↓RU,RV,RH,↓reduceIte,qE,reduceCtorEq,if_pos,↓RS,RG,qA,qM,qL,ty5,zab]
 apply hK;clear hK K
 refine W.seq ?_
 refine W.r fun K hK=>?_
 simp(disch:=omega)only[↓RU,RV,RH,↓reduceIte,qE,reduceCtorEq,if_pos,↓RS,RG,qA,qM,qL]
 apply hK;clear hK K
 refine W.block ?_
 refine W.loop [0,1,5,6] (fun n vs S=>∃ i v0 tq:Nat,n=p.length - i∧i≤p.length∧vs=[zaz p,.int .i64 9,.loc 0 v0 0 i,.int .i64 i]∧S=⟨[.arr v0 9 1 ((zv3 (p.take i)).map .str)],tq⟩) p.length ?_ ?_
 ·refine ⟨1,0,0,1,rfl,Nat.zero_le _,?_,rfl⟩
  simp [Env.put,Env.of,zaj]
 rintro n vs S - ⟨i,v0,tq,rfl,h_i,rfl,rfl⟩
 refine W.seq ?_
 refine W.r fun K hK=>?_
 simp(disch:=omega)only[↓RU,RV,RH,↓reduceIte,qE,reduceCtorEq,if_pos,w64,↓RS,RG,qA,qM,qL,ty5,zaa,zab]
 apply hK;clear hK K
 refine W.cond rfl (fun h=>?_) (fun h=>?_)
 ·try simp only[RL]at h
  obtain ⟨row,hrow,hrl,hx⟩:=hX.row (show i<p.length by omega)
  have hcl0:(zv3 (p.take i)).length=i:=by simp [zv3]; omega
  refine W.skip ?_
  refine xn ?_
  refine W.seq ?_
  refine W.block ?_
  refine W.r fun K hK=>?_
  simp(disch:=omega)only[↓RU,RV,RH,↓reduceIte,qE,reduceCtorEq,if_pos,↓RS,RG,qA,qM,qL,ty6,za0]
  apply hK;clear hK K
  refine W.seq ?_
  refine W.r fun K hK=>?_
  simp(disch:=omega)only[↓RU,RV,RH,↓reduceIte,qE,reduceCtorEq,if_pos,↓RS,RG,qA,qM,qL]
  apply hK;clear hK K
  refine W.block ?_
  refine W.loop [0,1,5,6,7,8] (fun n vs S=>∃ j v1 tq:Nat,n=wd - j∧j≤wd∧vs=[zaz p,.int .i64 9,.loc 0 v0 0 i,.int .i64 i,.loc 1 v1 0 j,.int .i64 j]∧S=⟨[.arr v0 9 1 ((zv3 (p.take i)).map .str),.arr v1 5 1 (((row.map (· + 9)).take j).map eB)],tq⟩) wd ?_ ?_
  ·refine ⟨2,0,tq,tq+1,rfl,Nat.zero_le _,?_,rfl⟩
   simp [Env.put,Env.of,zaj]
  rintro n vs S - ⟨j,v1,tq,rfl,h_j,rfl,rfl⟩
  refine W.seq ?_
  refine W.r fun K hK=>?_
  simp(disch:=omega)only[↓RU,RV,RH,↓reduceIte,qE,reduceCtorEq,if_pos,w64,↓RS,RG,qA,qM,qL,ty5,zaa,zab,hrow,hrl]
  apply hK;clear hK K
  refine W.cond rfl (fun h1x=>?_) (fun h1x=>?_)
  ·try simp only[RL]at h1x
   have hjl:j<wd:=by omega
   have hc:=hx j hjl
   have hre:(row.map (· + 9))[j]?=some (ch p i j+9):=by rw [List.getElem?_map,hc]; rfl
   have hctl:((row.map (· + 9)).take j).length=j:=by simp [hrl]; omega
   have hc256:=(ch p i j).toNat_lt
   refine W.skip ?_
   refine xn ?_
   refine W.seq ?_
   refine W.block ?_
   refine W.k fun K hK=>?_
   simp(disch:=omega)only[↓RU,RV,RH,↓reduceIte,qE,reduceCtorEq,if_pos,w64,w64,↓RS,RG,qA,qM,qL,ty5,ty6,zaa,zab,za0,hrow,hc,hrl,yb2]
   apply hK;clear hK K
   refine XbN ?_
   refine xn ?_
   refine W.k fun K hK=>?_
   simp(disch:=omega)only[↓RU,RV,RH,↓reduceIte,qE,reduceCtorEq,if_pos,w64,↓RS,RG,qA,qM,qL,zaa]
   apply hK;clear hK K
   refine xn ?_
   refine ⟨wd - (j+1),by omega,2,j+1,tq+1,tq+2,rfl,by omega,?_,?_⟩
   ·simp [Env.put,Env.of]
   rw [tk hre]; simp [zb8,hcl0,hctl,zp5]
  ·try simp only[RL]at h1x
   obtain rfl:j=wd:=by omega
   have hctl:((row.map (· + 9)).take j).length=j:=by simp [hrl]
   have htk:(row.map (· + 9)).take j=row.map (· + 9):=qT (by simp [hrl])
   refine W.exit ?_
   refine xe ?_
   refine xe ?_
   refine XBlock.hit ?_
   refine xn ?_
   refine W.k fun K hK=>?_
   simp(disch:=omega)only[↓RU,RV,RH,↓reduceIte,qE,reduceCtorEq,if_pos,w64,↓RS,RG,qA,qM,qL,ty5,ty6,zab,za0]
   apply hK;clear hK K
   refine XbN ?_
   refine xn ?_
   refine W.k fun K hK=>?_
   simp(disch:=omega)only[↓RU,RV,RH,↓reduceIte,qE,reduceCtorEq,if_pos,w64,↓RS,RG,qA,qM,qL,zaa]
   apply hK;clear hK K
   refine xn ?_
   refine ⟨p.length - (i+1),by omega,1,i+1,tq+1,tq+2,rfl,by omega,?_,?_⟩
   all_goals simp [Env.put,Env.of,zb8,z3j hrow,htk,zp5,hcl0]
 try simp only[RL]at h
 obtain rfl:i=p.length:=by omega
 rw [List.take_length]
 refine W.exit ?_
 refine xe ?_
 refine xe ?_
 refine XBlock.hit ?_
 refine xn ?_
 refine W.r fun K hK=>?_
 simp(disch:=omega)only[↓RU,RV,RH,↓reduceIte,qE,reduceCtorEq,if_pos,↓RS,RG,qA,qM,qL]
 apply hK;clear hK K
 refine W.ret ?_
 refine Br rfl ?_
 exact zis rfl (by simp [zv3])
theorem zmt {p q:List Txt} {wp wq:Nat} (h1:1≤p.length) (hl:p.length≤100) (hw:∀ r∈p,r.length=wp) (hwp:wp≤100) (g1:1≤q.length) (gl:q.length≤100) (gw:∀ r∈q,r.length=wq) (hwq:wq≤100):PC Tryz.prog 68 [zaz p,zaz q] (zaz (names (zi2 p q))) false:=by
 have hX:Shp2 p p.length wp:=⟨rfl,hw⟩
 have hY:Shp2 q q.length wq:=⟨rfl,gw⟩
 have hbs:=zg2 hX hY h1 g1
 have hbl:=hbs.h
 have hsb:Sm (zi2 p q):=⟨by omega,fun r hr=>by rw [hbs.w r hr]; omega⟩
 refine PC.of ⟨Tryz.func68,by kernel_rfl,rfl,by kernel_rfl⟩ zav mixed (by show 2≤Tryz.f68.ntmps; decide) ?_
 refine W.r fun K hK=>?_
 simp(disch:=omega)only[↓RU,RV,RH,↓reduceIte,qE,reduceCtorEq,if_pos,↓RS,RG,qA,qM,qL]
 apply hK;clear hK K
 refine W.r fun K hK=>?_
 simp(disch:=omega)only[↓RU,RV,RH,↓reduceIte,qE,reduceCtorEq,if_pos,↓RS,RG,qA,qM,qL,ty5,zab]
 apply hK;clear hK K
 refine W.r fun K hK=>?_
 simp(disch:=omega)only[↓RU,RV,RH,↓reduceIte,qE,reduceCtorEq,if_pos,qN,↓RS,RG,qA,qM,qL]
 refine zae.pc (z0n g1 gl gw hwq) rfl (.inl rfl) ?_
 simp(disch:=omega)only[↓RU,RV,RH,↓reduceIte,qE,reduceCtorEq,if_pos,qN,↓RS,RG,qA,qM,qL]
 apply hK;clear hK K
 refine W.seq ?_
 refine W.r fun K hK=>?_
 simp(disch:=omega)only[↓RU,RV,RH,↓reduceIte,qE,reduceCtorEq,if_pos,↓RS,RG,qA,qM,qL]
 apply hK;clear hK K
 refine W.block ?_
 refine W.loop [0,1,5,6,7] (fun n vs S=>∃ i v0 tq:Nat,n=p.length+q.length - 1 - i∧i≤p.length+q.length - 1∧vs=[zaz p,zaz q,.loc 0 v0 0 i,zaz (zv3 q),.int .i64 i]∧S=⟨[.arr v0 9 1 (((zi2 p q).take i).map .str)],tq⟩) (p.length+q.length - 1) ?_ ?_
 ·refine ⟨1,0,0,1,rfl,Nat.zero_le _,?_,rfl⟩
  simp [Env.put,Env.of,zaj]
 rintro n vs S - ⟨i,v0,tq,rfl,h_i,rfl,rfl⟩
 refine W.seq ?_
 refine W.r fun K hK=>?_
 simp(disch:=omega)only[↓RU,RV,RH,↓reduceIte,qE,reduceCtorEq,if_pos,w64,↓RS,RG,qA,qM,qL,ty5,zaa,zab]
 apply hK;clear hK K
 refine W.cond rfl (fun h=>?_) (fun h=>?_)
 ·try simp only[RL]at h
  have hil:i<p.length+q.length - 1:=by omega
  obtain ⟨r,r2,hr,hr2,hbr,hrl,hrl2,-,-⟩:=zrq hX hY h1 g1 hil
  have hla:(zv3 q)[i - (p.length - 1)]?=some (r2.map (· + 9)):=by simp [zv3,hr2]
  have hll:(zv3 q).length=q.length:=by simp [zv3]
  have hol:((zi2 p q).take i).length=i:=by rw [List.length_take,hbl]; omega
  have hm1:(min (i:Int) ((p.length:Int) - 1)).toNat=min i (p.length - 1):=by omega
  have hm2:(max (0:Int) ((i:Int) - (p.length:Int)+1)).toNat=i - (p.length - 1):=by omega
  have hrl3:(r2.map (· + 9)).length=wq:=by rw [List.length_map,hrl2]
  generalize r2.map (· + 9)=r3 at hla hbr hrl3
  refine W.skip ?_
  refine xn ?_
  refine W.seq ?_
  refine W.block ?_
  refine W.r fun K hK=>?_
  simp(disch:=omega)only[↓RU,RV,RH,↓reduceIte,qE,reduceCtorEq,if_pos,w64,zh2,↓RS,RG,qA,qM,qL,ty5,zaa,zab,hm1,hr]
  apply hK;clear hK K
  refine W.r fun K hK=>?_
  simp(disch:=omega)only[↓RU,RV,RH,↓reduceIte,qE,reduceCtorEq,if_pos,w64,ze7,↓RS,RG,qA,qM,qL,ty5,zaa,zab,hm2,hla,hll]
  apply hK;clear hK K
  refine W.k fun K hK=>?_
  simp(disch:=omega)only[↓RU,RV,RH,↓reduceIte,qE,reduceCtorEq,if_pos,w64,↓RS,RG,qA,qM,qL,ty5,zab,zev,hrl,hrl3,hol]
  apply hK;clear hK K
  refine XbN ?_
  refine xn ?_
  refine W.k fun K hK=>?_
  simp(disch:=omega)only[↓RU,RV,RH,↓reduceIte,qE,reduceCtorEq,if_pos,w64,↓RS,RG,qA,qM,qL,zaa]
  apply hK;clear hK K
  refine xn ?_
  refine ⟨p.length+q.length - 1 - (i+1),by omega,1,i+1,tq+1,tq+2,rfl,by omega,?_,?_⟩
  ·simp [Env.put,Env.of]
  rw [tk hbr]; simp [zb8,hol]
 try simp only[RL]at h
 obtain rfl:i=p.length+q.length - 1:=by omega
 have hbt:(zi2 p q).take (p.length+q.length - 1)=zi2 p q:=qT (by omega)
 rw [hbt]
 refine W.exit ?_
 refine xe ?_
 refine xe ?_
 refine XBlock.hit ?_
 refine xn ?_
 refine W.r fun K hK=>?_
 simp(disch:=omega)only[↓RU,RV,RH,↓reduceIte,qE,reduceCtorEq,if_pos,qN,↓RS,RG,qA,qM,qL]
 refine zae.pc (zd0 hsb) (zax (zis rfl (by omega)) rfl) (.inl rfl) ?_
 simp(disch:=omega)only[↓RU,RV,RH,↓reduceIte,qE,reduceCtorEq,if_pos,qN,↓RS,RG,qA,qM,qL]
 apply hK;clear hK K
 refine W.ret ?_
 refine Br rfl ?_
 rfl
end Fw
end Go.Proofs.YtcfgpmeebpinaaaGreat
