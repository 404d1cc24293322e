/- Lemmas (4). -/
import Derived.Deep.LoopGhost
import Derived.Deep.RegionHeld3
import Derived.Deep.RegionLaw
import Derived.Lib.SliceRun
import Derived.Shelf.Abstract
import Derived.Shelf.RegionOpenPlain
import Derived.WalkKit
import Derived.Test.YtofpjonggpjneaaZA0
import Derived.Test.YtofpjonggpjneaaZA2
import Derived.Test.YtofpjonggpjneaaZA3
set_option linter.unusedSimpArgs false
set_option linter.unusedVariables false
namespace Go.Proofs.Ytofpjonggpjneaa
open Go.RowKit
theorem exists_not {l:List Nat}:∃ k,k ∉ l:=by
 have key:∀ (l:List Nat),∀ x ∈ l,x ≤ l.sum:=by
  intro l
  induction l with
  | nil => intro x hx;cases hx
  | cons y l ih =>
   intro x hx
   rw [List.sum_cons]
   rcases List.mem_cons.1 hx with rfl|hx
   ·omega
   ·have:=ih x hx;omega
 exact ⟨l.sum + 1,fun h => by have:=key l _ h;omega⟩
theorem exists_free (s:St):∃ k,Free s k:=by
 obtain ⟨k,hk⟩:=exists_not (l:=s.heap.map (·.1) ++ s.regs.flatMap (·.2.refs) ++ s.heap.flatMap (·.2.refs))
 simp only [List.mem_append,not_or] at hk
 obtain ⟨⟨h1,h2⟩,h3⟩:=hk
 refine ⟨k,?_,fun r av hr hm => h2 (List.mem_flatMap.2 ⟨_,look_all hr,hm⟩),fun q u hq hm => h3 (List.mem_flatMap.2 ⟨_,look_all hq,hm⟩)⟩
 cases e:look k s.heap with
 | none => rfl
 | some o => exact absurd (List.mem_map.2 ⟨_,look_all e,rfl⟩) h1
theorem AC.frz_id {key k:Nat} {xs:List (List D)} {x:AC} (h:key ∉ x.refs):x.frz key k xs = x:=by
 cases x with
 | own q n => simp only [AC.refs,List.mem_singleton] at h;simp only [AC.frz];rw [if_neg (fun e => h e.symm)]
 | view q i n => simp only [AC.refs,List.mem_singleton] at h;simp only [AC.frz];rw [if_neg (fun e => h e.symm)]
 | _ => rfl
theorem acs_frz_id {key k:Nat} {xs:List (List D)}:∀ {cs:List AC},key ∉ cs.flatMap AC.refs→cs.map (AC.frz key k xs) = cs
 | [],_ => rfl
 | c :: cs,h => by
  rw [List.flatMap_cons,List.mem_append,not_or] at h
  rw [List.map_cons,AC.frz_id h.1,acs_frz_id h.2]
theorem AV.frz_id {key k:Nat} {xs:List (List D)} {x:AV} (h:key ∉ x.refs):x.frz key k xs = x:=by
 cases x with
 | c x => simp only [AV.frz];rw [AC.frz_id h]
 | eptr => rfl
 | optr q i j => simp only [AV.refs,List.mem_singleton] at h;simp only [AV.frz];rw [if_neg (fun e => h e.symm)]
 | agg cs => simp only [AV.frz];rw [acs_frz_id h]
 | tup cs => simp only [AV.frz];rw [acs_frz_id h]
 | dead => rfl
theorem Obj.frz_id {key k:Nat} {xs:List (List D)} {o:Obj} (h:key ∉ o.refs):o.frz key k xs = o:=by
 cases o with
 | row => rfl
 | pin => rfl
 | lit k' css =>
  simp only [Obj.frz]
  congr 1
  have h:key ∉ css.flatMap (·.flatMap AC.refs):=h
  have:∀ css:List (List AC),key ∉ css.flatMap (·.flatMap AC.refs)→css.map (·.map (AC.frz key k xs)) = css:=by
   intro css
   induction css with
   | nil => intro _;rfl
   | cons c css ih =>
    intro h
    rw [List.flatMap_cons,List.mem_append,not_or] at h
    rw [List.map_cons,acs_frz_id h.1,ih h.2]
  exact this css h
section
variable {P:Program} {cfg:Cfg} {M:Nat→Prop} {ops:Array Oper} {s s':St} {w0:W0} {w:World} {Ok:Nat→Prop} {N:Nat} {σ:Asg} {a:Act} {fs:List Fr} {Q:Exit→St→Prop} {T:Tab P}
def devalB (cfg:Cfg) (ops:Array Oper) (o:Oper) (s:St):Option Tel :=
 match o.op with
 | .buildSlice t len parts => if dstOK cfg o = true∧awanted ops s.regs o = some true then
   o.dst.bind fun d => (cfg.sl t).bind fun i => if len = parts.size∧len * i.z.length ≤ 16777216 then (aparts s.regs 0 parts.toList).bind fun css => (rowsD i.z css).map fun r => ⟨⟨d,.c (.val (.sl i.z.length r.1)),[]⟩,opRefs s.regs o.op.operands.toList⟩ else Option.none
  else Option.none
 | _ => Option.none
theorem Does1.lit (C:CfgOK P cfg) {i:Nat} {o:Oper} (hi:ops[i]? = some o) {t:Tel} (h:devalB cfg ops o s = some t):Does1 P cfg ops i s t:=by
 unfold devalB at h
 split at h
 ·rename_i ty len parts hop
  split at h
  ·rename_i hc
   obtain ⟨d,hd,h⟩:=bind_some h
   obtain ⟨it,hit,h⟩:=bind_some h
   split at h
   ·rename_i hsz
    obtain ⟨css,hcss,h⟩:=bind_some h
    obtain ⟨⟨xs,b⟩,hr,rfl⟩:=map_some h
    refine ⟨o,hi,hd,fun s' h1 h2 h3 w0 Ok σ a w K Q hS hK => ?_⟩
    have hw:awanted ops s'.regs o = some true:=by rw [awanted_congr h1,hc.2]
    have hopl:o.op.operands.toList = parts.toList.map (·.2):=by rw [hop];rfl
    have hag:=agree_of (xs:=o.op.operands.toList) (fun x hx => hx) h1 h2
    rw [hopl] at hag
    have hcss':aparts s'.regs 0 parts.toList = some css:=by rw [aparts_congr hag,hcss]
    obtain ⟨q,hq⟩:=exists_free s'
    have hmk:mkObj it.z css = some (.row it.z.length xs b):=by unfold mkObj;rw [hr]
    have ha:anew cfg (fun k => look k s'.heap) s'.regs q o.op = some (.c (.own q len),[(q,.row it.z.length xs b)]):=by
     rw [hop]
     simp only [anew,hit,Option.bind_some]
     rw [if_pos hsz,hcss']
     simp only [Option.bind_some,hmk,Option.map_some]
    unfold wpOp
    simp only [hi,awanted_spec hS hw,if_true]
    left
    have hdN:d < cfg.N:=by have:=hc.1;rw [dstOK,hd] at this;simpa using this
    refine anew_doesF C hS (news:=[(q,.row it.z.length xs b)]) (av:=.c (.own q len)) ha (fun p ob hp => ?_) _ _ (fun v w' σ' hv hS' => ?_)
    ·have hp:(if q = p then some (Obj.row it.z.length xs b) else none) = some ob:=hp
     split at hp
     ·rename_i e;subst e;exact hq
     ·cases hp
    ·rw [hd]
     have hS1:=Sim.ins hS' hdN hv
     have hS2:=Sim.frz hS1 q
     refine hK σ' _ _ ?_
     have hlq:look q (⟨insR d (.c (.own q len)) s'.regs,[(q,Obj.row it.z.length xs b)] ++ s'.heap⟩:St).heap = some (.row it.z.length xs b):=by show look q ((q,Obj.row it.z.length xs b) :: s'.heap) = _;rw [look,if_pos rfl]
     have e:(⟨insR d (.c (.own q len)) s'.regs,[(q,Obj.row it.z.length xs b)] ++ s'.heap⟩:St).frz q = ⟨frzR q it.z.length xs (insR d (.c (.own q len)) s'.regs),frzH q it.z.length xs (drop q ([(q,Obj.row it.z.length xs b)] ++ s'.heap))⟩:=by
      unfold St.frz;rw [hlq]
     rw [e] at hS2
     refine hS2.forget (fun r av hr => ?_) (fun k o' ho' => ?_)
     ·have hr:look r (insR d (.c (.val (.sl it.z.length xs))) s'.regs) = some av:=hr
      rw [look_ins] at hr
      show look r (frzR q it.z.length xs (insR d (.c (.own q len)) s'.regs)) = _
      rw [look_frzR,look_ins]
      by_cases er:d = r
      ·rw [if_pos er] at hr ⊢
       cases hr
       show some (AV.c (if q = q then AC.val (.sl it.z.length xs) else AC.own q len)) = _
       rw [if_pos rfl]
      ·rw [if_neg er] at hr ⊢
       rw [hr]
       show some (av.frz q it.z.length xs) = _
       rw [AV.frz_id (hq.2.1 r av hr)]
     ·have ho':look k s'.heap = some o':=ho'
      show look k (frzH q it.z.length xs (drop q ((q,Obj.row it.z.length xs b) :: s'.heap))) = _
      have hkq:k ≠ q:=by rintro rfl;rw [hq.1] at ho';cases ho'
      rw [look_frzH,look_drop,if_neg hkq,look,if_neg (fun e => hkq e.symm),ho']
      show some (o'.frz q it.z.length xs) = _
      rw [Obj.frz_id (hq.2.2 k o' ho')]
   ·cases h
  ·cases h
 ·cases h
end
end Go.Proofs.Ytofpjonggpjneaa
namespace Go.Proofs.Ytofpjonggpjneaa
open Go.RowKit
def slT2 (t:TypeId):Option TyI :=
 if t = 22 then some ⟨5,[.raw (.int .u8 0)],1⟩ else
 if t = 127 then some ⟨130,[.sl 1 [],.sl 1 [],.int 0],56⟩ else
 if t = 131 then some ⟨134,[.sl 1 [],.sl 1 [],.int 0],56⟩ else
 none
def slT (t:TypeId):Option TyI :=
 if t = 24 then some ⟨2,[.int 0],8⟩ else
 if t = 108 then some ⟨3,[.int 0],8⟩ else
 if t = 30 then some ⟨24,[.sl 1 []],24⟩ else
 if t = 162 then some ⟨30,[.sl 1 []],24⟩ else
 if t = 146 then some ⟨108,[.sl 1 []],24⟩ else
 if t = 40 then some ⟨53,[.sl 1 [],.int 0],32⟩ else
 slT2 t
def tyT3 (t:TypeId):Option (List D × Bool) :=
 if t = 22 then some ([.sl 1 []],false) else
 none
def tyT2 (t:TypeId):Option (List D × Bool) :=
 if t = 127 then some ([.sl 3 []],false) else
 if t = 130 then some ([.sl 1 [],.sl 1 [],.int 0],true) else
 if t = 131 then some ([.sl 3 []],false) else
 if t = 134 then some ([.sl 1 [],.sl 1 [],.int 0],true) else
 tyT3 t
def tyT (t:TypeId):Option (List D × Bool) :=
 if t = 2 then some ([.int 0],false) else
 if t = 3 then some ([.int 0],false) else
 if t = 4 then some ([.bool false],false) else
 if t = 24 then some ([.sl 1 []],false) else
 if t = 108 then some ([.sl 1 []],false) else
 if t = 30 then some ([.sl 1 []],false) else
 if t = 162 then some ([.sl 1 []],false) else
 if t = 146 then some ([.sl 1 []],false) else
 if t = 40 then some ([.sl 2 []],false) else
 if t = 53 then some ([.sl 1 [],.int 0],true) else
 tyT2 t
def fsT (t:TypeId):Option (List (Nat × Nat)) :=
 if t = 53 then some [(0,1),(1,1)] else
 if t = 130 then some [(0,1),(1,1),(2,1)] else
 if t = 134 then some [(0,1),(1,1),(2,1)] else
 none
def cfg (n:Nat):Cfg:=⟨n,slT,tyT,fsT,fun t => t == 2 || t == 3⟩
def zvOf:Bool→List D→Value
 | true,z => .agg (z.map zval).toArray
 | false,z => zval (z.headD (.int 0))
theorem sl_ok {P:Program} {t:TypeId} {i:TyI} (h1:P.underlying t = some (.slice i.e)) (h2:(P.info? i.e).map (fun j => (j.zero,j.size,j.bytes)) = some (some (zvOf (decide (1 < i.z.length)) i.z),i.z.length,i.bytes))
  (h3:(zvOf (decide (1 < i.z.length)) i.z).cells.toList = i.z.map zval) (h4:i.z.all isZero = true) (h5:0 < i.z.length):∃ z:Value,ST P t i.e z i.z.length i.bytes∧ZeroOK z i.z :=
 ⟨_,ST.mk' h1 h2 (by rw [← Array.length_toList,h3,List.length_map]) h5,h3,h4⟩
theorem ty_ok {P:Program} {t:TypeId} {z:List D} {st:Bool} (h1:(P.info? t).map (fun i => (i.zero,i.size)) = some (some (zvOf st z),z.length)) (h2:(zvOf st z).cells.toList = z.map zval) (h3:z.all isZero = true) (h4:0 < z.length)
  (h5:(P.underlying t).map TypeDesc.isRow = some st) (h6:st = false→z.length = 1):∃ zv ti d,P.info? t = some ti∧ti.zero = some zv∧ti.size = z.length∧ZeroOK zv z∧0 < z.length∧P.underlying t = some d∧d.isRow = st∧(st = false→z.length = 1):=by
 obtain ⟨ti,k1,k2⟩:=map_some h1
 obtain ⟨d,k3,k4⟩:=map_some h5
 simp only [Prod.mk.injEq] at k2
 exact ⟨_,ti,d,k1,k2.1,k2.2,⟨h2,h3⟩,h4,k3,k4,h6⟩
theorem fs_ok {P:Program} {t:TypeId} {fs:List (Nat × Nat)} (h:(match P.underlying t with|some (.struct fields) => fields.toList.mapM (fun f => (P.info? f.type).map fun i => (f.offset,i.size))|_ => none) = some fs) (h2:∀ p ∈ fs,0 < p.2) :
  ∃ fields,P.underlying t = some (.struct fields)∧fields.toList.mapM (fun f => (P.info? f.type).map fun i => (f.offset,i.size)) = some fs∧∀ p ∈ fs,0 < p.2:=by
 split at h
 ·rename_i fields e
  exact ⟨fields,e,h,h2⟩
 ·cases h
theorem i64_a:Try.prog.underlying 2 = some (.int .i64):=by kernel_rfl
theorem i64_b:Try.prog.underlying 3 = some (.int .i64):=by kernel_rfl
set_option maxHeartbeats 2000000 in
theorem cfg_ok (n:Nat):CfgOK Try.prog (cfg n) where
 sl:=by
  intro t i h
  have h:slT t = some i:=h
  unfold slT at h
  split at h
  ·rename_i e;subst e;cases h;exact sl_ok (by kernel_rfl) (by kernel_rfl) (by rfl) (by rfl) (by decide)
  split at h
  ·rename_i e;subst e;cases h;exact sl_ok (by kernel_rfl) (by kernel_rfl) (by rfl) (by rfl) (by decide)
  split at h
  ·rename_i e;subst e;cases h;exact sl_ok (by kernel_rfl) (by kernel_rfl) (by rfl) (by rfl) (by decide)
  split at h
  ·rename_i e;subst e;cases h;exact sl_ok (by kernel_rfl) (by kernel_rfl) (by rfl) (by rfl) (by decide)
  split at h
  ·rename_i e;subst e;cases h;exact sl_ok (by kernel_rfl) (by kernel_rfl) (by rfl) (by rfl) (by decide)
  split at h
  ·rename_i e;subst e;cases h;exact sl_ok (by kernel_rfl) (by kernel_rfl) (by rfl) (by rfl) (by decide)
  have h:slT2 t = some i:=h
  unfold slT2 at h
  split at h
  ·rename_i e;subst e;cases h;exact sl_ok (by kernel_rfl) (by kernel_rfl) (by rfl) (by rfl) (by decide)
  split at h
  ·rename_i e;subst e;cases h;exact sl_ok (by kernel_rfl) (by kernel_rfl) (by rfl) (by rfl) (by decide)
  split at h
  ·rename_i e;subst e;cases h;exact sl_ok (by kernel_rfl) (by kernel_rfl) (by rfl) (by rfl) (by decide)
  cases h
 ty:=by
  intro t z st h
  have h:tyT t = some (z,st):=h
  have h3:∀ {t:TypeId} {z:List D} {st:Bool},tyT3 t = some (z,st)→∃ zv ti d,Try.prog.info? t = some ti∧ti.zero = some zv∧ti.size = z.length∧ZeroOK zv z∧0 < z.length∧Try.prog.underlying t = some d∧d.isRow = st∧(st = false→z.length = 1):=by
   intro t z st h
   unfold tyT3 at h
   repeat' split at h
   all_goals first
    | (cases h;done)
    | (rename_i e;subst e;cases h;exact ty_ok (by kernel_rfl) (by rfl) (by rfl) (by decide) (by kernel_rfl) (by decide))
  have h2:∀ {t:TypeId} {z:List D} {st:Bool},tyT2 t = some (z,st)→∃ zv ti d,Try.prog.info? t = some ti∧ti.zero = some zv∧ti.size = z.length∧ZeroOK zv z∧0 < z.length∧Try.prog.underlying t = some d∧d.isRow = st∧(st = false→z.length = 1):=by
   intro t z st h
   unfold tyT2 at h
   repeat' split at h
   all_goals first
    | (cases h;done)
    | (exact h3 h)
    | (rename_i e;subst e;cases h;exact ty_ok (by kernel_rfl) (by rfl) (by rfl) (by decide) (by kernel_rfl) (by decide))
  unfold tyT at h
  repeat' split at h
  all_goals first
   | (cases h;done)
   | (exact h2 h)
   | (rename_i e;subst e;cases h;exact ty_ok (by kernel_rfl) (by rfl) (by rfl) (by decide) (by kernel_rfl) (by decide))
 fs:=by
  intro t fs h
  have h:fsT t = some fs:=h
  unfold fsT at h
  repeat' split at h
  all_goals first
   | (cases h;done)
   | (rename_i e;subst e;cases h;exact fs_ok (by kernel_rfl) (by decide))
 i64:=by
  intro t h
  have h:(t == 2 || t == 3) = true:=h
  simp only [Bool.or_eq_true,beq_iff_eq] at h
  rcases h with rfl|rfl
  ·exact i64_a
  ·exact i64_b
def dL (xs:List Int):D:=.sl 1 (xs.map eI)
theorem rd_dL {A:Nat→Prop} {w:World} {v:Value} {xs:List Int}:rdV A w v (dL xs) ↔ (RS RI).rd A w [v] xs:=((encS encI).rdV (x:=xs) rfl).symm
end Go.Proofs.Ytofpjonggpjneaa
namespace Go.Proofs.Ytofpjonggpjneaa
open Go.RowKit
structure Cod (α:Type) where
 e:α→List D
 d:List D→Option α
 de:∀ x,d (e x) = some x
 ed:∀ c x,d c = some x→c = e x
def dI:List D→Option Int
 | [.int n] => some n
 | _ => none
def dB:List D→Option Bool
 | [.bool n] => some n
 | _ => none
theorem dI_spec {c:List D} {x:Int} (h:dI c = some x):c = eI x:=by
 unfold dI at h
 split at h
 ·cases h;rfl
 ·cases h
theorem dB_spec {c:List D} {x:Bool} (h:dB c = some x):c = eB x:=by
 unfold dB at h
 split at h
 ·cases h;rfl
 ·cases h
def codI:Cod Int:=⟨eI,dI,fun _ => rfl,fun _ _ => dI_spec⟩
def codB:Cod Bool:=⟨eB,dB,fun _ => rfl,fun _ _ => dB_spec⟩
def dAll {α:Type} (d:List D→Option α):List (List D)→Option (List α)
 | [] => some []
 | c :: cs => (d c).bind fun x => (dAll d cs).map fun xs => x :: xs
def dSl {α:Type} (k:Nat) (d:List D→Option α):List D→Option (List α)
 | [.sl j cs] => if j = k then dAll d cs else none
 | _ => none
theorem dAll_map {α:Type} {e:α→List D} {d:List D→Option α} (h:∀ x,d (e x) = some x):∀ xs:List α,dAll d (xs.map e) = some xs
 | [] => rfl
 | x :: xs => by simp only [List.map_cons,dAll,h,Option.bind_some,dAll_map h xs,Option.map_some]
theorem dAll_spec {α:Type} {e:α→List D} {d:List D→Option α} (h:∀ c x,d c = some x→c = e x):∀ {cs:List (List D)} {xs:List α},dAll d cs = some xs→cs = xs.map e
 | [],xs,hx => by simp only [dAll,Option.some.injEq] at hx;subst hx;rfl
 | c :: cs,xs,hx => by
  simp only [dAll] at hx
  obtain ⟨x,h1,hx⟩:=bind_some hx
  obtain ⟨ys,h2,rfl⟩:=map_some hx
  rw [h c x h1,dAll_spec h h2];rfl
def codS {α:Type} (k:Nat) (C:Cod α):Cod (List α):=⟨eS k C.e,dSl k C.d,fun xs => by
  show dSl k C.d [.sl k (xs.map C.e)] = some xs
  simp only [dSl,if_true,dAll_map C.de],fun c xs h => by
  unfold dSl at h
  split at h
  ·split at h
   ·rename_i e;subst e;rw [dAll_spec C.ed h];rfl
   ·cases h
  ·cases h⟩
def codP {α β:Type} (k:Nat) (C:Cod α) (D':Cod β) (hk:∀ x,(C.e x).length = k):Cod (α × β):=⟨eP C.e D'.e,fun c => (C.d (c.take k)).bind fun x => (D'.d (c.drop k)).map fun y => (x,y),fun x => by
  show (C.d ((C.e x.1 ++ D'.e x.2).take k)).bind (fun x_1 => (D'.d ((C.e x.1 ++ D'.e x.2).drop k)).map fun y => (x_1,y)) = _
  rw [List.take_left' (hk _),List.drop_left' (hk _),C.de,D'.de];rfl,fun c x h => by
  obtain ⟨a,h1,h⟩:=bind_some h
  obtain ⟨b,h2,rfl⟩:=map_some h
  show c = C.e a ++ D'.e b
  rw [← C.ed _ _ h1,← D'.ed _ _ h2,List.take_append_drop]⟩
def eL (xs:List Int):List D:=[.sl 1 (xs.map eI)]
def eLL (xs:List (List Int)):List D:=[.sl 1 (xs.map eL)]
def codL:Cod (List Int):=codS 1 codI
def codLL:Cod (List (List Int)):=codS 1 codL
def eCt (x:List Int × Int):List D:=[.sl 1 (x.1.map eI),.int x.2]
def codCt:Cod (List Int × Int):=codP 1 codL codI (fun _ => rfl)
theorem codL_d (xs:List Int):codL.d [.sl 1 (xs.map eI)] = some xs:=codL.de xs
theorem codLL_d (xs:List (List Int)):codLL.d [.sl 1 (xs.map eL)] = some xs:=codLL.de xs
theorem codI_d (x:Int):codI.d [.int x] = some x:=rfl
theorem codB_d (x:Bool):codB.d [.bool x] = some x:=rfl
theorem codCts_d (xs:List (List Int × Int)):(codS 2 codCt).d [.sl 2 (xs.map eCt)] = some xs:=(codS 2 codCt).de xs
def tab1 {α:Type} (A:Cod α) (f:α→Option (List Res)):List (List D)→Option (List Res)
 | [a] => (A.d a).bind f
 | _ => none
def tab2 {α β:Type} (A:Cod α) (B:Cod β) (f:α→β→Option (List Res)):List (List D)→Option (List Res)
 | [a,b] => (A.d a).bind fun x => (B.d b).bind (f x)
 | _ => none
def tab3 {α β γ:Type} (A:Cod α) (B:Cod β) (C:Cod γ) (f:α→β→γ→Option (List Res)):List (List D)→Option (List Res)
 | [a,b,c] => (A.d a).bind fun x => (B.d b).bind fun y => (C.d c).bind (f x y)
 | _ => none
theorem tab2_ok {P:Program} {g:FuncId} {α β:Type} {A:Cod α} {B:Cod β} {f:α→β→Option (List Res)} (h:∀ x y rs,f x y = some rs→AFn P g [A.e x,B.e y] (· = rs)) (ds:List (List D)) (rs:List Res) (e:tab2 A B f ds = some rs):AFn P g ds (· = rs):=by
 unfold tab2 at e
 split at e
 ·obtain ⟨x,h1,e⟩:=bind_some e
  obtain ⟨y,h2,e⟩:=bind_some e
  rw [A.ed _ _ h1,B.ed _ _ h2];exact h x y rs e
 ·cases e
theorem big_le {n:Nat} (h:n ≤ 1000000000):(n ≤ 140737488355328) = True:=eq_true (by omega)
theorem big_mul {n c:Nat} (hc:c ≤ 100000) (h:n ≤ 1000000000):(n * c ≤ 140737488355328) = True :=
 eq_true (Nat.le_trans (Nat.mul_le_mul h hc) (by decide))
theorem w64_eq {n:Int} (h:-9223372036854775808 ≤ n∧n ≤ 9223372036854775807):w64 n = n:=by unfold w64;exact IntWalk.i64_in n h
theorem w64_succ {n:Nat} (h:n < 9223372036854775807):w64 ((n:Int) + 1) = ((n + 1:Nat):Int):=by rw [w64_eq (by omega)];rfl
theorem rd1 {A:Nat→Prop} {w:World} {xs:List Int} {v:Value} (h:relArg A w (eL xs) v):(RS RI).rd A w [v] xs:=rd_dL.1 h
end Go.Proofs.Ytofpjonggpjneaa
namespace Go.Proofs.Ytofpjonggpjneaa
open Go.RowKit
def inR (n lo hi:Int):Bool:=decide (lo ≤ n) && decide (n ≤ hi)
set_option maxRecDepth 100000 in
set_option maxHeartbeats 400000 in
theorem c_impl_inRange (n lo hi:Int) (w:World) :
  Calls Try.prog 95 #[.int .i64 n,.int .i64 lo,.int .i64 hi] w (RetS w (.bool (inR n lo hi))):=by
 unfold inR
 by_cases h1:lo ≤ n <;> by_cases h2:n ≤ hi
 all_goals
  go_enter Try.func95,Try.ntmps95
  go_wp2
  go_ret
  exact ⟨by simp [*],rfl⟩
set_option maxRecDepth 100000 in
set_option maxHeartbeats 400000 in
theorem c_spec_l01In (n lo hi:Int) (w:World) :
  Calls Try.prog 97 #[.int .i64 n,.int .i64 lo,.int .i64 hi] w (RetS w (.bool (inR n lo hi))):=by
 unfold inR
 by_cases h1:lo ≤ n <;> by_cases h2:n ≤ hi
 all_goals
  go_enter Try.func97,Try.ntmps97
  go_wp2
  go_ret
  exact ⟨by simp [*],rfl⟩
end Go.Proofs.Ytofpjonggpjneaa
namespace Go.Proofs.Ytofpjonggpjneaa
open Go.RowKit
def LevP (t:List Int):Prop:=t.getD 0 1 = 0∧∀ i,i < t.length→i + 1 < t.length→1 ≤ t.getD (i + 1) 0∧t.getD (i + 1) 0 ≤ t.getD i 0 + 1
instance (t:List Int):Decidable (LevP t):=inferInstanceAs (Decidable (_∧_))
def levB (t:List Int):Bool:=decide (LevP t)
def lev8 (t:List Int):Bool:=decide (t.length ≤ 8) && levB t
theorem LevP.pos {t:List Int} (h:LevP t):0 < t.length:=by
 cases t with
 | nil => have:=h.1;simp at this
 | cons a t => simp
theorem LevP.zero {t:List Int} (h:LevP t) (hp:0 < t.length):t[0] = 0:=by
 have:=h.1
 simpa [hp] using this
theorem LevP.succ {t:List Int} (h:LevP t) {i:Nat} (hi:i + 1 < t.length):1 ≤ t[i + 1]∧t[i + 1] ≤ t[i]'(by omega) + 1:=by
 have:=h.2 i (by omega) hi
 simpa [hi,show i < t.length by omega] using this
theorem LevP.bd {t:List Int} (h:LevP t):∀ i (hi:i < t.length),0 ≤ t[i]∧t[i] ≤ (i:Int):=by
 intro i
 induction i with
 | zero => intro hi;rw [h.zero hi];simp
 | succ i ih =>
  intro hi
  have h1:=h.succ hi
  have h2:=ih (by omega)
  omega
def LevTo (t:List Int) (k:Nat):Prop:=(0 < k→t.getD 0 1 = 0)∧∀ i,i + 1 < k→1 ≤ t.getD (i + 1) 0∧t.getD (i + 1) 0 ≤ t.getD i 0 + 1
theorem LevTo.all {t:List Int} {k:Nat} (h:LevTo t k) (h0:0 < t.length) (hk:t.length ≤ k):LevP t :=
 ⟨h.1 (by omega),fun i _ h2 => h.2 i (by omega)⟩
theorem LevTo.bd {t:List Int} {k:Nat} (h:LevTo t k):∀ i,i < k→i < t.length→0 ≤ t.getD i 0∧t.getD i 0 ≤ (i:Int):=by
 intro i
 induction i with
 | zero =>
  intro hi hl
  have:=h.1 hi
  have e:t.getD 0 0 = t.getD 0 1:=by simp [hl]
  rw [e,this];simp
 | succ i ih =>
  intro hi hl
  have h1:=h.2 i hi
  have h2:=ih (by omega) (by omega)
  omega
set_option maxRecDepth 100000 in
set_option maxHeartbeats 1000000 in
theorem c_impl_isLevelList (v:Value) (t:List Int) (w:World) (h:Rd (RS RI) w [v] t) :
  Calls Try.prog 125 #[v] w (RetS w (.bool (levB t))):=by
 obtain ⟨oa,c1,I1⟩:=h.ints
 obtain rfl:=I1.val
 have m1:=I1.le;have m2:=I1.capLe
 unfold maxLen at m2
 go_enter Try.func125,Try.ntmps125
 go_wp2_with fail
 go_loop [7] (fun i => ∃ k:Nat,k ≤ t.length∧i = .int .i64 k∧LevTo t k) (fun i => t.length - (intOf i).toNat)
 case atStart => exact ⟨0,Nat.zero_le _,rfl,fun h => absurd h (Nat.lt_irrefl _),fun i h => by omega⟩
 case round =>
  obtain ⟨k,hk,rfl,hlev⟩:=hrel
  by_cases hlt:k < t.length
  ·obtain ⟨b,off,rfl,hb,hc⟩:=I1.get hlt
   have g1:=hc k hlt
   have hx:=I1.b hlt
   unfold In64 at hx
   cases k with
   | zero =>
    rw [Nat.add_zero] at g1
    by_cases hz:t[0] = 0
    ·have hzb:(t[0] != 0) = false:=by simp [hz]
     have Hz:=Lib.hid hz
     have Hlev:=Lib.hid hlev
     clear hz hlev hc
     go_wp2_with fail
     go_round
     case rel => exact ⟨1,by omega,rfl,fun _ => by simpa [hlt] using Hz.out,fun i h => by omega⟩
     case measure => simp [intOf];omega
    ·have hzb:(t[0] != 0) = true:=by simp [hz]
     have Hz:=Lib.hid hz
     have Hlev:=Lib.hid hlev
     clear hz hlev hc
     go_wp2_with fail
     go_ret
     refine ⟨?_,rfl⟩
     have:levB t = false:=by
      apply decide_eq_false
      intro hp
      exact Hz.out (hp.zero hlt)
     rw [this];rfl
   | succ k =>
    have g2:=hc k (by omega)
    have hbd:=hlev.bd k (by omega) (by omega)
    have e1:t.getD k 0 = t[k]:=by simp [show k < t.length by omega]
    have e2:t.getD (k + 1) 0 = t[k + 1]:=by simp [hlt]
    rw [e1] at hbd
    obtain ⟨q1,q2⟩:=hbd
    have q3:IntKind.i64.wrap (t[k] + 1) = t[k] + 1:=by exact IntWalk.i64_in _ (by omega)
    have ek:(((k + 1:Nat):Int) == 0) = false:=by simp;omega
    have ek2:(((k + 1:Nat):Int) - 1) = (k:Int):=by omega
    have Hlev:=Lib.hid hlev
    have H1:=Lib.hid e1
    have H2:=Lib.hid e2
    clear hlev hc e1 e2 q3
    by_cases hr:inR t[k + 1] 1 (t[k] + 1) = true
    ·go_wp2_with (go_at_call 95;refine (c_impl_inRange _ _ _ _).mono ?_;rintro e w' ⟨rfl,rfl⟩)
     go_round
     case rel =>
      refine ⟨k + 1 + 1,by omega,by go_num,fun _ => Hlev.out.1 (by omega),fun i hi => ?_⟩
      by_cases hik:i + 1 < k + 1
      ·exact Hlev.out.2 i hik
      ·have hie:i = k:=by omega
       subst hie
       rw [H1.out,H2.out]
       simpa [inR] using hr
     case measure => simp [intOf];omega
    ·have hr':inR t[k + 1] 1 (t[k] + 1) = false:=by simpa using hr
     go_wp2_with (go_at_call 95;refine (c_impl_inRange _ _ _ _).mono ?_;rintro e w' ⟨rfl,rfl⟩)
     go_ret
     refine ⟨?_,rfl⟩
     have:levB t = false:=by
      apply decide_eq_false
      intro hp
      have:=hp.succ hlt
      apply hr
      simp [inR];omega
     rw [this];rfl
  ·have hke:k = t.length:=by omega
   by_cases h0:0 < t.length
   ·have hfin:levB t = true:=decide_eq_true (hlev.all h0 (by omega))
    have Hf:=Lib.hid hfin
    have Hlev:=Lib.hid hlev
    clear hfin hlev hke
    go_wp2_with fail
    go_ret
    exact ⟨by rw [Hf.out];first|(simp;done)|(simp;omega),rfl⟩
   ·have ht:t = []:=List.eq_nil_of_length_eq_zero (by omega)
    have hfin:levB t = false:=by rw [ht];rfl
    have Hf:=Lib.hid hfin
    have Hlev:=Lib.hid hlev
    have h0':t.length = 0:=by omega
    clear hfin hlev hke ht
    go_wp2_with fail
    go_ret
    exact ⟨by rw [Hf.out];first|(simp;done)|(simp;omega),rfl⟩
set_option maxRecDepth 100000 in
set_option maxHeartbeats 400000 in
theorem c_impl_IsLevels (v:Value) (t:List Int) (w:World) (h:Rd (RS RI) w [v] t) :
  Calls Try.prog 49 #[v] w (RetS w (.bool (lev8 t))):=by
 obtain ⟨oa,c1,I1⟩:=h.ints
 obtain rfl:=I1.val
 have m1:=I1.le;have m2:=I1.capLe
 unfold maxLen at m2
 unfold lev8
 by_cases hl:t.length ≤ 8
 ·go_enter Try.func49,Try.ntmps49
  go_wp2_with (go_at_call 125;refine (c_impl_isLevelList _ t _ h).mono ?_;rintro e w' ⟨rfl,rfl⟩)
  go_ret
  exact ⟨by simp [hl],rfl⟩
 ·go_enter Try.func49,Try.ntmps49
  go_wp2_with fail
  go_ret
  exact ⟨by simp,rfl⟩
def LevW (t:List Int) (k:Nat):Prop:=∀ i,i + 1 < k→inR (t.getD (i + 1) 0) 1 (IntKind.i64.wrap (t.getD i 0 + 1)) = true
theorem LevW.lev {t:List Int} {k:Nat} (h:LevW t k) (h0:t.getD 0 1 = 0) (hl:t.length < 1000000000000000) (hk:k ≤ t.length):LevTo t k:=by
 refine ⟨fun _ => h0,?_⟩
 have key:∀ j,j ≤ k→LevTo t j:=by
  intro j
  induction j with
  | zero => intro _;exact ⟨fun h => absurd h (Nat.lt_irrefl _),fun i hi => by omega⟩
  | succ j ih =>
   intro hj
   have hp:=ih (by omega)
   refine ⟨fun _ => h0,fun i hi => ?_⟩
   by_cases hij:i + 1 < j
   ·exact hp.2 i hij
   ·have hie:i + 1 = j:=by omega
    have hb:=hp.bd i (by omega) (by omega)
    have hw:=h i (by omega)
    have e:IntKind.i64.wrap (t.getD i 0 + 1) = t.getD i 0 + 1:=IntWalk.i64_in _ (by omega)
    rw [e] at hw
    simpa [inR] using hw
 exact (key k (Nat.le_refl _)).2
theorem LevP.w {t:List Int} (h:LevP t) (hl:t.length < 1000000000000000) {i:Nat} (hi:i + 1 < t.length):inR (t.getD (i + 1) 0) 1 (IntKind.i64.wrap (t.getD i 0 + 1)) = true:=by
 have h1:=h.2 i (by omega) hi
 have h2:=h.bd i (by omega)
 have e0:t.getD i 0 = t[i]'(by omega):=by simp [show i < t.length by omega]
 have e:IntKind.i64.wrap (t.getD i 0 + 1) = t.getD i 0 + 1:=IntWalk.i64_in _ (by rw [e0];omega)
 rw [e];simpa [inR] using h1
set_option maxRecDepth 100000 in
set_option maxHeartbeats 1000000 in
theorem c_spec_l03Is (v:Value) (t:List Int) (w:World) (h:Rd (RS RI) w [v] t) (hsz:t.length < 1000000000000000) :
  Calls Try.prog 110 #[v] w (RetQ w (.bool (lev8 t))):=by
 obtain ⟨oa,c1,I1⟩:=h.ints
 obtain rfl:=I1.val
 have m1:=I1.le;have m2:=I1.capLe
 unfold maxLen at m2
 go_enter Try.func110,Try.ntmps110
 go_wp2_with fail
 go_loopw [3] (fun i wr => ∃ k:Nat,i = .int .i64 (k + 1)∧(k + 1 ≤ t.length ∨ k = 0)∧LevW t (k + 1)∧∃ n,wr = w.drewN n) (fun i _ => t.length + 1 - (intOf i).toNat)
 case atStart => exact ⟨0,by simp,.inr rfl,fun i hi => by omega,0,rfl⟩
 case round =>
  obtain ⟨k,rfl,hk,hlev,n,rfl⟩:=hrel
  have Hlev:=Lib.hid hlev
  have Hk:=Lib.hid hk
  clear hlev hk
  by_cases hlt:k + 1 < t.length
  ·obtain ⟨b,off,rfl,hb,hc⟩:=I1.get hlt
   have g1:=hc (k + 1) hlt
   have g2:=hc k (by omega)
   have e1:t.getD k 0 = t[k]:=by simp [show k < t.length by omega]
   have e2:t.getD (k + 1) 0 = t[k + 1]:=by simp [hlt]
   have H1:=Lib.hid e1
   have H2:=Lib.hid e2
   have hx1:=I1.b (k:=k) (by omega)
   have hi1:(0:Int) ≤ (k:Int) + 1:=by omega
   have hi2:(k:Int) + 1 < (t.length:Int):=by omega
   have hi3:IntKind.i64.wrap (k:Int) = (k:Int):=IntWalk.i64_in _ (by omega)
   have hi4:((k:Int) + 1).toNat = k + 1:=by omega
   have hi5:(k:Int) < (t.length:Int):=by omega
   clear hc e1 e2
   obtain ⟨g,hg⟩:∃ g,IntKind.i64.wrap (t[k] + 1) = g:=⟨_,rfl⟩
   have Hg:=Lib.hid hg
   cases hr:inR t[k + 1] 1 g
   ·go_wp2_with fail
    go_quiet ((go_at_call 97;exact Calls.qS' (c_spec_l01In _ _ _ _)))
    go_wp2_with fail
    go_ret
    refine ⟨?_,(by first|exact drewN1 _ _|exact drewN2 _ _ _)⟩
    have:lev8 t = false:=by
     unfold lev8
     rw [Bool.and_eq_false_iff]
     right
     apply decide_eq_false
     intro hp
     have h5:=hp.w (by omega) hlt
     rw [H1.out,H2.out,Hg.out,hr] at h5
     cases h5
    rw [this];rfl
   ·go_wp2_with fail
    go_quiet ((go_at_call 97;exact Calls.qS' (c_spec_l01In _ _ _ _)))
    go_wp2_with fail
    go_roundw
    case rel =>
     refine ⟨k + 1,by go_num,by omega,fun i hi => ?_,(by first|exact drewN1 _ _|exact drewN2 _ _ _)⟩
     by_cases hik:i + 1 < k + 1
     ·exact Hlev.out i hik
     ·have hie:i = k:=by omega
      subst hie
      rw [H1.out,H2.out,Hg.out];exact hr
    case measure => simp [intOf];omega
  ·by_cases h0:0 < t.length
   ·have hkk:k + 1 = t.length:=by rcases Hk.out with h|h <;> omega
    obtain ⟨b,off,rfl,hb,hc⟩:=I1.get h0
    have g1:=hc 0 h0
    rw [Nat.add_zero] at g1
    have Hkk:=Lib.hid hkk
    clear hc hkk
    by_cases h8:t.length ≤ 8
    ·by_cases hz:t[0] = 0
     ·have hzb:(t[0] == 0) = true:=by simp [hz]
      have e0:t.getD 0 1 = 0:=by simp [h0,hz]
      have hl:levB t = true:=decide_eq_true ((Hlev.out.lev e0 (by omega) (by rw [Hkk.out];exact Nat.le_refl _)).all h0 (by rw [Hkk.out];exact Nat.le_refl _))
      have Hl:=Lib.hid hl
      clear hz hl e0
      go_wp2_with fail
      go_ret
      exact ⟨by unfold lev8;rw [Hl.out];simp [h8],(by first|exact drewN1 _ _|exact drewN2 _ _ _)⟩
     ·have hzb:(t[0] == 0) = false:=by simp [hz]
      have hl:levB t = false:=decide_eq_false (fun hp => hz (hp.zero h0))
      have Hl:=Lib.hid hl
      clear hz hl
      go_wp2_with fail
      go_ret
      exact ⟨by unfold lev8;rw [Hl.out];simp,(by first|exact drewN1 _ _|exact drewN2 _ _ _)⟩
    ·go_wp2_with fail
     go_ret
     exact ⟨by unfold lev8;simp [h8],(by first|exact drewN1 _ _|exact drewN2 _ _ _)⟩
   ·have ht:t = []:=List.eq_nil_of_length_eq_zero (by omega)
    have Ht:=Lib.hid ht
    have h0':t.length = 0:=by omega
    clear ht
    go_wp2_with fail
    go_ret
    exact ⟨by rw [Ht.out];rfl,(by first|exact drewN1 _ _|exact drewN2 _ _ _)⟩
end Go.Proofs.Ytofpjonggpjneaa
namespace Go.Proofs.Ytofpjonggpjneaa
open Go.RowKit
def brStep (acc:List (List Int)) (l:Int):List (List Int) :=
 (if l = 1 then acc ++ [[]] else acc).set ((if l = 1 then acc ++ [[]] else acc).length - 1) ((if l = 1 then acc ++ [[]] else acc).getD ((if l = 1 then acc ++ [[]] else acc).length - 1) [] ++ [l - 1])
def brTo (t:List Int) (k:Nat):List (List Int):=((t.drop 1).take k).foldl brStep []
def brs (t:List Int):List (List Int):=(t.drop 1).foldl brStep []
theorem brTo_succ (t:List Int) (k:Nat) (h:k + 1 < t.length):brTo t (k + 1) = brStep (brTo t k) t[k + 1]:=by
 unfold brTo
 rw [List.take_succ_eq_append_getElem (by simp;omega),List.foldl_append]
 simp [List.foldl]
theorem brTo_all (t:List Int) (k:Nat) (h:t.length ≤ k + 1):brTo t k = brs t:=by
 unfold brTo brs
 rw [List.take_of_length_le (by simp;omega)]
theorem brStep_one (acc:List (List Int)):brStep acc 1 = acc ++ [[0]]:=by
 unfold brStep
 rw [if_pos rfl]
 simp
theorem brStep_more (acc:List (List Int)) (l:Int) (h:l ≠ 1) (hp:0 < acc.length):brStep acc l = acc.set (acc.length - 1) (acc[acc.length - 1] ++ [l - 1]):=by
 unfold brStep
 rw [if_neg h]
 have e:acc.getD (acc.length - 1) [] = acc[acc.length - 1]:=by
  rw [List.getD_eq_getElem?_getD,List.getElem?_eq_getElem (by omega)];rfl
 rw [e]
theorem brStep_len (acc:List (List Int)) (l:Int):(brStep acc l).length ≤ acc.length + 1:=by
 unfold brStep
 split <;> simp
theorem brTo_len (t:List Int):∀ k,(brTo t k).length ≤ k
 | 0 => by simp [brTo]
 | k + 1 => by
  by_cases h:k + 1 < t.length
  ·rw [brTo_succ t k h]
   have:=brStep_len (brTo t k) t[k + 1]
   have:=brTo_len t k
   omega
  ·have:brTo t (k + 1) = brTo t k:=by
    unfold brTo
    rw [List.take_of_length_le (by simp;omega),List.take_of_length_le (by simp;omega)]
   rw [this]
   have:=brTo_len t k
   omega
theorem brTo_pos {t:List Int} (h:LevP t):∀ k,k + 1 < t.length→0 < (brTo t (k + 1)).length
 | 0,hk => by
  rw [brTo_succ t 0 hk]
  have h1:=h.succ hk
  have h0:=h.zero h.pos
  have e:t[0 + 1] = 1:=by simp at h1 ⊢;omega
  rw [e,brStep_one];simp
 | k + 1,hk => by
  have ih:=brTo_pos h k (by omega)
  rw [brTo_succ t (k + 1) hk]
  by_cases e:t[k + 1 + 1] = 1
  ·rw [e,brStep_one];simp
  ·rw [brStep_more _ _ e ih];simpa using ih
theorem brTo_each (t:List Int):∀ k i (hi:i < (brTo t k).length),((brTo t k)[i]).length ≤ k
 | 0,i,hi => by simp [brTo] at hi
 | k + 1,i,hi => by
  by_cases h:k + 1 < t.length
  ·have key:∀ x ∈ brTo t (k + 1),x.length ≤ k + 1:=by
    have old:∀ x ∈ brTo t k,x.length ≤ k:=by
     intro x hx
     obtain ⟨j,hj,rfl⟩:=List.getElem_of_mem hx
     exact brTo_each t k j hj
    rw [brTo_succ t k h]
    by_cases e:t[k + 1] = 1
    ·rw [e,brStep_one]
     intro x hx
     rcases List.mem_append.1 hx with hx|hx
     ·have:=old x hx;omega
     ·simp at hx;subst hx;simp
    ·by_cases hp:0 < (brTo t k).length
     ·rw [brStep_more _ _ e hp]
      intro x hx
      rcases List.mem_or_eq_of_mem_set hx with hx|rfl
      ·have:=old x hx;omega
      ·have:=old _ (List.getElem_mem (show (brTo t k).length - 1 < (brTo t k).length by omega))
       simp;omega
     ·have e0:brTo t k = []:=List.eq_nil_of_length_eq_zero (by omega)
      rw [e0]
      intro x hx
      unfold brStep at hx
      rw [if_neg e] at hx
      simp at hx
   exact key _ (List.getElem_mem hi)
  ·have e:brTo t (k + 1) = brTo t k:=by
    unfold brTo
    rw [List.take_of_length_le (by simp;omega),List.take_of_length_le (by simp;omega)]
   have:=brTo_each t k i (by rw [← e];exact hi)
   simp only [e];omega
set_option maxRecDepth 100000 in
set_option maxHeartbeats 1000000 in
theorem c_impl_branchesOf (v:Value) (t:List Int) (w:World) (h:Rd (RS RI) w [v] t) (hl:LevP t) (hsz:t.length ≤ 1000000000) :
  Calls Try.prog 127 #[v] w (RetO (RS (RS RI)) w (brs t)):=by
 obtain ⟨oa,c1,I1⟩:=h.ints
 obtain rfl:=I1.val
 have m1:=I1.le;have m2:=I1.capLe
 unfold maxLen at m2
 have hp:=hl.pos
 obtain ⟨b,off,rfl,hb,hc⟩:=I1.get hp
 obtain ⟨ao,hao,haoc⟩:∃ ao,(if c1 = 1 then some (⟨b,off,none⟩:Addr) else some ⟨b,off + 1,none⟩) = ao∧∀ j,j + 1 < t.length→ao = some ⟨b,off + 1,none⟩:=by
  refine ⟨_,rfl,fun j hj => ?_⟩
  rw [if_neg (by omega)]
 go_enter Try.func127,Try.ntmps127
 go_wp2_with fail
 go_loopw [3,10] (fun o i wr => ∃ k:Nat,k + 1 ≤ t.length∧i = .int .i64 k∧(∃ oa cap,o = .slice oa (brTo t k).length cap)∧Own (RS (RS RI)) w.heap.size wr.heap.size wr [o] (brTo t k)∧Below w.heap.size w wr) (fun _ i _ => t.length - (intOf i).toNat)
 case atStart => exact ⟨0,hp,rfl,⟨_,_,rfl⟩,Own.empty (R:=RS RI) (w:=w) 24 w.heap.size (Nat.le_refl _) |>.top _ (by simp),(Below.refl _ _).alloc (Nat.le_refl _) _⟩
 case round =>
  obtain ⟨k,hk,rfl,⟨oa,cap,rfl⟩,hown,hbel⟩:=hrel
  have hsz1:=hbel.size
  by_cases hlt:k + 1 < t.length
  ·obtain rfl:=haoc k hlt
   have Hao:=Lib.hid hao
   have g1:wr.cell? ⟨b,off + 1 + k,none⟩ = some (.int .i64 t[k + 1]):=by
    have e:=(hbel.cell (p:=⟨b,off + (k + 1),none⟩) hb).trans (hc (k + 1) hlt)
    rwa [show off + (k + 1) = off + 1 + k by omega] at e
   have hbd:=hl.bd (k + 1) hlt
   obtain ⟨q1,q2⟩:=hbd
   have hs1:=hl.succ hlt
   obtain ⟨q3,q4⟩:=hs1
   have hnl:=brTo_len t k
   have hlen1:k < t.length - 1:=by omega
   by_cases he:t[k + 1] = 1
   ·have heb:(t[k + 1] == 1) = true:=by simp [he]
    have hnext:brTo t (k + 1) = (brTo t k ++ [[]]).set (brTo t k).length (([]:List Int) ++ [t[k + 1] - 1]):=by
     rw [brTo_succ t k hlt,he,brStep_one];simp
    have Hn:=Lib.hid hnext
    clear hao hc he hnext
    go_wp2_with (at_builtin;refine wpList_snoc (o:=⟨some 18,_,_,_,_,_⟩) rfl _ _ 30 rfl 24 (.slice none 0 0) 1 24 tI64S rfl _ (brTo t k) [] [.slice none 0 0] w.heap.size wr.heap.size wr.heap.size rfl hown (Own.nil _ _) (Nat.le_refl _) hsz1 24 rfl rfl (by omega) (by omega) ?_;intro oa1 cap1 w1 hown1 c1a c1b hbel1;refine Stop.out ?_)
    have hbel2:=hbel.trans hbel1
    have hsz2:=hbel2.size
    have g2:=(hbel1.cell (p:=⟨b,off + 1 + k,none⟩) hb).trans g1
    obtain ⟨g,cap2,h0,m,ds,og,hv,hg1,hg2,hcell,hr0,hm,hog,hK⟩:=Own.inner hown1 (brTo t k).length (by simp) ((brTo t k).length + 1) (by simp)
    simp only [Value.slice.injEq,true_and] at hv
    obtain ⟨rfl,rfl⟩:=hv
    have hm0:m = 0:=by rw [hm];simp
    subst hm0
    have HK:=Lib.hid hK
    clear hK hm g1 hbel1 hbel
    refine Stop.go ?_
    go_wp2_with (refine wpList_append1 (o:=⟨some 32,_,_,_,_,_⟩) rfl _ _ 24 rfl 2 (.int .i64 0) 1 8 tI64 h0 0 ds og rfl hr0 2 [.int .i64 (t[k + 1] - 1)] rfl rfl rfl (by simp [Value.oneCell']) (by omega) (by unfold maxLen;omega) ?_;intro h' w2 og' happ;refine Stop.out ?_)
    obtain ⟨f1,f2,f3,f4⟩:=HK.out (t[k + 1] - 1) [.int .i64 (t[k + 1] - 1)] w1.heap.size w1.heap.size h' w2 og' (Own.int ⟨by omega,by omega⟩) (Nat.le_refl _) happ
    obtain ⟨oa',cap',rfl,_⟩:=happ.1.val
    have f5:=hbel2.trans (f4 hsz2)
    clear f4 happ
    simp only [List.getElem_append_right (Nat.le_refl _),Nat.sub_self,List.getElem_singleton] at f3
    rw [← Hn.out] at f3
    simp only [Nat.zero_add] at f1 f2 f3 f5
    refine Stop.go ?_
    go_wp2_with fail
    go_roundw
    case rel => exact ⟨k + 1,by omega,by go_num,⟨some ⟨g,0,none⟩,cap1,by rw [Hn.out];simp⟩,f3,f5⟩
    case measure => simp [intOf];omega
   ·have heb:(t[k + 1] == 1) = false:=by simp [he]
    have hk0:0 < k:=by
     rcases Nat.eq_zero_or_pos k with rfl|h
     ·have h0:=hl.zero hp
      simp only [Nat.zero_add] at q3 q4 he
      omega
     ·exact h
    have hpos:0 < (brTo t k).length:=by
     obtain ⟨k',rfl⟩:∃ k',k = k' + 1:=⟨k - 1,by omega⟩
     exact brTo_pos hl k' (by omega)
    have hnext:brTo t (k + 1) = (brTo t k).set ((brTo t k).length - 1) ((brTo t k)[(brTo t k).length - 1] ++ [t[k + 1] - 1]):=by
     rw [brTo_succ t k hlt,brStep_more _ _ he hpos]
    have Hn:=Lib.hid hnext
    have hidx:(brTo t k).length - 1 < (brTo t k).length:=by omega
    have hea:=brTo_each t k ((brTo t k).length - 1) hidx
    clear hao hc he hnext
    obtain ⟨g,cap2,h0,m,ds,og,hv,hg1,hg2,hcell,hr0,hm,hog,hK⟩:=Own.inner hown ((brTo t k).length - 1) hidx _ rfl
    obtain ⟨n,hn⟩:∃ n,(brTo t k).length = n + 1:=⟨(brTo t k).length - 1,by omega⟩
    simp only [Value.slice.injEq,true_and] at hv
    obtain ⟨rfl,rfl⟩:=hv
    have HK:=Lib.hid hK
    have Hnn:=Lib.hid hn
    have hml:m ≤ k:=by omega
    have en:(brTo t k).length - 1 = n:=by omega
    rw [en] at hcell
    rw [hn]
    have Hen:=Lib.hid en
    have hnb:n < 1000000000:=by omega
    clear hK hm hn en hea
    go_wp2_with (refine wpList_append1 (o:=⟨some 32,_,_,_,_,_⟩) rfl _ _ 24 rfl 2 (.int .i64 0) 1 8 tI64 h0 m ds og rfl hr0 2 [.int .i64 (t[k + 1] - 1)] rfl rfl rfl (by simp [Value.oneCell']) (by omega) (by unfold maxLen;omega) ?_;intro h' w2 og' happ;refine Stop.out ?_)
    obtain ⟨f1,f2,f3,f4⟩:=HK.out (t[k + 1] - 1) [.int .i64 (t[k + 1] - 1)] wr.heap.size wr.heap.size h' w2 og' (Own.int ⟨by omega,by omega⟩) (Nat.le_refl _) happ
    obtain ⟨oa',cap',rfl,_⟩:=happ.1.val
    have f5:=hbel.trans (f4 hsz1)
    clear f4 happ
    rw [← Hn.out] at f3
    rw [Hen.out] at f1 f2 f3 f5
    refine Stop.go ?_
    go_wp2_with fail
    go_roundw
    case rel => exact ⟨k + 1,by omega,by go_num,⟨some ⟨g,0,none⟩,cap,by rw [Hn.out];simp [Hnn.out]⟩,by rw [← Hnn.out];exact f3,f5⟩
    case measure => simp [intOf];omega
  ·have hfin:brTo t k = brs t:=brTo_all t k (by omega)
   rw [hfin] at hown
   have Hfin:=Lib.hid hfin
   have hke:¬ k < t.length - 1:=by omega
   clear hfin
   go_wp2_with fail
   go_ret
   exact ⟨_,rfl,by rw [Hfin.out];exact hown,hbel⟩
end Go.Proofs.Ytofpjonggpjneaa
namespace Go.Proofs.Ytofpjonggpjneaa
open Go.RowKit
theorem LevP.snoc {x:List Int} {y:Int} (h:LevP x) (h1:1 ≤ y) (h2:y ≤ x.getD (x.length - 1) 0 + 1):LevP (x ++ [y]):=by
 have hp:=h.pos
 refine ⟨?_,fun i hi hi2 => ?_⟩
 ·have:=h.1
  simpa [List.getElem?_append_left hp,hp] using this
 ·simp only [List.length_append,List.length_singleton] at hi hi2
  by_cases hlt:i + 1 < x.length
  ·have:=h.2 i (by omega) hlt
   simpa [List.getD_eq_getElem?_getD,List.getElem?_append_left hlt,List.getElem?_append_left (show i < x.length by omega)] using this
  ·have e:i + 1 = x.length:=by omega
   have e2:i = x.length - 1:=by omega
   rw [e]
   simp only [List.getD_eq_getElem?_getD,List.getElem?_append_right (Nat.le_refl _),Nat.sub_self,List.getElem?_append_left (show i < x.length by omega)]
   rw [e2]
   simpa using ⟨h1,h2⟩
theorem LevP.root:LevP [0]:=by decide
theorem brTo_lev {t:List Int} (h:LevP t):∀ k (hk:k + 1 < t.length),
  (∀ x ∈ brTo t (k + 1),LevP x)∧∀ hl:0 < (brTo t (k + 1)).length,((brTo t (k + 1))[(brTo t (k + 1)).length - 1]).getD (((brTo t (k + 1))[(brTo t (k + 1)).length - 1]).length - 1) 0 = t[k + 1] - 1
 | 0,hk => by
  have h1:=h.succ hk
  have h0:=h.zero h.pos
  have e:t[0 + 1] = 1:=by simp at h1 ⊢;omega
  have e2:brTo t (0 + 1) = [[0]]:=by rw [brTo_succ t 0 hk,e,brStep_one];rfl
  refine ⟨fun x hx => ?_,fun hl => ?_⟩
  ·rw [e2] at hx
   simp at hx;subst hx;exact LevP.root
  ·simp only [e2,e];rfl
 | k + 1,hk => by
  obtain ⟨ih1,ih2⟩:=brTo_lev h k (by omega)
  have hp:=brTo_pos h k (by omega)
  have hs:=h.succ hk
  by_cases e:t[k + 1 + 1] = 1
  ·have e2:brTo t (k + 1 + 1) = brTo t (k + 1) ++ [[0]]:=by rw [brTo_succ t (k + 1) hk,e,brStep_one]
   refine ⟨fun x hx => ?_,fun hl => ?_⟩
   ·rw [e2] at hx
    rcases List.mem_append.1 hx with hx|hx
    ·exact ih1 x hx
    ·simp at hx;subst hx;exact LevP.root
   ·simp only [e2,e,List.length_append,List.length_singleton,Nat.add_sub_cancel,List.getElem_append_right (Nat.le_refl _),Nat.sub_self,List.getElem_singleton]
    rfl
  ·have e2:brTo t (k + 1 + 1) = (brTo t (k + 1)).set ((brTo t (k + 1)).length - 1) ((brTo t (k + 1))[(brTo t (k + 1)).length - 1] ++ [t[k + 1 + 1] - 1]):=by
    rw [brTo_succ t (k + 1) hk,brStep_more _ _ e hp]
   refine ⟨fun x hx => ?_,fun hl => ?_⟩
   ·rw [e2] at hx
    rcases List.mem_or_eq_of_mem_set hx with hx|rfl
    ·exact ih1 x hx
    ·exact LevP.snoc (ih1 _ (List.getElem_mem _)) (by omega) (by rw [ih2 hp];omega)
   ·simp only [e2,List.length_set,List.getElem_set_self,List.length_append,List.length_singleton,Nat.add_sub_cancel]
    simp
theorem brs_lev {t:List Int} (h:LevP t):∀ x ∈ brs t,LevP x:=by
 rw [← brTo_all t (t.length - 1) (by omega)]
 by_cases h1:1 < t.length
 ·have:=(brTo_lev h (t.length - 2) (by omega)).1
  rwa [show t.length - 2 + 1 = t.length - 1 by omega] at this
 ·intro x hx
  have e:t.length - 1 = 0:=by omega
  rw [e] at hx
  simp [brTo] at hx
theorem brs_short {t:List Int} (h:LevP t):∀ x ∈ brs t,x.length + 1 ≤ t.length:=by
 rw [← brTo_all t (t.length - 1) (by omega)]
 intro x hx
 obtain ⟨i,hi,rfl⟩:=List.getElem_of_mem hx
 have:=brTo_each t (t.length - 1) i hi
 have:=h.pos
 omega
theorem brs_many {t:List Int}:(brs t).length ≤ t.length:=by
 rw [← brTo_all t (t.length - 1) (by omega)]
 have:=brTo_len t (t.length - 1)
 omega
theorem in64_wrap (n:Int):In64 (wrap64 n):=by
 unfold In64 wrap64
 omega
def sumW (l:List Int):Int:=l.foldl (fun a v => wrap64 (a + v)) 0
theorem sumW_snoc (l:List Int) (x:Int):sumW (l ++ [x]) = wrap64 (sumW l + x):=by simp [sumW]
def numS:Nat→List Int→Nat→Nat→Nat→Int
 | 0,_,_,_,_ => 0
 | f + 1,t,root,k,gap => (brs t).foldl (fun out b => wrap64 (out * sumW ((List.range (k + 1 - (root + gap))).map fun i => numS f b (root + gap + i) k gap))) 1
def numStep (k step:Nat) (out l:List Int):List Int:=(List.range k).map fun x => wrap64 (out.getD x 0 * sumW (l.drop (x + step)))
def numI:Nat→List Int→Nat→Nat→List Int
 | 0,_,k,_ => List.replicate k 0
 | f + 1,t,k,step => (brs t).foldl (fun out b => numStep k step out (numI f b k step)) (List.replicate k 1)
theorem numStep_len (k step:Nat) (out l:List Int):(numStep k step out l).length = k:=by simp [numStep]
theorem foldl_points {β:Type} (k:Nat) (F:Int→β→Nat→Int):∀ (bs:List β) (g:Nat→Int),
  bs.foldl (fun out b => (List.range k).map fun x => F (out.getD x 0) b x) ((List.range k).map g) = (List.range k).map fun x => bs.foldl (fun o b => F o b x) (g x)
 | [],g => rfl
 | b :: bs,g => by
  rw [List.foldl_cons]
  have e:((List.range k).map fun x => F (((List.range k).map g).getD x 0) b x) = (List.range k).map fun x => F (g x) b x:=by
   apply List.map_congr_left
   intro x hx
   have hx':x < k:=by simpa using hx
   simp [hx']
  rw [e,foldl_points k F bs]
  rfl
theorem numI_eq:∀ (f:Nat) (t:List Int) (k step:Nat),numI f t k step = (List.range k).map fun x => numS f t (x + 1) k step
 | 0,t,k,step => by
  simp only [numI,numS]
  apply List.ext_getElem <;> simp
 | f + 1,t,k,step => by
  have h0:List.replicate k (1:Int) = (List.range k).map fun _ => 1:=by apply List.ext_getElem <;> simp
  simp only [numI]
  rw [h0]
  have:=foldl_points k (fun o (b:List Int) x => wrap64 (o * sumW ((numI f b k step).drop (x + step)))) (brs t) (fun _ => 1)
  unfold numStep
  rw [this]
  apply List.map_congr_left
  intro x hx
  simp only [numS]
  congr 1
  funext o b
  congr 3
  rw [numI_eq f b k step]
  apply List.ext_getElem
  ·simp;omega
  ·intro i h1 h2
   simp
   congr 1
   omega
theorem numI_len (f:Nat) (t:List Int) (k step:Nat):(numI f t k step).length = k:=by rw [numI_eq];simp
def countNum (t:List Int) (k:Int) (gap:Nat):Int × Int :=
 if lev8 t = true then (if inR k 0 10 = true then (sumW (numI 9 t k.toNat gap),0) else (0,2)) else (0,1)
end Go.Proofs.Ytofpjonggpjneaa
namespace Go.Proofs.Ytofpjonggpjneaa
structure Cmp {α:Type} (c:α→α→Int):Prop where
 zero:∀ a b,c a b = 0→a = b
 refl:∀ a,c a a = 0
 anti:∀ a b,c a b < 0 ↔ 0 < c b a
 trans:∀ a b d,c a b ≤ 0→c b d ≤ 0→c a d ≤ 0
section
variable {α:Type} {c:α→α→Int}
def ins (c:α→α→Int) (x:α):List α→List α
 | [] => [x]
 | y :: l => if c x y < 0 then x :: y :: l else y :: ins c x l
theorem Cmp.le_of_not_lt (h:Cmp c) {a b:α} (hn:¬ c a b < 0):c b a ≤ 0:=by
 rw [h.anti] at hn;omega
end
end Go.Proofs.Ytofpjonggpjneaa
namespace Go.Proofs.Ytofpjonggpjneaa
open Go.RowKit
def levOk:Int→List Int→Prop
 | _,[] => True
 | p,x :: xs => 1 ≤ x∧x ≤ p + 1∧levOk x xs
theorem levOk_iff:∀ (xs:List Int) (p:Int),levOk p xs ↔ ∀ i,i < xs.length→1 ≤ (p :: xs).getD (i + 1) 0∧(p :: xs).getD (i + 1) 0 ≤ (p :: xs).getD i 0 + 1
 | [],p => by simp [levOk]
 | x :: xs,p => by
  unfold levOk
  rw [levOk_iff xs x]
  constructor
  ·rintro ⟨h1,h2,h3⟩ i hi
   cases i with
   | zero => simpa using ⟨h1,h2⟩
   | succ i => simpa using h3 i (by simpa using hi)
  ·intro h
   refine ⟨?_,?_,fun i hi => ?_⟩
   ·simpa using (h 0 (by simp)).1
   ·simpa using (h 0 (by simp)).2
   ·simpa using h (i + 1) (by simpa using hi)
theorem LevP_iff (t:List Int):LevP t ↔ ∃ xs,t = 0 :: xs∧levOk 0 xs:=by
 constructor
 ·intro h
  cases t with
  | nil => have:=h.pos;simp at this
  | cons x xs =>
   have h0:=h.zero h.pos
   simp at h0;subst h0
   refine ⟨xs,rfl,(levOk_iff xs 0).2 fun i hi => ?_⟩
   exact h.2 i (by simp;omega) (by simpa using hi)
 ·rintro ⟨xs,rfl,h⟩
  refine ⟨by simp,fun i _ hi => ?_⟩
  exact (levOk_iff xs 0).1 h i (by simpa using hi)
theorem lev8_lev {t:List Int} (h:lev8 t = true):LevP t:=by
 unfold lev8 levB at h
 simp at h
 exact h.2
theorem lev8_len {t:List Int} (h:lev8 t = true):t.length ≤ 8:=by
 unfold lev8 at h
 simp at h
 exact h.1
def levels:Nat→List (List Int)
 | 0 => [[0]]
 | n + 1 => (levels n).flatMap fun t => (List.range (t.getD (t.length - 1) 0 + 1).toNat).map fun (i:Nat) => t ++ [(i:Int) + 1]
theorem mem_levels:∀ (n:Nat) (t:List Int),LevP t→t.length = n + 1→t ∈ levels n
 | 0,t,h,hn => by
  match t,hn with
  | [x],_ =>
   have:=h.zero h.pos
   simp at this
   simp [levels,this]
 | n + 1,t,h,hn => by
  have hp:t.take (n + 1) ++ [t[n + 1]] = t:=by
   rw [← List.take_succ_eq_append_getElem (by omega),List.take_of_length_le (by omega)]
  have hl:LevP (t.take (n + 1)):=by
   obtain ⟨xs,rfl,hx⟩:=(LevP_iff t).1 h
   rw [LevP_iff]
   refine ⟨xs.take n,by simp,?_⟩
   have:∀ (xs:List Int) (p:Int) (n:Nat),levOk p xs→levOk p (xs.take n):=by
    intro xs
    induction xs with
    | nil => intro p n _;simp [levOk]
    | cons x xs ih =>
     rintro p n ⟨h1,h2,h3⟩
     cases n with
     | zero => trivial
     | succ n => exact ⟨h1,h2,ih x n h3⟩
   exact this xs 0 n hx
  have hs:=h.succ (i:=n) (by omega)
  have hb:=h.bd n (by omega)
  rw [levels,List.mem_flatMap]
  refine ⟨t.take (n + 1),mem_levels n _ hl (by simp;omega),?_⟩
  rw [List.mem_map]
  refine ⟨(t[n + 1] - 1).toNat,?_,?_⟩
  ·rw [List.mem_range]
   have e:(t.take (n + 1)).getD ((t.take (n + 1)).length - 1) 0 = t[n]:=by
    have:(t.take (n + 1)).length - 1 = n:=by simp;omega
    rw [this,List.getD_eq_getElem?_getD,List.getElem?_take_of_lt (by omega),List.getElem?_eq_getElem (by omega)];rfl
   rw [e];omega
  ·conv => rhs;rw [← hp]
   congr 2
   omega
def lists8:List (List Int):=(List.range 8).flatMap levels
theorem mem_lists8 {t:List Int} (h:lev8 t = true):t ∈ lists8:=by
 have h1:=lev8_lev h
 have h2:=lev8_len h
 have hp:=h1.pos
 rw [lists8,List.mem_flatMap]
 exact ⟨t.length - 1,by simp;omega,mem_levels _ t h1 (by omega)⟩
theorem lev8_all {p:List Int→Bool} (h:lists8.all p = true) {t:List Int} (ht:lev8 t = true):p t = true :=
 List.all_eq_true.1 h t (mem_lists8 ht)
end Go.Proofs.Ytofpjonggpjneaa
namespace Go.Proofs.Ytofpjonggpjneaa
open Go.RowKit
section
variable {α:Type}
variable {c:α→α→Int}
structure PermIn (a b:Nat) (xs ys:List α):Prop where
 perm:ys.Perm xs
 out:∀ p,(p < a ∨ b ≤ p)→ys[p]? = xs[p]?
theorem PermIn.refl (a b:Nat) (xs:List α):PermIn a b xs xs:=⟨List.Perm.refl _,fun _ _ => rfl⟩
theorem PermIn.trans {a b:Nat} {xs ys zs:List α} (h:PermIn a b xs ys) (k:PermIn a b ys zs):PermIn a b xs zs:=⟨k.perm.trans h.perm,fun p hp => (k.out p hp).trans (h.out p hp)⟩
theorem PermIn.len {a b:Nat} {xs ys:List α} (h:PermIn a b xs ys):ys.length = xs.length:=h.perm.length_eq
theorem PermIn.mono {a b a' b':Nat} {xs ys:List α} (h:PermIn a b xs ys) (h1:a' ≤ a) (h2:b ≤ b'):PermIn a' b' xs ys:=⟨h.perm,fun p hp => h.out p (by omega)⟩
variable {R:Rep α} {w:World}
theorem Own.of_heap {β:Type} {S:Rep β} {w w':World} {cs:List Value} {x:β} {lo hi:Nat} (h:Own S lo hi w cs x) (e:w'.heap = w.heap):Own S lo hi w' cs x :=
 h.frame fun b _ _ => by rw [e]
theorem Rd.of_heap {β:Type} {S:Rep β} {w w':World} {cs:List Value} {x:β} (h:Rd S w cs x) (e:w'.heap = w.heap):Rd S w' cs x :=
 S.rd_mono (S.rd_frame h fun b _ _ => by rw [e]) (fun b hb _ => by rw [e];exact hb)
theorem Chg.of_heap {lo hi:Nat} {w w' w'':World} (h:Chg lo hi w w') (e:w''.heap = w'.heap) (e1:w''.os = w'.os) (e2:w''.tape = w'.tape) (e3:w''.output = w'.output):Chg lo hi w w'' :=
 ⟨e1.trans h.os,e2.trans h.tape,e3.trans h.output,by rw [e];exact h.size,fun k hk hn => by rw [e];exact h.block k hk hn⟩
end
end Go.Proofs.Ytofpjonggpjneaa
namespace Go.Proofs.Ytofpjonggpjneaa
open Go.RowKit
theorem Row.ownI {w:World} {v:Value} {xs:List Int} {og:Option Nat} (h:Row w v 1 xs.length (xs.map (Value.int .i64)) og) (hb:∀ x ∈ xs,In64 x):(RS RI).own w [v] xs og.toList :=
 ⟨v,og,xs.map (Value.int .i64),[],rfl,h,ownL_ints_mk hb,by simp⟩
theorem Row.OwnI {w:World} {v:Value} {xs:List Int} {og:Option Nat} {lo:Nat} (h:Row w v 1 xs.length (xs.map (Value.int .i64)) og) (hb:∀ x ∈ xs,In64 x) (hlo:∀ g,og = some g→lo ≤ g):Own (RS RI) lo w.heap.size w [v] xs :=
 ⟨og.toList,h.ownI hb,by cases og <;> simp,fun b hb' => by have e:og = some b:=by simpa using hb'
                                                           exact ⟨hlo b e,h.lt b e⟩⟩
theorem map_set_int (xs:List Int) (i:Nat) (x:Int):(xs.map (Value.int .i64)).set i (.int .i64 x) = (xs.set i x).map (Value.int .i64):=by
 rw [List.map_set]
theorem set_take (xs ys:List Int) (k:Nat) (hk:k < xs.length) (h2:k < ys.length):(xs.take k ++ ys.drop k).set k xs[k] = xs.take (k + 1) ++ ys.drop (k + 1):=by
 apply List.ext_getElem
 ·simp;omega
 ·intro i h3 h4
  rw [List.getElem_set]
  by_cases hik:k = i
  ·subst hik
   rw [if_pos rfl,List.getElem_append_left (by simp;omega)]
   simp
  ·rw [if_neg hik]
   by_cases hlt:i < k
   ·rw [List.getElem_append_left (by simp;omega),List.getElem_append_left (by simp;omega)]
    simp
   ·rw [List.getElem_append_right (by simp;omega),List.getElem_append_right (by simp;omega)]
    simp
    congr 1
    omega
end Go.Proofs.Ytofpjonggpjneaa
namespace Go.Proofs.Ytofpjonggpjneaa
open Go.RowKit
structure Lists {β:Type} (S:Rep β) (w:World) (v:Value) (xss:List (List β)) (oa:Option Addr) (cap:Nat):Prop where
 val:v = .slice oa xss.length cap
 le:xss.length ≤ cap
 capLe:cap ≤ 9223372036854775807
 noneCap:oa = none→cap = 0
 row:xss = [] ∨ ∃ b off,oa = some ⟨b,off,none⟩∧b < w.heap.size∧∀ j (h:j < xss.length),∃ oi ci,w.cell? ⟨b,off + j,none⟩ = some (.slice oi xss[j].length ci)∧Rd (RS S) w [.slice oi xss[j].length ci] xss[j]∧xss[j].length ≤ ci∧ci ≤ 9223372036854775807
theorem Lists.get {β:Type} {S:Rep β} {w:World} {v:Value} {xss:List (List β)} {oa:Option Addr} {cap:Nat} (h:Lists S w v xss oa cap) {k:Nat} (hk:k < xss.length) :
  ∃ b off,oa = some ⟨b,off,none⟩∧b < w.heap.size∧∀ j (h:j < xss.length),∃ oi ci,w.cell? ⟨b,off + j,none⟩ = some (.slice oi xss[j].length ci)∧Rd (RS S) w [.slice oi xss[j].length ci] xss[j]∧xss[j].length ≤ ci∧ci ≤ 9223372036854775807:=by
 rcases h.row with h|h
 ·subst h;exact absurd hk (Nat.not_lt_zero _)
 ·exact h
section
variable {α:Type} {R:Rep α} {w:World}
end
end Go.Proofs.Ytofpjonggpjneaa
namespace Go.Proofs.Ytofpjonggpjneaa
open Go.RowKit
set_option maxRecDepth 100000 in
set_option maxHeartbeats 1000000 in
theorem c_spec_l03Parts (v:Value) (t:List Int) (w:World) (h:Rd (RS RI) w [v] t) (hl:LevP t) (hsz:t.length ≤ 1000000000) :
  Calls Try.prog 123 #[v] w (RetO (RS (RS RI)) w (brs t)):=by
 obtain ⟨oa,c1,I1⟩:=h.ints
 obtain rfl:=I1.val
 have m1:=I1.le;have m2:=I1.capLe
 unfold maxLen at m2
 have hp:=hl.pos
 obtain ⟨b,off,rfl,hb,hc⟩:=I1.get hp
 go_enter Try.func123,Try.ntmps123
 go_wp2_with fail
 go_loopw [3,4] (fun o i wr => ∃ k:Nat,k + 1 ≤ t.length∧i = .int .i64 (k + 1)∧(∃ oa cap,o = .slice oa (brTo t k).length cap)∧Own (RS (RS RI)) w.heap.size wr.heap.size wr [o] (brTo t k)∧Below w.heap.size w wr) (fun _ i _ => t.length + 1 - (intOf i).toNat)
 case atStart => exact ⟨0,hp,rfl,⟨_,_,rfl⟩,Own.empty (R:=RS RI) (w:=w) 24 w.heap.size (Nat.le_refl _) |>.top _ (by simp),(Below.refl _ _).alloc (Nat.le_refl _) _⟩
 case round =>
  obtain ⟨k,hk,rfl,⟨oa,cap,rfl⟩,hown,hbel⟩:=hrel
  have hsz1:=hbel.size
  by_cases hlt:k + 1 < t.length
  ·have g1:wr.cell? ⟨b,off + (k + 1),none⟩ = some (.int .i64 t[k + 1]):=(hbel.cell (p:=⟨b,off + (k + 1),none⟩) hb).trans (hc (k + 1) hlt)
   have hbd:=hl.bd (k + 1) hlt
   obtain ⟨q1,q2⟩:=hbd
   have hs1:=hl.succ hlt
   obtain ⟨q3,q4⟩:=hs1
   have hnl:=brTo_len t k
   by_cases he:t[k + 1] = 1
   ·have heb:(t[k + 1] == 1) = true:=by simp [he]
    have hnext:brTo t (k + 1) = (brTo t k ++ [[]]).set (brTo t k).length (([]:List Int) ++ [t[k + 1] - 1]):=by
     rw [brTo_succ t k hlt,he,brStep_one];simp
    have Hn:=Lib.hid hnext
    clear hc he hnext
    have hownA:=hown.below (w':=wr.alloc (.cells #[] 2)) ((Below.refl wr.heap.size wr).alloc (Nat.le_refl _) _) (Nat.le_refl _)
    have hnew:=Own.empty (R:=RI) (w:=wr) 2 wr.heap.size (Nat.le_refl _)
    go_wp2_with (at_builtin;refine wpList_snoc (o:=⟨some 21,_,_,_,_,_⟩) (w:=wr.alloc (.cells #[] 2)) rfl _ _ 30 rfl 24 (.slice none 0 0) 1 24 tI64S rfl _ (brTo t k) [] [.slice (some ⟨wr.heap.size,0,none⟩) 0 0] w.heap.size wr.heap.size (wr.heap.size + 1) rfl hownA hnew (by simp) hsz1 24 rfl (by simp) (by omega) (by omega) ?_;intro oa1 cap1 w1 hown1 c1a c1b hbel1;refine Stop.out ?_)
    have hbel2:=hbel.trans ((((Below.refl w.heap.size wr).alloc hsz1 _).trans hbel1))
    have hsz2:=hbel2.size
    have g2:=(hbel2.cell (p:=⟨b,off + (k + 1),none⟩) hb).trans (I1.row.resolve_left (by intro e;rw [e] at hp;simp at hp) |> fun ⟨b',o',e,_,h⟩ => by cases e;exact h (k + 1) hlt)
    obtain ⟨g,cap2,h0,m,ds,og,hv,hg1,hg2,hcell,hr0,hm,hog,hK⟩:=Own.inner hown1 (brTo t k).length (by simp) ((brTo t k).length + 1) (by simp)
    simp only [Value.slice.injEq,true_and] at hv
    obtain ⟨rfl,rfl⟩:=hv
    have hm0:m = 0:=by rw [hm];simp
    subst hm0
    have HK:=Lib.hid hK
    have hi1:(0:Int) ≤ (k:Int) + 1:=by omega
    have hi2:(k:Int) + 1 < (t.length:Int):=by omega
    have hi3:(0:Int) ≤ ((brTo t k).length:Int):=by omega
    have hi4:((brTo t k).length:Int) < ((brTo t k).length:Int) + 1:=by omega
    have hi5:((k:Int) + 1).toNat = k + 1:=by omega
    clear hK hm g1 hbel1 hbel hownA hnew
    refine Stop.go ?_
    go_wp2_with fail
    have hwr:IntKind.i64.wrap (t[k + 1] - 1) = t[k + 1] - 1:=IntWalk.i64_in _ (by omega)
    go_region_law ((refine step_append1 (w:=w1) (by rfl) _ _ 24 (by rfl) 2 (.int .i64 0) 1 8 tI64 h0 0 ds og (by rfl) hr0 2 [.int .i64 (t[k + 1] - 1)] (by rfl) (by simp) (by rfl) (by simp [Value.oneCell']) (by omega) (by unfold maxLen;omega) ⟨rfl,rfl,rfl,rfl⟩ ?_;intro h' w2 og' happ;obtain ⟨f1,f2,f3,f4⟩:=HK.out (t[k + 1] - 1) [.int .i64 (t[k + 1] - 1)] w1.heap.size w1.heap.size h' w2 og' (Own.int ⟨by omega,by omega⟩) (Nat.le_refl _) happ;obtain ⟨oa',cap',rfl,_⟩:=happ.1.val))
    all_goals
     have f5:=hbel2.trans (f4 hsz2)
     clear f4 happ hwr
     simp only [List.getElem_append_right (Nat.le_refl _),Nat.sub_self,List.getElem_singleton] at f3
     rw [← Hn.out] at f3
     simp only [Nat.zero_add] at f1 f2 f3 f5
     go_wp2_with fail
     go_roundw
     case rel => exact ⟨k + 1,by omega,by go_num,⟨some ⟨g,0,none⟩,cap1,by rw [Hn.out];simp⟩,f3,f5⟩
     case measure => simp [intOf];omega
   ·have heb:(t[k + 1] == 1) = false:=by simp [he]
    have hk0:0 < k:=by
     rcases Nat.eq_zero_or_pos k with rfl|h
     ·have h0:=hl.zero hp
      simp only [Nat.zero_add] at q3 q4 he
      omega
     ·exact h
    have hpos:0 < (brTo t k).length:=by
     obtain ⟨k',rfl⟩:∃ k',k = k' + 1:=⟨k - 1,by omega⟩
     exact brTo_pos hl k' (by omega)
    have hnext:brTo t (k + 1) = (brTo t k).set ((brTo t k).length - 1) ((brTo t k)[(brTo t k).length - 1] ++ [t[k + 1] - 1]):=by
     rw [brTo_succ t k hlt,brStep_more _ _ he hpos]
    have Hn:=Lib.hid hnext
    have hidx:(brTo t k).length - 1 < (brTo t k).length:=by omega
    have hea:=brTo_each t k ((brTo t k).length - 1) hidx
    clear hc he hnext
    obtain ⟨g,cap2,h0,m,ds,og,hv,hg1,hg2,hcell,hr0,hm,hog,hK⟩:=Own.inner hown ((brTo t k).length - 1) hidx _ rfl
    obtain ⟨n,hn⟩:∃ n,(brTo t k).length = n + 1:=⟨(brTo t k).length - 1,by omega⟩
    simp only [Value.slice.injEq,true_and] at hv
    obtain ⟨rfl,rfl⟩:=hv
    have HK:=Lib.hid hK
    have Hnn:=Lib.hid hn
    have hml:m ≤ k:=by omega
    have en:(brTo t k).length - 1 = n:=by omega
    rw [en] at hcell
    rw [hn]
    have Hen:=Lib.hid en
    have hnb:n < 1000000000:=by omega
    have hi1:(0:Int) ≤ (k:Int) + 1:=by omega
    have hi2:(k:Int) + 1 < (t.length:Int):=by omega
    have hi3:(0:Int) ≤ (n:Int):=by omega
    have hi4:(n:Int) < (n:Int) + 1:=by omega
    have hi5:((k:Int) + 1).toNat = k + 1:=by omega
    clear hK hm hn en hea
    go_wp2_with fail
    have hwr:IntKind.i64.wrap (t[k + 1] - 1) = t[k + 1] - 1:=IntWalk.i64_in _ (by omega)
    go_region_law ((refine step_append1 (w:=wr) (by rfl) _ _ 24 (by rfl) 2 (.int .i64 0) 1 8 tI64 h0 m ds og (by rfl) hr0 2 [.int .i64 (t[k + 1] - 1)] (by rfl) (by simp) (by rfl) (by simp [Value.oneCell']) (by omega) (by unfold maxLen;omega) ⟨rfl,rfl,rfl,rfl⟩ ?_;intro h' w2 og' happ;obtain ⟨f1,f2,f3,f4⟩:=HK.out (t[k + 1] - 1) [.int .i64 (t[k + 1] - 1)] wr.heap.size wr.heap.size h' w2 og' (Own.int ⟨by omega,by omega⟩) (Nat.le_refl _) happ;obtain ⟨oa',cap',rfl,_⟩:=happ.1.val;rw [Hen.out] at f1 f2))
    all_goals
     have f5:=hbel.trans (f4 hsz1)
     clear f4 happ hwr
     rw [← Hn.out] at f3
     rw [Hen.out] at f3 f5
     go_wp2_with fail
     go_roundw
     case rel => exact ⟨k + 1,by omega,by go_num,⟨some ⟨g,0,none⟩,cap,by rw [Hn.out];simp [Hnn.out]⟩,by rw [← Hnn.out];exact f3,f5⟩
     case measure => simp [intOf];omega
  ·have hfin:brTo t k = brs t:=brTo_all t k (by omega)
   rw [hfin] at hown
   have Hfin:=Lib.hid hfin
   clear hfin
   go_wp2_with fail
   go_ret
   exact ⟨_,rfl,by rw [Hfin.out];exact hown,hbel⟩
end Go.Proofs.Ytofpjonggpjneaa
namespace Go.Proofs.Ytofpjonggpjneaa
open Go.RowKit
def OwnF {α:Type} (R:Rep α) (F:List Nat) (w:World) (cs:List Value) (x:α):Prop:=R.own w cs x F∧F.Nodup
theorem OwnF.of {α:Type} {R:Rep α} {lo hi:Nat} {w:World} {cs:List Value} {x:α} (h:Own R lo hi w cs x):∃ F,OwnF R F w cs x∧∀ b,b ∈ F→lo ≤ b∧b < hi :=
 let ⟨F,h1,h2,h3⟩:=h;⟨F,⟨h1,h2⟩,h3⟩
theorem OwnF.to {α:Type} {R:Rep α} {lo hi:Nat} {F:List Nat} {w:World} {cs:List Value} {x:α} (h:OwnF R F w cs x) (hb:∀ b,b ∈ F→lo ≤ b∧b < hi):Own R lo hi w cs x:=⟨F,h.1,h.2,hb⟩
theorem OwnF.frame {α:Type} {R:Rep α} {F:List Nat} {w w':World} {cs:List Value} {x:α} (h:OwnF R F w cs x) (hf:∀ b,b ∈ F→w'.heap[b]? = w.heap[b]?):OwnF R F w' cs x:=⟨R.own_frame h.1 hf,h.2⟩
theorem OwnF.lt {α:Type} {R:Rep α} {F:List Nat} {w:World} {cs:List Value} {x:α} (h:OwnF R F w cs x):∀ b,b ∈ F→b < w.heap.size:=R.own_lt h.1
theorem OwnF.rd {α:Type} {R:Rep α} {F:List Nat} {w:World} {cs:List Value} {x:α} (h:OwnF R F w cs x):Rd R w cs x:=R.rd_mono (R.own_rd h.1) (fun _ _ h => h)
structure ChgF (F:List Nat) (w w':World):Prop where
 os:w'.os = w.os
 tape:w'.tape = w.tape
 output:w'.output = w.output
 size:w.heap.size ≤ w'.heap.size
 block:∀ k,k < w.heap.size→k ∉ F→w'.heap[k]? = w.heap[k]?
theorem ChgF.refl (F:List Nat) (w:World):ChgF F w w:=⟨rfl,rfl,rfl,Nat.le_refl _,fun _ _ _ => rfl⟩
theorem ChgF.of_grown {w w':World} {og:Option Nat} (h:w.grownBy w' og):ChgF og.toList w w':=⟨h.os,h.tape,h.output,h.size,fun k hk hn => h.block k hk (fun e => hn (by simp [← e]))⟩
theorem ChgF.mono {F G:List Nat} {w w':World} (h:ChgF F w w') (hs:∀ b,b ∈ F→b ∈ G):ChgF G w w':=⟨h.os,h.tape,h.output,h.size,fun k hk hn => h.block k hk (fun e => hn (hs k e))⟩
theorem ChgF.trans {F:List Nat} {a b c:World} (h:ChgF F a b) (k:ChgF F b c):ChgF F a c :=
 ⟨k.os.trans h.os,k.tape.trans h.tape,k.output.trans h.output,Nat.le_trans h.size k.size,fun i hi hn => (k.block i (Nat.lt_of_lt_of_le hi h.size) hn).trans (h.block i hi hn)⟩
theorem ChgF.below {F:List Nat} {w w':World} {B:Nat} (h:ChgF F w w') (hB:B ≤ w.heap.size) (hF:∀ b,b ∈ F→B ≤ b):Below B w w' :=
 ⟨h.os,h.tape,h.output,h.size,fun k hk => h.block k (by omega) (fun e => by have:=hF k e;omega)⟩
section
variable {α:Type} {R:Rep α} {w:World}
end
theorem Rd.lit {α:Type} {R:Rep α} {w W:World} {ds:List Value} {xs:List α} {E:TypeId} (h:rdL R (fun b => b < w.heap.size) w ds xs) (e:W.heap = (w.alloc (.cells ds.toArray E)).heap) (hn:xs.length ≤ maxLen) :
  Rd (RS R) W [.slice (some ⟨w.heap.size,0,none⟩) xs.length xs.length] xs:=by
 refine Rd.of_heap (w:=w.alloc (.cells ds.toArray E)) ?_ e
 have hb:Below w.heap.size w (w.alloc (.cells ds.toArray E)):=(Below.refl _ _).alloc (Nat.le_refl _) _
 refine ⟨some ⟨w.heap.size,0,none⟩,xs.length,ds,rfl,Nat.le_refl _,hn,by simp,?_,.inr ⟨w.heap.size,0,rfl,by simp,fun j u hj => ?_⟩⟩
 ·exact (h.frame (fun b h1 _ => hb.block b h1)).mono (fun b h1 h2 => h2)
 ·rw [Nat.zero_add,World.cell?_alloc_at _ _ _ _ rfl]
  simpa using hj
end Go.Proofs.Ytofpjonggpjneaa
namespace Go.Proofs.Ytofpjonggpjneaa
open Go.RowKit
theorem mixed_ok:Try.prog.follows .mixedOrders = true:=by kernel_rfl
section
variable {P:Program} {f:FuncId}
theorem arg_int {A:Nat→Prop} {w:World} {n:Int} {v:Value} (h:relArg A w (eI n) v):v = .int .i64 n:=(rdV_int.1 h).1
end
def Rg {α:Type} (R:Rep α) (lo hi:Nat) (w:World) (cs:List Value) (x:α):Prop:=R.rd (fun b => lo ≤ b∧b < hi) w cs x
theorem Rg.rd {α:Type} {R:Rep α} {lo hi:Nat} {w:World} {cs:List Value} {x:α} (h:Rg R lo hi w cs x):Rd R w cs x:=R.rd_mono h (fun _ _ h => h)
theorem Rg.frame {α:Type} {R:Rep α} {lo hi:Nat} {w w':World} {cs:List Value} {x:α} (h:Rg R lo hi w cs x) (hf:∀ b,lo ≤ b→b < hi→b < w.heap.size→w'.heap[b]? = w.heap[b]?):Rg R lo hi w' cs x:=R.rd_frame h (fun b hb hl => hf b hb.1 hb.2 hl)
theorem Rg.below {α:Type} {R:Rep α} {lo hi B:Nat} {w w':World} {cs:List Value} {x:α} (h:Rg R lo hi w cs x) (hb:Below B w w') (hB:hi ≤ B):Rg R lo hi w' cs x:=h.frame (fun b _ h2 _ => hb.block b (by omega))
theorem Rg.apart {α:Type} {R:Rep α} {w w':World} {cs:List Value} {x:α} {lo hi l h:Nat} (o:Rg R l h w cs x) (c:Chg lo hi w w') (ha:h ≤ lo ∨ hi ≤ l):Rg R l h w' cs x:=o.frame (fun b h1 h2 h3 => c.block b h3 (by omega))
section
variable {P:Program} {f:FuncId} {α:Type} {R:Rep α} {e:α→List D}
theorem AFn.one {ds:List (List D)} {v:Value} {d:D} (hd:∀ A w u,rdV A w u d→u = v) (h:AFn P f ds (· = [.val d])) {w:World} {vs:List Value} (hv:relArgs (· < w.heap.size) w ds vs) :
  Calls P f vs.toArray w (RetV w v):=by
 refine (h.fn _ w vs (fun _ h => h) hv).mono ?_
 rintro e' w' ⟨v',rs,rfl,rfl,hb,us,G,X,rfl,hG,hG2,u,us',G1,G2,Y1,Y2,rfl,rfl,rfl,h1,⟨h4,_,_⟩,rfl,rfl,rfl⟩
 rw [hd _ _ _ h4]
 exact ⟨rfl,hb⟩
theorem args1 {w:World} {a:List D} {u:Value} (h:relArg (· < w.heap.size) w a u):relArgs (· < w.heap.size) w [a] [u]:=⟨u,[],rfl,h,rfl⟩
end
end Go.Proofs.Ytofpjonggpjneaa
namespace Go.Proofs.Ytofpjonggpjneaa
open Go.RowKit
theorem Row.take {w:World} {k n m cap:Nat} {ds:List Value} {og:Option Nat} (h:Row w (slv og n cap) k n ds og) (hm:m ≤ n):Row w (slv og m cap) k m (ds.take (m * k)) og:=by
 refine ⟨by rw [List.length_take,h.1];exact Nat.min_eq_left (Nat.mul_le_mul_right k hm),?_⟩
 rcases h.2 with ⟨h1,h2,h3⟩|⟨g,c,cur,e,h1,h2,h3,h4,h5,h6,h7⟩
 ·subst h3
  exact .inl ⟨rfl,by omega,rfl⟩
 ·subst h2
  have hc:cap = c:=by
   unfold slv at h1
   simp only [Value.slice.injEq] at h1
   exact h1.2.2
  subst hc
  refine .inr ⟨g,cap,cur,e,rfl,rfl,h3,by omega,h5,h6,?_⟩
  rw [← h7,List.take_take,Nat.min_eq_left (Nat.mul_le_mul_right k hm)]
section
variable {P:Program} {cfg:Cfg} {M:Nat→Prop} {w0:W0} {w w':World} {Ok:Nat→Prop} {N:Nat} {σ:Asg} {s:St} {a:Act} {ops:Array Oper}
theorem RunK.regCut (C:CfgOK P cfg) (T:Tab P) {fs:List Fr} {Q:Exit→St→Prop} {id:Nat} (n:Nat) {s1:St} (ha:Work (aopsT cfg T ops (ops.toList.take n) s) (some s1))
  (h:ROps P cfg M ops (ops.toList.drop n) (outK P cfg M fs Q .normal) s1):RunK P cfg M (.region id ops false) fs Q s:=by
 refine Runs.region ?_
 have e:ops.toList = ops.toList.take n ++ ops.toList.drop n:=(List.take_append_drop n _).symm
 have cut:∀ (l m:List Oper) (s:St),aopsT cfg T ops l s = some s1→ROps P cfg M ops m (outK P cfg M fs Q .normal) s1→ROps P cfg M ops (l ++ m) (outK P cfg M fs Q .normal) s:=by
  intro l
  induction l with
  | nil => intro m s h1 h2;simp only [aopsT,Option.some.injEq] at h1;subst h1;exact h2
  | cons o l ih =>
   intro m s h1 h2
   simp only [aopsT] at h1
   obtain ⟨s2,h3,h4⟩:=bind_some h1
   exact ROps.stepT C h3 (ih m s2 h4 h2)
 rw [e]
 exact cut _ _ s ha h
end
end Go.Proofs.Ytofpjonggpjneaa
namespace Go.Proofs.Ytofpjonggpjneaa
open Go.RowKit
section
variable {P:Program} {cfg:Cfg} {w0:W0} {w w':World} {Ok:Nat→Prop} {N:Nat} {σ σ':Asg} {s s':St} {a:Act} {M:Nat→Prop}
theorem relArgs.split {A:Nat→Prop}:∀ {pre:List (List D)} {ds:List (List D)} {vs:List Value},relArgs A w (pre ++ ds) vs→∃ vs1 vs2,vs = vs1 ++ vs2∧relArgs A w pre vs1∧relArgs A w ds vs2
 | [],ds,vs,h => ⟨[],vs,rfl,rfl,h⟩
 | d :: pre,ds,vs,⟨v,us,e,h1,h2⟩ => by
  obtain ⟨us1,us2,e2,h3,h4⟩:=relArgs.split h2
  subst e2;subst e
  exact ⟨v :: us1,us2,rfl,⟨v,us1,rfl,h1,h3⟩,h4⟩
theorem relArgs.join {A:Nat→Prop}:∀ {pre:List (List D)} {ds:List (List D)} {vs1 vs2:List Value},relArgs A w pre vs1→relArgs A w ds vs2→relArgs A w (pre ++ ds) (vs1 ++ vs2)
 | [],ds,vs1,vs2,h,k => by rw [show vs1 = [] from h];exact k
 | d :: pre,ds,vs1,vs2,⟨v,us,e,h1,h2⟩,k => by
  subst e
  exact ⟨v,us ++ vs2,rfl,h1,relArgs.join h2 k⟩
theorem Bel.nil (h:Bel ⟨w,fun b => (none:Option Nat) = some b⟩ w'):Below w.heap.size w w' :=
 ⟨h.os,h.tape,h.output,h.size,fun i hi => h.block i hi (fun e => nomatch e)⟩
theorem AOw.nil {g:FuncId} {pre post:List (List D)} {k:Nat} {Q:List Res→Prop} (h:AOw P g pre k [] post Q) (hk:0 < k):AFn P g (pre ++ [.raw (.slice none 0 0)] :: post) Q:=by
 refine ⟨h.call,fun A w vs hA hr => ?_⟩
 obtain ⟨vs1,vs2,e,h1,v,us,e2,h2,h3⟩:=relArgs.split hr
 subst e2;subst e
 obtain ⟨rfl,_⟩:=rdV_raw.1 (show rdV A w v (.raw (.slice none 0 0)) from h2)
 refine (h.fn A w vs1 us none 0 [] hA h1 h3 ⟨(Nat.zero_mul k).symm,.inl ⟨rfl,rfl,rfl⟩⟩ hk (by first|exact ⟨0,hk,rfl⟩|exact ⟨0,hk,trivial⟩|exact ⟨0,hk,by simp [rdL]⟩) (fun b e => nomatch e)).mono ?_
 rintro e w' ⟨v,rs,rfl,hQ,hb,ho⟩
 have e:(W0.mine ⟨w,fun b => (none:Option Nat) = some b⟩) = fun b => w.heap.size ≤ b:=by funext b;simp [W0.mine]
 rw [e] at ho
 exact ⟨v,rs,rfl,hQ,hb.nil,ho⟩
end
end Go.Proofs.Ytofpjonggpjneaa
namespace Go.Proofs.Ytofpjonggpjneaa
open Go.RowKit
def rowA:Obj→Option (List AC)
 | .lit _ [r] => some r
 | .row _ [r] _ => some (r.map .val)
 | _ => none
section
variable {P:Program} {cfg:Cfg} {M:Nat→Prop} {ops:Array Oper} {s s':St} {w0:W0} {w:World} {Ok:Nat→Prop} {N:Nat} {σ:Asg} {a:Act} {fs:List Fr} {Q:Exit→St→Prop} {T:Tab P} {H:List (Nat × Obj)}
theorem rdCs.toA:∀ {x:List D} {us:List Value},rdCs (Zn σ H w) w us x→relCs σ H w (x.map .val) us
 | [],us,h => List.eq_nil_of_length_eq_zero (by rw [h.len];rfl)
 | y :: x,us,h => by
  obtain ⟨u,us',rfl,h3,h4⟩:=h.cons_inv
  exact ⟨u,us',rfl,h3.one,h3,rdCs.toA h4⟩
theorem relCs.len:∀ {x:List AC} {us:List Value},relCs σ H w x us→us.length = x.length
 | [],_,h => by rw [show _ = [] from h];rfl
 | y :: x,_,⟨u,us',e,_,_,h⟩ => by rw [e,List.length_cons,List.length_cons,relCs.len h]
theorem Sim.rowA (h:Sim w0 Ok N σ s a w) {key:Nat} {o:Obj} (hk:look key s.heap = some o) {r:List AC} (hr:rowA o = some r) :
  o.len = 1∧0 < o.k∧∃ us,us.length = o.k∧Row w (slv (σ.g key) o.len (σ.cap key)) o.k o.len us (σ.g key)∧relCs σ s.heap w r us:=by
 unfold Go.Proofs.Ytofpjonggpjneaa.rowA at hr
 split at hr
 ·rename_i k r'
  cases hr
  obtain ⟨ds,hrow,hkp,hel⟩:=(h.rows key _ hk).row
  obtain ⟨c,d,e,hl,hc,hd⟩:=(show relRs σ s.heap w k [r] ds from hel)
  have hd:d = []:=hd
  subst hd
  rw [List.append_nil] at e
  subst e
  exact ⟨rfl,hkp,ds,hl,hrow,hc⟩
 ·rename_i k r' d
  cases hr
  obtain ⟨ds,hrow,hkp,hel⟩:=RowOK.rd h.ok1 h.rows h.disj hk
  obtain ⟨c,e,e1,hl,hcl,hc,he⟩:=hel.cons_inv
  have he:e = []:=by
   have h1:=hrow.1
   rw [e1,List.length_append,hcl] at h1
   simp only [List.length_cons,List.length_nil] at h1
   exact List.eq_nil_of_length_eq_zero (by omega)
  subst he
  rw [List.append_nil] at e1
  subst e1
  exact ⟨rfl,hkp,ds,hcl,hrow,hc.toA⟩
 ·cases hr
theorem ROps.cut (C:CfgOK P cfg) (T:Tab P) (n:Nat) {l:List Oper} {Q:St→Prop} {s1:St} (ha:Work (aopsT cfg T ops (l.take n) s) (some s1)) (h:ROps P cfg M ops (l.drop n) Q s1):ROps P cfg M ops l Q s:=by
 have ha:aopsT cfg T ops (l.take n) s = some s1:=ha
 have cut:∀ (l m:List Oper) (s:St),aopsT cfg T ops l s = some s1→ROps P cfg M ops m Q s1→ROps P cfg M ops (l ++ m) Q s:=by
  intro l
  induction l with
  | nil => intro m s h1 h2;simp only [aopsT,Option.some.injEq] at h1;subst h1;exact h2
  | cons o l ih =>
   intro m s h1 h2
   simp only [aopsT] at h1
   obtain ⟨s2,h3,h4⟩:=bind_some h1
   exact ROps.stepT C h3 (ih m s2 h4 h2)
 have:=cut _ _ s ha h
 rwa [List.take_append_drop] at this
theorem relCs.toD:∀ {x:List D} {us:List Value},relCs σ H w (x.map .val) us→rdCs (Zn σ H w) w us x
 | [],us,h => by rw [show us = [] from h];exact rdCs.nil
 | y :: x,_,⟨u,us',e,_,h2,h⟩ => by rw [e];exact rdCs.cons h2 (relCs.toD h)
structure AFnS (P:Program) (f:FuncId) (ds:List (List D)) (cs:List D):Prop where
 call:∀ args w,(callFunc f args).run P w = .ok (.enter f args) w
 fn:∀ (A:Nat→Prop) w vs,(∀ b,A b→b < w.heap.size)→relArgs A w ds vs→Calls P f vs.toArray w (fun e w' => ∃ us,e = .returned (.agg us.toArray)∧Below w.heap.size w w'∧rdCs (fun b => A b ∨ w.heap.size ≤ b) w' us cs)
def EndsS (cfg:Cfg) (fn:Func) (cs:List D) (e:Exit) (s:St):Prop :=
 (e = .normal ∨ e = .ret)∧∃ t ty key o z,fn.results = #[.cell t ty]∧look t s.regs = some (.optr key 0 0)∧look key s.heap = some o∧rowA o = some (cs.map .val)∧cfg.ty ty = some (z,true)∧z.length = cs.length
theorem AFnS.of_runs (C:CfgOK P cfg) {f:FuncId} {fn:Func} {c:Code} (hf:P.funcs[f]? = some fn) (hb:fn.body = some c) (hname:(fn.name == "runtime.NumGoroutine") = false) (hN:fn.ntmps = cfg.N) {ds:List (List D)} (hd:ds.length ≤ fn.ntmps) {cs:List D}
  (h:∀ M,Runs P cfg M c (EndsS cfg fn cs) ⟨argRegs 0 ds,[]⟩):AFnS P f ds cs:=by
 refine ⟨enters_of hf hname hb,fun A w vs hA hv => ?_⟩
 have hlen:=hv.len
 refine calls_of_wp hf hb ?_
 have hS:=start_sim (A:=A) (N:=cfg.N) (n:=fn.ntmps - vs.length) hv (by omega)
 refine h _ ⟨w,fun _ => False⟩ A _ _ w _ rfl (by simpa using hS) (fun e s' hE σ' a' w' hS' => ?_)
 obtain ⟨he,t,ty,key,o,z,hres,ht,hk,hr,hty,hzl⟩:=hE
 obtain ⟨zv,ti,d,t1,t2,t3,t4,t5,t6,t7,t8⟩:=C.ty ty z true hty
 obtain ⟨hlen1,hkp,us,hul,hrow,hus⟩:=hS'.rowA hk hr
 obtain ⟨_,b,hg,ep⟩:=hS'.regs t _ ht o hk
 rw [Nat.zero_mul,Nat.zero_add] at ep
 rw [hg] at hrow
 have hrd:=hus.toD
 have hcl:us.length = cs.length:=hrd.len
 have hrange:w'.rangeAt b 0 us:=fun q v hq => by rw [Nat.zero_add];exact hrow.cells q v hq
 have hi:(P.info? ty).map (·.size) = some us.length:=by rw [t1,hcl,← hzl,← t3];rfl
 have hload:(loadVar ty ⟨b,0,none⟩).run P w' = .ok (.agg us.toArray) w':=run_loadVar_mid w' b 0 ty us d hrange t6 t7 hi
 have ep':a'.tmps.getD t undef = .pointer (some ⟨b,0,none⟩):=ep
 have hrun:(results fn a'.tmps).run P w' = .ok (.agg us.toArray) w':=by
  unfold results
  rw [hres,Array.mapM_eq_mapM_toList]
  rw [Array.getD_eq_getD_getElem?] at ep'
  simp [ep',asAddr,hload]
 have hm:∀ b,Zn σ' s'.heap w' b→b < w'.heap.size→A b ∨ w.heap.size ≤ b:=fun b hb _ => by
  rcases hS'.ok2 b hb.2.1 with h1|h1
  ·exact .inl h1
  ·rcases h1 with h1|h1
   ·exact .inr h1
   ·exact h1.elim
 have hfin:a'.defers = []∧∃ v,(results fn a'.tmps).run P w' = .ok v w'∧∃ us,Ending.returned v = .returned (.agg us.toArray)∧Below w.heap.size w w'∧rdCs (fun b => A b ∨ w.heap.size ≤ b) w' us cs:=⟨hS'.defers,_,hrun,us,rfl,hS'.below.below,hrd.mono hm⟩
 rcases he with rfl|rfl <;> exact hfin
end
end Go.Proofs.Ytofpjonggpjneaa
namespace Go.Proofs.Ytofpjonggpjneaa
open Go.RowKit
def nxtH (h:Int):Int:=IntKind.u64.wrap (IntKind.u64.wrap (h * 6364136223846793005) + 1442695040888963407)
def nxtB (h:Int):Int:=wrap64 (bits BinOp.and IntKind.u64 (nxtH h / 8589934592) 16777215)
def nxtX (code:List Int) (i:Nat) (h:Int):Int:=if hi:i < code.length then wrap64 (nxtB h + code[i]) else nxtB h
def nxtF (code:List Int) (s:Nat × Int) (n:Int):Int × Nat × Int:=if n < 1 then (0,s) else ((nxtX code s.1 s.2).tmod n,if s.1 < code.length then s.1 + 1 else s.1,nxtH s.2)
theorem nxtB_bd (h:Int):0 ≤ nxtB h∧nxtB h ≤ 16777215:=by
 have h0:0 ≤ nxtH h∧nxtH h < 18446744073709551616:=by unfold nxtH IntKind.wrap;simp [IntKind.signed,IntKind.bits];omega
 have e:=bits_and_u64_nat (nxtH h / 8589934592).toNat 16777215 (by omega) (by omega)
 have e1:(((nxtH h / 8589934592).toNat:Nat):Int) = nxtH h / 8589934592:=by omega
 rw [e1] at e
 have hle:(nxtH h / 8589934592).toNat &&& 16777215 ≤ 16777215:=Nat.and_le_right
 unfold nxtB
 have e2:((16777215:Nat):Int) = 16777215:=rfl
 rw [e2] at e
 rw [e]
 unfold wrap64
 omega
theorem nxtX_bd {code:List Int} (hc:∀ c ∈ code,0 ≤ c∧c < 256) (i:Nat) (h:Int):0 ≤ nxtX code i h∧nxtX code i h ≤ 16777470:=by
 have h1:=nxtB_bd h
 unfold nxtX
 split
 ·rename_i hi
  have h2:=hc code[i] (List.getElem_mem _)
  unfold wrap64
  omega
 ·omega
theorem nxtF_bd {code:List Int} (hc:∀ c ∈ code,0 ≤ c∧c < 256) (s:Nat × Int) (n:Int):0 ≤ (nxtF code s n).1∧((nxtF code s n).1 < n ∨ (n < 1∧(nxtF code s n).1 = 0)):=by
 unfold nxtF
 split
 ·rename_i h;exact ⟨Int.le_refl _,.inr ⟨h,rfl⟩⟩
 ·rename_i h
  have h1:=nxtX_bd hc s.1 s.2
  show 0 ≤ (nxtX code s.1 s.2).tmod n∧((nxtX code s.1 s.2).tmod n < n ∨ _)
  rw [Int.tmod_eq_emod_of_nonneg h1.1]
  exact ⟨Int.emod_nonneg _ (by omega),.inl (Int.emod_lt_of_pos _ (by omega))⟩
def Byt (w:World) (b:Nat) (oa:Option Addr) (code:List Int):Prop:=(∀ c ∈ code,0 ≤ c∧c < 256)∧(code = [] ∨ ∃ b2 off,oa = some ⟨b2,off,none⟩∧b2 ≠ b∧∀ i (h:i < code.length),w.cell? ⟨b2,off + i,none⟩ = some (.int .u8 code[i]))
theorem row_set {w:World} {b k cap0:Nat} {ds:List Value} (hr:Row w (slv (some b) 1 cap0) k 1 ds (some b)) (j:Nat) (u:Value):Row (w.setCell ⟨b,j,none⟩ u) (slv (some b) 1 cap0) k 1 (ds.set j u) (some b):=(hr.store j u).1
theorem bel_set {w0:World} {w:World} {b:Nat} (h:Bel ⟨w0,fun c => c = b⟩ w) (j:Nat) (u:Value):Bel ⟨w0,fun c => c = b⟩ (w.setCell ⟨b,j,none⟩ u) :=
 ⟨h.os,h.tape,h.output,by simpa using h.size,fun k hk hn => (heap_setCell_other w ⟨b,j,none⟩ k u (fun e => hn e)).trans (h.block k hk hn)⟩
theorem row_drew {w:World} {b k cap0:Nat} {ds:List Value} (hr:Row w (slv (some b) 1 cap0) k 1 ds (some b)) (n:Nat):Row (w.drewN n) (slv (some b) 1 cap0) k 1 ds (some b):=hr
theorem bel_drew {w0:World} {w:World} {b:Nat} (h:Bel ⟨w0,fun c => c = b⟩ w) (n:Nat):Bel ⟨w0,fun c => c = b⟩ (w.drewN n):=⟨h.os,h.tape,h.output,h.size,h.block⟩
theorem bel_refl (w:World) (b:Nat):Bel ⟨w,fun c => c = b⟩ w:=⟨rfl,rfl,rfl,Nat.le_refl _,fun _ _ _ => rfl⟩
def RetN (w:World) (b:Nat) (oa:Option Addr) (cap cap0:Nat) (code:List Int) (r:Int × Nat × Int) (e:Ending) (w':World):Prop :=
 e = .returned (.int .i64 r.1)∧Row w' (slv (some b) 1 cap0) 3 1 [.slice oa code.length cap,.int .i64 r.2.1,.int .u64 r.2.2] (some b)∧Bel ⟨w,fun c => c = b⟩ w'
set_option maxRecDepth 100000 in
set_option maxHeartbeats 1000000 in
theorem c_l01Next (w:World) (b:Nat) (oa:Option Addr) (code:List Int) (cap cap0:Nat) (s:Nat × Int) (n:Int) (hr:Row w (slv (some b) 1 cap0) 3 1 [.slice oa code.length cap,.int .i64 s.1,.int .u64 s.2] (some b)) (hB:Byt w b oa code) (hn:In64 n) (hat:s.1 ≤ code.length) (hl:code.length ≤ 1000000000) :
  Calls Try.prog 108 #[.pointer (some ⟨b,0,none⟩),.int .i64 n] w (RetN w b oa cap cap0 code (nxtF code s n)):=by
 obtain ⟨i,h⟩:=s
 have c0:=hr.cells 0 _ rfl
 have c1:=hr.cells 1 _ rfl
 have c2:=hr.cells 2 _ rfl
 have f0:=hr.frozen 0
 have f1:=hr.frozen 1
 have f2:=hr.frozen 2
 have hlt:=hr.lt b rfl
 simp only at c0 c1 c2 hat
 have HR:=Lib.hid hr
 by_cases hn1:n < 1
 ·have hF:nxtF code (i,h) n = (0,i,h):=if_pos hn1
  rw [hF]
  clear hr hB hF
  go_enter Try.func108,Try.ntmps108
  go_wp2
  go_ret
  exact ⟨rfl,HR.out,bel_refl w b⟩
 ·have hF:nxtF code (i,h) n = ((nxtX code i h).tmod n,if i < code.length then i + 1 else i,nxtH h):=if_neg hn1
  rw [hF]
  by_cases ha:i < code.length
  ·obtain ⟨b2,off,e,hne,hg⟩:=hB.2.resolve_left (fun e => by rw [e] at ha;cases ha)
   have hgi:=hg i ha
   clear hg
   have hc:=hB.1 code[i] (List.getElem_mem _)
   have hX:nxtX code i h = wrap64 (nxtB h + code[i]):=dif_pos ha
   rw [hX,if_pos ha]
   obtain ⟨c,hce⟩:∃ c,c = code[i]:=⟨_,rfl⟩
   rw [← hce] at hgi hc ⊢
   have hwc:wrap64 c = c:=by unfold wrap64;omega
   subst e
   clear hr hB hce hF hX
   go_enter Try.func108,Try.ntmps108
   go_wp2
   go_quiet (fail)
   go_wp2
   go_quiet (fail)
   go_wp2
   go_ret
   exact ⟨rfl,row_set (row_drew (row_set HR.out 2 _) _) 1 _,bel_set (bel_drew (bel_set (bel_refl w b) 2 _) _) 1 _⟩
  ·have hX:nxtX code i h = nxtB h:=dif_neg ha
   rw [hX,if_neg ha]
   clear hr hB hF hX
   go_enter Try.func108,Try.ntmps108
   go_wp2
   go_quiet (fail)
   go_wp2
   go_ret
   exact ⟨rfl,row_drew (row_set HR.out 2 _) _,bel_drew (bel_set (bel_refl w b) 2 _) _⟩
def hshS (m:Int) (h c:Int):Int:=IntKind.u64.wrap (IntKind.u64.wrap (IntKind.u64.wrap (h * 1099511628211) + c) + m)
def hshF (m h0:Int) (code:List Int):Int:=code.foldl (hshS m) h0
theorem hshF_snoc (m h0:Int) (code:List Int) (k:Nat) (h:k < code.length):hshF m h0 (code.take (k + 1)) = hshS m (hshF m h0 (code.take k)) code[k]:=by
 unfold hshF
 rw [List.take_succ_eq_append_getElem h,List.foldl_append];rfl
def RetP (w:World) (oa:Option Addr) (cap:Nat) (code:List Int) (h:Int) (e:Ending) (w':World):Prop :=
 e = .returned (.pointer (some ⟨w.heap.size,0,none⟩))∧Row w' (slv (some w.heap.size) 1 1) 3 1 [.slice oa code.length cap,.int .i64 0,.int .u64 h] (some w.heap.size)∧Below w.heap.size w w'
theorem cell_lt {w:World} {b off:Nat} {v:Value} (h:w.cell? ⟨b,off,none⟩ = some v):b < w.heap.size:=by
 rcases Nat.lt_or_ge b w.heap.size with h1|h1
 ·exact h1
 ·rw [World.cell?] at h
  simp [Array.getElem?_eq_none h1] at h
theorem byt_below {w w':World} {n b off:Nat} {v:Value} (hb:Below n w w') (hlt:b < n) (h:w.cell? ⟨b,off,none⟩ = some v):w'.cell? ⟨b,off,none⟩ = some v:=by
 rw [World.cell?] at h ⊢
 rw [hb.block b hlt]
 exact h
set_option maxRecDepth 100000 in
set_option maxHeartbeats 2000000 in
theorem c_l01From (w:World) (oa:Option Addr) (code:List Int) (cap:Nat) (hB:Byt w w.heap.size oa code) (hcap:code.length ≤ cap) (hnil:oa = none→cap = 0) (hl:code.length ≤ 1000000000) :
  Calls Try.prog 90 #[.slice oa code.length cap] w (RetP w oa cap code (hshF 11 (5381 + code.length) (code.take 4096))):=by
 unfold RetP
 have HB:=Lib.hid hB
 obtain ⟨h0,hh0⟩:∃ h0,h0 = 5381 + (code.length:Int):=⟨_,rfl⟩
 rw [← hh0]
 have HH:=Lib.hid hh0
 clear hB hh0
 go_enter Try.func90,Try.ntmps90
 go_wp2
 go_loopw [4] (fun i wr => ∃ k:Nat,k ≤ code.length∧k ≤ 4096∧i = .int .i64 k∧Row wr (slv (some w.heap.size) 1 1) 3 1 [.slice oa code.length cap,.int .i64 0,.int .u64 (hshF 11 h0 (code.take k))] (some w.heap.size)∧Below w.heap.size w wr) (fun i _ => code.length - (intOf i).toNat)
 case atStart =>
  refine ⟨0,Nat.zero_le _,Nat.zero_le _,rfl,?_,?_⟩
  ·rw [List.take_zero]
   show Row _ _ 3 1 [_,_,.int .u64 h0] _
   rw [HH.out]
   exact Row.lit w #[.slice oa code.length cap,.int .i64 0,.int .u64 _] _ 3 1 (by decide) rfl
  ·exact (Below.refl _ _).alloc (Nat.le_refl _) _
 case round =>
  obtain ⟨k,hk,hk2,rfl,hrow,hbel⟩:=hrel
  have c0:=hrow.cells 0 _ rfl
  have c2:=hrow.cells 2 _ rfl
  have f2:=hrow.frozen 2
  have hlt:=hrow.lt _ rfl
  have HR:=Lib.hid hrow
  have HL:=Lib.hid hbel
  clear hrow hbel
  by_cases hlt1:k < code.length
  ·by_cases hlt2:k < 4096
   ·have hB:=HB.out
    obtain ⟨b2,off,e,hne,hg⟩:=hB.2.resolve_left (fun e => by rw [e] at hlt1;cases hlt1)
    have hgi:=byt_below HL.out (cell_lt (hg k hlt1)) (hg k hlt1)
    have hc:=hB.1 code[k] (List.getElem_mem _)
    have hst:=hshF_snoc 11 h0 code k hlt1
    obtain ⟨c,hce⟩:∃ c,c = code[k]:=⟨_,rfl⟩
    rw [← hce] at hgi hc hst
    subst e
    have HS:=Lib.hid hst
    clear hB hg hce hst
    obtain ⟨h,hh⟩:∃ h,h = hshF 11 h0 (code.take k):=⟨_,rfl⟩
    rw [← hh] at HR HS c2
    clear hh
    go_wp2_with fail
    go_region
    go_wp2_with fail
    go_roundw
    case rel =>
     refine ⟨k + 1,by omega,by omega,by go_num,?_,?_⟩
     ·rw [HS.out]
      exact row_set HR.out 2 _
     ·have hz:Below w.heap.size w (wr.setCell ⟨w.heap.size,2,none⟩ (.int .u64 (hshS 11 h c))):=HL.out.setCell (Nat.le_refl _) _
      exact ⟨hz.os,hz.tape,hz.output,hz.size,hz.block⟩
    case measure => simp [intOf];omega
   ·obtain rfl:k = 4096:=by omega
    go_wp2_with fail
    go_ret
    exact ⟨rfl,HR.out,HL.out⟩
  ·have e:code.take 4096 = code.take k:=by rw [List.take_of_length_le (by omega),List.take_of_length_le (by omega)]
   have HE:=Lib.hid e
   clear e
   go_wp2_with fail
   go_ret
   rw [HE.out]
   exact ⟨rfl,HR.out,HL.out⟩
end Go.Proofs.Ytofpjonggpjneaa
