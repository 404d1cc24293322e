/- Lemmas (7). -/
import Derived.Test.YtofpjonggpjneaaZF0
import Derived.Test.YtofpjonggpjneaaZF1
import Derived.Test.YtofpjonggpjneaaZF2
import Derived.Test.YtofpjonggpjneaaZF3
import Derived.Test.YtofpjonggpjneaaZF5
import Derived.Test.YtofpjonggpjneaaZF6
set_option linter.unusedSimpArgs false
set_option linter.unusedVariables false
namespace Go.Proofs.Ytofpjonggpjneaa
open Go.RowKit
def slT2 (t:TypeId):Option TyI :=
 if t = 22 then some ⟨5,[.raw (.int .u8 0)],1⟩ else
 if t = 127 then some ⟨130,[.sl 1 [],.sl 1 [],.int 0],56⟩ else
 if t = 131 then some ⟨134,[.sl 1 [],.sl 1 [],.int 0],56⟩ else
 none
def slT (t:TypeId):Option TyI :=
 if t = 24 then some ⟨2,[.int 0],8⟩ else
 if t = 108 then some ⟨3,[.int 0],8⟩ else
 if t = 30 then some ⟨24,[.sl 1 []],24⟩ else
 if t = 162 then some ⟨30,[.sl 1 []],24⟩ else
 if t = 146 then some ⟨108,[.sl 1 []],24⟩ else
 if t = 40 then some ⟨53,[.sl 1 [],.int 0],32⟩ else
 slT2 t
def tyT3 (t:TypeId):Option (List D × Bool) :=
 if t = 22 then some ([.sl 1 []],false) else
 none
def tyT2 (t:TypeId):Option (List D × Bool) :=
 if t = 127 then some ([.sl 3 []],false) else
 if t = 130 then some ([.sl 1 [],.sl 1 [],.int 0],true) else
 if t = 131 then some ([.sl 3 []],false) else
 if t = 134 then some ([.sl 1 [],.sl 1 [],.int 0],true) else
 tyT3 t
def tyT (t:TypeId):Option (List D × Bool) :=
 if t = 2 then some ([.int 0],false) else
 if t = 3 then some ([.int 0],false) else
 if t = 4 then some ([.bool false],false) else
 if t = 24 then some ([.sl 1 []],false) else
 if t = 108 then some ([.sl 1 []],false) else
 if t = 30 then some ([.sl 1 []],false) else
 if t = 162 then some ([.sl 1 []],false) else
 if t = 146 then some ([.sl 1 []],false) else
 if t = 40 then some ([.sl 2 []],false) else
 if t = 53 then some ([.sl 1 [],.int 0],true) else
 tyT2 t
def fsT (t:TypeId):Option (List (Nat × Nat)) :=
 if t = 53 then some [(0,1),(1,1)] else
 if t = 130 then some [(0,1),(1,1),(2,1)] else
 if t = 134 then some [(0,1),(1,1),(2,1)] else
 none
def cfg (n:Nat):Cfg:=⟨n,slT,tyT,fsT,fun t => t == 2 || t == 3⟩
def zvOf:Bool→List D→Value
 | true,z => .agg (z.map zval).toArray
 | false,z => zval (z.headD (.int 0))
theorem sl_ok {P:Program} {t:TypeId} {i:TyI} (h1:P.underlying t = some (.slice i.e)) (h2:(P.info? i.e).map (fun j => (j.zero,j.size,j.bytes)) = some (some (zvOf (decide (1 < i.z.length)) i.z),i.z.length,i.bytes))
  (h3:(zvOf (decide (1 < i.z.length)) i.z).cells.toList = i.z.map zval) (h4:i.z.all isZero = true) (h5:0 < i.z.length):∃ z:Value,ST P t i.e z i.z.length i.bytes∧ZeroOK z i.z :=
 ⟨_,ST.mk' h1 h2 (by rw [← Array.length_toList,h3,List.length_map]) h5,h3,h4⟩
theorem ty_ok {P:Program} {t:TypeId} {z:List D} {st:Bool} (h1:(P.info? t).map (fun i => (i.zero,i.size)) = some (some (zvOf st z),z.length)) (h2:(zvOf st z).cells.toList = z.map zval) (h3:z.all isZero = true) (h4:0 < z.length)
  (h5:(P.underlying t).map TypeDesc.isRow = some st) (h6:st = false→z.length = 1):∃ zv ti d,P.info? t = some ti∧ti.zero = some zv∧ti.size = z.length∧ZeroOK zv z∧0 < z.length∧P.underlying t = some d∧d.isRow = st∧(st = false→z.length = 1):=by
 obtain ⟨ti,k1,k2⟩:=map_some h1
 obtain ⟨d,k3,k4⟩:=map_some h5
 simp only [Prod.mk.injEq] at k2
 exact ⟨_,ti,d,k1,k2.1,k2.2,⟨h2,h3⟩,h4,k3,k4,h6⟩
theorem fs_ok {P:Program} {t:TypeId} {fs:List (Nat × Nat)} (h:(match P.underlying t with|some (.struct fields) => fields.toList.mapM (fun f => (P.info? f.type).map fun i => (f.offset,i.size))|_ => none) = some fs) (h2:∀ p ∈ fs,0 < p.2) :
  ∃ fields,P.underlying t = some (.struct fields)∧fields.toList.mapM (fun f => (P.info? f.type).map fun i => (f.offset,i.size)) = some fs∧∀ p ∈ fs,0 < p.2:=by
 split at h
 ·rename_i fields e
  exact ⟨fields,e,h,h2⟩
 ·cases h
theorem i64_a:Try.prog.underlying 2 = some (.int .i64):=by kernel_rfl
theorem i64_b:Try.prog.underlying 3 = some (.int .i64):=by kernel_rfl
set_option maxHeartbeats 2000000 in
theorem cfg_ok (n:Nat):CfgOK Try.prog (cfg n) where
 sl:=by
  intro t i h
  have h:slT t = some i:=h
  unfold slT at h
  split at h
  ·rename_i e;subst e;cases h;exact sl_ok (by kernel_rfl) (by kernel_rfl) (by rfl) (by rfl) (by decide)
  split at h
  ·rename_i e;subst e;cases h;exact sl_ok (by kernel_rfl) (by kernel_rfl) (by rfl) (by rfl) (by decide)
  split at h
  ·rename_i e;subst e;cases h;exact sl_ok (by kernel_rfl) (by kernel_rfl) (by rfl) (by rfl) (by decide)
  split at h
  ·rename_i e;subst e;cases h;exact sl_ok (by kernel_rfl) (by kernel_rfl) (by rfl) (by rfl) (by decide)
  split at h
  ·rename_i e;subst e;cases h;exact sl_ok (by kernel_rfl) (by kernel_rfl) (by rfl) (by rfl) (by decide)
  split at h
  ·rename_i e;subst e;cases h;exact sl_ok (by kernel_rfl) (by kernel_rfl) (by rfl) (by rfl) (by decide)
  have h:slT2 t = some i:=h
  unfold slT2 at h
  split at h
  ·rename_i e;subst e;cases h;exact sl_ok (by kernel_rfl) (by kernel_rfl) (by rfl) (by rfl) (by decide)
  split at h
  ·rename_i e;subst e;cases h;exact sl_ok (by kernel_rfl) (by kernel_rfl) (by rfl) (by rfl) (by decide)
  split at h
  ·rename_i e;subst e;cases h;exact sl_ok (by kernel_rfl) (by kernel_rfl) (by rfl) (by rfl) (by decide)
  cases h
 ty:=by
  intro t z st h
  have h:tyT t = some (z,st):=h
  have h3:∀ {t:TypeId} {z:List D} {st:Bool},tyT3 t = some (z,st)→∃ zv ti d,Try.prog.info? t = some ti∧ti.zero = some zv∧ti.size = z.length∧ZeroOK zv z∧0 < z.length∧Try.prog.underlying t = some d∧d.isRow = st∧(st = false→z.length = 1):=by
   intro t z st h
   unfold tyT3 at h
   repeat' split at h
   all_goals first
    | (cases h;done)
    | (rename_i e;subst e;cases h;exact ty_ok (by kernel_rfl) (by rfl) (by rfl) (by decide) (by kernel_rfl) (by decide))
  have h2:∀ {t:TypeId} {z:List D} {st:Bool},tyT2 t = some (z,st)→∃ zv ti d,Try.prog.info? t = some ti∧ti.zero = some zv∧ti.size = z.length∧ZeroOK zv z∧0 < z.length∧Try.prog.underlying t = some d∧d.isRow = st∧(st = false→z.length = 1):=by
   intro t z st h
   unfold tyT2 at h
   repeat' split at h
   all_goals first
    | (cases h;done)
    | (exact h3 h)
    | (rename_i e;subst e;cases h;exact ty_ok (by kernel_rfl) (by rfl) (by rfl) (by decide) (by kernel_rfl) (by decide))
  unfold tyT at h
  repeat' split at h
  all_goals first
   | (cases h;done)
   | (exact h2 h)
   | (rename_i e;subst e;cases h;exact ty_ok (by kernel_rfl) (by rfl) (by rfl) (by decide) (by kernel_rfl) (by decide))
 fs:=by
  intro t fs h
  have h:fsT t = some fs:=h
  unfold fsT at h
  repeat' split at h
  all_goals first
   | (cases h;done)
   | (rename_i e;subst e;cases h;exact fs_ok (by kernel_rfl) (by decide))
 i64:=by
  intro t h
  have h:(t == 2 || t == 3) = true:=h
  simp only [Bool.or_eq_true,beq_iff_eq] at h
  rcases h with rfl|rfl
  ·exact i64_a
  ·exact i64_b
def dL (xs:List Int):D:=.sl 1 (xs.map eI)
theorem rd_dL {A:Nat→Prop} {w:World} {v:Value} {xs:List Int}:rdV A w v (dL xs) ↔ (RS RI).rd A w [v] xs:=((encS encI).rdV (x:=xs) rfl).symm
end Go.Proofs.Ytofpjonggpjneaa
namespace Go.Proofs.Ytofpjonggpjneaa
open Go.RowKit
structure Cod (α:Type) where
 e:α→List D
 d:List D→Option α
 de:∀ x,d (e x) = some x
 ed:∀ c x,d c = some x→c = e x
def dI:List D→Option Int
 | [.int n] => some n
 | _ => none
def dB:List D→Option Bool
 | [.bool n] => some n
 | _ => none
theorem dI_spec {c:List D} {x:Int} (h:dI c = some x):c = eI x:=by
 unfold dI at h
 split at h
 ·cases h;rfl
 ·cases h
theorem dB_spec {c:List D} {x:Bool} (h:dB c = some x):c = eB x:=by
 unfold dB at h
 split at h
 ·cases h;rfl
 ·cases h
def codI:Cod Int:=⟨eI,dI,fun _ => rfl,fun _ _ => dI_spec⟩
def codB:Cod Bool:=⟨eB,dB,fun _ => rfl,fun _ _ => dB_spec⟩
def dAll {α:Type} (d:List D→Option α):List (List D)→Option (List α)
 | [] => some []
 | c :: cs => (d c).bind fun x => (dAll d cs).map fun xs => x :: xs
def dSl {α:Type} (k:Nat) (d:List D→Option α):List D→Option (List α)
 | [.sl j cs] => if j = k then dAll d cs else none
 | _ => none
theorem dAll_map {α:Type} {e:α→List D} {d:List D→Option α} (h:∀ x,d (e x) = some x):∀ xs:List α,dAll d (xs.map e) = some xs
 | [] => rfl
 | x :: xs => by simp only [List.map_cons,dAll,h,Option.bind_some,dAll_map h xs,Option.map_some]
theorem dAll_spec {α:Type} {e:α→List D} {d:List D→Option α} (h:∀ c x,d c = some x→c = e x):∀ {cs:List (List D)} {xs:List α},dAll d cs = some xs→cs = xs.map e
 | [],xs,hx => by simp only [dAll,Option.some.injEq] at hx;subst hx;rfl
 | c :: cs,xs,hx => by
  simp only [dAll] at hx
  obtain ⟨x,h1,hx⟩:=bind_some hx
  obtain ⟨ys,h2,rfl⟩:=map_some hx
  rw [h c x h1,dAll_spec h h2];rfl
def codS {α:Type} (k:Nat) (C:Cod α):Cod (List α):=⟨eS k C.e,dSl k C.d,fun xs => by
  show dSl k C.d [.sl k (xs.map C.e)] = some xs
  simp only [dSl,if_true,dAll_map C.de],fun c xs h => by
  unfold dSl at h
  split at h
  ·split at h
   ·rename_i e;subst e;rw [dAll_spec C.ed h];rfl
   ·cases h
  ·cases h⟩
def codP {α β:Type} (k:Nat) (C:Cod α) (D':Cod β) (hk:∀ x,(C.e x).length = k):Cod (α × β):=⟨eP C.e D'.e,fun c => (C.d (c.take k)).bind fun x => (D'.d (c.drop k)).map fun y => (x,y),fun x => by
  show (C.d ((C.e x.1 ++ D'.e x.2).take k)).bind (fun x_1 => (D'.d ((C.e x.1 ++ D'.e x.2).drop k)).map fun y => (x_1,y)) = _
  rw [List.take_left' (hk _),List.drop_left' (hk _),C.de,D'.de];rfl,fun c x h => by
  obtain ⟨a,h1,h⟩:=bind_some h
  obtain ⟨b,h2,rfl⟩:=map_some h
  show c = C.e a ++ D'.e b
  rw [← C.ed _ _ h1,← D'.ed _ _ h2,List.take_append_drop]⟩
def eL (xs:List Int):List D:=[.sl 1 (xs.map eI)]
def eLL (xs:List (List Int)):List D:=[.sl 1 (xs.map eL)]
def codL:Cod (List Int):=codS 1 codI
def codLL:Cod (List (List Int)):=codS 1 codL
def eCt (x:List Int × Int):List D:=[.sl 1 (x.1.map eI),.int x.2]
def codCt:Cod (List Int × Int):=codP 1 codL codI (fun _ => rfl)
theorem codL_d (xs:List Int):codL.d [.sl 1 (xs.map eI)] = some xs:=codL.de xs
theorem codLL_d (xs:List (List Int)):codLL.d [.sl 1 (xs.map eL)] = some xs:=codLL.de xs
theorem codI_d (x:Int):codI.d [.int x] = some x:=rfl
theorem codB_d (x:Bool):codB.d [.bool x] = some x:=rfl
theorem codCts_d (xs:List (List Int × Int)):(codS 2 codCt).d [.sl 2 (xs.map eCt)] = some xs:=(codS 2 codCt).de xs
def tab1 {α:Type} (A:Cod α) (f:α→Option (List Res)):List (List D)→Option (List Res)
 | [a] => (A.d a).bind f
 | _ => none
def tab2 {α β:Type} (A:Cod α) (B:Cod β) (f:α→β→Option (List Res)):List (List D)→Option (List Res)
 | [a,b] => (A.d a).bind fun x => (B.d b).bind (f x)
 | _ => none
def tab3 {α β γ:Type} (A:Cod α) (B:Cod β) (C:Cod γ) (f:α→β→γ→Option (List Res)):List (List D)→Option (List Res)
 | [a,b,c] => (A.d a).bind fun x => (B.d b).bind fun y => (C.d c).bind (f x y)
 | _ => none
theorem tab1_ok {P:Program} {g:FuncId} {α:Type} {A:Cod α} {f:α→Option (List Res)} (h:∀ x rs,f x = some rs→AFn P g [A.e x] (· = rs)) (ds:List (List D)) (rs:List Res) (e:tab1 A f ds = some rs):AFn P g ds (· = rs):=by
 unfold tab1 at e
 split at e
 ·obtain ⟨x,h1,h2⟩:=bind_some e
  rw [A.ed _ _ h1];exact h x rs h2
 ·cases e
theorem tab2_ok {P:Program} {g:FuncId} {α β:Type} {A:Cod α} {B:Cod β} {f:α→β→Option (List Res)} (h:∀ x y rs,f x y = some rs→AFn P g [A.e x,B.e y] (· = rs)) (ds:List (List D)) (rs:List Res) (e:tab2 A B f ds = some rs):AFn P g ds (· = rs):=by
 unfold tab2 at e
 split at e
 ·obtain ⟨x,h1,e⟩:=bind_some e
  obtain ⟨y,h2,e⟩:=bind_some e
  rw [A.ed _ _ h1,B.ed _ _ h2];exact h x y rs e
 ·cases e
theorem AFn.of_q {P:Program} {f:FuncId} {ds:List (List D)} {d:D} {v:Value} (eg:∀ args w,(callFunc f args).run P w = .ok (.enter f args) w) (hd:∀ A w,rdV A w v d)
  (h:∀ (w:World) (A:Nat→Prop) vs,relArgs A w ds vs→Calls P f vs.toArray w (RetQ w v)):AFn P f ds (· = [.val d]):=by
 refine ⟨eg,fun A w vs hA hv => (h w A vs hv).mono ?_⟩
 rintro e w' ⟨rfl,n,rfl⟩
 exact ⟨v,_,rfl,rfl,Below.drewN _ _ _,[v],[],[],rfl,List.nodup_nil,by simp,v,[],[],[],[],[],rfl,rfl,rfl,(hd (fun _ => True) w).one,⟨hd _ _,rfl,rfl⟩,rfl,rfl,rfl⟩
theorem AFn.of_s {P:Program} {f:FuncId} {ds:List (List D)} {d:D} {v:Value} (eg:∀ args w,(callFunc f args).run P w = .ok (.enter f args) w) (hd:∀ A w,rdV A w v d)
  (h:∀ (w:World) (A:Nat→Prop) vs,relArgs A w ds vs→Calls P f vs.toArray w (RetS w v)):AFn P f ds (· = [.val d]):=by
 refine ⟨eg,fun A w vs hA hv => (h w A vs hv).mono ?_⟩
 rintro e w' ⟨rfl,rfl⟩
 exact ⟨v,_,rfl,rfl,Below.refl _ _,[v],[],[],rfl,List.nodup_nil,by simp,v,[],[],[],[],[],rfl,rfl,rfl,(hd (fun _ => True) w).one,⟨hd _ _,rfl,rfl⟩,rfl,rfl,rfl⟩
theorem AFn.of_o {P:Program} {α:Type} {R:Rep α} {e:α→List D} (E:Enc R e) {f:FuncId} {ds:List (List D)} {xs:List α} (eg:∀ args w,(callFunc f args).run P w = .ok (.enter f args) w)
  (h:∀ (w:World) (A:Nat→Prop) vs,relArgs A w ds vs→Calls P f vs.toArray w (RetO (RS R) w xs)):AFn P f ds (· = [.own R.k (xs.map e) true]):=by
 refine ⟨eg,fun A w vs hA hv => (h w A vs hv).mono ?_⟩
 rintro e' w' ⟨v,rfl,⟨F,⟨v',og,ds',G,e1,hrow,hel,rfl⟩,hn,hlt⟩,hb⟩
 obtain rfl:v = v':=by simpa using e1
 obtain ⟨d,hel'⟩:=enc_ownL E hel
 obtain ⟨oa,c,ev,k1,k2,k3,k4⟩:=hrow.value
 have hv':v = slv og xs.length c:=by
  cases og with
  | none =>
   have h0:=hrow.len0
   have hoa:oa = none:=k4
   rw [ev,hoa,h0,k3 hoa];rfl
  | some g => rw [ev,k4];rfl
 refine ⟨v,_,rfl,rfl,hb,[v],og.toList ++ G,og.toList,rfl,hn,fun b hb' => (hlt b hb').1,v,[],og.toList ++ G,[],og.toList,[],rfl,by simp,by simp,by rw [ev];rfl,?_,rfl,rfl,rfl⟩
 exact ⟨og,c,G,ds',by rw [List.length_map];exact hv',by rw [List.length_map];exact hrow,R.kpos,rfl,rfl,d,R.kpos,hel'⟩
theorem big_le {n:Nat} (h:n ≤ 1000000000):(n ≤ 140737488355328) = True:=eq_true (by omega)
theorem big_mul {n c:Nat} (hc:c ≤ 100000) (h:n ≤ 1000000000):(n * c ≤ 140737488355328) = True :=
 eq_true (Nat.le_trans (Nat.mul_le_mul h hc) (by decide))
theorem map_get {α β:Type} {f:α→β} {xs:List α} {i:Nat} (h:i < xs.length):(xs.map f)[i]? = some (f xs[i]):=by
 rw [List.getElem?_map,List.getElem?_eq_getElem h];rfl
theorem w64_eq {n:Int} (h:-9223372036854775808 ≤ n∧n ≤ 9223372036854775807):w64 n = n:=by unfold w64;exact IntWalk.i64_in n h
theorem w64_succ {n:Nat} (h:n < 9223372036854775807):w64 ((n:Int) + 1) = ((n + 1:Nat):Int):=by rw [w64_eq (by omega)];rfl
theorem rd1 {A:Nat→Prop} {w:World} {xs:List Int} {v:Value} (h:relArg A w (eL xs) v):(RS RI).rd A w [v] xs:=rd_dL.1 h
end Go.Proofs.Ytofpjonggpjneaa
namespace Go.Proofs.Ytofpjonggpjneaa
open Go.RowKit
def OwnF {α:Type} (R:Rep α) (F:List Nat) (w:World) (cs:List Value) (x:α):Prop:=R.own w cs x F∧F.Nodup
theorem OwnF.of {α:Type} {R:Rep α} {lo hi:Nat} {w:World} {cs:List Value} {x:α} (h:Own R lo hi w cs x):∃ F,OwnF R F w cs x∧∀ b,b ∈ F→lo ≤ b∧b < hi :=
 let ⟨F,h1,h2,h3⟩:=h;⟨F,⟨h1,h2⟩,h3⟩
theorem OwnF.to {α:Type} {R:Rep α} {lo hi:Nat} {F:List Nat} {w:World} {cs:List Value} {x:α} (h:OwnF R F w cs x) (hb:∀ b,b ∈ F→lo ≤ b∧b < hi):Own R lo hi w cs x:=⟨F,h.1,h.2,hb⟩
theorem OwnF.frame {α:Type} {R:Rep α} {F:List Nat} {w w':World} {cs:List Value} {x:α} (h:OwnF R F w cs x) (hf:∀ b,b ∈ F→w'.heap[b]? = w.heap[b]?):OwnF R F w' cs x:=⟨R.own_frame h.1 hf,h.2⟩
theorem OwnF.lt {α:Type} {R:Rep α} {F:List Nat} {w:World} {cs:List Value} {x:α} (h:OwnF R F w cs x):∀ b,b ∈ F→b < w.heap.size:=R.own_lt h.1
theorem OwnF.rd {α:Type} {R:Rep α} {F:List Nat} {w:World} {cs:List Value} {x:α} (h:OwnF R F w cs x):Rd R w cs x:=R.rd_mono (R.own_rd h.1) (fun _ _ h => h)
structure ChgF (F:List Nat) (w w':World):Prop where
 os:w'.os = w.os
 tape:w'.tape = w.tape
 output:w'.output = w.output
 size:w.heap.size ≤ w'.heap.size
 block:∀ k,k < w.heap.size→k ∉ F→w'.heap[k]? = w.heap[k]?
theorem ChgF.refl (F:List Nat) (w:World):ChgF F w w:=⟨rfl,rfl,rfl,Nat.le_refl _,fun _ _ _ => rfl⟩
theorem ChgF.of_grown {w w':World} {og:Option Nat} (h:w.grownBy w' og):ChgF og.toList w w':=⟨h.os,h.tape,h.output,h.size,fun k hk hn => h.block k hk (fun e => hn (by simp [← e]))⟩
theorem ChgF.mono {F G:List Nat} {w w':World} (h:ChgF F w w') (hs:∀ b,b ∈ F→b ∈ G):ChgF G w w':=⟨h.os,h.tape,h.output,h.size,fun k hk hn => h.block k hk (fun e => hn (hs k e))⟩
theorem ChgF.trans {F:List Nat} {a b c:World} (h:ChgF F a b) (k:ChgF F b c):ChgF F a c :=
 ⟨k.os.trans h.os,k.tape.trans h.tape,k.output.trans h.output,Nat.le_trans h.size k.size,fun i hi hn => (k.block i (Nat.lt_of_lt_of_le hi h.size) hn).trans (h.block i hi hn)⟩
theorem ChgF.trans' {F G:List Nat} {a b c:World} (h:ChgF F a b) (k:ChgF G b c) (hs:∀ x,x ∈ G→x ∈ F ∨ a.heap.size ≤ x):ChgF F a c :=
 ⟨k.os.trans h.os,k.tape.trans h.tape,k.output.trans h.output,Nat.le_trans h.size k.size,fun i hi hn => (k.block i (Nat.lt_of_lt_of_le hi h.size) (fun e => (hs i e).elim hn (fun h => by omega))).trans (h.block i hi hn)⟩
theorem ChgF.below {F:List Nat} {w w':World} {B:Nat} (h:ChgF F w w') (hB:B ≤ w.heap.size) (hF:∀ b,b ∈ F→B ≤ b):Below B w w' :=
 ⟨h.os,h.tape,h.output,h.size,fun k hk => h.block k (by omega) (fun e => by have:=hF k e;omega)⟩
theorem Below.chgF {w w':World} {F:List Nat} (h:Below w.heap.size w w'):ChgF F w w':=⟨h.os,h.tape,h.output,h.size,fun k hk _ => h.block k hk⟩
section
variable {α:Type} {R:Rep α} {w:World}
theorem OwnF.lens {v:Value} {xs:List α} {F:List Nat} (h:OwnF (RS R) F w [v] xs) (i:Nat) (hi:i < xs.length) :
  ∃ g cap d1 c d2 F1 G F2,v = .slice (some ⟨g,0,none⟩) xs.length cap∧xs.length ≤ cap∧cap ≤ 9223372036854775807∧F = g :: (F1 ++ (G ++ F2))∧c.length = R.k∧d1.length = i * R.k∧R.own w c xs[i] G∧Row w v R.k xs.length (d1 ++ (c ++ d2)) (some g) ∧
   ∀ (w':World) (c':List Value) (y:α) (G':List Nat),c'.length = R.k→R.own w' c' y G'→(∀ b,b ∈ F1 ++ F2→w'.heap[b]? = w.heap[b]?)→Row w' v R.k xs.length (d1 ++ (c' ++ d2)) (some g)→(g :: (F1 ++ (G' ++ F2))).Nodup →
    OwnF (RS R) (g :: (F1 ++ (G' ++ F2))) w' [v] (xs.set i y):=by
 obtain ⟨⟨v',og,ds,F0,h1,hrow,hel,rfl⟩,hn⟩:=h
 simp only [List.cons.injEq,and_true] at h1
 subst h1
 obtain ⟨g,rfl⟩:=hrow.some_of hi
 obtain ⟨cap,hv,hc1,hc2⟩:=hrow.slice
 obtain ⟨d1,c,d2,F1,G,F2,rfl,rfl,hd1,hL1,hx,hL2⟩:=hel.split i hi
 refine ⟨g,cap,d1,c,d2,F1,G,F2,hv,hc1,by unfold maxLen at hc2;omega,rfl,R.rd_len (R.own_rd hx),hd1,hx,hrow,?_⟩
 intro w' c' y G' hc' hy hfr hr' hnd
 refine ⟨⟨v,some g,d1 ++ (c' ++ d2),F1 ++ (G' ++ F2),rfl,by rw [List.length_set];exact hr',?_,rfl⟩,hnd⟩
 exact ownL.join hi (hL1.frame fun b hb => hfr b (by simp [hb])) hy (hL2.frame fun b hb => hfr b (by simp [hb]))
end
theorem Row.chgF {w w':World} {v:Value} {k n:Nat} {ds:List Value} {og:Option Nat} {F:List Nat} (h:Row w v k n ds og) (hc:ChgF F w w') (hn:∀ g,og = some g→g ∉ F):Row w' v k n ds og :=
 h.frame fun g hg => hc.block g (h.lt g hg) (hn g hg)
theorem OwnF.innerApp {w:World} {v:Value} {xss:List (List Int)} {F:List Nat} (h:OwnF (RS (RS RI)) F w [v] xss) (i:Nat) (hi:i < xss.length) :
  ∃ g cap h0 og,v = .slice (some ⟨g,0,none⟩) xss.length cap∧xss.length ≤ cap∧cap ≤ 9223372036854775807∧g < w.heap.size∧w.cell? ⟨g,i,none⟩ = some h0∧Row w h0 1 xss[i].length (xss[i].map (Value.int .i64)) og ∧
   ∀ (y:Int) (h':Value) (w1:World) (og':Option Nat),In64 y→Appended w w1 h' 1 (xss[i].length + 1) (xss[i].map (Value.int .i64) ++ [.int .i64 y]) og og' →
    w1.cell? ⟨g,i,none⟩ = some h0∧w1.frozen? ⟨g,i,none⟩ = false∧∃ F',OwnF (RS (RS RI)) F' (w1.setCell ⟨g,i,none⟩ h') [v] (xss.set i (xss[i] ++ [y]))∧(∀ b,b ∈ F'→b ∈ F ∨ w.heap.size ≤ b)∧ChgF F w (w1.setCell ⟨g,i,none⟩ h'):=by
 have hlt:=h.lt
 have hnd:=h.2
 obtain ⟨g,cap,d1,c,d2,F1,G,F2,hv,hc1,hc2,rfl,hcl,hd1,hx,hrow,hK⟩:=h.lens i hi
 obtain ⟨h0,og,ds,G',rfl,hr0,hel0,rfl⟩:=hx
 obtain ⟨k1,k2,k3⟩:=ownL_ints hel0
 subst k1;subst k2
 have hd1':d1.length = i:=by rw [hd1];show i * 1 = i;omega
 have hcell:w.cell? ⟨g,i,none⟩ = some h0:=hrow.cells i h0 (by rw [List.getElem?_append_right (by omega),hd1'];simp)
 refine ⟨g,cap,h0,og,hv,hc1,hc2,hlt g (by simp),hcell,hr0,?_⟩
 intro y h' w1 og' hy happ
 obtain ⟨a1,a2,a3⟩:=happ
 simp only [List.append_nil] at *
 have hn1:=List.nodup_cons.1 hnd
 have hog:∀ b,og = some b→b ≠ g∧b ∉ F1 ++ F2:=by
  intro b hb
  subst hb
  refine ⟨fun e => hn1.1 (by simp [← e]),fun hm => ?_⟩
  have h2:=List.nodup_append.1 hn1.2
  rcases List.mem_append.1 hm with hm|hm
  ·exact h2.2.2 b hm b (by simp) rfl
  ·exact (List.nodup_append.1 h2.2.1).2.2 b (by simp) b hm rfl
 have hgb:w1.heap[g]? = w.heap[g]?:=a2.block g (hlt g (by simp)) (fun e => (hog g e.symm).1 rfl)
 have hrow1:Row w1 v 1 xss.length (d1 ++ ([h0] ++ d2)) (some g):=hrow.frame (fun g' hg' => by cases hg';exact hgb)
 obtain ⟨hst,hgr⟩:=hrow1.store i h'
 have hset:(d1 ++ ([h0] ++ d2)).set i h' = d1 ++ ([h'] ++ d2):=by
  rw [List.set_append_right _ _ (by omega),hd1',Nat.sub_self];rfl
 rw [hset] at hst
 have hog':∀ b,og' = some b→b ≠ g∧b ∉ F1 ++ F2:=by
  intro b hb
  rcases a3 with a3|⟨b',a3,hb'⟩
  ·exact hog b (by rw [← a3];exact hb)
  ·rw [hb] at a3;cases a3
   refine ⟨fun e => ?_,fun hm => ?_⟩
   ·subst e;have:=hlt b (by simp);omega
   ·have:=hlt b (by
     rcases List.mem_append.1 hm with hm|hm
     ·simp [hm]
     ·simp [hm])
    omega
 have hr1:Row (w1.setCell ⟨g,i,none⟩ h') h' 1 (xss[i].length + 1) (xss[i].map (Value.int .i64) ++ [.int .i64 y]) og' :=
  a1.frame (fun b hb => heap_setCell_other w1 ⟨g,i,none⟩ b h' (hog' b hb).1)
 have hin:(RS RI).own (w1.setCell ⟨g,i,none⟩ h') [h'] (xss[i] ++ [y]) (og'.toList):=by
  refine Row.ownI ?_ ?_
  ·simpa using hr1
  ·intro z hz
   rcases List.mem_append.1 hz with hz|hz
   ·exact k3 z hz
   ·simp only [List.mem_singleton] at hz;subst hz;exact hy
 have hsub:∀ b,b ∈ F1 ++ F2→b ≠ g:=fun b hm e => hn1.1 (by
  subst e
  rcases List.mem_append.1 hm with hm|hm
  ·simp [hm]
  ·simp [hm])
 have hfr:∀ b,b ∈ F1 ++ F2→(w1.setCell ⟨g,i,none⟩ h').heap[b]? = w.heap[b]?:=by
  intro b hm
  rw [heap_setCell_other w1 ⟨g,i,none⟩ b h' (hsub b hm)]
  refine a2.block b (hlt b ?_) (fun e => (hog b e.symm).2 hm)
  rcases List.mem_append.1 hm with hm|hm
  ·simp [hm]
  ·simp [hm]
 have hnd':(g :: (F1 ++ (og'.toList ++ F2))).Nodup:=by
  have h2:=List.nodup_append.1 hn1.2
  have h3:=List.nodup_append.1 h2.2.1
  refine List.nodup_cons.2 ⟨?_,?_⟩
  ·intro hm
   simp only [List.mem_append,Option.mem_toList] at hm
   rcases hm with hm|hm|hm
   ·exact hsub g (by simp [hm]) rfl
   ·exact (hog' g hm).1 rfl
   ·exact hsub g (by simp [hm]) rfl
  ·refine List.nodup_append.2 ⟨h2.1,List.nodup_append.2 ⟨by cases og' <;> simp,h3.2.1,fun b hb b' hb' e => ?_⟩,fun b hb b' hb' e => ?_⟩
   ·subst e;exact (hog' b (by simpa using hb)).2 (by simp [hb'])
   ·subst e
    rcases List.mem_append.1 hb' with hb'|hb'
    ·exact (hog' b (by simpa using hb')).2 (by simp [hb])
    ·exact h2.2.2 b hb b (by simp [hb']) rfl
 refine ⟨hrow1.cells i h0 (by rw [List.getElem?_append_right (by omega),hd1'];simp),hrow1.frozen i,_,hK _ [h'] (xss[i] ++ [y]) og'.toList rfl hin hfr hst hnd',?_,?_⟩
 ·intro b hb
  simp only [List.mem_cons,List.mem_append,Option.mem_toList] at hb
  rcases hb with hb|hb|hb|hb
  ·exact .inl (by simp [hb])
  ·exact .inl (by simp [hb])
  ·rcases a3 with a3|⟨b',a3,hb'⟩
   ·exact .inl (by simp [← a3,hb])
   ·rw [hb] at a3;cases a3;exact .inr hb'
  ·exact .inl (by simp [hb])
 ·refine (ChgF.of_grown a2).mono (G:=g :: (F1 ++ (og.toList ++ F2))) (fun b hb => by simp [Option.mem_toList.1 hb]) |>.trans ((ChgF.of_grown hgr).mono (fun b hb => ?_))
  simp at hb
  simp [hb]
theorem Rd.lit {α:Type} {R:Rep α} {w W:World} {ds:List Value} {xs:List α} {E:TypeId} (h:rdL R (fun b => b < w.heap.size) w ds xs) (e:W.heap = (w.alloc (.cells ds.toArray E)).heap) (hn:xs.length ≤ maxLen) :
  Rd (RS R) W [.slice (some ⟨w.heap.size,0,none⟩) xs.length xs.length] xs:=by
 refine Rd.of_heap (w:=w.alloc (.cells ds.toArray E)) ?_ e
 have hb:Below w.heap.size w (w.alloc (.cells ds.toArray E)):=(Below.refl _ _).alloc (Nat.le_refl _) _
 refine ⟨some ⟨w.heap.size,0,none⟩,xs.length,ds,rfl,Nat.le_refl _,hn,by simp,?_,.inr ⟨w.heap.size,0,rfl,by simp,fun j u hj => ?_⟩⟩
 ·exact (h.frame (fun b h1 _ => hb.block b h1)).mono (fun b h1 h2 => h2)
 ·rw [Nat.zero_add,World.cell?_alloc_at _ _ _ _ rfl]
  simpa using hj
end Go.Proofs.Ytofpjonggpjneaa
namespace Go.Proofs.Ytofpjonggpjneaa
open Go.RowKit
theorem mixed_ok:Try.prog.follows .mixedOrders = true:=by kernel_rfl
section
variable {P:Program} {f:FuncId}
theorem rdLL {A:Nat→Prop} {w:World} {xs:List (List Int)} {v:Value} (h:relArg A w (eLL xs) v):(RS (RS RI)).rd A w [v] xs:=((encS (encS encI)).rdV (x:=xs) rfl).2 h
theorem arg_int {A:Nat→Prop} {w:World} {n:Int} {v:Value} (h:relArg A w (eI n) v):v = .int .i64 n:=(rdV_int.1 h).1
theorem afn_L_s {t:List Int} {d:D} {v:Value} (eg:∀ args w,(callFunc f args).run P w = .ok (.enter f args) w) (hd:∀ A w,rdV A w v d) (h:∀ u w,Rd (RS RI) w [u] t→Calls P f #[u] w (RetS w v)):AFn P f [eL t] (· = [.val d]) :=
 AFn.of_s eg hd (fun w A vs ⟨v1,_,e1,h1,e2⟩ => by subst e2;subst e1;exact h v1 w (Rd.of (rd1 h1)))
theorem afn_LL_q {s t:List Int} {d:D} {v:Value} (eg:∀ args w,(callFunc f args).run P w = .ok (.enter f args) w) (hd:∀ A w,rdV A w v d) (h:∀ u1 u2 w,Rd (RS RI) w [u1] s→Rd (RS RI) w [u2] t→Calls P f #[u1,u2] w (RetQ w v)):AFn P f [eL s,eL t] (· = [.val d]) :=
 AFn.of_q eg hd (fun w A vs ⟨v1,_,e1,h1,v2,_,e2,h2,e3⟩ => by subst e3;subst e2;subst e1;exact h v1 v2 w (Rd.of (rd1 h1)) (Rd.of (rd1 h2)))
theorem afn_L_o {t r:List Int} (eg:∀ args w,(callFunc f args).run P w = .ok (.enter f args) w) (h:∀ u w,Rd (RS RI) w [u] t→Calls P f #[u] w (RetO (RS RI) w r)):AFn P f [eL t] (· = [.own 1 (r.map eI) true]) :=
 AFn.of_o encI eg (fun w A vs ⟨v1,_,e1,h1,e2⟩ => by subst e2;subst e1;exact h v1 w (Rd.of (rd1 h1)))
theorem afn_L_oo {t:List Int} {r:List (List Int)} (eg:∀ args w,(callFunc f args).run P w = .ok (.enter f args) w) (h:∀ u w,Rd (RS RI) w [u] t→Calls P f #[u] w (RetO (RS (RS RI)) w r)):AFn P f [eL t] (· = [.own 1 (r.map eL) true]) :=
 AFn.of_o (encS encI) eg (fun w A vs ⟨v1,_,e1,h1,e2⟩ => by subst e2;subst e1;exact h v1 w (Rd.of (rd1 h1)))
theorem afn_LLL_oo {t r:List (List Int)} (eg:∀ args w,(callFunc f args).run P w = .ok (.enter f args) w) (h:∀ u w,Rd (RS (RS RI)) w [u] t→Calls P f #[u] w (RetO (RS (RS RI)) w r)):AFn P f [eLL t] (· = [.own 1 (r.map eL) true]) :=
 AFn.of_o (encS encI) eg (fun w A vs ⟨v1,_,e1,h1,e2⟩ => by subst e2;subst e1;exact h v1 w (Rd.of (rdLL h1)))
theorem afn_LLL_s {t:List (List Int)} {d:D} {v:Value} (eg:∀ args w,(callFunc f args).run P w = .ok (.enter f args) w) (hd:∀ A w,rdV A w v d) (h:∀ u w,Rd (RS (RS RI)) w [u] t→Calls P f #[u] w (RetS w v)):AFn P f [eLL t] (· = [.val d]) :=
 AFn.of_s eg hd (fun w A vs ⟨v1,_,e1,h1,e2⟩ => by subst e2;subst e1;exact h v1 w (Rd.of (rdLL h1)))
theorem afn_III_s {x y z:Int} {d:D} {v:Value} (eg:∀ args w,(callFunc f args).run P w = .ok (.enter f args) w) (hd:∀ A w,rdV A w v d) (h:∀ w,Calls P f #[.int .i64 x,.int .i64 y,.int .i64 z] w (RetS w v)):AFn P f [eI x,eI y,eI z] (· = [.val d]) :=
 AFn.of_s eg hd (fun w A vs ⟨v1,_,e1,h1,v2,_,e2,h2,v3,_,e3,h3,e4⟩ => by subst e4;subst e3;subst e2;subst e1;rw [arg_int h1,arg_int h2,arg_int h3];exact h w)
end
def Rg {α:Type} (R:Rep α) (lo hi:Nat) (w:World) (cs:List Value) (x:α):Prop:=R.rd (fun b => lo ≤ b∧b < hi) w cs x
theorem Rg.rd {α:Type} {R:Rep α} {lo hi:Nat} {w:World} {cs:List Value} {x:α} (h:Rg R lo hi w cs x):Rd R w cs x:=R.rd_mono h (fun _ _ h => h)
theorem Rg.frame {α:Type} {R:Rep α} {lo hi:Nat} {w w':World} {cs:List Value} {x:α} (h:Rg R lo hi w cs x) (hf:∀ b,lo ≤ b→b < hi→b < w.heap.size→w'.heap[b]? = w.heap[b]?):Rg R lo hi w' cs x:=R.rd_frame h (fun b hb hl => hf b hb.1 hb.2 hl)
theorem Rg.below {α:Type} {R:Rep α} {lo hi B:Nat} {w w':World} {cs:List Value} {x:α} (h:Rg R lo hi w cs x) (hb:Below B w w') (hB:hi ≤ B):Rg R lo hi w' cs x:=h.frame (fun b _ h2 _ => hb.block b (by omega))
theorem Rg.apart {α:Type} {R:Rep α} {w w':World} {cs:List Value} {x:α} {lo hi l h:Nat} (o:Rg R l h w cs x) (c:Chg lo hi w w') (ha:h ≤ lo ∨ hi ≤ l):Rg R l h w' cs x:=o.frame (fun b h1 h2 h3 => c.block b h3 (by omega))
section
variable {P:Program} {f:FuncId} {α:Type} {R:Rep α} {e:α→List D}
theorem AFn.one {ds:List (List D)} {v:Value} {d:D} (hd:∀ A w u,rdV A w u d→u = v) (h:AFn P f ds (· = [.val d])) {w:World} {vs:List Value} (hv:relArgs (· < w.heap.size) w ds vs) :
  Calls P f vs.toArray w (RetV w v):=by
 refine (h.fn _ w vs (fun _ h => h) hv).mono ?_
 rintro e' w' ⟨v',rs,rfl,rfl,hb,us,G,X,rfl,hG,hG2,u,us',G1,G2,Y1,Y2,rfl,rfl,rfl,h1,⟨h4,_,_⟩,rfl,rfl,rfl⟩
 rw [hd _ _ _ h4]
 exact ⟨rfl,hb⟩
theorem args1 {w:World} {a:List D} {u:Value} (h:relArg (· < w.heap.size) w a u):relArgs (· < w.heap.size) w [a] [u]:=⟨u,[],rfl,h,rfl⟩
end
def eLT (p:List Int × List Nat):List D:=[.tag p.2 (.sl 1 (p.1.map eI))]
theorem tag_rows:∀ {rows:List (List Int)} {xs':List (List D)} {F:List Nat},TagL (rows.map eL) xs' F→∃ ps:List (List Int × List Nat),rows = ps.map (·.1)∧xs' = ps.map eLT∧F = (ps.map (·.2)).flatten
 | [],xs',F,⟨h1,h2⟩ => ⟨[],rfl,h1,h2⟩
 | r :: rows,xs',F,⟨y,ys,G,H,h1,h2,h3,h4⟩ => by
  obtain ⟨ps,e1,e2,e3⟩:=tag_rows h4
  obtain ⟨y',ys',G',H',k1,k2,k3,k4,k5⟩:=h3
  subst k4;subst k5
  rcases k3 with rfl|⟨k3,_⟩
  ·exact ⟨(r,G') :: ps,by rw [e1];rfl,by rw [h1,k1,e2];rfl,by rw [h2,k2,e3];simp⟩
  ·cases k3
end Go.Proofs.Ytofpjonggpjneaa
namespace Go.Proofs.Ytofpjonggpjneaa
open Go.RowKit
theorem telT_none (s:St) (u:List Nat):telT s u Option.none = Option.none:=rfl
theorem Zg:type_of% (And.intro (And.intro (And.intro (And.intro (And.intro (And.intro (And.intro @arun.eq_1 (And.intro @arun.eq_2 @astep.eq_def)) (And.intro (And.intro @anew.eq_def @amut.eq_def) (And.intro @isMut.eq_def @awanted.eq_def))) (And.intro (And.intro @avG.eq_def (And.intro @Bool.true_beq @Bool.false_beq)) (And.intro (And.intro @beq_true @beq_false) (And.intro @dstOK.eq_def @cfg.eq_def)))) (And.intro (And.intro (And.intro @opv.eq_def (And.intro @noJunk.eq_def @constAV.eq_def)) (And.intro (And.intro @look_eq @lookB.eq_1) (And.intro @lookB.eq_2 @insR_eq))) (And.intro (And.intro @insB.eq_1 (And.intro @insB.eq_2 @cond_true.{1})) (And.intro (And.intro @cond_false.{1} @insAll.eq_def) (And.intro @List.foldr_cons.{0,0} @List.foldr_nil.{0,0}))))) (And.intro (And.intro (And.intro (And.intro @Option.bind_some.{0,0} (And.intro @Option.map_some.{0,0} @Option.bind_none.{0,0})) (And.intro (And.intro @Option.map_none.{0,0} @Option.getD_some.{0}) (And.intro @Option.getD_none.{0} @Bool.false_eq_true))) (And.intro (And.intro @decide_true (And.intro @decide_false @slT.eq_def)) (And.intro (And.intro @tyT.eq_def (And.intro @tyT2.eq_def (And.intro @tyT3.eq_def @slT2.eq_def))) (And.intro @fsT.eq_def @avD.eq_def)))) (And.intro (And.intro (And.intro @avI.eq_def (And.intro @avB.eq_def @dval.eq_def)) (And.intro (And.intro @un_int @un_bool) (And.intro @un_raw @un_sl))) (And.intro (And.intro (And.intro @un_tag @avun_val) (And.intro @avun_nil @avun_own)) (And.intro (And.intro @avun_view @abin.eq_def) (And.intro @aun.eq_def @alen.eq_def)))))) (And.intro (And.intro (And.intro (And.intro (And.intro @aindex.eq_def (And.intro @aslice.eq_def @afield.eq_def)) (And.intro (And.intro @acells.eq_def @aload.eq_def) (And.intro @avCells.eq_def @zAC.eq_def))) (And.intro (And.intro @afill.eq_1 (And.intro @afill.eq_2 @aparts.eq_1)) (And.intro (And.intro @aparts.eq_2 @mkObj.eq_def) (And.intro @rowsD.eq_1 @rowsD.eq_2)))) (And.intro (And.intro (And.intro @cellsD.eq_1 (And.intro @cellsD.eq_2 @cellsD.eq_3)) (And.intro (And.intro @cellD_vsl @cellD_vtag) (And.intro @cellD_vint @cellD_vbool))) (And.intro (And.intro @cellD_vraw (And.intro @cellD_nilsl @cellD_own)) (And.intro (And.intro @cellD_view @cellD_junk) (And.intro @fresh.eq_def @abase.eq_def))))) (And.intro (And.intro (And.intro (And.intro @aelems.eq_def (And.intro @absorbKey.eq_def @absorbs.eq_1)) (And.intro (And.intro @absorbs.eq_2 @absorbs.eq_3) (And.intro @absorb.eq_def @absorbRows.eq_1))) (And.intro (And.intro @absorbRows.eq_2 (And.intro @drop_eq @dropB.eq_1)) (And.intro (And.intro @dropB.eq_2 @killR.eq_def) (And.intro @AC.kill.eq_def @AV.kill.eq_def)))) (And.intro (And.intro (And.intro @AV.refs.eq_def (And.intro @AC.refs.eq_def @Obj.refs.eq_def)) (And.intro (And.intro @List.map_cons.{0,0} @List.map_nil.{0,0}) (And.intro @List.all_cons.{0} @List.all_nil.{0}))) (And.intro (And.intro (And.intro @List.flatMap_cons.{0,0} @List.flatMap_nil.{0,0}) (And.intro @List.contains_nil.{0} @List.contains_cons.{0})) (And.intro (And.intro @List.append_nil.{0} @List.nil_append.{0}) (And.intro @List.cons_append.{0} @Bool.and_true))))))) (And.intro (And.intro (And.intro (And.intro (And.intro (And.intro @Bool.true_and (And.intro @Bool.not_true @Bool.not_false)) (And.intro (And.intro @Bool.and_self @Option.isNone_none.{0}) (And.intro @Option.isNone_some.{0} @List.length_cons.{0}))) (And.intro (And.intro @List.length_nil.{0} (And.intro @List.toList_toArray.{0} @List.getElem?_toArray.{0})) (And.intro (And.intro @splice.eq_def @List.take_succ_cons.{0}) (And.intro @List.drop_succ_cons.{0} @List.take_zero.{0})))) (And.intro (And.intro (And.intro @List.drop_zero.{0} (And.intro @List.take_nil.{0} @List.drop_nil.{0})) (And.intro (And.intro @Nat.zero_add @Nat.add_zero) (And.intro @and_self @true_and))) (And.intro (And.intro @and_true (And.intro @List.getElem?_cons_zero.{0} @List.getElem?_cons_succ.{0})) (And.intro (And.intro @List.getElem?_nil.{0} @beq_self_eq_true.{0}) (And.intro @Bool.or_false @Bool.false_or))))) (And.intro (And.intro (And.intro (And.intro @Bool.or_true (And.intro @Bool.true_or @putR.eq_def)) (And.intro (And.intro @bne_self_eq_false.{0} @Bool.and_false) (And.intro @Bool.false_and @id_eq.{1}))) (And.intro (And.intro @Obj.k.eq_def (And.intro @Obj.len.eq_def @Obj.deep.eq_def)) (And.intro (And.intro @List.getElem?_cons.{0} @List.set_cons_zero.{0}) (And.intro @List.set_cons_succ.{0} @List.length_set.{0})))) (And.intro (And.intro (And.intro @aopsT.eq_1 (And.intro @aopsT.eq_2 @astepT.eq_def)) (And.intro (And.intro @isCall.eq_def @acallT.eq_def) (And.intro @arg1.eq_def @argV_raw))) (And.intro (And.intro (And.intro @argV_nil @argV_own) (And.intro @argV_view @argV_agg)) (And.intro (And.intro @argV_sl @argV_int) (And.intro @argV_bool @argV_tag)))))) (And.intro (And.intro (And.intro (And.intro (And.intro (And.intro (And.intro @isOwn.eq_def @isPin.eq_def) (And.intro (And.intro @callP.eq_def @pinE_pin) (And.intro @putP_some @Tab.pin.eq_def))) (And.intro @callE.eq_def @ownKey.eq_def)) (And.intro (And.intro @rowE_row @putE_some) (And.intro @putE_none @Tab.own.eq_def))) (And.intro (And.intro @Tab.at'.eq_def (And.intro @atArgs_eq @Option.isSome_some.{0})) (And.intro (And.intro @Option.isSome_none.{0} @gotT_some) (And.intro @gotF_some @gotF_none)))) (And.intro (And.intro (And.intro @callRefs_call (And.intro @St.frzs.eq_1 @St.frzs.eq_2)) (And.intro (And.intro @St.frz.eq_def @AC.frz.eq_def) (And.intro @AV.frz.eq_def @Obj.frz.eq_def))) (And.intro (And.intro (And.intro @frzR.eq_1 @frzR.eq_2) (And.intro @frzH.eq_1 @frzH.eq_2)) (And.intro (And.intro @telT_some @List.size_toArray.{0}) (And.intro @aargs.eq_1 @aargs.eq_2))))) (And.intro (And.intro (And.intro (And.intro @aargs.eq_3 (And.intro @argAV.eq_def @argCells.eq_1)) (And.intro (And.intro @argCells.eq_2 @argCells.eq_3) (And.intro @argCell.eq_def @fnId.eq_def))) (And.intro (And.intro @opRefs_nil (And.intro @opRefs_cons @St.got.eq_def)) (And.intro (And.intro @resACs.eq_1 @resACs.eq_2) (And.intro @resAC.eq_def @outAV.eq_def)))) (And.intro (And.intro (And.intro @Res.scalar.eq_def (And.intro @isSl.eq_def @Tab.add.eq_def)) (And.intro (And.intro @Tab.none.eq_def @tab1.eq_def) (And.intro @tab2.eq_def @tab3.eq_def))) (And.intro (And.intro (And.intro @codL_d @codLL_d) (And.intro @codI_d @codB_d)) (And.intro (And.intro @codCts_d @List.isEmpty_nil.{0}) (And.intro @List.isEmpty_cons.{0} @List.append_eq.{0})))))))):=(And.intro (And.intro (And.intro (And.intro (And.intro (And.intro (And.intro @arun.eq_1 (And.intro @arun.eq_2 @astep.eq_def)) (And.intro (And.intro @anew.eq_def @amut.eq_def) (And.intro @isMut.eq_def @awanted.eq_def))) (And.intro (And.intro @avG.eq_def (And.intro @Bool.true_beq @Bool.false_beq)) (And.intro (And.intro @beq_true @beq_false) (And.intro @dstOK.eq_def @cfg.eq_def)))) (And.intro (And.intro (And.intro @opv.eq_def (And.intro @noJunk.eq_def @constAV.eq_def)) (And.intro (And.intro @look_eq @lookB.eq_1) (And.intro @lookB.eq_2 @insR_eq))) (And.intro (And.intro @insB.eq_1 (And.intro @insB.eq_2 @cond_true.{1})) (And.intro (And.intro @cond_false.{1} @insAll.eq_def) (And.intro @List.foldr_cons.{0,0} @List.foldr_nil.{0,0}))))) (And.intro (And.intro (And.intro (And.intro @Option.bind_some.{0,0} (And.intro @Option.map_some.{0,0} @Option.bind_none.{0,0})) (And.intro (And.intro @Option.map_none.{0,0} @Option.getD_some.{0}) (And.intro @Option.getD_none.{0} @Bool.false_eq_true))) (And.intro (And.intro @decide_true (And.intro @decide_false @slT.eq_def)) (And.intro (And.intro @tyT.eq_def (And.intro @tyT2.eq_def (And.intro @tyT3.eq_def @slT2.eq_def))) (And.intro @fsT.eq_def @avD.eq_def)))) (And.intro (And.intro (And.intro @avI.eq_def (And.intro @avB.eq_def @dval.eq_def)) (And.intro (And.intro @un_int @un_bool) (And.intro @un_raw @un_sl))) (And.intro (And.intro (And.intro @un_tag @avun_val) (And.intro @avun_nil @avun_own)) (And.intro (And.intro @avun_view @abin.eq_def) (And.intro @aun.eq_def @alen.eq_def)))))) (And.intro (And.intro (And.intro (And.intro (And.intro @aindex.eq_def (And.intro @aslice.eq_def @afield.eq_def)) (And.intro (And.intro @acells.eq_def @aload.eq_def) (And.intro @avCells.eq_def @zAC.eq_def))) (And.intro (And.intro @afill.eq_1 (And.intro @afill.eq_2 @aparts.eq_1)) (And.intro (And.intro @aparts.eq_2 @mkObj.eq_def) (And.intro @rowsD.eq_1 @rowsD.eq_2)))) (And.intro (And.intro (And.intro @cellsD.eq_1 (And.intro @cellsD.eq_2 @cellsD.eq_3)) (And.intro (And.intro @cellD_vsl @cellD_vtag) (And.intro @cellD_vint @cellD_vbool))) (And.intro (And.intro @cellD_vraw (And.intro @cellD_nilsl @cellD_own)) (And.intro (And.intro @cellD_view @cellD_junk) (And.intro @fresh.eq_def @abase.eq_def))))) (And.intro (And.intro (And.intro (And.intro @aelems.eq_def (And.intro @absorbKey.eq_def @absorbs.eq_1)) (And.intro (And.intro @absorbs.eq_2 @absorbs.eq_3) (And.intro @absorb.eq_def @absorbRows.eq_1))) (And.intro (And.intro @absorbRows.eq_2 (And.intro @drop_eq @dropB.eq_1)) (And.intro (And.intro @dropB.eq_2 @killR.eq_def) (And.intro @AC.kill.eq_def @AV.kill.eq_def)))) (And.intro (And.intro (And.intro @AV.refs.eq_def (And.intro @AC.refs.eq_def @Obj.refs.eq_def)) (And.intro (And.intro @List.map_cons.{0,0} @List.map_nil.{0,0}) (And.intro @List.all_cons.{0} @List.all_nil.{0}))) (And.intro (And.intro (And.intro @List.flatMap_cons.{0,0} @List.flatMap_nil.{0,0}) (And.intro @List.contains_nil.{0} @List.contains_cons.{0})) (And.intro (And.intro @List.append_nil.{0} @List.nil_append.{0}) (And.intro @List.cons_append.{0} @Bool.and_true))))))) (And.intro (And.intro (And.intro (And.intro (And.intro (And.intro @Bool.true_and (And.intro @Bool.not_true @Bool.not_false)) (And.intro (And.intro @Bool.and_self @Option.isNone_none.{0}) (And.intro @Option.isNone_some.{0} @List.length_cons.{0}))) (And.intro (And.intro @List.length_nil.{0} (And.intro @List.toList_toArray.{0} @List.getElem?_toArray.{0})) (And.intro (And.intro @splice.eq_def @List.take_succ_cons.{0}) (And.intro @List.drop_succ_cons.{0} @List.take_zero.{0})))) (And.intro (And.intro (And.intro @List.drop_zero.{0} (And.intro @List.take_nil.{0} @List.drop_nil.{0})) (And.intro (And.intro @Nat.zero_add @Nat.add_zero) (And.intro @and_self @true_and))) (And.intro (And.intro @and_true (And.intro @List.getElem?_cons_zero.{0} @List.getElem?_cons_succ.{0})) (And.intro (And.intro @List.getElem?_nil.{0} @beq_self_eq_true.{0}) (And.intro @Bool.or_false @Bool.false_or))))) (And.intro (And.intro (And.intro (And.intro @Bool.or_true (And.intro @Bool.true_or @putR.eq_def)) (And.intro (And.intro @bne_self_eq_false.{0} @Bool.and_false) (And.intro @Bool.false_and @id_eq.{1}))) (And.intro (And.intro @Obj.k.eq_def (And.intro @Obj.len.eq_def @Obj.deep.eq_def)) (And.intro (And.intro @List.getElem?_cons.{0} @List.set_cons_zero.{0}) (And.intro @List.set_cons_succ.{0} @List.length_set.{0})))) (And.intro (And.intro (And.intro @aopsT.eq_1 (And.intro @aopsT.eq_2 @astepT.eq_def)) (And.intro (And.intro @isCall.eq_def @acallT.eq_def) (And.intro @arg1.eq_def @argV_raw))) (And.intro (And.intro (And.intro @argV_nil @argV_own) (And.intro @argV_view @argV_agg)) (And.intro (And.intro @argV_sl @argV_int) (And.intro @argV_bool @argV_tag)))))) (And.intro (And.intro (And.intro (And.intro (And.intro (And.intro (And.intro @isOwn.eq_def @isPin.eq_def) (And.intro (And.intro @callP.eq_def @pinE_pin) (And.intro @putP_some @Tab.pin.eq_def))) (And.intro @callE.eq_def @ownKey.eq_def)) (And.intro (And.intro @rowE_row @putE_some) (And.intro @putE_none @Tab.own.eq_def))) (And.intro (And.intro @Tab.at'.eq_def (And.intro @atArgs_eq @Option.isSome_some.{0})) (And.intro (And.intro @Option.isSome_none.{0} @gotT_some) (And.intro @gotF_some @gotF_none)))) (And.intro (And.intro (And.intro @callRefs_call (And.intro @St.frzs.eq_1 @St.frzs.eq_2)) (And.intro (And.intro @St.frz.eq_def @AC.frz.eq_def) (And.intro @AV.frz.eq_def @Obj.frz.eq_def))) (And.intro (And.intro (And.intro @frzR.eq_1 @frzR.eq_2) (And.intro @frzH.eq_1 @frzH.eq_2)) (And.intro (And.intro @telT_some @List.size_toArray.{0}) (And.intro @aargs.eq_1 @aargs.eq_2))))) (And.intro (And.intro (And.intro (And.intro @aargs.eq_3 (And.intro @argAV.eq_def @argCells.eq_1)) (And.intro (And.intro @argCells.eq_2 @argCells.eq_3) (And.intro @argCell.eq_def @fnId.eq_def))) (And.intro (And.intro @opRefs_nil (And.intro @opRefs_cons @St.got.eq_def)) (And.intro (And.intro @resACs.eq_1 @resACs.eq_2) (And.intro @resAC.eq_def @outAV.eq_def)))) (And.intro (And.intro (And.intro @Res.scalar.eq_def (And.intro @isSl.eq_def @Tab.add.eq_def)) (And.intro (And.intro @Tab.none.eq_def @tab1.eq_def) (And.intro @tab2.eq_def @tab3.eq_def))) (And.intro (And.intro (And.intro @codL_d @codLL_d) (And.intro @codI_d @codB_d)) (And.intro (And.intro @codCts_d @List.isEmpty_nil.{0}) (And.intro @List.isEmpty_cons.{0} @List.append_eq.{0}))))))))
theorem Zd:type_of% (And.intro @telT_none (And.intro (And.intro (And.intro (And.intro @dregT_mk (And.intro @drunT.eq_1 @drunT.eq_2)) (And.intro @devalT.eq_def (And.intro @deval.eq_def @St.add.eq_def))) (And.intro (And.intro @opnd_move (And.intro @opnd_assign @opnd_load)) (And.intro (And.intro @opnd_box @opnd_alloc) (And.intro @opnd_unOp @opnd_convert)))) (And.intro (And.intro (And.intro @opnd_field (And.intro @opnd_extract @opnd_index)) (And.intro @opnd_make (And.intro @opnd_bin @opnd_pick))) (And.intro (And.intro @opnd_build (And.intro @opnd_buildSlice @opnd_slice)) (And.intro (And.intro @opnd_call @opnd_bcall) (And.intro @Option.toList_some.{0} @Option.toList_none.{0})))))):=(And.intro @telT_none (And.intro (And.intro (And.intro (And.intro @dregT_mk (And.intro @drunT.eq_1 @drunT.eq_2)) (And.intro @devalT.eq_def (And.intro @deval.eq_def @St.add.eq_def))) (And.intro (And.intro @opnd_move (And.intro @opnd_assign @opnd_load)) (And.intro (And.intro @opnd_box @opnd_alloc) (And.intro @opnd_unOp @opnd_convert)))) (And.intro (And.intro (And.intro @opnd_field (And.intro @opnd_extract @opnd_index)) (And.intro @opnd_make (And.intro @opnd_bin @opnd_pick))) (And.intro (And.intro @opnd_build (And.intro @opnd_buildSlice @opnd_slice)) (And.intro (And.intro @opnd_call @opnd_bcall) (And.intro @Option.toList_some.{0} @Option.toList_none.{0}))))))
theorem Zu:type_of% (And.intro (And.intro @cutR.eq_1 @cutR.eq_2) (And.intro @cond_true.{1} @cond_false.{1})):=(And.intro (And.intro @cutR.eq_1 @cutR.eq_2) (And.intro @cond_true.{1} @cond_false.{1}))
theorem Zz:type_of% (And.intro (And.intro (And.intro @look_eq @lookB.eq_1) (And.intro @lookB.eq_2 (And.intro @cond_true.{1} @cond_false.{1}))) (And.intro (And.intro @List.length_append.{0} (And.intro @List.length_map.{0,0} @List.length_cons.{0})) (And.intro @List.length_nil.{0} (And.intro @Nat.zero_add @List.length_set.{0})))):=(And.intro (And.intro (And.intro @look_eq @lookB.eq_1) (And.intro @lookB.eq_2 (And.intro @cond_true.{1} @cond_false.{1}))) (And.intro (And.intro @List.length_append.{0} (And.intro @List.length_map.{0,0} @List.length_cons.{0})) (And.intro @List.length_nil.{0} (And.intro @Nat.zero_add @List.length_set.{0}))))
theorem Zv:type_of% (And.intro (And.intro @List.map_append.{0,0} (And.intro @List.map_cons.{0,0} @List.map_nil.{0,0})) (And.intro (And.intro @List.append_assoc.{0} @List.cons_append.{0}) (And.intro @List.nil_append.{0} @List.append_nil.{0}))):=(And.intro (And.intro @List.map_append.{0,0} (And.intro @List.map_cons.{0,0} @List.map_nil.{0,0})) (And.intro (And.intro @List.append_assoc.{0} @List.cons_append.{0}) (And.intro @List.nil_append.{0} @List.append_nil.{0})))
theorem Zk:type_of% (And.intro (And.intro (And.intro @Tel.sh.eq_def @List.map_cons.{0,0}) (And.intro @List.map_nil.{0,0} (And.intro @AV.refs.eq_def @AC.refs.eq_def))) (And.intro (And.intro @List.flatMap_cons.{0,0} @List.flatMap_nil.{0,0}) (And.intro @List.append_nil.{0} (And.intro @List.nil_append.{0} @Obj.refs.eq_def)))):=(And.intro (And.intro (And.intro @Tel.sh.eq_def @List.map_cons.{0,0}) (And.intro @List.map_nil.{0,0} (And.intro @AV.refs.eq_def @AC.refs.eq_def))) (And.intro (And.intro @List.flatMap_cons.{0,0} @List.flatMap_nil.{0,0}) (And.intro @List.append_nil.{0} (And.intro @List.nil_append.{0} @Obj.refs.eq_def))))
theorem Ze:type_of% (And.intro (And.intro @aresults.eq_1 @aresults.eq_2) (And.intro @aresults.eq_3 @ares.eq_def)):=(And.intro (And.intro @aresults.eq_1 @aresults.eq_2) (And.intro @aresults.eq_3 @ares.eq_def))
theorem Q1:type_of% @RunK.seq:=@RunK.seq
theorem Q2:type_of% @RunK.next:=@RunK.next
theorem Q3:type_of% @RunK.skip:=@RunK.skip
theorem Q4:type_of% @RunK.exit:=@RunK.exit
theorem Q5:type_of% @RunK.ret:=@RunK.ret
theorem Q6:type_of% @RunK.label:=@RunK.label
theorem Q7:type_of% @outK.blkN:=@outK.blkN
theorem Q8:type_of% @outK.blkX:=@outK.blkX
theorem Q9:type_of% @outK.seqX:=@outK.seqX
theorem Qa:type_of% @outK.seqR:=@outK.seqR
theorem Qb:type_of% @outK.blkR:=@outK.blkR
theorem Qc:type_of% @RunK.blockS:=@RunK.blockS
theorem Qd:type_of% @RunK.blockR:=@RunK.blockR
theorem Qe:type_of% @RunK.blockC:=@RunK.blockC
theorem Qf:type_of% @RunK.blockB:=@RunK.blockB
theorem Qo:type_of% @outK.blkO:=@outK.blkO
theorem QT:type_of% @RunK.wT:=@RunK.wT
theorem QF:type_of% @RunK.wF:=@RunK.wF
theorem QS:type_of% @RunK.wS:=@RunK.wS
theorem QC:type_of% @RunK.wC:=@RunK.wC
theorem QD:type_of% @RunK.wD:=@RunK.wD
theorem QW:type_of% @Work.mk:=@Work.mk
theorem QK:type_of% @ChkD.mk:=@ChkD.mk
theorem Qn:type_of% @Fits.nil:=@Fits.nil
theorem Qr:type_of% @Fits.reg:=@Fits.reg
theorem Qj:type_of% @Fits.obj:=@Fits.obj
theorem Qw:type_of% @wk.same:=@wk.same
end Go.Proofs.Ytofpjonggpjneaa
namespace Go.Proofs.Ytofpjonggpjneaa
def lastBig (t:List Int):Nat→Nat
 | 0 => 0
 | p + 1 => if t.getD p 0 ≤ 1 then lastBig t p else p + 1
def lastEq (t:List Int) (l:Int):Nat→Nat
 | 0 => 0
 | q + 1 => if t.getD q 0 = l then q else lastEq t l q
def copyFrom (p q:Nat):Nat→List Int→List Int
 | 0,t => t
 | k + 1,t => (copyFrom p q k t).set (p + k) ((copyFrom p q k t).getD (p + k - (p - q)) 0)
def nextT (t:List Int):Option (List Int) :=
 match lastBig t t.length with
 | 0 => none
 | p + 1 => some (copyFrom p (lastEq t (t.getD p 0 - 1) p) (t.length - p) t)
def treesF:Nat→List Int→List (List Int)
 | 0,_ => []
 | f + 1,t => t :: match nextT t with
  | none => []
  | some s => treesF f s
def treesN (n:Nat):List (List Int):=treesF 120 ((List.range n).map fun (i:Nat) => (i:Int))
theorem trees_len:[1,2,3,4,5,6,7,8].map (fun n => (treesN n).length) = [1,1,2,4,9,20,48,115]:=by decide +kernel
end Go.Proofs.Ytofpjonggpjneaa
namespace Go.Proofs.Ytofpjonggpjneaa
open Go.RowKit
theorem a_slicesClone (xs:List Int) (h:xs.length ≤ 1000000000):AFn Try.prog 155 [eL xs] (· = [.own 1 (xs.map eI) true]):=afn_L_o (enters_of Try.func155 rfl rfl) (fun u w h' => c_slicesClone u xs w h' h)
def stepOk (n:Nat) (t:List Int):Bool :=
 t.length == n && t.all (fun x => decide (0 ≤ x) && decide (x ≤ 8)) && (match lastBig t n with
  | 0 => true
  | p + 1 => decide (p < n) && (let q:=lastEq t (t.getD p 0 - 1) p;decide (q < p) && t.getD q 0 == t.getD p 0 - 1))
theorem step_all:∀ n ∈ [1,2,3,4,5,6,7,8],(treesN n).all (stepOk n) = true:=by decide +kernel
theorem copyFrom_len (p q:Nat) (t:List Int):∀ k,(copyFrom p q k t).length = t.length
 | 0 => rfl
 | k + 1 => by unfold copyFrom;rw [List.length_set,copyFrom_len p q t k]
set_option maxHeartbeats 4000000 in
theorem a_treesOf (n:Nat) (hn:n ∈ [1,2,3,4,5,6,7,8]):AFn Try.prog 96 [eI n] (· = [.own 1 ((treesN n).map eL) true]):=by
 have hn8:1 ≤ n∧n ≤ 8:=by simp at hn;omega
 have hlen:(treesN n).length ≤ 115:=by
  have:=trees_len
  simp at hn
  rcases hn with rfl|rfl|rfl|rfl|rfl|rfl|rfl|rfl <;> simp at this <;> omega
 have hok:=List.all_eq_true.1 (step_all n hn)
 refine AFn.of_runs (cfg_ok 72) Try.func96 rfl rfl rfl (by simp only [List.length_cons,List.length_nil];decide) ?_
 have hres:Try.f96.results.toList = [.tmp 2]:=rfl
 have hrts:Try.f96.resultTypes.toList = [30]:=rfl
 simp only [argRegs,argAV1,eL,eI,eLL,eB,Nat.zero_add,Nat.reduceAdd]
 intro M
 refine RunK.of ?_
 repeat' (first|with_reducible (first|refine Q1 ?_|refine Q2 ?_|refine Q3 ?_|refine Q4 ?_|refine Q5 ?_|refine Q6 ?_|refine Q7 ?_|refine Q8 ?_|refine Q9 ?_|refine Qa ?_|refine Qb ?_|refine Qc ?_|refine Qd ?_|refine Qe ?_|refine Qf ?_)|((with_reducible refine Qo ?_ ?_);focus rfl)|((with_reducible first|refine QT 13 (l:=?_) ?_ ?_|refine QF 13 (l:=?_) ?_ ?_);rotate_left 1;focus (simp only [Zu,Nat.reduceSub,Nat.reduceBEq];with_reducible rfl))|((with_reducible first|refine QS (cfg_ok 72) Tab.none (s':=?_) ?_ ?_|refine QC (b:=?_) ?_ ?_);rotate_left 1;focus ((with_reducible refine QW ?_);simp only [Zg,seval,if_true,if_false,reduceCtorEq,Nat.reduceEqDiff];with_reducible rfl)))
 refine RunK.loop (β:=Nat) (γ:=Unit) (fun i => ⟨[(0,.c (.val (.int n))),(3,.c (.own 3 i)),(4,.c (.own 4 0)),(11,.c (.val (.int n))),(12,.c (.val (.int i)))],[(3,.row 1 ((List.range i).map fun (j:Nat) => [.int j]) true),(4,.row 1 [] true)]⟩) (fun i => i ≤ n) (fun i => n - i)
  (fun _ => ⟨[(0,.c (.val (.int n))),(3,.c (.own 3 n)),(4,.c (.own 4 0))],[(3,.row 1 ((List.range n).map fun (j:Nat) => [.int j]) true),(4,.row 1 [] true)]⟩) (fun _ => True) 0 (Nat.zero_le _) ?_ ?_ ?_
 ·(repeat' (first|with_reducible refine Qn|((with_reducible refine Qr ?_ ?_);focus (first|with_reducible rfl|(simp only [Zz,Nat.reduceBEq,List.range_zero];done)|rfl))|((with_reducible refine Qj (o':=?_) ?_ ?_ ?_);rotate_left 1;focus rfl)|((with_reducible refine Qw ?_ ?_);(focus (first|with_reducible rfl|(simp only [Zv,List.range_zero];done)));focus (first|exact id|exact (fun h => nomatch h)|exact (fun _ => rfl)))))
 ·intro i hi
  have hw:=w64_succ (n:=i) (by omega)
  have q1:=big_le (n:=i + 1) (by omega)
  have q2:=big_mul (n:=i + 1) (c:=8) (by omega) (by omega)
  by_cases h:i < n
  ·have i1:((i:Int) < (n:Int)) = True:=eq_true (by omega)
   repeat' (first|with_reducible (first|refine Q1 ?_|refine Q2 ?_|refine Q3 ?_|refine Q4 ?_|refine Q5 ?_|refine Q6 ?_|refine Q7 ?_|refine Q8 ?_|refine Q9 ?_|refine Qa ?_|refine Qb ?_|refine Qc ?_|refine Qd ?_|refine Qe ?_|refine Qf ?_)|((with_reducible refine Qo ?_ ?_);focus rfl)|((with_reducible first|refine QT 13 (l:=?_) ?_ ?_|refine QF 13 (l:=?_) ?_ ?_);rotate_left 1;focus (simp only [Zu,Nat.reduceSub,Nat.reduceBEq];with_reducible rfl))|((with_reducible first|refine QS (cfg_ok 72) Tab.none (s':=?_) ?_ ?_|refine QC (b:=?_) ?_ ?_);rotate_left 1;focus ((with_reducible refine QW ?_);simp only [Zg,seval,if_true,if_false,reduceCtorEq,Nat.reduceEqDiff,List.length_map,List.length_range,i1,hw,q1,q2];with_reducible rfl)))
   refine roundK.on (i + 1) ⟨h,by omega⟩ ?_
   (repeat' (first|with_reducible refine Qn|((with_reducible refine Qr ?_ ?_);focus (first|with_reducible rfl|(simp only [Zz,Nat.reduceBEq,List.range_succ];done)|rfl))|((with_reducible refine Qj (o':=?_) ?_ ?_ ?_);rotate_left 1;focus rfl)|((with_reducible refine Qw ?_ ?_);(focus (first|with_reducible rfl|(simp only [Zv,List.range_succ];done)));focus (first|exact id|exact (fun h => nomatch h)|exact (fun _ => rfl)))))
  ·have i1:((i:Int) < (n:Int)) = False:=eq_false (by omega)
   obtain rfl:i = n:=by omega
   repeat' (first|with_reducible (first|refine Q1 ?_|refine Q2 ?_|refine Q3 ?_|refine Q4 ?_|refine Q5 ?_|refine Q6 ?_|refine Q7 ?_|refine Q8 ?_|refine Q9 ?_|refine Qa ?_|refine Qb ?_|refine Qc ?_|refine Qd ?_|refine Qe ?_|refine Qf ?_)|((with_reducible refine Qo ?_ ?_);focus rfl)|((with_reducible first|refine QT 13 (l:=?_) ?_ ?_|refine QF 13 (l:=?_) ?_ ?_);rotate_left 1;focus (simp only [Zu,Nat.reduceSub,Nat.reduceBEq];with_reducible rfl))|((with_reducible first|refine QS (cfg_ok 72) Tab.none (s':=?_) ?_ ?_|refine QC (b:=?_) ?_ ?_);rotate_left 1;focus ((with_reducible refine QW ?_);simp only [Zg,seval,if_true,if_false,reduceCtorEq,Nat.reduceEqDiff,i1];with_reducible rfl)))
   refine roundK.out () trivial ?_
   (repeat' (first|with_reducible refine Qn|((with_reducible refine Qr ?_ ?_);focus (first|with_reducible rfl|(simp only [Zz,Nat.reduceBEq];done)|rfl))|((with_reducible refine Qj (o':=?_) ?_ ?_ ?_);rotate_left 1;focus rfl)|((with_reducible refine Qw ?_ ?_);(focus (first|with_reducible rfl|(simp only [Zv];done)));focus (first|exact id|exact (fun h => nomatch h)|exact (fun _ => rfl)))))
 ·rintro _ _
  repeat' (first|with_reducible (first|refine Q1 ?_|refine Q2 ?_|refine Q3 ?_|refine Q4 ?_|refine Q5 ?_|refine Q6 ?_|refine Q7 ?_|refine Q8 ?_|refine Q9 ?_|refine Qa ?_|refine Qb ?_|refine Qc ?_|refine Qd ?_|refine Qe ?_|refine Qf ?_)|((with_reducible refine Qo ?_ ?_);focus rfl)|((with_reducible first|refine QT 13 (l:=?_) ?_ ?_|refine QF 13 (l:=?_) ?_ ?_);rotate_left 1;focus (simp only [Zu,Nat.reduceSub,Nat.reduceBEq];with_reducible rfl))|((with_reducible first|refine QS (cfg_ok 72) Tab.none (s':=?_) ?_ ?_|refine QC (b:=?_) ?_ ?_);rotate_left 1;focus ((with_reducible refine QW ?_);simp only [Zg,seval,if_true,if_false,reduceCtorEq,Nat.reduceEqDiff];with_reducible rfl)))
  refine RunK.loop (β:=Nat × List (List Int) × List Int) (γ:=Unit) (fun x => ⟨[(0,.c (.val (.int n))),(3,.c (.own 3 n)),(4,.c (.own 4 x.2.1.length))],[(3,.row 1 (x.2.2.map eI) true),(4,.row 1 (x.2.1.map eL) true)]⟩)
   (fun x => treesN n = x.2.1 ++ treesF x.1 x.2.2∧x.2.1.length + x.1 = 120∧0 < x.1) (fun x => x.1)
   (fun _ => ⟨[],[]⟩) (fun _ => False) (120,[],(List.range n).map fun (i:Nat) => (i:Int)) ⟨rfl,rfl,by show 0 < 120;omega⟩ ?_ ?_ ?_
  ·(repeat' (first|with_reducible refine Qn|((with_reducible refine Qr ?_ ?_);focus (first|with_reducible rfl|(simp only [Zz,Nat.reduceBEq,List.map_map,eI,Function.comp_def];done)|rfl))|((with_reducible refine Qj (o':=?_) ?_ ?_ ?_);rotate_left 1;focus rfl)|((with_reducible refine Qw ?_ ?_);(focus (first|with_reducible rfl|(simp only [Zv,List.map_map,eI,Function.comp_def];done)));focus (first|exact id|exact (fun h => nomatch h)|exact (fun _ => rfl)))))
  ·rintro ⟨f,done,t⟩ ⟨h1,h2,h3⟩
   have h1:treesN n = done ++ treesF f t:=h1
   have h2:done.length + f = 120:=h2
   have h3:0 < f:=h3
   obtain ⟨f,rfl⟩:∃ f',f = f' + 1:=⟨f - 1,by omega⟩
   have hmem:t ∈ treesN n:=by rw [h1];exact List.mem_append_right _ (by simp [treesF])
   have hso:=hok t hmem
   unfold stepOk at hso
   simp only [Bool.and_eq_true,beq_iff_eq] at hso
   obtain ⟨⟨htl,htb⟩,hstep⟩:=hso
   have hdl:done.length ≤ 115:=by have:=congrArg List.length h1;simp at this;omega
   have q1:=big_le (n:=done.length + 1) (by omega)
   have q2:=big_mul (n:=done.length + 1) (c:=24) (by omega) (by omega)
   have hcl:=a_slicesClone t (by omega)
   have htlI:((t.map eI).length) = n:=by simp [htl]
   have hwn:w64 ((n:Int) - 1) = (n:Int) - 1:=w64_eq (by omega)
   repeat' (first|with_reducible (first|refine Q1 ?_|refine Q2 ?_|refine Q3 ?_|refine Q4 ?_|refine Q5 ?_|refine Q6 ?_|refine Q7 ?_|refine Q8 ?_|refine Q9 ?_|refine Qa ?_|refine Qb ?_|refine Qc ?_|refine Qd ?_|refine Qe ?_|refine Qf ?_)|((with_reducible refine Qo ?_ ?_);focus rfl)|((with_reducible first|refine QT 13 (l:=?_) ?_ ?_|refine QF 13 (l:=?_) ?_ ?_);rotate_left 1;focus (simp only [Zu,Nat.reduceSub,Nat.reduceBEq];with_reducible rfl))|((with_reducible first|refine QS (cfg_ok 72) (Tab.none.at' 155 hcl) (s':=?_) ?_ ?_|refine QC (b:=?_) ?_ ?_);rotate_left 1;focus ((with_reducible refine QW ?_);simp only [Zg,seval,if_true,if_false,reduceCtorEq,Nat.reduceEqDiff,eL,htlI,List.length_map,htl,q1,q2,hwn];with_reducible rfl)))
   have hget:∀ {k:Nat} (hk:k < n),(t.map eI)[k]? = some [.int (t.getD k 0)]:=by
    intro k hk
    rw [map_get (by omega)];simp [eI,List.getD_eq_getElem?_getD,List.getElem?_eq_getElem (show k < t.length by omega)]
   have hbd:∀ {k:Nat} (hk:k < n),0 ≤ t.getD k 0∧t.getD k 0 ≤ 8:=by
    intro k hk
    have:=List.all_eq_true.1 htb (t.getD k 0) (by rw [List.getD_eq_getElem?_getD,List.getElem?_eq_getElem (show k < t.length by omega)];exact List.getElem_mem _)
    simpa using this
   refine RunK.loop (β:=Nat) (γ:=Nat) (fun m => ⟨[(0,.c (.val (.int n))),(3,.c (.own 3 n)),(4,.c (.own 4 (done.length + 1))),(6,.c (.val (.int ((m:Int) - 1))))],[(3,.row 1 (t.map eI) true),(4,.row 1 (done.map eL ++ [[.sl 1 (t.map eI)]]) true)]⟩)
    (fun m => m ≤ n∧lastBig t n = lastBig t m) (fun m => m)
    (fun m => ⟨[(0,.c (.val (.int n))),(3,.c (.own 3 n)),(4,.c (.own 4 (done.length + 1))),(6,.c (.val (.int ((m:Int) - 1))))],[(3,.row 1 (t.map eI) true),(4,.row 1 (done.map eL ++ [[.sl 1 (t.map eI)]]) true)]⟩) (fun m => lastBig t n = m) n ⟨Nat.le_refl _,rfl⟩ ?_ ?_ ?_
   ·(repeat' (first|with_reducible refine Qn|((with_reducible refine Qr ?_ ?_);focus (first|with_reducible rfl|(simp only [Zz,Nat.reduceBEq];done)|rfl))|((with_reducible refine Qj (o':=?_) ?_ ?_ ?_);rotate_left 1;focus rfl)|((with_reducible refine Qw ?_ ?_);(focus (first|with_reducible rfl|(simp only [Zv];done)));focus (first|exact id|exact (fun h => nomatch h)|exact (fun _ => rfl)))))
   ·rintro m ⟨hm,hlb⟩
    rcases m with _|k
    ·have i1:((((0:Nat):Int) - 1) ≥ 0) = False:=eq_false (by omega)
     repeat' (first|with_reducible (first|refine Q1 ?_|refine Q2 ?_|refine Q3 ?_|refine Q4 ?_|refine Q5 ?_|refine Q6 ?_|refine Q7 ?_|refine Q8 ?_|refine Q9 ?_|refine Qa ?_|refine Qb ?_|refine Qc ?_|refine Qd ?_|refine Qe ?_|refine Qf ?_)|((with_reducible refine Qo ?_ ?_);focus rfl)|((with_reducible first|refine QT 13 (l:=?_) ?_ ?_|refine QF 13 (l:=?_) ?_ ?_);rotate_left 1;focus (simp only [Zu,Nat.reduceSub,Nat.reduceBEq];with_reducible rfl))|((with_reducible first|refine QS (cfg_ok 72) Tab.none (s':=?_) ?_ ?_|refine QC (b:=?_) ?_ ?_);rotate_left 1;focus ((with_reducible refine QW ?_);simp only [Zg,seval,if_true,if_false,reduceCtorEq,Nat.reduceEqDiff,i1];with_reducible rfl)))
     refine roundK.out 0 hlb ?_
     (repeat' (first|with_reducible refine Qn|((with_reducible refine Qr ?_ ?_);focus (first|with_reducible rfl|(simp only [Zz,Nat.reduceBEq];done)|rfl))|((with_reducible refine Qj (o':=?_) ?_ ?_ ?_);rotate_left 1;focus rfl)|((with_reducible refine Qw ?_ ?_);(focus (first|with_reducible rfl|(simp only [Zv];done)));focus (first|exact id|exact (fun h => nomatch h)|exact (fun _ => rfl)))))
    ·have hA:(((k + 1:Nat):Int) - 1) = (k:Int):=by omega
     have i1:((k:Int) ≥ 0) = True:=eq_true (by omega)
     have i2:((0:Int) ≤ (k:Int)) = True:=eq_true (by omega)
     have i5:((k:Int) < (n:Int)) = True:=eq_true (by have:k + 1 ≤ n:=hm;omega)
     have hk:=hget (k:=k) (by have:k + 1 ≤ n:=hm;omega)
     have hw:w64 ((k:Int) - 1) = (k:Int) - 1:=w64_eq (by omega)
     by_cases hle:t.getD k 0 ≤ 1
     ·have i3:(t.getD k 0 ≤ 1) = True:=eq_true hle
      repeat' (first|with_reducible (first|refine Q1 ?_|refine Q2 ?_|refine Q3 ?_|refine Q4 ?_|refine Q5 ?_|refine Q6 ?_|refine Q7 ?_|refine Q8 ?_|refine Q9 ?_|refine Qa ?_|refine Qb ?_|refine Qc ?_|refine Qd ?_|refine Qe ?_|refine Qf ?_)|((with_reducible refine Qo ?_ ?_);focus rfl)|((with_reducible first|refine QT 13 (l:=?_) ?_ ?_|refine QF 13 (l:=?_) ?_ ?_);rotate_left 1;focus (simp only [Zu,Nat.reduceSub,Nat.reduceBEq];with_reducible rfl))|((with_reducible first|refine QS (cfg_ok 72) Tab.none (s':=?_) ?_ ?_|refine QC (b:=?_) ?_ ?_);rotate_left 1;focus ((with_reducible refine QW ?_);simp only [Zg,seval,if_true,if_false,reduceCtorEq,Nat.reduceEqDiff,hA,i1,i2,i5,hk,i3,hw,htlI,Int.toNat_natCast];with_reducible rfl)))
      refine roundK.on k ⟨⟨by omega,?_⟩,by omega⟩ ?_
      ·rw [hlb]
       show (if t.getD k 0 ≤ 1 then lastBig t k else k + 1) = lastBig t k
       rw [if_pos hle]
      ·(repeat' (first|with_reducible refine Qn|((with_reducible refine Qr ?_ ?_);focus (first|with_reducible rfl|(simp only [Zz,Nat.reduceBEq];done)|rfl))|((with_reducible refine Qj (o':=?_) ?_ ?_ ?_);rotate_left 1;focus rfl)|((with_reducible refine Qw ?_ ?_);(focus (first|with_reducible rfl|(simp only [Zv];done)));focus (first|exact id|exact (fun h => nomatch h)|exact (fun _ => rfl)))))
     ·have i3:(t.getD k 0 ≤ 1) = False:=eq_false hle
      repeat' (first|with_reducible (first|refine Q1 ?_|refine Q2 ?_|refine Q3 ?_|refine Q4 ?_|refine Q5 ?_|refine Q6 ?_|refine Q7 ?_|refine Q8 ?_|refine Q9 ?_|refine Qa ?_|refine Qb ?_|refine Qc ?_|refine Qd ?_|refine Qe ?_|refine Qf ?_)|((with_reducible refine Qo ?_ ?_);focus rfl)|((with_reducible first|refine QT 13 (l:=?_) ?_ ?_|refine QF 13 (l:=?_) ?_ ?_);rotate_left 1;focus (simp only [Zu,Nat.reduceSub,Nat.reduceBEq];with_reducible rfl))|((with_reducible first|refine QS (cfg_ok 72) Tab.none (s':=?_) ?_ ?_|refine QC (b:=?_) ?_ ?_);rotate_left 1;focus ((with_reducible refine QW ?_);simp only [Zg,seval,if_true,if_false,reduceCtorEq,Nat.reduceEqDiff,hA,i1,i2,i5,hk,i3,hw,htlI,Int.toNat_natCast];with_reducible rfl)))
      refine roundK.out (k + 1) ?_ ?_
      ·rw [hlb]
       show (if t.getD k 0 ≤ 1 then lastBig t k else k + 1) = k + 1
       rw [if_neg hle]
      ·(repeat' (first|with_reducible refine Qn|((with_reducible refine Qr ?_ ?_);focus (first|with_reducible rfl|(simp only [Zz,Nat.reduceBEq,hA];done)|rfl))|((with_reducible refine Qj (o':=?_) ?_ ?_ ?_);rotate_left 1;focus rfl)|((with_reducible refine Qw ?_ ?_);(focus (first|with_reducible rfl|(simp only [Zv,hA];done)));focus (first|exact id|exact (fun h => nomatch h)|exact (fun _ => rfl)))))
   ·intro m hm
    have hm:lastBig t n = m:=hm
    rw [hm] at hstep
    rcases m with _|p
    ·have i1:((((0:Nat):Int) - 1) < 0) = True:=eq_true (by omega)
     repeat' (first|with_reducible (first|refine Q1 ?_|refine Q2 ?_|refine Q3 ?_|refine Q4 ?_|refine Q5 ?_|refine Q6 ?_|refine Q7 ?_|refine Q8 ?_|refine Q9 ?_|refine Qa ?_|refine Qb ?_|refine Qc ?_|refine Qd ?_|refine Qe ?_|refine Qf ?_)|((with_reducible refine Qo ?_ ?_);focus rfl)|((with_reducible first|refine QT 13 (l:=?_) ?_ ?_|refine QF 13 (l:=?_) ?_ ?_);rotate_left 1;focus (simp only [Zu,Nat.reduceSub,Nat.reduceBEq];with_reducible rfl))|((with_reducible first|refine QS (cfg_ok 72) Tab.none (s':=?_) ?_ ?_|refine QC (b:=?_) ?_ ?_);rotate_left 1;focus ((with_reducible refine QW ?_);simp only [Zg,seval,if_true,if_false,reduceCtorEq,Nat.reduceEqDiff,i1];with_reducible rfl)))
     have hnx:nextT t = none:=by unfold nextT;rw [htl,hm]
     have htr:treesN n = done ++ [t]:=by rw [h1];unfold treesF;rw [hnx]
     refine roundK.ret ?_
     repeat' (first|with_reducible (first|refine Q1 ?_|refine Q2 ?_|refine Q3 ?_|refine Q4 ?_|refine Q5 ?_|refine Q6 ?_|refine Q7 ?_|refine Q8 ?_|refine Q9 ?_|refine Qa ?_|refine Qb ?_|refine Qc ?_|refine Qd ?_|refine Qe ?_|refine Qf ?_)|((with_reducible refine Qo ?_ ?_);focus rfl)|((with_reducible first|refine QT 13 (l:=?_) ?_ ?_|refine QF 13 (l:=?_) ?_ ?_);rotate_left 1;focus (simp only [Zu,Nat.reduceSub,Nat.reduceBEq];with_reducible rfl))|((with_reducible first|refine QS (cfg_ok 72) Tab.none (s':=?_) ?_ ?_|refine QC (b:=?_) ?_ ?_);rotate_left 1;focus ((with_reducible refine QW ?_);simp only [Zg,seval,if_true,if_false,reduceCtorEq,Nat.reduceEqDiff];with_reducible rfl)))
     rw [htr]
     (refine Ends.mk (by simp) (rs:=?_) (ks:=?_) hres hrts ?_ ?_ ?_;rotate_left 2;(focus (simp only [Ze,Zg,seval,if_true,if_false,reduceCtorEq,Nat.reduceEqDiff,List.map_append,List.map_cons,List.map_nil,eL];with_reducible rfl));(focus simp);focus (first|with_reducible rfl|(simp only [Zv,List.map_append,List.map_cons,List.map_nil,eL];done)))
    ·have hA:(((p + 1:Nat):Int) - 1) = (p:Int):=by omega
     have i1:((p:Int) < 0) = False:=eq_false (by omega)
     obtain ⟨hpn,hq,hqv⟩:p < n∧lastEq t (t.getD p 0 - 1) p < p∧t.getD (lastEq t (t.getD p 0 - 1) p) 0 = t.getD p 0 - 1:=by simpa [and_assoc] using hstep
     generalize hqd:lastEq t (t.getD p 0 - 1) p = q at hq hqv
     have hwp:w64 ((p:Int) - 1) = (p:Int) - 1:=w64_eq (by omega)
     repeat' (first|with_reducible (first|refine Q1 ?_|refine Q2 ?_|refine Q3 ?_|refine Q4 ?_|refine Q5 ?_|refine Q6 ?_|refine Q7 ?_|refine Q8 ?_|refine Q9 ?_|refine Qa ?_|refine Qb ?_|refine Qc ?_|refine Qd ?_|refine Qe ?_|refine Qf ?_)|((with_reducible refine Qo ?_ ?_);focus rfl)|((with_reducible first|refine QT 13 (l:=?_) ?_ ?_|refine QF 13 (l:=?_) ?_ ?_);rotate_left 1;focus (simp only [Zu,Nat.reduceSub,Nat.reduceBEq];with_reducible rfl))|((with_reducible first|refine QS (cfg_ok 72) Tab.none (s':=?_) ?_ ?_|refine QC (b:=?_) ?_ ?_);rotate_left 1;focus ((with_reducible refine QW ?_);simp only [Zg,seval,if_true,if_false,reduceCtorEq,Nat.reduceEqDiff,hA,i1,hwp];with_reducible rfl)))
     have i2:((0:Int) ≤ (p:Int)) = True:=eq_true (by omega)
     have hp:=hget hpn
     have i5:((p:Int) < (n:Int)) = True:=eq_true (by omega)
     have hpb:=hbd hpn
     have hwl:w64 (t.getD p 0 - 1) = t.getD p 0 - 1:=w64_eq (by omega)
     refine RunK.loop (β:=Nat) (γ:=Unit) (fun j => ⟨[(0,.c (.val (.int n))),(3,.c (.own 3 n)),(4,.c (.own 4 (done.length + 1))),(6,.c (.val (.int p))),(7,.c (.val (.int ((j:Int) - 1))))],[(3,.row 1 (t.map eI) true),(4,.row 1 (done.map eL ++ [[.sl 1 (t.map eI)]]) true)]⟩)
      (fun j => j ≤ p∧lastEq t (t.getD p 0 - 1) j = q∧q < j) (fun j => j)
      (fun _ => ⟨[(0,.c (.val (.int n))),(3,.c (.own 3 n)),(4,.c (.own 4 (done.length + 1))),(6,.c (.val (.int p))),(7,.c (.val (.int q)))],[(3,.row 1 (t.map eI) true),(4,.row 1 (done.map eL ++ [[.sl 1 (t.map eI)]]) true)]⟩) (fun _ => True) p ⟨Nat.le_refl _,hqd,hq⟩ ?_ ?_ ?_
     ·(repeat' (first|with_reducible refine Qn|((with_reducible refine Qr ?_ ?_);focus (first|with_reducible rfl|(simp only [Zz,Nat.reduceBEq];done)|rfl))|((with_reducible refine Qj (o':=?_) ?_ ?_ ?_);rotate_left 1;focus rfl)|((with_reducible refine Qw ?_ ?_);(focus (first|with_reducible rfl|(simp only [Zv];done)));focus (first|exact id|exact (fun h => nomatch h)|exact (fun _ => rfl)))))
     ·rintro j ⟨hj,hje,hqj⟩
      rcases j with _|k
      ·exact absurd hqj (Nat.not_lt_zero _)
      ·have hA:(((k + 1:Nat):Int) - 1) = (k:Int):=by omega
       have hje:(if t.getD k 0 = t.getD p 0 - 1 then k else lastEq t (t.getD p 0 - 1) k) = q:=hje
       have hj:k + 1 ≤ p:=hj
       have hqj:q < k + 1:=hqj
       have i3:((0:Int) ≤ (k:Int)) = True:=eq_true (by omega)
       have hk:=hget (k:=k) (by omega)
       have i6:((k:Int) < (n:Int)) = True:=eq_true (by omega)
       have hw:w64 ((k:Int) - 1) = (k:Int) - 1:=w64_eq (by omega)
       by_cases heq:t.getD k 0 = t.getD p 0 - 1
       ·rw [if_pos heq] at hje
        have i4:(t.getD k 0 == t.getD p 0 - 1) = true:=beq_iff_eq.2 heq
        repeat' (first|with_reducible (first|refine Q1 ?_|refine Q2 ?_|refine Q3 ?_|refine Q4 ?_|refine Q5 ?_|refine Q6 ?_|refine Q7 ?_|refine Q8 ?_|refine Q9 ?_|refine Qa ?_|refine Qb ?_|refine Qc ?_|refine Qd ?_|refine Qe ?_|refine Qf ?_)|((with_reducible refine Qo ?_ ?_);focus rfl)|((with_reducible first|refine QT 13 (l:=?_) ?_ ?_|refine QF 13 (l:=?_) ?_ ?_);rotate_left 1;focus (simp only [Zu,Nat.reduceSub,Nat.reduceBEq];with_reducible rfl))|((with_reducible first|refine QS (cfg_ok 72) Tab.none (s':=?_) ?_ ?_|refine QC (b:=?_) ?_ ?_);rotate_left 1;focus ((with_reducible refine QW ?_);simp only [Zg,seval,if_true,if_false,reduceCtorEq,Nat.reduceEqDiff,hA,i2,i3,i5,i6,hk,hp,hwl,hw,htlI,heq,i4,Int.toNat_natCast];with_reducible rfl))|((with_reducible refine QD (cfg_ok 72) Tab.none mixed_ok (tr:=?_) (s':=?_) ?_ ?_ ?_);rotate_left 2;(focus ((with_reducible refine QW ?_);simp only [Zg,Zd,seval,if_true,if_false,reduceCtorEq,Nat.reduceEqDiff,hA,i2,i3,i5,i6,hk,hp,hwl,hw,htlI,heq,i4,Int.toNat_natCast];with_reducible rfl));focus ((with_reducible refine QK ?_);simp only [Zk];kernel_rfl)))
        refine roundK.out () trivial ?_
        (repeat' (first|with_reducible refine Qn|((with_reducible refine Qr ?_ ?_);focus (first|with_reducible rfl|(simp only [Zz,Nat.reduceBEq,hje];done)|rfl))|((with_reducible refine Qj (o':=?_) ?_ ?_ ?_);rotate_left 1;focus rfl)|((with_reducible refine Qw ?_ ?_);(focus (first|with_reducible rfl|(simp only [Zv,hje];done)));focus (first|exact id|exact (fun h => nomatch h)|exact (fun _ => rfl)))))
       ·rw [if_neg heq] at hje
        have i4:(t.getD k 0 != t.getD p 0 - 1) = true:=bne_iff_ne.2 heq
        repeat' (first|with_reducible (first|refine Q1 ?_|refine Q2 ?_|refine Q3 ?_|refine Q4 ?_|refine Q5 ?_|refine Q6 ?_|refine Q7 ?_|refine Q8 ?_|refine Q9 ?_|refine Qa ?_|refine Qb ?_|refine Qc ?_|refine Qd ?_|refine Qe ?_|refine Qf ?_)|((with_reducible refine Qo ?_ ?_);focus rfl)|((with_reducible first|refine QT 13 (l:=?_) ?_ ?_|refine QF 13 (l:=?_) ?_ ?_);rotate_left 1;focus (simp only [Zu,Nat.reduceSub,Nat.reduceBEq];with_reducible rfl))|((with_reducible first|refine QS (cfg_ok 72) Tab.none (s':=?_) ?_ ?_|refine QC (b:=?_) ?_ ?_);rotate_left 1;focus ((with_reducible refine QW ?_);simp only [Zg,seval,if_true,if_false,reduceCtorEq,Nat.reduceEqDiff,hA,i2,i3,i5,i6,hk,hp,hwl,hw,htlI,i4,Int.toNat_natCast];with_reducible rfl))|((with_reducible refine QD (cfg_ok 72) Tab.none mixed_ok (tr:=?_) (s':=?_) ?_ ?_ ?_);rotate_left 2;(focus ((with_reducible refine QW ?_);simp only [Zg,Zd,seval,if_true,if_false,reduceCtorEq,Nat.reduceEqDiff,hA,i2,i3,i5,i6,hk,hp,hwl,hw,htlI,i4,Int.toNat_natCast];with_reducible rfl));focus ((with_reducible refine QK ?_);simp only [Zk];kernel_rfl)))
        refine roundK.on k ⟨⟨by omega,hje,?_⟩,by omega⟩ ?_
        ·rcases Nat.lt_or_ge q k with h|h
         ·exact h
         ·obtain rfl:q = k:=by omega
          exact absurd hqv heq
        ·(repeat' (first|with_reducible refine Qn|((with_reducible refine Qr ?_ ?_);focus (first|with_reducible rfl|(simp only [Zz,Nat.reduceBEq];done)|rfl))|((with_reducible refine Qj (o':=?_) ?_ ?_ ?_);rotate_left 1;focus rfl)|((with_reducible refine Qw ?_ ?_);(focus (first|with_reducible rfl|(simp only [Zv];done)));focus (first|exact id|exact (fun h => nomatch h)|exact (fun _ => rfl)))))
     ·rintro _ _
      repeat' (first|with_reducible (first|refine Q1 ?_|refine Q2 ?_|refine Q3 ?_|refine Q4 ?_|refine Q5 ?_|refine Q6 ?_|refine Q7 ?_|refine Q8 ?_|refine Q9 ?_|refine Qa ?_|refine Qb ?_|refine Qc ?_|refine Qd ?_|refine Qe ?_|refine Qf ?_)|((with_reducible refine Qo ?_ ?_);focus rfl)|((with_reducible first|refine QT 13 (l:=?_) ?_ ?_|refine QF 13 (l:=?_) ?_ ?_);rotate_left 1;focus (simp only [Zu,Nat.reduceSub,Nat.reduceBEq];with_reducible rfl))|((with_reducible first|refine QS (cfg_ok 72) Tab.none (s':=?_) ?_ ?_|refine QC (b:=?_) ?_ ?_);rotate_left 1;focus ((with_reducible refine QW ?_);simp only [Zg,seval,if_true,if_false,reduceCtorEq,Nat.reduceEqDiff];with_reducible rfl)))
      refine RunK.loop (β:=Nat) (γ:=Unit) (fun k => ⟨[(0,.c (.val (.int n))),(3,.c (.own 3 n)),(4,.c (.own 4 (done.length + 1))),(6,.c (.val (.int p))),(7,.c (.val (.int q))),(8,.c (.val (.int (p + k:Nat))))],[(3,.row 1 ((copyFrom p q k t).map eI) true),(4,.row 1 (done.map eL ++ [[.sl 1 (t.map eI)]]) true)]⟩)
       (fun k => p + k ≤ n) (fun k => n - k)
       (fun _ => ⟨[(0,.c (.val (.int n))),(3,.c (.own 3 n)),(4,.c (.own 4 (done.length + 1)))],[(3,.row 1 ((copyFrom p q (n - p) t).map eI) true),(4,.row 1 (done.map eL ++ [[.sl 1 (t.map eI)]]) true)]⟩) (fun _ => True) 0 (Nat.le_of_lt hpn) ?_ ?_ ?_
      ·(repeat' (first|with_reducible refine Qn|((with_reducible refine Qr ?_ ?_);focus (first|with_reducible rfl|(simp only [Zz,Nat.reduceBEq,copyFrom];done)|rfl))|((with_reducible refine Qj (o':=?_) ?_ ?_ ?_);rotate_left 1;focus rfl)|((with_reducible refine Qw ?_ ?_);(focus (first|with_reducible rfl|(simp only [Zv,copyFrom];done)));focus (first|exact id|exact (fun h => nomatch h)|exact (fun _ => rfl)))))
      ·intro k hk
       have hk:p + k ≤ n:=hk
       have hcl':=copyFrom_len p q t k
       have hlI:((copyFrom p q k t).map eI).length = n:=by simp [hcl',htl]
       by_cases h:p + k < n
       ·have j1:(((p + k:Nat):Int) < (n:Int)) = True:=eq_true (by omega)
        have j2:w64 ((p:Int) - (q:Int)) = ((p - q:Nat):Int):=by rw [w64_eq (by omega)];omega
        have j3:w64 (((p + k:Nat):Int) - ((p - q:Nat):Int)) = ((p + k - (p - q):Nat):Int):=by rw [w64_eq (by omega)];omega
        have j4:((copyFrom p q k t).map eI)[p + k - (p - q)]? = some [.int ((copyFrom p q k t).getD (p + k - (p - q)) 0)]:=by
         rw [map_get (by omega)];simp [eI,List.getD_eq_getElem?_getD,List.getElem?_eq_getElem (show p + k - (p - q) < (copyFrom p q k t).length by omega)]
        have j5:((0:Int) ≤ ((p + k - (p - q):Nat):Int)) = True:=eq_true (by omega)
        have j6:((0:Int) ≤ ((p + k:Nat):Int)) = True:=eq_true (by omega)
        have j7:(((p + k - (p - q):Nat):Int) < (n:Int)) = True:=eq_true (by omega)
        have j9:((copyFrom p q k t).map eI)[p + k]? = some [.int ((copyFrom p q k t).getD (p + k) 0)]:=by
         rw [map_get (by omega)];simp [eI,List.getD_eq_getElem?_getD,List.getElem?_eq_getElem (show p + k < (copyFrom p q k t).length by omega)]
        have j8:w64 (((p + k:Nat):Int) + 1) = ((p + k + 1:Nat):Int):=w64_succ (n:=p + k) (by omega)
        repeat' (first|with_reducible (first|refine Q1 ?_|refine Q2 ?_|refine Q3 ?_|refine Q4 ?_|refine Q5 ?_|refine Q6 ?_|refine Q7 ?_|refine Q8 ?_|refine Q9 ?_|refine Qa ?_|refine Qb ?_|refine Qc ?_|refine Qd ?_|refine Qe ?_|refine Qf ?_)|((with_reducible refine Qo ?_ ?_);focus rfl)|((with_reducible first|refine QT 13 (l:=?_) ?_ ?_|refine QF 13 (l:=?_) ?_ ?_);rotate_left 1;focus (simp only [Zu,Nat.reduceSub,Nat.reduceBEq];with_reducible rfl))|((with_reducible first|refine QS (cfg_ok 72) Tab.none (s':=?_) ?_ ?_|refine QC (b:=?_) ?_ ?_);rotate_left 1;focus ((with_reducible refine QW ?_);simp only [Zg,seval,if_true,if_false,reduceCtorEq,Nat.reduceEqDiff,j1,j2,j3,j4,j5,j6,j7,j8,j9,hlI,Int.toNat_natCast];with_reducible rfl)))
        refine roundK.on (k + 1) ⟨by show p + (k + 1) ≤ n;omega,by omega⟩ ?_
        (repeat' (first|with_reducible refine Qn|((with_reducible refine Qr ?_ ?_);focus (first|with_reducible rfl|(simp only [Zz,Nat.reduceBEq,copyFrom,List.map_set,eI];done)|rfl))|((with_reducible refine Qj (o':=?_) ?_ ?_ ?_);rotate_left 1;focus rfl)|((with_reducible refine Qw ?_ ?_);(focus (first|with_reducible rfl|(simp only [Zv,copyFrom,List.map_set,eI];done)));focus (first|exact id|exact (fun h => nomatch h)|exact (fun _ => rfl)))))
       ·have j1:(((p + k:Nat):Int) < (n:Int)) = False:=eq_false (by omega)
        obtain rfl:k = n - p:=by omega
        repeat' (first|with_reducible (first|refine Q1 ?_|refine Q2 ?_|refine Q3 ?_|refine Q4 ?_|refine Q5 ?_|refine Q6 ?_|refine Q7 ?_|refine Q8 ?_|refine Q9 ?_|refine Qa ?_|refine Qb ?_|refine Qc ?_|refine Qd ?_|refine Qe ?_|refine Qf ?_)|((with_reducible refine Qo ?_ ?_);focus rfl)|((with_reducible first|refine QT 13 (l:=?_) ?_ ?_|refine QF 13 (l:=?_) ?_ ?_);rotate_left 1;focus (simp only [Zu,Nat.reduceSub,Nat.reduceBEq];with_reducible rfl))|((with_reducible first|refine QS (cfg_ok 72) Tab.none (s':=?_) ?_ ?_|refine QC (b:=?_) ?_ ?_);rotate_left 1;focus ((with_reducible refine QW ?_);simp only [Zg,seval,if_true,if_false,reduceCtorEq,Nat.reduceEqDiff,j1];with_reducible rfl)))
        refine roundK.out () trivial ?_
        (repeat' (first|with_reducible refine Qn|((with_reducible refine Qr ?_ ?_);focus (first|with_reducible rfl|(simp only [Zz,Nat.reduceBEq];done)|rfl))|((with_reducible refine Qj (o':=?_) ?_ ?_ ?_);rotate_left 1;focus rfl)|((with_reducible refine Qw ?_ ?_);(focus (first|with_reducible rfl|(simp only [Zv];done)));focus (first|exact id|exact (fun h => nomatch h)|exact (fun _ => rfl)))))
      ·rintro _ _
       repeat' (first|with_reducible (first|refine Q1 ?_|refine Q2 ?_|refine Q3 ?_|refine Q4 ?_|refine Q5 ?_|refine Q6 ?_|refine Q7 ?_|refine Q8 ?_|refine Q9 ?_|refine Qa ?_|refine Qb ?_|refine Qc ?_|refine Qd ?_|refine Qe ?_|refine Qf ?_)|((with_reducible refine Qo ?_ ?_);focus rfl)|((with_reducible first|refine QT 13 (l:=?_) ?_ ?_|refine QF 13 (l:=?_) ?_ ?_);rotate_left 1;focus (simp only [Zu,Nat.reduceSub,Nat.reduceBEq];with_reducible rfl))|((with_reducible first|refine QS (cfg_ok 72) Tab.none (s':=?_) ?_ ?_|refine QC (b:=?_) ?_ ?_);rotate_left 1;focus ((with_reducible refine QW ?_);simp only [Zg,seval,if_true,if_false,reduceCtorEq,Nat.reduceEqDiff];with_reducible rfl)))
       have hnx:nextT t = some (copyFrom p q (n - p) t):=by unfold nextT;rw [htl,hm];simp only [hqd]
       have htr:treesN n = (done ++ [t]) ++ treesF f (copyFrom p q (n - p) t):=by
        rw [h1,List.append_assoc]
        conv => lhs;unfold treesF
        rw [hnx];rfl
       refine roundK.on (f,done ++ [t],copyFrom p q (n - p) t) ⟨⟨htr,?_,?_⟩,Nat.lt_succ_self f⟩ ?_
       ·show (done ++ [t]).length + f = 120
        simp;omega
       ·show 0 < f
        omega
       ·(repeat' (first|with_reducible refine Qn|((with_reducible refine Qr ?_ ?_);focus (first|with_reducible rfl|(simp only [Zz,Nat.reduceBEq,List.map_append,List.map_cons,List.map_nil,eL,List.length_append,List.length_cons,List.length_nil];done)|rfl))|((with_reducible refine Qj (o':=?_) ?_ ?_ ?_);rotate_left 1;focus rfl)|((with_reducible refine Qw ?_ ?_);(focus (first|with_reducible rfl|(simp only [Zv,List.map_append,List.map_cons,List.map_nil,eL,List.length_append,List.length_cons,List.length_nil];done)));focus (first|exact id|exact (fun h => nomatch h)|exact (fun _ => rfl)))))
  ·rintro _ h
   exact h.elim
end Go.Proofs.Ytofpjonggpjneaa
namespace Go.Proofs.Ytofpjonggpjneaa
open Go.RowKit
set_option maxRecDepth 100000
theorem ro_1:trees8.all (fun v => decide (sumOf (roots v) = sumOf (roots (freeT v)))) = true:=by decide +kernel
def roOK (f:List Int):Bool:=!decide (freeT f = f) || (let s:=sumOf (roots f);(roots f).all fun u => decide (sumOf (roots u) = s))
def pieceT (i:Nat):List (List Int):=(trees8.drop (25 * i)).take 25
theorem trees8_len:Nat.ble trees8.length 200 = true:=by decide +kernel
theorem ro_20:(pieceT 0).all roOK = true:=by decide +kernel
theorem ro_21:(pieceT 1).all roOK = true:=by decide +kernel
theorem ro_22:(pieceT 2).all roOK = true:=by decide +kernel
theorem ro_23:(pieceT 3).all roOK = true:=by decide +kernel
theorem ro_24:(pieceT 4).all roOK = true:=by decide +kernel
theorem ro_25:(pieceT 5).all roOK = true:=by decide +kernel
theorem ro_26:(pieceT 6).all roOK = true:=by decide +kernel
theorem ro_27:(pieceT 7).all roOK = true:=by decide +kernel
theorem ro_2:trees8.all roOK = true:=List.all_eq_true.2 fun x hx => by
 obtain ⟨j,hj,rfl⟩:=List.mem_iff_getElem.1 hx
 have hl:=Nat.le_of_ble_eq_true trees8_len
 have hm:∀ i,25 * i ≤ j→j < 25 * i + 25→trees8[j] ∈ pieceT i:=fun i h1 h2 => by
  unfold pieceT
  refine List.mem_iff_getElem?.2 ⟨j - 25 * i,?_⟩
  rw [List.getElem?_take,if_pos (by omega),List.getElem?_drop,show 25 * i + (j - 25 * i) = j by omega,List.getElem?_eq_getElem hj]
 by_cases h0:j < 25
 ·exact List.all_eq_true.1 ro_20 _ (hm 0 (by omega) (by omega))
 by_cases h1:j < 50
 ·exact List.all_eq_true.1 ro_21 _ (hm 1 (by omega) (by omega))
 by_cases h2:j < 75
 ·exact List.all_eq_true.1 ro_22 _ (hm 2 (by omega) (by omega))
 by_cases h3:j < 100
 ·exact List.all_eq_true.1 ro_23 _ (hm 3 (by omega) (by omega))
 by_cases h4:j < 125
 ·exact List.all_eq_true.1 ro_24 _ (hm 4 (by omega) (by omega))
 by_cases h5:j < 150
 ·exact List.all_eq_true.1 ro_25 _ (hm 5 (by omega) (by omega))
 by_cases h6:j < 175
 ·exact List.all_eq_true.1 ro_26 _ (hm 6 (by omega) (by omega))
 ·exact List.all_eq_true.1 ro_27 _ (hm 7 (by omega) (by omega))
end Go.Proofs.Ytofpjonggpjneaa
namespace Go.Proofs.Ytofpjonggpjneaa
open Go.RowKit
def bpT (p:List Int):List Int:=canon (graftL p 0 p)
def halfQ (v:List Int):Bool:=(treesN (v.length / 2)).any fun p => decide (bpT p ∈ roots v)
set_option maxRecDepth 100000
theorem ro_3:trees8.all (fun v => isSup v == isSup (freeT v)) = true:=by decide +kernel
theorem ro_4:trees8.all (fun v => isSup v == (Nat.beq (v.length % 2) 0 && halfQ v)) = true:=by decide +kernel
end Go.Proofs.Ytofpjonggpjneaa
namespace Go.Proofs.Ytofpjonggpjneaa
def mP (n:Int):Int:=n % 10007
section
variable {κ:Type} (c:κ→κ→Int)
def coef (L:List (Int × κ)) (x:κ):Int :=
 match L with
 | [] => 0
 | q :: L => (if c q.2 x = 0 then q.1 else 0) + coef L x
def NfS (L:List (Int × κ)):Prop:=L.Pairwise (fun p q => c p.2 q.2 < 0)∧∀ q ∈ L,1 ≤ q.1∧q.1 < 10007
end
section
variable {κ:Type} {c:κ→κ→Int} (hc:Cmp c)
theorem coef_cons (q:Int × κ) (L:List (Int × κ)) (x:κ):coef c (q :: L) x = (if c q.2 x = 0 then q.1 else 0) + coef c L x:=rfl
theorem coef_zero {L:List (Int × κ)} {x:κ} (h:∀ q ∈ L,c q.2 x ≠ 0):coef c L x = 0:=by
 induction L with
 | nil => rfl
 | cons q L ih => rw [coef_cons,if_neg (h q (by simp)),ih (fun p hp => h p (by simp [hp]))];rfl
include hc
theorem Cmp.lt_ne {a b:κ} (h:c a b < 0):c b a ≠ 0:=by
 intro e
 have:=hc.zero b a e
 subst this
 rw [hc.refl] at h;omega
theorem Cmp.lt_tr {a b d:κ} (h1:c a b < 0) (h2:c b d < 0):c a d < 0:=by
 rcases Int.lt_trichotomy (c a d) 0 with h|h|h
 ·exact h
 ·have:=hc.zero a d h
  subst this
  have:=(hc.anti a b).1 h1
  omega
 ·have:=hc.trans a b d (by omega) (by omega)
  omega
theorem NfS.ext:∀ {L M:List (Int × κ)},NfS c L→NfS c M→(∀ x,mP (coef c L x) = mP (coef c M x))→L = M
 | [],[],_,_,_ => rfl
 | [],(b,z) :: M,_,⟨h2,h3⟩,he => by
  exfalso
  rw [List.pairwise_cons] at h2
  have h0:coef c M z = 0:=coef_zero (fun q hq => hc.lt_ne (h2.1 q hq))
  have:=he z
  rw [coef_cons,if_pos (hc.refl z),h0] at this
  have hb:=h3 (b,z) (by simp)
  simp at hb
  simp [coef,mP] at this
  omega
 | (a,y) :: L,[],⟨h2,h3⟩,_,he => by
  exfalso
  rw [List.pairwise_cons] at h2
  have h0:coef c L y = 0:=coef_zero (fun q hq => hc.lt_ne (h2.1 q hq))
  have:=he y
  rw [coef_cons,if_pos (hc.refl y),h0] at this
  have hb:=h3 (a,y) (by simp)
  simp at hb
  simp [coef,mP] at this
  omega
 | (a,y) :: L,(b,z) :: M,⟨h1,h1'⟩,⟨h2,h2'⟩,he => by
  have w1:=h1;have w2:=h2
  rw [List.pairwise_cons] at h1 h2
  have ha:=h1' (a,y) (by simp)
  have hb:=h2' (b,z) (by simp)
  simp only at ha hb
  have hy0:coef c L y = 0:=coef_zero (fun q hq => hc.lt_ne (h1.1 q hq))
  have hz0:coef c M z = 0:=coef_zero (fun q hq => hc.lt_ne (h2.1 q hq))
  rcases Int.lt_trichotomy (c y z) 0 with h|h|h
  ·exfalso
   have h4:coef c ((b,z) :: M) y = 0:=coef_zero (fun q hq => by
    rcases List.mem_cons.1 hq with rfl|hq
    ·exact hc.lt_ne h
    ·exact hc.lt_ne (hc.lt_tr h (h2.1 q hq)))
   have:=he y
   rw [h4,coef_cons,if_pos (hc.refl y),hy0] at this
   simp [mP] at this
   omega
  ·obtain rfl:=hc.zero y z h
   have hab:a = b:=by
    have:=he y
    rw [coef_cons,coef_cons,if_pos (hc.refl y),if_pos (hc.refl y),hy0,hz0] at this
    simp [mP] at this
    omega
   subst hab
   have:=NfS.ext (L:=L) (M:=M) ⟨h1.2,fun q hq => h1' q (by simp [hq])⟩ ⟨h2.2,fun q hq => h2' q (by simp [hq])⟩ (fun x => by
    have:=he x
    rw [coef_cons,coef_cons] at this
    unfold mP at this ⊢
    omega)
   rw [this]
  ·exfalso
   have h:=(hc.anti z y).2 h
   have h4:coef c ((a,y) :: L) z = 0:=coef_zero (fun q hq => by
    rcases List.mem_cons.1 hq with rfl|hq
    ·exact hc.lt_ne h
    ·exact hc.lt_ne (hc.lt_tr h (h1.1 q hq)))
   have:=he z
   rw [h4,coef_cons,if_pos (hc.refl z),hz0] at this
   simp [mP] at this
   omega
omit hc
include hc
end
end Go.Proofs.Ytofpjonggpjneaa
namespace Go.Proofs.Ytofpjonggpjneaa
end Go.Proofs.Ytofpjonggpjneaa
namespace Go.Proofs.Ytofpjonggpjneaa
section
variable {α:Type} {c:α→α→Int} (hc:Cmp c)
include hc
end
end Go.Proofs.Ytofpjonggpjneaa
