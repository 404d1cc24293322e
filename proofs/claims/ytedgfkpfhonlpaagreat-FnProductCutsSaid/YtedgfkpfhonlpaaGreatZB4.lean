/- Lemmas (4). -/
import Derived.Deep.RegionHeld3
import Derived.WalkKit
import Derived.Test.YtedgfkpfhonlpaaGreatZB0
import Derived.Test.YtedgfkpfhonlpaaGreatZB2
import Derived.Test.YtedgfkpfhonlpaaGreatZB3
set_option maxHeartbeats 16000000
set_option maxRecDepth 100000
set_option linter.unusedSimpArgs false
set_option linter.unusedVariables false
namespace Go.Proofs.YtedgfkpfhonlpaaGreat
open Go.RowKit
section
def slT2 (t:TypeId):Option TyI :=
 if t = 22 then some ⟨5,[.raw (.int .u8 0)],1⟩ else
 if t = 65 then some ⟨69,[.int 0,.sl 1 [],.sl 1 []],56⟩ else
 if t = 29 then some ⟨38,[.sl 1 [],.sl 1 [],.int 0],56⟩ else
 if t = 33 then some ⟨42,[.sl 1 [],.sl 1 [],.int 0],56⟩ else
 if t = 174 then some ⟨176,[.int 0,.sl 1 [],.int 0],40⟩ else
 if t = 129 then some ⟨174,[.sl 3 []],24⟩ else
 if t = 180 then some ⟨183,[.int 0,.sl 1 [],.int 0],40⟩ else
 if t = 135 then some ⟨180,[.sl 3 []],24⟩ else
 none
def slT (t:TypeId):Option TyI :=
 if t = 24 then some ⟨2,[.int 0],8⟩ else
 if t = 170 then some ⟨3,[.int 0],8⟩ else
 if t = 36 then some ⟨24,[.sl 1 []],24⟩ else
 if t = 189 then some ⟨36,[.sl 1 []],24⟩ else
 if t = 50 then some ⟨71,[.int 0,.sl 1 []],32⟩ else
 if t = 48 then some ⟨99,[.int 0,.sl 1 []],32⟩ else
 if t = 163 then some ⟨50,[.sl 2 []],24⟩ else
 slT2 t
def tyT3 (t:TypeId):Option (List D × Bool) :=
 if t = 22 then some ([.sl 1 []],false) else
 if t = 176 then some ([.int 0,.sl 1 [],.int 0],true) else
 if t = 174 then some ([.sl 3 []],false) else
 if t = 129 then some ([.sl 1 []],false) else
 if t = 131 then some ([.sl 1 [],.sl 1 []],true) else
 if t = 183 then some ([.int 0,.sl 1 [],.int 0],true) else
 if t = 180 then some ([.sl 3 []],false) else
 if t = 135 then some ([.sl 1 []],false) else
 none
def tyT2 (t:TypeId):Option (List D × Bool) :=
 if t = 50 then some ([.sl 2 []],false) else
 if t = 71 then some ([.int 0,.sl 1 []],true) else
 if t = 48 then some ([.sl 2 []],false) else
 if t = 163 then some ([.sl 1 []],false) else
 if t = 99 then some ([.int 0,.sl 1 []],true) else
 if t = 65 then some ([.sl 3 []],false) else
 if t = 69 then some ([.int 0,.sl 1 [],.sl 1 []],true) else
 if t = 29 then some ([.sl 3 []],false) else
 if t = 38 then some ([.sl 1 [],.sl 1 [],.int 0],true) else
 if t = 33 then some ([.sl 3 []],false) else
 if t = 42 then some ([.sl 1 [],.sl 1 [],.int 0],true) else
 tyT3 t
def tyT (t:TypeId):Option (List D × Bool) :=
 if t = 2 then some ([.int 0],false) else
 if t = 3 then some ([.int 0],false) else
 if t = 4 then some ([.bool false],false) else
 if t = 24 then some ([.sl 1 []],false) else
 if t = 170 then some ([.sl 1 []],false) else
 if t = 36 then some ([.sl 1 []],false) else
 if t = 189 then some ([.sl 1 []],false) else
 tyT2 t
def fsT (t:TypeId):Option (List (Nat × Nat)) :=
 if t = 71 then some [(0,1),(1,1)] else
 if t = 99 then some [(0,1),(1,1)] else
 if t = 69 then some [(0,1),(1,1),(2,1)] else
 if t = 38 then some [(0,1),(1,1),(2,1)] else
 if t = 42 then some [(0,1),(1,1),(2,1)] else
 if t = 176 then some [(0,1),(1,1),(2,1)] else
 if t = 131 then some [(0,1),(1,1)] else
 if t = 183 then some [(0,1),(1,1),(2,1)] else
 none
def cfg (n:Nat):Cfg:=⟨n,slT,tyT,fsT,fun t => t == 2 || t == 3⟩
def zvOf:Bool→List D→Value
 | true,z => .agg (z.map zval).toArray
 | false,z => zval (z.headD (.int 0))
theorem xK {P:Program} {t:TypeId} {i:TyI} (h1:P.underlying t = some (.slice i.e)) (h2:(P.info? i.e).map (fun j => (j.zero,j.size,j.bytes)) = some (some (zvOf (decide (1 < i.z.length)) i.z),i.z.length,i.bytes))
  (h3:(zvOf (decide (1 < i.z.length)) i.z).cells.toList = i.z.map zval) (h4:i.z.all jH = true) (h5:0 < i.z.length):∃ z:Value,ST P t i.e z i.z.length i.bytes∧ZeroOK z i.z :=
 ⟨_,ST.mk' h1 h2 (by rw [← Array.length_toList,h3,List.length_map]) h5,h3,h4⟩
theorem ty_ok {P:Program} {t:TypeId} {z:List D} {st:Bool} (h1:(P.info? t).map (fun i => (i.zero,i.size)) = some (some (zvOf st z),z.length)) (h2:(zvOf st z).cells.toList = z.map zval) (h3:z.all jH = true) (h4:0 < z.length)
  (h5:(P.underlying t).map TypeDesc.isRow = some st) (h6:st = false→z.length = 1):∃ zv ti d,P.info? t = some ti∧ti.zero = some zv∧ti.size = z.length∧ZeroOK zv z∧0 < z.length∧P.underlying t = some d∧d.isRow = st∧(st = false→z.length = 1):=by
 obtain ⟨ti,k1,k2⟩:=map_some h1
 obtain ⟨d,k3,k4⟩:=map_some h5
 simp only [Prod.mk.injEq] at k2
 exact ⟨_,ti,d,k1,k2.1,k2.2,⟨h2,h3⟩,h4,k3,k4,h6⟩
theorem fs_ok {P:Program} {t:TypeId} {fs:List (Nat × Nat)} (h:(match P.underlying t with|some (.struct fields) => fields.toList.mapM (fun f => (P.info? f.type).map fun i => (f.offset,i.size))|_ => none) = some fs) (h2:∀ p ∈ fs,0 < p.2) :
  ∃ fields,P.underlying t = some (.struct fields)∧fields.toList.mapM (fun f => (P.info? f.type).map fun i => (f.offset,i.size)) = some fs∧∀ p ∈ fs,0 < p.2:=by
 split at h
 ·rename_i fields e
  exact ⟨fields,e,h,h2⟩
 ·cases h
theorem i64_a:Tryz.prog.underlying 2 = some (.int .i64):=by kernel_rfl
theorem i64_b:Tryz.prog.underlying 3 = some (.int .i64):=by kernel_rfl
theorem qQ (n:Nat):CfgOK Tryz.prog (cfg n) where
 sl:=by
  intro t i h
  have h:slT t = some i:=h
  unfold slT at h
  split at h
  ·rename_i e;subst e;cases h;exact xK (by kernel_rfl) (by kernel_rfl) (by rfl) (by rfl) (by decide)
  split at h
  ·rename_i e;subst e;cases h;exact xK (by kernel_rfl) (by kernel_rfl) (by rfl) (by rfl) (by decide)
  split at h
  ·rename_i e;subst e;cases h;exact xK (by kernel_rfl) (by kernel_rfl) (by rfl) (by rfl) (by decide)
  split at h
  ·rename_i e;subst e;cases h;exact xK (by kernel_rfl) (by kernel_rfl) (by rfl) (by rfl) (by decide)
  split at h
  ·rename_i e;subst e;cases h;exact xK (by kernel_rfl) (by kernel_rfl) (by rfl) (by rfl) (by decide)
  split at h
  ·rename_i e;subst e;cases h;exact xK (by kernel_rfl) (by kernel_rfl) (by rfl) (by rfl) (by decide)
  split at h
  ·rename_i e;subst e;cases h;exact xK (by kernel_rfl) (by kernel_rfl) (by rfl) (by rfl) (by decide)
  have h:slT2 t = some i:=h
  unfold slT2 at h
  split at h
  ·rename_i e;subst e;cases h;exact xK (by kernel_rfl) (by kernel_rfl) (by rfl) (by rfl) (by decide)
  split at h
  ·rename_i e;subst e;cases h;exact xK (by kernel_rfl) (by kernel_rfl) (by rfl) (by rfl) (by decide)
  split at h
  ·rename_i e;subst e;cases h;exact xK (by kernel_rfl) (by kernel_rfl) (by rfl) (by rfl) (by decide)
  split at h
  ·rename_i e;subst e;cases h;exact xK (by kernel_rfl) (by kernel_rfl) (by rfl) (by rfl) (by decide)
  split at h
  ·rename_i e;subst e;cases h;exact xK (by kernel_rfl) (by kernel_rfl) (by rfl) (by rfl) (by decide)
  split at h
  ·rename_i e;subst e;cases h;exact xK (by kernel_rfl) (by kernel_rfl) (by rfl) (by rfl) (by decide)
  split at h
  ·rename_i e;subst e;cases h;exact xK (by kernel_rfl) (by kernel_rfl) (by rfl) (by rfl) (by decide)
  split at h
  ·rename_i e;subst e;cases h;exact xK (by kernel_rfl) (by kernel_rfl) (by rfl) (by rfl) (by decide)
  cases h
 ty:=by
  intro t z st h
  have h:tyT t = some (z,st):=h
  have h3:∀ {t:TypeId} {z:List D} {st:Bool},tyT3 t = some (z,st)→∃ zv ti d,Tryz.prog.info? t = some ti∧ti.zero = some zv∧ti.size = z.length∧ZeroOK zv z∧0 < z.length∧Tryz.prog.underlying t = some d∧d.isRow = st∧(st = false→z.length = 1):=by
   intro t z st h
   unfold tyT3 at h
   repeat' split at h
   all_goals first
    | (cases h;done)
    | (rename_i e;subst e;cases h;exact ty_ok (by kernel_rfl) (by rfl) (by rfl) (by decide) (by kernel_rfl) (by decide))
  have h2:∀ {t:TypeId} {z:List D} {st:Bool},tyT2 t = some (z,st)→∃ zv ti d,Tryz.prog.info? t = some ti∧ti.zero = some zv∧ti.size = z.length∧ZeroOK zv z∧0 < z.length∧Tryz.prog.underlying t = some d∧d.isRow = st∧(st = false→z.length = 1):=by
   intro t z st h
   unfold tyT2 at h
   repeat' split at h
   all_goals first
    | (cases h;done)
    | (exact h3 h)
    | (rename_i e;subst e;cases h;exact ty_ok (by kernel_rfl) (by rfl) (by rfl) (by decide) (by kernel_rfl) (by decide))
  unfold tyT at h
  repeat' split at h
  all_goals first
   | (cases h;done)
   | (exact h2 h)
   | (rename_i e;subst e;cases h;exact ty_ok (by kernel_rfl) (by rfl) (by rfl) (by decide) (by kernel_rfl) (by decide))
 fs:=by
  intro t fs h
  have h:fsT t = some fs:=h
  unfold fsT at h
  repeat' split at h
  all_goals first
   | (cases h;done)
   | (rename_i e;subst e;cases h;exact fs_ok (by kernel_rfl) (by decide))
 i64:=by
  intro t h
  have h:(t == 2 || t == 3) = true:=h
  simp only [Bool.or_eq_true,beq_iff_eq] at h
  rcases h with rfl|rfl
  ·exact i64_a
  ·exact i64_b
def dL (xs:List Int):D:=.sl 1 (xs.map eI)
theorem rd_dL {A:Nat→Prop} {w:World} {v:Value} {xs:List Int}:rdV A w v (dL xs) ↔ (RS RI).rd A w [v] xs:=((encS encI).rdV (x:=xs) rfl).symm
end
section
structure Cod (α:Type) where
 e:α→List D
 d:List D→Option α
 de:∀ x,d (e x) = some x
 ed:∀ c x,d c = some x→c = e x
def dI:List D→Option Int
 | [.int n] => some n
 | _ => none
def dB:List D→Option Bool
 | [.bool n] => some n
 | _ => none
theorem dI_spec {c:List D} {x:Int} (h:dI c = some x):c = eI x:=by
 unfold dI at h
 split at h
 ·cases h;rfl
 ·cases h
theorem dB_spec {c:List D} {x:Bool} (h:dB c = some x):c = eB x:=by
 unfold dB at h
 split at h
 ·cases h;rfl
 ·cases h
def codI:Cod Int:=⟨eI,dI,fun _ => rfl,fun _ _ => dI_spec⟩
def codB:Cod Bool:=⟨eB,dB,fun _ => rfl,fun _ _ => dB_spec⟩
def dAll {α:Type} (d:List D→Option α):List (List D)→Option (List α)
 | [] => some []
 | c :: cs => (d c).bind fun x => (dAll d cs).map fun xs => x :: xs
def dSl {α:Type} (k:Nat) (d:List D→Option α):List D→Option (List α)
 | [.sl j cs] => if j = k then dAll d cs else none
 | _ => none
theorem dAll_map {α:Type} {e:α→List D} {d:List D→Option α} (h:∀ x,d (e x) = some x):∀ xs:List α,dAll d (xs.map e) = some xs
 | [] => rfl
 | x :: xs => by simp only [List.map_cons,dAll,h,Option.bind_some,dAll_map h xs,Option.map_some]
theorem dAll_spec {α:Type} {e:α→List D} {d:List D→Option α} (h:∀ c x,d c = some x→c = e x):∀ {cs:List (List D)} {xs:List α},dAll d cs = some xs→cs = xs.map e
 | [],xs,hx => by simp only [dAll,Option.some.injEq] at hx;subst hx;rfl
 | c :: cs,xs,hx => by
  simp only [dAll] at hx
  obtain ⟨x,h1,hx⟩:=bind_some hx
  obtain ⟨ys,h2,rfl⟩:=map_some hx
  rw [h c x h1,dAll_spec h h2];rfl
def codS {α:Type} (k:Nat) (C:Cod α):Cod (List α):=⟨eS k C.e,dSl k C.d,fun xs => by
  show dSl k C.d [.sl k (xs.map C.e)] = some xs
  simp only [dSl,if_true,dAll_map C.de],fun c xs h => by
  unfold dSl at h
  split at h
  ·split at h
   ·rename_i e;subst e;rw [dAll_spec C.ed h];rfl
   ·cases h
  ·cases h⟩
def codP {α β:Type} (k:Nat) (C:Cod α) (D':Cod β) (hk:∀ x,(C.e x).length = k):Cod (α × β):=⟨eP C.e D'.e,fun c => (C.d (c.take k)).bind fun x => (D'.d (c.drop k)).map fun y => (x,y),fun x => by
  show (C.d ((C.e x.1 ++ D'.e x.2).take k)).bind (fun x_1 => (D'.d ((C.e x.1 ++ D'.e x.2).drop k)).map fun y => (x_1,y)) = _
  rw [List.take_left' (hk _),List.drop_left' (hk _),C.de,D'.de];rfl,fun c x h => by
  obtain ⟨a,h1,h⟩:=bind_some h
  obtain ⟨b,h2,rfl⟩:=map_some h
  show c = C.e a ++ D'.e b
  rw [← C.ed _ _ h1,← D'.ed _ _ h2,List.take_append_drop]⟩
def eL (xs:List Int):List D:=[.sl 1 (xs.map eI)]
def eLL (xs:List (List Int)):List D:=[.sl 1 (xs.map eL)]
def codL:Cod (List Int):=codS 1 codI
def codLL:Cod (List (List Int)):=codS 1 codL
def eCt (x:List Int × Int):List D:=[.sl 1 (x.1.map eI),.int x.2]
def codCt:Cod (List Int × Int):=codP 1 codL codI (fun _ => rfl)
theorem codL_d (xs:List Int):codL.d [.sl 1 (xs.map eI)] = some xs:=codL.de xs
theorem codLL_d (xs:List (List Int)):codLL.d [.sl 1 (xs.map eL)] = some xs:=codLL.de xs
theorem codI_d (x:Int):codI.d [.int x] = some x:=rfl
theorem codB_d (x:Bool):codB.d [.bool x] = some x:=rfl
theorem codCts_d (xs:List (List Int × Int)):(codS 2 codCt).d [.sl 2 (xs.map eCt)] = some xs:=(codS 2 codCt).de xs
def tab1 {α:Type} (A:Cod α) (f:α→Option (List Res)):List (List D)→Option (List Res)
 | [a] => (A.d a).bind f
 | _ => none
def tab2 {α β:Type} (A:Cod α) (B:Cod β) (f:α→β→Option (List Res)):List (List D)→Option (List Res)
 | [a,b] => (A.d a).bind fun x => (B.d b).bind (f x)
 | _ => none
def tab3 {α β γ:Type} (A:Cod α) (B:Cod β) (C:Cod γ) (f:α→β→γ→Option (List Res)):List (List D)→Option (List Res)
 | [a,b,c] => (A.d a).bind fun x => (B.d b).bind fun y => (C.d c).bind (f x y)
 | _ => none
theorem jO {P:Program} {g:FuncId} {α:Type} {A:Cod α} {f:α→Option (List Res)} (h:∀ x rs,f x = some rs→AFn P g [A.e x] (· = rs)) (ds:List (List D)) (rs:List Res) (e:tab1 A f ds = some rs):AFn P g ds (· = rs):=by
 unfold tab1 at e
 split at e
 ·obtain ⟨x,h1,h2⟩:=bind_some e
  rw [A.ed _ _ h1];exact h x rs h2
 ·cases e
theorem yK {P:Program} {g:FuncId} {α β:Type} {A:Cod α} {B:Cod β} {f:α→β→Option (List Res)} (h:∀ x y rs,f x y = some rs→AFn P g [A.e x,B.e y] (· = rs)) (ds:List (List D)) (rs:List Res) (e:tab2 A B f ds = some rs):AFn P g ds (· = rs):=by
 unfold tab2 at e
 split at e
 ·obtain ⟨x,h1,e⟩:=bind_some e
  obtain ⟨y,h2,e⟩:=bind_some e
  rw [A.ed _ _ h1,B.ed _ _ h2];exact h x y rs e
 ·cases e
theorem tab3_ok {P:Program} {g:FuncId} {α β γ:Type} {A:Cod α} {B:Cod β} {C:Cod γ} {f:α→β→γ→Option (List Res)} (h:∀ x y z rs,f x y z = some rs→AFn P g [A.e x,B.e y,C.e z] (· = rs)) (ds:List (List D)) (rs:List Res) (e:tab3 A B C f ds = some rs):AFn P g ds (· = rs):=by
 unfold tab3 at e
 split at e
 ·obtain ⟨x,h1,e⟩:=bind_some e
  obtain ⟨y,h2,e⟩:=bind_some e
  obtain ⟨z,h3,e⟩:=bind_some e
  rw [A.ed _ _ h1,B.ed _ _ h2,C.ed _ _ h3];exact h x y z rs e
 ·cases e
theorem AFn.of_q {P:Program} {f:FuncId} {ds:List (List D)} {d:D} {v:Value} (eg:∀ args w,(callFunc f args).run P w = .ok (.enter f args) w) (hd:∀ A w,rdV A w v d)
  (h:∀ (w:World) (A:Nat→Prop) vs,jX A w ds vs→Calls P f vs.toArray w (RetQ w v)):AFn P f ds (· = [.val d]):=by
 refine ⟨eg,fun A w vs hA hv => (h w A vs hv).mono ?_⟩
 rintro e w' ⟨rfl,n,rfl⟩
 exact ⟨v,_,rfl,rfl,Below.drewN _ _ _,[v],[],[],rfl,List.nodup_nil,by simp,v,[],[],[],[],[],rfl,rfl,rfl,(hd (fun _ => True) w).one,⟨hd _ _,rfl,rfl⟩,rfl,rfl,rfl⟩
theorem AFn.of_s {P:Program} {f:FuncId} {ds:List (List D)} {d:D} {v:Value} (eg:∀ args w,(callFunc f args).run P w = .ok (.enter f args) w) (hd:∀ A w,rdV A w v d)
  (h:∀ (w:World) (A:Nat→Prop) vs,jX A w ds vs→Calls P f vs.toArray w (jB w v)):AFn P f ds (· = [.val d]):=by
 refine ⟨eg,fun A w vs hA hv => (h w A vs hv).mono ?_⟩
 rintro e w' ⟨rfl,rfl⟩
 exact ⟨v,_,rfl,rfl,Below.refl _ _,[v],[],[],rfl,List.nodup_nil,by simp,v,[],[],[],[],[],rfl,rfl,rfl,(hd (fun _ => True) w).one,⟨hd _ _,rfl,rfl⟩,rfl,rfl,rfl⟩
theorem AFn.of_o {P:Program} {α:Type} {R:Rep α} {e:α→List D} (E:Enc R e) {f:FuncId} {ds:List (List D)} {xs:List α} (eg:∀ args w,(callFunc f args).run P w = .ok (.enter f args) w)
  (h:∀ (w:World) (A:Nat→Prop) vs,jX A w ds vs→Calls P f vs.toArray w (RetO (RS R) w xs)):AFn P f ds (· = [.own R.k (xs.map e) true]):=by
 refine ⟨eg,fun A w vs hA hv => (h w A vs hv).mono ?_⟩
 rintro e' w' ⟨v,rfl,⟨F,⟨v',og,ds',G,e1,hrow,hel,rfl⟩,hn,hlt⟩,hb⟩
 obtain rfl:v = v':=by simpa using e1
 obtain ⟨d,hel'⟩:=enc_ownL E hel
 obtain ⟨oa,c,ev,k1,k2,k3,k4⟩:=hrow.value
 have hv':v = slv og xs.length c:=by
  cases og with
  | none =>
   have h0:=hrow.len0
   have hoa:oa = none:=k4
   rw [ev,hoa,h0,k3 hoa];rfl
  | some g => rw [ev,k4];rfl
 refine ⟨v,_,rfl,rfl,hb,[v],og.toList ++ G,og.toList,rfl,hn,fun b hb' => (hlt b hb').1,v,[],og.toList ++ G,[],og.toList,[],rfl,by simp,by simp,by rw [ev];rfl,?_,rfl,rfl,rfl⟩
 exact ⟨og,c,G,ds',by rw [List.length_map];exact hv',by rw [List.length_map];exact hrow,R.kpos,rfl,rfl,d,R.kpos,hel'⟩
theorem jJ {n:Nat} (h:n ≤ 1000000000):(n ≤ 140737488355328) = True:=eq_true (by omega)
theorem qP {n c:Nat} (hc:c ≤ 100000) (h:n ≤ 1000000000):(n * c ≤ 140737488355328) = True :=
 eq_true (Nat.le_trans (Nat.mul_le_mul h hc) (by decide))
theorem qD {α β:Type} {f:α→β} {xs:List α} {i:Nat} (h:i < xs.length):(xs.map f)[i]? = some (f xs[i]):=by
 rw [List.getElem?_map,List.getElem?_eq_getElem h];rfl
theorem qE {n:Int} (h:-9223372036854775808 ≤ n∧n ≤ 9223372036854775807):w64 n = n:=by unfold w64;exact IntWalk.i64_in n h
theorem qB {n:Nat} (h:n < 9223372036854775807):w64 ((n:Int) + 1) = ((n + 1:Nat):Int):=by rw [qE (by omega)];rfl
theorem rd1 {A:Nat→Prop} {w:World} {xs:List Int} {v:Value} (h:vZ A w (eL xs) v):(RS RI).rd A w [v] xs:=rd_dL.1 h
end
section
def inR (n lo hi:Int):Bool:=decide (lo ≤ n) && decide (n ≤ hi)
theorem yN0 (n lo hi:Int) (w:World) :
  Calls Tryz.prog 112 #[.int .i64 n,.int .i64 lo,.int .i64 hi] w (jB w (.bool (inR n lo hi))):=by
 unfold inR
 by_cases h1:lo ≤ n <;> by_cases h2:n ≤ hi
 all_goals
  go_enter Tryz.func112,Tryz.ntmps112
  go_wp2
  go_ret
  exact ⟨by simp [*],rfl⟩
theorem yL0 (n lo hi:Int) (w:World) :
  Calls Tryz.prog 135 #[.int .i64 n,.int .i64 lo,.int .i64 hi] w (jB w (.bool (inR n lo hi))):=by
 unfold inR
 by_cases h1:lo ≤ n <;> by_cases h2:n ≤ hi
 all_goals
  go_enter Tryz.func135,Tryz.ntmps135
  go_wp2
  go_ret
  exact ⟨by simp [*],rfl⟩
theorem take_succ_eq {xs ys:List Int} {k:Nat} (h1:k < xs.length) (h2:k < ys.length) (h:xs.take k = ys.take k) (he:xs[k] = ys[k]):xs.take (k + 1) = ys.take (k + 1):=by
 rw [List.take_succ_eq_append_getElem h1,List.take_succ_eq_append_getElem h2,h,he]
end
section
def qU (t:List Int):Prop:=t.getD 0 1 = 0∧∀ i,i < t.length→i + 1 < t.length→1 ≤ t.getD (i + 1) 0∧t.getD (i + 1) 0 ≤ t.getD i 0 + 1
instance (t:List Int):Decidable (qU t):=inferInstanceAs (Decidable (_∧_))
def levB (t:List Int):Bool:=decide (qU t)
def lev8 (t:List Int):Bool:=decide (t.length ≤ 8) && levB t
theorem qU.pos {t:List Int} (h:qU t):0 < t.length:=by
 cases t with
 | nil => have:=h.1;simp at this
 | cons a t => simp
theorem qU.zero {t:List Int} (h:qU t) (hp:0 < t.length):t[0] = 0:=by
 have:=h.1
 simpa [hp] using this
theorem qU.succ {t:List Int} (h:qU t) {i:Nat} (hi:i + 1 < t.length):1 ≤ t[i + 1]∧t[i + 1] ≤ t[i]'(by omega) + 1:=by
 have:=h.2 i (by omega) hi
 simpa [hi,show i < t.length by omega] using this
theorem qU.bd {t:List Int} (h:qU t):∀ i (hi:i < t.length),0 ≤ t[i]∧t[i] ≤ (i:Int):=by
 intro i
 induction i with
 | zero => intro hi;rw [h.zero hi];simp
 | succ i ih =>
  intro hi
  have h1:=h.succ hi
  have h2:=ih (by omega)
  omega
def LevTo (t:List Int) (k:Nat):Prop:=(0 < k→t.getD 0 1 = 0)∧∀ i,i + 1 < k→1 ≤ t.getD (i + 1) 0∧t.getD (i + 1) 0 ≤ t.getD i 0 + 1
theorem LevTo.all {t:List Int} {k:Nat} (h:LevTo t k) (h0:0 < t.length) (hk:t.length ≤ k):qU t :=
 ⟨h.1 (by omega),fun i _ h2 => h.2 i (by omega)⟩
theorem LevTo.bd {t:List Int} {k:Nat} (h:LevTo t k):∀ i,i < k→i < t.length→0 ≤ t.getD i 0∧t.getD i 0 ≤ (i:Int):=by
 intro i
 induction i with
 | zero =>
  intro hi hl
  have:=h.1 hi
  have e:t.getD 0 0 = t.getD 0 1:=by simp [hl]
  rw [e,this];simp
 | succ i ih =>
  intro hi hl
  have h1:=h.2 i hi
  have h2:=ih (by omega) (by omega)
  omega
theorem vJ0 (v:Value) (t:List Int) (w:World) (h:Rd (RS RI) w [v] t) :
  Calls Tryz.prog 116 #[v] w (jB w (.bool (levB t))):=by
 obtain ⟨oa,c1,I1⟩:=h.ints
 obtain rfl:=I1.val
 have m1:=I1.le;have m2:=I1.capLe
 unfold maxLen at m2
 go_enter Tryz.func116,Tryz.ntmps116
 go_wp2_with fail
 go_loop [7] (fun i => ∃ k:Nat,k ≤ t.length∧i = .int .i64 k∧LevTo t k) (fun i => t.length - (intOf i).toNat)
 case atStart => exact ⟨0,Nat.zero_le _,rfl,fun h => absurd h (Nat.lt_irrefl _),fun i h => by omega⟩
 case round =>
  obtain ⟨k,hk,rfl,hlev⟩:=hrel
  by_cases hlt:k < t.length
  ·obtain ⟨b,off,rfl,hb,hc⟩:=I1.get hlt
   have g1:=hc k hlt
   have hx:=I1.b hlt
   unfold qH at hx
   cases k with
   | zero =>
    rw [Nat.add_zero] at g1
    by_cases hz:t[0] = 0
    ·have hzb:(t[0] != 0) = false:=by simp [hz]
     have Hz:=Lib.hid hz
     have Hlev:=Lib.hid hlev
     clear hz hlev hc
     go_wp2_with fail
     go_round
     case rel => exact ⟨1,by omega,rfl,fun _ => by simpa [hlt] using Hz.out,fun i h => by omega⟩
     case measure => simp [intOf];omega
    ·have hzb:(t[0] != 0) = true:=by simp [hz]
     have Hz:=Lib.hid hz
     have Hlev:=Lib.hid hlev
     clear hz hlev hc
     go_wp2_with fail
     go_ret
     refine ⟨?_,rfl⟩
     have:levB t = false:=by
      apply decide_eq_false
      intro hp
      exact Hz.out (hp.zero hlt)
     rw [this];rfl
   | succ k =>
    have g2:=hc k (by omega)
    have hbd:=hlev.bd k (by omega) (by omega)
    have e1:t.getD k 0 = t[k]:=by simp [show k < t.length by omega]
    have e2:t.getD (k + 1) 0 = t[k + 1]:=by simp [hlt]
    rw [e1] at hbd
    obtain ⟨q1,q2⟩:=hbd
    have q3:IntKind.i64.wrap (t[k] + 1) = t[k] + 1:=by exact IntWalk.i64_in _ (by omega)
    have ek:(((k + 1:Nat):Int) == 0) = false:=by simp;omega
    have ek2:(((k + 1:Nat):Int) - 1) = (k:Int):=by omega
    have Hlev:=Lib.hid hlev
    have H1:=Lib.hid e1
    have H2:=Lib.hid e2
    clear hlev hc e1 e2 q3
    by_cases hr:inR t[k + 1] 1 (t[k] + 1) = true
    ·go_wp2_with (go_at_call 112;refine (yN0 _ _ _ _).mono ?_;rintro e w' ⟨rfl,rfl⟩)
     go_round
     case rel =>
      refine ⟨k + 1 + 1,by omega,by go_num,fun _ => Hlev.out.1 (by omega),fun i hi => ?_⟩
      by_cases hik:i + 1 < k + 1
      ·exact Hlev.out.2 i hik
      ·have hie:i = k:=by omega
       subst hie
       rw [H1.out,H2.out]
       simpa [inR] using hr
     case measure => simp [intOf];omega
    ·have hr':inR t[k + 1] 1 (t[k] + 1) = false:=by simpa using hr
     go_wp2_with (go_at_call 112;refine (yN0 _ _ _ _).mono ?_;rintro e w' ⟨rfl,rfl⟩)
     go_ret
     refine ⟨?_,rfl⟩
     have:levB t = false:=by
      apply decide_eq_false
      intro hp
      have:=hp.succ hlt
      apply hr
      simp [inR];omega
     rw [this];rfl
  ·have hke:k = t.length:=by omega
   by_cases h0:0 < t.length
   ·have hfin:levB t = true:=decide_eq_true (hlev.all h0 (by omega))
    have Hf:=Lib.hid hfin
    have Hlev:=Lib.hid hlev
    clear hfin hlev hke
    go_wp2_with fail
    go_ret
    exact ⟨by rw [Hf.out];first|(simp;done)|(simp;omega),rfl⟩
   ·have ht:t = []:=List.eq_nil_of_length_eq_zero (by omega)
    have hfin:levB t = false:=by rw [ht];rfl
    have Hf:=Lib.hid hfin
    have Hlev:=Lib.hid hlev
    have h0':t.length = 0:=by omega
    clear hfin hlev hke ht
    go_wp2_with fail
    go_ret
    exact ⟨by rw [Hf.out];first|(simp;done)|(simp;omega),rfl⟩
theorem c_impl_IsLevels (v:Value) (t:List Int) (w:World) (h:Rd (RS RI) w [v] t) :
  Calls Tryz.prog 57 #[v] w (jB w (.bool (lev8 t))):=by
 obtain ⟨oa,c1,I1⟩:=h.ints
 obtain rfl:=I1.val
 have m1:=I1.le;have m2:=I1.capLe
 unfold maxLen at m2
 unfold lev8
 by_cases hl:t.length ≤ 8
 ·go_enter Tryz.func57,Tryz.ntmps57
  go_wp2_with (go_at_call 116;refine (vJ0 _ t _ h).mono ?_;rintro e w' ⟨rfl,rfl⟩)
  go_ret
  exact ⟨by simp [hl],rfl⟩
 ·go_enter Tryz.func57,Tryz.ntmps57
  go_wp2_with fail
  go_ret
  exact ⟨by simp,rfl⟩
def LevW (t:List Int) (k:Nat):Prop:=∀ i,i + 1 < k→inR (t.getD (i + 1) 0) 1 (IntKind.i64.wrap (t.getD i 0 + 1)) = true
theorem LevW.lev {t:List Int} {k:Nat} (h:LevW t k) (h0:t.getD 0 1 = 0) (hl:t.length < 1000000000000000) (hk:k ≤ t.length):LevTo t k:=by
 refine ⟨fun _ => h0,?_⟩
 have key:∀ j,j ≤ k→LevTo t j:=by
  intro j
  induction j with
  | zero => intro _;exact ⟨fun h => absurd h (Nat.lt_irrefl _),fun i hi => by omega⟩
  | succ j ih =>
   intro hj
   have hp:=ih (by omega)
   refine ⟨fun _ => h0,fun i hi => ?_⟩
   by_cases hij:i + 1 < j
   ·exact hp.2 i hij
   ·have hie:i + 1 = j:=by omega
    have hb:=hp.bd i (by omega) (by omega)
    have hw:=h i (by omega)
    have e:IntKind.i64.wrap (t.getD i 0 + 1) = t.getD i 0 + 1:=IntWalk.i64_in _ (by omega)
    rw [e] at hw
    simpa [inR] using hw
 exact (key k (Nat.le_refl _)).2
theorem qU.w {t:List Int} (h:qU t) (hl:t.length < 1000000000000000) {i:Nat} (hi:i + 1 < t.length):inR (t.getD (i + 1) 0) 1 (IntKind.i64.wrap (t.getD i 0 + 1)) = true:=by
 have h1:=h.2 i (by omega) hi
 have h2:=h.bd i (by omega)
 have e0:t.getD i 0 = t[i]'(by omega):=by simp [show i < t.length by omega]
 have e:IntKind.i64.wrap (t.getD i 0 + 1) = t.getD i 0 + 1:=IntWalk.i64_in _ (by rw [e0];omega)
 rw [e];simpa [inR] using h1
theorem c_spec_l03Is (v:Value) (t:List Int) (w:World) (h:Rd (RS RI) w [v] t) (hsz:t.length < 1000000000000000) :
  Calls Tryz.prog 188 #[v] w (RetQ w (.bool (lev8 t))):=by
 obtain ⟨oa,c1,I1⟩:=h.ints
 obtain rfl:=I1.val
 have m1:=I1.le;have m2:=I1.capLe
 unfold maxLen at m2
 go_enter Tryz.func188,Tryz.ntmps188
 go_wp2_with fail
 go_loopw [3] (fun i wr => ∃ k:Nat,i = .int .i64 (k + 1)∧(k + 1 ≤ t.length ∨ k = 0)∧LevW t (k + 1)∧∃ n,wr = w.drewN n) (fun i _ => t.length + 1 - (intOf i).toNat)
 case atStart => exact ⟨0,by simp,.inr rfl,fun i hi => by omega,0,rfl⟩
 case round =>
  obtain ⟨k,rfl,hk,hlev,n,rfl⟩:=hrel
  have Hlev:=Lib.hid hlev
  have Hk:=Lib.hid hk
  clear hlev hk
  by_cases hlt:k + 1 < t.length
  ·obtain ⟨b,off,rfl,hb,hc⟩:=I1.get hlt
   have g1:=hc (k + 1) hlt
   have g2:=hc k (by omega)
   have e1:t.getD k 0 = t[k]:=by simp [show k < t.length by omega]
   have e2:t.getD (k + 1) 0 = t[k + 1]:=by simp [hlt]
   have H1:=Lib.hid e1
   have H2:=Lib.hid e2
   have hx1:=I1.b (k:=k) (by omega)
   have hi1:(0:Int) ≤ (k:Int) + 1:=by omega
   have hi2:(k:Int) + 1 < (t.length:Int):=by omega
   have hi3:IntKind.i64.wrap (k:Int) = (k:Int):=IntWalk.i64_in _ (by omega)
   have hi4:((k:Int) + 1).toNat = k + 1:=by omega
   have hi5:(k:Int) < (t.length:Int):=by omega
   clear hc e1 e2
   obtain ⟨g,hg⟩:∃ g,IntKind.i64.wrap (t[k] + 1) = g:=⟨_,rfl⟩
   have Hg:=Lib.hid hg
   cases hr:inR t[k + 1] 1 g
   ·go_wp2_with fail
    go_quiet ((go_at_call 135;exact Calls.qS' (yL0 _ _ _ _)))
    go_wp2_with fail
    go_ret
    refine ⟨?_,(by first|exact yS _ _|exact xQ _ _ _)⟩
    have:lev8 t = false:=by
     unfold lev8
     rw [Bool.and_eq_false_iff]
     right
     apply decide_eq_false
     intro hp
     have h5:=hp.w (by omega) hlt
     rw [H1.out,H2.out,Hg.out,hr] at h5
     cases h5
    rw [this];rfl
   ·go_wp2_with fail
    go_quiet ((go_at_call 135;exact Calls.qS' (yL0 _ _ _ _)))
    go_wp2_with fail
    go_roundw
    case rel =>
     refine ⟨k + 1,by go_num,by omega,fun i hi => ?_,(by first|exact yS _ _|exact xQ _ _ _)⟩
     by_cases hik:i + 1 < k + 1
     ·exact Hlev.out i hik
     ·have hie:i = k:=by omega
      subst hie
      rw [H1.out,H2.out,Hg.out];exact hr
    case measure => simp [intOf];omega
  ·by_cases h0:0 < t.length
   ·have hkk:k + 1 = t.length:=by rcases Hk.out with h|h <;> omega
    obtain ⟨b,off,rfl,hb,hc⟩:=I1.get h0
    have g1:=hc 0 h0
    rw [Nat.add_zero] at g1
    have Hkk:=Lib.hid hkk
    clear hc hkk
    by_cases h8:t.length ≤ 8
    ·by_cases hz:t[0] = 0
     ·have hzb:(t[0] == 0) = true:=by simp [hz]
      have e0:t.getD 0 1 = 0:=by simp [h0,hz]
      have hl:levB t = true:=decide_eq_true ((Hlev.out.lev e0 (by omega) (by rw [Hkk.out];exact Nat.le_refl _)).all h0 (by rw [Hkk.out];exact Nat.le_refl _))
      have Hl:=Lib.hid hl
      clear hz hl e0
      go_wp2_with fail
      go_ret
      exact ⟨by unfold lev8;rw [Hl.out];simp [h8],(by first|exact yS _ _|exact xQ _ _ _)⟩
     ·have hzb:(t[0] == 0) = false:=by simp [hz]
      have hl:levB t = false:=decide_eq_false (fun hp => hz (hp.zero h0))
      have Hl:=Lib.hid hl
      clear hz hl
      go_wp2_with fail
      go_ret
      exact ⟨by unfold lev8;rw [Hl.out];simp,(by first|exact yS _ _|exact xQ _ _ _)⟩
    ·go_wp2_with fail
     go_ret
     exact ⟨by unfold lev8;simp [h8],(by first|exact yS _ _|exact xQ _ _ _)⟩
   ·have ht:t = []:=List.eq_nil_of_length_eq_zero (by omega)
    have Ht:=Lib.hid ht
    have h0':t.length = 0:=by omega
    clear ht
    go_wp2_with fail
    go_ret
    exact ⟨by rw [Ht.out];rfl,(by first|exact yS _ _|exact xQ _ _ _)⟩
end
section
def xE (acc:List (List Int)) (l:Int):List (List Int) :=
 (if l = 1 then acc ++ [[]] else acc).set ((if l = 1 then acc ++ [[]] else acc).length - 1) ((if l = 1 then acc ++ [[]] else acc).getD ((if l = 1 then acc ++ [[]] else acc).length - 1) [] ++ [l - 1])
def brTo (t:List Int) (k:Nat):List (List Int):=((t.drop 1).take k).foldl xE []
def brs (t:List Int):List (List Int):=(t.drop 1).foldl xE []
theorem xP (t:List Int) (k:Nat) (h:k + 1 < t.length):brTo t (k + 1) = xE (brTo t k) t[k + 1]:=by
 unfold brTo
 rw [List.take_succ_eq_append_getElem (by simp;omega),List.foldl_append]
 simp [List.foldl]
theorem qP0 (t:List Int) (k:Nat) (h:t.length ≤ k + 1):brTo t k = brs t:=by
 unfold brTo brs
 rw [List.take_of_length_le (by simp;omega)]
theorem vW (acc:List (List Int)):xE acc 1 = acc ++ [[0]]:=by
 unfold xE
 rw [if_pos rfl]
 simp
theorem wZ (acc:List (List Int)) (l:Int) (h:l ≠ 1) (hp:0 < acc.length):xE acc l = acc.set (acc.length - 1) (acc[acc.length - 1] ++ [l - 1]):=by
 unfold xE
 rw [if_neg h]
 have e:acc.getD (acc.length - 1) [] = acc[acc.length - 1]:=by
  rw [List.getD_eq_getElem?_getD,List.getElem?_eq_getElem (by omega)];rfl
 rw [e]
theorem brStep_len (acc:List (List Int)) (l:Int):(xE acc l).length ≤ acc.length + 1:=by
 unfold xE
 split <;> simp
theorem brTo_len (t:List Int):∀ k,(brTo t k).length ≤ k
 | 0 => by simp [brTo]
 | k + 1 => by
  by_cases h:k + 1 < t.length
  ·rw [xP t k h]
   have:=brStep_len (brTo t k) t[k + 1]
   have:=brTo_len t k
   omega
  ·have:brTo t (k + 1) = brTo t k:=by
    unfold brTo
    rw [List.take_of_length_le (by simp;omega),List.take_of_length_le (by simp;omega)]
   rw [this]
   have:=brTo_len t k
   omega
theorem qR0 {t:List Int} (h:qU t):∀ k,k + 1 < t.length→0 < (brTo t (k + 1)).length
 | 0,hk => by
  rw [xP t 0 hk]
  have h1:=h.succ hk
  have h0:=h.zero h.pos
  have e:t[0 + 1] = 1:=by simp at h1 ⊢;omega
  rw [e,vW];simp
 | k + 1,hk => by
  have ih:=qR0 h k (by omega)
  rw [xP t (k + 1) hk]
  by_cases e:t[k + 1 + 1] = 1
  ·rw [e,vW];simp
  ·rw [wZ _ _ e ih];simpa using ih
theorem jB0 (t:List Int):∀ k i (hi:i < (brTo t k).length),((brTo t k)[i]).length ≤ k
 | 0,i,hi => by simp [brTo] at hi
 | k + 1,i,hi => by
  by_cases h:k + 1 < t.length
  ·have key:∀ x ∈ brTo t (k + 1),x.length ≤ k + 1:=by
    have old:∀ x ∈ brTo t k,x.length ≤ k:=by
     intro x hx
     obtain ⟨j,hj,rfl⟩:=List.getElem_of_mem hx
     exact jB0 t k j hj
    rw [xP t k h]
    by_cases e:t[k + 1] = 1
    ·rw [e,vW]
     intro x hx
     rcases List.mem_append.1 hx with hx|hx
     ·have:=old x hx;omega
     ·simp at hx;subst hx;simp
    ·by_cases hp:0 < (brTo t k).length
     ·rw [wZ _ _ e hp]
      intro x hx
      rcases List.mem_or_eq_of_mem_set hx with hx|rfl
      ·have:=old x hx;omega
      ·have:=old _ (List.getElem_mem (show (brTo t k).length - 1 < (brTo t k).length by omega))
       simp;omega
     ·have e0:brTo t k = []:=List.eq_nil_of_length_eq_zero (by omega)
      rw [e0]
      intro x hx
      unfold xE at hx
      rw [if_neg e] at hx
      simp at hx
   exact key _ (List.getElem_mem hi)
  ·have e:brTo t (k + 1) = brTo t k:=by
    unfold brTo
    rw [List.take_of_length_le (by simp;omega),List.take_of_length_le (by simp;omega)]
   have:=jB0 t k i (by rw [← e];exact hi)
   simp only [e];omega
theorem kF0 (v:Value) (t:List Int) (w:World) (h:Rd (RS RI) w [v] t) (hl:qU t) (hsz:t.length ≤ 1000000000) :
  Calls Tryz.prog 103 #[v] w (RetO (RS (RS RI)) w (brs t)):=by
 obtain ⟨oa,c1,I1⟩:=h.ints
 obtain rfl:=I1.val
 have m1:=I1.le;have m2:=I1.capLe
 unfold maxLen at m2
 have hp:=hl.pos
 obtain ⟨b,off,rfl,hb,hc⟩:=I1.get hp
 obtain ⟨ao,hao,haoc⟩:∃ ao,(if c1 = 1 then some (⟨b,off,none⟩:Addr) else some ⟨b,off + 1,none⟩) = ao∧∀ j,j + 1 < t.length→ao = some ⟨b,off + 1,none⟩:=by
  refine ⟨_,rfl,fun j hj => ?_⟩
  rw [if_neg (by omega)]
 go_enter Tryz.func103,Tryz.ntmps103
 go_wp2_with fail
 go_loopw [3,10] (fun o i wr => ∃ k:Nat,k + 1 ≤ t.length∧i = .int .i64 k∧(∃ oa cap,o = .slice oa (brTo t k).length cap)∧Own (RS (RS RI)) w.heap.size wr.heap.size wr [o] (brTo t k)∧Below w.heap.size w wr) (fun _ i _ => t.length - (intOf i).toNat)
 case atStart => exact ⟨0,hp,rfl,⟨_,_,rfl⟩,Own.empty (R:=RS RI) (w:=w) 24 w.heap.size (Nat.le_refl _) |>.top _ (by simp),(Below.refl _ _).alloc (Nat.le_refl _) _⟩
 case round =>
  obtain ⟨k,hk,rfl,⟨oa,cap,rfl⟩,hown,hbel⟩:=hrel
  have hsz1:=hbel.size
  by_cases hlt:k + 1 < t.length
  ·obtain rfl:=haoc k hlt
   have Hao:=Lib.hid hao
   have g1:wr.cell? ⟨b,off + 1 + k,none⟩ = some (.int .i64 t[k + 1]):=by
    have e:=(hbel.cell (p:=⟨b,off + (k + 1),none⟩) hb).trans (hc (k + 1) hlt)
    rwa [show off + (k + 1) = off + 1 + k by omega] at e
   have hbd:=hl.bd (k + 1) hlt
   obtain ⟨q1,q2⟩:=hbd
   have hs1:=hl.succ hlt
   obtain ⟨q3,q4⟩:=hs1
   have hnl:=brTo_len t k
   have hlen1:k < t.length - 1:=by omega
   by_cases he:t[k + 1] = 1
   ·have heb:(t[k + 1] == 1) = true:=by simp [he]
    have hnext:brTo t (k + 1) = (brTo t k ++ [[]]).set (brTo t k).length (([]:List Int) ++ [t[k + 1] - 1]):=by
     rw [xP t k hlt,he,vW];simp
    have Hn:=Lib.hid hnext
    clear hao hc he hnext
    go_wp2_with (at_builtin;refine qO0 (o:=⟨some 18,_,_,_,_,_⟩) rfl _ _ 36 rfl 24 (.slice none 0 0) 1 24 tI64S rfl _ (brTo t k) [] [.slice none 0 0] w.heap.size wr.heap.size wr.heap.size rfl hown (Own.nil _ _) (Nat.le_refl _) hsz1 24 rfl rfl (by omega) (by omega) ?_;intro oa1 cap1 w1 hown1 c1a c1b hbel1;refine jA.out ?_)
    have hbel2:=hbel.trans hbel1
    have hsz2:=hbel2.size
    have g2:=(hbel1.cell (p:=⟨b,off + 1 + k,none⟩) hb).trans g1
    obtain ⟨g,cap2,h0,m,ds,og,hv,hg1,hg2,hcell,hr0,hm,hog,hK⟩:=Own.inner hown1 (brTo t k).length (by simp) ((brTo t k).length + 1) (by simp)
    simp only [Value.slice.injEq,true_and] at hv
    obtain ⟨rfl,rfl⟩:=hv
    have hm0:m = 0:=by rw [hm];simp
    subst hm0
    have HK:=Lib.hid hK
    clear hK hm g1 hbel1 hbel
    refine jA.go ?_
    go_wp2_with (refine yG0 (o:=⟨some 32,_,_,_,_,_⟩) rfl _ _ 24 rfl 2 (.int .i64 0) 1 8 tI64 h0 0 ds og rfl hr0 2 [.int .i64 (t[k + 1] - 1)] rfl rfl rfl (by simp [Value.oneCell']) (by omega) (by unfold maxLen;omega) ?_;intro h' w2 og' happ;refine jA.out ?_)
    obtain ⟨f1,f2,f3,f4⟩:=HK.out (t[k + 1] - 1) [.int .i64 (t[k + 1] - 1)] w1.heap.size w1.heap.size h' w2 og' (Own.int ⟨by omega,by omega⟩) (Nat.le_refl _) happ
    obtain ⟨oa',cap',rfl,_⟩:=happ.1.val
    have f5:=hbel2.trans (f4 hsz2)
    clear f4 happ
    simp only [List.getElem_append_right (Nat.le_refl _),Nat.sub_self,List.getElem_singleton] at f3
    rw [← Hn.out] at f3
    simp only [Nat.zero_add] at f1 f2 f3 f5
    refine jA.go ?_
    go_wp2_with fail
    go_roundw
    case rel => exact ⟨k + 1,by omega,by go_num,⟨some ⟨g,0,none⟩,cap1,by rw [Hn.out];simp⟩,f3,f5⟩
    case measure => simp [intOf];omega
   ·have heb:(t[k + 1] == 1) = false:=by simp [he]
    have hk0:0 < k:=by
     rcases Nat.eq_zero_or_pos k with rfl|h
     ·have h0:=hl.zero hp
      simp only [Nat.zero_add] at q3 q4 he
      omega
     ·exact h
    have hpos:0 < (brTo t k).length:=by
     obtain ⟨k',rfl⟩:∃ k',k = k' + 1:=⟨k - 1,by omega⟩
     exact qR0 hl k' (by omega)
    have hnext:brTo t (k + 1) = (brTo t k).set ((brTo t k).length - 1) ((brTo t k)[(brTo t k).length - 1] ++ [t[k + 1] - 1]):=by
     rw [xP t k hlt,wZ _ _ he hpos]
    have Hn:=Lib.hid hnext
    have hidx:(brTo t k).length - 1 < (brTo t k).length:=by omega
    have hea:=jB0 t k ((brTo t k).length - 1) hidx
    clear hao hc he hnext
    obtain ⟨g,cap2,h0,m,ds,og,hv,hg1,hg2,hcell,hr0,hm,hog,hK⟩:=Own.inner hown ((brTo t k).length - 1) hidx _ rfl
    obtain ⟨n,hn⟩:∃ n,(brTo t k).length = n + 1:=⟨(brTo t k).length - 1,by omega⟩
    simp only [Value.slice.injEq,true_and] at hv
    obtain ⟨rfl,rfl⟩:=hv
    have HK:=Lib.hid hK
    have Hnn:=Lib.hid hn
    have hml:m ≤ k:=by omega
    have en:(brTo t k).length - 1 = n:=by omega
    rw [en] at hcell
    rw [hn]
    have Hen:=Lib.hid en
    have hnb:n < 1000000000:=by omega
    clear hK hm hn en hea
    go_wp2_with (refine yG0 (o:=⟨some 32,_,_,_,_,_⟩) rfl _ _ 24 rfl 2 (.int .i64 0) 1 8 tI64 h0 m ds og rfl hr0 2 [.int .i64 (t[k + 1] - 1)] rfl rfl rfl (by simp [Value.oneCell']) (by omega) (by unfold maxLen;omega) ?_;intro h' w2 og' happ;refine jA.out ?_)
    obtain ⟨f1,f2,f3,f4⟩:=HK.out (t[k + 1] - 1) [.int .i64 (t[k + 1] - 1)] wr.heap.size wr.heap.size h' w2 og' (Own.int ⟨by omega,by omega⟩) (Nat.le_refl _) happ
    obtain ⟨oa',cap',rfl,_⟩:=happ.1.val
    have f5:=hbel.trans (f4 hsz1)
    clear f4 happ
    rw [← Hn.out] at f3
    rw [Hen.out] at f1 f2 f3 f5
    refine jA.go ?_
    go_wp2_with fail
    go_roundw
    case rel => exact ⟨k + 1,by omega,by go_num,⟨some ⟨g,0,none⟩,cap,by rw [Hn.out];simp [Hnn.out]⟩,by rw [← Hnn.out];exact f3,f5⟩
    case measure => simp [intOf];omega
  ·have hfin:brTo t k = brs t:=qP0 t k (by omega)
   rw [hfin] at hown
   have Hfin:=Lib.hid hfin
   have hke:¬ k < t.length - 1:=by omega
   clear hfin
   go_wp2_with fail
   go_ret
   exact ⟨_,rfl,by rw [Hfin.out];exact hown,hbel⟩
end
section
theorem qU.snoc {x:List Int} {y:Int} (h:qU x) (h1:1 ≤ y) (h2:y ≤ x.getD (x.length - 1) 0 + 1):qU (x ++ [y]):=by
 have hp:=h.pos
 refine ⟨?_,fun i hi hi2 => ?_⟩
 ·have:=h.1
  simpa [List.getElem?_append_left hp,hp] using this
 ·simp only [List.length_append,List.length_singleton] at hi hi2
  by_cases hlt:i + 1 < x.length
  ·have:=h.2 i (by omega) hlt
   simpa [List.getD_eq_getElem?_getD,List.getElem?_append_left hlt,List.getElem?_append_left (show i < x.length by omega)] using this
  ·have e:i + 1 = x.length:=by omega
   have e2:i = x.length - 1:=by omega
   rw [e]
   simp only [List.getD_eq_getElem?_getD,List.getElem?_append_right (Nat.le_refl _),Nat.sub_self,List.getElem?_append_left (show i < x.length by omega)]
   rw [e2]
   simpa using ⟨h1,h2⟩
theorem qU.root:qU [0]:=by decide
theorem brTo_lev {t:List Int} (h:qU t):∀ k (hk:k + 1 < t.length),
  (∀ x ∈ brTo t (k + 1),qU x)∧∀ hl:0 < (brTo t (k + 1)).length,((brTo t (k + 1))[(brTo t (k + 1)).length - 1]).getD (((brTo t (k + 1))[(brTo t (k + 1)).length - 1]).length - 1) 0 = t[k + 1] - 1
 | 0,hk => by
  have h1:=h.succ hk
  have h0:=h.zero h.pos
  have e:t[0 + 1] = 1:=by simp at h1 ⊢;omega
  have e2:brTo t (0 + 1) = [[0]]:=by rw [xP t 0 hk,e,vW];rfl
  refine ⟨fun x hx => ?_,fun hl => ?_⟩
  ·rw [e2] at hx
   simp at hx;subst hx;exact qU.root
  ·simp only [e2,e];rfl
 | k + 1,hk => by
  obtain ⟨ih1,ih2⟩:=brTo_lev h k (by omega)
  have hp:=qR0 h k (by omega)
  have hs:=h.succ hk
  by_cases e:t[k + 1 + 1] = 1
  ·have e2:brTo t (k + 1 + 1) = brTo t (k + 1) ++ [[0]]:=by rw [xP t (k + 1) hk,e,vW]
   refine ⟨fun x hx => ?_,fun hl => ?_⟩
   ·rw [e2] at hx
    rcases List.mem_append.1 hx with hx|hx
    ·exact ih1 x hx
    ·simp at hx;subst hx;exact qU.root
   ·simp only [e2,e,List.length_append,List.length_singleton,Nat.add_sub_cancel,List.getElem_append_right (Nat.le_refl _),Nat.sub_self,List.getElem_singleton]
    rfl
  ·have e2:brTo t (k + 1 + 1) = (brTo t (k + 1)).set ((brTo t (k + 1)).length - 1) ((brTo t (k + 1))[(brTo t (k + 1)).length - 1] ++ [t[k + 1 + 1] - 1]):=by
    rw [xP t (k + 1) hk,wZ _ _ e hp]
   refine ⟨fun x hx => ?_,fun hl => ?_⟩
   ·rw [e2] at hx
    rcases List.mem_or_eq_of_mem_set hx with hx|rfl
    ·exact ih1 x hx
    ·exact qU.snoc (ih1 _ (List.getElem_mem _)) (by omega) (by rw [ih2 hp];omega)
   ·simp only [e2,List.length_set,List.getElem_set_self,List.length_append,List.length_singleton,Nat.add_sub_cancel]
    simp
theorem yB {t:List Int} (h:qU t):∀ x ∈ brs t,qU x:=by
 rw [← qP0 t (t.length - 1) (by omega)]
 by_cases h1:1 < t.length
 ·have:=(brTo_lev h (t.length - 2) (by omega)).1
  rwa [show t.length - 2 + 1 = t.length - 1 by omega] at this
 ·intro x hx
  have e:t.length - 1 = 0:=by omega
  rw [e] at hx
  simp [brTo] at hx
theorem xS {t:List Int} (h:qU t):∀ x ∈ brs t,x.length + 1 ≤ t.length:=by
 rw [← qP0 t (t.length - 1) (by omega)]
 intro x hx
 obtain ⟨i,hi,rfl⟩:=List.getElem_of_mem hx
 have:=jB0 t (t.length - 1) i hi
 have:=h.pos
 omega
end
section
structure Cmp {α:Type} (c:α→α→Int):Prop where
 zero:∀ a b,c a b = 0→a = b
 refl:∀ a,c a a = 0
 anti:∀ a b,c a b < 0 ↔ 0 < c b a
 trans:∀ a b d,c a b ≤ 0→c b d ≤ 0→c a d ≤ 0
section
variable {α:Type} {c:α→α→Int}
def ins (c:α→α→Int) (x:α):List α→List α
 | [] => [x]
 | y :: l => if c x y < 0 then x :: y :: l else y :: ins c x l
def sortC (c:α→α→Int) (l:List α):List α:=l.foldl (fun s x => ins c x s) []
theorem ins_perm (x:α):∀ l,(ins c x l).Perm (x :: l)
 | [] => .refl _
 | y :: l => by
  unfold ins
  split
  ·exact .refl _
  ·exact ((ins_perm x l).cons y).trans (List.Perm.swap x y l)
theorem ins_length (x:α) (l:List α):(ins c x l).length = l.length + 1:=(ins_perm x l).length_eq
theorem ins_mem {x y:α} {l:List α}:y ∈ ins c x l ↔ y = x ∨ y ∈ l:=by
 rw [(ins_perm x l).mem_iff,List.mem_cons]
theorem Cmp.le_of_not_lt (h:Cmp c) {a b:α} (hn:¬ c a b < 0):c b a ≤ 0:=by
 rw [h.anti] at hn;omega
theorem yX0 (h:Cmp c) (x:α):∀ l:List α,l.Pairwise (fun a b => c a b ≤ 0)→(ins c x l).Pairwise (fun a b => c a b ≤ 0)
 | [],_ => by simp [ins]
 | y :: l,hl => by
  rw [List.pairwise_cons] at hl
  unfold ins
  split
  ·rename_i hlt
   refine List.pairwise_cons.2 ⟨fun z hz => ?_,List.pairwise_cons.2 hl⟩
   rcases List.mem_cons.1 hz with rfl|hz
   ·omega
   ·exact h.trans x y z (by omega) (hl.1 z hz)
  ·rename_i hn
   refine List.pairwise_cons.2 ⟨fun z hz => ?_,yX0 h x l hl.2⟩
   rcases ins_mem.1 hz with rfl|hz
   ·exact h.le_of_not_lt hn
   ·exact hl.1 z hz
theorem sortC_aux (l:List α):∀ s:List α,(l.foldl (fun s x => ins c x s) s).Perm (s ++ l):=by
 induction l with
 | nil => intro s;simp
 | cons x l ih =>
  intro s
  refine (ih _).trans ?_
  refine ((ins_perm x s).append_right l).trans ?_
  rw [List.cons_append]
  exact (List.perm_middle (l₁:=s) (a:=x) (l₂:=l)).symm
theorem yQ (l:List α):(sortC c l).Perm l:=by simpa [sortC] using sortC_aux l []
theorem vT (l:List α):(sortC c l).length = l.length:=(yQ l).length_eq
theorem vH (h:Cmp c) (l:List α):(sortC c l).Pairwise (fun a b => c a b ≤ 0):=by
 have:∀ s:List α,s.Pairwise (fun a b => c a b ≤ 0)→(l.foldl (fun s x => ins c x s) s).Pairwise (fun a b => c a b ≤ 0):=by
  induction l with
  | nil => intro s hs;exact hs
  | cons x l ih => intro s hs;exact ih _ (yX0 h x s hs)
 exact this [] List.Pairwise.nil
theorem xQ0 (h:Cmp c):∀ {l m:List α},l.Perm m→l.Pairwise (fun a b => c a b ≤ 0)→m.Pairwise (fun a b => c a b ≤ 0)→l = m
 | [],m,hp,_,_ => hp.nil_eq
 | x :: l,[],hp,_,_ => by have:=hp.length_eq;simp at this
 | x :: l,y :: m,hp,hl,hm => by
  rw [List.pairwise_cons] at hl hm
  have hxy:x = y:=by
   have hy:y ∈ x :: l:=hp.mem_iff.2 (by simp)
   have hx:x ∈ y :: m:=hp.mem_iff.1 (by simp)
   rcases List.mem_cons.1 hy with e|hy
   ·exact e.symm
   ·rcases List.mem_cons.1 hx with e|hx
    ·exact e
    ·have h1:=hl.1 y hy
     have h2:=hm.1 x hx
     refine h.zero x y ?_
     have h3:=h.anti y x
     have h4:=h.anti x y
     omega
  subst hxy
  rw [xQ0 h (List.Perm.cons_inv hp) hl.2 hm.2]
theorem xZ0 (h:Cmp c) {l m:List α} (hp:m.Perm l) (hm:m.Pairwise (fun a b => c a b ≤ 0)):m = sortC c l :=
 xQ0 h (hp.trans (yQ l).symm) hm (vH h l)
theorem jV0 (h:Cmp c) {l m:List α} (hp:m.Perm l):sortC c m = sortC c l :=
 xQ0 h ((yQ m).trans (hp.trans (yQ l).symm)) (vH h m) (vH h l)
theorem xU0 (h:Cmp c) {l:List α} (hl:l.Pairwise (fun a b => c a b ≤ 0)):sortC c l = l:=(xZ0 h (List.Perm.refl l) hl).symm
theorem xC {l:List α} {x:α}:x ∈ sortC c l ↔ x ∈ l:=(yQ l).mem_iff
theorem sortC_snoc (l:List α) (x:α):sortC c (l ++ [x]) = ins c x (sortC c l):=by simp [sortC,List.foldl_append]
end
def cmpL:List Int→List Int→Int
 | [],[] => 0
 | [],_ :: _ => -1
 | _ :: _,[] => 1
 | a :: a2,b :: bs => if a < b then -1 else if b < a then 1 else cmpL a2 bs
theorem cmpL_range (a b:List Int):cmpL a b = -1 ∨ cmpL a b = 0 ∨ cmpL a b = 1:=by
 fun_induction cmpL a b <;> simp_all
theorem cmpL_neg (a b:List Int):cmpL b a = - cmpL a b:=by
 fun_induction cmpL a b with
 | case1 => rfl
 | case2 => rfl
 | case3 => rfl
 | case4 a a2 b bs h => simp [cmpL,h];omega
 | case5 a a2 b bs h1 h2 => simp [cmpL,h2]
 | case6 a a2 b bs h1 h2 ih => simp [cmpL,h1,h2,ih]
theorem cmpL_zero (a b:List Int):cmpL a b = 0→a = b:=by
 fun_induction cmpL a b with
 | case1 => simp
 | case2 => simp
 | case3 => simp
 | case4 => simp
 | case5 => simp
 | case6 a a2 b bs h1 h2 ih => intro h;rw [ih h];congr 1;omega
theorem cmpL_refl (a:List Int):cmpL a a = 0:=by
 induction a with
 | nil => rfl
 | cons a a2 ih => simp [cmpL,ih]
theorem cmpL_trans:∀ a b d:List Int,cmpL a b ≤ 0→cmpL b d ≤ 0→cmpL a d ≤ 0
 | [],[],_,_,h => h
 | [],_ :: _,[],_,h => by simp [cmpL] at h
 | [],_ :: _,_ :: _,_,_ => by simp [cmpL]
 | _ :: _,[],_,h,_ => by simp [cmpL] at h
 | _ :: _,_ :: _,[],_,h => by simp [cmpL] at h
 | a :: a2,b :: bs,d :: ds,h1,h2 => by
  simp only [cmpL] at h1 h2 ⊢
  split at h1
  ·split at h2
   ·rw [if_pos (by omega)];decide
   ·split at h2
    ·omega
    ·rw [if_pos (by omega)];decide
  ·split at h1
   ·omega
   ·split at h2
    ·rw [if_pos (by omega)];decide
    ·split at h2
     ·omega
     ·rw [if_neg (by omega),if_neg (by omega)];exact cmpL_trans a2 bs ds h1 h2
def cmpD (a b:List Int):Int:=cmpL b a
theorem cmpD_cmp:Cmp cmpD where
 zero a b h:=(cmpL_zero b a h).symm
 refl:=cmpL_refl
 anti a b:=by unfold cmpD;rw [cmpL_neg a b];omega
 trans a b d h1 h2:=cmpL_trans d b a h2 h1
def cmpT (s t:List Int):Int:=if s.length = t.length then cmpL t s else (s.length:Int) - t.length
theorem yV:Cmp cmpT where
 zero a b h:=by
  unfold cmpT at h
  split at h
  ·exact (cmpL_zero b a h).symm
  ·omega
 refl a:=by simp [cmpT,cmpL_refl]
 anti a b:=by
  unfold cmpT
  by_cases h:a.length = b.length
  ·rw [if_pos h,if_pos h.symm,cmpL_neg a b];omega
  ·rw [if_neg h,if_neg (fun e => h e.symm)];omega
 trans a b d h1 h2:=by
  unfold cmpT at *
  by_cases e1:a.length = b.length <;> by_cases e2:b.length = d.length
  ·rw [if_pos e1] at h1;rw [if_pos e2] at h2;rw [if_pos (e1.trans e2)]
   exact cmpL_trans d b a h2 h1
  ·rw [if_neg e2] at h2;rw [if_neg (by omega)];omega
  ·rw [if_neg e1] at h1;rw [if_neg (by omega)];omega
  ·rw [if_neg e1] at h1;rw [if_neg e2] at h2;rw [if_neg (by omega)];omega
end
section
def levOk:Int→List Int→Prop
 | _,[] => True
 | p,x :: xs => 1 ≤ x∧x ≤ p + 1∧levOk x xs
theorem levOk_iff:∀ (xs:List Int) (p:Int),levOk p xs ↔ ∀ i,i < xs.length→1 ≤ (p :: xs).getD (i + 1) 0∧(p :: xs).getD (i + 1) 0 ≤ (p :: xs).getD i 0 + 1
 | [],p => by simp [levOk]
 | x :: xs,p => by
  unfold levOk
  rw [levOk_iff xs x]
  constructor
  ·rintro ⟨h1,h2,h3⟩ i hi
   cases i with
   | zero => simpa using ⟨h1,h2⟩
   | succ i => simpa using h3 i (by simpa using hi)
  ·intro h
   refine ⟨?_,?_,fun i hi => ?_⟩
   ·simpa using (h 0 (by simp)).1
   ·simpa using (h 0 (by simp)).2
   ·simpa using h (i + 1) (by simpa using hi)
theorem qZ0 (t:List Int):qU t ↔ ∃ xs,t = 0 :: xs∧levOk 0 xs:=by
 constructor
 ·intro h
  cases t with
  | nil => have:=h.pos;simp at this
  | cons x xs =>
   have h0:=h.zero h.pos
   simp at h0;subst h0
   refine ⟨xs,rfl,(levOk_iff xs 0).2 fun i hi => ?_⟩
   exact h.2 i (by simp;omega) (by simpa using hi)
 ·rintro ⟨xs,rfl,h⟩
  refine ⟨by simp,fun i _ hi => ?_⟩
  exact (levOk_iff xs 0).1 h i (by simpa using hi)
theorem levOk_append:∀ (xs ys:List Int) (p:Int),0 ≤ p→levOk p xs→(∀ q,0 ≤ q→levOk q ys)→levOk p (xs ++ ys)
 | [],ys,p,hp,_,h => h p hp
 | x :: xs,ys,p,hp,⟨h1,h2,h3⟩,h => ⟨h1,h2,levOk_append xs ys x (by omega) h3 h⟩
theorem levOk_shift:∀ (xs:List Int) (p:Int),levOk p xs→levOk (p + 1) (xs.map (· + 1))
 | [],_,_ => trivial
 | x :: xs,p,⟨h1,h2,h3⟩ => ⟨by show 1 ≤ x + 1;omega,by show x + 1 ≤ p + 1 + 1;omega,levOk_shift xs x h3⟩
def qC (bs:List (List Int)):List Int:=0 :: bs.flatMap (·.map (· + 1))
theorem wM {bs:List (List Int)} (h:∀ b ∈ bs,qU b):qU (qC bs):=by
 rw [qZ0]
 refine ⟨_,rfl,?_⟩
 have:∀ q,0 ≤ q→levOk q (bs.flatMap (·.map (· + 1))):=by
  induction bs with
  | nil => intro q _;trivial
  | cons b bs ih =>
   intro q hq
   rw [List.flatMap_cons]
   obtain ⟨xs,rfl,hx⟩:=(qZ0 b).1 (h b (by simp))
   refine levOk_append _ _ q hq ⟨by simp,by simp;omega,?_⟩ (ih fun b hb => h b (by simp [hb]))
   exact levOk_shift xs 0 hx
 exact this 0 (Int.le_refl 0)
def qX (bs:List (List Int)):Nat:=(bs.map List.length).sum
theorem kY (bs:List (List Int)):(qC bs).length = qX bs + 1:=by
 unfold qC qX
 induction bs with
 | nil => rfl
 | cons b bs ih => simp only [List.flatMap_cons,List.length_cons,List.length_append,List.length_map,List.map_cons,List.sum_cons] at *;omega
theorem jJ0 (bs:List (List Int)) (b:List Int):qC (bs ++ [b]) = qC bs ++ b.map (· + 1):=by
 simp [qC,List.flatMap_append]
theorem wJ {l m:List (List Int)} (h:l.Perm m):qX l = qX m:=(h.map List.length).sum_nat
theorem vG (l m:List (List Int)):qX (l ++ m) = qX l + qX m:=by simp [qX]
theorem jL {l:List (List Int)} {b:List Int} (h:b ∈ l):b.length ≤ qX l:=by
 unfold qX
 induction l with
 | nil => simp at h
 | cons a l ih =>
  rw [List.map_cons,List.sum_cons]
  rcases List.mem_cons.1 h with rfl|h
  ·omega
  ·have:=ih h;omega
theorem brStep_root (acc:List (List Int)) (l:Int) (h:l = 1 ∨ 0 < acc.length):qC (xE acc l) = qC acc ++ [l]:=by
 by_cases e:l = 1
 ·subst e
  rw [vW,jJ0];rfl
 ·have hp:=h.resolve_left e
  rw [wZ acc l e hp]
  obtain ⟨bs,b,rfl⟩:∃ bs b,acc = bs ++ [b]:=⟨acc.dropLast,acc.getLast (by intro e;rw [e] at hp;simp at hp),(List.dropLast_concat_getLast _).symm⟩
  simp only [List.length_append,List.length_singleton,Nat.add_sub_cancel,List.getElem_append_right (Nat.le_refl _),Nat.sub_self,List.getElem_singleton]
  rw [List.set_append_right _ _ (Nat.le_refl _),Nat.sub_self]
  show qC (bs ++ [b ++ [l - 1]]) = _
  rw [jJ0,jJ0,List.append_assoc,List.map_append]
  congr 2
  simp
theorem brTo_root {t:List Int} (h:qU t):∀ k,k + 1 ≤ t.length→qC (brTo t k) = t.take (k + 1)
 | 0,hk => by
  have h0:=h.zero h.pos
  obtain ⟨xs,rfl,_⟩:=(qZ0 t).1 h
  simp [brTo,qC]
 | k + 1,hk => by
  rw [xP t k hk,brStep_root,brTo_root h k (by omega)]
  ·rw [List.take_succ_eq_append_getElem (i:=k + 1) hk]
  ·cases k with
   | zero =>
    left
    have h1:=h.succ hk
    have h0:=h.zero h.pos
    simp at h1 ⊢;omega
   | succ k => right;exact qR0 h k (by omega)
theorem rootOn_brs {t:List Int} (h:qU t):qC (brs t) = t:=by
 rw [← qP0 t (t.length - 1) (by omega),brTo_root h (t.length - 1) (by have:=h.pos;omega)]
 rw [List.take_of_length_le (by omega)]
theorem wK {t:List Int} (h:qU t):qX (brs t) + 1 = t.length:=by
 have:=kY (brs t)
 rw [rootOn_brs h] at this
 omega
theorem xA0:∀ (ys:List Int) (acc:List (List Int)) (b:List Int),(∀ y ∈ ys,y ≠ 1)→ys.foldl xE (acc ++ [b]) = acc ++ [b ++ ys.map (· - 1)]
 | [],acc,b,_ => by simp
 | y :: ys,acc,b,h => by
  rw [List.foldl_cons,wZ _ _ (h y (by simp)) (by simp)]
  simp only [List.length_append,List.length_singleton,Nat.add_sub_cancel,List.getElem_append_right (Nat.le_refl _),Nat.sub_self,List.getElem_singleton]
  rw [List.set_append_right _ _ (Nat.le_refl _),Nat.sub_self]
  show ys.foldl xE (acc ++ [b ++ [y - 1]]) = _
  rw [xA0 ys acc _ (fun y hy => h y (by simp [hy]))]
  simp
theorem levOk_ge:∀ (xs:List Int) (p:Int),levOk p xs→∀ x ∈ xs,1 ≤ x
 | x :: xs,p,⟨h1,_,h3⟩,y,hy => by
  rcases List.mem_cons.1 hy with rfl|hy
  ·exact h1
  ·exact levOk_ge xs x h3 y hy
theorem yV0 {bs:List (List Int)} (h:∀ b ∈ bs,qU b):brs (qC bs) = bs:=by
 unfold brs qC
 rw [List.drop_one,List.tail_cons]
 have:∀ (cs:List (List Int)),(∀ b ∈ cs,qU b)→∀ acc,(cs.flatMap (·.map (· + 1))).foldl xE acc = acc ++ cs:=by
  intro cs
  induction cs with
  | nil => intro _ acc;simp
  | cons b cs ih =>
   intro hc acc
   obtain ⟨xs,rfl,hx⟩:=(qZ0 b).1 (hc b (by simp))
   rw [List.flatMap_cons,List.foldl_append,List.map_cons,List.foldl_cons]
   rw [show (0:Int) + 1 = 1 from rfl,vW,xA0]
   ·rw [ih (fun b hb => hc b (by simp [hb]))]
    simp [Function.comp_def]
   ·intro y hy
    obtain ⟨x,hx',rfl⟩:=List.mem_map.1 hy
    have:=levOk_ge xs 0 hx x hx'
    omega
 simpa using this bs h []
def canonF:Nat→List Int→List Int
 | 0,_ => [0]
 | f + 1,t => qC (sortC cmpD ((brs t).map (canonF f)))
def canon (t:List Int):List Int:=canonF t.length t
theorem canonF_eq:∀ (f:Nat) {t:List Int},qU t→t.length ≤ f→canonF f t = canon t:=by
 have key:∀ (n f g:Nat) (t:List Int),qU t→t.length ≤ n→t.length ≤ f→t.length ≤ g→canonF f t = canonF g t:=by
  intro n
  induction n with
  | zero => intro f g t h hn;have:=h.pos;omega
  | succ n ih =>
   intro f g t h hn hf hg
   have hp:=h.pos
   obtain ⟨f,rfl⟩:∃ f',f = f' + 1:=⟨f - 1,by omega⟩
   obtain ⟨g,rfl⟩:∃ g',g = g' + 1:=⟨g - 1,by omega⟩
   simp only [canonF]
   congr 2
   apply List.map_congr_left
   intro b hb
   have:=xS h b hb
   exact ih f g b (yB h b hb) (by omega) (by omega) (by omega)
 intro f t h hf
 exact key t.length f t.length t h (Nat.le_refl _) hf (Nat.le_refl _)
theorem kO {t:List Int} (h:qU t):canon t = qC (sortC cmpD ((brs t).map canon)):=by
 have hp:=h.pos
 obtain ⟨n,hn⟩:∃ n,t.length = n + 1:=⟨t.length - 1,by omega⟩
 unfold canon
 rw [hn]
 simp only [canonF]
 congr 2
 apply List.map_congr_left
 intro b hb
 have:=xS h b hb
 exact canonF_eq n (yB h b hb) (by omega)
theorem canon_both {t:List Int}:qU t→qU (canon t)∧(canon t).length = t.length:=by
 have key:∀ (n:Nat) (t:List Int),qU t→t.length ≤ n→qU (canon t)∧(canon t).length = t.length:=by
  intro n
  induction n with
  | zero => intro t h hn;have:=h.pos;omega
  | succ n ih =>
   intro t h hn
   rw [kO h]
   have hb:∀ b ∈ brs t,qU (canon b)∧(canon b).length = b.length:=fun b hb => ih b (yB h b hb) (by have:=xS h b hb;omega)
   refine ⟨wM fun c hc => ?_,?_⟩
   ·rw [xC,List.mem_map] at hc
    obtain ⟨b,hb',rfl⟩:=hc
    exact (hb b hb').1
   ·rw [kY,wJ (yQ _),← wK h]
    congr 1
    unfold qX
    rw [List.map_map]
    congr 1
    apply List.map_congr_left
    intro b hb'
    exact (hb b hb').2
 exact fun h => key t.length t h (Nat.le_refl _)
theorem vQ {t:List Int} (h:qU t):qU (canon t):=(canon_both h).1
theorem qJ0 {t:List Int} (h:qU t):(canon t).length = t.length:=(canon_both h).2
theorem qS0 {t:List Int}:qU t→canon (canon t) = canon t:=by
 have key:∀ (n:Nat) (t:List Int),qU t→t.length ≤ n→canon (canon t) = canon t:=by
  intro n
  induction n with
  | zero => intro t h hn;have:=h.pos;omega
  | succ n ih =>
   intro t h hn
   have hc:=vQ h
   have e:=kO h
   have hbs:∀ c ∈ sortC cmpD ((brs t).map canon),qU c:=by
    intro c hc
    rw [xC,List.mem_map] at hc
    obtain ⟨b,hb',rfl⟩:=hc
    exact vQ (yB h b hb')
   rw [kO hc,e,yV0 hbs]
   congr 1
   have:(sortC cmpD ((brs t).map canon)).map canon = sortC cmpD ((brs t).map canon):=by
    rw [List.map_congr_left (g:=id),List.map_id]
    intro c hc
    rw [xC,List.mem_map] at hc
    obtain ⟨b,hb',rfl⟩:=hc
    exact ih b (yB h b hb') (by have:=xS h b hb';omega)
   rw [this]
   exact xU0 cmpD_cmp (vH cmpD_cmp _)
 exact fun h => key t.length t h (Nat.le_refl _)
theorem wE {t:List Int} (h:lev8 t = true):qU t:=by
 unfold lev8 levB at h
 simp at h
 exact h.2
theorem lev8_len {t:List Int} (h:lev8 t = true):t.length ≤ 8:=by
 unfold lev8 at h
 simp at h
 exact h.1
theorem lev8_mk {t:List Int} (h:qU t) (h8:t.length ≤ 8):lev8 t = true:=by
 unfold lev8 levB
 simp [h,h8]
def levels:Nat→List (List Int)
 | 0 => [[0]]
 | n + 1 => (levels n).flatMap fun t => (List.range (t.getD (t.length - 1) 0 + 1).toNat).map fun (i:Nat) => t ++ [(i:Int) + 1]
theorem mem_levels:∀ (n:Nat) (t:List Int),qU t→t.length = n + 1→t ∈ levels n
 | 0,t,h,hn => by
  match t,hn with
  | [x],_ =>
   have:=h.zero h.pos
   simp at this
   simp [levels,this]
 | n + 1,t,h,hn => by
  have hp:t.take (n + 1) ++ [t[n + 1]] = t:=by
   rw [← List.take_succ_eq_append_getElem (by omega),List.take_of_length_le (by omega)]
  have hl:qU (t.take (n + 1)):=by
   obtain ⟨xs,rfl,hx⟩:=(qZ0 t).1 h
   rw [qZ0]
   refine ⟨xs.take n,by simp,?_⟩
   have:∀ (xs:List Int) (p:Int) (n:Nat),levOk p xs→levOk p (xs.take n):=by
    intro xs
    induction xs with
    | nil => intro p n _;simp [levOk]
    | cons x xs ih =>
     rintro p n ⟨h1,h2,h3⟩
     cases n with
     | zero => trivial
     | succ n => exact ⟨h1,h2,ih x n h3⟩
   exact this xs 0 n hx
  have hs:=h.succ (i:=n) (by omega)
  have hb:=h.bd n (by omega)
  rw [levels,List.mem_flatMap]
  refine ⟨t.take (n + 1),mem_levels n _ hl (by simp;omega),?_⟩
  rw [List.mem_map]
  refine ⟨(t[n + 1] - 1).toNat,?_,?_⟩
  ·rw [List.mem_range]
   have e:(t.take (n + 1)).getD ((t.take (n + 1)).length - 1) 0 = t[n]:=by
    have:(t.take (n + 1)).length - 1 = n:=by simp;omega
    rw [this,List.getD_eq_getElem?_getD,List.getElem?_take_of_lt (by omega),List.getElem?_eq_getElem (by omega)];rfl
   rw [e];omega
  ·conv => rhs;rw [← hp]
   congr 2
   omega
def lists8:List (List Int):=(List.range 8).flatMap levels
theorem mem_lists8 {t:List Int} (h:lev8 t = true):t ∈ lists8:=by
 have h1:=wE h
 have h2:=lev8_len h
 have hp:=h1.pos
 rw [lists8,List.mem_flatMap]
 exact ⟨t.length - 1,by simp;omega,mem_levels _ t h1 (by omega)⟩
theorem lev8_all {p:List Int→Bool} (h:lists8.all p = true) {t:List Int} (ht:lev8 t = true):p t = true :=
 List.all_eq_true.1 h t (mem_lists8 ht)
end
section
section
variable {α:Type}
def swpL (xs:List α) (i j:Nat):List α:=match xs[i]?,xs[j]? with
 | some a,some b => (xs.set i b).set j a
 | _,_ => xs
theorem swpL_eq (xs:List α) (i j:Nat) (hi:i < xs.length) (hj:j < xs.length):swpL xs i j = (xs.set i xs[j]).set j xs[i]:=by
 unfold swpL
 rw [List.getElem?_eq_getElem hi,List.getElem?_eq_getElem hj]
theorem jE0 (xs:List α) (i j:Nat):(swpL xs i j).length = xs.length:=by
 unfold swpL
 split <;> simp
theorem split2 (xs:List α) (i j:Nat) (hij:i < j) (hj:j < xs.length):∃ p a q b r,xs = p ++ (a :: (q ++ (b :: r)))∧p.length = i∧i + q.length + 1 = j∧xs[i] = a∧xs[j] = b:=by
 refine ⟨xs.take i,xs[i],(xs.take j).drop (i + 1),xs[j],xs.drop (j + 1),?_,by simp;omega,by simp;omega,rfl,rfl⟩
 have h1:xs = xs.take j ++ (xs[j] :: xs.drop (j + 1)):=by rw [← List.drop_eq_getElem_cons hj,List.take_append_drop]
 have h2:xs.take j = xs.take i ++ (xs[i] :: (xs.take j).drop (i + 1)):=by
  have e:(xs.take j)[i]'(by simp;omega) = xs[i]:=by simp
  rw [← e,← List.drop_eq_getElem_cons (by simp;omega)]
  have e2:(xs.take j).take i = xs.take i:=by rw [List.take_take,Nat.min_eq_left (by omega)]
  rw [← e2,List.take_append_drop]
 conv => lhs;rw [h1,h2]
 simp
theorem swpL_split (p q r:List α) (a b:α) (i j:Nat) (hi:p.length = i) (hj:i + q.length + 1 = j):swpL (p ++ (a :: (q ++ (b :: r)))) i j = p ++ (b :: (q ++ (a :: r))):=by
 subst hi
 subst hj
 have h1:(p ++ (a :: (q ++ (b :: r))))[p.length]? = some a:=by simp
 have h2:(p ++ (a :: (q ++ (b :: r))))[p.length + q.length + 1]? = some b:=by
  rw [List.getElem?_append_right (by omega),show p.length + q.length + 1 - p.length = q.length + 1 by omega]
  simp
 unfold swpL
 rw [h1,h2]
 simp only
 rw [List.set_append_right _ _ (Nat.le_refl _),Nat.sub_self,List.set_cons_zero,List.set_append_right _ _ (by omega),show p.length + q.length + 1 - p.length = q.length + 1 by omega,List.set_cons_succ,List.set_append_right _ _ (Nat.le_refl _),Nat.sub_self,List.set_cons_zero]
theorem swpL_perm (xs:List α) (i j:Nat) (hij:i < j) (hj:j < xs.length):(swpL xs i j).Perm xs:=by
 obtain ⟨p,a,q,b,r,e,h1,h2,_,_⟩:=split2 xs i j hij hj
 subst e
 rw [swpL_split p q r a b i j h1 h2]
 refine List.Perm.append_left p ?_
 refine ((List.perm_middle (l₁:=q) (a:=a) (l₂:=r)).cons b).trans ?_
 refine (List.Perm.swap a b _).trans ?_
 exact ((List.perm_middle (l₁:=q) (a:=b) (l₂:=r)).symm).cons a
theorem swpL_get (xs:List α) (i j:Nat) (hi:i < xs.length) (hj:j < xs.length) (k:Nat) (hk:k < xs.length):(swpL xs i j)[k]'(by rw [jE0];exact hk) = if k = j then xs[i] else if k = i then xs[j] else xs[k]:=by
 have e:=swpL_eq xs i j hi hj
 simp only [e,List.getElem_set]
 by_cases h1:j = k
 ·subst h1;simp
 ·by_cases h2:i = k
  ·subst h2;simp [h1,Ne.symm h1]
  ·simp [h1,h2,Ne.symm h1,Ne.symm h2]
theorem swpL_out (xs:List α) (i j k:Nat) (h1:k ≠ i) (h2:k ≠ j):(swpL xs i j)[k]? = xs[k]?:=by
 unfold swpL
 split
 ·rw [List.getElem?_set_ne (Ne.symm h2),List.getElem?_set_ne (Ne.symm h1)]
 ·rfl
variable {c:α→α→Int}
def SegOk (c:α→α→Int) (a i:Nat) (ys:List α):Prop:=∀ p q (hp:p < ys.length) (hq:q < ys.length),a ≤ p→p < q→q < i→c ys[p] ys[q] ≤ 0
def SinkOk (c:α→α→Int) (a i j:Nat) (ys:List α):Prop:=∀ p q (hp:p < ys.length) (hq:q < ys.length),a ≤ p→p < q→q < i + 1→q ≠ j→c ys[p] ys[q] ≤ 0
theorem SegOk.sink {a i:Nat} {ys:List α} (h:SegOk c a i ys):SinkOk c a i i ys:=fun p q hp hq h1 h2 h3 h4 => h p q hp hq h1 h2 (by omega)
theorem SinkOk.swap {a i j:Nat} {ys:List α} (h:SinkOk c a i j ys) (hj0:a < j) (hji:j ≤ i) (hj:j < ys.length) (hlt:c ys[j] (ys[j - 1]'(by omega)) < 0):SinkOk c a i (j - 1) (swpL ys (j - 1) j):=by
 intro p q hp hq h1 h2 h3 h4
 have hp':p < ys.length:=by rw [jE0] at hp;exact hp
 have hq':q < ys.length:=by rw [jE0] at hq;exact hq
 rw [swpL_get ys (j - 1) j (by omega) hj p hp',swpL_get ys (j - 1) j (by omega) hj q hq']
 by_cases hqj:q = j
 ·subst hqj
  rw [if_pos rfl,if_neg (by omega)]
  by_cases hp1:p = q - 1
  ·rw [if_pos hp1];omega
  ·rw [if_neg hp1];exact h p (q - 1) hp' (by omega) h1 (by omega) (by omega) (by omega)
 ·rw [if_neg hqj,if_neg h4]
  by_cases hpj:p = j
  ·subst hpj
   rw [if_pos rfl]
   exact h (p - 1) q (by omega) hq' (by omega) (by omega) h3 hqj
  ·rw [if_neg hpj]
   by_cases hp1:p = j - 1
   ·rw [if_pos hp1]
    exact h j q hj hq' (by omega) (by omega) h3 hqj
   ·rw [if_neg hp1]
    exact h p q hp' hq' h1 h2 h3 hqj
theorem SinkOk.done (hc:Cmp c) {a i j:Nat} {ys:List α} (h:SinkOk c a i j ys) (hj:j < ys.length) (hs:j ≤ a ∨ ¬ c ys[j] (ys[j - 1]'(by omega)) < 0) (_hji:j ≤ i):SegOk c a (i + 1) ys:=by
 intro p q hp hq h1 h2 h3
 by_cases hqj:q = j
 ·subst hqj
  rcases hs with hs|hs
  ·omega
  ·have hle:=hc.le_of_not_lt hs
   by_cases hp1:p = q - 1
   ·subst hp1;exact hle
   ·exact hc.trans _ _ _ (h p (q - 1) hp (by omega) h1 (by omega) (by omega) (by omega)) hle
 ·exact h p q hp hq h1 h2 (by omega) hqj
theorem SegOk.pairwise {ys:List α} {n:Nat} (h:SegOk c 0 n ys) (hn:ys.length ≤ n):ys.Pairwise (fun a b => c a b ≤ 0):=by
 rw [List.pairwise_iff_getElem]
 intro i j hi hj hij
 exact h i j hi hj (Nat.zero_le _) hij (by omega)
structure PermIn (a b:Nat) (xs ys:List α):Prop where
 perm:ys.Perm xs
 out:∀ p,(p < a ∨ b ≤ p)→ys[p]? = xs[p]?
theorem PermIn.refl (a b:Nat) (xs:List α):PermIn a b xs xs:=⟨List.Perm.refl _,fun _ _ => rfl⟩
theorem PermIn.trans {a b:Nat} {xs ys zs:List α} (h:PermIn a b xs ys) (k:PermIn a b ys zs):PermIn a b xs zs:=⟨k.perm.trans h.perm,fun p hp => (k.out p hp).trans (h.out p hp)⟩
theorem PermIn.len {a b:Nat} {xs ys:List α} (h:PermIn a b xs ys):ys.length = xs.length:=h.perm.length_eq
theorem PermIn.swp {a b:Nat} (xs:List α) (i j:Nat) (hij:i < j) (hj:j < xs.length) (ha:a ≤ i) (hb:j < b):PermIn a b xs (swpL xs i j) :=
 ⟨swpL_perm xs i j hij hj,fun p hp => swpL_out xs i j p (by omega) (by omega)⟩
theorem PermIn.mono {a b a' b':Nat} {xs ys:List α} (h:PermIn a b xs ys) (h1:a' ≤ a) (h2:b ≤ b'):PermIn a' b' xs ys:=⟨h.perm,fun p hp => h.out p (by omega)⟩
variable {R:Rep α} {w:World}
theorem ownL.unappend:∀ {xs ys:List α} {ds:List Value} {F:List Nat},ownL R w ds (xs ++ ys) F →
  ∃ d1 d2 F1 F2,ds = d1 ++ d2∧F = F1 ++ F2∧ownL R w d1 xs F1∧ownL R w d2 ys F2
 | [],ys,ds,F,h => ⟨[],ds,[],F,rfl,rfl,⟨rfl,rfl⟩,h⟩
 | x :: xs,ys,ds,F,⟨c,d,G,H,e,e',h1,h2⟩ => by
  obtain ⟨d1,d2,F1,F2,k1,k2,k3,k4⟩:=ownL.unappend h2
  exact ⟨c ++ d1,d2,G ++ F1,F2,by rw [e,k1,List.append_assoc],by rw [e',k2,List.append_assoc],⟨c,d1,G,F1,rfl,rfl,h1,k3⟩,k4⟩
theorem Own.of_heap {β:Type} {S:Rep β} {w w':World} {cs:List Value} {x:β} {lo hi:Nat} (h:Own S lo hi w cs x) (e:w'.heap = w.heap):Own S lo hi w' cs x :=
 h.frame fun b _ _ => by rw [e]
theorem Rd.of_heap {β:Type} {S:Rep β} {w w':World} {cs:List Value} {x:β} (h:Rd S w cs x) (e:w'.heap = w.heap):Rd S w' cs x :=
 S.rd_mono (S.rd_frame h fun b _ _ => by rw [e]) (fun b hb _ => by rw [e];exact hb)
theorem Chg.of_heap {lo hi:Nat} {w w' w'':World} (h:Chg lo hi w w') (e:w''.heap = w'.heap) (e1:w''.os = w'.os) (e2:w''.tape = w'.tape) (e3:w''.output = w'.output):Chg lo hi w w'' :=
 ⟨e1.trans h.os,e2.trans h.tape,e3.trans h.output,by rw [e];exact h.size,fun k hk hn => by rw [e];exact h.block k hk hn⟩
theorem Own.swap {v:Value} {xs:List α} {lo hi:Nat} (h:Own (RS R) lo hi w [v] xs) (hk:R.k = 1) (i j:Nat) (hij:i < j) (hj:j < xs.length) :
  ∃ g cap a b,v = .slice (some ⟨g,0,none⟩) xs.length cap∧xs.length ≤ cap∧cap ≤ 9223372036854775807∧g < w.heap.size ∧
   w.cell? ⟨g,i,none⟩ = some a∧w.cell? ⟨g,j,none⟩ = some b∧w.frozen? ⟨g,i,none⟩ = false∧w.frozen? ⟨g,j,none⟩ = false∧Rd R w [a] xs[i]∧Rd R w [b] xs[j] ∧
   (w.setCell ⟨g,j,none⟩ a).cell? ⟨g,i,none⟩ = some a ∧
   Own (RS R) lo hi ((w.setCell ⟨g,j,none⟩ a).setCell ⟨g,i,none⟩ b) [v] (swpL xs i j)∧Chg lo hi w ((w.setCell ⟨g,j,none⟩ a).setCell ⟨g,i,none⟩ b):=by
 obtain ⟨og,ds,F,hrow,hel,hF,hlt⟩:=h.open
 obtain ⟨g,rfl⟩:=hrow.some_of hj
 obtain ⟨cap,hv,hc1,hc2⟩:=hrow.slice
 obtain ⟨p,x,q,y,r,e,hp,hq,hxi,hxj⟩:=split2 xs i j hij hj
 rw [hxi,hxj]
 have hel0:=hel
 rw [e] at hel0
 obtain ⟨d1,d2,F1,F2,rfl,rfl,h1,⟨ca,d3,G,H,rfl,rfl,h2,h3⟩⟩:=ownL.unappend hel0
 obtain ⟨d4,d5,F4,F5,rfl,rfl,h4,⟨cb,d6,G2,H2,rfl,rfl,h5,h6⟩⟩:=ownL.unappend h3
 have la:=R.rd_len (R.own_rd h2)
 have lb:=R.rd_len (R.own_rd h5)
 rw [hk] at la lb
 match ca,la,cb,lb with
 | [a],_,[b],_ =>
  have l1:d1.length = i:=by rw [h1.len,hk,Nat.mul_one,hp]
  have l4:i + d4.length + 1 = j:=by rw [h4.len,hk,Nat.mul_one];exact hq
  have hlen:xs.length = p.length + (1 + (q.length + (1 + r.length))):=by rw [e];simp only [List.length_append,List.length_cons];omega
  have hrow':Row w v 1 xs.length (d1 ++ (a :: (d4 ++ (b :: d6)))) (some g):=by rw [← hk];exact hrow
  have ga:w.cell? ⟨g,i,none⟩ = some a:=hrow'.cells i a (by rw [← l1];simp)
  have gb:w.cell? ⟨g,j,none⟩ = some b:=hrow'.cells j b (by
   rw [List.getElem?_append_right (by omega),l1,show j - i = d4.length + 1 by omega];simp)
  obtain ⟨s1,r1⟩:=hrow'.store j a
  obtain ⟨s2,r2⟩:=s1.store i b
  have hset:((d1 ++ (a :: (d4 ++ (b :: d6)))).set j a).set i b = d1 ++ (b :: (d4 ++ (a :: d6))):=by
   rw [List.set_append_right _ _ (by omega),l1,show j - i = d4.length + 1 by omega,List.set_cons_succ,List.set_append_right _ _ (Nat.le_refl _),Nat.sub_self,List.set_cons_zero]
   rw [List.set_append_right _ _ (by omega),l1,Nat.sub_self,List.set_cons_zero]
  rw [hset] at s2
  have hfr:∀ z,z ∈ F1 ++ (G ++ (F4 ++ (G2 ++ H2)))→((w.setCell ⟨g,j,none⟩ a).setCell ⟨g,i,none⟩ b).heap[z]? = w.heap[z]?:=by
   intro z hz
   have hne:z ≠ g:=by
    intro e;subst e
    exact (List.nodup_append.1 hF).2.2 z (by simp) z hz rfl
   rw [heap_setCell_other _ ⟨g,i,none⟩ z b hne,heap_setCell_other _ ⟨g,j,none⟩ z a hne]
  have hown:ownL R ((w.setCell ⟨g,j,none⟩ a).setCell ⟨g,i,none⟩ b) (d1 ++ (b :: (d4 ++ (a :: d6)))) (swpL xs i j) (F1 ++ (G2 ++ (F4 ++ (G ++ H2)))):=by
   rw [e,swpL_split p q r x y i j hp hq]
   refine ownL.append (h1.frame fun z hz => hfr z (by simp [hz])) ?_
   refine ⟨[b],d4 ++ (a :: d6),G2,F4 ++ (G ++ H2),rfl,rfl,R.own_frame h5 (fun z hz => hfr z (by simp [hz])),?_⟩
   refine ownL.append (h4.frame fun z hz => hfr z (by simp [hz])) ?_
   exact ⟨[a],d6,G,H2,rfl,rfl,R.own_frame h2 (fun z hz => hfr z (by simp [hz])),h6.frame fun z hz => hfr z (by simp [hz])⟩
  have hperm:(F1 ++ (G2 ++ (F4 ++ (G ++ H2)))).Perm (F1 ++ (G ++ (F4 ++ (G2 ++ H2)))):=by
   refine List.Perm.append_left F1 ?_
   have e1:(G2 ++ (F4 ++ (G ++ H2))).Perm (G ++ (G2 ++ (F4 ++ H2))):=by
    rw [← List.append_assoc,← List.append_assoc]
    refine (List.perm_append_comm.append_right H2).trans ?_
    rw [List.append_assoc,List.append_assoc]
   refine e1.trans (List.Perm.append_left G ?_)
   rw [← List.append_assoc,← List.append_assoc]
   exact List.perm_append_comm.append_right H2
  have hg:=hlt g (by simp)
  have hgs:=hrow.lt g rfl
  refine ⟨g,cap,a,b,hv,hc1,by unfold maxLen at hc2;omega,hgs,ga,gb,hrow'.frozen i,hrow'.frozen j,Rd.of (R.own_rd h2),Rd.of (R.own_rd h5),?_,?_,?_⟩
  ·rw [World.cell?_setCell_other _ _ _ _ (by intro e;simp only [Addr.mk.injEq] at e;omega)];exact ga
  ·refine Own.mk' (og:=some g) (ds:=d1 ++ (b :: (d4 ++ (a :: d6)))) (F:=F1 ++ (G2 ++ (F4 ++ (G ++ H2)))) (by rw [hk,jE0];exact s2) hown ?_ ?_
   ·exact (List.Perm.nodup_iff (hperm.append_left _)).2 hF
   ·intro z hz
    exact hlt z ((hperm.append_left _).mem_iff.1 hz)
  ·exact (Chg.of_grown r1 (fun z hz => by cases hz;exact hg)).trans (Chg.of_grown r2 (fun z hz => by cases hz;exact hg))
end
end
section
def isNum (n:Int):Bool:=inR n 0 10006
theorem kX0 (n:Int) (w:World):Calls Tryz.prog 86 #[.int .i64 n] w (jB w (.bool (isNum n))):=by
 go_enter Tryz.func86,Tryz.ntmps86
 go_wp2_with (go_at_call 112;refine (yN0 _ _ _ _).mono ?_;rintro e w' ⟨rfl,rfl⟩)
 go_ret
 exact ⟨rfl,rfl⟩
theorem all_take_succ {α:Type} (p:α→Bool) (xs:List α) (k:Nat) (h:k < xs.length) (h1:(xs.take k).all p = true) (h2:p xs[k] = true):(xs.take (k + 1)).all p = true:=by
 rw [List.take_succ_eq_append_getElem h,List.all_append,h1];simp [h2]
theorem all_false_at {α:Type} (p:α→Bool) (xs:List α) (k:Nat) (h:k < xs.length) (h2:p xs[k] = false):xs.all p = false:=by
 rw [List.all_eq_false];exact ⟨xs[k],List.getElem_mem h,by simp [h2]⟩
theorem all_of_take {α:Type} (p:α→Bool) (xs:List α) (k:Nat) (h:xs.length ≤ k) (h1:(xs.take k).all p = true):xs.all p = true:=by
 rwa [List.take_of_length_le h] at h1
theorem kD0 (n:Int) (w:World):Calls Tryz.prog 178 #[.int .i64 n] w (jB w (.bool (!isNum n))):=by
 go_enter Tryz.func178,Tryz.ntmps178
 go_wp2_with (go_at_call 86;refine (kX0 _ _).mono ?_;rintro e w' ⟨rfl,rfl⟩)
 go_ret
 exact ⟨rfl,rfl⟩
theorem vQ0 (v:Value) (xs:List Int) (w:World) (h:Rd (RS RI) w [v] xs) :
  Calls Tryz.prog 220 #[v,.func (.func 178) #[] #[]] w fun e w' => (∃ n,e = .returned (.int .i64 n)∧decide (0 ≤ n) = !(xs.all isNum))∧w = w':=by
 obtain ⟨oa,c1,I1⟩:=h.ints
 obtain rfl:=I1.val
 have m1:=I1.le;have m2:=I1.capLe
 unfold maxLen at m2
 go_enter Tryz.func220,Tryz.ntmps220
 go_wp2
 go_loop [8] (fun i => ∃ k:Nat,k ≤ xs.length∧i = .int .i64 k∧(xs.take k).all isNum = true) (fun i => xs.length - (intOf i).toNat)
 case atStart => exact ⟨0,Nat.zero_le _,rfl,by simp⟩
 case round =>
  obtain ⟨k,hk,rfl,hall⟩:=hrel
  have Hall:=Lib.hid hall
  clear hall
  by_cases hlt:k < xs.length
  ·obtain ⟨b1,o1,rfl,hb1,hc1⟩:=I1.get hlt
   have g1:=hc1 k hlt
   clear hc1
   cases hp:isNum xs[k]
   ·go_wp2_with (go_at_call 178;refine (kD0 _ _).mono ?_;rintro e w' ⟨rfl,rfl⟩)
    go_ret
    exact ⟨⟨k,rfl,by rw [all_false_at _ _ k hlt hp];simp⟩,rfl⟩
   ·go_wp2_with (go_at_call 178;refine (kD0 _ _).mono ?_;rintro e w' ⟨rfl,rfl⟩)
    go_round
    case rel => exact ⟨k + 1,by omega,by go_num,all_take_succ _ _ k hlt Hall.out hp⟩
    case measure => simp [intOf];omega
  ·go_wp2
   go_ret
   exact ⟨⟨-1,rfl,by rw [all_of_take _ _ k (by omega) Hall.out];simp⟩,rfl⟩
theorem kM0 (v:Value) (xs:List Int) (w:World) (h:Rd (RS RI) w [v] xs) :
  Calls Tryz.prog 177 #[v,.func (.func 178) #[] #[]] w (jB w (.bool (!(xs.all isNum)))):=by
 go_enter Tryz.func177,Tryz.ntmps177
 go_wp2_with fail
 refine (vQ0 v xs w h).mono ?_
 rintro e w' ⟨⟨n,rfl,hn⟩,rfl⟩
 have Hn:=Lib.hid hn
 clear hn
 go_wp2_with fail
 go_ret
 exact ⟨by rw [← Hn.out];rfl,rfl⟩
theorem c_impl_areNumbers (v:Value) (xs:List Int) (w:World) (h:Rd (RS RI) w [v] xs) :
  Calls Tryz.prog 114 #[v] w (jB w (.bool (xs.all isNum))):=by
 go_enter Tryz.func114,Tryz.ntmps114
 go_wp2_with fail
 refine (kM0 v xs w h).mono ?_
 rintro e w' ⟨rfl,rfl⟩
 go_wp2_with fail
 go_ret
 exact ⟨by simp,rfl⟩
def isMap (xs:List Int):Bool:=decide (xs.length = 38) && xs.all isNum
theorem c_impl_IsMap (v:Value) (xs:List Int) (w:World) (h:Rd (RS RI) w [v] xs) :
  Calls Tryz.prog 164 #[v] w (jB w (.bool (isMap xs))):=by
 obtain ⟨oa,c1,I1⟩:=h.ints
 obtain rfl:=I1.val
 have m1:=I1.le;have m2:=I1.capLe
 unfold maxLen at m2
 unfold isMap
 by_cases hl:xs.length = 38
 ·have hlb:((xs.length:Int) == 38) = true:=by simp [hl]
  have Hl:=Lib.hid hl
  clear hl
  go_enter Tryz.func164,Tryz.ntmps164
  go_wp2_with (go_at_call 114;refine (c_impl_areNumbers _ xs _ h).mono ?_;rintro e w' ⟨rfl,rfl⟩)
  go_ret
  exact ⟨by rw [decide_eq_true Hl.out];rfl,rfl⟩
 ·have hlb:((xs.length:Int) == 38) = false:=by simp;omega
  go_enter Tryz.func164,Tryz.ntmps164
  go_wp2_with fail
  go_ret
  exact ⟨by rw [decide_eq_false hl];rfl,rfl⟩
end
section
def marks (n:Nat) (k:Int):List Int:=(List.range n).map fun (i:Nat) => k + (i:Int)
theorem Row.ownI {w:World} {v:Value} {xs:List Int} {og:Option Nat} (h:Row w v 1 xs.length (xs.map (Value.int .i64)) og) (hb:∀ x ∈ xs,qH x):(RS RI).own w [v] xs og.toList :=
 ⟨v,og,xs.map (Value.int .i64),[],rfl,h,ownL_ints_mk hb,by simp⟩
theorem Row.OwnIh {w:World} {v:Value} {xs:List Int} {og:Option Nat} {lo hi:Nat} (h:Row w v 1 xs.length (xs.map (Value.int .i64)) og) (hb:∀ x ∈ xs,qH x) (hlo:∀ g,og = some g→lo ≤ g∧g < hi):Own (RS RI) lo hi w [v] xs :=
 ⟨og.toList,h.ownI hb,by cases og <;> simp,fun b hb' => by have e:og = some b:=by simpa using hb'
                                                           exact hlo b e⟩
theorem Row.OwnI {w:World} {v:Value} {xs:List Int} {og:Option Nat} {lo:Nat} (h:Row w v 1 xs.length (xs.map (Value.int .i64)) og) (hb:∀ x ∈ xs,qH x) (hlo:∀ g,og = some g→lo ≤ g):Own (RS RI) lo w.heap.size w [v] xs :=
 ⟨og.toList,h.ownI hb,by cases og <;> simp,fun b hb' => by have e:og = some b:=by simpa using hb'
                                                           exact ⟨hlo b e,h.lt b e⟩⟩
end
end Go.Proofs.YtedgfkpfhonlpaaGreat
