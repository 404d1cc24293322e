/- Lemmas (5). -/
import Derived.Deep.LoopGhost
import Derived.Shelf.Abstract
import Derived.Shelf.RegionOpenPlain
import Derived.Test.YtgngidchldajhaaGreatZC0
import Derived.Test.YtgngidchldajhaaGreatZC3
import Derived.Test.YtgngidchldajhaaGreatZC4
set_option linter.unusedSimpArgs false
set_option linter.unusedVariables false
namespace Go.Proofs.YtgngidchldajhaaGreat
open Go.RowKit
def slT2 (t:TypeId):Option TyI :=
 if t = 22 then some ⟨5,[.raw (.int .u8 0)],1⟩ else
 if t = 61 then some ⟨82,[.int 0,.sl 1 [],.sl 1 []],56⟩ else
 if t = 26 then some ⟨39,[.sl 1 [],.sl 1 [],.int 0],56⟩ else
 if t = 50 then some ⟨56,[.sl 1 [],.sl 1 [],.int 0],56⟩ else
 if t = 195 then some ⟨197,[.int 0,.sl 1 [],.int 0],40⟩ else
 if t = 149 then some ⟨195,[.sl 3 []],24⟩ else
 if t = 201 then some ⟨204,[.int 0,.sl 1 [],.int 0],40⟩ else
 if t = 155 then some ⟨201,[.sl 3 []],24⟩ else
 none
def slT (t:TypeId):Option TyI :=
 if t = 24 then some ⟨2,[.int 0],8⟩ else
 if t = 191 then some ⟨3,[.int 0],8⟩ else
 if t = 31 then some ⟨24,[.sl 1 []],24⟩ else
 if t = 212 then some ⟨31,[.sl 1 []],24⟩ else
 if t = 35 then some ⟨44,[.sl 1 [],.int 0],32⟩ else
 if t = 64 then some ⟨84,[.int 0,.sl 1 []],32⟩ else
 if t = 59 then some ⟨122,[.int 0,.sl 1 []],32⟩ else
 if t = 189 then some ⟨64,[.sl 2 []],24⟩ else
 slT2 t
def tyT3 (t:TypeId):Option (List D × Bool) :=
 if t = 22 then some ([.sl 1 []],false) else
 if t = 197 then some ([.int 0,.sl 1 [],.int 0],true) else
 if t = 195 then some ([.sl 3 []],false) else
 if t = 149 then some ([.sl 1 []],false) else
 if t = 151 then some ([.sl 1 [],.sl 1 []],true) else
 if t = 204 then some ([.int 0,.sl 1 [],.int 0],true) else
 if t = 201 then some ([.sl 3 []],false) else
 if t = 155 then some ([.sl 1 []],false) else
 none
def tyT2 (t:TypeId):Option (List D × Bool) :=
 if t = 64 then some ([.sl 2 []],false) else
 if t = 84 then some ([.int 0,.sl 1 []],true) else
 if t = 59 then some ([.sl 2 []],false) else
 if t = 189 then some ([.sl 1 []],false) else
 if t = 122 then some ([.int 0,.sl 1 []],true) else
 if t = 61 then some ([.sl 3 []],false) else
 if t = 82 then some ([.int 0,.sl 1 [],.sl 1 []],true) else
 if t = 26 then some ([.sl 3 []],false) else
 if t = 39 then some ([.sl 1 [],.sl 1 [],.int 0],true) else
 if t = 50 then some ([.sl 3 []],false) else
 if t = 56 then some ([.sl 1 [],.sl 1 [],.int 0],true) else
 tyT3 t
def tyT (t:TypeId):Option (List D × Bool) :=
 if t = 2 then some ([.int 0],false) else
 if t = 3 then some ([.int 0],false) else
 if t = 4 then some ([.bool false],false) else
 if t = 24 then some ([.sl 1 []],false) else
 if t = 191 then some ([.sl 1 []],false) else
 if t = 31 then some ([.sl 1 []],false) else
 if t = 212 then some ([.sl 1 []],false) else
 if t = 35 then some ([.sl 2 []],false) else
 if t = 44 then some ([.sl 1 [],.int 0],true) else
 tyT2 t
def fsT (t:TypeId):Option (List (Nat × Nat)) :=
 if t = 44 then some [(0,1),(1,1)] else
 if t = 84 then some [(0,1),(1,1)] else
 if t = 122 then some [(0,1),(1,1)] else
 if t = 82 then some [(0,1),(1,1),(2,1)] else
 if t = 39 then some [(0,1),(1,1),(2,1)] else
 if t = 56 then some [(0,1),(1,1),(2,1)] else
 if t = 197 then some [(0,1),(1,1),(2,1)] else
 if t = 151 then some [(0,1),(1,1)] else
 if t = 204 then some [(0,1),(1,1),(2,1)] else
 none
def cfg (n:Nat):Cfg:=⟨n,slT,tyT,fsT,fun t => t == 2 || t == 3⟩
def zvOf:Bool→List D→Value
 | true,z => .agg (z.map zval).toArray
 | false,z => zval (z.headD (.int 0))
theorem sl_ok {P:Program} {t:TypeId} {i:TyI} (h1:P.underlying t = some (.slice i.e)) (h2:(P.info? i.e).map (fun j => (j.zero,j.size,j.bytes)) = some (some (zvOf (decide (1 < i.z.length)) i.z),i.z.length,i.bytes))
  (h3:(zvOf (decide (1 < i.z.length)) i.z).cells.toList = i.z.map zval) (h4:i.z.all isZero = true) (h5:0 < i.z.length):∃ z:Value,ST P t i.e z i.z.length i.bytes∧ZeroOK z i.z :=
 ⟨_,ST.mk' h1 h2 (by rw [← Array.length_toList,h3,List.length_map]) h5,h3,h4⟩
theorem ty_ok {P:Program} {t:TypeId} {z:List D} {st:Bool} (h1:(P.info? t).map (fun i => (i.zero,i.size)) = some (some (zvOf st z),z.length)) (h2:(zvOf st z).cells.toList = z.map zval) (h3:z.all isZero = true) (h4:0 < z.length)
  (h5:(P.underlying t).map TypeDesc.isRow = some st) (h6:st = false→z.length = 1):∃ zv ti d,P.info? t = some ti∧ti.zero = some zv∧ti.size = z.length∧ZeroOK zv z∧0 < z.length∧P.underlying t = some d∧d.isRow = st∧(st = false→z.length = 1):=by
 obtain ⟨ti,k1,k2⟩:=map_some h1
 obtain ⟨d,k3,k4⟩:=map_some h5
 simp only [Prod.mk.injEq] at k2
 exact ⟨_,ti,d,k1,k2.1,k2.2,⟨h2,h3⟩,h4,k3,k4,h6⟩
theorem fs_ok {P:Program} {t:TypeId} {fs:List (Nat × Nat)} (h:(match P.underlying t with|some (.struct fields) => fields.toList.mapM (fun f => (P.info? f.type).map fun i => (f.offset,i.size))|_ => none) = some fs) (h2:∀ p ∈ fs,0 < p.2) :
  ∃ fields,P.underlying t = some (.struct fields)∧fields.toList.mapM (fun f => (P.info? f.type).map fun i => (f.offset,i.size)) = some fs∧∀ p ∈ fs,0 < p.2:=by
 split at h
 ·rename_i fields e
  exact ⟨fields,e,h,h2⟩
 ·cases h
theorem i64_a:Tryz.prog.underlying 2 = some (.int .i64):=by kernel_rfl
theorem i64_b:Tryz.prog.underlying 3 = some (.int .i64):=by kernel_rfl
set_option maxHeartbeats 2000000 in
theorem cfg_ok (n:Nat):CfgOK Tryz.prog (cfg n) where
 sl:=by
  intro t i h
  have h:slT t = some i:=h
  unfold slT at h
  split at h
  ·rename_i e;subst e;cases h;exact sl_ok (by kernel_rfl) (by kernel_rfl) (by rfl) (by rfl) (by decide)
  split at h
  ·rename_i e;subst e;cases h;exact sl_ok (by kernel_rfl) (by kernel_rfl) (by rfl) (by rfl) (by decide)
  split at h
  ·rename_i e;subst e;cases h;exact sl_ok (by kernel_rfl) (by kernel_rfl) (by rfl) (by rfl) (by decide)
  split at h
  ·rename_i e;subst e;cases h;exact sl_ok (by kernel_rfl) (by kernel_rfl) (by rfl) (by rfl) (by decide)
  split at h
  ·rename_i e;subst e;cases h;exact sl_ok (by kernel_rfl) (by kernel_rfl) (by rfl) (by rfl) (by decide)
  split at h
  ·rename_i e;subst e;cases h;exact sl_ok (by kernel_rfl) (by kernel_rfl) (by rfl) (by rfl) (by decide)
  split at h
  ·rename_i e;subst e;cases h;exact sl_ok (by kernel_rfl) (by kernel_rfl) (by rfl) (by rfl) (by decide)
  split at h
  ·rename_i e;subst e;cases h;exact sl_ok (by kernel_rfl) (by kernel_rfl) (by rfl) (by rfl) (by decide)
  have h:slT2 t = some i:=h
  unfold slT2 at h
  split at h
  ·rename_i e;subst e;cases h;exact sl_ok (by kernel_rfl) (by kernel_rfl) (by rfl) (by rfl) (by decide)
  split at h
  ·rename_i e;subst e;cases h;exact sl_ok (by kernel_rfl) (by kernel_rfl) (by rfl) (by rfl) (by decide)
  split at h
  ·rename_i e;subst e;cases h;exact sl_ok (by kernel_rfl) (by kernel_rfl) (by rfl) (by rfl) (by decide)
  split at h
  ·rename_i e;subst e;cases h;exact sl_ok (by kernel_rfl) (by kernel_rfl) (by rfl) (by rfl) (by decide)
  split at h
  ·rename_i e;subst e;cases h;exact sl_ok (by kernel_rfl) (by kernel_rfl) (by rfl) (by rfl) (by decide)
  split at h
  ·rename_i e;subst e;cases h;exact sl_ok (by kernel_rfl) (by kernel_rfl) (by rfl) (by rfl) (by decide)
  split at h
  ·rename_i e;subst e;cases h;exact sl_ok (by kernel_rfl) (by kernel_rfl) (by rfl) (by rfl) (by decide)
  split at h
  ·rename_i e;subst e;cases h;exact sl_ok (by kernel_rfl) (by kernel_rfl) (by rfl) (by rfl) (by decide)
  cases h
 ty:=by
  intro t z st h
  have h:tyT t = some (z,st):=h
  have h3:∀ {t:TypeId} {z:List D} {st:Bool},tyT3 t = some (z,st)→∃ zv ti d,Tryz.prog.info? t = some ti∧ti.zero = some zv∧ti.size = z.length∧ZeroOK zv z∧0 < z.length∧Tryz.prog.underlying t = some d∧d.isRow = st∧(st = false→z.length = 1):=by
   intro t z st h
   unfold tyT3 at h
   repeat' split at h
   all_goals first
    | (cases h;done)
    | (rename_i e;subst e;cases h;exact ty_ok (by kernel_rfl) (by rfl) (by rfl) (by decide) (by kernel_rfl) (by decide))
  have h2:∀ {t:TypeId} {z:List D} {st:Bool},tyT2 t = some (z,st)→∃ zv ti d,Tryz.prog.info? t = some ti∧ti.zero = some zv∧ti.size = z.length∧ZeroOK zv z∧0 < z.length∧Tryz.prog.underlying t = some d∧d.isRow = st∧(st = false→z.length = 1):=by
   intro t z st h
   unfold tyT2 at h
   repeat' split at h
   all_goals first
    | (cases h;done)
    | (exact h3 h)
    | (rename_i e;subst e;cases h;exact ty_ok (by kernel_rfl) (by rfl) (by rfl) (by decide) (by kernel_rfl) (by decide))
  unfold tyT at h
  repeat' split at h
  all_goals first
   | (cases h;done)
   | (exact h2 h)
   | (rename_i e;subst e;cases h;exact ty_ok (by kernel_rfl) (by rfl) (by rfl) (by decide) (by kernel_rfl) (by decide))
 fs:=by
  intro t fs h
  have h:fsT t = some fs:=h
  unfold fsT at h
  repeat' split at h
  all_goals first
   | (cases h;done)
   | (rename_i e;subst e;cases h;exact fs_ok (by kernel_rfl) (by decide))
 i64:=by
  intro t h
  have h:(t == 2 || t == 3) = true:=h
  simp only [Bool.or_eq_true,beq_iff_eq] at h
  rcases h with rfl|rfl
  ·exact i64_a
  ·exact i64_b
def dL (xs:List Int):D:=.sl 1 (xs.map eI)
theorem rd_dL {A:Nat→Prop} {w:World} {v:Value} {xs:List Int}:rdV A w v (dL xs) ↔ (RS RI).rd A w [v] xs:=((encS encI).rdV (x:=xs) rfl).symm
end Go.Proofs.YtgngidchldajhaaGreat
namespace Go.Proofs.YtgngidchldajhaaGreat
open Go.RowKit
structure Cod (α:Type) where
 e:α→List D
 d:List D→Option α
 de:∀ x,d (e x) = some x
 ed:∀ c x,d c = some x→c = e x
def dI:List D→Option Int
 | [.int n] => some n
 | _ => none
def dB:List D→Option Bool
 | [.bool n] => some n
 | _ => none
theorem dI_spec {c:List D} {x:Int} (h:dI c = some x):c = eI x:=by
 unfold dI at h
 split at h
 ·cases h;rfl
 ·cases h
theorem dB_spec {c:List D} {x:Bool} (h:dB c = some x):c = eB x:=by
 unfold dB at h
 split at h
 ·cases h;rfl
 ·cases h
def codI:Cod Int:=⟨eI,dI,fun _ => rfl,fun _ _ => dI_spec⟩
def codB:Cod Bool:=⟨eB,dB,fun _ => rfl,fun _ _ => dB_spec⟩
def dAll {α:Type} (d:List D→Option α):List (List D)→Option (List α)
 | [] => some []
 | c :: cs => (d c).bind fun x => (dAll d cs).map fun xs => x :: xs
def dSl {α:Type} (k:Nat) (d:List D→Option α):List D→Option (List α)
 | [.sl j cs] => if j = k then dAll d cs else none
 | _ => none
theorem dAll_map {α:Type} {e:α→List D} {d:List D→Option α} (h:∀ x,d (e x) = some x):∀ xs:List α,dAll d (xs.map e) = some xs
 | [] => rfl
 | x :: xs => by simp only [List.map_cons,dAll,h,Option.bind_some,dAll_map h xs,Option.map_some]
theorem dAll_spec {α:Type} {e:α→List D} {d:List D→Option α} (h:∀ c x,d c = some x→c = e x):∀ {cs:List (List D)} {xs:List α},dAll d cs = some xs→cs = xs.map e
 | [],xs,hx => by simp only [dAll,Option.some.injEq] at hx;subst hx;rfl
 | c :: cs,xs,hx => by
  simp only [dAll] at hx
  obtain ⟨x,h1,hx⟩:=bind_some hx
  obtain ⟨ys,h2,rfl⟩:=map_some hx
  rw [h c x h1,dAll_spec h h2];rfl
def codS {α:Type} (k:Nat) (C:Cod α):Cod (List α):=⟨eS k C.e,dSl k C.d,fun xs => by
  show dSl k C.d [.sl k (xs.map C.e)] = some xs
  simp only [dSl,if_true,dAll_map C.de],fun c xs h => by
  unfold dSl at h
  split at h
  ·split at h
   ·rename_i e;subst e;rw [dAll_spec C.ed h];rfl
   ·cases h
  ·cases h⟩
def codP {α β:Type} (k:Nat) (C:Cod α) (D':Cod β) (hk:∀ x,(C.e x).length = k):Cod (α × β):=⟨eP C.e D'.e,fun c => (C.d (c.take k)).bind fun x => (D'.d (c.drop k)).map fun y => (x,y),fun x => by
  show (C.d ((C.e x.1 ++ D'.e x.2).take k)).bind (fun x_1 => (D'.d ((C.e x.1 ++ D'.e x.2).drop k)).map fun y => (x_1,y)) = _
  rw [List.take_left' (hk _),List.drop_left' (hk _),C.de,D'.de];rfl,fun c x h => by
  obtain ⟨a,h1,h⟩:=bind_some h
  obtain ⟨b,h2,rfl⟩:=map_some h
  show c = C.e a ++ D'.e b
  rw [← C.ed _ _ h1,← D'.ed _ _ h2,List.take_append_drop]⟩
def eL (xs:List Int):List D:=[.sl 1 (xs.map eI)]
def eLL (xs:List (List Int)):List D:=[.sl 1 (xs.map eL)]
def codL:Cod (List Int):=codS 1 codI
def codLL:Cod (List (List Int)):=codS 1 codL
def eCt (x:List Int × Int):List D:=[.sl 1 (x.1.map eI),.int x.2]
def codCt:Cod (List Int × Int):=codP 1 codL codI (fun _ => rfl)
theorem codL_d (xs:List Int):codL.d [.sl 1 (xs.map eI)] = some xs:=codL.de xs
theorem codLL_d (xs:List (List Int)):codLL.d [.sl 1 (xs.map eL)] = some xs:=codLL.de xs
theorem codI_d (x:Int):codI.d [.int x] = some x:=rfl
theorem codB_d (x:Bool):codB.d [.bool x] = some x:=rfl
theorem codCts_d (xs:List (List Int × Int)):(codS 2 codCt).d [.sl 2 (xs.map eCt)] = some xs:=(codS 2 codCt).de xs
def tab1 {α:Type} (A:Cod α) (f:α→Option (List Res)):List (List D)→Option (List Res)
 | [a] => (A.d a).bind f
 | _ => none
def tab2 {α β:Type} (A:Cod α) (B:Cod β) (f:α→β→Option (List Res)):List (List D)→Option (List Res)
 | [a,b] => (A.d a).bind fun x => (B.d b).bind (f x)
 | _ => none
def tab3 {α β γ:Type} (A:Cod α) (B:Cod β) (C:Cod γ) (f:α→β→γ→Option (List Res)):List (List D)→Option (List Res)
 | [a,b,c] => (A.d a).bind fun x => (B.d b).bind fun y => (C.d c).bind (f x y)
 | _ => none
theorem tab1_ok {P:Program} {g:FuncId} {α:Type} {A:Cod α} {f:α→Option (List Res)} (h:∀ x rs,f x = some rs→AFn P g [A.e x] (· = rs)) (ds:List (List D)) (rs:List Res) (e:tab1 A f ds = some rs):AFn P g ds (· = rs):=by
 unfold tab1 at e
 split at e
 ·obtain ⟨x,h1,h2⟩:=bind_some e
  rw [A.ed _ _ h1];exact h x rs h2
 ·cases e
theorem tab2_ok {P:Program} {g:FuncId} {α β:Type} {A:Cod α} {B:Cod β} {f:α→β→Option (List Res)} (h:∀ x y rs,f x y = some rs→AFn P g [A.e x,B.e y] (· = rs)) (ds:List (List D)) (rs:List Res) (e:tab2 A B f ds = some rs):AFn P g ds (· = rs):=by
 unfold tab2 at e
 split at e
 ·obtain ⟨x,h1,e⟩:=bind_some e
  obtain ⟨y,h2,e⟩:=bind_some e
  rw [A.ed _ _ h1,B.ed _ _ h2];exact h x y rs e
 ·cases e
theorem tab3_ok {P:Program} {g:FuncId} {α β γ:Type} {A:Cod α} {B:Cod β} {C:Cod γ} {f:α→β→γ→Option (List Res)} (h:∀ x y z rs,f x y z = some rs→AFn P g [A.e x,B.e y,C.e z] (· = rs)) (ds:List (List D)) (rs:List Res) (e:tab3 A B C f ds = some rs):AFn P g ds (· = rs):=by
 unfold tab3 at e
 split at e
 ·obtain ⟨x,h1,e⟩:=bind_some e
  obtain ⟨y,h2,e⟩:=bind_some e
  obtain ⟨z,h3,e⟩:=bind_some e
  rw [A.ed _ _ h1,B.ed _ _ h2,C.ed _ _ h3];exact h x y z rs e
 ·cases e
theorem AFn.of_q {P:Program} {f:FuncId} {ds:List (List D)} {d:D} {v:Value} (eg:∀ args w,(callFunc f args).run P w = .ok (.enter f args) w) (hd:∀ A w,rdV A w v d)
  (h:∀ (w:World) (A:Nat→Prop) vs,relArgs A w ds vs→Calls P f vs.toArray w (RetQ w v)):AFn P f ds (· = [.val d]):=by
 refine ⟨eg,fun A w vs hA hv => (h w A vs hv).mono ?_⟩
 rintro e w' ⟨rfl,n,rfl⟩
 exact ⟨v,_,rfl,rfl,Below.drewN _ _ _,[v],[],[],rfl,List.nodup_nil,by simp,v,[],[],[],[],[],rfl,rfl,rfl,(hd (fun _ => True) w).one,⟨hd _ _,rfl,rfl⟩,rfl,rfl,rfl⟩
theorem AFn.of_s {P:Program} {f:FuncId} {ds:List (List D)} {d:D} {v:Value} (eg:∀ args w,(callFunc f args).run P w = .ok (.enter f args) w) (hd:∀ A w,rdV A w v d)
  (h:∀ (w:World) (A:Nat→Prop) vs,relArgs A w ds vs→Calls P f vs.toArray w (RetS w v)):AFn P f ds (· = [.val d]):=by
 refine ⟨eg,fun A w vs hA hv => (h w A vs hv).mono ?_⟩
 rintro e w' ⟨rfl,rfl⟩
 exact ⟨v,_,rfl,rfl,Below.refl _ _,[v],[],[],rfl,List.nodup_nil,by simp,v,[],[],[],[],[],rfl,rfl,rfl,(hd (fun _ => True) w).one,⟨hd _ _,rfl,rfl⟩,rfl,rfl,rfl⟩
theorem AFn.of_o {P:Program} {α:Type} {R:Rep α} {e:α→List D} (E:Enc R e) {f:FuncId} {ds:List (List D)} {xs:List α} (eg:∀ args w,(callFunc f args).run P w = .ok (.enter f args) w)
  (h:∀ (w:World) (A:Nat→Prop) vs,relArgs A w ds vs→Calls P f vs.toArray w (RetO (RS R) w xs)):AFn P f ds (· = [.own R.k (xs.map e) true]):=by
 refine ⟨eg,fun A w vs hA hv => (h w A vs hv).mono ?_⟩
 rintro e' w' ⟨v,rfl,⟨F,⟨v',og,ds',G,e1,hrow,hel,rfl⟩,hn,hlt⟩,hb⟩
 obtain rfl:v = v':=by simpa using e1
 obtain ⟨d,hel'⟩:=enc_ownL E hel
 obtain ⟨oa,c,ev,k1,k2,k3,k4⟩:=hrow.value
 have hv':v = slv og xs.length c:=by
  cases og with
  | none =>
   have h0:=hrow.len0
   have hoa:oa = none:=k4
   rw [ev,hoa,h0,k3 hoa];rfl
  | some g => rw [ev,k4];rfl
 refine ⟨v,_,rfl,rfl,hb,[v],og.toList ++ G,og.toList,rfl,hn,fun b hb' => (hlt b hb').1,v,[],og.toList ++ G,[],og.toList,[],rfl,by simp,by simp,by rw [ev];rfl,?_,rfl,rfl,rfl⟩
 exact ⟨og,c,G,ds',by rw [List.length_map];exact hv',by rw [List.length_map];exact hrow,R.kpos,rfl,rfl,d,R.kpos,hel'⟩
theorem big_le {n:Nat} (h:n ≤ 1000000000):(n ≤ 140737488355328) = True:=eq_true (by omega)
theorem big_mul {n c:Nat} (hc:c ≤ 100000) (h:n ≤ 1000000000):(n * c ≤ 140737488355328) = True :=
 eq_true (Nat.le_trans (Nat.mul_le_mul h hc) (by decide))
theorem map_get {α β:Type} {f:α→β} {xs:List α} {i:Nat} (h:i < xs.length):(xs.map f)[i]? = some (f xs[i]):=by
 rw [List.getElem?_map,List.getElem?_eq_getElem h];rfl
theorem w64_eq {n:Int} (h:-9223372036854775808 ≤ n∧n ≤ 9223372036854775807):w64 n = n:=by unfold w64;exact IntWalk.i64_in n h
theorem w64_succ {n:Nat} (h:n < 9223372036854775807):w64 ((n:Int) + 1) = ((n + 1:Nat):Int):=by rw [w64_eq (by omega)];rfl
theorem rd1 {A:Nat→Prop} {w:World} {xs:List Int} {v:Value} (h:relArg A w (eL xs) v):(RS RI).rd A w [v] xs:=rd_dL.1 h
end Go.Proofs.YtgngidchldajhaaGreat
namespace Go.Proofs.YtgngidchldajhaaGreat
open Go.RowKit
section
variable {α:Type}
def swpL (xs:List α) (i j:Nat):List α:=match xs[i]?,xs[j]? with
 | some a,some b => (xs.set i b).set j a
 | _,_ => xs
theorem swpL_eq (xs:List α) (i j:Nat) (hi:i < xs.length) (hj:j < xs.length):swpL xs i j = (xs.set i xs[j]).set j xs[i]:=by
 unfold swpL
 rw [List.getElem?_eq_getElem hi,List.getElem?_eq_getElem hj]
theorem swpL_length (xs:List α) (i j:Nat):(swpL xs i j).length = xs.length:=by
 unfold swpL
 split <;> simp
theorem split2 (xs:List α) (i j:Nat) (hij:i < j) (hj:j < xs.length):∃ p a q b r,xs = p ++ (a :: (q ++ (b :: r)))∧p.length = i∧i + q.length + 1 = j∧xs[i] = a∧xs[j] = b:=by
 refine ⟨xs.take i,xs[i],(xs.take j).drop (i + 1),xs[j],xs.drop (j + 1),?_,by simp;omega,by simp;omega,rfl,rfl⟩
 have h1:xs = xs.take j ++ (xs[j] :: xs.drop (j + 1)):=by rw [← List.drop_eq_getElem_cons hj,List.take_append_drop]
 have h2:xs.take j = xs.take i ++ (xs[i] :: (xs.take j).drop (i + 1)):=by
  have e:(xs.take j)[i]'(by simp;omega) = xs[i]:=by simp
  rw [← e,← List.drop_eq_getElem_cons (by simp;omega)]
  have e2:(xs.take j).take i = xs.take i:=by rw [List.take_take,Nat.min_eq_left (by omega)]
  rw [← e2,List.take_append_drop]
 conv => lhs;rw [h1,h2]
 simp
theorem swpL_split (p q r:List α) (a b:α) (i j:Nat) (hi:p.length = i) (hj:i + q.length + 1 = j):swpL (p ++ (a :: (q ++ (b :: r)))) i j = p ++ (b :: (q ++ (a :: r))):=by
 subst hi
 subst hj
 have h1:(p ++ (a :: (q ++ (b :: r))))[p.length]? = some a:=by simp
 have h2:(p ++ (a :: (q ++ (b :: r))))[p.length + q.length + 1]? = some b:=by
  rw [List.getElem?_append_right (by omega),show p.length + q.length + 1 - p.length = q.length + 1 by omega]
  simp
 unfold swpL
 rw [h1,h2]
 simp only
 rw [List.set_append_right _ _ (Nat.le_refl _),Nat.sub_self,List.set_cons_zero,List.set_append_right _ _ (by omega),show p.length + q.length + 1 - p.length = q.length + 1 by omega,List.set_cons_succ,List.set_append_right _ _ (Nat.le_refl _),Nat.sub_self,List.set_cons_zero]
theorem swpL_perm (xs:List α) (i j:Nat) (hij:i < j) (hj:j < xs.length):(swpL xs i j).Perm xs:=by
 obtain ⟨p,a,q,b,r,e,h1,h2,_,_⟩:=split2 xs i j hij hj
 subst e
 rw [swpL_split p q r a b i j h1 h2]
 refine List.Perm.append_left p ?_
 refine ((List.perm_middle (l₁:=q) (a:=a) (l₂:=r)).cons b).trans ?_
 refine (List.Perm.swap a b _).trans ?_
 exact ((List.perm_middle (l₁:=q) (a:=b) (l₂:=r)).symm).cons a
theorem swpL_get (xs:List α) (i j:Nat) (hi:i < xs.length) (hj:j < xs.length) (k:Nat) (hk:k < xs.length):(swpL xs i j)[k]'(by rw [swpL_length];exact hk) = if k = j then xs[i] else if k = i then xs[j] else xs[k]:=by
 have e:=swpL_eq xs i j hi hj
 simp only [e,List.getElem_set]
 by_cases h1:j = k
 ·subst h1;simp
 ·by_cases h2:i = k
  ·subst h2;simp [h1,Ne.symm h1]
  ·simp [h1,h2,Ne.symm h1,Ne.symm h2]
theorem swpL_out (xs:List α) (i j k:Nat) (h1:k ≠ i) (h2:k ≠ j):(swpL xs i j)[k]? = xs[k]?:=by
 unfold swpL
 split
 ·rw [List.getElem?_set_ne (Ne.symm h2),List.getElem?_set_ne (Ne.symm h1)]
 ·rfl
variable {c:α→α→Int}
def SegOk (c:α→α→Int) (a i:Nat) (ys:List α):Prop:=∀ p q (hp:p < ys.length) (hq:q < ys.length),a ≤ p→p < q→q < i→c ys[p] ys[q] ≤ 0
def SinkOk (c:α→α→Int) (a i j:Nat) (ys:List α):Prop:=∀ p q (hp:p < ys.length) (hq:q < ys.length),a ≤ p→p < q→q < i + 1→q ≠ j→c ys[p] ys[q] ≤ 0
theorem SegOk.sink {a i:Nat} {ys:List α} (h:SegOk c a i ys):SinkOk c a i i ys:=fun p q hp hq h1 h2 h3 h4 => h p q hp hq h1 h2 (by omega)
theorem SinkOk.swap {a i j:Nat} {ys:List α} (h:SinkOk c a i j ys) (hj0:a < j) (hji:j ≤ i) (hj:j < ys.length) (hlt:c ys[j] (ys[j - 1]'(by omega)) < 0):SinkOk c a i (j - 1) (swpL ys (j - 1) j):=by
 intro p q hp hq h1 h2 h3 h4
 have hp':p < ys.length:=by rw [swpL_length] at hp;exact hp
 have hq':q < ys.length:=by rw [swpL_length] at hq;exact hq
 rw [swpL_get ys (j - 1) j (by omega) hj p hp',swpL_get ys (j - 1) j (by omega) hj q hq']
 by_cases hqj:q = j
 ·subst hqj
  rw [if_pos rfl,if_neg (by omega)]
  by_cases hp1:p = q - 1
  ·rw [if_pos hp1];omega
  ·rw [if_neg hp1];exact h p (q - 1) hp' (by omega) h1 (by omega) (by omega) (by omega)
 ·rw [if_neg hqj,if_neg h4]
  by_cases hpj:p = j
  ·subst hpj
   rw [if_pos rfl]
   exact h (p - 1) q (by omega) hq' (by omega) (by omega) h3 hqj
  ·rw [if_neg hpj]
   by_cases hp1:p = j - 1
   ·rw [if_pos hp1]
    exact h j q hj hq' (by omega) (by omega) h3 hqj
   ·rw [if_neg hp1]
    exact h p q hp' hq' h1 h2 h3 hqj
theorem SinkOk.done (hc:Cmp c) {a i j:Nat} {ys:List α} (h:SinkOk c a i j ys) (hj:j < ys.length) (hs:j ≤ a ∨ ¬ c ys[j] (ys[j - 1]'(by omega)) < 0) (_hji:j ≤ i):SegOk c a (i + 1) ys:=by
 intro p q hp hq h1 h2 h3
 by_cases hqj:q = j
 ·subst hqj
  rcases hs with hs|hs
  ·omega
  ·have hle:=hc.le_of_not_lt hs
   by_cases hp1:p = q - 1
   ·subst hp1;exact hle
   ·exact hc.trans _ _ _ (h p (q - 1) hp (by omega) h1 (by omega) (by omega) (by omega)) hle
 ·exact h p q hp hq h1 h2 (by omega) hqj
theorem SegOk.pairwise {ys:List α} {n:Nat} (h:SegOk c 0 n ys) (hn:ys.length ≤ n):ys.Pairwise (fun a b => c a b ≤ 0):=by
 rw [List.pairwise_iff_getElem]
 intro i j hi hj hij
 exact h i j hi hj (Nat.zero_le _) hij (by omega)
structure PermIn (a b:Nat) (xs ys:List α):Prop where
 perm:ys.Perm xs
 out:∀ p,(p < a ∨ b ≤ p)→ys[p]? = xs[p]?
theorem PermIn.refl (a b:Nat) (xs:List α):PermIn a b xs xs:=⟨List.Perm.refl _,fun _ _ => rfl⟩
theorem PermIn.trans {a b:Nat} {xs ys zs:List α} (h:PermIn a b xs ys) (k:PermIn a b ys zs):PermIn a b xs zs:=⟨k.perm.trans h.perm,fun p hp => (k.out p hp).trans (h.out p hp)⟩
theorem PermIn.len {a b:Nat} {xs ys:List α} (h:PermIn a b xs ys):ys.length = xs.length:=h.perm.length_eq
theorem PermIn.swp {a b:Nat} (xs:List α) (i j:Nat) (hij:i < j) (hj:j < xs.length) (ha:a ≤ i) (hb:j < b):PermIn a b xs (swpL xs i j) :=
 ⟨swpL_perm xs i j hij hj,fun p hp => swpL_out xs i j p (by omega) (by omega)⟩
theorem PermIn.mono {a b a' b':Nat} {xs ys:List α} (h:PermIn a b xs ys) (h1:a' ≤ a) (h2:b ≤ b'):PermIn a' b' xs ys:=⟨h.perm,fun p hp => h.out p (by omega)⟩
variable {R:Rep α} {w:World}
theorem ownL.unappend:∀ {xs ys:List α} {ds:List Value} {F:List Nat},ownL R w ds (xs ++ ys) F →
  ∃ d1 d2 F1 F2,ds = d1 ++ d2∧F = F1 ++ F2∧ownL R w d1 xs F1∧ownL R w d2 ys F2
 | [],ys,ds,F,h => ⟨[],ds,[],F,rfl,rfl,⟨rfl,rfl⟩,h⟩
 | x :: xs,ys,ds,F,⟨c,d,G,H,e,e',h1,h2⟩ => by
  obtain ⟨d1,d2,F1,F2,k1,k2,k3,k4⟩:=ownL.unappend h2
  exact ⟨c ++ d1,d2,G ++ F1,F2,by rw [e,k1,List.append_assoc],by rw [e',k2,List.append_assoc],⟨c,d1,G,F1,rfl,rfl,h1,k3⟩,k4⟩
theorem Own.of_heap {β:Type} {S:Rep β} {w w':World} {cs:List Value} {x:β} {lo hi:Nat} (h:Own S lo hi w cs x) (e:w'.heap = w.heap):Own S lo hi w' cs x :=
 h.frame fun b _ _ => by rw [e]
theorem Rd.of_heap {β:Type} {S:Rep β} {w w':World} {cs:List Value} {x:β} (h:Rd S w cs x) (e:w'.heap = w.heap):Rd S w' cs x :=
 S.rd_mono (S.rd_frame h fun b _ _ => by rw [e]) (fun b hb _ => by rw [e];exact hb)
theorem Chg.of_heap {lo hi:Nat} {w w' w'':World} (h:Chg lo hi w w') (e:w''.heap = w'.heap) (e1:w''.os = w'.os) (e2:w''.tape = w'.tape) (e3:w''.output = w'.output):Chg lo hi w w'' :=
 ⟨e1.trans h.os,e2.trans h.tape,e3.trans h.output,by rw [e];exact h.size,fun k hk hn => by rw [e];exact h.block k hk hn⟩
theorem Own.swap {v:Value} {xs:List α} {lo hi:Nat} (h:Own (RS R) lo hi w [v] xs) (hk:R.k = 1) (i j:Nat) (hij:i < j) (hj:j < xs.length) :
  ∃ g cap a b,v = .slice (some ⟨g,0,none⟩) xs.length cap∧xs.length ≤ cap∧cap ≤ 9223372036854775807∧g < w.heap.size ∧
   w.cell? ⟨g,i,none⟩ = some a∧w.cell? ⟨g,j,none⟩ = some b∧w.frozen? ⟨g,i,none⟩ = false∧w.frozen? ⟨g,j,none⟩ = false∧Rd R w [a] xs[i]∧Rd R w [b] xs[j] ∧
   (w.setCell ⟨g,j,none⟩ a).cell? ⟨g,i,none⟩ = some a ∧
   Own (RS R) lo hi ((w.setCell ⟨g,j,none⟩ a).setCell ⟨g,i,none⟩ b) [v] (swpL xs i j)∧Chg lo hi w ((w.setCell ⟨g,j,none⟩ a).setCell ⟨g,i,none⟩ b):=by
 obtain ⟨og,ds,F,hrow,hel,hF,hlt⟩:=h.open
 obtain ⟨g,rfl⟩:=hrow.some_of hj
 obtain ⟨cap,hv,hc1,hc2⟩:=hrow.slice
 obtain ⟨p,x,q,y,r,e,hp,hq,hxi,hxj⟩:=split2 xs i j hij hj
 rw [hxi,hxj]
 have hel0:=hel
 rw [e] at hel0
 obtain ⟨d1,d2,F1,F2,rfl,rfl,h1,⟨ca,d3,G,H,rfl,rfl,h2,h3⟩⟩:=ownL.unappend hel0
 obtain ⟨d4,d5,F4,F5,rfl,rfl,h4,⟨cb,d6,G2,H2,rfl,rfl,h5,h6⟩⟩:=ownL.unappend h3
 have la:=R.rd_len (R.own_rd h2)
 have lb:=R.rd_len (R.own_rd h5)
 rw [hk] at la lb
 match ca,la,cb,lb with
 | [a],_,[b],_ =>
  have l1:d1.length = i:=by rw [h1.len,hk,Nat.mul_one,hp]
  have l4:i + d4.length + 1 = j:=by rw [h4.len,hk,Nat.mul_one];exact hq
  have hlen:xs.length = p.length + (1 + (q.length + (1 + r.length))):=by rw [e];simp only [List.length_append,List.length_cons];omega
  have hrow':Row w v 1 xs.length (d1 ++ (a :: (d4 ++ (b :: d6)))) (some g):=by rw [← hk];exact hrow
  have ga:w.cell? ⟨g,i,none⟩ = some a:=hrow'.cells i a (by rw [← l1];simp)
  have gb:w.cell? ⟨g,j,none⟩ = some b:=hrow'.cells j b (by
   rw [List.getElem?_append_right (by omega),l1,show j - i = d4.length + 1 by omega];simp)
  obtain ⟨s1,r1⟩:=hrow'.store j a
  obtain ⟨s2,r2⟩:=s1.store i b
  have hset:((d1 ++ (a :: (d4 ++ (b :: d6)))).set j a).set i b = d1 ++ (b :: (d4 ++ (a :: d6))):=by
   rw [List.set_append_right _ _ (by omega),l1,show j - i = d4.length + 1 by omega,List.set_cons_succ,List.set_append_right _ _ (Nat.le_refl _),Nat.sub_self,List.set_cons_zero]
   rw [List.set_append_right _ _ (by omega),l1,Nat.sub_self,List.set_cons_zero]
  rw [hset] at s2
  have hfr:∀ z,z ∈ F1 ++ (G ++ (F4 ++ (G2 ++ H2)))→((w.setCell ⟨g,j,none⟩ a).setCell ⟨g,i,none⟩ b).heap[z]? = w.heap[z]?:=by
   intro z hz
   have hne:z ≠ g:=by
    intro e;subst e
    exact (List.nodup_append.1 hF).2.2 z (by simp) z hz rfl
   rw [heap_setCell_other _ ⟨g,i,none⟩ z b hne,heap_setCell_other _ ⟨g,j,none⟩ z a hne]
  have hown:ownL R ((w.setCell ⟨g,j,none⟩ a).setCell ⟨g,i,none⟩ b) (d1 ++ (b :: (d4 ++ (a :: d6)))) (swpL xs i j) (F1 ++ (G2 ++ (F4 ++ (G ++ H2)))):=by
   rw [e,swpL_split p q r x y i j hp hq]
   refine ownL.append (h1.frame fun z hz => hfr z (by simp [hz])) ?_
   refine ⟨[b],d4 ++ (a :: d6),G2,F4 ++ (G ++ H2),rfl,rfl,R.own_frame h5 (fun z hz => hfr z (by simp [hz])),?_⟩
   refine ownL.append (h4.frame fun z hz => hfr z (by simp [hz])) ?_
   exact ⟨[a],d6,G,H2,rfl,rfl,R.own_frame h2 (fun z hz => hfr z (by simp [hz])),h6.frame fun z hz => hfr z (by simp [hz])⟩
  have hperm:(F1 ++ (G2 ++ (F4 ++ (G ++ H2)))).Perm (F1 ++ (G ++ (F4 ++ (G2 ++ H2)))):=by
   refine List.Perm.append_left F1 ?_
   have e1:(G2 ++ (F4 ++ (G ++ H2))).Perm (G ++ (G2 ++ (F4 ++ H2))):=by
    rw [← List.append_assoc,← List.append_assoc]
    refine (List.perm_append_comm.append_right H2).trans ?_
    rw [List.append_assoc,List.append_assoc]
   refine e1.trans (List.Perm.append_left G ?_)
   rw [← List.append_assoc,← List.append_assoc]
   exact List.perm_append_comm.append_right H2
  have hg:=hlt g (by simp)
  have hgs:=hrow.lt g rfl
  refine ⟨g,cap,a,b,hv,hc1,by unfold maxLen at hc2;omega,hgs,ga,gb,hrow'.frozen i,hrow'.frozen j,Rd.of (R.own_rd h2),Rd.of (R.own_rd h5),?_,?_,?_⟩
  ·rw [World.cell?_setCell_other _ _ _ _ (by intro e;simp only [Addr.mk.injEq] at e;omega)];exact ga
  ·refine Own.mk' (og:=some g) (ds:=d1 ++ (b :: (d4 ++ (a :: d6)))) (F:=F1 ++ (G2 ++ (F4 ++ (G ++ H2)))) (by rw [hk,swpL_length];exact s2) hown ?_ ?_
   ·exact (List.Perm.nodup_iff (hperm.append_left _)).2 hF
   ·intro z hz
    exact hlt z ((hperm.append_left _).mem_iff.1 hz)
  ·exact (Chg.of_grown r1 (fun z hz => by cases hz;exact hg)).trans (Chg.of_grown r2 (fun z hz => by cases hz;exact hg))
end
end Go.Proofs.YtgngidchldajhaaGreat
namespace Go.Proofs.YtgngidchldajhaaGreat
open Go.RowKit
def isNum (n:Int):Bool:=inR n 0 10006
set_option maxRecDepth 100000 in
set_option maxHeartbeats 400000 in
theorem c_impl_IsNumber (n:Int) (w:World):Calls Tryz.prog 123 #[.int .i64 n] w (RetS w (.bool (isNum n))):=by
 go_enter Tryz.func123,Tryz.ntmps123
 go_wp2_with (go_at_call 137;refine (c_impl_inRange _ _ _ _).mono ?_;rintro e w' ⟨rfl,rfl⟩)
 go_ret
 exact ⟨rfl,rfl⟩
end Go.Proofs.YtgngidchldajhaaGreat
namespace Go.Proofs.YtgngidchldajhaaGreat
open Go.RowKit
def marks (n:Nat) (k:Int):List Int:=(List.range n).map fun (i:Nat) => k + (i:Int)
theorem marks_length (n:Nat) (k:Int):(marks n k).length = n:=by simp [marks]
theorem marks_get (n:Nat) (k:Int) (i:Nat) (h:i < n):(marks n k)[i]'(by rw [marks_length];exact h) = k + (i:Int):=by simp [marks]
theorem Row.ownI {w:World} {v:Value} {xs:List Int} {og:Option Nat} (h:Row w v 1 xs.length (xs.map (Value.int .i64)) og) (hb:∀ x ∈ xs,In64 x):(RS RI).own w [v] xs og.toList :=
 ⟨v,og,xs.map (Value.int .i64),[],rfl,h,ownL_ints_mk hb,by simp⟩
theorem Row.OwnIh {w:World} {v:Value} {xs:List Int} {og:Option Nat} {lo hi:Nat} (h:Row w v 1 xs.length (xs.map (Value.int .i64)) og) (hb:∀ x ∈ xs,In64 x) (hlo:∀ g,og = some g→lo ≤ g∧g < hi):Own (RS RI) lo hi w [v] xs :=
 ⟨og.toList,h.ownI hb,by cases og <;> simp,fun b hb' => by have e:og = some b:=by simpa using hb'
                                                           exact hlo b e⟩
theorem Row.OwnI {w:World} {v:Value} {xs:List Int} {og:Option Nat} {lo:Nat} (h:Row w v 1 xs.length (xs.map (Value.int .i64)) og) (hb:∀ x ∈ xs,In64 x) (hlo:∀ g,og = some g→lo ≤ g):Own (RS RI) lo w.heap.size w [v] xs :=
 ⟨og.toList,h.ownI hb,by cases og <;> simp,fun b hb' => by have e:og = some b:=by simpa using hb'
                                                           exact ⟨hlo b e,h.lt b e⟩⟩
theorem map_set_int (xs:List Int) (i:Nat) (x:Int):(xs.map (Value.int .i64)).set i (.int .i64 x) = (xs.set i x).map (Value.int .i64):=by
 rw [List.map_set]
theorem set_take (xs ys:List Int) (k:Nat) (hk:k < xs.length) (h2:k < ys.length):(xs.take k ++ ys.drop k).set k xs[k] = xs.take (k + 1) ++ ys.drop (k + 1):=by
 apply List.ext_getElem
 ·simp;omega
 ·intro i h3 h4
  rw [List.getElem_set]
  by_cases hik:k = i
  ·subst hik
   rw [if_pos rfl,List.getElem_append_left (by simp;omega)]
   simp
  ·rw [if_neg hik]
   by_cases hlt:i < k
   ·rw [List.getElem_append_left (by simp;omega),List.getElem_append_left (by simp;omega)]
    simp
   ·rw [List.getElem_append_right (by simp;omega),List.getElem_append_right (by simp;omega)]
    simp
    congr 1
    omega
set_option maxRecDepth 100000 in
set_option maxHeartbeats 400000 in
theorem c_laws_toInt64S (v:Value) (xs:List Int) (w:World) (h:Rd (RS RI) w [v] xs) (hsz:xs.length ≤ 1048576) :
  Calls Tryz.prog 226 #[v] w (RetO (RS RI) w xs):=by
 obtain ⟨oa,c1,I1⟩:=h.ints
 obtain rfl:=I1.val
 have m1:=I1.le;have m2:=I1.capLe
 unfold maxLen at m2
 go_enter Tryz.func226,Tryz.ntmps226
 go_wp2_with (at_make;refine wpList_makeI rfl _ _ 24 rfl 2 tI64 _ _ _ _ xs.length rfl rfl rfl rfl (by omega) ?_;intro w1 hrow0 hb)
 go_wp2_with fail
 go_loopw [4] (fun i wr => ∃ k:Nat,k ≤ xs.length∧i = .int .i64 k∧Row wr (.slice (some ⟨w.heap.size,0,none⟩) xs.length xs.length) 1 xs.length ((xs.take k ++ (List.replicate xs.length 0).drop k).map (Value.int .i64)) (some w.heap.size)∧Below w.heap.size w wr) (fun i _ => xs.length - (intOf i).toNat)
 case atStart => exact ⟨0,Nat.zero_le _,rfl,by simpa using hrow0,hb⟩
 case round =>
  obtain ⟨k,hk,rfl,hrow,hbr⟩:=hrel
  by_cases hlt:k < xs.length
  ·obtain ⟨b1,o1,rfl,hb1,hc1⟩:=I1.get hlt
   have g1:=(hbr.cell (p:=⟨b1,o1 + k,none⟩) hb1).trans (hc1 k hlt)
   obtain ⟨hst,hgr⟩:=hrow.store k (.int .i64 xs[k])
   have hfz:=hrow.frozen k
   have hcell:=hrow.cells k ((xs.take k ++ (List.replicate xs.length 0).drop k)[k]'(by simp;omega) |> Value.int .i64) (by rw [List.getElem?_map,List.getElem?_eq_getElem (by simp;omega)];rfl)
   have hbr':Below w.heap.size w (wr.setCell ⟨w.heap.size,k,none⟩ (.int .i64 xs[k])):=hbr.setCell (Nat.le_refl _) _
   rw [map_set_int,set_take _ _ _ hlt (by simp;omega)] at hst
   clear hc1 hgr
   generalize ((xs.take k ++ (List.replicate xs.length 0).drop k)[k]'(by simp;omega) |> Value.int .i64) = old at hcell
   go_wp2_with fail
   go_roundw
   case rel => exact ⟨k + 1,by omega,by go_num,hst,hbr'⟩
   case measure => simp [intOf];omega
  ·have hke:k = xs.length:=by omega
   have hfin:Row wr (.slice (some ⟨w.heap.size,0,none⟩) xs.length xs.length) 1 xs.length (xs.map (Value.int .i64)) (some w.heap.size):=by
    have e:xs.take k ++ (List.replicate xs.length (0:Int)).drop k = xs:=by rw [hke];simp
    rw [e] at hrow;exact hrow
   have Hke:=Lib.hid hke
   clear hke
   go_wp2_with fail
   go_ret
   exact ⟨_,rfl,Row.OwnI hfin I1.bd (fun g hg => by cases hg;exact Nat.le_refl _),hbr⟩
theorem marks_set (xs:List Int) (k:Int) (i:Nat) (h:i < xs.length):(marks i k ++ xs.drop i).set i (k + (i:Int)) = marks (i + 1) k ++ xs.drop (i + 1):=by
 have e:marks (i + 1) k = marks i k ++ [k + (i:Int)]:=by simp [marks,List.range_succ]
 rw [e,List.set_append_right _ _ (by rw [marks_length];exact Nat.le_refl _),marks_length,Nat.sub_self]
 have e2:(xs.drop i).set 0 (k + (i:Int)) = (k + (i:Int)) :: xs.drop (i + 1):=by rw [List.drop_eq_getElem_cons h];rfl
 rw [e2];simp
set_option maxRecDepth 100000 in
set_option maxHeartbeats 400000 in
theorem c_laws_markInt64S (v:Value) (n:Nat) (xs:List Int) (og:Option Nat) (k:Int) (w:World) (h:Row w v 1 n (xs.map (Value.int .i64)) og) (hk0:0 ≤ k) (hk:k + n ≤ 4611686018427387904) :
  Calls Tryz.prog 178 #[v,.int .i64 k] w fun e w' => e = .returned (.int .i64 (k + n))∧Row w' v 1 n ((marks n k).map (Value.int .i64)) og∧w.grownBy w' og:=by
 have hlen:xs.length = n:=by have:=h.1;simpa using this
 obtain ⟨oa,cap,rfl,hle,hcap,_,hoa⟩:=h.value
 have Hoa:=Lib.hid hoa
 have Hlen:=Lib.hid hlen
 clear hoa hlen
 unfold maxLen at hcap
 go_enter Tryz.func178,Tryz.ntmps178
 go_wp2_with fail
 go_loopw [1,5] (fun kk i wr => ∃ j:Nat,j ≤ n∧i = .int .i64 j∧kk = .int .i64 (k + j)∧Row wr (.slice oa n cap) 1 n ((marks j k ++ xs.drop j).map (Value.int .i64)) og∧w.grownBy wr og) (fun _ i _ => n - (intOf i).toNat)
 case atStart => exact ⟨0,Nat.zero_le _,rfl,by simp,by simpa [marks] using h,World.grownBy.refl _ _⟩
 case round =>
  obtain ⟨j,hj,rfl,rfl,hrow,hgr⟩:=hrel
  by_cases hlt:j < n
  ·obtain ⟨g,hg⟩:=hrow.some_of hlt
   subst hg
   have ho:=Hoa.out
   simp only [Option.map_some] at ho
   obtain rfl:=ho
   obtain ⟨hst,hgr2⟩:=hrow.store j (.int .i64 (k + j))
   have hfz:=hrow.frozen j
   have hx:j < (marks j k ++ xs.drop j).length:=by rw [List.length_append,marks_length,List.length_drop,Hlen.out];omega
   have hcell:=hrow.cells j ((marks j k ++ xs.drop j)[j] |> Value.int .i64) (by rw [List.getElem?_map,List.getElem?_eq_getElem hx];rfl)
   have hgr':w.grownBy (wr.setCell ⟨g,j,none⟩ (.int .i64 (k + j))) (some g) :=
    ⟨hgr2.os.trans hgr.os,hgr2.tape.trans hgr.tape,hgr2.output.trans hgr.output,Nat.le_trans hgr.size hgr2.size,fun b hb hne => (hgr2.block b (Nat.lt_of_lt_of_le hb hgr.size) hne).trans (hgr.block b hb hne)⟩
   rw [map_set_int,marks_set _ _ _ (by rw [Hlen.out];exact hlt)] at hst
   clear hgr2 hgr
   generalize ((marks j k ++ xs.drop j)[j] |> Value.int .i64) = old at hcell
   go_wp2_with fail
   go_roundw
   case rel => exact ⟨j + 1,by omega,by go_num,by go_num,hst,hgr'⟩
   case measure => simp [intOf];omega
  ·have hje:j = n:=by omega
   have hfin:Row wr (.slice oa n cap) 1 n ((marks n k).map (Value.int .i64)) og:=by
    have e:marks j k ++ xs.drop j = marks n k:=by rw [hje,← Hlen.out];simp
    rw [e] at hrow;exact hrow
   have Hje:=Lib.hid hje
   clear hje
   go_wp2_with fail
   go_ret
   exact ⟨by rw [Hje.out];rfl,hfin,hgr⟩
set_option maxRecDepth 100000 in
set_option maxHeartbeats 400000 in
theorem c_laws_heldInt64S (v:Value) (n:Nat) (k:Int) (w:World) (h:Rd (RS RI) w [v] (marks n k)) (hk0:0 ≤ k) (hk:k + n ≤ 4611686018427387904) :
  Calls Tryz.prog 179 #[v,.int .i64 k] w (RetS w (.int .i64 (k + n))):=by
 obtain ⟨oa,c1,I1⟩:=h.ints
 obtain rfl:=I1.val
 have m1:=I1.le;have m2:=I1.capLe
 unfold maxLen at m2
 have hlen:=marks_length n k
 rw [hlen] at m1 ⊢
 go_enter Tryz.func179,Tryz.ntmps179
 go_wp2_with fail
 go_loop [1,5] (fun kk i => ∃ j:Nat,j ≤ n∧i = .int .i64 j∧kk = .int .i64 (k + j)) (fun _ i => n - (intOf i).toNat)
 case atStart => exact ⟨0,Nat.zero_le _,rfl,by simp⟩
 case round =>
  obtain ⟨j,hj,rfl,rfl⟩:=hrel
  by_cases hlt:j < n
  ·obtain ⟨b1,o1,rfl,hb1,hc1⟩:=I1.get (k:=j) (by rw [hlen];exact hlt)
   have g1:=hc1 j (by rw [hlen];exact hlt)
   rw [marks_get n k j hlt] at g1
   have hne:((k + (j:Int)) != (k + (j:Int))) = false:=by simp
   clear hc1 hlen
   go_wp2_with fail
   go_round
   case rel => exact ⟨j + 1,by omega,by go_num,by go_num⟩
   case measure => simp [intOf];omega
  ·have hje:j = n:=by omega
   have Hje:=Lib.hid hje
   clear hje hlen
   go_wp2_with fail
   go_ret
   exact ⟨by rw [Hje.out];rfl,rfl⟩
theorem marks_in64 (n:Nat) (k:Int) (h0:0 ≤ k) (h1:k + n ≤ 4611686018427387904):∀ x ∈ marks n k,In64 x:=by
 intro x hx
 simp [marks] at hx
 obtain ⟨i,hi,rfl⟩:=hx
 exact ⟨by omega,by omega⟩
theorem to_I (v:Value) (xs:List Int) (w:World) (h:Rd (RS RI) w [v] xs) (hsz:xs.length ≤ 1048576) :
  Calls Tryz.prog 226 #[v] w (RetO (RS RI) w xs):=c_laws_toInt64S v xs w h hsz
theorem eqv_I (v1 v2:Value) (xs:List Int) (w:World) (h1:Rd (RS RI) w [v1] xs) (h2:Rd (RS RI) w [v2] xs) :
  Calls Tryz.prog 237 #[v1,v2] w (RetV w (.bool true)) :=
 (c_laws_eqInt64S v1 v2 xs xs w h1 h2).mono fun e w' h => by simpa using h.toV
end Go.Proofs.YtgngidchldajhaaGreat
namespace Go.Proofs.YtgngidchldajhaaGreat
open Go.RowKit
theorem cmpL_step {xs ys:List Int} {k:Nat} (h1:k < xs.length) (h2:k < ys.length) :
  cmpL (xs.drop k) (ys.drop k) = if xs[k] < ys[k] then -1 else if ys[k] < xs[k] then 1 else cmpL (xs.drop (k + 1)) (ys.drop (k + 1)):=by
 rw [List.drop_eq_getElem_cons h1,List.drop_eq_getElem_cons h2];rfl
theorem cmpL_endR {xs ys:List Int} {k:Nat} (h1:k < xs.length) (h2:ys.length ≤ k):cmpL (xs.drop k) (ys.drop k) = 1:=by
 rw [List.drop_eq_getElem_cons h1,List.drop_of_length_le h2];rfl
theorem cmpL_endL {xs ys:List Int} {k:Nat} (h1:xs.length ≤ k) (h2:k < ys.length):cmpL (xs.drop k) (ys.drop k) = -1:=by
 rw [List.drop_eq_getElem_cons h2,List.drop_of_length_le h1];rfl
theorem cmpL_end0 {xs ys:List Int} {k:Nat} (h1:xs.length ≤ k) (h2:ys.length ≤ k):cmpL (xs.drop k) (ys.drop k) = 0:=by
 rw [List.drop_of_length_le h1,List.drop_of_length_le h2];rfl
theorem drewN3 (w:World) (n m k:Nat):∃ j,((w.drewN n).drewN m).drewN k = w.drewN j:=⟨_,by rw [World.drewN_drewN,World.drewN_drewN]⟩
def cmpI (x y:Int):Int:=if x < y then -1 else if y < x then 1 else 0
set_option maxRecDepth 100000 in
set_option maxHeartbeats 400000 in
theorem c_isNaN (x:Int) (w:World):Calls Tryz.prog 256 #[.int .i64 x] w (RetS w (.bool false)):=by
 have h:(x != x) = false:=by simp
 go_enter Tryz.func256,Tryz.ntmps256
 go_wp2_with fail
 go_ret
 exact ⟨by simp,rfl⟩
set_option maxRecDepth 100000 in
set_option maxHeartbeats 400000 in
theorem c_cmpCompare (x y:Int) (w:World):Calls Tryz.prog 214 #[.int .i64 x,.int .i64 y] w (RetS w (.int .i64 (cmpI x y))):=by
 unfold cmpI
 by_cases h1:x < y
 ·go_enter Tryz.func214,Tryz.ntmps214
  go_wp2_with (go_at_call 256;refine (c_isNaN _ _).mono ?_;rintro e w' ⟨rfl,rfl⟩)
  go_ret
  exact ⟨by simp,rfl⟩
 ·by_cases h2:y < x
  ·go_enter Tryz.func214,Tryz.ntmps214
   go_wp2_with (go_at_call 256;refine (c_isNaN _ _).mono ?_;rintro e w' ⟨rfl,rfl⟩)
   go_ret
   exact ⟨by simp,rfl⟩
  ·go_enter Tryz.func214,Tryz.ntmps214
   go_wp2_with (go_at_call 256;refine (c_isNaN _ _).mono ?_;rintro e w' ⟨rfl,rfl⟩)
   go_ret
   exact ⟨by simp,rfl⟩
set_option maxRecDepth 100000 in
set_option maxHeartbeats 1000000 in
theorem c_slicesCompare (v1 v2:Value) (xs ys:List Int) (w:World) (h1:Rd (RS RI) w [v1] xs) (h2:Rd (RS RI) w [v2] ys) :
  Calls Tryz.prog 153 #[v1,v2] w (RetS w (.int .i64 (cmpL xs ys))):=by
 obtain ⟨oa,c1,I1⟩:=h1.ints
 obtain ⟨ob,c2,I2⟩:=h2.ints
 obtain rfl:=I1.val
 obtain rfl:=I2.val
 have m1:=I1.le;have m2:=I1.capLe;have m3:=I2.le;have m4:=I2.capLe
 unfold maxLen at m2 m4
 go_enter Tryz.func153,Tryz.ntmps153
 go_wp2_with fail
 go_loop [11] (fun i => ∃ k:Nat,k ≤ xs.length∧k ≤ ys.length∧i = .int .i64 k∧cmpL xs ys = cmpL (xs.drop k) (ys.drop k)) (fun i => xs.length - (intOf i).toNat)
 case atStart => exact ⟨0,Nat.zero_le _,Nat.zero_le _,rfl,by simp⟩
 case round =>
  obtain ⟨k,hk,hk2,rfl,he⟩:=hrel
  have He:=Lib.hid he
  clear he
  by_cases hlt:k < xs.length
  ·obtain ⟨b1,o1,rfl,hb1,hc1⟩:=I1.get hlt
   have g1:=hc1 k hlt
   clear hc1
   by_cases hlt2:k < ys.length
   ·obtain ⟨b2,o2,rfl,hb2,hc2⟩:=I2.get hlt2
    have g2:=hc2 k hlt2
    clear hc2
    have hs:=cmpL_step hlt hlt2
    by_cases l1:xs[k] < ys[k]
    ·have hcI:cmpI xs[k] ys[k] = -1:=by simp [cmpI,l1]
     have Hs:=Lib.hid hs
     have L1:=Lib.hid l1
     clear hs l1
     go_wp2_with (go_at_call 214;refine (c_cmpCompare _ _ _).mono ?_;rintro e w' ⟨rfl,rfl⟩)
     go_ret
     exact ⟨by (rw [He.out,Hs.out,if_pos L1.out] <;> rfl),rfl⟩
    ·by_cases l2:ys[k] < xs[k]
     ·have hcI:cmpI xs[k] ys[k] = 1:=by simp [cmpI,l1,l2]
      have Hs:=Lib.hid hs
      have L1:=Lib.hid l1
      have L2:=Lib.hid l2
      clear hs l1 l2
      go_wp2_with (go_at_call 214;refine (c_cmpCompare _ _ _).mono ?_;rintro e w' ⟨rfl,rfl⟩)
      go_ret
      exact ⟨by (rw [He.out,Hs.out,if_neg (show ¬ xs[k] < ys[k] by have:=L1.out;omega),if_pos L2.out] <;> rfl),rfl⟩
     ·have hcI:cmpI xs[k] ys[k] = 0:=by simp [cmpI,l1,l2]
      have Hs:=Lib.hid hs
      have L1:=Lib.hid l1
      have L2:=Lib.hid l2
      clear hs l1 l2
      go_wp2_with (go_at_call 214;refine (c_cmpCompare _ _ _).mono ?_;rintro e w' ⟨rfl,rfl⟩)
      go_round
      case rel => exact ⟨k + 1,by omega,by omega,by go_num,by rw [He.out,Hs.out,if_neg (show ¬ xs[k] < ys[k] by have:=L1.out;omega),if_neg (show ¬ ys[k] < xs[k] by have:=L2.out;omega)]⟩
      case measure => simp [intOf];omega
   ·go_wp2_with fail
    go_ret
    exact ⟨by (rw [He.out,cmpL_endR hlt (by omega)] <;> rfl),rfl⟩
  ·by_cases hlt2:k < ys.length
   ·go_wp2_with fail
    go_ret
    exact ⟨by (rw [He.out,cmpL_endL (by omega) hlt2] <;> rfl),rfl⟩
   ·go_wp2_with fail
    go_ret
    exact ⟨by (rw [He.out,cmpL_end0 (by omega) (by omega)] <;> rfl),rfl⟩
set_option maxRecDepth 100000 in
set_option maxHeartbeats 400000 in
theorem c_impl_compareTrees (v1 v2:Value) (xs ys:List Int) (w:World) (h1:Rd (RS RI) w [v1] xs) (h2:Rd (RS RI) w [v2] ys) :
  Calls Tryz.prog 150 #[v1,v2] w (RetS w (.int .i64 (cmpT xs ys))):=by
 obtain ⟨oa,c1,e1,m1,m2⟩:=h1.val
 obtain ⟨ob,c2,e2,m3,m4⟩:=h2.val
 subst e1;subst e2
 unfold maxLen at m2 m4
 by_cases hl:xs.length = ys.length
 ·have hlb:((xs.length:Int) != (ys.length:Int)) = false:=by simp [hl]
  have Hl:=Lib.hid hl
  clear hl
  go_enter Tryz.func150,Tryz.ntmps150
  go_wp2_with (go_at_call 153;refine (c_slicesCompare _ _ _ _ _ h2 h1).mono ?_;rintro e w' ⟨rfl,rfl⟩)
  go_ret
  exact ⟨by (unfold cmpT;rw [if_pos Hl.out] <;> rfl),rfl⟩
 ·have hlb:((xs.length:Int) != (ys.length:Int)) = true:=by simp;omega
  have hw:IntKind.i64.wrap ((xs.length:Int) - (ys.length:Int)) = (xs.length:Int) - (ys.length:Int):=IntWalk.i64_in _ (by omega)
  go_enter Tryz.func150,Tryz.ntmps150
  go_wp2_with fail
  go_ret
  exact ⟨by unfold cmpT;rw [if_neg hl];rfl,rfl⟩
set_option maxRecDepth 100000 in
set_option maxHeartbeats 400000 in
theorem c_impl_canonical1 (v1 v2:Value) (xs ys:List Int) (w:World) (h1:Rd (RS RI) w [v1] xs) (h2:Rd (RS RI) w [v2] ys) :
  Calls Tryz.prog 152 #[v1,v2] w (RetS w (.int .i64 (cmpD xs ys))):=by
 obtain ⟨oa,c1,e1,m1,m2⟩:=h1.val
 obtain ⟨ob,c2,e2,m3,m4⟩:=h2.val
 subst e1;subst e2
 go_enter Tryz.func152,Tryz.ntmps152
 go_wp2_with (go_at_call 153;refine (c_slicesCompare _ _ _ _ _ h2 h1).mono ?_;rintro e w' ⟨rfl,rfl⟩)
 go_ret
 exact ⟨rfl,rfl⟩
set_option maxRecDepth 100000 in
set_option maxHeartbeats 400000 in
theorem c_slicesEqual (v1 v2:Value) (xs ys:List Int) (w:World) (h1:Rd (RS RI) w [v1] xs) (h2:Rd (RS RI) w [v2] ys) :
  Calls Tryz.prog 87 #[v1,v2] w (RetQ w (.bool (decide (xs = ys)))):=by
 obtain ⟨oa,c1,I1⟩:=h1.ints
 obtain ⟨ob,c2,I2⟩:=h2.ints
 obtain rfl:=I1.val
 obtain rfl:=I2.val
 have m1:=I1.le;have m2:=I1.capLe;have m3:=I2.le;have m4:=I2.capLe
 unfold maxLen at m2 m4
 by_cases hl:xs.length = ys.length
 ·have Hl:=Lib.hid hl
  have hlb:((xs.length:Int) != (ys.length:Int)) = false:=by simp [hl]
  clear hl
  go_enter Tryz.func87,Tryz.ntmps87
  go_wp2_with fail
  go_loopw [13] (fun i wr => ∃ k:Nat,k ≤ xs.length∧i = .int .i64 k∧xs.take k = ys.take k∧∃ n,wr = w.drewN n) (fun i _ => xs.length - (intOf i).toNat)
  case atStart => exact ⟨0,Nat.zero_le _,rfl,by simp,0,rfl⟩
  case round =>
   obtain ⟨k,hk,rfl,heq,n,rfl⟩:=hrel
   have Heq:=Lib.hid heq
   clear heq
   by_cases hlt:k < xs.length
   ·have hlt2:k < ys.length:=by rw [← Hl.out];exact hlt
    obtain ⟨b1,o1,rfl,hb1,hc1⟩:=I1.get hlt
    obtain ⟨b2,o2,rfl,hb2,hc2⟩:=I2.get hlt2
    have g1:=hc1 k hlt
    have g2:=hc2 k hlt2
    clear hc1 hc2
    by_cases he:xs[k] = ys[k]
    ·have hne:(xs[k] != ys[k]) = false:=by simp [he]
     have He:=Lib.hid he
     clear he
     go_wp2_with fail
     go_quiet (fail)
     go_wp2_with fail
     go_roundw
     case rel => exact ⟨k + 1,by omega,by go_num,take_succ_eq hlt hlt2 Heq.out He.out,_,rfl⟩
     case measure => simp [intOf];omega
    ·have hne:(xs[k] != ys[k]) = true:=by simp [he]
     go_wp2_with fail
     go_quiet (fail)
     go_wp2_with fail
     go_ret
     exact ⟨by (rw [decide_eq_false (fun e => he (by subst e;rfl))] <;> rfl),(by first|exact drewN1 _ _|exact drewN2 _ _ _)⟩
   ·go_wp2_with fail
    go_ret
    refine ⟨?_,_,rfl⟩
    have h:=Heq.out
    rw [List.take_of_length_le (by omega),List.take_of_length_le (by rw [← Hl.out];omega)] at h
    rw [decide_eq_true h] <;> rfl
 ·have hlb:((xs.length:Int) != (ys.length:Int)) = true:=by simp;omega
  go_enter Tryz.func87,Tryz.ntmps87
  go_wp2_with fail
  go_ret
  exact ⟨by (rw [decide_eq_false (fun e => hl (by subst e;rfl))] <;> rfl),0,rfl⟩
set_option maxRecDepth 100000 in
set_option maxHeartbeats 400000 in
theorem c_spec_l01Same (v1 v2:Value) (xs ys:List Int) (w:World) (h1:Rd (RS RI) w [v1] xs) (h2:Rd (RS RI) w [v2] ys) :
  Calls Tryz.prog 223 #[v1,v2] w (RetQ w (.bool (decide (xs = ys)))):=by
 obtain ⟨oa,c1,I1⟩:=h1.ints
 obtain ⟨ob,c2,I2⟩:=h2.ints
 obtain rfl:=I1.val
 obtain rfl:=I2.val
 have m1:=I1.le;have m2:=I1.capLe;have m3:=I2.le;have m4:=I2.capLe
 unfold maxLen at m2 m4
 by_cases hl:xs.length = ys.length
 ·have Hl:=Lib.hid hl
  have hlb:((xs.length:Int) != (ys.length:Int)) = false:=by simp [hl]
  clear hl
  go_enter Tryz.func223,Tryz.ntmps223
  go_wp2_with fail
  go_loopw [5] (fun i wr => ∃ k:Nat,k ≤ xs.length∧i = .int .i64 k∧xs.take k = ys.take k∧∃ n,wr = w.drewN n) (fun i _ => xs.length - (intOf i).toNat)
  case atStart => exact ⟨0,Nat.zero_le _,rfl,by simp,0,rfl⟩
  case round =>
   obtain ⟨k,hk,rfl,heq,n,rfl⟩:=hrel
   have Heq:=Lib.hid heq
   clear heq
   by_cases hlt:k < xs.length
   ·have hlt2:k < ys.length:=by rw [← Hl.out];exact hlt
    obtain ⟨b1,o1,rfl,hb1,hc1⟩:=I1.get hlt
    obtain ⟨b2,o2,rfl,hb2,hc2⟩:=I2.get hlt2
    have g1:=hc1 k hlt
    have g2:=hc2 k hlt2
    clear hc1 hc2
    by_cases he:xs[k] = ys[k]
    ·have hne:(xs[k] != ys[k]) = false:=by simp [he]
     have He:=Lib.hid he
     clear he
     go_wp2_with fail
     go_quiet (fail)
     go_wp2_with fail
     go_roundw
     case rel => exact ⟨k + 1,by omega,by go_num,take_succ_eq hlt hlt2 Heq.out He.out,_,rfl⟩
     case measure => simp [intOf];omega
    ·have hne:(xs[k] != ys[k]) = true:=by simp [he]
     go_wp2_with fail
     go_quiet (fail)
     go_wp2_with fail
     go_ret
     exact ⟨by (rw [decide_eq_false (fun e => he (by subst e;rfl))] <;> rfl),(by first|exact drewN1 _ _|exact drewN2 _ _ _)⟩
   ·go_wp2_with fail
    go_ret
    refine ⟨?_,_,rfl⟩
    have h:=Heq.out
    rw [List.take_of_length_le (by omega),List.take_of_length_le (by rw [← Hl.out];omega)] at h
    rw [decide_eq_true h] <;> rfl
 ·have hlb:((xs.length:Int) != (ys.length:Int)) = true:=by simp;omega
  go_enter Tryz.func223,Tryz.ntmps223
  go_wp2_with fail
  go_ret
  exact ⟨by (rw [decide_eq_false (fun e => hl (by subst e;rfl))] <;> rfl),0,rfl⟩
set_option maxRecDepth 100000 in
set_option maxHeartbeats 1000000 in
theorem c_spec_l01Less (v1 v2:Value) (xs ys:List Int) (w:World) (h1:Rd (RS RI) w [v1] xs) (h2:Rd (RS RI) w [v2] ys) :
  Calls Tryz.prog 147 #[v1,v2] w (RetQ w (.bool (decide (cmpL xs ys < 0)))):=by
 obtain ⟨oa,c1,I1⟩:=h1.ints
 obtain ⟨ob,c2,I2⟩:=h2.ints
 obtain rfl:=I1.val
 obtain rfl:=I2.val
 have m1:=I1.le;have m2:=I1.capLe;have m3:=I2.le;have m4:=I2.capLe
 unfold maxLen at m2 m4
 go_enter Tryz.func147,Tryz.ntmps147
 go_wp2_with fail
 go_loopw [5] (fun i wr => ∃ k:Nat,k ≤ xs.length∧k ≤ ys.length∧i = .int .i64 k∧cmpL xs ys = cmpL (xs.drop k) (ys.drop k)∧∃ n,wr = w.drewN n) (fun i _ => xs.length - (intOf i).toNat)
 case atStart => exact ⟨0,Nat.zero_le _,Nat.zero_le _,rfl,by simp,0,rfl⟩
 case round =>
  obtain ⟨k,hk,hk2,rfl,he,n,rfl⟩:=hrel
  have He:=Lib.hid he
  clear he
  by_cases hlt:k < xs.length
  ·obtain ⟨b1,o1,rfl,hb1,hc1⟩:=I1.get hlt
   have g1:=hc1 k hlt
   clear hc1
   by_cases hlt2:k < ys.length
   ·obtain ⟨b2,o2,rfl,hb2,hc2⟩:=I2.get hlt2
    have g2:=hc2 k hlt2
    clear hc2
    have hs:=cmpL_step hlt hlt2
    by_cases e1:xs[k] = ys[k]
    ·have hne:(xs[k] != ys[k]) = false:=by simp [e1]
     rw [if_neg (by omega),if_neg (by omega)] at hs
     have Hs:=Lib.hid hs
     clear hs e1
     go_wp2_with fail
     go_quiet (fail)
     go_wp2_with fail
     go_roundw
     case rel => exact ⟨k + 1,by omega,by omega,by go_num,by rw [He.out,Hs.out],(by first|exact drewN1 _ _|exact drewN2 _ _ _)⟩
     case measure => simp [intOf];omega
    ·have hne:(xs[k] != ys[k]) = true:=by simp [e1]
     have hr:decide (cmpL xs ys < 0) = decide (xs[k] < ys[k]):=by
      rw [He.out,hs]
      by_cases l1:xs[k] < ys[k]
      ·rw [if_pos l1,decide_eq_true l1];rfl
      ·rw [if_neg l1,if_pos (by omega),decide_eq_false l1];rfl
     have Hr:=Lib.hid hr
     clear hs hr e1
     go_wp2_with fail
     go_quiet (fail)
     go_wp2_with fail
     go_quiet (fail)
     go_wp2_with fail
     go_ret
     exact ⟨by (rw [Hr.out] <;> rfl),(by first|exact drewN1 _ _|exact drewN2 _ _ _|exact drewN3 _ _ _ _)⟩
   ·have hr:decide (cmpL xs ys < 0) = false:=by rw [He.out,cmpL_endR hlt (by omega)];rfl
    have hf:((xs.length:Int) < (ys.length:Int)) = False:=by simp;omega
    go_wp2_with fail
    go_ret
    exact ⟨by rw [hr];simp <;> omega,(by first|exact drewN1 _ _|exact drewN2 _ _ _)⟩
  ·by_cases hlt2:k < ys.length
   ·have hr:decide (cmpL xs ys < 0) = true:=by rw [He.out,cmpL_endL (by omega) hlt2];rfl
    go_wp2_with fail
    go_ret
    exact ⟨by rw [hr];simp <;> omega,(by first|exact drewN1 _ _|exact drewN2 _ _ _)⟩
   ·have hr:decide (cmpL xs ys < 0) = false:=by rw [He.out,cmpL_end0 (by omega) (by omega)];rfl
    go_wp2_with fail
    go_ret
    exact ⟨by rw [hr];simp <;> omega,(by first|exact drewN1 _ _|exact drewN2 _ _ _)⟩
set_option maxRecDepth 100000 in
set_option maxHeartbeats 400000 in
theorem c_spec_l03Before (v1 v2:Value) (xs ys:List Int) (w:World) (h1:Rd (RS RI) w [v1] xs) (h2:Rd (RS RI) w [v2] ys) :
  Calls Tryz.prog 167 #[v1,v2] w (RetQ w (.bool (decide (cmpT xs ys < 0)))):=by
 obtain ⟨oa,c1,e1,m1,m2⟩:=h1.val
 obtain ⟨ob,c2,e2,m3,m4⟩:=h2.val
 subst e1;subst e2
 unfold maxLen at m2 m4
 by_cases hl:xs.length = ys.length
 ·have hlb:((xs.length:Int) != (ys.length:Int)) = false:=by simp [hl]
  have Hl:=Lib.hid hl
  clear hl
  go_enter Tryz.func167,Tryz.ntmps167
  go_wp2_with (go_at_call 147;refine (c_spec_l01Less _ _ _ _ _ h2 h1).mono ?_;rintro e w' ⟨rfl,n,rfl⟩)
  go_ret
  exact ⟨by (unfold cmpT;rw [if_pos Hl.out] <;> rfl),(by first|exact drewN1 _ _|exact drewN2 _ _ _)⟩
 ·have hlb:((xs.length:Int) != (ys.length:Int)) = true:=by simp;omega
  go_enter Tryz.func167,Tryz.ntmps167
  go_wp2_with fail
  go_ret
  refine ⟨?_,0,rfl⟩
  unfold cmpT;rw [if_neg hl]
  have e:decide ((xs.length:Int) - ys.length < 0) = decide (xs.length < ys.length):=by rw [decide_eq_decide];omega
  rw [e] <;> rfl
theorem Row.cells_ints {w:World} {xs:List Int} {oa:Option Addr} {cap:Nat} {v:Value} (I:Ints w v xs oa cap):∀ a,oa = some a→∀ j u,(xs.map (Value.int .i64))[j]? = some u→w.cell? (a.add j) = some u:=by
 intro a ha j u hj
 rcases I.row with h|⟨b,off,e,hb,hc⟩
 ·subst h;simp at hj
 ·rw [ha] at e;cases e
  rw [List.getElem?_map] at hj
  obtain ⟨hlt,hv⟩:∃ h:j < xs.length,Value.int .i64 xs[j] = u:=by
   by_cases h:j < xs.length
   ·rw [List.getElem?_eq_getElem h] at hj;simp at hj;exact ⟨h,hj⟩
   ·rw [List.getElem?_eq_none (by omega)] at hj;simp at hj
  rw [Addr.add_lit,hc j hlt,hv]
set_option maxRecDepth 100000 in
set_option maxHeartbeats 400000 in
theorem c_spec_l01Own (v:Value) (xs:List Int) (w:World) (h:Rd (RS RI) w [v] xs) (hsz:xs.length ≤ 1000000000) :
  Calls Tryz.prog 145 #[v] w (RetO (RS RI) w xs):=by
 obtain ⟨oa,c1,I1⟩:=h.ints
 obtain rfl:=I1.val
 have m1:=I1.le;have m2:=I1.capLe
 unfold maxLen at m2
 have hnone:oa = none→xs.length = 0:=fun e => by have:=I1.noneCap e;omega
 have I2:Ints (w.alloc (.cells #[] 2)) (.slice oa xs.length c1) xs oa c1:=by
  refine ⟨rfl,m1,I1.capLe,I1.noneCap,I1.bd,?_⟩
  rcases I1.row with h|⟨b,off,e,hb,hc⟩
  ·exact .inl h
  ·refine .inr ⟨b,off,e,by simp;omega,fun j hj => ?_⟩
   rw [World.cell?_alloc_lt _ _ _ hb];exact hc j hj
 have hrow:=Row.lit w #[] 2 1 0 (by decide) (by simp)
 have HI:=Lib.hid I2
 have HR:=Lib.hid hrow
 clear I2 hrow
 go_enter Tryz.func145,Tryz.ntmps145
 go_wp2_with (at_builtin;refine wpList_appendS rfl _ _ 24 rfl 2 (.int .i64 0) 1 8 tI64 (.slice (some ⟨w.heap.size,0,none⟩) 0 0) 0 [] (some w.heap.size) rfl (by simpa using HR.out) oa xs.length c1 (xs.map (Value.int .i64)) rfl (by simp) hnone (Row.cells_ints HI.out) (by intro u hu;obtain ⟨x,_,rfl⟩:=List.mem_map.1 hu;rfl) (by omega) (by unfold maxLen;omega) ?_;intro v' w' og' happ;refine Stop.out ?_)
 rw [Nat.zero_add,List.nil_append] at happ
 obtain ⟨a1,a2,a3⟩:=happ
 have hbel:Below w.heap.size w w':=((Below.refl w.heap.size w).alloc (Nat.le_refl _) (.cells #[] 2)).trans (Below.of_grown a2 (by simp) (fun g hg => by cases hg;exact Nat.le_refl _))
 have hown:Own (RS RI) w.heap.size w'.heap.size w' [v'] xs:=by
  refine Row.OwnI (by simpa using a1) I1.bd (fun g hg => ?_)
  rcases a3 with a3|⟨b,a3,hb⟩
  ·rw [hg] at a3;cases a3;exact Nat.le_refl _
  ·rw [hg] at a3;cases a3;simp at hb;omega
 have HO:=Lib.hid hown
 obtain ⟨oa',cap',rfl,_⟩:=hown.val
 clear hown a1 a2 a3
 refine Stop.go ?_
 go_wp2_with fail
 go_ret
 exact ⟨_,rfl,HO.out,hbel⟩
end Go.Proofs.YtgngidchldajhaaGreat
namespace Go.Proofs.YtgngidchldajhaaGreat
open Go.RowKit
theorem StopAt {P:Program} {ops:Array Oper} {rest:List Oper} {o:Oper} {a:Act} {w:World} {Q:Exit→Act→World→Prop} (h:Stop (wpList P ops Q (o :: rest) a w)):wpList P ops Q (o :: rest) a w:=h
theorem enters {P:Program} {f:FuncId} {fn:Func} {c:Code} (hf:P.funcs[f]? = some fn) (hname:(fn.name == "runtime.NumGoroutine") = false) (hb:fn.body = some c):∀ args w,(callFunc f args).run P w = .ok (.enter f args) w :=
 enters_of hf hname hb
structure Lists {β:Type} (S:Rep β) (w:World) (v:Value) (xss:List (List β)) (oa:Option Addr) (cap:Nat):Prop where
 val:v = .slice oa xss.length cap
 le:xss.length ≤ cap
 capLe:cap ≤ 9223372036854775807
 noneCap:oa = none→cap = 0
 row:xss = [] ∨ ∃ b off,oa = some ⟨b,off,none⟩∧b < w.heap.size∧∀ j (h:j < xss.length),∃ oi ci,w.cell? ⟨b,off + j,none⟩ = some (.slice oi xss[j].length ci)∧Rd (RS S) w [.slice oi xss[j].length ci] xss[j]∧xss[j].length ≤ ci∧ci ≤ 9223372036854775807
theorem Rd.lists {β:Type} {S:Rep β} {w:World} {v:Value} {xss:List (List β)} (h:Rd (RS (RS S)) w [v] xss):∃ oa cap,Lists S w v xss oa cap:=by
 obtain ⟨oa,cap,ds,h1,h2,h3,h4,h5,h6⟩:=h
 refine ⟨oa,cap,by simpa using h1,h2,by unfold maxLen at h3;omega,h4,?_⟩
 rcases h6 with h6|⟨b,off,e,hb,hc⟩
 ·left
  have:=h5.len
  rw [h6] at this
  exact List.eq_nil_of_length_eq_zero (by simpa [show (RS S).k = 1 from rfl] using this.symm)
 ·refine .inr ⟨b,off,e,hb,fun j hj => ?_⟩
  obtain ⟨c,k1,k2⟩:=h5.get j hj
  have hl:=(RS S).rd_len k1
  match c,hl with
  | [u],_ =>
   obtain ⟨oi,ci,e2,e3,e4⟩:=Rd.val (R:=S) (v:=u) k1
   subst e2
   refine ⟨oi,ci,hc j _ ?_,k1,e3,by unfold maxLen at e4;omega⟩
   have:=k2 0 _ rfl
   simpa [show (RS S).k = 1 from rfl] using this
theorem Lists.get {β:Type} {S:Rep β} {w:World} {v:Value} {xss:List (List β)} {oa:Option Addr} {cap:Nat} (h:Lists S w v xss oa cap) {k:Nat} (hk:k < xss.length) :
  ∃ b off,oa = some ⟨b,off,none⟩∧b < w.heap.size∧∀ j (h:j < xss.length),∃ oi ci,w.cell? ⟨b,off + j,none⟩ = some (.slice oi xss[j].length ci)∧Rd (RS S) w [.slice oi xss[j].length ci] xss[j]∧xss[j].length ≤ ci∧ci ≤ 9223372036854775807:=by
 rcases h.row with h|h
 ·subst h;exact absurd hk (Nat.not_lt_zero _)
 ·exact h
section
variable {α:Type} {R:Rep α} {w:World}
theorem Appended.low {w w':World} {v':Value} {k n:Nat} {ds:List Value} {og og':Option Nat} {B:Nat} (h:Appended w w' v' k n ds og og') (hB:B ≤ w.heap.size) (hog:∀ g,og = some g→B ≤ g) :
  (∀ g,og' = some g→B ≤ g)∧Below B w w':=by
 refine ⟨fun g hg => ?_,h.below hB hog⟩
 rcases h.2.2 with h3|⟨b,h3,hb⟩
 ·exact hog g (by rw [← h3];exact hg)
 ·rw [hg] at h3;cases h3;omega
theorem Own.rebuild {w w':World} {v:Value} {xs:List α} {ds:List Value} {F:List Nat} {og:Option Nat} {lo:Nat} (hel:ownL R w ds xs F) (hF:F.Nodup) (hlt:∀ b,b ∈ F→lo ≤ b)
  (hb:Below w.heap.size w w') (hrow:Row w' v R.k xs.length ds og) (hog:∀ g,og = some g→w.heap.size ≤ g) (hlo:lo ≤ w.heap.size):Own (RS R) lo w'.heap.size w' [v] xs:=by
 refine Own.mk' hrow (hel.frame fun b hbm => hb.block b (hel.lt b hbm)) ?_ ?_
 ·refine List.nodup_append.2 ⟨by cases og <;> simp,hF,fun b hb1 b' hb2 e => ?_⟩
  subst e
  have:=hog b (by simpa using hb1)
  have:=hel.lt b hb2
  omega
 ·intro b hbm
  rcases List.mem_append.1 hbm with hbm|hbm
  ·have e:og = some b:=by simpa using hbm
   exact ⟨Nat.le_trans hlo (hog b e),hrow.lt b e⟩
  ·exact ⟨hlt b hbm,Nat.lt_of_lt_of_le (hel.lt b hbm) hb.size⟩
theorem Own.setElem {v:Value} {xs:List α} {lo hi:Nat} (h:Own (RS R) lo hi w [v] xs) (hk:R.k = 1) (i:Nat) (hi':i < xs.length) :
  ∃ g cap a,v = .slice (some ⟨g,0,none⟩) xs.length cap∧xs.length ≤ cap∧cap ≤ 9223372036854775807∧lo ≤ g∧g < hi∧g < w.heap.size∧w.cell? ⟨g,i,none⟩ = some a∧Own R lo hi w [a] xs[i] ∧
   ∀ (w1:World) (y:α) (u:Value) (M hi2:Nat),Own R M hi2 w1 [u] y→hi ≤ M→M ≤ hi2→Below hi w w1→w1.cell? ⟨g,i,none⟩ = some a∧w1.frozen? ⟨g,i,none⟩ = false∧Own (RS R) lo hi2 (w1.setCell ⟨g,i,none⟩ u) [v] (xs.set i y)∧Chg lo hi w1 (w1.setCell ⟨g,i,none⟩ u):=by
 obtain ⟨og,ds,F,hrow,hel,hF,hlt⟩:=h.open
 obtain ⟨g,rfl⟩:=hrow.some_of hi'
 obtain ⟨cap,hv,hc1,hc2⟩:=hrow.slice
 obtain ⟨d1,c0,d2,F1,G,F2,rfl,rfl,hd1,hL1,hx,hL2⟩:=hel.split i hi'
 have la:=R.rd_len (R.own_rd hx)
 rw [hk] at la hd1
 rw [Nat.mul_one] at hd1
 match c0,la with
 | [a],_ =>
  have hg:=hlt g (by simp)
  have hgs:=hrow.lt g rfl
  have hcell:w.cell? ⟨g,i,none⟩ = some a:=hrow.cells i a (by rw [List.getElem?_append_right (by omega),hd1];simp)
  refine ⟨g,cap,a,hv,hc1,by unfold maxLen at hc2;omega,hg.1,hg.2,hgs,hcell,⟨G,hx,?_,fun b hb => hlt b (by simp [hb])⟩,?_⟩
  ·exact (List.nodup_append.1 (List.nodup_append.1 (List.nodup_append.1 hF).2.1).2.1).1
  intro w1 y u M hi2 hy hiM hM2 hbel
  obtain ⟨Gy,hGy,hGyn,hGyl⟩:=hy
  have hrow1:Row w1 v R.k xs.length (d1 ++ ([a] ++ d2)) (some g):=hrow.frame (fun g' hg' => by cases hg';exact hbel.block g hg.2)
  obtain ⟨s1,r1⟩:=hrow1.store i u
  have hset:(d1 ++ ([a] ++ d2)).set i u = d1 ++ ([u] ++ d2):=by
   rw [List.set_append_right _ _ (by omega),hd1,Nat.sub_self];rfl
  rw [hset] at s1
  have hne:∀ z,z ∈ F1 ++ (G ++ F2)→z ≠ g:=by
   intro z hz e;subst e
   exact (List.nodup_append.1 hF).2.2 z (by simp) z hz rfl
  have hfr:∀ z,z ∈ F1 ++ (G ++ F2)→(w1.setCell ⟨g,i,none⟩ u).heap[z]? = w.heap[z]?:=by
   intro z hz
   rw [heap_setCell_other _ ⟨g,i,none⟩ z u (hne z hz)]
   exact hbel.block z (hlt z (List.mem_append_right _ hz)).2
  have hGf:∀ z,z ∈ Gy→(w1.setCell ⟨g,i,none⟩ u).heap[z]? = w1.heap[z]?:=by
   intro z hz
   have:=(hGyl z hz).1
   exact heap_setCell_other _ ⟨g,i,none⟩ z u (by show z ≠ g;omega)
  have hjoin:=ownL.join (R:=R) hi' (hL1.frame fun z hz => hfr z (by simp [hz])) (R.own_frame hGy hGf) (hL2.frame fun z hz => hfr z (by simp [hz]))
  refine ⟨hrow1.cells i a (by rw [List.getElem?_append_right (by omega),hd1];simp),hrow1.frozen i,?_,Chg.of_grown r1 (fun z hz => by cases hz;exact hg)⟩
  refine Own.mk' (og:=some g) (ds:=d1 ++ ([u] ++ d2)) (by rw [List.length_set];exact s1) hjoin ?_ ?_
  ·have hb:(F1 ++ F2).Nodup:=(List.nodup_append.1 hF).2.1.sublist (List.Sublist.append (List.Sublist.refl _) (List.sublist_append_right _ _))
   have hb1:=List.nodup_append.1 hb
   have hab:∀ z,z ∈ Gy→z ∉ F1 ++ F2∧z ≠ g:=by
    intro z hz
    have h1:=(hGyl z hz).1
    refine ⟨fun hm => ?_,by omega⟩
    have:=(hlt z (by
     rcases List.mem_append.1 hm with hm|hm
     ·simp [hm]
     ·simp [hm])).2
    omega
   simp only [Option.toList_some,List.singleton_append,List.nodup_cons]
   constructor
   ·intro hm
    simp only [List.mem_append] at hm
    rcases hm with hm|hm|hm
    ·exact hne g (by simp [hm]) rfl
    ·exact (hab g hm).2 rfl
    ·exact hne g (by simp [hm]) rfl
   ·refine List.nodup_append.2 ⟨hb1.1,List.nodup_append.2 ⟨hGyn,hb1.2.1,fun z hz z' hz' e => ?_⟩,fun z hz z' hz' e => ?_⟩
    ·subst e;exact (hab z hz).1 (by simp [hz'])
    ·subst e
     rcases List.mem_append.1 hz' with hz'|hz'
     ·exact (hab z hz').1 (by simp [hz])
     ·exact hb1.2.2 z hz z hz' rfl
  ·intro z hz
   simp only [List.mem_append,Option.mem_toList,Option.some.injEq] at hz
   rcases hz with hz|hz|hz|hz
   ·subst hz;omega
   ·have:=hlt z (by simp [hz]);omega
   ·have:=hGyl z hz;omega
   ·have:=hlt z (by simp [hz]);omega
end
theorem Row.some_val {w:World} {k n:Nat} {ds:List Value} {og:Option Nat} {g m cap:Nat} (h:Row w (.slice (some ⟨g,0,none⟩) m cap) k n ds og):og = some g:=by
 rcases h.2 with ⟨e,_⟩|⟨g',c,cur,ty,e,rfl,_⟩
 ·cases e
 ·simp only [Value.slice.injEq,Option.some.injEq,Addr.mk.injEq,and_true] at e
  rw [e.1]
theorem Own.insRow {α:Type} {R:Rep α} {W:World} {xs:List α} {x:α} {u:Value} {lo M hi2 g cap:Nat} (ho:Own (RS R) lo M W [.slice (some ⟨g,0,none⟩) xs.length cap] xs) (hk:R.k = 1) (hM:M ≤ W.heap.size) (hlo:lo ≤ M)
  (hx:Own R M hi2 W [u] x) (j:Nat) (hj:j ≤ xs.length) :
  ∃ d1 d2,d1.length = j∧d2.length = xs.length - j∧(∀ u ∈ d1,u.oneCell' = true)∧(∀ u ∈ d2,u.oneCell' = true)∧u.oneCell' = true ∧
   (∀ w',Below W.heap.size W w'→(∀ i u,d1[i]? = some u→w'.cell? ⟨g,i,none⟩ = some u)∧(∀ i u,d2[i]? = some u→w'.cell? ⟨g,j + i,none⟩ = some u)) ∧
   (∀ w' v' og',Below W.heap.size W w'→Row w' v' 1 (xs.length + 1) (d1 ++ (u :: d2)) og'→(∀ b,og' = some b→W.heap.size ≤ b)→Own (RS R) lo w'.heap.size w' [v'] (xs.take j ++ x :: xs.drop j)):=by
 obtain ⟨og,ds,F,hrow,hel,hF,hlt⟩:=ho.open
 obtain rfl:=hrow.some_val
 have hel':=hel
 rw [← List.take_append_drop j xs] at hel'
 obtain ⟨d1,d2,F1,F2,rfl,rfl,h1,h2⟩:=ownL.unappend hel'
 obtain ⟨G,hG,hGn,hGl⟩:=hx
 have l1:d1.length = j:=by rw [h1.len,hk,List.length_take];omega
 have l2:d2.length = xs.length - j:=by rw [h2.len,hk,List.length_drop];omega
 refine ⟨d1,d2,l1,l2,h1.one,h2.one,R.rd_one (R.own_rd hG) u (by simp),fun w' hb => ?_,fun w' v' og' hb hr hog => ?_⟩
 ·have hg:=hrow.lt g rfl
  refine ⟨fun i u hi => ?_,fun i u hi => ?_⟩
  ·rw [hb.cell (p:=⟨g,i,none⟩) hg]
   exact hrow.cells i u (by rw [List.getElem?_append_left (List.getElem?_eq_some_iff.1 hi).1];exact hi)
  ·rw [hb.cell (p:=⟨g,j + i,none⟩) hg]
   refine hrow.cells (j + i) u ?_
   rw [List.getElem?_append_right (by omega),l1,show j + i - j = i by omega];exact hi
 ·have hn:=(List.nodup_append.1 hF).2.1
  have hn2:=List.nodup_append.1 hn
  refine Own.rebuild (w:=W) (ds:=d1 ++ (u :: d2)) (F:=F1 ++ (G ++ F2)) (h1.append ⟨[u],d2,G,F2,rfl,rfl,hG,h2⟩) ?_ ?_ hb ?_ hog (by omega)
  ·refine List.nodup_append.2 ⟨hn2.1,List.nodup_append.2 ⟨hGn,hn2.2.1,fun a ha b hb e => ?_⟩,fun a ha b hb e => ?_⟩
   ·subst e
    have:=hGl a ha;have:=hlt a (by simp [hb]);omega
   ·subst e
    rcases List.mem_append.1 hb with hb|hb
    ·have:=hGl a hb;have:=hlt a (by simp [ha]);omega
    ·exact hn2.2.2 a ha a hb rfl
  ·intro b hb
   simp only [List.mem_append] at hb
   rcases hb with hb|hb|hb
   ·exact (hlt b (by simp [hb])).1
   ·have:=(hGl b hb).1;omega
   ·exact (hlt b (by simp [hb])).1
  ·have e:(xs.take j ++ x :: xs.drop j).length = xs.length + 1:=by simp;omega
   rw [e,hk];exact hr
theorem ins_at {α:Type} {c:α→α→Int} {x:α}:∀ {l:List α} {k:Nat},k ≤ l.length→(∀ j (h:j < l.length),j < k→¬ c x l[j] < 0)→(∀ h:k < l.length,c x l[k] < 0)→ins c x l = l.take k ++ x :: l.drop k
 | [],k,_,_,_ => by simp [ins]
 | y :: l,0,_,_,h => by
  have:=h (by simp)
  simp only [List.getElem_cons_zero] at this
  simp [ins,this]
 | y :: l,k + 1,hk,h1,h2 => by
  have h0:=h1 0 (by simp) (by omega)
  simp only [List.getElem_cons_zero] at h0
  unfold ins
  rw [if_neg h0,ins_at (k:=k) (by simpa using hk) (fun j hj hjk => by have:=h1 (j + 1) (by simpa using hj) (by omega);simpa using this) (fun h => by have:=h2 (by simpa using h);simpa using this)]
  simp
end Go.Proofs.YtgngidchldajhaaGreat
namespace Go.Proofs.YtgngidchldajhaaGreat
open Go.RowKit
def CmpAsk (P:Program) (g:Nat) (c:List Int→List Int→Int) (ok:List Int→Prop):Prop :=
 ∀ (w:World) (h1 h2:Value) (x y:List Int),Rd (RS RI) w [h1] x→Rd (RS RI) w [h2] y→ok x→ok y→Calls P g #[h1,h2] w (RetS w (.int .i64 (c x y)))
theorem CmpAsk.q {P:Program} {g:Nat} {c:List Int→List Int→Int} {ok:List Int→Prop} (h:CmpAsk P g c ok) {w:World} {h1 h2:Value} {x y:List Int} (r1:Rd (RS RI) w [h1] x) (r2:Rd (RS RI) w [h2] y) (o1:ok x) (o2:ok y) (n:Nat) :
  Calls P g #[h1,h2] (w.drewN n) fun e w'' => e = .returned (.int .i64 (c x y))∧∃ m,w'' = w.drewN m :=
 Calls.qS (h (w.drewN n) h1 h2 x y (r1.of_heap rfl) (r2.of_heap rfl) o1 o2)
set_option maxHeartbeats 16000000 in
set_option maxRecDepth 1000000 in
theorem c_insertionSort (g:Nat) (c:List Int→List Int→Int) (hc:Cmp c) (ok:List Int→Prop) (eg:∀ args w,(callFunc g args).run Tryz.prog w = .ok (.enter g args) w) (hcmp:CmpAsk Tryz.prog g c ok)
  (a b:Nat) (v:Value) (xs:List (List Int)) (lo hi:Nat) (w:World) (ho:Own (RS (RS RI)) lo hi w [v] xs) (hok:∀ x ∈ xs,ok x) (hab:a ≤ b) (hb:b ≤ xs.length) (hsz:xs.length ≤ 1000000000) :
  Calls Tryz.prog 247 #[v,.int .i64 a,.int .i64 b,.func (.func g) #[] #[]] w fun e w' => e = .returned (.tuple #[])∧∃ ys,PermIn a b xs ys∧SegOk c a b ys∧Own (RS (RS RI)) lo hi w' [v] ys∧Chg lo hi w w':=by
 obtain ⟨oa,cap,rfl,hv1,hv2⟩:=ho.val
 have mixed:Tryz.prog.follows Departure.mixedOrders = true:=by kernel_rfl
 have HC:=Lib.hid hc
 have HQ:=Lib.hid hcmp
 have HK:=Lib.hid hok
 have S0:Hid (Own (RS (RS RI)) lo hi w [.slice oa xs.length cap] xs):=ho
 clear hc hcmp hok ho
 go_enter Tryz.func247,Tryz.ntmps247
 go_wp2_with fail
 go_loopg [8] (b - a) (fun g1 vi wr => ∃ (i:Nat) (ys:List (List Int)),vi = .int .i64 i∧a < i∧i ≤ b + 1∧b + 1 - i ≤ g1 + 1∧Hid (PermIn a b xs ys∧SegOk c a i ys∧Own (RS (RS RI)) lo hi wr [.slice oa xs.length cap] ys∧Chg lo hi w wr))
 case atStart => exact ⟨a + 1,xs,by go_num,by omega,by omega,by omega,Lib.hid ⟨PermIn.refl _ _ _,fun p q _ _ h1 h2 h3 => by omega,S0.out,Chg.refl _ _ _⟩⟩
 case round =>
  clear S0
  obtain ⟨i,ys,rfl,hai,hib,hg1,HO⟩:=hrel
  by_cases hlt:i < b
  ·have hltz:(i:Int) < (b:Int):=by omega
   have HO2:Hid (PermIn a b xs ys∧SinkOk c a i i ys∧Own (RS (RS RI)) lo hi wr [.slice oa xs.length cap] ys∧Chg lo hi w wr):=Lib.hid ⟨HO.out.1,HO.out.2.1.sink,HO.out.2.2.1,HO.out.2.2.2⟩
   clear HO
   go_wp2_with fail
   go_loopg [9] i (fun g2 vj wr2 => ∃ (j:Nat) (zs:List (List Int)),vj = .int .i64 j∧a ≤ j∧j ≤ i∧j ≤ g2∧Hid (PermIn a b xs zs∧SinkOk c a i j zs∧Own (RS (RS RI)) lo hi wr2 [.slice oa xs.length cap] zs∧Chg lo hi w wr2))
   case atStart => exact ⟨i,ys,rfl,by omega,Nat.le_refl _,Nat.le_refl _,HO2⟩
   case round =>
    clear HO2
    obtain ⟨j,zs,rfl,haj,hji,hg2,HJ⟩:=hrel
    have hzl:zs.length = xs.length:=HJ.out.1.len
    have hjl:j < zs.length:=by omega
    by_cases hja:a < j
    ·have hjaz:(a:Int) < (j:Int):=by omega
     obtain ⟨jp,hjp⟩:∃ q,q + 1 = j:=⟨j - 1,by omega⟩
     subst hjp
     have hjad:decide ((jp:Int) + 1 > (a:Int)) = true:=decide_eq_true (by omega)
     have hjaz':(a:Int) < (jp:Int) + 1:=by omega
     obtain ⟨gb,cap',u1,u2,hv,_,_,hgb,k1,k2,f1,f2,r1,r2,k3,hsw,hch⟩:=HJ.out.2.2.1.swap (R:=RS RI) rfl jp (jp + 1) (Nat.lt_succ_self _) hjl
     rw [hzl] at hv
     simp only [Value.slice.injEq,true_and] at hv
     obtain ⟨rfl,rfl⟩:=hv
     have hq:=HQ.out.q r2 r1 (HK.out _ (HJ.out.1.perm.mem_iff.1 (List.getElem_mem _))) (HK.out _ (HJ.out.1.perm.mem_iff.1 (List.getElem_mem _)))
     have ea:((jp:Int) + 1).toNat = jp + 1:=by omega
     have pa:(0:Int) ≤ (jp:Int) + 1:=by omega
     have ba:(jp:Int) + 1 < (xs.length:Int):=by omega
     have ra:IntKind.i64.wrap ((jp:Int) + 1) = (jp:Int) + 1:=by rw [IntKind.wrap_i64];omega
     have ec:((jp:Int)).toNat = jp:=by omega
     have pc:(0:Int) ≤ (jp:Int):=by omega
     have bc:(jp:Int) < (xs.length:Int):=by omega
     have rc:IntKind.i64.wrap ((jp:Int)) = (jp:Int):=by rw [IntKind.wrap_i64];omega
     obtain ⟨d,hd⟩:∃ d,d = c zs[jp + 1] zs[jp]:=⟨_,rfl⟩
     rw [← hd] at hq
     have S3:Hid (Own (RS (RS RI)) lo hi (((wr.setCell ⟨gb,jp + 1,none⟩ u1).setCell ⟨gb,jp,none⟩ u2)) [.slice (some ⟨gb,0,none⟩) xs.length cap] (swpL zs jp (jp + 1))∧Chg lo hi wr ((wr.setCell ⟨gb,jp + 1,none⟩ u1).setCell ⟨gb,jp,none⟩ u2)):=Lib.hid ⟨hsw,hch⟩
     obtain ⟨o1,p1,rfl,_⟩:=r1.val
     obtain ⟨o2,p2,rfl,_⟩:=r2.val
     obtain ⟨l1,hl1⟩:∃ l,l = zs[jp].length:=⟨_,rfl⟩
     obtain ⟨l2,hl2⟩:∃ l,l = zs[jp + 1].length:=⟨_,rfl⟩
     rw [← hl1] at hq k1 k3 S3
     rw [← hl2] at hq k2 S3
     clear hsw hch r1 r2 hl1 hl2
     by_cases hlv:d < 0
     ·have hdd:decide (d < 0) = true:=decide_eq_true hlv
      have HD:=Lib.hid hd
      clear hd
      go_wp2_with fail
      go_quiet ((go_at_fn g;exact hq _))
      clear hq
      have k1':(wr.drewN nq).cell? ⟨gb,jp,none⟩ = some (.slice o1 l1 p1):=k1
      have k2':(wr.drewN nq).cell? ⟨gb,jp + 1,none⟩ = some (.slice o2 l2 p2):=k2
      have k3':((wr.drewN nq).setCell ⟨gb,jp + 1,none⟩ (.slice o1 l1 p1)).cell? ⟨gb,jp,none⟩ = some (.slice o1 l1 p1):=k3
      have f1':(wr.drewN nq).frozen? ⟨gb,jp,none⟩ = false:=f1
      have f2':(wr.drewN nq).frozen? ⟨gb,jp + 1,none⟩ = false:=f2
      have S4:Hid (Own (RS (RS RI)) lo hi ((((wr.drewN nq).setCell ⟨gb,jp + 1,none⟩ (.slice o1 l1 p1)).setCell ⟨gb,jp,none⟩ (.slice o2 l2 p2))) [.slice (some ⟨gb,0,none⟩) xs.length cap] (swpL zs jp (jp + 1))∧Chg lo hi w (((wr.drewN nq).setCell ⟨gb,jp + 1,none⟩ (.slice o1 l1 p1)).setCell ⟨gb,jp,none⟩ (.slice o2 l2 p2))):=Lib.hid ⟨S3.out.1.of_heap rfl,(HJ.out.2.2.2.trans S3.out.2).of_heap rfl rfl rfl rfl⟩
      clear k1 k2 k3 f1 f2 S3
      generalize wr.drewN nq = w2 at k1' k2' k3' f1' f2' S4 ⊢
      clear nq
      go_wp2_with fail
      go_big_region_o
      clear k1' k2' k3' f1' f2'
      go_wp2_with fail
      go_roundg jp
      case measure => omega
      case rel =>
       refine ⟨jp,swpL zs jp (jp + 1),by first|rfl|go_num|(congr 1;omega),by omega,by omega,Nat.le_refl _,Lib.hid ⟨HJ.out.1.trans (PermIn.swp zs jp (jp + 1) (Nat.lt_succ_self _) hjl (by omega) (by omega)),?_,S4.out.1.of_heap rfl,S4.out.2.of_heap rfl rfl rfl rfl⟩⟩
       exact HJ.out.2.1.swap (by omega) hji hjl (by have:=HD.out;simp only [Nat.add_sub_cancel];omega)
     ·have hdd:decide (d < 0) = false:=decide_eq_false hlv
      have HD:=Lib.hid hd
      clear hd
      go_wp2_with fail
      go_quiet ((go_at_fn g;exact hq _))
      go_wp2_with fail
      go_roundg (b - (i + 1))
      case measure => omega
      case rel =>
       refine ⟨i + 1,zs,by go_num,by omega,by omega,by omega,Lib.hid ⟨HJ.out.1,?_,HJ.out.2.2.1.of_heap rfl,HJ.out.2.2.2.of_heap rfl rfl rfl rfl⟩⟩
       exact HJ.out.2.1.done HC.out hjl (.inr (by have:=HD.out;simp only [Nat.add_sub_cancel];omega)) hji
    ·have hjaz:¬ (a:Int) < (j:Int):=by omega
     have hjad:decide ((j:Int) > (a:Int)) = false:=decide_eq_false (by omega)
     go_wp2_with fail
     go_quiet (fail)
     go_wp2_with fail
     go_roundg (b - (i + 1))
     case measure => omega
     case rel =>
      refine ⟨i + 1,zs,by go_num,by omega,by omega,by omega,Lib.hid ⟨HJ.out.1,?_,HJ.out.2.2.1.of_heap rfl,HJ.out.2.2.2.of_heap rfl rfl rfl rfl⟩⟩
      exact HJ.out.2.1.done HC.out hjl (.inl (by omega)) hji
  ·go_wp2_with fail
   go_end0
   refine ⟨rfl,ys,HO.out.1,fun p q hp hq h1 h2 h3 => HO.out.2.1 p q hp hq h1 h2 (by omega),HO.out.2.2.1,HO.out.2.2.2⟩
end Go.Proofs.YtgngidchldajhaaGreat
namespace Go.Proofs.YtgngidchldajhaaGreat
open Go.RowKit
def Sorts (c:List Int→List Int→Int) (v:Value) (xs:List (List Int)) (lo hi:Nat) (w:World):Ending→World→Prop :=
 fun e w' => e = .returned (.tuple #[])∧Own (RS (RS RI)) lo hi w' [v] (sortC c xs)∧Chg lo hi w w'
set_option maxRecDepth 100000 in
set_option maxHeartbeats 1000000 in
theorem c_bitsLen64 (n:Nat) (hn:n ≤ 12) (w:World):Calls Tryz.prog 236 #[.int .u64 n] w fun e w' => (∃ k:Int,e = .returned (.int .i64 k))∧w = w':=by
 have h:n = 0 ∨ n = 1 ∨ n = 2 ∨ n = 3 ∨ n = 4 ∨ n = 5 ∨ n = 6 ∨ n = 7 ∨ n = 8 ∨ n = 9 ∨ n = 10 ∨ n = 11 ∨ n = 12:=by omega
 rcases h with rfl|rfl|rfl|rfl|rfl|rfl|rfl|rfl|rfl|rfl|rfl|rfl|rfl
 all_goals
  go_enter Tryz.func236,Tryz.ntmps236
  go_wp2_with fail
  go_ret
  exact ⟨⟨_,rfl⟩,rfl⟩
set_option maxRecDepth 100000 in
set_option maxHeartbeats 1000000 in
theorem c_bitsLen (n:Nat) (hn:n ≤ 12) (w:World):Calls Tryz.prog 175 #[.int .u64 n] w fun e w' => (∃ k:Int,e = .returned (.int .i64 k))∧w = w':=by
 have hb:=c_bitsLen64 n hn
 go_enter Tryz.func175,Tryz.ntmps175
 go_wp2_with (go_at_call 236;refine (hb _).mono ?_;rintro e w' ⟨⟨k,rfl⟩,rfl⟩)
 go_ret
 exact ⟨⟨_,rfl⟩,rfl⟩
set_option maxRecDepth 100000 in
set_option maxHeartbeats 4000000 in
theorem c_pdqsort (g:Nat) (c:List Int→List Int→Int) (hc:Cmp c) (ok:List Int→Prop) (eg:∀ args w,(callFunc g args).run Tryz.prog w = .ok (.enter g args) w) (hcmp:CmpAsk Tryz.prog g c ok)
  (v:Value) (xs:List (List Int)) (k:Int) (lo hi:Nat) (w:World) (ho:Own (RS (RS RI)) lo hi w [v] xs) (hok:∀ x ∈ xs,ok x) (hsz:xs.length ≤ 12) :
  Calls Tryz.prog 213 #[v,.int .i64 0,.int .i64 xs.length,.int .i64 k,.func (.func g) #[] #[]] w (Sorts c v xs lo hi w):=by
 have hi:=c_insertionSort g c hc ok eg hcmp 0 xs.length v xs lo hi w ho hok (Nat.zero_le _) (Nat.le_refl _) (by omega)
 have HC:=Lib.hid hc
 clear hcmp hok ho eg hc
 go_enter Tryz.func213,Tryz.ntmps213
 go_wp2_with fail
 go_loopw [1,2] (fun a b wr => a = .int .i64 0∧b = .int .i64 xs.length∧wr = w) (fun _ _ _ => 0)
 case atStart => exact ⟨rfl,rfl,rfl⟩
 case round =>
  obtain ⟨rfl,rfl,rfl⟩:=hrel
  go_wp2_with (go_at_call 247;refine hi.mono ?_;rintro e w' ⟨rfl,ys,h1,h2,h3,h4⟩)
  go_end0
  refine ⟨rfl,?_,h4⟩
  rw [← sortC_unique HC.out h1.perm (h2.pairwise (by rw [h1.len];exact Nat.le_refl _))]
  exact h3
set_option maxRecDepth 100000 in
set_option maxHeartbeats 1000000 in
theorem c_SortFunc (g:Nat) (c:List Int→List Int→Int) (hc:Cmp c) (ok:List Int→Prop) (eg:∀ args w,(callFunc g args).run Tryz.prog w = .ok (.enter g args) w) (hcmp:CmpAsk Tryz.prog g c ok)
  (v:Value) (xs:List (List Int)) (lo hi:Nat) (w:World) (ho:Own (RS (RS RI)) lo hi w [v] xs) (hok:∀ x ∈ xs,ok x) (hsz:xs.length ≤ 12) :
  Calls Tryz.prog 151 #[v,.func (.func g) #[] #[]] w (Sorts c v xs lo hi w):=by
 obtain ⟨oa,cap,rfl,hv1,hv2⟩:=ho.val
 have hb:=c_bitsLen xs.length hsz
 have hp:=fun k => c_pdqsort g c hc ok eg hcmp _ xs k lo hi w ho hok hsz
 have hw:IntKind.u64.wrap (xs.length:Int) = xs.length:=by simp [IntKind.wrap,IntKind.bits,IntKind.signed];omega
 clear hcmp hok ho eg hc
 go_enter Tryz.func151,Tryz.ntmps151
 go_wp2_with (first|(go_at_call 175;refine (hb _).mono ?_;rintro e w' ⟨⟨k,rfl⟩,rfl⟩)|(go_at_call 213;refine (hp _).mono ?_;rintro e w' ⟨rfl,h1,h2⟩))
 go_end0
 exact ⟨rfl,h1,h2⟩
set_option maxRecDepth 100000 in
set_option maxHeartbeats 4000000 in
theorem c_stableCmp (g:Nat) (c:List Int→List Int→Int) (hc:Cmp c) (ok:List Int→Prop) (eg:∀ args w,(callFunc g args).run Tryz.prog w = .ok (.enter g args) w) (hcmp:CmpAsk Tryz.prog g c ok)
  (v:Value) (xs:List (List Int)) (lo hi:Nat) (w:World) (ho:Own (RS (RS RI)) lo hi w [v] xs) (hok:∀ x ∈ xs,ok x) (hsz:xs.length ≤ 19) :
  Calls Tryz.prog 212 #[v,.int .i64 xs.length,.func (.func g) #[] #[]] w (Sorts c v xs lo hi w):=by
 have hi:=c_insertionSort g c hc ok eg hcmp 0 xs.length v xs lo hi w ho hok (Nat.zero_le _) (Nat.le_refl _) (by omega)
 have HC:=Lib.hid hc
 clear hcmp hok ho eg hc
 go_enter Tryz.func212,Tryz.ntmps212
 go_wp2_with fail
 go_loopw [7,8] (fun a b wr => a = .int .i64 0∧b = .int .i64 20∧wr = w) (fun _ _ _ => 0)
 case atStart => exact ⟨rfl,rfl,rfl⟩
 case round =>
  obtain ⟨rfl,rfl,rfl⟩:=hrel
  go_wp2_with (go_at_call 247;refine hi.mono ?_;rintro e w' ⟨rfl,ys,h1,h2,h3,h4⟩)
  go_loopw [6] (fun a wr => a = .int .i64 20∧wr = w') (fun _ _ => 0)
  case atStart => exact ⟨rfl,rfl⟩
  case round =>
   obtain ⟨rfl,rfl⟩:=hrel
   go_wp2_with fail
   go_end0
   refine ⟨rfl,?_,h4⟩
   rw [← sortC_unique HC.out h1.perm (h2.pairwise (by rw [h1.len];exact Nat.le_refl _))]
   exact h3
set_option maxRecDepth 100000 in
set_option maxHeartbeats 1000000 in
theorem c_SortStable (g:Nat) (c:List Int→List Int→Int) (hc:Cmp c) (ok:List Int→Prop) (eg:∀ args w,(callFunc g args).run Tryz.prog w = .ok (.enter g args) w) (hcmp:CmpAsk Tryz.prog g c ok)
  (v:Value) (xs:List (List Int)) (lo hi:Nat) (w:World) (ho:Own (RS (RS RI)) lo hi w [v] xs) (hok:∀ x ∈ xs,ok x) (hsz:xs.length ≤ 19) :
  Calls Tryz.prog 149 #[v,.func (.func g) #[] #[]] w (Sorts c v xs lo hi w):=by
 obtain ⟨oa,cap,rfl,hv1,hv2⟩:=ho.val
 have hp:=c_stableCmp g c hc ok eg hcmp _ xs lo hi w ho hok hsz
 clear hcmp hok ho eg hc
 go_enter Tryz.func149,Tryz.ntmps149
 go_wp2_with (go_at_call 212;refine hp.mono ?_;rintro e w' ⟨rfl,h1,h2⟩)
 go_end0
 exact ⟨rfl,h1,h2⟩
end Go.Proofs.YtgngidchldajhaaGreat
