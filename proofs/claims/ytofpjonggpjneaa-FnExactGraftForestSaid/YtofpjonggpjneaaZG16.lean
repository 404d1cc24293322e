/- Lemmas (16). -/
import Derived.Test.YtofpjonggpjneaaZG0
import Derived.Test.YtofpjonggpjneaaZG1
import Derived.Test.YtofpjonggpjneaaZG2
import Derived.Test.YtofpjonggpjneaaZG3
import Derived.Test.YtofpjonggpjneaaZG14
import Derived.Test.YtofpjonggpjneaaZG15
set_option linter.unusedSimpArgs false
set_option linter.unusedVariables false
namespace Go.Proofs.Ytofpjonggpjneaa
open Go.RowKit
def slT2 (t:TypeId):Option TyI :=
 if t = 22 then some ⟨5,[.raw (.int .u8 0)],1⟩ else
 if t = 127 then some ⟨130,[.sl 1 [],.sl 1 [],.int 0],56⟩ else
 if t = 131 then some ⟨134,[.sl 1 [],.sl 1 [],.int 0],56⟩ else
 none
def slT (t:TypeId):Option TyI :=
 if t = 24 then some ⟨2,[.int 0],8⟩ else
 if t = 108 then some ⟨3,[.int 0],8⟩ else
 if t = 30 then some ⟨24,[.sl 1 []],24⟩ else
 if t = 162 then some ⟨30,[.sl 1 []],24⟩ else
 if t = 146 then some ⟨108,[.sl 1 []],24⟩ else
 if t = 40 then some ⟨53,[.sl 1 [],.int 0],32⟩ else
 slT2 t
def tyT3 (t:TypeId):Option (List D × Bool) :=
 if t = 22 then some ([.sl 1 []],false) else
 none
def tyT2 (t:TypeId):Option (List D × Bool) :=
 if t = 127 then some ([.sl 3 []],false) else
 if t = 130 then some ([.sl 1 [],.sl 1 [],.int 0],true) else
 if t = 131 then some ([.sl 3 []],false) else
 if t = 134 then some ([.sl 1 [],.sl 1 [],.int 0],true) else
 tyT3 t
def tyT (t:TypeId):Option (List D × Bool) :=
 if t = 2 then some ([.int 0],false) else
 if t = 3 then some ([.int 0],false) else
 if t = 4 then some ([.bool false],false) else
 if t = 24 then some ([.sl 1 []],false) else
 if t = 108 then some ([.sl 1 []],false) else
 if t = 30 then some ([.sl 1 []],false) else
 if t = 162 then some ([.sl 1 []],false) else
 if t = 146 then some ([.sl 1 []],false) else
 if t = 40 then some ([.sl 2 []],false) else
 if t = 53 then some ([.sl 1 [],.int 0],true) else
 tyT2 t
def fsT (t:TypeId):Option (List (Nat × Nat)) :=
 if t = 53 then some [(0,1),(1,1)] else
 if t = 130 then some [(0,1),(1,1),(2,1)] else
 if t = 134 then some [(0,1),(1,1),(2,1)] else
 none
def cfg (n:Nat):Cfg:=⟨n,slT,tyT,fsT,fun t => t == 2 || t == 3⟩
def zvOf:Bool→List D→Value
 | true,z => .agg (z.map zval).toArray
 | false,z => zval (z.headD (.int 0))
theorem sl_ok {P:Program} {t:TypeId} {i:TyI} (h1:P.underlying t = some (.slice i.e)) (h2:(P.info? i.e).map (fun j => (j.zero,j.size,j.bytes)) = some (some (zvOf (decide (1 < i.z.length)) i.z),i.z.length,i.bytes))
  (h3:(zvOf (decide (1 < i.z.length)) i.z).cells.toList = i.z.map zval) (h4:i.z.all isZero = true) (h5:0 < i.z.length):∃ z:Value,ST P t i.e z i.z.length i.bytes∧ZeroOK z i.z :=
 ⟨_,ST.mk' h1 h2 (by rw [← Array.length_toList,h3,List.length_map]) h5,h3,h4⟩
theorem ty_ok {P:Program} {t:TypeId} {z:List D} {st:Bool} (h1:(P.info? t).map (fun i => (i.zero,i.size)) = some (some (zvOf st z),z.length)) (h2:(zvOf st z).cells.toList = z.map zval) (h3:z.all isZero = true) (h4:0 < z.length)
  (h5:(P.underlying t).map TypeDesc.isRow = some st) (h6:st = false→z.length = 1):∃ zv ti d,P.info? t = some ti∧ti.zero = some zv∧ti.size = z.length∧ZeroOK zv z∧0 < z.length∧P.underlying t = some d∧d.isRow = st∧(st = false→z.length = 1):=by
 obtain ⟨ti,k1,k2⟩:=map_some h1
 obtain ⟨d,k3,k4⟩:=map_some h5
 simp only [Prod.mk.injEq] at k2
 exact ⟨_,ti,d,k1,k2.1,k2.2,⟨h2,h3⟩,h4,k3,k4,h6⟩
theorem fs_ok {P:Program} {t:TypeId} {fs:List (Nat × Nat)} (h:(match P.underlying t with|some (.struct fields) => fields.toList.mapM (fun f => (P.info? f.type).map fun i => (f.offset,i.size))|_ => none) = some fs) (h2:∀ p ∈ fs,0 < p.2) :
  ∃ fields,P.underlying t = some (.struct fields)∧fields.toList.mapM (fun f => (P.info? f.type).map fun i => (f.offset,i.size)) = some fs∧∀ p ∈ fs,0 < p.2:=by
 split at h
 ·rename_i fields e
  exact ⟨fields,e,h,h2⟩
 ·cases h
theorem i64_a:Try.prog.underlying 2 = some (.int .i64):=by kernel_rfl
theorem i64_b:Try.prog.underlying 3 = some (.int .i64):=by kernel_rfl
set_option maxHeartbeats 2000000 in
theorem cfg_ok (n:Nat):CfgOK Try.prog (cfg n) where
 sl:=by
  intro t i h
  have h:slT t = some i:=h
  unfold slT at h
  split at h
  ·rename_i e;subst e;cases h;exact sl_ok (by kernel_rfl) (by kernel_rfl) (by rfl) (by rfl) (by decide)
  split at h
  ·rename_i e;subst e;cases h;exact sl_ok (by kernel_rfl) (by kernel_rfl) (by rfl) (by rfl) (by decide)
  split at h
  ·rename_i e;subst e;cases h;exact sl_ok (by kernel_rfl) (by kernel_rfl) (by rfl) (by rfl) (by decide)
  split at h
  ·rename_i e;subst e;cases h;exact sl_ok (by kernel_rfl) (by kernel_rfl) (by rfl) (by rfl) (by decide)
  split at h
  ·rename_i e;subst e;cases h;exact sl_ok (by kernel_rfl) (by kernel_rfl) (by rfl) (by rfl) (by decide)
  split at h
  ·rename_i e;subst e;cases h;exact sl_ok (by kernel_rfl) (by kernel_rfl) (by rfl) (by rfl) (by decide)
  have h:slT2 t = some i:=h
  unfold slT2 at h
  split at h
  ·rename_i e;subst e;cases h;exact sl_ok (by kernel_rfl) (by kernel_rfl) (by rfl) (by rfl) (by decide)
  split at h
  ·rename_i e;subst e;cases h;exact sl_ok (by kernel_rfl) (by kernel_rfl) (by rfl) (by rfl) (by decide)
  split at h
  ·rename_i e;subst e;cases h;exact sl_ok (by kernel_rfl) (by kernel_rfl) (by rfl) (by rfl) (by decide)
  cases h
 ty:=by
  intro t z st h
  have h:tyT t = some (z,st):=h
  have h3:∀ {t:TypeId} {z:List D} {st:Bool},tyT3 t = some (z,st)→∃ zv ti d,Try.prog.info? t = some ti∧ti.zero = some zv∧ti.size = z.length∧ZeroOK zv z∧0 < z.length∧Try.prog.underlying t = some d∧d.isRow = st∧(st = false→z.length = 1):=by
   intro t z st h
   unfold tyT3 at h
   repeat' split at h
   all_goals first
    | (cases h;done)
    | (rename_i e;subst e;cases h;exact ty_ok (by kernel_rfl) (by rfl) (by rfl) (by decide) (by kernel_rfl) (by decide))
  have h2:∀ {t:TypeId} {z:List D} {st:Bool},tyT2 t = some (z,st)→∃ zv ti d,Try.prog.info? t = some ti∧ti.zero = some zv∧ti.size = z.length∧ZeroOK zv z∧0 < z.length∧Try.prog.underlying t = some d∧d.isRow = st∧(st = false→z.length = 1):=by
   intro t z st h
   unfold tyT2 at h
   repeat' split at h
   all_goals first
    | (cases h;done)
    | (exact h3 h)
    | (rename_i e;subst e;cases h;exact ty_ok (by kernel_rfl) (by rfl) (by rfl) (by decide) (by kernel_rfl) (by decide))
  unfold tyT at h
  repeat' split at h
  all_goals first
   | (cases h;done)
   | (exact h2 h)
   | (rename_i e;subst e;cases h;exact ty_ok (by kernel_rfl) (by rfl) (by rfl) (by decide) (by kernel_rfl) (by decide))
 fs:=by
  intro t fs h
  have h:fsT t = some fs:=h
  unfold fsT at h
  repeat' split at h
  all_goals first
   | (cases h;done)
   | (rename_i e;subst e;cases h;exact fs_ok (by kernel_rfl) (by decide))
 i64:=by
  intro t h
  have h:(t == 2 || t == 3) = true:=h
  simp only [Bool.or_eq_true,beq_iff_eq] at h
  rcases h with rfl|rfl
  ·exact i64_a
  ·exact i64_b
def dL (xs:List Int):D:=.sl 1 (xs.map eI)
theorem rd_dL {A:Nat→Prop} {w:World} {v:Value} {xs:List Int}:rdV A w v (dL xs) ↔ (RS RI).rd A w [v] xs:=((encS encI).rdV (x:=xs) rfl).symm
end Go.Proofs.Ytofpjonggpjneaa
namespace Go.Proofs.Ytofpjonggpjneaa
open Go.RowKit
structure Cod (α:Type) where
 e:α→List D
 d:List D→Option α
 de:∀ x,d (e x) = some x
 ed:∀ c x,d c = some x→c = e x
def dI:List D→Option Int
 | [.int n] => some n
 | _ => none
def dB:List D→Option Bool
 | [.bool n] => some n
 | _ => none
theorem dI_spec {c:List D} {x:Int} (h:dI c = some x):c = eI x:=by
 unfold dI at h
 split at h
 ·cases h;rfl
 ·cases h
theorem dB_spec {c:List D} {x:Bool} (h:dB c = some x):c = eB x:=by
 unfold dB at h
 split at h
 ·cases h;rfl
 ·cases h
def codI:Cod Int:=⟨eI,dI,fun _ => rfl,fun _ _ => dI_spec⟩
def codB:Cod Bool:=⟨eB,dB,fun _ => rfl,fun _ _ => dB_spec⟩
def dAll {α:Type} (d:List D→Option α):List (List D)→Option (List α)
 | [] => some []
 | c :: cs => (d c).bind fun x => (dAll d cs).map fun xs => x :: xs
def dSl {α:Type} (k:Nat) (d:List D→Option α):List D→Option (List α)
 | [.sl j cs] => if j = k then dAll d cs else none
 | _ => none
theorem dAll_map {α:Type} {e:α→List D} {d:List D→Option α} (h:∀ x,d (e x) = some x):∀ xs:List α,dAll d (xs.map e) = some xs
 | [] => rfl
 | x :: xs => by simp only [List.map_cons,dAll,h,Option.bind_some,dAll_map h xs,Option.map_some]
theorem dAll_spec {α:Type} {e:α→List D} {d:List D→Option α} (h:∀ c x,d c = some x→c = e x):∀ {cs:List (List D)} {xs:List α},dAll d cs = some xs→cs = xs.map e
 | [],xs,hx => by simp only [dAll,Option.some.injEq] at hx;subst hx;rfl
 | c :: cs,xs,hx => by
  simp only [dAll] at hx
  obtain ⟨x,h1,hx⟩:=bind_some hx
  obtain ⟨ys,h2,rfl⟩:=map_some hx
  rw [h c x h1,dAll_spec h h2];rfl
def codS {α:Type} (k:Nat) (C:Cod α):Cod (List α):=⟨eS k C.e,dSl k C.d,fun xs => by
  show dSl k C.d [.sl k (xs.map C.e)] = some xs
  simp only [dSl,if_true,dAll_map C.de],fun c xs h => by
  unfold dSl at h
  split at h
  ·split at h
   ·rename_i e;subst e;rw [dAll_spec C.ed h];rfl
   ·cases h
  ·cases h⟩
def codP {α β:Type} (k:Nat) (C:Cod α) (D':Cod β) (hk:∀ x,(C.e x).length = k):Cod (α × β):=⟨eP C.e D'.e,fun c => (C.d (c.take k)).bind fun x => (D'.d (c.drop k)).map fun y => (x,y),fun x => by
  show (C.d ((C.e x.1 ++ D'.e x.2).take k)).bind (fun x_1 => (D'.d ((C.e x.1 ++ D'.e x.2).drop k)).map fun y => (x_1,y)) = _
  rw [List.take_left' (hk _),List.drop_left' (hk _),C.de,D'.de];rfl,fun c x h => by
  obtain ⟨a,h1,h⟩:=bind_some h
  obtain ⟨b,h2,rfl⟩:=map_some h
  show c = C.e a ++ D'.e b
  rw [← C.ed _ _ h1,← D'.ed _ _ h2,List.take_append_drop]⟩
def eL (xs:List Int):List D:=[.sl 1 (xs.map eI)]
def eLL (xs:List (List Int)):List D:=[.sl 1 (xs.map eL)]
def codL:Cod (List Int):=codS 1 codI
def codLL:Cod (List (List Int)):=codS 1 codL
def eCt (x:List Int × Int):List D:=[.sl 1 (x.1.map eI),.int x.2]
def codCt:Cod (List Int × Int):=codP 1 codL codI (fun _ => rfl)
theorem codL_d (xs:List Int):codL.d [.sl 1 (xs.map eI)] = some xs:=codL.de xs
theorem codLL_d (xs:List (List Int)):codLL.d [.sl 1 (xs.map eL)] = some xs:=codLL.de xs
theorem codI_d (x:Int):codI.d [.int x] = some x:=rfl
theorem codB_d (x:Bool):codB.d [.bool x] = some x:=rfl
theorem codCts_d (xs:List (List Int × Int)):(codS 2 codCt).d [.sl 2 (xs.map eCt)] = some xs:=(codS 2 codCt).de xs
def tab1 {α:Type} (A:Cod α) (f:α→Option (List Res)):List (List D)→Option (List Res)
 | [a] => (A.d a).bind f
 | _ => none
def tab2 {α β:Type} (A:Cod α) (B:Cod β) (f:α→β→Option (List Res)):List (List D)→Option (List Res)
 | [a,b] => (A.d a).bind fun x => (B.d b).bind (f x)
 | _ => none
def tab3 {α β γ:Type} (A:Cod α) (B:Cod β) (C:Cod γ) (f:α→β→γ→Option (List Res)):List (List D)→Option (List Res)
 | [a,b,c] => (A.d a).bind fun x => (B.d b).bind fun y => (C.d c).bind (f x y)
 | _ => none
theorem tab1_ok {P:Program} {g:FuncId} {α:Type} {A:Cod α} {f:α→Option (List Res)} (h:∀ x rs,f x = some rs→AFn P g [A.e x] (· = rs)) (ds:List (List D)) (rs:List Res) (e:tab1 A f ds = some rs):AFn P g ds (· = rs):=by
 unfold tab1 at e
 split at e
 ·obtain ⟨x,h1,h2⟩:=bind_some e
  rw [A.ed _ _ h1];exact h x rs h2
 ·cases e
theorem tab2_ok {P:Program} {g:FuncId} {α β:Type} {A:Cod α} {B:Cod β} {f:α→β→Option (List Res)} (h:∀ x y rs,f x y = some rs→AFn P g [A.e x,B.e y] (· = rs)) (ds:List (List D)) (rs:List Res) (e:tab2 A B f ds = some rs):AFn P g ds (· = rs):=by
 unfold tab2 at e
 split at e
 ·obtain ⟨x,h1,e⟩:=bind_some e
  obtain ⟨y,h2,e⟩:=bind_some e
  rw [A.ed _ _ h1,B.ed _ _ h2];exact h x y rs e
 ·cases e
theorem AFn.of_q {P:Program} {f:FuncId} {ds:List (List D)} {d:D} {v:Value} (eg:∀ args w,(callFunc f args).run P w = .ok (.enter f args) w) (hd:∀ A w,rdV A w v d)
  (h:∀ (w:World) (A:Nat→Prop) vs,relArgs A w ds vs→Calls P f vs.toArray w (RetQ w v)):AFn P f ds (· = [.val d]):=by
 refine ⟨eg,fun A w vs hA hv => (h w A vs hv).mono ?_⟩
 rintro e w' ⟨rfl,n,rfl⟩
 exact ⟨v,_,rfl,rfl,Below.drewN _ _ _,[v],[],[],rfl,List.nodup_nil,by simp,v,[],[],[],[],[],rfl,rfl,rfl,(hd (fun _ => True) w).one,⟨hd _ _,rfl,rfl⟩,rfl,rfl,rfl⟩
theorem AFn.of_s {P:Program} {f:FuncId} {ds:List (List D)} {d:D} {v:Value} (eg:∀ args w,(callFunc f args).run P w = .ok (.enter f args) w) (hd:∀ A w,rdV A w v d)
  (h:∀ (w:World) (A:Nat→Prop) vs,relArgs A w ds vs→Calls P f vs.toArray w (RetS w v)):AFn P f ds (· = [.val d]):=by
 refine ⟨eg,fun A w vs hA hv => (h w A vs hv).mono ?_⟩
 rintro e w' ⟨rfl,rfl⟩
 exact ⟨v,_,rfl,rfl,Below.refl _ _,[v],[],[],rfl,List.nodup_nil,by simp,v,[],[],[],[],[],rfl,rfl,rfl,(hd (fun _ => True) w).one,⟨hd _ _,rfl,rfl⟩,rfl,rfl,rfl⟩
theorem AFn.of_o {P:Program} {α:Type} {R:Rep α} {e:α→List D} (E:Enc R e) {f:FuncId} {ds:List (List D)} {xs:List α} (eg:∀ args w,(callFunc f args).run P w = .ok (.enter f args) w)
  (h:∀ (w:World) (A:Nat→Prop) vs,relArgs A w ds vs→Calls P f vs.toArray w (RetO (RS R) w xs)):AFn P f ds (· = [.own R.k (xs.map e) true]):=by
 refine ⟨eg,fun A w vs hA hv => (h w A vs hv).mono ?_⟩
 rintro e' w' ⟨v,rfl,⟨F,⟨v',og,ds',G,e1,hrow,hel,rfl⟩,hn,hlt⟩,hb⟩
 obtain rfl:v = v':=by simpa using e1
 obtain ⟨d,hel'⟩:=enc_ownL E hel
 obtain ⟨oa,c,ev,k1,k2,k3,k4⟩:=hrow.value
 have hv':v = slv og xs.length c:=by
  cases og with
  | none =>
   have h0:=hrow.len0
   have hoa:oa = none:=k4
   rw [ev,hoa,h0,k3 hoa];rfl
  | some g => rw [ev,k4];rfl
 refine ⟨v,_,rfl,rfl,hb,[v],og.toList ++ G,og.toList,rfl,hn,fun b hb' => (hlt b hb').1,v,[],og.toList ++ G,[],og.toList,[],rfl,by simp,by simp,by rw [ev];rfl,?_,rfl,rfl,rfl⟩
 exact ⟨og,c,G,ds',by rw [List.length_map];exact hv',by rw [List.length_map];exact hrow,R.kpos,rfl,rfl,d,R.kpos,hel'⟩
theorem big_le {n:Nat} (h:n ≤ 1000000000):(n ≤ 140737488355328) = True:=eq_true (by omega)
theorem big_mul {n c:Nat} (hc:c ≤ 100000) (h:n ≤ 1000000000):(n * c ≤ 140737488355328) = True :=
 eq_true (Nat.le_trans (Nat.mul_le_mul h hc) (by decide))
theorem map_get {α β:Type} {f:α→β} {xs:List α} {i:Nat} (h:i < xs.length):(xs.map f)[i]? = some (f xs[i]):=by
 rw [List.getElem?_map,List.getElem?_eq_getElem h];rfl
theorem w64_eq {n:Int} (h:-9223372036854775808 ≤ n∧n ≤ 9223372036854775807):w64 n = n:=by unfold w64;exact IntWalk.i64_in n h
theorem w64_succ {n:Nat} (h:n < 9223372036854775807):w64 ((n:Int) + 1) = ((n + 1:Nat):Int):=by rw [w64_eq (by omega)];rfl
theorem rd1 {A:Nat→Prop} {w:World} {xs:List Int} {v:Value} (h:relArg A w (eL xs) v):(RS RI).rd A w [v] xs:=rd_dL.1 h
end Go.Proofs.Ytofpjonggpjneaa
namespace Go.Proofs.Ytofpjonggpjneaa
open Go.RowKit
theorem OwnF.innerRow {w:World} {v:Value} {xss:List (List Int)} {F:List Nat} (h:OwnF (RS (RS RI)) F w [v] xss) (i:Nat) (hi:i < xss.length) :
  ∃ g cap h0 og,v = .slice (some ⟨g,0,none⟩) xss.length cap∧xss.length ≤ cap∧cap ≤ 9223372036854775807∧w.cell? ⟨g,i,none⟩ = some h0∧Row w h0 1 xss[i].length (xss[i].map (Value.int .i64)) og ∧
   ∀ (w':World) (ys:List Int),w.grownBy w' og→ys.length = xss[i].length→(∀ x ∈ ys,In64 x)→Row w' h0 1 ys.length (ys.map (Value.int .i64)) og→OwnF (RS (RS RI)) F w' [v] (xss.set i ys)∧ChgF F w w':=by
 have hlt:=h.lt
 have hnd:=h.2
 obtain ⟨g,cap,d1,c,d2,F1,G,F2,hv,hc1,hc2,rfl,hcl,hd1,hx,hrow,hK⟩:=h.lens i hi
 obtain ⟨h0,og,ds,G',rfl,hr0,hel0,rfl⟩:=hx
 obtain ⟨k1,k2,k3⟩:=ownL_ints hel0
 subst k1;subst k2
 have hd1':d1.length = i:=by rw [hd1];show i * 1 = i;omega
 have hcell:w.cell? ⟨g,i,none⟩ = some h0:=hrow.cells i h0 (by rw [List.getElem?_append_right (by omega),hd1'];simp)
 refine ⟨g,cap,h0,og,hv,hc1,hc2,hcell,hr0,fun w' ys hgr hyl hyb hr' => ?_⟩
 simp only [List.append_nil] at *
 have hn1:=List.nodup_cons.1 hnd
 have hog:∀ b,og = some b→b ≠ g∧b ∉ F1 ++ F2:=by
  intro b hb
  subst hb
  refine ⟨fun e => hn1.1 (by simp [← e]),fun hm => ?_⟩
  have h2:=List.nodup_append.1 hn1.2
  rcases List.mem_append.1 hm with hm|hm
  ·exact h2.2.2 b hm b (by simp) rfl
  ·exact (List.nodup_append.1 h2.2.1).2.2 b (by simp) b hm rfl
 have hgb:w'.heap[g]? = w.heap[g]?:=hgr.block g (hlt g (by simp)) (fun e => (hog g e.symm).1 rfl)
 have hrow1:Row w' v 1 xss.length (d1 ++ ([h0] ++ d2)) (some g):=hrow.frame (fun g' hg' => by cases hg';exact hgb)
 have hfr:∀ b,b ∈ F1 ++ F2→w'.heap[b]? = w.heap[b]?:=by
  intro b hm
  refine hgr.block b (hlt b ?_) (fun e => (hog b e.symm).2 hm)
  rcases List.mem_append.1 hm with hm|hm
  ·simp [hm]
  ·simp [hm]
 exact ⟨hK _ [h0] ys og.toList rfl (hr'.ownI hyb) hfr hrow1 hnd,(ChgF.of_grown hgr).mono (fun b hb => by simp [Option.mem_toList.1 hb])⟩
theorem markF_I (v:Value) (xs:List Int) (F:List Nat) (k:Int) (w:World) (h:OwnF (RS RI) F w [v] xs) (hk0:0 ≤ k) (hk:k + cnt_I xs ≤ 4611686018427387904) :
  Calls Try.prog 79 #[v,.int .i64 k] w fun e w' => e = .returned (.int .i64 (k + (cnt_I xs:Nat)))∧OwnF (RS RI) F w' [v] (mkd_I xs k)∧ChgF F w w':=by
 obtain ⟨⟨v',og,ds,F0,h1,hrow,hel,rfl⟩,hn⟩:=h
 simp only [List.cons.injEq,and_true] at h1
 subst h1
 obtain ⟨rfl,rfl,hb⟩:=ownL_ints hel
 refine (c_laws_markInt64S v xs.length xs og k w hrow hk0 hk).mono ?_
 rintro e w' ⟨h1,h2,h3⟩
 have h2':Row w' v 1 (marks xs.length k).length ((marks xs.length k).map (Value.int .i64)) og:=by rw [marks_length];exact h2
 have ho:=h2'.ownI (marks_in64 _ _ hk0 hk)
 simp only [List.append_nil] at hn ⊢
 exact ⟨h1,⟨ho,hn⟩,ChgF.of_grown h3⟩
end Go.Proofs.Ytofpjonggpjneaa
namespace Go.Proofs.Ytofpjonggpjneaa
open Go.RowKit
theorem mixed_ok:Try.prog.follows .mixedOrders = true:=by kernel_rfl
section
variable {P:Program} {f:FuncId}
theorem rdLL {A:Nat→Prop} {w:World} {xs:List (List Int)} {v:Value} (h:relArg A w (eLL xs) v):(RS (RS RI)).rd A w [v] xs:=((encS (encS encI)).rdV (x:=xs) rfl).2 h
theorem afn_L_s {t:List Int} {d:D} {v:Value} (eg:∀ args w,(callFunc f args).run P w = .ok (.enter f args) w) (hd:∀ A w,rdV A w v d) (h:∀ u w,Rd (RS RI) w [u] t→Calls P f #[u] w (RetS w v)):AFn P f [eL t] (· = [.val d]) :=
 AFn.of_s eg hd (fun w A vs ⟨v1,_,e1,h1,e2⟩ => by subst e2;subst e1;exact h v1 w (Rd.of (rd1 h1)))
theorem afn_L_q {t:List Int} {d:D} {v:Value} (eg:∀ args w,(callFunc f args).run P w = .ok (.enter f args) w) (hd:∀ A w,rdV A w v d) (h:∀ u w,Rd (RS RI) w [u] t→Calls P f #[u] w (RetQ w v)):AFn P f [eL t] (· = [.val d]) :=
 AFn.of_q eg hd (fun w A vs ⟨v1,_,e1,h1,e2⟩ => by subst e2;subst e1;exact h v1 w (Rd.of (rd1 h1)))
theorem afn_LL_q {s t:List Int} {d:D} {v:Value} (eg:∀ args w,(callFunc f args).run P w = .ok (.enter f args) w) (hd:∀ A w,rdV A w v d) (h:∀ u1 u2 w,Rd (RS RI) w [u1] s→Rd (RS RI) w [u2] t→Calls P f #[u1,u2] w (RetQ w v)):AFn P f [eL s,eL t] (· = [.val d]) :=
 AFn.of_q eg hd (fun w A vs ⟨v1,_,e1,h1,v2,_,e2,h2,e3⟩ => by subst e3;subst e2;subst e1;exact h v1 v2 w (Rd.of (rd1 h1)) (Rd.of (rd1 h2)))
theorem afn_L_o {t r:List Int} (eg:∀ args w,(callFunc f args).run P w = .ok (.enter f args) w) (h:∀ u w,Rd (RS RI) w [u] t→Calls P f #[u] w (RetO (RS RI) w r)):AFn P f [eL t] (· = [.own 1 (r.map eI) true]) :=
 AFn.of_o encI eg (fun w A vs ⟨v1,_,e1,h1,e2⟩ => by subst e2;subst e1;exact h v1 w (Rd.of (rd1 h1)))
theorem afn_LLL_oo {t r:List (List Int)} (eg:∀ args w,(callFunc f args).run P w = .ok (.enter f args) w) (h:∀ u w,Rd (RS (RS RI)) w [u] t→Calls P f #[u] w (RetO (RS (RS RI)) w r)):AFn P f [eLL t] (· = [.own 1 (r.map eL) true]) :=
 AFn.of_o (encS encI) eg (fun w A vs ⟨v1,_,e1,h1,e2⟩ => by subst e2;subst e1;exact h v1 w (Rd.of (rdLL h1)))
theorem afn_LLL_s {t:List (List Int)} {d:D} {v:Value} (eg:∀ args w,(callFunc f args).run P w = .ok (.enter f args) w) (hd:∀ A w,rdV A w v d) (h:∀ u w,Rd (RS (RS RI)) w [u] t→Calls P f #[u] w (RetS w v)):AFn P f [eLL t] (· = [.val d]) :=
 AFn.of_s eg hd (fun w A vs ⟨v1,_,e1,h1,e2⟩ => by subst e2;subst e1;exact h v1 w (Rd.of (rdLL h1)))
end
def Rg {α:Type} (R:Rep α) (lo hi:Nat) (w:World) (cs:List Value) (x:α):Prop:=R.rd (fun b => lo ≤ b∧b < hi) w cs x
theorem Rg.rd {α:Type} {R:Rep α} {lo hi:Nat} {w:World} {cs:List Value} {x:α} (h:Rg R lo hi w cs x):Rd R w cs x:=R.rd_mono h (fun _ _ h => h)
theorem Rg.frame {α:Type} {R:Rep α} {lo hi:Nat} {w w':World} {cs:List Value} {x:α} (h:Rg R lo hi w cs x) (hf:∀ b,lo ≤ b→b < hi→b < w.heap.size→w'.heap[b]? = w.heap[b]?):Rg R lo hi w' cs x:=R.rd_frame h (fun b hb hl => hf b hb.1 hb.2 hl)
theorem Rg.below {α:Type} {R:Rep α} {lo hi B:Nat} {w w':World} {cs:List Value} {x:α} (h:Rg R lo hi w cs x) (hb:Below B w w') (hB:hi ≤ B):Rg R lo hi w' cs x:=h.frame (fun b _ h2 _ => hb.block b (by omega))
theorem Rg.apart {α:Type} {R:Rep α} {w w':World} {cs:List Value} {x:α} {lo hi l h:Nat} (o:Rg R l h w cs x) (c:Chg lo hi w w') (ha:h ≤ lo ∨ hi ≤ l):Rg R l h w' cs x:=o.frame (fun b h1 h2 h3 => c.block b h3 (by omega))
def RetOI {α:Type} (R:Rep α) (w:World) (x:α) (c:Int):Ending→World→Prop:=fun e w' => ∃ u,e = .returned (.tuple #[u,.int .i64 c])∧Own R w.heap.size w'.heap.size w' [u] x∧Below w.heap.size w w'
def RetGI {α:Type} (R:Rep α) (w:World) (x:α) (c:Int):Ending→World→Prop:=fun e w' => ∃ u,e = .returned (.tuple #[u,.int .i64 c])∧Rg R 0 w'.heap.size w' [u] x∧Below w.heap.size w w'
section
variable {P:Program} {f:FuncId} {α:Type} {R:Rep α} {e:α→List D}
theorem AFn.oi (E:Enc R e) {ds:List (List D)} {xs:List α} {c:Int} (h:AFn P f ds (· = [.own R.k (xs.map e) true,.val (.int c)])) {w:World} {vs:List Value} (hv:relArgs (· < w.heap.size) w ds vs) :
  Calls P f vs.toArray w (RetOI (RS R) w xs c):=by
 refine (h.fn _ w vs (fun _ h => h) hv).mono ?_
 rintro e' w' ⟨v,rs,rfl,rfl,hb,us,G,X,rfl,hG,hG2,u,us',G1,G2,Y1,Y2,rfl,rfl,rfl,h1,⟨og,cap,F,dd,rfl,hrow,hk,rfl,rfl,hel⟩,u2,us2,G3,G4,Y3,Y4,rfl,rfl,rfl,h2,⟨h3,rfl,rfl⟩,rfl,rfl,rfl⟩
 obtain ⟨rfl,_⟩:=rdV_int.1 h3
 obtain ⟨d,hk',hel⟩:=hel
 simp only [List.length_map] at hrow
 have hel':=enc_ownL_of E hel
 refine ⟨_,rfl,⟨og.toList ++ F,⟨slv og xs.length cap,og,dd,F,by rw [List.length_map],hrow,hel',rfl⟩,?_,fun b hb' => ⟨hG2 b (by simpa using hb'),?_⟩⟩,hb⟩
 ·simpa using hG
 ·rcases List.mem_append.1 hb' with hb'|hb'
  ·exact hrow.lt b (by simpa using hb')
  ·exact hel'.lt b hb'
theorem AFn.gi (E:Enc R e) {ds:List (List D)} {xs:List α} {c:Int} {r:Res} (hr:r = .own R.k (xs.map e) true ∨ r = .own R.k (xs.map e) false ∨ r = .val (.sl R.k (xs.map e))) (h:AFn P f ds (· = [r,.val (.int c)])) {w:World} {vs:List Value} (hv:relArgs (· < w.heap.size) w ds vs) :
  Calls P f vs.toArray w (RetGI (RS R) w xs c):=by
 refine (h.fn _ w vs (fun _ h => h) hv).mono ?_
 rintro e' w' ⟨v,rs,rfl,rfl,hb,us,G,X,rfl,hG,hG2,u,us',G1,G2,Y1,Y2,rfl,rfl,rfl,h1,hr1,u2,us2,G3,G4,Y3,Y4,rfl,rfl,rfl,h2,⟨h3,rfl,rfl⟩,rfl,rfl,rfl⟩
 obtain ⟨rfl,_⟩:=rdV_int.1 h3
 refine ⟨u,rfl,?_,hb⟩
 have key:rdV (fun b => 0 ≤ b∧b < w'.heap.size) w' u (.sl R.k (xs.map e)):=by
  rcases hr with rfl|rfl|rfl
  ·obtain ⟨og,cap,F,dd,rfl,hrow,hk,_,_,hel⟩:=hr1
   have hel:ownR R.k w' dd (xs.map e) F:=hel
   have:=ownV_sl.2 ⟨og,dd,F,hrow,hel,rfl⟩
   exact this.rd.mono (fun b hb _ => ⟨Nat.zero_le _,this.lt b hb⟩)
  ·obtain ⟨og,cap,F,dd,rfl,hrow,hk,_,_,hel⟩:=hr1
   have hel:rdR R.k _ w' dd (xs.map e):=hel
   obtain ⟨oa,c',ev,k1,k2,k3,k4⟩:=hrow.value
   rw [ev]
   refine rdV_sl.2 ⟨oa,c',dd,rfl,k1,k2,k3,hel.mono (fun b _ hb => ⟨Nat.zero_le _,hb⟩),?_⟩
   cases og with
   | none =>
    left
    have h0:=hrow.len0
    exact List.eq_nil_of_length_eq_zero (by rw [hrow.1,h0,Nat.zero_mul])
   | some g =>
    refine .inr ⟨g,0,k4,⟨Nat.zero_le _,hrow.lt g rfl⟩,fun j u hj => ?_⟩
    rw [Nat.zero_add]
    exact hrow.cells j u hj
  ·exact hr1.1.mono (fun b _ hb => ⟨Nat.zero_le _,hb⟩)
 exact ((encS E).rdV (x:=xs) rfl).2 key
theorem AFn.one {ds:List (List D)} {v:Value} {d:D} (hd:∀ A w u,rdV A w u d→u = v) (h:AFn P f ds (· = [.val d])) {w:World} {vs:List Value} (hv:relArgs (· < w.heap.size) w ds vs) :
  Calls P f vs.toArray w (RetV w v):=by
 refine (h.fn _ w vs (fun _ h => h) hv).mono ?_
 rintro e' w' ⟨v',rs,rfl,rfl,hb,us,G,X,rfl,hG,hG2,u,us',G1,G2,Y1,Y2,rfl,rfl,rfl,h1,⟨h4,_,_⟩,rfl,rfl,rfl⟩
 rw [hd _ _ _ h4]
 exact ⟨rfl,hb⟩
theorem arg_L {w:World} {u:Value} {xs:List Int} (h:Rd (RS RI) w [u] xs):relArg (· < w.heap.size) w (eL xs) u:=rd_dL.2 h
theorem arg_LL {w:World} {u:Value} {xs:List (List Int)} (h:Rd (RS (RS RI)) w [u] xs):relArg (· < w.heap.size) w (eLL xs) u:=((encS (encS encI)).rdV (x:=xs) rfl).1 h
theorem args1 {w:World} {a:List D} {u:Value} (h:relArg (· < w.heap.size) w a u):relArgs (· < w.heap.size) w [a] [u]:=⟨u,[],rfl,h,rfl⟩
theorem args2 {w:World} {a b:List D} {u v:Value} (h:relArg (· < w.heap.size) w a u) (k:relArg (· < w.heap.size) w b v):relArgs (· < w.heap.size) w [a,b] [u,v]:=⟨u,[v],rfl,h,args1 k⟩
end
def eLT (p:List Int × List Nat):List D:=[.tag p.2 (.sl 1 (p.1.map eI))]
theorem tag_rows:∀ {rows:List (List Int)} {xs':List (List D)} {F:List Nat},TagL (rows.map eL) xs' F→∃ ps:List (List Int × List Nat),rows = ps.map (·.1)∧xs' = ps.map eLT∧F = (ps.map (·.2)).flatten
 | [],xs',F,⟨h1,h2⟩ => ⟨[],rfl,h1,h2⟩
 | r :: rows,xs',F,⟨y,ys,G,H,h1,h2,h3,h4⟩ => by
  obtain ⟨ps,e1,e2,e3⟩:=tag_rows h4
  obtain ⟨y',ys',G',H',k1,k2,k3,k4,k5⟩:=h3
  subst k4;subst k5
  rcases k3 with rfl|⟨k3,_⟩
  ·exact ⟨(r,G') :: ps,by rw [e1];rfl,by rw [h1,k1,e2];rfl,by rw [h2,k2,e3];simp⟩
  ·cases k3
end Go.Proofs.Ytofpjonggpjneaa
namespace Go.Proofs.Ytofpjonggpjneaa
open Go.RowKit
theorem a_l03Before (xs ys:List Int):AFn Try.prog 124 [eL xs,eL ys] (· = [.val (.bool (decide (cmpT xs ys < 0)))]) :=
 AFn.of_q (v:=.bool _) (enters_of Try.func124 rfl rfl) (fun _ _ => rdV_bool.2 rfl) (fun w A vs ⟨v1,_,e1,h1,v2,_,e2,h2,e3⟩ => by subst e3;subst e2;subst e1;exact c_spec_l03Before v1 v2 xs ys w (Rd.of (rd1 h1)) (Rd.of (rd1 h2)))
theorem a_l01Same (xs ys:List Int):AFn Try.prog 182 [eL xs,eL ys] (· = [.val (.bool (decide (xs = ys)))]) :=
 AFn.of_q (v:=.bool _) (enters_of Try.func182 rfl rfl) (fun _ _ => rdV_bool.2 rfl) (fun w A vs ⟨v1,_,e1,h1,v2,_,e2,h2,e3⟩ => by subst e3;subst e2;subst e1;exact c_spec_l01Same v1 v2 xs ys w (Rd.of (rd1 h1)) (Rd.of (rd1 h2)))
theorem a_l01Own (xs:List Int) (hsz:xs.length ≤ 1000000000):AFn Try.prog 164 [eL xs] (· = [.own 1 (xs.map eI) true]) :=
 AFn.of_o encI (enters_of Try.func164 rfl rfl) (fun w A vs ⟨v1,_,e1,h1,e2⟩ => by subst e2;subst e1;exact c_spec_l01Own v1 xs w (Rd.of (rd1 h1)) hsz)
theorem cmpT_in64 {xs ys:List Int} (h1:xs.length ≤ maxLen) (h2:ys.length ≤ maxLen):In64 (cmpT xs ys):=by
 unfold maxLen at h1 h2
 unfold cmpT In64
 have:=cmpL_range ys xs
 split <;> omega
theorem a_compareTrees (xs ys:List Int):AFn Try.prog 107 [eL xs,eL ys] (· = [.val (.int (cmpT xs ys))]):=by
 refine ⟨enters_of Try.func107 rfl rfl,fun A w vs hA ⟨v1,_,e1,h1,v2,_,e2,h2,e3⟩ => ?_⟩
 subst e3;subst e2;subst e1
 obtain ⟨oa,c1,k1,m1,m2⟩:=(Rd.of (rd1 h1)).val
 obtain ⟨ob,c2,k2,m3,m4⟩:=(Rd.of (rd1 h2)).val
 refine (c_impl_compareTrees v1 v2 xs ys w (Rd.of (rd1 h1)) (Rd.of (rd1 h2))).mono ?_
 rintro e w' ⟨rfl,rfl⟩
 exact ⟨_,_,rfl,rfl,Below.refl _ _,[_],[],[],rfl,List.nodup_nil,by simp,_,[],[],[],[],[],rfl,rfl,rfl,rfl,⟨rdV_int.2 ⟨rfl,cmpT_in64 (by omega) (by omega)⟩,rfl,rfl⟩,rfl,rfl,rfl⟩
theorem a_impl_IsLevels (t:List Int):AFn Try.prog 49 [eL t] (· = [.val (.bool (lev8 t))]):=afn_L_s (v:=.bool _) (enters_of Try.func49 rfl rfl) (fun _ _ => rdV_bool.2 rfl) (fun u w h => c_impl_IsLevels u t w h)
theorem a_spec_l03Is (t:List Int) (hsz:t.length ≤ 1048576):AFn Try.prog 110 [eL t] (· = [.val (.bool (lev8 t))]):=afn_L_q (v:=.bool _) (enters_of Try.func110 rfl rfl) (fun _ _ => rdV_bool.2 rfl) (fun u w h => c_spec_l03Is u t w h (by omega))
theorem a_slicesEqual (xs ys:List Int):AFn Try.prog 104 [eL xs,eL ys] (· = [.val (.bool (decide (xs = ys)))]):=afn_LL_q (v:=.bool _) (enters_of Try.func104 rfl rfl) (fun _ _ => rdV_bool.2 rfl) (fun u1 u2 w h1 h2 => c_slicesEqual u1 u2 xs ys w h1 h2)
theorem a_l03Canon (t:List Int) (h:LevP t) (hl:t.length ≤ 8):AFn Try.prog 112 [eL t] (· = [.own 1 ((canon t).map eI) true]) :=
 afn_L_o (enters_of Try.func112 rfl rfl) (fun u w h' => c_spec_l03Canon 8 u t w h' h hl (by omega))
theorem a_canonical (t:List Int) (h:LevP t) (hl:t.length ≤ 8):AFn Try.prog 105 [eL t] (· = [.own 1 ((canon t).map eI) true]) :=
 afn_L_o (enters_of Try.func105 rfl rfl) (fun u w h' => c_impl_canonical 8 u t w h' h hl (by omega))
theorem nodesB_in64 (f:List (List Int)):In64 (nodesB f):=by
 have:∀ (bs:List (List Int)) (a:Int),In64 a→In64 (bs.foldl (fun a b => wrap64 (a + (b.length:Int))) a):=by
  intro bs
  induction bs with
  | nil => intro a h;exact h
  | cons b bs ih => intro a _;exact ih _ (by show In64 (wrap64 (a + (b.length:Int)));unfold In64 wrap64;omega)
 exact this f 0 (by unfold In64;omega)
theorem a_nodesIn (f:List (List Int)):AFn Try.prog 128 [eLL f] (· = [.val (.int (nodesB f))]) :=
 afn_LLL_s (enters_of Try.func128 rfl rfl) (fun _ _ => rdV_int.2 ⟨rfl,nodesB_in64 f⟩) (fun u w h => c_impl_nodesIn u f w h)
theorem a_l03Nodes (f:List (List Int)):AFn Try.prog 137 [eLL f] (· = [.val (.int (nodesB f))]) :=
 afn_LLL_s (enters_of Try.func137 rfl rfl) (fun _ _ => rdV_int.2 ⟨rfl,nodesB_in64 f⟩) (fun u w h => c_spec_l03Nodes u f w h)
end Go.Proofs.Ytofpjonggpjneaa
namespace Go.Proofs.Ytofpjonggpjneaa
open Go.RowKit
theorem parents_take_succ (t:List Int) (k:Nat) (h:k < t.length):(parents t).take (k + 1) = (parents t).take k ++ [parAt t k]:=by
 rw [List.take_succ_eq_append_getElem (by rw [parents_len];exact h),parents_get t k h]
set_option maxRecDepth 100000 in
set_option maxHeartbeats 1000000 in
theorem c_impl_parentsOf (v:Value) (t:List Int) (w:World) (h:Rd (RS RI) w [v] t) (h8:lev8 t = true) :
  Calls Try.prog 171 #[v] w (RetO (RS RI) w (parents t)):=by
 have hl8:=lev8_len h8
 have hbd:=(lev8_lev h8).bd
 obtain ⟨oa,c1,I1⟩:=h.ints
 obtain rfl:=I1.val
 have m1:=I1.le;have m2:=I1.capLe
 unfold maxLen at m2
 have HI:=Lib.hid I1
 have HB:=Lib.hid hbd
 clear I1 h hbd h8
 go_enter Try.func171,Try.ntmps171
 go_wp2_with fail
 go_loopw [3,10] (fun o i wr => ∃ (k:Nat) (z:List Int),k ≤ t.length∧i = .int .i64 k∧Hid (z = (parents t).take k)∧Hid (z.length = k)∧(∃ oa cap,o = .slice oa z.length cap)∧Hid (Own (RS RI) w.heap.size wr.heap.size wr [o] z)∧Below w.heap.size w wr) (fun _ i _ => t.length - (intOf i).toNat)
 case atStart => exact ⟨0,[],Nat.zero_le _,rfl,Lib.hid rfl,Lib.hid rfl,⟨_,_,rfl⟩,Lib.hid ((Own.empty (R:=RI) (w:=w) 3 w.heap.size (Nat.le_refl _)).top _ (by simp)),(Below.refl _ _).alloc (Nat.le_refl _) _⟩
 case round =>
  obtain ⟨k,z,hk,rfl,hz,hzl,⟨o1,cap1,rfl⟩,hown,hbel⟩:=hrel
  have hsz1:=hbel.size
  obtain ⟨wo,hwo⟩:∃ wo:World,wo = wr:=⟨_,rfl⟩
  subst hwo
  by_cases hlt:k < t.length
  ·obtain ⟨b,off,rfl,hb,hc⟩:=HI.out.get hlt
   have HC:Hid (∀ j (h:j < t.length),wo.cell? ⟨b,off + j,none⟩ = some (.int .i64 t[j])):=Lib.hid (fun j hj => (hbel.cell (p:=⟨b,off + j,none⟩) hb).trans (hc j hj))
   have gk:=HC.out k hlt
   obtain ⟨x,hx⟩:∃ x:Int,x = t[k]'hlt:=⟨_,rfl⟩
   have hxb:=HB.out k hlt
   rw [← hx] at gk hxb
   obtain ⟨x1,x2⟩:=hxb
   have hnx:=parents_take_succ t k hlt
   have hpa:parAt t k = parS t (x - 1) k:=by unfold parAt;rw [getD_get hlt,← hx]
   rw [hpa,← hz.out] at hnx
   have HN:=Lib.hid hnx
   have hwk:IntKind.i64.wrap ((k:Int) - 1) = (k:Int) - 1:=IntWalk.i64_in _ (by omega)
   have hwx:IntKind.i64.wrap (x - 1) = x - 1:=IntWalk.i64_in _ (by omega)
   have HW:Hid (wo.heap.size = wo.heap.size):=Lib.hid rfl
   clear hc hx hnx hpa
   go_wp2_with fail
   go_loopw [6] (fun i wr => ∃ (q:Nat),q ≤ k∧i = .int .i64 ((q:Int) - 1)∧Hid (∀ p,q ≤ p→p < k→t.getD p 0 ≠ x - 1)∧wr = wo) (fun i _ => (intOf i + 1).toNat)
   case atStart => exact ⟨k,Nat.le_refl _,rfl,Lib.hid (fun p a b => by omega),rfl⟩
   case round =>
    obtain ⟨q,hq,rfl,hall,rfl⟩:=hrel
    by_cases hgo:0 < q∧t.getD (q - 1) 0 ≠ x - 1
    ·obtain ⟨hq0,hne⟩:=hgo
     obtain ⟨p,rfl⟩:∃ p,q = p + 1:=⟨q - 1,by omega⟩
     have hpt:p < t.length:=by omega
     have gp:=HC.out p hpt
     rw [Nat.add_sub_cancel,getD_get hpt] at hne
     obtain ⟨y,hy⟩:∃ y:Int,y = t[p]'hpt:=⟨_,rfl⟩
     rw [← hy] at gp hne
     have HALL:Hid (∀ r,p ≤ r→r < k→t.getD r 0 ≠ x - 1):=Lib.hid (by
      intro r a b'
      by_cases hr:r = p
      ·subst hr;rw [getD_get hpt,← hy];exact hne
      ·exact hall.out r (by omega) b')
     have e1:(((p + 1:Nat):Int) - 1) = (p:Int):=by omega
     have e2:(y != x - 1) = true:=by simp [hne]
     have i1:(0:Int) ≤ (p:Int):=by omega
     have i2:(p:Int) < (t.length:Int):=by omega
     have hwp:IntKind.i64.wrap ((p:Int) - 1) = (p:Int) - 1:=IntWalk.i64_in _ (by omega)
     rw [e1]
     clear hy e1 hne
     go_wp2_with fail
     go_roundw
     case rel => exact ⟨p,by omega,by go_num,HALL,by first|rfl|trivial⟩
     case measure => simp [intOf] <;> omega
    ·have hfin:Hid (parS t (x - 1) k = (q:Int) - 1):=Lib.hid (by
      rw [parS_skip t (x - 1) q k hq hall.out]
      cases q with
      | zero => simp [parS]
      | succ p =>
       have:t.getD p 0 = x - 1:=by
        refine Decidable.byContradiction fun h => hgo ⟨by omega,by simpa using h⟩
       unfold parS
       rw [if_pos this];omega)
     have hcase:(q = 0 ∨ ∃ p,q = p + 1∧∃ hp:p < t.length,t[p] = x - 1):=by
      cases q with
      | zero => exact .inl rfl
      | succ p =>
       have hpt:p < t.length:=by omega
       refine .inr ⟨p,rfl,hpt,?_⟩
       have:t.getD p 0 = x - 1:=by
        refine Decidable.byContradiction fun h => hgo ⟨by omega,by simpa using h⟩
       rwa [getD_get hpt] at this
     have hzb:z.length ≤ 8:=by rw [hzl.out];omega
     obtain ⟨r,hr⟩:∃ r:Int,r = (q:Int) - 1:=⟨_,rfl⟩
     have hrb:-1 ≤ r∧r ≤ 8:=by omega
     obtain ⟨r1,r2⟩:=hrb
     have HR:Hid (parS t (x - 1) k = r):=Lib.hid (by rw [hfin.out,hr])
     have gcase:(r = -1 ∨ ∃ p:Nat,r = p∧p < t.length∧wr.cell? ⟨b,off + p,none⟩ = some (.int .i64 (x - 1))):=by
      rcases hcase with h|⟨p,h1,h2,h3⟩
      ·exact .inl (by omega)
      ·exact .inr ⟨p,by omega,h2,by rw [HC.out p h2,h3]⟩
     rw [← hr]
     clear hgo hfin hcase hr
     rcases gcase with rfl|⟨p,rfl,hpt,gp⟩
     case' inr =>
      have i1:(0:Int) ≤ (p:Int):=by omega
      have i2:(p:Int) < (t.length:Int):=by omega
      have e2:(x - 1 != x - 1) = false:=by simp
     all_goals
      go_wp2_with (at_builtin;refine StopAt (o:=⟨some 33,_,_,_,_,_⟩) ?_)
      refine Stop.go ?_
      refine wpList_snoc (w:=wr) (R:=RI) rfl _ _ 108 rfl 3 (.int .i64 0) 1 8 tInt rfl (.slice o1 z.length cap1) z _ [.int .i64 _] w.heap.size wr.heap.size wr.heap.size rfl hown.out (Own.int ⟨by omega,by omega⟩) (Nat.le_refl _) hsz1 3 rfl rfl (by omega) (by omega) ?_
      intro oa1 cap1' w1 hown1 c1a c1b hbel1
      have hb3:=hbel.trans hbel1
      rw [← HR.out] at hown1
      obtain ⟨z',hz'⟩:∃ z',z' = z ++ [parS t (x - 1) k]:=⟨_,rfl⟩
      have HZ:Hid (z' = (parents t).take (k + 1)):=Lib.hid (by rw [hz',HN.out])
      have e1:z.length + 1 = z'.length:=by rw [hz'];simp
      have HZL:Hid (z'.length = k + 1):=Lib.hid (by rw [← e1,hzl.out])
      rw [← hz',e1] at hown1
      have HO1:Hid (Own (RS RI) w.heap.size w1.heap.size w1 [.slice oa1 z'.length cap1'] z'):=hown1
      rw [e1]
      clear hown1 hbel1 hown e1 hz'
      go_wp2_with fail
      go_roundw
      case rel => exact ⟨k + 1,z',by omega,by go_num,HZ,HZL,⟨_,_,rfl⟩,HO1,hb3⟩
      case measure => simp [intOf];omega
  ·have hfin:Hid (z = parents t):=Lib.hid (by rw [hz.out,List.take_of_length_le (by rw [parents_len];omega)])
   go_wp2_with fail
   go_ret
   exact ⟨_,rfl,hfin.out ▸ hown.out,hbel⟩
set_option maxRecDepth 100000 in
set_option maxHeartbeats 2000000 in
theorem c_impl_nearOf (v:Value) (t:List Int) (w:World) (h:Rd (RS RI) w [v] t) (h8:lev8 t = true) :
  Calls Try.prog 167 #[v] w (RetO (RS (RS RI)) w (nears t)):=by
 have hl8:=lev8_len h8
 have hpo:=fun (W:World) (hb:Below w.heap.size w W) => c_impl_parentsOf v t W (h.below hb (Nat.le_refl _)) h8
 obtain ⟨oa,c1,rfl,m1,m2⟩:=h.val
 unfold maxLen at m2
 have HP:=Lib.hid hpo
 have hpos:=(lev8_lev h8).pos
 clear h hpo h8
 go_enter Try.func167,Try.ntmps167
 go_wp2_with (at_make;refine wpList_makeRow rfl _ _ 146 rfl 108 (.slice none 0 0) 1 24 tIntS _ _ _ _ t.length rfl rfl rfl rfl (by omega) (by unfold maxLen;omega) ?_;rintro v1 w1 hrow0 hgr0 rfl)
 rw [madeCells_nils] at hrow0
 have hb0:Below w.heap.size w w1:=Below.of_grown hgr0 (Nat.le_refl _) (fun g hg => by cases hg)
 have HO:Hid (OwnF (RS (RS RI)) [w.heap.size] w1 [.slice (some ⟨w.heap.size,0,none⟩) t.length t.length] (List.replicate t.length [])):=Lib.hid ⟨⟨_,some w.heap.size,List.replicate t.length (.slice none 0 0),[],rfl,by rw [List.length_replicate];exact hrow0,ownL_nils t.length,rfl⟩,by simp⟩
 have hg1:=hrow0.lt w.heap.size rfl
 clear hrow0 hgr0
 go_wp2_with fail
 refine (HP.out w1 hb0).mono ?_
 rintro e w2 ⟨u,rfl,o2,b2⟩
 have hpl:=parents_len t
 obtain ⟨og,ds,Gp,hrowp,help,_,hlp⟩:=o2.open
 obtain ⟨rfl,rfl,hpb⟩:=ownL_ints help
 obtain ⟨gp,rfl⟩:=hrowp.some_of (j:=0) (by rw [hpl];exact hpos)
 obtain ⟨cp,rfl,n1,n2⟩:=hrowp.slice
 have hgp:=hlp gp (by simp)
 unfold maxLen at n2
 have hb2:=hb0.trans (b2.mono hb0.size)
 have HO2:Hid (OwnF (RS (RS RI)) [w.heap.size] w2 [.slice (some ⟨w.heap.size,0,none⟩) t.length t.length] (List.replicate t.length [])):=Lib.hid (HO.out.frame (fun b hb => b2.block b (by simp at hb;omega)))
 obtain ⟨pl,hpl'⟩:∃ pl,pl = (parents t).length:=⟨_,rfl⟩
 rw [← hpl'] at n1 hrowp
 rw [← hpl']
 have HROW:=Lib.hid hrowp
 have hpt:pl = t.length:=by rw [hpl',hpl]
 have HPT:=Lib.hid hpt
 have s1:=hb0.size
 have s2:=b2.size
 obtain ⟨q1,q2⟩:=hgp
 have HPB:=Lib.hid hpb
 have HPOS:=Lib.hid hpos
 clear HO o2 hpl hpl' hrowp help hlp hpt hpb
 go_wp2_with fail
 go_loopw [12] (fun i wr => ∃ (k:Nat) (F:List Nat),k ≤ pl∧i = .int .i64 k∧Hid (OwnF (RS (RS RI)) F wr [.slice (some ⟨w.heap.size,0,none⟩) t.length t.length] (nearTo t k))∧Hid (∀ b,b ∈ F→b = w.heap.size ∨ w2.heap.size ≤ b)∧Hid (ChgF [w.heap.size] w2 wr)) (fun i _ => pl - (intOf i).toNat)
 case atStart => exact ⟨0,_,Nat.zero_le _,rfl,HO2,Lib.hid (fun b hb => .inl (by simpa using hb)),Lib.hid (ChgF.refl _ _)⟩
 case round =>
  obtain ⟨k,F,hk,rfl,hown,hF,hch⟩:=hrel
  clear HO2
  have hszr:=hch.out.size
  by_cases hlt:k < pl
  ·have hlt2:k < t.length:=by rw [← HPT.out];exact hlt
   have hrw:Row wr (.slice (some ⟨gp,0,none⟩) pl cp) 1 pl ((parents t).map (Value.int .i64)) (some gp):=HROW.out.frame (fun g hg => by cases hg;exact hch.out.block gp q2 (by simp;omega))
   have gpc:wr.cell? ⟨gp,k,none⟩ = some (.int .i64 (parAt t k)):=hrw.cells k _ (by rw [List.getElem?_map,List.getElem?_eq_getElem (by rw [parents_len];exact hlt2),parents_get t k hlt2];rfl)
   have hpr:=parS_lt t (t.getD k 0 - 1) k
   have hst:nearTo t (k + 1) = nearStep (nearTo t k) k (parAt t k):=rfl
   obtain ⟨p,hp⟩:∃ p,p = parAt t k:=⟨_,rfl⟩
   have hpr2:-1 ≤ p∧p < k:=by rw [hp];exact hpr
   obtain ⟨p1,p2⟩:=hpr2
   rw [← hp] at gpc hst
   have hnl:=nearTo_len t k
   have hne:=nearTo_each t k
   obtain ⟨near,hnear⟩:∃ near,near = nearTo t k:=⟨_,rfl⟩
   have HST:=Lib.hid hst
   have i1:(0:Int) ≤ (k:Int):=by omega
   have i2:(k:Int) < (pl:Int):=by omega
   have i3:(k:Int) < (t.length:Int):=by omega
   rw [← hnear] at hnl hne
   have HN:=Lib.hid hnear
   have hown2:=hown.out
   rw [← hnear] at hown2
   clear hpr hp hst hnear hrw
   by_cases h0:0 ≤ p
   ·obtain ⟨q,rfl⟩:∃ q:Nat,p = q:=⟨p.toNat,by omega⟩
    obtain ⟨g,cap,hh,og1,hv,_,_,hgl,hcell,hrow1,hK⟩:=hown2.innerApp k (by omega)
    simp only [Value.slice.injEq,Option.some.injEq,Addr.mk.injEq,and_true] at hv
    obtain ⟨rfl,hv2⟩:=hv
    clear hv2
    obtain ⟨oh,ch,rfl,k1,k2⟩:=hrow1.val
    unfold maxLen at k2
    have hxl:near[k].length ≤ 16:=by have:=hne _ (List.getElem_mem (by omega:k < near.length));omega
    have HK:=Lib.hid hK
    have hq2:q < near.length:=by omega
    have j1:(0:Int) ≤ (q:Int):=by omega
    have j2:(q:Int) < (t.length:Int):=by omega
    obtain ⟨xk,hxk⟩:∃ xk,xk = near[k]'(by omega):=⟨_,rfl⟩
    have hxk2:near.set k (near.getD k [] ++ [(q:Int)]) = near.set k (xk ++ [(q:Int)]):=by rw [hxk];simp [List.getD_eq_getElem?_getD,show k < near.length by omega]
    rw [← hxk] at hrow1 hcell hxl HK k1
    have HR1:=Lib.hid hrow1
    have HXK:=Lib.hid hxk2
    have HNL:=Lib.hid hnl
    have HNE:=Lib.hid hne
    clear hK hrow1 hxk hxk2 hown2 hne hnl
    go_wp2_with (at_builtin;refine StopAt (o:=⟨some 27,_,_,_,_,_⟩) ?_)
    refine Stop.go ?_
    refine wpList_append1 (w:=wr) rfl _ _ 108 rfl 3 (.int .i64 0) 1 8 tInt (.slice oh xk.length ch) xk.length _ og1 rfl HR1.out 3 [.int .i64 (q:Int)] rfl rfl rfl (by simp [Value.oneCell']) (by omega) (by unfold maxLen;omega) ?_
    intro h1 wa oga happ
    obtain ⟨f1,f2,F1,hF1,hs1,hc1⟩:=HK.out (q:Int) h1 wa oga (by unfold In64;omega) happ
    obtain ⟨o1,ca1,rfl,_⟩:=happ.1.val
    have e1:(near.set k (xk ++ [(q:Int)])).length = t.length:=by rw [List.length_set];exact HNL.out
    obtain ⟨near1,hn1⟩:∃ near1,near1 = near.set k (xk ++ [(q:Int)]):=⟨_,rfl⟩
    rw [← hn1] at hF1 e1
    obtain ⟨W3,hW3⟩:∃ W3,W3 = wa.setCell ⟨w.heap.size,k,none⟩ (.slice o1 (xk.length + 1) ca1):=⟨_,rfl⟩
    have hx1:∀ x ∈ near1,x.length ≤ 17:=by
     intro x hx
     rw [hn1] at hx
     rcases List.mem_or_eq_of_mem_set hx with hx|rfl
     ·have:=HNE.out x hx;omega
     ·rw [List.length_append,List.length_singleton];omega
    rw [← hW3] at hF1 hc1
    obtain ⟨g,cap,hh,og2,hv,_,_,hgl2,hcell2,hrow2,hK2⟩:=hF1.innerApp q (by omega)
    simp only [Value.slice.injEq,Option.some.injEq,Addr.mk.injEq,and_true] at hv
    obtain ⟨rfl,hv2⟩:=hv
    clear hv2
    obtain ⟨oy,cy,rfl,y1,y2⟩:=hrow2.val
    unfold maxLen at y2
    have hyl:near1[q].length ≤ 17:=by have:=hx1 _ (List.getElem_mem (by omega:q < near1.length));omega
    obtain ⟨xq,hxq⟩:∃ xq,xq = near1[q]'(by omega):=⟨_,rfl⟩
    have hxq2:near1.set q (near1.getD q [] ++ [(k:Int)]) = near1.set q (xq ++ [(k:Int)]):=by rw [hxq];simp [List.getD_eq_getElem?_getD,show q < near1.length by omega]
    rw [← hxq] at hrow2 hcell2 hyl hK2 y1
    have HK2:=Lib.hid hK2
    have HR2:=Lib.hid hrow2
    have HXQ:=Lib.hid hxq2
    have HN1:=Lib.hid hn1
    have HS1:=Lib.hid hs1
    have HC1:=Lib.hid hc1
    have hqk:¬ q = k:=by omega
    have hcell3:wa.cell? ⟨w.heap.size,q,none⟩ = some (.slice oy xq.length cy):=by
     rw [hW3] at hcell2
     have hne':(⟨w.heap.size,k,none⟩:Addr) ≠ ⟨w.heap.size,q,none⟩:=by intro h;injection h;omega
     exact (World.cell?_setCell_other wa _ _ _ hne').symm.trans hcell2
    have HW3:=Lib.hid hW3
    clear happ hF1 hs1 hc1 hK2 hrow2 hxq hxq2 hn1 e1 hx1 hW3
    go_wp2_with (at_builtin;refine StopAt (o:=⟨some 37,_,_,_,_,_⟩) ?_)
    refine Stop.go ?_
    obtain rfl:=HW3.out
    refine wpList_append1 (w:=wa.setCell ⟨w.heap.size,k,none⟩ (.slice o1 (xk.length + 1) ca1)) rfl _ _ 108 rfl 3 (.int .i64 0) 1 8 tInt (.slice oy xq.length cy) xq.length _ og2 rfl HR2.out 3 [.int .i64 (k:Int)] (H:=wa.heap.size) rfl (World.size_setCell ..).symm rfl (by simp [Value.oneCell']) (by omega) (by unfold maxLen;omega) ?_
    intro h2 wb ogb happ2
    obtain ⟨f3,f4,F2,hF2,hs2,hc2⟩:=HK2.out (k:Int) h2 wb ogb (by unfold In64;omega) happ2
    obtain ⟨o2,ca2,rfl,_⟩:=happ2.1.val
    have HFB:Hid (∀ b,b ∈ F2→b = w.heap.size ∨ w2.heap.size ≤ b):=Lib.hid (fun b hb => by
     rcases hs2 b hb with hb|hb
     ·rcases HS1.out b hb with hb|hb
      ·exact hF.out b hb
      ·right;omega
     ·have:=HC1.out.size;right;omega)
    have HCH:Hid (ChgF [w.heap.size] w2 (wb.setCell ⟨w.heap.size,q,none⟩ (.slice o2 (xq.length + 1) ca2))):=Lib.hid ((hch.out.trans' HC1.out (fun x hx => by
      rcases hF.out x hx with h|h
      ·exact .inl (by simp [h])
      ·exact .inr h)).trans' hc2 (fun x hx => by
      rcases HS1.out x hx with h|h
      ·rcases hF.out x h with h|h
       ·exact .inl (by simp [h])
       ·exact .inr h
      ·exact .inr (by omega)))
    have HFIN:Hid (OwnF (RS (RS RI)) F2 (wb.setCell ⟨w.heap.size,q,none⟩ (.slice o2 (xq.length + 1) ca2)) [.slice (some ⟨w.heap.size,0,none⟩) t.length t.length] (nearTo t (k + 1))):=Lib.hid (by
     rw [HST.out]
     unfold nearStep
     rw [if_pos j1,← HN.out,HXK.out,← HN1.out,Int.toNat_natCast,HXQ.out]
     exact hF2)
    clear happ2 hF2 hs2 hc2
    go_wp2_with fail
    go_roundw
    case rel => exact ⟨k + 1,F2,by omega,by go_num,HFIN,HFB,HCH⟩
    case measure => simp [intOf] <;> omega
   ·obtain rfl:p = -1:=by omega
    have HFIN:Hid (OwnF (RS (RS RI)) F wr [.slice (some ⟨w.heap.size,0,none⟩) t.length t.length] (nearTo t (k + 1))):=Lib.hid (by
     rw [HST.out]
     unfold nearStep
     rw [if_neg (by omega)]
     exact hown.out)
    clear h0 hown2 hnl hne
    go_wp2_with fail
    go_roundw
    case rel => exact ⟨k + 1,F,by omega,by go_num,HFIN,hF,hch⟩
    case measure => simp [intOf] <;> omega
  ·have HFIN:Hid (Own (RS (RS RI)) w.heap.size wr.heap.size wr [.slice (some ⟨w.heap.size,0,none⟩) t.length t.length] (nears t)):=Lib.hid (by
    have h1:=hown.out
    rw [show k = t.length by have:=HPT.out;omega] at h1
    refine OwnF.to h1 (fun b hb => ⟨?_,h1.lt b hb⟩)
    rcases hF.out b hb with h|h <;> omega)
   have hbf:Below w.heap.size w wr:=hb2.trans (hch.out.below (by omega) (fun b hb => by simp at hb;omega))
   go_wp2_with fail
   go_ret
   exact ⟨_,rfl,HFIN.out,hbf⟩
end Go.Proofs.Ytofpjonggpjneaa
namespace Go.Proofs.Ytofpjonggpjneaa
open Go.RowKit
theorem sumLen_sublist {l m:List (List Int)} (h:l.Sublist m):sumLen l ≤ sumLen m:=by
 induction h with
 | slnil => exact Nat.le_refl _
 | cons a _ ih => simp only [sumLen,List.map_cons,List.sum_cons] at *;omega
 | cons_cons a _ ih => simp only [sumLen,List.map_cons,List.sum_cons] at *;omega
theorem len_le_sumLen:∀ bs:List (List Int),(∀ b ∈ bs,LevP b)→bs.length ≤ sumLen bs:=by
 intro bs
 induction bs with
 | nil => intro _;simp [sumLen]
 | cons b bs ih =>
  intro hb
  have:=ih (fun c hc => hb c (by simp [hc]))
  have:=(hb b (by simp)).pos
  simp only [sumLen,List.map_cons,List.sum_cons,List.length_cons] at *
  omega
def seen (f:Nat) (near:List (List Int)) (root from':Int) (xs:List Int):List (List Int):=(xs.filter fun x => decide (x ≠ from')).map fun x => treeF f near x root
theorem seen_lev (f:Nat) (near:List (List Int)) (root from':Int) (xs:List Int):∀ b ∈ seen f near root from' xs,LevP b:=by
 intro b hb
 obtain ⟨x,_,rfl⟩:=List.mem_map.1 hb
 exact (treeF_both f near x root).1
theorem seen_take (f:Nat) (near:List (List Int)) (root from':Int) (xs:List Int) (k:Nat):(seen f near root from' (xs.take k)).Sublist (seen f near root from' xs) :=
 (((List.take_sublist k xs).filter _).map _)
theorem seen_succ (f:Nat) (near:List (List Int)) (root from':Int) (xs:List Int) (k:Nat) (h:k < xs.length) :
  seen f near root from' (xs.take (k + 1)) = seen f near root from' (xs.take k) ++ (if xs[k] = from' then [] else [treeF f near xs[k] root]):=by
 unfold seen
 rw [List.take_succ_eq_append_getElem h,List.filter_append,List.map_append]
 congr 1
 by_cases e:xs[k] = from'
 ·simp [e]
 ·simp [e]
theorem treeF_succ (f:Nat) (near:List (List Int)) (root from':Int):treeF (f + 1) near root from' = canon (rootOn (seen f near root from' (near.getD root.toNat []))):=rfl
theorem treeSm_succ (f:Nat) (near:List (List Int)) (root from':Int):treeSm (f + 1) near root from' = sumLen (seen f near root from' (near.getD root.toNat [])) + 1:=by
 rw [← (treeF_both (f + 1) near root from').2,treeF_succ,canon_len (rootOn_lev (seen_lev _ _ _ _ _)),rootOn_len]
theorem treeSm_sub {f:Nat} {near:List (List Int)} {root from':Int} {x:Int} (hx:x ∈ near.getD root.toNat []) (hne:x ≠ from'):treeSm f near x root + 1 ≤ treeSm (f + 1) near root from':=by
 rw [treeSm_succ,← (treeF_both f near x root).2]
 have:treeF f near x root ∈ seen f near root from' (near.getD root.toNat []):=List.mem_map.2 ⟨x,List.mem_filter.2 ⟨hx,by simp [hne]⟩,rfl⟩
 have:=sumLen_mem this
 omega
set_option maxRecDepth 100000 in
set_option maxHeartbeats 2000000 in
theorem c_impl_treeFrom:∀ (f:Nat) (v:Value) (near:List (List Int)) (root from':Int) (w:World),Rd (RS (RS RI)) w [v] near→treeOk f near root from' = true→treeSm f near root from' ≤ 13 →
  Calls Try.prog 168 #[v,.int .i64 root,.int .i64 from'] w (RetO (RS RI) w (treeF f near root from')):=by
 intro f
 induction f with
 | zero => intro v near root from' w _ h;cases h
 | succ f ih =>
 intro v near root from' w h hok hsm
 simp only [treeOk,Bool.and_eq_true,decide_eq_true_eq] at hok
 obtain ⟨hr0,hr1,hall⟩:=hok
 obtain ⟨r,rfl⟩:∃ r:Nat,root = r:=⟨root.toNat,by omega⟩
 have hrl:r < near.length:=by omega
 have hnr:near.getD (r:Int).toNat [] = near[r]:=by rw [Int.toNat_natCast];simp [hrl]
 have hsub:=fun x (hx:x ∈ near[r]) (hne:x ≠ from') => treeSm_sub (f:=f) (near:=near) (root:=(r:Int)) (from':=from') (x:=x) (by rw [hnr];exact hx) hne
 rw [treeF_succ]
 rw [treeSm_succ] at hsm
 rw [hnr] at hsm hall
 rw [hnr]
 have hrdn:=h
 obtain ⟨oa,cap,L⟩:=h.lists
 obtain rfl:=L.val
 have m1:=L.le;have m2:=L.capLe
 obtain ⟨b,off,rfl,hb,hc⟩:=L.get hrl
 obtain ⟨oi,ci,g1,hrd,q1,q2⟩:=hc r hrl
 obtain ⟨xs,hxs⟩:∃ xs,xs = near[r]:=⟨_,rfl⟩
 rw [← hxs] at g1 hrd q1 hsm hall hsub
 rw [← hxs]
 obtain ⟨oa2,c2,I⟩:=hrd.ints
 have hval:=I.val
 simp only [Value.slice.injEq,true_and] at hval
 obtain ⟨rfl,rfl⟩:=hval
 have HI:=Lib.hid I
 have HSM:=Lib.hid hsm
 have HIH:Hid (∀ x ∈ xs,x ≠ from'→∀ W,Below w.heap.size w W→Calls Try.prog 168 #[.slice (some ⟨b,off,none⟩) near.length cap,.int .i64 x,.int .i64 (r:Int)] W (RetO (RS RI) W (treeF f near x r))):=Lib.hid (by
  intro x hx hne W hbW
  refine ih _ near x r W (hrdn.below hbW (Nat.le_refl _)) ?_ (by have:=hsub x hx hne;rw [treeSm_succ,hnr,← hxs] at this;omega)
  have:=List.all_eq_true.1 hall x hx
  simp only [Bool.or_eq_true,decide_eq_true_eq] at this
  exact this.resolve_left hne)
 have i1:(0:Int) ≤ (r:Int):=by omega
 have i2:(r:Int) < (near.length:Int):=by omega
 obtain ⟨nl,hnl⟩:∃ nl,nl = near.length:=⟨_,rfl⟩
 rw [← hnl] at m1 HIH i2
 rw [← hnl]
 have hrnl:r < nl:=by omega
 clear L hc hrd hxs I hsm hall hsub ih hrdn hnr hr0 hr1 hnl hrl
 go_enter Try.func168,Try.ntmps168
 go_wp2_with fail
 go_loopw [7,16] (fun o i wr => ∃ (k:Nat) (z:List (List Int)),k ≤ xs.length∧i = .int .i64 k∧Hid (z = seen f near r from' (xs.take k))∧Hid (z.length ≤ 12)∧(∃ oa cap,o = .slice oa z.length cap)∧Hid (Own (RS (RS RI)) w.heap.size wr.heap.size wr [o] z)∧Below w.heap.size w wr) (fun _ i _ => xs.length - (intOf i).toNat)
 case atStart => exact ⟨0,[],Nat.zero_le _,rfl,Lib.hid rfl,Lib.hid (by simp),⟨_,_,rfl⟩,Lib.hid ((Own.empty (R:=RS RI) (w:=w) 24 w.heap.size (Nat.le_refl _)).top _ (by simp)),(Below.refl _ _).alloc (Nat.le_refl _) _⟩
 case round =>
  obtain ⟨k,z,hk,rfl,hz,hzl,⟨o1,cap1,rfl⟩,hown,hbel⟩:=hrel
  have hsz1:=hbel.size
  by_cases hlt:k < xs.length
  ·obtain ⟨b2,off2,rfl,hb2,hc2⟩:=HI.out.get hlt
   have g2:wr.cell? ⟨b2,off2 + k,none⟩ = some (.int .i64 xs[k]):=(hbel.cell (p:=⟨b2,off2 + k,none⟩) hb2).trans (hc2 k hlt)
   have hbx:=HI.out.b hlt
   unfold In64 at hbx
   have hsc:=seen_succ f near r from' xs k hlt
   rw [← hz.out] at hsc
   have hzl2:(seen f near r from' (xs.take (k + 1))).length ≤ 12:=by
    have h1:=len_le_sumLen _ (seen_lev f near r from' (xs.take (k + 1)))
    have h2:=sumLen_sublist (seen_take f near r from' xs (k + 1))
    have:=HSM.out
    omega
   have hih:=HIH.out xs[k] (List.getElem_mem hlt)
   obtain ⟨x,hx⟩:∃ x:Int,x = xs[k]'hlt:=⟨_,rfl⟩
   rw [← hx] at g2 hsc hih hbx
   obtain ⟨x1,x2⟩:=hbx
   clear hc2 hx
   by_cases hne:x = from'
   ·have hnb:(x != from') = false:=by simp [hne]
    have HZ:Hid (z = seen f near r from' (xs.take (k + 1))):=Lib.hid (by rw [hsc,if_pos hne,List.append_nil])
    clear hsc hih hzl2 hne
    go_wp2_with fail
    go_roundw
    case rel => exact ⟨k + 1,z,by omega,by go_num,HZ,hzl,⟨_,_,rfl⟩,hown,hbel⟩
    case measure => simp [intOf] <;> omega
   ·have hnb:(x != from') = true:=by simp [hne]
    have hcl:=hih hne wr hbel
    rw [if_neg hne] at hsc
    obtain ⟨y,hy⟩:∃ y,y = treeF f near x r:=⟨_,rfl⟩
    rw [← hy] at hsc hcl
    have HN:=Lib.hid hsc
    have HZL2:=Lib.hid hzl2
    have hzb:z.length ≤ 12:=hzl.out
    clear hsc hih hzl2 hne hy
    go_wp2_with fail
    refine hcl.mono ?_
    rintro e w2 ⟨u,rfl,o2,b2'⟩
    obtain ⟨ou,cu,rfl,lu1,lu2⟩:=o2.val
    go_wp2_with (at_builtin;refine StopAt (o:=⟨some 29,_,_,_,_,_⟩) ?_)
    refine Stop.go ?_
    have hb2'':=b2'.size
    refine wpList_snoc (w:=w2) (R:=RS RI) rfl _ _ 30 rfl 24 (.slice none 0 0) 1 24 tI64S rfl (.slice o1 z.length cap1) z y [.slice ou y.length cu] w.heap.size wr.heap.size w2.heap.size rfl (hown.out.below b2' (Nat.le_refl _)) o2 hb2'' hsz1 24 rfl rfl (by omega) (by omega) ?_
    intro oa1 cap1' w1 hown1 c1a c1b hbel1
    have hb3:=(hbel.trans (b2'.mono hsz1)).trans hbel1
    obtain ⟨z',hz'⟩:∃ z',z' = z ++ [y]:=⟨_,rfl⟩
    have HZ:Hid (z' = seen f near r from' (xs.take (k + 1))):=Lib.hid (by rw [hz',HN.out])
    have e1:z.length + 1 = z'.length:=by rw [hz'];simp
    have HZL:Hid (z'.length ≤ 12):=Lib.hid (by rw [HZ.out];exact HZL2.out)
    rw [← hz',e1] at hown1
    have HO:Hid (Own (RS (RS RI)) w.heap.size w1.heap.size w1 [.slice oa1 z'.length cap1'] z'):=hown1
    rw [e1]
    clear hown1 hbel1 hown e1 hz' o2 hcl
    go_wp2_with fail
    go_roundw
    case rel => exact ⟨k + 1,z',by omega,by go_num,HZ,HZL,⟨_,_,rfl⟩,HO,hb3⟩
    case measure => simp [intOf] <;> omega
  ·have hfin:Hid (z = seen f near r from' xs):=Lib.hid (by rw [hz.out,List.take_of_length_le (by omega)])
   have hlv:∀ b ∈ z,LevP b:=by rw [hfin.out];exact seen_lev _ _ _ _ _
   have hsl:sumLen z + 1 ≤ 13:=by rw [hfin.out];exact HSM.out
   have hro:=c_impl_rootOn _ z wr hown.out.rd (Small.of_lev hlv (by omega)) (by omega)
   have HCN:Hid (∀ W v,Rd (RS RI) W [v] (rootOn z)→Calls Try.prog 105 #[v] W (RetO (RS RI) W (canon (rootOn z)))):=Lib.hid (fun W v r => c_impl_canonical 13 v _ W r (rootOn_lev hlv) (by rw [rootOn_len];omega) (by rw [rootOn_len];omega))
   clear hlv hsl
   go_wp2_with fail
   refine hro.mono ?_
   rintro e w2 ⟨u,rfl,o2,b2'⟩
   go_wp2_with fail
   refine (HCN.out _ _ o2.rd).mono ?_
   rintro e w3 ⟨u3,rfl,o3,b3⟩
   go_wp2_with fail
   go_ret
   have s2:=b2'.size
   exact ⟨_,rfl,by rw [← hfin.out];exact o3.mono (by omega) (Nat.le_refl _),hbel.trans ((b2'.trans (b3.mono s2)).mono hsz1)⟩
end Go.Proofs.Ytofpjonggpjneaa
namespace Go.Proofs.Ytofpjonggpjneaa
open Go.RowKit
theorem telT_none (s:St) (u:List Nat):telT s u Option.none = Option.none:=rfl
theorem Zg:type_of% (And.intro (And.intro (And.intro (And.intro (And.intro (And.intro (And.intro @arun.eq_1 (And.intro @arun.eq_2 @astep.eq_def)) (And.intro (And.intro @anew.eq_def @amut.eq_def) (And.intro @isMut.eq_def @awanted.eq_def))) (And.intro (And.intro @avG.eq_def (And.intro @Bool.true_beq @Bool.false_beq)) (And.intro (And.intro @beq_true @beq_false) (And.intro @dstOK.eq_def @cfg.eq_def)))) (And.intro (And.intro (And.intro @opv.eq_def (And.intro @noJunk.eq_def @constAV.eq_def)) (And.intro (And.intro @look_eq @lookB.eq_1) (And.intro @lookB.eq_2 @insR_eq))) (And.intro (And.intro @insB.eq_1 (And.intro @insB.eq_2 @cond_true.{1})) (And.intro (And.intro @cond_false.{1} @insAll.eq_def) (And.intro @List.foldr_cons.{0,0} @List.foldr_nil.{0,0}))))) (And.intro (And.intro (And.intro (And.intro @Option.bind_some.{0,0} (And.intro @Option.map_some.{0,0} @Option.bind_none.{0,0})) (And.intro (And.intro @Option.map_none.{0,0} @Option.getD_some.{0}) (And.intro @Option.getD_none.{0} @Bool.false_eq_true))) (And.intro (And.intro @decide_true (And.intro @decide_false @slT.eq_def)) (And.intro (And.intro @tyT.eq_def (And.intro @tyT2.eq_def (And.intro @tyT3.eq_def @slT2.eq_def))) (And.intro @fsT.eq_def @avD.eq_def)))) (And.intro (And.intro (And.intro @avI.eq_def (And.intro @avB.eq_def @dval.eq_def)) (And.intro (And.intro @un_int @un_bool) (And.intro @un_raw @un_sl))) (And.intro (And.intro (And.intro @un_tag @avun_val) (And.intro @avun_nil @avun_own)) (And.intro (And.intro @avun_view @abin.eq_def) (And.intro @aun.eq_def @alen.eq_def)))))) (And.intro (And.intro (And.intro (And.intro (And.intro @aindex.eq_def (And.intro @aslice.eq_def @afield.eq_def)) (And.intro (And.intro @acells.eq_def @aload.eq_def) (And.intro @avCells.eq_def @zAC.eq_def))) (And.intro (And.intro @afill.eq_1 (And.intro @afill.eq_2 @aparts.eq_1)) (And.intro (And.intro @aparts.eq_2 @mkObj.eq_def) (And.intro @rowsD.eq_1 @rowsD.eq_2)))) (And.intro (And.intro (And.intro @cellsD.eq_1 (And.intro @cellsD.eq_2 @cellsD.eq_3)) (And.intro (And.intro @cellD_vsl @cellD_vtag) (And.intro @cellD_vint @cellD_vbool))) (And.intro (And.intro @cellD_vraw (And.intro @cellD_nilsl @cellD_own)) (And.intro (And.intro @cellD_view @cellD_junk) (And.intro @fresh.eq_def @abase.eq_def))))) (And.intro (And.intro (And.intro (And.intro @aelems.eq_def (And.intro @absorbKey.eq_def @absorbs.eq_1)) (And.intro (And.intro @absorbs.eq_2 @absorbs.eq_3) (And.intro @absorb.eq_def @absorbRows.eq_1))) (And.intro (And.intro @absorbRows.eq_2 (And.intro @drop_eq @dropB.eq_1)) (And.intro (And.intro @dropB.eq_2 @killR.eq_def) (And.intro @AC.kill.eq_def @AV.kill.eq_def)))) (And.intro (And.intro (And.intro @AV.refs.eq_def (And.intro @AC.refs.eq_def @Obj.refs.eq_def)) (And.intro (And.intro @List.map_cons.{0,0} @List.map_nil.{0,0}) (And.intro @List.all_cons.{0} @List.all_nil.{0}))) (And.intro (And.intro (And.intro @List.flatMap_cons.{0,0} @List.flatMap_nil.{0,0}) (And.intro @List.contains_nil.{0} @List.contains_cons.{0})) (And.intro (And.intro @List.append_nil.{0} @List.nil_append.{0}) (And.intro @List.cons_append.{0} @Bool.and_true))))))) (And.intro (And.intro (And.intro (And.intro (And.intro (And.intro @Bool.true_and (And.intro @Bool.not_true @Bool.not_false)) (And.intro (And.intro @Bool.and_self @Option.isNone_none.{0}) (And.intro @Option.isNone_some.{0} @List.length_cons.{0}))) (And.intro (And.intro @List.length_nil.{0} (And.intro @List.toList_toArray.{0} @List.getElem?_toArray.{0})) (And.intro (And.intro @splice.eq_def @List.take_succ_cons.{0}) (And.intro @List.drop_succ_cons.{0} @List.take_zero.{0})))) (And.intro (And.intro (And.intro @List.drop_zero.{0} (And.intro @List.take_nil.{0} @List.drop_nil.{0})) (And.intro (And.intro @Nat.zero_add @Nat.add_zero) (And.intro @and_self @true_and))) (And.intro (And.intro @and_true (And.intro @List.getElem?_cons_zero.{0} @List.getElem?_cons_succ.{0})) (And.intro (And.intro @List.getElem?_nil.{0} @beq_self_eq_true.{0}) (And.intro @Bool.or_false @Bool.false_or))))) (And.intro (And.intro (And.intro (And.intro @Bool.or_true (And.intro @Bool.true_or @putR.eq_def)) (And.intro (And.intro @bne_self_eq_false.{0} @Bool.and_false) (And.intro @Bool.false_and @id_eq.{1}))) (And.intro (And.intro @Obj.k.eq_def (And.intro @Obj.len.eq_def @Obj.deep.eq_def)) (And.intro (And.intro @List.getElem?_cons.{0} @List.set_cons_zero.{0}) (And.intro @List.set_cons_succ.{0} @List.length_set.{0})))) (And.intro (And.intro (And.intro @aopsT.eq_1 (And.intro @aopsT.eq_2 @astepT.eq_def)) (And.intro (And.intro @isCall.eq_def @acallT.eq_def) (And.intro @arg1.eq_def @argV_raw))) (And.intro (And.intro (And.intro @argV_nil @argV_own) (And.intro @argV_view @argV_agg)) (And.intro (And.intro @argV_sl @argV_int) (And.intro @argV_bool @argV_tag)))))) (And.intro (And.intro (And.intro (And.intro (And.intro (And.intro (And.intro @isOwn.eq_def @isPin.eq_def) (And.intro (And.intro @callP.eq_def @pinE_pin) (And.intro @putP_some @Tab.pin.eq_def))) (And.intro @callE.eq_def @ownKey.eq_def)) (And.intro (And.intro @rowE_row @putE_some) (And.intro @putE_none @Tab.own.eq_def))) (And.intro (And.intro @Tab.at'.eq_def (And.intro @atArgs_eq @Option.isSome_some.{0})) (And.intro (And.intro @Option.isSome_none.{0} @gotT_some) (And.intro @gotF_some @gotF_none)))) (And.intro (And.intro (And.intro @callRefs_call (And.intro @St.frzs.eq_1 @St.frzs.eq_2)) (And.intro (And.intro @St.frz.eq_def @AC.frz.eq_def) (And.intro @AV.frz.eq_def @Obj.frz.eq_def))) (And.intro (And.intro (And.intro @frzR.eq_1 @frzR.eq_2) (And.intro @frzH.eq_1 @frzH.eq_2)) (And.intro (And.intro @telT_some @List.size_toArray.{0}) (And.intro @aargs.eq_1 @aargs.eq_2))))) (And.intro (And.intro (And.intro (And.intro @aargs.eq_3 (And.intro @argAV.eq_def @argCells.eq_1)) (And.intro (And.intro @argCells.eq_2 @argCells.eq_3) (And.intro @argCell.eq_def @fnId.eq_def))) (And.intro (And.intro @opRefs_nil (And.intro @opRefs_cons @St.got.eq_def)) (And.intro (And.intro @resACs.eq_1 @resACs.eq_2) (And.intro @resAC.eq_def @outAV.eq_def)))) (And.intro (And.intro (And.intro @Res.scalar.eq_def (And.intro @isSl.eq_def @Tab.add.eq_def)) (And.intro (And.intro @Tab.none.eq_def @tab1.eq_def) (And.intro @tab2.eq_def @tab3.eq_def))) (And.intro (And.intro (And.intro @codL_d @codLL_d) (And.intro @codI_d @codB_d)) (And.intro (And.intro @codCts_d @List.isEmpty_nil.{0}) (And.intro @List.isEmpty_cons.{0} @List.append_eq.{0})))))))):=(And.intro (And.intro (And.intro (And.intro (And.intro (And.intro (And.intro @arun.eq_1 (And.intro @arun.eq_2 @astep.eq_def)) (And.intro (And.intro @anew.eq_def @amut.eq_def) (And.intro @isMut.eq_def @awanted.eq_def))) (And.intro (And.intro @avG.eq_def (And.intro @Bool.true_beq @Bool.false_beq)) (And.intro (And.intro @beq_true @beq_false) (And.intro @dstOK.eq_def @cfg.eq_def)))) (And.intro (And.intro (And.intro @opv.eq_def (And.intro @noJunk.eq_def @constAV.eq_def)) (And.intro (And.intro @look_eq @lookB.eq_1) (And.intro @lookB.eq_2 @insR_eq))) (And.intro (And.intro @insB.eq_1 (And.intro @insB.eq_2 @cond_true.{1})) (And.intro (And.intro @cond_false.{1} @insAll.eq_def) (And.intro @List.foldr_cons.{0,0} @List.foldr_nil.{0,0}))))) (And.intro (And.intro (And.intro (And.intro @Option.bind_some.{0,0} (And.intro @Option.map_some.{0,0} @Option.bind_none.{0,0})) (And.intro (And.intro @Option.map_none.{0,0} @Option.getD_some.{0}) (And.intro @Option.getD_none.{0} @Bool.false_eq_true))) (And.intro (And.intro @decide_true (And.intro @decide_false @slT.eq_def)) (And.intro (And.intro @tyT.eq_def (And.intro @tyT2.eq_def (And.intro @tyT3.eq_def @slT2.eq_def))) (And.intro @fsT.eq_def @avD.eq_def)))) (And.intro (And.intro (And.intro @avI.eq_def (And.intro @avB.eq_def @dval.eq_def)) (And.intro (And.intro @un_int @un_bool) (And.intro @un_raw @un_sl))) (And.intro (And.intro (And.intro @un_tag @avun_val) (And.intro @avun_nil @avun_own)) (And.intro (And.intro @avun_view @abin.eq_def) (And.intro @aun.eq_def @alen.eq_def)))))) (And.intro (And.intro (And.intro (And.intro (And.intro @aindex.eq_def (And.intro @aslice.eq_def @afield.eq_def)) (And.intro (And.intro @acells.eq_def @aload.eq_def) (And.intro @avCells.eq_def @zAC.eq_def))) (And.intro (And.intro @afill.eq_1 (And.intro @afill.eq_2 @aparts.eq_1)) (And.intro (And.intro @aparts.eq_2 @mkObj.eq_def) (And.intro @rowsD.eq_1 @rowsD.eq_2)))) (And.intro (And.intro (And.intro @cellsD.eq_1 (And.intro @cellsD.eq_2 @cellsD.eq_3)) (And.intro (And.intro @cellD_vsl @cellD_vtag) (And.intro @cellD_vint @cellD_vbool))) (And.intro (And.intro @cellD_vraw (And.intro @cellD_nilsl @cellD_own)) (And.intro (And.intro @cellD_view @cellD_junk) (And.intro @fresh.eq_def @abase.eq_def))))) (And.intro (And.intro (And.intro (And.intro @aelems.eq_def (And.intro @absorbKey.eq_def @absorbs.eq_1)) (And.intro (And.intro @absorbs.eq_2 @absorbs.eq_3) (And.intro @absorb.eq_def @absorbRows.eq_1))) (And.intro (And.intro @absorbRows.eq_2 (And.intro @drop_eq @dropB.eq_1)) (And.intro (And.intro @dropB.eq_2 @killR.eq_def) (And.intro @AC.kill.eq_def @AV.kill.eq_def)))) (And.intro (And.intro (And.intro @AV.refs.eq_def (And.intro @AC.refs.eq_def @Obj.refs.eq_def)) (And.intro (And.intro @List.map_cons.{0,0} @List.map_nil.{0,0}) (And.intro @List.all_cons.{0} @List.all_nil.{0}))) (And.intro (And.intro (And.intro @List.flatMap_cons.{0,0} @List.flatMap_nil.{0,0}) (And.intro @List.contains_nil.{0} @List.contains_cons.{0})) (And.intro (And.intro @List.append_nil.{0} @List.nil_append.{0}) (And.intro @List.cons_append.{0} @Bool.and_true))))))) (And.intro (And.intro (And.intro (And.intro (And.intro (And.intro @Bool.true_and (And.intro @Bool.not_true @Bool.not_false)) (And.intro (And.intro @Bool.and_self @Option.isNone_none.{0}) (And.intro @Option.isNone_some.{0} @List.length_cons.{0}))) (And.intro (And.intro @List.length_nil.{0} (And.intro @List.toList_toArray.{0} @List.getElem?_toArray.{0})) (And.intro (And.intro @splice.eq_def @List.take_succ_cons.{0}) (And.intro @List.drop_succ_cons.{0} @List.take_zero.{0})))) (And.intro (And.intro (And.intro @List.drop_zero.{0} (And.intro @List.take_nil.{0} @List.drop_nil.{0})) (And.intro (And.intro @Nat.zero_add @Nat.add_zero) (And.intro @and_self @true_and))) (And.intro (And.intro @and_true (And.intro @List.getElem?_cons_zero.{0} @List.getElem?_cons_succ.{0})) (And.intro (And.intro @List.getElem?_nil.{0} @beq_self_eq_true.{0}) (And.intro @Bool.or_false @Bool.false_or))))) (And.intro (And.intro (And.intro (And.intro @Bool.or_true (And.intro @Bool.true_or @putR.eq_def)) (And.intro (And.intro @bne_self_eq_false.{0} @Bool.and_false) (And.intro @Bool.false_and @id_eq.{1}))) (And.intro (And.intro @Obj.k.eq_def (And.intro @Obj.len.eq_def @Obj.deep.eq_def)) (And.intro (And.intro @List.getElem?_cons.{0} @List.set_cons_zero.{0}) (And.intro @List.set_cons_succ.{0} @List.length_set.{0})))) (And.intro (And.intro (And.intro @aopsT.eq_1 (And.intro @aopsT.eq_2 @astepT.eq_def)) (And.intro (And.intro @isCall.eq_def @acallT.eq_def) (And.intro @arg1.eq_def @argV_raw))) (And.intro (And.intro (And.intro @argV_nil @argV_own) (And.intro @argV_view @argV_agg)) (And.intro (And.intro @argV_sl @argV_int) (And.intro @argV_bool @argV_tag)))))) (And.intro (And.intro (And.intro (And.intro (And.intro (And.intro (And.intro @isOwn.eq_def @isPin.eq_def) (And.intro (And.intro @callP.eq_def @pinE_pin) (And.intro @putP_some @Tab.pin.eq_def))) (And.intro @callE.eq_def @ownKey.eq_def)) (And.intro (And.intro @rowE_row @putE_some) (And.intro @putE_none @Tab.own.eq_def))) (And.intro (And.intro @Tab.at'.eq_def (And.intro @atArgs_eq @Option.isSome_some.{0})) (And.intro (And.intro @Option.isSome_none.{0} @gotT_some) (And.intro @gotF_some @gotF_none)))) (And.intro (And.intro (And.intro @callRefs_call (And.intro @St.frzs.eq_1 @St.frzs.eq_2)) (And.intro (And.intro @St.frz.eq_def @AC.frz.eq_def) (And.intro @AV.frz.eq_def @Obj.frz.eq_def))) (And.intro (And.intro (And.intro @frzR.eq_1 @frzR.eq_2) (And.intro @frzH.eq_1 @frzH.eq_2)) (And.intro (And.intro @telT_some @List.size_toArray.{0}) (And.intro @aargs.eq_1 @aargs.eq_2))))) (And.intro (And.intro (And.intro (And.intro @aargs.eq_3 (And.intro @argAV.eq_def @argCells.eq_1)) (And.intro (And.intro @argCells.eq_2 @argCells.eq_3) (And.intro @argCell.eq_def @fnId.eq_def))) (And.intro (And.intro @opRefs_nil (And.intro @opRefs_cons @St.got.eq_def)) (And.intro (And.intro @resACs.eq_1 @resACs.eq_2) (And.intro @resAC.eq_def @outAV.eq_def)))) (And.intro (And.intro (And.intro @Res.scalar.eq_def (And.intro @isSl.eq_def @Tab.add.eq_def)) (And.intro (And.intro @Tab.none.eq_def @tab1.eq_def) (And.intro @tab2.eq_def @tab3.eq_def))) (And.intro (And.intro (And.intro @codL_d @codLL_d) (And.intro @codI_d @codB_d)) (And.intro (And.intro @codCts_d @List.isEmpty_nil.{0}) (And.intro @List.isEmpty_cons.{0} @List.append_eq.{0}))))))))
theorem Zd:type_of% (And.intro @telT_none (And.intro (And.intro (And.intro (And.intro @dregT_mk (And.intro @drunT.eq_1 @drunT.eq_2)) (And.intro @devalT.eq_def (And.intro @deval.eq_def @St.add.eq_def))) (And.intro (And.intro @opnd_move (And.intro @opnd_assign @opnd_load)) (And.intro (And.intro @opnd_box @opnd_alloc) (And.intro @opnd_unOp @opnd_convert)))) (And.intro (And.intro (And.intro @opnd_field (And.intro @opnd_extract @opnd_index)) (And.intro @opnd_make (And.intro @opnd_bin @opnd_pick))) (And.intro (And.intro @opnd_build (And.intro @opnd_buildSlice @opnd_slice)) (And.intro (And.intro @opnd_call @opnd_bcall) (And.intro @Option.toList_some.{0} @Option.toList_none.{0})))))):=(And.intro @telT_none (And.intro (And.intro (And.intro (And.intro @dregT_mk (And.intro @drunT.eq_1 @drunT.eq_2)) (And.intro @devalT.eq_def (And.intro @deval.eq_def @St.add.eq_def))) (And.intro (And.intro @opnd_move (And.intro @opnd_assign @opnd_load)) (And.intro (And.intro @opnd_box @opnd_alloc) (And.intro @opnd_unOp @opnd_convert)))) (And.intro (And.intro (And.intro @opnd_field (And.intro @opnd_extract @opnd_index)) (And.intro @opnd_make (And.intro @opnd_bin @opnd_pick))) (And.intro (And.intro @opnd_build (And.intro @opnd_buildSlice @opnd_slice)) (And.intro (And.intro @opnd_call @opnd_bcall) (And.intro @Option.toList_some.{0} @Option.toList_none.{0}))))))
theorem Zu:type_of% (And.intro (And.intro @cutR.eq_1 @cutR.eq_2) (And.intro @cond_true.{1} @cond_false.{1})):=(And.intro (And.intro @cutR.eq_1 @cutR.eq_2) (And.intro @cond_true.{1} @cond_false.{1}))
theorem Zz:type_of% (And.intro (And.intro (And.intro @look_eq @lookB.eq_1) (And.intro @lookB.eq_2 (And.intro @cond_true.{1} @cond_false.{1}))) (And.intro (And.intro @List.length_append.{0} (And.intro @List.length_map.{0,0} @List.length_cons.{0})) (And.intro @List.length_nil.{0} (And.intro @Nat.zero_add @List.length_set.{0})))):=(And.intro (And.intro (And.intro @look_eq @lookB.eq_1) (And.intro @lookB.eq_2 (And.intro @cond_true.{1} @cond_false.{1}))) (And.intro (And.intro @List.length_append.{0} (And.intro @List.length_map.{0,0} @List.length_cons.{0})) (And.intro @List.length_nil.{0} (And.intro @Nat.zero_add @List.length_set.{0}))))
theorem Zv:type_of% (And.intro (And.intro @List.map_append.{0,0} (And.intro @List.map_cons.{0,0} @List.map_nil.{0,0})) (And.intro (And.intro @List.append_assoc.{0} @List.cons_append.{0}) (And.intro @List.nil_append.{0} @List.append_nil.{0}))):=(And.intro (And.intro @List.map_append.{0,0} (And.intro @List.map_cons.{0,0} @List.map_nil.{0,0})) (And.intro (And.intro @List.append_assoc.{0} @List.cons_append.{0}) (And.intro @List.nil_append.{0} @List.append_nil.{0})))
theorem Zk:type_of% (And.intro (And.intro (And.intro @Tel.sh.eq_def @List.map_cons.{0,0}) (And.intro @List.map_nil.{0,0} (And.intro @AV.refs.eq_def @AC.refs.eq_def))) (And.intro (And.intro @List.flatMap_cons.{0,0} @List.flatMap_nil.{0,0}) (And.intro @List.append_nil.{0} (And.intro @List.nil_append.{0} @Obj.refs.eq_def)))):=(And.intro (And.intro (And.intro @Tel.sh.eq_def @List.map_cons.{0,0}) (And.intro @List.map_nil.{0,0} (And.intro @AV.refs.eq_def @AC.refs.eq_def))) (And.intro (And.intro @List.flatMap_cons.{0,0} @List.flatMap_nil.{0,0}) (And.intro @List.append_nil.{0} (And.intro @List.nil_append.{0} @Obj.refs.eq_def))))
theorem Ze:type_of% (And.intro (And.intro @aresults.eq_1 @aresults.eq_2) (And.intro @aresults.eq_3 @ares.eq_def)):=(And.intro (And.intro @aresults.eq_1 @aresults.eq_2) (And.intro @aresults.eq_3 @ares.eq_def))
theorem Q1:type_of% @RunK.seq:=@RunK.seq
theorem Q2:type_of% @RunK.next:=@RunK.next
theorem Q3:type_of% @RunK.skip:=@RunK.skip
theorem Q4:type_of% @RunK.exit:=@RunK.exit
theorem Q5:type_of% @RunK.ret:=@RunK.ret
theorem Q6:type_of% @RunK.label:=@RunK.label
theorem Q7:type_of% @outK.blkN:=@outK.blkN
theorem Q8:type_of% @outK.blkX:=@outK.blkX
theorem Q9:type_of% @outK.seqX:=@outK.seqX
theorem Qa:type_of% @outK.seqR:=@outK.seqR
theorem Qb:type_of% @outK.blkR:=@outK.blkR
theorem Qc:type_of% @RunK.blockS:=@RunK.blockS
theorem Qd:type_of% @RunK.blockR:=@RunK.blockR
theorem Qe:type_of% @RunK.blockC:=@RunK.blockC
theorem Qf:type_of% @RunK.blockB:=@RunK.blockB
theorem Qo:type_of% @outK.blkO:=@outK.blkO
theorem QT:type_of% @RunK.wT:=@RunK.wT
theorem QF:type_of% @RunK.wF:=@RunK.wF
theorem QS:type_of% @RunK.wS:=@RunK.wS
theorem QC:type_of% @RunK.wC:=@RunK.wC
theorem QD:type_of% @RunK.wD:=@RunK.wD
theorem QW:type_of% @Work.mk:=@Work.mk
theorem QK:type_of% @ChkD.mk:=@ChkD.mk
theorem Qn:type_of% @Fits.nil:=@Fits.nil
theorem Qr:type_of% @Fits.reg:=@Fits.reg
theorem Qj:type_of% @Fits.obj:=@Fits.obj
theorem Qw:type_of% @wk.same:=@wk.same
end Go.Proofs.Ytofpjonggpjneaa
