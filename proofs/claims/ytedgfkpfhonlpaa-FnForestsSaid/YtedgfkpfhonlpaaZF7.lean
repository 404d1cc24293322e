/- Lemmas (7). -/
import Derived.Deep.RegionHeld3
import Derived.Deep.RegionLaw
import Derived.Lib.SliceRun
import Derived.Test.YtedgfkpfhonlpaaZF0
import Derived.Test.YtedgfkpfhonlpaaZF1
import Derived.Test.YtedgfkpfhonlpaaZF5
import Derived.Test.YtedgfkpfhonlpaaZF6
set_option linter.unusedSimpArgs false
set_option linter.unusedVariables false
namespace Go.Proofs.Ytedgfkpfhonlpaa
open Go.RowKit
def slT2 (t:TypeId):Option TyI :=
 if t = 22 then some ⟨5,[.raw (.int .u8 0)],1⟩ else
 none
def slT (t:TypeId):Option TyI :=
 if t = 24 then some ⟨2,[.int 0],8⟩ else
 if t = 33 then some ⟨24,[.sl 1 []],24⟩ else
 if t = 92 then some ⟨33,[.sl 1 []],24⟩ else
 slT2 t
def tyT3 (t:TypeId):Option (List D × Bool) :=
 if t = 9 then some ([.raw (.string ⟨#[]⟩)],false) else
 if t = 22 then some ([.sl 1 []],false) else
 none
def tyT2 (t:TypeId):Option (List D × Bool) :=
 tyT3 t
def tyT (t:TypeId):Option (List D × Bool) :=
 if t = 2 then some ([.int 0],false) else
 if t = 3 then some ([.int 0],false) else
 if t = 4 then some ([.bool false],false) else
 if t = 24 then some ([.sl 1 []],false) else
 if t = 33 then some ([.sl 1 []],false) else
 if t = 92 then some ([.sl 1 []],false) else
 tyT2 t
def fsT (t:TypeId):Option (List (Nat × Nat)) :=
 none
def cfg (n:Nat):Cfg:=⟨n,slT,tyT,fsT,fun t => t == 2 || t == 3⟩
def zvOf:Bool→List D→Value
 | true,z => .agg (z.map zval).toArray
 | false,z => zval (z.headD (.int 0))
theorem sl_ok {P:Program} {t:TypeId} {i:TyI} (h1:P.underlying t = some (.slice i.e)) (h2:(P.info? i.e).map (fun j => (j.zero,j.size,j.bytes)) = some (some (zvOf (decide (1 < i.z.length)) i.z),i.z.length,i.bytes))
  (h3:(zvOf (decide (1 < i.z.length)) i.z).cells.toList = i.z.map zval) (h4:i.z.all isZero = true) (h5:0 < i.z.length):∃ z:Value,ST P t i.e z i.z.length i.bytes∧ZeroOK z i.z :=
 ⟨_,ST.mk' h1 h2 (by rw [← Array.length_toList,h3,List.length_map]) h5,h3,h4⟩
theorem ty_ok {P:Program} {t:TypeId} {z:List D} {st:Bool} (h1:(P.info? t).map (fun i => (i.zero,i.size)) = some (some (zvOf st z),z.length)) (h2:(zvOf st z).cells.toList = z.map zval) (h3:z.all isZero = true) (h4:0 < z.length)
  (h5:(P.underlying t).map TypeDesc.isRow = some st) (h6:st = false→z.length = 1):∃ zv ti d,P.info? t = some ti∧ti.zero = some zv∧ti.size = z.length∧ZeroOK zv z∧0 < z.length∧P.underlying t = some d∧d.isRow = st∧(st = false→z.length = 1):=by
 obtain ⟨ti,k1,k2⟩:=map_some h1
 obtain ⟨d,k3,k4⟩:=map_some h5
 simp only [Prod.mk.injEq] at k2
 exact ⟨_,ti,d,k1,k2.1,k2.2,⟨h2,h3⟩,h4,k3,k4,h6⟩
theorem fs_ok {P:Program} {t:TypeId} {fs:List (Nat × Nat)} (h:(match P.underlying t with|some (.struct fields) => fields.toList.mapM (fun f => (P.info? f.type).map fun i => (f.offset,i.size))|_ => none) = some fs) (h2:∀ p ∈ fs,0 < p.2) :
  ∃ fields,P.underlying t = some (.struct fields)∧fields.toList.mapM (fun f => (P.info? f.type).map fun i => (f.offset,i.size)) = some fs∧∀ p ∈ fs,0 < p.2:=by
 split at h
 ·rename_i fields e
  exact ⟨fields,e,h,h2⟩
 ·cases h
theorem i64_a:Try.prog.underlying 2 = some (.int .i64):=by kernel_rfl
theorem i64_b:Try.prog.underlying 3 = some (.int .i64):=by kernel_rfl
set_option maxHeartbeats 2000000 in
theorem cfg_ok (n:Nat):CfgOK Try.prog (cfg n) where
 sl:=by
  intro t i h
  have h:slT t = some i:=h
  unfold slT at h
  split at h
  ·rename_i e;subst e;cases h;exact sl_ok (by kernel_rfl) (by kernel_rfl) (by rfl) (by rfl) (by decide)
  split at h
  ·rename_i e;subst e;cases h;exact sl_ok (by kernel_rfl) (by kernel_rfl) (by rfl) (by rfl) (by decide)
  split at h
  ·rename_i e;subst e;cases h;exact sl_ok (by kernel_rfl) (by kernel_rfl) (by rfl) (by rfl) (by decide)
  have h:slT2 t = some i:=h
  unfold slT2 at h
  split at h
  ·rename_i e;subst e;cases h;exact sl_ok (by kernel_rfl) (by kernel_rfl) (by rfl) (by rfl) (by decide)
  cases h
 ty:=by
  intro t z st h
  have h:tyT t = some (z,st):=h
  have h3:∀ {t:TypeId} {z:List D} {st:Bool},tyT3 t = some (z,st)→∃ zv ti d,Try.prog.info? t = some ti∧ti.zero = some zv∧ti.size = z.length∧ZeroOK zv z∧0 < z.length∧Try.prog.underlying t = some d∧d.isRow = st∧(st = false→z.length = 1):=by
   intro t z st h
   unfold tyT3 at h
   repeat' split at h
   all_goals first
    | (cases h;done)
    | (rename_i e;subst e;cases h;exact ty_ok (by kernel_rfl) (by rfl) (by rfl) (by decide) (by kernel_rfl) (by decide))
  have h2:∀ {t:TypeId} {z:List D} {st:Bool},tyT2 t = some (z,st)→∃ zv ti d,Try.prog.info? t = some ti∧ti.zero = some zv∧ti.size = z.length∧ZeroOK zv z∧0 < z.length∧Try.prog.underlying t = some d∧d.isRow = st∧(st = false→z.length = 1):=by
   intro t z st h
   unfold tyT2 at h
   repeat' split at h
   all_goals first
    | (cases h;done)
    | (exact h3 h)
    | (rename_i e;subst e;cases h;exact ty_ok (by kernel_rfl) (by rfl) (by rfl) (by decide) (by kernel_rfl) (by decide))
  unfold tyT at h
  repeat' split at h
  all_goals first
   | (cases h;done)
   | (exact h2 h)
   | (rename_i e;subst e;cases h;exact ty_ok (by kernel_rfl) (by rfl) (by rfl) (by decide) (by kernel_rfl) (by decide))
 fs:=by
  intro t fs h
  have h:fsT t = some fs:=h
  unfold fsT at h
  repeat' split at h
  all_goals first
   | (cases h;done)
   | (rename_i e;subst e;cases h;exact fs_ok (by kernel_rfl) (by decide))
 i64:=by
  intro t h
  have h:(t == 2 || t == 3) = true:=h
  simp only [Bool.or_eq_true,beq_iff_eq] at h
  rcases h with rfl|rfl
  ·exact i64_a
  ·exact i64_b
def dL (xs:List Int):D:=.sl 1 (xs.map eI)
theorem rd_dL {A:Nat→Prop} {w:World} {v:Value} {xs:List Int}:rdV A w v (dL xs) ↔ (RS RI).rd A w [v] xs:=((encS encI).rdV (x:=xs) rfl).symm
end Go.Proofs.Ytedgfkpfhonlpaa
namespace Go.Proofs.Ytedgfkpfhonlpaa
open Go.RowKit
structure Cod (α:Type) where
 e:α→List D
 d:List D→Option α
 de:∀ x,d (e x) = some x
 ed:∀ c x,d c = some x→c = e x
def dI:List D→Option Int
 | [.int n] => some n
 | _ => none
def dB:List D→Option Bool
 | [.bool n] => some n
 | _ => none
theorem dI_spec {c:List D} {x:Int} (h:dI c = some x):c = eI x:=by
 unfold dI at h
 split at h
 ·cases h;rfl
 ·cases h
theorem dB_spec {c:List D} {x:Bool} (h:dB c = some x):c = eB x:=by
 unfold dB at h
 split at h
 ·cases h;rfl
 ·cases h
def codI:Cod Int:=⟨eI,dI,fun _ => rfl,fun _ _ => dI_spec⟩
def codB:Cod Bool:=⟨eB,dB,fun _ => rfl,fun _ _ => dB_spec⟩
def dAll {α:Type} (d:List D→Option α):List (List D)→Option (List α)
 | [] => some []
 | c :: cs => (d c).bind fun x => (dAll d cs).map fun xs => x :: xs
def dSl {α:Type} (k:Nat) (d:List D→Option α):List D→Option (List α)
 | [.sl j cs] => if j = k then dAll d cs else none
 | _ => none
theorem dAll_map {α:Type} {e:α→List D} {d:List D→Option α} (h:∀ x,d (e x) = some x):∀ xs:List α,dAll d (xs.map e) = some xs
 | [] => rfl
 | x :: xs => by simp only [List.map_cons,dAll,h,Option.bind_some,dAll_map h xs,Option.map_some]
theorem dAll_spec {α:Type} {e:α→List D} {d:List D→Option α} (h:∀ c x,d c = some x→c = e x):∀ {cs:List (List D)} {xs:List α},dAll d cs = some xs→cs = xs.map e
 | [],xs,hx => by simp only [dAll,Option.some.injEq] at hx;subst hx;rfl
 | c :: cs,xs,hx => by
  simp only [dAll] at hx
  obtain ⟨x,h1,hx⟩:=bind_some hx
  obtain ⟨ys,h2,rfl⟩:=map_some hx
  rw [h c x h1,dAll_spec h h2];rfl
def codS {α:Type} (k:Nat) (C:Cod α):Cod (List α):=⟨eS k C.e,dSl k C.d,fun xs => by
  show dSl k C.d [.sl k (xs.map C.e)] = some xs
  simp only [dSl,if_true,dAll_map C.de],fun c xs h => by
  unfold dSl at h
  split at h
  ·split at h
   ·rename_i e;subst e;rw [dAll_spec C.ed h];rfl
   ·cases h
  ·cases h⟩
def codP {α β:Type} (k:Nat) (C:Cod α) (D':Cod β) (hk:∀ x,(C.e x).length = k):Cod (α × β):=⟨eP C.e D'.e,fun c => (C.d (c.take k)).bind fun x => (D'.d (c.drop k)).map fun y => (x,y),fun x => by
  show (C.d ((C.e x.1 ++ D'.e x.2).take k)).bind (fun x_1 => (D'.d ((C.e x.1 ++ D'.e x.2).drop k)).map fun y => (x_1,y)) = _
  rw [List.take_left' (hk _),List.drop_left' (hk _),C.de,D'.de];rfl,fun c x h => by
  obtain ⟨a,h1,h⟩:=bind_some h
  obtain ⟨b,h2,rfl⟩:=map_some h
  show c = C.e a ++ D'.e b
  rw [← C.ed _ _ h1,← D'.ed _ _ h2,List.take_append_drop]⟩
def eL (xs:List Int):List D:=[.sl 1 (xs.map eI)]
def eLL (xs:List (List Int)):List D:=[.sl 1 (xs.map eL)]
def codL:Cod (List Int):=codS 1 codI
def codLL:Cod (List (List Int)):=codS 1 codL
def eCt (x:List Int × Int):List D:=[.sl 1 (x.1.map eI),.int x.2]
def codCt:Cod (List Int × Int):=codP 1 codL codI (fun _ => rfl)
theorem codL_d (xs:List Int):codL.d [.sl 1 (xs.map eI)] = some xs:=codL.de xs
theorem codLL_d (xs:List (List Int)):codLL.d [.sl 1 (xs.map eL)] = some xs:=codLL.de xs
theorem codI_d (x:Int):codI.d [.int x] = some x:=rfl
theorem codB_d (x:Bool):codB.d [.bool x] = some x:=rfl
theorem codCts_d (xs:List (List Int × Int)):(codS 2 codCt).d [.sl 2 (xs.map eCt)] = some xs:=(codS 2 codCt).de xs
def tab1 {α:Type} (A:Cod α) (f:α→Option (List Res)):List (List D)→Option (List Res)
 | [a] => (A.d a).bind f
 | _ => none
def tab2 {α β:Type} (A:Cod α) (B:Cod β) (f:α→β→Option (List Res)):List (List D)→Option (List Res)
 | [a,b] => (A.d a).bind fun x => (B.d b).bind (f x)
 | _ => none
def tab3 {α β γ:Type} (A:Cod α) (B:Cod β) (C:Cod γ) (f:α→β→γ→Option (List Res)):List (List D)→Option (List Res)
 | [a,b,c] => (A.d a).bind fun x => (B.d b).bind fun y => (C.d c).bind (f x y)
 | _ => none
theorem tab1_ok {P:Program} {g:FuncId} {α:Type} {A:Cod α} {f:α→Option (List Res)} (h:∀ x rs,f x = some rs→AFn P g [A.e x] (· = rs)) (ds:List (List D)) (rs:List Res) (e:tab1 A f ds = some rs):AFn P g ds (· = rs):=by
 unfold tab1 at e
 split at e
 ·obtain ⟨x,h1,h2⟩:=bind_some e
  rw [A.ed _ _ h1];exact h x rs h2
 ·cases e
theorem tab2_ok {P:Program} {g:FuncId} {α β:Type} {A:Cod α} {B:Cod β} {f:α→β→Option (List Res)} (h:∀ x y rs,f x y = some rs→AFn P g [A.e x,B.e y] (· = rs)) (ds:List (List D)) (rs:List Res) (e:tab2 A B f ds = some rs):AFn P g ds (· = rs):=by
 unfold tab2 at e
 split at e
 ·obtain ⟨x,h1,e⟩:=bind_some e
  obtain ⟨y,h2,e⟩:=bind_some e
  rw [A.ed _ _ h1,B.ed _ _ h2];exact h x y rs e
 ·cases e
theorem AFn.of_q {P:Program} {f:FuncId} {ds:List (List D)} {d:D} {v:Value} (eg:∀ args w,(callFunc f args).run P w = .ok (.enter f args) w) (hd:∀ A w,rdV A w v d)
  (h:∀ (w:World) (A:Nat→Prop) vs,relArgs A w ds vs→Calls P f vs.toArray w (RetQ w v)):AFn P f ds (· = [.val d]):=by
 refine ⟨eg,fun A w vs hA hv => (h w A vs hv).mono ?_⟩
 rintro e w' ⟨rfl,n,rfl⟩
 exact ⟨v,_,rfl,rfl,Below.drewN _ _ _,[v],[],[],rfl,List.nodup_nil,by simp,v,[],[],[],[],[],rfl,rfl,rfl,(hd (fun _ => True) w).one,⟨hd _ _,rfl,rfl⟩,rfl,rfl,rfl⟩
theorem AFn.of_s {P:Program} {f:FuncId} {ds:List (List D)} {d:D} {v:Value} (eg:∀ args w,(callFunc f args).run P w = .ok (.enter f args) w) (hd:∀ A w,rdV A w v d)
  (h:∀ (w:World) (A:Nat→Prop) vs,relArgs A w ds vs→Calls P f vs.toArray w (RetS w v)):AFn P f ds (· = [.val d]):=by
 refine ⟨eg,fun A w vs hA hv => (h w A vs hv).mono ?_⟩
 rintro e w' ⟨rfl,rfl⟩
 exact ⟨v,_,rfl,rfl,Below.refl _ _,[v],[],[],rfl,List.nodup_nil,by simp,v,[],[],[],[],[],rfl,rfl,rfl,(hd (fun _ => True) w).one,⟨hd _ _,rfl,rfl⟩,rfl,rfl,rfl⟩
theorem AFn.of_o {P:Program} {α:Type} {R:Rep α} {e:α→List D} (E:Enc R e) {f:FuncId} {ds:List (List D)} {xs:List α} (eg:∀ args w,(callFunc f args).run P w = .ok (.enter f args) w)
  (h:∀ (w:World) (A:Nat→Prop) vs,relArgs A w ds vs→Calls P f vs.toArray w (RetO (RS R) w xs)):AFn P f ds (· = [.own R.k (xs.map e) true]):=by
 refine ⟨eg,fun A w vs hA hv => (h w A vs hv).mono ?_⟩
 rintro e' w' ⟨v,rfl,⟨F,⟨v',og,ds',G,e1,hrow,hel,rfl⟩,hn,hlt⟩,hb⟩
 obtain rfl:v = v':=by simpa using e1
 obtain ⟨d,hel'⟩:=enc_ownL E hel
 obtain ⟨oa,c,ev,k1,k2,k3,k4⟩:=hrow.value
 have hv':v = slv og xs.length c:=by
  cases og with
  | none =>
   have h0:=hrow.len0
   have hoa:oa = none:=k4
   rw [ev,hoa,h0,k3 hoa];rfl
  | some g => rw [ev,k4];rfl
 refine ⟨v,_,rfl,rfl,hb,[v],og.toList ++ G,og.toList,rfl,hn,fun b hb' => (hlt b hb').1,v,[],og.toList ++ G,[],og.toList,[],rfl,by simp,by simp,by rw [ev];rfl,?_,rfl,rfl,rfl⟩
 exact ⟨og,c,G,ds',by rw [List.length_map];exact hv',by rw [List.length_map];exact hrow,R.kpos,rfl,rfl,d,R.kpos,hel'⟩
theorem big_le {n:Nat} (h:n ≤ 1000000000):(n ≤ 140737488355328) = True:=eq_true (by omega)
theorem big_mul {n c:Nat} (hc:c ≤ 100000) (h:n ≤ 1000000000):(n * c ≤ 140737488355328) = True :=
 eq_true (Nat.le_trans (Nat.mul_le_mul h hc) (by decide))
theorem map_get {α β:Type} {f:α→β} {xs:List α} {i:Nat} (h:i < xs.length):(xs.map f)[i]? = some (f xs[i]):=by
 rw [List.getElem?_map,List.getElem?_eq_getElem h];rfl
theorem w64_eq {n:Int} (h:-9223372036854775808 ≤ n∧n ≤ 9223372036854775807):w64 n = n:=by unfold w64;exact IntWalk.i64_in n h
theorem w64_succ {n:Nat} (h:n < 9223372036854775807):w64 ((n:Int) + 1) = ((n + 1:Nat):Int):=by rw [w64_eq (by omega)];rfl
theorem rd1 {A:Nat→Prop} {w:World} {xs:List Int} {v:Value} (h:relArg A w (eL xs) v):(RS RI).rd A w [v] xs:=rd_dL.1 h
end Go.Proofs.Ytedgfkpfhonlpaa
namespace Go.Proofs.Ytedgfkpfhonlpaa
open Go.RowKit
set_option maxRecDepth 100000 in
set_option maxHeartbeats 1000000 in
theorem c_spec_l03Parts (v:Value) (t:List Int) (w:World) (h:Rd (RS RI) w [v] t) (hl:LevP t) (hsz:t.length ≤ 1000000000) :
  Calls Try.prog 40 #[v] w (RetO (RS (RS RI)) w (brs t)):=by
 obtain ⟨oa,c1,I1⟩:=h.ints
 obtain rfl:=I1.val
 have m1:=I1.le;have m2:=I1.capLe
 unfold maxLen at m2
 have hp:=hl.pos
 obtain ⟨b,off,rfl,hb,hc⟩:=I1.get hp
 go_enter Try.func40,Try.ntmps40
 go_wp2_with fail
 go_loopw [3,4] (fun o i wr => ∃ k:Nat,k + 1 ≤ t.length∧i = .int .i64 (k + 1)∧(∃ oa cap,o = .slice oa (brTo t k).length cap)∧Own (RS (RS RI)) w.heap.size wr.heap.size wr [o] (brTo t k)∧Below w.heap.size w wr) (fun _ i _ => t.length + 1 - (intOf i).toNat)
 case atStart => exact ⟨0,hp,rfl,⟨_,_,rfl⟩,Own.empty (R:=RS RI) (w:=w) 24 w.heap.size (Nat.le_refl _) |>.top _ (by simp),(Below.refl _ _).alloc (Nat.le_refl _) _⟩
 case round =>
  obtain ⟨k,hk,rfl,⟨oa,cap,rfl⟩,hown,hbel⟩:=hrel
  have hsz1:=hbel.size
  by_cases hlt:k + 1 < t.length
  ·have g1:wr.cell? ⟨b,off + (k + 1),none⟩ = some (.int .i64 t[k + 1]):=(hbel.cell (p:=⟨b,off + (k + 1),none⟩) hb).trans (hc (k + 1) hlt)
   have hbd:=hl.bd (k + 1) hlt
   obtain ⟨q1,q2⟩:=hbd
   have hs1:=hl.succ hlt
   obtain ⟨q3,q4⟩:=hs1
   have hnl:=brTo_len t k
   by_cases he:t[k + 1] = 1
   ·have heb:(t[k + 1] == 1) = true:=by simp [he]
    have hnext:brTo t (k + 1) = (brTo t k ++ [[]]).set (brTo t k).length (([]:List Int) ++ [t[k + 1] - 1]):=by
     rw [brTo_succ t k hlt,he,brStep_one];simp
    have Hn:=Lib.hid hnext
    clear hc he hnext
    have hownA:=hown.below (w':=wr.alloc (.cells #[] 2)) ((Below.refl wr.heap.size wr).alloc (Nat.le_refl _) _) (Nat.le_refl _)
    have hnew:=Own.empty (R:=RI) (w:=wr) 2 wr.heap.size (Nat.le_refl _)
    go_wp2_with (at_builtin;refine wpList_snoc (o:=⟨some 21,_,_,_,_,_⟩) (w:=wr.alloc (.cells #[] 2)) rfl _ _ 33 rfl 24 (.slice none 0 0) 1 24 tI64S rfl _ (brTo t k) [] [.slice (some ⟨wr.heap.size,0,none⟩) 0 0] w.heap.size wr.heap.size (wr.heap.size + 1) rfl hownA hnew (by simp) hsz1 24 rfl (by simp) (by omega) (by omega) ?_;intro oa1 cap1 w1 hown1 c1a c1b hbel1;refine Stop.out ?_)
    have hbel2:=hbel.trans ((((Below.refl w.heap.size wr).alloc hsz1 _).trans hbel1))
    have hsz2:=hbel2.size
    have g2:=(hbel2.cell (p:=⟨b,off + (k + 1),none⟩) hb).trans (I1.row.resolve_left (by intro e;rw [e] at hp;simp at hp) |> fun ⟨b',o',e,_,h⟩ => by cases e;exact h (k + 1) hlt)
    obtain ⟨g,cap2,h0,m,ds,og,hv,hg1,hg2,hcell,hr0,hm,hog,hK⟩:=Own.inner hown1 (brTo t k).length (by simp) ((brTo t k).length + 1) (by simp)
    simp only [Value.slice.injEq,true_and] at hv
    obtain ⟨rfl,rfl⟩:=hv
    have hm0:m = 0:=by rw [hm];simp
    subst hm0
    have HK:=Lib.hid hK
    have hi1:(0:Int) ≤ (k:Int) + 1:=by omega
    have hi2:(k:Int) + 1 < (t.length:Int):=by omega
    have hi3:(0:Int) ≤ ((brTo t k).length:Int):=by omega
    have hi4:((brTo t k).length:Int) < ((brTo t k).length:Int) + 1:=by omega
    have hi5:((k:Int) + 1).toNat = k + 1:=by omega
    clear hK hm g1 hbel1 hbel hownA hnew
    refine Stop.go ?_
    go_wp2_with fail
    have hwr:IntKind.i64.wrap (t[k + 1] - 1) = t[k + 1] - 1:=IntWalk.i64_in _ (by omega)
    go_region_law ((refine step_append1 (w:=w1) (by rfl) _ _ 24 (by rfl) 2 (.int .i64 0) 1 8 tI64 h0 0 ds og (by rfl) hr0 2 [.int .i64 (t[k + 1] - 1)] (by rfl) (by simp) (by rfl) (by simp [Value.oneCell']) (by omega) (by unfold maxLen;omega) ⟨rfl,rfl,rfl,rfl⟩ ?_;intro h' w2 og' happ;obtain ⟨f1,f2,f3,f4⟩:=HK.out (t[k + 1] - 1) [.int .i64 (t[k + 1] - 1)] w1.heap.size w1.heap.size h' w2 og' (Own.int ⟨by omega,by omega⟩) (Nat.le_refl _) happ;obtain ⟨oa',cap',rfl,_⟩:=happ.1.val))
    all_goals
     have f5:=hbel2.trans (f4 hsz2)
     clear f4 happ hwr
     simp only [List.getElem_append_right (Nat.le_refl _),Nat.sub_self,List.getElem_singleton] at f3
     rw [← Hn.out] at f3
     simp only [Nat.zero_add] at f1 f2 f3 f5
     go_wp2_with fail
     go_roundw
     case rel => exact ⟨k + 1,by omega,by go_num,⟨some ⟨g,0,none⟩,cap1,by rw [Hn.out];simp⟩,f3,f5⟩
     case measure => simp [intOf];omega
   ·have heb:(t[k + 1] == 1) = false:=by simp [he]
    have hk0:0 < k:=by
     rcases Nat.eq_zero_or_pos k with rfl|h
     ·have h0:=hl.zero hp
      simp only [Nat.zero_add] at q3 q4 he
      omega
     ·exact h
    have hpos:0 < (brTo t k).length:=by
     obtain ⟨k',rfl⟩:∃ k',k = k' + 1:=⟨k - 1,by omega⟩
     exact brTo_pos hl k' (by omega)
    have hnext:brTo t (k + 1) = (brTo t k).set ((brTo t k).length - 1) ((brTo t k)[(brTo t k).length - 1] ++ [t[k + 1] - 1]):=by
     rw [brTo_succ t k hlt,brStep_more _ _ he hpos]
    have Hn:=Lib.hid hnext
    have hidx:(brTo t k).length - 1 < (brTo t k).length:=by omega
    have hea:=brTo_each t k ((brTo t k).length - 1) hidx
    clear hc he hnext
    obtain ⟨g,cap2,h0,m,ds,og,hv,hg1,hg2,hcell,hr0,hm,hog,hK⟩:=Own.inner hown ((brTo t k).length - 1) hidx _ rfl
    obtain ⟨n,hn⟩:∃ n,(brTo t k).length = n + 1:=⟨(brTo t k).length - 1,by omega⟩
    simp only [Value.slice.injEq,true_and] at hv
    obtain ⟨rfl,rfl⟩:=hv
    have HK:=Lib.hid hK
    have Hnn:=Lib.hid hn
    have hml:m ≤ k:=by omega
    have en:(brTo t k).length - 1 = n:=by omega
    rw [en] at hcell
    rw [hn]
    have Hen:=Lib.hid en
    have hnb:n < 1000000000:=by omega
    have hi1:(0:Int) ≤ (k:Int) + 1:=by omega
    have hi2:(k:Int) + 1 < (t.length:Int):=by omega
    have hi3:(0:Int) ≤ (n:Int):=by omega
    have hi4:(n:Int) < (n:Int) + 1:=by omega
    have hi5:((k:Int) + 1).toNat = k + 1:=by omega
    clear hK hm hn en hea
    go_wp2_with fail
    have hwr:IntKind.i64.wrap (t[k + 1] - 1) = t[k + 1] - 1:=IntWalk.i64_in _ (by omega)
    go_region_law ((refine step_append1 (w:=wr) (by rfl) _ _ 24 (by rfl) 2 (.int .i64 0) 1 8 tI64 h0 m ds og (by rfl) hr0 2 [.int .i64 (t[k + 1] - 1)] (by rfl) (by simp) (by rfl) (by simp [Value.oneCell']) (by omega) (by unfold maxLen;omega) ⟨rfl,rfl,rfl,rfl⟩ ?_;intro h' w2 og' happ;obtain ⟨f1,f2,f3,f4⟩:=HK.out (t[k + 1] - 1) [.int .i64 (t[k + 1] - 1)] wr.heap.size wr.heap.size h' w2 og' (Own.int ⟨by omega,by omega⟩) (Nat.le_refl _) happ;obtain ⟨oa',cap',rfl,_⟩:=happ.1.val;rw [Hen.out] at f1 f2))
    all_goals
     have f5:=hbel.trans (f4 hsz1)
     clear f4 happ hwr
     rw [← Hn.out] at f3
     rw [Hen.out] at f3 f5
     go_wp2_with fail
     go_roundw
     case rel => exact ⟨k + 1,by omega,by go_num,⟨some ⟨g,0,none⟩,cap,by rw [Hn.out];simp [Hnn.out]⟩,by rw [← Hnn.out];exact f3,f5⟩
     case measure => simp [intOf];omega
  ·have hfin:brTo t k = brs t:=brTo_all t k (by omega)
   rw [hfin] at hown
   have Hfin:=Lib.hid hfin
   clear hfin
   go_wp2_with fail
   go_ret
   exact ⟨_,rfl,by rw [Hfin.out];exact hown,hbel⟩
end Go.Proofs.Ytedgfkpfhonlpaa
namespace Go.Proofs.Ytedgfkpfhonlpaa
open Go.RowKit
theorem sortC_take_succ {t:List (List Int)} (f:List Int→List Int) (k:Nat) (h:k < t.length):sortC cmpD ((t.take (k + 1)).map f) = ins cmpD (f t[k]) (sortC cmpD ((t.take k).map f)):=by
 rw [List.take_succ_eq_append_getElem h,List.map_append,List.map_cons,List.map_nil,sortC_snoc]
set_option maxRecDepth 100000 in
set_option maxHeartbeats 2000000 in
theorem c_spec_l03Canon:∀ (n:Nat) (v:Value) (t:List Int) (w:World),Rd (RS RI) w [v] t→LevP t→t.length ≤ n→t.length ≤ 1000000 →
  Calls Try.prog 44 #[v] w (RetO (RS RI) w (canon t)):=by
 intro n
 induction n with
 | zero => intro v t w h hl hn h13;have:=hl.pos;omega
 | succ n ih =>
  intro v t w h hl hn h13
  have hb:=c_spec_l03Parts v t w h hl (by omega)
  have HL:=Lib.hid hl
  have IH:=Lib.hid ih
  have hfew:=brs_few hl
  have hbl:(brs t).length ≤ 1000000:=by omega
  clear h hl ih
  go_enter Try.func44,Try.ntmps44
  go_wp2_with (go_at_call 40;refine hb.mono ?_;rintro e w1 ⟨u,rfl,o1,b1⟩;obtain ⟨oa,cap,rfl,l1,l2⟩:=o1.val)
  clear hb
  have hsz1:=b1.size
  have hO1:Hid (Own (RS (RS RI)) w.heap.size w1.heap.size w1 [.slice oa (brs t).length cap] (brs t)):=o1
  clear o1
  go_loopw [4,5] (fun o i wr => ∃ (k:Nat) (ys:List (List Int)),k ≤ (brs t).length∧i = .int .i64 k∧Hid (ys = sortC cmpD (((brs t).take k).map canon))∧Hid (ys.length = k)∧(∃ g cap,o = .slice (some ⟨g,0,none⟩) ys.length cap)∧Hid (Own (RS (RS RI)) w1.heap.size wr.heap.size wr [o] ys)∧Below w1.heap.size w1 wr) (fun _ i _ => (brs t).length - (intOf i).toNat)
  case atStart => exact ⟨0,[],Nat.zero_le _,rfl,Lib.hid (by simp [sortC]),Lib.hid rfl,⟨_,_,rfl⟩,Lib.hid ((Own.empty (R:=RS RI) (w:=w1) 24 w1.heap.size (Nat.le_refl _)).top _ (by simp)),(Below.refl _ _).alloc (Nat.le_refl _) _⟩
  case round =>
   obtain ⟨k,ys,hk,rfl,hys,Hyl,⟨g0,cap0,rfl⟩,hown,hbel⟩:=hrel
   have hsz2:=hbel.size
   obtain ⟨wo,hwo⟩:∃ wo:World,wo = wr:=⟨_,rfl⟩
   subst hwo
   by_cases hlt:k < (brs t).length
   ·have hO2:=hO1.out.below hbel (Nat.le_refl _)
    obtain ⟨g,cap',h0,hv,q1,q2,hg1,hg2,hcell,hel⟩:=hO2.elem k hlt
    simp only [Value.slice.injEq,true_and] at hv
    obtain ⟨rfl,rfl⟩:=hv
    obtain ⟨oi,ci,rfl,_⟩:=hel.val
    have hmem:=List.getElem_mem hlt
    have hshort:=brs_short HL.out _ hmem
    have hc:=IH.out (.slice oi (brs t)[k].length ci) (brs t)[k] wo hel.rd (brs_lev HL.out _ hmem) (by omega) (by omega)
    have hst:=sortC_take_succ canon k hlt
    rw [← hys.out] at hst
    have HST:=Lib.hid hst
    obtain ⟨x,hx⟩:∃ x,x = canon (brs t)[k]:=⟨_,rfl⟩
    rw [← hx] at hc HST
    obtain ⟨xl,hxl⟩:∃ xl,xl = (brs t)[k].length:=⟨_,rfl⟩
    rw [← hxl] at hc hcell hshort
    have HX:=Lib.hid hx
    clear hst hel hmem hO2 hxl hx
    go_wp2_with (go_at_call 44;refine hc.mono ?_;rintro e w2 ⟨u,rfl,o2,b2⟩;obtain ⟨ou,cu,rfl,lu1,lu2⟩:=o2.val)
    have hown2:=hown.out.below b2 (Nat.le_refl _)
    have HO2:=Lib.hid hown2
    have HP:=Lib.hid o2
    have hbel2:=hbel.trans (b2.mono hsz2)
    have hsz3:=b2.size
    clear hown2 o2 hc hcell hown b2
    go_loopw [7] (fun i wr => ∃ (j:Nat),j ≤ ys.length∧i = .int .i64 j∧Hid (∀ q (h:q < ys.length),q < j→¬ cmpD x ys[q] < 0)∧∃ n,wr = w2.drewN n) (fun i _ => ys.length - (intOf i).toNat)
    case atStart => exact ⟨0,Nat.zero_le _,rfl,Lib.hid (fun q _ h => by omega),0,rfl⟩
    case round =>
     obtain ⟨j,hj,rfl,hall,nd,rfl⟩:=hrel
     have HO3:Hid (Own (RS (RS RI)) w1.heap.size wo.heap.size (w2.drewN nd) [.slice (some ⟨g0,0,none⟩) ys.length cap0] ys):=HO2.out.of_heap rfl
     have HP3:Hid (Own (RS RI) wo.heap.size w2.heap.size (w2.drewN nd) [.slice ou x.length cu] x):=HP.out.of_heap rfl
     have hbel3:Below w1.heap.size w1 (w2.drewN nd):=hbel2.trans (Below.drewN _ _ _)
     have hsz4:w2.heap.size = (w2.drewN nd).heap.size:=rfl
     by_cases hjl:j < ys.length
     ·obtain ⟨g',cap',h0,hv,q1',q2',hg1',hg2',hcell,hel⟩:=HO3.out.elem j hjl
      simp only [Value.slice.injEq,true_and] at hv
      obtain ⟨e1,e2⟩:=hv
      simp only [Option.some.injEq,Addr.mk.injEq,and_true] at e1
      subst e1;subst e2
      obtain ⟨oj,cj,rfl,_⟩:=hel.val
      have hls:=c_spec_l01Less _ _ ys[j] x (w2.drewN nd) hel.rd HP3.out.rd
      obtain ⟨yl,hyl'⟩:∃ yl,yl = ys[j].length:=⟨_,rfl⟩
      rw [← hyl'] at hls hcell
      clear hel hyl'
      by_cases hle:cmpL ys[j] x < 0
      ·have hd:decide (cmpL ys[j] x < 0) = true:=decide_eq_true hle
       rw [hd] at hls
       have HE:Hid (ins cmpD x ys = ys.take j ++ x :: ys.drop j):=Lib.hid (ins_at hj hall.out (fun _ => hle))
       clear hd hle
       go_wp2_with (first|(go_at_call 78;refine hls.mono ?_;rintro e w' ⟨rfl,nn,rfl⟩)|(at_builtin;refine StopAt (o:=⟨some 46,_,_,_,_,_⟩) ?_))
       refine Stop.go ?_
       have HO4:Own (RS (RS RI)) w1.heap.size wo.heap.size (w2.drewN (nd + nn)) [.slice (some ⟨g0,0,none⟩) ys.length cap0] ys:=HO2.out.of_heap rfl
       have HP4:Own (RS RI) wo.heap.size w2.heap.size (w2.drewN (nd + nn)) [.slice ou x.length cu] x:=HP.out.of_heap rfl
       have hbel4:Below w1.heap.size w1 (w2.drewN (nd + nn)):=hbel2.trans (Below.drewN _ _ _)
       have hsz5:wo.heap.size ≤ (w2.drewN (nd + nn)).heap.size:=hsz3
       have hle4:=HO4.val
       obtain ⟨d1,d2,t1l,t2l,t1,t2,t3,hcl,hmk⟩:=HO4.insRow (R:=RS RI) rfl hsz5 hsz2 HP4 j hj
       rw [← HE.out,← HST.out] at hmk
       obtain ⟨_,_,ev,le4,_⟩:=hle4
       simp only [Value.slice.injEq,true_and] at ev
       obtain ⟨rfl,rfl⟩:=ev
       have hyb:ys.length ≤ 1000000:=by rw [Hyl.out];omega
       have T1L:=Lib.hid t1l
       have T2L:=Lib.hid t2l
       have ELN:1 + (ys.length - j) = 1 + d2.length:=by omega
       clear hls hcell HO3 HP3 hbel3 hsz4 t1l t2l
       refine wpList_appendS rfl _ _ 33 rfl 24 (.slice none 0 0) 1 24 tI64S (.slice (some ⟨(w2.drewN (nd + nn)).heap.size,0,none⟩) 1 1) 1 [(.slice ou x.length cu)] (some (w2.drewN (nd + nn)).heap.size) rfl (by simpa using Row.lit (w2.drewN (nd + nn)) #[(.slice ou x.length cu)] 24 1 1 (by decide) (by simp)) _ _ _ d2 rfl (by have:=T2L.out;omega) (by intro h;cases h) (by intro a ha i u hi;cases ha;rw [Addr.add_lit];exact (hcl ((w2.drewN (nd + nn)).alloc _) ((Below.refl _ _).alloc (Nat.le_refl _) _)).2 i u hi) t2 (by have:=T2L.out;omega) (by unfold maxLen;omega) ?_
       intro vA wA ogA happA
       rw [ELN] at happA
       obtain ⟨oA,capA,rfl,pA1,pA2⟩:=happA.1.val
       unfold maxLen at pA2
       have lowA:=happA.low (B:=(w2.drewN (nd + nn)).heap.size) (by simp) (fun g hg => by cases hg;exact Nat.le_refl _)
       have belA:Below (w2.drewN (nd + nn)).heap.size (w2.drewN (nd + nn)) wA:=((Below.refl _ _).alloc (Nat.le_refl _) _).trans lowA.2
       have sA:=belA.size
       have HA:=Lib.hid happA.1
       have HogA:=Lib.hid lowA.1
       have CA:=(hcl wA belA).1
       clear happA lowA ELN
       go_wp2_with (at_builtin;refine StopAt (o:=⟨some 51,_,_,_,_,_⟩) ?_)
       refine Stop.go ?_
       refine wpList_appendS rfl _ _ 33 rfl 24 (.slice none 0 0) 1 24 tI64S (.slice (some ⟨wA.heap.size,0,none⟩) 0 0) 0 [] (some wA.heap.size) rfl (by simpa using Row.lit wA #[] 24 1 0 (by decide) (by simp)) (some ⟨g0,0,none⟩) j _ d1 rfl (by have:=T1L.out;omega) (fun h => by cases h) (by intro a ha i u hi;cases ha;rw [Addr.add_lit,Nat.zero_add];have:=(hcl (wA.alloc (.cells #[] 24)) (belA.alloc sA _)).1 i u hi;exact this) t1 (by have:=T1L.out;omega) (by unfold maxLen;omega) ?_
       intro vB wB ogB happB
       rw [Nat.zero_add,List.nil_append] at happB
       obtain ⟨oB,capB,rfl,pB1,pB2⟩:=happB.1.val
       unfold maxLen at pB2
       have lowB:=happB.low (B:=(w2.drewN (nd + nn)).heap.size) (Nat.le_trans sA (by simp)) (fun g hg => by cases hg;exact sA)
       have lowB2:=happB.low (B:=wA.heap.size) (by simp) (fun g hg => by cases hg;exact Nat.le_refl _)
       have belB2:Below wA.heap.size wA wB:=((Below.refl _ _).alloc (Nat.le_refl _) _).trans lowB2.2
       have belB:Below (w2.drewN (nd + nn)).heap.size (w2.drewN (nd + nn)) wB:=belA.trans (belB2.mono sA)
       have sB:=belB.size
       have hrA:Row wB (.slice oA (1 + d2.length) capA) 1 (1 + d2.length) ([(.slice ou x.length cu)] ++ d2) ogA:=HA.out.frame (fun g hg => belB2.block g (HA.out.lt g hg))
       obtain ⟨gA,hgA⟩:=hrA.some_of (j:=0) (by omega)
       subst hgA
       obtain ⟨oA',cA',eA,_,_,_,eA2⟩:=hrA.value
       simp only [Value.slice.injEq,true_and] at eA
       obtain ⟨rfl,rfl⟩:=eA
       simp only [Option.map_some] at eA2
       subst eA2
       have HRA:=Lib.hid hrA
       have HB:=Lib.hid happB.1
       have HogB:=Lib.hid lowB.1
       clear hrA happB lowB lowB2 CA
       go_wp2_with (at_builtin;refine StopAt (o:=⟨some 53,_,_,_,_,_⟩) ?_)
       refine Stop.go ?_
       refine wpList_appendS rfl _ _ 33 rfl 24 (.slice none 0 0) 1 24 tI64S (.slice oB j capB) j d1 ogB rfl HB.out (some ⟨gA,0,none⟩) _ _ ([(.slice ou x.length cu)] ++ d2) rfl (by simp <;> omega) (fun h => by cases h) (by intro a ha i u hi;cases ha;rw [Addr.add_lit,Nat.zero_add];exact HRA.out.cells i u hi) (fun u hu => (List.mem_append.1 hu).elim (fun h => by simp at h;subst h;exact t3) (t2 u)) (by have:=T2L.out;omega) (by have:=T2L.out;unfold maxLen;omega) ?_
       intro vC wC ogC happC
       have lowC:=happC.low (B:=(w2.drewN (nd + nn)).heap.size) sB HogB.out
       have belC:Below (w2.drewN (nd + nn)).heap.size (w2.drewN (nd + nn)) wC:=belB.trans lowC.2
       have hrC:=happC.1
       have eN:j + (1 + d2.length) = ys.length + 1:=by have:=T1L.out;have:=T2L.out;omega
       rw [eN,List.singleton_append] at hrC
       have hfin:=hmk wC vC ogC belC hrC lowC.1
       obtain ⟨gC,hgC⟩:=hrC.some_of (j:=0) (by omega)
       subst hgC
       obtain ⟨capC,hvC,_,_⟩:=hrC.slice
       subst hvC
       have HFIN:=Lib.hid hfin
       clear hfin hrC happC lowC HA HB HRA HogA HogB eN
       have hfl:(sortC cmpD (((brs t).take (k + 1)).map canon)).length = ys.length + 1:=by rw [sortC_length];simp;rw [Hyl.out];omega
       obtain ⟨zs,hzs⟩:∃ zs,zs = sortC cmpD (((brs t).take (k + 1)).map canon):=⟨_,rfl⟩
       rw [← hzs] at HFIN hfl
       have hkz:zs.length = k + 1:=by rw [hfl,Hyl.out]
       rw [← hfl] at HFIN
       rw [← hfl]
       have HZ:=Lib.hid hzs
       have HKZ:=Lib.hid hkz
       clear hzs hfl hkz
       go_wp2_with fail
       go_roundw
       case rel => exact ⟨k + 1,zs,by omega,by go_num,HZ,HKZ,⟨_,_,rfl⟩,HFIN,hbel4.trans (belC.mono (by omega))⟩
       case measure => simp [intOf];omega
      ·have hd:decide (cmpL ys[j] x < 0) = false:=decide_eq_false hle
       rw [hd] at hls
       have HN:Hid (¬ cmpD x ys[j] < 0):=Lib.hid hle
       clear hd hle
       go_wp2_with (go_at_call 78;refine hls.mono ?_;rintro e w' ⟨rfl,nn,rfl⟩)
       go_roundw
       case rel =>
        refine ⟨j + 1,by omega,by go_num,Lib.hid (fun q h hq => ?_),(by first|exact drewN1 _ _|exact drewN2 _ _ _)⟩
        by_cases hqj:q = j
        ·subst hqj;have:=HN.out;omega
        ·have:=hall.out q h (by omega);omega
       case measure => simp [intOf];omega
     ·obtain rfl:j = ys.length:=by omega
      have HE:Hid (ins cmpD x ys = ys.take ys.length ++ x :: ys.drop ys.length):=Lib.hid (ins_at hj hall.out (fun h => by omega))
      go_wp2_with (at_builtin;refine StopAt (o:=⟨some 46,_,_,_,_,_⟩) ?_)
      all_goals
       refine Stop.go ?_
       have HO4:Own (RS (RS RI)) w1.heap.size wo.heap.size (w2.drewN nd) [.slice (some ⟨g0,0,none⟩) ys.length cap0] ys:=HO2.out.of_heap rfl
       have HP4:Own (RS RI) wo.heap.size w2.heap.size (w2.drewN nd) [.slice ou x.length cu] x:=HP.out.of_heap rfl
       have hbel4:Below w1.heap.size w1 (w2.drewN nd):=hbel2.trans (Below.drewN _ _ _)
       have hsz5:wo.heap.size ≤ (w2.drewN nd).heap.size:=hsz3
       have hle4:=HO4.val
       obtain ⟨d1,d2,t1l,t2l,t1,t2,t3,hcl,hmk⟩:=HO4.insRow (R:=RS RI) rfl hsz5 hsz2 HP4 ys.length hj
       rw [← HE.out,← HST.out] at hmk
       obtain ⟨_,_,ev,le4,_⟩:=hle4
       simp only [Value.slice.injEq,true_and] at ev
       obtain ⟨rfl,rfl⟩:=ev
       have hyb:ys.length ≤ 1000000:=by rw [Hyl.out];omega
       have T1L:=Lib.hid t1l
       have T2L:=Lib.hid t2l
       have hd2:d2 = []:=List.eq_nil_of_length_eq_zero (by omega)
       subst hd2
       clear HO3 HP3 hbel3 hsz4 t1l t2l
       refine wpList_appendS rfl _ _ 33 rfl 24 (.slice none 0 0) 1 24 tI64S (.slice (some ⟨(w2.drewN nd).heap.size,0,none⟩) 1 1) 1 [(.slice ou x.length cu)] (some (w2.drewN nd).heap.size) rfl (by simpa using Row.lit (w2.drewN nd) #[(.slice ou x.length cu)] 24 1 1 (by decide) (by simp)) _ _ _ ([]:List Value) rfl (by simp) (fun _ => rfl) (by intro a ha i u hi;simp at hi) t2 (by have:=T2L.out;omega) (by unfold maxLen;omega) ?_
       intro vA wA ogA happA
       rw [show 1 + (0:Nat) = 1 + ([]:List Value).length by rfl] at happA
       obtain ⟨oA,capA,rfl,pA1,pA2⟩:=happA.1.val
       unfold maxLen at pA2
       have lowA:=happA.low (B:=(w2.drewN nd).heap.size) (by simp) (fun g hg => by cases hg;exact Nat.le_refl _)
       have belA:Below (w2.drewN nd).heap.size (w2.drewN nd) wA:=((Below.refl _ _).alloc (Nat.le_refl _) _).trans lowA.2
       have sA:=belA.size
       have HA:=Lib.hid happA.1
       have HogA:=Lib.hid lowA.1
       have CA:=(hcl wA belA).1
       clear happA lowA
       go_wp2_with (at_builtin;refine StopAt (o:=⟨some 51,_,_,_,_,_⟩) ?_)
       refine Stop.go ?_
       refine wpList_appendS rfl _ _ 33 rfl 24 (.slice none 0 0) 1 24 tI64S (.slice (some ⟨wA.heap.size,0,none⟩) 0 0) 0 [] (some wA.heap.size) rfl (by simpa using Row.lit wA #[] 24 1 0 (by decide) (by simp)) (some ⟨g0,0,none⟩) ys.length _ d1 rfl (by have:=T1L.out;omega) (fun h => by cases h) (by intro a ha i u hi;cases ha;rw [Addr.add_lit,Nat.zero_add];have:=(hcl (wA.alloc (.cells #[] 24)) (belA.alloc sA _)).1 i u hi;exact this) t1 (by have:=T1L.out;omega) (by unfold maxLen;omega) ?_
       intro vB wB ogB happB
       rw [Nat.zero_add,List.nil_append] at happB
       obtain ⟨oB,capB,rfl,pB1,pB2⟩:=happB.1.val
       unfold maxLen at pB2
       have lowB:=happB.low (B:=(w2.drewN nd).heap.size) (Nat.le_trans sA (by simp)) (fun g hg => by cases hg;exact sA)
       have lowB2:=happB.low (B:=wA.heap.size) (by simp) (fun g hg => by cases hg;exact Nat.le_refl _)
       have belB2:Below wA.heap.size wA wB:=((Below.refl _ _).alloc (Nat.le_refl _) _).trans lowB2.2
       have belB:Below (w2.drewN nd).heap.size (w2.drewN nd) wB:=belA.trans (belB2.mono sA)
       have sB:=belB.size
       have hrA:Row wB (.slice oA (1 + ([]:List Value).length) capA) 1 (1 + ([]:List Value).length) ([(.slice ou x.length cu)] ++ ([]:List Value)) ogA:=HA.out.frame (fun g hg => belB2.block g (HA.out.lt g hg))
       obtain ⟨gA,hgA⟩:=hrA.some_of (j:=0) (by omega)
       subst hgA
       obtain ⟨oA',cA',eA,_,_,_,eA2⟩:=hrA.value
       simp only [Value.slice.injEq,true_and] at eA
       obtain ⟨rfl,rfl⟩:=eA
       simp only [Option.map_some] at eA2
       subst eA2
       have HRA:=Lib.hid hrA
       have HB:=Lib.hid happB.1
       have HogB:=Lib.hid lowB.1
       clear hrA happB lowB lowB2 CA
       go_wp2_with (at_builtin;refine StopAt (o:=⟨some 53,_,_,_,_,_⟩) ?_)
       refine Stop.go ?_
       refine wpList_appendS rfl _ _ 33 rfl 24 (.slice none 0 0) 1 24 tI64S (.slice oB ys.length capB) ys.length d1 ogB rfl HB.out (some ⟨gA,0,none⟩) _ _ ([(.slice ou x.length cu)] ++ ([]:List Value)) rfl (by simp <;> omega) (fun h => by cases h) (by intro a ha i u hi;cases ha;rw [Addr.add_lit,Nat.zero_add];exact HRA.out.cells i u hi) (fun u hu => (List.mem_append.1 hu).elim (fun h => by simp at h;subst h;exact t3) (t2 u)) (by have:=T2L.out;omega) (by have:=T2L.out;unfold maxLen;omega) ?_
       intro vC wC ogC happC
       have lowC:=happC.low (B:=(w2.drewN nd).heap.size) sB HogB.out
       have belC:Below (w2.drewN nd).heap.size (w2.drewN nd) wC:=belB.trans lowC.2
       have hrC:=happC.1
       have eN:ys.length + (1) = ys.length + 1:=by have:=T1L.out;have:=T2L.out;omega
       rw [eN,List.singleton_append] at hrC
       have hfin:=hmk wC vC ogC belC hrC lowC.1
       obtain ⟨gC,hgC⟩:=hrC.some_of (j:=0) (by omega)
       subst hgC
       obtain ⟨capC,hvC,_,_⟩:=hrC.slice
       subst hvC
       have HFIN:=Lib.hid hfin
       clear hfin hrC happC lowC HA HB HRA HogA HogB eN
       have hfl:(sortC cmpD (((brs t).take (k + 1)).map canon)).length = ys.length + 1:=by rw [sortC_length];simp;rw [Hyl.out];omega
       obtain ⟨zs,hzs⟩:∃ zs,zs = sortC cmpD (((brs t).take (k + 1)).map canon):=⟨_,rfl⟩
       rw [← hzs] at HFIN hfl
       have hkz:zs.length = k + 1:=by rw [hfl,Hyl.out]
       rw [← hfl] at HFIN
       rw [← hfl]
       have HZ:=Lib.hid hzs
       have HKZ:=Lib.hid hkz
       clear hzs hfl hkz
       go_wp2_with fail
       go_roundw
       case rel => exact ⟨k + 1,zs,by omega,by go_num,HZ,HKZ,⟨_,_,rfl⟩,HFIN,hbel4.trans (belC.mono (by omega))⟩
       case measure => simp [intOf];omega
   ·have hfin:(brs t).take k = brs t:=List.take_of_length_le (by omega)
    have hyc:rootOn ys = canon t:=by rw [canon_eq HL.out,hys.out,hfin]
    have hylev:∀ b ∈ ys,LevP b:=by
     intro b hb
     rw [hys.out,sortC_mem,List.mem_map] at hb
     obtain ⟨c,hc,rfl⟩:=hb
     exact canon_lev (brs_lev HL.out c (List.mem_of_mem_take hc))
    have hsum:sumLen ys ≤ 1000000:=by
     have:=rootOn_len ys
     rw [hyc,canon_len HL.out] at this
     omega
    have hyb:ys.length ≤ 1000000:=by rw [Hyl.out];omega
    have HYC:=Lib.hid hyc
    have HS:Hid (Small ys):=Lib.hid (Small.of_lev hylev (by omega))
    obtain ⟨oa9,cap9,L⟩:=hown.out.rd.lists
    have hval:=L.val
    simp only [Value.slice.injEq,true_and] at hval
    obtain ⟨rfl,rfl⟩:=hval
    have HLs:=Lib.hid L
    have hkb:¬ ((k:Int) < ((brs t).length:Int)):=by omega
    clear hfin hyc hylev L hown hlt
    go_wp2_with fail
    go_loopw [9,10] (fun o i wr => ∃ (q:Nat) (r:List Int),q ≤ ys.length∧i = .int .i64 q∧Hid (r = rootOn (ys.take q))∧(∃ oa cap,o = .slice oa r.length cap)∧Hid (Own (RS RI) wo.heap.size wr.heap.size wr [o] r)∧Below wo.heap.size wo wr) (fun _ i _ => ys.length - (intOf i).toNat)
    case atStart => exact ⟨0,[0],Nat.zero_le _,rfl,Lib.hid rfl,⟨_,_,rfl⟩,Lib.hid ((Own.lit1 (w:=wo) 2 wo.heap.size 0 (by unfold In64;omega) (Nat.le_refl _)).top _ (by simp)),(Below.refl _ _).alloc (Nat.le_refl _) _⟩
    case round =>
     obtain ⟨q,r,hq,rfl,hr,⟨o1,cap1,rfl⟩,hown,hbelq⟩:=hrel
     have hszq:=hbelq.size
     by_cases hlt:q < ys.length
     ·obtain ⟨b,off,e9,hb,hc⟩:=HLs.out.get hlt
      simp only [Option.some.injEq,Addr.mk.injEq,and_true] at e9
      obtain ⟨rfl,rfl⟩:=e9
      obtain ⟨oi,ci,g1,hrd,q1,q2⟩:=hc q hlt
      have g1':wo.cell? ⟨g0,q,none⟩ = some (.slice oi ys[q].length ci):=by rw [← g1,Nat.zero_add]
      obtain ⟨x,hx⟩:∃ x,x = ys[q]:=⟨_,rfl⟩
      have hsm:∀ y ∈ x,0 ≤ y∧y ≤ 1000000000:=by rw [hx];exact HS.out _ (List.getElem_mem hlt)
      have hlen:=sumLen_take_get ys q hlt
      have hrl:=rootOn_len (ys.take q)
      have hnx:=rootOn_take_succ ys q hlt
      rw [← hx] at g1' hrd q1 hlen hnx
      obtain ⟨oa2,c2,I⟩:=hrd.ints
      rw [← hr.out] at hrl hnx
      have hval:=I.val
      simp only [Value.slice.injEq,true_and] at hval
      obtain ⟨rfl,rfl⟩:=hval
      have HI:=Lib.hid I
      have HN:=Lib.hid hnx
      have hrb:r.length + x.length ≤ 1000000001:=by omega
      clear hc g1 hx hrd I hnx hrl hlen
      go_wp2_with fail
      go_loopw [9,11] (fun o i wr => ∃ (m:Nat) (z:List Int),m ≤ x.length∧i = .int .i64 m∧Hid (z = r ++ (x.take m).map (· + 1))∧(∃ oa cap,o = .slice oa z.length cap)∧Hid (Own (RS RI) wo.heap.size wr.heap.size wr [o] z)∧Below wo.heap.size wo wr) (fun _ i _ => x.length - (intOf i).toNat)
      case atStart => exact ⟨0,r,Nat.zero_le _,rfl,Lib.hid (by simp),⟨o1,cap1,rfl⟩,hown,hbelq⟩
      case round =>
       obtain ⟨m,z,hm,rfl,hz,⟨o2,cap2,rfl⟩,hown2,hbel2⟩:=hrel
       have hsz2':=hbel2.size
       have g2:wr.cell? ⟨g0,q,none⟩ = some (.slice oi x.length ci):=(hbel2.cell (p:=⟨g0,q,none⟩) hb).trans g1'
       by_cases hlt2:m < x.length
       ·obtain ⟨b2,off2,rfl,hb2,hc2⟩:=HI.out.get hlt2
        have g3:wr.cell? ⟨b2,off2 + m,none⟩ = some (.int .i64 x[m]):=(hbel2.cell (p:=⟨b2,off2 + m,none⟩) hb2).trans (hc2 m hlt2)
        have hy:=hsm x[m] (List.getElem_mem hlt2)
        obtain ⟨y1,y2⟩:=hy
        have hms:=map_take_snoc x m hlt2
        obtain ⟨y,hy⟩:∃ y,y = x[m]:=⟨_,rfl⟩
        rw [← hy] at g3 y1 y2 hms
        have hll:z.length ≤ 1000000002:=by rw [hz.out];simp;omega
        have hw1:IntKind.i64.wrap (y + 1) = y + 1:=IntWalk.i64_in _ (by omega)
        have HM:=Lib.hid hms
        clear hc2 hy hms hsm
        go_wp2_with (at_builtin;refine StopAt (o:=⟨some 80,_,_,_,_,_⟩) ?_)
        refine Stop.go ?_
        refine wpList_snoc (w:=wr) (R:=RI) rfl _ _ 24 rfl 2 (.int .i64 0) 1 8 tI64 rfl (.slice o2 z.length cap2) z (y + 1) [.int .i64 (y + 1)] wo.heap.size wr.heap.size wr.heap.size rfl hown2.out (Own.int ⟨by omega,by omega⟩) (Nat.le_refl _) hsz2' 2 rfl rfl (by omega) (by omega) ?_
        intro oa1 cap1 w1' hown1 c1a c1b hbel1
        have hb3:=hbel2.trans hbel1
        obtain ⟨z',hz'⟩:∃ z',z' = z ++ [y + 1]:=⟨_,rfl⟩
        have HZ:Hid (z' = r ++ (x.take (m + 1)).map (· + 1)):=Lib.hid (by rw [hz',hz.out,HM.out,List.append_assoc])
        have e1:z.length + 1 = z'.length:=by rw [hz'];simp
        rw [← hz',e1] at hown1
        have HO1':Hid (Own (RS RI) wo.heap.size w1'.heap.size w1' [.slice oa1 z'.length cap1] z'):=hown1
        rw [e1]
        clear hown1 hbel1 hown2 hown e1 hz'
        go_wp2_with fail
        go_roundw
        case rel => exact ⟨m + 1,z',by omega,by go_num,HZ,⟨_,_,rfl⟩,HO1',hb3⟩
        case measure => simp [intOf];omega
       ·have HZ:Hid (z = rootOn (ys.take (q + 1))):=Lib.hid (by rw [HN.out,hz.out,List.take_of_length_le (by omega)])
        go_wp2_with fail
        go_roundw
        case rel => exact ⟨q + 1,z,by omega,by go_num,HZ,⟨_,_,rfl⟩,hown2,hbel2⟩
        case measure => simp [intOf];omega
     ·have hfin:ys.take q = ys:=List.take_of_length_le (by omega)
      have HF:Hid (r = canon t):=Lib.hid (by rw [hr.out,hfin,HYC.out])
      clear hfin
      go_wp2_with fail
      go_ret
      exact ⟨_,rfl,by rw [← HF.out];exact hown.out.mono (Nat.le_trans hsz1 hsz2) (Nat.le_refl _),b1.trans ((hbel.trans (hbelq.mono hsz2)).mono hsz1)⟩
end Go.Proofs.Ytedgfkpfhonlpaa
namespace Go.Proofs.Ytedgfkpfhonlpaa
open Go.RowKit
section
variable {P:Program} {w:World}
theorem step_call {ops:Array Oper} {o:Oper} {a:Act} {K:Act→World→Prop} {Q:Exit→Act→World→Prop} {E:Prop} (hgd:o.guard = none) (f:FuncId) (args:Array Operand) (ts:Array TypeId)
  (ho:o.op = .call { callee:=.value (.func f),args:=args,argTypes:=ts }) (eg:∀ args w,(callFunc f args).run P w = .ok (.enter f args) w) (vs:Array Value) (hv:args.map a.eval = vs)
  (h:Calls P f vs w fun e w' => ∃ v,e = .returned v∧K (a.put o.dst v) w'):if Region.wanted o (yielded ops a.tmps) = true then Oper.wp P o a w K Q else E:=by
 have hw:Region.wanted o (yielded ops a.tmps) = true:=by simp [Region.wanted,hgd]
 rw [if_pos hw]
 subst hv
 unfold Oper.wp
 have hrun:(execOp a.eval o).run P w = .ok (.enter f (args.map a.eval)) w:=by
  simp [execOp,ho,resolve,invoke,Act.eval,Deferred.ofValue,eg]
 rw [hrun,Oper.upon_enter]
 refine h.mono ?_
 rintro e w' ⟨v,rfl,hk⟩
 exact hk
theorem step_appendS {ops:Array Oper} {o:Oper} {a:Act} {K:Act→World→Prop} {Q:Exit→Act→World→Prop} {E:Prop} (hgd:o.guard = none) (s x:Operand) (t:TypeId)
  (ho:o.op = .call { callee:=.builtin .append,args:=#[s,x],argTypes:=#[t,t] })
  (e:TypeId) (z:Value) (k bytes:Nat) (T:ST P t e z k bytes)
  (v:Value) (n:Nat) (ds:List Value) (og:Option Nat) (hs:a.eval s = v) (hown:Row w v k n ds og)
  (ao:Option Addr) (m c:Nat) (news:List Value) (hx:a.eval x = .slice ao m c) (hl:news.length = m * k) (hnone:ao = none→m = 0) (hnews:∀ a,ao = some a→∀ j u,news[j]? = some u→w.cell? (a.add j) = some u) (h1:∀ u ∈ news,u.oneCell' = true)
  (hbytes:(n + m) * bytes ≤ 140737488355328) (h63:n + m ≤ maxLen)
  (h:∀ v' w' og',Appended w w' v' k (n + m) (ds ++ news) og og'→K (a.put o.dst v') w'):if Region.wanted o (yielded ops a.tmps) = true then Oper.wp P o a w K Q else E:=by
 have hw:Region.wanted o (yielded ops a.tmps) = true:=by simp [Region.wanted,hgd]
 rw [if_pos hw]
 obtain ⟨v',w',og',hr,h2⟩:=run_append_row (P:=P) (w:=w) t o.type e z k bytes T v n ds og hown ao m c news hl hnone hnews h1 hbytes h63
 unfold Oper.wp execOp
 simp only [ho,resolve,invoke,builtin,Sem.run_bind,Sem.run_pure,Result.andThen_ok,List.map_toArray,List.map_cons,List.map_nil,hs,hx,hr]
 exact h v' w' og' h2
end
end Go.Proofs.Ytedgfkpfhonlpaa
namespace Go.Proofs.Ytedgfkpfhonlpaa
open Go.RowKit
def forest (list:List (List Int)):List (List Int):=sortC cmpT list
set_option maxRecDepth 100000 in
set_option maxHeartbeats 400000 in
theorem c_slicesClone (v:Value) (xs:List Int) (w:World) (h:Rd (RS RI) w [v] xs) (hsz:xs.length ≤ 1000000000) :
  Calls Try.prog 95 #[v] w (RetO (RS RI) w xs):=by
 obtain ⟨oa,c1,I1⟩:=h.ints
 obtain rfl:=I1.val
 have m1:=I1.le;have m2:=I1.capLe
 unfold maxLen at m2
 have q22:∀ (w:World) (a:Option Addr) (n c n' c':Nat),(binOp .eql 24 (.slice a n c) (.slice none n' c')).run Try.prog w = .ok (.bool a.isNone) w:=fun w a n c n' c' => Lib.run_eql_slice_nil w _ _ a n c n' c' tI64.ht
 cases oa with
 | none =>
  have hc:=I1.noneCap rfl
  have hx:xs = []:=List.eq_nil_of_length_eq_zero (by omega)
  subst hx;subst hc
  clear h I1
  go_enter Try.func95,Try.ntmps95
  go_wp2_with fail
  go_ret
  exact ⟨_,rfl,Own.nil _ _,Below.refl _ _⟩
 | some ad =>
 have I2:Ints (w.alloc (.cells #[] 2)) (.slice (some ad) xs.length c1) xs (some ad) c1:=by
  refine ⟨rfl,m1,I1.capLe,I1.noneCap,I1.bd,?_⟩
  rcases I1.row with h|⟨b,off,e,hb,hc⟩
  ·exact .inl h
  ·refine .inr ⟨b,off,e,by simp;omega,fun j hj => ?_⟩
   rw [World.cell?_alloc_lt _ _ _ hb];exact hc j hj
 have hrow:=Row.lit w #[] 2 1 0 (by decide) (by simp)
 have HI:=Lib.hid I2
 have HR:=Lib.hid hrow
 clear I2 hrow
 go_enter Try.func95,Try.ntmps95
 go_wp2_with (at_builtin;refine StopAt (o:=⟨some 7,_,_,_,_,_⟩) ?_)
 refine Stop.go ?_
 refine wpList_appendS rfl _ _ 24 rfl 2 (.int .i64 0) 1 8 tI64 (.slice (some ⟨w.heap.size,0,none⟩) 0 0) 0 [] (some w.heap.size) rfl (by simpa using HR.out) (some ad) xs.length c1 (xs.map (Value.int .i64)) rfl (by simp) (fun h => by cases h) (Row.cells_ints HI.out) (by intro u hu;obtain ⟨x,_,rfl⟩:=List.mem_map.1 hu;rfl) (by omega) (by unfold maxLen;omega) ?_
 intro v' w' og' happ
 rw [Nat.zero_add,List.nil_append] at happ
 have hlow:=happ.low (B:=w.heap.size) (by simp) (fun g hg => by cases hg;exact Nat.le_refl _)
 have hbel:Below w.heap.size w w':=((Below.refl w.heap.size w).alloc (Nat.le_refl _) (.cells #[] 2)).trans hlow.2
 have hown:Own (RS RI) w.heap.size w'.heap.size w' [v'] xs:=Row.OwnI (by simpa using happ.1) I1.bd hlow.1
 have HO:=Lib.hid hown
 obtain ⟨oa',cap',rfl,_⟩:=hown.val
 clear hown happ hlow
 go_wp2_with fail
 go_ret
 exact ⟨_,rfl,HO.out,hbel⟩
theorem take_snoc (xs:List (List Int)) (k:Nat) (h:k < xs.length):xs.take (k + 1) = xs.take k ++ [xs[k]]:=List.take_succ_eq_append_getElem h
set_option maxRecDepth 100000 in
set_option maxHeartbeats 1000000 in
theorem c_impl_cloneRows (v:Value) (bs:List (List Int)) (w:World) (h:Rd (RS (RS RI)) w [v] bs) (hsz:bs.length ≤ 1000000000) (hsl:∀ b ∈ bs,b.length ≤ 1000000000) :
  Calls Try.prog 79 #[v] w (RetO (RS (RS RI)) w bs):=by
 obtain ⟨oa,cap,L⟩:=h.lists
 obtain rfl:=L.val
 have m1:=L.le;have m2:=L.capLe
 have HL:=Lib.hid L
 have HS:=Lib.hid hsl
 clear L h hsl
 go_enter Try.func79,Try.ntmps79
 go_wp2_with fail
 go_loopw [3,9] (fun o i wr => ∃ (k:Nat) (r:List (List Int)),k ≤ bs.length∧i = .int .i64 k∧Hid (r = bs.take k)∧r.length ≤ 1000000000∧(∃ oa cap,o = .slice oa r.length cap)∧Hid (Own (RS (RS RI)) w.heap.size wr.heap.size wr [o] r)∧Below w.heap.size w wr) (fun _ i _ => bs.length - (intOf i).toNat)
 case atStart => exact ⟨0,[],Nat.zero_le _,rfl,Lib.hid rfl,by simp,⟨_,_,rfl⟩,Lib.hid ((Own.empty (R:=RS RI) (w:=w) 24 w.heap.size (Nat.le_refl _)).top _ (by simp)),(Below.refl _ _).alloc (Nat.le_refl _) _⟩
 case round =>
  obtain ⟨k,r,hk,rfl,hr,hrl,⟨o1,cap1,rfl⟩,hown,hbel⟩:=hrel
  have hsz1:=hbel.size
  by_cases hlt:k < bs.length
  ·obtain ⟨b,off,rfl,hb,hc⟩:=HL.out.get hlt
   obtain ⟨oi,ci,g1,hrd,q1,q2⟩:=hc k hlt
   have g2:wr.cell? ⟨b,off + k,none⟩ = some (.slice oi bs[k].length ci):=(hbel.cell (p:=⟨b,off + k,none⟩) hb).trans g1
   obtain ⟨x,hx⟩:∃ x,x = bs[k]:=⟨_,rfl⟩
   have hxl:x.length ≤ 1000000000:=by rw [hx];exact HS.out _ (List.getElem_mem hlt)
   have hnx:=take_snoc bs k hlt
   have hrlen:r.length = k:=by rw [hr.out];simp;omega
   have hr2:r.length + 1 ≤ 1000000000:=by omega
   rw [← hx] at g2 hrd q1 hnx
   rw [← hr.out] at hnx
   have hcl:=c_slicesClone _ x wr (hrd.below hbel (Nat.le_refl _)) hxl
   have HN:=Lib.hid hnx
   clear hc g1 hx hrd hnx hrlen
   go_wp2_with (first|(go_at_call 95;refine hcl.mono ?_;rintro e w2 ⟨u,rfl,o2,b2⟩;obtain ⟨ou,cu,rfl,lu1,lu2⟩:=o2.val)|(at_builtin;refine StopAt (o:=⟨some 17,_,_,_,_,_⟩) ?_))
   refine Stop.go ?_
   have hb2:=b2.size
   refine wpList_snoc (w:=w2) (R:=RS RI) rfl _ _ 33 rfl 24 (.slice none 0 0) 1 24 tI64S rfl (.slice o1 r.length cap1) r x [.slice ou x.length cu] w.heap.size wr.heap.size w2.heap.size rfl (hown.out.below b2 (Nat.le_refl _)) o2 hb2 hsz1 24 rfl rfl (by omega) (by omega) ?_
   intro oa1 cap1' w1 hown1 c1a c1b hbel1
   have hb3:=(hbel.trans (b2.mono hsz1)).trans hbel1
   obtain ⟨r',hr'⟩:∃ r',r' = r ++ [x]:=⟨_,rfl⟩
   have HR:Hid (r' = bs.take (k + 1)):=Lib.hid (by rw [hr',HN.out])
   have e1:r.length + 1 = r'.length:=by rw [hr'];simp
   rw [← hr',e1] at hown1
   have HO:Hid (Own (RS (RS RI)) w.heap.size w1.heap.size w1 [.slice oa1 r'.length cap1'] r'):=hown1
   rw [e1] at hr2
   rw [e1]
   clear hown1 hbel1 hown e1 hr' hcl o2
   go_wp2_with fail
   go_roundw
   case rel => exact ⟨k + 1,r',by omega,by go_num,HR,hr2,⟨_,_,rfl⟩,HO,hb3⟩
   case measure => simp [intOf];omega
  ·have hfin:Hid (r = bs):=Lib.hid (by rw [hr.out,List.take_of_length_le (by omega)])
   go_wp2_with fail
   go_ret
   exact ⟨_,rfl,by rw [← hfin.out];exact hown.out,hbel⟩
set_option maxRecDepth 100000 in
set_option maxHeartbeats 1000000 in
theorem c_impl_forestOf (v:Value) (bs:List (List Int)) (w:World) (h:Rd (RS (RS RI)) w [v] bs) (hsz:bs.length ≤ 19) (hsl:∀ b ∈ bs,b.length ≤ 1000000000) :
  Calls Try.prog 48 #[v] w (RetO (RS (RS RI)) w (forest bs)):=by
 have hc:=c_impl_cloneRows v bs w h (by omega) hsl
 have EG:=Lib.hid (enters (P:=Try.prog) (f:=42) Try.func42 (by kernel_rfl) rfl)
 have HA:Hid (CmpAsk Try.prog 42 cmpT (fun _ => True)):=Lib.hid (fun w h1 h2 x y r1 r2 _ _ => c_impl_compareTrees h1 h2 x y w r1 r2)
 clear h hsl
 go_enter Try.func48,Try.ntmps48
 go_wp2_with (go_at_call 79;refine hc.mono ?_;rintro e w1 ⟨u,rfl,o1,b1⟩;obtain ⟨ou,cu,rfl,lu1,lu2⟩:=o1.val)
 have hs:=c_SortStable 42 cmpT cmpT_cmp (fun _ => True) EG.out HA.out _ bs w.heap.size w1.heap.size w1 o1 (fun _ _ => trivial) (by omega)
 have hb1:=b1.size
 clear o1 hc
 go_wp2_with (go_at_call 80;refine hs.mono ?_;rintro e w3 ⟨rfl,o3,ch3⟩)
 go_ret
 have hb3:Below w.heap.size w w3:=b1.trans (ch3.below (Nat.le_refl _) hb1)
 exact ⟨_,rfl,o3.mono (Nat.le_refl _) ch3.size,hb3⟩
def nodesB (bs:List (List Int)):Int:=bs.foldl (fun a b => wrap64 (a + b.length)) 0
theorem nodesB_take_succ (bs:List (List Int)) (k:Nat) (h:k < bs.length):nodesB (bs.take (k + 1)) = wrap64 (nodesB (bs.take k) + bs[k].length):=by
 unfold nodesB
 rw [List.take_succ_eq_append_getElem h,List.foldl_append];rfl
theorem nodesB_eq (bs:List (List Int)) (h:sumLen bs ≤ 1000000000000000000):nodesB bs = sumLen bs:=by
 have:∀ (bs:List (List Int)) (n:Nat),n + sumLen bs ≤ 1000000000000000000→bs.foldl (fun a b => wrap64 (a + (b.length:Int))) (n:Int) = (n + sumLen bs:Nat):=by
  intro bs
  induction bs with
  | nil => intro n _;simp [sumLen]
  | cons b bs ih =>
   intro n hn
   simp only [sumLen,List.map_cons,List.sum_cons] at hn
   rw [List.foldl_cons]
   have e:wrap64 ((n:Int) + b.length) = ((n + b.length:Nat):Int):=by unfold wrap64;omega
   rw [e,ih (n + b.length) (by unfold sumLen;omega)]
   simp only [sumLen,List.map_cons,List.sum_cons]
   omega
 unfold nodesB;simpa using this bs 0 (by omega)
set_option maxRecDepth 100000 in
set_option maxHeartbeats 1000000 in
theorem c_impl_nodesIn (v:Value) (bs:List (List Int)) (w:World) (h:Rd (RS (RS RI)) w [v] bs) :
  Calls Try.prog 50 #[v] w (RetS w (.int .i64 (nodesB bs))):=by
 obtain ⟨oa,cap,L⟩:=h.lists
 obtain rfl:=L.val
 have m1:=L.le;have m2:=L.capLe
 have HL:=Lib.hid L
 clear L h
 go_enter Try.func50,Try.ntmps50
 go_wp2_with fail
 go_loop [3,8] (fun s i => ∃ (k:Nat),k ≤ bs.length∧i = .int .i64 k∧s = .int .i64 (nodesB (bs.take k))) (fun _ i => bs.length - (intOf i).toNat)
 case atStart => exact ⟨0,Nat.zero_le _,rfl,rfl⟩
 case round =>
  obtain ⟨k,hk,rfl,rfl⟩:=hrel
  by_cases hlt:k < bs.length
  ·obtain ⟨b,off,rfl,hb,hc⟩:=HL.out.get hlt
   obtain ⟨oi,ci,g1,hrd,q1,q2⟩:=hc k hlt
   have hnx:=nodesB_take_succ bs k hlt
   obtain ⟨x,hx⟩:∃ x,x = bs[k].length:=⟨_,rfl⟩
   obtain ⟨s,hs⟩:∃ s,s = nodesB (bs.take k):=⟨_,rfl⟩
   rw [← hx] at g1 q1 hnx
   rw [← hs] at hnx
   rw [← hs]
   have hw:IntKind.i64.wrap (s + (x:Int)) = wrap64 (s + x):=IntWalk.i64_left _
   obtain ⟨g,hg⟩:∃ g,g = wrap64 (s + x):=⟨_,rfl⟩
   rw [← hg] at hw hnx
   have HN:=Lib.hid hnx
   clear hc hrd hx hs hg hnx
   go_wp2_with fail
   go_round
   case rel => exact ⟨k + 1,by omega,by go_num,by rw [HN.out]⟩
   case measure => simp [intOf];omega
  ·have hfin:bs.take k = bs:=List.take_of_length_le (by omega)
   have HF:=Lib.hid hfin
   clear hfin
   go_wp2_with fail
   go_ret
   exact ⟨by simp [HF.out],rfl⟩
set_option maxRecDepth 100000 in
set_option maxHeartbeats 1000000 in
theorem c_spec_l03Nodes (v:Value) (bs:List (List Int)) (w:World) (h:Rd (RS (RS RI)) w [v] bs) :
  Calls Try.prog 64 #[v] w (RetS w (.int .i64 (nodesB bs))):=by
 obtain ⟨oa,cap,L⟩:=h.lists
 obtain rfl:=L.val
 have m1:=L.le;have m2:=L.capLe
 have HL:=Lib.hid L
 clear L h
 go_enter Try.func64,Try.ntmps64
 go_wp2_with fail
 go_loop [3,4] (fun s i => ∃ (k:Nat),k ≤ bs.length∧i = .int .i64 k∧s = .int .i64 (nodesB (bs.take k))) (fun _ i => bs.length - (intOf i).toNat)
 case atStart => exact ⟨0,Nat.zero_le _,rfl,rfl⟩
 case round =>
  obtain ⟨k,hk,rfl,rfl⟩:=hrel
  by_cases hlt:k < bs.length
  ·obtain ⟨b,off,rfl,hb,hc⟩:=HL.out.get hlt
   obtain ⟨oi,ci,g1,hrd,q1,q2⟩:=hc k hlt
   have hnx:=nodesB_take_succ bs k hlt
   obtain ⟨x,hx⟩:∃ x,x = bs[k].length:=⟨_,rfl⟩
   obtain ⟨s,hs⟩:∃ s,s = nodesB (bs.take k):=⟨_,rfl⟩
   rw [← hx] at g1 q1 hnx
   rw [← hs] at hnx
   rw [← hs]
   have hw:IntKind.i64.wrap (s + (x:Int)) = wrap64 (s + x):=IntWalk.i64_left _
   obtain ⟨g,hg⟩:∃ g,g = wrap64 (s + x):=⟨_,rfl⟩
   rw [← hg] at hw hnx
   have HN:=Lib.hid hnx
   clear hc hrd hx hs hg hnx
   go_wp2_with fail
   go_round
   case rel => exact ⟨k + 1,by omega,by go_num,by rw [HN.out]⟩
   case measure => simp [intOf];omega
  ·have hfin:bs.take k = bs:=List.take_of_length_le (by omega)
   have HF:=Lib.hid hfin
   clear hfin
   go_wp2_with fail
   go_ret
   exact ⟨by simp [HF.out],rfl⟩
end Go.Proofs.Ytedgfkpfhonlpaa
namespace Go.Proofs.Ytedgfkpfhonlpaa
open Go.RowKit
def szII (xss:List (List Int)):Prop:=xss.length + sumLen xss ≤ 1048576
end Go.Proofs.Ytedgfkpfhonlpaa
namespace Go.Proofs.Ytedgfkpfhonlpaa
open Go.RowKit
def OwnF {α:Type} (R:Rep α) (F:List Nat) (w:World) (cs:List Value) (x:α):Prop:=R.own w cs x F∧F.Nodup
theorem OwnF.of {α:Type} {R:Rep α} {lo hi:Nat} {w:World} {cs:List Value} {x:α} (h:Own R lo hi w cs x):∃ F,OwnF R F w cs x∧∀ b,b ∈ F→lo ≤ b∧b < hi :=
 let ⟨F,h1,h2,h3⟩:=h;⟨F,⟨h1,h2⟩,h3⟩
theorem OwnF.to {α:Type} {R:Rep α} {lo hi:Nat} {F:List Nat} {w:World} {cs:List Value} {x:α} (h:OwnF R F w cs x) (hb:∀ b,b ∈ F→lo ≤ b∧b < hi):Own R lo hi w cs x:=⟨F,h.1,h.2,hb⟩
theorem OwnF.frame {α:Type} {R:Rep α} {F:List Nat} {w w':World} {cs:List Value} {x:α} (h:OwnF R F w cs x) (hf:∀ b,b ∈ F→w'.heap[b]? = w.heap[b]?):OwnF R F w' cs x:=⟨R.own_frame h.1 hf,h.2⟩
theorem OwnF.lt {α:Type} {R:Rep α} {F:List Nat} {w:World} {cs:List Value} {x:α} (h:OwnF R F w cs x):∀ b,b ∈ F→b < w.heap.size:=R.own_lt h.1
theorem OwnF.rd {α:Type} {R:Rep α} {F:List Nat} {w:World} {cs:List Value} {x:α} (h:OwnF R F w cs x):Rd R w cs x:=R.rd_mono (R.own_rd h.1) (fun _ _ h => h)
structure ChgF (F:List Nat) (w w':World):Prop where
 os:w'.os = w.os
 tape:w'.tape = w.tape
 output:w'.output = w.output
 size:w.heap.size ≤ w'.heap.size
 block:∀ k,k < w.heap.size→k ∉ F→w'.heap[k]? = w.heap[k]?
theorem ChgF.refl (F:List Nat) (w:World):ChgF F w w:=⟨rfl,rfl,rfl,Nat.le_refl _,fun _ _ _ => rfl⟩
theorem ChgF.of_grown {w w':World} {og:Option Nat} (h:w.grownBy w' og):ChgF og.toList w w':=⟨h.os,h.tape,h.output,h.size,fun k hk hn => h.block k hk (fun e => hn (by simp [← e]))⟩
theorem ChgF.mono {F G:List Nat} {w w':World} (h:ChgF F w w') (hs:∀ b,b ∈ F→b ∈ G):ChgF G w w':=⟨h.os,h.tape,h.output,h.size,fun k hk hn => h.block k hk (fun e => hn (hs k e))⟩
theorem ChgF.trans {F:List Nat} {a b c:World} (h:ChgF F a b) (k:ChgF F b c):ChgF F a c :=
 ⟨k.os.trans h.os,k.tape.trans h.tape,k.output.trans h.output,Nat.le_trans h.size k.size,fun i hi hn => (k.block i (Nat.lt_of_lt_of_le hi h.size) hn).trans (h.block i hi hn)⟩
theorem ChgF.below {F:List Nat} {w w':World} {B:Nat} (h:ChgF F w w') (hB:B ≤ w.heap.size) (hF:∀ b,b ∈ F→B ≤ b):Below B w w' :=
 ⟨h.os,h.tape,h.output,h.size,fun k hk => h.block k (by omega) (fun e => by have:=hF k e;omega)⟩
section
variable {α:Type} {R:Rep α} {w:World}
end
theorem Rd.lit {α:Type} {R:Rep α} {w W:World} {ds:List Value} {xs:List α} {E:TypeId} (h:rdL R (fun b => b < w.heap.size) w ds xs) (e:W.heap = (w.alloc (.cells ds.toArray E)).heap) (hn:xs.length ≤ maxLen) :
  Rd (RS R) W [.slice (some ⟨w.heap.size,0,none⟩) xs.length xs.length] xs:=by
 refine Rd.of_heap (w:=w.alloc (.cells ds.toArray E)) ?_ e
 have hb:Below w.heap.size w (w.alloc (.cells ds.toArray E)):=(Below.refl _ _).alloc (Nat.le_refl _) _
 refine ⟨some ⟨w.heap.size,0,none⟩,xs.length,ds,rfl,Nat.le_refl _,hn,by simp,?_,.inr ⟨w.heap.size,0,rfl,by simp,fun j u hj => ?_⟩⟩
 ·exact (h.frame (fun b h1 _ => hb.block b h1)).mono (fun b h1 h2 => h2)
 ·rw [Nat.zero_add,World.cell?_alloc_at _ _ _ _ rfl]
  simpa using hj
end Go.Proofs.Ytedgfkpfhonlpaa
namespace Go.Proofs.Ytedgfkpfhonlpaa
open Go.RowKit
theorem mixed_ok:Try.prog.follows .mixedOrders = true:=by kernel_rfl
section
variable {P:Program} {f:FuncId}
theorem rdLL {A:Nat→Prop} {w:World} {xs:List (List Int)} {v:Value} (h:relArg A w (eLL xs) v):(RS (RS RI)).rd A w [v] xs:=((encS (encS encI)).rdV (x:=xs) rfl).2 h
theorem arg_int {A:Nat→Prop} {w:World} {n:Int} {v:Value} (h:relArg A w (eI n) v):v = .int .i64 n:=(rdV_int.1 h).1
theorem afn_L_s {t:List Int} {d:D} {v:Value} (eg:∀ args w,(callFunc f args).run P w = .ok (.enter f args) w) (hd:∀ A w,rdV A w v d) (h:∀ u w,Rd (RS RI) w [u] t→Calls P f #[u] w (RetS w v)):AFn P f [eL t] (· = [.val d]) :=
 AFn.of_s eg hd (fun w A vs ⟨v1,_,e1,h1,e2⟩ => by subst e2;subst e1;exact h v1 w (Rd.of (rd1 h1)))
theorem afn_L_q {t:List Int} {d:D} {v:Value} (eg:∀ args w,(callFunc f args).run P w = .ok (.enter f args) w) (hd:∀ A w,rdV A w v d) (h:∀ u w,Rd (RS RI) w [u] t→Calls P f #[u] w (RetQ w v)):AFn P f [eL t] (· = [.val d]) :=
 AFn.of_q eg hd (fun w A vs ⟨v1,_,e1,h1,e2⟩ => by subst e2;subst e1;exact h v1 w (Rd.of (rd1 h1)))
theorem afn_LL_q {s t:List Int} {d:D} {v:Value} (eg:∀ args w,(callFunc f args).run P w = .ok (.enter f args) w) (hd:∀ A w,rdV A w v d) (h:∀ u1 u2 w,Rd (RS RI) w [u1] s→Rd (RS RI) w [u2] t→Calls P f #[u1,u2] w (RetQ w v)):AFn P f [eL s,eL t] (· = [.val d]) :=
 AFn.of_q eg hd (fun w A vs ⟨v1,_,e1,h1,v2,_,e2,h2,e3⟩ => by subst e3;subst e2;subst e1;exact h v1 v2 w (Rd.of (rd1 h1)) (Rd.of (rd1 h2)))
theorem afn_L_o {t r:List Int} (eg:∀ args w,(callFunc f args).run P w = .ok (.enter f args) w) (h:∀ u w,Rd (RS RI) w [u] t→Calls P f #[u] w (RetO (RS RI) w r)):AFn P f [eL t] (· = [.own 1 (r.map eI) true]) :=
 AFn.of_o encI eg (fun w A vs ⟨v1,_,e1,h1,e2⟩ => by subst e2;subst e1;exact h v1 w (Rd.of (rd1 h1)))
theorem afn_L_oo {t:List Int} {r:List (List Int)} (eg:∀ args w,(callFunc f args).run P w = .ok (.enter f args) w) (h:∀ u w,Rd (RS RI) w [u] t→Calls P f #[u] w (RetO (RS (RS RI)) w r)):AFn P f [eL t] (· = [.own 1 (r.map eL) true]) :=
 AFn.of_o (encS encI) eg (fun w A vs ⟨v1,_,e1,h1,e2⟩ => by subst e2;subst e1;exact h v1 w (Rd.of (rd1 h1)))
theorem afn_LLL_oo {t r:List (List Int)} (eg:∀ args w,(callFunc f args).run P w = .ok (.enter f args) w) (h:∀ u w,Rd (RS (RS RI)) w [u] t→Calls P f #[u] w (RetO (RS (RS RI)) w r)):AFn P f [eLL t] (· = [.own 1 (r.map eL) true]) :=
 AFn.of_o (encS encI) eg (fun w A vs ⟨v1,_,e1,h1,e2⟩ => by subst e2;subst e1;exact h v1 w (Rd.of (rdLL h1)))
theorem afn_LLL_s {t:List (List Int)} {d:D} {v:Value} (eg:∀ args w,(callFunc f args).run P w = .ok (.enter f args) w) (hd:∀ A w,rdV A w v d) (h:∀ u w,Rd (RS (RS RI)) w [u] t→Calls P f #[u] w (RetS w v)):AFn P f [eLL t] (· = [.val d]) :=
 AFn.of_s eg hd (fun w A vs ⟨v1,_,e1,h1,e2⟩ => by subst e2;subst e1;exact h v1 w (Rd.of (rdLL h1)))
end
def Rg {α:Type} (R:Rep α) (lo hi:Nat) (w:World) (cs:List Value) (x:α):Prop:=R.rd (fun b => lo ≤ b∧b < hi) w cs x
theorem Rg.rd {α:Type} {R:Rep α} {lo hi:Nat} {w:World} {cs:List Value} {x:α} (h:Rg R lo hi w cs x):Rd R w cs x:=R.rd_mono h (fun _ _ h => h)
theorem Rg.frame {α:Type} {R:Rep α} {lo hi:Nat} {w w':World} {cs:List Value} {x:α} (h:Rg R lo hi w cs x) (hf:∀ b,lo ≤ b→b < hi→b < w.heap.size→w'.heap[b]? = w.heap[b]?):Rg R lo hi w' cs x:=R.rd_frame h (fun b hb hl => hf b hb.1 hb.2 hl)
theorem Rg.below {α:Type} {R:Rep α} {lo hi B:Nat} {w w':World} {cs:List Value} {x:α} (h:Rg R lo hi w cs x) (hb:Below B w w') (hB:hi ≤ B):Rg R lo hi w' cs x:=h.frame (fun b _ h2 _ => hb.block b (by omega))
theorem Rg.apart {α:Type} {R:Rep α} {w w':World} {cs:List Value} {x:α} {lo hi l h:Nat} (o:Rg R l h w cs x) (c:Chg lo hi w w') (ha:h ≤ lo ∨ hi ≤ l):Rg R l h w' cs x:=o.frame (fun b h1 h2 h3 => c.block b h3 (by omega))
section
variable {P:Program} {f:FuncId} {α:Type} {R:Rep α} {e:α→List D}
theorem AFn.one {ds:List (List D)} {v:Value} {d:D} (hd:∀ A w u,rdV A w u d→u = v) (h:AFn P f ds (· = [.val d])) {w:World} {vs:List Value} (hv:relArgs (· < w.heap.size) w ds vs) :
  Calls P f vs.toArray w (RetV w v):=by
 refine (h.fn _ w vs (fun _ h => h) hv).mono ?_
 rintro e' w' ⟨v',rs,rfl,rfl,hb,us,G,X,rfl,hG,hG2,u,us',G1,G2,Y1,Y2,rfl,rfl,rfl,h1,⟨h4,_,_⟩,rfl,rfl,rfl⟩
 rw [hd _ _ _ h4]
 exact ⟨rfl,hb⟩
theorem args1 {w:World} {a:List D} {u:Value} (h:relArg (· < w.heap.size) w a u):relArgs (· < w.heap.size) w [a] [u]:=⟨u,[],rfl,h,rfl⟩
end
end Go.Proofs.Ytedgfkpfhonlpaa
namespace Go.Proofs.Ytedgfkpfhonlpaa
open Go.RowKit
theorem a_l03Before (xs ys:List Int):AFn Try.prog 45 [eL xs,eL ys] (· = [.val (.bool (decide (cmpT xs ys < 0)))]) :=
 AFn.of_q (v:=.bool _) (enters_of Try.func45 rfl rfl) (fun _ _ => rdV_bool.2 rfl) (fun w A vs ⟨v1,_,e1,h1,v2,_,e2,h2,e3⟩ => by subst e3;subst e2;subst e1;exact c_spec_l03Before v1 v2 xs ys w (Rd.of (rd1 h1)) (Rd.of (rd1 h2)))
theorem a_l01Same (xs ys:List Int):AFn Try.prog 98 [eL xs,eL ys] (· = [.val (.bool (decide (xs = ys)))]) :=
 AFn.of_q (v:=.bool _) (enters_of Try.func98 rfl rfl) (fun _ _ => rdV_bool.2 rfl) (fun w A vs ⟨v1,_,e1,h1,v2,_,e2,h2,e3⟩ => by subst e3;subst e2;subst e1;exact c_spec_l01Same v1 v2 xs ys w (Rd.of (rd1 h1)) (Rd.of (rd1 h2)))
theorem a_l01Own (xs:List Int) (hsz:xs.length ≤ 1000000000):AFn Try.prog 90 [eL xs] (· = [.own 1 (xs.map eI) true]) :=
 AFn.of_o encI (enters_of Try.func90 rfl rfl) (fun w A vs ⟨v1,_,e1,h1,e2⟩ => by subst e2;subst e1;exact c_spec_l01Own v1 xs w (Rd.of (rd1 h1)) hsz)
theorem cmpT_in64 {xs ys:List Int} (h1:xs.length ≤ maxLen) (h2:ys.length ≤ maxLen):In64 (cmpT xs ys):=by
 unfold maxLen at h1 h2
 unfold cmpT In64
 have:=cmpL_range ys xs
 split <;> omega
theorem a_compareTrees (xs ys:List Int):AFn Try.prog 42 [eL xs,eL ys] (· = [.val (.int (cmpT xs ys))]):=by
 refine ⟨enters_of Try.func42 rfl rfl,fun A w vs hA ⟨v1,_,e1,h1,v2,_,e2,h2,e3⟩ => ?_⟩
 subst e3;subst e2;subst e1
 obtain ⟨oa,c1,k1,m1,m2⟩:=(Rd.of (rd1 h1)).val
 obtain ⟨ob,c2,k2,m3,m4⟩:=(Rd.of (rd1 h2)).val
 refine (c_impl_compareTrees v1 v2 xs ys w (Rd.of (rd1 h1)) (Rd.of (rd1 h2))).mono ?_
 rintro e w' ⟨rfl,rfl⟩
 exact ⟨_,_,rfl,rfl,Below.refl _ _,[_],[],[],rfl,List.nodup_nil,by simp,_,[],[],[],[],[],rfl,rfl,rfl,rfl,⟨rdV_int.2 ⟨rfl,cmpT_in64 (by omega) (by omega)⟩,rfl,rfl⟩,rfl,rfl,rfl⟩
theorem a_impl_IsLevels (t:List Int):AFn Try.prog 9 [eL t] (· = [.val (.bool (lev8 t))]):=afn_L_s (v:=.bool _) (enters_of Try.func9 rfl rfl) (fun _ _ => rdV_bool.2 rfl) (fun u w h => c_impl_IsLevels u t w h)
theorem a_spec_l03Is (t:List Int) (hsz:t.length ≤ 1048576):AFn Try.prog 38 [eL t] (· = [.val (.bool (lev8 t))]):=afn_L_q (v:=.bool _) (enters_of Try.func38 rfl rfl) (fun _ _ => rdV_bool.2 rfl) (fun u w h => c_spec_l03Is u t w h (by omega))
theorem a_slicesEqual (xs ys:List Int):AFn Try.prog 47 [eL xs,eL ys] (· = [.val (.bool (decide (xs = ys)))]):=afn_LL_q (v:=.bool _) (enters_of Try.func47 rfl rfl) (fun _ _ => rdV_bool.2 rfl) (fun u1 u2 w h1 h2 => c_slicesEqual u1 u2 xs ys w h1 h2)
theorem a_l03Canon (t:List Int) (h:LevP t) (hl:t.length ≤ 8):AFn Try.prog 44 [eL t] (· = [.own 1 ((canon t).map eI) true]) :=
 afn_L_o (enters_of Try.func44 rfl rfl) (fun u w h' => c_spec_l03Canon 8 u t w h' h hl (by omega))
theorem a_canonical (t:List Int) (h:LevP t) (hl:t.length ≤ 8):AFn Try.prog 43 [eL t] (· = [.own 1 ((canon t).map eI) true]) :=
 afn_L_o (enters_of Try.func43 rfl rfl) (fun u w h' => c_impl_canonical 8 u t w h' h hl (by omega))
theorem nodesB_in64 (f:List (List Int)):In64 (nodesB f):=by
 have:∀ (bs:List (List Int)) (a:Int),In64 a→In64 (bs.foldl (fun a b => wrap64 (a + (b.length:Int))) a):=by
  intro bs
  induction bs with
  | nil => intro a h;exact h
  | cons b bs ih => intro a _;exact ih _ (by show In64 (wrap64 (a + (b.length:Int)));unfold In64 wrap64;omega)
 exact this f 0 (by unfold In64;omega)
theorem a_nodesIn (f:List (List Int)):AFn Try.prog 50 [eLL f] (· = [.val (.int (nodesB f))]) :=
 afn_LLL_s (enters_of Try.func50 rfl rfl) (fun _ _ => rdV_int.2 ⟨rfl,nodesB_in64 f⟩) (fun u w h => c_impl_nodesIn u f w h)
theorem a_l03Nodes (f:List (List Int)):AFn Try.prog 64 [eLL f] (· = [.val (.int (nodesB f))]) :=
 afn_LLL_s (enters_of Try.func64 rfl rfl) (fun _ _ => rdV_int.2 ⟨rfl,nodesB_in64 f⟩) (fun u w h => c_spec_l03Nodes u f w h)
end Go.Proofs.Ytedgfkpfhonlpaa
namespace Go.Proofs.Ytedgfkpfhonlpaa
open Go.RowKit
theorem telT_none (s:St) (u:List Nat):telT s u Option.none = Option.none:=rfl
theorem Zg:type_of% (And.intro (And.intro (And.intro (And.intro (And.intro (And.intro (And.intro @arun.eq_1 (And.intro @arun.eq_2 @astep.eq_def)) (And.intro (And.intro @anew.eq_def @amut.eq_def) (And.intro @isMut.eq_def @awanted.eq_def))) (And.intro (And.intro @avG.eq_def (And.intro @Bool.true_beq @Bool.false_beq)) (And.intro (And.intro @beq_true @beq_false) (And.intro @dstOK.eq_def @cfg.eq_def)))) (And.intro (And.intro (And.intro @opv.eq_def (And.intro @noJunk.eq_def @constAV.eq_def)) (And.intro (And.intro @look_eq @lookB.eq_1) (And.intro @lookB.eq_2 @insR_eq))) (And.intro (And.intro @insB.eq_1 (And.intro @insB.eq_2 @cond_true.{1})) (And.intro (And.intro @cond_false.{1} @insAll.eq_def) (And.intro @List.foldr_cons.{0,0} @List.foldr_nil.{0,0}))))) (And.intro (And.intro (And.intro (And.intro @Option.bind_some.{0,0} (And.intro @Option.map_some.{0,0} @Option.bind_none.{0,0})) (And.intro (And.intro @Option.map_none.{0,0} @Option.getD_some.{0}) (And.intro @Option.getD_none.{0} @Bool.false_eq_true))) (And.intro (And.intro @decide_true (And.intro @decide_false @slT.eq_def)) (And.intro (And.intro @tyT.eq_def (And.intro @tyT2.eq_def (And.intro @tyT3.eq_def @slT2.eq_def))) (And.intro @fsT.eq_def @avD.eq_def)))) (And.intro (And.intro (And.intro @avI.eq_def (And.intro @avB.eq_def @dval.eq_def)) (And.intro (And.intro @un_int @un_bool) (And.intro @un_raw @un_sl))) (And.intro (And.intro (And.intro @un_tag @avun_val) (And.intro @avun_nil @avun_own)) (And.intro (And.intro @avun_view @abin.eq_def) (And.intro @aun.eq_def @alen.eq_def)))))) (And.intro (And.intro (And.intro (And.intro (And.intro @aindex.eq_def (And.intro @aslice.eq_def @afield.eq_def)) (And.intro (And.intro @acells.eq_def @aload.eq_def) (And.intro @avCells.eq_def @zAC.eq_def))) (And.intro (And.intro @afill.eq_1 (And.intro @afill.eq_2 @aparts.eq_1)) (And.intro (And.intro @aparts.eq_2 @mkObj.eq_def) (And.intro @rowsD.eq_1 @rowsD.eq_2)))) (And.intro (And.intro (And.intro @cellsD.eq_1 (And.intro @cellsD.eq_2 @cellsD.eq_3)) (And.intro (And.intro @cellD_vsl @cellD_vtag) (And.intro @cellD_vint @cellD_vbool))) (And.intro (And.intro @cellD_vraw (And.intro @cellD_nilsl @cellD_own)) (And.intro (And.intro @cellD_view @cellD_junk) (And.intro @fresh.eq_def @abase.eq_def))))) (And.intro (And.intro (And.intro (And.intro @aelems.eq_def (And.intro @absorbKey.eq_def @absorbs.eq_1)) (And.intro (And.intro @absorbs.eq_2 @absorbs.eq_3) (And.intro @absorb.eq_def @absorbRows.eq_1))) (And.intro (And.intro @absorbRows.eq_2 (And.intro @drop_eq @dropB.eq_1)) (And.intro (And.intro @dropB.eq_2 @killR.eq_def) (And.intro @AC.kill.eq_def @AV.kill.eq_def)))) (And.intro (And.intro (And.intro @AV.refs.eq_def (And.intro @AC.refs.eq_def @Obj.refs.eq_def)) (And.intro (And.intro @List.map_cons.{0,0} @List.map_nil.{0,0}) (And.intro @List.all_cons.{0} @List.all_nil.{0}))) (And.intro (And.intro (And.intro @List.flatMap_cons.{0,0} @List.flatMap_nil.{0,0}) (And.intro @List.contains_nil.{0} @List.contains_cons.{0})) (And.intro (And.intro @List.append_nil.{0} @List.nil_append.{0}) (And.intro @List.cons_append.{0} @Bool.and_true))))))) (And.intro (And.intro (And.intro (And.intro (And.intro (And.intro @Bool.true_and (And.intro @Bool.not_true @Bool.not_false)) (And.intro (And.intro @Bool.and_self @Option.isNone_none.{0}) (And.intro @Option.isNone_some.{0} @List.length_cons.{0}))) (And.intro (And.intro @List.length_nil.{0} (And.intro @List.toList_toArray.{0} @List.getElem?_toArray.{0})) (And.intro (And.intro @splice.eq_def @List.take_succ_cons.{0}) (And.intro @List.drop_succ_cons.{0} @List.take_zero.{0})))) (And.intro (And.intro (And.intro @List.drop_zero.{0} (And.intro @List.take_nil.{0} @List.drop_nil.{0})) (And.intro (And.intro @Nat.zero_add @Nat.add_zero) (And.intro @and_self @true_and))) (And.intro (And.intro @and_true (And.intro @List.getElem?_cons_zero.{0} @List.getElem?_cons_succ.{0})) (And.intro (And.intro @List.getElem?_nil.{0} @beq_self_eq_true.{0}) (And.intro @Bool.or_false @Bool.false_or))))) (And.intro (And.intro (And.intro (And.intro @Bool.or_true (And.intro @Bool.true_or @putR.eq_def)) (And.intro (And.intro @bne_self_eq_false.{0} @Bool.and_false) (And.intro @Bool.false_and @id_eq.{1}))) (And.intro (And.intro @Obj.k.eq_def (And.intro @Obj.len.eq_def @Obj.deep.eq_def)) (And.intro (And.intro @List.getElem?_cons.{0} @List.set_cons_zero.{0}) (And.intro @List.set_cons_succ.{0} @List.length_set.{0})))) (And.intro (And.intro (And.intro @aopsT.eq_1 (And.intro @aopsT.eq_2 @astepT.eq_def)) (And.intro (And.intro @isCall.eq_def @acallT.eq_def) (And.intro @arg1.eq_def @argV_raw))) (And.intro (And.intro (And.intro @argV_nil @argV_own) (And.intro @argV_view @argV_agg)) (And.intro (And.intro @argV_sl @argV_int) (And.intro @argV_bool @argV_tag)))))) (And.intro (And.intro (And.intro (And.intro (And.intro (And.intro (And.intro @isOwn.eq_def @isPin.eq_def) (And.intro (And.intro @callP.eq_def @pinE_pin) (And.intro @putP_some @Tab.pin.eq_def))) (And.intro @callE.eq_def @ownKey.eq_def)) (And.intro (And.intro @rowE_row @putE_some) (And.intro @putE_none @Tab.own.eq_def))) (And.intro (And.intro @Tab.at'.eq_def (And.intro @atArgs_eq @Option.isSome_some.{0})) (And.intro (And.intro @Option.isSome_none.{0} @gotT_some) (And.intro @gotF_some @gotF_none)))) (And.intro (And.intro (And.intro @callRefs_call (And.intro @St.frzs.eq_1 @St.frzs.eq_2)) (And.intro (And.intro @St.frz.eq_def @AC.frz.eq_def) (And.intro @AV.frz.eq_def @Obj.frz.eq_def))) (And.intro (And.intro (And.intro @frzR.eq_1 @frzR.eq_2) (And.intro @frzH.eq_1 @frzH.eq_2)) (And.intro (And.intro @telT_some @List.size_toArray.{0}) (And.intro @aargs.eq_1 @aargs.eq_2))))) (And.intro (And.intro (And.intro (And.intro @aargs.eq_3 (And.intro @argAV.eq_def @argCells.eq_1)) (And.intro (And.intro @argCells.eq_2 @argCells.eq_3) (And.intro @argCell.eq_def @fnId.eq_def))) (And.intro (And.intro @opRefs_nil (And.intro @opRefs_cons @St.got.eq_def)) (And.intro (And.intro @resACs.eq_1 @resACs.eq_2) (And.intro @resAC.eq_def @outAV.eq_def)))) (And.intro (And.intro (And.intro @Res.scalar.eq_def (And.intro @isSl.eq_def @Tab.add.eq_def)) (And.intro (And.intro @Tab.none.eq_def @tab1.eq_def) (And.intro @tab2.eq_def @tab3.eq_def))) (And.intro (And.intro (And.intro @codL_d @codLL_d) (And.intro @codI_d @codB_d)) (And.intro (And.intro @codCts_d @List.isEmpty_nil.{0}) (And.intro @List.isEmpty_cons.{0} @List.append_eq.{0})))))))):=(And.intro (And.intro (And.intro (And.intro (And.intro (And.intro (And.intro @arun.eq_1 (And.intro @arun.eq_2 @astep.eq_def)) (And.intro (And.intro @anew.eq_def @amut.eq_def) (And.intro @isMut.eq_def @awanted.eq_def))) (And.intro (And.intro @avG.eq_def (And.intro @Bool.true_beq @Bool.false_beq)) (And.intro (And.intro @beq_true @beq_false) (And.intro @dstOK.eq_def @cfg.eq_def)))) (And.intro (And.intro (And.intro @opv.eq_def (And.intro @noJunk.eq_def @constAV.eq_def)) (And.intro (And.intro @look_eq @lookB.eq_1) (And.intro @lookB.eq_2 @insR_eq))) (And.intro (And.intro @insB.eq_1 (And.intro @insB.eq_2 @cond_true.{1})) (And.intro (And.intro @cond_false.{1} @insAll.eq_def) (And.intro @List.foldr_cons.{0,0} @List.foldr_nil.{0,0}))))) (And.intro (And.intro (And.intro (And.intro @Option.bind_some.{0,0} (And.intro @Option.map_some.{0,0} @Option.bind_none.{0,0})) (And.intro (And.intro @Option.map_none.{0,0} @Option.getD_some.{0}) (And.intro @Option.getD_none.{0} @Bool.false_eq_true))) (And.intro (And.intro @decide_true (And.intro @decide_false @slT.eq_def)) (And.intro (And.intro @tyT.eq_def (And.intro @tyT2.eq_def (And.intro @tyT3.eq_def @slT2.eq_def))) (And.intro @fsT.eq_def @avD.eq_def)))) (And.intro (And.intro (And.intro @avI.eq_def (And.intro @avB.eq_def @dval.eq_def)) (And.intro (And.intro @un_int @un_bool) (And.intro @un_raw @un_sl))) (And.intro (And.intro (And.intro @un_tag @avun_val) (And.intro @avun_nil @avun_own)) (And.intro (And.intro @avun_view @abin.eq_def) (And.intro @aun.eq_def @alen.eq_def)))))) (And.intro (And.intro (And.intro (And.intro (And.intro @aindex.eq_def (And.intro @aslice.eq_def @afield.eq_def)) (And.intro (And.intro @acells.eq_def @aload.eq_def) (And.intro @avCells.eq_def @zAC.eq_def))) (And.intro (And.intro @afill.eq_1 (And.intro @afill.eq_2 @aparts.eq_1)) (And.intro (And.intro @aparts.eq_2 @mkObj.eq_def) (And.intro @rowsD.eq_1 @rowsD.eq_2)))) (And.intro (And.intro (And.intro @cellsD.eq_1 (And.intro @cellsD.eq_2 @cellsD.eq_3)) (And.intro (And.intro @cellD_vsl @cellD_vtag) (And.intro @cellD_vint @cellD_vbool))) (And.intro (And.intro @cellD_vraw (And.intro @cellD_nilsl @cellD_own)) (And.intro (And.intro @cellD_view @cellD_junk) (And.intro @fresh.eq_def @abase.eq_def))))) (And.intro (And.intro (And.intro (And.intro @aelems.eq_def (And.intro @absorbKey.eq_def @absorbs.eq_1)) (And.intro (And.intro @absorbs.eq_2 @absorbs.eq_3) (And.intro @absorb.eq_def @absorbRows.eq_1))) (And.intro (And.intro @absorbRows.eq_2 (And.intro @drop_eq @dropB.eq_1)) (And.intro (And.intro @dropB.eq_2 @killR.eq_def) (And.intro @AC.kill.eq_def @AV.kill.eq_def)))) (And.intro (And.intro (And.intro @AV.refs.eq_def (And.intro @AC.refs.eq_def @Obj.refs.eq_def)) (And.intro (And.intro @List.map_cons.{0,0} @List.map_nil.{0,0}) (And.intro @List.all_cons.{0} @List.all_nil.{0}))) (And.intro (And.intro (And.intro @List.flatMap_cons.{0,0} @List.flatMap_nil.{0,0}) (And.intro @List.contains_nil.{0} @List.contains_cons.{0})) (And.intro (And.intro @List.append_nil.{0} @List.nil_append.{0}) (And.intro @List.cons_append.{0} @Bool.and_true))))))) (And.intro (And.intro (And.intro (And.intro (And.intro (And.intro @Bool.true_and (And.intro @Bool.not_true @Bool.not_false)) (And.intro (And.intro @Bool.and_self @Option.isNone_none.{0}) (And.intro @Option.isNone_some.{0} @List.length_cons.{0}))) (And.intro (And.intro @List.length_nil.{0} (And.intro @List.toList_toArray.{0} @List.getElem?_toArray.{0})) (And.intro (And.intro @splice.eq_def @List.take_succ_cons.{0}) (And.intro @List.drop_succ_cons.{0} @List.take_zero.{0})))) (And.intro (And.intro (And.intro @List.drop_zero.{0} (And.intro @List.take_nil.{0} @List.drop_nil.{0})) (And.intro (And.intro @Nat.zero_add @Nat.add_zero) (And.intro @and_self @true_and))) (And.intro (And.intro @and_true (And.intro @List.getElem?_cons_zero.{0} @List.getElem?_cons_succ.{0})) (And.intro (And.intro @List.getElem?_nil.{0} @beq_self_eq_true.{0}) (And.intro @Bool.or_false @Bool.false_or))))) (And.intro (And.intro (And.intro (And.intro @Bool.or_true (And.intro @Bool.true_or @putR.eq_def)) (And.intro (And.intro @bne_self_eq_false.{0} @Bool.and_false) (And.intro @Bool.false_and @id_eq.{1}))) (And.intro (And.intro @Obj.k.eq_def (And.intro @Obj.len.eq_def @Obj.deep.eq_def)) (And.intro (And.intro @List.getElem?_cons.{0} @List.set_cons_zero.{0}) (And.intro @List.set_cons_succ.{0} @List.length_set.{0})))) (And.intro (And.intro (And.intro @aopsT.eq_1 (And.intro @aopsT.eq_2 @astepT.eq_def)) (And.intro (And.intro @isCall.eq_def @acallT.eq_def) (And.intro @arg1.eq_def @argV_raw))) (And.intro (And.intro (And.intro @argV_nil @argV_own) (And.intro @argV_view @argV_agg)) (And.intro (And.intro @argV_sl @argV_int) (And.intro @argV_bool @argV_tag)))))) (And.intro (And.intro (And.intro (And.intro (And.intro (And.intro (And.intro @isOwn.eq_def @isPin.eq_def) (And.intro (And.intro @callP.eq_def @pinE_pin) (And.intro @putP_some @Tab.pin.eq_def))) (And.intro @callE.eq_def @ownKey.eq_def)) (And.intro (And.intro @rowE_row @putE_some) (And.intro @putE_none @Tab.own.eq_def))) (And.intro (And.intro @Tab.at'.eq_def (And.intro @atArgs_eq @Option.isSome_some.{0})) (And.intro (And.intro @Option.isSome_none.{0} @gotT_some) (And.intro @gotF_some @gotF_none)))) (And.intro (And.intro (And.intro @callRefs_call (And.intro @St.frzs.eq_1 @St.frzs.eq_2)) (And.intro (And.intro @St.frz.eq_def @AC.frz.eq_def) (And.intro @AV.frz.eq_def @Obj.frz.eq_def))) (And.intro (And.intro (And.intro @frzR.eq_1 @frzR.eq_2) (And.intro @frzH.eq_1 @frzH.eq_2)) (And.intro (And.intro @telT_some @List.size_toArray.{0}) (And.intro @aargs.eq_1 @aargs.eq_2))))) (And.intro (And.intro (And.intro (And.intro @aargs.eq_3 (And.intro @argAV.eq_def @argCells.eq_1)) (And.intro (And.intro @argCells.eq_2 @argCells.eq_3) (And.intro @argCell.eq_def @fnId.eq_def))) (And.intro (And.intro @opRefs_nil (And.intro @opRefs_cons @St.got.eq_def)) (And.intro (And.intro @resACs.eq_1 @resACs.eq_2) (And.intro @resAC.eq_def @outAV.eq_def)))) (And.intro (And.intro (And.intro @Res.scalar.eq_def (And.intro @isSl.eq_def @Tab.add.eq_def)) (And.intro (And.intro @Tab.none.eq_def @tab1.eq_def) (And.intro @tab2.eq_def @tab3.eq_def))) (And.intro (And.intro (And.intro @codL_d @codLL_d) (And.intro @codI_d @codB_d)) (And.intro (And.intro @codCts_d @List.isEmpty_nil.{0}) (And.intro @List.isEmpty_cons.{0} @List.append_eq.{0}))))))))
theorem Zd:type_of% (And.intro @telT_none (And.intro (And.intro (And.intro (And.intro @dregT_mk (And.intro @drunT.eq_1 @drunT.eq_2)) (And.intro @devalT.eq_def (And.intro @deval.eq_def @St.add.eq_def))) (And.intro (And.intro @opnd_move (And.intro @opnd_assign @opnd_load)) (And.intro (And.intro @opnd_box @opnd_alloc) (And.intro @opnd_unOp @opnd_convert)))) (And.intro (And.intro (And.intro @opnd_field (And.intro @opnd_extract @opnd_index)) (And.intro @opnd_make (And.intro @opnd_bin @opnd_pick))) (And.intro (And.intro @opnd_build (And.intro @opnd_buildSlice @opnd_slice)) (And.intro (And.intro @opnd_call @opnd_bcall) (And.intro @Option.toList_some.{0} @Option.toList_none.{0})))))):=(And.intro @telT_none (And.intro (And.intro (And.intro (And.intro @dregT_mk (And.intro @drunT.eq_1 @drunT.eq_2)) (And.intro @devalT.eq_def (And.intro @deval.eq_def @St.add.eq_def))) (And.intro (And.intro @opnd_move (And.intro @opnd_assign @opnd_load)) (And.intro (And.intro @opnd_box @opnd_alloc) (And.intro @opnd_unOp @opnd_convert)))) (And.intro (And.intro (And.intro @opnd_field (And.intro @opnd_extract @opnd_index)) (And.intro @opnd_make (And.intro @opnd_bin @opnd_pick))) (And.intro (And.intro @opnd_build (And.intro @opnd_buildSlice @opnd_slice)) (And.intro (And.intro @opnd_call @opnd_bcall) (And.intro @Option.toList_some.{0} @Option.toList_none.{0}))))))
theorem Zu:type_of% (And.intro (And.intro @cutR.eq_1 @cutR.eq_2) (And.intro @cond_true.{1} @cond_false.{1})):=(And.intro (And.intro @cutR.eq_1 @cutR.eq_2) (And.intro @cond_true.{1} @cond_false.{1}))
theorem Zz:type_of% (And.intro (And.intro (And.intro @look_eq @lookB.eq_1) (And.intro @lookB.eq_2 (And.intro @cond_true.{1} @cond_false.{1}))) (And.intro (And.intro @List.length_append.{0} (And.intro @List.length_map.{0,0} @List.length_cons.{0})) (And.intro @List.length_nil.{0} (And.intro @Nat.zero_add @List.length_set.{0})))):=(And.intro (And.intro (And.intro @look_eq @lookB.eq_1) (And.intro @lookB.eq_2 (And.intro @cond_true.{1} @cond_false.{1}))) (And.intro (And.intro @List.length_append.{0} (And.intro @List.length_map.{0,0} @List.length_cons.{0})) (And.intro @List.length_nil.{0} (And.intro @Nat.zero_add @List.length_set.{0}))))
theorem Zv:type_of% (And.intro (And.intro @List.map_append.{0,0} (And.intro @List.map_cons.{0,0} @List.map_nil.{0,0})) (And.intro (And.intro @List.append_assoc.{0} @List.cons_append.{0}) (And.intro @List.nil_append.{0} @List.append_nil.{0}))):=(And.intro (And.intro @List.map_append.{0,0} (And.intro @List.map_cons.{0,0} @List.map_nil.{0,0})) (And.intro (And.intro @List.append_assoc.{0} @List.cons_append.{0}) (And.intro @List.nil_append.{0} @List.append_nil.{0})))
theorem Zk:type_of% (And.intro (And.intro (And.intro @Tel.sh.eq_def @List.map_cons.{0,0}) (And.intro @List.map_nil.{0,0} (And.intro @AV.refs.eq_def @AC.refs.eq_def))) (And.intro (And.intro @List.flatMap_cons.{0,0} @List.flatMap_nil.{0,0}) (And.intro @List.append_nil.{0} (And.intro @List.nil_append.{0} @Obj.refs.eq_def)))):=(And.intro (And.intro (And.intro @Tel.sh.eq_def @List.map_cons.{0,0}) (And.intro @List.map_nil.{0,0} (And.intro @AV.refs.eq_def @AC.refs.eq_def))) (And.intro (And.intro @List.flatMap_cons.{0,0} @List.flatMap_nil.{0,0}) (And.intro @List.append_nil.{0} (And.intro @List.nil_append.{0} @Obj.refs.eq_def))))
theorem Ze:type_of% (And.intro (And.intro @aresults.eq_1 @aresults.eq_2) (And.intro @aresults.eq_3 @ares.eq_def)):=(And.intro (And.intro @aresults.eq_1 @aresults.eq_2) (And.intro @aresults.eq_3 @ares.eq_def))
theorem Q1:type_of% @RunK.seq:=@RunK.seq
theorem Q2:type_of% @RunK.next:=@RunK.next
theorem Q3:type_of% @RunK.skip:=@RunK.skip
theorem Q4:type_of% @RunK.exit:=@RunK.exit
theorem Q5:type_of% @RunK.ret:=@RunK.ret
theorem Q6:type_of% @RunK.label:=@RunK.label
theorem Q7:type_of% @outK.blkN:=@outK.blkN
theorem Q8:type_of% @outK.blkX:=@outK.blkX
theorem Q9:type_of% @outK.seqX:=@outK.seqX
theorem Qa:type_of% @outK.seqR:=@outK.seqR
theorem Qb:type_of% @outK.blkR:=@outK.blkR
theorem Qc:type_of% @RunK.blockS:=@RunK.blockS
theorem Qd:type_of% @RunK.blockR:=@RunK.blockR
theorem Qe:type_of% @RunK.blockC:=@RunK.blockC
theorem Qf:type_of% @RunK.blockB:=@RunK.blockB
theorem Qo:type_of% @outK.blkO:=@outK.blkO
theorem QT:type_of% @RunK.wT:=@RunK.wT
theorem QF:type_of% @RunK.wF:=@RunK.wF
theorem QS:type_of% @RunK.wS:=@RunK.wS
theorem QC:type_of% @RunK.wC:=@RunK.wC
theorem QD:type_of% @RunK.wD:=@RunK.wD
theorem QW:type_of% @Work.mk:=@Work.mk
theorem QK:type_of% @ChkD.mk:=@ChkD.mk
theorem Qn:type_of% @Fits.nil:=@Fits.nil
theorem Qr:type_of% @Fits.reg:=@Fits.reg
theorem Qj:type_of% @Fits.obj:=@Fits.obj
theorem Qw:type_of% @wk.same:=@wk.same
end Go.Proofs.Ytedgfkpfhonlpaa
