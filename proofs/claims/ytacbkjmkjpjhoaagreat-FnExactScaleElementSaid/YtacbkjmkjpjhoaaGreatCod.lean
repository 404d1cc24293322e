/- Data of known types as untyped data, and back. -/
import Derived.Test.YtacbkjmkjpjhoaaGreatMc
import Derived.Test.YtacbkjmkjpjhoaaGreatCfg
set_option linter.unusedSimpArgs false
set_option linter.unusedVariables false
namespace Go.Proofs.YtacbkjmkjpjhoaaGreat
open Go.RowKit

/-- How data of a type stand as untyped data, and how they are read back. -/
structure Cod (α : Type) where
  e : α → List D
  d : List D → Option α
  de : ∀ x, d (e x) = some x
  ed : ∀ c x, d c = some x → c = e x

def dI : List D → Option Int
  | [.int n] => some n
  | _ => none
def dB : List D → Option Bool
  | [.bool n] => some n
  | _ => none
theorem dI_spec {c : List D} {x : Int} (h : dI c = some x) : c = eI x := by
  unfold dI at h
  split at h
  · cases h; rfl
  · cases h
theorem dB_spec {c : List D} {x : Bool} (h : dB c = some x) : c = eB x := by
  unfold dB at h
  split at h
  · cases h; rfl
  · cases h
def codI : Cod Int := ⟨eI, dI, fun _ => rfl, fun _ _ => dI_spec⟩
def codB : Cod Bool := ⟨eB, dB, fun _ => rfl, fun _ _ => dB_spec⟩

def dAll {α : Type} (d : List D → Option α) : List (List D) → Option (List α)
  | [] => some []
  | c :: cs => (d c).bind fun x => (dAll d cs).map fun xs => x :: xs
def dSl {α : Type} (k : Nat) (d : List D → Option α) : List D → Option (List α)
  | [.sl j cs] => if j = k then dAll d cs else none
  | _ => none
theorem dAll_map {α : Type} {e : α → List D} {d : List D → Option α} (h : ∀ x, d (e x) = some x) : ∀ xs : List α, dAll d (xs.map e) = some xs
  | [] => rfl
  | x :: xs => by simp only [List.map_cons, dAll, h, Option.bind_some, dAll_map h xs, Option.map_some]
theorem dAll_spec {α : Type} {e : α → List D} {d : List D → Option α} (h : ∀ c x, d c = some x → c = e x) : ∀ {cs : List (List D)} {xs : List α}, dAll d cs = some xs → cs = xs.map e
  | [], xs, hx => by simp only [dAll, Option.some.injEq] at hx; subst hx; rfl
  | c :: cs, xs, hx => by
    simp only [dAll] at hx
    obtain ⟨x, h1, hx⟩ := bind_some hx
    obtain ⟨ys, h2, rfl⟩ := map_some hx
    rw [h c x h1, dAll_spec h h2]; rfl
def codS {α : Type} (k : Nat) (C : Cod α) : Cod (List α) := ⟨eS k C.e, dSl k C.d, fun xs => by
    show dSl k C.d [.sl k (xs.map C.e)] = some xs
    simp only [dSl, if_true, dAll_map C.de], fun c xs h => by
    unfold dSl at h
    split at h
    · split at h
      · rename_i e; subst e; rw [dAll_spec C.ed h]; rfl
      · cases h
    · cases h⟩

/-- A cell's list of data is cut in two. -/
def codP {α β : Type} (k : Nat) (C : Cod α) (D' : Cod β) (hk : ∀ x, (C.e x).length = k) : Cod (α × β) := ⟨eP C.e D'.e, fun c => (C.d (c.take k)).bind fun x => (D'.d (c.drop k)).map fun y => (x, y), fun x => by
    show (C.d ((C.e x.1 ++ D'.e x.2).take k)).bind (fun x_1 => (D'.d ((C.e x.1 ++ D'.e x.2).drop k)).map fun y => (x_1, y)) = _
    rw [List.take_left' (hk _), List.drop_left' (hk _), C.de, D'.de]; rfl, fun c x h => by
    obtain ⟨a, h1, h⟩ := bind_some h
    obtain ⟨b, h2, rfl⟩ := map_some h
    show c = C.e a ++ D'.e b
    rw [← C.ed _ _ h1, ← D'.ed _ _ h2, List.take_append_drop]⟩

def eL (xs : List Int) : List D := [.sl 1 (xs.map eI)]
def eLL (xs : List (List Int)) : List D := [.sl 1 (xs.map eL)]
def codL : Cod (List Int) := codS 1 codI
def codLL : Cod (List (List Int)) := codS 1 codL
/-- []Counted's elements -/
def eCt (x : List Int × Int) : List D := [.sl 1 (x.1.map eI), .int x.2]
def codCt : Cod (List Int × Int) := codP 1 codL codI (fun _ => rfl)

theorem codL_d (xs : List Int) : codL.d [.sl 1 (xs.map eI)] = some xs := codL.de xs
theorem codLL_d (xs : List (List Int)) : codLL.d [.sl 1 (xs.map eL)] = some xs := codLL.de xs
theorem codI_d (x : Int) : codI.d [.int x] = some x := rfl
theorem codB_d (x : Bool) : codB.d [.bool x] = some x := rfl
theorem codCts_d (xs : List (List Int × Int)) : (codS 2 codCt).d [.sl 2 (xs.map eCt)] = some xs := (codS 2 codCt).de xs

/-- A function of one, two, three arguments of known types, as an entry of a table. -/
def tab1 {α : Type} (A : Cod α) (f : α → Option (List Res)) : List (List D) → Option (List Res)
  | [a] => (A.d a).bind f
  | _ => none
def tab2 {α β : Type} (A : Cod α) (B : Cod β) (f : α → β → Option (List Res)) : List (List D) → Option (List Res)
  | [a, b] => (A.d a).bind fun x => (B.d b).bind (f x)
  | _ => none
def tab3 {α β γ : Type} (A : Cod α) (B : Cod β) (C : Cod γ) (f : α → β → γ → Option (List Res)) : List (List D) → Option (List Res)
  | [a, b, c] => (A.d a).bind fun x => (B.d b).bind fun y => (C.d c).bind (f x y)
  | _ => none
theorem tab1_ok {P : Program} {g : FuncId} {α : Type} {A : Cod α} {f : α → Option (List Res)} (h : ∀ x rs, f x = some rs → AFn P g [A.e x] (· = rs)) (ds : List (List D)) (rs : List Res) (e : tab1 A f ds = some rs) : AFn P g ds (· = rs) := by
  unfold tab1 at e
  split at e
  · obtain ⟨x, h1, h2⟩ := bind_some e
    rw [A.ed _ _ h1]; exact h x rs h2
  · cases e
theorem tab2_ok {P : Program} {g : FuncId} {α β : Type} {A : Cod α} {B : Cod β} {f : α → β → Option (List Res)} (h : ∀ x y rs, f x y = some rs → AFn P g [A.e x, B.e y] (· = rs)) (ds : List (List D)) (rs : List Res) (e : tab2 A B f ds = some rs) : AFn P g ds (· = rs) := by
  unfold tab2 at e
  split at e
  · obtain ⟨x, h1, e⟩ := bind_some e
    obtain ⟨y, h2, e⟩ := bind_some e
    rw [A.ed _ _ h1, B.ed _ _ h2]; exact h x y rs e
  · cases e
theorem tab3_ok {P : Program} {g : FuncId} {α β γ : Type} {A : Cod α} {B : Cod β} {C : Cod γ} {f : α → β → γ → Option (List Res)} (h : ∀ x y z rs, f x y z = some rs → AFn P g [A.e x, B.e y, C.e z] (· = rs)) (ds : List (List D)) (rs : List Res) (e : tab3 A B C f ds = some rs) : AFn P g ds (· = rs) := by
  unfold tab3 at e
  split at e
  · obtain ⟨x, h1, e⟩ := bind_some e
    obtain ⟨y, h2, e⟩ := bind_some e
    obtain ⟨z, h3, e⟩ := bind_some e
    rw [A.ed _ _ h1, B.ed _ _ h2, C.ed _ _ h3]; exact h x y z rs e
  · cases e

/-- A contract with an outcome without memory, taken over. -/
theorem AFn.of_q {P : Program} {f : FuncId} {ds : List (List D)} {d : D} {v : Value} (eg : ∀ args w, (callFunc f args).run P w = .ok (.enter f args) w) (hd : ∀ A w, rdV A w v d)
    (h : ∀ (w : World) (A : Nat → Prop) vs, relArgs A w ds vs → Calls P f vs.toArray w (RetQ w v)) : AFn P f ds (· = [.val d]) := by
  refine ⟨eg, fun A w vs hA hv => (h w A vs hv).mono ?_⟩
  rintro e w' ⟨rfl, n, rfl⟩
  exact ⟨v, _, rfl, rfl, Below.drewN _ _ _, [v], [], [], rfl, List.nodup_nil, by simp, v, [], [], [], [], [], rfl, rfl, rfl, (hd (fun _ => True) w).one, ⟨hd _ _, rfl, rfl⟩, rfl, rfl, rfl⟩
theorem AFn.of_s {P : Program} {f : FuncId} {ds : List (List D)} {d : D} {v : Value} (eg : ∀ args w, (callFunc f args).run P w = .ok (.enter f args) w) (hd : ∀ A w, rdV A w v d)
    (h : ∀ (w : World) (A : Nat → Prop) vs, relArgs A w ds vs → Calls P f vs.toArray w (RetS w v)) : AFn P f ds (· = [.val d]) := by
  refine ⟨eg, fun A w vs hA hv => (h w A vs hv).mono ?_⟩
  rintro e w' ⟨rfl, rfl⟩
  exact ⟨v, _, rfl, rfl, Below.refl _ _, [v], [], [], rfl, List.nodup_nil, by simp, v, [], [], [], [], [], rfl, rfl, rfl, (hd (fun _ => True) w).one, ⟨hd _ _, rfl, rfl⟩, rfl, rfl, rfl⟩

/-- A contract whose outcome is a list of its own, taken over. -/
theorem AFn.of_o {P : Program} {α : Type} {R : Rep α} {e : α → List D} (E : Enc R e) {f : FuncId} {ds : List (List D)} {xs : List α} (eg : ∀ args w, (callFunc f args).run P w = .ok (.enter f args) w)
    (h : ∀ (w : World) (A : Nat → Prop) vs, relArgs A w ds vs → Calls P f vs.toArray w (RetO (RS R) w xs)) : AFn P f ds (· = [.own R.k (xs.map e) true]) := by
  refine ⟨eg, fun A w vs hA hv => (h w A vs hv).mono ?_⟩
  rintro e' w' ⟨v, rfl, ⟨F, ⟨v', og, ds', G, e1, hrow, hel, rfl⟩, hn, hlt⟩, hb⟩
  obtain rfl : v = v' := by simpa using e1
  obtain ⟨d, hel'⟩ := enc_ownL E hel
  obtain ⟨oa, c, ev, k1, k2, k3, k4⟩ := hrow.value
  have hv' : v = slv og xs.length c := by
    cases og with
    | none =>
      have h0 := hrow.len0
      have hoa : oa = none := k4
      rw [ev, hoa, h0, k3 hoa]; rfl
    | some g => rw [ev, k4]; rfl
  refine ⟨v, _, rfl, rfl, hb, [v], og.toList ++ G, og.toList, rfl, hn, fun b hb' => (hlt b hb').1, v, [], og.toList ++ G, [], og.toList, [], rfl, by simp, by simp, by rw [ev]; rfl, ?_, rfl, rfl, rfl⟩
  exact ⟨og, c, G, ds', by rw [List.length_map]; exact hv', by rw [List.length_map]; exact hrow, R.kpos, rfl, rfl, d, R.kpos, hel'⟩

theorem big_le {n : Nat} (h : n ≤ 1000000000) : (n ≤ 140737488355328) = True := eq_true (by omega)
theorem big_mul {n c : Nat} (hc : c ≤ 100000) (h : n ≤ 1000000000) : (n * c ≤ 140737488355328) = True :=
  eq_true (Nat.le_trans (Nat.mul_le_mul h hc) (by decide))
/-- The bounds of an append. -/
theorem app_ok {n c : Nat} (h : n ≤ 1000000000) (hc : c ≤ 100000 := by decide) : (n * c ≤ 140737488355328 ∧ n ≤ 140737488355328) = True := eq_true ⟨of_eq_true (big_mul hc h), of_eq_true (big_le h)⟩
theorem map_get {α β : Type} {f : α → β} {xs : List α} {i : Nat} (h : i < xs.length) : (xs.map f)[i]? = some (f xs[i]) := by
  rw [List.getElem?_map, List.getElem?_eq_getElem h]; rfl
theorem w64_eq {n : Int} (h : -9223372036854775808 ≤ n ∧ n ≤ 9223372036854775807) : w64 n = n := by unfold w64; exact IntWalk.i64_in n h
theorem w64_succ {n : Nat} (h : n < 9223372036854775807) : w64 ((n : Int) + 1) = ((n + 1 : Nat) : Int) := by rw [w64_eq (by omega)]; rfl
theorem rd1 {A : Nat → Prop} {w : World} {xs : List Int} {v : Value} (h : relArg A w (eL xs) v) : (RS RI).rd A w [v] xs := rd_dL.1 h
end Go.Proofs.YtacbkjmkjpjhoaaGreat
