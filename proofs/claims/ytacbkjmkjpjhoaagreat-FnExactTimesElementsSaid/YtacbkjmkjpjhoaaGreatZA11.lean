/- Lemmas (11). -/
import Derived.Ground.SlsfProg
import Derived.Shelf.SlSortCmp.NoneTotal
import Derived.Shelf.SlSortCmp.WholeK
import Derived.Test.YtacbkjmkjpjhoaaGreatZA6
import Derived.Test.YtacbkjmkjpjhoaaGreatZA7
import Derived.Test.YtacbkjmkjpjhoaaGreatZA8
import Derived.Test.YtacbkjmkjpjhoaaGreatZA9
import Derived.Test.YtacbkjmkjpjhoaaGreatZA10
set_option linter.unusedSimpArgs false
set_option linter.unusedVariables false
namespace Go.Proofs
open Go.Shelf
def Tryz.sortPt_ren : Go.Shelf.Ren := ⟨fun | 6 => 102 | 15 => 128 | 14 => 150 | 28 => 172 | 29 => 173 | 20 => 188 | 21 => 189 | 22 => 190 | 23 => 191 | 24 => 192 | 25 => 193 | 26 => 194 | 27 => 195 | 46 => 227 | 47 => 215 | 48 => 216 | 49 => 228 | 50 => 229 | 57 => 241 | n => n, fun | 22 => 24 | 24 => 54 | 25 => 112 | 3 => 3 | 39 => 129 | 0 => 0 | 53 => 166 | 55 => 60 | 4 => 4 | 46 => 159 | 45 => 158 | 50 => 163 | 5 => 5 | 9 => 9 | 66 => 196 | 70 => 200 | 76 => 218 | 77 => 219 | n => n, fun | n => n⟩
theorem Tryz.sortPt : Go.Proofs.SlLaysF0.n6 Tryz.prog Tryz.sortPt_ren := {
  mixed := by kernel_rfl
  f6 := ⟨Tryz.f102.name, by decide, Tryz.func102.trans (congrArg some (by kernel_rfl))⟩
  f14 := ⟨Tryz.f150.name, by decide, Tryz.func150.trans (congrArg some (by kernel_rfl))⟩
  f15 := Tryz.func128.trans (congrArg some (by kernel_rfl))
  f20 := ⟨Tryz.f188.name, by decide, Tryz.func188.trans (congrArg some (by kernel_rfl))⟩
  f21 := ⟨Tryz.f189.name, by decide, Tryz.func189.trans (congrArg some (by kernel_rfl))⟩
  f22 := ⟨Tryz.f190.name, by decide, Tryz.func190.trans (congrArg some (by kernel_rfl))⟩
  f23 := ⟨Tryz.f191.name, by decide, Tryz.func191.trans (congrArg some (by kernel_rfl))⟩
  f24 := ⟨Tryz.f192.name, by decide, Tryz.func192.trans (congrArg some (by kernel_rfl))⟩
  f25 := ⟨Tryz.f193.name, by decide, Tryz.func193.trans (congrArg some (by kernel_rfl))⟩
  f26 := ⟨Tryz.f194.name, by decide, Tryz.func194.trans (congrArg some (by kernel_rfl))⟩
  f27 := ⟨Tryz.f195.name, by decide, Tryz.func195.trans (congrArg some (by kernel_rfl))⟩
  f28 := Tryz.func172.trans (congrArg some (by kernel_rfl))
  f29 := Tryz.func173.trans (congrArg some (by kernel_rfl))
  f46 := ⟨Tryz.f227.name, by decide, Tryz.func227.trans (congrArg some (by kernel_rfl))⟩
  f47 := Tryz.func215.trans (congrArg some (by kernel_rfl))
  f48 := Tryz.func216.trans (congrArg some (by kernel_rfl))
  f49 := ⟨Tryz.f228.name, by decide, Tryz.func228.trans (congrArg some (by kernel_rfl))⟩
  f50 := ⟨Tryz.f229.name, by decide, Tryz.func229.trans (congrArg some (by kernel_rfl))⟩
  f57 := ⟨Tryz.f241.name, by decide, Tryz.func241.trans (congrArg some (by kernel_rfl))⟩
  t0 := Tryz.underlying0
  a0 := Tryz.isAgg0
  z0 := Tryz.sizeOf0
  v0 := Tryz.zeroValue0
  t3 := Tryz.underlying3
  a3 := Tryz.isAgg3
  z3 := Tryz.sizeOf3
  v3 := Tryz.zeroValue3
  t4 := Tryz.underlying4
  a4 := Tryz.isAgg4
  z4 := Tryz.sizeOf4
  v4 := Tryz.zeroValue4
  t5 := Tryz.underlying5
  a5 := Tryz.isAgg5
  z5 := Tryz.sizeOf5
  v5 := Tryz.zeroValue5
  t9 := Tryz.underlying9
  a9 := Tryz.isAgg9
  z9 := Tryz.sizeOf9
  v9 := Tryz.zeroValue9
  t22 := Tryz.underlying24
  a22 := Tryz.isAgg24
  z22 := Tryz.sizeOf24
  v22 := Tryz.zeroValue24
  t25 := Tryz.underlying112
  a25 := Tryz.isAgg112
  z25 := Tryz.sizeOf112
  v25 := Tryz.zeroValue112
  t39 := Tryz.underlying129
  a39 := Tryz.isAgg129
  z39 := Tryz.sizeOf129
  v39 := Tryz.zeroValue129
  t45 := Tryz.underlying158
  a45 := Tryz.isAgg158
  z45 := Tryz.sizeOf158
  v45 := Tryz.zeroValue158
  t46 := Tryz.underlying159
  a46 := Tryz.isAgg159
  z46 := Tryz.sizeOf159
  v46 := Tryz.zeroValue159
  t50 := Tryz.underlying163
  a50 := Tryz.isAgg163
  z50 := Tryz.sizeOf163
  v50 := Tryz.zeroValue163
  t53 := Tryz.underlying166
  a53 := Tryz.isAgg166
  z53 := Tryz.sizeOf166
  v53 := Tryz.zeroValue166
  t55 := Tryz.underlying60
  a55 := Tryz.isAgg60
  z55 := Tryz.sizeOf60
  v55 := Tryz.zeroValue60
  t66 := Tryz.underlying196
  a66 := Tryz.isAgg196
  z66 := Tryz.sizeOf196
  v66 := Tryz.zeroValue196
  t70 := Tryz.underlying200
  a70 := Tryz.isAgg200
  z70 := Tryz.sizeOf200
  v70 := Tryz.zeroValue200
  t76 := Tryz.underlying218
  a76 := Tryz.isAgg218
  z76 := Tryz.sizeOf218
  v76 := Tryz.zeroValue218
  t77 := Tryz.underlying219
  a77 := Tryz.isAgg219
  z77 := Tryz.sizeOf219
  v77 := Tryz.zeroValue219 }
end Go.Proofs
namespace Go.Proofs.YtacbkjmkjpjhoaaGreat
open Go.RowKit
theorem flatMap_get {α β : Type} (enc : α → List β) (k : Nat) (hk : ∀ x, (enc x).length = k) (hp : 0 < k) : ∀ (l : List α) (t : Nat), (l.flatMap enc)[t]? = (l[t / k]?).bind fun x => (enc x)[t % k]?
  | [], t => by simp
  | x :: l, t => by
    rw [List.flatMap_cons]
    by_cases h : t < k
    · rw [List.getElem?_append_left (by rw [hk]; exact h), Nat.div_eq_of_lt h, Nat.mod_eq_of_lt h]; rfl
    · rw [List.getElem?_append_right (by rw [hk]; omega), hk, flatMap_get enc k hk hp l (t - k)]
      have e1 : t / k = (t - k) / k + 1 := by rw [Nat.div_eq_sub_div hp (by omega)]
      have e2 : t % k = (t - k) % k := Nat.mod_eq_sub_mod (by omega)
      rw [e1, e2, List.getElem?_cons_succ]
theorem flatK_list {α : Type} [Inhabited α] (enc : α → List Value) (k : Nat) (hk : ∀ x, (enc x).length = k) (hp : 0 < k) (d : Array α) : (Go.Sort.flatK enc k d).toList = d.toList.flatMap enc := by
  have hl : ∀ (l : List α), (l.flatMap enc).length = l.length * k := by
    intro l
    induction l with
    | nil => simp
    | cons x l ih => rw [List.flatMap_cons, List.length_append, hk, ih, List.length_cons, Nat.succ_mul]; omega
  refine List.ext_getElem? fun t => ?_
  by_cases h : t < d.size * k
  · have hs : t < (Go.Sort.flatK enc k d).toList.length := by simpa using h
    have hq : t / k < d.size := Nat.div_lt_of_lt_mul (by rw [Nat.mul_comm]; exact h)
    rw [flatMap_get enc k hk hp, List.getElem?_eq_getElem hs]
    have e1 := Go.Sort.get_flatK enc k d t h
    rw [getElem!_pos (Go.Sort.flatK enc k d) t (by simpa using h), getElem!_pos d (t / k) hq] at e1
    have hm : t % k < (enc d[t / k]).length := by rw [hk]; exact Nat.mod_lt _ hp
    rw [getElem!_pos (enc d[t / k]) (t % k) hm] at e1
    rw [List.getElem?_eq_getElem (by simpa using hq), Option.bind_some]
    simp only [Array.getElem_toList]
    rw [List.getElem?_eq_getElem hm, e1]
  · rw [List.getElem?_eq_none (by simpa using h), List.getElem?_eq_none (by rw [hl]; simpa using h)]
section
variable {α : Type} [Inhabited α] (enc : α → List Value) (k : Nat) (w : World) (blk m : Nat) (dk : Array α) (os : Array Go.Obj)
theorem sw_block {b : Nat} (hne : b ≠ blk) (hb : b < w.heap.size) : (sortWorldK enc k w blk 0 m dk os).heap[b]? = w.heap[b]? := by
  show ((w.heap.modify blk _) ++ os)[b]? = _
  rw [Array.getElem?_append_left (by simpa using hb), Array.getElem?_modify, if_neg (fun e => hne e.symm)]
theorem sw_size : w.heap.size ≤ (sortWorldK enc k w blk 0 m dk os).heap.size := by
  show _ ≤ ((w.heap.modify blk _) ++ os).size
  simp
theorem sw_row {n cap : Nat} {ds : List Value} (h : Row w (slv (some blk) n cap) k n ds (some blk)) (hs : dk.size = n) (hlt : blk < w.heap.size) :
    Row (sortWorldK enc k w blk 0 m dk os) (slv (some blk) n cap) k n (Go.Sort.flatK enc k dk).toList (some blk) := by
  obtain ⟨h0, h⟩ := h
  rcases h with ⟨_, _, h⟩ | ⟨g, cap', cur, e, hv, hg, hh, hc1, hc2, hc3, hc4⟩
  · cases h
  · cases hg
    refine ⟨by simp [hs], .inr ⟨blk, cap', Sort.putCells id 0 (Go.Sort.flatK enc k dk) cur, e, hv, rfl, ?_, hc1, hc2, by simpa [Sort.putCells] using hc3, ?_⟩⟩
    · show ((w.heap.modify blk _) ++ os)[blk]? = _
      rw [Array.getElem?_append_left (by simpa using hlt), Array.getElem?_modify, if_pos rfl, hh]
      rfl
    · have hle : n * k ≤ cap' * k := Nat.mul_le_mul_right k hc1
      refine List.ext_getElem? fun t => ?_
      by_cases ht : t < n * k
      · rw [List.getElem?_take_of_lt ht, List.getElem?_eq_getElem (by simp [Sort.putCells]; omega), List.getElem?_eq_getElem (by simp [hs]; omega)]
        simp only [Array.getElem_toList, Sort.putCells, Array.getElem_mapIdx, id]
        rw [if_pos ⟨Nat.zero_le _, by simp [hs]; omega⟩, Nat.sub_zero, getElem!_pos _ t (by simp [hs]; omega)]
      · rw [List.getElem?_eq_none (by simp; omega), List.getElem?_eq_none (by simp [hs]; omega)]
end
abbrev PtC (A : Nat → Prop) (w : World) : Type := { x : (Int × Value) × List (List Int) // In64 x.1.1 ∧ (RS (RS RI)).rd A w [x.1.2] x.2 ∧ sumLen x.2 ≤ 1000000 }
instance (A : Nat → Prop) (w : World) : Inhabited (PtC A w) := ⟨⟨((0, .slice none 0 0), []), by show In64 0; unfold In64; omega, ⟨none, 0, [], rfl, Nat.le_refl _, by decide, fun _ => rfl, rfl, .inl rfl⟩, by simp [sumLen]⟩⟩
def PtC.enc {A : Nat → Prop} {w : World} (x : PtC A w) : List Value := [.int .i64 x.1.1.1, x.1.1.2]
def PtC.el {A : Nat → Prop} {w : World} (x : PtC A w) : Int × List (List Int) := (x.1.1.1, x.1.2)
theorem ptc_of {A : Nat → Prop} {w : World} : ∀ {zs : List (Int × List (List Int))} {ds : List Value}, rdL RPart A w ds zs → (∀ z ∈ zs, sumLen z.2 ≤ 1000000) → ∃ xs : List (PtC A w), ds = xs.flatMap PtC.enc ∧ zs = xs.map PtC.el
  | [], _, h, _ => ⟨[], h, rfl⟩
  | z :: zs, _, h, hz => by
    obtain ⟨c, d, e, ⟨c1, c2, rfl, ⟨rfl, hb⟩, hs⟩, h2⟩ := h
    obtain ⟨xs, e1, e2⟩ := ptc_of h2 (fun z hz' => hz z (by simp [hz']))
    have hl := (RS (RS RI)).rd_len hs
    match c2, hl with
    | [s], _ =>
      have hzz := hz z (by simp)
      exact ⟨⟨((z.1, s), z.2), hb, hs, hzz⟩ :: xs, by rw [e, e1]; rfl, congrArg (z :: ·) e2⟩
theorem ptc_to {A : Nat → Prop} {w w' : World} (hf : ∀ b, A b → w'.heap[b]? = w.heap[b]?) : ∀ (xs : List (PtC A w)), rdL RPart A w' (xs.flatMap PtC.enc) (xs.map PtC.el)
  | [] => rfl
  | x :: xs => ⟨_, _, rfl, ⟨[.int .i64 x.1.1.1], [x.1.1.2], rfl, ⟨rfl, x.2.1⟩, (RS (RS RI)).rd_frame x.2.2.1 (fun b hb _ => hf b hb)⟩, ptc_to hf xs⟩
theorem swo_cmpF {A : Nat → Prop} {w : World} : Go.Sort.SWO (ltOf fun x y : PtC A w => cmpF x.1.2 y.1.2) where
  irrefl x := decide_eq_false (by show ¬ cmpF x.1.2 x.1.2 < 0; rw [cmpF_cmp.refl]; omega)
  trans x y z h1 h2 := decide_eq_true (by
    have h1 : cmpF x.1.2 y.1.2 < 0 := of_decide_eq_true h1
    have h2 : cmpF y.1.2 z.1.2 < 0 := of_decide_eq_true h2
    exact cmpF_cmp.lt_tr h1 h2)
  ntrans x y z h1 h2 := decide_eq_false (by
    have h1 : ¬ cmpF x.1.2 y.1.2 < 0 := of_decide_eq_false h1
    have h2 : ¬ cmpF y.1.2 z.1.2 < 0 := of_decide_eq_false h2
    show ¬ cmpF x.1.2 z.1.2 < 0
    intro h
    have a1 := cmpF_cmp.anti x.1.2 y.1.2
    have a2 := cmpF_cmp.anti y.1.2 z.1.2
    have := cmpF_cmp.trans z.1.2 y.1.2 x.1.2 (by omega) (by omega)
    have a3 := cmpF_cmp.anti x.1.2 z.1.2
    omega)
theorem aggPt (w : World) : (isAgg 54).run Tryz.prog w = .ok true w := by
  simp [isAgg, run_underlying Tryz.underlying54]
theorem sizePt (w : World) : (Go.sizeOf 54).run Tryz.prog w = .ok 2 w := by
  obtain ⟨_, ⟨i, hi, _, hs, _⟩, _, _⟩ := tPartI
  simp [Go.sizeOf, typeInfo, hi, hs]
set_option maxHeartbeats 1000000 in
theorem c_SortPart (g : Nat) (eg : ∀ args w, (callFunc g args).run Tryz.prog w = .ok (.enter g args) w)
    (hcmp : ∀ (W : World) (a b : Int) (u v : Value) (f h : List (List Int)), Rd (RS (RS RI)) W [u] f → Rd (RS (RS RI)) W [v] h → sumLen f ≤ 1000000 → sumLen h ≤ 1000000 →
      Calls Tryz.prog g #[.agg #[.int .i64 a, u], .agg #[.int .i64 b, v]] W fun e w' => e = .returned (.int .i64 (cmpF f h)) ∧ ∃ q os', w' = Sort.grow (W.drewN q) os')
    {A : Nat → Prop} {w : World} {og : Option Nat} {cap : Nat} {ds : List Value} {zs : List (Int × List (List Int))} (hA : ∀ b, A b → b < w.heap.size) (hog : ∀ b, og = some b → ¬ A b)
    (hrow : Row w (slv og zs.length cap) 2 zs.length ds og) (hrd : rdL RPart A w ds zs) (hsz : ∀ z ∈ zs, sumLen z.2 ≤ 1000000) (hn : zs.length ≤ 1000000000) :
    Calls Tryz.prog 102 #[slv og zs.length cap, .func (.func g) #[] #[]] w fun e w' => e = .returned (.tuple #[]) ∧ ∃ zs', zs'.Perm zs ∧ zs'.Pairwise (fun a b => cmpF a.2 b.2 ≤ 0) ∧
      (∃ ds', Row w' (slv og zs.length cap) 2 zs.length ds' og ∧ rdL RPart A w' ds' zs') ∧ Bel ⟨w, fun b => og = some b⟩ w' := by
  cases og with
  | none =>
    have h0 := hrow.len0
    have hz : zs = [] := List.eq_nil_of_length_eq_zero h0
    subst hz
    refine (AnyF.slices_SortFunc_none Tryz.sortPt none 0 _ w).mono ?_
    rintro e w' ⟨rfl, rfl⟩
    exact ⟨rfl, [], List.Perm.refl _, List.Pairwise.nil, ⟨ds, hrow, hrd⟩, rfl, rfl, rfl, Nat.le_refl _, fun _ _ _ => rfl⟩
  | some blk =>
    obtain ⟨xs, e1, e2⟩ := ptc_of hrd hsz
    have hlen : xs.toArray.size = zs.length := by rw [e2]; simp
    have hlt := hrow.lt blk rfl
    have hH : Go.Sort.HoldsK PtC.enc 2 w blk 0 xs.toArray := fun j hj => by
      rw [Nat.zero_add]
      refine ⟨?_, hrow.frozen j⟩
      have hf := flatK_list (PtC.enc (A := A) (w := w)) 2 (fun _ => rfl) (by decide) xs.toArray
      rw [List.toList_toArray] at hf
      rw [getElem!_pos _ j hj]
      refine hrow.cells j _ ?_
      rw [e1, ← hf, List.getElem?_eq_getElem (by simpa using hj)]
      simp
    have hC : CmpLays Tryz.prog g #[] PtC.enc 2 (fun x y : PtC A w => cmpF x.1.2 y.1.2) blk 0 xs.toArray.size w := fun m os dk _ x y => by
      have hfr : ∀ {v : Value} {f : List (List Int)}, (RS (RS RI)).rd A w [v] f → Rd (RS (RS RI)) (sortWorldK PtC.enc 2 w blk 0 m dk os) [v] f := fun {v f} h =>
        Rd.of ((RS (RS RI)).rd_frame h (fun b hb hl => sw_block PtC.enc 2 w blk m dk os (fun e => hog b (by rw [e]) hb) hl))
      exact hcmp _ _ _ _ _ _ _ (hfr x.2.2.1) (hfr y.2.2.1) x.2.2.2 y.2.2.2
    have hs := AnyQ.slices_SortFunc Tryz.sortPt 2 aggPt sizePt PtC.enc (fun _ => rfl) (fun x v hv => by
      simp [PtC.enc] at hv
      rcases hv with rfl | rfl
      · rfl
      · exact (RS (RS RI)).rd_one x.2.2.1 _ (by simp)) (fun x y : PtC A w => cmpF x.1.2 y.1.2) swo_cmpF g #[] blk 0 cap xs.toArray w eg hC hH hlt (by rw [hlen]; omega)
    rw [hlen] at hs
    refine hs.mono ?_
    rintro e w' ⟨rfl, d', n, os, ⟨hp1, _, hp3⟩, hsd, rfl⟩
    have hd : d'.size = zs.length := by rw [hp1, hlen]
    refine ⟨rfl, d'.toList.map PtC.el, ?_, ?_, ⟨_, sw_row PtC.enc 2 w blk n d' os hrow hd hlt, ?_⟩, rfl, rfl, rfl, sw_size PtC.enc 2 w blk n d' os, fun b hb hne => sw_block PtC.enc 2 w blk n d' os (fun e => hne (by rw [e])) hb⟩
    · rw [e2]
      refine List.Perm.map _ ?_
      rw [← hlen] at hp3
      rw [show d'.extract 0 xs.toArray.size = d' by rw [← hp1]; simp, show xs.toArray.extract 0 xs.toArray.size = xs.toArray by simp, List.toList_toArray] at hp3
      exact hp3
    · rw [List.pairwise_iff_getElem]
      intro i j hi hj hij
      have hi' : i < d'.size := by simpa using hi
      have hj' : j < d'.size := by simpa using hj
      have h1 := hsd i j (Nat.zero_le _) hij (by omega)
      rw [getElem!_pos d' i hi', getElem!_pos d' j hj'] at h1
      have h1 : ¬ cmpF d'[j].1.2 d'[i].1.2 < 0 := of_decide_eq_false h1
      have h2 := cmpF_cmp.anti d'[j].1.2 d'[i].1.2
      simp only [List.getElem_map, Array.getElem_toList, PtC.el]
      omega
    · rw [flatK_list PtC.enc 2 (fun _ => rfl) (by decide)]
      exact ptc_to (fun b hb => sw_block PtC.enc 2 w blk n d' os (fun e => hog b (by rw [e]) hb) (hA b hb)) d'.toList
theorem encPt : Enc RPart ePt := encP encI (encS (encS encI))
theorem a_SortPart (g : Nat) (eg : ∀ args w, (callFunc g args).run Tryz.prog w = .ok (.enter g args) w)
    (hcmp : ∀ (W : World) (a b : Int) (u v : Value) (f h : List (List Int)), Rd (RS (RS RI)) W [u] f → Rd (RS (RS RI)) W [v] h → sumLen f ≤ 1000000 → sumLen h ≤ 1000000 →
      Calls Tryz.prog g #[.agg #[.int .i64 a, u], .agg #[.int .i64 b, v]] W fun e w' => e = .returned (.int .i64 (cmpF f h)) ∧ ∃ q os', w' = Sort.grow (W.drewN q) os')
    (zs : List (Int × List (List Int))) (hsz : ∀ z ∈ zs, sumLen z.2 ≤ 1000000) (hn : zs.length ≤ 1000000000) :
    AEf Tryz.prog 102 false [] 2 (zs.map ePt) [[.raw (.func (.func g) #[] #[])]] (fun rs oc => rs = [] ∧ ∃ zs' : List (Int × List (List Int)), oc = some (zs'.map ePt) ∧ zs'.Perm zs ∧ zs'.Pairwise (fun a b => cmpF a.2 b.2 ≤ 0)) := by
  refine ⟨enters_of Tryz.func102 rfl rfl, fun A w vs us og cap ds hA hv hu hrow hk hel hog => ?_⟩
  have hv : vs = [] := hv
  subst hv
  obtain ⟨u, us', rfl, hu1, hu2⟩ := hu
  have hu2 : us' = [] := hu2
  subst hu2
  have hu1 : u = .func (.func g) #[] #[] := (rdV_raw.1 hu1).1
  subst hu1
  rw [List.length_map] at hrow
  obtain ⟨d, hk', hel⟩ := hel
  have hrd : rdL RPart A w ds zs := enc_rdL_of encPt hel
  have hs := c_SortPart g eg hcmp hA hog hrow hrd hsz hn
  rw [← List.length_map (f := ePt)] at hs
  refine Calls.mono hs ?_
  rintro e w' ⟨rfl, zs', hp, hso, ⟨ds', hrow', hrd'⟩, hb⟩
  obtain ⟨d', hd'⟩ := enc_rdL encPt hrd'
  have hl : (zs'.map ePt).length = (zs.map ePt).length := by rw [List.length_map, List.length_map, hp.length_eq]
  refine ⟨.tuple #[], [], some (zs'.map ePt), rfl, ⟨rfl, zs', rfl, hp, hso⟩, hb, ⟨[], [], [], rfl, List.nodup_nil, by simp, rfl, rfl, rfl⟩, ⟨ds', ?_, d', by decide, hd'⟩, fun ys e => by cases e; exact hl⟩
  rw [hl]
  exact hrow'
end Go.Proofs.YtacbkjmkjpjhoaaGreat
namespace Go.Proofs.YtacbkjmkjpjhoaaGreat
open Go.RowKit
set_option maxRecDepth 100000 in
set_option maxHeartbeats 1000000 in
theorem c_summed1 (W : World) (a b : Int) (u v : Value) (f h : List (List Int)) (h1 : Rd (RS (RS RI)) W [u] f) (h2 : Rd (RS (RS RI)) W [v] h) (s1 : sumLen f ≤ 1000000) (s2 : sumLen h ≤ 1000000) :
    Calls Tryz.prog 103 #[.agg #[.int .i64 a, u], .agg #[.int .i64 b, v]] W fun e w' => e = .returned (.int .i64 (cmpF f h)) ∧ ∃ q os', w' = Sort.grow (W.drewN q) os' := by
  obtain ⟨o1, c1, rfl, _, _⟩ := h1.val
  obtain ⟨o2, c2, rfl, _, _⟩ := h2.val
  have b1 : Below W.heap.size W (W.alloc (.cells #[.int .i64 a, .slice o1 f.length c1] 54)) := (Below.refl _ _).alloc (Nat.le_refl _) _
  have b2 : Below W.heap.size W ((W.alloc (.cells #[.int .i64 a, .slice o1 f.length c1] 54)).alloc (.cells #[.int .i64 b, .slice o2 h.length c2] 54)) := b1.alloc (by simp) _
  have hc := c_compareForests _ _ f h _ (h1.below b2 (Nat.le_refl _)) (h2.below b2 (Nat.le_refl _)) (by omega) (by omega)
  have HC := Lib.hid hc
  clear hc b1 b2 h1 h2
  go_enter Tryz.func103, Tryz.ntmps103
  go_wp2_with (go_at_call 77; refine HC.out.mono ?_; rintro e w' ⟨rfl, rfl⟩)
  go_ret
  exact ⟨rfl, 0, _, by rw [Sort.alloc_eq_grow, Sort.alloc_eq_grow, Sort.grow_grow]; rfl⟩
theorem e_summed1 : ∀ args w, (callFunc 103 args).run Tryz.prog w = .ok (.enter 103 args) w := enters_of Tryz.func103 rfl rfl
theorem a_sortPt (zs : List (Int × List (List Int))) (hsz : ∀ z ∈ zs, sumLen z.2 ≤ 1000000) (hn : zs.length ≤ 1000000000) :
    AEf Tryz.prog 102 false [] 2 (zs.map ePt) [[.raw (.func (.func 103) #[] #[])]] (fun rs oc => rs = [] ∧ ∃ zs' : List (Int × List (List Int)), oc = some (zs'.map ePt) ∧ zs'.Perm zs ∧ zs'.Pairwise (fun a b => cmpF a.2 b.2 ≤ 0)) :=
  a_SortPart 103 e_summed1 c_summed1 zs hsz hn
theorem row_slv {w : World} {v : Value} {k n : Nat} {ds : List Value} {og : Option Nat} (h : Row w v k n ds og) : ∃ c, v = slv og n c := by
  obtain ⟨oa, c, ev, k1, k2, k3, k4⟩ := h.value
  refine ⟨c, ?_⟩
  cases og with
  | none =>
    have h0 := h.len0
    have hoa : oa = none := k4
    rw [ev, hoa, h0, k3 hoa]; rfl
  | some g => rw [ev, k4]; rfl
def CloneQ (A : Nat → Prop) (zs : List (Int × List (List Int))) (w : World) : Ending → World → Prop := fun e w' =>
  ∃ og cap ds, e = .returned (slv og zs.length cap) ∧ Row w' (slv og zs.length cap) 2 zs.length ds og ∧ (∀ b, og = some b → w.heap.size ≤ b) ∧ Below w.heap.size w w' ∧ rdL RPart A w ds zs
set_option maxRecDepth 100000 in
set_option maxHeartbeats 1000000 in
theorem c_ClonePt (v : Value) (zs : List (Int × List (List Int))) (w : World) (A : Nat → Prop) (hA : ∀ b, A b → b < w.heap.size) (h : (RS RPart).rd A w [v] zs) (hsz : zs.length ≤ 1000000) :
    Calls Tryz.prog 101 #[v] w (CloneQ A zs w) := by
  obtain ⟨oa, cap, ds, hv, h2, h3, h4, h5, h6⟩ := h
  simp only [List.cons.injEq, and_true] at hv
  subst hv
  unfold maxLen at h3
  have q22 : ∀ (w : World) (a : Option Addr) (n c n' c' : Nat), (binOp .eql 24 (.slice a n c) (.slice none n' c')).run Tryz.prog w = .ok (.bool a.isNone) w := fun w a n c n' c' => Lib.run_eql_slice_nil w _ _ a n c n' c' tPartI.ht
  cases oa with
  | none =>
    have hc := h4 rfl
    have hz : zs = [] := List.eq_nil_of_length_eq_zero (by omega)
    subst hz; subst hc
    go_enter Tryz.func101, Tryz.ntmps101
    go_wp2_with fail
    go_ret
    exact ⟨none, 0, [], rfl, Row.nil _ 2, fun b hb => (by cases hb), Below.refl _ _, rfl⟩
  | some ad =>
    have hlen := h5.len
    have hk2 : RPart.k = 2 := rfl
    rw [hk2] at hlen
    have hcell : ∀ a, (some ad : Option Addr) = some a → ∀ j u, ds[j]? = some u → (w.alloc (.cells #[] 54)).cell? (a.add j) = some u := by
      intro a ha j u hj
      cases ha
      rcases h6 with h6 | ⟨b, off, e, hb, hc⟩
      · rw [h6] at hj; simp at hj
      · cases e
        have := hc j u hj
        rw [Addr.add_lit]
        rw [World.cell?_alloc_lt _ _ _ (hA b hb)]
        exact this
    have hrow := Row.lit w #[] 54 2 0 (by decide) (by simp)
    have HR := Lib.hid hrow
    have HC := Lib.hid hcell
    have H1 := Lib.hid h5
    clear hrow hcell h5 h6
    go_enter Tryz.func101, Tryz.ntmps101
    go_wp2_with (at_builtin; refine StopAt (o := ⟨some 7, _, _, _, _, _⟩) ?_)
    refine Stop.go ?_
    refine wpList_appendS rfl _ _ 24 rfl 54 (.agg #[.int .i64 0, .slice none 0 0]) 2 32 tPartI (.slice (some ⟨w.heap.size, 0, none⟩) 0 0) 0 [] (some w.heap.size) rfl (by simpa using HR.out) (some ad) zs.length cap ds rfl hlen (fun h => by cases h) HC.out H1.out.one (by omega) (by unfold maxLen; omega) ?_
    intro v' w' og' happ
    rw [Nat.zero_add, List.nil_append] at happ
    have hlow := happ.low (B := w.heap.size) (by simp) (fun g hg => by cases hg; exact Nat.le_refl _)
    have hbel : Below w.heap.size w w' := ((Below.refl w.heap.size w).alloc (Nat.le_refl _) (.cells #[] 54)).trans hlow.2
    obtain ⟨c', rfl⟩ := row_slv happ.1
    have HH : Hid (Row w' (slv og' zs.length c') 2 zs.length ds og' ∧ (∀ b, og' = some b → w.heap.size ≤ b)) := Lib.hid ⟨happ.1, hlow.1⟩
    obtain ⟨V, hV⟩ : ∃ V, V = slv og' zs.length c' := ⟨_, rfl⟩
    rw [← hV]
    have HV := Lib.hid hV
    clear happ hlow hV
    go_wp2_with fail
    go_ret
    exact ⟨og', c', ds, by (rw [HV.out] <;> rfl), HH.out.1, HH.out.2, hbel, H1.out⟩
theorem a_ClonePt (zs : List (Int × List (List Int))) (hsz : zs.length ≤ 1000000) : AFn Tryz.prog 101 [[.sl 2 (zs.map ePt)]] (· = [.own 2 (zs.map ePt) false]) := by
  refine ⟨enters_of Tryz.func101 rfl rfl, fun A w vs hA ⟨v1, _, e1, h1, e2⟩ => ?_⟩
  subst e2; subst e1
  have hr : (RS RPart).rd A w [v1] zs := ((encS encPt).rdV (x := zs) rfl).2 h1
  refine (c_ClonePt v1 zs w A hA hr hsz).mono ?_
  rintro e w' ⟨og, cap, ds, rfl, hrow, hnew, hb, hrd⟩
  have hrd' : rdL RPart (fun b => (A b ∨ w.heap.size ≤ b) ∧ b ∉ og.toList) w' ds zs := by
    refine (hrd.frame (fun b hb' _ => hb.block b (hA b hb'))).mono (fun b hb' _ => ⟨.inl hb', fun hm => ?_⟩)
    have h1 := hA b hb'
    have h2 := hnew b (by simpa using hm)
    omega
  obtain ⟨d, hd⟩ := enc_rdL encPt hrd'
  refine ⟨_, _, rfl, rfl, hb, [_], og.toList ++ [], og.toList, rfl, by cases og <;> simp, fun b hb' => hnew b (by simpa using hb'), _, [], og.toList ++ [], [], og.toList, [], rfl, by simp, by simp, by cases og <;> rfl, ?_, rfl, rfl, rfl⟩
  exact ⟨og, cap, [], ds, by rw [List.length_map] <;> (cases og <;> rfl), by rw [List.length_map]; exact hrow, by decide, rfl, rfl, d, by decide, hd⟩
end Go.Proofs.YtacbkjmkjpjhoaaGreat
namespace Go.Proofs.YtacbkjmkjpjhoaaGreat
open Go.RowKit
def PlainC : List D → List D → Prop
  | [], x' => x' = []
  | x :: xs, x' => ∃ y ys, x' = y :: ys ∧ (isSl x = false → y = x) ∧ PlainC xs ys
def PlainL : List (List D) → List (List D) → Prop
  | [], x' => x' = []
  | x :: xs, x' => ∃ y ys, x' = y :: ys ∧ PlainC x y ∧ PlainL xs ys
theorem tagC_of' {A : Nat → Prop} {w : World} : ∀ {x : List D} {cs : List Value} {F : List Nat}, ownCs w cs x F → (∀ b ∈ F, A b) → ∃ x', TagC x x' F ∧ PlainC x x' ∧ rdCs A w cs x'
  | [], cs, F, h, _ => by
    obtain ⟨d, h1, h2⟩ := h
    exact ⟨[], ⟨rfl, h2⟩, rfl, by rw [h1]; exact rdCs.nil⟩
  | x :: xs, cs, F, h, hA => by
    obtain ⟨v, us, G, H, rfl, rfl, h1, h2⟩ := h.cons_inv
    obtain ⟨ys, h3, h5, h4⟩ := tagC_of' h2 (fun b hb => hA b (List.mem_append_right _ hb))
    cases hx : isSl x with
    | true =>
      exact ⟨.tag G x :: ys, ⟨_, _, G, H, rfl, rfl, .inl rfl, h3⟩, ⟨_, _, rfl, (fun e => by rw [hx] at e; cases e), h5⟩, rdCs.cons (rdV_tag.2 ⟨fun b hb => hA b (List.mem_append_left _ hb), h1⟩) h4⟩
    | false =>
      have hG := ownV_scal_nil hx h1
      subst hG
      exact ⟨x :: ys, ⟨_, _, [], H, rfl, rfl, .inr ⟨hx, rfl, rfl⟩, h3⟩, ⟨_, _, rfl, (fun _ => rfl), h5⟩, rdCs.cons (h1.rd.mono (fun b hb _ => by cases hb)) h4⟩
theorem tagL_of' {A : Nat → Prop} {w : World} {k : Nat} (hk : 0 < k) : ∀ {xs : List (List D)} {ds : List Value} {F : List Nat}, ownR k w ds xs F → (∀ b ∈ F, A b) → ∃ xs', TagL xs xs' F ∧ PlainL xs xs' ∧ rdR k A w ds xs'
  | [], ds, F, h, _ => by
    obtain ⟨d, _, h1, h2⟩ := h
    exact ⟨[], ⟨rfl, h2⟩, rfl, by rw [h1]; exact rdR.nil hk⟩
  | x :: xs, ds, F, h, hA => by
    obtain ⟨c, e, G, H, rfl, rfl, hx, hc, h1, h2⟩ := h.cons_inv
    obtain ⟨y, k1, k5, k2⟩ := tagC_of' h1 (fun b hb => hA b (List.mem_append_left _ hb))
    obtain ⟨ys, k3, k6, k4⟩ := tagL_of' hk h2 (fun b hb => hA b (List.mem_append_right _ hb))
    exact ⟨y :: ys, ⟨y, ys, G, H, rfl, rfl, k1, k3⟩, ⟨_, _, rfl, k5, k6⟩, (rdR.single hk (by rw [k1.len, hx]) k2).append k4⟩
section
variable {P : Program} {cfg : Cfg} {M : Nat → Prop} {ops : Array Oper} {s : St} {w0 : W0} {w : World} {Ok : Nat → Prop} {N : Nat} {σ : Asg} {a : Act} {fs : List Fr} {Q : Exit → St → Prop}
theorem Sim.tagO' (h : Sim w0 Ok N σ s a w) {key k : Nat} {xs : List (List D)} (hk : look key s.heap = some (.row k xs true)) :
    ∃ xs' F, TagL xs xs' F ∧ PlainL xs xs' ∧ F.Nodup ∧ (∀ b ∈ F, w0.mine b) ∧ Sim w0 Ok N σ ⟨s.regs, insR key (.row k xs' false) s.heap⟩ a w := by
  have hro := h.rows key _ hk
  obtain ⟨ds, hrow, hkp, hel⟩ := hro.row
  have hel : ownR k w ds xs (σ.F key) := hel
  have hfp : fp σ key (.row k xs true) = (σ.g key).toList ++ σ.F key := rfl
  obtain ⟨xs', ht, hpl, hrd⟩ := tagL_of' (A := Zn σ s.heap w) hkp hel (RowOK.Fz h.ok1 h.rows h.disj hk rfl)
  refine ⟨xs', σ.F key, ht, hpl, ?_, fun b hb => hro.fresh b (by rw [hfp]; exact List.mem_append_right _ hb), ?_⟩
  · have := hro.nodup; rw [hfp] at this; exact (List.nodup_append.1 this).2.1
  have hl : ∀ q o', look q (insR key (.row k xs' false) s.heap) = some o' → ∃ o, look q s.heap = some o ∧ o.k = o'.k ∧ o.len = o'.len ∧ (∀ b ∈ fp σ q o', b ∈ fp σ q o) ∧ (q = key ∧ o' = .row k xs' false ∨ q ≠ key ∧ o' = o) := by
    intro q o' ho'
    rw [look_ins] at ho'
    split at ho'
    · rename_i e
      subst e
      cases ho'
      refine ⟨_, hk, rfl, ht.len.symm, fun b hb => ?_, .inl ⟨rfl, rfl⟩⟩
      have hb : b ∈ (σ.g key).toList ++ [] := hb
      rw [hfp]
      rw [List.append_nil] at hb
      exact List.mem_append_left _ hb
    · rename_i e
      exact ⟨o', ho', rfl, rfl, fun _ hb => hb, .inr ⟨fun e' => e e'.symm, rfl⟩⟩
  have hZ : Kept σ σ s.heap (insR key (.row k xs' false) s.heap) w w := fun b hb => ⟨⟨hb.1, hb.2.1, fun q o' ho' => by obtain ⟨o, ho, _⟩ := hl q o' ho'; exact hb.2.2 q o ho⟩, rfl⟩
  have hst : ∀ q, Stays σ σ s.heap (insR key (.row k xs' false) s.heap) q := fun q o' ho' => by obtain ⟨o, ho, h1, h2, _⟩ := hl q o' ho'; exact ⟨o, ho, h1, h2, rfl, rfl⟩
  refine h.step rfl h.below hZ (fun r av hr => ⟨av, hr, .inl ⟨rfl, fun q _ => hst q⟩⟩) (fun q o' ho' => ?_) (fun p o1 q u hp hq hpq b hb hb' => ?_)
  · obtain ⟨o, ho, h1, h2, h3, h4⟩ := hl q o' ho'
    rcases h4 with ⟨rfl, rfl⟩ | ⟨hq, rfl⟩
    · obtain rfl : o = .row k xs true := by rw [hk] at ho; cases ho; rfl
      refine ⟨⟨ds, ?_, hkp, ?_⟩, fun b hb => hro.fresh b (h3 b hb), ?_⟩
      · show Row w (slv (σ.g q) xs'.length (σ.cap q)) k xs'.length ds (σ.g q)
        rw [ht.len]; exact hrow
      · show rdR k _ w ds xs'
        exact hrd.mono (fun b hb _ => (hZ b hb).1)
      · have hn := hro.nodup
        rw [hfp] at hn
        show ((σ.g q).toList ++ []).Nodup
        rw [List.append_nil]
        exact (List.nodup_append.1 hn).1
    · exact RowOK.keep h.ok1 h.rows h.disj ho hZ (fun q' _ => hst q') rfl rfl rfl (fun _ _ => rfl)
  · obtain ⟨o2, ho2, _, _, h3, _⟩ := hl p o1 hp
    obtain ⟨u2, hu2, _, _, h4, _⟩ := hl q u hq
    exact h.disj p o2 q u2 ho2 hu2 hpq b (h3 b hb) (h4 b hb')
theorem RunK.tag' {c : Code} (key : Nat) {k : Nat} {xs : List (List D)} (hk : look key s.heap = some (.row k xs true)) (h : ∀ xs' F, TagL xs xs' F → PlainL xs xs' → F.Nodup → (∀ b ∈ F, M b) → RunK P cfg M c fs Q ⟨s.regs, insR key (.row k xs' false) s.heap⟩) : RunK P cfg M c fs Q s := by
  intro w0 Ok σ a w Q' hM hS hQ
  obtain ⟨xs', F, h1, h5, h2, h3, h4⟩ := Sim.tagO' hS hk
  exact h xs' F h1 h5 h2 (fun b hb => hM ▸ h3 b hb) w0 Ok σ a w Q' hM h4 hQ
theorem Sim.untag (h : Sim w0 Ok N σ s a w) {key k : Nat} {xs xs' : List (List D)} {F : List Nat} (hk : look key s.heap = some (.row k xs' false)) (ht : TagL xs xs' F) (hn : F.Nodup) (hF : ∀ b ∈ F, w0.mine b) (ho : ∀ q o, look q s.heap = some o → o.deep = false) :
    ∃ σ', Sim w0 Ok N σ' ⟨s.regs, insR key (.row k xs true) s.heap⟩ a w := by
  have hro := h.rows key _ hk
  obtain ⟨ds, hrow, hkp, hel⟩ := hro.row
  have hel : rdR k (Zn σ s.heap w) w ds xs' := hel
  have hZF : ∀ b ∈ F, Zn σ s.heap w b := tagL_sub ht hel
  let σ' : Asg := ⟨σ.g, σ.cap, fun q => if q = key then F else σ.F q, σ.ok⟩
  have hl : ∀ q o', look q (insR key (.row k xs true) s.heap) = some o' → ∃ o, look q s.heap = some o ∧ o.k = o'.k ∧ o.len = o'.len ∧ (q = key ∧ o' = .row k xs true ∨ q ≠ key ∧ o' = o) := by
    intro q o' ho'
    rw [look_ins] at ho'
    split at ho'
    · rename_i e
      subst e
      cases ho'
      exact ⟨_, hk, rfl, ht.len, .inl ⟨rfl, rfl⟩⟩
    · rename_i e
      exact ⟨o', ho', rfl, rfl, .inr ⟨fun e' => e e'.symm, rfl⟩⟩
  have hZ : Kept σ σ' s.heap (insR key (.row k xs true) s.heap) w w := fun b hb => ⟨⟨hb.1, hb.2.1, fun q o' ho' => by obtain ⟨o, ho, _⟩ := hl q o' ho'; exact hb.2.2 q o ho⟩, rfl⟩
  have hst : ∀ q, Stays σ σ' s.heap (insR key (.row k xs true) s.heap) q := fun q o' ho' => by obtain ⟨o, ho, h1, h2, _⟩ := hl q o' ho'; exact ⟨o, ho, h1, h2, rfl, rfl⟩
  have hfpk : fp σ' key (.row k xs true) = (σ.g key).toList ++ F := by simp [fp, Obj.deep, σ']
  have hfpo : ∀ q o, look q s.heap = some o → q ≠ key → fp σ' q o = (σ.g q).toList := fun q o hq hne => by simp [fp, ho q o hq, σ']
  have hfp1 : ∀ q o, look q s.heap = some o → fp σ q o = (σ.g q).toList := fun q o hq => by simp [fp, ho q o hq]
  refine ⟨σ', h.step rfl h.below hZ (fun r av hr => ⟨av, hr, .inl ⟨rfl, fun q _ => hst q⟩⟩) (fun q o' ho' => ?_) (fun p o1 q u hp hq hpq b hb hb' => ?_)⟩
  · obtain ⟨o, hoq, h1, h2, h4⟩ := hl q o' ho'
    rcases h4 with ⟨rfl, rfl⟩ | ⟨hq, rfl⟩
    · have hfk := hfp1 q _ hk
      have hn1 := hro.nodup
      rw [hfk] at hn1
      refine ⟨⟨ds, ?_, hkp, ?_⟩, fun b hb => ?_, ?_⟩
      · show Row w (slv (σ.g q) xs.length (σ.cap q)) k xs.length ds (σ.g q)
        rw [← ht.len]; exact hrow
      · show ownR k w ds xs (if q = q then F else σ.F q)
        rw [if_pos rfl]
        exact tagL_own hkp ht hel
      · rw [hfpk] at hb
        rcases List.mem_append.1 hb with hb | hb
        · exact hro.fresh b (by rw [hfk]; exact hb)
        · exact hF b hb
      · rw [hfpk]
        refine List.nodup_append.2 ⟨hn1, hn, fun b hb c hc e => ?_⟩
        subst e
        exact (hZF b hc).2.2 q _ hk (by simpa using hb)
    · refine RowOK.keep h.ok1 h.rows h.disj hoq hZ (fun q' _ => hst q') rfl rfl ?_ (fun _ _ => rfl)
      show (if q = key then F else σ.F q) = σ.F q
      rw [if_neg hq]
  · obtain ⟨o2, ho2, _, _, h3⟩ := hl p o1 hp
    obtain ⟨u2, hu2, _, _, h4⟩ := hl q u hq
    have hd := h.disj p o2 q u2 ho2 hu2 hpq b
    rw [hfp1 p o2 ho2, hfp1 q u2 hu2] at hd
    rcases h3 with ⟨rfl, rfl⟩ | ⟨hpk, rfl⟩
    · rw [hfpk] at hb
      rcases h4 with ⟨rfl, _⟩ | ⟨hqk, rfl⟩
      · exact hpq rfl
      · rw [hfpo q u hu2 hqk] at hb'
        rcases List.mem_append.1 hb with hb | hb
        · exact hd hb hb'
        · exact (hZF b hb).2.2 q _ hu2 (by simpa using hb')
    · rw [hfpo p o1 ho2 hpk] at hb
      rcases h4 with ⟨rfl, rfl⟩ | ⟨hqk, rfl⟩
      · rw [hfpk] at hb'
        rcases List.mem_append.1 hb' with hb' | hb'
        · exact hd hb hb'
        · exact (hZF b hb').2.2 p _ ho2 (by simpa using hb)
      · rw [hfpo q u hu2 hqk] at hb'
        exact hd hb hb'
theorem RunK.untag {c : Code} (key : Nat) {k : Nat} {xs xs' : List (List D)} {F : List Nat} (hk : look key s.heap = some (.row k xs' false)) (ht : TagL xs xs' F) (hn : F.Nodup) (hF : ∀ b ∈ F, M b) (ho : s.heap.all (fun p => !p.2.deep) = true)
    (h : RunK P cfg M c fs Q ⟨s.regs, insR key (.row k xs true) s.heap⟩) : RunK P cfg M c fs Q s := by
  intro w0 Ok σ a w Q' hM hS hQ
  obtain ⟨σ', h1⟩ := Sim.untag hS hk ht hn (fun b hb => hM ▸ hF b hb) (fun q o hq => by
    have := List.all_eq_true.1 ho _ (look_all hq)
    simpa using this)
  exact h w0 Ok σ' a w Q' hM h1 hQ
end
def ePtT (z : (Int × List (List Int)) × List Nat) : List D := [.int z.1.1, .tag z.2 (.sl 1 (z.1.2.map eL))]
theorem tag_mkP : ∀ (zs : List ((Int × List (List Int)) × List Nat)), TagL ((zs.map (·.1)).map ePt) (zs.map ePtT) ((zs.map (·.2)).flatten)
  | [] => ⟨rfl, rfl⟩
  | z :: zs => ⟨_, _, z.2, _, rfl, rfl, ⟨.int z.1.1, [.tag z.2 (.sl 1 (z.1.2.map eL))], [], z.2, rfl, rfl, .inr ⟨rfl, rfl, rfl⟩, ⟨_, [], z.2, [], rfl, (List.append_nil _).symm, .inl rfl, rfl, rfl⟩⟩, tag_mkP zs⟩
theorem tag_rowsP : ∀ {L : List (Int × List (List Int))} {xs' : List (List D)} {F : List Nat}, TagL (L.map ePt) xs' F → PlainL (L.map ePt) xs' → ∃ zs : List ((Int × List (List Int)) × List Nat), L = zs.map (·.1) ∧ xs' = zs.map ePtT ∧ F = (zs.map (·.2)).flatten
  | [], xs', F, ⟨h1, h2⟩, _ => ⟨[], rfl, h1, h2⟩
  | p :: L, xs', F, ⟨y, ys, G, H, h1, h2, h3, h4⟩, ⟨y', ys', p1, p2, p3⟩ => by
    obtain ⟨e1, e2⟩ : y = y' ∧ ys = ys' := by rw [h1] at p1; simpa using p1
    subst e1; subst e2
    obtain ⟨zs, e1, e2, e3⟩ := tag_rowsP h4 p3
    obtain ⟨y0, ys0, G0, H0, k1, k2, k3, y1, ys1, G1, H1, k4, k5, k6, k7, k8⟩ := h3
    obtain ⟨x0, xs0, p4, p5, _⟩ := p2
    obtain ⟨e4, _⟩ : y0 = x0 ∧ ys0 = xs0 := by rw [k1] at p4; simpa using p4
    subst e4
    have hy := p5 rfl
    subst k7; subst k8
    have hG : G0 = [] := by
      rcases k3 with k3 | ⟨_, _, k3⟩
      · rw [k3] at hy; cases hy
      · exact k3
    subst hG
    subst hy
    rcases k6 with rfl | ⟨k6, _⟩
    · exact ⟨(p, G1) :: zs, by rw [e1]; rfl, by rw [h1, k1, k4, e2]; rfl, by rw [h2, k2, k5, e3]; simp⟩
    · cases k6
end Go.Proofs.YtacbkjmkjpjhoaaGreat
namespace Go.Proofs.YtacbkjmkjpjhoaaGreat
open Go.RowKit
section
variable {P : Program} {cfg : Cfg} {M : Nat → Prop} {ops : Array Oper} {s : St}
theorem ROps.callEf (C : CfgOK P cfg) {o : Oper} {l : List Oper} {Q : St → Prop} (hg : o.guard = none) {d : Nat} (hod : o.dst = some d) (hdN : d < cfg.N) {f : Operand} {args : Array Operand} {ts : Array TypeId} {g : FuncId}
    (ho : o.op = .call ⟨.value f, args, ts⟩) (hf : ((opv s.regs f).bind avD).bind fnId = some g) {x : Operand} {xpost : List Operand} {tpost : List TypeId} (ha : args.toList = x :: xpost) {t0 : TypeId} (hts : ts.toList = t0 :: tpost) {post : List (List D)}
    (hpost : aargs cfg (fun k => look k s.heap) s.regs xpost tpost = some post) (hr2 : opRefs s.regs xpost = []) {key n k : Nat} {xs : List (List D)} (hxv : opv s.regs x = some (.c (.own key n))) (hk : look key s.heap = some (.row k xs false))
    (hnr : ∀ q u, q ≠ key → look q s.heap = some u → key ∉ u.refs) {Q0 : List Res → Option (List (List D)) → Prop} (hfn : AEf P g false [] k xs post Q0) {R : List (List D) → Prop} (hQ0 : ∀ rs oc, Q0 rs oc → rs = [] ∧ ∃ ys, oc = some ys ∧ R ys)
    (h : ∀ ys, R ys → ROps P cfg M ops l Q ⟨insR d (.tup []) s.regs, insR key (.row k ys false) s.heap⟩) : ROps P cfg M ops (o :: l) Q s := by
  intro w0 Ok σ a w Q' hM hS hQ
  refine wpList_step (fun K hK => ?_)
  have hw : awanted ops s.regs o = some true := by unfold awanted; rw [hg]
  rw [awanted_spec hS hw]
  simp only [if_true]
  refine n_callE C hS ho hf (ptr := false) (xpre := []) (tpre := []) (pre := []) (by rw [ha]; rfl) rfl hpost rfl hr2 hxv hk (fun e => nomatch e) hnr hfn (dk := d) (fun rs oc hq q ob hl => ?_) (fun rs oc hq v w' σ' hv hS' => ?_)
  · obtain ⟨rfl, _⟩ := hQ0 _ _ hq
    cases hl
  · obtain ⟨rfl, ys, rfl, hR⟩ := hQ0 _ _ hq
    rw [hod]
    have hsub : ∀ q o', look q (insR key (.row k ys false) s.heap) = some o' → look q (heapE key k (some ys) [] s.heap) = some o' := by
      intro q o' hq
      rw [look_ins] at hq
      unfold heapE
      rw [List.nil_append, look_append, look_left]
      simp only
      by_cases e : key = q
      · rw [if_pos e]; rw [if_pos e] at hq; exact hq
      · rw [if_neg e]
        rw [if_neg e] at hq
        rw [look_drop, if_neg (fun h => e h.symm)]
        exact hq
    have hR' : Sim w0 Ok cfg.N σ' ⟨s.regs, heapE key k (some ys) [] s.heap⟩ a w' := hS'
    exact hK _ _ (h ys hR w0 Ok σ' _ _ Q' hM (Sim.ins (hR'.forget (fun _ _ h => h) hsub) hdN (hv.sub hsub)) hQ)
end
def stepM {κ : Type} (c : κ → κ → Int) (out : List (Int × κ)) (a : Int) (x : κ) : List (Int × κ) := match out.getLast? with
  | some (b, y) => if c y x = 0 then out.dropLast ++ [(mP (b + a), y)] else out ++ [(mP a, x)]
  | none => [(mP a, x)]
theorem stepM_nil {κ : Type} (c : κ → κ → Int) (a : Int) (x : κ) : stepM c [] a x = [(mP a, x)] := rfl
theorem stepM_eq {κ : Type} (c : κ → κ → Int) (out : List (Int × κ)) (b : Int) (y : κ) (a : Int) (x : κ) (h : c y x = 0) : stepM c (out ++ [(b, y)]) a x = out ++ [(mP (b + a), y)] := by
  unfold stepM; simp [h]
theorem stepM_ne {κ : Type} (c : κ → κ → Int) (out : List (Int × κ)) (b : Int) (y : κ) (a : Int) (x : κ) (h : ¬ c y x = 0) : stepM c (out ++ [(b, y)]) a x = out ++ [(b, y)] ++ [(mP a, x)] := by
  unfold stepM; simp [h]
theorem mergeTo_snoc {κ : Type} (c : κ → κ → Int) (a : Int) (x : κ) : ∀ (M out : List (Int × κ)), mergeTo c out (M ++ [(a, x)]) = stepM c (mergeTo c out M) a x
  | [], out => rfl
  | (b, y) :: M, out => by
    rw [List.cons_append]
    unfold mergeTo
    exact mergeTo_snoc c a x M _
theorem mergeTo_len {κ : Type} (c : κ → κ → Int) : ∀ (M out : List (Int × κ)), (mergeTo c out M).length ≤ out.length + M.length
  | [], out => by simp [mergeTo]
  | (a, x) :: M, out => by
    have := mergeTo_len c M (stepM c out a x)
    show (mergeTo c (stepM c out a x) M).length ≤ _
    have h2 : (stepM c out a x).length ≤ out.length + 1 := by
      unfold stepM
      split
      · rename_i b y e
        split
        · have : out ≠ [] := by rintro rfl; simp at e
          have := List.length_pos_iff.2 this
          simp <;> omega
        · simp
      · simp
    simp only [List.length_cons]; omega
theorem mergeTo_mem {κ : Type} (c : κ → κ → Int) : ∀ (M out : List (Int × κ)) (z : Int × κ), z ∈ mergeTo c out M → ((0 ≤ z.1 ∧ z.1 < 10007) ∧ ∃ q ∈ out ++ M, q.2 = z.2) ∨ z ∈ out
  | [], out, z, h => .inr (by simpa [mergeTo] using h)
  | (a, x) :: M, out, z, h => by
    have hs : ∀ z ∈ stepM c out a x, ((0 ≤ z.1 ∧ z.1 < 10007) ∧ (z.2 = x ∨ ∃ q ∈ out, q.2 = z.2)) ∨ z ∈ out := by
      intro z hz
      unfold stepM at hz
      split at hz
      · rename_i b y e
        split at hz
        · rcases List.mem_append.1 hz with hz | hz
          · exact .inr ((List.dropLast_sublist out).subset hz)
          · simp at hz; subst hz
            exact .inl ⟨mP_range _, .inr ⟨(b, y), List.mem_of_getLast? e, rfl⟩⟩
        · rcases List.mem_append.1 hz with hz | hz
          · exact .inr hz
          · simp at hz; subst hz
            exact .inl ⟨mP_range _, .inl rfl⟩
      · simp at hz; subst hz
        exact .inl ⟨mP_range _, .inl rfl⟩
    rcases mergeTo_mem c M (stepM c out a x) z h with ⟨h1, q, hq, h2⟩ | h1
    · rcases List.mem_append.1 hq with hq | hq
      · rcases hs q hq with ⟨_, h3 | ⟨q', h4, h5⟩⟩ | h3
        · exact .inl ⟨h1, (a, x), by simp, by rw [← h2, h3]⟩
        · exact .inl ⟨h1, q', by simp [h4], by rw [h5, h2]⟩
        · exact .inl ⟨h1, q, by simp [h3], h2⟩
      · exact .inl ⟨h1, q, by simp [hq], h2⟩
    · rcases hs z h1 with ⟨h2, h3 | ⟨q', h4, h5⟩⟩ | h3
      · exact .inl ⟨h2, (a, x), by simp, by rw [h3]⟩
      · exact .inl ⟨h2, q', by simp [h4], h5⟩
      · exact .inr h3
theorem a_cloneRows (f : List (List Int)) (hl : f.length ≤ 1000000) (hs : sumLen f ≤ 1000000) : AFn Tryz.prog 104 [eLL f] (· = [.own 1 (f.map eL) true]) :=
  afn_LLL_oo (enters_of Tryz.func104 rfl rfl) (fun u w h => c_impl_cloneRows u f w h (by omega) (fun b hb => Nat.le_trans (sumLen_mem hb) (by omega)))
noncomputable def TSm : Tab Tryz.prog :=
  (Tab.none.add 75 (tab1 codI fun n => some [.val (.int (mP n))]) (tab1_ok fun n rs h => by cases h; exact a_num n)).add
    104 (tab1 codLL fun f => if f.length ≤ 1000000 ∧ sumLen f ≤ 1000000 then some [.own 1 (f.map eL) true] else none) (tab1_ok fun f rs h => by split at h; cases h; rename_i hs; exact a_cloneRows f hs.1 hs.2; cases h)
noncomputable def TCf : Tab Tryz.prog :=
  Tab.none.add 77 (tab2 codLL codLL fun f g => if sumLen f ≤ 1000000 ∧ sumLen g ≤ 1000000 then some [.val (.int (cmpF f g))] else none) (tab2_ok fun f g rs h => by split at h; cases h; rename_i hs; exact a_compareForests f g (by omega) (by omega); cases h)
theorem a_summed2 (n : Int) (f : List (List Int)) : AFn Tryz.prog 106 [[.int n, .sl 1 (f.map eL)]] (· = [.val (.bool (decide (n = 0)))]) := by
  refine AFn.of_runs (cfg_ok 6) Tryz.func106 rfl rfl rfl (by simp only [List.length_cons, List.length_nil]; decide) ?_
  have hres : Tryz.f106.results.toList = [.tmp 2] := rfl
  have hrts : Tryz.f106.resultTypes.toList = [4] := rfl
  simp only [argRegs, argAV1, eL, eI, eLL, eB, Nat.zero_add, Nat.reduceAdd]
  intro M
  refine RunK.of ?_
  by_cases h : n = 0
  · subst h
    rw [decide_eq_true rfl]
    repeat' (first | with_reducible (first | refine Q1 ?_ | refine Q2 ?_ | refine Q3 ?_ | refine Q4 ?_ | refine Q5 ?_ | refine Q6 ?_ | refine Q7 ?_ | refine Q8 ?_ | refine Q9 ?_ | refine Qa ?_ | refine Qb ?_ | refine Qc ?_ | refine Qd ?_ | refine Qe ?_ | refine Qf ?_) | ((with_reducible refine Qo ?_ ?_); focus rfl) | ((with_reducible first | refine QT 3 (l := ?_) ?_ ?_ | refine QF 3 (l := ?_) ?_ ?_); rotate_left 1; focus (simp only [Zu, Nat.reduceSub, Nat.reduceBEq]; with_reducible rfl)) | ((with_reducible first | refine QS (cfg_ok 6) Tab.none (s' := ?_) ?_ ?_ | refine QC (b := ?_) ?_ ?_); rotate_left 1; focus ((with_reducible refine QW ?_); simp only [Zg, seval, if_true, if_false, reduceCtorEq, Nat.reduceEqDiff]; with_reducible rfl)))
    (refine Ends.mk (by simp) (rs := ?_) (ks := ?_) hres hrts ?_ ?_ ?_; rotate_left 2; (focus (simp only [Ze, Zg, seval, if_true, if_false, reduceCtorEq, Nat.reduceEqDiff]; with_reducible rfl)); (focus simp); focus (first | with_reducible rfl | (simp only [Zv]; done)))
  · have hb : (n == 0) = false := beq_eq_false_iff_ne.2 h
    rw [decide_eq_false h]
    repeat' (first | with_reducible (first | refine Q1 ?_ | refine Q2 ?_ | refine Q3 ?_ | refine Q4 ?_ | refine Q5 ?_ | refine Q6 ?_ | refine Q7 ?_ | refine Q8 ?_ | refine Q9 ?_ | refine Qa ?_ | refine Qb ?_ | refine Qc ?_ | refine Qd ?_ | refine Qe ?_ | refine Qf ?_) | ((with_reducible refine Qo ?_ ?_); focus rfl) | ((with_reducible first | refine QT 3 (l := ?_) ?_ ?_ | refine QF 3 (l := ?_) ?_ ?_); rotate_left 1; focus (simp only [Zu, Nat.reduceSub, Nat.reduceBEq]; with_reducible rfl)) | ((with_reducible first | refine QS (cfg_ok 6) Tab.none (s' := ?_) ?_ ?_ | refine QC (b := ?_) ?_ ?_); rotate_left 1; focus ((with_reducible refine QW ?_); simp only [Zg, seval, if_true, if_false, reduceCtorEq, Nat.reduceEqDiff, hb]; with_reducible rfl)))
    (refine Ends.mk (by simp) (rs := ?_) (ks := ?_) hres hrts ?_ ?_ ?_; rotate_left 2; (focus (simp only [Ze, Zg, seval, if_true, if_false, reduceCtorEq, Nat.reduceEqDiff]; with_reducible rfl)); (focus simp); focus (first | with_reducible rfl | (simp only [Zv]; done)))
theorem sub_flat3 {α : Type} {l1 l2 : List (List α)} (h : l1.Sublist l2) : l1.flatten.Sublist l2.flatten := by
  induction h with
  | slnil => exact .slnil
  | cons a _ ih => rw [List.flatten_cons]; exact ih.trans (List.sublist_append_right _ _)
  | cons_cons a _ ih => rw [List.flatten_cons, List.flatten_cons]; exact List.Sublist.append (List.Sublist.refl _) ih
set_option maxHeartbeats 4000000 in
theorem a_summed (L : List (Int × List (List Int))) (hl : L.length ≤ 100000) (hz : ∀ z ∈ L, (0 ≤ z.1 ∧ z.1 < 10007) ∧ z.2.length ≤ 1000000 ∧ sumLen z.2 ≤ 1000000) : AFn Tryz.prog 54 [[.sl 2 (L.map ePt)]] (· = [.own 2 ((sumS cmpF L).map ePt) true]) := by
  have hcl := a_ClonePt L (by omega)
  have hso := a_sortPt L (fun z hz' => (hz z hz').2.2) (by omega)
  refine AFn.of_runs (cfg_ok 62) Tryz.func54 rfl rfl rfl (by simp only [List.length_cons, List.length_nil]; decide) ?_
  have hres : Tryz.f54.results.toList = [.tmp 2] := rfl
  have hrts : Tryz.f54.resultTypes.toList = [24] := rfl
  simp only [argRegs, argAV1, eL, eI, eLL, eB, Nat.zero_add, Nat.reduceAdd]
  intro M
  refine RunK.of ?_
  repeat' (first | with_reducible (first | refine Q1 ?_ | refine Q2 ?_ | refine Q3 ?_ | refine Q4 ?_ | refine Q5 ?_ | refine Q6 ?_ | refine Q7 ?_ | refine Q8 ?_ | refine Q9 ?_ | refine Qa ?_ | refine Qb ?_ | refine Qc ?_ | refine Qd ?_ | refine Qe ?_ | refine Qf ?_) | ((with_reducible refine Qo ?_ ?_); focus rfl) | ((with_reducible first | refine QT 15 (l := ?_) ?_ ?_ | refine QF 15 (l := ?_) ?_ ?_); rotate_left 1; focus (simp only [Zu, Nat.reduceSub, Nat.reduceBEq]; with_reducible rfl)) | ((with_reducible first | refine QS (cfg_ok 62) ((Tab.none.at' 101 hcl)) (s' := ?_) ?_ ?_ | refine QC (b := ?_) ?_ ?_); rotate_left 1; focus ((with_reducible refine QW ?_); simp only [Zg, seval, if_true, if_false, reduceCtorEq, Nat.reduceEqDiff]; with_reducible rfl)) | ((with_reducible refine QD (cfg_ok 62) ((Tab.none.at' 101 hcl)) mixed_ok (tr := ?_) (s' := ?_) ?_ ?_ ?_); rotate_left 2; (focus ((with_reducible refine QW ?_); simp only [Zg, Zd, seval, if_true, if_false, reduceCtorEq, Nat.reduceEqDiff]; with_reducible rfl)); focus ((with_reducible refine QK ?_); simp only [Zk]; kernel_rfl)))
  refine RunK.regCut (cfg_ok 62) Tab.none 1 (s1 := ?_) ?_ ?_
  rotate_left 1
  focus (refine Work.mk ?_; simp only [Zg, seval, if_true, if_false, reduceCtorEq, Nat.reduceEqDiff]; with_reducible rfl)
  simp only [List.toList_toArray, List.drop_succ_cons, List.drop_zero]
  refine ROps.callEf (cfg_ok 62) rfl rfl (by decide) rfl rfl (x := .tmp 9) (xpost := [.func 103]) rfl rfl (post := [[.raw (.func (.func 103) #[] #[])]]) ?_ ?_ rfl rfl ?_ hso (R := fun ys => ∃ zs : List (Int × List (List Int)), ys = zs.map ePt ∧ zs.Perm L ∧ zs.Pairwise (fun a b => cmpF a.2 b.2 ≤ 0)) ?_ ?_
  · simp only [Zg, seval, if_true, if_false, reduceCtorEq, Nat.reduceEqDiff]
  · rfl
  · intro q u hq hu
    rw [look, if_neg (fun e => hq e.symm)] at hu
    cases hu
  · rintro rs oc ⟨rfl, zs, rfl, h1, h2⟩
    exact ⟨rfl, _, rfl, zs, rfl, h1, h2⟩
  rintro _ ⟨zs, rfl, hperm, hsort⟩
  have hzl : zs.length ≤ 100000 := by rw [hperm.length_eq]; exact hl
  have hzz : ∀ z ∈ zs, (0 ≤ z.1 ∧ z.1 < 10007) ∧ z.2.length ≤ 1000000 ∧ sumLen z.2 ≤ 1000000 := fun z hz' => hz z (hperm.mem_iff.1 hz')
  refine ROps.opsT (cfg_ok 62) (T := Tab.none) (s' := ?_) ?_ ?_
  rotate_left 1
  focus (simp only [Zg, seval, if_true, if_false, reduceCtorEq, Nat.reduceEqDiff, List.length_map]; with_reducible rfl)
  repeat' (first | with_reducible (first | refine Q1 ?_ | refine Q2 ?_ | refine Q3 ?_ | refine Q4 ?_ | refine Q5 ?_ | refine Q6 ?_ | refine Q7 ?_ | refine Q8 ?_ | refine Q9 ?_ | refine Qa ?_ | refine Qb ?_ | refine Qc ?_ | refine Qd ?_ | refine Qe ?_ | refine Qf ?_) | ((with_reducible refine Qo ?_ ?_); focus rfl) | ((with_reducible first | refine QT 15 (l := ?_) ?_ ?_ | refine QF 15 (l := ?_) ?_ ?_); rotate_left 1; focus (simp only [Zu, Nat.reduceSub, Nat.reduceBEq]; with_reducible rfl)) | ((with_reducible first | refine QS (cfg_ok 62) Tab.none (s' := ?_) ?_ ?_ | refine QC (b := ?_) ?_ ?_); rotate_left 1; focus ((with_reducible refine QW ?_); simp only [Zg, seval, if_true, if_false, reduceCtorEq, Nat.reduceEqDiff, List.length_map]; with_reducible rfl)))
  obtain ⟨R, hR⟩ : ∃ R, R = fun i => mergeTo cmpF [] (zs.take i) := ⟨_, rfl⟩
  have hRb : ∀ i, i ≤ zs.length → (R i).length ≤ 100000 ∧ ∀ z ∈ R i, (0 ≤ z.1 ∧ z.1 < 10007) ∧ z.2.length ≤ 1000000 ∧ sumLen z.2 ≤ 1000000 := fun i hi => by
    rw [hR]
    refine ⟨?_, fun z hz' => ?_⟩
    · have := mergeTo_len cmpF (zs.take i) []
      simp only [List.length_nil, List.length_take] at this
      show (mergeTo cmpF [] (zs.take i)).length ≤ 100000
      omega
    · rcases mergeTo_mem cmpF (zs.take i) [] z hz' with ⟨h1, q, hq, h2⟩ | h1
      · have := hzz q (List.mem_of_mem_take (by simpa using hq))
        rw [← h2]
        exact ⟨h1, this.2⟩
      · cases h1
  refine RunK.loop (β := Nat) (γ := Unit) (fun i => ⟨[(3, .c (.own 3 (R i).length)), (12, .c (.own 0 zs.length)), (13, .c (.val (.int zs.length))), (14, .c (.val (.int i)))], [(0, .row 2 (zs.map ePt) false), (3, .row 2 ((R i).map ePt) true)]⟩) (fun i => i ≤ zs.length) (fun i => zs.length - i)
    (fun _ => ⟨[(3, .c (.own 3 (R zs.length).length))], [(3, .row 2 ((R zs.length).map ePt) true)]⟩) (fun _ => True) 0 (Nat.zero_le _) ?_ ?_ ?_
  · have e0 : R 0 = [] := by rw [hR]; rfl
    rw [e0, ← hperm.length_eq]
    (repeat' (first | with_reducible refine Qn | ((with_reducible refine Qr ?_ ?_); focus (first | with_reducible rfl | (simp only [Zz, Nat.reduceBEq, List.map_nil, List.length_map, Int.natCast_zero]; done) | rfl)) | ((with_reducible refine Qj (o' := ?_) ?_ ?_ ?_); rotate_left 1; focus rfl) | ((with_reducible refine Qw ?_ ?_); (focus (first | with_reducible rfl | (simp only [Zv, List.map_nil, List.length_map, Int.natCast_zero]; done))); focus (first | exact id | exact (fun h => nomatch h) | exact (fun _ => rfl)))))
  · intro i hi
    have hi : i ≤ zs.length := hi
    have hw := w64_succ (n := i) (by omega)
    obtain ⟨hb1, hb2⟩ := hRb i hi
    by_cases h : i < zs.length
    · have i1 : ((i : Int) < (zs.length : Int)) = True := eq_true (by omega)
      have i2 : ((0 : Int) ≤ (i : Int)) = True := eq_true (by omega)
      obtain ⟨p, hp⟩ : ∃ p, p = zs[i] := ⟨_, rfl⟩
      have hg : (zs.map ePt)[i]? = some [.int p.1, .sl 1 (p.2.map eL)] := by rw [map_get h, hp]; rfl
      obtain ⟨hp1, hp2, hp3⟩ := hzz zs[i] (List.getElem_mem _)
      rw [← hp] at hp1 hp2 hp3
      have hst : R (i + 1) = stepM cmpF (R i) p.1 p.2 := by
        rw [hR]
        show mergeTo cmpF [] (zs.take (i + 1)) = stepM cmpF (mergeTo cmpF [] (zs.take i)) p.1 p.2
        rw [List.take_succ_eq_append_getElem h, ← hp]
        exact mergeTo_snoc cmpF p.1 p.2 _ _
      have q1 := big_le (n := (R i).length + 1) (by omega)
      have q2 := big_mul (n := (R i).length + 1) (c := 32) (by omega) (by omega)
      have hk1 := eq_true (show p.2.length ≤ 1000000 ∧ sumLen p.2 ≤ 1000000 from ⟨hp2, hp3⟩)
      have hpm := mP_small hp1.1 hp1.2
      by_cases h0 : R i = []
      · rw [h0, stepM_nil] at hst
        have j1 : (((0 : Nat) : Int) > 0) = False := eq_false (by omega)
        rw [h0] at q1 q2 ⊢
        simp only [List.length_nil] at q1 q2
        repeat' (first | with_reducible (first | refine Q1 ?_ | refine Q2 ?_ | refine Q3 ?_ | refine Q4 ?_ | refine Q5 ?_ | refine Q6 ?_ | refine Q7 ?_ | refine Q8 ?_ | refine Q9 ?_ | refine Qa ?_ | refine Qb ?_ | refine Qc ?_ | refine Qd ?_ | refine Qe ?_ | refine Qf ?_) | ((with_reducible refine Qo ?_ ?_); focus rfl) | ((with_reducible first | refine QT 15 (l := ?_) ?_ ?_ | refine QF 15 (l := ?_) ?_ ?_); rotate_left 1; focus (simp only [Zu, Nat.reduceSub, Nat.reduceBEq]; with_reducible rfl)) | ((with_reducible first | refine QS (cfg_ok 62) TSm (s' := ?_) ?_ ?_ | refine QC (b := ?_) ?_ ?_); rotate_left 1; focus ((with_reducible refine QW ?_); simp only [Zg, seval, if_true, if_false, reduceCtorEq, Nat.reduceEqDiff, TSm, TSm, i1, i2, hg, hw, j1, q1, q2, hk1, Int.toNat_natCast, List.length_map, List.length_nil]; with_reducible rfl)) | ((with_reducible refine QD (cfg_ok 62) TSm mixed_ok (tr := ?_) (s' := ?_) ?_ ?_ ?_); rotate_left 2; (focus ((with_reducible refine QW ?_); simp only [Zg, Zd, seval, if_true, if_false, reduceCtorEq, Nat.reduceEqDiff, TSm, TSm, i1, i2, hg, hw, j1, q1, q2, hk1, Int.toNat_natCast, List.length_map, List.length_nil]; with_reducible rfl)); focus ((with_reducible refine QK ?_); simp only [Zk]; kernel_rfl)))
        refine roundK.on (i + 1) ⟨h, by omega⟩ ?_
        rw [hst]
        (repeat' (first | with_reducible refine Qn | ((with_reducible refine Qr ?_ ?_); focus (first | with_reducible rfl | (simp only [Zz, Nat.reduceBEq, ePt, List.map_nil]; done) | rfl)) | ((with_reducible refine Qj (o' := ?_) ?_ ?_ ?_); rotate_left 1; focus rfl) | ((with_reducible refine Qw ?_ ?_); (focus (first | with_reducible rfl | (simp only [Zv, ePt, List.map_nil]; done))); focus (first | exact id | exact (fun h => nomatch h) | exact (fun _ => rfl)))))
      · refine RunK.tag' 3 (k := 2) (xs := (R i).map ePt) rfl ?_
        intro xs' F ht hpl hnd hF
        obtain ⟨qs, e1, e2, e3⟩ := tag_rowsP ht hpl
        have hqn : qs ≠ [] := by rintro rfl; exact h0 (by rw [e1]; rfl)
        obtain ⟨qo, q, eq⟩ := (nil_or_snoc qs).resolve_left hqn
        have hlq : (R i).length = qo.length + 1 := by rw [e1, List.length_map, eq]; simp
        have hRq : R i = qo.map (·.1) ++ [q.1] := by rw [e1, eq]; simp
        obtain ⟨hz1, hz2, hz3⟩ := hb2 q.1 (by rw [hRq]; simp)
        have j1 : ((((qo.length + 1 : Nat)) : Int) > 0) = True := eq_true (by omega)
        have hw1 : w64 (((qo.length + 1 : Nat) : Int) - 1) = ((qo.length : Nat) : Int) := by rw [w64_eq (by omega)]; omega
        have i3 : ((0 : Int) ≤ ((qo.length : Nat) : Int)) = True := eq_true (by omega)
        have i4 : (((qo.length : Nat) : Int) < ((qo.length + 1 : Nat) : Int)) = True := eq_true (by omega)
        have hgz : xs'[qo.length]? = some [.int q.1.1, .tag q.2 (.sl 1 (q.1.2.map eL))] := by
          rw [e2, eq, List.map_append, List.getElem?_append_right (by simp)]; simp [ePtT]
        have hxl : xs'.length = qo.length + 1 := by rw [e2, eq]; simp
        have hgR : ((R i).map ePt)[qo.length]? = some [.int q.1.1, .sl 1 (q.1.2.map eL)] := by
          rw [hRq, List.map_append, List.getElem?_append_right (by simp)]; simp [ePt]
        have hlR : ((R i).map ePt).length = qo.length + 1 := by rw [List.length_map, hlq]
        have hk2 := eq_true (show sumLen q.1.2 ≤ 1000000 ∧ sumLen p.2 ≤ 1000000 from ⟨hz3, hp3⟩)
        rw [hlq] at hb1 q1 q2 ⊢
        refine RunK.fits (s0 := ⟨[(3, .c (.own 3 (qo.length + 1))), (12, .c (.own 0 zs.length)), (13, .c (.val (.int zs.length))), (14, .c (.val (.int i)))], [(0, .row 2 (zs.map ePt) false), (3, .row 2 xs' false)]⟩) ?_ ?_
        · (repeat' (first | with_reducible refine Qn | ((with_reducible refine Qr ?_ ?_); focus (first | with_reducible rfl | (simp only [Zz, Nat.reduceBEq]; done) | rfl)) | ((with_reducible refine Qj (o' := ?_) ?_ ?_ ?_); rotate_left 1; focus rfl) | ((with_reducible refine Qw ?_ ?_); (focus (first | with_reducible rfl | (simp only [Zv]; done))); focus (first | exact id | exact (fun h => nomatch h) | exact (fun _ => rfl)))))
        by_cases he : cmpF q.1.2 p.2 = 0
        · have hd : (cmpF q.1.2 p.2 == 0) = true := beq_iff_eq.2 he
          repeat' (first | with_reducible (first | refine Q1 ?_ | refine Q2 ?_ | refine Q3 ?_ | refine Q4 ?_ | refine Q5 ?_ | refine Q6 ?_ | refine Q7 ?_ | refine Q8 ?_ | refine Q9 ?_ | refine Qa ?_ | refine Qb ?_ | refine Qc ?_ | refine Qd ?_ | refine Qe ?_ | refine Qf ?_) | ((with_reducible refine Qo ?_ ?_); focus rfl) | ((with_reducible first | refine QT 15 (l := ?_) ?_ ?_ | refine QF 15 (l := ?_) ?_ ?_); rotate_left 1; focus (simp only [Zu, Nat.reduceSub, Nat.reduceBEq]; with_reducible rfl)) | ((with_reducible first | refine QS (cfg_ok 62) TCf (s' := ?_) ?_ ?_ | refine QC (b := ?_) ?_ ?_); rotate_left 1; focus ((with_reducible refine QW ?_); simp only [Zg, seval, if_true, if_false, reduceCtorEq, Nat.reduceEqDiff, TCf, TCf, i1, i2, i3, i4, hg, hgz, hxl, hw1, hd, j1, hk2, Int.toNat_natCast, List.length_map]; with_reducible rfl)) | ((with_reducible refine QD (cfg_ok 62) TCf mixed_ok (tr := ?_) (s' := ?_) ?_ ?_ ?_); rotate_left 2; (focus ((with_reducible refine QW ?_); simp only [Zg, Zd, seval, if_true, if_false, reduceCtorEq, Nat.reduceEqDiff, TCf, TCf, i1, i2, i3, i4, hg, hgz, hxl, hw1, hd, j1, hk2, Int.toNat_natCast, List.length_map]; with_reducible rfl)); focus ((with_reducible refine QK ?_); simp only [Zk]; kernel_rfl)))
          refine RunK.untag 3 (xs := (R i).map ePt) rfl ht hnd hF rfl ?_
          refine RunK.fits (s0 := ⟨[(3, .c (.own 3 (qo.length + 1))), (5, .optr 5 0 0), (6, .c (.val (.int ((qo.length + 1 : Nat) : Int)))), (12, .c (.own 0 zs.length)), (13, .c (.val (.int zs.length))), (14, .c (.val (.int i)))], [(0, .row 2 (zs.map ePt) false), (3, .row 2 ((R i).map ePt) true), (5, .row 2 [[.int p.1, .sl 1 (p.2.map eL)]] false)]⟩) ?_ ?_
          · (repeat' (first | with_reducible refine Qn | ((with_reducible refine Qr ?_ ?_); focus (first | with_reducible rfl | (simp only [Zz, Nat.reduceBEq]; done) | rfl)) | ((with_reducible refine Qj (o' := ?_) ?_ ?_ ?_); rotate_left 1; focus rfl) | ((with_reducible refine Qw ?_ ?_); (focus (first | with_reducible rfl | (simp only [Zv]; done))); focus (first | exact id | exact (fun h => nomatch h) | exact (fun _ => rfl)))))
          have hwz := w64_eq (n := q.1.1 + p.1) (by omega)
          repeat' (first | with_reducible (first | refine Q1 ?_ | refine Q2 ?_ | refine Q3 ?_ | refine Q4 ?_ | refine Q5 ?_ | refine Q6 ?_ | refine Q7 ?_ | refine Q8 ?_ | refine Q9 ?_ | refine Qa ?_ | refine Qb ?_ | refine Qc ?_ | refine Qd ?_ | refine Qe ?_ | refine Qf ?_) | ((with_reducible refine Qo ?_ ?_); focus rfl) | ((with_reducible first | refine QT 15 (l := ?_) ?_ ?_ | refine QF 15 (l := ?_) ?_ ?_); rotate_left 1; focus (simp only [Zu, Nat.reduceSub, Nat.reduceBEq]; with_reducible rfl)) | ((with_reducible first | refine QS (cfg_ok 62) TSm (s' := ?_) ?_ ?_ | refine QC (b := ?_) ?_ ?_); rotate_left 1; focus ((with_reducible refine QW ?_); simp only [Zg, seval, if_true, if_false, reduceCtorEq, Nat.reduceEqDiff, TSm, TSm, i1, i2, i3, i4, hgR, hlR, hw, hw1, hwz, hlq, Int.toNat_natCast, List.length_map]; with_reducible rfl)) | ((with_reducible refine QD (cfg_ok 62) TSm mixed_ok (tr := ?_) (s' := ?_) ?_ ?_ ?_); rotate_left 2; (focus ((with_reducible refine QW ?_); simp only [Zg, Zd, seval, if_true, if_false, reduceCtorEq, Nat.reduceEqDiff, TSm, TSm, i1, i2, i3, i4, hgR, hlR, hw, hw1, hwz, hlq, Int.toNat_natCast, List.length_map]; with_reducible rfl)); focus ((with_reducible refine QK ?_); simp only [Zk]; kernel_rfl)))
          have hse : ((R i).map ePt).set qo.length [.int (mP (q.1.1 + p.1)), .sl 1 (q.1.2.map eL)] = (R (i + 1)).map ePt := by
            rw [hst, hRq, stepM_eq cmpF (qo.map (·.1)) q.1.1 q.1.2 p.1 p.2 he, List.map_append, List.set_append_right _ _ (by simp)]; simp [ePt]
          refine roundK.on (i + 1) ⟨h, by omega⟩ ?_
          have hl2 : (R (i + 1)).length = qo.length + 1 := by rw [hst, hRq, stepM_eq cmpF (qo.map (·.1)) q.1.1 q.1.2 p.1 p.2 he]; simp
          rw [hl2, ← hse]
          (repeat' (first | with_reducible refine Qn | ((with_reducible refine Qr ?_ ?_); focus (first | with_reducible rfl | (simp only [Zz, Nat.reduceBEq, ePt]; done) | rfl)) | ((with_reducible refine Qj (o' := ?_) ?_ ?_ ?_); rotate_left 1; focus rfl) | ((with_reducible refine Qw ?_ ?_); (focus (first | with_reducible rfl | (simp only [Zv, ePt]; done))); focus (first | exact id | exact (fun h => nomatch h) | exact (fun _ => rfl)))))
        · have hd : (cmpF q.1.2 p.2 == 0) = false := beq_eq_false_iff_ne.2 he
          repeat' (first | with_reducible (first | refine Q1 ?_ | refine Q2 ?_ | refine Q3 ?_ | refine Q4 ?_ | refine Q5 ?_ | refine Q6 ?_ | refine Q7 ?_ | refine Q8 ?_ | refine Q9 ?_ | refine Qa ?_ | refine Qb ?_ | refine Qc ?_ | refine Qd ?_ | refine Qe ?_ | refine Qf ?_) | ((with_reducible refine Qo ?_ ?_); focus rfl) | ((with_reducible first | refine QT 15 (l := ?_) ?_ ?_ | refine QF 15 (l := ?_) ?_ ?_); rotate_left 1; focus (simp only [Zu, Nat.reduceSub, Nat.reduceBEq]; with_reducible rfl)) | ((with_reducible first | refine QS (cfg_ok 62) TCf (s' := ?_) ?_ ?_ | refine QC (b := ?_) ?_ ?_); rotate_left 1; focus ((with_reducible refine QW ?_); simp only [Zg, seval, if_true, if_false, reduceCtorEq, Nat.reduceEqDiff, TCf, TCf, i1, i2, i3, i4, hg, hgz, hxl, hw1, hd, j1, hk2, Int.toNat_natCast, List.length_map]; with_reducible rfl)) | ((with_reducible refine QD (cfg_ok 62) TCf mixed_ok (tr := ?_) (s' := ?_) ?_ ?_ ?_); rotate_left 2; (focus ((with_reducible refine QW ?_); simp only [Zg, Zd, seval, if_true, if_false, reduceCtorEq, Nat.reduceEqDiff, TCf, TCf, i1, i2, i3, i4, hg, hgz, hxl, hw1, hd, j1, hk2, Int.toNat_natCast, List.length_map]; with_reducible rfl)); focus ((with_reducible refine QK ?_); simp only [Zk]; kernel_rfl)))
          refine RunK.untag 3 (xs := (R i).map ePt) rfl ht hnd hF rfl ?_
          refine RunK.fits (s0 := ⟨[(3, .c (.own 3 (qo.length + 1))), (5, .optr 5 0 0), (6, .c (.val (.int ((qo.length + 1 : Nat) : Int)))), (12, .c (.own 0 zs.length)), (13, .c (.val (.int zs.length))), (14, .c (.val (.int i)))], [(0, .row 2 (zs.map ePt) false), (3, .row 2 ((R i).map ePt) true), (5, .row 2 [[.int p.1, .sl 1 (p.2.map eL)]] false)]⟩) ?_ ?_
          · (repeat' (first | with_reducible refine Qn | ((with_reducible refine Qr ?_ ?_); focus (first | with_reducible rfl | (simp only [Zz, Nat.reduceBEq]; done) | rfl)) | ((with_reducible refine Qj (o' := ?_) ?_ ?_ ?_); rotate_left 1; focus rfl) | ((with_reducible refine Qw ?_ ?_); (focus (first | with_reducible rfl | (simp only [Zv]; done))); focus (first | exact id | exact (fun h => nomatch h) | exact (fun _ => rfl)))))
          repeat' (first | with_reducible (first | refine Q1 ?_ | refine Q2 ?_ | refine Q3 ?_ | refine Q4 ?_ | refine Q5 ?_ | refine Q6 ?_ | refine Q7 ?_ | refine Q8 ?_ | refine Q9 ?_ | refine Qa ?_ | refine Qb ?_ | refine Qc ?_ | refine Qd ?_ | refine Qe ?_ | refine Qf ?_) | ((with_reducible refine Qo ?_ ?_); focus rfl) | ((with_reducible first | refine QT 15 (l := ?_) ?_ ?_ | refine QF 15 (l := ?_) ?_ ?_); rotate_left 1; focus (simp only [Zu, Nat.reduceSub, Nat.reduceBEq]; with_reducible rfl)) | ((with_reducible first | refine QS (cfg_ok 62) TSm (s' := ?_) ?_ ?_ | refine QC (b := ?_) ?_ ?_); rotate_left 1; focus ((with_reducible refine QW ?_); simp only [Zg, seval, if_true, if_false, reduceCtorEq, Nat.reduceEqDiff, TSm, TSm, i1, i2, i3, i4, hgR, hlR, hw, hw1, hk1, hlq, q1, q2, Int.toNat_natCast, List.length_map]; with_reducible rfl)) | ((with_reducible refine QD (cfg_ok 62) TSm mixed_ok (tr := ?_) (s' := ?_) ?_ ?_ ?_); rotate_left 2; (focus ((with_reducible refine QW ?_); simp only [Zg, Zd, seval, if_true, if_false, reduceCtorEq, Nat.reduceEqDiff, TSm, TSm, i1, i2, i3, i4, hgR, hlR, hw, hw1, hk1, hlq, q1, q2, Int.toNat_natCast, List.length_map]; with_reducible rfl)); focus ((with_reducible refine QK ?_); simp only [Zk]; kernel_rfl)))
          have hR2 : R (i + 1) = R i ++ [(mP p.1, p.2)] := by
            rw [hst, hRq]; exact stepM_ne cmpF (qo.map (·.1)) q.1.1 q.1.2 p.1 p.2 he
          refine roundK.on (i + 1) ⟨h, by omega⟩ ?_
          rw [hR2, List.length_append, hlq]
          (repeat' (first | with_reducible refine Qn | ((with_reducible refine Qr ?_ ?_); focus (first | with_reducible rfl | (simp only [Zz, Nat.reduceBEq, ePt]; done) | rfl)) | ((with_reducible refine Qj (o' := ?_) ?_ ?_ ?_); rotate_left 1; focus rfl) | ((with_reducible refine Qw ?_ ?_); (focus (first | with_reducible rfl | (simp only [Zv, ePt]; done))); focus (first | exact id | exact (fun h => nomatch h) | exact (fun _ => rfl)))))
    · have i1 : ((i : Int) < (zs.length : Int)) = False := eq_false (by omega)
      obtain rfl : i = zs.length := by omega
      repeat' (first | with_reducible (first | refine Q1 ?_ | refine Q2 ?_ | refine Q3 ?_ | refine Q4 ?_ | refine Q5 ?_ | refine Q6 ?_ | refine Q7 ?_ | refine Q8 ?_ | refine Q9 ?_ | refine Qa ?_ | refine Qb ?_ | refine Qc ?_ | refine Qd ?_ | refine Qe ?_ | refine Qf ?_) | ((with_reducible refine Qo ?_ ?_); focus rfl) | ((with_reducible first | refine QT 15 (l := ?_) ?_ ?_ | refine QF 15 (l := ?_) ?_ ?_); rotate_left 1; focus (simp only [Zu, Nat.reduceSub, Nat.reduceBEq]; with_reducible rfl)) | ((with_reducible first | refine QS (cfg_ok 62) Tab.none (s' := ?_) ?_ ?_ | refine QC (b := ?_) ?_ ?_); rotate_left 1; focus ((with_reducible refine QW ?_); simp only [Zg, seval, if_true, if_false, reduceCtorEq, Nat.reduceEqDiff, i1]; with_reducible rfl)) | ((with_reducible refine QD (cfg_ok 62) Tab.none mixed_ok (tr := ?_) (s' := ?_) ?_ ?_ ?_); rotate_left 2; (focus ((with_reducible refine QW ?_); simp only [Zg, Zd, seval, if_true, if_false, reduceCtorEq, Nat.reduceEqDiff, i1]; with_reducible rfl)); focus ((with_reducible refine QK ?_); simp only [Zk]; kernel_rfl)))
      refine roundK.out () trivial ?_
      (repeat' (first | with_reducible refine Qn | ((with_reducible refine Qr ?_ ?_); focus (first | with_reducible rfl | (simp only [Zz, Nat.reduceBEq]; done) | rfl)) | ((with_reducible refine Qj (o' := ?_) ?_ ?_ ?_); rotate_left 1; focus rfl) | ((with_reducible refine Qw ?_ ?_); (focus (first | with_reducible rfl | (simp only [Zv]; done))); focus (first | exact id | exact (fun h => nomatch h) | exact (fun _ => rfl)))))
  · rintro _ _
    repeat' (first | with_reducible (first | refine Q1 ?_ | refine Q2 ?_ | refine Q3 ?_ | refine Q4 ?_ | refine Q5 ?_ | refine Q6 ?_ | refine Q7 ?_ | refine Q8 ?_ | refine Q9 ?_ | refine Qa ?_ | refine Qb ?_ | refine Qc ?_ | refine Qd ?_ | refine Qe ?_ | refine Qf ?_) | ((with_reducible refine Qo ?_ ?_); focus rfl) | ((with_reducible first | refine QT 15 (l := ?_) ?_ ?_ | refine QF 15 (l := ?_) ?_ ?_); rotate_left 1; focus (simp only [Zu, Nat.reduceSub, Nat.reduceBEq]; with_reducible rfl)) | ((with_reducible first | refine QS (cfg_ok 62) Tab.none (s' := ?_) ?_ ?_ | refine QC (b := ?_) ?_ ?_); rotate_left 1; focus ((with_reducible refine QW ?_); simp only [Zg, seval, if_true, if_false, reduceCtorEq, Nat.reduceEqDiff]; with_reducible rfl)) | ((with_reducible refine QD (cfg_ok 62) Tab.none mixed_ok (tr := ?_) (s' := ?_) ?_ ?_ ?_); rotate_left 2; (focus ((with_reducible refine QW ?_); simp only [Zg, Zd, seval, if_true, if_false, reduceCtorEq, Nat.reduceEqDiff]; with_reducible rfl)); focus ((with_reducible refine QK ?_); simp only [Zk]; kernel_rfl)))
    refine RunK.tag' 3 (k := 2) (xs := (R zs.length).map ePt) rfl ?_
    intro xs' F ht hpl hnd hF
    obtain ⟨qs, e1, e2, e3⟩ := tag_rowsP ht hpl
    subst e2
    have hql : (R zs.length).length = qs.length := by rw [e1, List.length_map]
    have hqb : qs.length ≤ 1000000000 := by rw [← hql]; have := (hRb zs.length (Nat.le_refl _)).1; omega
    have hdel := a_DeleteFuncPt ePtT (fun z => .tag z.2 (.sl 1 (z.1.2.map eL))) (·.1.1) (·.1.2) (fun z => decide (z.1.1 = 0)) 106 (fun _ => rfl) (fun _ => rfl) (fun z => a_summed2 z.1.1 z.1.2) qs hqb
    rw [hql]
    refine RunK.fits (s0 := ⟨[(3, .c (.own 3 qs.length))], [(3, .row 2 (qs.map ePtT) false)]⟩) ?_ ?_
    · (repeat' (first | with_reducible refine Qn | ((with_reducible refine Qr ?_ ?_); focus (first | with_reducible rfl | (simp only [Zz, Nat.reduceBEq]; done) | rfl)) | ((with_reducible refine Qj (o' := ?_) ?_ ?_ ?_); rotate_left 1; focus rfl) | ((with_reducible refine Qw ?_ ?_); (focus (first | with_reducible rfl | (simp only [Zv]; done))); focus (first | exact id | exact (fun h => nomatch h) | exact (fun _ => rfl)))))
    repeat' (first | with_reducible (first | refine Q1 ?_ | refine Q2 ?_ | refine Q3 ?_ | refine Q4 ?_ | refine Q5 ?_ | refine Q6 ?_ | refine Q7 ?_ | refine Q8 ?_ | refine Q9 ?_ | refine Qa ?_ | refine Qb ?_ | refine Qc ?_ | refine Qd ?_ | refine Qe ?_ | refine Qf ?_) | ((with_reducible refine Qo ?_ ?_); focus rfl) | ((with_reducible first | refine QT 15 (l := ?_) ?_ ?_ | refine QF 15 (l := ?_) ?_ ?_); rotate_left 1; focus (simp only [Zu, Nat.reduceSub, Nat.reduceBEq]; with_reducible rfl)) | ((with_reducible first | refine QS (cfg_ok 62) (Tab.none.own' 105 0 hdel) (s' := ?_) ?_ ?_ | refine QC (b := ?_) ?_ ?_); rotate_left 1; focus ((with_reducible refine QW ?_); simp only [Zg, seval, if_true, if_false, reduceCtorEq, Nat.reduceEqDiff, Tab.own', atOwn_eq, List.length_map]; with_reducible rfl)) | ((with_reducible refine QD (cfg_ok 62) (Tab.none.own' 105 0 hdel) mixed_ok (tr := ?_) (s' := ?_) ?_ ?_ ?_); rotate_left 2; (focus ((with_reducible refine QW ?_); simp only [Zg, Zd, seval, if_true, if_false, reduceCtorEq, Nat.reduceEqDiff, Tab.own', atOwn_eq, List.length_map]; with_reducible rfl)); focus ((with_reducible refine QK ?_); simp only [Zk]; kernel_rfl)))
    refine Ends.un (by simp) hres hrts (r := ?_) (r' := .own 2 ((sumS cmpF L).map ePt) true) (l := []) (ks := ?_) ?_ ?_ (by simp) ?_ rfl
    rotate_left 2
    focus (simp only [aresults, ares, Zg, seval, if_true, if_false, reduceCtorEq, Nat.reduceEqDiff]; with_reducible rfl)
    focus simp
    have hx : (sumS cmpF L).map ePt = ((keepF (fun z : (Int × List (List Int)) × List Nat => decide (z.1.1 = 0)) qs).map (·.1)).map ePt := by
      rw [← merge_sum cmpF_cmp hperm hsort (fun q hq => (hz q hq).1)]
      have h1 : mergeTo cmpF [] zs = qs.map (·.1) := by rw [← e1, hR]; show _ = mergeTo cmpF [] (zs.take zs.length); rw [List.take_length]
      rw [h1, List.filter_map]
      rfl
    rw [hx]
    have hsub : (keepF (fun z : (Int × List (List Int)) × List Nat => decide (z.1.1 = 0)) qs).Sublist qs := List.filter_sublist
    refine ⟨((keepF (fun z : (Int × List (List Int)) × List Nat => decide (z.1.1 = 0)) qs).map (·.2)).flatten, ?_, fun b hb => hF b ?_, .inl ⟨2, _, _, rfl, rfl, tag_mkP _⟩⟩
    · rw [e3] at hnd
      exact hnd.sublist (sub_flat3 (hsub.map _))
    · rw [e3]
      exact (sub_flat3 (hsub.map _)).subset hb
end Go.Proofs.YtacbkjmkjpjhoaaGreat
namespace Go.Proofs.YtacbkjmkjpjhoaaGreat
open Go.RowKit
set_option maxHeartbeats 2000000 in
theorem a_l01Own2 (f : List (List Int)) (hl : f.length ≤ 1000) (hs : ∀ b ∈ f, b.length ≤ 1000) : AFn Tryz.prog 72 [eLL f] (· = [.own 1 (f.map eL) false]) := by
  refine AFn.of_runs (cfg_ok 21) Tryz.func72 rfl rfl rfl (by simp only [List.length_cons, List.length_nil]; decide) ?_
  have hres : Tryz.f72.results.toList = [.tmp 2] := rfl
  have hrts : Tryz.f72.resultTypes.toList = [50] := rfl
  simp only [argRegs, argAV1, eL, eI, eLL, eB, Nat.zero_add, Nat.reduceAdd]
  intro M
  refine RunK.of ?_
  repeat' (first | with_reducible (first | refine Q1 ?_ | refine Q2 ?_ | refine Q3 ?_ | refine Q4 ?_ | refine Q5 ?_ | refine Q6 ?_ | refine Q7 ?_ | refine Q8 ?_ | refine Q9 ?_ | refine Qa ?_ | refine Qb ?_ | refine Qc ?_ | refine Qd ?_ | refine Qe ?_ | refine Qf ?_) | ((with_reducible refine Qo ?_ ?_); focus rfl) | ((with_reducible first | refine QT 5 (l := ?_) ?_ ?_ | refine QF 5 (l := ?_) ?_ ?_); rotate_left 1; focus (simp only [Zu, Nat.reduceSub, Nat.reduceBEq]; with_reducible rfl)) | ((with_reducible first | refine QS (cfg_ok 21) Tab.none (s' := ?_) ?_ ?_ | refine QC (b := ?_) ?_ ?_); rotate_left 1; focus ((with_reducible refine QW ?_); simp only [Zg, seval, if_true, if_false, reduceCtorEq, Nat.reduceEqDiff, eL]; with_reducible rfl)))
  refine RunK.loop (β := Nat) (γ := Unit) (fun i => ⟨[(0, .c (.val (.sl 1 (f.map eL)))), (3, .c (.own 3 (f.take i).length)), (4, .c (.val (.int i)))], [(3, .row 1 ((f.take i).map eL) false)]⟩) (fun i => i ≤ f.length) (fun i => f.length - i)
    (fun _ => ⟨[(3, .c (.own 3 f.length))], [(3, .row 1 (f.map eL) false)]⟩) (fun _ => True) 0 (Nat.zero_le _) ?_ ?_ ?_
  · (repeat' (first | with_reducible refine Qn | ((with_reducible refine Qr ?_ ?_); focus (first | with_reducible rfl | (simp only [Zz, Nat.reduceBEq, List.take_zero, List.map_nil]; done) | rfl)) | ((with_reducible refine Qj (o' := ?_) ?_ ?_ ?_); rotate_left 1; focus rfl) | ((with_reducible refine Qw ?_ ?_); (focus (first | with_reducible rfl | (simp only [Zv, List.take_zero, List.map_nil]; done))); focus (first | exact id | exact (fun h => nomatch h) | exact (fun _ => rfl)))))
  · intro i hi
    have hi : i ≤ f.length := hi
    have hw := w64_succ (n := i) (by omega)
    by_cases h : i < f.length
    · have i1 : ((i : Int) < (f.length : Int)) = True := eq_true (by omega)
      have i2 : ((0 : Int) ≤ (i : Int)) = True := eq_true (by omega)
      obtain ⟨t, ht⟩ : ∃ t, t = f[i] := ⟨_, rfl⟩
      have hg : (f.map eL)[i]? = some [.sl 1 (t.map eI)] := by rw [map_get h, ht]; rfl
      have htl : t.length ≤ 1000 := hs t (by rw [ht]; exact List.getElem_mem h)
      have how := a_l01Own t (by omega)
      simp only [eL] at how
      have htk : f.take (i + 1) = f.take i ++ [t] := by rw [ht]; exact List.take_succ_eq_append_getElem h
      have hil : (f.take i).length = i := by rw [List.length_take]; omega
      have q1 := big_le (n := (f.take i).length + 1) (by omega)
      have q2 := big_mul (n := (f.take i).length + 1) (c := 24) (by omega) (by omega)
      repeat' (first | with_reducible (first | refine Q1 ?_ | refine Q2 ?_ | refine Q3 ?_ | refine Q4 ?_ | refine Q5 ?_ | refine Q6 ?_ | refine Q7 ?_ | refine Q8 ?_ | refine Q9 ?_ | refine Qa ?_ | refine Qb ?_ | refine Qc ?_ | refine Qd ?_ | refine Qe ?_ | refine Qf ?_) | ((with_reducible refine Qo ?_ ?_); focus rfl) | ((with_reducible first | refine QT 5 (l := ?_) ?_ ?_ | refine QF 5 (l := ?_) ?_ ?_); rotate_left 1; focus (simp only [Zu, Nat.reduceSub, Nat.reduceBEq]; with_reducible rfl)) | ((with_reducible first | refine QS (cfg_ok 21) ((Tab.none.at' 122 how)) (s' := ?_) ?_ ?_ | refine QC (b := ?_) ?_ ?_); rotate_left 1; focus ((with_reducible refine QW ?_); simp only [Zg, seval, if_true, if_false, reduceCtorEq, Nat.reduceEqDiff, i1, i2, hg, hw, q1, q2, Int.toNat_natCast, List.length_map]; with_reducible rfl)))
      refine roundK.on (i + 1) ⟨h, by omega⟩ ?_
      rw [htk]
      (repeat' (first | with_reducible refine Qn | ((with_reducible refine Qr ?_ ?_); focus (first | with_reducible rfl | (simp only [Zz, Nat.reduceBEq, eL]; done) | rfl)) | ((with_reducible refine Qj (o' := ?_) ?_ ?_ ?_); rotate_left 1; focus rfl) | ((with_reducible refine Qw ?_ ?_); (focus (first | with_reducible rfl | (simp only [Zv, eL]; done))); focus (first | exact id | exact (fun h => nomatch h) | exact (fun _ => rfl)))))
    · have i1 : ((i : Int) < (f.length : Int)) = False := eq_false (by omega)
      obtain rfl : i = f.length := by omega
      rw [List.take_length]
      repeat' (first | with_reducible (first | refine Q1 ?_ | refine Q2 ?_ | refine Q3 ?_ | refine Q4 ?_ | refine Q5 ?_ | refine Q6 ?_ | refine Q7 ?_ | refine Q8 ?_ | refine Q9 ?_ | refine Qa ?_ | refine Qb ?_ | refine Qc ?_ | refine Qd ?_ | refine Qe ?_ | refine Qf ?_) | ((with_reducible refine Qo ?_ ?_); focus rfl) | ((with_reducible first | refine QT 5 (l := ?_) ?_ ?_ | refine QF 5 (l := ?_) ?_ ?_); rotate_left 1; focus (simp only [Zu, Nat.reduceSub, Nat.reduceBEq]; with_reducible rfl)) | ((with_reducible first | refine QS (cfg_ok 21) Tab.none (s' := ?_) ?_ ?_ | refine QC (b := ?_) ?_ ?_); rotate_left 1; focus ((with_reducible refine QW ?_); simp only [Zg, seval, if_true, if_false, reduceCtorEq, Nat.reduceEqDiff, i1, List.length_map]; with_reducible rfl)))
      refine roundK.out () trivial ?_
      (repeat' (first | with_reducible refine Qn | ((with_reducible refine Qr ?_ ?_); focus (first | with_reducible rfl | (simp only [Zz, Nat.reduceBEq]; done) | rfl)) | ((with_reducible refine Qj (o' := ?_) ?_ ?_ ?_); rotate_left 1; focus rfl) | ((with_reducible refine Qw ?_ ?_); (focus (first | with_reducible rfl | (simp only [Zv]; done))); focus (first | exact id | exact (fun h => nomatch h) | exact (fun _ => rfl)))))
  · rintro _ _
    repeat' (first | with_reducible (first | refine Q1 ?_ | refine Q2 ?_ | refine Q3 ?_ | refine Q4 ?_ | refine Q5 ?_ | refine Q6 ?_ | refine Q7 ?_ | refine Q8 ?_ | refine Q9 ?_ | refine Qa ?_ | refine Qb ?_ | refine Qc ?_ | refine Qd ?_ | refine Qe ?_ | refine Qf ?_) | ((with_reducible refine Qo ?_ ?_); focus rfl) | ((with_reducible first | refine QT 5 (l := ?_) ?_ ?_ | refine QF 5 (l := ?_) ?_ ?_); rotate_left 1; focus (simp only [Zu, Nat.reduceSub, Nat.reduceBEq]; with_reducible rfl)) | ((with_reducible first | refine QS (cfg_ok 21) Tab.none (s' := ?_) ?_ ?_ | refine QC (b := ?_) ?_ ?_); rotate_left 1; focus ((with_reducible refine QW ?_); simp only [Zg, seval, if_true, if_false, reduceCtorEq, Nat.reduceEqDiff]; with_reducible rfl)))
    (refine Ends.mk (by simp) (rs := ?_) (ks := ?_) hres hrts ?_ ?_ ?_; rotate_left 2; (focus (simp only [Ze, Zg, seval, if_true, if_false, reduceCtorEq, Nat.reduceEqDiff]; with_reducible rfl)); (focus simp); focus (first | with_reducible rfl | (simp only [Zv]; done)))
end Go.Proofs.YtacbkjmkjpjhoaaGreat
