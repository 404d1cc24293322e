/- Cuts above a node: both programs. -/
import Derived.Test.YtmeijcgclllldaaCat
import Derived.Test.YtmeijcgclllldaaCutPure
import Derived.Test.YtmeijcgclllldaaForestOf
namespace Go.Proofs.Ytmeijcgclllldaa
open Go.RowKit

/-- Two lists of the call's own, the second above the first. -/
def RetOO {α β : Type} (R : Rep α) (S : Rep β) (w : World) (x : α) (y : β) : Ending → World → Prop :=
  fun e w' => ∃ u1 u2 m, e = .returned (.tuple #[u1, u2]) ∧ (w.heap.size ≤ m ∧ m ≤ w'.heap.size) ∧ Own R w.heap.size m w' [u1] x ∧ Own S m w'.heap.size w' [u2] y ∧ Below w.heap.size w w'

/-- .. and a code. -/
def RetOOC {α β : Type} (R : Rep α) (S : Rep β) (w : World) (x : α) (y : β) (code : Int) : Ending → World → Prop :=
  fun e w' => ∃ u1 u2 m, e = .returned (.tuple #[u1, u2, .int .i64 code]) ∧ (w.heap.size ≤ m ∧ m ≤ w'.heap.size) ∧ Own R w.heap.size m w' [u1] x ∧ Own S m w'.heap.size w' [u2] y ∧ Below w.heap.size w w'

theorem getD_get {t : List Int} {i : Nat} (h : i < t.length) : t.getD i 0 = t[i] := by simp [h]

theorem Below.of_alloc_heap {w W w2 : World} {o : Obj} (b : Below W.heap.size W w2) (e : W.heap = (w.alloc o).heap) (e1 : W.os = w.os) (e2 : W.tape = w.tape) (e3 : W.output = w.output) : Below w.heap.size w w2 :=
  ⟨b.os.trans e1, b.tape.trans e2, b.output.trans e3, by have := b.size; rw [e] at this; simp at this; omega,
    fun k hk => (b.block k (by rw [e]; simp; omega)).trans (by rw [e]; exact Below.heap_alloc w o k hk)⟩

theorem Below.of_heap_eq {w W w2 : World} (b : Below W.heap.size W w2) (e : W.heap = w.heap) (e1 : W.os = w.os) (e2 : W.tape = w.tape) (e3 : W.output = w.output) : Below w.heap.size w w2 := by
  rw [e] at b
  exact ⟨b.os.trans e1, b.tape.trans e2, b.output.trans e3, by have := b.size; rw [e] at this; exact this, fun k hk => (b.block k hk).trans (by rw [e])⟩

/-- A literal of two lists. -/
theorem Rd.two {α : Type} {R : Rep α} {w W : World} {u1 u2 : Value} {x y : List α} {E : TypeId} (h1 : Rd (RS R) w [u1] x) (h2 : Rd (RS R) w [u2] y) (e : W.heap = (w.alloc (.cells #[u1, u2] E)).heap) :
    Rd (RS (RS R)) W [.slice (some ⟨w.heap.size, 0, none⟩) 2 2] [x, y] := by
  refine Rd.of_heap (w := w.alloc (.cells #[u1, u2] E)) ?_ e
  have hb : Below w.heap.size w (w.alloc (.cells #[u1, u2] E)) := (Below.refl _ _).alloc (Nat.le_refl _) _
  refine ⟨some ⟨w.heap.size, 0, none⟩, 2, [u1, u2], rfl, Nat.le_refl _, by decide, by simp, ⟨[u1], [u2], rfl, h1.below hb (Nat.le_refl _), ⟨[u2], [], rfl, h2.below hb (Nat.le_refl _), rfl⟩⟩, .inr ⟨w.heap.size, 0, rfl, by simp, fun j u hj => ?_⟩⟩
  rw [Nat.zero_add, World.cell?_alloc_at _ _ _ _ rfl]
  simpa using hj

theorem Rd.none' {w : World} {oa : Option Addr} {c : Nat} (hc : c ≤ maxLen) (hn : oa = none → c = 0) : Rd (RS RI) w [.slice oa 0 c] [] :=
  ⟨oa, c, [], rfl, Nat.zero_le _, hc, hn, rfl, .inl rfl⟩

set_option maxRecDepth 100000 in
set_option maxHeartbeats 1000000 in
theorem c_spec_l04End (v : Value) (t : List Int) (n : Nat) (w : World) (h : Rd (RS RI) w [v] t) (hn : n < t.length) (hsz : t.length ≤ 1000000) :
    Calls Try.prog 86 #[v, .int .i64 n] w (RetQ w (.int .i64 (endOf t n : Nat))) := by
  obtain ⟨oa, c1, I1⟩ := h.ints
  obtain rfl := I1.val
  have m1 := I1.le; have m2 := I1.capLe
  unfold maxLen at m2
  obtain ⟨b, off, rfl, hb, hc⟩ := I1.get hn
  have gn := hc n hn
  have HC := Lib.hid hc
  have HN := Lib.hid hn
  have hw0 : IntKind.i64.wrap ((n : Int) + 1) = (n : Int) + 1 := IntWalk.i64_in _ (by omega)
  obtain ⟨x, hx⟩ : ∃ x : Int, x = t[n]'hn := ⟨_, rfl⟩
  rw [← hx] at gn
  have HX := Lib.hid hx
  have in0 : (0 : Int) ≤ (n : Int) := by omega
  have in1 : (n : Int) < (t.length : Int) := by omega
  obtain ⟨tl, htl⟩ : ∃ tl, tl = t.length := ⟨_, rfl⟩
  rw [← htl] at in1 m1 hsz
  rw [← htl]
  have HTL := Lib.hid htl
  clear hc I1 h hx htl
  go_enter Try.func86, Try.ntmps86
  go_wp2_with fail
  go_loopw [5] (fun i wr => ∃ k : Nat, n + 1 ≤ k ∧ k ≤ tl ∧ i = .int .i64 k ∧ Hid (∀ j, n < j → j < k → t.getD n 0 < t.getD j 0) ∧ ∃ nd, wr = w.drewN nd) (fun i _ => tl - (intOf i).toNat)
  case atStart => exact ⟨n + 1, Nat.le_refl _, by have := HTL.out; have := HN.out; omega, by go_num, Lib.hid (fun j h1 h2 => by omega), 0, rfl⟩
  case round =>
    obtain ⟨k, hnk, hk, rfl, hall, nd, rfl⟩ := hrel
    by_cases hlt : k < tl
    · have hlt2 : k < t.length := by rw [← HTL.out]; exact hlt
      have gk := HC.out k hlt2
      obtain ⟨y, hy⟩ : ∃ y, y = t[k] := ⟨_, rfl⟩
      rw [← hy] at gk
      have ik0 : (0 : Int) ≤ (k : Int) := by omega
      have ik1 : (k : Int) < (tl : Int) := by omega
      have ik2 : decide ((k : Int) < (tl : Int)) = true := decide_eq_true ik1
      by_cases hgt : x < y
      · have hd : decide (x < y) = true := decide_eq_true hgt
        have HALL : Hid (∀ j, n < j → j < k + 1 → t.getD n 0 < t.getD j 0) := Lib.hid (by
          intro j h1 h2
          by_cases hj : j = k
          · subst hj; rw [getD_get HN.out, getD_get hlt2, ← hy, ← HX.out]; exact hgt
          · exact hall.out j h1 (by omega))
        clear hgt hy
        go_wp2_with fail
        go_quiet (fail)
        go_wp2_with fail
        go_roundw
        case rel => exact ⟨k + 1, by omega, by omega, by go_num, HALL, (by first | exact drewN1 _ _ | exact drewN2 _ _ _ | exact drewN3 _ _ _ _)⟩
        case measure => simp [intOf]; omega
      · have hd : decide (x < y) = false := decide_eq_false hgt
        have HE := Lib.hid (endOf_eq (t := t) hnk (by omega) hall.out (.inr (by rw [getD_get HN.out, getD_get hlt2, ← hy, ← HX.out]; exact hgt)))
        clear hgt hy
        go_wp2_with fail
        go_quiet (fail)
        go_wp2_with fail
        go_ret
        exact ⟨by rw [HE.out]; rfl, by first | exact drewN1 _ _ | exact drewN2 _ _ _ | exact drewN3 _ _ _ _⟩
    · obtain rfl : k = tl := by omega
      have HE := Lib.hid (endOf_eq (t := t) hnk (by rw [← HTL.out]; omega) hall.out (.inl HTL.out))
      have ij3 : decide ((k : Int) < (k : Int)) = false := by simp
      go_wp2_with fail
      go_quiet (fail)
      go_wp2_with fail
      go_ret
      exact ⟨by rw [HE.out]; rfl, by first | exact drewN1 _ _ | exact drewN2 _ _ _ | exact drewN3 _ _ _ _⟩

theorem endOf_le {t : List Int} {n : Nat} (hn : n < t.length) : n + 1 ≤ endOf t n ∧ endOf t n ≤ t.length := by
  unfold endOf
  have := (List.takeWhile_sublist (fun l => decide (t.getD n 0 < l)) (l := t.drop (n + 1))).length_le
  rw [List.length_drop] at this
  omega

theorem sub_take_succ (xs : List Int) (x : Int) (k : Nat) (h : k < xs.length) : (xs.take (k + 1)).map (· - x) = (xs.take k).map (· - x) ++ [xs[k] - x] := by
  rw [List.take_succ_eq_append_getElem h, List.map_append]; rfl

set_option maxRecDepth 100000 in
set_option maxHeartbeats 2000000 in
theorem c_impl_cutAbove (v : Value) (t : List Int) (n : Nat) (w : World) (h : Rd (RS RI) w [v] t) (h8 : lev8 t = true) (h0 : 0 < n) (hn : n < t.length) :
    Calls Try.prog 58 #[v, .int .i64 n] w (RetOO (RS RI) (RS RI) w (canon (cutT t n)) (canon (cutB t n))) := by
  have hlev := lev8_lev h8
  have hl8 := lev8_len h8
  have hcl := cuts_lev h8 h0 hn
  obtain ⟨e1, e2⟩ := endOf_le hn
  have HT := Lib.hid h
  obtain ⟨oa, c1, I1⟩ := h.ints
  obtain rfl := I1.val
  have m1 := I1.le; have m2 := I1.capLe
  unfold maxLen at m2
  obtain ⟨b, off, rfl, hb, hc⟩ := I1.get hn
  have gn := hc n hn
  have HC := Lib.hid hc
  have HN := Lib.hid hn
  have HLB := Lib.hid hlev.bd
  have hw0 : IntKind.i64.wrap ((n : Int) + 1) = (n : Int) + 1 := IntWalk.i64_in _ (by omega)
  obtain ⟨x, hx⟩ : ∃ x : Int, x = t[n]'hn := ⟨_, rfl⟩
  rw [← hx] at gn
  have HX := Lib.hid hx
  have HCL := Lib.hid hcl
  have hxb : 0 ≤ x ∧ x ≤ 8 := by have := hlev.bd n hn; rw [hx]; omega
  obtain ⟨xb1, xb2⟩ := hxb
  have in0 : (0 : Int) ≤ (n : Int) := by omega
  have in1 : (n : Int) < (t.length : Int) := by omega
  obtain ⟨tl, htl⟩ : ∃ tl, tl = t.length := ⟨_, rfl⟩
  rw [← htl] at in1 m1 hl8 e2
  rw [← htl]
  have HTL := Lib.hid htl
  obtain ⟨e, he⟩ : ∃ e, e = endOf t n := ⟨_, rfl⟩
  rw [← he] at e1 e2
  have HE := Lib.hid he
  clear hc I1 h hx htl hlev hcl h8 he
  go_enter Try.func58, Try.ntmps58
  go_wp2_with fail
  go_loopw [6] (fun i wr => ∃ k : Nat, n + 1 ≤ k ∧ k ≤ tl ∧ i = .int .i64 k ∧ Hid (∀ j, n < j → j < k → t.getD n 0 < t.getD j 0) ∧ ∃ nd, wr = w.drewN nd) (fun i _ => tl - (intOf i).toNat)
  case atStart => exact ⟨n + 1, Nat.le_refl _, by have := HTL.out; have := HN.out; omega, by go_num, Lib.hid (fun j h1 h2 => by omega), 0, rfl⟩
  case round =>
    obtain ⟨k, hnk, hk, rfl, hall, nd, rfl⟩ := hrel
    by_cases hgo : k < tl ∧ x < t.getD k 0
    · obtain ⟨hlt, hgt⟩ := hgo
      have hlt2 : k < t.length := by rw [← HTL.out]; exact hlt
      have gk := HC.out k hlt2
      rw [getD_get hlt2] at hgt
      obtain ⟨y, hy⟩ : ∃ y, y = t[k] := ⟨_, rfl⟩
      rw [← hy] at gk hgt
      have ik0 : (0 : Int) ≤ (k : Int) := by omega
      have ik1 : (k : Int) < (tl : Int) := by omega
      have ik2 : decide ((k : Int) < (tl : Int)) = true := decide_eq_true ik1
      have hd : decide (x < y) = true := decide_eq_true hgt
      have HALL : Hid (∀ j, n < j → j < k + 1 → t.getD n 0 < t.getD j 0) := Lib.hid (by
        intro j h1 h2
        by_cases hj : j = k
        · subst hj; rw [getD_get HN.out, getD_get hlt2, ← hy, ← HX.out]; exact hgt
        · exact hall.out j h1 (by omega))
      clear hgt hy
      go_wp2_with fail
      go_quiet (fail)
      go_wp2_with fail
      go_roundw
      case rel => exact ⟨k + 1, by omega, by omega, by go_num, HALL, (by first | exact drewN1 _ _ | exact drewN2 _ _ _ | exact drewN3 _ _ _ _)⟩
      case measure => simp [intOf]; omega
    · have HK : Hid (k = e) := Lib.hid (by
        rw [HE.out]
        refine (endOf_eq (t := t) hnk (by rw [← HTL.out]; omega) hall.out ?_).symm
        rw [getD_get HN.out, ← HX.out, ← HTL.out]
        by_cases hlt : k < tl
        · exact .inr (fun h => hgo ⟨hlt, h⟩)
        · exact .inl (by omega))
      have hcn : ¬ c1 = n := by omega
      have hmn : n ≤ e := by omega
      have hmc : e ≤ c1 := by omega
      have ic1 : n ≤ c1 := by omega
      have hcnt : ((e - n : Nat) : Int) = (e : Int) - n := by omega
      have R1 : Rd (RS RI) w [.slice (some ⟨b, off, none⟩) n c1] (t.take n) := by
        have := HT.out.part 0 n (Nat.zero_le _) (by omega) c1 (by omega) (by unfold maxLen; omega) (by simp)
        simpa [Addr.add] using this
      have R2 : Rd (RS RI) w [.slice (some ⟨b, off + e, none⟩) (tl - e) (c1 - e)] (t.drop e) := by
        have := HT.out.part e t.length (by have := HTL.out; omega) (Nat.le_refl _) (c1 - e) (by have := HTL.out; omega) (by unfold maxLen; omega) (by simp)
        rw [← HTL.out] at this
        rw [HTL.out, List.take_length, ← HTL.out] at this
        simpa [Addr.add, show ¬ e = 0 by omega] using this
      have R3 : c1 = e → Rd (RS RI) w [.slice (some ⟨b, off, none⟩) 0 0] (t.drop e) := fun h => by
        rw [List.drop_of_length_le (by have := HTL.out; omega)]
        exact Rd.none' (by decide) (by simp)
      obtain ⟨ct, hct⟩ : ∃ ct, ct = cutT t n := ⟨_, rfl⟩
      have hct2 : t.take n ++ t.drop e = ct := by rw [hct, HE.out]; rfl
      have hcl1 := lev8_lev HCL.out.1
      have hcl2 := lev8_len HCL.out.1
      have hbl1 := lev8_lev HCL.out.2
      have hbl2 := lev8_len HCL.out.2
      rw [← hct] at hcl1 hcl2
      have HCA : Hid (∀ (W : World) (v : Value), Rd (RS RI) W [v] ct → Calls Try.prog 59 #[v] W (RetO (RS RI) W (canon ct))) := Lib.hid (fun W v r => c_impl_canonical 13 v ct W r hcl1 (by omega) (by omega))
      have HCB : Hid (∀ (W : World) (v : Value), Rd (RS RI) W [v] (cutB t n) → Calls Try.prog 59 #[v] W (RetO (RS RI) W (canon (cutB t n)))) := Lib.hid (fun W v r => c_impl_canonical 13 v (cutB t n) W r hbl1 (by omega) (by omega))
      have HCC : Hid (∀ (W w' : World) (u2 : Value), Below w.heap.size w w' → Rd (RS RI) w [u2] (t.drop e) → W.heap = (w'.alloc (.cells #[.slice (some ⟨b, off, none⟩) n c1, u2] 22)).heap → Calls Try.prog 91 #[.slice (some ⟨w'.heap.size, 0, none⟩) 2 2] W (RetO (RS RI) W ct)) := Lib.hid (by
        intro W w' u2 hb hr hW
        have := c_slicesConcat (.slice (some ⟨w'.heap.size, 0, none⟩) 2 2) [t.take n, t.drop e] W (Rd.two (R1.below hb (Nat.le_refl _)) (hr.below hb (Nat.le_refl _)) hW) (by have := HTL.out; simp [sumLen]; omega)
        simpa [hct2] using this)
      have HCT := Lib.hid hct
      have EGC := Lib.hid (enters (P := Try.prog) (f := 91) Try.func91 (by kernel_rfl) rfl)
      have EGN := Lib.hid (enters (P := Try.prog) (f := 59) Try.func59 (by kernel_rfl) rfl)
      obtain ⟨m, hm⟩ : ∃ m, e - n = m := ⟨_, rfl⟩
      rw [hm] at hcnt
      have HR2 := Lib.hid R2
      have HR3 := Lib.hid R3
      have hem : e = n + m := by omega
      have HEM := Lib.hid hem
      have hgo2 : k < tl → ¬ x < t.getD k 0 := fun h1 h2 => hgo ⟨h1, h2⟩
      clear R1 R2 R3 hct hct2 hcl1 hcl2 hbl1 hbl2 hgo hem
      have key : ∀ (y : Int), (k < tl → w.cell? ⟨b, off + k, none⟩ = some (.int .i64 y) ∧ decide (x < y) = false) → True := fun _ _ => trivial
      by_cases hlt : k < tl
      case' pos =>
        have hlt2 : k < t.length := by rw [← HTL.out]; exact hlt
        have gk := HC.out k hlt2
        have hgt : ¬ x < t[k] := fun h => hgo2 hlt (by rw [getD_get hlt2]; exact h)
        obtain ⟨y, hy⟩ : ∃ y : Int, y = t[k]'hlt2 := ⟨_, rfl⟩
        rw [← hy] at gk hgt
        have ik1 : (k : Int) < (tl : Int) := by omega
        have ik2 : decide ((k : Int) < (tl : Int)) = true := decide_eq_true ik1
        have hd : decide (x < y) = false := decide_eq_false hgt
        clear hgt hy
      case' neg =>
        have ik2 : decide ((k : Int) < (tl : Int)) = false := decide_eq_false (by omega)
      all_goals
        have ik0 : (0 : Int) ≤ (k : Int) := by omega
        obtain rfl := HK.out
        clear hgo2 key
        go_wp2_with fail
        go_quiet (fail)
        go_wp2_with fail
        go_loopw [7, 35] (fun o i wr => ∃ (q : Nat) (z : List Int), q ≤ m ∧ i = .int .i64 q ∧ Hid (z = ((t.drop n).take q).map (· - x)) ∧ Hid (z.length = q) ∧ (∃ oa cap, o = .slice oa z.length cap) ∧ Hid (Own (RS RI) w.heap.size wr.heap.size wr [o] z) ∧ Below w.heap.size w wr) (fun _ i _ => m - (intOf i).toNat)
        case atStart => exact ⟨0, [], Nat.zero_le _, rfl, Lib.hid rfl, Lib.hid rfl, ⟨_, _, rfl⟩, Lib.hid ((Own.empty (R := RI) (w := w.drewN _) 2 w.heap.size (Nat.le_refl _)).top _ (by simp)), ((Below.drewN _ _ _).alloc (Nat.le_refl _) _)⟩
        case round =>
          obtain ⟨q, z, hq, rfl, hz, hzl, ⟨o1, cap1, rfl⟩, hown, hbel⟩ := hrel
          have hsz1 := hbel.size
          by_cases hlq : q < m
          · have hlq2 : n + q < t.length := by have := HTL.out; omega
            have g3 : wr.cell? ⟨b, off + n + q, none⟩ = some (.int .i64 t[n + q]) := by rw [Nat.add_assoc]; exact (hbel.cell (p := ⟨b, off + (n + q), none⟩) hb).trans (HC.out _ hlq2)
            have gn3 : wr.cell? ⟨b, off + n, none⟩ = some (.int .i64 x) := (hbel.cell (p := ⟨b, off + n, none⟩) hb).trans gn
            obtain ⟨y2, hy2⟩ : ∃ y2 : Int, y2 = t[n + q]'hlq2 := ⟨_, rfl⟩
            have hyb := HLB.out (n + q) hlq2
            have hnx : ((t.drop n).take (q + 1)).map (· - x) = z ++ [y2 - x] := by
              rw [hz.out, sub_take_succ _ _ _ (by rw [List.length_drop]; omega), List.getElem_drop, ← hy2]
            rw [← hy2] at g3 hyb
            obtain ⟨yb1, yb2⟩ := hyb
            have hw1 : IntKind.i64.wrap (y2 - x) = y2 - x := IntWalk.i64_in _ (by omega)
            have HN2 := Lib.hid hnx
            have hzb : z.length ≤ 8 := by rw [hzl.out]; omega
            have iq0 : (0 : Int) ≤ (q : Int) := by omega
            have iq1 : (q : Int) < (m : Int) := by omega
            clear hy2 hnx
            go_wp2_with (at_builtin; refine StopAt (o := ⟨some 47, _, _, _, _, _⟩) ?_)
            refine Stop.go ?_
            refine wpList_snoc (w := wr) (R := RI) rfl _ _ 22 rfl 2 (.int .i64 0) 1 8 tI64 rfl (.slice o1 z.length cap1) z (y2 - x) [.int .i64 (y2 - x)] w.heap.size wr.heap.size wr.heap.size rfl hown.out (Own.int ⟨by omega, by omega⟩) (Nat.le_refl _) hsz1 2 rfl rfl (by omega) (by omega) ?_
            intro oa1 cap1' w1 hown1 c1a c1b hbel1
            have hb3 := hbel.trans hbel1
            obtain ⟨z', hz'⟩ : ∃ z', z' = z ++ [y2 - x] := ⟨_, rfl⟩
            have HZ : Hid (z' = ((t.drop n).take (q + 1)).map (· - x)) := Lib.hid (by rw [hz', HN2.out])
            have e1 : z.length + 1 = z'.length := by rw [hz']; simp
            have HZL : Hid (z'.length = q + 1) := Lib.hid (by rw [← e1, hzl.out])
            rw [← hz', e1] at hown1
            have HO1 : Hid (Own (RS RI) w.heap.size w1.heap.size w1 [.slice oa1 z'.length cap1'] z') := hown1
            rw [e1]
            clear hown1 hbel1 hown e1 hz'
            go_wp2_with fail
            go_roundw
            case rel => exact ⟨q + 1, z', by omega, by go_num, HZ, HZL, ⟨_, _, rfl⟩, HO1, hb3⟩
            case measure => simp [intOf]; omega
          · have hfin : Hid (z = cutB t n) := Lib.hid (by
              rw [hz.out, show q = m by omega]
              unfold cutB
              rw [← HE.out, List.drop_take, getD_get hn, ← HX.out]
              have := HEM.out
              rw [show k - n = m by omega])
            by_cases hck : c1 = k ∧ ¬ k < tl
            case' pos => first | exact absurd hlt hck.2 | (obtain ⟨hck1, hck2⟩ := hck; have hrc := HR3.out hck1; obtain rfl : tl = k := (by omega); obtain rfl := hck1)
            case' neg => have hrc := HR2.out; have hck2 : ¬ c1 = k := fun h => hck ⟨h, by omega⟩; clear hck
            all_goals
              have HRC := Lib.hid hrc
              go_wp2_with fail
              go_region_law (first
                | (refine step_call rfl 91 _ _ rfl EGC.out #[.slice (some ⟨wr.heap.size, 0, none⟩) 2 2] (by simp [Act.eval]) ?_; refine Calls.mono (HCC.out _ wr _ hbel HRC.out (by rfl)) ?_; rintro e w2 ⟨u, rfl, o2, b2⟩; obtain ⟨ou, cu, rfl, lu1, lu2⟩ := o2.val; have bA : Below wr.heap.size wr w2 := Below.of_alloc_heap b2 rfl rfl rfl rfl; refine ⟨_, rfl, ?_⟩)
                | (refine step_call rfl 59 _ _ rfl EGN.out #[.slice ou ct.length cu] (by simp [Act.eval]) ?_; refine Calls.mono (HCA.out _ _ (o2.rd.of_heap (by rfl))) ?_; rintro e w3 ⟨u3, rfl, o3, b3⟩; have bB : Below w2.heap.size w2 w3 := Below.of_heap_eq b3 rfl rfl rfl rfl; refine ⟨_, rfl, ?_⟩)
                | (refine step_call rfl 59 _ _ rfl EGN.out #[.slice o1 z.length cap1] (by simp [Act.eval]) ?_; refine Calls.mono (HCB.out _ _ (hfin.out ▸ (((hown.out.below bA (Nat.le_refl _)).below bB bA.size).rd.of_heap (by rfl)))) ?_; rintro e w4 ⟨u4, rfl, o4, b4⟩; have bC : Below w3.heap.size w3 w4 := Below.of_heap_eq b4 rfl rfl rfl rfl; refine ⟨_, rfl, ?_⟩))
              all_goals
                go_wp2_with fail
                go_ret2
                have s2 := bA.size
                have s3 := bB.size
                have s4 := bC.size
                exact ⟨_, _, w3.heap.size, rfl, ⟨by omega, s4⟩, by rw [← HCT.out]; exact (o3.below bC (Nat.le_refl _)).mono (by have := o2; omega) (Nat.le_refl _), o4, hbel.trans ((bA.trans (bB.mono s2) |>.trans (bC.mono (by omega))).mono hsz1)⟩

set_option maxRecDepth 100000 in
set_option maxHeartbeats 2000000 in
theorem c_spec_l04Cut (v : Value) (t : List Int) (n : Nat) (w : World) (h : Rd (RS RI) w [v] t) (h8 : lev8 t = true) (h0 : 0 < n) (hn : n < t.length) :
    Calls Try.prog 53 #[v, .int .i64 n] w (RetOO (RS RI) (RS RI) w (canon (cutT t n)) (canon (cutB t n))) := by
  have hlev := lev8_lev h8
  have hl8 := lev8_len h8
  have hcl := cuts_lev h8 h0 hn
  obtain ⟨e1, e2⟩ := endOf_le hn
  have hend := c_spec_l04End v t n w h hn (by omega)
  have HT := Lib.hid h
  obtain ⟨oa, c1, I1⟩ := h.ints
  obtain rfl := I1.val
  have m1 := I1.le; have m2 := I1.capLe
  unfold maxLen at m2
  obtain ⟨b, off, rfl, hb, hc⟩ := I1.get hn
  have gn := hc n hn
  have HC := Lib.hid hc
  have HLB := Lib.hid hlev.bd
  obtain ⟨x, hx⟩ : ∃ x : Int, x = t[n]'hn := ⟨_, rfl⟩
  rw [← hx] at gn
  have HX := Lib.hid hx
  have HCL := Lib.hid hcl
  have hxb : 0 ≤ x ∧ x ≤ 8 := by have := hlev.bd n hn; rw [hx]; omega
  obtain ⟨xb1, xb2⟩ := hxb
  have in0 : (0 : Int) ≤ (n : Int) := by omega
  have in1 : (n : Int) < (t.length : Int) := by omega
  obtain ⟨k, he⟩ : ∃ k, k = endOf t n := ⟨_, rfl⟩
  rw [← he] at e1 e2 hend
  obtain ⟨tl, htl⟩ : ∃ tl, tl = t.length := ⟨_, rfl⟩
  rw [← htl] at in1 m1 hl8 e2 hend
  rw [← htl]
  have HTL := Lib.hid htl
  have HE := Lib.hid he
  have hnk : n + 1 ≤ k := e1
  have ic1 : n ≤ c1 := by omega
  have R1 : Rd (RS RI) w [.slice (some ⟨b, off, none⟩) n c1] (t.take n) := by
    have := HT.out.part 0 n (Nat.zero_le _) (by omega) c1 (by omega) (by unfold maxLen; omega) (by simp)
    simpa [Addr.add] using this
  have R2 : Rd (RS RI) w [.slice (some ⟨b, off + k, none⟩) (tl - k) (c1 - k)] (t.drop k) := by
    have := HT.out.part k t.length (by omega) (Nat.le_refl _) (c1 - k) (by omega) (by unfold maxLen; omega) (by simp)
    rw [← htl] at this
    rw [htl, List.take_length, ← htl] at this
    simpa [Addr.add, show ¬ k = 0 by omega] using this
  have R3 : c1 = k → Rd (RS RI) w [.slice (some ⟨b, off, none⟩) 0 (c1 - k)] (t.drop k) := fun h => by
    rw [List.drop_of_length_le (by omega)]
    exact Rd.none' (by unfold maxLen; omega) (by simp)
  obtain ⟨ct, hct⟩ : ∃ ct, ct = cutT t n := ⟨_, rfl⟩
  have hct2 : t.take n ++ t.drop k = ct := by rw [he, hct]; rfl
  have hcl1 := lev8_lev hcl.1
  have hcl2 := lev8_len hcl.1
  have hbl1 := lev8_lev hcl.2
  have hbl2 := lev8_len hcl.2
  have HCA : Hid (∀ (W : World) (v : Value), Rd (RS RI) W [v] ct → Calls Try.prog 54 #[v] W (RetO (RS RI) W (canon ct))) := Lib.hid (fun W v r => c_spec_l03Canon 8 v ct W r (hct ▸ hcl1) (hct ▸ hcl2) (by have := hct ▸ hcl2; omega))
  have HCB : Hid (∀ (W : World) (v : Value), Rd (RS RI) W [v] (cutB t n) → Calls Try.prog 54 #[v] W (RetO (RS RI) W (canon (cutB t n)))) := Lib.hid (fun W v r => c_spec_l03Canon 8 v (cutB t n) W r hbl1 (by omega) (by omega))
  have EGO := Lib.hid (enters (P := Try.prog) (f := 87) Try.func87 (by kernel_rfl) rfl)
  have EGN := Lib.hid (enters (P := Try.prog) (f := 54) Try.func54 (by kernel_rfl) rfl)
  have HR1 := Lib.hid R1
  have HR2 := Lib.hid R2
  have HR3 := Lib.hid R3
  have htk : (t.take n).length = n := by rw [List.length_take]; omega
  have HTK := Lib.hid htk
  have hdl : (t.take n).length + (t.drop k).length ≤ 1000000000 := by rw [htk, List.length_drop]; omega
  have HDL := Lib.hid hdl
  have HCT := Lib.hid hct
  have HCT2 := Lib.hid hct2
  obtain ⟨tA, hA⟩ : ∃ tA, tA = t.take n := ⟨_, rfl⟩
  obtain ⟨tB, hB⟩ : ∃ tB, tB = t.drop k := ⟨_, rfl⟩
  rw [← hA] at HR1 HTK
  rw [← hB] at HR2 HR3
  rw [← hA, ← hB] at HDL HCT2
  clear hc I1 h hx htl hlev hcl h8 he R1 R2 R3 hct hct2 hcl1 hcl2 hbl1 hbl2 htk hdl hA hB
  go_enter Try.func53, Try.ntmps53
  go_wp2_with (go_at_call 86; refine hend.mono ?_; rintro e wq ⟨rfl, nd, rfl⟩)
  go_loopw [7, 8] (fun o i wr => ∃ (q : Nat) (z : List Int), n + q ≤ k ∧ i = .int .i64 (n + q : Nat) ∧ Hid (z = ((t.drop n).take q).map (· - x)) ∧ Hid (z.length = q) ∧ (∃ oa cap, o = .slice oa z.length cap) ∧ Hid (Own (RS RI) w.heap.size wr.heap.size wr [o] z) ∧ Below w.heap.size w wr) (fun _ i _ => k - (intOf i).toNat)
  case atStart => exact ⟨0, [], by omega, rfl, Lib.hid rfl, Lib.hid rfl, ⟨_, _, rfl⟩, Lib.hid ((Own.empty (R := RI) (w := w.drewN _) 2 w.heap.size (Nat.le_refl _)).top _ (by simp)), ((Below.drewN _ _ _).alloc (Nat.le_refl _) _)⟩
  case round =>
    obtain ⟨q, z, hq, rfl, hz, hzl, ⟨o1, cap1, rfl⟩, hown, hbel⟩ := hrel
    have hsz1 := hbel.size
    obtain ⟨p, hp⟩ : ∃ p, p = n + q := ⟨_, rfl⟩
    rw [← hp]
    rw [← hp] at hq
    have HP := Lib.hid hp
    by_cases hlq : p < k
    · have hlq2 : p < t.length := by have := HTL.out; omega
      have g3 : wr.cell? ⟨b, off + p, none⟩ = some (.int .i64 t[p]) := (hbel.cell (p := ⟨b, off + p, none⟩) hb).trans (HC.out _ hlq2)
      have gn3 : wr.cell? ⟨b, off + n, none⟩ = some (.int .i64 x) := (hbel.cell (p := ⟨b, off + n, none⟩) hb).trans gn
      obtain ⟨y2, hy2⟩ : ∃ y2 : Int, y2 = t[p]'hlq2 := ⟨_, rfl⟩
      have hyb := HLB.out p hlq2
      have hnx : ((t.drop n).take (q + 1)).map (· - x) = z ++ [y2 - x] := by
        rw [hz.out, sub_take_succ _ _ _ (by rw [List.length_drop]; omega), List.getElem_drop, hy2]
        simp only [hp]
      rw [← hy2] at g3 hyb
      obtain ⟨yb1, yb2⟩ := hyb
      have hw1 : IntKind.i64.wrap (y2 - x) = y2 - x := IntWalk.i64_in _ (by omega)
      have HN2 := Lib.hid hnx
      have hzb : z.length ≤ 8 := by rw [hzl.out]; omega
      have iq0 : (0 : Int) ≤ (p : Int) := by omega
      have iq1 : (p : Int) < (tl : Int) := by omega
      clear hy2 hnx hp
      go_wp2_with fail
      go_region_law (refine step_snoc (w := wr) (R := RI) rfl _ _ 22 rfl 2 (.int .i64 0) 1 8 tI64 rfl (.slice o1 z.length cap1) z (y2 - x) [.int .i64 (y2 - x)] w.heap.size wr.heap.size wr.heap.size rfl hown.out (Own.int ⟨by omega, by omega⟩) (Nat.le_refl _) hsz1 2 rfl rfl (by omega) (by omega) ⟨rfl, rfl, rfl, rfl⟩ ?_; intro oa1 cap1' w1 hown1 c1a c1b hbel1)
      all_goals
        have hb3 := hbel.trans hbel1
        obtain ⟨z', hz'⟩ : ∃ z', z' = z ++ [y2 - x] := ⟨_, rfl⟩
        have HZ : Hid (z' = ((t.drop n).take (q + 1)).map (· - x)) := Lib.hid (by rw [hz', HN2.out])
        have e1 : z.length + 1 = z'.length := by rw [hz']; simp
        have HZL : Hid (z'.length = q + 1) := Lib.hid (by rw [← e1, hzl.out])
        rw [← hz', e1] at hown1
        have HO1 : Hid (Own (RS RI) w.heap.size w1.heap.size w1 [.slice oa1 z'.length cap1'] z') := hown1
        rw [e1]
        clear hown1 hbel1 hown e1 hz'
        go_wp2_with fail
        go_roundw
        case rel => exact ⟨q + 1, z', by have := HP.out; omega, by rw [HP.out]; go_num, HZ, HZL, ⟨_, _, rfl⟩, HO1, hb3⟩
        case measure => simp [intOf]; omega
    · have hfin : Hid (z = cutB t n) := Lib.hid (by
        rw [hz.out]
        unfold cutB
        rw [← HE.out, List.drop_take, getD_get hn, ← HX.out]
        rw [show k - n = q by omega])
      clear hp
      by_cases hck : c1 = k
      case' pos => have hrc := HR3.out hck; obtain rfl : tl = k := (by omega); have hck' := eq_true hck; clear hck
      case' neg => have hrc := HR2.out
      all_goals
        have HRC := Lib.hid hrc
        go_wp2_with fail
        go_region_law (first
          | (refine step_call rfl 87 _ _ rfl EGO.out #[.slice (some ⟨b, off, none⟩) n c1] (by simp [Act.eval, Act.put]) ?_; refine Calls.mono (c_spec_l01Own _ _ _ ((HR1.out.below hbel (Nat.le_refl _)).of_heap (by rfl)) (by rw [HTK.out]; omega)) ?_; rintro e w2 ⟨u, rfl, o2, b2⟩; have bA : Below wr.heap.size wr w2 := Below.of_heap_eq b2 rfl rfl rfl rfl; refine ⟨_, rfl, ?_⟩)
          | (refine step_extI (w := w2) rfl _ _ 22 rfl 2 tI64 u tA wr.heap.size w2.heap.size rfl o2 _ tB rfl ((HRC.out.below (hbel.trans (bA.mono hsz1)) (Nat.le_refl _)).of_heap (by rfl)) (Nat.le_refl _) bA.size HDL.out ct HCT2.out ?_; intro oa3 cap3 w3 o3 q1 q2 bB0)
          | (refine step_call rfl 54 _ _ rfl EGN.out #[.slice oa3 ct.length cap3] (by simp [Act.eval]) ?_; refine Calls.mono (HCA.out _ _ (o3.rd.of_heap (by rfl))) ?_; rintro e w4 ⟨u4, rfl, o4, b4⟩; have bC : Below w3.heap.size w3 w4 := Below.of_heap_eq b4 rfl rfl rfl rfl; refine ⟨_, rfl, ?_⟩)
          | (refine step_call rfl 54 _ _ rfl EGN.out #[.slice o1 z.length cap1] (by simp [Act.eval]) ?_; refine Calls.mono (HCB.out _ _ (hfin.out ▸ ((((hown.out.below bA (Nat.le_refl _)).below bB0 (Nat.le_refl _)).below bC (Nat.le_trans bA.size bB0.size)).rd.of_heap (by rfl)))) ?_; rintro e w5 ⟨u5, rfl, o5, b5⟩; have bD : Below w4.heap.size w4 w5 := Below.of_heap_eq b5 rfl rfl rfl rfl; refine ⟨_, rfl, ?_⟩))
        all_goals
          go_wp2_with fail
          go_ret2
          have s2 := bA.size
          have s3 := bB0.size
          have s4 := bC.size
          have s5 := bD.size
          exact ⟨_, _, w4.heap.size, rfl, ⟨by omega, s5⟩, by rw [← HCT.out]; exact (o4.below bD (Nat.le_refl _)).mono (by show w.heap.size ≤ w3.heap.size; omega) (Nat.le_refl _), o5, hbel.trans (((bA.trans bB0).trans (bC.mono (by omega)) |>.trans (bD.mono (by omega))).mono hsz1)⟩
end Go.Proofs.Ytmeijcgclllldaa
