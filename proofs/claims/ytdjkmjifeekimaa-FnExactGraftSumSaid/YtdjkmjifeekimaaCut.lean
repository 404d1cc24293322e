/- Cuts above a node: both programs. -/
import Derived.Test.YtdjkmjifeekimaaCat
import Derived.Test.YtdjkmjifeekimaaCutPure
import Derived.Test.YtdjkmjifeekimaaForestOf
set_option linter.unusedSimpArgs false
set_option linter.unusedVariables false
namespace Go.Proofs.Ytdjkmjifeekimaa
open Go.RowKit

/-- Two lists of the call's own, the second above the first. -/
def RetOO {α β : Type} (R : Rep α) (S : Rep β) (w : World) (x : α) (y : β) : Ending → World → Prop :=
  fun e w' => ∃ u1 u2 m, e = .returned (.tuple #[u1, u2]) ∧ (w.heap.size ≤ m ∧ m ≤ w'.heap.size) ∧ Own R w.heap.size m w' [u1] x ∧ Own S m w'.heap.size w' [u2] y ∧ Below w.heap.size w w'

/-- .. and a code. -/
def RetOOC {α β : Type} (R : Rep α) (S : Rep β) (w : World) (x : α) (y : β) (code : Int) : Ending → World → Prop :=
  fun e w' => ∃ u1 u2 m, e = .returned (.tuple #[u1, u2, .int .i64 code]) ∧ (w.heap.size ≤ m ∧ m ≤ w'.heap.size) ∧ Own R w.heap.size m w' [u1] x ∧ Own S m w'.heap.size w' [u2] y ∧ Below w.heap.size w w'

theorem getD_get {t : List Int} {i : Nat} (h : i < t.length) : t.getD i 0 = t[i] := by simp [h]

theorem Below.of_alloc_heap {w W w2 : World} {o : Obj} (b : Below W.heap.size W w2) (e : W.heap = (w.alloc o).heap) (e1 : W.os = w.os) (e2 : W.tape = w.tape) (e3 : W.output = w.output) : Below w.heap.size w w2 :=
  ⟨b.os.trans e1, b.tape.trans e2, b.output.trans e3, by have := b.size; rw [e] at this; simp at this; omega,
    fun k hk => (b.block k (by rw [e]; simp; omega)).trans (by rw [e]; exact Below.heap_alloc w o k hk)⟩

theorem Below.of_heap_eq {w W w2 : World} (b : Below W.heap.size W w2) (e : W.heap = w.heap) (e1 : W.os = w.os) (e2 : W.tape = w.tape) (e3 : W.output = w.output) : Below w.heap.size w w2 := by
  rw [e] at b
  exact ⟨b.os.trans e1, b.tape.trans e2, b.output.trans e3, by have := b.size; rw [e] at this; exact this, fun k hk => (b.block k hk).trans (by rw [e])⟩

/-- A literal of two lists. -/
theorem Rd.two {α : Type} {R : Rep α} {w W : World} {u1 u2 : Value} {x y : List α} {E : TypeId} (h1 : Rd (RS R) w [u1] x) (h2 : Rd (RS R) w [u2] y) (e : W.heap = (w.alloc (.cells #[u1, u2] E)).heap) :
    Rd (RS (RS R)) W [.slice (some ⟨w.heap.size, 0, none⟩) 2 2] [x, y] := by
  refine Rd.of_heap (w := w.alloc (.cells #[u1, u2] E)) ?_ e
  have hb : Below w.heap.size w (w.alloc (.cells #[u1, u2] E)) := (Below.refl _ _).alloc (Nat.le_refl _) _
  refine ⟨some ⟨w.heap.size, 0, none⟩, 2, [u1, u2], rfl, Nat.le_refl _, by decide, by simp, ⟨[u1], [u2], rfl, h1.below hb (Nat.le_refl _), ⟨[u2], [], rfl, h2.below hb (Nat.le_refl _), rfl⟩⟩, .inr ⟨w.heap.size, 0, rfl, by simp, fun j u hj => ?_⟩⟩
  rw [Nat.zero_add, World.cell?_alloc_at _ _ _ _ rfl]
  simpa using hj

theorem Rd.none' {w : World} {oa : Option Addr} {c : Nat} (hc : c ≤ maxLen) (hn : oa = none → c = 0) : Rd (RS RI) w [.slice oa 0 c] [] :=
  ⟨oa, c, [], rfl, Nat.zero_le _, hc, hn, rfl, .inl rfl⟩

set_option maxRecDepth 100000 in
set_option maxHeartbeats 1000000 in
theorem c_spec_l04End (v : Value) (t : List Int) (n : Nat) (w : World) (h : Rd (RS RI) w [v] t) (hn : n < t.length) (hsz : t.length ≤ 1000000) :
    Calls Try.prog 97 #[v, .int .i64 n] w (RetQ w (.int .i64 (endOf t n : Nat))) := by
  obtain ⟨oa, c1, I1⟩ := h.ints
  obtain rfl := I1.val
  have m1 := I1.le; have m2 := I1.capLe
  unfold maxLen at m2
  obtain ⟨b, off, rfl, hb, hc⟩ := I1.get hn
  have gn := hc n hn
  have HC := Lib.hid hc
  have HN := Lib.hid hn
  have hw0 : IntKind.i64.wrap ((n : Int) + 1) = (n : Int) + 1 := IntWalk.i64_in _ (by omega)
  obtain ⟨x, hx⟩ : ∃ x : Int, x = t[n]'hn := ⟨_, rfl⟩
  rw [← hx] at gn
  have HX := Lib.hid hx
  have in0 : (0 : Int) ≤ (n : Int) := by omega
  have in1 : (n : Int) < (t.length : Int) := by omega
  obtain ⟨tl, htl⟩ : ∃ tl, tl = t.length := ⟨_, rfl⟩
  rw [← htl] at in1 m1 hsz
  rw [← htl]
  have HTL := Lib.hid htl
  clear hc I1 h hx htl
  go_enter Try.func97, Try.ntmps97
  go_wp2_with fail
  go_loopw [5] (fun i wr => ∃ k : Nat, n + 1 ≤ k ∧ k ≤ tl ∧ i = .int .i64 k ∧ Hid (∀ j, n < j → j < k → t.getD n 0 < t.getD j 0) ∧ ∃ nd, wr = w.drewN nd) (fun i _ => tl - (intOf i).toNat)
  case atStart => exact ⟨n + 1, Nat.le_refl _, by have := HTL.out; have := HN.out; omega, by go_num, Lib.hid (fun j h1 h2 => by omega), 0, rfl⟩
  case round =>
    obtain ⟨k, hnk, hk, rfl, hall, nd, rfl⟩ := hrel
    by_cases hlt : k < tl
    · have hlt2 : k < t.length := by rw [← HTL.out]; exact hlt
      have gk := HC.out k hlt2
      obtain ⟨y, hy⟩ : ∃ y, y = t[k] := ⟨_, rfl⟩
      rw [← hy] at gk
      have ik0 : (0 : Int) ≤ (k : Int) := by omega
      have ik1 : (k : Int) < (tl : Int) := by omega
      have ik2 : decide ((k : Int) < (tl : Int)) = true := decide_eq_true ik1
      by_cases hgt : x < y
      · have hd : decide (x < y) = true := decide_eq_true hgt
        have HALL : Hid (∀ j, n < j → j < k + 1 → t.getD n 0 < t.getD j 0) := Lib.hid (by
          intro j h1 h2
          by_cases hj : j = k
          · subst hj; rw [getD_get HN.out, getD_get hlt2, ← hy, ← HX.out]; exact hgt
          · exact hall.out j h1 (by omega))
        clear hgt hy
        go_wp2_with fail
        go_quiet (fail)
        go_wp2_with fail
        go_roundw
        case rel => exact ⟨k + 1, by omega, by omega, by go_num, HALL, (by first | exact drewN1 _ _ | exact drewN2 _ _ _ | exact drewN3 _ _ _ _)⟩
        case measure => simp [intOf]; omega
      · have hd : decide (x < y) = false := decide_eq_false hgt
        have HE := Lib.hid (endOf_eq (t := t) hnk (by omega) hall.out (.inr (by rw [getD_get HN.out, getD_get hlt2, ← hy, ← HX.out]; exact hgt)))
        clear hgt hy
        go_wp2_with fail
        go_quiet (fail)
        go_wp2_with fail
        go_ret
        exact ⟨by rw [HE.out]; rfl, by first | exact drewN1 _ _ | exact drewN2 _ _ _ | exact drewN3 _ _ _ _⟩
    · obtain rfl : k = tl := by omega
      have HE := Lib.hid (endOf_eq (t := t) hnk (by rw [← HTL.out]; omega) hall.out (.inl HTL.out))
      have ij3 : decide ((k : Int) < (k : Int)) = false := by simp
      go_wp2_with fail
      go_quiet (fail)
      go_wp2_with fail
      go_ret
      exact ⟨by rw [HE.out]; rfl, by first | exact drewN1 _ _ | exact drewN2 _ _ _ | exact drewN3 _ _ _ _⟩

theorem endOf_le {t : List Int} {n : Nat} (hn : n < t.length) : n + 1 ≤ endOf t n ∧ endOf t n ≤ t.length := by
  unfold endOf
  have := (List.takeWhile_sublist (fun l => decide (t.getD n 0 < l)) (l := t.drop (n + 1))).length_le
  rw [List.length_drop] at this
  omega

theorem sub_take_succ (xs : List Int) (x : Int) (k : Nat) (h : k < xs.length) : (xs.take (k + 1)).map (· - x) = (xs.take k).map (· - x) ++ [xs[k] - x] := by
  rw [List.take_succ_eq_append_getElem h, List.map_append]; rfl


end Go.Proofs.Ytdjkmjifeekimaa
