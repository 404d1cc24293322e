/- The tree that is seen from a node: the program's walk. -/
import Derived.Test.YtdjkmjifeekimaaNear
set_option linter.unusedSimpArgs false
set_option linter.unusedVariables false
namespace Go.Proofs.Ytdjkmjifeekimaa
open Go.RowKit

theorem sumLen_sublist {l m : List (List Int)} (h : l.Sublist m) : sumLen l ≤ sumLen m := by
  induction h with
  | slnil => exact Nat.le_refl _
  | cons a _ ih => simp only [sumLen, List.map_cons, List.sum_cons] at *; omega
  | cons_cons a _ ih => simp only [sumLen, List.map_cons, List.sum_cons] at *; omega

theorem len_le_sumLen : ∀ bs : List (List Int), (∀ b ∈ bs, LevP b) → bs.length ≤ sumLen bs := by
  intro bs
  induction bs with
  | nil => intro _; simp [sumLen]
  | cons b bs ih =>
    intro hb
    have := ih (fun c hc => hb c (by simp [hc]))
    have := (hb b (by simp)).pos
    simp only [sumLen, List.map_cons, List.sum_cons, List.length_cons] at *
    omega

/-- The branches that are seen from a node by a part of its neighbours. -/
def seen (f : Nat) (near : List (List Int)) (root from' : Int) (xs : List Int) : List (List Int) := (xs.filter fun x => decide (x ≠ from')).map fun x => treeF f near x root

theorem seen_lev (f : Nat) (near : List (List Int)) (root from' : Int) (xs : List Int) : ∀ b ∈ seen f near root from' xs, LevP b := by
  intro b hb
  obtain ⟨x, _, rfl⟩ := List.mem_map.1 hb
  exact (treeF_both f near x root).1

theorem seen_take (f : Nat) (near : List (List Int)) (root from' : Int) (xs : List Int) (k : Nat) : (seen f near root from' (xs.take k)).Sublist (seen f near root from' xs) :=
  (((List.take_sublist k xs).filter _).map _)

theorem seen_succ (f : Nat) (near : List (List Int)) (root from' : Int) (xs : List Int) (k : Nat) (h : k < xs.length) :
    seen f near root from' (xs.take (k + 1)) = seen f near root from' (xs.take k) ++ (if xs[k] = from' then [] else [treeF f near xs[k] root]) := by
  unfold seen
  rw [List.take_succ_eq_append_getElem h, List.filter_append, List.map_append]
  congr 1
  by_cases e : xs[k] = from'
  · simp [e]
  · simp [e]

theorem treeF_succ (f : Nat) (near : List (List Int)) (root from' : Int) : treeF (f + 1) near root from' = canon (rootOn (seen f near root from' (near.getD root.toNat []))) := rfl

theorem treeSm_succ (f : Nat) (near : List (List Int)) (root from' : Int) : treeSm (f + 1) near root from' = sumLen (seen f near root from' (near.getD root.toNat [])) + 1 := by
  rw [← (treeF_both (f + 1) near root from').2, treeF_succ, canon_len (rootOn_lev (seen_lev _ _ _ _ _)), rootOn_len]

theorem treeSm_sub {f : Nat} {near : List (List Int)} {root from' : Int} {x : Int} (hx : x ∈ near.getD root.toNat []) (hne : x ≠ from') : treeSm f near x root + 1 ≤ treeSm (f + 1) near root from' := by
  rw [treeSm_succ, ← (treeF_both f near x root).2]
  have : treeF f near x root ∈ seen f near root from' (near.getD root.toNat []) := List.mem_map.2 ⟨x, List.mem_filter.2 ⟨hx, by simp [hne]⟩, rfl⟩
  have := sumLen_mem this
  omega

set_option maxRecDepth 100000 in
set_option maxHeartbeats 2000000 in
theorem c_impl_treeFrom : ∀ (f : Nat) (v : Value) (near : List (List Int)) (root from' : Int) (w : World), Rd (RS (RS RI)) w [v] near → treeOk f near root from' = true → treeSm f near root from' ≤ 13 →
    Calls Try.prog 78 #[v, .int .i64 root, .int .i64 from'] w (RetO (RS RI) w (treeF f near root from')) := by
  intro f
  induction f with
  | zero => intro v near root from' w _ h; cases h
  | succ f ih =>
  intro v near root from' w h hok hsm
  simp only [treeOk, Bool.and_eq_true, decide_eq_true_eq] at hok
  obtain ⟨hr0, hr1, hall⟩ := hok
  obtain ⟨r, rfl⟩ : ∃ r : Nat, root = r := ⟨root.toNat, by omega⟩
  have hrl : r < near.length := by omega
  have hnr : near.getD (r : Int).toNat [] = near[r] := by rw [Int.toNat_natCast]; simp [hrl]
  have hsub := fun x (hx : x ∈ near[r]) (hne : x ≠ from') => treeSm_sub (f := f) (near := near) (root := (r : Int)) (from' := from') (x := x) (by rw [hnr]; exact hx) hne
  rw [treeF_succ]
  rw [treeSm_succ] at hsm
  rw [hnr] at hsm hall
  rw [hnr]
  have hrdn := h
  obtain ⟨oa, cap, L⟩ := h.lists
  obtain rfl := L.val
  have m1 := L.le; have m2 := L.capLe
  obtain ⟨b, off, rfl, hb, hc⟩ := L.get hrl
  obtain ⟨oi, ci, g1, hrd, q1, q2⟩ := hc r hrl
  obtain ⟨xs, hxs⟩ : ∃ xs, xs = near[r] := ⟨_, rfl⟩
  rw [← hxs] at g1 hrd q1 hsm hall hsub
  rw [← hxs]
  obtain ⟨oa2, c2, I⟩ := hrd.ints
  have hval := I.val
  simp only [Value.slice.injEq, true_and] at hval
  obtain ⟨rfl, rfl⟩ := hval
  have HI := Lib.hid I
  have HSM := Lib.hid hsm
  have HIH : Hid (∀ x ∈ xs, x ≠ from' → ∀ W, Below w.heap.size w W → Calls Try.prog 78 #[.slice (some ⟨b, off, none⟩) near.length cap, .int .i64 x, .int .i64 (r : Int)] W (RetO (RS RI) W (treeF f near x r))) := Lib.hid (by
    intro x hx hne W hbW
    refine ih _ near x r W (hrdn.below hbW (Nat.le_refl _)) ?_ (by have := hsub x hx hne; rw [treeSm_succ, hnr, ← hxs] at this; omega)
    have := List.all_eq_true.1 hall x hx
    simp only [Bool.or_eq_true, decide_eq_true_eq] at this
    exact this.resolve_left hne)
  have i1 : (0 : Int) ≤ (r : Int) := by omega
  have i2 : (r : Int) < (near.length : Int) := by omega
  obtain ⟨nl, hnl⟩ : ∃ nl, nl = near.length := ⟨_, rfl⟩
  rw [← hnl] at m1 HIH i2
  rw [← hnl]
  have hrnl : r < nl := by omega
  clear L hc hrd hxs I hsm hall hsub ih hrdn hnr hr0 hr1 hnl hrl
  go_enter Try.func78, Try.ntmps78
  go_wp2_with fail
  go_loopw [7, 16] (fun o i wr => ∃ (k : Nat) (z : List (List Int)), k ≤ xs.length ∧ i = .int .i64 k ∧ Hid (z = seen f near r from' (xs.take k)) ∧ Hid (z.length ≤ 12) ∧ (∃ oa cap, o = .slice oa z.length cap) ∧ Hid (Own (RS (RS RI)) w.heap.size wr.heap.size wr [o] z) ∧ Below w.heap.size w wr) (fun _ i _ => xs.length - (intOf i).toNat)
  case atStart => exact ⟨0, [], Nat.zero_le _, rfl, Lib.hid rfl, Lib.hid (by simp), ⟨_, _, rfl⟩, Lib.hid ((Own.empty (R := RS RI) (w := w) 28 w.heap.size (Nat.le_refl _)).top _ (by simp)), (Below.refl _ _).alloc (Nat.le_refl _) _⟩
  case round =>
    obtain ⟨k, z, hk, rfl, hz, hzl, ⟨o1, cap1, rfl⟩, hown, hbel⟩ := hrel
    have hsz1 := hbel.size
    by_cases hlt : k < xs.length
    · obtain ⟨b2, off2, rfl, hb2, hc2⟩ := HI.out.get hlt
      have g2 : wr.cell? ⟨b2, off2 + k, none⟩ = some (.int .i64 xs[k]) := (hbel.cell (p := ⟨b2, off2 + k, none⟩) hb2).trans (hc2 k hlt)
      have hbx := HI.out.b hlt
      unfold In64 at hbx
      have hsc := seen_succ f near r from' xs k hlt
      rw [← hz.out] at hsc
      have hzl2 : (seen f near r from' (xs.take (k + 1))).length ≤ 12 := by
        have h1 := len_le_sumLen _ (seen_lev f near r from' (xs.take (k + 1)))
        have h2 := sumLen_sublist (seen_take f near r from' xs (k + 1))
        have := HSM.out
        omega
      have hih := HIH.out xs[k] (List.getElem_mem hlt)
      obtain ⟨x, hx⟩ : ∃ x : Int, x = xs[k]'hlt := ⟨_, rfl⟩
      rw [← hx] at g2 hsc hih hbx
      obtain ⟨x1, x2⟩ := hbx
      clear hc2 hx
      by_cases hne : x = from'
      · have hnb : (x != from') = false := by simp [hne]
        have HZ : Hid (z = seen f near r from' (xs.take (k + 1))) := Lib.hid (by rw [hsc, if_pos hne, List.append_nil])
        clear hsc hih hzl2 hne
        go_wp2_with fail
        go_roundw
        case rel => exact ⟨k + 1, z, by omega, by go_num, HZ, hzl, ⟨_, _, rfl⟩, hown, hbel⟩
        case measure => simp [intOf] <;> omega
      · have hnb : (x != from') = true := by simp [hne]
        have hcl := hih hne wr hbel
        rw [if_neg hne] at hsc
        obtain ⟨y, hy⟩ : ∃ y, y = treeF f near x r := ⟨_, rfl⟩
        rw [← hy] at hsc hcl
        have HN := Lib.hid hsc
        have HZL2 := Lib.hid hzl2
        have hzb : z.length ≤ 12 := hzl.out
        clear hsc hih hzl2 hne hy
        go_wp2_with fail
        refine hcl.mono ?_
        rintro e w2 ⟨u, rfl, o2, b2'⟩
        obtain ⟨ou, cu, rfl, lu1, lu2⟩ := o2.val
        go_wp2_with (at_builtin; refine StopAt (o := ⟨some 29, _, _, _, _, _⟩) ?_)
        refine Stop.go ?_
        have hb2'' := b2'.size
        refine wpList_snoc (w := w2) (R := RS RI) rfl _ _ 22 rfl 28 (.slice none 0 0) 1 24 tI64S rfl (.slice o1 z.length cap1) z y [.slice ou y.length cu] w.heap.size wr.heap.size w2.heap.size rfl (hown.out.below b2' (Nat.le_refl _)) o2 hb2'' hsz1 28 rfl rfl (by omega) (by omega) ?_
        intro oa1 cap1' w1 hown1 c1a c1b hbel1
        have hb3 := (hbel.trans (b2'.mono hsz1)).trans hbel1
        obtain ⟨z', hz'⟩ : ∃ z', z' = z ++ [y] := ⟨_, rfl⟩
        have HZ : Hid (z' = seen f near r from' (xs.take (k + 1))) := Lib.hid (by rw [hz', HN.out])
        have e1 : z.length + 1 = z'.length := by rw [hz']; simp
        have HZL : Hid (z'.length ≤ 12) := Lib.hid (by rw [HZ.out]; exact HZL2.out)
        rw [← hz', e1] at hown1
        have HO : Hid (Own (RS (RS RI)) w.heap.size w1.heap.size w1 [.slice oa1 z'.length cap1'] z') := hown1
        rw [e1]
        clear hown1 hbel1 hown e1 hz' o2 hcl
        go_wp2_with fail
        go_roundw
        case rel => exact ⟨k + 1, z', by omega, by go_num, HZ, HZL, ⟨_, _, rfl⟩, HO, hb3⟩
        case measure => simp [intOf] <;> omega
    · have hfin : Hid (z = seen f near r from' xs) := Lib.hid (by rw [hz.out, List.take_of_length_le (by omega)])
      have hlv : ∀ b ∈ z, LevP b := by rw [hfin.out]; exact seen_lev _ _ _ _ _
      have hsl : sumLen z + 1 ≤ 13 := by rw [hfin.out]; exact HSM.out
      have hro := c_impl_rootOn _ z wr hown.out.rd (Small.of_lev hlv (by omega)) (by omega)
      have HCN : Hid (∀ W v, Rd (RS RI) W [v] (rootOn z) → Calls Try.prog 52 #[v] W (RetO (RS RI) W (canon (rootOn z)))) := Lib.hid (fun W v r => c_impl_canonical 13 v _ W r (rootOn_lev hlv) (by rw [rootOn_len]; omega) (by rw [rootOn_len]; omega))
      clear hlv hsl
      go_wp2_with fail
      refine hro.mono ?_
      rintro e w2 ⟨u, rfl, o2, b2'⟩
      go_wp2_with fail
      refine (HCN.out _ _ o2.rd).mono ?_
      rintro e w3 ⟨u3, rfl, o3, b3⟩
      go_wp2_with fail
      go_ret
      have s2 := b2'.size
      exact ⟨_, rfl, by rw [← hfin.out]; exact o3.mono (by omega) (Nat.le_refl _), hbel.trans ((b2'.trans (b3.mono s2)).mono hsz1)⟩
end Go.Proofs.Ytdjkmjifeekimaa
