/- slices.SortFunc and slices.SortStableFunc at lists of lists of numbers, few elements: insertion sort alone is reached. -/
import Derived.Test.YtacbkjmkjpjhoaaGreatSwap
import Derived.Test.YtacbkjmkjpjhoaaGreatCmp
import Derived.Shelf.RegionOpenPlain
import Derived.Deep.LoopGhost
set_option linter.unusedSimpArgs false
set_option linter.unusedVariables false
namespace Go.Proofs.YtacbkjmkjpjhoaaGreat
open Go.RowKit

/-- What is asked of a comparison that is handed to a sort. -/
def CmpAsk (P : Program) (g : Nat) (c : List Int → List Int → Int) (ok : List Int → Prop) : Prop :=
  ∀ (w : World) (h1 h2 : Value) (x y : List Int), Rd (RS RI) w [h1] x → Rd (RS RI) w [h2] y → ok x → ok y → Calls P g #[h1, h2] w (RetS w (.int .i64 (c x y)))

theorem CmpAsk.q {P : Program} {g : Nat} {c : List Int → List Int → Int} {ok : List Int → Prop} (h : CmpAsk P g c ok) {w : World} {h1 h2 : Value} {x y : List Int} (r1 : Rd (RS RI) w [h1] x) (r2 : Rd (RS RI) w [h2] y) (o1 : ok x) (o2 : ok y) (n : Nat) :
    Calls P g #[h1, h2] (w.drewN n) fun e w'' => e = .returned (.int .i64 (c x y)) ∧ ∃ m, w'' = w.drewN m :=
  Calls.qS (h (w.drewN n) h1 h2 x y (r1.of_heap rfl) (r2.of_heap rfl) o1 o2)

set_option maxHeartbeats 16000000 in
set_option maxRecDepth 1000000 in
theorem c_insertionSort (g : Nat) (c : List Int → List Int → Int) (hc : Cmp c) (ok : List Int → Prop) (eg : ∀ args w, (callFunc g args).run Tryz.prog w = .ok (.enter g args) w) (hcmp : CmpAsk Tryz.prog g c ok)
    (a b : Nat) (v : Value) (xs : List (List Int)) (lo hi : Nat) (w : World) (ho : Own (RS (RS RI)) lo hi w [v] xs) (hok : ∀ x ∈ xs, ok x) (hab : a ≤ b) (hb : b ≤ xs.length) (hsz : xs.length ≤ 1000000000) :
    Calls Tryz.prog 196 #[v, .int .i64 a, .int .i64 b, .func (.func g) #[] #[]] w fun e w' => e = .returned (.tuple #[]) ∧ ∃ ys, PermIn a b xs ys ∧ SegOk c a b ys ∧ Own (RS (RS RI)) lo hi w' [v] ys ∧ Chg lo hi w w' := by
  obtain ⟨oa, cap, rfl, hv1, hv2⟩ := ho.val
  have mixed : Tryz.prog.follows Departure.mixedOrders = true := by kernel_rfl
  have HC := Lib.hid hc
  have HQ := Lib.hid hcmp
  have HK := Lib.hid hok
  have S0 : Hid (Own (RS (RS RI)) lo hi w [.slice oa xs.length cap] xs) := ho
  clear hc hcmp hok ho
  go_enter Tryz.func196, Tryz.ntmps196
  go_wp2_with fail
  go_loopg [8] (b - a) (fun g1 vi wr => ∃ (i : Nat) (ys : List (List Int)), vi = .int .i64 i ∧ a < i ∧ i ≤ b + 1 ∧ b + 1 - i ≤ g1 + 1 ∧ Hid (PermIn a b xs ys ∧ SegOk c a i ys ∧ Own (RS (RS RI)) lo hi wr [.slice oa xs.length cap] ys ∧ Chg lo hi w wr))
  case atStart => exact ⟨a + 1, xs, by go_num, by omega, by omega, by omega, Lib.hid ⟨PermIn.refl _ _ _, fun p q _ _ h1 h2 h3 => by omega, S0.out, Chg.refl _ _ _⟩⟩
  case round =>
    clear S0
    obtain ⟨i, ys, rfl, hai, hib, hg1, HO⟩ := hrel
    by_cases hlt : i < b
    · have hltz : (i : Int) < (b : Int) := by omega
      have HO2 : Hid (PermIn a b xs ys ∧ SinkOk c a i i ys ∧ Own (RS (RS RI)) lo hi wr [.slice oa xs.length cap] ys ∧ Chg lo hi w wr) := Lib.hid ⟨HO.out.1, HO.out.2.1.sink, HO.out.2.2.1, HO.out.2.2.2⟩
      clear HO
      go_wp2_with fail
      go_loopg [9] i (fun g2 vj wr2 => ∃ (j : Nat) (zs : List (List Int)), vj = .int .i64 j ∧ a ≤ j ∧ j ≤ i ∧ j ≤ g2 ∧ Hid (PermIn a b xs zs ∧ SinkOk c a i j zs ∧ Own (RS (RS RI)) lo hi wr2 [.slice oa xs.length cap] zs ∧ Chg lo hi w wr2))
      case atStart => exact ⟨i, ys, rfl, by omega, Nat.le_refl _, Nat.le_refl _, HO2⟩
      case round =>
        clear HO2
        obtain ⟨j, zs, rfl, haj, hji, hg2, HJ⟩ := hrel
        have hzl : zs.length = xs.length := HJ.out.1.len
        have hjl : j < zs.length := by omega
        by_cases hja : a < j
        · have hjaz : (a : Int) < (j : Int) := by omega
          obtain ⟨jp, hjp⟩ : ∃ q, q + 1 = j := ⟨j - 1, by omega⟩
          subst hjp
          have hjad : decide ((jp : Int) + 1 > (a : Int)) = true := decide_eq_true (by omega)
          have hjaz' : (a : Int) < (jp : Int) + 1 := by omega
          obtain ⟨gb, cap', u1, u2, hv, _, _, hgb, k1, k2, f1, f2, r1, r2, k3, hsw, hch⟩ := HJ.out.2.2.1.swap (R := RS RI) rfl jp (jp + 1) (Nat.lt_succ_self _) hjl
          rw [hzl] at hv
          simp only [Value.slice.injEq, true_and] at hv
          obtain ⟨rfl, rfl⟩ := hv
          have hq := HQ.out.q r2 r1 (HK.out _ (HJ.out.1.perm.mem_iff.1 (List.getElem_mem _))) (HK.out _ (HJ.out.1.perm.mem_iff.1 (List.getElem_mem _)))
          have ea : ((jp : Int) + 1).toNat = jp + 1 := by omega
          have pa : (0 : Int) ≤ (jp : Int) + 1 := by omega
          have ba : (jp : Int) + 1 < (xs.length : Int) := by omega
          have ra : IntKind.i64.wrap ((jp : Int) + 1) = (jp : Int) + 1 := by rw [IntKind.wrap_i64]; omega
          have ec : ((jp : Int)).toNat = jp := by omega
          have pc : (0 : Int) ≤ (jp : Int) := by omega
          have bc : (jp : Int) < (xs.length : Int) := by omega
          have rc : IntKind.i64.wrap ((jp : Int)) = (jp : Int) := by rw [IntKind.wrap_i64]; omega
          obtain ⟨d, hd⟩ : ∃ d, d = c zs[jp + 1] zs[jp] := ⟨_, rfl⟩
          rw [← hd] at hq
          have S3 : Hid (Own (RS (RS RI)) lo hi (((wr.setCell ⟨gb, jp + 1, none⟩ u1).setCell ⟨gb, jp, none⟩ u2)) [.slice (some ⟨gb, 0, none⟩) xs.length cap] (swpL zs jp (jp + 1)) ∧ Chg lo hi wr ((wr.setCell ⟨gb, jp + 1, none⟩ u1).setCell ⟨gb, jp, none⟩ u2)) := Lib.hid ⟨hsw, hch⟩
          obtain ⟨o1, p1, rfl, _⟩ := r1.val
          obtain ⟨o2, p2, rfl, _⟩ := r2.val
          obtain ⟨l1, hl1⟩ : ∃ l, l = zs[jp].length := ⟨_, rfl⟩
          obtain ⟨l2, hl2⟩ : ∃ l, l = zs[jp + 1].length := ⟨_, rfl⟩
          rw [← hl1] at hq k1 k3 S3
          rw [← hl2] at hq k2 S3
          clear hsw hch r1 r2 hl1 hl2
          by_cases hlv : d < 0
          · have hdd : decide (d < 0) = true := decide_eq_true hlv
            have HD := Lib.hid hd
            clear hd
            go_wp2_with fail
            go_quiet ((go_at_fn g; exact hq _))
            clear hq
            have k1' : (wr.drewN nq).cell? ⟨gb, jp, none⟩ = some (.slice o1 l1 p1) := k1
            have k2' : (wr.drewN nq).cell? ⟨gb, jp + 1, none⟩ = some (.slice o2 l2 p2) := k2
            have k3' : ((wr.drewN nq).setCell ⟨gb, jp + 1, none⟩ (.slice o1 l1 p1)).cell? ⟨gb, jp, none⟩ = some (.slice o1 l1 p1) := k3
            have f1' : (wr.drewN nq).frozen? ⟨gb, jp, none⟩ = false := f1
            have f2' : (wr.drewN nq).frozen? ⟨gb, jp + 1, none⟩ = false := f2
            have S4 : Hid (Own (RS (RS RI)) lo hi ((((wr.drewN nq).setCell ⟨gb, jp + 1, none⟩ (.slice o1 l1 p1)).setCell ⟨gb, jp, none⟩ (.slice o2 l2 p2))) [.slice (some ⟨gb, 0, none⟩) xs.length cap] (swpL zs jp (jp + 1)) ∧ Chg lo hi w (((wr.drewN nq).setCell ⟨gb, jp + 1, none⟩ (.slice o1 l1 p1)).setCell ⟨gb, jp, none⟩ (.slice o2 l2 p2))) := Lib.hid ⟨S3.out.1.of_heap rfl, (HJ.out.2.2.2.trans S3.out.2).of_heap rfl rfl rfl rfl⟩
            clear k1 k2 k3 f1 f2 S3
            generalize wr.drewN nq = w2 at k1' k2' k3' f1' f2' S4 ⊢
            clear nq
            go_wp2_with fail
            go_big_region_o
            clear k1' k2' k3' f1' f2'
            go_wp2_with fail
            go_roundg jp
            case measure => omega
            case rel =>
              refine ⟨jp, swpL zs jp (jp + 1), by first | rfl | go_num | (congr 1; omega), by omega, by omega, Nat.le_refl _, Lib.hid ⟨HJ.out.1.trans (PermIn.swp zs jp (jp + 1) (Nat.lt_succ_self _) hjl (by omega) (by omega)), ?_, S4.out.1.of_heap rfl, S4.out.2.of_heap rfl rfl rfl rfl⟩⟩
              exact HJ.out.2.1.swap (by omega) hji hjl (by have := HD.out; simp only [Nat.add_sub_cancel]; omega)
          · have hdd : decide (d < 0) = false := decide_eq_false hlv
            have HD := Lib.hid hd
            clear hd
            go_wp2_with fail
            go_quiet ((go_at_fn g; exact hq _))
            go_wp2_with fail
            go_roundg (b - (i + 1))
            case measure => omega
            case rel =>
              refine ⟨i + 1, zs, by go_num, by omega, by omega, by omega, Lib.hid ⟨HJ.out.1, ?_, HJ.out.2.2.1.of_heap rfl, HJ.out.2.2.2.of_heap rfl rfl rfl rfl⟩⟩
              exact HJ.out.2.1.done HC.out hjl (.inr (by have := HD.out; simp only [Nat.add_sub_cancel]; omega)) hji
        · have hjaz : ¬ (a : Int) < (j : Int) := by omega
          have hjad : decide ((j : Int) > (a : Int)) = false := decide_eq_false (by omega)
          go_wp2_with fail
          go_quiet (fail)
          go_wp2_with fail
          go_roundg (b - (i + 1))
          case measure => omega
          case rel =>
            refine ⟨i + 1, zs, by go_num, by omega, by omega, by omega, Lib.hid ⟨HJ.out.1, ?_, HJ.out.2.2.1.of_heap rfl, HJ.out.2.2.2.of_heap rfl rfl rfl rfl⟩⟩
            exact HJ.out.2.1.done HC.out hjl (.inl (by omega)) hji
    · go_wp2_with fail
      go_end0
      refine ⟨rfl, ys, HO.out.1, fun p q hp hq h1 h2 h3 => HO.out.2.1 p q hp hq h1 h2 (by omega), HO.out.2.2.1, HO.out.2.2.2⟩
end Go.Proofs.YtacbkjmkjpjhoaaGreat
