/- l06Put, l06Add, l06Own: the walks on states of values. -/
import Derived.Test.YtacbkjmkjpjhoaaGreatForB
import Derived.Test.YtacbkjmkjpjhoaaGreatModW
import Derived.Test.YtacbkjmkjpjhoaaGreatOwn2
import Derived.Test.YtacbkjmkjpjhoaaGreatPartSz
import Derived.Test.YtacbkjmkjpjhoaaGreatElPL
import Derived.Test.YtacbkjmkjpjhoaaGreatDels
import Derived.Test.YtacbkjmkjpjhoaaGreatGs
set_option linter.unusedSimpArgs false
set_option linter.unusedVariables false
/- l06Put: the walk on states of values. -/
namespace Go.Proofs.YtacbkjmkjpjhoaaGreat
open Go.RowKit

/-- Results that are read alone. -/
theorem AFn.val1 {P : Program} {f : FuncId} {ds : List (List D)} {k : Nat} {xs : List (List D)} (h : AFn P f ds (· = [.own k xs false])) : AFn P f ds (· = [.val (.sl k xs)]) := by
  refine ⟨h.call, fun A w vs hA hr => (h.fn A w vs hA hr).mono ?_⟩
  rintro e w' ⟨v, rs, rfl, rfl, hb, us, G, X, rfl, hG1, hG2, v1, us1, G1, G2, Y1, Y2, rfl, rfl, rfl, ho, ⟨og, cap, F, dd, rfl, hrow, hk, rfl, rfl, hel⟩, rfl, rfl, rfl⟩
  refine ⟨_, _, rfl, rfl, hb, [_], [], [], rfl, List.nodup_nil, (fun b hb => nomatch hb), _, [], [], [], [], [], rfl, rfl, rfl, ho, ⟨?_, rfl, rfl⟩, rfl, rfl, rfl⟩
  have hel : rdR k (fun b => (A b ∨ w.heap.size ≤ b) ∧ b ∉ og.toList ++ []) w' dd xs := hel
  obtain ⟨oa, c, e, h1, h2, h3, h4⟩ := slv_len hrow
  refine rdV_sl.2 ⟨oa, c, dd, e, h1, h2, h3, hel.mono (fun b hb _ => ⟨hb.1, by simp⟩), ?_⟩
  cases og with
  | none =>
    left
    have := hrow.len0
    exact List.eq_nil_of_length_eq_zero (by rw [hrow.1, this, Nat.zero_mul])
  | some g =>
    refine .inr ⟨g, 0, h4, ⟨.inr (hG2 g (by simp)), by simp⟩, fun j u hj => ?_⟩
    rw [Nat.zero_add]
    exact hrow.cells j u hj

/-- nil is an empty row. -/
theorem AFn.nil1 {P : Program} {f : FuncId} {ds : List (List D)} {k : Nat} (hk : 0 < k) {Q : List Res → Prop} (h : AFn P f ([.sl k []] :: ds) Q) : AFn P f ([.raw (.slice none 0 0)] :: ds) Q := by
  refine ⟨h.call, fun A w vs hA hr => h.fn A w vs hA ?_⟩
  obtain ⟨v, us, e, h1, h2⟩ := hr
  have h1 : rdV A w v (.raw (.slice none 0 0)) := h1
  obtain ⟨rfl, _⟩ := rdV_raw.1 h1
  refine ⟨_, us, e, ?_, h2⟩
  exact rdV_sl.2 ⟨none, 0, [], rfl, Nat.le_refl _, by unfold maxLen; omega, fun _ => rfl, rdR.nil hk, .inl rfl⟩

/-- Small forests. -/
def SmF (f : List (List Int)) : Prop := f.length ≤ 19 ∧ sumLen f ≤ 100
instance (f : List (List Int)) : Decidable (SmF f) := inferInstanceAs (Decidable (_ ∧ _))
theorem SmF.b {f : List (List Int)} (h : SmF f) : ∀ b ∈ f, b.length ≤ 1000 := fun b hb => by have := sumLen_mem hb; have := h.2; omega

noncomputable def TPut : Tab Tryz.prog :=
  ((Tab.none.add 97 (tab2 codLL codLL fun f g => if SmF f ∧ SmF g then some [.val (.int (sgn (cmpF f g)))] else none) (tab2_ok fun f g rs h => by split at h; cases h; rename_i hs; exact a_l06Order f g (by have := hs.1.2; omega) (by have := hs.2.2; omega) (by have := hs.1.1; omega) (by have := hs.2.1; omega); cases h)).add
    72 (tab1 codLL fun f => if SmF f then some [.own 1 (f.map eL) false] else none) (tab1_ok fun f rs h => by split at h; cases h; rename_i hs; exact a_l01Own2 f (by have := hs.1; omega) hs.b; cases h)).add
    110 (tab2 codI codI fun a b => if -9223372036854775808 ≤ a + b ∧ a + b ≤ 9223372036854775807 then some [.val (.int (mP (a + b)))] else none) (tab2_ok fun a b rs h => by split at h; cases h; rename_i hs; exact a_l01Add a b hs; cases h)

theorem z10 : ((1 : Int) == 0) = false := rfl
theorem z00 : ((0 : Int) == 0) = true := rfl
theorem zm0 : ((-1 : Int) == 0) = false := rfl
theorem sgn_lt {n : Int} (h : n < 0) : sgn n = -1 := by unfold sgn; rw [if_pos h]
theorem sgn_eq {n : Int} (h : n = 0) : sgn n = 0 := by subst h; rfl
theorem sgn_gt {n : Int} (h : 0 < n) : sgn n = 1 := by unfold sgn; rw [if_neg (by omega), if_neg (by omega)]

/-- A state of the loop: the index, whether the part has been put in, and the parts so far. -/
structure PutI (e : Elt) (k : Int) (f : List (List Int)) (x : Nat × Bool × Elt) : Prop where
  le : x.1 ≤ e.length
  no : x.2.1 = false → x.2.2 = e.take x.1 ∧ ∀ q ∈ e.take x.1, 0 < cmpF f q.2
  yes : x.2.1 = true → x.2.2 ++ e.drop x.1 = putS cmpF e k f
  len : x.2.2.length ≤ x.1 + 1

theorem putS_at {e : Elt} {k : Int} {f : List (List Int)} (hk : k ≠ 0) {i : Nat} (h : i < e.length) (hlow : ∀ q ∈ e.take i, 0 < cmpF f q.2) : putS cmpF e k f = e.take i ++ putS cmpF (e[i] :: e.drop (i + 1)) k f := by
  have h1 := putS_skip hk (e.drop i) hlow
  rw [List.take_append_drop, List.drop_eq_getElem_cons h] at h1
  exact h1

set_option maxHeartbeats 8000000 in
theorem a_l06Put (e : Elt) (k : Int) (f : List (List Int)) (hl : e.length ≤ 1000000) (he : ∀ q ∈ e, (1 ≤ q.1 ∧ q.1 < 10007) ∧ SmF q.2) (hk : 0 ≤ k ∧ k < 10007) (hf : SmF f) : AFn Tryz.prog 59 [[.sl 2 (e.map ePt)], eI k, eLL f] (· = [.val (.sl 2 ((putS cmpF e k f).map ePt))]) := by
  by_cases hk0 : k = 0
  · subst hk0
    rw [putS_zero]
    refine AFn.of_runs (cfg_ok 68) Tryz.func59 rfl rfl rfl (by simp only [List.length_cons, List.length_nil]; decide) ?_
    have hres : Tryz.f59.results.toList = [.tmp 6] := rfl
    have hrts : Tryz.f59.resultTypes.toList = [24] := rfl
    simp only [argRegs, argAV1, eL, eI, eLL, eB, Nat.zero_add, Nat.reduceAdd]
    intro M
    refine RunK.of ?_
    repeat' (first | with_reducible (first | refine Q1 ?_ | refine Q2 ?_ | refine Q3 ?_ | refine Q4 ?_ | refine Q5 ?_ | refine Q6 ?_ | refine Q7 ?_ | refine Q8 ?_ | refine Q9 ?_ | refine Qa ?_ | refine Qb ?_ | refine Qc ?_ | refine Qd ?_ | refine Qe ?_ | refine Qf ?_) | ((with_reducible refine Qo ?_ ?_); focus rfl) | ((with_reducible first | refine QT 12 (l := ?_) ?_ ?_ | refine QF 12 (l := ?_) ?_ ?_); rotate_left 1; focus (simp only [Zu, Nat.reduceSub, Nat.reduceBEq]; with_reducible rfl)) | ((with_reducible first | refine QS (cfg_ok 68) Tab.none (s' := ?_) ?_ ?_ | refine QC (b := ?_) ?_ ?_); rotate_left 1; focus ((with_reducible refine QW ?_); simp only [Zg, Nat.reduceEqDiff, Nat.reduceLT, Nat.reduceLeDiff, reduceIte, if_true, if_false, reduceCtorEq, Nat.reduceAdd, Nat.reduceMul, Nat.reduceSub, Nat.reduceBEq, Nat.reduceBNe, Int.reduceLE, Int.reduceLT, Int.reduceNeg, Int.reduceAdd, Int.reduceSub, Int.reduceMul, Int.reduceToNat, Int.reduceEq, ite_true, ite_false]; with_reducible rfl)))
    (refine Ends.mk (by simp) (rs := ?_) (ks := ?_) hres hrts ?_ ?_ ?_; rotate_left 2; (focus (simp only [Ze, Zg, Nat.reduceEqDiff, Nat.reduceLT, Nat.reduceLeDiff, reduceIte, if_true, if_false, reduceCtorEq, Nat.reduceAdd, Nat.reduceMul, Nat.reduceSub, Nat.reduceBEq, Nat.reduceBNe, Int.reduceLE, Int.reduceLT, Int.reduceNeg, Int.reduceAdd, Int.reduceSub, Int.reduceMul, Int.reduceToNat, Int.reduceEq, ite_true, ite_false]; with_reducible rfl)); (focus simp); focus (first | with_reducible rfl | (simp only [Zv]; done)))
  refine AFn.val1 ?_
  have hkb : (k == 0) = false := beq_eq_false_iff_ne.2 hk0
  have hff := eq_true hf
  refine AFn.of_runs (cfg_ok 68) Tryz.func59 rfl rfl rfl (by simp only [List.length_cons, List.length_nil]; decide) ?_
  have hres : Tryz.f59.results.toList = [.tmp 6] := rfl
  have hrts : Tryz.f59.resultTypes.toList = [24] := rfl
  simp only [argRegs, argAV1, eL, eI, eLL, eB, Nat.zero_add, Nat.reduceAdd]
  intro M
  refine RunK.of ?_
  repeat' (first | with_reducible (first | refine Q1 ?_ | refine Q2 ?_ | refine Q3 ?_ | refine Q4 ?_ | refine Q5 ?_ | refine Q6 ?_ | refine Q7 ?_ | refine Q8 ?_ | refine Q9 ?_ | refine Qa ?_ | refine Qb ?_ | refine Qc ?_ | refine Qd ?_ | refine Qe ?_ | refine Qf ?_) | ((with_reducible refine Qo ?_ ?_); focus rfl) | ((with_reducible first | refine QT 12 (l := ?_) ?_ ?_ | refine QF 12 (l := ?_) ?_ ?_); rotate_left 1; focus (simp only [Zu, Nat.reduceSub, Nat.reduceBEq]; with_reducible rfl)) | ((with_reducible first | refine QS (cfg_ok 68) Tab.none (s' := ?_) ?_ ?_ | refine QC (b := ?_) ?_ ?_); rotate_left 1; focus ((with_reducible refine QW ?_); simp only [Zg, Nat.reduceEqDiff, Nat.reduceLT, Nat.reduceLeDiff, reduceIte, if_true, if_false, reduceCtorEq, Nat.reduceAdd, Nat.reduceMul, Nat.reduceSub, Nat.reduceBEq, Nat.reduceBNe, Int.reduceLE, Int.reduceLT, Int.reduceNeg, Int.reduceAdd, Int.reduceSub, Int.reduceMul, Int.reduceToNat, Int.reduceEq, ite_true, ite_false, hkb]; with_reducible rfl)))
  refine RunK.loop (β := Nat × Bool × Elt) (γ := Bool × Elt) (fun x => ⟨[(0, .c (.val (.sl 2 (e.map ePt)))), (1, .c (.val (.int k))), (2, .c (.val (.sl 1 (f.map eL)))), (7, .c (.own 7 x.2.2.length)), (8, .c (.val (.bool x.2.1))), (9, .c (.val (.int x.1)))], [(7, .row 2 (x.2.2.map ePt) false)]⟩) (PutI e k f) (fun x => e.length - x.1)
    (fun x => ⟨[(0, .c (.val (.sl 2 (e.map ePt)))), (1, .c (.val (.int k))), (2, .c (.val (.sl 1 (f.map eL)))), (7, .c (.own 7 x.2.length)), (8, .c (.val (.bool x.1)))], [(7, .row 2 (x.2.map ePt) false)]⟩) (fun x => PutI e k f (e.length, x)) (0, false, []) ⟨Nat.zero_le _, fun _ => ⟨rfl, by simp⟩, (fun h => nomatch h), Nat.zero_le _⟩ ?_ ?_ ?_
  · (repeat' (first | with_reducible refine Qn | ((with_reducible refine Qr ?_ ?_); focus (first | with_reducible rfl | (simp only [Zz, Nat.reduceBEq, List.map_nil, List.length_nil]; done) | rfl)) | ((with_reducible refine Qj (o' := ?_) ?_ ?_ ?_); rotate_left 1; focus rfl) | ((with_reducible refine Qw ?_ ?_); (focus (first | with_reducible rfl | (simp only [Zv, List.map_nil, List.length_nil]; done))); focus (first | exact id | exact (fun h => nomatch h) | exact (fun _ => rfl)))))
  · rintro ⟨i, d, o⟩ ⟨hi, hno, hyes, hlen⟩
    simp only at hi hno hyes hlen ⊢
    have hw := w64_succ (n := i) (by omega)
    have q1 := big_le (n := o.length + 1) (by omega)
    have q2 := big_mul (n := o.length + 1) (c := 32) (by omega) (by omega)
    have q3 := big_le (n := o.length + 1 + 1) (by omega)
    have q4 := big_mul (n := o.length + 1 + 1) (c := 32) (by omega) (by omega)
    by_cases h : i < e.length
    · have i1 : ((i : Int) < (e.length : Int)) = True := eq_true (by omega)
      have i2 : ((0 : Int) ≤ (i : Int)) = True := eq_true (by omega)
      obtain ⟨z, hz⟩ : ∃ z, z = e[i] := ⟨_, rfl⟩
      obtain ⟨⟨hz1, hz2⟩, hz3⟩ := he e[i] (List.getElem_mem _)
      have hg : (e.map ePt)[i]? = some [.int z.1, .sl 1 (z.2.map eL)] := by rw [map_get h, hz]; rfl
      have hdr : e.drop i = z :: e.drop (i + 1) := by rw [hz]; exact List.drop_eq_getElem_cons h
      have htk : e.take (i + 1) = e.take i ++ [z] := by rw [hz]; exact List.take_succ_eq_append_getElem h
      rw [← hz] at hz1 hz2 hz3
      have hzz := eq_true hz3
      have hz0 : (z.1 != 0) = true := bne_iff_ne.2 (by omega)
      cases d with
      | true =>
        repeat' (first | with_reducible (first | refine Q1 ?_ | refine Q2 ?_ | refine Q3 ?_ | refine Q4 ?_ | refine Q5 ?_ | refine Q6 ?_ | refine Q7 ?_ | refine Q8 ?_ | refine Q9 ?_ | refine Qa ?_ | refine Qb ?_ | refine Qc ?_ | refine Qd ?_ | refine Qe ?_ | refine Qf ?_) | ((with_reducible refine Qo ?_ ?_); focus rfl) | ((with_reducible first | refine QT 12 (l := ?_) ?_ ?_ | refine QF 12 (l := ?_) ?_ ?_); rotate_left 1; focus (simp only [Zu, Nat.reduceSub, Nat.reduceBEq]; with_reducible rfl)) | ((with_reducible first | refine QS (cfg_ok 68) TPut (s' := ?_) ?_ ?_ | refine QC (b := ?_) ?_ ?_); rotate_left 1; focus ((with_reducible refine QW ?_); simp only [Zg, Nat.reduceEqDiff, Nat.reduceLT, Nat.reduceLeDiff, reduceIte, if_true, if_false, reduceCtorEq, Nat.reduceAdd, Nat.reduceMul, Nat.reduceSub, Nat.reduceBEq, Nat.reduceBNe, Int.reduceLE, Int.reduceLT, Int.reduceNeg, Int.reduceAdd, Int.reduceSub, Int.reduceMul, Int.reduceToNat, Int.reduceEq, ite_true, ite_false, TPut, TPut, z10, z00, zm0, i1, i2, hg, hw, hz0, q1, q2, Int.toNat_natCast, List.length_map]; with_reducible rfl)))
        refine roundK.on (i + 1, true, o ++ [z]) ?_ ?_
        refine ⟨⟨h, (fun h => nomatch h), fun _ => ?_, ?_⟩, ?_⟩
        · rw [← hyes rfl, hdr]; simp
        · simp; omega
        · show e.length - (i + 1) < e.length - i; omega
        · (repeat' (first | with_reducible refine Qn | ((with_reducible refine Qr ?_ ?_); focus (first | with_reducible rfl | (simp only [Zz, Nat.reduceBEq, ePt, List.length_append, List.length_singleton]; done) | rfl)) | ((with_reducible refine Qj (o' := ?_) ?_ ?_ ?_); rotate_left 1; focus rfl) | ((with_reducible refine Qw ?_ ?_); (focus (first | with_reducible rfl | (simp only [Zv, ePt, List.length_append, List.length_singleton]; done))); focus (first | exact id | exact (fun h => nomatch h) | exact (fun _ => rfl)))))
      | false =>
        obtain ⟨ho, hlow⟩ := hno rfl
        have hpa := putS_at hk0 h hlow
        rw [← hz] at hpa
        rcases Int.lt_trichotomy (cmpF f z.2) 0 with hc | hc | hc
        · have hs := sgn_lt hc
          have hp : putS cmpF e k f = o ++ [(k, f)] ++ [z] ++ e.drop (i + 1) := by
            rw [hpa, ho]; unfold putS; rw [if_neg hk0, if_pos hc]; simp
          repeat' (first | with_reducible (first | refine Q1 ?_ | refine Q2 ?_ | refine Q3 ?_ | refine Q4 ?_ | refine Q5 ?_ | refine Q6 ?_ | refine Q7 ?_ | refine Q8 ?_ | refine Q9 ?_ | refine Qa ?_ | refine Qb ?_ | refine Qc ?_ | refine Qd ?_ | refine Qe ?_ | refine Qf ?_) | ((with_reducible refine Qo ?_ ?_); focus rfl) | ((with_reducible first | refine QT 12 (l := ?_) ?_ ?_ | refine QF 12 (l := ?_) ?_ ?_); rotate_left 1; focus (simp only [Zu, Nat.reduceSub, Nat.reduceBEq]; with_reducible rfl)) | ((with_reducible first | refine QS (cfg_ok 68) TPut (s' := ?_) ?_ ?_ | refine QC (b := ?_) ?_ ?_); rotate_left 1; focus ((with_reducible refine QW ?_); simp only [Zg, Nat.reduceEqDiff, Nat.reduceLT, Nat.reduceLeDiff, reduceIte, if_true, if_false, reduceCtorEq, Nat.reduceAdd, Nat.reduceMul, Nat.reduceSub, Nat.reduceBEq, Nat.reduceBNe, Int.reduceLE, Int.reduceLT, Int.reduceNeg, Int.reduceAdd, Int.reduceSub, Int.reduceMul, Int.reduceToNat, Int.reduceEq, ite_true, ite_false, TPut, TPut, z10, z00, zm0, i1, i2, hg, hw, hz0, hs, hff, hzz, q1, q2, q3, q4, Int.toNat_natCast, List.length_map, List.length_append]; with_reducible rfl)))
          refine roundK.on (i + 1, true, o ++ [(k, f)] ++ [z]) ?_ ?_
          refine ⟨⟨h, (fun h => nomatch h), fun _ => hp.symm, ?_⟩, ?_⟩
          · have : o.length = i := by rw [ho, List.length_take]; omega
            simp; omega
          · show e.length - (i + 1) < e.length - i; omega
          · (repeat' (first | with_reducible refine Qn | ((with_reducible refine Qr ?_ ?_); focus (first | with_reducible rfl | (simp only [Zz, Nat.reduceBEq, ePt, List.length_append, List.length_singleton]; done) | rfl)) | ((with_reducible refine Qj (o' := ?_) ?_ ?_ ?_); rotate_left 1; focus rfl) | ((with_reducible refine Qw ?_ ?_); (focus (first | with_reducible rfl | (simp only [Zv, ePt, List.length_append, List.length_singleton]; done))); focus (first | exact id | exact (fun h => nomatch h) | exact (fun _ => rfl)))))
        · have hs := sgn_eq hc
          have hab : (-9223372036854775808 ≤ z.1 + k ∧ z.1 + k ≤ 9223372036854775807) = True := eq_true (by omega)
          by_cases hm : mP (z.1 + k) = 0
          · have hmb : (mP (z.1 + k) == 0) = true := beq_iff_eq.2 hm
            have hp : putS cmpF e k f = o ++ e.drop (i + 1) := by
              rw [hpa, ho]; unfold putS; rw [if_neg hk0, if_neg (by omega), if_pos hc, if_pos hm]
            repeat' (first | with_reducible (first | refine Q1 ?_ | refine Q2 ?_ | refine Q3 ?_ | refine Q4 ?_ | refine Q5 ?_ | refine Q6 ?_ | refine Q7 ?_ | refine Q8 ?_ | refine Q9 ?_ | refine Qa ?_ | refine Qb ?_ | refine Qc ?_ | refine Qd ?_ | refine Qe ?_ | refine Qf ?_) | ((with_reducible refine Qo ?_ ?_); focus rfl) | ((with_reducible first | refine QT 12 (l := ?_) ?_ ?_ | refine QF 12 (l := ?_) ?_ ?_); rotate_left 1; focus (simp only [Zu, Nat.reduceSub, Nat.reduceBEq]; with_reducible rfl)) | ((with_reducible first | refine QS (cfg_ok 68) TPut (s' := ?_) ?_ ?_ | refine QC (b := ?_) ?_ ?_); rotate_left 1; focus ((with_reducible refine QW ?_); simp only [Zg, Nat.reduceEqDiff, Nat.reduceLT, Nat.reduceLeDiff, reduceIte, if_true, if_false, reduceCtorEq, Nat.reduceAdd, Nat.reduceMul, Nat.reduceSub, Nat.reduceBEq, Nat.reduceBNe, Int.reduceLE, Int.reduceLT, Int.reduceNeg, Int.reduceAdd, Int.reduceSub, Int.reduceMul, Int.reduceToNat, Int.reduceEq, ite_true, ite_false, TPut, TPut, z10, z00, zm0, i1, i2, hg, hw, hm, hs, hff, hzz, hab, q1, q2, Int.toNat_natCast, List.length_map]; with_reducible rfl)))
            refine roundK.on (i + 1, true, o) ?_ ?_
            refine ⟨⟨h, (fun h => nomatch h), fun _ => hp.symm, ?_⟩, ?_⟩
            · show o.length ≤ i + 1 + 1; omega
            · show e.length - (i + 1) < e.length - i; omega
            · (repeat' (first | with_reducible refine Qn | ((with_reducible refine Qr ?_ ?_); focus (first | with_reducible rfl | (simp only [Zz, Nat.reduceBEq, ePt]; done) | rfl)) | ((with_reducible refine Qj (o' := ?_) ?_ ?_ ?_); rotate_left 1; focus rfl) | ((with_reducible refine Qw ?_ ?_); (focus (first | with_reducible rfl | (simp only [Zv, ePt]; done))); focus (first | exact id | exact (fun h => nomatch h) | exact (fun _ => rfl)))))
          · have hmb : (mP (z.1 + k) != 0) = true := bne_iff_ne.2 hm
            have hp : putS cmpF e k f = o ++ [(mP (z.1 + k), z.2)] ++ e.drop (i + 1) := by
              rw [hpa, ho]; unfold putS; rw [if_neg hk0, if_neg (by omega), if_pos hc, if_neg hm]; simp
            repeat' (first | with_reducible (first | refine Q1 ?_ | refine Q2 ?_ | refine Q3 ?_ | refine Q4 ?_ | refine Q5 ?_ | refine Q6 ?_ | refine Q7 ?_ | refine Q8 ?_ | refine Q9 ?_ | refine Qa ?_ | refine Qb ?_ | refine Qc ?_ | refine Qd ?_ | refine Qe ?_ | refine Qf ?_) | ((with_reducible refine Qo ?_ ?_); focus rfl) | ((with_reducible first | refine QT 12 (l := ?_) ?_ ?_ | refine QF 12 (l := ?_) ?_ ?_); rotate_left 1; focus (simp only [Zu, Nat.reduceSub, Nat.reduceBEq]; with_reducible rfl)) | ((with_reducible first | refine QS (cfg_ok 68) TPut (s' := ?_) ?_ ?_ | refine QC (b := ?_) ?_ ?_); rotate_left 1; focus ((with_reducible refine QW ?_); simp only [Zg, Nat.reduceEqDiff, Nat.reduceLT, Nat.reduceLeDiff, reduceIte, if_true, if_false, reduceCtorEq, Nat.reduceAdd, Nat.reduceMul, Nat.reduceSub, Nat.reduceBEq, Nat.reduceBNe, Int.reduceLE, Int.reduceLT, Int.reduceNeg, Int.reduceAdd, Int.reduceSub, Int.reduceMul, Int.reduceToNat, Int.reduceEq, ite_true, ite_false, TPut, TPut, z10, z00, zm0, i1, i2, hg, hw, hmb, hs, hff, hzz, hab, q1, q2, Int.toNat_natCast, List.length_map]; with_reducible rfl)))
            refine roundK.on (i + 1, true, o ++ [(mP (z.1 + k), z.2)]) ?_ ?_
            refine ⟨⟨h, (fun h => nomatch h), fun _ => hp.symm, ?_⟩, ?_⟩
            · simp; omega
            · show e.length - (i + 1) < e.length - i; omega
            · (repeat' (first | with_reducible refine Qn | ((with_reducible refine Qr ?_ ?_); focus (first | with_reducible rfl | (simp only [Zz, Nat.reduceBEq, ePt, List.length_append, List.length_singleton]; done) | rfl)) | ((with_reducible refine Qj (o' := ?_) ?_ ?_ ?_); rotate_left 1; focus rfl) | ((with_reducible refine Qw ?_ ?_); (focus (first | with_reducible rfl | (simp only [Zv, ePt, List.length_append, List.length_singleton]; done))); focus (first | exact id | exact (fun h => nomatch h) | exact (fun _ => rfl)))))
        · have hs := sgn_gt hc
          repeat' (first | with_reducible (first | refine Q1 ?_ | refine Q2 ?_ | refine Q3 ?_ | refine Q4 ?_ | refine Q5 ?_ | refine Q6 ?_ | refine Q7 ?_ | refine Q8 ?_ | refine Q9 ?_ | refine Qa ?_ | refine Qb ?_ | refine Qc ?_ | refine Qd ?_ | refine Qe ?_ | refine Qf ?_) | ((with_reducible refine Qo ?_ ?_); focus rfl) | ((with_reducible first | refine QT 12 (l := ?_) ?_ ?_ | refine QF 12 (l := ?_) ?_ ?_); rotate_left 1; focus (simp only [Zu, Nat.reduceSub, Nat.reduceBEq]; with_reducible rfl)) | ((with_reducible first | refine QS (cfg_ok 68) TPut (s' := ?_) ?_ ?_ | refine QC (b := ?_) ?_ ?_); rotate_left 1; focus ((with_reducible refine QW ?_); simp only [Zg, Nat.reduceEqDiff, Nat.reduceLT, Nat.reduceLeDiff, reduceIte, if_true, if_false, reduceCtorEq, Nat.reduceAdd, Nat.reduceMul, Nat.reduceSub, Nat.reduceBEq, Nat.reduceBNe, Int.reduceLE, Int.reduceLT, Int.reduceNeg, Int.reduceAdd, Int.reduceSub, Int.reduceMul, Int.reduceToNat, Int.reduceEq, ite_true, ite_false, TPut, TPut, z10, z00, zm0, i1, i2, hg, hw, hz0, hs, hff, hzz, q1, q2, Int.toNat_natCast, List.length_map]; with_reducible rfl)))
          refine roundK.on (i + 1, false, o ++ [z]) ?_ ?_
          refine ⟨⟨h, fun _ => ⟨by rw [htk, ho], ?_⟩, (fun h => nomatch h), ?_⟩, ?_⟩
          · intro q hq
            have hq : q ∈ e.take (i + 1) := hq
            rw [htk, List.mem_append, List.mem_singleton] at hq
            rcases hq with hq | rfl
            · exact hlow q hq
            · exact hc
          · simp; omega
          · show e.length - (i + 1) < e.length - i; omega
          · (repeat' (first | with_reducible refine Qn | ((with_reducible refine Qr ?_ ?_); focus (first | with_reducible rfl | (simp only [Zz, Nat.reduceBEq, ePt, List.length_append, List.length_singleton]; done) | rfl)) | ((with_reducible refine Qj (o' := ?_) ?_ ?_ ?_); rotate_left 1; focus rfl) | ((with_reducible refine Qw ?_ ?_); (focus (first | with_reducible rfl | (simp only [Zv, ePt, List.length_append, List.length_singleton]; done))); focus (first | exact id | exact (fun h => nomatch h) | exact (fun _ => rfl)))))
    · have i1 : ((i : Int) < (e.length : Int)) = False := eq_false (by omega)
      obtain rfl : i = e.length := by omega
      repeat' (first | with_reducible (first | refine Q1 ?_ | refine Q2 ?_ | refine Q3 ?_ | refine Q4 ?_ | refine Q5 ?_ | refine Q6 ?_ | refine Q7 ?_ | refine Q8 ?_ | refine Q9 ?_ | refine Qa ?_ | refine Qb ?_ | refine Qc ?_ | refine Qd ?_ | refine Qe ?_ | refine Qf ?_) | ((with_reducible refine Qo ?_ ?_); focus rfl) | ((with_reducible first | refine QT 12 (l := ?_) ?_ ?_ | refine QF 12 (l := ?_) ?_ ?_); rotate_left 1; focus (simp only [Zu, Nat.reduceSub, Nat.reduceBEq]; with_reducible rfl)) | ((with_reducible first | refine QS (cfg_ok 68) Tab.none (s' := ?_) ?_ ?_ | refine QC (b := ?_) ?_ ?_); rotate_left 1; focus ((with_reducible refine QW ?_); simp only [Zg, Nat.reduceEqDiff, Nat.reduceLT, Nat.reduceLeDiff, reduceIte, if_true, if_false, reduceCtorEq, Nat.reduceAdd, Nat.reduceMul, Nat.reduceSub, Nat.reduceBEq, Nat.reduceBNe, Int.reduceLE, Int.reduceLT, Int.reduceNeg, Int.reduceAdd, Int.reduceSub, Int.reduceMul, Int.reduceToNat, Int.reduceEq, ite_true, ite_false, i1, List.length_map]; with_reducible rfl)))
      refine roundK.out (d, o) ⟨Nat.le_refl _, hno, hyes, hlen⟩ ?_
      (repeat' (first | with_reducible refine Qn | ((with_reducible refine Qr ?_ ?_); focus (first | with_reducible rfl | (simp only [Zz, Nat.reduceBEq]; done) | rfl)) | ((with_reducible refine Qj (o' := ?_) ?_ ?_ ?_); rotate_left 1; focus rfl) | ((with_reducible refine Qw ?_ ?_); (focus (first | with_reducible rfl | (simp only [Zv]; done))); focus (first | exact id | exact (fun h => nomatch h) | exact (fun _ => rfl)))))
  · rintro ⟨d, o⟩ ⟨_, hno, hyes, hlen⟩
    simp only at hno hyes hlen ⊢
    have q1 := big_le (n := o.length + 1) (by omega)
    have q2 := big_mul (n := o.length + 1) (c := 32) (by omega) (by omega)
    cases d with
    | true =>
      have hp : putS cmpF e k f = o := by rw [← hyes rfl]; simp
      rw [hp]
      repeat' (first | with_reducible (first | refine Q1 ?_ | refine Q2 ?_ | refine Q3 ?_ | refine Q4 ?_ | refine Q5 ?_ | refine Q6 ?_ | refine Q7 ?_ | refine Q8 ?_ | refine Q9 ?_ | refine Qa ?_ | refine Qb ?_ | refine Qc ?_ | refine Qd ?_ | refine Qe ?_ | refine Qf ?_) | ((with_reducible refine Qo ?_ ?_); focus rfl) | ((with_reducible first | refine QT 12 (l := ?_) ?_ ?_ | refine QF 12 (l := ?_) ?_ ?_); rotate_left 1; focus (simp only [Zu, Nat.reduceSub, Nat.reduceBEq]; with_reducible rfl)) | ((with_reducible first | refine QS (cfg_ok 68) Tab.none (s' := ?_) ?_ ?_ | refine QC (b := ?_) ?_ ?_); rotate_left 1; focus ((with_reducible refine QW ?_); simp only [Zg, Nat.reduceEqDiff, Nat.reduceLT, Nat.reduceLeDiff, reduceIte, if_true, if_false, reduceCtorEq, Nat.reduceAdd, Nat.reduceMul, Nat.reduceSub, Nat.reduceBEq, Nat.reduceBNe, Int.reduceLE, Int.reduceLT, Int.reduceNeg, Int.reduceAdd, Int.reduceSub, Int.reduceMul, Int.reduceToNat, Int.reduceEq, ite_true, ite_false]; with_reducible rfl)))
      (refine Ends.mk (by simp) (rs := ?_) (ks := ?_) hres hrts ?_ ?_ ?_; rotate_left 2; (focus (simp only [Ze, Zg, Nat.reduceEqDiff, Nat.reduceLT, Nat.reduceLeDiff, reduceIte, if_true, if_false, reduceCtorEq, Nat.reduceAdd, Nat.reduceMul, Nat.reduceSub, Nat.reduceBEq, Nat.reduceBNe, Int.reduceLE, Int.reduceLT, Int.reduceNeg, Int.reduceAdd, Int.reduceSub, Int.reduceMul, Int.reduceToNat, Int.reduceEq, ite_true, ite_false]; with_reducible rfl)); (focus simp); focus (first | with_reducible rfl | (simp only [Zv]; done)))
    | false =>
      obtain ⟨ho, hlow⟩ := hno rfl
      have hp : putS cmpF e k f = o ++ [(k, f)] := by
        have h1 := putS_skip hk0 [] hlow
        rw [List.append_nil, List.take_length] at h1
        rw [h1, ho, List.take_length]
        unfold putS; rw [if_neg hk0]
      rw [hp]
      repeat' (first | with_reducible (first | refine Q1 ?_ | refine Q2 ?_ | refine Q3 ?_ | refine Q4 ?_ | refine Q5 ?_ | refine Q6 ?_ | refine Q7 ?_ | refine Q8 ?_ | refine Q9 ?_ | refine Qa ?_ | refine Qb ?_ | refine Qc ?_ | refine Qd ?_ | refine Qe ?_ | refine Qf ?_) | ((with_reducible refine Qo ?_ ?_); focus rfl) | ((with_reducible first | refine QT 12 (l := ?_) ?_ ?_ | refine QF 12 (l := ?_) ?_ ?_); rotate_left 1; focus (simp only [Zu, Nat.reduceSub, Nat.reduceBEq]; with_reducible rfl)) | ((with_reducible first | refine QS (cfg_ok 68) TPut (s' := ?_) ?_ ?_ | refine QC (b := ?_) ?_ ?_); rotate_left 1; focus ((with_reducible refine QW ?_); simp only [Zg, Nat.reduceEqDiff, Nat.reduceLT, Nat.reduceLeDiff, reduceIte, if_true, if_false, reduceCtorEq, Nat.reduceAdd, Nat.reduceMul, Nat.reduceSub, Nat.reduceBEq, Nat.reduceBNe, Int.reduceLE, Int.reduceLT, Int.reduceNeg, Int.reduceAdd, Int.reduceSub, Int.reduceMul, Int.reduceToNat, Int.reduceEq, ite_true, ite_false, TPut, TPut, hff, q1, q2, List.length_map]; with_reducible rfl)))
      (refine Ends.mk (by simp) (rs := ?_) (ks := ?_) hres hrts ?_ ?_ ?_; rotate_left 2; (focus (simp only [Ze, Zg, Nat.reduceEqDiff, Nat.reduceLT, Nat.reduceLeDiff, reduceIte, if_true, if_false, reduceCtorEq, Nat.reduceAdd, Nat.reduceMul, Nat.reduceSub, Nat.reduceBEq, Nat.reduceBNe, Int.reduceLE, Int.reduceLT, Int.reduceNeg, Int.reduceAdd, Int.reduceSub, Int.reduceMul, Int.reduceToNat, Int.reduceEq, ite_true, ite_false, ePt]; with_reducible rfl)); (focus simp); focus (first | with_reducible rfl | (simp only [Zv, ePt]; done)))
end Go.Proofs.YtacbkjmkjpjhoaaGreat

/- l06Add, l06Own: the walks on states of values. -/
namespace Go.Proofs.YtacbkjmkjpjhoaaGreat
open Go.RowKit

/-- Sums that are taken apart: their coefficients are no 0, their forests small. -/
def OkE (e : Elt) : Prop := ∀ q ∈ e, (1 ≤ q.1 ∧ q.1 < 10007) ∧ SmF q.2
theorem OkE.nil : OkE [] := fun q hq => nomatch hq
theorem putS_okE {k : Int} {f : List (List Int)} (hk : 0 ≤ k ∧ k < 10007) (hf : SmF f) : ∀ {e : Elt}, OkE e → OkE (putS cmpF e k f)
  | [], _ => by
    unfold putS
    split
    · exact OkE.nil
    · intro q hq
      simp only [List.mem_singleton] at hq
      subst hq
      exact ⟨⟨by simp only; omega, hk.2⟩, hf⟩
  | (a, y) :: L, he => by
    obtain ⟨⟨ha1, ha2⟩, hy⟩ := he (a, y) (by simp)
    have hL : OkE L := fun q hq => he q (by simp [hq])
    unfold putS
    split
    · exact he
    · split
      · intro q hq
        rcases List.mem_cons.1 hq with rfl | hq
        · exact ⟨⟨by simp only; omega, hk.2⟩, hf⟩
        · exact he q hq
      · split
        · split
          · exact hL
          · rename_i h0
            intro q hq
            rcases List.mem_cons.1 hq with rfl | hq
            · have := mP_range (a + k)
              exact ⟨⟨by simp only; omega, this.2⟩, hy⟩
            · exact hL q hq
        · intro q hq
          rcases List.mem_cons.1 hq with rfl | hq
          · exact ⟨⟨ha1, ha2⟩, hy⟩
          · exact putS_okE hk hf hL q hq
theorem putS_len (k : Int) (f : List (List Int)) : ∀ (e : Elt), (putS cmpF e k f).length ≤ e.length + 1
  | [] => by unfold putS; split <;> simp
  | (a, y) :: L => by
    have ih := putS_len k f L
    unfold putS
    repeat' split
    all_goals simp only [List.length_cons] at ih ⊢
    all_goals omega
theorem addS_snoc (d M : Elt) (q : Int × List (List Int)) : addS cmpF d (M ++ [q]) = putS cmpF (addS cmpF d M) q.1 q.2 := by
  unfold addS; rw [List.foldl_append]; rfl
theorem addS_okE : ∀ {M d : Elt}, OkE d → (∀ q ∈ M, (0 ≤ q.1 ∧ q.1 < 10007) ∧ SmF q.2) → OkE (addS cmpF d M)
  | [], d, hd, _ => hd
  | q :: M, d, hd, hM => by
    obtain ⟨h1, h2⟩ := hM q (by simp)
    exact addS_okE (M := M) (putS_okE h1 h2 hd) (fun z hz => hM z (by simp [hz]))
theorem addS_len : ∀ (M d : Elt), (addS cmpF d M).length ≤ d.length + M.length
  | [], d => Nat.le_refl _
  | q :: M, d => by
    have h1 := addS_len M (putS cmpF d q.1 q.2)
    have h2 := putS_len q.1 q.2 d
    show (addS cmpF (putS cmpF d q.1 q.2) M).length ≤ _
    simp only [List.length_cons]; omega

/-- All coefficients multiplied. -/
def mulE (k : Int) (e : Elt) : Elt := e.map fun p => (mP (k * p.1), p.2)
theorem mulE_ok {k : Int} {e : Elt} (he : OkE e) : ∀ q ∈ mulE k e, (0 ≤ q.1 ∧ q.1 < 10007) ∧ SmF q.2 := fun q hq => by
  obtain ⟨p, hp, rfl⟩ := List.mem_map.1 hq
  exact ⟨mP_range _, (he p hp).2⟩
theorem small_mul {a b : Int} (ha : 0 ≤ a ∧ a < 10007) (hb : 0 ≤ b ∧ b < 10007) : 0 ≤ a * b ∧ a * b ≤ 100140049 := by
  refine ⟨Int.mul_nonneg ha.1 hb.1, ?_⟩
  have h1 := Int.mul_le_mul (show a ≤ 10007 by omega) (show b ≤ 10007 by omega) hb.1 (by decide)
  omega

set_option maxHeartbeats 4000000 in
theorem a_l06Add (d e : Elt) (k : Int) (hd : OkE d) (he : OkE e) (hk : 0 ≤ k ∧ k < 10007) (hl : d.length + e.length ≤ 1000000) : AFn Tryz.prog 51 [[.sl 2 (d.map ePt)], [.sl 2 (e.map ePt)], eI k] (· = [.val (.sl 2 ((addS cmpF d (mulE k e)).map ePt))]) := by
  have hml : (mulE k e).length = e.length := by unfold mulE; simp
  refine AFn.of_runs (cfg_ok 31) Tryz.func51 rfl rfl rfl (by simp only [List.length_cons, List.length_nil]; decide) ?_
  have hres : Tryz.f51.results.toList = [.tmp 6] := rfl
  have hrts : Tryz.f51.resultTypes.toList = [24] := rfl
  simp only [argRegs, argAV1, eL, eI, eLL, eB, Nat.zero_add, Nat.reduceAdd]
  intro M
  refine RunK.of ?_
  repeat' (first | with_reducible (first | refine Q1 ?_ | refine Q2 ?_ | refine Q3 ?_ | refine Q4 ?_ | refine Q5 ?_ | refine Q6 ?_ | refine Q7 ?_ | refine Q8 ?_ | refine Q9 ?_ | refine Qa ?_ | refine Qb ?_ | refine Qc ?_ | refine Qd ?_ | refine Qe ?_ | refine Qf ?_) | ((with_reducible refine Qo ?_ ?_); focus rfl) | ((with_reducible first | refine QT 9 (l := ?_) ?_ ?_ | refine QF 9 (l := ?_) ?_ ?_); rotate_left 1; focus (simp only [Zu, Nat.reduceSub, Nat.reduceBEq]; with_reducible rfl)) | ((with_reducible first | refine QS (cfg_ok 31) Tab.none (s' := ?_) ?_ ?_ | refine QC (b := ?_) ?_ ?_); rotate_left 1; focus ((with_reducible refine QW ?_); simp only [Zg, Nat.reduceEqDiff, Nat.reduceLT, Nat.reduceLeDiff, reduceIte, if_true, if_false, reduceCtorEq, Nat.reduceAdd, Nat.reduceMul, Nat.reduceSub, Nat.reduceBEq, Nat.reduceBNe, Int.reduceLE, Int.reduceLT, Int.reduceNeg, Int.reduceAdd, Int.reduceSub, Int.reduceMul, Int.reduceToNat, Int.reduceEq, ite_true, ite_false]; with_reducible rfl)) | ((with_reducible refine QD (cfg_ok 31) Tab.none mixed_ok (tr := ?_) (s' := ?_) ?_ ?_ ?_); rotate_left 2; (focus ((with_reducible refine QW ?_); simp only [Zg, Zd, Nat.reduceEqDiff, Nat.reduceLT, Nat.reduceLeDiff, reduceIte, if_true, if_false, reduceCtorEq, Nat.reduceAdd, Nat.reduceMul, Nat.reduceSub, Nat.reduceBEq, Nat.reduceBNe, Int.reduceLE, Int.reduceLT, Int.reduceNeg, Int.reduceAdd, Int.reduceSub, Int.reduceMul, Int.reduceToNat, Int.reduceEq, ite_true, ite_false]; with_reducible rfl)); focus ((with_reducible refine QK ?_); simp only [Zk]; kernel_rfl)))
  refine RunK.loop (β := Nat) (γ := Unit) (fun i => ⟨[(1, .c (.val (.sl 2 (e.map ePt)))), (2, .c (.val (.int k))), (7, .c (.val (.sl 2 ((addS cmpF d ((mulE k e).take i)).map ePt)))), (8, .c (.val (.int i)))], []⟩) (fun i => i ≤ e.length) (fun i => e.length - i)
    (fun _ => ⟨[(7, .c (.val (.sl 2 ((addS cmpF d (mulE k e)).map ePt))))], []⟩) (fun _ => True) 0 (Nat.zero_le _) ?_ ?_ ?_
  · rw [List.take_zero, show addS cmpF d [] = d from rfl]
    (repeat' (first | with_reducible refine Qn | ((with_reducible refine Qr ?_ ?_); focus (first | with_reducible rfl | (simp only [Zz, Nat.reduceBEq]; done) | rfl)) | ((with_reducible refine Qj (o' := ?_) ?_ ?_ ?_); rotate_left 1; focus rfl) | ((with_reducible refine Qw ?_ ?_); (focus (first | with_reducible rfl | (simp only [Zv]; done))); focus (first | exact id | exact (fun h => nomatch h) | exact (fun _ => rfl)))))
  · intro i hi
    have hi : i ≤ e.length := hi
    have hw := w64_succ (n := i) (by omega)
    by_cases h : i < e.length
    · have i1 : ((i : Int) < (e.length : Int)) = True := eq_true (by omega)
      have i2 : ((0 : Int) ≤ (i : Int)) = True := eq_true (by omega)
      obtain ⟨z, hz⟩ : ∃ z, z = e[i] := ⟨_, rfl⟩
      obtain ⟨⟨hz1, hz2⟩, hz3⟩ := he e[i] (List.getElem_mem _)
      have hg : (e.map ePt)[i]? = some [.int z.1, .sl 1 (z.2.map eL)] := by rw [map_get h, hz]; rfl
      rw [← hz] at hz1 hz2 hz3
      have hm := a_l01Mul k z.1 (by have := small_mul hk ⟨show 0 ≤ z.1 by omega, hz2⟩; omega)
      have hsub : ∀ q ∈ (mulE k e).take i, (0 ≤ q.1 ∧ q.1 < 10007) ∧ SmF q.2 := fun q hq => mulE_ok he q (List.mem_of_mem_take hq)
      have hput := a_l06Put (addS cmpF d ((mulE k e).take i)) (mP (k * z.1)) z.2 (by
        have := addS_len ((mulE k e).take i) d
        rw [List.length_take] at this; omega) (addS_okE hd hsub) (mP_range _) hz3
      have hst : addS cmpF d ((mulE k e).take (i + 1)) = putS cmpF (addS cmpF d ((mulE k e).take i)) (mP (k * z.1)) z.2 := by
        have hi' : i < (mulE k e).length := by rw [hml]; exact h
        have hgm : (mulE k e)[i]'hi' = (mP (k * z.1), z.2) := by rw [hz]; exact List.getElem_map _
        rw [List.take_succ_eq_append_getElem hi', addS_snoc, hgm]
      simp only [eI, eLL] at hm hput
      repeat' (first | with_reducible (first | refine Q1 ?_ | refine Q2 ?_ | refine Q3 ?_ | refine Q4 ?_ | refine Q5 ?_ | refine Q6 ?_ | refine Q7 ?_ | refine Q8 ?_ | refine Q9 ?_ | refine Qa ?_ | refine Qb ?_ | refine Qc ?_ | refine Qd ?_ | refine Qe ?_ | refine Qf ?_) | ((with_reducible refine Qo ?_ ?_); focus rfl) | ((with_reducible first | refine QT 9 (l := ?_) ?_ ?_ | refine QF 9 (l := ?_) ?_ ?_); rotate_left 1; focus (simp only [Zu, Nat.reduceSub, Nat.reduceBEq]; with_reducible rfl)) | ((with_reducible first | refine QS (cfg_ok 31) ((Tab.none.at' 70 hm).at' 59 hput) (s' := ?_) ?_ ?_ | refine QC (b := ?_) ?_ ?_); rotate_left 1; focus ((with_reducible refine QW ?_); simp only [Zg, Nat.reduceEqDiff, Nat.reduceLT, Nat.reduceLeDiff, reduceIte, if_true, if_false, reduceCtorEq, Nat.reduceAdd, Nat.reduceMul, Nat.reduceSub, Nat.reduceBEq, Nat.reduceBNe, Int.reduceLE, Int.reduceLT, Int.reduceNeg, Int.reduceAdd, Int.reduceSub, Int.reduceMul, Int.reduceToNat, Int.reduceEq, ite_true, ite_false, i1, i2, hg, hw, Int.toNat_natCast, List.length_map]; with_reducible rfl)) | ((with_reducible refine QD (cfg_ok 31) ((Tab.none.at' 70 hm).at' 59 hput) mixed_ok (tr := ?_) (s' := ?_) ?_ ?_ ?_); rotate_left 2; (focus ((with_reducible refine QW ?_); simp only [Zg, Zd, Nat.reduceEqDiff, Nat.reduceLT, Nat.reduceLeDiff, reduceIte, if_true, if_false, reduceCtorEq, Nat.reduceAdd, Nat.reduceMul, Nat.reduceSub, Nat.reduceBEq, Nat.reduceBNe, Int.reduceLE, Int.reduceLT, Int.reduceNeg, Int.reduceAdd, Int.reduceSub, Int.reduceMul, Int.reduceToNat, Int.reduceEq, ite_true, ite_false, i1, i2, hg, hw, Int.toNat_natCast, List.length_map]; with_reducible rfl)); focus ((with_reducible refine QK ?_); simp only [Zk]; kernel_rfl)))
      refine roundK.on (i + 1) ⟨h, by omega⟩ ?_
      rw [hst]
      (repeat' (first | with_reducible refine Qn | ((with_reducible refine Qr ?_ ?_); focus (first | with_reducible rfl | (simp only [Zz, Nat.reduceBEq]; done) | rfl)) | ((with_reducible refine Qj (o' := ?_) ?_ ?_ ?_); rotate_left 1; focus rfl) | ((with_reducible refine Qw ?_ ?_); (focus (first | with_reducible rfl | (simp only [Zv]; done))); focus (first | exact id | exact (fun h => nomatch h) | exact (fun _ => rfl)))))
    · have i1 : ((i : Int) < (e.length : Int)) = False := eq_false (by omega)
      obtain rfl : i = e.length := by omega
      rw [← hml, List.take_length, hml]
      repeat' (first | with_reducible (first | refine Q1 ?_ | refine Q2 ?_ | refine Q3 ?_ | refine Q4 ?_ | refine Q5 ?_ | refine Q6 ?_ | refine Q7 ?_ | refine Q8 ?_ | refine Q9 ?_ | refine Qa ?_ | refine Qb ?_ | refine Qc ?_ | refine Qd ?_ | refine Qe ?_ | refine Qf ?_) | ((with_reducible refine Qo ?_ ?_); focus rfl) | ((with_reducible first | refine QT 9 (l := ?_) ?_ ?_ | refine QF 9 (l := ?_) ?_ ?_); rotate_left 1; focus (simp only [Zu, Nat.reduceSub, Nat.reduceBEq]; with_reducible rfl)) | ((with_reducible first | refine QS (cfg_ok 31) Tab.none (s' := ?_) ?_ ?_ | refine QC (b := ?_) ?_ ?_); rotate_left 1; focus ((with_reducible refine QW ?_); simp only [Zg, Nat.reduceEqDiff, Nat.reduceLT, Nat.reduceLeDiff, reduceIte, if_true, if_false, reduceCtorEq, Nat.reduceAdd, Nat.reduceMul, Nat.reduceSub, Nat.reduceBEq, Nat.reduceBNe, Int.reduceLE, Int.reduceLT, Int.reduceNeg, Int.reduceAdd, Int.reduceSub, Int.reduceMul, Int.reduceToNat, Int.reduceEq, ite_true, ite_false, i1, List.length_map]; with_reducible rfl)) | ((with_reducible refine QD (cfg_ok 31) Tab.none mixed_ok (tr := ?_) (s' := ?_) ?_ ?_ ?_); rotate_left 2; (focus ((with_reducible refine QW ?_); simp only [Zg, Zd, Nat.reduceEqDiff, Nat.reduceLT, Nat.reduceLeDiff, reduceIte, if_true, if_false, reduceCtorEq, Nat.reduceAdd, Nat.reduceMul, Nat.reduceSub, Nat.reduceBEq, Nat.reduceBNe, Int.reduceLE, Int.reduceLT, Int.reduceNeg, Int.reduceAdd, Int.reduceSub, Int.reduceMul, Int.reduceToNat, Int.reduceEq, ite_true, ite_false, i1, List.length_map]; with_reducible rfl)); focus ((with_reducible refine QK ?_); simp only [Zk]; kernel_rfl)))
      refine roundK.out () trivial ?_
      (repeat' (first | with_reducible refine Qn | ((with_reducible refine Qr ?_ ?_); focus (first | with_reducible rfl | (simp only [Zz, Nat.reduceBEq]; done) | rfl)) | ((with_reducible refine Qj (o' := ?_) ?_ ?_ ?_); rotate_left 1; focus rfl) | ((with_reducible refine Qw ?_ ?_); (focus (first | with_reducible rfl | (simp only [Zv]; done))); focus (first | exact id | exact (fun h => nomatch h) | exact (fun _ => rfl)))))
  · rintro _ _
    repeat' (first | with_reducible (first | refine Q1 ?_ | refine Q2 ?_ | refine Q3 ?_ | refine Q4 ?_ | refine Q5 ?_ | refine Q6 ?_ | refine Q7 ?_ | refine Q8 ?_ | refine Q9 ?_ | refine Qa ?_ | refine Qb ?_ | refine Qc ?_ | refine Qd ?_ | refine Qe ?_ | refine Qf ?_) | ((with_reducible refine Qo ?_ ?_); focus rfl) | ((with_reducible first | refine QT 9 (l := ?_) ?_ ?_ | refine QF 9 (l := ?_) ?_ ?_); rotate_left 1; focus (simp only [Zu, Nat.reduceSub, Nat.reduceBEq]; with_reducible rfl)) | ((with_reducible first | refine QS (cfg_ok 31) Tab.none (s' := ?_) ?_ ?_ | refine QC (b := ?_) ?_ ?_); rotate_left 1; focus ((with_reducible refine QW ?_); simp only [Zg, Nat.reduceEqDiff, Nat.reduceLT, Nat.reduceLeDiff, reduceIte, if_true, if_false, reduceCtorEq, Nat.reduceAdd, Nat.reduceMul, Nat.reduceSub, Nat.reduceBEq, Nat.reduceBNe, Int.reduceLE, Int.reduceLT, Int.reduceNeg, Int.reduceAdd, Int.reduceSub, Int.reduceMul, Int.reduceToNat, Int.reduceEq, ite_true, ite_false]; with_reducible rfl)) | ((with_reducible refine QD (cfg_ok 31) Tab.none mixed_ok (tr := ?_) (s' := ?_) ?_ ?_ ?_); rotate_left 2; (focus ((with_reducible refine QW ?_); simp only [Zg, Zd, Nat.reduceEqDiff, Nat.reduceLT, Nat.reduceLeDiff, reduceIte, if_true, if_false, reduceCtorEq, Nat.reduceAdd, Nat.reduceMul, Nat.reduceSub, Nat.reduceBEq, Nat.reduceBNe, Int.reduceLE, Int.reduceLT, Int.reduceNeg, Int.reduceAdd, Int.reduceSub, Int.reduceMul, Int.reduceToNat, Int.reduceEq, ite_true, ite_false]; with_reducible rfl)); focus ((with_reducible refine QK ?_); simp only [Zk]; kernel_rfl)))
    (refine Ends.mk (by simp) (rs := ?_) (ks := ?_) hres hrts ?_ ?_ ?_; rotate_left 2; (focus (simp only [Ze, Zg, Nat.reduceEqDiff, Nat.reduceLT, Nat.reduceLeDiff, reduceIte, if_true, if_false, reduceCtorEq, Nat.reduceAdd, Nat.reduceMul, Nat.reduceSub, Nat.reduceBEq, Nat.reduceBNe, Int.reduceLE, Int.reduceLT, Int.reduceNeg, Int.reduceAdd, Int.reduceSub, Int.reduceMul, Int.reduceToNat, Int.reduceEq, ite_true, ite_false]; with_reducible rfl)); (focus simp); focus (first | with_reducible rfl | (simp only [Zv]; done)))

/-- What l06Own tells of a sum. -/
def limB (L : Elt) : Bool := decide (L.length ≤ 300 ∧ ∀ p ∈ L, sumLen p.2 ≤ 8)
noncomputable def TOwn : Tab Tryz.prog :=
  (Tab.none.add 98 (tab1 codLL fun f => some [.val (.int (nodesB f))]) (tab1_ok fun f rs h => by cases h; exact a_l03Nodes f)).add
    72 (tab1 codLL fun f => if SmF f then some [.own 1 (f.map eL) false] else none) (tab1_ok fun f rs h => by split at h; cases h; rename_i hs; exact a_l01Own2 f (by have := hs.1; omega) hs.b; cases h)

set_option maxHeartbeats 4000000 in
theorem a_l06Own (e : Elt) (he : OkE e) (hl : e.length ≤ 1000000) : ∃ b, AFn Tryz.prog 50 [[.sl 2 (e.map ePt)]] (· = [.own 2 ((limS e).1.map ePt) b, .val (.int (limS e).2)]) := by
  refine ⟨!limB e, ?_⟩
  unfold limS
  refine AFn.of_runs (cfg_ok 41) Tryz.func50 rfl rfl rfl (by simp only [List.length_cons, List.length_nil]; decide) ?_
  have hres : Tryz.f50.results.toList = [.tmp 2, .tmp 3] := rfl
  have hrts : Tryz.f50.resultTypes.toList = [24, 2] := rfl
  simp only [argRegs, argAV1, eL, eI, eLL, eB, Nat.zero_add, Nat.reduceAdd]
  intro M
  refine RunK.of ?_
  repeat' (first | with_reducible (first | refine Q1 ?_ | refine Q2 ?_ | refine Q3 ?_ | refine Q4 ?_ | refine Q5 ?_ | refine Q6 ?_ | refine Q7 ?_ | refine Q8 ?_ | refine Q9 ?_ | refine Qa ?_ | refine Qb ?_ | refine Qc ?_ | refine Qd ?_ | refine Qe ?_ | refine Qf ?_) | ((with_reducible refine Qo ?_ ?_); focus rfl) | ((with_reducible first | refine QT 6 (l := ?_) ?_ ?_ | refine QF 6 (l := ?_) ?_ ?_); rotate_left 1; focus (simp only [Zu, Nat.reduceSub, Nat.reduceBEq]; with_reducible rfl)) | ((with_reducible first | refine QS (cfg_ok 41) Tab.none (s' := ?_) ?_ ?_ | refine QC (b := ?_) ?_ ?_); rotate_left 1; focus ((with_reducible refine QW ?_); simp only [Zg, Nat.reduceEqDiff, Nat.reduceLT, Nat.reduceLeDiff, reduceIte, if_true, if_false, reduceCtorEq, Nat.reduceAdd, Nat.reduceMul, Nat.reduceSub, Nat.reduceBEq, Nat.reduceBNe, Int.reduceLE, Int.reduceLT, Int.reduceNeg, Int.reduceAdd, Int.reduceSub, Int.reduceMul, Int.reduceToNat, Int.reduceEq, ite_true, ite_false]; with_reducible rfl)) | ((with_reducible refine QD (cfg_ok 41) Tab.none mixed_ok (tr := ?_) (s' := ?_) ?_ ?_ ?_); rotate_left 2; (focus ((with_reducible refine QW ?_); simp only [Zg, Zd, Nat.reduceEqDiff, Nat.reduceLT, Nat.reduceLeDiff, reduceIte, if_true, if_false, reduceCtorEq, Nat.reduceAdd, Nat.reduceMul, Nat.reduceSub, Nat.reduceBEq, Nat.reduceBNe, Int.reduceLE, Int.reduceLT, Int.reduceNeg, Int.reduceAdd, Int.reduceSub, Int.reduceMul, Int.reduceToNat, Int.reduceEq, ite_true, ite_false]; with_reducible rfl)); focus ((with_reducible refine QK ?_); simp only [Zk]; kernel_rfl)))
  refine RunK.loop (β := Nat) (γ := Unit) (fun i => ⟨[(0, .c (.val (.sl 2 (e.map ePt)))), (4, .c (.own 4 i)), (5, .c (.val (.int i)))], [(4, .row 2 ((e.take i).map ePt) false)]⟩) (fun i => i ≤ e.length ∧ (0 < i → e.length ≤ 300) ∧ ∀ p ∈ e.take i, sumLen p.2 ≤ 8) (fun i => e.length - i)
    (fun _ => ⟨[(4, .c (.own 4 e.length))], [(4, .row 2 (e.map ePt) false)]⟩) (fun _ => limB e = true) 0 ⟨Nat.zero_le _, by omega, by simp⟩ ?_ ?_ ?_
  · (repeat' (first | with_reducible refine Qn | ((with_reducible refine Qr ?_ ?_); focus (first | with_reducible rfl | (simp only [Zz, Nat.reduceBEq, List.take_zero, List.map_nil]; done) | rfl)) | ((with_reducible refine Qj (o' := ?_) ?_ ?_ ?_); rotate_left 1; focus rfl) | ((with_reducible refine Qw ?_ ?_); (focus (first | with_reducible rfl | (simp only [Zv, List.take_zero, List.map_nil]; done))); focus (first | exact id | exact (fun h => nomatch h) | exact (fun _ => rfl)))))
  · rintro i ⟨hi, h3, h8⟩
    have hw := w64_succ (n := i) (by omega)
    have hlt : ((e.take i).map ePt).length = i := by rw [List.length_map, List.length_take]; omega
    have q1 := big_le (n := i + 1) (by omega)
    have q2 := big_mul (n := i + 1) (c := 32) (by omega) (by omega)
    by_cases h : i < e.length
    · have i1 : ((i : Int) < (e.length : Int)) = True := eq_true (by omega)
      have i2 : ((0 : Int) ≤ (i : Int)) = True := eq_true (by omega)
      obtain ⟨z, hz⟩ : ∃ z, z = e[i] := ⟨_, rfl⟩
      have hg : (e.map ePt)[i]? = some [.int z.1, .sl 1 (z.2.map eL)] := by rw [map_get h, hz]; rfl
      have hz3 := (he e[i] (List.getElem_mem _)).2
      rw [← hz] at hz3
      have hzz := eq_true hz3
      have hnb : nodesB z.2 = sumLen z.2 := nodesB_eq z.2 (by have := hz3.2; omega)
      have htk : e.take (i + 1) = e.take i ++ [z] := by rw [hz]; exact List.take_succ_eq_append_getElem h
      by_cases hs : sumLen z.2 ≤ 8
      · have j1 : ((sumLen z.2 : Int) > 8) = False := eq_false (by omega)
        by_cases hn : e.length ≤ 300
        · have j2 : ((e.length : Int) > 300) = False := eq_false (by omega)
          repeat' (first | with_reducible (first | refine Q1 ?_ | refine Q2 ?_ | refine Q3 ?_ | refine Q4 ?_ | refine Q5 ?_ | refine Q6 ?_ | refine Q7 ?_ | refine Q8 ?_ | refine Q9 ?_ | refine Qa ?_ | refine Qb ?_ | refine Qc ?_ | refine Qd ?_ | refine Qe ?_ | refine Qf ?_) | ((with_reducible refine Qo ?_ ?_); focus rfl) | ((with_reducible first | refine QT 6 (l := ?_) ?_ ?_ | refine QF 6 (l := ?_) ?_ ?_); rotate_left 1; focus (simp only [Zu, Nat.reduceSub, Nat.reduceBEq]; with_reducible rfl)) | ((with_reducible first | refine QS (cfg_ok 41) TOwn (s' := ?_) ?_ ?_ | refine QC (b := ?_) ?_ ?_); rotate_left 1; focus ((with_reducible refine QW ?_); simp only [Zg, Nat.reduceEqDiff, Nat.reduceLT, Nat.reduceLeDiff, reduceIte, if_true, if_false, reduceCtorEq, Nat.reduceAdd, Nat.reduceMul, Nat.reduceSub, Nat.reduceBEq, Nat.reduceBNe, Int.reduceLE, Int.reduceLT, Int.reduceNeg, Int.reduceAdd, Int.reduceSub, Int.reduceMul, Int.reduceToNat, Int.reduceEq, ite_true, ite_false, TOwn, TOwn, i1, i2, hg, hnb, hzz, hw, j1, j2, q1, q2, hlt, Int.toNat_natCast, List.length_map]; with_reducible rfl)) | ((with_reducible refine QD (cfg_ok 41) TOwn mixed_ok (tr := ?_) (s' := ?_) ?_ ?_ ?_); rotate_left 2; (focus ((with_reducible refine QW ?_); simp only [Zg, Zd, Nat.reduceEqDiff, Nat.reduceLT, Nat.reduceLeDiff, reduceIte, if_true, if_false, reduceCtorEq, Nat.reduceAdd, Nat.reduceMul, Nat.reduceSub, Nat.reduceBEq, Nat.reduceBNe, Int.reduceLE, Int.reduceLT, Int.reduceNeg, Int.reduceAdd, Int.reduceSub, Int.reduceMul, Int.reduceToNat, Int.reduceEq, ite_true, ite_false, TOwn, TOwn, i1, i2, hg, hnb, hzz, hw, j1, j2, q1, q2, hlt, Int.toNat_natCast, List.length_map]; with_reducible rfl)); focus ((with_reducible refine QK ?_); simp only [Zk]; kernel_rfl)))
          refine roundK.on (i + 1) ⟨⟨h, fun _ => hn, fun p hp => ?_⟩, by omega⟩ ?_
          · rw [htk, List.mem_append, List.mem_singleton] at hp
            rcases hp with hp | rfl
            · exact h8 p hp
            · exact hs
          · rw [htk]
            (repeat' (first | with_reducible refine Qn | ((with_reducible refine Qr ?_ ?_); focus (first | with_reducible rfl | (simp only [Zz, Nat.reduceBEq, ePt]; done) | rfl)) | ((with_reducible refine Qj (o' := ?_) ?_ ?_ ?_); rotate_left 1; focus rfl) | ((with_reducible refine Qw ?_ ?_); (focus (first | with_reducible rfl | (simp only [Zv, ePt]; done))); focus (first | exact id | exact (fun h => nomatch h) | exact (fun _ => rfl)))))
        · have j2 : ((e.length : Int) > 300) = True := eq_true (by omega)
          have hno : limB e = false := decide_eq_false (fun h => hn h.1)
          repeat' (first | with_reducible (first | refine Q1 ?_ | refine Q2 ?_ | refine Q3 ?_ | refine Q4 ?_ | refine Q5 ?_ | refine Q6 ?_ | refine Q7 ?_ | refine Q8 ?_ | refine Q9 ?_ | refine Qa ?_ | refine Qb ?_ | refine Qc ?_ | refine Qd ?_ | refine Qe ?_ | refine Qf ?_) | ((with_reducible refine Qo ?_ ?_); focus rfl) | ((with_reducible first | refine QT 6 (l := ?_) ?_ ?_ | refine QF 6 (l := ?_) ?_ ?_); rotate_left 1; focus (simp only [Zu, Nat.reduceSub, Nat.reduceBEq]; with_reducible rfl)) | ((with_reducible first | refine QS (cfg_ok 41) TOwn (s' := ?_) ?_ ?_ | refine QC (b := ?_) ?_ ?_); rotate_left 1; focus ((with_reducible refine QW ?_); simp only [Zg, Nat.reduceEqDiff, Nat.reduceLT, Nat.reduceLeDiff, reduceIte, if_true, if_false, reduceCtorEq, Nat.reduceAdd, Nat.reduceMul, Nat.reduceSub, Nat.reduceBEq, Nat.reduceBNe, Int.reduceLE, Int.reduceLT, Int.reduceNeg, Int.reduceAdd, Int.reduceSub, Int.reduceMul, Int.reduceToNat, Int.reduceEq, ite_true, ite_false, TOwn, TOwn, i1, i2, hg, hnb, hzz, hw, j1, j2, q1, q2, hlt, Int.toNat_natCast, List.length_map]; with_reducible rfl)) | ((with_reducible refine QD (cfg_ok 41) TOwn mixed_ok (tr := ?_) (s' := ?_) ?_ ?_ ?_); rotate_left 2; (focus ((with_reducible refine QW ?_); simp only [Zg, Zd, Nat.reduceEqDiff, Nat.reduceLT, Nat.reduceLeDiff, reduceIte, if_true, if_false, reduceCtorEq, Nat.reduceAdd, Nat.reduceMul, Nat.reduceSub, Nat.reduceBEq, Nat.reduceBNe, Int.reduceLE, Int.reduceLT, Int.reduceNeg, Int.reduceAdd, Int.reduceSub, Int.reduceMul, Int.reduceToNat, Int.reduceEq, ite_true, ite_false, TOwn, TOwn, i1, i2, hg, hnb, hzz, hw, j1, j2, q1, q2, hlt, Int.toNat_natCast, List.length_map]; with_reducible rfl)); focus ((with_reducible refine QK ?_); simp only [Zk]; kernel_rfl)))
          refine roundK.ret ?_
          rw [hno, if_neg (fun h => hn h.1)]
          repeat' (first | with_reducible (first | refine Q1 ?_ | refine Q2 ?_ | refine Q3 ?_ | refine Q4 ?_ | refine Q5 ?_ | refine Q6 ?_ | refine Q7 ?_ | refine Q8 ?_ | refine Q9 ?_ | refine Qa ?_ | refine Qb ?_ | refine Qc ?_ | refine Qd ?_ | refine Qe ?_ | refine Qf ?_) | ((with_reducible refine Qo ?_ ?_); focus rfl) | ((with_reducible first | refine QT 6 (l := ?_) ?_ ?_ | refine QF 6 (l := ?_) ?_ ?_); rotate_left 1; focus (simp only [Zu, Nat.reduceSub, Nat.reduceBEq]; with_reducible rfl)) | ((with_reducible first | refine QS (cfg_ok 41) Tab.none (s' := ?_) ?_ ?_ | refine QC (b := ?_) ?_ ?_); rotate_left 1; focus ((with_reducible refine QW ?_); simp only [Zg, Nat.reduceEqDiff, Nat.reduceLT, Nat.reduceLeDiff, reduceIte, if_true, if_false, reduceCtorEq, Nat.reduceAdd, Nat.reduceMul, Nat.reduceSub, Nat.reduceBEq, Nat.reduceBNe, Int.reduceLE, Int.reduceLT, Int.reduceNeg, Int.reduceAdd, Int.reduceSub, Int.reduceMul, Int.reduceToNat, Int.reduceEq, ite_true, ite_false]; with_reducible rfl)) | ((with_reducible refine QD (cfg_ok 41) Tab.none mixed_ok (tr := ?_) (s' := ?_) ?_ ?_ ?_); rotate_left 2; (focus ((with_reducible refine QW ?_); simp only [Zg, Zd, Nat.reduceEqDiff, Nat.reduceLT, Nat.reduceLeDiff, reduceIte, if_true, if_false, reduceCtorEq, Nat.reduceAdd, Nat.reduceMul, Nat.reduceSub, Nat.reduceBEq, Nat.reduceBNe, Int.reduceLE, Int.reduceLT, Int.reduceNeg, Int.reduceAdd, Int.reduceSub, Int.reduceMul, Int.reduceToNat, Int.reduceEq, ite_true, ite_false]; with_reducible rfl)); focus ((with_reducible refine QK ?_); simp only [Zk]; kernel_rfl)))
          (refine Ends.mk (by simp) (rs := ?_) (ks := ?_) hres hrts ?_ ?_ ?_; rotate_left 2; (focus (simp only [Ze, Zg, Nat.reduceEqDiff, Nat.reduceLT, Nat.reduceLeDiff, reduceIte, if_true, if_false, reduceCtorEq, Nat.reduceAdd, Nat.reduceMul, Nat.reduceSub, Nat.reduceBEq, Nat.reduceBNe, Int.reduceLE, Int.reduceLT, Int.reduceNeg, Int.reduceAdd, Int.reduceSub, Int.reduceMul, Int.reduceToNat, Int.reduceEq, ite_true, ite_false, Bool.not_false]; with_reducible rfl)); (focus simp); focus (first | with_reducible rfl | (simp only [Zv, Bool.not_false]; done)))
      · have j1 : ((sumLen z.2 : Int) > 8) = True := eq_true (by omega)
        have hno' : ¬ (e.length ≤ 300 ∧ ∀ p ∈ e, sumLen p.2 ≤ 8) := fun h' => hs (by have := h'.2 e[i] (List.getElem_mem _); rw [hz]; exact this)
        have hno : limB e = false := decide_eq_false hno'
        repeat' (first | with_reducible (first | refine Q1 ?_ | refine Q2 ?_ | refine Q3 ?_ | refine Q4 ?_ | refine Q5 ?_ | refine Q6 ?_ | refine Q7 ?_ | refine Q8 ?_ | refine Q9 ?_ | refine Qa ?_ | refine Qb ?_ | refine Qc ?_ | refine Qd ?_ | refine Qe ?_ | refine Qf ?_) | ((with_reducible refine Qo ?_ ?_); focus rfl) | ((with_reducible first | refine QT 6 (l := ?_) ?_ ?_ | refine QF 6 (l := ?_) ?_ ?_); rotate_left 1; focus (simp only [Zu, Nat.reduceSub, Nat.reduceBEq]; with_reducible rfl)) | ((with_reducible first | refine QS (cfg_ok 41) TOwn (s' := ?_) ?_ ?_ | refine QC (b := ?_) ?_ ?_); rotate_left 1; focus ((with_reducible refine QW ?_); simp only [Zg, Nat.reduceEqDiff, Nat.reduceLT, Nat.reduceLeDiff, reduceIte, if_true, if_false, reduceCtorEq, Nat.reduceAdd, Nat.reduceMul, Nat.reduceSub, Nat.reduceBEq, Nat.reduceBNe, Int.reduceLE, Int.reduceLT, Int.reduceNeg, Int.reduceAdd, Int.reduceSub, Int.reduceMul, Int.reduceToNat, Int.reduceEq, ite_true, ite_false, TOwn, TOwn, i1, i2, hg, hnb, hzz, hw, j1, q1, q2, hlt, Int.toNat_natCast, List.length_map]; with_reducible rfl)) | ((with_reducible refine QD (cfg_ok 41) TOwn mixed_ok (tr := ?_) (s' := ?_) ?_ ?_ ?_); rotate_left 2; (focus ((with_reducible refine QW ?_); simp only [Zg, Zd, Nat.reduceEqDiff, Nat.reduceLT, Nat.reduceLeDiff, reduceIte, if_true, if_false, reduceCtorEq, Nat.reduceAdd, Nat.reduceMul, Nat.reduceSub, Nat.reduceBEq, Nat.reduceBNe, Int.reduceLE, Int.reduceLT, Int.reduceNeg, Int.reduceAdd, Int.reduceSub, Int.reduceMul, Int.reduceToNat, Int.reduceEq, ite_true, ite_false, TOwn, TOwn, i1, i2, hg, hnb, hzz, hw, j1, q1, q2, hlt, Int.toNat_natCast, List.length_map]; with_reducible rfl)); focus ((with_reducible refine QK ?_); simp only [Zk]; kernel_rfl)))
        refine roundK.ret ?_
        rw [hno, if_neg hno']
        repeat' (first | with_reducible (first | refine Q1 ?_ | refine Q2 ?_ | refine Q3 ?_ | refine Q4 ?_ | refine Q5 ?_ | refine Q6 ?_ | refine Q7 ?_ | refine Q8 ?_ | refine Q9 ?_ | refine Qa ?_ | refine Qb ?_ | refine Qc ?_ | refine Qd ?_ | refine Qe ?_ | refine Qf ?_) | ((with_reducible refine Qo ?_ ?_); focus rfl) | ((with_reducible first | refine QT 6 (l := ?_) ?_ ?_ | refine QF 6 (l := ?_) ?_ ?_); rotate_left 1; focus (simp only [Zu, Nat.reduceSub, Nat.reduceBEq]; with_reducible rfl)) | ((with_reducible first | refine QS (cfg_ok 41) Tab.none (s' := ?_) ?_ ?_ | refine QC (b := ?_) ?_ ?_); rotate_left 1; focus ((with_reducible refine QW ?_); simp only [Zg, Nat.reduceEqDiff, Nat.reduceLT, Nat.reduceLeDiff, reduceIte, if_true, if_false, reduceCtorEq, Nat.reduceAdd, Nat.reduceMul, Nat.reduceSub, Nat.reduceBEq, Nat.reduceBNe, Int.reduceLE, Int.reduceLT, Int.reduceNeg, Int.reduceAdd, Int.reduceSub, Int.reduceMul, Int.reduceToNat, Int.reduceEq, ite_true, ite_false]; with_reducible rfl)) | ((with_reducible refine QD (cfg_ok 41) Tab.none mixed_ok (tr := ?_) (s' := ?_) ?_ ?_ ?_); rotate_left 2; (focus ((with_reducible refine QW ?_); simp only [Zg, Zd, Nat.reduceEqDiff, Nat.reduceLT, Nat.reduceLeDiff, reduceIte, if_true, if_false, reduceCtorEq, Nat.reduceAdd, Nat.reduceMul, Nat.reduceSub, Nat.reduceBEq, Nat.reduceBNe, Int.reduceLE, Int.reduceLT, Int.reduceNeg, Int.reduceAdd, Int.reduceSub, Int.reduceMul, Int.reduceToNat, Int.reduceEq, ite_true, ite_false]; with_reducible rfl)); focus ((with_reducible refine QK ?_); simp only [Zk]; kernel_rfl)))
        (refine Ends.mk (by simp) (rs := ?_) (ks := ?_) hres hrts ?_ ?_ ?_; rotate_left 2; (focus (simp only [Ze, Zg, Nat.reduceEqDiff, Nat.reduceLT, Nat.reduceLeDiff, reduceIte, if_true, if_false, reduceCtorEq, Nat.reduceAdd, Nat.reduceMul, Nat.reduceSub, Nat.reduceBEq, Nat.reduceBNe, Int.reduceLE, Int.reduceLT, Int.reduceNeg, Int.reduceAdd, Int.reduceSub, Int.reduceMul, Int.reduceToNat, Int.reduceEq, ite_true, ite_false, Bool.not_false]; with_reducible rfl)); (focus simp); focus (first | with_reducible rfl | (simp only [Zv, Bool.not_false]; done)))
    · have i1 : ((i : Int) < (e.length : Int)) = False := eq_false (by omega)
      obtain rfl : i = e.length := by omega
      rw [List.take_length] at h8 ⊢
      repeat' (first | with_reducible (first | refine Q1 ?_ | refine Q2 ?_ | refine Q3 ?_ | refine Q4 ?_ | refine Q5 ?_ | refine Q6 ?_ | refine Q7 ?_ | refine Q8 ?_ | refine Q9 ?_ | refine Qa ?_ | refine Qb ?_ | refine Qc ?_ | refine Qd ?_ | refine Qe ?_ | refine Qf ?_) | ((with_reducible refine Qo ?_ ?_); focus rfl) | ((with_reducible first | refine QT 6 (l := ?_) ?_ ?_ | refine QF 6 (l := ?_) ?_ ?_); rotate_left 1; focus (simp only [Zu, Nat.reduceSub, Nat.reduceBEq]; with_reducible rfl)) | ((with_reducible first | refine QS (cfg_ok 41) Tab.none (s' := ?_) ?_ ?_ | refine QC (b := ?_) ?_ ?_); rotate_left 1; focus ((with_reducible refine QW ?_); simp only [Zg, Nat.reduceEqDiff, Nat.reduceLT, Nat.reduceLeDiff, reduceIte, if_true, if_false, reduceCtorEq, Nat.reduceAdd, Nat.reduceMul, Nat.reduceSub, Nat.reduceBEq, Nat.reduceBNe, Int.reduceLE, Int.reduceLT, Int.reduceNeg, Int.reduceAdd, Int.reduceSub, Int.reduceMul, Int.reduceToNat, Int.reduceEq, ite_true, ite_false, i1, List.length_map]; with_reducible rfl)) | ((with_reducible refine QD (cfg_ok 41) Tab.none mixed_ok (tr := ?_) (s' := ?_) ?_ ?_ ?_); rotate_left 2; (focus ((with_reducible refine QW ?_); simp only [Zg, Zd, Nat.reduceEqDiff, Nat.reduceLT, Nat.reduceLeDiff, reduceIte, if_true, if_false, reduceCtorEq, Nat.reduceAdd, Nat.reduceMul, Nat.reduceSub, Nat.reduceBEq, Nat.reduceBNe, Int.reduceLE, Int.reduceLT, Int.reduceNeg, Int.reduceAdd, Int.reduceSub, Int.reduceMul, Int.reduceToNat, Int.reduceEq, ite_true, ite_false, i1, List.length_map]; with_reducible rfl)); focus ((with_reducible refine QK ?_); simp only [Zk]; kernel_rfl)))
      refine roundK.out () (decide_eq_true ⟨?_, h8⟩) ?_
      · by_cases h0 : 0 < e.length
        · exact h3 h0
        · omega
      · (repeat' (first | with_reducible refine Qn | ((with_reducible refine Qr ?_ ?_); focus (first | with_reducible rfl | (simp only [Zz, Nat.reduceBEq]; done) | rfl)) | ((with_reducible refine Qj (o' := ?_) ?_ ?_ ?_); rotate_left 1; focus rfl) | ((with_reducible refine Qw ?_ ?_); (focus (first | with_reducible rfl | (simp only [Zv]; done))); focus (first | exact id | exact (fun h => nomatch h) | exact (fun _ => rfl)))))
  · intro _ hyes
    have hyes : limB e = true := hyes
    rw [hyes, if_pos (of_decide_eq_true hyes)]
    repeat' (first | with_reducible (first | refine Q1 ?_ | refine Q2 ?_ | refine Q3 ?_ | refine Q4 ?_ | refine Q5 ?_ | refine Q6 ?_ | refine Q7 ?_ | refine Q8 ?_ | refine Q9 ?_ | refine Qa ?_ | refine Qb ?_ | refine Qc ?_ | refine Qd ?_ | refine Qe ?_ | refine Qf ?_) | ((with_reducible refine Qo ?_ ?_); focus rfl) | ((with_reducible first | refine QT 6 (l := ?_) ?_ ?_ | refine QF 6 (l := ?_) ?_ ?_); rotate_left 1; focus (simp only [Zu, Nat.reduceSub, Nat.reduceBEq]; with_reducible rfl)) | ((with_reducible first | refine QS (cfg_ok 41) Tab.none (s' := ?_) ?_ ?_ | refine QC (b := ?_) ?_ ?_); rotate_left 1; focus ((with_reducible refine QW ?_); simp only [Zg, Nat.reduceEqDiff, Nat.reduceLT, Nat.reduceLeDiff, reduceIte, if_true, if_false, reduceCtorEq, Nat.reduceAdd, Nat.reduceMul, Nat.reduceSub, Nat.reduceBEq, Nat.reduceBNe, Int.reduceLE, Int.reduceLT, Int.reduceNeg, Int.reduceAdd, Int.reduceSub, Int.reduceMul, Int.reduceToNat, Int.reduceEq, ite_true, ite_false]; with_reducible rfl)) | ((with_reducible refine QD (cfg_ok 41) Tab.none mixed_ok (tr := ?_) (s' := ?_) ?_ ?_ ?_); rotate_left 2; (focus ((with_reducible refine QW ?_); simp only [Zg, Zd, Nat.reduceEqDiff, Nat.reduceLT, Nat.reduceLeDiff, reduceIte, if_true, if_false, reduceCtorEq, Nat.reduceAdd, Nat.reduceMul, Nat.reduceSub, Nat.reduceBEq, Nat.reduceBNe, Int.reduceLE, Int.reduceLT, Int.reduceNeg, Int.reduceAdd, Int.reduceSub, Int.reduceMul, Int.reduceToNat, Int.reduceEq, ite_true, ite_false]; with_reducible rfl)); focus ((with_reducible refine QK ?_); simp only [Zk]; kernel_rfl)))
    (refine Ends.mk (by simp) (rs := ?_) (ks := ?_) hres hrts ?_ ?_ ?_; rotate_left 2; (focus (simp only [Ze, Zg, Nat.reduceEqDiff, Nat.reduceLT, Nat.reduceLeDiff, reduceIte, if_true, if_false, reduceCtorEq, Nat.reduceAdd, Nat.reduceMul, Nat.reduceSub, Nat.reduceBEq, Nat.reduceBNe, Int.reduceLE, Int.reduceLT, Int.reduceNeg, Int.reduceAdd, Int.reduceSub, Int.reduceMul, Int.reduceToNat, Int.reduceEq, ite_true, ite_false, Bool.not_true]; with_reducible rfl)); (focus simp); focus (first | with_reducible rfl | (simp only [Zv, Bool.not_true]; done)))
end Go.Proofs.YtacbkjmkjpjhoaaGreat
