/- Level lists: the tests, and what is said of them. -/
import Derived.Test.YtacbkjmkjpjhoaaGreatNum
set_option linter.unusedSimpArgs false
set_option linter.unusedVariables false
namespace Go.Proofs.YtacbkjmkjpjhoaaGreat
open Go.RowKit

/-- A list of levels, of any length. -/
def LevP (t : List Int) : Prop := t.getD 0 1 = 0 ∧ ∀ i, i < t.length → i + 1 < t.length → 1 ≤ t.getD (i + 1) 0 ∧ t.getD (i + 1) 0 ≤ t.getD i 0 + 1
instance (t : List Int) : Decidable (LevP t) := inferInstanceAs (Decidable (_ ∧ _))
def levB (t : List Int) : Bool := decide (LevP t)
/-- A level list: at most eight nodes. -/
def lev8 (t : List Int) : Bool := decide (t.length ≤ 8) && levB t

theorem LevP.pos {t : List Int} (h : LevP t) : 0 < t.length := by
  cases t with
  | nil => have := h.1; simp at this
  | cons a t => simp

theorem LevP.zero {t : List Int} (h : LevP t) (hp : 0 < t.length) : t[0] = 0 := by
  have := h.1
  simpa [hp] using this

theorem LevP.succ {t : List Int} (h : LevP t) {i : Nat} (hi : i + 1 < t.length) : 1 ≤ t[i + 1] ∧ t[i + 1] ≤ t[i]'(by omega) + 1 := by
  have := h.2 i (by omega) hi
  simpa [hi, show i < t.length by omega] using this

theorem LevP.bd {t : List Int} (h : LevP t) : ∀ i (hi : i < t.length), 0 ≤ t[i] ∧ t[i] ≤ (i : Int) := by
  intro i
  induction i with
  | zero => intro hi; rw [h.zero hi]; simp
  | succ i ih =>
    intro hi
    have h1 := h.succ hi
    have h2 := ih (by omega)
    omega

/-- Valid so far: the first k of a list. -/
def LevTo (t : List Int) (k : Nat) : Prop := (0 < k → t.getD 0 1 = 0) ∧ ∀ i, i + 1 < k → 1 ≤ t.getD (i + 1) 0 ∧ t.getD (i + 1) 0 ≤ t.getD i 0 + 1

theorem LevTo.all {t : List Int} {k : Nat} (h : LevTo t k) (h0 : 0 < t.length) (hk : t.length ≤ k) : LevP t :=
  ⟨h.1 (by omega), fun i _ h2 => h.2 i (by omega)⟩

theorem LevTo.bd {t : List Int} {k : Nat} (h : LevTo t k) : ∀ i, i < k → i < t.length → 0 ≤ t.getD i 0 ∧ t.getD i 0 ≤ (i : Int) := by
  intro i
  induction i with
  | zero =>
    intro hi hl
    have := h.1 hi
    have e : t.getD 0 0 = t.getD 0 1 := by simp [hl]
    rw [e, this]; simp
  | succ i ih =>
    intro hi hl
    have h1 := h.2 i hi
    have h2 := ih (by omega) (by omega)
    omega

set_option maxRecDepth 100000 in
set_option maxHeartbeats 1000000 in
theorem c_impl_isLevelList (v : Value) (t : List Int) (w : World) (h : Rd (RS RI) w [v] t) :
    Calls Tryz.prog 137 #[v] w (RetS w (.bool (levB t))) := by
  obtain ⟨oa, c1, I1⟩ := h.ints
  obtain rfl := I1.val
  have m1 := I1.le; have m2 := I1.capLe
  unfold maxLen at m2
  go_enter Tryz.func137, Tryz.ntmps137
  go_wp2_with fail
  go_loop [7] (fun i => ∃ k : Nat, k ≤ t.length ∧ i = .int .i64 k ∧ LevTo t k) (fun i => t.length - (intOf i).toNat)
  case atStart => exact ⟨0, Nat.zero_le _, rfl, fun h => absurd h (Nat.lt_irrefl _), fun i h => by omega⟩
  case round =>
    obtain ⟨k, hk, rfl, hlev⟩ := hrel
    by_cases hlt : k < t.length
    · obtain ⟨b, off, rfl, hb, hc⟩ := I1.get hlt
      have g1 := hc k hlt
      have hx := I1.b hlt
      unfold In64 at hx
      cases k with
      | zero =>
        rw [Nat.add_zero] at g1
        by_cases hz : t[0] = 0
        · have hzb : (t[0] != 0) = false := by simp [hz]
          have Hz := Lib.hid hz
          have Hlev := Lib.hid hlev
          clear hz hlev hc
          go_wp2_with fail
          go_round
          case rel => exact ⟨1, by omega, rfl, fun _ => by simpa [hlt] using Hz.out, fun i h => by omega⟩
          case measure => simp [intOf]; omega
        · have hzb : (t[0] != 0) = true := by simp [hz]
          have Hz := Lib.hid hz
          have Hlev := Lib.hid hlev
          clear hz hlev hc
          go_wp2_with fail
          go_ret
          refine ⟨?_, rfl⟩
          have : levB t = false := by
            apply decide_eq_false
            intro hp
            exact Hz.out (hp.zero hlt)
          rw [this]; rfl
      | succ k =>
        have g2 := hc k (by omega)
        have hbd := hlev.bd k (by omega) (by omega)
        have e1 : t.getD k 0 = t[k] := by simp [show k < t.length by omega]
        have e2 : t.getD (k + 1) 0 = t[k + 1] := by simp [hlt]
        rw [e1] at hbd
        obtain ⟨q1, q2⟩ := hbd
        have q3 : IntKind.i64.wrap (t[k] + 1) = t[k] + 1 := by exact IntWalk.i64_in _ (by omega)
        have ek : (((k + 1 : Nat) : Int) == 0) = false := by simp; omega
        have ek2 : (((k + 1 : Nat) : Int) - 1) = (k : Int) := by omega
        have Hlev := Lib.hid hlev
        have H1 := Lib.hid e1
        have H2 := Lib.hid e2
        clear hlev hc e1 e2 q3
        by_cases hr : inR t[k + 1] 1 (t[k] + 1) = true
        · go_wp2_with (go_at_call 100; refine (c_impl_inRange _ _ _ _).mono ?_; rintro e w' ⟨rfl, rfl⟩)
          go_round
          case rel =>
            refine ⟨k + 1 + 1, by omega, by go_num, fun _ => Hlev.out.1 (by omega), fun i hi => ?_⟩
            by_cases hik : i + 1 < k + 1
            · exact Hlev.out.2 i hik
            · have hie : i = k := by omega
              subst hie
              rw [H1.out, H2.out]
              simpa [inR] using hr
          case measure => simp [intOf]; omega
        · have hr' : inR t[k + 1] 1 (t[k] + 1) = false := by simpa using hr
          go_wp2_with (go_at_call 100; refine (c_impl_inRange _ _ _ _).mono ?_; rintro e w' ⟨rfl, rfl⟩)
          go_ret
          refine ⟨?_, rfl⟩
          have : levB t = false := by
            apply decide_eq_false
            intro hp
            have := hp.succ hlt
            apply hr
            simp [inR]; omega
          rw [this]; rfl
    · have hke : k = t.length := by omega
      by_cases h0 : 0 < t.length
      · have hfin : levB t = true := decide_eq_true (hlev.all h0 (by omega))
        have Hf := Lib.hid hfin
        have Hlev := Lib.hid hlev
        clear hfin hlev hke
        go_wp2_with fail
        go_ret
        exact ⟨by rw [Hf.out]; first | (simp; done) | (simp; omega), rfl⟩
      · have ht : t = [] := List.eq_nil_of_length_eq_zero (by omega)
        have hfin : levB t = false := by rw [ht]; rfl
        have Hf := Lib.hid hfin
        have Hlev := Lib.hid hlev
        have h0' : t.length = 0 := by omega
        clear hfin hlev hke ht
        go_wp2_with fail
        go_ret
        exact ⟨by rw [Hf.out]; first | (simp; done) | (simp; omega), rfl⟩

set_option maxRecDepth 100000 in
set_option maxHeartbeats 400000 in
theorem c_impl_IsLevels (v : Value) (t : List Int) (w : World) (h : Rd (RS RI) w [v] t) :
    Calls Tryz.prog 89 #[v] w (RetS w (.bool (lev8 t))) := by
  obtain ⟨oa, c1, I1⟩ := h.ints
  obtain rfl := I1.val
  have m1 := I1.le; have m2 := I1.capLe
  unfold maxLen at m2
  unfold lev8
  by_cases hl : t.length ≤ 8
  · go_enter Tryz.func89, Tryz.ntmps89
    go_wp2_with (go_at_call 137; refine (c_impl_isLevelList _ t _ h).mono ?_; rintro e w' ⟨rfl, rfl⟩)
    go_ret
    exact ⟨by simp [hl], rfl⟩
  · go_enter Tryz.func89, Tryz.ntmps89
    go_wp2_with fail
    go_ret
    exact ⟨by simp, rfl⟩

/-- Valid so far, as the reference tests it: with Go's own sums. -/
def LevW (t : List Int) (k : Nat) : Prop := ∀ i, i + 1 < k → inR (t.getD (i + 1) 0) 1 (IntKind.i64.wrap (t.getD i 0 + 1)) = true

theorem LevW.lev {t : List Int} {k : Nat} (h : LevW t k) (h0 : t.getD 0 1 = 0) (hl : t.length < 1000000000000000) (hk : k ≤ t.length) : LevTo t k := by
  refine ⟨fun _ => h0, ?_⟩
  have key : ∀ j, j ≤ k → LevTo t j := by
    intro j
    induction j with
    | zero => intro _; exact ⟨fun h => absurd h (Nat.lt_irrefl _), fun i hi => by omega⟩
    | succ j ih =>
      intro hj
      have hp := ih (by omega)
      refine ⟨fun _ => h0, fun i hi => ?_⟩
      by_cases hij : i + 1 < j
      · exact hp.2 i hij
      · have hie : i + 1 = j := by omega
        have hb := hp.bd i (by omega) (by omega)
        have hw := h i (by omega)
        have e : IntKind.i64.wrap (t.getD i 0 + 1) = t.getD i 0 + 1 := IntWalk.i64_in _ (by omega)
        rw [e] at hw
        simpa [inR] using hw
  exact (key k (Nat.le_refl _)).2

theorem LevP.w {t : List Int} (h : LevP t) (hl : t.length < 1000000000000000) {i : Nat} (hi : i + 1 < t.length) : inR (t.getD (i + 1) 0) 1 (IntKind.i64.wrap (t.getD i 0 + 1)) = true := by
  have h1 := h.2 i (by omega) hi
  have h2 := h.bd i (by omega)
  have e0 : t.getD i 0 = t[i]'(by omega) := by simp [show i < t.length by omega]
  have e : IntKind.i64.wrap (t.getD i 0 + 1) = t.getD i 0 + 1 := IntWalk.i64_in _ (by rw [e0]; omega)
  rw [e]; simpa [inR] using h1

set_option maxRecDepth 100000 in
set_option maxHeartbeats 1000000 in
theorem c_spec_l03Is (v : Value) (t : List Int) (w : World) (h : Rd (RS RI) w [v] t) (hsz : t.length < 1000000000000000) :
    Calls Tryz.prog 186 #[v] w (RetQ w (.bool (lev8 t))) := by
  obtain ⟨oa, c1, I1⟩ := h.ints
  obtain rfl := I1.val
  have m1 := I1.le; have m2 := I1.capLe
  unfold maxLen at m2
  go_enter Tryz.func186, Tryz.ntmps186
  go_wp2_with fail
  go_loopw [3] (fun i wr => ∃ k : Nat, i = .int .i64 (k + 1) ∧ (k + 1 ≤ t.length ∨ k = 0) ∧ LevW t (k + 1) ∧ ∃ n, wr = w.drewN n) (fun i _ => t.length + 1 - (intOf i).toNat)
  case atStart => exact ⟨0, by simp, .inr rfl, fun i hi => by omega, 0, rfl⟩
  case round =>
    obtain ⟨k, rfl, hk, hlev, n, rfl⟩ := hrel
    have Hlev := Lib.hid hlev
    have Hk := Lib.hid hk
    clear hlev hk
    by_cases hlt : k + 1 < t.length
    · obtain ⟨b, off, rfl, hb, hc⟩ := I1.get hlt
      have g1 := hc (k + 1) hlt
      have g2 := hc k (by omega)
      have e1 : t.getD k 0 = t[k] := by simp [show k < t.length by omega]
      have e2 : t.getD (k + 1) 0 = t[k + 1] := by simp [hlt]
      have H1 := Lib.hid e1
      have H2 := Lib.hid e2
      have hx1 := I1.b (k := k) (by omega)
      have hi1 : (0 : Int) ≤ (k : Int) + 1 := by omega
      have hi2 : (k : Int) + 1 < (t.length : Int) := by omega
      have hi3 : IntKind.i64.wrap (k : Int) = (k : Int) := IntWalk.i64_in _ (by omega)
      have hi4 : ((k : Int) + 1).toNat = k + 1 := by omega
      have hi5 : (k : Int) < (t.length : Int) := by omega
      clear hc e1 e2
      obtain ⟨g, hg⟩ : ∃ g, IntKind.i64.wrap (t[k] + 1) = g := ⟨_, rfl⟩
      have Hg := Lib.hid hg
      cases hr : inR t[k + 1] 1 g
      · go_wp2_with fail
        go_quiet ((go_at_call 49; exact Calls.qS' (c_spec_l01In _ _ _ _)))
        go_wp2_with fail
        go_ret
        refine ⟨?_, (by first | exact drewN1 _ _ | exact drewN2 _ _ _)⟩
        have : lev8 t = false := by
          unfold lev8
          rw [Bool.and_eq_false_iff]
          right
          apply decide_eq_false
          intro hp
          have h5 := hp.w (by omega) hlt
          rw [H1.out, H2.out, Hg.out, hr] at h5
          cases h5
        rw [this]; rfl
      · go_wp2_with fail
        go_quiet ((go_at_call 49; exact Calls.qS' (c_spec_l01In _ _ _ _)))
        go_wp2_with fail
        go_roundw
        case rel =>
          refine ⟨k + 1, by go_num, by omega, fun i hi => ?_, (by first | exact drewN1 _ _ | exact drewN2 _ _ _)⟩
          by_cases hik : i + 1 < k + 1
          · exact Hlev.out i hik
          · have hie : i = k := by omega
            subst hie
            rw [H1.out, H2.out, Hg.out]; exact hr
        case measure => simp [intOf]; omega
    · by_cases h0 : 0 < t.length
      · have hkk : k + 1 = t.length := by rcases Hk.out with h | h <;> omega
        obtain ⟨b, off, rfl, hb, hc⟩ := I1.get h0
        have g1 := hc 0 h0
        rw [Nat.add_zero] at g1
        have Hkk := Lib.hid hkk
        clear hc hkk
        by_cases h8 : t.length ≤ 8
        · by_cases hz : t[0] = 0
          · have hzb : (t[0] == 0) = true := by simp [hz]
            have e0 : t.getD 0 1 = 0 := by simp [h0, hz]
            have hl : levB t = true := decide_eq_true ((Hlev.out.lev e0 (by omega) (by rw [Hkk.out]; exact Nat.le_refl _)).all h0 (by rw [Hkk.out]; exact Nat.le_refl _))
            have Hl := Lib.hid hl
            clear hz hl e0
            go_wp2_with fail
            go_ret
            exact ⟨by unfold lev8; rw [Hl.out]; simp [h8], (by first | exact drewN1 _ _ | exact drewN2 _ _ _)⟩
          · have hzb : (t[0] == 0) = false := by simp [hz]
            have hl : levB t = false := decide_eq_false (fun hp => hz (hp.zero h0))
            have Hl := Lib.hid hl
            clear hz hl
            go_wp2_with fail
            go_ret
            exact ⟨by unfold lev8; rw [Hl.out]; simp, (by first | exact drewN1 _ _ | exact drewN2 _ _ _)⟩
        · go_wp2_with fail
          go_ret
          exact ⟨by unfold lev8; simp [h8], (by first | exact drewN1 _ _ | exact drewN2 _ _ _)⟩
      · have ht : t = [] := List.eq_nil_of_length_eq_zero (by omega)
        have Ht := Lib.hid ht
        have h0' : t.length = 0 := by omega
        clear ht
        go_wp2_with fail
        go_ret
        exact ⟨by rw [Ht.out]; rfl, (by first | exact drewN1 _ _ | exact drewN2 _ _ _)⟩
end Go.Proofs.YtacbkjmkjpjhoaaGreat
