/- The order of forests; plain. -/
import Derived.Test.YtdjkmjifeekimaaSort
import Derived.Test.YtdjkmjifeekimaaCanon
set_option linter.unusedSimpArgs false
set_option linter.unusedVariables false
namespace Go.Proofs.Ytdjkmjifeekimaa

/-- First by a number, then by c. -/
def thenC {α : Type} (f : α → Int) (c : α → α → Int) (a b : α) : Int := if f a = f b then c a b else f a - f b
/-- Lists by their elements, one after the other. -/
def lexC {α : Type} (c : α → α → Int) : List α → List α → Int
  | [], [] => 0
  | [], _ :: _ => -1
  | _ :: _, [] => 1
  | a :: xs, b :: bs => if c a b = 0 then lexC c xs bs else c a b

theorem thenC_cmp {α : Type} {f : α → Int} {c : α → α → Int} (h : Cmp c) : Cmp (thenC f c) where
  zero a b e := by
    unfold thenC at e
    split at e
    · exact h.zero a b e
    · omega
  refl a := by unfold thenC; rw [if_pos rfl]; exact h.refl a
  anti a b := by
    unfold thenC
    by_cases e : f a = f b
    · rw [if_pos e, if_pos e.symm]; exact h.anti a b
    · rw [if_neg e, if_neg (fun k => e k.symm)]; omega
  trans a b d h1 h2 := by
    unfold thenC at h1 h2 ⊢
    split at h1 <;> split at h2 <;> split <;> first | omega | (exact h.trans a b d h1 h2)

theorem Cmp.sym0 {α : Type} {c : α → α → Int} (h : Cmp c) {a b : α} (e : c a b = 0) : c b a = 0 := by rw [h.zero a b e]; exact h.refl b
theorem lexC_cmp {α : Type} {c : α → α → Int} (h : Cmp c) : Cmp (lexC c) where
  zero := by
    intro a
    induction a with
    | nil => intro b e; cases b with
      | nil => rfl
      | cons y bs => simp [lexC] at e
    | cons x xs ih => intro b e; cases b with
      | nil => simp [lexC] at e
      | cons y bs =>
        unfold lexC at e
        split at e
        · rename_i h1; rw [h.zero x y h1, ih bs e]
        · rename_i h1; exact absurd e h1
  refl := by
    intro a
    induction a with
    | nil => rfl
    | cons x xs ih => unfold lexC; rw [if_pos (h.refl x)]; exact ih
  anti := by
    intro a
    induction a with
    | nil => intro b; cases b <;> simp [lexC]
    | cons x xs ih => intro b; cases b with
      | nil => simp [lexC]
      | cons y bs =>
        unfold lexC
        by_cases e : c x y = 0
        · rw [if_pos e, if_pos (h.sym0 e)]; exact ih bs
        · rw [if_neg e, if_neg (fun k => e (h.sym0 k))]; exact h.anti x y
  trans := by
    intro a
    induction a with
    | nil => intro b d _ h2; cases d with
      | nil => simp [lexC]
      | cons z ds => simp [lexC]
    | cons x xs ih => intro b d h1 h2; cases b with
      | nil => simp [lexC] at h1
      | cons y bs => cases d with
        | nil => simp [lexC] at h2
        | cons z ds =>
          unfold lexC at h1 h2 ⊢
          have l1 : c x y ≤ 0 := by split at h1 <;> omega
          have l2 : c y z ≤ 0 := by split at h2 <;> omega
          have l3 := h.trans x y z l1 l2
          by_cases e : c x z = 0
          · rw [if_pos e]
            obtain rfl := h.zero x z e
            have e1 : c x y = 0 := by
              rcases Int.lt_trichotomy (c x y) 0 with k | k | k
              · have := (h.anti x y).1 k; omega
              · exact k
              · omega
            rw [if_pos e1] at h1
            rw [if_pos (h.sym0 e1)] at h2
            exact ih bs ds h1 h2
          · rw [if_neg e]; exact l3

/-- compareForests. -/
def cmpF : List (List Int) → List (List Int) → Int := thenC (fun f => (sumLen f : Int)) (thenC (fun f => (f.length : Int)) (lexC cmpT))
theorem cmpF_cmp : Cmp cmpF := thenC_cmp (thenC_cmp (lexC_cmp cmpT_cmp))
/-- Its sign. -/
def sgn (n : Int) : Int := if n < 0 then -1 else if n = 0 then 0 else 1
end Go.Proofs.Ytdjkmjifeekimaa
