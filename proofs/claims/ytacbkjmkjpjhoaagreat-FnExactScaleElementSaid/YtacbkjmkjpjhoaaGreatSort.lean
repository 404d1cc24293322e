/- Sorting by a comparison that is 0 at equals alone: what every sort of such a list returns. No program in sight. -/
import Derived.WalkKit
set_option linter.unusedSimpArgs false
set_option linter.unusedVariables false
namespace Go.Proofs.YtacbkjmkjpjhoaaGreat

/-- A comparison: negative, 0 or positive. -/
structure Cmp {α : Type} (c : α → α → Int) : Prop where
  zero : ∀ a b, c a b = 0 → a = b
  refl : ∀ a, c a a = 0
  anti : ∀ a b, c a b < 0 ↔ 0 < c b a
  trans : ∀ a b d, c a b ≤ 0 → c b d ≤ 0 → c a d ≤ 0

section
variable {α : Type} {c : α → α → Int}

/-- An element put behind all that are not greater. -/
def ins (c : α → α → Int) (x : α) : List α → List α
  | [] => [x]
  | y :: l => if c x y < 0 then x :: y :: l else y :: ins c x l

def sortC (c : α → α → Int) (l : List α) : List α := l.foldl (fun s x => ins c x s) []

theorem ins_perm (x : α) : ∀ l, (ins c x l).Perm (x :: l)
  | [] => .refl _
  | y :: l => by
    unfold ins
    split
    · exact .refl _
    · exact ((ins_perm x l).cons y).trans (List.Perm.swap x y l)

theorem ins_length (x : α) (l : List α) : (ins c x l).length = l.length + 1 := (ins_perm x l).length_eq

theorem ins_mem {x y : α} {l : List α} : y ∈ ins c x l ↔ y = x ∨ y ∈ l := by
  rw [(ins_perm x l).mem_iff, List.mem_cons]

theorem Cmp.le_of_not_lt (h : Cmp c) {a b : α} (hn : ¬ c a b < 0) : c b a ≤ 0 := by
  rw [h.anti] at hn; omega

theorem ins_sorted (h : Cmp c) (x : α) : ∀ l : List α, l.Pairwise (fun a b => c a b ≤ 0) → (ins c x l).Pairwise (fun a b => c a b ≤ 0)
  | [], _ => by simp [ins]
  | y :: l, hl => by
    rw [List.pairwise_cons] at hl
    unfold ins
    split
    · rename_i hlt
      refine List.pairwise_cons.2 ⟨fun z hz => ?_, List.pairwise_cons.2 hl⟩
      rcases List.mem_cons.1 hz with rfl | hz
      · omega
      · exact h.trans x y z (by omega) (hl.1 z hz)
    · rename_i hn
      refine List.pairwise_cons.2 ⟨fun z hz => ?_, ins_sorted h x l hl.2⟩
      rcases ins_mem.1 hz with rfl | hz
      · exact h.le_of_not_lt hn
      · exact hl.1 z hz

theorem sortC_aux (l : List α) : ∀ s : List α, (l.foldl (fun s x => ins c x s) s).Perm (s ++ l) := by
  induction l with
  | nil => intro s; simp
  | cons x l ih =>
    intro s
    refine (ih _).trans ?_
    refine ((ins_perm x s).append_right l).trans ?_
    rw [List.cons_append]
    exact (List.perm_middle (l₁ := s) (a := x) (l₂ := l)).symm

theorem sortC_perm (l : List α) : (sortC c l).Perm l := by simpa [sortC] using sortC_aux l []

theorem sortC_length (l : List α) : (sortC c l).length = l.length := (sortC_perm l).length_eq

theorem sortC_sorted (h : Cmp c) (l : List α) : (sortC c l).Pairwise (fun a b => c a b ≤ 0) := by
  have : ∀ s : List α, s.Pairwise (fun a b => c a b ≤ 0) → (l.foldl (fun s x => ins c x s) s).Pairwise (fun a b => c a b ≤ 0) := by
    induction l with
    | nil => intro s hs; exact hs
    | cons x l ih => intro s hs; exact ih _ (ins_sorted h x s hs)
  exact this [] List.Pairwise.nil

/-- Two sorted lists of the same elements are one. -/
theorem sorted_unique (h : Cmp c) : ∀ {l m : List α}, l.Perm m → l.Pairwise (fun a b => c a b ≤ 0) → m.Pairwise (fun a b => c a b ≤ 0) → l = m
  | [], m, hp, _, _ => hp.nil_eq
  | x :: l, [], hp, _, _ => by have := hp.length_eq; simp at this
  | x :: l, y :: m, hp, hl, hm => by
    rw [List.pairwise_cons] at hl hm
    have hxy : x = y := by
      have hy : y ∈ x :: l := hp.mem_iff.2 (by simp)
      have hx : x ∈ y :: m := hp.mem_iff.1 (by simp)
      rcases List.mem_cons.1 hy with e | hy
      · exact e.symm
      · rcases List.mem_cons.1 hx with e | hx
        · exact e
        · have h1 := hl.1 y hy
          have h2 := hm.1 x hx
          refine h.zero x y ?_
          have h3 := h.anti y x
          have h4 := h.anti x y
          omega
    subst hxy
    rw [sorted_unique h (List.Perm.cons_inv hp) hl.2 hm.2]

theorem sortC_unique (h : Cmp c) {l m : List α} (hp : m.Perm l) (hm : m.Pairwise (fun a b => c a b ≤ 0)) : m = sortC c l :=
  sorted_unique h (hp.trans (sortC_perm l).symm) hm (sortC_sorted h l)

theorem sortC_congr (h : Cmp c) {l m : List α} (hp : m.Perm l) : sortC c m = sortC c l :=
  sorted_unique h ((sortC_perm m).trans (hp.trans (sortC_perm l).symm)) (sortC_sorted h m) (sortC_sorted h l)

theorem sortC_of_sorted (h : Cmp c) {l : List α} (hl : l.Pairwise (fun a b => c a b ≤ 0)) : sortC c l = l := (sortC_unique h (List.Perm.refl l) hl).symm

theorem sortC_mem {l : List α} {x : α} : x ∈ sortC c l ↔ x ∈ l := (sortC_perm l).mem_iff

theorem sortC_snoc (l : List α) (x : α) : sortC c (l ++ [x]) = ins c x (sortC c l) := by simp [sortC, List.foldl_append]
end

/-- Lists of numbers: the first difference decides; a beginning comes first. -/
def cmpL : List Int → List Int → Int
  | [], [] => 0
  | [], _ :: _ => -1
  | _ :: _, [] => 1
  | a :: as, b :: bs => if a < b then -1 else if b < a then 1 else cmpL as bs

theorem cmpL_range (a b : List Int) : cmpL a b = -1 ∨ cmpL a b = 0 ∨ cmpL a b = 1 := by
  fun_induction cmpL a b <;> simp_all

theorem cmpL_neg (a b : List Int) : cmpL b a = - cmpL a b := by
  fun_induction cmpL a b with
  | case1 => rfl
  | case2 => rfl
  | case3 => rfl
  | case4 a as b bs h => simp [cmpL, h]; omega
  | case5 a as b bs h1 h2 => simp [cmpL, h2]
  | case6 a as b bs h1 h2 ih => simp [cmpL, h1, h2, ih]

theorem cmpL_zero (a b : List Int) : cmpL a b = 0 → a = b := by
  fun_induction cmpL a b with
  | case1 => simp
  | case2 => simp
  | case3 => simp
  | case4 => simp
  | case5 => simp
  | case6 a as b bs h1 h2 ih => intro h; rw [ih h]; congr 1; omega

theorem cmpL_refl (a : List Int) : cmpL a a = 0 := by
  induction a with
  | nil => rfl
  | cons a as ih => simp [cmpL, ih]

theorem cmpL_trans : ∀ a b d : List Int, cmpL a b ≤ 0 → cmpL b d ≤ 0 → cmpL a d ≤ 0
  | [], [], _, _, h => h
  | [], _ :: _, [], _, h => by simp [cmpL] at h
  | [], _ :: _, _ :: _, _, _ => by simp [cmpL]
  | _ :: _, [], _, h, _ => by simp [cmpL] at h
  | _ :: _, _ :: _, [], _, h => by simp [cmpL] at h
  | a :: as, b :: bs, d :: ds, h1, h2 => by
    simp only [cmpL] at h1 h2 ⊢
    split at h1
    · split at h2
      · rw [if_pos (by omega)]; decide
      · split at h2
        · omega
        · rw [if_pos (by omega)]; decide
    · split at h1
      · omega
      · split at h2
        · rw [if_pos (by omega)]; decide
        · split at h2
          · omega
          · rw [if_neg (by omega), if_neg (by omega)]; exact cmpL_trans as bs ds h1 h2

theorem cmpL_cmp : Cmp cmpL where
  zero := cmpL_zero
  refl := cmpL_refl
  anti a b := by rw [cmpL_neg a b]; omega
  trans := cmpL_trans

/-- The greater list first. -/
def cmpD (a b : List Int) : Int := cmpL b a

theorem cmpD_cmp : Cmp cmpD where
  zero a b h := (cmpL_zero b a h).symm
  refl := cmpL_refl
  anti a b := by unfold cmpD; rw [cmpL_neg a b]; omega
  trans a b d h1 h2 := cmpL_trans d b a h2 h1

/-- Trees: fewer nodes first, then the greater list first. -/
def cmpT (s t : List Int) : Int := if s.length = t.length then cmpL t s else (s.length : Int) - t.length

theorem cmpT_cmp : Cmp cmpT where
  zero a b h := by
    unfold cmpT at h
    split at h
    · exact (cmpL_zero b a h).symm
    · omega
  refl a := by simp [cmpT, cmpL_refl]
  anti a b := by
    unfold cmpT
    by_cases h : a.length = b.length
    · rw [if_pos h, if_pos h.symm, cmpL_neg a b]; omega
    · rw [if_neg h, if_neg (fun e => h e.symm)]; omega
  trans a b d h1 h2 := by
    unfold cmpT at *
    by_cases e1 : a.length = b.length <;> by_cases e2 : b.length = d.length
    · rw [if_pos e1] at h1; rw [if_pos e2] at h2; rw [if_pos (e1.trans e2)]
      exact cmpL_trans d b a h2 h1
    · rw [if_neg e2] at h2; rw [if_neg (by omega)]; omega
    · rw [if_neg e1] at h1; rw [if_neg (by omega)]; omega
    · rw [if_neg e1] at h1; rw [if_neg e2] at h2; rw [if_neg (by omega)]; omega

end Go.Proofs.YtacbkjmkjpjhoaaGreat
