/- The types of this program, for the runs on states of values; contracts taken over. -/
import Derived.Test.YtacbkjmkjpjhoaaGreatMb
import Derived.Test.YtacbkjmkjpjhoaaGreatBase
set_option linter.unusedSimpArgs false
set_option linter.unusedVariables false
namespace Go.Proofs.YtacbkjmkjpjhoaaGreat
open Go.RowKit

def slT (t : TypeId) : Option TyI :=
  if t = 48 then some ⟨2, [.int 0], 8⟩ else
  if t = 145 then some ⟨3, [.int 0], 8⟩ else
  if t = 50 then some ⟨48, [.sl 1 []], 24⟩ else
  if t = 152 then some ⟨50, [.sl 1 []], 24⟩ else
  if t = 24 then some ⟨54, [.int 0, .sl 1 []], 32⟩ else
  if t = 22 then some ⟨65, [.int 0, .sl 1 []], 32⟩ else
  if t = 119 then some ⟨24, [.sl 2 []], 24⟩ else
  if t = 35 then some ⟨52, [.int 0, .sl 1 [], .sl 1 []], 56⟩ else
  if t = 131 then some ⟨134, [.sl 1 [], .sl 1 [], .int 0], 56⟩ else
  if t = 80 then some ⟨85, [.sl 1 [], .sl 1 [], .int 0], 56⟩ else
  none

def tyT2 (t : TypeId) : Option (List D × Bool) :=
  if t = 24 then some ([.sl 2 []], false) else
  if t = 54 then some ([.int 0, .sl 1 []], true) else
  if t = 22 then some ([.sl 2 []], false) else
  if t = 119 then some ([.sl 1 []], false) else
  if t = 65 then some ([.int 0, .sl 1 []], true) else
  if t = 35 then some ([.sl 3 []], false) else
  if t = 52 then some ([.int 0, .sl 1 [], .sl 1 []], true) else
  if t = 131 then some ([.sl 3 []], false) else
  if t = 134 then some ([.sl 1 [], .sl 1 [], .int 0], true) else
  if t = 80 then some ([.sl 3 []], false) else
  if t = 85 then some ([.sl 1 [], .sl 1 [], .int 0], true) else
  none

def tyT (t : TypeId) : Option (List D × Bool) :=
  if t = 2 then some ([.int 0], false) else
  if t = 3 then some ([.int 0], false) else
  if t = 4 then some ([.bool false], false) else
  if t = 48 then some ([.sl 1 []], false) else
  if t = 145 then some ([.sl 1 []], false) else
  if t = 50 then some ([.sl 1 []], false) else
  if t = 152 then some ([.sl 1 []], false) else
  tyT2 t

def fsT (t : TypeId) : Option (List (Nat × Nat)) :=
  if t = 54 then some [(0, 1), (1, 1)] else
  if t = 65 then some [(0, 1), (1, 1)] else
  if t = 52 then some [(0, 1), (1, 1), (2, 1)] else
  if t = 134 then some [(0, 1), (1, 1), (2, 1)] else
  if t = 85 then some [(0, 1), (1, 1), (2, 1)] else
  none

/-- The program's types, for a function of n slots. -/
def cfg (n : Nat) : Cfg := ⟨n, slT, tyT, fsT, fun t => t == 2 || t == 3⟩

/-- The zero value of given cells. -/
def zvOf : Bool → List D → Value
  | true, z => .agg (z.map zval).toArray
  | false, z => zval (z.headD (.int 0))

theorem sl_ok {P : Program} {t : TypeId} {i : TyI} (h1 : P.underlying t = some (.slice i.e)) (h2 : (P.info? i.e).map (fun j => (j.zero, j.size, j.bytes)) = some (some (zvOf (decide (1 < i.z.length)) i.z), i.z.length, i.bytes))
    (h3 : (zvOf (decide (1 < i.z.length)) i.z).cells.toList = i.z.map zval) (h4 : i.z.all isZero = true) (h5 : 0 < i.z.length) : ∃ z : Value, ST P t i.e z i.z.length i.bytes ∧ ZeroOK z i.z :=
  ⟨_, ST.mk' h1 h2 (by rw [← Array.length_toList, h3, List.length_map]) h5, h3, h4⟩

theorem ty_ok {P : Program} {t : TypeId} {z : List D} {st : Bool} (h1 : (P.info? t).map (fun i => (i.zero, i.size)) = some (some (zvOf st z), z.length)) (h2 : (zvOf st z).cells.toList = z.map zval) (h3 : z.all isZero = true) (h4 : 0 < z.length)
    (h5 : (P.underlying t).map TypeDesc.isRow = some st) (h6 : st = false → z.length = 1) : ∃ zv ti d, P.info? t = some ti ∧ ti.zero = some zv ∧ ti.size = z.length ∧ ZeroOK zv z ∧ 0 < z.length ∧ P.underlying t = some d ∧ d.isRow = st ∧ (st = false → z.length = 1) := by
  obtain ⟨ti, k1, k2⟩ := map_some h1
  obtain ⟨d, k3, k4⟩ := map_some h5
  simp only [Prod.mk.injEq] at k2
  exact ⟨_, ti, d, k1, k2.1, k2.2, ⟨h2, h3⟩, h4, k3, k4, h6⟩

theorem fs_ok {P : Program} {t : TypeId} {fs : List (Nat × Nat)} (h : (match P.underlying t with | some (.struct fields) => fields.toList.mapM (fun f => (P.info? f.type).map fun i => (f.offset, i.size)) | _ => none) = some fs) (h2 : ∀ p ∈ fs, 0 < p.2) :
    ∃ fields, P.underlying t = some (.struct fields) ∧ fields.toList.mapM (fun f => (P.info? f.type).map fun i => (f.offset, i.size)) = some fs ∧ ∀ p ∈ fs, 0 < p.2 := by
  split at h
  · rename_i fields e
    exact ⟨fields, e, h, h2⟩
  · cases h

theorem i64_a : Tryz.prog.underlying 2 = some (.int .i64) := by kernel_rfl
theorem i64_b : Tryz.prog.underlying 3 = some (.int .i64) := by kernel_rfl

set_option maxHeartbeats 2000000 in
theorem cfg_ok (n : Nat) : CfgOK Tryz.prog (cfg n) where
  sl := by
    intro t i h
    have h : slT t = some i := h
    unfold slT at h
    split at h
    · rename_i e; subst e; cases h; exact sl_ok (by kernel_rfl) (by kernel_rfl) (by rfl) (by rfl) (by decide)
    split at h
    · rename_i e; subst e; cases h; exact sl_ok (by kernel_rfl) (by kernel_rfl) (by rfl) (by rfl) (by decide)
    split at h
    · rename_i e; subst e; cases h; exact sl_ok (by kernel_rfl) (by kernel_rfl) (by rfl) (by rfl) (by decide)
    split at h
    · rename_i e; subst e; cases h; exact sl_ok (by kernel_rfl) (by kernel_rfl) (by rfl) (by rfl) (by decide)
    split at h
    · rename_i e; subst e; cases h; exact sl_ok (by kernel_rfl) (by kernel_rfl) (by rfl) (by rfl) (by decide)
    split at h
    · rename_i e; subst e; cases h; exact sl_ok (by kernel_rfl) (by kernel_rfl) (by rfl) (by rfl) (by decide)
    split at h
    · rename_i e; subst e; cases h; exact sl_ok (by kernel_rfl) (by kernel_rfl) (by rfl) (by rfl) (by decide)
    split at h
    · rename_i e; subst e; cases h; exact sl_ok (by kernel_rfl) (by kernel_rfl) (by rfl) (by rfl) (by decide)
    split at h
    · rename_i e; subst e; cases h; exact sl_ok (by kernel_rfl) (by kernel_rfl) (by rfl) (by rfl) (by decide)
    split at h
    · rename_i e; subst e; cases h; exact sl_ok (by kernel_rfl) (by kernel_rfl) (by rfl) (by rfl) (by decide)
    cases h
  ty := by
    intro t z st h
    have h : tyT t = some (z, st) := h
    have h2 : ∀ {t : TypeId} {z : List D} {st : Bool}, tyT2 t = some (z, st) → ∃ zv ti d, Tryz.prog.info? t = some ti ∧ ti.zero = some zv ∧ ti.size = z.length ∧ ZeroOK zv z ∧ 0 < z.length ∧ Tryz.prog.underlying t = some d ∧ d.isRow = st ∧ (st = false → z.length = 1) := by
      intro t z st h
      unfold tyT2 at h
      repeat' split at h
      all_goals first
        | (cases h; done)
        | (rename_i e; subst e; cases h; exact ty_ok (by kernel_rfl) (by rfl) (by rfl) (by decide) (by kernel_rfl) (by decide))
    unfold tyT at h
    repeat' split at h
    all_goals first
      | (cases h; done)
      | (exact h2 h)
      | (rename_i e; subst e; cases h; exact ty_ok (by kernel_rfl) (by rfl) (by rfl) (by decide) (by kernel_rfl) (by decide))
  fs := by
    intro t fs h
    have h : fsT t = some fs := h
    unfold fsT at h
    repeat' split at h
    all_goals first
      | (cases h; done)
      | (rename_i e; subst e; cases h; exact fs_ok (by kernel_rfl) (by decide))
  i64 := by
    intro t h
    have h : (t == 2 || t == 3) = true := h
    simp only [Bool.or_eq_true, beq_iff_eq] at h
    rcases h with rfl | rfl
    · exact i64_a
    · exact i64_b

/-- Lists of numbers, and lists of such lists, as data. -/
def dL (xs : List Int) : D := .sl 1 (xs.map eI)
def dLL (xss : List (List Int)) : D := .sl 1 (xss.map fun xs => [dL xs])

theorem rd_dL {A : Nat → Prop} {w : World} {v : Value} {xs : List Int} : rdV A w v (dL xs) ↔ (RS RI).rd A w [v] xs := ((encS encI).rdV (x := xs) rfl).symm
theorem rd_dLL {A : Nat → Prop} {w : World} {v : Value} {xss : List (List Int)} : rdV A w v (dLL xss) ↔ (RS (RS RI)).rd A w [v] xss := ((encS (encS encI)).rdV (x := xss) rfl).symm
end Go.Proofs.YtacbkjmkjpjhoaaGreat
