/- ElementOf: both programs. -/
import Derived.Test.YtmeijcgclllldaaPart
import Derived.Test.YtmeijcgclllldaaForestOf
namespace Go.Proofs.Ytmeijcgclllldaa
open Go.RowKit

theorem tPart : ST Try.prog 29 63 (.agg #[.int .i64 0, .slice none 0 0]) 2 32 := ST.mk' (by kernel_rfl) (by kernel_rfl) rfl (by decide)

/-- A literal of one owned element. -/
theorem Own.litOne {α : Type} {R : Rep α} {w : World} {c : List Value} {x : α} {lo M : Nat} (h : Own R lo M w c x) (hM : M ≤ w.heap.size) (hlo : lo ≤ w.heap.size) (E : TypeId) {H : Nat} (hH : w.heap.size = H) :
    Own (RS R) lo (H + 1) (w.alloc (.cells c.toArray E)) [.slice (some ⟨H, 0, none⟩) 1 1] [x] := by
  subst hH
  obtain ⟨F, h1, h2, h3⟩ := h
  have hl := R.rd_len (R.own_rd h1)
  have hrow := Row.lit w c.toArray E R.k 1 (by decide) (by simpa using hl)
  refine ⟨w.heap.size :: F, ⟨_, some w.heap.size, c, F, rfl, by simpa using hrow, ownL.single (R.own_frame h1 (fun b hb => Below.heap_alloc w _ b (R.own_lt h1 b hb))), rfl⟩, List.nodup_cons.2 ⟨fun hm => by have := R.own_lt h1 _ hm; omega, h2⟩, fun b hb => ?_⟩
  rcases List.mem_cons.1 hb with rfl | hb
  · exact ⟨hlo, by omega⟩
  · have := h3 b hb; omega

theorem Own.pair {β : Type} {S : Rep β} {w : World} {s : List Value} {n : Int} {x : β} {lo hi : Nat} (h : Own S lo hi w s x) (hn : In64 n) : Own (RP RI S) lo hi w (.int .i64 n :: s) (n, x) :=
  let ⟨F, h1, h2, h3⟩ := h
  ⟨F, ⟨[.int .i64 n], s, [], F, rfl, rfl, ⟨⟨rfl, hn⟩, rfl⟩, h1⟩, h2, h3⟩

/-- What ElementOf returns. -/
def elOf (t : List Int) : List (Int × List (List Int)) × Int := if lev8 t = true then ([(1, [canon t])], 0) else ([], 1)
theorem elOf_ok {t : List Int} (h : lev8 t = true) : elOf t = ([(1, [canon t])], 0) := by unfold elOf; rw [if_pos h]
theorem elOf_bad {t : List Int} (h : lev8 t = false) : elOf t = ([], 1) := by unfold elOf; rw [if_neg (by simp [h])]
theorem elOf_cnt (t : List Int) : cnt_P (elOf t).1 ≤ 1048576 := by
  cases h : lev8 t
  · rw [elOf_bad h]; simp [cnt_P]
  · rw [elOf_ok h]
    have := canon_len (lev8_lev h)
    have := lev8_len h
    simp [cnt_P, cnt_II, sumLen]
    omega

set_option maxRecDepth 100000 in
set_option maxHeartbeats 1000000 in
theorem k_impl_ElementOf (v : Value) (t : List Int) (w : World) (h : Rd (RS RI) w [v] t) :
    Calls Try.prog 22 #[v] w (RetOC (RS RPart) w (elOf t).1 (elOf t).2) := by
  have hlv := c_impl_IsLevels v t w h
  cases h8 : lev8 t
  · have hr := Lib.hid (elOf_bad h8)
    rw [h8] at hlv
    go_enter Try.func22, Try.ntmps22
    go_wp2_with fail
    refine hlv.mono ?_
    rintro e w' ⟨rfl, rfl⟩
    go_wp2_with fail
    go_ret2
    exact ⟨_, by rw [hr.out]; rfl, by rw [hr.out]; exact Own.nil _ _, Below.refl _ _⟩
  · have hr := Lib.hid (elOf_ok h8)
    rw [h8] at hlv
    have hl8 := lev8_len h8
    have hcn := c_impl_canonical 13 v t w h (lev8_lev h8) (by omega) (by omega)
    clear h h8
    go_enter Try.func22, Try.ntmps22
    go_wp2_with fail
    refine hlv.mono ?_
    rintro e w' ⟨rfl, rfl⟩
    go_wp2_with fail
    refine hcn.mono ?_
    rintro e w1 ⟨u, rfl, o1, b1⟩
    obtain ⟨ou, cu, rfl, _, _⟩ := o1.val
    have s1 := b1.size
    have q1 := o1.litOne (Nat.le_refl _) s1 22 rfl
    have q2 := (q1.pair (n := 1) (by unfold In64; omega)).litOne (by simp) (by simp; omega) 63 (H := w1.heap.size + 1) (by simp)
    have c1 := b1.alloc s1 (.cells #[.slice ou (canon t).length cu] 22)
    have c2 := c1.alloc c1.size (.cells #[.int .i64 1, .slice (some ⟨w1.heap.size, 0, none⟩) 1 1] 63)
    have Q2 := Lib.hid q2
    clear q1 q2 o1 hcn hlv
    go_wp2_with fail
    go_ret2
    exact ⟨_, by rw [hr.out]; rfl, by rw [hr.out]; exact Own.top Q2.out _ (Nat.le_refl _), c2⟩

set_option maxRecDepth 100000 in
set_option maxHeartbeats 1000000 in
theorem k_spec_ElementOf (v : Value) (t : List Int) (w : World) (h : Rd (RS RI) w [v] t) (hsz : t.length ≤ 1048576) :
    Calls Try.prog 21 #[v] w (RetOC (RS RPart) w (elOf t).1 (elOf t).2) := by
  have hlv := c_spec_l03Is v t w h (by omega)
  cases h8 : lev8 t
  · have hr := Lib.hid (elOf_bad h8)
    rw [h8] at hlv
    go_enter Try.func21, Try.ntmps21
    go_wp2_with fail
    refine hlv.mono ?_
    rintro e w' ⟨rfl, nd, rfl⟩
    go_wp2_with fail
    go_ret2
    exact ⟨_, by rw [hr.out]; rfl, by rw [hr.out]; exact Own.nil _ _, Below.drewN _ _ _⟩
  · have hr := Lib.hid (elOf_ok h8)
    rw [h8] at hlv
    have hl8 := lev8_len h8
    have HCN : Hid (∀ nd : Nat, Calls Try.prog 54 #[v] (w.drewN nd) (RetO (RS RI) (w.drewN nd) (canon t))) := Lib.hid (fun nd => c_spec_l03Canon 8 _ t _ (h.of_heap rfl) (lev8_lev h8) (by omega) (by omega))
    clear h h8
    go_enter Try.func21, Try.ntmps21
    go_wp2_with fail
    refine hlv.mono ?_
    rintro e w' ⟨rfl, nd, rfl⟩
    go_wp2_with fail
    refine (HCN.out _).mono ?_
    rintro e w1 ⟨u, rfl, o1, b1⟩
    obtain ⟨ou, cu, rfl, _, _⟩ := o1.val
    have b1' : Below w.heap.size w w1 := (Below.drewN _ _ _).trans b1
    have s1 := b1'.size
    have q1 := o1.litOne (Nat.le_refl _) s1 22 rfl
    have q2 := (q1.pair (n := 1) (by unfold In64; omega)).litOne (by simp) (by simp; omega) 63 (H := w1.heap.size + 1) (by simp)
    have c1 := b1'.alloc s1 (.cells #[.slice ou (canon t).length cu] 22)
    have c2 := c1.alloc c1.size (.cells #[.int .i64 1, .slice (some ⟨w1.heap.size, 0, none⟩) 1 1] 63)
    have Q2 := Lib.hid q2
    clear q1 q2 o1 HCN hlv b1
    go_wp2_with fail
    go_ret2
    exact ⟨_, by rw [hr.out]; rfl, by rw [hr.out]; exact Own.top Q2.out _ (Nat.le_refl _), c2⟩
end Go.Proofs.Ytmeijcgclllldaa
