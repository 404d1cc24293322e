/- Arguments that are lists of parts: their sizes, their copies; how they are read. -/
import Derived.Test.YtacbkjmkjpjhoaaGreatPartC
import Derived.Test.YtacbkjmkjpjhoaaGreatMa
import Derived.Test.YtacbkjmkjpjhoaaGreatII
import Derived.Test.YtacbkjmkjpjhoaaGreatLists
set_option linter.unusedSimpArgs false
set_option linter.unusedVariables false
namespace Go.Proofs.YtacbkjmkjpjhoaaGreat
open Go.RowKit

section
variable {β : Type} {S : Rep β} {w : World}
theorem Own.setPart {v : Value} {xs : List (Int × β)} {lo hi : Nat} (h : Own (RS (RP RI S)) lo hi w [v] xs) (hS : S.k = 1) (i : Nat) (hi' : i < xs.length) :
    ∃ g cap, v = .slice (some ⟨g, 0, none⟩) xs.length cap ∧ xs.length ≤ cap ∧ cap ≤ 9223372036854775807 ∧ lo ≤ g ∧ g < hi ∧ g < w.heap.size ∧
      ∀ (w1 : World) (y : Int × β) (u : Value) (M hi2 : Nat), In64 y.1 → Own S M hi2 w1 [u] y.2 → hi ≤ M → M ≤ hi2 → Below hi w w1 →
        (∃ a b, w1.cell? ⟨g, i * 2, none⟩ = some a ∧ w1.cell? ⟨g, i * 2 + 1, none⟩ = some b) ∧ w1.frozen? ⟨g, i * 2, none⟩ = false ∧ w1.frozen? ⟨g, i * 2 + 1, none⟩ = false ∧
        Own (RS (RP RI S)) lo hi2 ((w1.setCell ⟨g, i * 2, none⟩ (.int .i64 y.1)).setCell ⟨g, i * 2 + 1, none⟩ u) [v] (xs.set i y) ∧ Chg lo hi w1 ((w1.setCell ⟨g, i * 2, none⟩ (.int .i64 y.1)).setCell ⟨g, i * 2 + 1, none⟩ u) := by
  have hk2 : (RP RI S).k = 2 := by show 1 + S.k = 2; omega
  obtain ⟨og, ds, F, hrow, hel, hF, hlt⟩ := h.open
  obtain ⟨g, rfl⟩ := hrow.some_of hi'
  obtain ⟨cap, hv, hc1, hc2⟩ := hrow.slice
  obtain ⟨d1, c0, d2, F1, G, F2, rfl, rfl, hd1, hL1, hx, hL2⟩ := hel.split i hi'
  have la := (RP RI S).rd_len ((RP RI S).own_rd hx)
  rw [hk2] at la hd1
  match c0, la with
  | [a, b], _ =>
    have hg := hlt g (by simp)
    have hgs := hrow.lt g rfl
    refine ⟨g, cap, hv, hc1, by unfold maxLen at hc2; omega, hg.1, hg.2, hgs, ?_⟩
    intro w1 y u M hi2 hy1 hy hiM hM2 hbel
    obtain ⟨Gy, hGy, hGyn, hGyl⟩ := hy
    have hrow1 : Row w1 v (RP RI S).k xs.length (d1 ++ ([a, b] ++ d2)) (some g) := hrow.frame (fun g' hg' => by cases hg'; exact hbel.block g hg.2)
    obtain ⟨s1, r1⟩ := hrow1.store (i * 2) (.int .i64 y.1)
    have hset : (d1 ++ ([a, b] ++ d2)).set (i * 2) (.int .i64 y.1) = d1 ++ ([.int .i64 y.1, b] ++ d2) := by
      rw [List.set_append_right _ _ (by omega), hd1, Nat.sub_self]; rfl
    rw [hset] at s1
    obtain ⟨s2, r2⟩ := s1.store (i * 2 + 1) u
    have hset2 : (d1 ++ ([.int .i64 y.1, b] ++ d2)).set (i * 2 + 1) u = d1 ++ ([.int .i64 y.1, u] ++ d2) := by
      rw [List.set_append_right _ _ (by omega), hd1, Nat.add_sub_cancel_left]; rfl
    rw [hset2] at s2
    obtain ⟨W, hW⟩ : ∃ W, W = (w1.setCell ⟨g, i * 2, none⟩ (.int .i64 y.1)).setCell ⟨g, i * 2 + 1, none⟩ u := ⟨_, rfl⟩
    have hWh : ∀ z, z ≠ g → W.heap[z]? = w1.heap[z]? := fun z hz => by
      rw [hW, heap_setCell_other _ ⟨g, i * 2 + 1, none⟩ z u hz, heap_setCell_other _ ⟨g, i * 2, none⟩ z _ hz]
    rw [← hW] at s2 r2 ⊢
    have hne : ∀ z, z ∈ F1 ++ (G ++ F2) → z ≠ g := by
      intro z hz e; subst e
      exact (List.nodup_append.1 hF).2.2 z (by simp) z hz rfl
    have hfr : ∀ z, z ∈ F1 ++ (G ++ F2) → W.heap[z]? = w.heap[z]? := by
      intro z hz
      rw [hWh z (hne z hz)]
      exact hbel.block z (hlt z (List.mem_append_right _ hz)).2
    have hGf : ∀ z, z ∈ Gy → W.heap[z]? = w1.heap[z]? := by
      intro z hz
      have := (hGyl z hz).1
      exact hWh z (by omega)
    have hyc : (RP RI S).own W [.int .i64 y.1, u] y Gy := ⟨[.int .i64 y.1], [u], [], Gy, rfl, rfl, ⟨⟨rfl, hy1⟩, rfl⟩, S.own_frame hGy hGf⟩
    have hjoin := ownL.join (R := RP RI S) hi' (hL1.frame fun z hz => hfr z (by simp [hz])) hyc (hL2.frame fun z hz => hfr z (by simp [hz]))
    refine ⟨⟨a, b, hrow1.cells (i * 2) a (by rw [List.getElem?_append_right (by omega), hd1]; simp), hrow1.cells (i * 2 + 1) b (by rw [List.getElem?_append_right (by omega), hd1, Nat.add_sub_cancel_left]; rfl)⟩, hrow1.frozen _, hrow1.frozen _, ?_,
      (Chg.of_grown r1 (fun z hz => by cases hz; exact hg)).trans (Chg.of_grown r2 (fun z hz => by cases hz; exact hg))⟩
    refine Own.mk' (og := some g) (ds := d1 ++ ([.int .i64 y.1, u] ++ d2)) (by rw [List.length_set]; exact s2) hjoin ?_ ?_
    · have hb : (F1 ++ F2).Nodup := (List.nodup_append.1 hF).2.1.sublist (List.Sublist.append (List.Sublist.refl _) (List.sublist_append_right _ _))
      have hb1 := List.nodup_append.1 hb
      have hab : ∀ z, z ∈ Gy → z ∉ F1 ++ F2 ∧ z ≠ g := by
        intro z hz
        have h1 := (hGyl z hz).1
        refine ⟨fun hm => ?_, by omega⟩
        have := (hlt z (by
          rcases List.mem_append.1 hm with hm | hm
          · simp [hm]
          · simp [hm])).2
        omega
      simp only [Option.toList_some, List.singleton_append, List.nodup_cons]
      constructor
      · intro hm
        simp only [List.mem_append] at hm
        rcases hm with hm | hm | hm
        · exact hne g (by simp [hm]) rfl
        · exact (hab g hm).2 rfl
        · exact hne g (by simp [hm]) rfl
      · refine List.nodup_append.2 ⟨hb1.1, List.nodup_append.2 ⟨hGyn, hb1.2.1, fun z hz z' hz' e => ?_⟩, fun z hz z' hz' e => ?_⟩
        · subst e; exact (hab z hz).1 (by simp [hz'])
        · subst e
          rcases List.mem_append.1 hz' with hz' | hz'
          · exact (hab z hz').1 (by simp [hz])
          · exact hb1.2.2 z hz z hz' rfl
    · intro z hz
      simp only [List.mem_append, Option.mem_toList, Option.some.injEq] at hz
      rcases hz with hz | hz | hz | hz
      · subst hz; omega
      · have := hlt z (by simp [hz]); omega
      · have := hGyl z hz; omega
      · have := hlt z (by simp [hz]); omega
end

theorem heap3a (w : World) (a b c : Go.Obj) : (((w.alloc a).alloc b).alloc c).heap[w.heap.size + 1]? = some b := by
  rw [Go.heap_alloc_old _ _ (by simp), Go.heap_alloc2_new]
theorem heap3b (w : World) (a b c : Go.Obj) : (((w.alloc a).alloc b).alloc c).heap[w.heap.size + 1 + 1]? = some c := by
  have e : ((w.alloc a).alloc b).heap.size = w.heap.size + 1 + 1 := by simp
  rw [← e, Go.heap_alloc_new]

/-- The sizes of the forests of parts. -/
def szN : List (Int × List (List Int)) → Nat
  | [] => 0
  | p :: ps => (p.2.length + sumLen p.2) + szN ps
def szP (e : List (Int × List (List Int))) : Prop := e.length + szN e ≤ 1048576
theorem szN_mem : ∀ {e : List (Int × List (List Int))} {p : Int × List (List Int)}, p ∈ e → p.2.length + sumLen p.2 ≤ szN e
  | q :: e, p, h => by
    rcases List.mem_cons.1 h with rfl | h
    · unfold szN; omega
    · have := szN_mem h; unfold szN; omega
theorem cnt_le_szN : ∀ (e : List (Int × List (List Int))), cnt_P e ≤ e.length + szN e
  | [] => by simp [cnt_P]
  | p :: e => by
    have := cnt_le_szN e
    unfold cnt_P szN cnt_II
    simp only [List.length_cons]
    omega
theorem cntb_P (e : List (Int × List (List Int))) (h : szP e) : cnt_P e ≤ 1048576 := Nat.le_trans (cnt_le_szN e) h

theorem madeCells_parts (n : Nat) : (madeCells (Value.agg #[.int .i64 0, .slice none 0 0]).cells (n * 2)).toList = (List.replicate n [Value.int .i64 0, Value.slice none 0 0]).flatten := by
  exact madeCells_rep (z := .agg #[.int .i64 0, .slice none 0 0]) (ds := [.int 0, .sl 1 []]) ⟨rfl, rfl⟩ (by decide) n
theorem ownL_parts {w : World} : ∀ n, ownL RPart w (List.replicate n [Value.int .i64 0, Value.slice none 0 0]).flatten (List.replicate n (0, [])) []
  | 0 => ⟨rfl, rfl⟩
  | n + 1 => ⟨[.int .i64 0, .slice none 0 0], _, [], [], rfl, rfl, ⟨[.int .i64 0], [.slice none 0 0], [], [], rfl, rfl, ⟨⟨rfl, by show In64 0; unfold In64; omega⟩, rfl⟩, ⟨.slice none 0 0, none, [], [], rfl, Row.nil w 1, ⟨rfl, rfl⟩, rfl⟩⟩, ownL_parts n⟩

theorem tPartI : ST Tryz.prog 24 54 (.agg #[.int .i64 0, .slice none 0 0]) 2 32 := ST.mk' (by kernel_rfl) (by kernel_rfl) rfl (by decide)
set_option maxRecDepth 100000 in
set_option maxHeartbeats 1000000 in
theorem c_toPart (s : Value) (n : Int) (f : List (List Int)) (w : World) (h : Rd (RS (RS RI)) w [s] f) (hn : In64 n) (hsz : szII f) :
    Calls Tryz.prog 52 #[.agg #[.int .i64 n, s]] w fun e w' => ∃ u, e = .returned (.agg #[.int .i64 n, u]) ∧ Own (RS (RS RI)) w.heap.size w'.heap.size w' [u] f ∧ Below w.heap.size w w' := by
  obtain ⟨o1, c1, rfl, _, _⟩ := h.val
  have H1 := Lib.hid h
  clear h
  go_enter Tryz.func52, Tryz.ntmps52
  go_wp2_with fail
  obtain ⟨W, hW⟩ : ∃ W, W = ((w.alloc (.cells #[.int .i64 n, .slice o1 f.length c1] 65)).alloc (.cells #[.int .i64 0, .slice none 0 0] 54)).alloc (.cells #[.int .i64 n, .slice none 0 0] 54) := ⟨_, rfl⟩
  have bW : Below w.heap.size w W := by
    rw [hW]
    have b1 := (Below.refl w.heap.size w).alloc (Nat.le_refl _) (.cells #[.int .i64 n, .slice o1 f.length c1] 65)
    have b2 := b1.alloc b1.size (.cells #[.int .i64 0, .slice none 0 0] 54)
    exact b2.alloc b2.size (.cells #[.int .i64 n, .slice none 0 0] 54)
  have hsW : W.heap.size = w.heap.size + 3 := by rw [hW]; simp
  have k1 : W.heap[w.heap.size + 1]? = some (.cells #[.int .i64 0, .slice none 0 0] 54) := by rw [hW]; exact heap3a _ _ _ _
  have k2 : W.heap[w.heap.size + 1 + 1]? = some (.cells #[.int .i64 n, .slice none 0 0] 54) := by rw [hW]; exact heap3b _ _ _ _
  rw [← hW]
  refine (to_II _ f W (H1.out.below bW (Nat.le_refl _)) hsz).mono ?_
  rintro e w2 ⟨u, rfl, o2, b2⟩
  obtain ⟨o3, c3, rfl, l1, l2⟩ := o2.val
  have k1 := (b2.block (w.heap.size + 1) (by omega)).trans k1
  have k2 := (b2.block (w.heap.size + 1 + 1) (by omega)).trans k2
  have c20 : w2.cell? ⟨w.heap.size + 1 + 1, 0, none⟩ = some (.int .i64 n) := by simp [World.cell?, k2]
  have c21 : w2.cell? ⟨w.heap.size + 1 + 1, 1, none⟩ = some (.slice none 0 0) := by simp [World.cell?, k2]
  have c10 : w2.cell? ⟨w.heap.size + 1, 0, none⟩ = some (.int .i64 0) := by simp [World.cell?, k1]
  have c11 : w2.cell? ⟨w.heap.size + 1, 1, none⟩ = some (.slice none 0 0) := by simp [World.cell?, k1]
  have f20 : w2.frozen? ⟨w.heap.size + 1 + 1, 0, none⟩ = false := by simp [World.frozen?, k2]
  have f21 : w2.frozen? ⟨w.heap.size + 1 + 1, 1, none⟩ = false := by simp [World.frozen?, k2]
  have f10 : w2.frozen? ⟨w.heap.size + 1, 0, none⟩ = false := by simp [World.frozen?, k1]
  have f11 : w2.frozen? ⟨w.heap.size + 1, 1, none⟩ = false := by simp [World.frozen?, k1]
  go_wp2_with fail
  have b3 := (((bW.trans (b2.mono (by omega))).setCell (p := ⟨w.heap.size + 1 + 1, 1, none⟩) (by show w.heap.size ≤ w.heap.size + 1 + 1; omega) (.slice o3 f.length c3)).setCell (p := ⟨w.heap.size + 1, 0, none⟩) (by show w.heap.size ≤ w.heap.size + 1; omega) (.int .i64 n)).setCell (p := ⟨w.heap.size + 1, 1, none⟩) (by show w.heap.size ≤ w.heap.size + 1; omega) (.slice o3 f.length c3)
  have hfin : ∀ z, w.heap.size + 3 ≤ z → (((w2.setCell ⟨w.heap.size + 1 + 1, 1, none⟩ (.slice o3 f.length c3)).setCell ⟨w.heap.size + 1, 0, none⟩ (.int .i64 n)).setCell ⟨w.heap.size + 1, 1, none⟩ (.slice o3 f.length c3)).heap[z]? = w2.heap[z]? := fun z hz => by
    rw [heap_setCell_other _ ⟨w.heap.size + 1, 1, none⟩ z _ (by show z ≠ w.heap.size + 1; omega), heap_setCell_other _ ⟨w.heap.size + 1, 0, none⟩ z _ (by show z ≠ w.heap.size + 1; omega), heap_setCell_other _ ⟨w.heap.size + 1 + 1, 1, none⟩ z _ (by show z ≠ w.heap.size + 1 + 1; omega)]
  have o4 : Own (RS (RS RI)) w.heap.size (((w2.setCell ⟨w.heap.size + 1 + 1, 1, none⟩ (.slice o3 f.length c3)).setCell ⟨w.heap.size + 1, 0, none⟩ (.int .i64 n)).setCell ⟨w.heap.size + 1, 1, none⟩ (.slice o3 f.length c3)).heap.size (((w2.setCell ⟨w.heap.size + 1 + 1, 1, none⟩ (.slice o3 f.length c3)).setCell ⟨w.heap.size + 1, 0, none⟩ (.int .i64 n)).setCell ⟨w.heap.size + 1, 1, none⟩ (.slice o3 f.length c3)) [.slice o3 f.length c3] f := by
    obtain ⟨F, h1, h2, h3⟩ := o2
    refine ⟨F, (RS (RS RI)).own_frame h1 (fun z hz => hfin z (by have := h3 z hz; omega)), h2, fun z hz => ?_⟩
    have := h3 z hz
    have hsz3 : (((w2.setCell ⟨w.heap.size + 1 + 1, 1, none⟩ (.slice o3 f.length c3)).setCell ⟨w.heap.size + 1, 0, none⟩ (.int .i64 n)).setCell ⟨w.heap.size + 1, 1, none⟩ (.slice o3 f.length c3)).heap.size = w2.heap.size := by simp
    omega
  refine bodyPost_ret (v := .agg #[.int .i64 n, .slice o3 f.length c3]) ?_ rfl ⟨_, rfl, o4, b3⟩
  have hres : Tryz.f52.results = #[.cell 2 54] := by kernel_rfl
  clear o4 b3 hfin b2 o2 bW
  simp only [results, hres]
  go_simp

set_option maxRecDepth 100000 in
set_option maxHeartbeats 1000000 in
theorem to_P (v : Value) (xs : List (Int × List (List Int))) (w : World) (h : Rd (RS RPart) w [v] xs) (hsz : szP xs) :
    Calls Tryz.prog 14 #[v] w (RetO (RS RPart) w xs) := by
  have hat := fun i hi => h.partAt (S := RS (RS RI)) rfl i hi
  obtain ⟨oa, cap, rfl, m1, m2⟩ := h.val
  unfold maxLen at m2
  have HA := Lib.hid hat
  have hln : xs.length ≤ 1048576 := by unfold szP at hsz; omega
  have HZ := Lib.hid hsz
  clear hat h hsz
  go_enter Tryz.func14, Tryz.ntmps14
  go_wp2_with (at_make; refine wpList_makeRow rfl _ _ 24 rfl 54 (.agg #[.int .i64 0, .slice none 0 0]) 2 32 tPartI _ _ _ _ xs.length rfl rfl rfl rfl (by omega) (by unfold maxLen; omega) ?_; rintro v1 w1 hrow0 hgr0 rfl)
  rw [madeCells_parts] at hrow0
  have hb0 : Below w.heap.size w w1 := Below.of_grown hgr0 (Nat.le_refl _) (fun g hg => by cases hg)
  have HO : Hid (Own (RS RPart) w.heap.size w1.heap.size w1 [.slice (some ⟨w.heap.size, 0, none⟩) xs.length xs.length] (List.replicate xs.length (0, []))) := Lib.hid (Own.mk' (og := some w.heap.size) (F := []) (ds := (List.replicate xs.length [Value.int .i64 0, Value.slice none 0 0]).flatten) (by rw [List.length_replicate]; exact hrow0) (ownL_parts xs.length) (by simp) (fun b hb => by have := hrow0.lt w.heap.size rfl; simp at hb; omega))
  clear hrow0 hgr0
  go_wp2_with fail
  go_loopw [4] (fun i wr => ∃ (k : Nat) (z : List (Int × List (List Int))), k ≤ xs.length ∧ i = .int .i64 k ∧ Hid (z = xs.take k ++ List.replicate (xs.length - k) (0, [])) ∧ Hid (Own (RS RPart) w.heap.size wr.heap.size wr [.slice (some ⟨w.heap.size, 0, none⟩) xs.length xs.length] z) ∧ Below w.heap.size w wr) (fun i _ => xs.length - (intOf i).toNat)
  case atStart => exact ⟨0, _, Nat.zero_le _, rfl, Lib.hid (by simp), HO, hb0⟩
  case round =>
    obtain ⟨k, z, hk, rfl, hz, hown, hbel⟩ := hrel
    have hsz1 := hbel.size
    clear HO
    by_cases hlt : k < xs.length
    · obtain ⟨b, off, cap2, s, hv2, hb, g1, g2, hin, hrd⟩ := HA.out k hlt
      simp only [Value.slice.injEq, true_and] at hv2
      obtain ⟨rfl, rfl⟩ := hv2
      have g1' := (hbel.cell (p := ⟨b, off + k * 2, none⟩) hb).trans g1
      have g2' := (hbel.cell (p := ⟨b, off + k * 2 + 1, none⟩) hb).trans g2
      have hzl : z.length = xs.length := by rw [hz.out]; simp; omega
      obtain ⟨g, cap', hv, _, _, hg1, hg2, hg3, hK⟩ := hown.out.setPart (S := RS (RS RI)) rfl k (by rw [hzl]; exact hlt)
      rw [hzl] at hv
      simp only [Value.slice.injEq, Option.some.injEq, Addr.mk.injEq, and_true, true_and] at hv
      obtain ⟨rfl, rfl⟩ := hv
      have hset : z.set k xs[k] = xs.take (k + 1) ++ List.replicate (xs.length - (k + 1)) (0, []) := by
        rw [hz.out, List.set_append_right _ _ (by simp; omega)]
        have e : k - (xs.take k).length = 0 := by simp; omega
        rw [e, show xs.length - k = (xs.length - (k + 1)) + 1 by omega, List.replicate_succ, List.set_cons_zero, List.take_succ_eq_append_getElem hlt, List.append_assoc, List.singleton_append]
      have hxl : szII xs[k].2 := by
        have h1 := szN_mem (List.getElem_mem hlt)
        have h2 := HZ.out
        unfold szP at h2
        unfold szII
        omega
      have HK := Lib.hid hK
      have hto := c_toPart s xs[k].1 xs[k].2 wr (hrd.below hbel (Nat.le_refl _)) hin hxl
      obtain ⟨os, cs, rfl, l1, l2⟩ := hrd.val
      obtain ⟨x, hx⟩ : ∃ x, x = xs[k] := ⟨_, rfl⟩
      rw [← hx] at g1' g2' hset hto hin l1
      have HSET := Lib.hid hset
      have HIN := Lib.hid hin
      have HTO := Lib.hid hto
      clear g1 g2 hrd hx hset hK hto hxl hin
      go_wp2_with (go_at_call 52; refine HTO.out.mono ?_; rintro e w2 ⟨u, rfl, o2, b2⟩; obtain ⟨ou, cu, rfl, lu1, lu2⟩ := o2.val; obtain ⟨⟨a1, a2, f1, f2⟩, f3, f4, f5, f6⟩ := HK.out w2 x (.slice ou x.2.length cu) wr.heap.size w2.heap.size HIN.out o2 (Nat.le_refl _) b2.size b2; have HF := Lib.hid f5; have hb3 : Below w.heap.size w w2 := hbel.trans (b2.mono hsz1); have hb4 := (hb3.setCell (p := ⟨w.heap.size, k * 2, none⟩) (Nat.le_refl _) (.int .i64 x.1)).setCell (p := ⟨w.heap.size, k * 2 + 1, none⟩) (Nat.le_refl _) (.slice ou x.2.length cu); clear f5 f6 o2)
      go_roundw
      case rel => exact ⟨k + 1, _, by omega, by go_num, HSET, Lib.hid (HF.out.top _ (by simp)), hb4⟩
      case measure => simp [intOf]; omega
    · have hfin : Hid (z = xs) := Lib.hid (by rw [hz.out, List.take_of_length_le (by omega), show xs.length - k = 0 by omega]; simp)
      go_wp2_with fail
      go_ret
      exact ⟨_, rfl, hfin.out ▸ hown.out, hbel⟩
end Go.Proofs.YtacbkjmkjpjhoaaGreat
