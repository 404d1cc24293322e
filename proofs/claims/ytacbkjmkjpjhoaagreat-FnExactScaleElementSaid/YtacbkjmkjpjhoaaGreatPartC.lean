/- Lists of parts, and of counted trees: the laws' functions. -/
import Derived.Test.YtacbkjmkjpjhoaaGreatMarkF
import Derived.Test.YtacbkjmkjpjhoaaGreatReg
set_option linter.unusedSimpArgs false
set_option linter.unusedVariables false
/- Lists of structs of a number and a list: reading, writing; the laws' functions on parts. -/
namespace Go.Proofs.YtacbkjmkjpjhoaaGreat
open Go.RowKit

section
variable {β : Type} {S : Rep β} {w : World}

theorem OwnF.partAt {v : Value} {xs : List (Int × β)} {F : List Nat} (h : OwnF (RS (RP RI S)) F w [v] xs) (hS : S.k = 1) (i : Nat) (hi : i < xs.length) :
    ∃ g cap s G, v = .slice (some ⟨g, 0, none⟩) xs.length cap ∧ xs.length ≤ cap ∧ cap ≤ 9223372036854775807 ∧ g < w.heap.size ∧ w.cell? ⟨g, i * 2, none⟩ = some (.int .i64 xs[i].1) ∧ w.cell? ⟨g, i * 2 + 1, none⟩ = some s ∧ w.frozen? ⟨g, i * 2, none⟩ = false ∧
      OwnF S G w [s] xs[i].2 ∧ (∀ b, b ∈ G → b ∈ F ∧ b ≠ g) ∧
      (∀ n, In64 n → OwnF (RS (RP RI S)) F (w.setCell ⟨g, i * 2, none⟩ (.int .i64 n)) [v] (xs.set i (n, xs[i].2)) ∧ ChgF F w (w.setCell ⟨g, i * 2, none⟩ (.int .i64 n))) ∧
      (∀ (w' : World) (y : β), OwnF S G w' [s] y → ChgF G w w' → OwnF (RS (RP RI S)) F w' [v] (xs.set i (xs[i].1, y)) ∧ ChgF F w w') := by
  have hlt := h.lt
  have hnd := h.2
  have hk2 : (RP RI S).k = 2 := by show 1 + S.k = 2; omega
  obtain ⟨g, cap, d1, c, d2, F1, G0, F2, hv, hc1, hc2, rfl, hcl, hd1, hx, hrow, hK⟩ := h.lens i hi
  rw [hk2] at hd1 hrow
  have hx0 := hx
  obtain ⟨c1, c2, Ga, G, rfl, rfl, ⟨⟨rfl, hb⟩, rfl⟩, hs⟩ := hx0
  have hsl := S.rd_len (S.own_rd hs)
  rw [hS] at hsl
  match c2, hsl with
  | [s], _ =>
  simp only [List.nil_append] at *
  have hn1 := List.nodup_cons.1 hnd
  have hn2 := List.nodup_append.1 hn1.2
  have hn3 := List.nodup_append.1 hn2.2.1
  have e1 : d1 ++ ([Value.int IntKind.i64 xs[i].1] ++ [s] ++ d2) = d1 ++ (Value.int IntKind.i64 xs[i].1 :: s :: d2) := by simp
  have g1 : w.cell? ⟨g, i * 2, none⟩ = some (.int .i64 xs[i].1) := hrow.cells (i * 2) _ (by rw [e1, List.getElem?_append_right (by omega), hd1]; simp)
  have g2 : w.cell? ⟨g, i * 2 + 1, none⟩ = some s := hrow.cells (i * 2 + 1) _ (by rw [e1, List.getElem?_append_right (by omega), hd1]; simp)
  have hGF : ∀ b, b ∈ G → b ∈ g :: (F1 ++ (G ++ F2)) ∧ b ≠ g := fun b hb => ⟨by simp [hb], fun e => hn1.1 (by subst e; simp [hb])⟩
  refine ⟨g, cap, s, G, hv, hc1, hc2, hlt g (by simp), g1, g2, hrow.frozen _, ⟨hs, hn3.1⟩, hGF, ?_, ?_⟩
  · intro n hn
    obtain ⟨hst, hgr⟩ := hrow.store (i * 2) (.int .i64 n)
    have hset : (d1 ++ ([Value.int IntKind.i64 xs[i].1] ++ [s] ++ d2)).set (i * 2) (.int .i64 n) = d1 ++ ([Value.int IntKind.i64 n] ++ [s] ++ d2) := by
      rw [List.set_append_right _ _ (by omega), hd1, Nat.sub_self]; rfl
    rw [hset] at hst
    have hfr : ∀ b, b ≠ g → (w.setCell ⟨g, i * 2, none⟩ (.int .i64 n)).heap[b]? = w.heap[b]? := fun b hb => heap_setCell_other w ⟨g, i * 2, none⟩ b _ hb
    refine ⟨hK _ [.int .i64 n, s] (n, xs[i].2) G (by rw [hk2]; rfl) ⟨[.int .i64 n], [s], [], G, rfl, rfl, ⟨⟨rfl, hn⟩, rfl⟩, S.own_frame hs (fun b hb => hfr b (hGF b hb).2)⟩ (fun b hb => hfr b ?_) (by rw [hk2]; exact hst) hnd, (ChgF.of_grown hgr).mono (fun b hb => by simp at hb; simp [hb])⟩
    intro e
    subst e
    rcases List.mem_append.1 hb with h | h
    · exact hn1.1 (by simp [h])
    · exact hn1.1 (by simp [h])
  · intro w' y hy hch
    have hfr : ∀ b, b ∈ F1 ++ F2 → w'.heap[b]? = w.heap[b]? := by
      intro b hm
      refine hch.block b (hlt b ?_) ?_
      · rcases List.mem_append.1 hm with hm | hm
        · simp [hm]
        · simp [hm]
      · intro hG
        rcases List.mem_append.1 hm with hm | hm
        · exact hn2.2.2 b hm b (by simp [hG]) rfl
        · exact hn3.2.2 b hG b hm rfl
    have hrow' : Row w' v 2 xs.length (d1 ++ ([Value.int IntKind.i64 xs[i].1] ++ [s] ++ d2)) (some g) := hrow.frame (fun g' hg' => by cases hg'; exact hch.block g (hlt g (by simp)) (fun e => (hGF g e).2 rfl))
    exact ⟨hK _ [.int .i64 xs[i].1, s] (xs[i].1, y) G (by rw [hk2]; rfl) ⟨[.int .i64 xs[i].1], [s], [], G, rfl, rfl, ⟨⟨rfl, hb⟩, rfl⟩, hy.1⟩ hfr (by rw [hk2]; exact hrow') hnd, hch.mono (fun b hb => (hGF b hb).1)⟩

theorem Rd.partAt {v : Value} {xs : List (Int × β)} (h : Rd (RS (RP RI S)) w [v] xs) (hS : S.k = 1) (i : Nat) (hi : i < xs.length) :
    ∃ b off cap s, v = .slice (some ⟨b, off, none⟩) xs.length cap ∧ b < w.heap.size ∧ w.cell? ⟨b, off + i * 2, none⟩ = some (.int .i64 xs[i].1) ∧ w.cell? ⟨b, off + i * 2 + 1, none⟩ = some s ∧ In64 xs[i].1 ∧ Rd S w [s] xs[i].2 := by
  have hk2 : (RP RI S).k = 2 := by show 1 + S.k = 2; omega
  obtain ⟨oa, cap, ds, h1, h2, h3, h4, h5, h6⟩ := h
  simp only [List.cons.injEq, and_true] at h1
  subst h1
  obtain ⟨c, hc, hpos⟩ := h5.get i hi
  rw [hk2] at hpos
  obtain ⟨c1, c2, rfl, ⟨rfl, hb⟩, hs⟩ := hc
  have hsl := S.rd_len hs
  rw [hS] at hsl
  match c2, hsl with
  | [s], _ =>
  rcases h6 with h6 | ⟨b, off, rfl, hbl, hcell⟩
  · have := h5.len
    rw [h6, hk2] at this
    simp at this
    omega
  · refine ⟨b, off, cap, s, rfl, hbl, hcell _ _ (hpos 0 _ rfl), (by rw [Nat.add_assoc]; exact hcell _ _ (hpos 1 _ rfl)), hb, Rd.of hs⟩
end

abbrev RPart : Rep (Int × List (List Int)) := RP RI (RS (RS RI))

/-- How many numbers parts hold; the parts with running numbers. -/
def cnt_P : List (Int × List (List Int)) → Nat
  | [] => 0
  | p :: ps => 1 + cnt_II p.2 + cnt_P ps
def mkd_P : List (Int × List (List Int)) → Int → List (Int × List (List Int))
  | [], _ => []
  | p :: ps, k => (k, mkd_II p.2 (k + 1)) :: mkd_P ps (k + 1 + cnt_II p.2)

theorem mkd_P_len : ∀ (ps : List (Int × List (List Int))) (k : Int), (mkd_P ps k).length = ps.length
  | [], _ => rfl
  | p :: ps, k => by simp [mkd_P, mkd_P_len ps]

theorem mkd_P_get : ∀ (ps : List (Int × List (List Int))) (k : Int) (i : Nat) (h : i < ps.length), (mkd_P ps k)[i]'(by rw [mkd_P_len]; exact h) = (k + cnt_P (ps.take i), mkd_II ps[i].2 (k + cnt_P (ps.take i) + 1))
  | p :: ps, k, 0, h => by simp [mkd_P, cnt_P]
  | p :: ps, k, i + 1, h => by
    simp only [mkd_P, List.getElem_cons_succ, List.take_succ_cons]
    rw [mkd_P_get ps _ i (by simpa using h)]
    simp only [cnt_P]
    have e : k + 1 + (cnt_II p.2 : Int) + (cnt_P (ps.take i) : Nat) = k + ((1 + cnt_II p.2 + cnt_P (ps.take i) : Nat) : Int) := by omega
    rw [e]

theorem cnt_P_append : ∀ (ps qs : List (Int × List (List Int))), cnt_P (ps ++ qs) = cnt_P ps + cnt_P qs
  | [], qs => by simp [cnt_P]
  | p :: ps, qs => by simp only [List.cons_append, cnt_P, cnt_P_append ps qs]; omega

theorem cnt_P_take_succ (ps : List (Int × List (List Int))) (k : Nat) (h : k < ps.length) : cnt_P (ps.take (k + 1)) = cnt_P (ps.take k) + (1 + cnt_II ps[k].2) := by
  rw [List.take_succ_eq_append_getElem h, cnt_P_append]; simp [cnt_P]

theorem cnt_P_take (ps : List (Int × List (List Int))) (k : Nat) : cnt_P (ps.take k) ≤ cnt_P ps := by
  have : cnt_P (ps.take k ++ ps.drop k) = cnt_P ps := by rw [List.take_append_drop]
  rw [cnt_P_append] at this
  omega

set_option maxRecDepth 100000 in
set_option maxHeartbeats 1000000 in
theorem markF_P (v : Value) (xs : List (Int × List (List Int))) (F : List Nat) (k0 : Int) (w : World) (h : OwnF (RS RPart) F w [v] xs) (hk0 : 0 ≤ k0) (hk : k0 + cnt_P xs ≤ 4611686018427387904) :
    Calls Tryz.prog 17 #[v, .int .i64 k0] w fun e w' => e = .returned (.int .i64 (k0 + (cnt_P xs : Nat))) ∧ OwnF (RS RPart) F w' [v] (mkd_P xs k0) ∧ ChgF F w w' := by
  obtain ⟨oa, cap, rfl, m1, m2⟩ := h.rd.val
  unfold maxLen at m2
  have H0 := Lib.hid h
  clear h
  go_enter Tryz.func17, Tryz.ntmps17
  go_wp2_with fail
  go_loopw [1, 5] (fun q i wr => ∃ (k : Nat) (z : List (Int × List (List Int))), k ≤ xs.length ∧ i = .int .i64 k ∧ q = .int .i64 (k0 + (cnt_P (xs.take k) : Nat)) ∧ Hid (z = (mkd_P xs k0).take k ++ xs.drop k) ∧ Hid (OwnF (RS RPart) F wr [.slice oa xs.length cap] z ∧ ChgF F w wr)) (fun _ i _ => xs.length - (intOf i).toNat)
  case atStart => exact ⟨0, xs, Nat.zero_le _, rfl, by simp [cnt_P], Lib.hid (by simp), Lib.hid ⟨H0.out, ChgF.refl _ _⟩⟩
  case round =>
    obtain ⟨k, z, hkl, rfl, rfl, hz, hown⟩ := hrel
    clear H0
    by_cases hlt : k < xs.length
    · have hml := mkd_P_len xs k0
      have hzl : z.length = xs.length := by rw [hz.out]; simp [hml]; omega
      obtain ⟨g, cap', s, G, hv, -, -, hgl, g1, g2, hfz, hGs, hGF, hK1, hK2⟩ := hown.out.1.partAt rfl k (by omega)
      rw [hzl] at hv
      simp only [Value.slice.injEq, true_and] at hv
      obtain ⟨rfl, rfl⟩ := hv
      have hzk : z[k]'(by omega) = xs[k] := by
        simp only [hz.out]
        rw [List.getElem_append_right (by simp [hml]; omega)]
        simp [List.getElem_drop, hml]
        congr 1; omega
      have hst := cnt_P_take_succ xs k hlt
      have hle := cnt_P_take xs (k + 1)
      have hmk := mkd_P_get xs k0 k hlt
      obtain ⟨n, hn⟩ : ∃ n, n = cnt_P (xs.take k) := ⟨_, rfl⟩
      rw [← hn] at hst hmk
      rw [← hn]
      have hset : z.set k (k0 + (n : Int), mkd_II xs[k].2 (k0 + n + 1)) = (mkd_P xs k0).take (k + 1) ++ xs.drop (k + 1) := by
        rw [hz.out, List.set_append_right _ _ (by simp [hml]; omega)]
        have e : k - ((mkd_P xs k0).take k).length = 0 := by simp [hml]; omega
        rw [e, List.drop_eq_getElem_cons hlt, List.set_cons_zero, List.take_succ_eq_append_getElem (by rw [hml]; exact hlt), hmk]
        simp
      obtain ⟨f1, f2⟩ := hK1 (k0 + n) (by unfold In64; omega)
      obtain ⟨W1, hW1⟩ : ∃ W1, W1 = wr.setCell ⟨g, k * 2, none⟩ (.int .i64 (k0 + n)) := ⟨_, rfl⟩
      rw [← hW1] at f1 f2
      have hzl2 : (z.set k (k0 + (n : Int), z[k].2)).length = xs.length := by rw [List.length_set, hzl]
      obtain ⟨g', cap', s', G', hv', -, -, -, g1', g2', -, hGs', hGF', -, hK2'⟩ := f1.partAt rfl k (by omega)
      rw [hzl2] at hv'
      simp only [Value.slice.injEq, Option.some.injEq, Addr.mk.injEq, and_true, true_and] at hv'
      obtain ⟨rfl, rfl⟩ := hv'
      have hne : (⟨g, k * 2, none⟩ : Addr) ≠ ⟨g, k * 2 + 1, none⟩ := by intro h; injection h; omega
      have hss : s' = s := by
        rw [hW1, World.cell?_setCell_other _ _ _ _ hne, g2] at g2'
        exact (Option.some.inj g2').symm
      subst hss
      simp only [List.getElem_set_self, hzk] at hGs' hK2' g1 f1
      have hpf := hst
      obtain ⟨pf, hpf'⟩ : ∃ pf, pf = xs[k].2 := ⟨_, rfl⟩
      rw [← hpf'] at hset hst hGs' hK2'
      obtain ⟨os, cs, rfl, q1, q2⟩ := hGs'.rd.val
      unfold maxLen at q2
      have hmkF := markF_II _ pf G' (k0 + n + 1) W1 hGs' (by omega) (by omega)
      rw [hW1] at hmkF
      have HK2 := Lib.hid hK2'
      have HSET := Lib.hid hset
      have HST := Lib.hid hst
      have HW1 := Lib.hid hW1
      have HF2 := Lib.hid f2
      have i1 : (0 : Int) ≤ (k : Int) := by omega
      have i2 : (k : Int) < (xs.length : Int) := by omega
      obtain ⟨p1, hp1⟩ : ∃ p1, p1 = xs[k].1 := ⟨_, rfl⟩
      rw [← hp1] at g1
      have hw1 : IntKind.i64.wrap (k0 + (n : Int)) = k0 + n := IntWalk.i64_in _ (by omega)
      have hw2 : IntKind.i64.wrap (k0 + (n : Int) + 1) = k0 + n + 1 := IntWalk.i64_in _ (by omega)
      clear hK1 hK2 hK2' hset hst hmk hzk hzl hzl2 hn hpf hpf' f1 f2 hGs hGs' hGF hGF' hml g1' g2' hW1 hp1
      go_wp2_with fail
      refine hmkF.mono ?_
      rintro e w2 ⟨rfl, hr2, hc2⟩
      obtain ⟨k1, k2⟩ := HK2.out w2 (mkd_II pf (k0 + n + 1)) hr2 (by rw [HW1.out]; exact hc2)
      have HF : Hid (OwnF (RS RPart) F w2 [.slice (some ⟨g, 0, none⟩) xs.length cap] ((mkd_P xs k0).take (k + 1) ++ xs.drop (k + 1)) ∧ ChgF F w w2) := Lib.hid ⟨by rw [List.set_set] at k1; rw [HSET.out] at k1; exact k1, hown.out.2.trans (HF2.out.trans k2)⟩
      clear k1 k2 hr2 hc2 hmkF
      go_wp2_with fail
      go_roundw
      case rel => exact ⟨k + 1, _, by omega, by go_num, by rw [HST.out]; congr 1; omega, Lib.hid rfl, HF⟩
      case measure => simp [intOf] <;> omega
    · have hfin : Hid (z = mkd_P xs k0) := Lib.hid (by rw [hz.out, List.take_of_length_le (by rw [mkd_P_len]; omega), List.drop_of_length_le (by omega), List.append_nil])
      have hf2 : xs.take k = xs := List.take_of_length_le (by omega)
      rw [hf2]
      go_wp2_with fail
      go_ret
      exact ⟨rfl, hfin.out ▸ hown.out.1, hown.out.2⟩

theorem ChgF.toChg {F : List Nat} {w w' : World} {lo hi : Nat} (h : ChgF F w w') (hF : ∀ b, b ∈ F → lo ≤ b ∧ b < hi) : Chg lo hi w w' :=
  ⟨h.os, h.tape, h.output, h.size, fun k hk hne => h.block k hk (fun e => by have := hF k e; omega)⟩

theorem mark_P (v : Value) (xs : List (Int × List (List Int))) (lo hi : Nat) (k0 : Int) (w : World) (h : Own (RS RPart) lo hi w [v] xs) (hk0 : 0 ≤ k0) (hk : k0 + cnt_P xs ≤ 4611686018427387904) :
    Calls Tryz.prog 17 #[v, .int .i64 k0] w fun e w' => e = .returned (.int .i64 (k0 + (cnt_P xs : Nat))) ∧ Own (RS RPart) lo hi w' [v] (mkd_P xs k0) ∧ Chg lo hi w w' := by
  obtain ⟨F, hF, hb⟩ := OwnF.of h
  refine (markF_P v xs F k0 w hF hk0 hk).mono ?_
  rintro e w' ⟨rfl, h1, h2⟩
  exact ⟨rfl, h1.to hb, h2.toChg hb⟩

set_option maxRecDepth 100000 in
set_option maxHeartbeats 1000000 in
theorem held_P (v : Value) (xs : List (Int × List (List Int))) (k0 : Int) (w : World) (h : Rd (RS RPart) w [v] (mkd_P xs k0)) (hk0 : 0 ≤ k0) (hk : k0 + cnt_P xs ≤ 4611686018427387904) :
    Calls Tryz.prog 18 #[v, .int .i64 k0] w (RetS w (.int .i64 (k0 + (cnt_P xs : Nat)))) := by
  have hml := mkd_P_len xs k0
  have hAt := fun i hi => h.partAt (S := RS (RS RI)) rfl i hi
  obtain ⟨oa, cap, rfl, m1, m2⟩ := h.val
  unfold maxLen at m2
  have HAT := Lib.hid hAt
  obtain ⟨N, hN⟩ : ∃ N, N = (mkd_P xs k0).length := ⟨_, rfl⟩
  have hNx : N = xs.length := by rw [hN, hml]
  rw [← hN] at m1
  rw [← hN]
  have HNN := Lib.hid hN
  have HNX := Lib.hid hNx
  clear h hAt hml hN hNx
  go_enter Tryz.func18, Tryz.ntmps18
  go_wp2_with fail
  go_loopw [1, 5] (fun q i wr => ∃ (k : Nat), k ≤ N ∧ i = .int .i64 k ∧ q = .int .i64 (k0 + (cnt_P (xs.take k) : Nat)) ∧ wr = w) (fun _ i _ => N - (intOf i).toNat)
  case atStart => exact ⟨0, Nat.zero_le _, rfl, by simp [cnt_P], rfl⟩
  case round =>
    obtain ⟨k, hkl, rfl, rfl, rfl⟩ := hrel
    by_cases hlt : k < N
    · have hltm : k < (mkd_P xs k0).length := by rw [← HNN.out]; exact hlt
      have hltx : k < xs.length := by rw [← HNX.out]; exact hlt
      obtain ⟨b, off, cap', s, hv, hb, g1, g2, _, hrd⟩ := HAT.out k hltm
      rw [← HNN.out] at hv
      simp only [Value.slice.injEq, true_and] at hv
      obtain ⟨rfl, rfl⟩ := hv
      have hgt := mkd_P_get xs k0 k hltx
      rw [hgt] at g1 hrd
      have hst := cnt_P_take_succ xs k hltx
      have hle := cnt_P_take xs (k + 1)
      obtain ⟨n, hn⟩ : ∃ n, n = cnt_P (xs.take k) := ⟨_, rfl⟩
      rw [← hn] at hst g1 hrd
      rw [← hn]
      obtain ⟨pf, hpf⟩ : ∃ pf, pf = xs[k].2 := ⟨_, rfl⟩
      rw [← hpf] at hst hrd
      obtain ⟨os, cs, rfl, q1, q2⟩ := hrd.val
      have hh := held_II _ pf (k0 + n + 1) wr hrd (by omega) (by omega)
      have HST := Lib.hid hst
      have i1 : (0 : Int) ≤ (k : Int) := by omega
      have i2 : (k : Int) < (N : Int) := by omega
      have i3 : ¬ (k0 + (n : Int) + 1 + (cnt_II pf : Nat) < 0) := by omega
      have i4 : (k0 + (n : Int) != k0 + n) = false := by simp
      have hw1 : IntKind.i64.wrap (k0 + (n : Int)) = k0 + n := IntWalk.i64_in _ (by omega)
      have hw2 : IntKind.i64.wrap (k0 + (n : Int) + 1) = k0 + n + 1 := IntWalk.i64_in _ (by omega)
      obtain ⟨cf, hcf⟩ : ∃ cf, cf = cnt_II pf := ⟨_, rfl⟩
      rw [← hcf] at hh i3 HST
      clear hrd hgt hn hpf hst hcf q1
      go_wp2_with fail
      refine hh.mono ?_
      rintro e w2 ⟨rfl, rfl⟩
      go_wp2_with fail
      go_roundw
      case rel => exact ⟨k + 1, by omega, by go_num, by rw [HST.out]; congr 1; omega, (by first | rfl | trivial)⟩
      case measure => simp [intOf]; omega
    · have hf2 : xs.take k = xs := List.take_of_length_le (by rw [← HNX.out]; omega)
      rw [hf2]
      go_wp2_with fail
      go_ret
      exact ⟨rfl, rfl⟩

set_option maxRecDepth 100000 in
set_option maxHeartbeats 1000000 in
theorem eqv_Part (s1 s2 : Value) (n : Int) (f : List (List Int)) (w : World) (h1 : Rd (RS (RS RI)) w [s1] f) (h2 : Rd (RS (RS RI)) w [s2] f) :
    Calls Tryz.prog 56 #[.agg #[.int .i64 n, s1], .agg #[.int .i64 n, s2]] w (RetV w (.bool true)) := by
  obtain ⟨o1, c1, rfl, _, _⟩ := h1.val
  obtain ⟨o2, c2, rfl, _, _⟩ := h2.val
  have H1 := Lib.hid h1
  have H2 := Lib.hid h2
  have hne : (n != n) = false := by simp
  clear h1 h2
  go_enter Tryz.func56, Tryz.ntmps56
  go_wp2_with fail
  have b1 : Below w.heap.size w (w.alloc (.cells #[.int .i64 n, .slice o1 f.length c1] 54)) := (Below.refl _ _).alloc (Nat.le_refl _) _
  have b2 : Below w.heap.size w ((w.alloc (.cells #[.int .i64 n, .slice o1 f.length c1] 54)).alloc (.cells #[.int .i64 n, .slice o2 f.length c2] 54)) := b1.alloc (by simp) _
  refine (eqv_II _ _ f _ (H1.out.below b2 (Nat.le_refl _)) (H2.out.below b2 (Nat.le_refl _))).mono ?_
  rintro e w' ⟨rfl, b3⟩
  go_wp2_with fail
  go_ret
  exact ⟨rfl, b2.trans (b3.mono b2.size)⟩

set_option maxRecDepth 100000 in
set_option maxHeartbeats 1000000 in
theorem eqv_P (v1 v2 : Value) (xs : List (Int × List (List Int))) (w : World) (h1 : Rd (RS RPart) w [v1] xs) (h2 : Rd (RS RPart) w [v2] xs) :
    Calls Tryz.prog 16 #[v1, v2] w (RetV w (.bool true)) := by
  have a1 := fun i hi => h1.partAt (S := RS (RS RI)) rfl i hi
  have a2 := fun i hi => h2.partAt (S := RS (RS RI)) rfl i hi
  obtain ⟨oa, cap, rfl, m1, m2⟩ := h1.val
  obtain ⟨ob, cap2, rfl, m3, m4⟩ := h2.val
  unfold maxLen at m2 m4
  have A1 := Lib.hid a1
  have A2 := Lib.hid a2
  have hne : ((xs.length : Int) != (xs.length : Int)) = false := by simp
  have EG := Lib.hid (enters (P := Tryz.prog) (f := 56) Tryz.func56 (by kernel_rfl) rfl)
  clear h1 h2 a1 a2
  go_enter Tryz.func16, Tryz.ntmps16
  go_wp2_with fail
  go_loopw [5] (fun i wr => ∃ k : Nat, k ≤ xs.length ∧ i = .int .i64 k ∧ Below w.heap.size w wr) (fun i _ => xs.length - (intOf i).toNat)
  case atStart => exact ⟨0, Nat.zero_le _, rfl, Below.refl _ _⟩
  case round =>
    obtain ⟨k, hk, rfl, hbel⟩ := hrel
    have hsz1 := hbel.size
    by_cases hlt : k < xs.length
    · obtain ⟨b1, f1, c1, s1, hv1, hb1, g1, g2, _, r1⟩ := A1.out k hlt
      obtain ⟨b2, f2, c2, s2, hv2, hb2, g3, g4, _, r2⟩ := A2.out k hlt
      simp only [Value.slice.injEq, true_and] at hv1 hv2
      obtain ⟨rfl, rfl⟩ := hv1
      obtain ⟨rfl, rfl⟩ := hv2
      have k1 := (hbel.cell (p := ⟨b1, f1 + k * 2, none⟩) hb1).trans g1
      have k2 := (hbel.cell (p := ⟨b1, f1 + k * 2 + 1, none⟩) hb1).trans g2
      have k3 := (hbel.cell (p := ⟨b2, f2 + k * 2, none⟩) hb2).trans g3
      have k4 := (hbel.cell (p := ⟨b2, f2 + k * 2 + 1, none⟩) hb2).trans g4
      obtain ⟨n, hn⟩ : ∃ n, n = xs[k].1 := ⟨_, rfl⟩
      obtain ⟨f, hf⟩ : ∃ f, f = xs[k].2 := ⟨_, rfl⟩
      rw [← hn] at k1 k3
      rw [← hf] at r1 r2
      obtain ⟨o1, d1, rfl, _, _⟩ := r1.val
      obtain ⟨o2, d2, rfl, _, _⟩ := r2.val
      have HEQ : Hid (∀ W : World, W.heap = wr.heap → Calls Tryz.prog 56 #[.agg #[.int .i64 n, .slice o1 f.length d1], .agg #[.int .i64 n, .slice o2 f.length d2]] W (RetV W (.bool true))) := Lib.hid (fun W hW => eqv_Part _ _ n f W ((r1.below hbel (Nat.le_refl _)).of_heap hW) ((r2.below hbel (Nat.le_refl _)).of_heap hW))
      have i1 : (0 : Int) ≤ (k : Int) := by omega
      have i2 : (k : Int) < (xs.length : Int) := by omega
      clear g1 g2 g3 g4 r1 r2 hn hf
      go_wp2_with fail
      go_region_law ((refine step_call rfl 56 _ _ rfl EG.out #[.agg #[.int .i64 n, .slice o1 f.length d1], .agg #[.int .i64 n, .slice o2 f.length d2]] (by simp [Act.eval]) ?_; refine Calls.mono (HEQ.out _ (by rfl)) ?_; rintro e w2 ⟨rfl, b3⟩; have b3' : Below wr.heap.size wr w2 := ⟨b3.os, b3.tape, b3.output, b3.size, b3.block⟩; refine ⟨_, rfl, ?_⟩))
      all_goals
        have hb4 := hbel.trans (b3'.mono hsz1)
        go_wp2_with fail
        go_roundw
        case rel => exact ⟨k + 1, by omega, by go_num, hb4⟩
        case measure => simp [intOf] <;> omega
    · go_wp2_with fail
      go_ret
      exact ⟨rfl, hbel⟩
end Go.Proofs.YtacbkjmkjpjhoaaGreat

/- Lists of structs of a list and a number: reading, writing; the laws' functions on counted trees. -/
namespace Go.Proofs.YtacbkjmkjpjhoaaGreat
open Go.RowKit

section
variable {β : Type} {S : Rep β} {w : World}

theorem OwnF.ctAt {v : Value} {xs : List (β × Int)} {F : List Nat} (h : OwnF (RS (RP S RI)) F w [v] xs) (hS : S.k = 1) (i : Nat) (hi : i < xs.length) :
    ∃ g cap s G, v = .slice (some ⟨g, 0, none⟩) xs.length cap ∧ xs.length ≤ cap ∧ cap ≤ 9223372036854775807 ∧ g < w.heap.size ∧ w.cell? ⟨g, i * 2, none⟩ = some s ∧ w.cell? ⟨g, i * 2 + 1, none⟩ = some (.int .i64 xs[i].2) ∧ w.frozen? ⟨g, i * 2 + 1, none⟩ = false ∧
      OwnF S G w [s] xs[i].1 ∧ (∀ b, b ∈ G → b ∈ F ∧ b ≠ g) ∧
      (∀ n, In64 n → OwnF (RS (RP S RI)) F (w.setCell ⟨g, i * 2 + 1, none⟩ (.int .i64 n)) [v] (xs.set i (xs[i].1, n)) ∧ ChgF F w (w.setCell ⟨g, i * 2 + 1, none⟩ (.int .i64 n))) ∧
      (∀ (w' : World) (y : β), OwnF S G w' [s] y → ChgF G w w' → OwnF (RS (RP S RI)) F w' [v] (xs.set i (y, xs[i].2)) ∧ ChgF F w w') := by
  have hlt := h.lt
  have hnd := h.2
  have hk2 : (RP S RI).k = 2 := by show S.k + 1 = 2; omega
  obtain ⟨g, cap, d1, c, d2, F1, G0, F2, hv, hc1, hc2, rfl, hcl, hd1, hx, hrow, hK⟩ := h.lens i hi
  rw [hk2] at hd1 hrow
  have hx0 := hx
  obtain ⟨c1, c2, G, Gb, rfl, rfl, hs, ⟨⟨rfl, hb⟩, rfl⟩⟩ := hx0
  have hsl := S.rd_len (S.own_rd hs)
  rw [hS] at hsl
  match c1, hsl with
  | [s], _ =>
  simp only [List.append_nil] at *
  have hn1 := List.nodup_cons.1 hnd
  have hn2 := List.nodup_append.1 hn1.2
  have hn3 := List.nodup_append.1 hn2.2.1
  have e1 : d1 ++ ([s] ++ [Value.int IntKind.i64 xs[i].2] ++ d2) = d1 ++ (s :: Value.int IntKind.i64 xs[i].2 :: d2) := by simp
  have g1 : w.cell? ⟨g, i * 2, none⟩ = some s := hrow.cells (i * 2) _ (by rw [e1, List.getElem?_append_right (by omega), hd1]; simp)
  have g2 : w.cell? ⟨g, i * 2 + 1, none⟩ = some (.int .i64 xs[i].2) := hrow.cells (i * 2 + 1) _ (by rw [e1, List.getElem?_append_right (by omega), hd1]; simp)
  have hGF : ∀ b, b ∈ G → b ∈ g :: (F1 ++ (G ++ F2)) ∧ b ≠ g := fun b hb => ⟨by simp [hb], fun e => hn1.1 (by subst e; simp [hb])⟩
  refine ⟨g, cap, s, G, hv, hc1, hc2, hlt g (by simp), g1, g2, hrow.frozen _, ⟨hs, hn3.1⟩, hGF, ?_, ?_⟩
  · intro n hn
    obtain ⟨hst, hgr⟩ := hrow.store (i * 2 + 1) (.int .i64 n)
    have hset : (d1 ++ ([s] ++ [Value.int IntKind.i64 xs[i].2] ++ d2)).set (i * 2 + 1) (.int .i64 n) = d1 ++ ([s] ++ [Value.int IntKind.i64 n] ++ d2) := by
      rw [List.set_append_right _ _ (by omega), hd1, Nat.add_sub_cancel_left]; rfl
    rw [hset] at hst
    have hfr : ∀ b, b ≠ g → (w.setCell ⟨g, i * 2 + 1, none⟩ (.int .i64 n)).heap[b]? = w.heap[b]? := fun b hb => heap_setCell_other w ⟨g, i * 2 + 1, none⟩ b _ hb
    refine ⟨hK _ [s, .int .i64 n] (xs[i].1, n) G (by rw [hk2]; rfl) ⟨[s], [.int .i64 n], G, [], rfl, by simp, S.own_frame hs (fun b hb => hfr b (hGF b hb).2), ⟨⟨rfl, hn⟩, rfl⟩⟩ (fun b hb => hfr b ?_) (by rw [hk2]; exact hst) hnd, (ChgF.of_grown hgr).mono (fun b hb => by simp at hb; simp [hb])⟩
    intro e
    subst e
    rcases List.mem_append.1 hb with h | h
    · exact hn1.1 (by simp [h])
    · exact hn1.1 (by simp [h])
  · intro w' y hy hch
    have hfr : ∀ b, b ∈ F1 ++ F2 → w'.heap[b]? = w.heap[b]? := by
      intro b hm
      refine hch.block b (hlt b ?_) ?_
      · rcases List.mem_append.1 hm with hm | hm
        · simp [hm]
        · simp [hm]
      · intro hG
        rcases List.mem_append.1 hm with hm | hm
        · exact hn2.2.2 b hm b (by simp [hG]) rfl
        · exact hn3.2.2 b hG b hm rfl
    have hrow' : Row w' v 2 xs.length (d1 ++ ([s] ++ [Value.int IntKind.i64 xs[i].2] ++ d2)) (some g) := hrow.frame (fun g' hg' => by cases hg'; exact hch.block g (hlt g (by simp)) (fun e => (hGF g e).2 rfl))
    exact ⟨hK _ [s, .int .i64 xs[i].2] (y, xs[i].2) G (by rw [hk2]; rfl) ⟨[s], [.int .i64 xs[i].2], G, [], rfl, by simp, hy.1, ⟨⟨rfl, hb⟩, rfl⟩⟩ hfr (by rw [hk2]; exact hrow') hnd, hch.mono (fun b hb => (hGF b hb).1)⟩

theorem Rd.ctAt {v : Value} {xs : List (β × Int)} (h : Rd (RS (RP S RI)) w [v] xs) (hS : S.k = 1) (i : Nat) (hi : i < xs.length) :
    ∃ b off cap s, v = .slice (some ⟨b, off, none⟩) xs.length cap ∧ b < w.heap.size ∧ w.cell? ⟨b, off + i * 2, none⟩ = some s ∧ w.cell? ⟨b, off + i * 2 + 1, none⟩ = some (.int .i64 xs[i].2) ∧ In64 xs[i].2 ∧ Rd S w [s] xs[i].1 := by
  have hk2 : (RP S RI).k = 2 := by show S.k + 1 = 2; omega
  obtain ⟨oa, cap, ds, h1, h2, h3, h4, h5, h6⟩ := h
  simp only [List.cons.injEq, and_true] at h1
  subst h1
  obtain ⟨c, hc, hpos⟩ := h5.get i hi
  rw [hk2] at hpos
  obtain ⟨c1, c2, rfl, hs, ⟨rfl, hb⟩⟩ := hc
  have hsl := S.rd_len hs
  rw [hS] at hsl
  match c1, hsl with
  | [s], _ =>
  rcases h6 with h6 | ⟨b, off, rfl, hbl, hcell⟩
  · have := h5.len
    rw [h6, hk2] at this
    simp at this
    omega
  · refine ⟨b, off, cap, s, rfl, hbl, hcell _ _ (hpos 0 _ rfl), (by rw [Nat.add_assoc]; exact hcell _ _ (hpos 1 _ rfl)), hb, Rd.of hs⟩
end

abbrev RCounted : Rep (List Int × Int) := RP (RS RI) RI

/-- How many numbers counted trees hold; the trees with running numbers. -/
def cnt_C : List (List Int × Int) → Nat
  | [] => 0
  | p :: ps => cnt_I p.1 + 1 + cnt_C ps
def mkd_C : List (List Int × Int) → Int → List (List Int × Int)
  | [], _ => []
  | p :: ps, k => (mkd_I p.1 k, k + cnt_I p.1) :: mkd_C ps (k + cnt_I p.1 + 1)

theorem mkd_C_len : ∀ (ps : List (List Int × Int)) (k : Int), (mkd_C ps k).length = ps.length
  | [], _ => rfl
  | p :: ps, k => by simp [mkd_C, mkd_C_len ps]

theorem mkd_C_get : ∀ (ps : List (List Int × Int)) (k : Int) (i : Nat) (h : i < ps.length), (mkd_C ps k)[i]'(by rw [mkd_C_len]; exact h) = (mkd_I ps[i].1 (k + cnt_C (ps.take i)), k + cnt_C (ps.take i) + cnt_I ps[i].1)
  | p :: ps, k, 0, h => by simp [mkd_C, cnt_C]
  | p :: ps, k, i + 1, h => by
    simp only [mkd_C, List.getElem_cons_succ, List.take_succ_cons]
    rw [mkd_C_get ps _ i (by simpa using h)]
    simp only [cnt_C]
    have e : k + (cnt_I p.1 : Int) + 1 + (cnt_C (ps.take i) : Nat) = k + ((cnt_I p.1 + 1 + cnt_C (ps.take i) : Nat) : Int) := by omega
    rw [e]

theorem cnt_C_append : ∀ (ps qs : List (List Int × Int)), cnt_C (ps ++ qs) = cnt_C ps + cnt_C qs
  | [], qs => by simp [cnt_C]
  | p :: ps, qs => by simp only [List.cons_append, cnt_C, cnt_C_append ps qs]; omega

theorem cnt_C_take_succ (ps : List (List Int × Int)) (k : Nat) (h : k < ps.length) : cnt_C (ps.take (k + 1)) = cnt_C (ps.take k) + (cnt_I ps[k].1 + 1) := by
  rw [List.take_succ_eq_append_getElem h, cnt_C_append]; simp [cnt_C]

theorem cnt_C_take (ps : List (List Int × Int)) (k : Nat) : cnt_C (ps.take k) ≤ cnt_C ps := by
  have : cnt_C (ps.take k ++ ps.drop k) = cnt_C ps := by rw [List.take_append_drop]
  rw [cnt_C_append] at this
  omega




end Go.Proofs.YtacbkjmkjpjhoaaGreat
