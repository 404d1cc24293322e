/- Lemmas (14). -/
import Derived.Test.YtkdkikmhlhcndaaZB0
import Derived.Test.YtkdkikmhlhcndaaZB2
import Derived.Test.YtkdkikmhlhcndaaZB7
import Derived.Test.YtkdkikmhlhcndaaZB9
import Derived.Test.YtkdkikmhlhcndaaZB12
set_option linter.unusedSimpArgs false
set_option linter.unusedVariables false
namespace Go.Proofs.Ytkdkikmhlhcndaa
open Go.RowKit
theorem AFn.of_v {P : Program} {f : FuncId} {ds : List (List D)} {d : D} {v : Value} (eg : ∀ args w, (callFunc f args).run P w = .ok (.enter f args) w) (hd : ∀ A w, rdV A w v d)
    (h : ∀ (w : World) (A : Nat → Prop) vs, relArgs A w ds vs → Calls P f vs.toArray w (RetV w v)) : AFn P f ds (· = [.val d]) := by
  refine ⟨eg, fun A w vs hA hv => (h w A vs hv).mono ?_⟩
  rintro e w' ⟨rfl, hb⟩
  exact ⟨v, _, rfl, rfl, hb, [v], [], [], rfl, List.nodup_nil, by simp, v, [], [], [], [], [], rfl, rfl, rfl, (hd (fun _ => True) w).one, ⟨hd _ _, rfl, rfl⟩, rfl, rfl, rfl⟩
theorem ChgF.cell {F : List Nat} {w w' : World} (h : ChgF F w w') {g off : Nat} (hg : g < w.heap.size) (hn : g ∉ F) : w'.cell? ⟨g, off, none⟩ = w.cell? ⟨g, off, none⟩ := by
  have := h.block g hg hn
  simp only [World.cell?, this]
section
variable {β γ : Type} {S : Rep β} {T : Rep γ} {w : World}
theorem OwnF.at3 {v : Value} {xs : List ((β × γ) × Int)} {F : List Nat} (h : OwnF (RS (RP (RP S T) RI)) F w [v] xs) (hS : S.k = 1) (hT : T.k = 1) (i : Nat) (hi : i < xs.length) :
    ∃ g cap s t G1 G2, v = .slice (some ⟨g, 0, none⟩) xs.length cap ∧ xs.length ≤ cap ∧ cap ≤ 9223372036854775807 ∧ g < w.heap.size ∧ w.cell? ⟨g, i * 3, none⟩ = some s ∧ w.cell? ⟨g, i * 3 + 1, none⟩ = some t ∧ w.cell? ⟨g, i * 3 + 2, none⟩ = some (.int .i64 xs[i].2) ∧ w.frozen? ⟨g, i * 3 + 2, none⟩ = false ∧
      OwnF S G1 w [s] xs[i].1.1 ∧ OwnF T G2 w [t] xs[i].1.2 ∧ (∀ b, b ∈ G1 → b ∈ F ∧ b ≠ g) ∧ (∀ b, b ∈ G2 → b ∈ F ∧ b ≠ g) ∧ (∀ b, b ∈ G1 → b ∉ G2) ∧
      (∀ (w' : World) (y : β) (z : γ), OwnF S G1 w' [s] y → OwnF T G2 w' [t] z → ChgF (G1 ++ G2) w w' → OwnF (RS (RP (RP S T) RI)) F w' [v] (xs.set i ((y, z), xs[i].2)) ∧ ChgF F w w') ∧
      (∀ n, In64 n → OwnF (RS (RP (RP S T) RI)) F (w.setCell ⟨g, i * 3 + 2, none⟩ (.int .i64 n)) [v] (xs.set i (xs[i].1, n)) ∧ ChgF F w (w.setCell ⟨g, i * 3 + 2, none⟩ (.int .i64 n))) := by
  have hlt := h.lt
  have hnd := h.2
  have hk3 : (RP (RP S T) RI).k = 3 := by show S.k + T.k + 1 = 3; omega
  obtain ⟨g, cap, d1, c, d2, F1, G0, F2, hv, hc1, hc2, rfl, hcl, hd1, hx, hrow, hK⟩ := h.lens i hi
  rw [hk3] at hd1 hrow
  have hx0 := hx
  obtain ⟨c12, c3, G12, G3, rfl, rfl, ⟨c1, c2, G1, G2, rfl, rfl, hs, ht⟩, ⟨rfl, hb⟩, rfl⟩ := hx0
  have hsl := S.rd_len (S.own_rd hs)
  have htl := T.rd_len (T.own_rd ht)
  rw [hS] at hsl
  rw [hT] at htl
  match c1, hsl, c2, htl with
  | [s], _, [t], _ =>
  simp only [List.append_nil] at *
  have hn1 := List.nodup_cons.1 hnd
  have hn2 := List.nodup_append.1 hn1.2
  have hn3 := List.nodup_append.1 hn2.2.1
  have hn4 := List.nodup_append.1 hn3.1
  have e1 : d1 ++ (([s] ++ [t] ++ [Value.int IntKind.i64 xs[i].2]) ++ d2) = d1 ++ (s :: t :: Value.int IntKind.i64 xs[i].2 :: d2) := by simp
  have g1 : w.cell? ⟨g, i * 3, none⟩ = some s := hrow.cells (i * 3) _ (by rw [e1, List.getElem?_append_right (by omega), hd1]; simp)
  have g2 : w.cell? ⟨g, i * 3 + 1, none⟩ = some t := hrow.cells (i * 3 + 1) _ (by rw [e1, List.getElem?_append_right (by omega), hd1]; simp)
  have g3 : w.cell? ⟨g, i * 3 + 2, none⟩ = some (.int .i64 xs[i].2) := hrow.cells (i * 3 + 2) _ (by rw [e1, List.getElem?_append_right (by omega), hd1]; simp)
  have hG1F : ∀ b, b ∈ G1 → b ∈ g :: (F1 ++ (G1 ++ G2 ++ F2)) ∧ b ≠ g := fun b hb => ⟨by simp [hb], fun e => hn1.1 (by subst e; simp [hb])⟩
  have hG2F : ∀ b, b ∈ G2 → b ∈ g :: (F1 ++ (G1 ++ G2 ++ F2)) ∧ b ≠ g := fun b hb => ⟨by simp [hb], fun e => hn1.1 (by subst e; simp [hb])⟩
  refine ⟨g, cap, s, t, G1, G2, hv, hc1, hc2, hlt g (by simp), g1, g2, g3, hrow.frozen _, ⟨hs, hn4.1⟩, ⟨ht, hn4.2.1⟩, hG1F, hG2F, fun b hb hb' => hn4.2.2 b hb b hb' rfl, ?_, ?_⟩
  · intro w' y z hy hz hch
    have hfr : ∀ b, b ∈ F1 ++ F2 → w'.heap[b]? = w.heap[b]? := by
      intro b hm
      refine hch.block b (hlt b ?_) ?_
      · rcases List.mem_append.1 hm with hm | hm
        · simp [hm]
        · simp [hm]
      · intro hG
        rcases List.mem_append.1 hm with hm | hm
        · exact hn2.2.2 b hm b (List.mem_append_left _ hG) rfl
        · exact hn3.2.2 b hG b hm rfl
    have hgn : g ∉ G1 ++ G2 := fun hg => by
      rcases List.mem_append.1 hg with hg | hg
      · exact (hG1F g hg).2 rfl
      · exact (hG2F g hg).2 rfl
    have hrow' : Row w' v 3 xs.length (d1 ++ (([s] ++ [t] ++ [Value.int IntKind.i64 xs[i].2]) ++ d2)) (some g) := hrow.frame (fun g' hg' => by cases hg'; exact hch.block g (hlt g (by simp)) hgn)
    refine ⟨hK _ ([s] ++ [t] ++ [.int .i64 xs[i].2]) ((y, z), xs[i].2) (G1 ++ G2) (by rw [hk3]; rfl) ⟨[s] ++ [t], [.int .i64 xs[i].2], G1 ++ G2, [], rfl, by simp, ⟨[s], [t], G1, G2, rfl, rfl, hy.1, hz.1⟩, ⟨rfl, hb⟩, rfl⟩ hfr (by rw [hk3]; exact hrow') hnd, hch.mono (fun b hb => ?_)⟩
    rcases List.mem_append.1 hb with hb | hb
    · exact (hG1F b hb).1
    · exact (hG2F b hb).1
  · intro n hn
    obtain ⟨hst, hgr⟩ := hrow.store (i * 3 + 2) (.int .i64 n)
    have hset : (d1 ++ (([s] ++ [t] ++ [Value.int IntKind.i64 xs[i].2]) ++ d2)).set (i * 3 + 2) (.int .i64 n) = d1 ++ (([s] ++ [t] ++ [Value.int IntKind.i64 n]) ++ d2) := by
      rw [List.set_append_right _ _ (by omega), hd1, Nat.add_sub_cancel_left]; rfl
    rw [hset] at hst
    have hfr : ∀ b, b ≠ g → (w.setCell ⟨g, i * 3 + 2, none⟩ (.int .i64 n)).heap[b]? = w.heap[b]? := fun b hb => heap_setCell_other w ⟨g, i * 3 + 2, none⟩ b _ hb
    refine ⟨hK _ ([s] ++ [t] ++ [.int .i64 n]) (xs[i].1, n) (G1 ++ G2) (by rw [hk3]; rfl) ⟨[s] ++ [t], [.int .i64 n], G1 ++ G2, [], rfl, by simp, ⟨[s], [t], G1, G2, rfl, rfl, S.own_frame hs (fun b hb => hfr b (hG1F b hb).2), T.own_frame ht (fun b hb => hfr b (hG2F b hb).2)⟩, ⟨rfl, hn⟩, rfl⟩ (fun b hb => hfr b ?_) (by rw [hk3]; exact hst) hnd, (ChgF.of_grown hgr).mono (fun b hb => by simp at hb; simp [hb])⟩
    intro e
    subst e
    rcases List.mem_append.1 hb with h | h
    · exact hn1.1 (by simp [h])
    · exact hn1.1 (by simp [h])
end
end Go.Proofs.Ytkdkikmhlhcndaa
namespace Go.Proofs.Ytkdkikmhlhcndaa
open Go.RowKit
abbrev RCut : Rep ((List (List Int) × List Int) × Int) := RP (RP (RS (RS RI)) (RS RI)) RI
def eK (c : (List (List Int) × List Int) × Int) : List D := [.sl 1 (c.1.1.map eL), .sl 1 (c.1.2.map eI), .int c.2]
theorem encK : Enc RCut eK := encP (encP (encS (encS encI)) (encS encI)) encI
theorem arg_K {w : World} {u : Value} {xs : List ((List (List Int) × List Int) × Int)} (h : Rd (RS RCut) w [u] xs) : relArg (· < w.heap.size) w [.sl 3 (xs.map eK)] u := ((encS encK).rdV (x := xs) rfl).1 h
def cnt_K : List ((List (List Int) × List Int) × Int) → Nat
  | [] => 0
  | p :: ps => cnt_II p.1.1 + cnt_I p.1.2 + 1 + cnt_K ps
def mkd_K : List ((List (List Int) × List Int) × Int) → Int → List ((List (List Int) × List Int) × Int)
  | [], _ => []
  | p :: ps, k => ((mkd_II p.1.1 k, mkd_I p.1.2 (k + cnt_II p.1.1)), k + cnt_II p.1.1 + cnt_I p.1.2) :: mkd_K ps (k + cnt_II p.1.1 + cnt_I p.1.2 + 1)
theorem mkd_K_len : ∀ (ps : List ((List (List Int) × List Int) × Int)) (k : Int), (mkd_K ps k).length = ps.length
  | [], _ => rfl
  | p :: ps, k => by simp [mkd_K, mkd_K_len ps]
theorem mkd_K_get : ∀ (ps : List ((List (List Int) × List Int) × Int)) (k : Int) (i : Nat) (h : i < ps.length), (mkd_K ps k)[i]'(by rw [mkd_K_len]; exact h) = ((mkd_II ps[i].1.1 (k + cnt_K (ps.take i)), mkd_I ps[i].1.2 (k + cnt_K (ps.take i) + cnt_II ps[i].1.1)), k + cnt_K (ps.take i) + cnt_II ps[i].1.1 + cnt_I ps[i].1.2)
  | p :: ps, k, 0, h => by simp [mkd_K, cnt_K]
  | p :: ps, k, i + 1, h => by
    simp only [mkd_K, List.getElem_cons_succ, List.take_succ_cons]
    rw [mkd_K_get ps _ i (by simpa using h)]
    simp only [cnt_K]
    have e : k + (cnt_II p.1.1 : Int) + (cnt_I p.1.2 : Int) + 1 + (cnt_K (ps.take i) : Nat) = k + ((cnt_II p.1.1 + cnt_I p.1.2 + 1 + cnt_K (ps.take i) : Nat) : Int) := by omega
    rw [e]
theorem cnt_K_append : ∀ (ps qs : List ((List (List Int) × List Int) × Int)), cnt_K (ps ++ qs) = cnt_K ps + cnt_K qs
  | [], qs => by simp [cnt_K]
  | p :: ps, qs => by simp only [List.cons_append, cnt_K, cnt_K_append ps qs]; omega
theorem cnt_K_take_succ (ps : List ((List (List Int) × List Int) × Int)) (k : Nat) (h : k < ps.length) : cnt_K (ps.take (k + 1)) = cnt_K (ps.take k) + (cnt_II ps[k].1.1 + cnt_I ps[k].1.2 + 1) := by
  rw [List.take_succ_eq_append_getElem h, cnt_K_append]; simp [cnt_K]
theorem cnt_K_take (ps : List ((List (List Int) × List Int) × Int)) (k : Nat) : cnt_K (ps.take k) ≤ cnt_K ps := by
  have : cnt_K (ps.take k ++ ps.drop k) = cnt_K ps := by rw [List.take_append_drop]
  rw [cnt_K_append] at this
  omega
set_option maxRecDepth 100000 in
set_option maxHeartbeats 2000000 in
theorem markF_K (v : Value) (xs : List ((List (List Int) × List Int) × Int)) (F : List Nat) (k0 : Int) (w : World) (h : OwnF (RS RCut) F w [v] xs) (hk0 : 0 ≤ k0) (hk : k0 + cnt_K xs ≤ 4611686018427387904) :
    Calls Try.prog 21 #[v, .int .i64 k0] w fun e w' => e = .returned (.int .i64 (k0 + (cnt_K xs : Nat))) ∧ OwnF (RS RCut) F w' [v] (mkd_K xs k0) ∧ ChgF F w w' := by
  obtain ⟨oa, cap, rfl, m1, m2⟩ := h.rd.val
  unfold maxLen at m2
  have H0 := Lib.hid h
  clear h
  go_enter Try.func21, Try.ntmps21
  go_wp2_with fail
  go_loopw [1, 5] (fun q i wr => ∃ (k : Nat) (z : List ((List (List Int) × List Int) × Int)), k ≤ xs.length ∧ i = .int .i64 k ∧ q = .int .i64 (k0 + (cnt_K (xs.take k) : Nat)) ∧ Hid (z = (mkd_K xs k0).take k ++ xs.drop k) ∧ Hid (OwnF (RS RCut) F wr [.slice oa xs.length cap] z ∧ ChgF F w wr)) (fun _ i _ => xs.length - (intOf i).toNat)
  case atStart => exact ⟨0, xs, Nat.zero_le _, rfl, by simp [cnt_K], Lib.hid (by simp), Lib.hid ⟨H0.out, ChgF.refl _ _⟩⟩
  case round =>
    obtain ⟨k, z, hkl, rfl, rfl, hz, hown⟩ := hrel
    clear H0
    by_cases hlt : k < xs.length
    · have hml := mkd_K_len xs k0
      have hzl : z.length = xs.length := by rw [hz.out]; simp [hml]; omega
      obtain ⟨g, cap', s, t, G1, G2, hv, -, -, hgl, g1, g2, g3, hfz, hGs, hGt, hG1F, hG2F, hdis, hUP, -⟩ := hown.out.1.at3 rfl rfl k (by omega)
      rw [hzl] at hv
      simp only [Value.slice.injEq, true_and] at hv
      obtain ⟨rfl, rfl⟩ := hv
      have hzk : z[k]'(by omega) = xs[k] := by
        simp only [hz.out]
        rw [List.getElem_append_right (by simp [hml]; omega)]
        simp [List.getElem_drop, hml]
        congr 1; omega
      have hst := cnt_K_take_succ xs k hlt
      have hle := cnt_K_take xs (k + 1)
      have hmk := mkd_K_get xs k0 k hlt
      obtain ⟨n, hn⟩ : ∃ n, n = cnt_K (xs.take k) := ⟨_, rfl⟩
      rw [← hn] at hst hmk
      rw [← hn]
      have hset : z.set k ((mkd_II xs[k].1.1 (k0 + n), mkd_I xs[k].1.2 (k0 + n + cnt_II xs[k].1.1)), k0 + (n : Int) + cnt_II xs[k].1.1 + cnt_I xs[k].1.2) = (mkd_K xs k0).take (k + 1) ++ xs.drop (k + 1) := by
        rw [hz.out, List.set_append_right _ _ (by simp [hml]; omega)]
        have e : k - ((mkd_K xs k0).take k).length = 0 := by simp [hml]; omega
        rw [e, List.drop_eq_getElem_cons hlt, List.set_cons_zero, List.take_succ_eq_append_getElem (by rw [hml]; exact hlt), hmk]
        simp
      rw [hzk] at hGs hGt hUP g3
      obtain ⟨pf, hpf⟩ : ∃ pf, pf = xs[k].1.1 := ⟨_, rfl⟩
      obtain ⟨pt, hpt⟩ : ∃ pt, pt = xs[k].1.2 := ⟨_, rfl⟩
      rw [← hpf, ← hpt] at hset hst
      rw [← hpf] at hGs
      rw [← hpt] at hGt
      obtain ⟨os, cs, rfl, q1, q2⟩ := hGs.rd.val
      obtain ⟨ot, ct, rfl, q3, q4⟩ := hGt.rd.val
      have hmkF := markF_II _ pf G1 (k0 + n) wr hGs (by omega) (by omega)
      obtain ⟨cf, hcf⟩ : ∃ cf, cf = cnt_II pf := ⟨_, rfl⟩
      obtain ⟨cu, hcu⟩ : ∃ cu, cu = cnt_I pt := ⟨_, rfl⟩
      rw [← hcf] at hmkF
      rw [← hcf, ← hcu] at hst hset
      have hmkT : ∀ W, OwnF (RS RI) G2 W [.slice ot pt.length ct] pt → Calls Try.prog 15 #[.slice ot pt.length ct, .int .i64 (k0 + n + cf)] W fun e w' => e = .returned (.int .i64 (k0 + n + cf + (cu : Nat))) ∧ OwnF (RS RI) G2 w' [.slice ot pt.length ct] (mkd_I pt (k0 + n + cf)) ∧ ChgF G2 W w' := fun W hW => by
        rw [hcu]; exact markF_I _ pt G2 (k0 + n + cf) W hW (by omega) (by omega)
      have HMT := Lib.hid hmkT
      have HUP := Lib.hid hUP
      have HSET := Lib.hid hset
      have HST := Lib.hid hst
      have HZL := Lib.hid hzl
      have HGT := Lib.hid hGt
      have HD : Hid (∀ b, b ∈ G1 → b ∉ G2) := Lib.hid hdis
      have HN1 : Hid (g ∉ G1 ∧ g ∉ G2) := Lib.hid ⟨fun hg => (hG1F g hg).2 rfl, fun hg => (hG2F g hg).2 rfl⟩
      have HG2 : Hid (∀ b ∈ G2, b < wr.heap.size) := Lib.hid hGt.lt
      have HG1 : Hid (∀ b ∈ G1, b < wr.heap.size) := Lib.hid hGs.lt
      have HGL := Lib.hid hgl
      have HT2 := Lib.hid g2
      have i1 : (0 : Int) ≤ (k : Int) := by omega
      have i2 : (k : Int) < (xs.length : Int) := by omega
      have hw2 : IntKind.i64.wrap (k0 + (n : Int) + (cf : Int) + (cu : Int) + 1) = k0 + n + cf + cu + 1 := IntWalk.i64_in _ (by omega)
      have hw3 : IntKind.i64.wrap (k0 + (n : Int) + (cf : Int) + (cu : Int)) = k0 + n + cf + cu := IntWalk.i64_in _ (by omega)
      have HIN : Hid (In64 (k0 + (n : Int) + (cf : Int) + (cu : Int))) := Lib.hid (by unfold In64; omega)
      obtain ⟨p2, hp2⟩ : ∃ p2, p2 = xs[k].2 := ⟨_, rfl⟩
      rw [← hp2] at HUP
      clear hUP hset hst hmk hzk hzl hn hpf hpt hGs hGt hml hcf hcu hp2 g3 hfz hmkT hdis hG1F hG2F
      go_wp2_with fail
      refine hmkF.mono ?_
      rintro e w2 ⟨rfl, hr2, hc2⟩
      have hT2 := HGT.out.frame (w' := w2) (fun b hb => hc2.block b (HG2.out b hb) (fun h1 => HD.out b h1 hb))
      have g2' : w2.cell? ⟨g, k * 3 + 1, none⟩ = some (.slice ot pt.length ct) := (hc2.cell HGL.out HN1.out.1).trans HT2.out
      have HC2 := Lib.hid hc2
      have HR2 := Lib.hid hr2
      have hmk2 := HMT.out w2 hT2
      clear hmkF hr2 hc2 hT2 g1 g2
      go_wp2_with fail
      refine hmk2.mono ?_
      rintro e w3 ⟨rfl, hr3, hc3⟩
      have hr2' := HR2.out.frame (w' := w3) (fun b hb => hc3.block b (HR2.out.lt b hb) (HD.out b hb))
      obtain ⟨k1, k2⟩ := HUP.out w3 _ _ hr2' hr3 ((HC2.out.mono (fun b hb => List.mem_append_left _ hb)).trans (hc3.mono (fun b hb => List.mem_append_right _ hb)))
      have hzl2 : (z.set k ((mkd_II pf (k0 + n), mkd_I pt (k0 + n + cf)), p2)).length = xs.length := by rw [List.length_set, HZL.out]
      obtain ⟨g', cap', s', t', G1', G2', hv', -, -, -, g1', g2'', g3', hfz', -, -, -, -, -, -, hNUM⟩ := k1.at3 rfl rfl k (by omega)
      rw [hzl2] at hv'
      simp only [Value.slice.injEq, Option.some.injEq, Addr.mk.injEq, and_true, true_and] at hv'
      obtain ⟨rfl, rfl⟩ := hv'
      simp only [List.getElem_set_self] at g3' hNUM
      obtain ⟨f1, f2⟩ := hNUM (k0 + n + cf + cu) HIN.out
      rw [List.set_set] at f1
      rw [HSET.out] at f1
      have HF : Hid (OwnF (RS RCut) F (w3.setCell ⟨g, k * 3 + 2, none⟩ (.int .i64 (k0 + n + cf + cu))) [.slice (some ⟨g, 0, none⟩) xs.length cap] ((mkd_K xs k0).take (k + 1) ++ xs.drop (k + 1)) ∧ ChgF F w (w3.setCell ⟨g, k * 3 + 2, none⟩ (.int .i64 (k0 + n + cf + cu)))) := Lib.hid ⟨f1, hown.out.2.trans (k2.trans f2)⟩
      clear k1 k2 hr2' hr3 hc3 hmk2 f1 f2 hNUM hzl2 g1' g2' g2''
      go_wp2_with fail
      go_roundw
      case rel => exact ⟨k + 1, _, by omega, by go_num, by rw [HST.out]; congr 1; omega, Lib.hid rfl, HF⟩
      case measure => simp [intOf] <;> omega
    · have hfin : Hid (z = mkd_K xs k0) := Lib.hid (by rw [hz.out, List.take_of_length_le (by rw [mkd_K_len]; omega), List.drop_of_length_le (by omega), List.append_nil])
      have hf2 : xs.take k = xs := List.take_of_length_le (by omega)
      rw [hf2]
      go_wp2_with fail
      go_ret
      exact ⟨rfl, hfin.out ▸ hown.out.1, hown.out.2⟩
theorem mark_K (v : Value) (xs : List ((List (List Int) × List Int) × Int)) (lo hi : Nat) (k0 : Int) (w : World) (h : Own (RS RCut) lo hi w [v] xs) (hk0 : 0 ≤ k0) (hk : k0 + cnt_K xs ≤ 4611686018427387904) :
    Calls Try.prog 21 #[v, .int .i64 k0] w fun e w' => e = .returned (.int .i64 (k0 + (cnt_K xs : Nat))) ∧ Own (RS RCut) lo hi w' [v] (mkd_K xs k0) ∧ Chg lo hi w w' := by
  obtain ⟨F, hF, hb⟩ := OwnF.of h
  refine (markF_K v xs F k0 w hF hk0 hk).mono ?_
  rintro e w' ⟨rfl, h1, h2⟩
  exact ⟨rfl, h1.to hb, ⟨h2.os, h2.tape, h2.output, h2.size, fun k hk hne => h2.block k hk (fun e => by have := hb k e; omega)⟩⟩
noncomputable def TEqK : Tab Try.prog :=
  (Tab.none.add 27 (tab2 codLL codLL fun f g => if f = g then some [.val (.bool true)] else none) (tab2_ok fun f g rs h => by
    split at h
    · rename_i e; subst e; cases h
      exact AFn.of_v (v := .bool true) (enters_of Try.func27 rfl rfl) (fun _ _ => rdV_bool.2 rfl) (fun w A vs ⟨v1, _, e1, h1, v2, _, e2, h2, e3⟩ => by subst e3; subst e2; subst e1; exact eqv_II v1 v2 f w (Rd.of (rdLL h1)) (Rd.of (rdLL h2)))
    · cases h)).add 11 (tab2 codL codL fun f g => if f = g then some [.val (.bool true)] else none) (tab2_ok fun f g rs h => by
    split at h
    · rename_i e; subst e; cases h
      exact AFn.of_v (v := .bool true) (enters_of Try.func11 rfl rfl) (fun _ _ => rdV_bool.2 rfl) (fun w A vs ⟨v1, _, e1, h1, v2, _, e2, h2, e3⟩ => by subst e3; subst e2; subst e1; exact eqv_I v1 v2 f w (Rd.of (rd1 h1)) (Rd.of (rd1 h2)))
    · cases h)
theorem a_eqCut (c : (List (List Int) × List Int) × Int) : AFn Try.prog 41 [eK c, eK c] (· = [.val (.bool true)]) := by
  obtain ⟨⟨f, g⟩, n⟩ := c
  have hn : (n != n) = false := by simp
  refine AFn.of_runs (cfg_ok 22) Try.func41 rfl rfl rfl (by simp only [List.length_cons, List.length_nil]; decide) ?_
  have hres : Try.f41.results.toList = [.tmp 4] := rfl
  have hrts : Try.f41.resultTypes.toList = [4] := rfl
  simp only [argRegs, argAV1, eL, eI, eLL, eB, Nat.zero_add, Nat.reduceAdd, eK]
  intro M
  refine RunK.of ?_
  repeat' (first | with_reducible (first | refine Q1 ?_ | refine Q2 ?_ | refine Q3 ?_ | refine Q4 ?_ | refine Q5 ?_ | refine Q6 ?_ | refine Q7 ?_ | refine Q8 ?_ | refine Q9 ?_ | refine Qa ?_ | refine Qb ?_ | refine Qc ?_ | refine Qd ?_ | refine Qe ?_ | refine Qf ?_) | ((with_reducible refine Qo ?_ ?_); focus rfl) | ((with_reducible first | refine QT 5 (l := ?_) ?_ ?_ | refine QF 5 (l := ?_) ?_ ?_); rotate_left 1; focus (simp only [Zu, Nat.reduceSub, Nat.reduceBEq]; with_reducible rfl)) | ((with_reducible first | refine QS (cfg_ok 22) TEqK (s' := ?_) ?_ ?_ | refine QC (b := ?_) ?_ ?_); rotate_left 1; focus ((with_reducible refine QW ?_); simp only [Zg, seval, if_true, if_false, reduceCtorEq, Nat.reduceEqDiff, TEqK, TEqK, hn, eq_self, if_true]; with_reducible rfl)))
  (refine Ends.mk (by simp) (rs := ?_) (ks := ?_) hres hrts ?_ ?_ ?_; rotate_left 2; (focus (simp only [Ze, Zg, seval, if_true, if_false, reduceCtorEq, Nat.reduceEqDiff]; with_reducible rfl)); (focus simp); focus (first | with_reducible rfl | (simp only [Zv]; done)))
theorem a_eqCutS (xs : List ((List (List Int) × List Int) × Int)) (hl : xs.length ≤ maxLen) : AFn Try.prog 20 [[.sl 3 (xs.map eK)], [.sl 3 (xs.map eK)]] (· = [.val (.bool true)]) := by
  unfold maxLen at hl
  have hle : (xs.map eK).length = xs.length := List.length_map _
  have hne : ((xs.length : Int) != (xs.length : Int)) = false := by simp
  refine AFn.of_runs (cfg_ok 27) Try.func20 rfl rfl rfl (by simp only [List.length_cons, List.length_nil]; decide) ?_
  have hres : Try.f20.results.toList = [.tmp 4] := rfl
  have hrts : Try.f20.resultTypes.toList = [4] := rfl
  simp only [argRegs, argAV1, eL, eI, eLL, eB, Nat.zero_add, Nat.reduceAdd]
  intro M
  refine RunK.of ?_
  repeat' (first | with_reducible (first | refine Q1 ?_ | refine Q2 ?_ | refine Q3 ?_ | refine Q4 ?_ | refine Q5 ?_ | refine Q6 ?_ | refine Q7 ?_ | refine Q8 ?_ | refine Q9 ?_ | refine Qa ?_ | refine Qb ?_ | refine Qc ?_ | refine Qd ?_ | refine Qe ?_ | refine Qf ?_) | ((with_reducible refine Qo ?_ ?_); focus rfl) | ((with_reducible first | refine QT 6 (l := ?_) ?_ ?_ | refine QF 6 (l := ?_) ?_ ?_); rotate_left 1; focus (simp only [Zu, Nat.reduceSub, Nat.reduceBEq]; with_reducible rfl)) | ((with_reducible first | refine QS (cfg_ok 27) Tab.none (s' := ?_) ?_ ?_ | refine QC (b := ?_) ?_ ?_); rotate_left 1; focus ((with_reducible refine QW ?_); simp only [Zg, seval, if_true, if_false, reduceCtorEq, Nat.reduceEqDiff, hle, hne]; with_reducible rfl)) | ((with_reducible refine QD (cfg_ok 27) Tab.none mixed_ok (tr := ?_) (s' := ?_) ?_ ?_ ?_); rotate_left 2; (focus ((with_reducible refine QW ?_); simp only [Zg, Zd, seval, if_true, if_false, reduceCtorEq, Nat.reduceEqDiff, hle, hne]; with_reducible rfl)); focus ((with_reducible refine QK ?_); simp only [Zk]; kernel_rfl)))
  refine RunK.loop (β := Nat) (γ := Unit) (fun i => ⟨[(0, .c (.val (.sl 3 (xs.map eK)))), (1, .c (.val (.sl 3 (xs.map eK)))), (5, .c (.val (.int i)))], []⟩) (fun i => i ≤ xs.length) (fun i => xs.length - i)
    (fun _ => ⟨[], []⟩) (fun _ => True) 0 (Nat.zero_le _) ?_ ?_ ?_
  · (repeat' (first | with_reducible refine Qn | ((with_reducible refine Qr ?_ ?_); focus (first | with_reducible rfl | (simp only [Zz, Nat.reduceBEq, Int.natCast_zero]; done) | rfl)) | ((with_reducible refine Qj (o' := ?_) ?_ ?_ ?_); rotate_left 1; focus rfl) | ((with_reducible refine Qw ?_ ?_); (focus (first | with_reducible rfl | (simp only [Zv, Int.natCast_zero]; done))); focus (first | exact id | exact (fun h => nomatch h) | exact (fun _ => rfl)))))
  · intro i hi
    have hi : i ≤ xs.length := hi
    by_cases h : i < xs.length
    · have hw := w64_succ (n := i) (by omega)
      have i1 : ((i : Int) < (xs.length : Int)) = True := eq_true (by omega)
      have i2 : ((0 : Int) ≤ (i : Int)) = True := eq_true (by omega)
      obtain ⟨c, hc⟩ : ∃ c, c = xs[i] := ⟨_, rfl⟩
      have hg : (xs.map eK)[i]? = some (eK c) := by rw [map_get h, hc]
      have hq := a_eqCut c
      obtain ⟨⟨f, g⟩, n⟩ := c
      simp only [eK] at hg hq
      repeat' (first | with_reducible (first | refine Q1 ?_ | refine Q2 ?_ | refine Q3 ?_ | refine Q4 ?_ | refine Q5 ?_ | refine Q6 ?_ | refine Q7 ?_ | refine Q8 ?_ | refine Q9 ?_ | refine Qa ?_ | refine Qb ?_ | refine Qc ?_ | refine Qd ?_ | refine Qe ?_ | refine Qf ?_) | ((with_reducible refine Qo ?_ ?_); focus rfl) | ((with_reducible first | refine QT 6 (l := ?_) ?_ ?_ | refine QF 6 (l := ?_) ?_ ?_); rotate_left 1; focus (simp only [Zu, Nat.reduceSub, Nat.reduceBEq]; with_reducible rfl)) | ((with_reducible first | refine QS (cfg_ok 27) (Tab.none.at' 41 hq) (s' := ?_) ?_ ?_ | refine QC (b := ?_) ?_ ?_); rotate_left 1; focus ((with_reducible refine QW ?_); simp only [Zg, seval, if_true, if_false, reduceCtorEq, Nat.reduceEqDiff, hle, i1, i2, hg, hw, Int.toNat_natCast]; with_reducible rfl)) | ((with_reducible refine QD (cfg_ok 27) (Tab.none.at' 41 hq) mixed_ok (tr := ?_) (s' := ?_) ?_ ?_ ?_); rotate_left 2; (focus ((with_reducible refine QW ?_); simp only [Zg, Zd, seval, if_true, if_false, reduceCtorEq, Nat.reduceEqDiff, hle, i1, i2, hg, hw, Int.toNat_natCast]; with_reducible rfl)); focus ((with_reducible refine QK ?_); simp only [Zk]; kernel_rfl)))
      refine roundK.on (i + 1) ⟨h, by omega⟩ ?_
      (repeat' (first | with_reducible refine Qn | ((with_reducible refine Qr ?_ ?_); focus (first | with_reducible rfl | (simp only [Zz, Nat.reduceBEq]; done) | rfl)) | ((with_reducible refine Qj (o' := ?_) ?_ ?_ ?_); rotate_left 1; focus rfl) | ((with_reducible refine Qw ?_ ?_); (focus (first | with_reducible rfl | (simp only [Zv]; done))); focus (first | exact id | exact (fun h => nomatch h) | exact (fun _ => rfl)))))
    · have i1 : ((i : Int) < (xs.length : Int)) = False := eq_false (by omega)
      repeat' (first | with_reducible (first | refine Q1 ?_ | refine Q2 ?_ | refine Q3 ?_ | refine Q4 ?_ | refine Q5 ?_ | refine Q6 ?_ | refine Q7 ?_ | refine Q8 ?_ | refine Q9 ?_ | refine Qa ?_ | refine Qb ?_ | refine Qc ?_ | refine Qd ?_ | refine Qe ?_ | refine Qf ?_) | ((with_reducible refine Qo ?_ ?_); focus rfl) | ((with_reducible first | refine QT 6 (l := ?_) ?_ ?_ | refine QF 6 (l := ?_) ?_ ?_); rotate_left 1; focus (simp only [Zu, Nat.reduceSub, Nat.reduceBEq]; with_reducible rfl)) | ((with_reducible first | refine QS (cfg_ok 27) Tab.none (s' := ?_) ?_ ?_ | refine QC (b := ?_) ?_ ?_); rotate_left 1; focus ((with_reducible refine QW ?_); simp only [Zg, seval, if_true, if_false, reduceCtorEq, Nat.reduceEqDiff, hle, i1]; with_reducible rfl)) | ((with_reducible refine QD (cfg_ok 27) Tab.none mixed_ok (tr := ?_) (s' := ?_) ?_ ?_ ?_); rotate_left 2; (focus ((with_reducible refine QW ?_); simp only [Zg, Zd, seval, if_true, if_false, reduceCtorEq, Nat.reduceEqDiff, hle, i1]; with_reducible rfl)); focus ((with_reducible refine QK ?_); simp only [Zk]; kernel_rfl)))
      refine roundK.out () trivial ?_
      (repeat' (first | with_reducible refine Qn | ((with_reducible refine Qr ?_ ?_); focus (first | with_reducible rfl | (simp only [Zz, Nat.reduceBEq]; done) | rfl)) | ((with_reducible refine Qj (o' := ?_) ?_ ?_ ?_); rotate_left 1; focus rfl) | ((with_reducible refine Qw ?_ ?_); (focus (first | with_reducible rfl | (simp only [Zv]; done))); focus (first | exact id | exact (fun h => nomatch h) | exact (fun _ => rfl)))))
  · rintro _ _
    repeat' (first | with_reducible (first | refine Q1 ?_ | refine Q2 ?_ | refine Q3 ?_ | refine Q4 ?_ | refine Q5 ?_ | refine Q6 ?_ | refine Q7 ?_ | refine Q8 ?_ | refine Q9 ?_ | refine Qa ?_ | refine Qb ?_ | refine Qc ?_ | refine Qd ?_ | refine Qe ?_ | refine Qf ?_) | ((with_reducible refine Qo ?_ ?_); focus rfl) | ((with_reducible first | refine QT 6 (l := ?_) ?_ ?_ | refine QF 6 (l := ?_) ?_ ?_); rotate_left 1; focus (simp only [Zu, Nat.reduceSub, Nat.reduceBEq]; with_reducible rfl)) | ((with_reducible first | refine QS (cfg_ok 27) Tab.none (s' := ?_) ?_ ?_ | refine QC (b := ?_) ?_ ?_); rotate_left 1; focus ((with_reducible refine QW ?_); simp only [Zg, seval, if_true, if_false, reduceCtorEq, Nat.reduceEqDiff]; with_reducible rfl)) | ((with_reducible refine QD (cfg_ok 27) Tab.none mixed_ok (tr := ?_) (s' := ?_) ?_ ?_ ?_); rotate_left 2; (focus ((with_reducible refine QW ?_); simp only [Zg, Zd, seval, if_true, if_false, reduceCtorEq, Nat.reduceEqDiff]; with_reducible rfl)); focus ((with_reducible refine QK ?_); simp only [Zk]; kernel_rfl)))
    (refine Ends.mk (by simp) (rs := ?_) (ks := ?_) hres hrts ?_ ?_ ?_; rotate_left 2; (focus (simp only [Ze, Zg, seval, if_true, if_false, reduceCtorEq, Nat.reduceEqDiff]; with_reducible rfl)); (focus simp); focus (first | with_reducible rfl | (simp only [Zv]; done)))
theorem eqv_K (v1 v2 : Value) (xs : List ((List (List Int) × List Int) × Int)) (w : World) (h1 : Rd (RS RCut) w [v1] xs) (h2 : Rd (RS RCut) w [v2] xs) :
    Calls Try.prog 20 #[v1, v2] w (RetV w (.bool true)) :=
  AFn.one (v := .bool true) (fun A w u hu => rdV_bool.1 hu) (a_eqCutS xs (by obtain ⟨_, _, _, a, b⟩ := h1.val; omega)) (args2 (arg_K h1) (arg_K h2))
theorem a_heldIIK (f : List (List Int)) (k : Int) (hk0 : 0 ≤ k) (hk : k + cnt_II f ≤ 4611686018427387904) : AFn Try.prog 43 [eLL (mkd_II f k), eI k] (· = [.val (.int (k + (cnt_II f : Nat)))]) :=
  AFn.of_s (v := .int .i64 _) (enters_of Try.func43 rfl rfl) (fun _ _ => rdV_int.2 ⟨rfl, by unfold In64; omega⟩) (fun w A vs ⟨v1, _, e1, h1, v2, _, e2, h2, e3⟩ => by subst e3; subst e2; subst e1; rw [arg_int h2]; exact held_II v1 f k w (Rd.of (rdLL h1)) hk0 hk)
theorem a_held2K (f : List Int) (k : Int) (hk0 : 0 ≤ k) (hk : k + cnt_I f ≤ 4611686018427387904) : AFn Try.prog 39 [eL (mkd_I f k), eI k] (· = [.val (.int (k + (cnt_I f : Nat)))]) :=
  AFn.of_s (v := .int .i64 _) (enters_of Try.func39 rfl rfl) (fun _ _ => rdV_int.2 ⟨rfl, by unfold In64; omega⟩) (fun w A vs ⟨v1, _, e1, h1, v2, _, e2, h2, e3⟩ => by subst e3; subst e2; subst e1; rw [arg_int h2]; exact held_I v1 f k w (Rd.of (rd1 h1)) hk0 hk)
theorem a_heldCutS (xs : List ((List (List Int) × List Int) × Int)) (k0 : Int) (hl : xs.length ≤ maxLen) (hk0 : 0 ≤ k0) (hk : k0 + cnt_K xs ≤ 4611686018427387904) : AFn Try.prog 22 [[.sl 3 ((mkd_K xs k0).map eK)], eI k0] (· = [.val (.int (k0 + (cnt_K xs : Nat)))]) := by
  unfold maxLen at hl
  have hle : ((mkd_K xs k0).map eK).length = xs.length := by rw [List.length_map, mkd_K_len]
  have hle2 := mkd_K_len xs k0
  refine AFn.of_runs (cfg_ok 40) Try.func22 rfl rfl rfl (by simp only [List.length_cons, List.length_nil]; decide) ?_
  have hres : Try.f22.results.toList = [.tmp 4] := rfl
  have hrts : Try.f22.resultTypes.toList = [3] := rfl
  simp only [argRegs, argAV1, eL, eI, eLL, eB, Nat.zero_add, Nat.reduceAdd]
  intro M
  refine RunK.of ?_
  repeat' (first | with_reducible (first | refine Q1 ?_ | refine Q2 ?_ | refine Q3 ?_ | refine Q4 ?_ | refine Q5 ?_ | refine Q6 ?_ | refine Q7 ?_ | refine Q8 ?_ | refine Q9 ?_ | refine Qa ?_ | refine Qb ?_ | refine Qc ?_ | refine Qd ?_ | refine Qe ?_ | refine Qf ?_) | ((with_reducible refine Qo ?_ ?_); focus rfl) | ((with_reducible first | refine QT 6 (l := ?_) ?_ ?_ | refine QF 6 (l := ?_) ?_ ?_); rotate_left 1; focus (simp only [Zu, Nat.reduceSub, Nat.reduceBEq]; with_reducible rfl)) | ((with_reducible first | refine QS (cfg_ok 40) Tab.none (s' := ?_) ?_ ?_ | refine QC (b := ?_) ?_ ?_); rotate_left 1; focus ((with_reducible refine QW ?_); simp only [Zg, seval, if_true, if_false, reduceCtorEq, Nat.reduceEqDiff]; with_reducible rfl)))
  refine RunK.loop (β := Nat) (γ := Unit) (fun i => ⟨[(0, .c (.val (.sl 3 ((mkd_K xs k0).map eK)))), (1, .c (.val (.int (k0 + (cnt_K (xs.take i) : Nat))))), (5, .c (.val (.int i)))], []⟩) (fun i => i ≤ xs.length) (fun i => xs.length - i)
    (fun _ => ⟨[(1, .c (.val (.int (k0 + (cnt_K xs : Nat)))))], []⟩) (fun _ => True) 0 (Nat.zero_le _) ?_ ?_ ?_
  · (repeat' (first | with_reducible refine Qn | ((with_reducible refine Qr ?_ ?_); focus (first | with_reducible rfl | (simp only [Zz, Nat.reduceBEq, List.take_zero, show cnt_K [] = 0 from rfl, Int.natCast_zero, Int.add_zero]; done) | rfl)) | ((with_reducible refine Qj (o' := ?_) ?_ ?_ ?_); rotate_left 1; focus rfl) | ((with_reducible refine Qw ?_ ?_); (focus (first | with_reducible rfl | (simp only [Zv, List.take_zero, show cnt_K [] = 0 from rfl, Int.natCast_zero, Int.add_zero]; done))); focus (first | exact id | exact (fun h => nomatch h) | exact (fun _ => rfl)))))
  · intro i hi
    have hi : i ≤ xs.length := hi
    by_cases h : i < xs.length
    · have hw := w64_succ (n := i) (by omega)
      have i1 : ((i : Int) < (xs.length : Int)) = True := eq_true (by omega)
      have i2 : ((0 : Int) ≤ (i : Int)) = True := eq_true (by omega)
      have hgt := mkd_K_get xs k0 i h
      have hst := cnt_K_take_succ xs i h
      have hlt := cnt_K_take xs (i + 1)
      obtain ⟨n, hn⟩ : ∃ n, n = cnt_K (xs.take i) := ⟨_, rfl⟩
      rw [← hn] at hgt hst ⊢
      obtain ⟨f, hf⟩ : ∃ f, f = xs[i].1.1 := ⟨_, rfl⟩
      obtain ⟨g, hg2⟩ : ∃ g, g = xs[i].1.2 := ⟨_, rfl⟩
      rw [← hf, ← hg2] at hgt hst
      have hg : ((mkd_K xs k0).map eK)[i]? = some [.sl 1 ((mkd_II f (k0 + n)).map eL), .sl 1 ((mkd_I g (k0 + n + cnt_II f)).map eI), .int (k0 + n + cnt_II f + cnt_I g)] := by
        rw [map_get (by rw [hle2]; exact h), hgt]; rfl
      have h1 := a_heldIIK f (k0 + n) (by omega) (by omega)
      have h2 := a_held2K g (k0 + n + cnt_II f) (by omega) (by omega)
      simp only [eLL, eL, eI] at h1 h2
      have c1 : (k0 + (n : Int) + (cnt_II f : Int) < 0) = False := eq_false (by omega)
      have c2 : (k0 + (n : Int) + (cnt_II f : Int) + (cnt_I g : Int) < 0) = False := eq_false (by omega)
      have c3 : (k0 + (n : Int) + (cnt_II f : Int) + (cnt_I g : Int) != k0 + n + cnt_II f + cnt_I g) = false := by simp
      have hw2 := w64_eq (n := k0 + (n : Int) + (cnt_II f : Int) + (cnt_I g : Int) + 1) (by omega)
      ((repeat' (first | with_reducible (first | refine Q1 ?_ | refine Q2 ?_ | refine Q3 ?_ | refine Q4 ?_ | refine Q5 ?_ | refine Q6 ?_ | refine Q7 ?_ | refine Q8 ?_ | refine Q9 ?_ | refine Qa ?_ | refine Qb ?_ | refine Qc ?_ | refine Qd ?_ | refine Qe ?_ | refine Qf ?_) | ((with_reducible refine Qo ?_ ?_); focus rfl) | ((with_reducible first | refine QT 6 (l := ?_) ?_ ?_ | refine QF 6 (l := ?_) ?_ ?_); rotate_left 1; focus (simp only [Zu, Nat.reduceSub, Nat.reduceBEq]; with_reducible rfl)) | ((with_reducible refine QC (b := ?_) ?_ ?_); rotate_left 1; focus ((with_reducible refine QW ?_); simp only [Zg, seval, if_true, if_false, reduceCtorEq, Nat.reduceEqDiff, hle, i1]; with_reducible rfl)))); ((with_reducible refine QS (cfg_ok 40) Tab.none (s' := ?_) ?_ ?_); rotate_left 1; focus ((with_reducible refine QW ?_); simp only [Zg, seval, if_true, if_false, reduceCtorEq, Nat.reduceEqDiff, hle, i1]; with_reducible rfl)); (repeat' (first | with_reducible (first | refine Q1 ?_ | refine Q2 ?_ | refine Q3 ?_ | refine Q4 ?_ | refine Q5 ?_ | refine Q6 ?_ | refine Q7 ?_ | refine Q8 ?_ | refine Q9 ?_ | refine Qa ?_ | refine Qb ?_ | refine Qc ?_ | refine Qd ?_ | refine Qe ?_ | refine Qf ?_) | ((with_reducible refine Qo ?_ ?_); focus rfl) | ((with_reducible first | refine QT 6 (l := ?_) ?_ ?_ | refine QF 6 (l := ?_) ?_ ?_); rotate_left 1; focus (simp only [Zu, Nat.reduceSub, Nat.reduceBEq]; with_reducible rfl)) | ((with_reducible refine QC (b := ?_) ?_ ?_); rotate_left 1; focus ((with_reducible refine QW ?_); simp only [Zg, seval, if_true, if_false, reduceCtorEq, Nat.reduceEqDiff, hle, i1]; with_reducible rfl)))))
      ((repeat' (first | with_reducible (first | refine Q1 ?_ | refine Q2 ?_ | refine Q3 ?_ | refine Q4 ?_ | refine Q5 ?_ | refine Q6 ?_ | refine Q7 ?_ | refine Q8 ?_ | refine Q9 ?_ | refine Qa ?_ | refine Qb ?_ | refine Qc ?_ | refine Qd ?_ | refine Qe ?_ | refine Qf ?_) | ((with_reducible refine Qo ?_ ?_); focus rfl) | ((with_reducible first | refine QT 6 (l := ?_) ?_ ?_ | refine QF 6 (l := ?_) ?_ ?_); rotate_left 1; focus (simp only [Zu, Nat.reduceSub, Nat.reduceBEq]; with_reducible rfl)) | ((with_reducible refine QC (b := ?_) ?_ ?_); rotate_left 1; focus ((with_reducible refine QW ?_); simp only [Zg, seval, if_true, if_false, reduceCtorEq, Nat.reduceEqDiff, hle, i1, i2, hg, Int.toNat_natCast]; with_reducible rfl)))); ((with_reducible refine QS (cfg_ok 40) (Tab.none.at' 43 h1) (s' := ?_) ?_ ?_); rotate_left 1; focus ((with_reducible refine QW ?_); simp only [Zg, seval, if_true, if_false, reduceCtorEq, Nat.reduceEqDiff, hle, i1, i2, hg, Int.toNat_natCast]; with_reducible rfl)); (repeat' (first | with_reducible (first | refine Q1 ?_ | refine Q2 ?_ | refine Q3 ?_ | refine Q4 ?_ | refine Q5 ?_ | refine Q6 ?_ | refine Q7 ?_ | refine Q8 ?_ | refine Q9 ?_ | refine Qa ?_ | refine Qb ?_ | refine Qc ?_ | refine Qd ?_ | refine Qe ?_ | refine Qf ?_) | ((with_reducible refine Qo ?_ ?_); focus rfl) | ((with_reducible first | refine QT 6 (l := ?_) ?_ ?_ | refine QF 6 (l := ?_) ?_ ?_); rotate_left 1; focus (simp only [Zu, Nat.reduceSub, Nat.reduceBEq]; with_reducible rfl)) | ((with_reducible refine QC (b := ?_) ?_ ?_); rotate_left 1; focus ((with_reducible refine QW ?_); simp only [Zg, seval, if_true, if_false, reduceCtorEq, Nat.reduceEqDiff, hle, i1, i2, hg, Int.toNat_natCast]; with_reducible rfl)))))
      repeat' (first | with_reducible (first | refine Q1 ?_ | refine Q2 ?_ | refine Q3 ?_ | refine Q4 ?_ | refine Q5 ?_ | refine Q6 ?_ | refine Q7 ?_ | refine Q8 ?_ | refine Q9 ?_ | refine Qa ?_ | refine Qb ?_ | refine Qc ?_ | refine Qd ?_ | refine Qe ?_ | refine Qf ?_) | ((with_reducible refine Qo ?_ ?_); focus rfl) | ((with_reducible first | refine QT 6 (l := ?_) ?_ ?_ | refine QF 6 (l := ?_) ?_ ?_); rotate_left 1; focus (simp only [Zu, Nat.reduceSub, Nat.reduceBEq]; with_reducible rfl)) | ((with_reducible first | refine QS (cfg_ok 40) (Tab.none.at' 39 h2) (s' := ?_) ?_ ?_ | refine QC (b := ?_) ?_ ?_); rotate_left 1; focus ((with_reducible refine QW ?_); simp only [Zg, seval, if_true, if_false, reduceCtorEq, Nat.reduceEqDiff, hle, i1, i2, hg, hw, c1, c2, c3, hw2, Int.toNat_natCast]; with_reducible rfl)))
      refine roundK.on (i + 1) ⟨h, by omega⟩ ?_
      have e : k0 + ((cnt_K (xs.take (i + 1)) : Nat) : Int) = k0 + n + cnt_II f + cnt_I g + 1 := by rw [hst]; omega
      rw [e]
      (repeat' (first | with_reducible refine Qn | ((with_reducible refine Qr ?_ ?_); focus (first | with_reducible rfl | (simp only [Zz, Nat.reduceBEq]; done) | rfl)) | ((with_reducible refine Qj (o' := ?_) ?_ ?_ ?_); rotate_left 1; focus rfl) | ((with_reducible refine Qw ?_ ?_); (focus (first | with_reducible rfl | (simp only [Zv]; done))); focus (first | exact id | exact (fun h => nomatch h) | exact (fun _ => rfl)))))
    · have i1 : ((i : Int) < (xs.length : Int)) = False := eq_false (by omega)
      obtain rfl : i = xs.length := by omega
      rw [List.take_length]
      repeat' (first | with_reducible (first | refine Q1 ?_ | refine Q2 ?_ | refine Q3 ?_ | refine Q4 ?_ | refine Q5 ?_ | refine Q6 ?_ | refine Q7 ?_ | refine Q8 ?_ | refine Q9 ?_ | refine Qa ?_ | refine Qb ?_ | refine Qc ?_ | refine Qd ?_ | refine Qe ?_ | refine Qf ?_) | ((with_reducible refine Qo ?_ ?_); focus rfl) | ((with_reducible first | refine QT 6 (l := ?_) ?_ ?_ | refine QF 6 (l := ?_) ?_ ?_); rotate_left 1; focus (simp only [Zu, Nat.reduceSub, Nat.reduceBEq]; with_reducible rfl)) | ((with_reducible first | refine QS (cfg_ok 40) Tab.none (s' := ?_) ?_ ?_ | refine QC (b := ?_) ?_ ?_); rotate_left 1; focus ((with_reducible refine QW ?_); simp only [Zg, seval, if_true, if_false, reduceCtorEq, Nat.reduceEqDiff, hle, i1]; with_reducible rfl)))
      refine roundK.out () trivial ?_
      (repeat' (first | with_reducible refine Qn | ((with_reducible refine Qr ?_ ?_); focus (first | with_reducible rfl | (simp only [Zz, Nat.reduceBEq]; done) | rfl)) | ((with_reducible refine Qj (o' := ?_) ?_ ?_ ?_); rotate_left 1; focus rfl) | ((with_reducible refine Qw ?_ ?_); (focus (first | with_reducible rfl | (simp only [Zv]; done))); focus (first | exact id | exact (fun h => nomatch h) | exact (fun _ => rfl)))))
  · rintro _ _
    repeat' (first | with_reducible (first | refine Q1 ?_ | refine Q2 ?_ | refine Q3 ?_ | refine Q4 ?_ | refine Q5 ?_ | refine Q6 ?_ | refine Q7 ?_ | refine Q8 ?_ | refine Q9 ?_ | refine Qa ?_ | refine Qb ?_ | refine Qc ?_ | refine Qd ?_ | refine Qe ?_ | refine Qf ?_) | ((with_reducible refine Qo ?_ ?_); focus rfl) | ((with_reducible first | refine QT 6 (l := ?_) ?_ ?_ | refine QF 6 (l := ?_) ?_ ?_); rotate_left 1; focus (simp only [Zu, Nat.reduceSub, Nat.reduceBEq]; with_reducible rfl)) | ((with_reducible first | refine QS (cfg_ok 40) Tab.none (s' := ?_) ?_ ?_ | refine QC (b := ?_) ?_ ?_); rotate_left 1; focus ((with_reducible refine QW ?_); simp only [Zg, seval, if_true, if_false, reduceCtorEq, Nat.reduceEqDiff]; with_reducible rfl)))
    (refine Ends.mk (by simp) (rs := ?_) (ks := ?_) hres hrts ?_ ?_ ?_; rotate_left 2; (focus (simp only [Ze, Zg, seval, if_true, if_false, reduceCtorEq, Nat.reduceEqDiff]; with_reducible rfl)); (focus simp); focus (first | with_reducible rfl | (simp only [Zv]; done)))
theorem held_K (v : Value) (xs : List ((List (List Int) × List Int) × Int)) (k0 : Int) (w : World) (h : Rd (RS RCut) w [v] (mkd_K xs k0)) (hk0 : 0 ≤ k0) (hk : k0 + cnt_K xs ≤ 4611686018427387904) :
    Calls Try.prog 22 #[v, .int .i64 k0] w (RetV w (.int .i64 (k0 + (cnt_K xs : Nat)))) :=
  AFn.one (v := .int .i64 _) (fun A w u hu => (rdV_int.1 hu).1) (a_heldCutS xs k0 (by obtain ⟨_, _, _, a, b⟩ := h.val; rw [mkd_K_len] at a; omega) hk0 hk) (args2 (arg_K h) (arg_I (by unfold In64; omega)))
end Go.Proofs.Ytkdkikmhlhcndaa
namespace Go.Proofs.Ytkdkikmhlhcndaa
open Go.RowKit
def RetOC {α : Type} (R : Rep α) (w : World) (x : α) (code : Int) : Ending → World → Prop :=
  fun e w' => ∃ u, e = .returned (.tuple #[u, .int .i64 code]) ∧ Own R w.heap.size w'.heap.size w' [u] x ∧ Below w.heap.size w w'
end Go.Proofs.Ytkdkikmhlhcndaa
namespace Go.Proofs.Ytkdkikmhlhcndaa
open Go.RowKit
def coOf (t : List Int) : List Cu × Int := if lev8 t = true then (cutsL t, 0) else ([], 1)
theorem cuts_good {t : List Int} (h : LevP t) (hl : t.length ≤ 8) : (cutsL t).length ≤ 256 ∧ ∀ x ∈ cutsL t, (1 ≤ x.2 ∧ x.2 ≤ 256) ∧ sumLen x.1.1 ≤ 8 ∧ x.1.2.length ≤ 8 := by
  have h0 := (gathS_is (split t)).len
  rw [List.length_map] at h0
  have h1 := split_len _ (Nat.le_refl _) h
  have h2 : 2 ^ t.length ≤ 2 ^ 8 := Nat.pow_le_pow_right (by decide) hl
  refine ⟨by unfold cutsL; rw [List.length_map]; omega, fun x hx => ?_⟩
  obtain ⟨z, hz, rfl⟩ := List.mem_map.1 hx
  obtain ⟨g1, g2, g3⟩ := gath_good (split_good _ (Nat.le_refl _) h) z hz
  have hone := gath_trunk t h z hz
  have hsum := g3.2
  refine ⟨⟨g1, by show z.2 ≤ 256; omega⟩, by show sumLen z.1.1 ≤ 8; omega, ?_⟩
  obtain ⟨⟨f, g⟩, n⟩ := z
  match g, hone with
  | [], _ => exact Nat.zero_le _
  | [tr], _ =>
    have h5 : sumLen [tr] = tr.length + 0 := rfl
    have hsum : sumLen f + sumLen [tr] = t.length := hsum
    show tr.length ≤ 8; omega
theorem cnt_K_le : ∀ (L : List Cu), (∀ x ∈ L, sumLen x.1.1 ≤ 8 ∧ x.1.2.length ≤ 8) → cnt_K L ≤ 17 * L.length
  | [], _ => by simp [cnt_K]
  | c :: L, h => by
    have h1 := h c (by simp)
    have h2 := cnt_K_le L (fun x hx => h x (by simp [hx]))
    unfold cnt_K cnt_II cnt_I
    rw [List.length_cons, Nat.mul_succ]; omega
theorem coOf_cnt (t : List Int) : cnt_K (coOf t).1 ≤ 1048576 := by
  unfold coOf
  split
  · rename_i h
    obtain ⟨h1, h2⟩ := cuts_good (lev8_lev h) (lev8_len h)
    have := cnt_K_le (cutsL t) (fun x hx => (h2 x hx).2)
    show cnt_K (cutsL t) ≤ _; omega
  · simp [cnt_K]
theorem a_impl_CutsOf (t : List Int) : AFn Try.prog 19 [eL t] (· = [.own 3 ((coOf t).1.map eK) true, .val (.int (coOf t).2)]) := by
  have hl := a_impl_IsLevels t
  simp only [eL] at hl
  unfold coOf
  refine AFn.of_runs (cfg_ok 9) Try.func19 rfl rfl rfl (by simp only [List.length_cons, List.length_nil]; decide) ?_
  have hres : Try.f19.results.toList = [.tmp 2, .tmp 3] := rfl
  have hrts : Try.f19.resultTypes.toList = [34, 2] := rfl
  simp only [argRegs, argAV1, eL, eI, eLL, eB, Nat.zero_add, Nat.reduceAdd]
  intro M
  refine RunK.of ?_
  by_cases h8 : lev8 t = true
  · rw [h8] at hl
    have hc : AFn Try.prog 40 [eL t] (· = [.own 3 ((cutsL t).map eK) true]) := a_cutsOf t (lev8_lev h8) (lev8_len h8)
    simp only [eL] at hc
    rw [if_pos h8]
    repeat' (first | with_reducible (first | refine Q1 ?_ | refine Q2 ?_ | refine Q3 ?_ | refine Q4 ?_ | refine Q5 ?_ | refine Q6 ?_ | refine Q7 ?_ | refine Q8 ?_ | refine Q9 ?_ | refine Qa ?_ | refine Qb ?_ | refine Qc ?_ | refine Qd ?_ | refine Qe ?_ | refine Qf ?_) | ((with_reducible refine Qo ?_ ?_); focus rfl) | ((with_reducible first | refine QT 4 (l := ?_) ?_ ?_ | refine QF 4 (l := ?_) ?_ ?_); rotate_left 1; focus (simp only [Zu, Nat.reduceSub, Nat.reduceBEq]; with_reducible rfl)) | ((with_reducible first | refine QS (cfg_ok 9) ((Tab.none.at' 33 hl).at' 40 hc) (s' := ?_) ?_ ?_ | refine QC (b := ?_) ?_ ?_); rotate_left 1; focus ((with_reducible refine QW ?_); simp only [Zg, seval, if_true, if_false, reduceCtorEq, Nat.reduceEqDiff]; with_reducible rfl)))
    (refine Ends.mk (by simp) (rs := ?_) (ks := ?_) hres hrts ?_ ?_ ?_; rotate_left 2; (focus (simp only [Ze, Zg, seval, if_true, if_false, reduceCtorEq, Nat.reduceEqDiff]; with_reducible rfl)); (focus simp); focus (first | with_reducible rfl | (simp only [Zv]; done)))
  · have h8' : lev8 t = false := by simpa using h8
    rw [h8'] at hl
    rw [if_neg h8]
    repeat' (first | with_reducible (first | refine Q1 ?_ | refine Q2 ?_ | refine Q3 ?_ | refine Q4 ?_ | refine Q5 ?_ | refine Q6 ?_ | refine Q7 ?_ | refine Q8 ?_ | refine Q9 ?_ | refine Qa ?_ | refine Qb ?_ | refine Qc ?_ | refine Qd ?_ | refine Qe ?_ | refine Qf ?_) | ((with_reducible refine Qo ?_ ?_); focus rfl) | ((with_reducible first | refine QT 4 (l := ?_) ?_ ?_ | refine QF 4 (l := ?_) ?_ ?_); rotate_left 1; focus (simp only [Zu, Nat.reduceSub, Nat.reduceBEq]; with_reducible rfl)) | ((with_reducible first | refine QS (cfg_ok 9) (Tab.none.at' 33 hl) (s' := ?_) ?_ ?_ | refine QC (b := ?_) ?_ ?_); rotate_left 1; focus ((with_reducible refine QW ?_); simp only [Zg, seval, if_true, if_false, reduceCtorEq, Nat.reduceEqDiff]; with_reducible rfl)))
    (refine Ends.mk (by simp) (rs := ?_) (ks := ?_) hres hrts ?_ ?_ ?_; rotate_left 2; (focus (simp only [Ze, Zg, seval, if_true, if_false, reduceCtorEq, Nat.reduceEqDiff]; with_reducible rfl)); (focus simp); focus (first | with_reducible rfl | (simp only [Zv]; done)))
theorem k_impl_CutsOf (v : Value) (t : List Int) (w : World) (h : Rd (RS RI) w [v] t) : Calls Try.prog 19 #[v] w (RetOC (RS RCut) w (coOf t).1 (coOf t).2) :=
  AFn.oi encK (a_impl_CutsOf t) (args1 (arg_L h))
theorem a_spec_CutsOf (t : List Int) (hsz : t.length ≤ 1048576) : ∃ b, AFn Try.prog 18 [eL t] (· = [.own 3 ((coOf t).1.map eK) b, .val (.int (coOf t).2)]) := by
  have hl := a_spec_l03Is t hsz
  simp only [eL] at hl
  unfold coOf
  by_cases h8 : lev8 t = true
  · rw [h8] at hl
    have hlev := lev8_lev h8
    have hca := AFn.valT (a_l03Canon t hlev (lev8_len h8))
    have hc : AFn Try.prog 31 [eL (canon t)] (· = [.own 3 ((cutsL (canon t)).map eK) false]) := a_l05Cuts (canon t) (canon_lev hlev) (canon_idem hlev) (by rw [canon_len hlev]; exact lev8_len h8)
    have hcc : cutsL (canon t) = cutsL t := by unfold cutsL; rw [gath_canon hlev]
    rw [hcc] at hc
    simp only [eL] at hc hca
    rw [if_pos h8]
    refine ⟨false, ?_⟩
    refine AFn.of_runs (cfg_ok 10) Try.func18 rfl rfl rfl (by simp only [List.length_cons, List.length_nil]; decide) ?_
    have hres : Try.f18.results.toList = [.tmp 2, .tmp 3] := rfl
    have hrts : Try.f18.resultTypes.toList = [34, 2] := rfl
    simp only [argRegs, argAV1, eL, eI, eLL, eB, Nat.zero_add, Nat.reduceAdd]
    intro M
    refine RunK.of ?_
    repeat' (first | with_reducible (first | refine Q1 ?_ | refine Q2 ?_ | refine Q3 ?_ | refine Q4 ?_ | refine Q5 ?_ | refine Q6 ?_ | refine Q7 ?_ | refine Q8 ?_ | refine Q9 ?_ | refine Qa ?_ | refine Qb ?_ | refine Qc ?_ | refine Qd ?_ | refine Qe ?_ | refine Qf ?_) | ((with_reducible refine Qo ?_ ?_); focus rfl) | ((with_reducible first | refine QT 4 (l := ?_) ?_ ?_ | refine QF 4 (l := ?_) ?_ ?_); rotate_left 1; focus (simp only [Zu, Nat.reduceSub, Nat.reduceBEq]; with_reducible rfl)) | ((with_reducible first | refine QS (cfg_ok 10) (((Tab.none.at' 30 hl).at' 32 hca).at' 31 hc) (s' := ?_) ?_ ?_ | refine QC (b := ?_) ?_ ?_); rotate_left 1; focus ((with_reducible refine QW ?_); simp only [Zg, seval, if_true, if_false, reduceCtorEq, Nat.reduceEqDiff]; with_reducible rfl)))
    (refine Ends.mk (by simp) (rs := ?_) (ks := ?_) hres hrts ?_ ?_ ?_; rotate_left 2; (focus (simp only [Ze, Zg, seval, if_true, if_false, reduceCtorEq, Nat.reduceEqDiff]; with_reducible rfl)); (focus simp); focus (first | with_reducible rfl | (simp only [Zv]; done)))
  · have h8' : lev8 t = false := by simpa using h8
    rw [h8'] at hl
    rw [if_neg h8]
    refine ⟨true, ?_⟩
    refine AFn.of_runs (cfg_ok 10) Try.func18 rfl rfl rfl (by simp only [List.length_cons, List.length_nil]; decide) ?_
    have hres : Try.f18.results.toList = [.tmp 2, .tmp 3] := rfl
    have hrts : Try.f18.resultTypes.toList = [34, 2] := rfl
    simp only [argRegs, argAV1, eL, eI, eLL, eB, Nat.zero_add, Nat.reduceAdd]
    intro M
    refine RunK.of ?_
    repeat' (first | with_reducible (first | refine Q1 ?_ | refine Q2 ?_ | refine Q3 ?_ | refine Q4 ?_ | refine Q5 ?_ | refine Q6 ?_ | refine Q7 ?_ | refine Q8 ?_ | refine Q9 ?_ | refine Qa ?_ | refine Qb ?_ | refine Qc ?_ | refine Qd ?_ | refine Qe ?_ | refine Qf ?_) | ((with_reducible refine Qo ?_ ?_); focus rfl) | ((with_reducible first | refine QT 4 (l := ?_) ?_ ?_ | refine QF 4 (l := ?_) ?_ ?_); rotate_left 1; focus (simp only [Zu, Nat.reduceSub, Nat.reduceBEq]; with_reducible rfl)) | ((with_reducible first | refine QS (cfg_ok 10) (Tab.none.at' 30 hl) (s' := ?_) ?_ ?_ | refine QC (b := ?_) ?_ ?_); rotate_left 1; focus ((with_reducible refine QW ?_); simp only [Zg, seval, if_true, if_false, reduceCtorEq, Nat.reduceEqDiff]; with_reducible rfl)))
    (refine Ends.mk (by simp) (rs := ?_) (ks := ?_) hres hrts ?_ ?_ ?_; rotate_left 2; (focus (simp only [Ze, Zg, seval, if_true, if_false, reduceCtorEq, Nat.reduceEqDiff]; with_reducible rfl)); (focus simp); focus (first | with_reducible rfl | (simp only [Zv]; done)))
theorem k_spec_CutsOf (v : Value) (t : List Int) (w : World) (h : Rd (RS RI) w [v] t) (hsz : t.length ≤ 1048576) : Calls Try.prog 18 #[v] w (RetGI (RS RCut) w (coOf t).1 (coOf t).2) := by
  obtain ⟨b, hb⟩ := a_spec_CutsOf t hsz
  exact AFn.gi encK (by cases b <;> first | exact .inl rfl | exact .inr (.inl rfl)) hb (args1 (arg_L h))
end Go.Proofs.Ytkdkikmhlhcndaa
namespace Go.Proofs.Ytkdkikmhlhcndaa
open Go.RowKit
set_option maxHeartbeats 1000000 in
theorem walk_FnExactCutsOf (v0 : Value) (x0 : List Int) (w : World) (h0 : Rd (RS RI) w [v0] x0) : Calls Try.prog 5 #[v0] w (RetV w (.bool true)) := by
  obtain ⟨a0, c0, hv0, hl0, hm0⟩ := h0.val
  unfold maxLen at hm0
  by_cases z0 : x0.length ≤ 1048576
  rotate_left
  · subst hv0
    go_enter Try.func5, Try.ntmps5
    go_wp2_with fail
    go_ret
    exact ⟨rfl, Below.refl _ _⟩
  subst hv0
  go_enter Try.func5, Try.ntmps5
  go_wp2_with fail
  refine (to_I _ x0 _ h0 z0).mono ?_
  rintro e w1 ⟨u1, rfl, o1, B1⟩
  have s1 := B1.size
  have BB := B1.mono (B' := w.heap.size) (by omega)
  go_wp2_with fail
  refine (k_spec_CutsOf _ x0 _ o1.rd z0).mono ?_
  rintro e w2 ⟨u2, rfl, o2, B2⟩
  have s2 := B2.size
  replace o1 := o1.below B2 (by omega)
  replace BB := BB.trans (B2.mono (B' := w.heap.size) (by omega))
  go_wp2_with fail
  refine (to_I _ x0 _ (h0.below BB (Nat.le_refl _)) z0).mono ?_
  rintro e w3 ⟨u3, rfl, o3, B3⟩
  have s3 := B3.size
  replace o1 := o1.below B3 (by omega)
  replace o2 := o2.below B3 (by omega)
  replace BB := BB.trans (B3.mono (B' := w.heap.size) (by omega))
  go_wp2_with fail
  refine (k_impl_CutsOf _ x0 _ o3.rd).mono ?_
  rintro e w4 ⟨u4, rfl, o4, B4⟩
  have s4 := B4.size
  replace o1 := o1.below B4 (by omega)
  replace o2 := o2.below B4 (by omega)
  replace o3 := o3.below B4 (by omega)
  replace BB := BB.trans (B4.mono (B' := w.heap.size) (by omega))
  go_wp2_with fail
  refine (eqv_K _ _ (coOf x0).1 _ o4.rd o2.rd).mono ?_
  rintro e w5 ⟨rfl, B5⟩
  have s5 := B5.size
  replace o1 := o1.below B5 (by omega)
  replace o2 := o2.below B5 (by omega)
  replace o3 := o3.below B5 (by omega)
  replace o4 := o4.below B5 (by omega)
  replace BB := BB.trans (B5.mono (B' := w.heap.size) (by omega))
  go_wp2_with fail
  refine (to_I _ x0 _ (h0.below BB (Nat.le_refl _)) z0).mono ?_
  rintro e w6 ⟨u6, rfl, o6, B6⟩
  have s6 := B6.size
  replace o1 := o1.below B6 (by omega)
  replace o2 := o2.below B6 (by omega)
  replace o3 := o3.below B6 (by omega)
  replace o4 := o4.below B6 (by omega)
  replace BB := BB.trans (B6.mono (B' := w.heap.size) (by omega))
  go_wp2_with fail
  refine (eqv_I _ _ x0 _ o3.rd o6.rd).mono ?_
  rintro e w7 ⟨rfl, B7⟩
  have s7 := B7.size
  replace o1 := o1.below B7 (by omega)
  replace o2 := o2.below B7 (by omega)
  replace o3 := o3.below B7 (by omega)
  replace o4 := o4.below B7 (by omega)
  replace o6 := o6.below B7 (by omega)
  replace BB := BB.trans (B7.mono (B' := w.heap.size) (by omega))
  go_wp2_with fail
  have p8 := cntb_I x0 z0
  refine (mark_I _ x0 _ _ 1 _ o3 (by omega) (by omega)).mono ?_
  rintro e w8 ⟨rfl, o3n, B8⟩
  have s8 := B8.size
  replace o1 := o1.apart B8 (by omega)
  replace o2 := o2.apart B8 (by omega)
  replace o4 := o4.apart B8 (by omega)
  replace o6 := o6.apart B8 (by omega)
  replace o3 := o3n
  clear o3n
  replace BB := BB.trans (B8.below (B := w.heap.size) (by omega) (by omega))
  go_wp2_with fail
  refine (eqv_K _ _ (coOf x0).1 _ o4.rd o2.rd).mono ?_
  rintro e w9 ⟨rfl, B9⟩
  have s9 := B9.size
  replace o1 := o1.below B9 (by omega)
  replace o2 := o2.below B9 (by omega)
  replace o3 := o3.below B9 (by omega)
  replace o4 := o4.below B9 (by omega)
  replace o6 := o6.below B9 (by omega)
  replace BB := BB.trans (B9.mono (B' := w.heap.size) (by omega))
  go_wp2_with fail
  have p10 := coOf_cnt x0
  refine (mark_K _ (coOf x0).1 _ _ 1 _ o4 (by omega) (by omega)).mono ?_
  rintro e w10 ⟨rfl, o4n, B10⟩
  have s10 := B10.size
  replace o1 := o1.apart B10 (by omega)
  replace o2 := o2.apart B10 (by omega)
  replace o3 := o3.apart B10 (by omega)
  replace o6 := o6.apart B10 (by omega)
  replace o4 := o4n
  clear o4n
  replace BB := BB.trans (B10.below (B := w.heap.size) (by omega) (by omega))
  go_wp2_with fail
  refine (held_K _ (coOf x0).1 1 _ o4.rd (by omega) (by omega)).mono ?_
  rintro e w11 ⟨rfl, B11⟩
  have s11 := B11.size
  replace o1 := o1.below B11 (by omega)
  replace o2 := o2.below B11 (by omega)
  replace o3 := o3.below B11 (by omega)
  replace o4 := o4.below B11 (by omega)
  replace o6 := o6.below B11 (by omega)
  replace BB := BB.trans (B11.mono (B' := w.heap.size) (by omega))
  go_wp2_with fail
  refine (to_I _ x0 _ (h0.below BB (Nat.le_refl _)) z0).mono ?_
  rintro e w12 ⟨u12, rfl, o12, B12⟩
  have s12 := B12.size
  replace o1 := o1.below B12 (by omega)
  replace o2 := o2.below B12 (by omega)
  replace o3 := o3.below B12 (by omega)
  replace o4 := o4.below B12 (by omega)
  replace o6 := o6.below B12 (by omega)
  replace BB := BB.trans (B12.mono (B' := w.heap.size) (by omega))
  go_wp2_with fail
  refine (k_impl_CutsOf _ x0 _ o12.rd).mono ?_
  rintro e w13 ⟨u13, rfl, o13, B13⟩
  have s13 := B13.size
  replace o1 := o1.below B13 (by omega)
  replace o2 := o2.below B13 (by omega)
  replace o3 := o3.below B13 (by omega)
  replace o4 := o4.below B13 (by omega)
  replace o6 := o6.below B13 (by omega)
  replace o12 := o12.below B13 (by omega)
  replace BB := BB.trans (B13.mono (B' := w.heap.size) (by omega))
  go_wp2_with fail
  refine (eqv_K _ _ (coOf x0).1 _ o13.rd o2.rd).mono ?_
  rintro e w14 ⟨rfl, B14⟩
  have s14 := B14.size
  replace o1 := o1.below B14 (by omega)
  replace o2 := o2.below B14 (by omega)
  replace o3 := o3.below B14 (by omega)
  replace o4 := o4.below B14 (by omega)
  replace o6 := o6.below B14 (by omega)
  replace o12 := o12.below B14 (by omega)
  replace o13 := o13.below B14 (by omega)
  replace BB := BB.trans (B14.mono (B' := w.heap.size) (by omega))
  go_wp2_with fail
  refine (held_K _ (coOf x0).1 1 _ o4.rd (by omega) (by omega)).mono ?_
  rintro e w15 ⟨rfl, B15⟩
  have s15 := B15.size
  replace o1 := o1.below B15 (by omega)
  replace o2 := o2.below B15 (by omega)
  replace o3 := o3.below B15 (by omega)
  replace o4 := o4.below B15 (by omega)
  replace o6 := o6.below B15 (by omega)
  replace o12 := o12.below B15 (by omega)
  replace o13 := o13.below B15 (by omega)
  replace BB := BB.trans (B15.mono (B' := w.heap.size) (by omega))
  go_wp2_with fail
  go_ret
  exact ⟨rfl, BB⟩
end Go.Proofs.Ytkdkikmhlhcndaa
