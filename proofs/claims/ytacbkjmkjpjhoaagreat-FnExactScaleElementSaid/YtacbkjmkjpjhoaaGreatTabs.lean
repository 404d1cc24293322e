/- Contracts as entries of tables; what is returned, in the form that the laws' walks ask for. -/
import Derived.Test.YtacbkjmkjpjhoaaGreatCod
import Derived.Test.YtacbkjmkjpjhoaaGreatMarkF
set_option linter.unusedSimpArgs false
set_option linter.unusedVariables false
namespace Go.Proofs.YtacbkjmkjpjhoaaGreat
open Go.RowKit

theorem mixed_ok : Tryz.prog.follows .mixedOrders = true := by kernel_rfl

section
variable {P : Program} {f : FuncId}
theorem rdLL {A : Nat → Prop} {w : World} {xs : List (List Int)} {v : Value} (h : relArg A w (eLL xs) v) : (RS (RS RI)).rd A w [v] xs := ((encS (encS encI)).rdV (x := xs) rfl).2 h
theorem arg_int {A : Nat → Prop} {w : World} {n : Int} {v : Value} (h : relArg A w (eI n) v) : v = .int .i64 n := (rdV_int.1 h).1
theorem arg_bool {A : Nat → Prop} {w : World} {n : Bool} {v : Value} (h : relArg A w (eB n) v) : v = .bool n := rdV_bool.1 h

/-- One list; a value. -/
theorem afn_L_s {t : List Int} {d : D} {v : Value} (eg : ∀ args w, (callFunc f args).run P w = .ok (.enter f args) w) (hd : ∀ A w, rdV A w v d) (h : ∀ u w, Rd (RS RI) w [u] t → Calls P f #[u] w (RetS w v)) : AFn P f [eL t] (· = [.val d]) :=
  AFn.of_s eg hd (fun w A vs ⟨v1, _, e1, h1, e2⟩ => by subst e2; subst e1; exact h v1 w (Rd.of (rd1 h1)))
theorem afn_L_q {t : List Int} {d : D} {v : Value} (eg : ∀ args w, (callFunc f args).run P w = .ok (.enter f args) w) (hd : ∀ A w, rdV A w v d) (h : ∀ u w, Rd (RS RI) w [u] t → Calls P f #[u] w (RetQ w v)) : AFn P f [eL t] (· = [.val d]) :=
  AFn.of_q eg hd (fun w A vs ⟨v1, _, e1, h1, e2⟩ => by subst e2; subst e1; exact h v1 w (Rd.of (rd1 h1)))
theorem afn_LL_s {s t : List Int} {d : D} {v : Value} (eg : ∀ args w, (callFunc f args).run P w = .ok (.enter f args) w) (hd : ∀ A w, rdV A w v d) (h : ∀ u1 u2 w, Rd (RS RI) w [u1] s → Rd (RS RI) w [u2] t → Calls P f #[u1, u2] w (RetS w v)) : AFn P f [eL s, eL t] (· = [.val d]) :=
  AFn.of_s eg hd (fun w A vs ⟨v1, _, e1, h1, v2, _, e2, h2, e3⟩ => by subst e3; subst e2; subst e1; exact h v1 v2 w (Rd.of (rd1 h1)) (Rd.of (rd1 h2)))
theorem afn_LL_q {s t : List Int} {d : D} {v : Value} (eg : ∀ args w, (callFunc f args).run P w = .ok (.enter f args) w) (hd : ∀ A w, rdV A w v d) (h : ∀ u1 u2 w, Rd (RS RI) w [u1] s → Rd (RS RI) w [u2] t → Calls P f #[u1, u2] w (RetQ w v)) : AFn P f [eL s, eL t] (· = [.val d]) :=
  AFn.of_q eg hd (fun w A vs ⟨v1, _, e1, h1, v2, _, e2, h2, e3⟩ => by subst e3; subst e2; subst e1; exact h v1 v2 w (Rd.of (rd1 h1)) (Rd.of (rd1 h2)))
/-- A list; a list of its own. -/
theorem afn_L_o {t r : List Int} (eg : ∀ args w, (callFunc f args).run P w = .ok (.enter f args) w) (h : ∀ u w, Rd (RS RI) w [u] t → Calls P f #[u] w (RetO (RS RI) w r)) : AFn P f [eL t] (· = [.own 1 (r.map eI) true]) :=
  AFn.of_o encI eg (fun w A vs ⟨v1, _, e1, h1, e2⟩ => by subst e2; subst e1; exact h v1 w (Rd.of (rd1 h1)))
theorem afn_LI_o {t r : List Int} {n : Int} (eg : ∀ args w, (callFunc f args).run P w = .ok (.enter f args) w) (h : ∀ u w, Rd (RS RI) w [u] t → Calls P f #[u, .int .i64 n] w (RetO (RS RI) w r)) : AFn P f [eL t, eI n] (· = [.own 1 (r.map eI) true]) :=
  AFn.of_o encI eg (fun w A vs ⟨v1, _, e1, h1, v2, _, e2, h2, e3⟩ => by subst e3; subst e2; subst e1; rw [arg_int h2]; exact h v1 w (Rd.of (rd1 h1)))
theorem afn_LIL_o {t s r : List Int} {n : Int} (eg : ∀ args w, (callFunc f args).run P w = .ok (.enter f args) w) (h : ∀ u1 u2 w, Rd (RS RI) w [u1] t → Rd (RS RI) w [u2] s → Calls P f #[u1, .int .i64 n, u2] w (RetO (RS RI) w r)) : AFn P f [eL t, eI n, eL s] (· = [.own 1 (r.map eI) true]) :=
  AFn.of_o encI eg (fun w A vs ⟨v1, _, e1, h1, v2, _, e2, h2, v3, _, e3, h3, e4⟩ => by subst e4; subst e3; subst e2; subst e1; rw [arg_int h2]; exact h v1 v3 w (Rd.of (rd1 h1)) (Rd.of (rd1 h3)))
/-- A list; a list of lists of its own. -/
theorem afn_L_oo {t : List Int} {r : List (List Int)} (eg : ∀ args w, (callFunc f args).run P w = .ok (.enter f args) w) (h : ∀ u w, Rd (RS RI) w [u] t → Calls P f #[u] w (RetO (RS (RS RI)) w r)) : AFn P f [eL t] (· = [.own 1 (r.map eL) true]) :=
  AFn.of_o (encS encI) eg (fun w A vs ⟨v1, _, e1, h1, e2⟩ => by subst e2; subst e1; exact h v1 w (Rd.of (rd1 h1)))
/-- A list of lists; a list, a list of lists of its own. -/
theorem afn_LLL_oo {t r : List (List Int)} (eg : ∀ args w, (callFunc f args).run P w = .ok (.enter f args) w) (h : ∀ u w, Rd (RS (RS RI)) w [u] t → Calls P f #[u] w (RetO (RS (RS RI)) w r)) : AFn P f [eLL t] (· = [.own 1 (r.map eL) true]) :=
  AFn.of_o (encS encI) eg (fun w A vs ⟨v1, _, e1, h1, e2⟩ => by subst e2; subst e1; exact h v1 w (Rd.of (rdLL h1)))
theorem afn_LLL_o {t : List (List Int)} {r : List Int} (eg : ∀ args w, (callFunc f args).run P w = .ok (.enter f args) w) (h : ∀ u w, Rd (RS (RS RI)) w [u] t → Calls P f #[u] w (RetO (RS RI) w r)) : AFn P f [eLL t] (· = [.own 1 (r.map eI) true]) :=
  AFn.of_o encI eg (fun w A vs ⟨v1, _, e1, h1, e2⟩ => by subst e2; subst e1; exact h v1 w (Rd.of (rdLL h1)))
theorem afn_LLL_s {t : List (List Int)} {d : D} {v : Value} (eg : ∀ args w, (callFunc f args).run P w = .ok (.enter f args) w) (hd : ∀ A w, rdV A w v d) (h : ∀ u w, Rd (RS (RS RI)) w [u] t → Calls P f #[u] w (RetS w v)) : AFn P f [eLL t] (· = [.val d]) :=
  AFn.of_s eg hd (fun w A vs ⟨v1, _, e1, h1, e2⟩ => by subst e2; subst e1; exact h v1 w (Rd.of (rdLL h1)))
theorem afn_LLL_q {t : List (List Int)} {d : D} {v : Value} (eg : ∀ args w, (callFunc f args).run P w = .ok (.enter f args) w) (hd : ∀ A w, rdV A w v d) (h : ∀ u w, Rd (RS (RS RI)) w [u] t → Calls P f #[u] w (RetQ w v)) : AFn P f [eLL t] (· = [.val d]) :=
  AFn.of_q eg hd (fun w A vs ⟨v1, _, e1, h1, e2⟩ => by subst e2; subst e1; exact h v1 w (Rd.of (rdLL h1)))
theorem afn_III_s {x y z : Int} {d : D} {v : Value} (eg : ∀ args w, (callFunc f args).run P w = .ok (.enter f args) w) (hd : ∀ A w, rdV A w v d) (h : ∀ w, Calls P f #[.int .i64 x, .int .i64 y, .int .i64 z] w (RetS w v)) : AFn P f [eI x, eI y, eI z] (· = [.val d]) :=
  AFn.of_s eg hd (fun w A vs ⟨v1, _, e1, h1, v2, _, e2, h2, v3, _, e3, h3, e4⟩ => by subst e4; subst e3; subst e2; subst e1; rw [arg_int h1, arg_int h2, arg_int h3]; exact h w)
theorem afn_I_s {x : Int} {d : D} {v : Value} (eg : ∀ args w, (callFunc f args).run P w = .ok (.enter f args) w) (hd : ∀ A w, rdV A w v d) (h : ∀ w, Calls P f #[.int .i64 x] w (RetS w v)) : AFn P f [eI x] (· = [.val d]) :=
  AFn.of_s eg hd (fun w A vs ⟨v1, _, e1, h1, e2⟩ => by subst e2; subst e1; rw [arg_int h1]; exact h w)
end

/-- What is read through blocks of a range. -/
def Rg {α : Type} (R : Rep α) (lo hi : Nat) (w : World) (cs : List Value) (x : α) : Prop := R.rd (fun b => lo ≤ b ∧ b < hi) w cs x
theorem Rg.rd {α : Type} {R : Rep α} {lo hi : Nat} {w : World} {cs : List Value} {x : α} (h : Rg R lo hi w cs x) : Rd R w cs x := R.rd_mono h (fun _ _ h => h)
theorem Rg.frame {α : Type} {R : Rep α} {lo hi : Nat} {w w' : World} {cs : List Value} {x : α} (h : Rg R lo hi w cs x) (hf : ∀ b, lo ≤ b → b < hi → b < w.heap.size → w'.heap[b]? = w.heap[b]?) : Rg R lo hi w' cs x := R.rd_frame h (fun b hb hl => hf b hb.1 hb.2 hl)
theorem Rg.below {α : Type} {R : Rep α} {lo hi B : Nat} {w w' : World} {cs : List Value} {x : α} (h : Rg R lo hi w cs x) (hb : Below B w w') (hB : hi ≤ B) : Rg R lo hi w' cs x := h.frame (fun b _ h2 _ => hb.block b (by omega))
theorem Rg.apart {α : Type} {R : Rep α} {w w' : World} {cs : List Value} {x : α} {lo hi l h : Nat} (o : Rg R l h w cs x) (c : Chg lo hi w w') (ha : h ≤ lo ∨ hi ≤ l) : Rg R l h w' cs x := o.frame (fun b h1 h2 h3 => c.block b h3 (by omega))

/-- A list of its own and a number; a list that is read and a number. -/
def RetOI {α : Type} (R : Rep α) (w : World) (x : α) (c : Int) : Ending → World → Prop := fun e w' => ∃ u, e = .returned (.tuple #[u, .int .i64 c]) ∧ Own R w.heap.size w'.heap.size w' [u] x ∧ Below w.heap.size w w'
def RetGI {α : Type} (R : Rep α) (w : World) (x : α) (c : Int) : Ending → World → Prop := fun e w' => ∃ u, e = .returned (.tuple #[u, .int .i64 c]) ∧ Rg R 0 w'.heap.size w' [u] x ∧ Below w.heap.size w w'

section
variable {P : Program} {f : FuncId} {α : Type} {R : Rep α} {e : α → List D}
theorem AFn.oi (E : Enc R e) {ds : List (List D)} {xs : List α} {c : Int} (h : AFn P f ds (· = [.own R.k (xs.map e) true, .val (.int c)])) {w : World} {vs : List Value} (hv : relArgs (· < w.heap.size) w ds vs) :
    Calls P f vs.toArray w (RetOI (RS R) w xs c) := by
  refine (h.fn _ w vs (fun _ h => h) hv).mono ?_
  rintro e' w' ⟨v, rs, rfl, rfl, hb, us, G, X, rfl, hG, hG2, u, us', G1, G2, Y1, Y2, rfl, rfl, rfl, h1, ⟨og, cap, F, dd, rfl, hrow, hk, rfl, rfl, hel⟩, u2, us2, G3, G4, Y3, Y4, rfl, rfl, rfl, h2, ⟨h3, rfl, rfl⟩, rfl, rfl, rfl⟩
  obtain ⟨rfl, _⟩ := rdV_int.1 h3
  obtain ⟨d, hk', hel⟩ := hel
  simp only [List.length_map] at hrow
  have hel' := enc_ownL_of E hel
  refine ⟨_, rfl, ⟨og.toList ++ F, ⟨slv og xs.length cap, og, dd, F, by rw [List.length_map], hrow, hel', rfl⟩, ?_, fun b hb' => ⟨hG2 b (by simpa using hb'), ?_⟩⟩, hb⟩
  · simpa using hG
  · rcases List.mem_append.1 hb' with hb' | hb'
    · exact hrow.lt b (by simpa using hb')
    · exact hel'.lt b hb'
/-- The list, own or read. -/
theorem AFn.gi (E : Enc R e) {ds : List (List D)} {xs : List α} {c : Int} {r : Res} (hr : r = .own R.k (xs.map e) true ∨ r = .own R.k (xs.map e) false ∨ r = .val (.sl R.k (xs.map e))) (h : AFn P f ds (· = [r, .val (.int c)])) {w : World} {vs : List Value} (hv : relArgs (· < w.heap.size) w ds vs) :
    Calls P f vs.toArray w (RetGI (RS R) w xs c) := by
  refine (h.fn _ w vs (fun _ h => h) hv).mono ?_
  rintro e' w' ⟨v, rs, rfl, rfl, hb, us, G, X, rfl, hG, hG2, u, us', G1, G2, Y1, Y2, rfl, rfl, rfl, h1, hr1, u2, us2, G3, G4, Y3, Y4, rfl, rfl, rfl, h2, ⟨h3, rfl, rfl⟩, rfl, rfl, rfl⟩
  obtain ⟨rfl, _⟩ := rdV_int.1 h3
  refine ⟨u, rfl, ?_, hb⟩
  have key : rdV (fun b => 0 ≤ b ∧ b < w'.heap.size) w' u (.sl R.k (xs.map e)) := by
    rcases hr with rfl | rfl | rfl
    · obtain ⟨og, cap, F, dd, rfl, hrow, hk, _, _, hel⟩ := hr1
      have hel : ownR R.k w' dd (xs.map e) F := hel
      have := ownV_sl.2 ⟨og, dd, F, hrow, hel, rfl⟩
      exact this.rd.mono (fun b hb _ => ⟨Nat.zero_le _, this.lt b hb⟩)
    · obtain ⟨og, cap, F, dd, rfl, hrow, hk, _, _, hel⟩ := hr1
      have hel : rdR R.k _ w' dd (xs.map e) := hel
      obtain ⟨oa, c', ev, k1, k2, k3, k4⟩ := hrow.value
      rw [ev]
      refine rdV_sl.2 ⟨oa, c', dd, rfl, k1, k2, k3, hel.mono (fun b _ hb => ⟨Nat.zero_le _, hb⟩), ?_⟩
      cases og with
      | none =>
        left
        have h0 := hrow.len0
        exact List.eq_nil_of_length_eq_zero (by rw [hrow.1, h0, Nat.zero_mul])
      | some g =>
        refine .inr ⟨g, 0, k4, ⟨Nat.zero_le _, hrow.lt g rfl⟩, fun j u hj => ?_⟩
        rw [Nat.zero_add]
        exact hrow.cells j u hj
    · exact hr1.1.mono (fun b _ hb => ⟨Nat.zero_le _, hb⟩)
  exact ((encS E).rdV (x := xs) rfl).2 key
/-- Two numbers. -/
theorem AFn.ii {ds : List (List D)} {v : Value} {d : D} {c : Int} (hd : ∀ A w u, rdV A w u d → u = v) (h : AFn P f ds (· = [.val d, .val (.int c)])) {w : World} {vs : List Value} (hv : relArgs (· < w.heap.size) w ds vs) :
    Calls P f vs.toArray w (RetV w (.tuple #[v, .int .i64 c])) := by
  refine (h.fn _ w vs (fun _ h => h) hv).mono ?_
  rintro e' w' ⟨v', rs, rfl, rfl, hb, us, G, X, rfl, hG, hG2, u, us', G1, G2, Y1, Y2, rfl, rfl, rfl, h1, ⟨h4, _, _⟩, u2, us2, G3, G4, Y3, Y4, rfl, rfl, rfl, h2, ⟨h3, rfl, rfl⟩, rfl, rfl, rfl⟩
  obtain ⟨rfl, _⟩ := rdV_int.1 h3
  rw [hd _ _ _ h4]
  exact ⟨rfl, hb⟩
theorem AFn.one {ds : List (List D)} {v : Value} {d : D} (hd : ∀ A w u, rdV A w u d → u = v) (h : AFn P f ds (· = [.val d])) {w : World} {vs : List Value} (hv : relArgs (· < w.heap.size) w ds vs) :
    Calls P f vs.toArray w (RetV w v) := by
  refine (h.fn _ w vs (fun _ h => h) hv).mono ?_
  rintro e' w' ⟨v', rs, rfl, rfl, hb, us, G, X, rfl, hG, hG2, u, us', G1, G2, Y1, Y2, rfl, rfl, rfl, h1, ⟨h4, _, _⟩, rfl, rfl, rfl⟩
  rw [hd _ _ _ h4]
  exact ⟨rfl, hb⟩
theorem arg_L {w : World} {u : Value} {xs : List Int} (h : Rd (RS RI) w [u] xs) : relArg (· < w.heap.size) w (eL xs) u := rd_dL.2 h
theorem arg_LL {w : World} {u : Value} {xs : List (List Int)} (h : Rd (RS (RS RI)) w [u] xs) : relArg (· < w.heap.size) w (eLL xs) u := ((encS (encS encI)).rdV (x := xs) rfl).1 h
theorem arg_I {w : World} {n : Int} (h : In64 n) : relArg (· < w.heap.size) w (eI n) (.int .i64 n) := rdV_int.2 ⟨rfl, h⟩
theorem args1 {w : World} {a : List D} {u : Value} (h : relArg (· < w.heap.size) w a u) : relArgs (· < w.heap.size) w [a] [u] := ⟨u, [], rfl, h, rfl⟩
theorem args2 {w : World} {a b : List D} {u v : Value} (h : relArg (· < w.heap.size) w a u) (k : relArg (· < w.heap.size) w b v) : relArgs (· < w.heap.size) w [a, b] [u, v] := ⟨u, [v], rfl, h, args1 k⟩
theorem args3 {w : World} {a b c : List D} {u v x : Value} (h : relArg (· < w.heap.size) w a u) (k : relArg (· < w.heap.size) w b v) (l : relArg (· < w.heap.size) w c x) : relArgs (· < w.heap.size) w [a, b, c] [u, v, x] := ⟨u, [v, x], rfl, h, args2 k l⟩
end

/-- Lists with the blocks that they own. -/
def eLT (p : List Int × List Nat) : List D := [.tag p.2 (.sl 1 (p.1.map eI))]
theorem tag_rows : ∀ {rows : List (List Int)} {xs' : List (List D)} {F : List Nat}, TagL (rows.map eL) xs' F → ∃ ps : List (List Int × List Nat), rows = ps.map (·.1) ∧ xs' = ps.map eLT ∧ F = (ps.map (·.2)).flatten
  | [], xs', F, ⟨h1, h2⟩ => ⟨[], rfl, h1, h2⟩
  | r :: rows, xs', F, ⟨y, ys, G, H, h1, h2, h3, h4⟩ => by
    obtain ⟨ps, e1, e2, e3⟩ := tag_rows h4
    obtain ⟨y', ys', G', H', k1, k2, k3, k4, k5⟩ := h3
    subst k4; subst k5
    rcases k3 with rfl | ⟨k3, _⟩
    · exact ⟨(r, G') :: ps, by rw [e1]; rfl, by rw [h1, k1, e2]; rfl, by rw [h2, k2, e3]; simp⟩
    · cases k3
end Go.Proofs.YtacbkjmkjpjhoaaGreat
