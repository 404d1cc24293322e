/- clear and s[:n]; rows handed over; DeleteFunc at rows of lists. -/
import Derived.Test.YtacbkjmkjpjhoaaGreatMc
import Derived.Test.YtacbkjmkjpjhoaaGreatTabs
set_option linter.unusedSimpArgs false
set_option linter.unusedVariables false
/- s[:n] of a row that is used no more: the row's first n elements. -/
namespace Go.Proofs.YtacbkjmkjpjhoaaGreat
open Go.RowKit

theorem Row.take {w : World} {k n m cap : Nat} {ds : List Value} {og : Option Nat} (h : Row w (slv og n cap) k n ds og) (hm : m ≤ n) : Row w (slv og m cap) k m (ds.take (m * k)) og := by
  refine ⟨by rw [List.length_take, h.1]; exact Nat.min_eq_left (Nat.mul_le_mul_right k hm), ?_⟩
  rcases h.2 with ⟨h1, h2, h3⟩ | ⟨g, c, cur, e, h1, h2, h3, h4, h5, h6, h7⟩
  · subst h3
    exact .inl ⟨rfl, by omega, rfl⟩
  · subst h2
    have hc : cap = c := by
      unfold slv at h1
      simp only [Value.slice.injEq] at h1
      exact h1.2.2
    subst hc
    refine .inr ⟨g, cap, cur, e, rfl, rfl, h3, by omega, h5, h6, ?_⟩
    rw [← h7, List.take_take, Nat.min_eq_left (Nat.mul_le_mul_right k hm)]

section
variable {P : Program} {cfg : Cfg} {M : Nat → Prop} {w0 : W0} {w w' : World} {Ok : Nat → Prop} {N : Nat} {σ : Asg} {s : St} {a : Act} {ops : Array Oper}

theorem Sim.trunc (h : Sim w0 Ok N σ s a w) {key k n : Nat} {xs : List (List D)} {d : Bool} (hk : look key s.heap = some (.row k xs d)) (hn : n ≤ xs.length) (hnr : ∀ q u, q ≠ key → look q s.heap = some u → key ∉ u.refs) :
    Sim w0 Ok N σ ⟨killR key s.regs, insR key (.row k (xs.take n) false) s.heap⟩ a w := by
  have hro := h.rows key _ hk
  obtain ⟨ds, hrow, hkp, hrd⟩ := RowOK.rd h.ok1 h.rows h.disj hk
  have hlen : (xs.take n).length = n := by rw [List.length_take]; omega
  have hfp0 : ∀ b ∈ fp σ key (.row k (xs.take n) false), b ∈ fp σ key (.row k xs d) := by
    intro b hb
    have hb : b ∈ (σ.g key).toList ++ [] := hb
    rw [List.append_nil] at hb
    exact List.mem_append_left _ hb
  have hl : ∀ q o', look q (insR key (.row k (xs.take n) false) s.heap) = some o' → (q = key ∧ o' = .row k (xs.take n) false) ∨ (q ≠ key ∧ look q s.heap = some o') := by
    intro q o' ho'
    rw [look_ins] at ho'
    split at ho'
    · rename_i e; cases ho'; exact .inl ⟨e.symm, rfl⟩
    · rename_i e; exact .inr ⟨fun e' => e e'.symm, ho'⟩
  have hZ : Kept σ σ s.heap (insR key (.row k (xs.take n) false) s.heap) w w := fun b hb => ⟨⟨hb.1, hb.2.1, fun q o' ho' => by
    rcases hl q o' ho' with ⟨rfl, _⟩ | ⟨_, ho⟩
    · exact hb.2.2 q _ hk
    · exact hb.2.2 q _ ho⟩, rfl⟩
  have hst : ∀ q, q ≠ key → Stays σ σ s.heap (insR key (.row k (xs.take n) false) s.heap) q := fun q hq o' ho' => by
    rcases hl q o' ho' with ⟨e, _⟩ | ⟨_, ho⟩
    · exact absurd e hq
    · exact ⟨o', ho, rfl, rfl, rfl, rfl⟩
  refine (h.killed key).step rfl h.below hZ (fun r av hr => ⟨av, hr, .inl ⟨rfl, fun q hq => hst q ?_⟩⟩) (fun q o' ho' => ?_) (fun p o1 q u hp hq hpq b hb hb' => ?_)
  · have hr' : look r (killR key s.regs) = some av := hr
    rw [look_killR] at hr'
    obtain ⟨v, _, rfl⟩ := map_some hr'
    exact (AV.kill_refs hq).1
  · rcases hl q o' ho' with ⟨rfl, rfl⟩ | ⟨hq, ho⟩
    · refine ⟨⟨ds.take (n * k), ?_, hkp, ?_⟩, fun b hb => hro.fresh b (hfp0 b hb), ?_⟩
      · show Row w (slv (σ.g q) (xs.take n).length (σ.cap q)) k (xs.take n).length _ (σ.g q)
        rw [hlen]
        exact Row.take hrow hn
      · show rdR k _ w _ (xs.take n)
        exact (hrd.take n hn).mono (fun b hb _ => (hZ b hb).1)
      · show ((σ.g q).toList ++ []).Nodup
        rw [List.append_nil]
        cases σ.g q <;> simp
    · exact RowOK.keep h.ok1 h.rows h.disj ho hZ (fun q' hq' => hst q' (fun e => hnr q o' hq ho (e ▸ hq'))) rfl rfl rfl (fun _ _ => rfl)
  · have hp2 : ∃ o2, look p s.heap = some o2 ∧ b ∈ fp σ p o2 := by
      rcases hl p o1 hp with ⟨rfl, rfl⟩ | ⟨_, ho⟩
      · exact ⟨_, hk, hfp0 b hb⟩
      · exact ⟨_, ho, hb⟩
    have hq2 : ∃ o2, look q s.heap = some o2 ∧ b ∈ fp σ q o2 := by
      rcases hl q u hq with ⟨rfl, rfl⟩ | ⟨_, ho⟩
      · exact ⟨_, hk, hfp0 b hb'⟩
      · exact ⟨_, ho, hb'⟩
    obtain ⟨o2, ho2, hb2⟩ := hp2
    obtain ⟨u2, hu2, hb3⟩ := hq2
    exact h.disj p o2 q u2 ho2 hu2 hpq b hb2 hb3

theorem cellD_un {z d : D} {k : Nat} {xs : List (List D)} (h : d.un = .sl k xs) : cellD z (.val d) = some (d, false) := by
  cases d with
  | sl => rfl
  | tag => rfl
  | int => cases h
  | bool => cases h
  | raw => cases h

/-- A region in two parts. -/
theorem RunK.regCut (C : CfgOK P cfg) (T : Tab P) {fs : List Fr} {Q : Exit → St → Prop} {id : Nat} (n : Nat) {s1 : St} (ha : Work (aopsT cfg T ops (ops.toList.take n) s) (some s1))
    (h : ROps P cfg M ops (ops.toList.drop n) (outK P cfg M fs Q .normal) s1) : RunK P cfg M (.region id ops false) fs Q s := by
  refine Runs.region ?_
  have e : ops.toList = ops.toList.take n ++ ops.toList.drop n := (List.take_append_drop n _).symm
  have cut : ∀ (l m : List Oper) (s : St), aopsT cfg T ops l s = some s1 → ROps P cfg M ops m (outK P cfg M fs Q .normal) s1 → ROps P cfg M ops (l ++ m) (outK P cfg M fs Q .normal) s := by
    intro l
    induction l with
    | nil => intro m s h1 h2; simp only [aopsT, Option.some.injEq] at h1; subst h1; exact h2
    | cons o l ih =>
      intro m s h1 h2
      simp only [aopsT] at h1
      obtain ⟨s2, h3, h4⟩ := bind_some h1
      exact ROps.stepT C h3 (ih m s2 h4 h2)
  rw [e]
  exact cut _ _ s ha h

theorem ROps.trunc (C : CfgOK P cfg) {o : Oper} {l : List Oper} {Q : St → Prop} {x hi : Operand} {t : TypeId} {i : TyI} {d key m n k : Nat} {xs : List (List D)} {dd : Bool} (ho : o.op = .slice t x none (some hi) none) (hg : o.guard = none) (hd : o.dst = some d) (hdN : d < cfg.N)
    (ht : cfg.sl t = some i) (hx : opv s.regs x = some (.c (.own key m))) (hh : (opv s.regs hi).bind avI = some (n : Int)) (hk : look key s.heap = some (.row k xs dd)) (hle : n ≤ xs.length) (hnr : ∀ q u, q ≠ key → look q s.heap = some u → key ∉ u.refs)
    (h : ROps P cfg M ops l Q ⟨insR d (.c (.own key n)) (killR key s.regs), insR key (.row k (xs.take n) false) s.heap⟩) : ROps P cfg M ops (o :: l) Q s := by
  intro w0 Ok σ a w Q' hM hS hQ
  refine wpList_step (fun K hK => ?_)
  have hw : awanted ops s.regs o = some true := by unfold awanted; rw [hg]
  rw [awanted_spec hS hw]
  simp only [if_true]
  obtain ⟨z, T, _⟩ := C.sl t i ht
  obtain ⟨ti, hti, _, hsz, _⟩ := T.hi
  have hxr := (opv_rel hS hx).2 _ hk
  obtain ⟨e1, e2⟩ := hxr
  have e1 : m = xs.length := e1
  obtain ⟨hv, h3, h4⟩ := bind_some hh
  have hhi : a.eval hi = .int .i64 n := (rdV_int.1 (show rdV (Zn σ s.heap w) w (a.eval hi) (.int n) by
    have hr := opv_rel hS h3
    unfold avI at h4
    split at h4
    · cases h4; exact hr.2
    · cases h4)).1
  have hro := hS.rows key _ hk
  obtain ⟨ds, hrow, _⟩ := hro.row
  have hrow : Row w (slv (σ.g key) xs.length (σ.cap key)) k xs.length ds (σ.g key) := hrow
  obtain ⟨oa, c, ev, k1, k2, k3, k4⟩ := slv_len hrow
  have hxe : a.eval x = .slice oa m c := by rw [e2, e1]; exact ev
  have hrun : (execOp a.eval o).run P w = .ok (.value (slv (σ.g key) n (σ.cap key))) w := by
    unfold execOp
    rw [ho]
    have := run_sliceSl (P := P) T.ht ⟨ti, hti, hsz⟩ (oa := oa) (m := m) (c := c) (lo := none) (hi := some (n : Int)) (by simp) (by simp) (by simp; omega) (by rw [e1]; exact k1) w
    simp only [Option.getD_none, Option.getD_some, Option.map_none, Option.map_some] at this
    rw [show (0 : Int).toNat = 0 from rfl, Int.toNat_natCast, Nat.sub_zero, Nat.sub_zero, Nat.zero_mul] at this
    have hval : (Value.slice (if c = 0 then oa else oa.map (·.add 0)) n c) = slv (σ.g key) n (σ.cap key) := by
      cases hgk : σ.g key with
      | none =>
        rw [hgk] at k4 hrow
        have h0 := hrow.len0
        have hoa : oa = none := k4
        have hc0 := k3 hoa
        subst hoa
        have : n = 0 := by omega
        subst this; subst hc0
        rfl
      | some b =>
        rw [hgk] at k4 ev
        have hoa : oa = some ⟨b, 0, none⟩ := k4
        unfold slv at ev
        simp only [Value.slice.injEq] at ev
        rw [hoa, ← ev.2.2]
        simp [slv, Addr.add]
    rw [← hval]
    simp only [hxe, hhi, Option.map_none, Option.map_some]
    simp [this]
  unfold Oper.wp
  rw [hrun]
  show K (a.put o.dst _) _
  rw [hd]
  have hS2 := hS.trunc hk hle hnr
  refine hK _ _ (h w0 Ok σ _ _ Q' hM (Sim.ins hS2 hdN ⟨by cases σ.g key <;> rfl, fun o' ho' => ?_⟩) hQ)
  rw [look_ins, if_pos rfl] at ho'
  cases ho'
  have hlen : (xs.take n).length = n := by rw [List.length_take]; omega
  exact ⟨hlen.symm, rfl⟩

/-- clear(s[j:]), s a row: its elements from j on are zero. -/
theorem ROps.clear (C : CfgOK P cfg) {o : Oper} {l : List Oper} {Q : St → Prop} {x : Operand} {t : TypeId} {i : TyI} {key j m k : Nat} {xs : List (List D)} {dd : Bool} (ho : o.op = .call ⟨.builtin .clear, #[x], #[t]⟩) (hg : o.guard = none) (hd : o.dst = none)
    (ht : cfg.sl t = some i) (hx : opv s.regs x = some (.c (.view key j m))) (hk : look key s.heap = some (.row k xs dd)) (hki : k = i.z.length) (hle : j + m = xs.length)
    (h : ROps P cfg M ops l Q ⟨s.regs, insR key (.row k (xs.take j ++ List.replicate m i.z) false) s.heap⟩) : ROps P cfg M ops (o :: l) Q s := by
  intro w0 Ok σ a w Q' hM hS hQ
  refine wpList_step (fun K hK => ?_)
  have hw : awanted ops s.regs o = some true := by unfold awanted; rw [hg]
  rw [awanted_spec hS hw]
  simp only [if_true]
  obtain ⟨z, T, hz⟩ := C.sl t i ht
  obtain ⟨_, oa, c, ev, v1, v2, v3, v4⟩ := (opv_rel hS hx).2 _ hk
  have hro := hS.rows key _ hk
  obtain ⟨ds, hrow, hkp, hrd⟩ := RowOK.rd hS.ok1 hS.rows hS.disj hk
  have hlen : (xs.take j ++ List.replicate m i.z).length = xs.length := by simp; omega
  -- the new row, and the world
  obtain ⟨W, hrun, hR, hgr⟩ : ∃ W, (execOp a.eval o).run P w = .ok (.value (.tuple #[])) W ∧ Row W (slv (σ.g key) xs.length (σ.cap key)) k xs.length (ds.take (j * k) ++ (List.replicate m (i.z.map zval)).flatten) (σ.g key) ∧ w.grownBy W (σ.g key) := by
    rcases v4 with rfl | ⟨b, hgb, rfl⟩
    · refine ⟨w, ?_, ?_, World.grownBy.refl _ _⟩
      · unfold execOp
        rw [ho]
        cases oa <;> simp [resolve, invoke, builtin, ev, Builtin.clear_, run_underlying T.ht]
      · have : ds.take (j * k) = ds := List.take_of_length_le (by rw [hrow.1]; simp at hle; rw [hle]; exact Nat.le_refl _)
        rw [this]; simpa using hrow
    · rw [hgb] at hrow ⊢
      have ev : a.eval x = .slice (some ⟨b, j * k, none⟩) m c := ev
      obtain ⟨cs, hcs⟩ : ∃ cs, cs = (Builtin.zeroCells z.cells m).toList := ⟨_, rfl⟩
      have hcs2 : cs = (List.replicate m (i.z.map zval)).flatten := by
        rw [hcs, ← madeCells_rep hz T.hk m]
        have hs : z.cells.size = i.z.length := by rw [← Array.length_toList, hz.1, List.length_map]
        unfold Builtin.zeroCells madeCells
        rw [hs]
      have hcl : cs.length = m * k := by rw [hcs2, hki]; simp
      have hone : ∀ v ∈ cs, v.oneCell' = true := by
        intro v hv
        rw [hcs2] at hv
        have := (rep_own hz.2 T.hk w m).rd.one
        exact this v hv
      have hoff : j * k + cs.length ≤ ds.length := by rw [hrow.1, hcl, ← Nat.add_mul, hle]; exact Nat.le_refl _
      obtain ⟨r1, r2⟩ := Row.storeCells cs (j * k) hrow hoff
      refine ⟨w.setCells b (j * k) cs, ?_, ?_, r2⟩
      · have hst := run_storeCells_cells (P := P) b (j * k) cs 0 w (fun q hq => by
          rw [Nat.add_zero]
          have hlt : j * k + q < ds.length := by omega
          rw [hrow.cells (j * k + q) ds[j * k + q] (List.getElem?_eq_getElem hlt)]; rfl) (fun q hq => hrow.frozen _) hone
        rw [Nat.add_zero] at hst
        unfold execOp
        rw [ho]
        cases m with
        | zero =>
          have : cs = [] := by rw [hcs2]; rfl
          subst this
          simp [resolve, invoke, builtin, ev, Builtin.clear_, run_underlying T.ht]
          rfl
        | succ m =>
          obtain ⟨ti, hti, hzz, hsz, _⟩ := T.hi
          simp [resolve, invoke, builtin, ev, Builtin.clear_, run_underlying T.ht, zeroValue, typeInfo, hti, hzz, ← hcs, hst]
      · rw [hcs2] at r1 ⊢
        have e : splice ds (j * k) ((List.replicate m (i.z.map zval)).flatten) = ds.take (j * k) ++ (List.replicate m (i.z.map zval)).flatten := by
          unfold splice
          rw [List.drop_of_length_le (by rw [hrow.1, ← hcs2, hcl, ← Nat.add_mul, hle]; exact Nat.le_refl _), List.append_nil]
        rw [e] at r1
        exact r1
  unfold Oper.wp
  rw [hrun]
  show K (a.put o.dst _) _
  rw [hd]
  have hl : ∀ q o', look q (insR key (.row k (xs.take j ++ List.replicate m i.z) false) s.heap) = some o' → (q = key ∧ o' = .row k (xs.take j ++ List.replicate m i.z) false) ∨ (q ≠ key ∧ look q s.heap = some o') := by
    intro q o' ho'
    rw [look_ins] at ho'
    split at ho'
    · rename_i e; cases ho'; exact .inl ⟨e.symm, rfl⟩
    · rename_i e; exact .inr ⟨fun e' => e e'.symm, ho'⟩
  have hblk : ∀ b, b < w.heap.size → σ.g key ≠ some b → W.heap[b]? = w.heap[b]? := fun b hb hne => hgr.block b hb (fun e => hne e.symm)
  have hZ : Kept σ σ s.heap (insR key (.row k (xs.take j ++ List.replicate m i.z) false) s.heap) w W := fun b hb => ⟨⟨Nat.lt_of_lt_of_le hb.1 hgr.size, hb.2.1, fun q o' ho' => by
    rcases hl q o' ho' with ⟨rfl, _⟩ | ⟨_, ho⟩
    · exact hb.2.2 q _ hk
    · exact hb.2.2 q _ ho⟩, hblk b hb.1 (hb.2.2 key _ hk)⟩
  have hst : ∀ q, Stays σ σ s.heap (insR key (.row k (xs.take j ++ List.replicate m i.z) false) s.heap) q := fun q o' ho' => by
    rcases hl q o' ho' with ⟨rfl, rfl⟩ | ⟨_, ho⟩
    · exact ⟨_, hk, rfl, hlen.symm, rfl, rfl⟩
    · exact ⟨o', ho, rfl, rfl, rfl, rfl⟩
  have hfp0 : ∀ b ∈ fp σ key (.row k (xs.take j ++ List.replicate m i.z) false), b ∈ fp σ key (.row k xs dd) := by
    intro b hb
    have hb : b ∈ (σ.g key).toList ++ [] := hb
    rw [List.append_nil] at hb
    exact List.mem_append_left _ hb
  refine hK _ _ (h w0 Ok σ _ _ Q' hM ?_ hQ)
  refine hS.step rfl (hS.below.grown hgr (fun b hb => hro.fresh b (fp_out hb))) hZ (fun r av hr => ⟨av, hr, .inl ⟨rfl, fun q _ => hst q⟩⟩) (fun q o' ho' => ?_) (fun p o1 q u hp hq hpq b hb hb' => ?_)
  · rcases hl q o' ho' with ⟨rfl, rfl⟩ | ⟨hq, ho⟩
    · refine ⟨⟨ds.take (j * k) ++ (List.replicate m (i.z.map zval)).flatten, ?_, hkp, ?_⟩, fun b hb => hro.fresh b (hfp0 b hb), ?_⟩
      · show Row W (slv (σ.g q) (xs.take j ++ List.replicate m i.z).length (σ.cap q)) k (xs.take j ++ List.replicate m i.z).length _ (σ.g q)
        rw [hlen]; exact hR
      · show rdR k _ W _ (xs.take j ++ List.replicate m i.z)
        refine rdR.append (((hrd.take j (by omega)).step hZ)) ?_
        have := (rep_own hz.2 T.hk W m).rd
        rw [← hki] at this
        exact this.mono (fun b hb _ => by cases hb)
      · show ((σ.g q).toList ++ []).Nodup
        rw [List.append_nil]
        cases σ.g q <;> simp
    · refine RowOK.keep hS.ok1 hS.rows hS.disj ho hZ (fun q' _ => hst q') rfl rfl rfl (fun b hb => hblk b (fp_lt hS ho b (fp_out hb)) (fun e => ?_))
      exact hS.disj key _ q o' hk ho (fun e => hq e.symm) b (fp_out e) (fp_out hb)
  · have hp2 : ∃ o2, look p s.heap = some o2 ∧ b ∈ fp σ p o2 := by
      rcases hl p o1 hp with ⟨rfl, rfl⟩ | ⟨_, ho⟩
      · exact ⟨_, hk, hfp0 b hb⟩
      · exact ⟨_, ho, hb⟩
    have hq2 : ∃ o2, look q s.heap = some o2 ∧ b ∈ fp σ q o2 := by
      rcases hl q u hq with ⟨rfl, rfl⟩ | ⟨_, ho⟩
      · exact ⟨_, hk, hfp0 b hb'⟩
      · exact ⟨_, ho, hb'⟩
    obtain ⟨o2, ho2, hb2⟩ := hp2
    obtain ⟨u2, hu2, hb3⟩ := hq2
    exact hS.disj p o2 q u2 ho2 hu2 hpq b hb2 hb3
end
end Go.Proofs.YtacbkjmkjpjhoaaGreat

/- A row that is handed over: at the value nil; tables' entries at given arguments. -/
namespace Go.Proofs.YtacbkjmkjpjhoaaGreat
open Go.RowKit

section
variable {P : Program} {cfg : Cfg} {w0 : W0} {w w' : World} {Ok : Nat → Prop} {N : Nat} {σ σ' : Asg} {s s' : St} {a : Act} {M : Nat → Prop}

theorem relArgs.split {A : Nat → Prop} : ∀ {pre : List (List D)} {ds : List (List D)} {vs : List Value}, relArgs A w (pre ++ ds) vs → ∃ vs1 vs2, vs = vs1 ++ vs2 ∧ relArgs A w pre vs1 ∧ relArgs A w ds vs2
  | [], ds, vs, h => ⟨[], vs, rfl, rfl, h⟩
  | d :: pre, ds, vs, ⟨v, us, e, h1, h2⟩ => by
    obtain ⟨us1, us2, e2, h3, h4⟩ := relArgs.split h2
    subst e2; subst e
    exact ⟨v :: us1, us2, rfl, ⟨v, us1, rfl, h1, h3⟩, h4⟩
theorem relArgs.join {A : Nat → Prop} : ∀ {pre : List (List D)} {ds : List (List D)} {vs1 vs2 : List Value}, relArgs A w pre vs1 → relArgs A w ds vs2 → relArgs A w (pre ++ ds) (vs1 ++ vs2)
  | [], ds, vs1, vs2, h, k => by rw [show vs1 = [] from h]; exact k
  | d :: pre, ds, vs1, vs2, ⟨v, us, e, h1, h2⟩, k => by
    subst e
    exact ⟨v, us ++ vs2, rfl, h1, relArgs.join h2 k⟩

theorem Bel.nil (h : Bel ⟨w, fun b => (none : Option Nat) = some b⟩ w') : Below w.heap.size w w' :=
  ⟨h.os, h.tape, h.output, h.size, fun i hi => h.block i hi (fun e => nomatch e)⟩

/-- The row nil handed over. -/
theorem AOw.nil {g : FuncId} {pre post : List (List D)} {k : Nat} {Q : List Res → Prop} (h : AOw P g pre k [] post Q) (hk : 0 < k) : AFn P g (pre ++ [.raw (.slice none 0 0)] :: post) Q := by
  refine ⟨h.call, fun A w vs hA hr => ?_⟩
  obtain ⟨vs1, vs2, e, h1, v, us, e2, h2, h3⟩ := relArgs.split hr
  subst e2; subst e
  obtain ⟨rfl, _⟩ := rdV_raw.1 (show rdV A w v (.raw (.slice none 0 0)) from h2)
  refine (h.fn A w vs1 us none 0 [] hA h1 h3 ⟨(Nat.zero_mul k).symm, .inl ⟨rfl, rfl, rfl⟩⟩ hk (by first | exact ⟨0, hk, rfl⟩ | exact ⟨0, hk, trivial⟩ | exact ⟨0, hk, by simp [rdL]⟩) (fun b e => nomatch e)).mono ?_
  rintro e w' ⟨v, rs, rfl, hQ, hb, ho⟩
  have e : (W0.mine ⟨w, fun b => (none : Option Nat) = some b⟩) = fun b => w.heap.size ≤ b := by funext b; simp [W0.mine]
  rw [e] at ho
  exact ⟨v, rs, rfl, hQ, hb.nil, ho⟩

theorem n_callR (C : CfgOK P cfg) (h : Sim w0 Ok N σ s a w) {o : Oper} {f : Operand} {args : Array Operand} {ts : Array TypeId} {g : FuncId} (ho : o.op = .call ⟨.value f, args, ts⟩) (hf : ((opv s.regs f).bind avD).bind fnId = some g)
    {ds : List (List D)} (hd : relArgs (Zn σ s.heap w) w ds (args.toList.map a.eval)) {Q0 : List Res → Prop} (hfn : AFn P g ds Q0)
    {K : Act → World → Prop} {Q : Exit → Act → World → Prop} {key : Nat} (hfr : ∀ rs, Q0 rs → ∀ q ob, look q (resACs key rs).2 = some ob → Free s q)
    (hK : ∀ rs, Q0 rs → ∀ v w' σ', relAV σ' ((resACs key rs).2 ++ s.heap) w' (outAV (resACs key rs).1) v → Sim w0 Ok N σ' ⟨s.regs, (resACs key rs).2 ++ s.heap⟩ a w' → K (a.put o.dst v) w') : o.wp P a w K Q := by
  have hfv : a.eval f = .func (.func g) #[] #[] := fnId_rel h hf
  have hrun : (execOp a.eval o).run P w = .ok (.enter g (args.map a.eval)) w := by
    unfold execOp
    rw [ho]
    simp [resolve, Deferred.ofValue, hfv, invoke, hfn.call]
  obtain ⟨A, hA, hAa, hAz⟩ : ∃ A : Nat → Prop, (∀ b, A b → b < w.heap.size) ∧ relArgs A w ds (args.toList.map a.eval) ∧ ((∃ rs, Q0 rs ∧ rs.all Res.scalar = false) → ∀ b, A b → Zn σ s.heap w b) := by
    exact ⟨Zn σ s.heap w, fun _ h => h.1, hd, fun _ b hb => hb⟩
  have hcall := hfn.fn A w (args.toList.map a.eval) hA hAa
  unfold Oper.wp
  rw [hrun, Oper.upon_enter]
  have e : (args.toList.map a.eval).toArray = args.map a.eval := by rw [← Array.toList_map, Array.toArray_toList]
  rw [← e]
  refine hcall.mono ?_
  rintro e w' ⟨v, rs, rfl, hQ, hw, us, G, X, rfl, hG1, hG2, hrel⟩
  obtain ⟨σ', k0, k1, k2, k3, k4⟩ := outs_asg key σ hrel hG1
  have hgn : ∀ q u, look q (resACs key rs).2 = some u → ∀ b, σ'.g q = some b → w.heap.size ≤ b := fun q u hq b hb => hG2 b ((k2 q u hq).2.2.1 b (fp_out hb))
  have hZ1 : (∀ b, A b → Zn σ s.heap w b) → ∀ b, ((A b ∨ w.heap.size ≤ b) ∧ b ∉ X) → b < w'.heap.size → Zn σ' ((resACs key rs).2 ++ s.heap) w' b := by
    intro hAz b hb hlt
    have hz := Kept.grown hw h hAz b hb.1 hlt
    refine ⟨hlt, by rw [k0]; exact hz.2.1, fun q u hq e => ?_⟩
    rw [look_append] at hq
    cases hn : look q (resACs key rs).2 with
    | some o' => exact hb.2 ((k2 q o' hn).2.2.2 b e)
    | none =>
      rw [hn] at hq
      rw [(k1 q hn).1] at e
      exact hz.2.2 q u hq e
  refine hK rs hQ _ w' σ' (out_rel ?_) ?_
  · by_cases hsc : rs.all Res.scalar = true
    · exact k4.relS hsc
    · exact k4.rel (hZ1 (hAz ⟨rs, hQ, by simpa using hsc⟩))
  · refine h.news k0 hw (hfr rs hQ) k1 (fun q o' hq => ?_) (fun q o' hq => ?_) k3
    · obtain ⟨⟨dd, k, xs, d, b1, b2, b3, b4⟩, _⟩ := k2 q o' hq
      subst b1
      refine ⟨dd, b2, b3, ?_⟩
      show if d = true then ownR k w' dd xs (σ'.F q) else rdR k (Zn σ' ((resACs key rs).2 ++ s.heap) w') w' dd xs
      cases d with
      | true => rw [if_pos rfl]; exact b4
      | false =>
        rw [if_neg (by decide)]
        have b4' : rdR k (fun b => (A b ∨ w.heap.size ≤ b) ∧ b ∉ X) w' dd xs := b4
        have hsc : rs.all Res.scalar = false := by
          have key : ∀ {rs : List Res} {key : Nat} {q : Nat}, look q (resACs key rs).2 = some (.row k xs false) → rs.all Res.scalar = false := by
            intro rs
            induction rs with
            | nil => intro key q hq; cases hq
            | cons r rs ih =>
              intro key q hq
              cases r with
              | val d => rw [List.all_cons, ih (by simpa [resACs, resAC] using hq), Bool.and_false]
              | own kk ys d =>
                simp only [resACs, resAC, List.singleton_append, look] at hq
                split at hq
                · cases hq; rfl
                · rw [List.all_cons, ih hq, Bool.and_false]
          exact key hq
        exact b4'.mono (fun b hb hlt => hZ1 (hAz ⟨rs, hQ, hsc⟩) b hb hlt)
    · obtain ⟨_, b5, b6, _⟩ := k2 q o' hq
      exact ⟨fun b hb => hG2 b (b6 b hb), b5⟩


theorem ROps.callNil (C : CfgOK P cfg) {ops : Array Oper} {o : Oper} {l : List Oper} {Q : St → Prop} {d : Nat} {f : Operand} {args : Array Operand} {ts : Array TypeId} {g : FuncId} (hb : awanted ops s.regs o = some true) (hdN : d < cfg.N)
    (ho : o.op = .call ⟨.value f, args, ts⟩) (hod : o.dst = some d) (hf : ((opv s.regs f).bind avD).bind fnId = some g)
    {xs : List Operand} {tx : List TypeId} {pre : List (List D)} (ha : args.toList = xs ++ [.const (.slice none 0 0)]) (hpre : aargs cfg (fun k => look k s.heap) s.regs xs tx = some pre) (hr : opRefs s.regs xs = [])
    {rs : List Res} (hfn : AFn P g (pre ++ [[.raw (.slice none 0 0)]]) (· = rs)) (hfr : (resACs d rs).2.all (fun p => fresh s p.1) = true)
    (h : ROps P cfg M ops l Q (s.got d rs)) : ROps P cfg M ops (o :: l) Q s := by
  intro w0 Ok σ a w Q' hM hS hQ
  refine wpList_step (fun K hK => ?_)
  rw [awanted_spec hS hb]
  simp only [if_true]
  have hrel : relArgs (Zn σ s.heap w) w (pre ++ [[.raw (.slice none 0 0)]]) (args.toList.map a.eval) := by
    rw [ha, List.map_append]
    exact relArgs.join ((aargs_rel C hS hpre).2 hr) ⟨_, [], rfl, rdV_raw.2 ⟨rfl, rfl⟩, rfl⟩
  refine n_callR C hS (key := d) ho hf hrel hfn (fun rs' e => e ▸ fun q ob hq => fresh_free (List.all_eq_true.1 hfr _ (look_all hq))) (fun rs' e v w' σ' hv hS' => ?_)
  subst e
  rw [hod]
  have hsub : ∀ k o', look k (insAll (resACs d rs').2 s.heap) = some o' → look k ((resACs d rs').2 ++ s.heap) = some o' := fun k o' ho' => by rw [look_insAll] at ho'; exact ho'
  exact hK _ _ (h w0 Ok σ' _ _ Q' hM (Sim.ins (hS'.forget (fun _ _ h => h) hsub) hdN (hv.sub hsub)) hQ)
theorem ROps.callNilP (C : CfgOK P cfg) {ops : Array Oper} {o : Oper} {l : List Oper} {Q : St → Prop} {d : Nat} {f : Operand} {args : Array Operand} {ts : Array TypeId} {g : FuncId} (hb : awanted ops s.regs o = some true) (hdN : d < cfg.N)
    (ho : o.op = .call ⟨.value f, args, ts⟩) (hod : o.dst = some d) (hf : ((opv s.regs f).bind avD).bind fnId = some g)
    {xs : List Operand} {tx : List TypeId} {pre : List (List D)} {ys : List Operand} {ty : List TypeId} {post : List (List D)} (ha : args.toList = xs ++ .const (.slice none 0 0) :: ys) (hpre : aargs cfg (fun k => look k s.heap) s.regs xs tx = some pre) (hr : opRefs s.regs xs = []) (hpost : aargs cfg (fun k => look k s.heap) s.regs ys ty = some post) (hr2 : opRefs s.regs ys = [])
    {rs : List Res} (hfn : AFn P g (pre ++ [.raw (.slice none 0 0)] :: post) (· = rs)) (hfr : (resACs d rs).2.all (fun p => fresh s p.1) = true)
    (h : ROps P cfg M ops l Q (s.got d rs)) : ROps P cfg M ops (o :: l) Q s := by
  intro w0 Ok σ a w Q' hM hS hQ
  refine wpList_step (fun K hK => ?_)
  rw [awanted_spec hS hb]
  simp only [if_true]
  have hrel : relArgs (Zn σ s.heap w) w (pre ++ [.raw (.slice none 0 0)] :: post) (args.toList.map a.eval) := by
    rw [ha, List.map_append]
    exact relArgs.join ((aargs_rel C hS hpre).2 hr) ⟨_, _, rfl, rdV_raw.2 ⟨rfl, rfl⟩, (aargs_rel C hS hpost).2 hr2⟩
  refine n_callR C hS (key := d) ho hf hrel hfn (fun rs' e => e ▸ fun q ob hq => fresh_free (List.all_eq_true.1 hfr _ (look_all hq))) (fun rs' e v w' σ' hv hS' => ?_)
  subst e
  rw [hod]
  have hsub : ∀ k o', look k (insAll (resACs d rs').2 s.heap) = some o' → look k ((resACs d rs').2 ++ s.heap) = some o' := fun k o' ho' => by rw [look_insAll] at ho'; exact ho'
  exact hK _ _ (h w0 Ok σ' _ _ Q' hM (Sim.ins (hS'.forget (fun _ _ h => h) hsub) hdN (hv.sub hsub)) hQ)
end

/-- A function that a row is handed over to, at given arguments. -/
noncomputable def atOwn (A : List (List D)) (k : Nat) (X : List (List D)) (B : List (List D)) (R : List Res) (a : List (List D)) (k' : Nat) (x : List (List D)) (b : List (List D)) : Option (List Res × Option (List (List D))) := by
  classical
  exact if a = A ∧ k' = k ∧ x = X ∧ b = B then some (R, Option.none) else Option.none
theorem atOwn_eq (A : List (List D)) (k : Nat) (X : List (List D)) (B : List (List D)) (R : List Res) : atOwn A k X B R A k X B = some (R, Option.none) := by
  unfold atOwn; rw [if_pos ⟨rfl, rfl, rfl, rfl⟩]
theorem atOwn_some {A : List (List D)} {k : Nat} {X : List (List D)} {B : List (List D)} {R : List Res} {a : List (List D)} {k' : Nat} {x b : List (List D)} {r : List Res × Option (List (List D))} (h : atOwn A k X B R a k' x b = some r) : a = A ∧ k' = k ∧ x = X ∧ b = B ∧ r = (R, Option.none) := by
  unfold atOwn at h
  split at h
  · rename_i h1
    exact ⟨h1.1, h1.2.1, h1.2.2.1, h1.2.2.2, (Option.some.inj h).symm⟩
  · exact nomatch h
noncomputable def Tab.own' {P : Program} (T : Tab P) (g : FuncId) (n : Nat) {A : List (List D)} {k : Nat} {X B : List (List D)} {R : List Res} (h : AOw P g A k X B (· = R)) : Tab P :=
  T.own g ⟨false, n, atOwn A k X B R⟩ (fun pre k' xs post r _ e => by
    obtain ⟨rfl, rfl, rfl, rfl, rfl⟩ := atOwn_some e
    exact h.toEf)
end Go.Proofs.YtacbkjmkjpjhoaaGreat
