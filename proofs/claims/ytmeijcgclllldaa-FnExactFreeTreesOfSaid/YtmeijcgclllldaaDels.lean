/- clear and s[:n]; rows handed over; DeleteFunc at rows of lists. -/
import Derived.Test.YtmeijcgclllldaaMc
import Derived.Test.YtmeijcgclllldaaTabs
set_option linter.unusedSimpArgs false
set_option linter.unusedVariables false
/- s[:n] of a row that is used no more: the row's first n elements. -/
namespace Go.Proofs.Ytmeijcgclllldaa
open Go.RowKit

theorem Row.take {w : World} {k n m cap : Nat} {ds : List Value} {og : Option Nat} (h : Row w (slv og n cap) k n ds og) (hm : m ≤ n) : Row w (slv og m cap) k m (ds.take (m * k)) og := by
  refine ⟨by rw [List.length_take, h.1]; exact Nat.min_eq_left (Nat.mul_le_mul_right k hm), ?_⟩
  rcases h.2 with ⟨h1, h2, h3⟩ | ⟨g, c, cur, e, h1, h2, h3, h4, h5, h6, h7⟩
  · subst h3
    exact .inl ⟨rfl, by omega, rfl⟩
  · subst h2
    have hc : cap = c := by
      unfold slv at h1
      simp only [Value.slice.injEq] at h1
      exact h1.2.2
    subst hc
    refine .inr ⟨g, cap, cur, e, rfl, rfl, h3, by omega, h5, h6, ?_⟩
    rw [← h7, List.take_take, Nat.min_eq_left (Nat.mul_le_mul_right k hm)]

section
variable {P : Program} {cfg : Cfg} {M : Nat → Prop} {w0 : W0} {w w' : World} {Ok : Nat → Prop} {N : Nat} {σ : Asg} {s : St} {a : Act} {ops : Array Oper}

theorem Sim.trunc (h : Sim w0 Ok N σ s a w) {key k n : Nat} {xs : List (List D)} {d : Bool} (hk : look key s.heap = some (.row k xs d)) (hn : n ≤ xs.length) (hnr : ∀ q u, q ≠ key → look q s.heap = some u → key ∉ u.refs) :
    Sim w0 Ok N σ ⟨killR key s.regs, insR key (.row k (xs.take n) false) s.heap⟩ a w := by
  have hro := h.rows key _ hk
  obtain ⟨ds, hrow, hkp, hrd⟩ := RowOK.rd h.ok1 h.rows h.disj hk
  have hlen : (xs.take n).length = n := by rw [List.length_take]; omega
  have hfp0 : ∀ b ∈ fp σ key (.row k (xs.take n) false), b ∈ fp σ key (.row k xs d) := by
    intro b hb
    have hb : b ∈ (σ.g key).toList ++ [] := hb
    rw [List.append_nil] at hb
    exact List.mem_append_left _ hb
  have hl : ∀ q o', look q (insR key (.row k (xs.take n) false) s.heap) = some o' → (q = key ∧ o' = .row k (xs.take n) false) ∨ (q ≠ key ∧ look q s.heap = some o') := by
    intro q o' ho'
    rw [look_ins] at ho'
    split at ho'
    · rename_i e; cases ho'; exact .inl ⟨e.symm, rfl⟩
    · rename_i e; exact .inr ⟨fun e' => e e'.symm, ho'⟩
  have hZ : Kept σ σ s.heap (insR key (.row k (xs.take n) false) s.heap) w w := fun b hb => ⟨⟨hb.1, hb.2.1, fun q o' ho' => by
    rcases hl q o' ho' with ⟨rfl, _⟩ | ⟨_, ho⟩
    · exact hb.2.2 q _ hk
    · exact hb.2.2 q _ ho⟩, rfl⟩
  have hst : ∀ q, q ≠ key → Stays σ σ s.heap (insR key (.row k (xs.take n) false) s.heap) q := fun q hq o' ho' => by
    rcases hl q o' ho' with ⟨e, _⟩ | ⟨_, ho⟩
    · exact absurd e hq
    · exact ⟨o', ho, rfl, rfl, rfl, rfl⟩
  refine (h.killed key).step rfl h.below hZ (fun r av hr => ⟨av, hr, .inl ⟨rfl, fun q hq => hst q ?_⟩⟩) (fun q o' ho' => ?_) (fun p o1 q u hp hq hpq b hb hb' => ?_)
  · have hr' : look r (killR key s.regs) = some av := hr
    rw [look_killR] at hr'
    obtain ⟨v, _, rfl⟩ := map_some hr'
    exact (AV.kill_refs hq).1
  · rcases hl q o' ho' with ⟨rfl, rfl⟩ | ⟨hq, ho⟩
    · refine ⟨⟨ds.take (n * k), ?_, hkp, ?_⟩, fun b hb => hro.fresh b (hfp0 b hb), ?_⟩
      · show Row w (slv (σ.g q) (xs.take n).length (σ.cap q)) k (xs.take n).length _ (σ.g q)
        rw [hlen]
        exact Row.take hrow hn
      · show rdR k _ w _ (xs.take n)
        exact (hrd.take n hn).mono (fun b hb _ => (hZ b hb).1)
      · show ((σ.g q).toList ++ []).Nodup
        rw [List.append_nil]
        cases σ.g q <;> simp
    · exact RowOK.keep h.ok1 h.rows h.disj ho hZ (fun q' hq' => hst q' (fun e => hnr q o' hq ho (e ▸ hq'))) rfl rfl rfl (fun _ _ => rfl)
  · have hp2 : ∃ o2, look p s.heap = some o2 ∧ b ∈ fp σ p o2 := by
      rcases hl p o1 hp with ⟨rfl, rfl⟩ | ⟨_, ho⟩
      · exact ⟨_, hk, hfp0 b hb⟩
      · exact ⟨_, ho, hb⟩
    have hq2 : ∃ o2, look q s.heap = some o2 ∧ b ∈ fp σ q o2 := by
      rcases hl q u hq with ⟨rfl, rfl⟩ | ⟨_, ho⟩
      · exact ⟨_, hk, hfp0 b hb'⟩
      · exact ⟨_, ho, hb'⟩
    obtain ⟨o2, ho2, hb2⟩ := hp2
    obtain ⟨u2, hu2, hb3⟩ := hq2
    exact h.disj p o2 q u2 ho2 hu2 hpq b hb2 hb3

theorem cellD_un {z d : D} {k : Nat} {xs : List (List D)} (h : d.un = .sl k xs) : cellD z (.val d) = some (d, false) := by
  cases d with
  | sl => rfl
  | tag => rfl
  | int => cases h
  | bool => cases h
  | raw => cases h

/-- A region in two parts. -/
theorem RunK.regCut (C : CfgOK P cfg) (T : Tab P) {fs : List Fr} {Q : Exit → St → Prop} {id : Nat} (n : Nat) {s1 : St} (ha : Work (aopsT cfg T ops (ops.toList.take n) s) (some s1))
    (h : ROps P cfg M ops (ops.toList.drop n) (outK P cfg M fs Q .normal) s1) : RunK P cfg M (.region id ops false) fs Q s := by
  refine Runs.region ?_
  have e : ops.toList = ops.toList.take n ++ ops.toList.drop n := (List.take_append_drop n _).symm
  have cut : ∀ (l m : List Oper) (s : St), aopsT cfg T ops l s = some s1 → ROps P cfg M ops m (outK P cfg M fs Q .normal) s1 → ROps P cfg M ops (l ++ m) (outK P cfg M fs Q .normal) s := by
    intro l
    induction l with
    | nil => intro m s h1 h2; simp only [aopsT, Option.some.injEq] at h1; subst h1; exact h2
    | cons o l ih =>
      intro m s h1 h2
      simp only [aopsT] at h1
      obtain ⟨s2, h3, h4⟩ := bind_some h1
      exact ROps.stepT C h3 (ih m s2 h4 h2)
  rw [e]
  exact cut _ _ s ha h

theorem ROps.trunc (C : CfgOK P cfg) {o : Oper} {l : List Oper} {Q : St → Prop} {x hi : Operand} {t : TypeId} {i : TyI} {d key m n k : Nat} {xs : List (List D)} {dd : Bool} (ho : o.op = .slice t x none (some hi) none) (hg : o.guard = none) (hd : o.dst = some d) (hdN : d < cfg.N)
    (ht : cfg.sl t = some i) (hx : opv s.regs x = some (.c (.own key m))) (hh : (opv s.regs hi).bind avI = some (n : Int)) (hk : look key s.heap = some (.row k xs dd)) (hle : n ≤ xs.length) (hnr : ∀ q u, q ≠ key → look q s.heap = some u → key ∉ u.refs)
    (h : ROps P cfg M ops l Q ⟨insR d (.c (.own key n)) (killR key s.regs), insR key (.row k (xs.take n) false) s.heap⟩) : ROps P cfg M ops (o :: l) Q s := by
  intro w0 Ok σ a w Q' hM hS hQ
  refine wpList_step (fun K hK => ?_)
  have hw : awanted ops s.regs o = some true := by unfold awanted; rw [hg]
  rw [awanted_spec hS hw]
  simp only [if_true]
  obtain ⟨z, T, _⟩ := C.sl t i ht
  obtain ⟨ti, hti, _, hsz, _⟩ := T.hi
  have hxr := (opv_rel hS hx).2 _ hk
  obtain ⟨e1, e2⟩ := hxr
  have e1 : m = xs.length := e1
  obtain ⟨hv, h3, h4⟩ := bind_some hh
  have hhi : a.eval hi = .int .i64 n := (rdV_int.1 (show rdV (Zn σ s.heap w) w (a.eval hi) (.int n) by
    have hr := opv_rel hS h3
    unfold avI at h4
    split at h4
    · cases h4; exact hr.2
    · cases h4)).1
  have hro := hS.rows key _ hk
  obtain ⟨ds, hrow, _⟩ := hro.row
  have hrow : Row w (slv (σ.g key) xs.length (σ.cap key)) k xs.length ds (σ.g key) := hrow
  obtain ⟨oa, c, ev, k1, k2, k3, k4⟩ := slv_len hrow
  have hxe : a.eval x = .slice oa m c := by rw [e2, e1]; exact ev
  have hrun : (execOp a.eval o).run P w = .ok (.value (slv (σ.g key) n (σ.cap key))) w := by
    unfold execOp
    rw [ho]
    have := run_sliceSl (P := P) T.ht ⟨ti, hti, hsz⟩ (oa := oa) (m := m) (c := c) (lo := none) (hi := some (n : Int)) (by simp) (by simp) (by simp; omega) (by rw [e1]; exact k1) w
    simp only [Option.getD_none, Option.getD_some, Option.map_none, Option.map_some] at this
    rw [show (0 : Int).toNat = 0 from rfl, Int.toNat_natCast, Nat.sub_zero, Nat.sub_zero, Nat.zero_mul] at this
    have hval : (Value.slice (if c = 0 then oa else oa.map (·.add 0)) n c) = slv (σ.g key) n (σ.cap key) := by
      cases hgk : σ.g key with
      | none =>
        rw [hgk] at k4 hrow
        have h0 := hrow.len0
        have hoa : oa = none := k4
        have hc0 := k3 hoa
        subst hoa
        have : n = 0 := by omega
        subst this; subst hc0
        rfl
      | some b =>
        rw [hgk] at k4 ev
        have hoa : oa = some ⟨b, 0, none⟩ := k4
        unfold slv at ev
        simp only [Value.slice.injEq] at ev
        rw [hoa, ← ev.2.2]
        simp [slv, Addr.add]
    rw [← hval]
    simp only [hxe, hhi, Option.map_none, Option.map_some]
    simp [this]
  unfold Oper.wp
  rw [hrun]
  show K (a.put o.dst _) _
  rw [hd]
  have hS2 := hS.trunc hk hle hnr
  refine hK _ _ (h w0 Ok σ _ _ Q' hM (Sim.ins hS2 hdN ⟨by cases σ.g key <;> rfl, fun o' ho' => ?_⟩) hQ)
  rw [look_ins, if_pos rfl] at ho'
  cases ho'
  have hlen : (xs.take n).length = n := by rw [List.length_take]; omega
  exact ⟨hlen.symm, rfl⟩

/-- clear(s[j:]), s a row: its elements from j on are zero. -/
theorem ROps.clear (C : CfgOK P cfg) {o : Oper} {l : List Oper} {Q : St → Prop} {x : Operand} {t : TypeId} {i : TyI} {key j m k : Nat} {xs : List (List D)} {dd : Bool} (ho : o.op = .call ⟨.builtin .clear, #[x], #[t]⟩) (hg : o.guard = none) (hd : o.dst = none)
    (ht : cfg.sl t = some i) (hx : opv s.regs x = some (.c (.view key j m))) (hk : look key s.heap = some (.row k xs dd)) (hki : k = i.z.length) (hle : j + m = xs.length)
    (h : ROps P cfg M ops l Q ⟨s.regs, insR key (.row k (xs.take j ++ List.replicate m i.z) false) s.heap⟩) : ROps P cfg M ops (o :: l) Q s := by
  intro w0 Ok σ a w Q' hM hS hQ
  refine wpList_step (fun K hK => ?_)
  have hw : awanted ops s.regs o = some true := by unfold awanted; rw [hg]
  rw [awanted_spec hS hw]
  simp only [if_true]
  obtain ⟨z, T, hz⟩ := C.sl t i ht
  obtain ⟨_, oa, c, ev, v1, v2, v3, v4⟩ := (opv_rel hS hx).2 _ hk
  have hro := hS.rows key _ hk
  obtain ⟨ds, hrow, hkp, hrd⟩ := RowOK.rd hS.ok1 hS.rows hS.disj hk
  have hlen : (xs.take j ++ List.replicate m i.z).length = xs.length := by simp; omega
  -- the new row, and the world
  obtain ⟨W, hrun, hR, hgr⟩ : ∃ W, (execOp a.eval o).run P w = .ok (.value (.tuple #[])) W ∧ Row W (slv (σ.g key) xs.length (σ.cap key)) k xs.length (ds.take (j * k) ++ (List.replicate m (i.z.map zval)).flatten) (σ.g key) ∧ w.grownBy W (σ.g key) := by
    rcases v4 with rfl | ⟨b, hgb, rfl⟩
    · refine ⟨w, ?_, ?_, World.grownBy.refl _ _⟩
      · unfold execOp
        rw [ho]
        cases oa <;> simp [resolve, invoke, builtin, ev, Builtin.clear_, run_underlying T.ht]
      · have : ds.take (j * k) = ds := List.take_of_length_le (by rw [hrow.1]; simp at hle; rw [hle]; exact Nat.le_refl _)
        rw [this]; simpa using hrow
    · rw [hgb] at hrow ⊢
      have ev : a.eval x = .slice (some ⟨b, j * k, none⟩) m c := ev
      obtain ⟨cs, hcs⟩ : ∃ cs, cs = (Builtin.zeroCells z.cells m).toList := ⟨_, rfl⟩
      have hcs2 : cs = (List.replicate m (i.z.map zval)).flatten := by
        rw [hcs, ← madeCells_rep hz T.hk m]
        have hs : z.cells.size = i.z.length := by rw [← Array.length_toList, hz.1, List.length_map]
        unfold Builtin.zeroCells madeCells
        rw [hs]
      have hcl : cs.length = m * k := by rw [hcs2, hki]; simp
      have hone : ∀ v ∈ cs, v.oneCell' = true := by
        intro v hv
        rw [hcs2] at hv
        have := (rep_own hz.2 T.hk w m).rd.one
        exact this v hv
      have hoff : j * k + cs.length ≤ ds.length := by rw [hrow.1, hcl, ← Nat.add_mul, hle]; exact Nat.le_refl _
      obtain ⟨r1, r2⟩ := Row.storeCells cs (j * k) hrow hoff
      refine ⟨w.setCells b (j * k) cs, ?_, ?_, r2⟩
      · have hst := run_storeCells_cells (P := P) b (j * k) cs 0 w (fun q hq => by
          rw [Nat.add_zero]
          have hlt : j * k + q < ds.length := by omega
          rw [hrow.cells (j * k + q) ds[j * k + q] (List.getElem?_eq_getElem hlt)]; rfl) (fun q hq => hrow.frozen _) hone
        rw [Nat.add_zero] at hst
        unfold execOp
        rw [ho]
        cases m with
        | zero =>
          have : cs = [] := by rw [hcs2]; rfl
          subst this
          simp [resolve, invoke, builtin, ev, Builtin.clear_, run_underlying T.ht]
          rfl
        | succ m =>
          obtain ⟨ti, hti, hzz, hsz, _⟩ := T.hi
          simp [resolve, invoke, builtin, ev, Builtin.clear_, run_underlying T.ht, zeroValue, typeInfo, hti, hzz, ← hcs, hst]
      · rw [hcs2] at r1 ⊢
        have e : splice ds (j * k) ((List.replicate m (i.z.map zval)).flatten) = ds.take (j * k) ++ (List.replicate m (i.z.map zval)).flatten := by
          unfold splice
          rw [List.drop_of_length_le (by rw [hrow.1, ← hcs2, hcl, ← Nat.add_mul, hle]; exact Nat.le_refl _), List.append_nil]
        rw [e] at r1
        exact r1
  unfold Oper.wp
  rw [hrun]
  show K (a.put o.dst _) _
  rw [hd]
  have hl : ∀ q o', look q (insR key (.row k (xs.take j ++ List.replicate m i.z) false) s.heap) = some o' → (q = key ∧ o' = .row k (xs.take j ++ List.replicate m i.z) false) ∨ (q ≠ key ∧ look q s.heap = some o') := by
    intro q o' ho'
    rw [look_ins] at ho'
    split at ho'
    · rename_i e; cases ho'; exact .inl ⟨e.symm, rfl⟩
    · rename_i e; exact .inr ⟨fun e' => e e'.symm, ho'⟩
  have hblk : ∀ b, b < w.heap.size → σ.g key ≠ some b → W.heap[b]? = w.heap[b]? := fun b hb hne => hgr.block b hb (fun e => hne e.symm)
  have hZ : Kept σ σ s.heap (insR key (.row k (xs.take j ++ List.replicate m i.z) false) s.heap) w W := fun b hb => ⟨⟨Nat.lt_of_lt_of_le hb.1 hgr.size, hb.2.1, fun q o' ho' => by
    rcases hl q o' ho' with ⟨rfl, _⟩ | ⟨_, ho⟩
    · exact hb.2.2 q _ hk
    · exact hb.2.2 q _ ho⟩, hblk b hb.1 (hb.2.2 key _ hk)⟩
  have hst : ∀ q, Stays σ σ s.heap (insR key (.row k (xs.take j ++ List.replicate m i.z) false) s.heap) q := fun q o' ho' => by
    rcases hl q o' ho' with ⟨rfl, rfl⟩ | ⟨_, ho⟩
    · exact ⟨_, hk, rfl, hlen.symm, rfl, rfl⟩
    · exact ⟨o', ho, rfl, rfl, rfl, rfl⟩
  have hfp0 : ∀ b ∈ fp σ key (.row k (xs.take j ++ List.replicate m i.z) false), b ∈ fp σ key (.row k xs dd) := by
    intro b hb
    have hb : b ∈ (σ.g key).toList ++ [] := hb
    rw [List.append_nil] at hb
    exact List.mem_append_left _ hb
  refine hK _ _ (h w0 Ok σ _ _ Q' hM ?_ hQ)
  refine hS.step rfl (hS.below.grown hgr (fun b hb => hro.fresh b (fp_out hb))) hZ (fun r av hr => ⟨av, hr, .inl ⟨rfl, fun q _ => hst q⟩⟩) (fun q o' ho' => ?_) (fun p o1 q u hp hq hpq b hb hb' => ?_)
  · rcases hl q o' ho' with ⟨rfl, rfl⟩ | ⟨hq, ho⟩
    · refine ⟨⟨ds.take (j * k) ++ (List.replicate m (i.z.map zval)).flatten, ?_, hkp, ?_⟩, fun b hb => hro.fresh b (hfp0 b hb), ?_⟩
      · show Row W (slv (σ.g q) (xs.take j ++ List.replicate m i.z).length (σ.cap q)) k (xs.take j ++ List.replicate m i.z).length _ (σ.g q)
        rw [hlen]; exact hR
      · show rdR k _ W _ (xs.take j ++ List.replicate m i.z)
        refine rdR.append (((hrd.take j (by omega)).step hZ)) ?_
        have := (rep_own hz.2 T.hk W m).rd
        rw [← hki] at this
        exact this.mono (fun b hb _ => by cases hb)
      · show ((σ.g q).toList ++ []).Nodup
        rw [List.append_nil]
        cases σ.g q <;> simp
    · refine RowOK.keep hS.ok1 hS.rows hS.disj ho hZ (fun q' _ => hst q') rfl rfl rfl (fun b hb => hblk b (fp_lt hS ho b (fp_out hb)) (fun e => ?_))
      exact hS.disj key _ q o' hk ho (fun e => hq e.symm) b (fp_out e) (fp_out hb)
  · have hp2 : ∃ o2, look p s.heap = some o2 ∧ b ∈ fp σ p o2 := by
      rcases hl p o1 hp with ⟨rfl, rfl⟩ | ⟨_, ho⟩
      · exact ⟨_, hk, hfp0 b hb⟩
      · exact ⟨_, ho, hb⟩
    have hq2 : ∃ o2, look q s.heap = some o2 ∧ b ∈ fp σ q o2 := by
      rcases hl q u hq with ⟨rfl, rfl⟩ | ⟨_, ho⟩
      · exact ⟨_, hk, hfp0 b hb'⟩
      · exact ⟨_, ho, hb'⟩
    obtain ⟨o2, ho2, hb2⟩ := hp2
    obtain ⟨u2, hu2, hb3⟩ := hq2
    exact hS.disj p o2 q u2 ho2 hu2 hpq b hb2 hb3
end
end Go.Proofs.Ytmeijcgclllldaa

/- A row that is handed over: at the value nil; tables' entries at given arguments. -/
namespace Go.Proofs.Ytmeijcgclllldaa
open Go.RowKit

section
variable {P : Program} {cfg : Cfg} {w0 : W0} {w w' : World} {Ok : Nat → Prop} {N : Nat} {σ σ' : Asg} {s s' : St} {a : Act} {M : Nat → Prop}

theorem relArgs.split {A : Nat → Prop} : ∀ {pre : List (List D)} {ds : List (List D)} {vs : List Value}, relArgs A w (pre ++ ds) vs → ∃ vs1 vs2, vs = vs1 ++ vs2 ∧ relArgs A w pre vs1 ∧ relArgs A w ds vs2
  | [], ds, vs, h => ⟨[], vs, rfl, rfl, h⟩
  | d :: pre, ds, vs, ⟨v, us, e, h1, h2⟩ => by
    obtain ⟨us1, us2, e2, h3, h4⟩ := relArgs.split h2
    subst e2; subst e
    exact ⟨v :: us1, us2, rfl, ⟨v, us1, rfl, h1, h3⟩, h4⟩
theorem relArgs.join {A : Nat → Prop} : ∀ {pre : List (List D)} {ds : List (List D)} {vs1 vs2 : List Value}, relArgs A w pre vs1 → relArgs A w ds vs2 → relArgs A w (pre ++ ds) (vs1 ++ vs2)
  | [], ds, vs1, vs2, h, k => by rw [show vs1 = [] from h]; exact k
  | d :: pre, ds, vs1, vs2, ⟨v, us, e, h1, h2⟩, k => by
    subst e
    exact ⟨v, us ++ vs2, rfl, h1, relArgs.join h2 k⟩

theorem Bel.nil (h : Bel ⟨w, fun b => (none : Option Nat) = some b⟩ w') : Below w.heap.size w w' :=
  ⟨h.os, h.tape, h.output, h.size, fun i hi => h.block i hi (fun e => nomatch e)⟩

/-- The row nil handed over. -/
theorem AOw.nil {g : FuncId} {pre post : List (List D)} {k : Nat} {Q : List Res → Prop} (h : AOw P g pre k [] post Q) (hk : 0 < k) : AFn P g (pre ++ [.raw (.slice none 0 0)] :: post) Q := by
  refine ⟨h.call, fun A w vs hA hr => ?_⟩
  obtain ⟨vs1, vs2, e, h1, v, us, e2, h2, h3⟩ := relArgs.split hr
  subst e2; subst e
  obtain ⟨rfl, _⟩ := rdV_raw.1 (show rdV A w v (.raw (.slice none 0 0)) from h2)
  refine (h.fn A w vs1 us none 0 [] hA h1 h3 ⟨(Nat.zero_mul k).symm, .inl ⟨rfl, rfl, rfl⟩⟩ hk (by first | exact ⟨0, hk, rfl⟩ | exact ⟨0, hk, trivial⟩ | exact ⟨0, hk, by simp [rdL]⟩) (fun b e => nomatch e)).mono ?_
  rintro e w' ⟨v, rs, rfl, hQ, hb, ho⟩
  have e : (W0.mine ⟨w, fun b => (none : Option Nat) = some b⟩) = fun b => w.heap.size ≤ b := by funext b; simp [W0.mine]
  rw [e] at ho
  exact ⟨v, rs, rfl, hQ, hb.nil, ho⟩

theorem n_callR (C : CfgOK P cfg) (h : Sim w0 Ok N σ s a w) {o : Oper} {f : Operand} {args : Array Operand} {ts : Array TypeId} {g : FuncId} (ho : o.op = .call ⟨.value f, args, ts⟩) (hf : ((opv s.regs f).bind avD).bind fnId = some g)
    {ds : List (List D)} (hd : relArgs (Zn σ s.heap w) w ds (args.toList.map a.eval)) {Q0 : List Res → Prop} (hfn : AFn P g ds Q0)
    {K : Act → World → Prop} {Q : Exit → Act → World → Prop} {key : Nat} (hfr : ∀ rs, Q0 rs → ∀ q ob, look q (resACs key rs).2 = some ob → Free s q)
    (hK : ∀ rs, Q0 rs → ∀ v w' σ', relAV σ' ((resACs key rs).2 ++ s.heap) w' (outAV (resACs key rs).1) v → Sim w0 Ok N σ' ⟨s.regs, (resACs key rs).2 ++ s.heap⟩ a w' → K (a.put o.dst v) w') : o.wp P a w K Q := by
  have hfv : a.eval f = .func (.func g) #[] #[] := fnId_rel h hf
  have hrun : (execOp a.eval o).run P w = .ok (.enter g (args.map a.eval)) w := by
    unfold execOp
    rw [ho]
    simp [resolve, Deferred.ofValue, hfv, invoke, hfn.call]
  obtain ⟨A, hA, hAa, hAz⟩ : ∃ A : Nat → Prop, (∀ b, A b → b < w.heap.size) ∧ relArgs A w ds (args.toList.map a.eval) ∧ ((∃ rs, Q0 rs ∧ rs.all Res.scalar = false) → ∀ b, A b → Zn σ s.heap w b) := by
    exact ⟨Zn σ s.heap w, fun _ h => h.1, hd, fun _ b hb => hb⟩
  have hcall := hfn.fn A w (args.toList.map a.eval) hA hAa
  unfold Oper.wp
  rw [hrun, Oper.upon_enter]
  have e : (args.toList.map a.eval).toArray = args.map a.eval := by rw [← Array.toList_map, Array.toArray_toList]
  rw [← e]
  refine hcall.mono ?_
  rintro e w' ⟨v, rs, rfl, hQ, hw, us, G, X, rfl, hG1, hG2, hrel⟩
  obtain ⟨σ', k0, k1, k2, k3, k4⟩ := outs_asg key σ hrel hG1
  have hgn : ∀ q u, look q (resACs key rs).2 = some u → ∀ b, σ'.g q = some b → w.heap.size ≤ b := fun q u hq b hb => hG2 b ((k2 q u hq).2.2.1 b (fp_out hb))
  have hZ1 : (∀ b, A b → Zn σ s.heap w b) → ∀ b, ((A b ∨ w.heap.size ≤ b) ∧ b ∉ X) → b < w'.heap.size → Zn σ' ((resACs key rs).2 ++ s.heap) w' b := by
    intro hAz b hb hlt
    have hz := Kept.grown hw h hAz b hb.1 hlt
    refine ⟨hlt, by rw [k0]; exact hz.2.1, fun q u hq e => ?_⟩
    rw [look_append] at hq
    cases hn : look q (resACs key rs).2 with
    | some o' => exact hb.2 ((k2 q o' hn).2.2.2 b e)
    | none =>
      rw [hn] at hq
      rw [(k1 q hn).1] at e
      exact hz.2.2 q u hq e
  refine hK rs hQ _ w' σ' (out_rel ?_) ?_
  · by_cases hsc : rs.all Res.scalar = true
    · exact k4.relS hsc
    · exact k4.rel (hZ1 (hAz ⟨rs, hQ, by simpa using hsc⟩))
  · refine h.news k0 hw (hfr rs hQ) k1 (fun q o' hq => ?_) (fun q o' hq => ?_) k3
    · obtain ⟨⟨dd, k, xs, d, b1, b2, b3, b4⟩, _⟩ := k2 q o' hq
      subst b1
      refine ⟨dd, b2, b3, ?_⟩
      show if d = true then ownR k w' dd xs (σ'.F q) else rdR k (Zn σ' ((resACs key rs).2 ++ s.heap) w') w' dd xs
      cases d with
      | true => rw [if_pos rfl]; exact b4
      | false =>
        rw [if_neg (by decide)]
        have b4' : rdR k (fun b => (A b ∨ w.heap.size ≤ b) ∧ b ∉ X) w' dd xs := b4
        have hsc : rs.all Res.scalar = false := by
          have key : ∀ {rs : List Res} {key : Nat} {q : Nat}, look q (resACs key rs).2 = some (.row k xs false) → rs.all Res.scalar = false := by
            intro rs
            induction rs with
            | nil => intro key q hq; cases hq
            | cons r rs ih =>
              intro key q hq
              cases r with
              | val d => rw [List.all_cons, ih (by simpa [resACs, resAC] using hq), Bool.and_false]
              | own kk ys d =>
                simp only [resACs, resAC, List.singleton_append, look] at hq
                split at hq
                · cases hq; rfl
                · rw [List.all_cons, ih hq, Bool.and_false]
          exact key hq
        exact b4'.mono (fun b hb hlt => hZ1 (hAz ⟨rs, hQ, hsc⟩) b hb hlt)
    · obtain ⟨_, b5, b6, _⟩ := k2 q o' hq
      exact ⟨fun b hb => hG2 b (b6 b hb), b5⟩


theorem ROps.callNil (C : CfgOK P cfg) {ops : Array Oper} {o : Oper} {l : List Oper} {Q : St → Prop} {d : Nat} {f : Operand} {args : Array Operand} {ts : Array TypeId} {g : FuncId} (hb : awanted ops s.regs o = some true) (hdN : d < cfg.N)
    (ho : o.op = .call ⟨.value f, args, ts⟩) (hod : o.dst = some d) (hf : ((opv s.regs f).bind avD).bind fnId = some g)
    {xs : List Operand} {tx : List TypeId} {pre : List (List D)} (ha : args.toList = xs ++ [.const (.slice none 0 0)]) (hpre : aargs cfg (fun k => look k s.heap) s.regs xs tx = some pre) (hr : opRefs s.regs xs = [])
    {rs : List Res} (hfn : AFn P g (pre ++ [[.raw (.slice none 0 0)]]) (· = rs)) (hfr : (resACs d rs).2.all (fun p => fresh s p.1) = true)
    (h : ROps P cfg M ops l Q (s.got d rs)) : ROps P cfg M ops (o :: l) Q s := by
  intro w0 Ok σ a w Q' hM hS hQ
  refine wpList_step (fun K hK => ?_)
  rw [awanted_spec hS hb]
  simp only [if_true]
  have hrel : relArgs (Zn σ s.heap w) w (pre ++ [[.raw (.slice none 0 0)]]) (args.toList.map a.eval) := by
    rw [ha, List.map_append]
    exact relArgs.join ((aargs_rel C hS hpre).2 hr) ⟨_, [], rfl, rdV_raw.2 ⟨rfl, rfl⟩, rfl⟩
  refine n_callR C hS (key := d) ho hf hrel hfn (fun rs' e => e ▸ fun q ob hq => fresh_free (List.all_eq_true.1 hfr _ (look_all hq))) (fun rs' e v w' σ' hv hS' => ?_)
  subst e
  rw [hod]
  have hsub : ∀ k o', look k (insAll (resACs d rs').2 s.heap) = some o' → look k ((resACs d rs').2 ++ s.heap) = some o' := fun k o' ho' => by rw [look_insAll] at ho'; exact ho'
  exact hK _ _ (h w0 Ok σ' _ _ Q' hM (Sim.ins (hS'.forget (fun _ _ h => h) hsub) hdN (hv.sub hsub)) hQ)
end

/-- A function that a row is handed over to, at given arguments. -/
noncomputable def atOwn (A : List (List D)) (k : Nat) (X : List (List D)) (B : List (List D)) (R : List Res) (a : List (List D)) (k' : Nat) (x : List (List D)) (b : List (List D)) : Option (List Res × Option (List (List D))) := by
  classical
  exact if a = A ∧ k' = k ∧ x = X ∧ b = B then some (R, Option.none) else Option.none
theorem atOwn_eq (A : List (List D)) (k : Nat) (X : List (List D)) (B : List (List D)) (R : List Res) : atOwn A k X B R A k X B = some (R, Option.none) := by
  unfold atOwn; rw [if_pos ⟨rfl, rfl, rfl, rfl⟩]
theorem atOwn_some {A : List (List D)} {k : Nat} {X : List (List D)} {B : List (List D)} {R : List Res} {a : List (List D)} {k' : Nat} {x b : List (List D)} {r : List Res × Option (List (List D))} (h : atOwn A k X B R a k' x b = some r) : a = A ∧ k' = k ∧ x = X ∧ b = B ∧ r = (R, Option.none) := by
  unfold atOwn at h
  split at h
  · rename_i h1
    exact ⟨h1.1, h1.2.1, h1.2.2.1, h1.2.2.2, (Option.some.inj h).symm⟩
  · exact nomatch h
noncomputable def Tab.own' {P : Program} (T : Tab P) (g : FuncId) (n : Nat) {A : List (List D)} {k : Nat} {X B : List (List D)} {R : List Res} (h : AOw P g A k X B (· = R)) : Tab P :=
  T.own g ⟨false, n, atOwn A k X B R⟩ (fun pre k' xs post r _ e => by
    obtain ⟨rfl, rfl, rfl, rfl, rfl⟩ := atOwn_some e
    exact h.toEf)
end Go.Proofs.Ytmeijcgclllldaa

/- slices.IndexFunc and slices.DeleteFunc at rows of lists. -/
namespace Go.Proofs.Ytmeijcgclllldaa
open Go.RowKit

/-- The number of the first that p holds of. -/
def fIdx {α : Type} (p : α → Bool) : List α → Option Nat
  | [] => none
  | x :: xs => if p x then some 0 else (fIdx p xs).map (· + 1)
def idxI (o : Option Nat) : Int := match o with | some i => i | none => -1
theorem fIdx_none {α : Type} {p : α → Bool} : ∀ {xs : List α}, fIdx p xs = none ↔ ∀ x ∈ xs, p x = false
  | [] => by simp [fIdx]
  | x :: xs => by
    unfold fIdx
    by_cases h : p x = true
    · simp [h]
    · have h' : p x = false := by simpa using h
      simp only [h, Bool.false_eq_true, if_false, Option.map_eq_none_iff, fIdx_none (xs := xs)]
      simp [h']
theorem fIdx_some {α : Type} {p : α → Bool} : ∀ {xs : List α} {i : Nat}, fIdx p xs = some i → ∃ h : i < xs.length, p xs[i] = true ∧ ∀ x ∈ xs.take i, p x = false
  | x :: xs, i, h => by
    unfold fIdx at h
    by_cases hx : p x = true
    · rw [if_pos hx] at h; cases h
      exact ⟨by simp, hx, by simp⟩
    · rw [if_neg hx] at h
      obtain ⟨j, hj, rfl⟩ := map_some h
      obtain ⟨h1, h2, h3⟩ := fIdx_some hj
      refine ⟨by simpa using h1, h2, fun y hy => ?_⟩
      rw [List.take_succ_cons, List.mem_cons] at hy
      rcases hy with rfl | hy
      · simpa using hx
      · exact h3 y hy
theorem fIdx_at {α : Type} {p : α → Bool} : ∀ {xs : List α} {i : Nat} (h : i < xs.length), p xs[i] = true → (∀ x ∈ xs.take i, p x = false) → fIdx p xs = some i
  | x :: xs, 0, _, h1, _ => by
    have h1 : p x = true := h1
    unfold fIdx; rw [if_pos h1]
  | x :: xs, i + 1, h, h1, h2 => by
    unfold fIdx
    have hx : p x = false := h2 x (by simp)
    rw [if_neg (by simp [hx]), fIdx_at (xs := xs) (i := i) (by simpa using h) h1 (fun y hy => h2 y (by simp [hy]))]
    rfl

set_option maxHeartbeats 2000000 in
theorem a_IndexFunc {α : Type} (e : α → List D) (d : α → D) (f : α → List Int) (p : α → Bool) (g : FuncId) (he : ∀ x, e x = [d x]) (hun : ∀ x, (d x).un = .sl 1 ((f x).map eI)) (hp : ∀ x, AFn Try.prog g [eL (f x)] (· = [.val (.bool (p x))])) (xs : List α) (hl : xs.length ≤ 1000000000) :
    AFn Try.prog 118 [[.sl 1 (xs.map e)], [.raw (.func (.func g) #[] #[])]] (· = [.val (.int (idxI (fIdx p xs)))]) := by
  refine AFn.of_runs (cfg_ok 19) Try.func118 rfl rfl rfl (by simp only [List.length_cons, List.length_nil]; decide) ?_
  have hres : Try.f118.results.toList = [.tmp 4] := rfl
  have hrts : Try.f118.resultTypes.toList = [3] := rfl
  simp only [argRegs, argAV1, Nat.zero_add]
  intro M
  refine RunK.of ?_
  have hle : (xs.map e).length = xs.length := by simp
  repeat' (first | with_reducible refine RunK.seq ?_ | with_reducible refine RunK.next ?_ | with_reducible refine RunK.skip ?_ | with_reducible refine RunK.exit ?_ | with_reducible refine RunK.ret ?_ | with_reducible refine RunK.label ?_ | with_reducible refine outK.blkN ?_ | with_reducible refine outK.blkX ?_ | with_reducible refine outK.seqX ?_ | with_reducible refine outK.seqR ?_ | with_reducible refine outK.blkR ?_ | ((with_reducible refine outK.blkO ?_ ?_); focus (rfl)) | with_reducible refine RunK.blockS ?_ | with_reducible refine RunK.blockR ?_ | with_reducible refine RunK.blockC ?_ | with_reducible refine RunK.blockB ?_ | ((with_reducible refine RunK.wT 9 (l := ?_) ?_ ?_); rotate_left 1; (focus (simp only [cutR, cond_true, cond_false, Nat.reduceSub, Nat.reduceBEq]; with_reducible rfl))) | ((with_reducible refine RunK.wF 9 (l := ?_) ?_ ?_); rotate_left 1; (focus (simp only [cutR, cond_true, cond_false, Nat.reduceSub, Nat.reduceBEq]; with_reducible rfl))) | ((first | with_reducible refine RunK.wS (cfg_ok 19) Tab.none (s' := ?_) ?_ ?_ | with_reducible refine RunK.wC (b := ?_) ?_ ?_); rotate_left 1; (focus ((with_reducible refine Work.mk ?_); simp only [astep, anew, amut, isMut, awanted, dstOK, cfg, opv, noJunk, constAV, look_eq, lookB, insR_eq, insB, cond_true, cond_false, insAll, List.foldr_nil, Option.bind_some, Option.map_some, Option.bind_none, Option.map_none, Nat.reduceEqDiff, Nat.reduceLT, if_true, if_false, Bool.false_eq_true, decide_true, slT, dval, un_sl, avun_val, alen, fresh, AV.refs, AC.refs, Obj.refs, List.all_cons, List.all_nil, List.contains_nil, Bool.not_false, Bool.and_self, Option.isNone_none, Nat.reduceSub, and_self, beq_self_eq_true, Nat.reduceBEq, putR, Bool.not_false, Int.reduceLE, Int.reduceNeg, aopsT, astepT, isCall, acallT, isOwn, callE, gotF_none,  Tab.none, Option.map_some, hle]; with_reducible rfl))))
  refine RunK.loop (β := Nat) (γ := Unit) (fun i => ⟨[(0, .c (.val (.sl 1 (xs.map e)))), (1, .c (.val (.raw (.func (.func g) #[] #[])))), (7, .c (.val (.int xs.length))), (8, .c (.val (.int i)))], []⟩) (fun i => i ≤ xs.length ∧ ∀ x ∈ xs.take i, p x = false) (fun i => xs.length - i)
    (fun _ => ⟨[], []⟩) (fun _ => ∀ x ∈ xs, p x = false) 0 ⟨Nat.zero_le _, by simp⟩ ?_ ?_ ?_
  · (repeat' (first | with_reducible refine Fits.nil | ((with_reducible refine Fits.reg ?_ ?_); focus (first | with_reducible rfl | (simp only [look_eq, lookB, cond_true, cond_false, Nat.reduceBEq]; done) | rfl)) | ((with_reducible refine Fits.obj (o' := ?_) ?_ ?_ ?_); rotate_left 1; focus (rfl)) | ((with_reducible refine wk.same ?_ ?_); (focus (first | with_reducible rfl | (simp only [List.map_append, List.map_cons, List.map_nil, List.append_assoc, List.cons_append, List.nil_append, List.append_nil]; done))); (focus (first | exact id | exact (fun h => nomatch h) | exact (fun _ => rfl))))))
  · rintro i ⟨hi, hlow⟩
    have hw := w64_succ (n := i) (by omega)
    by_cases h : i < xs.length
    · have hx := hp xs[i]
      have hj : (xs.map e)[i]? = some [d xs[i]] := by rw [map_get h, he]
      have i1 : ((i : Int) < (xs.length : Int)) = True := eq_true (by omega)
      have i2 : ((0 : Int) ≤ (i : Int)) = True := eq_true (by omega)
      by_cases hpx : p xs[i] = true
      · repeat' (first | with_reducible refine RunK.seq ?_ | with_reducible refine RunK.next ?_ | with_reducible refine RunK.skip ?_ | with_reducible refine RunK.exit ?_ | with_reducible refine RunK.ret ?_ | with_reducible refine RunK.label ?_ | with_reducible refine outK.blkN ?_ | with_reducible refine outK.blkX ?_ | with_reducible refine outK.seqX ?_ | with_reducible refine outK.seqR ?_ | with_reducible refine outK.blkR ?_ | ((with_reducible refine outK.blkO ?_ ?_); focus (rfl)) | with_reducible refine RunK.blockS ?_ | with_reducible refine RunK.blockR ?_ | with_reducible refine RunK.blockC ?_ | with_reducible refine RunK.blockB ?_ | ((with_reducible refine RunK.wT 9 (l := ?_) ?_ ?_); rotate_left 1; (focus (simp only [cutR, cond_true, cond_false, Nat.reduceSub, Nat.reduceBEq]; with_reducible rfl))) | ((with_reducible refine RunK.wF 9 (l := ?_) ?_ ?_); rotate_left 1; (focus (simp only [cutR, cond_true, cond_false, Nat.reduceSub, Nat.reduceBEq]; with_reducible rfl))) | ((first | with_reducible refine RunK.wS (cfg_ok 19) (Tab.none.at' g hx) (s' := ?_) ?_ ?_ | with_reducible refine RunK.wC (b := ?_) ?_ ?_); rotate_left 1; (focus ((with_reducible refine Work.mk ?_); simp only [astep, anew, amut, isMut, awanted, dstOK, cfg, opv, noJunk, constAV, look_eq, lookB, insR_eq, insB, cond_true, cond_false, insAll, List.foldr_nil, Option.bind_some, Option.map_some, Option.bind_none, Option.getD_some, Nat.reduceEqDiff, Nat.reduceLT, if_true, if_false, Bool.false_eq_true, decide_true, slT, tyT, avD, avI, avB, dval, un_int, un_raw, un_sl, avun_val, abin, aindex, acells, aload, fresh, drop_eq, killR, AC.kill, AV.kill, AV.refs, AC.refs, Obj.refs, List.map_cons, List.map_nil, List.all_cons, List.all_nil, List.contains_nil, List.append_nil, Bool.not_false, Bool.and_self, Option.isNone_none, List.length_cons, List.length_nil, List.drop_succ_cons, List.drop_nil, Nat.zero_add, Nat.reduceSub, and_self, true_and, List.getElem?_nil, beq_self_eq_true, Nat.reduceBEq, Bool.true_or, putR, Obj.k, List.getElem?_cons, Bool.not_false, Int.reduceNeg, aopsT, astepT, isCall, acallT, arg1, isOwn, callE, Tab.at', atArgs_eq, Option.isSome_none, gotT_some, gotF_some, gotF_none, List.size_toArray,  aargs, argAV, argCells, argCell, fnId, opRefs_nil, opRefs_cons, St.got, resACs, resAC, outAV, Tab.add, Tab.none, List.isEmpty_nil, Option.getD_some, Option.map_some, hle, i1, i2, hj, hun, argV_un (hun _), hpx, eL, Int.toNat_natCast]; with_reducible rfl))))
        refine roundK.ret ?_
        repeat' (first | with_reducible refine RunK.seq ?_ | with_reducible refine RunK.next ?_ | with_reducible refine RunK.skip ?_ | with_reducible refine RunK.exit ?_ | with_reducible refine RunK.ret ?_ | with_reducible refine RunK.label ?_ | with_reducible refine outK.blkN ?_ | with_reducible refine outK.blkX ?_ | with_reducible refine outK.seqX ?_ | with_reducible refine outK.seqR ?_ | with_reducible refine outK.blkR ?_ | ((with_reducible refine outK.blkO ?_ ?_); focus (rfl)) | with_reducible refine RunK.blockS ?_ | with_reducible refine RunK.blockR ?_ | with_reducible refine RunK.blockC ?_ | with_reducible refine RunK.blockB ?_ | ((with_reducible refine RunK.wT 9 (l := ?_) ?_ ?_); rotate_left 1; (focus (simp only [cutR, cond_true, cond_false, Nat.reduceSub, Nat.reduceBEq]; with_reducible rfl))) | ((with_reducible refine RunK.wF 9 (l := ?_) ?_ ?_); rotate_left 1; (focus (simp only [cutR, cond_true, cond_false, Nat.reduceSub, Nat.reduceBEq]; with_reducible rfl))) | ((first | with_reducible refine RunK.wS (cfg_ok 19) Tab.none (s' := ?_) ?_ ?_ | with_reducible refine RunK.wC (b := ?_) ?_ ?_); rotate_left 1; (focus ((with_reducible refine Work.mk ?_); simp only [arun, astep, anew, amut, isMut, awanted, dstOK, cfg, opv, noJunk, constAV, look_eq, lookB, insR_eq, insB, cond_true, cond_false, insAll, List.foldr_cons, List.foldr_nil, Option.bind_some, Option.map_some, Option.bind_none, Option.map_none, Option.getD_some, Option.getD_none, Nat.reduceEqDiff, Nat.reduceLT, Nat.reduceLeDiff, reduceIte, if_true, if_false, Bool.false_eq_true, decide_true, decide_false, reduceCtorEq, slT, tyT, fsT, avD, avI, avB, dval, un_int, un_bool, un_raw, un_sl, un_tag, avun_val, avun_nil, avun_own, avun_view, abin, aun, alen, aindex, aslice, afield, acells, aload, avCells, zAC, afill, aparts, mkObj, rowsD, cellsD, cellD_vsl, cellD_vtag, cellD_vint, cellD_vbool, cellD_vraw, cellD_nilsl, cellD_own, cellD_view, cellD_junk, fresh, abase, aelems, absorbKey, absorbs, absorb, absorbRows, drop_eq, dropB, killR, AC.kill, AV.kill, AV.refs, AC.refs, Obj.refs, List.map_cons, List.map_nil, List.all_cons, List.all_nil, List.flatMap_cons, List.flatMap_nil, List.contains_nil, List.contains_cons, List.append_nil, List.nil_append, List.cons_append, Bool.and_true, Bool.true_and, Bool.not_true, Bool.not_false, Bool.and_self, Option.isNone_none, Option.isNone_some, List.length_cons, List.length_nil, List.toList_toArray, List.getElem?_toArray, splice, List.take_succ_cons, List.drop_succ_cons, List.take_zero, List.drop_zero, List.take_nil, List.drop_nil, Nat.reduceAdd, Nat.reduceMul, Nat.zero_add, Nat.add_zero, Nat.reduceSub, and_self, true_and, and_true, List.getElem?_cons_zero, List.getElem?_cons_succ, List.getElem?_nil, beq_self_eq_true, Nat.reduceBEq, Bool.or_false, Bool.false_or, Bool.or_true, Bool.true_or, putR, bne_self_eq_false, Bool.and_false, Bool.false_and, id_eq, Obj.k, Obj.len, Obj.deep, List.getElem?_cons, List.set_cons_zero, List.set_cons_succ, List.length_set, beq_true, beq_false, Bool.not_true, Bool.not_false, Int.reduceLE, Int.reduceLT, Int.reduceNeg, Int.reduceAdd, Int.reduceSub, Int.reduceMul, Int.reduceToNat, Int.reduceEq, aopsT, astepT, isCall, acallT, arg1, argV_raw, argV_nil, argV_own, argV_view, argV_agg, argV_sl, argV_int, argV_bool, argV_tag, isOwn, callE, ownKey, rowE_row, putE_some, putE_none, Tab.own, Tab.at', atArgs_eq, Option.isSome_some, Option.isSome_none, gotT_some, gotF_some, gotF_none, callRefs_call, St.frzs, St.frz, AC.frz, AV.frz, Obj.frz, frzR, frzH, telT_some, List.size_toArray,  aargs, argAV, argCells, argCell, fnId, opRefs_nil, opRefs_cons, St.got, resACs, resAC, outAV, Res.scalar, isSl, Tab.add, Tab.none, tab1, tab2, tab3, codL_d, codLL_d, codI_d, codB_d, codCts_d, List.isEmpty_nil, List.isEmpty_cons, List.append_eq, Option.getD_some, Option.map_some, ite_true, ite_false]; with_reducible rfl))))
        rw [fIdx_at h hpx hlow]
        (refine Ends.mk (by simp) (rs := ?_) (ks := ?_) hres hrts ?_ ?_ ?_; rotate_left 2; (focus (simp only [aresults, ares, cfg, look_eq, lookB, cond_true, cond_false, Option.bind_some, Option.map_some, Nat.reduceEqDiff, if_true, if_false, tyT, List.append_nil, beq_self_eq_true, Nat.reduceBEq,  Option.map_some]; with_reducible rfl)); (focus (simp)); (focus (first | with_reducible rfl | (simp only [idxI]; done))))
      · have hpx' : p xs[i] = false := by simpa using hpx
        repeat' (first | with_reducible refine RunK.seq ?_ | with_reducible refine RunK.next ?_ | with_reducible refine RunK.skip ?_ | with_reducible refine RunK.exit ?_ | with_reducible refine RunK.ret ?_ | with_reducible refine RunK.label ?_ | with_reducible refine outK.blkN ?_ | with_reducible refine outK.blkX ?_ | with_reducible refine outK.seqX ?_ | with_reducible refine outK.seqR ?_ | with_reducible refine outK.blkR ?_ | ((with_reducible refine outK.blkO ?_ ?_); focus (rfl)) | with_reducible refine RunK.blockS ?_ | with_reducible refine RunK.blockR ?_ | with_reducible refine RunK.blockC ?_ | with_reducible refine RunK.blockB ?_ | ((with_reducible refine RunK.wT 9 (l := ?_) ?_ ?_); rotate_left 1; (focus (simp only [cutR, cond_true, cond_false, Nat.reduceSub, Nat.reduceBEq]; with_reducible rfl))) | ((with_reducible refine RunK.wF 9 (l := ?_) ?_ ?_); rotate_left 1; (focus (simp only [cutR, cond_true, cond_false, Nat.reduceSub, Nat.reduceBEq]; with_reducible rfl))) | ((first | with_reducible refine RunK.wS (cfg_ok 19) (Tab.none.at' g hx) (s' := ?_) ?_ ?_ | with_reducible refine RunK.wC (b := ?_) ?_ ?_); rotate_left 1; (focus ((with_reducible refine Work.mk ?_); simp only [astep, anew, amut, isMut, awanted, dstOK, cfg, opv, noJunk, constAV, look_eq, lookB, insR_eq, insB, cond_true, cond_false, insAll, List.foldr_nil, Option.bind_some, Option.map_some, Option.bind_none, Option.getD_some, Nat.reduceEqDiff, Nat.reduceLT, if_true, if_false, Bool.false_eq_true, decide_true, slT, tyT, avD, avI, avB, dval, un_int, un_raw, un_sl, avun_val, abin, aindex, acells, aload, fresh, drop_eq, killR, AC.kill, AV.kill, AV.refs, AC.refs, Obj.refs, List.map_cons, List.map_nil, List.all_cons, List.all_nil, List.contains_nil, List.append_nil, Bool.not_false, Bool.and_self, Option.isNone_none, List.length_cons, List.length_nil, List.drop_succ_cons, List.drop_nil, Nat.zero_add, Nat.reduceSub, and_self, true_and, List.getElem?_nil, beq_self_eq_true, Nat.reduceBEq, Bool.true_or, putR, Obj.k, List.getElem?_cons, Bool.not_false, Int.reduceLE, Int.reduceNeg, aopsT, astepT, isCall, acallT, arg1, isOwn, callE, Tab.at', atArgs_eq, Option.isSome_none, gotT_some, gotF_some, gotF_none, List.size_toArray,  aargs, argAV, argCells, argCell, fnId, opRefs_nil, opRefs_cons, St.got, resACs, resAC, outAV, Tab.add, Tab.none, List.isEmpty_nil, Option.getD_some, Option.map_some, hle, i1, i2, hj, hun, argV_un (hun _), hpx', hw, eL, Int.toNat_natCast]; with_reducible rfl))))
        refine roundK.on (i + 1) ⟨⟨h, fun x hx => ?_⟩, by omega⟩ ?_
        · rw [List.take_succ_eq_append_getElem h, List.mem_append, List.mem_singleton] at hx
          rcases hx with hx | rfl
          · exact hlow x hx
          · exact hpx'
        · (repeat' (first | with_reducible refine Fits.nil | ((with_reducible refine Fits.reg ?_ ?_); focus (first | with_reducible rfl | (simp only [look_eq, lookB, cond_true, cond_false, Nat.reduceBEq]; done) | rfl)) | ((with_reducible refine Fits.obj (o' := ?_) ?_ ?_ ?_); rotate_left 1; focus (rfl)) | ((with_reducible refine wk.same ?_ ?_); (focus (first | with_reducible rfl | (simp only [List.map_append, List.map_cons, List.map_nil, List.append_assoc, List.cons_append, List.nil_append, List.append_nil]; done))); (focus (first | exact id | exact (fun h => nomatch h) | exact (fun _ => rfl))))))
    · have i1 : ((i : Int) < (xs.length : Int)) = False := eq_false (by omega)
      repeat' (first | with_reducible refine RunK.seq ?_ | with_reducible refine RunK.next ?_ | with_reducible refine RunK.skip ?_ | with_reducible refine RunK.exit ?_ | with_reducible refine RunK.ret ?_ | with_reducible refine RunK.label ?_ | with_reducible refine outK.blkN ?_ | with_reducible refine outK.blkX ?_ | with_reducible refine outK.seqX ?_ | with_reducible refine outK.seqR ?_ | with_reducible refine outK.blkR ?_ | ((with_reducible refine outK.blkO ?_ ?_); focus (rfl)) | with_reducible refine RunK.blockS ?_ | with_reducible refine RunK.blockR ?_ | with_reducible refine RunK.blockC ?_ | with_reducible refine RunK.blockB ?_ | ((with_reducible refine RunK.wT 9 (l := ?_) ?_ ?_); rotate_left 1; (focus (simp only [cutR, cond_true, cond_false, Nat.reduceSub, Nat.reduceBEq]; with_reducible rfl))) | ((with_reducible refine RunK.wF 9 (l := ?_) ?_ ?_); rotate_left 1; (focus (simp only [cutR, cond_true, cond_false, Nat.reduceSub, Nat.reduceBEq]; with_reducible rfl))) | ((first | with_reducible refine RunK.wS (cfg_ok 19) Tab.none (s' := ?_) ?_ ?_ | with_reducible refine RunK.wC (b := ?_) ?_ ?_); rotate_left 1; (focus ((with_reducible refine Work.mk ?_); simp only [astep, anew, amut, isMut, awanted, dstOK, cfg, opv, noJunk, look_eq, lookB, insR_eq, insB, cond_true, cond_false, insAll, List.foldr_nil, Option.bind_some, Option.map_some, Nat.reduceLT, if_true, if_false, Bool.false_eq_true, decide_true, decide_false, avD, avB, dval, un_int, abin, fresh, AV.refs, AC.refs, Obj.refs, List.all_cons, List.all_nil, List.contains_nil, Bool.not_false, Bool.and_self, Option.isNone_none, Nat.reduceSub, beq_self_eq_true, Nat.reduceBEq, putR, Bool.not_false, aopsT, astepT, isCall, acallT, isOwn, callE, gotF_none,  Tab.none, Option.map_some, i1]; with_reducible rfl))))
      refine roundK.out () (fun x hx => hlow x (by rw [List.take_of_length_le (by omega)]; exact hx)) ?_
      (repeat' (first | with_reducible refine Fits.nil | ((with_reducible refine Fits.reg ?_ ?_); focus (first | with_reducible rfl | (simp only [look_eq, lookB, cond_true, cond_false, Nat.reduceBEq, List.length_append, List.length_map, List.length_cons, List.length_nil, Nat.zero_add, List.length_set]; done) | rfl)) | ((with_reducible refine Fits.obj (o' := ?_) ?_ ?_ ?_); rotate_left 1; focus (rfl)) | ((with_reducible refine wk.same ?_ ?_); (focus (first | with_reducible rfl | (simp only [List.map_append, List.map_cons, List.map_nil, List.append_assoc, List.cons_append, List.nil_append, List.append_nil]; done))); (focus (first | exact id | exact (fun h => nomatch h) | exact (fun _ => rfl))))))
  · rintro _ hno
    repeat' (first | with_reducible refine RunK.seq ?_ | with_reducible refine RunK.next ?_ | with_reducible refine RunK.skip ?_ | with_reducible refine RunK.exit ?_ | with_reducible refine RunK.ret ?_ | with_reducible refine RunK.label ?_ | with_reducible refine outK.blkN ?_ | with_reducible refine outK.blkX ?_ | with_reducible refine outK.seqX ?_ | with_reducible refine outK.seqR ?_ | with_reducible refine outK.blkR ?_ | ((with_reducible refine outK.blkO ?_ ?_); focus (rfl)) | with_reducible refine RunK.blockS ?_ | with_reducible refine RunK.blockR ?_ | with_reducible refine RunK.blockC ?_ | with_reducible refine RunK.blockB ?_ | ((with_reducible refine RunK.wT 9 (l := ?_) ?_ ?_); rotate_left 1; (focus (simp only [cutR, cond_true, cond_false, Nat.reduceSub, Nat.reduceBEq]; with_reducible rfl))) | ((with_reducible refine RunK.wF 9 (l := ?_) ?_ ?_); rotate_left 1; (focus (simp only [cutR, cond_true, cond_false, Nat.reduceSub, Nat.reduceBEq]; with_reducible rfl))) | ((first | with_reducible refine RunK.wS (cfg_ok 19) Tab.none (s' := ?_) ?_ ?_ | with_reducible refine RunK.wC (b := ?_) ?_ ?_); rotate_left 1; (focus ((with_reducible refine Work.mk ?_); simp only [astep, anew, amut, isMut, awanted, dstOK, cfg, opv, constAV, look_eq, lookB, insR_eq, insB, insAll, Option.bind_some, Option.bind_none, Nat.reduceLT, if_true, if_false, Bool.false_eq_true, decide_true, fresh, AV.refs, AC.refs, Obj.refs, List.all_nil, Bool.and_self, Option.isNone_none, and_self, putR, Int.reduceLE, Int.reduceNeg, aopsT, astepT, isCall, acallT, isOwn, callE, gotF_none,  Tab.none]; with_reducible rfl))))
    rw [fIdx_none.2 hno]
    (refine Ends.mk (by simp) (rs := ?_) (ks := ?_) hres hrts ?_ ?_ ?_; rotate_left 2; (focus (simp only [aresults, ares, cfg, look_eq, lookB, cond_true, Option.bind_some, Option.map_some, Nat.reduceEqDiff, if_true, if_false, tyT, List.append_nil, beq_self_eq_true, Int.reduceNeg,  Option.map_some]; with_reducible rfl)); (focus (simp)); (focus (first | with_reducible rfl | (simp only [idxI]; done))))

/-- What is kept. -/
def keepF {α : Type} (p : α → Bool) (xs : List α) : List α := xs.filter fun x => !p x

set_option maxHeartbeats 4000000 in
theorem a_DeleteFunc {α : Type} (e : α → List D) (d : α → D) (f : α → List Int) (p : α → Bool) (g : FuncId) (he : ∀ x, e x = [d x]) (hun : ∀ x, (d x).un = .sl 1 ((f x).map eI)) (hp : ∀ x, AFn Try.prog g [eL (f x)] (· = [.val (.bool (p x))])) (xs : List α) (hl : xs.length ≤ 1000000000) :
    AOw Try.prog 107 [] 1 (xs.map e) [[.raw (.func (.func g) #[] #[])]] (· = [.own 1 ((keepF p xs).map e) false]) := by
  have hidx := a_IndexFunc e d f p g he hun hp xs hl
  rcases hfi : fIdx p xs with _ | i0
  · rw [hfi] at hidx
    have hk : keepF p xs = xs := List.filter_eq_self.2 (fun x hx => by rw [fIdx_none.1 hfi x hx]; rfl)
    rw [hk]
    refine AOw.of_runs (cfg_ok 42) Try.func107 rfl rfl rfl (by simp only [List.length_cons, List.length_nil]; decide) ?_
    have hres : Try.f107.results.toList = [.tmp 4] := rfl
    have hrts : Try.f107.resultTypes.toList = [47] := rfl
    simp only [List.length_nil, List.nil_append, argRegs, argAV1, Nat.zero_add]
    intro M
    refine RunK.of ?_
    repeat' (first | with_reducible refine RunK.seq ?_ | with_reducible refine RunK.next ?_ | with_reducible refine RunK.skip ?_ | with_reducible refine RunK.exit ?_ | with_reducible refine RunK.ret ?_ | with_reducible refine RunK.label ?_ | with_reducible refine outK.blkN ?_ | with_reducible refine outK.blkX ?_ | with_reducible refine outK.seqX ?_ | with_reducible refine outK.seqR ?_ | with_reducible refine outK.blkR ?_ | ((with_reducible refine outK.blkO ?_ ?_); focus (rfl)) | with_reducible refine RunK.blockS ?_ | with_reducible refine RunK.blockR ?_ | with_reducible refine RunK.blockC ?_ | with_reducible refine RunK.blockB ?_ | ((with_reducible refine RunK.wT 8 (l := ?_) ?_ ?_); rotate_left 1; (focus (simp only [cutR, cond_true, cond_false, Nat.reduceSub, Nat.reduceBEq]; with_reducible rfl))) | ((with_reducible refine RunK.wF 8 (l := ?_) ?_ ?_); rotate_left 1; (focus (simp only [cutR, cond_true, cond_false, Nat.reduceSub, Nat.reduceBEq]; with_reducible rfl))) | ((first | with_reducible refine RunK.wS (cfg_ok 42) (Tab.none.at' 118 hidx) (s' := ?_) ?_ ?_ | with_reducible refine RunK.wC (b := ?_) ?_ ?_); rotate_left 1; (focus ((with_reducible refine Work.mk ?_); simp only [astep, anew, amut, isMut, awanted, dstOK, cfg, opv, noJunk, constAV, look_eq, lookB, insR_eq, insB, cond_true, cond_false, insAll, List.foldr_nil, Option.bind_some, Option.map_some, Option.bind_none, Option.getD_some, Nat.reduceEqDiff, Nat.reduceLT, if_true, if_false, Bool.false_eq_true, decide_true, reduceCtorEq, tyT, avD, avB, dval, un_int, un_raw, un_sl, abin, fresh, drop_eq, dropB, killR, AC.kill, AV.kill, AV.refs, AC.refs, Obj.refs, List.map_cons, List.map_nil, List.all_cons, List.all_nil, List.contains_nil, List.contains_cons, List.append_nil, Bool.and_true, Bool.true_and, Bool.not_false, Bool.and_self, List.length_nil, List.drop_succ_cons, Nat.reduceSub, and_self, beq_self_eq_true, Nat.reduceBEq, Bool.or_false, Bool.false_or, putR, Bool.not_false, Int.reduceLE, Int.reduceNeg, aopsT, astepT, isCall, acallT, arg1, argV_raw, argV_own, isOwn, callE, Tab.at', atArgs_eq, Option.isSome_none, gotT_some, gotF_some, gotF_none, List.size_toArray,  aargs, argAV, argCells, argCell, fnId, opRefs_nil, opRefs_cons, St.got, resACs, resAC, outAV, Res.scalar, isSl, Tab.add, Tab.none, List.isEmpty_cons, Option.getD_some, Option.map_some, idxI]; with_reducible rfl))))
    (refine Ends.mk (by simp) (rs := ?_) (ks := ?_) hres hrts ?_ ?_ ?_; rotate_left 2; (focus (simp only [aresults, ares, cfg, look_eq, lookB, cond_true, cond_false, Option.bind_some, Option.map_some, Nat.reduceEqDiff, if_true, if_false, tyT, List.append_nil, beq_self_eq_true, Nat.reduceBEq, Int.reduceNeg,  Option.map_some]; with_reducible rfl)); (focus (simp)); (focus (first | with_reducible rfl | (simp only [List.map_append, List.map_cons, List.map_nil, List.append_assoc, List.cons_append, List.nil_append, List.append_nil]; done))))
  · rw [hfi] at hidx
    obtain ⟨hi0, hpi, hlow⟩ := fIdx_some hfi
    refine AOw.of_runs (cfg_ok 42) Try.func107 rfl rfl rfl (by simp only [List.length_cons, List.length_nil]; decide) ?_
    have hres : Try.f107.results.toList = [.tmp 4] := rfl
    have hrts : Try.f107.resultTypes.toList = [47] := rfl
    simp only [List.length_nil, List.nil_append, argRegs, argAV1, Nat.zero_add]
    intro M
    refine RunK.of ?_
    have hne : ((i0 : Int) == -1) = false := beq_eq_false_iff_ne.2 (by omega)
    have hw0 := w64_succ (n := i0) (by omega)
    repeat' (first | with_reducible refine RunK.seq ?_ | with_reducible refine RunK.next ?_ | with_reducible refine RunK.skip ?_ | with_reducible refine RunK.exit ?_ | with_reducible refine RunK.ret ?_ | with_reducible refine RunK.label ?_ | with_reducible refine outK.blkN ?_ | with_reducible refine outK.blkX ?_ | with_reducible refine outK.seqX ?_ | with_reducible refine outK.seqR ?_ | with_reducible refine outK.blkR ?_ | ((with_reducible refine outK.blkO ?_ ?_); focus (rfl)) | with_reducible refine RunK.blockS ?_ | with_reducible refine RunK.blockR ?_ | with_reducible refine RunK.blockC ?_ | with_reducible refine RunK.blockB ?_ | ((with_reducible refine RunK.wT 8 (l := ?_) ?_ ?_); rotate_left 1; (focus (simp only [cutR, cond_true, cond_false, Nat.reduceSub, Nat.reduceBEq]; with_reducible rfl))) | ((with_reducible refine RunK.wF 8 (l := ?_) ?_ ?_); rotate_left 1; (focus (simp only [cutR, cond_true, cond_false, Nat.reduceSub, Nat.reduceBEq]; with_reducible rfl))) | ((first | with_reducible refine RunK.wS (cfg_ok 42) (Tab.none.at' 118 hidx) (s' := ?_) ?_ ?_ | with_reducible refine RunK.wC (b := ?_) ?_ ?_); rotate_left 1; (focus ((with_reducible refine Work.mk ?_); simp only [astep, anew, amut, isMut, awanted, dstOK, cfg, opv, noJunk, constAV, look_eq, lookB, insR_eq, insB, cond_true, cond_false, insAll, List.foldr_nil, Option.bind_some, Option.map_some, Option.bind_none, Option.getD_some, Nat.reduceEqDiff, Nat.reduceLT, if_true, if_false, Bool.false_eq_true, decide_true, reduceCtorEq, tyT, avD, avB, dval, un_int, un_raw, un_sl, abin, fresh, drop_eq, dropB, killR, AC.kill, AV.kill, AV.refs, AC.refs, Obj.refs, List.map_cons, List.map_nil, List.all_cons, List.all_nil, List.contains_nil, List.contains_cons, List.append_nil, Bool.and_true, Bool.true_and, Bool.not_false, Bool.and_self, List.length_nil, List.drop_succ_cons, Nat.reduceSub, and_self, beq_self_eq_true, Nat.reduceBEq, Bool.or_false, Bool.false_or, putR, Bool.not_false, Int.reduceLE, Int.reduceNeg, aopsT, astepT, isCall, acallT, arg1, argV_raw, argV_own, isOwn, callE, Tab.at', atArgs_eq, Option.isSome_none, gotT_some, gotF_some, gotF_none, List.size_toArray,  aargs, argAV, argCells, argCell, fnId, opRefs_nil, opRefs_cons, St.got, resACs, resAC, outAV, Res.scalar, isSl, Tab.add, Tab.none, List.isEmpty_cons, Option.getD_some, Option.map_some, idxI, hne, hw0]; with_reducible rfl))))
    refine RunK.loop (β := Nat × List (List D)) (γ := List (List D)) (fun x => ⟨[(0, .c (.own 0 xs.length)), (1, .c (.val (.raw (.func (.func g) #[] #[])))), (5, .c (.val (.int (keepF p (xs.take x.1)).length))), (6, .c (.val (.int x.1)))], [(0, .row 1 x.2 false)]⟩)
      (fun x => x.1 ≤ xs.length ∧ x.2.length = xs.length ∧ (∀ r ∈ x.2, r.length = 1) ∧ x.2.take (keepF p (xs.take x.1)).length = (keepF p (xs.take x.1)).map e ∧ x.2.drop x.1 = (xs.drop x.1).map e) (fun x => xs.length - x.1)
      (fun L => ⟨[(0, .c (.own 0 xs.length)), (5, .c (.val (.int (keepF p xs).length)))], [(0, .row 1 L false)]⟩) (fun L => L.length = xs.length ∧ L.take (keepF p xs).length = (keepF p xs).map e) (i0 + 1, xs.map e) ⟨by omega, by simp, ?_, ?_, by rw [List.map_drop]⟩ ?_ ?_ ?_
    · intro r hr
      obtain ⟨x, _, rfl⟩ := List.mem_map.1 hr
      rw [he]; rfl
    · have h1 : keepF p (xs.take (i0 + 1)) = xs.take i0 := by
        rw [List.take_succ_eq_append_getElem hi0]
        unfold keepF
        rw [List.filter_append, List.filter_eq_self.2 (fun x hx => by rw [hlow x hx]; rfl)]
        simp [hpi]
      show (xs.map e).take (keepF p (xs.take (i0 + 1))).length = (keepF p (xs.take (i0 + 1))).map e
      rw [h1, ← List.map_take, List.length_take, Nat.min_eq_left (Nat.le_of_lt hi0)]
    · have h1 : (keepF p (xs.take (i0 + 1))).length = i0 := by
        rw [List.take_succ_eq_append_getElem hi0]
        unfold keepF
        rw [List.filter_append, List.filter_eq_self.2 (fun x hx => by rw [hlow x hx]; rfl)]
        simp [hpi]; omega
      (repeat' (first | with_reducible refine Fits.nil | ((with_reducible refine Fits.reg ?_ ?_); focus (first | with_reducible rfl | (simp only [look_eq, lookB, cond_true, cond_false, Nat.reduceBEq, List.length_map, h1]; done) | rfl)) | ((with_reducible refine Fits.obj (o' := ?_) ?_ ?_ ?_); rotate_left 1; focus (rfl)) | ((with_reducible refine wk.same ?_ ?_); (focus (first | with_reducible rfl | (simp only [List.map_append, List.map_cons, List.map_nil, List.append_assoc, List.cons_append, List.nil_append, List.append_nil, h1]; done))); (focus (first | exact id | exact (fun h => nomatch h) | exact (fun _ => rfl))))))
    · rintro ⟨j, L⟩ ⟨hj, hL, hone, htk, hdr⟩
      have hj : j ≤ xs.length := hj
      have hL : L.length = xs.length := hL
      have htk : L.take (keepF p (xs.take j)).length = (keepF p (xs.take j)).map e := htk
      have hdr : L.drop j = (xs.drop j).map e := hdr
      have hw := w64_succ (n := j) (by omega)
      have hcl : (keepF p (xs.take j)).length ≤ j := by
        have := List.length_filter_le (fun x => !p x) (xs.take j)
        unfold keepF
        rw [List.length_take] at this
        omega
      have hwc := w64_succ (n := (keepF p (xs.take j)).length) (by omega)
      by_cases h : j < xs.length
      · have hx := hp xs[j]
        have hLj : L[j]? = some [d xs[j]] := by
          have : (L.drop j)[0]? = ((xs.drop j).map e)[0]? := by rw [hdr]
          rw [List.getElem?_drop, List.getElem?_map, List.getElem?_drop] at this
          simpa [h, he] using this
        have i1 : ((j : Int) < (xs.length : Int)) = True := eq_true (by omega)
        have i2 : ((0 : Int) ≤ (j : Int)) = True := eq_true (by omega)
        have hsucc : keepF p (xs.take (j + 1)) = if p xs[j] = true then keepF p (xs.take j) else keepF p (xs.take j) ++ [xs[j]] := by
          rw [List.take_succ_eq_append_getElem h]
          unfold keepF
          rw [List.filter_append]
          by_cases hpx : p xs[j] = true <;> simp [hpx]
        by_cases hpx : p xs[j] = true
        · rw [if_pos hpx] at hsucc
          repeat' (first | with_reducible refine RunK.seq ?_ | with_reducible refine RunK.next ?_ | with_reducible refine RunK.skip ?_ | with_reducible refine RunK.exit ?_ | with_reducible refine RunK.ret ?_ | with_reducible refine RunK.label ?_ | with_reducible refine outK.blkN ?_ | with_reducible refine outK.blkX ?_ | with_reducible refine outK.seqX ?_ | with_reducible refine outK.seqR ?_ | with_reducible refine outK.blkR ?_ | ((with_reducible refine outK.blkO ?_ ?_); focus (rfl)) | with_reducible refine RunK.blockS ?_ | with_reducible refine RunK.blockR ?_ | with_reducible refine RunK.blockC ?_ | with_reducible refine RunK.blockB ?_ | ((with_reducible refine RunK.wT 8 (l := ?_) ?_ ?_); rotate_left 1; (focus (simp only [cutR, cond_true, cond_false, Nat.reduceSub, Nat.reduceBEq]; with_reducible rfl))) | ((with_reducible refine RunK.wF 8 (l := ?_) ?_ ?_); rotate_left 1; (focus (simp only [cutR, cond_true, cond_false, Nat.reduceSub, Nat.reduceBEq]; with_reducible rfl))) | ((first | with_reducible refine RunK.wS (cfg_ok 42) (Tab.none.at' g hx) (s' := ?_) ?_ ?_ | with_reducible refine RunK.wC (b := ?_) ?_ ?_); rotate_left 1; (focus ((with_reducible refine Work.mk ?_); simp only [astep, anew, amut, isMut, awanted, dstOK, cfg, opv, noJunk, constAV, look_eq, lookB, insR_eq, insB, cond_true, cond_false, insAll, List.foldr_nil, Option.bind_some, Option.map_some, Option.bind_none, Option.getD_some, Nat.reduceEqDiff, Nat.reduceLT, if_true, if_false, Bool.false_eq_true, decide_true, reduceCtorEq, slT, tyT, avD, avI, avB, dval, un_int, un_bool, un_raw, avun_own, abin, aun, alen, aindex, acells, aload, fresh, drop_eq, dropB, killR, AC.kill, AV.kill, AV.refs, AC.refs, Obj.refs, List.map_cons, List.map_nil, List.all_cons, List.all_nil, List.contains_nil, List.contains_cons, List.append_nil, Bool.and_true, Bool.true_and, Bool.not_true, Bool.not_false, Bool.and_self, List.length_cons, List.length_nil, List.drop_succ_cons, List.drop_zero, List.drop_nil, Nat.zero_add, Nat.reduceSub, and_self, true_and, and_true, List.getElem?_nil, beq_self_eq_true, Nat.reduceBEq, Bool.or_false, Bool.true_or, putR, Obj.k, List.getElem?_cons, Bool.not_true, Bool.not_false, Int.reduceLE, Int.reduceNeg, aopsT, astepT, isCall, acallT, arg1, isOwn, callE, Tab.at', atArgs_eq, Option.isSome_none, gotT_some, gotF_some, gotF_none, List.size_toArray,  aargs, argAV, argCells, argCell, fnId, opRefs_nil, opRefs_cons, St.got, resACs, resAC, outAV, Tab.add, Tab.none, List.isEmpty_nil, Option.getD_some, Option.map_some, i1, i2, hLj, hun, argV_un (hun _), hpx, hw, eL, Int.toNat_natCast]; with_reducible rfl))))
          refine roundK.on (j + 1, L) ⟨⟨h, hL, hone, ?_, ?_⟩, by show xs.length - (j + 1) < xs.length - j; omega⟩ ?_
          · rw [hsucc]; exact htk
          · show L.drop (j + 1) = (xs.drop (j + 1)).map e
            rw [← List.drop_drop, hdr, ← List.map_drop, List.drop_drop]
          · (repeat' (first | with_reducible refine Fits.nil | ((with_reducible refine Fits.reg ?_ ?_); focus (first | with_reducible rfl | (simp only [look_eq, lookB, cond_true, cond_false, Nat.reduceBEq, hsucc]; done) | rfl)) | ((with_reducible refine Fits.obj (o' := ?_) ?_ ?_ ?_); rotate_left 1; focus (rfl)) | ((with_reducible refine wk.same ?_ ?_); (focus (first | with_reducible rfl | (simp only [List.map_append, List.map_cons, List.map_nil, List.append_assoc, List.cons_append, List.nil_append, List.append_nil, hsucc]; done))); (focus (first | exact id | exact (fun h => nomatch h) | exact (fun _ => rfl))))))
        · have hpx' : p xs[j] = false := by simpa using hpx
          rw [if_neg hpx] at hsucc
          obtain ⟨c, hc⟩ : ∃ c, c = (keepF p (xs.take j)).length := ⟨_, rfl⟩
          have hcs : (keepF p (xs.take (j + 1))).length = c + 1 := by rw [hsucc, hc]; simp
          rw [← hc] at hwc hcl htk
          have hcL : c < L.length := by omega
          obtain ⟨y, hy⟩ : ∃ y, L[c] = [y] := List.length_eq_one_iff.1 (hone L[c] (List.getElem_mem _))
          have hLc : L[c]? = some [y] := by rw [List.getElem?_eq_getElem hcL, hy]
          have i3 : ((c : Int) < (xs.length : Int)) = True := eq_true (by omega)
          have i4 : ((0 : Int) ≤ (c : Int)) = True := eq_true (by omega)
          rw [← hc]
          repeat' (first | with_reducible refine RunK.seq ?_ | with_reducible refine RunK.next ?_ | with_reducible refine RunK.skip ?_ | with_reducible refine RunK.exit ?_ | with_reducible refine RunK.ret ?_ | with_reducible refine RunK.label ?_ | with_reducible refine outK.blkN ?_ | with_reducible refine outK.blkX ?_ | with_reducible refine outK.seqX ?_ | with_reducible refine outK.seqR ?_ | with_reducible refine outK.blkR ?_ | ((with_reducible refine outK.blkO ?_ ?_); focus (rfl)) | with_reducible refine RunK.blockS ?_ | with_reducible refine RunK.blockR ?_ | with_reducible refine RunK.blockC ?_ | with_reducible refine RunK.blockB ?_ | ((with_reducible refine RunK.wT 8 (l := ?_) ?_ ?_); rotate_left 1; (focus (simp only [cutR, cond_true, cond_false, Nat.reduceSub, Nat.reduceBEq]; with_reducible rfl))) | ((with_reducible refine RunK.wF 8 (l := ?_) ?_ ?_); rotate_left 1; (focus (simp only [cutR, cond_true, cond_false, Nat.reduceSub, Nat.reduceBEq]; with_reducible rfl))) | ((first | with_reducible refine RunK.wS (cfg_ok 42) (Tab.none.at' g hx) (s' := ?_) ?_ ?_ | with_reducible refine RunK.wC (b := ?_) ?_ ?_); rotate_left 1; (focus ((with_reducible refine Work.mk ?_); simp only [astep, anew, amut, isMut, awanted, dstOK, cfg, opv, noJunk, constAV, look_eq, lookB, insR_eq, insB, cond_true, cond_false, insAll, List.foldr_nil, Option.bind_some, Option.map_some, Option.bind_none, Option.getD_some, Nat.reduceEqDiff, Nat.reduceLT, Nat.reduceLeDiff, if_true, if_false, Bool.false_eq_true, decide_true, reduceCtorEq, slT, tyT, avD, avI, avB, dval, un_int, un_bool, un_raw, avun_own, abin, aun, alen, aindex, acells, aload, avCells, fresh, absorbs, absorb, drop_eq, dropB, killR, AC.kill, AV.kill, AV.refs, AC.refs, Obj.refs, List.map_cons, List.map_nil, List.all_cons, List.all_nil, List.contains_nil, List.contains_cons, List.append_nil, List.nil_append, List.cons_append, Bool.and_true, Bool.true_and, Bool.not_false, Bool.and_self, List.length_cons, List.length_nil, splice, List.drop_succ_cons, List.take_zero, List.drop_zero, List.drop_nil, Nat.zero_add, Nat.reduceSub, and_self, true_and, and_true, List.getElem?_nil, beq_self_eq_true, Nat.reduceBEq, Bool.or_false, Bool.true_or, putR, Bool.and_false, Obj.k, List.getElem?_cons, Bool.not_false, Int.reduceLE, Int.reduceNeg, aopsT, astepT, isCall, acallT, arg1, isOwn, callE, Tab.at', atArgs_eq, Option.isSome_none, gotT_some, gotF_some, gotF_none, List.size_toArray,  aargs, argAV, argCells, argCell, fnId, opRefs_nil, opRefs_cons, St.got, resACs, resAC, outAV, Tab.add, Tab.none, List.isEmpty_nil, Option.getD_some, Option.map_some, i1, i2, i3, i4, hLj, hLc, hun, argV_un (hun _), cellD_un (hun _), hpx', hw, hwc, eL, Int.toNat_natCast]; with_reducible rfl))))
          refine roundK.on (j + 1, L.set c [d xs[j]]) ⟨⟨h, by simpa using hL, ?_, ?_, ?_⟩, by show xs.length - (j + 1) < xs.length - j; omega⟩ ?_
          · intro r hr
            rcases List.mem_or_eq_of_mem_set hr with hr | rfl
            · exact hone r hr
            · rfl
          · show (L.set c [d xs[j]]).take (keepF p (xs.take (j + 1))).length = (keepF p (xs.take (j + 1))).map e
            rw [hcs, hsucc, List.map_append, List.take_succ_eq_append_getElem (by simpa using hcL), List.take_set_of_le (Nat.le_refl _), htk]
            simp [he]
          · show (L.set c [d xs[j]]).drop (j + 1) = (xs.drop (j + 1)).map e
            rw [List.drop_set_of_lt (by omega), ← List.drop_drop, hdr, ← List.map_drop, List.drop_drop]
          · (repeat' (first | with_reducible refine Fits.nil | ((with_reducible refine Fits.reg ?_ ?_); focus (first | with_reducible rfl | (simp only [look_eq, lookB, cond_true, cond_false, Nat.reduceBEq, hcs]; done) | rfl)) | ((with_reducible refine Fits.obj (o' := ?_) ?_ ?_ ?_); rotate_left 1; focus (rfl)) | ((with_reducible refine wk.same ?_ ?_); (focus (first | with_reducible rfl | (simp only [List.map_append, List.map_cons, List.map_nil, List.append_assoc, List.cons_append, List.nil_append, List.append_nil, hcs]; done))); (focus (first | exact id | exact (fun h => nomatch h) | exact (fun _ => rfl))))))
      · have i1 : ((j : Int) < (xs.length : Int)) = False := eq_false (by omega)
        have hall : xs.take j = xs := List.take_of_length_le (by omega)
        rw [hall] at htk ⊢
        repeat' (first | with_reducible refine RunK.seq ?_ | with_reducible refine RunK.next ?_ | with_reducible refine RunK.skip ?_ | with_reducible refine RunK.exit ?_ | with_reducible refine RunK.ret ?_ | with_reducible refine RunK.label ?_ | with_reducible refine outK.blkN ?_ | with_reducible refine outK.blkX ?_ | with_reducible refine outK.seqX ?_ | with_reducible refine outK.seqR ?_ | with_reducible refine outK.blkR ?_ | ((with_reducible refine outK.blkO ?_ ?_); focus (rfl)) | with_reducible refine RunK.blockS ?_ | with_reducible refine RunK.blockR ?_ | with_reducible refine RunK.blockC ?_ | with_reducible refine RunK.blockB ?_ | ((with_reducible refine RunK.wT 8 (l := ?_) ?_ ?_); rotate_left 1; (focus (simp only [cutR, cond_true, cond_false, Nat.reduceSub, Nat.reduceBEq]; with_reducible rfl))) | ((with_reducible refine RunK.wF 8 (l := ?_) ?_ ?_); rotate_left 1; (focus (simp only [cutR, cond_true, cond_false, Nat.reduceSub, Nat.reduceBEq]; with_reducible rfl))) | ((first | with_reducible refine RunK.wS (cfg_ok 42) Tab.none (s' := ?_) ?_ ?_ | with_reducible refine RunK.wC (b := ?_) ?_ ?_); rotate_left 1; (focus ((with_reducible refine Work.mk ?_); simp only [astep, anew, amut, isMut, awanted, dstOK, cfg, opv, noJunk, look_eq, lookB, insR_eq, insB, cond_true, cond_false, insAll, List.foldr_nil, Option.bind_some, Option.map_some, Nat.reduceEqDiff, Nat.reduceLT, if_true, if_false, Bool.false_eq_true, decide_true, decide_false, slT, avD, avB, dval, un_int, avun_own, abin, alen, fresh, AV.refs, AC.refs, Obj.refs, List.all_cons, List.all_nil, List.contains_nil, List.contains_cons, Bool.and_true, Bool.true_and, Bool.not_false, Bool.and_self, Nat.reduceSub, beq_self_eq_true, Nat.reduceBEq, Bool.or_false, putR, Bool.not_false, aopsT, astepT, isCall, acallT, isOwn, callE, gotF_none,  Tab.none, Option.map_some, i1]; with_reducible rfl))))
        refine roundK.out L ⟨hL, htk⟩ ?_
        (repeat' (first | with_reducible refine Fits.nil | ((with_reducible refine Fits.reg ?_ ?_); focus (first | with_reducible rfl | (simp only [look_eq, lookB, cond_true, cond_false, Nat.reduceBEq]; done) | rfl)) | ((with_reducible refine Fits.obj (o' := ?_) ?_ ?_ ?_); rotate_left 1; focus (rfl)) | ((with_reducible refine wk.same ?_ ?_); (focus (first | with_reducible rfl | (simp only [List.map_append, List.map_cons, List.map_nil, List.append_assoc, List.cons_append, List.nil_append, List.append_nil]; done))); (focus (first | exact id | exact (fun h => nomatch h) | exact (fun _ => rfl))))))
    · rintro L ⟨hL, htk⟩
      have hcl : (keepF p xs).length ≤ xs.length := List.length_filter_le _ _
      obtain ⟨c, hc⟩ : ∃ c, c = (keepF p xs).length := ⟨_, rfl⟩
      rw [← hc] at htk hcl ⊢
      have i1 : ((c : Int) ≤ (xs.length : Int)) = True := eq_true (by omega)
      have i2 : ((0 : Int) ≤ (c : Int)) = True := eq_true (by omega)
      have i3 : ((xs.length : Int) ≤ (xs.length : Int)) = True := eq_true (by omega)
      have htn : ((xs.length : Int)).toNat = xs.length := Int.toNat_natCast _
      repeat' (first | with_reducible refine RunK.seq ?_ | with_reducible refine RunK.next ?_ | with_reducible refine RunK.skip ?_ | with_reducible refine RunK.exit ?_ | with_reducible refine RunK.ret ?_ | with_reducible refine RunK.label ?_ | with_reducible refine outK.blkN ?_ | with_reducible refine outK.blkX ?_ | with_reducible refine outK.seqX ?_ | with_reducible refine outK.seqR ?_ | with_reducible refine outK.blkR ?_ | ((with_reducible refine outK.blkO ?_ ?_); focus (rfl)) | with_reducible refine RunK.blockS ?_ | with_reducible refine RunK.blockR ?_ | with_reducible refine RunK.blockC ?_ | with_reducible refine RunK.blockB ?_ | ((with_reducible refine RunK.wT 8 (l := ?_) ?_ ?_); rotate_left 1; (focus (simp only [cutR, cond_true, cond_false, Nat.reduceSub, Nat.reduceBEq]; with_reducible rfl))) | ((with_reducible refine RunK.wF 8 (l := ?_) ?_ ?_); rotate_left 1; (focus (simp only [cutR, cond_true, cond_false, Nat.reduceSub, Nat.reduceBEq]; with_reducible rfl))) | ((first | with_reducible refine RunK.wS (cfg_ok 42) Tab.none (s' := ?_) ?_ ?_ | with_reducible refine RunK.wC (b := ?_) ?_ ?_); rotate_left 1; (focus ((with_reducible refine Work.mk ?_); simp only [astep, anew, amut, isMut, awanted, dstOK, cfg, opv, noJunk, constAV, look_eq, lookB, insR_eq, insB, cond_true, cond_false, insAll, List.foldr_nil, Option.bind_some, Option.map_some, Option.bind_none, Option.map_none, Option.getD_some, Option.getD_none, Nat.reduceEqDiff, Nat.reduceLT, if_true, if_false, Bool.false_eq_true, decide_true, slT, avI, dval, avun_own, aslice, fresh, AV.refs, AC.refs, Obj.refs, List.all_cons, List.all_nil, List.contains_nil, List.contains_cons, Bool.and_true, Bool.true_and, Bool.not_false, Bool.and_self, List.length_cons, List.length_nil, Nat.zero_add, Nat.reduceSub, true_and, and_true, beq_self_eq_true, Nat.reduceBEq, Bool.or_false, putR, id_eq, Obj.k, Bool.not_false, Int.reduceNeg, aopsT, astepT, isCall, acallT, isOwn, callE, gotF_none,  Tab.none, Option.getD_some, Option.map_some]; with_reducible rfl))))
      refine RunK.regCut (cfg_ok 42) Tab.none 3 (s1 := ?_) ?_ ?_
      rotate_left 1
      focus (refine Work.mk ?_; simp only [astep, anew, amut, isMut, awanted, dstOK, cfg, opv, noJunk, constAV, look_eq, lookB, insR_eq, insB, cond_true, cond_false, insAll, List.foldr_nil, Option.bind_some, Option.map_some, Option.bind_none, Option.map_none, Option.getD_some, Option.getD_none, Nat.reduceEqDiff, Nat.reduceLT, if_true, if_false, Bool.false_eq_true, decide_true, slT, avI, dval, avun_own, aslice, fresh, AV.refs, AC.refs, Obj.refs, List.all_cons, List.all_nil, List.contains_nil, List.contains_cons, Bool.and_true, Bool.true_and, Bool.not_false, Bool.and_self, List.length_cons, List.length_nil, List.take_succ_cons, List.take_zero, Nat.zero_add, Nat.reduceSub, and_self, true_and, and_true, beq_self_eq_true, Nat.reduceBEq, Bool.or_false, putR, id_eq, Obj.k, Bool.not_false, Int.reduceNeg, aopsT, astepT, isCall, acallT, isOwn, callE, gotF_none,  Tab.none, Option.getD_some, Option.map_some, i1, i2, i3, Int.toNat_natCast]; with_reducible rfl)
      simp only [List.drop_succ_cons, List.drop_zero]
      refine ROps.clear (cfg_ok 42) (x := .tmp 38) (t := 47) (i := ⟨22, [.sl 1 []], 24⟩) (key := 0) (j := c) (m := xs.length - c) rfl rfl rfl rfl rfl rfl rfl (by rw [hL]; omega) ?_
      refine ROps.nil ?_
      repeat' (first | with_reducible refine RunK.seq ?_ | with_reducible refine RunK.next ?_ | with_reducible refine RunK.skip ?_ | with_reducible refine RunK.exit ?_ | with_reducible refine RunK.ret ?_ | with_reducible refine RunK.label ?_ | with_reducible refine outK.blkN ?_ | with_reducible refine outK.blkX ?_ | with_reducible refine outK.seqX ?_ | with_reducible refine outK.seqR ?_ | with_reducible refine outK.blkR ?_ | ((with_reducible refine outK.blkO ?_ ?_); focus (rfl)) | with_reducible refine RunK.blockS ?_ | with_reducible refine RunK.blockR ?_ | with_reducible refine RunK.blockC ?_ | with_reducible refine RunK.blockB ?_ | ((with_reducible refine RunK.wT 8 (l := ?_) ?_ ?_); rotate_left 1; (focus (simp only [cutR, cond_true, cond_false, Nat.reduceSub, Nat.reduceBEq]; with_reducible rfl))) | ((with_reducible refine RunK.wF 8 (l := ?_) ?_ ?_); rotate_left 1; (focus (simp only [cutR, cond_true, cond_false, Nat.reduceSub, Nat.reduceBEq]; with_reducible rfl))) | ((first | with_reducible refine RunK.wS (cfg_ok 42) Tab.none (s' := ?_) ?_ ?_ | with_reducible refine RunK.wC (b := ?_) ?_ ?_); rotate_left 1; (focus ((with_reducible refine Work.mk ?_); simp only [astep, anew, amut, isMut, awanted, dstOK, cfg, opv, noJunk, constAV, look_eq, lookB, insR_eq, insB, cond_true, cond_false, insAll, List.foldr_nil, Option.bind_some, Option.map_some, Option.bind_none, Option.map_none, Option.getD_some, Option.getD_none, Nat.reduceEqDiff, Nat.reduceLT, if_true, if_false, Bool.false_eq_true, decide_true, slT, avI, dval, avun_own, aslice, fresh, drop_eq, killR, AC.kill, AV.kill, AV.refs, AC.refs, Obj.refs, List.all_cons, List.all_nil, List.contains_nil, List.contains_cons, Bool.and_true, Bool.true_and, Bool.not_false, Bool.and_self, List.length_cons, List.length_nil, List.drop_zero, Nat.zero_add, Nat.add_zero, Nat.reduceSub, true_and, beq_self_eq_true, Nat.reduceBEq, Bool.or_false, putR, id_eq, Obj.k, Bool.not_false, Int.reduceLE, Int.reduceNeg, Int.reduceToNat, aopsT, astepT, isCall, acallT, isOwn, callE, gotF_none,  Tab.none, Option.getD_some, Option.map_some]; with_reducible rfl))))
      refine RunK.regCut (cfg_ok 42) Tab.none 2 (s1 := ?_) ?_ ?_
      rotate_left 1
      focus (refine Work.mk ?_; simp only [astep, anew, amut, isMut, awanted, dstOK, cfg, opv, noJunk, look_eq, lookB, insR_eq, insB, cond_true, cond_false, insAll, List.foldr_nil, Option.bind_some, Option.map_some, Nat.reduceLT, if_true, if_false, Bool.false_eq_true, decide_true, fresh, AV.refs, AC.refs, Obj.refs, List.all_cons, List.all_nil, List.contains_nil, List.contains_cons, Bool.and_true, Bool.true_and, Bool.not_false, Bool.and_self, List.take_succ_cons, List.take_zero, Nat.reduceSub, beq_self_eq_true, Nat.reduceBEq, Bool.or_false, putR, Bool.not_false, aopsT, astepT, isCall, acallT, isOwn, callE, gotF_none,  Tab.none, Option.map_some]; with_reducible rfl)
      simp only [List.drop_succ_cons, List.drop_zero]
      refine ROps.trunc (cfg_ok 42) (x := .tmp 39) (hi := .tmp 40) (t := 47) (i := ⟨22, [.sl 1 []], 24⟩) (d := 41) (key := 0) (m := xs.length) (n := c) rfl rfl rfl (by decide) rfl rfl rfl rfl (by simp [hL]; omega) (fun q u hq hu => ?_) ?_
      · simp only [look] at hu
        split at hu
        · rename_i e; exact absurd e.symm hq
        · cases hu
      · have ht2 : (L.take c ++ List.replicate (xs.length - c) [D.sl 1 []]).take c = (keepF p xs).map e := by
          rw [List.take_append_of_le_length (by rw [List.length_take]; omega), List.take_take, Nat.min_self, htk]
        rw [ht2]
        refine ROps.opsT (cfg_ok 42) (T := Tab.none) (s' := ?_) ?_ ?_
        rotate_left 1
        focus (simp only [astep, anew, amut, isMut, awanted, dstOK, cfg, opv, noJunk, look_eq, lookB, insR_eq, insB, cond_true, cond_false, insAll, Option.bind_some, Option.bind_none, Nat.reduceLT, if_true, if_false, Bool.false_eq_true, decide_true, reduceCtorEq, fresh, drop_eq, dropB, killR, AC.kill, AV.kill, AV.refs, AC.refs, Obj.refs, List.map_cons, List.map_nil, List.all_cons, List.all_nil, List.contains_nil, List.contains_cons, Bool.and_true, Bool.true_and, Bool.not_false, Bool.and_self, Nat.reduceSub, beq_self_eq_true, Nat.reduceBEq, Bool.or_false, putR, Bool.not_false, aopsT, astepT, isCall, acallT, isOwn, callE, gotF_none,  Tab.none]; with_reducible rfl)
        repeat' (first | with_reducible refine RunK.seq ?_ | with_reducible refine RunK.next ?_ | with_reducible refine RunK.skip ?_ | with_reducible refine RunK.exit ?_ | with_reducible refine RunK.ret ?_ | with_reducible refine RunK.label ?_ | with_reducible refine outK.blkN ?_ | with_reducible refine outK.blkX ?_ | with_reducible refine outK.seqX ?_ | with_reducible refine outK.seqR ?_ | with_reducible refine outK.blkR ?_ | ((with_reducible refine outK.blkO ?_ ?_); focus (rfl)) | with_reducible refine RunK.blockS ?_ | with_reducible refine RunK.blockR ?_ | with_reducible refine RunK.blockC ?_ | with_reducible refine RunK.blockB ?_ | ((with_reducible refine RunK.wT 8 (l := ?_) ?_ ?_); rotate_left 1; (focus (simp only [cutR, cond_true, cond_false, Nat.reduceSub, Nat.reduceBEq]; with_reducible rfl))) | ((with_reducible refine RunK.wF 8 (l := ?_) ?_ ?_); rotate_left 1; (focus (simp only [cutR, cond_true, cond_false, Nat.reduceSub, Nat.reduceBEq]; with_reducible rfl))) | ((first | with_reducible refine RunK.wS (cfg_ok 42) Tab.none (s' := ?_) ?_ ?_ | with_reducible refine RunK.wC (b := ?_) ?_ ?_); rotate_left 1; (focus ((with_reducible refine Work.mk ?_); simp only [arun, astep, anew, amut, isMut, awanted, dstOK, cfg, opv, noJunk, constAV, look_eq, lookB, insR_eq, insB, cond_true, cond_false, insAll, List.foldr_cons, List.foldr_nil, Option.bind_some, Option.map_some, Option.bind_none, Option.map_none, Option.getD_some, Option.getD_none, Nat.reduceEqDiff, Nat.reduceLT, Nat.reduceLeDiff, reduceIte, if_true, if_false, Bool.false_eq_true, decide_true, decide_false, reduceCtorEq, slT, tyT, fsT, avD, avI, avB, dval, un_int, un_bool, un_raw, un_sl, un_tag, avun_val, avun_nil, avun_own, avun_view, abin, aun, alen, aindex, aslice, afield, acells, aload, avCells, zAC, afill, aparts, mkObj, rowsD, cellsD, cellD_vsl, cellD_vtag, cellD_vint, cellD_vbool, cellD_vraw, cellD_nilsl, cellD_own, cellD_view, cellD_junk, fresh, abase, aelems, absorbKey, absorbs, absorb, absorbRows, drop_eq, dropB, killR, AC.kill, AV.kill, AV.refs, AC.refs, Obj.refs, List.map_cons, List.map_nil, List.all_cons, List.all_nil, List.flatMap_cons, List.flatMap_nil, List.contains_nil, List.contains_cons, List.append_nil, List.nil_append, List.cons_append, Bool.and_true, Bool.true_and, Bool.not_true, Bool.not_false, Bool.and_self, Option.isNone_none, Option.isNone_some, List.length_cons, List.length_nil, List.toList_toArray, List.getElem?_toArray, splice, List.take_succ_cons, List.drop_succ_cons, List.take_zero, List.drop_zero, List.take_nil, List.drop_nil, Nat.reduceAdd, Nat.reduceMul, Nat.zero_add, Nat.add_zero, Nat.reduceSub, and_self, true_and, and_true, List.getElem?_cons_zero, List.getElem?_cons_succ, List.getElem?_nil, beq_self_eq_true, Nat.reduceBEq, Bool.or_false, Bool.false_or, Bool.or_true, Bool.true_or, putR, bne_self_eq_false, Bool.and_false, Bool.false_and, id_eq, Obj.k, Obj.len, Obj.deep, List.getElem?_cons, List.set_cons_zero, List.set_cons_succ, List.length_set, beq_true, beq_false, Bool.not_true, Bool.not_false, Int.reduceLE, Int.reduceLT, Int.reduceNeg, Int.reduceAdd, Int.reduceSub, Int.reduceMul, Int.reduceToNat, Int.reduceEq, aopsT, astepT, isCall, acallT, arg1, argV_raw, argV_nil, argV_own, argV_view, argV_agg, argV_sl, argV_int, argV_bool, argV_tag, isOwn, callE, ownKey, rowE_row, putE_some, putE_none, Tab.own, Tab.at', atArgs_eq, Option.isSome_some, Option.isSome_none, gotT_some, gotF_some, gotF_none, callRefs_call, St.frzs, St.frz, AC.frz, AV.frz, Obj.frz, frzR, frzH, telT_some, List.size_toArray,  aargs, argAV, argCells, argCell, fnId, opRefs_nil, opRefs_cons, St.got, resACs, resAC, outAV, Res.scalar, isSl, Tab.add, Tab.none, tab1, tab2, tab3, codL_d, codLL_d, codI_d, codB_d, codCts_d, List.isEmpty_nil, List.isEmpty_cons, List.append_eq, Option.getD_some, Option.map_some, ite_true, ite_false]; with_reducible rfl))))
        (refine Ends.mk (by simp) (rs := ?_) (ks := ?_) hres hrts ?_ ?_ ?_; rotate_left 2; (focus (simp only [aresults, ares, cfg, look_eq, lookB, cond_true, cond_false, Option.bind_some, Option.map_some, Nat.reduceEqDiff, if_true, if_false, tyT, List.append_nil, beq_self_eq_true, Nat.reduceBEq,  Option.map_some]; with_reducible rfl)); (focus (simp)); (focus (first | with_reducible rfl | (simp only [List.map_append, List.map_cons, List.map_nil, List.append_assoc, List.cons_append, List.nil_append, List.append_nil]; done))))
end Go.Proofs.Ytmeijcgclllldaa
