/- Lemmas (9). -/
import Derived.Ground.SlsfProg
import Derived.Shelf.SlSortCmp.NoneTotal
import Derived.Shelf.SlSortCmp.WholeK
import Derived.Test.YtkdkikmhlhcndaaZC0
import Derived.Test.YtkdkikmhlhcndaaZC4
import Derived.Test.YtkdkikmhlhcndaaZC6
import Derived.Test.YtkdkikmhlhcndaaZC7
import Derived.Test.YtkdkikmhlhcndaaZC8
set_option linter.unusedSimpArgs false
set_option linter.unusedVariables false
namespace Go.Proofs.Ytkdkikmhlhcndaa
open Go.RowKit
theorem Row.take {w : World} {k n m cap : Nat} {ds : List Value} {og : Option Nat} (h : Row w (slv og n cap) k n ds og) (hm : m ≤ n) : Row w (slv og m cap) k m (ds.take (m * k)) og := by
  refine ⟨by rw [List.length_take, h.1]; exact Nat.min_eq_left (Nat.mul_le_mul_right k hm), ?_⟩
  rcases h.2 with ⟨h1, h2, h3⟩ | ⟨g, c, cur, e, h1, h2, h3, h4, h5, h6, h7⟩
  · subst h3
    exact .inl ⟨rfl, by omega, rfl⟩
  · subst h2
    have hc : cap = c := by
      unfold slv at h1
      simp only [Value.slice.injEq] at h1
      exact h1.2.2
    subst hc
    refine .inr ⟨g, cap, cur, e, rfl, rfl, h3, by omega, h5, h6, ?_⟩
    rw [← h7, List.take_take, Nat.min_eq_left (Nat.mul_le_mul_right k hm)]
section
variable {P : Program} {cfg : Cfg} {M : Nat → Prop} {w0 : W0} {w w' : World} {Ok : Nat → Prop} {N : Nat} {σ : Asg} {s : St} {a : Act} {ops : Array Oper}
theorem Sim.trunc (h : Sim w0 Ok N σ s a w) {key k n : Nat} {xs : List (List D)} {d : Bool} (hk : look key s.heap = some (.row k xs d)) (hn : n ≤ xs.length) (hnr : ∀ q u, q ≠ key → look q s.heap = some u → key ∉ u.refs) :
    Sim w0 Ok N σ ⟨killR key s.regs, insR key (.row k (xs.take n) false) s.heap⟩ a w := by
  have hro := h.rows key _ hk
  obtain ⟨ds, hrow, hkp, hrd⟩ := RowOK.rd h.ok1 h.rows h.disj hk
  have hlen : (xs.take n).length = n := by rw [List.length_take]; omega
  have hfp0 : ∀ b ∈ fp σ key (.row k (xs.take n) false), b ∈ fp σ key (.row k xs d) := by
    intro b hb
    have hb : b ∈ (σ.g key).toList ++ [] := hb
    rw [List.append_nil] at hb
    exact List.mem_append_left _ hb
  have hl : ∀ q o', look q (insR key (.row k (xs.take n) false) s.heap) = some o' → (q = key ∧ o' = .row k (xs.take n) false) ∨ (q ≠ key ∧ look q s.heap = some o') := by
    intro q o' ho'
    rw [look_ins] at ho'
    split at ho'
    · rename_i e; cases ho'; exact .inl ⟨e.symm, rfl⟩
    · rename_i e; exact .inr ⟨fun e' => e e'.symm, ho'⟩
  have hZ : Kept σ σ s.heap (insR key (.row k (xs.take n) false) s.heap) w w := fun b hb => ⟨⟨hb.1, hb.2.1, fun q o' ho' => by
    rcases hl q o' ho' with ⟨rfl, _⟩ | ⟨_, ho⟩
    · exact hb.2.2 q _ hk
    · exact hb.2.2 q _ ho⟩, rfl⟩
  have hst : ∀ q, q ≠ key → Stays σ σ s.heap (insR key (.row k (xs.take n) false) s.heap) q := fun q hq o' ho' => by
    rcases hl q o' ho' with ⟨e, _⟩ | ⟨_, ho⟩
    · exact absurd e hq
    · exact ⟨o', ho, rfl, rfl, rfl, rfl⟩
  refine (h.killed key).step rfl h.below hZ (fun r av hr => ⟨av, hr, .inl ⟨rfl, fun q hq => hst q ?_⟩⟩) (fun q o' ho' => ?_) (fun p o1 q u hp hq hpq b hb hb' => ?_)
  · have hr' : look r (killR key s.regs) = some av := hr
    rw [look_killR] at hr'
    obtain ⟨v, _, rfl⟩ := map_some hr'
    exact (AV.kill_refs hq).1
  · rcases hl q o' ho' with ⟨rfl, rfl⟩ | ⟨hq, ho⟩
    · refine ⟨⟨ds.take (n * k), ?_, hkp, ?_⟩, fun b hb => hro.fresh b (hfp0 b hb), ?_⟩
      · show Row w (slv (σ.g q) (xs.take n).length (σ.cap q)) k (xs.take n).length _ (σ.g q)
        rw [hlen]
        exact Row.take hrow hn
      · show rdR k _ w _ (xs.take n)
        exact (hrd.take n hn).mono (fun b hb _ => (hZ b hb).1)
      · show ((σ.g q).toList ++ []).Nodup
        rw [List.append_nil]
        cases σ.g q <;> simp
    · exact RowOK.keep h.ok1 h.rows h.disj ho hZ (fun q' hq' => hst q' (fun e => hnr q o' hq ho (e ▸ hq'))) rfl rfl rfl (fun _ _ => rfl)
  · have hp2 : ∃ o2, look p s.heap = some o2 ∧ b ∈ fp σ p o2 := by
      rcases hl p o1 hp with ⟨rfl, rfl⟩ | ⟨_, ho⟩
      · exact ⟨_, hk, hfp0 b hb⟩
      · exact ⟨_, ho, hb⟩
    have hq2 : ∃ o2, look q s.heap = some o2 ∧ b ∈ fp σ q o2 := by
      rcases hl q u hq with ⟨rfl, rfl⟩ | ⟨_, ho⟩
      · exact ⟨_, hk, hfp0 b hb'⟩
      · exact ⟨_, ho, hb'⟩
    obtain ⟨o2, ho2, hb2⟩ := hp2
    obtain ⟨u2, hu2, hb3⟩ := hq2
    exact h.disj p o2 q u2 ho2 hu2 hpq b hb2 hb3
theorem cellD_un {z d : D} {k : Nat} {xs : List (List D)} (h : d.un = .sl k xs) : cellD z (.val d) = some (d, false) := by
  cases d with
  | sl => rfl
  | tag => rfl
  | int => cases h
  | bool => cases h
  | raw => cases h
theorem RunK.regCut (C : CfgOK P cfg) (T : Tab P) {fs : List Fr} {Q : Exit → St → Prop} {id : Nat} (n : Nat) {s1 : St} (ha : Work (aopsT cfg T ops (ops.toList.take n) s) (some s1))
    (h : ROps P cfg M ops (ops.toList.drop n) (outK P cfg M fs Q .normal) s1) : RunK P cfg M (.region id ops false) fs Q s := by
  refine Runs.region ?_
  have e : ops.toList = ops.toList.take n ++ ops.toList.drop n := (List.take_append_drop n _).symm
  have cut : ∀ (l m : List Oper) (s : St), aopsT cfg T ops l s = some s1 → ROps P cfg M ops m (outK P cfg M fs Q .normal) s1 → ROps P cfg M ops (l ++ m) (outK P cfg M fs Q .normal) s := by
    intro l
    induction l with
    | nil => intro m s h1 h2; simp only [aopsT, Option.some.injEq] at h1; subst h1; exact h2
    | cons o l ih =>
      intro m s h1 h2
      simp only [aopsT] at h1
      obtain ⟨s2, h3, h4⟩ := bind_some h1
      exact ROps.stepT C h3 (ih m s2 h4 h2)
  rw [e]
  exact cut _ _ s ha h
theorem ROps.trunc (C : CfgOK P cfg) {o : Oper} {l : List Oper} {Q : St → Prop} {x hi : Operand} {t : TypeId} {i : TyI} {d key m n k : Nat} {xs : List (List D)} {dd : Bool} (ho : o.op = .slice t x none (some hi) none) (hg : o.guard = none) (hd : o.dst = some d) (hdN : d < cfg.N)
    (ht : cfg.sl t = some i) (hx : opv s.regs x = some (.c (.own key m))) (hh : (opv s.regs hi).bind avI = some (n : Int)) (hk : look key s.heap = some (.row k xs dd)) (hle : n ≤ xs.length) (hnr : ∀ q u, q ≠ key → look q s.heap = some u → key ∉ u.refs)
    (h : ROps P cfg M ops l Q ⟨insR d (.c (.own key n)) (killR key s.regs), insR key (.row k (xs.take n) false) s.heap⟩) : ROps P cfg M ops (o :: l) Q s := by
  intro w0 Ok σ a w Q' hM hS hQ
  refine wpList_step (fun K hK => ?_)
  have hw : awanted ops s.regs o = some true := by unfold awanted; rw [hg]
  rw [awanted_spec hS hw]
  simp only [if_true]
  obtain ⟨z, T, _⟩ := C.sl t i ht
  obtain ⟨ti, hti, _, hsz, _⟩ := T.hi
  have hxr := (opv_rel hS hx).2 _ hk
  obtain ⟨e1, e2⟩ := hxr
  have e1 : m = xs.length := e1
  obtain ⟨hv, h3, h4⟩ := bind_some hh
  have hhi : a.eval hi = .int .i64 n := (rdV_int.1 (show rdV (Zn σ s.heap w) w (a.eval hi) (.int n) by
    have hr := opv_rel hS h3
    unfold avI at h4
    split at h4
    · cases h4; exact hr.2
    · cases h4)).1
  have hro := hS.rows key _ hk
  obtain ⟨ds, hrow, _⟩ := hro.row
  have hrow : Row w (slv (σ.g key) xs.length (σ.cap key)) k xs.length ds (σ.g key) := hrow
  obtain ⟨oa, c, ev, k1, k2, k3, k4⟩ := slv_len hrow
  have hxe : a.eval x = .slice oa m c := by rw [e2, e1]; exact ev
  have hrun : (execOp a.eval o).run P w = .ok (.value (slv (σ.g key) n (σ.cap key))) w := by
    unfold execOp
    rw [ho]
    have := run_sliceSl (P := P) T.ht ⟨ti, hti, hsz⟩ (oa := oa) (m := m) (c := c) (lo := none) (hi := some (n : Int)) (by simp) (by simp) (by simp; omega) (by rw [e1]; exact k1) w
    simp only [Option.getD_none, Option.getD_some, Option.map_none, Option.map_some] at this
    rw [show (0 : Int).toNat = 0 from rfl, Int.toNat_natCast, Nat.sub_zero, Nat.sub_zero, Nat.zero_mul] at this
    have hval : (Value.slice (if c = 0 then oa else oa.map (·.add 0)) n c) = slv (σ.g key) n (σ.cap key) := by
      cases hgk : σ.g key with
      | none =>
        rw [hgk] at k4 hrow
        have h0 := hrow.len0
        have hoa : oa = none := k4
        have hc0 := k3 hoa
        subst hoa
        have : n = 0 := by omega
        subst this; subst hc0
        rfl
      | some b =>
        rw [hgk] at k4 ev
        have hoa : oa = some ⟨b, 0, none⟩ := k4
        unfold slv at ev
        simp only [Value.slice.injEq] at ev
        rw [hoa, ← ev.2.2]
        simp [slv, Addr.add]
    rw [← hval]
    simp only [hxe, hhi, Option.map_none, Option.map_some]
    simp [this]
  unfold Oper.wp
  rw [hrun]
  show K (a.put o.dst _) _
  rw [hd]
  have hS2 := hS.trunc hk hle hnr
  refine hK _ _ (h w0 Ok σ _ _ Q' hM (Sim.ins hS2 hdN ⟨by cases σ.g key <;> rfl, fun o' ho' => ?_⟩) hQ)
  rw [look_ins, if_pos rfl] at ho'
  cases ho'
  have hlen : (xs.take n).length = n := by rw [List.length_take]; omega
  exact ⟨hlen.symm, rfl⟩
theorem ROps.clear (C : CfgOK P cfg) {o : Oper} {l : List Oper} {Q : St → Prop} {x : Operand} {t : TypeId} {i : TyI} {key j m k : Nat} {xs : List (List D)} {dd : Bool} (ho : o.op = .call ⟨.builtin .clear, #[x], #[t]⟩) (hg : o.guard = none) (hd : o.dst = none)
    (ht : cfg.sl t = some i) (hx : opv s.regs x = some (.c (.view key j m))) (hk : look key s.heap = some (.row k xs dd)) (hki : k = i.z.length) (hle : j + m = xs.length)
    (h : ROps P cfg M ops l Q ⟨s.regs, insR key (.row k (xs.take j ++ List.replicate m i.z) false) s.heap⟩) : ROps P cfg M ops (o :: l) Q s := by
  intro w0 Ok σ a w Q' hM hS hQ
  refine wpList_step (fun K hK => ?_)
  have hw : awanted ops s.regs o = some true := by unfold awanted; rw [hg]
  rw [awanted_spec hS hw]
  simp only [if_true]
  obtain ⟨z, T, hz⟩ := C.sl t i ht
  obtain ⟨_, oa, c, ev, v1, v2, v3, v4⟩ := (opv_rel hS hx).2 _ hk
  have hro := hS.rows key _ hk
  obtain ⟨ds, hrow, hkp, hrd⟩ := RowOK.rd hS.ok1 hS.rows hS.disj hk
  have hlen : (xs.take j ++ List.replicate m i.z).length = xs.length := by simp; omega
  obtain ⟨W, hrun, hR, hgr⟩ : ∃ W, (execOp a.eval o).run P w = .ok (.value (.tuple #[])) W ∧ Row W (slv (σ.g key) xs.length (σ.cap key)) k xs.length (ds.take (j * k) ++ (List.replicate m (i.z.map zval)).flatten) (σ.g key) ∧ w.grownBy W (σ.g key) := by
    rcases v4 with rfl | ⟨b, hgb, rfl⟩
    · refine ⟨w, ?_, ?_, World.grownBy.refl _ _⟩
      · unfold execOp
        rw [ho]
        cases oa <;> simp [resolve, invoke, builtin, ev, Builtin.clear_, run_underlying T.ht]
      · have : ds.take (j * k) = ds := List.take_of_length_le (by rw [hrow.1]; simp at hle; rw [hle]; exact Nat.le_refl _)
        rw [this]; simpa using hrow
    · rw [hgb] at hrow ⊢
      have ev : a.eval x = .slice (some ⟨b, j * k, none⟩) m c := ev
      obtain ⟨cs, hcs⟩ : ∃ cs, cs = (Builtin.zeroCells z.cells m).toList := ⟨_, rfl⟩
      have hcs2 : cs = (List.replicate m (i.z.map zval)).flatten := by
        rw [hcs, ← madeCells_rep hz T.hk m]
        have hs : z.cells.size = i.z.length := by rw [← Array.length_toList, hz.1, List.length_map]
        unfold Builtin.zeroCells madeCells
        rw [hs]
      have hcl : cs.length = m * k := by rw [hcs2, hki]; simp
      have hone : ∀ v ∈ cs, v.oneCell' = true := by
        intro v hv
        rw [hcs2] at hv
        have := (rep_own hz.2 T.hk w m).rd.one
        exact this v hv
      have hoff : j * k + cs.length ≤ ds.length := by rw [hrow.1, hcl, ← Nat.add_mul, hle]; exact Nat.le_refl _
      obtain ⟨r1, r2⟩ := Row.storeCells cs (j * k) hrow hoff
      refine ⟨w.setCells b (j * k) cs, ?_, ?_, r2⟩
      · have hst := run_storeCells_cells (P := P) b (j * k) cs 0 w (fun q hq => by
          rw [Nat.add_zero]
          have hlt : j * k + q < ds.length := by omega
          rw [hrow.cells (j * k + q) ds[j * k + q] (List.getElem?_eq_getElem hlt)]; rfl) (fun q hq => hrow.frozen _) hone
        rw [Nat.add_zero] at hst
        unfold execOp
        rw [ho]
        cases m with
        | zero =>
          have : cs = [] := by rw [hcs2]; rfl
          subst this
          simp [resolve, invoke, builtin, ev, Builtin.clear_, run_underlying T.ht]
          rfl
        | succ m =>
          obtain ⟨ti, hti, hzz, hsz, _⟩ := T.hi
          simp [resolve, invoke, builtin, ev, Builtin.clear_, run_underlying T.ht, zeroValue, typeInfo, hti, hzz, ← hcs, hst]
      · rw [hcs2] at r1 ⊢
        have e : splice ds (j * k) ((List.replicate m (i.z.map zval)).flatten) = ds.take (j * k) ++ (List.replicate m (i.z.map zval)).flatten := by
          unfold splice
          rw [List.drop_of_length_le (by rw [hrow.1, ← hcs2, hcl, ← Nat.add_mul, hle]; exact Nat.le_refl _), List.append_nil]
        rw [e] at r1
        exact r1
  unfold Oper.wp
  rw [hrun]
  show K (a.put o.dst _) _
  rw [hd]
  have hl : ∀ q o', look q (insR key (.row k (xs.take j ++ List.replicate m i.z) false) s.heap) = some o' → (q = key ∧ o' = .row k (xs.take j ++ List.replicate m i.z) false) ∨ (q ≠ key ∧ look q s.heap = some o') := by
    intro q o' ho'
    rw [look_ins] at ho'
    split at ho'
    · rename_i e; cases ho'; exact .inl ⟨e.symm, rfl⟩
    · rename_i e; exact .inr ⟨fun e' => e e'.symm, ho'⟩
  have hblk : ∀ b, b < w.heap.size → σ.g key ≠ some b → W.heap[b]? = w.heap[b]? := fun b hb hne => hgr.block b hb (fun e => hne e.symm)
  have hZ : Kept σ σ s.heap (insR key (.row k (xs.take j ++ List.replicate m i.z) false) s.heap) w W := fun b hb => ⟨⟨Nat.lt_of_lt_of_le hb.1 hgr.size, hb.2.1, fun q o' ho' => by
    rcases hl q o' ho' with ⟨rfl, _⟩ | ⟨_, ho⟩
    · exact hb.2.2 q _ hk
    · exact hb.2.2 q _ ho⟩, hblk b hb.1 (hb.2.2 key _ hk)⟩
  have hst : ∀ q, Stays σ σ s.heap (insR key (.row k (xs.take j ++ List.replicate m i.z) false) s.heap) q := fun q o' ho' => by
    rcases hl q o' ho' with ⟨rfl, rfl⟩ | ⟨_, ho⟩
    · exact ⟨_, hk, rfl, hlen.symm, rfl, rfl⟩
    · exact ⟨o', ho, rfl, rfl, rfl, rfl⟩
  have hfp0 : ∀ b ∈ fp σ key (.row k (xs.take j ++ List.replicate m i.z) false), b ∈ fp σ key (.row k xs dd) := by
    intro b hb
    have hb : b ∈ (σ.g key).toList ++ [] := hb
    rw [List.append_nil] at hb
    exact List.mem_append_left _ hb
  refine hK _ _ (h w0 Ok σ _ _ Q' hM ?_ hQ)
  refine hS.step rfl (hS.below.grown hgr (fun b hb => hro.fresh b (fp_out hb))) hZ (fun r av hr => ⟨av, hr, .inl ⟨rfl, fun q _ => hst q⟩⟩) (fun q o' ho' => ?_) (fun p o1 q u hp hq hpq b hb hb' => ?_)
  · rcases hl q o' ho' with ⟨rfl, rfl⟩ | ⟨hq, ho⟩
    · refine ⟨⟨ds.take (j * k) ++ (List.replicate m (i.z.map zval)).flatten, ?_, hkp, ?_⟩, fun b hb => hro.fresh b (hfp0 b hb), ?_⟩
      · show Row W (slv (σ.g q) (xs.take j ++ List.replicate m i.z).length (σ.cap q)) k (xs.take j ++ List.replicate m i.z).length _ (σ.g q)
        rw [hlen]; exact hR
      · show rdR k _ W _ (xs.take j ++ List.replicate m i.z)
        refine rdR.append (((hrd.take j (by omega)).step hZ)) ?_
        have := (rep_own hz.2 T.hk W m).rd
        rw [← hki] at this
        exact this.mono (fun b hb _ => by cases hb)
      · show ((σ.g q).toList ++ []).Nodup
        rw [List.append_nil]
        cases σ.g q <;> simp
    · refine RowOK.keep hS.ok1 hS.rows hS.disj ho hZ (fun q' _ => hst q') rfl rfl rfl (fun b hb => hblk b (fp_lt hS ho b (fp_out hb)) (fun e => ?_))
      exact hS.disj key _ q o' hk ho (fun e => hq e.symm) b (fp_out e) (fp_out hb)
  · have hp2 : ∃ o2, look p s.heap = some o2 ∧ b ∈ fp σ p o2 := by
      rcases hl p o1 hp with ⟨rfl, rfl⟩ | ⟨_, ho⟩
      · exact ⟨_, hk, hfp0 b hb⟩
      · exact ⟨_, ho, hb⟩
    have hq2 : ∃ o2, look q s.heap = some o2 ∧ b ∈ fp σ q o2 := by
      rcases hl q u hq with ⟨rfl, rfl⟩ | ⟨_, ho⟩
      · exact ⟨_, hk, hfp0 b hb'⟩
      · exact ⟨_, ho, hb'⟩
    obtain ⟨o2, ho2, hb2⟩ := hp2
    obtain ⟨u2, hu2, hb3⟩ := hq2
    exact hS.disj p o2 q u2 ho2 hu2 hpq b hb2 hb3
end
end Go.Proofs.Ytkdkikmhlhcndaa
namespace Go.Proofs.Ytkdkikmhlhcndaa
open Go.RowKit
section
variable {P : Program} {cfg : Cfg} {w0 : W0} {w w' : World} {Ok : Nat → Prop} {N : Nat} {σ σ' : Asg} {s s' : St} {a : Act} {M : Nat → Prop}
theorem relArgs.split {A : Nat → Prop} : ∀ {pre : List (List D)} {ds : List (List D)} {vs : List Value}, relArgs A w (pre ++ ds) vs → ∃ vs1 vs2, vs = vs1 ++ vs2 ∧ relArgs A w pre vs1 ∧ relArgs A w ds vs2
  | [], ds, vs, h => ⟨[], vs, rfl, rfl, h⟩
  | d :: pre, ds, vs, ⟨v, us, e, h1, h2⟩ => by
    obtain ⟨us1, us2, e2, h3, h4⟩ := relArgs.split h2
    subst e2; subst e
    exact ⟨v :: us1, us2, rfl, ⟨v, us1, rfl, h1, h3⟩, h4⟩
theorem relArgs.join {A : Nat → Prop} : ∀ {pre : List (List D)} {ds : List (List D)} {vs1 vs2 : List Value}, relArgs A w pre vs1 → relArgs A w ds vs2 → relArgs A w (pre ++ ds) (vs1 ++ vs2)
  | [], ds, vs1, vs2, h, k => by rw [show vs1 = [] from h]; exact k
  | d :: pre, ds, vs1, vs2, ⟨v, us, e, h1, h2⟩, k => by
    subst e
    exact ⟨v, us ++ vs2, rfl, h1, relArgs.join h2 k⟩
theorem Bel.nil (h : Bel ⟨w, fun b => (none : Option Nat) = some b⟩ w') : Below w.heap.size w w' :=
  ⟨h.os, h.tape, h.output, h.size, fun i hi => h.block i hi (fun e => nomatch e)⟩
theorem AOw.nil {g : FuncId} {pre post : List (List D)} {k : Nat} {Q : List Res → Prop} (h : AOw P g pre k [] post Q) (hk : 0 < k) : AFn P g (pre ++ [.raw (.slice none 0 0)] :: post) Q := by
  refine ⟨h.call, fun A w vs hA hr => ?_⟩
  obtain ⟨vs1, vs2, e, h1, v, us, e2, h2, h3⟩ := relArgs.split hr
  subst e2; subst e
  obtain ⟨rfl, _⟩ := rdV_raw.1 (show rdV A w v (.raw (.slice none 0 0)) from h2)
  refine (h.fn A w vs1 us none 0 [] hA h1 h3 ⟨(Nat.zero_mul k).symm, .inl ⟨rfl, rfl, rfl⟩⟩ hk (by first | exact ⟨0, hk, rfl⟩ | exact ⟨0, hk, trivial⟩ | exact ⟨0, hk, by simp [rdL]⟩) (fun b e => nomatch e)).mono ?_
  rintro e w' ⟨v, rs, rfl, hQ, hb, ho⟩
  have e : (W0.mine ⟨w, fun b => (none : Option Nat) = some b⟩) = fun b => w.heap.size ≤ b := by funext b; simp [W0.mine]
  rw [e] at ho
  exact ⟨v, rs, rfl, hQ, hb.nil, ho⟩
theorem n_callR (C : CfgOK P cfg) (h : Sim w0 Ok N σ s a w) {o : Oper} {f : Operand} {args : Array Operand} {ts : Array TypeId} {g : FuncId} (ho : o.op = .call ⟨.value f, args, ts⟩) (hf : ((opv s.regs f).bind avD).bind fnId = some g)
    {ds : List (List D)} (hd : relArgs (Zn σ s.heap w) w ds (args.toList.map a.eval)) {Q0 : List Res → Prop} (hfn : AFn P g ds Q0)
    {K : Act → World → Prop} {Q : Exit → Act → World → Prop} {key : Nat} (hfr : ∀ rs, Q0 rs → ∀ q ob, look q (resACs key rs).2 = some ob → Free s q)
    (hK : ∀ rs, Q0 rs → ∀ v w' σ', relAV σ' ((resACs key rs).2 ++ s.heap) w' (outAV (resACs key rs).1) v → Sim w0 Ok N σ' ⟨s.regs, (resACs key rs).2 ++ s.heap⟩ a w' → K (a.put o.dst v) w') : o.wp P a w K Q := by
  have hfv : a.eval f = .func (.func g) #[] #[] := fnId_rel h hf
  have hrun : (execOp a.eval o).run P w = .ok (.enter g (args.map a.eval)) w := by
    unfold execOp
    rw [ho]
    simp [resolve, Deferred.ofValue, hfv, invoke, hfn.call]
  obtain ⟨A, hA, hAa, hAz⟩ : ∃ A : Nat → Prop, (∀ b, A b → b < w.heap.size) ∧ relArgs A w ds (args.toList.map a.eval) ∧ ((∃ rs, Q0 rs ∧ rs.all Res.scalar = false) → ∀ b, A b → Zn σ s.heap w b) := by
    exact ⟨Zn σ s.heap w, fun _ h => h.1, hd, fun _ b hb => hb⟩
  have hcall := hfn.fn A w (args.toList.map a.eval) hA hAa
  unfold Oper.wp
  rw [hrun, Oper.upon_enter]
  have e : (args.toList.map a.eval).toArray = args.map a.eval := by rw [← Array.toList_map, Array.toArray_toList]
  rw [← e]
  refine hcall.mono ?_
  rintro e w' ⟨v, rs, rfl, hQ, hw, us, G, X, rfl, hG1, hG2, hrel⟩
  obtain ⟨σ', k0, k1, k2, k3, k4⟩ := outs_asg key σ hrel hG1
  have hgn : ∀ q u, look q (resACs key rs).2 = some u → ∀ b, σ'.g q = some b → w.heap.size ≤ b := fun q u hq b hb => hG2 b ((k2 q u hq).2.2.1 b (fp_out hb))
  have hZ1 : (∀ b, A b → Zn σ s.heap w b) → ∀ b, ((A b ∨ w.heap.size ≤ b) ∧ b ∉ X) → b < w'.heap.size → Zn σ' ((resACs key rs).2 ++ s.heap) w' b := by
    intro hAz b hb hlt
    have hz := Kept.grown hw h hAz b hb.1 hlt
    refine ⟨hlt, by rw [k0]; exact hz.2.1, fun q u hq e => ?_⟩
    rw [look_append] at hq
    cases hn : look q (resACs key rs).2 with
    | some o' => exact hb.2 ((k2 q o' hn).2.2.2 b e)
    | none =>
      rw [hn] at hq
      rw [(k1 q hn).1] at e
      exact hz.2.2 q u hq e
  refine hK rs hQ _ w' σ' (out_rel ?_) ?_
  · by_cases hsc : rs.all Res.scalar = true
    · exact k4.relS hsc
    · exact k4.rel (hZ1 (hAz ⟨rs, hQ, by simpa using hsc⟩))
  · refine h.news k0 hw (hfr rs hQ) k1 (fun q o' hq => ?_) (fun q o' hq => ?_) k3
    · obtain ⟨⟨dd, k, xs, d, b1, b2, b3, b4⟩, _⟩ := k2 q o' hq
      subst b1
      refine ⟨dd, b2, b3, ?_⟩
      show if d = true then ownR k w' dd xs (σ'.F q) else rdR k (Zn σ' ((resACs key rs).2 ++ s.heap) w') w' dd xs
      cases d with
      | true => rw [if_pos rfl]; exact b4
      | false =>
        rw [if_neg (by decide)]
        have b4' : rdR k (fun b => (A b ∨ w.heap.size ≤ b) ∧ b ∉ X) w' dd xs := b4
        have hsc : rs.all Res.scalar = false := by
          have key : ∀ {rs : List Res} {key : Nat} {q : Nat}, look q (resACs key rs).2 = some (.row k xs false) → rs.all Res.scalar = false := by
            intro rs
            induction rs with
            | nil => intro key q hq; cases hq
            | cons r rs ih =>
              intro key q hq
              cases r with
              | val d => rw [List.all_cons, ih (by simpa [resACs, resAC] using hq), Bool.and_false]
              | own kk ys d =>
                simp only [resACs, resAC, List.singleton_append, look] at hq
                split at hq
                · cases hq; rfl
                · rw [List.all_cons, ih hq, Bool.and_false]
          exact key hq
        exact b4'.mono (fun b hb hlt => hZ1 (hAz ⟨rs, hQ, hsc⟩) b hb hlt)
    · obtain ⟨_, b5, b6, _⟩ := k2 q o' hq
      exact ⟨fun b hb => hG2 b (b6 b hb), b5⟩
theorem ROps.callNilP (C : CfgOK P cfg) {ops : Array Oper} {o : Oper} {l : List Oper} {Q : St → Prop} {d : Nat} {f : Operand} {args : Array Operand} {ts : Array TypeId} {g : FuncId} (hb : awanted ops s.regs o = some true) (hdN : d < cfg.N)
    (ho : o.op = .call ⟨.value f, args, ts⟩) (hod : o.dst = some d) (hf : ((opv s.regs f).bind avD).bind fnId = some g)
    {xs : List Operand} {tx : List TypeId} {pre : List (List D)} {ys : List Operand} {ty : List TypeId} {post : List (List D)} (ha : args.toList = xs ++ .const (.slice none 0 0) :: ys) (hpre : aargs cfg (fun k => look k s.heap) s.regs xs tx = some pre) (hr : opRefs s.regs xs = []) (hpost : aargs cfg (fun k => look k s.heap) s.regs ys ty = some post) (hr2 : opRefs s.regs ys = [])
    {rs : List Res} (hfn : AFn P g (pre ++ [.raw (.slice none 0 0)] :: post) (· = rs)) (hfr : (resACs d rs).2.all (fun p => fresh s p.1) = true)
    (h : ROps P cfg M ops l Q (s.got d rs)) : ROps P cfg M ops (o :: l) Q s := by
  intro w0 Ok σ a w Q' hM hS hQ
  refine wpList_step (fun K hK => ?_)
  rw [awanted_spec hS hb]
  simp only [if_true]
  have hrel : relArgs (Zn σ s.heap w) w (pre ++ [.raw (.slice none 0 0)] :: post) (args.toList.map a.eval) := by
    rw [ha, List.map_append]
    exact relArgs.join ((aargs_rel C hS hpre).2 hr) ⟨_, _, rfl, rdV_raw.2 ⟨rfl, rfl⟩, (aargs_rel C hS hpost).2 hr2⟩
  refine n_callR C hS (key := d) ho hf hrel hfn (fun rs' e => e ▸ fun q ob hq => fresh_free (List.all_eq_true.1 hfr _ (look_all hq))) (fun rs' e v w' σ' hv hS' => ?_)
  subst e
  rw [hod]
  have hsub : ∀ k o', look k (insAll (resACs d rs').2 s.heap) = some o' → look k ((resACs d rs').2 ++ s.heap) = some o' := fun k o' ho' => by rw [look_insAll] at ho'; exact ho'
  exact hK _ _ (h w0 Ok σ' _ _ Q' hM (Sim.ins (hS'.forget (fun _ _ h => h) hsub) hdN (hv.sub hsub)) hQ)
end
noncomputable def atOwn (A : List (List D)) (k : Nat) (X : List (List D)) (B : List (List D)) (R : List Res) (a : List (List D)) (k' : Nat) (x : List (List D)) (b : List (List D)) : Option (List Res × Option (List (List D))) := by
  classical
  exact if a = A ∧ k' = k ∧ x = X ∧ b = B then some (R, Option.none) else Option.none
theorem atOwn_eq (A : List (List D)) (k : Nat) (X : List (List D)) (B : List (List D)) (R : List Res) : atOwn A k X B R A k X B = some (R, Option.none) := by
  unfold atOwn; rw [if_pos ⟨rfl, rfl, rfl, rfl⟩]
theorem atOwn_some {A : List (List D)} {k : Nat} {X : List (List D)} {B : List (List D)} {R : List Res} {a : List (List D)} {k' : Nat} {x b : List (List D)} {r : List Res × Option (List (List D))} (h : atOwn A k X B R a k' x b = some r) : a = A ∧ k' = k ∧ x = X ∧ b = B ∧ r = (R, Option.none) := by
  unfold atOwn at h
  split at h
  · rename_i h1
    exact ⟨h1.1, h1.2.1, h1.2.2.1, h1.2.2.2, (Option.some.inj h).symm⟩
  · exact nomatch h
noncomputable def Tab.own' {P : Program} (T : Tab P) (g : FuncId) (n : Nat) {A : List (List D)} {k : Nat} {X B : List (List D)} {R : List Res} (h : AOw P g A k X B (· = R)) : Tab P :=
  T.own g ⟨false, n, atOwn A k X B R⟩ (fun pre k' xs post r _ e => by
    obtain ⟨rfl, rfl, rfl, rfl, rfl⟩ := atOwn_some e
    exact h.toEf)
end Go.Proofs.Ytkdkikmhlhcndaa
namespace Go.Proofs.Ytkdkikmhlhcndaa
open Go.RowKit
theorem foldS_len {α : Type} (f : α → List Spl) (m : α → Nat) : ∀ (bs : List α) (A : List Spl), (∀ b ∈ bs, (f b).length ≤ 2 ^ m b) → (foldS A (bs.map f)).length ≤ A.length * 2 ^ (bs.map m).sum
  | [], A, _ => by simp [foldS]
  | b :: bs, A, h => by
    have h1 := foldS_len f m bs (A.flatMap fun s => (f b).map (catS s)) (fun x hx => h x (by simp [hx]))
    have h2 : (A.flatMap fun s => (f b).map (catS s)).length = A.length * (f b).length := by
      clear h1
      induction A with
      | nil => simp
      | cons a A ih => rw [List.flatMap_cons, List.length_append, ih, List.length_map, List.length_cons, Nat.succ_mul, Nat.add_comm]
    rw [h2] at h1
    have e : ((b :: bs).map m).sum = m b + (bs.map m).sum := by simp
    rw [e, Nat.pow_add]
    refine Nat.le_trans h1 ?_
    rw [← Nat.mul_assoc]
    exact Nat.mul_le_mul_right _ (Nat.mul_le_mul_left _ (h b (by simp)))
theorem split_len : ∀ (n : Nat) {t : List Int}, t.length ≤ n → LevP t → (split t).length ≤ 2 ^ t.length
  | 0, t, hn, h => by have := h.pos; omega
  | n + 1, t, hn, h => by
    rw [split_eq h, List.length_append, List.length_map, List.length_singleton]
    have h1 := foldS_len split List.length (brs t) [([], [])] (fun b hb => split_len n (by have := brs_short h b hb; omega) (brs_lev h b hb))
    have hb := sumLen_brs h
    have h2 : (prodS ((brs t).map split)).length ≤ 2 ^ sumLen (brs t) := by
      have : (foldS [([], [])] ((brs t).map split)).length ≤ 1 * 2 ^ sumLen (brs t) := h1
      rw [Nat.one_mul] at this; exact this
    rw [← hb, Nat.pow_succ]
    have : 0 < 2 ^ sumLen (brs t) := Nat.pow_pos (by decide)
    omega
theorem prod_len {bs : List (List Int)} (h : ∀ b ∈ bs, LevP b) (h8 : sumLen bs ≤ 8) : (prodS (bs.map split)).length ≤ 256 := by
  have h1 := foldS_len split List.length bs [([], [])] (fun b hb => split_len _ (Nat.le_refl _) (h b hb))
  have h2 : (prodS (bs.map split)).length ≤ 2 ^ sumLen bs := by
    have : (foldS [([], [])] (bs.map split)).length ≤ 1 * 2 ^ sumLen bs := h1
    rw [Nat.one_mul] at this; exact this
  exact Nat.le_trans h2 (Nat.pow_le_pow_right (by decide) h8)
theorem prod_good {bs : List (List Int)} (h : ∀ b ∈ bs, LevP b) : ∀ s ∈ prodS (bs.map split), GoodS (sumLen bs) s := fun s hs => by
  have := foldS_good split List.length bs [([], [])] 0 (fun b hb => split_good _ (Nat.le_refl _) (h b hb)) (fun s hs => by
    obtain rfl := List.mem_singleton.1 hs
    exact ⟨by simp, rfl⟩) s hs
  rw [Nat.zero_add] at this
  exact this
theorem GoodS.nrm {n : Nat} {s : Spl} (h : GoodS n s) : GoodS n (nrmS s) := by
  refine ⟨fun t ht => h.1 t ?_, ?_⟩
  · unfold nrmS at ht
    simp only [List.mem_append, sortC_mem] at ht ⊢
    exact ht
  · unfold nrmS
    simp only
    rw [sumLen_perm (sortC_perm _), sumLen_perm (sortC_perm _)]
    exact h.2
theorem len_sum : ∀ {f : List (List Int)}, (∀ t ∈ f, LevP t) → f.length ≤ sumLen f
  | [], _ => Nat.le_refl _
  | t :: f, h => by
    have h1 := (h t (by simp)).pos
    have h2 := len_sum (f := f) (fun x hx => h x (by simp [hx]))
    have : sumLen (t :: f) = t.length + sumLen f := rfl
    rw [this, List.length_cons]; omega
theorem GoodS.ha {n : Nat} {s : Spl} (h : GoodS n s) (hn : n ≤ 9) : HaS s := by
  have h1 := len_sum (f := s.1) (fun t ht => (h.1 t (by simp [ht])).1)
  have h2 := len_sum (f := s.2) (fun t ht => (h.1 t (by simp [ht])).1)
  have h3 := h.2
  exact ⟨⟨by omega, by omega⟩, ⟨by omega, by omega⟩⟩
theorem gath_ok {L : List Spl} {n : Nat} (hL : ∀ s ∈ L, GoodS n s) (hn : n ≤ 9) : ∀ p ∈ gathS L, 1 ≤ p.2 ∧ HaS p.1 := fun p hp => by
  have h := gathS_is L
  refine ⟨(h.cnt p hp).1, ?_⟩
  obtain ⟨s, hs, e⟩ := List.mem_map.1 (h.key p hp)
  rw [← e]
  exact (hL s hs).nrm.ha hn
theorem gath_good {L : List Spl} {n : Nat} (hL : ∀ s ∈ L, GoodS n s) : ∀ p ∈ gathS L, 1 ≤ p.2 ∧ p.2 ≤ L.length ∧ GoodS n p.1 := fun p hp => by
  have h := gathS_is L
  have hc := h.cnt p hp
  rw [List.length_map] at hc
  refine ⟨hc.1, hc.2, ?_⟩
  obtain ⟨s, hs, e⟩ := List.mem_map.1 (h.key p hp)
  rw [← e]
  exact (hL s hs).nrm
theorem gath_exp (L : List Spl) : (expN (gathS L)).length = L.length := by rw [(gathS_is L).2.length_eq, List.length_map]
theorem gath_one : gathS [([], [])] = [(([], []), 1)] := IsN.ext cmpS_cmp (gathS_is _) one_is (List.Perm.refl _)
theorem prodS_snoc (Ls : List (List Spl)) (L : List Spl) : prodS (Ls ++ [L]) = (prodS Ls).flatMap fun s => L.map (catS s) := by unfold prodS; rw [List.foldl_append]; rfl
theorem times_gath (Ls : List (List Spl)) (L : List Spl) : timesN cmpS mulS (gathS (prodS Ls)) (gathS L) = gathS (prodS (Ls ++ [L])) := by
  refine IsN.ext cmpS_cmp (IsN.times cmpS_cmp mulS (gathS_is _) (gathS_is _)) (gathS_is _) ?_
  rw [prodS_snoc, nrm_flat]
theorem mem_take {α : Type} {l : List α} {i : Nat} {P : α → Prop} (h : ∀ b ∈ l, P b) : ∀ b ∈ l.take i, P b := fun b hb => h b (List.mem_of_mem_take hb)
theorem sumLen_take' (l : List (List Int)) (i : Nat) : sumLen (l.take i) ≤ sumLen l := by
  conv => rhs; rw [← List.take_append_drop i l, sumLen_append]
  omega
theorem a_l03Parts (t : List Int) (h : LevP t) (hl : t.length ≤ 1000) : AFn Try.prog 59 [eL t] (· = [.own 1 ((brs t).map eL) true]) :=
  afn_L_oo (enters_of Try.func59 rfl rfl) (fun u w h' => c_spec_l03Parts u t w h' h (by omega))
theorem a_l03Branches (t : List Int) (h : LevP t) (hc : canon t = t) (hl : t.length ≤ 1000) : AFn Try.prog 79 [eL t] (· = [.own 1 ((sortC cmpT (brs t)).map eL) true]) := by
  have h1 := a_l03CanonB t h hl
  have h2 := a_l03Parts t h hl
  have hb := sumLen_brs h
  have h3 := a_l03Sort (brs t) (by have := brs_few h; omega) (fun b hb' => by have := sumLen_mem hb'; omega)
  rw [hc] at h1
  simp only [eL, eLL] at h1 h2 h3
  refine AFn.of_runs (cfg_ok 7) Try.func79 rfl rfl rfl (by simp only [List.length_cons, List.length_nil]; decide) ?_
  have hres : Try.f79.results.toList = [.tmp 2] := rfl
  have hrts : Try.f79.resultTypes.toList = [39] := rfl
  simp only [argRegs, argAV1, eL, eI, eLL, eB, Nat.zero_add, Nat.reduceAdd]
  intro M
  refine RunK.of ?_
  repeat' (first | with_reducible (first | refine Q1 ?_ | refine Q2 ?_ | refine Q3 ?_ | refine Q4 ?_ | refine Q5 ?_ | refine Q6 ?_ | refine Q7 ?_ | refine Q8 ?_ | refine Q9 ?_ | refine Qa ?_ | refine Qb ?_ | refine Qc ?_ | refine Qd ?_ | refine Qe ?_ | refine Qf ?_) | ((with_reducible refine Qo ?_ ?_); focus rfl) | ((with_reducible first | refine QT 3 (l := ?_) ?_ ?_ | refine QF 3 (l := ?_) ?_ ?_); rotate_left 1; focus (simp only [Zu, Nat.reduceSub, Nat.reduceBEq]; with_reducible rfl)) | ((with_reducible first | refine QS (cfg_ok 7) (((Tab.none.at' 32 h1).at' 59 h2).at' 93 h3) (s' := ?_) ?_ ?_ | refine QC (b := ?_) ?_ ?_); rotate_left 1; focus ((with_reducible refine QW ?_); simp only [Zg, seval, if_true, if_false, reduceCtorEq, Nat.reduceEqDiff]; with_reducible rfl)))
  (refine Ends.mk (by simp) (rs := ?_) (ks := ?_) hres hrts ?_ ?_ ?_; rotate_left 2; (focus (simp only [Ze, Zg, seval, if_true, if_false, reduceCtorEq, Nat.reduceEqDiff, forest]; with_reducible rfl)); (focus simp); focus (first | with_reducible rfl | (simp only [Zv, forest]; done)))
set_option maxHeartbeats 4000000 in
theorem a_l05Forest_of (n : Nat) (hT : ∀ b, LevP b → canon b = b → b.length ≤ n → AFn Try.prog 56 [eL b] (· = [.val (.sl 3 ((gathS (split b)).map eSp))])) (bs : List (List Int)) (hb : ∀ b ∈ bs, LevP b ∧ canon b = b ∧ b.length ≤ n) (h8 : sumLen bs ≤ 8) :
    AFn Try.prog 78 [eLL bs] (· = [.val (.sl 3 ((gathS (prodS (bs.map split))).map eSp))]) := by
  have hlev : ∀ b ∈ bs, LevP b := fun b hb' => (hb b hb').1
  have hbl := len_sum hlev
  refine AFn.of_runs (cfg_ok 21) Try.func78 rfl rfl rfl (by simp only [List.length_cons, List.length_nil]; decide) ?_
  have hres : Try.f78.results.toList = [.tmp 2] := rfl
  have hrts : Try.f78.resultTypes.toList = [50] := rfl
  simp only [argRegs, argAV1, eL, eI, eLL, eB, Nat.zero_add, Nat.reduceAdd]
  intro M
  refine RunK.of ?_
  repeat' (first | with_reducible (first | refine Q1 ?_ | refine Q2 ?_ | refine Q3 ?_ | refine Q4 ?_ | refine Q5 ?_ | refine Q6 ?_ | refine Q7 ?_ | refine Q8 ?_ | refine Q9 ?_ | refine Qa ?_ | refine Qb ?_ | refine Qc ?_ | refine Qd ?_ | refine Qe ?_ | refine Qf ?_) | ((with_reducible refine Qo ?_ ?_); focus rfl) | ((with_reducible first | refine QT 5 (l := ?_) ?_ ?_ | refine QF 5 (l := ?_) ?_ ?_); rotate_left 1; focus (simp only [Zu, Nat.reduceSub, Nat.reduceBEq]; with_reducible rfl)) | ((with_reducible first | refine QS (cfg_ok 21) Tab.none (s' := ?_) ?_ ?_ | refine QC (b := ?_) ?_ ?_); rotate_left 1; focus ((with_reducible refine QW ?_); simp only [Zg, seval, if_true, if_false, reduceCtorEq, Nat.reduceEqDiff]; with_reducible rfl)))
  refine RunK.frz 3 ?_
  refine RunK.fits (s0 := ⟨[(0, .c (.val (.sl 1 (bs.map eL)))), (3, .c (.val (.sl 3 [[.sl 1 [], .sl 1 [], .int 1]]))), (4, .c (.val (.int 0)))], []⟩) ?_ ?_
  · (repeat' (first | with_reducible refine Qn | ((with_reducible refine Qr ?_ ?_); focus (first | with_reducible rfl | (simp only [Zz, Nat.reduceBEq, St.frz, frzR, frzH, look, AV.frz, AC.frz, drop]; done) | rfl)) | ((with_reducible refine Qj (o' := ?_) ?_ ?_ ?_); rotate_left 1; focus rfl) | ((with_reducible refine Qw ?_ ?_); (focus (first | with_reducible rfl | (simp only [Zv, St.frz, frzR, frzH, look, AV.frz, AC.frz, drop]; done))); focus (first | exact id | exact (fun h => nomatch h) | exact (fun _ => rfl)))))
  refine RunK.loop (β := Nat) (γ := Unit) (fun i => ⟨[(0, .c (.val (.sl 1 (bs.map eL)))), (3, .c (.val (.sl 3 ((gathS (prodS ((bs.take i).map split))).map eSp)))), (4, .c (.val (.int i)))], []⟩) (fun i => i ≤ bs.length) (fun i => bs.length - i)
    (fun _ => ⟨[(3, .c (.val (.sl 3 ((gathS (prodS (bs.map split))).map eSp))))], []⟩) (fun _ => True) 0 (Nat.zero_le _) ?_ ?_ ?_
  · (repeat' (first | with_reducible refine Qn | ((with_reducible refine Qr ?_ ?_); focus (first | with_reducible rfl | (simp only [Zz, Nat.reduceBEq, List.take_zero, List.map_nil, show prodS [] = [([], [])] from rfl, gath_one, List.map_cons, eSp, Int.natCast_zero]; done) | rfl)) | ((with_reducible refine Qj (o' := ?_) ?_ ?_ ?_); rotate_left 1; focus rfl) | ((with_reducible refine Qw ?_ ?_); (focus (first | with_reducible rfl | (simp only [Zv, List.take_zero, List.map_nil, show prodS [] = [([], [])] from rfl, gath_one, List.map_cons, eSp, Int.natCast_zero]; done))); focus (first | exact id | exact (fun h => nomatch h) | exact (fun _ => rfl)))))
  · intro i hi
    have hi : i ≤ bs.length := hi
    have hw := w64_succ (n := i) (by omega)
    by_cases h : i < bs.length
    · have i1 : ((i : Int) < (bs.length : Int)) = True := eq_true (by omega)
      have i2 : ((0 : Int) ≤ (i : Int)) = True := eq_true (by omega)
      obtain ⟨b, hbe⟩ : ∃ b, b = bs[i] := ⟨_, rfl⟩
      have hmem : b ∈ bs := by rw [hbe]; exact List.getElem_mem _
      have hg : (bs.map eL)[i]? = some [.sl 1 (b.map eI)] := by rw [map_get h, hbe]; rfl
      have hle : (bs.map eL).length = bs.length := List.length_map _
      obtain ⟨hb1, hb2, hb3⟩ := hb b hmem
      have hb4 : b.length ≤ 8 := by have := sumLen_mem hmem; omega
      have ht := hT b hb1 hb2 hb3
      have hX := sumLen_take' bs i
      have hlevX := mem_take (i := i) hlev
      have htm := a_l05Times (gathS (prodS ((bs.take i).map split))) (gathS (split b)) (gath_ok (prod_good hlevX) (by omega)) (gath_ok (split_good _ (Nat.le_refl _) hb1) (by omega))
        (by rw [gath_exp]; have := prod_len hlevX (by omega); omega)
        (by rw [gath_exp]; have := split_len _ (Nat.le_refl _) hb1; have h2 : 2 ^ b.length ≤ 2 ^ 8 := Nat.pow_le_pow_right (by decide) hb4; omega)
      rw [times_gath] at htm
      have htk : (bs.take (i + 1)).map split = (bs.take i).map split ++ [split b] := by rw [hbe, List.take_succ_eq_append_getElem h, List.map_append]; rfl
      simp only [eL] at ht
      repeat' (first | with_reducible (first | refine Q1 ?_ | refine Q2 ?_ | refine Q3 ?_ | refine Q4 ?_ | refine Q5 ?_ | refine Q6 ?_ | refine Q7 ?_ | refine Q8 ?_ | refine Q9 ?_ | refine Qa ?_ | refine Qb ?_ | refine Qc ?_ | refine Qd ?_ | refine Qe ?_ | refine Qf ?_) | ((with_reducible refine Qo ?_ ?_); focus rfl) | ((with_reducible first | refine QT 5 (l := ?_) ?_ ?_ | refine QF 5 (l := ?_) ?_ ?_); rotate_left 1; focus (simp only [Zu, Nat.reduceSub, Nat.reduceBEq]; with_reducible rfl)) | ((with_reducible first | refine QS (cfg_ok 21) ((Tab.none.at' 56 ht).at' 92 htm) (s' := ?_) ?_ ?_ | refine QC (b := ?_) ?_ ?_); rotate_left 1; focus ((with_reducible refine QW ?_); simp only [Zg, seval, if_true, if_false, reduceCtorEq, Nat.reduceEqDiff, i1, i2, hg, hw, hle, Int.toNat_natCast]; with_reducible rfl)))
      refine roundK.on (i + 1) ⟨h, by omega⟩ ?_
      rw [htk]
      (repeat' (first | with_reducible refine Qn | ((with_reducible refine Qr ?_ ?_); focus (first | with_reducible rfl | (simp only [Zz, Nat.reduceBEq]; done) | rfl)) | ((with_reducible refine Qj (o' := ?_) ?_ ?_ ?_); rotate_left 1; focus rfl) | ((with_reducible refine Qw ?_ ?_); (focus (first | with_reducible rfl | (simp only [Zv]; done))); focus (first | exact id | exact (fun h => nomatch h) | exact (fun _ => rfl)))))
    · have i1 : ((i : Int) < (bs.length : Int)) = False := eq_false (by omega)
      obtain rfl : i = bs.length := by omega
      rw [List.take_length]
      repeat' (first | with_reducible (first | refine Q1 ?_ | refine Q2 ?_ | refine Q3 ?_ | refine Q4 ?_ | refine Q5 ?_ | refine Q6 ?_ | refine Q7 ?_ | refine Q8 ?_ | refine Q9 ?_ | refine Qa ?_ | refine Qb ?_ | refine Qc ?_ | refine Qd ?_ | refine Qe ?_ | refine Qf ?_) | ((with_reducible refine Qo ?_ ?_); focus rfl) | ((with_reducible first | refine QT 5 (l := ?_) ?_ ?_ | refine QF 5 (l := ?_) ?_ ?_); rotate_left 1; focus (simp only [Zu, Nat.reduceSub, Nat.reduceBEq]; with_reducible rfl)) | ((with_reducible first | refine QS (cfg_ok 21) Tab.none (s' := ?_) ?_ ?_ | refine QC (b := ?_) ?_ ?_); rotate_left 1; focus ((with_reducible refine QW ?_); simp only [Zg, seval, if_true, if_false, reduceCtorEq, Nat.reduceEqDiff, i1, List.length_map]; with_reducible rfl)))
      refine roundK.out () trivial ?_
      (repeat' (first | with_reducible refine Qn | ((with_reducible refine Qr ?_ ?_); focus (first | with_reducible rfl | (simp only [Zz, Nat.reduceBEq]; done) | rfl)) | ((with_reducible refine Qj (o' := ?_) ?_ ?_ ?_); rotate_left 1; focus rfl) | ((with_reducible refine Qw ?_ ?_); (focus (first | with_reducible rfl | (simp only [Zv]; done))); focus (first | exact id | exact (fun h => nomatch h) | exact (fun _ => rfl)))))
  · rintro _ _
    repeat' (first | with_reducible (first | refine Q1 ?_ | refine Q2 ?_ | refine Q3 ?_ | refine Q4 ?_ | refine Q5 ?_ | refine Q6 ?_ | refine Q7 ?_ | refine Q8 ?_ | refine Q9 ?_ | refine Qa ?_ | refine Qb ?_ | refine Qc ?_ | refine Qd ?_ | refine Qe ?_ | refine Qf ?_) | ((with_reducible refine Qo ?_ ?_); focus rfl) | ((with_reducible first | refine QT 5 (l := ?_) ?_ ?_ | refine QF 5 (l := ?_) ?_ ?_); rotate_left 1; focus (simp only [Zu, Nat.reduceSub, Nat.reduceBEq]; with_reducible rfl)) | ((with_reducible first | refine QS (cfg_ok 21) Tab.none (s' := ?_) ?_ ?_ | refine QC (b := ?_) ?_ ?_); rotate_left 1; focus ((with_reducible refine QW ?_); simp only [Zg, seval, if_true, if_false, reduceCtorEq, Nat.reduceEqDiff]; with_reducible rfl)))
    (refine Ends.mk (by simp) (rs := ?_) (ks := ?_) hres hrts ?_ ?_ ?_; rotate_left 2; (focus (simp only [Ze, Zg, seval, if_true, if_false, reduceCtorEq, Nat.reduceEqDiff]; with_reducible rfl)); (focus simp); focus (first | with_reducible rfl | (simp only [Zv]; done)))
theorem tree_sum {t : List Int} (h : LevP t) (hc : canon t = t) : (gathS (prodS ((sortC cmpT (brs t)).map split))).foldl (fun s p => putN cmpS s p.2 (rootS p.1)) [(([t], []), 1)] = gathS (split t) := by
  have hf := spec_tree h hc (fun b => gathS (split b)) (fun b _ => gathS_is _)
  unfold putsS at hf
  rw [spec_forest (sortC cmpT (brs t)) (fun b => gathS (split b)) (fun b _ => rfl)] at hf
  exact hf
theorem putM_is (L : List (Spl × Int)) (P : List (Spl × Int)) {M : List Spl} (hL : IsN cmpS L M) (hP : ∀ p ∈ P, 1 ≤ p.2) : IsN cmpS (P.foldl (fun s p => putN cmpS s p.2 (rootS p.1)) L) (M ++ expN (P.map fun p => (rootS p.1, p.2))) := by
  have h2 := IsN.puts cmpS_cmp (P.map fun p => (rootS p.1, p.2)) hL (fun p hp => by
    obtain ⟨q, hq, rfl⟩ := List.mem_map.1 hp
    exact hP q hq)
  rw [List.foldl_map] at h2
  exact h2
theorem canon_brs {t : List Int} (h : LevP t) (hc : canon t = t) : ∀ b ∈ brs t, canon b = b := fun b hb => by
  have hl : ∀ c ∈ sortC cmpD ((brs t).map canon), LevP c := fun c hc' => by
    rw [sortC_mem, List.mem_map] at hc'
    obtain ⟨x, hx, rfl⟩ := hc'
    exact canon_lev (brs_lev h x hx)
  have e := canon_eq h
  rw [hc] at e
  rw [e, brs_rootOn hl, sortC_mem, List.mem_map] at hb
  obtain ⟨x, hx, rfl⟩ := hb
  exact canon_idem (brs_lev h x hx)
theorem root_sm {s : Spl} {n : Nat} (h : GoodS n s) (hn : n ≤ 8) : SmS (rootS s) := by
  have h1 := (h.ha (by omega)).1.sm
  have hl : LevP (rootOn s.2) := rootOn_lev fun b hb => (h.1 b (by simp [hb])).1
  refine ⟨h1, by simp [rootS], ?_⟩
  show (canon (rootOn s.2)).length + 0 ≤ 100
  rw [canon_len hl, rootOn_len]
  have := h.2; omega
set_option maxHeartbeats 8000000 in
theorem a_l05Tree : ∀ (n : Nat), n ≤ 8 → ∀ t : List Int, LevP t → canon t = t → t.length ≤ n → AFn Try.prog 56 [eL t] (· = [.val (.sl 3 ((gathS (split t)).map eSp))])
  | 0, _, t, h, _, hn => by have := h.pos; omega
  | n + 1, hn8, t, h, hc, hn => by
    have hsb := sumLen_brs h
    have hperm := sortC_perm (c := cmpT) (brs t)
    have hlev : ∀ b ∈ sortC cmpT (brs t), LevP b := fun b hb => brs_lev h b (sortC_mem.1 hb)
    have hs8 : sumLen (sortC cmpT (brs t)) ≤ 7 := by rw [sumLen_perm hperm]; omega
    have hbr := AFn.valT (a_l03Branches t h hc (by omega))
    have hfo := a_l05Forest_of n (fun b h1 h2 h3 => a_l05Tree n (by omega) b h1 h2 h3) (sortC cmpT (brs t)) (fun b hb => by
      have hb' := sortC_mem.1 hb
      exact ⟨brs_lev h b hb', canon_brs h hc b hb', by have := brs_short h b hb'; omega⟩) (by omega)
    have how := AFn.valT (a_l01Own t (by omega))
    have hgood := gath_good (prod_good hlev)
    have hlen := prod_len hlev (by omega)
    have hfin := tree_sum h hc
    have hBl : (gathS (prodS ((sortC cmpT (brs t)).map split))).length ≤ 256 := by have := (gathS_is (prodS ((sortC cmpT (brs t)).map split))).len; rw [List.length_map] at this; omega
    have hBe := gath_exp (prodS ((sortC cmpT (brs t)).map split))
    obtain ⟨B, hB⟩ : ∃ B, B = gathS (prodS ((sortC cmpT (brs t)).map split)) := ⟨_, rfl⟩
    rw [← hB] at hgood hfin hfo hBl hBe
    have hone : IsN cmpS [((([t], []) : Spl), 1)] [([t], [])] := ⟨⟨by simp, by simp⟩, List.Perm.refl _⟩
    have hF : ∀ j, ((B.take j).foldl (fun s p => putN cmpS s p.2 (rootS p.1)) [(([t], []), 1)]).length ≤ 1000000 ∧ ∀ q ∈ (B.take j).foldl (fun s p => putN cmpS s p.2 (rootS p.1)) [(([t], []), 1)], (1 ≤ q.2 ∧ q.2 ≤ 1000000000) ∧ SmS q.1 := fun j => by
      have hP : ∀ p ∈ B.take j, 1 ≤ p.2 ∧ p.2 ≤ 256 ∧ SmS (rootS p.1) := fun p hp => by
        obtain ⟨g1, g2, g3⟩ := hgood p (List.mem_of_mem_take hp)
        exact ⟨g1, by omega, root_sm g3 (by omega)⟩
      have hi := putM_is _ (B.take j) hone (fun p hp => (hP p hp).1)
      have hlt : (expN ((B.take j).map fun p => (rootS p.1, p.2))).length ≤ 256 * 256 := by
        have key : ∀ (X : List (Spl × Int)), (∀ p ∈ X, p.2 ≤ 256) → (expN (X.map fun p => (rootS p.1, p.2))).length ≤ 256 * X.length := by
          intro X
          induction X with
          | nil => intro _; simp [expN]
          | cons x X ih =>
            intro hx
            have h1 := ih (fun p hp => hx p (by simp [hp]))
            have h2 := hx x (by simp)
            rw [List.map_cons, expN_cons, List.length_append, List.length_replicate, List.length_cons, Nat.mul_succ]
            show x.2.toNat + _ ≤ _
            omega
        have h1 := key (B.take j) (fun p hp => (hP p hp).2.1)
        have h2 : (B.take j).length ≤ 256 := by rw [List.length_take]; omega
        exact Nat.le_trans h1 (Nat.mul_le_mul_left _ h2)
      have hM : ([(([t], []) : Spl)] ++ expN ((B.take j).map fun p => (rootS p.1, p.2))).length ≤ 1 + 256 * 256 := by rw [List.length_append, List.length_singleton]; omega
      refine ⟨Nat.le_trans hi.len (by omega), fun q hq => ?_⟩
      have hcq := hi.cnt q hq
      refine ⟨⟨hcq.1, by omega⟩, ?_⟩
      have hk := hi.key q hq
      rcases List.mem_append.1 hk with hk | hk
      · rw [List.mem_singleton.1 hk]
        exact ⟨⟨by simp, by show t.length + 0 ≤ 100; omega⟩, by show SmF []; decide⟩
      · obtain ⟨r, hr, e⟩ := expN_mem hk
        obtain ⟨p, hp, rfl⟩ := List.mem_map.1 hr
        rw [← e]
        exact (hP p hp).2.2
    simp only [eL, eLL] at hbr hfo how
    refine AFn.of_runs (cfg_ok 41) Try.func56 rfl rfl rfl (by simp only [List.length_cons, List.length_nil]; decide) ?_
    have hres : Try.f56.results.toList = [.tmp 2] := rfl
    have hrts : Try.f56.resultTypes.toList = [50] := rfl
    simp only [argRegs, argAV1, eL, eI, eLL, eB, Nat.zero_add, Nat.reduceAdd]
    intro M
    refine RunK.of ?_
    repeat' (first | with_reducible (first | refine Q1 ?_ | refine Q2 ?_ | refine Q3 ?_ | refine Q4 ?_ | refine Q5 ?_ | refine Q6 ?_ | refine Q7 ?_ | refine Q8 ?_ | refine Q9 ?_ | refine Qa ?_ | refine Qb ?_ | refine Qc ?_ | refine Qd ?_ | refine Qe ?_ | refine Qf ?_) | ((with_reducible refine Qo ?_ ?_); focus rfl) | ((with_reducible first | refine QT 6 (l := ?_) ?_ ?_ | refine QF 6 (l := ?_) ?_ ?_); rotate_left 1; focus (simp only [Zu, Nat.reduceSub, Nat.reduceBEq]; with_reducible rfl)) | ((with_reducible first | refine QS (cfg_ok 41) ((Tab.none.at' 79 hbr).at' 78 hfo) (s' := ?_) ?_ ?_ | refine QC (b := ?_) ?_ ?_); rotate_left 1; focus ((with_reducible refine QW ?_); simp only [Zg, seval, if_true, if_false, reduceCtorEq, Nat.reduceEqDiff]; with_reducible rfl)) | ((with_reducible refine QD (cfg_ok 41) ((Tab.none.at' 79 hbr).at' 78 hfo) mixed_ok (tr := ?_) (s' := ?_) ?_ ?_ ?_); rotate_left 2; (focus ((with_reducible refine QW ?_); simp only [Zg, Zd, seval, if_true, if_false, reduceCtorEq, Nat.reduceEqDiff]; with_reducible rfl)); focus ((with_reducible refine QK ?_); simp only [Zk]; kernel_rfl)))
    refine RunK.regCut (cfg_ok 41) (Tab.none.at' 57 how) 3 (s1 := ?_) ?_ ?_
    rotate_left 1
    focus (refine Work.mk ?_; simp only [Zg, seval, if_true, if_false, reduceCtorEq, Nat.reduceEqDiff]; with_reducible rfl)
    simp only [List.toList_toArray, List.drop_succ_cons, List.drop_zero]
    refine ROps.frzs [11] ?_
    refine ROps.opsT (cfg_ok 41) (T := Tab.none) (s' := ?_) ?_ ?_
    rotate_left 1
    focus (simp only [Zg, seval, if_true, if_false, reduceCtorEq, Nat.reduceEqDiff]; with_reducible rfl)
    repeat' (first | with_reducible (first | refine Q1 ?_ | refine Q2 ?_ | refine Q3 ?_ | refine Q4 ?_ | refine Q5 ?_ | refine Q6 ?_ | refine Q7 ?_ | refine Q8 ?_ | refine Q9 ?_ | refine Qa ?_ | refine Qb ?_ | refine Qc ?_ | refine Qd ?_ | refine Qe ?_ | refine Qf ?_) | ((with_reducible refine Qo ?_ ?_); focus rfl) | ((with_reducible first | refine QT 6 (l := ?_) ?_ ?_ | refine QF 6 (l := ?_) ?_ ?_); rotate_left 1; focus (simp only [Zu, Nat.reduceSub, Nat.reduceBEq]; with_reducible rfl)) | ((with_reducible first | refine QS (cfg_ok 41) Tab.none (s' := ?_) ?_ ?_ | refine QC (b := ?_) ?_ ?_); rotate_left 1; focus ((with_reducible refine QW ?_); simp only [Zg, seval, if_true, if_false, reduceCtorEq, Nat.reduceEqDiff]; with_reducible rfl)) | ((with_reducible refine QD (cfg_ok 41) Tab.none mixed_ok (tr := ?_) (s' := ?_) ?_ ?_ ?_); rotate_left 2; (focus ((with_reducible refine QW ?_); simp only [Zg, Zd, seval, if_true, if_false, reduceCtorEq, Nat.reduceEqDiff]; with_reducible rfl)); focus ((with_reducible refine QK ?_); simp only [Zk]; kernel_rfl)))
    refine RunK.frz 4 ?_
    refine RunK.fits (s0 := ⟨[(3, .c (.val (.sl 3 (B.map eSp)))), (4, .c (.val (.sl 3 [[.sl 1 [[.sl 1 (t.map eI)]], .sl 1 [], .int 1]]))), (5, .c (.val (.int 0)))], []⟩) ?_ ?_
    · (repeat' (first | with_reducible refine Qn | ((with_reducible refine Qr ?_ ?_); focus (first | with_reducible rfl | (simp only [Zz, Nat.reduceBEq, St.frz, frzR, frzH, look, AV.frz, AC.frz, drop]; done) | rfl)) | ((with_reducible refine Qj (o' := ?_) ?_ ?_ ?_); rotate_left 1; focus rfl) | ((with_reducible refine Qw ?_ ?_); (focus (first | with_reducible rfl | (simp only [Zv, St.frz, frzR, frzH, look, AV.frz, AC.frz, drop]; done))); focus (first | exact id | exact (fun h => nomatch h) | exact (fun _ => rfl)))))
    refine RunK.loop (β := Nat) (γ := Unit) (fun j => ⟨[(3, .c (.val (.sl 3 (B.map eSp)))), (4, .c (.val (.sl 3 (((B.take j).foldl (fun s p => putN cmpS s p.2 (rootS p.1)) [(([t], []), 1)]).map eSp)))), (5, .c (.val (.int j)))], []⟩) (fun j => j ≤ B.length) (fun j => B.length - j)
      (fun _ => ⟨[(4, .c (.val (.sl 3 ((gathS (split t)).map eSp))))], []⟩) (fun _ => True) 0 (Nat.zero_le _) ?_ ?_ ?_
    · (repeat' (first | with_reducible refine Qn | ((with_reducible refine Qr ?_ ?_); focus (first | with_reducible rfl | (simp only [Zz, Nat.reduceBEq, List.take_zero, List.foldl_nil, List.map_nil, List.map_cons, eSp, eL, Int.natCast_zero]; done) | rfl)) | ((with_reducible refine Qj (o' := ?_) ?_ ?_ ?_); rotate_left 1; focus rfl) | ((with_reducible refine Qw ?_ ?_); (focus (first | with_reducible rfl | (simp only [Zv, List.take_zero, List.foldl_nil, List.map_nil, List.map_cons, eSp, eL, Int.natCast_zero]; done))); focus (first | exact id | exact (fun h => nomatch h) | exact (fun _ => rfl)))))
    · intro i hi
      have hi : i ≤ B.length := hi
      have hw := w64_succ (n := i) (by omega)
      by_cases h' : i < B.length
      · have i1 : ((i : Int) < (B.length : Int)) = True := eq_true (by omega)
        have i2 : ((0 : Int) ≤ (i : Int)) = True := eq_true (by omega)
        obtain ⟨z, hz⟩ : ∃ z, z = B[i] := ⟨_, rfl⟩
        have hgz := hgood B[i] (List.getElem_mem _)
        rw [← hz] at hgz
        obtain ⟨g1, g2, g3⟩ := hgz
        have hgz := (g3.ha (by omega)).2.sm
        have hlz : ∀ b ∈ z.1.2, LevP b := fun b hb => (g3.1 b (by simp [hb])).1
        have hroot := AFn.valT (a_l03Root z.1.2 hgz hlz)
        have hst : (B.take (i + 1)).foldl (fun s p => putN cmpS s p.2 (rootS p.1)) [(([t], []), 1)] = putN cmpS ((B.take i).foldl (fun s p => putN cmpS s p.2 (rootS p.1)) [(([t], []), 1)]) z.2 (rootS z.1) := by
          rw [hz, List.take_succ_eq_append_getElem h', List.foldl_append]; rfl
        have hFi := hF i
        obtain ⟨K, hK⟩ : ∃ K, K = (B.take i).foldl (fun s p => putN cmpS s p.2 (rootS p.1)) [(([t], []), 1)] := ⟨_, rfl⟩
        rw [← hK] at hst hFi ⊢
        have hput := a_l05Put K z.2 (rootS z.1) hFi.1 hFi.2 ⟨g1, by omega⟩ (root_sm g3 (by omega))
        have hg : (B.map eSp)[i]? = some [.sl 1 (z.1.1.map eL), .sl 1 (z.1.2.map eL), .int z.2] := by rw [map_get h', hz]; rfl
        have hle : (B.map eSp).length = B.length := List.length_map _
        simp only [eLL, rootS, eSp, eL, List.map_cons, List.map_nil] at hroot hput
        repeat' (first | with_reducible (first | refine Q1 ?_ | refine Q2 ?_ | refine Q3 ?_ | refine Q4 ?_ | refine Q5 ?_ | refine Q6 ?_ | refine Q7 ?_ | refine Q8 ?_ | refine Q9 ?_ | refine Qa ?_ | refine Qb ?_ | refine Qc ?_ | refine Qd ?_ | refine Qe ?_ | refine Qf ?_) | ((with_reducible refine Qo ?_ ?_); focus rfl) | ((with_reducible first | refine QT 6 (l := ?_) ?_ ?_ | refine QF 6 (l := ?_) ?_ ?_); rotate_left 1; focus (simp only [Zu, Nat.reduceSub, Nat.reduceBEq]; with_reducible rfl)) | ((with_reducible first | refine QS (cfg_ok 41) ((Tab.none.at' 81 hroot).at' 80 hput) (s' := ?_) ?_ ?_ | refine QC (b := ?_) ?_ ?_); rotate_left 1; focus ((with_reducible refine QW ?_); simp only [Zg, seval, if_true, if_false, reduceCtorEq, Nat.reduceEqDiff, i1, i2, hg, hw, hle, Int.toNat_natCast]; with_reducible rfl)) | ((with_reducible refine QD (cfg_ok 41) ((Tab.none.at' 81 hroot).at' 80 hput) mixed_ok (tr := ?_) (s' := ?_) ?_ ?_ ?_); rotate_left 2; (focus ((with_reducible refine QW ?_); simp only [Zg, Zd, seval, if_true, if_false, reduceCtorEq, Nat.reduceEqDiff, i1, i2, hg, hw, hle, Int.toNat_natCast]; with_reducible rfl)); focus ((with_reducible refine QK ?_); simp only [Zk]; kernel_rfl)))
        refine roundK.on (i + 1) ⟨h', by omega⟩ ?_
        rw [hst]
        (repeat' (first | with_reducible refine Qn | ((with_reducible refine Qr ?_ ?_); focus (first | with_reducible rfl | (simp only [Zz, Nat.reduceBEq, rootS]; done) | rfl)) | ((with_reducible refine Qj (o' := ?_) ?_ ?_ ?_); rotate_left 1; focus rfl) | ((with_reducible refine Qw ?_ ?_); (focus (first | with_reducible rfl | (simp only [Zv, rootS]; done))); focus (first | exact id | exact (fun h => nomatch h) | exact (fun _ => rfl)))))
      · have i1 : ((i : Int) < (B.length : Int)) = False := eq_false (by omega)
        obtain rfl : i = B.length := by omega
        rw [List.take_length, hfin]
        repeat' (first | with_reducible (first | refine Q1 ?_ | refine Q2 ?_ | refine Q3 ?_ | refine Q4 ?_ | refine Q5 ?_ | refine Q6 ?_ | refine Q7 ?_ | refine Q8 ?_ | refine Q9 ?_ | refine Qa ?_ | refine Qb ?_ | refine Qc ?_ | refine Qd ?_ | refine Qe ?_ | refine Qf ?_) | ((with_reducible refine Qo ?_ ?_); focus rfl) | ((with_reducible first | refine QT 6 (l := ?_) ?_ ?_ | refine QF 6 (l := ?_) ?_ ?_); rotate_left 1; focus (simp only [Zu, Nat.reduceSub, Nat.reduceBEq]; with_reducible rfl)) | ((with_reducible first | refine QS (cfg_ok 41) Tab.none (s' := ?_) ?_ ?_ | refine QC (b := ?_) ?_ ?_); rotate_left 1; focus ((with_reducible refine QW ?_); simp only [Zg, seval, if_true, if_false, reduceCtorEq, Nat.reduceEqDiff, i1, List.length_map]; with_reducible rfl)) | ((with_reducible refine QD (cfg_ok 41) Tab.none mixed_ok (tr := ?_) (s' := ?_) ?_ ?_ ?_); rotate_left 2; (focus ((with_reducible refine QW ?_); simp only [Zg, Zd, seval, if_true, if_false, reduceCtorEq, Nat.reduceEqDiff, i1, List.length_map]; with_reducible rfl)); focus ((with_reducible refine QK ?_); simp only [Zk]; kernel_rfl)))
        refine roundK.out () trivial ?_
        (repeat' (first | with_reducible refine Qn | ((with_reducible refine Qr ?_ ?_); focus (first | with_reducible rfl | (simp only [Zz, Nat.reduceBEq]; done) | rfl)) | ((with_reducible refine Qj (o' := ?_) ?_ ?_ ?_); rotate_left 1; focus rfl) | ((with_reducible refine Qw ?_ ?_); (focus (first | with_reducible rfl | (simp only [Zv]; done))); focus (first | exact id | exact (fun h => nomatch h) | exact (fun _ => rfl)))))
    · rintro _ _
      repeat' (first | with_reducible (first | refine Q1 ?_ | refine Q2 ?_ | refine Q3 ?_ | refine Q4 ?_ | refine Q5 ?_ | refine Q6 ?_ | refine Q7 ?_ | refine Q8 ?_ | refine Q9 ?_ | refine Qa ?_ | refine Qb ?_ | refine Qc ?_ | refine Qd ?_ | refine Qe ?_ | refine Qf ?_) | ((with_reducible refine Qo ?_ ?_); focus rfl) | ((with_reducible first | refine QT 6 (l := ?_) ?_ ?_ | refine QF 6 (l := ?_) ?_ ?_); rotate_left 1; focus (simp only [Zu, Nat.reduceSub, Nat.reduceBEq]; with_reducible rfl)) | ((with_reducible first | refine QS (cfg_ok 41) Tab.none (s' := ?_) ?_ ?_ | refine QC (b := ?_) ?_ ?_); rotate_left 1; focus ((with_reducible refine QW ?_); simp only [Zg, seval, if_true, if_false, reduceCtorEq, Nat.reduceEqDiff]; with_reducible rfl)) | ((with_reducible refine QD (cfg_ok 41) Tab.none mixed_ok (tr := ?_) (s' := ?_) ?_ ?_ ?_); rotate_left 2; (focus ((with_reducible refine QW ?_); simp only [Zg, Zd, seval, if_true, if_false, reduceCtorEq, Nat.reduceEqDiff]; with_reducible rfl)); focus ((with_reducible refine QK ?_); simp only [Zk]; kernel_rfl)))
      (refine Ends.mk (by simp) (rs := ?_) (ks := ?_) hres hrts ?_ ?_ ?_; rotate_left 2; (focus (simp only [Ze, Zg, seval, if_true, if_false, reduceCtorEq, Nat.reduceEqDiff]; with_reducible rfl)); (focus simp); focus (first | with_reducible rfl | (simp only [Zv]; done)))
end Go.Proofs.Ytkdkikmhlhcndaa
namespace Go.Proofs.Ytkdkikmhlhcndaa
open Go.RowKit Go.Shelf
theorem flatMap_getG {α β : Type} (enc : α → List β) (k : Nat) (hk : ∀ x, (enc x).length = k) (hp : 0 < k) : ∀ (l : List α) (t : Nat), (l.flatMap enc)[t]? = (l[t / k]?).bind fun x => (enc x)[t % k]?
  | [], t => by simp
  | x :: l, t => by
    rw [List.flatMap_cons]
    by_cases h : t < k
    · rw [List.getElem?_append_left (by rw [hk]; exact h), Nat.div_eq_of_lt h, Nat.mod_eq_of_lt h]; rfl
    · rw [List.getElem?_append_right (by rw [hk]; omega), hk, flatMap_getG enc k hk hp l (t - k)]
      have e1 : t / k = (t - k) / k + 1 := by rw [Nat.div_eq_sub_div hp (by omega)]
      have e2 : t % k = (t - k) % k := Nat.mod_eq_sub_mod (by omega)
      rw [e1, e2, List.getElem?_cons_succ]
theorem flatK_listG {α : Type} [Inhabited α] (enc : α → List Value) (k : Nat) (hk : ∀ x, (enc x).length = k) (hp : 0 < k) (d : Array α) : (Go.Sort.flatK enc k d).toList = d.toList.flatMap enc := by
  have hl : ∀ (l : List α), (l.flatMap enc).length = l.length * k := by
    intro l
    induction l with
    | nil => simp
    | cons x l ih => rw [List.flatMap_cons, List.length_append, hk, ih, List.length_cons, Nat.succ_mul]; omega
  refine List.ext_getElem? fun t => ?_
  by_cases h : t < d.size * k
  · have hs : t < (Go.Sort.flatK enc k d).toList.length := by simpa using h
    have hq : t / k < d.size := Nat.div_lt_of_lt_mul (by rw [Nat.mul_comm]; exact h)
    rw [flatMap_getG enc k hk hp, List.getElem?_eq_getElem hs]
    have e1 := Go.Sort.get_flatK enc k d t h
    rw [getElem!_pos (Go.Sort.flatK enc k d) t (by simpa using h), getElem!_pos d (t / k) hq] at e1
    have hm : t % k < (enc d[t / k]).length := by rw [hk]; exact Nat.mod_lt _ hp
    rw [getElem!_pos (enc d[t / k]) (t % k) hm] at e1
    rw [List.getElem?_eq_getElem (by simpa using hq), Option.bind_some]
    simp only [Array.getElem_toList]
    rw [List.getElem?_eq_getElem hm, e1]
  · rw [List.getElem?_eq_none (by simpa using h), List.getElem?_eq_none (by rw [hl]; simpa using h)]
section
variable {α : Type} [Inhabited α] (enc : α → List Value) (k : Nat) (w : World) (blk m : Nat) (dk : Array α) (os : Array Go.Obj)
theorem sg_block {b : Nat} (hne : b ≠ blk) (hb : b < w.heap.size) : (sortWorldK enc k w blk 0 m dk os).heap[b]? = w.heap[b]? := by
  show ((w.heap.modify blk _) ++ os)[b]? = _
  rw [Array.getElem?_append_left (by simpa using hb), Array.getElem?_modify, if_neg (fun e => hne e.symm)]
theorem sg_size : w.heap.size ≤ (sortWorldK enc k w blk 0 m dk os).heap.size := by
  show _ ≤ ((w.heap.modify blk _) ++ os).size
  simp
theorem sg_row {n cap : Nat} {ds : List Value} (h : Row w (slv (some blk) n cap) k n ds (some blk)) (hs : dk.size = n) (hlt : blk < w.heap.size) :
    Row (sortWorldK enc k w blk 0 m dk os) (slv (some blk) n cap) k n (Go.Sort.flatK enc k dk).toList (some blk) := by
  obtain ⟨h0, h⟩ := h
  rcases h with ⟨_, _, h⟩ | ⟨g, cap', cur, e, hv, hg, hh, hc1, hc2, hc3, hc4⟩
  · cases h
  · cases hg
    refine ⟨by simp [hs], .inr ⟨blk, cap', Sort.putCells id 0 (Go.Sort.flatK enc k dk) cur, e, hv, rfl, ?_, hc1, hc2, by simpa [Sort.putCells] using hc3, ?_⟩⟩
    · show ((w.heap.modify blk _) ++ os)[blk]? = _
      rw [Array.getElem?_append_left (by simpa using hlt), Array.getElem?_modify, if_pos rfl, hh]
      rfl
    · have hle : n * k ≤ cap' * k := Nat.mul_le_mul_right k hc1
      refine List.ext_getElem? fun t => ?_
      by_cases ht : t < n * k
      · rw [List.getElem?_take_of_lt ht, List.getElem?_eq_getElem (by simp [Sort.putCells]; omega), List.getElem?_eq_getElem (by simp [hs]; omega)]
        simp only [Array.getElem_toList, Sort.putCells, Array.getElem_mapIdx, id]
        rw [if_pos ⟨Nat.zero_le _, by simp [hs]; omega⟩, Nat.sub_zero, getElem!_pos _ t (by simp [hs]; omega)]
      · rw [List.getElem?_eq_none (by simp; omega), List.getElem?_eq_none (by simp [hs]; omega)]
end
abbrev ElC {β : Type} (e : β → List D) (ok : β → Prop) (A : Nat → Prop) (w : World) : Type := { x : List Value × β // rdCs A w x.1 (e x.2) ∧ ok x.2 }
theorem elc_of {β : Type} {e : β → List D} {ok : β → Prop} {A : Nat → Prop} {w : World} {k : Nat} : ∀ {zs : List β} {ds : List Value}, rdR k A w ds (zs.map e) → (∀ z ∈ zs, ok z) → ∃ xs : List (ElC e ok A w), ds = xs.flatMap (·.1.1) ∧ zs = xs.map (·.1.2)
  | [], ds, h, _ => ⟨[], by have := h.len; simpa using this, rfl⟩
  | z :: zs, ds, h, hz => by
    obtain ⟨c, e', rfl, hy, hc, k1, k2⟩ := h.cons_inv
    obtain ⟨xs, e1, e2⟩ := elc_of k2 (fun z hz' => hz z (by simp [hz']))
    exact ⟨⟨(c, z), k1, hz z (by simp)⟩ :: xs, by rw [e1]; rfl, congrArg (z :: ·) e2⟩
theorem elc_to {β : Type} {e : β → List D} {ok : β → Prop} {A : Nat → Prop} {w w' : World} {k : Nat} (hkp : 0 < k) (hk : ∀ z, (e z).length = k) (hf : ∀ b, A b → b < w.heap.size → w'.heap[b]? = w.heap[b]?) : ∀ (xs : List (ElC e ok A w)), rdR k A w' (xs.flatMap (·.1.1)) ((xs.map (·.1.2)).map e)
  | [] => rdR.nil hkp
  | x :: xs => by
    have h1 := x.2.1.frame hf
    have h2 := elc_to hkp hk hf xs
    rw [List.flatMap_cons]
    exact (rdR.single hkp (hk x.1.2) h1).append h2
section
variable {P : Program} {ρ : Ren} (L : SlLaysF0.n6 P ρ) {β κ : Type} (e : β → List D) {k : Nat} (hkp : 0 < k) (hk : ∀ z, (e z).length = k) (aE : ∀ w, (isAgg (ρ.t 24)).run P w = .ok true w) (zE : ∀ w, (Go.sizeOf (ρ.t 24)).run P w = .ok k w)
  {c : κ → κ → Int} (hc : Cmp c) (key : β → κ) (ok : β → Prop) (z0 : β) (u0 : List Value) (h0 : ∀ A w, rdCs A w u0 (e z0)) (hz0 : ok z0) (g : Nat) (eg : ∀ args w, (callFunc g args).run P w = .ok (.enter g args) w)
  (hcmp : ∀ (W : World) (A : Nat → Prop) (x y : β) (us vs : List Value), (∀ b, A b → b < W.heap.size) → ok x → ok y → rdCs A W us (e x) → rdCs A W vs (e y) →
      Calls P g #[.agg us.toArray, .agg vs.toArray] W fun e w' => e = .returned (.int .i64 (c (key x) (key y))) ∧ ∃ q os', w' = Sort.grow (W.drewN q) os')
include L hkp hk aE zE hc h0 hz0 eg hcmp
set_option maxHeartbeats 1000000 in
theorem a_SortG (call : ∀ args w, (callFunc (ρ.f 6) args).run P w = .ok (.enter (ρ.f 6) args) w) (zs : List β) (hok : ∀ z ∈ zs, ok z) (hn : zs.length ≤ 1000000000) :
    AEf P (ρ.f 6) false [] k (zs.map e) [[.raw (.func (.func g) #[] #[])]] (fun rs oc => rs = [] ∧ ∃ zs' : List β, oc = some (zs'.map e) ∧ zs'.Perm zs ∧ zs'.Pairwise (fun a b => c (key a) (key b) ≤ 0)) := by
  refine ⟨call, fun A w vs us og cap ds hA hv hu hrow _ hel hog => ?_⟩
  have hv : vs = [] := hv
  subst hv
  obtain ⟨u, us', rfl, hu1, hu2⟩ := hu
  have hu2 : us' = [] := hu2
  subst hu2
  have hu1 : u = .func (.func g) #[] #[] := (rdV_raw.1 hu1).1
  subst hu1
  have fin : ∀ w' (zs' : List β) ds', zs'.Perm zs → zs'.Pairwise (fun a b => c (key a) (key b) ≤ 0) → Row w' (slv og zs.length cap) k zs.length ds' og → rdR k A w' ds' (zs'.map e) → Bel ⟨w, fun b => og = some b⟩ w' →
      ∃ v rs oc, (Ending.returned (.tuple #[]) : Ending) = .returned v ∧ (rs = [] ∧ ∃ zs' : List β, oc = some (zs'.map e) ∧ zs'.Perm zs ∧ zs'.Pairwise (fun a b => c (key a) (key b) ≤ 0)) ∧ Bel ⟨w, fun b => og = some b⟩ w' ∧
        relOut A (fun b => w.heap.size ≤ b ∨ (oc = none ∧ og = some b)) w' rs v ∧ Left A w' og cap k oc ∧ ∀ ys, oc = some ys → ys.length = zs.length := by
    intro w' zs' ds' hp hso hrow' hrd' hb
    have hl : (zs'.map e).length = (zs.map e).length := by rw [List.length_map, List.length_map, hp.length_eq]
    refine ⟨.tuple #[], [], some (zs'.map e), rfl, ⟨rfl, zs', rfl, hp, hso⟩, hb, ⟨[], [], [], rfl, List.nodup_nil, by simp, rfl, rfl, rfl⟩, ⟨ds', ?_, hrd'⟩, fun ys e => by cases e; rw [hl, List.length_map]⟩
    rw [hl, List.length_map]
    exact hrow'
  rw [List.length_map] at hrow ⊢
  cases og with
  | none =>
    have hz : zs = [] := List.eq_nil_of_length_eq_zero hrow.len0
    subst hz
    refine (AnyF.slices_SortFunc_none L none 0 _ w).mono ?_
    rintro e' w' ⟨rfl, rfl⟩
    exact fin w' [] ds (List.Perm.refl _) List.Pairwise.nil hrow hel ⟨rfl, rfl, rfl, Nat.le_refl _, fun _ _ _ => rfl⟩
  | some blk =>
    haveI : Inhabited (ElC e ok A w) := ⟨⟨(u0, z0), h0 A w, hz0⟩⟩
    obtain ⟨xs, e1, e2⟩ := elc_of hel hok
    have hlen : xs.toArray.size = zs.length := by rw [e2]; simp
    have hlt := hrow.lt blk rfl
    have hek : ∀ x : ElC e ok A w, x.1.1.length = k := fun x => by rw [x.2.1.len, hk]
    have hH : Go.Sort.HoldsK (fun x : ElC e ok A w => x.1.1) k w blk 0 xs.toArray := fun j hj => by
      rw [Nat.zero_add]
      refine ⟨?_, hrow.frozen j⟩
      have hf := flatK_listG (fun x : ElC e ok A w => x.1.1) k hek hkp xs.toArray
      rw [List.toList_toArray] at hf
      rw [getElem!_pos _ j hj]
      refine hrow.cells j _ ?_
      rw [e1, ← hf, List.getElem?_eq_getElem (by simpa using hj)]
      simp
    have hswo : Go.Sort.SWO (ltOf fun x y : ElC e ok A w => c (key x.1.2) (key y.1.2)) :=
      { irrefl := fun x => decide_eq_false (by show ¬ c _ _ < 0; rw [hc.refl]; omega)
        trans := fun x y z h1 h2 => decide_eq_true (by
          have h1 : c (key x.1.2) (key y.1.2) < 0 := of_decide_eq_true h1
          have h2 : c (key y.1.2) (key z.1.2) < 0 := of_decide_eq_true h2
          have a1 := hc.anti (key x.1.2) (key y.1.2)
          have a2 := hc.anti (key y.1.2) (key z.1.2)
          have a3 := hc.anti (key z.1.2) (key x.1.2)
          have a4 := hc.anti (key x.1.2) (key z.1.2)
          have t1 := hc.trans (key x.1.2) (key y.1.2) (key z.1.2) (by omega) (by omega)
          rcases Int.lt_or_eq_of_le t1 with t | t
          · exact t
          · have e3 := hc.zero _ _ t
            rw [e3] at h1
            omega)
        ntrans := fun x y z h1 h2 => decide_eq_false (by
          have h1 : ¬ c (key x.1.2) (key y.1.2) < 0 := of_decide_eq_false h1
          have h2 : ¬ c (key y.1.2) (key z.1.2) < 0 := of_decide_eq_false h2
          show ¬ c (key x.1.2) (key z.1.2) < 0
          intro h
          have a1 := hc.anti (key x.1.2) (key y.1.2)
          have a2 := hc.anti (key y.1.2) (key z.1.2)
          have := hc.trans (key z.1.2) (key y.1.2) (key x.1.2) (by have := hc.anti (key y.1.2) (key z.1.2); omega) (by have := hc.anti (key x.1.2) (key y.1.2); omega)
          have a3 := hc.anti (key x.1.2) (key z.1.2)
          omega) }
    have hC : CmpLays P g #[] (fun x : ElC e ok A w => x.1.1) k (fun x y : ElC e ok A w => c (key x.1.2) (key y.1.2)) blk 0 xs.toArray.size w := fun m os dk _ x y => by
      have hfr : ∀ b, A b → b < w.heap.size → (sortWorldK (fun x : ElC e ok A w => x.1.1) k w blk 0 m dk os).heap[b]? = w.heap[b]? := fun b hb hl => sg_block _ k w blk m dk os (fun e => hog b (by rw [e]) hb) hl
      exact hcmp _ A x.1.2 y.1.2 _ _ (fun b hb => Nat.lt_of_lt_of_le (hA b hb) (sg_size _ k w blk m dk os)) x.2.2 y.2.2 (x.2.1.frame hfr) (y.2.1.frame hfr)
    have hs := AnyQ.slices_SortFunc L k aE zE (fun x : ElC e ok A w => x.1.1) hek (fun x v hv => x.2.1.one v hv) (fun x y : ElC e ok A w => c (key x.1.2) (key y.1.2)) hswo g #[] blk 0 cap xs.toArray w eg hC hH hlt (by rw [hlen]; omega)
    rw [hlen] at hs
    have hm := Calls.mono hs (R' := fun e' w' => ∃ v rs oc, e' = .returned v ∧ (rs = [] ∧ ∃ zs' : List β, oc = some (zs'.map e) ∧ zs'.Perm zs ∧ zs'.Pairwise (fun a b => c (key a) (key b) ≤ 0)) ∧ Bel ⟨w, fun b => some blk = some b⟩ w' ∧
        relOut A (fun b => w.heap.size ≤ b ∨ (oc = none ∧ some blk = some b)) w' rs v ∧ Left A w' (some blk) cap k oc ∧ ∀ ys, oc = some ys → ys.length = zs.length) ?_
    · exact hm
    rintro e' w' ⟨rfl, d', n, os, ⟨hp1, _, hp3⟩, hsd, rfl⟩
    have hd : d'.size = zs.length := by rw [hp1, hlen]
    refine fin _ (d'.toList.map (·.1.2)) _ ?_ ?_ (sg_row _ k w blk n d' os hrow hd hlt) ?_ ⟨rfl, rfl, rfl, sg_size _ k w blk n d' os, fun b hb hne => sg_block _ k w blk n d' os (fun e => hne (by rw [e])) hb⟩
    · rw [e2]
      refine List.Perm.map _ ?_
      rw [← hlen] at hp3
      rw [show d'.extract 0 xs.toArray.size = d' by rw [← hp1]; simp, show xs.toArray.extract 0 xs.toArray.size = xs.toArray by simp, List.toList_toArray] at hp3
      exact hp3
    · rw [List.pairwise_iff_getElem]
      intro i j hi hj hij
      have hi' : i < d'.size := by simpa using hi
      have hj' : j < d'.size := by simpa using hj
      have h1 := hsd i j (Nat.zero_le _) hij (by omega)
      rw [getElem!_pos d' i hi', getElem!_pos d' j hj'] at h1
      have h1 : ¬ c (key d'[j].1.2) (key d'[i].1.2) < 0 := of_decide_eq_false h1
      have h2 := hc.anti (key d'[j].1.2) (key d'[i].1.2)
      simp only [List.getElem_map, Array.getElem_toList]
      omega
    · rw [flatK_listG _ k hek hkp]
      exact elc_to hkp hk (fun b hb hl => sg_block _ k w blk n d' os (fun e => hog b (by rw [e]) hb) hl) d'.toList
end
end Go.Proofs.Ytkdkikmhlhcndaa
namespace Go.Proofs.Ytkdkikmhlhcndaa
open Go.RowKit
def PlainC : List D → List D → Prop
  | [], x' => x' = []
  | x :: xs, x' => ∃ y ys, x' = y :: ys ∧ (isSl x = false → y = x) ∧ PlainC xs ys
def PlainL : List (List D) → List (List D) → Prop
  | [], x' => x' = []
  | x :: xs, x' => ∃ y ys, x' = y :: ys ∧ PlainC x y ∧ PlainL xs ys
theorem tagC_of' {A : Nat → Prop} {w : World} : ∀ {x : List D} {cs : List Value} {F : List Nat}, ownCs w cs x F → (∀ b ∈ F, A b) → ∃ x', TagC x x' F ∧ PlainC x x' ∧ rdCs A w cs x'
  | [], cs, F, h, _ => by
    obtain ⟨d, h1, h2⟩ := h
    exact ⟨[], ⟨rfl, h2⟩, rfl, by rw [h1]; exact rdCs.nil⟩
  | x :: xs, cs, F, h, hA => by
    obtain ⟨v, us, G, H, rfl, rfl, h1, h2⟩ := h.cons_inv
    obtain ⟨ys, h3, h5, h4⟩ := tagC_of' h2 (fun b hb => hA b (List.mem_append_right _ hb))
    cases hx : isSl x with
    | true =>
      exact ⟨.tag G x :: ys, ⟨_, _, G, H, rfl, rfl, .inl rfl, h3⟩, ⟨_, _, rfl, (fun e => by rw [hx] at e; cases e), h5⟩, rdCs.cons (rdV_tag.2 ⟨fun b hb => hA b (List.mem_append_left _ hb), h1⟩) h4⟩
    | false =>
      have hG := ownV_scal_nil hx h1
      subst hG
      exact ⟨x :: ys, ⟨_, _, [], H, rfl, rfl, .inr ⟨hx, rfl, rfl⟩, h3⟩, ⟨_, _, rfl, (fun _ => rfl), h5⟩, rdCs.cons (h1.rd.mono (fun b hb _ => by cases hb)) h4⟩
theorem tagL_of' {A : Nat → Prop} {w : World} {k : Nat} (hk : 0 < k) : ∀ {xs : List (List D)} {ds : List Value} {F : List Nat}, ownR k w ds xs F → (∀ b ∈ F, A b) → ∃ xs', TagL xs xs' F ∧ PlainL xs xs' ∧ rdR k A w ds xs'
  | [], ds, F, h, _ => by
    obtain ⟨d, _, h1, h2⟩ := h
    exact ⟨[], ⟨rfl, h2⟩, rfl, by rw [h1]; exact rdR.nil hk⟩
  | x :: xs, ds, F, h, hA => by
    obtain ⟨c, e, G, H, rfl, rfl, hx, hc, h1, h2⟩ := h.cons_inv
    obtain ⟨y, k1, k5, k2⟩ := tagC_of' h1 (fun b hb => hA b (List.mem_append_left _ hb))
    obtain ⟨ys, k3, k6, k4⟩ := tagL_of' hk h2 (fun b hb => hA b (List.mem_append_right _ hb))
    exact ⟨y :: ys, ⟨y, ys, G, H, rfl, rfl, k1, k3⟩, ⟨_, _, rfl, k5, k6⟩, (rdR.single hk (by rw [k1.len, hx]) k2).append k4⟩
section
variable {P : Program} {cfg : Cfg} {M : Nat → Prop} {ops : Array Oper} {s : St} {w0 : W0} {w : World} {Ok : Nat → Prop} {N : Nat} {σ : Asg} {a : Act} {fs : List Fr} {Q : Exit → St → Prop}
theorem Sim.tagO' (h : Sim w0 Ok N σ s a w) {key k : Nat} {xs : List (List D)} (hk : look key s.heap = some (.row k xs true)) :
    ∃ xs' F, TagL xs xs' F ∧ PlainL xs xs' ∧ F.Nodup ∧ (∀ b ∈ F, w0.mine b) ∧ Sim w0 Ok N σ ⟨s.regs, insR key (.row k xs' false) s.heap⟩ a w := by
  have hro := h.rows key _ hk
  obtain ⟨ds, hrow, hkp, hel⟩ := hro.row
  have hel : ownR k w ds xs (σ.F key) := hel
  have hfp : fp σ key (.row k xs true) = (σ.g key).toList ++ σ.F key := rfl
  obtain ⟨xs', ht, hpl, hrd⟩ := tagL_of' (A := Zn σ s.heap w) hkp hel (RowOK.Fz h.ok1 h.rows h.disj hk rfl)
  refine ⟨xs', σ.F key, ht, hpl, ?_, fun b hb => hro.fresh b (by rw [hfp]; exact List.mem_append_right _ hb), ?_⟩
  · have := hro.nodup; rw [hfp] at this; exact (List.nodup_append.1 this).2.1
  have hl : ∀ q o', look q (insR key (.row k xs' false) s.heap) = some o' → ∃ o, look q s.heap = some o ∧ o.k = o'.k ∧ o.len = o'.len ∧ (∀ b ∈ fp σ q o', b ∈ fp σ q o) ∧ (q = key ∧ o' = .row k xs' false ∨ q ≠ key ∧ o' = o) := by
    intro q o' ho'
    rw [look_ins] at ho'
    split at ho'
    · rename_i e
      subst e
      cases ho'
      refine ⟨_, hk, rfl, ht.len.symm, fun b hb => ?_, .inl ⟨rfl, rfl⟩⟩
      have hb : b ∈ (σ.g key).toList ++ [] := hb
      rw [hfp]
      rw [List.append_nil] at hb
      exact List.mem_append_left _ hb
    · rename_i e
      exact ⟨o', ho', rfl, rfl, fun _ hb => hb, .inr ⟨fun e' => e e'.symm, rfl⟩⟩
  have hZ : Kept σ σ s.heap (insR key (.row k xs' false) s.heap) w w := fun b hb => ⟨⟨hb.1, hb.2.1, fun q o' ho' => by obtain ⟨o, ho, _⟩ := hl q o' ho'; exact hb.2.2 q o ho⟩, rfl⟩
  have hst : ∀ q, Stays σ σ s.heap (insR key (.row k xs' false) s.heap) q := fun q o' ho' => by obtain ⟨o, ho, h1, h2, _⟩ := hl q o' ho'; exact ⟨o, ho, h1, h2, rfl, rfl⟩
  refine h.step rfl h.below hZ (fun r av hr => ⟨av, hr, .inl ⟨rfl, fun q _ => hst q⟩⟩) (fun q o' ho' => ?_) (fun p o1 q u hp hq hpq b hb hb' => ?_)
  · obtain ⟨o, ho, h1, h2, h3, h4⟩ := hl q o' ho'
    rcases h4 with ⟨rfl, rfl⟩ | ⟨hq, rfl⟩
    · obtain rfl : o = .row k xs true := by rw [hk] at ho; cases ho; rfl
      refine ⟨⟨ds, ?_, hkp, ?_⟩, fun b hb => hro.fresh b (h3 b hb), ?_⟩
      · show Row w (slv (σ.g q) xs'.length (σ.cap q)) k xs'.length ds (σ.g q)
        rw [ht.len]; exact hrow
      · show rdR k _ w ds xs'
        exact hrd.mono (fun b hb _ => (hZ b hb).1)
      · have hn := hro.nodup
        rw [hfp] at hn
        show ((σ.g q).toList ++ []).Nodup
        rw [List.append_nil]
        exact (List.nodup_append.1 hn).1
    · exact RowOK.keep h.ok1 h.rows h.disj ho hZ (fun q' _ => hst q') rfl rfl rfl (fun _ _ => rfl)
  · obtain ⟨o2, ho2, _, _, h3, _⟩ := hl p o1 hp
    obtain ⟨u2, hu2, _, _, h4, _⟩ := hl q u hq
    exact h.disj p o2 q u2 ho2 hu2 hpq b (h3 b hb) (h4 b hb')
theorem RunK.tag' {c : Code} (key : Nat) {k : Nat} {xs : List (List D)} (hk : look key s.heap = some (.row k xs true)) (h : ∀ xs' F, TagL xs xs' F → PlainL xs xs' → F.Nodup → (∀ b ∈ F, M b) → RunK P cfg M c fs Q ⟨s.regs, insR key (.row k xs' false) s.heap⟩) : RunK P cfg M c fs Q s := by
  intro w0 Ok σ a w Q' hM hS hQ
  obtain ⟨xs', F, h1, h5, h2, h3, h4⟩ := Sim.tagO' hS hk
  exact h xs' F h1 h5 h2 (fun b hb => hM ▸ h3 b hb) w0 Ok σ a w Q' hM h4 hQ
end
section
variable {P : Program} {cfg : Cfg} {M : Nat → Prop} {ops : Array Oper} {s : St}
theorem ROps.callEf (C : CfgOK P cfg) {o : Oper} {l : List Oper} {Q : St → Prop} (hg : o.guard = none) {d : Nat} (hod : o.dst = some d) (hdN : d < cfg.N) {f : Operand} {args : Array Operand} {ts : Array TypeId} {g : FuncId}
    (ho : o.op = .call ⟨.value f, args, ts⟩) (hf : ((opv s.regs f).bind avD).bind fnId = some g) {x : Operand} {xpost : List Operand} {tpost : List TypeId} (ha : args.toList = x :: xpost) {t0 : TypeId} (hts : ts.toList = t0 :: tpost) {post : List (List D)}
    (hpost : aargs cfg (fun k => look k s.heap) s.regs xpost tpost = some post) (hr2 : opRefs s.regs xpost = []) {key n k : Nat} {xs : List (List D)} (hxv : opv s.regs x = some (.c (.own key n))) (hk : look key s.heap = some (.row k xs false))
    (hnr : ∀ q u, q ≠ key → look q s.heap = some u → key ∉ u.refs) {Q0 : List Res → Option (List (List D)) → Prop} (hfn : AEf P g false [] k xs post Q0) {R : List (List D) → Prop} (hQ0 : ∀ rs oc, Q0 rs oc → rs = [] ∧ ∃ ys, oc = some ys ∧ R ys)
    (h : ∀ ys, R ys → ROps P cfg M ops l Q ⟨insR d (.tup []) s.regs, insR key (.row k ys false) s.heap⟩) : ROps P cfg M ops (o :: l) Q s := by
  intro w0 Ok σ a w Q' hM hS hQ
  refine wpList_step (fun K hK => ?_)
  have hw : awanted ops s.regs o = some true := by unfold awanted; rw [hg]
  rw [awanted_spec hS hw]
  simp only [if_true]
  refine n_callE C hS ho hf (ptr := false) (xpre := []) (tpre := []) (pre := []) (by rw [ha]; rfl) rfl hpost rfl hr2 hxv hk (fun e => nomatch e) hnr hfn (dk := d) (fun rs oc hq q ob hl => ?_) (fun rs oc hq v w' σ' hv hS' => ?_)
  · obtain ⟨rfl, _⟩ := hQ0 _ _ hq
    cases hl
  · obtain ⟨rfl, ys, rfl, hR⟩ := hQ0 _ _ hq
    rw [hod]
    have hsub : ∀ q o', look q (insR key (.row k ys false) s.heap) = some o' → look q (heapE key k (some ys) [] s.heap) = some o' := by
      intro q o' hq
      rw [look_ins] at hq
      unfold heapE
      rw [List.nil_append, look_append, look_left]
      simp only
      by_cases e : key = q
      · rw [if_pos e]; rw [if_pos e] at hq; exact hq
      · rw [if_neg e]
        rw [if_neg e] at hq
        rw [look_drop, if_neg (fun h => e h.symm)]
        exact hq
    have hR' : Sim w0 Ok cfg.N σ' ⟨s.regs, heapE key k (some ys) [] s.heap⟩ a w' := hS'
    exact hK _ _ (h ys hR w0 Ok σ' _ _ Q' hM (Sim.ins (hR'.forget (fun _ _ h => h) hsub) hdN (hv.sub hsub)) hQ)
end
end Go.Proofs.Ytkdkikmhlhcndaa
namespace Go.Proofs.Ytkdkikmhlhcndaa
open Go.RowKit
theorem exists_not {l : List Nat} : ∃ k, k ∉ l := by
  have key : ∀ (l : List Nat), ∀ x ∈ l, x ≤ l.sum := by
    intro l
    induction l with
    | nil => intro x hx; cases hx
    | cons y l ih =>
      intro x hx
      rw [List.sum_cons]
      rcases List.mem_cons.1 hx with rfl | hx
      · omega
      · have := ih x hx; omega
  exact ⟨l.sum + 1, fun h => by have := key l _ h; omega⟩
theorem exists_free (s : St) : ∃ k, Free s k := by
  obtain ⟨k, hk⟩ := exists_not (l := s.heap.map (·.1) ++ s.regs.flatMap (·.2.refs) ++ s.heap.flatMap (·.2.refs))
  simp only [List.mem_append, not_or] at hk
  obtain ⟨⟨h1, h2⟩, h3⟩ := hk
  refine ⟨k, ?_, fun r av hr hm => h2 (List.mem_flatMap.2 ⟨_, look_all hr, hm⟩), fun q u hq hm => h3 (List.mem_flatMap.2 ⟨_, look_all hq, hm⟩)⟩
  cases e : look k s.heap with
  | none => rfl
  | some o => exact absurd (List.mem_map.2 ⟨_, look_all e, rfl⟩) h1
theorem AC.frz_id {key k : Nat} {xs : List (List D)} {x : AC} (h : key ∉ x.refs) : x.frz key k xs = x := by
  cases x with
  | own q n => simp only [AC.refs, List.mem_singleton] at h; simp only [AC.frz]; rw [if_neg (fun e => h e.symm)]
  | view q i n => simp only [AC.refs, List.mem_singleton] at h; simp only [AC.frz]; rw [if_neg (fun e => h e.symm)]
  | _ => rfl
theorem acs_frz_id {key k : Nat} {xs : List (List D)} : ∀ {cs : List AC}, key ∉ cs.flatMap AC.refs → cs.map (AC.frz key k xs) = cs
  | [], _ => rfl
  | c :: cs, h => by
    rw [List.flatMap_cons, List.mem_append, not_or] at h
    rw [List.map_cons, AC.frz_id h.1, acs_frz_id h.2]
theorem AV.frz_id {key k : Nat} {xs : List (List D)} {x : AV} (h : key ∉ x.refs) : x.frz key k xs = x := by
  cases x with
  | c x => simp only [AV.frz]; rw [AC.frz_id h]
  | eptr => rfl
  | optr q i j => simp only [AV.refs, List.mem_singleton] at h; simp only [AV.frz]; rw [if_neg (fun e => h e.symm)]
  | agg cs => simp only [AV.frz]; rw [acs_frz_id h]
  | tup cs => simp only [AV.frz]; rw [acs_frz_id h]
  | dead => rfl
theorem Obj.frz_id {key k : Nat} {xs : List (List D)} {o : Obj} (h : key ∉ o.refs) : o.frz key k xs = o := by
  cases o with
  | row => rfl
  | lit k' css =>
    simp only [Obj.frz]
    congr 1
    have h : key ∉ css.flatMap (·.flatMap AC.refs) := h
    have : ∀ css : List (List AC), key ∉ css.flatMap (·.flatMap AC.refs) → css.map (·.map (AC.frz key k xs)) = css := by
      intro css
      induction css with
      | nil => intro _; rfl
      | cons c css ih =>
        intro h
        rw [List.flatMap_cons, List.mem_append, not_or] at h
        rw [List.map_cons, acs_frz_id h.1, ih h.2]
    exact this css h
section
variable {P : Program} {cfg : Cfg} {M : Nat → Prop} {ops : Array Oper} {s s' : St} {w0 : W0} {w : World} {Ok : Nat → Prop} {N : Nat} {σ : Asg} {a : Act} {fs : List Fr} {Q : Exit → St → Prop} {T : Tab P}
def devalB (cfg : Cfg) (ops : Array Oper) (o : Oper) (s : St) : Option Tel :=
  match o.op with
  | .buildSlice t len parts => if dstOK cfg o = true ∧ awanted ops s.regs o = some true then
      o.dst.bind fun d => (cfg.sl t).bind fun i => if len = parts.size ∧ len * i.z.length ≤ 16777216 then (aparts s.regs 0 parts.toList).bind fun css => (rowsD i.z css).map fun r => ⟨⟨d, .c (.val (.sl i.z.length r.1)), []⟩, opRefs s.regs o.op.operands.toList⟩ else Option.none
    else Option.none
  | _ => Option.none
theorem Does1.lit (C : CfgOK P cfg) {i : Nat} {o : Oper} (hi : ops[i]? = some o) {t : Tel} (h : devalB cfg ops o s = some t) : Does1 P cfg ops i s t := by
  unfold devalB at h
  split at h
  · rename_i ty len parts hop
    split at h
    · rename_i hc
      obtain ⟨d, hd, h⟩ := bind_some h
      obtain ⟨it, hit, h⟩ := bind_some h
      split at h
      · rename_i hsz
        obtain ⟨css, hcss, h⟩ := bind_some h
        obtain ⟨⟨xs, b⟩, hr, rfl⟩ := map_some h
        refine ⟨o, hi, hd, fun s' h1 h2 h3 w0 Ok σ a w K Q hS hK => ?_⟩
        have hw : awanted ops s'.regs o = some true := by rw [awanted_congr h1, hc.2]
        have hopl : o.op.operands.toList = parts.toList.map (·.2) := by rw [hop]; rfl
        have hag := agree_of (xs := o.op.operands.toList) (fun x hx => hx) h1 h2
        rw [hopl] at hag
        have hcss' : aparts s'.regs 0 parts.toList = some css := by rw [aparts_congr hag, hcss]
        obtain ⟨q, hq⟩ := exists_free s'
        have hmk : mkObj it.z css = some (.row it.z.length xs b) := by unfold mkObj; rw [hr]
        have ha : anew cfg (fun k => look k s'.heap) s'.regs q o.op = some (.c (.own q len), [(q, .row it.z.length xs b)]) := by
          rw [hop]
          simp only [anew, hit, Option.bind_some]
          rw [if_pos hsz, hcss']
          simp only [Option.bind_some, hmk, Option.map_some]
        unfold wpOp
        simp only [hi, awanted_spec hS hw, if_true]
        left
        have hdN : d < cfg.N := by have := hc.1; rw [dstOK, hd] at this; simpa using this
        refine anew_doesF C hS (news := [(q, .row it.z.length xs b)]) (av := .c (.own q len)) ha (fun p ob hp => ?_) _ _ (fun v w' σ' hv hS' => ?_)
        · have hp : (if q = p then some (Obj.row it.z.length xs b) else none) = some ob := hp
          split at hp
          · rename_i e; subst e; exact hq
          · cases hp
        · rw [hd]
          have hS1 := Sim.ins hS' hdN hv
          have hS2 := Sim.frz hS1 q
          refine hK σ' _ _ ?_
          have hlq : look q (⟨insR d (.c (.own q len)) s'.regs, [(q, Obj.row it.z.length xs b)] ++ s'.heap⟩ : St).heap = some (.row it.z.length xs b) := by show look q ((q, Obj.row it.z.length xs b) :: s'.heap) = _; rw [look, if_pos rfl]
          have e : (⟨insR d (.c (.own q len)) s'.regs, [(q, Obj.row it.z.length xs b)] ++ s'.heap⟩ : St).frz q = ⟨frzR q it.z.length xs (insR d (.c (.own q len)) s'.regs), frzH q it.z.length xs (drop q ([(q, Obj.row it.z.length xs b)] ++ s'.heap))⟩ := by
            unfold St.frz; rw [hlq]
          rw [e] at hS2
          refine hS2.forget (fun r av hr => ?_) (fun k o' ho' => ?_)
          · have hr : look r (insR d (.c (.val (.sl it.z.length xs))) s'.regs) = some av := hr
            rw [look_ins] at hr
            show look r (frzR q it.z.length xs (insR d (.c (.own q len)) s'.regs)) = _
            rw [look_frzR, look_ins]
            by_cases er : d = r
            · rw [if_pos er] at hr ⊢
              cases hr
              show some (AV.c (if q = q then AC.val (.sl it.z.length xs) else AC.own q len)) = _
              rw [if_pos rfl]
            · rw [if_neg er] at hr ⊢
              rw [hr]
              show some (av.frz q it.z.length xs) = _
              rw [AV.frz_id (hq.2.1 r av hr)]
          · have ho' : look k s'.heap = some o' := ho'
            show look k (frzH q it.z.length xs (drop q ((q, Obj.row it.z.length xs b) :: s'.heap))) = _
            have hkq : k ≠ q := by rintro rfl; rw [hq.1] at ho'; cases ho'
            rw [look_frzH, look_drop, if_neg hkq, look, if_neg (fun e => hkq e.symm), ho']
            show some (o'.frz q it.z.length xs) = _
            rw [Obj.frz_id (hq.2.2 k o' ho')]
      · cases h
    · cases h
  · cases h
def devalF (fz : List Nat) (cfg : Cfg) (T : Tab P) (ops : Array Oper) (o : Oper) (s : St) : Option Tel :=
  bif fz.contains (o.dst.getD 0) then devalB cfg ops o s else devalT cfg T ops o s
def drunF (fz : List Nat) (cfg : Cfg) (T : Tab P) (ops : Array Oper) : List Oper → St → List Tel × St × List Oper
  | [], s => ([], s, [])
  | o :: l, s => match devalF fz cfg T ops o s with
    | some t => ((t :: (drunF fz cfg T ops l (s.add t.e)).1), (drunF fz cfg T ops l (s.add t.e)).2)
    | Option.none => ([], s, o :: l)
theorem drunF_spec {fz : List Nat} (C : CfgOK P cfg) : ∀ {l : List Oper} {i : Nat} {s : St}, (∀ j, l[j]? = ops[i + j]?) → Tr P cfg ops i s (drunF fz cfg T ops l s).1 ∧
    (drunF fz cfg T ops l s).2.1 = (drunF fz cfg T ops l s).1.foldl (fun s t => s.add t.e) s ∧ (drunF fz cfg T ops l s).2.2 = l.drop (drunF fz cfg T ops l s).1.length
  | [], i, s, _ => ⟨trivial, rfl, rfl⟩
  | o :: l, i, s, hl => by
    have hi : ops[i]? = some o := by have := hl 0; simpa using this.symm
    simp only [drunF]
    cases hd : devalF fz cfg T ops o s with
    | none => exact ⟨trivial, rfl, rfl⟩
    | some t =>
      obtain ⟨h1, h2, h3⟩ := drunF_spec (fz := fz) C (l := l) (i := i + 1) (s := s.add t.e) (fun j => by have := hl (j + 1); simpa [Nat.add_assoc, Nat.add_comm 1 j] using this)
      refine ⟨⟨?_, h1⟩, by simpa using h2, by simpa using h3⟩
      unfold devalF at hd
      cases hb : fz.contains (o.dst.getD 0) with
      | true => rw [hb] at hd; exact Does1.lit C hi hd
      | false => rw [hb] at hd; exact Does1.opT C hi hd
def dregF (s : St) : List Tel × St × List Oper → Option (List Tel × St × List Oper)
  | (tr, s1, rest) => if tr.all (fun t => t.e.news.all fun p => fresh s p.1) = true then some (tr, s1, rest) else Option.none
theorem dregF_mk (s : St) (tr : List Tel) (s1 : St) (rest : List Oper) : dregF s (tr, s1, rest) = if tr.all (fun t => t.e.news.all fun p => fresh s p.1) = true then some (tr, s1, rest) else Option.none := rfl
theorem RunK.wFz (C : CfgOK P cfg) (T : Tab P) (hm : P.follows .mixedOrders = true) (fz : List Nat) {id : Nat} {tr : List Tel} {s1 : St} {rest : List Oper} (hr : Work (dregF s (drunF fz cfg T ops ops.toList s)) (some (tr, s1, rest))) (h1 : ChkD ops tr)
    (h : ROps P cfg M ops rest (outK P cfg M fs Q .normal) s1) : RunK P cfg M (.region id ops true) fs Q s := by
  have hr : dregF s (drunF fz cfg T ops ops.toList s) = some (tr, s1, rest) := hr
  obtain ⟨⟨tr0, s10, rest0⟩, e⟩ : ∃ r, r = drunF fz cfg T ops ops.toList s := ⟨_, rfl⟩
  rw [← e, dregF_mk] at hr
  split at hr
  · rename_i hf
    cases hr
    obtain ⟨k1, k2, k3⟩ := drunF_spec (T := T) (fz := fz) C (ops := ops) (l := ops.toList) (i := 0) (s := s) (fun j => by simp)
    rw [← e] at k1 k2 k3
    refine Runs.draw hm k1 h1 hf ?_
    show ROps P cfg M ops (ops.toList.drop tr.length) _ (tr.foldl (fun s t => s.add t.e) s)
    rw [← k2, ← k3]
    exact h
  · cases hr
end
end Go.Proofs.Ytkdkikmhlhcndaa
