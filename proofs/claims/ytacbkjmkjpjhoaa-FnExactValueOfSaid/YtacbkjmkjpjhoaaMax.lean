/- The greater of two numbers, on states of values. -/
import Derived.Test.YtacbkjmkjpjhoaaDels
set_option linter.unusedSimpArgs false
set_option linter.unusedVariables false
namespace Go.Proofs.Ytacbkjmkjpjhoaa
open Go.RowKit
section
variable {P : Program} {cfg : Cfg} {M : Nat → Prop} {ops : Array Oper} {s : St}
theorem ROps.gives (o : Oper) {l : List Oper} {Q : St → Prop} {d : Nat} {av : AV} (hg : o.guard = none) (hd : o.dst = some d) (hdN : d < cfg.N)
    (hG : ∀ {w0 : W0} {Ok σ a w}, Sim w0 Ok cfg.N σ s a w → Gives P a w o (relAV σ s.heap w av)) (h : ROps P cfg M ops l Q ⟨insR d av s.regs, s.heap⟩) : ROps P cfg M ops (o :: l) Q s := by
  intro w0 Ok σ a w Q' hM hS hQ
  refine wpList_step (fun K hK => ?_)
  have hw : awanted ops s.regs o = some true := by unfold awanted; rw [hg]
  rw [awanted_spec hS hw]
  simp only [if_true]
  obtain ⟨v, h1, h2⟩ := hG hS
  unfold Oper.wp
  rw [h1]
  show K (a.put o.dst _) _
  rw [hd]
  exact hK _ _ (h w0 Ok σ _ _ Q' hM (Sim.ins hS hdN h2) hQ)

theorem ROps.max (C : CfgOK P cfg) {o : Oper} {l : List Oper} {Q : St → Prop} {x y : Operand} {t1 t2 : TypeId} {d : Nat} {m n : Int} (ho : o.op = .call ⟨.builtin .max, #[x, y], #[t1, t2]⟩) (hg : o.guard = none) (hd : o.dst = some d) (hdN : d < cfg.N)
    (hx : (opv s.regs x).bind avI = some m) (hy : (opv s.regs y).bind avI = some n) (h : ROps P cfg M ops l Q ⟨insR d (dval (.int (Max.max m n))) s.regs, s.heap⟩) : ROps P cfg M ops (o :: l) Q s := by
  refine ROps.gives o hg hd hdN (fun {w0 Ok σ a w} hS => ?_) h
  have key : ∀ {z : Operand} {k : Int}, (opv s.regs z).bind avI = some k → a.eval z = .int .i64 k ∧ In64 k := fun {z k} hz => by
    obtain ⟨hv, h3, h4⟩ := bind_some hz
    have hr := opv_rel hS h3
    unfold avI at h4
    split at h4
    · cases h4; exact rdV_int.1 hr.2
    · cases h4
  obtain ⟨e1, b1⟩ := key hx
  obtain ⟨e2, b2⟩ := key hy
  refine ⟨.int .i64 (Max.max m n), ?_, rfl, rdV_int.2 ⟨rfl, by unfold In64 at *; omega⟩⟩
  unfold execOp
  rw [ho]
  simp [resolve, invoke, builtin, e1, e2, Builtin.max_, Builtin.max2]
  by_cases hmn : m ≤ n
  · first | (simp [Int.max_def, hmn]; done) | (simp [Max.max, hmn]; done) | (split <;> simp_all <;> omega)
  · first | (simp [Int.max_def, hmn]; done) | (simp [Max.max, hmn]; done) | (split <;> simp_all <;> omega)
end
end Go.Proofs.Ytacbkjmkjpjhoaa
