/- What the program's table says of its types; how lists of numbers are opened; the ends of contracts. -/
import Derived.Test.YtmeijcgclllldaaOps
import Derived.Test.YtmeijcgclllldaaProg
import Derived.Deep.QuietTactic
import Derived.BigQuiet
import Derived.Lib.Hide
namespace Go.Proofs.Ytmeijcgclllldaa
open Go.RowKit

theorem tI64 : ST Try.prog 22 2 (.int .i64 0) 1 8 := ST.mk' (by kernel_rfl) (by kernel_rfl) rfl (by decide)
theorem tInt : ST Try.prog 70 3 (.int .i64 0) 1 8 := ST.mk' (by kernel_rfl) (by kernel_rfl) rfl (by decide)
theorem tI64S : ST Try.prog 47 22 (.slice none 0 0) 1 24 := ST.mk' (by kernel_rfl) (by kernel_rfl) rfl (by decide)
theorem tIntS : ST Try.prog 86 70 (.slice none 0 0) 1 24 := ST.mk' (by kernel_rfl) (by kernel_rfl) rfl (by decide)

/-- Here the walk stops: the prover lays what comes next. -/
def Stop (p : Prop) : Prop := p
theorem Stop.out {p : Prop} (h : Stop p) : p := h
theorem Stop.go {p : Prop} (h : p) : Stop p := h

/-- The end of a function that writes nothing: it may draw. -/
def RetQ (w : World) (v : Value) : Ending → World → Prop := fun e w' => e = .returned v ∧ ∃ n, w' = w.drewN n

/-- The end of a function that leaves the world alone. -/
def RetS (w : World) (v : Value) : Ending → World → Prop := fun e w' => e = .returned v ∧ w = w'

theorem RetS.toQ {w : World} {v : Value} {e : Ending} {w' : World} (h : RetS w v e w') : RetQ w v e w' := ⟨h.1, 0, h.2.symm⟩

/-- The end of a function that may lay new memory: an outcome without memory. -/
def RetV (w : World) (v : Value) : Ending → World → Prop := fun e w' => e = .returned v ∧ Below w.heap.size w w'

/-- The end of a function that hands back new memory: of its own alone. -/
def RetO {α : Type} (R : Rep α) (w : World) (x : α) : Ending → World → Prop :=
  fun e w' => ∃ v, e = .returned v ∧ Own R w.heap.size w'.heap.size w' [v] x ∧ Below w.heap.size w w'

theorem Below.drewN (B : Nat) (w : World) (n : Nat) : Below B w (w.drewN n) := ⟨rfl, rfl, rfl, Nat.le_refl _, fun _ _ => rfl⟩

theorem drewN2 (w : World) (n m : Nat) : ∃ k, (w.drewN n).drewN m = w.drewN k := ⟨_, World.drewN_drewN w n m⟩
theorem drewN1 (w : World) (n : Nat) : ∃ k, w.drewN n = w.drewN k := ⟨n, rfl⟩

theorem RetQ.toV {w : World} {v : Value} {e : Ending} {w' : World} (h : RetQ w v e w') : RetV w v e w' := by
  obtain ⟨h1, n, rfl⟩ := h
  exact ⟨h1, Below.drewN _ _ _⟩

theorem Calls.retQ {P : Program} {f : FuncId} {args : Array Value} {w : World} {n : Nat} {v : Value}
    (h : Calls P f args (w.drewN n) (RetQ (w.drewN n) v)) : Calls P f args (w.drewN n) fun e w'' => e = .returned v ∧ ∃ m, w'' = w.drewN m := Calls.quiet_of h

theorem Calls.retQ0 {P : Program} {f : FuncId} {args : Array Value} {w : World} {v : Value}
    (h : Calls P f args w fun e w' => e = .returned v ∧ w = w') : Calls P f args w (RetQ w v) := h.mono fun _ _ ⟨he, hw⟩ => ⟨he, 0, hw.symm⟩

theorem Calls.qS {P : Program} {f : FuncId} {args : Array Value} {w : World} {n : Nat} {v : Value}
    (h : Calls P f args (w.drewN n) (RetS (w.drewN n) v)) : Calls P f args (w.drewN n) fun e w'' => e = .returned v ∧ ∃ m, w'' = w.drewN m :=
  h.mono fun _ _ ⟨he, hm⟩ => ⟨he, n, hm.symm⟩

/-- .. where the world has drawn n times before. -/
theorem Calls.qS' {P : Program} {f : FuncId} {args : Array Value} {w : World} {n a : Nat} {v : Value}
    (h : Calls P f args (w.drewN (n + a)) (RetS (w.drewN (n + a)) v)) : Calls P f args (w.drewN (n + a)) fun e w'' => e = .returned v ∧ ∃ m, w'' = w.drewN (n + m) :=
  h.mono fun _ _ ⟨he, hm⟩ => ⟨he, a, hm.symm⟩

theorem Calls.qQ' {P : Program} {f : FuncId} {args : Array Value} {w : World} {n a : Nat} {v : Value}
    (h : Calls P f args (w.drewN (n + a)) (RetQ (w.drewN (n + a)) v)) : Calls P f args (w.drewN (n + a)) fun e w'' => e = .returned v ∧ ∃ m, w'' = w.drewN (n + m) :=
  h.mono fun _ _ ⟨he, m, hm⟩ => ⟨he, a + m, by rw [hm, World.drewN_drewN, Nat.add_assoc]⟩

theorem Calls.same {P : Program} {f : FuncId} {args : Array Value} {w : World} {n : Nat} {v : Value}
    (h : Calls P f args (w.drewN n) fun e w' => e = .returned v ∧ w.drewN n = w') : Calls P f args (w.drewN n) fun e w'' => e = .returned v ∧ ∃ m, w'' = w.drewN m :=
  h.mono fun _ _ ⟨he, hm⟩ => ⟨he, n, hm.symm⟩

/-- An int64's range. -/
def In64 (n : Int) : Prop := -9223372036854775808 ≤ n ∧ n ≤ 9223372036854775807

instance (n : Int) : Decidable (In64 n) := inferInstanceAs (Decidable (_ ∧ _))

theorem rdL_ints {A : Nat → Prop} {w : World} : ∀ {xs : List Int} {ds : List Value}, rdL RI A w ds xs → ds = xs.map (Value.int .i64) ∧ ∀ x ∈ xs, In64 x
  | [], _, h => ⟨h, by simp⟩
  | x :: xs, _, ⟨c, d, e, h1, h2⟩ => by
    obtain ⟨k1, k2⟩ := rdL_ints h2
    refine ⟨by rw [e, h1.1, k1]; rfl, fun y hy => ?_⟩
    rcases List.mem_cons.1 hy with rfl | hy
    · exact h1.2
    · exact k2 y hy

theorem rdL_ints_mk {A : Nat → Prop} {w : World} : ∀ {xs : List Int}, (∀ x ∈ xs, In64 x) → rdL RI A w (xs.map (Value.int .i64)) xs
  | [], _ => rfl
  | x :: xs, h => ⟨[.int .i64 x], xs.map (Value.int .i64), rfl, ⟨rfl, h x (by simp)⟩, rdL_ints_mk fun y hy => h y (by simp [hy])⟩

theorem ownL_ints_mk {w : World} : ∀ {xs : List Int}, (∀ x ∈ xs, In64 x) → ownL RI w (xs.map (Value.int .i64)) xs []
  | [], _ => ⟨rfl, rfl⟩
  | x :: xs, h => ⟨[.int .i64 x], xs.map (Value.int .i64), [], [], rfl, rfl, ⟨⟨rfl, h x (by simp)⟩, rfl⟩, ownL_ints_mk fun y hy => h y (by simp [hy])⟩

theorem ownL_ints {w : World} {xs : List Int} {ds : List Value} {F : List Nat} (h : ownL RI w ds xs F) : ds = xs.map (Value.int .i64) ∧ F = [] ∧ ∀ x ∈ xs, In64 x := by
  refine ⟨(rdL_ints h.rd).1, ?_, (rdL_ints h.rd).2⟩
  have : ∀ {xs : List Int} {ds : List Value} {F : List Nat}, ownL RI w ds xs F → F = [] := by
    intro xs
    induction xs with
    | nil => intro ds F h; exact h.2
    | cons x xs ih =>
      rintro ds F ⟨c, d, G, H, rfl, rfl, h1, h2⟩
      rw [h1.2, ih h2]; rfl
  exact this h

theorem madeCells_ints (n : Nat) : (madeCells (Value.int IntKind.i64 0).cells (n * 1)).toList = (List.replicate n (0 : Int)).map (Value.int .i64) := by
  rw [Nat.mul_one]; show (madeCells #[Value.int IntKind.i64 0] n).toList = _
  rw [toList_madeCells_one]; simp

/-- make([]int64, n) -/
theorem wpList_makeI {P : Program} {w : World} {ops : Array Oper} {rest : List Oper} {o : Oper} {a : Act} {Q : Exit → Act → World → Prop}
    (hg : o.guard = none) (l c : Operand) (t : TypeId) (hop : o.op = Op.makeSlice t l c)
    (e : TypeId) (T : ST P t e (.int .i64 0) 1 8)
    (kl kc : IntKind) (L C : Int) (n : Nat) (hl : a.eval l = .int kl L) (hc : a.eval c = .int kc C) (hL : L = (n : Int)) (hC : C = (n : Int)) (b2 : n ≤ 35184372088832)
    (hK : ∀ w', Row w' (.slice (some ⟨w.heap.size, 0, none⟩) n n) 1 n ((List.replicate n (0 : Int)).map (Value.int .i64)) (some w.heap.size) → Below w.heap.size w w' → wpList P ops Q rest (a.put o.dst (.slice (some ⟨w.heap.size, 0, none⟩) n n)) w') :
    wpList P ops Q (o :: rest) a w := by
  refine wpList_makeRow hg l c t hop e (.int .i64 0) 1 8 T kl kc L C n hl hc hL hC (by omega) (by unfold maxLen; omega) ?_
  rintro v' w' h1 h2 rfl
  rw [madeCells_ints] at h1
  exact hK w' h1 (Below.of_grown h2 (Nat.le_refl _) (fun g hg => by cases hg))

/-- A list of numbers that is read: its value, and its cells. -/
structure Ints (w : World) (v : Value) (xs : List Int) (oa : Option Addr) (cap : Nat) : Prop where
  val : v = .slice oa xs.length cap
  le : xs.length ≤ cap
  capLe : cap ≤ maxLen
  noneCap : oa = none → cap = 0
  bd : ∀ x ∈ xs, In64 x
  row : xs = [] ∨ ∃ b off, oa = some ⟨b, off, none⟩ ∧ b < w.heap.size ∧ ∀ j (h : j < xs.length), w.cell? ⟨b, off + j, none⟩ = some (.int .i64 xs[j])

theorem Rd.ints {w : World} {v : Value} {xs : List Int} (h : Rd (RS RI) w [v] xs) : ∃ oa cap, Ints w v xs oa cap := by
  obtain ⟨oa, cap, ds, h1, h2, h3, h4, h5, h6⟩ := h
  obtain ⟨k1, k2⟩ := rdL_ints h5
  refine ⟨oa, cap, by simpa using h1, h2, h3, h4, k2, ?_⟩
  rcases h6 with h6 | ⟨b, off, e, hb, hc⟩
  · left; rw [k1] at h6; simpa using h6
  · exact .inr ⟨b, off, e, hb, fun j hj => hc j _ (by rw [k1]; simp [hj])⟩

theorem Rd.val {α : Type} {R : Rep α} {w : World} {v : Value} {xs : List α} (h : Rd (RS R) w [v] xs) : ∃ oa cap, v = .slice oa xs.length cap ∧ xs.length ≤ cap ∧ cap ≤ maxLen := by
  obtain ⟨oa, cap, ds, h1, h2, h3, _⟩ := h
  exact ⟨oa, cap, by simpa using h1, h2, h3⟩

theorem Ints.get {w : World} {v : Value} {xs : List Int} {oa : Option Addr} {cap : Nat} (h : Ints w v xs oa cap) {k : Nat} (hk : k < xs.length) :
    ∃ b off, oa = some ⟨b, off, none⟩ ∧ b < w.heap.size ∧ ∀ j (h : j < xs.length), w.cell? ⟨b, off + j, none⟩ = some (.int .i64 xs[j]) := by
  rcases h.row with h | h
  · subst h; exact absurd hk (Nat.not_lt_zero _)
  · exact h

theorem Ints.b {w : World} {v : Value} {xs : List Int} {oa : Option Addr} {cap : Nat} (h : Ints w v xs oa cap) {k : Nat} (hk : k < xs.length) : In64 xs[k] := h.bd _ (List.getElem_mem hk)

end Go.Proofs.Ytmeijcgclllldaa
