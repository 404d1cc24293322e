/- What a Go value holds: readings of values as Lean data, memory that a call owns, and the laws of the walk on them. -/
import Derived.WalkKit
import Derived.WalkSpells
import Derived.WalkLawsBesides
namespace Go.Proofs.Ytmeijcgclllldaa
open Go.RowKit

/-- The slice value v owns the row of n elements of k cells each that holds ds; og: its block. -/
def Row (w : World) (v : Value) (k n : Nat) (ds : List Value) (og : Option Nat) : Prop :=
  ds.length = n * k ∧ ((v = .slice none 0 0 ∧ n = 0 ∧ og = none) ∨
    ∃ g cap cur e, v = .slice (some ⟨g, 0, none⟩) n cap ∧ og = some g ∧ w.heap[g]? = some (.cells cur e (0, 0)) ∧ n ≤ cap ∧ cap ≤ maxLen ∧ cur.size = cap * k ∧ cur.toList.take (n * k) = ds)

/-- A row of cells behind an address, in a block that A allows. -/
def rowAt (A : Nat → Prop) (w : World) (oa : Option Addr) (ds : List Value) : Prop :=
  ds = [] ∨ ∃ b off, oa = some ⟨b, off, none⟩ ∧ A b ∧ ∀ j u, ds[j]? = some u → w.cell? ⟨b, off + j, none⟩ = some u

theorem rowAt.frame {A : Nat → Prop} {w w' : World} {oa : Option Addr} {ds : List Value} (h : rowAt A w oa ds)
    (hf : ∀ b, A b → b < w.heap.size → w'.heap[b]? = w.heap[b]?) : rowAt A w' oa ds := by
  rcases h with h | ⟨b, off, h1, h2, h3⟩
  · exact .inl h
  · by_cases hd : ds = []
    · exact .inl hd
    · refine .inr ⟨b, off, h1, h2, fun j u hj => ?_⟩
      have hc := h3 j u hj
      have hb : b < w.heap.size := World.block_lt_of_cell? w _ hc
      exact (World.cell?_of_block (w := w) (a := ⟨b, off + j, none⟩) (hf b h2 hb)).trans hc

theorem rowAt.mono {A A' : Nat → Prop} {w : World} {oa : Option Addr} {ds : List Value} (h : rowAt A w oa ds)
    (hf : ∀ b, A b → b < w.heap.size → A' b) : rowAt A' w oa ds := by
  rcases h with h | ⟨b, off, h1, h2, h3⟩
  · exact .inl h
  · cases ds with
    | nil => exact .inl rfl
    | cons d ds =>
      have hb : b < w.heap.size := World.block_lt_of_cell? w _ (h3 0 d rfl)
      exact .inr ⟨b, off, h1, hf b h2 hb, h3⟩

/-- How data of a type stand in cells: k cells; 'rd': read through blocks that A allows; 'own': owned, through the blocks F. -/
structure Rep (α : Type) where
  k : Nat
  rd : (Nat → Prop) → World → List Value → α → Prop
  own : World → List Value → α → List Nat → Prop
  kpos : 0 < k
  rd_len : ∀ {A w cs x}, rd A w cs x → cs.length = k
  rd_one : ∀ {A w cs x}, rd A w cs x → ∀ v ∈ cs, v.oneCell' = true
  rd_frame : ∀ {A w w' cs x}, rd A w cs x → (∀ b, A b → b < w.heap.size → w'.heap[b]? = w.heap[b]?) → rd A w' cs x
  rd_mono : ∀ {A A' w cs x}, rd A w cs x → (∀ b, A b → b < w.heap.size → A' b) → rd A' w cs x
  own_rd : ∀ {w cs x F}, own w cs x F → rd (· ∈ F) w cs x
  own_frame : ∀ {w w' cs x F}, own w cs x F → (∀ b, b ∈ F → w'.heap[b]? = w.heap[b]?) → own w' cs x F
  own_lt : ∀ {w cs x F}, own w cs x F → ∀ b, b ∈ F → b < w.heap.size

/-- int, int64 -/
def RI : Rep Int where
  k := 1
  rd := fun _ _ cs n => cs = [.int .i64 n] ∧ -9223372036854775808 ≤ n ∧ n ≤ 9223372036854775807
  own := fun _ cs n F => (cs = [.int .i64 n] ∧ -9223372036854775808 ≤ n ∧ n ≤ 9223372036854775807) ∧ F = []
  kpos := by decide
  rd_len := by intro A w cs x h; rw [h.1]; rfl
  rd_one := by intro A w cs x h v hv; rw [h.1] at hv; simp at hv; subst hv; rfl
  rd_frame := fun h _ => h
  rd_mono := fun h _ => h
  own_rd := fun h => h.1
  own_frame := fun h _ => h
  own_lt := by intro w cs x F h b hb; rw [h.2] at hb; simp at hb

/-- bool -/
def RB : Rep Bool where
  k := 1
  rd := fun _ _ cs n => cs = [.bool n]
  own := fun _ cs n F => cs = [.bool n] ∧ F = []
  kpos := by decide
  rd_len := by intro A w cs x h; rw [h]; rfl
  rd_one := by intro A w cs x h v hv; rw [h] at hv; simp at hv; subst hv; rfl
  rd_frame := fun h _ => h
  rd_mono := fun h _ => h
  own_rd := fun h => h.1
  own_frame := fun h _ => h
  own_lt := by intro w cs x F h b hb; rw [h.2] at hb; simp at hb

/-- a struct: a field, then the rest -/
def RP {α β : Type} (R : Rep α) (S : Rep β) : Rep (α × β) where
  k := R.k + S.k
  rd := fun A w cs x => ∃ c d, cs = c ++ d ∧ R.rd A w c x.1 ∧ S.rd A w d x.2
  own := fun w cs x F => ∃ c d G H, cs = c ++ d ∧ F = G ++ H ∧ R.own w c x.1 G ∧ S.own w d x.2 H
  kpos := by have := R.kpos; omega
  rd_len := by
    rintro A w cs x ⟨c, d, rfl, h1, h2⟩
    rw [List.length_append, R.rd_len h1, S.rd_len h2]
  rd_one := by
    rintro A w cs x ⟨c, d, rfl, h1, h2⟩ v hv
    rcases List.mem_append.1 hv with h | h
    · exact R.rd_one h1 v h
    · exact S.rd_one h2 v h
  rd_frame := by
    rintro A w w' cs x ⟨c, d, rfl, h1, h2⟩ hf
    exact ⟨c, d, rfl, R.rd_frame h1 hf, S.rd_frame h2 hf⟩
  rd_mono := by
    rintro A A' w cs x ⟨c, d, rfl, h1, h2⟩ hf
    exact ⟨c, d, rfl, R.rd_mono h1 hf, S.rd_mono h2 hf⟩
  own_rd := by
    rintro w cs x F ⟨c, d, G, H, rfl, rfl, h1, h2⟩
    exact ⟨c, d, rfl, R.rd_mono (R.own_rd h1) (fun _ hb _ => List.mem_append_left _ hb), S.rd_mono (S.own_rd h2) (fun _ hb _ => List.mem_append_right _ hb)⟩
  own_frame := by
    rintro w w' cs x F ⟨c, d, G, H, rfl, rfl, h1, h2⟩ hf
    exact ⟨c, d, G, H, rfl, rfl, R.own_frame h1 (fun b hb => hf b (List.mem_append_left _ hb)), S.own_frame h2 (fun b hb => hf b (List.mem_append_right _ hb))⟩
  own_lt := by
    rintro w cs x F ⟨c, d, G, H, rfl, rfl, h1, h2⟩ b hb
    rcases List.mem_append.1 hb with h | h
    · exact R.own_lt h1 b h
    · exact S.own_lt h2 b h

/-- The cells ds hold the elements xs, one behind the other. -/
def rdL {α : Type} (R : Rep α) (A : Nat → Prop) (w : World) : List Value → List α → Prop
  | ds, [] => ds = []
  | ds, x :: xs => ∃ c d, ds = c ++ d ∧ R.rd A w c x ∧ rdL R A w d xs

def ownL {α : Type} (R : Rep α) (w : World) : List Value → List α → List Nat → Prop
  | ds, [], F => ds = [] ∧ F = []
  | ds, x :: xs, F => ∃ c d G H, ds = c ++ d ∧ F = G ++ H ∧ R.own w c x G ∧ ownL R w d xs H

section lists
variable {α : Type} {R : Rep α} {A A' : Nat → Prop} {w w' : World}

theorem rdL.len : ∀ {xs : List α} {ds : List Value}, rdL R A w ds xs → ds.length = xs.length * R.k
  | [], ds, h => by cases h; simp
  | x :: xs, ds, h => by
    obtain ⟨c, d, rfl, h1, h2⟩ := h
    rw [List.length_append, R.rd_len h1, rdL.len h2, List.length_cons, Nat.add_mul, Nat.one_mul, Nat.add_comm]

theorem rdL.one : ∀ {xs : List α} {ds : List Value}, rdL R A w ds xs → ∀ v ∈ ds, v.oneCell' = true
  | [], ds, h => by cases h; simp
  | x :: xs, ds, h => by
    obtain ⟨c, d, rfl, h1, h2⟩ := h
    intro v hv
    rcases List.mem_append.1 hv with h | h
    · exact R.rd_one h1 v h
    · exact rdL.one h2 v h

theorem rdL.frame (hf : ∀ b, A b → b < w.heap.size → w'.heap[b]? = w.heap[b]?) : ∀ {xs : List α} {ds : List Value}, rdL R A w ds xs → rdL R A w' ds xs
  | [], _, h => h
  | _ :: _, _, ⟨c, d, e, h1, h2⟩ => ⟨c, d, e, R.rd_frame h1 hf, rdL.frame hf h2⟩

theorem rdL.mono (hf : ∀ b, A b → b < w.heap.size → A' b) : ∀ {xs : List α} {ds : List Value}, rdL R A w ds xs → rdL R A' w ds xs
  | [], _, h => h
  | _ :: _, _, ⟨c, d, e, h1, h2⟩ => ⟨c, d, e, R.rd_mono h1 hf, rdL.mono hf h2⟩

theorem rdL.append : ∀ {xs ys : List α} {ds es : List Value}, rdL R A w ds xs → rdL R A w es ys → rdL R A w (ds ++ es) (xs ++ ys)
  | [], _, ds, _, h, k => by cases h; exact k
  | _ :: _, _, _, es, ⟨c, d, e, h1, h2⟩, k => ⟨c, d ++ es, by rw [e, List.append_assoc], h1, rdL.append h2 k⟩

theorem rdL.single {c : List Value} {x : α} (h : R.rd A w c x) : rdL R A w c [x] := ⟨c, [], by simp, h, rfl⟩

theorem rdL.get : ∀ {xs : List α} {ds : List Value}, rdL R A w ds xs → ∀ i (hi : i < xs.length),
    ∃ c, R.rd A w c xs[i] ∧ ∀ j u, c[j]? = some u → ds[i * R.k + j]? = some u
  | [], _, _, i, hi => absurd hi (Nat.not_lt_zero _)
  | x :: xs, ds, ⟨c, d, e, h1, h2⟩, 0, hi => ⟨c, h1, fun j u hj => by
      rw [e, Nat.zero_mul, Nat.zero_add, List.getElem?_append_left (by have := (List.getElem?_eq_some_iff.1 hj).1; exact this)]; exact hj⟩
  | x :: xs, ds, ⟨c, d, e, h1, h2⟩, i + 1, hi => by
    obtain ⟨c', h3, h4⟩ := rdL.get h2 i (by simpa using hi)
    refine ⟨c', h3, fun j u hj => ?_⟩
    have hc := R.rd_len h1
    rw [e, List.getElem?_append_right (by rw [hc, Nat.add_mul]; omega), hc]
    rw [show (i + 1) * R.k + j - R.k = i * R.k + j by rw [Nat.add_mul]; omega]
    exact h4 j u hj

theorem rdL.take : ∀ {xs : List α} {ds : List Value}, rdL R A w ds xs → ∀ n, n ≤ xs.length → rdL R A w (ds.take (n * R.k)) (xs.take n)
  | _, _, _, 0, _ => by simp [rdL]
  | [], _, _, n + 1, hn => absurd hn (by simp)
  | x :: xs, ds, ⟨c, d, e, h1, h2⟩, n + 1, hn => by
    have hc := R.rd_len h1
    refine ⟨c, d.take (n * R.k), ?_, h1, rdL.take h2 n (by simpa using hn)⟩
    rw [e, Nat.add_mul, Nat.one_mul, Nat.add_comm, List.take_append, hc, List.take_of_length_le (by omega)]
    congr 2
    omega

theorem rdL.drop : ∀ {xs : List α} {ds : List Value}, rdL R A w ds xs → ∀ n, n ≤ xs.length → rdL R A w (ds.drop (n * R.k)) (xs.drop n)
  | _, _, h, 0, _ => by simpa using h
  | [], _, _, n + 1, hn => absurd hn (by simp)
  | x :: xs, ds, ⟨c, d, e, h1, h2⟩, n + 1, hn => by
    have hc := R.rd_len h1
    have := rdL.drop h2 n (by simpa using hn)
    rw [e, Nat.add_mul, Nat.one_mul, Nat.add_comm, List.drop_append, hc, List.drop_of_length_le (by omega), show R.k + n * R.k - R.k = n * R.k by omega]
    simpa using this

theorem ownL.rd : ∀ {xs : List α} {ds : List Value} {F : List Nat}, ownL R w ds xs F → rdL R (· ∈ F) w ds xs
  | [], _, _, h => h.1
  | _ :: _, _, _, ⟨c, d, G, H, e, rfl, h1, h2⟩ => ⟨c, d, e, R.rd_mono (R.own_rd h1) (fun _ hb _ => List.mem_append_left _ hb),
      rdL.mono (fun _ hb _ => List.mem_append_right _ hb) (ownL.rd h2)⟩

theorem ownL.frame : ∀ {xs : List α} {ds : List Value} {F : List Nat}, ownL R w ds xs F → (∀ b, b ∈ F → w'.heap[b]? = w.heap[b]?) → ownL R w' ds xs F
  | [], _, _, h, _ => h
  | _ :: _, _, _, ⟨c, d, G, H, e, rfl, h1, h2⟩, hf => ⟨c, d, G, H, e, rfl, R.own_frame h1 (fun b hb => hf b (List.mem_append_left _ hb)),
      ownL.frame h2 (fun b hb => hf b (List.mem_append_right _ hb))⟩

theorem ownL.lt : ∀ {xs : List α} {ds : List Value} {F : List Nat}, ownL R w ds xs F → ∀ b, b ∈ F → b < w.heap.size
  | [], _, _, h, b, hb => by rw [h.2] at hb; simp at hb
  | _ :: _, _, _, ⟨c, d, G, H, e, rfl, h1, h2⟩, b, hb => by
    rcases List.mem_append.1 hb with h | h
    · exact R.own_lt h1 b h
    · exact ownL.lt h2 b h

theorem ownL.append : ∀ {xs ys : List α} {ds es : List Value} {F G : List Nat}, ownL R w ds xs F → ownL R w es ys G → ownL R w (ds ++ es) (xs ++ ys) (F ++ G)
  | [], _, ds, _, F, _, h, k => by obtain ⟨rfl, rfl⟩ := h; exact k
  | _ :: _, _, _, es, _, G', ⟨c, d, G, H, e, e', h1, h2⟩, k => ⟨c, d ++ es, G, H ++ G', by rw [e, List.append_assoc], by rw [e', List.append_assoc], h1, ownL.append h2 k⟩

theorem ownL.single {c : List Value} {x : α} {F : List Nat} (h : R.own w c x F) : ownL R w c [x] F := ⟨c, [], F, [], by simp, by simp, h, rfl, rfl⟩

theorem ownL.len {xs : List α} {ds : List Value} {F : List Nat} (h : ownL R w ds xs F) : ds.length = xs.length * R.k := h.rd.len

theorem ownL.one {xs : List α} {ds : List Value} {F : List Nat} (h : ownL R w ds xs F) : ∀ v ∈ ds, v.oneCell' = true := h.rd.one
end lists

theorem Row.lt {w : World} {v : Value} {k n : Nat} {ds : List Value} {og : Option Nat} (h : Row w v k n ds og) : ∀ g, og = some g → g < w.heap.size := by
  intro g hg
  rcases h.2 with ⟨_, _, rfl⟩ | ⟨g', cap, cur, e, _, rfl, hh, _⟩
  · cases hg
  · cases hg; exact (Array.getElem?_eq_some_iff.1 hh).1

theorem Row.frame {w w' : World} {v : Value} {k n : Nat} {ds : List Value} {og : Option Nat} (h : Row w v k n ds og) (hf : ∀ g, og = some g → w'.heap[g]? = w.heap[g]?) : Row w' v k n ds og := by
  refine ⟨h.1, ?_⟩
  rcases h.2 with hn | ⟨g', cap, cur, e, h1, rfl, hh, h2⟩
  · exact .inl hn
  · exact .inr ⟨g', cap, cur, e, h1, rfl, (hf g' rfl).trans hh, h2⟩

/-- []T -/
def RS {α : Type} (R : Rep α) : Rep (List α) where
  k := 1
  rd := fun A w cs xs => ∃ oa cap ds, cs = [.slice oa xs.length cap] ∧ xs.length ≤ cap ∧ cap ≤ maxLen ∧ (oa = none → cap = 0) ∧ rdL R A w ds xs ∧ rowAt A w oa ds
  own := fun w cs xs F => ∃ v og ds G, cs = [v] ∧ Row w v R.k xs.length ds og ∧ ownL R w ds xs G ∧ F = og.toList ++ G
  kpos := by decide
  rd_len := by rintro A w cs x ⟨oa, cap, ds, rfl, _⟩; rfl
  rd_one := by rintro A w cs x ⟨oa, cap, ds, rfl, _⟩ v hv; simp at hv; subst hv; rfl
  rd_frame := by
    rintro A w w' cs x ⟨oa, cap, ds, h1, h2, h3, h4, h5, h6⟩ hf
    exact ⟨oa, cap, ds, h1, h2, h3, h4, h5.frame hf, h6.frame hf⟩
  rd_mono := by
    rintro A A' w cs x ⟨oa, cap, ds, h1, h2, h3, h4, h5, h6⟩ hf
    exact ⟨oa, cap, ds, h1, h2, h3, h4, h5.mono hf, h6.mono hf⟩
  own_rd := by
    rintro w cs x F ⟨v, og, ds, G, rfl, ⟨hl, hr⟩, ho, rfl⟩
    rcases hr with ⟨rfl, hn, rfl⟩ | ⟨g, cap, cur, e, rfl, rfl, hh, hc, hm, hs, ht⟩
    · refine ⟨none, 0, ds, by rw [hn], by omega, by decide, fun _ => rfl, ho.rd.mono (fun b hb _ => by simpa using hb), .inl ?_⟩
      exact List.eq_nil_of_length_eq_zero (by rw [hl, hn, Nat.zero_mul])
    · refine ⟨some ⟨g, 0, none⟩, cap, ds, rfl, hc, hm, by simp, ho.rd.mono (fun b hb _ => List.mem_append_right _ hb), .inr ⟨g, 0, rfl, by simp, fun j u hj => ?_⟩⟩
      rw [Nat.zero_add, cell_of_row w g j cur e (0, 0) hh]
      rw [← ht, List.getElem?_take] at hj
      split at hj
      · simpa using hj
      · cases hj
  own_frame := by
    rintro w w' cs x F ⟨v, og, ds, G, h1, h2, h3, rfl⟩ hf
    exact ⟨v, og, ds, G, h1, h2.frame (fun g hg => hf g (by simp [hg])), h3.frame (fun b hb => hf b (List.mem_append_right _ hb)), rfl⟩
  own_lt := by
    rintro w cs x F ⟨v, og, ds, G, h1, h2, h3, rfl⟩ b hb
    rcases List.mem_append.1 hb with h | h
    · exact h2.lt b (by simpa using h)
    · exact h3.lt b h

end Go.Proofs.Ytmeijcgclllldaa
