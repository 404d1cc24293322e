/- Grafting by neighbours, plain; owned lists that grow. -/
import Derived.Test.YtdjkmjifeekimaaLens
import Derived.Test.YtdjkmjifeekimaaRootP
import Derived.Test.YtdjkmjifeekimaaGraftQ
set_option linter.unusedSimpArgs false
set_option linter.unusedVariables false
namespace Go.Proofs.Ytdjkmjifeekimaa
open Go.RowKit

theorem nearStep_bd {near : List (List Int)} {i : Nat} {k B : Int} (h : ∀ x ∈ near, ∀ y ∈ x, 0 ≤ y ∧ y < B) (hi : (i : Int) < B) (hk : k < B) : ∀ x ∈ nearStep near i k, ∀ y ∈ x, 0 ≤ y ∧ y < B := by
  intro x hx y hy
  have h0 : ∀ (near : List (List Int)) (j : Nat) (z : Int), (∀ x ∈ near, ∀ y ∈ x, 0 ≤ y ∧ y < B) → 0 ≤ z → z < B → ∀ x ∈ near.set j (near.getD j [] ++ [z]), ∀ y ∈ x, 0 ≤ y ∧ y < B := by
    intro near j z h z0 z1 x hx y hy
    rcases List.mem_or_eq_of_mem_set hx with hx | rfl
    · exact h x hx y hy
    · rcases List.mem_append.1 hy with hy | hy
      · by_cases hj : j < near.length
        · simp only [List.getD_eq_getElem?_getD, List.getElem?_eq_getElem hj, Option.getD_some] at hy
          exact h _ (List.getElem_mem hj) y hy
        · simp [List.getD_eq_getElem?_getD, List.getElem?_eq_none (Nat.le_of_not_lt hj)] at hy
      · rw [List.mem_singleton] at hy; subst hy; exact ⟨z0, z1⟩
  unfold nearStep at hx
  split at hx
  · exact h0 _ _ _ (h0 near i k h ‹_› hk) (by omega) hi x hx y hy
  · exact h x hx y hy

theorem nearTo_bd (t : List Int) : ∀ i, i ≤ t.length → ∀ x ∈ nearTo t i, ∀ y ∈ x, 0 ≤ y ∧ y < t.length
  | 0, _, x, hx, y, hy => by rw [nearTo, List.mem_replicate] at hx; rw [hx.2] at hy; cases hy
  | i + 1, hi, x, hx, y, hy => by
    have := (parS_lt t (t.getD i 0 - 1) i).2
    exact nearStep_bd (nearTo_bd t i (by omega)) (by omega) (by show parAt t i < _; unfold parAt; omega) x hx y hy

/-- The neighbours of a node of a grafted tree. -/
def movedL (base : Nat) (k : Nat) (others : List Int) (nd : Int) : List Int := others.map (fun x => (base : Int) + x) ++ (if k = 0 then [nd] else [])

def addTo (base : Nat) (nvs : List (List Int)) (nd : Int) : Nat → List (List Int)
  | 0 => []
  | k + 1 => addTo base nvs nd k ++ [movedL base k (nvs.getD k []) nd]

theorem addTo_len (base : Nat) (nvs : List (List Int)) (nd : Int) : ∀ k, (addTo base nvs nd k).length = k
  | 0 => rfl
  | k + 1 => by rw [addTo, List.length_append, addTo_len base nvs nd k]; rfl

def graft1 (near : List (List Int)) (nd : Int) (v : List Int) : List (List Int) :=
  (near ++ addTo near.length (nears v) nd v.length).set nd.toNat ((near ++ addTo near.length (nears v) nd v.length).getD nd.toNat [] ++ [(near.length : Int)])

theorem graft1_len (near : List (List Int)) (nd : Int) (v : List Int) : (graft1 near nd v).length = near.length + v.length := by
  unfold graft1
  rw [List.length_set, List.length_append, addTo_len]

def graftTo (u : List Int) (nodes : List Int) (list : List (List Int)) : Nat → List (List Int)
  | 0 => nears u
  | i + 1 => graft1 (graftTo u nodes list i) (nodes.getD i 0) (list.getD i [])

theorem graftTo_len (u : List Int) (nodes : List Int) (list : List (List Int)) : ∀ i, i ≤ list.length → (graftTo u nodes list i).length = u.length + sumLen (list.take i)
  | 0, _ => by rw [graftTo]; unfold nears; rw [nearTo_len]; simp [sumLen]
  | i + 1, hi => by
    rw [graftTo, graft1_len, graftTo_len u nodes list i (by omega), sumLen_take_succ list i (by omega)]
    simp [show i < list.length by omega]
    omega

theorem getD_len {near : List (List Int)} {B : Nat} (h : ∀ x ∈ near, x.length ≤ B) (i : Nat) : (near.getD i []).length ≤ B := by
  by_cases hi : i < near.length
  · simp only [List.getD_eq_getElem?_getD, List.getElem?_eq_getElem hi, Option.getD_some]; exact h _ (List.getElem_mem hi)
  · simp [List.getD_eq_getElem?_getD, List.getElem?_eq_none (Nat.le_of_not_lt hi)]

theorem addTo_each {base : Nat} {nvs : List (List Int)} {nd : Int} {B : Nat} (h : ∀ x ∈ nvs, x.length ≤ B) : ∀ k, ∀ y ∈ addTo base nvs nd k, y.length ≤ B + 1
  | 0, y, hy => by cases hy
  | k + 1, y, hy => by
    rw [addTo] at hy
    rcases List.mem_append.1 hy with hy | hy
    · exact addTo_each h k y hy
    · rw [List.mem_singleton] at hy
      subst hy
      have := getD_len h k
      generalize nvs.getD k [] = g at this ⊢
      unfold movedL
      rw [List.length_append, List.length_map]
      split
      · rw [List.length_singleton]; omega
      · rw [List.length_nil]; omega

theorem graft1_each {near : List (List Int)} {nd : Int} {v : List Int} {B : Nat} (h : ∀ x ∈ near, x.length ≤ B) (hv : v.length ≤ 8) (hB : 17 ≤ B) : ∀ y ∈ graft1 near nd v, y.length ≤ B + 1 := by
  have h1 : ∀ y ∈ near ++ addTo near.length (nears v) nd v.length, y.length ≤ B := by
    intro y hy
    rcases List.mem_append.1 hy with hy | hy
    · exact h y hy
    · have := addTo_each (B := 16) (fun x hx => by have := nearTo_each v v.length x hx; omega) _ y hy
      omega
  intro y hy
  unfold graft1 at hy
  rcases List.mem_or_eq_of_mem_set hy with hy | rfl
  · have := h1 y hy; omega
  · have := getD_len h1 nd.toNat
    rw [List.length_append, List.length_singleton]
    omega

theorem graftTo_each {u : List Int} {nodes : List Int} {list : List (List Int)} (hu : u.length ≤ 8) (hl : ∀ v ∈ list, v.length ≤ 8) : ∀ i, ∀ y ∈ graftTo u nodes list i, y.length ≤ 17 + i
  | 0, y, hy => by have := nearTo_each u u.length y hy; omega
  | i + 1, y, hy => by
    have := graft1_each (graftTo_each hu hl i) (getD_len hl i) (by omega) y hy
    omega

/-- What grafting trees at nodes gives. -/
def graftN (u : List Int) (nodes : List Int) (list : List (List Int)) : List Int := treeF 9 (graftTo u nodes list list.length) 0 (-1)

def graftOk (u : List Int) (nodes : List Int) (list : List (List Int)) : Bool :=
  treeOk 9 (graftTo u nodes list list.length) 0 (-1) && Nat.ble (treeSm 9 (graftTo u nodes list list.length) 0 (-1)) 13

section
variable {α : Type} {R : Rep α}

/-- An element more in an owned list. -/
theorem OwnF.snoc {w w' : World} {v v' : Value} {xs : List α} {x : α} {c : List Value} {ds : List Value} {og og' : Option Nat} {F G : List Nat}
    (hel : ownL R w ds xs F) (hF : (og.toList ++ F).Nodup) (hlt : ∀ b, b ∈ og.toList ++ F → b < w.heap.size) (hx : OwnF R G w c x) (hd : ∀ b, b ∈ G → b ∉ og.toList ++ F)
    (h : Appended w w' v' R.k (xs.length + 1) (ds ++ c) og og') :
    OwnF (RS R) (og'.toList ++ (F ++ G)) w' [v'] (xs ++ [x]) ∧ (∀ b, b ∈ og'.toList ++ (F ++ G) → b ∈ og.toList ++ F ∨ b ∈ G ∨ w.heap.size ≤ b) ∧ ChgF (og.toList ++ F) w w' := by
  obtain ⟨h1, h2, h3⟩ := h
  have hGl := hx.lt
  have hFx : ∀ b, b ∈ F ++ G → w'.heap[b]? = w.heap[b]? := by
    intro b hb
    refine h2.block b ?_ ?_
    · rcases List.mem_append.1 hb with hb | hb
      · exact hlt b (by simp [hb])
      · exact hGl b hb
    · intro e
      rcases List.mem_append.1 hb with hb | hb
      · exact (List.nodup_append.1 hF).2.2 b (by simp [← e]) b hb rfl
      · exact hd b hb (by simp [← e])
  have hel' : ownL R w' (ds ++ c) (xs ++ [x]) (F ++ G) := (hel.append (ownL.single hx.1)).frame hFx
  refine ⟨⟨⟨v', og', ds ++ c, F ++ G, rfl, by simpa using h1, hel', rfl⟩, ?_⟩, ?_, ?_⟩
  · have hFG : (F ++ G).Nodup := List.nodup_append.2 ⟨(List.nodup_append.1 hF).2.1, hx.2, fun b hb b' hb' e => by subst e; exact hd b hb' (by simp [hb])⟩
    refine List.nodup_append.2 ⟨by cases og' <;> simp, hFG, fun b hb b' hb' e => ?_⟩
    subst e
    have hbo : og' = some b := by simpa using hb
    rcases h3 with h3 | ⟨g, h3, hg⟩
    · rcases List.mem_append.1 hb' with hb' | hb'
      · exact (List.nodup_append.1 hF).2.2 b (by simp [← h3, hbo]) b hb' rfl
      · exact hd b hb' (by simp [← h3, hbo])
    · rw [hbo] at h3
      cases h3
      rcases List.mem_append.1 hb' with hb' | hb'
      · have := hlt b (by simp [hb']); omega
      · have := hGl b hb'; omega
  · intro b hb
    simp only [List.mem_append, Option.mem_toList] at hb
    rcases hb with hb | hb | hb
    · rcases h3 with h3 | ⟨g, h3, hg⟩
      · exact .inl (by simp [← h3, hb])
      · rw [hb] at h3; cases h3; exact .inr (.inr hg)
    · exact .inl (by simp [hb])
    · exact .inr (.inl hb)
  · exact (ChgF.of_grown h2).mono (fun b hb => by simp [Option.mem_toList.1 hb])

theorem wpList_snocF {P : Program} {w : World} {ops : Array Oper} {rest : List Oper} {o : Oper} {a : Act} {Q : Exit → Act → World → Prop} (hgd : o.guard = none) (s x : Operand) (t : TypeId)
    (ho : o.op = .call { callee := .builtin .append, args := #[s, x], argTypes := #[t, t] })
    (e : TypeId) (z : Value) (k bytes : Nat) (T : ST P t e z k bytes) (hk : R.k = k)
    (v : Value) (xs : List α) (y : α) (c : List Value) (F G : List Nat) (hs : a.eval s = v) (hv : OwnF (RS R) F w [v] xs) (hy : OwnF R G w c y) (hd : ∀ b, b ∈ G → b ∉ F) (E : TypeId)
    {H : Nat} (hx : a.eval x = .slice (some ⟨H, 0, none⟩) 1 1) (hH : H = w.heap.size)
    (hbytes : (xs.length + 1) * bytes ≤ 140737488355328) (h63 : xs.length + 1 ≤ 140737488355328)
    (h : ∀ oa cap w' F', OwnF (RS R) F' w' [.slice oa (xs.length + 1) cap] (xs ++ [y]) → xs.length + 1 ≤ cap → cap ≤ 9223372036854775807 → (∀ b, b ∈ F' → b ∈ F ∨ b ∈ G ∨ w.heap.size ≤ b) → ChgF F w w' → wpList P ops Q rest (a.put o.dst (.slice oa (xs.length + 1) cap)) w') :
    wpList P ops Q (o :: rest) a (w.alloc (.cells c.toArray E)) := by
  subst hk
  have hlt := hv.lt
  obtain ⟨⟨v', og, ds, F0, h1, hrow, hel, rfl⟩, hn⟩ := hv
  simp only [List.cons.injEq, and_true] at h1
  subst h1
  refine wpList_append1 (w := w) hgd s x t ho e z R.k bytes T v xs.length ds og hs hrow E c hx hH (R.rd_len (R.own_rd hy.1)) (R.rd_one (R.own_rd hy.1)) hbytes (by unfold maxLen; omega) ?_
  intro v1 w1 og1 happ
  obtain ⟨k1, k2, k3⟩ := OwnF.snoc (v := v) hel hn hlt hy hd happ
  obtain ⟨oa, cap, e1, q1, q2⟩ := (OwnF.rd k1).val
  subst e1
  rw [List.length_append, List.length_singleton] at *
  unfold maxLen at q2
  exact h oa cap w1 _ k1 q1 (by omega) k2 k3

/-- An element of an owned list is replaced by one that is owned, in new blocks. -/
theorem OwnF.setRow {w : World} {v : Value} {xs : List α} {F : List Nat} (h : OwnF (RS R) F w [v] xs) (hk : R.k = 1) (i : Nat) (hi : i < xs.length) :
    ∃ g cap a, v = .slice (some ⟨g, 0, none⟩) xs.length cap ∧ xs.length ≤ cap ∧ cap ≤ 9223372036854775807 ∧ g < w.heap.size ∧ g ∈ F ∧ w.cell? ⟨g, i, none⟩ = some a ∧ Rd R w [a] xs[i] ∧
      ∀ (w1 : World) (y : α) (u : Value) (G : List Nat), Below w.heap.size w w1 → OwnF R G w1 [u] y → (∀ b, b ∈ G → w.heap.size ≤ b) →
        w1.cell? ⟨g, i, none⟩ = some a ∧ w1.frozen? ⟨g, i, none⟩ = false ∧ ∃ F', OwnF (RS R) F' (w1.setCell ⟨g, i, none⟩ u) [v] (xs.set i y) ∧ (∀ b, b ∈ F' → b ∈ F ∨ w.heap.size ≤ b) ∧ ChgF F w (w1.setCell ⟨g, i, none⟩ u) := by
  have hlt := h.lt
  have hnd := h.2
  obtain ⟨g, cap, d1, c, d2, F1, G0, F2, hv, hc1, hc2, rfl, hcl, hd1, hx, hrow, hK⟩ := h.lens i hi
  rw [hk] at hcl hd1
  rw [Nat.mul_one] at hd1
  match c, hcl with
  | [a], _ =>
  have hcell : w.cell? ⟨g, i, none⟩ = some a := hrow.cells i a (by rw [List.getElem?_append_right (by omega), hd1]; simp)
  have hgl := hlt g (by simp)
  refine ⟨g, cap, a, hv, hc1, hc2, hgl, by simp, hcell, Rd.of (R.own_rd hx), ?_⟩
  intro w1 y u G hbel hy hGl
  have hn1 := List.nodup_cons.1 hnd
  have hrow1 : Row w1 v R.k xs.length (d1 ++ ([a] ++ d2)) (some g) := hrow.frame (fun g' hg' => by cases hg'; exact hbel.block g hgl)
  obtain ⟨hst, hgr⟩ := hrow1.store i u
  have hset : (d1 ++ ([a] ++ d2)).set i u = d1 ++ ([u] ++ d2) := by
    rw [List.set_append_right _ _ (by omega), hd1, Nat.sub_self]; rfl
  rw [hset] at hst
  have hsub : ∀ b, b ∈ F1 ++ F2 → b ≠ g := fun b hm e => hn1.1 (by
    subst e
    rcases List.mem_append.1 hm with hm | hm
    · simp [hm]
    · simp [hm])
  have hfr : ∀ b, b ∈ F1 ++ F2 → (w1.setCell ⟨g, i, none⟩ u).heap[b]? = w.heap[b]? := by
    intro b hm
    rw [heap_setCell_other w1 ⟨g, i, none⟩ b u (hsub b hm)]
    refine hbel.block b (hlt b ?_)
    rcases List.mem_append.1 hm with hm | hm
    · simp [hm]
    · simp [hm]
  have hy' : R.own (w1.setCell ⟨g, i, none⟩ u) [u] y G := R.own_frame hy.1 (fun b hb => heap_setCell_other w1 ⟨g, i, none⟩ b u (by have := hGl b hb; show b ≠ g; omega))
  have hG : ∀ b, b ∈ G → b ∉ g :: (F1 ++ F2) := fun b hb hm => by
    have h1 := hGl b hb
    have : b < w.heap.size := by
      rcases List.mem_cons.1 hm with rfl | hm
      · exact hgl
      · rcases List.mem_append.1 hm with hm | hm
        · exact hlt b (by simp [hm])
        · exact hlt b (by simp [hm])
    omega
  have hnd' : (g :: (F1 ++ (G ++ F2))).Nodup := by
    have h2 := List.nodup_append.1 hn1.2
    have h3 := List.nodup_append.1 h2.2.1
    refine List.nodup_cons.2 ⟨?_, ?_⟩
    · intro hm
      simp only [List.mem_append] at hm
      rcases hm with hm | hm | hm
      · exact hsub g (by simp [hm]) rfl
      · exact hG g hm (by simp)
      · exact hsub g (by simp [hm]) rfl
    · refine List.nodup_append.2 ⟨h2.1, List.nodup_append.2 ⟨hy.2, h3.2.1, fun b hb b' hb' e => ?_⟩, fun b hb b' hb' e => ?_⟩
      · subst e; exact hG b hb (by simp [hb'])
      · subst e
        rcases List.mem_append.1 hb' with hb' | hb'
        · exact hG b hb' (by simp [hb])
        · exact h2.2.2 b hb b (by simp [hb']) rfl
  refine ⟨hrow1.cells i a (by rw [List.getElem?_append_right (by omega), hd1]; simp), hrow1.frozen i, _, hK _ [u] y G (by rw [hk]; rfl) hy' hfr hst hnd', ?_, ?_⟩
  · intro b hb
    simp only [List.mem_cons, List.mem_append] at hb
    rcases hb with hb | hb | hb | hb
    · exact .inl (by simp [hb])
    · exact .inl (by simp [hb])
    · exact .inr (hGl b hb)
    · exact .inl (by simp [hb])
  · refine (Below.chgF hbel).trans ((ChgF.of_grown hgr).mono (fun b hb => ?_))
    simp at hb
    simp [hb]
end
end Go.Proofs.Ytdjkmjifeekimaa
