/- Lemmas (0). -/
import Derived.BigQuiet
import Derived.Deep.QuietTactic
import Derived.Deep.Slices
import Derived.Lib.Hide
import Derived.OpenShut
import Derived.ProofKit
import Derived.Test.YtedgfkpfhonlpaaGreatProg
import Derived.WalkKit
import Derived.WalkLawsBesides
import Derived.WalkSpells
set_option linter.unusedSimpArgs false
set_option linter.unusedVariables false
namespace Go.Proofs.YtedgfkpfhonlpaaGreat
open Go.RowKit
section
def Row (w:World) (v:Value) (k n:Nat) (ds:List Value) (og:Option Nat):Prop :=
 ds.length = n * k∧((v = .slice none 0 0∧n = 0∧og = none) ∨
  ∃ g cap cur e,v = .slice (some ⟨g,0,none⟩) n cap∧og = some g∧w.heap[g]? = some (.cells cur e (0,0))∧n ≤ cap∧cap ≤ maxLen∧cur.size = cap * k∧cur.toList.take (n * k) = ds)
def rowAt (A:Nat→Prop) (w:World) (oa:Option Addr) (ds:List Value):Prop :=
 ds = [] ∨ ∃ b off,oa = some ⟨b,off,none⟩∧A b∧∀ j u,ds[j]? = some u→w.cell? ⟨b,off + j,none⟩ = some u
theorem rowAt.frame {A:Nat→Prop} {w w':World} {oa:Option Addr} {ds:List Value} (h:rowAt A w oa ds)
  (hf:∀ b,A b→b < w.heap.size→w'.heap[b]? = w.heap[b]?):rowAt A w' oa ds:=by
 rcases h with h|⟨b,off,h1,h2,h3⟩
 ·exact .inl h
 ·by_cases hd:ds = []
  ·exact .inl hd
  ·refine .inr ⟨b,off,h1,h2,fun j u hj => ?_⟩
   have hc:=h3 j u hj
   have hb:b < w.heap.size:=World.block_lt_of_cell? w _ hc
   exact (World.cell?_of_block (w:=w) (a:=⟨b,off + j,none⟩) (hf b h2 hb)).trans hc
theorem rowAt.mono {A A':Nat→Prop} {w:World} {oa:Option Addr} {ds:List Value} (h:rowAt A w oa ds)
  (hf:∀ b,A b→b < w.heap.size→A' b):rowAt A' w oa ds:=by
 rcases h with h|⟨b,off,h1,h2,h3⟩
 ·exact .inl h
 ·cases ds with
  | nil => exact .inl rfl
  | cons d ds =>
   have hb:b < w.heap.size:=World.block_lt_of_cell? w _ (h3 0 d rfl)
   exact .inr ⟨b,off,h1,hf b h2 hb,h3⟩
structure Rep (α:Type) where
 k:Nat
 rd:(Nat→Prop)→World→List Value→α→Prop
 own:World→List Value→α→List Nat→Prop
 kpos:0 < k
 rd_len:∀ {A w cs x},rd A w cs x→cs.length = k
 rd_one:∀ {A w cs x},rd A w cs x→∀ v ∈ cs,v.oneCell' = true
 rd_frame:∀ {A w w' cs x},rd A w cs x→(∀ b,A b→b < w.heap.size→w'.heap[b]? = w.heap[b]?)→rd A w' cs x
 rd_mono:∀ {A A' w cs x},rd A w cs x→(∀ b,A b→b < w.heap.size→A' b)→rd A' w cs x
 own_rd:∀ {w cs x F},own w cs x F→rd (· ∈ F) w cs x
 own_frame:∀ {w w' cs x F},own w cs x F→(∀ b,b ∈ F→w'.heap[b]? = w.heap[b]?)→own w' cs x F
 own_lt:∀ {w cs x F},own w cs x F→∀ b,b ∈ F→b < w.heap.size
def RI:Rep Int where
 k:=1
 rd:=fun _ _ cs n => cs = [.int .i64 n]∧-9223372036854775808 ≤ n∧n ≤ 9223372036854775807
 own:=fun _ cs n F => (cs = [.int .i64 n]∧-9223372036854775808 ≤ n∧n ≤ 9223372036854775807)∧F = []
 kpos:=by decide
 rd_len:=by intro A w cs x h;rw [h.1];rfl
 rd_one:=by intro A w cs x h v hv;rw [h.1] at hv;simp at hv;subst hv;rfl
 rd_frame:=fun h _ => h
 rd_mono:=fun h _ => h
 own_rd:=fun h => h.1
 own_frame:=fun h _ => h
 own_lt:=by intro w cs x F h b hb;rw [h.2] at hb;simp at hb
def RP {α β:Type} (R:Rep α) (S:Rep β):Rep (α × β) where
 k:=R.k + S.k
 rd:=fun A w cs x => ∃ c d,cs = c ++ d∧R.rd A w c x.1∧S.rd A w d x.2
 own:=fun w cs x F => ∃ c d G H,cs = c ++ d∧F = G ++ H∧R.own w c x.1 G∧S.own w d x.2 H
 kpos:=by have:=R.kpos;omega
 rd_len:=by
  rintro A w cs x ⟨c,d,rfl,h1,h2⟩
  rw [List.length_append,R.rd_len h1,S.rd_len h2]
 rd_one:=by
  rintro A w cs x ⟨c,d,rfl,h1,h2⟩ v hv
  rcases List.mem_append.1 hv with h|h
  ·exact R.rd_one h1 v h
  ·exact S.rd_one h2 v h
 rd_frame:=by
  rintro A w w' cs x ⟨c,d,rfl,h1,h2⟩ hf
  exact ⟨c,d,rfl,R.rd_frame h1 hf,S.rd_frame h2 hf⟩
 rd_mono:=by
  rintro A A' w cs x ⟨c,d,rfl,h1,h2⟩ hf
  exact ⟨c,d,rfl,R.rd_mono h1 hf,S.rd_mono h2 hf⟩
 own_rd:=by
  rintro w cs x F ⟨c,d,G,H,rfl,rfl,h1,h2⟩
  exact ⟨c,d,rfl,R.rd_mono (R.own_rd h1) (fun _ hb _ => List.mem_append_left _ hb),S.rd_mono (S.own_rd h2) (fun _ hb _ => List.mem_append_right _ hb)⟩
 own_frame:=by
  rintro w w' cs x F ⟨c,d,G,H,rfl,rfl,h1,h2⟩ hf
  exact ⟨c,d,G,H,rfl,rfl,R.own_frame h1 (fun b hb => hf b (List.mem_append_left _ hb)),S.own_frame h2 (fun b hb => hf b (List.mem_append_right _ hb))⟩
 own_lt:=by
  rintro w cs x F ⟨c,d,G,H,rfl,rfl,h1,h2⟩ b hb
  rcases List.mem_append.1 hb with h|h
  ·exact R.own_lt h1 b h
  ·exact S.own_lt h2 b h
def rdL {α:Type} (R:Rep α) (A:Nat→Prop) (w:World):List Value→List α→Prop
 | ds,[] => ds = []
 | ds,x :: xs => ∃ c d,ds = c ++ d∧R.rd A w c x∧rdL R A w d xs
def ownL {α:Type} (R:Rep α) (w:World):List Value→List α→List Nat→Prop
 | ds,[],F => ds = []∧F = []
 | ds,x :: xs,F => ∃ c d G H,ds = c ++ d∧F = G ++ H∧R.own w c x G∧ownL R w d xs H
section lists
variable {α:Type} {R:Rep α} {A A':Nat→Prop} {w w':World}
theorem rdL.len:∀ {xs:List α} {ds:List Value},rdL R A w ds xs→ds.length = xs.length * R.k
 | [],ds,h => by cases h;simp
 | x :: xs,ds,h => by
  obtain ⟨c,d,rfl,h1,h2⟩:=h
  rw [List.length_append,R.rd_len h1,rdL.len h2,List.length_cons,Nat.add_mul,Nat.one_mul,Nat.add_comm]
theorem rdL.one:∀ {xs:List α} {ds:List Value},rdL R A w ds xs→∀ v ∈ ds,v.oneCell' = true
 | [],ds,h => by cases h;simp
 | x :: xs,ds,h => by
  obtain ⟨c,d,rfl,h1,h2⟩:=h
  intro v hv
  rcases List.mem_append.1 hv with h|h
  ·exact R.rd_one h1 v h
  ·exact rdL.one h2 v h
theorem rdL.frame (hf:∀ b,A b→b < w.heap.size→w'.heap[b]? = w.heap[b]?):∀ {xs:List α} {ds:List Value},rdL R A w ds xs→rdL R A w' ds xs
 | [],_,h => h
 | _ :: _,_,⟨c,d,e,h1,h2⟩ => ⟨c,d,e,R.rd_frame h1 hf,rdL.frame hf h2⟩
theorem rdL.mono (hf:∀ b,A b→b < w.heap.size→A' b):∀ {xs:List α} {ds:List Value},rdL R A w ds xs→rdL R A' w ds xs
 | [],_,h => h
 | _ :: _,_,⟨c,d,e,h1,h2⟩ => ⟨c,d,e,R.rd_mono h1 hf,rdL.mono hf h2⟩
theorem rdL.append:∀ {xs ys:List α} {ds es:List Value},rdL R A w ds xs→rdL R A w es ys→rdL R A w (ds ++ es) (xs ++ ys)
 | [],_,ds,_,h,k => by cases h;exact k
 | _ :: _,_,_,es,⟨c,d,e,h1,h2⟩,k => ⟨c,d ++ es,by rw [e,List.append_assoc],h1,rdL.append h2 k⟩
theorem rdL.single {c:List Value} {x:α} (h:R.rd A w c x):rdL R A w c [x]:=⟨c,[],by simp,h,rfl⟩
theorem rdL.get:∀ {xs:List α} {ds:List Value},rdL R A w ds xs→∀ i (hi:i < xs.length),
  ∃ c,R.rd A w c xs[i]∧∀ j u,c[j]? = some u→ds[i * R.k + j]? = some u
 | [],_,_,i,hi => absurd hi (Nat.not_lt_zero _)
 | x :: xs,ds,⟨c,d,e,h1,h2⟩,0,hi => ⟨c,h1,fun j u hj => by
   rw [e,Nat.zero_mul,Nat.zero_add,List.getElem?_append_left (by have:=(List.getElem?_eq_some_iff.1 hj).1;exact this)];exact hj⟩
 | x :: xs,ds,⟨c,d,e,h1,h2⟩,i + 1,hi => by
  obtain ⟨c',h3,h4⟩:=rdL.get h2 i (by simpa using hi)
  refine ⟨c',h3,fun j u hj => ?_⟩
  have hc:=R.rd_len h1
  rw [e,List.getElem?_append_right (by rw [hc,Nat.add_mul];omega),hc]
  rw [show (i + 1) * R.k + j - R.k = i * R.k + j by rw [Nat.add_mul];omega]
  exact h4 j u hj
theorem rdL.take:∀ {xs:List α} {ds:List Value},rdL R A w ds xs→∀ n,n ≤ xs.length→rdL R A w (ds.take (n * R.k)) (xs.take n)
 | _,_,_,0,_ => by simp [rdL]
 | [],_,_,n + 1,hn => absurd hn (by simp)
 | x :: xs,ds,⟨c,d,e,h1,h2⟩,n + 1,hn => by
  have hc:=R.rd_len h1
  refine ⟨c,d.take (n * R.k),?_,h1,rdL.take h2 n (by simpa using hn)⟩
  rw [e,Nat.add_mul,Nat.one_mul,Nat.add_comm,List.take_append,hc,List.take_of_length_le (by omega)]
  congr 2
  omega
theorem rdL.drop:∀ {xs:List α} {ds:List Value},rdL R A w ds xs→∀ n,n ≤ xs.length→rdL R A w (ds.drop (n * R.k)) (xs.drop n)
 | _,_,h,0,_ => by simpa using h
 | [],_,_,n + 1,hn => absurd hn (by simp)
 | x :: xs,ds,⟨c,d,e,h1,h2⟩,n + 1,hn => by
  have hc:=R.rd_len h1
  have:=rdL.drop h2 n (by simpa using hn)
  rw [e,Nat.add_mul,Nat.one_mul,Nat.add_comm,List.drop_append,hc,List.drop_of_length_le (by omega),show R.k + n * R.k - R.k = n * R.k by omega]
  simpa using this
theorem ownL.rd:∀ {xs:List α} {ds:List Value} {F:List Nat},ownL R w ds xs F→rdL R (· ∈ F) w ds xs
 | [],_,_,h => h.1
 | _ :: _,_,_,⟨c,d,G,H,e,rfl,h1,h2⟩ => ⟨c,d,e,R.rd_mono (R.own_rd h1) (fun _ hb _ => List.mem_append_left _ hb),
   rdL.mono (fun _ hb _ => List.mem_append_right _ hb) (ownL.rd h2)⟩
theorem ownL.frame:∀ {xs:List α} {ds:List Value} {F:List Nat},ownL R w ds xs F→(∀ b,b ∈ F→w'.heap[b]? = w.heap[b]?)→ownL R w' ds xs F
 | [],_,_,h,_ => h
 | _ :: _,_,_,⟨c,d,G,H,e,rfl,h1,h2⟩,hf => ⟨c,d,G,H,e,rfl,R.own_frame h1 (fun b hb => hf b (List.mem_append_left _ hb)),
   ownL.frame h2 (fun b hb => hf b (List.mem_append_right _ hb))⟩
theorem ownL.lt:∀ {xs:List α} {ds:List Value} {F:List Nat},ownL R w ds xs F→∀ b,b ∈ F→b < w.heap.size
 | [],_,_,h,b,hb => by rw [h.2] at hb;simp at hb
 | _ :: _,_,_,⟨c,d,G,H,e,rfl,h1,h2⟩,b,hb => by
  rcases List.mem_append.1 hb with h|h
  ·exact R.own_lt h1 b h
  ·exact ownL.lt h2 b h
theorem ownL.append:∀ {xs ys:List α} {ds es:List Value} {F G:List Nat},ownL R w ds xs F→ownL R w es ys G→ownL R w (ds ++ es) (xs ++ ys) (F ++ G)
 | [],_,ds,_,F,_,h,k => by obtain ⟨rfl,rfl⟩:=h;exact k
 | _ :: _,_,_,es,_,G',⟨c,d,G,H,e,e',h1,h2⟩,k => ⟨c,d ++ es,G,H ++ G',by rw [e,List.append_assoc],by rw [e',List.append_assoc],h1,ownL.append h2 k⟩
theorem ownL.single {c:List Value} {x:α} {F:List Nat} (h:R.own w c x F):ownL R w c [x] F:=⟨c,[],F,[],by simp,by simp,h,rfl,rfl⟩
theorem ownL.len {xs:List α} {ds:List Value} {F:List Nat} (h:ownL R w ds xs F):ds.length = xs.length * R.k:=h.rd.len
theorem ownL.one {xs:List α} {ds:List Value} {F:List Nat} (h:ownL R w ds xs F):∀ v ∈ ds,v.oneCell' = true:=h.rd.one
end lists
theorem Row.lt {w:World} {v:Value} {k n:Nat} {ds:List Value} {og:Option Nat} (h:Row w v k n ds og):∀ g,og = some g→g < w.heap.size:=by
 intro g hg
 rcases h.2 with ⟨_,_,rfl⟩|⟨g',cap,cur,e,_,rfl,hh,_⟩
 ·cases hg
 ·cases hg;exact (Array.getElem?_eq_some_iff.1 hh).1
theorem Row.frame {w w':World} {v:Value} {k n:Nat} {ds:List Value} {og:Option Nat} (h:Row w v k n ds og) (hf:∀ g,og = some g→w'.heap[g]? = w.heap[g]?):Row w' v k n ds og:=by
 refine ⟨h.1,?_⟩
 rcases h.2 with hn|⟨g',cap,cur,e,h1,rfl,hh,h2⟩
 ·exact .inl hn
 ·exact .inr ⟨g',cap,cur,e,h1,rfl,(hf g' rfl).trans hh,h2⟩
def RS {α:Type} (R:Rep α):Rep (List α) where
 k:=1
 rd:=fun A w cs xs => ∃ oa cap ds,cs = [.slice oa xs.length cap]∧xs.length ≤ cap∧cap ≤ maxLen∧(oa = none→cap = 0)∧rdL R A w ds xs∧rowAt A w oa ds
 own:=fun w cs xs F => ∃ v og ds G,cs = [v]∧Row w v R.k xs.length ds og∧ownL R w ds xs G∧F = og.toList ++ G
 kpos:=by decide
 rd_len:=by rintro A w cs x ⟨oa,cap,ds,rfl,_⟩;rfl
 rd_one:=by rintro A w cs x ⟨oa,cap,ds,rfl,_⟩ v hv;simp at hv;subst hv;rfl
 rd_frame:=by
  rintro A w w' cs x ⟨oa,cap,ds,h1,h2,h3,h4,h5,h6⟩ hf
  exact ⟨oa,cap,ds,h1,h2,h3,h4,h5.frame hf,h6.frame hf⟩
 rd_mono:=by
  rintro A A' w cs x ⟨oa,cap,ds,h1,h2,h3,h4,h5,h6⟩ hf
  exact ⟨oa,cap,ds,h1,h2,h3,h4,h5.mono hf,h6.mono hf⟩
 own_rd:=by
  rintro w cs x F ⟨v,og,ds,G,rfl,⟨hl,hr⟩,ho,rfl⟩
  rcases hr with ⟨rfl,hn,rfl⟩|⟨g,cap,cur,e,rfl,rfl,hh,hc,hm,hs,ht⟩
  ·refine ⟨none,0,ds,by rw [hn],by omega,by decide,fun _ => rfl,ho.rd.mono (fun b hb _ => by simpa using hb),.inl ?_⟩
   exact List.eq_nil_of_length_eq_zero (by rw [hl,hn,Nat.zero_mul])
  ·refine ⟨some ⟨g,0,none⟩,cap,ds,rfl,hc,hm,by simp,ho.rd.mono (fun b hb _ => List.mem_append_right _ hb),.inr ⟨g,0,rfl,by simp,fun j u hj => ?_⟩⟩
   rw [Nat.zero_add,cell_of_row w g j cur e (0,0) hh]
   rw [← ht,List.getElem?_take] at hj
   split at hj
   ·simpa using hj
   ·cases hj
 own_frame:=by
  rintro w w' cs x F ⟨v,og,ds,G,h1,h2,h3,rfl⟩ hf
  exact ⟨v,og,ds,G,h1,h2.frame (fun g hg => hf g (by simp [hg])),h3.frame (fun b hb => hf b (List.mem_append_right _ hb)),rfl⟩
 own_lt:=by
  rintro w cs x F ⟨v,og,ds,G,h1,h2,h3,rfl⟩ b hb
  rcases List.mem_append.1 hb with h|h
  ·exact h2.lt b (by simpa using h)
  ·exact h3.lt b h
end
section
structure ST (P:Program) (T E:TypeId) (z:Value) (k bytes:Nat):Prop where
 ht:P.underlying T = some (.slice E)
 hi:∃ i,P.info? E = some i∧i.zero = some z∧i.size = k∧i.bytes = bytes
 hz:z.cells.size = k
 hk:0 < k
theorem ST.mk' {P:Program} {T E:TypeId} {z:Value} {k bytes:Nat} (h1:P.underlying T = some (.slice E))
  (h2:(P.info? E).map (fun i => (i.zero,i.size,i.bytes)) = some (some z,k,bytes)) (h3:z.cells.size = k) (h4:0 < k):ST P T E z k bytes :=
 ⟨h1,info_parts h2,h3,h4⟩
section
variable {P:Program} {w:World}
theorem Row.cells {v:Value} {k n:Nat} {ds:List Value} {g:Nat} (h:Row w v k n ds (some g)):∀ j u,ds[j]? = some u→w.cell? ⟨g,j,none⟩ = some u:=by
 intro j u hu
 rcases h.2 with ⟨_,_,h0⟩|⟨g',cap,cur,e,_,h1,hh,_,_,_,ht⟩
 ·cases h0
 ·cases h1
  rw [cell_of_row w g j cur e (0,0) hh]
  rw [← ht,List.getElem?_take] at hu
  split at hu
  ·simpa using hu
  ·cases hu
theorem Row.frozen {v:Value} {k n:Nat} {ds:List Value} {g:Nat} (h:Row w v k n ds (some g)) (j:Nat):w.frozen? ⟨g,j,none⟩ = false:=by
 rcases h.2 with ⟨_,_,h0⟩|⟨g',cap,cur,e,_,h1,hh,_⟩
 ·cases h0
 ·cases h1;exact frozen_of_row w g j cur e hh
theorem Row.nil (w:World) (k:Nat):Row w (.slice none 0 0) k 0 [] none:=⟨by simp,.inl ⟨rfl,rfl,rfl⟩⟩
theorem Row.lit (w:World) (cs:Array Value) (e:TypeId) (k n:Nat) (hm:n ≤ maxLen) (hs:cs.size = n * k) :
  Row (w.alloc (.cells cs e)) (.slice (some ⟨w.heap.size,0,none⟩) n n) k n cs.toList (some w.heap.size) :=
 ⟨by simpa using hs,.inr ⟨w.heap.size,n,cs,e,rfl,rfl,Go.heap_alloc_new w _,Nat.le_refl _,hm,hs,List.take_of_length_le (by rw [Array.length_toList,hs];exact Nat.le_refl _)⟩⟩
theorem Row.alloc {v:Value} {k n:Nat} {ds:List Value} {og:Option Nat} (h:Row w v k n ds og) (o:Obj):Row (w.alloc o) v k n ds og :=
 h.frame fun g hg => Below.heap_alloc w o g (h.lt g hg)
theorem Row.value {v:Value} {k n:Nat} {ds:List Value} {og:Option Nat} (h:Row w v k n ds og):∃ oa cap,v = .slice oa n cap∧n ≤ cap∧cap ≤ maxLen∧(oa = none→cap = 0)∧oa = og.map fun g => ⟨g,0,none⟩:=by
 rcases h.2 with ⟨rfl,rfl,rfl⟩|⟨g',cap,cur,e,rfl,rfl,hh,h1,h2,_⟩
 ·exact ⟨none,0,rfl,Nat.le_refl _,by decide,fun _ => rfl,rfl⟩
 ·exact ⟨_,cap,rfl,h1,h2,by simp,rfl⟩
theorem Row.val {v:Value} {k n:Nat} {ds:List Value} {og:Option Nat} (h:Row w v k n ds og):∃ oa cap,v = .slice oa n cap∧n ≤ cap∧cap ≤ maxLen:=by
 obtain ⟨oa,cap,h1,h2,h3,_⟩:=h.value
 exact ⟨oa,cap,h1,h2,h3⟩
theorem Row.len0 {w:World} {v:Value} {k n:Nat} {ds:List Value} (h:Row w v k n ds none):n = 0:=by
 rcases h.2 with ⟨_,h,_⟩|⟨_,_,_,_,_,h,_⟩
 ·exact h
 ·cases h
theorem Row.some_of {w:World} {v:Value} {k n:Nat} {ds:List Value} {og:Option Nat} (h:Row w v k n ds og) {j:Nat} (hj:j < n):∃ g,og = some g:=by
 cases og with
 | none => have:=h.len0;omega
 | some g => exact ⟨g,rfl⟩
theorem Row.slice {w:World} {v:Value} {k n:Nat} {ds:List Value} {g:Nat} (h:Row w v k n ds (some g)):∃ cap,v = .slice (some ⟨g,0,none⟩) n cap∧n ≤ cap∧cap ≤ maxLen:=by
 rcases h.2 with ⟨_,_,h0⟩|⟨g',cap,_,_,e,h0,_,h1,h2,_⟩
 ·cases h0
 ·cases h0;exact ⟨cap,e,h1,h2⟩
theorem Row.store {v:Value} {k n:Nat} {ds:List Value} {g:Nat} (h:Row w v k n ds (some g)) (j:Nat) (u:Value) :
  Row (w.setCell ⟨g,j,none⟩ u) v k n (ds.set j u) (some g)∧w.grownBy (w.setCell ⟨g,j,none⟩ u) (some g):=by
 rcases h.2 with ⟨_,_,h0⟩|⟨g',cap,cur,e,hv,h1,hg,hnc,hcm,hcs,htake⟩
 ·cases h0
 ·cases h1
  refine ⟨⟨by simpa using h.1,.inr ⟨g,cap,cur.setIfInBounds j u,e,hv,rfl,heap_setCell_same w g j cur e u hg,hnc,hcm,by simpa using hcs,?_⟩⟩,
   ⟨rfl,rfl,rfl,by simp,fun k _ hk => heap_setCell_other w ⟨g,j,none⟩ k u (fun e => hk (by simp [e]))⟩⟩
  rw [Array.toList_setIfInBounds,← htake,List.take_set]
def yB (w w':World) (v':Value) (k n:Nat) (ds:List Value) (og og':Option Nat):Prop :=
 Row w' v' k n ds og'∧w.grownBy w' og∧(og' = og ∨ ∃ g,og' = some g∧w.heap.size ≤ g)
theorem yH0 (t ty e:TypeId) (z:Value) (k bytes:Nat) (T:ST P t e z k bytes)
  (v:Value) (n:Nat) (ds:List Value) (og:Option Nat) (hown:Row w v k n ds og)
  (ao:Option Addr) (m c:Nat) (news:List Value) (hl:news.length = m * k) (hnone:ao = none→m = 0) (hnews:∀ a,ao = some a→∀ j u,news[j]? = some u→w.cell? (a.add j) = some u) (h1:∀ u ∈ news,u.oneCell' = true)
  (hbytes:(n + m) * bytes ≤ 140737488355328) (h63:n + m ≤ maxLen) :
  ∃ v' w' og',(Builtin.append_ #[t,t] ty #[v,.slice ao m c]).run P w = .ok v' w'∧yB w w' v' k (n + m) (ds ++ news) og og':=by
 obtain ⟨ht,⟨i,hi,hz,rfl,rfl⟩,hzs,hsz⟩:=T
 have hsmall:n + m ≤ 9223372036854775807:=by simp only [maxLen] at h63;omega
 have hlen:(ds ++ news).length = (n + m) * i.size:=by rw [List.length_append,hown.1,hl,Nat.add_mul]
 have hnone0:m = 0→news = []:=fun h => List.eq_nil_of_length_eq_zero (by rw [hl,h,Nat.zero_mul])
 have grown:∀ (old:Nat),old < n + m→∀ (row:Option Nat),
   yB w (w.drew.alloc (.cells (ds.toArray ++ news.toArray ++ Builtin.zeroCells z.cells (grownCap w (n + m) old e - (n + m))) e))
    (.slice (some ⟨w.heap.size,0,none⟩) (n + m) (grownCap w (n + m) old e)) i.size (n + m) (ds ++ news) row (some w.heap.size):=by
  intro old ho row
  have hge:=grownCap_ge w (n + m) old e
  have hcm:grownCap w (n + m) old e ≤ maxLen:=grownCap_le_maxLen w (n + m) old e h63
  refine ⟨⟨hlen,.inr ⟨w.heap.size,_,_,e,rfl,rfl,Go.heap_alloc_new w.drew _,hge,hcm,?_,?_⟩⟩,⟨rfl,rfl,rfl,by simp,fun k hk _ => Below.heap_alloc w.drew _ k hk⟩,.inr ⟨_,rfl,Nat.le_refl _⟩⟩
  ·simp only [Array.size_append,List.size_toArray,size_zeroCells,hzs,hown.1,hl,← Nat.add_mul]
   congr 1
   omega
  ·simp only [Array.toList_append,List.append_assoc]
   rw [← List.append_assoc,← hlen]
   exact List.take_left
 cases ao with
 | none =>
  have hm:=hnone rfl
  have hn0:=hnone0 hm
  subst hm;subst hn0
  refine ⟨v,w,og,?_,by simpa using ⟨hown,⟨rfl,rfl,rfl,Nat.le_refl _,fun _ _ _ => rfl⟩,.inl rfl⟩⟩
  rcases hown.2 with ⟨rfl,rfl,rfl⟩|⟨g,cap,cur,e',rfl,rfl,_,hnc,_⟩
  ·simp [Builtin.append_,run_underlying ht,sizeOf,typeInfo,hi,Builtin.lenOf,Builtin.firstCells]
  ·simp [Builtin.append_,run_underlying ht,sizeOf,typeInfo,hi,Builtin.lenOf,Builtin.firstCells,hnc,storeCells]
 | some a =>
  have hnews:=hnews a rfl
  rcases hown.2 with ⟨rfl,rfl,rfl⟩|⟨g,cap,cur,e',rfl,rfl,hg,hnc,hcm,hcs,htake⟩
  ·have hx:ds = []:=List.eq_nil_of_length_eq_zero (by simpa using hown.1)
   subst hx
   by_cases hm:m = 0
   ·have hn:=hnone0 hm
    subst hm;subst hn
    refine ⟨.slice none 0 0,w,none,?_,by simpa using ⟨hown,⟨rfl,rfl,rfl,Nat.le_refl _,fun _ _ _ => rfl⟩,.inl rfl⟩⟩
    simp [Builtin.append_,run_underlying ht,sizeOf,typeInfo,hi,Builtin.lenOf,Builtin.firstCells,loadCells,loadCellsFrom]
   ·have hr:=run_append_nil (P:=P) w t ty e i z ht hi hz a m c news hl hnews (by omega) (by omega) (by have hb:=hbytes;simp only [Nat.zero_add] at hb;omega)
    have hgr:=grown 0 (by omega) none
    simp only [Nat.zero_add,List.nil_append,Array.empty_append] at hgr ⊢
    exact ⟨_,_,_,hr,hgr⟩
  ·by_cases hroom:n + m ≤ cap
   ·have hfit:n * i.size + news.length ≤ cur.size:=by rw [hl,hcs,← Nat.add_mul];exact Nat.mul_le_mul_right _ hroom
    have hf:=run_firstCells_some (P:=P) w i.size m a m c news hl hnews
    have hst:=run_storeCells_at P g (n * i.size) e' news 0 cur w hg (by simpa using hfit) h1
    simp only [Nat.add_zero] at hst
    refine ⟨.slice (some ⟨g,0,none⟩) (n + m) cap,w.setRow g (cur.toList.take (n * i.size) ++ news ++ cur.toList.drop (n * i.size + news.length)).toArray,some g,?_,
     ⟨hlen,.inr ⟨g,cap,_,e',rfl,rfl,setRow_heap w g cur _ e' _ hg,hroom,hcm,?_,?_⟩⟩,⟨rfl,rfl,rfl,by simp,fun k _ hk => setRow_other w g k _ (fun e => hk (by simp [e]))⟩,.inl rfl⟩
    ·simp [Builtin.append_,run_underlying ht,sizeOf,typeInfo,hi,Builtin.lenOf,hroom,hf,Addr.add_lit,hst]
    ·simp only [List.size_toArray,List.length_append,List.length_take,List.length_drop,Array.length_toList]
     omega
    ·rw [htake,← hlen]
     exact List.take_left
   ·have holds:∀ j u,ds[j]? = some u→w.cell? ((⟨g,0,none⟩:Addr).add j) = some u:=by
     intro j u hj
     rw [Addr.add_lit,Nat.zero_add]
     exact Row.cells (w:=w) hown j u hj
    have hr:=run_append_grow (P:=P) w t ty e i z ht hi hz ⟨g,0,none⟩ n cap ds hown.1 holds a m c news hl hnews (by omega) (by omega) (growslice_fits (by omega) hbytes)
    exact ⟨_,_,_,hr,grown cap (by omega) _⟩
theorem xD {ops:Array Oper} {rest:List Oper} {o:Oper} {a:Act} {Q:Exit→Act→World→Prop} (hgd:o.guard = none) (s x:Operand) (t:TypeId)
  (ho:o.op = .call { callee:=.builtin .append,args:=#[s,x],argTypes:=#[t,t] })
  (e:TypeId) (z:Value) (k bytes:Nat) (T:ST P t e z k bytes)
  (v:Value) (n:Nat) (ds:List Value) (og:Option Nat) (hs:a.eval s = v) (hown:Row w v k n ds og)
  (ao:Option Addr) (m c:Nat) (news:List Value) (hx:a.eval x = .slice ao m c) (hl:news.length = m * k) (hnone:ao = none→m = 0) (hnews:∀ a,ao = some a→∀ j u,news[j]? = some u→w.cell? (a.add j) = some u) (h1:∀ u ∈ news,u.oneCell' = true)
  (hbytes:(n + m) * bytes ≤ 140737488355328) (h63:n + m ≤ maxLen)
  (h:∀ v' w' og',yB w w' v' k (n + m) (ds ++ news) og og'→wpList P ops Q rest (a.put o.dst v') w'):wpList P ops Q (o :: rest) a w :=
 wpList_plain hgd fun _ hK => by
  obtain ⟨v',w',og',hr,h2⟩:=yH0 (P:=P) (w:=w) t o.type e z k bytes T v n ds og hown ao m c news hl hnone hnews h1 hbytes h63
  unfold Oper.wp execOp
  simp only [ho,resolve,invoke,builtin,Sem.run_bind,Sem.run_pure,Result.andThen_ok,List.map_toArray,List.map_cons,List.map_nil,hs,hx,hr]
  exact hK _ _ (h v' w' og' h2)
theorem vK0 {w':World} {o:Obj} {row:Option Nat} (h:(w.alloc o).grownBy w' row):w.grownBy w' row :=
 ⟨h.os,h.tape,h.output,by have:=h.size;simp at this;omega,fun k hk hne => (h.block k (by simp;omega) hne).trans (Below.heap_alloc w o k hk)⟩
theorem yB.of_alloc {w':World} {o:Obj} {v':Value} {k n:Nat} {ds:List Value} {og og':Option Nat} (h:yB (w.alloc o) w' v' k n ds og og'):yB w w' v' k n ds og og' :=
 ⟨h.1,vK0 h.2.1,h.2.2.imp id fun ⟨g,h1,h2⟩ => ⟨g,h1,by simp at h2;omega⟩⟩
theorem xX0 {ops:Array Oper} {rest:List Oper} {o:Oper} {a:Act} {Q:Exit→Act→World→Prop} (hgd:o.guard = none) (s x:Operand) (t:TypeId)
  (ho:o.op = .call { callee:=.builtin .append,args:=#[s,x],argTypes:=#[t,t] })
  (e:TypeId) (z:Value) (k bytes:Nat) (T:ST P t e z k bytes)
  (v:Value) (n:Nat) (ds:List Value) (og:Option Nat) (hs:a.eval s = v) (hown:Row w v k n ds og) (E:TypeId)
  (news:List Value) {H:Nat} (hx:a.eval x = .slice (some ⟨H,0,none⟩) 1 1) (hH:H = w.heap.size) (hl:news.length = k) (h1:∀ u ∈ news,u.oneCell' = true)
  (hbytes:(n + 1) * bytes ≤ 140737488355328) (h63:n + 1 ≤ maxLen)
  (h:∀ v' w' og',yB w w' v' k (n + 1) (ds ++ news) og og'→wpList P ops Q rest (a.put o.dst v') w'):wpList P ops Q (o :: rest) a (w.alloc (.cells news.toArray E)):=by
 subst hH
 exact xD hgd s x t ho e z k bytes T v n ds og hs (hown.alloc _) (some ⟨w.heap.size,0,none⟩) 1 1 news hx (by rw [hl,Nat.one_mul]) (fun h => by cases h)
  (fun a ha j u hj => by cases ha;rw [Addr.add_lit,Nat.zero_add,World.cell?_alloc_at _ _ _ _ rfl];simpa using hj) h1 hbytes h63 (fun v' w' og' h' => h v' w' og' h'.of_alloc)
structure Same (W w:World):Prop where
 heap:W.heap = w.heap
 os:W.os = w.os
 tape:W.tape = w.tape
 output:W.output = w.output
theorem Row.same {W:World} {v:Value} {k n:Nat} {ds:List Value} {og:Option Nat} (h:Row w v k n ds og) (hW:Same W w):Row W v k n ds og:=by
 refine h.frame fun g _ => by rw [hW.heap]
theorem yB.same {W w':World} {v':Value} {k n:Nat} {ds:List Value} {og og':Option Nat} (h:yB W w' v' k n ds og og') (hW:Same W w):yB w w' v' k n ds og og':=by
 obtain ⟨h1,h2,h3⟩:=h
 exact ⟨h1,⟨h2.os.trans hW.os,h2.tape.trans hW.tape,h2.output.trans hW.output,by rw [← hW.heap];exact h2.size,fun k hk hne => by rw [← hW.heap];exact h2.block k (by rw [hW.heap];exact hk) hne⟩,by rw [← hW.heap];exact h3⟩
theorem step_append1 {ops:Array Oper} {o:Oper} {a:Act} {K:Act→World→Prop} {Q:Exit→Act→World→Prop} {E:Prop} (hgd:o.guard = none) (s x:Operand) (t:TypeId)
  (ho:o.op = .call { callee:=.builtin .append,args:=#[s,x],argTypes:=#[t,t] })
  (e:TypeId) (z:Value) (k bytes:Nat) (T:ST P t e z k bytes)
  (v:Value) (n:Nat) (ds:List Value) (og:Option Nat) (hs:a.eval s = v) (hown:Row w v k n ds og) (Ety:TypeId)
  (news:List Value) {H:Nat} (hx:a.eval x = .slice (some ⟨H,0,none⟩) 1 1) (hH:H = w.heap.size) (hl:news.length = k) (h1:∀ u ∈ news,u.oneCell' = true)
  (hbytes:(n + 1) * bytes ≤ 140737488355328) (h63:n + 1 ≤ maxLen) {W:World} (hW:Same W (w.alloc (.cells news.toArray Ety)))
  (h:∀ v' w' og',yB w w' v' k (n + 1) (ds ++ news) og og'→K (a.put o.dst v') w'):if Region.wanted o (yielded ops a.tmps) = true then Oper.wp P o a W K Q else E:=by
 have hw:Region.wanted o (yielded ops a.tmps) = true:=by simp [Region.wanted,hgd]
 rw [if_pos hw]
 subst hH
 obtain ⟨v',w',og',hr,h2⟩:=yH0 (P:=P) (w:=W) t o.type e z k bytes T v n ds og ((hown.alloc _).same hW) (some ⟨w.heap.size,0,none⟩) 1 1 news (by rw [hl,Nat.one_mul]) (fun h => by cases h)
  (fun a ha j u hj => by
   cases ha;rw [Addr.add_lit,Nat.zero_add]
   have hc:(w.alloc (.cells news.toArray Ety)).cell? ⟨w.heap.size,j,none⟩ = some u:=by rw [World.cell?_alloc_at _ _ _ _ rfl];simpa using hj
   rw [← hc];simp only [World.cell?,hW.heap]) h1 hbytes h63
 unfold Oper.wp execOp
 simp only [ho,resolve,invoke,builtin,Sem.run_bind,Sem.run_pure,Result.andThen_ok,List.map_toArray,List.map_cons,List.map_nil,hs,hx,hr]
 exact h v' w' og' (h2.same hW).of_alloc
end
def Own {α:Type} (R:Rep α) (lo hi:Nat) (w:World) (cs:List Value) (x:α):Prop:=∃ F,R.own w cs x F∧F.Nodup∧∀ b,b ∈ F→lo ≤ b∧b < hi
def Rd {α:Type} (R:Rep α) (w:World) (cs:List Value) (x:α):Prop:=R.rd (fun b => b < w.heap.size) w cs x
section
variable {α:Type} {R:Rep α} {w w':World} {cs:List Value} {x:α} {lo hi:Nat}
theorem Rd.below {B:Nat} (h:Rd R w cs x) (hb:Below B w w') (hB:w.heap.size ≤ B):Rd R w' cs x :=
 R.rd_mono (R.rd_frame h (fun b h1 _ => hb.block b (by omega))) (fun _ _ h2 => h2)
theorem Rd.of {A:Nat→Prop} (h:R.rd A w cs x):Rd R w cs x:=R.rd_mono h (fun _ _ h2 => h2)
theorem Own.rd (h:Own R lo hi w cs x):Rd R w cs x:=let ⟨_,h1,_,_⟩:=h;Rd.of (R.own_rd h1)
theorem Own.frame (h:Own R lo hi w cs x) (hf:∀ b,lo ≤ b→b < hi→w'.heap[b]? = w.heap[b]?):Own R lo hi w' cs x :=
 let ⟨F,h1,h2,h3⟩:=h;⟨F,R.own_frame h1 (fun b hb => hf b (h3 b hb).1 (h3 b hb).2),h2,h3⟩
theorem Own.below {B:Nat} (h:Own R lo hi w cs x) (hb:Below B w w') (hB:hi ≤ B):Own R lo hi w' cs x :=
 h.frame fun b _ h2 => hb.block b (by omega)
theorem Own.mono {lo' hi':Nat} (h:Own R lo hi w cs x) (h1:lo' ≤ lo) (h2:hi ≤ hi'):Own R lo' hi' w cs x :=
 let ⟨F,k1,k2,k3⟩:=h;⟨F,k1,k2,fun b hb => ⟨by have:=(k3 b hb).1;omega,by have:=(k3 b hb).2;omega⟩⟩
theorem Own.top (h:Own R lo hi w cs x) (hi':Nat) (hh:w.heap.size ≤ hi'):Own R lo hi' w cs x :=
 let ⟨F,k1,k2,k3⟩:=h;⟨F,k1,k2,fun b hb => ⟨(k3 b hb).1,by have:=R.own_lt k1 b hb;omega⟩⟩
end
structure Chg (lo hi:Nat) (w w':World):Prop where
 os:w'.os = w.os
 tape:w'.tape = w.tape
 output:w'.output = w.output
 size:w.heap.size ≤ w'.heap.size
 block:∀ k,k < w.heap.size→(k < lo ∨ hi ≤ k)→w'.heap[k]? = w.heap[k]?
theorem Chg.of_grown {w w':World} {og:Option Nat} {lo hi:Nat} (h:w.grownBy w' og) (hg:∀ g,og = some g→lo ≤ g∧g < hi):Chg lo hi w w' :=
 ⟨h.os,h.tape,h.output,h.size,fun k hk hne => h.block k hk (fun e => by have:=hg k e.symm;omega)⟩
theorem Chg.below {w w':World} {lo hi B:Nat} (h:Chg lo hi w w') (hB:B ≤ lo) (hs:B ≤ w.heap.size):Below B w w' :=
 ⟨h.os,h.tape,h.output,h.size,fun k hk => h.block k (by omega) (by omega)⟩
theorem Chg.refl (lo hi:Nat) (w:World):Chg lo hi w w:=⟨rfl,rfl,rfl,Nat.le_refl _,fun _ _ _ => rfl⟩
theorem Chg.trans {lo hi:Nat} {a b c:World} (h:Chg lo hi a b) (k:Chg lo hi b c):Chg lo hi a c :=
 ⟨k.os.trans h.os,k.tape.trans h.tape,k.output.trans h.output,Nat.le_trans h.size k.size,fun i hi hne => (k.block i (Nat.lt_of_lt_of_le hi h.size) hne).trans (h.block i hi hne)⟩
theorem Chg.mono {lo hi lo' hi':Nat} {a b:World} (h:Chg lo hi a b) (h1:lo' ≤ lo) (h2:hi ≤ hi'):Chg lo' hi' a b :=
 ⟨h.os,h.tape,h.output,h.size,fun k hk hne => h.block k hk (by omega)⟩
theorem Below.of_grown {w w':World} {og:Option Nat} {B:Nat} (h:w.grownBy w' og) (hB:B ≤ w.heap.size) (hg:∀ g,og = some g→B ≤ g):Below B w w' :=
 (Below.refl B w).grown h hB hg
theorem Own.snoc {α:Type} {R:Rep α} {w w':World} {v v':Value} {xs:List α} {x:α} {c:List Value} {ds:List Value} {lo M hi:Nat} {og og':Option Nat} {F G:List Nat}
  (_hrow:Row w v R.k xs.length ds og) (hel:ownL R w ds xs F) (hF:(og.toList ++ F).Nodup) (hlt:∀ b,b ∈ og.toList ++ F→lo ≤ b∧b < M)
  (hx:R.own w c x G) (hG:G.Nodup) (hGlt:∀ b,b ∈ G→M ≤ b∧b < hi) (hM:M ≤ w.heap.size) (hlo:lo ≤ M)
  (h:yB w w' v' R.k (xs.length + 1) (ds ++ c) og og') :
  Own (RS R) lo w'.heap.size w' [v'] (xs ++ [x]):=by
 obtain ⟨h1,h2,h3⟩:=h
 have hGM:∀ b,b ∈ G→b ∉ og.toList ++ F:=fun b hb hc => by have:=(hGlt b hb).1;have:=(hlt b hc).2;omega
 have hFx:∀ b,b ∈ F ++ G→w'.heap[b]? = w.heap[b]?:=by
  intro b hb
  refine h2.block b ?_ ?_
  ·rcases List.mem_append.1 hb with hb|hb
   ·exact hel.lt b hb
   ·exact R.own_lt hx b hb
  ·intro e
   rcases List.mem_append.1 hb with hb|hb
   ·have:=(List.nodup_append.1 hF).2.2 b (by simp [← e]) b hb
    exact this rfl
   ·exact hGM b hb (by simp [← e])
 have hel':ownL R w' (ds ++ c) (xs ++ [x]) (F ++ G):=(hel.append (ownL.single hx)).frame hFx
 refine ⟨og'.toList ++ (F ++ G),⟨v',og',ds ++ c,F ++ G,rfl,by simpa using h1,hel',rfl⟩,?_,?_⟩
 ·have hFG:(F ++ G).Nodup:=List.nodup_append.2 ⟨(List.nodup_append.1 hF).2.1,hG,fun b hb b' hb' e => by subst e;exact hGM b hb' (List.mem_append_right _ hb)⟩
  refine List.nodup_append.2 ⟨by cases og' <;> simp,hFG,fun b hb b' hb' e => ?_⟩
  subst e
  have hbo:og' = some b:=by simpa using hb
  rcases h3 with h3|⟨g,h3,hg⟩
  ·rcases List.mem_append.1 hb' with hb'|hb'
   ·exact (List.nodup_append.1 hF).2.2 b (by simp [← h3,hbo]) b hb' rfl
   ·exact hGM b hb' (by simp [← h3,hbo])
  ·rw [hbo] at h3
   cases h3
   rcases List.mem_append.1 hb' with hb'|hb'
   ·have:=hel.lt b hb';omega
   ·have:=R.own_lt hx b hb';omega
 ·intro b hb
  have hsz:=h2.size
  rcases List.mem_append.1 hb with hb|hb
  ·have hbo:og' = some b:=by simpa using hb
   have hl:=h1.lt b hbo
   rcases h3 with h3|⟨g,h3,hg⟩
   ·exact ⟨(hlt b (by simp [← h3,hbo])).1,hl⟩
   ·rw [hbo] at h3;cases h3;exact ⟨by omega,hl⟩
  ·rcases List.mem_append.1 hb with hb|hb
   ·have:=hel.lt b hb;exact ⟨(hlt b (by simp [hb])).1,by omega⟩
   ·have:=R.own_lt hx b hb;have:=(hGlt b hb).1;exact ⟨by omega,by omega⟩
end
section
theorem tI64:ST Tryz.prog 24 2 (.int .i64 0) 1 8:=ST.mk' (by kernel_rfl) (by kernel_rfl) rfl (by decide)
theorem tI64S:ST Tryz.prog 36 24 (.slice none 0 0) 1 24:=ST.mk' (by kernel_rfl) (by kernel_rfl) rfl (by decide)
def jA (p:Prop):Prop:=p
theorem jA.out {p:Prop} (h:jA p):p:=h
theorem jA.go {p:Prop} (h:p):jA p:=h
def RetQ (w:World) (v:Value):Ending→World→Prop:=fun e w' => e = .returned v∧∃ n,w' = w.drewN n
def RetS (w:World) (v:Value):Ending→World→Prop:=fun e w' => e = .returned v∧w = w'
def RetV (w:World) (v:Value):Ending→World→Prop:=fun e w' => e = .returned v∧Below w.heap.size w w'
def RetO {α:Type} (R:Rep α) (w:World) (x:α):Ending→World→Prop :=
 fun e w' => ∃ v,e = .returned v∧Own R w.heap.size w'.heap.size w' [v] x∧Below w.heap.size w w'
theorem Below.drewN (B:Nat) (w:World) (n:Nat):Below B w (w.drewN n):=⟨rfl,rfl,rfl,Nat.le_refl _,fun _ _ => rfl⟩
theorem xY (w:World) (n m:Nat):∃ k,(w.drewN n).drewN m = w.drewN k:=⟨_,World.drewN_drewN w n m⟩
theorem xW (w:World) (n:Nat):∃ k,w.drewN n = w.drewN k:=⟨n,rfl⟩
theorem Calls.qS {P:Program} {f:FuncId} {args:Array Value} {w:World} {n:Nat} {v:Value}
  (h:Calls P f args (w.drewN n) (RetS (w.drewN n) v)):Calls P f args (w.drewN n) fun e w'' => e = .returned v∧∃ m,w'' = w.drewN m :=
 h.mono fun _ _ ⟨he,hm⟩ => ⟨he,n,hm.symm⟩
theorem Calls.qS' {P:Program} {f:FuncId} {args:Array Value} {w:World} {n a:Nat} {v:Value}
  (h:Calls P f args (w.drewN (n + a)) (RetS (w.drewN (n + a)) v)):Calls P f args (w.drewN (n + a)) fun e w'' => e = .returned v∧∃ m,w'' = w.drewN (n + m) :=
 h.mono fun _ _ ⟨he,hm⟩ => ⟨he,a,hm.symm⟩
theorem Calls.qQ' {P:Program} {f:FuncId} {args:Array Value} {w:World} {n a:Nat} {v:Value}
  (h:Calls P f args (w.drewN (n + a)) (RetQ (w.drewN (n + a)) v)):Calls P f args (w.drewN (n + a)) fun e w'' => e = .returned v∧∃ m,w'' = w.drewN (n + m) :=
 h.mono fun _ _ ⟨he,m,hm⟩ => ⟨he,a + m,by rw [hm,World.drewN_drewN,Nat.add_assoc]⟩
def qH (n:Int):Prop:=-9223372036854775808 ≤ n∧n ≤ 9223372036854775807
instance (n:Int):Decidable (qH n):=inferInstanceAs (Decidable (_∧_))
theorem rdL_ints {A:Nat→Prop} {w:World}:∀ {xs:List Int} {ds:List Value},rdL RI A w ds xs→ds = xs.map (Value.int .i64)∧∀ x ∈ xs,qH x
 | [],_,h => ⟨h,by simp⟩
 | x :: xs,_,⟨c,d,e,h1,h2⟩ => by
  obtain ⟨k1,k2⟩:=rdL_ints h2
  refine ⟨by rw [e,h1.1,k1];rfl,fun y hy => ?_⟩
  rcases List.mem_cons.1 hy with rfl|hy
  ·exact h1.2
  ·exact k2 y hy
theorem ownL_ints_mk {w:World}:∀ {xs:List Int},(∀ x ∈ xs,qH x)→ownL RI w (xs.map (Value.int .i64)) xs []
 | [],_ => ⟨rfl,rfl⟩
 | x :: xs,h => ⟨[.int .i64 x],xs.map (Value.int .i64),[],[],rfl,rfl,⟨⟨rfl,h x (by simp)⟩,rfl⟩,ownL_ints_mk fun y hy => h y (by simp [hy])⟩
structure Ints (w:World) (v:Value) (xs:List Int) (oa:Option Addr) (cap:Nat):Prop where
 val:v = .slice oa xs.length cap
 le:xs.length ≤ cap
 capLe:cap ≤ maxLen
 noneCap:oa = none→cap = 0
 bd:∀ x ∈ xs,qH x
 row:xs = [] ∨ ∃ b off,oa = some ⟨b,off,none⟩∧b < w.heap.size∧∀ j (h:j < xs.length),w.cell? ⟨b,off + j,none⟩ = some (.int .i64 xs[j])
theorem Rd.ints {w:World} {v:Value} {xs:List Int} (h:Rd (RS RI) w [v] xs):∃ oa cap,Ints w v xs oa cap:=by
 obtain ⟨oa,cap,ds,h1,h2,h3,h4,h5,h6⟩:=h
 obtain ⟨k1,k2⟩:=rdL_ints h5
 refine ⟨oa,cap,by simpa using h1,h2,h3,h4,k2,?_⟩
 rcases h6 with h6|⟨b,off,e,hb,hc⟩
 ·left;rw [k1] at h6;simpa using h6
 ·exact .inr ⟨b,off,e,hb,fun j hj => hc j _ (by rw [k1];simp [hj])⟩
theorem Rd.val {α:Type} {R:Rep α} {w:World} {v:Value} {xs:List α} (h:Rd (RS R) w [v] xs):∃ oa cap,v = .slice oa xs.length cap∧xs.length ≤ cap∧cap ≤ maxLen:=by
 obtain ⟨oa,cap,ds,h1,h2,h3,_⟩:=h
 exact ⟨oa,cap,by simpa using h1,h2,h3⟩
theorem Ints.get {w:World} {v:Value} {xs:List Int} {oa:Option Addr} {cap:Nat} (h:Ints w v xs oa cap) {k:Nat} (hk:k < xs.length) :
  ∃ b off,oa = some ⟨b,off,none⟩∧b < w.heap.size∧∀ j (h:j < xs.length),w.cell? ⟨b,off + j,none⟩ = some (.int .i64 xs[j]):=by
 rcases h.row with h|h
 ·subst h;exact absurd hk (Nat.not_lt_zero _)
 ·exact h
theorem Ints.b {w:World} {v:Value} {xs:List Int} {oa:Option Addr} {cap:Nat} (h:Ints w v xs oa cap) {k:Nat} (hk:k < xs.length):qH xs[k]:=h.bd _ (List.getElem_mem hk)
end
section
section
variable {α:Type} {R:Rep α} {w:World}
theorem Own.open {v:Value} {xs:List α} {lo hi:Nat} (h:Own (RS R) lo hi w [v] xs) :
  ∃ og ds F,Row w v R.k xs.length ds og∧ownL R w ds xs F∧(og.toList ++ F).Nodup∧∀ b,b ∈ og.toList ++ F→lo ≤ b∧b < hi:=by
 obtain ⟨F,⟨v',og,ds,G,h1,h2,h3,rfl⟩,hn,hb⟩:=h
 simp only [List.cons.injEq,and_true] at h1
 subst h1
 exact ⟨og,ds,G,h2,h3,hn,hb⟩
theorem Own.mk' {v:Value} {xs:List α} {lo hi:Nat} {og:Option Nat} {ds:List Value} {F:List Nat} (h1:Row w v R.k xs.length ds og) (h2:ownL R w ds xs F)
  (h3:(og.toList ++ F).Nodup) (h4:∀ b,b ∈ og.toList ++ F→lo ≤ b∧b < hi):Own (RS R) lo hi w [v] xs :=
 ⟨og.toList ++ F,⟨v,og,ds,F,rfl,h1,h2,rfl⟩,h3,h4⟩
theorem Own.val {v:Value} {xs:List α} {lo hi:Nat} (h:Own (RS R) lo hi w [v] xs):∃ oa cap,v = .slice oa xs.length cap∧xs.length ≤ cap∧cap ≤ 9223372036854775807:=by
 obtain ⟨og,ds,F,h1,_⟩:=h.open
 obtain ⟨oa,cap,e,h2,h3,_⟩:=h1.value
 refine ⟨oa,cap,e,h2,?_⟩
 unfold maxLen at h3
 omega
theorem Own.nil (lo hi:Nat):Own (RS R) lo hi w [.slice none 0 0] ([]:List α) :=
 Own.mk' (Row.nil w R.k) ⟨rfl,rfl⟩ (by simp) (by simp)
theorem Own.int {lo hi:Nat} {n:Int} (h:qH n):Own RI lo hi w [.int .i64 n] n:=⟨[],⟨⟨rfl,h⟩,rfl⟩,by simp,by simp⟩
theorem Own.empty (e:TypeId) (lo:Nat) (h:lo ≤ w.heap.size):Own (RS R) lo (w.heap.size + 1) (w.alloc (.cells #[] e)) [.slice (some ⟨w.heap.size,0,none⟩) 0 0] ([]:List α) :=
 Own.mk' (og:=some w.heap.size) (ds:=[]) (F:=[]) (by simpa using Row.lit w #[] e R.k 0 (by decide) (by simp)) ⟨rfl,rfl⟩ (by simp) (fun b hb => by simp at hb;omega)
theorem jT0 {P:Program} {ops:Array Oper} {rest:List Oper} {o:Oper} {a:Act} {Q:Exit→Act→World→Prop} (hgd:o.guard = none) (s x:Operand) (t:TypeId)
  (ho:o.op = .call { callee:=.builtin .append,args:=#[s,x],argTypes:=#[t,t] })
  (e:TypeId) (z:Value) (k bytes:Nat) (T:ST P t e z k bytes) (hk:R.k = k)
  (v:Value) (xs:List α) (y:α) (c:List Value) (lo M hi:Nat) (hs:a.eval s = v) (hv:Own (RS R) lo M w [v] xs) (hy:Own R M hi w c y) (hM:M ≤ w.heap.size) (hlo:lo ≤ M) (E:TypeId)
  {H:Nat} (hx:a.eval x = .slice (some ⟨H,0,none⟩) 1 1) (hH:H = w.heap.size)
  (hbytes:(xs.length + 1) * bytes ≤ 140737488355328) (h63:xs.length + 1 ≤ 140737488355328)
  (h:∀ oa cap w',Own (RS R) lo w'.heap.size w' [.slice oa (xs.length + 1) cap] (xs ++ [y])→xs.length + 1 ≤ cap→cap ≤ 9223372036854775807→Below lo w w'→wpList P ops Q rest (a.put o.dst (.slice oa (xs.length + 1) cap)) w') :
  wpList P ops Q (o :: rest) a (w.alloc (.cells c.toArray E)):=by
 subst hk
 obtain ⟨og,ds,F,hrow,hel,hF,hlt⟩:=hv.open
 obtain ⟨G,hG,hGn,hGlt⟩:=hy
 refine xX0 hgd s x t ho e z R.k bytes T v xs.length ds og hs hrow E c hx hH (R.rd_len (R.own_rd hG)) (R.rd_one (R.own_rd hG)) hbytes (by unfold maxLen;omega) ?_
 intro v' w' og' happ
 have hown:=Own.snoc hrow hel hF hlt hG hGn hGlt hM hlo happ
 obtain ⟨oa,cap,rfl,h1,h2⟩:=hown.val
 rw [List.length_append,List.length_singleton] at *
 exact h oa cap w' hown h1 h2 (Below.of_grown happ.2.1 (by omega) (fun g hg => (hlt g (by simp [hg])).1))
theorem ownL.split:∀ {xs:List α} {ds:List Value} {F:List Nat} (i:Nat) (hi:i < xs.length),ownL R w ds xs F →
  ∃ d1 c d2 F1 G F2,ds = d1 ++ (c ++ d2)∧F = F1 ++ (G ++ F2)∧d1.length = i * R.k∧ownL R w d1 (xs.take i) F1∧R.own w c xs[i] G∧ownL R w d2 (xs.drop (i + 1)) F2
 | x :: xs,ds,F,0,_,⟨c,d,G,H,e,e',h1,h2⟩ => ⟨[],c,d,[],G,H,e,e',by simp,⟨rfl,rfl⟩,h1,by simpa using h2⟩
 | x :: xs,ds,F,i + 1,hi,⟨c,d,G,H,e,e',h1,h2⟩ => by
  obtain ⟨d1,c',d2,F1,G',F2,k1,k2,k3,k4,k5,k6⟩:=ownL.split i (by simpa using hi) h2
  refine ⟨c ++ d1,c',d2,G ++ F1,G',F2,by rw [e,k1,List.append_assoc],by rw [e',k2,List.append_assoc],?_,⟨c,d1,G,F1,rfl,rfl,h1,k4⟩,k5,k6⟩
  rw [List.length_append,k3,R.rd_len (R.own_rd h1),Nat.add_mul];omega
theorem ownL.join {xs:List α} {x:α} {i:Nat} {d1 c d2:List Value} {F1 G F2:List Nat} (hi:i < xs.length) (h1:ownL R w d1 (xs.take i) F1) (h2:R.own w c x G) (h3:ownL R w d2 (xs.drop (i + 1)) F2) :
  ownL R w (d1 ++ (c ++ d2)) (xs.set i x) (F1 ++ (G ++ F2)):=by
 have e:xs.set i x = xs.take i ++ ([x] ++ xs.drop (i + 1)):=by rw [List.set_eq_take_append_cons_drop,if_pos hi];rfl
 rw [e]
 exact h1.append ((ownL.single h2).append h3)
end
theorem Own.elem {β:Type} {S:Rep β} {w:World} {v:Value} {xss:List (List β)} {lo hi:Nat} (h:Own (RS (RS S)) lo hi w [v] xss) (i:Nat) (hi':i < xss.length) :
  ∃ g cap h0,v = .slice (some ⟨g,0,none⟩) xss.length cap∧xss.length ≤ cap∧cap ≤ 9223372036854775807∧lo ≤ g∧g < hi∧w.cell? ⟨g,i,none⟩ = some h0∧Own (RS S) lo hi w [h0] xss[i]:=by
 obtain ⟨og0,ds0,F,hrow,hel,hF,hlt⟩:=h.open
 obtain ⟨g,rfl⟩:=hrow.some_of hi'
 obtain ⟨cap,hv,hc1,hc2⟩:=hrow.slice
 obtain ⟨d1,c0,d2,F1,G,F2,rfl,rfl,hd1,hL1,hx,hL2⟩:=hel.split i hi'
 have hcl:=(RS S).rd_len ((RS S).own_rd hx)
 match c0,hcl with
 | [h0],_ =>
  have hd1':d1.length = i:=by rw [hd1];show i * 1 = i;omega
  have hcell:w.cell? ⟨g,i,none⟩ = some h0:=hrow.cells i h0 (by rw [List.getElem?_append_right (by omega),hd1'];simp)
  have hg:=hlt g (by simp)
  refine ⟨g,cap,h0,hv,hc1,by unfold maxLen at hc2;omega,hg.1,hg.2,hcell,G,hx,?_,fun b hb => hlt b (by simp [hb])⟩
  exact (List.nodup_append.1 (List.nodup_append.1 (List.nodup_append.1 hF).2.1).2.1).1
theorem yB.below {w w':World} {v':Value} {k n:Nat} {ds:List Value} {og og':Option Nat} {lo:Nat} (h:yB w w' v' k n ds og og') (hlo:lo ≤ w.heap.size) (hog:∀ b,og = some b→lo ≤ b):Below lo w w' :=
 Below.of_grown h.2.1 hlo hog
section
variable {β:Type} {S:Rep β} {w:World}
theorem Own.inner {v:Value} {xss:List (List β)} {lo hi:Nat} (h:Own (RS (RS S)) lo hi w [v] xss) (i:Nat) (hi':i < xss.length) (L:Nat) (hL:xss.length = L) :
  ∃ g cap h0 m ds og,v = .slice (some ⟨g,0,none⟩) L cap∧lo ≤ g∧g < w.heap.size∧w.cell? ⟨g,i,none⟩ = some h0∧Row w h0 S.k m ds og∧m = xss[i].length∧(∀ b,og = some b→lo ≤ b) ∧
   ∀ (y:β) (c:List Value) (M hi2:Nat) (h':Value) (w1:World) (og':Option Nat),Own S M hi2 w c y→hi ≤ M→yB w w1 h' S.k (m + 1) (ds ++ c) og og' →
    w1.cell? ⟨g,i,none⟩ = some h0∧w1.frozen? ⟨g,i,none⟩ = false∧Own (RS (RS S)) lo (w1.setCell ⟨g,i,none⟩ h').heap.size (w1.setCell ⟨g,i,none⟩ h') [v] (xss.set i (xss[i] ++ [y]))∧(lo ≤ w.heap.size→Below lo w (w1.setCell ⟨g,i,none⟩ h')):=by
 subst hL
 obtain ⟨og0,ds0,F,hrow,hel,hF,hlt⟩:=h.open
 obtain ⟨g,rfl⟩:∃ g,og0 = some g:=by
  rcases hrow.2 with ⟨_,hn,_⟩|⟨g,_,_,_,_,e,_⟩
  ·omega
  ·exact ⟨g,e⟩
 obtain ⟨cap,hv⟩:∃ cap,v = .slice (some ⟨g,0,none⟩) xss.length cap:=by
  rcases hrow.2 with ⟨_,_,h0⟩|⟨g',cap,_,_,e,h0,_⟩
  ·cases h0
  ·cases h0;exact ⟨cap,e⟩
 obtain ⟨d1,c0,d2,F1,G,F2,rfl,rfl,hd1,hL1,⟨h0,og,ds,G',rfl,hr0,hel0,rfl⟩,hL2⟩:=hel.split i hi'
 have hd1':d1.length = i:=by rw [hd1];show i * 1 = i;omega
 have hcell:w.cell? ⟨g,i,none⟩ = some h0:=hrow.cells i h0 (by rw [List.getElem?_append_right (by omega),hd1'];simp)
 refine ⟨g,cap,h0,_,ds,og,hv,(hlt g (by simp)).1,hrow.lt g rfl,hcell,hr0,rfl,fun b hb => (hlt b (by simp [hb])).1,?_⟩
 intro y c M hi2 h' w1 og' hy hiM happ
 obtain ⟨Gy,hGy,hGyn,hGyl⟩:=hy
 obtain ⟨a1,a2,a3⟩:=happ
 have hgn:∀ b,b ∈ F1 ++ (og.toList ++ G' ++ F2)→b ≠ g:=by
  intro b hb e;subst e
  exact (List.nodup_append.1 hF).2.2 b (by simp) b hb rfl
 have hn2:(F1 ++ (og.toList ++ G' ++ F2)).Nodup:=(List.nodup_append.1 hF).2.1
 have hogF:∀ b,b ∈ F1 ++ (G' ++ F2)→og ≠ some b:=by
  intro b hb e
  rw [e] at hn2
  have hn3:=List.nodup_append.1 hn2
  rcases List.mem_append.1 hb with hb|hb
  ·exact hn3.2.2 b hb b (by simp) rfl
  ·have hn4:=hn3.2.1
   simp at hn4
   rcases List.mem_append.1 hb with hb|hb
   ·exact hn4.1.1 hb
   ·exact hn4.1.2 hb
 have hsz:=a2.size
 have hlow:∀ b,b ∈ F1 ++ (og.toList ++ G' ++ F2)→b < w.heap.size:=by
  intro b hb
  rcases List.mem_append.1 hb with hb|hb
  ·exact hL1.lt b hb
  ·rcases List.mem_append.1 hb with hb|hb
   ·rcases List.mem_append.1 hb with hb|hb
    ·exact hr0.lt b (by simpa using hb)
    ·exact hel0.lt b hb
   ·exact hL2.lt b hb
 have hgb:w1.heap[g]? = w.heap[g]?:=a2.block g (hrow.lt g rfl) (fun e => hgn g (by simp [← e]) rfl)
 have hrow1:Row w1 v 1 xss.length (d1 ++ ([h0] ++ d2)) (some g):=hrow.frame (fun g' hg' => by cases hg';exact hgb)
 have hfF:∀ b,b ∈ F1 ++ (G' ++ F2)→(w1.setCell ⟨g,i,none⟩ h').heap[b]? = w.heap[b]?:=by
  intro b hb
  have hb':b ∈ F1 ++ (og.toList ++ G' ++ F2):=by
   simp only [List.mem_append] at hb ⊢
   rcases hb with hb|hb|hb
   ·exact .inl hb
   ·exact .inr (.inl (.inr hb))
   ·exact .inr (.inr hb)
  rw [heap_setCell_other w1 ⟨g,i,none⟩ b h' (hgn b hb')]
  exact a2.block b (hlow b hb') (fun e => hogF b hb e.symm)
 have hGyw:∀ b,b ∈ Gy→(w1.setCell ⟨g,i,none⟩ h').heap[b]? = w.heap[b]?:=by
  intro b hb
  have h1:=hGyl b hb
  have h2:=S.own_lt hGy b hb
  have hgl:=(hlt g (by simp)).2
  rw [heap_setCell_other w1 ⟨g,i,none⟩ b h' (by show b ≠ g;omega)]
  refine a2.block b h2 (fun e => ?_)
  have:=(hlt b (by simp [← e])).2
  omega
 obtain ⟨hst,hgr⟩:=hrow1.store i h'
 have hset:(d1 ++ ([h0] ++ d2)).set i h' = d1 ++ ([h'] ++ d2):=by
  rw [List.set_append_right _ _ (by omega),hd1',Nat.sub_self];rfl
 rw [hset] at hst
 have hr1:Row (w1.setCell ⟨g,i,none⟩ h') h' S.k (xss[i].length + 1) (ds ++ c) og':=by
  refine a1.frame (fun b hb => heap_setCell_other w1 ⟨g,i,none⟩ b h' ?_)
  show b ≠ g
  rcases a3 with a3|⟨b',a3,hb'⟩
  ·exact hgn b (by simp [← a3,hb])
  ·rw [hb] at a3;cases a3;have:=hrow.lt g rfl;omega
 have hel1:ownL S (w1.setCell ⟨g,i,none⟩ h') (ds ++ c) (xss[i] ++ [y]) (G' ++ Gy) :=
  (hel0.frame (fun b hb => hfF b (by simp [hb]))).append (ownL.single (S.own_frame hGy hGyw))
 have hinner:(RS S).own (w1.setCell ⟨g,i,none⟩ h') [h'] (xss[i] ++ [y]) (og'.toList ++ (G' ++ Gy)) :=
  ⟨h',og',ds ++ c,G' ++ Gy,rfl,by simpa using hr1,hel1,rfl⟩
 have hL1':=hL1.frame (fun b hb => hfF b (by simp [hb]))
 have hL2':=hL2.frame (fun b hb => hfF b (by simp [hb]))
 have hjoin:=ownL.join (R:=RS S) hi' hL1' hinner hL2'
 refine ⟨hrow1.cells i h0 (by rw [List.getElem?_append_right (by omega),hd1'];simp),hrow1.frozen i,?_,?_⟩
 ·refine Own.mk' (og:=some g) (ds:=d1 ++ ([h'] ++ d2)) (by rw [List.length_set];exact hst) hjoin ?_ ?_
  ·
   have hog':∀ b,og' = some b→b ∉ F1 ++ (G' ++ F2)∧b ≠ g∧b ∉ Gy:=by
    intro b hb
    rcases a3 with a3|⟨b',a3,hb'⟩
    ·rw [a3] at hb
     refine ⟨fun hm => hogF b hm hb,hgn b (by simp [hb]),fun hm => ?_⟩
     have:=(hlt b (by simp [hb])).2
     have:=(hGyl b hm).1
     omega
    ·rw [hb] at a3;cases a3
     refine ⟨fun hm => ?_,?_,fun hm => ?_⟩
     ·have:b ∈ F1 ++ (og.toList ++ G' ++ F2):=by
       simp only [List.mem_append] at hm ⊢
       rcases hm with hm|hm|hm
       ·exact .inl hm
       ·exact .inr (.inl (.inr hm))
       ·exact .inr (.inr hm)
      have:=hlow b this;omega
     ·have:=hrow.lt g rfl;omega
     ·have:=S.own_lt hGy b hm;omega
   have hGyd:∀ b,b ∈ Gy→b ∉ F1 ++ (G' ++ F2)∧b ≠ g:=by
    intro b hb
    have h1:=(hGyl b hb).1
    refine ⟨fun hm => ?_,?_⟩
    ·have hm':b ∈ (some g).toList ++ (F1 ++ (og.toList ++ G' ++ F2)):=by
      simp only [List.mem_append] at hm ⊢
      rcases hm with hm|hm|hm
      ·exact .inr (.inl hm)
      ·exact .inr (.inr (.inl (.inr hm)))
      ·exact .inr (.inr (.inr hm))
     have:=(hlt b hm').2;omega
    ·have:=(hlt g (by simp)).2;omega
   have hbase:(F1 ++ (G' ++ F2)).Nodup:=by
    refine hn2.sublist ?_
    refine List.Sublist.append (List.Sublist.refl _) (List.Sublist.append ?_ (List.Sublist.refl _))
    exact List.sublist_append_right _ _
   have hgF:g ∉ F1 ++ (G' ++ F2):=fun hm => hgn g (by
    simp only [List.mem_append] at hm ⊢
    rcases hm with hm|hm|hm
    ·exact .inl hm
    ·exact .inr (.inl (.inr hm))
    ·exact .inr (.inr hm)) rfl
   have hb1:=List.nodup_append.1 hbase
   have hb2:=List.nodup_append.1 hb1.2.1
   simp only [Option.toList_some,List.singleton_append,List.nodup_cons]
   constructor
   ·intro hm
    simp only [List.mem_append,Option.mem_toList] at hm hgF
    rcases hm with hm|(hm|hm|hm)|hm
    ·exact hgF (.inl hm)
    ·exact (hog' g hm).2.1 rfl
    ·exact hgF (.inr (.inl hm))
    ·exact (hGyd g hm).2 rfl
    ·exact hgF (.inr (.inr hm))
   ·refine List.nodup_append.2 ⟨hb1.1,List.nodup_append.2 ⟨List.nodup_append.2 ⟨by cases og' <;> simp,List.nodup_append.2 ⟨hb2.1,hGyn,fun b hb b' hb' e => ?_⟩,fun b hb b' hb' e => ?_⟩,hb2.2.1,fun b hb b' hb' e => ?_⟩,fun b hb b' hb' e => ?_⟩
    ·subst e;exact (hGyd b hb').1 (by simp [hb])
    ·subst e
     have hbo:og' = some b:=by simpa using hb
     rcases List.mem_append.1 hb' with hb'|hb'
     ·exact (hog' b hbo).1 (by simp [hb'])
     ·exact (hog' b hbo).2.2 hb'
    ·subst e
     rcases List.mem_append.1 hb with hb|hb
     ·exact (hog' b (by simpa using hb)).1 (by simp [hb'])
     ·rcases List.mem_append.1 hb with hb|hb
      ·exact hb2.2.2 b hb b hb' rfl
      ·exact (hGyd b hb).1 (by simp [hb'])
    ·subst e
     simp only [List.mem_append,Option.mem_toList] at hb'
     rcases hb' with (hb'|hb'|hb')|hb'
     ·exact (hog' b hb').1 (by simp [hb])
     ·exact hb1.2.2 b hb b (by simp [hb']) rfl
     ·exact (hGyd b hb').1 (by simp [hb])
     ·exact hb1.2.2 b hb b (by simp [hb']) rfl
  ·intro b hb
   have hs2:(w1.setCell ⟨g,i,none⟩ h').heap.size = w1.heap.size:=World.size_setCell ..
   rw [hs2]
   simp only [List.mem_append,Option.mem_toList,Option.some.injEq] at hb
   have hgl:=hlt g (by simp)
   rcases hb with hb|hb|(hb|hb|hb)|hb
   ·subst hb;have:=hrow.lt g rfl;omega
   ·have:=hlt b (by simp [hb]);have:=hL1.lt b hb;omega
   ·have hl:=a1.lt b hb
    rcases a3 with a3|⟨b',a3,hb'⟩
    ·have:=hlt b (by simp [← a3,hb]);omega
    ·rw [hb] at a3;cases a3;have:=hrow.lt g rfl;omega
   ·have:=hlt b (by simp [hb]);have:=hel0.lt b hb;omega
   ·have:=hGyl b hb;have:=S.own_lt hGy b hb;omega
   ·have:=hlt b (by simp [hb]);have:=hL2.lt b hb;omega
 ·intro hlw
  have hb1:Below lo w w1:=Below.of_grown a2 hlw (fun b hb => (hlt b (by simp [hb])).1)
  exact hb1.setCell (hlt g (by simp)).1 _
end
end
section
def Opens {α:Type} (P:Program) (R:Rep α) (T:TypeId):Prop :=
 ∀ (H:Type) (enc:TypeId × Value→H) (w:World) (base:Nat) (spare:Nat→Bool) (held:Bool) (fuel:Nat) (cs:List Value) (x:DataW H × List MemPlace),
  DataW.trod enc P w base spare held fuel T cs = some x→∃ y,Rd R w cs y
theorem Opens.int {P:Program} {T:TypeId} (ht:P.underlying T = some (.int .i64)):Opens P RI T:=by
 intro H enc w base spare held fuel cs x h
 obtain ⟨n,rfl,_,hw⟩:=DataW.trod_int ht h
 exact ⟨n,rfl,bounds_i64 hw⟩
theorem Opens.slice {α:Type} {P:Program} {R:Rep α} {T E:TypeId} (ht:P.underlying T = some (.slice E)) (hk:P.cellsOf E = R.k) (hE:Opens P R E):Opens P (RS R) T:=by
 intro H enc w base spare held fuel cs x h
 rcases Deep.open_slice ht h with ⟨rfl,_⟩|⟨a,len,cap,m,n,D,Pl,rfl,_,hl,hm,hmm,_,hx⟩
 ·exact ⟨[],none,0,[],rfl,Nat.le_refl _,by decide,fun _ => rfl,rfl,.inl rfl⟩
 ·have hlm:len ≤ m:=by rw [hmm];split <;> omega
  have key:∀ k,k ≤ len→∃ (ds:List Value) (ys:List α),ys.length = k∧rdL R (fun b => b < w.heap.size) w ds ys∧∀ j u,ds[j]? = some u→w.cell? (a.add j) = some u:=by
   intro k
   induction k with
   | zero => intro _;exact ⟨[],[],rfl,rfl,fun j u h => by simp at h⟩
   | succ k ih =>
    intro hk'
    obtain ⟨ds,ys,h1,h2,h3⟩:=ih (by omega)
    obtain ⟨c,hc1,hc2⟩:=hx k (by omega)
    obtain ⟨y,hy⟩:=hE H enc w base spare held n c _ hc2
    obtain ⟨_,hc3,hc4⟩:=World.cells?_some hc1
    refine ⟨ds ++ c,ys ++ [y],by simp [h1],h2.append (rdL.single hy),fun j u hj => ?_⟩
    have hdl:=h2.len
    rw [h1] at hdl
    by_cases hjd:j < ds.length
    ·rw [List.getElem?_append_left hjd] at hj;exact h3 j u hj
    ·rw [List.getElem?_append_right (by omega)] at hj
     have hjc:j - ds.length < R.k:=by
      have:=(List.getElem?_eq_some_iff.1 hj).1
      rw [hc3,hk] at this;exact this
     have h5:=hc4 (j - ds.length) (by rw [hk];exact hjc)
     rw [hk,← hdl,Deep.add_add,show ds.length + (j - ds.length) = j by omega] at h5
     rw [h5];exact hj
  obtain ⟨ds,ys,h1,h2,h3⟩:=key len (Nat.le_refl _)
  subst h1
  refine ⟨ys,some a,cap,ds,rfl,hl,hm,by simp,h2,?_⟩
  cases ds with
  | nil => exact .inl rfl
  | cons d ds =>
   have h0:=h3 0 d rfl
   obtain ⟨b,off,spot⟩:=a
   have hs:spot = none:=by
    cases spot with
    | none => rfl
    | some s => simp [Addr.add,World.cell?] at h0;split at h0 <;> simp at h0
   subst hs
   refine .inr ⟨b,off,rfl,?_,fun j u hj => ?_⟩
   ·have:=World.block_lt_of_cell? w _ h0
    simpa [Addr.add] using this
   ·have:=h3 j u hj
    rwa [Addr.add_lit] at this
end
end Go.Proofs.YtedgfkpfhonlpaaGreat
