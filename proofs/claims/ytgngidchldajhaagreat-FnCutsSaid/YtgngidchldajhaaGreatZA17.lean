/- Lemmas (17). -/
import Derived.Test.YtgngidchldajhaaGreatZA5
set_option linter.unusedSimpArgs false
set_option linter.unusedVariables false
namespace Go.Proofs.YtgngidchldajhaaGreat
open Go.RowKit
section
variable {α:Type}
theorem swpL_at (xs:List α) (i j:Nat) (hi:i < xs.length) (hj:j < xs.length) (k:Nat):(swpL xs i j)[k]? = if k = j then xs[i]? else if k = i then xs[j]? else xs[k]?:=by
 by_cases hk:k < xs.length
 ·rw [List.getElem?_eq_getElem (by rw [swpL_length];exact hk),swpL_get xs i j hi hj k hk]
  split
  ·rw [List.getElem?_eq_getElem hi]
  ·split
   ·rw [List.getElem?_eq_getElem hj]
   ·rw [List.getElem?_eq_getElem hk]
 ·rw [List.getElem?_eq_none (by rw [swpL_length];omega),if_neg (by omega),if_neg (by omega),List.getElem?_eq_none (by omega)]
structure Ix (f:Nat→Nat) (xs ys:List α):Prop where
 len:ys.length = xs.length
 at_:∀ k,ys[k]? = xs[f k]?
theorem Ix.refl {f:Nat→Nat} {xs:List α} (h:∀ k,f k = k):Ix f xs xs:=⟨rfl,fun k => by rw [h]⟩
theorem Ix.congr {f g:Nat→Nat} {xs ys:List α} (a:Ix f xs ys) (e:∀ k,g k = f k):Ix g xs ys:=⟨a.len,fun k => by rw [e];exact a.at_ k⟩
theorem Ix.comp {f g h:Nat→Nat} {xs ys zs:List α} (a:Ix f xs ys) (b:Ix g ys zs) (e:∀ k,h k = f (g k)):Ix h xs zs:=⟨b.len.trans a.len,fun k => by rw [b.at_,a.at_,e]⟩
theorem Ix.swp {f g:Nat→Nat} {xs ys:List α} (h:Ix f xs ys) {i j:Nat} (hi:i < xs.length) (hj:j < xs.length) (hg:∀ k,g k = f (if k = j then i else if k = i then j else k)):Ix g xs (swpL ys i j):=by
 refine ⟨by rw [swpL_length,h.len],fun k => ?_⟩
 rw [swpL_at ys i j (by rw [h.len];exact hi) (by rw [h.len];exact hj),hg]
 split
 ·exact h.at_ _
 ·split
  ·exact h.at_ _
  ·exact h.at_ _
theorem Ix.get {f:Nat→Nat} {xs ys:List α} (h:Ix f xs ys) {k:Nat} (hk:k < ys.length):∃ hf:f k < xs.length,ys[k] = xs[f k]:=by
 have:=h.at_ k
 rw [List.getElem?_eq_getElem hk] at this
 obtain ⟨hf,e⟩:=List.getElem?_eq_some_iff.1 this.symm
 exact ⟨hf,e.symm⟩
def swpI (a b n k:Nat):Nat:=if a ≤ k∧k < a + n then k - a + b else if b ≤ k∧k < b + n then k - b + a else k
def rotI (a m b k:Nat):Nat:=if a ≤ k∧k < a + (b - m) then k + (m - a) else if a + (b - m) ≤ k∧k < b then k - (b - m) else k
theorem swpI_zero (a b k:Nat):swpI a b 0 k = k:=by unfold swpI;split <;> (try split) <;> omega
theorem swpI_succ {a b n i:Nat} (h:a + n ≤ b) (hi:i < n) (k:Nat):swpI a b (i + 1) k = swpI a b i (if k = b + i then a + i else if k = a + i then b + i else k):=by
 unfold swpI
 repeat' split
 all_goals omega
def RotS (a m b i j:Nat) (xs ys:List α):Prop:=∃ g,Ix g xs ys∧∀ k,rotI a m b k = g (rotI (m - i) m (m + j) k)
theorem RotS.start {a m b:Nat} {xs:List α} (h1:a ≤ m) (h2:m ≤ b):RotS a m b (m - a) (b - m) xs xs:=⟨fun k => k,.refl (fun _ => rfl),fun k => by rw [show m - (m - a) = a by omega,show m + (b - m) = b by omega]⟩
theorem RotS.left {a m b i j:Nat} {xs ys zs:List α} (h:RotS a m b i j xs ys) (hij:j < i) (him:i ≤ m) (hz:Ix (swpI (m - i) m j) ys zs):RotS a m b (i - j) j xs zs:=by
 obtain ⟨g,hg,e⟩:=h
 refine ⟨fun k => g (swpI (m - i) m j k),hg.comp hz (fun _ => rfl),fun k => ?_⟩
 rw [e]
 congr 1
 unfold rotI swpI
 repeat' split
 all_goals omega
theorem RotS.right {a m b i j:Nat} {xs ys zs:List α} (h:RotS a m b i j xs ys) (hij:i < j) (him:i ≤ m) (hz:Ix (swpI (m - i) (m + j - i) i) ys zs):RotS a m b i (j - i) xs zs:=by
 obtain ⟨g,hg,e⟩:=h
 refine ⟨fun k => g (swpI (m - i) (m + j - i) i k),hg.comp hz (fun _ => rfl),fun k => ?_⟩
 rw [e]
 congr 1
 unfold rotI swpI
 repeat' split
 all_goals omega
theorem RotS.done {a m b i:Nat} {xs ys zs:List α} (h:RotS a m b i i xs ys) (him:i ≤ m) (hz:Ix (swpI (m - i) m i) ys zs):Ix (rotI a m b) xs zs:=by
 obtain ⟨g,hg,e⟩:=h
 refine hg.comp hz fun k => ?_
 rw [e]
 congr 1
 unfold rotI swpI
 repeat' split
 all_goals omega
theorem rotI_left {a m:Nat} (h:a ≤ m) (k:Nat):rotI a m m k = k:=by unfold rotI;(repeat' split) <;> omega
theorem rotI_right {m b:Nat} (h:m ≤ b) (k:Nat):rotI m m b k = k:=by unfold rotI;(repeat' split) <;> omega
variable {c:α→α→Int}
def LeAt (c:α→α→Int) (xs:List α) (p q:Nat):Prop:=∀ (hp:p < xs.length) (hq:q < xs.length),c xs[p] xs[q] ≤ 0
theorem LeAt.trans (hc:Cmp c) {xs:List α} {p m q:Nat} (hm:m < xs.length) (h:LeAt c xs p m) (k:LeAt c xs m q):LeAt c xs p q:=fun hp hq => hc.trans _ _ _ (h hp hm) (k hm hq)
theorem SegOk.le {a b:Nat} {xs:List α} (h:SegOk c a b xs) {p q:Nat} (h1:a ≤ p) (h2:p < q) (h3:q < b):LeAt c xs p q:=fun hp hq => h p q hp hq h1 h2 h3
theorem SegOk.leR {a b:Nat} {xs:List α} (hc:Cmp c) (h:SegOk c a b xs) {p q:Nat} (h1:a ≤ p) (h2:p ≤ q) (h3:q < b):LeAt c xs p q:=fun hp hq => by
 by_cases e:p = q
 ·subst e;rw [hc.refl];exact Int.le_refl _
 ·exact h p q hp hq h1 (by omega) h3
theorem SegOk.sub {a b a' b':Nat} {xs:List α} (h:SegOk c a b xs) (h1:a ≤ a') (h2:b' ≤ b):SegOk c a' b' xs:=fun p q hp hq k1 k2 k3 => h p q hp hq (by omega) k2 (by omega)
def Over (c:α→α→Int) (a m b:Nat) (xs:List α):Prop:=∀ p q,a ≤ p→p < m→m ≤ q→q < b→LeAt c xs p q
theorem Over.seg {a m b:Nat} {xs:List α} (h1:SegOk c a m xs) (h2:SegOk c m b xs) (h:Over c a m b xs):SegOk c a b xs:=by
 intro p q hp hq k1 k2 k3
 by_cases e:q < m
 ·exact h1 p q hp hq k1 k2 e
 ·by_cases e2:m ≤ p
  ·exact h2 p q hp hq e2 k2 k3
  ·exact h p q k1 (by omega) (by omega) k3 hp hq
theorem LeAt.of {xs ys:List α} {p q p' q':Nat} (hp:ys[p]? = xs[p']?) (hq:ys[q]? = xs[q']?) (h:LeAt c xs p' q'):LeAt c ys p q:=by
 intro k1 k2
 rw [List.getElem?_eq_getElem k1] at hp
 rw [List.getElem?_eq_getElem k2] at hq
 obtain ⟨j1,e1⟩:=List.getElem?_eq_some_iff.1 hp.symm
 obtain ⟨j2,e2⟩:=List.getElem?_eq_some_iff.1 hq.symm
 rw [← e1,← e2]
 exact h j1 j2
theorem rot_lo {s m e k:Nat} (h:k < s):rotI s m e k = k:=by unfold rotI;(repeat' split) <;> omega
theorem rot_a {s m e k:Nat} (h:s ≤ k) (h2:k < s + (e - m)):rotI s m e k = k + (m - s):=by unfold rotI;rw [if_pos ⟨h,h2⟩]
theorem rot_b {s m e k:Nat} (h:s + (e - m) ≤ k) (h2:k < e):rotI s m e k = k - (e - m):=by unfold rotI;rw [if_neg (by omega),if_pos ⟨h,h2⟩]
theorem rot_hi {s m e k:Nat} (h:e ≤ k) (h1:s ≤ m) (h2:m ≤ e):rotI s m e k = k:=by unfold rotI;(repeat' split) <;> omega
theorem sym_split (hc:Cmp c) {xs ys:List α} {a s m e b mid:Nat} (h1:SegOk c a m xs) (h2:SegOk c m b xs) (hb:b ≤ xs.length) (has:a ≤ s) (hsm:s ≤ m) (hme:m ≤ e) (heb:e ≤ b) (hmid:mid = s + (e - m))
  (n1:s = a ∨ e = b ∨ LeAt c xs (s - 1) e) (n2:s = m ∨ m = e ∨ LeAt c xs (e - 1) s) (hr:Ix (rotI s m e) xs ys) :
  SegOk c a s ys∧SegOk c s mid ys∧SegOk c mid e ys∧SegOk c e b ys∧Over c a mid b ys:=by
 subst hmid
 have k1:∀ p q,a ≤ p→p < s→e ≤ q→q < b→LeAt c xs p q:=by
  intro p q g1 g2 g3 g4
  rcases n1 with n1|n1|n1
  ·omega
  ·omega
  ·exact (h1.leR hc g1 (show p ≤ s - 1 by omega) (by omega)).trans hc (by omega) (n1.trans hc (by omega) (h2.leR hc (by omega) g3 g4))
 have k2:∀ p q,s ≤ p→p < m→m ≤ q→q < e→LeAt c xs q p:=by
  intro p q g1 g2 g3 g4
  rcases n2 with n2|n2|n2
  ·omega
  ·omega
  ·exact (h2.leR hc g3 (show q ≤ e - 1 by omega) (by omega)).trans hc (by omega) (n2.trans hc (by omega) (h1.leR hc has g1 g2))
 refine ⟨?_,?_,?_,?_,?_⟩
 ·intro p q hp hq g1 g2 g3
  refine LeAt.of (hr.at_ p) (hr.at_ q) ?_ hp hq
  rw [rot_lo (by omega),rot_lo (by omega)]
  exact h1.le g1 g2 (by omega)
 ·intro p q hp hq g1 g2 g3
  refine LeAt.of (hr.at_ p) (hr.at_ q) ?_ hp hq
  rw [rot_a (by omega) (by omega),rot_a (by omega) (by omega)]
  exact h2.le (by omega) (by omega) (by omega)
 ·intro p q hp hq g1 g2 g3
  refine LeAt.of (hr.at_ p) (hr.at_ q) ?_ hp hq
  rw [rot_b (by omega) (by omega),rot_b (by omega) (by omega)]
  exact h1.le (by omega) (by omega) (by omega)
 ·intro p q hp hq g1 g2 g3
  refine LeAt.of (hr.at_ p) (hr.at_ q) ?_ hp hq
  rw [rot_hi (by omega) hsm hme,rot_hi (by omega) hsm hme]
  exact h2.le (by omega) (by omega) (by omega)
 ·intro p q g1 g2 g3 g4
  refine LeAt.of (hr.at_ p) (hr.at_ q) ?_
  by_cases hp:p < s
  ·rw [rot_lo hp]
   by_cases hq:q < e
   ·rw [rot_b g3 hq]
    exact h1.le g1 (by omega) (by omega)
   ·rw [rot_hi (by omega) hsm hme]
    exact k1 p q g1 hp (by omega) g4
  ·rw [rot_a (by omega) g2]
   by_cases hq:q < e
   ·rw [rot_b g3 hq]
    exact k2 _ _ (by omega) (by omega) (by omega) (by omega)
   ·rw [rot_hi (by omega) hsm hme]
    exact h2.le (by omega) (by omega) g4
theorem one_first (hc:Cmp c) {xs ys:List α} {a i b:Nat} (h2:SegOk c (a + 1) b xs) (hb:b ≤ xs.length) (hai:a + 1 ≤ i) (hib:i ≤ b) (n1:i = a + 1 ∨ LeAt c xs (i - 1) a) (n2:i = b ∨ LeAt c xs a i) (hr:Ix (rotI a (a + 1) i) xs ys):SegOk c a b ys:=by
 intro p q hp hq g1 g2 g3
 refine LeAt.of (hr.at_ p) (hr.at_ q) ?_ hp hq
 by_cases p1:p < i - 1
 ·rw [rot_a g1 (by omega)]
  by_cases q1:q < i - 1
  ·rw [rot_a (by omega) (by omega)]
   exact h2.le (by omega) (by omega) (by omega)
  ·by_cases q2:q < i
   ·obtain rfl:q = i - 1:=by omega
    rw [rot_b (by omega) (by omega),show i - 1 - (i - (a + 1)) = a by omega]
    rcases n1 with n1|n1
    ·omega
    ·exact (h2.leR hc (by omega) (show p + (a + 1 - a) ≤ i - 1 by omega) (by omega)).trans hc (by omega) n1
   ·rw [rot_hi (by omega) (by omega) hai]
    exact h2.le (by omega) (by omega) g3
 ·by_cases p2:p < i
  ·obtain rfl:p = i - 1:=by omega
   rw [rot_b (by omega) (by omega),show i - 1 - (i - (a + 1)) = a by omega,rot_hi (by omega) (by omega) hai]
   rcases n2 with n2|n2
   ·omega
   ·exact n2.trans hc (by omega) (h2.leR hc (by omega) (show i ≤ q by omega) g3)
  ·rw [rot_hi (by omega) (by omega) hai,rot_hi (by omega) (by omega) hai]
   exact h2.le (by omega) g2 g3
theorem one_last (hc:Cmp c) {xs ys:List α} {a i m:Nat} (h1:SegOk c a m xs) (hb:m < xs.length) (hai:a ≤ i) (him:i ≤ m) (n1:i = a ∨ LeAt c xs (i - 1) m) (n2:i = m ∨ LeAt c xs m i) (hr:Ix (rotI i m (m + 1)) xs ys):SegOk c a (m + 1) ys:=by
 intro p q hp hq g1 g2 g3
 refine LeAt.of (hr.at_ p) (hr.at_ q) ?_ hp hq
 by_cases p1:p < i
 ·rw [rot_lo p1]
  by_cases q1:q < i
  ·rw [rot_lo q1]
   exact h1.le g1 g2 (by omega)
  ·by_cases q2:q = i
   ·subst q2
    rw [rot_a (by omega) (by omega),show q + (m - q) = m by omega]
    rcases n1 with n1|n1
    ·omega
    ·exact (h1.leR hc g1 (show p ≤ q - 1 by omega) (by omega)).trans hc (by omega) n1
   ·rw [rot_b (by omega) g3]
    exact h1.le g1 (by omega) (by omega)
 ·by_cases p2:p = i
  ·subst p2
   rw [rot_a (by omega) (by omega),show p + (m - p) = m by omega,rot_b (by omega) g3]
   rcases n2 with n2|n2
   ·omega
   ·exact n2.trans hc (by omega) (h1.leR hc hai (show p ≤ q - (m + 1 - m) by omega) (by omega))
  ·rw [rot_b (by omega) (by omega),rot_b (by omega) g3]
   exact h1.le (by omega) (by omega) (by omega)
theorem PermIn.mid {a b:Nat} {xs ys:List α} (h:PermIn a b xs ys) (hab:a ≤ b):((ys.drop a).take (b - a)).Perm ((xs.drop a).take (b - a)):=by
 have e1:ys.take a = xs.take a:=by
  refine List.ext_getElem? fun k => ?_
  rw [List.getElem?_take,List.getElem?_take]
  split
  ·exact h.out k (.inl ‹_›)
  ·rfl
 have e2:ys.drop b = xs.drop b:=by
  refine List.ext_getElem? fun k => ?_
  rw [List.getElem?_drop,List.getElem?_drop]
  exact h.out _ (.inr (by omega))
 have sp:∀ zs:List α,zs = zs.take a ++ ((zs.drop a).take (b - a) ++ zs.drop b):=fun zs => by
  conv => lhs;rw [← List.take_append_drop a zs,← List.take_append_drop (b - a) (zs.drop a),List.drop_drop,show a + (b - a) = b by omega]
 have hp:=h.perm
 rw [sp ys,sp xs,e1,e2] at hp
 exact (List.perm_append_right_iff _).1 ((List.perm_append_left_iff _).1 hp)
theorem PermIn.mem {a b:Nat} {xs ys:List α} (h:PermIn a b xs ys) {p:Nat} (h1:a ≤ p) (h2:p < b) (hp:p < ys.length):∃ p',a ≤ p'∧p' < b∧ys[p]? = xs[p']?:=by
 have hm:ys[p] ∈ (ys.drop a).take (b - a):=by
  refine List.mem_iff_getElem?.2 ⟨p - a,?_⟩
  rw [List.getElem?_take,if_pos (by omega),List.getElem?_drop,show a + (p - a) = p by omega,List.getElem?_eq_getElem hp]
 obtain ⟨k,hk⟩:=List.mem_iff_getElem?.1 ((h.mid (by omega)).mem_iff.1 hm)
 rw [List.getElem?_take] at hk
 split at hk
 ·rw [List.getElem?_drop] at hk
  exact ⟨a + k,by omega,by omega,by rw [hk,List.getElem?_eq_getElem hp]⟩
 ·cases hk
theorem Over.perm1 {a m b:Nat} {xs ys:List α} (h:Over c a m b xs) (k:PermIn a m xs ys):Over c a m b ys:=by
 intro p q h1 h2 h3 h4 hp hq
 obtain ⟨p',g1,g2,g3⟩:=k.mem h1 h2 hp
 exact LeAt.of g3 (k.out q (.inr h3)) (h p' q g1 g2 h3 h4) hp hq
theorem Over.perm2 {a m b:Nat} {xs ys:List α} (h:Over c a m b xs) (k:PermIn m b xs ys):Over c a m b ys:=by
 intro p q h1 h2 h3 h4 hp hq
 obtain ⟨q',g1,g2,g3⟩:=k.mem h3 h4 hq
 exact LeAt.of (k.out p (.inl h2)) g3 (h p q' h1 h2 g1 g2) hp hq
theorem SegOk.perm {a b a' b':Nat} {xs ys:List α} (h:SegOk c a b xs) (k:PermIn a' b' xs ys) (hd:b ≤ a' ∨ b' ≤ a):SegOk c a b ys:=by
 intro p q hp hq h1 h2 h3
 exact LeAt.of (k.out p (by omega)) (k.out q (by omega)) (h.le h1 h2 h3) hp hq
end
end Go.Proofs.YtgngidchldajhaaGreat
namespace Go.Proofs.YtgngidchldajhaaGreat
open Go.RowKit
section
variable {α:Type} {R:Rep α} {w:World}
theorem Own.swapLo {v:Value} {xs:List α} {lo hi:Nat} (h:Own (RS R) lo hi w [v] xs) (hk:R.k = 1) (i j:Nat) (hij:i < j) (hj:j < xs.length) :
  ∃ g cap a b,v = .slice (some ⟨g,0,none⟩) xs.length cap∧xs.length ≤ cap∧cap ≤ 9223372036854775807∧g < w.heap.size ∧
   w.cell? ⟨g,i,none⟩ = some a∧w.cell? ⟨g,j,none⟩ = some b∧w.frozen? ⟨g,i,none⟩ = false∧w.frozen? ⟨g,j,none⟩ = false∧Rd R w [a] xs[i]∧Rd R w [b] xs[j] ∧
   (w.setCell ⟨g,i,none⟩ b).cell? ⟨g,j,none⟩ = some b ∧
   Own (RS R) lo hi ((w.setCell ⟨g,i,none⟩ b).setCell ⟨g,j,none⟩ a) [v] (swpL xs i j)∧Chg lo hi w ((w.setCell ⟨g,i,none⟩ b).setCell ⟨g,j,none⟩ a):=by
 obtain ⟨og,ds,F,hrow,hel,hF,hlt⟩:=h.open
 obtain ⟨g,rfl⟩:=hrow.some_of hj
 obtain ⟨cap,hv,hc1,hc2⟩:=hrow.slice
 obtain ⟨p,x,q,y,r,e,hp,hq,hxi,hxj⟩:=split2 xs i j hij hj
 rw [hxi,hxj]
 have hel0:=hel
 rw [e] at hel0
 obtain ⟨d1,d2,F1,F2,rfl,rfl,h1,⟨ca,d3,G,H,rfl,rfl,h2,h3⟩⟩:=ownL.unappend hel0
 obtain ⟨d4,d5,F4,F5,rfl,rfl,h4,⟨cb,d6,G2,H2,rfl,rfl,h5,h6⟩⟩:=ownL.unappend h3
 have la:=R.rd_len (R.own_rd h2)
 have lb:=R.rd_len (R.own_rd h5)
 rw [hk] at la lb
 match ca,la,cb,lb with
 | [a],_,[b],_ =>
  have l1:d1.length = i:=by rw [h1.len,hk,Nat.mul_one,hp]
  have l4:i + d4.length + 1 = j:=by rw [h4.len,hk,Nat.mul_one];exact hq
  have hlen:xs.length = p.length + (1 + (q.length + (1 + r.length))):=by rw [e];simp only [List.length_append,List.length_cons];omega
  have hrow':Row w v 1 xs.length (d1 ++ (a :: (d4 ++ (b :: d6)))) (some g):=by rw [← hk];exact hrow
  have ga:w.cell? ⟨g,i,none⟩ = some a:=hrow'.cells i a (by rw [← l1];simp)
  have gb:w.cell? ⟨g,j,none⟩ = some b:=hrow'.cells j b (by
   rw [List.getElem?_append_right (by omega),l1,show j - i = d4.length + 1 by omega];simp)
  obtain ⟨s1,r1⟩:=hrow'.store i b
  obtain ⟨s2,r2⟩:=s1.store j a
  have hset:((d1 ++ (a :: (d4 ++ (b :: d6)))).set i b).set j a = d1 ++ (b :: (d4 ++ (a :: d6))):=by
   rw [List.set_append_right _ _ (by omega),l1,Nat.sub_self,List.set_cons_zero,List.set_append_right _ _ (by omega),l1,show j - i = d4.length + 1 by omega,List.set_cons_succ,List.set_append_right _ _ (Nat.le_refl _),Nat.sub_self,List.set_cons_zero]
  rw [hset] at s2
  have hfr:∀ z,z ∈ F1 ++ (G ++ (F4 ++ (G2 ++ H2)))→((w.setCell ⟨g,i,none⟩ b).setCell ⟨g,j,none⟩ a).heap[z]? = w.heap[z]?:=by
   intro z hz
   have hne:z ≠ g:=by
    intro e;subst e
    exact (List.nodup_append.1 hF).2.2 z (by simp) z hz rfl
   rw [heap_setCell_other _ ⟨g,j,none⟩ z a hne,heap_setCell_other _ ⟨g,i,none⟩ z b hne]
  have hown:ownL R ((w.setCell ⟨g,i,none⟩ b).setCell ⟨g,j,none⟩ a) (d1 ++ (b :: (d4 ++ (a :: d6)))) (swpL xs i j) (F1 ++ (G2 ++ (F4 ++ (G ++ H2)))):=by
   rw [e,swpL_split p q r x y i j hp hq]
   refine ownL.append (h1.frame fun z hz => hfr z (by simp [hz])) ?_
   refine ⟨[b],d4 ++ (a :: d6),G2,F4 ++ (G ++ H2),rfl,rfl,R.own_frame h5 (fun z hz => hfr z (by simp [hz])),?_⟩
   refine ownL.append (h4.frame fun z hz => hfr z (by simp [hz])) ?_
   exact ⟨[a],d6,G,H2,rfl,rfl,R.own_frame h2 (fun z hz => hfr z (by simp [hz])),h6.frame fun z hz => hfr z (by simp [hz])⟩
  have hperm:(F1 ++ (G2 ++ (F4 ++ (G ++ H2)))).Perm (F1 ++ (G ++ (F4 ++ (G2 ++ H2)))):=by
   refine List.Perm.append_left F1 ?_
   have e1:(G2 ++ (F4 ++ (G ++ H2))).Perm (G ++ (G2 ++ (F4 ++ H2))):=by
    rw [← List.append_assoc,← List.append_assoc]
    refine (List.perm_append_comm.append_right H2).trans ?_
    rw [List.append_assoc,List.append_assoc]
   refine e1.trans (List.Perm.append_left G ?_)
   rw [← List.append_assoc,← List.append_assoc]
   exact List.perm_append_comm.append_right H2
  have hg:=hlt g (by simp)
  have hgs:=hrow.lt g rfl
  refine ⟨g,cap,a,b,hv,hc1,by unfold maxLen at hc2;omega,hgs,ga,gb,hrow'.frozen i,hrow'.frozen j,Rd.of (R.own_rd h2),Rd.of (R.own_rd h5),?_,?_,?_⟩
  ·rw [World.cell?_setCell_other _ _ _ _ (by intro e;simp only [Addr.mk.injEq] at e;omega)];exact gb
  ·refine Own.mk' (og:=some g) (ds:=d1 ++ (b :: (d4 ++ (a :: d6)))) (F:=F1 ++ (G2 ++ (F4 ++ (G ++ H2)))) (by rw [hk,swpL_length];exact s2) hown ?_ ?_
   ·exact (List.Perm.nodup_iff (hperm.append_left _)).2 hF
   ·intro z hz
    exact hlt z ((hperm.append_left _).mem_iff.1 hz)
  ·exact (Chg.of_grown r1 (fun z hz => by cases hz;exact hg)).trans (Chg.of_grown r2 (fun z hz => by cases hz;exact hg))
end
set_option maxHeartbeats 16000000 in
set_option maxRecDepth 1000000 in
theorem c_swapRange (g:Nat) (a b n:Nat) (v:Value) (xs:List (List Int)) (lo hi:Nat) (w:World) (ho:Own (RS (RS RI)) lo hi w [v] xs) (hab:a + n ≤ b) (hb:b + n ≤ xs.length) (hsz:xs.length ≤ 1000000000) :
  Calls Tryz.prog 300 #[v,.int .i64 a,.int .i64 b,.int .i64 n,.func (.func g) #[] #[]] w fun e w' => e = .returned (.tuple #[])∧∃ ys,PermIn a (b + n) xs ys∧Ix (swpI a b n) xs ys∧Own (RS (RS RI)) lo hi w' [v] ys∧Chg lo hi w w':=by
 obtain ⟨oa,cap,rfl,hv1,hv2⟩:=ho.val
 have mixed:Tryz.prog.follows Departure.mixedOrders = true:=by kernel_rfl
 have S0:Hid (Own (RS (RS RI)) lo hi w [.slice oa xs.length cap] xs):=ho
 clear ho
 go_enter Tryz.func300,Tryz.ntmps300
 go_wp2_with fail
 go_loopg [10] n (fun g1 vi wr => ∃ (i:Nat) (ys:List (List Int)),vi = .int .i64 i∧i ≤ n∧n - i ≤ g1∧Hid (PermIn a (b + n) xs ys∧Ix (swpI a b i) xs ys∧Own (RS (RS RI)) lo hi wr [.slice oa xs.length cap] ys∧Chg lo hi w wr))
 case atStart => exact ⟨0,xs,rfl,Nat.zero_le _,Nat.le_refl _,Lib.hid ⟨PermIn.refl _ _ _,.refl (swpI_zero a b),S0.out,Chg.refl _ _ _⟩⟩
 case round =>
  clear S0
  obtain ⟨i,ys,rfl,hi1,hg1,HO⟩:=hrel
  have hzl:ys.length = xs.length:=HO.out.1.len
  by_cases hlt:i < n
  ·have hltz:(i:Int) < (n:Int):=by omega
   obtain ⟨gb,cap',u1,u2,hv,_,_,hgb,k1,k2,f1,f2,r1,r2,k3,hsw,hch⟩:=HO.out.2.2.1.swapLo (R:=RS RI) rfl (a + i) (b + i) (by omega) (by omega)
   rw [hzl] at hv
   simp only [Value.slice.injEq,true_and] at hv
   obtain ⟨rfl,rfl⟩:=hv
   have ea:((a:Int) + (i:Int)).toNat = a + i:=by omega
   have pa:(0:Int) ≤ (a:Int) + (i:Int):=by omega
   have ba:(a:Int) + (i:Int) < (xs.length:Int):=by omega
   have ra:IntKind.i64.wrap ((a:Int) + (i:Int)) = (a:Int) + (i:Int):=by rw [IntKind.wrap_i64];omega
   have ec:((b:Int) + (i:Int)).toNat = b + i:=by omega
   have pc:(0:Int) ≤ (b:Int) + (i:Int):=by omega
   have bc:(b:Int) + (i:Int) < (xs.length:Int):=by omega
   have rc:IntKind.i64.wrap ((b:Int) + (i:Int)) = (b:Int) + (i:Int):=by rw [IntKind.wrap_i64];omega
   have S3:Hid (Own (RS (RS RI)) lo hi (((wr.setCell ⟨gb,a + i,none⟩ u2).setCell ⟨gb,b + i,none⟩ u1)) [.slice (some ⟨gb,0,none⟩) xs.length cap] (swpL ys (a + i) (b + i))∧Chg lo hi w ((wr.setCell ⟨gb,a + i,none⟩ u2).setCell ⟨gb,b + i,none⟩ u1)):=Lib.hid ⟨hsw,HO.out.2.2.2.trans hch⟩
   obtain ⟨o1,p1,rfl,_⟩:=r1.val
   obtain ⟨o2,p2,rfl,_⟩:=r2.val
   obtain ⟨l1,hl1⟩:∃ l,l = ys[a + i].length:=⟨_,rfl⟩
   obtain ⟨l2,hl2⟩:∃ l,l = ys[b + i].length:=⟨_,rfl⟩
   rw [← hl1] at k1 S3
   rw [← hl2] at k2 k3 S3
   clear hsw hch r1 r2 hl1 hl2
   go_wp2_with fail
   go_big_region_o
   clear k1 k2 k3 f1 f2
   go_wp2_with fail
   go_roundg (n - (i + 1))
   case measure => omega
   case rel =>
    refine ⟨i + 1,swpL ys (a + i) (b + i),by go_num,by omega,by omega,Lib.hid ⟨HO.out.1.trans (PermIn.swp ys (a + i) (b + i) (by omega) (by omega) (by omega) (by omega)),?_,S3.out.1.of_heap rfl,S3.out.2.of_heap rfl rfl rfl rfl⟩⟩
    exact HO.out.2.1.swp (by omega) (by omega) (swpI_succ hab hlt)
  ·obtain rfl:i = n:=by omega
   go_wp2_with fail
   go_end0
   exact ⟨rfl,ys,HO.out.1,HO.out.2.1,HO.out.2.2.1,HO.out.2.2.2⟩
end Go.Proofs.YtgngidchldajhaaGreat
namespace Go.Proofs.YtgngidchldajhaaGreat
open Go.RowKit
set_option maxHeartbeats 16000000 in
set_option maxRecDepth 1000000 in
theorem c_rotate (g:Nat) (a m b:Nat) (v:Value) (xs:List (List Int)) (lo hi:Nat) (w:World) (ho:Own (RS (RS RI)) lo hi w [v] xs) (ham:a < m) (hmb:m < b) (hb:b ≤ xs.length) (hsz:xs.length ≤ 1000000000) :
  Calls Tryz.prog 285 #[v,.int .i64 a,.int .i64 m,.int .i64 b,.func (.func g) #[] #[]] w fun e w' => e = .returned (.tuple #[])∧∃ ys,PermIn a b xs ys∧Ix (rotI a m b) xs ys∧Own (RS (RS RI)) lo hi w' [v] ys∧Chg lo hi w w':=by
 obtain ⟨oa,cap,rfl,hv1,hv2⟩:=ho.val
 have mixed:Tryz.prog.follows Departure.mixedOrders = true:=by kernel_rfl
 have S0:Hid (Own (RS (RS RI)) lo hi w [.slice oa xs.length cap] xs):=ho
 clear ho
 have wa:IntKind.i64.wrap ((m:Int) - (a:Int)) = ((m - a:Nat):Int):=by rw [IntWalk.i64_in _ (by omega)];omega
 have wb:IntKind.i64.wrap ((b:Int) - (m:Int)) = ((b - m:Nat):Int):=by rw [IntWalk.i64_in _ (by omega)];omega
 go_enter Tryz.func285,Tryz.ntmps285
 go_wp2_with fail
 go_loopg [10,11] ((m - a) + (b - m)) (fun g1 vi vj wr => ∃ (i j:Nat) (ys:List (List Int)),vi = .int .i64 i∧vj = .int .i64 j∧0 < i∧0 < j∧i ≤ m - a∧j ≤ b - m∧i + j ≤ g1∧Hid (PermIn a b xs ys∧RotS a m b i j xs ys∧Own (RS (RS RI)) lo hi wr [.slice oa xs.length cap] ys∧Chg lo hi w wr))
 case atStart => exact ⟨m - a,b - m,xs,by first|rfl|go_num|(congr 1;omega),by first|rfl|go_num|(congr 1;omega),by omega,by omega,Nat.le_refl _,Nat.le_refl _,Nat.le_refl _,Lib.hid ⟨PermIn.refl _ _ _,RotS.start (by omega) (by omega),S0.out,Chg.refl _ _ _⟩⟩
 case round =>
  clear S0 wa wb
  obtain ⟨i,j,ys,rfl,rfl,hi0,hj0,hi1,hj1,hg1,HO⟩:=hrel
  have hzl:ys.length = xs.length:=HO.out.1.len
  by_cases hlt:i = j
  ·subst hlt
   have hc:=c_swapRange g (m - i) m i (.slice oa xs.length cap) ys lo hi wr HO.out.2.2.1 (by omega) (by omega) (by omega)
   have wc:IntKind.i64.wrap ((m:Int) - (i:Int)) = ((m - i:Nat):Int):=by rw [IntWalk.i64_in _ (by omega)];omega
   have HC:=Lib.hid hc
   clear hc
   go_wp2_with (go_at_call 300;refine HC.out.mono ?_;rintro e w' ⟨rfl,zs,h1,h2,h3,h4⟩)
   go_end0
   exact ⟨rfl,zs,HO.out.1.trans (h1.mono (by omega) (by omega)),HO.out.2.1.done (by omega) h2,h3,HO.out.2.2.2.trans h4⟩
  ·have hne:¬ (i:Int) = (j:Int):=by omega
   by_cases hgt:j < i
   ·have hgtz:(j:Int) < (i:Int):=by omega
    have hc:=c_swapRange g (m - i) m j (.slice oa xs.length cap) ys lo hi wr HO.out.2.2.1 (by omega) (by omega) (by omega)
    have wc:IntKind.i64.wrap ((m:Int) - (i:Int)) = ((m - i:Nat):Int):=by rw [IntWalk.i64_in _ (by omega)];omega
    have wd:IntKind.i64.wrap ((i:Int) - (j:Int)) = ((i - j:Nat):Int):=by rw [IntWalk.i64_in _ (by omega)];omega
    have HC:=Lib.hid hc
    clear hc
    go_wp2_with (go_at_call 300;refine HC.out.mono ?_;rintro e w' ⟨rfl,zs,h1,h2,h3,h4⟩)
    have HZ:Hid (PermIn a b xs zs∧RotS a m b (i - j) j xs zs∧Own (RS (RS RI)) lo hi w' [.slice oa xs.length cap] zs∧Chg lo hi w w'):=Lib.hid ⟨HO.out.1.trans (h1.mono (by omega) (by omega)),HO.out.2.1.left hgt (by omega) h2,h3,HO.out.2.2.2.trans h4⟩
    clear h1 h2 h3 h4 HO
    go_wp2_with fail
    go_roundg (i - j + j)
    case measure => omega
    case rel => exact ⟨i - j,j,zs,by first|rfl|go_num|(congr 1;omega),rfl,by omega,by omega,by omega,by omega,Nat.le_refl _,HZ⟩
   ·have hgtz:¬ (j:Int) < (i:Int):=by omega
    have hc:=c_swapRange g (m - i) (m + j - i) i (.slice oa xs.length cap) ys lo hi wr HO.out.2.2.1 (by omega) (by omega) (by omega)
    obtain ⟨q,hq⟩:∃ q,q = m + j - i:=⟨_,rfl⟩
    obtain ⟨p,hp⟩:∃ p,p = m - i:=⟨_,rfl⟩
    obtain ⟨d,hd⟩:∃ d,d = j - i:=⟨_,rfl⟩
    have wc:IntKind.i64.wrap ((m:Int) - (i:Int)) = (p:Int):=by rw [IntWalk.i64_in _ (by omega)];omega
    have we:IntKind.i64.wrap ((m:Int) + (j:Int)) = (m:Int) + (j:Int):=by rw [IntWalk.i64_in _ (by omega)]
    have wf:IntKind.i64.wrap ((m:Int) + (j:Int) - (i:Int)) = (q:Int):=by rw [IntWalk.i64_in _ (by omega)];omega
    have wd:IntKind.i64.wrap ((j:Int) - (i:Int)) = (d:Int):=by rw [IntWalk.i64_in _ (by omega)];omega
    have hz:∀ zs,Ix (swpI (m - i) (m + j - i) i) ys zs→RotS a m b i (j - i) xs zs:=fun zs hz => HO.out.2.1.right (by omega) (by omega) hz
    have hz2:∀ zs,PermIn (m - i) (m + j - i + i) ys zs→PermIn a b xs zs:=fun zs hz => HO.out.1.trans (hz.mono (by omega) (by omega))
    rw [← hq,← hp] at hc hz hz2
    rw [← hd] at hz
    have HC:=Lib.hid hc
    have HK:=Lib.hid hz
    have HK2:=Lib.hid hz2
    have hd2:=Lib.hid hd
    clear hc hz hz2 hq hp hd
    go_wp2_with (go_at_call 300;refine HC.out.mono ?_;rintro e w' ⟨rfl,zs,h1,h2,h3,h4⟩)
    have HZ:Hid (PermIn a b xs zs∧RotS a m b i d xs zs∧Own (RS (RS RI)) lo hi w' [.slice oa xs.length cap] zs∧Chg lo hi w w'):=Lib.hid ⟨HK2.out zs h1,HK.out zs h2,h3,HO.out.2.2.2.trans h4⟩
    clear h1 h2 h3 h4 HO HC HK HK2
    go_wp2_with fail
    have hd:=hd2.out
    go_roundg (i + d)
    case measure => omega
    case rel => exact ⟨i,d,zs,rfl,rfl,by omega,by omega,by omega,by omega,Nat.le_refl _,HZ⟩
end Go.Proofs.YtgngidchldajhaaGreat
