/- Data: what a slot holds, told without memory; roots: what is owned, as trees. What each means in a world. -/
import Derived.Test.YtgpkbldlkadnjaaGreatJ1
import Derived.Laws.CopyRow
import Derived.Laws.IdiomStrings
set_option linter.unusedVariables false
set_option linter.unusedSimpArgs false
section
namespace Go.Sl
open Go.RowKit
structure Ab where
 p : World → (Nat → Prop) → (Nat → Option Value) → Value → (Nat → Nat) → Prop
 keep : ∀ {w w' : World} {Z Z' : Nat → Prop} {T T' : Nat → Option Value} {v : Value} {F : Nat → Nat}, p w Z T v F → (∀ b, 0 < F b ∨ Z b → w'.heap[b]? = w.heap[b]?) → (∀ b, Z b → Z' b) → (∀ i u, T i = some u → T' i = some u) → p w' Z' T' v F

inductive D where
 | sc (v : Value)                       -- this value
 | sl (n : Nat) (l : List D)            -- a slice that is never written again: n elements, its cells
 | pt (l : List D)                      -- a pointer to such cells
 | agg (l : List D)
 | tup (l : List D)
 | fn (f : FuncId) (a b : List D)
 | ifc (t : TypeId) (d : D)
 | h (i : Nat)                          -- the value whose name is i
 | hp (i off : Nat)                     -- a pointer into the block of the value whose name is i
 | hs (i n : Nat)                       -- the first n of the slice whose name is i
 | ht (i off m : Nat)                   -- m elements of the slice whose name is i, from a cell on
 | opt (b : Bool) (d : D)               -- where b holds
 | dead
 -- what is owned
 | row (e : TypeId) (s n : Nat) (l : List D)
 | box (e : TypeId) (l : List D)
 | fbx (l : List D)                     -- a block that was owned, and is never written again
 | mp (ks : List Value) (l : List D)
 | abs (A : Ab)

def blk : Value → Option Nat
 | .slice (some a) _ _ => some a.block
 | .pointer (some a) => some a.block
 | .map (some r) => some r
 | _ => none
def own (v : Value) (b : Nat) : Nat := if blk v = some b then 1 else 0

section
variable (w : World) (Z : Nat → Prop) (T : Nat → Option Value)
mutual
def Rs : D → Value → Prop
 | .sc v, u => u = v
 | .sl n l, u => ∃ A c, u = .slice A n c ∧ n ≤ c ∧ (A = none → n = 0) ∧ Fz l A 0
 | .pt l, u => ∃ a, u = .pointer (some a) ∧ Fz l (some a) 0
 | .agg l, u => ∃ us, u = .agg us.toArray ∧ RsL l us
 | .tup l, u => ∃ us, u = .tuple us.toArray ∧ RsL l us
 | .fn f a b, u => ∃ us vs, u = .func (.func f) us.toArray vs.toArray ∧ RsL a us ∧ RsL b vs
 | .ifc t d, u => ∃ v, u = .iface t v ∧ Rs d v
 | .h i, u => T i = some u
 | .hp i off, u => ∃ v b, T i = some v ∧ blk v = some b ∧ u = .pointer (some ⟨b, off, none⟩)
 | .hs i n, u => ∃ v, T i = some v ∧ ((∃ a len cap m, v = .slice (some a) len cap ∧ u = .slice (some a) n m ∧ n ≤ m) ∨ (v = .slice none 0 0 ∧ n = 0 ∧ u = .slice none 0 0))
 | .ht i off m, u => ∃ v, T i = some v ∧ ((∃ a a' len cap c, v = .slice (some a) len cap ∧ u = .slice (some a') m c ∧ (0 < m → a' = a.add off)) ∨ (v = .slice none 0 0 ∧ m = 0 ∧ u = .slice none 0 0))
 | .opt b d, u => (b = true → Rs d u) ∧ (b = false → u = undef)
 | .dead, _ => True
 | .row _ _ _ _, _ => False
 | .box _ _, _ => False
 | .fbx _, _ => False
 | .mp _ _, _ => False
 | .abs _, _ => False
def RsL : List D → List Value → Prop
 | [], us => us = []
 | d :: l, us => ∃ u us', us = u :: us' ∧ Rs d u ∧ RsL l us'
def Fz : List D → Option Addr → Nat → Prop
 | [], _, _ => True
 | d :: l, A, j => (∃ a u, A = some a ∧ Z a.block ∧ w.cell? (a.add j) = some u ∧ Rs d u) ∧ Fz l A (j + 1)
end
def Aba (b : Nat) (ks : List Value) (us : List Value) : Prop :=
 ∃ es clock, Mp w b ks us es clock
mutual
def Ro : D → Value → (Nat → Nat) → Prop
 | .row e s n l, u, F => ∃ us F', Ow w e s u n us ∧ RoL l us F' ∧ ∀ b, F b = F' b + own u b
 | .box e l, u, F => ∃ b us F', u = .pointer (some ⟨b, 0, none⟩) ∧ w.heap[b]? = some (.cells us.toArray e (0, 0)) ∧ RoL l us F' ∧ ∀ c, F c = F' c + own u c
 | .fbx l, u, F => (∃ b, u = .pointer (some ⟨b, 0, none⟩) ∧ Fz w Z T l (some ⟨b, 0, none⟩) 0) ∧ ∀ c, F c = 0
 | .mp ks l, u, F => ∃ b us F', u = .map (some b) ∧ Aba w b ks us ∧ RoL l us F' ∧ ∀ c, F c = F' c + own u c
 | .abs A, u, F => A.p w Z T u F
 | d, u, F => Rs w Z T d u ∧ ∀ b, F b = 0
def RoL : List D → List Value → (Nat → Nat) → Prop
 | [], us, F => us = [] ∧ ∀ b, F b = 0
 | d :: l, us, F => ∃ u us' F1 F2, us = u :: us' ∧ Ro d u F1 ∧ RoL l us' F2 ∧ ∀ b, F b = F1 b + F2 b
end
end

/-! ### what only grows -/
section
variable {w w' : World} {Z Z' : Nat → Prop} {T T' : Nat → Option Value}
mutual
theorem Rs.keep (hw : ∀ b, Z b → w'.heap[b]? = w.heap[b]?) (hZ : ∀ b, Z b → Z' b) (hT : ∀ i u, T i = some u → T' i = some u) : ∀ (d : D) (u : Value), Rs w Z T d u → Rs w' Z' T' d u
 | .sc v, u, h => by simpa only [Rs] using h
 | .sl n l, u, h => by
  simp only [Rs] at h ⊢
  obtain ⟨A, c, h1, h2, h0, h3⟩ := h
  exact ⟨A, c, h1, h2, h0, Fz.keep hw hZ hT l A 0 h3⟩
 | .pt l, u, h => by
  simp only [Rs] at h ⊢
  obtain ⟨a, h1, h3⟩ := h
  exact ⟨a, h1, Fz.keep hw hZ hT l _ 0 h3⟩
 | .agg l, u, h => by
  simp only [Rs] at h ⊢
  obtain ⟨us, h1, h2⟩ := h
  exact ⟨us, h1, RsL.keep hw hZ hT l us h2⟩
 | .tup l, u, h => by
  simp only [Rs] at h ⊢
  obtain ⟨us, h1, h2⟩ := h
  exact ⟨us, h1, RsL.keep hw hZ hT l us h2⟩
 | .fn f a b, u, h => by
  simp only [Rs] at h ⊢
  obtain ⟨us, vs, h1, h2, h3⟩ := h
  exact ⟨us, vs, h1, RsL.keep hw hZ hT a us h2, RsL.keep hw hZ hT b vs h3⟩
 | .ifc t d, u, h => by
  simp only [Rs] at h ⊢
  obtain ⟨v, h1, h2⟩ := h
  exact ⟨v, h1, Rs.keep hw hZ hT d v h2⟩
 | .h i, u, h => by
  simp only [Rs] at h ⊢
  exact hT _ _ h
 | .hp i off, u, h => by
  simp only [Rs] at h ⊢
  obtain ⟨v, b, h1, h2⟩ := h
  exact ⟨v, b, hT _ _ h1, h2⟩
 | .hs i n, u, h => by
  simp only [Rs] at h ⊢
  obtain ⟨v, h1, h2⟩ := h
  exact ⟨v, hT _ _ h1, h2⟩
 | .ht i off m, u, h => by
  simp only [Rs] at h ⊢
  obtain ⟨v, h1, h2⟩ := h
  exact ⟨v, hT _ _ h1, h2⟩
 | .opt b d, u, h => by
  simp only [Rs] at h ⊢
  exact ⟨fun hb => Rs.keep hw hZ hT d u (h.1 hb), h.2⟩
 | .dead, u, h => by simp only [Rs]
 | .row _ _ _ _, u, h => by simp only [Rs] at h
 | .box _ _, u, h => by simp only [Rs] at h
 | .fbx _, u, h => by simp only [Rs] at h
 | .mp _ _, u, h => by simp only [Rs] at h
 | .abs _, u, h => by simp only [Rs] at h
theorem RsL.keep (hw : ∀ b, Z b → w'.heap[b]? = w.heap[b]?) (hZ : ∀ b, Z b → Z' b) (hT : ∀ i u, T i = some u → T' i = some u) : ∀ (l : List D) (us : List Value), RsL w Z T l us → RsL w' Z' T' l us
 | [], us, h => by simpa only [RsL] using h
 | d :: l, us, h => by
  simp only [RsL] at h ⊢
  obtain ⟨u, us', h1, h2, h3⟩ := h
  exact ⟨u, us', h1, Rs.keep hw hZ hT d u h2, RsL.keep hw hZ hT l us' h3⟩
theorem Fz.keep (hw : ∀ b, Z b → w'.heap[b]? = w.heap[b]?) (hZ : ∀ b, Z b → Z' b) (hT : ∀ i u, T i = some u → T' i = some u) : ∀ (l : List D) (A : Option Addr) (j : Nat), Fz w Z T l A j → Fz w' Z' T' l A j
 | [], A, j, h => by simp only [Fz]
 | d :: l, A, j, h => by
  simp only [Fz] at h ⊢
  obtain ⟨⟨a, u, h1, h2, h3, h4⟩, h5⟩ := h
  refine ⟨⟨a, u, h1, hZ _ h2, ?_, Rs.keep hw hZ hT d u h4⟩, Fz.keep hw hZ hT l A (j + 1) h5⟩
  rw [World.cell?_of_block (w := w) (by rw [add_block]; exact hw _ h2)]
  exact h3
end
theorem Aba.keep {b : Nat} {ks us : List Value} (hw : w'.heap[b]? = w.heap[b]?) (h : Aba w b ks us) : Aba w' b ks us := by
 obtain ⟨es, c, h1⟩ := h
 exact ⟨es, c, ⟨by rw [hw]; exact h1.at_, h1.key, h1.val, h1.nodup, h1.born, h1.old⟩⟩
theorem Ow.keep {e : TypeId} {s n : Nat} {v : Value} {cs : List Value} (hw : ∀ b, own v b = 1 → w'.heap[b]? = w.heap[b]?) (h : Ow w e s v n cs) : Ow w' e s v n cs := by
 refine ⟨h.1, ?_⟩
 rcases h.2 with hn | ⟨g, cap, cur, rfl, hg, rest⟩
 ·exact .inl hn
 ·refine .inr ⟨g, cap, cur, rfl, ?_, rest⟩
  rw [hw g (by simp [own, blk])]
  exact hg
mutual
theorem Ro.keep (hZ : ∀ b, Z b → Z' b) (hT : ∀ i u, T i = some u → T' i = some u) : ∀ (d : D) (u : Value) (F : Nat → Nat), (∀ b, 0 < F b ∨ Z b → w'.heap[b]? = w.heap[b]?) → Ro w Z T d u F → Ro w' Z' T' d u F
 | .row e s n l, u, F, hw, h => by
  simp only [Ro] at h ⊢
  obtain ⟨us, F', h1, h2, h3⟩ := h
  exact ⟨us, F', h1.keep fun b hb => hw b (.inl (by rw [h3]; omega)), RoL.keep hZ hT l us F' (fun b hb => hw b (hb.imp_left fun hb => by rw [h3]; omega)) h2, h3⟩
 | .box e l, u, F, hw, h => by
  simp only [Ro] at h ⊢
  obtain ⟨b, us, F', h0, h1, h2, h3⟩ := h
  refine ⟨b, us, F', h0, ?_, RoL.keep hZ hT l us F' (fun b hb => hw b (hb.imp_left fun hb => by rw [h3]; omega)) h2, h3⟩
  rw [hw b (.inl (by rw [h3, h0]; simp [own, blk]))]
  exact h1
 | .mp ks l, u, F, hw, h => by
  simp only [Ro] at h ⊢
  obtain ⟨b, us, F', h0, h1, h2, h3⟩ := h
  exact ⟨b, us, F', h0, h1.keep (hw b (.inl (by rw [h3, h0]; simp [own, blk]))), RoL.keep hZ hT l us F' (fun b hb => hw b (hb.imp_left fun hb => by rw [h3]; omega)) h2, h3⟩
 | .fbx l, u, F, hw, h => by
  simp only [Ro] at h ⊢
  obtain ⟨⟨b, h1, h2⟩, h3⟩ := h
  exact ⟨⟨b, h1, Fz.keep (fun b hb => hw b (.inr hb)) hZ hT l _ 0 h2⟩, h3⟩
 | .abs A, u, F, hw, h => by
  simp only [Ro] at h ⊢
  exact A.keep h hw hZ hT
 | .sc v, u, F, hw, h => by simp only [Ro] at h ⊢; exact ⟨Rs.keep (fun b hb => hw b (.inr hb)) hZ hT _ _ h.1, h.2⟩
 | .sl n l, u, F, hw, h => by simp only [Ro] at h ⊢; exact ⟨Rs.keep (fun b hb => hw b (.inr hb)) hZ hT _ _ h.1, h.2⟩
 | .pt l, u, F, hw, h => by simp only [Ro] at h ⊢; exact ⟨Rs.keep (fun b hb => hw b (.inr hb)) hZ hT _ _ h.1, h.2⟩
 | .agg l, u, F, hw, h => by simp only [Ro] at h ⊢; exact ⟨Rs.keep (fun b hb => hw b (.inr hb)) hZ hT _ _ h.1, h.2⟩
 | .tup l, u, F, hw, h => by simp only [Ro] at h ⊢; exact ⟨Rs.keep (fun b hb => hw b (.inr hb)) hZ hT _ _ h.1, h.2⟩
 | .fn f a b, u, F, hw, h => by simp only [Ro] at h ⊢; exact ⟨Rs.keep (fun b hb => hw b (.inr hb)) hZ hT _ _ h.1, h.2⟩
 | .ifc t d, u, F, hw, h => by simp only [Ro] at h ⊢; exact ⟨Rs.keep (fun b hb => hw b (.inr hb)) hZ hT _ _ h.1, h.2⟩
 | .h i, u, F, hw, h => by simp only [Ro] at h ⊢; exact ⟨Rs.keep (fun b hb => hw b (.inr hb)) hZ hT _ _ h.1, h.2⟩
 | .hp i o, u, F, hw, h => by simp only [Ro] at h ⊢; exact ⟨Rs.keep (fun b hb => hw b (.inr hb)) hZ hT _ _ h.1, h.2⟩
 | .hs i o, u, F, hw, h => by simp only [Ro] at h ⊢; exact ⟨Rs.keep (fun b hb => hw b (.inr hb)) hZ hT _ _ h.1, h.2⟩
 | .ht i o m, u, F, hw, h => by simp only [Ro] at h ⊢; exact ⟨Rs.keep (fun b hb => hw b (.inr hb)) hZ hT _ _ h.1, h.2⟩
 | .opt b d, u, F, hw, h => by simp only [Ro] at h ⊢; exact ⟨Rs.keep (fun b hb => hw b (.inr hb)) hZ hT _ _ h.1, h.2⟩
 | .dead, u, F, hw, h => by simp only [Ro] at h ⊢; exact ⟨Rs.keep (fun b hb => hw b (.inr hb)) hZ hT _ _ h.1, h.2⟩
theorem RoL.keep (hZ : ∀ b, Z b → Z' b) (hT : ∀ i u, T i = some u → T' i = some u) : ∀ (l : List D) (us : List Value) (F : Nat → Nat), (∀ b, 0 < F b ∨ Z b → w'.heap[b]? = w.heap[b]?) → RoL w Z T l us F → RoL w' Z' T' l us F
 | [], us, F, hw, h => by simpa only [RoL] using h
 | d :: l, us, F, hw, h => by
  simp only [RoL] at h ⊢
  obtain ⟨u, us', F1, F2, h1, h2, h3, h4⟩ := h
  exact ⟨u, us', F1, F2, h1, Ro.keep hZ hT d u F1 (fun b hb => hw b (hb.imp_left fun hb => by rw [h4]; omega)) h2, RoL.keep hZ hT l us' F2 (fun b hb => hw b (hb.imp_left fun hb => by rw [h4]; omega)) h3, h4⟩
end

/-! ### lists, place by place -/
theorem RsL.len : ∀ {l : List D} {us : List Value}, RsL w Z T l us → us.length = l.length
 | [], us, h => by simp only [RsL] at h; subst h; rfl
 | d :: l, us, h => by
  simp only [RsL] at h
  obtain ⟨u, us', rfl, _, h3⟩ := h
  simp [RsL.len h3]
theorem RsL.get : ∀ {l : List D} {us : List Value} {j : Nat} {d : D}, RsL w Z T l us → l[j]? = some d → ∃ u, us[j]? = some u ∧ Rs w Z T d u
 | [], us, j, d, h, hd => by simp at hd
 | d0 :: l, us, 0, d, h, hd => by
  simp only [RsL] at h
  obtain ⟨u, us', rfl, h2, h3⟩ := h
  simp only [List.getElem?_cons_zero, Option.some.injEq] at hd
  subst hd
  exact ⟨u, rfl, h2⟩
 | d0 :: l, us, j + 1, d, h, hd => by
  simp only [RsL] at h
  obtain ⟨u, us', rfl, h2, h3⟩ := h
  simpa using RsL.get h3 (by simpa using hd)
theorem RsL.drop : ∀ {l : List D} {us : List Value} (k : Nat), RsL w Z T l us → RsL w Z T (l.drop k) (us.drop k)
 | _, _, 0, h => h
 | [], us, k + 1, h => by simp only [RsL] at h; subst h; simp only [List.drop_nil, RsL]
 | d :: l, us, k + 1, h => by
  simp only [RsL] at h
  obtain ⟨u, us', rfl, h2, h3⟩ := h
  exact RsL.drop k h3
theorem RsL.take : ∀ {l : List D} {us : List Value} (k : Nat), RsL w Z T l us → RsL w Z T (l.take k) (us.take k)
 | l, us, 0, h => by simp only [List.take_zero, RsL]
 | [], us, k + 1, h => by simp only [RsL] at h; subst h; simp only [List.take_nil, RsL]
 | d :: l, us, k + 1, h => by
  simp only [RsL] at h
  obtain ⟨u, us', rfl, h2, h3⟩ := h
  simp only [List.take_succ_cons, RsL]
  exact ⟨u, _, rfl, h2, RsL.take k h3⟩
theorem RsL.append : ∀ {l m : List D} {us vs : List Value}, RsL w Z T l us → RsL w Z T m vs → RsL w Z T (l ++ m) (us ++ vs)
 | [], m, us, vs, h, k => by simp only [RsL] at h; subst h; exact k
 | d :: l, m, us, vs, h, k => by
  simp only [RsL] at h
  obtain ⟨u, us', rfl, h2, h3⟩ := h
  simp only [List.cons_append, RsL]
  exact ⟨u, _, rfl, h2, RsL.append h3 k⟩
theorem RsL.set : ∀ {l : List D} {us : List Value} {j : Nat} {d : D} {u : Value}, RsL w Z T l us → Rs w Z T d u → RsL w Z T (l.set j d) (us.set j u)
 | [], us, j, d, u, h, k => by simp only [RsL] at h; subst h; simp only [List.set_nil, RsL]
 | d0 :: l, us, 0, d, u, h, k => by
  simp only [RsL] at h
  obtain ⟨u0, us', rfl, h2, h3⟩ := h
  simp only [List.set_cons_zero, RsL]
  exact ⟨u, _, rfl, k, h3⟩
 | d0 :: l, us, j + 1, d, u, h, k => by
  simp only [RsL] at h
  obtain ⟨u0, us', rfl, h2, h3⟩ := h
  simp only [List.set_cons_succ, RsL]
  exact ⟨u0, _, rfl, h2, RsL.set h3 k⟩
theorem RsL.mk : ∀ {l : List D} {us : List Value}, us.length = l.length → (∀ (j : Nat) (d : D) (u : Value), l[j]? = some d → us[j]? = some u → Rs w Z T d u) → RsL w Z T l us
 | [], us, h, k => by
  have : us = [] := List.eq_nil_of_length_eq_zero (by simpa using h)
  simp only [RsL, this]
 | d :: l, [], h, k => by simp at h
 | d :: l, u :: us, h, k => by
  simp only [RsL]
  exact ⟨u, us, rfl, k 0 d u rfl rfl, RsL.mk (by simpa using h) fun j d' u' hd hu => k (j + 1) d' u' (by simpa using hd) (by simpa using hu)⟩
theorem RsL.sc (vs : List Value) : RsL w Z T (vs.map .sc) vs := by
 refine RsL.mk (by simp) fun j d u hd hu => ?_
 rw [List.getElem?_map, hu] at hd
 simp only [Option.map_some, Option.some.injEq] at hd
 subst hd
 simp only [Rs]
theorem Fz.get : ∀ {l : List D} {A : Option Addr} {i j : Nat} {d : D}, Fz w Z T l A i → l[j]? = some d → ∃ a u, A = some a ∧ Z a.block ∧ w.cell? (a.add (i + j)) = some u ∧ Rs w Z T d u
 | [], A, i, j, d, h, hd => by simp at hd
 | d0 :: l, A, i, 0, d, h, hd => by
  simp only [Fz] at h
  simp only [List.getElem?_cons_zero, Option.some.injEq] at hd
  subst hd
  exact h.1
 | d0 :: l, A, i, j + 1, d, h, hd => by
  simp only [Fz] at h
  have := Fz.get (j := j) h.2 (by simpa using hd)
  rw [show i + 1 + j = i + (j + 1) from by omega] at this
  exact this
theorem Fz.mk : ∀ {l : List D} {A : Option Addr} {i : Nat}, (∀ (j : Nat) (d : D), l[j]? = some d → ∃ a u, A = some a ∧ Z a.block ∧ w.cell? (a.add (i + j)) = some u ∧ Rs w Z T d u) → Fz w Z T l A i
 | [], A, i, h => by simp only [Fz]
 | d :: l, A, i, h => by
  simp only [Fz]
  refine ⟨h 0 d rfl, Fz.mk fun j d' hd => ?_⟩
  have := h (j + 1) d' (by simpa using hd)
  rw [show i + 1 + j = i + (j + 1) from by omega]
  exact this
theorem add_add (a : Addr) (i j : Nat) : (a.add i).add j = a.add (i + j) := by
 unfold Addr.add
 by_cases hi : i = 0
 ·simp [hi]
 ·by_cases hj : j = 0
  ·simp [hi, hj]
  ·have : i + j ≠ 0 := by omega
   simp [hi, hj]
   omega
theorem Fz.drop {l : List D} {a : Addr} {k : Nat} (h : Fz w Z T l (some a) 0) : Fz w Z T (l.drop k) (some (a.add k)) 0 := by
 refine Fz.mk fun j d hd => ?_
 rw [List.getElem?_drop] at hd
 obtain ⟨a', u, h1, h2, h3, h4⟩ := h.get hd
 cases h1
 refine ⟨_, u, rfl, by rw [add_block]; exact h2, ?_, h4⟩
 rw [add_add]
 simpa using h3
theorem Fz.take {l : List D} {A : Option Addr} {k : Nat} (h : Fz w Z T l A 0) : Fz w Z T (l.take k) A 0 := by
 refine Fz.mk fun j d hd => ?_
 rw [List.getElem?_take] at hd
 split at hd
 ·exact h.get hd
 ·cases hd
theorem RoL.len : ∀ {l : List D} {us : List Value} {F : Nat → Nat}, RoL w Z T l us F → us.length = l.length
 | [], us, F, h => by simp only [RoL] at h; rw [h.1]; rfl
 | d :: l, us, F, h => by
  simp only [RoL] at h
  obtain ⟨u, us', F1, F2, rfl, _, h3, _⟩ := h
  simp [RoL.len h3]
theorem RoL.get : ∀ {l : List D} {us : List Value} {F : Nat → Nat} {j : Nat} {d : D}, RoL w Z T l us F → l[j]? = some d → ∃ (u : Value) (F1 F2 : Nat → Nat), us[j]? = some u ∧ Ro w Z T d u F1 ∧ (∀ b, F b = F1 b + F2 b) ∧
  ∀ (d' : D) (u' : Value) (F' : Nat → Nat), Ro w Z T d' u' F' → RoL w Z T (l.set j d') (us.set j u') (fun b => F' b + F2 b)
 | [], us, F, j, d, h, hd => by simp at hd
 | d0 :: l, us, F, 0, d, h, hd => by
  simp only [RoL] at h
  obtain ⟨u, us', F1, F2, rfl, h2, h3, h4⟩ := h
  simp only [List.getElem?_cons_zero, Option.some.injEq] at hd
  subst hd
  refine ⟨u, F1, F2, rfl, h2, h4, fun d' u' F' h' => ?_⟩
  simp only [List.set_cons_zero, RoL]
  exact ⟨u', us', F', F2, rfl, h', h3, fun b => rfl⟩
 | d0 :: l, us, F, j + 1, d, h, hd => by
  simp only [RoL] at h
  obtain ⟨u, us', F1, F2, rfl, h2, h3, h4⟩ := h
  obtain ⟨v, G1, G2, g1, g2, g3, g4⟩ := RoL.get (j := j) h3 (by simpa using hd)
  refine ⟨v, G1, fun b => F1 b + G2 b, by simpa using g1, g2, fun b => by show F b = G1 b + (F1 b + G2 b); rw [h4, g3]; omega, fun d' u' F' h' => ?_⟩
  simp only [List.set_cons_succ, RoL]
  exact ⟨u, _, F1, _, rfl, h2, g4 d' u' F' h', fun b => by show F' b + (F1 b + G2 b) = F1 b + (F' b + G2 b); omega⟩
theorem RoL.append : ∀ {l m : List D} {us vs : List Value} {F G : Nat → Nat}, RoL w Z T l us F → RoL w Z T m vs G → RoL w Z T (l ++ m) (us ++ vs) (fun b => F b + G b)
 | [], m, us, vs, F, G, h, k => by
  simp only [RoL] at h
  obtain ⟨rfl, h0⟩ := h
  have : (fun b => F b + G b) = G := by funext b; rw [h0]; omega
  rw [this]
  exact k
 | d :: l, m, us, vs, F, G, h, k => by
  simp only [RoL] at h
  obtain ⟨u, us', F1, F2, rfl, h2, h3, h4⟩ := h
  simp only [List.cons_append, RoL]
  exact ⟨u, _, F1, _, rfl, h2, RoL.append h3 k, fun b => by show F b + G b = F1 b + (F2 b + G b); rw [h4]; omega⟩
theorem RoL.take : ∀ {l : List D} {us : List Value} {F : Nat → Nat} (k : Nat), RoL w Z T l us F → ∃ F', RoL w Z T (l.take k) (us.take k) F' ∧ ∀ b, F' b ≤ F b
 | l, us, F, 0, h => ⟨fun _ => 0, by simp only [List.take_zero, RoL]; exact ⟨trivial, fun _ => trivial⟩, fun _ => Nat.zero_le _⟩
 | [], us, F, k + 1, h => by
  simp only [RoL] at h
  obtain ⟨rfl, h0⟩ := h
  exact ⟨fun _ => 0, by simp only [List.take_nil, RoL]; exact ⟨trivial, fun _ => trivial⟩, fun _ => Nat.zero_le _⟩
 | d :: l, us, F, k + 1, h => by
  simp only [RoL] at h
  obtain ⟨u, us', F1, F2, rfl, h2, h3, h4⟩ := h
  obtain ⟨F', a1, a2⟩ := RoL.take k h3
  refine ⟨fun b => F1 b + F' b, ?_, fun b => by have := h4 b; have := a2 b; show F1 b + F' b ≤ F b; omega⟩
  simp only [List.take_succ_cons, RoL]
  exact ⟨u, _, F1, F', rfl, h2, a1, fun b => rfl⟩
end
def D.plain : D → Prop
 | .row _ _ _ _ => False
 | .box _ _ => False
 | .fbx _ => False
 | .mp _ _ => False
 | .abs _ => False
 | _ => True
section
variable {w w' : World} {Z Z' : Nat → Prop} {T T' : Nat → Option Value}
theorem Ro.rs {d : D} {u : Value} {F : Nat → Nat} (hp : d.plain) (h : Ro w Z T d u F) : Rs w Z T d u ∧ ∀ b, F b = 0 := by
 cases d <;> simp only [D.plain] at hp <;> simpa only [Ro] using h
theorem Ro.of {d : D} {u : Value} (h : Rs w Z T d u) : Ro w Z T d u (fun _ => 0) := by
 cases d <;> simp only [Rs] at h <;> simp only [Ro, Rs] <;> first | exact h.elim | exact ⟨h, fun _ => trivial⟩ | simp_all
theorem RoL.of : ∀ {l : List D} {us : List Value}, RsL w Z T l us → RoL w Z T l us (fun _ => 0)
 | [], us, h => by simp only [RsL] at h; simp only [RoL]; exact ⟨h, fun _ => trivial⟩
 | d :: l, us, h => by
  simp only [RsL] at h
  obtain ⟨u, us', h1, h2, h3⟩ := h
  simp only [RoL]
  exact ⟨u, us', _, _, h1, Ro.of h2, RoL.of h3, fun _ => rfl⟩
theorem RoL.rs : ∀ {l : List D} {us : List Value} {F : Nat → Nat}, (∀ d ∈ l, d.plain) → RoL w Z T l us F → RsL w Z T l us ∧ ∀ b, F b = 0
 | [], us, F, hp, h => by simp only [RoL] at h; simp only [RsL]; exact h
 | d :: l, us, F, hp, h => by
  simp only [RoL] at h
  obtain ⟨u, us', F1, F2, h1, h2, h3, h4⟩ := h
  obtain ⟨a1, a2⟩ := h2.rs (hp d (by simp))
  obtain ⟨b1, b2⟩ := RoL.rs (fun d hd => hp d (by simp [hd])) h3
  simp only [RsL]
  exact ⟨⟨u, us', h1, a1, b1⟩, fun b => by rw [h4, a2, b2]⟩
end
abbrev DEnv := List (Nat × D)
def AZ : DEnv → Nat → Option D
 | [], _ => none
 | p :: e, n => match Nat.beq p.1 n with
  | true => some p.2
  | false => AZ e n
def BM (e : DEnv) (n : Nat) (v : D) : DEnv := (n, v) :: e
theorem IX (p : Nat × D) (e : DEnv) (n : Nat) : AZ (p :: e) n = if p.1 = n then some p.2 else AZ e n := by
 simp only [AZ]
 cases h : Nat.beq p.1 n
 ·rw [if_neg (Nat.ne_of_beq_eq_false h)]
 ·rw [if_pos (Nat.eq_of_beq_eq_true h)]
theorem AbF (e : DEnv) (n m : Nat) (d : D) : AZ (BM e n d) m = if n = m then some d else AZ e m := by rw [BM, IX]
def dset : DEnv → Nat → D → DEnv
 | [], n, v => [(n, v)]
 | p :: e, n, v => match Nat.beq p.1 n with
  | true => (n, v) :: e
  | false => p :: dset e n v
theorem QE : ∀ (e : DEnv) (n m : Nat) (d : D), AZ (dset e n d) m = if n = m then some d else AZ e m
 | [], n, m, d => by rw [dset, IX]
 | p :: e, n, m, d => by
  simp only [dset]
  cases h : Nat.beq p.1 n
  ·have := Nat.ne_of_beq_eq_false h
   simp only [IX, QE e n m d]
   by_cases h1 : p.1 = m <;> by_cases h2 : n = m <;> simp [h1, h2]
   omega
  ·have := Nat.eq_of_beq_eq_true h
   simp only [IX]
   by_cases h2 : n = m
   ·simp [h2]
   ·simp [h2, this]
abbrev Ad := List (Nat × D)
def AP : Ad → Nat → Option D
 | [], _ => none
 | p :: r, i => if p.1 = i then some p.2 else AP r i
def Dn : Ad → Nat → D → Ad
 | [], _, _ => []
 | p :: r, i, d => if p.1 = i then (i, d) :: r else p :: Dn r i d
def Ej : Ad → Nat → Ad
 | [], _ => []
 | p :: r, i => if p.1 = i then r else p :: Ej r i
theorem Aa (i : Nat) (d : D) (r : Ad) : AP ((i, d) :: r) i = some d := by simp [AP]
theorem Ac {i j : Nat} (h : j ≠ i) (d : D) (r : Ad) : AP ((j, d) :: r) i = AP r i := by simp [AP, h]
theorem A8 (i : Nat) (d d' : D) (r : Ad) : Dn ((i, d) :: r) i d' = (i, d') :: r := by simp [Dn]
theorem Dt {i j : Nat} (h : j ≠ i) (d d' : D) (r : Ad) : Dn ((j, d) :: r) i d' = (j, d) :: Dn r i d' := by simp [Dn, h]
theorem Ai (i : Nat) (d : D) (r : Ad) : Ej ((i, d) :: r) i = r := by simp [Ej]
theorem Aj {i j : Nat} (h : j ≠ i) (d : D) (r : Ad) : Ej ((j, d) :: r) i = (j, d) :: Ej r i := by simp [Ej, h]

section
variable (w : World) (Z : Nat → Prop) (T : Nat → Option Value)
def RL : Ad → (Nat → Nat) → Prop
 | [], F => ∀ b, F b = 0
 | p :: r, F => ∃ (v : Value) (F1 F2 : Nat → Nat), T p.1 = some v ∧ Ro w Z T p.2 v F1 ∧ RL r F2 ∧ ∀ b, F b = F1 b + F2 b
def Di (e : Env) (de : DEnv) : Prop := ∀ t d, AZ de t = some d → ∃ v, AU e t = some v ∧ Rs w Z T d v
end

structure En where
 w : World
 Z : Nat → Prop
 T : Nat → Option Value
 F : Nat → Nat
 n : Nat
structure Ok (E : En) (w : World) (Z : Nat → Prop) (T : Nat → Option Value) (F : Nat → Nat) (r : Ad) (nx : Nat) : Prop where
 fr : Fr (fun b => 0 < E.F b) E.w w
 z : ∀ b, E.Z b → Z b
 zo : ∀ b, b < E.w.heap.size → Z b → E.Z b ∨ 0 < E.F b
 fo : ∀ b, b < E.w.heap.size → F b ≤ E.F b
 names : ∀ i u, E.T i = some u → T i = some u
 one : ∀ b, F b ≤ 1
 lt : ∀ b, 0 < F b → b < w.heap.size
 zlt : ∀ b, Z b → b < w.heap.size ∧ F b = 0
 t : ∀ i, nx ≤ i → T i = none
 cell : ∀ i u, T i = some u → u.oneCell' = true
 ge : E.n ≤ nx
 roots : RL w Z T r F
def Sat (E : En) (e : Env) (w : World) (de : DEnv) (r : Ad) (nx : Nat) : Prop :=
 ∃ Z T F, Ok E w Z T F r nx ∧ Di w Z T e de

section
variable {w w' : World} {Z Z' : Nat → Prop} {T T' : Nat → Option Value}
theorem RL.keep (hZ : ∀ b, Z b → Z' b) (hT : ∀ i u, T i = some u → T' i = some u) : ∀ {r : Ad} {F : Nat → Nat}, (∀ b, 0 < F b ∨ Z b → w'.heap[b]? = w.heap[b]?) → RL w Z T r F → RL w' Z' T' r F
 | [], F, hw, h => h
 | p :: r, F, hw, h => by
  obtain ⟨v, F1, F2, h1, h2, h3, h4⟩ := h
  exact ⟨v, F1, F2, hT _ _ h1, Ro.keep hZ hT _ _ _ (fun b hb => hw b (hb.imp_left fun hb => by rw [h4]; omega)) h2, RL.keep hZ hT (fun b hb => hw b (hb.imp_left fun hb => by rw [h4]; omega)) h3, h4⟩
theorem RL.cast {r : Ad} {F G : Nat → Nat} (h : RL w Z T r F) (e : ∀ b, G b = F b) : RL w Z T r G := by
 have : G = F := funext e
 rw [this]; exact h
theorem RL.get : ∀ {r : Ad} {F : Nat → Nat} {i : Nat} {d : D}, RL w Z T r F → AP r i = some d → ∃ (v : Value) (F1 F2 : Nat → Nat), T i = some v ∧ Ro w Z T d v F1 ∧ (∀ b, F b = F1 b + F2 b) ∧ RL w Z T (Ej r i) F2 ∧
  ∀ (w' : World) (Z' : Nat → Prop) (T' : Nat → Option Value) (d' : D) (v' : Value) (F' : Nat → Nat), (∀ b, 0 < F2 b ∨ Z b → w'.heap[b]? = w.heap[b]?) → (∀ b, Z b → Z' b) → (∀ i u, T i = some u → T' i = some u) → T' i = some v' → Ro w' Z' T' d' v' F' →
   RL w' Z' T' (Dn r i d') (fun b => F' b + F2 b)
 | [], F, i, d, h, hd => by simp [AP] at hd
 | p :: r, F, i, d, h, hd => by
  obtain ⟨v, F1, F2, h1, h2, h3, h4⟩ := h
  simp only [AP] at hd
  by_cases hp : p.1 = i
  ·rw [if_pos hp] at hd
   simp only [Option.some.injEq] at hd
   subst hd
   subst hp
   refine ⟨v, F1, F2, h1, h2, h4, by simpa [Ej] using h3, fun w' Z' T' d' v' F' hw hZ hT ht' h' => ?_⟩
   simp only [Dn, if_pos rfl]
   exact ⟨v', F', F2, ht', h', h3.keep hZ hT hw, fun b => rfl⟩
  ·rw [if_neg hp] at hd
   obtain ⟨u, G1, G2, g1, g2, g3, g4, g5⟩ := RL.get h3 hd
   refine ⟨u, G1, fun b => F1 b + G2 b, g1, g2, fun b => by show F b = G1 b + (F1 b + G2 b); rw [h4, g3]; omega, ?_, fun w' Z' T' d' v' F' hw hZ hT ht' h' => ?_⟩
   ·simp only [Ej, if_neg hp]
    exact ⟨v, F1, G2, h1, h2, g4, fun b => rfl⟩
   ·simp only [Dn, if_neg hp]
    exact ⟨v, F1, _, hT _ _ h1, Ro.keep hZ hT _ _ _ (fun b hb => hw b (hb.imp_left fun hb => by show 0 < F1 b + G2 b; omega)) h2,
     g5 w' Z' T' d' v' F' (fun b hb => hw b (hb.imp_left fun hb => by show 0 < F1 b + G2 b; omega)) hZ hT ht' h', fun b => by show F' b + (F1 b + G2 b) = F1 b + (F' b + G2 b); omega⟩
theorem Di.keep {e : Env} {de : DEnv} (hw : ∀ b, Z b → w'.heap[b]? = w.heap[b]?) (hZ : ∀ b, Z b → Z' b) (hT : ∀ i u, T i = some u → T' i = some u) (h : Di w Z T e de) : Di w' Z' T' e de := fun t d hd => by
 obtain ⟨v, h1, h2⟩ := h t d hd
 exact ⟨v, h1, Rs.keep hw hZ hT d v h2⟩
theorem Di.put {e : Env} {de : DEnv} (h : Di w Z T e de) {d : D} {v : Value} (hd : Rs w Z T d v) (t : Nat) : Di w Z T (GK e t v) (BM de t d) := fun t' d' hd' => by
 rw [AbF] at hd'
 rw [EZ]
 by_cases ht : t = t'
 ·rw [if_pos ht] at hd' ⊢
  simp only [Option.some.injEq] at hd'
  subst hd'
  exact ⟨v, rfl, hd⟩
 ·rw [if_neg ht] at hd' ⊢
  exact h t' d' hd'
end
theorem Ok.drew {E : En} {w : World} {Z : Nat → Prop} {T : Nat → Option Value} {F : Nat → Nat} {r : Ad} {nx : Nat} (h : Ok E w Z T F r nx) : Ok E w.drew Z T F r nx :=
 ⟨h.fr.drew, h.z, h.zo, h.fo, h.names, h.one, h.lt, h.zlt, h.t, h.cell, h.ge, RL.keep (w := w) (fun _ h => h) (fun _ _ h => h) (fun _ _ => rfl) h.roots⟩

/-! ### operands -/
def cv : Value → D
 | .agg cs => .agg (cs.toList.map .sc)
 | .tuple cs => .tup (cs.toList.map .sc)
 | v => .sc v
theorem AaZ (w : World) (Z : Nat → Prop) (T : Nat → Option Value) (v : Value) : Rs w Z T (cv v) v := by
 cases v <;> simp only [cv, Rs]
 ·exact ⟨_, by simp, RsL.sc _⟩
 ·exact ⟨_, by simp, RsL.sc _⟩
def Dx (r : Ad) : D → D
 | .h i => match AP r i with
  | some (.sl n l) => .sl n l
  | _ => .h i
 | .hp i off => match AP r i with
  | some (.fbx l) => .pt (l.drop off)
  | _ => .hp i off
 | .hs i k => match AP r i with
  | some (.sl n l) => .sl k (l.take k)
  | _ => .hs i k
 | d => d
theorem L8 {w : World} {Z : Nat → Prop} {T : Nat → Option Value} {r : Ad} {F : Nat → Nat} (hr : RL w Z T r F) {d : D} {v : Value} (h : Rs w Z T d v) : Rs w Z T (Dx r d) v := by
 unfold Dx
 split
 ·rename_i i
  simp only [Rs] at h
  split
  ·rename_i n l hg
   obtain ⟨u, F1, F2, h1, h2, _⟩ := hr.get hg
   rw [h] at h1
   cases h1
   simp only [Ro] at h2
   exact h2.1
  ·simp only [Rs]; exact h
 ·rename_i i off
  split
  ·rename_i l hg
   obtain ⟨u, F1, F2, h1, h2, _⟩ := hr.get hg
   simp only [Rs] at h
   obtain ⟨v', b, a1, a2, a3⟩ := h
   rw [a1] at h1
   cases h1
   simp only [Ro] at h2
   obtain ⟨⟨b', e1, e2⟩, _⟩ := h2
   subst e1
   simp only [blk, Option.some.injEq] at a2
   subst a2
   simp only [Rs]
   refine ⟨⟨b', off, none⟩, a3, ?_⟩
   have := e2.drop (k := off)
   rw [add_lit, Nat.zero_add] at this
   exact this
  ·exact h
 ·rename_i i k
  split
  ·rename_i n l hg
   obtain ⟨u, F1, F2, h1, h2, _⟩ := hr.get hg
   simp only [Rs] at h
   obtain ⟨v', a1, a2⟩ := h
   rw [a1] at h1
   cases h1
   simp only [Ro, Rs] at h2
   obtain ⟨⟨A, c, e1, e2, e3, e4⟩, _⟩ := h2
   simp only [Rs]
   rcases a2 with ⟨a, len, cap, m, b1, b2, b3⟩ | ⟨b1, b2, b3⟩
   ·rw [e1] at b1
    cases b1
    exact ⟨some a, m, b2, b3, fun h => (by cases h), e4.take⟩
   ·subst b2
    exact ⟨none, 0, b3, Nat.le_refl _, fun _ => rfl, by rw [List.take_zero]; simp only [Fz]⟩
  ·exact h
 ·exact h
def dv (de : DEnv) (r : Ad) : Operand → Option D
 | .tmp t => match AZ de t with
  | some d => some (Dx r d)
  | none => none
 | .const v => some (cv v)
 | .global g => none
 | .func f => some (.fn f [] [])
def dvs (de : DEnv) (r : Ad) : List Operand → Option (List D)
 | [] => some []
 | x :: l => match dv de r x, dvs de r l with
  | some d, some ds => some (d :: ds)
  | _, _ => none
theorem D6 {w : World} {Z : Nat → Prop} {T : Nat → Option Value} {r : Ad} {F : Nat → Nat} (hr : RL w Z T r F) {e : Env} {de : DEnv} (he : Di w Z T e de) {x : Operand} {d : D} (h : dv de r x = some d) : ∃ v, ev e x = some v ∧ Rs w Z T d v := by
 cases x with
 | tmp t =>
  simp only [dv] at h
  split at h
  ·rename_i d0 hd
   simp only [Option.some.injEq] at h
   subst h
   obtain ⟨v, h1, h2⟩ := he t d0 hd
   exact ⟨v, h1, L8 hr h2⟩
  ·cases h
 | const v =>
  simp only [dv, Option.some.injEq] at h
  subst h
  exact ⟨v, rfl, AaZ _ _ _ _⟩
 | global g => simp [dv] at h
 | func f =>
  simp only [dv, Option.some.injEq] at h
  subst h
  refine ⟨_, rfl, ?_⟩
  simp only [Rs, RsL]
  exact ⟨[], [], by simp, rfl, rfl⟩
theorem OO {w : World} {Z : Nat → Prop} {T : Nat → Option Value} {r : Ad} {F : Nat → Nat} (hr : RL w Z T r F) {e : Env} {de : DEnv} (he : Di w Z T e de) : ∀ {xs : List Operand} {ds : List D}, dvs de r xs = some ds → ∃ vs, evs e xs = some vs ∧ RsL w Z T ds vs
 | [], ds, h => by
  simp only [dvs, Option.some.injEq] at h
  subst h
  exact ⟨[], rfl, by simp only [RsL]⟩
 | x :: l, ds, h => by
  simp only [dvs] at h
  split at h
  ·rename_i d ds' h1 h2
   simp only [Option.some.injEq] at h
   subst h
   obtain ⟨v, a1, a2⟩ := D6 hr he h1
   obtain ⟨vs, b1, b2⟩ := OO hr he h2
   refine ⟨v :: vs, by simp [evs, a1, b1], ?_⟩
   simp only [RsL]
   exact ⟨v, vs, rfl, a2, b2⟩
  ·cases h
def Bq : D → Bool × D
 | .opt b d => (b, d)
 | d => (true, d)
def uo : List D → Prop × List D
 | [] => (True, [])
 | .opt b d :: l => (b = true ∧ (uo l).1, d :: (uo l).2)
 | d :: l => ((uo l).1, d :: (uo l).2)
theorem JF {w : World} {Z : Nat → Prop} {T : Nat → Option Value} {d : D} {v : Value} (h : Rs w Z T d v) (hb : (Bq d).1 = true) : Rs w Z T (Bq d).2 v := by
 cases d <;> simp only [Bq] at hb ⊢ <;> first | exact h | skip
 simp only [Rs] at h
 exact h.1 hb
theorem SN {w : World} {Z : Nat → Prop} {T : Nat → Option Value} : ∀ {ds : List D} {vs : List Value}, RsL w Z T ds vs → (uo ds).1 → RsL w Z T (uo ds).2 vs
 | [], vs, h, _ => h
 | d :: ds, vs, h, hc => by
  simp only [RsL] at h
  obtain ⟨u, us, rfl, h1, h2⟩ := h
  cases d <;> simp only [uo] at hc ⊢ <;> simp only [RsL]
  case opt b d => simp only [Rs] at h1; exact ⟨u, us, rfl, h1.1 hc.1, SN h2 hc.2⟩
  all_goals exact ⟨u, us, rfl, h1, SN h2 hc⟩

def dgv : Option D → Bool → Option Bool
 | some (.sc (.bool b)), _ => some b
 | some (.opt g (.sc (.bool b))), want => some (cond g b (!want))
 | some (.opt g _), want => cond g none (some (!want))
 | _, _ => none
theorem Adc {w : World} {Z : Nat → Prop} {T : Nat → Option Value} {o : Option D} {want b : Bool} (h : dgv o want = some b) : ∃ d, o = some d ∧ ∀ v, Rs w Z T d v → v = .bool b ∨ (v = undef ∧ (b == want) = false) := by
 unfold dgv at h
 split at h
 ·cases h
  exact ⟨_, rfl, fun v hv => by simp only [Rs] at hv; exact .inl hv⟩
 ·rename_i g b0
  cases h
  refine ⟨_, rfl, fun v hv => ?_⟩
  simp only [Rs] at hv
  cases g
  ·exact .inr ⟨hv.2 rfl, by cases want <;> rfl⟩
  ·exact .inl (hv.1 rfl)
 ·rename_i g d0 _
  cases g
  ·cases h
   refine ⟨_, rfl, fun v hv => ?_⟩
   simp only [Rs] at hv
   exact .inr ⟨hv.2 trivial, by cases want <;> rfl⟩
  ·cases h
 ·cases h
def uof : PF → List D → Prop × List D
 | .pick, .opt b d :: ds => (b = true, d :: ds)
 | .pick, ds => (True, ds)
 | _, ds => uo ds
theorem SL {w : World} {Z : Nat → Prop} {T : Nat → Option Value} {f : PF} {ds : List D} {vs : List Value} (h : RsL w Z T ds vs) (hc : (uof f ds).1) : RsL w Z T (uof f ds).2 vs := by
 unfold uof at hc ⊢
 split at hc
 ·simp only [RsL] at h ⊢
  obtain ⟨u, us, rfl, h1, h2⟩ := h
  simp only [Rs] at h1
  exact ⟨u, us, rfl, h1.1 hc, h2⟩
 ·exact h
 ·exact SN h hc

/-! ### operations that look at no memory -/
def scs : List D → Option (List Value)
 | [] => some []
 | .sc v :: l => match scs l with
  | some vs => some (v :: vs)
  | none => none
 | _ :: _ => none
theorem Aco {w : World} {Z : Nat → Prop} {T : Nat → Option Value} : ∀ {ds : List D} {vs us : List Value}, scs ds = some vs → RsL w Z T ds us → us = vs
 | [], vs, us, h, k => by
  simp only [scs, Option.some.injEq] at h
  simp only [RsL] at k
  subst h; exact k
 | d :: ds, vs, us, h, k => by
  simp only [RsL] at k
  obtain ⟨u, us', rfl, h1, h2⟩ := k
  cases d <;> simp only [scs] at h <;> first | cases h | skip
  split at h
  ·rename_i vs' hv
   simp only [Option.some.injEq] at h
   subst h
   simp only [Rs] at h1
   rw [h1, Aco hv h2]
  ·cases h
def dsl (n : Nat) (l : List D) (size : Nat) (lo hi mx : Int) : Option (Prop × D) :=
 some ((0 ≤ lo ∧ lo ≤ hi) ∧ (hi ≤ mx ∧ mx ≤ n), .sl (hi.toNat - lo.toNat) ((l.drop (lo.toNat * size)).take ((hi.toNat - lo.toNat) * size)))
def dif (c : Bool) : D → D → Option D
 | .sc (.bool x), .sc (.bool y) => some (.sc (.bool (cond c x y)))
 | .sc x, .sc y => some (.sc (if c then x else y))
 | a, b => match c with
  | true => some a
  | false => some b
def CO : D → Option (List D)
 | .agg l => some l
 | .sc v => some (v.cells.toList.map .sc)
 | .sl n l => some [.sl n l]
 | .pt l => some [.pt l]
 | .fn f a b => some [.fn f a b]
 | .ifc t d => some [.ifc t d]
 | .h i => some [.h i]
 | .hp i o => some [.hp i o]
 | _ => none
def CE : List D → Nat → List D → List D
 | zero, _, [] => zero
 | zero, off, c :: cs => CE (zero.set off c) (off + 1) cs
def BL : List (Nat × Nat) → List D → List D → Option (List D)
 | [], [], cells => some cells
 | (off, size) :: ps, d :: ds, cells =>
  match CO d with
  | some cs => if cs.length = size ∧ off + size ≤ cells.length then BL ps ds (CE cells off cs) else none
  | none => none
 | _, _, _ => none
def Df (f : PF) (ds : List D) : Option (Prop × D) :=
 match scs ds with
 | some vs => match pev f vs with
  | some (c, v) => some (c, cv v)
  | none => none
 | none => none
def dev : PF → List D → Option (Prop × D)
 | .mv, [d] => some (True, d)
 | .ext i, [.tup l] => match l[i]? with
  | some d => some (True, d)
  | none => none
 | .fld off size true, [.agg l] => some (True, .agg ((l.drop off).take size))
 | .fld off _ false, [.agg l] => match l[off]? with
  | some d => some (True, d)
  | none => none
 | .fad off, [.pt l] => some (True, .pt (l.drop off))
 | .fad off, [.hp i o] => some (True, .hp i (o + off))
 | .ixs size, [.sl n l, .sc (.int _ j)] => some (0 ≤ j ∧ j < n, .pt (l.drop (j.toNat * size)))
 | .ixa n size, [.pt l, .sc (.int _ j)] => some (0 ≤ j ∧ j < n, .pt (l.drop (j.toNat * size)))
 | .ixa n size, [.hp i o, .sc (.int _ j)] => some (0 ≤ j ∧ j < n, .hp i (o + j.toNat * size))
 | .ixv n size true, [.agg l, .sc (.int _ j)] => some (0 ≤ j ∧ j < n, .agg ((l.drop (j.toNat * size)).take size))
 | .ixv n size false, [.agg l, .sc (.int _ j)] => some ((0 ≤ j ∧ j < n) ∧ j.toNat * size < l.length, (l[j.toNat * size]?).getD .dead)
 | .sls size false false false, [.sl n l] => dsl n l size 0 n n
 | .sls size true false false, [.sl n l, .sc (.int _ lo)] => dsl n l size lo n n
 | .sls size false true false, [.sl n l, .sc (.int _ hi)] => dsl n l size 0 hi n
 | .sls size true true false, [.sl n l, .sc (.int _ lo), .sc (.int _ hi)] => dsl n l size lo hi n
 | .sls size false true true, [.sl n l, .sc (.int _ hi), .sc (.int _ mx)] => dsl n l size 0 hi mx
 | .sls size true true true, [.sl n l, .sc (.int _ lo), .sc (.int _ hi), .sc (.int _ mx)] => dsl n l size lo hi mx
 | .len, [.sl n l] => some (True, .sc (.int .i64 n))
 | .lenc n, [d] => some (True, .sc (.int .i64 n))
 | .fn (.func f) k, ds => some (True, .fn f (ds.take k) (ds.drop k))
 | .ifc t, [d] => some (True, .ifc t d)
 | .pick, [.sc (.bool c), a, b] => match dif c (Bq a).2 (Bq b).2 with
  | some d => some ((c = true → (Bq a).1 = true) ∧ (c = false → (Bq b).1 = true), d)
  | none => none
 | .nilc, [.pt l] => some (True, .pt l)
 | .nilc, [.hp i o] => some (True, .hp i o)
 | .nilc, [.fn f a b] => some (True, .fn f a b)
 | .nilc, [.ifc t d] => some (True, .ifc t d)
 | .isnil .pt neg, [.pt l] => some (True, .sc (.bool (false != neg)))
 | .isnil .pt neg, [.hp i o] => some (True, .sc (.bool (false != neg)))
 | .isnil .fn neg, [.fn _ _ _] => some (True, .sc (.bool (false != neg)))
 | .isnil .fc neg, [.ifc _ _] => some (True, .sc (.bool (false != neg)))
 | .build zero places, ds => match BL places ds (zero.map .sc) with
  | some cs => some (True, .agg cs)
  | none => none
 | f, ds => Df f ds

section
variable {w : World} {Z : Nat → Prop} {T : Nat → Option Value}
theorem cells_one {v : Value} (h : v.oneCell' = true) : v.cells.toList = [v] := by
 cases v <;> simp only [Value.oneCell'] at h <;> first | rfl | cases h
theorem VC (hT : ∀ i u, T i = some u → u.oneCell' = true) {d : D} {cs : List D} {v : Value} (h : Rs w Z T d v) (hc : CO d = some cs) : RsL w Z T cs v.cells.toList := by
 have one : ∀ (d : D) (v : Value), v.oneCell' = true → Rs w Z T d v → RsL w Z T [d] v.cells.toList := fun d v h1 h2 => by
  rw [cells_one h1]
  simp only [RsL]
  exact ⟨v, [], rfl, h2, rfl⟩
 cases d <;> simp only [CO, Option.some.injEq, reduceCtorEq] at hc <;> subst hc
 case agg l => simp only [Rs] at h; obtain ⟨us, rfl, h2⟩ := h; simpa [Value.cells] using h2
 case sc u => simp only [Rs] at h; subst h; exact RsL.sc _
 all_goals refine one _ _ ?_ h
 case sl => simp only [Rs] at h; obtain ⟨_, _, rfl, _⟩ := h; rfl
 case pt => simp only [Rs] at h; obtain ⟨_, rfl, _⟩ := h; rfl
 case fn => simp only [Rs] at h; obtain ⟨_, _, rfl, _⟩ := h; rfl
 case ifc => simp only [Rs] at h; obtain ⟨_, rfl, _⟩ := h; rfl
 case h => simp only [Rs] at h; exact hT _ _ h
 case hp => simp only [Rs] at h; obtain ⟨_, _, _, _, rfl⟩ := h; rfl
theorem Yi : ∀ {cs : List D} {us : List Value} {zero : List D} {zs : List Value} {off : Nat}, RsL w Z T cs us → RsL w Z T zero zs → RsL w Z T (CE zero off cs) (EF zs off us)
 | [], us, zero, zs, off, h, k => by
  simp only [RsL] at h
  subst h
  simpa only [CE, EF] using k
 | c :: cs, us, zero, zs, off, h, k => by
  simp only [RsL] at h
  obtain ⟨u, us', rfl, h1, h2⟩ := h
  simp only [CE, EF]
  exact Yi h2 (k.set h1)
theorem QF (hT : ∀ i u, T i = some u → u.oneCell' = true) : ∀ {ps : List (Nat × Nat)} {ds : List D} {vs : List Value} {cells out : List D} {zs : List Value}, BL ps ds cells = some out → RsL w Z T ds vs → RsL w Z T cells zs →
  ∃ os, II ps vs zs = some os ∧ RsL w Z T out os
 | [], [], vs, cells, out, zs, h, k, kz => by
  simp only [BL, Option.some.injEq] at h
  subst h
  simp only [RsL] at k
  subst k
  exact ⟨zs, rfl, kz⟩
 | [], _ :: _, vs, cells, out, zs, h, k, kz => by simp [BL] at h
 | _ :: _, [], vs, cells, out, zs, h, k, kz => by simp [BL] at h
 | (off, size) :: ps, d :: ds, vs, cells, out, zs, h, k, kz => by
  simp only [RsL] at k
  obtain ⟨u, us, rfl, k1, k2⟩ := k
  simp only [BL] at h
  split at h
  ·rename_i cs hcs
   split at h
   ·rename_i hif
    have hc := VC hT k1 hcs
    have hl := hc.len
    have hl2 := kz.len
    obtain ⟨os, h1, h2⟩ := QF hT h k2 (Yi (off := off) hc kz)
    refine ⟨os, ?_, h2⟩
    simp only [II]
    rw [if_pos]
    ·exact h1
    ·simp only [Array.length_toList] at hl
     omega
   ·cases h
  ·cases h
theorem Fz.shift {l : List D} {A : Option Addr} {k : Nat} (h : Fz w Z T l A 0) : Fz w Z T (l.drop k) (A.map (·.add k)) 0 := by
 cases A with
 | some a => exact h.drop
 | none =>
  refine Fz.mk fun j d hd => ?_
  rw [List.getElem?_drop] at hd
  obtain ⟨a, u, h1, _⟩ := h.get hd
  cases h1
theorem QC {n : Nat} {l : List D} {size : Nat} {lo hi mx : Int} {c : Prop} {d : D} {A : Option Addr} {cap : Nat} {mx' : Int} (h : dsl n l size lo hi mx = some (c, d)) (hc : c) (hn : n ≤ cap) (h0 : A = none → n = 0) (hf : Fz w Z T l A 0) (hm : mx ≤ mx' ∧ mx' ≤ cap) :
  ∃ c' v, psl A cap size lo hi mx' = some (c', v) ∧ c' ∧ Rs w Z T d v := by
 simp only [dsl, Option.some.injEq, Prod.mk.injEq] at h
 obtain ⟨rfl, rfl⟩ := h
 obtain ⟨⟨h1, h2⟩, h3, h4⟩ := hc
 refine ⟨_, _, rfl, ⟨⟨h1, h2⟩, by omega, hm.2⟩, ?_⟩
 simp only [Rs]
 refine ⟨_, _, rfl, by omega, fun hA => ?_, ?_⟩
 ·have : A = none := by
   split at hA
   ·exact hA
   ·simpa using hA
  have := h0 this
  omega
 by_cases he : mx' = lo
 ·have : (hi.toNat - lo.toNat) = 0 := by omega
  rw [this, Nat.zero_mul, List.take_zero]
  simp only [Fz]
 ·rw [if_neg he]
  exact hf.shift.take
theorem AeH {f : PF} {ds : List D} {vs : List Value} {c : Prop} {d : D} (h : Df f ds = some (c, d)) (hv : RsL w Z T ds vs) (hc : c) : ∃ c' v, pev f vs = some (c', v) ∧ c' ∧ Rs w Z T d v := by
 simp only [Df] at h
 split at h
 ·rename_i us hs
  have := Aco hs hv
  subst this
  split at h
  ·rename_i c' v hp
   simp only [Option.some.injEq, Prod.mk.injEq] at h
   obtain ⟨rfl, rfl⟩ := h
   exact ⟨_, _, hp, hc, AaZ _ _ _ _⟩
  ·cases h
 ·cases h
theorem Ib {d : D} {vs : List Value} (h : RsL w Z T [d] vs) : ∃ v, vs = [v] ∧ Rs w Z T d v := by
 simp only [RsL] at h
 obtain ⟨u, us, rfl, h1, rfl⟩ := h
 exact ⟨u, rfl, h1⟩
theorem We {d e : D} {vs : List Value} (h : RsL w Z T [d, e] vs) : ∃ v u, vs = [v, u] ∧ Rs w Z T d v ∧ Rs w Z T e u := by
 simp only [RsL] at h
 obtain ⟨u, us, rfl, h1, u2, us2, rfl, h2, rfl⟩ := h
 exact ⟨u, u2, rfl, h1, h2⟩
theorem rsl3 {d e f : D} {vs : List Value} (h : RsL w Z T [d, e, f] vs) : ∃ v u x, vs = [v, u, x] ∧ Rs w Z T d v ∧ Rs w Z T e u ∧ Rs w Z T f x := by
 simp only [RsL] at h
 obtain ⟨u, us, rfl, h1, u2, us2, rfl, h2, u3, us3, rfl, h3, rfl⟩ := h
 exact ⟨u, u2, u3, rfl, h1, h2, h3⟩
theorem rsl4 {d e f g : D} {vs : List Value} (h : RsL w Z T [d, e, f, g] vs) : ∃ v u x y, vs = [v, u, x, y] ∧ Rs w Z T d v ∧ Rs w Z T e u ∧ Rs w Z T f x ∧ Rs w Z T g y := by
 simp only [RsL] at h
 obtain ⟨u, us, rfl, h1, u2, us2, rfl, h2, u3, us3, rfl, h3, u4, us4, rfl, h4, rfl⟩ := h
 exact ⟨u, u2, u3, u4, rfl, h1, h2, h3, h4⟩
theorem dif_rs {c : Bool} {a b d : D} {u v : Value} (h : dif c a b = some d) (ha : c = true → Rs w Z T a u) (hb : c = false → Rs w Z T b v) : Rs w Z T d (if c then u else v) := by
 unfold dif at h
 split at h
 ·simp only [Option.some.injEq] at h
  subst h
  cases c <;> simp only [Rs] at ha hb ⊢
  ·simpa using hb
  ·simpa using ha
 ·simp only [Option.some.injEq] at h
  subst h
  cases c <;> simp only [Rs] at ha hb ⊢
  ·simpa using hb
  ·simpa using ha
 ·cases c <;> simp only [Option.some.injEq] at h <;> subst h
  ·simpa using hb rfl
  ·simpa using ha rfl
theorem PW {α : Type} (us : List α) (a n : Nat) : us.toArray.extract a (a + n) = ((us.drop a).take n).toArray := by
 simp [List.extract_eq_take_drop]
theorem ZP (hT : ∀ i u, T i = some u → u.oneCell' = true) {f : PF} {ds : List D} {vs : List Value} {c : Prop} {d : D} (h : dev f ds = some (c, d)) (hv : RsL w Z T ds vs) (hc : c) : ∃ c' v, pev f vs = some (c', v) ∧ c' ∧ Rs w Z T d v := by
 unfold dev at h
 split at h
 ·obtain ⟨v, rfl, h1⟩ := Ib hv
  cases h
  exact ⟨_, _, rfl, trivial, h1⟩
 ·obtain ⟨v, rfl, h1⟩ := Ib hv
  simp only [Rs] at h1
  obtain ⟨us, rfl, h2⟩ := h1
  split at h
  ·rename_i i l d' hd
   cases h
   obtain ⟨u, hu, hr⟩ := h2.get hd
   exact ⟨True, u, by simp [pev, hu], trivial, hr⟩
  ·cases h
 ·obtain ⟨v, rfl, h1⟩ := Ib hv
  simp only [Rs] at h1
  obtain ⟨us, rfl, h2⟩ := h1
  cases h
  refine ⟨_, _, rfl, trivial, ?_⟩
  simp only [Rs]
  exact ⟨_, by rw [PW], (h2.drop _).take _⟩
 ·obtain ⟨v, rfl, h1⟩ := Ib hv
  simp only [Rs] at h1
  obtain ⟨us, rfl, h2⟩ := h1
  split at h
  ·rename_i d' hd
   cases h
   obtain ⟨u, hu, hr⟩ := h2.get hd
   exact ⟨True, u, by simp [pev, hu], trivial, hr⟩
  ·cases h
 ·obtain ⟨v, rfl, h1⟩ := Ib hv
  simp only [Rs] at h1
  obtain ⟨a, rfl, h2⟩ := h1
  cases h
  refine ⟨_, _, rfl, trivial, ?_⟩
  simp only [Rs]
  exact ⟨_, rfl, h2.drop⟩
 ·obtain ⟨v, rfl, h1⟩ := Ib hv
  simp only [Rs] at h1
  obtain ⟨v', b, h2, h3, rfl⟩ := h1
  cases h
  refine ⟨_, _, rfl, trivial, ?_⟩
  simp only [Rs]
  exact ⟨v', b, h2, h3, by rw [add_lit]⟩
 ·obtain ⟨v, u, rfl, h1, h2⟩ := We hv
  simp only [Rs] at h1 h2
  obtain ⟨A, cap, rfl, hn, h0, hf⟩ := h1
  subst h2
  cases h
  cases A with
  | none =>
   have := h0 rfl
   omega
  | some a =>
   refine ⟨_, _, rfl, hc, ?_⟩
   simp only [Rs]
   exact ⟨_, rfl, hf.drop⟩
 ·obtain ⟨v, u, rfl, h1, h2⟩ := We hv
  simp only [Rs] at h1 h2
  obtain ⟨a, rfl, hf⟩ := h1
  subst h2
  cases h
  refine ⟨_, _, rfl, hc, ?_⟩
  simp only [Rs]
  exact ⟨_, rfl, hf.drop⟩
 ·obtain ⟨v, u, rfl, h1, h2⟩ := We hv
  simp only [Rs] at h1 h2
  obtain ⟨v', b, h3, h4, rfl⟩ := h1
  subst h2
  cases h
  refine ⟨_, _, rfl, hc, ?_⟩
  simp only [Rs]
  exact ⟨v', b, h3, h4, by rw [add_lit]⟩
 ·obtain ⟨v, u, rfl, h1, h2⟩ := We hv
  simp only [Rs] at h1 h2
  obtain ⟨us, rfl, hf⟩ := h1
  subst h2
  cases h
  refine ⟨_, _, rfl, hc, ?_⟩
  simp only [Rs]
  exact ⟨_, by rw [PW], (hf.drop _).take _⟩
 ·rename_i n size l k j
  obtain ⟨v, u, rfl, h1, h2⟩ := We hv
  simp only [Rs] at h1 h2
  obtain ⟨us, rfl, hf⟩ := h1
  subst h2
  cases h
  have hl := hf.len
  refine ⟨_, _, rfl, ⟨hc.1, by simpa [hl] using hc.2⟩, ?_⟩
  obtain ⟨u, hu, hr⟩ := hf.get (List.getElem?_eq_getElem hc.2)
  rw [List.getElem?_eq_getElem hc.2]
  simp only [List.getElem?_toArray, hu]
  exact hr
 ·obtain ⟨v, rfl, h1⟩ := Ib hv
  simp only [Rs] at h1
  obtain ⟨A, cap, rfl, hn, h0, hf⟩ := h1
  exact QC h hc hn h0 hf ⟨by omega, Int.le_refl _⟩
 ·obtain ⟨v, u, rfl, h1, h2⟩ := We hv
  simp only [Rs] at h1 h2
  obtain ⟨A, cap, rfl, hn, h0, hf⟩ := h1
  subst h2
  exact QC h hc hn h0 hf ⟨by omega, Int.le_refl _⟩
 ·obtain ⟨v, u, rfl, h1, h2⟩ := We hv
  simp only [Rs] at h1 h2
  obtain ⟨A, cap, rfl, hn, h0, hf⟩ := h1
  subst h2
  exact QC h hc hn h0 hf ⟨by omega, Int.le_refl _⟩
 ·obtain ⟨v, u, x, rfl, h1, h2, h3⟩ := rsl3 hv
  simp only [Rs] at h1 h2 h3
  obtain ⟨A, cap, rfl, hn, h0, hf⟩ := h1
  subst h2; subst h3
  exact QC h hc hn h0 hf ⟨by omega, Int.le_refl _⟩
 ·obtain ⟨v, u, x, rfl, h1, h2, h3⟩ := rsl3 hv
  simp only [Rs] at h1 h2 h3
  obtain ⟨A, cap, rfl, hn, h0, hf⟩ := h1
  subst h2; subst h3
  refine QC h hc hn h0 hf ⟨Int.le_refl _, ?_⟩
  simp only [dsl, Option.some.injEq, Prod.mk.injEq] at h
  rw [← h.1] at hc
  omega
 ·obtain ⟨v, u, x, y, rfl, h1, h2, h3, h4⟩ := rsl4 hv
  simp only [Rs] at h1 h2 h3 h4
  obtain ⟨A, cap, rfl, hn, h0, hf⟩ := h1
  subst h2; subst h3; subst h4
  refine QC h hc hn h0 hf ⟨Int.le_refl _, ?_⟩
  simp only [dsl, Option.some.injEq, Prod.mk.injEq] at h
  rw [← h.1] at hc
  omega
 ·obtain ⟨v, rfl, h1⟩ := Ib hv
  simp only [Rs] at h1
  obtain ⟨A, cap, rfl, hn, h0, hf⟩ := h1
  cases h
  exact ⟨_, _, rfl, trivial, by simp only [Rs]⟩
 ·obtain ⟨v, rfl, h1⟩ := Ib hv
  cases h
  exact ⟨_, _, rfl, trivial, by simp only [Rs]⟩
 ·cases h
  refine ⟨_, _, rfl, trivial, ?_⟩
  simp only [Rs]
  exact ⟨_, _, rfl, hv.take _, hv.drop _⟩
 ·obtain ⟨v, rfl, h1⟩ := Ib hv
  cases h
  refine ⟨_, _, rfl, trivial, ?_⟩
  simp only [Rs]
  exact ⟨_, rfl, h1⟩
 ·obtain ⟨v, u, x, rfl, h1, h2, h3⟩ := rsl3 hv
  simp only [Rs] at h1
  subst h1
  split at h
  ·rename_i d' hd
   cases h
   exact ⟨_, _, rfl, trivial, dif_rs hd (fun e => JF h2 (hc.1 e)) (fun e => JF h3 (hc.2 e))⟩
  ·cases h
 ·obtain ⟨v, rfl, h1⟩ := Ib hv
  cases h
  have h2 := h1
  simp only [Rs] at h2
  obtain ⟨a, rfl, hf⟩ := h2
  exact ⟨_, _, rfl, trivial, h1⟩
 ·obtain ⟨v, rfl, h1⟩ := Ib hv
  cases h
  have h2 := h1
  simp only [Rs] at h2
  obtain ⟨_, _, _, _, rfl⟩ := h2
  exact ⟨_, _, rfl, trivial, h1⟩
 ·obtain ⟨v, rfl, h1⟩ := Ib hv
  cases h
  have h2 := h1
  simp only [Rs] at h2
  obtain ⟨_, _, rfl, _⟩ := h2
  exact ⟨_, _, rfl, trivial, h1⟩
 ·obtain ⟨v, rfl, h1⟩ := Ib hv
  cases h
  have h2 := h1
  simp only [Rs] at h2
  obtain ⟨_, rfl, _⟩ := h2
  exact ⟨_, _, rfl, trivial, h1⟩
 ·obtain ⟨v, rfl, h1⟩ := Ib hv
  simp only [Rs] at h1
  obtain ⟨a, rfl, hf⟩ := h1
  cases h
  exact ⟨_, _, rfl, trivial, by simp only [Rs]⟩
 ·obtain ⟨v, rfl, h1⟩ := Ib hv
  simp only [Rs] at h1
  obtain ⟨_, _, _, _, rfl⟩ := h1
  cases h
  exact ⟨_, _, rfl, trivial, by simp only [Rs]⟩
 ·obtain ⟨v, rfl, h1⟩ := Ib hv
  simp only [Rs] at h1
  obtain ⟨_, _, rfl, _⟩ := h1
  cases h
  exact ⟨_, _, rfl, trivial, by simp only [Rs]⟩
 ·obtain ⟨v, rfl, h1⟩ := Ib hv
  simp only [Rs] at h1
  obtain ⟨_, rfl, _⟩ := h1
  cases h
  exact ⟨_, _, rfl, trivial, by simp only [Rs]⟩
 ·split at h
  ·rename_i cs hcs
   cases h
   obtain ⟨os, h1, h2⟩ := QF hT hcs hv (RsL.sc _)
   refine ⟨True, .agg os.toArray, ?_, trivial, ?_⟩
   ·simp only [pev]
    rw [h1]
   ·simp only [Rs]
    exact ⟨_, rfl, h2⟩
  ·cases h
 ·exact AeH h hv hc
end
abbrev KD := DEnv → Ad → Nat → Prop
def bD (b : UInt8) : D := .sc (U8 b)
def heldOk (r : Ad) (i : Nat) : Prop := match AP r i with
 | some (.box _ _) => True
 | some (.row _ _ _ _) => True
 | _ => False
def Hd (r : Ad) (w w' : World) (T : Nat → Option Value) (held : List Nat) : Prop := ∀ i ∈ held, heldOk r i → ∀ u b, T i = some u → blk u = some b → w'.heap[b]? = w.heap[b]?
structure Grow (r : Ad) (w : World) (Z : Nat → Prop) (T : Nat → Option Value) (w' : World) (Z' : Nat → Prop) (T' : Nat → Option Value) (held : List Nat) : Prop where
 zs : ∀ b, Z b → w'.heap[b]? = w.heap[b]?
 zz : ∀ b, Z b → Z' b
 tt : ∀ i u, T i = some u → T' i = some u
 hd : Hd r w w' T held
theorem Grow.refl (r : Ad) (w : World) (Z : Nat → Prop) (T : Nat → Option Value) (held : List Nat) : Grow r w Z T w Z T held := ⟨fun _ _ => rfl, fun _ h => h, fun _ _ h => h, fun _ _ _ _ _ _ _ => rfl⟩

/-! ### stops -/
def DLd (o : Option D) (K : D → Prop) (_ : A7 K) : Prop := ∃ d, o = some d ∧ K d
def CZ (g : Bool) (o : Option D) (K : D → Prop) (_ : A7 K) : Prop := ∃ d, (g = true → o = some d) ∧ K d
def DBs (l : List D) (n : Nat) (K : List UInt8 → Prop) (_ : A7 K) : Prop := ∃ xs : List UInt8, xs.length = n ∧ l.take n = xs.map bD ∧ K xs
def Got (E : En) (r : Ad) (w : World) (Z : Nat → Prop) (T : Nat → Option Value) (held : List Nat) (K : D → Ad → Nat → Prop) (v : Value) (w' : World) : Prop :=
 ∃ d r' nx' Z' T' F', Ok E w' Z' T' F' r' nx' ∧ Grow r w Z T w' Z' T' held ∧ Rs w' Z' T' d v ∧ K d r' nx'
def AO (P : Program) (f : FuncId) (ds : List D) (held : List Nat) (r : Ad) (nx : Nat) (K : D → Ad → Nat → Prop) (_ : A7 K) : Prop :=
 ∀ E w Z T F vs, Ok E w Z T F r nx → RsL w Z T ds vs → Calls P f vs.toArray w fun en w' => ∃ v, en = .returned v ∧ Got E r w Z T held K v w'
def Cf (P : Program) (ats : Array TypeId) (ty : TypeId) (s x : D) (held : List Nat) (r : Ad) (nx : Nat) (K : D → Ad → Nat → Prop) (_ : A7 K) : Prop :=
 ∀ E w Z T F u v, Ok E w Z T F r nx → Rs w Z T s u → Rs w Z T x v → ∃ v' w', (Builtin.append_ ats ty #[u, v]).run P w = .ok v' w' ∧ Got E r w Z T held K v' w'
def CB (P : Program) (o : Oper) (de : DEnv) (held : List Nat) (r : Ad) (nx : Nat) (K : D → Ad → Nat → Prop) (_ : A7 K) : Prop :=
 ∀ E w Z T F e, Ok E w Z T F r nx → Di w Z T e de → known e o.op.operands.toList = true ∧ BQ P (execOp (rho e) o) w (fun v w' => Got E r w Z T held K v w') (.mk _)
def BC (P : Program) (o : Oper) (de : DEnv) (held : List Nat) (r : Ad) (nx : Nat) (K : Ad → Nat → Prop) (_ : A7 K) : Prop :=
 ∀ E w Z T F e, Ok E w Z T F r nx → Di w Z T e de → known e o.op.operands.toList = true ∧ BZ P (execOp (rho e) o) w (fun w' => ∃ r' nx' Z' T' F', Ok E w' Z' T' F' r' nx' ∧ Grow r w Z T w' Z' T' held ∧ K r' nx') (.mk _)
def DGC (b : Bool) (X : Prop) (Y : D → Prop) (_ : Tag X) (_ : A7 Y) : Prop := (b = true → X) ∧ (b = false → ∃ d, Y (.opt b d))

/-! ### operations on names -/
inductive RV' where
 | val (c : Prop) (d : D)
 | unk (n : Nat) (neg : Bool)
 | frz (i e s n : Nat) (l : List D) (rest : List D)
 | stuck
def Gi (r : Ad) : PF → List D → RV'
 | .ixs size, [.h i, .sc (.int _ j)] => match AP r i with
  | some (.row e s n l) => .val (0 ≤ j ∧ j < n) (.hp i (j.toNat * size))
  | _ => .stuck
 | .len, [.h i] => match AP r i with
  | some (.row e s n l) => .val True (.sc (.int .i64 n))
  | _ => .stuck
 | .isnil .sl neg, [.sl n l] => .unk n neg
 | .isnil .sl neg, [.h i] => match AP r i with
  | some (.row e s n l) => .unk n neg
  | _ => .stuck
 | .isnil .mp neg, [.h i] => match AP r i with
  | some (.mp ks l) => .val True (.sc (.bool (false != neg)))
  | _ => .stuck
 | .sls _ _ _ _, .h i :: rest => match AP r i with
  | some (.row e s n l) => .frz i e s n l rest
  | _ => .stuck
 | _, _ => .stuck
def Or2 (X Y : Prop) (_ : Tag X) (_ : Tag Y) : Prop := X ∨ Y
inductive CutR where
 | pre (c : Prop) (m : Nat)
 | tail (c : Prop) (off m : Nat)
def Gj (s n : Nat) : PF → List D → Option CutR
 | .sls size false true false, [.sc (.int _ hi)] => some (.pre (size = s ∧ 0 ≤ hi ∧ hi ≤ n) hi.toNat)
 | .sls size false true true, [.sc (.int _ hi), .sc (.int _ mx)] => some (.pre (size = s ∧ 0 ≤ hi ∧ hi ≤ mx ∧ mx ≤ n) hi.toNat)
 | .sls size true false false, [.sc (.int _ lo)] => some (.tail (size = s ∧ 0 ≤ lo ∧ lo ≤ n) (lo.toNat * s) (n - lo.toNat))
 | _, _ => none
def GL (o : Option CutR) (i e s : Nat) (l : List D) (r : Ad) (nx : Nat) (K : D → Ad → Nat → Prop) : Prop := match o with
 | some (.pre c m) => Chk c (Or2 (K (.h nx) ((nx, .row e s m (l.take (m * s))) :: Ej r i) (nx + 1)) (K (.hs i m) r nx) (.mk _) (.mk _)) (.mk _)
 | some (.tail c off m) => Chk c (K (.ht i off m) r nx) (.mk _)
 | none => False
def dp (f : PF) (ds : List D) (r : Ad) (nx : Nat) (K : D → Ad → Nat → Prop) : Prop :=
 match dev f (uof f ds).2 with
 | some (c, d) => Chk ((uof f ds).1 ∧ c) (K d r nx) (.mk _)
 | none => match Gi r f (uof f ds).2 with
  | .val c d => Chk ((uof f ds).1 ∧ c) (K d r nx) (.mk _)
  | .unk n neg => Chk (uof f ds).1 (∀ b : Bool, (0 < n → b = false) → K (.sc (.bool (b != neg))) r nx) (.mk _)
  | .frz i e s n l rest => match dev f (.sl n l :: rest) with
   | some (c, d) => Chk ((uof f ds).1 ∧ c) (Or2 (Chk (∀ x ∈ l, x.plain) (K d (Dn r i (.sl n l)) nx) (.mk _)) (GL (Gj s n f rest) i e s l r nx K) (.mk _) (.mk _)) (.mk _)
   | none => False
  | .stuck => False
def Ed (c : List D → D) (l : List D) (i off : Nat) (r : Ad) (nx : Nat) (v : D) (K : D → Ad → Nat → Prop) : Prop :=
 match v with
 | .box e l' => K (.hp nx 0) ((nx, .box e l') :: Dn r i (c (l.set off (.hp nx 0)))) (nx + 1)
 | .row e s n l' => K (.h nx) ((nx, .row e s n l') :: Dn r i (c (l.set off (.h nx)))) (nx + 1)
 | .mp ks l' => K (.h nx) ((nx, .mp ks l') :: Dn r i (c (l.set off (.h nx)))) (nx + 1)
 | .abs A => False
 | .fbx l' => False
 | d => K d r nx
def BR : D → Prop
 | .sc v => v.oneCell' = true
 | .sl _ _ => True
 | .pt _ => True
 | .fn _ _ _ => True
 | .ifc _ _ => True
 | .h _ => True
 | .hp _ _ => True
 | _ => False
def DF (e : DEnv) : Option Nat → D → DEnv
 | some d, v => BM e d v
 | none, _ => e
def Ee (de : DEnv) : Option Nat → DEnv
 | some d => BM de d .dead
 | none => de
def Bz (t : TypeId) : Nat := match Nat.beq t 0 with
 | true => 3
 | false => match Nat.beq t 33 with
  | true => 5
  | false => match Nat.beq t 57 with
   | true => 11
   | false => match Nat.beq t 0 with
    | true => 12
    | false => match Nat.beq t 0 with
     | true => 13
     | false => 1
def rowOf (t len : Nat) (cs : List D) : D := .row t (if len = 0 then Bz t else cs.length / len) len cs
def MOp.dwp (P : Program) (held : List Nat) : MOp → DEnv → Ad → Nat → KD → Prop
 | .p d f xs, de, r, nx, K => match dvs de r xs with
  | some ds => dp f ds r nx (fun v r' nx' => K (BM de d v) r' nx')
  | none => False
 | .ld d x, de, r, nx, K => match dv de r x with
  | some dx => match Bq dx with
   | (g, .pt l) => Chk (g = true) (DLd l[0]? (fun v => K (BM de d v) r nx) (.mk _)) (.mk _)
   | (g, .hp i off) => match AP r i with
    | some (.box e l) => Chk (g = true) (DLd l[off]? (fun v => Ed (.box e) l i off r nx v (fun v r' nx' => K (BM de d v) r' nx')) (.mk _)) (.mk _)
    | some (.row e s n l) => Chk (g = true) (DLd l[off]? (fun v => Ed (.row e s n) l i off r nx v (fun v r' nx' => K (BM de d v) r' nx')) (.mk _)) (.mk _)
    | _ => False
   | _ => False
  | none => False
 | .ldn d n x, de, r, nx, K => match dv de r x with
  | some dx => match Bq dx with
   | (g, .pt l) => Chk (g = true ∧ n ≤ l.length) (K (BM de d (.agg (l.take n))) r nx) (.mk _)
   | (g, .hp i off) => match AP r i with
    | some (.box e l) => Chk (g = true ∧ off + n ≤ l.length ∧ ∀ c ∈ (l.drop off).take n, c.plain) (K (BM de d (.agg ((l.drop off).take n))) r nx) (.mk _)
    | some (.row e s m l) => Chk (g = true ∧ off + n ≤ l.length ∧ ∀ c ∈ (l.drop off).take n, c.plain) (K (BM de d (.agg ((l.drop off).take n))) r nx) (.mk _)
    | _ => False
   | _ => False
  | none => False
 | .bs d x, de, r, nx, K => match dv de r x with
  | some dx => match Bq dx with
   | (g, .sl n l) => Chk (g = true) (DBs l n (fun xs => K (BM de d (.sc (.string ⟨xs.toArray⟩))) r nx) (.mk _)) (.mk _)
   | (g, .sc (.slice none n c)) => Chk (g = true ∧ n = 0) (K (BM de d (.sc (.string ⟨#[]⟩))) r nx) (.mk _)
   | (g, .h i) => match AP r i with
    | some (.row e s n l) => Chk (g = true) (DBs l n (fun xs => K (BM de d (.sc (.string ⟨xs.toArray⟩))) r nx) (.mk _)) (.mk _)
    | _ => False
   | _ => False
  | none => False
 | .st n agg x v, de, r, nx, K => match dv de r x, dv de r v with
  | some dx, some v => match Bq dx with
   | (g, .hp i off) => match agg, Bq v with
    | false, (g', v) => match AP r i with
     | some (.box e l) => Chk ((g = true ∧ g' = true) ∧ (off < l.length ∧ BR v) ∧ i ∉ held) (K de (Dn r i (.box e (l.set off v))) nx) (.mk _)
     | some (.row e s m l) => Chk ((g = true ∧ g' = true) ∧ (off < l.length ∧ BR v) ∧ i ∉ held) (K de (Dn r i (.row e s m (l.set off v))) nx) (.mk _)
     | _ => False
    | true, (g', .agg cs) => match AP r i with
     | some (.box e l) => Chk (((g = true ∧ g' = true) ∧ cs.length = n ∧ off + n ≤ l.length) ∧ (∀ c ∈ cs, BR c) ∧ i ∉ held) (K de (Dn r i (.box e (CE l off cs))) nx) (.mk _)
     | some (.row e s m l) => Chk (((g = true ∧ g' = true) ∧ cs.length = n ∧ off + n ≤ l.length) ∧ (∀ c ∈ cs, BR c) ∧ i ∉ held) (K de (Dn r i (.row e s m (CE l off cs))) nx) (.mk _)
     | _ => False
    | _, _ => False
   | _ => False
  | _, _ => False
 | .new d t zero, de, r, nx, K => K (BM de d (.hp nx 0)) ((nx, .box t (zero.map .sc)) :: r) (nx + 1)
 | .box d t v, de, r, nx, K => match dv de r v with
  | some v => match Bq v with
   | (g, v) => match CO v with
    | some cs => Chk (g = true) (K (BM de d (.hp nx 0)) ((nx, .box t cs) :: r) (nx + 1)) (.mk _)
    | none => False
  | none => False
 | .bsl d t len zero places vs, de, r, nx, K => match dvs de r vs with
  | some ds => match BL places (uo ds).2 (zero.map .sc) with
   | some cs => Chk ((uo ds).1 ∧ cs.length = len * (if len = 0 then 1 else cs.length / len) ∧ len ≤ 9223372036854775807) (K (BM de d (.h nx)) ((nx, rowOf t len cs) :: r) (nx + 1)) (.mk _)
   | none => False
  | none => False
 | .app d ats ty s x, de, r, nx, K => match dv de r s, dv de r x with
  | some s, some x => match Bq s, Bq x with
   | (g, s), (g', x) => Chk (g = true ∧ g' = true) (Cf P ats ty s x held r nx (fun v r' nx' => K (BM de d v) r' nx') (.mk _)) (.mk _)
  | _, _ => False
 | .call d f xs, de, r, nx, K => match dvs de r xs with
  | some ds => Chk (uo ds).1 (AO P f (uo ds).2 held r nx (fun v r' nx' => K (DF de d v) r' nx') (.mk _)) (.mk _)
  | none => False
 | .callv d f xs, de, r, nx, K => match dv de r f, dvs de r xs with
  | some f, some ds => match Bq f with
   | (g, .fn f a b) => Chk (g = true ∧ (uo ds).1 ∧ LJ P f = true) (AO P f (a ++ (uo ds).2 ++ b) held r nx (fun v r' nx' => K (DF de d v) r' nx') (.mk _)) (.mk _)
   | _ => False
  | _, _ => False
 | .gen d o, de, r, nx, K => CB P o de held r nx (fun v r' nx' => K (DF de d v) r' nx') (.mk _)
 | .genu o, de, r, nx, K => BC P o de held r nx (fun r' nx' => K de r' nx') (.mk _)
 | .gd g want d o, de, r, nx, K => match dgv (AZ de g) want with
  | some b => match o, d with
   | .p d' f xs, some d => match dvs de r xs with
    | some ds => match dev f (uof f ds).2 with
     | some (c, v) => Chk (d = d' ∧ ((b == want) = true → (uof f ds).1 ∧ c)) (K (BM de d (.opt (b == want) v)) r nx) (.mk _)
     | none => Br (b == want) (MOp.dwp P held (.p d' f xs) de r nx K) (K (BM de d .dead) r nx) (.mk _) (.mk _)
    | none => False
   | .ld d' x, some d => match dv de r x with
    | some dx => match Bq dx with
     | (g', .pt l) => Chk (d = d' ∧ ((b == want) = true → g' = true)) (CZ (b == want) l[0]? (fun v => K (BM de d (.opt (b == want) v)) r nx) (.mk _)) (.mk _)
     | _ => Br (b == want) (MOp.dwp P held (.ld d' x) de r nx K) (K (BM de d .dead) r nx) (.mk _) (.mk _)
    | none => False
   | .call (some d') f xs, some d => match dvs de r xs with
    | some ds => Chk (d = d') (DGC (b == want) (Chk (uo ds).1 (AO P f (uo ds).2 held r nx (fun v r' nx' => K (BM de d (.opt (b == want) v)) r' nx') (.mk _)) (.mk _)) (fun v => K (BM de d v) r nx) (.mk _) (.mk _)) (.mk _)
    | none => False
   | o, d => Br (b == want) (o.dwp P held de r nx K) (K (Ee de d) r nx) (.mk _) (.mk _)
  | _ => False
/-! ### regions that draw their order -/
def DV : MOp → Bool
 | .ld _ _ => true
 | .ldn _ _ _ => true
 | .bs _ _ => true
 | .gd _ _ _ (.ld _ _) => true
 | .gd _ _ _ (.ldn _ _ _) => true
 | .gd _ _ _ (.bs _ _) => true
 | _ => false
def GI : MOp → Option Operand
 | .ld _ x => some x
 | .ldn _ _ x => some x
 | .bs _ x => some x
 | .gd _ _ _ (.ld _ x) => some x
 | .gd _ _ _ (.ldn _ _ x) => some x
 | .gd _ _ _ (.bs _ x) => some x
 | _ => none
def C9 (de : DEnv) (r : Ad) (m : MOp) : List Nat :=
 match GI m with
 | some x => match dv de r x with
  | some d => match Bq d with
   | (_, .hp i _) => [i]
   | (_, .h i) => [i]
   | _ => []
  | none => []
 | none => []
def Bg : MOp → List Nat
 | .ld d (.tmp t) => [d, t]
 | .ldn d _ (.tmp t) => [d, t]
 | .bs d (.tmp t) => [d, t]
 | .ld d _ => [d]
 | .ldn d _ _ => [d]
 | .bs d _ => [d]
 | .gd g _ _ o => g :: Bg o
 | _ => []
def nb (a b : Nat) : Bool := match Nat.beq a b with
 | true => false
 | false => true
theorem nb_eq (a b : Nat) : nb a b = !(Nat.beq a b) := by unfold nb; cases Nat.beq a b <;> rfl
def BH : MOp → Bool
 | .ld d (.tmp t) => nb d t
 | .ldn d _ (.tmp t) => nb d t
 | .bs d (.tmp t) => nb d t
 | .gd g _ (some d) (.ld d' (.tmp t)) => nb d t && nb d g && Nat.beq d d'
 | .gd g _ (some d) (.ldn d' _ (.tmp t)) => nb d t && nb d g && Nat.beq d d'
 | .gd g _ (some d) (.bs d' (.tmp t)) => nb d t && nb d g && Nat.beq d d'
 | _ => false
def FT : MOp → Nat
 | .ld d _ => d
 | .ldn d _ _ => d
 | .bs d _ => d
 | .gd _ _ _ o => FT o
 | _ => 0
def CS (m : MOp) : List MOp → Prop
 | [] => False
 | m' :: l => match Nat.beq (FT m) (FT m') with
  | true => m = m'
  | false => CS m l
def BB : List MOp → List MOp → Prop
 | [], _ => True
 | m :: l, done => CS m done ∧ BB l done
def apart : List Nat → List Nat → Bool
 | [], _ => true
 | a :: l, m => (m.all fun b => nb a b) && apart l m
def Az (ds : List Nat) : List MOp → Bool
 | [] => true
 | m :: l => apart ds (Bg m) && Az ds l
def BA (r : Ad) : List Nat → Prop
 | [] => True
 | i :: l => heldOk r i ∧ BA r l
def FQ : MOp → List Nat
 | .p d _ _ => [d]
 | .ld d _ => [d]
 | .ldn d _ _ => [d]
 | .bs d _ => [d]
 | .st _ _ _ _ => []
 | .new d _ _ => [d]
 | .box d _ _ => [d]
 | .bsl d _ _ _ _ _ => [d]
 | .app d _ _ _ _ => [d]
 | .call d _ _ => d.toList
 | .callv d _ _ => d.toList
 | .gen d _ => d.toList
 | .genu _ => []
 | .gd _ _ d o => d.toList ++ FQ o
/-! ### code -/
def Eg (K : KD) (Q : Exit → KD) : Exit → KD
 | .normal => K
 | x => Q x
def Dh (id : Nat) (Q : Exit → KD) : Exit → KD
 | .exit i => match Nat.beq i id with
  | true => Q .normal
  | false => Q (.exit i)
 | x => Q x
def Ent (de : DEnv) (r : Ad) (nx : Nat) (de' : DEnv) (r' : Ad) (nx' : Nat) : Prop :=
 ∀ E e w, Sat E e w de r nx → Sat E e w de' r' nx'
def Dv : List Nat → DEnv → DEnv
 | [], _ => []
 | n :: l, e => match AZ e n with
  | some v => (n, v) :: Dv l e
  | none => Dv l e
def BG (B : (Exit → KD) → KD) (Q : Exit → KD) (de : DEnv) (r : Ad) (nx : Nat) (_ : A7 B) (_ : A7 Q) : Prop :=
 ∃ (τ : Type) (live : List Nat) (S : τ → DEnv × Ad × Nat) (J : τ → Prop) (μ : τ → Nat), (∃ s0, J s0 ∧ Ent (Dv live de) r nx (S s0).1 (S s0).2.1 (S s0).2.2) ∧
  ∀ s, J s → B (Eg (fun de' r' nx' => ∃ s', J s' ∧ μ s' < μ s ∧ Ent (Dv live de') r' nx' (S s').1 (S s').2.1 (S s').2.2) Q) (S s).1 (S s).2.1 (S s).2.2
def Dw (P : Program) (n : Nat) (c : Code) (Q : Exit → KD) (de : DEnv) (r : Ad) (nx : Nat) (_ : A7 c) (_ : A7 Q) : Prop :=
 ∀ E e w, Sat E e w de r nx → Cb P n c (fun x e' w' => ∃ de' r' nx', Sat E e' w' de' r' nx' ∧ Q x de' r' nx') e w (.mk _) (.mk _)
/-! ### whole functions -/
def NE : List RV → DEnv → Ad → (List D → Prop) → Prop
 | [], de, r, K => K []
 | .t t :: l, de, r, K => match AZ de t with
  | some d => NE l de r (fun ds => K (d :: ds))
  | none => False
 | .c t :: l, de, r, K => match AZ de t with
  | some d => match Dx r d with
   | .hp i off => match AP r i with
    | some (.box e c) => DLd c[off]? (fun v => Chk v.plain (NE l de r (fun ds => K (v :: ds))) (.mk _)) (.mk _)
    | _ => False
   | _ => False
  | none => False
 | .cn t n :: l, de, r, K => match AZ de t with
  | some d => match Dx r d with
   | .hp i off => match AP r i with
    | some (.box e c) => Chk (off + n ≤ c.length ∧ ∀ x ∈ (c.drop off).take n, x.plain) (NE l de r (fun ds => K (.agg ((c.drop off).take n) :: ds))) (.mk _)
    | _ => False
   | _ => False
  | none => False
def Gn : List D → D
 | [d] => d
 | ds => .tup ds
def EntV (d : D) (r : Ad) (nx : Nat) (d' : D) (r' : Ad) (nx' : Nat) : Prop :=
 ∀ E w Z T F v, Ok E w Z T F r nx → Rs w Z T d v → ∃ Z' T' F', Ok E w Z' T' F' r' nx' ∧ Grow r w Z T w Z' T' [] ∧ Rs w Z' T' d' v
def Ce (d : D) (r : Ad) (nx : Nat) (Q : D → Ad → Nat → Prop) (_ : A7 Q) : Prop := ∃ d' r' nx', EntV d r nx d' r' nx' ∧ Q d' r' nx'
def D9 (P : Program) (f : FuncId) (ds : List D) (r : Ad) (nx : Nat) (Q : D → Ad → Nat → Prop) : Prop :=
 ∀ w Z T F vs, Ok ⟨w, Z, T, F, nx⟩ w Z T F r nx → RsL w Z T ds vs → Calls P f vs.toArray w fun en w' => ∃ v, en = .returned v ∧
  ∃ d r' nx' Z' T' F', Ok ⟨w, Z, T, F, nx⟩ w' Z' T' F' r' nx' ∧ Rs w' Z' T' d v ∧ Q d r' nx'
def Gx : Nat → List D → DEnv
 | _, [] => []
 | i, v :: vs => (i, v) :: Gx (i + 1) vs
def Ei (T : Nat → Option Value) (i : Nat) (v : Value) : Nat → Option Value := fun j => if j = i then some v else T j
theorem Bi (T : Nat → Option Value) (i : Nat) (v : Value) : Ei T i v i = some v := by simp [Ei]
theorem Ey {T : Nat → Option Value} {i : Nat} {v : Value} (h : T i = none) : ∀ j u, T j = some u → Ei T i v j = some u := fun j u hj => by
 unfold Ei
 by_cases e : j = i
 ·subst e; rw [h] at hj; cases hj
 ·rw [if_neg e]; exact hj
section
variable {E : En} {w w' : World} {Z : Nat → Prop} {T : Nat → Option Value} {F : Nat → Nat} {r : Ad} {nx : Nat}
theorem YL {d : D} {v : Value} {G : Nat → Nat} {b : Nat} (h : Ro w Z T d v G) (hd : (∃ e l, d = .box e l) ∨ (∃ e s n l, d = .row e s n l) ∨ (∃ ks l, d = .mp ks l)) (hb : blk v = some b) : 0 < G b := by
 rcases hd with ⟨e, l, rfl⟩ | ⟨e, s, n, l, rfl⟩ | ⟨ks, l, rfl⟩
 ·simp only [Ro] at h
  obtain ⟨_, us, F', _, _, _, h3⟩ := h
  rw [h3]; simp [own, hb]
 ·simp only [Ro] at h
  obtain ⟨us, F', _, _, h3⟩ := h
  rw [h3]; simp [own, hb]
 ·simp only [Ro] at h
  obtain ⟨_, us, F', _, _, _, h3⟩ := h
  rw [h3]; simp [own, hb]
theorem IJ {i : Nat} {v : Value} {b : Nat} (hr : RL w Z T r F) (ho : heldOk r i) (ht : T i = some v) (hb : blk v = some b) : ∃ d F1 F2, AP r i = some d ∧ Ro w Z T d v F1 ∧ (∀ c, F c = F1 c + F2 c) ∧ 0 < F1 b ∧ RL w Z T (Ej r i) F2 := by
 unfold heldOk at ho
 split at ho
 ·rename_i e l hg
  obtain ⟨u, F1, F2, h1, h2, h3, h4, _⟩ := hr.get hg
  rw [ht] at h1; cases h1
  exact ⟨_, F1, F2, hg, h2, h3, YL h2 (.inl ⟨_, _, rfl⟩) hb, h4⟩
 ·rename_i e s n l hg
  obtain ⟨u, F1, F2, h1, h2, h3, h4, _⟩ := hr.get hg
  rw [ht] at h1; cases h1
  exact ⟨_, F1, F2, hg, h2, h3, YL h2 (.inr (.inl ⟨_, _, _, _, rfl⟩)) hb, h4⟩
 ·exact ho.elim
theorem Jz {i j : Nat} (h : i ≠ j) : ∀ {r : Ad}, AP (Ej r i) j = AP r j
 | [] => rfl
 | p :: r => by
  simp only [Ej]
  by_cases hp : p.1 = i
  ·rw [if_pos hp]
   simp only [AP]
   rw [if_neg (by omega)]
  ·rw [if_neg hp]
   simp only [AP]
   rw [Jz h]
theorem Ok.alloc (h : Ok E w Z T F r nx) {o : Obj} {v : Value} {d : D} (hs : w'.heap.size = w.heap.size + 1) (hf : Fr No w w') (hb : blk v = some w.heap.size) (h1 : v.oneCell' = true)
  (hd : Ro w' Z (Ei T nx v) d v (own v)) (held : List Nat) : Ok E w' Z (Ei T nx v) (fun b => own v b + F b) ((nx, d) :: r) (nx + 1) ∧ Grow r w Z T w' Z (Ei T nx v) held := by
 have hown : ∀ b, own v b = if b = w.heap.size then 1 else 0 := fun b => by
  unfold own
  rw [hb]
  by_cases e : b = w.heap.size
  ·simp [e]
  ·have : ¬ (some w.heap.size = some b) := fun h => e (by simpa using h.symm)
   rw [if_neg this, if_neg e]
 have hF0 : F w.heap.size = 0 := by
  cases hz : F w.heap.size with
  | zero => rfl
  | succ n => have := h.lt w.heap.size (by omega); omega
 have hsame : ∀ b, b < w.heap.size → w'.heap[b]? = w.heap[b]? := fun b hb => hf.same b hb fun h => h
 have hT := Ey (v := v) (h.t nx (Nat.le_refl _))
 refine ⟨⟨h.fr.then hf, h.z, h.zo, fun b hb => ?_, fun i u hu => hT i u (h.names i u hu), fun b => ?_, fun b hb => ?_, fun b hb => ?_, fun i hi => ?_, fun i u hu => ?_, Nat.le_succ_of_le h.ge, ?_⟩, ⟨fun b hb => hsame b (h.zlt b hb).1, fun b hb => hb, hT, ?_⟩⟩
 ·have := h.fo b hb
  have := h.fr.size
  rw [hown, if_neg (by omega)]
  omega
 ·rw [hown]
  by_cases e : b = w.heap.size
  ·rw [if_pos e, e, hF0]; omega
  ·rw [if_neg e]; have := h.one b; omega
 ·rw [hown] at hb
  by_cases e : b = w.heap.size
  ·omega
  ·rw [if_neg e] at hb; have := h.lt b (by omega); omega
 ·have := h.zlt b hb
  refine ⟨by omega, ?_⟩
  rw [hown, if_neg (by omega)]
  omega
 ·unfold Ei
  rw [if_neg (by omega)]
  exact h.t i (by omega)
 ·unfold Ei at hu
  by_cases e : i = nx
  ·rw [if_pos e] at hu; cases hu; exact h1
  ·rw [if_neg e] at hu; exact h.cell i u hu
 ·exact ⟨v, own v, F, Bi _ _ _, hd, h.roots.keep (fun _ h => h) hT fun b hb => hsame b (by
   rcases hb with hb | hb
   ·exact h.lt b hb
   ·exact (h.zlt b hb).1), fun b => rfl⟩
 ·intro i hi ho u b hu hbk
  obtain ⟨d', F1, F2, _, _, h3, h4, _⟩ := IJ h.roots ho hu hbk
  exact hsame b (h.lt b (by rw [h3]; omega))
theorem Ok.write (h : Ok E w Z T F r nx) {i : Nat} {d' : D} {v : Value} {F1 F2 F1' : Nat → Nat} {b0 : Nat} (ht : T i = some v) (hbk : blk v = some b0) (hF : ∀ b, F b = F1 b + F2 b) (hF1 : ∀ b, F1' b ≤ F1 b) (hb0 : 0 < F1 b0)
  (hf : Fr (· = b0) w w') (hro : RL w' Z T (Dn r i d') (fun b => F1' b + F2 b)) {held : List Nat} (hh : i ∉ held) (hrest : RL w Z T (Ej r i) F2) : Ok E w' Z T (fun b => F1' b + F2 b) (Dn r i d') nx ∧ Grow r w Z T w' Z T held := by
 have hlt : b0 < w.heap.size := h.lt b0 (by rw [hF]; omega)
 have hsz := hf.size
 have hsame : ∀ b, b < w.heap.size → b ≠ b0 → w'.heap[b]? = w.heap[b]? := fun b hb hn => hf.same b hb hn
 have hz0 : ∀ b, Z b → b ≠ b0 := fun b hb e => by
  have := (h.zlt b hb).2
  rw [e, hF] at this
  omega
 refine ⟨⟨h.fr.step hf fun b hb e => ?_, h.z, h.zo, fun b hb => ?_, h.names, fun b => ?_, fun b hb => ?_, fun b hb => ?_, h.t, h.cell, h.ge, hro⟩, ⟨fun b hb => hsame b (h.zlt b hb).1 (hz0 b hb), fun b hb => hb, fun _ _ h => h, ?_⟩⟩
 ·subst e
  have := h.fo _ hb
  rw [hF] at this
  show 0 < E.F b
  omega
 ·have := h.fo b hb; have := hF b; have := hF1 b; omega
 ·have := h.one b; have := hF b; have := hF1 b; omega
 ·have := h.lt b (by have := hF b; have := hF1 b; omega); omega
 ·have := h.zlt b hb; have := hF b; have := hF1 b; exact ⟨by omega, by omega⟩
 ·intro j hj ho u b hu hbu
  have hne : i ≠ j := fun e => hh (e ▸ hj)
  have ho' : heldOk (Ej r i) j := by unfold heldOk; rw [Jz hne]; exact ho
  obtain ⟨d1, G1, G2, _, _, g3, g4, _⟩ := IJ hrest ho' hu hbu
  refine hsame b (h.lt b ?_) fun e => ?_
  ·have := hF b; have := g3 b; omega
  ·subst e
   have := h.one b
   have := hF b
   have := g3 b
   omega

def Aft (E : En) (r : Ad) (w : World) (Z : Nat → Prop) (T : Nat → Option Value) (held : List Nat) (e : Env) (dst : List Nat) (K : KD) (e' : Env) (w' : World) : Prop :=
 ∃ de' r' nx' Z' T' F', Ok E w' Z' T' F' r' nx' ∧ Di w' Z' T' e' de' ∧ Grow r w Z T w' Z' T' held ∧ (∀ t, t ∉ dst → AU e' t = AU e t) ∧ K de' r' nx'
theorem G7 {e : Env} {d t : Nat} {v : Value} (h : t ∉ [d]) : AU (GK e d v) t = AU e t := by
 rw [EZ, if_neg (fun e => h (by rw [e]; simp))]
theorem Ac6 {e : Env} {d : Option Nat} {t : Nat} {v : Value} (h : t ∉ d.toList) : AU (TN e d v) t = AU e t := by
 cases d with
 | none => rfl
 | some d => exact G7 h
theorem Di.put? {e : Env} {de : DEnv} (h : Di w Z T e de) {d : D} {v : Value} (hd : Rs w Z T d v) (t : Option Nat) : Di w Z T (TN e t v) (DF de t d) := by
 cases t with
 | none => exact h
 | some t => exact h.put hd t
theorem Di.dead {e : Env} {de : DEnv} (h : Di w Z T e de) (t : Nat) : Di w Z T (GK e t undef) (BM de t .dead) := h.put (by simp only [Rs]) t

variable {P : Program} {held : List Nat} {e : Env} {de : DEnv} {K : KD}
theorem Got.aft {dst : Option Nat} {v : Value} (h : Got E r w Z T held (fun v r' nx' => K (DF de dst v) r' nx') v w') (he : Di w Z T e de) : Aft E r w Z T held e dst.toList K (TN e dst v) w' := by
 obtain ⟨d, r', nx', Z', T', F', h1, h2, h3, h4⟩ := h
 exact ⟨_, r', nx', Z', T', F', h1, (he.keep h2.zs h2.zz h2.tt).put? h3 dst, h2, fun t ht => Ac6 ht, h4⟩
theorem Aft.put {t : Nat} {d : D} {v : Value} (h : Ok E w Z T F r nx) (he : Di w Z T e de) (hd : Rs w Z T d v) (hk : K (BM de t d) r nx) : Aft E r w Z T held e [t] K (GK e t v) w :=
 ⟨_, r, nx, Z, T, F, h, he.put hd t, Grow.refl _ _ _ _ _, fun t' ht => G7 ht, hk⟩

theorem JX {i e' s n : Nat} {l : List D} (h : Ok E w Z T F r nx) (hg : AP r i = some (.row e' s n l)) (hp : ∀ x ∈ l, x.plain) :
  ∃ Z' F', Ok E w Z' T F' (Dn r i (.sl n l)) nx ∧ Grow r w Z T w Z' T held ∧ ∀ v, T i = some v → Rs w Z' T (.sl n l) v := by
 obtain ⟨v, F1, F2, h1, h2, h3, h4, h5⟩ := h.roots.get hg
 simp only [Ro] at h2
 obtain ⟨us, F', a1, a2, a3⟩ := h2
 obtain ⟨b1, b2⟩ := a2.rs hp
 have hF1 : ∀ b, F1 b = own v b := fun b => by rw [a3, b2]; omega
 obtain ⟨Z', hZ'⟩ : ∃ Z' : Nat → Prop, Z' = fun b => Z b ∨ own v b = 1 := ⟨_, rfl⟩
 have hzz : ∀ b, Z b → Z' b := fun b hb => by rw [hZ']; exact .inl hb
 have hsl : Rs w Z' T (.sl n l) v := by
  simp only [Rs]
  rcases Ow.form a1 with ⟨rfl, hn, hx⟩ | ⟨g, cap, cur, rfl, hgp, hc, hs, hl, ht⟩
  ·subst hn; subst hx
   have : l = [] := List.eq_nil_of_length_eq_zero (by rw [← b1.len]; rfl)
   subst this
   exact ⟨none, 0, rfl, Nat.le_refl _, fun _ => rfl, by simp only [Fz]⟩
  ·refine ⟨_, cap, rfl, hc, fun h => by (cases h), Fz.mk fun j d hd => ?_⟩
   obtain ⟨u, hu, hr⟩ := b1.get hd
   have := Ow.cells a1 (g := g) rfl j u hu
   refine ⟨⟨g, 0, none⟩, u, rfl, by rw [hZ']; exact .inr (by simp [own, blk]), by simpa using this, Rs.keep (fun _ _ => rfl) hzz (fun _ _ h => h) d u hr⟩
 refine ⟨Z', F2, ⟨h.fr, fun b hb => hzz b (h.z b hb), fun b hb hz => ?_, fun b hb => ?_, h.names, fun b => ?_, fun b hb => ?_, fun b hb => ?_, h.t, h.cell, h.ge, ?_⟩, ⟨fun _ _ => rfl, hzz, fun _ _ h => h, fun _ _ _ _ _ _ _ => rfl⟩, fun v' hv => by rw [h1] at hv; cases hv; exact hsl⟩
 ·rw [hZ'] at hz
  rcases hz with hz | hz
  ·exact h.zo b hb hz
  ·have := h.fo b hb; have := h3 b; have := hF1 b; exact .inr (by omega)
 ·have := h.fo b hb; have := h3 b; omega
 ·have := h.one b; have := h3 b; omega
 ·exact h.lt b (by have := h3 b; omega)
 ·rw [hZ'] at hb
  rcases hb with hb | hb
  ·have hz := h.zlt b hb; have := h3 b; exact ⟨hz.1, by omega⟩
  ·have e1 := hF1 b; have e2 := h3 b; have e3 := h.one b; exact ⟨h.lt b (by omega), by omega⟩
 ·have := h5 w Z' T (.sl n l) v (fun _ => 0) (fun _ _ => rfl) hzz (fun _ _ h => h) h1 (by simp only [Ro]; exact ⟨hsl, fun _ => trivial⟩)
  refine this.cast fun b => by simp

theorem AbL {s n : Nat} {f : PF} {ds : List D} {c : Prop} {m : Nat} (h : Gj s n f ds = some (.pre c m)) : (∃ size k hi, f = .sls size false true false ∧ ds = [.sc (.int k hi)] ∧ c = (size = s ∧ 0 ≤ hi ∧ hi ≤ n) ∧ m = hi.toNat) ∨
  ∃ size k hi k' mx, f = .sls size false true true ∧ ds = [.sc (.int k hi), .sc (.int k' mx)] ∧ c = (size = s ∧ 0 ≤ hi ∧ hi ≤ mx ∧ mx ≤ n) ∧ m = hi.toNat := by
 unfold Gj at h
 split at h
 ·cases h; exact .inl ⟨_, _, _, rfl, rfl, rfl, rfl⟩
 ·cases h; exact .inr ⟨_, _, _, _, _, rfl, rfl, rfl, rfl⟩
 ·cases h
 ·cases h
theorem AbK {s n : Nat} {f : PF} {ds : List D} {c : Prop} {off m : Nat} (h : Gj s n f ds = some (.tail c off m)) : ∃ size k lo, f = .sls size true false false ∧ ds = [.sc (.int k lo)] ∧ c = (size = s ∧ 0 ≤ lo ∧ lo ≤ n) ∧ off = lo.toNat * s ∧ m = n - lo.toNat := by
 unfold Gj at h
 split at h
 ·cases h
 ·cases h
 ·cases h; exact ⟨_, _, _, rfl, rfl, rfl, rfl, rfl⟩
 ·cases h
theorem Ac9 {d : Nat} {f : PF} {xs : List Operand} {ds : List D} (h : Ok E w Z T F r nx) (he : Di w Z T e de) (hds : dvs de r xs = some ds) (hk : dp f ds r nx (fun v r' nx' => K (BM de d v) r' nx')) :
  (MOp.p d f xs).wp P e w (Aft E r w Z T held e [d] K) := by
 obtain ⟨vs, hvs, hrs⟩ := OO h.roots he hds
 simp only [MOp.wp, hvs]
 unfold dp at hk
 split at hk
 ·rename_i c v hdev
  obtain ⟨⟨h1, h2⟩, h3⟩ := hk
  obtain ⟨c', u, a1, a2, a3⟩ := ZP h.cell hdev (SL hrs h1) h2
  rw [a1]
  exact ⟨a2, Aft.put h he a3 h3⟩
 ·split at hk
  ·rename_i c v hdr
   obtain ⟨⟨h1, h2⟩, h3⟩ := hk
   have hrs' := SL hrs h1
   revert hrs' hdr
   generalize (uof f ds).2 = ds'
   intro hdr hrs'
   unfold Gi at hdr
   split at hdr
   ·split at hdr
    ·rename_i i k j e' s n l hg
     cases hdr
     obtain ⟨a, b, rfl, ha, hb⟩ := We hrs'
     simp only [Rs] at ha hb
     subst hb
     obtain ⟨v, F1, F2, g1, g2, g3, g4, g5⟩ := h.roots.get hg
     rw [ha] at g1
     cases g1
     simp only [Ro] at g2
     obtain ⟨us, F', a1, a2, a3⟩ := g2
     rcases Ow.form a1 with ⟨rfl, hn, hx⟩ | ⟨g, cap, cur, rfl, hgp, hc, hs, hl, ht⟩
     ·omega
     ·refine ⟨h2, Aft.put h he ?_ h3⟩
      simp only [Rs]
      exact ⟨_, g, ha, rfl, by rw [add_lit, Nat.zero_add]⟩
    ·cases hdr
   ·split at hdr
    ·rename_i i e' s n l hg
     cases hdr
     obtain ⟨a, rfl, ha⟩ := Ib hrs'
     simp only [Rs] at ha
     obtain ⟨v, F1, F2, g1, g2, g3, g4, g5⟩ := h.roots.get hg
     rw [ha] at g1
     cases g1
     simp only [Ro] at g2
     obtain ⟨us, F', a1, a2, a3⟩ := g2
     rcases Ow.form a1 with ⟨rfl, hn, hx⟩ | ⟨g, cap, cur, rfl, hgp, hc, hs, hl, ht⟩
     ·subst hn
      exact ⟨trivial, Aft.put h he (by simp only [Rs]) h3⟩
     ·exact ⟨trivial, Aft.put h he (by simp only [Rs]) h3⟩
    ·cases hdr
   ·cases hdr
   ·split at hdr <;> cases hdr
   ·split at hdr
    ·rename_i neg i ks l hg
     cases hdr
     obtain ⟨a, rfl, ha⟩ := Ib hrs'
     simp only [Rs] at ha
     obtain ⟨v, F1, F2, g1, g2, g3, g4, g5⟩ := h.roots.get hg
     rw [ha] at g1
     cases g1
     simp only [Ro] at g2
     obtain ⟨b, us, F', rfl, _⟩ := g2
     exact ⟨trivial, Aft.put h he (by simp only [Rs]) h3⟩
    ·cases hdr
   ·split at hdr <;> cases hdr
   ·cases hdr
  ·rename_i n neg hdr
   obtain ⟨h1, h3⟩ := hk
   have hrs' := SL hrs h1
   revert hrs' hdr
   generalize (uof f ds).2 = ds'
   intro hdr hrs'
   have key : ∀ v : Value, ∀ A c, v = .slice A n c → (A = none → n = 0) → f = .isnil .sl neg → vs = [v] → ∃ c' u, pev f vs = some (c', u) ∧ Chk c' (Aft E r w Z T held e [d] K (GK e d u) w) (.mk _) := by
    rintro v A c rfl hA rfl rfl
    cases A with
    | none =>
     refine ⟨True, .bool (true != neg), rfl, trivial, Aft.put h he (by simp only [Rs]) (h3 true fun hn => ?_)⟩
     have := hA rfl
     omega
    | some a => exact ⟨True, .bool (false != neg), rfl, trivial, Aft.put h he (by simp only [Rs]) (h3 false fun _ => rfl)⟩
   unfold Gi at hdr
   split at hdr
   ·split at hdr <;> cases hdr
   ·split at hdr <;> cases hdr
   ·cases hdr
    obtain ⟨a, rfl, ha⟩ := Ib hrs'
    simp only [Rs] at ha
    obtain ⟨A, c, rfl, hn, h0, hf⟩ := ha
    obtain ⟨c', u, k1, k2⟩ := key _ A c rfl h0 rfl rfl
    rw [k1]
    exact k2
   ·split at hdr
    ·rename_i neg' i e' s n' l hg
     cases hdr
     obtain ⟨a, rfl, ha⟩ := Ib hrs'
     simp only [Rs] at ha
     obtain ⟨v, F1, F2, g1, g2, g3, g4, g5⟩ := h.roots.get hg
     rw [ha] at g1
     cases g1
     simp only [Ro] at g2
     obtain ⟨us, F', a1, a2, a3⟩ := g2
     rcases Ow.form a1 with ⟨rfl, hn, hx⟩ | ⟨g, cap, cur, rfl, hgp, hc, hs, hl, ht⟩
     ·obtain ⟨c', u, k1, k2⟩ := key _ none 0 (by rw [hn]) (fun _ => hn) rfl rfl
      rw [k1]
      exact k2
     ·obtain ⟨c', u, k1, k2⟩ := key _ _ _ rfl (fun h => by cases h) rfl rfl
      rw [k1]
      exact k2
    ·cases hdr
   ·split at hdr <;> cases hdr
   ·split at hdr <;> cases hdr
   ·cases hdr
  ·rename_i i e' s n l rest hdr
   split at hk
   ·rename_i c v hdev
    obtain ⟨⟨h1, h2⟩, hk3⟩ := hk
    have hrs' := SL hrs h1
    revert hrs' hdr
    generalize (uof f ds).2 = ds'
    intro hdr hrs'
    unfold Gi at hdr
    split at hdr
    ·split at hdr <;> cases hdr
    ·split at hdr <;> cases hdr
    ·cases hdr
    ·split at hdr <;> cases hdr
    ·split at hdr <;> cases hdr
    ·split at hdr
     ·rename_i hg
      cases hdr
      simp only [RsL] at hrs'
      obtain ⟨u, us, rfl, k1, k2⟩ := hrs'
      simp only [Rs] at k1
      rcases hk3 with ⟨hpl, h3⟩ | hcut
      ·obtain ⟨Z', F', o1, o2, o3⟩ := JX (held := held) h hg hpl
       have hrs2 : RsL w Z' T (.sl n l :: rest) (u :: us) := by
        simp only [RsL]
        exact ⟨u, us, rfl, o3 u k1, RsL.keep (fun _ _ => rfl) o2.zz (fun _ _ h => h) _ _ k2⟩
       obtain ⟨c', u', a1, a2, a3⟩ := ZP h.cell hdev hrs2 h2
       rw [a1]
       exact ⟨a2, _, _, nx, Z', T, F', o1, (he.keep o2.zs o2.zz o2.tt).put a3 d, o2, fun t ht => G7 ht, h3⟩
      ·obtain ⟨v0, F1, F2, g1, g2, g3, g4, g5⟩ := h.roots.get hg
       rw [k1] at g1
       cases g1
       simp only [Ro] at g2
       obtain ⟨vs0, F0, a1, a2, a3⟩ := g2
       unfold GL at hcut
       split at hcut
       ·rename_i c' m hN
        obtain ⟨hc', hK⟩ := hcut
        have key : ∀ u' : Value, (Ow w e' s u' m (vs0.take (m * s)) ∧ own u' = own u) → Rs w Z T (.hs i m) u' → Aft E r w Z T held e [d] K (GK e d u') w := fun u' ⟨hu', ho'⟩ hvw => by
         rcases hK with hK | hK
         case inr => exact Aft.put h he hvw hK
         have hoc : u'.oneCell' = true := by rcases Ow.form hu' with ⟨rfl, _⟩ | ⟨_, _, _, rfl, _⟩ <;> rfl
         obtain ⟨F3, b1, b2⟩ := a2.take (m * s)
         have hT := Ey (v := u') (h.t nx (Nat.le_refl _))
         have hr2 : RL w Z (Ei T nx u') ((nx, .row e' s m (l.take (m * s))) :: Ej r i) (fun b => (F3 b + own u' b) + F2 b) := by
          refine ⟨u', fun b => F3 b + own u' b, F2, Bi _ _ _, ?_, RL.keep (fun _ h => h) hT (fun _ _ => rfl) g4, fun b => rfl⟩
          simp only [Ro]
          exact ⟨_, F3, hu', RoL.keep (fun _ h => h) hT _ _ _ (fun _ _ => rfl) b1, fun b => rfl⟩
         have hle : ∀ b, (F3 b + own u' b) + F2 b ≤ F b := fun b => by
          have := g3 b; have := a3 b; have := b2 b
          rw [ho']
          omega
         refine ⟨_, _, nx + 1, Z, Ei T nx u', _, ⟨h.fr, h.z, h.zo, fun b hb => Nat.le_trans (hle b) (h.fo b hb), fun j x hj => hT _ _ (h.names j x hj), fun b => Nat.le_trans (hle b) (h.one b), fun b hb => h.lt b (Nat.lt_of_lt_of_le hb (hle b)), fun b hb => ⟨(h.zlt b hb).1, by have := (h.zlt b hb).2; have := hle b; omega⟩, fun j hj => ?_, fun j x hj => ?_, Nat.le_succ_of_le h.ge, hr2⟩,
          (he.keep (fun _ _ => rfl) (fun _ h => h) hT).put (d := .h nx) (by simp only [Rs]; exact Bi _ _ _) d, ⟨fun _ _ => rfl, fun _ h => h, hT, fun _ _ _ _ _ _ _ => rfl⟩, fun t ht => G7 ht, hK⟩
         ·simp only [Ei]
          rw [if_neg (by omega)]
          exact h.t j (by omega)
         ·simp only [Ei] at hj
          split at hj
          ·cases hj; exact hoc
          ·exact h.cell j x hj
        have hown2 : ∀ {g n' c1 n2 c2 : Nat}, own (.slice (some ⟨g, 0, none⟩) n' c1) = own (.slice (some ⟨g, 0, none⟩) n2 c2) := fun {_ _ _ _ _} => rfl
        rcases AbL hN with ⟨sz, k, hi, he1, rfl, rfl, rfl⟩ | ⟨sz, k, hi, k', mx, he1, rfl, rfl, rfl⟩
        ·cases he1
         obtain ⟨rfl, hlo, hhi⟩ := hc'
         obtain ⟨u2, rfl, hu2⟩ := Ib k2
         simp only [Rs] at hu2
         subst hu2
         rcases Ow.form a1 with ⟨rfl, rfl, rfl⟩ | ⟨g, cap, cur, rfl, hgp, hcp, hs, hl, ht⟩
         ·have e1 : hi = 0 := by omega
          subst e1
          exact ⟨⟨⟨by omega, by omega⟩, by omega, by omega⟩, key _ ⟨by simpa using Ow.nil w e' _, rfl⟩ (by simp only [Rs]; exact ⟨_, k1, .inr ⟨rfl, rfl, rfl⟩⟩)⟩
         ·refine ⟨⟨⟨by omega, by omega⟩, by omega, by omega⟩, ?_⟩
          have e0 : ∀ sz : Nat, (if (cap : Int) = 0 then some (⟨g, 0, none⟩ : Addr) else (some (⟨g, 0, none⟩ : Addr)).map (·.add ((0 : Int).toNat * sz))) = some ⟨g, 0, none⟩ := fun sz => by
           split
           ·rfl
           ·simp [add_lit]
          rw [e0]
          simp only [Int.toNat_zero, Nat.sub_zero, Int.toNat_natCast]
          exact key _ ⟨Ow.trunc a1 (by omega) (by omega) (Nat.le_refl _), rfl⟩ (by simp only [Rs]; exact ⟨_, k1, .inl ⟨_, _, _, _, rfl, rfl, by omega⟩⟩)
        ·cases he1
         obtain ⟨rfl, hlo, hhi, hmx⟩ := hc'
         obtain ⟨u2, u3, rfl, hu2, hu3⟩ := We k2
         simp only [Rs] at hu2 hu3
         subst hu2
         subst hu3
         rcases Ow.form a1 with ⟨rfl, rfl, rfl⟩ | ⟨g, cap, cur, rfl, hgp, hcp, hs, hl, ht⟩
         ·have e1 : hi = 0 := by omega
          have e2 : mx = 0 := by omega
          subst e1
          subst e2
          exact ⟨⟨⟨by omega, by omega⟩, by omega, by omega⟩, key _ ⟨by simpa using Ow.nil w e' _, rfl⟩ (by simp only [Rs]; exact ⟨_, k1, .inr ⟨rfl, rfl, rfl⟩⟩)⟩
         ·refine ⟨⟨⟨by omega, by omega⟩, by omega, by omega⟩, ?_⟩
          have e0 : ∀ sz : Nat, (if mx = 0 then some (⟨g, 0, none⟩ : Addr) else (some (⟨g, 0, none⟩ : Addr)).map (·.add ((0 : Int).toNat * sz))) = some ⟨g, 0, none⟩ := fun sz => by
           split
           ·rfl
           ·simp [add_lit]
          rw [e0]
          simp only [Int.toNat_zero, Nat.sub_zero]
          exact key _ ⟨Ow.trunc a1 (by omega) (by omega) (by omega), rfl⟩ (by simp only [Rs]; exact ⟨_, k1, .inl ⟨_, _, _, _, rfl, rfl, by omega⟩⟩)
       ·rename_i c' off m hN
        obtain ⟨hc', hK⟩ := hcut
        obtain ⟨sz, k, lo, he1, rfl, rfl, rfl, rfl⟩ := AbK hN
        cases he1
        obtain ⟨rfl, hlo, hhi⟩ := hc'
        obtain ⟨u2, rfl, hu2⟩ := Ib k2
        simp only [Rs] at hu2
        subst hu2
        rcases Ow.form a1 with ⟨rfl, rfl, rfl⟩ | ⟨g, cap, cur, rfl, hgp, hcp, hs, hl, ht⟩
        ·have e1 : lo = 0 := by omega
         subst e1
         exact ⟨⟨⟨by omega, by omega⟩, by omega, by omega⟩, Aft.put h he (by simp only [Rs]; exact ⟨_, k1, .inr ⟨rfl, rfl, rfl⟩⟩) hK⟩
        ·refine ⟨⟨⟨by omega, by omega⟩, by omega, by omega⟩, Aft.put h he ?_ hK⟩
         simp only [Rs]
         refine ⟨_, k1, .inl ?_⟩
         rw [Int.toNat_natCast, Int.toNat_natCast]
         by_cases hcl : (cap : Int) = lo
         ·rw [if_pos hcl]
          exact ⟨_, _, _, _, _, rfl, rfl, fun h => by omega⟩
         ·rw [if_neg hcl]
          exact ⟨_, _, _, _, _, rfl, rfl, fun _ => rfl⟩
       ·exact hcut.elim
     ·cases hdr
    ·cases hdr
   ·exact hk.elim
  ·exact hk.elim
end
section
variable {E : En} {w w' : World} {Z : Nat → Prop} {T : Nat → Option Value} {F : Nat → Nat} {r : Ad} {nx : Nat}

theorem F6 {α : Type} {us : List α} {j : Nat} {u : α} (h : us[j]? = some u) : us.set j u = us := by
 apply List.ext_getElem?
 intro i
 rw [List.getElem?_set]
 by_cases e : j = i
 ·subst e
  obtain ⟨hl, _⟩ := List.getElem?_eq_some_iff.1 h
  simp [hl, h]
  exact (List.getElem?_eq_some_iff.1 h).2.symm
 ·simp [e]
theorem OB : ∀ (vs zs : List Value) (off : Nat), off + vs.length ≤ zs.length → EF zs off vs = zs.take off ++ vs ++ zs.drop (off + vs.length)
 | [], zs, off, h => by simp [EF]
 | v :: vs, zs, off, h => by
  simp only [List.length_cons] at h
  rw [EF, OB vs _ _ (by rw [List.length_set]; omega)]
  have h1 : (zs.set off v).take (off + 1) = zs.take off ++ [v] := by
   rw [List.take_succ_eq_append_getElem (by rw [List.length_set]; omega), List.take_set, List.getElem_set_self]
   congr 1
   rw [List.set_eq_of_length_le]
   rw [List.length_take]; omega
  have h2 : (zs.set off v).drop (off + 1 + vs.length) = zs.drop (off + (vs.length + 1)) := by
   rw [List.drop_set, if_pos (by omega)]
   congr 1
   omega
  rw [h1, h2]
  simp
theorem stnN {b o : Nat} {vs : List Value} {cur : Array Value} {e : TypeId} {K : World → Prop} {t : A7 K} (hb : w.heap[b]? = some (.cells cur e (0, 0))) (ho : o + vs.length ≤ cur.size) (h1 : ∀ v ∈ vs, v.oneCell' = true)
  (k : ∀ w', w'.heap[b]? = some (.cells (EF cur.toList o vs).toArray e (0, 0)) → Fr (· = b) w w' → K w') : Stn w ⟨b, o, none⟩ vs K t := by
 have hlt : b < w.heap.size := (Array.getElem?_eq_some_iff.1 hb).1
 refine ⟨_, fun P => run_storeCells_at P b o e vs 0 cur w hb (by omega) h1, k _ ?_ ?_⟩
 ·rw [OB _ _ _ (by simpa using ho)]
  exact setRow_heap w b cur _ e _ hb
 ·refine ⟨rfl, rfl, rfl, ?_, fun c hc hn => ?_⟩
  ·simp [World.setRow]
  ·simp only [World.setRow]
   rw [Array.getElem?_modify]
   rw [if_neg (fun e => hn e.symm)]

inductive O8 : (List D → D) → Prop where
 | box (e : TypeId) : O8 (.box e)
 | row (e s n : Nat) : O8 (.row e s n)
theorem O8.heldOk {c : List D → D} (hc : O8 c) {l : List D} {i : Nat} (hg : AP r i = some (c l)) : heldOk r i := by
 unfold Sl.heldOk
 rw [hg]
 cases hc <;> trivial
theorem O8.open {c : List D → D} (hc : O8 c) {l : List D} {v : Value} {G : Nat → Nat} (h : Ro w Z T (c l) v G) (hl : 0 < l.length) : ∃ b us G' cur e, blk v = some b ∧ v.oneCell' = true ∧ w.heap[b]? = some (.cells cur e (0, 0)) ∧ l.length ≤ cur.size ∧ cur.toList.take l.length = us ∧
  RoL w Z T l us G' ∧ (∀ x, G x = G' x + own v x) ∧
  ∀ (w' : World) (l' : List D) (us' : List Value) (cur' : Array Value) (G'' : Nat → Nat), w'.heap[b]? = some (.cells cur' e (0, 0)) → cur'.size = cur.size → cur'.toList.take l.length = us' → l'.length = l.length →
   RoL w' Z T l' us' G'' → Ro w' Z T (c l') v (fun x => G'' x + own v x) := by
 cases hc with
 | box e =>
  simp only [Ro] at h
  obtain ⟨b, us, G', rfl, h1, h2, h3⟩ := h
  have hln := h2.len
  refine ⟨b, us, G', us.toArray, e, rfl, rfl, h1, by simp [hln], by simp [← hln], h2, h3, fun w' l' us' cur' G'' a1 a2 a3 a4 a6 => ?_⟩
  simp only [Ro]
  refine ⟨b, us', G'', rfl, ?_, a6, fun x => rfl⟩
  rw [a1]
  congr 2
  apply Array.toList_inj.1
  rw [List.toList_toArray, ← a3, List.take_of_length_le]
  rw [Array.length_toList, a2]
  simp [hln]
 | row e s n =>
  simp only [Ro] at h
  obtain ⟨us, G', h1, h2, h3⟩ := h
  have hln := h2.len
  rcases Ow.form h1 with ⟨rfl, hn, hx⟩ | ⟨g, cap, cur, rfl, hg, hcap, hs, hlen, ht⟩
  ·subst hx; simp at hln; omega
  ·have hnl : n * s = l.length := by omega
   have hle : n * s ≤ cap * s := Nat.mul_le_mul_right _ hcap
   refine ⟨g, us, G', cur, e, rfl, rfl, hg, by omega, by rw [← hnl]; exact ht, h2, h3, fun w' l' us' cur' G'' a1 a2 a3 a4 a6 => ?_⟩
   simp only [Ro]
   refine ⟨us', G'', ⟨?_, .inr ⟨g, cap, cur', rfl, a1, hcap, ?_, by omega, by rw [hnl]; exact a3⟩⟩, a6, fun x => rfl⟩
   ·have := a6.len; omega
   ·rcases h1.2 with ⟨e1, _⟩ | ⟨g', cap', cur'', e1, _, _, hm, _⟩
    ·cases e1
    ·cases e1; exact hm

variable {P : Program} {held : List Nat} {e : Env} {de : DEnv} {K : KD}
theorem Xr {α : Type} {cur us : List α} {n j : Nat} {u : α} (h : cur.take n = us) (hu : us[j]? = some u) : cur[j]? = some u := by
 rw [← h, List.getElem?_take] at hu
 split at hu
 ·exact hu
 ·cases hu
theorem Nh {c : List D → D} (hc : O8 c) (hr : RL w Z T r F) {i off : Nat} {l : List D} {x : D} (hg : AP r i = some (c l)) (hx : l[off]? = some x) :
  ∃ v b u Fx, T i = some v ∧ blk v = some b ∧ w.cell? ⟨b, off, none⟩ = some u ∧ Ro w Z T x u Fx ∧
   ∀ d', Rs w Z T d' u → T nx = some u → RL w Z T ((nx, x) :: Dn r i (c (l.set off d'))) F := by
 obtain ⟨v, F1, F2, h1, h2, h3, h4, h5⟩ := hr.get hg
 have hlt := (List.getElem?_eq_some_iff.1 hx).1
 obtain ⟨b, us, G', cur, e, k1, k2, k3, k4, k5, k6, k7, k8⟩ := hc.open h2 (by omega)
 obtain ⟨u, Fa, Fb, g1, g2, g3, g4⟩ := k6.get hx
 refine ⟨v, b, u, Fa, h1, k1, ?_, g2, fun d' hd' ht => ?_⟩
 ·simp only [World.cell?, k3, Option.isSome_none, Bool.false_eq_true, if_false]
  have := Xr k5 g1
  simpa using this
 ·have hro := k8 w (l.set off d') us cur (fun x => 0 + Fb x) k3 rfl k5 (by simp) (by
   have := g4 d' u (fun _ => 0) (Ro.of hd')
   rw [F6 g1] at this
   exact this)
  have := h5 w Z T _ v _ (fun _ _ => rfl) (fun _ h => h) (fun _ _ h => h) h1 hro
  exact ⟨u, Fa, _, ht, g2, this, fun y => by
   have e1 := h3 y
   have e2 := k7 y
   have e3 := g3 y
   show F y = Fa y + (0 + Fb y + own v y + F2 y)
   omega⟩
theorem Ok.name (h : Ok E w Z T F r nx) {u : Value} (h1 : u.oneCell' = true) {r' : Ad} {F' : Nat → Nat} (hF : ∀ b, F' b = F b) (hr : RL w Z (Ei T nx u) r' F') : Ok E w Z (Ei T nx u) F' r' (nx + 1) ∧ Grow r w Z T w Z (Ei T nx u) held := by
 have hT := Ey (v := u) (h.t nx (Nat.le_refl _))
 have hFF : F' = F := funext hF
 subst hFF
 refine ⟨⟨h.fr, h.z, h.zo, h.fo, fun i u hu => hT i u (h.names i u hu), h.one, h.lt, h.zlt, fun i hi => ?_, fun i u' hu => ?_, Nat.le_succ_of_le h.ge, hr⟩, ⟨fun _ _ => rfl, fun _ h => h, hT, fun _ _ _ _ _ _ _ => rfl⟩⟩
 ·unfold Ei
  rw [if_neg (by omega)]
  exact h.t i (by omega)
 ·unfold Ei at hu
  by_cases e : i = nx
  ·rw [if_pos e] at hu; cases hu; exact h1
  ·rw [if_neg e] at hu; exact h.cell i u' hu
theorem Jy {d : D} {u : Value} {G : Nat → Nat} (h : Ro w Z T d u G) (hd : (∃ e l, d = .box e l) ∨ (∃ e s n l, d = .row e s n l) ∨ (∃ ks l, d = .mp ks l)) : u.oneCell' = true := by
 rcases hd with ⟨e, l, rfl⟩ | ⟨e, s, n, l, rfl⟩ | ⟨ks, l, rfl⟩
 ·simp only [Ro] at h
  obtain ⟨b, _, _, rfl, _⟩ := h
  rfl
 ·simp only [Ro] at h
  obtain ⟨us, F', h1, _⟩ := h
  rcases Ow.form h1 with ⟨rfl, _⟩ | ⟨_, _, _, rfl, _⟩ <;> rfl
 ·simp only [Ro] at h
  obtain ⟨b, _, _, rfl, _⟩ := h
  rfl
theorem AcW {c : List D → D} (hc : O8 c) (h : Ok E w Z T F r nx) (he : Di w Z T e de) {i off : Nat} {l : List D} {d : Nat} {x : Operand} {u0 : Value} (hx : ev e x = some u0) (hu0 : Rs w Z T (.hp i off) u0) (hg : AP r i = some (c l))
  {y : D} (hy : l[off]? = some y) (hk : Ed c l i off r nx y (fun v r' nx' => K (BM de d v) r' nx')) : (MOp.ld d x).wp P e w (Aft E r w Z T held e [d] K) := by
 simp only [Rs] at hu0
 obtain ⟨v0, b0, t1, t2, rfl⟩ := hu0
 obtain ⟨v, b, u, Fx, a1, a2, a3, a4, _⟩ := Nh (nx := nx) hc h.roots hg hy
 rw [t1] at a1
 cases a1
 rw [t2] at a2
 cases a2
 simp only [MOp.wp, hx]
 refine ⟨u, a3, ?_⟩
 have hT := Ey (v := u) (h.t nx (Nat.le_refl _))
 have tree : ∀ d', u.oneCell' = true → Rs w Z (Ei T nx u) d' u → K (BM de d d') ((nx, y) :: Dn r i (c (l.set off d'))) (nx + 1) → Aft E r w Z T held e [d] K (GK e d u) w := fun d' h1 hd' hk' => by
  have hr' : RL w Z (Ei T nx u) r F := h.roots.keep (fun _ h => h) hT (fun _ _ => rfl)
  obtain ⟨v', b', u', Fx', c1, c2, c3, c4, c5⟩ := Nh (nx := nx) hc hr' hg hy
  rw [hT i _ t1] at c1
  cases c1
  rw [t2] at c2
  cases c2
  rw [a3] at c3
  cases c3
  obtain ⟨o1, o2⟩ := h.name (held := held) h1 (fun _ => rfl) (c5 d' hd' (Bi _ _ _))
  exact ⟨_, _, _, Z, _, F, o1, (he.keep o2.zs o2.zz o2.tt).put hd' d, o2, fun t ht => G7 ht, hk'⟩
 cases y
 case box e' l' =>
  refine tree (.hp nx 0) (Jy a4 (.inl ⟨_, _, rfl⟩)) ?_ hk
  simp only [Ro] at a4
  obtain ⟨b, us, F', rfl, _⟩ := a4
  simp only [Rs]
  exact ⟨_, b, Bi _ _ _, rfl, rfl⟩
 case row e' s n l' => exact tree (.h nx) (Jy a4 (.inr (.inl ⟨_, _, _, _, rfl⟩))) (by simp only [Rs]; exact Bi _ _ _) hk
 case mp ks l' => exact tree (.h nx) (Jy a4 (.inr (.inr ⟨_, _, rfl⟩))) (by simp only [Rs]; exact Bi _ _ _) hk
 case abs A => exact hk.elim
 case fbx l' => exact hk.elim
 all_goals exact Aft.put h he (a4.rs (by simp only [D.plain])).1 hk
theorem Ac0 {l : List D} {a : Addr} {n : Nat} (h : Fz w Z T l (some a) 0) (hn : n ≤ l.length) : ∃ vs : List Value, vs.length = n ∧ (∀ j u, vs[j]? = some u → w.cell? (a.add j) = some u) ∧ RsL w Z T (l.take n) vs := by
 refine ⟨(List.range n).map fun j => (w.cell? (a.add j)).getD undef, by simp, fun j u hu => ?_, RsL.mk (by simp; omega) fun j d u hd hu => ?_⟩
 ·rw [List.getElem?_map] at hu
  by_cases hj : j < n
  ·rw [List.getElem?_range hj] at hu
   simp only [Option.map_some, Option.some.injEq] at hu
   obtain ⟨a', v, h1, _, h3, _⟩ := h.get (List.getElem?_eq_getElem (show j < l.length by omega))
   cases h1
   rw [Nat.zero_add] at h3
   rw [h3] at hu ⊢
   exact congrArg some hu
  ·rw [List.getElem?_eq_none (by simp; omega)] at hu
   cases hu
 ·rw [List.getElem?_take] at hd
  split at hd
  ·rename_i hj
   obtain ⟨a', v, h1, _, h3, h4⟩ := h.get hd
   cases h1
   rw [Nat.zero_add] at h3
   rw [List.getElem?_map, List.getElem?_range hj] at hu
   simp only [Option.map_some, Option.some.injEq, h3, Option.getD_some] at hu
   subst hu
   exact h4
  ·cases hd
theorem U5 {c : List D → D} (hc : O8 c) (hr : RL w Z T r F) {i off n : Nat} {l : List D} (hg : AP r i = some (c l)) (hn : off + n ≤ l.length) (h0 : 0 < n) (hp : ∀ x ∈ (l.drop off).take n, x.plain) :
  ∃ v b vs, T i = some v ∧ blk v = some b ∧ vs.length = n ∧ (∀ (j : Nat) (u : Value), vs[j]? = some u → w.cell? ⟨b, off + j, none⟩ = some u) ∧ RsL w Z T ((l.drop off).take n) vs := by
 obtain ⟨v, F1, F2, h1, h2, h3, h4, h5⟩ := hr.get hg
 obtain ⟨b, us, G', cur, e, k1, k2, k3, k4, k5, k6, k7, k8⟩ := hc.open h2 (by omega)
 have hl := k6.len
 refine ⟨v, b, (us.drop off).take n, h1, k1, by rw [List.length_take, List.length_drop]; omega, fun j u hu => ?_, RsL.mk (by simp; omega) fun j d u hd hu => ?_⟩
 ·rw [List.getElem?_take] at hu
  split at hu
  ·rw [List.getElem?_drop] at hu
   simp only [World.cell?, k3, Option.isSome_none, Bool.false_eq_true, if_false]
   have := Xr k5 hu
   simpa using this
  ·cases hu
 ·have hpl := hp d (List.mem_of_getElem? hd)
  rw [List.getElem?_take] at hd hu
  split at hd
  ·rename_i hj
   rw [if_pos hj, List.getElem?_drop] at hu
   rw [List.getElem?_drop] at hd
   obtain ⟨u', Fa, Fb, g1, g2, _⟩ := k6.get hd
   rw [hu] at g1
   cases g1
   exact (g2.rs hpl).1
  ·cases hd
theorem Vz : ∀ (cs zero : List D) (off : Nat), (CE zero off cs).length = zero.length
 | [], zero, off => rfl
 | c :: cs, zero, off => by rw [CE, Vz cs]; simp
theorem RoL.over : ∀ {cs : List D} {vs : List Value} {zero : List D} {zs : List Value} {off : Nat} {G : Nat → Nat}, RsL w Z T cs vs → RoL w Z T zero zs G → ∃ G', (∀ b, G' b ≤ G b) ∧ RoL w Z T (CE zero off cs) (EF zs off vs) G'
 | [], vs, zero, zs, off, G, h, k => by
  simp only [RsL] at h
  subst h
  exact ⟨G, fun _ => Nat.le_refl _, k⟩
 | c :: cs, vs, zero, zs, off, G, h, k => by
  simp only [RsL] at h
  obtain ⟨u, us, rfl, h1, h2⟩ := h
  simp only [CE, EF]
  have : ∃ G1, (∀ b, G1 b ≤ G b) ∧ RoL w Z T (zero.set off c) (zs.set off u) G1 := by
   by_cases hl : off < zero.length
   ·obtain ⟨u', Fa, Fb, g1, g2, g3, g4⟩ := k.get (List.getElem?_eq_getElem hl)
    exact ⟨_, fun b => by have := g3 b; show 0 + Fb b ≤ G b; omega, g4 c u (fun _ => 0) (Ro.of h1)⟩
   ·rw [List.set_eq_of_length_le (by omega), List.set_eq_of_length_le (by have := k.len; omega)]
    exact ⟨G, fun _ => Nat.le_refl _, k⟩
  obtain ⟨G1, a1, a2⟩ := this
  obtain ⟨G2, b1, b2⟩ := RoL.over (off := off + 1) h2 a2
  exact ⟨G2, fun b => Nat.le_trans (b1 b) (a1 b), b2⟩
theorem PE : ∀ (vs zs : List Value) (off n : Nat), off + vs.length ≤ n → (EF zs off vs).take n = EF (zs.take n) off vs
 | [], zs, off, n, h => rfl
 | v :: vs, zs, off, n, h => by
  simp only [List.length_cons] at h
  rw [EF, EF, PE vs _ _ _ (by omega), List.take_set]
theorem TQ (hT : ∀ i u, T i = some u → u.oneCell' = true) {d : D} {v : Value} (h : Rs w Z T d v) (hd : BR d) : v.oneCell' = true := by
 cases d <;> simp only [BR] at hd
 case sc u => simp only [Rs] at h; subst h; exact hd
 case sl => simp only [Rs] at h; obtain ⟨_, _, rfl, _⟩ := h; rfl
 case pt => simp only [Rs] at h; obtain ⟨_, rfl, _⟩ := h; rfl
 case fn => simp only [Rs] at h; obtain ⟨_, _, rfl, _⟩ := h; rfl
 case ifc => simp only [Rs] at h; obtain ⟨_, rfl, _⟩ := h; rfl
 case h => simp only [Rs] at h; exact hT _ _ h
 case hp => simp only [Rs] at h; obtain ⟨_, _, _, _, rfl⟩ := h; rfl
theorem NG (hT : ∀ i u, T i = some u → u.oneCell' = true) : ∀ {cs : List D} {vs : List Value}, RsL w Z T cs vs → (∀ c ∈ cs, BR c) → ∀ v ∈ vs, v.oneCell' = true
 | [], vs, h, _ => by simp only [RsL] at h; subst h; simp
 | c :: cs, vs, h, hd => by
  simp only [RsL] at h
  obtain ⟨u, us, rfl, h1, h2⟩ := h
  intro v hv
  simp only [List.mem_cons] at hv
  rcases hv with rfl | hv
  ·exact TQ hT h1 (hd c (by simp))
  ·exact NG hT h2 (fun x hx => hd x (by simp [hx])) v hv
theorem Ab8 {c : List D → D} (hc : O8 c) (h : Ok E w Z T F r nx) (he : Di w Z T e de) {i off : Nat} {l cs : List D} {vs : List Value} {u0 : Value} (hu0 : Rs w Z T (.hp i off) u0) (hg : AP r i = some (c l))
  (hcs : RsL w Z T cs vs) (hl : off + cs.length ≤ l.length) (hpos : 0 < cs.length) (hd : ∀ x ∈ cs, BR x) (hh : i ∉ held) (hk : K de (Dn r i (c (CE l off cs))) nx) :
  ∃ a, u0 = .pointer (some a) ∧ Stn w a vs (fun w' => Aft E r w Z T held e [] K e w') (.mk _) := by
 simp only [Rs] at hu0
 obtain ⟨v0, b, t1, t2, rfl⟩ := hu0
 refine ⟨_, rfl, ?_⟩
 obtain ⟨v, F1, F2, h1, h2, h3, h4, h5⟩ := h.roots.get hg
 rw [t1] at h1
 cases h1
 obtain ⟨b', us, G', cur, e', k1, k2, k3, k4, k5, k6, k7, k8⟩ := hc.open h2 (by omega)
 rw [t2] at k1
 cases k1
 have hvl := hcs.len
 refine stnN k3 (by omega) (NG h.cell hcs hd) fun w' hw' hf' => ?_
 obtain ⟨G'', g1, g2⟩ := RoL.over (off := off) hcs k6
 have hfb : 0 < F1 b := by have := k7 b; have : own v0 b = 1 := (by simp [own, t2]); omega
 have hGb : G' b = 0 := by have := k7 b; have := h3 b; have := h.one b; have : own v0 b = 1 := (by simp [own, t2]); omega
 have hsame : ∀ x, x < w.heap.size → x ≠ b → w'.heap[x]? = w.heap[x]? := fun x hx hn => hf'.same x hx hn
 have hzb : ∀ x, Z x → x < w.heap.size ∧ x ≠ b := fun x hx => by
  have h6 := h.zlt x hx
  refine ⟨h6.1, fun e => ?_⟩
  subst e
  have := h3 x
  omega
 have g3 : RoL w' Z T (CE l off cs) (EF us off vs) G'' := RoL.keep (fun _ h => h) (fun _ _ h => h) _ _ _ (fun x hx => by
  rcases hx with hx | hx
  ·have a1 := g1 x
   have a2 := k7 x
   have a3 := h3 x
   exact hsame x (h.lt x (by omega)) (fun e => by subst e; omega)
  ·exact hsame x (hzb x hx).1 (hzb x hx).2) g2
 have hro := k8 w' _ _ _ G'' hw' (by rw [OB _ _ _ (by simp; omega)]; simp; omega) (by rw [List.toList_toArray, PE _ _ _ _ (by omega), k5]) (Vz _ _ _) g3
 have hrl := h5 w' Z T _ v0 _ (fun x hx => by
  rcases hx with hx | hx
  ·have a3 := h3 x
   refine hsame x (h.lt x (by omega)) (fun e => ?_)
   subst e
   have := h.one x
   omega
  ·exact hsame x (hzb x hx).1 (hzb x hx).2) (fun _ h => h) (fun _ _ h => h) t1 hro
 obtain ⟨o1, o2⟩ := h.write (held := held) t1 t2 h3 (fun x => by have := g1 x; have := k7 x; show G'' x + own v0 x ≤ F1 x; omega) hfb hf' hrl hh h4
 exact ⟨_, _, _, _, _, _, o1, he.keep o2.zs o2.zz o2.tt, o2, fun _ _ => rfl, hk⟩
theorem AbC (l : List D) (off : Nat) (c : D) : CE l off [c] = l.set off c := rfl
end
section
variable {E : En} {w w' : World} {Z : Nat → Prop} {T : Nat → Option Value} {F : Nat → Nat} {r : Ad} {nx : Nat}
variable {P : Program} {held : List Nat} {e : Env} {de : DEnv} {K : KD}

theorem BP {d : D} {v : Value} (h : Rs w Z T d v) {g : Bool} {d' : D} (hu : Bq d = (g, d')) (hg : g = true) : Rs w Z T d' v := by
 have h1 : (Bq d).1 = g := by rw [hu]
 have h2 : (Bq d).2 = d' := by rw [hu]
 rw [← h2]
 exact JF h (by rw [h1]; exact hg)
theorem ld_pt (h : Ok E w Z T F r nx) (he : Di w Z T e de) {l : List D} {d : Nat} {x : Operand} {u0 : Value} (hx : ev e x = some u0) (hu0 : Rs w Z T (.pt l) u0) {y z : D} (hy : l[0]? = some y)
  (hz : ∀ u, Rs w Z T y u → Rs w Z T z u) (hk : K (BM de d z) r nx) : (MOp.ld d x).wp P e w (Aft E r w Z T held e [d] K) := by
 simp only [Rs] at hu0
 obtain ⟨a, rfl, hf⟩ := hu0
 obtain ⟨a', u, h1, _, h3, h4⟩ := hf.get hy
 cases h1
 simp only [MOp.wp, hx]
 refine ⟨u, by simpa [Addr.add] using h3, Aft.put h he (hz u h4) hk⟩
theorem QM (h : Ok E w Z T F r nx) (he : Di w Z T e de) {cs : Array Value} {t : TypeId} {ds : List D} {d : Nat} {v : Value} {dd x : D} (hcs : RsL w Z T ds cs.toList) (hv : blk v = some w.heap.size) (h1 : v.oneCell' = true)
  (hd : ∀ w', w'.heap[w.heap.size]? = some (.cells cs t (0, 0)) → RoL w' Z (Ei T nx v) ds cs.toList (fun _ => 0) → Ro w' Z (Ei T nx v) dd v (own v))
  (hx : Rs (w.alloc (.cells cs t)) Z (Ei T nx v) x v) (hk : K (BM de d x) ((nx, dd) :: r) (nx + 1)) : Aft E r w Z T held e [d] K (GK e d v) (w.alloc (.cells cs t)) := by
 have hT := Ey (v := v) (h.t nx (Nat.le_refl _))
 have hsame : ∀ b, Z b → (w.alloc (.cells cs t)).heap[b]? = w.heap[b]? := fun b hb => (Fr.alloc w (.cells cs t)).same b (h.zlt b hb).1 fun h => h
 have hds := RsL.keep hsame (fun _ h => h) hT _ _ hcs
 obtain ⟨o1, o2⟩ := h.alloc (held := held) (o := .cells cs t) (by simp) (Fr.alloc w _) hv h1 (hd _ (heap_alloc_new w _) (RoL.of hds))
 exact ⟨_, _, _, _, _, _, o1, (he.keep o2.zs o2.zz o2.tt).put hx d, o2, fun t ht => G7 ht, hk⟩
theorem AbN (h : Ok E w Z T F r nx) (he : Di w Z T e de) {cs : Array Value} {t s n : TypeId} {ds : List D} {d : Nat} (hcs : RsL w Z T ds cs.toList) (hl : ds.length = n * s) (hn : n ≤ 9223372036854775807)
  (hk : K (BM de d (.h nx)) ((nx, .row t s n ds) :: r) (nx + 1)) : Aft E r w Z T held e [d] K (GK e d (.slice (some ⟨w.heap.size, 0, none⟩) n n)) (w.alloc (.cells cs t)) := by
 have hln := hcs.len
 simp only [Array.length_toList] at hln
 refine QM h he hcs rfl rfl (fun w' hw hro => ?_) ?_ hk
 ·simp only [Ro]
  exact ⟨_, _, Ow.lit hw (by omega) hn, hro, fun b => by simp⟩
 ·simp only [Rs]
  exact Bi _ _ _
theorem AcV {l : List D} {n : Nat} {xs : List UInt8} {A : Option Addr} {K' : ByteArray → Prop} {t} (hxs : xs.length = n) (hl : l.take n = xs.map bD)
  (hc : ∀ (j : Nat) (d : D), (l.take n)[j]? = some d → ∃ a u, A = some a ∧ w.cell? (a.add j) = some u ∧ Rs w Z T d u) (hk : K' ⟨xs.toArray⟩) : LdB w A n K' t := by
 refine ⟨xs, hxs, fun j b hj => ?_, hk⟩
 obtain ⟨a, u, h1, h2, h3⟩ := hc j (bD b) (by rw [hl, List.getElem?_map, hj]; rfl)
 simp only [bD, Rs, U8] at h3
 subst h3
 exact ⟨a, h1, h2⟩
theorem Yb {g : Nat} {want b : Bool} {d : Option Nat} {o : MOp} {e : Env} {de : DEnv} {Q : Env → World → Prop} (he : Di w Z T e de) (hb : dgv (AZ de g) want = some b)
  (ht : (b == want) = true → o.wp P e w Q) (hf : (b == want) = false → match d with | some d => Q (GK e d undef) w | none => Q e w) : (MOp.gd g want d o).wp P e w Q := by
 obtain ⟨dd, h1, h2⟩ := Adc (w := w) (Z := Z) (T := T) hb
 obtain ⟨v, hv, hr⟩ := he g _ h1
 rcases h2 v hr with rfl | ⟨rfl, hbw⟩
 ·simp only [MOp.wp, hv]; exact ⟨ht, hf⟩
 ·simp only [MOp.wp, hv, undef]; exact hf hbw
theorem Abz {g : Nat} {want b : Bool} {d : Nat} {o : MOp} {e : Env} {de : DEnv} {Q : Env → World → Prop} (he : Di w Z T e de) (hb : dgv (AZ de g) want = some b) (hw : (MOp.gd g want (some d) o).wp P e w Q) :
  (((b == want) = true → o.wp P e w Q) ∨ (b == want) = false) ∧ ((b == want) = false → Q (GK e d undef) w) ∧ (AU e g = some (.bool b) ∨ (AU e g = some (.tuple #[]) ∧ (b == want) = false)) := by
 obtain ⟨dd, h1, h2⟩ := Adc (w := w) (Z := Z) (T := T) hb
 obtain ⟨v, hv, hr⟩ := he g _ h1
 rcases h2 v hr with rfl | ⟨rfl, hbw⟩
 ·simp only [MOp.wp, hv] at hw; exact ⟨.inl hw.1, hw.2, .inl hv⟩
 ·simp only [MOp.wp, hv, undef] at hw; exact ⟨.inr hbw, fun _ => hw, .inr ⟨hv, hbw⟩⟩
theorem MOp.dwp_sound : ∀ {m : MOp} {K : KD} (h : Ok E w Z T F r nx) (he : Di w Z T e de), m.dwp P held de r nx K → m.wp P e w (Aft E r w Z T held e (FQ m) K)
 | .p d f xs, K, h, he, hk => by
  simp only [MOp.dwp] at hk
  split at hk
  ·rename_i ds hds
   exact Ac9 h he hds hk
  ·exact hk.elim
 | .ld d x, K, h, he, hk => by
  simp only [MOp.dwp] at hk
  split at hk
  ·rename_i dx hdx
   obtain ⟨v, hv, hrs⟩ := D6 h.roots he hdx
   split at hk
   ·rename_i g l hu
    obtain ⟨hg, y, hy, hk⟩ := hk
    exact ld_pt h he hv (BP hrs hu hg) hy (fun _ h => h) hk
   ·rename_i g i off hu
    split at hk
    ·rename_i e' l hr
     obtain ⟨hg, y, hy, hk⟩ := hk
     exact AcW (.box e') h he hv (BP hrs hu hg) hr hy hk
    ·rename_i e' s n l hr
     obtain ⟨hg, y, hy, hk⟩ := hk
     exact AcW (.row e' s n) h he hv (BP hrs hu hg) hr hy hk
    ·exact hk.elim
   ·exact hk.elim
  ·exact hk.elim
 | .ldn d n x, K, h, he, hk => by
  simp only [MOp.dwp] at hk
  split at hk
  ·rename_i dx hdx
   obtain ⟨v, hv, hrs⟩ := D6 h.roots he hdx
   split at hk
   ·rename_i g l hu
    obtain ⟨⟨hg, hn⟩, hk⟩ := hk
    have h1 := BP hrs hu hg
    simp only [Rs] at h1
    obtain ⟨a, rfl, hf⟩ := h1
    obtain ⟨vs, k1, k2, k3⟩ := Ac0 hf hn
    simp only [MOp.wp, hv]
    exact ⟨vs, k1, k2, Aft.put h he (by simp only [Rs]; exact ⟨_, rfl, k3⟩) hk⟩
   ·rename_i g i off hu
    have key : ∀ (c : List D → D) (l : List D), O8 c → AP r i = some (c l) → g = true ∧ off + n ≤ l.length ∧ (∀ c ∈ (l.drop off).take n, c.plain) → K (BM de d (.agg ((l.drop off).take n))) r nx → (MOp.ldn d n x).wp P e w (Aft E r w Z T held e [d] K) := by
     intro c l hc hr ⟨hg, hn, hp⟩ hk
     have h1 := BP hrs hu hg
     simp only [Rs] at h1
     obtain ⟨v0, b0, t1, t2, rfl⟩ := h1
     simp only [MOp.wp, hv]
     by_cases h0 : 0 < n
     ·obtain ⟨v', b, vs, k0, k1, k2, k3, k4⟩ := U5 hc h.roots hr hn h0 hp
      rw [t1] at k0
      cases k0
      rw [t2] at k1
      cases k1
      refine ⟨vs, k2, fun j u hj => ?_, Aft.put h he (by simp only [Rs]; exact ⟨_, rfl, k4⟩) hk⟩
      rw [add_lit]
      exact k3 j u hj
     ·have : n = 0 := by omega
      subst this
      exact ⟨[], rfl, fun j u hj => by simp at hj, Aft.put h he (by simp only [Rs]; exact ⟨[], rfl, by simp only [List.take_zero, RsL]⟩) hk⟩
    split at hk
    ·rename_i e' l hr
     exact key _ l (.box e') hr hk.1 hk.2
    ·rename_i e' s m l hr
     exact key _ l (.row e' s m) hr hk.1 hk.2
    ·exact hk.elim
   ·exact hk.elim
  ·exact hk.elim
 | .bs d x, K, h, he, hk => by
  simp only [MOp.dwp] at hk
  split at hk
  ·rename_i dx hdx
   obtain ⟨v, hv, hrs⟩ := D6 h.roots he hdx
   split at hk
   ·rename_i g n l hu
    obtain ⟨hg, xs, hxs, hl, hk⟩ := hk
    have h1 := BP hrs hu hg
    simp only [Rs] at h1
    obtain ⟨A, c, rfl, hn, h0, hf⟩ := h1
    simp only [MOp.wp, hv]
    refine AcV (Z := Z) (T := T) hxs hl (fun j d hd => ?_) (Aft.put h he (by simp only [Rs]) hk)
    obtain ⟨a, u, a1, a2, a3, a4⟩ := hf.take.get hd
    exact ⟨a, u, a1, by simpa using a3, a4⟩
   ·rename_i g n c hu
    obtain ⟨⟨hg, hn⟩, hk⟩ := hk
    have h1 := BP hrs hu hg
    simp only [Rs] at h1
    subst h1
    subst hn
    simp only [MOp.wp, hv]
    exact ⟨[], rfl, fun j b hj => by simp at hj, Aft.put h he (by simp only [Rs]) hk⟩
   ·rename_i g i hu
    split at hk
    ·rename_i e' s n l hr
     obtain ⟨hg, xs, hxs, hl, hk⟩ := hk
     have h1 := BP hrs hu hg
     simp only [Rs] at h1
     obtain ⟨v', F1, F2, g1, g2, _⟩ := h.roots.get hr
     rw [h1] at g1
     cases g1
     simp only [Ro] at g2
     obtain ⟨us, G', a1, a2, a3⟩ := g2
     have hsl : ∃ A c, v = .slice A n c ∧ ∀ (j : Nat) (u : Value), us[j]? = some u → ∃ a, A = some a ∧ w.cell? (a.add j) = some u := by
      rcases Ow.form a1 with ⟨rfl, hn, hx⟩ | ⟨gg, cap, cur, rfl, hgp, hc, hs, hlen, ht⟩
      ·subst hn; subst hx
       exact ⟨_, _, rfl, fun j u hj => by simp at hj⟩
      ·exact ⟨_, _, rfl, fun j u hj => ⟨_, rfl, Ow.cells a1 (g := gg) rfl j u hj⟩⟩
     obtain ⟨A, c, rfl, hcell⟩ := hsl
     simp only [MOp.wp, hv]
     refine AcV (Z := Z) (T := T) hxs hl (fun j d hd => ?_) (Aft.put h he (by simp only [Rs]) hk)
     have hd' := hd
     rw [List.getElem?_take] at hd
     split at hd
     ·obtain ⟨u, Fa, Fb, b1, b2, _⟩ := a2.get hd
      obtain ⟨a, c1, c2⟩ := hcell j u b1
      refine ⟨a, u, c1, c2, (b2.rs ?_).1⟩
      rw [hl, List.getElem?_map] at hd'
      cases hq : xs[j]? with
      | none => rw [hq] at hd'; cases hd'
      | some q => rw [hq] at hd'; simp only [Option.map_some, Option.some.injEq] at hd'; subst hd'; simp only [bD, D.plain]
     ·cases hd
    ·exact hk.elim
   ·exact hk.elim
  ·exact hk.elim
 | .st n agg x v, K, h, he, hk => by
  simp only [MOp.dwp] at hk
  split at hk
  ·rename_i dx dv' hdx hdv
   obtain ⟨vx, hvx, hrx⟩ := D6 h.roots he hdx
   obtain ⟨vv, hvv, hrv⟩ := D6 h.roots he hdv
   split at hk
   ·rename_i g i off hu
    split at hk
    ·rename_i agg' pr g' v' hu'
     have key : ∀ (c : List D → D) (l : List D), O8 c → AP r i = some (c l) → (g = true ∧ g' = true) ∧ (off < l.length ∧ BR v') ∧ i ∉ held → K de (Dn r i (c (l.set off v'))) nx → (MOp.st n false x v).wp P e w (Aft E r w Z T held e [] K) := by
      intro c l hc hr ⟨⟨hg, hg'⟩, ⟨hl, h1⟩, hh⟩ hk
      have hx1 := BP hrx hu hg
      have hv1 := BP hrv hu' hg'
      obtain ⟨a, rfl, hst⟩ := Ab8 (e := e) (de := de) (K := K) (cs := [v']) (vs := [vv]) hc h he hx1 hr (by simp only [RsL]; exact ⟨vv, [], rfl, hv1, rfl⟩) (by simp; omega) (by simp) (by simpa using h1) hh (by rw [AbC]; exact hk)
      simp only [MOp.wp, hvx, hvv]
      exact ⟨TQ h.cell hv1 h1, hst⟩
     split at hk
     ·rename_i e' l hr
      exact key _ l (.box e') hr hk.1 hk.2
     ·rename_i e' s m l hr
      exact key _ l (.row e' s m) hr hk.1 hk.2
     ·exact hk.elim
    ·rename_i agg' pr g' cs hu'
     have key : ∀ (c : List D → D) (l : List D), O8 c → AP r i = some (c l) → ((g = true ∧ g' = true) ∧ cs.length = n ∧ off + n ≤ l.length) ∧ (∀ c ∈ cs, BR c) ∧ i ∉ held → K de (Dn r i (c (CE l off cs))) nx → (MOp.st n true x v).wp P e w (Aft E r w Z T held e [] K) := by
      intro c l hc hr ⟨⟨⟨hg, hg'⟩, hn, hl⟩, h1, hh⟩ hk
      have hx1 := BP hrx hu hg
      have hv1 := BP hrv hu' hg'
      simp only [Rs] at hv1
      obtain ⟨us, rfl, hus⟩ := hv1
      have hlen := hus.len
      simp only [MOp.wp, hvx, hvv]
      by_cases h0 : 0 < n
      ·obtain ⟨a, rfl, hst⟩ := Ab8 (e := e) (de := de) (K := K) hc h he hx1 hr hus (by omega) (by omega) h1 hh hk
       exact ⟨by simpa [hlen] using hn, hst⟩
      ·have hcs : cs = [] := List.eq_nil_of_length_eq_zero (by omega)
       subst hcs
       simp only [RsL] at hus
       subst hus
       simp only [Rs] at hx1
       obtain ⟨v0, b0, t1, t2, rfl⟩ := hx1
       refine ⟨by simpa using hn, w, fun P => rfl, ?_⟩
       obtain ⟨v1, F1, F2, g1, g2, g3, g4, g5⟩ := h.roots.get hr
       have hrl := g5 w Z T _ v1 F1 (fun _ _ => rfl) (fun _ h => h) (fun _ _ h => h) g1 g2
       have hFe : (fun b => F1 b + F2 b) = F := funext fun b => (g3 b).symm
       rw [hFe] at hrl
       exact ⟨_, _, nx, Z, T, F, ⟨h.fr, h.z, h.zo, h.fo, h.names, h.one, h.lt, h.zlt, h.t, h.cell, h.ge, hrl⟩, he, Grow.refl _ _ _ _ _, fun _ _ => rfl, hk⟩
     split at hk
     ·rename_i e' l hr
      exact key _ l (.box e') hr hk.1 hk.2
     ·rename_i e' s m l hr
      exact key _ l (.row e' s m) hr hk.1 hk.2
     ·exact hk.elim
    ·exact hk.elim
   ·exact hk.elim
  ·exact hk.elim
 | .new d t zero, K, h, he, hk => by
  simp only [MOp.dwp] at hk
  simp only [MOp.wp, New]
  refine QM h he (ds := zero.map .sc) (dd := .box t (zero.map .sc)) (x := .hp nx 0) (by simpa using RsL.sc zero) rfl rfl (fun w' hw hro => ?_) ?_ hk
  ·simp only [Ro]
   exact ⟨_, zero, _, rfl, by simpa using hw, by simpa using hro, fun b => by simp⟩
  ·simp only [Rs]
   exact ⟨_, _, Bi _ _ _, rfl, rfl⟩
 | .box d t v, K, h, he, hk => by
  simp only [MOp.dwp] at hk
  split at hk
  ·rename_i dv' hdv
   obtain ⟨vv, hvv, hrv⟩ := D6 h.roots he hdv
   split at hk
   ·rename_i cs hcs
    obtain ⟨hg, hk⟩ := hk
    have hv1 := JF hrv hg
    have hc := VC h.cell hv1 hcs
    simp only [MOp.wp, hvv, New]
    refine QM h he (ds := cs) (dd := .box t cs) (x := .hp nx 0) hc rfl rfl (fun w' hw hro => ?_) ?_ hk
    ·simp only [Ro]
     exact ⟨_, vv.cells.toList, _, rfl, by simpa using hw, hro, fun b => by simp⟩
    ·simp only [Rs]
     exact ⟨_, _, Bi _ _ _, rfl, rfl⟩
   ·exact hk.elim
  ·exact hk.elim
 | .bsl d t len zero places vs, K, h, he, hk => by
  simp only [MOp.dwp] at hk
  split at hk
  ·rename_i ds hds
   obtain ⟨us, hus, hrs⟩ := OO h.roots he hds
   split at hk
   ·rename_i cs hcs
    obtain ⟨⟨h1, h2, h3⟩, hk⟩ := hk
    obtain ⟨os, ho, hor⟩ := QF h.cell hcs (SN hrs h1) (RsL.sc zero)
    simp only [MOp.wp, hus, ho, New]
    refine AbN h he (by simpa using hor) (?_ : cs.length = len * (if len = 0 then Bz t else cs.length / len)) h3 hk
    by_cases h0 : len = 0
    ·subst h0; simpa using h2
    ·rw [if_neg h0] at h2 ⊢; exact h2
   ·exact hk.elim
  ·exact hk.elim
 | .app d ats ty s x, K, h, he, hk => by
  simp only [MOp.dwp] at hk
  split at hk
  ·rename_i ds dx hds hdx
   obtain ⟨vs, hvs, hrs⟩ := D6 h.roots he hds
   obtain ⟨vx, hvx, hrx⟩ := D6 h.roots he hdx
   obtain ⟨⟨hg, hg'⟩, hk⟩ := hk
   obtain ⟨v', w', hrun, hgot⟩ := hk E w Z T F vs vx h (JF hrs hg) (JF hrx hg')
   simp only [MOp.wp, hvs, hvx]
   exact ⟨v', w', hrun, Got.aft (dst := some d) hgot he⟩
  ·exact hk.elim
 | .call d f xs, K, h, he, hk => by
  simp only [MOp.dwp] at hk
  split at hk
  ·rename_i ds hds
   obtain ⟨us, hus, hrs⟩ := OO h.roots he hds
   obtain ⟨h1, hk⟩ := hk
   simp only [MOp.wp, hus]
   exact (hk E w Z T F us h (SN hrs h1)).mono fun en w' ⟨v, hv, hgot⟩ => ⟨v, hv, hgot.aft he⟩
  ·exact hk.elim
 | .callv d f xs, K, h, he, hk => by
  simp only [MOp.dwp] at hk
  split at hk
  ·rename_i df ds hdf hds
   obtain ⟨vf, hvf, hrf⟩ := D6 h.roots he hdf
   obtain ⟨us, hus, hrs⟩ := OO h.roots he hds
   split at hk
   ·rename_i g f' a b hu
    obtain ⟨⟨hg, h1, h2⟩, hk⟩ := hk
    have hf1 := BP hrf hu hg
    simp only [Rs] at hf1
    obtain ⟨as, bs, rfl, ha, hb⟩ := hf1
    simp only [MOp.wp, hvf, hus]
    refine ⟨h2, ?_⟩
    have := hk E w Z T F _ h ((ha.append (SN hrs h1)).append hb)
    rw [Sz, Sz]
    exact this.mono fun en w' ⟨v, hv, hgot⟩ => ⟨v, hv, hgot.aft he⟩
   ·exact hk.elim
  ·exact hk.elim
 | .gen d o, K, h, he, hk => by
  simp only [MOp.dwp] at hk
  obtain ⟨h1, h2⟩ := hk E w Z T F e h he
  simp only [MOp.wp, h1, if_true]
  rcases h2 with ⟨v, w', hr, hg⟩ | ⟨f, args, w', hr, hc⟩
  ·exact .inl ⟨v, w', hr, hg.aft he⟩
  ·exact .inr ⟨f, args, w', hr, hc.mono fun en w'' ⟨v, hv, hg⟩ => ⟨v, hv, hg.aft he⟩⟩
 | .genu o, K, h, he, hk => by
  simp only [MOp.dwp] at hk
  obtain ⟨h1, w', hr, r', nx', Z', T', F', o1, o2, o3⟩ := hk E w Z T F e h he
  simp only [MOp.wp, h1, if_true]
  exact ⟨w', hr, _, _, _, _, _, _, o1, he.keep o2.zs o2.zz o2.tt, o2, fun _ _ => rfl, o3⟩
 | .gd g want d o, K, h, he, hk => by
  unfold MOp.dwp at hk
  split at hk
  ·rename_i b hb
   have fork : Br (b == want) (o.dwp P held de r nx K) (K (Ee de d) r nx) (.mk _) (.mk _) → (MOp.gd g want d o).wp P e w (Aft E r w Z T held e (d.toList ++ FQ o) K) := by
    rintro ⟨h1, h2⟩
    refine Yb he hb (fun ht => ?_) (fun hf => ?_)
    ·exact MOp.wp_mono (fun e' w' ⟨de', r', nx', Z', T', F', o1, o2, o3, o4, o5⟩ => ⟨de', r', nx', Z', T', F', o1, o2, o3, fun t ht => o4 t fun h => ht (by simp [h]), o5⟩) (MOp.dwp_sound h he (h1 ht))
    ·cases d with
     | some d => exact ⟨_, r, nx, Z, T, F, h, he.dead d, Grow.refl _ _ _ _ _, fun t ht => G7 (fun h => ht (by simp at h; simp [h])), h2 hf⟩
     | none => exact ⟨_, r, nx, Z, T, F, h, he, Grow.refl _ _ _ _ _, fun t ht => rfl, h2 hf⟩
   have put : ∀ (d : Nat) (l : List Nat) (x : D) (v : Value), Rs w Z T x v → K (BM de d x) r nx → Aft E r w Z T held e (d :: l) K (GK e d v) w := fun d l x v hx hk =>
    ⟨_, r, nx, Z, T, F, h, he.put hx d, Grow.refl _ _ _ _ _, fun t ht => G7 (fun h => ht (by simp at h; simp [h])), hk⟩
   split at hk
   ·rename_i d' f xs d
    split at hk
    ·rename_i ds hds
     split at hk
     ·rename_i c v hdev
      obtain ⟨⟨hd, hc⟩, hk⟩ := hk
      subst hd
      obtain ⟨us, hus, hrs⟩ := OO h.roots he hds
      refine Yb he hb (fun ht => ?_) (fun hf => ?_)
      ·obtain ⟨h1, h2⟩ := hc ht
       obtain ⟨c', u, a1, a2, a3⟩ := ZP h.cell hdev (SL hrs h1) h2
       simp only [MOp.wp, hus, a1]
       exact ⟨a2, put d _ _ u (by simp only [Rs]; exact ⟨fun _ => a3, fun h => (by rw [ht] at h; cases h)⟩) hk⟩
      ·exact put d _ _ undef (by simp only [Rs]; exact ⟨fun h => (by rw [hf] at h; cases h), fun _ => trivial⟩) hk
     ·exact fork hk
    ·exact hk.elim
   ·rename_i d' x d
    split at hk
    ·rename_i dx hdx
     obtain ⟨u0, hv, hrs⟩ := D6 h.roots he hdx
     split at hk
     ·rename_i g' l hu
      obtain ⟨⟨hd, hc⟩, y, hy, hk⟩ := hk
      subst hd
      refine Yb he hb (fun ht => ?_) (fun hf => ?_)
      ·have h1 := BP hrs hu (hc ht)
       simp only [Rs] at h1
       obtain ⟨a, rfl, hf⟩ := h1
       obtain ⟨a', u, k1, _, k3, k4⟩ := hf.get (hy ht)
       cases k1
       simp only [MOp.wp, hv]
       exact ⟨u, by simpa [Addr.add] using k3, put d _ _ u (by simp only [Rs]; exact ⟨fun _ => k4, fun h => (by rw [ht] at h; cases h)⟩) hk⟩
      ·exact put d _ _ undef (by simp only [Rs]; exact ⟨fun h => (by rw [hf] at h; cases h), fun _ => trivial⟩) hk
     ·exact fork hk
    ·exact hk.elim
   ·rename_i d' f xs d
    split at hk
    ·rename_i ds hds
     obtain ⟨hd, h1, h2⟩ := hk
     subst hd
     obtain ⟨us, hus, hrs⟩ := OO h.roots he hds
     refine Yb he hb (fun ht => ?_) (fun hf => ?_)
     ·obtain ⟨k1, k2⟩ := h1 ht
      simp only [MOp.wp, hus]
      refine (k2 E w Z T F us h (SN hrs k1)).mono fun en w' ⟨v, hv, x, r', nx', Z', T', F', o1, o2, o3, o4⟩ => ⟨v, hv, ?_⟩
      exact ⟨_, r', nx', Z', T', F', o1, (he.keep o2.zs o2.zz o2.tt).put (d := .opt (b == want) x) (by simp only [Rs]; exact ⟨fun _ => o3, fun h => (by rw [ht] at h; cases h)⟩) d, o2, fun t ht => G7 (fun h => ht (by simp at h; simp [h, FQ])), o4⟩
     ·obtain ⟨x, hk⟩ := h2 hf
      exact put d _ _ undef (by simp only [Rs]; exact ⟨fun h => (by rw [hf] at h; cases h), fun _ => trivial⟩) hk
    ·exact hk.elim
   ·exact fork hk
  ·exact hk.elim
end
section
variable {E : En} {w w' : World} {Z Z' : Nat → Prop} {T T' : Nat → Option Value} {F : Nat → Nat} {r : Ad} {nx : Nat}
variable {P : Program} {held : List Nat} {e e' : Env} {de : DEnv} {K : KD}

def Us (Z : Nat → Prop) (T : Nat → Option Value) (held : List Nat) (b : Nat) : Prop := Z b ∨ ∃ i ∈ held, ∃ u, T i = some u ∧ blk u = some b
def EE (w : World) (Z : Nat → Prop) (T : Nat → Option Value) (held : List Nat) (e : Env) : MOp → Prop
 | .ld d x => ∃ a v, ev e x = some (.pointer (some a)) ∧ AU e d = some v ∧ w.cell? a = some v ∧ Us Z T held a.block
 | .ldn d _ x => ∃ a cs, ev e x = some (.pointer (some a)) ∧ AU e d = some (.agg cs) ∧ ∀ j u, cs[j]? = some u → w.cell? (a.add j) = some u ∧ Us Z T held a.block
 | .bs d x => ∃ a n c s, ev e x = some (.slice a n c) ∧ AU e d = some (.string s) ∧ ∀ j b, s.data[j]? = some b → ∃ ad, a = some ad ∧ w.cell? (ad.add j) = some (.int .u8 b.toNat) ∧ Us Z T held ad.block
 | .gd g want _ o => (∃ b, AU e g = some (.bool b) ∧ ((b == want) = true → EE w Z T held e o)) ∨ ∃ cs, AU e g = some (.tuple cs)
 | _ => True
theorem EE.still : ∀ {m : MOp}, EE w Z T held e m → m.still e w
 | .ld d x, h => by
  obtain ⟨a, v, h1, h2, h3, _⟩ := h
  simp only [MOp.still, h1, h2]; exact h3
 | .ldn d _ x, h => by
  obtain ⟨a, cs, h1, h2, h3⟩ := h
  simp only [MOp.still, h1, h2]; exact fun j u hj => (h3 j u hj).1
 | .bs d x, h => by
  obtain ⟨a, n, c, s, h1, h2, h3⟩ := h
  simp only [MOp.still, h1, h2]
  exact fun j b hj => by obtain ⟨ad, k1, k2, _⟩ := h3 j b hj; exact ⟨ad, k1, k2⟩
 | .gd g want _ o, h => by
  rcases h with ⟨b, h1, h2⟩ | ⟨cs, h1⟩
  ·simp only [MOp.still, h1]
   exact fun ht => EE.still (h2 ht)
  ·simp only [MOp.still, h1]
 | .p _ _ _, _ | .st _ _ _ _, _ | .new _ _ _, _ | .box _ _ _, _ | .bsl _ _ _ _ _ _, _ | .app _ _ _ _ _, _ | .call _ _ _, _ | .callv _ _ _, _ | .gen _ _, _ | .genu _, _ => by simp only [MOp.still]
theorem Us.same {b : Nat} (h : Us Z T held b) (hh : BA r held) (g : Grow r w Z T w' Z' T' held) : w'.heap[b]? = w.heap[b]? := by
 rcases h with h | ⟨i, hi, u, h1, h2⟩
 ·exact g.zs b h
 ·refine g.hd i hi ?_ u b h1 h2
  clear g h1 h2
  induction held with
  | nil => simp at hi
  | cons j l ih =>
   simp only [BA] at hh
   simp only [List.mem_cons] at hi
   rcases hi with rfl | hi
   ·exact hh.1
   ·exact ih hh.2 hi
theorem Us.mono {b : Nat} {held' : List Nat} (h : Us Z T held b) (hz : ∀ b, Z b → Z' b) (ht : ∀ i u, T i = some u → T' i = some u) (hs : ∀ i ∈ held, i ∈ held') : Us Z' T' held' b := by
 rcases h with h | ⟨i, hi, u, h1, h2⟩
 ·exact .inl (hz b h)
 ·exact .inr ⟨i, hs i hi, u, ht i u h1, h2⟩
theorem WI {x : Operand} (h : ∀ t, x = .tmp t → AU e' t = AU e t) : ev e' x = ev e x := by
 cases x with
 | tmp t => exact h t rfl
 | _ => rfl
theorem EE.keep {held' : List Nat} (hh : BA r held) (g : Grow r w Z T w' Z' T' held) (hs : ∀ i ∈ held, i ∈ held') : ∀ {m : MOp}, (∀ t ∈ Bg m, AU e' t = AU e t) → EE w Z T held e m → EE w' Z' T' held' e' m
 | .ld d x, he, h => by
  obtain ⟨a, v, h1, h2, h3, h4⟩ := h
  refine ⟨a, v, ?_, ?_, ?_, h4.mono g.zz g.tt hs⟩
  ·rw [WI (e := e) fun t ht => by subst ht; exact he t (by simp [Bg])]; exact h1
  ·rw [he d (by cases x <;> simp [Bg])]; exact h2
  ·rw [World.cell?_of_block (w := w) (h4.same hh g)]; exact h3
 | .ldn d n x, he, h => by
  obtain ⟨a, cs, h1, h2, h3⟩ := h
  refine ⟨a, cs, ?_, ?_, fun j u hj => ?_⟩
  ·rw [WI (e := e) fun t ht => by subst ht; exact he t (by simp [Bg])]; exact h1
  ·rw [he d (by cases x <;> simp [Bg])]; exact h2
  ·obtain ⟨k1, k2⟩ := h3 j u hj
   refine ⟨?_, k2.mono g.zz g.tt hs⟩
   rw [World.cell?_of_block (w := w) (by rw [add_block]; exact k2.same hh g)]; exact k1
 | .bs d x, he, h => by
  obtain ⟨a, n, c, s, h1, h2, h3⟩ := h
  refine ⟨a, n, c, s, ?_, ?_, fun j b hj => ?_⟩
  ·rw [WI (e := e) fun t ht => by subst ht; exact he t (by simp [Bg])]; exact h1
  ·rw [he d (by cases x <;> simp [Bg])]; exact h2
  ·obtain ⟨ad, k0, k1, k2⟩ := h3 j b hj
   refine ⟨ad, k0, ?_, k2.mono g.zz g.tt hs⟩
   rw [World.cell?_of_block (w := w) (by rw [add_block]; exact k2.same hh g)]; exact k1
 | .gd gg want _ o, he, h => by
  rcases h with ⟨b, h1, h2⟩ | ⟨cs, h1⟩
  ·exact .inl ⟨b, by rw [he gg (by simp [Bg])]; exact h1, fun ht => EE.keep hh g hs (fun t ht => he t (by simp [Bg, ht])) (h2 ht)⟩
  ·exact .inr ⟨cs, by rw [he gg (by simp [Bg])]; exact h1⟩
 | .p _ _ _, _, _ | .st _ _ _ _, _, _ | .new _ _ _, _, _ | .box _ _ _, _, _ | .bsl _ _ _ _ _ _, _, _ | .app _ _ _ _ _, _, _ | .call _ _ _, _, _ | .callv _ _ _, _, _ | .gen _ _, _, _ | .genu _, _, _ => by simp only [EE]

def Kr : MOp → Prop
 | .ld _ _ => True
 | .ldn _ _ _ => True
 | .bs _ _ => True
 | _ => False
theorem Uj {a b : Nat} (h : nb a b = true) : a ≠ b := by
 rw [nb_eq] at h
 intro e
 subst e
 simp at h
theorem TK {m : MOp} {Q : Env → World → Prop} (h : Ok E w Z T F r nx) (he : Di w Z T e de) (hl : Kr m) (hs : BH m = true)
  (hk : m.dwp P held de r nx K) (hw : m.wp P e w Q) : m.wp P e w (fun e' w' => Q e' w' ∧ w' = w ∧ EE w Z T (C9 de r m) e' m ∧ ∀ t, t ≠ FT m → AU e' t = AU e t) := by
 cases m <;> simp only [Kr] at hl
 case ld d x =>
  cases x <;> simp only [BH] at hs <;> try cases hs
  rename_i t
  have hne := Uj hs
  simp only [MOp.dwp] at hk
  split at hk
  ·rename_i dx hdx
   obtain ⟨v0, hv, hrs⟩ := D6 h.roots he hdx
   simp only [MOp.wp, hv] at hw ⊢
   split at hw
   ·rename_i a heq
    simp only [Option.some.injEq] at heq
    subst heq
    obtain ⟨v, hc, hQ⟩ := hw
    refine ⟨v, hc, hQ, rfl, ⟨a, v, ?_, by rw [EZ, if_pos rfl], hc, ?_⟩, fun t ht => G7 (by simpa [FT] using ht)⟩
    ·show AU _ _ = _
     rw [EZ, if_neg hne]
     exact hv
    ·split at hk
     ·rename_i g l hu
      obtain ⟨hg, y, hy, _⟩ := hk
      have h1 := BP hrs hu hg
      simp only [Rs] at h1
      obtain ⟨a', e1, hf⟩ := h1
      cases e1
      obtain ⟨a'', u, k1, k2, _⟩ := hf.get hy
      cases k1
      exact .inl k2
     ·rename_i g i off hu
      have key : g = true → Us Z T (C9 de r (.ld d (.tmp t))) a.block := fun hg => by
       have h1 := BP hrs hu hg
       simp only [Rs] at h1
       obtain ⟨v', b', t1, t2, e1⟩ := h1
       cases e1
       refine .inr ⟨i, ?_, v', t1, t2⟩
       simp [C9, GI, hdx, hu]
      split at hk
      ·exact key hk.1
      ·exact key hk.1
      ·exact hk.elim
     ·exact hk.elim
   ·exact hw.elim
  ·exact hk.elim
 case ldn d n x =>
  cases x <;> simp only [BH] at hs <;> try cases hs
  rename_i t
  have hne := Uj hs
  simp only [MOp.dwp] at hk
  split at hk
  ·rename_i dx hdx
   obtain ⟨v0, hv, hrs⟩ := D6 h.roots he hdx
   simp only [MOp.wp, hv] at hw ⊢
   split at hw
   ·rename_i a heq
    simp only [Option.some.injEq] at heq
    subst heq
    obtain ⟨vs, hn, hc, hQ⟩ := hw
    refine ⟨vs, hn, hc, hQ, rfl, ⟨a, vs.toArray, ?_, by rw [EZ, if_pos rfl], fun j u hj => ?_⟩, fun t ht => G7 (by simpa [FT] using ht)⟩
    ·show AU _ _ = _
     rw [EZ, if_neg hne]
     exact hv
    ·simp only [List.getElem?_toArray] at hj
     have hjl := (List.getElem?_eq_some_iff.1 hj).1
     refine ⟨hc j u hj, ?_⟩
     split at hk
     ·rename_i g l hu
      obtain ⟨⟨hg, hnl⟩, _⟩ := hk
      have h1 := BP hrs hu hg
      simp only [Rs] at h1
      obtain ⟨a', e1, hf⟩ := h1
      cases e1
      obtain ⟨a'', u, k1, k2, _⟩ := hf.get (List.getElem?_eq_getElem (show 0 < l.length by omega))
      cases k1
      exact .inl k2
     ·rename_i g i off hu
      have key : g = true → Us Z T (C9 de r (.ldn d n (.tmp t))) a.block := fun hg => by
       have h1 := BP hrs hu hg
       simp only [Rs] at h1
       obtain ⟨v', b', t1, t2, e1⟩ := h1
       cases e1
       refine .inr ⟨i, ?_, v', t1, t2⟩
       simp [C9, GI, hdx, hu]
      split at hk
      ·exact key hk.1.1
      ·exact key hk.1.1
      ·exact hk.elim
     ·exact hk.elim
   ·exact hw.elim
  ·exact hk.elim
 case bs d x =>
  cases x <;> simp only [BH] at hs <;> try cases hs
  rename_i t
  have hne := Uj hs
  simp only [MOp.dwp] at hk
  split at hk
  ·rename_i dx hdx
   obtain ⟨v0, hv, hrs⟩ := D6 h.roots he hdx
   simp only [MOp.wp, hv] at hw ⊢
   split at hw
   ·rename_i A n c heq
    simp only [Option.some.injEq] at heq
    subst heq
    obtain ⟨xs, hn, hc, hQ⟩ := hw
    refine ⟨xs, hn, hc, hQ, rfl, ⟨A, n, c, ⟨xs.toArray⟩, ?_, by rw [EZ, if_pos rfl], fun j b hj => ?_⟩, fun t ht => G7 (by simpa [FT] using ht)⟩
    ·show AU _ _ = _
     rw [EZ, if_neg hne]
     exact hv
    ·simp only [List.getElem?_toArray] at hj
     have hjl := (List.getElem?_eq_some_iff.1 hj).1
     obtain ⟨ad, k1, k2⟩ := hc j b hj
     refine ⟨ad, k1, k2, ?_⟩
     subst k1
     split at hk
     ·rename_i g m l hu
      obtain ⟨hg, ys, hys, hyl, _⟩ := hk
      have h1 := BP hrs hu hg
      simp only [Rs] at h1
      obtain ⟨A', c', e1, hn', h0, hf⟩ := h1
      cases e1
      have hpos : 0 < ys.length := by omega
      obtain ⟨a'', u, k1, k2, _⟩ := hf.take.get (j := 0) (d := bD ys[0]) (by rw [hyl, List.getElem?_map, List.getElem?_eq_getElem hpos]; rfl)
      cases k1
      exact .inl k2
     ·rename_i g m c' hu
      have h1 := BP hrs hu hk.1.1
      simp only [Rs] at h1
      cases h1
     ·rename_i g i hu
      have key : g = true → Us Z T (C9 de r (.bs d (.tmp t))) ad.block := fun hg => by
       have h1 := BP hrs hu hg
       simp only [Rs] at h1
       refine .inr ⟨i, ?_, _, h1, rfl⟩
       simp [C9, GI, hdx, hu]
      split at hk
      ·exact key hk.1
      ·exact hk.elim
     ·exact hk.elim
   ·exact hw.elim
  ·exact hk.elim
theorem EE.mono {held' : List Nat} (hz : ∀ b, Z b → Z' b) (ht : ∀ i u, T i = some u → T' i = some u) (hs : ∀ i ∈ held, i ∈ held') : ∀ {m : MOp}, EE w Z T held e m → EE w Z' T' held' e m
 | .ld d x, ⟨a, v, h1, h2, h3, h4⟩ => ⟨a, v, h1, h2, h3, h4.mono hz ht hs⟩
 | .ldn d n x, ⟨a, cs, h1, h2, h3⟩ => ⟨a, cs, h1, h2, fun j u hj => ⟨(h3 j u hj).1, (h3 j u hj).2.mono hz ht hs⟩⟩
 | .bs d x, ⟨a, n, c, s, h1, h2, h3⟩ => ⟨a, n, c, s, h1, h2, fun j b hj => by obtain ⟨ad, k0, k1, k2⟩ := h3 j b hj; exact ⟨ad, k0, k1, k2.mono hz ht hs⟩⟩
 | .gd gg want _ o, .inl ⟨b, h1, h2⟩ => .inl ⟨b, h1, fun t => EE.mono hz ht hs (h2 t)⟩
 | .gd gg want _ o, .inr h => .inr h
 | .p _ _ _, _ | .st _ _ _ _, _ | .new _ _ _, _ | .box _ _ _, _ | .bsl _ _ _ _ _ _, _ | .app _ _ _ _ _, _ | .call _ _ _, _ | .callv _ _ _, _ | .gen _ _, _ | .genu _, _ => by simp only [EE]
theorem ZE {g d : Nat} {want : Bool} {o : MOp} {Q : Env → World → Prop} (h : Ok E w Z T F r nx) (he : Di w Z T e de) (hl : Kr o) (hs : BH (.gd g want (some d) o) = true)
  (hk : (MOp.gd g want (some d) o).dwp P held de r nx K) (hw : (MOp.gd g want (some d) o).wp P e w Q) :
  (MOp.gd g want (some d) o).wp P e w (fun e' w' => Q e' w' ∧ w' = w ∧ EE w Z T (C9 de r (.gd g want (some d) o)) e' (.gd g want (some d) o)) := by
 have hso : BH o = true ∧ d ≠ g ∧ FT o = d := by
  cases o <;> simp only [Kr] at hl
  all_goals
   rename_i x
   cases x <;> simp only [BH] at hs <;> try cases hs
   simp only [Bool.and_eq_true] at hs
   obtain ⟨⟨h1, h2⟩, h3⟩ := hs
   have := Nat.eq_of_beq_eq_true h3
   subst this
   exact ⟨by simpa only [BH] using h1, Uj h2, rfl⟩
 obtain ⟨hso, hdg, hdd⟩ := hso
 have hids : C9 de r (.gd g want (some d) o) = C9 de r o := by
  cases o <;> simp only [Kr] at hl <;> rfl
 unfold MOp.dwp at hk
 split at hk
 ·rename_i b hb
  have hd' : ∃ K' : KD, (b == want) = true → o.dwp P held de r nx K' := by
   split at hk
   ·simp only [Kr] at hl
   ·rename_i d' x dd heq
    split at hk
    ·rename_i dx hdx
     split at hk
     ·rename_i g' l hu
      obtain ⟨⟨_, hc⟩, y, hy, _⟩ := hk
      refine ⟨fun _ _ _ => True, fun ht => ?_⟩
      simp only [MOp.dwp, hdx, hu]
      exact ⟨hc ht, y, hy ht, trivial⟩
     ·exact ⟨K, hk.1⟩
    ·exact hk.elim
   ·simp only [Kr] at hl
   ·exact ⟨K, hk.1⟩
  obtain ⟨K', hK'⟩ := hd'
  obtain ⟨hwt, hwf, hg⟩ := Abz he hb hw
  refine Yb he hb (fun ht => ?_) (fun hf => ⟨hwf hf, rfl, ?_⟩)
  ·have hwt' : o.wp P e w Q := by
    rcases hwt with hwt | hwt
    ·exact hwt ht
    ·rw [hwt] at ht; cases ht
   have hvb : AU e g = some (.bool b) := by
    rcases hg with hg | ⟨_, hg⟩
    ·exact hg
    ·rw [hg] at ht; cases ht
   refine MOp.wp_mono (fun e' w' hq => ?_) (TK h he hl hso (hK' ht) hwt')
   obtain ⟨q1, q2, q3, q4⟩ := hq
   rw [hids]
   refine ⟨q1, q2, .inl ⟨b, ?_, fun _ => q3⟩⟩
   rw [q4 g (by rw [hdd]; exact fun e => hdg e.symm)]
   exact hvb
  ·rcases hg with hg | ⟨hg, _⟩
   ·exact .inl ⟨b, by rw [EZ, if_neg hdg]; exact hg, fun ht => by rw [hf] at ht; cases ht⟩
   ·exact .inr ⟨_, by rw [EZ, if_neg hdg]; exact hg⟩
 ·exact hk.elim
theorem AeB {m : MOp} {Q : Env → World → Prop} (h : Ok E w Z T F r nx) (he : Di w Z T e de) (hl : (DV m && BH m) = true) (hk : m.dwp P held de r nx K) (hw : m.wp P e w Q) :
  m.wp P e w (fun e' w' => Q e' w' ∧ w' = w ∧ EE w Z T (C9 de r m) e' m) := by
 simp only [Bool.and_eq_true] at hl
 obtain ⟨h1, h2⟩ := hl
 have plain : Kr m → m.wp P e w (fun e' w' => Q e' w' ∧ w' = w ∧ EE w Z T (C9 de r m) e' m) := fun hp =>
  MOp.wp_mono (fun e' w' hq => ⟨hq.1, hq.2.1, hq.2.2.1⟩) (TK h he hp h2 hk hw)
 cases m with
 | ld d x => exact plain trivial
 | ldn d n x => exact plain trivial
 | bs d x => exact plain trivial
 | gd g want d o =>
  cases d with
  | none => cases o <;> first | (simp [BH] at h2; done) | (simp [DV] at h1; done)
  | some d =>
   cases o <;> first | exact ZE h he trivial h2 hk hw | (simp [DV] at h1; done)
 | _ => simp [DV] at h1
theorem VP : ∀ {a b : List Nat}, apart a b = true → ∀ t ∈ b, t ∉ a
 | [], b, h, t, ht => by simp
 | x :: l, b, h, t, ht => by
  simp only [apart, Bool.and_eq_true, List.all_eq_true] at h
  simp only [List.mem_cons, not_or]
  refine ⟨fun e => ?_, VP h.2 t ht⟩
  have := Uj (h.1 t ht)
  exact this e.symm
theorem MR {ds : List Nat} : ∀ {l : List MOp}, Az ds l = true → ∀ m ∈ l, ∀ t ∈ Bg m, t ∉ ds
 | [], h, m, hm => by simp at hm
 | x :: l, h, m, hm => by
  simp only [Az, Bool.and_eq_true] at h
  simp only [List.mem_cons] at hm
  rcases hm with rfl | hm
  ·exact VP h.1
  ·exact MR h.2 m hm
theorem TJ {m : MOp} : ∀ {l : List MOp}, CS m l → m ∈ l
 | [], h => h.elim
 | x :: l, h => by
  simp only [CS] at h
  split at h
  ·simp [h]
  ·simp [TJ h]
theorem Rx : ∀ {c l : List MOp}, BB c l → ∀ m ∈ c, m ∈ l
 | [], l, h, m, hm => by simp at hm
 | x :: c, l, h, m, hm => by
  simp only [BB] at h
  simp only [List.mem_cons] at hm
  rcases hm with rfl | hm
  ·exact TJ h.1
  ·exact Rx h.2 m hm
theorem UU : ∀ {l : List MOp} {w : World}, (∀ m ∈ l, m.still e w) → JI l e w
 | [], _, _ => trivial
 | x :: l, w, h => ⟨h x (by simp), UU fun m hm => h m (by simp [hm])⟩
def QOk (E : En) (Q : Exit → KD) (x : Exit) (e : Env) (w : World) : Prop := ∃ de r nx, Sat E e w de r nx ∧ Q x de r nx
theorem OU : ∀ (l : List Nat) (de : DEnv) (t : Nat) (d : D), AZ (Dv l de) t = some d → AZ de t = some d ∧ t ∈ l
 | [], de, t, d, h => by simp [Dv, AZ] at h
 | n :: l, de, t, d, h => by
  simp only [Dv] at h
  split at h
  ·rename_i v hv
   rw [IX] at h
   split at h
   ·rename_i hnt
    simp only at hnt
    subst hnt
    cases h
    exact ⟨hv, by simp⟩
   ·obtain ⟨h1, h2⟩ := OU l de t d h
    exact ⟨h1, by simp [h2]⟩
  ·obtain ⟨h1, h2⟩ := OU l de t d h
   exact ⟨h1, by simp [h2]⟩
theorem NC : ∀ (l : List Nat) (e : Env) (t : Nat) (v : Value), AU e t = some v → t ∈ l → AU (Jp l e) t = some v
 | [], e, t, v, h, ht => by simp at ht
 | n :: l, e, t, v, h, ht => by
  simp only [Jp]
  simp only [List.mem_cons] at ht
  split
  ·rename_i u hu
   rw [IR]
   by_cases hnt : n = t
   ·subst hnt
    rw [if_pos rfl]
    rw [h] at hu
    cases hu
    rfl
   ·rw [if_neg hnt]
    exact NC l e t v h (by rcases ht with ht | ht; exact absurd ht.symm hnt; exact ht)
  ·rename_i hu
   rcases ht with rfl | ht
   ·rw [h] at hu; cases hu
   ·exact NC l e t v h ht
theorem Sat.keep {live : List Nat} (h : Sat E e w de r nx) : Sat E (Jp live e) w (Dv live de) r nx := by
 obtain ⟨Z, T, F, h1, h2⟩ := h
 refine ⟨Z, T, F, h1, fun t d hd => ?_⟩
 obtain ⟨k1, k2⟩ := OU live de t d hd
 obtain ⟨v, k3, k4⟩ := h2 t d k1
 exact ⟨v, NC live e t v k3 k2, k4⟩
end
section
variable {E : En} {w w' : World} {Z Z' : Nat → Prop} {T T' : Nat → Option Value} {F : Nat → Nat} {r : Ad} {nx : Nat}
variable {P : Program} {held : List Nat} {e e' : Env} {de : DEnv} {K : D → Ad → Nat → Prop}

theorem Jg (h : Ok E w Z T F r nx) (he : Di w Z T e de) : ∀ (l : List RV) {K : List D → Prop}, NE l de r K → HY l e w (fun vs => ∃ ds, RsL w Z T ds vs ∧ K ds)
 | [], K, hk => ⟨[], by simp only [RsL], hk⟩
 | .t t :: l, K, hk => by
  simp only [NE] at hk
  split at hk
  ·rename_i d hd
   obtain ⟨v, hv, hr⟩ := he t d hd
   simp only [HY, hv]
   have ih := Jg h he l hk
   revert ih
   refine resWp_mono fun vs ⟨ds, h1, h2⟩ => ⟨d :: ds, ?_, h2⟩
   simp only [RsL]
   exact ⟨v, vs, rfl, hr, h1⟩
  ·exact hk.elim
 | .c t :: l, K, hk => by
  simp only [NE] at hk
  split at hk
  ·rename_i d hd
   obtain ⟨v, hv, hr⟩ := he t d hd
   have hr := L8 h.roots hr
   split at hk
   ·rename_i i off hdr
    rw [hdr] at hr
    simp only [Rs] at hr
    obtain ⟨v0, b0, t1, t2, rfl⟩ := hr
    split at hk
    ·rename_i e' c hg
     obtain ⟨y, hy, hp, hk⟩ := hk
     obtain ⟨v1, b, u, Fx, a1, a2, a3, a4, _⟩ := Nh (nx := nx) (.box e') h.roots hg hy
     rw [t1] at a1
     cases a1
     rw [t2] at a2
     cases a2
     simp only [HY, hv]
     refine ⟨u, a3, ?_⟩
     have ih := Jg h he l hk
     revert ih
     refine resWp_mono fun vs ⟨ds, h1, h2⟩ => ⟨y :: ds, ?_, h2⟩
     simp only [RsL]
     exact ⟨u, vs, rfl, (a4.rs hp).1, h1⟩
    ·exact hk.elim
   ·exact hk.elim
  ·exact hk.elim
 | .cn t n :: l, K, hk => by
  simp only [NE] at hk
  split at hk
  ·rename_i d hd
   obtain ⟨v, hv, hr⟩ := he t d hd
   have hr := L8 h.roots hr
   split at hk
   ·rename_i i off hdr
    rw [hdr] at hr
    simp only [Rs] at hr
    obtain ⟨v0, b0, t1, t2, rfl⟩ := hr
    split at hk
    ·rename_i e' c hg
     obtain ⟨⟨hn, hp⟩, hk⟩ := hk
     have fin : ∀ vs : List Value, vs.length = n → (∀ (j : Nat) (u : Value), vs[j]? = some u → w.cell? ⟨b0, off + j, none⟩ = some u) → RsL w Z T ((c.drop off).take n) vs → HY (.cn t n :: l) e w (fun vs => ∃ ds, RsL w Z T ds vs ∧ K ds) := by
      intro vs k1 k2 k3
      simp only [HY, hv]
      refine ⟨vs, k1, fun j u hj => by rw [add_lit]; exact k2 j u hj, ?_⟩
      have ih := Jg h he l hk
      revert ih
      refine resWp_mono fun us ⟨ds, h1, h2⟩ => ⟨_ :: ds, ?_, h2⟩
      simp only [RsL, Rs]
      exact ⟨_, us, rfl, ⟨_, rfl, k3⟩, h1⟩
     by_cases h0 : 0 < n
     ·obtain ⟨v', b, vs, k0, k1, k2, k3, k4⟩ := U5 (.box e') h.roots hg hn h0 hp
      rw [t1] at k0
      cases k0
      rw [t2] at k1
      cases k1
      exact fin vs k2 k3 k4
     ·have : n = 0 := by omega
      subst this
      exact fin [] rfl (fun j u hj => by simp at hj) (by simp only [List.take_zero, RsL])
    ·exact hk.elim
   ·exact hk.elim
  ·exact hk.elim
where
 resWp_mono {l : List RV} {e : Env} {w : World} {K K' : List Value → Prop} (hk : ∀ vs, K vs → K' vs) : HY l e w K → HY l e w K' := by
  induction l generalizing K K' with
  | nil => exact hk []
  | cons x l ih =>
   cases x with
   | t t =>
    simp only [HY]
    cases AU e t with
    | none => exact fun h => h
    | some v => exact ih fun vs => hk _
   | c t =>
    simp only [HY]
    intro h
    split at h
    ·obtain ⟨v, h1, h2⟩ := h
     exact ⟨v, h1, ih (fun vs => hk _) h2⟩
    ·exact h.elim
   | cn t n =>
    simp only [HY]
    intro h
    split at h
    ·obtain ⟨v, h1, h2, h3⟩ := h
     exact ⟨v, h1, h2, ih (fun vs => hk _) h3⟩
    ·exact h.elim
theorem tup_rs {ds : List D} {vs : List Value} (h : RsL w Z T ds vs) : Rs w Z T (Gn ds) (Y1 vs) := by
 match ds, vs, h with
 | [], [], h => simp only [Gn, Y1, Rs]; exact ⟨[], rfl, h⟩
 | [d], vs, h =>
  obtain ⟨v, rfl, h1⟩ := Ib h
  exact h1
 | d :: d' :: ds, [], h => have := h.len; simp at this
 | d :: d' :: ds, [v], h => have := h.len; simp at this
 | d :: d' :: ds, v :: v' :: vs, h => simp only [Gn, Y1, Rs]; exact ⟨_, rfl, h⟩
 | [], v :: vs, h => have := h.len; simp at this
theorem Aa4 : ∀ {ds : List D} {vs : List Value} (i : Nat), RsL w Z T ds vs → Di w Z T (NQ i vs) (Gx i ds)
 | [], vs, i, h => fun t d hd => by simp [Gx, AZ] at hd
 | d0 :: ds, vs, i, h => fun t d hd => by
  simp only [RsL] at h
  obtain ⟨u, us, rfl, h1, h2⟩ := h
  simp only [Gx, IX] at hd
  simp only [NQ, IR]
  by_cases ht : i = t
  ·rw [if_pos ht] at hd ⊢
   cases hd
   exact ⟨u, rfl, h1⟩
  ·rw [if_neg ht] at hd ⊢
   exact Aa4 (i + 1) h2 t d hd
/-! ### calls -/
theorem RL.split : ∀ {a b : Ad} {F : Nat → Nat}, RL w Z T (a ++ b) F → ∃ F1 F2, RL w Z T a F1 ∧ RL w Z T b F2 ∧ ∀ x, F x = F1 x + F2 x
 | [], b, F, h => ⟨fun _ => 0, F, fun _ => rfl, h, fun x => by simp⟩
 | p :: a, b, F, ⟨v, Fa, Fb, h1, h2, h3, h4⟩ => by
  obtain ⟨G1, G2, g1, g2, g3⟩ := RL.split h3
  exact ⟨fun x => Fa x + G1 x, G2, ⟨v, Fa, G1, h1, h2, g1, fun _ => rfl⟩, g2, fun x => by show F x = Fa x + G1 x + G2 x; rw [h4, g3]; omega⟩
theorem RL.join : ∀ {a b : Ad} {F1 F2 : Nat → Nat}, RL w Z T a F1 → RL w Z T b F2 → RL w Z T (a ++ b) (fun x => F1 x + F2 x)
 | [], b, F1, F2, h, k => k.cast fun x => by rw [h x]; omega
 | p :: a, b, F1, F2, ⟨v, Fa, Fb, h1, h2, h3, h4⟩, k => ⟨v, Fa, _, h1, h2, RL.join h3 k, fun x => by show F1 x + F2 x = Fa x + (Fb x + F2 x); rw [h4]; omega⟩
theorem QY : ∀ {a b : Ad} {i : Nat}, AP a i = none → AP (a ++ b) i = AP b i
 | [], b, i, _ => rfl
 | p :: a, b, i, h => by
  simp only [AP] at h
  split at h
  ·cases h
  ·rename_i hp
   simp only [List.cons_append, AP, if_neg hp]
   exact QY h
theorem dcall {f : FuncId} {ds : List D} {rin rest : Ad} {Q : D → Ad → Nat → Prop} {t : A7 K} (hc : D9 P f ds rin nx Q) (hh : ∀ i ∈ held, AP rin i = none)
  (k : ∀ d ro nx', nx ≤ nx' → Q d ro nx' → K d (ro ++ rest) nx') : AO P f ds held (rin ++ rest) nx K t := by
 intro E w Z T F vs h hrs
 obtain ⟨Fi, Fr', h1, h2, h3⟩ := h.roots.split
 have hok : Ok ⟨w, Z, T, Fi, nx⟩ w Z T Fi rin nx := ⟨Fr.refl _ _, fun _ h => h, fun _ _ h => .inl h, fun _ _ => Nat.le_refl _, fun _ _ h => h, fun b => by have := h.one b; have := h3 b; omega,
  fun b hb => h.lt b (by have := h3 b; omega), fun b hb => by have h5 := h.zlt b hb; have := h3 b; exact ⟨h5.1, by omega⟩, h.t, h.cell, Nat.le_refl _, h1⟩
 refine (hc w Z T Fi vs hok hrs).mono fun en w' ⟨v, hv, d, ro, nx', Z', T', F', o1, o2, o3⟩ => ⟨v, hv, d, ro ++ rest, nx', Z', T', fun x => F' x + Fr' x, ?_, ?_, o2, k d ro nx' o1.ge o3⟩
 ·have hsz := o1.fr.size
  refine ⟨h.fr.step o1.fr fun b hb hF => ?_, fun b hb => o1.z b (h.z b hb), fun b hb hz => ?_, fun b hb => ?_, fun i u hu => o1.names i u (h.names i u hu), fun b => ?_, fun b hb => ?_, fun b hb => ?_, o1.t, o1.cell, Nat.le_trans h.ge o1.ge, RL.join o1.roots (h2.keep o1.z o1.names fun b hb => ?_)⟩
  ·have := h.fo b hb; have := h3 b; dsimp only at hF; omega
  ·have hs := h.fr.size
   rcases o1.zo b (by dsimp only; omega) hz with hz | hF
   ·exact h.zo b hb hz
   ·have := h.fo b hb; have := h3 b; dsimp only at hF; exact .inr (by omega)
  ·have hs := h.fr.size
   have := o1.fo b (by dsimp only; omega)
   have := h.fo b hb
   have := h3 b
   dsimp only at *
   omega
  ·by_cases hb : b < w.heap.size
   ·have := o1.fo b hb
    have := h.one b
    have := h3 b
    dsimp only at *
    omega
   ·have : Fr' b = 0 := by
     cases hz : Fr' b with
     | zero => rfl
     | succ n => have := h.lt b (by have := h3 b; omega); omega
    have := o1.one b
    omega
  ·by_cases hF : 0 < F' b
   ·exact o1.lt b hF
   ·have := h.lt b (by have := h3 b; omega); dsimp only at hsz; omega
  ·have h5 := o1.zlt b hb
   refine ⟨h5.1, ?_⟩
   have : Fr' b = 0 := by
    by_cases hb2 : b < w.heap.size
    ·rcases o1.zo b hb2 hb with hz | hF
     ·have := (h.zlt b hz).2; have := h3 b; omega
     ·have := h.one b; have := h3 b; dsimp only at hF; omega
    ·cases hz : Fr' b with
     | zero => rfl
     | succ n => have := h.lt b (by have := h3 b; omega); omega
   omega
  ·refine o1.fr.same b ?_ ?_
   ·rcases hb with hb | hb
    ·exact h.lt b (by have := h3 b; omega)
    ·exact (h.zlt b hb).1
   ·dsimp only
    have := h3 b
    rcases hb with hb | hb
    ·have := h.one b; omega
    ·have := (h.zlt b hb).2; omega
 ·refine ⟨fun b hb => ?_, o1.z, o1.names, fun i hi ho u b hu hbk => ?_⟩
  ·have h5 := h.zlt b hb
   refine o1.fr.same b h5.1 ?_
   have := h3 b
   dsimp only
   omega
  ·have ho' : heldOk rest i := by unfold heldOk at ho ⊢; rw [QY (hh i hi)] at ho; exact ho
   obtain ⟨d', G1, G2, _, _, g3, g4, _⟩ := IJ h2 ho' hu hbk
   have := h3 b
   have := g3 b
   have := h.one b
   refine o1.fr.same b (h.lt b (by omega)) ?_
   dsimp only
   omega
theorem Adf {f : FuncId} {ds : List D} {Q : D → Ad → Nat → Prop} {t : A7 K} (hc : D9 P f ds [] nx Q) (k : ∀ d ro nx', nx ≤ nx' → Q d ro nx' → K d (ro ++ r) nx') : AO P f ds held r nx K t :=
 dcall (rin := []) (rest := r) hc (fun _ _ => rfl) k
def Bf : List Nat → Ad → Ad × Ad
 | [], r => ([], r)
 | i :: l, r => match AP r i with
  | some d => ((i, d) :: (Bf l (Ej r i)).1, (Bf l (Ej r i)).2)
  | none => Bf l r
theorem RL.pick : ∀ {l : List Nat} {r : Ad} {F : Nat → Nat}, RL w Z T r F → RL w Z T ((Bf l r).1 ++ (Bf l r).2) F
 | [], r, F, h => h
 | i :: l, r, F, h => by
  simp only [Bf]
  split
  ·rename_i d hd
   obtain ⟨v, F1, F2, h1, h2, h3, h4, _⟩ := h.get hd
   exact ⟨v, F1, F2, h1, h2, RL.pick h4, h3⟩
  ·exact RL.pick h
theorem Ok.pick {l : List Nat} (h : Ok E w Z T F r nx) : Ok E w Z T F ((Bf l r).1 ++ (Bf l r).2) nx :=
 ⟨h.fr, h.z, h.zo, h.fo, h.names, h.one, h.lt, h.zlt, h.t, h.cell, h.ge, h.roots.pick⟩
theorem Nk {i : Nat} : ∀ {l : List Nat} {r : Ad}, heldOk r i → heldOk ((Bf l r).1 ++ (Bf l r).2) i
 | [], r, h => h
 | j :: l, r, h => by
  simp only [Bf]
  split
  ·rename_i d hd
   by_cases hij : j = i
   ·subst hij
    unfold heldOk at h ⊢
    rw [hd] at h
    simpa [AP] using h
   ·have h' : heldOk (Ej r j) i := by unfold heldOk; rw [Jz hij]; exact h
    have := Nk (l := l) h'
    unfold heldOk at this ⊢
    simpa [AP, hij] using this
  ·exact Nk h
theorem CV (ids : List Nat) {f : FuncId} {ds : List D} {rin rest : Ad} {Q : D → Ad → Nat → Prop} {t : A7 K} (hp : Bf ids r = (rin, rest)) (hc : D9 P f ds rin nx Q) (hh : ∀ i ∈ held, AP rin i = none)
  (k : ∀ d ro nx', nx ≤ nx' → Q d ro nx' → K d (ro ++ rest) nx') : AO P f ds held r nx K t := by
 intro E w Z T F vs h hrs
 have h' := h.pick (l := ids)
 rw [hp] at h'
 refine (dcall (held := held) (t := t) hc hh k E w Z T F vs h' hrs).mono fun en w' ⟨v, hv, d, r', nx', Z', T', F', o1, o2, o3⟩ => ⟨v, hv, d, r', nx', Z', T', F', o1, ⟨o2.zs, o2.zz, o2.tt, fun i hi ho => o2.hd i hi ?_⟩, o3⟩
 have := Nk (l := ids) ho
 rw [hp] at this
 exact this
theorem RsL.res : ∀ {ds : List D} {vs : List Value}, RL w Z T r F → RsL w Z T ds vs → RsL w Z T (ds.map (Dx r)) vs
 | [], vs, hr, h => h
 | d :: ds, vs, hr, h => by
  simp only [RsL] at h
  obtain ⟨u, us, rfl, h1, h2⟩ := h
  simp only [List.map_cons, RsL]
  exact ⟨u, us, rfl, L8 hr h1, RsL.res hr h2⟩
theorem X8 {i j : Nat} {d : D} (h : i ≠ j) : ∀ {r : Ad}, heldOk r j → heldOk (Dn r i d) j := by
 intro r hr
 have : AP (Dn r i d) j = AP r j := by
  induction r with
  | nil => rfl
  | cons p r ih =>
   simp only [Dn]
   by_cases hp : p.1 = i
   ·rw [if_pos hp]
    simp only [AP]
    rw [if_neg h, if_neg (by omega)]
   ·rw [if_neg hp]
    simp only [AP]
    by_cases hj : p.1 = j
    ·rw [if_pos hj, if_pos hj]
    ·rw [if_neg hj, if_neg hj]
     exact ih (by unfold heldOk at hr ⊢; simpa [AP, hj] using hr)
 unfold heldOk at hr ⊢
 rw [this]
 exact hr
theorem Grow.trans {w1 w2 : World} {Z1 Z2 : Nat → Prop} {T1 T2 : Nat → Option Value} {r1 : Ad} (h : Grow r w Z T w1 Z1 T1 held) (k : Grow r1 w1 Z1 T1 w2 Z2 T2 held) (hh : ∀ i ∈ held, heldOk r i → heldOk r1 i ∨ ∀ u b, T i = some u → blk u = some b → Z1 b) : Grow r w Z T w2 Z2 T2 held := by
 refine ⟨fun b hb => (k.zs b (h.zz b hb)).trans (h.zs b hb), fun b hb => k.zz b (h.zz b hb), fun i u hu => k.tt i u (h.tt i u hu), fun i hi ho u b hu hb => ?_⟩
 refine Eq.trans ?_ (h.hd i hi ho u b hu hb)
 rcases hh i hi ho with h1 | h1
 ·exact k.hd i hi h1 u b (h.tt i u hu) hb
 ·exact k.zs b (h1 u b hu hb)
theorem ZG {i e' s n : Nat} {l : List D} (h : Ok E w Z T F r nx) (hg : AP r i = some (.row e' s n l)) (hp : ∀ x ∈ l, x.plain) :
  ∃ Z' F', Ok E w Z' T F' (Dn r i (.sl n l)) nx ∧ Grow r w Z T w Z' T held ∧ (∀ v, T i = some v → Rs w Z' T (.sl n l) v) ∧ ∀ u b, T i = some u → blk u = some b → l ≠ [] → Z' b := by
 obtain ⟨Z', F', h1, h2, h3⟩ := JX (held := held) h hg hp
 refine ⟨Z', F', h1, h2, h3, fun u b hu hb hl => ?_⟩
 have := h3 u hu
 simp only [Rs] at this
 obtain ⟨A, c, rfl, _, _, hf⟩ := this
 cases l with
 | nil => exact absurd rfl hl
 | cons d l =>
  obtain ⟨a, u, k1, k2, _⟩ := hf.get (j := 0) (d := d) rfl
  subst k1
  simp only [blk, Option.some.injEq] at hb
  subst hb
  exact k2
theorem Gw (i : Nat) {f : FuncId} {e' s n : Nat} {l : List D} {ds : List D} {t t' : A7 K} (hg : AP r i = some (.row e' s n l)) (hp : ∀ x ∈ l, x.plain) (hh : i ∉ held)
  (k : AO P f (ds.map (Dx (Dn r i (.sl n l)))) held (Dn r i (.sl n l)) nx K t') : AO P f ds held r nx K t := by
 intro E w Z T F vs h hrs
 obtain ⟨Z', F', h1, h2, h3, _⟩ := ZG (held := held) h hg hp
 have hrs' := RsL.res h1.roots (RsL.keep h2.zs h2.zz h2.tt _ _ hrs)
 refine (k E w Z' T F' vs h1 hrs').mono fun en w' ⟨v, hv, d, r', nx', Z2, T2, F2, o1, o2, o3⟩ => ⟨v, hv, d, r', nx', Z2, T2, F2, o1, h2.trans o2 fun j hj ho => .inl (X8 (fun e => hh (by rw [e]; exact hj)) ho), o3⟩

/-! ### loops -/
theorem E5 {B : (Exit → KD) → KD} {Q : Exit → KD} {t : A7 B} {u : A7 Q} {τ : Type} (live : List Nat) (S : τ → DEnv × Ad × Nat) (J : τ → Prop) (μ : τ → Nat) (s0 : τ) (hJ : J s0) (h0 : Ent (Dv live de) r nx (S s0).1 (S s0).2.1 (S s0).2.2)
  (round : ∀ s, J s → B (Eg (fun de' r' nx' => ∃ s', J s' ∧ μ s' < μ s ∧ Ent (Dv live de') r' nx' (S s').1 (S s').2.1 (S s').2.2) Q) (S s).1 (S s).2.1 (S s).2.2) : BG B Q de r nx t u :=
 ⟨τ, live, S, J, μ, ⟨s0, hJ, h0⟩, round⟩
theorem Ent.refl (de : DEnv) (r : Ad) (nx : Nat) : Ent de r nx de r nx := fun _ _ _ h => h
theorem Ent.trans {d1 d2 d3 : DEnv} {r1 r2 r3 : Ad} {n1 n2 n3 : Nat} (h : Ent d1 r1 n1 d2 r2 n2) (k : Ent d2 r2 n2 d3 r3 n3) : Ent d1 r1 n1 d3 r3 n3 := fun _ _ _ hs => k _ _ _ (h _ _ _ hs)
theorem Ok.del {i : Nat} (h : Ok E w Z T F r nx) : ∃ F', Ok E w Z T F' (Ej r i) nx := by
 cases hg : AP r i with
 | none =>
  have : Ej r i = r := by
   clear h
   induction r with
   | nil => rfl
   | cons p r ih =>
    simp only [AP] at hg
    split at hg
    ·cases hg
    ·rename_i hp
     simp only [Ej, if_neg hp, ih hg]
  rw [this]
  exact ⟨F, h⟩
 | some d =>
  obtain ⟨v, F1, F2, h1, h2, h3, h4, _⟩ := h.roots.get hg
  exact ⟨F2, h.fr, h.z, h.zo, fun b hb => by have := h.fo b hb; have := h3 b; omega, h.names, fun b => by have := h.one b; have := h3 b; omega, fun b hb => h.lt b (by have := h3 b; omega),
   fun b hb => by have h5 := h.zlt b hb; have := h3 b; exact ⟨h5.1, by omega⟩, h.t, h.cell, h.ge, h4⟩
theorem Ok.fst {a b : Ad} (h : Ok E w Z T F (a ++ b) nx) : ∃ F', Ok E w Z T F' a nx := by
 obtain ⟨F1, F2, h1, h2, h3⟩ := h.roots.split
 exact ⟨F1, h.fr, h.z, h.zo, fun b hb => by have := h.fo b hb; have := h3 b; omega, h.names, fun b => by have := h.one b; have := h3 b; omega, fun b hb => h.lt b (by have := h3 b; omega),
   fun b hb => by have h5 := h.zlt b hb; have := h3 b; exact ⟨h5.1, by omega⟩, h.t, h.cell, h.ge, h1⟩
theorem Ok.up (h : Ok E w Z T F r nx) {nx' : Nat} (hn : nx ≤ nx') : Ok E w Z T F r nx' :=
 ⟨h.fr, h.z, h.zo, h.fo, h.names, h.one, h.lt, h.zlt, fun i hi => h.t i (by omega), h.cell, Nat.le_trans h.ge hn, h.roots⟩
theorem Ent.only (ids : List Nat) (de : DEnv) (r : Ad) (nx : Nat) : Ent de r nx de (Bf ids r).1 nx := fun E e w ⟨Z, T, F, h, he⟩ => by
 obtain ⟨F', h'⟩ := (h.pick (l := ids)).fst
 exact ⟨Z, T, F', h', he⟩
theorem Ent.up (de : DEnv) (r : Ad) {nx nx' : Nat} (hn : nx ≤ nx') : Ent de r nx de r nx' := fun E e w ⟨Z, T, F, h, he⟩ => ⟨Z, T, F, h.up hn, he⟩
theorem Ent.frz (i : Nat) {e' s n : Nat} {l : List D} {de : DEnv} (hg : AP r i = some (.row e' s n l)) (hp : ∀ x ∈ l, x.plain) : Ent de r nx de (Dn r i (.sl n l)) nx := fun E e w ⟨Z, T, F, h, he⟩ => by
 obtain ⟨Z', F', h1, h2, h3⟩ := JX (held := []) h hg hp
 exact ⟨Z', T, F', h1, he.keep h2.zs h2.zz h2.tt⟩
theorem Ent.nil (t : Nat) (e' s : TypeId) {de : DEnv} {c : Nat} (hd : AZ de t = some (.sc (.slice none 0 c))) (hc : c = 0) : Ent de r nx (dset de t (.h nx)) ((nx, .row e' s 0 []) :: r) (nx + 1) := fun E e w ⟨Z, T, F, h, he⟩ => by
 subst hc
 obtain ⟨v, h1, h2⟩ := he t _ hd
 simp only [Rs] at h2
 subst h2
 have hT := Ey (v := Value.slice none 0 0) (h.t nx (Nat.le_refl _))
 obtain ⟨o1, o2⟩ := h.name (held := []) (u := .slice none 0 0) (r' := (nx, .row e' s 0 []) :: r) (F' := F) rfl (fun _ => rfl) ⟨_, fun _ => 0, F, Bi _ _ _, by
  simp only [Ro]
  exact ⟨[], fun _ => 0, Ow.nil _ _ _, by simp only [RoL]; exact ⟨trivial, fun _ => trivial⟩, fun b => by simp [own, blk]⟩, h.roots.keep (fun _ h => h) hT (fun _ _ => rfl), fun b => by simp⟩
 refine ⟨Z, _, F, o1, fun t' d' hd' => ?_⟩
 rw [QE] at hd'
 by_cases ht : t = t'
 ·subst ht
  rw [if_pos rfl] at hd'
  cases hd'
  exact ⟨_, h1, by simp only [Rs]; exact Bi _ _ _⟩
 ·rw [if_neg ht] at hd'
  exact he.keep o2.zs o2.zz o2.tt t' d' hd'
/-! ### the end -/
theorem EntV.refl (d : D) (r : Ad) (nx : Nat) : EntV d r nx d r nx := fun E w Z T F v h hr => ⟨Z, T, F, h, Grow.refl _ _ _ _ _, hr⟩
theorem BI {d : D} {Q : D → Ad → Nat → Prop} {t : A7 Q} (h : Q d r nx) : Ce d r nx Q t := ⟨d, r, nx, EntV.refl _ _ _, h⟩
theorem AY (ids : List Nat) {d : D} {Q : D → Ad → Nat → Prop} {t : A7 Q} (h : Ce d (Bf ids r).1 nx Q t) : Ce d r nx Q t := by
 obtain ⟨d', r', nx', h1, h2⟩ := h
 refine ⟨d', r', nx', fun E w Z T F v ho hr => ?_, h2⟩
 obtain ⟨F', ho'⟩ := (ho.pick (l := ids)).fst
 obtain ⟨Z', T', F2, o1, o2, o3⟩ := h1 E w Z T F' v ho' hr
 exact ⟨Z', T', F2, o1, ⟨o2.zs, o2.zz, o2.tt, fun i hi => by simp at hi⟩, o3⟩
def TP (r : Ad) : D → D
 | .tup l => .tup (l.map (Dx r))
 | d => Dx r d
theorem ND (i : Nat) {e' s n : Nat} {l : List D} {d : D} {Q : D → Ad → Nat → Prop} {t : A7 Q} (hg : AP r i = some (.row e' s n l)) (hp : ∀ x ∈ l, x.plain) (h : Ce (TP (Dn r i (.sl n l)) d) (Dn r i (.sl n l)) nx Q t) : Ce d r nx Q t := by
 obtain ⟨d', r', nx', h1, h2⟩ := h
 refine ⟨d', r', nx', fun E w Z T F v ho hr => ?_, h2⟩
 obtain ⟨Z', F', o1, o2, o3⟩ := JX (held := []) ho hg hp
 have hr' := Rs.keep o2.zs o2.zz o2.tt _ _ hr
 obtain ⟨Z2, T2, F2, k1, k2, k3⟩ := h1 E w Z' T F' v o1 (by
  unfold TP
  split
  ·simp only [Rs] at hr' ⊢
   obtain ⟨us, e1, e2⟩ := hr'
   exact ⟨us, e1, RsL.res o1.roots e2⟩
  ·exact L8 o1.roots hr')
 exact ⟨Z2, T2, F2, k1, ⟨fun b hb => (k2.zs b (o2.zz b hb)).trans (o2.zs b hb), fun b hb => k2.zz b (o2.zz b hb), fun i u hu => k2.tt i u (o2.tt i u hu), fun i hi => by simp at hi⟩, k3⟩
theorem Bl {d : D} {Q : D → Ad → Nat → Prop} {t : A7 Q} (h : Q d [] nx) : Ce d r nx Q t := AY [] (BI h)
end
section
variable {E : En} {w w' : World} {Z Z' : Nat → Prop} {T T' : Nat → Option Value} {F : Nat → Nat} {r : Ad} {nx : Nat}
variable {P : Program} {held : List Nat} {e e' : Env} {de : DEnv} {K : D → Ad → Nat → Prop}

theorem PD {v : Value} {b : Nat} : own v b = 1 ↔ blk v = some b := by
 unfold own
 by_cases h : blk v = some b <;> simp [h]
theorem Nc (v : Value) (b : Nat) : own v b ≤ 1 := by
 unfold own; split <;> omega
theorem Nb {v : Value} {b : Nat} (h : blk v ≠ some b) : own v b = 0 := by
 unfold own; rw [if_neg h]
theorem Ow.own {e s n : Nat} {v : Value} {cs : List Value} (h : Ow w e s v n cs) : v.ownBlock = blk v := by
 rcases Ow.form h with ⟨rfl, _⟩ | ⟨_, _, _, rfl, _⟩ <;> rfl
theorem Ok.reown (h : Ok E w Z T F r nx) {rr : Ad} {G F2 : Nat → Nat} {v v' : Value} {d' : D} (hF : ∀ b, F b = G b + own v b + F2 b) (hrr : RL w Z T rr F2) (hh : ∀ j ∈ held, heldOk r j → heldOk rr j)
  (hf : Fr (fun b => blk v = some b) w w') (hat : blk v' = blk v ∨ ∃ b, blk v' = some b ∧ w.heap.size ≤ b ∧ b < w'.heap.size) (hc : v'.oneCell' = true)
  (hd : Ro w' Z (Ei T nx v') d' v' (fun b => G b + own v' b)) : Ok E w' Z (Ei T nx v') (fun b => (G b + own v' b) + F2 b) ((nx, d') :: rr) (nx + 1) ∧ Grow r w Z T w' Z (Ei T nx v') held := by
 have hT := Ey (v := v') (h.t nx (Nat.le_refl _))
 have hsz := hf.size
 have hown : ∀ b, own v b = 1 → b < w.heap.size := fun b hb => h.lt b (by have := hF b; omega)
 have hsame : ∀ b, b < w.heap.size → own v b = 0 → w'.heap[b]? = w.heap[b]? := fun b hb ho => hf.same b hb fun e => by rw [PD.2 e] at ho; cases ho
 have hv' : ∀ b, b < w.heap.size → own v' b ≤ own v b := fun b hb => by
  rcases hat with e | ⟨c, hc, h1, _⟩
  ·unfold Sl.own; rw [e]; exact Nat.le_refl _
  ·rw [Nb (v := v') (by rw [hc]; intro e; cases e; omega)]; exact Nat.zero_le _
 have hbig : ∀ b, ¬ b < w.heap.size → G b = 0 ∧ F2 b = 0 := fun b hb => by
  have : F b = 0 := by
   cases hz : F b with
   | zero => rfl
   | succ n => have := h.lt b (by omega); omega
  have := hF b
  exact ⟨by omega, by omega⟩
 have hlt' : ∀ b, own v' b = 1 → b < w'.heap.size := fun b hb => by
  rcases hat with e | ⟨c, hc, _, h2⟩
  ·have : own v b = 1 := by unfold Sl.own at hb ⊢; rw [← e]; exact hb
   have := hown b this; omega
  ·have := PD.1 hb; rw [hc] at this; cases this; exact h2
 refine ⟨⟨h.fr.step hf fun b hb e => ?_, h.z, h.zo, fun b hb => ?_, fun i u hu => hT i u (h.names i u hu), fun b => ?_, fun b hb => ?_, fun b hb => ?_, fun i hi => ?_, fun i u hu => ?_, Nat.le_succ_of_le h.ge, ?_⟩, ⟨fun b hb => ?_, fun _ h => h, hT, fun i hi ho u b hu hb => ?_⟩⟩
 ·have := h.fo b hb; have := hF b; have := PD.2 e; show 0 < E.F b; omega
 ·have hs := h.fr.size
  have := h.fo b hb; have := hF b; have := hv' b (by omega)
  omega
 ·by_cases hb : b < w.heap.size
  ·have := h.one b; have := hF b; have := hv' b hb; omega
  ·have := hbig b hb; have := Nc v' b; omega
 ·by_cases ho : own v' b = 1
  ·exact hlt' b ho
  ·have := Nc v' b
   have := h.lt b (by have := hF b; omega)
   omega
 ·have h5 := h.zlt b hb
  have := hF b
  have := hv' b h5.1
  exact ⟨by omega, by omega⟩
 ·unfold Ei
  rw [if_neg (by omega)]
  exact h.t i (by omega)
 ·unfold Ei at hu
  by_cases e : i = nx
  ·rw [if_pos e] at hu; cases hu; exact hc
  ·rw [if_neg e] at hu; exact h.cell i u hu
 ·refine ⟨v', _, F2, Bi _ _ _, hd, hrr.keep (fun _ h => h) hT fun b hb => ?_, fun b => rfl⟩
  rcases hb with hb | hb
  ·have := hF b; have := h.one b
   exact hsame b (h.lt b (by omega)) (by have := Nc v b; omega)
  ·have h5 := h.zlt b hb; have := hF b
   exact hsame b h5.1 (by omega)
 ·have h5 := h.zlt b hb; have := hF b
  exact hsame b h5.1 (by omega)
 ·obtain ⟨d1, G1, G2, _, _, g3, g4, _⟩ := IJ hrr (hh i hi ho) hu hb
  have := hF b; have := g3 b; have := h.one b
  exact hsame b (h.lt b (by omega)) (by omega)

def FW (r : Ad) (x : D) (m : Nat) (l : List D) : Prop := ∀ (w : World) (Z : Nat → Prop) (T : Nat → Option Value) (F : Nat → Nat) (v : Value), RL w Z T r F → Rs w Z T x v → ∃ us, Src w v m us ∧ RsL w Z T l us
theorem AaR : ∀ {l : List D} {A : Option Addr} {i : Nat}, Fz w Z T l A i → ∃ us, RsL w Z T l us ∧ ∀ (j : Nat) (u : Value), us[j]? = some u → ∃ ad, A = some ad ∧ w.cell? (ad.add (i + j)) = some u
 | [], A, i, h => ⟨[], by simp only [RsL], fun j u hu => by simp at hu⟩
 | d :: l, A, i, h => by
  simp only [Fz] at h
  obtain ⟨⟨a, u, h1, h2, h3, h4⟩, h5⟩ := h
  obtain ⟨us, k1, k2⟩ := AaR h5
  refine ⟨u :: us, ?_, fun j v hv => ?_⟩
  ·simp only [RsL]
   exact ⟨u, us, rfl, h4, k1⟩
  ·cases j with
   | zero => simp only [List.getElem?_cons_zero, Option.some.injEq] at hv; subst hv; exact ⟨a, h1, h3⟩
   | succ j =>
    obtain ⟨ad, e1, e2⟩ := k2 j v (by simpa using hv)
    refine ⟨ad, e1, ?_⟩
    rw [show i + (j + 1) = i + 1 + j from by omega]
    exact e2
theorem FW.sl (r : Ad) (m : Nat) (l : List D) : FW r (.sl m l) m l := fun w Z T F v hr h => by
 simp only [Rs] at h
 obtain ⟨A, c, rfl, _, _, hf⟩ := h
 obtain ⟨us, k1, k2⟩ := AaR hf
 exact ⟨us, ⟨A, c, rfl, fun j u hj => by simpa using k2 j u hj⟩, k1⟩
theorem FW.nil (r : Ad) (c : Nat) : FW r (.sc (.slice none 0 c)) 0 [] := fun w Z T F v hr h => by
 simp only [Rs] at h
 subst h
 exact ⟨[], ⟨none, c, rfl, fun j u hj => by simp at hj⟩, by simp only [RsL]⟩
theorem FW.row {r : Ad} {j e' s m : Nat} {l : List D} (hg : AP r j = some (.row e' s m l)) (hp : ∀ x ∈ l, x.plain) : FW r (.h j) m l := fun w Z T F v hr h => by
 simp only [Rs] at h
 obtain ⟨v', F1, F2, h1, h2, h3, h4, _⟩ := hr.get hg
 rw [h] at h1
 cases h1
 simp only [Ro] at h2
 obtain ⟨us, G', a1, a2, a3⟩ := h2
 refine ⟨us, ?_, (a2.rs hp).1⟩
 rcases Ow.form a1 with ⟨rfl, hn, hx⟩ | ⟨gg, cap, cur, rfl, hgp, hc, hs, hlen, ht⟩
 ·exact ⟨none, 0, by rw [hn], fun j u hj => by rw [hx] at hj; simp at hj⟩
 ·exact ⟨_, cap, rfl, fun j u hj => ⟨_, rfl, Ow.cells a1 (g := gg) rfl j u hj⟩⟩
theorem Yp {t ty e s bytes n m : Nat} {z : Value} {x y : D} {l l' : List D} {rr : Ad} {tg : A7 K} (hel : El P t e s bytes z) (hx : FW r x m l') (hl : l'.length = m * s) (h1 : ∀ d ∈ l', BR d) (hb : (n + m) * bytes ≤ 140737488355328) (hm : n + m ≤ 9223372036854775807)
  (hh : ∀ j ∈ held, heldOk r j → heldOk rr j)
  (hy : ∀ (w : World) (Z : Nat → Prop) (T : Nat → Option Value) (F : Nat → Nat) (v : Value), RL w Z T r F → Rs w Z T y v → ∃ us G F2, Ow w e s v n us ∧ RoL w Z T l us G ∧ RL w Z T rr F2 ∧ ∀ b, F b = G b + own v b + F2 b)
  (k : K (.h nx) ((nx, .row e s (n + m) (l ++ l')) :: rr) (nx + 1)) : Cf P #[t, t] ty y x held r nx K tg := by
 intro E w Z T F u v h hu hv
 obtain ⟨us, G, F2, a1, a2, a3, a4⟩ := hy w Z T F u h.roots hu
 obtain ⟨xs, b1, b2⟩ := hx w Z T F v h.roots hv
 obtain ⟨v', w', hrun, hK⟩ := app (P := P) (K := fun v' w' => Ow w' e s v' (n + m) (us ++ xs) ∧ Fr (fun b => u.ownBlock = some b) w w' ∧ (v'.ownBlock = u.ownBlock ∨ ∃ b, v'.ownBlock = some b ∧ w.heap.size ≤ b ∧ b < w'.heap.size)) (ty := ty) (tg := .mk _) hel a1 b1 (by rw [b2.len]; exact hl) (NG h.cell b2 h1) hb hm (fun v' w' c1 c2 c3 => ⟨c1, c2, c3⟩)
 obtain ⟨c1, c2, c3⟩ := hK
 rw [Ow.own a1] at c2 c3
 rw [Ow.own c1] at c3
 have hsame : ∀ b, b < w.heap.size → own u b = 0 → w'.heap[b]? = w.heap[b]? := fun b hb ho => c2.same b hb fun e => by rw [PD.2 e] at ho; cases ho
 have hT := Ey (v := v') (h.t nx (Nat.le_refl _))
 have hc : v'.oneCell' = true := by rcases Ow.form c1 with ⟨rfl, _⟩ | ⟨_, _, _, rfl, _⟩ <;> rfl
 have hzs : ∀ b, Z b → w'.heap[b]? = w.heap[b]? := fun b hb => by
  have h5 := h.zlt b hb; have := a4 b
  exact hsame b h5.1 (by omega)
 have hro : Ro w' Z (Ei T nx v') (.row e s (n + m) (l ++ l')) v' (fun b => G b + own v' b) := by
  simp only [Ro]
  refine ⟨us ++ xs, G, c1, ?_, fun b => rfl⟩
  have e1 := RoL.keep (w' := w') (fun _ h => h) hT _ _ _ (fun b hb => by
   rcases hb with hb | hb
   ·have := a4 b; have := h.one b; have := Nc u b
    exact hsame b (h.lt b (by omega)) (by omega)
   ·exact hzs b hb) a2
  have e2 := RoL.of (RsL.keep hzs (fun _ h => h) hT _ _ b2)
  have := e1.append e2
  have eq : (fun b => G b + 0) = G := rfl
  exact this
 obtain ⟨o1, o2⟩ := h.reown (held := held) a4 a3 hh c2 c3 hc hro
 exact ⟨v', w', hrun, _, _, _, _, _, _, o1, o2, by simp only [Rs]; exact Bi _ _ _, k⟩
theorem Rf {i j : Nat} (h : i ≠ j) (hr : heldOk r j) : heldOk (Ej r i) j := by unfold heldOk; rw [Jz h]; exact hr
theorem Jm {t ty e s bytes n m i : Nat} {z : Value} {x : D} {l l' : List D} {tg : A7 K} (hel : El P t e s bytes z) (hg : AP r i = some (.row e s n l)) (hx : FW r x m l') (hl : l'.length = m * s) (h1 : ∀ d ∈ l', BR d) (hb : (n + m) * bytes ≤ 140737488355328) (hm : n + m ≤ 9223372036854775807)
  (hh : i ∉ held) (k : K (.h nx) ((nx, .row e s (n + m) (l ++ l')) :: Ej r i) (nx + 1)) : Cf P #[t, t] ty (.h i) x held r nx K tg := by
 refine Yp hel hx hl h1 hb hm (fun j hj ho => Rf (fun e => hh (by rw [e]; exact hj)) ho) (fun w Z T F v hr hv => ?_) k
 simp only [Rs] at hv
 obtain ⟨v', F1, F2, a1, a2, a3, a4, _⟩ := hr.get hg
 rw [hv] at a1
 cases a1
 simp only [Ro] at a2
 obtain ⟨us, G, b1, b2, b3⟩ := a2
 exact ⟨us, G, F2, b1, b2, a4, fun b => by rw [a3, b3]⟩
theorem Yn {t ty e s bytes m : Nat} {z : Value} {x : D} {l' : List D} {tg : A7 K} (hel : El P t e s bytes z) (hx : FW r x m l') (hl : l'.length = m * s) (h1 : ∀ d ∈ l', BR d) (hb : m * bytes ≤ 140737488355328) (hm : m ≤ 9223372036854775807)
  (k : K (.h nx) ((nx, .row e s m l') :: r) (nx + 1)) : Cf P #[t, t] ty (.sc (.slice none 0 0)) x held r nx K tg := by
 refine Yp (n := 0) (l := []) (rr := r) hel hx hl h1 (by rw [Nat.zero_add]; exact hb) (by omega) (fun j hj ho => ho) (fun w Z T F v hr hv => ?_) (by simpa using k)
 simp only [Rs] at hv
 subst hv
 exact ⟨[], fun _ => 0, F, Ow.nil _ _ _, by simp only [RoL]; exact ⟨trivial, fun _ => trivial⟩, hr, fun b => by simp [own, blk]⟩

end
def Om {α : Type} (o : Option α) (K : α → Prop) (_ : A7 K) : Prop := ∃ x, o = some x ∧ K x
theorem Aa9 {α : Type} (x : α) (K : α → Prop) (t : A7 K) : Om (some x) K t = K x := by simp [Om]
/-! ### operations that look at no memory, by their kinds -/
def Ho (i : Nat) (ds : List D) : Option (Prop × D) := match ds with
 | [.tup l] => (l[i]?).map fun d => (True, d)
 | _ => Df (.ext i) ds
def Ew (off size : Nat) (ds : List D) : Option (Prop × D) := match ds with
 | [.agg l] => some (True, .agg ((l.drop off).take size))
 | _ => Df (.fld off size true) ds
def Hl (off size : Nat) (ds : List D) : Option (Prop × D) := match ds with
 | [.agg l] => (l[off]?).map fun d => (True, d)
 | _ => Df (.fld off size false) ds
def Hm (off : Nat) (ds : List D) : Option (Prop × D) := match ds with
 | [.pt l] => some (True, .pt (l.drop off))
 | [.hp i o] => some (True, .hp i (o + off))
 | _ => Df (.fad off) ds
def Hf (size : Nat) (ds : List D) : Option (Prop × D) := match ds with
 | [.sl n l, .sc (.int _ j)] => some (0 ≤ j ∧ j < n, .pt (l.drop (j.toNat * size)))
 | _ => Df (.ixs size) ds
def Hg (n size : Nat) (ds : List D) : Option (Prop × D) := match ds with
 | [.pt l, .sc (.int _ j)] => some (0 ≤ j ∧ j < n, .pt (l.drop (j.toNat * size)))
 | [.hp i o, .sc (.int _ j)] => some (0 ≤ j ∧ j < n, .hp i (o + j.toNat * size))
 | _ => Df (.ixa n size) ds
def Eu (n size : Nat) (ds : List D) : Option (Prop × D) := match ds with
 | [.agg l, .sc (.int _ j)] => some (0 ≤ j ∧ j < n, .agg ((l.drop (j.toNat * size)).take size))
 | _ => Df (.ixv n size true) ds
def He (n size : Nat) (ds : List D) : Option (Prop × D) := match ds with
 | [.agg l, .sc (.int _ j)] => some ((0 ≤ j ∧ j < n) ∧ j.toNat * size < l.length, (l[j.toNat * size]?).getD .dead)
 | _ => Df (.ixv n size false) ds
def GM (size : Nat) (lo hi mx : Bool) (ds : List D) : Option (Prop × D) := match lo, hi, mx, ds with
 | false, false, false, [.sl n l] => dsl n l size 0 n n
 | true, false, false, [.sl n l, .sc (.int _ lo)] => dsl n l size lo n n
 | false, true, false, [.sl n l, .sc (.int _ hi)] => dsl n l size 0 hi n
 | true, true, false, [.sl n l, .sc (.int _ lo), .sc (.int _ hi)] => dsl n l size lo hi n
 | false, true, true, [.sl n l, .sc (.int _ hi), .sc (.int _ mx)] => dsl n l size 0 hi mx
 | true, true, true, [.sl n l, .sc (.int _ lo), .sc (.int _ hi), .sc (.int _ mx)] => dsl n l size lo hi mx
 | lo, hi, mx, ds => Df (.sls size lo hi mx) ds
def Ha (ds : List D) : Option (Prop × D) := match ds with
 | [.sl n l] => some (True, .sc (.int .i64 n))
 | _ => Df .len ds
def Es (ds : List D) : Option (Prop × D) := match ds with
 | [.sc (.bool c), a, b] => (dif c (Bq a).2 (Bq b).2).map fun d => ((c = true → (Bq a).1 = true) ∧ (c = false → (Bq b).1 = true), d)
 | _ => Df .pick ds
def Et (ds : List D) : Option (Prop × D) := match ds with
 | [.pt l] => some (True, .pt l)
 | [.hp i o] => some (True, .hp i o)
 | [.fn f a b] => some (True, .fn f a b)
 | [.ifc t d] => some (True, .ifc t d)
 | _ => Df .nilc ds
def Dc (k : NK) (neg : Bool) (ds : List D) : Option (Prop × D) := match k, ds with
 | .pt, [.pt l] => some (True, .sc (.bool (false != neg)))
 | .pt, [.hp i o] => some (True, .sc (.bool (false != neg)))
 | .fn, [.fn _ _ _] => some (True, .sc (.bool (false != neg)))
 | .fc, [.ifc _ _] => some (True, .sc (.bool (false != neg)))
 | k, ds => Df (.isnil k neg) ds
def ET : PF → List D → Option (Prop × D)
 | .mv, ds => match ds with
  | [d] => some (True, d)
  | _ => Df .mv ds
 | .ext i, ds => Ho i ds
 | .fld off size true, ds => Ew off size ds
 | .fld off size false, ds => Hl off size ds
 | .fad off, ds => Hm off ds
 | .ixs size, ds => Hf size ds
 | .ixa n size, ds => Hg n size ds
 | .ixv n size true, ds => Eu n size ds
 | .ixv n size false, ds => He n size ds
 | .sls size lo hi mx, ds => GM size lo hi mx ds
 | .len, ds => Ha ds
 | .lenc n, ds => match ds with
  | [d] => some (True, .sc (.int .i64 n))
  | _ => Df (.lenc n) ds
 | .fn f k, ds => match f with
  | .func f => some (True, .fn f (ds.take k) (ds.drop k))
  | f => Df (.fn f k) ds
 | .ifc t, ds => match ds with
  | [d] => some (True, .ifc t d)
  | _ => Df (.ifc t) ds
 | .pick, ds => Es ds
 | .nilc, ds => Et ds
 | .isnil k neg, ds => Dc k neg ds
 | .build zero places, ds => (BL places ds (zero.map .sc)).map fun cs => (True, .agg cs)
 | .bin op, ds => Df (.bin op) ds
 | .binb op, ds => Df (.binb op) ds
 | .not, ds => Df .not ds
 | .neg, ds => Df .neg ds
 | .compl, ds => Df .compl ds
 | .conv k, ds => Df (.conv k) ds
 | .cvs, ds => Df .cvs ds
 | .ixb, ds => Df .ixb ds
 | .slt a b, ds => Df (.slt a b) ds
 | .sla n s a b, ds => Df (.sla n s a b) ds
 | .lens, ds => Df .lens ds
 | .cap, ds => Df .cap ds
 | .max, ds => Df .max ds
 | .min, ds => Df .min ds
theorem VX (f : PF) (ds : List D) : ET f ds = dev f ds := by
 cases f
 case fld off size b => cases b <;> simp only [ET, Ew, Hl] <;> split <;> simp_all [dev] <;> split <;> simp_all
 case ixv n size b => cases b <;> simp only [ET, Eu, He] <;> split <;> simp_all [dev]
 case sls size lo hi mx => simp only [ET, GM]; split <;> simp_all [dev]
 case ext i => simp only [ET, Ho]; split <;> simp_all [dev]; split <;> simp_all
 case pick => simp only [ET, Es]; split <;> simp_all [dev]; split <;> simp_all
 case build zero places => simp only [ET, dev]; cases BL places ds (List.map D.sc zero) <;> rfl
 case fn f k => cases f <;> simp [ET, dev]
 case isnil k neg => simp only [ET, Dc]; split <;> simp_all [dev]
 all_goals first
  | (simp only [ET, dev]; done)
  | (simp only [ET, Hm, Hf, Hg, Ha, Et]; split <;> simp_all [dev])

/-! ### operations -/
inductive PR where
 | val (c : Prop) (d : D)
 | unk (c : Prop) (n : Nat) (neg : Bool)
 | frz (c : Prop) (i e s n : Nat) (l : List D) (d : D) (o : Option CutR)
def Eo (r : Ad) (f : PF) (u : Prop × List D) : Option PR := match Gi r f u.2 with
 | .val c d => some (.val (u.1 ∧ c) d)
 | .unk n neg => some (.unk u.1 n neg)
 | .frz i e s n l rest => match dev f (.sl n l :: rest) with
  | some (c, d) => some (.frz (u.1 ∧ c) i e s n l d (Gj s n f rest))
  | none => none
 | .stuck => none
def xpr (r : Ad) (f : PF) (u : Prop × List D) : Option PR := match ET f u.2 with
 | some (c, d) => some (.val (u.1 ∧ c) d)
 | none => Eo r f u
def xpk (p : PR) (r : Ad) (nx : Nat) (K : D → Ad → Nat → Prop) (_ : A7 K) : Prop := match p with
 | .val c d => Chk c (K d r nx) (.mk _)
 | .unk c n neg => Chk c (∀ b : Bool, (0 < n → b = false) → K (.sc (.bool (b != neg))) r nx) (.mk _)
 | .frz c i e s n l d o => Chk c (Or2 (Chk (∀ x ∈ l, x.plain) (K d (Dn r i (.sl n l)) nx) (.mk _)) (GL o i e s l r nx K) (.mk _) (.mk _)) (.mk _)
theorem Aak (c : Prop) (d : D) (r : Ad) (nx : Nat) (K : D → Ad → Nat → Prop) (t : A7 K) : xpk (.val c d) r nx K t = Chk c (K d r nx) (.mk _) := rfl
theorem Aal (c : Prop) (n : Nat) (neg : Bool) (r : Ad) (nx : Nat) (K : D → Ad → Nat → Prop) (t : A7 K) : xpk (.unk c n neg) r nx K t = Chk c (∀ b : Bool, (0 < n → b = false) → K (.sc (.bool (b != neg))) r nx) (.mk _) := rfl
theorem Aam (c : Prop) (i e s n : Nat) (l : List D) (d : D) (o : Option CutR) (r : Ad) (nx : Nat) (K : D → Ad → Nat → Prop) (t : A7 K) : xpk (.frz c i e s n l d o) r nx K t = Chk c (Or2 (Chk (∀ x ∈ l, x.plain) (K d (Dn r i (.sl n l)) nx) (.mk _)) (GL o i e s l r nx K) (.mk _) (.mk _)) (.mk _) := rfl
theorem ofrz {X Y : Prop} {t : Tag X} {u : Tag Y} (h : X) : Or2 X Y t u := .inl h
theorem ocut {X Y : Prop} {t : Tag X} {u : Tag Y} (h : Y) : Or2 X Y t u := .inr h
theorem xpk_dp {f : PF} {ds : List D} {r : Ad} {nx : Nat} {K : D → Ad → Nat → Prop} {t : A7 K} {p : PR} (h : xpr r f (uof f ds) = some p) (k : xpk p r nx K t) : dp f ds r nx K := by
 unfold xpr at h
 rw [VX] at h
 unfold dp
 cases hd : dev f (uof f ds).2 with
 | some q =>
  obtain ⟨c, d⟩ := q
  rw [hd] at h
  cases h
  exact k
 | none =>
  rw [hd] at h
  simp only [Eo] at h ⊢
  cases hr : Gi r f (uof f ds).2 with
  | val c d => rw [hr] at h; cases h; exact k
  | unk n neg => rw [hr] at h; cases h; exact k
  | stuck => rw [hr] at h; cases h
  | frz i e s n l rest =>
   rw [hr] at h
   simp only at h ⊢
   cases hq : dev f (.sl n l :: rest) with
   | none => rw [hq] at h; cases h
   | some q =>
    obtain ⟨c, d⟩ := q
    rw [hq] at h
    cases h
    exact k
inductive PtC where
 | pt (l : List D)
 | box (i off : Nat) (e : TypeId) (l : List D)
 | row (i off : Nat) (e s n : Nat) (l : List D)
def ptr (r : Ad) : D → Option PtC
 | .pt l => some (.pt l)
 | .hp i off => match AP r i with
  | some (.box e l) => some (.box i off e l)
  | some (.row e s n l) => some (.row i off e s n l)
  | _ => none
 | _ => none
def dvp (de : DEnv) (r : Ad) (x : Operand) : Option (Bool × PtC) := match dv de r x with
 | some d => match ptr r (Bq d).2 with
  | some p => some ((Bq d).1, p)
  | none => none
 | none => none
def dtk (v : D) (c : List D → D) (l : List D) (i off : Nat) (r : Ad) (nx : Nat) (K : D → Ad → Nat → Prop) (_ : A7 K) : Prop := Ed c l i off r nx v K
def H9 (p : Bool × PtC) (r : Ad) (nx : Nat) (K : D → Ad → Nat → Prop) (_ : A7 K) : Prop := match p with
 | (g, .pt l) => Chk (g = true) (DLd l[0]? (fun v => K v r nx) (.mk _)) (.mk _)
 | (g, .box i off e l) => Chk (g = true) (DLd l[off]? (fun v => dtk v (.box e) l i off r nx K (.mk _)) (.mk _)) (.mk _)
 | (g, .row i off e s n l) => Chk (g = true) (DLd l[off]? (fun v => dtk v (.row e s n) l i off r nx K (.mk _)) (.mk _)) (.mk _)
def G8 (n : Nat) : Bool × PtC → Prop × D
 | (g, .pt l) => (g = true ∧ n ≤ l.length, .agg (l.take n))
 | (g, .box i off e l) => (g = true ∧ off + n ≤ l.length ∧ ∀ c ∈ (l.drop off).take n, c.plain, .agg ((l.drop off).take n))
 | (g, .row i off e s m l) => (g = true ∧ off + n ≤ l.length ∧ ∀ c ∈ (l.drop off).take n, c.plain, .agg ((l.drop off).take n))
inductive BsC where
 | nil (n : Nat)
 | bytes (n : Nat) (l : List D)
def bsc (r : Ad) : D → Option BsC
 | .sl n l => some (.bytes n l)
 | .sc v => match v with
  | .slice none n c => some (.nil n)
  | _ => none
 | .h i => match AP r i with
  | some (.row e s n l) => some (.bytes n l)
  | _ => none
 | _ => none
def Ia (g : Bool) (p : BsC) (K : List UInt8 → Prop) (_ : A7 K) : Prop := match p with
 | .nil n => Chk (g = true ∧ n = 0) (K []) (.mk _)
 | .bytes n l => Chk (g = true) (DBs l n K (.mk _)) (.mk _)
def xst (n : Nat) (agg : Bool) (held : List Nat) (r : Ad) (v : Bool × D) : Bool × PtC → Option (Prop × Ad)
 | (g, .pt l) => none
 | (g, .box i off e l) => match agg with
  | false => some ((g = true ∧ v.1 = true) ∧ (off < l.length ∧ BR v.2) ∧ i ∉ held, Dn r i (.box e (l.set off v.2)))
  | true => match v.2 with
   | .agg cs => some (((g = true ∧ v.1 = true) ∧ cs.length = n ∧ off + n ≤ l.length) ∧ (∀ c ∈ cs, BR c) ∧ i ∉ held, Dn r i (.box e (CE l off cs)))
   | _ => none
 | (g, .row i off e s m l) => match agg with
  | false => some ((g = true ∧ v.1 = true) ∧ (off < l.length ∧ BR v.2) ∧ i ∉ held, Dn r i (.row e s m (l.set off v.2)))
  | true => match v.2 with
   | .agg cs => some (((g = true ∧ v.1 = true) ∧ cs.length = n ∧ off + n ≤ l.length) ∧ (∀ c ∈ cs, BR c) ∧ i ∉ held, Dn r i (.row e s m (CE l off cs)))
   | _ => none
def dvo (de : DEnv) (r : Ad) (x : Operand) : Option (Bool × D) := match dv de r x with
 | some d => some (Bq d)
 | none => none
def dvu (de : DEnv) (r : Ad) (xs : List Operand) : Option (Prop × List D) := match dvs de r xs with
 | some ds => some (uo ds)
 | none => none
def Hz : D → Option (FuncId × List D × List D)
 | .fn f a b => some (f, a, b)
 | _ => none
def EC : D → Option Bool
 | .sc v => match v with
  | .bool b => some b
  | _ => none
 | _ => none
def dGd : D → Bool → Option Bool
 | .sc v, _ => match v with
  | .bool b => some b
  | _ => none
 | .opt g d, want => match d with
  | .sc v => match v with
   | .bool b => some (cond g b (!want))
   | _ => cond g none (some (!want))
  | _ => cond g none (some (!want))
 | _, _ => none
theorem dGd_eq (d : D) (want : Bool) : dGd d want = dgv (some d) want := by
 cases d
 case sc v => cases v <;> rfl
 case opt g d =>
  cases d
  case sc v => cases v <;> rfl
  all_goals rfl
 all_goals rfl
def dgb (de : DEnv) (g : Nat) (want : Bool) : Option Bool := match AZ de g with
 | some d => dGd d want
 | none => none
def xgp (f : PF) (u : Prop × List D) : Option (Prop × D) := match ET f u.2 with
 | some (c, d) => some (u.1 ∧ c, d)
 | none => none
inductive GLd where
 | pt (g : Bool) (l : List D)
 | fork
def glc (d : Bool × D) : GLd := match d.2 with
 | .pt l => .pt d.1 l
 | _ => .fork
def Dk (o : Option (Prop × D)) (b : Bool) (dd : Bool) (K : D → Prop) (X : Prop) (Y : Prop) (_ : A7 K) (_ : Tag X) (_ : Tag Y) : Prop := match o with
 | some (c, v) => Chk (dd = true ∧ (b = true → c)) (K (.opt b v)) (.mk _)
 | none => Br b X Y (.mk _) (.mk _)
theorem Qe (c : Prop) (v : D) (b : Bool) (dd : Bool) (K : D → Prop) (X : Prop) (Y : Prop) (t : A7 K) (u : Tag X) (s : Tag Y) : Dk (some (c, v)) b dd K X Y t u s = Chk (dd = true ∧ (b = true → c)) (K (.opt b v)) (.mk _) := rfl
theorem Qg (b : Bool) (dd : Bool) (K : D → Prop) (X : Prop) (Y : Prop) (t : A7 K) (u : Tag X) (s : Tag Y) : Dk none b dd K X Y t u s = Br b X Y (.mk _) (.mk _) := rfl
def Dl (o : GLd) (b : Bool) (dd : Bool) (K : D → Prop) (X : Prop) (Y : Prop) (_ : A7 K) (_ : Tag X) (_ : Tag Y) : Prop := match o with
 | .pt g l => Chk (dd = true ∧ (b = true → g = true)) (CZ b l[0]? (fun v => K (.opt b v)) (.mk _)) (.mk _)
 | .fork => Br b X Y (.mk _) (.mk _)
theorem VW (g : Bool) (l : List D) (b : Bool) (dd : Bool) (K : D → Prop) (X : Prop) (Y : Prop) (t : A7 K) (u : Tag X) (s : Tag Y) : Dl (.pt g l) b dd K X Y t u s = Chk (dd = true ∧ (b = true → g = true)) (CZ b l[0]? (fun v => K (.opt b v)) (.mk _)) (.mk _) := rfl
theorem Qh (b : Bool) (dd : Bool) (K : D → Prop) (X : Prop) (Y : Prop) (t : A7 K) (u : Tag X) (s : Tag Y) : Dl .fork b dd K X Y t u s = Br b X Y (.mk _) (.mk _) := rfl
def MOp.xwp (P : Program) (held : List Nat) : MOp → DEnv → Ad → Nat → KD → Prop
 | .p d f xs, de, r, nx, K => Om (dvs de r xs) (fun ds => Om (xpr r f (uof f ds)) (fun p => xpk p r nx (fun v r' nx' => K (BM de d v) r' nx') (.mk _)) (.mk _)) (.mk _)
 | .ld d x, de, r, nx, K => Om (dvp de r x) (fun p => H9 p r nx (fun v r' nx' => K (BM de d v) r' nx') (.mk _)) (.mk _)
 | .ldn d n x, de, r, nx, K => Om (dvp de r x) (fun p => Chk (G8 n p).1 (K (BM de d (G8 n p).2) r nx) (.mk _)) (.mk _)
 | .bs d x, de, r, nx, K => Om (dvo de r x) (fun u => Om (bsc r u.2) (fun p => Ia u.1 p (fun xs => K (BM de d (.sc (.string ⟨xs.toArray⟩))) r nx) (.mk _)) (.mk _)) (.mk _)
 | .st n agg x v, de, r, nx, K => Om (dvp de r x) (fun p => Om (dvo de r v) (fun v => Om (xst n agg held r v p) (fun q => Chk q.1 (K de q.2 nx) (.mk _)) (.mk _)) (.mk _)) (.mk _)
 | .new d t zero, de, r, nx, K => K (BM de d (.hp nx 0)) ((nx, .box t (zero.map .sc)) :: r) (nx + 1)
 | .box d t v, de, r, nx, K => Om (dvo de r v) (fun u => Om (CO u.2) (fun cs => Chk (u.1 = true) (K (BM de d (.hp nx 0)) ((nx, .box t cs) :: r) (nx + 1)) (.mk _)) (.mk _)) (.mk _)
 | .bsl d t len zero places vs, de, r, nx, K => Om (dvu de r vs) (fun u => Om (BL places u.2 (zero.map .sc)) (fun cs =>
   Chk (u.1 ∧ cs.length = len * (if len = 0 then 1 else cs.length / len) ∧ len ≤ 9223372036854775807) (K (BM de d (.h nx)) ((nx, rowOf t len cs) :: r) (nx + 1)) (.mk _)) (.mk _)) (.mk _)
 | .app d ats ty s x, de, r, nx, K => Om (dvo de r s) (fun s => Om (dvo de r x) (fun x => Chk (s.1 = true ∧ x.1 = true) (Cf P ats ty s.2 x.2 held r nx (fun v r' nx' => K (BM de d v) r' nx') (.mk _)) (.mk _)) (.mk _)) (.mk _)
 | .call d f xs, de, r, nx, K => Om (dvu de r xs) (fun u => Chk u.1 (AO P f u.2 held r nx (fun v r' nx' => K (DF de d v) r' nx') (.mk _)) (.mk _)) (.mk _)
 | .callv d f xs, de, r, nx, K => Om (dvo de r f) (fun f => Om (Hz f.2) (fun g => Om (dvu de r xs) (fun u => Chk (f.1 = true ∧ u.1 ∧ LJ P g.1 = true) (AO P g.1 (g.2.1 ++ u.2 ++ g.2.2) held r nx (fun v r' nx' => K (DF de d v) r' nx') (.mk _)) (.mk _)) (.mk _)) (.mk _)) (.mk _)
 | .gen d o, de, r, nx, K => CB P o de held r nx (fun v r' nx' => K (DF de d v) r' nx') (.mk _)
 | .genu o, de, r, nx, K => BC P o de held r nx (fun r' nx' => K de r' nx') (.mk _)
 | .gd g want (some d) (.p d' f xs), de, r, nx, K => Om (dgb de g want) (fun b => Om (dvs de r xs) (fun ds => Dk (xgp f (uof f ds)) (b == want) (Nat.beq d d') (fun v => K (BM de d v) r nx) (MOp.xwp P held (.p d' f xs) de r nx K) (K (BM de d .dead) r nx) (.mk _) (.mk _) (.mk _)) (.mk _)) (.mk _)
 | .gd g want (some d) (.ld d' x), de, r, nx, K => Om (dgb de g want) (fun b => Om (dvo de r x) (fun u => Dl (glc u) (b == want) (Nat.beq d d') (fun v => K (BM de d v) r nx) (MOp.xwp P held (.ld d' x) de r nx K) (K (BM de d .dead) r nx) (.mk _) (.mk _) (.mk _)) (.mk _)) (.mk _)
 | .gd g want (some d) (.call (some d') f xs), de, r, nx, K => Om (dgb de g want) (fun b => Om (dvu de r xs) (fun u => Chk (d = d') (DGC (b == want) (Chk u.1 (AO P f u.2 held r nx (fun v r' nx' => K (BM de d (.opt (b == want) v)) r' nx') (.mk _)) (.mk _)) (fun v => K (BM de d v) r nx) (.mk _) (.mk _)) (.mk _)) (.mk _)) (.mk _)
 | .gd g want d o, de, r, nx, K => Om (dgb de g want) (fun b => Br (b == want) (o.xwp P held de r nx K) (K (Ee de d) r nx) (.mk _) (.mk _)) (.mk _)
theorem PY {de : DEnv} {g : Nat} {want b : Bool} (h : dgb de g want = some b) : dgv (AZ de g) want = some b := by
 unfold dgb at h
 split at h
 ·rename_i d hd
  rw [hd, ← dGd_eq]
  exact h
 ·cases h
theorem Sr {de : DEnv} {r : Ad} {xs : List Operand} {u : Prop × List D} (h : dvu de r xs = some u) : ∃ ds, dvs de r xs = some ds ∧ u = uo ds := by
 unfold dvu at h
 split at h
 ·cases h; exact ⟨_, ‹_›, rfl⟩
 ·cases h
theorem Kw {de : DEnv} {r : Ad} {x : Operand} {u : Bool × D} (h : dvo de r x = some u) : ∃ d, dv de r x = some d ∧ u = Bq d := by
 unfold dvo at h
 split at h
 ·cases h; exact ⟨_, ‹_›, rfl⟩
 ·cases h
theorem WL {de : DEnv} {r : Ad} {x : Operand} {u : Bool × PtC} (h : dvp de r x = some u) : ∃ d, dv de r x = some d ∧ u.1 = (Bq d).1 ∧ ptr r (Bq d).2 = some u.2 := by
 unfold dvp at h
 split at h
 ·split at h
  ·cases h; exact ⟨_, ‹_›, rfl, ‹_›⟩
  ·cases h
 ·cases h
theorem Wj {r : Ad} {d : D} {p : PtC} (h : ptr r d = some p) : match p with
  | .pt l => d = .pt l
  | .box i off e l => d = .hp i off ∧ AP r i = some (.box e l)
  | .row i off e s n l => d = .hp i off ∧ AP r i = some (.row e s n l) := by
 cases d <;> simp only [ptr] at h <;> try cases h
 ·rfl
 ·rename_i i off
  cases hr : AP r i with
  | none => rw [hr] at h; cases h
  | some d =>
   rw [hr] at h
   cases d <;> simp only at h <;> cases h
   ·exact ⟨rfl, hr⟩
   ·exact ⟨rfl, hr⟩
theorem Jr {α β : Type} {p : α × β} {a : α} {b : β} (h1 : a = p.1) (h2 : p.2 = b) : p = (a, b) := by subst h1; subst h2; rfl
theorem MOp.xwp_dwp {P : Program} {held : List Nat} : ∀ {m : MOp} {de : DEnv} {r : Ad} {nx : Nat} {K : KD}, m.xwp P held de r nx K → m.dwp P held de r nx K
 | .p d f xs, de, r, nx, K, h => by
  unfold MOp.xwp at h
  obtain ⟨ds, hds, p, hp, h⟩ := h
  simp only [MOp.dwp, hds]
  exact xpk_dp hp h
 | .ld d x, de, r, nx, K, h => by
  unfold MOp.xwp at h
  obtain ⟨⟨g, p⟩, hu, h⟩ := h
  obtain ⟨dx, hdx, h1, h2⟩ := WL hu
  simp only at h1 h2
  have hp := Wj h2
  cases p with
  | pt l =>
   simp only at hp
   have := Jr h1 hp
   simp only [MOp.dwp, hdx, this]
   exact h
  | box i off e l =>
   simp only at hp
   have := Jr h1 hp.1
   simp only [MOp.dwp, hdx, this, hp.2]
   exact h
  | row i off e s n l =>
   simp only at hp
   have := Jr h1 hp.1
   simp only [MOp.dwp, hdx, this, hp.2]
   exact h
 | .ldn d n x, de, r, nx, K, h => by
  unfold MOp.xwp at h
  obtain ⟨⟨g, p⟩, hu, h⟩ := h
  obtain ⟨dx, hdx, h1, h2⟩ := WL hu
  simp only at h1 h2
  have hp := Wj h2
  cases p with
  | pt l =>
   simp only at hp
   have := Jr h1 hp
   simp only [MOp.dwp, hdx, this]
   exact h
  | box i off e l =>
   simp only at hp
   have := Jr h1 hp.1
   simp only [MOp.dwp, hdx, this, hp.2]
   exact h
  | row i off e s n l =>
   simp only at hp
   have := Jr h1 hp.1
   simp only [MOp.dwp, hdx, this, hp.2]
   exact h
 | .bs d x, de, r, nx, K, h => by
  unfold MOp.xwp at h
  obtain ⟨u, hu, p, hp, h⟩ := h
  obtain ⟨dx, hdx, rfl⟩ := Kw hu
  obtain ⟨g, d0, hgd⟩ : ∃ g d0, Bq dx = (g, d0) := ⟨_, _, rfl⟩
  rw [hgd] at h hp
  simp only [MOp.dwp, hdx, hgd]
  cases d0 <;> simp only [bsc] at hp <;> try cases hp
  case sc v =>
   split at hp
   ·cases hp; exact h
   ·cases hp
  case sl n l => exact h
  case h i =>
   split at hp
   ·rename_i hg
    cases hp
    simp only [hg]
    exact h
   ·cases hp
 | .st n agg x v, de, r, nx, K, h => by
  unfold MOp.xwp at h
  obtain ⟨⟨g, p⟩, hu, v, hv, q, hq, h⟩ := h
  obtain ⟨dx, hdx, h1, h2⟩ := WL hu
  obtain ⟨dv', hdv, rfl⟩ := Kw hv
  simp only at h1 h2
  have hp := Wj h2
  obtain ⟨g', v0, hgv⟩ : ∃ g d0, Bq dv' = (g, d0) := ⟨_, _, rfl⟩
  rw [hgv] at hq
  cases p with
  | pt l => simp [xst] at hq
  | box i off e l =>
   simp only at hp
   have := Jr h1 hp.1
   simp only [MOp.dwp, hdx, hdv, this, hgv, hp.2]
   simp only [xst] at hq
   cases agg with
   | false => simp only at hq; cases hq; exact h
   | true => 
    simp only at hq
    split at hq
    ·cases hq; exact h
    ·cases hq
  | row i off e s m l =>
   simp only at hp
   have := Jr h1 hp.1
   simp only [MOp.dwp, hdx, hdv, this, hgv, hp.2]
   simp only [xst] at hq
   cases agg with
   | false => simp only at hq; cases hq; exact h
   | true => 
    simp only at hq
    split at hq
    ·cases hq; exact h
    ·cases hq
 | .new d t zero, de, r, nx, K, h => by unfold MOp.xwp at h; exact h
 | .box d t v, de, r, nx, K, h => by
  unfold MOp.xwp at h
  obtain ⟨u, hu, cs, hcs, h⟩ := h
  obtain ⟨dx, hdx, rfl⟩ := Kw hu
  simp only [MOp.dwp, hdx, hcs]
  exact h
 | .bsl d t len zero places vs, de, r, nx, K, h => by
  unfold MOp.xwp at h
  obtain ⟨u, hu, cs, hcs, h⟩ := h
  obtain ⟨ds, hds, rfl⟩ := Sr hu
  simp only [MOp.dwp, hds, hcs]
  exact h
 | .app d ats ty s x, de, r, nx, K, h => by
  unfold MOp.xwp at h
  obtain ⟨u, hu, u', hu', h⟩ := h
  obtain ⟨ds, hds, rfl⟩ := Kw hu
  obtain ⟨dx, hdx, rfl⟩ := Kw hu'
  simp only [MOp.dwp, hds, hdx]
  exact h
 | .call d f xs, de, r, nx, K, h => by
  unfold MOp.xwp at h
  obtain ⟨u, hu, h⟩ := h
  obtain ⟨ds, hds, rfl⟩ := Sr hu
  simp only [MOp.dwp, hds]
  exact h
 | .callv d f xs, de, r, nx, K, h => by
  unfold MOp.xwp at h
  obtain ⟨u, hu, ⟨f', a, b⟩, hf, u', hu', h⟩ := h
  obtain ⟨dx, hdx, rfl⟩ := Kw hu
  obtain ⟨ds, hds, rfl⟩ := Sr hu'
  simp only [MOp.dwp, hdx, hds]
  unfold Hz at hf
  split at hf
  ·rename_i heq
   cases hf
   have := Jr (p := Bq dx) rfl heq
   rw [this]
   exact h
  ·cases hf
 | .gen d o, de, r, nx, K, h => by unfold MOp.xwp at h; exact h
 | .genu o, de, r, nx, K, h => by unfold MOp.xwp at h; exact h
 | .gd g want none o, de, r, nx, K, h => by
  unfold MOp.xwp at h
  obtain ⟨b, hb, h⟩ := h
  unfold MOp.dwp
  rw [PY hb]
  simp only
  exact ⟨fun ht => MOp.xwp_dwp (h.1 ht), h.2⟩
 | .gd g want (some d) o, de, r, nx, K, h => by
  have gen : Om (dgb de g want) (fun b => Br (b == want) (o.xwp P held de r nx K) (K (Ee de (some d)) r nx) (.mk _) (.mk _)) (.mk _) → (∀ d' f xs, o ≠ .p d' f xs) → (∀ d' x, o ≠ .ld d' x) → (∀ d' f xs, o ≠ .call (some d') f xs) → (MOp.gd g want (some d) o).dwp P held de r nx K := by
   rintro ⟨b, hb, h⟩ n1 n2 n3
   unfold MOp.dwp
   rw [PY hb]
   simp only
   split
   ·exact absurd rfl (n1 _ _ _)
   ·exact absurd rfl (n2 _ _)
   ·exact absurd rfl (n3 _ _ _)
   ·exact ⟨fun ht => MOp.xwp_dwp (h.1 ht), h.2⟩
  cases o with
  | p d' f xs =>
   unfold MOp.xwp at h
   obtain ⟨b, hb, ds, hds, h⟩ := h
   unfold MOp.dwp
   rw [PY hb]
   simp only [hds]
   unfold xgp at h
   rw [VX] at h
   cases hd : dev f (uof f ds).2 with
   | none =>
    rw [hd] at h
    simp only [Qg] at h
    exact ⟨fun ht => MOp.xwp_dwp (h.1 ht), h.2⟩
   | some q =>
    obtain ⟨c, v⟩ := q
    rw [hd] at h
    simp only [Qe] at h
    exact ⟨⟨Nat.eq_of_beq_eq_true h.1.1, h.1.2⟩, h.2⟩
  | ld d' x =>
   unfold MOp.xwp at h
   obtain ⟨b, hb, u, hu, h⟩ := h
   obtain ⟨dx, hdx, rfl⟩ := Kw hu
   unfold MOp.dwp
   rw [PY hb]
   simp only [hdx]
   obtain ⟨g', d0, hgd⟩ : ∃ g d0, Bq dx = (g, d0) := ⟨_, _, rfl⟩
   rw [hgd] at h ⊢
   unfold glc at h
   cases d0 <;> simp only [Qh, VW] at h ⊢
   case pt l => exact ⟨⟨Nat.eq_of_beq_eq_true h.1.1, h.1.2⟩, h.2⟩
   all_goals exact ⟨fun ht => MOp.xwp_dwp (h.1 ht), h.2⟩
  | call d0 f xs =>
   cases d0 with
   | none => exact gen (by unfold MOp.xwp at h; exact h) (by simp) (by simp) (by simp)
   | some d' =>
    unfold MOp.xwp at h
    obtain ⟨b, hb, u, hu, h⟩ := h
    obtain ⟨ds, hds, rfl⟩ := Sr hu
    unfold MOp.dwp
    rw [PY hb]
    simp only [hds]
    exact h
  | _ => exact gen (by unfold MOp.xwp at h; exact h) (by simp) (by simp) (by simp)

/-! ### code -/
def CX (P : Program) : List MOp → DEnv → Ad → Nat → KD → Prop
 | [], de, r, nx, K => K de r nx
 | o :: l, de, r, nx, K => o.xwp P [] de r nx (fun de r nx => CX P l de r nx K)
def Dq (m : MOp) (done : List MOp) : List MOp := if DV m && BH m then m :: done else done
def DX (de : DEnv) (r : Ad) (m : MOp) (held : List Nat) : List Nat := if DV m && BH m then C9 de r m ++ held else held
def BK : DT → Bool
 | .nil => false
 | .one s l => match s.chk with
  | [] => BK l
  | _ :: _ => true
 | .alt _ _ _ _ => true
def kp {α : Type} : Bool → List α → List α
 | true, l => l
 | false, _ => []
def xdr (P : Program) : DT → List MOp → List Nat → DEnv → Ad → Nat → KD → Prop
 | .nil, _, _, de, r, nx, K => K de r nx
 | .one s l, done, held, de, r, nx, K => Chk (Az (FQ s.m) done = true ∧ BA r held)
   (s.m.xwp P held de r nx (fun de' r' nx' => Chk (BB s.chk (Dq s.m done)) (xdr P l (kp (BK l) (Dq s.m done)) (kp (BK l) (DX de r s.m held)) de' r' nx' K) (.mk _))) (.mk _)
 | .alt s l s' l', done, held, de, r, nx, K => Alt (Chk (Az (FQ s.m) done = true ∧ BA r held)
   (s.m.xwp P held de r nx (fun de' r' nx' => Chk (BB s.chk (Dq s.m done)) (xdr P l (kp (BK l) (Dq s.m done)) (kp (BK l) (DX de r s.m held)) de' r' nx' K) (.mk _))) (.mk _))
   (Chk (Az (FQ s'.m) done = true ∧ BA r held)
   (s'.m.xwp P held de r nx (fun de' r' nx' => Chk (BB s'.chk (Dq s'.m done)) (xdr P l' (kp (BK l') (Dq s'.m done)) (kp (BK l') (DX de r s'.m held)) de' r' nx' K) (.mk _))) (.mk _)) (.mk _) (.mk _)
theorem alt2 {X Y : Prop} {t : Tag X} {u : Tag Y} (h : X) (k : Y) : Alt X Y t u := ⟨h, k⟩
def MC.xwp (P : Program) : MC → (Exit → KD) → KD
 | .skip, Q, de, r, nx => Q .normal de r nx
 | .ops l, Q, de, r, nx => CX P l de r nx (Q .normal)
 | .dr l, Q, de, r, nx => xdr P l [] [] de r nx (Q .normal)
 | .seq a b, Q, de, r, nx => a.xwp P (Eg (fun de r nx => b.xwp P Q de r nx) Q) de r nx
 | .cond c t f, Q, de, r, nx => Om (dvo de r c) (fun u => Om (EC u.2) (fun b => Chk (u.1 = true) (Br b (t.xwp P Q de r nx) (f.xwp P Q de r nx) (.mk _) (.mk _)) (.mk _)) (.mk _)) (.mk _)
 | .block id b, Q, de, r, nx => b.xwp P (Dh id Q) de r nx
 | .loop b, Q, de, r, nx => BG (fun Q de r nx => b.xwp P Q de r nx) Q de r nx (.mk _) (.mk _)
 | .exit id, Q, de, r, nx => Q (.exit id) de r nx
 | .ret, Q, de, r, nx => Q .ret de r nx
 | .raw n c, Q, de, r, nx => Dw P n c Q de r nx (.mk _) (.mk _)
section
variable {E : En} {w w' : World} {Z Z' : Nat → Prop} {T T' : Nat → Option Value} {F : Nat → Nat} {r : Ad} {nx : Nat}
variable {P : Program} {held : List Nat} {e e' : Env} {de : DEnv} {K : KD}
def XOk (P : Program) (E : En) (K : KD) (l : DT) : Prop := ∀ (done : List MOp) (held : List Nat) {e : Env} {w : World} {de : DEnv} {r : Ad} {nx : Nat} {Z : Nat → Prop} {T : Nat → Option Value} {F : Nat → Nat}, Ok E w Z T F r nx → Di w Z T e de →
  (∀ m ∈ done, EE w Z T held e m) → xdr P l done held de r nx K → KX P l e w (fun e' w' => ∃ de' r' nx', Sat E e' w' de' r' nx' ∧ K de' r' nx')
theorem VY {l : DT} (ih : XOk P E K l) (s : DS) (done : List MOp) (held : List Nat) {e : Env} {w : World} {de : DEnv} {r : Ad} {nx : Nat} {Z : Nat → Prop} {T : Nat → Option Value} {F : Nat → Nat} (h : Ok E w Z T F r nx) (he : Di w Z T e de)
  (hd : ∀ m ∈ done, EE w Z T held e m) {tg} (hk : Chk (Az (FQ s.m) done = true ∧ BA r held)
   (s.m.xwp P held de r nx (fun de' r' nx' => Chk (BB s.chk (Dq s.m done)) (xdr P l (kp (BK l) (Dq s.m done)) (kp (BK l) (DX de r s.m held)) de' r' nx' K) (.mk _))) tg) :
  s.m.wp P e w (fun e' w' => match s.chk with
   | [] => KX P l e' w' (fun e' w' => ∃ de' r' nx', Sat E e' w' de' r' nx' ∧ K de' r' nx')
   | m :: c => Chk (JI (m :: c) e' w') (KX P l e' w' (fun e' w' => ∃ de' r' nx', Sat E e' w' de' r' nx' ∧ K de' r' nx')) (.mk _)) := by
 obtain ⟨⟨hsl, hh⟩, hk⟩ := hk
 have hk := MOp.xwp_dwp hk
 have hw := MOp.dwp_sound h he hk
 have hsa := MR hsl
 have fin : ∀ (done' : List MOp) (held' : List Nat) (e' : Env) (w' : World) (de' : DEnv) (r' : Ad) (nx' : Nat) (Z' : Nat → Prop) (T' : Nat → Option Value) (F' : Nat → Nat), Ok E w' Z' T' F' r' nx' → Di w' Z' T' e' de' → (∀ m ∈ done', EE w' Z' T' held' e' m) →
   BB s.chk done' → xdr P l (kp (BK l) done') (kp (BK l) held') de' r' nx' K → (match s.chk with
    | [] => KX P l e' w' (fun e' w' => ∃ de' r' nx', Sat E e' w' de' r' nx' ∧ K de' r' nx')
    | m :: c => Chk (JI (m :: c) e' w') (KX P l e' w' (fun e' w' => ∃ de' r' nx', Sat E e' w' de' r' nx' ∧ K de' r' nx')) (.mk _)) := by
  intro done' held' e' w' de' r' nx' Z' T' F' o1 o2 o3 o4 o5
  have key := ih _ _ o1 o2 (fun m hm => by
   revert hm
   cases BK l with
   | true => exact o3 m
   | false => intro hm; cases hm) o5
  have hst : JI s.chk e' w' := UU fun m hm => (o3 m (Rx o4 m hm)).still
  revert hst
  cases s.chk with
  | nil => exact fun _ => key
  | cons m c => exact fun hst => ⟨hst, key⟩
 by_cases hl : (DV s.m && BH s.m) = true
 ·refine MOp.wp_mono (fun e' w' hq => ?_) (AeB h he hl hk hw)
  obtain ⟨⟨de', r', nx', Z', T', F', o1, o2, o3, o4, o5⟩, q2, q3⟩ := hq
  obtain ⟨o6, o7⟩ := o5
  simp only [Dq, DX, hl, ↓reduceIte] at o6 o7
  refine fin _ _ e' w' de' r' nx' Z' T' F' o1 o2 (fun m hm => ?_) o6 o7
  simp only [List.mem_cons] at hm
  rcases hm with rfl | hm
  ·subst q2
   exact q3.mono o3.zz o3.tt fun i hi => by simp [hi]
  ·exact EE.keep hh o3 (fun i hi => by simp [hi]) (fun t ht => o4 t (hsa m hm t ht)) (hd m hm)
 ·refine MOp.wp_mono (fun e' w' hq => ?_) hw
  obtain ⟨de', r', nx', Z', T', F', o1, o2, o3, o4, o5⟩ := hq
  obtain ⟨o6, o7⟩ := o5
  simp only [Dq, DX, hl, ↓reduceIte] at o6 o7
  exact fin _ _ e' w' de' r' nx' Z' T' F' o1 o2 (fun m hm => EE.keep hh o3 (fun i hi => hi) (fun t ht => o4 t (hsa m hm t ht)) (hd m hm)) o6 o7
theorem NV : ∀ (l : DT), XOk P E K l
 | .nil, done, held, e, w, de, r, nx, Z, T, F, h, he, hd, hk => ⟨de, r, nx, ⟨Z, T, F, h, he⟩, hk⟩
 | .one s l, done, held, e, w, de, r, nx, Z, T, F, h, he, hd, hk => VY (NV l) s done held h he hd hk
 | .alt s l s' l', done, held, e, w, de, r, nx, Z, T, F, h, he, hd, hk => ⟨VY (NV l) s done held h he hd hk.1, VY (NV l') s' done held h he hd hk.2⟩
theorem SG : ∀ (l : List MOp) {e : Env} {w : World} {de : DEnv} {r : Ad} {nx : Nat}, Sat E e w de r nx → CX P l de r nx K → Tz P l e w (fun e' w' => ∃ de' r' nx', Sat E e' w' de' r' nx' ∧ K de' r' nx')
 | [], e, w, de, r, nx, h, hk => ⟨de, r, nx, h, hk⟩
 | m :: l, e, w, de, r, nx, ⟨Z, T, F, h, he⟩, hk => by
  refine MOp.wp_mono (fun e' w' hq => ?_) (MOp.dwp_sound h he (MOp.xwp_dwp hk))
  obtain ⟨de', r', nx', Z', T', F', o1, o2, o3, o4, o5⟩ := hq
  exact SG l ⟨Z', T', F', o1, o2⟩ o5
theorem MC.xwp_sound : ∀ (m : MC) {Q : Exit → KD} {e : Env} {w : World} {de : DEnv} {r : Ad} {nx : Nat}, Sat E e w de r nx → m.xwp P Q de r nx → m.wp P (QOk E Q) e w
 | .skip, Q, e, w, de, r, nx, h, hk => ⟨de, r, nx, h, hk⟩
 | .ops l, Q, e, w, de, r, nx, h, hk => SG l h hk
 | .dr l, Q, e, w, de, r, nx, ⟨Z, T, F, h, he⟩, hk => NV l [] [] h.drew (Di.keep (w := w) (fun _ _ => rfl) (fun _ h => h) (fun _ _ h => h) he) (fun m hm => by simp at hm) hk
 | .seq a b, Q, e, w, de, r, nx, h, hk => by
  simp only [MC.wp]
  refine MC.wp_mono (m := a) (fun x e' w' hq => ?_) (MC.xwp_sound a h hk)
  obtain ⟨de', r', nx', h', hq⟩ := hq
  cases x with
  | normal => exact MC.xwp_sound b h' hq
  | _ => exact ⟨de', r', nx', h', hq⟩
 | .cond c t f, Q, e, w, de, r, nx, h, hk => by
  obtain ⟨Z, T, F, h1, he⟩ := h
  simp only [MC.xwp] at hk
  obtain ⟨u, hu, b, hb, hg, hk⟩ := hk
  obtain ⟨dx, hdx, rfl⟩ := Kw hu
  obtain ⟨v, hv, hr⟩ := D6 h1.roots he hdx
  have hr := JF hr hg
  have hbb : (Bq dx).2 = .sc (.bool b) := by
   revert hb
   generalize (Bq dx).2 = y
   intro hb
   cases y <;> simp only [EC] at hb <;> try cases hb
   rename_i v
   cases v <;> simp only at hb <;> cases hb
   rfl
  rw [hbb] at hr
  simp only [Rs] at hr
  subst hr
  simp only [MC.wp, hv]
  exact ⟨fun hb => MC.xwp_sound t ⟨Z, T, F, h1, he⟩ (hk.1 hb), fun hb => MC.xwp_sound f ⟨Z, T, F, h1, he⟩ (hk.2 hb)⟩
 | .block id b, Q, e, w, de, r, nx, h, hk => by
  simp only [MC.wp]
  refine MC.wp_mono (m := b) (fun x e' w' hq => ?_) (MC.xwp_sound b h hk)
  obtain ⟨de', r', nx', h', hq⟩ := hq
  cases x with
  | exit i =>
   simp only [Dh, W9] at hq ⊢
   split <;> rename_i hb <;> rw [hb] at hq <;> exact ⟨de', r', nx', h', hq⟩
  | _ => exact ⟨de', r', nx', h', hq⟩
 | .loop b, Q, e, w, de, r, nx, h, hk => by
  obtain ⟨τ, live, S, J, μ, ⟨s0, hJ0, hE0⟩, hround⟩ := hk
  refine ⟨live, fun e w => ∃ s, J s ∧ Sat E e w (S s).1 (S s).2.1 (S s).2.2, fun e w => least fun k => ∃ s, J s ∧ Sat E e w (S s).1 (S s).2.1 (S s).2.2 ∧ μ s = k, ⟨s0, hJ0, hE0 _ _ _ h.keep⟩, ?_⟩
  rintro e w ⟨s, hs, hS⟩
  have hl := LG (p := fun k => ∃ s, J s ∧ Sat E e w (S s).1 (S s).2.1 (S s).2.2 ∧ μ s = k) ⟨μ s, s, hs, hS, rfl⟩
  obtain ⟨⟨s1, hs1, hS1, hk1⟩, _⟩ := hl
  refine MC.wp_mono (m := b) (fun x e' w' hq => ?_) (MC.xwp_sound b hS1 (hround s1 hs1))
  obtain ⟨de', r', nx', h', hq⟩ := hq
  cases x with
  | normal =>
   obtain ⟨s', hJ', hlt, hE'⟩ := hq
   have hS' := hE' _ _ _ (h'.keep (live := live))
   refine ⟨⟨s', hJ', hS'⟩, ?_⟩
   have h2 := LG (p := fun k => ∃ s, J s ∧ Sat E (Jp live e') w' (S s).1 (S s).2.1 (S s).2.2 ∧ μ s = k) ⟨μ s', s', hJ', hS', rfl⟩
   have h3 := h2.2 _ ⟨s', hJ', hS', rfl⟩
   dsimp only
   omega
  | _ => exact ⟨de', r', nx', h', hq⟩
 | .exit id, Q, e, w, de, r, nx, h, hk => ⟨de, r, nx, h, hk⟩
 | .ret, Q, e, w, de, r, nx, h, hk => ⟨de, r, nx, h, hk⟩
 | .raw n c, Q, e, w, de, r, nx, h, hk => hk E e w h

/-! ### functions -/
def Ea (de : DEnv) (r : Ad) (t : Nat) : Option (Nat × List D) := match AZ de t with
 | some d => match Dx r d with
  | .hp i off => match AP r i with
   | some (.box e c) => some (off, c)
   | _ => none
  | _ => none
 | none => none
def FX : List RV → DEnv → Ad → (List D → Prop) → Prop
 | [], de, r, K => K []
 | .t t :: l, de, r, K => Om (AZ de t) (fun d => FX l de r (fun ds => K (d :: ds))) (.mk _)
 | .c t :: l, de, r, K => Om (Ea de r t) (fun p => DLd p.2[p.1]? (fun v => Chk v.plain (FX l de r (fun ds => K (v :: ds))) (.mk _)) (.mk _)) (.mk _)
 | .cn t n :: l, de, r, K => Om (Ea de r t) (fun p => Chk (p.1 + n ≤ p.2.length ∧ ∀ x ∈ (p.2.drop p.1).take n, x.plain) (FX l de r (fun ds => K (.agg ((p.2.drop p.1).take n) :: ds))) (.mk _)) (.mk _)
def GR (res : List RV) (Q : D → Ad → Nat → Prop) : Exit → KD
 | .normal, de, r, nx => FX res de r (fun ds => Ce (Gn ds) r nx Q (.mk _))
 | .ret, de, r, nx => FX res de r (fun ds => Ce (Gn ds) r nx Q (.mk _))
 | _, _, _, _ => False
theorem UN {t : Nat} {p : Nat × List D} (h : Ea de r t = some p) : ∃ d i e, AZ de t = some d ∧ Dx r d = .hp i p.1 ∧ AP r i = some (.box e p.2) := by
 unfold Ea at h
 split at h
 ·rename_i d hd
  cases hq : Dx r d <;> rw [hq] at h <;> simp only at h <;> try cases h
  rename_i i off
  cases hg : AP r i with
  | none => rw [hg] at h; cases h
  | some y =>
   rw [hg] at h
   cases y <;> simp only at h <;> cases h
   exact ⟨d, i, _, hd, hq, hg⟩
 ·cases h
theorem NU : ∀ {l : List RV} {K : List D → Prop}, FX l de r K → NE l de r K
 | [], K, h => h
 | .t t :: l, K, h => by
  obtain ⟨d, hd, h⟩ := h
  simp only [NE, hd]
  exact NU h
 | .c t :: l, K, h => by
  obtain ⟨p, hp, v, hv, hpl, h⟩ := h
  obtain ⟨d, i, e, h1, h2, h3⟩ := UN hp
  simp only [NE, h1, h2, h3]
  exact ⟨v, hv, hpl, NU h⟩
 | .cn t n :: l, K, h => by
  obtain ⟨p, hp, hc, h⟩ := h
  obtain ⟨d, i, e, h1, h2, h3⟩ := UN hp
  simp only [NE, h1, h2, h3]
  exact ⟨hc, NU h⟩
theorem AA {f : FuncId} {mf : MF} {ds : List D} {Q : D → Ad → Nat → Prop} (h : trF P f = some mf) (hn : ds.length ≤ mf.n) (h0 : mf.body.xwp P (GR mf.res Q) (Gx 0 ds) r nx) : D9 P f ds r nx Q := by
 intro w Z T F vs hok hrs
 refine Yt h (by rw [hrs.len]; exact hn) (K := fun v w' => ∃ d r' nx' Z' T' F', Ok ⟨w, Z, T, F, nx⟩ w' Z' T' F' r' nx' ∧ Rs w' Z' T' d v ∧ Q d r' nx') ?_
 refine MC.wp_mono (fun x e' w' hq => ?_) (MC.xwp_sound mf.body (Q := GR mf.res Q) ⟨Z, T, F, hok, Aa4 0 hrs⟩ h0)
 obtain ⟨de', r', nx', ⟨Z', T', F', h1, he⟩, hq⟩ := hq
 cases x
 case normal | ret =>
  simp only [GR] at hq
  simp only [retQ]
  refine Jg.resWp_mono (fun us ⟨ds, k1, k2⟩ => ?_) (Jg h1 he _ (NU hq))
  obtain ⟨d', r2, nx2, k3, k4⟩ := k2
  obtain ⟨Z2, T2, F2, o1, o2, o3⟩ := k3 _ _ _ _ _ _ h1 (tup_rs k1)
  exact ⟨d', r2, nx2, Z2, T2, F2, o1, o3, k4⟩
 all_goals exact hq.elim
end
section
variable {E : En} {w w' : World} {Z Z' : Nat → Prop} {T T' : Nat → Option Value} {F : Nat → Nat} {r : Ad} {nx : Nat}
variable {P : Program} {held : List Nat} {e e' : Env} {de : DEnv} {K : D → Ad → Nat → Prop}
theorem Ok.allocZ (h : Ok E w Z T F r nx) (hs : w'.heap.size = w.heap.size + 1) (hf : Fr No w w') (held : List Nat) : Ok E w' (fun b => Z b ∨ b = w.heap.size) T F r nx ∧ Grow r w Z T w' (fun b => Z b ∨ b = w.heap.size) T held := by
 have hF0 : F w.heap.size = 0 := by
  cases hz : F w.heap.size with
  | zero => rfl
  | succ n => have := h.lt w.heap.size (by omega); omega
 have hsame : ∀ b, b < w.heap.size → w'.heap[b]? = w.heap[b]? := fun b hb => hf.same b hb fun h => h
 have hew := h.fr.size
 refine ⟨⟨h.fr.then hf, fun b hb => .inl (h.z b hb), fun b hb hz => ?_, h.fo, h.names, h.one, fun b hb => ?_, fun b hb => ?_, h.t, h.cell, h.ge, ?_⟩, ⟨fun b hb => hsame b (h.zlt b hb).1, fun b hb => .inl hb, fun _ _ h => h, ?_⟩⟩
 ·rcases hz with hz | hz
  ·exact h.zo b hb hz
  ·omega
 ·have := h.lt b hb; omega
 ·rcases hb with hb | hb
  ·have := h.zlt b hb; exact ⟨by omega, this.2⟩
  ·subst hb; exact ⟨by omega, hF0⟩
 ·exact h.roots.keep (fun _ h => .inl h) (fun _ _ h => h) fun b hb => hsame b (by
   rcases hb with hb | hb
   ·exact h.lt b hb
   ·exact (h.zlt b hb).1)
 ·intro i hi ho u b hu hbk
  obtain ⟨d', F1, F2, _, _, h3, h4, _⟩ := IJ h.roots ho hu hbk
  exact hsame b (h.lt b (by rw [h3]; omega))
theorem Ade {src dst e : TypeId} {x : Operand} {dt : Option Nat} {ty : TypeId} {pos : String} {af : Array Edge} {gu} {tg : A7 K} {s : ByteArray} (hs : P.underlying src = some .string) (hd : P.underlying dst = some (.slice e)) (he : P.underlying e = some (.int .u8))
  (hx : dv de r x = some (.sc (.string s))) (k : K (.sl s.size (s.data.toList.map bD)) r nx) : CB P ⟨dt, .convert src dst x, ty, pos, af, gu⟩ de held r nx K tg := by
 intro E w Z T F en h hen
 obtain ⟨v1, hv1, hr1⟩ := D6 h.roots hen hx
 simp only [Rs] at hr1
 subst hr1
 obtain ⟨w2, hw2⟩ : ∃ w2, w2 = w.drew.alloc (.cells (bytesRow s (grownCap w s.size 0 e)) e ((bytesRow s (grownCap w s.size 0 e)).size, (bytesRow s (grownCap w s.size 0 e)).size + 1)) := ⟨_, rfl⟩
 have hrun := run_bytes_of_string (P := P) w src dst e s hs hd he
 rw [← hw2] at hrun
 have hsz : w2.heap.size = w.heap.size + 1 := by rw [hw2]; simp
 have hfr : Fr No w w2 := by rw [hw2]; exact (Fr.refl No w).drew.then (Fr.alloc w.drew _)
 obtain ⟨o1, o2⟩ := h.allocZ hsz hfr held
 have e2 : execOp (rho en) ⟨dt, .convert src dst x, ty, pos, af, gu⟩ = (do pure (.value (← convert src dst (rho en x)))) := rfl
 refine ⟨by simp [Op.operands, known, hv1], .inl ⟨.slice (some ⟨w.heap.size, 0, none⟩) s.size (grownCap w s.size 0 e), w2, ?_, _, _, _, _, _, _, o1, o2, ?_, k⟩⟩
 ·rw [e2]
  simp [rho, hv1, hrun, Result.andThen]
 ·simp only [Rs]
  refine ⟨_, _, rfl, ?_, fun h => (by cases h), Fz.mk fun j d hd => ?_⟩
  ·exact grownCap_ge _ _ _ _
  ·rw [List.getElem?_map] at hd
   cases hq : s.data.toList[j]? with
   | none => rw [hq] at hd; cases hd
   | some b =>
    rw [hq] at hd
    simp only [Option.map_some, Option.some.injEq] at hd
    subst hd
    refine ⟨_, U8 b, rfl, .inr rfl, ?_, by simp only [bD, Rs]⟩
    have hh : w2.heap[w.heap.size]? = some (.cells (bytesRow s (grownCap w s.size 0 e)) e ((bytesRow s (grownCap w s.size 0 e)).size, (bytesRow s (grownCap w s.size 0 e)).size + 1)) := by rw [hw2]; exact heap_alloc_new w.drew _
    have hj : j < s.data.size := by have := (List.getElem?_eq_some_iff.1 hq).1; simpa using this
    have hb : (bytesRow s (grownCap w s.size 0 e))[j]? = some (U8 b) := by
     unfold bytesRow
     rw [Array.getElem?_append_left (by simpa using hj), Array.getElem?_map, ← Array.getElem?_toList, hq]
     rfl
    rw [add_lit, Nat.zero_add, Nat.zero_add]
    simp only [World.cell?, hh, Option.isSome_none, Bool.false_eq_true, if_false]
    exact hb
end
end Go.Sl
end
section
namespace Go.Sl
open Go.RowKit

mutual
def frz : D → D
 | .row _ _ n l => .sl n (PS l)
 | .box _ l => .pt (PS l)
 | .fbx l => .pt l
 | d => d
def PS : List D → List D
 | [] => []
 | d :: l => frz d :: PS l
end
mutual
def JW : D → Prop
 | .row _ _ _ l => Jj l
 | .box _ l => Jj l
 | .fbx _ => True
 | .mp _ _ => False
 | .abs _ => False
 | _ => True
def Jj : List D → Prop
 | [] => True
 | d :: l => JW d ∧ Jj l
end
theorem Yc : ∀ l : List D, PS l = l.map frz
 | [] => by simp only [PS, List.map_nil]
 | d :: l => by simp only [PS, List.map_cons, Yc l]
theorem Vr : ∀ {l : List D}, (∀ d ∈ l, JW d) → Jj l
 | [], _ => by simp only [Jj]
 | d :: l, h => by
  simp only [Jj]
  exact ⟨h d (by simp), Vr fun d hd => h d (by simp [hd])⟩
theorem Vq {d : D} (h : d.plain) : frz d = d ∧ JW d := by
 cases d <;> simp only [D.plain] at h <;> simp only [frz, JW, and_self]
theorem OG {l : List D} (h : ∀ d ∈ l, d.plain) : PS l = l ∧ Jj l := by
 refine ⟨?_, Vr fun d hd => (Vq (h d hd)).2⟩
 rw [Yc]
 exact (List.map_congr_left fun d hd => (Vq (h d hd)).1).trans (List.map_id _)
section
variable {w : World} {Z Z' : Nat → Prop} {T : Nat → Option Value}
theorem row_sl {e s n : Nat} {u : Value} {us : List Value} {l : List D} (h : Ow w e s u n us) (hl : RsL w Z T l us) (hz : ∀ b, own u b = 1 → Z b) : Rs w Z T (.sl n l) u := by
 simp only [Rs]
 rcases Ow.form h with ⟨rfl, hn, hx⟩ | ⟨g, cap, cur, rfl, hgp, hc, hs, hl', ht⟩
 ·subst hn; subst hx
  have : l = [] := List.eq_nil_of_length_eq_zero (by rw [← hl.len]; rfl)
  subst this
  exact ⟨none, 0, rfl, Nat.le_refl _, fun _ => rfl, by simp only [Fz]⟩
 ·refine ⟨_, cap, rfl, hc, fun h => by (cases h), Fz.mk fun j d hd => ?_⟩
  obtain ⟨u, hu, hr⟩ := hl.get hd
  have := Ow.cells h (g := g) rfl j u hu
  exact ⟨⟨g, 0, none⟩, u, rfl, hz _ (by simp [own, blk]), by simpa using this, hr⟩
theorem Adj {b : Nat} {e : TypeId} {us : List Value} {l : List D} (h : w.heap[b]? = some (.cells us.toArray e (0, 0))) (hl : RsL w Z T l us) (hz : Z b) : Fz w Z T l (some ⟨b, 0, none⟩) 0 := by
 refine Fz.mk fun j d hd => ?_
 obtain ⟨u, hu, hr⟩ := hl.get hd
 refine ⟨⟨b, 0, none⟩, u, rfl, hz, ?_, hr⟩
 rw [add_lit]
 simp only [World.cell?, h, Nat.zero_add]
 simpa using hu
mutual
theorem Ro.frz (hzz : ∀ b, Z b → Z' b) : ∀ (d : D) (u : Value) (F : Nat → Nat), JW d → (∀ b, 0 < F b → Z' b) → Ro w Z T d u F → Rs w Z' T (frz d) u
 | .row e s n l, u, F, ho, hF, h => by
  simp only [Ro] at h
  obtain ⟨us, F', h1, h2, h3⟩ := h
  simp only [JW] at ho
  rw [Sl.frz]
  exact row_sl h1 (RoL.frz hzz l us F' ho (fun b hb => hF b (by rw [h3]; omega)) h2) fun b hb => hF b (by rw [h3]; omega)
 | .box e l, u, F, ho, hF, h => by
  simp only [Ro] at h
  obtain ⟨b, us, F', rfl, h1, h2, h3⟩ := h
  simp only [JW] at ho
  rw [Sl.frz]
  simp only [Rs]
  exact ⟨_, rfl, Adj h1 (RoL.frz hzz l us F' ho (fun b hb => hF b (by rw [h3]; omega)) h2) (hF b (by rw [h3]; simp [own, blk]))⟩
 | .fbx l, u, F, ho, hF, h => by
  simp only [Ro] at h
  obtain ⟨⟨b, rfl, h1⟩, _⟩ := h
  rw [Sl.frz]
  simp only [Rs]
  exact ⟨_, rfl, Fz.keep (fun _ _ => rfl) hzz (fun _ _ h => h) l _ 0 h1⟩
 | .mp _ _, u, F, ho, hF, h => by simp only [JW] at ho
 | .abs _, u, F, ho, hF, h => by simp only [JW] at ho
 | .sc v, u, F, ho, hF, h => by simp only [Ro] at h; simp only [Sl.frz]; exact Rs.keep (fun _ _ => rfl) hzz (fun _ _ h => h) _ _ h.1
 | .sl n l, u, F, ho, hF, h => by simp only [Ro] at h; simp only [Sl.frz]; exact Rs.keep (fun _ _ => rfl) hzz (fun _ _ h => h) _ _ h.1
 | .pt l, u, F, ho, hF, h => by simp only [Ro] at h; simp only [Sl.frz]; exact Rs.keep (fun _ _ => rfl) hzz (fun _ _ h => h) _ _ h.1
 | .agg l, u, F, ho, hF, h => by simp only [Ro] at h; simp only [Sl.frz]; exact Rs.keep (fun _ _ => rfl) hzz (fun _ _ h => h) _ _ h.1
 | .tup l, u, F, ho, hF, h => by simp only [Ro] at h; simp only [Sl.frz]; exact Rs.keep (fun _ _ => rfl) hzz (fun _ _ h => h) _ _ h.1
 | .fn f a b, u, F, ho, hF, h => by simp only [Ro] at h; simp only [Sl.frz]; exact Rs.keep (fun _ _ => rfl) hzz (fun _ _ h => h) _ _ h.1
 | .ifc t d, u, F, ho, hF, h => by simp only [Ro] at h; simp only [Sl.frz]; exact Rs.keep (fun _ _ => rfl) hzz (fun _ _ h => h) _ _ h.1
 | .h i, u, F, ho, hF, h => by simp only [Ro] at h; simp only [Sl.frz]; exact Rs.keep (fun _ _ => rfl) hzz (fun _ _ h => h) _ _ h.1
 | .hp i o, u, F, ho, hF, h => by simp only [Ro] at h; simp only [Sl.frz]; exact Rs.keep (fun _ _ => rfl) hzz (fun _ _ h => h) _ _ h.1
 | .hs i o, u, F, ho, hF, h => by simp only [Ro] at h; simp only [Sl.frz]; exact Rs.keep (fun _ _ => rfl) hzz (fun _ _ h => h) _ _ h.1
 | .ht i o m, u, F, ho, hF, h => by simp only [Ro] at h; simp only [Sl.frz]; exact Rs.keep (fun _ _ => rfl) hzz (fun _ _ h => h) _ _ h.1
 | .opt b d, u, F, ho, hF, h => by simp only [Ro] at h; simp only [Sl.frz]; exact Rs.keep (fun _ _ => rfl) hzz (fun _ _ h => h) _ _ h.1
 | .dead, u, F, ho, hF, h => by simp only [Ro] at h; simp only [Sl.frz]; exact Rs.keep (fun _ _ => rfl) hzz (fun _ _ h => h) _ _ h.1
theorem RoL.frz (hzz : ∀ b, Z b → Z' b) : ∀ (l : List D) (us : List Value) (F : Nat → Nat), Jj l → (∀ b, 0 < F b → Z' b) → RoL w Z T l us F → RsL w Z' T (PS l) us
 | [], us, F, ho, hF, h => by
  simp only [RoL] at h
  simp only [PS, RsL]
  exact h.1
 | d :: l, us, F, ho, hF, h => by
  simp only [RoL] at h
  obtain ⟨u, us', F1, F2, rfl, h2, h3, h4⟩ := h
  simp only [Jj] at ho
  simp only [PS, RsL]
  exact ⟨u, us', rfl, Ro.frz hzz d u F1 ho.1 (fun b hb => hF b (by rw [h4]; omega)) h2, RoL.frz hzz l us' F2 ho.2 (fun b hb => hF b (by rw [h4]; omega)) h3⟩
end
end
def frzR : D → D
 | .box _ l => .fbx (PS l)
 | d => frz d
variable {E : En} {w w' : World} {Z Z' : Nat → Prop} {T T' : Nat → Option Value} {F : Nat → Nat} {r : Ad} {nx : Nat}
variable {P : Program} {held : List Nat} {e e' : Env} {de : DEnv} {K : D → Ad → Nat → Prop}
/-! ### roots told otherwise: the world, the names stay -/
def RT (r r' : Ad) : Prop := ∀ E w Z T F nx, Ok E w Z T F r nx → ∃ Z' F', Ok E w Z' T F' r' nx ∧ ∀ b, Z b → Z' b
theorem RT.refl (r : Ad) : RT r r := fun E w Z T F nx h => ⟨Z, F, h, fun _ h => h⟩
theorem RT.trans {r1 r2 r3 : Ad} (h : RT r1 r2) (k : RT r2 r3) : RT r1 r3 := fun E w Z T F nx ok => by
 obtain ⟨Z1, F1, o1, z1⟩ := h E w Z T F nx ok
 obtain ⟨Z2, F2, o2, z2⟩ := k E w Z1 T F1 nx o1
 exact ⟨Z2, F2, o2, fun b hb => z2 b (z1 b hb)⟩
theorem RT.of {r r' : Ad} (h : r = r') : RT r r' := by subst h; exact RT.refl r
theorem Ent.of_rt {r' : Ad} (h : RT r r') : Ent de r nx de r' nx := fun E e w ⟨Z, T, F, ok, he⟩ => by
 obtain ⟨Z', F', o, z⟩ := h E w Z T F nx ok
 exact ⟨Z', T, F', o, he.keep (fun _ _ => rfl) z (fun _ _ h => h)⟩
theorem DC {r' : Ad} {d : D} {Q : D → Ad → Nat → Prop} {t t' : A7 Q} (h : RT r r') (k : Ce d r' nx Q t') : Ce d r nx Q t := by
 obtain ⟨d2, r2, nx2, hv, hq⟩ := k
 refine ⟨d2, r2, nx2, fun E w Z T F v ok hd => ?_, hq⟩
 obtain ⟨Z', F', o, z⟩ := h E w Z T F nx ok
 obtain ⟨Z2, T2, F2, o2, g2, hd2⟩ := hv E w Z' T F' v o (Rs.keep (fun _ _ => rfl) z (fun _ _ h => h) _ _ hd)
 exact ⟨Z2, T2, F2, o2, ⟨fun _ _ => rfl, fun b hb => g2.zz b (z b hb), g2.tt, fun i hi => by cases hi⟩, hd2⟩
theorem Grow.of_rt {r' : Ad} {w2 : World} {Z2 : Nat → Prop} {T2 : Nat → Option Value} (z : ∀ b, Z b → Z' b) (g : Grow r' w Z' T w2 Z2 T2 []) : Grow r w Z T w2 Z2 T2 [] :=
 ⟨fun b hb => g.zs b (z b hb), fun b hb => g.zz b (z b hb), g.tt, fun i hi => by cases hi⟩
theorem Got.of_rt {r' : Ad} {v : Value} {w2 : World} (z : ∀ b, Z b → Z' b) (h : Got E r' w Z' T [] K v w2) : Got E r w Z T [] K v w2 := by
 obtain ⟨d, r2, nx2, Z2, T2, F2, o, g, hd, hk⟩ := h
 exact ⟨d, r2, nx2, Z2, T2, F2, o, g.of_rt z, hd, hk⟩
/-! ### turns of the roots -/
theorem Ok.swapR {r' : Ad} {Z' : Nat → Prop} {F' : Nat → Nat} (h : Ok E w Z T F r nx) (hz : ∀ b, Z b → Z' b) (hZ : ∀ b, Z' b → Z b ∨ 0 < F b) (hF : ∀ b, F' b ≤ F b) (hd : ∀ b, Z' b → F' b = 0) (hr : RL w Z' T r' F') : Ok E w Z' T F' r' nx := by
 refine ⟨h.fr, fun b hb => hz b (h.z b hb), fun b hb hz' => ?_, fun b hb => Nat.le_trans (hF b) (h.fo b hb), h.names, fun b => Nat.le_trans (hF b) (h.one b), fun b hb => h.lt b (Nat.lt_of_lt_of_le hb (hF b)), fun b hb => ⟨?_, hd b hb⟩, h.t, h.cell, h.ge, hr⟩
 ·rcases hZ b hz' with k | k
  ·exact h.zo b hb k
  ·have := h.fo b hb; exact .inr (by omega)
 ·rcases hZ b hb with k | k
  ·exact (h.zlt b k).1
  ·exact h.lt b k
theorem RT.frz (i : Nat) {d : D} (hg : AP r i = some d) (ho : JW d) : RT r (Dn r i (frzR d)) := fun E w Z T F nx h => by
 obtain ⟨v, F1, F2, h1, h2, h3, h4, h5⟩ := h.roots.get hg
 have hzz : ∀ b, Z b → (fun b => Z b ∨ 0 < F1 b) b := fun b hb => .inl hb
 have hrs := Ro.frz (Z' := fun b => Z b ∨ 0 < F1 b) hzz d v F1 ho (fun b hb => .inr hb) h2
 have hro : Ro w (fun b => Z b ∨ 0 < F1 b) T (frzR d) v (fun _ => 0) := by
  unfold frzR
  split
  ·rename_i e l
   simp only [Sl.frz] at hrs
   simp only [Ro] at h2 ⊢
   simp only [Rs] at hrs
   obtain ⟨b, us, F', rfl, _⟩ := h2
   obtain ⟨a, ha, hf⟩ := hrs
   cases ha
   exact ⟨⟨b, rfl, hf⟩, fun _ => trivial⟩
  ·exact Ro.of hrs
 refine ⟨fun b => Z b ∨ 0 < F1 b, F2, h.swapR hzz (fun b hb => hb.imp_right fun hb => by have := h3 b; omega) (fun b => by have := h3 b; omega) (fun b hb => ?_) ?_, hzz⟩
 ·rcases hb with hb | hb
  ·have := (h.zlt b hb).2; have := h3 b; omega
  ·have := h.one b; have := h3 b; omega
 ·exact (h5 w _ T (frzR d) v _ (fun _ _ => rfl) hzz (fun _ _ h => h) h1 hro).cast fun b => by simp
theorem RT.del (i : Nat) : RT r (Ej r i) := fun E w Z T F nx h => by
 obtain ⟨F', h1⟩ := h.del (i := i)
 exact ⟨Z, F', h1, fun _ h => h⟩
theorem RT.pick (ids : List Nat) : RT r ((Bf ids r).1 ++ (Bf ids r).2) := fun E w Z T F nx h => ⟨Z, F, h.pick, fun _ h => h⟩
theorem RT.fst {a b : Ad} : RT (a ++ b) a := fun E w Z T F nx h => by
 obtain ⟨F', h1⟩ := h.fst
 exact ⟨Z, F', h1, fun _ h => h⟩
theorem RT.only (ids : List Nat) : RT r (Bf ids r).1 := (RT.pick ids).trans RT.fst
/-! ### a tree put back -/
def kids : D → Option (List D)
 | .row _ _ _ l => some l
 | .box _ l => some l
 | .mp _ l => some l
 | _ => none
def Ep : D → List D → D
 | .row e s n _, l => .row e s n l
 | .box e _, l => .box e l
 | .mp ks _, l => .mp ks l
 | d, _ => d
def Q3 (i : Nat) : D → D
 | .box _ _ => .hp i 0
 | .fbx _ => .hp i 0
 | _ => .h i
theorem Ro.kid {d : D} {l : List D} {v : Value} {G : Nat → Nat} (h : Ro w Z T d v G) (hk : kids d = some l) : ∃ (us : List Value) (G1 G2 : Nat → Nat), RoL w Z T l us G1 ∧ (∀ b, G b = G1 b + G2 b) ∧
  ∀ (l' : List D) (G1' : Nat → Nat), RoL w Z T l' us G1' → Ro w Z T (Ep d l') v (fun b => G1' b + G2 b) := by
 cases d with
 | row e s n l0 =>
  simp only [kids, Option.some.injEq] at hk; subst hk
  simp only [Ro] at h
  obtain ⟨us, F', h1, h2, h3⟩ := h
  refine ⟨us, F', own v, h2, h3, fun l' G1' hl => ?_⟩
  simp only [Ep, Ro]
  exact ⟨us, G1', h1, hl, fun _ => rfl⟩
 | box e l0 =>
  simp only [kids, Option.some.injEq] at hk; subst hk
  simp only [Ro] at h
  obtain ⟨b, us, F', h0, h1, h2, h3⟩ := h
  refine ⟨us, F', own v, h2, h3, fun l' G1' hl => ?_⟩
  simp only [Ep, Ro]
  exact ⟨b, us, G1', h0, h1, hl, fun _ => rfl⟩
 | mp ks l0 =>
  simp only [kids, Option.some.injEq] at hk; subst hk
  simp only [Ro] at h
  obtain ⟨b, us, F', h0, h1, h2, h3⟩ := h
  refine ⟨us, F', own v, h2, h3, fun l' G1' hl => ?_⟩
  simp only [Ep, Ro]
  exact ⟨b, us, G1', h0, h1, hl, fun _ => rfl⟩
 | _ => simp [kids] at hk
theorem Aay {d : D} {i : Nat} {u v : Value} {G : Nat → Nat} (h : Ro w Z T d v G) (hT : T i = some v) (hu : Rs w Z T (Q3 i d) u) : u = v := by
 cases d with
 | box e l =>
  simp only [Ro] at h
  obtain ⟨b, us, F', rfl, _⟩ := h
  simp only [Q3, Rs] at hu
  obtain ⟨v', b', h1, h2, rfl⟩ := hu
  rw [hT] at h1
  cases h1
  simp only [blk, Option.some.injEq] at h2
  rw [h2]
 | fbx l =>
  simp only [Ro] at h
  obtain ⟨⟨b, rfl, _⟩, _⟩ := h
  simp only [Q3, Rs] at hu
  obtain ⟨v', b', h1, h2, rfl⟩ := hu
  rw [hT] at h1
  cases h1
  simp only [blk, Option.some.injEq] at h2
  rw [h2]
 | _ =>
  simp only [Q3, Rs] at hu
  rw [hT] at hu
  exact (Option.some.inj hu).symm
theorem QZ (i : Nat) (d : D) : (Q3 i d).plain := by
 unfold Q3
 split <;> simp only [D.plain]
theorem RT.fold (i p off : Nat) {d c : D} {l : List D} (hi : AP r i = some d) (hne : i ≠ p) (hp : AP r p = some c) (hk : kids c = some l) (hl : l[off]? = some (Q3 i d)) : RT r (Dn (Ej r i) p (Ep c (l.set off d))) := fun E w Z T F nx h => by
 obtain ⟨v, F1, F2, h1, h2, h3, h4, _⟩ := h.roots.get hi
 have hp2 : AP (Ej r i) p = some c := by rw [Jz hne]; exact hp
 obtain ⟨u, G1, G2, g1, g2, g3, g4, g5⟩ := h4.get hp2
 obtain ⟨us, K1, K2, k1, k2, k3⟩ := g2.kid hk
 obtain ⟨x, X1, X2, x1, x2, x3, x4⟩ := k1.get hl
 obtain ⟨x5, x6⟩ := x2.rs (QZ i d)
 have hx : x = v := Aay h2 h1 x5
 subst hx
 have hset : us.set off x = us := by
  obtain ⟨hlt, he⟩ := List.getElem?_eq_some_iff.1 x1
  rw [← he]
  exact List.set_getElem_self hlt
 have hro := k3 (l.set off d) _ (by have := x4 d x F1 h2; rw [hset] at this; exact this)
 have hrl := g5 w Z T _ u _ (fun _ _ => rfl) (fun _ h => h) (fun _ _ h => h) g1 hro
 refine ⟨Z, F, h.swapR (fun _ h => h) (fun b hb => .inl hb) (fun b => Nat.le_refl _) (fun b hb => (h.zlt b hb).2) (hrl.cast fun b => ?_), fun _ h => h⟩
 show F b = F1 b + X2 b + K2 b + G2 b
 have := h3 b; have := g3 b; have := k2 b; have := x3 b; have := x6 b
 omega
end Go.Sl
end
section
namespace Go.Sl
theorem AaW (size : Nat) (lo hi mx : Bool) (ds : List D) : dev (.sls size lo hi mx) ds = GM size lo hi mx ds := (VX (.sls size lo hi mx) ds).symm
theorem nat0 : ((0 : Nat) : Int) = 0 := rfl
theorem nat1 : ((1 : Nat) : Int) = 1 := rfl
theorem YT (v : D) (K : D → Prop) (t : A7 K) : DLd (some v) K t = K v := by simp [DLd]
theorem VS (o : Option D) (K : D → Prop) (t : A7 K) : CZ true o K t = DLd o K t := by simp [CZ, DLd]
theorem Rk (c x : Bool) : cond c true x = (c || x) := by cases c <;> rfl
theorem Jw (c x : Bool) : cond c x false = (c && x) := by cases c <;> rfl
theorem Xl (p : Prop) : (True → p) = p := by simp
theorem Vx (p : Prop) : (False → p) = True := by simp
theorem ndec (p : Prop) [Decidable p] : ((!decide p) = true) = ¬ p := by simp
theorem dect (p : Prop) [Decidable p] : (decide p = true) = p := by simp
theorem decf (p : Prop) [Decidable p] : (decide p = false) = ¬ p := by simp
theorem AcO (p : Prop) [Decidable p] : ((!decide p) = false) = p := by simp
theorem YK (b : Bool) : (b != b) = false := by cases b <;> rfl
theorem VN (b : Bool) : (b == b) = true := by cases b <;> rfl
theorem Vd (n : Nat) : Nat.beq n n = true := by simp
theorem YU (X : Prop) (Y : D → Prop) (t : Tag X) (u : A7 Y) : DGC true X Y t u = X := by simp [DGC]
theorem dgc_f {X : Prop} {Y : D → Prop} {t : Tag X} {u : A7 Y} (h : Y (.opt false .dead)) : DGC false X Y t u := ⟨fun h => (by cases h), fun _ => ⟨_, h⟩⟩
def gt {α : Type} [Inhabited α] (l : List α) (k : Nat) : α := l.getD k default
theorem EG {α : Type} [Inhabited α] {l : List α} {k : Nat} (h : k < l.length) : gt l k = l[k] := by
 unfold gt
 rw [List.getD_eq_getElem?_getD, List.getElem?_eq_getElem h]; rfl
theorem gt_get {α : Type} [Inhabited α] {l : List α} {k : Nat} (h : k < l.length) : l[k]? = some (gt l k) := by
 rw [EG h, List.getElem?_eq_getElem h]
theorem G5 {α : Type} [Inhabited α] {l : List α} {k : Nat} (h : k < l.length) : l.take (k + 1) = l.take k ++ [gt l k] := by
 rw [EG h]; exact List.take_succ_eq_append_getElem h
theorem Abb {α : Type} [Inhabited α] {f : α → D} {l : List α} {k : Nat} (h : k < l.length) (K : D → Prop) (t : A7 K) : DLd (Option.map f l[k]?) K t = K (f (gt l k)) := by
 rw [gt_get h]; simp [DLd]
abbrev bytesD (xs : List UInt8) : D := .sl xs.length (xs.map bD)
abbrev ES (m : List (List UInt8)) : D := .sl m.length (m.map bytesD)
abbrev iD (n : Int) : D := .sc (.int .i64 n)
abbrev Ec (l : List Int) : D := .sl l.length (l.map iD)
abbrev AX (b : Bool) : D := .sc (.bool b)
abbrev DZ (s : List UInt8) : D := .sc (.string ⟨s.toArray⟩)
theorem Ent.of {de de' : DEnv} {r r' : Ad} {nx : Nat} (h : de = de') (hr : r = r') : Ent de r nx de' r' nx := by subst h; subst hr; exact Ent.refl _ _ _
def DJ (P : Program) (f : FuncId) (ds : List D) (d : D) : Prop := ∀ nx, D9 P f ds [] nx (fun d' r' _ => d' = d ∧ r' = [])
theorem Ba {P : Program} {f : FuncId} {ds : List D} {d : D} {held : List Nat} {r : Ad} {nx : Nat} {K : D → Ad → Nat → Prop} {t : A7 K} (h : DJ P f ds d) (k : ∀ nx', nx ≤ nx' → K d r nx') : AO P f ds held r nx K t :=
 Adf (h nx) fun d' ro nx' hn ⟨h1, h2⟩ => by subst h1; subst h2; exact k nx' hn
end Go.Sl
end
