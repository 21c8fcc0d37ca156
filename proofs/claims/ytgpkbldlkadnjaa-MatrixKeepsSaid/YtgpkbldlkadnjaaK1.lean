/- Arguments are opened: rows of bytes, with a bound for their lengths. -/
import Derived.Test.YtgpkbldlkadnjaaJ2
import Derived.Test.YtgpkbldlkadnjaaJ7
import Derived.Test.YtgpkbldlkadnjaaJ6
import Derived.Test.YtgpkbldlkadnjaaRows
import Derived.Test.YtgpkbldlkadnjaaJ8
section
set_option linter.unusedVariables false
set_option linter.unusedSimpArgs false
namespace Go.Sl
open Go.RowKit Go.ChangeShapes Go.WideShapes Go.ChangeAt Go.Deep
section
variable {H : Type} {enc : TypeId × Value → H} {P : Program} {W : World}
theorem open_rows_l {t e q : TypeId} (ht : P.underlying t = some (.slice e)) (he : P.underlying e = some (.slice q)) (hq : P.underlying q = some (.int .u8)) (ce : P.cellsOf e = 1) (cq : P.cellsOf q = 1) {b0 : Nat} {v : Value} {d : DataW H} {p : List MemPlace}
    (hval : Value.okWide P W .any b0 t v) (h : DataW.Trod enc P W 0 (fun _ => true) true t v d p) : ∃ m : List (List UInt8), Rs W (Zw W) T0 (matD m) v ∧ m.length ≤ 9223372036854775807 ∧ ∀ x ∈ m, x.length ≤ 9223372036854775807 := by
  obtain ⟨a0, len, cap, rfl⟩ := okWide_slice ht hval
  obtain ⟨fuel, hf⟩ := h
  rcases open_int_rows ht he hq ce cq hf with ⟨hcs, _⟩ | ⟨a, len', cap', A, L, C, Z, hcs, _, hl, hm, hx, hrows⟩
  · simp [Value.cells] at hcs
    obtain ⟨rfl, rfl, rfl⟩ := hcs
    refine ⟨[], ?_, by simp, by simp⟩
    simp only [Rs]
    exact ⟨none, 0, rfl, Nat.le_refl _, fun _ => rfl, by simp only [List.map_nil, Fz]⟩
  · simp [Value.cells] at hcs
    obtain ⟨rfl, rfl, rfl⟩ := hcs
    refine ⟨(List.range len).map fun r => ((Z r).take (L r)).map fun z => UInt8.ofNat z.toNat, ?_, ?_, ?_⟩
    · rw [Rs]
      refine ⟨some a, cap, by simp, by simpa using hl, fun h => by (cases h), Fz.mk fun j d hd => ?_⟩
      rw [List.getElem?_map, List.getElem?_map] at hd
      by_cases hj : j < len
      · rw [List.getElem?_range hj] at hd
        simp only [Option.map_some, Option.some.injEq] at hd
        subst hd
        obtain ⟨hcell, h1, h2, h3, h4, h5, h6⟩ := hrows j (by omega)
        refine ⟨a, _, rfl, ?_, by rw [Nat.zero_add]; exact hcell, bytes_rs h1 h3 h4 h5 fun a' ha' => (h6 a' ha').2⟩
        have := zw_cell hcell
        rwa [add_block] at this
      · rw [List.getElem?_eq_none (by simp; omega)] at hd
        simp at hd
    · simp only [List.length_map, List.length_range]
      have e : maxLen = 9223372036854775807 := rfl
      omega
    · intro x hx
      obtain ⟨r, hr, rfl⟩ := List.mem_map.1 hx
      obtain ⟨hcell, h1, h2, h3, h4, h5, h6⟩ := hrows r (by have := List.mem_range.1 hr; omega)
      simp only [List.length_map, List.length_take]
      have e : maxLen = 9223372036854775807 := rfl
      omega
end
end Go.Sl
end
section
/- Plain: a contrary that Invert answers is one on both sides; with none, the determinant is 0 and something that is not 0 goes to 0. -/
set_option linter.unusedVariables false
set_option linter.unusedSimpArgs false
set_option maxHeartbeats 2000000
namespace Go.Proofs.Ytgpkbldlkadnjaa
open Go Go.Sl

def dotF (n : Nat) (A B : Mx) : Mx := fun i j => xs (fun k => gmul (A i k) (B k j)) n
def idF : Mx := fun i j => if i = j then 1 else 0
/-- alike on the first n rows and columns -/
def EqN (n : Nat) (A B : Mx) : Prop := ∀ i j, i < n → j < n → A i j = B i j
theorem EqN.refl (n : Nat) (A : Mx) : EqN n A A := fun _ _ _ _ => rfl
theorem EqN.symm {n : Nat} {A B : Mx} (h : EqN n A B) : EqN n B A := fun i j hi hj => (h i j hi hj).symm
theorem EqN.trans {n : Nat} {A B C : Mx} (h : EqN n A B) (k : EqN n B C) : EqN n A C := fun i j hi hj => (h i j hi hj).trans (k i j hi hj)
theorem dotF_congr {n : Nat} {A A' B B' : Mx} (h : EqN n A A') (k : EqN n B B') : EqN n (dotF n A B) (dotF n A' B') := fun i j hi hj => xs_congr fun l hl => by rw [h i l hi hl, k l j hl hj]
theorem dotF_assoc (n : Nat) (A B C : Mx) (i j : Nat) : dotF n (dotF n A B) C i j = dotF n A (dotF n B C) i j := by
  have e1 : dotF n (dotF n A B) C i j = xs (fun k => xs (fun l => gmul (gmul (A i l) (B l k)) (C k j)) n) n := xs_congr fun k _ => mul_xs _ _ _
  have e2 : dotF n A (dotF n B C) i j = xs (fun l => xs (fun k => gmul (A i l) (gmul (B l k) (C k j))) n) n := xs_congr fun l _ => xs_mul _ _ _
  rw [e1, e2, xs_fubini]
  exact xs_congr fun l _ => xs_congr fun k _ => gmul_assoc _ _ _
theorem id_dotF (n : Nat) (A : Mx) : EqN n (dotF n idF A) A := fun i j hi hj => by
  unfold dotF
  rw [xs_one hi fun k _ hk => by simp only [idF]; rw [if_neg (by omega), zero_gmul]]
  simp [idF, one_gmul]
theorem dotF_id (n : Nat) (A : Mx) : EqN n (dotF n A idF) A := fun i j hi hj => by
  unfold dotF
  rw [xs_one hj fun k _ hk => by simp only [idF]; rw [if_neg hk, gmul_zero]]
  simp [idF, gmul_one]
/-- row c times s, with row i times f -/
def rop (c i : Nat) (s f : UInt8) (A : Mx) : Mx := fun r j => if r = c then gmul s (A c j) ^^^ gmul f (A i j) else A r j
theorem rop_dot (n c i : Nat) (s f : UInt8) (A B : Mx) (r j : Nat) : dotF n (rop c i s f A) B r j = rop c i s f (dotF n A B) r j := by
  unfold rop dotF
  by_cases h : r = c
  · simp only [h, if_true]
    rw [xs_mul, xs_mul, ← xs_xor]
    exact xs_congr fun k _ => by rw [xor_gmul, gmul_assoc, gmul_assoc]
  · simp only [h, if_false]
theorem rop_congr {n c i : Nat} {s f : UInt8} {A B : Mx} (hc : c < n) (hi : f = 0 ∨ (i ≠ c ∧ i < n)) (h : EqN n A B) : EqN n (rop c i s f A) (rop c i s f B) := fun r j hr hj => by
  unfold rop
  split
  · rw [h c j hc hj]
    rcases hi with rfl | ⟨_, hi⟩
    · rw [zero_gmul, zero_gmul]
    · rw [h i j hi hj]
  · exact h r j hr hj
theorem rop_back {n c i : Nat} {s f : UInt8} (A : Mx) (hs : s ≠ 0) (hi : f = 0 ∨ (i ≠ c ∧ i < n)) (r j : Nat) : rop c i (ginv s) (gmul (ginv s) f) (rop c i s f A) r j = A r j := by
  unfold rop
  by_cases h : r = c
  · subst h
    simp only [if_true]
    have e : gmul (gmul (ginv s) f) (if i = r then gmul s (A r j) ^^^ gmul f (A i j) else A i j) = gmul (gmul (ginv s) f) (A i j) := by
      rcases hi with rfl | ⟨hi, _⟩
      · rw [gmul_zero, zero_gmul, zero_gmul]
      · rw [if_neg hi]
    rw [e, gmul_xor, ← gmul_assoc, ginv_gmul hs, one_gmul, ← gmul_assoc, x_assoc, x_self, x_zero]
  · simp only [h, if_false]
theorem rop_det {n c i : Nat} {s f : UInt8} (A : Mx) (hc : c < n) (hi : f = 0 ∨ (i ≠ c ∧ i < n)) : detf n (rop c i s f A) = gmul s (detf n A) := by
  have e : detf n (rop c i s f A) = detf n (setR A c fun j => gmul s (A c j) ^^^ gmul f (A i j)) := detf_congr n fun r j _ _ => rfl
  rw [e, detf_add n A c (fun j => gmul s (A c j)) (fun j => gmul f (A i j)) hc, detf_scale n A c s (A c) hc, detf_scale n A c f (A i) hc, detf_congr n (A := setR A c (A c)) (B := A) fun r j _ _ => setR_self A c r j]
  rcases hi with rfl | ⟨hi, hin⟩
  · rw [zero_gmul, x_zero]
  · rw [alt n (setR A c (A i)) c i hc hin (by omega) fun j _ => by simp [setR, hi], gmul_zero, x_zero]
/-- from one pair to another by steps that can be taken back -/
structure REq (n : Nat) (L O L' O' : Mx) : Prop where
  ex : ∃ E F : Mx, EqN n L' (dotF n E L) ∧ EqN n O' (dotF n E O) ∧ EqN n L (dotF n F L') ∧ EqN n O (dotF n F O')
  det : ∃ s : UInt8, s ≠ 0 ∧ detf n L' = gmul s (detf n L)
theorem REq.refl (n : Nat) (L O : Mx) : REq n L O L O := ⟨⟨idF, idF, (id_dotF n L).symm, (id_dotF n O).symm, (id_dotF n L).symm, (id_dotF n O).symm⟩, 1, by decide, (one_gmul _).symm⟩
theorem dot3 {n : Nat} {A B C E1 E2 : Mx} (h : EqN n C (dotF n E2 B)) (k : EqN n B (dotF n E1 A)) : EqN n C (dotF n (dotF n E2 E1) A) := fun i j hi hj => by
  rw [h i j hi hj, dotF_assoc]
  exact dotF_congr (EqN.refl n E2) k i j hi hj
theorem REq.trans {n : Nat} {L O L1 O1 L2 O2 : Mx} (h : REq n L O L1 O1) (k : REq n L1 O1 L2 O2) : REq n L O L2 O2 := by
  obtain ⟨⟨E, F, h1, h2, h3, h4⟩, s, hs, hd⟩ := h
  obtain ⟨⟨E', F', k1, k2, k3, k4⟩, s', hs', hd'⟩ := k
  refine ⟨⟨dotF n E' E, dotF n F F', dot3 k1 h1, dot3 k2 h2, dot3 h3 k3, dot3 h4 k4⟩, gmul s' s, fun e => ?_, by rw [hd', hd, gmul_assoc]⟩
  rcases gmul_eq_zero e with e | e
  · exact hs' e
  · exact hs e
theorem REq.congr {n : Nat} {L O L1 O1 L2 O2 : Mx} (h : REq n L O L1 O1) (e1 : EqN n L2 L1) (e2 : EqN n O2 O1) : REq n L O L2 O2 := by
  obtain ⟨⟨E, F, h1, h2, h3, h4⟩, s, hs, hd⟩ := h
  exact ⟨⟨E, F, e1.trans h1, e2.trans h2, h3.trans (dotF_congr (EqN.refl _ _) e1.symm), h4.trans (dotF_congr (EqN.refl _ _) e2.symm)⟩, s, hs, by rw [← hd]; exact detf_congr n e1⟩
theorem REq.rop {n c i : Nat} {s f : UInt8} (L O : Mx) (hc : c < n) (hs : s ≠ 0) (hi : f = 0 ∨ (i ≠ c ∧ i < n)) : REq n L O (rop c i s f L) (rop c i s f O) := by
  have hi' : gmul (ginv s) f = 0 ∨ (i ≠ c ∧ i < n) := hi.imp (fun e => by rw [e, gmul_zero]) id
  have f1 : ∀ A, EqN n (Go.Proofs.Ytgpkbldlkadnjaa.rop c i s f A) (dotF n (Go.Proofs.Ytgpkbldlkadnjaa.rop c i s f idF) A) := fun A r j hr hj => by
    rw [rop_dot]
    exact rop_congr hc hi (id_dotF n A).symm r j hr hj
  have f2 : ∀ A, EqN n A (dotF n (Go.Proofs.Ytgpkbldlkadnjaa.rop c i (ginv s) (gmul (ginv s) f) idF) (Go.Proofs.Ytgpkbldlkadnjaa.rop c i s f A)) := fun A r j hr hj => by
    rw [rop_dot, ← rop_back (n := n) A hs hi r j]
    exact rop_congr hc hi' ((id_dotF n _).symm) r j hr hj
  exact ⟨⟨_, _, f1 L, f1 O, f2 L, f2 O⟩, s, hs, rop_det L hc hi⟩
theorem swap3 (a b : UInt8) : (a ^^^ b) ^^^ (b ^^^ (a ^^^ b)) = b := by rw [x_comm b (a ^^^ b), ← x_assoc, x_self, zero_x]
theorem swap2 (a b : UInt8) : b ^^^ (a ^^^ b) = a := by rw [x_comm b (a ^^^ b), x_assoc, x_self, x_zero]
/-- two rows turned about -/
def swapF (c i : Nat) (A : Mx) : Mx := fun r j => A (sig c i r) j
theorem REq.swap {n c i : Nat} (L O : Mx) (hc : c < n) (hi : i < n) : REq n L O (swapF c i L) (swapF c i O) := by
  by_cases h : c = i
  · subst h
    have e : ∀ A : Mx, EqN n (swapF c c A) A := fun A r j _ _ => by
      unfold swapF sig
      by_cases h : r = c
      · subst h; simp
      · simp [h]
    exact (REq.refl n L O).congr (e L) (e O)
  · have e : ∀ A : Mx, EqN n (swapF c i A) (Go.Proofs.Ytgpkbldlkadnjaa.rop c i 1 1 (Go.Proofs.Ytgpkbldlkadnjaa.rop i c 1 1 (Go.Proofs.Ytgpkbldlkadnjaa.rop c i 1 1 A))) := fun A r j _ _ => by
      have hne : i ≠ c := fun e => h e.symm
      unfold swapF Go.Proofs.Ytgpkbldlkadnjaa.rop sig
      by_cases h1 : r = c
      · subst h1
        simp only [if_true, h, hne, if_false, one_gmul]
        exact (swap3 _ _).symm
      · by_cases h2 : r = i
        · subst h2
          simp only [if_true, h, hne, if_false, one_gmul]
          exact (swap2 _ _).symm
        · simp only [h1, h2, if_false]
    have d : (1 : UInt8) ≠ 0 := by decide
    refine REq.congr (((REq.rop L O hc d (.inr ⟨fun e => h e.symm, hi⟩)).trans (REq.rop _ _ hi d (.inr ⟨h, hc⟩))).trans (REq.rop _ _ hc d (.inr ⟨fun e => h e.symm, hi⟩))) (e L) (e O)
/-- the first c columns are those of One -/
def Un (n c : Nat) (A : Mx) : Prop := ∀ i j, i < n → j < c → A i j = idF i j
theorem det_dead : ∀ (c n : Nat) (A : Mx), c < n → Un n c A → (∀ i, c ≤ i → i < n → A i c = 0) → detf n A = 0
  | 0, n + 1, A, _, _, h => by
    rw [detf]
    exact xs_zero _ fun i hi => by rw [h i (by omega) hi, zero_gmul]
  | c + 1, n + 1, A, hc, hu, h => by
    rw [detf, xs_one (c := 0) (by omega) fun i hi hne => by rw [hu i 0 hi (by omega)]; simp only [idF]; rw [if_neg hne, zero_gmul]]
    rw [det_dead c n (minorF A 0) (by omega) (fun i j hi hj => ?_) (fun i h1 h2 => ?_), gmul_zero]
    · unfold minorF skip
      rw [if_neg (by omega), hu (i + 1) (j + 1) (by omega) (by omega)]
      simp [idF]
    · unfold minorF skip
      rw [if_neg (by omega)]
      exact h _ (by omega) (by omega)
theorem det_id : ∀ (n : Nat) (A : Mx), Un n n A → detf n A = 1
  | 0, A, _ => rfl
  | n + 1, A, hu => by
    rw [detf, xs_one (c := 0) (by omega) fun i hi hne => by rw [hu i 0 hi (by omega)]; simp only [idF]; rw [if_neg hne, zero_gmul]]
    rw [hu 0 0 (by omega) (by omega), det_id n (minorF A 0) fun i j hi hj => ?_]
    · simp [idF, gmul_one]
    · unfold minorF skip
      rw [if_neg (by omega), hu (i + 1) (j + 1) (by omega) (by omega)]
      simp [idF]
end Go.Proofs.Ytgpkbldlkadnjaa
end
section
/- Plain: what Invert computes is a contrary on both sides; without an answer the determinant is 0. -/
set_option linter.unusedVariables false
set_option linter.unusedSimpArgs false
set_option maxHeartbeats 2000000
namespace Go.Proofs.Ytgpkbldlkadnjaa
open Go Go.Sl

structure Sq (n : Nat) (l : LL) : Prop where
  len : l.length = n
  all : ∀ x ∈ l, x.length = n
theorem Sq.row {n : Nat} {l : LL} (h : Sq n l) {r : Nat} (hr : r < n) : (l.getD r []).length = n := by
  rw [getD_of_lt [] (by rw [h.len]; exact hr)]
  exact h.all _ (List.getElem_mem _)
theorem Sq.set {n c : Nat} {l : LL} {x : List UInt8} (h : Sq n l) (hx : x.length = n) : Sq n (l.set c x) :=
  ⟨by rw [List.length_set]; exact h.len, fun y hy => by
    rcases List.mem_or_eq_of_mem_set hy with h1 | h1
    · exact h.all y h1
    · rw [h1]; exact hx⟩
theorem entry_set {l : LL} {x : List UInt8} {c r : Nat} (hc : c < l.length) (j : Nat) : entry (l.set c x) r j = if r = c then x.getD j 0 else entry l r j := by
  unfold entry
  rw [List.getD_eq_getElem?_getD (l := l.set c x), List.getElem?_set]
  by_cases h : r = c
  · subst h
    simp [hc]
  · rw [if_neg (fun e => h e.symm), if_neg h, List.getD_eq_getElem?_getD (l := l)]
theorem entry_swp {l : LL} {c i : Nat} (hc : c < l.length) (hi : i < l.length) (r j : Nat) : entry (swp [] l c i) r j = entry l (sig c i r) j := by
  unfold entry
  rw [List.getD_eq_getElem?_getD (l := swp [] l c i), swp_get [] hc hi, ← List.getD_eq_getElem?_getD]
theorem Sq.swp {n c i : Nat} {l : LL} (h : Sq n l) (hc : c < n) (hi : i < n) : Sq n (swp [] l c i) :=
  (h.set (h.row hi)).set (h.row hc)
theorem norm_eq {n c : Nat} {p : LL × LL} (h1 : Sq n p.1) (h2 : Sq n p.2) (hc : c < n) : (Sq n (norm c p).1 ∧ Sq n (norm c p).2) ∧
    EqN n (entry (norm c p).1) (rop c c (ginv (entry p.1 c c)) 0 (entry p.1)) ∧ EqN n (entry (norm c p).2) (rop c c (ginv (entry p.1 c c)) 0 (entry p.2)) := by
  have e : ∀ (l : LL) (s : UInt8), Sq n l → EqN n (entry (l.set c ((l.getD c []).map (gmul s)))) (rop c c s 0 (entry l)) := fun l s hl r j hr hj => by
    rw [entry_set (by rw [hl.len]; exact hc)]
    unfold rop
    split
    · rw [map_getD _ _ _ (by rw [hl.row hc]; exact hj), zero_gmul, x_zero]; rfl
    · rfl
  exact ⟨⟨h1.set (by rw [List.length_map]; exact h1.row hc), h2.set (by rw [List.length_map]; exact h2.row hc)⟩, e _ _ h1, e _ _ h2⟩
theorem add_eq {n c k : Nat} {l : LL} {f : UInt8} (hl : Sq n l) (hc : c < n) (hk : k < n) : Sq n (l.set k (xorL (l.getD k []) ((l.getD c []).map (gmul f)))) ∧
    EqN n (entry (l.set k (xorL (l.getD k []) ((l.getD c []).map (gmul f))))) (rop k c 1 f (entry l)) := by
  refine ⟨hl.set (by rw [xorL_length]; exact hl.row hk), fun r j hr hj => ?_⟩
  rw [entry_set (by rw [hl.len]; exact hk)]
  unfold rop
  split
  · rw [xorL_getD _ _ _ (by rw [hl.row hk]; exact hj) (by rw [List.length_map, hl.row hc]; exact hj), map_getD _ _ _ (by rw [hl.row hc]; exact hj), one_gmul]
    rfl
  · rfl
/-- behind k rows of a column -/
structure EJ (n c k : Nat) (p q : LL × LL) : Prop where
  s1 : Sq n q.1
  s2 : Sq n q.2
  eq : REq n (entry p.1) (entry p.2) (entry q.1) (entry q.2)
  row : ∀ j, j < n → entry q.1 c j = entry p.1 c j
  left : ∀ r j, r < n → j < c → entry q.1 r j = entry p.1 r j
  zero : ∀ r, r < k → r ≠ c → entry q.1 r c = 0
theorem elim_ej {n c : Nat} {p : LL × LL} (h1 : Sq n p.1) (h2 : Sq n p.2) (hc : c < n) (hone : entry p.1 c c = 1) (hz : ∀ j, j < c → entry p.1 c j = 0) : ∀ k, k ≤ n → EJ n c k p (elim c p k)
  | 0, _ => ⟨h1, h2, REq.refl _ _ _, fun _ _ => rfl, fun _ _ _ _ => rfl, fun r hr => by omega⟩
  | k + 1, hk => by
    have ih := elim_ej h1 h2 hc hone hz k (by omega)
    rw [elim, elim1]
    by_cases h : k ≠ c ∧ entry (elim c p k).1 k c ≠ 0
    · rw [if_pos h]
      obtain ⟨a1, a2⟩ := add_eq (f := entry (elim c p k).1 k c) ih.s1 hc (show k < n by omega)
      obtain ⟨b1, b2⟩ := add_eq (f := entry (elim c p k).1 k c) ih.s2 hc (show k < n by omega)
      have hck : c ≠ k := fun e => h.1 e.symm
      refine ⟨a1, b1, ih.eq.trans ((REq.rop _ _ (show k < n by omega) (by decide) (.inr ⟨hck, hc⟩)).congr a2 b2), fun j hj => ?_, fun r j hr hj => ?_, fun r hr hrc => ?_⟩
      · rw [a2 c j hc hj, rop, if_neg hck]
        exact ih.row j hj
      · rw [a2 r j hr (by omega), rop]
        split
        · rename_i e
          subst e
          rw [ih.row j (by omega), hz j hj, gmul_zero, x_zero, one_gmul]
          exact ih.left _ j hr hj
        · exact ih.left r j hr hj
      · rw [a2 r c (by omega) hc, rop]
        split
        · rename_i e
          rw [ih.row c hc, hone, gmul_one, one_gmul, x_self]
        · exact ih.zero r (by omega) hrc
    · rw [if_neg h]
      refine ⟨ih.s1, ih.s2, ih.eq, ih.row, ih.left, fun r hr hrc => ?_⟩
      by_cases e : r = k
      · subst e
        by_cases q : entry (elim c p r).1 r c = 0
        · exact q
        · exact absurd ⟨hrc, q⟩ h
      · exact ih.zero r (by omega) hrc
theorem findP_ok {l : LL} {n c i : Nat} (h : findP l n c = some i) : c ≤ i ∧ i < n ∧ entry l i c ≠ 0 := by
  rw [findP] at h
  have h1 := List.find?_some h
  have h2 := List.mem_of_find?_eq_some h
  simp only [Bool.and_eq_true, decide_eq_true_eq, bne_iff_ne] at h1
  exact ⟨h1.1, List.mem_range.1 h2, h1.2⟩
theorem findP_no {l : LL} {n c : Nat} (h : findP l n c = none) : ∀ i, c ≤ i → i < n → entry l i c = 0 := by
  intro i h1 h2
  rw [findP, List.find?_eq_none] at h
  have := h i (List.mem_range.2 h2)
  simp only [Bool.and_eq_true, decide_eq_true_eq, bne_iff_ne, not_and, ne_eq] at this
  exact Decidable.not_not.1 (this h1)
/-- behind c columns -/
structure CJ (n c : Nat) (m o : LL) (q : LL × LL) : Prop where
  s1 : Sq n q.1
  s2 : Sq n q.2
  eq : REq n (entry m) (entry o) (entry q.1) (entry q.2)
  un : Un n c (entry q.1)
theorem sig_self (c i : Nat) : sig c i c = i := by unfold sig; split <;> simp_all
theorem CJ.step {n c i : Nat} {m o : LL} {q : LL × LL} (h : CJ n c m o q) (hc : c < n) (hf : findP q.1 n c = some i) : CJ n (c + 1) m o (clearC n c (swp [] q.1 c i, swp [] q.2 c i)) := by
  obtain ⟨hci, hi, hne⟩ := findP_ok hf
  have l1 : c < q.1.length := by rw [h.s1.len]; exact hc
  have l2 : i < q.1.length := by rw [h.s1.len]; exact hi
  have l3 : c < q.2.length := by rw [h.s2.len]; exact hc
  have l4 : i < q.2.length := by rw [h.s2.len]; exact hi
  have r1 : REq n (entry m) (entry o) (entry (swp [] q.1 c i)) (entry (swp [] q.2 c i)) :=
    h.eq.trans ((REq.swap _ _ hc hi).congr (fun r j _ _ => entry_swp l1 l2 r j) (fun r j _ _ => entry_swp l3 l4 r j))
  have u1 : Un n c (entry (swp [] q.1 c i)) := fun r j hr hj => by
    rw [entry_swp l1 l2, h.un _ j (sig_lt hc hi hr) hj]
    unfold idF sig
    by_cases h1 : r = i
    · rw [if_pos h1, if_neg (by omega), if_neg (by omega)]
    · rw [if_neg h1]
      by_cases h2 : r = c
      · rw [if_pos h2, if_neg (by omega), if_neg (by omega)]
      · rw [if_neg h2]
  have e1 : entry (swp [] q.1 c i) c c = entry q.1 i c := by rw [entry_swp l1 l2, sig_self]
  have s1 := h.s1.swp hc hi
  have s2 := h.s2.swp hc hi
  obtain ⟨⟨n1, n2⟩, n3, n4⟩ := norm_eq (p := (swp [] q.1 c i, swp [] q.2 c i)) s1 s2 hc
  dsimp only at n3 n4
  rw [e1] at n3 n4
  have r2 := r1.trans ((REq.rop _ _ hc (ginv_ne hne) (.inl rfl)).congr n3 n4)
  have o1 : entry (norm c (swp [] q.1 c i, swp [] q.2 c i)).1 c c = 1 := by
    rw [n3 c c hc hc, rop, if_pos rfl, e1, ginv_gmul hne, zero_gmul, x_zero]
  have z1 : ∀ j, j < c → entry (norm c (swp [] q.1 c i, swp [] q.2 c i)).1 c j = 0 := fun j hj => by
    rw [n3 c j hc (by omega), rop, if_pos rfl, u1 c j hc hj, zero_gmul, x_zero]
    unfold idF
    rw [if_neg (by omega), gmul_zero]
  have ej := elim_ej n1 n2 hc o1 z1 n (Nat.le_refl n)
  refine ⟨ej.s1, ej.s2, r2.trans ej.eq, fun r j hr hj => ?_⟩
  show entry (elim c (norm c (swp [] q.1 c i, swp [] q.2 c i)) n).1 r j = idF r j
  by_cases hjc : j = c
  · subst hjc
    by_cases hrc : r = j
    · subst hrc
      rw [ej.row r hc, o1]; simp [idF]
    · rw [ej.zero r hr hrc]; simp [idF, hrc]
  · rw [ej.left r j hr (by omega), n3 r j hr (by omega), rop]
    split
    · rename_i e
      subst e
      rw [u1 _ j hc (by omega), zero_gmul, x_zero]
      unfold idF
      rw [if_neg (by omega), gmul_zero]
    · exact u1 r j hr (by omega)
theorem invTo_cj {n : Nat} {m o : LL} (hm : Sq n m) (ho : Sq n o) : ∀ (c : Nat) {q : LL × LL}, c ≤ n → invTo n (m, o) c = some q → CJ n c m o q
  | 0, q, _, h => by
    rw [invTo] at h
    cases h
    exact ⟨hm, ho, REq.refl _ _ _, fun i j _ hj => by omega⟩
  | c + 1, q, hc, h => by
    rw [invTo] at h
    cases h1 : invTo n (m, o) c with
    | none => rw [h1] at h; cases h
    | some q1 =>
      rw [h1] at h
      have ih := invTo_cj hm ho c (by omega) h1
      cases h2 : findP q1.1 n c with
      | none => simp only [h2] at h; cases h
      | some i =>
        simp only [h2] at h
        cases h
        exact ih.step (by omega) h2
theorem invTo_stop {n : Nat} {p : LL × LL} : ∀ (c : Nat), invTo n p c = none → ∃ c' q, c' < c ∧ invTo n p c' = some q ∧ findP q.1 n c' = none
  | 0, h => by rw [invTo] at h; cases h
  | c + 1, h => by
    cases h1 : invTo n p c with
    | none => obtain ⟨c', q, h2, h3⟩ := invTo_stop c h1; exact ⟨c', q, by omega, h3⟩
    | some q =>
      rw [invTo, h1] at h
      cases h2 : findP q.1 n c with
      | none => exact ⟨c, q, by omega, h1, h2⟩
      | some i => simp only [h2] at h; cases h
theorem sq_coding (n : Nat) : Sq n (coding n n) := ⟨coding_length n n, coding_wide n n⟩
theorem entry_one (n : Nat) : EqN n (entry (coding n n)) idF := fun i j hi hj => by
  rw [coding_entry hi hj, codeAt, if_neg (by omega)]; rfl
theorem sq_width {n : Nat} {m : LL} (hm : Sq n m) (hn : 0 < n) : m.length = width m := by
  rw [width, hm.row hn, hm.len]
theorem invert_some {n : Nat} {m x : LL} (hm : Sq n m) (hn : 0 < n) (h : invert m = some x) :
    Sq n x ∧ EqN n (dotF n (entry x) (entry m)) idF ∧ EqN n (dotF n (entry m) (entry x)) idF ∧ detf n (entry m) ≠ 0 := by
  rw [invert, if_pos (sq_width hm hn), hm.len] at h
  cases h1 : invTo n (m, coding n n) n with
  | none => rw [h1] at h; cases h
  | some q =>
    rw [h1] at h
    cases h
    have cj := invTo_cj hm (sq_coding n) n (Nat.le_refl n) h1
    obtain ⟨⟨E, F, a1, a2, a3, a4⟩, s, hs, hd⟩ := cj.eq
    have eL : EqN n (entry q.1) idF := fun i j hi hj => cj.un i j hi hj
    have eE : EqN n (entry q.2) E := a2.trans ((dotF_congr (EqN.refl _ _) (entry_one n)).trans (dotF_id n E))
    have eF : EqN n (entry m) F := a3.trans ((dotF_congr (EqN.refl _ _) eL).trans (dotF_id n F))
    refine ⟨cj.s2, ?_, ?_, fun e => ?_⟩
    · exact ((dotF_congr eE (EqN.refl _ _)).trans a1.symm).trans eL
    · exact ((dotF_congr eF (EqN.refl _ _)).trans a4.symm).trans (entry_one n)
    · rw [e, gmul_zero, det_id n _ cj.un] at hd
      exact absurd hd (by decide)
theorem invert_none {n : Nat} {m : LL} (hm : Sq n m) (hn : 0 < n) (h : invert m = none) :
    detf n (entry m) = 0 ∧ ∃ v : Nat → UInt8, (∃ j, j < n ∧ v j ≠ 0) ∧ ∀ i, i < n → xs (fun k => gmul (entry m i k) (v k)) n = 0 := by
  rw [invert, if_pos (sq_width hm hn), hm.len] at h
  cases h1 : invTo n (m, coding n n) n with
  | some q => rw [h1] at h; cases h
  | none =>
    obtain ⟨c, q, hc, h2, h3⟩ := invTo_stop n h1
    have cj := invTo_cj hm (sq_coding n) c (by omega) h2
    have hz := findP_no h3
    obtain ⟨⟨E, F, a1, a2, a3, a4⟩, s, hs, hd⟩ := cj.eq
    constructor
    · rw [det_dead c n _ hc cj.un hz] at hd
      rcases gmul_eq_zero hd.symm with e | e
      · exact absurd e hs
      · exact e
    · refine ⟨fun j => if j < c then entry q.1 j c else if j = c then 1 else 0, ⟨c, hc, by simp⟩, fun i hi => ?_⟩
      have key : ∀ r, r < n → xs (fun k => gmul (entry q.1 r k) (if k < c then entry q.1 k c else if k = c then 1 else 0)) n = 0 := fun r hr => by
        have e : ∀ k, k < n → gmul (entry q.1 r k) (if k < c then entry q.1 k c else if k = c then 1 else 0) = (if k < c then (if r = k then entry q.1 k c else 0) else 0) ^^^ (if k = c then entry q.1 r c else 0) := fun k hk => by
          by_cases h1 : k < c
          · rw [if_pos h1, if_pos h1, if_neg (show ¬ k = c by omega), x_zero, cj.un r k hr h1]
            unfold idF
            split
            · rw [one_gmul]
            · rw [zero_gmul]
          · rw [if_neg h1, if_neg h1, zero_x]
            by_cases h2 : k = c
            · rw [if_pos h2, if_pos h2, gmul_one, h2]
            · rw [if_neg h2, if_neg h2, gmul_zero]
        rw [xs_congr e, xs_xor, xs_one (c := c) hc fun k _ hk => if_neg hk, if_pos rfl]
        by_cases h1 : r < c
        · rw [xs_one (c := r) hr fun k _ hk => ?_]
          · simp only [h1, if_true]
            exact x_self _
          · split
            · rw [if_neg (fun e => hk e.symm)]
            · rfl
        · rw [xs_zero n fun k _ => ?_, zero_x]
          · exact hz r (by omega) hr
          · split
            · rw [if_neg (by omega)]
            · rfl
      have e2 : ∀ k, k < n → gmul (entry m i k) (if k < c then entry q.1 k c else if k = c then 1 else 0) = gmul (dotF n F (entry q.1) i k) ((fun k (_ : Nat) => if k < c then entry q.1 k c else if k = c then 1 else 0) k 0) := fun k hk => by rw [a3 i k hi hk]
      rw [xs_congr e2]
      show dotF n (dotF n F (entry q.1)) (fun k _ => if k < c then entry q.1 k c else if k = c then 1 else 0) i 0 = 0
      rw [dotF_assoc]
      exact xs_zero n fun k hk => by
        rw [show dotF n (entry q.1) (fun k _ => if k < c then entry q.1 k c else if k = c then 1 else 0) k 0 = 0 from key k hk, gmul_zero]
end Go.Proofs.Ytgpkbldlkadnjaa
end
section
/- Plain: determinants of lists; products that are One. -/
set_option linter.unusedVariables false
set_option linter.unusedSimpArgs false
set_option maxHeartbeats 2000000
namespace Go.Proofs.Ytgpkbldlkadnjaa
open Go Go.Sl

theorem Sq.right {n : Nat} {m : LL} (h : Sq n m) (hn : 0 < n) : RightM m ∧ width m = n := by
  have e : width m = n := by rw [width]; exact h.row hn
  exact ⟨⟨by rw [h.len]; exact hn, by rw [e]; exact hn, fun x hx => by rw [e]; exact h.all x hx⟩, e⟩
theorem mul_one_of {n : Nat} {a b : LL} (ha : Sq n a) (hb : Sq n b) (hn : 0 < n) (h : EqN n (dotF n (entry a) (entry b)) idF) : mulM a b = coding n n := by
  obtain ⟨ra, wa⟩ := ha.right hn
  obtain ⟨rb, wb⟩ := hb.right hn
  obtain ⟨rc, wc⟩ := coding_right hn hn
  have hw : width a = b.length := by rw [wa, hb.len]
  obtain ⟨r1, w1, l1⟩ := mulM_right ra rb hw
  refine right_ext r1 rc (by rw [l1, ha.len, coding_length]) (by rw [w1, wb, wc]) fun i j hi hj => ?_
  rw [l1, ha.len] at hi
  rw [w1, wb] at hj
  rw [mulM_entry ra rb hw (by rw [ha.len]; exact hi) (by rw [wb]; exact hj), hb.len, entry_one n i j hi hj]
  exact h i j hi hj
theorem minorTo_get (m : LL) (i : Nat) : ∀ (k r : Nat), r < (minorTo m i k).length → (minorTo m i k).getD r [] = (m.getD (skip i r) []).drop 1
  | 0, r, h => by simp [minorTo] at h
  | k + 1, r, h => by
    have ih := minorTo_get m i k r
    have hl := minorTo_length m i k
    rw [minorTo_succ] at h ⊢
    by_cases e : k = i
    · rw [if_pos e] at h ⊢
      exact ih h
    · rw [if_neg e] at h ⊢
      by_cases q : r < (minorTo m i k).length
      · rw [← ih q, List.getD_eq_getElem?_getD, List.getD_eq_getElem?_getD, List.getElem?_append_left q, ← List.getD_eq_getElem?_getD]
      · have hr : r = (minorTo m i k).length := by simp at h; omega
        have hs : skip i r = k := by
          unfold skip
          rw [hr, hl]
          split <;> split <;> omega
        rw [hs, hr, List.getD_eq_getElem?_getD, List.getElem?_append_right (Nat.le_refl _)]
        simp
theorem minor_sq {n i : Nat} {m : LL} (h : Sq (n + 1) m) (hi : i < n + 1) : Sq n (minor m i) := by
  refine ⟨?_, minorTo_wide m i n h.all _ (Nat.le_refl _)⟩
  rw [minor, minorTo_length, h.len, if_pos hi]
  rfl
theorem minor_entry {n i : Nat} {m : LL} (h : Sq (n + 1) m) (hi : i < n + 1) : EqN n (entry (minor m i)) (minorF (entry m) i) := fun r j hr hj => by
  unfold entry minorF
  rw [minor, minorTo_get _ _ _ _ (by have := (minor_sq h hi).len; rw [minor] at this; omega)]
  rw [List.getD_eq_getElem?_getD, List.getElem?_drop, ← List.getD_eq_getElem?_getD, Nat.add_comm]
theorem detAcc_eq (f : LL → UInt8) (m : LL) : ∀ k, detAcc f m k = xs (fun i => gmul (entry m i 0) (f (minor m i))) k
  | 0 => rfl
  | k + 1 => by
    rw [detAcc, xs, detAcc_eq f m k]
    split
    · rename_i h; rw [h, zero_gmul, x_zero]
    · rw [rmul_eq]
theorem det_eq : ∀ (n : Nat) {m : LL}, 1 ≤ n → Sq n m → det n m = detf n (entry m)
  | 1, m, _, h => by
    rw [det, detf, xs, xs, detf, gmul_one, zero_x]
  | n + 2, m, _, h => by
    show detAcc (det (n + 1)) m (n + 2) = _
    rw [detAcc_eq, detf]
    exact xs_congr fun i hi => by rw [det_eq (n + 1) (by omega) (minor_sq h hi), detf_congr (n + 1) (minor_entry h hi)]
end Go.Proofs.Ytgpkbldlkadnjaa
end
section
/- Walk over memory: MatrixKeeps. -/
set_option linter.unusedVariables false
set_option linter.unusedSimpArgs false
set_option maxHeartbeats 3000000
attribute [local irreducible] Go.Sl.Chk Go.Sl.Br Go.Sl.Ld Go.Sl.Ldn Go.Sl.LdB Go.Sl.Stn Go.Sl.New Go.Sl.Run Go.Sl.RunU Go.Sl.RunX Go.Sl.Call Go.Sl.LoopK Go.Sl.RawK Go.Sl.Om Go.Sl.xpk Go.Sl.xgpk Go.Sl.xglk Go.Sl.DLd Go.Sl.DLdG Go.Sl.DBs Go.Sl.DCall Go.Sl.DApp Go.Sl.DGen Go.Sl.DGenU Go.Sl.DGC Go.Sl.DLoop Go.Sl.DRaw Go.Sl.DRet Go.Sl.Ent Go.Sl.dget Go.Sl.dv Go.Sl.ev Go.Sl.eget
namespace Go.Proofs.Ytgpkbldlkadnjaa
open Go Go.Sl Go.RowKit
/-- a matrix in new memory, behind some turning of its bytes -/
structure FJ (B n : Nat) (w0 w : World) (r : Value) (k : Nat) : Prop where
  fr : Fr No w0 w
  ex : ∃ (vs : List Value) (m : LL), OM w r vs m ∧ Dis r vs ∧ (∀ b, Has r vs b → w0.heap.size ≤ b) ∧ m.length = n ∧ ∀ x ∈ m, 0 < x.length
theorem FJ.of {B : Nat} {w0 w : World} {r : Value} {m : LL} (h : NewMat w0.heap.size w r m) (hf : Fr No w0 w) (hp : ∀ x ∈ m, 0 < x.length) : FJ B m.length w0 w r 0 := by
  obtain ⟨vs, h1, h2, h3⟩ := h
  exact ⟨hf, vs, m, h1, h2, h3, rfl, hp⟩
/-- one byte turned -/
theorem FJ.step {B n k : Nat} {w0 w : World} {r : Value} (h : FJ B n w0 w r k) {i : Nat} (hi : i < n) {g cap : Nat} (hr : r = .slice (some ⟨g, 0, none⟩) n cap) : ∃ (gi ci li : Nat) (z : UInt8), 0 < li ∧ w.cell? ⟨g, i, none⟩ = some (.slice (some ⟨gi, 0, none⟩) li ci) ∧ w.cell? ⟨gi, 0, none⟩ = some (U8 z) ∧
    ∀ (y : UInt8) (K : World → Prop) (t : Tag (K w)), (∀ w', FJ B n w0 w' r k → K w') → ∀ t, Stn w ⟨gi, 0, none⟩ [U8 y] K t := by
  obtain ⟨hf, vs, m, h1, h2, h3, hl, hp⟩ := h
  subst hr
  have him : i < m.length := by omega
  obtain ⟨u, hu, hrow, hc⟩ := h1.at' him
  have hpi := hp _ (List.getElem_mem him)
  obtain ⟨gi, ci, rfl, hcs⟩ := Ow.posRow hrow hpi
  refine ⟨gi, ci, m[i].length, m[i][0], hpi, hc, hcs 0 hpi, fun y K _ hk t => ?_⟩
  refine Ow.set hrow (j := 0) (v := U8 y) hpi rfl ?_
  intro w' ho hfr hs
  have e : (m[i].map U8).set 0 (U8 y) = (m[i].set 0 y).map U8 := by rw [List.map_set]
  rw [e] at ho
  have hlen : (m[i].set 0 y).length = m[i].length := List.length_set
  refine hk w' ⟨hf.step hfr fun b hb e => ?_, vs, m.set i (m[i].set 0 y), h1.turn h2 hu rfl hfr (by rw [hlen]; exact ho), h2, h3, by rw [List.length_set]; exact hl, fun x hx => ?_⟩
  · have := h3 gi (.inr ⟨i, _, hu, rfl⟩)
    omega
  · rcases List.mem_or_eq_of_mem_set hx with h | h
    · exact hp x h
    · rw [h, hlen]; exact hpi
theorem FJ.drew {B n k : Nat} {w0 w : World} {r : Value} (h : FJ B n w0 w r k) : FJ B n w0 w.drew r k := by
  obtain ⟨hf, vs, m, h1, h2⟩ := h
  exact ⟨hf.drew, vs, m, h1.no (Fr.refl _ _).drew, h2⟩
theorem newMat_form {B : Nat} {w : World} {r : Value} {m : LL} (h : NewMat B w r m) : ∃ A c, r = .slice A m.length c ∧ (0 < m.length → ∃ g, A = some ⟨g, 0, none⟩) := by
  obtain ⟨vs, h1, _⟩ := h
  rcases h1.spine.form with ⟨rfl, hn, _⟩ | ⟨g, cap, cur, rfl, _⟩
  · exact ⟨none, 0, by rw [hn], fun h => by omega⟩
  · exact ⟨_, cap, rfl, fun _ => ⟨g, rfl⟩⟩
theorem inv_pos {m : LL} (rm : RightM m) : (∀ x ∈ (invert m).getD [], 0 < x.length) ∧ ((invert m).getD []).length ≤ m.length := by
  cases h : invert m with
  | none => simp
  | some y =>
    have hw : m.length = width m := by
      by_cases e : m.length = width m
      · exact e
      · rw [invert, if_neg e] at h; cases h
    have := (invert_some (n := m.length) ⟨rfl, fun x hx => by rw [rm.all x hx, hw]⟩ rm.pos h).1
    refine ⟨fun x hx => ?_, by rw [Option.getD_some, this.len]; exact Nat.le_refl _⟩
    rw [this.all x hx]
    exact rm.pos
theorem pick_pos {m : LL} (rm : RightM m) : (∀ x ∈ pick m [0], 0 < x.length) ∧ (pick m [0]).length ≤ 1 := by
  unfold pick
  split
  · refine ⟨fun x hx => ?_, by simp⟩
    simp only [List.map_cons, List.map_nil, List.mem_singleton] at hx
    subst hx
    exact rm.wide
  · simp
theorem keeps_calls {w : World} {B : Nat} {v : Value} {m : LL} (hm : MS w B v m) (hB : B ≤ w.heap.size) (hl : m.length ≤ 9223372036854775807) :
    Calls Try.prog f_law04_MatrixKeeps #[v] w fun en w' => ∃ r, en = .returned r ∧ (r = .bool true ∧ Fr No w w') := by
  obtain ⟨A, cp, rfl, hc, hr⟩ := hm.open
  refine calls_of_mf (args := [.slice A m.length cp]) c_law04_MatrixKeeps (by simp only [m_law04_MatrixKeeps, List.length]; decide) ?_
  simp -dsimp (disch := omega) only [↓MC.wp, ↓opsWp, ↓drWp, ↓MOp.wp, evs, ev, eget, eput, eput?, pev, pbin, pint, pbool, pstr, psl, vnil, pbuild, overlay, ↓thenQ, ↓blockQ, ↓retQ, ↓resWp, tupV, stills, MOp.still, known, Op.operands, List.toList_toArray, argEnv, ekeep, one_int, one_bool, one_str, one_ptr, one_slice, one_func, one_nilf, one_nilc, one_iface, one_map, Chk_true, Chk_of, Br_true, Br_false, Br_pos, Br_neg, Br_npos, Br_nneg, beq_t, beq_f, not_not', dec_true, dec_false, not_t, not_f, pick_t, pick_f, take1, drop1, take0, drop0, arr_app, List.append_nil, bne_tt, bne_tf, bne_ft, bne_ff, beq_tt, beq_tf, beq_ft, beq_ff, dec_pos, dec_neg, Ld_some, wrap_i64, tdiv_pos, tmod_pos, Sl.add_lit, drew_cell, Nat.reduceAdd, Nat.zero_add, Nat.add_zero, Nat.mul_one, Nat.one_mul, Int.toNat_natCast, cells_int, cells_bool, cells_str, cells_ptr, cells_slice, cells_func, cells_nilf, cells_nilc, cells_iface, cells_map, cells_agg, size_one, toList_one, List.length_cons, List.length_nil, List.cons_append, List.nil_append, reduceCtorEq, and_self, and_true, true_and, if_true, if_false, ↓reduceIte, ne_eq, not_false_eq_true, not_true_eq_false, Option.isSome_some, Option.isSome_none, decide_true, decide_false, List.getElem?_toArray, List.getElem?_cons_zero, List.getElem?_cons_succ, Bool.and_true, Bool.and_self, Int.reduceEq, Int.reduceLT, Int.reduceLE, Int.reduceAdd, Int.reduceSub, Int.reduceMul, Int.reduceToNat, Nat.reduceMul, Nat.reduceLeDiff, Nat.le_refl, Nat.reduceLT, Nat.reduceSub, m_law04_MatrixKeeps]
  refine call (awake_calls w) fun r w1 ⟨h1, hf1⟩ => ?_
  subst h1
  simp -dsimp (disch := omega) only [↓MC.wp, ↓opsWp, ↓drWp, ↓MOp.wp, evs, ev, eget, eput, eput?, pev, pbin, pint, pbool, pstr, psl, vnil, pbuild, overlay, ↓thenQ, ↓blockQ, ↓retQ, ↓resWp, tupV, stills, MOp.still, known, Op.operands, List.toList_toArray, argEnv, ekeep, one_int, one_bool, one_str, one_ptr, one_slice, one_func, one_nilf, one_nilc, one_iface, one_map, Chk_true, Chk_of, Br_true, Br_false, Br_pos, Br_neg, Br_npos, Br_nneg, beq_t, beq_f, not_not', dec_true, dec_false, not_t, not_f, pick_t, pick_f, take1, drop1, take0, drop0, arr_app, List.append_nil, bne_tt, bne_tf, bne_ft, bne_ff, beq_tt, beq_tf, beq_ft, beq_ff, dec_pos, dec_neg, Ld_some, wrap_i64, tdiv_pos, tmod_pos, Sl.add_lit, drew_cell, Nat.reduceAdd, Nat.zero_add, Nat.add_zero, Nat.mul_one, Nat.one_mul, Int.toNat_natCast, cells_int, cells_bool, cells_str, cells_ptr, cells_slice, cells_func, cells_nilf, cells_nilc, cells_iface, cells_map, cells_agg, size_one, toList_one, List.length_cons, List.length_nil, List.cons_append, List.nil_append, reduceCtorEq, and_self, and_true, true_and, if_true, if_false, ↓reduceIte, ne_eq, not_false_eq_true, not_true_eq_false, Option.isSome_some, Option.isSome_none, decide_true, decide_false, List.getElem?_toArray, List.getElem?_cons_zero, List.getElem?_cons_succ, Bool.and_true, Bool.and_self, Int.reduceEq, Int.reduceLT, Int.reduceLE, Int.reduceAdd, Int.reduceSub, Int.reduceMul, Int.reduceToNat, Nat.reduceMul, Nat.reduceLeDiff, Nat.le_refl, Nat.reduceLT, Nat.reduceSub]
  have hm1 : MS w1 B (.slice A m.length cp) m := hm.fr hf1 fun _ _ h => h
  refine call (few_calls (most := 8) hm1 hl (by omega)) fun r w2 ⟨h2, hf2⟩ => ?_
  subst h2
  cases hfm : fewB m 8 with
  | false =>
    simp -dsimp (disch := omega) only [↓MC.wp, ↓opsWp, ↓drWp, ↓MOp.wp, evs, ev, eget, eput, eput?, pev, pbin, pint, pbool, pstr, psl, vnil, pbuild, overlay, ↓thenQ, ↓blockQ, ↓retQ, ↓resWp, tupV, stills, MOp.still, known, Op.operands, List.toList_toArray, argEnv, ekeep, one_int, one_bool, one_str, one_ptr, one_slice, one_func, one_nilf, one_nilc, one_iface, one_map, Chk_true, Chk_of, Br_true, Br_false, Br_pos, Br_neg, Br_npos, Br_nneg, beq_t, beq_f, not_not', dec_true, dec_false, not_t, not_f, pick_t, pick_f, take1, drop1, take0, drop0, arr_app, List.append_nil, bne_tt, bne_tf, bne_ft, bne_ff, beq_tt, beq_tf, beq_ft, beq_ff, dec_pos, dec_neg, Ld_some, wrap_i64, tdiv_pos, tmod_pos, Sl.add_lit, drew_cell, Nat.reduceAdd, Nat.zero_add, Nat.add_zero, Nat.mul_one, Nat.one_mul, Int.toNat_natCast, cells_int, cells_bool, cells_str, cells_ptr, cells_slice, cells_func, cells_nilf, cells_nilc, cells_iface, cells_map, cells_agg, size_one, toList_one, List.length_cons, List.length_nil, List.cons_append, List.nil_append, reduceCtorEq, and_self, and_true, true_and, if_true, if_false, ↓reduceIte, ne_eq, not_false_eq_true, not_true_eq_false, Option.isSome_some, Option.isSome_none, decide_true, decide_false, List.getElem?_toArray, List.getElem?_cons_zero, List.getElem?_cons_succ, Bool.and_true, Bool.and_self, Int.reduceEq, Int.reduceLT, Int.reduceLE, Int.reduceAdd, Int.reduceSub, Int.reduceMul, Int.reduceToNat, Nat.reduceMul, Nat.reduceLeDiff, Nat.le_refl, Nat.reduceLT, Nat.reduceSub]
    refine call (awake_calls _) fun r w3 ⟨h3, hf3⟩ => ?_
    subst h3
    simp -dsimp (disch := omega) only [↓MC.wp, ↓opsWp, ↓drWp, ↓MOp.wp, evs, ev, eget, eput, eput?, pev, pbin, pint, pbool, pstr, psl, vnil, pbuild, overlay, ↓thenQ, ↓blockQ, ↓retQ, ↓resWp, tupV, stills, MOp.still, known, Op.operands, List.toList_toArray, argEnv, ekeep, one_int, one_bool, one_str, one_ptr, one_slice, one_func, one_nilf, one_nilc, one_iface, one_map, Chk_true, Chk_of, Br_true, Br_false, Br_pos, Br_neg, Br_npos, Br_nneg, beq_t, beq_f, not_not', dec_true, dec_false, not_t, not_f, pick_t, pick_f, take1, drop1, take0, drop0, arr_app, List.append_nil, bne_tt, bne_tf, bne_ft, bne_ff, beq_tt, beq_tf, beq_ft, beq_ff, dec_pos, dec_neg, Ld_some, wrap_i64, tdiv_pos, tmod_pos, Sl.add_lit, drew_cell, Nat.reduceAdd, Nat.zero_add, Nat.add_zero, Nat.mul_one, Nat.one_mul, Int.toNat_natCast, cells_int, cells_bool, cells_str, cells_ptr, cells_slice, cells_func, cells_nilf, cells_nilc, cells_iface, cells_map, cells_agg, size_one, toList_one, List.length_cons, List.length_nil, List.cons_append, List.nil_append, reduceCtorEq, and_self, and_true, true_and, if_true, if_false, ↓reduceIte, ne_eq, not_false_eq_true, not_true_eq_false, Option.isSome_some, Option.isSome_none, decide_true, decide_false, List.getElem?_toArray, List.getElem?_cons_zero, List.getElem?_cons_succ, Bool.and_true, Bool.and_self, Int.reduceEq, Int.reduceLT, Int.reduceLE, Int.reduceAdd, Int.reduceSub, Int.reduceMul, Int.reduceToNat, Nat.reduceMul, Nat.reduceLeDiff, Nat.le_refl, Nat.reduceLT, Nat.reduceSub]
    exact (hf1.then hf2).then hf3
  | true =>
    obtain ⟨rm, lm, wm⟩ := few_of hfm
    have sm := rm.small (by omega) (by omega)
    simp -dsimp (disch := omega) only [↓MC.wp, ↓opsWp, ↓drWp, ↓MOp.wp, evs, ev, eget, eput, eput?, pev, pbin, pint, pbool, pstr, psl, vnil, pbuild, overlay, ↓thenQ, ↓blockQ, ↓retQ, ↓resWp, tupV, stills, MOp.still, known, Op.operands, List.toList_toArray, argEnv, ekeep, one_int, one_bool, one_str, one_ptr, one_slice, one_func, one_nilf, one_nilc, one_iface, one_map, Chk_true, Chk_of, Br_true, Br_false, Br_pos, Br_neg, Br_npos, Br_nneg, beq_t, beq_f, not_not', dec_true, dec_false, not_t, not_f, pick_t, pick_f, take1, drop1, take0, drop0, arr_app, List.append_nil, bne_tt, bne_tf, bne_ft, bne_ff, beq_tt, beq_tf, beq_ft, beq_ff, dec_pos, dec_neg, Ld_some, wrap_i64, tdiv_pos, tmod_pos, Sl.add_lit, drew_cell, Nat.reduceAdd, Nat.zero_add, Nat.add_zero, Nat.mul_one, Nat.one_mul, Int.toNat_natCast, cells_int, cells_bool, cells_str, cells_ptr, cells_slice, cells_func, cells_nilf, cells_nilc, cells_iface, cells_map, cells_agg, size_one, toList_one, List.length_cons, List.length_nil, List.cons_append, List.nil_append, reduceCtorEq, and_self, and_true, true_and, if_true, if_false, ↓reduceIte, ne_eq, not_false_eq_true, not_true_eq_false, Option.isSome_some, Option.isSome_none, decide_true, decide_false, List.getElem?_toArray, List.getElem?_cons_zero, List.getElem?_cons_succ, Bool.and_true, Bool.and_self, Int.reduceEq, Int.reduceLT, Int.reduceLE, Int.reduceAdd, Int.reduceSub, Int.reduceMul, Int.reduceToNat, Nat.reduceMul, Nat.reduceLeDiff, Nat.le_refl, Nat.reduceLT, Nat.reduceSub]
    have hm2 : MS w2 B (.slice A m.length cp) m := hm1.fr hf2 fun _ _ h => h
    obtain ⟨_, _, e9, _, hr2⟩ := hm2.open
    cases e9
    have hB2 : B ≤ w2.heap.size := by have := hf1.size; have := hf2.size; omega
    refine loopS [0, 3, 4] (fun s : Nat × Value => [(0, .slice A m.length cp), (3, s.2), (4, .int .i64 s.1)])
      (fun s w1 => s.1 ≤ m.length ∧ NewMat w2.heap.size w1 s.2 (m.take s.1) ∧ Fr No w2 w1) (fun s _ => m.length - s.1) (0, .slice none 0 0) (by with_unfolding_all rfl) ⟨Nat.zero_le _, NewMat.nil _ _, Fr.refl _ _⟩ ?_
    rintro ⟨k, o⟩ w3 ⟨hk, ho, hf⟩
    dsimp only at hk ho ⊢
    by_cases hlt : k < m.length
    · obtain ⟨ad, u, rfl, had, hcell, hrow⟩ := hr2 k hlt
      have hc1 : w3.cell? (ad.add k) = some u := by rw [hf.cell (cell_block_lt hcell) (fun h => h)]; exact hcell
      simp -dsimp (disch := omega) only [↓MC.wp, ↓opsWp, ↓drWp, ↓MOp.wp, evs, ev, eget, eput, eput?, pev, pbin, pint, pbool, pstr, psl, vnil, pbuild, overlay, ↓thenQ, ↓blockQ, ↓retQ, ↓resWp, tupV, stills, MOp.still, known, Op.operands, List.toList_toArray, argEnv, ekeep, one_int, one_bool, one_str, one_ptr, one_slice, one_func, one_nilf, one_nilc, one_iface, one_map, Chk_true, Chk_of, Br_true, Br_false, Br_pos, Br_neg, Br_npos, Br_nneg, beq_t, beq_f, not_not', dec_true, dec_false, not_t, not_f, pick_t, pick_f, take1, drop1, take0, drop0, arr_app, List.append_nil, bne_tt, bne_tf, bne_ft, bne_ff, beq_tt, beq_tf, beq_ft, beq_ff, dec_pos, dec_neg, Ld_some, wrap_i64, tdiv_pos, tmod_pos, Sl.add_lit, drew_cell, Nat.reduceAdd, Nat.zero_add, Nat.add_zero, Nat.mul_one, Nat.one_mul, Int.toNat_natCast, cells_int, cells_bool, cells_str, cells_ptr, cells_slice, cells_func, cells_nilf, cells_nilc, cells_iface, cells_map, cells_agg, size_one, toList_one, List.length_cons, List.length_nil, List.cons_append, List.nil_append, reduceCtorEq, and_self, and_true, true_and, if_true, if_false, ↓reduceIte, ne_eq, not_false_eq_true, not_true_eq_false, Option.isSome_some, Option.isSome_none, decide_true, decide_false, List.getElem?_toArray, List.getElem?_cons_zero, List.getElem?_cons_succ, Bool.and_true, Bool.and_self, Int.reduceEq, Int.reduceLT, Int.reduceLE, Int.reduceAdd, Int.reduceSub, Int.reduceMul, Int.reduceToNat, Nat.reduceMul, Nat.reduceLeDiff, Nat.le_refl, Nat.reduceLT, Nat.reduceSub, hc1]
      have hrow1 : BS w3 B u m[k] := hrow.fr hf fun _ _ h => h
      have hwk := sm.wide _ (List.getElem_mem hlt)
      refine new fun b2 w4 hb2 hs2 hc2 hf2' => ?_
      have hc4 : w4.cell? (ad.add k) = some u := by rw [hf2'.cell (cell_block_lt hc1) (fun h => h)]; exact hc1
      simp -dsimp (disch := omega) only [↓MC.wp, ↓opsWp, ↓drWp, ↓MOp.wp, evs, ev, eget, eput, eput?, pev, pbin, pint, pbool, pstr, psl, vnil, pbuild, overlay, ↓thenQ, ↓blockQ, ↓retQ, ↓resWp, tupV, stills, MOp.still, known, Op.operands, List.toList_toArray, argEnv, ekeep, one_int, one_bool, one_str, one_ptr, one_slice, one_func, one_nilf, one_nilc, one_iface, one_map, Chk_true, Chk_of, Br_true, Br_false, Br_pos, Br_neg, Br_npos, Br_nneg, beq_t, beq_f, not_not', dec_true, dec_false, not_t, not_f, pick_t, pick_f, take1, drop1, take0, drop0, arr_app, List.append_nil, bne_tt, bne_tf, bne_ft, bne_ff, beq_tt, beq_tf, beq_ft, beq_ff, dec_pos, dec_neg, Ld_some, wrap_i64, tdiv_pos, tmod_pos, Sl.add_lit, drew_cell, Nat.reduceAdd, Nat.zero_add, Nat.add_zero, Nat.mul_one, Nat.one_mul, Int.toNat_natCast, cells_int, cells_bool, cells_str, cells_ptr, cells_slice, cells_func, cells_nilf, cells_nilc, cells_iface, cells_map, cells_agg, size_one, toList_one, List.length_cons, List.length_nil, List.cons_append, List.nil_append, reduceCtorEq, and_self, and_true, true_and, if_true, if_false, ↓reduceIte, ne_eq, not_false_eq_true, not_true_eq_false, Option.isSome_some, Option.isSome_none, decide_true, decide_false, List.getElem?_toArray, List.getElem?_cons_zero, List.getElem?_cons_succ, Bool.and_true, Bool.and_self, Int.reduceEq, Int.reduceLT, Int.reduceLE, Int.reduceAdd, Int.reduceSub, Int.reduceMul, Int.reduceToNat, Nat.reduceMul, Nat.reduceLeDiff, Nat.le_refl, Nat.reduceLT, Nat.reduceSub, hc4]
      refine app elB (Ow.lit (n := 0) hc2 rfl (by omega)) ((hrow1.fr hf2' fun _ _ h => h).src) ?_ ?_ ?_ ?_ fun v5 w5 ho5 hf5 hat => ?_
      · simp
      · intro u hu; obtain ⟨x, _, rfl⟩ := List.mem_map.1 hu; rfl
      · omega
      · omega
      have hn : New' w3.heap.size (.slice (some ⟨b2, 0, none⟩) 0 0) := fun c hc => by cases hc; show w3.heap.size ≤ b2; omega
      have hnew : NewRow w3.heap.size w5 v5 m[k] := ⟨by simpa using ho5, hn.app hf2'.size hat⟩
      have hf35 : Fr No w3 w5 := hf2'.own hn hf5
      simp -dsimp (disch := omega) only [↓MC.wp, ↓opsWp, ↓drWp, ↓MOp.wp, evs, ev, eget, eput, eput?, pev, pbin, pint, pbool, pstr, psl, vnil, pbuild, overlay, ↓thenQ, ↓blockQ, ↓retQ, ↓resWp, tupV, stills, MOp.still, known, Op.operands, List.toList_toArray, argEnv, ekeep, one_int, one_bool, one_str, one_ptr, one_slice, one_func, one_nilf, one_nilc, one_iface, one_map, Chk_true, Chk_of, Br_true, Br_false, Br_pos, Br_neg, Br_npos, Br_nneg, beq_t, beq_f, not_not', dec_true, dec_false, not_t, not_f, pick_t, pick_f, take1, drop1, take0, drop0, arr_app, List.append_nil, bne_tt, bne_tf, bne_ft, bne_ff, beq_tt, beq_tf, beq_ft, beq_ff, dec_pos, dec_neg, Ld_some, wrap_i64, tdiv_pos, tmod_pos, Sl.add_lit, drew_cell, Nat.reduceAdd, Nat.zero_add, Nat.add_zero, Nat.mul_one, Nat.one_mul, Int.toNat_natCast, cells_int, cells_bool, cells_str, cells_ptr, cells_slice, cells_func, cells_nilf, cells_nilc, cells_iface, cells_map, cells_agg, size_one, toList_one, List.length_cons, List.length_nil, List.cons_append, List.nil_append, reduceCtorEq, and_self, and_true, true_and, if_true, if_false, ↓reduceIte, ne_eq, not_false_eq_true, not_true_eq_false, Option.isSome_some, Option.isSome_none, decide_true, decide_false, List.getElem?_toArray, List.getElem?_cons_zero, List.getElem?_cons_succ, Bool.and_true, Bool.and_self, Int.reduceEq, Int.reduceLT, Int.reduceLE, Int.reduceAdd, Int.reduceSub, Int.reduceMul, Int.reduceToNat, Nat.reduceMul, Nat.reduceLeDiff, Nat.le_refl, Nat.reduceLT, Nat.reduceSub, Ow.cells1 hnew.1, set_one]
      refine new fun b6 w6 hb6 hs6 hc6 hf6 => ?_
      simp -dsimp (disch := omega) only [↓MC.wp, ↓opsWp, ↓drWp, ↓MOp.wp, evs, ev, eget, eput, eput?, pev, pbin, pint, pbool, pstr, psl, vnil, pbuild, overlay, ↓thenQ, ↓blockQ, ↓retQ, ↓resWp, tupV, stills, MOp.still, known, Op.operands, List.toList_toArray, argEnv, ekeep, one_int, one_bool, one_str, one_ptr, one_slice, one_func, one_nilf, one_nilc, one_iface, one_map, Chk_true, Chk_of, Br_true, Br_false, Br_pos, Br_neg, Br_npos, Br_nneg, beq_t, beq_f, not_not', dec_true, dec_false, not_t, not_f, pick_t, pick_f, take1, drop1, take0, drop0, arr_app, List.append_nil, bne_tt, bne_tf, bne_ft, bne_ff, beq_tt, beq_tf, beq_ft, beq_ff, dec_pos, dec_neg, Ld_some, wrap_i64, tdiv_pos, tmod_pos, Sl.add_lit, drew_cell, Nat.reduceAdd, Nat.zero_add, Nat.add_zero, Nat.mul_one, Nat.one_mul, Int.toNat_natCast, cells_int, cells_bool, cells_str, cells_ptr, cells_slice, cells_func, cells_nilf, cells_nilc, cells_iface, cells_map, cells_agg, size_one, toList_one, List.length_cons, List.length_nil, List.cons_append, List.nil_append, reduceCtorEq, and_self, and_true, true_and, if_true, if_false, ↓reduceIte, ne_eq, not_false_eq_true, not_true_eq_false, Option.isSome_some, Option.isSome_none, decide_true, decide_false, List.getElem?_toArray, List.getElem?_cons_zero, List.getElem?_cons_succ, Bool.and_true, Bool.and_self, Int.reduceEq, Int.reduceLT, Int.reduceLE, Int.reduceAdd, Int.reduceSub, Int.reduceMul, Int.reduceToNat, Nat.reduceMul, Nat.reduceLeDiff, Nat.le_refl, Nat.reduceLT, Nat.reduceSub]
      refine push_row ho hf hf35 hnew (by simp; omega) hb6 hs6 hc6 hf6 fun r' w' hr' hf' => ?_
      simp -dsimp (disch := omega) only [↓MC.wp, ↓opsWp, ↓drWp, ↓MOp.wp, evs, ev, eget, eput, eput?, pev, pbin, pint, pbool, pstr, psl, vnil, pbuild, overlay, ↓thenQ, ↓blockQ, ↓retQ, ↓resWp, tupV, stills, MOp.still, known, Op.operands, List.toList_toArray, argEnv, ekeep, one_int, one_bool, one_str, one_ptr, one_slice, one_func, one_nilf, one_nilc, one_iface, one_map, Chk_true, Chk_of, Br_true, Br_false, Br_pos, Br_neg, Br_npos, Br_nneg, beq_t, beq_f, not_not', dec_true, dec_false, not_t, not_f, pick_t, pick_f, take1, drop1, take0, drop0, arr_app, List.append_nil, bne_tt, bne_tf, bne_ft, bne_ff, beq_tt, beq_tf, beq_ft, beq_ff, dec_pos, dec_neg, Ld_some, wrap_i64, tdiv_pos, tmod_pos, Sl.add_lit, drew_cell, Nat.reduceAdd, Nat.zero_add, Nat.add_zero, Nat.mul_one, Nat.one_mul, Int.toNat_natCast, cells_int, cells_bool, cells_str, cells_ptr, cells_slice, cells_func, cells_nilf, cells_nilc, cells_iface, cells_map, cells_agg, size_one, toList_one, List.length_cons, List.length_nil, List.cons_append, List.nil_append, reduceCtorEq, and_self, and_true, true_and, if_true, if_false, ↓reduceIte, ne_eq, not_false_eq_true, not_true_eq_false, Option.isSome_some, Option.isSome_none, decide_true, decide_false, List.getElem?_toArray, List.getElem?_cons_zero, List.getElem?_cons_succ, Bool.and_true, Bool.and_self, Int.reduceEq, Int.reduceLT, Int.reduceLE, Int.reduceAdd, Int.reduceSub, Int.reduceMul, Int.reduceToNat, Nat.reduceMul, Nat.reduceLeDiff, Nat.le_refl, Nat.reduceLT, Nat.reduceSub]
      exact ⟨(k + 1, r'), rfl, ⟨by dsimp only; omega, by dsimp only; rw [take_succ' hlt]; exact hr', hf'⟩, by dsimp only; omega⟩
    · simp -dsimp (disch := omega) only [↓MC.wp, ↓opsWp, ↓drWp, ↓MOp.wp, evs, ev, eget, eput, eput?, pev, pbin, pint, pbool, pstr, psl, vnil, pbuild, overlay, ↓thenQ, ↓blockQ, ↓retQ, ↓resWp, tupV, stills, MOp.still, known, Op.operands, List.toList_toArray, argEnv, ekeep, one_int, one_bool, one_str, one_ptr, one_slice, one_func, one_nilf, one_nilc, one_iface, one_map, Chk_true, Chk_of, Br_true, Br_false, Br_pos, Br_neg, Br_npos, Br_nneg, beq_t, beq_f, not_not', dec_true, dec_false, not_t, not_f, pick_t, pick_f, take1, drop1, take0, drop0, arr_app, List.append_nil, bne_tt, bne_tf, bne_ft, bne_ff, beq_tt, beq_tf, beq_ft, beq_ff, dec_pos, dec_neg, Ld_some, wrap_i64, tdiv_pos, tmod_pos, Sl.add_lit, drew_cell, Nat.reduceAdd, Nat.zero_add, Nat.add_zero, Nat.mul_one, Nat.one_mul, Int.toNat_natCast, cells_int, cells_bool, cells_str, cells_ptr, cells_slice, cells_func, cells_nilf, cells_nilc, cells_iface, cells_map, cells_agg, size_one, toList_one, List.length_cons, List.length_nil, List.cons_append, List.nil_append, reduceCtorEq, and_self, and_true, true_and, if_true, if_false, ↓reduceIte, ne_eq, not_false_eq_true, not_true_eq_false, Option.isSome_some, Option.isSome_none, decide_true, decide_false, List.getElem?_toArray, List.getElem?_cons_zero, List.getElem?_cons_succ, Bool.and_true, Bool.and_self, Int.reduceEq, Int.reduceLT, Int.reduceLE, Int.reduceAdd, Int.reduceSub, Int.reduceMul, Int.reduceToNat, Nat.reduceMul, Nat.reduceLeDiff, Nat.le_refl, Nat.reduceLT, Nat.reduceSub]
      have hkk : k = m.length := by omega
      subst hkk
      rw [List.take_length] at ho
      have hm3 : MS w3 B (.slice A m.length cp) m := hm2.fr hf fun _ _ h => h
      refine call (invert_calls hm3 (by have := hf.size; omega) rm sm) ?_
      rintro r w4 ⟨r1, hr1, hx, hf4⟩
      subst hr1
      obtain ⟨hpos, hlen⟩ := inv_pos rm
      have hok : 0 < ((invert m).getD []).length → (invert m).isSome = true := by cases invert m <;> simp
      obtain ⟨xm, hxm⟩ : ∃ xm, xm = (invert m).getD [] := ⟨_, rfl⟩
      obtain ⟨bk, hbk⟩ : ∃ bk, bk = (invert m).isSome := ⟨_, rfl⟩
      rw [← hxm] at hx hpos hok hlen
      rw [← hbk] at hok ⊢
      obtain ⟨A1, c1, rfl, hA1⟩ := newMat_form hx
      have hj0 : FJ B xm.length w3 w4 (.slice A1 xm.length c1) 0 := FJ.of hx hf4 hpos
      obtain ⟨n, hn⟩ : ∃ n, n = xm.length := ⟨_, rfl⟩
      rw [← hn] at hj0 hA1 hok ⊢
      have hn1 : n ≤ 1000000 := by omega
      simp -dsimp (disch := omega) only [↓MC.wp, ↓opsWp, ↓drWp, ↓MOp.wp, evs, ev, eget, eput, eput?, pev, pbin, pint, pbool, pstr, psl, vnil, pbuild, overlay, ↓thenQ, ↓blockQ, ↓retQ, ↓resWp, tupV, stills, MOp.still, known, Op.operands, List.toList_toArray, argEnv, ekeep, one_int, one_bool, one_str, one_ptr, one_slice, one_func, one_nilf, one_nilc, one_iface, one_map, Chk_true, Chk_of, Br_true, Br_false, Br_pos, Br_neg, Br_npos, Br_nneg, beq_t, beq_f, not_not', dec_true, dec_false, not_t, not_f, pick_t, pick_f, take1, drop1, take0, drop0, arr_app, List.append_nil, bne_tt, bne_tf, bne_ft, bne_ff, beq_tt, beq_tf, beq_ft, beq_ff, dec_pos, dec_neg, Ld_some, wrap_i64, tdiv_pos, tmod_pos, Sl.add_lit, drew_cell, Nat.reduceAdd, Nat.zero_add, Nat.add_zero, Nat.mul_one, Nat.one_mul, Int.toNat_natCast, cells_int, cells_bool, cells_str, cells_ptr, cells_slice, cells_func, cells_nilf, cells_nilc, cells_iface, cells_map, cells_agg, size_one, toList_one, List.length_cons, List.length_nil, List.cons_append, List.nil_append, reduceCtorEq, and_self, and_true, true_and, if_true, if_false, ↓reduceIte, ne_eq, not_false_eq_true, not_true_eq_false, Option.isSome_some, Option.isSome_none, decide_true, decide_false, List.getElem?_toArray, List.getElem?_cons_zero, List.getElem?_cons_succ, Bool.and_true, Bool.and_self, Int.reduceEq, Int.reduceLT, Int.reduceLE, Int.reduceAdd, Int.reduceSub, Int.reduceMul, Int.reduceToNat, Nat.reduceMul, Nat.reduceLeDiff, Nat.le_refl, Nat.reduceLT, Nat.reduceSub]
      refine loopS [0, 3, 5, 6, 7] (fun i : Nat => [(0, .slice A m.length cp), (3, o), (5, .slice A1 n c1), (6, .bool bk), (7, .int .i64 i)])
        (fun i w' => i ≤ n ∧ FJ B n w3 w' (.slice A1 n c1) 0) (fun i _ => n - i) 0 (by with_unfolding_all rfl) ⟨Nat.zero_le _, hj0⟩ ?_
      rintro i w5 ⟨hi, hj⟩
      by_cases hlt2 : i < n
      · obtain ⟨g, rfl⟩ := hA1 (by omega)
        have hbt := hok (by omega)
        subst hbt
        obtain ⟨gi, ci, li, z, hli, hc1, hc2, hst⟩ := hj.drew.step hlt2 rfl
        rw [drew_cell] at hc1 hc2
        have hx255 : IntKind.u8.wrap (BitVec.ofInt IntKind.u8.bits (z.toNat : Int) ^^^ BitVec.ofInt IntKind.u8.bits 255).toNat = ((z ^^^ 255).toNat : Int) := xor_u8' z 255
        simp -dsimp (disch := omega) only [↓MC.wp, ↓opsWp, ↓drWp, ↓MOp.wp, evs, ev, eget, eput, eput?, pev, pbin, pint, pbool, pstr, psl, vnil, pbuild, overlay, ↓thenQ, ↓blockQ, ↓retQ, ↓resWp, tupV, stills, MOp.still, known, Op.operands, List.toList_toArray, argEnv, ekeep, one_int, one_bool, one_str, one_ptr, one_slice, one_func, one_nilf, one_nilc, one_iface, one_map, Chk_true, Chk_of, Br_true, Br_false, Br_pos, Br_neg, Br_npos, Br_nneg, beq_t, beq_f, not_not', dec_true, dec_false, not_t, not_f, pick_t, pick_f, take1, drop1, take0, drop0, arr_app, List.append_nil, bne_tt, bne_tf, bne_ft, bne_ff, beq_tt, beq_tf, beq_ft, beq_ff, dec_pos, dec_neg, Ld_some, wrap_i64, tdiv_pos, tmod_pos, Sl.add_lit, drew_cell, Nat.reduceAdd, Nat.zero_add, Nat.add_zero, Nat.mul_one, Nat.one_mul, Int.toNat_natCast, cells_int, cells_bool, cells_str, cells_ptr, cells_slice, cells_func, cells_nilf, cells_nilc, cells_iface, cells_map, cells_agg, size_one, toList_one, List.length_cons, List.length_nil, List.cons_append, List.nil_append, reduceCtorEq, and_self, and_true, true_and, if_true, if_false, ↓reduceIte, ne_eq, not_false_eq_true, not_true_eq_false, Option.isSome_some, Option.isSome_none, decide_true, decide_false, List.getElem?_toArray, List.getElem?_cons_zero, List.getElem?_cons_succ, Bool.and_true, Bool.and_self, Int.reduceEq, Int.reduceLT, Int.reduceLE, Int.reduceAdd, Int.reduceSub, Int.reduceMul, Int.reduceToNat, Nat.reduceMul, Nat.reduceLeDiff, Nat.le_refl, Nat.reduceLT, Nat.reduceSub, hc1, hc2, U8]
        rw [hx255]
        refine hst (z ^^^ 255) _ (.mk _) ?_ _
        intro w6 hj6
        simp -dsimp (disch := omega) only [↓MC.wp, ↓opsWp, ↓drWp, ↓MOp.wp, evs, ev, eget, eput, eput?, pev, pbin, pint, pbool, pstr, psl, vnil, pbuild, overlay, ↓thenQ, ↓blockQ, ↓retQ, ↓resWp, tupV, stills, MOp.still, known, Op.operands, List.toList_toArray, argEnv, ekeep, one_int, one_bool, one_str, one_ptr, one_slice, one_func, one_nilf, one_nilc, one_iface, one_map, Chk_true, Chk_of, Br_true, Br_false, Br_pos, Br_neg, Br_npos, Br_nneg, beq_t, beq_f, not_not', dec_true, dec_false, not_t, not_f, pick_t, pick_f, take1, drop1, take0, drop0, arr_app, List.append_nil, bne_tt, bne_tf, bne_ft, bne_ff, beq_tt, beq_tf, beq_ft, beq_ff, dec_pos, dec_neg, Ld_some, wrap_i64, tdiv_pos, tmod_pos, Sl.add_lit, drew_cell, Nat.reduceAdd, Nat.zero_add, Nat.add_zero, Nat.mul_one, Nat.one_mul, Int.toNat_natCast, cells_int, cells_bool, cells_str, cells_ptr, cells_slice, cells_func, cells_nilf, cells_nilc, cells_iface, cells_map, cells_agg, size_one, toList_one, List.length_cons, List.length_nil, List.cons_append, List.nil_append, reduceCtorEq, and_self, and_true, true_and, if_true, if_false, ↓reduceIte, ne_eq, not_false_eq_true, not_true_eq_false, Option.isSome_some, Option.isSome_none, decide_true, decide_false, List.getElem?_toArray, List.getElem?_cons_zero, List.getElem?_cons_succ, Bool.and_true, Bool.and_self, Int.reduceEq, Int.reduceLT, Int.reduceLE, Int.reduceAdd, Int.reduceSub, Int.reduceMul, Int.reduceToNat, Nat.reduceMul, Nat.reduceLeDiff, Nat.le_refl, Nat.reduceLT, Nat.reduceSub]
        exact ⟨i + 1, rfl, ⟨by omega, hj6⟩, by omega⟩
      · simp -dsimp (disch := omega) only [↓MC.wp, ↓opsWp, ↓drWp, ↓MOp.wp, evs, ev, eget, eput, eput?, pev, pbin, pint, pbool, pstr, psl, vnil, pbuild, overlay, ↓thenQ, ↓blockQ, ↓retQ, ↓resWp, tupV, stills, MOp.still, known, Op.operands, List.toList_toArray, argEnv, ekeep, one_int, one_bool, one_str, one_ptr, one_slice, one_func, one_nilf, one_nilc, one_iface, one_map, Chk_true, Chk_of, Br_true, Br_false, Br_pos, Br_neg, Br_npos, Br_nneg, beq_t, beq_f, not_not', dec_true, dec_false, not_t, not_f, pick_t, pick_f, take1, drop1, take0, drop0, arr_app, List.append_nil, bne_tt, bne_tf, bne_ft, bne_ff, beq_tt, beq_tf, beq_ft, beq_ff, dec_pos, dec_neg, Ld_some, wrap_i64, tdiv_pos, tmod_pos, Sl.add_lit, drew_cell, Nat.reduceAdd, Nat.zero_add, Nat.add_zero, Nat.mul_one, Nat.one_mul, Int.toNat_natCast, cells_int, cells_bool, cells_str, cells_ptr, cells_slice, cells_func, cells_nilf, cells_nilc, cells_iface, cells_map, cells_agg, size_one, toList_one, List.length_cons, List.length_nil, List.cons_append, List.nil_append, reduceCtorEq, and_self, and_true, true_and, if_true, if_false, ↓reduceIte, ne_eq, not_false_eq_true, not_true_eq_false, Option.isSome_some, Option.isSome_none, decide_true, decide_false, List.getElem?_toArray, List.getElem?_cons_zero, List.getElem?_cons_succ, Bool.and_true, Bool.and_self, Int.reduceEq, Int.reduceLT, Int.reduceLE, Int.reduceAdd, Int.reduceSub, Int.reduceMul, Int.reduceToNat, Nat.reduceMul, Nat.reduceLeDiff, Nat.le_refl, Nat.reduceLT, Nat.reduceSub]
        have hf5 : Fr No w3 w5 := hj.fr
        refine new fun b6 w6 hb6 hs6 hc6 hf6 => ?_
        simp -dsimp (disch := omega) only [↓MC.wp, ↓opsWp, ↓drWp, ↓MOp.wp, evs, ev, eget, eput, eput?, pev, pbin, pint, pbool, pstr, psl, vnil, pbuild, overlay, ↓thenQ, ↓blockQ, ↓retQ, ↓resWp, tupV, stills, MOp.still, known, Op.operands, List.toList_toArray, argEnv, ekeep, one_int, one_bool, one_str, one_ptr, one_slice, one_func, one_nilf, one_nilc, one_iface, one_map, Chk_true, Chk_of, Br_true, Br_false, Br_pos, Br_neg, Br_npos, Br_nneg, beq_t, beq_f, not_not', dec_true, dec_false, not_t, not_f, pick_t, pick_f, take1, drop1, take0, drop0, arr_app, List.append_nil, bne_tt, bne_tf, bne_ft, bne_ff, beq_tt, beq_tf, beq_ft, beq_ff, dec_pos, dec_neg, Ld_some, wrap_i64, tdiv_pos, tmod_pos, Sl.add_lit, drew_cell, Nat.reduceAdd, Nat.zero_add, Nat.add_zero, Nat.mul_one, Nat.one_mul, Int.toNat_natCast, cells_int, cells_bool, cells_str, cells_ptr, cells_slice, cells_func, cells_nilf, cells_nilc, cells_iface, cells_map, cells_agg, size_one, toList_one, List.length_cons, List.length_nil, List.cons_append, List.nil_append, reduceCtorEq, and_self, and_true, true_and, if_true, if_false, ↓reduceIte, ne_eq, not_false_eq_true, not_true_eq_false, Option.isSome_some, Option.isSome_none, decide_true, decide_false, List.getElem?_toArray, List.getElem?_cons_zero, List.getElem?_cons_succ, Bool.and_true, Bool.and_self, Int.reduceEq, Int.reduceLT, Int.reduceLE, Int.reduceAdd, Int.reduceSub, Int.reduceMul, Int.reduceToNat, Nat.reduceMul, Nat.reduceLeDiff, Nat.le_refl, Nat.reduceLT, Nat.reduceSub]
        have hf36 : Fr No w3 w6 := hf5.then hf6
        have hm6 : MS w6 B (.slice A m.length cp) m := hm3.fr hf36 fun _ _ h => h
        have hs3 := hf.size
        have hs36 := hf36.size
        have hi6 : RS w6 (b6 + 1) (.slice (some ⟨b6, 0, none⟩) 1 1) ([0].map VL) := lit_rs (vs := [VL 0]) hc6 (by omega)
        refine call (rows_calls hm6 hi6 (by omega) (by omega) (by omega) (fun x hx => by have := sm.wide x hx; omega) (by simp)) ?_
        rintro y w7 ⟨hy, hf7⟩
        simp -dsimp (disch := omega) only [↓MC.wp, ↓opsWp, ↓drWp, ↓MOp.wp, evs, ev, eget, eput, eput?, pev, pbin, pint, pbool, pstr, psl, vnil, pbuild, overlay, ↓thenQ, ↓blockQ, ↓retQ, ↓resWp, tupV, stills, MOp.still, known, Op.operands, List.toList_toArray, argEnv, ekeep, one_int, one_bool, one_str, one_ptr, one_slice, one_func, one_nilf, one_nilc, one_iface, one_map, Chk_true, Chk_of, Br_true, Br_false, Br_pos, Br_neg, Br_npos, Br_nneg, beq_t, beq_f, not_not', dec_true, dec_false, not_t, not_f, pick_t, pick_f, take1, drop1, take0, drop0, arr_app, List.append_nil, bne_tt, bne_tf, bne_ft, bne_ff, beq_tt, beq_tf, beq_ft, beq_ff, dec_pos, dec_neg, Ld_some, wrap_i64, tdiv_pos, tmod_pos, Sl.add_lit, drew_cell, Nat.reduceAdd, Nat.zero_add, Nat.add_zero, Nat.mul_one, Nat.one_mul, Int.toNat_natCast, cells_int, cells_bool, cells_str, cells_ptr, cells_slice, cells_func, cells_nilf, cells_nilc, cells_iface, cells_map, cells_agg, size_one, toList_one, List.length_cons, List.length_nil, List.cons_append, List.nil_append, reduceCtorEq, and_self, and_true, true_and, if_true, if_false, ↓reduceIte, ne_eq, not_false_eq_true, not_true_eq_false, Option.isSome_some, Option.isSome_none, decide_true, decide_false, List.getElem?_toArray, List.getElem?_cons_zero, List.getElem?_cons_succ, Bool.and_true, Bool.and_self, Int.reduceEq, Int.reduceLT, Int.reduceLE, Int.reduceAdd, Int.reduceSub, Int.reduceMul, Int.reduceToNat, Nat.reduceMul, Nat.reduceLeDiff, Nat.le_refl, Nat.reduceLT, Nat.reduceSub]
        obtain ⟨hposy, hleny⟩ := pick_pos rm
        obtain ⟨ym, hym⟩ : ∃ ym, ym = pick m [0] := ⟨_, rfl⟩
        rw [← hym] at hy hposy hleny
        obtain ⟨A2, c2, rfl, hA2⟩ := newMat_form hy
        have hj7 : FJ B ym.length w6 w7 (.slice A2 ym.length c2) 0 := FJ.of hy hf7 hposy
        obtain ⟨n2, hn2⟩ : ∃ n2, n2 = ym.length := ⟨_, rfl⟩
        rw [← hn2] at hj7 hA2 ⊢
        refine loopS [0, 3, 8, 9] (fun i : Nat => [(0, .slice A m.length cp), (3, o), (8, .slice A2 n2 c2), (9, .int .i64 i)])
          (fun i w' => i ≤ n2 ∧ FJ B n2 w6 w' (.slice A2 n2 c2) 0) (fun i _ => n2 - i) 0 (by with_unfolding_all rfl) ⟨Nat.zero_le _, hj7⟩ ?_
        rintro i2 w8 ⟨hi2, hj8⟩
        by_cases hlt3 : i2 < n2
        · obtain ⟨g, rfl⟩ := hA2 (by omega)
          obtain ⟨gi, ci, li, z, hli, hc1, hc2, hst⟩ := hj8.drew.step hlt3 rfl
          rw [drew_cell] at hc1 hc2
          have hx255 : IntKind.u8.wrap (BitVec.ofInt IntKind.u8.bits (z.toNat : Int) ^^^ BitVec.ofInt IntKind.u8.bits 255).toNat = ((z ^^^ 255).toNat : Int) := xor_u8' z 255
          simp -dsimp (disch := omega) only [↓MC.wp, ↓opsWp, ↓drWp, ↓MOp.wp, evs, ev, eget, eput, eput?, pev, pbin, pint, pbool, pstr, psl, vnil, pbuild, overlay, ↓thenQ, ↓blockQ, ↓retQ, ↓resWp, tupV, stills, MOp.still, known, Op.operands, List.toList_toArray, argEnv, ekeep, one_int, one_bool, one_str, one_ptr, one_slice, one_func, one_nilf, one_nilc, one_iface, one_map, Chk_true, Chk_of, Br_true, Br_false, Br_pos, Br_neg, Br_npos, Br_nneg, beq_t, beq_f, not_not', dec_true, dec_false, not_t, not_f, pick_t, pick_f, take1, drop1, take0, drop0, arr_app, List.append_nil, bne_tt, bne_tf, bne_ft, bne_ff, beq_tt, beq_tf, beq_ft, beq_ff, dec_pos, dec_neg, Ld_some, wrap_i64, tdiv_pos, tmod_pos, Sl.add_lit, drew_cell, Nat.reduceAdd, Nat.zero_add, Nat.add_zero, Nat.mul_one, Nat.one_mul, Int.toNat_natCast, cells_int, cells_bool, cells_str, cells_ptr, cells_slice, cells_func, cells_nilf, cells_nilc, cells_iface, cells_map, cells_agg, size_one, toList_one, List.length_cons, List.length_nil, List.cons_append, List.nil_append, reduceCtorEq, and_self, and_true, true_and, if_true, if_false, ↓reduceIte, ne_eq, not_false_eq_true, not_true_eq_false, Option.isSome_some, Option.isSome_none, decide_true, decide_false, List.getElem?_toArray, List.getElem?_cons_zero, List.getElem?_cons_succ, Bool.and_true, Bool.and_self, Int.reduceEq, Int.reduceLT, Int.reduceLE, Int.reduceAdd, Int.reduceSub, Int.reduceMul, Int.reduceToNat, Nat.reduceMul, Nat.reduceLeDiff, Nat.le_refl, Nat.reduceLT, Nat.reduceSub, hc1, hc2, U8]
          rw [hx255]
          refine hst (z ^^^ 255) _ (.mk _) ?_ _
          intro w9 hj9
          simp -dsimp (disch := omega) only [↓MC.wp, ↓opsWp, ↓drWp, ↓MOp.wp, evs, ev, eget, eput, eput?, pev, pbin, pint, pbool, pstr, psl, vnil, pbuild, overlay, ↓thenQ, ↓blockQ, ↓retQ, ↓resWp, tupV, stills, MOp.still, known, Op.operands, List.toList_toArray, argEnv, ekeep, one_int, one_bool, one_str, one_ptr, one_slice, one_func, one_nilf, one_nilc, one_iface, one_map, Chk_true, Chk_of, Br_true, Br_false, Br_pos, Br_neg, Br_npos, Br_nneg, beq_t, beq_f, not_not', dec_true, dec_false, not_t, not_f, pick_t, pick_f, take1, drop1, take0, drop0, arr_app, List.append_nil, bne_tt, bne_tf, bne_ft, bne_ff, beq_tt, beq_tf, beq_ft, beq_ff, dec_pos, dec_neg, Ld_some, wrap_i64, tdiv_pos, tmod_pos, Sl.add_lit, drew_cell, Nat.reduceAdd, Nat.zero_add, Nat.add_zero, Nat.mul_one, Nat.one_mul, Int.toNat_natCast, cells_int, cells_bool, cells_str, cells_ptr, cells_slice, cells_func, cells_nilf, cells_nilc, cells_iface, cells_map, cells_agg, size_one, toList_one, List.length_cons, List.length_nil, List.cons_append, List.nil_append, reduceCtorEq, and_self, and_true, true_and, if_true, if_false, ↓reduceIte, ne_eq, not_false_eq_true, not_true_eq_false, Option.isSome_some, Option.isSome_none, decide_true, decide_false, List.getElem?_toArray, List.getElem?_cons_zero, List.getElem?_cons_succ, Bool.and_true, Bool.and_self, Int.reduceEq, Int.reduceLT, Int.reduceLE, Int.reduceAdd, Int.reduceSub, Int.reduceMul, Int.reduceToNat, Nat.reduceMul, Nat.reduceLeDiff, Nat.le_refl, Nat.reduceLT, Nat.reduceSub]
          exact ⟨i2 + 1, rfl, ⟨by omega, hj9⟩, by omega⟩
        · simp -dsimp (disch := omega) only [↓MC.wp, ↓opsWp, ↓drWp, ↓MOp.wp, evs, ev, eget, eput, eput?, pev, pbin, pint, pbool, pstr, psl, vnil, pbuild, overlay, ↓thenQ, ↓blockQ, ↓retQ, ↓resWp, tupV, stills, MOp.still, known, Op.operands, List.toList_toArray, argEnv, ekeep, one_int, one_bool, one_str, one_ptr, one_slice, one_func, one_nilf, one_nilc, one_iface, one_map, Chk_true, Chk_of, Br_true, Br_false, Br_pos, Br_neg, Br_npos, Br_nneg, beq_t, beq_f, not_not', dec_true, dec_false, not_t, not_f, pick_t, pick_f, take1, drop1, take0, drop0, arr_app, List.append_nil, bne_tt, bne_tf, bne_ft, bne_ff, beq_tt, beq_tf, beq_ft, beq_ff, dec_pos, dec_neg, Ld_some, wrap_i64, tdiv_pos, tmod_pos, Sl.add_lit, drew_cell, Nat.reduceAdd, Nat.zero_add, Nat.add_zero, Nat.mul_one, Nat.one_mul, Int.toNat_natCast, cells_int, cells_bool, cells_str, cells_ptr, cells_slice, cells_func, cells_nilf, cells_nilc, cells_iface, cells_map, cells_agg, size_one, toList_one, List.length_cons, List.length_nil, List.cons_append, List.nil_append, reduceCtorEq, and_self, and_true, true_and, if_true, if_false, ↓reduceIte, ne_eq, not_false_eq_true, not_true_eq_false, Option.isSome_some, Option.isSome_none, decide_true, decide_false, List.getElem?_toArray, List.getElem?_cons_zero, List.getElem?_cons_succ, Bool.and_true, Bool.and_self, Int.reduceEq, Int.reduceLT, Int.reduceLE, Int.reduceAdd, Int.reduceSub, Int.reduceMul, Int.reduceToNat, Nat.reduceMul, Nat.reduceLeDiff, Nat.le_refl, Nat.reduceLT, Nat.reduceSub]
          have hf38 : Fr No w3 w8 := hf36.then hj8.fr
          have hm8 : MS w8 B (.slice A m.length cp) m := hm3.fr hf38 fun _ _ h => h
          have ho8 := (ho.no hf38).ms
          refine call (same_calls hm8 ho8 (by omega)) ?_
          rintro r w9 ⟨hr9, hf9⟩
          subst hr9
          simp -dsimp (disch := omega) only [↓MC.wp, ↓opsWp, ↓drWp, ↓MOp.wp, evs, ev, eget, eput, eput?, pev, pbin, pint, pbool, pstr, psl, vnil, pbuild, overlay, ↓thenQ, ↓blockQ, ↓retQ, ↓resWp, tupV, stills, MOp.still, known, Op.operands, List.toList_toArray, argEnv, ekeep, one_int, one_bool, one_str, one_ptr, one_slice, one_func, one_nilf, one_nilc, one_iface, one_map, Chk_true, Chk_of, Br_true, Br_false, Br_pos, Br_neg, Br_npos, Br_nneg, beq_t, beq_f, not_not', dec_true, dec_false, not_t, not_f, pick_t, pick_f, take1, drop1, take0, drop0, arr_app, List.append_nil, bne_tt, bne_tf, bne_ft, bne_ff, beq_tt, beq_tf, beq_ft, beq_ff, dec_pos, dec_neg, Ld_some, wrap_i64, tdiv_pos, tmod_pos, Sl.add_lit, drew_cell, Nat.reduceAdd, Nat.zero_add, Nat.add_zero, Nat.mul_one, Nat.one_mul, Int.toNat_natCast, cells_int, cells_bool, cells_str, cells_ptr, cells_slice, cells_func, cells_nilf, cells_nilc, cells_iface, cells_map, cells_agg, size_one, toList_one, List.length_cons, List.length_nil, List.cons_append, List.nil_append, reduceCtorEq, and_self, and_true, true_and, if_true, if_false, ↓reduceIte, ne_eq, not_false_eq_true, not_true_eq_false, Option.isSome_some, Option.isSome_none, decide_true, decide_false, List.getElem?_toArray, List.getElem?_cons_zero, List.getElem?_cons_succ, Bool.and_true, Bool.and_self, Int.reduceEq, Int.reduceLT, Int.reduceLE, Int.reduceAdd, Int.reduceSub, Int.reduceMul, Int.reduceToNat, Nat.reduceMul, Nat.reduceLeDiff, Nat.le_refl, Nat.reduceLT, Nat.reduceSub]
          exact (((hf1.then hf2).then hf).then hf38).then hf9
end Go.Proofs.Ytgpkbldlkadnjaa
end
section
/- The law of what stays, over data. -/
set_option linter.unusedVariables false
namespace Go.Proofs.Ytgpkbldlkadnjaa
open Go Go.Sl
theorem keeps_d (m : LL) (hl : m.length ≤ 9223372036854775807) : DFun Try.prog f_law04_MatrixKeeps [matD m] (boolD true) :=
  dfun_sc fun w Z T vs hz hrs => by obtain ⟨v, rfl, hv⟩ := rsl1 hrs; exact keeps_calls (ms_of hv hz) (Nat.le_refl _) hl
end Go.Proofs.Ytgpkbldlkadnjaa
end
/- The law MatrixKeeps, for every input: its row, out of its contract over data. No condition. -/
set_option linter.unusedVariables false
namespace Go.Proofs.Ytgpkbldlkadnjaa.matrixKeeps
open Go Go.Sl Go.ChangeShapes Go.WideShapes Go.ChangeAt Go.RowKit
open Go.ChangeMaps (open_string shut_string)
theorem laidOut : laidOutB Try.prog = true := zf_laid
theorem cells5 : Try.prog.cellsOf 5 = 1 := by kernel_rfl
theorem cells22 : Try.prog.cellsOf 22 = 1 := by kernel_rfl
theorem cells29 : Try.prog.cellsOf 29 = 1 := by kernel_rfl
set_option maxRecDepth 100000 in
theorem lifted (os : Os) (started : os.Started) (H : Type) (enc : TypeId × Value → H) :
    ReturnsInHanded {} Try.checked os 7 .any (Rows.matrixKeepsSpec.pre6 enc Try.prog Try.f7 Rows.matrixKeepsRow.domain false) (Rows.matrixKeepsSpec.post enc Try.prog Try.f7 false true false false) := by
  refine returnsInHanded_of_change_sized (C := Try.checked) zf_own started (by kernel_rfl) Try.func7
    (ChangeSpec.witness6 (enc := enc) (C := Try.checked) false ⟨#[], #[.slice none 0 0], []⟩ 8 (by kernel_rfl) (by kernel_rfl) (by kernel_rfl) (by kernel_rfl)) ?_
  intro W base args ds gs before hval0 hW hcnd hsz0 _
  have hsz : (DataW.weightsEach Try.prog (Try.f7.params.toList ++ Rows.matrixKeepsSpec.plain.varTypes Try.prog) (ds ++ gs)).all (· ≤ reachBytes) = true := hsz0
  have hval : ∀ (j : Nat) t v, Try.f7.params[j]? = some t → args[j]? = some v → Value.okWide Try.prog W .any base t v := hval0
  have hW' := hW
  obtain ⟨p, q, hA0, hV, rfl, hfz, hnd⟩ := hW
  have hA : DataW.TrodAll enc Try.prog W 0 (fun _ => true) true Try.f7.params.toList args.toList ds p := hA0
  rw [Try.params7] at hA hval hsz
  obtain ⟨v0, vs0, d0, ds0, p0, q0, hargs, rfl, rfl, h0, r0⟩ := trodAll_cons hA
  obtain ⟨rfl, rfl, rfl⟩ := trodAll_nil r0
  obtain rfl : args = #[v0] := by cases args; simp_all
  obtain ⟨rfl, rfl⟩ := trodVars_none hV
  have k0 := h0
  have lt0 : ∀ x ∈ p0, x.block < W.heap.size := by obtain ⟨m, hm⟩ := k0; exact DataW.trod_lt m _ _ _ hm
  obtain ⟨m0, rs0, hl0, hx0⟩ := open_rows_l Try.underlying22 Try.underlying29 Try.underlying5 cells29 cells5 (hval 0 22 v0 rfl rfl) h0
  clear hA0 hval0 hsz0 hsz
  refine (below_of_dfun (keeps_d m0 hl0) (rsl_cons rs0 rsl_nil)).mono fun e W' ⟨he, bel⟩ => ?_
  subst he
  exact ⟨_, rfl, _, _, _, [], _, [], hW', trodAll_mk1 (shut_bool Try.underlying4 _), (trodAll_cons_mk (Below.trod laidOut (by kernel_rfl) (of_decide_eq_true (by kernel_rfl)) k0 bel lt0) trodAll_mk0), rfl, bel.frame _, fun h => by cases h⟩
theorem inP : Try.prog.inPlace 7 = [] := by kernel_rfl
theorem unf : Try.prog.unfollowed 7 = true := by kernel_rfl
theorem rec : Try.prog.recurses 7 = true := by kernel_rfl
theorem nam : Try.prog.varsNamed 7 = [] := by kernel_rfl
theorem fnm : Try.prog.funcNamed Rows.matrixKeepsRow.func = some 7 := by kernel_rfl
theorem facts : joinedFacts Try.prog 7 Try.f7 Rows.matrixKeepsSpec Rows.matrixKeepsRow = true :=
  facts_of zf_laid zf_maps zf_stops zf_knobs zf_plain zf_heard zf_enter zf_lifts zf_make inP unf rec nam rfl rfl rfl rfl rfl rfl rfl rfl rfl
    (by kernel_rfl) (by kernel_rfl) (by kernel_rfl) (by kernel_rfl) (by kernel_rfl) (by kernel_rfl) (by kernel_rfl) (by kernel_rfl) (by kernel_rfl) (by kernel_rfl) (by kernel_rfl) (by kernel_rfl) (by kernel_rfl) rfl rfl (by kernel_rfl) (by kernel_rfl) (by kernel_rfl)
theorem over : Rows.matrixKeepsRow.holds Try.pinned (OpenSpec.ofChange Rows.matrixKeepsSpec) :=
  OpenClaim.holds_of_wide 7 Try.f7 rfl rfl rfl rfl rfl rfl rfl ⟨rfl, rfl, rfl, rfl, rfl⟩ rfl rfl rfl rfl rfl fnm Try.func7 facts
    (of_decide_eq_true (by kernel_rfl)) (by unfold Func.isWrapper; first | (rw [if_pos (by decide +kernel)]; kernel_rfl) | (rw [if_neg (by decide +kernel)]; exact ⟨rfl, rfl⟩))
    (fun os started H enc _ => lifted os started H enc)
theorem proved : Rows.MatrixKeepsSaid := over
end Go.Proofs.Ytgpkbldlkadnjaa.matrixKeeps
namespace Go.Proofs.Ytgpkbldlkadnjaa
/-- The row, under a short name. -/
theorem matrixKeeps_holds : Rows.MatrixKeepsSaid := matrixKeeps.proved
#print axioms matrixKeeps_holds
end Go.Proofs.Ytgpkbldlkadnjaa
