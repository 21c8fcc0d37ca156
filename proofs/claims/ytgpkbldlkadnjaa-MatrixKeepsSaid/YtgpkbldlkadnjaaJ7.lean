/- Contracts of the matrices over data. -/
import Derived.Test.YtgpkbldlkadnjaaJ2
import Derived.Test.YtgpkbldlkadnjaaJ6
section
set_option linter.unusedVariables false
set_option linter.unusedSimpArgs false
set_option maxHeartbeats 3000000
attribute [local irreducible] Go.Sl.Chk Go.Sl.Br Go.Sl.Ld Go.Sl.Ldn Go.Sl.LdB Go.Sl.Stn Go.Sl.New Go.Sl.Run Go.Sl.RunU Go.Sl.RunX Go.Sl.Call Go.Sl.LoopK Go.Sl.RawK Go.Sl.Om Go.Sl.xpk Go.Sl.xgpk Go.Sl.xglk Go.Sl.DLd Go.Sl.DLdG Go.Sl.DBs Go.Sl.DCall Go.Sl.DApp Go.Sl.DGen Go.Sl.DGenU Go.Sl.DGC Go.Sl.DLoop Go.Sl.DRaw Go.Sl.DRet Go.Sl.Ent Go.Sl.dget Go.Sl.dv Go.Sl.ev Go.Sl.eget
namespace Go.Proofs.Ytgpkbldlkadnjaa
open Go Go.Sl Go.RowKit
theorem NewMat.rs {w w' : World} {Z : Nat → Prop} {T : Nat → Option Value} {r : Value} {m : LL} (h : NewMat w.heap.size w' r m) : Rs w' (Zn Z w w') T (matD m) r := by
  obtain ⟨vs, h1, h2, h3⟩ := h
  exact rows_back h1.len h1.spine h1.row fun b hb => .inr ⟨h3 b hb, h1.lt hb⟩
theorem right_d (m : LL) (hl : m.length ≤ 1000000) : DFun Try.prog f_matrix_Right [matD m] (boolD (rightB m)) :=
  dfun_sc fun w Z T vs hz hrs => by obtain ⟨v, rfl, hv⟩ := rsl1 hrs; exact right_calls (ms_of hv hz) (Nat.le_refl _) hl
theorem rright_d (m : LL) (hl : m.length ≤ 1000000) : DFun Try.prog f_ref04_Right [matD m] (boolD (rightB m)) :=
  dfun_sc fun w Z T vs hz hrs => by obtain ⟨v, rfl, hv⟩ := rsl1 hrs; exact rright_calls (ms_of hv hz) hl
theorem few_d (m : LL) (most : Nat) (hl : m.length ≤ 9223372036854775807) (hm : most ≤ 1000) : DFun Try.prog f_ref04_Few [matD m, iD most] (boolD (fewB m most)) :=
  dfun_sc fun w Z T vs hz hrs => by
    obtain ⟨v, u, rfl, hv, hu⟩ := rsl2 hrs
    simp only [Rs] at hu
    subst hu
    exact few_calls (ms_of hv hz) hl hm
theorem same_d (a b : LL) (hl : a.length ≤ 1000000) : DFun Try.prog f_ref04_Same [matD a, matD b] (boolD (decide (a = b))) :=
  dfun_sc fun w Z T vs hz hrs => by
    obtain ⟨v, u, rfl, hv, hu⟩ := rsl2 hrs
    exact same_calls (ms_of hv hz) (ms_of hu hz) hl
theorem mmul_d (a b : LL) (ra : RightM a) (rb : RightM b) (sa : Small a) (sb : Small b) : DFun Try.prog f_matrix_Mul [matD a, matD b] (matD (mulM a b)) :=
  dfun_low fun w Z T vs hz hrs => by
    obtain ⟨v, u, rfl, hv, hu⟩ := rsl2 hrs
    exact (mmul_calls (ms_of hv hz) (ms_of hu hz) (Nat.le_refl _) (Nat.le_refl _) ra rb sa sb).mono fun en w' ⟨r, he, h1, h2⟩ => ⟨r, he, h2, h1.rs⟩
theorem rmmul_d (a b : LL) (ra : RightM a) (rb : RightM b) (sa : Small a) (sb : Small b) : DFun Try.prog f_ref04_Mul [matD a, matD b] (matD (rmulM a b)) :=
  dfun_low fun w Z T vs hz hrs => by
    obtain ⟨v, u, rfl, hv, hu⟩ := rsl2 hrs
    exact (rmmul_calls (ms_of hv hz) (ms_of hu hz) ra rb sa sb).mono fun en w' ⟨r, he, h1, h2⟩ => ⟨r, he, h2, h1.rs⟩
theorem one_d (n : Nat) (hn : n ≤ 1000) : DFun Try.prog f_matrix_One [iD n] (matD (coding n n)) :=
  dfun_low fun w Z T vs hz hrs => by
    obtain ⟨v, rfl, hv⟩ := rsl1 hrs
    simp only [Rs] at hv
    subst hv
    exact (one_calls n hn).mono fun en w' ⟨r, he, h1, h2⟩ => ⟨r, he, h2, h1.rs⟩
theorem coding_d (k n : Nat) (hk : k ≤ 1000) (hn : n ≤ 1000) : DFun Try.prog f_matrix_Coding [iD k, iD n] (matD (coding k n)) :=
  dfun_low fun w Z T vs hz hrs => by
    obtain ⟨v, u, rfl, hv, hu⟩ := rsl2 hrs
    simp only [Rs] at hv hu
    subst hv; subst hu
    exact (coding_calls k n hk hn).mono fun en w' ⟨r, he, h1, h2⟩ => ⟨r, he, h2, h1.rs⟩
theorem rcoding_d (k n : Nat) (hk : k ≤ 1000) (hn : n ≤ 1000) : DFun Try.prog f_ref04_Coding [iD k, iD n] (matD (rcoding k n)) :=
  dfun_low fun w Z T vs hz hrs => by
    obtain ⟨v, u, rfl, hv, hu⟩ := rsl2 hrs
    simp only [Rs] at hv hu
    subst hv; subst hu
    exact (rcoding_calls k n hk hn).mono fun en w' ⟨r, he, h1, h2⟩ => ⟨r, he, h2, h1.rs⟩
theorem rows_d (m : LL) (is : List Int) (hn : m.length ≤ 1000000) (hl : ∀ x ∈ m, x.length ≤ 1000000) (hi : is.length ≤ 1000000) : DFun Try.prog f_matrix_Rows [matD m, intsD is] (matD (pick m is)) :=
  dfun_low fun w Z T vs hz hrs => by
    obtain ⟨v, u, rfl, hv, hu⟩ := rsl2 hrs
    exact (rows_calls (ms_of hv hz) (ints_of hu hz) (Nat.le_refl _) (Nat.le_refl _) hn hl hi).mono fun en w' ⟨r, he, h1, h2⟩ => ⟨r, he, h2, h1.rs⟩
theorem invert_d (m : LL) (rm : RightM m) (sm : Small m) : DFun Try.prog f_matrix_Invert [matD m] (.tup [matD ((invert m).getD []), boolD (invert m).isSome]) :=
  dfun_low fun w Z T vs hz hrs => by
    obtain ⟨v, rfl, hv⟩ := rsl1 hrs
    exact (invert_calls (ms_of hv hz) (Nat.le_refl _) rm sm).mono fun en w' ⟨r, he, r1, h0, h1, h2⟩ => ⟨r, he, h2, by
      subst h0
      rw [Rs]
      exact ⟨[r1, _], rfl, by simp only [RsL]; exact ⟨r1, _, rfl, h1.rs, _, _, rfl, by simp only [Rs], rfl⟩⟩⟩
theorem det_d (m : LL) (n : Nat) (h1 : 1 ≤ n) (h2 : n ≤ 1000) (h3 : m.length = n) (h4 : ∀ x ∈ m, x.length = n) : DFun Try.prog f_ref04_Det [matD m] (bD (det n m)) :=
  dfun_sc fun w Z T vs hz hrs => by obtain ⟨v, rfl, hv⟩ := rsl1 hrs; exact det_calls n h1 h2 w _ v m (ms_of hv hz) (Nat.le_refl _) h3 h4
theorem awake_d : DFun Try.prog f_law04_awake [] (boolD true) :=
  dfun_sc fun w Z T vs hz hrs => by simp only [RsL] at hrs; subst hrs; exact awake_calls w
end Go.Proofs.Ytgpkbldlkadnjaa
end
section
/- Plain: products of matrices. -/
set_option linter.unusedVariables false
set_option maxHeartbeats 2000000
namespace Go.Proofs.Ytgpkbldlkadnjaa
open Go Go.Sl

/-- turned together, so many -/
def xs (f : Nat → UInt8) : Nat → UInt8
  | 0 => 0
  | k + 1 => xs f k ^^^ f k
theorem xs_congr {f g : Nat → UInt8} : ∀ {k : Nat}, (∀ i, i < k → f i = g i) → xs f k = xs g k
  | 0, _ => rfl
  | k + 1, h => by rw [xs, xs, xs_congr fun i hi => h i (by omega), h k (by omega)]
theorem xorL_getD : ∀ (a b : List UInt8) (j : Nat), j < a.length → j < b.length → (xorL a b).getD j 0 = a.getD j 0 ^^^ b.getD j 0
  | [], _, j, h, _ => by simp at h
  | a :: at1, [], j, _, h => by simp at h
  | a :: at1, b :: bs, 0, _, _ => by simp [xorL]
  | a :: at1, b :: bs, j + 1, h, h' => by
    have := xorL_getD at1 bs j (by simpa using h) (by simpa using h')
    simpa [xorL] using this
theorem map_getD (f : UInt8 → UInt8) (l : List UInt8) (j : Nat) (h : j < l.length) : (l.map f).getD j 0 = f (l.getD j 0) := by
  rw [getD_of_lt 0 h, getD_of_lt 0 (by simpa using h)]
  simp
theorem rowAcc_get {b : LL} {r : List UInt8} {wd j : Nat} (hj : j < wd) : ∀ {k : Nat}, (∀ i, i < k → (b.getD i []).length = wd) → (rowAcc b r wd k).getD j 0 = xs (fun i => gmul (r.getD i 0) (entry b i j)) k
  | 0, _ => by rw [rowAcc, xs, getD_of_lt 0 (by simpa using hj)]; simp
  | k + 1, h => by
    have hk := h k (by omega)
    rw [rowAcc, xs, xorL_getD _ _ _ (by rw [rowAcc_length]; exact hj) (by rw [List.length_map, hk]; exact hj), rowAcc_get hj fun i hi => h i (by omega), map_getD _ _ _ (by omega)]
    rfl
theorem rows_len {b : LL} (rb : RightM b) {i : Nat} (h : i < b.length) : (b.getD i []).length = width b := by rw [getD_of_lt [] h]; exact rb.all _ (List.getElem_mem h)
theorem list_ext {a b : List UInt8} (h : a.length = b.length) (he : ∀ j, j < a.length → a.getD j 0 = b.getD j 0) : a = b := by
  apply List.ext_getElem h
  intro j h1 h2
  have := he j h1
  rw [getD_of_lt 0 h1, getD_of_lt 0 h2] at this
  exact this
theorem mat_ext {a b : LL} (h : a.length = b.length) (hw : ∀ i, i < a.length → (a.getD i []).length = (b.getD i []).length) (he : ∀ i j, i < a.length → j < (a.getD i []).length → entry a i j = entry b i j) : a = b := by
  apply List.ext_getElem h
  intro i h1 h2
  have e1 := getD_of_lt [] h1
  have e2 := getD_of_lt [] h2
  rw [← e1, ← e2]
  exact list_ext (hw i h1) fun j hj => he i j h1 hj
/-- a row of a product -/
theorem mulM_row {a b : LL} (hw : width a = b.length) {i : Nat} (hi : i < a.length) : (mulM a b).getD i [] = rowAcc b (a.getD i []) (width b) (a.getD i []).length := by
  rw [mulM, if_pos hw, getD_of_lt [] (by simpa using hi), getD_of_lt [] hi]
  simp
theorem mulM_length {a b : LL} (hw : width a = b.length) : (mulM a b).length = a.length := by rw [mulM, if_pos hw]; simp
theorem mulM_entry {a b : LL} (ra : RightM a) (rb : RightM b) (hw : width a = b.length) {i j : Nat} (hi : i < a.length) (hj : j < width b) : entry (mulM a b) i j = xs (fun k => gmul (entry a i k) (entry b k j)) b.length := by
  have hl := rows_len ra hi
  rw [entry, mulM_row hw hi, hl, hw, rowAcc_get hj fun k hk => rows_len rb hk]
  rfl
theorem rdot_eq (r : List UInt8) (b : LL) (j : Nat) : ∀ k, rdot r b j k = xs (fun i => gmul (r.getD i 0) (entry b i j)) k
  | 0 => rfl
  | k + 1 => by rw [rdot, xs, rdot_eq r b j k, rmul_eq]
theorem mul_eq {a b : LL} (ra : RightM a) (rb : RightM b) : mulM a b = rmulM a b := by
  by_cases hw : width a = b.length
  · rw [mulM, rmulM, if_pos hw, if_pos hw]
    apply List.map_congr_left
    intro r hr
    have hrl : r.length = b.length := by rw [ra.all r hr, hw]
    apply list_ext
    · rw [rowAcc_length, rrow]; simp
    · intro j hj
      rw [rowAcc_length] at hj
      rw [rowAcc_get hj fun k hk => rows_len rb (by omega), rrow, getD_of_lt 0 (by simpa using hj)]
      simp only [List.getElem_map, List.getElem_range]
      rw [rdot_eq, hrl]
  · rw [mulM, rmulM, if_neg hw, if_neg hw]
end Go.Proofs.Ytgpkbldlkadnjaa
end
section
/- Plain: sums and determinants over the field, as functions of places. -/
set_option linter.unusedVariables false
set_option linter.unusedSimpArgs false
namespace Go.Proofs.Ytgpkbldlkadnjaa
open Go Go.Sl

theorem x_assoc (a b c : UInt8) : (a ^^^ b) ^^^ c = a ^^^ (b ^^^ c) := UInt8.xor_assoc a b c
theorem x_comm (a b : UInt8) : a ^^^ b = b ^^^ a := UInt8.xor_comm a b
theorem x_self (a : UInt8) : a ^^^ a = 0 := UInt8.xor_self
theorem x_zero (a : UInt8) : a ^^^ 0 = a := UInt8.xor_zero
theorem zero_x (a : UInt8) : 0 ^^^ a = a := UInt8.zero_xor
theorem x4 (a b c d : UInt8) : (a ^^^ b) ^^^ (c ^^^ d) = (a ^^^ c) ^^^ (b ^^^ d) := by
  rw [x_assoc, x_assoc, ← x_assoc b c d, x_comm b c, x_assoc c b d]
theorem x_cancel {a b : UInt8} (h : a ^^^ b = 0) : a = b := by
  have : (a ^^^ b) ^^^ b = b := by rw [h, zero_x]
  rwa [x_assoc, x_self, x_zero] at this

theorem xs_zero : ∀ (n : Nat) {f : Nat → UInt8}, (∀ i, i < n → f i = 0) → xs f n = 0
  | 0, f, _ => rfl
  | n + 1, f, h => by rw [xs, xs_zero n fun i hi => h i (by omega), h n (by omega), x_zero]
theorem xs_xor (f g : Nat → UInt8) : ∀ n, xs (fun i => f i ^^^ g i) n = xs f n ^^^ xs g n
  | 0 => (x_zero 0).symm
  | n + 1 => by rw [xs, xs, xs, xs_xor f g n, x4]
theorem xs_mul (a : UInt8) (f : Nat → UInt8) : ∀ n, gmul a (xs f n) = xs (fun i => gmul a (f i)) n
  | 0 => gmul_zero a
  | n + 1 => by rw [xs, xs, gmul_xor, xs_mul a f n]
theorem mul_xs (a : UInt8) (f : Nat → UInt8) (n : Nat) : gmul (xs f n) a = xs (fun i => gmul (f i) a) n := by
  rw [gmul_comm, xs_mul]
  exact xs_congr fun i _ => gmul_comm a (f i)
theorem xs_fubini (f : Nat → Nat → UInt8) (m : Nat) : ∀ n, xs (fun i => xs (fun j => f i j) m) n = xs (fun j => xs (fun i => f i j) n) m
  | 0 => (xs_zero m fun _ _ => rfl).symm
  | n + 1 => by
    rw [xs, xs_fubini f m n, ← xs_xor]
    rfl
theorem xs_one {f : Nat → UInt8} {c : Nat} : ∀ {n : Nat}, c < n → (∀ i, i < n → i ≠ c → f i = 0) → xs f n = f c
  | n + 1, hc, h => by
    rw [xs]
    by_cases e : c = n
    · subst e
      rw [xs_zero c fun i hi => h i (by omega) (by omega), zero_x]
    · rw [xs_one (by omega) fun i hi hn => h i (by omega) hn, h n (by omega) (by omega), x_zero]
/-- the first of a sum -/
theorem xs_head (f : Nat → UInt8) : ∀ n, xs f (n + 1) = f 0 ^^^ xs (fun i => f (i + 1)) n
  | 0 => by rw [xs, xs, xs, zero_x, x_zero]
  | n + 1 => by rw [xs, xs_head f n, xs, x_assoc]
/-- changed at one place -/
theorem xs_change {f g : Nat → UInt8} {c n : Nat} (hc : c < n) (h : ∀ i, i < n → i ≠ c → f i = g i) : xs f n = xs g n ^^^ (f c ^^^ g c) := by
  have e : xs (fun i => f i ^^^ g i) n = f c ^^^ g c := xs_one hc fun i hi hn => by rw [h i hi hn, x_self]
  rw [← e, xs_xor, x_comm (xs g n), x_assoc, x_self, x_zero]

/-! ### determinants -/
abbrev Mx := Nat → Nat → UInt8
def skip (i r : Nat) : Nat := if r < i then r else r + 1
def minorF (A : Mx) (i : Nat) : Mx := fun r c => A (skip i r) (c + 1)
def detf : Nat → Mx → UInt8
  | 0, _ => 1
  | n + 1, A => xs (fun i => gmul (A i 0) (detf n (minorF A i))) (n + 1)
theorem detf_congr : ∀ (n : Nat) {A B : Mx}, (∀ i j, i < n → j < n → A i j = B i j) → detf n A = detf n B
  | 0, A, B, _ => rfl
  | n + 1, A, B, h => by
    rw [detf, detf]
    refine xs_congr fun i hi => ?_
    rw [h i 0 hi (by omega), detf_congr n (A := minorF A i) (B := minorF B i) fun r c hr hc => ?_]
    refine h _ _ ?_ (by omega)
    unfold skip; split <;> omega
/-- a row put in place -/
def setR (A : Mx) (k : Nat) (u : Nat → UInt8) : Mx := fun i j => if i = k then u j else A i j
theorem minor_set_same (A : Mx) (k : Nat) (u : Nat → UInt8) (n : Nat) (B : Mx) (h : ∀ i, i ≠ k → B i = A i) : ∀ r c, minorF B k r c = minorF A k r c := fun r c => by
  unfold minorF
  rw [h]
  unfold skip; split <;> omega
theorem setR_minor {A : Mx} {k i : Nat} {u : Nat → UInt8} (h : i ≠ k) : ∃ k', (k < i → k' = k) ∧ (i < k → k' + 1 = k) ∧ ∀ r c, minorF (setR A k u) i r c = setR (minorF A i) k' (fun c => u (c + 1)) r c := by
  refine ⟨if k < i then k else k - 1, fun h => by rw [if_pos h], fun h => by rw [if_neg (by omega)]; omega, fun r c => ?_⟩
  unfold minorF setR skip
  by_cases h1 : r < i <;> by_cases h2 : k < i
  · simp [h1, h2]
  · simp only [h1, h2, if_true, if_false]
    rw [if_neg (by omega), if_neg (by omega)]
  · simp only [h1, h2, if_true, if_false]
    rw [if_neg (by omega), if_neg (by omega)]
  · simp only [h1, h2, if_false]
    by_cases h3 : r + 1 = k
    · rw [if_pos h3, if_pos (by omega)]
    · rw [if_neg h3, if_neg (by omega)]
theorem setR_minor_same (A : Mx) (k : Nat) (u : Nat → UInt8) (r c : Nat) : minorF (setR A k u) k r c = minorF A k r c := by
  unfold minorF setR
  rw [if_neg]
  unfold skip; split <;> omega
/-- linear in each row -/
theorem detf_add : ∀ (n : Nat) (A : Mx) (k : Nat) (u v : Nat → UInt8), k < n → detf n (setR A k fun j => u j ^^^ v j) = detf n (setR A k u) ^^^ detf n (setR A k v)
  | n + 1, A, k, u, v, hk => by
    rw [detf, detf, detf, ← xs_xor]
    refine xs_congr fun i hi => ?_
    by_cases h : i = k
    · subst h
      have e : ∀ w, detf n (minorF (setR A i w) i) = detf n (minorF A i) := fun w => detf_congr n fun r c _ _ => setR_minor_same A i w r c
      rw [e, e, e]
      simp only [setR, if_true]
      exact xor_gmul _ _ _
    · obtain ⟨k', h1, h2, h3⟩ := setR_minor (A := A) (u := fun j => u j ^^^ v j) h
      obtain ⟨k2, g1, g2, g3⟩ := setR_minor (A := A) (u := u) h
      obtain ⟨k3, f1, f2, f3⟩ := setR_minor (A := A) (u := v) h
      have e1 : k2 = k' := by rcases Nat.lt_or_gt_of_ne h with q | q; have := h2 q; have := g2 q; omega; have := h1 q; have := g1 q; omega
      have e2 : k3 = k' := by rcases Nat.lt_or_gt_of_ne h with q | q; have := h2 q; have := f2 q; omega; have := h1 q; have := f1 q; omega
      subst e1; subst e2
      rw [detf_congr n fun r c _ _ => h3 r c, detf_congr n (A := minorF (setR A k u) i) fun r c _ _ => g3 r c, detf_congr n (A := minorF (setR A k v) i) fun r c _ _ => f3 r c]
      rw [detf_add n (minorF A i) k3 (fun c => u (c + 1)) (fun c => v (c + 1)) (by rcases Nat.lt_or_gt_of_ne h with q | q; have := h2 q; omega; have := h1 q; omega)]
      simp only [setR, if_neg h]
      exact gmul_xor _ _ _
theorem detf_scale : ∀ (n : Nat) (A : Mx) (k : Nat) (s : UInt8) (u : Nat → UInt8), k < n → detf n (setR A k fun j => gmul s (u j)) = gmul s (detf n (setR A k u))
  | n + 1, A, k, s, u, hk => by
    rw [detf, detf, xs_mul]
    refine xs_congr fun i hi => ?_
    by_cases h : i = k
    · subst h
      have e : ∀ w, detf n (minorF (setR A i w) i) = detf n (minorF A i) := fun w => detf_congr n fun r c _ _ => setR_minor_same A i w r c
      rw [e, e]
      simp only [setR, if_true]
      exact gmul_assoc _ _ _
    · obtain ⟨k', h1, h2, h3⟩ := setR_minor (A := A) (u := fun j => gmul s (u j)) h
      obtain ⟨k2, g1, g2, g3⟩ := setR_minor (A := A) (u := u) h
      have e1 : k2 = k' := by rcases Nat.lt_or_gt_of_ne h with q | q; have := h2 q; have := g2 q; omega; have := h1 q; have := g1 q; omega
      subst e1
      rw [detf_congr n fun r c _ _ => h3 r c, detf_congr n (A := minorF (setR A k u) i) fun r c _ _ => g3 r c]
      rw [detf_scale n (minorF A i) k2 s (fun c => u (c + 1)) (by rcases Nat.lt_or_gt_of_ne h with q | q; have := h2 q; omega; have := h1 q; omega)]
      simp only [setR, if_neg h]
      rw [← gmul_assoc, ← gmul_assoc, gmul_comm (A i 0) s]
theorem setR_self (A : Mx) (k i j : Nat) : setR A k (A k) i j = A i j := by
  unfold setR; split
  · rename_i h; rw [h]
  · rfl
theorem setR_set (A : Mx) (k : Nat) (u v : Nat → UInt8) (i j : Nat) : setR (setR A k u) k v i j = setR A k v i j := by
  unfold setR; split <;> rfl
theorem setR_comm (A : Mx) {a b : Nat} (h : a ≠ b) (u v : Nat → UInt8) (i j : Nat) : setR (setR A a u) b v i j = setR (setR A b v) a u i j := by
  unfold setR
  by_cases h1 : i = a
  · subst h1; rw [if_neg h, if_pos rfl, if_pos rfl]
  · rw [if_neg h1, if_neg h1]
/-- with two rows alike, from what two rows alike are -/
def Alt (n : Nat) : Prop := ∀ (A : Mx) (a b : Nat), a < n → b < n → a ≠ b → (∀ j, j < n → A a j = A b j) → detf n A = 0
theorem detf_swap {n : Nat} (hA : Alt n) (A : Mx) {a b : Nat} (ha : a < n) (hb : b < n) (hab : a ≠ b) : detf n (setR (setR A a (A b)) b (A a)) = detf n A := by
  have tw : ∀ u v : Nat → UInt8, detf n (setR (setR A a u) b v) ^^^ detf n (setR (setR A a v) b u) = 0 := fun u v => by
    have z : ∀ w : Nat → UInt8, detf n (setR (setR A a w) b w) = 0 := fun w => hA _ a b ha hb hab fun j _ => by
      simp [setR, hab]
    have h0 := z fun j => u j ^^^ v j
    rw [detf_add n _ b u v hb] at h0
    have sw : ∀ p q : Nat → UInt8, detf n (setR (setR A a p) b q) = detf n (setR (setR A b q) a p) := fun p q => detf_congr n fun i j _ _ => setR_comm A hab p q i j
    rw [sw, sw, detf_add n _ a u v ha, detf_add n _ a u v ha, ← sw, ← sw, ← sw, ← sw, z u, z v, zero_x, x_zero, x_comm] at h0
    exact h0
  have := tw (A b) (A a)
  have e : detf n (setR (setR A a (A a)) b (A b)) = detf n A := detf_congr n fun i j _ _ => by
    simp only [setR]
    split
    · rename_i h; rw [h]
    · split
      · rename_i h; rw [h]
      · rfl
  rw [e] at this
  exact x_cancel this
/-- a row pushed in at place t, the others in their order -/
def push (B : Mx) (u : Nat → UInt8) (t : Nat) : Mx := fun i j => if i < t then B i j else if i = t then u j else B (i - 1) j
theorem push_step {n : Nat} (hA : Alt n) (B : Mx) (u : Nat → UInt8) {t : Nat} (ht : t + 1 < n) : detf n (push B u (t + 1)) = detf n (push B u t) := by
  rw [← detf_swap hA (push B u t) (a := t) (b := t + 1) (by omega) ht (by omega)]
  refine detf_congr n fun i j _ _ => ?_
  unfold push setR
  by_cases h1 : i = t + 1
  · subst h1
    simp
  · by_cases h2 : i = t
    · subst h2
      simp
      intro h; omega
    · by_cases h3 : i < t
      · simp [h1, h2, h3]
        omega
      · simp [h1, h2, h3]
        omega
theorem push_any {n : Nat} (hA : Alt n) (B : Mx) (u : Nat → UInt8) (s : Nat) : ∀ (k : Nat), s + k < n → detf n (push B u (s + k)) = detf n (push B u s)
  | 0, _ => rfl
  | k + 1, h => by rw [← push_any hA B u s k (by omega), ← push_step hA B u (t := s + k) (by omega)]; rfl
theorem alt : ∀ n, Alt n
  | 0 => fun A a b ha => by omega
  | n + 1 => by
    have key : ∀ (A : Mx) (a b : Nat), a < n + 1 → b < n + 1 → a < b → (∀ j, j < n + 1 → A a j = A b j) → detf (n + 1) A = 0 := by
      intro A a b ha hb hab h
      rw [detf]
      -- the terms but two are 0
      have hz : ∀ i, i < n + 1 → i ≠ a → i ≠ b → gmul (A i 0) (detf n (minorF A i)) = 0 := fun i hi h1 h2 => by
        have : detf n (minorF A i) = 0 := by
          refine alt n (minorF A i) (if a < i then a else a - 1) (if b < i then b else b - 1) ?_ ?_ ?_ fun j hj => ?_
          · split <;> omega
          · split <;> omega
          · split <;> split <;> omega
          · unfold minorF skip
            have e1 : (if (if a < i then a else a - 1) < i then (if a < i then a else a - 1) else (if a < i then a else a - 1) + 1) = a := by
              by_cases q : a < i
              · simp [q]
              · rw [if_neg q, if_neg (by omega)]; omega
            have e2 : (if (if b < i then b else b - 1) < i then (if b < i then b else b - 1) else (if b < i then b else b - 1) + 1) = b := by
              by_cases q : b < i
              · simp [q]
              · rw [if_neg q, if_neg (by omega)]; omega
            rw [e1, e2]
            exact h _ (by omega)
        rw [this, gmul_zero]
      -- the two minors are alike but for the order of their rows
      have hm : detf n (minorF A a) = detf n (minorF A b) := by
        obtain ⟨B, hB⟩ : ∃ B : Mx, B = fun i j => A (if i < a then i else if i < b - 1 then i + 1 else i + 2) (j + 1) := ⟨_, rfl⟩
        have e1 : detf n (minorF A b) = detf n (push B (fun j => A a (j + 1)) a) := detf_congr n fun i j _ _ => by
          unfold minorF push skip
          subst hB
          by_cases h1 : i < a
          · simp only [h1, if_true]; rw [if_pos (by omega)]
          · by_cases h2 : i = a
            · subst h2; simp only [h1, if_false, if_true]; rw [if_pos hab]
            · simp only [h1, h2, if_false]
              rw [if_neg (show ¬ i - 1 < a from by omega)]
              by_cases h3 : i < b
              · rw [if_pos h3, if_pos (by omega)]; congr 1; omega
              · rw [if_neg h3, if_neg (by omega)]; congr 1; omega
        have e2 : detf n (minorF A a) = detf n (push B (fun j => A a (j + 1)) (b - 1)) := detf_congr n fun i j _ hj => by
          unfold minorF push skip
          subst hB
          by_cases h1 : i < b - 1
          · simp only [h1, if_true]
          · by_cases h2 : i = b - 1
            · simp only [h1, h2, if_false, if_true]
              rw [if_neg (by omega), if_neg (by omega), show b - 1 + 1 = b from by omega, h _ (by omega)]
            · simp only [h1, h2, if_false]
              rw [if_neg (by omega), if_neg (by omega), if_neg (by omega)]
              congr 1
              omega
        rw [e1, e2]
        have := push_any (alt n) B (fun j => A a (j + 1)) a (b - 1 - a) (by omega)
        rw [show a + (b - 1 - a) = b - 1 from by omega] at this
        exact this
      have h2 : xs (fun i => if i = a then gmul (A i 0) (detf n (minorF A i)) else 0) (n + 1) = gmul (A a 0) (detf n (minorF A a)) := by
        rw [xs_one ha fun i _ hne => by simp [hne]]; simp
      have h3 : xs (fun i => if i = b then gmul (A i 0) (detf n (minorF A i)) else 0) (n + 1) = gmul (A b 0) (detf n (minorF A b)) := by
        rw [xs_one hb fun i _ hne => by simp [hne]]; simp
      have h4 : xs (fun i => gmul (A i 0) (detf n (minorF A i))) (n + 1) = xs (fun i => (if i = a then gmul (A i 0) (detf n (minorF A i)) else 0) ^^^ (if i = b then gmul (A i 0) (detf n (minorF A i)) else 0)) (n + 1) := xs_congr fun i hi => by
        by_cases q1 : i = a
        · subst q1; rw [if_pos rfl, if_neg (by omega), x_zero]
        · by_cases q2 : i = b
          · subst q2; rw [if_neg q1, if_pos rfl, zero_x]
          · rw [if_neg q1, if_neg q2, x_zero, hz i hi q1 q2]
      rw [h4, xs_xor, h2, h3, h 0 (by omega), hm, x_self]
    intro A a b ha hb hab h
    rcases Nat.lt_or_gt_of_ne hab with q | q
    · exact key A a b ha hb q h
    · exact key A b a hb ha q fun j hj => (h j hj).symm
end Go.Proofs.Ytgpkbldlkadnjaa
end
section
/- Plain: One, brackets, sums of products. -/
set_option linter.unusedVariables false
set_option linter.unusedSimpArgs false
set_option maxHeartbeats 2000000
namespace Go.Proofs.Ytgpkbldlkadnjaa
open Go Go.Sl

theorem few_of {m : LL} {k : Nat} (h : fewB m k = true) : RightM m ∧ m.length ≤ k ∧ width m ≤ k := by
  simp only [fewB, Bool.and_eq_true, decide_eq_true_eq] at h
  exact ⟨rightM_of h.2.1, h.1, h.2.2⟩
theorem RightM.small {m : LL} (h : RightM m) (h1 : m.length ≤ 1000) (h2 : width m ≤ 1000) : Small m := ⟨h1, fun x hx => by rw [h.all x hx]; exact h2⟩
theorem coding_entry {k n i j : Nat} (hi : i < n) (hj : j < k) : entry (coding k n) i j = codeAt k i j := by
  rw [entry, getD_of_lt [] (by simpa [coding] using hi)]
  simp only [coding, List.getElem_map, List.getElem_range, codeRow]
  rw [getD_of_lt 0 (by simpa using hj)]
  simp
theorem width_of {m : LL} {k : Nat} (h : 0 < m.length) (hw : ∀ x ∈ m, x.length = k) : width m = k := by
  rw [width, getD_of_lt [] h]; exact hw _ (List.getElem_mem h)
theorem coding_right {k n : Nat} (hk : 0 < k) (hn : 0 < n) : RightM (coding k n) ∧ width (coding k n) = k := by
  have hl : 0 < (coding k n).length := by simpa [coding] using hn
  have hw : width (coding k n) = k := width_of hl (coding_wide k n)
  exact ⟨⟨hl, by omega, fun x hx => by rw [coding_wide k n x hx, hw]⟩, hw⟩
theorem mulM_right {a b : LL} (ra : RightM a) (rb : RightM b) (hw : width a = b.length) : RightM (mulM a b) ∧ width (mulM a b) = width b ∧ (mulM a b).length = a.length := by
  have hl := mulM_length hw
  have hx : ∀ x ∈ mulM a b, x.length = width b := fun x hx => by
    rw [mulM, if_pos hw] at hx
    obtain ⟨r, _, rfl⟩ := List.mem_map.1 hx
    exact rowAcc_length _ _ _ _
  have hp : 0 < (mulM a b).length := by rw [hl]; exact ra.pos
  have hww := width_of hp hx
  exact ⟨⟨hp, by rw [hww]; exact rb.wide, fun x h => by rw [hx x h, hww]⟩, hww, hl⟩
theorem getD_len {m : LL} (rm : RightM m) {i : Nat} (h : i < m.length) : (m.getD i []).length = width m := rows_len rm h
/-- two right matrices, by their entries -/
theorem right_ext {a b : LL} (ra : RightM a) (rb : RightM b) (hl : a.length = b.length) (hw : width a = width b) (he : ∀ i j, i < a.length → j < width a → entry a i j = entry b i j) : a = b :=
  mat_ext hl (fun i hi => by rw [rows_len ra hi, rows_len rb (by omega), hw]) fun i j hi hj => he i j hi (by rw [rows_len ra hi] at hj; exact hj)
theorem one_mulM {a : LL} (ra : RightM a) : mulM (coding a.length a.length) a = a := by
  obtain ⟨rc, hw⟩ := coding_right ra.pos ra.pos
  obtain ⟨r1, w1, l1⟩ := mulM_right rc ra hw
  rw [coding_length] at l1
  refine right_ext r1 ra l1 w1 fun i j hi hj => ?_
  rw [w1] at hj
  rw [mulM_entry rc ra hw (by rw [coding_length]; omega) hj, xs_one (c := i) (by omega) fun k hk hne => ?_]
  · rw [coding_entry (by omega) (by omega), codeAt, if_neg (by omega), if_pos rfl, one_gmul]
  · rw [coding_entry (by omega) (by omega), codeAt, if_neg (by omega), if_neg (by omega), zero_gmul]
theorem mulM_one {a : LL} (ra : RightM a) : mulM a (coding (width a) (width a)) = a := by
  obtain ⟨rc, hw⟩ := coding_right ra.wide ra.wide
  have hww : width a = (coding (width a) (width a)).length := by rw [coding_length]
  obtain ⟨r1, w1, l1⟩ := mulM_right ra rc hww
  refine right_ext r1 ra l1 (by rw [w1, hw]) fun i j hi hj => ?_
  rw [w1, hw] at hj
  rw [mulM_entry ra rc hww (by omega) (by rw [hw]; exact hj), coding_length, xs_one (c := j) hj fun k hk hne => ?_]
  · rw [coding_entry hj hj, codeAt, if_neg (by omega), if_pos rfl, gmul_one]
  · rw [coding_entry hk hj, codeAt, if_neg (by omega), if_neg (by omega), gmul_zero]
theorem mulM_assoc {a b c : LL} (ra : RightM a) (rb : RightM b) (rc : RightM c) (h1 : width a = b.length) (h2 : width b = c.length) : mulM (mulM a b) c = mulM a (mulM b c) := by
  obtain ⟨rab, wab, lab⟩ := mulM_right ra rb h1
  obtain ⟨rbc, wbc, lbc⟩ := mulM_right rb rc h2
  have h3 : width (mulM a b) = c.length := by rw [wab, h2]
  have h4 : width a = (mulM b c).length := by rw [lbc, h1]
  obtain ⟨r1, w1, l1⟩ := mulM_right rab rc h3
  obtain ⟨r2, w2, l2⟩ := mulM_right ra rbc h4
  refine right_ext r1 r2 (by rw [l1, l2, lab]) (by rw [w1, w2, wbc]) fun i j hi hj => ?_
  rw [l1, lab] at hi
  rw [w1] at hj
  rw [mulM_entry rab rc h3 (by omega) hj, mulM_entry ra rbc h4 hi (by omega)]
  have e1 : xs (fun k => gmul (entry (mulM a b) i k) (entry c k j)) c.length = xs (fun k => xs (fun l => gmul (gmul (entry a i l) (entry b l k)) (entry c k j)) b.length) c.length := xs_congr fun k hk => by
    rw [mulM_entry ra rb h1 hi (by omega), mul_xs]
  have e2 : xs (fun l => gmul (entry a i l) (entry (mulM b c) l j)) (mulM b c).length = xs (fun l => xs (fun k => gmul (gmul (entry a i l) (entry b l k)) (entry c k j)) c.length) b.length := by
    rw [lbc]
    refine xs_congr fun l hl => ?_
    rw [mulM_entry rb rc h2 hl hj, xs_mul]
    exact xs_congr fun k _ => (gmul_assoc _ _ _).symm
  rw [e1, e2, xs_fubini]
theorem rcoding_eq (k n : Nat) : rcoding k n = coding k n := by
  unfold rcoding coding codeRow
  refine List.map_congr_left fun i _ => List.map_congr_left fun j _ => ?_
  rw [rcodeAt, codeAt, rinv_eq]
theorem rightB_of {m : LL} (h : RightM m) : rightB m = true := by
  rw [rightB, evenB]
  simp only [Bool.and_eq_true, decide_eq_true_eq]
  exact ⟨h.pos, h.wide, by rw [List.all_eq_true]; exact fun x hx => by simpa using h.all x hx⟩
end Go.Proofs.Ytgpkbldlkadnjaa
end
