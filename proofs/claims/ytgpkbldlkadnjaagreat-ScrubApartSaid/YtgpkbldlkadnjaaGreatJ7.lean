/- Contracts over data: layer 25: a blob is read, put, repaired. -/
import Derived.Test.YtgpkbldlkadnjaaGreatJ6
import Derived.Test.YtgpkbldlkadnjaaGreatJ3
import Derived.Test.YtgpkbldlkadnjaaGreatJ1
import Derived.Laws.StructEq
import Derived.Tactics
import Derived.KernelRfl
set_option linter.unusedVariables false
set_option linter.unusedSimpArgs false
section
set_option maxHeartbeats 3000000
attribute [local irreducible] Go.Sl.Chk Go.Sl.Br Go.Sl.Or2 Go.Sl.Ld Go.Sl.Ldn Go.Sl.LdB Go.Sl.Stn Go.Sl.New Go.Sl.Run Go.Sl.Ec Go.Sl.D9 Go.Sl.Call Go.Sl.Cc Go.Sl.Ed Go.Sl.Alt Go.Sl.Om Go.Sl.xpk Go.Sl.EX Go.Sl.EY Go.Sl.DLd Go.Sl.ES Go.Sl.DBs Go.Sl.Bo Go.Sl.Et Go.Sl.Es Go.Sl.Dk Go.Sl.DGC Go.Sl.Dq Go.Sl.Fj Go.Sl.D8 Go.Sl.Ent Go.Sl.Bg Go.Sl.dv Go.Sl.ev Go.Sl.Am
namespace Go.Proofs.YtgpkbldlkadnjaaGreat
open Go Go.Sl Go.RowKit
def D7 (n : Bs) : Prop := 1 ≤ n.length ∧ n.length ≤ 16
instance (n : Bs) : Decidable (D7 n) := by unfold D7; infer_instance
def LC (k f : Nat) (n : Bs) (aw : List Int) (l : List (List FileS)) : Bs × Nat :=
 if D7 n then (if UA n l = true then decode k f (EG n aw l) else ([], 5)) else ([], 1)
def Qb (n : Bs) (l : List (List FileS)) : Prop := ∀ fs ∈ l, ∀ b, DW fs (bN n) = some b → b.length ≤ 1000
theorem Afr (i : Int) (b : Bs) : (Ip i b).length ≤ b.length := by
 unfold Ip
 cases hc : NI b with
 | none => simp
 | some p =>
  dsimp only
  cases ht : GI (p.1.drop 4) with
  | none => simp
  | some q =>
   dsimp only
   split
   ·have := (Ab7 hc).1
    have := (U2 ht).1
    rw [List.length_drop] at this
    omega
   ·simp
theorem XR {n : Bs} {aw : List Int} {l : List (List FileS)} (h : Qb n l) : ∀ x ∈ EG n aw l, x.length ≤ 1000 := fun x hx => by
 obtain ⟨j, hj, rfl⟩ := List.mem_iff_getElem.1 hx
 have hjl : j < l.length := by rw [← EP n aw l]; exact hj
 have e := GX n aw (List.getElem?_eq_getElem hjl)
 rw [List.getElem?_eq_getElem hj] at e
 rw [Option.some.inj e]
 unfold sh1
 cases hr : DW l[j] (bN n) with
 | none => simp
 | some b =>
  dsimp only
  split
  ·simp
  ·exact Nat.le_trans (Afr _ _) (h _ (List.getElem_mem hjl) b hr)
set_option maxRecDepth 100000 in
theorem Y9 {k f : Nat} (hs : CO k f) (l : List (List FileS)) (most q : Nat) (n : Bs) (aw : List Int) (hl : l.length ≤ 1000) (hn : n.length ≤ 140737488351232) (ha : aw.length ≤ 1000) (hk : ∀ fs ∈ l, DOk fs most q) (hm : most ≤ 65536) (hsh : Qb n l) : Ry Tryz.prog Gg (fun i => [.hp i 0, BC n, CU aw]) (BO k f l most) (AdD (LC k f n aw l)) (BO k f l most) := by
 intro i nx hi
 refine A8 TA (by simp only [m_scrub_Store_Get, List.length]; decide) ?_
 simp only [BO]
 simp only [m_scrub_Store_Get]; refine WK ?_; try with_reducible exact trivial
 refine CS (Aa4 n hn) fun n1 g1 => ?_
 rcases Decidable.em (1 ≤ n.length ∧ n.length ≤ 16) with h | h
 ·rw [decide_eq_true h]
  refine WK ?_; try with_reducible exact trivial
  refine Ll [i] (GM (Aa _ _ _)) (AeR k f l most q n aw hl h.2 ha hk hm (by omega)) (by simp) fun _ _ n2 g2 ⟨c, cs, c1, c2, hd, hc, hro⟩ => ?_
  subst hd hro
  rw [AX]
  simp only [List.cons_append, List.nil_append, BO]
  cases hany : UA n l with
  | false =>
   refine WK ?_; try with_reducible exact trivial
   refine Ij [i] (t := .mk _) ?_
   refine WKR ?_; try with_reducible exact trivial
   exact C9 ⟨by rw [LC, if_pos (show D7 n from h), hany, if_neg (by decide)]; rfl, rfl⟩
  | true =>
   refine WK ?_; try with_reducible exact trivial
   refine AfF c (t' := .mk _) (Aa _ _ _) hc.2 ?_
   rw [AV]
   simp only [List.map_cons, List.map_nil, Du, Aa, nilC, hc.1]
   have hsl := EP n aw l
   rw [show D.sl l.length ((EG n aw l).map bytesD) = CY (EG n aw l) by rw [← hsl]]
   refine CS (Ahp hs (EG n aw l) (by omega) (XR hsh)) fun n3 g3 => ?_
   simp only [AdD]
   refine WK ?_; try with_reducible exact trivial
   refine Ij [i] (t := .mk _) ?_
   refine WKR ?_; try with_reducible exact trivial
   exact C9 ⟨by rw [LC, if_pos (show D7 n from h), hany, if_pos rfl], rfl⟩
 ·rw [decide_eq_false h]
  refine WK ?_; try with_reducible exact trivial
  exact C9 ⟨by rw [LC, if_neg (show ¬ D7 n from h)]; rfl, rfl⟩
/-! ### put -/
def WC (k f most : Nat) (n v : Bs) (l : List (List FileS)) : List (List FileS) × Nat :=
 if D7 n then (if v.length ≤ 512 then ((KO most (bN n) l (AZ k f v)).1, (KO most (bN n) l (AZ k f v)).2.2) else (l, 7)) else (l, 1)
theorem Gl {k f : Nat} {v : Bs} {j : Nat} (hj : j < (encode k f v).length) : (AZ k f v)[j]? = some (Bi j (gt (encode k f v) j)) := by
 unfold AZ
 rw [List.getElem?_mapIdx, List.getElem?_eq_getElem hj, Ia hj]; rfl
theorem XH {F : List FileS → Bs → List FileS} {G : List FileS → Bs → Nat × Nat} {l : List (List FileS)} {ws : LL} {j : Nat} {w : Bs} (hj : j < l.length) (hw : ws[j]? = some w) :
  Ic F G (l.drop j) (ws.drop j) = if (G (gt l j) w).2 = 0 then (F (gt l j) w :: (Ic F G (l.drop (j + 1)) (ws.drop (j + 1))).1, (G (gt l j) w).1 + (Ic F G (l.drop (j + 1)) (ws.drop (j + 1))).2.1, (Ic F G (l.drop (j + 1)) (ws.drop (j + 1))).2.2) else (F (gt l j) w :: l.drop (j + 1), (G (gt l j) w).1, (G (gt l j) w).2) := by
 obtain ⟨hwl, rfl⟩ := List.getElem?_eq_some_iff.1 hw
 rw [List.drop_eq_getElem_cons hj, List.drop_eq_getElem_cons hwl, ← Ia hj, Ic]
theorem AgY {α : Type} [Inhabited α] {pre l : List α} {j : Nat} (h : pre.length = j) : gt (pre ++ l.drop j) j = gt l j := by
 subst h
 simp only [gt, List.getD_eq_getElem?_getD, List.getElem?_append_right (Nat.le_refl _), Nat.sub_self, List.getElem?_drop, Nat.add_zero]
theorem Zb {α : Type} {pre l : List α} {j : Nat} (h : pre.length = j) (hj : j < l.length) (x : α) : (pre ++ l.drop j).set j x = (pre ++ [x]) ++ l.drop (j + 1) := by
 subst h
 rw [List.set_append_right _ _ (Nat.le_refl _), Nat.sub_self, List.drop_eq_getElem_cons hj, List.set_cons_zero, List.append_assoc]; rfl
set_option maxRecDepth 100000 in
theorem Af8 {k f : Nat} (hs : CO k f) (l : List (List FileS)) (most q : Nat) (n v : Bs) (hl : l.length = k + 2 * f) (hn : n.length ≤ 140737488351232) (hv : v.length ≤ 140737488351232) (hk : ∀ fs ∈ l, DOk fs most q) (hm : most ≤ 65536) : Ry Tryz.prog Iq (fun i => [.hp i 0, BC n, BC v]) (BO k f l most) (iD (WC k f most n v l).2) (BO k f (WC k f most n v l).1 most) := by
 have hkf := hs
 intro i nx hi
 refine A8 Tz (by simp only [m_scrub_Store_Put, List.length]; decide) ?_
 simp only [BO]
 simp only [m_scrub_Store_Put]; refine WK ?_; try with_reducible exact trivial
 refine CS (Aa4 n hn) fun n1 g1 => ?_
 rcases Decidable.em (1 ≤ n.length ∧ n.length ≤ 16) with h | h
 ·have e1 : WC k f most n v l = if v.length ≤ 512 then ((KO most (bN n) l (AZ k f v)).1, (KO most (bN n) l (AZ k f v)).2.2) else (l, 7) := by rw [WC, if_pos (show D7 n from h)]
  rw [e1, decide_eq_true h]
  refine WK ?_; try with_reducible exact trivial
  rcases Nat.lt_or_ge 512 v.length with h5 | h5
  ·refine CS (Xf k f (L9.2 ⟨k, f, rfl, rfl, hs⟩) v h5) fun n2 g2 => ?_
   rw [if_neg (by omega)]
   refine WK ?_; try with_reducible exact trivial
   exact C9 ⟨rfl, rfl⟩
  ·refine CS (Xe hs v h5) fun n2 g2 => ?_
   rw [if_pos h5]
   have hel := (BP hs v).2.2
   have hbl : (bN n).length ≤ 18 := by simp [bN]; omega
   have e3 : (⟨#[98, 46]⟩ : ByteArray).size + (⟨n.toArray⟩ : ByteArray).size = n.length + 2 := by simp [ByteArray.size]; omega
   have e4 : (⟨#[98, 46]⟩ : ByteArray) ++ (⟨n.toArray⟩ : ByteArray) = ⟨(98 :: 46 :: n).toArray⟩ := by apply ByteArray.ext; simp
   refine WK ?_; try with_reducible exact trivial
   refine GL [0, 1, 7, 30, 31, 32] (fun s : List (List FileS) × Nat × Nat => ([(0, .hp i 0), (1, BC n), (7, CY (encode k f v)), (30, .h n2), (31, iD (l.length : Nat)), (32, iD (s.2.1 : Nat))], [(n2, .row 26 1 l.length ((s.1 ++ l.drop s.2.1).map (Fg most))), (i, .box BU [iD k, iD f, .h n2])], s.2.2)) (fun s => s.1.length = s.2.1 ∧ s.2.1 ≤ l.length ∧ n2 < s.2.2 ∧ KO most (bN n) l (AZ k f v) = (s.1 ++ (KO most (bN n) (l.drop s.2.1) ((AZ k f v).drop s.2.1)).1, (KO most (bN n) (l.drop s.2.1) ((AZ k f v).drop s.2.1)).2)) (fun s => l.length - s.2.1) ([], 0, n2 + 1) ⟨rfl, by dsimp only; omega, by dsimp only; omega, by simp⟩ (by simp only [List.nil_append, List.drop_zero]; exact (Ent.of (by with_unfolding_all rfl) rfl)) ?_
   rintro ⟨pre, j, n3⟩ ⟨q1, q2, q3, q4⟩
   dsimp only at q1 q2 q3 q4 ⊢
   refine WK ?_; try with_reducible exact trivial
   refine brd (fun hlt => ?_) (fun hge => ?_)
   ·have hjl : j < l.length := by omega
    have hgj : l[j]? = some (gt l j) := by rw [Ia hjl]; exact List.getElem?_eq_getElem hjl
    have hdk := hk (gt l j) (List.mem_of_getElem? hgj)
    have hcl : (pre ++ l.drop j).length = l.length := by rw [List.length_append, List.length_drop]; omega
    have hgt : gt (pre ++ l.drop j) j = gt l j := AgY q1
    have hej : j < (encode k f v).length := by omega
    have hj7 : j < 7 := by have := hs.n; omega
    have hel2 : (gt (encode k f v) j).length ≤ 1000 := by
     have hsm := (BP hs v).1.3 (gt (encode k f v) j) (by rw [Ia hej]; exact List.getElem_mem hej)
     rw [hsm, (BP hs v).2.1]
     exact Nat.le_trans (DJ _ hs.k) (by omega)
    have hwl : (Bi j (gt (encode k f v) j)).length ≤ 100000 := by rw [Ha]; omega
    have hst := XH (F := fun fs w => wrF fs most (bN n) w) (G := fun fs w => (0, wrE fs most (bN n) w)) (l := l) hjl (Gl hej)
    have hsa := Zb (pre := pre) q1 hjl (wrF (gt l j) most (bN n) (Bi j (gt (encode k f v) j)))
    have hlj : j < (pre ++ l.drop j).length := by omega
    refine WK ?_; try with_reducible exact trivial
    simp only [Fg, AB]
    refine WK ?_; try with_reducible exact trivial
    rw [hgt]
    refine CS (Ag7 j (gt (encode k f v) j) (by omega) (by omega)) fun n4 g4 => ?_
    refine WKX (And.intro @e3 @e4) ?_; try with_reducible exact trivial
    refine Jc n3 (YY (n := bN n) hdk hm (by omega) hwl) (by omega) (by (repeat rw [Ac (by omega)]); exact Aa _ _ _) (by simp only [List.mem_cons, List.not_mem_nil, or_false, not_false_eq_true]; try omega) fun n5 g5 => ?_
    simp only [AB]
    rcases Nat.eq_zero_or_pos (wrE (gt l j) most (bN n) (Bi j (gt (encode k f v) j))) with hz | hz
    ·rw [hz]
     refine WK ?_; try with_reducible exact trivial
     have hst2 : KO most (bN n) (l.drop j) ((AZ k f v).drop j) = (wrF (gt l j) most (bN n) (Bi j (gt (encode k f v) j)) :: (KO most (bN n) (l.drop (j + 1)) ((AZ k f v).drop (j + 1))).1, 0 + (KO most (bN n) (l.drop (j + 1)) ((AZ k f v).drop (j + 1))).2.1, (KO most (bN n) (l.drop (j + 1)) ((AZ k f v).drop (j + 1))).2.2) := hst.trans (if_pos hz)
     refine ⟨(pre ++ [wrF (gt l j) most (bN n) (Bi j (gt (encode k f v) j))], j + 1, n5), ⟨by simp [q1], by dsimp only; omega, by dsimp only; omega, ?_⟩, by dsimp only; omega, (Ent.of_rt (IB (fs := wrF (gt l j) most (bN n) (Bi j (gt (encode k f v) j))) (n := l.length) hlj (by omega))).trans ?_⟩
     ·rw [q4, hst2]
      exact Prod.ext (by simp) (Prod.ext (Nat.zero_add _) rfl)
     ·rw [hsa]
      exact (Ent.of (by with_unfolding_all rfl) rfl)
    ·refine WK ?_; try with_reducible exact trivial
     have hst2 : KO most (bN n) (l.drop j) ((AZ k f v).drop j) = (wrF (gt l j) most (bN n) (Bi j (gt (encode k f v) j)) :: l.drop (j + 1), 0, wrE (gt l j) most (bN n) (Bi j (gt (encode k f v) j))) := hst.trans (if_neg (by omega))
     have hb := IB (a := n3) (m := n2) (n := l.length) (fs := wrF (gt l j) most (bN n) (Bi j (gt (encode k f v) j))) (most := most) (r := [(i, .box BU [iD k, iD f, .h n2])]) hlj (by omega)
     rw [hsa] at hb
     refine Dc (t' := .mk _) (hb.trans (IA (by simp only [List.length_append, List.length_drop, List.length_singleton]; omega) (by omega))) ?_
     refine C9 ⟨?_, ?_⟩
     ·rw [q4, hst2]
     ·rw [q4, hst2, List.append_assoc]; rfl
   ·have hjl : j = l.length := by omega
    subst hjl
    refine WK ?_; try with_reducible exact trivial
    have hst2 : KO most (bN n) (l.drop l.length) ((AZ k f v).drop l.length) = ([], 0, 0) := by simp [KO, Ic]
    rw [hst2] at q4
    have hb := IA (m := n2) (i := i) (most := most) (k := k) (f := f) (l := pre ++ l.drop l.length) (n := l.length) (by simp [q1]) (by omega)
    refine Dc (t' := .mk _) hb ?_
    refine C9 ⟨by rw [q4]; rfl, ?_⟩
    rw [q4, List.drop_length]; rfl
 ·have e1 : WC k f most n v l = (l, 1) := by rw [WC, if_neg (show ¬ D7 n from h)]
  rw [e1, decide_eq_false h]
  refine WK ?_; try with_reducible exact trivial
  exact C9 ⟨rfl, rfl⟩
def Pq (k f most : Nat) (n : Bs) (l : List (List FileS)) : List (List FileS) × Nat × Nat :=
 if (LC k f n [] l).2 = 0 then ((IE most n l (AZ k f (LC k f n [] l).1)).1, if (IE most n l (AZ k f (LC k f n [] l).1)).2.2 = 0 then ((IE most n l (AZ k f (LC k f n [] l).1)).2.1, 0) else (0, (IE most n l (AZ k f (LC k f n [] l).1)).2.2)) else (l, 0, (LC k f n [] l).2)
theorem Ag3 {k f : Nat} {n : Bs} {aw : List Int} {l : List (List FileS)} (h : (LC k f n aw l).2 = 0) : D7 n ∧ (LC k f n aw l).1.length ≤ 512 := by
 unfold LC at h ⊢
 split at h
 ·rename_i hn
  rw [if_pos hn]
  split at h
  ·rename_i ha
   rw [if_pos ha]
   have := AfD (K := k) (F := f) (v := (decode k f (EG n aw l)).1) (l := EG n aw l) (by rw [← h])
   exact ⟨hn, this.2.2.1⟩
  ·cases h
 ·cases h
theorem AgP (fs : List FileS) (most : Nat) (n w : Bs) : (JQ fs most n w).1 ≤ 1 := by
 unfold JQ
 split
 ·exact Nat.zero_le _
 ·split
  ·exact Nat.le_refl _
  ·exact Nat.zero_le _
set_option maxRecDepth 100000 in
theorem NR {k f : Nat} (hs : CO k f) (l : List (List FileS)) (most q : Nat) (n : Bs) (hl : l.length = k + 2 * f) (hn : n.length ≤ 140737488351232) (hk : ∀ fs ∈ l, DOk fs most q) (hm : most ≤ 65536) (hsh : Qb n l) : Ry Tryz.prog Ef (fun i => [.hp i 0, BC n]) (BO k f l most) (.tup [iD (Pq k f most n l).2.1, iD (Pq k f most n l).2.2]) (BO k f (Pq k f most n l).1 most) := by
 have hn7 := hs.n
 intro i nx hi
 refine A8 P6 (by simp only [m_scrub_Store_Repair, List.length]; decide) ?_
 simp only [BO]
 simp only [m_scrub_Store_Repair]; refine WK ?_; try with_reducible exact trivial
 refine OQ (t' := .mk _) ?_
 simp only [List.map_cons, List.map_nil, SL]
 refine Jc i (Y9 hs l most q n [] (by omega) hn (by simp) hk hm hsh) (by omega) (by (repeat rw [Ac (by omega)]); exact Aa _ _ _) (by simp only [List.mem_cons, List.not_mem_nil, or_false, not_false_eq_true]; try omega) fun n1 g1 => ?_
 have hgl := Ag3 (k := k) (f := f) (n := n) (aw := []) (l := l)
 obtain ⟨v, e, hg⟩ : ∃ v e, LC k f n [] l = (v, e) := ⟨_, _, rfl⟩
 rw [hg] at hgl ⊢
 have e0 : Pq k f most n l = if e = 0 then ((IE most n l (AZ k f v)).1, if (IE most n l (AZ k f v)).2.2 = 0 then ((IE most n l (AZ k f v)).2.1, 0) else (0, (IE most n l (AZ k f v)).2.2)) else (l, 0, e) := by rw [Pq, hg]
 rw [e0]
 simp only [AdD, BO]
 rcases Nat.eq_zero_or_pos e with he | he
 ·subst he
  rw [if_pos rfl]
  obtain ⟨hnm, hvl⟩ := hgl rfl
  have hnm' : 1 ≤ n.length ∧ n.length ≤ 16 := hnm
  dsimp only at hvl
  have hel := (BP hs v).2.2
  refine WK ?_; try with_reducible exact trivial
  refine CS (Xe hs v hvl) fun n2 g2 => ?_
  refine WK ?_; try with_reducible exact trivial
  refine GL [0, 1, 8, 9, 38, 39, 40] (fun s : List (List FileS) × Nat × Nat × Nat => ([(0, .hp i 0), (1, BC n), (8, CY (encode k f v)), (9, iD (s.2.2.1 : Nat)), (38, .h n2), (39, iD (l.length : Nat)), (40, iD (s.2.1 : Nat))], [(n2, .row 26 1 l.length ((s.1 ++ l.drop s.2.1).map (Fg most))), (i, .box BU [iD k, iD f, .h n2])], s.2.2.2)) (fun s => s.1.length = s.2.1 ∧ s.2.1 ≤ l.length ∧ n2 < s.2.2.2 ∧ s.2.2.1 ≤ s.2.1 ∧ IE most n l (AZ k f v) = (s.1 ++ (IE most n (l.drop s.2.1) ((AZ k f v).drop s.2.1)).1, s.2.2.1 + (IE most n (l.drop s.2.1) ((AZ k f v).drop s.2.1)).2.1, (IE most n (l.drop s.2.1) ((AZ k f v).drop s.2.1)).2.2)) (fun s => l.length - s.2.1) ([], 0, 0, n2 + 1) ⟨rfl, by dsimp only; omega, by dsimp only; omega, Nat.le_refl _, by simp⟩ (by simp only [List.nil_append, List.drop_zero]; exact (Ent.of (by with_unfolding_all rfl) rfl)) ?_
  rintro ⟨pre, j, acc, n3⟩ ⟨q1, q2, q3, q5, q4⟩
  dsimp only at q1 q2 q3 q4 q5 ⊢
  refine WK ?_; try with_reducible exact trivial
  refine brd (fun hlt => ?_) (fun hge => ?_)
  ·have hjl : j < l.length := by omega
   have hj7 : j < 7 := by omega
   have hgj : l[j]? = some (gt l j) := by rw [Ia hjl]; exact List.getElem?_eq_getElem hjl
   have hdk := hk (gt l j) (List.mem_of_getElem? hgj)
   have hcl : (pre ++ l.drop j).length = l.length := by rw [List.length_append, List.length_drop]; omega
   have hgt : gt (pre ++ l.drop j) j = gt l j := AgY q1
   have hej : j < (encode k f v).length := by omega
   have hel2 : (gt (encode k f v) j).length ≤ 1000 := by
    have hsm := (BP hs v).1.3 (gt (encode k f v) j) (by rw [Ia hej]; exact List.getElem_mem hej)
    rw [hsm, (BP hs v).2.1]
    exact Nat.le_trans (DJ _ hs.k) (by omega)
   have hwl : (Bi j (gt (encode k f v) j)).length ≤ 100000 := by rw [Ha]; omega
   have hst := XH (F := fun fs w => JP fs most n w) (G := fun fs w => JQ fs most n w) (l := l) hjl (Gl hej)
   have hlj : j < (pre ++ l.drop j).length := by omega
   have hm1 := AgP (gt l j) most n (Bi j (gt (encode k f v) j))
   refine WK ?_; try with_reducible exact trivial
   simp only [Fg, AB]
   refine WK ?_; try with_reducible exact trivial
   rw [hgt]
   refine CS (Ag7 j (gt (encode k f v) j) (by omega) (by omega)) fun n4 g4 => ?_
   refine WK ?_; try with_reducible exact trivial
   refine Jc n3 (mend_a hdk hm hnm'.2 hwl) (by omega) (by (repeat rw [Ac (by omega)]); exact Aa _ _ _) (by simp only [List.mem_cons, List.not_mem_nil, or_false, not_false_eq_true]; try omega) fun n5 g5 => ?_
   simp only [AB]
   generalize hW : JP (gt l j) most n (Bi j (gt (encode k f v) j)) = W at hst ⊢
   obtain ⟨a, b, hab⟩ : ∃ a b, JQ (gt l j) most n (Bi j (gt (encode k f v) j)) = (a, b) := ⟨_, _, rfl⟩
   rw [hab] at hst hm1 ⊢
   dsimp only at hst hm1 ⊢
   have hsa := Zb (pre := pre) q1 hjl W
   rcases Nat.eq_zero_or_pos b with hz | hz
   ·rw [hz, if_pos rfl] at hst
    rw [hz]
    refine WK ?_; try with_reducible exact trivial
    refine ⟨(pre ++ [W], j + 1, acc + a, n5), ⟨by simp [q1], by dsimp only; omega, by dsimp only; omega, by dsimp only; omega, ?_⟩, by dsimp only; omega, (Ent.of_rt (IB (fs := W) (n := l.length) hlj (by omega))).trans ?_⟩
    ·rw [q4]
     unfold IE
     rw [hst]
     exact Prod.ext (by simp) (Prod.ext (by dsimp only; omega) rfl)
    ·rw [hsa]
     exact (Ent.of (by with_unfolding_all rfl) rfl)
   ·rw [if_neg (by omega)] at hst
    refine WK ?_; try with_reducible exact trivial
    have hb := IB (a := n3) (m := n2) (n := l.length) (fs := W) (most := most) (r := [(i, .box BU [iD k, iD f, .h n2])]) hlj (by omega)
    rw [hsa] at hb
    refine Dc (t' := .mk _) (hb.trans (IA (by simp only [List.length_append, List.length_drop, List.length_singleton]; omega) (by omega))) ?_
    have e1 : IE most n l (AZ k f v) = (pre ++ (W :: l.drop (j + 1)), acc + a, b) := by
     rw [q4]
     unfold IE
     rw [hst]
    refine C9 ⟨?_, ?_⟩
    ·rw [e1, if_neg (by dsimp only; omega)]; rfl
    ·rw [e1, List.append_assoc]; rfl
  ·have hjl : j = l.length := by omega
   subst hjl
   refine WK ?_; try with_reducible exact trivial
   have hst2 : IE most n (l.drop l.length) ((AZ k f v).drop l.length) = ([], 0, 0) := by simp [IE, Ic]
   rw [hst2] at q4
   have hb := IA (m := n2) (i := i) (most := most) (k := k) (f := f) (l := pre ++ l.drop l.length) (n := l.length) (by simp [q1]) (by omega)
   refine Dc (t' := .mk _) hb ?_
   refine C9 ⟨by rw [q4, if_pos rfl]; rfl, ?_⟩
   rw [q4, List.drop_length]; rfl
 ·rw [if_neg (by omega)]
  refine WK ?_; try with_reducible exact trivial
  exact C9 ⟨rfl, rfl⟩
def isB (s : Bs) : Bool := (PW s).isSome
theorem isB_eq (a b : UInt8) (n : Bs) : isB (a :: b :: n) = decide (a = 98 ∧ b = 46) := by
 unfold isB
 by_cases h : a = 98 ∧ b = 46
 ·rw [h.1, h.2]; rfl
 ·rw [decide_eq_false h]
  have : PW (a :: b :: n) = none := by
   unfold PW
   split
   ·rename_i e
    cases e
    exact absurd ⟨rfl, rfl⟩ h
   ·rfl
  rw [this]; rfl
theorem pre2 (a b : UInt8) (n : Bs) : decide ((⟨(a :: b :: n).toArray⟩ : ByteArray).extract 0 2 = ⟨#[98, 46]⟩) = isB (a :: b :: n) := by
 rw [isB_eq]
 refine decide_eq_decide.2 ?_
 have e : (⟨(a :: b :: n).toArray⟩ : ByteArray).extract 0 2 = ⟨#[a, b]⟩ := by apply ByteArray.ext; simp
 rw [e]
 constructor
 ·intro h
  have := congrArg (fun x : ByteArray => x.data.toList) h
  simpa using this
 ·rintro ⟨rfl, rfl⟩; rfl
set_option maxRecDepth 100000 in
theorem AbA (s : Bs) (hs : s.length ≤ 1000000) : ED Tryz.prog EZ [BC s, BC [98, 46]] (AO (isB s)) := by
 intro nx
 refine A8 J6 (by simp only [m_internal_stringslite_HasPrefix, List.length]; decide) ?_
 match s, hs with
 | [], _ =>
  simp only [m_internal_stringslite_HasPrefix]; refine WK ?_; try with_reducible exact trivial
  repeat ((first | refine Io (AO true) ?_ | refine NG ?_); refine WK ?_; try with_reducible exact trivial)
  exact C9 ⟨rfl, rfl⟩
 | [a], _ =>
  have e1 : (⟨[a].toArray⟩ : ByteArray).size = 1 := rfl
  have e2 : (⟨#[98, 46]⟩ : ByteArray).size = 2 := rfl
  simp only [m_internal_stringslite_HasPrefix]; refine WKX (And.intro @e1 @e2) ?_; try with_reducible exact trivial
  repeat ((first | refine Io (AO true) ?_ | refine NG ?_); refine WK ?_; try with_reducible exact trivial)
  have hb : isB [a] = false := by
   unfold isB PW
   split
   ·rename_i e; cases e
   ·rfl
  exact C9 ⟨by rw [hb], rfl⟩
 | a :: b :: n, hs =>
  have e1 : (⟨(a :: b :: n).toArray⟩ : ByteArray).size = n.length + 2 := by simp [ByteArray.size]
  have e2 : (⟨#[98, 46]⟩ : ByteArray).size = 2 := rfl
  simp only [m_internal_stringslite_HasPrefix]; refine WKX (And.intro @e1 @e2) ?_; try with_reducible exact trivial
  refine C9 ⟨?_, rfl⟩
  rw [pre2]
theorem Ab4 (s : Bs) (hs : s.length ≤ 1000000) : ED Tryz.prog Jb [BC s, BC [98, 46]] (match PW s with
  | some n => .tup [BC n, AO true]
  | none => .tup [BC s, AO false]) := by
 intro nx
 refine A8 QD (by simp only [m_strings_CutPrefix, List.length]; decide) ?_
 have h0 : ED Tryz.prog E5 [BC s, BC [98, 46]] (match PW s with
  | some n => .tup [BC n, AO true]
  | none => .tup [BC s, AO false]) := by
  intro nx
  refine A8 J7 (by simp only [m_internal_stringslite_CutPrefix, List.length]; decide) ?_
  simp only [m_internal_stringslite_CutPrefix]; refine WK ?_; try with_reducible exact trivial
  refine CS (AbA s hs) fun n1 g1 => ?_
  cases hc : PW s with
  | none =>
   rw [show isB s = false by rw [isB, hc]; rfl]
   refine WK ?_; try with_reducible exact trivial
   exact C9 ⟨rfl, rfl⟩
  | some n =>
   have hsn := YO hc
   subst hsn
   rw [show isB (bN n) = true from rfl]
   have e1 : (⟨(bN n).toArray⟩ : ByteArray).size = n.length + 2 := by simp [ByteArray.size, bN]
   have e2 : (⟨#[98, 46]⟩ : ByteArray).size = 2 := rfl
   refine WKX (And.intro @e1 @e2) ?_; try with_reducible exact trivial
   refine C9 ⟨?_, rfl⟩
   have e : (⟨(bN n).toArray⟩ : ByteArray).extract 2 (n.length + 2) = ⟨n.toArray⟩ := by
    apply ByteArray.ext
    apply Array.toList_inj.1
    simp [bN]
   rw [e]
 simp only [m_strings_CutPrefix]; refine WK ?_; try with_reducible exact trivial
 refine CS h0 fun n1 g1 => ?_
 cases hc : PW s with
 | none =>
  refine WK ?_; try with_reducible exact trivial
  exact C9 ⟨rfl, rfl⟩
 | some n =>
  refine WK ?_; try with_reducible exact trivial
  exact C9 ⟨rfl, rfl⟩
theorem elS : El Tryz.prog Ad1 QA 1 16 (.string ByteArray.empty) := El.of (by kernel_rfl) (by kernel_rfl) rfl (by decide)
theorem AbC (i : Int) : Ip i [] = [] := by
 unfold Ip NI
 rw [if_pos (by decide)]
theorem Hu {i : Nat} {s : Bs} {ns : List Bs} {fs : List FileS} : D5 i (s :: ns) fs = match NJ i fs s with
  | some n => ((D5 i ns (J9 fs s (qN n))).1, n :: (D5 i ns (J9 fs s (qN n))).2)
  | none => D5 i ns fs := rfl
set_option maxRecDepth 100000 in
theorem Wj (k f : Nat) (l : List (List FileS)) (most q j : Nat) (fs : List FileS) (hl : l.length ≤ 1000) (hj : l[j]? = some fs) (hk : DOk fs most q) (hq : q ≤ 1000) (hm : most ≤ 65536) : AcF Tryz.prog Gn (fun i => [.hp i 0, iD j]) (BO k f l most) (fun c => .tup [.h c, iD 0]) (RP (D5 j (Eu fs) fs).2) (BO k f (l.set j (D5 j (Eu fs) fs).1) most) := by
 have hjl : j < l.length := (List.getElem?_eq_some_iff.1 hj).1
 have hg : gt l j = fs := by simp only [gt]; rw [List.getD_eq_getElem?_getD, hj]; rfl
 intro i nx hi
 refine A8 QE (by simp only [m_scrub_Store_Scrub, List.length]; decide) ?_
 simp only [BO]
 simp only [m_scrub_Store_Scrub]; refine WK ?_; try with_reducible exact trivial
 rw [hg]
 simp only [Fg, AB]
 refine WK ?_; try with_reducible exact trivial
 refine QL (nx + 1) (Aip fs most hk.small (by have := hk.len; omega)) (by omega) (by (repeat rw [Ac (by omega)]); exact Aa _ _ _) (by simp only [List.mem_cons, List.not_mem_nil, or_false, not_false_eq_true]; try omega) fun c n1 g1 g2 => ?_
 have hnl := OE fs
 have hlen := hk.len
 have hnm : ∀ s ∈ Eu fs, s.length ≤ 24 := fun s hs => by
  obtain ⟨f, hf, rfl⟩ := List.mem_map.1 ((WL fs s).1 hs)
  exact hk.named f hf
 generalize hN : Eu fs = N at *
 simp only [AB, RP]
 refine WK ?_; try with_reducible exact trivial
 refine GL [1, 6, 7, 33, 34, 35] (fun s : Nat × List FileS × List Bs × Nat × Nat => ([(1, iD (j : Nat)), (6, .h s.2.2.2.1), (7, .hp (nx + 1) 0), (33, .h c), (34, iD (N.length : Nat)), (35, iD (s.1 : Nat))], [(s.2.2.2.1, RP s.2.2.1), (c, .row QA 1 N.length (N.map BC)), (nx + 1, AB s.2.1 most), (nx, .row 26 1 l.length ((l.map (Fg most)).set j (.hp (nx + 1) 0))), (i, .box BU [iD k, iD f, .h nx])], s.2.2.2.2)) (fun s => s.1 ≤ N.length ∧ DOk s.2.1 most (q + s.1) ∧ s.2.2.1.length ≤ s.1 ∧ c < s.2.2.2.1 ∧ s.2.2.2.1 < s.2.2.2.2 ∧ D5 j N fs = ((D5 j (N.drop s.1) s.2.1).1, s.2.2.1 ++ (D5 j (N.drop s.1) s.2.1).2)) (fun s => N.length - s.1) (0, fs, [], n1, n1 + 1) ⟨by dsimp only; omega, hk, Nat.le_refl _, g2, by dsimp only; omega, by simp⟩ ?_ ?_
 ·refine (Ent.nil 6 QA 1 (by with_unfolding_all rfl) rfl).trans (Ent.of (by with_unfolding_all rfl) rfl)
 ·rintro ⟨t, fs', acc, u, n2⟩ ⟨q1, q2, q3, q4, q5, q6⟩
  dsimp only at q1 q2 q3 q4 q5 q6 ⊢
  simp only [RP, AB]
  refine WK ?_; try with_reducible exact trivial
  refine brd (fun hlt => ?_) (fun hge => ?_)
  ·have htl : t < N.length := by omega
   have hsn : (gt N t).length ≤ 24 := hnm _ (by rw [Ia htl]; exact List.getElem_mem htl)
   have hdr : N.drop t = gt N t :: N.drop (t + 1) := by rw [Ia htl]; exact List.drop_eq_getElem_cons htl
   rw [hdr, Hu] at q6
   refine WK ?_; try with_reducible exact trivial
   generalize gt N t = s at *
   refine CS (Ab4 s (by omega)) fun n3 g3 => ?_
   cases hc : PW s with
   | none =>
    have hb : NJ j fs' s = none := by unfold NJ; rw [hc]
    rw [hb] at q6
    refine WK ?_; try with_reducible exact trivial
    cases hf : Cf fs' s with
    | none =>
     refine Jc (nx + 1) (Sm fs' most s q2.small (by omega) hf) (by omega) (by (repeat rw [Ac (by omega)]); exact Aa _ _ _) (by simp only [List.mem_cons, List.not_mem_nil, or_false, not_false_eq_true]; try omega) fun n4 g4 => ?_
     simp only [AB]
     refine WK ?_; try with_reducible exact trivial
     repeat ((first | refine Io (AO true) ?_ | refine NG ?_); refine WK ?_; try with_reducible exact trivial)
     refine ⟨(t + 1, fs', acc, u, n4), ⟨by dsimp only; omega, q2.mono (by omega), by dsimp only; omega, q4, by dsimp only; omega, q6⟩, by dsimp only; omega, (Ent.only [u, c, nx + 1, nx, i] _ _ _).trans ?_⟩
     refine WKR ?_; try with_reducible exact trivial
     exact (Ent.of (by with_unfolding_all rfl) rfl)
    | some z =>
     obtain ⟨f', hj', hfe⟩ := BH hf
     refine QL (nx + 1) (TU fs' most s q2.small (by omega) hf hj') (by omega) (by (repeat rw [Ac (by omega)]); exact Aa _ _ _) (by simp only [List.mem_cons, List.not_mem_nil, or_false, not_false_eq_true]; try omega) fun k2 n4 g4 g5 => ?_
     simp only [AB]
     refine WK ?_; try with_reducible exact trivial
     repeat ((first | refine Io (AO true) ?_ | refine NG ?_); refine WK ?_; try with_reducible exact trivial)
     refine ⟨(t + 1, fs', acc, u, n4), ⟨by dsimp only; omega, q2.mono (by omega), by dsimp only; omega, q4, by dsimp only; omega, q6⟩, by dsimp only; omega, (Ent.only [u, c, nx + 1, nx, i] _ _ _).trans ?_⟩
     refine WKR ?_; try with_reducible exact trivial
     exact (Ent.of (by with_unfolding_all rfl) rfl)
   | some n =>
    have hsn2 := YO hc
    subst hsn2
    have hnn : n.length ≤ 22 := by simp [bN] at hsn; omega
    have e5 : (⟨#[113, 46]⟩ : ByteArray).size + (⟨n.toArray⟩ : ByteArray).size = n.length + 2 := by simp [ByteArray.size]; omega
    have e6 : (⟨#[113, 46]⟩ : ByteArray) ++ (⟨n.toArray⟩ : ByteArray) = ⟨(qN n).toArray⟩ := by apply ByteArray.ext; simp [qN]
    have hlen2 : (acc ++ [n]).length = acc.length + 1 := by simp
    have hmap2 : (acc ++ [n]).map BC = acc.map BC ++ [BC n] := by simp
    refine WK ?_; try with_reducible exact trivial
    cases hf : Cf fs' (bN n) with
    | none =>
     have hr : Sr fs' (bN n) = [] := by unfold Sr DW; rw [hf]; rfl
     have hb : NJ j fs' (bN n) = some n := by unfold NJ; rw [hc]; dsimp only; rw [hr, if_pos (AbC _)]
     rw [hb] at q6
     refine Jc (nx + 1) (Sm fs' most (bN n) q2.small (by omega) hf) (by omega) (by (repeat rw [Ac (by omega)]); exact Aa _ _ _) (by simp only [List.mem_cons, List.not_mem_nil, or_false, not_false_eq_true]; try omega) fun n4 g4 => ?_
     simp only [AB]
     refine WK ?_; try with_reducible exact trivial
     refine OQ (t' := .mk _) ?_
     simp only [List.map_cons, List.map_nil, SL]
     refine CS (Vs (j : Int) [] (by simp)) fun n5 g5 => ?_
     rw [AbC]
     refine WKX (And.intro @e5 @e6) ?_; try with_reducible exact trivial
     refine Jc (nx + 1) (Wy fs' most (bN n) (qN n) q2.small (by omega) (by simp [qN]; omega)) (by omega) (by (repeat rw [Ac (by omega)]); exact Aa _ _ _) (by simp only [List.mem_cons, List.not_mem_nil, or_false, not_false_eq_true]; try omega) fun n6 g6 => ?_
     simp only [AB]
     refine WK ?_; try with_reducible exact trivial
     refine NH (i := u) (m := 1) (l' := [BC n]) elS (l := acc.map BC) (n := acc.length) (by (repeat rw [Ac (by omega)]); exact Aa _ _ _) (Jo.row (by (repeat rw [Ac (by omega)]); exact Aa _ _ _) (by simp [D.plain])) rfl (by simp [BJ, Value.oneCell']) (by omega) (by omega) (by simp only [List.mem_cons, List.not_mem_nil, or_false, not_false_eq_true]; try omega) ?_
     refine WK ?_; try with_reducible exact trivial
     refine ⟨(t + 1, J9 fs' (bN n) (qN n), acc ++ [n], n6 + 1, n6 + 2), ⟨by dsimp only; omega, Zi q2 hm _ _, by dsimp only; rw [List.length_append, List.length_singleton]; omega, by dsimp only; omega, by dsimp only; omega, by dsimp only; rw [q6, List.append_assoc]; rfl⟩, by dsimp only; omega, (Ent.only [n6 + 1, c, nx + 1, nx, i] _ _ _).trans ?_⟩
     refine WKR ?_; try with_reducible exact trivial
     rw [← hlen2, ← hmap2]
     exact (Ent.of (by with_unfolding_all rfl) rfl)
    | some z =>
     obtain ⟨f', hj', hfe⟩ := BH hf
     have hfl := q2.small f' (List.mem_of_getElem? hj')
     have hr : Sr fs' (bN n) = f'.2.1 := by unfold Sr DW; rw [hf]; simp [hj']
     refine QL (nx + 1) (TU fs' most (bN n) q2.small (by omega) hf hj') (by omega) (by (repeat rw [Ac (by omega)]); exact Aa _ _ _) (by simp only [List.mem_cons, List.not_mem_nil, or_false, not_false_eq_true]; try omega) fun k2 n4 g4 g5 => ?_
     simp only [AB]
     refine WK ?_; try with_reducible exact trivial
     refine Gt k2 (t' := .mk _) (Aa _ _ _) KC (by simp only [List.mem_cons, List.not_mem_nil, or_false, not_false_eq_true]; try omega) ?_
     rw [AV]
     simp only [List.map_cons, List.map_nil, Du, Aa]
     refine CS (Vs (j : Int) f'.2.1 (by omega)) fun n5 g5 => ?_
     rcases Decidable.em (Ip (j : Int) f'.2.1 = []) with hgd | hgd
     ·have hb : NJ j fs' (bN n) = some n := by unfold NJ; rw [hc]; dsimp only; rw [hr, if_pos hgd]
      rw [hb] at q6
      rw [hgd]
      refine WK ?_; try with_reducible exact trivial
      refine WKX (And.intro @e5 @e6) ?_; try with_reducible exact trivial
      refine Jc (nx + 1) (Wy fs' most (bN n) (qN n) q2.small (by omega) (by simp [qN]; omega)) (by omega) (by (repeat rw [Ac (by omega)]); exact Aa _ _ _) (by simp only [List.mem_cons, List.not_mem_nil, or_false, not_false_eq_true]; try omega) fun n6 g6 => ?_
      simp only [AB]
      refine WK ?_; try with_reducible exact trivial
      refine NH (i := u) (m := 1) (l' := [BC n]) elS (l := acc.map BC) (n := acc.length) (by (repeat rw [Ac (by omega)]); exact Aa _ _ _) (Jo.row (by (repeat rw [Ac (by omega)]); exact Aa _ _ _) (by simp [D.plain])) rfl (by simp [BJ, Value.oneCell']) (by omega) (by omega) (by simp only [List.mem_cons, List.not_mem_nil, or_false, not_false_eq_true]; try omega) ?_
      refine WK ?_; try with_reducible exact trivial
      refine ⟨(t + 1, J9 fs' (bN n) (qN n), acc ++ [n], n6 + 1, n6 + 2), ⟨by dsimp only; omega, Zi q2 hm _ _, by dsimp only; rw [List.length_append, List.length_singleton]; omega, by dsimp only; omega, by dsimp only; omega, by dsimp only; rw [q6, List.append_assoc]; rfl⟩, by dsimp only; omega, (Ent.only [n6 + 1, c, nx + 1, nx, i] _ _ _).trans ?_⟩
      refine WKR ?_; try with_reducible exact trivial
      rw [← hlen2, ← hmap2]
      exact (Ent.of (by with_unfolding_all rfl) rfl)
     ·have hb : NJ j fs' (bN n) = none := by unfold NJ; rw [hc]; dsimp only; rw [hr, if_neg hgd]
      rw [hb] at q6
      have hpos : 0 < (Ip (j : Int) f'.2.1).length := List.length_pos_iff.2 hgd
      refine WK ?_; try with_reducible exact trivial
      refine ⟨(t + 1, fs', acc, u, n5), ⟨by dsimp only; omega, q2.mono (by omega), by dsimp only; omega, q4, by dsimp only; omega, q6⟩, by dsimp only; omega, (Ent.only [u, c, nx + 1, nx, i] _ _ _).trans ?_⟩
      refine WKR ?_; try with_reducible exact trivial
      exact (Ent.of (by with_unfolding_all rfl) rfl)
  ·have ht : t = N.length := by omega
   subst ht
   rw [List.drop_length] at q6
   simp only [D5, List.append_nil] at q6
   refine WK ?_; try with_reducible exact trivial
   have f1 := RT.only (r := [(u, .row QA 1 acc.length (acc.map BC)), (c, .row QA 1 N.length (N.map BC)), (nx + 1, AB fs' most), (nx, .row 26 1 l.length ((l.map (Fg most)).set j (.hp (nx + 1) 0))), (i, .box BU [iD k, iD f, .h nx])]) [u, nx + 1, nx, i]
   simp -dsimp (disch := omega) only [Aa, Ac, AV, CE, AX, Bj, EQ] at f1
   refine Dc (t' := .mk _) (f1.trans (RT.cons _ (V9 rfl hjl (by omega) (by omega) (by omega)))) ?_
   exact C9 ⟨u, by omega, by omega, rfl, by rw [q6]; rfl⟩
theorem elP : El Tryz.prog 65 26 1 8 (.pointer none) := El.of (by kernel_rfl) (by kernel_rfl) rfl (by decide)
abbrev Hf (l : List (List FileS)) (most : Nat) : D := .row 26 1 l.length (l.map (Fg most))
def Like (l' l : List (List FileS)) : Prop := l'.length = l.length ∧ ∀ (j : Nat) (fs fs' : List FileS), l[j]? = some fs → l'[j]? = some fs' → fs'.Perm fs
theorem Ws {c m most : Nat} {l : List (List FileS)} {fs : List FileS} {r : Ad} (h1 : c ≠ m) :
  RT ((c, AB fs most) :: (m, .row 26 1 (l.length + 1) (l.map (Fg most) ++ [.hp c 0])) :: r) ((m, Hf (l ++ [fs]) most) :: r) := by
 have f1 := RT.fold (r := (c, AB fs most) :: (m, .row 26 1 (l.length + 1) (l.map (Fg most) ++ [.hp c 0])) :: r) c m l.length (d := AB fs most) (c := .row 26 1 (l.length + 1) (l.map (Fg most) ++ [.hp c 0])) (l := l.map (Fg most) ++ [.hp c 0]) (Aa _ _ _) h1 (by rw [Ac (by omega)]; exact Aa _ _ _) rfl (by rw [List.getElem?_append_right (by rw [List.length_map]; exact Nat.le_refl _), List.length_map, Nat.sub_self]; rfl)
 simp -dsimp (disch := omega) only [Aa, Ac, AV, CE, AX, Bj, Dx] at f1
 have e : (l.map (Fg most) ++ [D.hp c 0]).set l.length (AB fs most) = (l ++ [fs]).map (Fg most) := by
  rw [List.set_append_right _ _ (by rw [List.length_map]; exact Nat.le_refl _), List.length_map, Nat.sub_self, List.map_append]
  rfl
 rw [e] at f1
 have e2 : (l ++ [fs]).length = l.length + 1 := by simp
 rw [Hf, e2]
 exact f1
set_option maxRecDepth 100000 in
theorem AcT {k f : Nat} (hs : CO k f) (l : List (List FileS)) (most q : Nat) (hl : l.length = k + 2 * f) (hk : ∀ fs ∈ l, DOk fs most q) (hm : most ≤ 65536) {a nx : Nat} (ha : a < nx) : H9 Tryz.prog KR [shD k f, .h a] [(a, Hf l most)] nx (fun d ro nx' => ∃ t l', nx ≤ t ∧ t < nx' ∧ d = .tup [.hp t 0, iD 0] ∧ Like l' l ∧ ro = [(t, BO k f l' most), (a, Hf l most)]) := by
 have hn7 := hs.n
 refine A8 Acj (by simp only [m_scrub_New, List.length]; decide) ?_
 simp only [Hf, shD]
 simp only [m_scrub_New]; refine WK ?_; try with_reducible exact trivial
 refine CS (QU hs) fun n1 g1 => ?_
 refine WK ?_; try with_reducible exact trivial
 refine CS (Zx hs) fun n2 g2 => ?_
 refine WK ?_; try with_reducible exact trivial
 refine GL [6, 22, 23, 24] (fun s : List (List FileS) × Nat × Nat => ([(6, .hp n2 0), (22, .h a), (23, iD (l.length : Nat)), (24, iD (s.2.1 : Nat))], [(n2, BO k f s.1 most), (a, Hf l most)], s.2.2)) (fun s => s.2.1 ≤ l.length ∧ Like s.1 (l.take s.2.1) ∧ n2 < s.2.2) (fun s => l.length - s.2.1) ([], 0, n2 + 1) ⟨by dsimp only; omega, ⟨rfl, fun j fs fs' h => by simp at h⟩, by dsimp only; omega⟩ ?_ ?_
 ·refine (Ent.only [n2, a] _ _ _).trans ?_
  refine WKR ?_; try with_reducible exact trivial
  have f1 := RT.nilrow (r := [(n2, .box BU [iD k, iD f, .sc (.slice none 0 0)]), (a, Hf l most)]) n2 2 26 1 (c := .box BU [iD k, iD f, .sc (.slice none 0 0)]) (l := [iD k, iD f, .sc (.slice none 0 0)]) (Aa _ _ _) rfl rfl
  simp -dsimp (disch := omega) only [Aa, Ac, AV, CE, AX, Bj, Dx, List.set_cons_zero, List.set_cons_succ] at f1
  refine (Ent.of_rt f1).trans ?_
  exact (Ent.of (by with_unfolding_all rfl) rfl)
 ·rintro ⟨l', j, n3⟩ ⟨q1, q2, q3⟩
  dsimp only at q1 q2 q3 ⊢
  have hl'l : l'.length = j := by rw [q2.1, List.length_take]; omega
  simp only [BO, Hf]
  refine WK ?_; try with_reducible exact trivial
  refine brd (fun hlt => ?_) (fun hge => ?_)
  ·have hjl : j < l.length := by omega
   have hj7 : j < 7 := by omega
   have hgj : l[j]? = some (gt l j) := by rw [Ia hjl]; exact List.getElem?_eq_getElem hjl
   have hdk := hk (gt l j) (List.mem_of_getElem? hgj)
   have hset : l.set j (gt l j) = l := Gm hgj
   refine WK ?_; try with_reducible exact trivial
   simp only [Fg, AB]
   refine WK ?_; try with_reducible exact trivial
   refine Ll [n3] (GM (by (repeat rw [Ac (by omega)]); exact Aa _ _ _)) (Ahs (gt l j) most hdk.small hm (SN hdk.nodup) (i := n3) (by omega)) (by simp [BL]; omega) fun _ _ n4 g4 ⟨c, fs', c1, c2, hd, hp, hro⟩ => ?_
   subst hd hro
   simp only [List.cons_append, List.nil_append, AB]
   refine WK ?_; try with_reducible exact trivial
   refine NH (i := n3 + 1) (m := 1) (l' := [.hp c 0]) elP (l := l'.map (Fg most)) (n := l'.length) (by (repeat rw [Ac (by omega)]); exact Aa _ _ _) (Jo.row (by (repeat rw [Ac (by omega)]); exact Aa _ _ _) (by simp [D.plain])) rfl (by simp [BJ]) (by omega) (by omega) (by simp only [List.mem_cons, List.not_mem_nil, or_false, not_false_eq_true]; try omega) ?_
   refine WK ?_; try with_reducible exact trivial
   refine ⟨(l' ++ [fs'], j + 1, n4 + 2), ⟨by dsimp only; omega, ?_, by dsimp only; omega⟩, by dsimp only; omega, (Ent.only [c, n4 + 1, n3, a, n2] _ _ _).trans ?_⟩
   ·refine ⟨by simp only [List.length_append, List.length_singleton, List.length_take]; omega, fun i gs gs' h1 h2 => ?_⟩
    dsimp only at h1 h2
    rcases Nat.lt_or_ge i j with h | h
    ·rw [List.getElem?_append_left (by omega)] at h2
     exact q2.2 i gs gs' (by rw [List.getElem?_take, if_pos (by omega)] at h1 ⊢; exact h1) h2
    ·have hij : i = j := by
      have := (List.getElem?_eq_some_iff.1 h2).1
      rw [List.length_append, List.length_singleton] at this
      omega
     subst hij
     rw [List.getElem?_take, if_pos (by omega), hgj] at h1
     rw [List.getElem?_append_right (by omega), hl'l, Nat.sub_self] at h2
     cases h1; cases h2
     exact hp
   ·refine WKR ?_; try with_reducible exact trivial
    refine (Ent.of_rt (Ws (by omega))).trans ?_
    refine (Ent.only [n3, a, n4 + 1, n2] _ _ _).trans ?_
    refine WKR ?_; try with_reducible exact trivial
    have hb := IB (a := n3) (m := a) (n := l.length) (fs := gt l j) (most := most) (l := l) (r := [(n4 + 1, Hf (l' ++ [fs']) most), (n2, .box BU [iD k, iD f, .h (n4 + 1)])]) hjl (by omega)
    rw [hset] at hb
    refine (Ent.of_rt hb).trans ?_
    have f2 := RT.fold (r := [(a, Hf l most), (n4 + 1, Hf (l' ++ [fs']) most), (n2, .box BU [iD k, iD f, .h (n4 + 1)])]) (n4 + 1) n2 2 (d := Hf (l' ++ [fs']) most) (c := .box BU [iD k, iD f, .h (n4 + 1)]) (l := [iD k, iD f, .h (n4 + 1)]) (by refine WK ?_; try with_reducible exact trivial) (by omega) (by refine WK ?_; try with_reducible exact trivial) rfl rfl
    simp -dsimp (disch := omega) only [Aa, Ac, AV, CE, AX, Bj, Dx, List.set_cons_zero, List.set_cons_succ] at f2
    refine (Ent.of_rt f2).trans ?_
    refine (Ent.only [n2, a] _ _ _).trans ?_
    refine WKR ?_; try with_reducible exact trivial
    exact (Ent.of (by with_unfolding_all rfl) rfl)
  ·have hjl : j = l.length := by omega
   subst hjl
   rw [List.take_length] at q2
   refine WK ?_; try with_reducible exact trivial
   exact C9 ⟨n2, l', by omega, q3, rfl, q2, rfl⟩
theorem AiB (n : Nat) (c : Int) (hn : n ≤ 1000) (hc : -9223372036854775808 ≤ c ∧ c ≤ 9223372036854775807) : MW Tryz.prog NC [iD n, iD c] (fun i => .h i) (Hf (List.replicate n []) (min (max c 0) 65536).toNat) := by
 intro nx
 refine A8 X6 (by simp only [m_law25_disks, List.length]; decide) ?_
 simp only [m_law25_disks]; refine WK ?_; try with_reducible exact trivial
 generalize hm : (min (max c 0) 65536).toNat = most
 refine GL [0, 1, 5, 6] (fun s : Nat × Nat × Nat => ([(0, iD n), (1, iD c), (5, .h s.2.1), (6, iD (s.1 : Nat))], [(s.2.1, Hf (List.replicate s.1 []) most)], s.2.2)) (fun s => s.1 ≤ n ∧ nx ≤ s.2.1 ∧ s.2.1 < s.2.2) (fun s => n - s.1) (0, nx, nx + 1) ⟨by dsimp only; omega, by dsimp only; omega, by dsimp only; omega⟩ ((Ent.nil 5 26 1 (by with_unfolding_all rfl) rfl).trans (Ent.of (by with_unfolding_all rfl) rfl)) ?_
 rintro ⟨j, q, n1⟩ ⟨q1, q2, q3⟩
 dsimp only at q1 q2 q3 ⊢
 have hrl : (List.replicate j ([] : List FileS)).length = j := List.length_replicate
 simp only [Hf]
 refine WK ?_; try with_reducible exact trivial
 refine brd (fun hlt => ?_) (fun hge => ?_)
 ·refine WK ?_; try with_reducible exact trivial
  refine QC (AgK c hc) fun t n2 g1 g2 => ?_
  rw [hm]
  simp only [AB]
  refine WK ?_; try with_reducible exact trivial
  refine NH (i := q) (m := 1) (l' := [.hp t 0]) elP (l := (List.replicate j []).map (Fg most)) (n := (List.replicate j ([] : List FileS)).length) (by (repeat rw [Ac (by omega)]); exact Aa _ _ _) (Jo.row (by (repeat rw [Ac (by omega)]); exact Aa _ _ _) (by simp [D.plain])) rfl (by simp [BJ]) (by omega) (by omega) (by simp only [List.mem_cons, List.not_mem_nil, or_false, not_false_eq_true]; try omega) ?_
  refine WK ?_; try with_reducible exact trivial
  refine ⟨(j + 1, n2 + 1, n2 + 2), ⟨by dsimp only; omega, by dsimp only; omega, by dsimp only; omega⟩, by dsimp only; omega, (Ent.only [t, n2 + 1] _ _ _).trans ?_⟩
  refine WKR ?_; try with_reducible exact trivial
  refine (Ent.of_rt (Ws (fs := []) (by omega))).trans ?_
  rw [← List.replicate_succ']
  exact (Ent.of (by with_unfolding_all rfl) rfl)
 ·have hj : j = n := by omega
  subst hj
  refine WK ?_; try with_reducible exact trivial
  exact C9 ⟨q, q2, q3, rfl, rfl⟩
end Go.Proofs.YtgpkbldlkadnjaaGreat
end
section
namespace Go.Proofs.YtgpkbldlkadnjaaGreat
open Go Go.Sl
theorem AgS {l : List (List FileS)} {n : Nat} (h : Like l (List.replicate n [])) : l = List.replicate n [] := by
 have hl : l.length = n := by rw [h.1, List.length_replicate]
 refine List.ext_getElem (by rw [hl, List.length_replicate]) fun i h1 h2 => ?_
 rw [List.getElem_replicate]
 exact (h.2 i [] l[i] (by rw [List.getElem?_replicate, if_pos (by omega)]) (List.getElem?_eq_getElem h1)).eq_nil
theorem WG {fs : List FileS} {f : FileS} (h : fs.Perm [f]) : fs = [f] := List.perm_singleton.1 h
theorem Abw {l l' : List (List FileS)} (h : Like l' l) (h1 : ∀ fs ∈ l, fs.length ≤ 1) : l' = l := by
 refine List.ext_getElem h.1 fun i h2 h3 => ?_
 have hp := h.2 i l[i] l'[i] (List.getElem?_eq_getElem h3) (List.getElem?_eq_getElem h2)
 have := h1 _ (List.getElem_mem h3)
 generalize l[i] = fs at *
 match fs, this with
 | [], _ => exact hp.eq_nil
 | [f], _ => exact WG hp
 | _ :: _ :: _, h => simp at h
theorem Lt : Fh tN = true := by decide
theorem SQ {n : Bs} (h : D7 n) : Fh (bN n) = true := by
 obtain ⟨h1, h2⟩ := h
 unfold Fh bN
 simp only [List.length_cons, Bool.and_eq_true, decide_eq_true_eq]
 omega
theorem Aiq {n : Bs} (h : D7 n) : Fh (qN n) = true := by
 obtain ⟨h1, h2⟩ := h
 unfold Fh qN
 simp only [List.length_cons, Bool.and_eq_true, decide_eq_true_eq]
 omega
theorem N7 (n b : Bs) (k : Nat) : Cf [(n, b, k)] n = some 0 := by
 unfold Cf
 simp [List.findIdx?_cons]
theorem KP {n m : Bs} (h : n ≠ m) (b : Bs) (k : Nat) : Cf [(n, b, k)] m = none := by
 unfold Cf
 simp [List.findIdx?_cons, h]
theorem MZ (n b : Bs) (k : Nat) : DW [(n, b, k)] n = some b := by unfold DW; rw [N7]; rfl
theorem Pv {n m : Bs} (h : n ≠ m) (b : Bs) (k : Nat) : DW [(n, b, k)] m = none := by unfold DW; rw [KP h]; rfl
theorem Agw (n : Bs) : DW [] n = none := rfl
theorem XA (n m : Bs) : bN n ≠ qN m := fun h => by simp [bN, qN] at h
theorem b_inj {n m : Bs} (h : bN n = bN m) : n = m := by simpa [bN] using h
theorem Ahz (n : Bs) (h : D7 n) : bN n ≠ tN := fun e => by simp [bN, tN] at e
theorem VV (n b : Bs) (k : Nat) : Ff [(n, b, k)] = b.length := by simp [Ff]
theorem AaH {most : Nat} {n w : Bs} (hn : D7 n) (hw : w.length ≤ most) : wrE [] most (bN n) w = 0 ∧ wrF [] most (bN n) w = [(bN n, w, w.length)] := by
 have e0 : NL [] most tN w = 0 := by unfold NL; rw [Lt, if_neg (by decide), if_neg (by simp [Ff]; omega)]
 have e1 : KX [] most tN w = [(tN, w, 0)] := by unfold KX; rw [Lt, if_neg (by decide), if_neg (by simp [Ff]; omega)]; rfl
 have e2 : JM [(tN, w, 0)] tN = [(tN, w, w.length)] := by unfold JM; rw [N7]; rfl
 have hnn : ¬ (Fh tN = false ∨ Fh (bN n) = false) := by rw [Lt, SQ hn]; decide
 have e3 : TT [(tN, w, w.length)] tN (bN n) = 0 := by unfold TT Ko; rw [if_neg hnn, N7]
 have e4 : J9 [(tN, w, w.length)] tN (bN n) = [(bN n, w, w.length)] := by unfold J9; rw [if_neg hnn, N7]; rfl
 unfold wrE wrF
 rw [e0, if_pos rfl, if_pos rfl, e1, e2]
 exact ⟨e3, e4⟩
def Gq (n : Bs) (ws : LL) : List (List FileS) := ws.map fun w => [(bN n, w, w.length)]
theorem Ob (n : Bs) (ws : LL) : (Gq n ws).length = ws.length := by simp [Gq]
theorem UQ {most : Nat} {n : Bs} (hn : D7 n) : ∀ (ws : LL), (∀ w ∈ ws, w.length ≤ most) → KO most (bN n) (List.replicate ws.length []) ws = (Gq n ws, 0, 0)
 | [], _ => rfl
 | w :: ws, h => by
  have ih := UQ hn ws fun x hx => h x (List.mem_cons_of_mem _ hx)
  obtain ⟨h1, h2⟩ := AaH hn (h w List.mem_cons_self)
  unfold KO at ih ⊢
  rw [List.length_cons, List.replicate_succ, Ic]
  dsimp only
  rw [if_pos h1, ih, h2]
  rfl
theorem Ew {k f : Nat} (hs : CO k f) (v : Bs) : (AZ k f v).length = k + 2 * f := by unfold AZ; rw [List.length_mapIdx, (BP hs v).2.2]
theorem EC {k f : Nat} (hs : CO k f) (v : Bs) {j : Nat} (hj : j < k + 2 * f) : (gt (encode k f v) j).length = BK k v.length ∧ gt (encode k f v) j ≠ [] := by
 have hel := (BP hs v).2.2
 have hsm := (BP hs v).1.3 (gt (encode k f v) j) (by rw [Ia (by omega)]; exact List.getElem_mem _)
 rw [(BP hs v).2.1] at hsm
 refine ⟨hsm, fun e => ?_⟩
 have := Oo v.length hs.k
 rw [e] at hsm
 simp at hsm
 omega
theorem PI {k f : Nat} (hs : CO k f) (v : Bs) : ∀ w ∈ AZ k f v, w.length = BK k v.length + 20 := fun w hw => by
 obtain ⟨j, hj, rfl⟩ := List.mem_iff_getElem.1 hw
 rw [Ew hs] at hj
 have e := Gl (k := k) (f := f) (v := v) (j := j) (by rw [(BP hs v).2.2]; exact hj)
 rw [List.getElem?_eq_getElem (by rw [Ew hs]; exact hj)] at e
 rw [Option.some.inj e, Ha, (EC hs v hj).1]
theorem Afc {k f most : Nat} (hs : CO k f) {n v : Bs} (hn : D7 n) (hv : v.length ≤ 512) (hm : BK k v.length + 20 ≤ most) : WC k f most n v (List.replicate (k + 2 * f) []) = (Gq n (AZ k f v), 0) := by
 have h := UQ (most := most) hn (AZ k f v) fun w hw => by rw [PI hs v w hw]; exact hm
 rw [Ew hs] at h
 rw [WC, if_pos hn, if_pos hv, h]
theorem Oa {k f : Nat} (hs : CO k f) (n v : Bs) {j : Nat} (hj : j < k + 2 * f) : (Gq n (AZ k f v))[j]? = some [(bN n, Bi j (gt (encode k f v) j), BK k v.length + 20)] := by
 have e := Gl (k := k) (f := f) (v := v) (j := j) (by rw [(BP hs v).2.2]; exact hj)
 unfold Gq
 rw [List.getElem?_map, e, Option.map_some, Ha, (EC hs v hj).1]
theorem XB {n : Bs} {ws : LL} {fs : List FileS} (h : fs ∈ Gq n ws) : ∃ w ∈ ws, fs = [(bN n, w, w.length)] := by
 obtain ⟨w, hw, rfl⟩ := List.mem_map.1 h
 exact ⟨w, hw, rfl⟩
theorem ok1 {n w : Bs} {most sy : Nat} (hn : D7 n) (hw : w.length ≤ most) (hm : most ≤ 65536) (hs : sy ≤ w.length) : DOk [(bN n, w, sy)] most 1 := by
 have hl : (bN n).length ≤ 18 := by simp [bN]; exact hn.2
 refine ⟨fun f hf => ?_, fun f hf => ?_, by rw [VV]; exact hw, by simp [EF], Nat.le_refl _, fun f hf => ?_⟩
 ·rw [List.mem_singleton.1 hf]; exact ⟨by dsimp only; omega, by dsimp only; omega⟩
 ·rw [List.mem_singleton.1 hf]; exact hs
 ·rw [List.mem_singleton.1 hf]; dsimp only; omega
theorem ok0 (most : Nat) : DOk [] most 0 := ⟨fun f hf => by simp at hf, fun f hf => by simp at hf, Nat.zero_le _, List.nodup_nil, Nat.le_refl _, fun f hf => by simp at hf⟩
theorem Aa7 {k f : Nat} (hs : CO k f) {n v : Bs} (hv : v.length ≤ 512) (aw : List Int) {j : Nat} (hj : j < k + 2 * f) (sy : Nat) : sh1 n aw j [(bN n, Bi j (gt (encode k f v) j), sy)] = if (j : Int) ∈ aw then [] else gt (encode k f v) j := by
 have hn7 := hs.n
 have := DJ v.length hs.k
 unfold sh1
 rw [MZ]
 dsimp only
 rw [NV (by omega) _ (by rw [(EC hs v hj).1]; omega)]
theorem Ado {k f : Nat} (hs : CO k f) {n v : Bs} (hn : D7 n) (hv : v.length ≤ 512) {aw : List Int} {l : List (List FileS)} (hl : l.length = k + 2 * f) (hany : UA n l = true) (h : ∀ (j : Nat) (fs : List FileS), l[j]? = some fs → sh1 n aw j fs = [] ∨ sh1 n aw j fs = gt (encode k f v) j) (hc : k ≤ (L6 (EG n aw l)).length) : LC k f n aw l = (v, 0) := by
 rw [LC, if_pos hn, if_pos hany]
 refine AfE hs hv (by rw [EP]; exact hl) (fun i hi hne => ?_) (by simp only [BA, List.length_map]; exact hc)
 rw [EP] at hi
 have e := GX n aw (List.getElem?_eq_getElem hi)
 have e2 : (EG n aw l).getD i [] = sh1 n aw i l[i] := by rw [List.getD_eq_getElem?_getD, e]; rfl
 rw [e2] at hne ⊢
 rcases h i l[i] (List.getElem?_eq_getElem hi) with h1 | h1
 ·exact absurd h1 hne
 ·rw [h1]; rfl
theorem QR {l : LL} {p : Nat → Bool} (h : ∀ i, i < l.length → (decide (0 < (l.getD i []).length)) = p i) : (L6 l).length = ((List.range l.length).filter p).length := by
 unfold L6
 rw [List.filter_congr fun i hi => h i (List.mem_range.1 hi)]
theorem AdQ {k f : Nat} (hs : CO k f) {n v : Bs} (hv : v.length ≤ 512) (aw : List Int) : (L6 (EG n aw (Gq n (AZ k f v)))).length = ((List.range (k + 2 * f)).filter fun i : Nat => !decide ((i : Int) ∈ aw)).length := by
 have hl : (EG n aw (Gq n (AZ k f v))).length = k + 2 * f := by rw [EP, Ob, Ew hs]
 rw [QR (p := fun i : Nat => !decide ((i : Int) ∈ aw)), hl]
 intro i hi
 rw [hl] at hi
 have e := GX n aw (Oa hs n v hi)
 rw [List.getD_eq_getElem?_getD, e, Option.getD_some, Aa7 hs hv aw hi]
 by_cases h : (i : Int) ∈ aw
 ·rw [if_pos h, decide_eq_true h]; rfl
 ·rw [if_neg h, decide_eq_false h]
  have := (EC hs v hi).2
  simp [List.length_pos_iff, this]
theorem AhB {k f : Nat} (hs : CO k f) (n v : Bs) : UA n (Gq n (AZ k f v)) = true := by
 have hk := hs.k
 unfold UA
 rw [List.any_eq_true]
 exact ⟨_, List.mem_of_getElem? (Oa hs n v (j := 0) (by omega)), by rw [MZ]; rfl⟩
theorem AbF {k f : Nat} (hs : CO k f) {n v : Bs} (hn : D7 n) (hv : v.length ≤ 512) {aw : List Int} (hc : k ≤ ((List.range (k + 2 * f)).filter fun i : Nat => !decide ((i : Int) ∈ aw)).length) : LC k f n aw (Gq n (AZ k f v)) = (v, 0) := by
 refine Ado hs hn hv (by rw [Ob, Ew hs]) (AhB hs n v) (fun j fs hj => ?_) (by rw [AdQ hs hv]; exact hc)
 have hjl : j < k + 2 * f := by have := (List.getElem?_eq_some_iff.1 hj).1; rwa [Ob, Ew hs] at this
 rw [Oa hs n v hjl] at hj
 cases hj
 rw [Aa7 hs hv aw hjl]
 split
 ·exact .inl rfl
 ·exact .inr rfl
theorem Afb (n : Nat) : ((List.range n).filter fun i : Nat => !decide ((i : Int) ∈ ([] : List Int))).length = n := by
 rw [List.filter_eq_self.2 (by simp), List.length_range]
theorem Afu {k f : Nat} (hs : CO k f) {n v : Bs} (hn : D7 n) (hv : v.length ≤ 512) : LC k f n [] (Gq n (AZ k f v)) = (v, 0) :=
 AbF hs hn hv (by rw [Afb]; omega)
theorem Afs {k f : Nat} {n m : Bs} (hm : D7 m) (h : n ≠ m) (ws : LL) (aw : List Int) : LC k f m aw (Gq n ws) = ([], 5) := by
 have ha : UA m (Gq n ws) = false := by
  unfold UA
  rw [List.any_eq_false]
  intro fs hfs
  obtain ⟨w, _, rfl⟩ := XB hfs
  rw [Pv (fun e => h (b_inj e))]
  simp
 rw [LC, if_pos hm, if_neg (by rw [ha]; decide)]
theorem Zu (n b : Bs) (k : Nat) : Eu [(n, b, k)] = [n] := by simp [Eu, List.mergeSort_singleton]
theorem Ac6 {k f : Nat} (hs : CO k f) {n v : Bs} (hv : v.length ≤ 512) {j : Nat} (hj : j < k + 2 * f) (sy : Nat) : D5 j (Eu [(bN n, Bi j (gt (encode k f v) j), sy)]) [(bN n, Bi j (gt (encode k f v) j), sy)] = ([(bN n, Bi j (gt (encode k f v) j), sy)], []) := by
 have hn7 := hs.n
 have := DJ v.length hs.k
 have hb : NJ j [(bN n, Bi j (gt (encode k f v) j), sy)] (bN n) = none := by
  unfold NJ
  rw [show PW (bN n) = some n from rfl]
  dsimp only
  rw [Sr, MZ, Option.getD_some, NV (by omega) _ (by rw [(EC hs v hj).1]; omega), if_neg (EC hs v hj).2]
 rw [Zu, Hu, hb]
 rfl
theorem Aez {n m : Bs} (h : n ≠ m) (b : Bs) (k : Nat) : Jl [(n, b, k)] m = [(n, b, k)] := by unfold Jl; rw [KP h]
theorem Yy (n w : Bs) (most sy : Nat) : JP [(bN n, w, sy)] most n w = [(bN n, w, sy)] ∧ JQ [(bN n, w, sy)] most n w = (0, 0) := by
 unfold JP JQ
 rw [Aez (XA n n), MZ, if_pos rfl, if_pos rfl]
 exact ⟨rfl, rfl⟩
theorem Wx (most : Nat) (n : Bs) : ∀ ws : LL, IE most n (Gq n ws) ws = (Gq n ws, 0, 0)
 | [] => rfl
 | w :: ws => by
  have ih := Wx most n ws
  obtain ⟨h1, h2⟩ := Yy n w most w.length
  unfold IE at ih ⊢
  rw [Gq, List.map_cons, ← Gq, Ic]
  rw [h1, h2, if_pos rfl, ih]; rfl
theorem Abg {k f most : Nat} (hs : CO k f) {n v : Bs} (hn : D7 n) (hv : v.length ≤ 512) : Pq k f most n (Gq n (AZ k f v)) = (Gq n (AZ k f v), 0, 0) := by
 rw [Pq, Afu hs hn hv, if_pos rfl, Wx, if_pos rfl]
theorem Rw {k f : Nat} (hs : CO k f) {n v : Bs} (m : Bs) (hv : v.length ≤ 512) : Qb m (Gq n (AZ k f v)) := fun fs hfs b hb => by
 have := DJ v.length hs.k
 obtain ⟨w, hw, rfl⟩ := XB hfs
 by_cases h : bN n = bN m
 ·rw [← h, MZ] at hb
  cases hb
  rw [PI hs v _ hw]; omega
 ·rw [Pv h] at hb; cases hb
theorem AeF {k f most : Nat} (hs : CO k f) {n v : Bs} (hn : D7 n) (hv : v.length ≤ 512) (hm : most ≤ 65536) (hw : BK k v.length + 20 ≤ most) : ∀ fs ∈ Gq n (AZ k f v), DOk fs most 1 := fun fs hfs => by
 obtain ⟨w, hw', rfl⟩ := XB hfs
 exact ok1 hn (by rw [PI hs v w hw']; exact hw) hm (Nat.le_refl _)
theorem AbI (n most : Nat) : ∀ fs ∈ List.replicate n ([] : List FileS), DOk fs most 1 := fun fs hfs => by
 rw [List.eq_of_mem_replicate hfs]
 exact (ok0 most).mono (by omega)
structure CG where
 act : UInt8
 at_ : Nat
 turn : UInt8
deriving Inhabited
def CG.kind (x : CG) : Nat := x.act.toNat % 5
def CG.good (x : CG) : Bool := decide (x.kind = 0) || (decide (x.kind = 1) && decide (x.turn = 0))
def Ht (x : CG) (f w : Bs) : List FileS :=
 if x.kind = 1 then [(f, w.set (x.at_ % w.length) (gt w (x.at_ % w.length) ^^^ x.turn), w.length)]
 else if x.kind = 2 then [(f, w ++ [x.turn], w.length)]
 else if x.kind = 3 then [(f, w.take (x.at_ % w.length), min w.length (x.at_ % w.length))]
 else if x.kind = 4 then []
 else [(f, w, w.length)]
inductive Ie (f : Bs) (i : Nat) (s : Bs) (x : CG) : List FileS → Prop where
 | good (h : x.good = true) (h4 : x.kind ≠ 4) : Ie f i s x [(f, Bi i s, (Bi i s).length)]
 | away (h : x.good = false) (h4 : x.kind = 4) : Ie f i s x []
 | bad (h : x.good = false) (h4 : x.kind ≠ 4) (w : Bs) (sy : Nat) (hg : Ip i w = []) (hl : w.length ≤ (Bi i s).length + 1) (hs : sy ≤ w.length) : Ie f i s x [(f, w, sy)]
theorem xor_ne {a b : UInt8} (h : b ≠ 0) : a ≠ a ^^^ b := fun e => h (by
 have h1 : a ^^^ a = a ^^^ (a ^^^ b) := by rw [← e]
 rw [← UInt8.xor_assoc, UInt8.xor_self, UInt8.zero_xor] at h1
 exact h1.symm)
theorem Af6 (f : Bs) {i : Nat} (hi : i < 4294967296) (s : Bs) (hs : s.length ≤ 60000) (x : CG) : Ie f i s x (Ht x f (Bi i s)) := by
 have hwl := Ha i s
 have hk5 : x.kind < 5 := Nat.mod_lt _ (by decide)
 generalize hw : Bi i s = w at *
 have hm : x.at_ % w.length < w.length := Nat.mod_lt _ (by omega)
 unfold Ht
 rcases (by omega : x.kind = 0 ∨ x.kind = 1 ∨ x.kind = 2 ∨ x.kind = 3 ∨ x.kind = 4) with h | h | h | h | h
 ·rw [if_neg (by omega), if_neg (by omega), if_neg (by omega), if_neg (by omega), ← hw]
  exact .good (by simp [CG.good, h]) (by omega)
 ·rw [if_pos h]
  by_cases ht : x.turn = 0
  ·have e : w.set (x.at_ % w.length) (gt w (x.at_ % w.length) ^^^ x.turn) = w := by
    rw [ht, UInt8.xor_zero]
    exact Gm (by rw [Ia hm]; exact List.getElem?_eq_getElem hm)
   rw [e, ← hw]
   exact .good (by simp [CG.good, h, ht]) (by omega)
  ·refine .bad (by simp [CG.good, h, ht]) (by omega) _ _ ?_ (by rw [List.length_set, hw]; omega) (by rw [List.length_set]; exact Nat.le_refl _)
   subst hw
   refine AbB i s hs hm ?_
   rw [Ia hm]
   exact xor_ne ht
 ·rw [if_neg (by omega), if_pos h]
  refine .bad (by simp [CG.good, h]) (by omega) _ _ ?_ (by rw [List.length_append, List.length_singleton, hw]; omega) (by rw [List.length_append]; omega)
  subst hw
  exact Afo hi s hs _
 ·rw [if_neg (by omega), if_neg (by omega), if_pos h]
  refine .bad (by simp [CG.good, h]) (by omega) _ _ ?_ (by rw [List.length_take, hw]; omega) (by rw [List.length_take]; omega)
  subst hw
  exact ZE i s hs hm
 ·rw [if_neg (by omega), if_neg (by omega), if_neg (by omega), if_pos h]
  exact .away (by simp [CG.good, h]) h
section
variable {n s : Bs} {i : Nat} {x : CG} {fs : List FileS}
theorem Ie.len (h : Ie (bN n) i s x fs) : fs.length ≤ 1 := by cases h <;> simp
theorem Ie.read (h : Ie (bN n) i s x fs) : (DW fs (bN n)).isSome = decide (x.kind ≠ 4) := by
 cases h with
 | good h h4 => rw [MZ, decide_eq_true h4]; rfl
 | away h h4 => rw [Agw, decide_eq_false (by simp [h4])]; rfl
 | bad h h4 w sy hg hl hs => rw [MZ, decide_eq_true h4]; rfl
theorem Ie.short (h : Ie (bN n) i s x fs) (hs : s.length ≤ 900) {m b : Bs} (hb : DW fs (bN m) = some b) : b.length ≤ 1000 := by
 have hl := Ha i s
 by_cases e : bN n = bN m
 ·rw [← e] at hb
  cases h with
  | good h h4 => rw [MZ] at hb; cases hb; omega
  | away h h4 => rw [Agw] at hb; cases hb
  | bad h h4 w sy hg hl hs => rw [MZ] at hb; cases hb; omega
 ·cases h with
  | good h h4 => rw [Pv e] at hb; cases hb
  | away h h4 => rw [Agw] at hb; cases hb
  | bad h h4 w sy hg hl hs => rw [Pv e] at hb; cases hb
theorem Ie.ok (h : Ie (bN n) i s x fs) (hn : D7 n) {most : Nat} (hm : s.length + 21 ≤ most) (hm2 : most ≤ 65536) : DOk fs most 1 := by
 have hl := Ha i s
 cases h with
 | good h h4 => exact ok1 hn (by omega) hm2 (Nat.le_refl _)
 | away h h4 => exact (ok0 most).mono (by omega)
 | bad h h4 w sy hg hl2 hs => exact ok1 hn (by omega) hm2 hs
theorem Ie.sh (h : Ie (bN n) i s x fs) (hi : i < 4294967296) (hs : s.length ≤ 60000) (aw : List Int) : sh1 n aw i fs = if x.good = true ∧ (i : Int) ∉ aw then s else [] := by
 cases h with
 | good h h4 =>
  unfold sh1
  rw [MZ]
  dsimp only
  rw [NV hi s hs]
  by_cases ha : (i : Int) ∈ aw
  ·rw [if_pos ha, if_neg (fun k => k.2 ha)]
  ·rw [if_neg ha, if_pos ⟨h, ha⟩]
 | away h h4 => rw [if_neg (by rw [h]; simp)]; rfl
 | bad h h4 w sy hg hl hs =>
  unfold sh1
  rw [MZ, if_neg (by rw [h]; simp)]
  dsimp only
  split
  ·rfl
  ·exact hg
def Agx (n : Bs) (fs : List FileS) : List FileS := match fs with
 | [(_, w, sy)] => [(qN n, w, sy)]
 | _ => []
theorem ren1 {a b w : Bs} {sy : Nat} (ha : Fh a = true) (hb : Fh b = true) : J9 [(a, w, sy)] a b = [(b, w, sy)] := by
 unfold J9
 rw [if_neg (by rw [ha, hb]; decide), N7]
 rfl
theorem cut_q (n : Bs) : PW (qN n) = none := rfl
theorem Ie.scrub (h : Ie (bN n) i s x fs) (hn : D7 n) (hi : i < 4294967296) (hs : s.length ≤ 60000) (h0 : s ≠ []) :
  D5 i (Eu fs) fs = if x.good = false ∧ x.kind ≠ 4 then (Agx n fs, [n]) else (fs, []) := by
 cases h with
 | good h h4 =>
  have hb : NJ i [(bN n, Bi i s, (Bi i s).length)] (bN n) = none := by
   unfold NJ
   rw [show PW (bN n) = some n from rfl]
   dsimp only
   rw [Sr, MZ, Option.getD_some, NV hi s hs, if_neg h0]
  rw [Zu, Hu, hb, if_neg (by rw [h]; simp)]
  rfl
 | away h h4 =>
  rw [if_neg (fun k => k.2 h4)]
  rw [show Eu [] = [] by simp [Eu]]
  rfl
 | bad h h4 w sy hg hl hs =>
  have hb : NJ i [(bN n, w, sy)] (bN n) = some n := by
   unfold NJ
   rw [show PW (bN n) = some n from rfl]
   dsimp only
   rw [Sr, MZ, Option.getD_some, if_pos hg]
  rw [Zu, Hu, hb, if_pos ⟨h, h4⟩]
  dsimp only
  rw [ren1 (SQ hn) (Aiq hn)]
  rfl
theorem Ie.again (h : Ie (bN n) i s x fs) (hn : D7 n) (hi : i < 4294967296) (hs : s.length ≤ 60000) (h0 : s ≠ []) :
  D5 i (Eu (D5 i (Eu fs) fs).1) (D5 i (Eu fs) fs).1 = ((D5 i (Eu fs) fs).1, []) := by
 have h1 := h.scrub hn hi hs h0
 rw [h1]
 cases h with
 | good h h4 => rw [if_neg (by rw [h]; simp)] at h1 ⊢; exact h1
 | away h h4 => rw [if_neg (fun k => k.2 h4)] at h1 ⊢; exact h1
 | bad h h4 w sy hg hl hs =>
  rw [if_pos ⟨h, h4⟩]
  dsimp only [Agx]
  have hb : NJ i [(qN n, w, sy)] (qN n) = none := by unfold NJ; rw [cut_q]
  rw [Zu, Hu, hb]
  rfl
theorem Ie.mend (h : Ie (bN n) i s x fs) (hn : D7 n) (hi : i < 4294967296) (hs : s.length ≤ 900) (h0 : s ≠ []) {fs' : List FileS} (h' : fs' = fs ∨ fs' = (D5 i (Eu fs) fs).1) {most : Nat} (hm : 6000 ≤ most) :
  JP fs' most n (Bi i s) = [(bN n, Bi i s, (Bi i s).length)] ∧ JQ fs' most n (Bi i s) = (if x.good then 0 else 1, 0) := by
 have hl := Ha i s
 have fresh : ∀ fs2 : List FileS, DW (Jl fs2 (qN n)) (bN n) = none → Jl fs2 (qN n) = [] → JP fs2 most n (Bi i s) = [(bN n, Bi i s, (Bi i s).length)] ∧ JQ fs2 most n (Bi i s) = (1, 0) := fun fs2 h1 h2 => by
  obtain ⟨w1, w2⟩ := AaH (most := most) (n := n) (w := Bi i s) hn (by omega)
  unfold JP JQ
  rw [h1, h2, if_neg (by simp), if_neg (by simp), w1, w2, if_pos rfl]
  exact ⟨rfl, rfl⟩
 rw [h.scrub hn hi (by omega) h0] at h'
 cases h with
 | good h h4 =>
  rw [if_neg (by rw [h]; simp)] at h'
  have e : fs' = [(bN n, Bi i s, (Bi i s).length)] := by rcases h' with e | e <;> exact e
  rw [e, h]
  exact Yy _ _ _ _
 | away h h4 =>
  rw [if_neg (fun k => k.2 h4)] at h'
  have e : fs' = [] := by rcases h' with e | e <;> exact e
  rw [e, h]
  exact fresh [] rfl rfl
 | bad h h4 w sy hg hl2 hs2 =>
  rw [if_pos ⟨h, h4⟩] at h'
  rw [h]
  rcases h' with e | e
  ·rw [e]
   have hne : w ≠ Bi i s := fun e => by rw [e, NV hi s (by omega)] at hg; exact h0 hg
   have d1 : Jl [(bN n, w, sy)] (qN n) = [(bN n, w, sy)] := Aez (XA n n) w sy
   have a1 : NL [(bN n, w, sy)] most tN (Bi i s) = 0 := by unfold NL; rw [Lt, if_neg (by decide), if_neg (by rw [VV]; omega)]
   have ft : Cf [(bN n, w, sy)] tN = none := KP (Ahz n hn) w sy
   have a2 : KX [(bN n, w, sy)] most tN (Bi i s) = [(bN n, w, sy), (tN, Bi i s, 0)] := by unfold KX; rw [Lt, if_neg (by decide), if_neg (by rw [VV]; omega), ft]; rfl
   have f2 : ∀ k, Cf [(bN n, w, sy), (tN, Bi i s, k)] tN = some 1 := fun k => by
    unfold Cf
    simp [List.findIdx?_cons, Ahz n hn]
   have a3 : JM [(bN n, w, sy), (tN, Bi i s, 0)] tN = [(bN n, w, sy), (tN, Bi i s, (Bi i s).length)] := by unfold JM; rw [f2]; rfl
   have hnn : ¬ (Fh tN = false ∨ Fh (bN n) = false) := by rw [Lt, SQ hn]; decide
   have a4 : TT [(bN n, w, sy), (tN, Bi i s, (Bi i s).length)] tN (bN n) = 0 := by unfold TT Ko; rw [if_neg hnn, f2]
   have a5 : J9 [(bN n, w, sy), (tN, Bi i s, (Bi i s).length)] tN (bN n) = [(bN n, Bi i s, (Bi i s).length)] := by
    unfold J9
    rw [if_neg hnn, f2]
    dsimp only
    rw [show [(bN n, w, sy), (tN, Bi i s, (Bi i s).length)].eraseIdx 1 = [(bN n, w, sy)] from rfl, N7]
    rfl
   unfold JP JQ
   rw [d1, MZ, if_neg (by simpa using hne), if_neg (by simpa using hne)]
   unfold wrF wrE
   rw [a1, if_pos rfl, if_pos rfl, a2, a3, a4, a5, if_pos rfl]
   exact ⟨rfl, rfl⟩
  ·rw [e]
   dsimp only [Agx]
   have d1 : Jl [(qN n, w, sy)] (qN n) = [] := by unfold Jl; rw [N7]; rfl
   exact fresh _ (by rw [d1]; rfl) d1
end
end Go.Proofs.YtgpkbldlkadnjaaGreat
end
section
set_option maxHeartbeats 3000000
attribute [local irreducible] Go.Sl.Chk Go.Sl.Br Go.Sl.Or2 Go.Sl.Ld Go.Sl.Ldn Go.Sl.LdB Go.Sl.Stn Go.Sl.New Go.Sl.Run Go.Sl.Ec Go.Sl.D9 Go.Sl.Call Go.Sl.Cc Go.Sl.Ed Go.Sl.Alt Go.Sl.Om Go.Sl.xpk Go.Sl.EX Go.Sl.EY Go.Sl.DLd Go.Sl.ES Go.Sl.DBs Go.Sl.Bo Go.Sl.Et Go.Sl.Es Go.Sl.Dk Go.Sl.DGC Go.Sl.Dq Go.Sl.Fj Go.Sl.D8 Go.Sl.Ent Go.Sl.Bg Go.Sl.dv Go.Sl.ev Go.Sl.Am
namespace Go.Proofs.YtgpkbldlkadnjaaGreat
open Go Go.Sl Go.RowKit


end Go.Proofs.YtgpkbldlkadnjaaGreat
end
section
namespace Go.Proofs.YtgpkbldlkadnjaaGreat
open Go Go.Sl
-- 24 shardlog/shardlogref17.Same; Ar [(0, a), (1, b), (2, a), (3, b), (5, i)]
end Go.Proofs.YtgpkbldlkadnjaaGreat
end
section
set_option maxHeartbeats 3000000
attribute [local irreducible] Go.Sl.Chk Go.Sl.Br Go.Sl.Or2 Go.Sl.Ld Go.Sl.Ldn Go.Sl.LdB Go.Sl.Stn Go.Sl.New Go.Sl.Run Go.Sl.Ec Go.Sl.D9 Go.Sl.Call Go.Sl.Cc Go.Sl.Ed Go.Sl.Alt Go.Sl.Om Go.Sl.xpk Go.Sl.EX Go.Sl.EY Go.Sl.DLd Go.Sl.ES Go.Sl.DBs Go.Sl.Bo Go.Sl.Et Go.Sl.Es Go.Sl.Dk Go.Sl.DGC Go.Sl.Dq Go.Sl.Fj Go.Sl.D8 Go.Sl.Ent Go.Sl.Bg Go.Sl.dv Go.Sl.ev Go.Sl.Am
namespace Go.Proofs.YtgpkbldlkadnjaaGreat
open Go Go.Sl

end Go.Proofs.YtgpkbldlkadnjaaGreat
end
section
set_option maxHeartbeats 3000000
attribute [local irreducible] Go.Sl.Chk Go.Sl.Br Go.Sl.Or2 Go.Sl.Ld Go.Sl.Ldn Go.Sl.LdB Go.Sl.Stn Go.Sl.New Go.Sl.Run Go.Sl.Ec Go.Sl.D9 Go.Sl.Call Go.Sl.Cc Go.Sl.Ed Go.Sl.Alt Go.Sl.Om Go.Sl.xpk Go.Sl.EX Go.Sl.EY Go.Sl.DLd Go.Sl.ES Go.Sl.DBs Go.Sl.Bo Go.Sl.Et Go.Sl.Es Go.Sl.Dk Go.Sl.DGC Go.Sl.Dq Go.Sl.Fj Go.Sl.D8 Go.Sl.Ent Go.Sl.Bg Go.Sl.dv Go.Sl.ev Go.Sl.Am
namespace Go.Proofs.YtgpkbldlkadnjaaGreat
open Go Go.Sl Go.RowKit
instance : DecidableEq VoteS := fun a b => by
 cases a; cases b
 exact decidable_of_iff _ (VoteS.mk.injEq ..).to_iff.symm
end Go.Proofs.YtgpkbldlkadnjaaGreat
end
section
set_option maxHeartbeats 2000000
namespace Go.Proofs.YtgpkbldlkadnjaaGreat
open Go Go.Sl
def Ar (vs : List VoteS) : List Int := vs.map fun v => v.slot
def Lh (l : LL) : Bs := l.flatMap EN
def sizeV (vs : List VoteS) : Nat := (vs.map fun v => (voteB v).length + 12).sum
structure LogOk (l : LL) (p : Nat) (vs : List VoteS) : Prop where
 small : ∀ r ∈ l, r.length ≤ 65535
 ok : ∀ r ∈ l, okR (getV r) = true
 say : foldS l 0 [] 0 = (p, vs, (Lh l).length)
 le : p ≤ 2147483647
 right : Right1 vs
 nodup : (Ar vs).Nodup
 top : ∀ v ∈ vs, v.ballot ≤ (p : Int)
 size : sizeV vs ≤ (Lh l).length

end Go.Proofs.YtgpkbldlkadnjaaGreat
end
section
set_option maxHeartbeats 3000000
attribute [local irreducible] Go.Sl.Chk Go.Sl.Br Go.Sl.Or2 Go.Sl.Ld Go.Sl.Ldn Go.Sl.LdB Go.Sl.Stn Go.Sl.New Go.Sl.Run Go.Sl.Ec Go.Sl.D9 Go.Sl.Call Go.Sl.Cc Go.Sl.Ed Go.Sl.Alt Go.Sl.Om Go.Sl.xpk Go.Sl.EX Go.Sl.EY Go.Sl.DLd Go.Sl.ES Go.Sl.DBs Go.Sl.Bo Go.Sl.Et Go.Sl.Es Go.Sl.Dk Go.Sl.DGC Go.Sl.Dq Go.Sl.Fj Go.Sl.D8 Go.Sl.Ent Go.Sl.Bg Go.Sl.dv Go.Sl.ev Go.Sl.Am
namespace Go.Proofs.YtgpkbldlkadnjaaGreat
open Go Go.Sl Go.RowKit

end Go.Proofs.YtgpkbldlkadnjaaGreat
end
section
namespace Go.Proofs.YtgpkbldlkadnjaaGreat
open Go Go.Sl
-- 55 shardlog/shardlogref06.Put; Ar [(0, rec), (1, rec), (3, n), (4, out)]
noncomputable def m_ref06_Put : MF := ⟨25, [.t 2],
 .seq (
 .ops [
 .p 2 .mv [(.const (.slice none 0 0))]]) (
 .seq (
 .ops [
 .p 5 .mv [(.tmp 0)],
 .p 6 .len [(.tmp 5)],
 .call (some 7) Ho [(.tmp 6)],
 .p 3 .mv [(.tmp 7)]]) (
 .seq (
 .ops [
 .bsl 8 tU8 0 [] [] [],
 .p 9 .mv [(.tmp 3)],
 .app 10 #[Au, Au] Au (.tmp 8) (.tmp 9),
 .p 11 .mv [(.tmp 3)],
 .call (some 12) Nl [(.tmp 11)],
 .p 13 (.conv .i64) [(.tmp 12)],
 .call (some 14) Ho [(.tmp 13)],
 .app 15 #[Au, Au] Au (.tmp 10) (.tmp 14),
 .p 4 .mv [(.tmp 15)]]) (
 .seq (
 .ops [
 .p 16 .mv [(.tmp 4)],
 .p 17 .mv [(.tmp 0)],
 .call (some 18) Nl [(.tmp 17)],
 .p 19 (.conv .i64) [(.tmp 18)],
 .call (some 20) Ho [(.tmp 19)],
 .app 21 #[Au, Au] Au (.tmp 16) (.tmp 20),
 .p 4 .mv [(.tmp 21)]]) (
 .seq (
 .ops [
 .p 22 .mv [(.tmp 4)],
 .p 23 .mv [(.tmp 0)],
 .app 24 #[Au, Au] Au (.tmp 22) (.tmp 23),
 .p 2 .mv [(.tmp 24)]]) (
 .ret)))))⟩

theorem Ack : trF Tryz.prog PK = some m_ref06_Put := by kernel_rfl
-- 7 shardlog/shardloglaw25.ScrubNever; Ar [(0, a), (1, b), (2, v), (3, l), (4, away), (5, a), (6, b), (7, v), (8, l), (9, away), (11, s), (12, d), (13, good), (14, t), (15, e), (16, n), (17, files), (18, i), (19, w), (20, f)]
-- 8 shardlog/shardloglaw25.ScrubQuarantine; Ar [(0, a), (1, b), (2, v), (3, l), (4, a), (5, b), (6, v), (7, l), (9, s), (10, d), (11, good), (12, t), (13, e), (14, i), (15, bad), (16, names), (17, f), (18, again), (19, g), (20, _), (21, q), (22, _), (23, p), (24, _), (25, f), (26, _), (27, g)]
-- 9 shardlog/shardloglaw25.ScrubApart; Ar [(0, a), (1, b), (2, v), (3, w), (4, l), (5, a), (6, b), (7, v), (8, w), (9, l), (11, s), (12, d), (13, good), (14, t), (15, e), (16, i), (17, files), (18, i), (19, x), (20, f), (21, x), (22, f), (23, n), (24, g)]
noncomputable def m_law25_ScrubApart : MF := ⟨129, [.t 10],
 .seq (
 .ops [
 .box 9 83 (.tmp 4),
 .p 10 .mv [(.const (.bool false))]]) (
 .seq (
 .ops [
 .p 25 .mv [(.tmp 0)],
 .p 26 .mv [(.tmp 1)],
 .call (some 27) KL [(.tmp 25), (.tmp 26)],
 .new 11 Dl [(.int .i64 0), (.int .i64 0)],
 .st 2 true (.tmp 11) (.tmp 27)]) (
 .seq (
 .seq (
 .ops [
 .call (some 28) Ii [],
 .p 29 .not [(.tmp 28)],
 .p 30 .mv [(.tmp 29)],
 .gd 30 false (some 31) (.p 31 .mv [(.tmp 2)]),
 .gd 30 false (some 32) (.p 32 .lens [(.tmp 31)]),
 .gd 30 false (some 33) (.p 33 (.bin .gtr) [(.tmp 32), (.const (.int .i64 512))]),
 .p 34 .pick [(.tmp 30), (.const (.bool true)), (.tmp 33)],
 .p 35 .mv [(.tmp 34)],
 .gd 35 false (some 36) (.p 36 .mv [(.tmp 3)]),
 .gd 35 false (some 37) (.p 37 .lens [(.tmp 36)]),
 .gd 35 false (some 38) (.p 38 (.bin .gtr) [(.tmp 37), (.const (.int .i64 512))]),
 .p 39 .pick [(.tmp 35), (.const (.bool true)), (.tmp 38)]]) (
 .cond (.tmp 39) (
 .seq (
 .ops [
 .call (some 40) Ii [],
 .p 10 .mv [(.tmp 40)]]) (
 .ret)) (
 .skip))) (
 .seq (
 .ops [
 .ldn 42 2 (.tmp 11),
 .p 43 .mv [(.tmp 2)],
 .ldn 44 21 (.tmp 9),
 .call (some 45) JZ [(.tmp 42), (.const (.string ⟨#[98, 108, 111, 98]⟩)), (.tmp 43), (.tmp 44)],
 .p 41 .mv [(.tmp 45)],
 .p 46 (.ext 0) [(.tmp 41)],
 .p 47 (.ext 1) [(.tmp 41)],
 .p 12 .mv [(.tmp 46)],
 .p 13 .mv [(.tmp 47)]]) (
 .seq (
 .ops [
 .ldn 49 2 (.tmp 11),
 .p 50 .mv [(.tmp 12)],
 .call (some 51) KR [(.tmp 49), (.tmp 50)],
 .p 48 .mv [(.tmp 51)],
 .p 52 (.ext 0) [(.tmp 48)],
 .p 53 (.ext 1) [(.tmp 48)],
 .p 14 .mv [(.tmp 52)],
 .p 15 .mv [(.tmp 53)]]) (
 .seq (
 .seq (
 .ops [
 .p 54 .mv [(.tmp 15)],
 .p 55 (.bin .neq) [(.tmp 54), (.const (.int .i64 0))],
 .p 56 .mv [(.tmp 55)],
 .gd 56 false (some 57) (.p 57 .mv [(.tmp 14)]),
 .gd 56 false (some 58) (.p 58 (.isnil .pt false) [(.tmp 57)]),
 .p 59 .pick [(.tmp 56), (.const (.bool true)), (.tmp 58)],
 .p 60 .mv [(.tmp 59)],
 .gd 60 false (some 61) (.p 61 .mv [(.tmp 14)]),
 .gd 60 false (some 62) (.p 62 .mv [(.tmp 3)]),
 .gd 60 false (some 63) (.call (some 63) Iq [(.tmp 61), (.const (.string ⟨#[98, 108]⟩)), (.tmp 62)]),
 .gd 60 false (some 64) (.p 64 (.bin .neq) [(.tmp 63), (.const (.int .i64 0))]),
 .p 65 .pick [(.tmp 60), (.const (.bool true)), (.tmp 64)]]) (
 .cond (.tmp 65) (
 .seq (
 .ops [
 .p 10 .mv [(.const (.bool false))]]) (
 .ret)) (
 .skip))) (
 .seq (
 .seq (
 .ops [
 .p 16 .mv [(.const (.int .i64 0))]]) (
 .block 0 (
 .loop (
 .seq (
 .seq (
 .ops [
 .p 66 .mv [(.tmp 16)],
 .p 67 .mv [(.tmp 13)],
 .p 68 .len [(.tmp 67)],
 .p 69 (.bin .lss) [(.tmp 66), (.tmp 68)]]) (
 .cond (.tmp 69) (
 .skip) (
 .exit 0))) (
 .seq (
 .block 1 (
 .ops [
 .p 72 .mv [(.tmp 14)],
 .p 73 .mv [(.tmp 16)],
 .call (some 74) Gn [(.tmp 72), (.tmp 73)]])) (
 .ops [
 .p 70 .mv [(.tmp 16)],
 .p 71 (.bin .add) [(.tmp 70), (.const (.int .i64 1))],
 .p 16 .mv [(.tmp 71)]])))))) (
 .seq (
 .ops [
 .p 75 .mv [(.tmp 14)],
 .call (some 76) Ef [(.tmp 75), (.const (.string ⟨#[98, 108, 111, 98]⟩))]]) (
 .seq (
 .ops [
 .ldn 77 2 (.tmp 11),
 .p 78 .mv [(.tmp 3)],
 .call (some 79) Jh [(.tmp 77), (.tmp 78)],
 .p 17 .mv [(.tmp 79)]]) (
 .seq (
 .seq (
 .ops [
 .p 18 .mv [(.const (.int .i64 0))]]) (
 .block 2 (
 .loop (
 .seq (
 .seq (
 .ops [
 .p 80 .mv [(.tmp 18)],
 .p 81 .mv [(.tmp 13)],
 .p 82 .len [(.tmp 81)],
 .p 83 (.bin .lss) [(.tmp 80), (.tmp 82)]]) (
 .cond (.tmp 83) (
 .skip) (
 .exit 2))) (
 .seq (
 .block 3 (
 .seq (
 .ops [
 .p 87 .mv [(.tmp 14)],
 .p 88 .mv [(.tmp 18)],
 .call (some 89) Eg [(.tmp 87), (.tmp 88)],
 .call (some 90) Eo [(.tmp 89), (.const (.string ⟨#[98, 46, 98, 108]⟩))],
 .p 86 .mv [(.tmp 90)],
 .p 91 (.ext 0) [(.tmp 86)],
 .p 92 (.ext 1) [(.tmp 86)],
 .p 19 .mv [(.tmp 91)],
 .p 20 .mv [(.tmp 92)]]) (
 .seq (
 .ops [
 .p 93 .mv [(.tmp 20)],
 .p 94 (.bin .neq) [(.tmp 93), (.const (.int .i64 0))],
 .p 95 .mv [(.tmp 94)],
 .gd 95 false (some 96) (.p 96 .mv [(.tmp 19)]),
 .gd 95 false (some 97) (.p 97 .mv [(.tmp 17)]),
 .gd 95 false (some 98) (.p 98 .mv [(.tmp 18)]),
 .gd 95 false (some 99) (.p 99 (.ixs 1) [(.tmp 97), (.tmp 98)]),
 .gd 95 false (some 100) (.ld 100 (.tmp 99)),
 .gd 95 false (some 101) (.call (some 101) LG [(.tmp 96), (.tmp 100)]),
 .gd 95 false (some 102) (.p 102 .not [(.tmp 101)]),
 .p 103 .pick [(.tmp 95), (.const (.bool true)), (.tmp 102)]]) (
 .cond (.tmp 103) (
 .seq (
 .ops [
 .p 10 .mv [(.const (.bool false))]]) (
 .ret)) (
 .skip))))) (
 .ops [
 .p 84 .mv [(.tmp 18)],
 .p 85 (.bin .add) [(.tmp 84), (.const (.int .i64 1))],
 .p 18 .mv [(.tmp 85)]])))))) (
 .seq (
 .ops [
 .p 105 .mv [(.tmp 14)],
 .call (some 106) Gg [(.tmp 105), (.const (.string ⟨#[98, 108]⟩)), (.const (.slice none 0 0))],
 .p 104 .mv [(.tmp 106)],
 .p 107 (.ext 0) [(.tmp 104)],
 .p 108 (.ext 1) [(.tmp 104)],
 .p 21 .mv [(.tmp 107)],
 .p 22 .mv [(.tmp 108)]]) (
 .seq (
 .ops [
 .p 110 .mv [(.tmp 14)],
 .call (some 111) Ef [(.tmp 110), (.const (.string ⟨#[98, 108]⟩))],
 .p 109 .mv [(.tmp 111)],
 .p 112 (.ext 0) [(.tmp 109)],
 .p 113 (.ext 1) [(.tmp 109)],
 .p 23 .mv [(.tmp 112)],
 .p 24 .mv [(.tmp 113)]]) (
 .seq (
 .ops [
 .p 114 .mv [(.tmp 22)],
 .p 115 (.bin .eql) [(.tmp 114), (.const (.int .i64 0))],
 .p 116 .mv [(.tmp 115)],
 .gd 116 true (some 117) (.p 117 .mv [(.tmp 21)]),
 .gd 116 true (some 118) (.p 118 .mv [(.tmp 3)]),
 .gd 116 true (some 119) (.p 119 (.bin .eql) [(.tmp 117), (.tmp 118)]),
 .p 120 .pick [(.tmp 116), (.tmp 119), (.const (.bool false))],
 .p 121 .mv [(.tmp 120)],
 .gd 121 true (some 122) (.p 122 .mv [(.tmp 23)]),
 .gd 121 true (some 123) (.p 123 (.bin .eql) [(.tmp 122), (.const (.int .i64 0))]),
 .p 124 .pick [(.tmp 121), (.tmp 123), (.const (.bool false))],
 .p 125 .mv [(.tmp 124)],
 .gd 125 true (some 126) (.p 126 .mv [(.tmp 24)]),
 .gd 125 true (some 127) (.p 127 (.bin .eql) [(.tmp 126), (.const (.int .i64 0))]),
 .p 128 .pick [(.tmp 125), (.tmp 127), (.const (.bool false))],
 .p 10 .mv [(.tmp 128)]]) (
 .ret)))))))))))))⟩

theorem Rk : trF Tryz.prog Jz = some m_law25_ScrubApart := by kernel_rfl
-- 10 shardlog/shardloglaw25.ScrubRepairs; Ar [(0, a), (1, b), (2, v), (3, l), (4, first), (5, a), (6, b), (7, v), (8, l), (9, first), (11, s), (12, d), (13, good), (14, t), (15, e), (16, i), (17, n), (18, f), (19, files), (20, i), (21, x), (22, g), (23, _), (24, q), (25, m), (26, h)]
noncomputable def m_law25_ScrubRepairs : MF := ⟨145, [.t 10],
 .seq (
 .ops [
 .box 8 83 (.tmp 3),
 .p 10 .mv [(.const (.bool false))]]) (
 .seq (
 .ops [
 .p 27 .mv [(.tmp 0)],
 .p 28 .mv [(.tmp 1)],
 .call (some 29) KL [(.tmp 27), (.tmp 28)],
 .new 11 Dl [(.int .i64 0), (.int .i64 0)],
 .st 2 true (.tmp 11) (.tmp 29)]) (
 .seq (
 .seq (
 .ops [
 .call (some 30) Ii [],
 .p 31 .not [(.tmp 30)],
 .p 32 .mv [(.tmp 31)],
 .gd 32 false (some 33) (.p 33 .mv [(.tmp 2)]),
 .gd 32 false (some 34) (.p 34 .lens [(.tmp 33)]),
 .gd 32 false (some 35) (.p 35 (.bin .gtr) [(.tmp 34), (.const (.int .i64 512))]),
 .p 36 .pick [(.tmp 32), (.const (.bool true)), (.tmp 35)]]) (
 .cond (.tmp 36) (
 .seq (
 .ops [
 .call (some 37) Ii [],
 .p 10 .mv [(.tmp 37)]]) (
 .ret)) (
 .skip))) (
 .seq (
 .ops [
 .ldn 39 2 (.tmp 11),
 .p 40 .mv [(.tmp 2)],
 .ldn 41 21 (.tmp 8),
 .call (some 42) JZ [(.tmp 39), (.const (.string ⟨#[98, 108, 111, 98]⟩)), (.tmp 40), (.tmp 41)],
 .p 38 .mv [(.tmp 42)],
 .p 43 (.ext 0) [(.tmp 38)],
 .p 44 (.ext 1) [(.tmp 38)],
 .p 12 .mv [(.tmp 43)],
 .p 13 .mv [(.tmp 44)]]) (
 .seq (
 .ops [
 .ldn 46 2 (.tmp 11),
 .p 47 .mv [(.tmp 12)],
 .call (some 48) KR [(.tmp 46), (.tmp 47)],
 .p 45 .mv [(.tmp 48)],
 .p 49 (.ext 0) [(.tmp 45)],
 .p 50 (.ext 1) [(.tmp 45)],
 .p 14 .mv [(.tmp 49)],
 .p 15 .mv [(.tmp 50)]]) (
 .seq (
 .seq (
 .ops [
 .p 51 .mv [(.tmp 15)],
 .p 52 (.bin .neq) [(.tmp 51), (.const (.int .i64 0))],
 .p 53 .mv [(.tmp 52)],
 .gd 53 false (some 54) (.p 54 .mv [(.tmp 14)]),
 .gd 53 false (some 55) (.p 55 (.isnil .pt false) [(.tmp 54)]),
 .p 56 .pick [(.tmp 53), (.const (.bool true)), (.tmp 55)]]) (
 .cond (.tmp 56) (
 .seq (
 .ops [
 .p 10 .mv [(.const (.bool false))]]) (
 .ret)) (
 .skip))) (
 .seq (
 .seq (
 .ops [
 .p 16 .mv [(.const (.int .i64 0))]]) (
 .block 0 (
 .loop (
 .seq (
 .seq (
 .ops [
 .p 57 .mv [(.tmp 16)],
 .p 58 .mv [(.tmp 13)],
 .p 59 .len [(.tmp 58)],
 .p 60 (.bin .lss) [(.tmp 57), (.tmp 59)],
 .p 61 .mv [(.tmp 60)],
 .gd 61 true (some 62) (.p 62 .mv [(.tmp 4)]),
 .p 63 .pick [(.tmp 61), (.tmp 62), (.const (.bool false))]]) (
 .cond (.tmp 63) (
 .skip) (
 .exit 0))) (
 .seq (
 .block 1 (
 .ops [
 .p 66 .mv [(.tmp 14)],
 .p 67 .mv [(.tmp 16)],
 .call (some 68) Gn [(.tmp 66), (.tmp 67)]])) (
 .ops [
 .p 64 .mv [(.tmp 16)],
 .p 65 (.bin .add) [(.tmp 64), (.const (.int .i64 1))],
 .p 16 .mv [(.tmp 65)]])))))) (
 .seq (
 .ops [
 .p 70 .mv [(.tmp 14)],
 .call (some 71) Ef [(.tmp 70), (.const (.string ⟨#[98, 108, 111, 98]⟩))],
 .p 69 .mv [(.tmp 71)],
 .p 72 (.ext 0) [(.tmp 69)],
 .p 73 (.ext 1) [(.tmp 69)],
 .p 17 .mv [(.tmp 72)],
 .p 18 .mv [(.tmp 73)]]) (
 .seq (
 .seq (
 .dr (
 .one ⟨.p 74 .mv [(.tmp 13)], []⟩ (
 .one ⟨.p 76 (.fad 0) [(.tmp 11)], []⟩ (
 .one ⟨.ld 77 (.tmp 76), []⟩ (
 .one ⟨.call (some 75) Jk [(.tmp 74)], [.ld 77 (.tmp 76)]⟩ (
 .one ⟨.p 78 (.bin .lss) [(.tmp 75), (.tmp 77)], []⟩ (
 .nil))))))) (
 .cond (.tmp 78) (
 .seq (
 .ops [
 .p 79 .mv [(.tmp 17)],
 .p 80 (.bin .eql) [(.tmp 79), (.const (.int .i64 0))],
 .p 81 .mv [(.tmp 80)],
 .gd 81 true (some 82) (.p 82 .mv [(.tmp 18)]),
 .gd 81 true (some 83) (.p 83 (.bin .neq) [(.tmp 82), (.const (.int .i64 0))]),
 .p 84 .pick [(.tmp 81), (.tmp 83), (.const (.bool false))],
 .p 10 .mv [(.tmp 84)]]) (
 .ret)) (
 .skip))) (
 .seq (
 .seq (
 .ops [
 .p 85 .mv [(.tmp 18)],
 .p 86 (.bin .neq) [(.tmp 85), (.const (.int .i64 0))],
 .p 87 .mv [(.tmp 86)],
 .gd 87 false (some 88) (.p 88 .mv [(.tmp 17)]),
 .gd 87 false (some 89) (.p 89 .mv [(.tmp 13)]),
 .gd 87 false (some 90) (.p 90 .len [(.tmp 89)]),
 .gd 87 false (some 91) (.p 91 .mv [(.tmp 13)]),
 .gd 87 false (some 92) (.call (some 92) Jk [(.tmp 91)]),
 .gd 87 false (some 93) (.p 93 (.bin .sub) [(.tmp 90), (.tmp 92)]),
 .gd 87 false (some 94) (.p 94 (.bin .neq) [(.tmp 88), (.tmp 93)]),
 .p 95 .pick [(.tmp 87), (.const (.bool true)), (.tmp 94)]]) (
 .cond (.tmp 95) (
 .seq (
 .ops [
 .p 10 .mv [(.const (.bool false))]]) (
 .ret)) (
 .skip))) (
 .seq (
 .ops [
 .ldn 96 2 (.tmp 11),
 .p 97 .mv [(.tmp 2)],
 .call (some 98) Jh [(.tmp 96), (.tmp 97)],
 .p 19 .mv [(.tmp 98)]]) (
 .seq (
 .seq (
 .ops [
 .p 20 .mv [(.const (.int .i64 0))]]) (
 .block 2 (
 .loop (
 .seq (
 .seq (
 .ops [
 .p 99 .mv [(.tmp 20)],
 .p 100 .mv [(.tmp 13)],
 .p 101 .len [(.tmp 100)],
 .p 102 (.bin .lss) [(.tmp 99), (.tmp 101)]]) (
 .cond (.tmp 102) (
 .skip) (
 .exit 2))) (
 .seq (
 .block 3 (
 .seq (
 .ops [
 .p 106 .mv [(.tmp 14)],
 .p 107 .mv [(.tmp 20)],
 .call (some 108) Eg [(.tmp 106), (.tmp 107)],
 .call (some 109) JA [(.tmp 108), (.const (.string ⟨#[98, 46, 98, 108, 111, 98]⟩))],
 .p 105 .mv [(.tmp 109)],
 .p 110 (.ext 0) [(.tmp 105)],
 .p 111 (.ext 1) [(.tmp 105)],
 .p 21 .mv [(.tmp 110)],
 .p 22 .mv [(.tmp 111)]]) (
 .seq (
 .ops [
 .p 113 .mv [(.tmp 14)],
 .p 114 .mv [(.tmp 20)],
 .call (some 115) Eg [(.tmp 113), (.tmp 114)],
 .call (some 116) Eo [(.tmp 115), (.const (.string ⟨#[113, 46, 98, 108, 111, 98]⟩))],
 .p 112 .mv [(.tmp 116)],
 .p 117 (.ext 0) [(.tmp 112)],
 .p 118 (.ext 1) [(.tmp 112)],
 .p 23 .mv [(.tmp 117)],
 .p 24 .mv [(.tmp 118)]]) (
 .seq (
 .ops [
 .p 119 .mv [(.tmp 22)],
 .p 120 (.bin .neq) [(.tmp 119), (.const (.int .i64 0))],
 .p 121 .mv [(.tmp 120)],
 .gd 121 false (some 122) (.p 122 .mv [(.tmp 24)]),
 .gd 121 false (some 123) (.p 123 (.bin .neq) [(.tmp 122), (.const (.int .i64 5))]),
 .p 124 .pick [(.tmp 121), (.const (.bool true)), (.tmp 123)],
 .p 125 .mv [(.tmp 124)],
 .gd 125 false (some 126) (.p 126 .mv [(.tmp 21)]),
 .gd 125 false (some 127) (.p 127 .mv [(.tmp 19)]),
 .gd 125 false (some 128) (.p 128 .mv [(.tmp 20)]),
 .gd 125 false (some 129) (.p 129 (.ixs 1) [(.tmp 127), (.tmp 128)]),
 .gd 125 false (some 130) (.ld 130 (.tmp 129)),
 .gd 125 false (some 131) (.call (some 131) LG [(.tmp 126), (.tmp 130)]),
 .gd 125 false (some 132) (.p 132 .not [(.tmp 131)]),
 .p 133 .pick [(.tmp 125), (.const (.bool true)), (.tmp 132)]]) (
 .cond (.tmp 133) (
 .seq (
 .ops [
 .p 10 .mv [(.const (.bool false))]]) (
 .ret)) (
 .skip)))))) (
 .ops [
 .p 103 .mv [(.tmp 20)],
 .p 104 (.bin .add) [(.tmp 103), (.const (.int .i64 1))],
 .p 20 .mv [(.tmp 104)]])))))) (
 .seq (
 .ops [
 .p 135 .mv [(.tmp 14)],
 .call (some 136) Ef [(.tmp 135), (.const (.string ⟨#[98, 108, 111, 98]⟩))],
 .p 134 .mv [(.tmp 136)],
 .p 137 (.ext 0) [(.tmp 134)],
 .p 138 (.ext 1) [(.tmp 134)],
 .p 25 .mv [(.tmp 137)],
 .p 26 .mv [(.tmp 138)]]) (
 .seq (
 .ops [
 .p 139 .mv [(.tmp 25)],
 .p 140 (.bin .eql) [(.tmp 139), (.const (.int .i64 0))],
 .p 141 .mv [(.tmp 140)],
 .gd 141 true (some 142) (.p 142 .mv [(.tmp 26)]),
 .gd 141 true (some 143) (.p 143 (.bin .eql) [(.tmp 142), (.const (.int .i64 0))]),
 .p 144 .pick [(.tmp 141), (.tmp 143), (.const (.bool false))],
 .p 10 .mv [(.tmp 144)]]) (
 .ret))))))))))))))⟩

theorem P8 : trF Tryz.prog IL = some m_law25_ScrubRepairs := by kernel_rfl
-- 37 shardlog/shardlogref25.In; Ar [(0, l), (1, x), (2, l), (3, x), (5, i)]
-- 38 shardlog/shardlogref25.Good; Ar [(0, i), (1, b), (2, i), (3, b), (5, recs), (6, used), (7, s), (8, n)]
-- 45 shardlog/shardlogref25.Files; Ar [(0, s), (1, v), (2, s), (3, v), (5, l), (6, out), (7, i)]
noncomputable def m_ref25_Files : MF := ⟨27, [.t 4],
 .seq (
 .ops [
 .box 2 Dl (.tmp 0),
 .p 4 .mv [(.const (.slice none 0 0))]]) (
 .seq (
 .ops [
 .ldn 8 2 (.tmp 2),
 .p 9 .mv [(.tmp 1)],
 .call (some 10) ML [(.tmp 8), (.tmp 9)],
 .p 5 .mv [(.tmp 10)]]) (
 .seq (
 .ops [
 .p 6 .mv [(.const (.slice none 0 0))]]) (
 .seq (
 .seq (
 .ops [
 .p 7 .mv [(.const (.int .i64 0))]]) (
 .block 0 (
 .loop (
 .seq (
 .seq (
 .ops [
 .p 11 .mv [(.tmp 7)],
 .p 12 .mv [(.tmp 5)],
 .p 13 .len [(.tmp 12)],
 .p 14 (.bin .lss) [(.tmp 11), (.tmp 13)]]) (
 .cond (.tmp 14) (
 .skip) (
 .exit 0))) (
 .seq (
 .block 1 (
 .ops [
 .p 17 .mv [(.tmp 6)],
 .p 18 .mv [(.tmp 7)],
 .p 19 .mv [(.tmp 5)],
 .p 20 .mv [(.tmp 7)],
 .p 21 (.ixs 1) [(.tmp 19), (.tmp 20)],
 .ld 22 (.tmp 21),
 .call (some 23) OI [(.tmp 18), (.tmp 22)],
 .bsl 24 Au 1 [(.slice none 0 0)] [(0, 1)] [(.tmp 23)],
 .app 25 #[Ep, Ep] Ep (.tmp 17) (.tmp 24),
 .p 6 .mv [(.tmp 25)]])) (
 .ops [
 .p 15 .mv [(.tmp 7)],
 .p 16 (.bin .add) [(.tmp 15), (.const (.int .i64 1))],
 .p 7 .mv [(.tmp 16)]])))))) (
 .seq (
 .ops [
 .p 26 .mv [(.tmp 6)],
 .p 4 .mv [(.tmp 26)]]) (
 .ret)))))⟩

theorem X0 : trF Tryz.prog Jh = some m_ref25_Files := by kernel_rfl
-- 48 shardlog/shardloglaw25.spoilt; Ar [(0, s), (1, name), (2, v), (3, l), (4, s), (5, name), (6, v), (7, l), (10, files), (11, out), (12, good), (13, i), (14, d), (15, f), (16, x), (17, n), (18, is)]
noncomputable def m_law25_spoilt : MF := ⟨111, [.t 8, .t 9],
 .seq (
 .ops [
 .box 4 Dl (.tmp 0),
 .box 7 83 (.tmp 3),
 .p 8 .mv [(.const (.slice none 0 0))],
 .p 9 .mv [(.const (.slice none 0 0))]]) (
 .seq (
 .ops [
 .ldn 19 2 (.tmp 4),
 .p 20 .mv [(.tmp 2)],
 .call (some 21) Jh [(.tmp 19), (.tmp 20)],
 .p 10 .mv [(.tmp 21)]]) (
 .seq (
 .ops [
 .p 11 .mv [(.const (.slice none 0 0))]]) (
 .seq (
 .ops [
 .p 12 .mv [(.const (.slice none 0 0))]]) (
 .seq (
 .seq (
 .ops [
 .p 13 .mv [(.const (.int .i64 0))]]) (
 .block 0 (
 .loop (
 .seq (
 .seq (
 .ops [
 .p 22 .mv [(.tmp 13)],
 .p 23 .mv [(.tmp 10)],
 .p 24 .len [(.tmp 23)],
 .p 25 (.bin .lss) [(.tmp 22), (.tmp 24)]]) (
 .cond (.tmp 25) (
 .skip) (
 .exit 0))) (
 .seq (
 .block 1 (
 .seq (
 .ops [
 .call (some 28) MN [(.const (.int .i64 6000))],
 .p 14 .mv [(.tmp 28)]]) (
 .seq (
 .seq (
 .ops [
 .p 29 .mv [(.tmp 14)],
 .p 30 (.isnil .pt false) [(.tmp 29)]]) (
 .cond (.tmp 30) (
 .seq (
 .ops [
 .p 8 .mv [(.const (.slice none 0 0))],
 .p 9 .mv [(.const (.slice none 0 0))]]) (
 .ret)) (
 .skip))) (
 .seq (
 .ops [
 .p 31 .mv [(.tmp 1)],
 .p 32 (.bin .add) [(.const (.string ⟨#[98, 46]⟩)), (.tmp 31)],
 .p 15 .mv [(.tmp 32)]]) (
 .seq (
 .ops [
 .p 33 .mv [(.tmp 14)],
 .p 34 .mv [(.tmp 15)],
 .p 35 .mv [(.tmp 10)],
 .p 36 .mv [(.tmp 13)],
 .p 37 (.ixs 1) [(.tmp 35), (.tmp 36)],
 .ld 38 (.tmp 37),
 .call (some 39) Gz [(.tmp 33), (.tmp 34), (.tmp 38)]]) (
 .seq (
 .ops [
 .p 40 .mv [(.tmp 14)],
 .p 41 .mv [(.tmp 15)],
 .call (some 42) IZ [(.tmp 40), (.tmp 41)]]) (
 .seq (
 .ops [
 .p 43 .mv [(.tmp 13)],
 .p 44 (.ixa 7 3) [(.tmp 7), (.tmp 43)],
 .ldn 45 3 (.tmp 44),
 .new 16 XP [(.int .u8 0), (.int .u16 0), (.int .u8 0)],
 .st 3 true (.tmp 16) (.tmp 45)]) (
 .seq (
 .ops [
 .p 46 .mv [(.tmp 10)],
 .p 47 .mv [(.tmp 13)],
 .p 48 (.ixs 1) [(.tmp 46), (.tmp 47)],
 .ld 49 (.tmp 48),
 .p 50 .len [(.tmp 49)],
 .p 17 .mv [(.tmp 50)]]) (
 .seq (
 .ops [
 .p 51 (.fad 0) [(.tmp 16)],
 .ld 52 (.tmp 51),
 .p 53 (.bin .rem) [(.tmp 52), (.const (.int .u8 5))],
 .p 54 (.bin .eql) [(.tmp 53), (.const (.int .u8 0))],
 .p 18 .mv [(.tmp 54)]]) (
 .seq (
 .seq (
 .ops [
 .p 55 (.fad 0) [(.tmp 16)],
 .ld 56 (.tmp 55),
 .p 57 (.bin .rem) [(.tmp 56), (.const (.int .u8 5))],
 .p 58 (.bin .eql) [(.tmp 57), (.const (.int .u8 1))]]) (
 .cond (.tmp 58) (
 .seq (
 .dr (
 .one ⟨.p 59 .mv [(.tmp 14)], []⟩ (
 .one ⟨.p 60 .mv [(.tmp 15)], []⟩ (
 .one ⟨.p 61 (.fad 1) [(.tmp 16)], []⟩ (
 .one ⟨.ld 62 (.tmp 61), []⟩ (
 .one ⟨.p 63 (.conv .i64) [(.tmp 62)], []⟩ (
 .one ⟨.p 64 .mv [(.tmp 17)], []⟩ (
 .one ⟨.p 65 (.bin .rem) [(.tmp 63), (.tmp 64)], []⟩ (
 .one ⟨.p 66 (.fad 2) [(.tmp 16)], []⟩ (
 .one ⟨.ld 67 (.tmp 66), []⟩ (
 .one ⟨.call (some 68) Ky [(.tmp 59), (.tmp 60), (.tmp 65), (.tmp 67)], [.ld 62 (.tmp 61)]⟩ (
 .nil)))))))))))) (
 .ops [
 .p 69 (.fad 2) [(.tmp 16)],
 .ld 70 (.tmp 69),
 .p 71 (.bin .eql) [(.tmp 70), (.const (.int .u8 0))],
 .p 18 .mv [(.tmp 71)]])) (
 .skip))) (
 .seq (
 .seq (
 .ops [
 .p 72 (.fad 0) [(.tmp 16)],
 .ld 73 (.tmp 72),
 .p 74 (.bin .rem) [(.tmp 73), (.const (.int .u8 5))],
 .p 75 (.bin .eql) [(.tmp 74), (.const (.int .u8 2))]]) (
 .cond (.tmp 75) (
 .ops [
 .p 76 .mv [(.tmp 14)],
 .p 77 .mv [(.tmp 15)],
 .p 78 (.fad 2) [(.tmp 16)],
 .ld 79 (.tmp 78),
 .bsl 80 tU8 1 [(.int .u8 0)] [(0, 1)] [(.tmp 79)],
 .call (some 81) Gz [(.tmp 76), (.tmp 77), (.tmp 80)]]) (
 .skip))) (
 .seq (
 .seq (
 .ops [
 .p 82 (.fad 0) [(.tmp 16)],
 .ld 83 (.tmp 82),
 .p 84 (.bin .rem) [(.tmp 83), (.const (.int .u8 5))],
 .p 85 (.bin .eql) [(.tmp 84), (.const (.int .u8 3))]]) (
 .cond (.tmp 85) (
 .ops [
 .p 86 .mv [(.tmp 14)],
 .p 87 .mv [(.tmp 15)],
 .p 88 (.fad 1) [(.tmp 16)],
 .ld 89 (.tmp 88),
 .p 90 (.conv .i64) [(.tmp 89)],
 .p 91 .mv [(.tmp 17)],
 .p 92 (.bin .rem) [(.tmp 90), (.tmp 91)],
 .call (some 93) Kz [(.tmp 86), (.tmp 87), (.tmp 92)]]) (
 .skip))) (
 .seq (
 .seq (
 .ops [
 .p 94 (.fad 0) [(.tmp 16)],
 .ld 95 (.tmp 94),
 .p 96 (.bin .rem) [(.tmp 95), (.const (.int .u8 5))],
 .p 97 (.bin .eql) [(.tmp 96), (.const (.int .u8 4))]]) (
 .cond (.tmp 97) (
 .ops [
 .p 98 .mv [(.tmp 14)],
 .p 99 .mv [(.tmp 15)],
 .call (some 100) H5 [(.tmp 98), (.tmp 99)]]) (
 .skip))) (
 .seq (
 .ops [
 .p 101 .mv [(.tmp 11)],
 .p 102 .mv [(.tmp 14)],
 .bsl 103 26 1 [(.pointer none)] [(0, 1)] [(.tmp 102)],
 .app 104 #[65, 65] 65 (.tmp 101) (.tmp 103),
 .p 11 .mv [(.tmp 104)]]) (
 .ops [
 .p 105 .mv [(.tmp 12)],
 .p 106 .mv [(.tmp 18)],
 .bsl 107 RN 1 [(.bool false)] [(0, 1)] [(.tmp 106)],
 .app 108 #[Y2, Y2] Y2 (.tmp 105) (.tmp 107),
 .p 12 .mv [(.tmp 108)]]))))))))))))))) (
 .ops [
 .p 26 .mv [(.tmp 13)],
 .p 27 (.bin .add) [(.tmp 26), (.const (.int .i64 1))],
 .p 13 .mv [(.tmp 27)]])))))) (
 .seq (
 .ops [
 .p 109 .mv [(.tmp 11)],
 .p 110 .mv [(.tmp 12)],
 .p 8 .mv [(.tmp 109)],
 .p 9 .mv [(.tmp 110)]]) (
 .ret))))))⟩

theorem Xz : trF Tryz.prog JZ = some m_law25_spoilt := by kernel_rfl
-- 51 shardlog/shardloglaw25.count; Ar [(0, l), (1, l), (3, n), (4, i)]
noncomputable def m_law25_count : MF := ⟨18, [.t 2],
 .seq (
 .ops [
 .p 2 .mv [(.const (.int .i64 0))]]) (
 .seq (
 .ops [
 .p 3 .mv [(.const (.int .i64 0))]]) (
 .seq (
 .seq (
 .ops [
 .p 4 .mv [(.const (.int .i64 0))]]) (
 .block 0 (
 .loop (
 .seq (
 .seq (
 .ops [
 .p 5 .mv [(.tmp 4)],
 .p 6 .mv [(.tmp 0)],
 .p 7 .len [(.tmp 6)],
 .p 8 (.bin .lss) [(.tmp 5), (.tmp 7)]]) (
 .cond (.tmp 8) (
 .skip) (
 .exit 0))) (
 .seq (
 .block 1 (
 .seq (
 .ops [
 .p 11 .mv [(.tmp 0)],
 .p 12 .mv [(.tmp 4)],
 .p 13 (.ixs 1) [(.tmp 11), (.tmp 12)],
 .ld 14 (.tmp 13)]) (
 .cond (.tmp 14) (
 .ops [
 .p 15 .mv [(.tmp 3)],
 .p 16 (.bin .add) [(.tmp 15), (.const (.int .i64 1))],
 .p 3 .mv [(.tmp 16)]]) (
 .skip)))) (
 .ops [
 .p 9 .mv [(.tmp 4)],
 .p 10 (.bin .add) [(.tmp 9), (.const (.int .i64 1))],
 .p 4 .mv [(.tmp 10)]])))))) (
 .seq (
 .ops [
 .p 17 .mv [(.tmp 3)],
 .p 2 .mv [(.tmp 17)]]) (
 .ret))))⟩

theorem X7 : trF Tryz.prog Jk = some m_law25_count := by kernel_rfl
-- 95 shardlog/shardlogref25.File; Ar [(0, i), (1, shard), (2, i), (3, shard)]
noncomputable def m_ref25_File : MF := ⟨12, [.t 4],
 .seq (
 .ops [
 .p 4 .mv [(.const (.slice none 0 0))]]) (
 .seq (
 .dr (
 .one ⟨.p 5 .mv [(.tmp 0)], []⟩ (
 .one ⟨.p 7 .mv [(.tmp 1)], []⟩ (
 .one ⟨.bs 8 (.tmp 7), []⟩ (
 .one ⟨.call (some 6) Ho [(.tmp 5)], [.bs 8 (.tmp 7)]⟩ (
 .one ⟨.call (some 9) JX [(.tmp 8)], []⟩ (
 .one ⟨.app 10 #[Au, Au] Au (.tmp 6) (.tmp 9), []⟩ (
 .one ⟨.call (some 11) PK [(.tmp 10)], []⟩ (
 .one ⟨.p 4 .mv [(.tmp 11)], []⟩ (
 .nil)))))))))) (
 .ret))⟩

theorem ZZ : trF Tryz.prog OI = some m_ref25_File := by kernel_rfl
end Go.Proofs.YtgpkbldlkadnjaaGreat
end
section
set_option maxHeartbeats 3000000
attribute [local irreducible] Go.Sl.Chk Go.Sl.Br Go.Sl.Or2 Go.Sl.Ld Go.Sl.Ldn Go.Sl.LdB Go.Sl.Stn Go.Sl.New Go.Sl.Run Go.Sl.Ec Go.Sl.D9 Go.Sl.Call Go.Sl.Cc Go.Sl.Ed Go.Sl.Alt Go.Sl.Om Go.Sl.xpk Go.Sl.EX Go.Sl.EY Go.Sl.DLd Go.Sl.ES Go.Sl.DBs Go.Sl.Bo Go.Sl.Et Go.Sl.Es Go.Sl.Dk Go.Sl.DGC Go.Sl.Dq Go.Sl.Fj Go.Sl.D8 Go.Sl.Ent Go.Sl.Bg Go.Sl.dv Go.Sl.ev Go.Sl.Am
namespace Go.Proofs.YtgpkbldlkadnjaaGreat
open Go Go.Sl Go.RowKit
theorem Ac9 (n : Nat) (hn : n < 4294967296) : ED Tryz.prog Ho [iD n] (bytesD (BX n)) :=
 (Ac8 n hn).fn (Df _).1 (by rw [(Df _).2])
theorem Ah8 (v : Bs) (hv : v.length < 4294967296) : ED Tryz.prog JX [BC v] (bytesD (Be v)) :=
 (Aeb v hv).fn (Df _).1 (by rw [(Df _).2])
set_option maxRecDepth 100000 in
theorem Agp (rec : Bs) (hl : rec.length ≤ 65535) : ED Tryz.prog PK [bytesD rec] (bytesD (EN rec)) := by
 have s1 := Tq (BX rec.length)
 have s2 := Tq rec
 intro nx
 refine A8 Ack (by simp only [m_ref06_Put, List.length]; decide) ?_
 simp only [m_ref06_Put]; refine WK ?_; try with_reducible exact trivial
 have hN : (BX rec.length).length = 4 := rfl
 have hC : (BX (EU (BX rec.length))).length = 4 := rfl
 have hS : (BX (EU rec)).length = 4 := rfl
 refine CS (Ac9 rec.length (by omega)) fun n1 g1 => ?_
 refine WK ?_; try with_reducible exact trivial
 refine NH (i := n1) (m := (BX rec.length).length) (l' := (BX rec.length).map bD) elB (l := []) (n := 0) (Aa _ _ _) (Jo.sl _ _ _) (by simp) Jm (by omega) (by omega) (by simp only [List.mem_cons, List.not_mem_nil, or_false, not_false_eq_true]; try omega) ?_
 refine WK ?_; try with_reducible exact trivial
 refine CS (Ago (BX rec.length) (by omega)) fun n2 g2 => ?_
 refine WK ?_; try with_reducible exact trivial
 refine CS (Ac9 (EU (BX rec.length)) s1) fun n3 g3 => ?_
 refine WK ?_; try with_reducible exact trivial
 refine NH (i := n1 + 1) (m := 4) (l' := (BX (EU (BX rec.length))).map bD) elB (l := (BX rec.length).map bD) (n := 4) (Aa _ _ _) (Jo.sl _ _ _) (by simp [hC]) Jm (by omega) (by omega) (by simp only [List.mem_cons, List.not_mem_nil, or_false, not_false_eq_true]; try omega) ?_
 refine WK ?_; try with_reducible exact trivial
 refine CS (Ago rec (by omega)) fun n4 g4 => ?_
 refine WK ?_; try with_reducible exact trivial
 refine CS (Ac9 (EU rec) s2) fun n5 g5 => ?_
 refine WK ?_; try with_reducible exact trivial
 refine NH (i := n3) (m := 4) (l' := (BX (EU rec)).map bD) elB (l := (BX rec.length).map bD ++ (BX (EU (BX rec.length))).map bD) (n := 8) (Aa _ _ _) (Jo.sl _ _ _) (by simp [hS]) Jm (by omega) (by omega) (by simp only [List.mem_cons, List.not_mem_nil, or_false, not_false_eq_true]; try omega) ?_
 refine WK ?_; try with_reducible exact trivial
 refine NH (i := n5) (m := rec.length) (l' := rec.map bD) elB (l := (BX rec.length).map bD ++ (BX (EU (BX rec.length))).map bD ++ (BX (EU rec)).map bD) (n := 12) (Aa _ _ _) (Jo.sl _ _ _) (by simp) Jm (by omega) (by omega) (by simp only [List.mem_cons, List.not_mem_nil, or_false, not_false_eq_true]; try omega) ?_
 refine WK ?_; try with_reducible exact trivial
 refine AbS (n5 + 1) (Aa _ _ _) (fun x hx => ?_) ?_
 ·simp only [List.mem_append, List.mem_map] at hx
  rcases hx with ((⟨y, _, rfl⟩ | ⟨y, _, rfl⟩) | ⟨y, _, rfl⟩) | ⟨y, _, rfl⟩ <;> trivial
 ·rw [AV]
  simp only [UZ, Du, Aa]
  refine Eb ⟨?_, rfl⟩
  rw [bytesD, Kv, EN, List.map_append, List.map_append, List.map_append, List.append_assoc, List.append_assoc, Nat.add_comm]
set_option maxRecDepth 100000 in
theorem Ag8 (i : Nat) (s : Bs) (hi : i ≤ 1000) (hs : s.length ≤ 60000) : ED Tryz.prog OI [iD i, bytesD s] (bytesD (Bi i s)) := by
 intro nx
 refine A8 ZZ (by simp only [m_ref25_File, List.length]; decide) ?_
 simp only [m_ref25_File]; refine WK ?_; try with_reducible exact trivial
 refine dbs rfl ?_
 refine WK ?_; try with_reducible exact trivial
 refine QC (Ac8 i (by omega)) fun k n1 h1 h2 => ?_
 refine WK ?_; try with_reducible exact trivial
 refine CS (Ah8 s (by omega)) fun n2 g2 => ?_
 refine WK ?_; try with_reducible exact trivial
 refine AeA k (BX i) (Be s) (Aa _ _ _) (by simp only [Ej, Ai]; omega) (by simp only [List.mem_cons, List.not_mem_nil, or_false, not_false_eq_true]; try omega) ?_
 refine WK ?_; try with_reducible exact trivial
 refine CS (Agp (BX i ++ Be s) (by simp only [List.length_append, Ej, Ai]; omega)) fun n3 g3 => ?_
 refine WK ?_; try with_reducible exact trivial
 exact C9 ⟨rfl, rfl⟩
set_option maxRecDepth 100000 in
theorem Uh {k f : Nat} (hs : CO k f) (v : Bs) (hv : v.length ≤ 512) : ED Tryz.prog Jh [shD k f, BC v] (CY (AZ k f v)) := by
 have hel := (BP hs v).2.2
 have hn7 := hs.n
 have hfl := Ew hs v
 intro nx
 refine A8 X0 (by simp only [m_ref25_Files, List.length]; decide) ?_
 simp only [shD]
 simp only [m_ref25_Files]; refine WK ?_; try with_reducible exact trivial
 refine CS (Ae5 hs v hv) fun n1 g1 => ?_
 refine WK ?_; try with_reducible exact trivial
 refine GL [5, 6, 7] (fun s : Nat × Nat × Nat => ([(5, CY (encode k f v)), (6, .h s.2.1), (7, iD (s.1 : Nat))], [(s.2.1, .row Au 1 ((AZ k f v).take s.1).length (((AZ k f v).take s.1).map bytesD))], s.2.2)) (fun s => s.1 ≤ k + 2 * f ∧ s.2.1 < s.2.2) (fun s => k + 2 * f - s.1) (0, n1, n1 + 1) ⟨by dsimp only; omega, by dsimp only; omega⟩ (((Ent.only [] _ _ _).trans (Ent.nil 6 Au 1 (by with_unfolding_all rfl) rfl)).trans (Ent.of (by with_unfolding_all rfl) rfl)) ?_
 rintro ⟨j, q, n2⟩ ⟨q1, q2⟩
 dsimp only at q1 q2 ⊢
 have htl : ((AZ k f v).take j).length = j := by rw [List.length_take]; omega
 refine WK ?_; try with_reducible exact trivial
 refine brd (fun hlt => ?_) (fun hge => ?_)
 ·have hj : j < k + 2 * f := by omega
  have hej : j < (encode k f v).length := by omega
  have hrow := EC hs v hj
  have hwl := DJ v.length hs.k
  have htk : (AZ k f v).take (j + 1) = (AZ k f v).take j ++ [Bi j (gt (encode k f v) j)] := by rw [List.take_add_one, Gl hej]; rfl
  refine WK ?_; try with_reducible exact trivial
  refine CS (Ag8 j (gt (encode k f v) j) (by omega) (by omega)) fun n3 g3 => ?_
  refine WK ?_; try with_reducible exact trivial
  refine AfI ((AZ k f v).take j) (Bi j (gt (encode k f v) j)) n3 (by omega) (by (repeat rw [Ac (by omega)]); exact Aa _ _ _) (by (repeat rw [Ac (by omega)]); exact Aa _ _ _) (by omega) (by simp only [List.mem_cons, List.not_mem_nil, or_false, not_false_eq_true]; try omega) ?_
  rw [← htk]
  refine WK ?_; try with_reducible exact trivial
  exact ⟨(j + 1, n3 + 1, n3 + 2), ⟨by dsimp only; omega, by dsimp only; omega⟩, by dsimp only; omega, (Ent.only [n3 + 1] _ _ _).trans (by simp -dsimp (disch := omega) only [EQ, Aa, Ac, AX, Bj]; exact (Ent.of (by with_unfolding_all rfl) rfl))⟩
 ·have hj : j = k + 2 * f := by omega
  subst hj
  rw [List.take_of_length_le (by omega)]
  refine WK ?_; try with_reducible exact trivial
  refine AbS q (Aa _ _ _) (fun x hx => by obtain ⟨y, _, rfl⟩ := List.mem_map.1 hx; simp [D.plain]) ?_
  rw [AV]
  simp only [UZ, Du, Aa]
  exact Eb ⟨rfl, rfl⟩
theorem AfL (l : List Bool) (hl : l.length ≤ 1000000) : ED Tryz.prog Jk [.sl l.length (l.map AO)] (iD ((l.filter id).length : Nat)) := by
 intro nx
 refine A8 X7 (by simp only [m_law25_count, List.length]; decide) ?_
 simp only [m_law25_count]; refine WK ?_; try with_reducible exact trivial
 refine GL [0, 3, 4] (fun s : Nat × Nat => ([(0, .sl l.length (l.map AO)), (3, iD (((l.take s.1).filter id).length : Nat)), (4, iD (s.1 : Nat))], [], s.2)) (fun s => s.1 ≤ l.length) (fun s => l.length - s.1) (0, nx) (by dsimp only; omega) (Ent.of (by with_unfolding_all rfl) rfl) ?_
 rintro ⟨k, n⟩ q1
 dsimp only at q1 ⊢
 have hfl : ((l.take k).filter id).length ≤ k := Nat.le_trans (List.length_filter_le _ _) (by rw [List.length_take]; omega)
 refine WK ?_; try with_reducible exact trivial
 refine brd (fun hlt => ?_) (fun hge => ?_)
 ·have hk : k < l.length := by omega
  have htk := Lp hk
  refine WK ?_; try with_reducible exact trivial
  cases hg : gt l k with
  | true =>
   have e : ((l.take (k + 1)).filter id).length = ((l.take k).filter id).length + 1 := by rw [htk, List.filter_append, hg]; simp
   refine WK ?_; try with_reducible exact trivial
   exact ⟨(k + 1, n), by dsimp only; omega, by dsimp only; omega, by rw [e]; exact (Ent.of (by with_unfolding_all rfl) rfl)⟩
  | false =>
   have e : ((l.take (k + 1)).filter id).length = ((l.take k).filter id).length := by rw [htk, List.filter_append, hg]; simp
   refine WK ?_; try with_reducible exact trivial
   exact ⟨(k + 1, n), by dsimp only; omega, by dsimp only; omega, by rw [e]; exact (Ent.of (by with_unfolding_all rfl) rfl)⟩
 ·refine WK ?_; try with_reducible exact trivial
  rw [List.take_of_length_le (by omega)]
  exact Eb ⟨rfl, rfl⟩
def spC (x : CG) : List D := [bD x.act, .sc (.int .u16 (x.at_ : Nat)), bD x.turn]
theorem Ad5 (x : CG) : (spC x).length = 3 := rfl
def Va (l : List CG) : List D := l.flatMap spC
theorem RU (l : List CG) : (Va l).length = l.length * 3 := YF Ad5 l
theorem Af9 (l : List CG) {j : Nat} (hj : j < l.length) : ((Va l).drop (j * 3)).take 3 = spC (gt l j) := Adq Ad5 l hj
def EM (n : Bs) (k f : Nat) (v : Bs) (l : List CG) : List (List FileS) := (AZ k f v).mapIdx fun i w => Ht (gt l i) (bN n) w
def Hm (N : Nat) (l : List CG) : List Bool := (List.range N).map fun i => (gt l i).good
theorem elBool : El Tryz.prog Y2 RN 1 1 (.bool false) := El.of (by kernel_rfl) (by kernel_rfl) rfl (by decide)
theorem AaQ (x : CG) : (x.act.toNat : Int).tmod 5 = (x.kind : Nat) := by
 unfold CG.kind
 rw [Int.tmod_eq_emod_of_nonneg (by omega)]
 omega
set_option maxRecDepth 100000 in
theorem AaW {k f : Nat} (hs : CO k f) {n v : Bs} (hn : D7 n) (hv : v.length ≤ 512) {l : List CG} (hl : l.length = 7) (hat : ∀ x ∈ l, x.at_ < 65536) {nx : Nat} : H9 Tryz.prog JZ [shD k f, BC n, BC v, .agg (Va l)] [] nx (fun d ro nx' => ∃ a g, nx ≤ a ∧ a < nx' ∧ nx ≤ g ∧ g < nx' ∧ a ≠ g ∧ d = .tup [.h a, .h g] ∧ ro = [(a, Hf (EM n k f v l) 6000), (g, .row RN 1 (k + 2 * f) ((Hm (k + 2 * f) l).map AO))]) := by
 have hn7 := hs.n
 have hfl := Ew hs v
 have hnl := hn.2
 have hsl := RU l
 refine A8 Xz (by simp only [m_law25_spoilt, List.length]; decide) ?_
 simp only [shD]
 simp only [m_law25_spoilt]; refine WK ?_; try with_reducible exact trivial
 refine CS (Uh hs v hv) fun n1 g1 => ?_
 refine WK ?_; try with_reducible exact trivial
 have hspl : (EM n k f v l).length = k + 2 * f := by rw [EM, List.length_mapIdx, hfl]
 have hgl : (Hm (k + 2 * f) l).length = k + 2 * f := by simp [Hm]
 refine GL [1, 7, 10, 11, 12, 13] (fun s : Nat × Nat × Nat × Nat => ([(1, BC n), (7, .hp (nx + 1) 0), (10, CY (AZ k f v)), (11, .h s.2.1), (12, .h s.2.2.1), (13, iD (s.1 : Nat))], [(s.2.1, Hf ((EM n k f v l).take s.1) 6000), (s.2.2.1, .row RN 1 ((Hm (k + 2 * f) l).take s.1).length (((Hm (k + 2 * f) l).take s.1).map AO)), (nx + 1, .box 83 (Va l))], s.2.2.2)) (fun s => s.1 ≤ k + 2 * f ∧ nx + 1 < s.2.1 ∧ nx + 1 < s.2.2.1 ∧ s.2.1 ≠ s.2.2.1 ∧ s.2.1 < s.2.2.2 ∧ s.2.2.1 < s.2.2.2) (fun s => k + 2 * f - s.1) (0, n1, n1 + 1, n1 + 2) ⟨by dsimp only; omega, by dsimp only; omega, by dsimp only; omega, by dsimp only; omega, by dsimp only; omega, by dsimp only; omega⟩ ?_ ?_
 ·refine (Ent.nil 11 26 1 (by with_unfolding_all rfl) rfl).trans ?_
  refine (Ent.nil 12 RN 1 (by with_unfolding_all rfl) rfl).trans ?_
  refine (Ent.only [n1, n1 + 1, nx + 1] _ _ _).trans ?_
  refine WKR ?_; try with_reducible exact trivial
  exact (Ent.of (by with_unfolding_all rfl) rfl)
 ·rintro ⟨j, a, g, n2⟩ ⟨q1, q2, q3, q4, q5, q6⟩
  dsimp only at q1 q2 q3 q4 q5 q6 ⊢
  have htl : ((EM n k f v l).take j).length = j := by rw [List.length_take]; omega
  have htg : ((Hm (k + 2 * f) l).take j).length = j := by rw [List.length_take]; omega
  refine WK ?_; try with_reducible exact trivial
  refine brd (fun hlt => ?_) (fun hge => ?_)
  ·have hj : j < k + 2 * f := by omega
   have hjl : j < l.length := by omega
   have hej : j < (encode k f v).length := by rw [(BP hs v).2.2]; exact hj
   have hrow := EC hs v hj
   have hwl := DJ v.length hs.k
   have hfg := Gl (k := k) (f := f) (v := v) hej
   have hgf : gt (AZ k f v) j = Bi j (gt (encode k f v) j) := by simp only [gt]; rw [List.getD_eq_getElem?_getD, hfg]; rfl
   have hwl2 := Ha j (gt (encode k f v) j)
   have hal : (gt l j).at_ < 65536 := hat _ (by rw [Ia hjl]; exact List.getElem_mem hjl)
   have e3 : (⟨#[98, 46]⟩ : ByteArray).size + (⟨n.toArray⟩ : ByteArray).size = n.length + 2 := by simp [ByteArray.size]; omega
   have e4 : (⟨#[98, 46]⟩ : ByteArray) ++ (⟨n.toArray⟩ : ByteArray) = ⟨(bN n).toArray⟩ := by apply ByteArray.ext; simp [bN]
   have hbl : (bN n).length ≤ 18 := by simp [bN]; omega
   have hst : (EM n k f v l).take (j + 1) = (EM n k f v l).take j ++ [Ht (gt l j) (bN n) (Bi j (gt (encode k f v) j))] := by
    rw [List.take_add_one, EM, List.getElem?_mapIdx, hfg]; rfl
   have hgt : (Hm (k + 2 * f) l).take (j + 1) = (Hm (k + 2 * f) l).take j ++ [(gt l j).good] := by
    rw [List.take_add_one, Hm, List.getElem?_map, List.getElem?_range hj]; rfl
   have hta := Af9 l hjl
   have hnb := SQ hn
   generalize hW : Bi j (gt (encode k f v) j) = w at *
   generalize hX : gt l j = x at *
   have ha1 : NL [] 6000 (bN n) w = 0 := by unfold NL; rw [hnb, if_neg (by decide), if_neg (by simp [Ff]; omega)]
   have ha2 : KX [] 6000 (bN n) w = [(bN n, w, 0)] := by unfold KX; rw [hnb, if_neg (by decide), if_neg (by simp [Ff]; omega)]; rfl
   have ha3 : JM [(bN n, w, 0)] (bN n) = [(bN n, w, w.length)] := by unfold JM; rw [N7]; rfl
   have o1 : GG [(bN n, w, 0)] := fun f hf => by rw [List.mem_singleton.1 hf]; exact ⟨by dsimp only; omega, by dsimp only; omega⟩
   have o2 : GG [(bN n, w, w.length)] := fun f hf => by rw [List.mem_singleton.1 hf]; exact ⟨by dsimp only; omega, by dsimp only; omega⟩
   refine WK ?_; try with_reducible exact trivial
   refine QC (AgK 6000 ⟨by omega, by omega⟩) fun d n3 g3 g4 => ?_
   rw [show (min (max (6000 : Int) 0) 65536).toNat = 6000 from rfl]
   simp only [AB]
   refine WKX (And.intro @e3 @e4) ?_; try with_reducible exact trivial
   rw [hgf]
   refine Jc d (XG [] 6000 (bN n) w (fun f hf => by simp at hf) (by simp [Ff]) (by omega) (by omega) (by omega)) (by omega) (by (repeat rw [Ac (by omega)]); exact Aa _ _ _) (by simp only [List.mem_cons, List.not_mem_nil, or_false, not_false_eq_true]; try omega) fun n4 g5 => ?_
   rw [ha2]
   simp only [AB]
   refine WK ?_; try with_reducible exact trivial
   refine Jc d (Af3 [(bN n, w, 0)] 6000 (bN n) o1 (by omega)) (by omega) (by (repeat rw [Ac (by omega)]); exact Aa _ _ _) (by simp only [List.mem_cons, List.not_mem_nil, or_false, not_false_eq_true]; try omega) fun n5 g6 => ?_
   rw [ha3]
   simp only [AB]
   have hk5 : x.kind < 5 := Nat.mod_lt _ (by decide)
   have hmod : ((x.at_ : Nat) : Int) % (w.length : Nat) = ((x.at_ % w.length : Nat) : Int) := rfl
   have hml : x.at_ % w.length < w.length := Nat.mod_lt _ (by omega)
   rcases (by omega : x.kind = 0 ∨ x.kind = 1 ∨ x.kind = 2 ∨ x.kind = 3 ∨ x.kind = 4) with h | h | h | h | h
   case' inl =>
    have e7 : (x.act.toNat : Int) % 5 = 0 := by have := AaQ x; rw [h, Int.tmod_eq_emod_of_nonneg (by omega)] at this; exact this
    have hS : [(bN n, w, w.length)] = Ht x (bN n) w := by unfold Ht; rw [if_neg (by omega), if_neg (by omega), if_neg (by omega), if_neg (by omega)]
    have hG : x.good = true := by simp [CG.good, h]
    rw [hS]
    simp -dsimp (disch := omega) only [↓MC.xwp, ↓Ce, ↓xdr, ↓MOp.xwp, dvs, dv, dvu, dvo, dvp, dgb, dGd, DX, cond_true, cond_false, Gf, Bg, CQ, Dp, DD, Du, ptr, bsc, cv, uo, uof, Bq, xpr, DL, EL, FM, FB, Gi, FT, Gj, xst, xgp, glc, F8, DV, FY, FZ, FW, FX, DU, FV, FN, FU, DN, DR, Cj, Dw, Fv, dsl, dif, BV, CP, BI, scs, rowOf, AU, dtk, DC, BJ, pev, Bl, Bv, Aq, Bz, psl, Ba, ↓DI, ↓CB, ↓FP, ↓Fq, Dz, FD, FC, Dj, BG, kp, Di, Dv, E9, Dt, FI, CZ, AQ, BB, nb, Fe, Cb, Bd, apart, Aj, Bc, heldOk, Op.operands, Nat.reduceAdd, forall_eq_or_imp, D.plain, reduceCtorEq, if_true, if_false, ↓reduceIte, ne_eq, Bool.cond_true, Bool.cond_false, forall_const, implies_true, forall_eq, Int.reduceEq, Int.reduceLT, Int.reduceLE, Int.reduceAdd, Int.reduceSub, Int.reduceMul, Int.reduceToNat, Nat.reduceMul, Nat.reduceLeDiff, Nat.reduceLT, Nat.reduceSub, Nat.reduceBEq, Nat.reduceEqDiff, CY, bytesD, iD, CU, AO, BC, bD, DB, hta, spC, hgf, U8, Value.oneCell', e7, hmod]
    obtain ⟨n6, hn6⟩ : ∃ n6, n6 = n5 + 1 := ⟨_, rfl⟩
    rw [← hn6]
    have g7 : n5 + 1 ≤ n6 := by omega
   case' inr.inl =>
    have e7 : (x.act.toNat : Int) % 5 = 1 := by have := AaQ x; rw [h, Int.tmod_eq_emod_of_nonneg (by omega)] at this; exact this
    have hT : RG [(bN n, w, w.length)] (bN n) ((x.at_ % w.length : Nat) : Int) x.turn = Ht x (bN n) w := by
     unfold RG Ht
     rw [N7, if_pos h]
     have e0 : ([(bN n, w, w.length)] : List FileS).getD 0 default = (bN n, w, w.length) := rfl
     simp only [e0]
     rw [if_pos ⟨by omega, by omega⟩, Int.toNat_natCast]
     rfl
    have hG : x.good = decide ((x.turn.toNat : Int) = 0) := by
     have e : (x.turn = 0) ↔ ((x.turn.toNat : Int) = 0) := ⟨fun e => by rw [e]; rfl, fun e => UInt8.toNat_inj.1 (by rw [UInt8.toNat_zero]; omega)⟩
     simp [CG.good, h, e]
    simp -dsimp (disch := omega) only [↓MC.xwp, ↓Ce, ↓xdr, ↓MOp.xwp, dvs, dv, dvu, dvo, dvp, dgb, dGd, DX, cond_true, cond_false, Gf, Bg, CQ, Dp, DD, Du, ptr, bsc, cv, uo, uof, Bq, xpr, DL, EL, FM, FB, Gi, FT, Gj, xst, xgp, glc, F8, DV, FY, FZ, FW, FX, DU, FV, FN, FU, DN, DR, Cj, Dw, Fv, dsl, dif, BV, CP, BI, scs, rowOf, AU, dtk, DC, BJ, pev, Bl, Bv, Aq, Bz, psl, Ba, ↓DI, ↓CB, ↓FP, ↓Fq, Dz, FD, FC, Dj, BG, kp, Di, Dv, E9, Dt, FI, CZ, AQ, BB, nb, Fe, Cb, Bd, apart, Aj, Bc, heldOk, Op.operands, Nat.reduceAdd, forall_eq_or_imp, D.plain, reduceCtorEq, if_true, if_false, ↓reduceIte, ne_eq, Bool.cond_true, Bool.cond_false, forall_const, implies_true, forall_eq, Int.reduceEq, Int.reduceLT, Int.reduceLE, Int.reduceAdd, Int.reduceSub, Int.reduceMul, Int.reduceToNat, Nat.reduceMul, Nat.reduceLeDiff, Nat.reduceLT, Nat.reduceSub, Nat.reduceBEq, Nat.reduceEqDiff, CY, bytesD, iD, CU, AO, BC, bD, DB, hta, spC, hgf, U8, Value.oneCell', e7, hmod]
    refine Jc d (turn_a _ 6000 (bN n) ((x.at_ % w.length : Nat) : Int) x.turn o2 (by omega)) (by omega) (by (repeat rw [Ac (by omega)]); exact Aa _ _ _) (by simp only [List.mem_cons, List.not_mem_nil, or_false, not_false_eq_true]; try omega) fun n6 g7 => ?_
    rw [hT]
    simp only [AB]
    simp -dsimp (disch := omega) only [↓MC.xwp, ↓Ce, ↓xdr, ↓MOp.xwp, dvs, dv, dvu, dvo, dvp, dgb, dGd, DX, cond_true, cond_false, Gf, Bg, CQ, Dp, DD, Du, ptr, bsc, cv, uo, uof, Bq, xpr, DL, EL, FM, FB, Gi, FT, Gj, xst, xgp, glc, F8, DV, FY, FZ, FW, FX, DU, FV, FN, FU, DN, DR, Cj, Dw, Fv, dsl, dif, BV, CP, BI, scs, rowOf, AU, dtk, DC, BJ, pev, Bl, Bv, Aq, Bz, psl, Ba, ↓DI, ↓CB, ↓FP, ↓Fq, Dz, FD, FC, Dj, BG, kp, Di, Dv, E9, Dt, FI, CZ, AQ, BB, nb, Fe, Cb, Bd, apart, Aj, Bc, heldOk, Op.operands, Nat.reduceAdd, forall_eq_or_imp, D.plain, reduceCtorEq, if_true, if_false, ↓reduceIte, ne_eq, Bool.cond_true, Bool.cond_false, forall_const, implies_true, forall_eq, Int.reduceEq, Int.reduceLT, Int.reduceLE, Int.reduceAdd, Int.reduceSub, Int.reduceMul, Int.reduceToNat, Nat.reduceMul, Nat.reduceLeDiff, Nat.reduceLT, Nat.reduceSub, Nat.reduceBEq, Nat.reduceEqDiff, CY, bytesD, iD, CU, AO, BC, bD, DB, hta, spC, hgf, U8, Value.oneCell', e7, hmod]
   case' inr.inr.inl =>
    have e7 : (x.act.toNat : Int) % 5 = 2 := by have := AaQ x; rw [h, Int.tmod_eq_emod_of_nonneg (by omega)] at this; exact this
    have hT : KX [(bN n, w, w.length)] 6000 (bN n) [x.turn] = Ht x (bN n) w := by
     unfold KX Ht
     rw [hnb, if_neg (by decide), if_neg (by rw [VV, List.length_singleton]; omega), N7, if_neg (by omega), if_pos h]
     rfl
    have hG : x.good = false := by simp [CG.good, h]
    simp -dsimp (disch := omega) only [↓MC.xwp, ↓Ce, ↓xdr, ↓MOp.xwp, dvs, dv, dvu, dvo, dvp, dgb, dGd, DX, cond_true, cond_false, Gf, Bg, CQ, Dp, DD, Du, ptr, bsc, cv, uo, uof, Bq, xpr, DL, EL, FM, FB, Gi, FT, Gj, xst, xgp, glc, F8, DV, FY, FZ, FW, FX, DU, FV, FN, FU, DN, DR, Cj, Dw, Fv, dsl, dif, BV, CP, BI, scs, rowOf, AU, dtk, DC, BJ, pev, Bl, Bv, Aq, Bz, psl, Ba, ↓DI, ↓CB, ↓FP, ↓Fq, Dz, FD, FC, Dj, BG, kp, Di, Dv, E9, Dt, FI, CZ, AQ, BB, nb, Fe, Cb, Bd, apart, Aj, Bc, heldOk, Op.operands, Nat.reduceAdd, forall_eq_or_imp, D.plain, reduceCtorEq, if_true, if_false, ↓reduceIte, ne_eq, Bool.cond_true, Bool.cond_false, forall_const, implies_true, forall_eq, Int.reduceEq, Int.reduceLT, Int.reduceLE, Int.reduceAdd, Int.reduceSub, Int.reduceMul, Int.reduceToNat, Nat.reduceMul, Nat.reduceLeDiff, Nat.reduceLT, Nat.reduceSub, Nat.reduceBEq, Nat.reduceEqDiff, CY, bytesD, iD, CU, AO, BC, bD, DB, hta, spC, hgf, U8, Value.oneCell', e7, hmod]
    refine Gt (n5 + 1) (t' := .mk _) (Aa _ _ _) (by simp [D.plain]) (by simp only [List.mem_cons, List.not_mem_nil, or_false, not_false_eq_true]; try omega) ?_
    refine WK ?_; try with_reducible exact trivial
    refine Jc d (XG _ 6000 (bN n) [x.turn] o2 (by rw [VV]; omega) (by omega) (by omega) (by simp)) (by omega) (by (repeat rw [Ac (by omega)]); exact Aa _ _ _) (by simp only [List.mem_cons, List.not_mem_nil, or_false, not_false_eq_true]; try omega) fun n6 g7 => ?_
    rw [hT]
    simp only [AB]
    simp -dsimp (disch := omega) only [↓MC.xwp, ↓Ce, ↓xdr, ↓MOp.xwp, dvs, dv, dvu, dvo, dvp, dgb, dGd, DX, cond_true, cond_false, Gf, Bg, CQ, Dp, DD, Du, ptr, bsc, cv, uo, uof, Bq, xpr, DL, EL, FM, FB, Gi, FT, Gj, xst, xgp, glc, F8, DV, FY, FZ, FW, FX, DU, FV, FN, FU, DN, DR, Cj, Dw, Fv, dsl, dif, BV, CP, BI, scs, rowOf, AU, dtk, DC, BJ, pev, Bl, Bv, Aq, Bz, psl, Ba, ↓DI, ↓CB, ↓FP, ↓Fq, Dz, FD, FC, Dj, BG, kp, Di, Dv, E9, Dt, FI, CZ, AQ, BB, nb, Fe, Cb, Bd, apart, Aj, Bc, heldOk, Op.operands, Nat.reduceAdd, forall_eq_or_imp, D.plain, reduceCtorEq, if_true, if_false, ↓reduceIte, ne_eq, Bool.cond_true, Bool.cond_false, forall_const, implies_true, forall_eq, Int.reduceEq, Int.reduceLT, Int.reduceLE, Int.reduceAdd, Int.reduceSub, Int.reduceMul, Int.reduceToNat, Nat.reduceMul, Nat.reduceLeDiff, Nat.reduceLT, Nat.reduceSub, Nat.reduceBEq, Nat.reduceEqDiff, CY, bytesD, iD, CU, AO, BC, bD, DB, hta, spC, hgf, U8, Value.oneCell', e7, hmod]
   case' inr.inr.inr.inl =>
    have e7 : (x.act.toNat : Int) % 5 = 3 := by have := AaQ x; rw [h, Int.tmod_eq_emod_of_nonneg (by omega)] at this; exact this
    have hT : trimF [(bN n, w, w.length)] (bN n) ((x.at_ % w.length : Nat) : Int) = Ht x (bN n) w := by
     unfold trimF Ht
     rw [N7, if_neg (by omega), if_neg (by omega), if_pos h]
     have e0 : ([(bN n, w, w.length)] : List FileS).getD 0 default = (bN n, w, w.length) := rfl
     simp only [e0]
     rw [if_pos ⟨by omega, by omega⟩, Int.toNat_natCast]
     rfl
    have hG : x.good = false := by simp [CG.good, h]
    simp -dsimp (disch := omega) only [↓MC.xwp, ↓Ce, ↓xdr, ↓MOp.xwp, dvs, dv, dvu, dvo, dvp, dgb, dGd, DX, cond_true, cond_false, Gf, Bg, CQ, Dp, DD, Du, ptr, bsc, cv, uo, uof, Bq, xpr, DL, EL, FM, FB, Gi, FT, Gj, xst, xgp, glc, F8, DV, FY, FZ, FW, FX, DU, FV, FN, FU, DN, DR, Cj, Dw, Fv, dsl, dif, BV, CP, BI, scs, rowOf, AU, dtk, DC, BJ, pev, Bl, Bv, Aq, Bz, psl, Ba, ↓DI, ↓CB, ↓FP, ↓Fq, Dz, FD, FC, Dj, BG, kp, Di, Dv, E9, Dt, FI, CZ, AQ, BB, nb, Fe, Cb, Bd, apart, Aj, Bc, heldOk, Op.operands, Nat.reduceAdd, forall_eq_or_imp, D.plain, reduceCtorEq, if_true, if_false, ↓reduceIte, ne_eq, Bool.cond_true, Bool.cond_false, forall_const, implies_true, forall_eq, Int.reduceEq, Int.reduceLT, Int.reduceLE, Int.reduceAdd, Int.reduceSub, Int.reduceMul, Int.reduceToNat, Nat.reduceMul, Nat.reduceLeDiff, Nat.reduceLT, Nat.reduceSub, Nat.reduceBEq, Nat.reduceEqDiff, CY, bytesD, iD, CU, AO, BC, bD, DB, hta, spC, hgf, U8, Value.oneCell', e7, hmod]
    refine Jc d (trim_a _ 6000 (bN n) ((x.at_ % w.length : Nat) : Int) o2 (by omega)) (by omega) (by (repeat rw [Ac (by omega)]); exact Aa _ _ _) (by simp only [List.mem_cons, List.not_mem_nil, or_false, not_false_eq_true]; try omega) fun n6 g7 => ?_
    rw [hT]
    simp only [AB]
    simp -dsimp (disch := omega) only [↓MC.xwp, ↓Ce, ↓xdr, ↓MOp.xwp, dvs, dv, dvu, dvo, dvp, dgb, dGd, DX, cond_true, cond_false, Gf, Bg, CQ, Dp, DD, Du, ptr, bsc, cv, uo, uof, Bq, xpr, DL, EL, FM, FB, Gi, FT, Gj, xst, xgp, glc, F8, DV, FY, FZ, FW, FX, DU, FV, FN, FU, DN, DR, Cj, Dw, Fv, dsl, dif, BV, CP, BI, scs, rowOf, AU, dtk, DC, BJ, pev, Bl, Bv, Aq, Bz, psl, Ba, ↓DI, ↓CB, ↓FP, ↓Fq, Dz, FD, FC, Dj, BG, kp, Di, Dv, E9, Dt, FI, CZ, AQ, BB, nb, Fe, Cb, Bd, apart, Aj, Bc, heldOk, Op.operands, Nat.reduceAdd, forall_eq_or_imp, D.plain, reduceCtorEq, if_true, if_false, ↓reduceIte, ne_eq, Bool.cond_true, Bool.cond_false, forall_const, implies_true, forall_eq, Int.reduceEq, Int.reduceLT, Int.reduceLE, Int.reduceAdd, Int.reduceSub, Int.reduceMul, Int.reduceToNat, Nat.reduceMul, Nat.reduceLeDiff, Nat.reduceLT, Nat.reduceSub, Nat.reduceBEq, Nat.reduceEqDiff, CY, bytesD, iD, CU, AO, BC, bD, DB, hta, spC, hgf, U8, Value.oneCell', e7, hmod]
   case' inr.inr.inr.inr =>
    have e7 : (x.act.toNat : Int) % 5 = 4 := by have := AaQ x; rw [h, Int.tmod_eq_emod_of_nonneg (by omega)] at this; exact this
    have hT : Jl [(bN n, w, w.length)] (bN n) = Ht x (bN n) w := by
     unfold Jl Ht
     rw [N7, if_neg (by omega), if_neg (by omega), if_neg (by omega), if_pos h]
     rfl
    have hG : x.good = false := by simp [CG.good, h]
    simp -dsimp (disch := omega) only [↓MC.xwp, ↓Ce, ↓xdr, ↓MOp.xwp, dvs, dv, dvu, dvo, dvp, dgb, dGd, DX, cond_true, cond_false, Gf, Bg, CQ, Dp, DD, Du, ptr, bsc, cv, uo, uof, Bq, xpr, DL, EL, FM, FB, Gi, FT, Gj, xst, xgp, glc, F8, DV, FY, FZ, FW, FX, DU, FV, FN, FU, DN, DR, Cj, Dw, Fv, dsl, dif, BV, CP, BI, scs, rowOf, AU, dtk, DC, BJ, pev, Bl, Bv, Aq, Bz, psl, Ba, ↓DI, ↓CB, ↓FP, ↓Fq, Dz, FD, FC, Dj, BG, kp, Di, Dv, E9, Dt, FI, CZ, AQ, BB, nb, Fe, Cb, Bd, apart, Aj, Bc, heldOk, Op.operands, Nat.reduceAdd, forall_eq_or_imp, D.plain, reduceCtorEq, if_true, if_false, ↓reduceIte, ne_eq, Bool.cond_true, Bool.cond_false, forall_const, implies_true, forall_eq, Int.reduceEq, Int.reduceLT, Int.reduceLE, Int.reduceAdd, Int.reduceSub, Int.reduceMul, Int.reduceToNat, Nat.reduceMul, Nat.reduceLeDiff, Nat.reduceLT, Nat.reduceSub, Nat.reduceBEq, Nat.reduceEqDiff, CY, bytesD, iD, CU, AO, BC, bD, DB, hta, spC, hgf, U8, Value.oneCell', e7, hmod]
    refine Jc d (AbW _ 6000 (bN n) o2 (by omega)) (by omega) (by (repeat rw [Ac (by omega)]); exact Aa _ _ _) (by simp only [List.mem_cons, List.not_mem_nil, or_false, not_false_eq_true]; try omega) fun n6 g7 => ?_
    rw [hT]
    simp only [AB]
    simp -dsimp (disch := omega) only [↓MC.xwp, ↓Ce, ↓xdr, ↓MOp.xwp, dvs, dv, dvu, dvo, dvp, dgb, dGd, DX, cond_true, cond_false, Gf, Bg, CQ, Dp, DD, Du, ptr, bsc, cv, uo, uof, Bq, xpr, DL, EL, FM, FB, Gi, FT, Gj, xst, xgp, glc, F8, DV, FY, FZ, FW, FX, DU, FV, FN, FU, DN, DR, Cj, Dw, Fv, dsl, dif, BV, CP, BI, scs, rowOf, AU, dtk, DC, BJ, pev, Bl, Bv, Aq, Bz, psl, Ba, ↓DI, ↓CB, ↓FP, ↓Fq, Dz, FD, FC, Dj, BG, kp, Di, Dv, E9, Dt, FI, CZ, AQ, BB, nb, Fe, Cb, Bd, apart, Aj, Bc, heldOk, Op.operands, Nat.reduceAdd, forall_eq_or_imp, D.plain, reduceCtorEq, if_true, if_false, ↓reduceIte, ne_eq, Bool.cond_true, Bool.cond_false, forall_const, implies_true, forall_eq, Int.reduceEq, Int.reduceLT, Int.reduceLE, Int.reduceAdd, Int.reduceSub, Int.reduceMul, Int.reduceToNat, Nat.reduceMul, Nat.reduceLeDiff, Nat.reduceLT, Nat.reduceSub, Nat.reduceBEq, Nat.reduceEqDiff, CY, bytesD, iD, CU, AO, BC, bD, DB, hta, spC, hgf, U8, Value.oneCell', e7, hmod]
   all_goals
    refine NH (i := a) (m := 1) (l' := [.hp d 0]) elP (l := ((EM n k f v l).take j).map (Fg 6000)) (n := ((EM n k f v l).take j).length) (by (repeat rw [Ac (by omega)]); exact Aa _ _ _) (Jo.row (by (repeat rw [Ac (by omega)]); exact Aa _ _ _) (by simp [D.plain])) rfl (by simp [BJ]) (by omega) (by omega) (by simp only [List.mem_cons, List.not_mem_nil, or_false, not_false_eq_true]; try omega) ?_
    refine WK ?_; try with_reducible exact trivial
    refine NH (i := g) (m := 1) (l' := [_]) elBool (l := ((Hm (k + 2 * f) l).take j).map AO) (n := ((Hm (k + 2 * f) l).take j).length) (by (repeat rw [Ac (by omega)]); exact Aa _ _ _) (Jo.row (by (repeat rw [Ac (by omega)]); exact Aa _ _ _) (by simp [D.plain])) rfl (by simp [BJ, Value.oneCell']) (by omega) (by omega) (by simp only [List.mem_cons, List.not_mem_nil, or_false, not_false_eq_true]; try omega) ?_
    refine WK ?_; try with_reducible exact trivial
    refine ⟨(j + 1, n6 + 1, n6 + 3, n6 + 4), ⟨by dsimp only; omega, by dsimp only; omega, by dsimp only; omega, by dsimp only; omega, by dsimp only; omega, by dsimp only; omega⟩, by dsimp only; omega, (Ent.only [d, n6 + 1, n6 + 3, nx + 1] _ _ _).trans ?_⟩
    refine WKR ?_; try with_reducible exact trivial
    refine (Ent.of_rt (Ws (by omega))).trans ?_
    dsimp only
    rw [hst, hgt, hG]
    simp only [List.length_append, List.length_singleton, List.map_append, List.map_cons, List.map_nil]
    exact (Ent.of (by with_unfolding_all rfl) rfl)
  ·have hj : j = k + 2 * f := by omega
   subst hj
   rw [List.take_of_length_le (by omega), List.take_of_length_le (by omega)]
   refine WK ?_; try with_reducible exact trivial
   refine Ij [a, g] (t := .mk _) ?_
   refine WKR ?_; try with_reducible exact trivial
   refine C9 ⟨a, g, by omega, q5, by omega, q6, q4, rfl, ?_⟩
   rw [hgl]
theorem U0 {P : Program} {f : FuncId} {ds : List D} {r : Ad} {nx : Nat} {Q Q' : D → Ad → Nat → Prop} (h : H9 P f ds r nx Q)
  (k : ∀ d ro nx', Q d ro nx' → ∃ d' ro', RT ro ro' ∧ (∀ (w : World) (Z : Nat → Prop) (T : Nat → Option Value) (v : Value), Rs w Z T d v → Rs w Z T d' v) ∧ Q' d' ro' nx') : H9 P f ds r nx Q' := fun w Z T F vs ok hrs =>
 (h w Z T F vs ok hrs).mono fun en w' ⟨v, hv, d, r', nx', Z', T', F', o1, o2, o3⟩ => by
  obtain ⟨d', ro', h1, h2, h3⟩ := k d r' nx' o3
  obtain ⟨Z2, F2, o4, hz⟩ := h1 _ _ _ _ _ _ o1
  exact ⟨v, hv, d', ro', nx', Z2, T', F2, o4, Rs.keep (fun _ _ => rfl) hz (fun _ _ h => h) _ _ (h2 _ _ _ _ o2), h3⟩
theorem read_e (fs : List FileS) (most : Nat) (n : Bs) (hs : GG fs) (hn : n.length ≤ 1000) : Ry Tryz.prog Eo (fun i => [.hp i 0, BC n]) (AB fs most) (.tup [.dead, iD (Ko fs n)]) (AB fs most) := by
 intro i nx hi
 cases hf : Cf fs n with
 | none =>
  refine U0 (Sm fs most n hs hn hf i nx hi) fun d ro nx' h => ?_
  obtain ⟨rfl, rfl⟩ := h
  refine ⟨.tup [.dead, iD 5], _, RT.refl _, fun w Z T v hv => ?_, by unfold Ko; rw [hf]; rfl, rfl⟩
  simp only [Rs, RsL] at hv ⊢
  obtain ⟨us, rfl, u, us', rfl, h1, h2⟩ := hv
  exact ⟨_, rfl, u, us', rfl, trivial, h2⟩
 | some j =>
  obtain ⟨f, hj, hfe⟩ := BH hf
  refine U0 (TU fs most n hs hn hf hj i nx hi) fun d ro nx' h => ?_
  obtain ⟨k, k1, k2, rfl, rfl⟩ := h
  refine ⟨.tup [.dead, iD 0], [(i, AB fs most)], ?_, fun w Z T v hv => ?_, by unfold Ko; rw [hf]; rfl, rfl⟩
  ·have f1 := RT.only (r := [(k, Ak f.2.1), (i, AB fs most)]) [i]
   simp -dsimp (disch := omega) only [EQ, Aa, Ac, AX, Bj] at f1
   exact f1
  ·simp only [Rs, RsL] at hv ⊢
   obtain ⟨us, rfl, u, us', rfl, h1, h2⟩ := hv
   exact ⟨_, rfl, u, us', rfl, trivial, h2⟩
/-! ### a store of spoilt disks -/
section
variable {k f : Nat} (hs : CO k f) {n v : Bs} (hn : D7 n) (hv : v.length ≤ 512) (l : List CG)
include hs
theorem Hr : (EM n k f v l).length = k + 2 * f := by rw [EM, List.length_mapIdx, Ew hs]
theorem LQ {j : Nat} (hj : j < k + 2 * f) : (EM n k f v l)[j]? = some (Ht (gt l j) (bN n) (Bi j (gt (encode k f v) j))) := by
 have hej : j < (encode k f v).length := by rw [(BP hs v).2.2]; exact hj
 rw [EM, List.getElem?_mapIdx, Gl hej]
 rfl
include hv
theorem Hg {j : Nat} (hj : j < k + 2 * f) : Ie (bN n) j (gt (encode k f v) j) (gt l j) (Ht (gt l j) (bN n) (Bi j (gt (encode k f v) j))) := by
 have hn7 := hs.n
 have hr := (EC hs v hj).1
 have := DJ v.length hs.k
 exact Af6 (bN n) (by omega) _ (by omega) _
omit hv in
theorem TQ {P : List FileS → Prop} (h : ∀ j, j < k + 2 * f → P (Ht (gt l j) (bN n) (Bi j (gt (encode k f v) j)))) : ∀ fs ∈ EM n k f v l, P fs := fun fs hfs => by
 obtain ⟨j, hj, rfl⟩ := List.mem_iff_getElem.1 hfs
 rw [Hr hs] at hj
 have e := LQ hs (n := n) (v := v) l hj
 rw [List.getElem?_eq_getElem (by rw [Hr hs]; exact hj)] at e
 rw [Option.some.inj e]
 exact h j hj
include hn
theorem Wn : ∀ fs ∈ EM n k f v l, DOk fs 6000 1 := TQ hs l fun j hj => by
 have hr := (EC hs v hj).1
 have := DJ v.length hs.k
 exact (Hg hs hv l hj).ok hn (by omega) (by omega)
omit hn in
theorem TP : ∀ fs ∈ EM n k f v l, fs.length ≤ 1 := TQ hs l fun j hj => (Hg hs hv l hj).len
omit hn in
theorem AaX (m : Bs) : Qb m (EM n k f v l) := fun fs hfs => TQ hs l (P := fun fs => ∀ b, DW fs (bN m) = some b → b.length ≤ 1000) (fun j hj b hb => by
 have hr := (EC hs v hj).1
 have := DJ v.length hs.k
 exact (Hg hs hv l hj).short (by omega) hb) fs hfs
end
theorem LV (N : Nat) (l : List CG) : (Hm N l).length = N := by simp [Hm]
theorem Afq {N : Nat} (l : List CG) {j : Nat} (hj : j < N) : gt (Hm N l) j = (gt l j).good := by
 rw [Ia (by rw [LV]; exact hj)]
 simp [Hm]
theorem Yl (l : List CG) : ∀ c ∈ Va l, c.plain := fun c hc => by
 obtain ⟨x, _, h⟩ := List.mem_flatMap.1 hc
 simp only [spC, List.mem_cons, List.not_mem_nil, or_false] at h
 rcases h with rfl | rfl | rfl <;> trivial
theorem Y5 {l : List CG} (h : l.length = 7) : (Va l).take 21 = Va l := List.take_of_length_le (by rw [RU]; omega)
def blobN : Bs := [98, 108, 111, 98]
theorem P9 : D7 blobN := ⟨by decide, by decide⟩
theorem Ah7 : CO 1 1 := ⟨by decide, by decide⟩
def MV : Bs := [98, 108, 111, 98]
theorem AfV : BK 1 MV.length + 20 ≤ 500 := by decide
set_option maxRecDepth 100000 in
theorem Oc : ED Tryz.prog Ii [] (AO true) := by
 have hs := Ah7
 have hna : D7 [97] := ⟨by decide, by decide⟩
 have hnb : D7 [98] := ⟨by decide, by decide⟩
 have hv : MV.length ≤ 512 := by decide
 have hle : (Gq [97] (AZ 1 1 MV)).length = 3 := by rw [Ob, Ew hs]
 have hok := AeF (most := 500) hs hna hv (by decide) AfV
 have hsa := Rw (n := [97]) hs [97] hv
 have hsb := Rw (n := [97]) hs [98] hv
 have hp := Afc (most := 500) hs hna hv AfV
 have hg1 := AbF (n := [97]) hs hna hv (aw := [0, 2]) (by decide)
 have hg2 := Afs (k := 1) (f := 1) (n := [97]) hnb (by decide) (AZ 1 1 MV) []
 have hr := Abg (most := 500) hs hna hv
 have hb1 := Oa hs [97] MV (j := 1) (by decide)
 have hb0 := Oa hs [97] MV (j := 0) (by decide)
 have hsc := Ac6 hs (n := [97]) hv (j := 1) (by decide) (BK 1 MV.length + 20)
 have hst : (Gq [97] (AZ 1 1 MV)).set 1 [(bN [97], Bi 1 (gt (encode 1 1 MV) 1), BK 1 MV.length + 20)] = Gq [97] (AZ 1 1 MV) := Gm hb1
 generalize hL : Gq [97] (AZ 1 1 MV) = L at *
 have ho1 := hok _ (List.mem_of_getElem? hb1)
 have ho0 := hok _ (List.mem_of_getElem? hb0)
 intro nx
 refine A8 X8 (by simp only [m_law25_awake, List.length]; decide) ?_
 simp only [m_law25_awake]; refine WK ?_; try with_reducible exact trivial
 refine QC (AiB 3 500 (by omega) ⟨by omega, by omega⟩) fun a n1 h1 h2 => ?_
 rw [show (min (max (500 : Int) 0) 65536).toNat = 500 from rfl]
 simp only [Hf]
 refine WK ?_; try with_reducible exact trivial
 refine Ll [a] (GM (Aa _ _ _)) (AcT hs (List.replicate 3 []) 500 1 rfl (AbI 3 500) (by omega) (a := a) (by omega)) (by simp) fun _ _ n2 g2 ⟨t, l', t1, t2, hd, hlk, hro⟩ => ?_
 have hl' := AgS hlk
 subst hl' hd hro
 simp only [List.cons_append, List.nil_append, BO]
 refine WK ?_; try with_reducible exact trivial
 refine Jc t (Af8 hs (List.replicate 3 []) 500 1 [97] MV rfl (by decide) (by decide) (AbI 3 500) (by omega)) (by omega) (by (repeat rw [Ac (by omega)]); exact Aa _ _ _) (by simp only [List.mem_cons, List.not_mem_nil, or_false, not_false_eq_true]; try omega) fun n3 g3 => ?_
 rw [show WC 1 1 500 [97] MV (List.replicate 3 []) = (L, 0) from hp]
 simp only [BO]
 refine WK ?_; try with_reducible exact trivial
 refine Gt _ (t' := .mk _) (Aa _ _ _) (by simp [D.plain]) (by simp only [List.mem_cons, List.not_mem_nil, or_false, not_false_eq_true]; try omega) ?_
 rw [AV]
 simp only [List.map_cons, List.map_nil, Du, Aa]
 refine WK ?_; try with_reducible exact trivial
 refine Jc t (Y9 hs L 500 1 [97] [0, 2] (by omega) (by decide) (by decide) hok (by omega) hsa) (by omega) (by (repeat rw [Ac (by omega)]); exact Aa _ _ _) (by simp only [List.mem_cons, List.not_mem_nil, or_false, not_false_eq_true]; try omega) fun n4 g4 => ?_
 rw [hg1]
 simp only [BO, AdD]
 refine WK ?_; try with_reducible exact trivial
 refine OQ (t' := .mk _) ?_
 simp only [List.map_cons, List.map_nil, SL]
 refine Jc t (Y9 hs L 500 1 [98] [] (by omega) (by decide) (by decide) hok (by omega) hsb) (by omega) (by (repeat rw [Ac (by omega)]); exact Aa _ _ _) (by simp only [List.mem_cons, List.not_mem_nil, or_false, not_false_eq_true]; try omega) fun n5 g5 => ?_
 rw [hg2]
 simp only [BO, AdD]
 refine WK ?_; try with_reducible exact trivial
 refine QL t (Wj 1 1 L 500 1 1 _ (by omega) hb1 ho1 (by omega) (by omega)) (by omega) (by (repeat rw [Ac (by omega)]); exact Aa _ _ _) (by simp only [List.mem_cons, List.not_mem_nil, or_false, not_false_eq_true]; try omega) fun c n6 g6 g7 => ?_
 rw [hsc, hst]
 simp only [BO, RP]
 refine WK ?_; try with_reducible exact trivial
 refine Jc t (NR hs L 500 1 [97] hle (by decide) hok (by omega) hsa) (by omega) (by (repeat rw [Ac (by omega)]); exact Aa _ _ _) (by simp only [List.mem_cons, List.not_mem_nil, or_false, not_false_eq_true]; try omega) fun n7 g8 => ?_
 rw [hr]
 simp only [BO]
 have eb : decide ((⟨MV.toArray⟩ : ByteArray) = ⟨#[98, 108, 111, 98]⟩) = true := decide_eq_true rfl
 refine WKX @eb ?_; try with_reducible exact trivial
 refine Jc t (Agl 1 1 L 500 3 (by omega) (.inr (by omega))) (by omega) (by (repeat rw [Ac (by omega)]); exact Aa _ _ _) (by simp only [List.mem_cons, List.not_mem_nil, or_false, not_false_eq_true]; try omega) fun n8 g9 => ?_
 simp only [BO]
 refine WK ?_; try with_reducible exact trivial
 refine Ll [t] (GM (by (repeat rw [Ac (by omega)]); exact Aa _ _ _)) (Vt 1 1 L 500 0 1 _ (by omega) hb0 ho0 (by omega) (i := t) (by omega)) (by simp) fun _ _ n9 g10 ⟨_, _, c1, c2, hd, hp2, hro⟩ => ?_
 subst hd hro
 refine WK ?_; try with_reducible exact trivial
 exact Eb ⟨rfl, rfl⟩
end Go.Proofs.YtgpkbldlkadnjaaGreat
end
