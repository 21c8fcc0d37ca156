/- The law LogActs, for every input: its row, out of its contract over data. No condition. -/
import Derived.Test.YtgpkbldlkadnjaaGreatJ6
import Derived.Test.YtgpkbldlkadnjaaGreatRows
import Derived.Test.YtgpkbldlkadnjaaGreatJ3
import Derived.Test.YtgpkbldlkadnjaaGreatJ5
set_option linter.unusedVariables false
set_option linter.unusedSimpArgs false
section
set_option maxHeartbeats 3000000
attribute [local irreducible] Go.Sl.Chk Go.Sl.Br Go.Sl.Or2 Go.Sl.Ld Go.Sl.Ldn Go.Sl.LdB Go.Sl.Stn Go.Sl.New Go.Sl.Run Go.Sl.BZ Go.Sl.BQ Go.Sl.Call Go.Sl.Bc Go.Sl.Cb Go.Sl.Alt Go.Sl.Om Go.Sl.xpk Go.Sl.Dk Go.Sl.Dl Go.Sl.DLd Go.Sl.CZ Go.Sl.DBs Go.Sl.AO Go.Sl.Cf Go.Sl.CB Go.Sl.BC Go.Sl.DGC Go.Sl.BG Go.Sl.Dw Go.Sl.Ce Go.Sl.Ent Go.Sl.AZ Go.Sl.dv Go.Sl.ev Go.Sl.AU
namespace Go.Proofs.YtgpkbldlkadnjaaGreat
open Go Go.Sl Go.RowKit
theorem FK {f : FuncId} {ds ds' : List D} {r : Ad} {nx : Nat} {held : List Nat} {K : D → Ad → Nat → Prop} {t : A7 K} (h : ds = ds') (k : AO Tryz.prog f ds' held r nx K t) : AO Tryz.prog f ds held r nx K t := by
 subst h
 exact k
theorem ZB (l : List NT) {j : Nat} (hj : j < l.length) : ((TF l).drop (j * 8)).take 8 = TG (gt l j) := IL Qz l hj
set_option maxRecDepth 100000 in
theorem Abv (l : List NT) (hl : l.length ≤ 140737488351232 ∧ ∀ a ∈ l, a.ok) (C : Nat) (hC : C < 65536) : DJ Tryz.prog MJ [TE l, .sc (.int .u16 (C : Nat))] (AX true) := by
 intro nx
 refine AA RI (by simp only [m_law18_LogActs, List.length]; decide) ?_
 simp only [m_law18_LogActs]; refine WK ?_; try with_reducible exact trivial
 refine Ba VO fun n1 g1 => ?_
 refine WK ?_; try with_reducible exact trivial
 refine Ba (AeF l hl.2 hl.1) fun n2 g2 => ?_
 cases hfew : Rj l with
 | false =>
  refine WK ?_; try with_reducible exact trivial
  refine Ba VO fun n3 g3 => ?_
  refine WK ?_; try with_reducible exact trivial
  exact Bl ⟨rfl, rfl⟩
 | true =>
 obtain ⟨hl40, hsm⟩ := ZI hfew
 have hmost : (min (max (C : Int) 0) 65536).toNat = C := by omega
 refine WK ?_; try with_reducible exact trivial
 refine Rz (new_o (C : Int) ⟨by omega, by omega⟩) fun d n3 g3 g4 => ?_
 rw [hmost]
 have hk0 : DOk ([] : List FileS) C 0 := ⟨fun f hf => by simp at hf, fun f hf => by simp at hf, by simp [Ci], List.nodup_nil, by simp, fun f hf => by simp at hf⟩
 simp only [Af]
 refine WK ?_; try with_reducible exact trivial
 refine CV [d] (IE (t := Af [] C) (by (repeat rw [Ac (by omega)]); exact Aa _ _ _)) (TA hk0 (by omega) (by omega)) (by simp) fun _ _ n4 g5 ⟨x, s, x1, x2, s1, s2, xs, e1, e2⟩ => ?_
 subst e1; subst e2
 rw [show PG [] = [] from rfl, show Ji (OD []) = (0, [], 0) from rfl]
 simp only [AV, Ag, Af, List.cons_append, List.nil_append]
 refine WK ?_; try with_reducible exact trivial
 refine E5 [0, 1, 5, 6, 7, 8, 9, 10] (fun t : Nat × LL × Nat × (List VoteS × List VoteS) × List FileS × (Nat × Nat) × Nat => ([(0, TE l), (1, .sc (.int .u16 (C : Nat))), (5, .hp d 0), (6, .hp t.2.2.2.2.2.1.1 0), (7, iD (t.2.2.1 : Nat)), (8, CY (Bo t.2.2.2.1.1)), (9, bytesD (Ak t.2.1)), (10, iD (t.1 : Nat))], [(t.2.2.2.2.2.1.1, AV d t.2.2.2.2.2.1.2), (t.2.2.2.2.2.1.2, Ag t.2.2.1 t.2.2.2.1.1), (d, Af t.2.2.2.2.1 C)], t.2.2.2.2.2.2)) (fun t => t.1 ≤ l.length ∧ KI C t.2.1 t.2.2.1 t.2.2.2.1.1 t.2.2.2.1.2 t.2.2.2.2.1 ∧ (Ak t.2.1).length ≤ C ∧ t.2.2.2.1.1.length ≤ t.1 ∧ t.2.2.2.2.2.1.1 < t.2.2.2.2.2.2 ∧ t.2.2.2.2.2.1.2 < t.2.2.2.2.2.2 ∧ d < t.2.2.2.2.2.2 ∧ t.2.2.2.2.2.1.1 ≠ t.2.2.2.2.2.1.2 ∧ t.2.2.2.2.2.1.1 ≠ d ∧ t.2.2.2.2.2.1.2 ≠ d) (fun t => l.length - t.1) (0, [], 0, ([], []), [], (x, s), n4) ⟨by omega, ⟨⟨Aew, .inr ⟨rfl, rfl⟩⟩, rfl, fun v hv => by simp at hv, List.nodup_nil⟩, by simp [Ak], by simp, by dsimp only; omega, by dsimp only; omega, by dsimp only; omega, by dsimp only; omega, by dsimp only; omega, by dsimp only; omega⟩ ((Ent.nilv 8 (d := .sc (.slice none 0 0)) (by with_unfolding_all rfl)).trans ((Ent.nilv 9 (d := .sc (.slice none 0 0)) (by with_unfolding_all rfl)).trans (Ent.of (by with_unfolding_all rfl) rfl))) ?_
 clear g5 x1 x2 s1 s2 xs
 rintro ⟨k, L, p, ⟨vs, vl⟩, fs, ⟨x, s⟩, n⟩ ⟨q1, q2, q3, q4, q5, q6, q7, xs, q8, q9⟩
 dsimp only at q1 q2 q3 q4 q5 q6 q7 xs q8 q9 ⊢
 have ho := od_ok q2.st.disk (most := C) q3 (by omega)
 have hple := q2.st.log.le
 simp only [AV, Ag, Af]
 refine WK ?_; try with_reducible exact trivial
 refine brd (fun hlt => ?_) (fun hge => ?_)
 ·have hkl : k < l.length := by omega
  have hmem : gt l k ∈ l := by rw [EG hkl]; exact List.getElem_mem _
  have hta := ZB l hkl
  have h8 : 8 ≤ ((TF l).drop (k * 8)).length := by rw [List.length_drop, TF, IK Qz]; omega
  obtain ⟨a1, a2, a3, a4, a5⟩ := hl.2 _ hmem
  obtain ⟨b1, b2⟩ := hsm _ hmem
  generalize gt l k = A at *
  obtain ⟨act, b, v, keep⟩ := A
  dsimp only at a1 a2 a3 a4 a5 b1 b2
  simp only [TG, Am, List.cons_append, List.nil_append] at hta
  refine WKX @hta ?_; try with_reducible exact trivial
  have hml := Aet q2
  have hbd : (BO p vs).length ≤ 1000000 := by
   rw [← Qu]
   refine Nat.le_trans (JH _ 1000 (Q4 (fun u hu => q2.right u (KN hu)) _)) ?_
   have := NZ p (Bo vs) (Bo vs).length
   rw [IC] at this ⊢
   omega
  rcases (show (act = 0 ∧ EQ p b ∧ (Ak L).length + 20 ≤ C) ∨ (act = 0 ∧ EQ p b ∧ C < (Ak L).length + 20) ∨ (act = 0 ∧ b < 1) ∨ (act = 0 ∧ 1 ≤ b ∧ 2147483647 < b) ∨ (act = 0 ∧ 1 ≤ b ∧ b ≤ 2147483647 ∧ b ≤ p) ∨ (act = 1 ∧ (Be v ∧ (p : Int) ≤ v.ballot) ∧ (Ak L).length + (frameB (Bv v)).length ≤ C) ∨ (act = 1 ∧ (Be v ∧ (p : Int) ≤ v.ballot) ∧ C < (Ak L).length + (frameB (Bv v)).length) ∨ (act = 1 ∧ ¬ Be v) ∨ (act = 1 ∧ Be v ∧ v.ballot < (p : Int)) ∨ (act = 3 ∧ (Ak L).length + (BO p vs).length ≤ C) ∨ (act = 3 ∧ C < (Ak L).length + (BO p vs).length) ∨ (act = 2) ∨ (act ≠ 0 ∧ act ≠ 1 ∧ act ≠ 3 ∧ act ≠ 2) by
    unfold EQ
    by_cases r : Be v
    ·simp only [r, true_and, not_true_eq_false, and_false, false_or]
     omega
    ·simp only [r, false_and, and_false, false_or, not_false_eq_true, and_true]
     omega) with ⟨rfl, hp, hf⟩ | ⟨rfl, hp, hf⟩ | ⟨rfl, hr⟩ | ⟨rfl, hr1, hr⟩ | ⟨rfl, hr1, hr2, hr⟩ | ⟨rfl, hp, hf⟩ | ⟨rfl, hp, hf⟩ | ⟨rfl, hr⟩ | ⟨rfl, hr1, hr⟩ | ⟨rfl, hf⟩ | ⟨rfl, hf⟩ | rfl | ⟨u0, u1, u3, u2⟩
  case' inl =>
   obtain ⟨hE, L', m1, m2, m3⟩ := NR q2 b
   rw [if_pos hp, if_pos hf] at hE
   rw [hE, if_pos rfl] at m3
   obtain ⟨⟨p1, p2⟩, p3⟩ := id hp
   obtain ⟨B, rfl⟩ := Int.eq_ofNat_of_zero_le (show 0 ≤ b by omega)
   rw [Int.toNat_natCast] at m3
   have hM : (frameB (Aw B)).length = 20 := by rw [AQ, Bd]
   have hL2 : (Ak L').length ≤ C := by rw [m3, List.length_append]; omega
   refine WK ?_; try with_reducible exact trivial
   refine OX (t' := .mk _) ?_
   refine FK (ds' := [iD (B : Nat), CY []]) (by with_unfolding_all rfl) ?_
   refine Ba (KQ B (by omega) [] (by simp) (by simp)) fun n5 g6 => ?_
   rw [show ([] : List VoteS).length = 0 from rfl, Tq (by omega)]
   refine WK ?_; try with_reducible exact trivial
   refine CV [x, s, d] (rin := [(x, AV d s), (s, Ag p vs), (d, Af fs C)]) (by simp only [AV, Ag, Af]; simp -dsimp (disch := omega) only [Bf, Aa, Ac, Ai, Aj]; rfl) (IG (b := (B : Int)) ho (by omega) q2.right hple (by omega) (by omega) (by omega) xs (by omega) (by omega)) (by simp) fun _ _ w g7 ⟨e3, e4⟩ => ?_
   subst e3; subst e4
   rw [hE]
   generalize H5 fs C p vs (B : Int) = P at *
   generalize Iz fs C p (B : Int) = fs at *
   obtain ⟨p, vs⟩ := P
   dsimp only at m1 m2 ⊢
   subst m2
   have hv1 : vs.length ≤ k + 1 := by omega
   simp only [AV, Ag, Af, List.cons_append, List.nil_append]
   refine WK ?_; try with_reducible exact trivial
   refine Jm (i := w) (m := (Ak L).length) (l' := (Ak L).map bD) elB (l := []) (n := 0) (Aa _ _ _) (FW.sl _ _ _) (by simp) CP (by omega) (by omega) (by simp only [List.mem_cons, List.not_mem_nil, or_false, not_false_eq_true]; try omega) ?_
   refine WK ?_; try with_reducible exact trivial
   refine Sv (w + 1) (Ak L) (frameB (Aw B)) (Aa _ _ _) (by omega) (by simp only [List.mem_cons, List.not_mem_nil, or_false, not_false_eq_true]; try omega) ?_
   rw [← m3]
   refine WK ?_; try with_reducible exact trivial
  case' inr.inl =>
   obtain ⟨hE, L', m1, m2, m3⟩ := NR q2 b
   rw [if_pos hp, if_neg (by omega)] at hE
   rw [hE, if_neg (by decide)] at m3
   obtain ⟨⟨p1, p2⟩, p3⟩ := id hp
   obtain ⟨B, rfl⟩ := Int.eq_ofNat_of_zero_le (show 0 ≤ b by omega)
   have hM : (frameB (Aw B)).length = 20 := by rw [AQ, Bd]
   have hL2 : (Ak L').length ≤ C := by rw [m3]; omega
   refine WK ?_; try with_reducible exact trivial
   refine OX (t' := .mk _) ?_
   refine FK (ds' := [iD (B : Nat), CY []]) (by with_unfolding_all rfl) ?_
   refine Ba (KQ B (by omega) [] (by simp) (by simp)) fun n5 g6 => ?_
   rw [show ([] : List VoteS).length = 0 from rfl, Tq (by omega)]
   refine WK ?_; try with_reducible exact trivial
   refine CV [x, s, d] (rin := [(x, AV d s), (s, Ag p vs), (d, Af fs C)]) (by simp only [AV, Ag, Af]; simp -dsimp (disch := omega) only [Bf, Aa, Ac, Ai, Aj]; rfl) (IG (b := (B : Int)) ho (by omega) q2.right hple (by omega) (by omega) (by omega) xs (by omega) (by omega)) (by simp) fun _ _ w g7 ⟨e3, e4⟩ => ?_
   subst e3; subst e4
   rw [hE]
   generalize H5 fs C p vs (B : Int) = P at *
   generalize Iz fs C p (B : Int) = fs at *
   obtain ⟨p, vs⟩ := P
   dsimp only at m1 m2 ⊢
   subst m2
   have hv1 : vs.length ≤ k + 1 := by omega
   simp only [AV, Ag, Af, List.cons_append, List.nil_append]
   refine WK ?_; try with_reducible exact trivial
   rw [← m3]
  case' inr.inr.inl =>
   obtain ⟨hE, L', m1, m2, m3⟩ := NR q2 b
   rw [if_neg (fun h => by unfold EQ at h; omega)] at hE
   rw [hE, if_neg (by decide)] at m3
   have hL2 : (Ak L').length ≤ C := by rw [m3]; omega
   refine WK ?_; try with_reducible exact trivial
   refine CV [x, s, d] (rin := [(x, AV d s), (s, Ag p vs), (d, Af fs C)]) (by simp only [AV, Ag, Af]; simp -dsimp (disch := omega) only [Bf, Aa, Ac, Ai, Aj]; rfl) (IG (b := b) ho (by omega) q2.right hple (by omega) (by omega) (by omega) xs (by omega) (by omega)) (by simp) fun _ _ w g7 ⟨e3, e4⟩ => ?_
   subst e3; subst e4
   rw [hE]
   generalize H5 fs C p vs b = P at *
   generalize Iz fs C p b = fs at *
   obtain ⟨p, vs⟩ := P
   dsimp only at m1 m2 ⊢
   subst m2
   have hv1 : vs.length ≤ k + 1 := by omega
   simp only [AV, Ag, Af, List.cons_append, List.nil_append]
   refine WK ?_; try with_reducible exact trivial
   rw [← m3]
  case' inr.inr.inr.inl =>
   obtain ⟨hE, L', m1, m2, m3⟩ := NR q2 b
   rw [if_neg (fun h => by unfold EQ at h; omega)] at hE
   rw [hE, if_neg (by decide)] at m3
   have hL2 : (Ak L').length ≤ C := by rw [m3]; omega
   refine WK ?_; try with_reducible exact trivial
   refine CV [x, s, d] (rin := [(x, AV d s), (s, Ag p vs), (d, Af fs C)]) (by simp only [AV, Ag, Af]; simp -dsimp (disch := omega) only [Bf, Aa, Ac, Ai, Aj]; rfl) (IG (b := b) ho (by omega) q2.right hple (by omega) (by omega) (by omega) xs (by omega) (by omega)) (by simp) fun _ _ w g7 ⟨e3, e4⟩ => ?_
   subst e3; subst e4
   rw [hE]
   generalize H5 fs C p vs b = P at *
   generalize Iz fs C p b = fs at *
   obtain ⟨p, vs⟩ := P
   dsimp only at m1 m2 ⊢
   subst m2
   have hv1 : vs.length ≤ k + 1 := by omega
   simp only [AV, Ag, Af, List.cons_append, List.nil_append]
   refine WK ?_; try with_reducible exact trivial
   rw [← m3]
  case' inr.inr.inr.inr.inl =>
   obtain ⟨hE, L', m1, m2, m3⟩ := NR q2 b
   rw [if_neg (fun h => by unfold EQ at h; omega)] at hE
   rw [hE, if_neg (by decide)] at m3
   have hL2 : (Ak L').length ≤ C := by rw [m3]; omega
   refine WK ?_; try with_reducible exact trivial
   refine CV [x, s, d] (rin := [(x, AV d s), (s, Ag p vs), (d, Af fs C)]) (by simp only [AV, Ag, Af]; simp -dsimp (disch := omega) only [Bf, Aa, Ac, Ai, Aj]; rfl) (IG (b := b) ho (by omega) q2.right hple (by omega) (by omega) (by omega) xs (by omega) (by omega)) (by simp) fun _ _ w g7 ⟨e3, e4⟩ => ?_
   subst e3; subst e4
   rw [hE]
   generalize H5 fs C p vs b = P at *
   generalize Iz fs C p b = fs at *
   obtain ⟨p, vs⟩ := P
   dsimp only at m1 m2 ⊢
   subst m2
   have hv1 : vs.length ≤ k + 1 := by omega
   simp only [AV, Ag, Af, List.cons_append, List.nil_append]
   refine WK ?_; try with_reducible exact trivial
   rw [← m3]
  case' inr.inr.inr.inr.inr.inl =>
   obtain ⟨hE, L', vl', m1, m2, m3⟩ := Qb q2 v
   rw [if_pos hp, if_pos hf] at hE
   rw [hE, if_pos rfl] at m3
   have hvl := EI hp.1
   have hfl := AQ (Bv v)
   have hL2 : (Ak L').length ≤ C := by rw [m3, List.length_append]; omega
   have hb := hp.2
   refine WK ?_; try with_reducible exact trivial
   refine FK (ds' := [.agg (Am v)]) (by with_unfolding_all rfl) ?_
   refine Ba (KJ v) fun n5 g6 => ?_
   rw [decide_eq_true hp.1]
   refine WK ?_; try with_reducible exact trivial
   refine Gw n5 (t' := .mk _) (Aa _ _ _) (fun y hy => Gm [v] y hy) (by simp only [List.mem_cons, List.not_mem_nil, or_false, not_false_eq_true]; try omega) ?_
   rw [A8]
   simp only [List.map_cons, List.map_nil, Dx, Aa]
   refine FK (ds' := [iD (0 : Nat), CY [v]]) (by with_unfolding_all rfl) ?_
   refine Ba (KQ 0 (by omega) [v] (by simpa using hp.1) (by simp)) fun n6 g7 => ?_
   rw [show [v].length = 1 from rfl, Tn]
   refine WK ?_; try with_reducible exact trivial
   refine FK (ds' := [.hp x 0, .agg (Am v)]) (by with_unfolding_all rfl) ?_
   refine CV [x, s, d] (rin := [(x, AV d s), (s, Ag p vs), (d, Af fs C)]) (by simp only [AV, Ag, Af]; simp -dsimp (disch := omega) only [Bf, Aa, Ac, Ai, Aj]; rfl) (SK (v := v) ho (by omega) q2.right hple (by omega) (by omega) (by omega) xs (by omega) (by omega)) (by simp) fun _ _ w g7 ⟨e3, e4⟩ => ?_
   subst e3; subst e4
   rw [hE]
   generalize EK fs C p vs v = P at *
   generalize JE fs C p v = fs at *
   obtain ⟨p, vs1⟩ := P
   dsimp only at m1 m2 ⊢
   have hv1 : vs1.length ≤ k + 1 := by omega
   clear q2
   generalize hvv : vs1 = vs at *
   simp only [AV, Ag, Af, List.cons_append, List.nil_append]
   refine WK ?_; try with_reducible exact trivial
   refine Jm (i := w) (m := (Ak L).length) (l' := (Ak L).map bD) elB (l := []) (n := 0) (Aa _ _ _) (FW.sl _ _ _) (by simp) CP (by omega) (by omega) (by simp only [List.mem_cons, List.not_mem_nil, or_false, not_false_eq_true]; try omega) ?_
   refine WK ?_; try with_reducible exact trivial
   refine Sv (w + 1) (Ak L) (frameB (Bv v)) (Aa _ _ _) (by omega) (by simp only [List.mem_cons, List.not_mem_nil, or_false, not_false_eq_true]; try omega) ?_
   rw [← m3]
   refine WK ?_; try with_reducible exact trivial
  case' inr.inr.inr.inr.inr.inr.inl =>
   obtain ⟨hE, L', vl', m1, m2, m3⟩ := Qb q2 v
   rw [if_pos hp, if_neg (by omega)] at hE
   rw [hE, if_neg (by decide)] at m3
   have hvl := EI hp.1
   have hfl := AQ (Bv v)
   have hL2 : (Ak L').length ≤ C := by rw [m3]; omega
   have hb := hp.2
   refine WK ?_; try with_reducible exact trivial
   refine FK (ds' := [.agg (Am v)]) (by with_unfolding_all rfl) ?_
   refine Ba (KJ v) fun n5 g6 => ?_
   rw [decide_eq_true hp.1]
   refine WK ?_; try with_reducible exact trivial
   refine Gw n5 (t' := .mk _) (Aa _ _ _) (fun y hy => Gm [v] y hy) (by simp only [List.mem_cons, List.not_mem_nil, or_false, not_false_eq_true]; try omega) ?_
   rw [A8]
   simp only [List.map_cons, List.map_nil, Dx, Aa]
   refine FK (ds' := [iD (0 : Nat), CY [v]]) (by with_unfolding_all rfl) ?_
   refine Ba (KQ 0 (by omega) [v] (by simpa using hp.1) (by simp)) fun n6 g7 => ?_
   rw [show [v].length = 1 from rfl, Tn]
   refine WK ?_; try with_reducible exact trivial
   refine FK (ds' := [.hp x 0, .agg (Am v)]) (by with_unfolding_all rfl) ?_
   refine CV [x, s, d] (rin := [(x, AV d s), (s, Ag p vs), (d, Af fs C)]) (by simp only [AV, Ag, Af]; simp -dsimp (disch := omega) only [Bf, Aa, Ac, Ai, Aj]; rfl) (SK (v := v) ho (by omega) q2.right hple (by omega) (by omega) (by omega) xs (by omega) (by omega)) (by simp) fun _ _ w g7 ⟨e3, e4⟩ => ?_
   subst e3; subst e4
   rw [hE]
   generalize EK fs C p vs v = P at *
   generalize JE fs C p v = fs at *
   obtain ⟨p, vs1⟩ := P
   dsimp only at m1 m2 ⊢
   have hv1 : vs1.length ≤ k + 1 := by omega
   clear q2
   generalize hvv : vs1 = vs at *
   simp only [AV, Ag, Af, List.cons_append, List.nil_append]
   refine WK ?_; try with_reducible exact trivial
   rw [← m3]
  case' inr.inr.inr.inr.inr.inr.inr.inl =>
   obtain ⟨hE, L', vl', m1, m2, m3⟩ := Qb q2 v
   rw [if_neg (fun h => hr h.1)] at hE
   rw [hE, if_neg (by decide)] at m3
   have hL2 : (Ak L').length ≤ C := by rw [m3]; omega
   refine WK ?_; try with_reducible exact trivial
   refine FK (ds' := [.agg (Am v)]) (by with_unfolding_all rfl) ?_
   refine Ba (KJ v) fun n5 g6 => ?_
   rw [decide_eq_false hr]
   refine WK ?_; try with_reducible exact trivial
   refine FK (ds' := [.hp x 0, .agg (Am v)]) (by with_unfolding_all rfl) ?_
   refine CV [x, s, d] (rin := [(x, AV d s), (s, Ag p vs), (d, Af fs C)]) (by simp only [AV, Ag, Af]; simp -dsimp (disch := omega) only [Bf, Aa, Ac, Ai, Aj]; rfl) (SK (v := v) ho (by omega) q2.right hple (by omega) (by omega) (by omega) xs (by omega) (by omega)) (by simp) fun _ _ w g7 ⟨e3, e4⟩ => ?_
   subst e3; subst e4
   rw [hE]
   generalize EK fs C p vs v = P at *
   generalize JE fs C p v = fs at *
   obtain ⟨p, vs1⟩ := P
   dsimp only at m1 m2 ⊢
   have hv1 : vs1.length ≤ k + 1 := by omega
   clear q2
   generalize hvv : vs1 = vs at *
   simp only [AV, Ag, Af, List.cons_append, List.nil_append]
   refine WK ?_; try with_reducible exact trivial
   rw [← m3]
  case' inr.inr.inr.inr.inr.inr.inr.inr.inl =>
   obtain ⟨hE, L', vl', m1, m2, m3⟩ := Qb q2 v
   rw [if_neg (fun h => by have := h.2; omega)] at hE
   rw [hE, if_neg (by decide)] at m3
   have hL2 : (Ak L').length ≤ C := by rw [m3]; omega
   refine WK ?_; try with_reducible exact trivial
   refine FK (ds' := [.agg (Am v)]) (by with_unfolding_all rfl) ?_
   refine Ba (KJ v) fun n5 g6 => ?_
   rw [decide_eq_true hr1]
   refine WK ?_; try with_reducible exact trivial
   refine FK (ds' := [.hp x 0, .agg (Am v)]) (by with_unfolding_all rfl) ?_
   refine CV [x, s, d] (rin := [(x, AV d s), (s, Ag p vs), (d, Af fs C)]) (by simp only [AV, Ag, Af]; simp -dsimp (disch := omega) only [Bf, Aa, Ac, Ai, Aj]; rfl) (SK (v := v) ho (by omega) q2.right hple (by omega) (by omega) (by omega) xs (by omega) (by omega)) (by simp) fun _ _ w g7 ⟨e3, e4⟩ => ?_
   subst e3; subst e4
   rw [hE]
   generalize EK fs C p vs v = P at *
   generalize JE fs C p v = fs at *
   obtain ⟨p, vs1⟩ := P
   dsimp only at m1 m2 ⊢
   have hv1 : vs1.length ≤ k + 1 := by omega
   clear q2
   generalize hvv : vs1 = vs at *
   simp only [AV, Ag, Af, List.cons_append, List.nil_append]
   refine WK ?_; try with_reducible exact trivial
   rw [← m3]
  case' inr.inr.inr.inr.inr.inr.inr.inr.inr.inl =>
   obtain ⟨hE, L', vl', m1, m3⟩ := YS q2
   rw [if_pos hf] at hE
   rw [hE, if_pos rfl] at m3
   have hL2 : (Ak L').length ≤ C := by rw [m3]; omega
   have hv1 : vs.length ≤ k + 1 := by omega
   refine WK ?_; try with_reducible exact trivial
   refine Ba (KQ p hple (Bo vs) (fun u hu => q2.right u (KN hu)) (by rw [IC]; omega)) fun n5 g6 => ?_
   rw [Qu]
   refine WK ?_; try with_reducible exact trivial
   refine CV [x, s, d] (rin := [(x, AV d s), (s, Ag p vs), (d, Af fs C)]) (by simp only [AV, Ag, Af]; simp -dsimp (disch := omega) only [Bf, Aa, Ac, Ai, Aj]; rfl) (QH ho (by omega) q2.right hple (by omega) (by omega) (by omega) (by omega) xs (by omega) (by omega)) (by simp) fun _ _ w g7 ⟨e3, e4⟩ => ?_
   subst e3; subst e4
   rw [hE]
   generalize Ox fs C p vs = fs at *
   simp only [AV, Ag, Af, List.cons_append, List.nil_append]
   refine WK ?_; try with_reducible exact trivial
   rw [← m3]
  case' inr.inr.inr.inr.inr.inr.inr.inr.inr.inr.inl =>
   obtain ⟨hE, L', vl', m1, m3⟩ := YS q2
   rw [if_neg (by omega)] at hE
   rw [hE, if_neg (by decide)] at m3
   have hL2 : (Ak L').length ≤ C := by rw [m3]; omega
   have hv1 : vs.length ≤ k + 1 := by omega
   refine WK ?_; try with_reducible exact trivial
   refine Ba (KQ p hple (Bo vs) (fun u hu => q2.right u (KN hu)) (by rw [IC]; omega)) fun n5 g6 => ?_
   rw [Qu]
   refine WK ?_; try with_reducible exact trivial
   refine CV [x, s, d] (rin := [(x, AV d s), (s, Ag p vs), (d, Af fs C)]) (by simp only [AV, Ag, Af]; simp -dsimp (disch := omega) only [Bf, Aa, Ac, Ai, Aj]; rfl) (QH ho (by omega) q2.right hple (by omega) (by omega) (by omega) (by omega) xs (by omega) (by omega)) (by simp) fun _ _ w g7 ⟨e3, e4⟩ => ?_
   subst e3; subst e4
   rw [hE]
   generalize Ox fs C p vs = fs at *
   simp only [AV, Ag, Af, List.cons_append, List.nil_append]
   refine WK ?_; try with_reducible exact trivial
   rw [← m3]
  case' inr.inr.inr.inr.inr.inr.inr.inr.inr.inr.inr.inl =>
   obtain ⟨o1, o2, m1⟩ := YR q2
   have hcr := XW q2.st.disk q3 (by omega) keep
   have hfl : fs.length ≤ 1000000 := by rcases q2.st.disk with rfl | ⟨rfl, _⟩ <;> simp [Dp]
   obtain ⟨L', rfl⟩ : ∃ z, z = L := ⟨_, rfl⟩
   have hL2 := q3
   refine WK ?_; try with_reducible exact trivial
   refine QG d (AeJ fs C keep ho.small ho.sync a5 hfl (by omega)) (by omega) (by (repeat rw [Ac (by omega)]); exact Aa _ _ _) (by simp only [List.mem_cons, List.not_mem_nil, or_false, not_false_eq_true]; try omega) fun n5 g6 => ?_
   rw [hcr]
   simp only [Af]
   refine WK ?_; try with_reducible exact trivial
   refine CV [d] (IE (t := Af fs C) (by (repeat rw [Ac (by omega)]); exact Aa _ _ _)) (TA ho (by omega) (by omega)) (by simp) fun _ _ w g7 ⟨x, s, x1, x2, s1, s2, xs, e3, e4⟩ => ?_
   subst e3; subst e4
   rw [o1, o2]
   dsimp only
   obtain ⟨vs, rfl⟩ : ∃ z, z = vl := ⟨_, rfl⟩
   have hv1 : vs.length ≤ k + 1 := by omega
   simp only [AV, Ag, Af, List.cons_append, List.nil_append]
   refine WK ?_; try with_reducible exact trivial
   refine Jm (i := w) (m := (Ak L').length) (l' := (Ak L').map bD) elB (l := []) (n := 0) (Aa _ _ _) (FW.sl _ _ _) (by simp) CP (by omega) (by omega) (by simp only [List.mem_cons, List.not_mem_nil, or_false, not_false_eq_true]; try omega) ?_
   refine WK ?_; try with_reducible exact trivial
   refine Yo (w + 1) (Ak L') (Aa _ _ _) (by omega) (by simp only [List.mem_cons, List.not_mem_nil, or_false, not_false_eq_true]; try omega) ?_
   refine WK ?_; try with_reducible exact trivial
  case' inr.inr.inr.inr.inr.inr.inr.inr.inr.inr.inr.inr =>
   obtain ⟨o1, o2, m1⟩ := YR q2
   have hcr := XW q2.st.disk q3 (by omega) keep
   have hfl : fs.length ≤ 1000000 := by rcases q2.st.disk with rfl | ⟨rfl, _⟩ <;> simp [Dp]
   obtain ⟨L', rfl⟩ : ∃ z, z = L := ⟨_, rfl⟩
   have hL2 := q3
   refine WK ?_; try with_reducible exact trivial
   refine CV [d] (IE (t := Af fs C) (by (repeat rw [Ac (by omega)]); exact Aa _ _ _)) (TA ho (by omega) (by omega)) (by simp) fun _ _ w g7 ⟨x, s, x1, x2, s1, s2, xs, e3, e4⟩ => ?_
   subst e3; subst e4
   rw [o1, o2]
   dsimp only
   obtain ⟨vs, rfl⟩ : ∃ z, z = vl := ⟨_, rfl⟩
   have hv1 : vs.length ≤ k + 1 := by omega
   simp only [AV, Ag, Af, List.cons_append, List.nil_append]
   refine WK ?_; try with_reducible exact trivial
   refine Jm (i := w) (m := (Ak L').length) (l' := (Ak L').map bD) elB (l := []) (n := 0) (Aa _ _ _) (FW.sl _ _ _) (by simp) CP (by omega) (by omega) (by simp only [List.mem_cons, List.not_mem_nil, or_false, not_false_eq_true]; try omega) ?_
   refine WK ?_; try with_reducible exact trivial
   refine Yo (w + 1) (Ak L') (Aa _ _ _) (by omega) (by simp only [List.mem_cons, List.not_mem_nil, or_false, not_false_eq_true]; try omega) ?_
   refine WK ?_; try with_reducible exact trivial
  all_goals
   have hlp := m1.st.log.le
   have ho2 := od_ok m1.st.disk (most := C) hL2 (by omega)
   have hsay := AaJ m1.st.log
   have hsame := Acr (Bo vs) (Bo vs) (by rw [IC]; omega)
   rw [decide_eq_true rfl] at hsame
   have hs1 := Acs (Ak L') (Ak L')
   rw [decide_eq_true rfl] at hs1
   refine Ba (Ad7 (Ak L') (by omega)) fun m5 h5 => ?_
   rw [hsay]
   dsimp only
   rw [← m1.same]
   refine WK ?_; try with_reducible exact trivial
   refine QG d (read_b m1.st.disk ho2) (by omega) (by (repeat rw [Ac (by omega)]); exact Aa _ _ _) (by simp only [List.mem_cons, List.not_mem_nil, or_false, not_false_eq_true]; try omega) fun m6 h6 => ?_
   simp only [Af]
   refine WK ?_; try with_reducible exact trivial
   refine CV [x, s, d] (rin := [(x, AV d s), (s, Ag p vs), (d, Af fs C)]) (by simp only [AV, Ag, Af]; simp -dsimp (disch := omega) only [Bf, Aa, Ac, Ai, Aj]; rfl) (Tu xs (by omega) (by omega)) (by simp) fun _ _ m7 h7 ⟨e3, e4⟩ => ?_
   subst e3; subst e4
   simp only [AV, Ag, Af, List.cons_append, List.nil_append]
   refine WK ?_; try with_reducible exact trivial
   refine CV [x, s, d] (rin := [(x, AV d s), (s, Ag p vs), (d, Af fs C)]) (by simp only [AV, Ag, Af]; simp -dsimp (disch := omega) only [Bf, Aa, Ac, Ai, Aj]; rfl) (RP m1.right (by omega) (by omega) (by omega) (by omega) xs (by omega) (by omega)) (by simp) fun _ _ m8 h8 ⟨q, t1, t2, e3, e4⟩ => ?_
   subst e3; subst e4
   simp only [AV, Ag, Af, G9, List.cons_append, List.nil_append]
   refine WK ?_; try with_reducible exact trivial
   refine Gw q (t' := .mk _) (by (repeat rw [Ac (by omega)]); exact Aa _ _ _) (Gm _) (by simp only [List.mem_cons, List.not_mem_nil, or_false, not_false_eq_true]; try omega) ?_
   refine WK ?_; try with_reducible exact trivial
   refine Ba hsame fun m9 h9 => ?_
   refine WK ?_; try with_reducible exact trivial
   refine CV [x, s, d] (rin := [(x, AV d s), (s, Ag p vs), (d, Af fs C)]) (by simp only [AV, Ag, Af]; simp -dsimp (disch := omega) only [Bf, Aa, Ac, Ai, Aj]; rfl) (Acm ho2 (by omega) (by omega) (by omega) (by omega) xs (by omega) (by omega)) (by simp) fun _ _ m10 h10 ⟨e3, e4⟩ => ?_
   subst e3; subst e4
   rw [AaH m1.st.disk]
   simp only [AV, Ag, Af, G9, List.cons_append, List.nil_append]
   refine WK ?_; try with_reducible exact trivial
   refine Ba hs1 fun m11 h11 => ?_
   refine WK ?_; try with_reducible exact trivial
   exact ⟨(k + 1, L', p, (vs, _), fs, (x, s), m11), ⟨by dsimp only; omega, m1, hL2, hv1, by dsimp only; omega, by dsimp only; omega, by dsimp only; omega, xs, by dsimp only; omega, by dsimp only; omega⟩, by dsimp only; omega, (Ent.only [x, s, d] _ _ _).trans (by simp -dsimp (disch := omega) only [Bf, Aa, Ac, Ai, Aj]; exact (Ent.of (by with_unfolding_all rfl) rfl))⟩
 ·refine WK ?_; try with_reducible exact trivial
  exact Bl ⟨rfl, rfl⟩
end Go.Proofs.YtgpkbldlkadnjaaGreat
end
set_option linter.unusedVariables false
namespace Go.Proofs.YtgpkbldlkadnjaaGreat.logActs
open Go Go.Sl Go.ChangeShapes Go.WideShapes Go.ChangeAt Go.RowKit
open Go.ChangeMaps (open_string shut_string)
theorem laidOut : laidOutB Tryz.prog = true := Aaj
set_option maxRecDepth 100000 in
theorem lifted (os : Os) (started : os.Started) (H : Type) (enc : TypeId × Value → H) :
  ReturnsInHanded {} Tryz.checked os 3 .any (Rows.logActsSpec.pre6 enc Tryz.prog Tryz.f3 Rows.logActsRow.domain false) (Rows.logActsSpec.post enc Tryz.prog Tryz.f3 false true false false) := by
 refine returnsInHanded_of_change_sized (C := Tryz.checked) zf_own started (by kernel_rfl) Tryz.func3
  (ChangeSpec.witness6 (enc := enc) (C := Tryz.checked) false ⟨#[], #[.slice none 0 0, .int .u16 0], []⟩ 8 (by kernel_rfl) (by kernel_rfl) (by kernel_rfl) (by kernel_rfl)) ?_
 intro W base args ds gs before hval0 hW hcnd hsz0 _
 have hsz : (DataW.weightsEach Tryz.prog (Tryz.f3.params.toList ++ Rows.logActsSpec.plain.varTypes Tryz.prog) (ds ++ gs)).all (· ≤ reachBytes) = true := hsz0
 have hval : ∀ (j : Nat) t v, Tryz.f3.params[j]? = some t → args[j]? = some v → Value.okWide Tryz.prog W .any base t v := hval0
 have hW' := hW
 obtain ⟨p, q, hA0, hV, rfl, hfz, hnd⟩ := hW
 have hA : DataW.TrodAll enc Tryz.prog W 0 (fun _ => true) true Tryz.f3.params.toList args.toList ds p := hA0
 rw [Tryz.params3] at hA hval hsz
 obtain ⟨v0, vs0, d0, ds0, p0, q0, hargs, rfl, rfl, h0, r0⟩ := trodAll_cons hA
 obtain ⟨v1, vs1, d1, ds1, p1, q1, rfl, rfl, rfl, h1, r1⟩ := trodAll_cons r0
 obtain ⟨rfl, rfl, rfl⟩ := trodAll_nil r1
 obtain rfl : args = #[v0, v1] := by cases args; simp_all
 obtain ⟨rfl, rfl⟩ := trodVars_none hV
 have k0 := h0
 have lt0 : ∀ x ∈ p0, x.block < W.heap.size := by obtain ⟨m, hm⟩ := k0; exact DataW.trod_lt m _ _ _ hm
 obtain ⟨m0, rs0, hb0⟩ := AcK.slice Tryz.underlying22 (hval 0 22 v0 rfl rfl) h0 (Acl hsz (j := 0) rfl rfl)
 obtain ⟨a1, rfl, rfl, rfl, w1⟩ := open_int Tryz.underlying23 (hval 1 23 v1 rfl rfl) h1
 obtain ⟨n1, rfl, b1⟩ := AdG w1
 clear hA0 hval0 hsz0 hsz
 refine (UJ (Abv m0 hb0 n1 b1) (XH rs0 (XH (rs_sc _) Ad5))).mono fun e W' ⟨he, bel⟩ => ?_
 subst he
 exact ⟨_, rfl, _, _, _, [], _, [], hW', trodAll_mk1 (shut_bool Tryz.underlying4 _), (trodAll_cons_mk (Below.trod laidOut (by kernel_rfl) (of_decide_eq_true (by kernel_rfl)) k0 bel lt0) (trodAll_cons_mk (shut_int Tryz.underlying23 w1) trodAll_mk0)), rfl, bel.frame _, fun h => by cases h⟩
theorem inP : Tryz.prog.inPlace 3 = [] := by kernel_rfl
theorem unf : Tryz.prog.unfollowed 3 = true := by kernel_rfl
theorem rec : Tryz.prog.recurses 3 = true := by kernel_rfl
theorem nam : Tryz.prog.varsNamed 3 = [] := by kernel_rfl
theorem fnm : Tryz.prog.funcNamed Rows.logActsRow.func = some 3 := by kernel_rfl
theorem facts : joinedFacts Tryz.prog 3 Tryz.f3 Rows.logActsSpec Rows.logActsRow = true :=
 Ac3 Aaj AdD AbO AbR AbP AbS AbT AbQ AdE inP unf rec nam rfl rfl rfl rfl rfl rfl rfl rfl rfl
  (by kernel_rfl) (by kernel_rfl) (by kernel_rfl) (by kernel_rfl) (by kernel_rfl) (by kernel_rfl) (by kernel_rfl) (by kernel_rfl) (by kernel_rfl) (by kernel_rfl) (by kernel_rfl) (by kernel_rfl) (by kernel_rfl) rfl rfl (by kernel_rfl) (by kernel_rfl) (by kernel_rfl)
theorem over : Rows.logActsRow.holds Tryz.pinned (OpenSpec.ofChange Rows.logActsSpec) :=
 OpenClaim.holds_of_wide 3 Tryz.f3 rfl rfl rfl rfl rfl rfl rfl ⟨rfl, rfl, rfl, rfl, rfl⟩ rfl rfl rfl rfl rfl fnm Tryz.func3 facts
  (of_decide_eq_true (by kernel_rfl)) (by unfold Func.isWrapper; first | (rw [if_pos (by decide +kernel)]; kernel_rfl) | (rw [if_neg (by decide +kernel)]; exact ⟨rfl, rfl⟩))
  (fun os started H enc _ => lifted os started H enc)
theorem proved : Rows.LogActsSaid := over
end Go.Proofs.YtgpkbldlkadnjaaGreat.logActs
namespace Go.Proofs.YtgpkbldlkadnjaaGreat
theorem logActs_holds : Rows.LogActsSaid := logActs.proved
#print axioms logActs_holds
end Go.Proofs.YtgpkbldlkadnjaaGreat
