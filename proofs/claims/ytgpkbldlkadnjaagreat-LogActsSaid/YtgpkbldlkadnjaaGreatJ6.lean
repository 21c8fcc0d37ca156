/- Plain: frames and records as the reference reads them, by places. -/
import Derived.Test.YtgpkbldlkadnjaaGreatJ5
import Derived.Test.YtgpkbldlkadnjaaGreatJ3
import Derived.Test.YtgpkbldlkadnjaaGreatJ1
set_option linter.unusedVariables false
set_option linter.unusedSimpArgs false
section
set_option maxHeartbeats 2000000
namespace Go.Proofs.YtgpkbldlkadnjaaGreat
open Go Go.Sl
theorem AaI {b : Bs} (h : 4 ≤ b.length) : Ar (BD b) = b.take 4 := by
 obtain ⟨x0, x1, x2, x3, r, rfl⟩ : ∃ x0 x1 x2 x3 r, b = x0 :: x1 :: x2 :: x3 :: r := by
  match b, h with
  | x0 :: x1 :: x2 :: x3 :: r, _ => exact ⟨_, _, _, _, _, rfl⟩
 have h0 := x0.toNat_lt
 have h1 := x1.toNat_lt
 have h2 := x2.toNat_lt
 have h3 := x3.toNat_lt
 simp only [BD, List.getD_cons_zero, List.getD_cons_succ, Ar, List.take_succ_cons, List.take_zero, List.cons.injEq, and_true]
 refine ⟨?_, ?_, ?_, ?_⟩ <;> (apply UInt8.toNat_inj.1; rw [UInt8.toNat_ofNat']; omega)
theorem UQ {b : Bs} {n : Nat} (h : 4 ≤ b.length) (hn : n < 4294967296) : b.take 4 = Ar n ↔ BD b = n := by
 rw [← AaI h]
 constructor
 ·intro e
  have := congrArg (fun x => BD (x ++ [])) e
  simpa only [Hr (Nj b), Hr hn] using this
 ·rintro rfl; rfl
def rAt (b : Bs) (k : Nat) : Int := if k + 4 ≤ b.length then (BD (b.drop k) : Nat) else -1
theorem KA (b : Bs) (k : Nat) : -1 ≤ rAt b k ∧ rAt b k < 4294967296 := by
 have := Nj (b.drop k)
 unfold rAt
 split <;> omega
theorem AdL {b : Bs} {x y : Bs} (hb : 12 ≤ b.length) (hx : x.length = 4) (hy : y.length = 4) : b.take 12 = b.take 4 ++ (x ++ y) ↔ (b.drop 4).take 4 = x ∧ (b.drop 8).take 4 = y := by
 have e : b.take 12 = b.take 4 ++ ((b.drop 4).take 4 ++ (b.drop 8).take 4) := by
  rw [show (12 : Nat) = 4 + (4 + 4) from rfl, List.take_add, List.take_add, List.drop_drop]
 rw [e]
 constructor
 ·intro h
  have h1 := List.append_cancel_left h
  exact List.append_inj h1 (by rw [List.length_take, List.length_drop, hx]; omega)
 ·rintro ⟨rfl, rfl⟩; rfl
theorem AeI (b : Bs) (k : Nat) (hk : k ≤ b.length) : Jt (b.drop k) =
  if rAt b k < 0 ∨ 65535 < rAt b k ∨ (b.length : Int) < k + 12 + rAt b k then none
  else if rAt b (k + 4) ≠ (Dy ((b.drop k).take 4) : Nat) ∨ rAt b (k + 8) ≠ (Dy ((b.drop (k + 12)).take (rAt b k).toNat) : Nat) then none
  else some ((b.drop (k + 12)).take (rAt b k).toNat, b.drop (k + 12 + (rAt b k).toNat)) := by
 unfold Jt
 rw [List.length_drop]
 by_cases h1 : b.length - k < 12
 ·rw [if_pos h1, if_pos]
  unfold rAt
  split <;> omega
 ·have e1 : rAt b k = (BD (b.drop k) : Nat) := by rw [rAt, if_pos (by omega)]
  have e2 : rAt b (k + 4) = (BD (b.drop (k + 4)) : Nat) := by rw [rAt, if_pos (by omega)]
  have e3 : rAt b (k + 8) = (BD (b.drop (k + 8)) : Nat) := by rw [rAt, if_pos (by omega)]
  rw [if_neg h1, e1, e2, e3, Int.toNat_natCast]
  by_cases h2 : 65535 < BD (b.drop k)
  ·rw [if_pos h2, if_pos (by omega)]
  ·rw [if_neg h2]
   by_cases h3 : b.length - k - 12 < BD (b.drop k)
   ·rw [if_pos h3, if_pos (by omega)]
   ·have hg : ¬ (((BD (b.drop k) : Nat) : Int) < 0 ∨ 65535 < ((BD (b.drop k) : Nat) : Int) ∨ (b.length : Int) < k + 12 + (BD (b.drop k) : Nat)) := by omega
    rw [if_neg h3, if_neg hg]
    have e4 := AdL (b := b.drop k) (x := Ar (Dy ((b.drop k).take 4))) (y := Ar (Dy (((b.drop k).drop 12).take (BD (b.drop k))))) (by rw [List.length_drop]; omega) (AL _) (AL _)
    rw [List.drop_drop, List.drop_drop, List.drop_drop, UQ (by rw [List.length_drop]; omega) (Ju _), UQ (by rw [List.length_drop]; omega) (Ju _)] at e4
    rw [List.drop_drop, List.drop_drop]
    by_cases h4 : BD (b.drop (k + 4)) = Dy ((b.drop k).take 4) ∧ BD (b.drop (k + 8)) = Dy ((b.drop (k + 12)).take (BD (b.drop k)))
    ·rw [if_pos (e4.2 h4), if_neg (by omega)]
    ·rw [if_neg (fun h => h4 (e4.1 h)), if_pos]
     by_cases h5 : BD (b.drop (k + 4)) = Dy ((b.drop k).take 4)
     ·exact .inr (by omega)
     ·exact .inl (by omega)
def FB (b : Bs) (k : Nat) : Bs × Int := if rAt b k < 0 ∨ (b.length : Int) < k + 4 + rAt b k then ([], 0) else ((b.drop (k + 4)).take (rAt b k).toNat, 4 + rAt b k)
def MZ (b : Bs) : VoteS := ⟨rAt b 4, rAt b 8, rAt b 12, decide (rAt b 16 = 1), (FB b 20).1⟩
def rGet (b : Bs) : RecS :=
 if rAt b 0 = 1 then if (b.length = 8 ∧ 1 ≤ rAt b 4) ∧ rAt b 4 ≤ 2147483647 then .promise (rAt b 4).toNat else .bad
 else if (((rAt b 0 = 2 ∧ 0 < (FB b 20).2) ∧ (b.length : Int) = 20 + (FB b 20).2) ∧ rAt b 16 ≤ 1) ∧ Be (MZ b) then .vote (MZ b) else .bad
theorem XL (b : Bs) (k : Nat) {n : Nat} (hn : 0 < n) : rAt b k = (n : Int) ↔ BX (b.drop k) = n := by
 unfold rAt BX
 rw [List.length_drop]
 split <;> split <;> omega
theorem Lu {b : Bs} {k : Nat} (h : k + 4 ≤ b.length) : rAt b k = (BX (b.drop k) : Nat) := by
 unfold rAt BX
 rw [List.length_drop, if_pos h, if_neg (by omega)]
theorem H6 {b : Bs} (h : 4 ≤ b.length) : b = Ar (BX b) ++ b.drop 4 := by
 rw [BX, if_neg (by omega), AaI h, List.take_append_drop]
theorem U3 {b : Bs} (h : 24 ≤ b.length) (h2 : rAt b 20 + 24 ≤ b.length) : MZ b = cutV (b.drop 4) := by
 have h3 := Lu (b := b) (k := 20) (by omega)
 have hk : BX (b.drop 20) = BD (b.drop 20) := by rw [BX, List.length_drop, if_neg (by omega)]
 unfold MZ cutV nAt
 rw [Lu (by omega), Lu (by omega), Lu (by omega), List.drop_drop, List.drop_drop, List.drop_drop, List.drop_drop, List.drop_drop]
 rw [show decide (rAt b 16 = 1) = decide (BX (b.drop 16) = 1) from decide_eq_decide.2 (by rw [Lu (by omega)]; omega)]
 have e : (FB b 20).1 = textOf (b.drop 20) := by
  unfold FB textOf I9
  rw [if_neg (by omega), if_neg (by rw [List.length_drop]; omega), if_neg (by rw [List.length_drop]; omega)]
  rw [List.drop_drop, h3, Int.toNat_natCast, hk]
 rw [e]
theorem AcD (b : Bs) : rGet b = Em b := by
 unfold rGet Em
 have k1 : rAt b 0 = 1 ↔ BX b = 1 := XL b 0 (n := 1) (by omega)
 have k2 : rAt b 0 = 2 ↔ BX b = 2 := XL b 0 (n := 2) (by omega)
 by_cases h1 : BX b = 1
 ·rw [if_pos (k1.2 h1), if_pos h1]
  have hb : 4 ≤ b.length := by
   unfold BX at h1
   split at h1 <;> omega
  by_cases h2 : (b.length = 8 ∧ 1 ≤ rAt b 4) ∧ rAt b 4 ≤ 2147483647
  ·have e := Lu (b := b) (k := 4) (by omega)
   have e8 : b = Aw (BX (b.drop 4)) := by
    have a1 := H6 hb
    have a2 := H6 (b := b.drop 4) (by rw [List.length_drop]; omega)
    rw [List.drop_drop, List.drop_of_length_le (show b.length ≤ 4 + 4 by omega), List.append_nil] at a2
    unfold Aw
    rw [h1] at a1
    rw [← a2]
    exact a1
   rw [if_pos h2, if_pos ⟨by omega, e8.symm⟩, e, Int.toNat_natCast]
  ·rw [if_neg h2, if_neg]
   rintro ⟨h3, h4⟩
   have hl : b.length = 8 := by rw [← h4]; rfl
   have e := Lu (b := b) (k := 4) (by omega)
   exact h2 (by omega)
 ·rw [if_neg (fun h => h1 (k1.1 h)), if_neg h1]
  by_cases h2 : BX b = 2
  ·rw [if_pos h2]
   by_cases h3 : (((rAt b 0 = 2 ∧ 0 < (FB b 20).2) ∧ (b.length : Int) = 20 + (FB b 20).2) ∧ rAt b 16 ≤ 1) ∧ Be (MZ b)
   ·obtain ⟨⟨⟨⟨_, h4⟩, h5⟩, h6⟩, h7⟩ := h3
    have ht : ¬ (rAt b 20 < 0 ∨ (b.length : Int) < 20 + 4 + rAt b 20) := fun h => by
     unfold FB at h4
     rw [if_pos (by omega)] at h4
     exact absurd h4 (by decide)
    have hn : (FB b 20).2 = 4 + rAt b 20 := by unfold FB; rw [if_neg (by omega)]
    have hlen : (b.length : Int) = 24 + rAt b 20 := by omega
    have hv := U3 (b := b) (by omega) (by omega)
    have e20 := Lu (b := b) (k := 20) (by omega)
    have e16 := Lu (b := b) (k := 16) (by omega)
    have hb : Bv (cutV (b.drop 4)) = b := by
     have a0 := H6 (b := b) (by omega)
     have a1 := H6 (b := b.drop 4) (by rw [List.length_drop]; omega)
     have a2 := H6 (b := b.drop 8) (by rw [List.length_drop]; omega)
     have a3 := H6 (b := b.drop 12) (by rw [List.length_drop]; omega)
     have a4 := H6 (b := b.drop 16) (by rw [List.length_drop]; omega)
     have a5 := H6 (b := b.drop 20) (by rw [List.length_drop]; omega)
     rw [List.drop_drop] at a1 a2 a3 a4 a5
     have hk : BX (b.drop 20) = BD (b.drop 20) := by rw [BX, List.length_drop, if_neg (by omega)]
     have ht : DY (textOf (b.drop 20)) = b.drop 20 := by
      have e : textOf (b.drop 20) = b.drop 24 := by
       unfold textOf I9
       rw [if_neg (by rw [List.length_drop]; omega), if_neg (by rw [List.length_drop]; omega)]
       dsimp only
       rw [List.drop_drop, List.take_of_length_le (by rw [List.length_drop]; omega)]
      unfold DY
      rw [e, List.length_drop, show b.length - 24 = BX (b.drop 20) by omega]
      exact a5.symm
     have hf : (if decide (BX (b.drop 16) = 1) = true then 1 else 0) = BX (b.drop 16) := by
      by_cases hx : BX (b.drop 16) = 1
      ·rw [hx]; rfl
      ·rw [decide_eq_false hx, if_neg (by decide)]; omega
     unfold Bv cutV nAt
     dsimp only
     rw [List.drop_drop, List.drop_drop, List.drop_drop, List.drop_drop, List.drop_drop, Int.toNat_natCast, Int.toNat_natCast, Int.toNat_natCast, hf, ht, ← a4, ← a3, ← a2]
     rw [h2] at a0
     rw [← a1]
     exact a0.symm
    rw [if_pos ⟨⟨⟨⟨k2.2 h2, h4⟩, h5⟩, h6⟩, h7⟩, hv, if_pos ⟨by rw [← hv]; exact h7, hb⟩]
   ·rw [if_neg h3, if_neg]
    rintro ⟨h4, h5⟩
    generalize hw : cutV (b.drop 4) = w at h4 h5
    have h6 := h4.2.2.2.2.2
    have hl : b.length = 24 + w.bytes.length := by
     rw [← h5]
     simp only [Bv, DY, List.length_append, AL]; omega
    have d20 : b.drop 20 = Ar w.bytes.length ++ w.bytes := by
     rw [← h5]
     unfold Bv
     rw [show 20 = 8 + (8 + 4) from rfl, ← List.drop_drop, ← List.drop_drop, Fp, Fp, Gh]
     rfl
    have d16 : b.drop 16 = Ar (if w.full then 1 else 0) ++ DY w.bytes := by
     rw [← h5]
     unfold Bv
     rw [show 16 = 8 + 8 from rfl, ← List.drop_drop, Fp, Fp]
    have e20 : rAt b 20 = (w.bytes.length : Nat) := by
     rw [rAt, if_pos (by omega), d20, Hr (by omega)]
    have e16 : rAt b 16 = ((if w.full then 1 else 0 : Nat) : Int) := by
     rw [rAt, if_pos (by omega), d16, Hr (by split <;> omega)]
    have ht : (FB b 20).2 = 4 + rAt b 20 := by unfold FB; rw [if_neg (by omega)]
    have hv := U3 (b := b) (by omega) (by omega)
    rw [hw] at hv
    refine h3 ⟨⟨⟨⟨k2.2 h2, by omega⟩, by omega⟩, ?_⟩, by rw [hv]; exact h4⟩
    rw [e16]; split <;> omega
  ·rw [if_neg h2, if_neg (fun h => h2 (k2.1 h.1.1.1.1))]
end Go.Proofs.YtgpkbldlkadnjaaGreat
end
section
set_option maxHeartbeats 3000000
attribute [local irreducible] Go.Sl.Chk Go.Sl.Br Go.Sl.Or2 Go.Sl.Ld Go.Sl.Ldn Go.Sl.LdB Go.Sl.Stn Go.Sl.New Go.Sl.Run Go.Sl.BZ Go.Sl.BQ Go.Sl.Call Go.Sl.Bc Go.Sl.Cb Go.Sl.Alt Go.Sl.Om Go.Sl.xpk Go.Sl.Dk Go.Sl.Dl Go.Sl.DLd Go.Sl.CZ Go.Sl.DBs Go.Sl.AO Go.Sl.Cf Go.Sl.CB Go.Sl.BC Go.Sl.DGC Go.Sl.BG Go.Sl.Dw Go.Sl.Ce Go.Sl.Ent Go.Sl.AZ Go.Sl.dv Go.Sl.ev Go.Sl.AU
namespace Go.Proofs.YtgpkbldlkadnjaaGreat
open Go Go.Sl Go.RowKit
theorem getD_drop (b : Bs) (k j : Nat) : (b.drop k).getD j 0 = gt b (k + j) := by
 rw [gt, List.getD_eq_getElem?_getD, List.getD_eq_getElem?_getD, List.getElem?_drop]
 rfl
set_option maxRecDepth 100000 in
theorem Ul (b : Bs) (k : Nat) (hl : b.length ≤ 1000000000) (hk : k ≤ 1000000000) : DJ Tryz.prog DN [bytesD b, iD k] (iD (rAt b k)) := by
 intro nx
 refine AA Aac (by simp only [m_ref01_At, List.length]; decide) ?_
 rcases Nat.lt_or_ge b.length (k + 4) with h | h
 ·simp only [m_ref01_At]; refine WK ?_; try with_reducible exact trivial
  exact Bl ⟨by rw [rAt, if_neg (by omega)], rfl⟩
 ·have h0 := (gt b k).toNat_lt
  have h1 := (gt b ((k : Int) + 1).toNat).toNat_lt
  have h2 := (gt b ((k : Int) + 2).toNat).toNat_lt
  have h3 := (gt b ((k : Int) + 3).toNat).toNat_lt
  simp only [m_ref01_At]; refine WK ?_; try with_reducible exact trivial
  simp -dsimp (disch := omega) only [↓MC.xwp, ↓CX, ↓xdr, ↓MOp.xwp, dvs, dv, dvu, dvo, dvp, dgb, dGd, EC, cond_true, cond_false, Hz, AZ, BM, DF, Ee, Dx, ptr, bsc, cv, uo, uof, Bq, xpr, Eo, ET, GL, Gj, H9, G8, Ia, xst, xgp, glc, Ho, Ew, Hl, Hm, Hf, Hg, Eu, He, GM, Ha, Es, Et, Dc, Df, Gi, dsl, dif, CO, CE, BL, scs, rowOf, Bz, dtk, Ed, BR, pev, FV, GH, D5, GV, psl, Eb, ↓Eg, ↓Dh, ↓GR, ↓FX, Ea, Gn, Gx, Dv, BK, kp, Dq, DX, FQ, DV, GI, C9, Bg, BH, nb, FT, CS, BB, apart, Az, BA, heldOk, Op.operands, Nat.reduceAdd, forall_eq_or_imp, D.plain, reduceCtorEq, if_true, if_false, ↓reduceIte, ne_eq, Bool.cond_true, Bool.cond_false, forall_const, implies_true, forall_eq, Int.reduceEq, Int.reduceLT, Int.reduceLE, Int.reduceAdd, Int.reduceSub, Int.reduceMul, Int.reduceToNat, Nat.reduceMul, Nat.reduceLeDiff, Nat.reduceLT, Nat.reduceSub, Nat.reduceBEq, Nat.reduceEqDiff, ES, bytesD, iD, Ec, AX, DZ, bD, DB, U8]
  refine Bl ⟨?_, rfl⟩
  rw [show ((k : Int) + 1).toNat = k + 1 by omega, show ((k : Int) + 2).toNat = k + 2 by omega, show ((k : Int) + 3).toNat = k + 3 by omega]
  rw [rAt, if_pos h, BD, getD_drop, getD_drop, getD_drop, getD_drop, Nat.add_zero]
  congr 2
set_option maxRecDepth 100000 in
theorem Ab2 (b : Bs) (k : Nat) (hl : b.length ≤ 1000000) (hk : k ≤ 1000000) : DJ Tryz.prog JZ [bytesD b, iD k] (.tup [DZ (FB b k).1, iD (FB b k).2]) := by
 intro nx
 refine AA Ue (by simp only [m_ref01_TextAt, List.length]; decide) ?_
 simp only [m_ref01_TextAt]; refine WK ?_; try with_reducible exact trivial
 refine Ba (Ul b k (by omega) (by omega)) fun n1 h1 => ?_
 have hr := KA b k
 rcases (by omega : rAt b k < 0 ∨ 0 ≤ rAt b k) with g | g
 ·refine WK ?_; try with_reducible exact trivial
  exact Bl ⟨by rw [FB, if_pos (.inl g)]; rfl, rfl⟩
 ·obtain ⟨m, hm⟩ := Int.eq_ofNat_of_zero_le g
  rw [hm] at hr ⊢
  rcases Nat.lt_or_ge b.length (k + 4 + m) with g2 | g2
  ·refine WK ?_; try with_reducible exact trivial
   exact Bl ⟨by rw [FB, if_pos (.inr (by omega))]; rfl, rfl⟩
  ·have hX : ((b.drop (k + 4)).take m).length = m := by rw [List.length_take, List.length_drop]; omega
   refine WK ?_; try with_reducible exact trivial
   rw [show ((k : Int) + 4 + m).toNat - ((k : Int) + 4).toNat = m by omega, show ((k : Int) + 4).toNat = k + 4 by omega, ← List.map_drop, ← List.map_take]
   refine dbs hX ?_
   refine WK ?_; try with_reducible exact trivial
   refine Bl ⟨?_, rfl⟩
   rw [FB, if_neg (by omega), hm, Int.toNat_natCast]
set_option maxRecDepth 100000 in
theorem Ad6 (b : Bs) (hl : b.length ≤ 1000000) : DJ Tryz.prog LW [bytesD b] (.tup [ES (EN b).1, iD ((b.length : Int) - ((EN b).2.length : Int))]) := by
 intro nx
 refine AA WU (by simp only [m_ref06_Scan, List.length]; decide) ?_
 simp only [m_ref06_Scan]; refine WK ?_; try with_reducible exact trivial
 refine E5 [0, 4, 5] (fun s : Nat × LL × Nat × Nat => ([(0, bytesD b), (4, .h s.2.2.1), (5, iD (s.1 : Nat))], [(s.2.2.1, .row Ap 1 s.2.1.length (s.2.1.map bytesD))], s.2.2.2)) (fun s => s.1 ≤ b.length ∧ s.2.1.length ≤ s.1 ∧ s.2.1 ++ (EN (b.drop s.1)).1 = (EN b).1 ∧ (EN (b.drop s.1)).2 = (EN b).2 ∧ s.2.2.1 < s.2.2.2) (fun s => b.length - s.1) (0, [], nx, nx + 1) ⟨Nat.zero_le _, by simp, rfl, rfl, by dsimp only; omega⟩ ((Ent.nil 4 Ap 1 (by with_unfolding_all rfl) rfl).trans (Ent.of (by with_unfolding_all rfl) rfl)) ?_
 rintro ⟨k, L, q, n⟩ ⟨q1, q2, q3, q4, q5⟩
 dsimp only at q1 q2 q3 q4 q5 ⊢
 rw [Qr (b.drop k)] at q3 q4
 have hc := AeI b k q1
 have hr := KA b k
 have hend : Jt (b.drop k) = none → ∀ n, Ce (D.tup [D.h q, iD k]) [(q, .row Ap 1 L.length (L.map bytesD))] n (fun d r _ => d = .tup [ES (EN b).1, iD ((b.length : Int) - ((EN b).2.length : Int))] ∧ r = []) (.mk _) := fun hn n => by
  rw [hn] at q3 q4
  dsimp only at q3 q4
  refine ND q (Aa _ _ _) (fun x hx => by obtain ⟨y, _, rfl⟩ := List.mem_map.1 hx; simp [D.plain]) ?_
  rw [A8]
  simp only [TP, List.map_cons, List.map_nil, Dx, Aa]
  refine Bl ⟨?_, rfl⟩
  rw [← q3, ← q4, List.append_nil, List.length_drop]
  congr 4
  omega
 have hlen : ∀ j, (b.drop j).length = b.length - j := fun j => List.length_drop
 refine WK ?_; try with_reducible exact trivial
 refine Ba (Ul b k (by omega) (by omega)) fun n1 h1 => ?_
 by_cases g : rAt b k < 0 ∨ 65535 < rAt b k ∨ (b.length : Int) < k + 12 + rAt b k
 ·rw [if_pos g] at hc
  have hfin := hend hc
  generalize rAt b k = m at *
  rcases (by omega : m < 0 ∨ (0 ≤ m ∧ 65535 < m) ∨ (0 ≤ m ∧ m ≤ 65535 ∧ (b.length : Int) < k + 12 + m)) with e | e | e
  ·refine WK ?_; try with_reducible exact trivial
   exact hfin _
  ·refine WK ?_; try with_reducible exact trivial
   exact hfin _
  ·refine WK ?_; try with_reducible exact trivial
   exact hfin _
 ·rw [if_neg g] at hc
  obtain ⟨m, hm⟩ := Int.eq_ofNat_of_zero_le (show 0 ≤ rAt b k by omega)
  rw [hm] at hc g hr ⊢
  rw [Int.toNat_natCast] at hc
  refine WK ?_; try with_reducible exact trivial
  refine Ba (Ul b (k + 4) (by omega) (by omega)) fun n2 h2 => ?_
  refine WK ?_; try with_reducible exact trivial
  rw [show ((k : Int) + 4).toNat - k = 4 by omega, ← List.map_drop, NW (b.drop k) 4 (by rw [hlen]; omega)]
  refine Ba (Qs ((b.drop k).take 4) (by rw [List.length_take]; omega)) fun n3 h3 => ?_
  have hs1 := Ju ((b.drop k).take 4)
  have hs2 := Ju ((b.drop (k + 12)).take m)
  have hr4 := KA b (k + 4)
  have hr8 := KA b (k + 8)
  by_cases g4 : rAt b (k + 4) = (Dy ((b.drop k).take 4) : Nat)
  ·rw [g4]
   refine WK ?_; try with_reducible exact trivial
   refine Ba (Ul b (k + 8) (by omega) (by omega)) fun n4 h4 => ?_
   refine WK ?_; try with_reducible exact trivial
   rw [show ((k : Int) + 12 + m).toNat - ((k : Int) + 12).toNat = m by omega, show ((k : Int) + 12).toNat = k + 12 by omega, ← List.map_drop, NW (b.drop (k + 12)) m (by rw [hlen]; omega)]
   refine Ba (Qs ((b.drop (k + 12)).take m) (by rw [List.length_take]; omega)) fun n5 h5 => ?_
   by_cases g8 : rAt b (k + 8) = (Dy ((b.drop (k + 12)).take m) : Nat)
   ·rw [if_neg (by omega)] at hc
    rw [hc] at q3 q4
    dsimp only at q3 q4
    rw [g8]
    refine WK ?_; try with_reducible exact trivial
    refine WO (tg' := .mk _) (K0 := fun d r' nx' => d = .h (n5 + 1) ∧ r' = [(n5 + 1, AC ((b.drop (k + 12)).take m)), (q, .row Ap 1 L.length (L.map bytesD))] ∧ nx' = n5 + 2) (tg0 := .mk _) (Jm (i := n5) (m := ((b.drop (k + 12)).take m).length) (l' := ((b.drop (k + 12)).take m).map bD) elB (l := []) (n := 0) (Aa _ _ _) (FW.sl _ _ _) (by simp) CP (by rw [List.length_take]; omega) (by rw [List.length_take]; omega) List.not_mem_nil ?_) ?_
    ·refine ⟨rfl, ?_, rfl⟩
     rw [Ai, Nat.zero_add, List.nil_append]
    rintro d r' nx' ⟨rfl, rfl, rfl⟩
    refine ⟨n5 + 1, _, _, _, _, _, rfl, rfl, JC, ?_⟩
    refine WK ?_; try with_reducible exact trivial
    refine Oc L ((b.drop (k + 12)).take m) (n5 + 2) (by omega) (by (repeat rw [Ac (by omega)]); exact Aa _ _ _) (by (repeat rw [Ac (by omega)]); exact Aa _ _ _) (by omega) (by simp only [List.mem_cons, List.not_mem_nil, or_false, not_false_eq_true]; try omega) ?_
    refine WK ?_; try with_reducible exact trivial
    refine ⟨(k + 12 + m, L ++ [(b.drop (k + 12)).take m], n5 + 3, n5 + 4), ⟨by dsimp only; omega, by dsimp only; rw [List.length_append, List.length_singleton]; omega, by dsimp only; rw [List.append_assoc]; exact q3, q4, by dsimp only; omega⟩, by dsimp only; omega, (Ent.only [n5 + 3] _ _ _).trans (by simp -dsimp (disch := omega) only [Bf, Aa, Ac, Ai, Aj]; exact (Ent.of (by with_unfolding_all rfl) rfl))⟩
   ·rw [if_pos (.inr g8)] at hc
    have hfin := hend hc
    generalize Dy ((b.drop (k + 12)).take m) = c1 at *
    generalize rAt b (k + 8) = a4 at *
    refine WK ?_; try with_reducible exact trivial
    exact hfin _
  ·rw [if_pos (.inl g4)] at hc
   have hfin := hend hc
   generalize Dy ((b.drop k).take 4) = c1 at *
   generalize rAt b (k + 4) = a4 at *
   refine WK ?_; try with_reducible exact trivial
   repeat ((first | refine EH (AX true) ?_ | refine L9 ?_); refine WK ?_; try with_reducible exact trivial)
   exact hfin _
end Go.Proofs.YtgpkbldlkadnjaaGreat
end
section
set_option maxHeartbeats 3000000
attribute [local irreducible] Go.Sl.Chk Go.Sl.Br Go.Sl.Or2 Go.Sl.Ld Go.Sl.Ldn Go.Sl.LdB Go.Sl.Stn Go.Sl.New Go.Sl.Run Go.Sl.BZ Go.Sl.BQ Go.Sl.Call Go.Sl.Bc Go.Sl.Cb Go.Sl.Alt Go.Sl.Om Go.Sl.xpk Go.Sl.Dk Go.Sl.Dl Go.Sl.DLd Go.Sl.CZ Go.Sl.DBs Go.Sl.AO Go.Sl.Cf Go.Sl.CB Go.Sl.BC Go.Sl.DGC Go.Sl.BG Go.Sl.Dw Go.Sl.Ce Go.Sl.Ent Go.Sl.AZ Go.Sl.dv Go.Sl.ev Go.Sl.AU
namespace Go.Sl
open Go.RowKit
section
variable {P : Program} {K : D → Ad → Nat → Prop} {r : Ad} {nx : Nat}
end
end Go.Sl
end
section
set_option maxHeartbeats 3000000
attribute [local irreducible] Go.Sl.Chk Go.Sl.Br Go.Sl.Or2 Go.Sl.Ld Go.Sl.Ldn Go.Sl.LdB Go.Sl.Stn Go.Sl.New Go.Sl.Run Go.Sl.BZ Go.Sl.BQ Go.Sl.Call Go.Sl.Bc Go.Sl.Cb Go.Sl.Alt Go.Sl.Om Go.Sl.xpk Go.Sl.Dk Go.Sl.Dl Go.Sl.DLd Go.Sl.CZ Go.Sl.DBs Go.Sl.AO Go.Sl.Cf Go.Sl.CB Go.Sl.BC Go.Sl.DGC Go.Sl.BG Go.Sl.Dw Go.Sl.Ce Go.Sl.Ent Go.Sl.AZ Go.Sl.dv Go.Sl.ev Go.Sl.AU
namespace Go.Proofs.YtgpkbldlkadnjaaGreat
open Go Go.Sl Go.RowKit
def Py : RecS → D
 | .bad => .tup [iD 0, .agg (Am zeroV), AX false]
 | .promise b => .tup [iD b, .agg (Am zeroV), AX true]
 | .vote v => .tup [iD 0, .agg (Am v), AX true]
set_option maxRecDepth 100000 in
theorem rget_d (rec : Bs) (hl : rec.length ≤ 1000000) : DJ Tryz.prog Ns [bytesD rec] (Py (Em rec)) := by
 intro nx
 refine AA Yz (by simp only [m_ref17_Get, List.length]; decide) ?_
 rw [← AcD]
 simp only [m_ref17_Get]; refine WK ?_; try with_reducible exact trivial
 refine Ba (Ul rec 0 (by omega) (by omega)) fun n1 h1 => ?_
 have a0 := KA rec 0
 have a4 := KA rec 4
 have a8 := KA rec 8
 have a12 := KA rec 12
 have a16 := KA rec 16
 unfold rGet
 by_cases h0 : rAt rec 0 = 1
 ·rw [if_pos h0, h0]
  refine WK ?_; try with_reducible exact trivial
  refine Ba (Ul rec 4 (by omega) (by omega)) fun n2 h2 => ?_
  by_cases hc : (rec.length = 8 ∧ 1 ≤ rAt rec 4) ∧ rAt rec 4 ≤ 2147483647
  ·rw [if_pos hc]
   obtain ⟨⟨c1, c2⟩, c3⟩ := hc
   simp only [Py, Int.toNat_of_nonneg (show 0 ≤ rAt rec 4 by omega)]
   refine WK ?_; try with_reducible exact trivial
   exact Bl ⟨rfl, rfl⟩
  ·rw [if_neg hc]
   simp only [Py]
   generalize rAt rec 4 = a at *
   rcases (by omega : rec.length ≠ 8 ∨ (rec.length = 8 ∧ a < 1) ∨ (rec.length = 8 ∧ 1 ≤ a ∧ 2147483647 < a)) with e | e | e
   ·refine WK ?_; try with_reducible exact trivial
    exact Bl ⟨rfl, rfl⟩
   ·refine WK ?_; try with_reducible exact trivial
    exact Bl ⟨rfl, rfl⟩
   ·refine WK ?_; try with_reducible exact trivial
    exact Bl ⟨rfl, rfl⟩
 ·rw [if_neg h0]
  refine WK ?_; try with_reducible exact trivial
  refine Ba (Ab2 rec 20 (by omega) (by omega)) fun n2 h2 => ?_
  refine WK ?_; try with_reducible exact trivial
  refine Ba (Ul rec 16 (by omega) (by omega)) fun n3 h3 => ?_
  refine WK ?_; try with_reducible exact trivial
  refine Ba (Ul rec 4 (by omega) (by omega)) fun n4 h4 => ?_
  refine WK ?_; try with_reducible exact trivial
  refine Ba (Ul rec 8 (by omega) (by omega)) fun n5 h5 => ?_
  refine WK ?_; try with_reducible exact trivial
  refine Ba (Ul rec 12 (by omega) (by omega)) fun n6 h6 => ?_
  refine WK ?_; try with_reducible exact trivial
  refine Ba (Ul rec 0 (by omega) (by omega)) fun n7 h7 => ?_
  have ht : 0 ≤ (FB rec 20).2 ∧ (FB rec 20).2 ≤ 5000000000 := by
   have := KA rec 20
   unfold FB
   split <;> dsimp only <;> omega
  by_cases hc : (((rAt rec 0 = 2 ∧ 0 < (FB rec 20).2) ∧ (rec.length : Int) = 20 + (FB rec 20).2) ∧ rAt rec 16 ≤ 1)
  ·obtain ⟨⟨⟨c1, c2⟩, c3⟩, c4⟩ := hc
   have hv : D.agg [iD (rAt rec 4), iD (rAt rec 8), iD (rAt rec 12), AX (decide (rAt rec 16 = 1)), DZ (FB rec 20).1] = .agg (Am (MZ rec)) := rfl
   by_cases hR : Be (MZ rec)
   ·rw [if_pos ⟨⟨⟨⟨c1, c2⟩, c3⟩, c4⟩, hR⟩, c1]
    simp only [Py]
    refine WK ?_; try with_reducible exact trivial
    refine Ba (show DJ Tryz.prog FO [.agg (Am (MZ rec))] (AX true) by have := KJ (MZ rec); rwa [decide_eq_true hR] at this) fun n8 h8 => ?_
    refine WK ?_; try with_reducible exact trivial
    exact Bl ⟨rfl, rfl⟩
   ·rw [if_neg (fun h => hR h.2), c1]
    simp only [Py]
    refine WK ?_; try with_reducible exact trivial
    refine Ba (show DJ Tryz.prog FO [.agg (Am (MZ rec))] (AX false) by have := KJ (MZ rec); rwa [decide_eq_false hR] at this) fun n8 h8 => ?_
    refine WK ?_; try with_reducible exact trivial
    exact Bl ⟨rfl, rfl⟩
  ·rw [if_neg (fun h => hc h.1)]
   simp only [Py]
   generalize (FB rec 20).2 = t at *
   generalize (FB rec 20).1 = tt at *
   generalize rAt rec 0 = k0 at *
   generalize rAt rec 16 = k16 at *
   rcases (by omega : k0 ≠ 2 ∨ (k0 = 2 ∧ t ≤ 0) ∨ (k0 = 2 ∧ 0 < t ∧ (rec.length : Int) ≠ 20 + t) ∨ (k0 = 2 ∧ 0 < t ∧ (rec.length : Int) = 20 + t ∧ 1 < k16)) with e | e | e | e
   ·refine WK ?_; try with_reducible exact trivial
    repeat ((first | refine EH (AX true) ?_ | refine L9 ?_); refine WK ?_; try with_reducible exact trivial)
    exact Bl ⟨rfl, rfl⟩
   ·refine WK ?_; try with_reducible exact trivial
    repeat ((first | refine EH (AX true) ?_ | refine L9 ?_); refine WK ?_; try with_reducible exact trivial)
    exact Bl ⟨rfl, rfl⟩
   ·refine WK ?_; try with_reducible exact trivial
    repeat ((first | refine EH (AX true) ?_ | refine L9 ?_); refine WK ?_; try with_reducible exact trivial)
    exact Bl ⟨rfl, rfl⟩
   ·refine WK ?_; try with_reducible exact trivial
    repeat ((first | refine EH (AX true) ?_ | refine L9 ?_); refine WK ?_; try with_reducible exact trivial)
    exact Bl ⟨rfl, rfl⟩
theorem Xh (l : List VoteS) (k : Nat) : (Bj l).take (k * 5) = Bj (l.take k) := by
 induction l generalizing k with
 | nil => simp [Bj]
 | cons x l ih =>
  cases k with
  | zero => simp [Bj]
  | succ k =>
   have : Bj (x :: l) = Am x ++ Bj l := rfl
   rw [this, Nat.succ_mul, Nat.add_comm, List.take_append, List.take_of_length_le (by rw [DK]; omega), DK, show 5 + k * 5 - 5 = k * 5 by omega, ih]
   rfl
theorem Xi (l : List VoteS) (k : Nat) : (Bj l).drop (k * 5) = Bj (l.drop k) := by
 induction l generalizing k with
 | nil => simp [Bj]
 | cons x l ih =>
  cases k with
  | zero => simp
  | succ k =>
   have : Bj (x :: l) = Am x ++ Bj l := rfl
   rw [this, Nat.succ_mul, Nat.add_comm, List.drop_append, List.drop_of_length_le (by rw [DK]; omega), DK, show 5 + k * 5 - 5 = k * 5 by omega, ih]
   rfl
theorem Uu (a b : List VoteS) : Bj (a ++ b) = Bj a ++ Bj b := List.flatMap_append
theorem Ky (l : List VoteS) : (Bj l).length = l.length * 5 := IK DK l
theorem BU {i nx : Nat} {held : List Nat} {r : Ad} {K : D → Ad → Nat → Prop} {tg : A7 K} (a b : List VoteS) (hg : AP r i = some (.row Ah 5 a.length (Bj a))) (hl : a.length + b.length ≤ 2000000) (hh : i ∉ held)
  (k : K (.h nx) ((nx, .row Ah 5 (a ++ b).length (Bj (a ++ b))) :: Ej r i) (nx + 1)) : Cf Tryz.prog #[Cc, Cc] Cc (.h i) (CY b) held r nx K tg :=
 Jm (i := i) (m := b.length) (l' := Bj b) elV (l := Bj a) (n := a.length) hg (FW.sl _ _ _) (Ky b) (QP b) (by omega) (by omega) hh (by rw [← List.length_append, ← Uu]; exact k)
theorem Qj (l : List VoteS) {j k : Nat} (hj : j < l.length) (hk : k < 5) : (Bj l)[j * 5 + k]? = (Am (gt l j))[k]? := Vt DK l hj hk
set_option maxRecDepth 100000 in
theorem put1_d (l : List VoteS) (v : VoteS) (hl : l.length ≤ 900000) : DJ Tryz.prog Ik [CY l, .agg (Am v)] (CY (LD l v)) := by
 have hN : MB Tryz.prog Ik [CY l, .agg (Am v)] (fun i => .h i) (G9 (LD l v)) := by
  intro nx
  refine AA WT (by simp only [m_ref17_Put1, List.length]; decide) ?_
  simp only [Am]
  simp only [m_ref17_Put1]; refine WK ?_; try with_reducible exact trivial
  refine E5 [0, 3, 5] (fun s : Nat => ([(0, CY l), (3, .hp nx 0), (5, iD (s : Nat))], [(nx, .box Ah (Am v))], nx + 1)) (fun s => s ≤ l.length ∧ ∀ g ∈ l.take s, g.slot < v.slot) (fun s => l.length - s) 0 ⟨by omega, by simp⟩ (Ent.of (by with_unfolding_all rfl) rfl) ?_
  rintro k ⟨hk, hb⟩
  dsimp only at hk hb ⊢
  simp only [Am]
  have hlk : (l.take k).length = k := by rw [List.length_take]; omega
  have hlf : (l.take k ++ [v]).length = k + 1 := by rw [List.length_append, hlk]; rfl
  have e1 : D.sl k ((Bj l).take (k * 5)) = CY (l.take k) := by rw [Xh, CY, hlk]
  have e2 : ∀ j, D.sl (l.length - j) (((Bj l).drop (j * 5)).take ((l.length - j) * 5)) = CY (l.drop j) := fun j => by
   rw [Xi, CY, List.length_drop, List.take_of_length_le (by rw [Ky, List.length_drop]; exact Nat.le_refl _)]
  rcases Nat.lt_or_ge k l.length with hkl | hkl
  ·have e0 := Qj l (k := 0) hkl (by omega)
   simp only [Am, List.getElem?_cons_zero, Nat.add_zero] at e0
   have hbk : ∀ x, l[k]? = some x → x = gt l k := fun x hx => by rw [List.getElem?_eq_getElem hkl] at hx; rw [EG hkl]; exact (Option.some.inj hx).symm
   rcases (by omega : (gt l k).slot < v.slot ∨ (¬ (gt l k).slot < v.slot ∧ (gt l k).slot = v.slot) ∨ (¬ (gt l k).slot < v.slot ∧ (gt l k).slot ≠ v.slot)) with hs | ⟨hs, hs2⟩ | ⟨hs, hs2⟩
   ·refine WKX @e0 ?_; try with_reducible exact trivial
    refine ⟨k + 1, ⟨by omega, fun g hg => ?_⟩, by omega, Ent.of (by with_unfolding_all rfl) rfl⟩
    rw [G5 hkl] at hg
    rcases List.mem_append.1 hg with h | h
    ·exact hb g h
    ·simp only [List.mem_singleton] at h; rw [h]; exact hs
   ·have hp := RZ l v k hk hb (fun x hx => by rw [hbk x hx]; exact hs)
    rw [if_pos ⟨gt l k, by rw [EG hkl]; exact List.getElem?_eq_getElem hkl, hs2⟩] at hp
    refine WKX @e0 ?_; try with_reducible exact trivial
    rw [e1, e2 ((k : Int) + 1).toNat, show ((k : Int) + 1).toNat = k + 1 by omega]
    have hRl : (l.drop (k + 1)).length ≤ 1000000 := by rw [List.length_drop]; omega
    generalize l.drop (k + 1) = R at *
    have e3 : LD l v = (l.take k ++ [v]) ++ R := by rw [hp]; simp
    refine alt2 ?_ ?_
    ·refine WK ?_; try with_reducible exact trivial
     refine alt2 ?_ ?_
     ·refine WK ?_; try with_reducible exact trivial
      refine BU [] (l.take k) (by (repeat rw [Ac (by omega)]); exact Aa _ _ _) (by rw [hlk, List.length_nil]; omega) (by simp only [List.mem_cons, List.not_mem_nil, or_false, not_false_eq_true]; try omega) ?_
      refine WK ?_; try with_reducible exact trivial
      refine FP (l.take k) v (nx + 3) (i := nx + 2) (by (repeat rw [Ac (by omega)]); exact Aa _ _ _) (by (repeat rw [Ac (by omega)]); exact Aa _ _ _) (by rw [hlk]; omega) (by simp only [List.mem_cons, List.not_mem_nil, or_false, not_false_eq_true]; try omega) ?_
      refine WK ?_; try with_reducible exact trivial
      refine BU (l.take k ++ [v]) R (by (repeat rw [Ac (by omega)]); exact Aa _ _ _) (by rw [hlf]; omega) (by simp only [List.mem_cons, List.not_mem_nil, or_false, not_false_eq_true]; try omega) ?_
      refine WK ?_; try with_reducible exact trivial
      rw [← e3]
      exact AY [nx + 5] (t := .mk _) (by simp only [Bf, Aa]; exact BI ⟨nx + 5, by omega, by omega, rfl, rfl⟩)
     ·refine WK ?_; try with_reducible exact trivial
      refine BU [] (l.take k) (by (repeat rw [Ac (by omega)]); exact Aa _ _ _) (by rw [hlk, List.length_nil]; omega) (by simp only [List.mem_cons, List.not_mem_nil, or_false, not_false_eq_true]; try omega) ?_
      refine WK ?_; try with_reducible exact trivial
      refine FP (l.take k) v (nx + 2) (i := nx + 3) (by (repeat rw [Ac (by omega)]); exact Aa _ _ _) (by (repeat rw [Ac (by omega)]); exact Aa _ _ _) (by rw [hlk]; omega) (by simp only [List.mem_cons, List.not_mem_nil, or_false, not_false_eq_true]; try omega) ?_
      refine WK ?_; try with_reducible exact trivial
      refine BU (l.take k ++ [v]) R (by (repeat rw [Ac (by omega)]); exact Aa _ _ _) (by rw [hlf]; omega) (by simp only [List.mem_cons, List.not_mem_nil, or_false, not_false_eq_true]; try omega) ?_
      refine WK ?_; try with_reducible exact trivial
      rw [← e3]
      exact AY [nx + 5] (t := .mk _) (by simp only [Bf, Aa]; exact BI ⟨nx + 5, by omega, by omega, rfl, rfl⟩)
    ·refine WK ?_; try with_reducible exact trivial
     refine BU [] (l.take k) (by (repeat rw [Ac (by omega)]); exact Aa _ _ _) (by rw [hlk, List.length_nil]; omega) (by simp only [List.mem_cons, List.not_mem_nil, or_false, not_false_eq_true]; try omega) ?_
     refine WK ?_; try with_reducible exact trivial
     refine FP (l.take k) v (nx + 1) (i := nx + 3) (by (repeat rw [Ac (by omega)]); exact Aa _ _ _) (by (repeat rw [Ac (by omega)]); exact Aa _ _ _) (by rw [hlk]; omega) (by simp only [List.mem_cons, List.not_mem_nil, or_false, not_false_eq_true]; try omega) ?_
     refine WK ?_; try with_reducible exact trivial
     refine BU (l.take k ++ [v]) R (by (repeat rw [Ac (by omega)]); exact Aa _ _ _) (by rw [hlf]; omega) (by simp only [List.mem_cons, List.not_mem_nil, or_false, not_false_eq_true]; try omega) ?_
     refine WK ?_; try with_reducible exact trivial
     rw [← e3]
     exact AY [nx + 5] (t := .mk _) (by simp only [Bf, Aa]; exact BI ⟨nx + 5, by omega, by omega, rfl, rfl⟩)
   ·have hp := RZ l v k hk hb (fun x hx => by rw [hbk x hx]; exact hs)
    rw [if_neg (fun ⟨x, hx, hx2⟩ => hs2 (by rw [← hbk x hx]; exact hx2))] at hp
    refine WKX @e0 ?_; try with_reducible exact trivial
    rw [e1, e2]
    have hRl : (l.drop k).length ≤ 1000000 := by rw [List.length_drop]; omega
    generalize l.drop k = R at *
    have e3 : LD l v = (l.take k ++ [v]) ++ R := by rw [hp]; simp
    refine alt2 ?_ ?_
    ·refine WK ?_; try with_reducible exact trivial
     refine alt2 ?_ ?_
     ·refine WK ?_; try with_reducible exact trivial
      refine BU [] (l.take k) (by (repeat rw [Ac (by omega)]); exact Aa _ _ _) (by rw [hlk, List.length_nil]; omega) (by simp only [List.mem_cons, List.not_mem_nil, or_false, not_false_eq_true]; try omega) ?_
      refine WK ?_; try with_reducible exact trivial
      refine FP (l.take k) v (nx + 3) (i := nx + 2) (by (repeat rw [Ac (by omega)]); exact Aa _ _ _) (by (repeat rw [Ac (by omega)]); exact Aa _ _ _) (by rw [hlk]; omega) (by simp only [List.mem_cons, List.not_mem_nil, or_false, not_false_eq_true]; try omega) ?_
      refine WK ?_; try with_reducible exact trivial
      refine BU (l.take k ++ [v]) R (by (repeat rw [Ac (by omega)]); exact Aa _ _ _) (by rw [hlf]; omega) (by simp only [List.mem_cons, List.not_mem_nil, or_false, not_false_eq_true]; try omega) ?_
      refine WK ?_; try with_reducible exact trivial
      rw [← e3]
      exact AY [nx + 5] (t := .mk _) (by simp only [Bf, Aa]; exact BI ⟨nx + 5, by omega, by omega, rfl, rfl⟩)
     ·refine WK ?_; try with_reducible exact trivial
      refine BU [] (l.take k) (by (repeat rw [Ac (by omega)]); exact Aa _ _ _) (by rw [hlk, List.length_nil]; omega) (by simp only [List.mem_cons, List.not_mem_nil, or_false, not_false_eq_true]; try omega) ?_
      refine WK ?_; try with_reducible exact trivial
      refine FP (l.take k) v (nx + 2) (i := nx + 3) (by (repeat rw [Ac (by omega)]); exact Aa _ _ _) (by (repeat rw [Ac (by omega)]); exact Aa _ _ _) (by rw [hlk]; omega) (by simp only [List.mem_cons, List.not_mem_nil, or_false, not_false_eq_true]; try omega) ?_
      refine WK ?_; try with_reducible exact trivial
      refine BU (l.take k ++ [v]) R (by (repeat rw [Ac (by omega)]); exact Aa _ _ _) (by rw [hlf]; omega) (by simp only [List.mem_cons, List.not_mem_nil, or_false, not_false_eq_true]; try omega) ?_
      refine WK ?_; try with_reducible exact trivial
      rw [← e3]
      exact AY [nx + 5] (t := .mk _) (by simp only [Bf, Aa]; exact BI ⟨nx + 5, by omega, by omega, rfl, rfl⟩)
    ·refine WK ?_; try with_reducible exact trivial
     refine BU [] (l.take k) (by (repeat rw [Ac (by omega)]); exact Aa _ _ _) (by rw [hlk, List.length_nil]; omega) (by simp only [List.mem_cons, List.not_mem_nil, or_false, not_false_eq_true]; try omega) ?_
     refine WK ?_; try with_reducible exact trivial
     refine FP (l.take k) v (nx + 1) (i := nx + 3) (by (repeat rw [Ac (by omega)]); exact Aa _ _ _) (by (repeat rw [Ac (by omega)]); exact Aa _ _ _) (by rw [hlk]; omega) (by simp only [List.mem_cons, List.not_mem_nil, or_false, not_false_eq_true]; try omega) ?_
     refine WK ?_; try with_reducible exact trivial
     refine BU (l.take k ++ [v]) R (by (repeat rw [Ac (by omega)]); exact Aa _ _ _) (by rw [hlf]; omega) (by simp only [List.mem_cons, List.not_mem_nil, or_false, not_false_eq_true]; try omega) ?_
     refine WK ?_; try with_reducible exact trivial
     rw [← e3]
     exact AY [nx + 5] (t := .mk _) (by simp only [Bf, Aa]; exact BI ⟨nx + 5, by omega, by omega, rfl, rfl⟩)
  ·have hkl2 : k = l.length := by omega
   have hp := RZ l v k hk hb (fun x hx => by rw [List.getElem?_eq_none hkl] at hx; cases hx)
   rw [if_neg (fun ⟨x, hx, hx2⟩ => by rw [List.getElem?_eq_none hkl] at hx; cases hx)] at hp
   refine WK ?_; try with_reducible exact trivial
   repeat ((first | refine EH (AX true) ?_ | refine L9 ?_); refine WK ?_; try with_reducible exact trivial)

   rw [e1, e2]
   have hRl : (l.drop k).length ≤ 1000000 := by rw [List.length_drop]; omega
   generalize l.drop k = R at *
   have e3 : LD l v = (l.take k ++ [v]) ++ R := by rw [hp]; simp
   refine alt2 ?_ ?_
   ·refine WK ?_; try with_reducible exact trivial
    refine alt2 ?_ ?_
    ·refine WK ?_; try with_reducible exact trivial
     refine BU [] (l.take k) (by (repeat rw [Ac (by omega)]); exact Aa _ _ _) (by rw [hlk, List.length_nil]; omega) (by simp only [List.mem_cons, List.not_mem_nil, or_false, not_false_eq_true]; try omega) ?_
     refine WK ?_; try with_reducible exact trivial
     refine FP (l.take k) v (nx + 3) (i := nx + 2) (by (repeat rw [Ac (by omega)]); exact Aa _ _ _) (by (repeat rw [Ac (by omega)]); exact Aa _ _ _) (by rw [hlk]; omega) (by simp only [List.mem_cons, List.not_mem_nil, or_false, not_false_eq_true]; try omega) ?_
     refine WK ?_; try with_reducible exact trivial
     refine BU (l.take k ++ [v]) R (by (repeat rw [Ac (by omega)]); exact Aa _ _ _) (by rw [hlf]; omega) (by simp only [List.mem_cons, List.not_mem_nil, or_false, not_false_eq_true]; try omega) ?_
     refine WK ?_; try with_reducible exact trivial
     rw [← e3]
     exact AY [nx + 5] (t := .mk _) (by simp only [Bf, Aa]; exact BI ⟨nx + 5, by omega, by omega, rfl, rfl⟩)
    ·refine WK ?_; try with_reducible exact trivial
     refine BU [] (l.take k) (by (repeat rw [Ac (by omega)]); exact Aa _ _ _) (by rw [hlk, List.length_nil]; omega) (by simp only [List.mem_cons, List.not_mem_nil, or_false, not_false_eq_true]; try omega) ?_
     refine WK ?_; try with_reducible exact trivial
     refine FP (l.take k) v (nx + 2) (i := nx + 3) (by (repeat rw [Ac (by omega)]); exact Aa _ _ _) (by (repeat rw [Ac (by omega)]); exact Aa _ _ _) (by rw [hlk]; omega) (by simp only [List.mem_cons, List.not_mem_nil, or_false, not_false_eq_true]; try omega) ?_
     refine WK ?_; try with_reducible exact trivial
     refine BU (l.take k ++ [v]) R (by (repeat rw [Ac (by omega)]); exact Aa _ _ _) (by rw [hlf]; omega) (by simp only [List.mem_cons, List.not_mem_nil, or_false, not_false_eq_true]; try omega) ?_
     refine WK ?_; try with_reducible exact trivial
     rw [← e3]
     exact AY [nx + 5] (t := .mk _) (by simp only [Bf, Aa]; exact BI ⟨nx + 5, by omega, by omega, rfl, rfl⟩)
   ·refine WK ?_; try with_reducible exact trivial
    refine BU [] (l.take k) (by (repeat rw [Ac (by omega)]); exact Aa _ _ _) (by rw [hlk, List.length_nil]; omega) (by simp only [List.mem_cons, List.not_mem_nil, or_false, not_false_eq_true]; try omega) ?_
    refine WK ?_; try with_reducible exact trivial
    refine FP (l.take k) v (nx + 1) (i := nx + 3) (by (repeat rw [Ac (by omega)]); exact Aa _ _ _) (by (repeat rw [Ac (by omega)]); exact Aa _ _ _) (by rw [hlk]; omega) (by simp only [List.mem_cons, List.not_mem_nil, or_false, not_false_eq_true]; try omega) ?_
    refine WK ?_; try with_reducible exact trivial
    refine BU (l.take k ++ [v]) R (by (repeat rw [Ac (by omega)]); exact Aa _ _ _) (by rw [hlf]; omega) (by simp only [List.mem_cons, List.not_mem_nil, or_false, not_false_eq_true]; try omega) ?_
    refine WK ?_; try with_reducible exact trivial
    rw [← e3]
    exact AY [nx + 5] (t := .mk _) (by simp only [Bf, Aa]; exact BI ⟨nx + 5, by omega, by omega, rfl, rfl⟩)
 exact hN.fn (OG (Gm _)).2 (by rw [(OG (Gm _)).1])
def hitV (v u : VoteS) : Bool := decide (u.slot = v.slot) && decide (v.ballot < u.ballot)
set_option maxRecDepth 100000 in
theorem AcC (l : List VoteS) (v : VoteS) (hl : l.length ≤ 900000) : DJ Tryz.prog Jc [CY l, .agg (Am v)] (CY (Aah l v)) := by
 intro nx
 refine AA Yw (by simp only [m_ref18_add, List.length]; decide) ?_
 simp only [Am]
 simp only [m_ref18_add]; refine WK ?_; try with_reducible exact trivial
 refine E5 [0, 3, 5] (fun s : Nat => ([(0, CY l), (3, .hp nx 0), (5, iD (s : Nat))], [(nx, .box Ah (Am v))], nx + 1)) (fun s => s ≤ l.length ∧ (l.take s).any (hitV v) = false) (fun s => l.length - s) 0 ⟨by omega, by simp⟩ (Ent.of (by with_unfolding_all rfl) rfl) ?_
 rintro k ⟨hk, hb⟩
 dsimp only at hk hb ⊢
 simp only [Am]
 rcases Nat.lt_or_ge k l.length with hkl | hkl
 ·have e0 := Qj l (k := 0) hkl (by omega)
  have e1 := Qj l (k := 1) hkl (by omega)
  simp only [Am, List.getElem?_cons_zero, List.getElem?_cons_succ, Nat.add_zero] at e0 e1
  have hstep : hitV v (gt l k) = false → (l.take (k + 1)).any (hitV v) = false := fun h => by rw [G5 hkl, List.any_append, hb, List.any_cons, h]; rfl
  rcases (by omega : (gt l k).slot ≠ v.slot ∨ ((gt l k).slot = v.slot ∧ ¬ v.ballot < (gt l k).ballot) ∨ ((gt l k).slot = v.slot ∧ v.ballot < (gt l k).ballot)) with hs | ⟨hs, hs2⟩ | ⟨hs, hs2⟩
  ·refine WKX (And.intro @e0 @e1) ?_; try with_reducible exact trivial
   repeat ((first | refine EH (AX true) ?_ | refine L9 ?_); refine WK ?_; try with_reducible exact trivial)
   exact ⟨k + 1, ⟨by omega, hstep (by unfold hitV; rw [decide_eq_false hs]; rfl)⟩, by omega, Ent.of (by with_unfolding_all rfl) rfl⟩
  ·refine WKX (And.intro @e0 @e1) ?_; try with_reducible exact trivial
   exact ⟨k + 1, ⟨by omega, hstep (by unfold hitV; rw [decide_eq_false hs2, Bool.and_false])⟩, by omega, Ent.of (by with_unfolding_all rfl) rfl⟩
  ·refine WKX (And.intro @e0 @e1) ?_; try with_reducible exact trivial
   refine Bl ⟨?_, rfl⟩
   have : l.any (fun u => decide (u.slot = v.slot) && decide (v.ballot < u.ballot)) = true := by
    rw [List.any_eq_true]
    exact ⟨gt l k, by rw [EG hkl]; exact List.getElem_mem _, by rw [decide_eq_true hs, decide_eq_true hs2]; rfl⟩
   unfold Aah
   rw [if_pos this]
 ·have hkl2 : k = l.length := by omega
  subst hkl2
  rw [List.take_of_length_le (Nat.le_refl _)] at hb
  refine WK ?_; try with_reducible exact trivial
  refine Ba (show DJ Tryz.prog Ik [CY l, .agg (Am v)] (CY (LD l v)) from put1_d l v hl) fun n1 h1 => ?_
  refine WK ?_; try with_reducible exact trivial
  refine Bl ⟨?_, rfl⟩
  unfold Aah
  rw [if_neg (by rw [show (fun u : VoteS => decide (u.slot = v.slot) && decide (v.ballot < u.ballot)) = hitV v from rfl, hb]; decide)]
set_option maxRecDepth 100000 in
theorem Ad7 (b : Bs) (hl : b.length ≤ 800000) : DJ Tryz.prog LU [bytesD b] (.tup [iD (Ji b).1, CY (Bo (Ji b).2.1), iD (Ji b).2.2]) := by
 intro nx
 refine AA WR (by simp only [m_ref18_Read, List.length]; decide) ?_
 simp only [m_ref18_Read]; refine WK ?_; try with_reducible exact trivial
 refine Ba (Ad6 b (by omega)) fun n1 h1 => ?_
 have hsm := MV b.length b
 have hsu := Qq b.length b
 rw [show (Iy b.length b) = EN b from rfl] at hsm hsu
 have hsb : EW (EN b).1 0 [] 0 = Ji b := rfl
 generalize EN b = F at *
 obtain ⟨R, t⟩ := F
 dsimp only at hsm hsu hsb ⊢
 have hRl : R.length ≤ (R.map fun r => r.length + 12).sum := by
  clear hsm hsu hsb
  induction R with
  | nil => simp
  | cons y R ih => simp only [List.length_cons, List.map_cons, List.sum_cons]; omega
 refine WK ?_; try with_reducible exact trivial
 refine E5 [5, 7, 8, 9, 10] (fun s : Nat × Nat × List VoteS × Nat × Nat => ([(5, ES R), (7, iD (s.2.1 : Nat)), (8, iD (s.2.2.2.1 : Nat)), (9, CY (Bo s.2.2.1)), (10, iD (s.1 : Nat))], [], s.2.2.2.2)) (fun s => s.1 ≤ R.length ∧ EW (R.drop s.1) s.2.1 s.2.2.1 s.2.2.2.1 = Ji b ∧ E8 s.2.2.1 ∧ (Ae s.2.2.1).Nodup ∧ s.2.1 ≤ 2147483647 ∧ s.2.2.2.1 + ((R.drop s.1).map fun r => r.length + 12).sum ≤ 800000 ∧ s.2.2.1.length ≤ s.1) (fun s => R.length - s.1) (0, 0, [], 0, n1) ⟨by omega, hsb, fun v hv => by simp at hv, List.nodup_nil, by dsimp only; omega, by dsimp only; rw [List.drop_zero]; omega, by simp⟩ ((Ent.nilv 9 (d := .sc (.slice none 0 0)) (by with_unfolding_all rfl)).trans (Ent.of (by with_unfolding_all rfl) rfl)) ?_
 rintro ⟨x, p, vs, k, n⟩ ⟨q1, q2, q3, q4, q5, q6, q7⟩
 dsimp only at q1 q2 q3 q4 q5 q6 q7 ⊢
 refine WK ?_; try with_reducible exact trivial
 refine brd (fun hlt => ?_) (fun hge => ?_)
 ·have hxl : x < R.length := by omega
  have hrm : gt R x ∈ R := by rw [EG hxl]; exact List.getElem_mem _
  rw [List.drop_eq_getElem_cons hxl, ← EG hxl] at q2 q6
  simp only [List.map_cons, List.sum_cons] at q6
  have hrs := hsm _ hrm
  refine WK ?_; try with_reducible exact trivial
  generalize hrx : gt R x = r at *
  have hT2 := MP (p := p) (rec := r) q3
  have hT1 := S9 (vs := vs) (rec := r) q5
  have hlen := IC vs
  refine Ba (rget_d r (by omega)) fun n2 h2 => ?_
  simp only [EW] at q2
  cases hg : Em r with
  | bad =>
   rw [hg, if_neg (by decide)] at q2
   simp only [Py, Am, zeroV]
   refine WK ?_; try with_reducible exact trivial
   exact Bl ⟨by rw [← q2], rfl⟩
  | promise c =>
   have hc : 1 ≤ c ∧ c ≤ 2147483647 := by
    unfold Em at hg
    split at hg
    ·split at hg
     ·rename_i hh
      cases hg
      exact hh.1
     ·cases hg
    ·split at hg
     ·split at hg <;> cases hg
     ·cases hg
   rw [hg, if_pos (show okR (.promise c) = true from rfl)] at q2
   rw [hg] at hT1 hT2
   simp only [DU] at q2 hT1 hT2
   simp only [Py, Am, zeroV]
   rw [show k + (r.length + 12) = k + 12 + r.length by omega] at q2
   rcases Nat.lt_or_ge p c with g | g
   ·rw [Nat.max_eq_right (by omega)] at q2
    refine WKX @hrx ?_; try with_reducible exact trivial
    exact ⟨(x + 1, c, vs, k + 12 + r.length, n2 + 1), ⟨by dsimp only; omega, q2, q3, q4, by dsimp only; omega, by dsimp only; omega, by dsimp only; omega⟩, by dsimp only; omega, (Ent.only [] _ _ _).trans (Ent.of (by with_unfolding_all rfl) rfl)⟩
   ·rw [Nat.max_eq_left (by omega)] at q2
    refine WKX @hrx ?_; try with_reducible exact trivial
    exact ⟨(x + 1, p, vs, k + 12 + r.length, n2 + 1), ⟨by dsimp only; omega, q2, q3, q4, by dsimp only; omega, by dsimp only; omega, by dsimp only; omega⟩, by dsimp only; omega, (Ent.only [] _ _ _).trans (Ent.of (by with_unfolding_all rfl) rfl)⟩
  | vote v =>
   have hv := LK hg
   have hv2 := hv
   unfold Be at hv2
   rw [hg, if_pos (show okR (.vote v) = true from rfl)] at q2
   rw [hg] at hT1 hT2
   simp only [DU] at q2 hT1 hT2
   simp only [Py, Am]
   rw [show k + (r.length + 12) = k + 12 + r.length by omega] at q2
   have hpl := AaB vs v
   rcases (by omega : (p : Int) < v.ballot ∨ v.ballot ≤ (p : Int)) with g | g
   ·rw [Nat.max_eq_right (by omega)] at q2
    refine WKX @hrx ?_; try with_reducible exact trivial
    refine Ba (show DJ Tryz.prog Jc [CY (Bo vs), .agg (Am v)] (CY (Aah (Bo vs) v)) from AcC (Bo vs) v (by omega)) fun n3 h3 => ?_
    refine WKX @hrx ?_; try with_reducible exact trivial
    refine ⟨(x + 1, v.ballot.toNat, J5 vs v, k + 12 + r.length, n3), ⟨by dsimp only; omega, q2, hT2, KR q4, by dsimp only; omega, by dsimp only; omega, by dsimp only; omega⟩, by dsimp only; omega, ?_⟩
    dsimp only
    rw [Int.toNat_of_nonneg (by omega), ← Oe q4]
    exact (Ent.only [] _ _ _).trans (Ent.of (by with_unfolding_all rfl) rfl)
   ·rw [Nat.max_eq_left (by omega)] at q2
    refine WKX @hrx ?_; try with_reducible exact trivial
    refine Ba (show DJ Tryz.prog Jc [CY (Bo vs), .agg (Am v)] (CY (Aah (Bo vs) v)) from AcC (Bo vs) v (by omega)) fun n3 h3 => ?_
    refine WKX @hrx ?_; try with_reducible exact trivial
    refine ⟨(x + 1, p, J5 vs v, k + 12 + r.length, n3), ⟨by dsimp only; omega, q2, hT2, KR q4, by dsimp only; omega, by dsimp only; omega, by dsimp only; omega⟩, by dsimp only; omega, ?_⟩
    dsimp only
    rw [← Oe q4]
    exact (Ent.only [] _ _ _).trans (Ent.of (by with_unfolding_all rfl) rfl)
 ·refine WK ?_; try with_reducible exact trivial
  rw [List.drop_of_length_le (by omega)] at q2
  simp only [EW] at q2
  exact Bl ⟨by rw [← q2], rfl⟩

theorem ZI {l : List NT} (h : Rj l = true) : l.length ≤ 40 ∧ ∀ a ∈ l, a.vote.bytes.length ≤ 600 ∧ a.keep.length ≤ 10 := by
 unfold Rj at h
 rw [Bool.and_eq_true, decide_eq_true_eq] at h
 refine ⟨h.2, fun a ha => ?_⟩
 have := h.1
 rw [List.take_of_length_le (by omega), List.all_eq_true] at this
 simpa [WF] using this a ha
structure LogSt (most : Nat) (l : LL) (p : Nat) (vs : List VoteS) (fs : List FileS) : Prop where
 log : NS l p vs
 disk : KH fs (Ak l)
theorem Rq (p : Nat) (vs : List VoteS) : BO p vs = Ak (EU p vs) := rfl
structure KI (most : Nat) (l : LL) (p : Nat) (vs vl : List VoteS) (fs : List FileS) : Prop where
 st : LogSt most l p vl fs
 same : Bo vs = Bo vl
 right : E8 vs
 nodup : (Ae vs).Nodup
theorem Abh {most : Nat} {p : Nat} {vs vl : List VoteS} {fs : List FileS} (v : VoteS) (hs : Bo vs = Bo vl) (hr : E8 vs) (hn : (Ae vs).Nodup) (hn2 : (Ae vl).Nodup) :
  (EK fs most p vs v).1 = (EK fs most p vl v).1 ∧ Bo (EK fs most p vs v).2 = Bo (EK fs most p vl v).2 ∧ E8 (EK fs most p vs v).2 ∧ (Ae (EK fs most p vs v).2).Nodup ∧ (EK fs most p vs v).2.length ≤ vs.length + 1 := by
 by_cases hp : Be v ∧ (p : Int) ≤ v.ballot
 ·rw [EK, if_pos hp, EK, if_pos hp]
  unfold Ur
  split
  ·rw [Ht hp.1]
   simp only [DU]
   refine ⟨trivial, ?_, ?_, KR hn, AaB _ _⟩
   ·rw [← Oe hn, ← Oe hn2, hs]
   ·intro u hu
    rcases put_mem hu with h | rfl
    ·exact hr u h
    ·exact hp.1
  ·exact ⟨rfl, hs, hr, hn, by simp⟩
 ·rw [EK, if_neg hp, EK, if_neg hp]
  exact ⟨rfl, hs, hr, hn, by simp⟩
theorem Zp {p : Nat} {vs vl : List VoteS} (h : Bo vs = Bo vl) : EU p vs = EU p vl := by unfold EU; rw [h]
theorem AdI {B T : Bs} {most : Nat} (hm : B.length + T.length ≤ most) (h6 : most ≤ 65536) : DOk [(lgN, B ++ T, B.length)] most 1 :=
 ⟨fun f hf => by simp only [List.mem_singleton] at hf; subst hf; exact ⟨by show lgN.length ≤ 1000; decide, by dsimp only; rw [List.length_append]; omega⟩,
  fun f hf => by simp only [List.mem_singleton] at hf; subst hf; dsimp only; rw [List.length_append]; omega, by simp [Ci]; omega, by simp [Du], by simp,
  fun f hf => by simp only [List.mem_singleton] at hf; subst hf; show lgN.length ≤ 24; decide⟩
theorem Z4 {B T : Bs} {most : Nat} (keep : List Int) (hk : DOk [(lgN, B ++ T, B.length)] most 1) : ∃ m, IY [(lgN, B ++ T, B.length)] keep = [(lgN, B ++ T.take m, B.length + m)] ∧ m ≤ T.length := by
 obtain ⟨m, m1, m2, m3⟩ := NM keep hk.nodup hk.sync (j := 0) (f := (lgN, B ++ T, B.length)) rfl
 dsimp only at m1 m2 m3
 rw [List.length_append] at m2
 have hl : (IY [(lgN, B ++ T, B.length)] keep).length = 1 := Mc _ _ _
 refine ⟨m - B.length, ?_, by omega⟩
 match hc : IY [(lgN, B ++ T, B.length)] keep, hl with
 | [g], _ =>
  rw [hc] at m3
  simp only [List.getElem?_cons_zero, Option.some.injEq] at m3
  rw [m3, List.take_append, List.take_of_length_le (by omega), show B.length + (m - B.length) = m by omega]
theorem Aei {fs : List FileS} {B : Bs} (h : KH fs B) : Ci fs = B.length := by
 rcases h with rfl | ⟨rfl, rfl⟩
 ·simp [Ci, Dp]
 ·rfl
theorem PI {fs : List FileS} {B : Bs} {most : Nat} (h : KH fs B) (b : Bs) {n : Bs} (hn : BN n = true) : ED fs most n b = if B.length + b.length ≤ most then 0 else 4 := by
 unfold ED
 rw [hn, if_neg (by decide), Aei h]
 split <;> split <;> first | rfl | omega
theorem Adw {fs : List FileS} {most p : Nat} {vs : List VoteS} {rec : Bs} (h : ED fs most lgN (frameB rec) ≠ 0) : RN fs most rec = fs ∧ Ur fs most p vs rec = (p, vs) := by rw [RN, if_neg h, Ur, if_neg h]; exact ⟨rfl, rfl⟩
theorem Aet {most : Nat} {l : LL} {p : Nat} {vs vl : List VoteS} {fs : List FileS} (h : KI most l p vs vl fs) : vs.length = vl.length := by rw [← IC vs, ← IC vl, h.same]
theorem NR {most : Nat} {l : LL} {p : Nat} {vs vl : List VoteS} {fs : List FileS} (h : KI most l p vs vl fs) (b : Int) :
  KT fs most p b = (if EQ p b then (if (Ak l).length + 20 ≤ most then 0 else 4) else 1) ∧ ∃ l', KI most l' (H5 fs most p vs b).1 vs vl (Iz fs most p b) ∧ (H5 fs most p vs b).2 = vs ∧ Ak l' = (if KT fs most p b = 0 then Ak l ++ frameB (Aw b.toNat) else Ak l) := by
 by_cases hp : EQ p b
 ·have hE : KT fs most p b = if (Ak l).length + 20 ≤ most then 0 else 4 := by rw [KT, if_pos hp, PI h.st.disk _ FC, AQ, Bd]
  rw [if_pos hp]
  refine ⟨hE, ?_⟩
  by_cases hm : (Ak l).length + 20 ≤ most
  ·rw [hE, if_pos hm, if_pos rfl]
   obtain ⟨⟨h1, h2⟩, h3⟩ := hp
   have ho := AcM h.st.disk (most := most) (rec := Aw b.toNat) (by rw [Bd]; omega)
   have hb : 1 ≤ b.toNat ∧ b.toNat ≤ 2147483647 := by omega
   have hl := X6 h.st.log hb
   have e1 : Iz fs most p b = Dp (Ak l ++ frameB (Aw b.toNat)) := by rw [Iz, if_pos ⟨⟨h1, h2⟩, h3⟩, ho.2]
   have e2 : H5 fs most p vs b = DU p vs (.promise b.toNat) := by rw [H5, if_pos ⟨⟨h1, h2⟩, h3⟩, SA ho.1, FN hb]
   rw [e1, e2]
   have ef : Ak (l ++ [Aw b.toNat]) = Ak l ++ frameB (Aw b.toNat) := by rw [I5, LP]
   exact ⟨l ++ [Aw b.toNat], ⟨⟨hl, by rw [ef]; exact .inl rfl⟩, h.same, h.right, h.nodup⟩, rfl, ef⟩
  ·rw [hE, if_neg hm, if_neg (by decide)]
   have hn := Adw (p := p) (vs := vs) (show ED fs most lgN (frameB (Aw b.toNat)) ≠ 0 by rw [PI h.st.disk _ FC, AQ, Bd, if_neg hm]; decide)
   rw [H5, if_pos hp, Iz, if_pos hp, hn.1, hn.2]
   exact ⟨l, h, rfl, rfl⟩
 ·rw [if_neg hp, H5, if_neg hp, Iz, if_neg hp, KT, if_neg hp]
  exact ⟨rfl, l, h, rfl, rfl⟩
theorem Qb {most : Nat} {l : LL} {p : Nat} {vs vl : List VoteS} {fs : List FileS} (h : KI most l p vs vl fs) (v : VoteS) :
  MO fs most p v = (if Be v ∧ (p : Int) ≤ v.ballot then (if (Ak l).length + (frameB (Bv v)).length ≤ most then 0 else 4) else 1) ∧ ∃ l' vl', KI most l' (EK fs most p vs v).1 (EK fs most p vs v).2 vl' (JE fs most p v) ∧ (EK fs most p vs v).2.length ≤ vs.length + 1 ∧ Ak l' = (if MO fs most p v = 0 then Ak l ++ frameB (Bv v) else Ak l) := by
 by_cases hp : Be v ∧ (p : Int) ≤ v.ballot
 ·have hE : MO fs most p v = if (Ak l).length + (frameB (Bv v)).length ≤ most then 0 else 4 := by rw [MO, if_pos hp, PI h.st.disk _ FC]
  rw [if_pos hp]
  refine ⟨hE, ?_⟩
  by_cases hm : (Ak l).length + (frameB (Bv v)).length ≤ most
  ·rw [hE, if_pos hm, if_pos rfl]
   rw [AQ] at hm
   have ho := AcM h.st.disk (most := most) (rec := Bv v) (by omega)
   have hl := AcR h.st.log hp.1
   obtain ⟨y1, y2, y3, y4, y5⟩ := Abh (fs := fs) (most := most) (p := p) v h.same h.right h.nodup h.st.log.nodup
   have e1 : JE fs most p v = Dp (Ak l ++ frameB (Bv v)) := by rw [JE, if_pos hp, ho.2]
   have e2 : EK fs most p vl v = DU p vl (.vote v) := by rw [EK, if_pos hp, SA ho.1, Ht hp.1]
   have ef : Ak (l ++ [Bv v]) = Ak l ++ frameB (Bv v) := by rw [I5, LP]
   rw [e2] at y1 y2
   refine ⟨l ++ [Bv v], (DU p vl (.vote v)).2, ⟨⟨?_, by rw [e1, ef]; exact .inl rfl⟩, y2, y3, y4⟩, y5, ef⟩
   rw [y1]
   exact hl
  ·rw [hE, if_neg hm, if_neg (by decide)]
   have hn := Adw (p := p) (vs := vs) (show ED fs most lgN (frameB (Bv v)) ≠ 0 by rw [PI h.st.disk _ FC, if_neg hm]; decide)
   rw [EK, if_pos hp, JE, if_pos hp, hn.1, hn.2]
   exact ⟨l, vl, h, by simp, rfl⟩
 ·rw [if_neg hp, EK, if_neg hp, JE, if_neg hp, MO, if_neg hp]
  exact ⟨rfl, l, vl, h, by simp, rfl⟩
theorem AcP : BN nwN = true := by decide
theorem YS {most : Nat} {l : LL} {p : Nat} {vs vl : List VoteS} {fs : List FileS} (h : KI most l p vs vl fs) :
  NP fs most p vs = (if (Ak l).length + (BO p vs).length ≤ most then 0 else 4) ∧ ∃ l' vl', KI most l' p vs vl' (Ox fs most p vs) ∧ Ak l' = (if NP fs most p vs = 0 then BO p vs else Ak l) := by
 have e : BO p vs = BO p vl := by unfold BO; rw [Zp h.same]
 by_cases hm : (Ak l).length + (BO p vs).length ≤ most
 ·obtain ⟨e1, e2⟩ := Aek h.st.disk (most := most) (p := p) (vs := vs) hm
  rw [e1, e2, if_pos hm, if_pos rfl]
  refine ⟨rfl, EU p vl, Bo vl, ⟨⟨(AcS h.st.log).1, ?_⟩, ?_, h.right, h.nodup⟩, ?_⟩
  ·rw [e, Rq]; exact .inl rfl
  ·rw [Xv h.st.log.nodup]; exact h.same
  ·rw [e, Rq]
 ·have hn : ED fs most nwN (BO p vs) = 4 := by rw [PI h.st.disk _ AcP, if_neg hm]
  have hE : NP fs most p vs = 4 := by rw [NP, if_neg (by omega), hn]
  rw [hE, if_neg hm, if_neg (by decide), Ox, if_neg (by omega)]
  exact ⟨rfl, l, vl, h, rfl⟩
theorem XW {fs : List FileS} {B : Bs} {most : Nat} (h : KH fs B) (hl : B.length ≤ most) (hm : most ≤ 65536) (keep : List Int) : IY fs keep = fs := by
 rcases h with rfl | ⟨rfl, rfl⟩
 ·obtain ⟨m, h1, h2⟩ := Z4 (B := B) (T := []) (most := most) keep (AdI (by simpa using hl) hm)
  simp only [List.length_nil, Nat.le_zero_eq] at h2
  subst h2
  simpa [Dp] using h1
 ·exact List.eq_nil_of_length_eq_zero (Mc _ _ _)
theorem YR {most : Nat} {l : LL} {p : Nat} {vs vl : List VoteS} {fs : List FileS} (h : KI most l p vs vl fs) : PG fs = fs ∧ Ji (OD fs) = (p, vl, (Ak l).length) ∧ KI most l p vl vl fs := by
 have hs := AaJ h.st.log
 have hl := AaH h.st.disk
 refine ⟨Aej h.st.disk (by rw [hs]), by rw [hl, hs], h.st, rfl, h.st.log.right, h.st.log.nodup⟩
theorem Ym {P : Program} {f : FuncId} {ds : List D} {r r1 : Ad} {nx e s n : Nat} {l : List D} {a : D} (h : D9 P f ds r nx (fun d ro nx' => ∃ k, nx ≤ k ∧ k < nx' ∧ d = .tup [.h k, a] ∧ ro = (k, .row e s n l) :: r1)) (ho : Jj l) :
  D9 P f ds r nx (fun d ro _ => d = .tup [.sl n (PS l), a] ∧ ro = r1) := by
 intro w Z T F vs ok hrs
 refine (h w Z T F vs ok hrs).mono fun en w' ⟨v, hv, d, r', nx', Z', T', F', o, hd, i, h1, h2, h3, h4⟩ => ?_
 subst h3; subst h4
 obtain ⟨Z2, F2, o2, z2⟩ := RT.frz i (d := .row e s n l) (Aa _ _ _) (by simpa only [JW] using ho) _ _ _ _ _ _ o
 rw [A8] at o2
 have hd2 := Rs.keep (w' := w') (fun _ _ => rfl) z2 (fun _ _ h => h) _ _ hd
 simp only [Rs] at hd2
 obtain ⟨us, rfl, hus⟩ := hd2
 simp only [RsL] at hus
 obtain ⟨u, us', rfl, k1, u2, us2, rfl, k2, rfl⟩ := hus
 have k3 := L8 o2.roots (d := .h i) (by simpa only [Rs] using k1)
 simp only [Dx, Aa, frzR, Sl.frz] at k3
 obtain ⟨F3, o3⟩ := o2.del (i := i)
 rw [Ai] at o3
 exact ⟨_, hv, _, _, nx', Z2, T', F3, o3, by simp only [Rs]; exact ⟨_, rfl, by simp only [RsL]; exact ⟨u, _, rfl, k3, u2, _, rfl, k2, rfl⟩⟩, rfl, rfl⟩
theorem Yl {P : Program} {f : FuncId} {ds : List D} {r : Ad} {nx : Nat} {Q Q' : D → Ad → Nat → Prop} (h : D9 P f ds r nx Q)
  (k : ∀ d ro nx', Q d ro nx' → ∃ d', (∀ (w : World) (Z : Nat → Prop) (T : Nat → Option Value) (v : Value), Rs w Z T d v → Rs w Z T d' v) ∧ Q' d' ro nx') : D9 P f ds r nx Q' := fun w Z T F vs ok hrs =>
 (h w Z T F vs ok hrs).mono fun en w' ⟨v, hv, d, r', nx', Z', T', F', o1, o2, o3⟩ => by
  obtain ⟨d', h2, h3⟩ := k d r' nx' o3
  exact ⟨v, hv, d', r', nx', Z', T', F', o1, h2 _ _ _ _ o2, h3⟩
theorem read_b {fs : List FileS} {B : Bs} {most k : Nat} (h : KH fs B) (hk : DOk fs most k) : Xb Tryz.prog DR (fun i => [.hp i 0, DZ lgN]) (Af fs most) (.tup [bytesD B, iD (Kt fs lgN)]) (Af fs most) := by
 intro i nx hi
 rcases h with rfl | ⟨rfl, rfl⟩
 ·have := Zq (Dp B) most lgN (j := 0) (f := (lgN, B, B.length)) hk.small (by decide) (GX _ _) rfl i nx hi
  have hz := Ym this (BV _).1
  rw [(BV _).2] at hz
  have e : Kt (Dp B) lgN = 0 := by unfold Kt; rw [show BF (Dp B) lgN = some 0 from GX _ _]
  rw [e]
  exact hz
 ·refine Yl (Wi [] most lgN hk.small (by decide) rfl i nx hi) fun d ro nx' h => ?_
  obtain ⟨rfl, rfl⟩ := h
  refine ⟨_, fun w Z T v hv => ?_, rfl, rfl⟩
  simp only [Rs, RsL] at hv ⊢
  obtain ⟨us, rfl, u, us', rfl, h1, h2⟩ := hv
  refine ⟨_, rfl, u, us', rfl, ?_, h2⟩
  rw [h1]
  exact ⟨none, 0, rfl, Nat.le_refl _, fun _ => rfl, by simp only [List.map_nil, Fz]⟩
end Go.Proofs.YtgpkbldlkadnjaaGreat
end
section
namespace Go.Proofs.YtgpkbldlkadnjaaGreat
open Go Go.Sl
-- 35 shardlog/shardloglaw25.disks; Ae [(0, n), (1, bytes), (2, n), (3, bytes), (5, out), (6, i), (7, d)]
-- 39 shardlog/scrub.New; Ae [(0, s), (1, disks), (2, s), (3, disks), (6, t), (7, _), (8, d)]
-- 40 (*shardlog/scrub.Store).Get; Ae [(0, t), (1, name), (2, away), (3, t), (4, name), (5, away), (8, l), (9, any)]
-- 44 (*shardlog/scrub.Store).Put; Ae [(0, t), (1, name), (2, v), (3, t), (4, name), (5, v), (7, l), (8, e), (9, i), (10, d), (11, e)]
-- 46 (*shardlog/scrub.Store).Disk; Ae [(0, t), (1, i), (2, t), (3, i)]
-- 49 (*shardlog/scrub.Store).Scrub; Ae [(0, t), (1, i), (2, t), (3, i), (6, out), (7, d), (8, _), (9, f), (10, name), (11, is), (12, b), (13, _)]
-- 50 (*shardlog/scrub.Store).Repair; Ae [(0, t), (1, name), (2, t), (3, name), (6, v), (7, e), (8, l), (9, n), (10, i), (11, d), (12, k), (13, e)]
-- 81 shardlog/scrub.named; Ae [(0, s), (1, s)]
-- 82 (*shardlog/scrub.Store).shards; Ae [(0, t), (1, name), (2, away), (3, t), (4, name), (5, away), (8, out), (9, any), (10, i), (11, d), (12, b), (13, e)]
-- 92 shardlog/scrub.write; Ae [(0, d), (1, name), (2, b), (3, d), (4, name), (5, b), (7, e)]
-- 93 shardlog/scrub.file; Ae [(0, i), (1, shard), (2, i), (3, shard)]
-- 98 strings.CutPrefix; Ae [(0, s), (1, prefix), (2, s), (3, prefix), (4, after), (5, found)]
-- 99 shardlog/scrub.shard; Ae [(0, i), (1, b), (2, i), (3, b), (5, rec), (6, rest), (7, ok), (8, n), (9, body), (10, is), (11, s), (12, left), (13, whole)]
-- 100 shardlog/scrub.mend; Ae [(0, d), (1, name), (2, want), (3, d), (4, name), (5, want), (8, b), (9, e), (10, e)]
-- 125 slices.Contains[[]int,int]; Ae [(0, s), (1, v), (2, s), (3, v)]
-- 141 internal/stringslite.CutPrefix; Ae [(0, s), (1, prefix), (2, s), (3, prefix), (4, after), (5, found)]
-- 156 slices.Index[[]int,int]; Ae [(0, s), (1, v), (2, s), (3, v), (5, i)]
-- 162 internal/stringslite.HasPrefix; Ae [(0, s), (1, prefix), (2, s), (3, prefix)]
end Go.Proofs.YtgpkbldlkadnjaaGreat
end
section
set_option maxHeartbeats 3000000
attribute [local irreducible] Go.Sl.Chk Go.Sl.Br Go.Sl.Or2 Go.Sl.Ld Go.Sl.Ldn Go.Sl.LdB Go.Sl.Stn Go.Sl.New Go.Sl.Run Go.Sl.BZ Go.Sl.BQ Go.Sl.Call Go.Sl.Bc Go.Sl.Cb Go.Sl.Alt Go.Sl.Om Go.Sl.xpk Go.Sl.Dk Go.Sl.Dl Go.Sl.DLd Go.Sl.CZ Go.Sl.DBs Go.Sl.AO Go.Sl.Cf Go.Sl.CB Go.Sl.BC Go.Sl.DGC Go.Sl.BG Go.Sl.Dw Go.Sl.Ce Go.Sl.Ent Go.Sl.AZ Go.Sl.dv Go.Sl.ev Go.Sl.AU
namespace Go.Proofs.YtgpkbldlkadnjaaGreat
open Go Go.Sl Go.RowKit
def DD (i : Nat) (shard : Bs) : Bs := frameB (Ar i ++ DY shard)
def Ya (i : Int) (b : Bs) : Bs := match Jt b with
 | none => []
 | some p => match I9 (p.1.drop 4) with
  | none => []
  | some q => if (4 ≤ p.1.length ∧ p.2.length + q.2.length = 0) ∧ (BX p.1 : Int) = i then q.1 else []
def tN : Bs := [116, 46]
def wrF (fs : List FileS) (most : Nat) (n b : Bs) : List FileS := if ED fs most tN b = 0 then J4 (E9 (GZ fs most tN b) tN) tN n else fs
def wrE (fs : List FileS) (most : Nat) (n b : Bs) : Nat := if ED fs most tN b = 0 then Pz (E9 (GZ fs most tN b) tN) tN n else ED fs most tN b
theorem Sv {nx : Nat} {held : List Nat} {r : Ad} {K : D → Ad → Nat → Prop} {tg : A7 K} (i : Nat) (a b : Bs) (hg : AP r i = some (.row tU8 1 a.length (a.map bD))) (hl : a.length + b.length ≤ 1000000000) (hh : i ∉ held) (k : K (bytesD (a ++ b)) (Ej r i) (nx + 1)) : Cf Tryz.prog #[Ap, Ap] Ap (.h i) (bytesD b) held r nx K tg :=
 WO (tg' := .mk _) (tg0 := .mk _) (K0 := fun d r' nx' => d = .h nx ∧ r' = (nx, .row tU8 1 (a.length + b.length) (a.map bD ++ b.map bD)) :: Ej r i ∧ nx' = nx + 1)
  (Jm (i := i) (m := b.length) (l' := b.map bD) elB (l := a.map bD) (n := a.length) hg (FW.sl _ _ _) (by simp) CP (by omega) (by omega) hh ⟨rfl, rfl, rfl⟩)
  (fun d r' nx' ⟨h1, h2, h3⟩ => ⟨nx, _, _, _, _, _, h1, h2, fun x hx => by
   rcases List.mem_append.1 hx with h | h <;> (obtain ⟨y, _, rfl⟩ := List.mem_map.1 h; trivial), by
   subst h3
   rw [← List.map_append, ← List.length_append]; exact k⟩)
def qN (n : Bs) : Bs := 113 :: 46 :: n
def bN (n : Bs) : Bs := 98 :: 46 :: n
def MX (fs : List FileS) (n : Bs) : Option Bs := (BF fs n).bind fun j => fs[j]?.map fun f => f.2.1
def Vg (fs : List FileS) (most : Nat) (n w : Bs) : List FileS := if MX (OW fs (qN n)) (bN n) = some w then OW fs (qN n) else wrF (OW fs (qN n)) most (bN n) w
def Vh (fs : List FileS) (most : Nat) (n w : Bs) : Nat × Nat := if MX (OW fs (qN n)) (bN n) = some w then (0, 0) else if wrE (OW fs (qN n)) most (bN n) w = 0 then (1, 0) else (0, wrE (OW fs (qN n)) most (bN n) w)


end Go.Proofs.YtgpkbldlkadnjaaGreat
end
section
namespace Go.Proofs.YtgpkbldlkadnjaaGreat
open Go Go.Sl
def cutB : Bs → Option Bs
 | 98 :: 46 :: n => some n
 | _ => none
def AcA (fs : List FileS) (n : Bs) : Bs := (MX fs n).getD []
def YM (i : Nat) (fs : List FileS) (s : Bs) : Option Bs := match cutB s with
 | some n => if Ya i (AcA fs s) = [] then some n else none
 | none => none
def Gq (i : Nat) : List Bs → List FileS → List FileS × List Bs
 | [], fs => (fs, [])
 | s :: ns, fs => match YM i fs s with
  | some n => ((Gq i ns (J4 fs s (qN n))).1, n :: (Gq i ns (J4 fs s (qN n))).2)
  | none => Gq i ns fs
end Go.Proofs.YtgpkbldlkadnjaaGreat
end
section
set_option maxHeartbeats 3000000
attribute [local irreducible] Go.Sl.Chk Go.Sl.Br Go.Sl.Or2 Go.Sl.Ld Go.Sl.Ldn Go.Sl.LdB Go.Sl.Stn Go.Sl.New Go.Sl.Run Go.Sl.BZ Go.Sl.BQ Go.Sl.Call Go.Sl.Bc Go.Sl.Cb Go.Sl.Alt Go.Sl.Om Go.Sl.xpk Go.Sl.Dk Go.Sl.Dl Go.Sl.DLd Go.Sl.CZ Go.Sl.DBs Go.Sl.AO Go.Sl.Cf Go.Sl.CB Go.Sl.BC Go.Sl.DGC Go.Sl.BG Go.Sl.Dw Go.Sl.Ce Go.Sl.Ent Go.Sl.AZ Go.Sl.dv Go.Sl.ev Go.Sl.AU
namespace Go.Proofs.YtgpkbldlkadnjaaGreat
open Go Go.Sl Go.RowKit

end Go.Proofs.YtgpkbldlkadnjaaGreat
end
section
namespace Go.Proofs.YtgpkbldlkadnjaaGreat
open Go Go.Sl
theorem QB (i : Nat) (s : Bs) : (DD i s).length = s.length + 20 := by
 unfold DD
 rw [AQ, List.length_append, AL, EM]
 omega
theorem Aby {i : Nat} (hi : i < 4294967296) (s : Bs) (hs : s.length ≤ 60000) (r : Bs) : Ya i (DD i s ++ r) = if r = [] then s else [] := by
 unfold Ya DD
 rw [TU (by rw [List.length_append, AL, EM]; omega)]
 dsimp only
 have hd : (Ar i ++ DY s).drop 4 = DY s := List.drop_left' rfl
 have ht := Ov (v := s) (by omega) []
 rw [List.append_nil] at ht
 rw [hd, ht]
 dsimp only
 rw [F7 hi]
 cases r with
 | nil => rw [if_pos ⟨⟨by rw [List.length_append, AL]; omega, rfl⟩, rfl⟩, if_pos rfl]
 | cons x l => rw [if_neg (fun h => by have := h.1.2; simp at this), if_neg (by simp)]
theorem X9 {i : Nat} (hi : i < 4294967296) (s : Bs) (hs : s.length ≤ 60000) : Ya i (DD i s) = s := by
 have := Aby hi s hs []
 rwa [List.append_nil, if_pos rfl] at this
end Go.Proofs.YtgpkbldlkadnjaaGreat
end
section
set_option maxHeartbeats 3000000
attribute [local irreducible] Go.Sl.Chk Go.Sl.Br Go.Sl.Or2 Go.Sl.Ld Go.Sl.Ldn Go.Sl.LdB Go.Sl.Stn Go.Sl.New Go.Sl.Run Go.Sl.BZ Go.Sl.BQ Go.Sl.Call Go.Sl.Bc Go.Sl.Cb Go.Sl.Alt Go.Sl.Om Go.Sl.xpk Go.Sl.Dk Go.Sl.Dl Go.Sl.DLd Go.Sl.CZ Go.Sl.DBs Go.Sl.AO Go.Sl.Cf Go.Sl.CB Go.Sl.BC Go.Sl.DGC Go.Sl.BG Go.Sl.Dw Go.Sl.Ce Go.Sl.Ent Go.Sl.AZ Go.Sl.dv Go.Sl.ev Go.Sl.AU
namespace Go.Proofs.YtgpkbldlkadnjaaGreat
open Go Go.Sl Go.RowKit
def JR (n : Bs) : Prop := 1 ≤ n.length ∧ n.length ≤ 16
instance (n : Bs) : Decidable (JR n) := by unfold JR; infer_instance
/-! ### put -/

theorem Lp {i : Nat} {s : Bs} {ns : List Bs} {fs : List FileS} : Gq i (s :: ns) fs = match YM i fs s with
  | some n => ((Gq i ns (J4 fs s (qN n))).1, n :: (Gq i ns (J4 fs s (qN n))).2)
  | none => Gq i ns fs := rfl

end Go.Proofs.YtgpkbldlkadnjaaGreat
end
section
namespace Go.Proofs.YtgpkbldlkadnjaaGreat
open Go Go.Sl
theorem N9 : BN tN = true := by decide
theorem Wx {n : Bs} (h : JR n) : BN (bN n) = true := by
 obtain ⟨h1, h2⟩ := h
 unfold BN bN
 simp only [List.length_cons, Bool.and_eq_true, decide_eq_true_eq]
 omega
theorem Aer {n : Bs} (h : JR n) : BN (qN n) = true := by
 obtain ⟨h1, h2⟩ := h
 unfold BN qN
 simp only [List.length_cons, Bool.and_eq_true, decide_eq_true_eq]
 omega
theorem TM (n b : Bs) (k : Nat) : BF [(n, b, k)] n = some 0 := by
 unfold BF
 simp [List.findIdx?_cons]
theorem TL {n m : Bs} (h : n ≠ m) (b : Bs) (k : Nat) : BF [(n, b, k)] m = none := by
 unfold BF
 simp [List.findIdx?_cons, h]
theorem Q5 (n b : Bs) (k : Nat) : MX [(n, b, k)] n = some b := by unfold MX; rw [TM]; rfl
theorem XK {n m : Bs} (h : n ≠ m) (b : Bs) (k : Nat) : MX [(n, b, k)] m = none := by unfold MX; rw [TL h]; rfl
theorem AcB (n : Bs) : MX [] n = none := rfl
theorem bq_ne (n m : Bs) : bN n ≠ qN m := fun h => by simp [bN, qN] at h
theorem bt_ne (n : Bs) (h : JR n) : bN n ≠ tN := fun e => by simp [bN, tN] at e
theorem Ab1 (n b : Bs) (k : Nat) : Ci [(n, b, k)] = b.length := by simp [Ci]
theorem AbY {most : Nat} {n w : Bs} (hn : JR n) (hw : w.length ≤ most) : wrE [] most (bN n) w = 0 ∧ wrF [] most (bN n) w = [(bN n, w, w.length)] := by
 have e0 : ED [] most tN w = 0 := by unfold ED; rw [N9, if_neg (by decide), if_neg (by simp [Ci]; omega)]
 have e1 : GZ [] most tN w = [(tN, w, 0)] := by unfold GZ; rw [N9, if_neg (by decide), if_neg (by simp [Ci]; omega)]; rfl
 have e2 : E9 [(tN, w, 0)] tN = [(tN, w, w.length)] := by unfold E9; rw [TM]; rfl
 have hnn : ¬ (BN tN = false ∨ BN (bN n) = false) := by rw [N9, Wx hn]; decide
 have e3 : Pz [(tN, w, w.length)] tN (bN n) = 0 := by unfold Pz Kt; rw [if_neg hnn, TM]
 have e4 : J4 [(tN, w, w.length)] tN (bN n) = [(bN n, w, w.length)] := by unfold J4; rw [if_neg hnn, TM]; rfl
 unfold wrE wrF
 rw [e0, if_pos rfl, if_pos rfl, e1, e2]
 exact ⟨e3, e4⟩
theorem ok1 {n w : Bs} {most sy : Nat} (hn : JR n) (hw : w.length ≤ most) (hm : most ≤ 65536) (hs : sy ≤ w.length) : DOk [(bN n, w, sy)] most 1 := by
 have hl : (bN n).length ≤ 18 := by simp [bN]; exact hn.2
 refine ⟨fun f hf => ?_, fun f hf => ?_, by rw [Ab1]; exact hw, by simp [Du], Nat.le_refl _, fun f hf => ?_⟩
 ·rw [List.mem_singleton.1 hf]; exact ⟨by dsimp only; omega, by dsimp only; omega⟩
 ·rw [List.mem_singleton.1 hf]; exact hs
 ·rw [List.mem_singleton.1 hf]; dsimp only; omega
theorem ok0 (most : Nat) : DOk [] most 0 := ⟨fun f hf => by simp at hf, fun f hf => by simp at hf, Nat.zero_le _, List.nodup_nil, Nat.le_refl _, fun f hf => by simp at hf⟩
theorem ZA (n b : Bs) (k : Nat) : CQ [(n, b, k)] = [n] := by simp [CQ, List.mergeSort_singleton]
theorem AaX {n m : Bs} (h : n ≠ m) (b : Bs) (k : Nat) : OW [(n, b, k)] m = [(n, b, k)] := by unfold OW; rw [TL h]
theorem Abu (n w : Bs) (most sy : Nat) : Vg [(bN n, w, sy)] most n w = [(bN n, w, sy)] ∧ Vh [(bN n, w, sy)] most n w = (0, 0) := by
 unfold Vg Vh
 rw [AaX (bq_ne n n), Q5, if_pos rfl, if_pos rfl]
 exact ⟨rfl, rfl⟩
structure QN where
 act : UInt8
 at_ : Nat
 turn : UInt8
deriving Inhabited
def QN.kind (x : QN) : Nat := x.act.toNat % 5
def QN.good (x : QN) : Bool := decide (x.kind = 0) || (decide (x.kind = 1) && decide (x.turn = 0))
inductive Jh (f : Bs) (i : Nat) (s : Bs) (x : QN) : List FileS → Prop where
 | good (h : x.good = true) (h4 : x.kind ≠ 4) : Jh f i s x [(f, DD i s, (DD i s).length)]
 | away (h : x.good = false) (h4 : x.kind = 4) : Jh f i s x []
 | bad (h : x.good = false) (h4 : x.kind ≠ 4) (w : Bs) (sy : Nat) (hg : Ya i w = []) (hl : w.length ≤ (DD i s).length + 1) (hs : sy ≤ w.length) : Jh f i s x [(f, w, sy)]
section
variable {n s : Bs} {i : Nat} {x : QN} {fs : List FileS}
theorem Jh.len (h : Jh (bN n) i s x fs) : fs.length ≤ 1 := by cases h <;> simp
theorem Jh.read (h : Jh (bN n) i s x fs) : (MX fs (bN n)).isSome = decide (x.kind ≠ 4) := by
 cases h with
 | good h h4 => rw [Q5, decide_eq_true h4]; rfl
 | away h h4 => rw [AcB, decide_eq_false (by simp [h4])]; rfl
 | bad h h4 w sy hg hl hs => rw [Q5, decide_eq_true h4]; rfl
theorem Jh.short (h : Jh (bN n) i s x fs) (hs : s.length ≤ 900) {m b : Bs} (hb : MX fs (bN m) = some b) : b.length ≤ 1000 := by
 have hl := QB i s
 by_cases e : bN n = bN m
 ·rw [← e] at hb
  cases h with
  | good h h4 => rw [Q5] at hb; cases hb; omega
  | away h h4 => rw [AcB] at hb; cases hb
  | bad h h4 w sy hg hl hs => rw [Q5] at hb; cases hb; omega
 ·cases h with
  | good h h4 => rw [XK e] at hb; cases hb
  | away h h4 => rw [AcB] at hb; cases hb
  | bad h h4 w sy hg hl hs => rw [XK e] at hb; cases hb
theorem Jh.ok (h : Jh (bN n) i s x fs) (hn : JR n) {most : Nat} (hm : s.length + 21 ≤ most) (hm2 : most ≤ 65536) : DOk fs most 1 := by
 have hl := QB i s
 cases h with
 | good h h4 => exact ok1 hn (by omega) hm2 (Nat.le_refl _)
 | away h h4 => exact (ok0 most).mono (by omega)
 | bad h h4 w sy hg hl2 hs => exact ok1 hn (by omega) hm2 hs
def AcE (n : Bs) (fs : List FileS) : List FileS := match fs with
 | [(_, w, sy)] => [(qN n, w, sy)]
 | _ => []
theorem ren1 {a b w : Bs} {sy : Nat} (ha : BN a = true) (hb : BN b = true) : J4 [(a, w, sy)] a b = [(b, w, sy)] := by
 unfold J4
 rw [if_neg (by rw [ha, hb]; decide), TM]
 rfl
theorem cut_q (n : Bs) : cutB (qN n) = none := rfl
theorem Jh.scrub (h : Jh (bN n) i s x fs) (hn : JR n) (hi : i < 4294967296) (hs : s.length ≤ 60000) (h0 : s ≠ []) :
  Gq i (CQ fs) fs = if x.good = false ∧ x.kind ≠ 4 then (AcE n fs, [n]) else (fs, []) := by
 cases h with
 | good h h4 =>
  have hb : YM i [(bN n, DD i s, (DD i s).length)] (bN n) = none := by
   unfold YM
   rw [show cutB (bN n) = some n from rfl]
   dsimp only
   rw [AcA, Q5, Option.getD_some, X9 hi s hs, if_neg h0]
  rw [ZA, Lp, hb, if_neg (by rw [h]; simp)]
  rfl
 | away h h4 =>
  rw [if_neg (fun k => k.2 h4)]
  rw [show CQ [] = [] by simp [CQ]]
  rfl
 | bad h h4 w sy hg hl hs =>
  have hb : YM i [(bN n, w, sy)] (bN n) = some n := by
   unfold YM
   rw [show cutB (bN n) = some n from rfl]
   dsimp only
   rw [AcA, Q5, Option.getD_some, if_pos hg]
  rw [ZA, Lp, hb, if_pos ⟨h, h4⟩]
  dsimp only
  rw [ren1 (Wx hn) (Aer hn)]
  rfl
theorem Jh.again (h : Jh (bN n) i s x fs) (hn : JR n) (hi : i < 4294967296) (hs : s.length ≤ 60000) (h0 : s ≠ []) :
  Gq i (CQ (Gq i (CQ fs) fs).1) (Gq i (CQ fs) fs).1 = ((Gq i (CQ fs) fs).1, []) := by
 have h1 := h.scrub hn hi hs h0
 rw [h1]
 cases h with
 | good h h4 => rw [if_neg (by rw [h]; simp)] at h1 ⊢; exact h1
 | away h h4 => rw [if_neg (fun k => k.2 h4)] at h1 ⊢; exact h1
 | bad h h4 w sy hg hl hs =>
  rw [if_pos ⟨h, h4⟩]
  dsimp only [AcE]
  have hb : YM i [(qN n, w, sy)] (qN n) = none := by unfold YM; rw [cut_q]
  rw [ZA, Lp, hb]
  rfl
theorem Jh.mend (h : Jh (bN n) i s x fs) (hn : JR n) (hi : i < 4294967296) (hs : s.length ≤ 900) (h0 : s ≠ []) {fs' : List FileS} (h' : fs' = fs ∨ fs' = (Gq i (CQ fs) fs).1) {most : Nat} (hm : 6000 ≤ most) :
  Vg fs' most n (DD i s) = [(bN n, DD i s, (DD i s).length)] ∧ Vh fs' most n (DD i s) = (if x.good then 0 else 1, 0) := by
 have hl := QB i s
 have fresh : ∀ fs2 : List FileS, MX (OW fs2 (qN n)) (bN n) = none → OW fs2 (qN n) = [] → Vg fs2 most n (DD i s) = [(bN n, DD i s, (DD i s).length)] ∧ Vh fs2 most n (DD i s) = (1, 0) := fun fs2 h1 h2 => by
  obtain ⟨w1, w2⟩ := AbY (most := most) (n := n) (w := DD i s) hn (by omega)
  unfold Vg Vh
  rw [h1, h2, if_neg (by simp), if_neg (by simp), w1, w2, if_pos rfl]
  exact ⟨rfl, rfl⟩
 rw [h.scrub hn hi (by omega) h0] at h'
 cases h with
 | good h h4 =>
  rw [if_neg (by rw [h]; simp)] at h'
  have e : fs' = [(bN n, DD i s, (DD i s).length)] := by rcases h' with e | e <;> exact e
  rw [e, h]
  exact Abu _ _ _ _
 | away h h4 =>
  rw [if_neg (fun k => k.2 h4)] at h'
  have e : fs' = [] := by rcases h' with e | e <;> exact e
  rw [e, h]
  exact fresh [] rfl rfl
 | bad h h4 w sy hg hl2 hs2 =>
  rw [if_pos ⟨h, h4⟩] at h'
  rw [h]
  rcases h' with e | e
  ·rw [e]
   have hne : w ≠ DD i s := fun e => by rw [e, X9 hi s (by omega)] at hg; exact h0 hg
   have d1 : OW [(bN n, w, sy)] (qN n) = [(bN n, w, sy)] := AaX (bq_ne n n) w sy
   have a1 : ED [(bN n, w, sy)] most tN (DD i s) = 0 := by unfold ED; rw [N9, if_neg (by decide), if_neg (by rw [Ab1]; omega)]
   have ft : BF [(bN n, w, sy)] tN = none := TL (bt_ne n hn) w sy
   have a2 : GZ [(bN n, w, sy)] most tN (DD i s) = [(bN n, w, sy), (tN, DD i s, 0)] := by unfold GZ; rw [N9, if_neg (by decide), if_neg (by rw [Ab1]; omega), ft]; rfl
   have f2 : ∀ k, BF [(bN n, w, sy), (tN, DD i s, k)] tN = some 1 := fun k => by
    unfold BF
    simp [List.findIdx?_cons, bt_ne n hn]
   have a3 : E9 [(bN n, w, sy), (tN, DD i s, 0)] tN = [(bN n, w, sy), (tN, DD i s, (DD i s).length)] := by unfold E9; rw [f2]; rfl
   have hnn : ¬ (BN tN = false ∨ BN (bN n) = false) := by rw [N9, Wx hn]; decide
   have a4 : Pz [(bN n, w, sy), (tN, DD i s, (DD i s).length)] tN (bN n) = 0 := by unfold Pz Kt; rw [if_neg hnn, f2]
   have a5 : J4 [(bN n, w, sy), (tN, DD i s, (DD i s).length)] tN (bN n) = [(bN n, DD i s, (DD i s).length)] := by
    unfold J4
    rw [if_neg hnn, f2]
    dsimp only
    rw [show [(bN n, w, sy), (tN, DD i s, (DD i s).length)].eraseIdx 1 = [(bN n, w, sy)] from rfl, TM]
    rfl
   unfold Vg Vh
   rw [d1, Q5, if_neg (by simpa using hne), if_neg (by simpa using hne)]
   unfold wrF wrE
   rw [a1, if_pos rfl, if_pos rfl, a2, a3, a4, a5, if_pos rfl]
   exact ⟨rfl, rfl⟩
  ·rw [e]
   dsimp only [AcE]
   have d1 : OW [(qN n, w, sy)] (qN n) = [] := by unfold OW; rw [TM]; rfl
   exact fresh _ (by rw [d1]; rfl) d1
end
-- 3 shardlog/shardloglaw18.LogActs; Ae [(0, l), (1, capacity), (2, l), (3, capacity), (5, d), (6, x), (7, most), (8, votes), (9, file), (10, i), (11, a), (12, more), (13, want), (14, got), (15, n), (16, v), (17, _), (18, b), (19, _)]
noncomputable def m_law18_LogActs : MF := ⟨180, [.t 4],
 .seq (
 .ops [
 .p 4 .mv [(.const (.bool false))]]) (
 .seq (
 .seq (
 .ops [
 .call (some 20) I8 [],
 .p 21 .not [(.tmp 20)],
 .p 22 .mv [(.tmp 21)],
 .gd 22 false (some 23) (.p 23 .mv [(.tmp 0)]),
 .gd 22 false (some 24) (.call (some 24) Nv [(.tmp 23)]),
 .gd 22 false (some 25) (.p 25 .not [(.tmp 24)]),
 .p 26 .pick [(.tmp 22), (.const (.bool true)), (.tmp 25)]]) (
 .cond (.tmp 26) (
 .seq (
 .ops [
 .call (some 27) I8 [],
 .p 4 .mv [(.tmp 27)]]) (
 .ret)) (
 .skip))) (
 .seq (
 .ops [
 .p 28 .mv [(.tmp 1)],
 .p 29 (.conv .i64) [(.tmp 28)],
 .call (some 30) LZ [(.tmp 29)],
 .p 5 .mv [(.tmp 30)]]) (
 .seq (
 .seq (
 .ops [
 .p 31 .mv [(.tmp 5)],
 .p 32 (.isnil .pt false) [(.tmp 31)]]) (
 .cond (.tmp 32) (
 .seq (
 .ops [
 .p 4 .mv [(.const (.bool false))]]) (
 .ret)) (
 .skip))) (
 .seq (
 .ops [
 .p 33 .mv [(.tmp 5)],
 .call (some 34) IM [(.tmp 33)],
 .p 6 .mv [(.tmp 34)]]) (
 .seq (
 .seq (
 .ops [
 .p 35 .mv [(.tmp 6)],
 .p 36 (.isnil .pt false) [(.tmp 35)]]) (
 .cond (.tmp 36) (
 .seq (
 .ops [
 .p 4 .mv [(.const (.bool false))]]) (
 .ret)) (
 .skip))) (
 .seq (
 .ops [
 .p 7 .mv [(.const (.int .i64 0))]]) (
 .seq (
 .ops [
 .p 8 .mv [(.const (.slice none 0 0))]]) (
 .seq (
 .ops [
 .p 9 .mv [(.const (.slice none 0 0))]]) (
 .seq (
 .seq (
 .ops [
 .p 10 .mv [(.const (.int .i64 0))]]) (
 .block 0 (
 .loop (
 .seq (
 .seq (
 .ops [
 .p 37 .mv [(.tmp 10)],
 .p 38 .mv [(.tmp 0)],
 .p 39 .len [(.tmp 38)],
 .p 40 (.bin .lss) [(.tmp 37), (.tmp 39)]]) (
 .cond (.tmp 40) (
 .skip) (
 .exit 0))) (
 .seq (
 .block 1 (
 .seq (
 .ops [
 .p 43 .mv [(.tmp 0)],
 .p 44 .mv [(.tmp 10)],
 .p 45 (.ixs 8) [(.tmp 43), (.tmp 44)],
 .ldn 46 8 (.tmp 45),
 .new 11 QR [(.int .i64 0), (.int .i64 0), (.int .i64 0), (.int .i64 0), (.int .i64 0), (.bool false), (.string .empty), (.slice none 0 0)],
 .st 8 true (.tmp 11) (.tmp 46)]) (
 .seq (
 .ops [
 .p 12 .mv [(.const (.slice none 0 0))]]) (
 .seq (
 .ops [
 .p 13 .mv [(.const (.int .i64 0))]]) (
 .seq (
 .seq (
 .ops [
 .p 47 (.fad 0) [(.tmp 11)],
 .ld 48 (.tmp 47),
 .p 49 (.bin .eql) [(.tmp 48), (.const (.int .i64 0))]]) (
 .cond (.tmp 49) (
 .seq (
 .ops [
 .p 50 (.fad 1) [(.tmp 11)],
 .ld 51 (.tmp 50),
 .p 52 (.bin .lss) [(.tmp 51), (.const (.int .i64 1))],
 .p 53 .mv [(.tmp 52)],
 .gd 53 false (some 54) (.p 54 (.fad 1) [(.tmp 11)]),
 .gd 53 false (some 55) (.ld 55 (.tmp 54)),
 .gd 53 false (some 56) (.p 56 (.bin .gtr) [(.tmp 55), (.const (.int .i64 2147483647))]),
 .p 57 .pick [(.tmp 53), (.const (.bool true)), (.tmp 56)],
 .p 58 .mv [(.tmp 57)],
 .gd 58 false (some 59) (.p 59 (.fad 1) [(.tmp 11)]),
 .gd 58 false (some 60) (.ld 60 (.tmp 59)),
 .gd 58 false (some 61) (.p 61 .mv [(.tmp 7)]),
 .gd 58 false (some 62) (.p 62 (.bin .leq) [(.tmp 60), (.tmp 61)]),
 .p 63 .pick [(.tmp 58), (.const (.bool true)), (.tmp 62)]]) (
 .cond (.tmp 63) (
 .ops [
 .p 13 .mv [(.const (.int .i64 1))]]) (
 .ops [
 .p 64 (.fad 1) [(.tmp 11)],
 .ld 65 (.tmp 64),
 .call (some 66) Jd [(.tmp 65), (.const (.slice none 0 0))],
 .p 12 .mv [(.tmp 66)]]))) (
 .skip))) (
 .seq (
 .seq (
 .ops [
 .p 67 (.fad 0) [(.tmp 11)],
 .ld 68 (.tmp 67),
 .p 69 (.bin .eql) [(.tmp 68), (.const (.int .i64 1))]]) (
 .cond (.tmp 69) (
 .seq (
 .ops [
 .p 70 (.fad 2) [(.tmp 11)],
 .ldn 71 5 (.tmp 70),
 .call (some 72) FO [(.tmp 71)],
 .p 73 .not [(.tmp 72)],
 .p 74 .mv [(.tmp 73)],
 .gd 74 false (some 75) (.p 75 (.fad 2) [(.tmp 11)]),
 .gd 74 false (some 76) (.p 76 (.fad 1) [(.tmp 75)]),
 .gd 74 false (some 77) (.ld 77 (.tmp 76)),
 .gd 74 false (some 78) (.p 78 .mv [(.tmp 7)]),
 .gd 74 false (some 79) (.p 79 (.bin .lss) [(.tmp 77), (.tmp 78)]),
 .p 80 .pick [(.tmp 74), (.const (.bool true)), (.tmp 79)]]) (
 .cond (.tmp 80) (
 .ops [
 .p 13 .mv [(.const (.int .i64 1))]]) (
 .ops [
 .p 81 (.fad 2) [(.tmp 11)],
 .ldn 82 5 (.tmp 81),
 .bsl 83 Ah 1 [(.int .i64 0), (.int .i64 0), (.int .i64 0), (.bool false), (.string .empty)] [(0, 5)] [(.tmp 82)],
 .call (some 84) Jd [(.const (.int .i64 0)), (.tmp 83)],
 .p 12 .mv [(.tmp 84)]]))) (
 .skip))) (
 .seq (
 .seq (
 .ops [
 .p 85 (.fad 0) [(.tmp 11)],
 .ld 86 (.tmp 85),
 .p 87 (.bin .eql) [(.tmp 86), (.const (.int .i64 3))]]) (
 .cond (.tmp 87) (
 .ops [
 .p 88 .mv [(.tmp 7)],
 .p 89 .mv [(.tmp 8)],
 .call (some 90) Jd [(.tmp 88), (.tmp 89)],
 .p 12 .mv [(.tmp 90)]]) (
 .skip))) (
 .seq (
 .seq (
 .ops [
 .p 91 .mv [(.tmp 12)],
 .p 92 .len [(.tmp 91)],
 .p 93 .mv [(.tmp 1)],
 .p 94 (.conv .i64) [(.tmp 93)],
 .p 95 .mv [(.tmp 9)],
 .p 96 .len [(.tmp 95)],
 .p 97 (.bin .sub) [(.tmp 94), (.tmp 96)],
 .p 98 (.bin .gtr) [(.tmp 92), (.tmp 97)]]) (
 .cond (.tmp 98) (
 .ops [
 .p 13 .mv [(.const (.int .i64 4))]]) (
 .skip))) (
 .seq (
 .ops [
 .p 14 .mv [(.const (.int .i64 0))]]) (
 .seq (
 .seq (
 .ops [
 .p 99 (.fad 0) [(.tmp 11)],
 .ld 100 (.tmp 99),
 .p 101 (.bin .eql) [(.tmp 100), (.const (.int .i64 0))]]) (
 .cond (.tmp 101) (
 .ops [
 .p 102 .mv [(.tmp 6)],
 .p 103 (.fad 1) [(.tmp 11)],
 .ld 104 (.tmp 103),
 .call (some 105) EO [(.tmp 102), (.tmp 104)],
 .p 14 .mv [(.tmp 105)]]) (
 .seq (
 .ops [
 .p 106 (.fad 0) [(.tmp 11)],
 .ld 107 (.tmp 106),
 .p 108 (.bin .eql) [(.tmp 107), (.const (.int .i64 1))]]) (
 .cond (.tmp 108) (
 .ops [
 .p 109 .mv [(.tmp 6)],
 .p 110 (.fad 2) [(.tmp 11)],
 .ldn 111 5 (.tmp 110),
 .call (some 112) Io [(.tmp 109), (.tmp 111)],
 .p 14 .mv [(.tmp 112)]]) (
 .seq (
 .ops [
 .p 113 (.fad 0) [(.tmp 11)],
 .ld 114 (.tmp 113),
 .p 115 (.bin .eql) [(.tmp 114), (.const (.int .i64 3))]]) (
 .cond (.tmp 115) (
 .ops [
 .p 116 .mv [(.tmp 6)],
 .call (some 117) FU [(.tmp 116)],
 .p 14 .mv [(.tmp 117)]]) (
 .seq (
 .seq (
 .ops [
 .p 118 (.fad 0) [(.tmp 11)],
 .ld 119 (.tmp 118),
 .p 120 (.bin .eql) [(.tmp 119), (.const (.int .i64 2))]]) (
 .cond (.tmp 120) (
 .ops [
 .p 121 .mv [(.tmp 5)],
 .p 122 (.fad 7) [(.tmp 11)],
 .ld 123 (.tmp 122),
 .call (some 124) Iu [(.tmp 121), (.tmp 123)]]) (
 .skip))) (
 .seq (
 .ops [
 .p 125 .mv [(.tmp 5)],
 .call (some 126) IM [(.tmp 125)],
 .p 6 .mv [(.tmp 126)]]) (
 .seq (
 .ops [
 .p 127 .mv [(.tmp 6)],
 .p 128 (.isnil .pt false) [(.tmp 127)]]) (
 .cond (.tmp 128) (
 .seq (
 .ops [
 .p 4 .mv [(.const (.bool false))]]) (
 .ret)) (
 .skip))))))))))) (
 .seq (
 .seq (
 .ops [
 .p 129 .mv [(.tmp 14)],
 .p 130 .mv [(.tmp 13)],
 .p 131 (.bin .neq) [(.tmp 129), (.tmp 130)]]) (
 .cond (.tmp 131) (
 .seq (
 .ops [
 .p 4 .mv [(.const (.bool false))]]) (
 .ret)) (
 .skip))) (
 .seq (
 .seq (
 .ops [
 .p 132 .mv [(.tmp 13)],
 .p 133 (.bin .eql) [(.tmp 132), (.const (.int .i64 0))]]) (
 .cond (.tmp 133) (
 .seq (
 .ops [
 .p 134 (.fad 0) [(.tmp 11)],
 .ld 135 (.tmp 134),
 .p 136 (.bin .eql) [(.tmp 135), (.const (.int .i64 3))]]) (
 .cond (.tmp 136) (
 .ops [
 .p 137 .mv [(.tmp 12)],
 .p 9 .mv [(.tmp 137)]]) (
 .ops [
 .bsl 138 tU8 0 [] [] [],
 .p 139 .mv [(.tmp 9)],
 .app 140 #[Ap, Ap] Ap (.tmp 138) (.tmp 139),
 .p 141 .mv [(.tmp 12)],
 .app 142 #[Ap, Ap] Ap (.tmp 140) (.tmp 141),
 .p 9 .mv [(.tmp 142)]]))) (
 .skip))) (
 .seq (
 .ops [
 .p 144 .mv [(.tmp 9)],
 .call (some 145) LU [(.tmp 144)],
 .p 143 .mv [(.tmp 145)],
 .p 146 (.ext 0) [(.tmp 143)],
 .p 147 (.ext 1) [(.tmp 143)],
 .p 148 (.ext 2) [(.tmp 143)],
 .p 15 .mv [(.tmp 146)],
 .p 16 .mv [(.tmp 147)],
 .p 17 .mv [(.tmp 148)]]) (
 .seq (
 .ops [
 .p 149 .mv [(.tmp 15)],
 .p 7 .mv [(.tmp 149)]]) (
 .seq (
 .ops [
 .p 150 .mv [(.tmp 16)],
 .p 8 .mv [(.tmp 150)]]) (
 .seq (
 .ops [
 .p 152 .mv [(.tmp 5)],
 .call (some 153) DR [(.tmp 152), (.const (.string ⟨#[108, 111, 103]⟩))],
 .p 151 .mv [(.tmp 153)],
 .p 154 (.ext 0) [(.tmp 151)],
 .p 155 (.ext 1) [(.tmp 151)],
 .p 18 .mv [(.tmp 154)],
 .p 19 .mv [(.tmp 155)]]) (
 .seq (
 .ops [
 .p 156 .mv [(.tmp 6)],
 .call (some 157) Fh [(.tmp 156)],
 .p 158 .mv [(.tmp 7)],
 .p 159 (.bin .neq) [(.tmp 157), (.tmp 158)],
 .p 160 .mv [(.tmp 159)],
 .gd 160 false (some 161) (.p 161 .mv [(.tmp 6)]),
 .gd 160 false (some 162) (.call (some 162) FH [(.tmp 161)]),
 .gd 160 false (some 163) (.p 163 .mv [(.tmp 8)]),
 .gd 160 false (some 164) (.call (some 164) LV [(.tmp 162), (.tmp 163)]),
 .gd 160 false (some 165) (.p 165 .not [(.tmp 164)]),
 .p 166 .pick [(.tmp 160), (.const (.bool true)), (.tmp 165)],
 .p 167 .mv [(.tmp 166)],
 .gd 167 false (some 168) (.p 168 .mv [(.tmp 6)]),
 .gd 167 false (some 169) (.call (some 169) Ip [(.tmp 168)]),
 .gd 167 false (some 170) (.p 170 .mv [(.tmp 9)]),
 .gd 167 false (some 171) (.p 171 .len [(.tmp 170)]),
 .gd 167 false (some 172) (.p 172 (.bin .neq) [(.tmp 169), (.tmp 171)]),
 .p 173 .pick [(.tmp 167), (.const (.bool true)), (.tmp 172)],
 .p 174 .mv [(.tmp 173)],
 .gd 174 false (some 175) (.p 175 .mv [(.tmp 18)]),
 .gd 174 false (some 176) (.p 176 .mv [(.tmp 9)]),
 .gd 174 false (some 177) (.call (some 177) LX [(.tmp 175), (.tmp 176)]),
 .gd 174 false (some 178) (.p 178 .not [(.tmp 177)]),
 .p 179 .pick [(.tmp 174), (.const (.bool true)), (.tmp 178)]]) (
 .cond (.tmp 179) (
 .seq (
 .ops [
 .p 4 .mv [(.const (.bool false))]]) (
 .ret)) (
 .skip))))))))))))))))))) (
 .ops [
 .p 41 .mv [(.tmp 10)],
 .p 42 (.bin .add) [(.tmp 41), (.const (.int .i64 1))],
 .p 10 .mv [(.tmp 42)]])))))) (
 .seq (
 .ops [
 .p 4 .mv [(.const (.bool true))]]) (
 .ret)))))))))))⟩

theorem RI : trF Tryz.prog MJ = some m_law18_LogActs := by kernel_rfl
-- 15 shardlog/shardlogref18.Put; Ae [(0, promised), (1, l), (2, promised), (3, l), (5, out), (6, i)]
noncomputable def m_ref18_Put : MF := ⟨27, [.t 4],
 .seq (
 .ops [
 .p 4 .mv [(.const (.slice none 0 0))]]) (
 .seq (
 .ops [
 .p 5 .mv [(.const (.slice none 0 0))]]) (
 .seq (
 .seq (
 .ops [
 .p 7 .mv [(.tmp 0)],
 .p 8 (.bin .gtr) [(.tmp 7), (.const (.int .i64 0))]]) (
 .cond (.tmp 8) (
 .ops [
 .p 9 .mv [(.tmp 0)],
 .call (some 10) Jk [(.tmp 9)],
 .call (some 11) Je [(.tmp 10)],
 .p 5 .mv [(.tmp 11)]]) (
 .skip))) (
 .seq (
 .seq (
 .ops [
 .p 6 .mv [(.const (.int .i64 0))]]) (
 .block 0 (
 .loop (
 .seq (
 .seq (
 .ops [
 .p 12 .mv [(.tmp 6)],
 .p 13 .mv [(.tmp 1)],
 .p 14 .len [(.tmp 13)],
 .p 15 (.bin .lss) [(.tmp 12), (.tmp 14)]]) (
 .cond (.tmp 15) (
 .skip) (
 .exit 0))) (
 .seq (
 .block 1 (
 .ops [
 .p 18 .mv [(.tmp 5)],
 .p 19 .mv [(.tmp 1)],
 .p 20 .mv [(.tmp 6)],
 .p 21 (.ixs 5) [(.tmp 19), (.tmp 20)],
 .ldn 22 5 (.tmp 21),
 .call (some 23) Nr [(.tmp 22)],
 .call (some 24) Je [(.tmp 23)],
 .app 25 #[Ap, Ap] Ap (.tmp 18) (.tmp 24),
 .p 5 .mv [(.tmp 25)]])) (
 .ops [
 .p 16 .mv [(.tmp 6)],
 .p 17 (.bin .add) [(.tmp 16), (.const (.int .i64 1))],
 .p 6 .mv [(.tmp 17)]])))))) (
 .seq (
 .ops [
 .p 26 .mv [(.tmp 5)],
 .p 4 .mv [(.tmp 26)]]) (
 .ret)))))⟩

theorem Yx : trF Tryz.prog Jd = some m_ref18_Put := by kernel_rfl
-- 55 shardlog/shardlogref06.Put; Ae [(0, rec), (1, rec), (3, n), (4, out)]
noncomputable def m_ref06_Put : MF := ⟨25, [.t 2],
 .seq (
 .ops [
 .p 2 .mv [(.const (.slice none 0 0))]]) (
 .seq (
 .ops [
 .p 5 .mv [(.tmp 0)],
 .p 6 .len [(.tmp 5)],
 .call (some 7) Eh [(.tmp 6)],
 .p 3 .mv [(.tmp 7)]]) (
 .seq (
 .ops [
 .bsl 8 tU8 0 [] [] [],
 .p 9 .mv [(.tmp 3)],
 .app 10 #[Ap, Ap] Ap (.tmp 8) (.tmp 9),
 .p 11 .mv [(.tmp 3)],
 .call (some 12) H8 [(.tmp 11)],
 .p 13 (.conv .i64) [(.tmp 12)],
 .call (some 14) Eh [(.tmp 13)],
 .app 15 #[Ap, Ap] Ap (.tmp 10) (.tmp 14),
 .p 4 .mv [(.tmp 15)]]) (
 .seq (
 .ops [
 .p 16 .mv [(.tmp 4)],
 .p 17 .mv [(.tmp 0)],
 .call (some 18) H8 [(.tmp 17)],
 .p 19 (.conv .i64) [(.tmp 18)],
 .call (some 20) Eh [(.tmp 19)],
 .app 21 #[Ap, Ap] Ap (.tmp 16) (.tmp 20),
 .p 4 .mv [(.tmp 21)]]) (
 .seq (
 .ops [
 .p 22 .mv [(.tmp 4)],
 .p 23 .mv [(.tmp 0)],
 .app 24 #[Ap, Ap] Ap (.tmp 22) (.tmp 23),
 .p 2 .mv [(.tmp 24)]]) (
 .ret)))))⟩

theorem Rw : trF Tryz.prog Je = some m_ref06_Put := by kernel_rfl
-- 56 shardlog/shardlogref17.Promise; Ae [(0, b), (1, b)]
noncomputable def m_ref17_Promise : MF := ⟨7, [.t 2],
 .seq (
 .ops [
 .p 2 .mv [(.const (.slice none 0 0))]]) (
 .seq (
 .ops [
 .call (some 3) Eh [(.const (.int .i64 1))],
 .p 4 .mv [(.tmp 0)],
 .call (some 5) Eh [(.tmp 4)],
 .app 6 #[Ap, Ap] Ap (.tmp 3) (.tmp 5),
 .p 2 .mv [(.tmp 6)]]) (
 .ret))⟩

theorem RF : trF Tryz.prog Jk = some m_ref17_Promise := by kernel_rfl
-- 57 shardlog/shardlogref17.Put; Ae [(0, v), (1, v), (3, full), (4, n), (5, out), (6, i)]
noncomputable def m_ref17_Put : MF := ⟨33, [.t 2],
 .seq (
 .ops [
 .box 1 Ah (.tmp 0),
 .p 2 .mv [(.const (.slice none 0 0))]]) (
 .seq (
 .ops [
 .p 3 .mv [(.const (.int .i64 0))]]) (
 .seq (
 .seq (
 .ops [
 .p 7 (.fad 3) [(.tmp 1)],
 .ld 8 (.tmp 7)]) (
 .cond (.tmp 8) (
 .ops [
 .p 3 .mv [(.const (.int .i64 1))]]) (
 .skip))) (
 .seq (
 .ops [
 .p 9 (.fad 0) [(.tmp 1)],
 .ld 10 (.tmp 9),
 .p 11 (.fad 1) [(.tmp 1)],
 .ld 12 (.tmp 11),
 .p 13 (.fad 2) [(.tmp 1)],
 .ld 14 (.tmp 13),
 .p 15 .mv [(.tmp 3)],
 .bsl 16 tInt 5 [(.int .i64 0), (.int .i64 0), (.int .i64 0), (.int .i64 0), (.int .i64 0)] [(0, 1), (1, 1), (2, 1), (3, 1), (4, 1)] [(.const (.int .i64 2)), (.tmp 10), (.tmp 12), (.tmp 14), (.tmp 15)],
 .p 4 .mv [(.tmp 16)]]) (
 .seq (
 .ops [
 .p 5 .mv [(.const (.slice none 0 0))]]) (
 .seq (
 .seq (
 .ops [
 .p 6 .mv [(.const (.int .i64 0))]]) (
 .block 0 (
 .loop (
 .seq (
 .seq (
 .ops [
 .p 17 .mv [(.tmp 6)],
 .p 18 (.bin .lss) [(.tmp 17), (.const (.int .i64 5))]]) (
 .cond (.tmp 18) (
 .skip) (
 .exit 0))) (
 .seq (
 .block 1 (
 .ops [
 .p 21 .mv [(.tmp 5)],
 .p 22 .mv [(.tmp 4)],
 .p 23 .mv [(.tmp 6)],
 .p 24 (.ixs 1) [(.tmp 22), (.tmp 23)],
 .ld 25 (.tmp 24),
 .call (some 26) Eh [(.tmp 25)],
 .app 27 #[Ap, Ap] Ap (.tmp 21) (.tmp 26),
 .p 5 .mv [(.tmp 27)]])) (
 .ops [
 .p 19 .mv [(.tmp 6)],
 .p 20 (.bin .add) [(.tmp 19), (.const (.int .i64 1))],
 .p 6 .mv [(.tmp 20)]])))))) (
 .seq (
 .ops [
 .p 28 .mv [(.tmp 5)],
 .p 29 (.fad 4) [(.tmp 1)],
 .ld 30 (.tmp 29),
 .call (some 31) Js [(.tmp 30)],
 .app 32 #[Ap, Ap] Ap (.tmp 28) (.tmp 31),
 .p 2 .mv [(.tmp 32)]]) (
 .ret)))))))⟩

theorem Yy : trF Tryz.prog Nr = some m_ref17_Put := by kernel_rfl
-- 37 shardlog/shardlogref25.In; Ae [(0, l), (1, x), (2, l), (3, x), (5, i)]
-- 38 shardlog/shardlogref25.Good; Ae [(0, i), (1, b), (2, i), (3, b), (5, recs), (6, used), (7, s), (8, n)]
-- 45 shardlog/shardlogref25.Files; Ae [(0, s), (1, v), (2, s), (3, v), (5, l), (6, out), (7, i)]
-- 51 shardlog/shardloglaw25.count; Ae [(0, l), (1, l), (3, n), (4, i)]
-- 95 shardlog/shardlogref25.File; Ae [(0, i), (1, shard), (2, i), (3, shard)]
end Go.Proofs.YtgpkbldlkadnjaaGreat
end
section
set_option maxHeartbeats 3000000
attribute [local irreducible] Go.Sl.Chk Go.Sl.Br Go.Sl.Or2 Go.Sl.Ld Go.Sl.Ldn Go.Sl.LdB Go.Sl.Stn Go.Sl.New Go.Sl.Run Go.Sl.BZ Go.Sl.BQ Go.Sl.Call Go.Sl.Bc Go.Sl.Cb Go.Sl.Alt Go.Sl.Om Go.Sl.xpk Go.Sl.Dk Go.Sl.Dl Go.Sl.DLd Go.Sl.CZ Go.Sl.DBs Go.Sl.AO Go.Sl.Cf Go.Sl.CB Go.Sl.BC Go.Sl.DGC Go.Sl.BG Go.Sl.Dw Go.Sl.Ce Go.Sl.Ent Go.Sl.AZ Go.Sl.dv Go.Sl.ev Go.Sl.AU
namespace Go.Proofs.YtgpkbldlkadnjaaGreat
open Go Go.Sl Go.RowKit
theorem MW (n : Nat) (hn : n < 4294967296) : DJ Tryz.prog Eh [iD n] (bytesD (Ar n)) :=
 (Zm n hn).fn (BV _).1 (by rw [(BV _).2])
theorem Ad4 (v : Bs) (hv : v.length < 4294967296) : DJ Tryz.prog Js [DZ v] (bytesD (DY v)) :=
 (Ad3 v hv).fn (BV _).1 (by rw [(BV _).2])
set_option maxRecDepth 100000 in
theorem Acx (rec : Bs) (hl : rec.length ≤ 65535) : DJ Tryz.prog Je [bytesD rec] (bytesD (frameB rec)) := by
 have s1 := Ju (Ar rec.length)
 have s2 := Ju rec
 intro nx
 refine AA Rw (by simp only [m_ref06_Put, List.length]; decide) ?_
 simp only [m_ref06_Put]; refine WK ?_; try with_reducible exact trivial
 have hN : (Ar rec.length).length = 4 := rfl
 have hC : (Ar (Dy (Ar rec.length))).length = 4 := rfl
 have hS : (Ar (Dy rec)).length = 4 := rfl
 refine Ba (MW rec.length (by omega)) fun n1 g1 => ?_
 refine WK ?_; try with_reducible exact trivial
 refine Jm (i := n1) (m := (Ar rec.length).length) (l' := (Ar rec.length).map bD) elB (l := []) (n := 0) (Aa _ _ _) (FW.sl _ _ _) (by simp) CP (by omega) (by omega) (by simp only [List.mem_cons, List.not_mem_nil, or_false, not_false_eq_true]; try omega) ?_
 refine WK ?_; try with_reducible exact trivial
 refine Ba (Qs (Ar rec.length) (by omega)) fun n2 g2 => ?_
 refine WK ?_; try with_reducible exact trivial
 refine Ba (MW (Dy (Ar rec.length)) s1) fun n3 g3 => ?_
 refine WK ?_; try with_reducible exact trivial
 refine Jm (i := n1 + 1) (m := 4) (l' := (Ar (Dy (Ar rec.length))).map bD) elB (l := (Ar rec.length).map bD) (n := 4) (Aa _ _ _) (FW.sl _ _ _) (by simp [hC]) CP (by omega) (by omega) (by simp only [List.mem_cons, List.not_mem_nil, or_false, not_false_eq_true]; try omega) ?_
 refine WK ?_; try with_reducible exact trivial
 refine Ba (Qs rec (by omega)) fun n4 g4 => ?_
 refine WK ?_; try with_reducible exact trivial
 refine Ba (MW (Dy rec) s2) fun n5 g5 => ?_
 refine WK ?_; try with_reducible exact trivial
 refine Jm (i := n3) (m := 4) (l' := (Ar (Dy rec)).map bD) elB (l := (Ar rec.length).map bD ++ (Ar (Dy (Ar rec.length))).map bD) (n := 8) (Aa _ _ _) (FW.sl _ _ _) (by simp [hS]) CP (by omega) (by omega) (by simp only [List.mem_cons, List.not_mem_nil, or_false, not_false_eq_true]; try omega) ?_
 refine WK ?_; try with_reducible exact trivial
 refine Jm (i := n5) (m := rec.length) (l' := rec.map bD) elB (l := (Ar rec.length).map bD ++ (Ar (Dy (Ar rec.length))).map bD ++ (Ar (Dy rec)).map bD) (n := 12) (Aa _ _ _) (FW.sl _ _ _) (by simp) CP (by omega) (by omega) (by simp only [List.mem_cons, List.not_mem_nil, or_false, not_false_eq_true]; try omega) ?_
 refine WK ?_; try with_reducible exact trivial
 refine ND (n5 + 1) (Aa _ _ _) (fun x hx => ?_) ?_
 ·simp only [List.mem_append, List.mem_map] at hx
  rcases hx with ((⟨y, _, rfl⟩ | ⟨y, _, rfl⟩) | ⟨y, _, rfl⟩) | ⟨y, _, rfl⟩ <;> trivial
 ·rw [A8]
  simp only [TP, Dx, Aa]
  refine Bl ⟨?_, rfl⟩
  rw [bytesD, AQ, frameB, List.map_append, List.map_append, List.map_append, List.append_assoc, List.append_assoc, Nat.add_comm]
set_option maxRecDepth 100000 in
theorem Zl (b : Nat) (hb : b ≤ 2147483647) : DJ Tryz.prog Jk [iD b] (bytesD (Aw b)) := by
 intro nx
 refine AA RF (by simp only [m_ref17_Promise, List.length]; decide) ?_
 simp only [m_ref17_Promise]; refine WK ?_; try with_reducible exact trivial
 refine Rz (Zm 1 (by omega)) fun q n1 g1 g2 => ?_
 refine WK ?_; try with_reducible exact trivial
 refine Ba (MW b (by omega)) fun n2 g3 => ?_
 refine WK ?_; try with_reducible exact trivial
 refine Sv q (Ar 1) (Ar b) (Aa _ _ _) (by simp only [AL]; omega) (by simp only [List.mem_cons, List.not_mem_nil, or_false, not_false_eq_true]; try omega) ?_
 refine WK ?_; try with_reducible exact trivial
 exact Bl ⟨rfl, rfl⟩
set_option maxRecDepth 100000 in
theorem Acw (rec : Bs) (hl : rec.length ≤ 65535) : MB Tryz.prog Je [bytesD rec] (fun i => .h i) (AC (frameB rec)) := by
 have s1 := Ju (Ar rec.length)
 have s2 := Ju rec
 intro nx
 refine AA Rw (by simp only [m_ref06_Put, List.length]; decide) ?_
 simp only [m_ref06_Put]; refine WK ?_; try with_reducible exact trivial
 have hN : (Ar rec.length).length = 4 := rfl
 have hC : (Ar (Dy (Ar rec.length))).length = 4 := rfl
 have hS : (Ar (Dy rec)).length = 4 := rfl
 refine Ba (MW rec.length (by omega)) fun n1 g1 => ?_
 refine WK ?_; try with_reducible exact trivial
 refine Jm (i := n1) (m := (Ar rec.length).length) (l' := (Ar rec.length).map bD) elB (l := []) (n := 0) (Aa _ _ _) (FW.sl _ _ _) (by simp) CP (by omega) (by omega) (by simp only [List.mem_cons, List.not_mem_nil, or_false, not_false_eq_true]; try omega) ?_
 refine WK ?_; try with_reducible exact trivial
 refine Ba (Qs (Ar rec.length) (by omega)) fun n2 g2 => ?_
 refine WK ?_; try with_reducible exact trivial
 refine Ba (MW (Dy (Ar rec.length)) s1) fun n3 g3 => ?_
 refine WK ?_; try with_reducible exact trivial
 refine Jm (i := n1 + 1) (m := 4) (l' := (Ar (Dy (Ar rec.length))).map bD) elB (l := (Ar rec.length).map bD) (n := 4) (Aa _ _ _) (FW.sl _ _ _) (by simp [hC]) CP (by omega) (by omega) (by simp only [List.mem_cons, List.not_mem_nil, or_false, not_false_eq_true]; try omega) ?_
 refine WK ?_; try with_reducible exact trivial
 refine Ba (Qs rec (by omega)) fun n4 g4 => ?_
 refine WK ?_; try with_reducible exact trivial
 refine Ba (MW (Dy rec) s2) fun n5 g5 => ?_
 refine WK ?_; try with_reducible exact trivial
 refine Jm (i := n3) (m := 4) (l' := (Ar (Dy rec)).map bD) elB (l := (Ar rec.length).map bD ++ (Ar (Dy (Ar rec.length))).map bD) (n := 8) (Aa _ _ _) (FW.sl _ _ _) (by simp [hS]) CP (by omega) (by omega) (by simp only [List.mem_cons, List.not_mem_nil, or_false, not_false_eq_true]; try omega) ?_
 refine WK ?_; try with_reducible exact trivial
 refine Jm (i := n5) (m := rec.length) (l' := rec.map bD) elB (l := (Ar rec.length).map bD ++ (Ar (Dy (Ar rec.length))).map bD ++ (Ar (Dy rec)).map bD) (n := 12) (Aa _ _ _) (FW.sl _ _ _) (by simp) CP (by omega) (by omega) (by simp only [List.mem_cons, List.not_mem_nil, or_false, not_false_eq_true]; try omega) ?_
 refine WK ?_; try with_reducible exact trivial
 refine BI ⟨n5 + 1, by omega, by omega, rfl, ?_⟩
 rw [AC, AQ, frameB, List.map_append, List.map_append, List.map_append, List.append_assoc, List.append_assoc, Nat.add_comm rec.length 12]
set_option maxRecDepth 100000 in
theorem Acv (v : VoteS) (h : Be v) : DJ Tryz.prog Nr [.agg (Am v)] (bytesD (Bv v)) := by
 intro nx
 obtain ⟨h1, h2, h3, h4, h5, h6⟩ := h
 obtain ⟨slot, ballot, origin, full, bytes⟩ := v
 dsimp only at h1 h2 h3 h4 h5 h6
 obtain ⟨s, rfl⟩ := Int.eq_ofNat_of_zero_le h1
 obtain ⟨b, rfl⟩ := Int.eq_ofNat_of_zero_le (show 0 ≤ ballot by omega)
 obtain ⟨o, rfl⟩ := Int.eq_ofNat_of_zero_le (show 0 ≤ origin by omega)
 refine AA Yy (by simp only [m_ref17_Put, List.length]; decide) ?_
 simp only [Am]
 obtain ⟨F, hF⟩ : ∃ F : Nat, (if full then 1 else 0) = F := ⟨_, rfl⟩
 have hN : ∀ k, k < 5 → gt [2, s, b, o, F] k < 4294967296 := fun k hk => by
  have hF1 : F ≤ 1 := by rw [← hF]; split <;> omega
  match k, hk with
  | 0, _ => show 2 < _; omega
  | 1, _ => show s < _; omega
  | 2, _ => show b < _; omega
  | 3, _ => show o < _; omega
  | 4, _ => show F < _; omega
 have hget : ∀ k, k < 5 → ([2, s, b, o, F].map fun z : Nat => iD z)[k]? = some (iD (gt [2, s, b, o, F] k : Nat)) := fun k hk => by
  rw [List.getElem?_map, List.getElem?_eq_getElem (by simpa using hk), EG (by simpa using hk)]; rfl
 have hlen : ∀ k, k ≤ 5 → (([2, s, b, o, F].take k).flatMap Ar).length = k * 4 := fun k hk => by
  rcases (by omega : k = 0 ∨ k = 1 ∨ k = 2 ∨ k = 3 ∨ k = 4 ∨ k = 5) with rfl | rfl | rfl | rfl | rfl | rfl <;> simp [AL]
 have htk : ∀ k, k < 5 → ([2, s, b, o, F].take (k + 1)).flatMap Ar = ([2, s, b, o, F].take k).flatMap Ar ++ Ar (gt [2, s, b, o, F] k) := fun k hk => by
  rw [G5 (by simpa using hk), List.flatMap_append]; simp
 have hend : Bv ⟨(s : Nat), (b : Nat), (o : Nat), full, bytes⟩ = ([2, s, b, o, F].take 5).flatMap Ar ++ DY bytes := by
  rw [← hF]
  simp [Bv]
 rw [hend]
 clear hend
 have hl5 : [2, s, b, o, F].length = 5 := rfl
 generalize hN0 : [2, s, b, o, F] = N at *
 simp only [m_ref17_Put]; refine WK ?_; try with_reducible exact trivial
 cases full
 all_goals
  refine WK ?_; try with_reducible exact trivial
  refine E5 [1, 4, 5, 6] (fun t : Nat × Nat × Nat => ([(1, .hp nx 0), (4, .h (nx + 1)), (5, .h t.2.1), (6, iD (t.1 : Nat))], [(t.2.1, AC ((N.take t.1).flatMap Ar)), (nx + 1, .row tInt 1 5 (N.map fun z : Nat => iD z)), (nx, .box Ah [iD (s : Nat), iD (b : Nat), iD (o : Nat), AX (F == 1), DZ bytes])], t.2.2)) (fun t => t.1 ≤ 5 ∧ nx + 1 < t.2.1 ∧ t.2.1 < t.2.2) (fun t => 5 - t.1) (0, nx + 2, nx + 3) ⟨by omega, by dsimp only; omega, by dsimp only; omega⟩ ((Ent.nil 5 tU8 1 (by with_unfolding_all rfl) rfl).trans (Ent.of (by subst hN0; subst hF; with_unfolding_all rfl) (by subst hN0; subst hF; rfl))) ?_
  rintro ⟨k, q, n⟩ ⟨q1, q2, q3⟩
  dsimp only at q1 q2 q3 ⊢
  simp only [AC]
  refine WK ?_; try with_reducible exact trivial
  refine brd (fun hlt => ?_) (fun hge => ?_)
  ·have hk : k < 5 := by omega
   have e1 := hget k hk
   have e2 := hN k hk
   have e3 := htk k hk
   have e4 := hlen k (by omega)
   generalize gt N k = z at *
   refine WKX @e1 ?_; try with_reducible exact trivial
   refine Ba (MW z e2) fun n1 g1 => ?_
   refine WK ?_; try with_reducible exact trivial
   refine Jm (i := q) (m := (Ar z).length) (l' := (Ar z).map bD) elB (l := ((N.take k).flatMap Ar).map bD) (n := ((N.take k).flatMap Ar).length) (by (repeat rw [Ac (by omega)]); exact Aa _ _ _) (FW.sl _ _ _) (by simp) CP (by rw [e4, AL]; omega) (by rw [e4, AL]; omega) (by simp only [List.mem_cons, List.not_mem_nil, or_false, not_false_eq_true]; try omega) ?_
   rw [← List.length_append, ← List.map_append, ← e3]
   refine WK ?_; try with_reducible exact trivial
   exact ⟨(k + 1, n1, n1 + 1), ⟨by dsimp only; omega, by dsimp only; omega, by dsimp only; omega⟩, by dsimp only; omega, (Ent.only [n1, nx + 1, nx] _ _ _).trans (by simp -dsimp (disch := omega) only [Bf, Aa, Ac, Ai, Aj]; exact (Ent.of (by with_unfolding_all rfl) rfl))⟩
  ·obtain rfl : k = 5 := by omega
   refine WK ?_; try with_reducible exact trivial
   refine Ba (Ad4 bytes (by omega)) fun n1 g1 => ?_
   refine WK ?_; try with_reducible exact trivial
   refine Sv q ((N.take 5).flatMap Ar) (DY bytes) (by (repeat rw [Ac (by omega)]); exact Aa _ _ _) (by rw [hlen 5 (by omega), EM]; omega) (by simp only [List.mem_cons, List.not_mem_nil, or_false, not_false_eq_true]; try omega) ?_
   refine WK ?_; try with_reducible exact trivial
   exact Bl ⟨rfl, rfl⟩
theorem Tm (p : Nat) (V : List VoteS) : Dz p V 0 = if 1 ≤ p then [Aw p] else [] := by unfold Dz; simp
theorem Q4 {p : Nat} {V : List VoteS} (hr : ∀ v ∈ V, Be v) (k : Nat) : ∀ r ∈ Dz p V k, r.length ≤ 1000 := fun r h => by
 unfold Dz at h
 rcases List.mem_append.1 h with h | h
 ·split at h
  ·simp only [List.mem_singleton] at h; rw [h, Bd]; omega
  ·simp at h
 ·obtain ⟨u, hu, rfl⟩ := List.mem_map.1 h
  exact EI (hr u (List.mem_of_mem_take hu))
set_option maxRecDepth 100000 in
theorem KQ (p : Nat) (hp : p ≤ 2147483647) (V : List VoteS) (hr : ∀ v ∈ V, Be v) (hl : V.length ≤ 500) : DJ Tryz.prog Jd [iD p, CY V] (bytesD ((Dz p V V.length).flatMap frameB)) := by
 intro nx
 have hbd : ∀ k, ((Dz p V k).flatMap frameB).length ≤ (k + 1) * 1012 := fun k => Nat.le_trans (JH _ 1000 (Q4 hr k)) (Nat.mul_le_mul_right _ (NZ p V k))
 have h0 := Tm p V
 refine AA Yx (by simp only [m_ref18_Put, List.length]; decide) ?_
 simp only [m_ref18_Put]; refine WK ?_; try with_reducible exact trivial
 refine brd (fun hp1 => ?pos) (fun hp0 => ?neg)
 case' pos =>
  rw [if_pos (by omega)] at h0
  have hz : (Dz p V 0).flatMap frameB = frameB (Aw p) := by rw [h0]; simp
  refine WK ?_; try with_reducible exact trivial
  refine Ba (Zl p hp) fun n1 g1 => ?_
  refine WK ?_; try with_reducible exact trivial
  refine Rz (Acw (Aw p) (by rw [Bd]; omega)) fun q0 n2 g2 g3 => ?_
  refine WK ?_; try with_reducible exact trivial
  refine E5 [1, 5, 6] (fun t : Nat × Nat × Nat => ([(1, CY V), (5, .h t.2.1), (6, iD (t.1 : Nat))], [(t.2.1, AC ((Dz p V t.1).flatMap frameB))], t.2.2)) (fun t => t.1 ≤ V.length ∧ t.2.1 < t.2.2) (fun t => V.length - t.1) (0, q0, n2) ⟨by omega, by dsimp only; omega⟩ (Ent.of (by with_unfolding_all rfl) (by dsimp only; rw [hz])) ?_
 case' neg =>
  rw [if_neg (by omega)] at h0
  have hz : (Dz p V 0).flatMap frameB = [] := by rw [h0]; rfl
  refine WK ?_; try with_reducible exact trivial
  refine E5 [1, 5, 6] (fun t : Nat × Nat × Nat => ([(1, CY V), (5, .h t.2.1), (6, iD (t.1 : Nat))], [(t.2.1, AC ((Dz p V t.1).flatMap frameB))], t.2.2)) (fun t => t.1 ≤ V.length ∧ t.2.1 < t.2.2) (fun t => V.length - t.1) (0, nx, nx + 1) ⟨by omega, by dsimp only; omega⟩ ((Ent.nil 5 tU8 1 (by with_unfolding_all rfl) rfl).trans (Ent.of (by with_unfolding_all rfl) (by dsimp only; rw [hz]; rfl))) ?_
 all_goals
  rintro ⟨k, q, n⟩ ⟨q1, q2⟩
  dsimp only at q1 q2 ⊢
  simp only [AC]
  refine WK ?_; try with_reducible exact trivial
  refine brd (fun hlt => ?_) (fun hge => ?_)
  ·have hk : k < V.length := by omega
   have hta : ((Bj V).drop (k * 5)).take 5 = Am (gt V k) := IL DK V hk
   have h5 : 5 ≤ ((Bj V).drop (k * 5)).length := by rw [List.length_drop, Ky]; omega
   have hv := hr (gt V k) (by rw [EG hk]; exact List.getElem_mem _)
   have hvl := EI hv
   have hb := hbd k
   have hst : (Dz p V (k + 1)).flatMap frameB = (Dz p V k).flatMap frameB ++ frameB (Bv (gt V k)) := by rw [OA hk, List.flatMap_append]; simp
   have hfl := AQ (Bv (gt V k))
   refine WKX @hta ?_; try with_reducible exact trivial
   refine Ba (Acv (gt V k) hv) fun n1 g1 => ?_
   refine WK ?_; try with_reducible exact trivial
   refine Ba (Acx (Bv (gt V k)) (by omega)) fun n2 g2 => ?_
   refine WK ?_; try with_reducible exact trivial
   refine Jm (i := q) (m := (frameB (Bv (gt V k))).length) (l' := (frameB (Bv (gt V k))).map bD) elB (l := ((Dz p V k).flatMap frameB).map bD) (n := ((Dz p V k).flatMap frameB).length) (by (repeat rw [Ac (by omega)]); exact Aa _ _ _) (FW.sl _ _ _) (by simp) CP (by omega) (by omega) (by simp only [List.mem_cons, List.not_mem_nil, or_false, not_false_eq_true]; try omega) ?_
   rw [← List.length_append, ← List.map_append, ← hst]
   refine WK ?_; try with_reducible exact trivial
   exact ⟨(k + 1, n2, n2 + 1), ⟨by dsimp only; omega, by dsimp only; omega⟩, by dsimp only; omega, (Ent.only [n2] _ _ _).trans (by simp -dsimp (disch := omega) only [Bf, Aa, Ac, Ai, Aj]; exact (Ent.of (by with_unfolding_all rfl) rfl))⟩
  ·obtain rfl : k = V.length := by omega
   refine WK ?_; try with_reducible exact trivial
   refine ND q (Aa _ _ _) JC ?_
   rw [A8]
   simp only [TP, List.map_cons, List.map_nil, Dx, Aa]
   exact Bl ⟨rfl, rfl⟩
theorem Yo {nx : Nat} {held : List Nat} {r : Ad} {K : D → Ad → Nat → Prop} {tg : A7 K} (i : Nat) (a : Bs) (hg : AP r i = some (.row tU8 1 a.length (a.map bD))) (hl : a.length ≤ 1000000000) (hh : i ∉ held) (k : K (bytesD a) (Ej r i) (nx + 1)) : Cf Tryz.prog #[Ap, Ap] Ap (.h i) (.sc (.slice none 0 0)) held r nx K tg :=
 WO (tg' := .mk _) (tg0 := .mk _) (K0 := fun d r' nx' => d = .h nx ∧ r' = (nx, .row tU8 1 (a.length + 0) (a.map bD ++ [])) :: Ej r i ∧ nx' = nx + 1)
  (Jm (i := i) (m := 0) (l' := []) elB (l := a.map bD) (n := a.length) hg (FW.nil _ _) (by simp) (by simp) (by omega) (by omega) hh ⟨rfl, rfl, rfl⟩)
  (fun d r' nx' ⟨h1, h2, h3⟩ => ⟨nx, _, _, _, _, _, h1, h2, fun x hx => by
   rw [List.append_nil] at hx; exact JC x hx, by
   subst h3
   rw [List.append_nil, Nat.add_zero]; exact k⟩)
theorem Qu (p : Nat) (vs : List VoteS) : (Dz p (Bo vs) (Bo vs).length).flatMap frameB = BO p vs := by unfold BO EU Dz; rw [List.take_length]
theorem Tq {b : Nat} (hb : 1 ≤ b) : (Dz b [] 0).flatMap frameB = frameB (Aw b) := by rw [Tm, if_pos hb]; simp
theorem Tn (v : VoteS) : (Dz 0 [v] 1).flatMap frameB = frameB (Bv v) := by unfold Dz; simp
end Go.Proofs.YtgpkbldlkadnjaaGreat
end
