/- Contracts over data: the pieces of a value; shards. -/
import Derived.Test.YtgpkbldlkadnjaaGreatJ4
import Derived.Test.YtgpkbldlkadnjaaGreatJ3
import Derived.Test.YtgpkbldlkadnjaaGreatJ1
import Derived.Test.YtgpkbldlkadnjaaGreatJ2
import Derived.Carry
import Derived.ChangeMaps5
import Derived.Maps.RangeRun
set_option linter.unusedVariables false
set_option linter.unusedSimpArgs false
section
set_option maxHeartbeats 3000000
attribute [local irreducible] Go.Sl.Chk Go.Sl.Br Go.Sl.Or2 Go.Sl.Ld Go.Sl.Ldn Go.Sl.LdB Go.Sl.Stn Go.Sl.New Go.Sl.Run Go.Sl.Ez Go.Sl.Eu Go.Sl.Call Go.Sl.CQ Go.Sl.EC Go.Sl.Alt Go.Sl.Om Go.Sl.xpk Go.Sl.FM Go.Sl.FN Go.Sl.DLd Go.Sl.Fe Go.Sl.DBs Go.Sl.BG Go.Sl.EN Go.Sl.EM Go.Sl.Dz Go.Sl.DGC Go.Sl.DW Go.Sl.Gl Go.Sl.Ei Go.Sl.Ent Go.Sl.Be Go.Sl.dv Go.Sl.ev Go.Sl.Au
namespace Go.Proofs.YtgpkbldlkadnjaaGreat
open Go Go.Sl Go.RowKit
theorem AjZ (b : Bs) (n : Nat) (hn : 1 ≤ n) : Ed Tryz.prog NJ [bytesD b, iD n] (.fn GU [] [.pt [bytesD b], .pt [iD n]]) := by
 intro nx
 refine AU YF (by simp only [m_slices_Chunk, List.length]; decide) ?_
 simp only [m_slices_Chunk]; refine WK ?_; try with_reducible exact trivial
 refine Dw (t' := .mk _) (RT.frz (nx + 1) (Aa _ _ _) (by simp only [Jw, JR, and_self])) ?_
 refine Dw (t' := .mk _) (RT.frz nx (d := .box Am [bytesD b]) (by refine WK ?_; try with_reducible exact trivial) (by simp only [Jw, JR, and_self])) ?_
 simp -dsimp (disch := omega) only [↓MC.xwp, ↓BM, ↓xdr, ↓MOp.xwp, dvs, dv, dvu, dvo, dvp, dgb, dGd, DN, cond_true, cond_false, FZ, Be, CU, Di, Dv, Dl, ptr, bsc, cv, uo, uof, Bj, xpr, DF, EF, FB, E8, F9, FK, Gf, xst, xgp, glc, FW, DL, FU, FV, FQ, FT, DK, FP, FC, FO, DI, DJ, BV, DC, E5, dsl, dif, BK, CE, BB, scs, rowOf, Az, dtk, Du, BF, pev, Bz, BC, Aq, BD, psl, Bc, ↓Dx, ↓BZ, ↓FH, ↓EY, Dp, Ff, E9, Df, Bq, kp, C9, Dk, ES, Dj, Fj, CV, AB, Bi, nb, ET, BL, AY, apart, Af, AX, heldOk, Op.operands, Nat.reduceAdd, forall_eq_or_imp, D.plain, reduceCtorEq, if_true, if_false, ↓reduceIte, ne_eq, Bool.cond_true, Bool.cond_false, forall_const, implies_true, forall_eq, Int.reduceEq, Int.reduceLT, Int.reduceLE, Int.reduceAdd, Int.reduceSub, Int.reduceMul, Int.reduceToNat, Nat.reduceMul, Nat.reduceLeDiff, Nat.reduceLT, Nat.reduceSub, Nat.reduceBEq, Nat.reduceEqDiff, CG, bytesD, iD, BP, Ak, Bv, bD, DB, frzR, SC, frz]
 refine AeL (t' := .mk _) ?_
 simp -dsimp (disch := omega) only [↓MC.xwp, ↓BM, ↓xdr, ↓MOp.xwp, dvs, dv, dvu, dvo, dvp, dgb, dGd, DN, cond_true, cond_false, FZ, Be, CU, Di, Dv, Dl, ptr, bsc, cv, uo, uof, Bj, xpr, DF, EF, FB, E8, F9, FK, Gf, xst, xgp, glc, FW, DL, FU, FV, FQ, FT, DK, FP, FC, FO, DI, DJ, BV, DC, E5, dsl, dif, BK, CE, BB, scs, rowOf, Az, dtk, Du, BF, pev, Bz, BC, Aq, BD, psl, Bc, ↓Dx, ↓BZ, ↓FH, ↓EY, Dp, Ff, E9, Df, Bq, kp, C9, Dk, ES, Dj, Fj, CV, AB, Bi, nb, ET, BL, AY, apart, Af, AX, heldOk, Op.operands, Nat.reduceAdd, forall_eq_or_imp, D.plain, reduceCtorEq, if_true, if_false, ↓reduceIte, ne_eq, Bool.cond_true, Bool.cond_false, forall_const, implies_true, forall_eq, Int.reduceEq, Int.reduceLT, Int.reduceLE, Int.reduceAdd, Int.reduceSub, Int.reduceMul, Int.reduceToNat, Nat.reduceMul, Nat.reduceLeDiff, Nat.reduceLT, Nat.reduceSub, Nat.reduceBEq, Nat.reduceEqDiff, CG, bytesD, iD, BP, Ak, Bv, bD, DB, Aiq]
 exact BU ⟨rfl, rfl⟩
theorem XW {k : Nat} (hk : 0 < k) (v : Bs) {j : Nat} (hj : j < k) : gt (AZ k v) j = ((Hq k (Bl v)).drop (j * BI k v.length)).take (BI k v.length) := by
 have h := Adf (BI k v.length) k (Hq k (Bl v)) j hj
 rw [gt, List.getD_eq_getElem?_getD, AZ, h]
 rfl
theorem AgB (l : LL) (x : Bs) : (D.row Am 1 (l.length + 1) (l.map Ar ++ [Ar x])) = AcF (l ++ [x]) := by simp only [AcF, List.map_append, List.map_cons, List.map_nil, List.length_append, List.length_cons, List.length_nil]
theorem Aci {k : Int} {v : Bs} {w : World} {Z : Nat → Prop} {T : Nat → Option Value} {vs : List Value} (h : RsL w Z T [iD k, Bv v] vs) : vs = [.int .i64 k, .string ⟨v.toArray⟩] := by
 obtain ⟨a, b, rfl, h1, h2⟩ := QF h
 simp only [Rs] at h1 h2
 rw [h1, h2]
def PJ (k : Nat) (v : Bs) (io nn : Nat) (j : Nat) (r : Ad) (nx : Nat) : Prop :=
 nn ≤ nx ∧ io < nn ∧ ((j = 0 ∧ r = [(io, .box Ej [.sc (.slice none 0 0)])]) ∨ ∃ q, nn ≤ q ∧ q < nx ∧ r = [(q, AcF ((AZ k v).take j)), (io, .box Ej [.h q])])
set_option maxRecDepth 100000 in
theorem AhI (k : Nat) (v : Bs) (hk : 1 ≤ k) (hk2 : k ≤ 1000) (hv : v.length ≤ 1000000) : NZ Tryz.prog Ov [iD k, Bv v] (fun i => .h i) (AcF (AZ k v)) := by
 intro nx w Z T F vs ok hrs
 obtain rfl := Aci hrs
 refine Ads Tryz.func138 rfl ?_
 have hpl := Vs (k := k) (n := (Bl v).length) (by omega)
 have hpg := OV (k := k) (n := (Bl v).length) (by omega)
 have htl := EP v
 have hsim : Sim 31 (AQ 0 [.int .i64 k, .string ⟨v.toArray⟩]) { tmps := (List.toArray [.int .i64 k, .string ⟨v.toArray⟩]) ++ Array.replicate (Tryz.f138.ntmps - (List.toArray [Value.int .i64 k, .string ⟨v.toArray⟩]).size) undef, defers := [] } := by
  rw [Tryz.ntmps138]; exact sim0 (by simp)
 have henv : Ep w Z T (AQ 0 [.int .i64 k, .string ⟨v.toArray⟩]) (E9 0 [iD k, Bv v]) := AbI 0 hrs
 refine wp_seq (Ada (m := .ops [.p 4 .mv [(.const (.slice none 0 0))]]) (by kernel_rfl) hsim ok henv (Q := fun de r n => Be de 0 = some (iD k) ∧ Be de 1 = some (Bv v) ∧ r = [] ∧ nx = n) (by simp -dsimp (disch := omega) only [↓MC.xwp, ↓BM, ↓xdr, ↓MOp.xwp, dvs, dv, dvu, dvo, dvp, dgb, dGd, DN, cond_true, cond_false, FZ, Be, CU, Di, Dv, Dl, ptr, bsc, cv, uo, uof, Bj, xpr, DF, EF, FB, E8, F9, FK, Gf, xst, xgp, glc, FW, DL, FU, FV, FQ, FT, DK, FP, FC, FO, DI, DJ, BV, DC, E5, dsl, dif, BK, CE, BB, scs, rowOf, Az, dtk, Du, BF, pev, Bz, BC, Aq, BD, psl, Bc, ↓Dx, ↓BZ, ↓FH, ↓EY, Dp, Ff, E9, Df, Bq, kp, C9, Dk, ES, Dj, Fj, CV, AB, Bi, nb, ET, BL, AY, apart, Af, AX, heldOk, Op.operands, Nat.reduceAdd, forall_eq_or_imp, D.plain, reduceCtorEq, if_true, if_false, ↓reduceIte, ne_eq, Bool.cond_true, Bool.cond_false, forall_const, implies_true, forall_eq, Int.reduceEq, Int.reduceLT, Int.reduceLE, Int.reduceAdd, Int.reduceSub, Int.reduceMul, Int.reduceToNat, Nat.reduceMul, Nat.reduceLeDiff, Nat.reduceLT, Nat.reduceSub, Nat.reduceBEq, Nat.reduceEqDiff, CG, bytesD, iD, BP, Ak, Bv, bD, DB, iD]; exact ⟨(by with_unfolding_all rfl), (by with_unfolding_all rfl), rfl, rfl⟩) ?_)
 rintro e1 a1 w1 Z1 T1 F1 de1 _ _ hs1 ok1 he1 ⟨g1, g2, rfl, rfl⟩
 simp only [Exit.then]
 refine wp_seq (Ada (m := .ops [.p 8 .mv [(.tmp 1)], .call (some 9) LZ [(.tmp 8)], .p 5 .mv [(.tmp 9)]]) (by kernel_rfl) hs1 ok1 (he1.two g1 g2) (Q := fun de r n => ∃ i, nx ≤ i ∧ i < n ∧ Be de 0 = some (iD k) ∧ Be de 5 = some (.h i) ∧ r = [(i, Ar (Bl v))]) ?_ ?_)
 ·refine WK ?_; try with_reducible exact trivial
  refine O5 (Ahb v (by omega)) fun i n1 h1 h2 => ?_
  refine WK ?_; try with_reducible exact trivial
  exact ⟨i, h1, h2, (by with_unfolding_all rfl), (by with_unfolding_all rfl), rfl⟩
 rintro e2 a2 w2 Z2 T2 F2 de2 _ n2 hs2 ok2 he2 ⟨i2, hi2, hi2', g1, g2, rfl⟩
 simp only [Exit.then]
 -- filled up
 refine wp_seq (Ada (m := .block 0 (.loop (.seq (.seq (.ops [.p 10 .mv [(.tmp 5)], .p 11 .len [(.tmp 10)], .p 12 .mv [(.tmp 0)], .p 13 (.bin .rem) [(.tmp 11), (.tmp 12)], .p 14 (.bin .neq) [(.tmp 13), (.const (.int .i64 0))]]) (.cond (.tmp 14) .skip (.exit 0)))
  (.block 1 (.ops [.p 15 .mv [(.tmp 5)], .bsl 16 tU8 1 [(.int .u8 0)] [(0, 1)] [(.const (.int .u8 0))], .app 17 #[Am, Am] Am (.tmp 15) (.tmp 16), .p 5 .mv [(.tmp 17)]])))))
  (by kernel_rfl) hs2 ok2 (he2.two g1 g2) (Q := fun de r n => ∃ i, nx ≤ i ∧ i < n ∧ Be de 0 = some (iD k) ∧ Be de 5 = some (.h i) ∧ r = [(i, Ar (Hq k (Bl v)))]) ?_ ?_)
 ·refine WK ?_; try with_reducible exact trivial
  refine Gu [0, 5] (fun s : Nat × Nat × Nat => ([(0, iD k), (5, .h s.2.1)], [(s.2.1, Ar (Bl v ++ List.replicate s.1 0))], s.2.2)) (fun s => s.1 + (Bl v).length ≤ FY k (Bl v).length ∧ nx ≤ s.2.1 ∧ s.2.1 < s.2.2) (fun s => FY k (Bl v).length - (s.1 + (Bl v).length)) (0, i2, n2) ⟨by dsimp only; omega, hi2, hi2'⟩ ?_ ?_
  ·dsimp only
   rw [List.replicate_zero, List.append_nil]
   exact (Ent.of (by with_unfolding_all rfl) rfl)
  ·rintro ⟨m, i, n1⟩ ⟨hm, hi, hi'⟩
   dsimp only at hm hi hi' ⊢
   have hlen : (Bl v ++ List.replicate m (0 : UInt8)).length = (Bl v).length + m := by simp
   refine WKX @hlen ?_; try with_reducible exact trivial
   refine brn (fun hne => ?_) (fun heq => ?_)
   ·have hlt : m + (Bl v).length < FY k (Bl v).length := by
     rcases Nat.lt_or_ge (m + (Bl v).length) (FY k (Bl v).length) with h | h
     ·exact h
     ·exfalso
      have e1 : (Bl v).length + m = FY k (Bl v).length := by omega
      have e2 := ND (k := k) (n := (Bl v).length) (by omega)
      refine hne ?_
      rw [e1, e2]
      have : k * (FY k (Bl v).length / k) % k = 0 := Nat.mul_mod_right _ _
      omega
    simp -dsimp (disch := omega) only [↓MC.xwp, ↓BM, ↓xdr, ↓MOp.xwp, dvs, dv, dvu, dvo, dvp, dgb, dGd, DN, cond_true, cond_false, FZ, Be, CU, Di, Dv, Dl, ptr, bsc, cv, uo, uof, Bj, xpr, DF, EF, FB, E8, F9, FK, Gf, xst, xgp, glc, FW, DL, FU, FV, FQ, FT, DK, FP, FC, FO, DI, DJ, BV, DC, E5, dsl, dif, BK, CE, BB, scs, rowOf, Az, dtk, Du, BF, pev, Bz, BC, Aq, BD, psl, Bc, ↓Dx, ↓BZ, ↓FH, ↓EY, Dp, Ff, E9, Df, Bq, kp, C9, Dk, ES, Dj, Fj, CV, AB, Bi, nb, ET, BL, AY, apart, Af, AX, heldOk, Op.operands, Nat.reduceAdd, forall_eq_or_imp, D.plain, reduceCtorEq, if_true, if_false, ↓reduceIte, ne_eq, Bool.cond_true, Bool.cond_false, forall_const, implies_true, forall_eq, Int.reduceEq, Int.reduceLT, Int.reduceLE, Int.reduceAdd, Int.reduceSub, Int.reduceMul, Int.reduceToNat, Nat.reduceMul, Nat.reduceLeDiff, Nat.reduceLT, Nat.reduceSub, Nat.reduceBEq, Nat.reduceEqDiff, CG, bytesD, iD, BP, Ak, Bv, bD, DB, Nat.reduceDiv]
    refine NY (i := i) (m := 1) (l' := [bD 0]) elB (l := (Bl v ++ List.replicate m 0).map bD) (n := (Bl v ++ List.replicate m (0 : UInt8)).length) (by rw [Ac (by omega), Aa]) (JA.row (Aa _ _ _) (fun x hx => by simp only [List.mem_singleton] at hx; subst hx; exact YP 0)) rfl (by simp [BF, bD, U8, Value.oneCell']) (by omega) (by omega) (by simp) ?_
    refine WK ?_; try with_reducible exact trivial
    refine ⟨(m + 1, n1 + 1, n1 + 2), ⟨by dsimp only; omega, by dsimp only; omega, by dsimp only; omega⟩, by dsimp only; omega, ?_⟩
    refine (Ent.only [n1 + 1] _ _ _).trans ?_
    simp only [ER, Aa]
    have e : D.row tU8 1 ((Bl v ++ List.replicate m (0 : UInt8)).length + 1) ((Bl v ++ List.replicate m 0).map bD ++ [bD 0]) = Ar (Bl v ++ List.replicate (m + 1) 0) := by
     rw [List.replicate_succ', ← List.append_assoc]
     simp only [Ar, List.map_append, List.map_cons, List.map_nil, List.length_append, List.length_cons, List.length_nil]
    rw [← e]
    exact (Ent.of (by with_unfolding_all rfl) rfl)
   ·refine WK ?_; try with_reducible exact trivial
    have e1 : (Bl v).length + m = FY k (Bl v).length := ZL (by omega) (by omega) (by omega) (by omega)
    have e2 : Hq k (Bl v) = Bl v ++ List.replicate m 0 := by
     rw [Hq]
     congr 2
     omega
    rw [e2]
    exact ⟨i, hi, hi', (by with_unfolding_all rfl), (by with_unfolding_all rfl), rfl⟩
 rintro e3 a3 w3 Z3 T3 F3 de3 _ n3 hs3 ok3 he3 ⟨i3, hi3, hi3', g1, g2, rfl⟩
 simp only [Exit.then]
 refine wp_seq (Ada (m := .ops [.new 6 Ej [(.slice none 0 0)]]) (by kernel_rfl) hs3 ok3 (he3.two g1 g2) (Q := fun de r n => n = n3 + 1 ∧ de = [(6, .hp n3 0), (0, iD k), (5, .h i3)] ∧ r = [(n3, .box Ej [.sc (.slice none 0 0)]), (i3, Ar (Hq k (Bl v)))]) (by simp -dsimp (disch := omega) only [↓MC.xwp, ↓BM, ↓xdr, ↓MOp.xwp, dvs, dv, dvu, dvo, dvp, dgb, dGd, DN, cond_true, cond_false, FZ, Be, CU, Di, Dv, Dl, ptr, bsc, cv, uo, uof, Bj, xpr, DF, EF, FB, E8, F9, FK, Gf, xst, xgp, glc, FW, DL, FU, FV, FQ, FT, DK, FP, FC, FO, DI, DJ, BV, DC, E5, dsl, dif, BK, CE, BB, scs, rowOf, Az, dtk, Du, BF, pev, Bz, BC, Aq, BD, psl, Bc, ↓Dx, ↓BZ, ↓FH, ↓EY, Dp, Ff, E9, Df, Bq, kp, C9, Dk, ES, Dj, Fj, CV, AB, Bi, nb, ET, BL, AY, apart, Af, AX, heldOk, Op.operands, Nat.reduceAdd, forall_eq_or_imp, D.plain, reduceCtorEq, if_true, if_false, ↓reduceIte, ne_eq, Bool.cond_true, Bool.cond_false, forall_const, implies_true, forall_eq, Int.reduceEq, Int.reduceLT, Int.reduceLE, Int.reduceAdd, Int.reduceSub, Int.reduceMul, Int.reduceToNat, Nat.reduceMul, Nat.reduceLeDiff, Nat.reduceLT, Nat.reduceSub, Nat.reduceBEq, Nat.reduceEqDiff, CG, bytesD, iD, BP, Ak, Bv, bD, DB, iD]; exact ⟨rfl, (by with_unfolding_all rfl), rfl⟩) ?_)
 rintro e4 a4 w4 Z4 T4 F4 _ _ n4 hs4 ok4 he4 ⟨rfl, rfl, rfl⟩
 simp only [Exit.then]
 have hbl := LK (k := k) (by omega) v
 have hw1 := Po (k := k) v.length (by omega)
 have hw2 := DY (k := k) v.length (by omega)
 refine wp_seq (wp_seq (Ada (m := .ops [.p 18 .mv [(.tmp 5)], .p 19 .mv [(.tmp 5)], .p 20 .len [(.tmp 19)], .p 21 .mv [(.tmp 0)], .p 22 (.bin .quo) [(.tmp 20), (.tmp 21)], .call (some 23) NJ [(.tmp 18), (.tmp 22)]]) (by kernel_rfl) hs4 ok4 he4
  (Q := fun de r n => n3 + 1 ≤ n ∧ Be de 6 = some (.hp n3 0) ∧ Be de 23 = some (.fn GU [] [.pt [bytesD (Hq k (Bl v))], .pt [iD (BI k v.length)]]) ∧ r = [(n3, .box Ej [.sc (.slice none 0 0)]), (i3, bytesD (Hq k (Bl v)))]) ?_ ?_))
 ·refine WK ?_; try with_reducible exact trivial
  refine Adb (t' := .mk _) (RT.frz i3 (d := Ar (Hq k (Bl v))) (by refine WK ?_; try with_reducible exact trivial) (by simp only [Jw]; exact (DU _).1)) ?_
  refine Yu (t' := .mk _) ?_
  simp -dsimp (disch := omega) only [↓MC.xwp, ↓BM, ↓xdr, ↓MOp.xwp, dvs, dv, dvu, dvo, dvp, dgb, dGd, DN, cond_true, cond_false, FZ, Be, CU, Di, Dv, Dl, ptr, bsc, cv, uo, uof, Bj, xpr, DF, EF, FB, E8, F9, FK, Gf, xst, xgp, glc, FW, DL, FU, FV, FQ, FT, DK, FP, FC, FO, DI, DJ, BV, DC, E5, dsl, dif, BK, CE, BB, scs, rowOf, Az, dtk, Du, BF, pev, Bz, BC, Aq, BD, psl, Bc, ↓Dx, ↓BZ, ↓FH, ↓EY, Dp, Ff, E9, Df, Bq, kp, C9, Dk, ES, Dj, Fj, CV, AB, Bi, nb, ET, BL, AY, apart, Af, AX, heldOk, Op.operands, Nat.reduceAdd, forall_eq_or_imp, D.plain, reduceCtorEq, if_true, if_false, ↓reduceIte, ne_eq, Bool.cond_true, Bool.cond_false, forall_const, implies_true, forall_eq, Int.reduceEq, Int.reduceLT, Int.reduceLE, Int.reduceAdd, Int.reduceSub, Int.reduceMul, Int.reduceToNat, Nat.reduceMul, Nat.reduceLeDiff, Nat.reduceLT, Nat.reduceSub, Nat.reduceBEq, Nat.reduceEqDiff, CG, bytesD, iD, BP, Ak, Bv, bD, DB, frzR, frz, (DU _).2]
  have e1 : ((Hq k (Bl v)).length : Int) / (k : Int) = ((BI k v.length : Nat) : Int) := by
   rw [hbl, Int.natCast_mul, Int.mul_ediv_cancel_left _ (by omega)]
  rw [e1, wrap_i64 (by omega)]
  refine BH (AjZ _ _ hw1) fun n5 h5 => ?_
  refine WK ?_; try with_reducible exact trivial
  exact ⟨h5, (by with_unfolding_all rfl), (by with_unfolding_all rfl), rfl⟩
 rintro e5 a5 w5 Z5 T5 F5 de5 _ n5 hs5 ok5 he5 ⟨hn5, g1, g2, rfl⟩
 simp only [Exit.then]
 -- the rounds
 refine wp_block ?_
 -- what the iterator is handed
 obtain ⟨uf, huf, hrf⟩ := he5 23 _ g2
 simp only [Rs] at hrf
 obtain ⟨us, vs, rfl, hu1, hv1⟩ := hrf
 simp only [RsL] at hu1
 subst hu1
 obtain ⟨pS, pN, rfl, hpS, hpN⟩ := QF hv1
 simp only [Rs, Fz] at hpS hpN
 obtain ⟨aS, rfl, ⟨bS, sv, eS, zS, cS, sl1⟩, _⟩ := hpS
 obtain ⟨aN, rfl, ⟨bN, nv, eN, zN, cN, rfl⟩, _⟩ := hpN
 cases eS
 cases eN
 have add0 : ∀ a : Addr, a.add 0 = a := fun a => by simp [Addr.add]
 rw [add0] at cS cN
 obtain ⟨A, cap, rfl, hcap, hA, hfz⟩ := sl1
 obtain ⟨a, rfl⟩ : ∃ a, A = some a := by
  cases A with
  | some a => exact ⟨a, rfl⟩
  | none =>
   exfalso
   have h1 := hA rfl
   rw [hbl] at h1
   rcases Nat.mul_eq_zero.1 h1 with h | h <;> omega
 have hkw : (Hq k (Bl v)).length = tms k (BI k v.length) := hbl
 have okR : ∃ Z' F', Ok ⟨w, Z, T, F, nx⟩ w5 Z' T5 F' [(n3, .box Ej [.sc (.slice none 0 0)])] n5 ∧ ∀ b, Z5 b → Z' b := by
  have h := RT.only [n3] _ _ _ _ _ _ ok5
  simpa only [ER, Aa] using h
 obtain ⟨Z6, F6, ok6, z6⟩ := okR
 have he6 := (he5.two g1 g2).keep (w' := w5) (fun _ _ => rfl) z6 (fun _ _ h => h)
 refine Ajs (p := 24) (ma := .ops [.p 7 .mv [(.tmp 24)]]) (mb := .block 3 (.dr (.one ⟨.ld 25 (.tmp 6), []⟩ (.one ⟨.p 26 .mv [(.tmp 7)], []⟩ (.one ⟨.call (some 27) Eo [(.tmp 26)], [.ld 25 (.tmp 6)]⟩ (.one ⟨.bsl 28 Am 1 [(.slice none 0 0)] [(0, 1)] [(.tmp 27)], [.ld 25 (.tmp 6)]⟩ (.one ⟨.app 29 #[Ej, Ej] Ej (.tmp 25) (.tmp 28), []⟩ (.one ⟨.st 1 false (.tmp 6) (.tmp 29), []⟩ (.nil)))))))))
  hs5 ok6 he6 (gf := GU) (lb := #[.pointer (some aS), .pointer (some aN)]) (hs5.ev (by simp only [ev]; exact huf)) (PN (by kernel_rfl)) (by decide) (by kernel_rfl) rfl (by kernel_rfl) (by kernel_rfl) rfl (by kernel_rfl)
  (AeY aS aN (BI k v.length) k cap a hw1 (by rw [← hkw, PP (by omega)]; omega) (by rw [← hkw]; exact hcap)) (PJ k v n3 (n3 + 1)) (fun j => bytesD (gt (AZ k v) j)) ⟨hn5, by omega, .inl ⟨rfl, rfl⟩⟩ ?_ ?_ ?_ ?_
 ·intro W' hW
  exact ⟨(World.cell?_of_block (hW _ (z6 _ zS))).trans (by rw [cS, hkw]), (World.cell?_of_block (hW _ (z6 _ zN))).trans cN⟩
 ·intro j hj
  have e : D.sl (BI k v.length) ((((Hq k (Bl v)).map bD).drop (j * BI k v.length)).take (BI k v.length)) = bytesD (gt (AZ k v) j) := by
   rw [XW (by omega) v hj, ← List.map_drop, ← List.map_take]
   have h1 : j * BI k v.length + BI k v.length ≤ k * BI k v.length := by rw [← Nat.succ_mul]; exact Nat.mul_le_mul_right _ hj
   have : (((Hq k (Bl v)).drop (j * BI k v.length)).take (BI k v.length)).length = BI k v.length := by
    rw [List.length_take, List.length_drop, hbl]; omega
   simp only [bytesD, this]
  rw [← e]
  simp only [Rs]
  exact ⟨some (a.add (tms j (BI k v.length))), BI k v.length, rfl, Nat.le_refl _, by simp, Fz.take (Fz.keep (fun _ _ => rfl) z6 (fun _ _ h => h) _ _ _ (Fz.drop hfz))⟩
 ·rintro j r' nx' ⟨h1, h2, hJ⟩ hj
  have hpl2 := (Jl (k := k) (by omega) v).2.2
  have hjl : j < (AZ k v).length := by omega
  have hgl : (gt (AZ k v) j).length = BI k v.length := by
   rw [G8 hjl]
   have := (Jl (k := k) (by omega) v)
   rw [this.1.all _ (List.getElem_mem hjl), this.2.1]
  have htk := LG hjl
  rcases hJ with ⟨rfl, rfl⟩ | ⟨q, hq1, hq2, rfl⟩
  ·simp -dsimp (disch := omega) only [↓MC.xwp, ↓BM, ↓xdr, ↓MOp.xwp, dvs, dv, dvu, dvo, dvp, dgb, dGd, DN, cond_true, cond_false, FZ, Be, CU, Di, Dv, Dl, ptr, bsc, cv, uo, uof, Bj, xpr, DF, EF, FB, E8, F9, FK, Gf, xst, xgp, glc, FW, DL, FU, FV, FQ, FT, DK, FP, FC, FO, DI, DJ, BV, DC, E5, dsl, dif, BK, CE, BB, scs, rowOf, Az, dtk, Du, BF, pev, Bz, BC, Aq, BD, psl, Bc, ↓Dx, ↓BZ, ↓FH, ↓EY, Dp, Ff, E9, Df, Bq, kp, C9, Dk, ES, Dj, Fj, CV, AB, Bi, nb, ET, BL, AY, apart, Af, AX, heldOk, Op.operands, Nat.reduceAdd, forall_eq_or_imp, D.plain, reduceCtorEq, if_true, if_false, ↓reduceIte, ne_eq, Bool.cond_true, Bool.cond_false, forall_const, implies_true, forall_eq, Int.reduceEq, Int.reduceLT, Int.reduceLE, Int.reduceAdd, Int.reduceSub, Int.reduceMul, Int.reduceToNat, Nat.reduceMul, Nat.reduceLeDiff, Nat.reduceLT, Nat.reduceSub, Nat.reduceBEq, Nat.reduceEqDiff, CG, bytesD, iD, BP, Ak, Bv, bD, DB, ↓Qh]
   refine O5 (Sj _ (by omega)) fun i n6 h3 h4 => ?_
   simp -dsimp (disch := omega) only [↓MC.xwp, ↓BM, ↓xdr, ↓MOp.xwp, dvs, dv, dvu, dvo, dvp, dgb, dGd, DN, cond_true, cond_false, FZ, Be, CU, Di, Dv, Dl, ptr, bsc, cv, uo, uof, Bj, xpr, DF, EF, FB, E8, F9, FK, Gf, xst, xgp, glc, FW, DL, FU, FV, FQ, FT, DK, FP, FC, FO, DI, DJ, BV, DC, E5, dsl, dif, BK, CE, BB, scs, rowOf, Az, dtk, Du, BF, pev, Bz, BC, Aq, BD, psl, Bc, ↓Dx, ↓BZ, ↓FH, ↓EY, Dp, Ff, E9, Df, Bq, kp, C9, Dk, ES, Dj, Fj, CV, AB, Bi, nb, ET, BL, AY, apart, Af, AX, heldOk, Op.operands, Nat.reduceAdd, forall_eq_or_imp, D.plain, reduceCtorEq, if_true, if_false, ↓reduceIte, ne_eq, Bool.cond_true, Bool.cond_false, forall_const, implies_true, forall_eq, Int.reduceEq, Int.reduceLT, Int.reduceLE, Int.reduceAdd, Int.reduceSub, Int.reduceMul, Int.reduceToNat, Nat.reduceMul, Nat.reduceLeDiff, Nat.reduceLT, Nat.reduceSub, Nat.reduceBEq, Nat.reduceEqDiff, CG, bytesD, iD, BP, Ak, Bv, bD, DB, ↓Qh]
   refine Adc (m := 1) (l' := [.h i]) elM (JA.row (by rw [show 1 / 1 = 1 from rfl]; exact Aa _ _ _) (by simp [D.plain])) rfl (by simp [BF]) (by omega) (by omega) ?_
   simp -dsimp (disch := omega) only [↓MC.xwp, ↓BM, ↓xdr, ↓MOp.xwp, dvs, dv, dvu, dvo, dvp, dgb, dGd, DN, cond_true, cond_false, FZ, Be, CU, Di, Dv, Dl, ptr, bsc, cv, uo, uof, Bj, xpr, DF, EF, FB, E8, F9, FK, Gf, xst, xgp, glc, FW, DL, FU, FV, FQ, FT, DK, FP, FC, FO, DI, DJ, BV, DC, E5, dsl, dif, BK, CE, BB, scs, rowOf, Az, dtk, Du, BF, pev, Bz, BC, Aq, BD, psl, Bc, ↓Dx, ↓BZ, ↓FH, ↓EY, Dp, Ff, E9, Df, Bq, kp, C9, Dk, ES, Dj, Fj, CV, AB, Bi, nb, ET, BL, AY, apart, Af, AX, heldOk, Op.operands, Nat.reduceAdd, forall_eq_or_imp, D.plain, reduceCtorEq, if_true, if_false, ↓reduceIte, ne_eq, Bool.cond_true, Bool.cond_false, forall_const, implies_true, forall_eq, Int.reduceEq, Int.reduceLT, Int.reduceLE, Int.reduceAdd, Int.reduceSub, Int.reduceMul, Int.reduceToNat, Nat.reduceMul, Nat.reduceLeDiff, Nat.reduceLT, Nat.reduceSub, Nat.reduceBEq, Nat.reduceEqDiff, CG, bytesD, iD, BP, Ak, Bv, bD, DB, ↓Qh]
   have hr := RT.only (r := [(n6 + 1, .row Am 1 1 [.h i]), (n6, .row Am (1 / 1) 1 [.h i]), (i, Ar (gt (AZ k v) 0)), (n3, .box Ej [.h (n6 + 1)])]) [n6 + 1, i, n3]
   simp -dsimp (disch := omega) only [Aa, Ac, Ba, CX, AV, Bd, ER] at hr
   have hf := RT.fold (r := [(n6 + 1, .row Am 1 1 [.h i]), (i, Ar (gt (AZ k v) 0)), (n3, .box Ej [.h (n6 + 1)])]) i (n6 + 1) 0 (d := Ar (gt (AZ k v) 0)) (c := .row Am 1 1 [.h i]) (l := [.h i]) (by refine WK ?_; try with_reducible exact trivial) (by omega) (by refine WK ?_; try with_reducible exact trivial) rfl rfl
   simp -dsimp (disch := omega) only [Aa, Ac, Ba, CX, AV, Bd, D6] at hf
   refine ⟨_, hr.trans hf, by omega, by omega, .inr ⟨n6 + 1, by omega, by omega, ?_⟩⟩
   rw [htk, List.take_zero]
   rfl
  ·simp -dsimp (disch := omega) only [↓MC.xwp, ↓BM, ↓xdr, ↓MOp.xwp, dvs, dv, dvu, dvo, dvp, dgb, dGd, DN, cond_true, cond_false, FZ, Be, CU, Di, Dv, Dl, ptr, bsc, cv, uo, uof, Bj, xpr, DF, EF, FB, E8, F9, FK, Gf, xst, xgp, glc, FW, DL, FU, FV, FQ, FT, DK, FP, FC, FO, DI, DJ, BV, DC, E5, dsl, dif, BK, CE, BB, scs, rowOf, Az, dtk, Du, BF, pev, Bz, BC, Aq, BD, psl, Bc, ↓Dx, ↓BZ, ↓FH, ↓EY, Dp, Ff, E9, Df, Bq, kp, C9, Dk, ES, Dj, Fj, CV, AB, Bi, nb, ET, BL, AY, apart, Af, AX, heldOk, Op.operands, Nat.reduceAdd, forall_eq_or_imp, D.plain, reduceCtorEq, if_true, if_false, ↓reduceIte, ne_eq, Bool.cond_true, Bool.cond_false, forall_const, implies_true, forall_eq, Int.reduceEq, Int.reduceLT, Int.reduceLE, Int.reduceAdd, Int.reduceSub, Int.reduceMul, Int.reduceToNat, Nat.reduceMul, Nat.reduceLeDiff, Nat.reduceLT, Nat.reduceSub, Nat.reduceBEq, Nat.reduceEqDiff, CG, bytesD, iD, BP, Ak, Bv, bD, DB, ↓Qh]
   refine O5 (Sj _ (by omega)) fun i n6 h3 h4 => ?_
   simp -dsimp (disch := omega) only [↓MC.xwp, ↓BM, ↓xdr, ↓MOp.xwp, dvs, dv, dvu, dvo, dvp, dgb, dGd, DN, cond_true, cond_false, FZ, Be, CU, Di, Dv, Dl, ptr, bsc, cv, uo, uof, Bj, xpr, DF, EF, FB, E8, F9, FK, Gf, xst, xgp, glc, FW, DL, FU, FV, FQ, FT, DK, FP, FC, FO, DI, DJ, BV, DC, E5, dsl, dif, BK, CE, BB, scs, rowOf, Az, dtk, Du, BF, pev, Bz, BC, Aq, BD, psl, Bc, ↓Dx, ↓BZ, ↓FH, ↓EY, Dp, Ff, E9, Df, Bq, kp, C9, Dk, ES, Dj, Fj, CV, AB, Bi, nb, ET, BL, AY, apart, Af, AX, heldOk, Op.operands, Nat.reduceAdd, forall_eq_or_imp, D.plain, reduceCtorEq, if_true, if_false, ↓reduceIte, ne_eq, Bool.cond_true, Bool.cond_false, forall_const, implies_true, forall_eq, Int.reduceEq, Int.reduceLT, Int.reduceLE, Int.reduceAdd, Int.reduceSub, Int.reduceMul, Int.reduceToNat, Nat.reduceMul, Nat.reduceLeDiff, Nat.reduceLT, Nat.reduceSub, Nat.reduceBEq, Nat.reduceEqDiff, CG, bytesD, iD, BP, Ak, Bv, bD, DB, ↓Qh]
   have hlt : ((AZ k v).take j).length = j := by rw [List.length_take]; omega
   refine NY (i := q) (m := 1) (l' := [.h i]) elM (l := ((AZ k v).take j).map Ar) (n := ((AZ k v).take j).length) (by refine WK ?_; try with_reducible exact trivial) (JA.row (by rw [show 1 / 1 = 1 from rfl]; exact Aa _ _ _) (by simp [D.plain])) rfl (by simp [BF]) (by omega) (by omega) (by simp) ?_
   simp -dsimp (disch := omega) only [↓MC.xwp, ↓BM, ↓xdr, ↓MOp.xwp, dvs, dv, dvu, dvo, dvp, dgb, dGd, DN, cond_true, cond_false, FZ, Be, CU, Di, Dv, Dl, ptr, bsc, cv, uo, uof, Bj, xpr, DF, EF, FB, E8, F9, FK, Gf, xst, xgp, glc, FW, DL, FU, FV, FQ, FT, DK, FP, FC, FO, DI, DJ, BV, DC, E5, dsl, dif, BK, CE, BB, scs, rowOf, Az, dtk, Du, BF, pev, Bz, BC, Aq, BD, psl, Bc, ↓Dx, ↓BZ, ↓FH, ↓EY, Dp, Ff, E9, Df, Bq, kp, C9, Dk, ES, Dj, Fj, CV, AB, Bi, nb, ET, BL, AY, apart, Af, AX, heldOk, Op.operands, Nat.reduceAdd, forall_eq_or_imp, D.plain, reduceCtorEq, if_true, if_false, ↓reduceIte, ne_eq, Bool.cond_true, Bool.cond_false, forall_const, implies_true, forall_eq, Int.reduceEq, Int.reduceLT, Int.reduceLE, Int.reduceAdd, Int.reduceSub, Int.reduceMul, Int.reduceToNat, Nat.reduceMul, Nat.reduceLeDiff, Nat.reduceLT, Nat.reduceSub, Nat.reduceBEq, Nat.reduceEqDiff, CG, bytesD, iD, BP, Ak, Bv, bD, DB, ↓Qh]
   have hr := RT.only (r := [(n6 + 1, .row Am 1 (((AZ k v).take j).length + 1) (((AZ k v).take j).map Ar ++ [.h i])), (n6, .row Am (1 / 1) 1 [.h i]), (i, Ar (gt (AZ k v) j)), (n3, .box Ej [.h (n6 + 1)])]) [n6 + 1, i, n3]
   simp -dsimp (disch := omega) only [Aa, Ac, Ba, CX, AV, Bd, ER] at hr
   have hf := RT.fold (r := [(n6 + 1, .row Am 1 (((AZ k v).take j).length + 1) (((AZ k v).take j).map Ar ++ [.h i])), (i, Ar (gt (AZ k v) j)), (n3, .box Ej [.h (n6 + 1)])]) i (n6 + 1) j (d := Ar (gt (AZ k v) j)) (c := .row Am 1 (((AZ k v).take j).length + 1) (((AZ k v).take j).map Ar ++ [.h i])) (l := ((AZ k v).take j).map Ar ++ [.h i]) (by refine WK ?_; try with_reducible exact trivial) (by omega) (by refine WK ?_; try with_reducible exact trivial) rfl (by rw [List.getElem?_append_right (by rw [List.length_map, hlt]; exact Nat.le_refl _), List.length_map, hlt, Nat.sub_self]; rfl)
   simp -dsimp (disch := omega) only [Aa, Ac, Ba, CX, AV, Bd, D6] at hf
   refine ⟨_, hr.trans hf, by omega, by omega, .inr ⟨n6 + 1, by omega, by omega, ?_⟩⟩
   have e : (((AZ k v).take j).map Ar ++ [D.h i]).set j (Ar (gt (AZ k v) j)) = ((AZ k v).take j).map Ar ++ [Ar (gt (AZ k v) j)] := by
    rw [List.set_append_right _ _ (by rw [List.length_map, hlt]; exact Nat.le_refl _), List.length_map, hlt, Nat.sub_self]
    rfl
   rw [e, htk, ← AgB]
 ·intro W Z' T' F' r' nx' B okD heD hJ hB hBo hFB hZB
  simp only [Exit.inBlock, Exit.then]
  obtain ⟨h1, h2, hJ⟩ := hJ
  rcases hJ with ⟨h0, _⟩ | ⟨q, hq1, hq2, rfl⟩
  ·omega
  have hpl2 := (Jl (k := k) (by omega) v).2.2
  rw [List.take_of_length_le (by omega)] at okD
  obtain ⟨u6, hu6, hr6⟩ := heD 6 (.hp n3 0) (by rw [Kr, if_pos rfl])
  obtain ⟨b6, x6', F6', rfl, hc6, ho6⟩ := AdG (e' := Ej) (d := .h q) (v := undef) okD.roots (i := n3) (by refine WK ?_; try with_reducible exact trivial) hr6
  have ht6 := hs5.val 6 _ hu6
  have hsz5 := hs5.size
  obtain ⟨ts, ds⟩ := a5
  obtain ⟨x0, x1, x2, x3, x4, x5, x6, x7, x8, x9, x10, x11, x12, x13, x14, x15, x16, x17, x18, x19, x20, x21, x22, x23, x24, x25, x26, x27, x28, x29, x30, rfl⟩ := arr31 hsz5
  simp only [List.getElem?_toArray, List.getElem?_cons_zero, List.getElem?_cons_succ, Option.some.injEq] at ht6
  subst ht6
  obtain rfl : ds = [] := hs5.defers
  refine (wpIn_wide (n := 0)).1 ?_
  gi_wp2
  have hszE := ok5.fr.size
  dsimp only at hszE
  have okF := okD.close (.deferred none) hFB hZB (by dsimp only; omega)
  have hrt := RT.only (r := [(q, AcF (AZ k v)), (n3, .box Ej [.h q])]) [q] _ _ _ _ _ _ okF
  simp only [ER, Aa] at hrt
  obtain ⟨Z7, F7, ok7, z7⟩ := hrt
  simp only [Ro, Rs] at ho6
  refine ⟨by simp, .inl ⟨_, _, rfl, run_takeDeferred hBo, ?_⟩⟩
  exact ⟨_, results_tmp rfl _ _ _, _, rfl, .h q, _, _, Z7, T', ⟨F7, ok7⟩, by simp only [Rs]; exact ho6.1, q, by omega, hq2, rfl, rfl⟩
theorem AhJ (k : Nat) (v : Bs) (hk : 1 ≤ k) (hk2 : k ≤ 1000) (hv : v.length ≤ 1000000) : Ed Tryz.prog Ov [iD k, Bv v] (CG (AZ k v)) :=
 (AhI k v hk hk2 hv).fn (UG _).1 (by rw [(UG _).2])
/-! ### new matrices are owned -/
def JP : List Value → Nat → Nat
 | [], _ => 0
 | u :: vs, b => own u b + JP vs b
theorem PE {b : Nat} : ∀ {vs : List Value}, 0 < JP vs b → ∃ (j : Nat) (u : Value), vs[j]? = some u ∧ blk u = some b
 | [], h => by simp [JP] at h
 | u :: vs, h => by
  simp only [JP] at h
  by_cases hu : blk u = some b
  ·exact ⟨0, u, rfl, hu⟩
  ·rw [QM hu] at h
   obtain ⟨j, x, h1, h2⟩ := PE (vs := vs) (b := b) (by omega)
   exact ⟨j + 1, x, by simpa using h1, h2⟩
theorem Zv {b : Nat} : ∀ {vs : List Value}, (∀ (i j : Nat) (u v : Value), i ≠ j → vs[i]? = some u → vs[j]? = some v → blk u = some b → blk v ≠ some b) → JP vs b ≤ 1
 | [], h => by simp [JP]
 | u :: vs, h => by
  have ih := Zv (vs := vs) fun i j x y hij hx hy => h (i + 1) (j + 1) x y (by omega) (by simpa using hx) (by simpa using hy)
  have h1 := QN u b
  simp only [JP]
  by_cases hu : blk u = some b
  ·rcases Nat.eq_zero_or_pos (JP vs b) with h0 | h0
   ·rw [h0]; exact h1
   ·obtain ⟨j, x, hx, hb⟩ := PE h0
    exact absurd hb (h 0 (j + 1) u x (by omega) rfl (by simpa using hx) hu)
  ·rw [QM hu]; omega
theorem Afp {w : World} {Z : Nat → Prop} {T : Nat → Option Value} : ∀ {vs : List Value} {m : LL}, vs.length = m.length → (∀ (j : Nat) (u : Value) (x : Bs), vs[j]? = some u → m[j]? = some x → Ow w tU8 1 u x.length (x.map U8)) → RoL w Z T (m.map Ar) vs (JP vs)
 | [], [], _, _ => by simp only [List.map_nil, RoL]; exact ⟨trivial, fun _ => rfl⟩
 | [], _ :: _, h, _ => by simp at h
 | _ :: _, [], h, _ => by simp at h
 | u :: vs, x :: m, h, k => by
  simp only [List.map_cons, RoL]
  refine ⟨u, vs, own u, JP vs, rfl, ?_, Afp (by simpa using h) (fun j y z hy hz => k (j + 1) y z (by simpa using hy) (by simpa using hz)), fun b => rfl⟩
  simp only [Ro]
  have hm : x.map bD = (x.map U8).map D.sc := by rw [List.map_map]; rfl
  exact ⟨x.map U8, fun _ => 0, k 0 u x rfl rfl, by rw [hm]; exact RoL.of (RsL.sc _), fun b => by simp⟩
theorem DV.ro {w : World} {B : Nat} {r : Value} {m : LL} (h : DV B w r m) (Z : Nat → Prop) (T : Nat → Option Value) : r.oneCell' = true ∧ ∃ G, Ro w Z T (AcF m) r G ∧ ∀ b, G b ≤ 1 ∧ (0 < G b → B ≤ b ∧ b < w.heap.size) := by
 obtain ⟨vs, h1, h2, h3⟩ := h
 have hob : r.ownBlock = blk r := Ow.own h1.spine
 have hrow : ∀ (j : Nat) (u : Value), vs[j]? = some u → u.ownBlock = blk u := fun j u hu => by
  have hj : j < m.length := by rw [← h1.len]; exact (List.getElem?_eq_some_iff.1 hu).1
  exact Ow.own (h1.row j u m[j] hu (List.getElem?_eq_getElem hj))
 refine ⟨by rcases Ow.form h1.spine with ⟨rfl, _⟩ | ⟨_, _, _, rfl, _⟩ <;> rfl, fun b => JP vs b + own r b, ?_, fun b => ?_⟩
 ·simp only [Ro]
  exact ⟨vs, JP vs, h1.spine, Afp h1.len h1.row, fun b => rfl⟩
 ·have hle := Zv (b := b) (vs := vs) fun i j u v hij hu hv hb => by
   rw [← hrow j v hv]
   exact h2.rows i j u v b hij hu hv (by rw [hrow i u hu]; exact hb)
  have hor := QN r b
  have hhas : 0 < JP vs b + own r b → Has r vs b := fun hp => by
   by_cases hr : blk r = some b
   ·exact .inl (by rw [hob]; exact hr)
   ·rw [QM hr] at hp
    obtain ⟨j, u, hu, hb⟩ := PE (vs := vs) (b := b) (by omega)
    exact .inr ⟨j, u, hu, by rw [hrow j u hu]; exact hb⟩
  refine ⟨?_, fun hp => ⟨h3 b (hhas hp), h1.lt (hhas hp)⟩⟩
  show JP vs b + own r b ≤ 1
  by_cases hr : blk r = some b
  ·rcases Nat.eq_zero_or_pos (JP vs b) with h0 | h0
   ·omega
   ·obtain ⟨j, u, hu, hb⟩ := PE h0
    exact absurd (by rw [hob]; exact hr) (h2.spine j u b hu (by rw [hrow j u hu]; exact hb))
  ·rw [QM hr]; omega
theorem mmul_o (a b : LL) (ra : ED a) (rb : ED b) (sa : Oo a) (sb : Oo b) : NZ Tryz.prog Jn [CG a, CG b] (fun i => .h i) (AcF (G5 a b)) :=
 Aiu fun w Z T vs hz hrs => by
  obtain ⟨v, u, rfl, hv, hu⟩ := QF hrs
  refine (X4 (UE hv hz) (UE hu hz) (Nat.le_refl _) (Nat.le_refl _) ra rb sa sb).mono fun en w' ⟨r, he, hm, hf⟩ => ⟨r, he, hf, (hm.ro Z T).1, fun T' => (hm.ro Z T').2⟩
/-! ### shapes -/
abbrev shD (K F : Int) : D := .agg [iD K, iD F]
def FX (K F : Int) : Bool := decide (1 ≤ K) && (decide (K ≤ 7) && (decide (0 ≤ F) && (decide (F ≤ 7) && decide (K + 2 * F ≤ 7))))
theorem Lj {K F : Int} : FX K F = true ↔ ∃ k f : Nat, K = k ∧ F = f ∧ CP k f := by
 simp only [FX, Bool.and_eq_true, decide_eq_true_eq]
 constructor
 ·rintro ⟨h1, h2, h3, h4, h5⟩
  exact ⟨K.toNat, F.toNat, by omega, by omega, ⟨by omega, by omega⟩⟩
 ·rintro ⟨k, f, rfl, rfl, h⟩
  have := h.k; have := h.n
  omega
theorem Ui (K F : Int) : Ed Tryz.prog IA [shD K F] (Ak (FX K F)) := by
 intro nx
 refine AU Abx (by simp only [m_code_Right, List.length]; decide) ?_
 simp only [m_code_Right]; refine WK ?_; try with_reducible exact trivial
 refine brd (fun h0 => ?_) (fun h0 => ?_)
 rotate_left
 ·refine WK ?_; try with_reducible exact trivial
  rw [show FX K F = false from by simp only [FX, Bool.and_eq_false_imp, decide_eq_true_eq, decide_eq_false_iff_not]; omega]
  exact BU ⟨rfl, rfl⟩
 refine WK ?_; try with_reducible exact trivial
 refine brd (fun h1 => ?_) (fun h1 => ?_)
 rotate_left
 ·refine WK ?_; try with_reducible exact trivial
  rw [show FX K F = false from by simp only [FX, Bool.and_eq_false_imp, decide_eq_true_eq, decide_eq_false_iff_not]; omega]
  exact BU ⟨rfl, rfl⟩
 refine WK ?_; try with_reducible exact trivial
 refine brd (fun h2 => ?_) (fun h2 => ?_)
 rotate_left
 ·refine WK ?_; try with_reducible exact trivial
  rw [show FX K F = false from by simp only [FX, Bool.and_eq_false_imp, decide_eq_true_eq, decide_eq_false_iff_not]; omega]
  exact BU ⟨rfl, rfl⟩
 refine WK ?_; try with_reducible exact trivial
 refine brd (fun h3 => ?_) (fun h3 => ?_)
 rotate_left
 ·refine WK ?_; try with_reducible exact trivial
  rw [show FX K F = false from by simp only [FX, Bool.and_eq_false_imp, decide_eq_true_eq, decide_eq_false_iff_not]; omega]
  exact BU ⟨rfl, rfl⟩
 refine WK ?_; try with_reducible exact trivial
 rw [show FX K F = decide (K + 2 * F ≤ 7) from by simp only [FX, IB h0, IB h1, IB h2, IB h3, Bool.true_and]]
 exact BU ⟨rfl, rfl⟩
theorem ZE (K F : Int) : Ed Tryz.prog Ou [shD K F] (Ak (FX K F)) := by
 intro nx
 refine AU Ze (by simp only [m_ref05_Right, List.length]; decide) ?_
 simp only [m_ref05_Right]; refine WK ?_; try with_reducible exact trivial
 refine brd (fun h0 => ?_) (fun h0 => ?_)
 rotate_left
 ·refine WK ?_; try with_reducible exact trivial
  rw [show FX K F = false from by simp only [FX, Bool.and_eq_false_imp, decide_eq_true_eq, decide_eq_false_iff_not]; omega]
  exact BU ⟨rfl, rfl⟩
 refine WK ?_; try with_reducible exact trivial
 refine brd (fun h1 => ?_) (fun h1 => ?_)
 rotate_left
 ·refine WK ?_; try with_reducible exact trivial
  rw [show FX K F = false from by simp only [FX, Bool.and_eq_false_imp, decide_eq_true_eq, decide_eq_false_iff_not]; omega]
  exact BU ⟨rfl, rfl⟩
 refine WK ?_; try with_reducible exact trivial
 refine brd (fun h2 => ?_) (fun h2 => ?_)
 rotate_left
 ·refine WK ?_; try with_reducible exact trivial
  rw [show FX K F = false from by simp only [FX, Bool.and_eq_false_imp, decide_eq_true_eq, decide_eq_false_iff_not]; omega]
  exact BU ⟨rfl, rfl⟩
 refine WK ?_; try with_reducible exact trivial
 refine brd (fun h3 => ?_) (fun h3 => ?_)
 rotate_left
 ·refine WK ?_; try with_reducible exact trivial
  rw [show FX K F = false from by simp only [FX, Bool.and_eq_false_imp, decide_eq_true_eq, decide_eq_false_iff_not]; omega]
  exact BU ⟨rfl, rfl⟩
 refine WK ?_; try with_reducible exact trivial
 rw [show FX K F = decide (K + F + F ≤ 7) from by
  rw [Bool.eq_iff_iff]
  simp only [FX, Bool.and_eq_true, decide_eq_true_eq]
  omega]
 exact BU ⟨rfl, rfl⟩
theorem nS_d (K F : Int) : Ed Tryz.prog L8 [shD K F] (iD (if FX K F then K + 2 * F else 0)) := by
 intro nx
 refine AU AiJ (by simp only [m_code_N, List.length]; decide) ?_
 simp only [m_code_N]; refine WK ?_; try with_reducible exact trivial
 refine BH (Ui K F) fun n1 h1 => ?_
 cases h : FX K F with
 | false =>
  refine WK ?_; try with_reducible exact trivial
  exact BU ⟨rfl, rfl⟩
 | true =>
  obtain ⟨k, f, rfl, rfl, hs⟩ := Lj.1 h
  have := hs.k; have := hs.n
  refine WK ?_; try with_reducible exact trivial
  exact BU ⟨rfl, rfl⟩
theorem AaW {k f : Nat} (h : CP k f) : Ed Tryz.prog L8 [shD k f] (iD ((k + 2 * f : Nat) : Int)) := by
 have := nS_d k f
 rw [Lj.2 ⟨k, f, rfl, rfl, h⟩, if_pos rfl] at this
 exact this
theorem Tm {k f : Nat} (h : CP k f) : Ed Tryz.prog IA [shD k f] (Ak true) := by
 have := Ui k f
 rwa [Lj.2 ⟨k, f, rfl, rfl, h⟩] at this
theorem rnS_d (K F : Int) (hK : -1000 ≤ K ∧ K ≤ 1000) (hF : -1000 ≤ F ∧ F ≤ 1000) : Ed Tryz.prog RX [shD K F] (iD (K + F + F)) := by
 intro nx
 refine AU AgY (by simp only [m_ref05_N, List.length]; decide) ?_
 simp only [m_ref05_N]; refine WK ?_; try with_reducible exact trivial
 exact BU ⟨rfl, rfl⟩
theorem Afw {k : Nat} (h1 : 1 ≤ k) (h2 : k ≤ 7) {v : Bs} (hv : v.length ≤ 512) : ED (AZ k v) ∧ Oo (AZ k v) ∧ (AZ k v).length = k := by
 obtain ⟨r, w, l⟩ := Jl (k := k) (by omega) v
 have := DY (k := k) v.length (by omega)
 exact ⟨r, r.small (by omega) (by omega), l⟩
theorem Aim {k f : Nat} (h : CP k f) (v : Bs) (hv : v.length ≤ 512) : NZ Tryz.prog Hz [shD k f, Bv v] (fun i => .tup [.h i, iD 0]) (AcF (encode k f v)) := by
 have hk := h.k; have hn := h.n
 have e : (⟨v.toArray⟩ : ByteArray).size = v.length := by simp [ByteArray.size]
 obtain ⟨rp, sp, lp⟩ := Afw hk (by omega) hv
 obtain ⟨rc, wc⟩ := Js (k := k) (n := k + 2 * f) (by omega) (by omega)
 intro nx
 refine AU SY (by simp only [m_code_Encode, List.length]; decide) ?_
 simp only [m_code_Encode]; refine WK ?_; try with_reducible exact trivial
 refine BH (Tm h) fun n1 h1 => ?_
 refine WKX @e ?_; try with_reducible exact trivial
 refine BH (AaW h) fun n2 h2 => ?_
 refine WK ?_; try with_reducible exact trivial
 refine BH (Adn k (k + 2 * f) (by omega) (by omega)) fun n3 h3 => ?_
 refine WK ?_; try with_reducible exact trivial
 refine BH (AhJ k v (by omega) (by omega) (by omega)) fun n4 h4 => ?_
 refine WK ?_; try with_reducible exact trivial
 refine O5 (mmul_o _ _ rc rp (rc.small (by rw [EL]; omega) (by omega)) sp) fun i n5 h5 h6 => ?_
 refine WK ?_; try with_reducible exact trivial
 refine IM [i] (t := .mk _) ?_
 simp only [ER, Aa]
 exact Dc ⟨i, by omega, h6, rfl, rfl⟩
theorem Ym {k f : Nat} (h : CP k f) (v : Bs) (hv : v.length ≤ 512) : Ed Tryz.prog Hz [shD k f, Bv v] (.tup [CG (encode k f v), iD 0]) :=
 (Aim h v hv).fn2 (UG _).1 (by rw [(UG _).2])
theorem Yn (K F : Int) (h : FX K F = true) (v : Bs) (hv : 512 < v.length) : Ed Tryz.prog Hz [shD K F, Bv v] (.tup [CG [], iD 7]) := by
 have e : (⟨v.toArray⟩ : ByteArray).size = v.length := by simp [ByteArray.size]
 intro nx
 refine AU SY (by simp only [m_code_Encode, List.length]; decide) ?_
 simp only [m_code_Encode]; refine WK ?_; try with_reducible exact trivial
 refine BH (Ui K F) fun n1 h1 => ?_
 rw [h]
 refine WKX @e ?_; try with_reducible exact trivial
 refine EE (t' := .mk _) ?_
 exact BU ⟨rfl, rfl⟩
theorem Qv (v : Bs) : (⟨v.toArray⟩ : ByteArray).size = v.length := by simp [ByteArray.size]
def Xw (b : Bs) : D := match Gw b with
 | some (v, _) => .tup [Bv v, Ak (decide (v.length ≤ 512))]
 | none => .tup [Bv [], Ak false]
theorem Ai2 (p : LL) (hl : p.length ≤ 1000000) (hf : p.flatten.length ≤ 1000000) : Ed Tryz.prog PZ [CG p] (Xw p.flatten) := by
 intro nx
 refine AU Abv (by simp only [m_code_value, List.length]; decide) ?_
 simp only [m_code_value]; refine WK ?_; try with_reducible exact trivial
 refine BH (Yz p (by omega) (by omega)) fun n1 h1 => ?_
 refine WK ?_; try with_reducible exact trivial
 refine BH (VO p.flatten (by omega)) fun n2 h2 => ?_
 cases h : Gw p.flatten with
 | none =>
  refine WK ?_; try with_reducible exact trivial
  rw [Xw, h]
  exact BU ⟨rfl, rfl⟩
 | some q =>
  obtain ⟨v, rest⟩ := q
  have hv : v.length ≤ p.flatten.length := by
   unfold Gw at h
   split at h
   ·cases h
   ·split at h
    ·cases h
    ·cases h
     rw [List.length_take, List.length_drop]
     omega
  dsimp only
  simp -dsimp (disch := omega) only [↓MC.xwp, ↓BM, ↓xdr, ↓MOp.xwp, dvs, dv, dvu, dvo, dvp, dgb, dGd, DN, cond_true, cond_false, FZ, Be, CU, Di, Dv, Dl, ptr, bsc, cv, uo, uof, Bj, xpr, DF, EF, FB, E8, F9, FK, Gf, xst, xgp, glc, FW, DL, FU, FV, FQ, FT, DK, FP, FC, FO, DI, DJ, BV, DC, E5, dsl, dif, BK, CE, BB, scs, rowOf, Az, dtk, Du, BF, pev, Bz, BC, Aq, BD, psl, Bc, ↓Dx, ↓BZ, ↓FH, ↓EY, Dp, Ff, E9, Df, Bq, kp, C9, Dk, ES, Dj, Fj, CV, AB, Bi, nb, ET, BL, AY, apart, Af, AX, heldOk, Op.operands, Nat.reduceAdd, forall_eq_or_imp, D.plain, reduceCtorEq, if_true, if_false, ↓reduceIte, ne_eq, Bool.cond_true, Bool.cond_false, forall_const, implies_true, forall_eq, Int.reduceEq, Int.reduceLT, Int.reduceLE, Int.reduceAdd, Int.reduceSub, Int.reduceMul, Int.reduceToNat, Nat.reduceMul, Nat.reduceLeDiff, Nat.reduceLT, Nat.reduceSub, Nat.reduceBEq, Nat.reduceEqDiff, CG, bytesD, iD, BP, Ak, Bv, bD, DB, Qv]
  rw [Xw, h]
  refine BU ⟨?_, rfl⟩
  dsimp only
  rw [show decide ((v.length : Int) ≤ 512) = decide (v.length ≤ 512) from by simp only [decide_eq_decide]; omega]
theorem AiT {k f : Nat} (h : CP k f) (v : Bs) (l : LL) (hl : l.length = k + 2 * f) (hw : ∀ x ∈ l, x.length ≤ 1000000) : Ed Tryz.prog Ox [shD k f, Bv v, CG l] (Ak (decide (v.length ≤ 512) && LW k f v l)) := by
 have hk := h.k; have hn := h.n
 intro nx
 refine AU Zk (by simp only [m_code_agrees, List.length]; decide) ?_
 simp only [m_code_agrees]; refine WK ?_; try with_reducible exact trivial
 by_cases hv : v.length ≤ 512
 ·refine BH (Ym h v hv) fun n1 h1 => ?_
  obtain ⟨re, we, le⟩ := BR h v
  refine WK ?_; try with_reducible exact trivial
  refine BH (Afc l (by omega)) fun n2 h2 => ?_
  rw [IB hv, Bool.true_and]
  have hte := Ab3 l
  refine WK ?_; try with_reducible exact trivial
  refine Gu [2, 7, 20, 21, 22] (fun s : Nat × Nat => ([(2, CG l), (7, CG (encode k f v)), (20, BP (BJ l)), (21, iD (BJ l).length), (22, iD s.1)], [], s.2)) (fun s => s.1 ≤ (BJ l).length ∧ ∀ x ∈ (BJ l).take s.1, rowAt (encode k f v) x = rowAt l x) (fun s => (BJ l).length - s.1) (0, n2) ⟨by dsimp only; omega, by simp⟩ ((Ent.only [] _ _ _).trans (Ent.of (by with_unfolding_all rfl) rfl)) ?_
  rintro ⟨j, n9⟩ ⟨hj, hz⟩
  dsimp only at hj hz ⊢
  by_cases hlt : j < (BJ l).length
  ·have hmem : gt (BJ l) j ∈ BJ l := by rw [G8 hlt]; exact List.getElem_mem hlt
   obtain ⟨i, hi, hil, hine⟩ := PD.1 hmem
   have hgl : gt l i = rowAt l (i : Int) := rfl
   have hge : gt (encode k f v) i = rowAt (encode k f v) (i : Int) := rfl
   refine WKX @hi ?_; try with_reducible exact trivial
   refine BH (Abd (gt (encode k f v) i) (gt l i) ?_) fun n3 h3 => ?_
   ·have := AeI h v (i := i) (by omega)
    have := DY (k := k) v.length (by omega)
    show ((encode k f v).getD i []).length ≤ _
    omega
   refine WK ?_; try with_reducible exact trivial
   refine brn (fun hne => ?_) (fun heq => ?_)
   ·refine WK ?_; try with_reducible exact trivial
    have : LW k f v l = false := by
     rw [Bool.eq_false_iff]
     intro ha
     exact hne (Rl.1 ha i hil hine)
    rw [this]
    exact BU ⟨rfl, rfl⟩
   ·refine WK ?_; try with_reducible exact trivial
    refine ⟨(j + 1, n3), ⟨by dsimp only; omega, ?_⟩, by dsimp only; omega, (Ent.of (by with_unfolding_all rfl) rfl)⟩
    ·dsimp only
     rw [LG hlt]
     intro x hx
     rcases List.mem_append.1 hx with hx | hx
     ·exact hz x hx
     ·simp only [List.mem_singleton] at hx
      subst hx
      rw [hi]
      exact heq
  ·have hjl : j = (BJ l).length := by omega
   subst hjl
   rw [List.take_length] at hz
   refine WK ?_; try with_reducible exact trivial
   have : LW k f v l = true := Rl.2 fun i hi hne => hz (i : Int) (PD.2 ⟨i, rfl, hi, hne⟩)
   rw [this]
   exact BU ⟨rfl, rfl⟩
 ·refine BH (Yn k f (Lj.2 ⟨k, f, rfl, rfl, h⟩) v (by omega)) fun n1 h1 => ?_
  rw [KQ hv, Bool.false_and]
  refine WK ?_; try with_reducible exact trivial
  exact BU ⟨rfl, rfl⟩
theorem Yi {b : Nat} : ∀ {m : LL}, (∀ x ∈ m, x.length ≤ b) → m.flatten.length ≤ m.length * b
 | [], _ => by simp
 | x :: m, h => by
  have ih := Yi (b := b) (m := m) (fun y hy => h y (List.mem_cons_of_mem _ hy))
  have h1 := h x (by simp)
  rw [List.flatten_cons, List.length_append, List.length_cons, Nat.succ_mul]
  omega
def VJ (p : Bs × Nat) : D := .tup [Bv p.1, iD p.2]
theorem Ac9 {k f : Nat} (h : CP k f) (l : LL) (hl : l.length ≤ 1000) (hw : ∀ x ∈ l, x.length ≤ 1000) : Ed Tryz.prog LV [shD k f, CG l] (VJ (decode k f l)) := by
 have hk := h.k; have hn := h.n
 intro nx
 refine AU Zl (by simp only [m_code_Decode, List.length]; decide) ?_
 simp only [m_code_Decode]; refine WK ?_; try with_reducible exact trivial
 refine BH (Tm h) fun n1 h1 => ?_
 refine WK ?_; try with_reducible exact trivial
 refine BH (AaW h) fun n2 h2 => ?_
 refine WK ?_; try with_reducible exact trivial
 refine brn (fun hne => ?_) (fun heq => ?_)
 ·refine WK ?_; try with_reducible exact trivial
  rw [decode, if_pos (by omega)]
  exact BU ⟨rfl, rfl⟩
 ·have hln : l.length = k + 2 * f := by omega
  refine WK ?_; try with_reducible exact trivial
  refine BH (Afc l (by omega)) fun n3 h3 => ?_
  have hte := Ab3 l
  refine WK ?_; try with_reducible exact trivial
  refine brd (fun hs => ?_) (fun hs => ?_)
  ·refine WK ?_; try with_reducible exact trivial
   rw [decode, if_neg (by omega), if_pos (by omega)]
   exact BU ⟨rfl, rfl⟩
  ·have hck : ¬ (BJ l).length < k := by omega
   have hlen : ((BJ l).take k).length = k := by rw [List.length_take]; omega
   have hb : ∀ x ∈ (BJ l).take k, 0 ≤ x ∧ x < ((k + 2 * f : Nat) : Int) := fun x hx => by
    have := Ag9 x (List.mem_of_mem_take hx)
    omega
   have hinl : ((BJ l).take k).all (inR l) = true := List.all_eq_true.2 fun x hx => Aa0 (by rw [hln]; exact hb x hx)
   have hfl : (pick l ((BJ l).take k)).length = k := by rw [pick, if_pos hinl, List.length_map, hlen]
   have hfw : ∀ x ∈ pick l ((BJ l).take k), x.length ≤ 1000 := fun x hx => by
    rw [pick, if_pos hinl] at hx
    obtain ⟨y, hy, rfl⟩ := List.mem_map.1 hx
    have := hb y hy
    rw [rowAt, Bf [] (by omega)]
    exact hw _ (List.getElem_mem _)
   obtain ⟨rk, wk⟩ := (Ur hlen hb).2.right (by omega)
   have sk := (Ur hlen hb).2
   have ek : D.sl k (((BJ l).map iD).take k) = BP ((BJ l).take k) := by
    rw [← List.map_take, BP, hlen]
   have ek2 : D.sl k (((BJ l).map fun n => D.sc (Value.int .i64 n)).take k) = BP ((BJ l).take k) := ek
   refine WKX @ek2 ?_; try with_reducible exact trivial
   refine BH (Ahy l ((BJ l).take k) (by omega) (fun x hx => by have := hw x hx; omega) (by omega)) fun n4 h4 => ?_
   refine WK ?_; try with_reducible exact trivial
   refine BH (Ajq (pick l ((BJ l).take k)) (by omega)) fun n5 h5 => ?_
   cases hr : NC (pick l ((BJ l).take k)) with
   | false =>
    refine WK ?_; try with_reducible exact trivial
    rw [decode, if_neg (by omega), if_neg hck, if_pos hr]
    exact BU ⟨rfl, rfl⟩
   | true =>
    refine WKX @ek2 ?_; try with_reducible exact trivial
    refine BH (AaW h) fun n6 h6 => ?_
    refine WKX @ek2 ?_; try with_reducible exact trivial
    refine BH (Adn k (k + 2 * f) (by omega) (by omega)) fun n7 h7 => ?_
    refine WKX @ek2 ?_; try with_reducible exact trivial
    refine BH (Ahy (DX k (k + 2 * f)) ((BJ l).take k) (by rw [EL]; omega) (fun x hx => by rw [Kt k (k + 2 * f) x hx]; omega) (by omega)) fun n8 h8 => ?_
    refine WK ?_; try with_reducible exact trivial
    refine BH (Ah5 _ rk (rk.small (by rw [sk.len]; omega) (by omega))) fun n9 h9 => ?_
    cases hi : IR (pick (DX k (k + 2 * f)) ((BJ l).take k)) with
    | none =>
     simp -dsimp (disch := omega) only [↓MC.xwp, ↓BM, ↓xdr, ↓MOp.xwp, dvs, dv, dvu, dvo, dvp, dgb, dGd, DN, cond_true, cond_false, FZ, Be, CU, Di, Dv, Dl, ptr, bsc, cv, uo, uof, Bj, xpr, DF, EF, FB, E8, F9, FK, Gf, xst, xgp, glc, FW, DL, FU, FV, FQ, FT, DK, FP, FC, FO, DI, DJ, BV, DC, E5, dsl, dif, BK, CE, BB, scs, rowOf, Az, dtk, Du, BF, pev, Bz, BC, Aq, BD, psl, Bc, ↓Dx, ↓BZ, ↓FH, ↓EY, Dp, Ff, E9, Df, Bq, kp, C9, Dk, ES, Dj, Fj, CV, AB, Bi, nb, ET, BL, AY, apart, Af, AX, heldOk, Op.operands, Nat.reduceAdd, forall_eq_or_imp, D.plain, reduceCtorEq, if_true, if_false, ↓reduceIte, ne_eq, Bool.cond_true, Bool.cond_false, forall_const, implies_true, forall_eq, Int.reduceEq, Int.reduceLT, Int.reduceLE, Int.reduceAdd, Int.reduceSub, Int.reduceMul, Int.reduceToNat, Nat.reduceMul, Nat.reduceLeDiff, Nat.reduceLT, Nat.reduceSub, Nat.reduceBEq, Nat.reduceEqDiff, CG, bytesD, iD, BP, Ak, Bv, bD, DB, Option.getD_none, Option.isSome_none]
     rw [decode, if_neg (by omega), if_neg hck, if_neg (by rw [hr]; simp), hi]
     exact BU ⟨rfl, rfl⟩
    | some y =>
     obtain ⟨sy, e1, e2, _⟩ := Wx sk (by omega) hi
     obtain ⟨ry, wy⟩ := sy.right (by omega)
     obtain ⟨rf, _, wf⟩ : ED (pick l ((BJ l).take k)) ∧ True ∧ width (pick l ((BJ l).take k)) ≤ 1000 := by
      have rf := Agh hr
      exact ⟨rf, trivial, by rw [← rf.all _ (List.getElem_mem rf.pos)]; exact hfw _ (List.getElem_mem _)⟩
     obtain ⟨rm, wm, lm⟩ := Ir ry rf (by rw [wy, hfl])
     have hfb : (G5 y (pick l ((BJ l).take k))).flatten.length ≤ (G5 y (pick l ((BJ l).take k))).length * 1000 := Yi fun x hx => by rw [rm.all x hx, wm]; exact wf
     have hly : y.length = k := sy.len
     have hlm : (G5 y (pick l ((BJ l).take k))).length ≤ 7 := by omega
     have hfb2 : (G5 y (pick l ((BJ l).take k))).flatten.length ≤ 7000 := Nat.le_trans hfb (Nat.mul_le_mul_right 1000 hlm)
     simp -dsimp (disch := omega) only [↓MC.xwp, ↓BM, ↓xdr, ↓MOp.xwp, dvs, dv, dvu, dvo, dvp, dgb, dGd, DN, cond_true, cond_false, FZ, Be, CU, Di, Dv, Dl, ptr, bsc, cv, uo, uof, Bj, xpr, DF, EF, FB, E8, F9, FK, Gf, xst, xgp, glc, FW, DL, FU, FV, FQ, FT, DK, FP, FC, FO, DI, DJ, BV, DC, E5, dsl, dif, BK, CE, BB, scs, rowOf, Az, dtk, Du, BF, pev, Bz, BC, Aq, BD, psl, Bc, ↓Dx, ↓BZ, ↓FH, ↓EY, Dp, Ff, E9, Df, Bq, kp, C9, Dk, ES, Dj, Fj, CV, AB, Bi, nb, ET, BL, AY, apart, Af, AX, heldOk, Op.operands, Nat.reduceAdd, forall_eq_or_imp, D.plain, reduceCtorEq, if_true, if_false, ↓reduceIte, ne_eq, Bool.cond_true, Bool.cond_false, forall_const, implies_true, forall_eq, Int.reduceEq, Int.reduceLT, Int.reduceLE, Int.reduceAdd, Int.reduceSub, Int.reduceMul, Int.reduceToNat, Nat.reduceMul, Nat.reduceLeDiff, Nat.reduceLT, Nat.reduceSub, Nat.reduceBEq, Nat.reduceEqDiff, CG, bytesD, iD, BP, Ak, Bv, bD, DB, Option.getD_some, Option.isSome_some]
     refine BH (mmul_d y (pick l ((BJ l).take k)) ry rf (ry.small (by omega) (by omega)) (rf.small (by omega) wf)) fun m1 g1 => ?_
     refine WK ?_; try with_reducible exact trivial
     refine BH (Ai2 _ (by omega) (by omega)) fun m2 g2 => ?_
     have hdec : decode k f l = match Gw (G5 y (pick l ((BJ l).take k))).flatten with
       | none => ([], 2)
       | some (v, _) => if v.length ≤ 512 ∧ LW k f v l = true then (v, 0) else ([], 2) := by
      rw [decode, if_neg (by omega), if_neg hck, if_neg (by rw [hr]; simp), hi]
      try rfl
     cases hc : Gw (G5 y (pick l ((BJ l).take k))).flatten with
     | none =>
      rw [hc] at hdec
      rw [Xw, hc, hdec]
      refine WK ?_; try with_reducible exact trivial
      refine Aiy ?_
      refine WK ?_; try with_reducible exact trivial
      exact BU ⟨rfl, rfl⟩
     | some q =>
      obtain ⟨v, rest⟩ := q
      rw [hc] at hdec
      dsimp only at hdec
      rw [Xw, hc]
      dsimp only
      by_cases hv : v.length ≤ 512
      ·rw [IB hv]
       refine WK ?_; try with_reducible exact trivial
       refine BH (AiT h v l hln (fun x hx => by have := hw x hx; omega)) fun m3 g3 => ?_
       rw [IB hv, Bool.true_and]
       cases ha : LW k f v l with
       | false =>
        rw [hdec, if_neg (by rw [ha]; simp)]
        refine WK ?_; try with_reducible exact trivial
        exact BU ⟨rfl, rfl⟩
       | true =>
        rw [hdec, if_pos ⟨hv, ha⟩]
        refine WK ?_; try with_reducible exact trivial
        exact BU ⟨rfl, rfl⟩
      ·rw [KQ hv, hdec, if_neg (by simp [hv])]
       refine WK ?_; try with_reducible exact trivial
       refine Aiy ?_
       refine WK ?_; try with_reducible exact trivial
       exact BU ⟨rfl, rfl⟩
theorem Agl {k f : Nat} (h : CP k f) (v : Bs) (hv : v.length ≤ 512) : Ed Tryz.prog NL [shD k f, Bv v] (CG (encode k f v)) := by
 have hk := h.k; have hn := h.n
 obtain ⟨rp, sp, lp⟩ := Afw hk (by omega) hv
 obtain ⟨rc, wc⟩ := Js (k := k) (n := k + 2 * f) (by omega) (by omega)
 have hpl := Vs (k := k) (n := (Bl v).length) (by omega)
 have hpg := OV (k := k) (n := (Bl v).length) (by omega)
 have htl := EP v
 have hbl := LK (k := k) (by omega) v
 have hw1 := Po (k := k) v.length (by omega)
 have hw2 := DY (k := k) v.length (by omega)
 have hrm : Wi (RF k (k + 2 * f)) (AZ k v) = encode k f v := by
  rw [Tq, ← mul_eq rc rp]; rfl
 intro nx
 refine AU YG (by simp only [m_ref05_Encode, List.length]; decide) ?_
 simp only [m_ref05_Encode]; refine WK ?_; try with_reducible exact trivial
 refine O5 (Afo v (by omega)) fun i2 n2 hi2 hi2' => ?_
 refine WK ?_; try with_reducible exact trivial
 refine Gu [2, 5] (fun s : Nat × Nat × Nat => ([(2, .hp nx 0), (5, .h s.2.1)], [(s.2.1, Ar (Bl v ++ List.replicate s.1 0)), (nx, .box Ce [iD k, iD f])], s.2.2)) (fun s => s.1 + (Bl v).length ≤ FY k (Bl v).length ∧ nx < s.2.1 ∧ s.2.1 < s.2.2) (fun s => FY k (Bl v).length - (s.1 + (Bl v).length)) (0, i2, n2) ⟨by dsimp only; omega, by dsimp only; omega, hi2'⟩ ?_ ?_
 ·dsimp only
  rw [List.replicate_zero, List.append_nil]
  exact (Ent.of (by with_unfolding_all rfl) rfl)
 ·rintro ⟨m, i, n1⟩ ⟨hm, hi, hi'⟩
  dsimp only at hm hi hi' ⊢
  have hlen : (Bl v ++ List.replicate m (0 : UInt8)).length = (Bl v).length + m := by simp
  refine WKX @hlen ?_; try with_reducible exact trivial
  refine brn (fun hne => ?_) (fun heq => ?_)
  ·have hlt : m + (Bl v).length < FY k (Bl v).length := by
    rcases Nat.lt_or_ge (m + (Bl v).length) (FY k (Bl v).length) with h | h
    ·exact h
    ·exfalso
     have e1 : (Bl v).length + m = FY k (Bl v).length := by omega
     have e2 := ND (k := k) (n := (Bl v).length) (by omega)
     refine hne ?_
     rw [e1, e2]
     have : k * (FY k (Bl v).length / k) % k = 0 := Nat.mul_mod_right _ _
     omega
   simp -dsimp (disch := omega) only [↓MC.xwp, ↓BM, ↓xdr, ↓MOp.xwp, dvs, dv, dvu, dvo, dvp, dgb, dGd, DN, cond_true, cond_false, FZ, Be, CU, Di, Dv, Dl, ptr, bsc, cv, uo, uof, Bj, xpr, DF, EF, FB, E8, F9, FK, Gf, xst, xgp, glc, FW, DL, FU, FV, FQ, FT, DK, FP, FC, FO, DI, DJ, BV, DC, E5, dsl, dif, BK, CE, BB, scs, rowOf, Az, dtk, Du, BF, pev, Bz, BC, Aq, BD, psl, Bc, ↓Dx, ↓BZ, ↓FH, ↓EY, Dp, Ff, E9, Df, Bq, kp, C9, Dk, ES, Dj, Fj, CV, AB, Bi, nb, ET, BL, AY, apart, Af, AX, heldOk, Op.operands, Nat.reduceAdd, forall_eq_or_imp, D.plain, reduceCtorEq, if_true, if_false, ↓reduceIte, ne_eq, Bool.cond_true, Bool.cond_false, forall_const, implies_true, forall_eq, Int.reduceEq, Int.reduceLT, Int.reduceLE, Int.reduceAdd, Int.reduceSub, Int.reduceMul, Int.reduceToNat, Nat.reduceMul, Nat.reduceLeDiff, Nat.reduceLT, Nat.reduceSub, Nat.reduceBEq, Nat.reduceEqDiff, CG, bytesD, iD, BP, Ak, Bv, bD, DB, Nat.reduceDiv]
   refine NY (i := i) (m := 1) (l' := [bD 0]) elB (l := (Bl v ++ List.replicate m 0).map bD) (n := (Bl v ++ List.replicate m (0 : UInt8)).length) (by rw [Ac (by omega), Aa]) (JA.row (Aa _ _ _) (fun x hx => by simp only [List.mem_singleton] at hx; subst hx; exact YP 0)) rfl (by simp [BF, bD, U8, Value.oneCell']) (by omega) (by omega) (by simp) ?_
   refine WK ?_; try with_reducible exact trivial
   refine ⟨(m + 1, n1 + 1, n1 + 2), ⟨by dsimp only; omega, by dsimp only; omega, by dsimp only; omega⟩, by dsimp only; omega, ?_⟩
   refine (Ent.only [n1 + 1, nx] _ _ _).trans ?_
   refine WKR ?_; try with_reducible exact trivial
   have e : D.row tU8 1 ((Bl v ++ List.replicate m (0 : UInt8)).length + 1) ((Bl v ++ List.replicate m 0).map bD ++ [bD 0]) = Ar (Bl v ++ List.replicate (m + 1) 0) := by
    rw [List.replicate_succ', ← List.append_assoc]
    simp only [Ar, List.map_append, List.map_cons, List.map_nil, List.length_append, List.length_cons, List.length_nil]
   rw [← e]
   exact (Ent.of (by with_unfolding_all rfl) rfl)
  ·refine WK ?_; try with_reducible exact trivial
   have e1 : (Bl v).length + m = FY k (Bl v).length := ZL (by omega) (by omega) (by omega) (by omega)
   have e2 : Hq k (Bl v) = Bl v ++ List.replicate m 0 := by
    rw [Hq]
    congr 2
    omega
   rw [← e2]
   have e3 : ((Hq k (Bl v)).length : Int) / (k : Int) = ((BI k v.length : Nat) : Int) := by
    rw [hbl, Int.natCast_mul, Int.mul_ediv_cancel_left _ (by omega)]
   rw [e3, wrap_i64 (by omega)]
   refine Gu [2, 5, 6, 7, 8] (fun s : Nat × Nat × Nat => ([(2, .hp nx 0), (5, .h i), (6, iD (BI k v.length)), (7, .h s.2.1), (8, iD s.1)], [(s.2.1, .row Am 1 s.1 (((AZ k v).take s.1).map bytesD)), (i, bytesD (Hq k (Bl v))), (nx, .box Ce [iD k, iD f])], s.2.2)) (fun s => s.1 ≤ k ∧ i < s.2.1 ∧ s.2.1 < s.2.2) (fun s => k - s.1) (0, n1, n1 + 1) ⟨by dsimp only; omega, by dsimp only; omega, by dsimp only; omega⟩ ?_ ?_
   ·refine (Ent.of_rt (RT.frz i (Aa _ _ _) (by simp only [Jw]; exact (DU _).1))).trans ?_
    rw [Ba]
    simp only [frzR, frz, (DU _).2]
    refine (Ent.nil 7 Am 1 (by with_unfolding_all rfl) rfl).trans ?_
    exact (Ent.of (by with_unfolding_all rfl) rfl)
   ·rintro ⟨j, q, n5⟩ ⟨hj, hq, hq'⟩
    dsimp only at hj hq hq' ⊢
    by_cases hlt : j < k
    ·have hjw : j * BI k v.length + BI k v.length ≤ (Hq k (Bl v)).length := by
      rw [hbl, ← Nat.succ_mul]; exact Nat.mul_le_mul_right _ hlt
     have hb8 : (Hq k (Bl v)).length ≤ 1000 := by rw [PP (by omega)]; omega
     have e5 : (j : Int) * (BI k v.length : Int) = ((j * BI k v.length : Nat) : Int) := (Int.natCast_mul _ _).symm
     have e4 : ((j : Int) + 1) * (BI k v.length : Int) = ((j * BI k v.length + BI k v.length : Nat) : Int) := by
      rw [Int.add_mul, Int.one_mul, e5, Int.natCast_add]
     have e6 : D.sl (j * BI k v.length + BI k v.length - j * BI k v.length) (List.take (j * BI k v.length + BI k v.length - j * BI k v.length) (List.drop (j * BI k v.length) ((Hq k (Bl v)).map bD))) = bytesD (gt (AZ k v) j) := by
      rw [XW (by omega) v hlt, ← List.map_drop, ← List.map_take, Nat.add_sub_cancel_left]
      have : (((Hq k (Bl v)).drop (j * BI k v.length)).take (BI k v.length)).length = BI k v.length := by
       rw [List.length_take, List.length_drop]; omega
      simp only [bytesD, this]
     simp -dsimp (disch := omega) only [↓MC.xwp, ↓BM, ↓xdr, ↓MOp.xwp, dvs, dv, dvu, dvo, dvp, dgb, dGd, DN, cond_true, cond_false, FZ, Be, CU, Di, Dv, Dl, ptr, bsc, cv, uo, uof, Bj, xpr, DF, EF, FB, E8, F9, FK, Gf, xst, xgp, glc, FW, DL, FU, FV, FQ, FT, DK, FP, FC, FO, DI, DJ, BV, DC, E5, dsl, dif, BK, CE, BB, scs, rowOf, Az, dtk, Du, BF, pev, Bz, BC, Aq, BD, psl, Bc, ↓Dx, ↓BZ, ↓FH, ↓EY, Dp, Ff, E9, Df, Bq, kp, C9, Dk, ES, Dj, Fj, CV, AB, Bi, nb, ET, BL, AY, apart, Af, AX, heldOk, Op.operands, Nat.reduceAdd, forall_eq_or_imp, D.plain, reduceCtorEq, if_true, if_false, ↓reduceIte, ne_eq, Bool.cond_true, Bool.cond_false, forall_const, implies_true, forall_eq, Int.reduceEq, Int.reduceLT, Int.reduceLE, Int.reduceAdd, Int.reduceSub, Int.reduceMul, Int.reduceToNat, Nat.reduceMul, Nat.reduceLeDiff, Nat.reduceLT, Nat.reduceSub, Nat.reduceBEq, Nat.reduceEqDiff, CG, bytesD, iD, BP, Ak, Bv, bD, DB, e4, e5, Nat.reduceDiv]
     rw [e6]
     have htk : ((AZ k v).take j).map bytesD ++ [bytesD (gt (AZ k v) j)] = ((AZ k v).take (j + 1)).map bytesD := by
      rw [LG (by rw [lp]; exact hlt), List.map_append]; rfl
     refine NY (i := q) (m := 1) (l' := [bytesD (gt (AZ k v) j)]) elM (l := ((AZ k v).take j).map bytesD) (n := j) (by refine WK ?_; try with_reducible exact trivial) (JA.row (Aa _ _ _) (fun x hx => by simp only [List.mem_singleton] at hx; subst hx; simp only [bytesD, D.plain])) rfl (by simp [BF, bytesD, Value.oneCell']) (by omega) (by omega) (by simp) ?_
     refine WK ?_; try with_reducible exact trivial
     refine ⟨(j + 1, n5 + 1, n5 + 2), ⟨by dsimp only; omega, by dsimp only; omega, by dsimp only; omega⟩, by dsimp only; omega, ?_⟩
     rw [htk]
     refine (Ent.only [n5 + 1, i, nx] _ _ _).trans ?_
     refine WKR ?_; try with_reducible exact trivial
     exact (Ent.of (by with_unfolding_all rfl) rfl)
    ·have hjk : j = k := by omega
     subst hjk
     refine WK ?_; try with_reducible exact trivial
     refine BH (rnS_d j f (by omega) (by omega)) fun n h => ?_
     refine WK ?_; try with_reducible exact trivial
     rw [show (j : Int) + f + f = ((j + 2 * f : Nat) : Int) by omega]
     refine BH (Agq j (j + 2 * f) (by omega) (by omega)) fun n' h' => ?_
     refine WK ?_; try with_reducible exact trivial
     refine GM (t' := .mk _) q (Aa _ _ _) (fun x hx => ?_) (by simp) ?_
     ·simp only [List.mem_map] at hx
      obtain ⟨y, _, rfl⟩ := hx
      simp only [bytesD, D.plain]
     ·rw [Ba, List.take_of_length_le (show (AZ j v).length ≤ j by omega)]
      simp only [List.map_cons, List.map_nil, Dl, Aa]
      rw [show D.sl j ((AZ j v).map bytesD) = CG (AZ j v) by simp only [CG, lp]]
      refine BH (Ajo (RF j (j + 2 * f)) _ (by rw [Tq]; exact rc) rp (by rw [Tq]; exact rc.small (by rw [EL]; omega) (by omega)) sp) fun n'' h'' => ?_
      rw [hrm]
      refine WK ?_; try with_reducible exact trivial
      exact BU ⟨rfl, rfl⟩
def kOf (a b : UInt8) : Nat := 1 + a.toNat % (7 - 2 * (b.toNat % 4))
def fOf (b : UInt8) : Nat := b.toNat % 4
theorem Nw (a b : UInt8) : CP (kOf a b) (fOf b) := by
 have h1 : b.toNat % 4 < 4 := Nat.mod_lt _ (by decide)
 have h2 : a.toNat % (7 - 2 * (b.toNat % 4)) < 7 - 2 * (b.toNat % 4) := Nat.mod_lt _ (by omega)
 refine ⟨by unfold kOf; omega, by unfold kOf fOf; omega⟩
theorem QG (a b : UInt8) : Ed Tryz.prog Hy [bD a, bD b] (shD (kOf a b) (fOf b)) := by
 have h1 : b.toNat % 4 < 4 := Nat.mod_lt _ (by decide)
 have ha : a.toNat < 256 := a.toNat_lt
 have hb : b.toNat < 256 := b.toNat_lt
 have h2 : a.toNat % (7 - 2 * (b.toNat % 4)) < 7 - 2 * (b.toNat % 4) := Nat.mod_lt _ (by omega)
 intro nx
 refine AU Zb (by simp only [m_ref05_Shape, List.length]; decide) ?_
 simp -dsimp (disch := omega) only [↓MC.xwp, ↓BM, ↓xdr, ↓MOp.xwp, dvs, dv, dvu, dvo, dvp, dgb, dGd, DN, cond_true, cond_false, FZ, Be, CU, Di, Dv, Dl, ptr, bsc, cv, uo, uof, Bj, xpr, DF, EF, FB, E8, F9, FK, Gf, xst, xgp, glc, FW, DL, FU, FV, FQ, FT, DK, FP, FC, FO, DI, DJ, BV, DC, E5, dsl, dif, BK, CE, BB, scs, rowOf, Az, dtk, Du, BF, pev, Bz, BC, Aq, BD, psl, Bc, ↓Dx, ↓BZ, ↓FH, ↓EY, Dp, Ff, E9, Df, Bq, kp, C9, Dk, ES, Dj, Fj, CV, AB, Bi, nb, ET, BL, AY, apart, Af, AX, heldOk, Op.operands, Nat.reduceAdd, forall_eq_or_imp, D.plain, reduceCtorEq, if_true, if_false, ↓reduceIte, ne_eq, Bool.cond_true, Bool.cond_false, forall_const, implies_true, forall_eq, Int.reduceEq, Int.reduceLT, Int.reduceLE, Int.reduceAdd, Int.reduceSub, Int.reduceMul, Int.reduceToNat, Nat.reduceMul, Nat.reduceLeDiff, Nat.reduceLT, Nat.reduceSub, Nat.reduceBEq, Nat.reduceEqDiff, CG, bytesD, iD, BP, Ak, Bv, bD, DB, m_ref05_Shape, U8]
 have e2 : (7 : Int) - 2 * ((b.toNat : Int) % 4) = ((7 - 2 * (b.toNat % 4) : Nat) : Int) := by omega
 have e1 : (1 : Int) + (a.toNat : Int) % (7 - 2 * ((b.toNat : Int) % 4)) = ((kOf a b : Nat) : Int) := by
  rw [e2, kOf, ← Int.natCast_emod]; omega
 have e3 : (b.toNat : Int) % 4 = ((fOf b : Nat) : Int) := by rw [fOf]; omega
 have hk : kOf a b ≤ 7 := by unfold kOf; omega
 rw [e1, e3, wrap_i64 (by omega)]
 exact BU ⟨rfl, rfl⟩
theorem Ns (a : ByteArray) : D.sc (Value.string a) = Bv a.data.toList := by cases a; rfl
end Go.Proofs.YtgpkbldlkadnjaaGreat
end
section
namespace Go.Proofs.YtgpkbldlkadnjaaGreat
open Go Go.Sl
-- 11 shardlog/shardloglaw18.awake; Aw [(1, d), (2, l), (3, v), (4, e), (5, f), (6, g), (7, m)]
-- 14 shardlog/log.Open; Aw [(0, d), (1, d), (3, b), (4, e), (5, s), (6, n)]
-- 16 shardlog/shardlogref17.Right; Aw [(0, v), (1, v)]
-- 17 (*shardlog/log.Log).Promise; Aw [(0, l), (1, b), (2, l), (3, b), (5, rec), (6, e)]
-- 18 (*shardlog/log.Log).Vote; Aw [(0, l), (1, v), (2, l), (3, v), (5, rec), (6, e)]
-- 19 (*shardlog/log.Log).Compact; Aw [(0, l), (1, l), (3, e)]
-- 23 (*shardlog/log.Log).Promised; Aw [(0, l), (1, l)]
-- 25 (*shardlog/log.Log).Votes; Aw [(0, l), (1, l)]
-- 26 (*shardlog/log.Log).Size; Aw [(0, l), (1, l), (3, b), (4, _)]
-- 52 shardlog/log.scan; Aw [(0, b), (1, b), (4, s), (5, recs), (6, _), (7, n), (8, _), (9, r)]
-- 58 shardlog/slot.Promise; Aw [(0, b), (1, b)]
-- 59 (*shardlog/log.Log).add; Aw [(0, l), (1, rec), (2, l), (3, rec), (5, e)]
-- 60 shardlog/slot.Put; Aw [(0, v), (1, v)]
-- 61 shardlog/frame.All; Aw [(0, recs), (1, recs), (3, out), (4, _), (5, r)]
-- 62 (*shardlog/log.Log).all; Aw [(0, l), (1, l), (3, out), (4, rec), (5, e), (6, _), (7, v), (8, rec), (9, _)]
-- 66 shardlog/shardlogref06.Scan; Aw [(0, b), (1, b), (4, out), (5, at), (6, n), (7, rec)]
noncomputable def m_ref06_Scan : MF := ⟨70, [.t 2, .t 3],
 .seq (
 .ops [
 .p 2 .mv [(.const (.slice none 0 0))],
 .p 3 .mv [(.const (.int .i64 0))]]) (
 .seq (
 .ops [
 .p 4 .mv [(.const (.slice none 0 0))]]) (
 .seq (
 .ops [
 .p 5 .mv [(.const (.int .i64 0))]]) (
 .block 0 (
 .loop (
 .block 1 (
 .seq (
 .ops [
 .p 8 .mv [(.tmp 0)],
 .p 9 .mv [(.tmp 5)],
 .call (some 10) JV [(.tmp 8), (.tmp 9)],
 .p 6 .mv [(.tmp 10)]]) (
 .seq (
 .seq (
 .ops [
 .p 11 .mv [(.tmp 6)],
 .p 12 (.bin .lss) [(.tmp 11), (.const (.int .i64 0))],
 .p 13 .mv [(.tmp 12)],
 .gd 13 false (some 14) (.p 14 .mv [(.tmp 6)]),
 .gd 13 false (some 15) (.p 15 (.bin .gtr) [(.tmp 14), (.const (.int .i64 65535))]),
 .p 16 .pick [(.tmp 13), (.const (.bool true)), (.tmp 15)],
 .p 17 .mv [(.tmp 16)],
 .gd 17 false (some 18) (.p 18 .mv [(.tmp 5)]),
 .gd 17 false (some 19) (.p 19 (.bin .add) [(.tmp 18), (.const (.int .i64 12))]),
 .gd 17 false (some 20) (.p 20 .mv [(.tmp 6)]),
 .gd 17 false (some 21) (.p 21 (.bin .add) [(.tmp 19), (.tmp 20)]),
 .gd 17 false (some 22) (.p 22 .mv [(.tmp 0)]),
 .gd 17 false (some 23) (.p 23 .len [(.tmp 22)]),
 .gd 17 false (some 24) (.p 24 (.bin .gtr) [(.tmp 21), (.tmp 23)]),
 .p 25 .pick [(.tmp 17), (.const (.bool true)), (.tmp 24)]]) (
 .cond (.tmp 25) (
 .seq (
 .ops [
 .p 26 .mv [(.tmp 4)],
 .p 27 .mv [(.tmp 5)],
 .p 2 .mv [(.tmp 26)],
 .p 3 .mv [(.tmp 27)]]) (
 .ret)) (
 .skip))) (
 .seq (
 .ops [
 .p 28 .mv [(.tmp 0)],
 .p 29 .mv [(.tmp 5)],
 .p 30 (.bin .add) [(.tmp 29), (.const (.int .i64 12))],
 .p 31 .mv [(.tmp 5)],
 .p 32 (.bin .add) [(.tmp 31), (.const (.int .i64 12))],
 .p 33 .mv [(.tmp 6)],
 .p 34 (.bin .add) [(.tmp 32), (.tmp 33)],
 .p 35 (.sls 1 true true false) [(.tmp 28), (.tmp 30), (.tmp 34)],
 .p 7 .mv [(.tmp 35)]]) (
 .seq (
 .seq (
 .dr (
 .one ⟨.p 36 .mv [(.tmp 0)], []⟩ (
 .one ⟨.p 37 .mv [(.tmp 5)], []⟩ (
 .one ⟨.p 38 (.bin .add) [(.tmp 37), (.const (.int .i64 4))], []⟩ (
 .one ⟨.p 40 .mv [(.tmp 0)], []⟩ (
 .one ⟨.p 41 .mv [(.tmp 5)], []⟩ (
 .one ⟨.p 42 .mv [(.tmp 5)], []⟩ (
 .one ⟨.p 43 (.bin .add) [(.tmp 42), (.const (.int .i64 4))], []⟩ (
 .one ⟨.p 44 (.sls 1 true true false) [(.tmp 40), (.tmp 41), (.tmp 43)], []⟩ (
 .one ⟨.call (some 39) JV [(.tmp 36), (.tmp 38)], []⟩ (
 .one ⟨.call (some 45) J8 [(.tmp 44)], []⟩ (
 .one ⟨.p 46 (.conv .i64) [(.tmp 45)], []⟩ (
 .one ⟨.p 47 (.bin .neq) [(.tmp 39), (.tmp 46)], []⟩ (
 .one ⟨.p 48 .mv [(.tmp 47)], []⟩ (
 .one ⟨.gd 48 false (some 49) (.p 49 .mv [(.tmp 0)]), []⟩ (
 .one ⟨.gd 48 false (some 50) (.p 50 .mv [(.tmp 5)]), []⟩ (
 .one ⟨.gd 48 false (some 51) (.p 51 (.bin .add) [(.tmp 50), (.const (.int .i64 8))]), []⟩ (
 .one ⟨.gd 48 false (some 53) (.p 53 .mv [(.tmp 7)]), []⟩ (
 .one ⟨.gd 48 false (some 52) (.call (some 52) JV [(.tmp 49), (.tmp 51)]), []⟩ (
 .one ⟨.gd 48 false (some 54) (.call (some 54) J8 [(.tmp 53)]), []⟩ (
 .one ⟨.gd 48 false (some 55) (.p 55 (.conv .i64) [(.tmp 54)]), []⟩ (
 .one ⟨.gd 48 false (some 56) (.p 56 (.bin .neq) [(.tmp 52), (.tmp 55)]), []⟩ (
 .one ⟨.p 57 .pick [(.tmp 48), (.const (.bool true)), (.tmp 56)], []⟩ (
 .nil)))))))))))))))))))))))) (
 .cond (.tmp 57) (
 .seq (
 .ops [
 .p 58 .mv [(.tmp 4)],
 .p 59 .mv [(.tmp 5)],
 .p 2 .mv [(.tmp 58)],
 .p 3 .mv [(.tmp 59)]]) (
 .ret)) (
 .skip))) (
 .seq (
 .ops [
 .p 60 .mv [(.tmp 4)],
 .bsl 61 tU8 0 [] [] [],
 .p 62 .mv [(.tmp 7)],
 .app 63 #[Am, Am] Am (.tmp 61) (.tmp 62),
 .bsl 64 Am 1 [(.slice none 0 0)] [(0, 1)] [(.tmp 63)],
 .app 65 #[Ej, Ej] Ej (.tmp 60) (.tmp 64),
 .p 4 .mv [(.tmp 65)]]) (
 .ops [
 .p 66 .mv [(.tmp 5)],
 .p 67 (.bin .add) [(.tmp 66), (.const (.int .i64 12))],
 .p 68 .mv [(.tmp 6)],
 .p 69 (.bin .add) [(.tmp 67), (.tmp 68)],
 .p 5 .mv [(.tmp 69)]])))))))))))⟩

theorem Abp : trF Tryz.prog PX = some m_ref06_Scan := by kernel_rfl
-- 70 (*shardlog/log.says).sorted; Aw [(0, s), (1, s), (3, out), (4, _), (5, k)]
-- 77 shardlog/shardlogref01.TextAt; Aw [(0, b), (1, at), (2, b), (3, at), (6, n)]
noncomputable def m_ref01_TextAt : MF := ⟨32, [.t 4, .t 5],
 .seq (
 .ops [
 .p 4 .mv [(.const (.string .empty))],
 .p 5 .mv [(.const (.int .i64 0))]]) (
 .seq (
 .ops [
 .p 7 .mv [(.tmp 0)],
 .p 8 .mv [(.tmp 1)],
 .call (some 9) JV [(.tmp 7), (.tmp 8)],
 .p 6 .mv [(.tmp 9)]]) (
 .seq (
 .seq (
 .ops [
 .p 10 .mv [(.tmp 6)],
 .p 11 (.bin .lss) [(.tmp 10), (.const (.int .i64 0))],
 .p 12 .mv [(.tmp 11)],
 .gd 12 false (some 13) (.p 13 .mv [(.tmp 1)]),
 .gd 12 false (some 14) (.p 14 (.bin .add) [(.tmp 13), (.const (.int .i64 4))]),
 .gd 12 false (some 15) (.p 15 .mv [(.tmp 6)]),
 .gd 12 false (some 16) (.p 16 (.bin .add) [(.tmp 14), (.tmp 15)]),
 .gd 12 false (some 17) (.p 17 .mv [(.tmp 0)]),
 .gd 12 false (some 18) (.p 18 .len [(.tmp 17)]),
 .gd 12 false (some 19) (.p 19 (.bin .gtr) [(.tmp 16), (.tmp 18)]),
 .p 20 .pick [(.tmp 12), (.const (.bool true)), (.tmp 19)]]) (
 .cond (.tmp 20) (
 .seq (
 .ops [
 .p 4 .mv [(.const (.string .empty))],
 .p 5 .mv [(.const (.int .i64 0))]]) (
 .ret)) (
 .skip))) (
 .seq (
 .ops [
 .p 21 .mv [(.tmp 0)],
 .p 22 .mv [(.tmp 1)],
 .p 23 (.bin .add) [(.tmp 22), (.const (.int .i64 4))],
 .p 24 .mv [(.tmp 1)],
 .p 25 (.bin .add) [(.tmp 24), (.const (.int .i64 4))],
 .p 26 .mv [(.tmp 6)],
 .p 27 (.bin .add) [(.tmp 25), (.tmp 26)],
 .p 28 (.sls 1 true true false) [(.tmp 21), (.tmp 23), (.tmp 27)],
 .bs 29 (.tmp 28),
 .p 30 .mv [(.tmp 6)],
 .p 31 (.bin .add) [(.const (.int .i64 4)), (.tmp 30)],
 .p 4 .mv [(.tmp 29)],
 .p 5 .mv [(.tmp 31)]]) (
 .ret))))⟩

theorem YI : trF Tryz.prog NM = some m_ref01_TextAt := by kernel_rfl
-- 78 shardlog/shardlogref01.At; Aw [(0, b), (1, at), (2, b), (3, at)]
noncomputable def m_ref01_At : MF := ⟨39, [.t 4],
 .seq (
 .ops [
 .p 4 .mv [(.const (.int .i64 0))]]) (
 .seq (
 .seq (
 .ops [
 .p 5 .mv [(.tmp 1)],
 .p 6 (.bin .add) [(.tmp 5), (.const (.int .i64 4))],
 .p 7 .mv [(.tmp 0)],
 .p 8 .len [(.tmp 7)],
 .p 9 (.bin .gtr) [(.tmp 6), (.tmp 8)]]) (
 .cond (.tmp 9) (
 .seq (
 .ops [
 .p 4 .mv [(.const (.int .i64 (-1)))]]) (
 .ret)) (
 .skip))) (
 .seq (
 .dr (
 .one ⟨.p 10 .mv [(.tmp 0)], []⟩ (
 .one ⟨.p 11 .mv [(.tmp 1)], []⟩ (
 .one ⟨.p 12 (.ixs 1) [(.tmp 10), (.tmp 11)], []⟩ (
 .one ⟨.ld 13 (.tmp 12), []⟩ (
 .one ⟨.p 14 (.conv .i64) [(.tmp 13)], []⟩ (
 .one ⟨.p 15 (.bin .mul) [(.const (.int .i64 16777216)), (.tmp 14)], []⟩ (
 .one ⟨.p 16 .mv [(.tmp 0)], []⟩ (
 .one ⟨.p 17 .mv [(.tmp 1)], []⟩ (
 .one ⟨.p 18 (.bin .add) [(.tmp 17), (.const (.int .i64 1))], []⟩ (
 .one ⟨.p 19 (.ixs 1) [(.tmp 16), (.tmp 18)], []⟩ (
 .one ⟨.ld 20 (.tmp 19), []⟩ (
 .one ⟨.p 21 (.conv .i64) [(.tmp 20)], []⟩ (
 .one ⟨.p 22 (.bin .mul) [(.const (.int .i64 65536)), (.tmp 21)], []⟩ (
 .one ⟨.p 23 (.bin .add) [(.tmp 15), (.tmp 22)], []⟩ (
 .one ⟨.p 24 .mv [(.tmp 0)], []⟩ (
 .one ⟨.p 25 .mv [(.tmp 1)], []⟩ (
 .one ⟨.p 26 (.bin .add) [(.tmp 25), (.const (.int .i64 2))], []⟩ (
 .one ⟨.p 27 (.ixs 1) [(.tmp 24), (.tmp 26)], []⟩ (
 .one ⟨.ld 28 (.tmp 27), []⟩ (
 .one ⟨.p 29 (.conv .i64) [(.tmp 28)], []⟩ (
 .one ⟨.p 30 (.bin .mul) [(.const (.int .i64 256)), (.tmp 29)], []⟩ (
 .one ⟨.p 31 (.bin .add) [(.tmp 23), (.tmp 30)], []⟩ (
 .one ⟨.p 32 .mv [(.tmp 0)], []⟩ (
 .one ⟨.p 33 .mv [(.tmp 1)], []⟩ (
 .one ⟨.p 34 (.bin .add) [(.tmp 33), (.const (.int .i64 3))], []⟩ (
 .one ⟨.p 35 (.ixs 1) [(.tmp 32), (.tmp 34)], []⟩ (
 .one ⟨.ld 36 (.tmp 35), []⟩ (
 .one ⟨.p 37 (.conv .i64) [(.tmp 36)], []⟩ (
 .one ⟨.p 38 (.bin .add) [(.tmp 31), (.tmp 37)], []⟩ (
 .one ⟨.p 4 .mv [(.tmp 38)], []⟩ (
 .nil)))))))))))))))))))))))))))))))) (
 .ret)))⟩

theorem Ae1 : trF Tryz.prog JV = some m_ref01_At := by kernel_rfl
-- 101 shardlog/frame.Scan; Aw [(0, b), (1, b), (4, out), (5, all), (6, rec), (7, rest), (8, ok)]
-- 102 (*shardlog/log.says).take; Aw [(0, s), (1, rec), (2, s), (3, rec), (5, b), (6, v), (7, e)]
-- 103 shardlog/frame.Put; Aw [(0, rec), (1, rec), (3, n)]
noncomputable def m_frame_Put : MF := ⟨18, [.t 2],
 .seq (
 .ops [
 .p 2 .mv [(.const (.slice none 0 0))]]) (
 .seq (
 .seq (
 .ops [
 .p 4 .mv [(.tmp 0)],
 .p 5 .len [(.tmp 4)],
 .p 6 (.bin .gtr) [(.tmp 5), (.const (.int .i64 65535))]]) (
 .cond (.tmp 6) (
 .seq (
 .ops [
 .p 2 .mv [(.const (.slice none 0 0))]]) (
 .ret)) (
 .skip))) (
 .seq (
 .ops [
 .p 7 .mv [(.tmp 0)],
 .p 8 .len [(.tmp 7)],
 .call (some 9) JS [(.tmp 8)],
 .p 3 .mv [(.tmp 9)]]) (
 .seq (
 .ops [
 .p 10 .mv [(.tmp 3)],
 .p 11 .mv [(.tmp 3)],
 .call (some 12) Jd [(.tmp 11)],
 .p 13 .mv [(.tmp 0)],
 .call (some 14) Jd [(.tmp 13)],
 .p 15 .mv [(.tmp 0)],
 .bsl 16 Am 4 [(.slice none 0 0), (.slice none 0 0), (.slice none 0 0), (.slice none 0 0)] [(0, 1), (1, 1), (2, 1), (3, 1)] [(.tmp 10), (.tmp 12), (.tmp 14), (.tmp 15)],
 .call (some 17) Hf [(.tmp 16)],
 .p 2 .mv [(.tmp 17)]]) (
 .ret))))⟩

theorem AdC : trF Tryz.prog QW = some m_frame_Put := by kernel_rfl
-- 105 shardlog/shardlogref02.Sum; Aw [(0, b), (1, b), (3, w), (4, i), (5, k), (6, odd)]
noncomputable def m_ref02_Sum : MF := ⟨34, [.t 2],
 .seq (
 .ops [
 .p 2 .mv [(.const (.int .u32 0))]]) (
 .seq (
 .ops [
 .p 3 .mv [(.const (.int .u32 4294967295))]]) (
 .seq (
 .seq (
 .ops [
 .p 4 .mv [(.const (.int .i64 0))]]) (
 .block 0 (
 .loop (
 .seq (
 .seq (
 .ops [
 .p 7 .mv [(.tmp 4)],
 .p 8 .mv [(.tmp 0)],
 .p 9 .len [(.tmp 8)],
 .p 10 (.bin .lss) [(.tmp 7), (.tmp 9)]]) (
 .cond (.tmp 10) (
 .skip) (
 .exit 0))) (
 .seq (
 .block 1 (
 .seq (
 .ops [
 .p 13 .mv [(.tmp 3)],
 .p 14 .mv [(.tmp 0)],
 .p 15 .mv [(.tmp 4)],
 .p 16 (.ixs 1) [(.tmp 14), (.tmp 15)],
 .ld 17 (.tmp 16),
 .p 18 (.conv .u32) [(.tmp 17)],
 .p 19 (.bin .xor) [(.tmp 13), (.tmp 18)],
 .p 3 .mv [(.tmp 19)]]) (
 .seq (
 .ops [
 .p 5 .mv [(.const (.int .i64 0))]]) (
 .block 2 (
 .loop (
 .seq (
 .seq (
 .ops [
 .p 20 .mv [(.tmp 5)],
 .p 21 (.bin .lss) [(.tmp 20), (.const (.int .i64 8))]]) (
 .cond (.tmp 21) (
 .skip) (
 .exit 2))) (
 .seq (
 .block 3 (
 .seq (
 .ops [
 .p 24 .mv [(.tmp 3)],
 .p 25 (.bin .rem) [(.tmp 24), (.const (.int .u32 2))],
 .p 26 (.bin .eql) [(.tmp 25), (.const (.int .u32 1))],
 .p 6 .mv [(.tmp 26)]]) (
 .seq (
 .ops [
 .p 27 .mv [(.tmp 3)],
 .p 28 (.bin .quo) [(.tmp 27), (.const (.int .u32 2))],
 .p 3 .mv [(.tmp 28)]]) (
 .seq (
 .ops [
 .p 29 .mv [(.tmp 6)]]) (
 .cond (.tmp 29) (
 .ops [
 .p 30 .mv [(.tmp 3)],
 .p 31 (.bin .xor) [(.tmp 30), (.const (.int .u32 2197175160))],
 .p 3 .mv [(.tmp 31)]]) (
 .skip)))))) (
 .ops [
 .p 22 .mv [(.tmp 5)],
 .p 23 (.bin .add) [(.tmp 22), (.const (.int .i64 1))],
 .p 5 .mv [(.tmp 23)]])))))))) (
 .ops [
 .p 11 .mv [(.tmp 4)],
 .p 12 (.bin .add) [(.tmp 11), (.const (.int .i64 1))],
 .p 4 .mv [(.tmp 12)]])))))) (
 .seq (
 .ops [
 .p 32 .mv [(.tmp 3)],
 .p 33 (.bin .sub) [(.const (.int .u32 4294967295)), (.tmp 32)],
 .p 2 .mv [(.tmp 33)]]) (
 .ret))))⟩

theorem Ady : trF Tryz.prog J8 = some m_ref02_Sum := by kernel_rfl
-- 107 shardlog/slot.ballot; Aw [(0, b), (1, b)]
-- 110 shardlog/slot.Right; Aw [(0, v), (1, v)]
-- 111 shardlog/slot.full; Aw [(0, is), (1, is)]
-- 117 maps.Keys[map[int]shardlog/api.Vote,int,shardlog/api.Vote]; Aw [(0, m), (1, m)]
-- 142 shardlog/frame.Cut; Aw [(0, b), (1, b), (5, n), (6, _), (7, _), (8, body)]
noncomputable def m_frame_Cut : MF := ⟨53, [.t 2, .t 3, .t 4],
 .seq (
 .ops [
 .p 2 .mv [(.const (.slice none 0 0))],
 .p 3 .mv [(.const (.slice none 0 0))],
 .p 4 .mv [(.const (.bool false))]]) (
 .seq (
 .seq (
 .ops [
 .p 9 .mv [(.tmp 0)],
 .p 10 .len [(.tmp 9)],
 .p 11 (.bin .lss) [(.tmp 10), (.const (.int .i64 12))]]) (
 .cond (.tmp 11) (
 .seq (
 .ops [
 .p 2 .mv [(.const (.slice none 0 0))],
 .p 3 .mv [(.const (.slice none 0 0))],
 .p 4 .mv [(.const (.bool false))]]) (
 .ret)) (
 .skip))) (
 .seq (
 .ops [
 .p 13 .mv [(.tmp 0)],
 .call (some 14) IJ [(.tmp 13)],
 .p 12 .mv [(.tmp 14)],
 .p 15 (.ext 0) [(.tmp 12)],
 .p 16 (.ext 1) [(.tmp 12)],
 .p 17 (.ext 2) [(.tmp 12)],
 .p 5 .mv [(.tmp 15)],
 .p 6 .mv [(.tmp 16)],
 .p 7 .mv [(.tmp 17)]]) (
 .seq (
 .ops [
 .p 18 .mv [(.tmp 0)],
 .p 19 (.sls 1 true false false) [(.tmp 18), (.const (.int .i64 12))],
 .call (some 20) Eo [(.tmp 19)],
 .p 8 .mv [(.tmp 20)]]) (
 .seq (
 .seq (
 .dr (
 .one ⟨.p 21 .mv [(.tmp 5)], []⟩ (
 .one ⟨.p 22 (.bin .gtr) [(.tmp 21), (.const (.int .i64 65535))], []⟩ (
 .one ⟨.p 23 .mv [(.tmp 22)], []⟩ (
 .one ⟨.gd 23 false (some 24) (.p 24 .mv [(.tmp 5)]), []⟩ (
 .one ⟨.gd 23 false (some 25) (.p 25 .mv [(.tmp 8)]), []⟩ (
 .one ⟨.gd 23 false (some 26) (.p 26 .len [(.tmp 25)]), []⟩ (
 .one ⟨.gd 23 false (some 27) (.p 27 (.bin .gtr) [(.tmp 24), (.tmp 26)]), []⟩ (
 .one ⟨.p 28 .pick [(.tmp 23), (.const (.bool true)), (.tmp 27)], []⟩ (
 .one ⟨.p 29 .mv [(.tmp 28)], []⟩ (
 .one ⟨.gd 29 false (some 30) (.p 30 .mv [(.tmp 0)]), []⟩ (
 .one ⟨.gd 29 false (some 31) (.p 31 (.sls 1 false true false) [(.tmp 30), (.const (.int .i64 12))]), []⟩ (
 .one ⟨.gd 29 false (some 32) (.p 32 .mv [(.tmp 0)]), []⟩ (
 .one ⟨.gd 29 false (some 33) (.p 33 (.sls 1 false true false) [(.tmp 32), (.const (.int .i64 4))]), []⟩ (
 .one ⟨.gd 29 false (some 34) (.p 34 .mv [(.tmp 0)]), []⟩ (
 .one ⟨.gd 29 false (some 35) (.p 35 (.sls 1 false true false) [(.tmp 34), (.const (.int .i64 4))]), []⟩ (
 .one ⟨.gd 29 false (some 37) (.p 37 .mv [(.tmp 8)]), []⟩ (
 .one ⟨.gd 29 false (some 38) (.p 38 .mv [(.tmp 5)]), []⟩ (
 .one ⟨.gd 29 false (some 39) (.p 39 (.sls 1 false true false) [(.tmp 37), (.tmp 38)]), []⟩ (
 .one ⟨.gd 29 false (some 36) (.call (some 36) Jd [(.tmp 35)]), []⟩ (
 .one ⟨.gd 29 false (some 40) (.call (some 40) Jd [(.tmp 39)]), []⟩ (
 .one ⟨.gd 29 false (some 41) (.bsl 41 Am 3 [(.slice none 0 0), (.slice none 0 0), (.slice none 0 0)] [(0, 1), (1, 1), (2, 1)] [(.tmp 33), (.tmp 36), (.tmp 40)]), []⟩ (
 .one ⟨.gd 29 false (some 42) (.call (some 42) Hf [(.tmp 41)]), []⟩ (
 .one ⟨.gd 29 false (some 43) (.call (some 43) I9 [(.tmp 31), (.tmp 42)]), []⟩ (
 .one ⟨.gd 29 false (some 44) (.p 44 .not [(.tmp 43)]), []⟩ (
 .one ⟨.p 45 .pick [(.tmp 29), (.const (.bool true)), (.tmp 44)], []⟩ (
 .nil))))))))))))))))))))))))))) (
 .cond (.tmp 45) (
 .seq (
 .ops [
 .p 2 .mv [(.const (.slice none 0 0))],
 .p 3 .mv [(.const (.slice none 0 0))],
 .p 4 .mv [(.const (.bool false))]]) (
 .ret)) (
 .skip))) (
 .seq (
 .dr (
 .one ⟨.p 46 .mv [(.tmp 8)], []⟩ (
 .one ⟨.p 47 .mv [(.tmp 5)], []⟩ (
 .one ⟨.p 48 .mv [(.tmp 5)], []⟩ (
 .one ⟨.p 49 (.sls 1 false true true) [(.tmp 46), (.tmp 47), (.tmp 48)], []⟩ (
 .one ⟨.p 50 .mv [(.tmp 8)], []⟩ (
 .one ⟨.p 51 .mv [(.tmp 5)], []⟩ (
 .one ⟨.p 52 (.sls 1 true false false) [(.tmp 50), (.tmp 51)], []⟩ (
 .one ⟨.p 2 .mv [(.tmp 49)], []⟩ (
 .one ⟨.p 3 .mv [(.tmp 52)], []⟩ (
 .one ⟨.p 4 .mv [(.const (.bool true))], []⟩ (
 .nil)))))))))))) (
 .ret))))))⟩

theorem AdD : trF Tryz.prog QX = some m_frame_Cut := by kernel_rfl
-- 144 shardlog/slot.Get; Aw [(0, rec), (1, rec), (5, kind), (6, rest), (7, _), (8, b), (9, _), (10, _), (11, again), (12, e), (13, v), (14, again), (15, e)]
-- 145 shardlog/frame.sum; Aw [(0, b), (1, b)]
noncomputable def m_frame_sum : MF := ⟨7, [.t 2],
 .seq (
 .ops [
 .p 2 .mv [(.const (.slice none 0 0))]]) (
 .seq (
 .ops [
 .p 3 .mv [(.tmp 0)],
 .call (some 4) QY [(.tmp 3)],
 .p 5 (.conv .i64) [(.tmp 4)],
 .call (some 6) JS [(.tmp 5)],
 .p 2 .mv [(.tmp 6)]]) (
 .ret))⟩

theorem AdB : trF Tryz.prog Jd = some m_frame_sum := by kernel_rfl
-- 163 shardlog/slot.cut; Aw [(0, b), (1, b), (3, n), (4, ok), (5, i), (6, s), (7, _), (8, _)]
-- 164 shardlog/check.Sum; Aw [(0, b), (1, b)]
noncomputable def m_check_Sum : MF := ⟨5, [.t 2],
 .seq (
 .ops [
 .p 2 .mv [(.const (.int .u32 0))]]) (
 .seq (
 .ops [
 .p 3 .mv [(.tmp 0)],
 .call (some 4) P5 [(.const (.int .u32 0)), (.tmp 3)],
 .p 2 .mv [(.tmp 4)]]) (
 .ret))⟩

theorem AdF : trF Tryz.prog QY = some m_check_Sum := by kernel_rfl
-- 171 shardlog/check.More; Aw [(0, sum), (1, b), (2, sum), (3, b), (5, w), (6, _), (7, c)]
noncomputable def m_check_More : MF := ⟨22, [.t 4],
 .seq (
 .ops [
 .p 4 .mv [(.const (.int .u32 0))]]) (
 .seq (
 .ops [
 .p 8 .mv [(.tmp 0)],
 .p 9 (.bin .xor) [(.tmp 8), (.const (.int .u32 4294967295))],
 .p 5 .mv [(.tmp 9)]]) (
 .seq (
 .seq (
 .ops [
 .p 10 .mv [(.tmp 1)],
 .p 11 .len [(.tmp 10)],
 .p 12 .mv [(.const (.int .i64 0))]]) (
 .block 0 (
 .loop (
 .seq (
 .ops [
 .p 13 (.bin .lss) [(.tmp 12), (.tmp 11)]]) (
 .seq (
 .cond (.tmp 13) (
 .skip) (
 .exit 0)) (
 .seq (
 .block 1 (
 .seq (
 .ops [
 .p 14 (.ixs 1) [(.tmp 10), (.tmp 12)],
 .ld 15 (.tmp 14),
 .p 7 .mv [(.tmp 15)]]) (
 .ops [
 .p 16 .mv [(.tmp 5)],
 .p 17 .mv [(.tmp 7)],
 .call (some 18) JY [(.tmp 16), (.tmp 17)],
 .p 5 .mv [(.tmp 18)]]))) (
 .ops [
 .p 19 (.bin .add) [(.tmp 12), (.const (.int .i64 1))],
 .p 12 .mv [(.tmp 19)]]))))))) (
 .seq (
 .ops [
 .p 20 .mv [(.tmp 5)],
 .p 21 (.bin .xor) [(.tmp 20), (.const (.int .u32 4294967295))],
 .p 4 .mv [(.tmp 21)]]) (
 .ret))))⟩

theorem Aby : trF Tryz.prog P5 = some m_check_More := by kernel_rfl
-- 192 (shardlog/check.word).eight; Aw [(0, w), (1, b), (2, w), (3, b), (5, step)]
noncomputable def m_check_word_eight : MF := ⟨17, [.t 4],
 .seq (
 .ops [
 .p 4 .mv [(.const (.int .u32 0))]]) (
 .seq (
 .ops [
 .p 5 .mv [(.func Jq)]]) (
 .seq (
 .ops [
 .p 6 .mv [(.tmp 0)],
 .p 7 .mv [(.tmp 1)],
 .p 8 (.conv .u32) [(.tmp 7)],
 .p 9 (.bin .xor) [(.tmp 6), (.tmp 8)],
 .p 0 .mv [(.tmp 9)]]) (
 .seq (
 .seq (
 .ops [
 .p 10 .mv [(.const (.int .i64 0))]]) (
 .block 0 (
 .loop (
 .seq (
 .ops [
 .p 11 (.bin .lss) [(.tmp 10), (.const (.int .i64 8))]]) (
 .seq (
 .cond (.tmp 11) (
 .skip) (
 .exit 0)) (
 .seq (
 .block 1 (
 .ops [
 .p 12 .mv [(.tmp 5)],
 .p 13 .mv [(.tmp 0)],
 .callv (some 14) (.tmp 12) [(.tmp 13)],
 .p 0 .mv [(.tmp 14)]])) (
 .ops [
 .p 15 (.bin .add) [(.tmp 10), (.const (.int .i64 1))],
 .p 10 .mv [(.tmp 15)]]))))))) (
 .seq (
 .ops [
 .p 16 .mv [(.tmp 0)],
 .p 4 .mv [(.tmp 16)]]) (
 .ret)))))⟩

theorem TS : trF Tryz.prog JY = some m_check_word_eight := by kernel_rfl
-- 203 (shardlog/check.word).bit; Aw [(0, w), (1, w)]
noncomputable def m_check_word_bit : MF := ⟨11, [.t 2],
 .seq (
 .ops [
 .p 2 .mv [(.const (.int .u32 0))]]) (
 .seq (
 .seq (
 .ops [
 .p 3 .mv [(.tmp 0)],
 .p 4 (.bin .and) [(.tmp 3), (.const (.int .u32 1))],
 .p 5 (.bin .eql) [(.tmp 4), (.const (.int .u32 1))]]) (
 .cond (.tmp 5) (
 .seq (
 .ops [
 .p 6 .mv [(.tmp 0)],
 .p 7 (.bin .shr) [(.tmp 6), (.const (.int .u64 1))],
 .p 8 (.bin .xor) [(.tmp 7), (.const (.int .u32 2197175160))],
 .p 2 .mv [(.tmp 8)]]) (
 .ret)) (
 .skip))) (
 .seq (
 .ops [
 .p 9 .mv [(.tmp 0)],
 .p 10 (.bin .shr) [(.tmp 9), (.const (.int .u64 1))],
 .p 2 .mv [(.tmp 10)]]) (
 .ret)))⟩

theorem VX : trF Tryz.prog Jq = some m_check_word_bit := by kernel_rfl
end Go.Proofs.YtgpkbldlkadnjaaGreat
end
section
set_option maxHeartbeats 3000000
attribute [local irreducible] Go.Sl.Chk Go.Sl.Br Go.Sl.Or2 Go.Sl.Ld Go.Sl.Ldn Go.Sl.LdB Go.Sl.Stn Go.Sl.New Go.Sl.Run Go.Sl.Ez Go.Sl.Eu Go.Sl.Call Go.Sl.CQ Go.Sl.EC Go.Sl.Alt Go.Sl.Om Go.Sl.xpk Go.Sl.FM Go.Sl.FN Go.Sl.DLd Go.Sl.Fe Go.Sl.DBs Go.Sl.BG Go.Sl.EN Go.Sl.EM Go.Sl.Dz Go.Sl.DGC Go.Sl.DW Go.Sl.Gl Go.Sl.Ei Go.Sl.Ent Go.Sl.Be Go.Sl.dv Go.Sl.ev Go.Sl.Au
namespace Go.Proofs.YtgpkbldlkadnjaaGreat
open Go Go.Sl Go.RowKit
abbrev cD (w : Nat) : D := .sc (.int .u32 (w : Int))
def UW (w : Nat) : Nat := if w % 2 = 1 then (w / 2) ^^^ 2197175160 else w / 2
def Abg : Nat → Nat → Nat
 | 0, w => w
 | k + 1, w => Abg k (UW w)
def J4 (w : Nat) (b : UInt8) : Nat := Abg 8 (w ^^^ b.toNat)
def EK (b : Bs) : Nat := b.foldl J4 4294967295 ^^^ 4294967295
theorem Me {a b : Nat} (ha : a < 4294967296) (hb : b < 4294967296) : a ^^^ b < 4294967296 := Nat.xor_lt_two_pow (n := 32) ha hb
theorem Xj {w : Nat} (h : w < 4294967296) : UW w < 4294967296 := by
 unfold UW
 split
 ·exact Me (by omega) (by omega)
 ·omega
theorem AfR : ∀ (k : Nat) {w : Nat}, w < 4294967296 → Abg k w < 4294967296
 | 0, _, h => h
 | k + 1, _, h => AfR k (Xj h)
theorem Nj {w : Nat} (b : UInt8) (h : w < 4294967296) : J4 w b < 4294967296 := AfR 8 (Me h (by have := b.toNat_lt; omega))
theorem Aa9 : ∀ (l : Bs) {w : Nat}, w < 4294967296 → l.foldl J4 w < 4294967296
 | [], _, h => h
 | b :: l, _, h => Aa9 l (Nj b h)
theorem MW (b : Bs) : EK b < 4294967296 := Me (Aa9 b (by omega)) (by omega)
theorem wrap32 {n : Nat} (h : n < 4294967296) : IntKind.u32.wrap (n : Int) = n := by
 simp only [IntKind.wrap, IntKind.bits, IntKind.signed]
 simp
 omega
theorem of32 {x : Nat} (h : x < 4294967296) : (BitVec.ofInt 32 (x : Int)).toNat = x := by
 rw [BitVec.toNat_ofInt]
 omega
theorem Ae8 {a b : Nat} (ha : a < 4294967296) (hb : b < 4294967296) : IntKind.u32.wrap ((BitVec.ofInt IntKind.u32.bits (a : Int) ^^^ BitVec.ofInt IntKind.u32.bits (b : Int)).toNat : Int) = ((a ^^^ b : Nat) : Int) := by
 show IntKind.u32.wrap ((BitVec.ofInt 32 (a : Int) ^^^ BitVec.ofInt 32 (b : Int)).toNat : Int) = _
 rw [BitVec.toNat_xor, of32 ha, of32 hb, wrap32 (Me ha hb)]
theorem AbS {a : Nat} (ha : a < 4294967296) : IntKind.u32.wrap ((BitVec.ofInt IntKind.u32.bits (a : Int) ^^^ BitVec.ofInt IntKind.u32.bits 4294967295).toNat : Int) = ((a ^^^ 4294967295 : Nat) : Int) := Ae8 (b := 4294967295) ha (by omega)
theorem Zp {a : Nat} (ha : a < 4294967296) : IntKind.u32.wrap ((BitVec.ofInt IntKind.u32.bits (a : Int) ^^^ BitVec.ofInt IntKind.u32.bits 2197175160).toNat : Int) = ((a ^^^ 2197175160 : Nat) : Int) := Ae8 (b := 2197175160) ha (by omega)
theorem and32 {a : Nat} (ha : a < 4294967296) : IntKind.u32.wrap ((BitVec.ofInt IntKind.u32.bits (a : Int) &&& BitVec.ofInt IntKind.u32.bits 1).toNat : Int) = ((a % 2 : Nat) : Int) := by
 show IntKind.u32.wrap ((BitVec.ofInt 32 (a : Int) &&& BitVec.ofInt 32 ((1 : Nat) : Int)).toNat : Int) = _
 rw [BitVec.toNat_and, of32 ha, of32 (by omega), Nat.and_one_is_mod, wrap32 (by omega)]
theorem half32 {a : Nat} (ha : a < 4294967296) : IntKind.u32.wrap ((a : Int) / 2) = ((a / 2 : Nat) : Int) := by
 rw [show (a : Int) / 2 = ((a / 2 : Nat) : Int) by omega, wrap32 (by omega)]
theorem not32 {a : Nat} (ha : a < 4294967296) : IntKind.u32.wrap (4294967295 - (a : Int)) = ((a ^^^ 4294967295 : Nat) : Int) := by
 have h : a ^^^ 4294967295 = 4294967295 - a := by
  have h1 : (BitVec.ofNat 32 a ^^^ BitVec.allOnes 32).toNat = (~~~ (BitVec.ofNat 32 a)).toNat := by rw [BitVec.xor_allOnes]
  rw [BitVec.toNat_xor, BitVec.toNat_not, BitVec.toNat_ofNat, BitVec.toNat_allOnes, Nat.mod_eq_of_lt (by omega)] at h1
  simpa using h1
 rw [h, show (4294967295 : Int) - (a : Int) = ((4294967295 - a : Nat) : Int) by omega, wrap32 (by omega)]
theorem fdiv1 (a : Nat) : (a : Int).fdiv (2 ^ Nat.min 1 IntKind.u32.bits) = ((a / 2 : Nat) : Int) := by
 have h : ((2 : Int) ^ Nat.min 1 IntKind.u32.bits) = 2 := rfl
 rw [h, Int.fdiv_eq_ediv_of_nonneg _ (by omega)]
 omega
theorem bit_d (w : Nat) (h : w < 4294967296) : Ed Tryz.prog Jq [cD w] (cD (UW w)) := by
 intro nx
 refine AU VX (by simp only [m_check_word_bit, List.length]; decide) ?_
 rcases (by omega : w % 2 = 1 ∨ w % 2 = 0) with e | e
 ·simp only [m_check_word_bit]; refine WKX (And.intro @and32 @e) ?_; try with_reducible exact trivial
  rw [fdiv1, Zp (by omega)]
  exact BU ⟨by rw [UW, if_pos e], rfl⟩
 ·simp only [m_check_word_bit]; refine WKX (And.intro @and32 @e) ?_; try with_reducible exact trivial
  rw [fdiv1]
  exact BU ⟨by rw [UW, if_neg (by omega)], rfl⟩
theorem AjT (w : Nat) (b : UInt8) (h : w < 4294967296) : Ed Tryz.prog JY [cD w, bD b] (cD (J4 w b)) := by
 intro nx
 refine AU TS (by simp only [m_check_word_eight, List.length]; decide) ?_
 have hb := b.toNat_lt
 have hx : w ^^^ b.toNat < 4294967296 := Me h (by omega)
 have e1 : IntKind.u32.wrap (b.toNat : Int) = b.toNat := wrap32 (by omega)
 have e2 := Ae8 (a := w) (b := b.toNat) h (by omega)
 simp -dsimp (disch := omega) only [↓MC.xwp, ↓BM, ↓xdr, ↓MOp.xwp, dvs, dv, dvu, dvo, dvp, dgb, dGd, DN, cond_true, cond_false, FZ, Be, CU, Di, Dv, Dl, ptr, bsc, cv, uo, uof, Bj, xpr, DF, EF, FB, E8, F9, FK, Gf, xst, xgp, glc, FW, DL, FU, FV, FQ, FT, DK, FP, FC, FO, DI, DJ, BV, DC, E5, dsl, dif, BK, CE, BB, scs, rowOf, Az, dtk, Du, BF, pev, Bz, BC, Aq, BD, psl, Bc, ↓Dx, ↓BZ, ↓FH, ↓EY, Dp, Ff, E9, Df, Bq, kp, C9, Dk, ES, Dj, Fj, CV, AB, Bi, nb, ET, BL, AY, apart, Af, AX, heldOk, Op.operands, Nat.reduceAdd, forall_eq_or_imp, D.plain, reduceCtorEq, if_true, if_false, ↓reduceIte, ne_eq, Bool.cond_true, Bool.cond_false, forall_const, implies_true, forall_eq, Int.reduceEq, Int.reduceLT, Int.reduceLE, Int.reduceAdd, Int.reduceSub, Int.reduceMul, Int.reduceToNat, Nat.reduceMul, Nat.reduceLeDiff, Nat.reduceLT, Nat.reduceSub, Nat.reduceBEq, Nat.reduceEqDiff, CG, bytesD, iD, BP, Ak, Bv, bD, DB, m_check_word_eight, U8, e1, e2]
 refine Gu [0, 5, 10] (fun s : Nat × Nat × Nat => ([(0, cD s.2.1), (5, .fn Jq [] []), (10, iD (s.1 : Nat))], [], s.2.2)) (fun s => s.1 ≤ 8 ∧ s.2.1 < 4294967296 ∧ Abg (8 - s.1) s.2.1 = J4 w b) (fun s => 8 - s.1) (0, w ^^^ b.toNat, nx) ⟨by omega, hx, rfl⟩ (Ent.of (by with_unfolding_all rfl) rfl) ?_
 rintro ⟨k, v, n⟩ ⟨q1, q2, q3⟩
 dsimp only at q1 q2 q3 ⊢
 refine WK ?_; try with_reducible exact trivial
 refine brd (fun hlt => ?_) (fun hge => ?_)
 ·rw [show 8 - k = (8 - (k + 1)) + 1 by omega] at q3
  simp only [Abg] at q3
  refine WK ?_; try with_reducible exact trivial
  refine chk (by kernel_rfl) ?_
  refine BH (bit_d v q2) fun n1 h1 => ?_
  refine WK ?_; try with_reducible exact trivial
  exact ⟨(k + 1, UW v, n1), ⟨by dsimp only; omega, Xj q2, q3⟩, by dsimp only; omega, (Ent.of (by with_unfolding_all rfl) rfl)⟩
 ·refine WK ?_; try with_reducible exact trivial
  rw [show 8 - k = 0 by omega] at q3
  exact BU ⟨by rw [← q3]; rfl, rfl⟩
theorem more_d (w : Nat) (b : Bs) (h : w < 4294967296) (hl : b.length ≤ 1000000000) : Ed Tryz.prog P5 [cD w, bytesD b] (cD (b.foldl J4 (w ^^^ 4294967295) ^^^ 4294967295)) := by
 intro nx
 refine AU Aby (by simp only [m_check_More, List.length]; decide) ?_
 have e2 := AbS h
 simp only [m_check_More]; refine WKX @e2 ?_; try with_reducible exact trivial
 refine Gu [5, 10, 11, 12] (fun s : Nat × Nat × Nat => ([(5, cD s.2.1), (10, bytesD b), (11, iD (b.length : Nat)), (12, iD (s.1 : Nat))], [], s.2.2)) (fun s => s.1 ≤ b.length ∧ s.2.1 < 4294967296 ∧ (b.drop s.1).foldl J4 s.2.1 = b.foldl J4 (w ^^^ 4294967295)) (fun s => b.length - s.1) (0, w ^^^ 4294967295, nx) ⟨by omega, Me h (by omega), rfl⟩ (Ent.of (by with_unfolding_all rfl) rfl) ?_
 rintro ⟨k, v, n⟩ ⟨q1, q2, q3⟩
 dsimp only at q1 q2 q3 ⊢
 refine WK ?_; try with_reducible exact trivial
 refine brd (fun hlt => ?_) (fun hge => ?_)
 ·have hkl : k < b.length := by omega
  rw [List.drop_eq_getElem_cons hkl, ← G8 hkl, List.foldl_cons] at q3
  refine WK ?_; try with_reducible exact trivial
  refine BH (AjT v (gt b k) q2) fun n1 h1 => ?_
  refine WK ?_; try with_reducible exact trivial
  exact ⟨(k + 1, J4 v (gt b k), n1), ⟨by dsimp only; omega, Nj _ q2, q3⟩, by dsimp only; omega, (Ent.of (by with_unfolding_all rfl) rfl)⟩
 ·rw [List.drop_of_length_le (by omega)] at q3
  refine WKX @AbS ?_; try with_reducible exact trivial
  exact BU ⟨by rw [← q3]; rfl, rfl⟩
theorem sum_d (b : Bs) (hl : b.length ≤ 1000000000) : Ed Tryz.prog QY [bytesD b] (cD (EK b)) := by
 intro nx
 refine AU AdF (by simp only [m_check_Sum, List.length]; decide) ?_
 simp only [m_check_Sum]; refine WK ?_; try with_reducible exact trivial
 refine BH (more_d 0 b (by omega) hl) fun n1 h1 => ?_
 refine WK ?_; try with_reducible exact trivial
 exact BU ⟨by rw [Nat.zero_xor]; rfl, rfl⟩
theorem AaF (b : Bs) (hl : b.length ≤ 1000000000) : Ed Tryz.prog J8 [bytesD b] (cD (EK b)) := by
 intro nx
 refine AU Ady (by simp only [m_ref02_Sum, List.length]; decide) ?_
 simp only [m_ref02_Sum]; refine WK ?_; try with_reducible exact trivial
 refine Gu [0, 3, 4] (fun s : Nat × Nat × Nat => ([(0, bytesD b), (3, cD s.2.1), (4, iD (s.1 : Nat))], [], s.2.2)) (fun s => s.1 ≤ b.length ∧ s.2.1 < 4294967296 ∧ (b.drop s.1).foldl J4 s.2.1 = b.foldl J4 4294967295) (fun s => b.length - s.1) (0, 4294967295, nx) ⟨by omega, by dsimp only; omega, rfl⟩ (Ent.of (by with_unfolding_all rfl) rfl) ?_
 rintro ⟨k, v, n⟩ ⟨q1, q2, q3⟩
 dsimp only at q1 q2 q3 ⊢
 refine WK ?_; try with_reducible exact trivial
 refine brd (fun hlt => ?_) (fun hge => ?_)
 ·have hkl : k < b.length := by omega
  rw [List.drop_eq_getElem_cons hkl, ← G8 hkl, List.foldl_cons] at q3
  have hb := (gt b k).toNat_lt
  have hx : v ^^^ (gt b k).toNat < 4294967296 := Me q2 (by omega)
  have e1 : IntKind.u32.wrap ((gt b k).toNat : Int) = (gt b k).toNat := wrap32 (by omega)
  have e2 := Ae8 (a := v) (b := (gt b k).toNat) q2 (by omega)
  simp -dsimp (disch := omega) only [↓MC.xwp, ↓BM, ↓xdr, ↓MOp.xwp, dvs, dv, dvu, dvo, dvp, dgb, dGd, DN, cond_true, cond_false, FZ, Be, CU, Di, Dv, Dl, ptr, bsc, cv, uo, uof, Bj, xpr, DF, EF, FB, E8, F9, FK, Gf, xst, xgp, glc, FW, DL, FU, FV, FQ, FT, DK, FP, FC, FO, DI, DJ, BV, DC, E5, dsl, dif, BK, CE, BB, scs, rowOf, Az, dtk, Du, BF, pev, Bz, BC, Aq, BD, psl, Bc, ↓Dx, ↓BZ, ↓FH, ↓EY, Dp, Ff, E9, Df, Bq, kp, C9, Dk, ES, Dj, Fj, CV, AB, Bi, nb, ET, BL, AY, apart, Af, AX, heldOk, Op.operands, Nat.reduceAdd, forall_eq_or_imp, D.plain, reduceCtorEq, if_true, if_false, ↓reduceIte, ne_eq, Bool.cond_true, Bool.cond_false, forall_const, implies_true, forall_eq, Int.reduceEq, Int.reduceLT, Int.reduceLE, Int.reduceAdd, Int.reduceSub, Int.reduceMul, Int.reduceToNat, Nat.reduceMul, Nat.reduceLeDiff, Nat.reduceLT, Nat.reduceSub, Nat.reduceBEq, Nat.reduceEqDiff, CG, bytesD, iD, BP, Ak, Bv, bD, DB, U8, e1, e2]
  refine Gu [0, 3, 4, 5] (fun s : Nat × Nat => ([(0, bytesD b), (3, cD s.2), (4, iD (k : Nat)), (5, iD (s.1 : Nat))], [], n)) (fun s => s.1 ≤ 8 ∧ s.2 < 4294967296 ∧ Abg (8 - s.1) s.2 = J4 v (gt b k)) (fun s => 8 - s.1) (0, v ^^^ (gt b k).toNat) ⟨by omega, hx, rfl⟩ (Ent.of (by with_unfolding_all rfl) rfl) ?_
  rintro ⟨j, u⟩ ⟨p1, p2, p3⟩
  dsimp only at p1 p2 p3 ⊢
  refine WK ?_; try with_reducible exact trivial
  refine brd (fun hlt2 => ?_) (fun hge2 => ?_)
  ·have hj : 8 - j = (8 - (j + 1)) + 1 := by omega
   rw [hj] at p3
   simp only [Abg] at p3
   have hu := half32 p2
   have hu2 : IntKind.u32.wrap ((u / 2 : Nat) : Int) = ((u / 2 : Nat) : Int) := wrap32 (by omega)
   rcases (by omega : u % 2 = 1 ∨ u % 2 = 0) with e | e
   ·refine WKX (And.intro @hu @hu2) ?_; try with_reducible exact trivial
    rw [Zp (by omega)]
    have hc : UW u = (u / 2) ^^^ 2197175160 := by rw [UW, if_pos e]
    rw [hc] at p3
    exact ⟨(j + 1, (u / 2) ^^^ 2197175160), ⟨by dsimp only; omega, Me (by omega) (by omega), p3⟩, by dsimp only; omega, (Ent.of (by with_unfolding_all rfl) rfl)⟩
   ·refine WKX (And.intro @hu @hu2) ?_; try with_reducible exact trivial
    have hc : UW u = u / 2 := by rw [UW, if_neg (by omega)]
    rw [hc] at p3
    exact ⟨(j + 1, u / 2), ⟨by dsimp only; omega, by dsimp only; omega, p3⟩, by dsimp only; omega, (Ent.of (by with_unfolding_all rfl) rfl)⟩
  ·refine WK ?_; try with_reducible exact trivial
   rw [show 8 - j = 0 by omega] at p3
   exact ⟨(k + 1, u, n), ⟨by dsimp only; omega, p2, by dsimp only; rw [show u = J4 v (gt b k) from p3]; exact q3⟩, by dsimp only; omega, (Ent.of (by with_unfolding_all rfl) rfl)⟩
 ·rw [List.drop_of_length_le (by omega)] at q3
  refine WKX @not32 ?_; try with_reducible exact trivial
  exact BU ⟨by rw [EK, ← q3]; rfl, rfl⟩
def Fp (rec : Bs) : Bs := Cj rec.length ++ (Cj (EK (Cj rec.length)) ++ (Cj (EK rec) ++ rec))
theorem Ls (rec : Bs) : (Fp rec).length = rec.length + 12 := by
 simp only [Fp, List.length_append, Ag]
 omega
theorem fsum_o (b : Bs) (hl : b.length ≤ 1000000000) : NZ Tryz.prog Jd [bytesD b] (fun i => .h i) (Ar (Cj (EK b))) := by
 intro nx
 refine AU AdB (by simp only [m_frame_sum, List.length]; decide) ?_
 have hs := MW b
 simp only [m_frame_sum]; refine WK ?_; try with_reducible exact trivial
 refine BH (sum_d b hl) fun n1 h1 => ?_
 refine WK ?_; try with_reducible exact trivial
 refine O5 (Afy (EK b) hs) fun i n2 h2 h3 => ?_
 refine WK ?_; try with_reducible exact trivial
 refine IM [i] (t := .mk _) ?_
 refine WKR ?_; try with_reducible exact trivial
 exact Dc ⟨i, by omega, h3, rfl, rfl⟩
theorem Aa8 (b : Bs) (hl : b.length ≤ 1000000000) : Ed Tryz.prog Jd [bytesD b] (bytesD (Cj (EK b))) :=
 (fsum_o b hl).fn (DU _).1 (by rw [(DU _).2])
theorem fput_d (rec : Bs) (hl : rec.length ≤ 65535) : Ed Tryz.prog QW [bytesD rec] (bytesD (Fp rec)) := by
 intro nx
 refine AU AdC (by simp only [m_frame_Put, List.length]; decide) ?_
 simp only [m_frame_Put]; refine WK ?_; try with_reducible exact trivial
 refine BH (num_d rec.length (by omega)) fun n1 h1 => ?_
 refine WK ?_; try with_reducible exact trivial
 refine BH (Aa8 (Cj rec.length) (by rw [Ag]; omega)) fun n2 h2 => ?_
 refine WK ?_; try with_reducible exact trivial
 refine BH (Aa8 rec (by omega)) fun n3 h3 => ?_
 refine WK ?_; try with_reducible exact trivial
 refine GM n3 (t' := .mk _) (Aa _ _ _) (by simp [D.plain]) List.not_mem_nil ?_
 rw [Ba]
 simp only [List.map_cons, List.map_nil, Dl, Aa]
 have hb := Ls rec
 refine BH (Yz [Cj rec.length, Cj (EK (Cj rec.length)), Cj (EK rec), rec] (by simp) (by simp only [List.flatten_cons, List.flatten_nil, List.append_nil, List.length_append, Ag]; omega)) fun n4 h4 => ?_
 refine WK ?_; try with_reducible exact trivial
 exact BU ⟨by simp only [List.flatten_cons, List.flatten_nil, List.append_nil, Fp], rfl⟩
theorem Fq {X : Prop} {Y : D → Prop} {t : Tag X} {u : Cf Y} (d : D) (h : Y (.opt false d)) : DGC false X Y t u := by
 unfold DGC
 exact ⟨fun h => (by cases h), fun _ => ⟨d, h⟩⟩
def Jr (b : Bs) : Option (Bs × Bs) :=
 if b.length < 12 then none else if 65535 < Dh b then none else if b.length - 12 < Dh b then none else
 if b.take 12 = b.take 4 ++ (Cj (EK (b.take 4)) ++ Cj (EK ((b.drop 12).take (Dh b)))) then some ((b.drop 12).take (Dh b), (b.drop 12).drop (Dh b)) else none
def cutD : Option (Bs × Bs) → D
 | none => .tup [bytesD [], bytesD [], Ak false]
 | some p => .tup [bytesD p.1, bytesD p.2, Ak true]
theorem Afk (b : Bs) (k : Nat) : D.sl (b.length - k) (List.take (b.length - k) (List.drop k (b.map bD))) = bytesD (b.drop k) := by
 rw [← List.map_drop, List.take_of_length_le (by simp)]
 simp
theorem Ry (b : Bs) (k : Nat) (h : k ≤ b.length) : D.sl k (List.take k (b.map bD)) = bytesD (b.take k) := by
 simp only [bytesD, List.length_take, Nat.min_eq_left h, List.map_take]
set_option maxRecDepth 100000 in
theorem fcut_d (b : Bs) (hl : b.length ≤ 1000000) : Ed Tryz.prog QX [bytesD b] (cutD (Jr b)) := by
 intro nx
 refine AU AdD (by simp only [m_frame_Cut, List.length]; decide) ?_
 rcases Nat.lt_or_ge b.length 12 with h | h
 ·simp only [m_frame_Cut]; refine WK ?_; try with_reducible exact trivial
  refine EE (t' := .mk _) ?_
  exact Dc ⟨by rw [Jr, if_pos h]; rfl, rfl⟩
 ·have hn := UA b
  have hd : (b.drop 12).length = b.length - 12 := by simp
  simp only [m_frame_Cut]; refine WK ?_; try with_reducible exact trivial
  refine BH (Yv b (by omega)) fun n1 h1 => ?_
  rw [if_neg (by omega)]
  refine WK ?_; try with_reducible exact trivial
  rw [Afk]
  refine BH (AfT (b.drop 12) (by omega)) fun n2 h2 => ?_
  rcases (by omega : (65535 < Dh b ∨ b.length - 12 < Dh b) ∨ (Dh b ≤ 65535 ∧ Dh b ≤ b.length - 12)) with h5 | ⟨h5, h6⟩
  ·have hc : Jr b = none := by
    rcases h5 with h5 | h5
    ·rw [Jr, if_neg (by omega), if_pos h5]
    ·rw [Jr, if_neg (by omega)]
     split
     ·rfl
     ·simp [h5]
   rw [hc]
   rcases Nat.lt_or_ge 65535 (Dh b) with h6 | h6
   ·refine WKX @hd ?_; try with_reducible exact trivial
    refine Fq (bytesD []) ?_
    refine WKX @hd ?_; try with_reducible exact trivial
    refine Fq (bytesD []) ?_
    refine WKX @hd ?_; try with_reducible exact trivial
    refine Fq (bytesD []) ?_
    refine WKX @hd ?_; try with_reducible exact trivial
    refine Fq (Ak true) ?_
    refine WKX @hd ?_; try with_reducible exact trivial
    refine EE (t' := .mk _) ?_
    exact Dc ⟨rfl, rfl⟩
   ·refine WKX @hd ?_; try with_reducible exact trivial
    refine Fq (bytesD []) ?_
    refine WKX @hd ?_; try with_reducible exact trivial
    refine Fq (bytesD []) ?_
    refine WKX @hd ?_; try with_reducible exact trivial
    refine Fq (bytesD []) ?_
    refine WKX @hd ?_; try with_reducible exact trivial
    refine Fq (Ak true) ?_
    refine WKX @hd ?_; try with_reducible exact trivial
    refine EE (t' := .mk _) ?_
    exact Dc ⟨rfl, rfl⟩
  ·refine WKX @hd ?_; try with_reducible exact trivial
   rw [Ry b 4 (by omega)]
   refine BH (Aa8 (b.take 4) (by rw [List.length_take]; omega)) fun n3 h7 => ?_
   refine WKX @hd ?_; try with_reducible exact trivial
   rw [Ry (b.drop 12) (Dh b) (by omega)]
   refine BH (Aa8 ((b.drop 12).take (Dh b)) (by rw [List.length_take]; omega)) fun n4 h8 => ?_
   refine WKX @hd ?_; try with_reducible exact trivial
   refine GM n4 (t' := .mk _) (Aa _ _ _) (by simp [D.plain]) (by simp only [List.mem_cons, List.not_mem_nil, or_false, not_false_eq_true]; try omega) ?_
   rw [Ba]
   simp only [List.map_cons, List.map_nil, Dl, Aa]
   refine BH (Yz [b.take 4, Cj (EK (b.take 4)), Cj (EK ((b.drop 12).take (Dh b)))] (by simp) (by simp only [List.flatten_cons, List.flatten_nil, List.append_nil, List.length_append, Ag, List.length_take]; omega)) fun n5 h9 => ?_
   refine WKX @hd ?_; try with_reducible exact trivial
   rw [Ry b 12 (by omega), show [b.take 4, Cj (EK (b.take 4)), Cj (EK ((b.drop 12).take (Dh b)))].flatten = b.take 4 ++ (Cj (EK (b.take 4)) ++ Cj (EK ((b.drop 12).take (Dh b)))) by simp]
   refine BH (Abd (b.take 12) _ (by rw [List.length_take]; omega)) fun n6 h10 => ?_
   have hc : Jr b = if b.take 12 = b.take 4 ++ (Cj (EK (b.take 4)) ++ Cj (EK ((b.drop 12).take (Dh b)))) then some ((b.drop 12).take (Dh b), (b.drop 12).drop (Dh b)) else none := by
    rw [Jr, if_neg (by omega), if_neg (by omega), if_neg (by omega)]
   rw [hc]
   rcases Decidable.em (b.take 12 = b.take 4 ++ (Cj (EK (b.take 4)) ++ Cj (EK ((b.drop 12).take (Dh b))))) with e | e
   ·rw [decide_eq_true e, if_pos e]
    refine WKX @hd ?_; try with_reducible exact trivial
    rw [← hd, Afk (b.drop 12) (Dh b), Ry (b.drop 12) (Dh b) (by omega)]
    exact BU ⟨rfl, rfl⟩
   ·rw [decide_eq_false e, if_neg e]
    refine WKX @hd ?_; try with_reducible exact trivial
    refine EE (t' := .mk _) ?_
    exact BU ⟨rfl, rfl⟩
theorem Aag {i nx : Nat} {held : List Nat} {r : Ad} {K : D → Ad → Nat → Prop} {tg : Cf K} (L : LL) (b : Bs) (j : Nat) (hne : j ≠ i) (hg : Cc r i = some (.row Am 1 L.length (L.map bytesD))) (hj : Cc r j = some (.row Am 1 1 [bytesD b])) (hl : L.length ≤ 2000000) (hh : i ∉ held)
  (k : K (.h nx) ((nx, .row Am 1 (L ++ [b]).length ((L ++ [b]).map bytesD)) :: Ho r i) (nx + 1)) : EN Tryz.prog #[Ej, Ej] Ej (.h i) (.h j) held r nx K tg :=
 NY (i := i) (m := 1) (l' := [bytesD b]) elM (l := L.map bytesD) (n := L.length) hg (JA.row hj (by simp [D.plain])) rfl (by simp [BF]) (by omega) (by omega) hh (by
  have e1 : (L ++ [b]).length = L.length + 1 := by simp
  have e2 : (L ++ [b]).map bytesD = L.map bytesD ++ [bytesD b] := by simp
  rw [← e1, ← e2]; exact k)
def KZ : Nat → Bs → LL × Bs
 | 0, b => ([], b)
 | k + 1, b => match Jr b with
  | none => ([], b)
  | some p => (p.1 :: (KZ k p.2).1, (KZ k p.2).2)
def MK (b : Bs) : LL × Bs := KZ b.length b
theorem O7 {b : Bs} {p : Bs × Bs} (h : Jr b = some p) : p.1.length + p.2.length + 12 = b.length ∧ p.1.length ≤ 65535 := by
 unfold Jr at h
 split at h
 ·cases h
 ·split at h
  ·cases h
  ·split at h
   ·cases h
   ·split at h
    ·cases h
     simp only [List.length_take, List.length_drop]
     omega
    ·cases h
theorem PK : ∀ (k : Nat) (b : Bs), b.length ≤ k → KZ k b = KZ b.length b
 | 0, b, h => by rw [show b.length = 0 by omega]
 | k + 1, b, h => by
  cases b with
  | nil => simp [KZ, Jr]
  | cons x l =>
   simp only [List.length_cons, KZ]
   cases hc : Jr (x :: l) with
   | none => rfl
   | some p =>
    have hl := (O7 hc).1
    simp only [List.length_cons] at hl h
    dsimp only
    rw [PK k p.2 (by omega), PK l.length p.2 (by omega)]
theorem Vl (b : Bs) : MK b = match Jr b with
  | none => ([], b)
  | some p => (p.1 :: (MK p.2).1, (MK p.2).2) := by
 unfold MK
 cases b with
 | nil => simp [KZ, Jr]
 | cons x l =>
  simp only [List.length_cons, KZ]
  cases hc : Jr (x :: l) with
  | none => rfl
  | some p =>
   have hl := (O7 hc).1
   simp only [List.length_cons] at hl
   dsimp only
   rw [PK l.length p.2 (by omega)]
end Go.Proofs.YtgpkbldlkadnjaaGreat
end
section
namespace Go.Sl
open Go.RowKit
open Go.Maps (Keyed)
open Go.ChangeMaps (setBlock heap_setBlock_same heap_setBlock_other)
section
variable {E : En} {w w' : World} {Z Z' : Nat → Prop} {T T' : Nat → Option Value} {F : Nat → Nat} {r : Ad} {nx : Nat}
variable {P : Program} {held : List Nat} {e e' : Env} {de : DEnv} {K : D → Ad → Nat → Prop}
theorem Aiv {t : TypeId} {dst : Option Nat} {ty : TypeId} {pos : String} {af : Array Edge} {gu} {tg : Cf K} (k : K (.h nx) ((nx, .mp [] []) :: r) (nx + 1)) :
  EM P ⟨dst, .makeMap t none, ty, pos, af, gu⟩ de held r nx K tg := by
 intro E w Z T F en h he
 refine ⟨by simp [Op.operands, known], ?_⟩
 obtain ⟨o1, o2⟩ := h.alloc (held := held) (w' := w.alloc (.map #[] 0)) (o := .map #[] 0) (v := .map (some w.heap.size)) (d := .mp [] []) (by simp) (Fr.alloc w _) rfl rfl (by
  simp only [Ro]
  exact ⟨w.heap.size, [], fun _ => 0, rfl, ⟨_, _, Mp.made (heap_alloc_new w _)⟩, by simp only [RoL]; exact ⟨trivial, fun _ => trivial⟩, fun b => by simp⟩)
 exact .inl ⟨.map (some w.heap.size), w.alloc (.map #[] 0), by simp only [execOp, Option.map_none, Sem.run_bind, run_makeMap, Result.andThen_ok, Sem.run_pure], _, _, _, _, _, _, o1, o2, by simp only [Rs]; exact Cm _ _ _, k⟩
theorem Ok.map (h : Ok E w Z T F r nx) {i : Nat} {ks : List Value} {l : List D} (hg : Cc r i = some (.mp ks l)) : ∃ b us es clock G F2, T i = some (.map (some b)) ∧ Mp w b ks us es clock ∧ RoL w Z T l us G ∧ (∀ c, F c = G c + own (.map (some b)) c + F2 c) ∧ RL w Z T (Ho r i) F2 := by
 obtain ⟨v, F1, F2, h1, h2, h3, h4, _⟩ := h.roots.get hg
 simp only [Ro] at h2
 obtain ⟨b, us, G, rfl, ⟨es, c, hm⟩, h5, h6⟩ := h2
 exact ⟨b, us, es, c, G, F2, h1, hm, h5, fun x => by rw [h3, h6], h4⟩
theorem Ac6 {t kt et : TypeId} {m x : Operand} {ok : Bool} {dst : Option Nat} {ty : TypeId} {pos : String} {af : Array Edge} {gu} {tg : Cf K} {i j : Nat} {ks : List Value} {l : List D} {key : Value} {kl : Lit} {d : D}
  (hm : dv de r m = some (.h i)) (hx : dv de r x = some (.sc key)) (hg : Cc r i = some (.mp ks l)) (Kd : Keyed P kt) (ht : P.underlying t = some (.map kt et)) (hkey : keyOf P kt key = some kl) (hks : ∀ x ∈ ks, ∃ l, keyOf P kt x = some l)
  (hj : ks[j]? = some key) (hd : l[j]? = some d) (hp : d.plain) (k : K (if ok then .tup [d, .sc (.bool true)] else d) r nx) : EM P ⟨dst, .lookup t m x ok, ty, pos, af, gu⟩ de held r nx K tg := by
 intro E w Z T F en h he
 obtain ⟨v1, hv1, hr1⟩ := GI h.roots he hm
 obtain ⟨v2, hv2, hr2⟩ := GI h.roots he hx
 simp only [Rs] at hr1 hr2
 subst hr2
 obtain ⟨b, us, es, clock, G, F2, h1, h2, h3, h4, h5⟩ := h.map hg
 rw [h1] at hr1
 cases hr1
 obtain ⟨u, F3, F4, hu, hru, _⟩ := h3.get hd
 have hrs := (Ro.rs hp hru).1
 refine ⟨by simp [Op.operands, known, hv1, hv2], ?_⟩
 refine .inl ⟨if ok = true then .tuple #[u, .bool true] else u, w, by simp only [execOp, rho, hv1, hv2, Option.getD_some, Sem.run_bind, h2.look_at Kd ht hkey hks hj hu ok, Result.andThen_ok, Sem.run_pure], _, _, _, _, _, _, h, Grow.refl _ _ _ _ _, ?_, k⟩
 cases ok
 ·exact hrs
 ·simp only [if_true, Rs]
  exact ⟨[u, .bool true], rfl, by simp only [RsL]; exact ⟨u, _, rfl, hrs, _, _, rfl, by simp only [Rs], rfl⟩⟩
theorem NR {t kt et : TypeId} {m x : Operand} {ok : Bool} {dst : Option Nat} {ty : TypeId} {pos : String} {af : Array Edge} {gu} {tg : Cf K} {i : Nat} {ks : List Value} {l : List D} {key z : Value} {kl : Lit}
  (hm : dv de r m = some (.h i)) (hx : dv de r x = some (.sc key)) (hg : Cc r i = some (.mp ks l)) (Kd : Keyed P kt) (ht : P.underlying t = some (.map kt et)) (hz : ∀ w, (zeroValue et).run P w = .ok z w) (hkey : keyOf P kt key = some kl) (hks : ∀ x ∈ ks, ∃ l, keyOf P kt x = some l)
  (hn : key ∉ ks) (k : K (if ok then .tup [cv z, .sc (.bool false)] else cv z) r nx) : EM P ⟨dst, .lookup t m x ok, ty, pos, af, gu⟩ de held r nx K tg := by
 intro E w Z T F en h he
 obtain ⟨v1, hv1, hr1⟩ := GI h.roots he hm
 obtain ⟨v2, hv2, hr2⟩ := GI h.roots he hx
 simp only [Rs] at hr1 hr2
 subst hr2
 obtain ⟨b, us, es, clock, G, F2, h1, h2, h3, h4, h5⟩ := h.map hg
 rw [h1] at hr1
 cases hr1
 refine ⟨by simp [Op.operands, known, hv1, hv2], ?_⟩
 refine .inl ⟨if ok = true then .tuple #[z, .bool false] else z, w, by simp only [execOp, rho, hv1, hv2, Option.getD_some, Sem.run_bind, h2.look_no Kd ht (hz w) hkey hks hn ok, Result.andThen_ok, Sem.run_pure], _, _, _, _, _, _, h, Grow.refl _ _ _ _ _, ?_, k⟩
 cases ok
 ·exact AfQ _ _ _ _
 ·simp only [if_true, Rs]
  exact ⟨[z, .bool false], rfl, by simp only [RsL]; exact ⟨z, _, rfl, AfQ _ _ _ _, _, _, rfl, by simp only [Rs], rfl⟩⟩
theorem Ok.mapset (h : Ok E w Z T F r nx) {i : Nat} {ks : List Value} {l : List D} (hg : Cc r i = some (.mp ks l)) (hh : i ∉ held) : ∃ b us es clock G, T i = some (.map (some b)) ∧ Mp w b ks us es clock ∧ RoL w Z T l us G ∧
  ∀ (es' : Array MapEntry) (c' : Nat) (ks' us' : List Value) (l' : List D) (G' : Nat → Nat), (∀ w', w'.heap[b]? = some (.map es' c') → Mp w' b ks' us' es' c') → RoL w Z T l' us' G' → (∀ c, G' c ≤ G c) →
   ∃ F', Ok E (setBlock w b (.map es' c')) Z T F' (Fh r i (.mp ks' l')) nx ∧ Grow r w Z T (setBlock w b (.map es' c')) Z T held := by
 obtain ⟨v, F1, F2, h1, h2, h3, h4, h5⟩ := h.roots.get hg
 simp only [Ro] at h2
 obtain ⟨b, us, G, rfl, ⟨es, c, hm⟩, h6, h7⟩ := h2
 refine ⟨b, us, es, c, G, h1, hm, h6, fun es' c' ks' us' l' G' hmp hro hle => ?_⟩
 have hown : own (.map (some b)) b = 1 := by simp [own, blk]
 have hone : F b ≤ 1 := h.one b
 have hGb : G b = 0 ∧ F2 b = 0 := by have := h3 b; have := h7 b; omega
 have hzb : ∀ x, Z x → x ≠ b := fun x hx e => by
  have := (h.zlt x hx).2
  have := h3 x; have := h7 x
  subst e
  omega
 have hother : ∀ x, x ≠ b → (setBlock w b (.map es' c')).heap[x]? = w.heap[x]? := fun x hx => heap_setBlock_other hm.at_ _ hx
 have hfr : Fr (· = b) w (setBlock w b (.map es' c')) := ⟨rfl, rfl, rfl, by simp [setBlock], fun x _ hx => hother x hx⟩
 have hro' : RoL (setBlock w b (.map es' c')) Z T l' us' G' := RoL.keep (fun _ h => h) (fun _ _ h => h) l' us' G' (fun x hx => hother x (by
  rcases hx with hx | hx
  ·intro e; subst e; have := hle x; omega
  ·exact hzb x hx)) hro
 have hd' : Ro (setBlock w b (.map es' c')) Z T (.mp ks' l') (.map (some b)) (fun x => G' x + own (.map (some b)) x) := by
  simp only [Ro]
  exact ⟨b, us', G', rfl, ⟨es', c', hmp _ (heap_setBlock_same hm.at_ _)⟩, hro', fun _ => rfl⟩
 have hrl := h5 (setBlock w b (.map es' c')) Z T (.mp ks' l') (.map (some b)) _ (fun x hx => hother x (by
  rcases hx with hx | hx
  ·intro e; subst e; omega
  ·exact hzb x hx)) (fun _ h => h) (fun _ _ h => h) h1 hd'
 obtain ⟨o1, o2⟩ := h.write (d' := .mp ks' l') h1 (b0 := b) rfl h3 (F1' := fun x => G' x + own (.map (some b)) x) (fun x => by have := h7 x; have := hle x; omega) (by have := h7 b; omega) hfr hrl hh h4
 exact ⟨_, o1, o2⟩
variable {KU : Ad → Nat → Prop}
theorem TE {t kt et : TypeId} {m x v : Operand} {dst : Option Nat} {ty : TypeId} {pos : String} {af : Array Edge} {gu} {tg : Cf KU} {i : Nat} {ks : List Value} {l : List D} {key : Value} {kl : Lit} {d : D}
  (hm : dv de r m = some (.h i)) (hx : dv de r x = some (.sc key)) (hv : dv de r v = some d) (hg : Cc r i = some (.mp ks l)) (Kd : Keyed P kt) (ht : P.underlying t = some (.map kt et)) (hkey : keyOf P kt key = some kl) (hks : ∀ x ∈ ks, ∃ l, keyOf P kt x = some l)
  (hn : key ∉ ks) (hp : d.plain) (hh : i ∉ held) (k : KU (Fh r i (.mp (ks ++ [key]) (l ++ [d]))) nx) : Dz P ⟨dst, .mapUpdate t m x v, ty, pos, af, gu⟩ de held r nx KU tg := by
 intro E w Z T F en h he
 obtain ⟨v1, hv1, hr1⟩ := GI h.roots he hm
 obtain ⟨v2, hv2, hr2⟩ := GI h.roots he hx
 obtain ⟨v3, hv3, hr3⟩ := GI h.roots he hv
 simp only [Rs] at hr1 hr2
 subst hr2
 obtain ⟨b, us, es, clock, G, h1, h2, h3, put⟩ := h.mapset (held := held) hg hh
 rw [h1] at hr1
 cases hr1
 obtain ⟨es', c', hrun, hmp⟩ := h2.put_no Kd ht hkey hks hn v3
 obtain ⟨F', o1, o2⟩ := put es' c' _ _ (l ++ [d]) G hmp (by
  have := RoL.append h3 (RoL.of (l := [d]) (us := [v3]) (by simp only [RsL]; exact ⟨v3, _, rfl, hr3, rfl⟩))
  simpa using this) (fun _ => Nat.le_refl _)
 refine ⟨by simp [Op.operands, known, hv1, hv2, hv3], _, ?_, _, _, _, _, _, o1, o2, k⟩
 simp only [execOp, rho, hv1, hv2, hv3, Option.getD_some, Sem.run_bind, hrun, Result.andThen_ok, Sem.run_pure]
theorem AeN {t kt et : TypeId} {m x v : Operand} {dst : Option Nat} {ty : TypeId} {pos : String} {af : Array Edge} {gu} {tg : Cf KU} {i j : Nat} {ks : List Value} {l : List D} {key : Value} {kl : Lit} {d d0 : D}
  (hm : dv de r m = some (.h i)) (hx : dv de r x = some (.sc key)) (hv : dv de r v = some d) (hg : Cc r i = some (.mp ks l)) (Kd : Keyed P kt) (ht : P.underlying t = some (.map kt et)) (hkey : keyOf P kt key = some kl) (hks : ∀ x ∈ ks, ∃ l, keyOf P kt x = some l)
  (hj : ks[j]? = some key) (hd0 : l[j]? = some d0) (hp : d.plain) (hh : i ∉ held) (k : KU (Fh r i (.mp ks (l.set j d))) nx) : Dz P ⟨dst, .mapUpdate t m x v, ty, pos, af, gu⟩ de held r nx KU tg := by
 intro E w Z T F en h he
 obtain ⟨v1, hv1, hr1⟩ := GI h.roots he hm
 obtain ⟨v2, hv2, hr2⟩ := GI h.roots he hx
 obtain ⟨v3, hv3, hr3⟩ := GI h.roots he hv
 simp only [Rs] at hr1 hr2
 subst hr2
 obtain ⟨b, us, es, clock, G, h1, h2, h3, put⟩ := h.mapset (held := held) hg hh
 rw [h1] at hr1
 cases hr1
 obtain ⟨u, F3, F4, hu, hru, hG, hset⟩ := h3.get hd0
 obtain ⟨es', c', hrun, hmp⟩ := h2.put_at Kd ht hkey hks hj hu v3
 obtain ⟨F', o1, o2⟩ := put es' c' _ _ (l.set j d) _ hmp (hset d v3 _ (Ro.of hr3)) (fun c => by have := hG c; omega)
 refine ⟨by simp [Op.operands, known, hv1, hv2, hv3], _, ?_, _, _, _, _, _, o1, o2, k⟩
 simp only [execOp, rho, hv1, hv2, hv3, Option.getD_some, Sem.run_bind, hrun, Result.andThen_ok, Sem.run_pure]
end
end Go.Sl
end
section
namespace Go.Sl
open Go.RowKit
open Go.Maps (Keyed)
section
variable {E : En} {w w' : World} {Z Z' : Nat → Prop} {T T' : Nat → Option Value} {F : Nat → Nat} {r : Ad} {nx : Nat}
variable {P : Program} {held : List Nat} {e e' : Env} {de : DEnv} {K : D → Ad → Nat → Prop}
theorem ZM (hr : RL w Z T r F) {i j : Nat} {ks : List Value} {l : List D} {x : D} (hg : Cc r i = some (.mp ks l)) (hx : l[j]? = some x) :
  ∃ b us es clock u Fx, T i = some (.map (some b)) ∧ Mp w b ks us es clock ∧ us[j]? = some u ∧ Ro w Z T x u Fx ∧
   ∀ d', Rs w Z T d' u → T nx = some u → RL w Z T ((nx, x) :: Fh r i (.mp ks (l.set j d'))) F := by
 obtain ⟨v, F1, F2, h1, h2, h3, h4, h5⟩ := hr.get hg
 simp only [Ro] at h2
 obtain ⟨b, us, G, rfl, ⟨es, clock, hm⟩, h6, h7⟩ := h2
 obtain ⟨u, Fa, Fb, g1, g2, g3, g4⟩ := h6.get hx
 refine ⟨b, us, es, clock, u, Fa, h1, hm, g1, g2, fun d' hd' ht => ?_⟩
 have hro : Ro w Z T (.mp ks (l.set j d')) (.map (some b)) (fun c => (0 + Fb c) + own (.map (some b)) c) := by
  simp only [Ro]
  refine ⟨b, us, fun c => 0 + Fb c, rfl, ⟨es, clock, hm⟩, ?_, fun c => rfl⟩
  have := g4 d' u (fun _ => 0) (Ro.of hd')
  rw [GG g1] at this
  exact this
 have := h5 w Z T _ _ _ (fun _ _ => rfl) (fun _ h => h) (fun _ _ h => h) h1 hro
 exact ⟨u, Fa, _, ht, g2, this, fun y => by
  have e1 := h3 y
  have e2 := h7 y
  have e3 := g3 y
  show F y = Fa y + (0 + Fb y + own _ y + F2 y)
  omega⟩
theorem Kq {t kt et : TypeId} {m x : Operand} {ok : Bool} {dst : Option Nat} {ty : TypeId} {pos : String} {af : Array Edge} {gu} {tg : Cf K} {i j : Nat} {ks : List Value} {l : List D} {key : Value} {kl : Lit} {eb : TypeId} {lc : List D}
  (hm : dv de r m = some (.h i)) (hx : dv de r x = some (.sc key)) (hg : Cc r i = some (.mp ks l)) (Kd : Keyed P kt) (ht : P.underlying t = some (.map kt et)) (hkey : keyOf P kt key = some kl) (hks : ∀ x ∈ ks, ∃ l, keyOf P kt x = some l)
  (hj : ks[j]? = some key) (hd : l[j]? = some (.box eb lc)) (k : K (if ok then .tup [.hp nx 0, .sc (.bool true)] else .hp nx 0) ((nx, .box eb lc) :: Fh r i (.mp ks (l.set j (.hp nx 0)))) (nx + 1)) : EM P ⟨dst, .lookup t m x ok, ty, pos, af, gu⟩ de held r nx K tg := by
 intro E w Z T F en h he
 obtain ⟨v1, hv1, hr1⟩ := GI h.roots he hm
 obtain ⟨v2, hv2, hr2⟩ := GI h.roots he hx
 simp only [Rs] at hr1 hr2
 subst hr2
 obtain ⟨b, us, es, clock, u, Fx, h1, h2, hu, hru, _⟩ := ZM (nx := nx) h.roots hg hd
 rw [h1] at hr1
 cases hr1
 have hone := Nb hru (.inl ⟨_, _, rfl⟩)
 have hT := Gx (v := u) (h.t nx (Nat.le_refl _))
 have hr' : RL w Z (GL T nx u) r F := h.roots.keep (fun _ h => h) hT (fun _ _ => rfl)
 obtain ⟨b', us', es', clock', u', Fx', k1, k2, ku, kru, kk⟩ := ZM (nx := nx) hr' hg hd
 rw [hT i _ h1] at k1
 cases k1
 have hus : us' = us := by rw [← k2.val, ← h2.val]; have := k2.at_.symm.trans h2.at_; cases this; rfl
 subst hus
 rw [hu] at ku
 cases ku
 have hrs : Rs w Z (GL T nx u) (.hp nx 0) u := by
  simp only [Ro] at hru
  obtain ⟨b2, us2, F2', rfl, _⟩ := hru
  simp only [Rs]
  exact ⟨_, b2, Cm _ _ _, rfl, rfl⟩
 obtain ⟨o1, o2⟩ := h.name (held := held) hone (fun _ => rfl) (kk (.hp nx 0) hrs (Cm _ _ _))
 refine ⟨by simp [Op.operands, known, hv1, hv2], ?_⟩
 refine .inl ⟨if ok = true then .tuple #[u, .bool true] else u, w, by simp only [execOp, rho, hv1, hv2, Option.getD_some, Sem.run_bind, h2.look_at Kd ht hkey hks hj hu ok, Result.andThen_ok, Sem.run_pure], _, _, _, _, _, _, o1, o2, ?_, k⟩
 cases ok
 ·exact hrs
 ·simp only [if_true, Rs]
  simp only [Rs] at hrs
  exact ⟨[u, .bool true], rfl, by simp only [RsL]; exact ⟨u, _, rfl, by simp only [Rs]; exact hrs, _, _, rfl, by simp only [Rs], rfl⟩⟩
theorem RT.drop (p off : Nat) {c d : D} {l : List D} (hp : Cc r p = some c) (hk : kids c = some l) (hl : l[off]? = some d) : RT r (Fh r p (D6 c (l.set off .dead))) := fun E w Z T F nx h => by
 obtain ⟨u, G1, G2, g1, g2, g3, g4, g5⟩ := h.roots.get hp
 obtain ⟨us, K1, K2, k1, k2, k3⟩ := g2.kid hk
 obtain ⟨x, X1, X2, x1, x2, x3, x4⟩ := k1.get hl
 have hset : us.set off x = us := by
  obtain ⟨hlt, he⟩ := List.getElem?_eq_some_iff.1 x1
  rw [← he]
  exact List.set_getElem_self hlt
 have hro := k3 (l.set off .dead) _ (by have := x4 .dead x (fun _ => 0) (Ro.of (by simp only [Rs])); rw [hset] at this; exact this)
 have hrl := g5 w Z T _ u _ (fun _ _ => rfl) (fun _ h => h) (fun _ _ h => h) g1 hro
 refine ⟨Z, _, h.swapR (fun _ h => h) (fun b hb => .inl hb) (fun b => ?_) (fun b hb => ?_) hrl, fun _ h => h⟩
 ·have := g3 b; have := k2 b; have := x3 b
  show 0 + X2 b + K2 b + G2 b ≤ F b
  omega
 ·have := (h.zlt b hb).2; have := g3 b; have := k2 b; have := x3 b
  show 0 + X2 b + K2 b + G2 b = 0
  omega
theorem ZG : ∀ {l : List D} {us : List Value} {G : Nat → Nat}, RoL w Z T l us G → ∀ j, ∃ G', RoL w Z T (l.eraseIdx j) (us.eraseIdx j) G' ∧ ∀ b, G' b ≤ G b
 | [], us, G, h, j => by simp only [RoL] at h; obtain ⟨rfl, h0⟩ := h; exact ⟨fun _ => 0, by simp [RoL], fun b => Nat.zero_le _⟩
 | d :: l, us, G, h, 0 => by
  simp only [RoL] at h
  obtain ⟨u, us', F1, F2, rfl, _, h2, h3⟩ := h
  exact ⟨F2, by simpa using h2, fun b => by rw [h3]; omega⟩
 | d :: l, us, G, h, j + 1 => by
  simp only [RoL] at h
  obtain ⟨u, us', F1, F2, rfl, h1, h2, h3⟩ := h
  obtain ⟨G', g1, g2⟩ := ZG h2 j
  refine ⟨fun b => F1 b + G' b, ?_, fun b => by have := g2 b; show F1 b + G' b ≤ G b; rw [h3]; omega⟩
  simp only [List.eraseIdx_cons_succ, RoL]
  exact ⟨u, _, F1, G', rfl, h1, g1, fun _ => rfl⟩
theorem UO {t t2 kt et : TypeId} {m x : Operand} {dst : Option Nat} {ty : TypeId} {pos : String} {af : Array Edge} {gu} {tg : Cf K} {i j : Nat} {ks : List Value} {l : List D} {key : Value} {kl : Lit} {d0 : D}
  (hm : dv de r m = some (.h i)) (hx : dv de r x = some (.sc key)) (hg : Cc r i = some (.mp ks l)) (Kd : Keyed P kt) (ht : P.underlying t = some (.map kt et)) (hkey : keyOf P kt key = some kl) (hks : ∀ x ∈ ks, ∃ l, keyOf P kt x = some l)
  (hj : ks[j]? = some key) (hd0 : l[j]? = some d0) (hh : i ∉ held) (k : K (.tup []) (Fh r i (.mp (ks.eraseIdx j) (l.eraseIdx j))) nx) : EM P ⟨dst, .call { callee := .builtin .delete, args := #[m, x], argTypes := #[t, t2] }, ty, pos, af, gu⟩ de held r nx K tg := by
 intro E w Z T F en h he
 obtain ⟨v1, hv1, hr1⟩ := GI h.roots he hm
 obtain ⟨v2, hv2, hr2⟩ := GI h.roots he hx
 simp only [Rs] at hr1 hr2
 subst hr2
 obtain ⟨b, us, es, clock, G, h1, h2, h3, put⟩ := h.mapset (held := held) hg hh
 rw [h1] at hr1
 cases hr1
 obtain ⟨u, F3, F4, hu, hru, hG, hset⟩ := h3.get hd0
 obtain ⟨es', hrun, hmp⟩ := h2.drop_at Kd ht hkey hks hj hu t2 ty
 obtain ⟨G', hg1, hg2⟩ := ZG h3 j
 obtain ⟨F', o1, o2⟩ := put es' clock _ _ (l.eraseIdx j) G' hmp hg1 hg2
 refine ⟨by simp [Op.operands, Call.operands, known, hv1, hv2], .inl ⟨.tuple #[], _, ?_, _, _, _, _, _, _, o1, o2, by simp only [Rs]; exact ⟨[], rfl, by simp only [RsL]⟩, k⟩⟩
 have e : execOp (rho en) ⟨dst, .call { callee := .builtin .delete, args := #[m, x], argTypes := #[t, t2] }, ty, pos, af, gu⟩ = (do pure (.value (← Builtin.delete_ #[t, t2] ty (#[m, x].map (rho en))))) := rfl
 rw [e]
 simp [rho, hv1, hv2, hrun, Result.andThen]
end
end Go.Sl
end
section
namespace Go.Sl
open Go.RowKit
open Go.ChangeMaps (setBlock heap_setBlock_same heap_setBlock_other)
def ItP (im : Nat) (ks : List Value) (l : List D) (S : List Nat) (w : World) (Z : Nat → Prop) (T : Nat → Option Value) (v : Value) (F : Nat → Nat) : Prop :=
 ∃ (rb b : Nat) (us : List Value) (es : Array MapEntry) (clock since last : Nat) (seen : Array Nat) (G : Nat → Nat),
  v = .pointer (some ⟨rb, 0, none⟩) ∧ T im = some (.map (some b)) ∧ Mp w b ks us es clock ∧ (∀ e ∈ es.toList, e.born < since) ∧ since ≤ last ∧ (S ≠ [] → last = clock) ∧ RoL w Z T l us G ∧
  w.heap[rb]? = some (.mapIter (some b) since seen last) ∧ seen.toList = S.map (fun j => ((es.toList[j]?).map (·.born)).getD 0) ∧ (∀ j ∈ S, j < ks.length) ∧ since ≤ clock ∧ rb ≠ b ∧ ∀ c, F c = (G c + own (.map (some b)) c) + own v c
def ItA (im : Nat) (ks : List Value) (l : List D) (S : List Nat) : Ab where
 p := ItP im ks l S
 keep := fun {w w' Z Z' T T' v F} h hw hZ hT => by
  obtain ⟨rb, b, us, es, clock, since, last, seen, G, h1, h2, h3, h4, h5, h6, h7, h8, h9, h10, h11, h12, h13⟩ := h
  have hb : 0 < F b := by rw [h13]; simp [own, blk]; omega
  have hr : 0 < F rb := by rw [h13, h1]; simp [own, blk]
  refine ⟨rb, b, us, es, clock, since, last, seen, G, h1, hT _ _ h2, ⟨(hw b (.inl hb)).trans h3.at_, h3.key, h3.val, h3.nodup, h3.born, h3.old⟩, h4, h5, h6, ?_, (hw rb (.inl hr)).trans h8, h9, h10, h11, h12, h13⟩
  exact RoL.keep hZ hT l us G (fun x hx => hw x (hx.imp_left fun hx => by rw [h13]; omega)) h7
section
variable {E : En} {w w' : World} {Z Z' : Nat → Prop} {T T' : Nat → Option Value} {F : Nat → Nat} {r : Ad} {nx : Nat}
variable {P : Program} {held : List Nat} {e e' : Env} {de : DEnv} {K : D → Ad → Nat → Prop}
theorem Ais {t kt et : TypeId} {m : Operand} {dst : Option Nat} {ty : TypeId} {pos : String} {af : Array Edge} {gu} {tg : Cf K} {im : Nat} {ks : List Value} {l : List D}
  (hm : dv de r m = some (.h im)) (hg : Cc r im = some (.mp ks l)) (ht : P.underlying t = some (.map kt et)) (k : K (.h nx) ((nx, .abs (ItA im ks l [])) :: Ho r im) (nx + 1)) :
  EM P ⟨dst, .range t m, ty, pos, af, gu⟩ de held r nx K tg := by
 intro E w Z T F en h he
 obtain ⟨v1, hv1, hr1⟩ := GI h.roots he hm
 simp only [Rs] at hr1
 obtain ⟨v, F1, F2, h1, h2, h3, h4, h5⟩ := h.roots.get hg
 simp only [Ro] at h2
 obtain ⟨b, us, G, rfl, ⟨es, clock, hmp⟩, h6, h7⟩ := h2
 rw [h1] at hr1
 cases hr1
 have hbF : 0 < F b := by rw [h3, h7]; simp [own, blk]; omega
 have hlt := h.lt b hbF
 let w1 := w.alloc (.mapIter (some b) clock #[] clock)
 have hsame : ∀ x, x < w.heap.size → w1.heap[x]? = w.heap[x]? := fun x hx => heap_alloc_old w _ hx
 -- the iterator alone, then with its map
 let A0 : Ab := ⟨fun w Z T v F => F = own v, fun h _ _ _ => h⟩
 obtain ⟨o1, o2⟩ := h.alloc (held := held) (w' := w1) (o := .mapIter (some b) clock #[] clock) (v := .pointer (some ⟨w.heap.size, 0, none⟩)) (d := .abs A0) (by simp [w1]) (Fr.alloc w _) rfl rfl (by simp only [Ro]; rfl)
 have hT := Gx (v := .pointer (some ⟨w.heap.size, 0, none⟩)) (h.t nx (Nat.le_refl _))
 have hk : ∀ x, 0 < F x ∨ Z x → w1.heap[x]? = w.heap[x]? := fun x hx => hsame x (by
  rcases hx with hx | hx
  ·exact h.lt x hx
  ·exact (h.zlt x hx).1)
 have hro : Ro w1 Z (GL T nx (.pointer (some ⟨w.heap.size, 0, none⟩))) (.abs (ItA im ks l [])) (.pointer (some ⟨w.heap.size, 0, none⟩)) (fun c => (G c + own (.map (some b)) c) + own (.pointer (some ⟨w.heap.size, 0, none⟩)) c) := by
  simp only [Ro]
  refine ⟨w.heap.size, b, us, es, clock, clock, clock, #[], G, rfl, hT _ _ h1, ⟨(hsame b hlt).trans hmp.at_, hmp.key, hmp.val, hmp.nodup, hmp.born, hmp.old⟩, hmp.old, Nat.le_refl _, fun h => absurd rfl h, ?_, heap_alloc_new w _, rfl, by simp, Nat.le_refl _, by omega, fun c => rfl⟩
  exact RoL.keep (fun _ h => h) hT l us G (fun x hx => hk x (hx.imp_left fun hx => by rw [h3, h7]; omega)) h6
 have hrl : RL w1 Z (GL T nx (.pointer (some ⟨w.heap.size, 0, none⟩))) ((nx, .abs (ItA im ks l [])) :: Ho r im) (fun c => own (.pointer (some ⟨w.heap.size, 0, none⟩)) c + F c) :=
  ⟨_, _, F2, Cm _ _ _, hro, h4.keep (fun _ h => h) hT (fun x hx => hk x (hx.imp_left fun hx => by rw [h3]; omega)), fun c => by
   have := h3 c; have := h7 c
   show own _ c + F c = G c + own (.map (some b)) c + own _ c + F2 c
   omega⟩
 have ok2 := o1.swapR (fun _ h => h) (fun b hb => .inl hb) (fun b => Nat.le_refl _) (fun b hb => (o1.zlt b hb).2) hrl
 refine ⟨by simp [Op.operands, known, hv1], ?_⟩
 exact .inl ⟨.pointer (some ⟨w.heap.size, 0, none⟩), w1, by simp only [execOp, rho, hv1, Option.getD_some, Sem.run_bind, run_range_map w t kt et b es clock ht hmp.at_, Result.andThen_ok, Sem.run_pure]; rfl, _, _, _, _, _, _, ok2, o2, by simp only [Rs]; exact Cm _ _ _, k⟩
theorem Aik {b : Nat} {ks us : List Value} {es : Array MapEntry} {clock : Nat} (h : Mp w b ks us es clock) {e : MapEntry} (he : e ∈ es.toList) : ∃ j : Nat, es.toList[j]? = some e ∧ ks[j]? = some e.key ∧ us[j]? = some e.val := by
 obtain ⟨j, hj, rfl⟩ := List.getElem_of_mem he
 refine ⟨j, List.getElem?_eq_getElem hj, ?_, ?_⟩
 ·rw [← h.key, List.getElem?_map, List.getElem?_eq_getElem hj]; rfl
 ·rw [← h.val, List.getElem?_map, List.getElem?_eq_getElem hj]; rfl
theorem Ack {b : Nat} {ks us : List Value} {es : Array MapEntry} {clock : Nat} (h : Mp w b ks us es clock) {S : List Nat} (hS : ∀ j ∈ S, j < ks.length) {j : Nat} {e : MapEntry} (he : es.toList[j]? = some e) :
  e.born ∈ S.map (fun j => ((es.toList[j]?).map (·.born)).getD 0) ↔ j ∈ S := by
 have hlen : es.toList.length = ks.length := by rw [← h.key, List.length_map]
 constructor
 ·intro hm
  obtain ⟨j', hj', heq⟩ := List.mem_map.1 hm
  have hlt := hS j' hj'
  have hl' : j' < es.toList.length := by omega
  rw [List.getElem?_eq_getElem hl'] at heq
  simp only [Option.map_some, Option.getD_some] at heq
  have h1 : (es.toList.map (·.born))[j']? = some e.born := by rw [List.getElem?_map, List.getElem?_eq_getElem hl', ← heq]; rfl
  have h2 : (es.toList.map (·.born))[j]? = some e.born := by rw [List.getElem?_map, he]; rfl
  have := (List.getElem?_inj (by rw [List.length_map]; exact hl') h.born).1 (h1.trans h2.symm)
  subst this
  exact hj'
 ·intro hj
  exact List.mem_map.2 ⟨j, hj, by rw [he]; rfl⟩
theorem Agb {rb : Nat} {o o' : Obj} (h : w.heap[rb]? = some o) : (setBlock w rb o').heap[rb]? = some o' := by
 have hlt := (Array.getElem?_eq_some_iff.1 h).1
 simp [setBlock, hlt]
theorem Aeg {rb x : Nat} {o : Obj} (hx : x ≠ rb) : (setBlock w rb o).heap[x]? = w.heap[x]? := by
 simp only [setBlock]
 rw [Array.getElem?_setIfInBounds_ne (Ne.symm hx)]
theorem AfD (h : Ok E w Z T F r nx) {ni im : Nat} {ks : List Value} {l : List D} {S : List Nat} (hg : Cc r ni = some (.abs (ItA im ks l S))) (hh : ni ∉ held) {rb b since last : Nat} {us : List Value} {es : Array MapEntry} {clock : Nat} {seen : Array Nat} {e : MapEntry} {j : Nat}
  (hv : T ni = some (.pointer (some ⟨rb, 0, none⟩))) (hmp : Mp w b ks us es clock) (hit : w.heap[rb]? = some (.mapIter (some b) since seen last)) (he : es.toList[j]? = some e) :
  ∃ F', Ok E (setBlock w rb (.mapIter (some b) since (seen.push e.born) clock)) Z T F' (Fh r ni (.abs (ItA im ks l (S ++ [j])))) nx ∧ Grow r w Z T (setBlock w rb (.mapIter (some b) since (seen.push e.born) clock)) Z T held := by
 obtain ⟨v, F1, F2, h1, h2, h3, h4, h5⟩ := h.roots.get hg
 rw [hv] at h1
 cases h1
 simp only [Ro] at h2
 obtain ⟨rb', b', us', es', clock', since', last', seen', G, g1, g2, g3, g4, g5, g6, g7, g8, g9, g10, g11, g12, g13⟩ := h2
 cases g1
 rw [hit] at g8
 cases g8
 have hes := hmp.at_.symm.trans g3.at_
 cases hes
 obtain rfl : us' = us := by rw [← g3.val, ← hmp.val]
 have hlen : es.toList.length = ks.length := by rw [← g3.key, List.length_map]
 have hjl : j < ks.length := by have := (List.getElem?_eq_some_iff.1 he).1; omega
 have hrb1 : 0 < F1 rb := by rw [g13]; simp [own, blk]
 have hbF : 0 < F1 b := by rw [g13]; simp [own, blk]; omega
 have hzrb : ∀ x, Z x → x ≠ rb := fun x hx e => by
  have := (h.zlt x hx).2
  have := h3 x
  subst e
  omega
 have hother : ∀ x, x ≠ rb → (setBlock w rb (.mapIter (some b) since (seen.push e.born) clock)).heap[x]? = w.heap[x]? := fun x hx => Aeg hx
 have hone : F rb ≤ 1 := h.one rb
 have hG : G rb = 0 ∧ F2 rb = 0 := by
  have := h3 rb; have := g13 rb
  have : own (.pointer (some ⟨rb, 0, none⟩)) rb = 1 := by simp [own, blk]
  omega
 have hfr : Fr (· = rb) w (setBlock w rb (.mapIter (some b) since (seen.push e.born) clock)) := ⟨rfl, rfl, rfl, by simp [setBlock], fun x _ hx => hother x hx⟩
 have hd' : Ro (setBlock w rb (.mapIter (some b) since (seen.push e.born) clock)) Z T (.abs (ItA im ks l (S ++ [j]))) (.pointer (some ⟨rb, 0, none⟩)) F1 := by
  simp only [Ro]
  refine ⟨rb, b, us', es, clock, since, clock, seen.push e.born, G, rfl, g2, ⟨(hother b (Ne.symm g12)).trans g3.at_, g3.key, g3.val, g3.nodup, g3.born, g3.old⟩, g4, g11, fun _ => rfl, ?_, Agb hit, ?_, ?_, g11, g12, g13⟩
  ·exact RoL.keep (fun _ h => h) (fun _ _ h => h) l us' G (fun x hx => hother x (by
    rcases hx with hx | hx
    ·intro e; subst e; omega
    ·exact hzrb x hx)) g7
  ·rw [Array.toList_push, g9, List.map_append, List.map_cons, List.map_nil, he]
   rfl
  ·intro k hk
   rcases List.mem_append.1 hk with hk | hk
   ·exact g10 k hk
   ·simp only [List.mem_singleton] at hk; omega
 have hrl := h5 (setBlock w rb (.mapIter (some b) since (seen.push e.born) clock)) Z T (.abs (ItA im ks l (S ++ [j]))) (.pointer (some ⟨rb, 0, none⟩)) F1 (fun x hx => hother x (by
  rcases hx with hx | hx
  ·intro e; subst e; omega
  ·exact hzrb x hx)) (fun _ h => h) (fun _ _ h => h) hv hd'
 obtain ⟨o1, o2⟩ := h.write (d' := .abs (ItA im ks l (S ++ [j]))) hv (b0 := rb) rfl h3 (F1' := F1) (fun _ => Nat.le_refl _) hrb1 hfr hrl hh h4
 exact ⟨_, o1, o2⟩
theorem dnext {it : Operand} {dst : Option Nat} {ty : TypeId} {pos : String} {af : Array Edge} {gu} {tg : Cf K} {ni im : Nat} {ks : List Value} {l : List D} {S : List Nat}
  (hm : dv de r it = some (.h ni)) (hg : Cc r ni = some (.abs (ItA im ks l S))) (hh : ni ∉ held)
  (k0 : (∀ j, j < ks.length → j ∈ S) → K (.tup [.sc (.bool false)]) r nx)
  (k1 : ∀ j key, ks[j]? = some key → j ∉ S → K (.tup [.sc (.bool true), .sc key, .dead]) (Fh r ni (.abs (ItA im ks l (S ++ [j])))) nx) :
  EM P ⟨dst, .next it false, ty, pos, af, gu⟩ de held r nx K tg := by
 intro E w Z T F en h he
 obtain ⟨v1, hv1, hr1⟩ := GI h.roots he hm
 simp only [Rs] at hr1
 obtain ⟨v, F1, F2, h1, h2, h3, h4, h5⟩ := h.roots.get hg
 rw [hr1] at h1
 cases h1
 simp only [Ro] at h2
 obtain ⟨rb, b, us, es, clock, since, last, seen, G, rfl, g2, g3, g4, g5, g6, g7, g8, g9, g10, g11, g12, g13⟩ := h2
 refine ⟨by simp [Op.operands, known, hv1], ?_⟩
 have hlen : es.toList.length = ks.length := by rw [← g3.key, List.length_map]
 rcases run_next_at (P := P) w ty rb b since last seen es clock g8 g3.at_ g4 g5 with ⟨hl, hrun⟩ | ⟨e, hel, w1, hw1, hrun⟩
 ·refine .inl ⟨.tuple #[.bool false], w, by simp only [execOp, rho, hv1, Option.getD_some, Sem.run_bind, hrun, Result.andThen_ok, Sem.run_pure], _, _, _, _, _, _, h, Grow.refl _ _ _ _ _, ?_, k0 fun j hj => ?_⟩
  ·simp only [Rs]
   exact ⟨[.bool false], rfl, by simp only [RsL]; exact ⟨_, _, rfl, by simp only [Rs], rfl⟩⟩
  ·have hje : es.toList[j]? = some es.toList[j] := List.getElem?_eq_getElem (by omega)
   refine (Ack g3 g10 hje).1 ?_
   rw [← g9]
   have hno : es.toList[j] ∉ (leftOf es seen).toList := by
    intro hc
    have : (leftOf es seen).toList.length = 0 := by rw [Array.length_toList]; exact hl
    rw [List.eq_nil_of_length_eq_zero this] at hc
    cases hc
   unfold leftOf at hno
   simp only [Array.toList_filter, List.mem_filter, not_and] at hno
   have := hno (List.getElem_mem _)
   simpa using this
 ·have hmem : e ∈ es.toList ∧ e.born ∉ seen.toList := by
   unfold leftOf at hel
   simp only [Array.toList_filter, List.mem_filter] at hel
   exact ⟨hel.1, by simpa using hel.2⟩
  obtain ⟨j, hj, hk, hu⟩ := Aik g3 hmem.1
  have hjS : j ∉ S := fun hc => hmem.2 (by rw [g9]; exact (Ack g3 g10 hj).2 hc)
  have fin : ∀ w0, w0 = w ∨ w0 = w.drew → ∃ F', Ok E (setBlock w0 rb (.mapIter (some b) since (seen.push e.born) clock)) Z T F' (Fh r ni (.abs (ItA im ks l (S ++ [j])))) nx ∧ Grow r w Z T (setBlock w0 rb (.mapIter (some b) since (seen.push e.born) clock)) Z T held := fun w0 hw0 => by
   rcases hw0 with rfl | rfl
   ·exact AfD h hg hh hr1 g3 g8 hj
   ·obtain ⟨F', o1, o2⟩ := AfD (held := held) (h.drew) hg hh hr1 (w := w.drew) ⟨g3.at_, g3.key, g3.val, g3.nodup, g3.born, g3.old⟩ g8 hj
    exact ⟨F', o1, ⟨o2.zs, o2.zz, o2.tt, o2.hd⟩⟩
  obtain ⟨F', o1, o2⟩ := fin w1 hw1
  refine .inl ⟨.tuple #[.bool true, e.key, e.val], _, by simp only [execOp, rho, hv1, Option.getD_some, Sem.run_bind, hrun, Result.andThen_ok, Sem.run_pure], _, _, _, _, _, _, o1, o2, ?_, k1 j e.key hk hjS⟩
  simp only [Rs]
  exact ⟨[.bool true, e.key, e.val], rfl, by simp only [RsL]; exact ⟨_, _, rfl, by simp only [Rs], _, _, rfl, by simp only [Rs], _, _, rfl, by simp only [Rs], rfl⟩⟩
theorem Yr {it : Operand} {dst : Option Nat} {ty : TypeId} {pos : String} {af : Array Edge} {gu} {tg : Cf K} {ni im j : Nat} {ks : List Value} {l : List D} {S : List Nat} {key : Value} {eb : TypeId} {lc : List D}
  (hm : dv de r it = some (.h ni)) (hg : Cc r ni = some (.abs (ItA im ks l (S ++ [j])))) (hj : ks[j]? = some key) (hd : l[j]? = some (.box eb lc))
  (k : K (.tup [.sc key, .hp nx 0]) ((nx, .box eb lc) :: Fh r ni (.abs (ItA im ks (l.set j (.hp nx 0)) (S ++ [j])))) (nx + 1)) :
  EM P ⟨dst, .entry it, ty, pos, af, gu⟩ de held r nx K tg := by
 intro E w Z T F en h he
 obtain ⟨v1, hv1, hr1⟩ := GI h.roots he hm
 simp only [Rs] at hr1
 obtain ⟨v, F1, F2, h1, h2, h3, h4, h5⟩ := h.roots.get hg
 rw [hr1] at h1
 cases h1
 simp only [Ro] at h2
 obtain ⟨rb, b, us, es, clock, since, last, seen, G, rfl, g2, g3, g4, g5, g6, g7, g8, g9, g10, g11, g12, g13⟩ := h2
 obtain rfl : last = clock := g6 (by simp)
 have hlen : es.toList.length = ks.length := by rw [← g3.key, List.length_map]
 have hjl := (List.getElem?_eq_some_iff.1 hj).1
 have hje : es.toList[j]? = some (es.toList[j]'(by omega)) := List.getElem?_eq_getElem (by omega)
 generalize (es.toList[j]'(by omega)) = e0 at hje
 have hkey : e0.key = key := by
  have : ks[j]? = some e0.key := by rw [← g3.key, List.getElem?_map, hje]; rfl
  rw [hj] at this; exact (Option.some.inj this).symm
 have huj : us[j]? = some e0.val := by rw [← g3.val, List.getElem?_map, hje]; rfl
 have hseen : seen = ((S.map fun j => ((es.toList[j]?).map (·.born)).getD 0).toArray).push e0.born := by
  apply Array.toList_inj.1
  rw [g9, List.map_append, List.map_cons, List.map_nil, hje, Array.toList_push]
  rfl
 have hrun := run_entry_at (P := P) w rb b since _ es last e0 (by rw [← hseen]; exact g8) g3.at_ (List.mem_of_getElem? hje) g3.born
 have hT := Gx (v := e0.val) (h.t nx (Nat.le_refl _))
 have g7' : RoL w Z (GL T nx e0.val) l us G := RoL.keep (fun _ h => h) hT l us G (fun _ _ => rfl) g7
 obtain ⟨u, Fa, Fb, q1, q2, q3, q4⟩ := g7'.get hd
 rw [huj] at q1
 cases q1
 have hone := Nb q2 (.inl ⟨_, _, rfl⟩)
 have hrs : Rs w Z (GL T nx e0.val) (.hp nx 0) e0.val := by
  simp only [Ro] at q2
  obtain ⟨b2, us2, F2', q5, _⟩ := q2
  simp only [Rs]
  exact ⟨_, b2, Cm _ _ _, by rw [q5]; rfl, q5⟩
 have hro : Ro w Z (GL T nx e0.val) (.abs (ItA im ks (l.set j (.hp nx 0)) (S ++ [j]))) (.pointer (some ⟨rb, 0, none⟩)) (fun c => ((0 + Fb c) + own (.map (some b)) c) + own (.pointer (some ⟨rb, 0, none⟩)) c) := by
  simp only [Ro]
  have hh := q4 (.hp nx 0) e0.val (fun _ => 0) (Ro.of hrs)
  rw [GG huj] at hh
  exact ⟨rb, b, us, es, last, since, last, seen, fun c => 0 + Fb c, rfl, hT _ _ g2, g3, g4, g5, fun _ => rfl, hh, g8, g9, g10, g11, g12, fun c => rfl⟩
 have hr' : RL w Z (GL T nx e0.val) r F := h.roots.keep (fun _ h => h) hT (fun _ _ => rfl)
 have hrl := h5 w Z (GL T nx e0.val) _ _ _ (fun _ _ => rfl) (fun _ h => h) hT (hT _ _ hr1) hro
 obtain ⟨o1, o2⟩ := h.name (held := held) hone (fun _ => rfl) (r' := (nx, .box eb lc) :: Fh r ni (.abs (ItA im ks (l.set j (.hp nx 0)) (S ++ [j])))) ⟨e0.val, Fa, _, Cm _ _ _, q2, hrl, fun c => by
  have := h3 c; have := g13 c; have := q3 c
  show F c = Fa c + (0 + Fb c + own (.map (some b)) c + own _ c + F2 c)
  omega⟩
 refine ⟨by simp [Op.operands, known, hv1], ?_⟩
 refine .inl ⟨.tuple #[e0.key, e0.val], w, by simp only [execOp, rho, hv1, Option.getD_some, Sem.run_bind, hrun, Result.andThen_ok, Sem.run_pure], _, _, _, _, _, _, o1, o2, ?_, k⟩
 simp only [Rs] at hrs ⊢
 exact ⟨[e0.key, e0.val], rfl, by simp only [RsL]; exact ⟨_, _, rfl, by simp only [Rs]; exact hkey, _, _, rfl, by simp only [Rs]; exact hrs, rfl⟩⟩
theorem RT.itfold (i ni im j : Nat) {ks : List Value} {l : List D} {S : List Nat} {d : D} (hi : Cc r i = some d) (hne : i ≠ ni) (hp : Cc r ni = some (.abs (ItA im ks l S))) (hl : l[j]? = some (Wn i d)) :
  RT r (Fh (Ho r i) ni (.abs (ItA im ks (l.set j d) S))) := fun E w Z T F nx h => by
 obtain ⟨v, F1, F2, h1, h2, h3, h4, _⟩ := h.roots.get hi
 have hp2 : Cc (Ho r i) ni = some (.abs (ItA im ks l S)) := by rw [Nc hne]; exact hp
 obtain ⟨u, G1, G2, g1, g2, g3, g4, g5⟩ := h4.get hp2
 simp only [Ro] at g2
 obtain ⟨rb, b, us, es, clock, since, last, seen, G, rfl, k2, k3, k4, k5, k6, k7, k8, k9, k10, k11, k12, k13⟩ := g2
 obtain ⟨x, X1, X2, x1, x2, x3, x4⟩ := k7.get hl
 obtain ⟨x5, x6⟩ := x2.rs (Wl i d)
 have hx : x = v := Afs h2 h1 x5
 subst hx
 have hset : us.set j x = us := by
  obtain ⟨hlt, he⟩ := List.getElem?_eq_some_iff.1 x1
  rw [← he]
  exact List.set_getElem_self hlt
 have hh := x4 d x F1 h2
 rw [hset] at hh
 have hro : Ro w Z T (.abs (ItA im ks (l.set j d) S)) (.pointer (some ⟨rb, 0, none⟩)) (fun c => ((F1 c + X2 c) + own (.map (some b)) c) + own (.pointer (some ⟨rb, 0, none⟩)) c) := by
  simp only [Ro]
  exact ⟨rb, b, us, es, clock, since, last, seen, _, rfl, k2, k3, k4, k5, k6, hh, k8, k9, k10, k11, k12, fun c => rfl⟩
 have hrl := g5 w Z T _ _ _ (fun _ _ => rfl) (fun _ h => h) (fun _ _ h => h) g1 hro
 refine ⟨Z, F, h.swapR (fun _ h => h) (fun b hb => .inl hb) (fun b => Nat.le_refl _) (fun b hb => (h.zlt b hb).2) (hrl.cast fun c => ?_), fun _ h => h⟩
 show F c = F1 c + X2 c + own (.map (some b)) c + own _ c + G2 c
 have := h3 c; have := g3 c; have := k13 c; have := x3 c; have := x6 c
 omega
theorem RT.itdone (ni im : Nat) {ks : List Value} {l : List D} {S : List Nat} (hg : Cc r ni = some (.abs (ItA im ks l S))) : RT r ((im, .mp ks l) :: Ho r ni) := fun E w Z T F nx h => by
 obtain ⟨v, F1, F2, h1, h2, h3, h4, _⟩ := h.roots.get hg
 simp only [Ro] at h2
 obtain ⟨rb, b, us, es, clock, since, last, seen, G, rfl, k2, k3, k4, k5, k6, k7, k8, k9, k10, k11, k12, k13⟩ := h2
 have hro : Ro w Z T (.mp ks l) (.map (some b)) (fun c => G c + own (.map (some b)) c) := by
  simp only [Ro]
  exact ⟨b, us, G, rfl, ⟨es, clock, k3⟩, k7, fun c => rfl⟩
 refine ⟨Z, fun c => (G c + own (.map (some b)) c) + F2 c, h.swapR (fun _ h => h) (fun b hb => .inl hb) (fun c => ?_) (fun c hc => ?_) ⟨_, _, F2, k2, hro, h4, fun c => rfl⟩, fun _ h => h⟩
 ·have := h3 c; have := k13 c
  show G c + own (.map (some b)) c + F2 c ≤ F c
  omega
 ·have := (h.zlt c hc).2; have := h3 c; have := k13 c
  show G c + own (.map (some b)) c + F2 c = 0
  omega
end
end Go.Sl
end
section
namespace Go.Sl
open Go.RowKit
section
variable {E : En} {w w' : World} {Z Z' : Nat → Prop} {T T' : Nat → Option Value} {F : Nat → Nat} {r : Ad} {nx : Nat}
variable {P : Program} {held : List Nat} {e e' : Env} {de : DEnv} {K : D → Ad → Nat → Prop}
def NoZ (t : D) : Prop := ∀ (w : World) (Z Z' : Nat → Prop) (T : Nat → Option Value) (v : Value) (F : Nat → Nat), Ro w Z T t v F → Ro w Z' T t v F
def NoZs (d : D) : Prop := ∀ (w : World) (Z Z' : Nat → Prop) (T : Nat → Option Value) (v : Value), Rs w Z T d v → Rs w Z' T d v
def isSc : D → Prop
 | .sc _ => True
 | _ => False
theorem AcC : ∀ {l : List D}, (∀ d ∈ l, isSc d) → ∀ (w : World) (Z Z' : Nat → Prop) (T : Nat → Option Value) (us : List Value) (F : Nat → Nat), RoL w Z T l us F → RoL w Z' T l us F
 | [], _, w, Z, Z', T, us, F, h => by simp only [RoL] at h ⊢; exact h
 | d :: l, hl, w, Z, Z', T, us, F, h => by
  simp only [RoL] at h ⊢
  obtain ⟨u, us', F1, F2, rfl, h1, h2, h3⟩ := h
  refine ⟨u, us', F1, F2, rfl, ?_, AcC (fun d hd => hl d (by simp [hd])) w Z Z' T us' F2 h2, h3⟩
  have := hl d (by simp)
  cases d <;> simp only [isSc] at this
  simp only [Ro, Rs] at h1 ⊢
  exact h1
theorem AjC {e s n : Nat} {l : List D} (h : ∀ d ∈ l, isSc d) : NoZ (.row e s n l) := fun w Z Z' T v F hr => by
 simp only [Ro] at hr ⊢
 obtain ⟨us, F', h1, h2, h3⟩ := hr
 exact ⟨us, F', h1, AcC h w Z Z' T us F' h2, h3⟩
theorem noZs_h (i : Nat) : NoZs (.h i) := fun w Z Z' T v h => by simp only [Rs] at h ⊢; exact h
theorem AjB (v : Value) : NoZs (.sc v) := fun w Z Z' T u h => by simp only [Rs] at h ⊢; exact h
theorem RT.cons (p : Nat × D) {r' : Ad} (h : RT r r') : RT (p :: r) (p :: r') := fun E w Z T F nx ok => by
 obtain ⟨v, F1, F2, h1, h2, h3, h4⟩ := ok.roots
 have hok : Ok ⟨w, Z, T, F2, nx⟩ w Z T F2 r nx := ⟨Fr.refl _ _, fun _ h => h, fun _ _ h => .inl h, fun _ _ => Nat.le_refl _, fun _ _ h => h, fun b => by have := ok.one b; have := h4 b; omega, fun b hb => ok.lt b (by have := h4 b; omega), fun b hb => ⟨(ok.zlt b hb).1, by have := (ok.zlt b hb).2; have := h4 b; omega⟩, ok.t, ok.cell, Nat.le_refl _, h3⟩
 obtain ⟨Z', F', o, z⟩ := h _ _ _ _ _ _ hok
 have hs := ok.fr.size
 have hF : ∀ b, F' b ≤ F2 b := fun b => by
  rcases Nat.eq_zero_or_pos (F' b) with h0 | h0
  ·omega
  ·exact o.fo b (o.lt b h0)
 have hz : ∀ b, Z' b → F1 b = 0 := fun b hb => by
  rcases o.zo b (o.zlt b hb).1 hb with k | k
  ·have := (ok.zlt b k).2; have := h4 b; omega
  ·have := ok.one b; have := h4 b; dsimp only at k; omega
 refine ⟨Z', fun b => F1 b + F' b, ⟨ok.fr, fun b hb => z b (ok.z b hb), fun b hb hz' => ?_, fun b hb => ?_, ok.names, fun b => ?_, fun b hb => ?_, fun b hb => ⟨(o.zlt b hb).1, ?_⟩, ok.t, ok.cell, ok.ge, ⟨v, F1, F', h1, Ro.keep z (fun _ _ h => h) _ _ _ (fun _ _ => rfl) h2, o.roots, fun _ => rfl⟩⟩, z⟩
 ·rcases o.zo b (o.zlt b hz').1 hz' with k | k
  ·exact ok.zo b hb k
  ·have := ok.fo b hb; have := h4 b; dsimp only at k; exact .inr (by omega)
 ·have := ok.fo b hb; have := h4 b; have := hF b; omega
 ·have := ok.one b; have := h4 b; have := hF b; omega
 ·exact ok.lt b (by have := h4 b; have := hF b; (try dsimp only at hb); omega)
 ·have := (o.zlt b hb).2; have := hz b hb; omega
theorem AgO {r1 : Ad} {f : FuncId} {ds : List D} {g : Nat → D} {t : D} {tg : Cf K} (h : RT r r1) (hc : NZ P f (ds.map (Dl r1)) g t) (ht : NoZ t) (hgz : ∀ i, NoZs (g i))
  (k : ∀ i nx', nx ≤ i → i < nx' → K (g i) ((i, t) :: r) nx') : BG P f ds held r nx K tg := by
 intro E w Z T F vs ok hrs
 obtain ⟨Z1, F1, o1, z1⟩ := h E w Z T F nx ok
 have hrs1 : RsL w Z1 T (ds.map (Dl r1)) vs := RsL.res o1.roots (RsL.keep (fun _ _ => rfl) z1 (fun _ _ h => h) _ _ hrs)
 have hok : Ok ⟨w, Z1, T, fun _ => 0, nx⟩ w Z1 T (fun _ => 0) [] nx := ⟨Fr.refl _ _, fun _ h => h, fun _ _ h => .inl h, fun _ _ => Nat.le_refl _, fun _ _ h => h, fun b => by simp, fun b hb => by simp at hb, fun b hb => ⟨(o1.zlt b hb).1, rfl⟩, o1.t, o1.cell, Nat.le_refl _, fun _ => rfl⟩
 refine (hc nx w Z1 T _ vs hok hrs1).mono fun en w' ⟨v, hv, d, r', nx', Z', T', F', p1, p2, i, q1, q2, q3, q4⟩ => ?_
 subst q3; subst q4
 have hsz := p1.fr.size
 have hsame : ∀ b, b < w.heap.size → w'.heap[b]? = w.heap[b]? := fun b hb => p1.fr.same b hb (by simp)
 have hF0 : ∀ b, b < w.heap.size → F' b = 0 := fun b hb => by have := p1.fo b hb; dsimp only at this; omega
 obtain ⟨v0, G1, G2, t1, t2, t3, t4⟩ := p1.roots
 have hG2 : ∀ b, G2 b = 0 := t3
 refine ⟨v, hv, g i, (i, t) :: r, nx', Z, T', fun b => F' b + F b, ?_, ?_, hgz i _ _ _ _ _ p2, k i nx' q1 q2⟩
 ·refine ⟨ok.fr.step p1.fr (fun b hb hM => by simp at hM), ok.z, ok.zo, fun b hb => ?_, fun i u hu => p1.names i u (ok.names i u hu), fun b => ?_, fun b hb => ?_, fun b hb => ?_, p1.t, p1.cell, Nat.le_trans ok.ge p1.ge, ?_⟩
  ·have := ok.fr.size
   have := hF0 b (by omega)
   have := ok.fo b hb
   omega
  ·by_cases hb : b < w.heap.size
   ·have := hF0 b hb; have := ok.one b; omega
   ·have : F b = 0 := by
     rcases Nat.eq_zero_or_pos (F b) with h | h
     ·exact h
     ·exact absurd (ok.lt b h) hb
    have := p1.one b; omega
  ·by_cases h0 : 0 < F' b
   ·exact p1.lt b h0
   ·have := ok.lt b (by omega); dsimp only at hsz; omega
  ·have h1 := ok.zlt b hb
   have := hF0 b h1.1
   dsimp only at hsz
   exact ⟨by omega, by omega⟩
  ·exact ⟨v0, G1, F, t1, ht _ _ _ _ _ _ t2, ok.roots.keep (fun _ h => h) p1.names (fun b hb => hsame b (by
    rcases hb with hb | hb
    ·exact ok.lt b hb
    ·exact (ok.zlt b hb).1)), fun b => by have := t4 b; have := hG2 b; show F' b + F b = G1 b + F b; omega⟩
 ·refine ⟨fun b hb => hsame b (ok.zlt b hb).1, fun _ h => h, p1.names, fun j hj ho u b hu hbk => ?_⟩
  obtain ⟨d', H1, H2, _, _, g3, g4, _⟩ := Lp ok.roots ho hu hbk
  have := g3 b
  exact hsame b (ok.lt b (by omega))
end
end Go.Sl
end
section
namespace Go.Proofs.YtgpkbldlkadnjaaGreat
open Go Go.Sl
-- 13 shardlog/disk.New; Aw [(0, capacity), (1, capacity)]
noncomputable def m_disk_New : MF := ⟨9, [.t 2],
 .seq (
 .ops [
 .p 2 .mv [(.const (.pointer none))]]) (
 .seq (
 .ops [
 .gen (some 3) ⟨(some 3), (.makeMap 97 none), 97, "disk.go:25", #[], none⟩,
 .p 4 .mv [(.tmp 0)],
 .p 5 .max [(.tmp 4), (.const (.int .i64 0))],
 .p 6 .min [(.tmp 5), (.const (.int .i64 65536))],
 .p 7 (.build [(.map none), (.int .i64 0)] [(0, 1), (1, 1)]) [(.tmp 3), (.tmp 6)],
 .box 8 Ah (.tmp 7),
 .p 2 .mv [(.tmp 8)]]) (
 .ret))⟩

theorem Ae2 : trF Tryz.prog NQ = some m_disk_New := by kernel_rfl
-- 20 (*shardlog/disk.Disk).Crash; Aw [(0, d), (1, keep), (2, d), (3, keep), (4, _), (5, name), (6, f), (7, rest), (8, n)]
-- 22 (*shardlog/disk.Disk).Read; Aw [(0, d), (1, name), (2, d), (3, name), (6, f)]
noncomputable def m_disk_Disk_Read : MF := ⟨20, [.t 4, .t 5],
 .seq (
 .ops [
 .p 4 .mv [(.const (.slice none 0 0))],
 .p 5 .mv [(.const (.int .i64 0))]]) (
 .seq (
 .ops [
 .p 7 .mv [(.tmp 0)],
 .p 8 .nilc [(.tmp 7)],
 .p 9 (.fad 0) [(.tmp 8)],
 .ld 10 (.tmp 9),
 .p 11 .mv [(.tmp 1)],
 .gen (some 12) ⟨(some 12), (.lookup 97 (.tmp 10) (.tmp 11) false), 119, "disk.go:71", #[⟨3, .data⟩, ⟨4, .data⟩], none⟩,
 .p 6 .mv [(.tmp 12)]]) (
 .seq (
 .seq (
 .ops [
 .p 13 .mv [(.tmp 6)],
 .p 14 (.isnil .pt false) [(.tmp 13)]]) (
 .cond (.tmp 14) (
 .seq (
 .ops [
 .p 4 .mv [(.const (.slice none 0 0))],
 .p 5 .mv [(.const (.int .i64 5))]]) (
 .ret)) (
 .skip))) (
 .seq (
 .ops [
 .p 15 .mv [(.tmp 6)],
 .p 16 .nilc [(.tmp 15)],
 .p 17 (.fad 0) [(.tmp 16)],
 .ld 18 (.tmp 17),
 .call (some 19) Eo [(.tmp 18)],
 .p 4 .mv [(.tmp 19)],
 .p 5 .mv [(.const (.int .i64 0))]]) (
 .ret))))⟩

theorem Pe : trF Tryz.prog D9 = some m_disk_Disk_Read := by kernel_rfl
-- 36 (*shardlog/disk.Disk).Append; Aw [(0, d), (1, name), (2, b), (3, d), (4, name), (5, b), (7, f)]
noncomputable def m_disk_Disk_Append : MF := ⟨52, [.t 6],
 .seq (
 .ops [
 .p 6 .mv [(.const (.int .i64 0))]]) (
 .seq (
 .block 0 (
 .seq (
 .ops [
 .p 9 .mv [(.tmp 1)],
 .call (some 10) KO [(.tmp 9)],
 .p 11 .not [(.tmp 10)],
 .p 8 .mv [(.tmp 11)]]) (
 .cond (.tmp 8) (
 .seq (
 .ops [
 .p 6 .mv [(.const (.int .i64 1))]]) (
 .ret)) (
 .seq (
 .dr (
 .one ⟨.p 13 .mv [(.tmp 2)], []⟩ (
 .one ⟨.p 14 .len [(.tmp 13)], []⟩ (
 .one ⟨.p 15 .mv [(.tmp 0)], []⟩ (
 .one ⟨.p 16 .nilc [(.tmp 15)], []⟩ (
 .one ⟨.p 17 (.fad 1) [(.tmp 16)], []⟩ (
 .one ⟨.ld 18 (.tmp 17), []⟩ (
 .one ⟨.p 19 .mv [(.tmp 0)], []⟩ (
 .one ⟨.call (some 20) Lt [(.tmp 19)], [.ld 18 (.tmp 17)]⟩ (
 .one ⟨.p 21 (.bin .sub) [(.tmp 18), (.tmp 20)], []⟩ (
 .one ⟨.p 22 (.bin .gtr) [(.tmp 14), (.tmp 21)], []⟩ (
 .one ⟨.p 12 .mv [(.tmp 22)], []⟩ (
 .nil))))))))))))) (
 .cond (.tmp 12) (
 .seq (
 .ops [
 .p 6 .mv [(.const (.int .i64 4))]]) (
 .ret)) (
 .skip)))))) (
 .seq (
 .seq (
 .ops [
 .p 23 .mv [(.tmp 0)],
 .p 24 .nilc [(.tmp 23)],
 .p 25 (.fad 0) [(.tmp 24)],
 .ld 26 (.tmp 25),
 .p 27 .mv [(.tmp 1)],
 .gen (some 28) ⟨(some 28), (.lookup 97 (.tmp 26) (.tmp 27) false), 119, "disk.go:51", #[⟨3, .data⟩, ⟨4, .data⟩], none⟩,
 .p 29 (.isnil .pt false) [(.tmp 28)]]) (
 .cond (.tmp 29) (
 .ops [
 .p 30 .mv [(.tmp 0)],
 .p 31 .nilc [(.tmp 30)],
 .p 32 (.fad 0) [(.tmp 31)],
 .ld 33 (.tmp 32),
 .p 34 .mv [(.tmp 1)],
 .p 35 (.build [(.slice none 0 0), (.int .i64 0)] []) [],
 .box 36 Aj (.tmp 35),
 .genu ⟨none, (.mapUpdate 97 (.tmp 33) (.tmp 34) (.tmp 36)), 0, "disk.go:52", #[⟨3, .data⟩, ⟨4, .data⟩, ⟨6, .data⟩, ⟨0, .phase⟩, ⟨1, .phase⟩, ⟨2, .phase⟩, ⟨3, .phase⟩, ⟨4, .phase⟩, ⟨5, .phase⟩, ⟨6, .phase⟩], none⟩]) (
 .skip))) (
 .seq (
 .ops [
 .p 37 .mv [(.tmp 0)],
 .p 38 .nilc [(.tmp 37)],
 .p 39 (.fad 0) [(.tmp 38)],
 .ld 40 (.tmp 39),
 .p 41 .mv [(.tmp 1)],
 .gen (some 42) ⟨(some 42), (.lookup 97 (.tmp 40) (.tmp 41) false), 119, "disk.go:54", #[⟨3, .data⟩, ⟨4, .data⟩], none⟩,
 .p 7 .mv [(.tmp 42)]]) (
 .seq (
 .ops [
 .p 43 .mv [(.tmp 7)],
 .p 44 .mv [(.tmp 7)],
 .p 45 .nilc [(.tmp 44)],
 .p 46 (.fad 0) [(.tmp 45)],
 .ld 47 (.tmp 46),
 .p 48 .mv [(.tmp 2)],
 .app 49 #[Am, Am] Am (.tmp 47) (.tmp 48),
 .p 50 .nilc [(.tmp 43)],
 .p 51 (.fad 0) [(.tmp 50)],
 .st 1 false (.tmp 51) (.tmp 49)]) (
 .seq (
 .ops [
 .p 6 .mv [(.const (.int .i64 0))]]) (
 .ret))))))⟩

theorem TR : trF Tryz.prog Gs = some m_disk_Disk_Append := by kernel_rfl
-- 53 (*shardlog/disk.Disk).Trim; Aw [(0, d), (1, name), (2, n), (3, d), (4, name), (5, n), (7, f)]
noncomputable def m_disk_Disk_Trim : MF := ⟨48, [.t 6],
 .seq (
 .ops [
 .p 6 .mv [(.const (.int .i64 0))]]) (
 .seq (
 .ops [
 .p 8 .mv [(.tmp 0)],
 .p 9 .nilc [(.tmp 8)],
 .p 10 (.fad 0) [(.tmp 9)],
 .ld 11 (.tmp 10),
 .p 12 .mv [(.tmp 1)],
 .gen (some 13) ⟨(some 13), (.lookup 97 (.tmp 11) (.tmp 12) false), 119, "disk.go:112", #[⟨3, .data⟩, ⟨4, .data⟩], none⟩,
 .p 7 .mv [(.tmp 13)]]) (
 .seq (
 .block 0 (
 .seq (
 .ops [
 .p 15 .mv [(.tmp 7)],
 .p 16 (.isnil .pt false) [(.tmp 15)],
 .p 14 .mv [(.tmp 16)]]) (
 .cond (.tmp 14) (
 .seq (
 .ops [
 .p 6 .mv [(.const (.int .i64 5))]]) (
 .ret)) (
 .seq (
 .ops [
 .p 18 .mv [(.tmp 2)],
 .p 19 (.bin .lss) [(.tmp 18), (.const (.int .i64 0))],
 .p 20 .mv [(.tmp 19)],
 .gd 20 false (some 21) (.p 21 .mv [(.tmp 2)]),
 .gd 20 false (some 22) (.p 22 .mv [(.tmp 7)]),
 .gd 20 false (some 23) (.p 23 .nilc [(.tmp 22)]),
 .gd 20 false (some 24) (.p 24 (.fad 0) [(.tmp 23)]),
 .gd 20 false (some 25) (.ld 25 (.tmp 24)),
 .gd 20 false (some 26) (.p 26 .len [(.tmp 25)]),
 .gd 20 false (some 27) (.p 27 (.bin .gtr) [(.tmp 21), (.tmp 26)]),
 .p 28 .pick [(.tmp 20), (.const (.bool true)), (.tmp 27)],
 .p 17 .mv [(.tmp 28)]]) (
 .cond (.tmp 17) (
 .seq (
 .ops [
 .p 6 .mv [(.const (.int .i64 1))]]) (
 .ret)) (
 .skip)))))) (
 .seq (
 .dr (
 .one ⟨.p 29 .mv [(.tmp 7)], []⟩ (
 .one ⟨.p 30 .mv [(.tmp 7)], []⟩ (
 .one ⟨.p 31 .mv [(.tmp 7)], []⟩ (
 .one ⟨.p 32 .nilc [(.tmp 31)], []⟩ (
 .one ⟨.p 33 (.fad 0) [(.tmp 32)], []⟩ (
 .one ⟨.ld 34 (.tmp 33), []⟩ (
 .one ⟨.p 35 .mv [(.tmp 2)], []⟩ (
 .one ⟨.p 36 .mv [(.tmp 2)], []⟩ (
 .one ⟨.p 37 (.sls 1 false true true) [(.tmp 34), (.tmp 35), (.tmp 36)], []⟩ (
 .one ⟨.p 38 .mv [(.tmp 7)], []⟩ (
 .one ⟨.p 39 .nilc [(.tmp 38)], []⟩ (
 .one ⟨.p 40 (.fad 1) [(.tmp 39)], []⟩ (
 .one ⟨.ld 41 (.tmp 40), []⟩ (
 .one ⟨.p 42 .mv [(.tmp 2)], []⟩ (
 .one ⟨.p 43 .min [(.tmp 41), (.tmp 42)], []⟩ (
 .one ⟨.p 44 .nilc [(.tmp 29)], []⟩ (
 .one ⟨.p 45 (.fad 0) [(.tmp 44)], []⟩ (
 .one ⟨.st 1 false (.tmp 45) (.tmp 37), []⟩ (
 .one ⟨.p 46 .nilc [(.tmp 30)], []⟩ (
 .one ⟨.p 47 (.fad 1) [(.tmp 46)], []⟩ (
 .one ⟨.st 1 false (.tmp 47) (.tmp 43), []⟩ (
 .nil))))))))))))))))))))))) (
 .seq (
 .ops [
 .p 6 .mv [(.const (.int .i64 0))]]) (
 .ret)))))⟩

theorem VU : trF Tryz.prog LC = some m_disk_Disk_Trim := by kernel_rfl
-- 54 (*shardlog/disk.Disk).Sync; Aw [(0, d), (1, name), (2, d), (3, name), (5, f)]
noncomputable def m_disk_Disk_Sync : MF := ⟨22, [.t 4],
 .seq (
 .ops [
 .p 4 .mv [(.const (.int .i64 0))]]) (
 .seq (
 .ops [
 .p 6 .mv [(.tmp 0)],
 .p 7 .nilc [(.tmp 6)],
 .p 8 (.fad 0) [(.tmp 7)],
 .ld 9 (.tmp 8),
 .p 10 .mv [(.tmp 1)],
 .gen (some 11) ⟨(some 11), (.lookup 97 (.tmp 9) (.tmp 10) false), 119, "disk.go:61", #[⟨3, .data⟩, ⟨4, .data⟩], none⟩,
 .p 5 .mv [(.tmp 11)]]) (
 .seq (
 .seq (
 .ops [
 .p 12 .mv [(.tmp 5)],
 .p 13 (.isnil .pt false) [(.tmp 12)]]) (
 .cond (.tmp 13) (
 .seq (
 .ops [
 .p 4 .mv [(.const (.int .i64 5))]]) (
 .ret)) (
 .skip))) (
 .seq (
 .ops [
 .p 14 .mv [(.tmp 5)],
 .p 15 .mv [(.tmp 5)],
 .p 16 .nilc [(.tmp 15)],
 .p 17 (.fad 0) [(.tmp 16)],
 .ld 18 (.tmp 17),
 .p 19 .len [(.tmp 18)],
 .p 20 .nilc [(.tmp 14)],
 .p 21 (.fad 1) [(.tmp 20)],
 .st 1 false (.tmp 21) (.tmp 19)]) (
 .seq (
 .ops [
 .p 4 .mv [(.const (.int .i64 0))]]) (
 .ret)))))⟩

theorem VV : trF Tryz.prog Jo = some m_disk_Disk_Sync := by kernel_rfl
-- 63 (*shardlog/disk.Disk).Rename; Aw [(0, d), (1, a), (2, b), (3, d), (4, a), (5, b), (7, f)]
noncomputable def m_disk_Disk_Rename : MF := ⟨35, [.t 6],
 .seq (
 .ops [
 .p 6 .mv [(.const (.int .i64 0))]]) (
 .seq (
 .seq (
 .ops [
 .p 8 .mv [(.tmp 1)],
 .call (some 9) KO [(.tmp 8)],
 .p 10 .not [(.tmp 9)],
 .p 11 .mv [(.tmp 10)],
 .gd 11 false (some 12) (.p 12 .mv [(.tmp 2)]),
 .gd 11 false (some 13) (.call (some 13) KO [(.tmp 12)]),
 .gd 11 false (some 14) (.p 14 .not [(.tmp 13)]),
 .p 15 .pick [(.tmp 11), (.const (.bool true)), (.tmp 14)]]) (
 .cond (.tmp 15) (
 .seq (
 .ops [
 .p 6 .mv [(.const (.int .i64 1))]]) (
 .ret)) (
 .skip))) (
 .seq (
 .ops [
 .p 16 .mv [(.tmp 0)],
 .p 17 .nilc [(.tmp 16)],
 .p 18 (.fad 0) [(.tmp 17)],
 .ld 19 (.tmp 18),
 .p 20 .mv [(.tmp 1)],
 .gen (some 21) ⟨(some 21), (.lookup 97 (.tmp 19) (.tmp 20) false), 119, "disk.go:92", #[⟨3, .data⟩, ⟨4, .data⟩], none⟩,
 .p 7 .mv [(.tmp 21)]]) (
 .seq (
 .seq (
 .ops [
 .p 22 .mv [(.tmp 7)],
 .p 23 (.isnil .pt false) [(.tmp 22)]]) (
 .cond (.tmp 23) (
 .seq (
 .ops [
 .p 6 .mv [(.const (.int .i64 5))]]) (
 .ret)) (
 .skip))) (
 .seq (
 .ops [
 .p 24 .mv [(.tmp 0)],
 .p 25 .nilc [(.tmp 24)],
 .p 26 (.fad 0) [(.tmp 25)],
 .ld 27 (.tmp 26),
 .p 28 .mv [(.tmp 1)],
 .gen none ⟨none, (.call { callee := .builtin .delete, args := #[(.tmp 27), (.tmp 28)], argTypes := #[97, Qs] }), 0, "disk.go:96", #[⟨3, .data⟩, ⟨4, .data⟩], none⟩]) (
 .seq (
 .ops [
 .p 29 .mv [(.tmp 0)],
 .p 30 .nilc [(.tmp 29)],
 .p 31 (.fad 0) [(.tmp 30)],
 .ld 32 (.tmp 31),
 .p 33 .mv [(.tmp 2)],
 .p 34 .mv [(.tmp 7)],
 .genu ⟨none, (.mapUpdate 97 (.tmp 32) (.tmp 33) (.tmp 34)), 0, "disk.go:97", #[⟨3, .data⟩, ⟨4, .data⟩, ⟨5, .data⟩, ⟨0, .phase⟩, ⟨1, .phase⟩, ⟨2, .phase⟩, ⟨3, .phase⟩, ⟨4, .phase⟩, ⟨5, .phase⟩], none⟩]) (
 .seq (
 .ops [
 .p 6 .mv [(.const (.int .i64 0))]]) (
 .ret)))))))⟩

theorem TP : trF Tryz.prog Iy = some m_disk_Disk_Rename := by kernel_rfl
-- 64 (*shardlog/disk.Disk).Names; Aw [(0, d), (1, d)]
noncomputable def m_disk_Disk_Names : MF := ⟨9, [.t 2],
 .seq (
 .ops [
 .p 2 .mv [(.const (.slice none 0 0))]]) (
 .seq (
 .ops [
 .p 3 .mv [(.tmp 0)],
 .p 4 .nilc [(.tmp 3)],
 .p 5 (.fad 0) [(.tmp 4)],
 .ld 6 (.tmp 5),
 .call (some 7) QV [(.tmp 6)],
 .call (some 8) WO [(.tmp 7)],
 .p 2 .mv [(.tmp 8)]]) (
 .ret))⟩

theorem U4 : trF Tryz.prog KP = some m_disk_Disk_Names := by kernel_rfl
-- 65 shardlog/disk.distance; Aw [(0, n), (1, n)]
-- 75 shardlog/disk.named; Aw [(0, s), (1, s)]
noncomputable def m_disk_named : MF := ⟨11, [.t 2],
 .seq (
 .ops [
 .p 2 .mv [(.const (.bool false))]]) (
 .seq (
 .ops [
 .p 3 .mv [(.tmp 0)],
 .p 4 .lens [(.tmp 3)],
 .p 5 (.bin .geq) [(.tmp 4), (.const (.int .i64 1))],
 .p 6 .mv [(.tmp 5)],
 .gd 6 true (some 7) (.p 7 .mv [(.tmp 0)]),
 .gd 6 true (some 8) (.p 8 .lens [(.tmp 7)]),
 .gd 6 true (some 9) (.p 9 (.bin .leq) [(.tmp 8), (.const (.int .i64 24))]),
 .p 10 .pick [(.tmp 6), (.tmp 9), (.const (.bool false))],
 .p 2 .mv [(.tmp 10)]]) (
 .ret))⟩

theorem Abu : trF Tryz.prog KO = some m_disk_named := by kernel_rfl
-- 76 (*shardlog/disk.Disk).Used; Aw [(0, d), (1, d), (3, n), (4, _), (5, f)]
noncomputable def m_disk_Disk_Used : MF := ⟨23, [.t 2],
 .seq (
 .ops [
 .p 2 .mv [(.const (.int .i64 0))]]) (
 .seq (
 .ops [
 .p 3 .mv [(.const (.int .i64 0))]]) (
 .seq (
 .seq (
 .ops [
 .p 6 .mv [(.tmp 0)],
 .p 7 .nilc [(.tmp 6)],
 .p 8 (.fad 0) [(.tmp 7)],
 .ld 9 (.tmp 8),
 .gen (some 10) ⟨(some 10), (.range 97 (.tmp 9)), 0, "disk.go:37", #[⟨3, .data⟩], none⟩]) (
 .block 0 (
 .loop (
 .seq (
 .ops [
 .gen (some 11) ⟨(some 11), (.next (.tmp 10) false), 0, "disk.go:37", #[], none⟩,
 .p 12 (.ext 0) [(.tmp 11)]]) (
 .seq (
 .cond (.tmp 12) (
 .skip) (
 .exit 0)) (
 .block 1 (
 .seq (
 .ops [
 .gen (some 13) ⟨(some 13), (.entry (.tmp 10)), 0, "disk.go:37", #[], none⟩,
 .p 14 (.ext 1) [(.tmp 13)],
 .p 5 .mv [(.tmp 14)]]) (
 .ops [
 .p 15 .mv [(.tmp 3)],
 .p 16 .mv [(.tmp 5)],
 .p 17 .nilc [(.tmp 16)],
 .p 18 (.fad 0) [(.tmp 17)],
 .ld 19 (.tmp 18),
 .p 20 .len [(.tmp 19)],
 .p 21 (.bin .add) [(.tmp 15), (.tmp 20)],
 .p 3 .mv [(.tmp 21)]])))))))) (
 .seq (
 .ops [
 .p 22 .mv [(.tmp 3)],
 .p 2 .mv [(.tmp 22)]]) (
 .ret))))⟩

theorem VS : trF Tryz.prog Lt = some m_disk_Disk_Used := by kernel_rfl
-- 114 maps.Keys[map[string]*shardlog/disk.file,string,*shardlog/disk.file]; Aw [(0, m), (1, m)]
noncomputable def m_maps_Keys : MF := ⟨4, [.t 2],
 .seq (
 .ops [
 .box 1 97 (.tmp 0),
 .p 2 .mv [(.const .nilFunc)]]) (
 .seq (
 .ops [
 .p 3 (.fn (.func SV) 0) [(.tmp 1)],
 .p 2 .mv [(.tmp 3)]]) (
 .ret))⟩

theorem AdA : trF Tryz.prog QV = some m_maps_Keys := by kernel_rfl
-- 47 (*shardlog/disk.Disk).Synced; Aw [(0, d), (1, name), (2, d), (3, name), (6, f)]
noncomputable def m_disk_Disk_Synced : MF := ⟨25, [.t 4, .t 5],
 .seq (
 .ops [
 .p 4 .mv [(.const (.slice none 0 0))],
 .p 5 .mv [(.const (.int .i64 0))]]) (
 .seq (
 .ops [
 .p 7 .mv [(.tmp 0)],
 .p 8 .nilc [(.tmp 7)],
 .p 9 (.fad 0) [(.tmp 8)],
 .ld 10 (.tmp 9),
 .p 11 .mv [(.tmp 1)],
 .gen (some 12) ⟨(some 12), (.lookup 97 (.tmp 10) (.tmp 11) false), 119, "disk.go:80", #[⟨3, .data⟩, ⟨4, .data⟩], none⟩,
 .p 6 .mv [(.tmp 12)]]) (
 .seq (
 .seq (
 .ops [
 .p 13 .mv [(.tmp 6)],
 .p 14 (.isnil .pt false) [(.tmp 13)]]) (
 .cond (.tmp 14) (
 .seq (
 .ops [
 .p 4 .mv [(.const (.slice none 0 0))],
 .p 5 .mv [(.const (.int .i64 5))]]) (
 .ret)) (
 .skip))) (
 .seq (
 .dr (
 .one ⟨.p 15 .mv [(.tmp 6)], []⟩ (
 .one ⟨.p 16 .nilc [(.tmp 15)], []⟩ (
 .one ⟨.p 17 (.fad 0) [(.tmp 16)], []⟩ (
 .one ⟨.ld 18 (.tmp 17), []⟩ (
 .one ⟨.p 19 .mv [(.tmp 6)], []⟩ (
 .one ⟨.p 20 .nilc [(.tmp 19)], []⟩ (
 .one ⟨.p 21 (.fad 1) [(.tmp 20)], []⟩ (
 .one ⟨.ld 22 (.tmp 21), []⟩ (
 .one ⟨.p 23 (.sls 1 false true false) [(.tmp 18), (.tmp 22)], []⟩ (
 .one ⟨.call (some 24) Eo [(.tmp 23)], [.ld 22 (.tmp 21), .ld 18 (.tmp 17)]⟩ (
 .one ⟨.p 4 .mv [(.tmp 24)], []⟩ (
 .one ⟨.p 5 .mv [(.const (.int .i64 0))], []⟩ (
 .nil)))))))))))))) (
 .ret))))⟩

theorem TN : trF Tryz.prog Iw = some m_disk_Disk_Synced := by kernel_rfl
-- 80 (*shardlog/disk.Disk).Copy; Aw [(0, d), (1, d), (3, out), (4, name), (5, f)]
noncomputable def m_disk_Disk_Copy : MF := ⟨38, [.t 2],
 .seq (
 .ops [
 .p 2 .mv [(.const (.pointer none))]]) (
 .seq (
 .ops [
 .p 6 .mv [(.tmp 0)],
 .p 7 .nilc [(.tmp 6)],
 .p 8 (.fad 1) [(.tmp 7)],
 .ld 9 (.tmp 8),
 .call (some 10) NQ [(.tmp 9)],
 .p 3 .mv [(.tmp 10)]]) (
 .seq (
 .seq (
 .ops [
 .p 11 .mv [(.tmp 0)],
 .p 12 .nilc [(.tmp 11)],
 .p 13 (.fad 0) [(.tmp 12)],
 .ld 14 (.tmp 13),
 .gen (some 15) ⟨(some 15), (.range 97 (.tmp 14)), 0, "disk.go:164", #[⟨3, .data⟩], none⟩]) (
 .block 0 (
 .loop (
 .seq (
 .ops [
 .gen (some 16) ⟨(some 16), (.next (.tmp 15) false), 0, "disk.go:164", #[], none⟩,
 .p 17 (.ext 0) [(.tmp 16)]]) (
 .seq (
 .cond (.tmp 17) (
 .skip) (
 .exit 0)) (
 .block 1 (
 .seq (
 .ops [
 .gen (some 18) ⟨(some 18), (.entry (.tmp 15)), 0, "disk.go:164", #[], none⟩,
 .p 19 (.ext 0) [(.tmp 18)],
 .p 20 (.ext 1) [(.tmp 18)],
 .p 4 .mv [(.tmp 19)],
 .p 5 .mv [(.tmp 20)]]) (
 .dr (
 .one ⟨.p 21 .mv [(.tmp 3)], []⟩ (
 .one ⟨.p 22 .nilc [(.tmp 21)], []⟩ (
 .one ⟨.p 23 (.fad 0) [(.tmp 22)], []⟩ (
 .one ⟨.ld 24 (.tmp 23), []⟩ (
 .one ⟨.p 25 .mv [(.tmp 4)], []⟩ (
 .one ⟨.p 26 .mv [(.tmp 5)], []⟩ (
 .one ⟨.p 27 .nilc [(.tmp 26)], []⟩ (
 .one ⟨.p 28 (.fad 0) [(.tmp 27)], []⟩ (
 .one ⟨.ld 29 (.tmp 28), []⟩ (
 .one ⟨.p 31 .mv [(.tmp 5)], []⟩ (
 .one ⟨.p 32 .nilc [(.tmp 31)], []⟩ (
 .one ⟨.p 33 (.fad 1) [(.tmp 32)], []⟩ (
 .one ⟨.ld 34 (.tmp 33), []⟩ (
 .one ⟨.call (some 30) Eo [(.tmp 29)], [.ld 34 (.tmp 33), .ld 24 (.tmp 23)]⟩ (
 .one ⟨.p 35 (.build [(.slice none 0 0), (.int .i64 0)] [(0, 1), (1, 1)]) [(.tmp 30), (.tmp 34)], []⟩ (
 .one ⟨.box 36 Aj (.tmp 35), [.ld 34 (.tmp 33), .ld 24 (.tmp 23)]⟩ (
 .one ⟨.genu ⟨none, (.mapUpdate 97 (.tmp 24) (.tmp 25) (.tmp 36)), 0, "disk.go:165", #[⟨3, .data⟩, ⟨4, .data⟩, ⟨15, .data⟩, ⟨9, .chain⟩, ⟨0, .phase⟩, ⟨1, .phase⟩, ⟨2, .phase⟩, ⟨3, .phase⟩, ⟨4, .phase⟩, ⟨5, .phase⟩, ⟨6, .phase⟩, ⟨7, .phase⟩, ⟨8, .phase⟩, ⟨9, .phase⟩, ⟨10, .phase⟩, ⟨11, .phase⟩, ⟨12, .phase⟩, ⟨13, .phase⟩, ⟨14, .phase⟩, ⟨15, .phase⟩], none⟩, []⟩ (
 .nil)))))))))))))))))))))))))) (
 .seq (
 .ops [
 .p 37 .mv [(.tmp 3)],
 .p 2 .mv [(.tmp 37)]]) (
 .ret))))⟩

theorem VW : trF Tryz.prog Jp = some m_disk_Disk_Copy := by kernel_rfl
-- 96 (*shardlog/disk.Disk).Turn; Aw [(0, d), (1, name), (2, at), (3, by), (4, d), (5, name), (6, at), (7, by), (9, f)]
noncomputable def m_disk_Disk_Turn : MF := ⟨41, [.t 8],
 .seq (
 .ops [
 .p 8 .mv [(.const (.int .i64 0))]]) (
 .seq (
 .ops [
 .p 10 .mv [(.tmp 0)],
 .p 11 .nilc [(.tmp 10)],
 .p 12 (.fad 0) [(.tmp 11)],
 .ld 13 (.tmp 12),
 .p 14 .mv [(.tmp 1)],
 .gen (some 15) ⟨(some 15), (.lookup 97 (.tmp 13) (.tmp 14) false), 119, "disk.go:125", #[⟨3, .data⟩, ⟨4, .data⟩], none⟩,
 .p 9 .mv [(.tmp 15)]]) (
 .seq (
 .block 0 (
 .seq (
 .ops [
 .p 17 .mv [(.tmp 9)],
 .p 18 (.isnil .pt false) [(.tmp 17)],
 .p 16 .mv [(.tmp 18)]]) (
 .cond (.tmp 16) (
 .seq (
 .ops [
 .p 8 .mv [(.const (.int .i64 5))]]) (
 .ret)) (
 .seq (
 .ops [
 .p 20 .mv [(.tmp 2)],
 .p 21 (.bin .lss) [(.tmp 20), (.const (.int .i64 0))],
 .p 22 .mv [(.tmp 21)],
 .gd 22 false (some 23) (.p 23 .mv [(.tmp 2)]),
 .gd 22 false (some 24) (.p 24 .mv [(.tmp 9)]),
 .gd 22 false (some 25) (.p 25 .nilc [(.tmp 24)]),
 .gd 22 false (some 26) (.p 26 (.fad 0) [(.tmp 25)]),
 .gd 22 false (some 27) (.ld 27 (.tmp 26)),
 .gd 22 false (some 28) (.p 28 .len [(.tmp 27)]),
 .gd 22 false (some 29) (.p 29 (.bin .geq) [(.tmp 23), (.tmp 28)]),
 .p 30 .pick [(.tmp 22), (.const (.bool true)), (.tmp 29)],
 .p 19 .mv [(.tmp 30)]]) (
 .cond (.tmp 19) (
 .seq (
 .ops [
 .p 8 .mv [(.const (.int .i64 1))]]) (
 .ret)) (
 .skip)))))) (
 .seq (
 .ops [
 .p 31 .mv [(.tmp 9)],
 .p 32 .nilc [(.tmp 31)],
 .p 33 (.fad 0) [(.tmp 32)],
 .ld 34 (.tmp 33),
 .p 35 .mv [(.tmp 2)],
 .p 36 (.ixs 1) [(.tmp 34), (.tmp 35)],
 .ld 37 (.tmp 36),
 .p 38 .mv [(.tmp 3)],
 .p 39 (.bin .xor) [(.tmp 37), (.tmp 38)],
 .p 40 (.ixs 1) [(.tmp 34), (.tmp 35)],
 .st 1 false (.tmp 40) (.tmp 39)]) (
 .seq (
 .ops [
 .p 8 .mv [(.const (.int .i64 0))]]) (
 .ret)))))⟩

theorem VT : trF Tryz.prog Lu = some m_disk_Disk_Turn := by kernel_rfl
-- 97 (*shardlog/disk.Disk).Delete; Aw [(0, d), (1, name), (2, d), (3, name)]
noncomputable def m_disk_Disk_Delete : MF := ⟨17, [.t 4],
 .seq (
 .ops [
 .p 4 .mv [(.const (.int .i64 0))]]) (
 .seq (
 .seq (
 .ops [
 .p 5 .mv [(.tmp 0)],
 .p 6 .nilc [(.tmp 5)],
 .p 7 (.fad 0) [(.tmp 6)],
 .ld 8 (.tmp 7),
 .p 9 .mv [(.tmp 1)],
 .gen (some 10) ⟨(some 10), (.lookup 97 (.tmp 8) (.tmp 9) false), 119, "disk.go:103", #[⟨3, .data⟩, ⟨4, .data⟩], none⟩,
 .p 11 (.isnil .pt false) [(.tmp 10)]]) (
 .cond (.tmp 11) (
 .seq (
 .ops [
 .p 4 .mv [(.const (.int .i64 5))]]) (
 .ret)) (
 .skip))) (
 .seq (
 .ops [
 .p 12 .mv [(.tmp 0)],
 .p 13 .nilc [(.tmp 12)],
 .p 14 (.fad 0) [(.tmp 13)],
 .ld 15 (.tmp 14),
 .p 16 .mv [(.tmp 1)],
 .gen none ⟨none, (.call { callee := .builtin .delete, args := #[(.tmp 15), (.tmp 16)], argTypes := #[97, Qs] }), 0, "disk.go:106", #[⟨3, .data⟩, ⟨4, .data⟩], none⟩]) (
 .seq (
 .ops [
 .p 4 .mv [(.const (.int .i64 0))]]) (
 .ret))))⟩

theorem TQ : trF Tryz.prog Iz = some m_disk_Disk_Delete := by kernel_rfl

end Go.Proofs.YtgpkbldlkadnjaaGreat
end
section
set_option maxHeartbeats 3000000
attribute [local irreducible] Go.Sl.Chk Go.Sl.Br Go.Sl.Or2 Go.Sl.Ld Go.Sl.Ldn Go.Sl.LdB Go.Sl.Stn Go.Sl.New Go.Sl.Run Go.Sl.Ez Go.Sl.Eu Go.Sl.Call Go.Sl.CQ Go.Sl.EC Go.Sl.Alt Go.Sl.Om Go.Sl.xpk Go.Sl.FM Go.Sl.FN Go.Sl.DLd Go.Sl.Fe Go.Sl.DBs Go.Sl.BG Go.Sl.EN Go.Sl.EM Go.Sl.Dz Go.Sl.DGC Go.Sl.DW Go.Sl.Gl Go.Sl.Ei Go.Sl.Ent Go.Sl.Be Go.Sl.dv Go.Sl.ev Go.Sl.Au
namespace Go.Proofs.YtgpkbldlkadnjaaGreat
open Go Go.Sl Go.RowKit
abbrev FileS := Bs × Bs × Nat
abbrev strV (b : Bs) : Value := .string ⟨b.toArray⟩
def fileO (f : FileS) : D := .box Aj [Ar f.2.1, iD f.2.2]
def Ae (fs : List FileS) : List Value := fs.map fun f => strV f.1
def AA (fs : List FileS) (most : Nat) : D := .box Ah [.mp (Ae fs) (fs.map fileO), iD most]
theorem EW {b : Bs} (h : b.length ≤ 1000000) : keyOf Tryz.prog 9 (strV b) = some (.string b) := by
 unfold keyOf
 rw [show Tryz.prog.underlying 9 = some TypeDesc.string from Tryz.underlying9]
 simp [mapKey, Tryz.underlying9, ByteArray.size, maxLen]
 omega
theorem sz_s (v : Bs) : (⟨v.toArray⟩ : ByteArray).size = v.length := by simp [ByteArray.size]
theorem kd9 : Go.Maps.Keyed Tryz.prog 9 := Go.Maps.string_keyed Tryz.underlying9
theorem AhV (c : Int) (hc : -9223372036854775808 ≤ c ∧ c ≤ 9223372036854775807) : NZ Tryz.prog NQ [iD c] (fun i => .hp i 0) (AA [] (min (max c 0) 65536).toNat) := by
 intro nx
 refine AU Ae2 (by simp only [m_disk_New, List.length]; decide) ?_
 simp only [m_disk_New]; refine WK ?_; try with_reducible exact trivial
 refine Aiv ?_
 refine WK ?_; try with_reducible exact trivial
 have hf := RT.fold (r := [(nx + 1, .box Ah [.h nx, .sc (.int .i64 (min (max c 0) 65536))]), (nx, .mp [] [])]) nx (nx + 1) 0 (d := .mp [] []) (c := .box Ah [.h nx, .sc (.int .i64 (min (max c 0) 65536))]) (l := [.h nx, .sc (.int .i64 (min (max c 0) 65536))]) (by refine WK ?_; try with_reducible exact trivial) (by omega) (by refine WK ?_; try with_reducible exact trivial) rfl rfl
 simp -dsimp (disch := omega) only [Aa, Ac, Ba, CX, AV, Bd, D6, List.set_cons_zero] at hf
 refine Dw (t' := .mk _) hf ?_
 refine Dc ⟨nx + 1, by omega, by omega, rfl, ?_⟩
 rw [show (min (max c 0) 65536) = (((min (max c 0) 65536).toNat : Nat) : Int) by omega]
 rfl
def SH (P : Program) (f : FuncId) (ds : Nat → List D) (t : D) (d : D) (t' : D) : Prop := ∀ i nx, i < nx → Ig P f (ds i) [(i, t)] nx (fun d' r' nx' => d' = d ∧ r' = [(i, t')])
theorem Et {r : Ad} {i : Nat} {t : D} (h : Cc r i = some t) : ER [i] r = ([(i, t)], Ho r i) := by
 simp only [ER, h]
theorem Hu {P : Program} {held : List Nat} {r : Ad} {nx : Nat} {K : D → Ad → Nat → Prop} {f : FuncId} {ds : Nat → List D} {t t' d : D} {tg : Cf K} (i : Nat) (h : SH P f ds t d t') (hi : i < nx) (hg : Cc r i = some t) (hh : i ∉ held)
  (k : ∀ nx', nx ≤ nx' → K d ((i, t') :: Ho r i) nx') : BG P f (ds i) held r nx K tg :=
 HY [i] (Et hg) (h i nx hi) (fun j hj => by
  simp only [Cc]
  rw [if_neg (fun e => hh (by rw [e]; exact hj))]) fun d' ro nx' hn ⟨h1, h2⟩ => by
   subst h1; subst h2; exact k nx' hn
def CO (fs : List FileS) (n : Bs) : Option Nat := fs.findIdx? fun f => decide (f.1 = n)
theorem BX {fs : List FileS} {n : Bs} {j : Nat} (h : CO fs n = some j) : ∃ f, fs[j]? = some f ∧ f.1 = n := by
 unfold CO at h
 rw [List.findIdx?_eq_some_iff_getElem] at h
 obtain ⟨hj, h1, _⟩ := h
 exact ⟨fs[j], List.getElem?_eq_getElem hj, by simpa using h1⟩
theorem Iu {fs : List FileS} {n : Bs} (h : CO fs n = none) : strV n ∉ Ae fs := by
 unfold CO at h
 rw [List.findIdx?_eq_none_iff] at h
 intro hm
 obtain ⟨f, hf, he⟩ := List.mem_map.1 hm
 have h1 := h f hf
 simp only [decide_eq_false_iff_not] at h1
 refine h1 ?_
 have := congrArg (fun v : Value => match v with | .string b => b.data.toList | _ => []) he
 simpa using this
def G6 (fs : List FileS) : Prop := ∀ f ∈ fs, f.1.length ≤ 1000 ∧ f.2.1.length ≤ 1000000
theorem Dq {fs : List FileS} (h : G6 fs) : ∀ x ∈ Ae fs, ∃ l, keyOf Tryz.prog 9 x = some l := fun x hx => by
 obtain ⟨f, hf, rfl⟩ := List.mem_map.1 hx
 exact ⟨_, EW (by have := (h f hf).1; omega)⟩
theorem Gt {m i most : Nat} {fs : List FileS} (h3 : m ≠ i) : RT [(m, .mp (Ae fs) (fs.map fileO)), (i, .box Ah [.h m, iD most])] [(i, AA fs most)] := by
 have f2 := RT.fold (r := [(m, .mp (Ae fs) (fs.map fileO)), (i, .box Ah [.h m, iD most])]) m i 0 (d := .mp (Ae fs) (fs.map fileO)) (c := .box Ah [.h m, iD most]) (l := [.h m, iD most]) (by refine WK ?_; try with_reducible exact trivial) h3 (by refine WK ?_; try with_reducible exact trivial) rfl rfl
 simp -dsimp (disch := omega) only [Aa, Ac, Ba, CX, AV, Bd, D6, List.set_cons_zero] at f2
 exact f2
theorem RZ {a m i j most : Nat} {fs : List FileS} {f : FileS} (n b : Bs) (sy : Nat) (hj : fs[j]? = some f) (hn : f.1 = n) (h1 : a ≠ m) (h2 : a ≠ i) (h3 : m ≠ i) :
  RT [(a, .box Aj [Ar b, iD sy]), (m, .mp (Ae fs) ((fs.map fileO).set j (.hp a 0))), (i, .box Ah [.h m, iD most])] [(i, AA (fs.set j (n, b, sy)) most)] := by
 have hlt := (List.getElem?_eq_some_iff.1 hj).1
 have f1 := RT.fold (r := [(a, .box Aj [Ar b, iD sy]), (m, .mp (Ae fs) ((fs.map fileO).set j (.hp a 0))), (i, .box Ah [.h m, iD most])]) a m j (d := .box Aj [Ar b, iD sy]) (c := .mp (Ae fs) ((fs.map fileO).set j (.hp a 0))) (l := (fs.map fileO).set j (.hp a 0)) (by refine WK ?_; try with_reducible exact trivial) h1 (by refine WK ?_; try with_reducible exact trivial) rfl (List.getElem?_set_self (by rw [List.length_map]; exact hlt))
 simp -dsimp (disch := omega) only [Aa, Ac, Ba, CX, AV, Bd, D6, List.set_set] at f1
 have e1 : (fs.map fileO).set j (.box Aj [Ar b, iD sy]) = (fs.set j (n, b, sy)).map fileO := by rw [List.map_set]; rfl
 have e2 : Ae fs = Ae (fs.set j (n, b, sy)) := by
  unfold Ae
  rw [List.map_set]
  exact (GG (by rw [List.getElem?_map, hj, ← hn]; rfl)).symm
 have f1' : RT [(a, .box Aj [Ar b, iD sy]), (m, .mp (Ae fs) ((fs.map fileO).set j (.hp a 0))), (i, .box Ah [.h m, iD most])] [(m, .mp (Ae (fs.set j (n, b, sy))) ((fs.set j (n, b, sy)).map fileO)), (i, .box Ah [.h m, iD most])] := by
  rw [← e2, ← e1]; exact f1
 exact f1'.trans (Gt h3)
theorem Je {q a m i j most : Nat} {fs : List FileS} {f : FileS} (n b : Bs) (sy : Nat) (hj : fs[j]? = some f) (hn : f.1 = n) (h0 : q ≠ a) (h4 : q ≠ m) (h5 : q ≠ i) (h1 : a ≠ m) (h2 : a ≠ i) (h3 : m ≠ i) :
  RT [(q, Ar b), (a, .box Aj [.h q, iD sy]), (m, .mp (Ae fs) ((fs.map fileO).set j (.hp a 0))), (i, .box Ah [.h m, iD most])] [(i, AA (fs.set j (n, b, sy)) most)] := by
 have f1 := RT.fold (r := [(q, Ar b), (a, .box Aj [.h q, iD sy]), (m, .mp (Ae fs) ((fs.map fileO).set j (.hp a 0))), (i, .box Ah [.h m, iD most])]) q a 0 (d := Ar b) (c := .box Aj [.h q, iD sy]) (l := [.h q, iD sy]) (by refine WK ?_; try with_reducible exact trivial) h0 (by refine WK ?_; try with_reducible exact trivial) rfl rfl
 simp -dsimp (disch := omega) only [Aa, Ac, Ba, CX, AV, Bd, D6, List.set_cons_zero] at f1
 exact f1.trans (RZ n b sy hj hn h1 h2 h3)
theorem Pj (w : World) : (zeroValue 119).run Tryz.prog w = .ok (.pointer none) w := by kernel_rfl
def Kv (fs : List FileS) (n : Bs) : List FileS := match CO fs n with | none => fs | some j => fs.set j (n, (fs.getD j default).2.1, (fs.getD j default).2.1.length)
def Ju (fs : List FileS) (n : Bs) : Nat := match CO fs n with | none => 5 | some _ => 0
theorem Ahd (fs : List FileS) (most : Nat) (n : Bs) (hs : G6 fs) (hn : n.length ≤ 1000) : SH Tryz.prog Jo (fun i => [.hp i 0, Bv n]) (AA fs most) (iD (Ju fs n)) (AA (Kv fs n) most) := by
 intro i nx hi
 refine AU VV (by simp only [m_disk_Disk_Sync, List.length]; decide) ?_
 rw [show [(i, AA fs most)] = [(i, .box Ah [.mp (Ae fs) (fs.map fileO), iD most])] from rfl]
 simp only [m_disk_Disk_Sync]; refine WK ?_; try with_reducible exact trivial
 cases hfn : CO fs n with
 | none =>
  refine NR (i := nx) (ks := Ae fs) (l := fs.map fileO) (key := strV n) (by refine WK ?_; try with_reducible exact trivial) (by refine WK ?_; try with_reducible exact trivial) (Aa _ _ _) kd9 Tryz.underlying97 (z := .pointer none) Pj (EW (by omega)) (Dq hs) (Iu hfn) ?_
  refine WK ?_; try with_reducible exact trivial
  refine Dw (t' := .mk _) (Gt (by omega)) ?_
  refine Dc ⟨?_, ?_⟩ <;> simp only [Ju, Kv, hfn] <;> rfl
 | some j =>
  obtain ⟨f, hj, hfe⟩ := BX hfn
  refine Kq (i := nx) (j := j) (ks := Ae fs) (l := fs.map fileO) (key := strV n) (eb := Aj) (lc := [Ar f.2.1, iD f.2.2]) (by refine WK ?_; try with_reducible exact trivial) (by refine WK ?_; try with_reducible exact trivial) (Aa _ _ _) kd9 Tryz.underlying97 (EW (by omega)) (Dq hs) (by unfold Ae; rw [List.getElem?_map, hj, ← hfe]; rfl) (by rw [List.getElem?_map, hj]; rfl) ?_
  refine WK ?_; try with_reducible exact trivial
  refine Dw (t' := .mk _) (Je n f.2.1 f.2.1.length hj hfe (by omega) (by omega) (by omega) (by omega) (by omega) (by omega)) ?_
  have hgd : fs.getD j default = f := by rw [List.getD_eq_getElem?_getD, hj]; rfl
  refine Dc ⟨?_, ?_⟩ <;> simp only [Ju, Kv, hfn, hgd] <;> rfl
def AdN (P : Program) (f : FuncId) (ds : Nat → List D) (t : D) (g : Nat → D) (tn t' : D) : Prop := ∀ i nx, i < nx → Ig P f (ds i) [(i, t)] nx (fun d' r' nx' => ∃ k, nx ≤ k ∧ k < nx' ∧ d' = g k ∧ r' = [(k, tn), (i, t')])
theorem O6 {P : Program} {held : List Nat} {r : Ad} {nx : Nat} {K : D → Ad → Nat → Prop} {f : FuncId} {ds : Nat → List D} {t t' tn : D} {g : Nat → D} {tg : Cf K} (i : Nat) (h : AdN P f ds t g tn t') (hi : i < nx) (hg : Cc r i = some t) (hh : i ∉ held)
  (k : ∀ k nx', nx ≤ k → k < nx' → K (g k) ((k, tn) :: (i, t') :: Ho r i) nx') : BG P f (ds i) held r nx K tg :=
 HY [i] (Et hg) (h i nx hi) (fun j hj => by
  simp only [Cc]
  rw [if_neg (fun e => hh (by rw [e]; exact hj))]) fun d' ro nx' hn ⟨k', h1, h2, h3, h4⟩ => by
   subst h3; subst h4; exact k k' nx' h1 h2
theorem Qc (b : Bs) : NoZ (Ar b) := AjC fun d hd => by obtain ⟨x, _, rfl⟩ := List.mem_map.1 hd; exact trivial
theorem X8 {P : Program} {held : List Nat} {r : Ad} {nx : Nat} {K : D → Ad → Nat → Prop} (i : Nat) {b : Bs} {f : FuncId} {ds ds' : List D} {t : D} {tg : Cf K} (hg : Cc r i = some (Ar b)) (hds : ds.map (Dl (Fh r i (bytesD b))) = ds') (hc : NZ P f ds' (fun i => .h i) t) (ht : NoZ t)
  (k : ∀ i nx', nx ≤ i → i < nx' → K (.h i) ((i, t) :: r) nx') : BG P f ds held r nx K tg := by
 have h := RT.frz i hg (by simp only [Jw]; exact (DU b).1)
 simp only [frzR, frz, (DU b).2] at h
 subst hds
 exact AgO h hc ht noZs_h k
theorem Vp (fs : List FileS) (most : Nat) (n : Bs) {j : Nat} {f : FileS} (hs : G6 fs) (hn : n.length ≤ 1000) (hfn : CO fs n = some j) (hj : fs[j]? = some f) : AdN Tryz.prog D9 (fun i => [.hp i 0, Bv n]) (AA fs most) (fun k => .tup [.h k, iD 0]) (Ar f.2.1) (AA fs most) := by
 intro i nx hi
 have hsf := hs f (List.mem_of_getElem? hj)
 refine AU Pe (by simp only [m_disk_Disk_Read, List.length]; decide) ?_
 rw [show [(i, AA fs most)] = [(i, .box Ah [.mp (Ae fs) (fs.map fileO), iD most])] from rfl]
 simp only [m_disk_Disk_Read]; refine WK ?_; try with_reducible exact trivial
 obtain ⟨f', hj', hfe⟩ := BX hfn
 rw [hj] at hj'
 cases hj'
 refine Kq (i := nx) (j := j) (ks := Ae fs) (l := fs.map fileO) (key := strV n) (eb := Aj) (lc := [Ar f.2.1, iD f.2.2]) (by refine WK ?_; try with_reducible exact trivial) (by refine WK ?_; try with_reducible exact trivial) (Aa _ _ _) kd9 Tryz.underlying97 (EW (by omega)) (Dq hs) (by unfold Ae; rw [List.getElem?_map, hj, ← hfe]; rfl) (by rw [List.getElem?_map, hj]; rfl) ?_
 refine WK ?_; try with_reducible exact trivial
 refine X8 (nx + 2) (Aa _ _ _) rfl (by simp -dsimp (disch := omega) only [↓MC.xwp, ↓BM, ↓xdr, ↓MOp.xwp, dvs, dv, dvu, dvo, dvp, dgb, dGd, DN, cond_true, cond_false, FZ, Be, CU, Di, Dv, Dl, ptr, bsc, cv, uo, uof, Bj, xpr, DF, EF, FB, E8, F9, FK, Gf, xst, xgp, glc, FW, DL, FU, FV, FQ, FT, DK, FP, FC, FO, DI, DJ, BV, DC, E5, dsl, dif, BK, CE, BB, scs, rowOf, Az, dtk, Du, BF, pev, Bz, BC, Aq, BD, psl, Bc, ↓Dx, ↓BZ, ↓FH, ↓EY, Dp, Ff, E9, Df, Bq, kp, C9, Dk, ES, Dj, Fj, CV, AB, Bi, nb, ET, BL, AY, apart, Af, AX, heldOk, Op.operands, Nat.reduceAdd, forall_eq_or_imp, D.plain, reduceCtorEq, if_true, if_false, ↓reduceIte, ne_eq, Bool.cond_true, Bool.cond_false, forall_const, implies_true, forall_eq, Int.reduceEq, Int.reduceLT, Int.reduceLE, Int.reduceAdd, Int.reduceSub, Int.reduceMul, Int.reduceToNat, Nat.reduceMul, Nat.reduceLeDiff, Nat.reduceLT, Nat.reduceSub, Nat.reduceBEq, Nat.reduceEqDiff, CG, bytesD, iD, BP, Ak, Bv, bD, DB, List.map_cons, List.map_nil, Dl]; exact Sj f.2.1 (by omega)) (Qc _) fun k n1 h1 h2 => ?_
 refine WK ?_; try with_reducible exact trivial
 refine Dw (t' := .mk _) (RT.cons _ (Je n f.2.1 f.2.2 hj hfe (by omega) (by omega) (by omega) (by omega) (by omega) (by omega))) ?_
 have hsame : fs.set j (n, f.2.1, f.2.2) = fs := GG (by rw [hj, ← hfe])
 rw [hsame]
 exact Dc ⟨k, by omega, by omega, rfl, rfl⟩
theorem Uk (fs : List FileS) (most : Nat) (n : Bs) (hs : G6 fs) (hn : n.length ≤ 1000) (hfn : CO fs n = none) : SH Tryz.prog D9 (fun i => [.hp i 0, Bv n]) (AA fs most) (.tup [.sc (.slice none 0 0), iD 5]) (AA fs most) := by
 intro i nx hi
 refine AU Pe (by simp only [m_disk_Disk_Read, List.length]; decide) ?_
 rw [show [(i, AA fs most)] = [(i, .box Ah [.mp (Ae fs) (fs.map fileO), iD most])] from rfl]
 simp only [m_disk_Disk_Read]; refine WK ?_; try with_reducible exact trivial
 refine NR (i := nx) (ks := Ae fs) (l := fs.map fileO) (key := strV n) (by refine WK ?_; try with_reducible exact trivial) (by refine WK ?_; try with_reducible exact trivial) (Aa _ _ _) kd9 Tryz.underlying97 (z := .pointer none) Pj (EW (by omega)) (Dq hs) (Iu hfn) ?_
 refine WK ?_; try with_reducible exact trivial
 refine Dw (t' := .mk _) (Gt (by omega)) ?_
 exact Dc ⟨rfl, rfl⟩
theorem Ab6 (fs : List FileS) (most : Nat) (n : Bs) {j : Nat} {f : FileS} (hs : G6 fs) (hn : n.length ≤ 1000) (hfn : CO fs n = some j) (hj : fs[j]? = some f) (hsy : f.2.2 ≤ f.2.1.length) : AdN Tryz.prog Iw (fun i => [.hp i 0, Bv n]) (AA fs most) (fun k => .tup [.h k, iD 0]) (Ar (f.2.1.take f.2.2)) (AA fs most) := by
 intro i nx hi
 have hsf := hs f (List.mem_of_getElem? hj)
 refine AU TN (by simp only [m_disk_Disk_Synced, List.length]; decide) ?_
 rw [show [(i, AA fs most)] = [(i, .box Ah [.mp (Ae fs) (fs.map fileO), iD most])] from rfl]
 simp only [m_disk_Disk_Synced]; refine WK ?_; try with_reducible exact trivial
 obtain ⟨f', hj', hfe⟩ := BX hfn
 rw [hj] at hj'
 cases hj'
 refine Kq (i := nx) (j := j) (ks := Ae fs) (l := fs.map fileO) (key := strV n) (eb := Aj) (lc := [Ar f.2.1, iD f.2.2]) (by refine WK ?_; try with_reducible exact trivial) (by refine WK ?_; try with_reducible exact trivial) (Aa _ _ _) kd9 Tryz.underlying97 (EW (by omega)) (Dq hs) (by unfold Ae; rw [List.getElem?_map, hj, ← hfe]; rfl) (by rw [List.getElem?_map, hj]; rfl) ?_
 refine WK ?_; try with_reducible exact trivial
 refine ocut ?_
 refine WK ?_; try with_reducible exact trivial
 refine ocut ?_
 refine WK ?_; try with_reducible exact trivial
 have hb : D.sl f.2.2 ((f.2.1.map bD).take f.2.2) = bytesD (f.2.1.take f.2.2) := by
  simp only [bytesD, List.length_take, Nat.min_eq_left hsy, List.map_take]
 refine X8 (nx + 2) (Aa _ _ _) rfl (by simp -dsimp (disch := omega) only [↓MC.xwp, ↓BM, ↓xdr, ↓MOp.xwp, dvs, dv, dvu, dvo, dvp, dgb, dGd, DN, cond_true, cond_false, FZ, Be, CU, Di, Dv, Dl, ptr, bsc, cv, uo, uof, Bj, xpr, DF, EF, FB, E8, F9, FK, Gf, xst, xgp, glc, FW, DL, FU, FV, FQ, FT, DK, FP, FC, FO, DI, DJ, BV, DC, E5, dsl, dif, BK, CE, BB, scs, rowOf, Az, dtk, Du, BF, pev, Bz, BC, Aq, BD, psl, Bc, ↓Dx, ↓BZ, ↓FH, ↓EY, Dp, Ff, E9, Df, Bq, kp, C9, Dk, ES, Dj, Fj, CV, AB, Bi, nb, ET, BL, AY, apart, Af, AX, heldOk, Op.operands, Nat.reduceAdd, forall_eq_or_imp, D.plain, reduceCtorEq, if_true, if_false, ↓reduceIte, ne_eq, Bool.cond_true, Bool.cond_false, forall_const, implies_true, forall_eq, Int.reduceEq, Int.reduceLT, Int.reduceLE, Int.reduceAdd, Int.reduceSub, Int.reduceMul, Int.reduceToNat, Nat.reduceMul, Nat.reduceLeDiff, Nat.reduceLT, Nat.reduceSub, Nat.reduceBEq, Nat.reduceEqDiff, CG, bytesD, iD, BP, Ak, Bv, bD, DB, List.map_cons, List.map_nil, Dl]; rw [hb]; exact Sj (f.2.1.take f.2.2) (by rw [List.length_take]; omega)) (Qc _) fun k n1 h1 h2 => ?_
 refine WK ?_; try with_reducible exact trivial
 refine Dw (t' := .mk _) (RT.cons _ (Je n f.2.1 f.2.2 hj hfe (by omega) (by omega) (by omega) (by omega) (by omega) (by omega))) ?_
 have hsame : fs.set j (n, f.2.1, f.2.2) = fs := GG (by rw [hj, ← hfe])
 rw [hsame]
 exact Dc ⟨k, by omega, by omega, rfl, rfl⟩
def JI (fs : List FileS) (n : Bs) : List FileS := match CO fs n with | none => fs | some j => fs.eraseIdx j
theorem Ac8 (fs : List FileS) (most : Nat) (n : Bs) (hs : G6 fs) (hn : n.length ≤ 1000) : SH Tryz.prog Iz (fun i => [.hp i 0, Bv n]) (AA fs most) (iD (Ju fs n)) (AA (JI fs n) most) := by
 intro i nx hi
 refine AU TQ (by simp only [m_disk_Disk_Delete, List.length]; decide) ?_
 rw [show [(i, AA fs most)] = [(i, .box Ah [.mp (Ae fs) (fs.map fileO), iD most])] from rfl]
 simp only [m_disk_Disk_Delete]; refine WK ?_; try with_reducible exact trivial
 cases hfn : CO fs n with
 | none =>
  refine NR (i := nx) (ks := Ae fs) (l := fs.map fileO) (key := strV n) (by refine WK ?_; try with_reducible exact trivial) (by refine WK ?_; try with_reducible exact trivial) (Aa _ _ _) kd9 Tryz.underlying97 (z := .pointer none) Pj (EW (by omega)) (Dq hs) (Iu hfn) ?_
  refine WK ?_; try with_reducible exact trivial
  refine Dw (t' := .mk _) (Gt (by omega)) ?_
  refine Dc ⟨?_, ?_⟩ <;> simp only [Ju, JI, hfn] <;> rfl
 | some j =>
  obtain ⟨f, hj, hfe⟩ := BX hfn
  refine Kq (i := nx) (j := j) (ks := Ae fs) (l := fs.map fileO) (key := strV n) (eb := Aj) (lc := [Ar f.2.1, iD f.2.2]) (by refine WK ?_; try with_reducible exact trivial) (by refine WK ?_; try with_reducible exact trivial) (Aa _ _ _) kd9 Tryz.underlying97 (EW (by omega)) (Dq hs) (by unfold Ae; rw [List.getElem?_map, hj, ← hfe]; rfl) (by rw [List.getElem?_map, hj]; rfl) ?_
  have hkj : (Ae fs)[j]? = some (strV n) := by unfold Ae; rw [List.getElem?_map, hj, ← hfe]; rfl
  have hlt := (List.getElem?_eq_some_iff.1 hj).1
  refine WK ?_; try with_reducible exact trivial
  refine UO (i := nx) (j := j) (ks := Ae fs) (l := (fs.map fileO).set j (.hp (nx + 1) 0)) (key := strV n) (by refine WK ?_; try with_reducible exact trivial) (by refine WK ?_; try with_reducible exact trivial) (by rw [Ac (by omega), Aa]) kd9 Tryz.underlying97 (EW (by omega)) (Dq hs) hkj (List.getElem?_set_self (by rw [List.length_map]; exact hlt)) (by simp) ?_
  refine WK ?_; try with_reducible exact trivial
  have e1 : ((fs.map fileO).set j (.hp (nx + 1) 0)).eraseIdx j = (fs.eraseIdx j).map fileO := by
   rw [List.eraseIdx_set_eq]; exact (J9 fileO fs j).symm
  have e2 : (Ae fs).eraseIdx j = Ae (fs.eraseIdx j) := (J9 (fun f : FileS => strV f.1) fs j).symm
  rw [e1, e2]
  have hd := RT.del (r := [(nx + 1, .box Aj [Ar f.2.1, iD f.2.2]), (nx, .mp (Ae (fs.eraseIdx j)) ((fs.eraseIdx j).map fileO)), (i, .box Ah [.h nx, iD most])]) (nx + 1)
  rw [AV] at hd
  refine Dw (t' := .mk _) (hd.trans (Gt (by omega))) ?_
  refine Dc ⟨?_, ?_⟩ <;> simp only [Ju, JI, hfn] <;> rfl
def Gn (n : Bs) : Bool := decide ((1 : Int) ≤ (n.length : Int)) && decide ((n.length : Int) ≤ 24)
theorem AaV (n : Bs) : Ed Tryz.prog KO [Bv n] (Ak (Gn n)) := by
 intro nx
 refine AU Abu (by simp only [m_disk_named, List.length]; decide) ?_
 simp only [m_disk_named]; refine WKX @sz_s ?_; try with_reducible exact trivial
 exact Dc ⟨rfl, rfl⟩
def TY (fs : List FileS) (n : Bs) (at' : Int) (by' : UInt8) : List FileS := match CO fs n with
 | none => fs
 | some j => let f := fs.getD j default; if 0 ≤ at' ∧ at' < f.2.1.length then fs.set j (n, f.2.1.set at'.toNat (gt f.2.1 at'.toNat ^^^ by'), f.2.2) else fs
def AbX (fs : List FileS) (n : Bs) (at' : Int) : Nat := match CO fs n with
 | none => 5
 | some j => let f := fs.getD j default; if 0 ≤ at' ∧ at' < f.2.1.length then 0 else 1
theorem turn_a (fs : List FileS) (most : Nat) (n : Bs) (at' : Int) (b : UInt8) (hs : G6 fs) (hn : n.length ≤ 1000) : SH Tryz.prog Lu (fun i => [.hp i 0, Bv n, iD at', bD b]) (AA fs most) (iD (AbX fs n at')) (AA (TY fs n at' b) most) := by
 intro i nx hi
 refine AU VT (by simp only [m_disk_Disk_Turn, List.length]; decide) ?_
 rw [show [(i, AA fs most)] = [(i, .box Ah [.mp (Ae fs) (fs.map fileO), iD most])] from rfl]
 simp only [m_disk_Disk_Turn]; refine WK ?_; try with_reducible exact trivial
 cases hfn : CO fs n with
 | none =>
  refine NR (i := nx) (ks := Ae fs) (l := fs.map fileO) (key := strV n) (by refine WK ?_; try with_reducible exact trivial) (by refine WK ?_; try with_reducible exact trivial) (Aa _ _ _) kd9 Tryz.underlying97 (z := .pointer none) Pj (EW (by omega)) (Dq hs) (Iu hfn) ?_
  refine WK ?_; try with_reducible exact trivial
  refine Dw (t' := .mk _) (Gt (by omega)) ?_
  refine Dc ⟨?_, ?_⟩ <;> simp only [AbX, TY, hfn] <;> rfl
 | some j =>
  obtain ⟨f, hj, hfe⟩ := BX hfn
  have hgd : fs.getD j default = f := by rw [List.getD_eq_getElem?_getD, hj]; rfl
  have hsame : fs.set j (n, f.2.1, f.2.2) = fs := GG (by rw [hj, ← hfe])
  refine Kq (i := nx) (j := j) (ks := Ae fs) (l := fs.map fileO) (key := strV n) (eb := Aj) (lc := [Ar f.2.1, iD f.2.2]) (by refine WK ?_; try with_reducible exact trivial) (by refine WK ?_; try with_reducible exact trivial) (Aa _ _ _) kd9 Tryz.underlying97 (EW (by omega)) (Dq hs) (by unfold Ae; rw [List.getElem?_map, hj, ← hfe]; rfl) (by rw [List.getElem?_map, hj]; rfl) ?_
  rcases Decidable.em (at' < 0) with h0 | h0
  ·refine WK ?_; try with_reducible exact trivial
   refine Dw (t' := .mk _) (RZ n f.2.1 f.2.2 hj hfe (by omega) (by omega) (by omega)) ?_
   rw [hsame]
   refine Dc ⟨?_, ?_⟩ <;> simp only [AbX, TY, hfn, hgd, show ¬ (0 ≤ at' ∧ at' < (f.2.1.length : Int)) from fun h => by omega, if_false] <;> rfl
  ·obtain ⟨a, rfl⟩ := Int.eq_ofNat_of_zero_le (Int.not_lt.1 h0)
   rcases Nat.lt_or_ge a f.2.1.length with h1 | h1
   ·simp -dsimp (disch := omega) only [↓MC.xwp, ↓BM, ↓xdr, ↓MOp.xwp, dvs, dv, dvu, dvo, dvp, dgb, dGd, DN, cond_true, cond_false, FZ, Be, CU, Di, Dv, Dl, ptr, bsc, cv, uo, uof, Bj, xpr, DF, EF, FB, E8, F9, FK, Gf, xst, xgp, glc, FW, DL, FU, FV, FQ, FT, DK, FP, FC, FO, DI, DJ, BV, DC, E5, dsl, dif, BK, CE, BB, scs, rowOf, Az, dtk, Du, BF, pev, Bz, BC, Aq, BD, psl, Bc, ↓Dx, ↓BZ, ↓FH, ↓EY, Dp, Ff, E9, Df, Bq, kp, C9, Dk, ES, Dj, Fj, CV, AB, Bi, nb, ET, BL, AY, apart, Af, AX, heldOk, Op.operands, Nat.reduceAdd, forall_eq_or_imp, D.plain, reduceCtorEq, if_true, if_false, ↓reduceIte, ne_eq, Bool.cond_true, Bool.cond_false, forall_const, implies_true, forall_eq, Int.reduceEq, Int.reduceLT, Int.reduceLE, Int.reduceAdd, Int.reduceSub, Int.reduceMul, Int.reduceToNat, Nat.reduceMul, Nat.reduceLeDiff, Nat.reduceLT, Nat.reduceSub, Nat.reduceBEq, Nat.reduceEqDiff, CG, bytesD, iD, BP, Ak, Bv, bD, DB, U8, AdR]
    have er : D.row tU8 1 f.2.1.length ((f.2.1.map bD).set a (.sc (.int .u8 ((gt f.2.1 a ^^^ b).toNat : Int)))) = Ar (f.2.1.set a (gt f.2.1 a ^^^ b)) := by
     simp only [Ar, List.length_set, List.map_set, bD, U8]
    rw [er]
    refine Dw (t' := .mk _) (Je n (f.2.1.set a (gt f.2.1 a ^^^ b)) f.2.2 hj hfe (by omega) (by omega) (by omega) (by omega) (by omega) (by omega)) ?_
    refine Dc ⟨?_, ?_⟩ <;> simp only [AbX, TY, hfn, hgd, show (0 ≤ (a : Int) ∧ (a : Int) < (f.2.1.length : Int)) from ⟨by omega, by omega⟩, and_self, if_true, Int.toNat_natCast] <;> rfl
   ·refine WK ?_; try with_reducible exact trivial
    refine Dw (t' := .mk _) (Je n f.2.1 f.2.2 hj hfe (by omega) (by omega) (by omega) (by omega) (by omega) (by omega)) ?_
    rw [hsame]
    refine Dc ⟨?_, ?_⟩ <;> simp only [AbX, TY, hfn, hgd, show ¬ (0 ≤ (a : Int) ∧ (a : Int) < (f.2.1.length : Int)) from fun h => by omega, if_false] <;> rfl
def trimF (fs : List FileS) (n : Bs) (at' : Int) : List FileS := match CO fs n with
 | none => fs
 | some j => let f := fs.getD j default; if 0 ≤ at' ∧ at' ≤ f.2.1.length then fs.set j (n, f.2.1.take at'.toNat, min f.2.2 at'.toNat) else fs
def AbZ (fs : List FileS) (n : Bs) (at' : Int) : Nat := match CO fs n with
 | none => 5
 | some j => let f := fs.getD j default; if 0 ≤ at' ∧ at' ≤ f.2.1.length then 0 else 1
theorem trim_a (fs : List FileS) (most : Nat) (n : Bs) (at' : Int) (hs : G6 fs) (hn : n.length ≤ 1000) : SH Tryz.prog LC (fun i => [.hp i 0, Bv n, iD at']) (AA fs most) (iD (AbZ fs n at')) (AA (trimF fs n at') most) := by
 intro i nx hi
 refine AU VU (by simp only [m_disk_Disk_Trim, List.length]; decide) ?_
 rw [show [(i, AA fs most)] = [(i, .box Ah [.mp (Ae fs) (fs.map fileO), iD most])] from rfl]
 simp only [m_disk_Disk_Trim]; refine WK ?_; try with_reducible exact trivial
 cases hfn : CO fs n with
 | none =>
  refine NR (i := nx) (ks := Ae fs) (l := fs.map fileO) (key := strV n) (by refine WK ?_; try with_reducible exact trivial) (by refine WK ?_; try with_reducible exact trivial) (Aa _ _ _) kd9 Tryz.underlying97 (z := .pointer none) Pj (EW (by omega)) (Dq hs) (Iu hfn) ?_
  refine WK ?_; try with_reducible exact trivial
  refine Dw (t' := .mk _) (Gt (by omega)) ?_
  refine Dc ⟨?_, ?_⟩ <;> simp only [AbZ, trimF, hfn] <;> rfl
 | some j =>
  obtain ⟨f, hj, hfe⟩ := BX hfn
  have hgd : fs.getD j default = f := by rw [List.getD_eq_getElem?_getD, hj]; rfl
  have hsame : fs.set j (n, f.2.1, f.2.2) = fs := GG (by rw [hj, ← hfe])
  refine Kq (i := nx) (j := j) (ks := Ae fs) (l := fs.map fileO) (key := strV n) (eb := Aj) (lc := [Ar f.2.1, iD f.2.2]) (by refine WK ?_; try with_reducible exact trivial) (by refine WK ?_; try with_reducible exact trivial) (Aa _ _ _) kd9 Tryz.underlying97 (EW (by omega)) (Dq hs) (by unfold Ae; rw [List.getElem?_map, hj, ← hfe]; rfl) (by rw [List.getElem?_map, hj]; rfl) ?_
  rcases Decidable.em (at' < 0) with h0 | h0
  ·refine WK ?_; try with_reducible exact trivial
   refine Dw (t' := .mk _) (RZ n f.2.1 f.2.2 hj hfe (by omega) (by omega) (by omega)) ?_
   rw [hsame]
   refine Dc ⟨?_, ?_⟩ <;> simp only [AbZ, trimF, hfn, hgd, show ¬ (0 ≤ at' ∧ at' ≤ (f.2.1.length : Int)) from fun h => by omega, if_false] <;> rfl
  ·obtain ⟨a, rfl⟩ := Int.eq_ofNat_of_zero_le (Int.not_lt.1 h0)
   rcases Nat.lt_or_ge f.2.1.length a with h1 | h1
   ·refine WK ?_; try with_reducible exact trivial
    refine Dw (t' := .mk _) (Je n f.2.1 f.2.2 hj hfe (by omega) (by omega) (by omega) (by omega) (by omega) (by omega)) ?_
    rw [hsame]
    refine Dc ⟨?_, ?_⟩ <;> simp only [AbZ, trimF, hfn, hgd, show ¬ (0 ≤ (a : Int) ∧ (a : Int) ≤ (f.2.1.length : Int)) from fun h => by omega, if_false] <;> rfl
   ·refine WK ?_; try with_reducible exact trivial
    refine ocut ?_
    refine WK ?_; try with_reducible exact trivial
    refine ofrz ?_
    refine WK ?_; try with_reducible exact trivial
    have er : D.row tU8 1 a ((f.2.1.map bD).take a) = Ar (f.2.1.take a) := by simp only [Ar, List.length_take, Nat.min_eq_left h1, List.map_take]
    rw [er, show min (f.2.2 : Int) (a : Int) = ((min f.2.2 a : Nat) : Int) by omega]
    refine Dw (t' := .mk _) (Je n (f.2.1.take a) (min f.2.2 a) hj hfe (by omega) (by omega) (by omega) (by omega) (by omega) (by omega)) ?_
    refine Dc ⟨?_, ?_⟩ <;> simp only [AbZ, trimF, hfn, hgd, show (0 ≤ (a : Int) ∧ (a : Int) ≤ (f.2.1.length : Int)) from ⟨by omega, by omega⟩, and_self, if_true, Int.toNat_natCast] <;> rfl
structure VoteS where
 slot : Int
 ballot : Int
 origin : Int
 full : Bool
 bytes : Bs
def AbK (v : VoteS) : Prop := 0 ≤ v.slot ∧ v.slot < 64 ∧ 1 ≤ v.origin ∧ v.origin ≤ v.ballot ∧ v.ballot ≤ 2147483647 ∧ v.bytes.length ≤ 520
instance (v : VoteS) : Decidable (AbK v) := by unfold AbK; infer_instance
def AhG (b : Nat) : Bs := Cj 1 ++ Cj b
def voteB (v : VoteS) : Bs := Cj 2 ++ (Cj v.slot.toNat ++ (Cj v.ballot.toNat ++ (Cj v.origin.toNat ++ (Cj (if v.full then 1 else 0) ++ Bl v.bytes))))
def Le (b : Bs) : Nat := if b.length < 4 then 0 else Dh b
theorem Adi (b : Bs) (hl : b.length ≤ 1000000000) : Ed Tryz.prog IJ [bytesD b] (.tup [iD (Le b), bytesD (b.drop 4), Ak (decide (4 ≤ b.length))]) := by
 have h := Yv b hl
 rcases Nat.lt_or_ge b.length 4 with k | k
 ·rw [if_pos k] at h
  rw [Le, if_pos k, List.drop_of_length_le (by omega), decide_eq_false (by omega)]
  exact h
 ·rw [if_neg (by omega)] at h
  rw [Le, if_neg (by omega), decide_eq_true k]
  exact h
def nAt (b : Bs) (j : Nat) : Nat := Le (b.drop (4 * j))
def textOf (b : Bs) : Bs := match Gw b with | some p => p.1 | none => []
def cutV (b : Bs) : VoteS := ⟨nAt b 0, nAt b 1, nAt b 2, decide (nAt b 3 = 1), textOf (b.drop 16)⟩
def zeroV : VoteS := ⟨0, 0, 0, false, []⟩
inductive RecS where
 | bad
 | promise (b : Nat)
 | vote (v : VoteS)
def getV (rec : Bs) : RecS :=
 if Le rec = 1 then if (1 ≤ Le (rec.drop 4) ∧ Le (rec.drop 4) ≤ 2147483647) ∧ AhG (Le (rec.drop 4)) = rec then .promise (Le (rec.drop 4)) else .bad
 else if Le rec = 2 then if AbK (cutV (rec.drop 4)) ∧ voteB (cutV (rec.drop 4)) = rec then .vote (cutV (rec.drop 4)) else .bad
 else .bad
end Go.Proofs.YtgpkbldlkadnjaaGreat
end
section
namespace Go.Sl
open Go.RowKit
section
variable {E : En} {w w' : World} {Z Z' : Nat → Prop} {T T' : Nat → Option Value} {F : Nat → Nat} {r : Ad} {nx : Nat}
variable {P : Program} {held : List Nat} {e e' : Env} {de : DEnv} {K : D → Ad → Nat → Prop}
theorem ZO : ∀ {r : Ad} {G : Nat → Nat}, (∀ p ∈ r, NoZ p.2) → RL w Z T r G → RL w Z' T r G
 | [], G, h, hr => hr
 | p :: r, G, h, ⟨v, F1, F2, h1, h2, h3, h4⟩ => ⟨v, F1, F2, h1, h p (by simp) _ _ _ _ _ _ h2, ZO (fun q hq => h q (by simp [hq])) h3, h4⟩
theorem AeT (i : Nat) {eb : TypeId} {l : List D} {f : FuncId} {ds : List D} {tg : Cf K} (hg : Cc r i = some (.box eb l)) (hp : ∀ x ∈ l, x.plain)
  (hc : Ig P f ds (Fh r i (.fbx l)) nx (fun d ro nx' => Cc ro i = some (.fbx l) ∧ (∀ p ∈ Ho ro i, NoZ p.2) ∧ NoZs d ∧ K d ((i, .box eb l) :: Ho ro i) nx')) (hh : ∀ j ∈ held, j = i) : BG P f ds held r nx K tg := by
 intro E w Z T F vs ok hrs
 obtain ⟨v, F1, F2, h1, h2, h3, h4, h5⟩ := ok.roots.get hg
 simp only [Ro] at h2
 obtain ⟨b, us, F0, rfl, hb, hl, hF1⟩ := h2
 obtain ⟨hrl, hF0⟩ := RoL.rs hp hl
 have hob : own (.pointer (some ⟨b, 0, none⟩)) b = 1 := by simp [own, blk]
 have hbF : 0 < F b := by rw [h3, hF1]; omega
 have hblt := ok.lt b hbF
 have hF2b : F2 b = 0 := by have := ok.one b; have := h3 b; have := hF1 b; omega
 have hF2 : ∀ x, F2 x ≤ F x := fun x => by have := h3 x; omega
 have hz1 : ∀ x, Z x → (fun x => Z x ∨ x = b) x := fun x hx => .inl hx
 have hro : Ro w (fun x => Z x ∨ x = b) T (.fbx l) (.pointer (some ⟨b, 0, none⟩)) (fun _ => 0) := by
  simp only [Ro]
  exact ⟨⟨b, rfl, AiL hb (RsL.keep (fun _ _ => rfl) hz1 (fun _ _ h => h) _ _ hrl) (.inr rfl)⟩, fun _ => trivial⟩
 have hrl1 := h5 w (fun x => Z x ∨ x = b) T (.fbx l) _ _ (fun _ _ => rfl) hz1 (fun _ _ h => h) h1 hro
 have hok : Ok ⟨w, fun x => Z x ∨ x = b, T, F2, nx⟩ w (fun x => Z x ∨ x = b) T F2 (Fh r i (.fbx l)) nx := ⟨Fr.refl _ _, fun _ h => h, fun _ _ h => .inl h, fun _ _ => Nat.le_refl _, fun _ _ h => h, fun x => Nat.le_trans (hF2 x) (ok.one x), fun x hx => ok.lt x (Nat.lt_of_lt_of_le hx (hF2 x)), fun x hx => by
  rcases hx with hx | hx
  ·exact ⟨(ok.zlt x hx).1, by have := (ok.zlt x hx).2; have := hF2 x; omega⟩
  ·subst hx; exact ⟨hblt, hF2b⟩, ok.t, ok.cell, Nat.le_refl _, hrl1.cast fun x => by simp⟩
 refine (hc w _ T F2 vs hok (RsL.keep (fun _ _ => rfl) hz1 (fun _ _ h => h) _ _ hrs)).mono fun en w' ⟨v', hv', d, ro, nx', Z', T', F', p, q, g1, g2, g3, g4⟩ => ?_
 have hsz := p.fr.size
 dsimp only at hsz
 have hsame : ∀ x, x < w.heap.size → F2 x = 0 → w'.heap[x]? = w.heap[x]? := fun x hx h0 => p.fr.same x hx (by dsimp only; omega)
 obtain ⟨v0, G1, G2, t1, t2, t3, t4, _⟩ := p.roots.get g1
 have hG : ∀ x, x < w.heap.size → G2 x ≤ F2 x := fun x hx => by have := p.fo x hx; have := t3 x; dsimp only at *; omega
 have hG1 : ∀ x, G2 x ≤ 1 := fun x => by have := p.one x; have := t3 x; omega
 have hGl : ∀ x, 0 < G2 x → x < w'.heap.size := fun x hx => p.lt x (by have := t3 x; omega)
 have hob0 : ∀ x, x ≠ b → own (.pointer (some ⟨b, 0, none⟩)) x = 0 := fun x hx => by simp [own, blk, Ne.symm hx]
 have hzb : ∀ x, Z x → F2 x = 0 ∧ x < w.heap.size ∧ x ≠ b := fun x hx => by
  have hq := ok.zlt x hx; have := hF2 x
  exact ⟨by omega, hq.1, fun e => by subst e; omega⟩
 have hRo : Ro w' Z T' (.box eb l) (.pointer (some ⟨b, 0, none⟩)) (own (.pointer (some ⟨b, 0, none⟩))) := by
  simp only [Ro]
  exact ⟨b, us, fun _ => 0, rfl, (hsame b hblt hF2b).trans hb, RoL.of (RsL.keep (fun x hx => hsame x (hzb x hx).2.1 (hzb x hx).1) (fun _ h => h) p.names _ _ hrl), fun x => by simp⟩
 refine ⟨v', hv', d, (i, .box eb l) :: Ho ro i, nx', Z, T', fun x => own (.pointer (some ⟨b, 0, none⟩)) x + G2 x, ?_, ?_, g3 _ _ _ _ _ q, g4⟩
 ·have hle : ∀ x, x < w.heap.size → own (.pointer (some ⟨b, 0, none⟩)) x + G2 x ≤ F x := fun x hx => by have := hG x hx; have := h3 x; have := hF1 x; omega
  refine ⟨ok.fr.step p.fr (fun x hx hM => ?_), ok.z, ok.zo, fun x hx => ?_, fun j u hu => p.names j u (ok.names j u hu), fun x => ?_, fun x hx => ?_, fun x hx => ?_, p.t, p.cell, Nat.le_trans ok.ge p.ge, ⟨_, _, G2, p.names _ _ h1, hRo, ZO g2 t4, fun x => rfl⟩⟩
  ·have := ok.fo x hx; have := hF2 x; dsimp only at hM; show 0 < E.F x; omega
  ·have hs := ok.fr.size
   exact Nat.le_trans (hle x (by omega)) (ok.fo x hx)
  ·by_cases hx : x < w.heap.size
   ·exact Nat.le_trans (hle x hx) (ok.one x)
   ·rw [hob0 x (fun e => hx (by rw [e]; exact hblt))]; have := hG1 x; omega
  ·by_cases hxb : x = b
   ·subst hxb; omega
   ·rw [hob0 x hxb] at hx; exact hGl x (by omega)
  ·obtain ⟨z1, z2, z3⟩ := hzb x hx
   refine ⟨by omega, ?_⟩
   have := hG x z2
   have := hob0 x z3
   omega
 ·refine ⟨fun x hx => hsame x (hzb x hx).2.1 (hzb x hx).1, fun _ h => h, p.names, fun j hj ho u bu hu hbk => ?_⟩
  rw [hh j hj, h1] at hu
  cases hu
  simp only [blk, Option.some.injEq] at hbk
  subst hbk
  exact hsame b hblt hF2b
theorem Uj {i : Nat} {d c : D} : ∀ {r : Ad}, Cc r i = some c → Cc (Fh r i d) i = some d
 | [], h => by simp [Cc] at h
 | p :: r, h => by
  simp only [Cc] at h
  simp only [Fh]
  by_cases hp : p.1 = i
  ·simp [hp, Cc]
  ·rw [if_neg hp] at h
   rw [if_neg hp]
   simp only [Cc, if_neg hp]
   exact Uj h
theorem AeR (i off : Nat) {eb : TypeId} {l lm : List D} {ks : List Value} {f : FuncId} {ds : List D} {t t' : Cf K} (hg : Cc r i = some (.box eb l)) (hx : l[off]? = some (.mp ks lm)) (hh : ∀ j ∈ held, j = i)
  (k : BG P f ds held ((nx, .mp ks lm) :: Fh r i (.box eb (l.set off (.h nx)))) (nx + 1) K t') : BG P f ds held r nx K t := by
 intro E w Z T F vs ok hrs
 obtain ⟨v, b, u, Fx, a1, a2, a3, a4, _⟩ := QO (nx := nx) (TU.box eb) ok.roots hg hx
 have hT := Gx (v := u) (ok.t nx (Nat.le_refl _))
 have hone := Nb a4 (.inr (.inr ⟨_, _, rfl⟩))
 have hr' : RL w Z (GL T nx u) r F := ok.roots.keep (fun _ h => h) hT (fun _ _ => rfl)
 obtain ⟨v', b', u', Fx', c1, c2, c3, c4, c5⟩ := QO (nx := nx) (TU.box eb) hr' hg hx
 rw [hT i _ a1] at c1
 cases c1
 rw [a2] at c2
 cases c2
 rw [a3] at c3
 cases c3
 have hne : nx ≠ i := fun e => by subst e; rw [ok.t nx (Nat.le_refl _)] at a1; cases a1
 obtain ⟨o1, o2⟩ := ok.name (held := held) hone (fun _ => rfl) (c5 (.h nx) (by simp only [Rs]; exact Cm _ _ _) (Cm _ _ _))
 refine (k E w Z _ F vs o1 (RsL.keep (fun _ _ => rfl) (fun _ h => h) hT _ _ hrs)).mono fun en w' ⟨v2, hv2, d, r', nx', Z', T', F', p1, p2, p3⟩ => ⟨v2, hv2, d, r', nx', Z', T', F', p1, o2.trans p2 fun j hj ho => .inl ?_, p3⟩
 rw [hh j hj]
 unfold heldOk
 rw [Ac hne, Uj hg]
 trivial
theorem Vt : ∀ {l : List D}, (∀ d ∈ l, NoZ d) → ∀ (w : World) (Z Z' : Nat → Prop) (T : Nat → Option Value) (us : List Value) (F : Nat → Nat), RoL w Z T l us F → RoL w Z' T l us F
 | [], _, w, Z, Z', T, us, F, h => by simp only [RoL] at h ⊢; exact h
 | d :: l, hl, w, Z, Z', T, us, F, h => by
  simp only [RoL] at h ⊢
  obtain ⟨u, us', F1, F2, rfl, h1, h2, h3⟩ := h
  exact ⟨u, us', F1, F2, rfl, hl d (by simp) w Z Z' T u F1 h1, Vt (fun d hd => hl d (by simp [hd])) w Z Z' T us' F2 h2, h3⟩
theorem noZ_sc (v : Value) : NoZ (.sc v) := fun w Z Z' T u F h => by simp only [Ro, Rs] at h ⊢; exact h
theorem AjD {e : TypeId} {l : List D} (h : ∀ d ∈ l, NoZ d) : NoZ (.box e l) := fun w Z Z' T v F hr => by
 simp only [Ro] at hr ⊢
 obtain ⟨b, us, F', h0, h1, h2, h3⟩ := hr
 exact ⟨b, us, F', h0, h1, Vt h w Z Z' T us F' h2, h3⟩
theorem noZ_mp {ks : List Value} {l : List D} (h : ∀ d ∈ l, NoZ d) : NoZ (.mp ks l) := fun w Z Z' T v F hr => by
 simp only [Ro] at hr ⊢
 obtain ⟨b, us, F', h0, h1, h2, h3⟩ := hr
 exact ⟨b, us, F', h0, h1, Vt h w Z Z' T us F' h2, h3⟩
end
end Go.Sl
end
section
set_option maxHeartbeats 3000000
attribute [local irreducible] Go.Sl.Chk Go.Sl.Br Go.Sl.Or2 Go.Sl.Ld Go.Sl.Ldn Go.Sl.LdB Go.Sl.Stn Go.Sl.New Go.Sl.Run Go.Sl.Ez Go.Sl.Eu Go.Sl.Call Go.Sl.CQ Go.Sl.EC Go.Sl.Alt Go.Sl.Om Go.Sl.xpk Go.Sl.FM Go.Sl.FN Go.Sl.DLd Go.Sl.Fe Go.Sl.DBs Go.Sl.BG Go.Sl.EN Go.Sl.EM Go.Sl.Dz Go.Sl.DGC Go.Sl.DW Go.Sl.Gl Go.Sl.Ei Go.Sl.Ent Go.Sl.Be Go.Sl.dv Go.Sl.ev Go.Sl.Au
namespace Go.Proofs.YtgpkbldlkadnjaaGreat
open Go Go.Sl Go.RowKit
def FD (fs : List FileS) : Nat := (fs.map fun f => f.2.1.length).sum
theorem Afg (fs : List FileS) : ((List.range fs.length).map fun j => (fs.getD j default).2.1.length).sum = FD fs := by
 rw [FD]
 congr 1
 refine List.ext_getElem (by simp) fun k h1 h2 => ?_
 simp at h1
 simp [List.getD_eq_getElem?_getD, h1]
theorem Wq {S : List Nat} {N : Nat} (h : S.Nodup) (hl : ∀ j ∈ S, j < N) : S.Perm ((List.range N).filter fun j => decide (j ∈ S)) :=
 (List.perm_ext_iff_of_nodup h (List.nodup_range.filter _)).2 fun j => by
  simp only [List.mem_filter, List.mem_range, decide_eq_true_eq]
  exact ⟨fun hj => ⟨hl j hj, hj⟩, fun hj => hj.2⟩
theorem UC {S : List Nat} {N : Nat} (h : S.Nodup) (hl : ∀ j ∈ S, j < N) : S.length ≤ N := by
 rw [(Wq h hl).length_eq]
 have := List.length_filter_le (fun j => decide (j ∈ S)) (List.range N)
 simpa using this
theorem SI (p : Nat → Bool) (g : Nat → Nat) : ∀ l : List Nat, ((l.filter p).map g).sum ≤ (l.map g).sum
 | [] => by simp
 | x :: l => by
  have := SI p g l
  rw [List.filter_cons]
  split
  ·simp only [List.map_cons, List.sum_cons]; omega
  ·simp only [List.map_cons, List.sum_cons]; omega
theorem Ahe {S : List Nat} {fs : List FileS} (h : S.Nodup) (hl : ∀ j ∈ S, j < fs.length) : (S.map fun j => (fs.getD j default).2.1.length).sum ≤ FD fs := by
 rw [((Wq h hl).map _).sum_nat, ← Afg]
 exact SI _ _ _
theorem XX {S : List Nat} {N : Nat} (h : S.Nodup) (hl : ∀ j ∈ S, j < N) (ha : ∀ j, j < N → j ∈ S) : S.Perm (List.range N) :=
 (List.perm_ext_iff_of_nodup h List.nodup_range).2 fun j => ⟨fun hj => List.mem_range.2 (hl j hj), fun hj => ha j (List.mem_range.1 hj)⟩
theorem used_l (fs : List FileS) (most : Nat) (hs : G6 fs) (hu : FD fs ≤ 1000000) {i m nx : Nat} (hi : i < nx) (hm : m < nx) (hne : m ≠ i) : Ig Tryz.prog Lt [.hp i 0] [(m, .mp (Ae fs) (fs.map fileO)), (i, .fbx [.h m, iD most])] nx (fun d ro _ => d = iD (FD fs) ∧ ro = [(m, .mp (Ae fs) (fs.map fileO)), (i, .fbx [.h m, iD most])]) := by
 refine AU VS (by simp only [m_disk_Disk_Used, List.length]; decide) ?_
 simp only [m_disk_Disk_Used]; refine WK ?_; try with_reducible exact trivial
 refine Ais (im := m) (ks := Ae fs) (l := fs.map fileO) (by refine WK ?_; try with_reducible exact trivial) (Aa _ _ _) Tryz.underlying97 ?_
 refine WK ?_; try with_reducible exact trivial
 refine Gu [0, 3, 10] (fun s : List Nat × Nat => ([(0, .hp i 0), (3, iD ((s.1.map fun j => (fs.getD j default).2.1.length).sum : Nat)), (10, .h (nx))], [(nx, .abs (ItA m (Ae fs) (fs.map fileO) s.1)), (i, .fbx [.h m, iD most])], s.2)) (fun s => s.1.Nodup ∧ (∀ j ∈ s.1, j < fs.length) ∧ nx < s.2) (fun s => fs.length - s.1.length) ([], nx + 1) ⟨List.nodup_nil, by simp, by dsimp only; omega⟩ (Ent.of (by with_unfolding_all rfl) rfl) ?_
 rintro ⟨S, n⟩ ⟨hS, hSl, hn⟩
 dsimp only at hS hSl hn ⊢
 have hSlen : S.length ≤ fs.length := UC hS hSl
 refine WK ?_; try with_reducible exact trivial
 refine dnext (ni := nx) (im := m) (ks := Ae fs) (l := fs.map fileO) (S := S) (by refine WK ?_; try with_reducible exact trivial) (Aa _ _ _) (by simp) (fun hall => ?_) (fun j key hj hjS => ?_)
 ·refine WK ?_; try with_reducible exact trivial
  have hp : S.Perm (List.range fs.length) := XX hS hSl (fun j hj => hall j (by unfold Ae; rw [List.length_map]; exact hj))
  have hsum : (S.map fun j => (fs.getD j default).2.1.length).sum = FD fs := by
   rw [(hp.map _).sum_nat, Afg]
  rw [hsum]
  refine Dw (t' := .mk _) (RT.itdone nx m (Aa _ _ _)) ?_
  rw [AV]
  exact Dc ⟨rfl, rfl⟩
 ·have hjl : j < fs.length := by have := (List.getElem?_eq_some_iff.1 hj).1; unfold Ae at this; rwa [List.length_map] at this
  have hfj : fs[j]? = some fs[j] := List.getElem?_eq_getElem hjl
  have hgd : fs.getD j default = fs[j] := by rw [List.getD_eq_getElem?_getD, hfj]; rfl
  refine WK ?_; try with_reducible exact trivial
  refine Yr (ni := nx) (im := m) (j := j) (ks := Ae fs) (l := fs.map fileO) (S := S) (key := key) (eb := Aj) (lc := [Ar fs[j].2.1, iD fs[j].2.2]) (by refine WK ?_; try with_reducible exact trivial) (Aa _ _ _) hj (by rw [List.getElem?_map, hfj]; rfl) ?_
  have hS2 : (S ++ [j]).Nodup := List.nodup_append.2 ⟨hS, by simp, by simp only [List.mem_singleton]; rintro a ha b rfl e; exact hjS (e ▸ ha)⟩
  have hSl2 : ∀ k ∈ S ++ [j], k < fs.length := fun k hk => by
   rcases List.mem_append.1 hk with h | h
   ·exact hSl k h
   ·simp only [List.mem_singleton] at h; omega
  have hpart := Ahe hS2 hSl2
  have hadd : ((S ++ [j]).map fun j => (fs.getD j default).2.1.length).sum = (S.map fun j => (fs.getD j default).2.1.length).sum + fs[j].2.1.length := by
   rw [List.map_append, List.sum_append, List.map_cons, List.map_nil, List.sum_cons, hgd]; rfl
  refine WK ?_; try with_reducible exact trivial
  refine ⟨(S ++ [j], n + 2), ⟨hS2, hSl2, by dsimp only; omega⟩, by dsimp only; rw [List.length_append, List.length_singleton]; have := UC hS2 hSl2; rw [List.length_append, List.length_singleton] at this; omega, ?_⟩
  dsimp only
  rw [hadd]
  have f1 := RT.fold (r := [(n + 1, Ar fs[j].2.1), (n, .box Aj [.h (n + 1), iD fs[j].2.2]), (nx, .abs (ItA m (Ae fs) ((fs.map fileO).set j (.hp n 0)) (S ++ [j]))), (i, .fbx [.h m, iD most])]) (n + 1) n 0 (d := Ar fs[j].2.1) (c := .box Aj [.h (n + 1), iD fs[j].2.2]) (l := [.h (n + 1), iD fs[j].2.2]) (by refine WK ?_; try with_reducible exact trivial) (by omega) (by refine WK ?_; try with_reducible exact trivial) rfl rfl
  simp -dsimp (disch := omega) only [Aa, Ac, Ba, CX, AV, Bd, D6, List.set_cons_zero] at f1
  have f2 := RT.itfold (r := [(n, .box Aj [Ar fs[j].2.1, iD fs[j].2.2]), (nx, .abs (ItA m (Ae fs) ((fs.map fileO).set j (.hp n 0)) (S ++ [j]))), (i, .fbx [.h m, iD most])]) n nx m j (ks := Ae fs) (l := (fs.map fileO).set j (.hp n 0)) (S := S ++ [j]) (d := .box Aj [Ar fs[j].2.1, iD fs[j].2.2]) (Aa _ _ _) (by omega) (by rw [Ac (by omega), Aa]) (List.getElem?_set_self (by rw [List.length_map]; exact hjl))
  have e1 : ((fs.map fileO).set j (.hp n 0)).set j (.box Aj [Ar fs[j].2.1, iD fs[j].2.2]) = fs.map fileO := by
   rw [List.set_set]
   exact GG (by rw [List.getElem?_map, hfj]; rfl)
  rw [e1] at f2
  simp -dsimp (disch := omega) only [↓MC.xwp, ↓BM, ↓xdr, ↓MOp.xwp, dvs, dv, dvu, dvo, dvp, dgb, dGd, DN, cond_true, cond_false, FZ, Be, CU, Di, Dv, Dl, ptr, bsc, cv, uo, uof, Bj, xpr, DF, EF, FB, E8, F9, FK, Gf, xst, xgp, glc, FW, DL, FU, FV, FQ, FT, DK, FP, FC, FO, DI, DJ, BV, DC, E5, dsl, dif, BK, CE, BB, scs, rowOf, Az, dtk, Du, BF, pev, Bz, BC, Aq, BD, psl, Bc, ↓Dx, ↓BZ, ↓FH, ↓EY, Dp, Ff, E9, Df, Bq, kp, C9, Dk, ES, Dj, Fj, CV, AB, Bi, nb, ET, BL, AY, apart, Af, AX, heldOk, Op.operands, Nat.reduceAdd, forall_eq_or_imp, D.plain, reduceCtorEq, if_true, if_false, ↓reduceIte, ne_eq, Bool.cond_true, Bool.cond_false, forall_const, implies_true, forall_eq, Int.reduceEq, Int.reduceLT, Int.reduceLE, Int.reduceAdd, Int.reduceSub, Int.reduceMul, Int.reduceToNat, Nat.reduceMul, Nat.reduceLeDiff, Nat.reduceLT, Nat.reduceSub, Nat.reduceBEq, Nat.reduceEqDiff, CG, bytesD, iD, BP, Ak, Bv, bD, DB] at f2
  refine (Ent.of_rt (f1.trans f2)).trans ?_
  exact (Ent.of (by with_unfolding_all rfl) rfl)
def KY (fs : List FileS) (most : Nat) (n b : Bs) : List FileS :=
 if Gn n = false then fs else if (most : Int) - FD fs < b.length then fs else
 match CO fs n with
 | none => fs ++ [(n, b, 0)]
 | some j => fs.set j (n, (fs.getD j default).2.1 ++ b, (fs.getD j default).2.2)
def NW (fs : List FileS) (most : Nat) (n b : Bs) : Nat :=
 if Gn n = false then 1 else if (most : Int) - FD fs < b.length then 4 else 0
theorem AeQ {P : Program} {f : FuncId} {ds : List D} {r : Ad} {nx : Nat} {Q Q' : D → Ad → Nat → Prop} (h : Ig P f ds r nx Q) (k : ∀ d ro nx', nx ≤ nx' → Q d ro nx' → Q' d ro nx') : Ig P f ds r nx Q' := fun w Z T F vs ok hrs =>
 (h w Z T F vs ok hrs).mono fun en w' ⟨v, hv, d, r', nx', Z', T', F', o1, o2, o3⟩ => ⟨v, hv, d, r', nx', Z', T', F', o1, o2, k d r' nx' o1.ge o3⟩
theorem U6 (fs : List FileS) (most : Nat) (n b : Bs) (hs : G6 fs) (hu : FD fs ≤ 1000000) (hm : most ≤ 1000000) (hn : n.length ≤ 1000) (hb : b.length ≤ 1000000) : SH Tryz.prog Gs (fun i => [.hp i 0, Bv n, bytesD b]) (AA fs most) (iD (NW fs most n b)) (AA (KY fs most n b) most) := by
 intro i nx hi
 refine AU TR (by simp only [m_disk_Disk_Append, List.length]; decide) ?_
 simp only [m_disk_Disk_Append]; refine WK ?_; try with_reducible exact trivial
 refine BH (AaV n) fun n1 h1 => ?_
 refine WK ?_; try with_reducible exact trivial
 cases hnm : Gn n with
 | false =>
  refine WK ?_; try with_reducible exact trivial
  refine Dc ⟨?_, ?_⟩ <;> simp only [NW, KY, hnm, if_true] <;> rfl
 | true =>
  rw [show [(i, AA fs most)] = [(i, .box Ah [.mp (Ae fs) (fs.map fileO), iD most])] from rfl]
  refine WK ?_; try with_reducible exact trivial
  refine AeR i 0 (t' := .mk _) (Aa _ _ _) rfl (by simp) ?_
  rw [Ba, List.set_cons_zero]
  refine AeT i (eb := Ah) (l := [.h n1, iD most]) (by rw [Ac (by omega)]; exact Aa _ _ _) (by simp [D.plain]) ?_ (by simp)
  have hul := used_l fs most hs hu (i := i) (m := n1) (nx := n1 + 1) (by omega) (by omega) (by omega)
  rw [CX (by omega), Ba]
  refine AeQ hul fun d ro n2 h2 ⟨hd, hro⟩ => ?_
  subst hd; subst hro
  refine ⟨by refine WK ?_; try with_reducible exact trivial, ?_, AjB _, ?_⟩
  ·rw [Bd (by omega), AV]
   intro p hp
   simp only [List.mem_singleton] at hp
   subst hp
   refine noZ_mp fun d hd => ?_
   obtain ⟨f, _, rfl⟩ := List.mem_map.1 hd
   refine AjD fun d hd => ?_
   simp only [List.mem_cons, List.not_mem_nil, or_false] at hd
   rcases hd with rfl | rfl
   ·exact Qc _
   ·exact noZ_sc _
  rw [Bd (by omega), AV]
  refine WK ?_; try with_reducible exact trivial
  have hpk := RT.only (r := [(i, .box Ah [.h n1, iD most]), (n1, .mp (Ae fs) (fs.map fileO))]) [n1, i]
  simp -dsimp (disch := omega) only [Aa, Ac, Ba, CX, AV, Bd, ER] at hpk
  refine brd (fun hful => ?_) (fun hful => ?_)
  ·refine WK ?_; try with_reducible exact trivial
   refine Dw (t' := .mk _) (hpk.trans (Gt (by omega))) ?_
   refine Dc ⟨?_, ?_⟩ <;> simp only [NW, KY, hnm, hful, if_true, Bool.true_eq_false, if_false] <;> rfl
  ·refine WK ?_; try with_reducible exact trivial
   cases hfn : CO fs n with
   | none =>
    refine NR (i := n1) (ks := Ae fs) (l := fs.map fileO) (key := strV n) (by refine WK ?_; try with_reducible exact trivial) (by refine WK ?_; try with_reducible exact trivial) (by rw [Ac (by omega), Aa]) kd9 Tryz.underlying97 (z := .pointer none) Pj (EW (by omega)) (Dq hs) (Iu hfn) ?_
    refine WK ?_; try with_reducible exact trivial
    refine TE (i := n1) (ks := Ae fs) (l := fs.map fileO) (key := strV n) (d := .hp n2 0) (by refine WK ?_; try with_reducible exact trivial) (by refine WK ?_; try with_reducible exact trivial) (by refine WK ?_; try with_reducible exact trivial) (by refine WK ?_; try with_reducible exact trivial) kd9 Tryz.underlying97 (EW (by omega)) (Dq hs) (Iu hfn) (by simp only [D.plain]) (by simp) ?_
    have hks2 : ∀ x ∈ Ae fs ++ [strV n], ∃ l, keyOf Tryz.prog 9 x = some l := fun x hx => by
     rcases List.mem_append.1 hx with h | h
     ·exact Dq hs x h
     ·simp only [List.mem_singleton] at h; subst h; exact ⟨_, EW (by omega)⟩
    have hll : (Ae fs).length = fs.length := by unfold Ae; rw [List.length_map]
    have hg2 : (fs.map fileO ++ [D.hp n2 0])[fs.length]? = some (.hp n2 0) := by rw [List.getElem?_append_right (by rw [List.length_map]; exact Nat.le_refl _), List.length_map, Nat.sub_self]; rfl
    refine WK ?_; try with_reducible exact trivial
    refine Ac6 (i := n1) (j := fs.length) (ks := Ae fs ++ [strV n]) (l := fs.map fileO ++ [.hp n2 0]) (key := strV n) (d := .hp n2 0) (by refine WK ?_; try with_reducible exact trivial) (by refine WK ?_; try with_reducible exact trivial) (by refine WK ?_; try with_reducible exact trivial) kd9 Tryz.underlying97 (EW (by omega)) hks2 (by rw [List.getElem?_append_right (by omega), hll, Nat.sub_self]; rfl) hg2 (by simp only [D.plain]) ?_
    refine WK ?_; try with_reducible exact trivial
    refine Adc (m := b.length) (l' := b.map bD) elB (JA.sl _ _ _) (by simp) Jg (by omega) (by omega) ?_
    refine WK ?_; try with_reducible exact trivial
    have f1 := RT.fold (r := [(n2 + 1, Ar b), (n2, .box Aj [.h (n2 + 1), .sc (.int .i64 0)]), (i, .box Ah [.h n1, iD most]), (n1, .mp (Ae fs ++ [strV n]) (fs.map fileO ++ [.hp n2 0]))]) (n2 + 1) n2 0 (d := Ar b) (c := .box Aj [.h (n2 + 1), .sc (.int .i64 0)]) (l := [.h (n2 + 1), .sc (.int .i64 0)]) (Aa _ _ _) (by omega) (by refine WK ?_; try with_reducible exact trivial) rfl rfl
    simp -dsimp (disch := omega) only [Aa, Ac, Ba, CX, AV, Bd, D6, List.set_cons_zero] at f1
    have f2 := RT.fold (r := [(n2, .box Aj [Ar b, .sc (.int .i64 0)]), (i, .box Ah [.h n1, iD most]), (n1, .mp (Ae fs ++ [strV n]) (fs.map fileO ++ [.hp n2 0]))]) n2 n1 fs.length (d := .box Aj [Ar b, .sc (.int .i64 0)]) (c := .mp (Ae fs ++ [strV n]) (fs.map fileO ++ [.hp n2 0])) (l := fs.map fileO ++ [.hp n2 0]) (Aa _ _ _) (by omega) (by refine WK ?_; try with_reducible exact trivial) rfl hg2
    have es : (fs.map fileO ++ [D.hp n2 0]).set fs.length (.box Aj [Ar b, .sc (.int .i64 0)]) = (fs ++ [(n, b, 0)]).map fileO := by
     rw [List.set_append_right _ _ (by rw [List.length_map]; exact Nat.le_refl _), List.length_map, Nat.sub_self, List.map_append]
     rfl
    have en : Ae fs ++ [strV n] = Ae (fs ++ [(n, b, 0)]) := by unfold Ae; rw [List.map_append]; rfl
    simp only [D6] at f2
    rw [es] at f2
    simp -dsimp (disch := omega) only [↓MC.xwp, ↓BM, ↓xdr, ↓MOp.xwp, dvs, dv, dvu, dvo, dvp, dgb, dGd, DN, cond_true, cond_false, FZ, Be, CU, Di, Dv, Dl, ptr, bsc, cv, uo, uof, Bj, xpr, DF, EF, FB, E8, F9, FK, Gf, xst, xgp, glc, FW, DL, FU, FV, FQ, FT, DK, FP, FC, FO, DI, DJ, BV, DC, E5, dsl, dif, BK, CE, BB, scs, rowOf, Az, dtk, Du, BF, pev, Bz, BC, Aq, BD, psl, Bc, ↓Dx, ↓BZ, ↓FH, ↓EY, Dp, Ff, E9, Df, Bq, kp, C9, Dk, ES, Dj, Fj, CV, AB, Bi, nb, ET, BL, AY, apart, Af, AX, heldOk, Op.operands, Nat.reduceAdd, forall_eq_or_imp, D.plain, reduceCtorEq, if_true, if_false, ↓reduceIte, ne_eq, Bool.cond_true, Bool.cond_false, forall_const, implies_true, forall_eq, Int.reduceEq, Int.reduceLT, Int.reduceLE, Int.reduceAdd, Int.reduceSub, Int.reduceMul, Int.reduceToNat, Nat.reduceMul, Nat.reduceLeDiff, Nat.reduceLT, Nat.reduceSub, Nat.reduceBEq, Nat.reduceEqDiff, CG, bytesD, iD, BP, Ak, Bv, bD, DB] at f2
    have f3 := RT.only (r := [(i, .box Ah [.h n1, iD most]), (n1, .mp (Ae (fs ++ [(n, b, 0)])) ((fs ++ [(n, b, 0)]).map fileO))]) [n1, i]
    simp -dsimp (disch := omega) only [Aa, Ac, Ba, CX, AV, Bd, ER] at f3
    have f4 := RT.trans f3 (Gt (by omega))
    rw [← en] at f4
    refine Dw (t' := .mk _) ((RT.trans f1 f2).trans f4) ?_
    refine Dc ⟨?_, ?_⟩ <;> simp only [NW, KY, hnm, hful, hfn, Bool.true_eq_false, if_false] <;> rfl
   | some j =>
    obtain ⟨f, hj, hfe⟩ := BX hfn
    have hsf := hs f (List.mem_of_getElem? hj)
    have hgd : fs.getD j default = f := by rw [List.getD_eq_getElem?_getD, hj]; rfl
    have hlt := (List.getElem?_eq_some_iff.1 hj).1
    have hkj : (Ae fs)[j]? = some (strV n) := by unfold Ae; rw [List.getElem?_map, hj, ← hfe]; rfl
    refine Kq (i := n1) (j := j) (ks := Ae fs) (l := fs.map fileO) (key := strV n) (eb := Aj) (lc := [Ar f.2.1, iD f.2.2]) (by refine WK ?_; try with_reducible exact trivial) (by refine WK ?_; try with_reducible exact trivial) (by rw [Ac (by omega), Aa]) kd9 Tryz.underlying97 (EW (by omega)) (Dq hs) hkj (by rw [List.getElem?_map, hj]; rfl) ?_
    refine WK ?_; try with_reducible exact trivial
    refine Ac6 (i := n1) (j := j) (ks := Ae fs) (l := (fs.map fileO).set j (.hp n2 0)) (key := strV n) (d := .hp n2 0) (by refine WK ?_; try with_reducible exact trivial) (by refine WK ?_; try with_reducible exact trivial) (by refine WK ?_; try with_reducible exact trivial) kd9 Tryz.underlying97 (EW (by omega)) (Dq hs) hkj (List.getElem?_set_self (by rw [List.length_map]; exact hlt)) (by simp only [D.plain]) ?_
    refine WK ?_; try with_reducible exact trivial
    refine NY (i := n2 + 1) (m := b.length) (l' := b.map bD) elB (l := f.2.1.map bD) (n := f.2.1.length) (by refine WK ?_; try with_reducible exact trivial) (JA.sl _ _ _) (by simp) Jg (by omega) (by omega) (by simp) ?_
    refine WK ?_; try with_reducible exact trivial
    have er : D.row 5 1 (f.2.1.length + b.length) (f.2.1.map bD ++ b.map bD) = Ar (f.2.1 ++ b) := by simp only [Ar, List.length_append, List.map_append]
    rw [er]
    have f3 := RT.only (r := [(n2 + 2, Ar (f.2.1 ++ b)), (n2, .box Aj [.h (n2 + 2), iD f.2.2]), (i, .box Ah [.h n1, iD most]), (n1, .mp (Ae fs) ((fs.map fileO).set j (.hp n2 0)))]) [n2 + 2, n2, n1, i]
    simp -dsimp (disch := omega) only [Aa, Ac, Ba, CX, AV, Bd, ER] at f3
    refine Dw (t' := .mk _) (RT.trans f3 (Je n (f.2.1 ++ b) f.2.2 hj hfe (by omega) (by omega) (by omega) (by omega) (by omega) (by omega))) ?_
    refine Dc ⟨?_, ?_⟩ <;> simp only [NW, KY, hnm, hful, hfn, hgd, Bool.true_eq_false, if_false] <;> rfl
end Go.Proofs.YtgpkbldlkadnjaaGreat
end
