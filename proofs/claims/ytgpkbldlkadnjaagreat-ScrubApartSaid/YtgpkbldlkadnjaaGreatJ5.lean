/- Contracts over data: the pieces of a value; shards. -/
import Derived.Test.YtgpkbldlkadnjaaGreatJ4
import Derived.Test.YtgpkbldlkadnjaaGreatJ3
import Derived.Test.YtgpkbldlkadnjaaGreatJ1
import Derived.Test.YtgpkbldlkadnjaaGreatJ2
import Derived.Carry
import Derived.ChangeMaps5
import Derived.Maps.RangeRun
set_option linter.unusedVariables false
set_option linter.unusedSimpArgs false
section
set_option maxHeartbeats 3000000
attribute [local irreducible] Go.Sl.Chk Go.Sl.Br Go.Sl.Or2 Go.Sl.Ld Go.Sl.Ldn Go.Sl.LdB Go.Sl.Stn Go.Sl.New Go.Sl.Run Go.Sl.Ec Go.Sl.D9 Go.Sl.Call Go.Sl.Cc Go.Sl.Ed Go.Sl.Alt Go.Sl.Om Go.Sl.xpk Go.Sl.EX Go.Sl.EY Go.Sl.DLd Go.Sl.ES Go.Sl.DBs Go.Sl.Bo Go.Sl.Et Go.Sl.Es Go.Sl.Dk Go.Sl.DGC Go.Sl.Dq Go.Sl.Fj Go.Sl.D8 Go.Sl.Ent Go.Sl.Bg Go.Sl.dv Go.Sl.ev Go.Sl.Am
namespace Go.Proofs.YtgpkbldlkadnjaaGreat
open Go Go.Sl Go.RowKit
theorem AiI (b : Bs) (n : Nat) (hn : 1 ≤ n) : ED Tryz.prog MK [bytesD b, iD n] (.fn Gs [] [.pt [bytesD b], .pt [iD n]]) := by
 intro nx
 refine A8 Xu (by simp only [m_slices_Chunk, List.length]; decide) ?_
 simp only [m_slices_Chunk]; refine WK ?_; try with_reducible exact trivial
 refine Dc (t' := .mk _) (RT.frz (nx + 1) (Aa _ _ _) (by simp only [I9, Jv, and_self])) ?_
 refine Dc (t' := .mk _) (RT.frz nx (d := .box Au [bytesD b]) (by refine WK ?_; try with_reducible exact trivial) (by simp only [I9, Jv, and_self])) ?_
 simp -dsimp (disch := omega) only [↓MC.xwp, ↓Ce, ↓xdr, ↓MOp.xwp, dvs, dv, dvu, dvo, dvp, dgb, dGd, DX, cond_true, cond_false, Gf, Bg, CQ, Dp, DD, Du, ptr, bsc, cv, uo, uof, Bq, xpr, DL, EL, FM, FB, Gi, FT, Gj, xst, xgp, glc, F8, DV, FY, FZ, FW, FX, DU, FV, FN, FU, DN, DR, Cj, Dw, Fv, dsl, dif, BV, CP, BI, scs, rowOf, AU, dtk, DC, BJ, pev, Bl, Bv, Aq, Bz, psl, Ba, ↓DI, ↓CB, ↓FP, ↓Fq, Dz, FD, FC, Dj, BG, kp, Di, Dv, E9, Dt, FI, CZ, AQ, BB, nb, Fe, Cb, Bd, apart, Aj, Bc, heldOk, Op.operands, Nat.reduceAdd, forall_eq_or_imp, D.plain, reduceCtorEq, if_true, if_false, ↓reduceIte, ne_eq, Bool.cond_true, Bool.cond_false, forall_const, implies_true, forall_eq, Int.reduceEq, Int.reduceLT, Int.reduceLE, Int.reduceAdd, Int.reduceSub, Int.reduceMul, Int.reduceToNat, Nat.reduceMul, Nat.reduceLeDiff, Nat.reduceLT, Nat.reduceSub, Nat.reduceBEq, Nat.reduceEqDiff, CY, bytesD, iD, CU, AO, BC, bD, DB, frzR, QB, frz]
 refine Ady (t' := .mk _) ?_
 simp -dsimp (disch := omega) only [↓MC.xwp, ↓Ce, ↓xdr, ↓MOp.xwp, dvs, dv, dvu, dvo, dvp, dgb, dGd, DX, cond_true, cond_false, Gf, Bg, CQ, Dp, DD, Du, ptr, bsc, cv, uo, uof, Bq, xpr, DL, EL, FM, FB, Gi, FT, Gj, xst, xgp, glc, F8, DV, FY, FZ, FW, FX, DU, FV, FN, FU, DN, DR, Cj, Dw, Fv, dsl, dif, BV, CP, BI, scs, rowOf, AU, dtk, DC, BJ, pev, Bl, Bv, Aq, Bz, psl, Ba, ↓DI, ↓CB, ↓FP, ↓Fq, Dz, FD, FC, Dj, BG, kp, Di, Dv, E9, Dt, FI, CZ, AQ, BB, nb, Fe, Cb, Bd, apart, Aj, Bc, heldOk, Op.operands, Nat.reduceAdd, forall_eq_or_imp, D.plain, reduceCtorEq, if_true, if_false, ↓reduceIte, ne_eq, Bool.cond_true, Bool.cond_false, forall_const, implies_true, forall_eq, Int.reduceEq, Int.reduceLT, Int.reduceLE, Int.reduceAdd, Int.reduceSub, Int.reduceMul, Int.reduceToNat, Nat.reduceMul, Nat.reduceLeDiff, Nat.reduceLT, Nat.reduceSub, Nat.reduceBEq, Nat.reduceEqDiff, CY, bytesD, iD, CU, AO, BC, bD, DB, Ahe]
 exact Eb ⟨rfl, rfl⟩
theorem WE {k : Nat} (hk : 0 < k) (v : Bs) {j : Nat} (hj : j < k) : gt (AL k v) j = ((GZ k (Be v)).drop (j * BK k v.length)).take (BK k v.length) := by
 have h := Ab2 (BK k v.length) k (GZ k (Be v)) j hj
 rw [gt, List.getD_eq_getElem?_getD, AL, h]
 rfl
theorem Afl (l : LL) (x : Bs) : (D.row Au 1 (l.length + 1) (l.map Ak ++ [Ak x])) = Abt (l ++ [x]) := by simp only [Abt, List.map_append, List.map_cons, List.map_nil, List.length_append, List.length_cons, List.length_nil]
theorem Aa6 {k : Int} {v : Bs} {w : World} {Z : Nat → Prop} {T : Nat → Option Value} {vs : List Value} (h : RsL w Z T [iD k, BC v] vs) : vs = [.int .i64 k, .string ⟨v.toArray⟩] := by
 obtain ⟨a, b, rfl, h1, h2⟩ := Pn h
 simp only [Rs] at h1 h2
 rw [h1, h2]
def PJ (k : Nat) (v : Bs) (io nn : Nat) (j : Nat) (r : Ad) (nx : Nat) : Prop :=
 nn ≤ nx ∧ io < nn ∧ ((j = 0 ∧ r = [(io, .box Ep [.sc (.slice none 0 0)])]) ∨ ∃ q, nn ≤ q ∧ q < nx ∧ r = [(q, Abt ((AL k v).take j)), (io, .box Ep [.h q])])
set_option maxRecDepth 100000 in
theorem AgA (k : Nat) (v : Bs) (hk : 1 ≤ k) (hk2 : k ≤ 1000) (hv : v.length ≤ 1000000) : MW Tryz.prog ND [iD k, BC v] (fun i => .h i) (Abt (AL k v)) := by
 intro nx w Z T F vs ok hrs
 obtain rfl := Aa6 hrs
 refine Ach Tryz.func138 rfl ?_
 have hpl := TY (k := k) (n := (Be v).length) (by omega)
 have hpg := NU (k := k) (n := (Be v).length) (by omega)
 have htl := Ej v
 have hsim : Sim 31 (AA 0 [.int .i64 k, .string ⟨v.toArray⟩]) { tmps := (List.toArray [.int .i64 k, .string ⟨v.toArray⟩]) ++ Array.replicate (Tryz.f138.ntmps - (List.toArray [Value.int .i64 k, .string ⟨v.toArray⟩]).size) undef, defers := [] } := by
  rw [Tryz.ntmps138]; exact sim0 (by simp)
 have henv : DZ w Z T (AA 0 [.int .i64 k, .string ⟨v.toArray⟩]) (FC 0 [iD k, BC v]) := Aap 0 hrs
 refine wp_seq (AbY (m := .ops [.p 4 .mv [(.const (.slice none 0 0))]]) (by kernel_rfl) hsim ok henv (Q := fun de r n => Bg de 0 = some (iD k) ∧ Bg de 1 = some (BC v) ∧ r = [] ∧ nx = n) (by simp -dsimp (disch := omega) only [↓MC.xwp, ↓Ce, ↓xdr, ↓MOp.xwp, dvs, dv, dvu, dvo, dvp, dgb, dGd, DX, cond_true, cond_false, Gf, Bg, CQ, Dp, DD, Du, ptr, bsc, cv, uo, uof, Bq, xpr, DL, EL, FM, FB, Gi, FT, Gj, xst, xgp, glc, F8, DV, FY, FZ, FW, FX, DU, FV, FN, FU, DN, DR, Cj, Dw, Fv, dsl, dif, BV, CP, BI, scs, rowOf, AU, dtk, DC, BJ, pev, Bl, Bv, Aq, Bz, psl, Ba, ↓DI, ↓CB, ↓FP, ↓Fq, Dz, FD, FC, Dj, BG, kp, Di, Dv, E9, Dt, FI, CZ, AQ, BB, nb, Fe, Cb, Bd, apart, Aj, Bc, heldOk, Op.operands, Nat.reduceAdd, forall_eq_or_imp, D.plain, reduceCtorEq, if_true, if_false, ↓reduceIte, ne_eq, Bool.cond_true, Bool.cond_false, forall_const, implies_true, forall_eq, Int.reduceEq, Int.reduceLT, Int.reduceLE, Int.reduceAdd, Int.reduceSub, Int.reduceMul, Int.reduceToNat, Nat.reduceMul, Nat.reduceLeDiff, Nat.reduceLT, Nat.reduceSub, Nat.reduceBEq, Nat.reduceEqDiff, CY, bytesD, iD, CU, AO, BC, bD, DB, iD]; exact ⟨(by with_unfolding_all rfl), (by with_unfolding_all rfl), rfl, rfl⟩) ?_)
 rintro e1 a1 w1 Z1 T1 F1 de1 _ _ hs1 ok1 he1 ⟨g1, g2, rfl, rfl⟩
 simp only [Exit.then]
 refine wp_seq (AbY (m := .ops [.p 8 .mv [(.tmp 1)], .call (some 9) KQ [(.tmp 8)], .p 5 .mv [(.tmp 9)]]) (by kernel_rfl) hs1 ok1 (he1.two g1 g2) (Q := fun de r n => ∃ i, nx ≤ i ∧ i < n ∧ Bg de 0 = some (iD k) ∧ Bg de 5 = some (.h i) ∧ r = [(i, Ak (Be v))]) ?_ ?_)
 ·refine WK ?_; try with_reducible exact trivial
  refine QC (Af0 v (by omega)) fun i n1 h1 h2 => ?_
  refine WK ?_; try with_reducible exact trivial
  exact ⟨i, h1, h2, (by with_unfolding_all rfl), (by with_unfolding_all rfl), rfl⟩
 rintro e2 a2 w2 Z2 T2 F2 de2 _ n2 hs2 ok2 he2 ⟨i2, hi2, hi2', g1, g2, rfl⟩
 simp only [Exit.then]
 -- filled up
 refine wp_seq (AbY (m := .block 0 (.loop (.seq (.seq (.ops [.p 10 .mv [(.tmp 5)], .p 11 .len [(.tmp 10)], .p 12 .mv [(.tmp 0)], .p 13 (.bin .rem) [(.tmp 11), (.tmp 12)], .p 14 (.bin .neq) [(.tmp 13), (.const (.int .i64 0))]]) (.cond (.tmp 14) .skip (.exit 0)))
  (.block 1 (.ops [.p 15 .mv [(.tmp 5)], .bsl 16 tU8 1 [(.int .u8 0)] [(0, 1)] [(.const (.int .u8 0))], .app 17 #[Au, Au] Au (.tmp 15) (.tmp 16), .p 5 .mv [(.tmp 17)]])))))
  (by kernel_rfl) hs2 ok2 (he2.two g1 g2) (Q := fun de r n => ∃ i, nx ≤ i ∧ i < n ∧ Bg de 0 = some (iD k) ∧ Bg de 5 = some (.h i) ∧ r = [(i, Ak (GZ k (Be v)))]) ?_ ?_)
 ·refine WK ?_; try with_reducible exact trivial
  refine GL [0, 5] (fun s : Nat × Nat × Nat => ([(0, iD k), (5, .h s.2.1)], [(s.2.1, Ak (Be v ++ List.replicate s.1 0))], s.2.2)) (fun s => s.1 + (Be v).length ≤ ET k (Be v).length ∧ nx ≤ s.2.1 ∧ s.2.1 < s.2.2) (fun s => ET k (Be v).length - (s.1 + (Be v).length)) (0, i2, n2) ⟨by dsimp only; omega, hi2, hi2'⟩ ?_ ?_
  ·dsimp only
   rw [List.replicate_zero, List.append_nil]
   exact (Ent.of (by with_unfolding_all rfl) rfl)
  ·rintro ⟨m, i, n1⟩ ⟨hm, hi, hi'⟩
   dsimp only at hm hi hi' ⊢
   have hlen : (Be v ++ List.replicate m (0 : UInt8)).length = (Be v).length + m := by simp
   refine WKX @hlen ?_; try with_reducible exact trivial
   refine brn (fun hne => ?_) (fun heq => ?_)
   ·have hlt : m + (Be v).length < ET k (Be v).length := by
     rcases Nat.lt_or_ge (m + (Be v).length) (ET k (Be v).length) with h | h
     ·exact h
     ·exfalso
      have e1 : (Be v).length + m = ET k (Be v).length := by omega
      have e2 := MB (k := k) (n := (Be v).length) (by omega)
      refine hne ?_
      rw [e1, e2]
      have : k * (ET k (Be v).length / k) % k = 0 := Nat.mul_mod_right _ _
      omega
    simp -dsimp (disch := omega) only [↓MC.xwp, ↓Ce, ↓xdr, ↓MOp.xwp, dvs, dv, dvu, dvo, dvp, dgb, dGd, DX, cond_true, cond_false, Gf, Bg, CQ, Dp, DD, Du, ptr, bsc, cv, uo, uof, Bq, xpr, DL, EL, FM, FB, Gi, FT, Gj, xst, xgp, glc, F8, DV, FY, FZ, FW, FX, DU, FV, FN, FU, DN, DR, Cj, Dw, Fv, dsl, dif, BV, CP, BI, scs, rowOf, AU, dtk, DC, BJ, pev, Bl, Bv, Aq, Bz, psl, Ba, ↓DI, ↓CB, ↓FP, ↓Fq, Dz, FD, FC, Dj, BG, kp, Di, Dv, E9, Dt, FI, CZ, AQ, BB, nb, Fe, Cb, Bd, apart, Aj, Bc, heldOk, Op.operands, Nat.reduceAdd, forall_eq_or_imp, D.plain, reduceCtorEq, if_true, if_false, ↓reduceIte, ne_eq, Bool.cond_true, Bool.cond_false, forall_const, implies_true, forall_eq, Int.reduceEq, Int.reduceLT, Int.reduceLE, Int.reduceAdd, Int.reduceSub, Int.reduceMul, Int.reduceToNat, Nat.reduceMul, Nat.reduceLeDiff, Nat.reduceLT, Nat.reduceSub, Nat.reduceBEq, Nat.reduceEqDiff, CY, bytesD, iD, CU, AO, BC, bD, DB, Nat.reduceDiv]
    refine NH (i := i) (m := 1) (l' := [bD 0]) elB (l := (Be v ++ List.replicate m 0).map bD) (n := (Be v ++ List.replicate m (0 : UInt8)).length) (by rw [Ac (by omega), Aa]) (Jo.row (Aa _ _ _) (fun x hx => by simp only [List.mem_singleton] at hx; subst hx; exact XE 0)) rfl (by simp [BJ, bD, U8, Value.oneCell']) (by omega) (by omega) (by simp) ?_
    refine WK ?_; try with_reducible exact trivial
    refine ⟨(m + 1, n1 + 1, n1 + 2), ⟨by dsimp only; omega, by dsimp only; omega, by dsimp only; omega⟩, by dsimp only; omega, ?_⟩
    refine (Ent.only [n1 + 1] _ _ _).trans ?_
    simp only [EQ, Aa]
    have e : D.row tU8 1 ((Be v ++ List.replicate m (0 : UInt8)).length + 1) ((Be v ++ List.replicate m 0).map bD ++ [bD 0]) = Ak (Be v ++ List.replicate (m + 1) 0) := by
     rw [List.replicate_succ', ← List.append_assoc]
     simp only [Ak, List.map_append, List.map_cons, List.map_nil, List.length_append, List.length_cons, List.length_nil]
    rw [← e]
    exact (Ent.of (by with_unfolding_all rfl) rfl)
   ·refine WK ?_; try with_reducible exact trivial
    have e1 : (Be v).length + m = ET k (Be v).length := Yq (by omega) (by omega) (by omega) (by omega)
    have e2 : GZ k (Be v) = Be v ++ List.replicate m 0 := by
     rw [GZ]
     congr 2
     omega
    rw [e2]
    exact ⟨i, hi, hi', (by with_unfolding_all rfl), (by with_unfolding_all rfl), rfl⟩
 rintro e3 a3 w3 Z3 T3 F3 de3 _ n3 hs3 ok3 he3 ⟨i3, hi3, hi3', g1, g2, rfl⟩
 simp only [Exit.then]
 refine wp_seq (AbY (m := .ops [.new 6 Ep [(.slice none 0 0)]]) (by kernel_rfl) hs3 ok3 (he3.two g1 g2) (Q := fun de r n => n = n3 + 1 ∧ de = [(6, .hp n3 0), (0, iD k), (5, .h i3)] ∧ r = [(n3, .box Ep [.sc (.slice none 0 0)]), (i3, Ak (GZ k (Be v)))]) (by simp -dsimp (disch := omega) only [↓MC.xwp, ↓Ce, ↓xdr, ↓MOp.xwp, dvs, dv, dvu, dvo, dvp, dgb, dGd, DX, cond_true, cond_false, Gf, Bg, CQ, Dp, DD, Du, ptr, bsc, cv, uo, uof, Bq, xpr, DL, EL, FM, FB, Gi, FT, Gj, xst, xgp, glc, F8, DV, FY, FZ, FW, FX, DU, FV, FN, FU, DN, DR, Cj, Dw, Fv, dsl, dif, BV, CP, BI, scs, rowOf, AU, dtk, DC, BJ, pev, Bl, Bv, Aq, Bz, psl, Ba, ↓DI, ↓CB, ↓FP, ↓Fq, Dz, FD, FC, Dj, BG, kp, Di, Dv, E9, Dt, FI, CZ, AQ, BB, nb, Fe, Cb, Bd, apart, Aj, Bc, heldOk, Op.operands, Nat.reduceAdd, forall_eq_or_imp, D.plain, reduceCtorEq, if_true, if_false, ↓reduceIte, ne_eq, Bool.cond_true, Bool.cond_false, forall_const, implies_true, forall_eq, Int.reduceEq, Int.reduceLT, Int.reduceLE, Int.reduceAdd, Int.reduceSub, Int.reduceMul, Int.reduceToNat, Nat.reduceMul, Nat.reduceLeDiff, Nat.reduceLT, Nat.reduceSub, Nat.reduceBEq, Nat.reduceEqDiff, CY, bytesD, iD, CU, AO, BC, bD, DB, iD]; exact ⟨rfl, (by with_unfolding_all rfl), rfl⟩) ?_)
 rintro e4 a4 w4 Z4 T4 F4 _ _ n4 hs4 ok4 he4 ⟨rfl, rfl, rfl⟩
 simp only [Exit.then]
 have hbl := KG (k := k) (by omega) v
 have hw1 := Oo (k := k) v.length (by omega)
 have hw2 := DJ (k := k) v.length (by omega)
 refine wp_seq (wp_seq (AbY (m := .ops [.p 18 .mv [(.tmp 5)], .p 19 .mv [(.tmp 5)], .p 20 .len [(.tmp 19)], .p 21 .mv [(.tmp 0)], .p 22 (.bin .quo) [(.tmp 20), (.tmp 21)], .call (some 23) MK [(.tmp 18), (.tmp 22)]]) (by kernel_rfl) hs4 ok4 he4
  (Q := fun de r n => n3 + 1 ≤ n ∧ Bg de 6 = some (.hp n3 0) ∧ Bg de 23 = some (.fn Gs [] [.pt [bytesD (GZ k (Be v))], .pt [iD (BK k v.length)]]) ∧ r = [(n3, .box Ep [.sc (.slice none 0 0)]), (i3, bytesD (GZ k (Be v)))]) ?_ ?_))
 ·refine WK ?_; try with_reducible exact trivial
  refine AbZ (t' := .mk _) (RT.frz i3 (d := Ak (GZ k (Be v))) (by refine WK ?_; try with_reducible exact trivial) (by simp only [I9]; exact (Df _).1)) ?_
  refine Xj (t' := .mk _) ?_
  simp -dsimp (disch := omega) only [↓MC.xwp, ↓Ce, ↓xdr, ↓MOp.xwp, dvs, dv, dvu, dvo, dvp, dgb, dGd, DX, cond_true, cond_false, Gf, Bg, CQ, Dp, DD, Du, ptr, bsc, cv, uo, uof, Bq, xpr, DL, EL, FM, FB, Gi, FT, Gj, xst, xgp, glc, F8, DV, FY, FZ, FW, FX, DU, FV, FN, FU, DN, DR, Cj, Dw, Fv, dsl, dif, BV, CP, BI, scs, rowOf, AU, dtk, DC, BJ, pev, Bl, Bv, Aq, Bz, psl, Ba, ↓DI, ↓CB, ↓FP, ↓Fq, Dz, FD, FC, Dj, BG, kp, Di, Dv, E9, Dt, FI, CZ, AQ, BB, nb, Fe, Cb, Bd, apart, Aj, Bc, heldOk, Op.operands, Nat.reduceAdd, forall_eq_or_imp, D.plain, reduceCtorEq, if_true, if_false, ↓reduceIte, ne_eq, Bool.cond_true, Bool.cond_false, forall_const, implies_true, forall_eq, Int.reduceEq, Int.reduceLT, Int.reduceLE, Int.reduceAdd, Int.reduceSub, Int.reduceMul, Int.reduceToNat, Nat.reduceMul, Nat.reduceLeDiff, Nat.reduceLT, Nat.reduceSub, Nat.reduceBEq, Nat.reduceEqDiff, CY, bytesD, iD, CU, AO, BC, bD, DB, frzR, frz, (Df _).2]
  have e1 : ((GZ k (Be v)).length : Int) / (k : Int) = ((BK k v.length : Nat) : Int) := by
   rw [hbl, Int.natCast_mul, Int.mul_ediv_cancel_left _ (by omega)]
  rw [e1, wrap_i64 (by omega)]
  refine CS (AiI _ _ hw1) fun n5 h5 => ?_
  refine WK ?_; try with_reducible exact trivial
  exact ⟨h5, (by with_unfolding_all rfl), (by with_unfolding_all rfl), rfl⟩
 rintro e5 a5 w5 Z5 T5 F5 de5 _ n5 hs5 ok5 he5 ⟨hn5, g1, g2, rfl⟩
 simp only [Exit.then]
 -- the rounds
 refine wp_block ?_
 -- what the iterator is handed
 obtain ⟨uf, huf, hrf⟩ := he5 23 _ g2
 simp only [Rs] at hrf
 obtain ⟨us, vs, rfl, hu1, hv1⟩ := hrf
 simp only [RsL] at hu1
 subst hu1
 obtain ⟨pS, pN, rfl, hpS, hpN⟩ := Pn hv1
 simp only [Rs, Fz] at hpS hpN
 obtain ⟨aS, rfl, ⟨bS, sv, eS, zS, cS, sl1⟩, _⟩ := hpS
 obtain ⟨aN, rfl, ⟨bN, nv, eN, zN, cN, rfl⟩, _⟩ := hpN
 cases eS
 cases eN
 have add0 : ∀ a : Addr, a.add 0 = a := fun a => by simp [Addr.add]
 rw [add0] at cS cN
 obtain ⟨A, cap, rfl, hcap, hA, hfz⟩ := sl1
 obtain ⟨a, rfl⟩ : ∃ a, A = some a := by
  cases A with
  | some a => exact ⟨a, rfl⟩
  | none =>
   exfalso
   have h1 := hA rfl
   rw [hbl] at h1
   rcases Nat.mul_eq_zero.1 h1 with h | h <;> omega
 have hkw : (GZ k (Be v)).length = tms k (BK k v.length) := hbl
 have okR : ∃ Z' F', Ok ⟨w, Z, T, F, nx⟩ w5 Z' T5 F' [(n3, .box Ep [.sc (.slice none 0 0)])] n5 ∧ ∀ b, Z5 b → Z' b := by
  have h := RT.only [n3] _ _ _ _ _ _ ok5
  simpa only [EQ, Aa] using h
 obtain ⟨Z6, F6, ok6, z6⟩ := okR
 have he6 := (he5.two g1 g2).keep (w' := w5) (fun _ _ => rfl) z6 (fun _ _ h => h)
 refine Aie (p := 24) (ma := .ops [.p 7 .mv [(.tmp 24)]]) (mb := .block 3 (.dr (.one ⟨.ld 25 (.tmp 6), []⟩ (.one ⟨.p 26 .mv [(.tmp 7)], []⟩ (.one ⟨.call (some 27) DY [(.tmp 26)], [.ld 25 (.tmp 6)]⟩ (.one ⟨.bsl 28 Au 1 [(.slice none 0 0)] [(0, 1)] [(.tmp 27)], [.ld 25 (.tmp 6)]⟩ (.one ⟨.app 29 #[Ep, Ep] Ep (.tmp 25) (.tmp 28), []⟩ (.one ⟨.st 1 false (.tmp 6) (.tmp 29), []⟩ (.nil)))))))))
  hs5 ok6 he6 (gf := Gs) (lb := #[.pointer (some aS), .pointer (some aN)]) (hs5.ev (by simp only [ev]; exact huf)) (OB (by kernel_rfl)) (by decide) (by kernel_rfl) rfl (by kernel_rfl) (by kernel_rfl) rfl (by kernel_rfl)
  (AdM aS aN (BK k v.length) k cap a hw1 (by rw [← hkw, OD (by omega)]; omega) (by rw [← hkw]; exact hcap)) (PJ k v n3 (n3 + 1)) (fun j => bytesD (gt (AL k v) j)) ⟨hn5, by omega, .inl ⟨rfl, rfl⟩⟩ ?_ ?_ ?_ ?_
 ·intro W' hW
  exact ⟨(World.cell?_of_block (hW _ (z6 _ zS))).trans (by rw [cS, hkw]), (World.cell?_of_block (hW _ (z6 _ zN))).trans cN⟩
 ·intro j hj
  have e : D.sl (BK k v.length) ((((GZ k (Be v)).map bD).drop (j * BK k v.length)).take (BK k v.length)) = bytesD (gt (AL k v) j) := by
   rw [WE (by omega) v hj, ← List.map_drop, ← List.map_take]
   have h1 : j * BK k v.length + BK k v.length ≤ k * BK k v.length := by rw [← Nat.succ_mul]; exact Nat.mul_le_mul_right _ hj
   have : (((GZ k (Be v)).drop (j * BK k v.length)).take (BK k v.length)).length = BK k v.length := by
    rw [List.length_take, List.length_drop, hbl]; omega
   simp only [bytesD, this]
  rw [← e]
  simp only [Rs]
  exact ⟨some (a.add (tms j (BK k v.length))), BK k v.length, rfl, Nat.le_refl _, by simp, Fz.take (Fz.keep (fun _ _ => rfl) z6 (fun _ _ h => h) _ _ _ (Fz.drop hfz))⟩
 ·rintro j r' nx' ⟨h1, h2, hJ⟩ hj
  have hpl2 := (IW (k := k) (by omega) v).2.2
  have hjl : j < (AL k v).length := by omega
  have hgl : (gt (AL k v) j).length = BK k v.length := by
   rw [Ia hjl]
   have := (IW (k := k) (by omega) v)
   rw [this.1.all _ (List.getElem_mem hjl), this.2.1]
  have htk := Lp hjl
  rcases hJ with ⟨rfl, rfl⟩ | ⟨q, hq1, hq2, rfl⟩
  ·simp -dsimp (disch := omega) only [↓MC.xwp, ↓Ce, ↓xdr, ↓MOp.xwp, dvs, dv, dvu, dvo, dvp, dgb, dGd, DX, cond_true, cond_false, Gf, Bg, CQ, Dp, DD, Du, ptr, bsc, cv, uo, uof, Bq, xpr, DL, EL, FM, FB, Gi, FT, Gj, xst, xgp, glc, F8, DV, FY, FZ, FW, FX, DU, FV, FN, FU, DN, DR, Cj, Dw, Fv, dsl, dif, BV, CP, BI, scs, rowOf, AU, dtk, DC, BJ, pev, Bl, Bv, Aq, Bz, psl, Ba, ↓DI, ↓CB, ↓FP, ↓Fq, Dz, FD, FC, Dj, BG, kp, Di, Dv, E9, Dt, FI, CZ, AQ, BB, nb, Fe, Cb, Bd, apart, Aj, Bc, heldOk, Op.operands, Nat.reduceAdd, forall_eq_or_imp, D.plain, reduceCtorEq, if_true, if_false, ↓reduceIte, ne_eq, Bool.cond_true, Bool.cond_false, forall_const, implies_true, forall_eq, Int.reduceEq, Int.reduceLT, Int.reduceLE, Int.reduceAdd, Int.reduceSub, Int.reduceMul, Int.reduceToNat, Nat.reduceMul, Nat.reduceLeDiff, Nat.reduceLT, Nat.reduceSub, Nat.reduceBEq, Nat.reduceEqDiff, CY, bytesD, iD, CU, AO, BC, bD, DB, ↓O3]
   refine QC (Qr _ (by omega)) fun i n6 h3 h4 => ?_
   simp -dsimp (disch := omega) only [↓MC.xwp, ↓Ce, ↓xdr, ↓MOp.xwp, dvs, dv, dvu, dvo, dvp, dgb, dGd, DX, cond_true, cond_false, Gf, Bg, CQ, Dp, DD, Du, ptr, bsc, cv, uo, uof, Bq, xpr, DL, EL, FM, FB, Gi, FT, Gj, xst, xgp, glc, F8, DV, FY, FZ, FW, FX, DU, FV, FN, FU, DN, DR, Cj, Dw, Fv, dsl, dif, BV, CP, BI, scs, rowOf, AU, dtk, DC, BJ, pev, Bl, Bv, Aq, Bz, psl, Ba, ↓DI, ↓CB, ↓FP, ↓Fq, Dz, FD, FC, Dj, BG, kp, Di, Dv, E9, Dt, FI, CZ, AQ, BB, nb, Fe, Cb, Bd, apart, Aj, Bc, heldOk, Op.operands, Nat.reduceAdd, forall_eq_or_imp, D.plain, reduceCtorEq, if_true, if_false, ↓reduceIte, ne_eq, Bool.cond_true, Bool.cond_false, forall_const, implies_true, forall_eq, Int.reduceEq, Int.reduceLT, Int.reduceLE, Int.reduceAdd, Int.reduceSub, Int.reduceMul, Int.reduceToNat, Nat.reduceMul, Nat.reduceLeDiff, Nat.reduceLT, Nat.reduceSub, Nat.reduceBEq, Nat.reduceEqDiff, CY, bytesD, iD, CU, AO, BC, bD, DB, ↓O3]
   refine Ab0 (m := 1) (l' := [.h i]) elM (Jo.row (by rw [show 1 / 1 = 1 from rfl]; exact Aa _ _ _) (by simp [D.plain])) rfl (by simp [BJ]) (by omega) (by omega) ?_
   simp -dsimp (disch := omega) only [↓MC.xwp, ↓Ce, ↓xdr, ↓MOp.xwp, dvs, dv, dvu, dvo, dvp, dgb, dGd, DX, cond_true, cond_false, Gf, Bg, CQ, Dp, DD, Du, ptr, bsc, cv, uo, uof, Bq, xpr, DL, EL, FM, FB, Gi, FT, Gj, xst, xgp, glc, F8, DV, FY, FZ, FW, FX, DU, FV, FN, FU, DN, DR, Cj, Dw, Fv, dsl, dif, BV, CP, BI, scs, rowOf, AU, dtk, DC, BJ, pev, Bl, Bv, Aq, Bz, psl, Ba, ↓DI, ↓CB, ↓FP, ↓Fq, Dz, FD, FC, Dj, BG, kp, Di, Dv, E9, Dt, FI, CZ, AQ, BB, nb, Fe, Cb, Bd, apart, Aj, Bc, heldOk, Op.operands, Nat.reduceAdd, forall_eq_or_imp, D.plain, reduceCtorEq, if_true, if_false, ↓reduceIte, ne_eq, Bool.cond_true, Bool.cond_false, forall_const, implies_true, forall_eq, Int.reduceEq, Int.reduceLT, Int.reduceLE, Int.reduceAdd, Int.reduceSub, Int.reduceMul, Int.reduceToNat, Nat.reduceMul, Nat.reduceLeDiff, Nat.reduceLT, Nat.reduceSub, Nat.reduceBEq, Nat.reduceEqDiff, CY, bytesD, iD, CU, AO, BC, bD, DB, ↓O3]
   have hr := RT.only (r := [(n6 + 1, .row Au 1 1 [.h i]), (n6, .row Au (1 / 1) 1 [.h i]), (i, Ak (gt (AL k v) 0)), (n3, .box Ep [.h (n6 + 1)])]) [n6 + 1, i, n3]
   simp -dsimp (disch := omega) only [Aa, Ac, AV, CE, AX, Bj, EQ] at hr
   have hf := RT.fold (r := [(n6 + 1, .row Au 1 1 [.h i]), (i, Ak (gt (AL k v) 0)), (n3, .box Ep [.h (n6 + 1)])]) i (n6 + 1) 0 (d := Ak (gt (AL k v) 0)) (c := .row Au 1 1 [.h i]) (l := [.h i]) (by refine WK ?_; try with_reducible exact trivial) (by omega) (by refine WK ?_; try with_reducible exact trivial) rfl rfl
   simp -dsimp (disch := omega) only [Aa, Ac, AV, CE, AX, Bj, Dx] at hf
   refine ⟨_, hr.trans hf, by omega, by omega, .inr ⟨n6 + 1, by omega, by omega, ?_⟩⟩
   rw [htk, List.take_zero]
   rfl
  ·simp -dsimp (disch := omega) only [↓MC.xwp, ↓Ce, ↓xdr, ↓MOp.xwp, dvs, dv, dvu, dvo, dvp, dgb, dGd, DX, cond_true, cond_false, Gf, Bg, CQ, Dp, DD, Du, ptr, bsc, cv, uo, uof, Bq, xpr, DL, EL, FM, FB, Gi, FT, Gj, xst, xgp, glc, F8, DV, FY, FZ, FW, FX, DU, FV, FN, FU, DN, DR, Cj, Dw, Fv, dsl, dif, BV, CP, BI, scs, rowOf, AU, dtk, DC, BJ, pev, Bl, Bv, Aq, Bz, psl, Ba, ↓DI, ↓CB, ↓FP, ↓Fq, Dz, FD, FC, Dj, BG, kp, Di, Dv, E9, Dt, FI, CZ, AQ, BB, nb, Fe, Cb, Bd, apart, Aj, Bc, heldOk, Op.operands, Nat.reduceAdd, forall_eq_or_imp, D.plain, reduceCtorEq, if_true, if_false, ↓reduceIte, ne_eq, Bool.cond_true, Bool.cond_false, forall_const, implies_true, forall_eq, Int.reduceEq, Int.reduceLT, Int.reduceLE, Int.reduceAdd, Int.reduceSub, Int.reduceMul, Int.reduceToNat, Nat.reduceMul, Nat.reduceLeDiff, Nat.reduceLT, Nat.reduceSub, Nat.reduceBEq, Nat.reduceEqDiff, CY, bytesD, iD, CU, AO, BC, bD, DB, ↓O3]
   refine QC (Qr _ (by omega)) fun i n6 h3 h4 => ?_
   simp -dsimp (disch := omega) only [↓MC.xwp, ↓Ce, ↓xdr, ↓MOp.xwp, dvs, dv, dvu, dvo, dvp, dgb, dGd, DX, cond_true, cond_false, Gf, Bg, CQ, Dp, DD, Du, ptr, bsc, cv, uo, uof, Bq, xpr, DL, EL, FM, FB, Gi, FT, Gj, xst, xgp, glc, F8, DV, FY, FZ, FW, FX, DU, FV, FN, FU, DN, DR, Cj, Dw, Fv, dsl, dif, BV, CP, BI, scs, rowOf, AU, dtk, DC, BJ, pev, Bl, Bv, Aq, Bz, psl, Ba, ↓DI, ↓CB, ↓FP, ↓Fq, Dz, FD, FC, Dj, BG, kp, Di, Dv, E9, Dt, FI, CZ, AQ, BB, nb, Fe, Cb, Bd, apart, Aj, Bc, heldOk, Op.operands, Nat.reduceAdd, forall_eq_or_imp, D.plain, reduceCtorEq, if_true, if_false, ↓reduceIte, ne_eq, Bool.cond_true, Bool.cond_false, forall_const, implies_true, forall_eq, Int.reduceEq, Int.reduceLT, Int.reduceLE, Int.reduceAdd, Int.reduceSub, Int.reduceMul, Int.reduceToNat, Nat.reduceMul, Nat.reduceLeDiff, Nat.reduceLT, Nat.reduceSub, Nat.reduceBEq, Nat.reduceEqDiff, CY, bytesD, iD, CU, AO, BC, bD, DB, ↓O3]
   have hlt : ((AL k v).take j).length = j := by rw [List.length_take]; omega
   refine NH (i := q) (m := 1) (l' := [.h i]) elM (l := ((AL k v).take j).map Ak) (n := ((AL k v).take j).length) (by refine WK ?_; try with_reducible exact trivial) (Jo.row (by rw [show 1 / 1 = 1 from rfl]; exact Aa _ _ _) (by simp [D.plain])) rfl (by simp [BJ]) (by omega) (by omega) (by simp) ?_
   simp -dsimp (disch := omega) only [↓MC.xwp, ↓Ce, ↓xdr, ↓MOp.xwp, dvs, dv, dvu, dvo, dvp, dgb, dGd, DX, cond_true, cond_false, Gf, Bg, CQ, Dp, DD, Du, ptr, bsc, cv, uo, uof, Bq, xpr, DL, EL, FM, FB, Gi, FT, Gj, xst, xgp, glc, F8, DV, FY, FZ, FW, FX, DU, FV, FN, FU, DN, DR, Cj, Dw, Fv, dsl, dif, BV, CP, BI, scs, rowOf, AU, dtk, DC, BJ, pev, Bl, Bv, Aq, Bz, psl, Ba, ↓DI, ↓CB, ↓FP, ↓Fq, Dz, FD, FC, Dj, BG, kp, Di, Dv, E9, Dt, FI, CZ, AQ, BB, nb, Fe, Cb, Bd, apart, Aj, Bc, heldOk, Op.operands, Nat.reduceAdd, forall_eq_or_imp, D.plain, reduceCtorEq, if_true, if_false, ↓reduceIte, ne_eq, Bool.cond_true, Bool.cond_false, forall_const, implies_true, forall_eq, Int.reduceEq, Int.reduceLT, Int.reduceLE, Int.reduceAdd, Int.reduceSub, Int.reduceMul, Int.reduceToNat, Nat.reduceMul, Nat.reduceLeDiff, Nat.reduceLT, Nat.reduceSub, Nat.reduceBEq, Nat.reduceEqDiff, CY, bytesD, iD, CU, AO, BC, bD, DB, ↓O3]
   have hr := RT.only (r := [(n6 + 1, .row Au 1 (((AL k v).take j).length + 1) (((AL k v).take j).map Ak ++ [.h i])), (n6, .row Au (1 / 1) 1 [.h i]), (i, Ak (gt (AL k v) j)), (n3, .box Ep [.h (n6 + 1)])]) [n6 + 1, i, n3]
   simp -dsimp (disch := omega) only [Aa, Ac, AV, CE, AX, Bj, EQ] at hr
   have hf := RT.fold (r := [(n6 + 1, .row Au 1 (((AL k v).take j).length + 1) (((AL k v).take j).map Ak ++ [.h i])), (i, Ak (gt (AL k v) j)), (n3, .box Ep [.h (n6 + 1)])]) i (n6 + 1) j (d := Ak (gt (AL k v) j)) (c := .row Au 1 (((AL k v).take j).length + 1) (((AL k v).take j).map Ak ++ [.h i])) (l := ((AL k v).take j).map Ak ++ [.h i]) (by refine WK ?_; try with_reducible exact trivial) (by omega) (by refine WK ?_; try with_reducible exact trivial) rfl (by rw [List.getElem?_append_right (by rw [List.length_map, hlt]; exact Nat.le_refl _), List.length_map, hlt, Nat.sub_self]; rfl)
   simp -dsimp (disch := omega) only [Aa, Ac, AV, CE, AX, Bj, Dx] at hf
   refine ⟨_, hr.trans hf, by omega, by omega, .inr ⟨n6 + 1, by omega, by omega, ?_⟩⟩
   have e : (((AL k v).take j).map Ak ++ [D.h i]).set j (Ak (gt (AL k v) j)) = ((AL k v).take j).map Ak ++ [Ak (gt (AL k v) j)] := by
    rw [List.set_append_right _ _ (by rw [List.length_map, hlt]; exact Nat.le_refl _), List.length_map, hlt, Nat.sub_self]
    rfl
   rw [e, htk, ← Afl]
 ·intro W Z' T' F' r' nx' B okD heD hJ hB hBo hFB hZB
  simp only [Exit.inBlock, Exit.then]
  obtain ⟨h1, h2, hJ⟩ := hJ
  rcases hJ with ⟨h0, _⟩ | ⟨q, hq1, hq2, rfl⟩
  ·omega
  have hpl2 := (IW (k := k) (by omega) v).2.2
  rw [List.take_of_length_le (by omega)] at okD
  obtain ⟨u6, hu6, hr6⟩ := heD 6 (.hp n3 0) (by rw [JJ, if_pos rfl])
  obtain ⟨b6, x6', F6', rfl, hc6, ho6⟩ := Acy (e' := Ep) (d := .h q) (v := undef) okD.roots (i := n3) (by refine WK ?_; try with_reducible exact trivial) hr6
  have ht6 := hs5.val 6 _ hu6
  have hsz5 := hs5.size
  obtain ⟨ts, ds⟩ := a5
  obtain ⟨x0, x1, x2, x3, x4, x5, x6, x7, x8, x9, x10, x11, x12, x13, x14, x15, x16, x17, x18, x19, x20, x21, x22, x23, x24, x25, x26, x27, x28, x29, x30, rfl⟩ := arr31 hsz5
  simp only [List.getElem?_toArray, List.getElem?_cons_zero, List.getElem?_cons_succ, Option.some.injEq] at ht6
  subst ht6
  obtain rfl : ds = [] := hs5.defers
  refine (wpIn_wide (n := 0)).1 ?_
  gi_wp2
  have hszE := ok5.fr.size
  dsimp only at hszE
  have okF := okD.close (.deferred none) hFB hZB (by dsimp only; omega)
  have hrt := RT.only (r := [(q, Abt (AL k v)), (n3, .box Ep [.h q])]) [q] _ _ _ _ _ _ okF
  simp only [EQ, Aa] at hrt
  obtain ⟨Z7, F7, ok7, z7⟩ := hrt
  simp only [Ro, Rs] at ho6
  refine ⟨by simp, .inl ⟨_, _, rfl, run_takeDeferred hBo, ?_⟩⟩
  exact ⟨_, results_tmp rfl _ _ _, _, rfl, .h q, _, _, Z7, T', ⟨F7, ok7⟩, by simp only [Rs]; exact ho6.1, q, by omega, hq2, rfl, rfl⟩
theorem AgB (k : Nat) (v : Bs) (hk : 1 ≤ k) (hk2 : k ≤ 1000) (hv : v.length ≤ 1000000) : ED Tryz.prog ND [iD k, BC v] (CY (AL k v)) :=
 (AgA k v hk hk2 hv).fn (SX _).1 (by rw [(SX _).2])
/-! ### new matrices are owned -/
def Jt : List Value → Nat → Nat
 | [], _ => 0
 | u :: vs, b => own u b + Jt vs b
theorem Oy {b : Nat} : ∀ {vs : List Value}, 0 < Jt vs b → ∃ (j : Nat) (u : Value), vs[j]? = some u ∧ blk u = some b
 | [], h => by simp [Jt] at h
 | u :: vs, h => by
  simp only [Jt] at h
  by_cases hu : blk u = some b
  ·exact ⟨0, u, rfl, hu⟩
  ·rw [Py hu] at h
   obtain ⟨j, x, h1, h2⟩ := Oy (vs := vs) (b := b) (by omega)
   exact ⟨j + 1, x, by simpa using h1, h2⟩
theorem Yh {b : Nat} : ∀ {vs : List Value}, (∀ (i j : Nat) (u v : Value), i ≠ j → vs[i]? = some u → vs[j]? = some v → blk u = some b → blk v ≠ some b) → Jt vs b ≤ 1
 | [], h => by simp [Jt]
 | u :: vs, h => by
  have ih := Yh (vs := vs) fun i j x y hij hx hy => h (i + 1) (j + 1) x y (by omega) (by simpa using hx) (by simpa using hy)
  have h1 := Pz u b
  simp only [Jt]
  by_cases hu : blk u = some b
  ·rcases Nat.eq_zero_or_pos (Jt vs b) with h0 | h0
   ·rw [h0]; exact h1
   ·obtain ⟨j, x, hx, hb⟩ := Oy h0
    exact absurd hb (h 0 (j + 1) u x (by omega) rfl (by simpa using hx) hu)
  ·rw [Py hu]; omega
theorem Aed {w : World} {Z : Nat → Prop} {T : Nat → Option Value} : ∀ {vs : List Value} {m : LL}, vs.length = m.length → (∀ (j : Nat) (u : Value) (x : Bs), vs[j]? = some u → m[j]? = some x → Ow w tU8 1 u x.length (x.map U8)) → RoL w Z T (m.map Ak) vs (Jt vs)
 | [], [], _, _ => by simp only [List.map_nil, RoL]; exact ⟨trivial, fun _ => rfl⟩
 | [], _ :: _, h, _ => by simp at h
 | _ :: _, [], h, _ => by simp at h
 | u :: vs, x :: m, h, k => by
  simp only [List.map_cons, RoL]
  refine ⟨u, vs, own u, Jt vs, rfl, ?_, Aed (by simpa using h) (fun j y z hy hz => k (j + 1) y z (by simpa using hy) (by simpa using hz)), fun b => rfl⟩
  simp only [Ro]
  have hm : x.map bD = (x.map U8).map D.sc := by rw [List.map_map]; rfl
  exact ⟨x.map U8, fun _ => 0, k 0 u x rfl rfl, by rw [hm]; exact RoL.of (RsL.sc _), fun b => by simp⟩
theorem Dh.ro {w : World} {B : Nat} {r : Value} {m : LL} (h : Dh B w r m) (Z : Nat → Prop) (T : Nat → Option Value) : r.oneCell' = true ∧ ∃ G, Ro w Z T (Abt m) r G ∧ ∀ b, G b ≤ 1 ∧ (0 < G b → B ≤ b ∧ b < w.heap.size) := by
 obtain ⟨vs, h1, h2, h3⟩ := h
 have hob : r.ownBlock = blk r := Ow.own h1.spine
 have hrow : ∀ (j : Nat) (u : Value), vs[j]? = some u → u.ownBlock = blk u := fun j u hu => by
  have hj : j < m.length := by rw [← h1.len]; exact (List.getElem?_eq_some_iff.1 hu).1
  exact Ow.own (h1.row j u m[j] hu (List.getElem?_eq_getElem hj))
 refine ⟨by rcases Ow.form h1.spine with ⟨rfl, _⟩ | ⟨_, _, _, rfl, _⟩ <;> rfl, fun b => Jt vs b + own r b, ?_, fun b => ?_⟩
 ·simp only [Ro]
  exact ⟨vs, Jt vs, h1.spine, Aed h1.len h1.row, fun b => rfl⟩
 ·have hle := Yh (b := b) (vs := vs) fun i j u v hij hu hv hb => by
   rw [← hrow j v hv]
   exact h2.rows i j u v b hij hu hv (by rw [hrow i u hu]; exact hb)
  have hor := Pz r b
  have hhas : 0 < Jt vs b + own r b → Has r vs b := fun hp => by
   by_cases hr : blk r = some b
   ·exact .inl (by rw [hob]; exact hr)
   ·rw [Py hr] at hp
    obtain ⟨j, u, hu, hb⟩ := Oy (vs := vs) (b := b) (by omega)
    exact .inr ⟨j, u, hu, by rw [hrow j u hu]; exact hb⟩
  refine ⟨?_, fun hp => ⟨h3 b (hhas hp), h1.lt (hhas hp)⟩⟩
  show Jt vs b + own r b ≤ 1
  by_cases hr : blk r = some b
  ·rcases Nat.eq_zero_or_pos (Jt vs b) with h0 | h0
   ·omega
   ·obtain ⟨j, u, hu, hb⟩ := Oy h0
    exact absurd (by rw [hob]; exact hr) (h2.spine j u b hu (by rw [hrow j u hu]; exact hb))
  ·rw [Py hr]; omega
theorem mmul_o (a b : LL) (ra : Ea a) (rb : Ea b) (sa : Nw a) (sb : Nw b) : MW Tryz.prog IY [CY a, CY b] (fun i => .h i) (Abt (Gy a b)) :=
 Ahi fun w Z T vs hz hrs => by
  obtain ⟨v, u, rfl, hv, hu⟩ := Pn hrs
  refine (WM (SS hv hz) (SS hu hz) (Nat.le_refl _) (Nat.le_refl _) ra rb sa sb).mono fun en w' ⟨r, he, hm, hf⟩ => ⟨r, he, hf, (hm.ro Z T).1, fun T' => (hm.ro Z T').2⟩
/-! ### shapes -/
abbrev shD (K F : Int) : D := .agg [iD K, iD F]
def Ja (K F : Int) : Bool := decide (1 ≤ K) && (decide (K ≤ 7) && (decide (0 ≤ F) && (decide (F ≤ 7) && decide (K + 2 * F ≤ 7))))
theorem L9 {K F : Int} : Ja K F = true ↔ ∃ k f : Nat, K = k ∧ F = f ∧ CO k f := by
 simp only [Ja, Bool.and_eq_true, decide_eq_true_eq]
 constructor
 ·rintro ⟨h1, h2, h3, h4, h5⟩
  exact ⟨K.toNat, F.toNat, by omega, by omega, ⟨by omega, by omega⟩⟩
 ·rintro ⟨k, f, rfl, rfl, h⟩
  have := h.k; have := h.n
  omega
theorem Wv (K F : Int) : ED Tryz.prog H6 [shD K F] (AO (Ja K F)) := by
 intro nx
 refine A8 Aaf (by simp only [m_code_Right, List.length]; decide) ?_
 simp only [m_code_Right]; refine WK ?_; try with_reducible exact trivial
 refine brd (fun h0 => ?_) (fun h0 => ?_)
 rotate_left
 ·refine WK ?_; try with_reducible exact trivial
  rw [show Ja K F = false from by simp only [Ja, Bool.and_eq_false_imp, decide_eq_true_eq, decide_eq_false_iff_not]; omega]
  exact Eb ⟨rfl, rfl⟩
 refine WK ?_; try with_reducible exact trivial
 refine brd (fun h1 => ?_) (fun h1 => ?_)
 rotate_left
 ·refine WK ?_; try with_reducible exact trivial
  rw [show Ja K F = false from by simp only [Ja, Bool.and_eq_false_imp, decide_eq_true_eq, decide_eq_false_iff_not]; omega]
  exact Eb ⟨rfl, rfl⟩
 refine WK ?_; try with_reducible exact trivial
 refine brd (fun h2 => ?_) (fun h2 => ?_)
 rotate_left
 ·refine WK ?_; try with_reducible exact trivial
  rw [show Ja K F = false from by simp only [Ja, Bool.and_eq_false_imp, decide_eq_true_eq, decide_eq_false_iff_not]; omega]
  exact Eb ⟨rfl, rfl⟩
 refine WK ?_; try with_reducible exact trivial
 refine brd (fun h3 => ?_) (fun h3 => ?_)
 rotate_left
 ·refine WK ?_; try with_reducible exact trivial
  rw [show Ja K F = false from by simp only [Ja, Bool.and_eq_false_imp, decide_eq_true_eq, decide_eq_false_iff_not]; omega]
  exact Eb ⟨rfl, rfl⟩
 refine WK ?_; try with_reducible exact trivial
 rw [show Ja K F = decide (K + 2 * F ≤ 7) from by simp only [Ja, H7 h0, H7 h1, H7 h2, H7 h3, Bool.true_and]]
 exact Eb ⟨rfl, rfl⟩
theorem nS_d (K F : Int) : ED Tryz.prog MO [shD K F] (iD (if Ja K F then K + 2 * F else 0)) := by
 intro nx
 refine A8 Ahy (by simp only [m_code_N, List.length]; decide) ?_
 simp only [m_code_N]; refine WK ?_; try with_reducible exact trivial
 refine CS (Wv K F) fun n1 h1 => ?_
 cases h : Ja K F with
 | false =>
  refine WK ?_; try with_reducible exact trivial
  exact Eb ⟨rfl, rfl⟩
 | true =>
  obtain ⟨k, f, rfl, rfl, hs⟩ := L9.1 h
  have := hs.k; have := hs.n
  refine WK ?_; try with_reducible exact trivial
  exact Eb ⟨rfl, rfl⟩
theorem Zx {k f : Nat} (h : CO k f) : ED Tryz.prog MO [shD k f] (iD ((k + 2 * f : Nat) : Int)) := by
 have := nS_d k f
 rw [L9.2 ⟨k, f, rfl, rfl, h⟩, if_pos rfl] at this
 exact this
theorem QU {k f : Nat} (h : CO k f) : ED Tryz.prog H6 [shD k f] (AO true) := by
 have := Wv k f
 rwa [L9.2 ⟨k, f, rfl, rfl, h⟩] at this
theorem rnS_d (K F : Int) (hK : -1000 ≤ K ∧ K ≤ 1000) (hF : -1000 ≤ F ∧ F ≤ 1000) : ED Tryz.prog Ui [shD K F] (iD (K + F + F)) := by
 intro nx
 refine A8 AfM (by simp only [m_ref05_N, List.length]; decide) ?_
 simp only [m_ref05_N]; refine WK ?_; try with_reducible exact trivial
 exact Eb ⟨rfl, rfl⟩
theorem Aej {k : Nat} (h1 : 1 ≤ k) (h2 : k ≤ 7) {v : Bs} (hv : v.length ≤ 512) : Ea (AL k v) ∧ Nw (AL k v) ∧ (AL k v).length = k := by
 obtain ⟨r, w, l⟩ := IW (k := k) (by omega) v
 have := DJ (k := k) v.length (by omega)
 exact ⟨r, r.small (by omega) (by omega), l⟩
theorem Ahb {k f : Nat} (h : CO k f) (v : Bs) (hv : v.length ≤ 512) : MW Tryz.prog G7 [shD k f, BC v] (fun i => .tup [.h i, iD 0]) (Abt (encode k f v)) := by
 have hk := h.k; have hn := h.n
 have e : (⟨v.toArray⟩ : ByteArray).size = v.length := by simp [ByteArray.size]
 obtain ⟨rp, sp, lp⟩ := Aej hk (by omega) hv
 obtain ⟨rc, wc⟩ := I7 (k := k) (n := k + 2 * f) (by omega) (by omega)
 intro nx
 refine A8 QN (by simp only [m_code_Encode, List.length]; decide) ?_
 simp only [m_code_Encode]; refine WK ?_; try with_reducible exact trivial
 refine CS (QU h) fun n1 h1 => ?_
 refine WKX @e ?_; try with_reducible exact trivial
 refine CS (Zx h) fun n2 h2 => ?_
 refine WK ?_; try with_reducible exact trivial
 refine CS (Acb k (k + 2 * f) (by omega) (by omega)) fun n3 h3 => ?_
 refine WK ?_; try with_reducible exact trivial
 refine CS (AgB k v (by omega) (by omega) (by omega)) fun n4 h4 => ?_
 refine WK ?_; try with_reducible exact trivial
 refine QC (mmul_o _ _ rc rp (rc.small (by rw [Eh]; omega) (by omega)) sp) fun i n5 h5 h6 => ?_
 refine WK ?_; try with_reducible exact trivial
 refine Ij [i] (t := .mk _) ?_
 simp only [EQ, Aa]
 exact C9 ⟨i, by omega, h6, rfl, rfl⟩
theorem Xe {k f : Nat} (h : CO k f) (v : Bs) (hv : v.length ≤ 512) : ED Tryz.prog G7 [shD k f, BC v] (.tup [CY (encode k f v), iD 0]) :=
 (Ahb h v hv).fn2 (SX _).1 (by rw [(SX _).2])
theorem Xf (K F : Int) (h : Ja K F = true) (v : Bs) (hv : 512 < v.length) : ED Tryz.prog G7 [shD K F, BC v] (.tup [CY [], iD 7]) := by
 have e : (⟨v.toArray⟩ : ByteArray).size = v.length := by simp [ByteArray.size]
 intro nx
 refine A8 QN (by simp only [m_code_Encode, List.length]; decide) ?_
 simp only [m_code_Encode]; refine WK ?_; try with_reducible exact trivial
 refine CS (Wv K F) fun n1 h1 => ?_
 rw [h]
 refine WKX @e ?_; try with_reducible exact trivial
 refine Gh (t' := .mk _) ?_
 exact Eb ⟨rfl, rfl⟩
theorem Y3 (v : Bs) : (⟨v.toArray⟩ : ByteArray).size = v.length := by simp [ByteArray.size]
def VU (b : Bs) : D := match GI b with
 | some (v, _) => .tup [BC v, AO (decide (v.length ≤ 512))]
 | none => .tup [BC [], AO false]
theorem AhP (p : LL) (hl : p.length ≤ 1000000) (hf : p.flatten.length ≤ 1000000) : ED Tryz.prog OL [CY p] (VU p.flatten) := by
 intro nx
 refine A8 Aad (by simp only [m_code_value, List.length]; decide) ?_
 simp only [m_code_value]; refine WK ?_; try with_reducible exact trivial
 refine CS (Xo p (by omega) (by omega)) fun n1 h1 => ?_
 refine WK ?_; try with_reducible exact trivial
 refine CS (Um p.flatten (by omega)) fun n2 h2 => ?_
 cases h : GI p.flatten with
 | none =>
  refine WK ?_; try with_reducible exact trivial
  rw [VU, h]
  exact Eb ⟨rfl, rfl⟩
 | some q =>
  obtain ⟨v, rest⟩ := q
  have hv : v.length ≤ p.flatten.length := by
   unfold GI at h
   split at h
   ·cases h
   ·split at h
    ·cases h
    ·cases h
     rw [List.length_take, List.length_drop]
     omega
  dsimp only
  simp -dsimp (disch := omega) only [↓MC.xwp, ↓Ce, ↓xdr, ↓MOp.xwp, dvs, dv, dvu, dvo, dvp, dgb, dGd, DX, cond_true, cond_false, Gf, Bg, CQ, Dp, DD, Du, ptr, bsc, cv, uo, uof, Bq, xpr, DL, EL, FM, FB, Gi, FT, Gj, xst, xgp, glc, F8, DV, FY, FZ, FW, FX, DU, FV, FN, FU, DN, DR, Cj, Dw, Fv, dsl, dif, BV, CP, BI, scs, rowOf, AU, dtk, DC, BJ, pev, Bl, Bv, Aq, Bz, psl, Ba, ↓DI, ↓CB, ↓FP, ↓Fq, Dz, FD, FC, Dj, BG, kp, Di, Dv, E9, Dt, FI, CZ, AQ, BB, nb, Fe, Cb, Bd, apart, Aj, Bc, heldOk, Op.operands, Nat.reduceAdd, forall_eq_or_imp, D.plain, reduceCtorEq, if_true, if_false, ↓reduceIte, ne_eq, Bool.cond_true, Bool.cond_false, forall_const, implies_true, forall_eq, Int.reduceEq, Int.reduceLT, Int.reduceLE, Int.reduceAdd, Int.reduceSub, Int.reduceMul, Int.reduceToNat, Nat.reduceMul, Nat.reduceLeDiff, Nat.reduceLT, Nat.reduceSub, Nat.reduceBEq, Nat.reduceEqDiff, CY, bytesD, iD, CU, AO, BC, bD, DB, Y3]
  rw [VU, h]
  refine Eb ⟨?_, rfl⟩
  dsimp only
  rw [show decide ((v.length : Int) ≤ 512) = decide (v.length ≤ 512) from by simp only [decide_eq_decide]; omega]
theorem AhI {k f : Nat} (h : CO k f) (v : Bs) (l : LL) (hl : l.length = k + 2 * f) (hw : ∀ x ∈ l, x.length ≤ 1000000) : ED Tryz.prog NE [shD k f, BC v, CY l] (AO (decide (v.length ≤ 512) && KN k f v l)) := by
 have hk := h.k; have hn := h.n
 intro nx
 refine A8 X9 (by simp only [m_code_agrees, List.length]; decide) ?_
 simp only [m_code_agrees]; refine WK ?_; try with_reducible exact trivial
 by_cases hv : v.length ≤ 512
 ·refine CS (Xe h v hv) fun n1 h1 => ?_
  obtain ⟨re, we, le⟩ := BP h v
  refine WK ?_; try with_reducible exact trivial
  refine CS (AdZ l (by omega)) fun n2 h2 => ?_
  rw [H7 hv, Bool.true_and]
  have hte := AaR l
  refine WK ?_; try with_reducible exact trivial
  refine GL [2, 7, 20, 21, 22] (fun s : Nat × Nat => ([(2, CY l), (7, CY (encode k f v)), (20, CU (BA l)), (21, iD (BA l).length), (22, iD s.1)], [], s.2)) (fun s => s.1 ≤ (BA l).length ∧ ∀ x ∈ (BA l).take s.1, rowAt (encode k f v) x = rowAt l x) (fun s => (BA l).length - s.1) (0, n2) ⟨by dsimp only; omega, by simp⟩ ((Ent.only [] _ _ _).trans (Ent.of (by with_unfolding_all rfl) rfl)) ?_
  rintro ⟨j, n9⟩ ⟨hj, hz⟩
  dsimp only at hj hz ⊢
  by_cases hlt : j < (BA l).length
  ·have hmem : gt (BA l) j ∈ BA l := by rw [Ia hlt]; exact List.getElem_mem hlt
   obtain ⟨i, hi, hil, hine⟩ := Ox.1 hmem
   have hgl : gt l i = rowAt l (i : Int) := rfl
   have hge : gt (encode k f v) i = rowAt (encode k f v) (i : Int) := rfl
   refine WKX @hi ?_; try with_reducible exact trivial
   refine CS (ZO (gt (encode k f v) i) (gt l i) ?_) fun n3 h3 => ?_
   ·have := Adv h v (i := i) (by omega)
    have := DJ (k := k) v.length (by omega)
    show ((encode k f v).getD i []).length ≤ _
    omega
   refine WK ?_; try with_reducible exact trivial
   refine brn (fun hne => ?_) (fun heq => ?_)
   ·refine WK ?_; try with_reducible exact trivial
    have : KN k f v l = false := by
     rw [Bool.eq_false_iff]
     intro ha
     exact hne (Qa.1 ha i hil hine)
    rw [this]
    exact Eb ⟨rfl, rfl⟩
   ·refine WK ?_; try with_reducible exact trivial
    refine ⟨(j + 1, n3), ⟨by dsimp only; omega, ?_⟩, by dsimp only; omega, (Ent.of (by with_unfolding_all rfl) rfl)⟩
    ·dsimp only
     rw [Lp hlt]
     intro x hx
     rcases List.mem_append.1 hx with hx | hx
     ·exact hz x hx
     ·simp only [List.mem_singleton] at hx
      subst hx
      rw [hi]
      exact heq
  ·have hjl : j = (BA l).length := by omega
   subst hjl
   rw [List.take_length] at hz
   refine WK ?_; try with_reducible exact trivial
   have : KN k f v l = true := Qa.2 fun i hi hne => hz (i : Int) (Ox.2 ⟨i, rfl, hi, hne⟩)
   rw [this]
   exact Eb ⟨rfl, rfl⟩
 ·refine CS (Xf k f (L9.2 ⟨k, f, rfl, rfl, h⟩) v (by omega)) fun n1 h1 => ?_
  rw [J5 hv, Bool.false_and]
  refine WK ?_; try with_reducible exact trivial
  exact Eb ⟨rfl, rfl⟩
theorem W9 {b : Nat} : ∀ {m : LL}, (∀ x ∈ m, x.length ≤ b) → m.flatten.length ≤ m.length * b
 | [], _ => by simp
 | x :: m, h => by
  have ih := W9 (b := b) (m := m) (fun y hy => h y (List.mem_cons_of_mem _ hy))
  have h1 := h x (by simp)
  rw [List.flatten_cons, List.length_append, List.length_cons, Nat.succ_mul]
  omega
def AdD (p : Bs × Nat) : D := .tup [BC p.1, iD p.2]
theorem Ahp {k f : Nat} (h : CO k f) (l : LL) (hl : l.length ≤ 1000) (hw : ∀ x ∈ l, x.length ≤ 1000) : ED Tryz.prog NF [shD k f, CY l] (AdD (decode k f l)) := by
 have hk := h.k; have hn := h.n
 intro nx
 refine A8 Ya (by simp only [m_code_Decode, List.length]; decide) ?_
 simp only [m_code_Decode]; refine WK ?_; try with_reducible exact trivial
 refine CS (QU h) fun n1 h1 => ?_
 refine WK ?_; try with_reducible exact trivial
 refine CS (Zx h) fun n2 h2 => ?_
 refine WK ?_; try with_reducible exact trivial
 refine brn (fun hne => ?_) (fun heq => ?_)
 ·refine WK ?_; try with_reducible exact trivial
  rw [decode, if_pos (by omega)]
  exact Eb ⟨rfl, rfl⟩
 ·have hln : l.length = k + 2 * f := by omega
  refine WK ?_; try with_reducible exact trivial
  refine CS (AdZ l (by omega)) fun n3 h3 => ?_
  have hte := AaR l
  refine WK ?_; try with_reducible exact trivial
  refine brd (fun hs => ?_) (fun hs => ?_)
  ·refine WK ?_; try with_reducible exact trivial
   rw [decode, if_neg (by omega), if_pos (by omega)]
   exact Eb ⟨rfl, rfl⟩
  ·have hck : ¬ (BA l).length < k := by omega
   have hlen : ((BA l).take k).length = k := by rw [List.length_take]; omega
   have hb : ∀ x ∈ (BA l).take k, 0 ≤ x ∧ x < ((k + 2 * f : Nat) : Int) := fun x hx => by
    have := AfZ x (List.mem_of_mem_take hx)
    omega
   have hinl : ((BA l).take k).all (inR l) = true := List.all_eq_true.2 fun x hx => ZB (by rw [hln]; exact hb x hx)
   have hfl : (pick l ((BA l).take k)).length = k := by rw [pick, if_pos hinl, List.length_map, hlen]
   have hfw : ∀ x ∈ pick l ((BA l).take k), x.length ≤ 1000 := fun x hx => by
    rw [pick, if_pos hinl] at hx
    obtain ⟨y, hy, rfl⟩ := List.mem_map.1 hx
    have := hb y hy
    rw [rowAt, AY [] (by omega)]
    exact hw _ (List.getElem_mem _)
   obtain ⟨rk, wk⟩ := (Sv hlen hb).2.right (by omega)
   have sk := (Sv hlen hb).2
   have ek : D.sl k (((BA l).map iD).take k) = CU ((BA l).take k) := by
    rw [← List.map_take, CU, hlen]
   have ek2 : D.sl k (((BA l).map fun n => D.sc (Value.int .i64 n)).take k) = CU ((BA l).take k) := ek
   refine WKX @ek2 ?_; try with_reducible exact trivial
   refine CS (Agr l ((BA l).take k) (by omega) (fun x hx => by have := hw x hx; omega) (by omega)) fun n4 h4 => ?_
   refine WK ?_; try with_reducible exact trivial
   refine CS (Aic (pick l ((BA l).take k)) (by omega)) fun n5 h5 => ?_
   cases hr : Me (pick l ((BA l).take k)) with
   | false =>
    refine WK ?_; try with_reducible exact trivial
    rw [decode, if_neg (by omega), if_neg hck, if_pos hr]
    exact Eb ⟨rfl, rfl⟩
   | true =>
    refine WKX @ek2 ?_; try with_reducible exact trivial
    refine CS (Zx h) fun n6 h6 => ?_
    refine WKX @ek2 ?_; try with_reducible exact trivial
    refine CS (Acb k (k + 2 * f) (by omega) (by omega)) fun n7 h7 => ?_
    refine WKX @ek2 ?_; try with_reducible exact trivial
    refine CS (Agr (Dn k (k + 2 * f)) ((BA l).take k) (by rw [Eh]; omega) (fun x hx => by rw [JK k (k + 2 * f) x hx]; omega) (by omega)) fun n8 h8 => ?_
    refine WK ?_; try with_reducible exact trivial
    refine CS (AgW _ rk (rk.small (by rw [sk.len]; omega) (by omega))) fun n9 h9 => ?_
    cases hi : Ik (pick (Dn k (k + 2 * f)) ((BA l).take k)) with
    | none =>
     simp -dsimp (disch := omega) only [↓MC.xwp, ↓Ce, ↓xdr, ↓MOp.xwp, dvs, dv, dvu, dvo, dvp, dgb, dGd, DX, cond_true, cond_false, Gf, Bg, CQ, Dp, DD, Du, ptr, bsc, cv, uo, uof, Bq, xpr, DL, EL, FM, FB, Gi, FT, Gj, xst, xgp, glc, F8, DV, FY, FZ, FW, FX, DU, FV, FN, FU, DN, DR, Cj, Dw, Fv, dsl, dif, BV, CP, BI, scs, rowOf, AU, dtk, DC, BJ, pev, Bl, Bv, Aq, Bz, psl, Ba, ↓DI, ↓CB, ↓FP, ↓Fq, Dz, FD, FC, Dj, BG, kp, Di, Dv, E9, Dt, FI, CZ, AQ, BB, nb, Fe, Cb, Bd, apart, Aj, Bc, heldOk, Op.operands, Nat.reduceAdd, forall_eq_or_imp, D.plain, reduceCtorEq, if_true, if_false, ↓reduceIte, ne_eq, Bool.cond_true, Bool.cond_false, forall_const, implies_true, forall_eq, Int.reduceEq, Int.reduceLT, Int.reduceLE, Int.reduceAdd, Int.reduceSub, Int.reduceMul, Int.reduceToNat, Nat.reduceMul, Nat.reduceLeDiff, Nat.reduceLT, Nat.reduceSub, Nat.reduceBEq, Nat.reduceEqDiff, CY, bytesD, iD, CU, AO, BC, bD, DB, Option.getD_none, Option.isSome_none]
     rw [decode, if_neg (by omega), if_neg hck, if_neg (by rw [hr]; simp), hi]
     exact Eb ⟨rfl, rfl⟩
    | some y =>
     obtain ⟨sy, e1, e2, _⟩ := UW sk (by omega) hi
     obtain ⟨ry, wy⟩ := sy.right (by omega)
     obtain ⟨rf, _, wf⟩ : Ea (pick l ((BA l).take k)) ∧ True ∧ width (pick l ((BA l).take k)) ≤ 1000 := by
      have rf := Ae1 hr
      exact ⟨rf, trivial, by rw [← rf.all _ (List.getElem_mem rf.pos)]; exact hfw _ (List.getElem_mem _)⟩
     obtain ⟨rm, wm, lm⟩ := Hy ry rf (by rw [wy, hfl])
     have hfb : (Gy y (pick l ((BA l).take k))).flatten.length ≤ (Gy y (pick l ((BA l).take k))).length * 1000 := W9 fun x hx => by rw [rm.all x hx, wm]; exact wf
     have hly : y.length = k := sy.len
     have hlm : (Gy y (pick l ((BA l).take k))).length ≤ 7 := by omega
     have hfb2 : (Gy y (pick l ((BA l).take k))).flatten.length ≤ 7000 := Nat.le_trans hfb (Nat.mul_le_mul_right 1000 hlm)
     simp -dsimp (disch := omega) only [↓MC.xwp, ↓Ce, ↓xdr, ↓MOp.xwp, dvs, dv, dvu, dvo, dvp, dgb, dGd, DX, cond_true, cond_false, Gf, Bg, CQ, Dp, DD, Du, ptr, bsc, cv, uo, uof, Bq, xpr, DL, EL, FM, FB, Gi, FT, Gj, xst, xgp, glc, F8, DV, FY, FZ, FW, FX, DU, FV, FN, FU, DN, DR, Cj, Dw, Fv, dsl, dif, BV, CP, BI, scs, rowOf, AU, dtk, DC, BJ, pev, Bl, Bv, Aq, Bz, psl, Ba, ↓DI, ↓CB, ↓FP, ↓Fq, Dz, FD, FC, Dj, BG, kp, Di, Dv, E9, Dt, FI, CZ, AQ, BB, nb, Fe, Cb, Bd, apart, Aj, Bc, heldOk, Op.operands, Nat.reduceAdd, forall_eq_or_imp, D.plain, reduceCtorEq, if_true, if_false, ↓reduceIte, ne_eq, Bool.cond_true, Bool.cond_false, forall_const, implies_true, forall_eq, Int.reduceEq, Int.reduceLT, Int.reduceLE, Int.reduceAdd, Int.reduceSub, Int.reduceMul, Int.reduceToNat, Nat.reduceMul, Nat.reduceLeDiff, Nat.reduceLT, Nat.reduceSub, Nat.reduceBEq, Nat.reduceEqDiff, CY, bytesD, iD, CU, AO, BC, bD, DB, Option.getD_some, Option.isSome_some]
     refine CS (mmul_d y (pick l ((BA l).take k)) ry rf (ry.small (by omega) (by omega)) (rf.small (by omega) wf)) fun m1 g1 => ?_
     refine WK ?_; try with_reducible exact trivial
     refine CS (AhP _ (by omega) (by omega)) fun m2 g2 => ?_
     have hdec : decode k f l = match GI (Gy y (pick l ((BA l).take k))).flatten with
       | none => ([], 2)
       | some (v, _) => if v.length ≤ 512 ∧ KN k f v l = true then (v, 0) else ([], 2) := by
      rw [decode, if_neg (by omega), if_neg hck, if_neg (by rw [hr]; simp), hi]
      try rfl
     cases hc : GI (Gy y (pick l ((BA l).take k))).flatten with
     | none =>
      rw [hc] at hdec
      rw [VU, hc, hdec]
      refine WK ?_; try with_reducible exact trivial
      refine Ahm ?_
      refine WK ?_; try with_reducible exact trivial
      exact Eb ⟨rfl, rfl⟩
     | some q =>
      obtain ⟨v, rest⟩ := q
      rw [hc] at hdec
      dsimp only at hdec
      rw [VU, hc]
      dsimp only
      by_cases hv : v.length ≤ 512
      ·rw [H7 hv]
       refine WK ?_; try with_reducible exact trivial
       refine CS (AhI h v l hln (fun x hx => by have := hw x hx; omega)) fun m3 g3 => ?_
       rw [H7 hv, Bool.true_and]
       cases ha : KN k f v l with
       | false =>
        rw [hdec, if_neg (by rw [ha]; simp)]
        refine WK ?_; try with_reducible exact trivial
        exact Eb ⟨rfl, rfl⟩
       | true =>
        rw [hdec, if_pos ⟨hv, ha⟩]
        refine WK ?_; try with_reducible exact trivial
        exact Eb ⟨rfl, rfl⟩
      ·rw [J5 hv, hdec, if_neg (by simp [hv])]
       refine WK ?_; try with_reducible exact trivial
       refine Ahm ?_
       refine WK ?_; try with_reducible exact trivial
       exact Eb ⟨rfl, rfl⟩
theorem Ae5 {k f : Nat} (h : CO k f) (v : Bs) (hv : v.length ≤ 512) : ED Tryz.prog ML [shD k f, BC v] (CY (encode k f v)) := by
 have hk := h.k; have hn := h.n
 obtain ⟨rp, sp, lp⟩ := Aej hk (by omega) hv
 obtain ⟨rc, wc⟩ := I7 (k := k) (n := k + 2 * f) (by omega) (by omega)
 have hpl := TY (k := k) (n := (Be v).length) (by omega)
 have hpg := NU (k := k) (n := (Be v).length) (by omega)
 have htl := Ej v
 have hbl := KG (k := k) (by omega) v
 have hw1 := Oo (k := k) v.length (by omega)
 have hw2 := DJ (k := k) v.length (by omega)
 have hrm : UL (Qh k (k + 2 * f)) (AL k v) = encode k f v := by
  rw [QW, ← mul_eq rc rp]; rfl
 intro nx
 refine A8 Xv (by simp only [m_ref05_Encode, List.length]; decide) ?_
 simp only [m_ref05_Encode]; refine WK ?_; try with_reducible exact trivial
 refine QC (Aeb v (by omega)) fun i2 n2 hi2 hi2' => ?_
 refine WK ?_; try with_reducible exact trivial
 refine GL [2, 5] (fun s : Nat × Nat × Nat => ([(2, .hp nx 0), (5, .h s.2.1)], [(s.2.1, Ak (Be v ++ List.replicate s.1 0)), (nx, .box Dl [iD k, iD f])], s.2.2)) (fun s => s.1 + (Be v).length ≤ ET k (Be v).length ∧ nx < s.2.1 ∧ s.2.1 < s.2.2) (fun s => ET k (Be v).length - (s.1 + (Be v).length)) (0, i2, n2) ⟨by dsimp only; omega, by dsimp only; omega, hi2'⟩ ?_ ?_
 ·dsimp only
  rw [List.replicate_zero, List.append_nil]
  exact (Ent.of (by with_unfolding_all rfl) rfl)
 ·rintro ⟨m, i, n1⟩ ⟨hm, hi, hi'⟩
  dsimp only at hm hi hi' ⊢
  have hlen : (Be v ++ List.replicate m (0 : UInt8)).length = (Be v).length + m := by simp
  refine WKX @hlen ?_; try with_reducible exact trivial
  refine brn (fun hne => ?_) (fun heq => ?_)
  ·have hlt : m + (Be v).length < ET k (Be v).length := by
    rcases Nat.lt_or_ge (m + (Be v).length) (ET k (Be v).length) with h | h
    ·exact h
    ·exfalso
     have e1 : (Be v).length + m = ET k (Be v).length := by omega
     have e2 := MB (k := k) (n := (Be v).length) (by omega)
     refine hne ?_
     rw [e1, e2]
     have : k * (ET k (Be v).length / k) % k = 0 := Nat.mul_mod_right _ _
     omega
   simp -dsimp (disch := omega) only [↓MC.xwp, ↓Ce, ↓xdr, ↓MOp.xwp, dvs, dv, dvu, dvo, dvp, dgb, dGd, DX, cond_true, cond_false, Gf, Bg, CQ, Dp, DD, Du, ptr, bsc, cv, uo, uof, Bq, xpr, DL, EL, FM, FB, Gi, FT, Gj, xst, xgp, glc, F8, DV, FY, FZ, FW, FX, DU, FV, FN, FU, DN, DR, Cj, Dw, Fv, dsl, dif, BV, CP, BI, scs, rowOf, AU, dtk, DC, BJ, pev, Bl, Bv, Aq, Bz, psl, Ba, ↓DI, ↓CB, ↓FP, ↓Fq, Dz, FD, FC, Dj, BG, kp, Di, Dv, E9, Dt, FI, CZ, AQ, BB, nb, Fe, Cb, Bd, apart, Aj, Bc, heldOk, Op.operands, Nat.reduceAdd, forall_eq_or_imp, D.plain, reduceCtorEq, if_true, if_false, ↓reduceIte, ne_eq, Bool.cond_true, Bool.cond_false, forall_const, implies_true, forall_eq, Int.reduceEq, Int.reduceLT, Int.reduceLE, Int.reduceAdd, Int.reduceSub, Int.reduceMul, Int.reduceToNat, Nat.reduceMul, Nat.reduceLeDiff, Nat.reduceLT, Nat.reduceSub, Nat.reduceBEq, Nat.reduceEqDiff, CY, bytesD, iD, CU, AO, BC, bD, DB, Nat.reduceDiv]
   refine NH (i := i) (m := 1) (l' := [bD 0]) elB (l := (Be v ++ List.replicate m 0).map bD) (n := (Be v ++ List.replicate m (0 : UInt8)).length) (by rw [Ac (by omega), Aa]) (Jo.row (Aa _ _ _) (fun x hx => by simp only [List.mem_singleton] at hx; subst hx; exact XE 0)) rfl (by simp [BJ, bD, U8, Value.oneCell']) (by omega) (by omega) (by simp) ?_
   refine WK ?_; try with_reducible exact trivial
   refine ⟨(m + 1, n1 + 1, n1 + 2), ⟨by dsimp only; omega, by dsimp only; omega, by dsimp only; omega⟩, by dsimp only; omega, ?_⟩
   refine (Ent.only [n1 + 1, nx] _ _ _).trans ?_
   refine WKR ?_; try with_reducible exact trivial
   have e : D.row tU8 1 ((Be v ++ List.replicate m (0 : UInt8)).length + 1) ((Be v ++ List.replicate m 0).map bD ++ [bD 0]) = Ak (Be v ++ List.replicate (m + 1) 0) := by
    rw [List.replicate_succ', ← List.append_assoc]
    simp only [Ak, List.map_append, List.map_cons, List.map_nil, List.length_append, List.length_cons, List.length_nil]
   rw [← e]
   exact (Ent.of (by with_unfolding_all rfl) rfl)
  ·refine WK ?_; try with_reducible exact trivial
   have e1 : (Be v).length + m = ET k (Be v).length := Yq (by omega) (by omega) (by omega) (by omega)
   have e2 : GZ k (Be v) = Be v ++ List.replicate m 0 := by
    rw [GZ]
    congr 2
    omega
   rw [← e2]
   have e3 : ((GZ k (Be v)).length : Int) / (k : Int) = ((BK k v.length : Nat) : Int) := by
    rw [hbl, Int.natCast_mul, Int.mul_ediv_cancel_left _ (by omega)]
   rw [e3, wrap_i64 (by omega)]
   refine GL [2, 5, 6, 7, 8] (fun s : Nat × Nat × Nat => ([(2, .hp nx 0), (5, .h i), (6, iD (BK k v.length)), (7, .h s.2.1), (8, iD s.1)], [(s.2.1, .row Au 1 s.1 (((AL k v).take s.1).map bytesD)), (i, bytesD (GZ k (Be v))), (nx, .box Dl [iD k, iD f])], s.2.2)) (fun s => s.1 ≤ k ∧ i < s.2.1 ∧ s.2.1 < s.2.2) (fun s => k - s.1) (0, n1, n1 + 1) ⟨by dsimp only; omega, by dsimp only; omega, by dsimp only; omega⟩ ?_ ?_
   ·refine (Ent.of_rt (RT.frz i (Aa _ _ _) (by simp only [I9]; exact (Df _).1))).trans ?_
    rw [AV]
    simp only [frzR, frz, (Df _).2]
    refine (Ent.nil 7 Au 1 (by with_unfolding_all rfl) rfl).trans ?_
    exact (Ent.of (by with_unfolding_all rfl) rfl)
   ·rintro ⟨j, q, n5⟩ ⟨hj, hq, hq'⟩
    dsimp only at hj hq hq' ⊢
    by_cases hlt : j < k
    ·have hjw : j * BK k v.length + BK k v.length ≤ (GZ k (Be v)).length := by
      rw [hbl, ← Nat.succ_mul]; exact Nat.mul_le_mul_right _ hlt
     have hb8 : (GZ k (Be v)).length ≤ 1000 := by rw [OD (by omega)]; omega
     have e5 : (j : Int) * (BK k v.length : Int) = ((j * BK k v.length : Nat) : Int) := (Int.natCast_mul _ _).symm
     have e4 : ((j : Int) + 1) * (BK k v.length : Int) = ((j * BK k v.length + BK k v.length : Nat) : Int) := by
      rw [Int.add_mul, Int.one_mul, e5, Int.natCast_add]
     have e6 : D.sl (j * BK k v.length + BK k v.length - j * BK k v.length) (List.take (j * BK k v.length + BK k v.length - j * BK k v.length) (List.drop (j * BK k v.length) ((GZ k (Be v)).map bD))) = bytesD (gt (AL k v) j) := by
      rw [WE (by omega) v hlt, ← List.map_drop, ← List.map_take, Nat.add_sub_cancel_left]
      have : (((GZ k (Be v)).drop (j * BK k v.length)).take (BK k v.length)).length = BK k v.length := by
       rw [List.length_take, List.length_drop]; omega
      simp only [bytesD, this]
     simp -dsimp (disch := omega) only [↓MC.xwp, ↓Ce, ↓xdr, ↓MOp.xwp, dvs, dv, dvu, dvo, dvp, dgb, dGd, DX, cond_true, cond_false, Gf, Bg, CQ, Dp, DD, Du, ptr, bsc, cv, uo, uof, Bq, xpr, DL, EL, FM, FB, Gi, FT, Gj, xst, xgp, glc, F8, DV, FY, FZ, FW, FX, DU, FV, FN, FU, DN, DR, Cj, Dw, Fv, dsl, dif, BV, CP, BI, scs, rowOf, AU, dtk, DC, BJ, pev, Bl, Bv, Aq, Bz, psl, Ba, ↓DI, ↓CB, ↓FP, ↓Fq, Dz, FD, FC, Dj, BG, kp, Di, Dv, E9, Dt, FI, CZ, AQ, BB, nb, Fe, Cb, Bd, apart, Aj, Bc, heldOk, Op.operands, Nat.reduceAdd, forall_eq_or_imp, D.plain, reduceCtorEq, if_true, if_false, ↓reduceIte, ne_eq, Bool.cond_true, Bool.cond_false, forall_const, implies_true, forall_eq, Int.reduceEq, Int.reduceLT, Int.reduceLE, Int.reduceAdd, Int.reduceSub, Int.reduceMul, Int.reduceToNat, Nat.reduceMul, Nat.reduceLeDiff, Nat.reduceLT, Nat.reduceSub, Nat.reduceBEq, Nat.reduceEqDiff, CY, bytesD, iD, CU, AO, BC, bD, DB, e4, e5, Nat.reduceDiv]
     rw [e6]
     have htk : ((AL k v).take j).map bytesD ++ [bytesD (gt (AL k v) j)] = ((AL k v).take (j + 1)).map bytesD := by
      rw [Lp (by rw [lp]; exact hlt), List.map_append]; rfl
     refine NH (i := q) (m := 1) (l' := [bytesD (gt (AL k v) j)]) elM (l := ((AL k v).take j).map bytesD) (n := j) (by refine WK ?_; try with_reducible exact trivial) (Jo.row (Aa _ _ _) (fun x hx => by simp only [List.mem_singleton] at hx; subst hx; simp only [bytesD, D.plain])) rfl (by simp [BJ, bytesD, Value.oneCell']) (by omega) (by omega) (by simp) ?_
     refine WK ?_; try with_reducible exact trivial
     refine ⟨(j + 1, n5 + 1, n5 + 2), ⟨by dsimp only; omega, by dsimp only; omega, by dsimp only; omega⟩, by dsimp only; omega, ?_⟩
     rw [htk]
     refine (Ent.only [n5 + 1, i, nx] _ _ _).trans ?_
     refine WKR ?_; try with_reducible exact trivial
     exact (Ent.of (by with_unfolding_all rfl) rfl)
    ·have hjk : j = k := by omega
     subst hjk
     refine WK ?_; try with_reducible exact trivial
     refine CS (rnS_d j f (by omega) (by omega)) fun n h => ?_
     refine WK ?_; try with_reducible exact trivial
     rw [show (j : Int) + f + f = ((j + 2 * f : Nat) : Int) by omega]
     refine CS (Afa j (j + 2 * f) (by omega) (by omega)) fun n' h' => ?_
     refine WK ?_; try with_reducible exact trivial
     refine Gt (t' := .mk _) q (Aa _ _ _) (fun x hx => ?_) (by simp) ?_
     ·simp only [List.mem_map] at hx
      obtain ⟨y, _, rfl⟩ := hx
      simp only [bytesD, D.plain]
     ·rw [AV, List.take_of_length_le (show (AL j v).length ≤ j by omega)]
      simp only [List.map_cons, List.map_nil, Du, Aa]
      rw [show D.sl j ((AL j v).map bytesD) = CY (AL j v) by simp only [CY, lp]]
      refine CS (Aia (Qh j (j + 2 * f)) _ (by rw [QW]; exact rc) rp (by rw [QW]; exact rc.small (by rw [Eh]; omega) (by omega)) sp) fun n'' h'' => ?_
      rw [hrm]
      refine WK ?_; try with_reducible exact trivial
      exact Eb ⟨rfl, rfl⟩
def kOf (a b : UInt8) : Nat := 1 + a.toNat % (7 - 2 * (b.toNat % 4))
def fOf (b : UInt8) : Nat := b.toNat % 4
theorem Wp (a b : UInt8) : CO (kOf a b) (fOf b) := by
 have h1 : b.toNat % 4 < 4 := Nat.mod_lt _ (by decide)
 have h2 : a.toNat % (7 - 2 * (b.toNat % 4)) < 7 - 2 * (b.toNat % 4) := Nat.mod_lt _ (by omega)
 refine ⟨by unfold kOf; omega, by unfold kOf fOf; omega⟩
theorem Abc (a b : UInt8) : ED Tryz.prog KL [bD a, bD b] (shD (kOf a b) (fOf b)) := by
 have h1 : b.toNat % 4 < 4 := Nat.mod_lt _ (by decide)
 have ha : a.toNat < 256 := a.toNat_lt
 have hb : b.toNat < 256 := b.toNat_lt
 have h2 : a.toNat % (7 - 2 * (b.toNat % 4)) < 7 - 2 * (b.toNat % 4) := Nat.mod_lt _ (by omega)
 intro nx
 refine A8 X3 (by simp only [m_ref05_Shape, List.length]; decide) ?_
 simp -dsimp (disch := omega) only [↓MC.xwp, ↓Ce, ↓xdr, ↓MOp.xwp, dvs, dv, dvu, dvo, dvp, dgb, dGd, DX, cond_true, cond_false, Gf, Bg, CQ, Dp, DD, Du, ptr, bsc, cv, uo, uof, Bq, xpr, DL, EL, FM, FB, Gi, FT, Gj, xst, xgp, glc, F8, DV, FY, FZ, FW, FX, DU, FV, FN, FU, DN, DR, Cj, Dw, Fv, dsl, dif, BV, CP, BI, scs, rowOf, AU, dtk, DC, BJ, pev, Bl, Bv, Aq, Bz, psl, Ba, ↓DI, ↓CB, ↓FP, ↓Fq, Dz, FD, FC, Dj, BG, kp, Di, Dv, E9, Dt, FI, CZ, AQ, BB, nb, Fe, Cb, Bd, apart, Aj, Bc, heldOk, Op.operands, Nat.reduceAdd, forall_eq_or_imp, D.plain, reduceCtorEq, if_true, if_false, ↓reduceIte, ne_eq, Bool.cond_true, Bool.cond_false, forall_const, implies_true, forall_eq, Int.reduceEq, Int.reduceLT, Int.reduceLE, Int.reduceAdd, Int.reduceSub, Int.reduceMul, Int.reduceToNat, Nat.reduceMul, Nat.reduceLeDiff, Nat.reduceLT, Nat.reduceSub, Nat.reduceBEq, Nat.reduceEqDiff, CY, bytesD, iD, CU, AO, BC, bD, DB, m_ref05_Shape, U8]
 have e2 : (7 : Int) - 2 * ((b.toNat : Int) % 4) = ((7 - 2 * (b.toNat % 4) : Nat) : Int) := by omega
 have e1 : (1 : Int) + (a.toNat : Int) % (7 - 2 * ((b.toNat : Int) % 4)) = ((kOf a b : Nat) : Int) := by
  rw [e2, kOf, ← Int.natCast_emod]; omega
 have e3 : (b.toNat : Int) % 4 = ((fOf b : Nat) : Int) := by rw [fOf]; omega
 have hk : kOf a b ≤ 7 := by unfold kOf; omega
 rw [e1, e3, wrap_i64 (by omega)]
 exact Eb ⟨rfl, rfl⟩
theorem V8 (a : ByteArray) : D.sc (Value.string a) = BC a.data.toList := by cases a; rfl
end Go.Proofs.YtgpkbldlkadnjaaGreat
end
section
namespace Go.Proofs.YtgpkbldlkadnjaaGreat
open Go Go.Sl
-- 11 shardlog/shardloglaw18.awake; Ar [(1, d), (2, l), (3, v), (4, e), (5, f), (6, g), (7, m)]
-- 14 shardlog/log.Open; Ar [(0, d), (1, d), (3, b), (4, e), (5, s), (6, n)]
-- 16 shardlog/shardlogref17.Right; Ar [(0, v), (1, v)]
-- 17 (*shardlog/log.Log).Promise; Ar [(0, l), (1, b), (2, l), (3, b), (5, rec), (6, e)]
-- 18 (*shardlog/log.Log).Vote; Ar [(0, l), (1, v), (2, l), (3, v), (5, rec), (6, e)]
-- 19 (*shardlog/log.Log).Compact; Ar [(0, l), (1, l), (3, e)]
-- 23 (*shardlog/log.Log).Promised; Ar [(0, l), (1, l)]
-- 25 (*shardlog/log.Log).Votes; Ar [(0, l), (1, l)]
-- 26 (*shardlog/log.Log).Size; Ar [(0, l), (1, l), (3, b), (4, _)]
-- 52 shardlog/log.scan; Ar [(0, b), (1, b), (4, s), (5, recs), (6, _), (7, n), (8, _), (9, r)]
-- 58 shardlog/slot.Promise; Ar [(0, b), (1, b)]
-- 59 (*shardlog/log.Log).add; Ar [(0, l), (1, rec), (2, l), (3, rec), (5, e)]
-- 60 shardlog/slot.Put; Ar [(0, v), (1, v)]
-- 61 shardlog/frame.All; Ar [(0, recs), (1, recs), (3, out), (4, _), (5, r)]
-- 62 (*shardlog/log.Log).all; Ar [(0, l), (1, l), (3, out), (4, rec), (5, e), (6, _), (7, v), (8, rec), (9, _)]
-- 66 shardlog/shardlogref06.Scan; Ar [(0, b), (1, b), (4, out), (5, at), (6, n), (7, rec)]
-- 70 (*shardlog/log.says).sorted; Ar [(0, s), (1, s), (3, out), (4, _), (5, k)]
-- 77 shardlog/shardlogref01.TextAt; Ar [(0, b), (1, at), (2, b), (3, at), (6, n)]
-- 78 shardlog/shardlogref01.At; Ar [(0, b), (1, at), (2, b), (3, at)]
-- 101 shardlog/frame.Scan; Ar [(0, b), (1, b), (4, out), (5, all), (6, rec), (7, rest), (8, ok)]
-- 102 (*shardlog/log.says).take; Ar [(0, s), (1, rec), (2, s), (3, rec), (5, b), (6, v), (7, e)]
-- 103 shardlog/frame.Put; Ar [(0, rec), (1, rec), (3, n)]
noncomputable def m_frame_Put : MF := ⟨18, [.t 2],
 .seq (
 .ops [
 .p 2 .mv [(.const (.slice none 0 0))]]) (
 .seq (
 .seq (
 .ops [
 .p 4 .mv [(.tmp 0)],
 .p 5 .len [(.tmp 4)],
 .p 6 (.bin .gtr) [(.tmp 5), (.const (.int .i64 65535))]]) (
 .cond (.tmp 6) (
 .seq (
 .ops [
 .p 2 .mv [(.const (.slice none 0 0))]]) (
 .ret)) (
 .skip))) (
 .seq (
 .ops [
 .p 7 .mv [(.tmp 0)],
 .p 8 .len [(.tmp 7)],
 .call (some 9) Jw [(.tmp 8)],
 .p 3 .mv [(.tmp 9)]]) (
 .seq (
 .ops [
 .p 10 .mv [(.tmp 3)],
 .p 11 .mv [(.tmp 3)],
 .call (some 12) IM [(.tmp 11)],
 .p 13 .mv [(.tmp 0)],
 .call (some 14) IM [(.tmp 13)],
 .p 15 .mv [(.tmp 0)],
 .bsl 16 Au 4 [(.slice none 0 0), (.slice none 0 0), (.slice none 0 0), (.slice none 0 0)] [(0, 1), (1, 1), (2, 1), (3, 1)] [(.tmp 10), (.tmp 12), (.tmp 14), (.tmp 15)],
 .call (some 17) GN [(.tmp 16)],
 .p 2 .mv [(.tmp 17)]]) (
 .ret))))⟩

theorem Acu : trF Tryz.prog PO = some m_frame_Put := by kernel_rfl
-- 105 shardlog/shardlogref02.Sum; Ar [(0, b), (1, b), (3, w), (4, i), (5, k), (6, odd)]
noncomputable def m_ref02_Sum : MF := ⟨34, [.t 2],
 .seq (
 .ops [
 .p 2 .mv [(.const (.int .u32 0))]]) (
 .seq (
 .ops [
 .p 3 .mv [(.const (.int .u32 4294967295))]]) (
 .seq (
 .seq (
 .ops [
 .p 4 .mv [(.const (.int .i64 0))]]) (
 .block 0 (
 .loop (
 .seq (
 .seq (
 .ops [
 .p 7 .mv [(.tmp 4)],
 .p 8 .mv [(.tmp 0)],
 .p 9 .len [(.tmp 8)],
 .p 10 (.bin .lss) [(.tmp 7), (.tmp 9)]]) (
 .cond (.tmp 10) (
 .skip) (
 .exit 0))) (
 .seq (
 .block 1 (
 .seq (
 .ops [
 .p 13 .mv [(.tmp 3)],
 .p 14 .mv [(.tmp 0)],
 .p 15 .mv [(.tmp 4)],
 .p 16 (.ixs 1) [(.tmp 14), (.tmp 15)],
 .ld 17 (.tmp 16),
 .p 18 (.conv .u32) [(.tmp 17)],
 .p 19 (.bin .xor) [(.tmp 13), (.tmp 18)],
 .p 3 .mv [(.tmp 19)]]) (
 .seq (
 .ops [
 .p 5 .mv [(.const (.int .i64 0))]]) (
 .block 2 (
 .loop (
 .seq (
 .seq (
 .ops [
 .p 20 .mv [(.tmp 5)],
 .p 21 (.bin .lss) [(.tmp 20), (.const (.int .i64 8))]]) (
 .cond (.tmp 21) (
 .skip) (
 .exit 2))) (
 .seq (
 .block 3 (
 .seq (
 .ops [
 .p 24 .mv [(.tmp 3)],
 .p 25 (.bin .rem) [(.tmp 24), (.const (.int .u32 2))],
 .p 26 (.bin .eql) [(.tmp 25), (.const (.int .u32 1))],
 .p 6 .mv [(.tmp 26)]]) (
 .seq (
 .ops [
 .p 27 .mv [(.tmp 3)],
 .p 28 (.bin .quo) [(.tmp 27), (.const (.int .u32 2))],
 .p 3 .mv [(.tmp 28)]]) (
 .seq (
 .ops [
 .p 29 .mv [(.tmp 6)]]) (
 .cond (.tmp 29) (
 .ops [
 .p 30 .mv [(.tmp 3)],
 .p 31 (.bin .xor) [(.tmp 30), (.const (.int .u32 2197175160))],
 .p 3 .mv [(.tmp 31)]]) (
 .skip)))))) (
 .ops [
 .p 22 .mv [(.tmp 5)],
 .p 23 (.bin .add) [(.tmp 22), (.const (.int .i64 1))],
 .p 5 .mv [(.tmp 23)]])))))))) (
 .ops [
 .p 11 .mv [(.tmp 4)],
 .p 12 (.bin .add) [(.tmp 11), (.const (.int .i64 1))],
 .p 4 .mv [(.tmp 12)]])))))) (
 .seq (
 .ops [
 .p 32 .mv [(.tmp 3)],
 .p 33 (.bin .sub) [(.const (.int .u32 4294967295)), (.tmp 32)],
 .p 2 .mv [(.tmp 33)]]) (
 .ret))))⟩

theorem Aco : trF Tryz.prog Nl = some m_ref02_Sum := by kernel_rfl
-- 107 shardlog/slot.ballot; Ar [(0, b), (1, b)]
-- 110 shardlog/slot.Right; Ar [(0, v), (1, v)]
-- 111 shardlog/slot.full; Ar [(0, is), (1, is)]
-- 117 maps.Keys[map[int]shardlog/api.Vote,int,shardlog/api.Vote]; Ar [(0, m), (1, m)]
-- 142 shardlog/frame.Cut; Ar [(0, b), (1, b), (5, n), (6, _), (7, _), (8, body)]
noncomputable def m_frame_Cut : MF := ⟨53, [.t 2, .t 3, .t 4],
 .seq (
 .ops [
 .p 2 .mv [(.const (.slice none 0 0))],
 .p 3 .mv [(.const (.slice none 0 0))],
 .p 4 .mv [(.const (.bool false))]]) (
 .seq (
 .seq (
 .ops [
 .p 9 .mv [(.tmp 0)],
 .p 10 .len [(.tmp 9)],
 .p 11 (.bin .lss) [(.tmp 10), (.const (.int .i64 12))]]) (
 .cond (.tmp 11) (
 .seq (
 .ops [
 .p 2 .mv [(.const (.slice none 0 0))],
 .p 3 .mv [(.const (.slice none 0 0))],
 .p 4 .mv [(.const (.bool false))]]) (
 .ret)) (
 .skip))) (
 .seq (
 .ops [
 .p 13 .mv [(.tmp 0)],
 .call (some 14) Ih [(.tmp 13)],
 .p 12 .mv [(.tmp 14)],
 .p 15 (.ext 0) [(.tmp 12)],
 .p 16 (.ext 1) [(.tmp 12)],
 .p 17 (.ext 2) [(.tmp 12)],
 .p 5 .mv [(.tmp 15)],
 .p 6 .mv [(.tmp 16)],
 .p 7 .mv [(.tmp 17)]]) (
 .seq (
 .ops [
 .p 18 .mv [(.tmp 0)],
 .p 19 (.sls 1 true false false) [(.tmp 18), (.const (.int .i64 12))],
 .call (some 20) DY [(.tmp 19)],
 .p 8 .mv [(.tmp 20)]]) (
 .seq (
 .seq (
 .dr (
 .one ⟨.p 21 .mv [(.tmp 5)], []⟩ (
 .one ⟨.p 22 (.bin .gtr) [(.tmp 21), (.const (.int .i64 65535))], []⟩ (
 .one ⟨.p 23 .mv [(.tmp 22)], []⟩ (
 .one ⟨.gd 23 false (some 24) (.p 24 .mv [(.tmp 5)]), []⟩ (
 .one ⟨.gd 23 false (some 25) (.p 25 .mv [(.tmp 8)]), []⟩ (
 .one ⟨.gd 23 false (some 26) (.p 26 .len [(.tmp 25)]), []⟩ (
 .one ⟨.gd 23 false (some 27) (.p 27 (.bin .gtr) [(.tmp 24), (.tmp 26)]), []⟩ (
 .one ⟨.p 28 .pick [(.tmp 23), (.const (.bool true)), (.tmp 27)], []⟩ (
 .one ⟨.p 29 .mv [(.tmp 28)], []⟩ (
 .one ⟨.gd 29 false (some 30) (.p 30 .mv [(.tmp 0)]), []⟩ (
 .one ⟨.gd 29 false (some 31) (.p 31 (.sls 1 false true false) [(.tmp 30), (.const (.int .i64 12))]), []⟩ (
 .one ⟨.gd 29 false (some 32) (.p 32 .mv [(.tmp 0)]), []⟩ (
 .one ⟨.gd 29 false (some 33) (.p 33 (.sls 1 false true false) [(.tmp 32), (.const (.int .i64 4))]), []⟩ (
 .one ⟨.gd 29 false (some 34) (.p 34 .mv [(.tmp 0)]), []⟩ (
 .one ⟨.gd 29 false (some 35) (.p 35 (.sls 1 false true false) [(.tmp 34), (.const (.int .i64 4))]), []⟩ (
 .one ⟨.gd 29 false (some 37) (.p 37 .mv [(.tmp 8)]), []⟩ (
 .one ⟨.gd 29 false (some 38) (.p 38 .mv [(.tmp 5)]), []⟩ (
 .one ⟨.gd 29 false (some 39) (.p 39 (.sls 1 false true false) [(.tmp 37), (.tmp 38)]), []⟩ (
 .one ⟨.gd 29 false (some 36) (.call (some 36) IM [(.tmp 35)]), []⟩ (
 .one ⟨.gd 29 false (some 40) (.call (some 40) IM [(.tmp 39)]), []⟩ (
 .one ⟨.gd 29 false (some 41) (.bsl 41 Au 3 [(.slice none 0 0), (.slice none 0 0), (.slice none 0 0)] [(0, 1), (1, 1), (2, 1)] [(.tmp 33), (.tmp 36), (.tmp 40)]), []⟩ (
 .one ⟨.gd 29 false (some 42) (.call (some 42) GN [(.tmp 41)]), []⟩ (
 .one ⟨.gd 29 false (some 43) (.call (some 43) II [(.tmp 31), (.tmp 42)]), []⟩ (
 .one ⟨.gd 29 false (some 44) (.p 44 .not [(.tmp 43)]), []⟩ (
 .one ⟨.p 45 .pick [(.tmp 29), (.const (.bool true)), (.tmp 44)], []⟩ (
 .nil))))))))))))))))))))))))))) (
 .cond (.tmp 45) (
 .seq (
 .ops [
 .p 2 .mv [(.const (.slice none 0 0))],
 .p 3 .mv [(.const (.slice none 0 0))],
 .p 4 .mv [(.const (.bool false))]]) (
 .ret)) (
 .skip))) (
 .seq (
 .dr (
 .one ⟨.p 46 .mv [(.tmp 8)], []⟩ (
 .one ⟨.p 47 .mv [(.tmp 5)], []⟩ (
 .one ⟨.p 48 .mv [(.tmp 5)], []⟩ (
 .one ⟨.p 49 (.sls 1 false true true) [(.tmp 46), (.tmp 47), (.tmp 48)], []⟩ (
 .one ⟨.p 50 .mv [(.tmp 8)], []⟩ (
 .one ⟨.p 51 .mv [(.tmp 5)], []⟩ (
 .one ⟨.p 52 (.sls 1 true false false) [(.tmp 50), (.tmp 51)], []⟩ (
 .one ⟨.p 2 .mv [(.tmp 49)], []⟩ (
 .one ⟨.p 3 .mv [(.tmp 52)], []⟩ (
 .one ⟨.p 4 .mv [(.const (.bool true))], []⟩ (
 .nil)))))))))))) (
 .ret))))))⟩

theorem Acv : trF Tryz.prog PP = some m_frame_Cut := by kernel_rfl
-- 144 shardlog/slot.Get; Ar [(0, rec), (1, rec), (5, kind), (6, rest), (7, _), (8, b), (9, _), (10, _), (11, again), (12, e), (13, v), (14, again), (15, e)]
-- 145 shardlog/frame.sum; Ar [(0, b), (1, b)]
noncomputable def m_frame_sum : MF := ⟨7, [.t 2],
 .seq (
 .ops [
 .p 2 .mv [(.const (.slice none 0 0))]]) (
 .seq (
 .ops [
 .p 3 .mv [(.tmp 0)],
 .call (some 4) PQ [(.tmp 3)],
 .p 5 (.conv .i64) [(.tmp 4)],
 .call (some 6) Jw [(.tmp 5)],
 .p 2 .mv [(.tmp 6)]]) (
 .ret))⟩

theorem Acs : trF Tryz.prog IM = some m_frame_sum := by kernel_rfl
-- 163 shardlog/slot.cut; Ar [(0, b), (1, b), (3, n), (4, ok), (5, i), (6, s), (7, _), (8, _)]
-- 164 shardlog/check.Sum; Ar [(0, b), (1, b)]
noncomputable def m_check_Sum : MF := ⟨5, [.t 2],
 .seq (
 .ops [
 .p 2 .mv [(.const (.int .u32 0))]]) (
 .seq (
 .ops [
 .p 3 .mv [(.tmp 0)],
 .call (some 4) OO [(.const (.int .u32 0)), (.tmp 3)],
 .p 2 .mv [(.tmp 4)]]) (
 .ret))⟩

theorem Acx : trF Tryz.prog PQ = some m_check_Sum := by kernel_rfl
-- 171 shardlog/check.More; Ar [(0, sum), (1, b), (2, sum), (3, b), (5, w), (6, _), (7, c)]
noncomputable def m_check_More : MF := ⟨22, [.t 4],
 .seq (
 .ops [
 .p 4 .mv [(.const (.int .u32 0))]]) (
 .seq (
 .ops [
 .p 8 .mv [(.tmp 0)],
 .p 9 (.bin .xor) [(.tmp 8), (.const (.int .u32 4294967295))],
 .p 5 .mv [(.tmp 9)]]) (
 .seq (
 .seq (
 .ops [
 .p 10 .mv [(.tmp 1)],
 .p 11 .len [(.tmp 10)],
 .p 12 .mv [(.const (.int .i64 0))]]) (
 .block 0 (
 .loop (
 .seq (
 .ops [
 .p 13 (.bin .lss) [(.tmp 12), (.tmp 11)]]) (
 .seq (
 .cond (.tmp 13) (
 .skip) (
 .exit 0)) (
 .seq (
 .block 1 (
 .seq (
 .ops [
 .p 14 (.ixs 1) [(.tmp 10), (.tmp 12)],
 .ld 15 (.tmp 14),
 .p 7 .mv [(.tmp 15)]]) (
 .ops [
 .p 16 .mv [(.tmp 5)],
 .p 17 .mv [(.tmp 7)],
 .call (some 18) JB [(.tmp 16), (.tmp 17)],
 .p 5 .mv [(.tmp 18)]]))) (
 .ops [
 .p 19 (.bin .add) [(.tmp 12), (.const (.int .i64 1))],
 .p 12 .mv [(.tmp 19)]]))))))) (
 .seq (
 .ops [
 .p 20 .mv [(.tmp 5)],
 .p 21 (.bin .xor) [(.tmp 20), (.const (.int .u32 4294967295))],
 .p 4 .mv [(.tmp 21)]]) (
 .ret))))⟩

theorem Aag : trF Tryz.prog OO = some m_check_More := by kernel_rfl
-- 192 (shardlog/check.word).eight; Ar [(0, w), (1, b), (2, w), (3, b), (5, step)]
noncomputable def m_check_word_eight : MF := ⟨17, [.t 4],
 .seq (
 .ops [
 .p 4 .mv [(.const (.int .u32 0))]]) (
 .seq (
 .ops [
 .p 5 .mv [(.func I5)]]) (
 .seq (
 .ops [
 .p 6 .mv [(.tmp 0)],
 .p 7 .mv [(.tmp 1)],
 .p 8 (.conv .u32) [(.tmp 7)],
 .p 9 (.bin .xor) [(.tmp 6), (.tmp 8)],
 .p 0 .mv [(.tmp 9)]]) (
 .seq (
 .seq (
 .ops [
 .p 10 .mv [(.const (.int .i64 0))]]) (
 .block 0 (
 .loop (
 .seq (
 .ops [
 .p 11 (.bin .lss) [(.tmp 10), (.const (.int .i64 8))]]) (
 .seq (
 .cond (.tmp 11) (
 .skip) (
 .exit 0)) (
 .seq (
 .block 1 (
 .ops [
 .p 12 .mv [(.tmp 5)],
 .p 13 .mv [(.tmp 0)],
 .callv (some 14) (.tmp 12) [(.tmp 13)],
 .p 0 .mv [(.tmp 14)]])) (
 .ops [
 .p 15 (.bin .add) [(.tmp 10), (.const (.int .i64 1))],
 .p 10 .mv [(.tmp 15)]]))))))) (
 .seq (
 .ops [
 .p 16 .mv [(.tmp 0)],
 .p 4 .mv [(.tmp 16)]]) (
 .ret)))))⟩

theorem Ru : trF Tryz.prog JB = some m_check_word_eight := by kernel_rfl
-- 203 (shardlog/check.word).bit; Ar [(0, w), (1, w)]
noncomputable def m_check_word_bit : MF := ⟨11, [.t 2],
 .seq (
 .ops [
 .p 2 .mv [(.const (.int .u32 0))]]) (
 .seq (
 .seq (
 .ops [
 .p 3 .mv [(.tmp 0)],
 .p 4 (.bin .and) [(.tmp 3), (.const (.int .u32 1))],
 .p 5 (.bin .eql) [(.tmp 4), (.const (.int .u32 1))]]) (
 .cond (.tmp 5) (
 .seq (
 .ops [
 .p 6 .mv [(.tmp 0)],
 .p 7 (.bin .shr) [(.tmp 6), (.const (.int .u64 1))],
 .p 8 (.bin .xor) [(.tmp 7), (.const (.int .u32 2197175160))],
 .p 2 .mv [(.tmp 8)]]) (
 .ret)) (
 .skip))) (
 .seq (
 .ops [
 .p 9 .mv [(.tmp 0)],
 .p 10 (.bin .shr) [(.tmp 9), (.const (.int .u64 1))],
 .p 2 .mv [(.tmp 10)]]) (
 .ret)))⟩

theorem Uz : trF Tryz.prog I5 = some m_check_word_bit := by kernel_rfl
end Go.Proofs.YtgpkbldlkadnjaaGreat
end
section
set_option maxHeartbeats 3000000
attribute [local irreducible] Go.Sl.Chk Go.Sl.Br Go.Sl.Or2 Go.Sl.Ld Go.Sl.Ldn Go.Sl.LdB Go.Sl.Stn Go.Sl.New Go.Sl.Run Go.Sl.Ec Go.Sl.D9 Go.Sl.Call Go.Sl.Cc Go.Sl.Ed Go.Sl.Alt Go.Sl.Om Go.Sl.xpk Go.Sl.EX Go.Sl.EY Go.Sl.DLd Go.Sl.ES Go.Sl.DBs Go.Sl.Bo Go.Sl.Et Go.Sl.Es Go.Sl.Dk Go.Sl.DGC Go.Sl.Dq Go.Sl.Fj Go.Sl.D8 Go.Sl.Ent Go.Sl.Bg Go.Sl.dv Go.Sl.ev Go.Sl.Am
namespace Go.Proofs.YtgpkbldlkadnjaaGreat
open Go Go.Sl Go.RowKit
abbrev cD (w : Nat) : D := .sc (.int .u32 (w : Int))
def Tu (w : Nat) : Nat := if w % 2 = 1 then (w / 2) ^^^ 2197175160 else w / 2
def ZU : Nat → Nat → Nat
 | 0, w => w
 | k + 1, w => ZU k (Tu w)
def JD (w : Nat) (b : UInt8) : Nat := ZU 8 (w ^^^ b.toNat)
def EU (b : Bs) : Nat := b.foldl JD 4294967295 ^^^ 4294967295
theorem KZ {a b : Nat} (ha : a < 4294967296) (hb : b < 4294967296) : a ^^^ b < 4294967296 := Nat.xor_lt_two_pow (n := 32) ha hb
theorem VF {w : Nat} (h : w < 4294967296) : Tu w < 4294967296 := by
 unfold Tu
 split
 ·exact KZ (by omega) (by omega)
 ·omega
theorem AeC : ∀ (k : Nat) {w : Nat}, w < 4294967296 → ZU k w < 4294967296
 | 0, _, h => h
 | k + 1, _, h => AeC k (VF h)
theorem LX {w : Nat} (b : UInt8) (h : w < 4294967296) : JD w b < 4294967296 := AeC 8 (KZ h (by have := b.toNat_lt; omega))
theorem ZK : ∀ (l : Bs) {w : Nat}, w < 4294967296 → l.foldl JD w < 4294967296
 | [], _, h => h
 | b :: l, _, h => ZK l (LX b h)
theorem Tq (b : Bs) : EU b < 4294967296 := KZ (ZK b (by omega)) (by omega)
theorem wrap32 {n : Nat} (h : n < 4294967296) : IntKind.u32.wrap (n : Int) = n := by
 simp only [IntKind.wrap, IntKind.bits, IntKind.signed]
 simp
 omega
theorem of32 {x : Nat} (h : x < 4294967296) : (BitVec.ofInt 32 (x : Int)).toNat = x := by
 rw [BitVec.toNat_ofInt]
 omega
theorem AdW {a b : Nat} (ha : a < 4294967296) (hb : b < 4294967296) : IntKind.u32.wrap ((BitVec.ofInt IntKind.u32.bits (a : Int) ^^^ BitVec.ofInt IntKind.u32.bits (b : Int)).toNat : Int) = ((a ^^^ b : Nat) : Int) := by
 show IntKind.u32.wrap ((BitVec.ofInt 32 (a : Int) ^^^ BitVec.ofInt 32 (b : Int)).toNat : Int) = _
 rw [BitVec.toNat_xor, of32 ha, of32 hb, wrap32 (KZ ha hb)]
theorem AaF {a : Nat} (ha : a < 4294967296) : IntKind.u32.wrap ((BitVec.ofInt IntKind.u32.bits (a : Int) ^^^ BitVec.ofInt IntKind.u32.bits 4294967295).toNat : Int) = ((a ^^^ 4294967295 : Nat) : Int) := AdW (b := 4294967295) ha (by omega)
theorem Yd {a : Nat} (ha : a < 4294967296) : IntKind.u32.wrap ((BitVec.ofInt IntKind.u32.bits (a : Int) ^^^ BitVec.ofInt IntKind.u32.bits 2197175160).toNat : Int) = ((a ^^^ 2197175160 : Nat) : Int) := AdW (b := 2197175160) ha (by omega)
theorem and32 {a : Nat} (ha : a < 4294967296) : IntKind.u32.wrap ((BitVec.ofInt IntKind.u32.bits (a : Int) &&& BitVec.ofInt IntKind.u32.bits 1).toNat : Int) = ((a % 2 : Nat) : Int) := by
 show IntKind.u32.wrap ((BitVec.ofInt 32 (a : Int) &&& BitVec.ofInt 32 ((1 : Nat) : Int)).toNat : Int) = _
 rw [BitVec.toNat_and, of32 ha, of32 (by omega), Nat.and_one_is_mod, wrap32 (by omega)]
theorem half32 {a : Nat} (ha : a < 4294967296) : IntKind.u32.wrap ((a : Int) / 2) = ((a / 2 : Nat) : Int) := by
 rw [show (a : Int) / 2 = ((a / 2 : Nat) : Int) by omega, wrap32 (by omega)]
theorem not32 {a : Nat} (ha : a < 4294967296) : IntKind.u32.wrap (4294967295 - (a : Int)) = ((a ^^^ 4294967295 : Nat) : Int) := by
 have h : a ^^^ 4294967295 = 4294967295 - a := by
  have h1 : (BitVec.ofNat 32 a ^^^ BitVec.allOnes 32).toNat = (~~~ (BitVec.ofNat 32 a)).toNat := by rw [BitVec.xor_allOnes]
  rw [BitVec.toNat_xor, BitVec.toNat_not, BitVec.toNat_ofNat, BitVec.toNat_allOnes, Nat.mod_eq_of_lt (by omega)] at h1
  simpa using h1
 rw [h, show (4294967295 : Int) - (a : Int) = ((4294967295 - a : Nat) : Int) by omega, wrap32 (by omega)]
theorem fdiv1 (a : Nat) : (a : Int).fdiv (2 ^ Nat.min 1 IntKind.u32.bits) = ((a / 2 : Nat) : Int) := by
 have h : ((2 : Int) ^ Nat.min 1 IntKind.u32.bits) = 2 := rfl
 rw [h, Int.fdiv_eq_ediv_of_nonneg _ (by omega)]
 omega
theorem bit_d (w : Nat) (h : w < 4294967296) : ED Tryz.prog I5 [cD w] (cD (Tu w)) := by
 intro nx
 refine A8 Uz (by simp only [m_check_word_bit, List.length]; decide) ?_
 rcases (by omega : w % 2 = 1 ∨ w % 2 = 0) with e | e
 ·simp only [m_check_word_bit]; refine WKX (And.intro @and32 @e) ?_; try with_reducible exact trivial
  rw [fdiv1, Yd (by omega)]
  exact Eb ⟨by rw [Tu, if_pos e], rfl⟩
 ·simp only [m_check_word_bit]; refine WKX (And.intro @and32 @e) ?_; try with_reducible exact trivial
  rw [fdiv1]
  exact Eb ⟨by rw [Tu, if_neg (by omega)], rfl⟩
theorem AiA (w : Nat) (b : UInt8) (h : w < 4294967296) : ED Tryz.prog JB [cD w, bD b] (cD (JD w b)) := by
 intro nx
 refine A8 Ru (by simp only [m_check_word_eight, List.length]; decide) ?_
 have hb := b.toNat_lt
 have hx : w ^^^ b.toNat < 4294967296 := KZ h (by omega)
 have e1 : IntKind.u32.wrap (b.toNat : Int) = b.toNat := wrap32 (by omega)
 have e2 := AdW (a := w) (b := b.toNat) h (by omega)
 simp -dsimp (disch := omega) only [↓MC.xwp, ↓Ce, ↓xdr, ↓MOp.xwp, dvs, dv, dvu, dvo, dvp, dgb, dGd, DX, cond_true, cond_false, Gf, Bg, CQ, Dp, DD, Du, ptr, bsc, cv, uo, uof, Bq, xpr, DL, EL, FM, FB, Gi, FT, Gj, xst, xgp, glc, F8, DV, FY, FZ, FW, FX, DU, FV, FN, FU, DN, DR, Cj, Dw, Fv, dsl, dif, BV, CP, BI, scs, rowOf, AU, dtk, DC, BJ, pev, Bl, Bv, Aq, Bz, psl, Ba, ↓DI, ↓CB, ↓FP, ↓Fq, Dz, FD, FC, Dj, BG, kp, Di, Dv, E9, Dt, FI, CZ, AQ, BB, nb, Fe, Cb, Bd, apart, Aj, Bc, heldOk, Op.operands, Nat.reduceAdd, forall_eq_or_imp, D.plain, reduceCtorEq, if_true, if_false, ↓reduceIte, ne_eq, Bool.cond_true, Bool.cond_false, forall_const, implies_true, forall_eq, Int.reduceEq, Int.reduceLT, Int.reduceLE, Int.reduceAdd, Int.reduceSub, Int.reduceMul, Int.reduceToNat, Nat.reduceMul, Nat.reduceLeDiff, Nat.reduceLT, Nat.reduceSub, Nat.reduceBEq, Nat.reduceEqDiff, CY, bytesD, iD, CU, AO, BC, bD, DB, m_check_word_eight, U8, e1, e2]
 refine GL [0, 5, 10] (fun s : Nat × Nat × Nat => ([(0, cD s.2.1), (5, .fn I5 [] []), (10, iD (s.1 : Nat))], [], s.2.2)) (fun s => s.1 ≤ 8 ∧ s.2.1 < 4294967296 ∧ ZU (8 - s.1) s.2.1 = JD w b) (fun s => 8 - s.1) (0, w ^^^ b.toNat, nx) ⟨by omega, hx, rfl⟩ (Ent.of (by with_unfolding_all rfl) rfl) ?_
 rintro ⟨k, v, n⟩ ⟨q1, q2, q3⟩
 dsimp only at q1 q2 q3 ⊢
 refine WK ?_; try with_reducible exact trivial
 refine brd (fun hlt => ?_) (fun hge => ?_)
 ·rw [show 8 - k = (8 - (k + 1)) + 1 by omega] at q3
  simp only [ZU] at q3
  refine WK ?_; try with_reducible exact trivial
  refine chk (by kernel_rfl) ?_
  refine CS (bit_d v q2) fun n1 h1 => ?_
  refine WK ?_; try with_reducible exact trivial
  exact ⟨(k + 1, Tu v, n1), ⟨by dsimp only; omega, VF q2, q3⟩, by dsimp only; omega, (Ent.of (by with_unfolding_all rfl) rfl)⟩
 ·refine WK ?_; try with_reducible exact trivial
  rw [show 8 - k = 0 by omega] at q3
  exact Eb ⟨by rw [← q3]; rfl, rfl⟩
theorem more_d (w : Nat) (b : Bs) (h : w < 4294967296) (hl : b.length ≤ 1000000000) : ED Tryz.prog OO [cD w, bytesD b] (cD (b.foldl JD (w ^^^ 4294967295) ^^^ 4294967295)) := by
 intro nx
 refine A8 Aag (by simp only [m_check_More, List.length]; decide) ?_
 have e2 := AaF h
 simp only [m_check_More]; refine WKX @e2 ?_; try with_reducible exact trivial
 refine GL [5, 10, 11, 12] (fun s : Nat × Nat × Nat => ([(5, cD s.2.1), (10, bytesD b), (11, iD (b.length : Nat)), (12, iD (s.1 : Nat))], [], s.2.2)) (fun s => s.1 ≤ b.length ∧ s.2.1 < 4294967296 ∧ (b.drop s.1).foldl JD s.2.1 = b.foldl JD (w ^^^ 4294967295)) (fun s => b.length - s.1) (0, w ^^^ 4294967295, nx) ⟨by omega, KZ h (by omega), rfl⟩ (Ent.of (by with_unfolding_all rfl) rfl) ?_
 rintro ⟨k, v, n⟩ ⟨q1, q2, q3⟩
 dsimp only at q1 q2 q3 ⊢
 refine WK ?_; try with_reducible exact trivial
 refine brd (fun hlt => ?_) (fun hge => ?_)
 ·have hkl : k < b.length := by omega
  rw [List.drop_eq_getElem_cons hkl, ← Ia hkl, List.foldl_cons] at q3
  refine WK ?_; try with_reducible exact trivial
  refine CS (AiA v (gt b k) q2) fun n1 h1 => ?_
  refine WK ?_; try with_reducible exact trivial
  exact ⟨(k + 1, JD v (gt b k), n1), ⟨by dsimp only; omega, LX _ q2, q3⟩, by dsimp only; omega, (Ent.of (by with_unfolding_all rfl) rfl)⟩
 ·rw [List.drop_of_length_le (by omega)] at q3
  refine WKX @AaF ?_; try with_reducible exact trivial
  exact Eb ⟨by rw [← q3]; rfl, rfl⟩
theorem sum_d (b : Bs) (hl : b.length ≤ 1000000000) : ED Tryz.prog PQ [bytesD b] (cD (EU b)) := by
 intro nx
 refine A8 Acx (by simp only [m_check_Sum, List.length]; decide) ?_
 simp only [m_check_Sum]; refine WK ?_; try with_reducible exact trivial
 refine CS (more_d 0 b (by omega) hl) fun n1 h1 => ?_
 refine WK ?_; try with_reducible exact trivial
 exact Eb ⟨by rw [Nat.zero_xor]; rfl, rfl⟩
theorem Ago (b : Bs) (hl : b.length ≤ 1000000000) : ED Tryz.prog Nl [bytesD b] (cD (EU b)) := by
 intro nx
 refine A8 Aco (by simp only [m_ref02_Sum, List.length]; decide) ?_
 simp only [m_ref02_Sum]; refine WK ?_; try with_reducible exact trivial
 refine GL [0, 3, 4] (fun s : Nat × Nat × Nat => ([(0, bytesD b), (3, cD s.2.1), (4, iD (s.1 : Nat))], [], s.2.2)) (fun s => s.1 ≤ b.length ∧ s.2.1 < 4294967296 ∧ (b.drop s.1).foldl JD s.2.1 = b.foldl JD 4294967295) (fun s => b.length - s.1) (0, 4294967295, nx) ⟨by omega, by dsimp only; omega, rfl⟩ (Ent.of (by with_unfolding_all rfl) rfl) ?_
 rintro ⟨k, v, n⟩ ⟨q1, q2, q3⟩
 dsimp only at q1 q2 q3 ⊢
 refine WK ?_; try with_reducible exact trivial
 refine brd (fun hlt => ?_) (fun hge => ?_)
 ·have hkl : k < b.length := by omega
  rw [List.drop_eq_getElem_cons hkl, ← Ia hkl, List.foldl_cons] at q3
  have hb := (gt b k).toNat_lt
  have hx : v ^^^ (gt b k).toNat < 4294967296 := KZ q2 (by omega)
  have e1 : IntKind.u32.wrap ((gt b k).toNat : Int) = (gt b k).toNat := wrap32 (by omega)
  have e2 := AdW (a := v) (b := (gt b k).toNat) q2 (by omega)
  simp -dsimp (disch := omega) only [↓MC.xwp, ↓Ce, ↓xdr, ↓MOp.xwp, dvs, dv, dvu, dvo, dvp, dgb, dGd, DX, cond_true, cond_false, Gf, Bg, CQ, Dp, DD, Du, ptr, bsc, cv, uo, uof, Bq, xpr, DL, EL, FM, FB, Gi, FT, Gj, xst, xgp, glc, F8, DV, FY, FZ, FW, FX, DU, FV, FN, FU, DN, DR, Cj, Dw, Fv, dsl, dif, BV, CP, BI, scs, rowOf, AU, dtk, DC, BJ, pev, Bl, Bv, Aq, Bz, psl, Ba, ↓DI, ↓CB, ↓FP, ↓Fq, Dz, FD, FC, Dj, BG, kp, Di, Dv, E9, Dt, FI, CZ, AQ, BB, nb, Fe, Cb, Bd, apart, Aj, Bc, heldOk, Op.operands, Nat.reduceAdd, forall_eq_or_imp, D.plain, reduceCtorEq, if_true, if_false, ↓reduceIte, ne_eq, Bool.cond_true, Bool.cond_false, forall_const, implies_true, forall_eq, Int.reduceEq, Int.reduceLT, Int.reduceLE, Int.reduceAdd, Int.reduceSub, Int.reduceMul, Int.reduceToNat, Nat.reduceMul, Nat.reduceLeDiff, Nat.reduceLT, Nat.reduceSub, Nat.reduceBEq, Nat.reduceEqDiff, CY, bytesD, iD, CU, AO, BC, bD, DB, U8, e1, e2]
  refine GL [0, 3, 4, 5] (fun s : Nat × Nat => ([(0, bytesD b), (3, cD s.2), (4, iD (k : Nat)), (5, iD (s.1 : Nat))], [], n)) (fun s => s.1 ≤ 8 ∧ s.2 < 4294967296 ∧ ZU (8 - s.1) s.2 = JD v (gt b k)) (fun s => 8 - s.1) (0, v ^^^ (gt b k).toNat) ⟨by omega, hx, rfl⟩ (Ent.of (by with_unfolding_all rfl) rfl) ?_
  rintro ⟨j, u⟩ ⟨p1, p2, p3⟩
  dsimp only at p1 p2 p3 ⊢
  refine WK ?_; try with_reducible exact trivial
  refine brd (fun hlt2 => ?_) (fun hge2 => ?_)
  ·have hj : 8 - j = (8 - (j + 1)) + 1 := by omega
   rw [hj] at p3
   simp only [ZU] at p3
   have hu := half32 p2
   have hu2 : IntKind.u32.wrap ((u / 2 : Nat) : Int) = ((u / 2 : Nat) : Int) := wrap32 (by omega)
   rcases (by omega : u % 2 = 1 ∨ u % 2 = 0) with e | e
   ·refine WKX (And.intro @hu @hu2) ?_; try with_reducible exact trivial
    rw [Yd (by omega)]
    have hc : Tu u = (u / 2) ^^^ 2197175160 := by rw [Tu, if_pos e]
    rw [hc] at p3
    exact ⟨(j + 1, (u / 2) ^^^ 2197175160), ⟨by dsimp only; omega, KZ (by omega) (by omega), p3⟩, by dsimp only; omega, (Ent.of (by with_unfolding_all rfl) rfl)⟩
   ·refine WKX (And.intro @hu @hu2) ?_; try with_reducible exact trivial
    have hc : Tu u = u / 2 := by rw [Tu, if_neg (by omega)]
    rw [hc] at p3
    exact ⟨(j + 1, u / 2), ⟨by dsimp only; omega, by dsimp only; omega, p3⟩, by dsimp only; omega, (Ent.of (by with_unfolding_all rfl) rfl)⟩
  ·refine WK ?_; try with_reducible exact trivial
   rw [show 8 - j = 0 by omega] at p3
   exact ⟨(k + 1, u, n), ⟨by dsimp only; omega, p2, by dsimp only; rw [show u = JD v (gt b k) from p3]; exact q3⟩, by dsimp only; omega, (Ent.of (by with_unfolding_all rfl) rfl)⟩
 ·rw [List.drop_of_length_le (by omega)] at q3
  refine WKX @not32 ?_; try with_reducible exact trivial
  exact Eb ⟨by rw [EU, ← q3]; rfl, rfl⟩
def EN (rec : Bs) : Bs := BX rec.length ++ (BX (EU (BX rec.length)) ++ (BX (EU rec) ++ rec))
theorem Kv (rec : Bs) : (EN rec).length = rec.length + 12 := by
 simp only [EN, List.length_append, Ai]
 omega
theorem fsum_o (b : Bs) (hl : b.length ≤ 1000000000) : MW Tryz.prog IM [bytesD b] (fun i => .h i) (Ak (BX (EU b))) := by
 intro nx
 refine A8 Acs (by simp only [m_frame_sum, List.length]; decide) ?_
 have hs := Tq b
 simp only [m_frame_sum]; refine WK ?_; try with_reducible exact trivial
 refine CS (sum_d b hl) fun n1 h1 => ?_
 refine WK ?_; try with_reducible exact trivial
 refine QC (Aek (EU b) hs) fun i n2 h2 h3 => ?_
 refine WK ?_; try with_reducible exact trivial
 refine Ij [i] (t := .mk _) ?_
 refine WKR ?_; try with_reducible exact trivial
 exact C9 ⟨i, by omega, h3, rfl, rfl⟩
theorem ZJ (b : Bs) (hl : b.length ≤ 1000000000) : ED Tryz.prog IM [bytesD b] (bytesD (BX (EU b))) :=
 (fsum_o b hl).fn (Df _).1 (by rw [(Df _).2])
theorem fput_d (rec : Bs) (hl : rec.length ≤ 65535) : ED Tryz.prog PO [bytesD rec] (bytesD (EN rec)) := by
 intro nx
 refine A8 Acu (by simp only [m_frame_Put, List.length]; decide) ?_
 simp only [m_frame_Put]; refine WK ?_; try with_reducible exact trivial
 refine CS (num_d rec.length (by omega)) fun n1 h1 => ?_
 refine WK ?_; try with_reducible exact trivial
 refine CS (ZJ (BX rec.length) (by rw [Ai]; omega)) fun n2 h2 => ?_
 refine WK ?_; try with_reducible exact trivial
 refine CS (ZJ rec (by omega)) fun n3 h3 => ?_
 refine WK ?_; try with_reducible exact trivial
 refine Gt n3 (t' := .mk _) (Aa _ _ _) (by simp [D.plain]) List.not_mem_nil ?_
 rw [AV]
 simp only [List.map_cons, List.map_nil, Du, Aa]
 have hb := Kv rec
 refine CS (Xo [BX rec.length, BX (EU (BX rec.length)), BX (EU rec), rec] (by simp) (by simp only [List.flatten_cons, List.flatten_nil, List.append_nil, List.length_append, Ai]; omega)) fun n4 h4 => ?_
 refine WK ?_; try with_reducible exact trivial
 exact Eb ⟨by simp only [List.flatten_cons, List.flatten_nil, List.append_nil, EN], rfl⟩
theorem Io {X : Prop} {Y : D → Prop} {t : Tag X} {u : BQ Y} (d : D) (h : Y (.opt false d)) : DGC false X Y t u := by
 unfold DGC
 exact ⟨fun h => (by cases h), fun _ => ⟨d, h⟩⟩
def NI (b : Bs) : Option (Bs × Bs) :=
 if b.length < 12 then none else if 65535 < EK b then none else if b.length - 12 < EK b then none else
 if b.take 12 = b.take 4 ++ (BX (EU (b.take 4)) ++ BX (EU ((b.drop 12).take (EK b)))) then some ((b.drop 12).take (EK b), (b.drop 12).drop (EK b)) else none
def cutD : Option (Bs × Bs) → D
 | none => .tup [bytesD [], bytesD [], AO false]
 | some p => .tup [bytesD p.1, bytesD p.2, AO true]
theorem Ad7 (b : Bs) (k : Nat) : D.sl (b.length - k) (List.take (b.length - k) (List.drop k (b.map bD))) = bytesD (b.drop k) := by
 rw [← List.map_drop, List.take_of_length_le (by simp)]
 simp
theorem Vr (b : Bs) (k : Nat) (h : k ≤ b.length) : D.sl k (List.take k (b.map bD)) = bytesD (b.take k) := by
 simp only [bytesD, List.length_take, Nat.min_eq_left h, List.map_take]
set_option maxRecDepth 100000 in
theorem fcut_d (b : Bs) (hl : b.length ≤ 1000000) : ED Tryz.prog PP [bytesD b] (cutD (NI b)) := by
 intro nx
 refine A8 Acv (by simp only [m_frame_Cut, List.length]; decide) ?_
 rcases Nat.lt_or_ge b.length 12 with h | h
 ·simp only [m_frame_Cut]; refine WK ?_; try with_reducible exact trivial
  refine Gh (t' := .mk _) ?_
  exact C9 ⟨by rw [NI, if_pos h]; rfl, rfl⟩
 ·have hn := Abp b
  have hd : (b.drop 12).length = b.length - 12 := by simp
  simp only [m_frame_Cut]; refine WK ?_; try with_reducible exact trivial
  refine CS (Xk b (by omega)) fun n1 h1 => ?_
  rw [if_neg (by omega)]
  refine WK ?_; try with_reducible exact trivial
  rw [Ad7]
  refine CS (AeD (b.drop 12) (by omega)) fun n2 h2 => ?_
  rcases (by omega : (65535 < EK b ∨ b.length - 12 < EK b) ∨ (EK b ≤ 65535 ∧ EK b ≤ b.length - 12)) with h5 | ⟨h5, h6⟩
  ·have hc : NI b = none := by
    rcases h5 with h5 | h5
    ·rw [NI, if_neg (by omega), if_pos h5]
    ·rw [NI, if_neg (by omega)]
     split
     ·rfl
     ·simp [h5]
   rw [hc]
   rcases Nat.lt_or_ge 65535 (EK b) with h6 | h6
   ·refine WKX @hd ?_; try with_reducible exact trivial
    refine Io (bytesD []) ?_
    refine WKX @hd ?_; try with_reducible exact trivial
    refine Io (bytesD []) ?_
    refine WKX @hd ?_; try with_reducible exact trivial
    refine Io (bytesD []) ?_
    refine WKX @hd ?_; try with_reducible exact trivial
    refine Io (AO true) ?_
    refine WKX @hd ?_; try with_reducible exact trivial
    refine Gh (t' := .mk _) ?_
    exact C9 ⟨rfl, rfl⟩
   ·refine WKX @hd ?_; try with_reducible exact trivial
    refine Io (bytesD []) ?_
    refine WKX @hd ?_; try with_reducible exact trivial
    refine Io (bytesD []) ?_
    refine WKX @hd ?_; try with_reducible exact trivial
    refine Io (bytesD []) ?_
    refine WKX @hd ?_; try with_reducible exact trivial
    refine Io (AO true) ?_
    refine WKX @hd ?_; try with_reducible exact trivial
    refine Gh (t' := .mk _) ?_
    exact C9 ⟨rfl, rfl⟩
  ·refine WKX @hd ?_; try with_reducible exact trivial
   rw [Vr b 4 (by omega)]
   refine CS (ZJ (b.take 4) (by rw [List.length_take]; omega)) fun n3 h7 => ?_
   refine WKX @hd ?_; try with_reducible exact trivial
   rw [Vr (b.drop 12) (EK b) (by omega)]
   refine CS (ZJ ((b.drop 12).take (EK b)) (by rw [List.length_take]; omega)) fun n4 h8 => ?_
   refine WKX @hd ?_; try with_reducible exact trivial
   refine Gt n4 (t' := .mk _) (Aa _ _ _) (by simp [D.plain]) (by simp only [List.mem_cons, List.not_mem_nil, or_false, not_false_eq_true]; try omega) ?_
   rw [AV]
   simp only [List.map_cons, List.map_nil, Du, Aa]
   refine CS (Xo [b.take 4, BX (EU (b.take 4)), BX (EU ((b.drop 12).take (EK b)))] (by simp) (by simp only [List.flatten_cons, List.flatten_nil, List.append_nil, List.length_append, Ai, List.length_take]; omega)) fun n5 h9 => ?_
   refine WKX @hd ?_; try with_reducible exact trivial
   rw [Vr b 12 (by omega), show [b.take 4, BX (EU (b.take 4)), BX (EU ((b.drop 12).take (EK b)))].flatten = b.take 4 ++ (BX (EU (b.take 4)) ++ BX (EU ((b.drop 12).take (EK b)))) by simp]
   refine CS (ZO (b.take 12) _ (by rw [List.length_take]; omega)) fun n6 h10 => ?_
   have hc : NI b = if b.take 12 = b.take 4 ++ (BX (EU (b.take 4)) ++ BX (EU ((b.drop 12).take (EK b)))) then some ((b.drop 12).take (EK b), (b.drop 12).drop (EK b)) else none := by
    rw [NI, if_neg (by omega), if_neg (by omega), if_neg (by omega)]
   rw [hc]
   rcases Decidable.em (b.take 12 = b.take 4 ++ (BX (EU (b.take 4)) ++ BX (EU ((b.drop 12).take (EK b))))) with e | e
   ·rw [decide_eq_true e, if_pos e]
    refine WKX @hd ?_; try with_reducible exact trivial
    rw [← hd, Ad7 (b.drop 12) (EK b), Vr (b.drop 12) (EK b) (by omega)]
    exact Eb ⟨rfl, rfl⟩
   ·rw [decide_eq_false e, if_neg e]
    refine WKX @hd ?_; try with_reducible exact trivial
    refine Gh (t' := .mk _) ?_
    exact Eb ⟨rfl, rfl⟩
theorem AfI {i nx : Nat} {held : List Nat} {r : Ad} {K : D → Ad → Nat → Prop} {tg : BQ K} (L : LL) (b : Bs) (j : Nat) (hne : j ≠ i) (hg : BL r i = some (.row Au 1 L.length (L.map bytesD))) (hj : BL r j = some (.row Au 1 1 [bytesD b])) (hl : L.length ≤ 2000000) (hh : i ∉ held)
  (k : K (.h nx) ((nx, .row Au 1 (L ++ [b]).length ((L ++ [b]).map bytesD)) :: GY r i) (nx + 1)) : Et Tryz.prog #[Ep, Ep] Ep (.h i) (.h j) held r nx K tg :=
 NH (i := i) (m := 1) (l' := [bytesD b]) elM (l := L.map bytesD) (n := L.length) hg (Jo.row hj (by simp [D.plain])) rfl (by simp [BJ]) (by omega) (by omega) hh (by
  have e1 : (L ++ [b]).length = L.length + 1 := by simp
  have e2 : (L ++ [b]).map bytesD = L.map bytesD ++ [bytesD b] := by simp
  rw [← e1, ← e2]; exact k)
theorem Ab7 {b : Bs} {p : Bs × Bs} (h : NI b = some p) : p.1.length + p.2.length + 12 = b.length ∧ p.1.length ≤ 65535 := by
 unfold NI at h
 split at h
 ·cases h
 ·split at h
  ·cases h
  ·split at h
   ·cases h
   ·split at h
    ·cases h
     simp only [List.length_take, List.length_drop]
     omega
    ·cases h
end Go.Proofs.YtgpkbldlkadnjaaGreat
end
section
namespace Go.Sl
open Go.RowKit
open Go.Maps (Keyed)
open Go.ChangeMaps (setBlock heap_setBlock_same heap_setBlock_other)
section
variable {E : En} {w w' : World} {Z Z' : Nat → Prop} {T T' : Nat → Option Value} {F : Nat → Nat} {r : Ad} {nx : Nat}
variable {P : Program} {held : List Nat} {e e' : Env} {de : DEnv} {K : D → Ad → Nat → Prop}
theorem Ahj {t : TypeId} {dst : Option Nat} {ty : TypeId} {pos : String} {af : Array Edge} {gu} {tg : BQ K} (k : K (.h nx) ((nx, .mp [] []) :: r) (nx + 1)) :
  Es P ⟨dst, .makeMap t none, ty, pos, af, gu⟩ de held r nx K tg := by
 intro E w Z T F en h he
 refine ⟨by simp [Op.operands, known], ?_⟩
 obtain ⟨o1, o2⟩ := h.alloc (held := held) (w' := w.alloc (.map #[] 0)) (o := .map #[] 0) (v := .map (some w.heap.size)) (d := .mp [] []) (by simp) (Fr.alloc w _) rfl rfl (by
  simp only [Ro]
  exact ⟨w.heap.size, [], fun _ => 0, rfl, ⟨_, _, Mp.made (heap_alloc_new w _)⟩, by simp only [RoL]; exact ⟨trivial, fun _ => trivial⟩, fun b => by simp⟩)
 exact .inl ⟨.map (some w.heap.size), w.alloc (.map #[] 0), by simp only [execOp, Option.map_none, Sem.run_bind, run_makeMap, Result.andThen_ok, Sem.run_pure], _, _, _, _, _, _, o1, o2, by simp only [Rs]; exact BR _ _ _, k⟩
theorem Ok.map (h : Ok E w Z T F r nx) {i : Nat} {ks : List Value} {l : List D} (hg : BL r i = some (.mp ks l)) : ∃ b us es clock G F2, T i = some (.map (some b)) ∧ Mp w b ks us es clock ∧ RoL w Z T l us G ∧ (∀ c, F c = G c + own (.map (some b)) c + F2 c) ∧ RL w Z T (GY r i) F2 := by
 obtain ⟨v, F1, F2, h1, h2, h3, h4, _⟩ := h.roots.get hg
 simp only [Ro] at h2
 obtain ⟨b, us, G, rfl, ⟨es, c, hm⟩, h5, h6⟩ := h2
 exact ⟨b, us, es, c, G, F2, h1, hm, h5, fun x => by rw [h3, h6], h4⟩
theorem AbU {t kt et : TypeId} {m x : Operand} {ok : Bool} {dst : Option Nat} {ty : TypeId} {pos : String} {af : Array Edge} {gu} {tg : BQ K} {i j : Nat} {ks : List Value} {l : List D} {key : Value} {kl : Lit} {d : D}
  (hm : dv de r m = some (.h i)) (hx : dv de r x = some (.sc key)) (hg : BL r i = some (.mp ks l)) (Kd : Keyed P kt) (ht : P.underlying t = some (.map kt et)) (hkey : keyOf P kt key = some kl) (hks : ∀ x ∈ ks, ∃ l, keyOf P kt x = some l)
  (hj : ks[j]? = some key) (hd : l[j]? = some d) (hp : d.plain) (k : K (if ok then .tup [d, .sc (.bool true)] else d) r nx) : Es P ⟨dst, .lookup t m x ok, ty, pos, af, gu⟩ de held r nx K tg := by
 intro E w Z T F en h he
 obtain ⟨v1, hv1, hr1⟩ := FQ h.roots he hm
 obtain ⟨v2, hv2, hr2⟩ := FQ h.roots he hx
 simp only [Rs] at hr1 hr2
 subst hr2
 obtain ⟨b, us, es, clock, G, F2, h1, h2, h3, h4, h5⟩ := h.map hg
 rw [h1] at hr1
 cases hr1
 obtain ⟨u, F3, F4, hu, hru, _⟩ := h3.get hd
 have hrs := (Ro.rs hp hru).1
 refine ⟨by simp [Op.operands, known, hv1, hv2], ?_⟩
 refine .inl ⟨if ok = true then .tuple #[u, .bool true] else u, w, by simp only [execOp, rho, hv1, hv2, Option.getD_some, Sem.run_bind, h2.look_at Kd ht hkey hks hj hu ok, Result.andThen_ok, Sem.run_pure], _, _, _, _, _, _, h, Grow.refl _ _ _ _ _, ?_, k⟩
 cases ok
 ·exact hrs
 ·simp only [if_true, Rs]
  exact ⟨[u, .bool true], rfl, by simp only [RsL]; exact ⟨u, _, rfl, hrs, _, _, rfl, by simp only [Rs], rfl⟩⟩
theorem MP {t kt et : TypeId} {m x : Operand} {ok : Bool} {dst : Option Nat} {ty : TypeId} {pos : String} {af : Array Edge} {gu} {tg : BQ K} {i : Nat} {ks : List Value} {l : List D} {key z : Value} {kl : Lit}
  (hm : dv de r m = some (.h i)) (hx : dv de r x = some (.sc key)) (hg : BL r i = some (.mp ks l)) (Kd : Keyed P kt) (ht : P.underlying t = some (.map kt et)) (hz : ∀ w, (zeroValue et).run P w = .ok z w) (hkey : keyOf P kt key = some kl) (hks : ∀ x ∈ ks, ∃ l, keyOf P kt x = some l)
  (hn : key ∉ ks) (k : K (if ok then .tup [cv z, .sc (.bool false)] else cv z) r nx) : Es P ⟨dst, .lookup t m x ok, ty, pos, af, gu⟩ de held r nx K tg := by
 intro E w Z T F en h he
 obtain ⟨v1, hv1, hr1⟩ := FQ h.roots he hm
 obtain ⟨v2, hv2, hr2⟩ := FQ h.roots he hx
 simp only [Rs] at hr1 hr2
 subst hr2
 obtain ⟨b, us, es, clock, G, F2, h1, h2, h3, h4, h5⟩ := h.map hg
 rw [h1] at hr1
 cases hr1
 refine ⟨by simp [Op.operands, known, hv1, hv2], ?_⟩
 refine .inl ⟨if ok = true then .tuple #[z, .bool false] else z, w, by simp only [execOp, rho, hv1, hv2, Option.getD_some, Sem.run_bind, h2.look_no Kd ht (hz w) hkey hks hn ok, Result.andThen_ok, Sem.run_pure], _, _, _, _, _, _, h, Grow.refl _ _ _ _ _, ?_, k⟩
 cases ok
 ·exact AeB _ _ _ _
 ·simp only [if_true, Rs]
  exact ⟨[z, .bool false], rfl, by simp only [RsL]; exact ⟨z, _, rfl, AeB _ _ _ _, _, _, rfl, by simp only [Rs], rfl⟩⟩
theorem Ok.mapset (h : Ok E w Z T F r nx) {i : Nat} {ks : List Value} {l : List D} (hg : BL r i = some (.mp ks l)) (hh : i ∉ held) : ∃ b us es clock G, T i = some (.map (some b)) ∧ Mp w b ks us es clock ∧ RoL w Z T l us G ∧
  ∀ (es' : Array MapEntry) (c' : Nat) (ks' us' : List Value) (l' : List D) (G' : Nat → Nat), (∀ w', w'.heap[b]? = some (.map es' c') → Mp w' b ks' us' es' c') → RoL w Z T l' us' G' → (∀ c, G' c ≤ G c) →
   ∃ F', Ok E (setBlock w b (.map es' c')) Z T F' (EI r i (.mp ks' l')) nx ∧ Grow r w Z T (setBlock w b (.map es' c')) Z T held := by
 obtain ⟨v, F1, F2, h1, h2, h3, h4, h5⟩ := h.roots.get hg
 simp only [Ro] at h2
 obtain ⟨b, us, G, rfl, ⟨es, c, hm⟩, h6, h7⟩ := h2
 refine ⟨b, us, es, c, G, h1, hm, h6, fun es' c' ks' us' l' G' hmp hro hle => ?_⟩
 have hown : own (.map (some b)) b = 1 := by simp [own, blk]
 have hone : F b ≤ 1 := h.one b
 have hGb : G b = 0 ∧ F2 b = 0 := by have := h3 b; have := h7 b; omega
 have hzb : ∀ x, Z x → x ≠ b := fun x hx e => by
  have := (h.zlt x hx).2
  have := h3 x; have := h7 x
  subst e
  omega
 have hother : ∀ x, x ≠ b → (setBlock w b (.map es' c')).heap[x]? = w.heap[x]? := fun x hx => heap_setBlock_other hm.at_ _ hx
 have hfr : Fr (· = b) w (setBlock w b (.map es' c')) := ⟨rfl, rfl, rfl, by simp [setBlock], fun x _ hx => hother x hx⟩
 have hro' : RoL (setBlock w b (.map es' c')) Z T l' us' G' := RoL.keep (fun _ h => h) (fun _ _ h => h) l' us' G' (fun x hx => hother x (by
  rcases hx with hx | hx
  ·intro e; subst e; have := hle x; omega
  ·exact hzb x hx)) hro
 have hd' : Ro (setBlock w b (.map es' c')) Z T (.mp ks' l') (.map (some b)) (fun x => G' x + own (.map (some b)) x) := by
  simp only [Ro]
  exact ⟨b, us', G', rfl, ⟨es', c', hmp _ (heap_setBlock_same hm.at_ _)⟩, hro', fun _ => rfl⟩
 have hrl := h5 (setBlock w b (.map es' c')) Z T (.mp ks' l') (.map (some b)) _ (fun x hx => hother x (by
  rcases hx with hx | hx
  ·intro e; subst e; omega
  ·exact hzb x hx)) (fun _ h => h) (fun _ _ h => h) h1 hd'
 obtain ⟨o1, o2⟩ := h.write (d' := .mp ks' l') h1 (b0 := b) rfl h3 (F1' := fun x => G' x + own (.map (some b)) x) (fun x => by have := h7 x; have := hle x; omega) (by have := h7 b; omega) hfr hrl hh h4
 exact ⟨_, o1, o2⟩
variable {KU : Ad → Nat → Prop}
theorem Q8 {t kt et : TypeId} {m x v : Operand} {dst : Option Nat} {ty : TypeId} {pos : String} {af : Array Edge} {gu} {tg : BQ KU} {i : Nat} {ks : List Value} {l : List D} {key : Value} {kl : Lit} {d : D}
  (hm : dv de r m = some (.h i)) (hx : dv de r x = some (.sc key)) (hv : dv de r v = some d) (hg : BL r i = some (.mp ks l)) (Kd : Keyed P kt) (ht : P.underlying t = some (.map kt et)) (hkey : keyOf P kt key = some kl) (hks : ∀ x ∈ ks, ∃ l, keyOf P kt x = some l)
  (hn : key ∉ ks) (hp : d.plain) (hh : i ∉ held) (k : KU (EI r i (.mp (ks ++ [key]) (l ++ [d]))) nx) : Dk P ⟨dst, .mapUpdate t m x v, ty, pos, af, gu⟩ de held r nx KU tg := by
 intro E w Z T F en h he
 obtain ⟨v1, hv1, hr1⟩ := FQ h.roots he hm
 obtain ⟨v2, hv2, hr2⟩ := FQ h.roots he hx
 obtain ⟨v3, hv3, hr3⟩ := FQ h.roots he hv
 simp only [Rs] at hr1 hr2
 subst hr2
 obtain ⟨b, us, es, clock, G, h1, h2, h3, put⟩ := h.mapset (held := held) hg hh
 rw [h1] at hr1
 cases hr1
 obtain ⟨es', c', hrun, hmp⟩ := h2.put_no Kd ht hkey hks hn v3
 obtain ⟨F', o1, o2⟩ := put es' c' _ _ (l ++ [d]) G hmp (by
  have := RoL.append h3 (RoL.of (l := [d]) (us := [v3]) (by simp only [RsL]; exact ⟨v3, _, rfl, hr3, rfl⟩))
  simpa using this) (fun _ => Nat.le_refl _)
 refine ⟨by simp [Op.operands, known, hv1, hv2, hv3], _, ?_, _, _, _, _, _, o1, o2, k⟩
 simp only [execOp, rho, hv1, hv2, hv3, Option.getD_some, Sem.run_bind, hrun, Result.andThen_ok, Sem.run_pure]
theorem AdA {t kt et : TypeId} {m x v : Operand} {dst : Option Nat} {ty : TypeId} {pos : String} {af : Array Edge} {gu} {tg : BQ KU} {i j : Nat} {ks : List Value} {l : List D} {key : Value} {kl : Lit} {d d0 : D}
  (hm : dv de r m = some (.h i)) (hx : dv de r x = some (.sc key)) (hv : dv de r v = some d) (hg : BL r i = some (.mp ks l)) (Kd : Keyed P kt) (ht : P.underlying t = some (.map kt et)) (hkey : keyOf P kt key = some kl) (hks : ∀ x ∈ ks, ∃ l, keyOf P kt x = some l)
  (hj : ks[j]? = some key) (hd0 : l[j]? = some d0) (hp : d.plain) (hh : i ∉ held) (k : KU (EI r i (.mp ks (l.set j d))) nx) : Dk P ⟨dst, .mapUpdate t m x v, ty, pos, af, gu⟩ de held r nx KU tg := by
 intro E w Z T F en h he
 obtain ⟨v1, hv1, hr1⟩ := FQ h.roots he hm
 obtain ⟨v2, hv2, hr2⟩ := FQ h.roots he hx
 obtain ⟨v3, hv3, hr3⟩ := FQ h.roots he hv
 simp only [Rs] at hr1 hr2
 subst hr2
 obtain ⟨b, us, es, clock, G, h1, h2, h3, put⟩ := h.mapset (held := held) hg hh
 rw [h1] at hr1
 cases hr1
 obtain ⟨u, F3, F4, hu, hru, hG, hset⟩ := h3.get hd0
 obtain ⟨es', c', hrun, hmp⟩ := h2.put_at Kd ht hkey hks hj hu v3
 obtain ⟨F', o1, o2⟩ := put es' c' _ _ (l.set j d) _ hmp (hset d v3 _ (Ro.of hr3)) (fun c => by have := hG c; omega)
 refine ⟨by simp [Op.operands, known, hv1, hv2, hv3], _, ?_, _, _, _, _, _, o1, o2, k⟩
 simp only [execOp, rho, hv1, hv2, hv3, Option.getD_some, Sem.run_bind, hrun, Result.andThen_ok, Sem.run_pure]
end
end Go.Sl
end
section
namespace Go.Sl
open Go.RowKit
open Go.Maps (Keyed)
section
variable {E : En} {w w' : World} {Z Z' : Nat → Prop} {T T' : Nat → Option Value} {F : Nat → Nat} {r : Ad} {nx : Nat}
variable {P : Program} {held : List Nat} {e e' : Env} {de : DEnv} {K : D → Ad → Nat → Prop}
theorem Yr (hr : RL w Z T r F) {i j : Nat} {ks : List Value} {l : List D} {x : D} (hg : BL r i = some (.mp ks l)) (hx : l[j]? = some x) :
  ∃ b us es clock u Fx, T i = some (.map (some b)) ∧ Mp w b ks us es clock ∧ us[j]? = some u ∧ Ro w Z T x u Fx ∧
   ∀ d', Rs w Z T d' u → T nx = some u → RL w Z T ((nx, x) :: EI r i (.mp ks (l.set j d'))) F := by
 obtain ⟨v, F1, F2, h1, h2, h3, h4, h5⟩ := hr.get hg
 simp only [Ro] at h2
 obtain ⟨b, us, G, rfl, ⟨es, clock, hm⟩, h6, h7⟩ := h2
 obtain ⟨u, Fa, Fb, g1, g2, g3, g4⟩ := h6.get hx
 refine ⟨b, us, es, clock, u, Fa, h1, hm, g1, g2, fun d' hd' ht => ?_⟩
 have hro : Ro w Z T (.mp ks (l.set j d')) (.map (some b)) (fun c => (0 + Fb c) + own (.map (some b)) c) := by
  simp only [Ro]
  refine ⟨b, us, fun c => 0 + Fb c, rfl, ⟨es, clock, hm⟩, ?_, fun c => rfl⟩
  have := g4 d' u (fun _ => 0) (Ro.of hd')
  rw [Gm g1] at this
  exact this
 have := h5 w Z T _ _ _ (fun _ _ => rfl) (fun _ h => h) (fun _ _ h => h) h1 hro
 exact ⟨u, Fa, _, ht, g2, this, fun y => by
  have e1 := h3 y
  have e2 := h7 y
  have e3 := g3 y
  show F y = Fa y + (0 + Fb y + own _ y + F2 y)
  omega⟩
theorem JI {t kt et : TypeId} {m x : Operand} {ok : Bool} {dst : Option Nat} {ty : TypeId} {pos : String} {af : Array Edge} {gu} {tg : BQ K} {i j : Nat} {ks : List Value} {l : List D} {key : Value} {kl : Lit} {eb : TypeId} {lc : List D}
  (hm : dv de r m = some (.h i)) (hx : dv de r x = some (.sc key)) (hg : BL r i = some (.mp ks l)) (Kd : Keyed P kt) (ht : P.underlying t = some (.map kt et)) (hkey : keyOf P kt key = some kl) (hks : ∀ x ∈ ks, ∃ l, keyOf P kt x = some l)
  (hj : ks[j]? = some key) (hd : l[j]? = some (.box eb lc)) (k : K (if ok then .tup [.hp nx 0, .sc (.bool true)] else .hp nx 0) ((nx, .box eb lc) :: EI r i (.mp ks (l.set j (.hp nx 0)))) (nx + 1)) : Es P ⟨dst, .lookup t m x ok, ty, pos, af, gu⟩ de held r nx K tg := by
 intro E w Z T F en h he
 obtain ⟨v1, hv1, hr1⟩ := FQ h.roots he hm
 obtain ⟨v2, hv2, hr2⟩ := FQ h.roots he hx
 simp only [Rs] at hr1 hr2
 subst hr2
 obtain ⟨b, us, es, clock, u, Fx, h1, h2, hu, hru, _⟩ := Yr (nx := nx) h.roots hg hd
 rw [h1] at hr1
 cases hr1
 have hone := LP hru (.inl ⟨_, _, rfl⟩)
 have hT := FO (v := u) (h.t nx (Nat.le_refl _))
 have hr' : RL w Z (F9 T nx u) r F := h.roots.keep (fun _ h => h) hT (fun _ _ => rfl)
 obtain ⟨b', us', es', clock', u', Fx', k1, k2, ku, kru, kk⟩ := Yr (nx := nx) hr' hg hd
 rw [hT i _ h1] at k1
 cases k1
 have hus : us' = us := by rw [← k2.val, ← h2.val]; have := k2.at_.symm.trans h2.at_; cases this; rfl
 subst hus
 rw [hu] at ku
 cases ku
 have hrs : Rs w Z (F9 T nx u) (.hp nx 0) u := by
  simp only [Ro] at hru
  obtain ⟨b2, us2, F2', rfl, _⟩ := hru
  simp only [Rs]
  exact ⟨_, b2, BR _ _ _, rfl, rfl⟩
 obtain ⟨o1, o2⟩ := h.name (held := held) hone (fun _ => rfl) (kk (.hp nx 0) hrs (BR _ _ _))
 refine ⟨by simp [Op.operands, known, hv1, hv2], ?_⟩
 refine .inl ⟨if ok = true then .tuple #[u, .bool true] else u, w, by simp only [execOp, rho, hv1, hv2, Option.getD_some, Sem.run_bind, h2.look_at Kd ht hkey hks hj hu ok, Result.andThen_ok, Sem.run_pure], _, _, _, _, _, _, o1, o2, ?_, k⟩
 cases ok
 ·exact hrs
 ·simp only [if_true, Rs]
  simp only [Rs] at hrs
  exact ⟨[u, .bool true], rfl, by simp only [RsL]; exact ⟨u, _, rfl, by simp only [Rs]; exact hrs, _, _, rfl, by simp only [Rs], rfl⟩⟩
theorem RT.drop (p off : Nat) {c d : D} {l : List D} (hp : BL r p = some c) (hk : kids c = some l) (hl : l[off]? = some d) : RT r (EI r p (Dx c (l.set off .dead))) := fun E w Z T F nx h => by
 obtain ⟨u, G1, G2, g1, g2, g3, g4, g5⟩ := h.roots.get hp
 obtain ⟨us, K1, K2, k1, k2, k3⟩ := g2.kid hk
 obtain ⟨x, X1, X2, x1, x2, x3, x4⟩ := k1.get hl
 have hset : us.set off x = us := by
  obtain ⟨hlt, he⟩ := List.getElem?_eq_some_iff.1 x1
  rw [← he]
  exact List.set_getElem_self hlt
 have hro := k3 (l.set off .dead) _ (by have := x4 .dead x (fun _ => 0) (Ro.of (by simp only [Rs])); rw [hset] at this; exact this)
 have hrl := g5 w Z T _ u _ (fun _ _ => rfl) (fun _ h => h) (fun _ _ h => h) g1 hro
 refine ⟨Z, _, h.swapR (fun _ h => h) (fun b hb => .inl hb) (fun b => ?_) (fun b hb => ?_) hrl, fun _ h => h⟩
 ·have := g3 b; have := k2 b; have := x3 b
  show 0 + X2 b + K2 b + G2 b ≤ F b
  omega
 ·have := (h.zlt b hb).2; have := g3 b; have := k2 b; have := x3 b
  show 0 + X2 b + K2 b + G2 b = 0
  omega
theorem Yn : ∀ {l : List D} {us : List Value} {G : Nat → Nat}, RoL w Z T l us G → ∀ j, ∃ G', RoL w Z T (l.eraseIdx j) (us.eraseIdx j) G' ∧ ∀ b, G' b ≤ G b
 | [], us, G, h, j => by simp only [RoL] at h; obtain ⟨rfl, h0⟩ := h; exact ⟨fun _ => 0, by simp [RoL], fun b => Nat.zero_le _⟩
 | d :: l, us, G, h, 0 => by
  simp only [RoL] at h
  obtain ⟨u, us', F1, F2, rfl, _, h2, h3⟩ := h
  exact ⟨F2, by simpa using h2, fun b => by rw [h3]; omega⟩
 | d :: l, us, G, h, j + 1 => by
  simp only [RoL] at h
  obtain ⟨u, us', F1, F2, rfl, h1, h2, h3⟩ := h
  obtain ⟨G', g1, g2⟩ := Yn h2 j
  refine ⟨fun b => F1 b + G' b, ?_, fun b => by have := g2 b; show F1 b + G' b ≤ G b; rw [h3]; omega⟩
  simp only [List.eraseIdx_cons_succ, RoL]
  exact ⟨u, _, F1, G', rfl, h1, g1, fun _ => rfl⟩
theorem Tj {t t2 kt et : TypeId} {m x : Operand} {dst : Option Nat} {ty : TypeId} {pos : String} {af : Array Edge} {gu} {tg : BQ K} {i j : Nat} {ks : List Value} {l : List D} {key : Value} {kl : Lit} {d0 : D}
  (hm : dv de r m = some (.h i)) (hx : dv de r x = some (.sc key)) (hg : BL r i = some (.mp ks l)) (Kd : Keyed P kt) (ht : P.underlying t = some (.map kt et)) (hkey : keyOf P kt key = some kl) (hks : ∀ x ∈ ks, ∃ l, keyOf P kt x = some l)
  (hj : ks[j]? = some key) (hd0 : l[j]? = some d0) (hh : i ∉ held) (k : K (.tup []) (EI r i (.mp (ks.eraseIdx j) (l.eraseIdx j))) nx) : Es P ⟨dst, .call { callee := .builtin .delete, args := #[m, x], argTypes := #[t, t2] }, ty, pos, af, gu⟩ de held r nx K tg := by
 intro E w Z T F en h he
 obtain ⟨v1, hv1, hr1⟩ := FQ h.roots he hm
 obtain ⟨v2, hv2, hr2⟩ := FQ h.roots he hx
 simp only [Rs] at hr1 hr2
 subst hr2
 obtain ⟨b, us, es, clock, G, h1, h2, h3, put⟩ := h.mapset (held := held) hg hh
 rw [h1] at hr1
 cases hr1
 obtain ⟨u, F3, F4, hu, hru, hG, hset⟩ := h3.get hd0
 obtain ⟨es', hrun, hmp⟩ := h2.drop_at Kd ht hkey hks hj hu t2 ty
 obtain ⟨G', hg1, hg2⟩ := Yn h3 j
 obtain ⟨F', o1, o2⟩ := put es' clock _ _ (l.eraseIdx j) G' hmp hg1 hg2
 refine ⟨by simp [Op.operands, Call.operands, known, hv1, hv2], .inl ⟨.tuple #[], _, ?_, _, _, _, _, _, _, o1, o2, by simp only [Rs]; exact ⟨[], rfl, by simp only [RsL]⟩, k⟩⟩
 have e : execOp (rho en) ⟨dst, .call { callee := .builtin .delete, args := #[m, x], argTypes := #[t, t2] }, ty, pos, af, gu⟩ = (do pure (.value (← Builtin.delete_ #[t, t2] ty (#[m, x].map (rho en))))) := rfl
 rw [e]
 simp [rho, hv1, hv2, hrun, Result.andThen]
end
end Go.Sl
end
section
namespace Go.Sl
open Go.RowKit
open Go.ChangeMaps (setBlock heap_setBlock_same heap_setBlock_other)
def ItP (im : Nat) (ks : List Value) (l : List D) (S : List Nat) (w : World) (Z : Nat → Prop) (T : Nat → Option Value) (v : Value) (F : Nat → Nat) : Prop :=
 ∃ (rb b : Nat) (us : List Value) (es : Array MapEntry) (clock since last : Nat) (seen : Array Nat) (G : Nat → Nat),
  v = .pointer (some ⟨rb, 0, none⟩) ∧ T im = some (.map (some b)) ∧ Mp w b ks us es clock ∧ (∀ e ∈ es.toList, e.born < since) ∧ since ≤ last ∧ (S ≠ [] → last = clock) ∧ RoL w Z T l us G ∧
  w.heap[rb]? = some (.mapIter (some b) since seen last) ∧ seen.toList = S.map (fun j => ((es.toList[j]?).map (·.born)).getD 0) ∧ (∀ j ∈ S, j < ks.length) ∧ since ≤ clock ∧ rb ≠ b ∧ ∀ c, F c = (G c + own (.map (some b)) c) + own v c
def ItA (im : Nat) (ks : List Value) (l : List D) (S : List Nat) : Ab where
 p := ItP im ks l S
 keep := fun {w w' Z Z' T T' v F} h hw hZ hT => by
  obtain ⟨rb, b, us, es, clock, since, last, seen, G, h1, h2, h3, h4, h5, h6, h7, h8, h9, h10, h11, h12, h13⟩ := h
  have hb : 0 < F b := by rw [h13]; simp [own, blk]; omega
  have hr : 0 < F rb := by rw [h13, h1]; simp [own, blk]
  refine ⟨rb, b, us, es, clock, since, last, seen, G, h1, hT _ _ h2, ⟨(hw b (.inl hb)).trans h3.at_, h3.key, h3.val, h3.nodup, h3.born, h3.old⟩, h4, h5, h6, ?_, (hw rb (.inl hr)).trans h8, h9, h10, h11, h12, h13⟩
  exact RoL.keep hZ hT l us G (fun x hx => hw x (hx.imp_left fun hx => by rw [h13]; omega)) h7
section
variable {E : En} {w w' : World} {Z Z' : Nat → Prop} {T T' : Nat → Option Value} {F : Nat → Nat} {r : Ad} {nx : Nat}
variable {P : Program} {held : List Nat} {e e' : Env} {de : DEnv} {K : D → Ad → Nat → Prop}
theorem Ahg {t kt et : TypeId} {m : Operand} {dst : Option Nat} {ty : TypeId} {pos : String} {af : Array Edge} {gu} {tg : BQ K} {im : Nat} {ks : List Value} {l : List D}
  (hm : dv de r m = some (.h im)) (hg : BL r im = some (.mp ks l)) (ht : P.underlying t = some (.map kt et)) (k : K (.h nx) ((nx, .abs (ItA im ks l [])) :: GY r im) (nx + 1)) :
  Es P ⟨dst, .range t m, ty, pos, af, gu⟩ de held r nx K tg := by
 intro E w Z T F en h he
 obtain ⟨v1, hv1, hr1⟩ := FQ h.roots he hm
 simp only [Rs] at hr1
 obtain ⟨v, F1, F2, h1, h2, h3, h4, h5⟩ := h.roots.get hg
 simp only [Ro] at h2
 obtain ⟨b, us, G, rfl, ⟨es, clock, hmp⟩, h6, h7⟩ := h2
 rw [h1] at hr1
 cases hr1
 have hbF : 0 < F b := by rw [h3, h7]; simp [own, blk]; omega
 have hlt := h.lt b hbF
 let w1 := w.alloc (.mapIter (some b) clock #[] clock)
 have hsame : ∀ x, x < w.heap.size → w1.heap[x]? = w.heap[x]? := fun x hx => heap_alloc_old w _ hx
 -- the iterator alone, then with its map
 let A0 : Ab := ⟨fun w Z T v F => F = own v, fun h _ _ _ => h⟩
 obtain ⟨o1, o2⟩ := h.alloc (held := held) (w' := w1) (o := .mapIter (some b) clock #[] clock) (v := .pointer (some ⟨w.heap.size, 0, none⟩)) (d := .abs A0) (by simp [w1]) (Fr.alloc w _) rfl rfl (by simp only [Ro]; rfl)
 have hT := FO (v := .pointer (some ⟨w.heap.size, 0, none⟩)) (h.t nx (Nat.le_refl _))
 have hk : ∀ x, 0 < F x ∨ Z x → w1.heap[x]? = w.heap[x]? := fun x hx => hsame x (by
  rcases hx with hx | hx
  ·exact h.lt x hx
  ·exact (h.zlt x hx).1)
 have hro : Ro w1 Z (F9 T nx (.pointer (some ⟨w.heap.size, 0, none⟩))) (.abs (ItA im ks l [])) (.pointer (some ⟨w.heap.size, 0, none⟩)) (fun c => (G c + own (.map (some b)) c) + own (.pointer (some ⟨w.heap.size, 0, none⟩)) c) := by
  simp only [Ro]
  refine ⟨w.heap.size, b, us, es, clock, clock, clock, #[], G, rfl, hT _ _ h1, ⟨(hsame b hlt).trans hmp.at_, hmp.key, hmp.val, hmp.nodup, hmp.born, hmp.old⟩, hmp.old, Nat.le_refl _, fun h => absurd rfl h, ?_, heap_alloc_new w _, rfl, by simp, Nat.le_refl _, by omega, fun c => rfl⟩
  exact RoL.keep (fun _ h => h) hT l us G (fun x hx => hk x (hx.imp_left fun hx => by rw [h3, h7]; omega)) h6
 have hrl : RL w1 Z (F9 T nx (.pointer (some ⟨w.heap.size, 0, none⟩))) ((nx, .abs (ItA im ks l [])) :: GY r im) (fun c => own (.pointer (some ⟨w.heap.size, 0, none⟩)) c + F c) :=
  ⟨_, _, F2, BR _ _ _, hro, h4.keep (fun _ h => h) hT (fun x hx => hk x (hx.imp_left fun hx => by rw [h3]; omega)), fun c => by
   have := h3 c; have := h7 c
   show own _ c + F c = G c + own (.map (some b)) c + own _ c + F2 c
   omega⟩
 have ok2 := o1.swapR (fun _ h => h) (fun b hb => .inl hb) (fun b => Nat.le_refl _) (fun b hb => (o1.zlt b hb).2) hrl
 refine ⟨by simp [Op.operands, known, hv1], ?_⟩
 exact .inl ⟨.pointer (some ⟨w.heap.size, 0, none⟩), w1, by simp only [execOp, rho, hv1, Option.getD_some, Sem.run_bind, run_range_map w t kt et b es clock ht hmp.at_, Result.andThen_ok, Sem.run_pure]; rfl, _, _, _, _, _, _, ok2, o2, by simp only [Rs]; exact BR _ _ _, k⟩
theorem Ag9 {b : Nat} {ks us : List Value} {es : Array MapEntry} {clock : Nat} (h : Mp w b ks us es clock) {e : MapEntry} (he : e ∈ es.toList) : ∃ j : Nat, es.toList[j]? = some e ∧ ks[j]? = some e.key ∧ us[j]? = some e.val := by
 obtain ⟨j, hj, rfl⟩ := List.getElem_of_mem he
 refine ⟨j, List.getElem?_eq_getElem hj, ?_, ?_⟩
 ·rw [← h.key, List.getElem?_map, List.getElem?_eq_getElem hj]; rfl
 ·rw [← h.val, List.getElem?_map, List.getElem?_eq_getElem hj]; rfl
theorem Aa8 {b : Nat} {ks us : List Value} {es : Array MapEntry} {clock : Nat} (h : Mp w b ks us es clock) {S : List Nat} (hS : ∀ j ∈ S, j < ks.length) {j : Nat} {e : MapEntry} (he : es.toList[j]? = some e) :
  e.born ∈ S.map (fun j => ((es.toList[j]?).map (·.born)).getD 0) ↔ j ∈ S := by
 have hlen : es.toList.length = ks.length := by rw [← h.key, List.length_map]
 constructor
 ·intro hm
  obtain ⟨j', hj', heq⟩ := List.mem_map.1 hm
  have hlt := hS j' hj'
  have hl' : j' < es.toList.length := by omega
  rw [List.getElem?_eq_getElem hl'] at heq
  simp only [Option.map_some, Option.getD_some] at heq
  have h1 : (es.toList.map (·.born))[j']? = some e.born := by rw [List.getElem?_map, List.getElem?_eq_getElem hl', ← heq]; rfl
  have h2 : (es.toList.map (·.born))[j]? = some e.born := by rw [List.getElem?_map, he]; rfl
  have := (List.getElem?_inj (by rw [List.length_map]; exact hl') h.born).1 (h1.trans h2.symm)
  subst this
  exact hj'
 ·intro hj
  exact List.mem_map.2 ⟨j, hj, by rw [he]; rfl⟩
theorem AeV {rb : Nat} {o o' : Obj} (h : w.heap[rb]? = some o) : (setBlock w rb o').heap[rb]? = some o' := by
 have hlt := (Array.getElem?_eq_some_iff.1 h).1
 simp [setBlock, hlt]
theorem Ac5 {rb x : Nat} {o : Obj} (hx : x ≠ rb) : (setBlock w rb o).heap[x]? = w.heap[x]? := by
 simp only [setBlock]
 rw [Array.getElem?_setIfInBounds_ne (Ne.symm hx)]
theorem Aep (h : Ok E w Z T F r nx) {ni im : Nat} {ks : List Value} {l : List D} {S : List Nat} (hg : BL r ni = some (.abs (ItA im ks l S))) (hh : ni ∉ held) {rb b since last : Nat} {us : List Value} {es : Array MapEntry} {clock : Nat} {seen : Array Nat} {e : MapEntry} {j : Nat}
  (hv : T ni = some (.pointer (some ⟨rb, 0, none⟩))) (hmp : Mp w b ks us es clock) (hit : w.heap[rb]? = some (.mapIter (some b) since seen last)) (he : es.toList[j]? = some e) :
  ∃ F', Ok E (setBlock w rb (.mapIter (some b) since (seen.push e.born) clock)) Z T F' (EI r ni (.abs (ItA im ks l (S ++ [j])))) nx ∧ Grow r w Z T (setBlock w rb (.mapIter (some b) since (seen.push e.born) clock)) Z T held := by
 obtain ⟨v, F1, F2, h1, h2, h3, h4, h5⟩ := h.roots.get hg
 rw [hv] at h1
 cases h1
 simp only [Ro] at h2
 obtain ⟨rb', b', us', es', clock', since', last', seen', G, g1, g2, g3, g4, g5, g6, g7, g8, g9, g10, g11, g12, g13⟩ := h2
 cases g1
 rw [hit] at g8
 cases g8
 have hes := hmp.at_.symm.trans g3.at_
 cases hes
 obtain rfl : us' = us := by rw [← g3.val, ← hmp.val]
 have hlen : es.toList.length = ks.length := by rw [← g3.key, List.length_map]
 have hjl : j < ks.length := by have := (List.getElem?_eq_some_iff.1 he).1; omega
 have hrb1 : 0 < F1 rb := by rw [g13]; simp [own, blk]
 have hbF : 0 < F1 b := by rw [g13]; simp [own, blk]; omega
 have hzrb : ∀ x, Z x → x ≠ rb := fun x hx e => by
  have := (h.zlt x hx).2
  have := h3 x
  subst e
  omega
 have hother : ∀ x, x ≠ rb → (setBlock w rb (.mapIter (some b) since (seen.push e.born) clock)).heap[x]? = w.heap[x]? := fun x hx => Ac5 hx
 have hone : F rb ≤ 1 := h.one rb
 have hG : G rb = 0 ∧ F2 rb = 0 := by
  have := h3 rb; have := g13 rb
  have : own (.pointer (some ⟨rb, 0, none⟩)) rb = 1 := by simp [own, blk]
  omega
 have hfr : Fr (· = rb) w (setBlock w rb (.mapIter (some b) since (seen.push e.born) clock)) := ⟨rfl, rfl, rfl, by simp [setBlock], fun x _ hx => hother x hx⟩
 have hd' : Ro (setBlock w rb (.mapIter (some b) since (seen.push e.born) clock)) Z T (.abs (ItA im ks l (S ++ [j]))) (.pointer (some ⟨rb, 0, none⟩)) F1 := by
  simp only [Ro]
  refine ⟨rb, b, us', es, clock, since, clock, seen.push e.born, G, rfl, g2, ⟨(hother b (Ne.symm g12)).trans g3.at_, g3.key, g3.val, g3.nodup, g3.born, g3.old⟩, g4, g11, fun _ => rfl, ?_, AeV hit, ?_, ?_, g11, g12, g13⟩
  ·exact RoL.keep (fun _ h => h) (fun _ _ h => h) l us' G (fun x hx => hother x (by
    rcases hx with hx | hx
    ·intro e; subst e; omega
    ·exact hzrb x hx)) g7
  ·rw [Array.toList_push, g9, List.map_append, List.map_cons, List.map_nil, he]
   rfl
  ·intro k hk
   rcases List.mem_append.1 hk with hk | hk
   ·exact g10 k hk
   ·simp only [List.mem_singleton] at hk; omega
 have hrl := h5 (setBlock w rb (.mapIter (some b) since (seen.push e.born) clock)) Z T (.abs (ItA im ks l (S ++ [j]))) (.pointer (some ⟨rb, 0, none⟩)) F1 (fun x hx => hother x (by
  rcases hx with hx | hx
  ·intro e; subst e; omega
  ·exact hzrb x hx)) (fun _ h => h) (fun _ _ h => h) hv hd'
 obtain ⟨o1, o2⟩ := h.write (d' := .abs (ItA im ks l (S ++ [j]))) hv (b0 := rb) rfl h3 (F1' := F1) (fun _ => Nat.le_refl _) hrb1 hfr hrl hh h4
 exact ⟨_, o1, o2⟩
theorem dnext {it : Operand} {dst : Option Nat} {ty : TypeId} {pos : String} {af : Array Edge} {gu} {tg : BQ K} {ni im : Nat} {ks : List Value} {l : List D} {S : List Nat}
  (hm : dv de r it = some (.h ni)) (hg : BL r ni = some (.abs (ItA im ks l S))) (hh : ni ∉ held)
  (k0 : (∀ j, j < ks.length → j ∈ S) → K (.tup [.sc (.bool false)]) r nx)
  (k1 : ∀ j key, ks[j]? = some key → j ∉ S → K (.tup [.sc (.bool true), .sc key, .dead]) (EI r ni (.abs (ItA im ks l (S ++ [j])))) nx) :
  Es P ⟨dst, .next it false, ty, pos, af, gu⟩ de held r nx K tg := by
 intro E w Z T F en h he
 obtain ⟨v1, hv1, hr1⟩ := FQ h.roots he hm
 simp only [Rs] at hr1
 obtain ⟨v, F1, F2, h1, h2, h3, h4, h5⟩ := h.roots.get hg
 rw [hr1] at h1
 cases h1
 simp only [Ro] at h2
 obtain ⟨rb, b, us, es, clock, since, last, seen, G, rfl, g2, g3, g4, g5, g6, g7, g8, g9, g10, g11, g12, g13⟩ := h2
 refine ⟨by simp [Op.operands, known, hv1], ?_⟩
 have hlen : es.toList.length = ks.length := by rw [← g3.key, List.length_map]
 rcases run_next_at (P := P) w ty rb b since last seen es clock g8 g3.at_ g4 g5 with ⟨hl, hrun⟩ | ⟨e, hel, w1, hw1, hrun⟩
 ·refine .inl ⟨.tuple #[.bool false], w, by simp only [execOp, rho, hv1, Option.getD_some, Sem.run_bind, hrun, Result.andThen_ok, Sem.run_pure], _, _, _, _, _, _, h, Grow.refl _ _ _ _ _, ?_, k0 fun j hj => ?_⟩
  ·simp only [Rs]
   exact ⟨[.bool false], rfl, by simp only [RsL]; exact ⟨_, _, rfl, by simp only [Rs], rfl⟩⟩
  ·have hje : es.toList[j]? = some es.toList[j] := List.getElem?_eq_getElem (by omega)
   refine (Aa8 g3 g10 hje).1 ?_
   rw [← g9]
   have hno : es.toList[j] ∉ (leftOf es seen).toList := by
    intro hc
    have : (leftOf es seen).toList.length = 0 := by rw [Array.length_toList]; exact hl
    rw [List.eq_nil_of_length_eq_zero this] at hc
    cases hc
   unfold leftOf at hno
   simp only [Array.toList_filter, List.mem_filter, not_and] at hno
   have := hno (List.getElem_mem _)
   simpa using this
 ·have hmem : e ∈ es.toList ∧ e.born ∉ seen.toList := by
   unfold leftOf at hel
   simp only [Array.toList_filter, List.mem_filter] at hel
   exact ⟨hel.1, by simpa using hel.2⟩
  obtain ⟨j, hj, hk, hu⟩ := Ag9 g3 hmem.1
  have hjS : j ∉ S := fun hc => hmem.2 (by rw [g9]; exact (Aa8 g3 g10 hj).2 hc)
  have fin : ∀ w0, w0 = w ∨ w0 = w.drew → ∃ F', Ok E (setBlock w0 rb (.mapIter (some b) since (seen.push e.born) clock)) Z T F' (EI r ni (.abs (ItA im ks l (S ++ [j])))) nx ∧ Grow r w Z T (setBlock w0 rb (.mapIter (some b) since (seen.push e.born) clock)) Z T held := fun w0 hw0 => by
   rcases hw0 with rfl | rfl
   ·exact Aep h hg hh hr1 g3 g8 hj
   ·obtain ⟨F', o1, o2⟩ := Aep (held := held) (h.drew) hg hh hr1 (w := w.drew) ⟨g3.at_, g3.key, g3.val, g3.nodup, g3.born, g3.old⟩ g8 hj
    exact ⟨F', o1, ⟨o2.zs, o2.zz, o2.tt, o2.hd⟩⟩
  obtain ⟨F', o1, o2⟩ := fin w1 hw1
  refine .inl ⟨.tuple #[.bool true, e.key, e.val], _, by simp only [execOp, rho, hv1, Option.getD_some, Sem.run_bind, hrun, Result.andThen_ok, Sem.run_pure], _, _, _, _, _, _, o1, o2, ?_, k1 j e.key hk hjS⟩
  simp only [Rs]
  exact ⟨[.bool true, e.key, e.val], rfl, by simp only [RsL]; exact ⟨_, _, rfl, by simp only [Rs], _, _, rfl, by simp only [Rs], _, _, rfl, by simp only [Rs], rfl⟩⟩
theorem Xi {it : Operand} {dst : Option Nat} {ty : TypeId} {pos : String} {af : Array Edge} {gu} {tg : BQ K} {ni im j : Nat} {ks : List Value} {l : List D} {S : List Nat} {key : Value} {eb : TypeId} {lc : List D}
  (hm : dv de r it = some (.h ni)) (hg : BL r ni = some (.abs (ItA im ks l (S ++ [j])))) (hj : ks[j]? = some key) (hd : l[j]? = some (.box eb lc))
  (k : K (.tup [.sc key, .hp nx 0]) ((nx, .box eb lc) :: EI r ni (.abs (ItA im ks (l.set j (.hp nx 0)) (S ++ [j])))) (nx + 1)) :
  Es P ⟨dst, .entry it, ty, pos, af, gu⟩ de held r nx K tg := by
 intro E w Z T F en h he
 obtain ⟨v1, hv1, hr1⟩ := FQ h.roots he hm
 simp only [Rs] at hr1
 obtain ⟨v, F1, F2, h1, h2, h3, h4, h5⟩ := h.roots.get hg
 rw [hr1] at h1
 cases h1
 simp only [Ro] at h2
 obtain ⟨rb, b, us, es, clock, since, last, seen, G, rfl, g2, g3, g4, g5, g6, g7, g8, g9, g10, g11, g12, g13⟩ := h2
 obtain rfl : last = clock := g6 (by simp)
 have hlen : es.toList.length = ks.length := by rw [← g3.key, List.length_map]
 have hjl := (List.getElem?_eq_some_iff.1 hj).1
 have hje : es.toList[j]? = some (es.toList[j]'(by omega)) := List.getElem?_eq_getElem (by omega)
 generalize (es.toList[j]'(by omega)) = e0 at hje
 have hkey : e0.key = key := by
  have : ks[j]? = some e0.key := by rw [← g3.key, List.getElem?_map, hje]; rfl
  rw [hj] at this; exact (Option.some.inj this).symm
 have huj : us[j]? = some e0.val := by rw [← g3.val, List.getElem?_map, hje]; rfl
 have hseen : seen = ((S.map fun j => ((es.toList[j]?).map (·.born)).getD 0).toArray).push e0.born := by
  apply Array.toList_inj.1
  rw [g9, List.map_append, List.map_cons, List.map_nil, hje, Array.toList_push]
  rfl
 have hrun := run_entry_at (P := P) w rb b since _ es last e0 (by rw [← hseen]; exact g8) g3.at_ (List.mem_of_getElem? hje) g3.born
 have hT := FO (v := e0.val) (h.t nx (Nat.le_refl _))
 have g7' : RoL w Z (F9 T nx e0.val) l us G := RoL.keep (fun _ h => h) hT l us G (fun _ _ => rfl) g7
 obtain ⟨u, Fa, Fb, q1, q2, q3, q4⟩ := g7'.get hd
 rw [huj] at q1
 cases q1
 have hone := LP q2 (.inl ⟨_, _, rfl⟩)
 have hrs : Rs w Z (F9 T nx e0.val) (.hp nx 0) e0.val := by
  simp only [Ro] at q2
  obtain ⟨b2, us2, F2', q5, _⟩ := q2
  simp only [Rs]
  exact ⟨_, b2, BR _ _ _, by rw [q5]; rfl, q5⟩
 have hro : Ro w Z (F9 T nx e0.val) (.abs (ItA im ks (l.set j (.hp nx 0)) (S ++ [j]))) (.pointer (some ⟨rb, 0, none⟩)) (fun c => ((0 + Fb c) + own (.map (some b)) c) + own (.pointer (some ⟨rb, 0, none⟩)) c) := by
  simp only [Ro]
  have hh := q4 (.hp nx 0) e0.val (fun _ => 0) (Ro.of hrs)
  rw [Gm huj] at hh
  exact ⟨rb, b, us, es, last, since, last, seen, fun c => 0 + Fb c, rfl, hT _ _ g2, g3, g4, g5, fun _ => rfl, hh, g8, g9, g10, g11, g12, fun c => rfl⟩
 have hr' : RL w Z (F9 T nx e0.val) r F := h.roots.keep (fun _ h => h) hT (fun _ _ => rfl)
 have hrl := h5 w Z (F9 T nx e0.val) _ _ _ (fun _ _ => rfl) (fun _ h => h) hT (hT _ _ hr1) hro
 obtain ⟨o1, o2⟩ := h.name (held := held) hone (fun _ => rfl) (r' := (nx, .box eb lc) :: EI r ni (.abs (ItA im ks (l.set j (.hp nx 0)) (S ++ [j])))) ⟨e0.val, Fa, _, BR _ _ _, q2, hrl, fun c => by
  have := h3 c; have := g13 c; have := q3 c
  show F c = Fa c + (0 + Fb c + own (.map (some b)) c + own _ c + F2 c)
  omega⟩
 refine ⟨by simp [Op.operands, known, hv1], ?_⟩
 refine .inl ⟨.tuple #[e0.key, e0.val], w, by simp only [execOp, rho, hv1, Option.getD_some, Sem.run_bind, hrun, Result.andThen_ok, Sem.run_pure], _, _, _, _, _, _, o1, o2, ?_, k⟩
 simp only [Rs] at hrs ⊢
 exact ⟨[e0.key, e0.val], rfl, by simp only [RsL]; exact ⟨_, _, rfl, by simp only [Rs]; exact hkey, _, _, rfl, by simp only [Rs]; exact hrs, rfl⟩⟩
theorem RT.itfold (i ni im j : Nat) {ks : List Value} {l : List D} {S : List Nat} {d : D} (hi : BL r i = some d) (hne : i ≠ ni) (hp : BL r ni = some (.abs (ItA im ks l S))) (hl : l[j]? = some (UO i d)) :
  RT r (EI (GY r i) ni (.abs (ItA im ks (l.set j d) S))) := fun E w Z T F nx h => by
 obtain ⟨v, F1, F2, h1, h2, h3, h4, _⟩ := h.roots.get hi
 have hp2 : BL (GY r i) ni = some (.abs (ItA im ks l S)) := by rw [LU hne]; exact hp
 obtain ⟨u, G1, G2, g1, g2, g3, g4, g5⟩ := h4.get hp2
 simp only [Ro] at g2
 obtain ⟨rb, b, us, es, clock, since, last, seen, G, rfl, k2, k3, k4, k5, k6, k7, k8, k9, k10, k11, k12, k13⟩ := g2
 obtain ⟨x, X1, X2, x1, x2, x3, x4⟩ := k7.get hl
 obtain ⟨x5, x6⟩ := x2.rs (UN i d)
 have hx : x = v := Aeg h2 h1 x5
 subst hx
 have hset : us.set j x = us := by
  obtain ⟨hlt, he⟩ := List.getElem?_eq_some_iff.1 x1
  rw [← he]
  exact List.set_getElem_self hlt
 have hh := x4 d x F1 h2
 rw [hset] at hh
 have hro : Ro w Z T (.abs (ItA im ks (l.set j d) S)) (.pointer (some ⟨rb, 0, none⟩)) (fun c => ((F1 c + X2 c) + own (.map (some b)) c) + own (.pointer (some ⟨rb, 0, none⟩)) c) := by
  simp only [Ro]
  exact ⟨rb, b, us, es, clock, since, last, seen, _, rfl, k2, k3, k4, k5, k6, hh, k8, k9, k10, k11, k12, fun c => rfl⟩
 have hrl := g5 w Z T _ _ _ (fun _ _ => rfl) (fun _ h => h) (fun _ _ h => h) g1 hro
 refine ⟨Z, F, h.swapR (fun _ h => h) (fun b hb => .inl hb) (fun b => Nat.le_refl _) (fun b hb => (h.zlt b hb).2) (hrl.cast fun c => ?_), fun _ h => h⟩
 show F c = F1 c + X2 c + own (.map (some b)) c + own _ c + G2 c
 have := h3 c; have := g3 c; have := k13 c; have := x3 c; have := x6 c
 omega
theorem RT.itdone (ni im : Nat) {ks : List Value} {l : List D} {S : List Nat} (hg : BL r ni = some (.abs (ItA im ks l S))) : RT r ((im, .mp ks l) :: GY r ni) := fun E w Z T F nx h => by
 obtain ⟨v, F1, F2, h1, h2, h3, h4, _⟩ := h.roots.get hg
 simp only [Ro] at h2
 obtain ⟨rb, b, us, es, clock, since, last, seen, G, rfl, k2, k3, k4, k5, k6, k7, k8, k9, k10, k11, k12, k13⟩ := h2
 have hro : Ro w Z T (.mp ks l) (.map (some b)) (fun c => G c + own (.map (some b)) c) := by
  simp only [Ro]
  exact ⟨b, us, G, rfl, ⟨es, clock, k3⟩, k7, fun c => rfl⟩
 refine ⟨Z, fun c => (G c + own (.map (some b)) c) + F2 c, h.swapR (fun _ h => h) (fun b hb => .inl hb) (fun c => ?_) (fun c hc => ?_) ⟨_, _, F2, k2, hro, h4, fun c => rfl⟩, fun _ h => h⟩
 ·have := h3 c; have := k13 c
  show G c + own (.map (some b)) c + F2 c ≤ F c
  omega
 ·have := (h.zlt c hc).2; have := h3 c; have := k13 c
  show G c + own (.map (some b)) c + F2 c = 0
  omega
end
end Go.Sl
end
section
namespace Go.Sl
open Go.RowKit
section
variable {E : En} {w w' : World} {Z Z' : Nat → Prop} {T T' : Nat → Option Value} {F : Nat → Nat} {r : Ad} {nx : Nat}
variable {P : Program} {held : List Nat} {e e' : Env} {de : DEnv} {K : D → Ad → Nat → Prop}
def NoZ (t : D) : Prop := ∀ (w : World) (Z Z' : Nat → Prop) (T : Nat → Option Value) (v : Value) (F : Nat → Nat), Ro w Z T t v F → Ro w Z' T t v F
def NoZs (d : D) : Prop := ∀ (w : World) (Z Z' : Nat → Prop) (T : Nat → Option Value) (v : Value), Rs w Z T d v → Rs w Z' T d v
def isSc : D → Prop
 | .sc _ => True
 | _ => False
theorem Abq : ∀ {l : List D}, (∀ d ∈ l, isSc d) → ∀ (w : World) (Z Z' : Nat → Prop) (T : Nat → Option Value) (us : List Value) (F : Nat → Nat), RoL w Z T l us F → RoL w Z' T l us F
 | [], _, w, Z, Z', T, us, F, h => by simp only [RoL] at h ⊢; exact h
 | d :: l, hl, w, Z, Z', T, us, F, h => by
  simp only [RoL] at h ⊢
  obtain ⟨u, us', F1, F2, rfl, h1, h2, h3⟩ := h
  refine ⟨u, us', F1, F2, rfl, ?_, Abq (fun d hd => hl d (by simp [hd])) w Z Z' T us' F2 h2, h3⟩
  have := hl d (by simp)
  cases d <;> simp only [isSc] at this
  simp only [Ro, Rs] at h1 ⊢
  exact h1
theorem Ail {e s n : Nat} {l : List D} (h : ∀ d ∈ l, isSc d) : NoZ (.row e s n l) := fun w Z Z' T v F hr => by
 simp only [Ro] at hr ⊢
 obtain ⟨us, F', h1, h2, h3⟩ := hr
 exact ⟨us, F', h1, Abq h w Z Z' T us F' h2, h3⟩
theorem noZs_h (i : Nat) : NoZs (.h i) := fun w Z Z' T v h => by simp only [Rs] at h ⊢; exact h
theorem Aik (v : Value) : NoZs (.sc v) := fun w Z Z' T u h => by simp only [Rs] at h ⊢; exact h
theorem RT.cons (p : Nat × D) {r' : Ad} (h : RT r r') : RT (p :: r) (p :: r') := fun E w Z T F nx ok => by
 obtain ⟨v, F1, F2, h1, h2, h3, h4⟩ := ok.roots
 have hok : Ok ⟨w, Z, T, F2, nx⟩ w Z T F2 r nx := ⟨Fr.refl _ _, fun _ h => h, fun _ _ h => .inl h, fun _ _ => Nat.le_refl _, fun _ _ h => h, fun b => by have := ok.one b; have := h4 b; omega, fun b hb => ok.lt b (by have := h4 b; omega), fun b hb => ⟨(ok.zlt b hb).1, by have := (ok.zlt b hb).2; have := h4 b; omega⟩, ok.t, ok.cell, Nat.le_refl _, h3⟩
 obtain ⟨Z', F', o, z⟩ := h _ _ _ _ _ _ hok
 have hs := ok.fr.size
 have hF : ∀ b, F' b ≤ F2 b := fun b => by
  rcases Nat.eq_zero_or_pos (F' b) with h0 | h0
  ·omega
  ·exact o.fo b (o.lt b h0)
 have hz : ∀ b, Z' b → F1 b = 0 := fun b hb => by
  rcases o.zo b (o.zlt b hb).1 hb with k | k
  ·have := (ok.zlt b k).2; have := h4 b; omega
  ·have := ok.one b; have := h4 b; dsimp only at k; omega
 refine ⟨Z', fun b => F1 b + F' b, ⟨ok.fr, fun b hb => z b (ok.z b hb), fun b hb hz' => ?_, fun b hb => ?_, ok.names, fun b => ?_, fun b hb => ?_, fun b hb => ⟨(o.zlt b hb).1, ?_⟩, ok.t, ok.cell, ok.ge, ⟨v, F1, F', h1, Ro.keep z (fun _ _ h => h) _ _ _ (fun _ _ => rfl) h2, o.roots, fun _ => rfl⟩⟩, z⟩
 ·rcases o.zo b (o.zlt b hz').1 hz' with k | k
  ·exact ok.zo b hb k
  ·have := ok.fo b hb; have := h4 b; dsimp only at k; exact .inr (by omega)
 ·have := ok.fo b hb; have := h4 b; have := hF b; omega
 ·have := ok.one b; have := h4 b; have := hF b; omega
 ·exact ok.lt b (by have := h4 b; have := hF b; (try dsimp only at hb); omega)
 ·have := (o.zlt b hb).2; have := hz b hb; omega
theorem AfA {r1 : Ad} {f : FuncId} {ds : List D} {g : Nat → D} {t : D} {tg : BQ K} (h : RT r r1) (hc : MW P f (ds.map (Du r1)) g t) (ht : NoZ t) (hgz : ∀ i, NoZs (g i))
  (k : ∀ i nx', nx ≤ i → i < nx' → K (g i) ((i, t) :: r) nx') : Bo P f ds held r nx K tg := by
 intro E w Z T F vs ok hrs
 obtain ⟨Z1, F1, o1, z1⟩ := h E w Z T F nx ok
 have hrs1 : RsL w Z1 T (ds.map (Du r1)) vs := RsL.res o1.roots (RsL.keep (fun _ _ => rfl) z1 (fun _ _ h => h) _ _ hrs)
 have hok : Ok ⟨w, Z1, T, fun _ => 0, nx⟩ w Z1 T (fun _ => 0) [] nx := ⟨Fr.refl _ _, fun _ h => h, fun _ _ h => .inl h, fun _ _ => Nat.le_refl _, fun _ _ h => h, fun b => by simp, fun b hb => by simp at hb, fun b hb => ⟨(o1.zlt b hb).1, rfl⟩, o1.t, o1.cell, Nat.le_refl _, fun _ => rfl⟩
 refine (hc nx w Z1 T _ vs hok hrs1).mono fun en w' ⟨v, hv, d, r', nx', Z', T', F', p1, p2, i, q1, q2, q3, q4⟩ => ?_
 subst q3; subst q4
 have hsz := p1.fr.size
 have hsame : ∀ b, b < w.heap.size → w'.heap[b]? = w.heap[b]? := fun b hb => p1.fr.same b hb (by simp)
 have hF0 : ∀ b, b < w.heap.size → F' b = 0 := fun b hb => by have := p1.fo b hb; dsimp only at this; omega
 obtain ⟨v0, G1, G2, t1, t2, t3, t4⟩ := p1.roots
 have hG2 : ∀ b, G2 b = 0 := t3
 refine ⟨v, hv, g i, (i, t) :: r, nx', Z, T', fun b => F' b + F b, ?_, ?_, hgz i _ _ _ _ _ p2, k i nx' q1 q2⟩
 ·refine ⟨ok.fr.step p1.fr (fun b hb hM => by simp at hM), ok.z, ok.zo, fun b hb => ?_, fun i u hu => p1.names i u (ok.names i u hu), fun b => ?_, fun b hb => ?_, fun b hb => ?_, p1.t, p1.cell, Nat.le_trans ok.ge p1.ge, ?_⟩
  ·have := ok.fr.size
   have := hF0 b (by omega)
   have := ok.fo b hb
   omega
  ·by_cases hb : b < w.heap.size
   ·have := hF0 b hb; have := ok.one b; omega
   ·have : F b = 0 := by
     rcases Nat.eq_zero_or_pos (F b) with h | h
     ·exact h
     ·exact absurd (ok.lt b h) hb
    have := p1.one b; omega
  ·by_cases h0 : 0 < F' b
   ·exact p1.lt b h0
   ·have := ok.lt b (by omega); dsimp only at hsz; omega
  ·have h1 := ok.zlt b hb
   have := hF0 b h1.1
   dsimp only at hsz
   exact ⟨by omega, by omega⟩
  ·exact ⟨v0, G1, F, t1, ht _ _ _ _ _ _ t2, ok.roots.keep (fun _ h => h) p1.names (fun b hb => hsame b (by
    rcases hb with hb | hb
    ·exact ok.lt b hb
    ·exact (ok.zlt b hb).1)), fun b => by have := t4 b; have := hG2 b; show F' b + F b = G1 b + F b; omega⟩
 ·refine ⟨fun b hb => hsame b (ok.zlt b hb).1, fun _ h => h, p1.names, fun j hj ho u b hu hbk => ?_⟩
  obtain ⟨d', H1, H2, _, _, g3, g4, _⟩ := Ku ok.roots ho hu hbk
  have := g3 b
  exact hsame b (ok.lt b (by omega))
end
end Go.Sl
end
section
namespace Go.Proofs.YtgpkbldlkadnjaaGreat
open Go Go.Sl
-- 13 shardlog/disk.New; Ar [(0, capacity), (1, capacity)]
noncomputable def m_disk_New : MF := ⟨9, [.t 2],
 .seq (
 .ops [
 .p 2 .mv [(.const (.pointer none))]]) (
 .seq (
 .ops [
 .gen (some 3) ⟨(some 3), (.makeMap 97 none), 97, "disk.go:25", #[], none⟩,
 .p 4 .mv [(.tmp 0)],
 .p 5 .max [(.tmp 4), (.const (.int .i64 0))],
 .p 6 .min [(.tmp 5), (.const (.int .i64 65536))],
 .p 7 (.build [(.map none), (.int .i64 0)] [(0, 1), (1, 1)]) [(.tmp 3), (.tmp 6)],
 .box 8 Af (.tmp 7),
 .p 2 .mv [(.tmp 8)]]) (
 .ret))⟩

theorem AdO : trF Tryz.prog MN = some m_disk_New := by kernel_rfl
-- 20 (*shardlog/disk.Disk).Crash; Ar [(0, d), (1, keep), (2, d), (3, keep), (4, _), (5, name), (6, f), (7, rest), (8, n)]
-- 22 (*shardlog/disk.Disk).Read; Ar [(0, d), (1, name), (2, d), (3, name), (6, f)]
noncomputable def m_disk_Disk_Read : MF := ⟨20, [.t 4, .t 5],
 .seq (
 .ops [
 .p 4 .mv [(.const (.slice none 0 0))],
 .p 5 .mv [(.const (.int .i64 0))]]) (
 .seq (
 .ops [
 .p 7 .mv [(.tmp 0)],
 .p 8 .nilc [(.tmp 7)],
 .p 9 (.fad 0) [(.tmp 8)],
 .ld 10 (.tmp 9),
 .p 11 .mv [(.tmp 1)],
 .gen (some 12) ⟨(some 12), (.lookup 97 (.tmp 10) (.tmp 11) false), 119, "disk.go:71", #[⟨3, .data⟩, ⟨4, .data⟩], none⟩,
 .p 6 .mv [(.tmp 12)]]) (
 .seq (
 .seq (
 .ops [
 .p 13 .mv [(.tmp 6)],
 .p 14 (.isnil .pt false) [(.tmp 13)]]) (
 .cond (.tmp 14) (
 .seq (
 .ops [
 .p 4 .mv [(.const (.slice none 0 0))],
 .p 5 .mv [(.const (.int .i64 5))]]) (
 .ret)) (
 .skip))) (
 .seq (
 .ops [
 .p 15 .mv [(.tmp 6)],
 .p 16 .nilc [(.tmp 15)],
 .p 17 (.fad 0) [(.tmp 16)],
 .ld 18 (.tmp 17),
 .call (some 19) DY [(.tmp 18)],
 .p 4 .mv [(.tmp 19)],
 .p 5 .mv [(.const (.int .i64 0))]]) (
 .ret))))⟩

theorem N9 : trF Tryz.prog Eo = some m_disk_Disk_Read := by kernel_rfl
-- 36 (*shardlog/disk.Disk).Append; Ar [(0, d), (1, name), (2, b), (3, d), (4, name), (5, b), (7, f)]
noncomputable def m_disk_Disk_Append : MF := ⟨52, [.t 6],
 .seq (
 .ops [
 .p 6 .mv [(.const (.int .i64 0))]]) (
 .seq (
 .block 0 (
 .seq (
 .ops [
 .p 9 .mv [(.tmp 1)],
 .call (some 10) J3 [(.tmp 9)],
 .p 11 .not [(.tmp 10)],
 .p 8 .mv [(.tmp 11)]]) (
 .cond (.tmp 8) (
 .seq (
 .ops [
 .p 6 .mv [(.const (.int .i64 1))]]) (
 .ret)) (
 .seq (
 .dr (
 .one ⟨.p 13 .mv [(.tmp 2)], []⟩ (
 .one ⟨.p 14 .len [(.tmp 13)], []⟩ (
 .one ⟨.p 15 .mv [(.tmp 0)], []⟩ (
 .one ⟨.p 16 .nilc [(.tmp 15)], []⟩ (
 .one ⟨.p 17 (.fad 1) [(.tmp 16)], []⟩ (
 .one ⟨.ld 18 (.tmp 17), []⟩ (
 .one ⟨.p 19 .mv [(.tmp 0)], []⟩ (
 .one ⟨.call (some 20) Kw [(.tmp 19)], [.ld 18 (.tmp 17)]⟩ (
 .one ⟨.p 21 (.bin .sub) [(.tmp 18), (.tmp 20)], []⟩ (
 .one ⟨.p 22 (.bin .gtr) [(.tmp 14), (.tmp 21)], []⟩ (
 .one ⟨.p 12 .mv [(.tmp 22)], []⟩ (
 .nil))))))))))))) (
 .cond (.tmp 12) (
 .seq (
 .ops [
 .p 6 .mv [(.const (.int .i64 4))]]) (
 .ret)) (
 .skip)))))) (
 .seq (
 .seq (
 .ops [
 .p 23 .mv [(.tmp 0)],
 .p 24 .nilc [(.tmp 23)],
 .p 25 (.fad 0) [(.tmp 24)],
 .ld 26 (.tmp 25),
 .p 27 .mv [(.tmp 1)],
 .gen (some 28) ⟨(some 28), (.lookup 97 (.tmp 26) (.tmp 27) false), 119, "disk.go:51", #[⟨3, .data⟩, ⟨4, .data⟩], none⟩,
 .p 29 (.isnil .pt false) [(.tmp 28)]]) (
 .cond (.tmp 29) (
 .ops [
 .p 30 .mv [(.tmp 0)],
 .p 31 .nilc [(.tmp 30)],
 .p 32 (.fad 0) [(.tmp 31)],
 .ld 33 (.tmp 32),
 .p 34 .mv [(.tmp 1)],
 .p 35 (.build [(.slice none 0 0), (.int .i64 0)] []) [],
 .box 36 Ah (.tmp 35),
 .genu ⟨none, (.mapUpdate 97 (.tmp 33) (.tmp 34) (.tmp 36)), 0, "disk.go:52", #[⟨3, .data⟩, ⟨4, .data⟩, ⟨6, .data⟩, ⟨0, .phase⟩, ⟨1, .phase⟩, ⟨2, .phase⟩, ⟨3, .phase⟩, ⟨4, .phase⟩, ⟨5, .phase⟩, ⟨6, .phase⟩], none⟩]) (
 .skip))) (
 .seq (
 .ops [
 .p 37 .mv [(.tmp 0)],
 .p 38 .nilc [(.tmp 37)],
 .p 39 (.fad 0) [(.tmp 38)],
 .ld 40 (.tmp 39),
 .p 41 .mv [(.tmp 1)],
 .gen (some 42) ⟨(some 42), (.lookup 97 (.tmp 40) (.tmp 41) false), 119, "disk.go:54", #[⟨3, .data⟩, ⟨4, .data⟩], none⟩,
 .p 7 .mv [(.tmp 42)]]) (
 .seq (
 .ops [
 .p 43 .mv [(.tmp 7)],
 .p 44 .mv [(.tmp 7)],
 .p 45 .nilc [(.tmp 44)],
 .p 46 (.fad 0) [(.tmp 45)],
 .ld 47 (.tmp 46),
 .p 48 .mv [(.tmp 2)],
 .app 49 #[Au, Au] Au (.tmp 47) (.tmp 48),
 .p 50 .nilc [(.tmp 43)],
 .p 51 (.fad 0) [(.tmp 50)],
 .st 1 false (.tmp 51) (.tmp 49)]) (
 .seq (
 .ops [
 .p 6 .mv [(.const (.int .i64 0))]]) (
 .ret))))))⟩

theorem Rt : trF Tryz.prog Gz = some m_disk_Disk_Append := by kernel_rfl
-- 53 (*shardlog/disk.Disk).Trim; Ar [(0, d), (1, name), (2, n), (3, d), (4, name), (5, n), (7, f)]
noncomputable def m_disk_Disk_Trim : MF := ⟨48, [.t 6],
 .seq (
 .ops [
 .p 6 .mv [(.const (.int .i64 0))]]) (
 .seq (
 .ops [
 .p 8 .mv [(.tmp 0)],
 .p 9 .nilc [(.tmp 8)],
 .p 10 (.fad 0) [(.tmp 9)],
 .ld 11 (.tmp 10),
 .p 12 .mv [(.tmp 1)],
 .gen (some 13) ⟨(some 13), (.lookup 97 (.tmp 11) (.tmp 12) false), 119, "disk.go:112", #[⟨3, .data⟩, ⟨4, .data⟩], none⟩,
 .p 7 .mv [(.tmp 13)]]) (
 .seq (
 .block 0 (
 .seq (
 .ops [
 .p 15 .mv [(.tmp 7)],
 .p 16 (.isnil .pt false) [(.tmp 15)],
 .p 14 .mv [(.tmp 16)]]) (
 .cond (.tmp 14) (
 .seq (
 .ops [
 .p 6 .mv [(.const (.int .i64 5))]]) (
 .ret)) (
 .seq (
 .ops [
 .p 18 .mv [(.tmp 2)],
 .p 19 (.bin .lss) [(.tmp 18), (.const (.int .i64 0))],
 .p 20 .mv [(.tmp 19)],
 .gd 20 false (some 21) (.p 21 .mv [(.tmp 2)]),
 .gd 20 false (some 22) (.p 22 .mv [(.tmp 7)]),
 .gd 20 false (some 23) (.p 23 .nilc [(.tmp 22)]),
 .gd 20 false (some 24) (.p 24 (.fad 0) [(.tmp 23)]),
 .gd 20 false (some 25) (.ld 25 (.tmp 24)),
 .gd 20 false (some 26) (.p 26 .len [(.tmp 25)]),
 .gd 20 false (some 27) (.p 27 (.bin .gtr) [(.tmp 21), (.tmp 26)]),
 .p 28 .pick [(.tmp 20), (.const (.bool true)), (.tmp 27)],
 .p 17 .mv [(.tmp 28)]]) (
 .cond (.tmp 17) (
 .seq (
 .ops [
 .p 6 .mv [(.const (.int .i64 1))]]) (
 .ret)) (
 .skip)))))) (
 .seq (
 .dr (
 .one ⟨.p 29 .mv [(.tmp 7)], []⟩ (
 .one ⟨.p 30 .mv [(.tmp 7)], []⟩ (
 .one ⟨.p 31 .mv [(.tmp 7)], []⟩ (
 .one ⟨.p 32 .nilc [(.tmp 31)], []⟩ (
 .one ⟨.p 33 (.fad 0) [(.tmp 32)], []⟩ (
 .one ⟨.ld 34 (.tmp 33), []⟩ (
 .one ⟨.p 35 .mv [(.tmp 2)], []⟩ (
 .one ⟨.p 36 .mv [(.tmp 2)], []⟩ (
 .one ⟨.p 37 (.sls 1 false true true) [(.tmp 34), (.tmp 35), (.tmp 36)], []⟩ (
 .one ⟨.p 38 .mv [(.tmp 7)], []⟩ (
 .one ⟨.p 39 .nilc [(.tmp 38)], []⟩ (
 .one ⟨.p 40 (.fad 1) [(.tmp 39)], []⟩ (
 .one ⟨.ld 41 (.tmp 40), []⟩ (
 .one ⟨.p 42 .mv [(.tmp 2)], []⟩ (
 .one ⟨.p 43 .min [(.tmp 41), (.tmp 42)], []⟩ (
 .one ⟨.p 44 .nilc [(.tmp 29)], []⟩ (
 .one ⟨.p 45 (.fad 0) [(.tmp 44)], []⟩ (
 .one ⟨.st 1 false (.tmp 45) (.tmp 37), []⟩ (
 .one ⟨.p 46 .nilc [(.tmp 30)], []⟩ (
 .one ⟨.p 47 (.fad 1) [(.tmp 46)], []⟩ (
 .one ⟨.st 1 false (.tmp 47) (.tmp 43), []⟩ (
 .nil))))))))))))))))))))))) (
 .seq (
 .ops [
 .p 6 .mv [(.const (.int .i64 0))]]) (
 .ret)))))⟩

theorem Uw : trF Tryz.prog Kz = some m_disk_Disk_Trim := by kernel_rfl
-- 54 (*shardlog/disk.Disk).Sync; Ar [(0, d), (1, name), (2, d), (3, name), (5, f)]
noncomputable def m_disk_Disk_Sync : MF := ⟨22, [.t 4],
 .seq (
 .ops [
 .p 4 .mv [(.const (.int .i64 0))]]) (
 .seq (
 .ops [
 .p 6 .mv [(.tmp 0)],
 .p 7 .nilc [(.tmp 6)],
 .p 8 (.fad 0) [(.tmp 7)],
 .ld 9 (.tmp 8),
 .p 10 .mv [(.tmp 1)],
 .gen (some 11) ⟨(some 11), (.lookup 97 (.tmp 9) (.tmp 10) false), 119, "disk.go:61", #[⟨3, .data⟩, ⟨4, .data⟩], none⟩,
 .p 5 .mv [(.tmp 11)]]) (
 .seq (
 .seq (
 .ops [
 .p 12 .mv [(.tmp 5)],
 .p 13 (.isnil .pt false) [(.tmp 12)]]) (
 .cond (.tmp 13) (
 .seq (
 .ops [
 .p 4 .mv [(.const (.int .i64 5))]]) (
 .ret)) (
 .skip))) (
 .seq (
 .ops [
 .p 14 .mv [(.tmp 5)],
 .p 15 .mv [(.tmp 5)],
 .p 16 .nilc [(.tmp 15)],
 .p 17 (.fad 0) [(.tmp 16)],
 .ld 18 (.tmp 17),
 .p 19 .len [(.tmp 18)],
 .p 20 .nilc [(.tmp 14)],
 .p 21 (.fad 1) [(.tmp 20)],
 .st 1 false (.tmp 21) (.tmp 19)]) (
 .seq (
 .ops [
 .p 4 .mv [(.const (.int .i64 0))]]) (
 .ret)))))⟩

theorem Ux : trF Tryz.prog IZ = some m_disk_Disk_Sync := by kernel_rfl
-- 63 (*shardlog/disk.Disk).Rename; Ar [(0, d), (1, a), (2, b), (3, d), (4, a), (5, b), (7, f)]
noncomputable def m_disk_Disk_Rename : MF := ⟨35, [.t 6],
 .seq (
 .ops [
 .p 6 .mv [(.const (.int .i64 0))]]) (
 .seq (
 .seq (
 .ops [
 .p 8 .mv [(.tmp 1)],
 .call (some 9) J3 [(.tmp 8)],
 .p 10 .not [(.tmp 9)],
 .p 11 .mv [(.tmp 10)],
 .gd 11 false (some 12) (.p 12 .mv [(.tmp 2)]),
 .gd 11 false (some 13) (.call (some 13) J3 [(.tmp 12)]),
 .gd 11 false (some 14) (.p 14 .not [(.tmp 13)]),
 .p 15 .pick [(.tmp 11), (.const (.bool true)), (.tmp 14)]]) (
 .cond (.tmp 15) (
 .seq (
 .ops [
 .p 6 .mv [(.const (.int .i64 1))]]) (
 .ret)) (
 .skip))) (
 .seq (
 .ops [
 .p 16 .mv [(.tmp 0)],
 .p 17 .nilc [(.tmp 16)],
 .p 18 (.fad 0) [(.tmp 17)],
 .ld 19 (.tmp 18),
 .p 20 .mv [(.tmp 1)],
 .gen (some 21) ⟨(some 21), (.lookup 97 (.tmp 19) (.tmp 20) false), 119, "disk.go:92", #[⟨3, .data⟩, ⟨4, .data⟩], none⟩,
 .p 7 .mv [(.tmp 21)]]) (
 .seq (
 .seq (
 .ops [
 .p 22 .mv [(.tmp 7)],
 .p 23 (.isnil .pt false) [(.tmp 22)]]) (
 .cond (.tmp 23) (
 .seq (
 .ops [
 .p 6 .mv [(.const (.int .i64 5))]]) (
 .ret)) (
 .skip))) (
 .seq (
 .ops [
 .p 24 .mv [(.tmp 0)],
 .p 25 .nilc [(.tmp 24)],
 .p 26 (.fad 0) [(.tmp 25)],
 .ld 27 (.tmp 26),
 .p 28 .mv [(.tmp 1)],
 .gen none ⟨none, (.call { callee := .builtin .delete, args := #[(.tmp 27), (.tmp 28)], argTypes := #[97, QA] }), 0, "disk.go:96", #[⟨3, .data⟩, ⟨4, .data⟩], none⟩]) (
 .seq (
 .ops [
 .p 29 .mv [(.tmp 0)],
 .p 30 .nilc [(.tmp 29)],
 .p 31 (.fad 0) [(.tmp 30)],
 .ld 32 (.tmp 31),
 .p 33 .mv [(.tmp 2)],
 .p 34 .mv [(.tmp 7)],
 .genu ⟨none, (.mapUpdate 97 (.tmp 32) (.tmp 33) (.tmp 34)), 0, "disk.go:97", #[⟨3, .data⟩, ⟨4, .data⟩, ⟨5, .data⟩, ⟨0, .phase⟩, ⟨1, .phase⟩, ⟨2, .phase⟩, ⟨3, .phase⟩, ⟨4, .phase⟩, ⟨5, .phase⟩], none⟩]) (
 .seq (
 .ops [
 .p 6 .mv [(.const (.int .i64 0))]]) (
 .ret)))))))⟩

theorem Rn : trF Tryz.prog HY = some m_disk_Disk_Rename := by kernel_rfl
-- 64 (*shardlog/disk.Disk).Names; Ar [(0, d), (1, d)]
noncomputable def m_disk_Disk_Names : MF := ⟨9, [.t 2],
 .seq (
 .ops [
 .p 2 .mv [(.const (.slice none 0 0))]]) (
 .seq (
 .ops [
 .p 3 .mv [(.tmp 0)],
 .p 4 .nilc [(.tmp 3)],
 .p 5 (.fad 0) [(.tmp 4)],
 .ld 6 (.tmp 5),
 .call (some 7) PN [(.tmp 6)],
 .call (some 8) Vb [(.tmp 7)],
 .p 2 .mv [(.tmp 8)]]) (
 .ret))⟩

theorem TE : trF Tryz.prog J4 = some m_disk_Disk_Names := by kernel_rfl
-- 65 shardlog/disk.distance; Ar [(0, n), (1, n)]
-- 75 shardlog/disk.named; Ar [(0, s), (1, s)]
noncomputable def m_disk_named : MF := ⟨11, [.t 2],
 .seq (
 .ops [
 .p 2 .mv [(.const (.bool false))]]) (
 .seq (
 .ops [
 .p 3 .mv [(.tmp 0)],
 .p 4 .lens [(.tmp 3)],
 .p 5 (.bin .geq) [(.tmp 4), (.const (.int .i64 1))],
 .p 6 .mv [(.tmp 5)],
 .gd 6 true (some 7) (.p 7 .mv [(.tmp 0)]),
 .gd 6 true (some 8) (.p 8 .lens [(.tmp 7)]),
 .gd 6 true (some 9) (.p 9 (.bin .leq) [(.tmp 8), (.const (.int .i64 24))]),
 .p 10 .pick [(.tmp 6), (.tmp 9), (.const (.bool false))],
 .p 2 .mv [(.tmp 10)]]) (
 .ret))⟩

theorem Aac : trF Tryz.prog J3 = some m_disk_named := by kernel_rfl
-- 76 (*shardlog/disk.Disk).Used; Ar [(0, d), (1, d), (3, n), (4, _), (5, f)]
noncomputable def m_disk_Disk_Used : MF := ⟨23, [.t 2],
 .seq (
 .ops [
 .p 2 .mv [(.const (.int .i64 0))]]) (
 .seq (
 .ops [
 .p 3 .mv [(.const (.int .i64 0))]]) (
 .seq (
 .seq (
 .ops [
 .p 6 .mv [(.tmp 0)],
 .p 7 .nilc [(.tmp 6)],
 .p 8 (.fad 0) [(.tmp 7)],
 .ld 9 (.tmp 8),
 .gen (some 10) ⟨(some 10), (.range 97 (.tmp 9)), 0, "disk.go:37", #[⟨3, .data⟩], none⟩]) (
 .block 0 (
 .loop (
 .seq (
 .ops [
 .gen (some 11) ⟨(some 11), (.next (.tmp 10) false), 0, "disk.go:37", #[], none⟩,
 .p 12 (.ext 0) [(.tmp 11)]]) (
 .seq (
 .cond (.tmp 12) (
 .skip) (
 .exit 0)) (
 .block 1 (
 .seq (
 .ops [
 .gen (some 13) ⟨(some 13), (.entry (.tmp 10)), 0, "disk.go:37", #[], none⟩,
 .p 14 (.ext 1) [(.tmp 13)],
 .p 5 .mv [(.tmp 14)]]) (
 .ops [
 .p 15 .mv [(.tmp 3)],
 .p 16 .mv [(.tmp 5)],
 .p 17 .nilc [(.tmp 16)],
 .p 18 (.fad 0) [(.tmp 17)],
 .ld 19 (.tmp 18),
 .p 20 .len [(.tmp 19)],
 .p 21 (.bin .add) [(.tmp 15), (.tmp 20)],
 .p 3 .mv [(.tmp 21)]])))))))) (
 .seq (
 .ops [
 .p 22 .mv [(.tmp 3)],
 .p 2 .mv [(.tmp 22)]]) (
 .ret))))⟩

theorem Ut : trF Tryz.prog Kw = some m_disk_Disk_Used := by kernel_rfl
-- 114 maps.Keys[map[string]*shardlog/disk.file,string,*shardlog/disk.file]; Ar [(0, m), (1, m)]
noncomputable def m_maps_Keys : MF := ⟨4, [.t 2],
 .seq (
 .ops [
 .box 1 97 (.tmp 0),
 .p 2 .mv [(.const .nilFunc)]]) (
 .seq (
 .ops [
 .p 3 (.fn (.func QK) 0) [(.tmp 1)],
 .p 2 .mv [(.tmp 3)]]) (
 .ret))⟩

theorem Acr : trF Tryz.prog PN = some m_maps_Keys := by kernel_rfl
-- 47 (*shardlog/disk.Disk).Synced; Ar [(0, d), (1, name), (2, d), (3, name), (6, f)]
noncomputable def m_disk_Disk_Synced : MF := ⟨25, [.t 4, .t 5],
 .seq (
 .ops [
 .p 4 .mv [(.const (.slice none 0 0))],
 .p 5 .mv [(.const (.int .i64 0))]]) (
 .seq (
 .ops [
 .p 7 .mv [(.tmp 0)],
 .p 8 .nilc [(.tmp 7)],
 .p 9 (.fad 0) [(.tmp 8)],
 .ld 10 (.tmp 9),
 .p 11 .mv [(.tmp 1)],
 .gen (some 12) ⟨(some 12), (.lookup 97 (.tmp 10) (.tmp 11) false), 119, "disk.go:80", #[⟨3, .data⟩, ⟨4, .data⟩], none⟩,
 .p 6 .mv [(.tmp 12)]]) (
 .seq (
 .seq (
 .ops [
 .p 13 .mv [(.tmp 6)],
 .p 14 (.isnil .pt false) [(.tmp 13)]]) (
 .cond (.tmp 14) (
 .seq (
 .ops [
 .p 4 .mv [(.const (.slice none 0 0))],
 .p 5 .mv [(.const (.int .i64 5))]]) (
 .ret)) (
 .skip))) (
 .seq (
 .dr (
 .one ⟨.p 15 .mv [(.tmp 6)], []⟩ (
 .one ⟨.p 16 .nilc [(.tmp 15)], []⟩ (
 .one ⟨.p 17 (.fad 0) [(.tmp 16)], []⟩ (
 .one ⟨.ld 18 (.tmp 17), []⟩ (
 .one ⟨.p 19 .mv [(.tmp 6)], []⟩ (
 .one ⟨.p 20 .nilc [(.tmp 19)], []⟩ (
 .one ⟨.p 21 (.fad 1) [(.tmp 20)], []⟩ (
 .one ⟨.ld 22 (.tmp 21), []⟩ (
 .one ⟨.p 23 (.sls 1 false true false) [(.tmp 18), (.tmp 22)], []⟩ (
 .one ⟨.call (some 24) DY [(.tmp 23)], [.ld 22 (.tmp 21), .ld 18 (.tmp 17)]⟩ (
 .one ⟨.p 4 .mv [(.tmp 24)], []⟩ (
 .one ⟨.p 5 .mv [(.const (.int .i64 0))], []⟩ (
 .nil)))))))))))))) (
 .ret))))⟩

theorem Rl : trF Tryz.prog JA = some m_disk_Disk_Synced := by kernel_rfl
-- 80 (*shardlog/disk.Disk).Copy; Ar [(0, d), (1, d), (3, out), (4, name), (5, f)]
noncomputable def m_disk_Disk_Copy : MF := ⟨38, [.t 2],
 .seq (
 .ops [
 .p 2 .mv [(.const (.pointer none))]]) (
 .seq (
 .ops [
 .p 6 .mv [(.tmp 0)],
 .p 7 .nilc [(.tmp 6)],
 .p 8 (.fad 1) [(.tmp 7)],
 .ld 9 (.tmp 8),
 .call (some 10) MN [(.tmp 9)],
 .p 3 .mv [(.tmp 10)]]) (
 .seq (
 .seq (
 .ops [
 .p 11 .mv [(.tmp 0)],
 .p 12 .nilc [(.tmp 11)],
 .p 13 (.fad 0) [(.tmp 12)],
 .ld 14 (.tmp 13),
 .gen (some 15) ⟨(some 15), (.range 97 (.tmp 14)), 0, "disk.go:164", #[⟨3, .data⟩], none⟩]) (
 .block 0 (
 .loop (
 .seq (
 .ops [
 .gen (some 16) ⟨(some 16), (.next (.tmp 15) false), 0, "disk.go:164", #[], none⟩,
 .p 17 (.ext 0) [(.tmp 16)]]) (
 .seq (
 .cond (.tmp 17) (
 .skip) (
 .exit 0)) (
 .block 1 (
 .seq (
 .ops [
 .gen (some 18) ⟨(some 18), (.entry (.tmp 15)), 0, "disk.go:164", #[], none⟩,
 .p 19 (.ext 0) [(.tmp 18)],
 .p 20 (.ext 1) [(.tmp 18)],
 .p 4 .mv [(.tmp 19)],
 .p 5 .mv [(.tmp 20)]]) (
 .dr (
 .one ⟨.p 21 .mv [(.tmp 3)], []⟩ (
 .one ⟨.p 22 .nilc [(.tmp 21)], []⟩ (
 .one ⟨.p 23 (.fad 0) [(.tmp 22)], []⟩ (
 .one ⟨.ld 24 (.tmp 23), []⟩ (
 .one ⟨.p 25 .mv [(.tmp 4)], []⟩ (
 .one ⟨.p 26 .mv [(.tmp 5)], []⟩ (
 .one ⟨.p 27 .nilc [(.tmp 26)], []⟩ (
 .one ⟨.p 28 (.fad 0) [(.tmp 27)], []⟩ (
 .one ⟨.ld 29 (.tmp 28), []⟩ (
 .one ⟨.p 31 .mv [(.tmp 5)], []⟩ (
 .one ⟨.p 32 .nilc [(.tmp 31)], []⟩ (
 .one ⟨.p 33 (.fad 1) [(.tmp 32)], []⟩ (
 .one ⟨.ld 34 (.tmp 33), []⟩ (
 .one ⟨.call (some 30) DY [(.tmp 29)], [.ld 34 (.tmp 33), .ld 24 (.tmp 23)]⟩ (
 .one ⟨.p 35 (.build [(.slice none 0 0), (.int .i64 0)] [(0, 1), (1, 1)]) [(.tmp 30), (.tmp 34)], []⟩ (
 .one ⟨.box 36 Ah (.tmp 35), [.ld 34 (.tmp 33), .ld 24 (.tmp 23)]⟩ (
 .one ⟨.genu ⟨none, (.mapUpdate 97 (.tmp 24) (.tmp 25) (.tmp 36)), 0, "disk.go:165", #[⟨3, .data⟩, ⟨4, .data⟩, ⟨15, .data⟩, ⟨9, .chain⟩, ⟨0, .phase⟩, ⟨1, .phase⟩, ⟨2, .phase⟩, ⟨3, .phase⟩, ⟨4, .phase⟩, ⟨5, .phase⟩, ⟨6, .phase⟩, ⟨7, .phase⟩, ⟨8, .phase⟩, ⟨9, .phase⟩, ⟨10, .phase⟩, ⟨11, .phase⟩, ⟨12, .phase⟩, ⟨13, .phase⟩, ⟨14, .phase⟩, ⟨15, .phase⟩], none⟩, []⟩ (
 .nil)))))))))))))))))))))))))) (
 .seq (
 .ops [
 .p 37 .mv [(.tmp 3)],
 .p 2 .mv [(.tmp 37)]]) (
 .ret))))⟩

theorem Uy : trF Tryz.prog I4 = some m_disk_Disk_Copy := by kernel_rfl
-- 96 (*shardlog/disk.Disk).Turn; Ar [(0, d), (1, name), (2, at), (3, by), (4, d), (5, name), (6, at), (7, by), (9, f)]
noncomputable def m_disk_Disk_Turn : MF := ⟨41, [.t 8],
 .seq (
 .ops [
 .p 8 .mv [(.const (.int .i64 0))]]) (
 .seq (
 .ops [
 .p 10 .mv [(.tmp 0)],
 .p 11 .nilc [(.tmp 10)],
 .p 12 (.fad 0) [(.tmp 11)],
 .ld 13 (.tmp 12),
 .p 14 .mv [(.tmp 1)],
 .gen (some 15) ⟨(some 15), (.lookup 97 (.tmp 13) (.tmp 14) false), 119, "disk.go:125", #[⟨3, .data⟩, ⟨4, .data⟩], none⟩,
 .p 9 .mv [(.tmp 15)]]) (
 .seq (
 .block 0 (
 .seq (
 .ops [
 .p 17 .mv [(.tmp 9)],
 .p 18 (.isnil .pt false) [(.tmp 17)],
 .p 16 .mv [(.tmp 18)]]) (
 .cond (.tmp 16) (
 .seq (
 .ops [
 .p 8 .mv [(.const (.int .i64 5))]]) (
 .ret)) (
 .seq (
 .ops [
 .p 20 .mv [(.tmp 2)],
 .p 21 (.bin .lss) [(.tmp 20), (.const (.int .i64 0))],
 .p 22 .mv [(.tmp 21)],
 .gd 22 false (some 23) (.p 23 .mv [(.tmp 2)]),
 .gd 22 false (some 24) (.p 24 .mv [(.tmp 9)]),
 .gd 22 false (some 25) (.p 25 .nilc [(.tmp 24)]),
 .gd 22 false (some 26) (.p 26 (.fad 0) [(.tmp 25)]),
 .gd 22 false (some 27) (.ld 27 (.tmp 26)),
 .gd 22 false (some 28) (.p 28 .len [(.tmp 27)]),
 .gd 22 false (some 29) (.p 29 (.bin .geq) [(.tmp 23), (.tmp 28)]),
 .p 30 .pick [(.tmp 22), (.const (.bool true)), (.tmp 29)],
 .p 19 .mv [(.tmp 30)]]) (
 .cond (.tmp 19) (
 .seq (
 .ops [
 .p 8 .mv [(.const (.int .i64 1))]]) (
 .ret)) (
 .skip)))))) (
 .seq (
 .ops [
 .p 31 .mv [(.tmp 9)],
 .p 32 .nilc [(.tmp 31)],
 .p 33 (.fad 0) [(.tmp 32)],
 .ld 34 (.tmp 33),
 .p 35 .mv [(.tmp 2)],
 .p 36 (.ixs 1) [(.tmp 34), (.tmp 35)],
 .ld 37 (.tmp 36),
 .p 38 .mv [(.tmp 3)],
 .p 39 (.bin .xor) [(.tmp 37), (.tmp 38)],
 .p 40 (.ixs 1) [(.tmp 34), (.tmp 35)],
 .st 1 false (.tmp 40) (.tmp 39)]) (
 .seq (
 .ops [
 .p 8 .mv [(.const (.int .i64 0))]]) (
 .ret)))))⟩

theorem Uu : trF Tryz.prog Ky = some m_disk_Disk_Turn := by kernel_rfl
-- 97 (*shardlog/disk.Disk).Delete; Ar [(0, d), (1, name), (2, d), (3, name)]
noncomputable def m_disk_Disk_Delete : MF := ⟨17, [.t 4],
 .seq (
 .ops [
 .p 4 .mv [(.const (.int .i64 0))]]) (
 .seq (
 .seq (
 .ops [
 .p 5 .mv [(.tmp 0)],
 .p 6 .nilc [(.tmp 5)],
 .p 7 (.fad 0) [(.tmp 6)],
 .ld 8 (.tmp 7),
 .p 9 .mv [(.tmp 1)],
 .gen (some 10) ⟨(some 10), (.lookup 97 (.tmp 8) (.tmp 9) false), 119, "disk.go:103", #[⟨3, .data⟩, ⟨4, .data⟩], none⟩,
 .p 11 (.isnil .pt false) [(.tmp 10)]]) (
 .cond (.tmp 11) (
 .seq (
 .ops [
 .p 4 .mv [(.const (.int .i64 5))]]) (
 .ret)) (
 .skip))) (
 .seq (
 .ops [
 .p 12 .mv [(.tmp 0)],
 .p 13 .nilc [(.tmp 12)],
 .p 14 (.fad 0) [(.tmp 13)],
 .ld 15 (.tmp 14),
 .p 16 .mv [(.tmp 1)],
 .gen none ⟨none, (.call { callee := .builtin .delete, args := #[(.tmp 15), (.tmp 16)], argTypes := #[97, QA] }), 0, "disk.go:106", #[⟨3, .data⟩, ⟨4, .data⟩], none⟩]) (
 .seq (
 .ops [
 .p 4 .mv [(.const (.int .i64 0))]]) (
 .ret))))⟩

theorem Rq : trF Tryz.prog H5 = some m_disk_Disk_Delete := by kernel_rfl

end Go.Proofs.YtgpkbldlkadnjaaGreat
end
section
set_option maxHeartbeats 3000000
attribute [local irreducible] Go.Sl.Chk Go.Sl.Br Go.Sl.Or2 Go.Sl.Ld Go.Sl.Ldn Go.Sl.LdB Go.Sl.Stn Go.Sl.New Go.Sl.Run Go.Sl.Ec Go.Sl.D9 Go.Sl.Call Go.Sl.Cc Go.Sl.Ed Go.Sl.Alt Go.Sl.Om Go.Sl.xpk Go.Sl.EX Go.Sl.EY Go.Sl.DLd Go.Sl.ES Go.Sl.DBs Go.Sl.Bo Go.Sl.Et Go.Sl.Es Go.Sl.Dk Go.Sl.DGC Go.Sl.Dq Go.Sl.Fj Go.Sl.D8 Go.Sl.Ent Go.Sl.Bg Go.Sl.dv Go.Sl.ev Go.Sl.Am
namespace Go.Proofs.YtgpkbldlkadnjaaGreat
open Go Go.Sl Go.RowKit
abbrev FileS := Bs × Bs × Nat
abbrev strV (b : Bs) : Value := .string ⟨b.toArray⟩
def fileO (f : FileS) : D := .box Ah [Ak f.2.1, iD f.2.2]
def Ae (fs : List FileS) : List Value := fs.map fun f => strV f.1
def AB (fs : List FileS) (most : Nat) : D := .box Af [.mp (Ae fs) (fs.map fileO), iD most]
theorem Ez {b : Bs} (h : b.length ≤ 1000000) : keyOf Tryz.prog 9 (strV b) = some (.string b) := by
 unfold keyOf
 rw [show Tryz.prog.underlying 9 = some TypeDesc.string from Tryz.underlying9]
 simp [mapKey, Tryz.underlying9, ByteArray.size, maxLen]
 omega
theorem sz_s (v : Bs) : (⟨v.toArray⟩ : ByteArray).size = v.length := by simp [ByteArray.size]
theorem kd9 : Go.Maps.Keyed Tryz.prog 9 := Go.Maps.string_keyed Tryz.underlying9
theorem AgK (c : Int) (hc : -9223372036854775808 ≤ c ∧ c ≤ 9223372036854775807) : MW Tryz.prog MN [iD c] (fun i => .hp i 0) (AB [] (min (max c 0) 65536).toNat) := by
 intro nx
 refine A8 AdO (by simp only [m_disk_New, List.length]; decide) ?_
 simp only [m_disk_New]; refine WK ?_; try with_reducible exact trivial
 refine Ahj ?_
 refine WK ?_; try with_reducible exact trivial
 have hf := RT.fold (r := [(nx + 1, .box Af [.h nx, .sc (.int .i64 (min (max c 0) 65536))]), (nx, .mp [] [])]) nx (nx + 1) 0 (d := .mp [] []) (c := .box Af [.h nx, .sc (.int .i64 (min (max c 0) 65536))]) (l := [.h nx, .sc (.int .i64 (min (max c 0) 65536))]) (by refine WK ?_; try with_reducible exact trivial) (by omega) (by refine WK ?_; try with_reducible exact trivial) rfl rfl
 simp -dsimp (disch := omega) only [Aa, Ac, AV, CE, AX, Bj, Dx, List.set_cons_zero] at hf
 refine Dc (t' := .mk _) hf ?_
 refine C9 ⟨nx + 1, by omega, by omega, rfl, ?_⟩
 rw [show (min (max c 0) 65536) = (((min (max c 0) 65536).toNat : Nat) : Int) by omega]
 rfl
def Ry (P : Program) (f : FuncId) (ds : Nat → List D) (t : D) (d : D) (t' : D) : Prop := ∀ i nx, i < nx → H9 P f (ds i) [(i, t)] nx (fun d' r' nx' => d' = d ∧ r' = [(i, t')])
theorem GM {r : Ad} {i : Nat} {t : D} (h : BL r i = some t) : EQ [i] r = ([(i, t)], GY r i) := by
 simp only [EQ, h]
theorem Jc {P : Program} {held : List Nat} {r : Ad} {nx : Nat} {K : D → Ad → Nat → Prop} {f : FuncId} {ds : Nat → List D} {t t' d : D} {tg : BQ K} (i : Nat) (h : Ry P f ds t d t') (hi : i < nx) (hg : BL r i = some t) (hh : i ∉ held)
  (k : ∀ nx', nx ≤ nx' → K d ((i, t') :: GY r i) nx') : Bo P f (ds i) held r nx K tg :=
 Ll [i] (GM hg) (h i nx hi) (fun j hj => by
  simp only [BL]
  rw [if_neg (fun e => hh (by rw [e]; exact hj))]) fun d' ro nx' hn ⟨h1, h2⟩ => by
   subst h1; subst h2; exact k nx' hn
def Cf (fs : List FileS) (n : Bs) : Option Nat := fs.findIdx? fun f => decide (f.1 = n)
theorem BH {fs : List FileS} {n : Bs} {j : Nat} (h : Cf fs n = some j) : ∃ f, fs[j]? = some f ∧ f.1 = n := by
 unfold Cf at h
 rw [List.findIdx?_eq_some_iff_getElem] at h
 obtain ⟨hj, h1, _⟩ := h
 exact ⟨fs[j], List.getElem?_eq_getElem hj, by simpa using h1⟩
theorem Hz {fs : List FileS} {n : Bs} (h : Cf fs n = none) : strV n ∉ Ae fs := by
 unfold Cf at h
 rw [List.findIdx?_eq_none_iff] at h
 intro hm
 obtain ⟨f, hf, he⟩ := List.mem_map.1 hm
 have h1 := h f hf
 simp only [decide_eq_false_iff_not] at h1
 refine h1 ?_
 have := congrArg (fun v : Value => match v with | .string b => b.data.toList | _ => []) he
 simpa using this
def GG (fs : List FileS) : Prop := ∀ f ∈ fs, f.1.length ≤ 1000 ∧ f.2.1.length ≤ 1000000
theorem CX {fs : List FileS} (h : GG fs) : ∀ x ∈ Ae fs, ∃ l, keyOf Tryz.prog 9 x = some l := fun x hx => by
 obtain ⟨f, hf, rfl⟩ := List.mem_map.1 hx
 exact ⟨_, Ez (by have := (h f hf).1; omega)⟩
theorem FH {m i most : Nat} {fs : List FileS} (h3 : m ≠ i) : RT [(m, .mp (Ae fs) (fs.map fileO)), (i, .box Af [.h m, iD most])] [(i, AB fs most)] := by
 have f2 := RT.fold (r := [(m, .mp (Ae fs) (fs.map fileO)), (i, .box Af [.h m, iD most])]) m i 0 (d := .mp (Ae fs) (fs.map fileO)) (c := .box Af [.h m, iD most]) (l := [.h m, iD most]) (by refine WK ?_; try with_reducible exact trivial) h3 (by refine WK ?_; try with_reducible exact trivial) rfl rfl
 simp -dsimp (disch := omega) only [Aa, Ac, AV, CE, AX, Bj, Dx, List.set_cons_zero] at f2
 exact f2
theorem Qp {a m i j most : Nat} {fs : List FileS} {f : FileS} (n b : Bs) (sy : Nat) (hj : fs[j]? = some f) (hn : f.1 = n) (h1 : a ≠ m) (h2 : a ≠ i) (h3 : m ≠ i) :
  RT [(a, .box Ah [Ak b, iD sy]), (m, .mp (Ae fs) ((fs.map fileO).set j (.hp a 0))), (i, .box Af [.h m, iD most])] [(i, AB (fs.set j (n, b, sy)) most)] := by
 have hlt := (List.getElem?_eq_some_iff.1 hj).1
 have f1 := RT.fold (r := [(a, .box Ah [Ak b, iD sy]), (m, .mp (Ae fs) ((fs.map fileO).set j (.hp a 0))), (i, .box Af [.h m, iD most])]) a m j (d := .box Ah [Ak b, iD sy]) (c := .mp (Ae fs) ((fs.map fileO).set j (.hp a 0))) (l := (fs.map fileO).set j (.hp a 0)) (by refine WK ?_; try with_reducible exact trivial) h1 (by refine WK ?_; try with_reducible exact trivial) rfl (List.getElem?_set_self (by rw [List.length_map]; exact hlt))
 simp -dsimp (disch := omega) only [Aa, Ac, AV, CE, AX, Bj, Dx, List.set_set] at f1
 have e1 : (fs.map fileO).set j (.box Ah [Ak b, iD sy]) = (fs.set j (n, b, sy)).map fileO := by rw [List.map_set]; rfl
 have e2 : Ae fs = Ae (fs.set j (n, b, sy)) := by
  unfold Ae
  rw [List.map_set]
  exact (Gm (by rw [List.getElem?_map, hj, ← hn]; rfl)).symm
 have f1' : RT [(a, .box Ah [Ak b, iD sy]), (m, .mp (Ae fs) ((fs.map fileO).set j (.hp a 0))), (i, .box Af [.h m, iD most])] [(m, .mp (Ae (fs.set j (n, b, sy))) ((fs.set j (n, b, sy)).map fileO)), (i, .box Af [.h m, iD most])] := by
  rw [← e2, ← e1]; exact f1
 exact f1'.trans (FH h3)
theorem IP {q a m i j most : Nat} {fs : List FileS} {f : FileS} (n b : Bs) (sy : Nat) (hj : fs[j]? = some f) (hn : f.1 = n) (h0 : q ≠ a) (h4 : q ≠ m) (h5 : q ≠ i) (h1 : a ≠ m) (h2 : a ≠ i) (h3 : m ≠ i) :
  RT [(q, Ak b), (a, .box Ah [.h q, iD sy]), (m, .mp (Ae fs) ((fs.map fileO).set j (.hp a 0))), (i, .box Af [.h m, iD most])] [(i, AB (fs.set j (n, b, sy)) most)] := by
 have f1 := RT.fold (r := [(q, Ak b), (a, .box Ah [.h q, iD sy]), (m, .mp (Ae fs) ((fs.map fileO).set j (.hp a 0))), (i, .box Af [.h m, iD most])]) q a 0 (d := Ak b) (c := .box Ah [.h q, iD sy]) (l := [.h q, iD sy]) (by refine WK ?_; try with_reducible exact trivial) h0 (by refine WK ?_; try with_reducible exact trivial) rfl rfl
 simp -dsimp (disch := omega) only [Aa, Ac, AV, CE, AX, Bj, Dx, List.set_cons_zero] at f1
 exact f1.trans (Qp n b sy hj hn h1 h2 h3)
theorem Oi (w : World) : (zeroValue 119).run Tryz.prog w = .ok (.pointer none) w := by kernel_rfl
def JM (fs : List FileS) (n : Bs) : List FileS := match Cf fs n with | none => fs | some j => fs.set j (n, (fs.getD j default).2.1, (fs.getD j default).2.1.length)
def Ko (fs : List FileS) (n : Bs) : Nat := match Cf fs n with | none => 5 | some _ => 0
theorem Af3 (fs : List FileS) (most : Nat) (n : Bs) (hs : GG fs) (hn : n.length ≤ 1000) : Ry Tryz.prog IZ (fun i => [.hp i 0, BC n]) (AB fs most) (iD (Ko fs n)) (AB (JM fs n) most) := by
 intro i nx hi
 refine A8 Ux (by simp only [m_disk_Disk_Sync, List.length]; decide) ?_
 rw [show [(i, AB fs most)] = [(i, .box Af [.mp (Ae fs) (fs.map fileO), iD most])] from rfl]
 simp only [m_disk_Disk_Sync]; refine WK ?_; try with_reducible exact trivial
 cases hfn : Cf fs n with
 | none =>
  refine MP (i := nx) (ks := Ae fs) (l := fs.map fileO) (key := strV n) (by refine WK ?_; try with_reducible exact trivial) (by refine WK ?_; try with_reducible exact trivial) (Aa _ _ _) kd9 Tryz.underlying97 (z := .pointer none) Oi (Ez (by omega)) (CX hs) (Hz hfn) ?_
  refine WK ?_; try with_reducible exact trivial
  refine Dc (t' := .mk _) (FH (by omega)) ?_
  refine C9 ⟨?_, ?_⟩ <;> simp only [Ko, JM, hfn] <;> rfl
 | some j =>
  obtain ⟨f, hj, hfe⟩ := BH hfn
  refine JI (i := nx) (j := j) (ks := Ae fs) (l := fs.map fileO) (key := strV n) (eb := Ah) (lc := [Ak f.2.1, iD f.2.2]) (by refine WK ?_; try with_reducible exact trivial) (by refine WK ?_; try with_reducible exact trivial) (Aa _ _ _) kd9 Tryz.underlying97 (Ez (by omega)) (CX hs) (by unfold Ae; rw [List.getElem?_map, hj, ← hfe]; rfl) (by rw [List.getElem?_map, hj]; rfl) ?_
  refine WK ?_; try with_reducible exact trivial
  refine Dc (t' := .mk _) (IP n f.2.1 f.2.1.length hj hfe (by omega) (by omega) (by omega) (by omega) (by omega) (by omega)) ?_
  have hgd : fs.getD j default = f := by rw [List.getD_eq_getElem?_getD, hj]; rfl
  refine C9 ⟨?_, ?_⟩ <;> simp only [Ko, JM, hfn, hgd] <;> rfl
def AcF (P : Program) (f : FuncId) (ds : Nat → List D) (t : D) (g : Nat → D) (tn t' : D) : Prop := ∀ i nx, i < nx → H9 P f (ds i) [(i, t)] nx (fun d' r' nx' => ∃ k, nx ≤ k ∧ k < nx' ∧ d' = g k ∧ r' = [(k, tn), (i, t')])
theorem QL {P : Program} {held : List Nat} {r : Ad} {nx : Nat} {K : D → Ad → Nat → Prop} {f : FuncId} {ds : Nat → List D} {t t' tn : D} {g : Nat → D} {tg : BQ K} (i : Nat) (h : AcF P f ds t g tn t') (hi : i < nx) (hg : BL r i = some t) (hh : i ∉ held)
  (k : ∀ k nx', nx ≤ k → k < nx' → K (g k) ((k, tn) :: (i, t') :: GY r i) nx') : Bo P f (ds i) held r nx K tg :=
 Ll [i] (GM hg) (h i nx hi) (fun j hj => by
  simp only [BL]
  rw [if_neg (fun e => hh (by rw [e]; exact hj))]) fun d' ro nx' hn ⟨k', h1, h2, h3, h4⟩ => by
   subst h3; subst h4; exact k k' nx' h1 h2
theorem OZ (b : Bs) : NoZ (Ak b) := Ail fun d hd => by obtain ⟨x, _, rfl⟩ := List.mem_map.1 hd; exact trivial
theorem WQ {P : Program} {held : List Nat} {r : Ad} {nx : Nat} {K : D → Ad → Nat → Prop} (i : Nat) {b : Bs} {f : FuncId} {ds ds' : List D} {t : D} {tg : BQ K} (hg : BL r i = some (Ak b)) (hds : ds.map (Du (EI r i (bytesD b))) = ds') (hc : MW P f ds' (fun i => .h i) t) (ht : NoZ t)
  (k : ∀ i nx', nx ≤ i → i < nx' → K (.h i) ((i, t) :: r) nx') : Bo P f ds held r nx K tg := by
 have h := RT.frz i hg (by simp only [I9]; exact (Df b).1)
 simp only [frzR, frz, (Df b).2] at h
 subst hds
 exact AfA h hc ht noZs_h k
theorem TU (fs : List FileS) (most : Nat) (n : Bs) {j : Nat} {f : FileS} (hs : GG fs) (hn : n.length ≤ 1000) (hfn : Cf fs n = some j) (hj : fs[j]? = some f) : AcF Tryz.prog Eo (fun i => [.hp i 0, BC n]) (AB fs most) (fun k => .tup [.h k, iD 0]) (Ak f.2.1) (AB fs most) := by
 intro i nx hi
 have hsf := hs f (List.mem_of_getElem? hj)
 refine A8 N9 (by simp only [m_disk_Disk_Read, List.length]; decide) ?_
 rw [show [(i, AB fs most)] = [(i, .box Af [.mp (Ae fs) (fs.map fileO), iD most])] from rfl]
 simp only [m_disk_Disk_Read]; refine WK ?_; try with_reducible exact trivial
 obtain ⟨f', hj', hfe⟩ := BH hfn
 rw [hj] at hj'
 cases hj'
 refine JI (i := nx) (j := j) (ks := Ae fs) (l := fs.map fileO) (key := strV n) (eb := Ah) (lc := [Ak f.2.1, iD f.2.2]) (by refine WK ?_; try with_reducible exact trivial) (by refine WK ?_; try with_reducible exact trivial) (Aa _ _ _) kd9 Tryz.underlying97 (Ez (by omega)) (CX hs) (by unfold Ae; rw [List.getElem?_map, hj, ← hfe]; rfl) (by rw [List.getElem?_map, hj]; rfl) ?_
 refine WK ?_; try with_reducible exact trivial
 refine WQ (nx + 2) (Aa _ _ _) rfl (by simp -dsimp (disch := omega) only [↓MC.xwp, ↓Ce, ↓xdr, ↓MOp.xwp, dvs, dv, dvu, dvo, dvp, dgb, dGd, DX, cond_true, cond_false, Gf, Bg, CQ, Dp, DD, Du, ptr, bsc, cv, uo, uof, Bq, xpr, DL, EL, FM, FB, Gi, FT, Gj, xst, xgp, glc, F8, DV, FY, FZ, FW, FX, DU, FV, FN, FU, DN, DR, Cj, Dw, Fv, dsl, dif, BV, CP, BI, scs, rowOf, AU, dtk, DC, BJ, pev, Bl, Bv, Aq, Bz, psl, Ba, ↓DI, ↓CB, ↓FP, ↓Fq, Dz, FD, FC, Dj, BG, kp, Di, Dv, E9, Dt, FI, CZ, AQ, BB, nb, Fe, Cb, Bd, apart, Aj, Bc, heldOk, Op.operands, Nat.reduceAdd, forall_eq_or_imp, D.plain, reduceCtorEq, if_true, if_false, ↓reduceIte, ne_eq, Bool.cond_true, Bool.cond_false, forall_const, implies_true, forall_eq, Int.reduceEq, Int.reduceLT, Int.reduceLE, Int.reduceAdd, Int.reduceSub, Int.reduceMul, Int.reduceToNat, Nat.reduceMul, Nat.reduceLeDiff, Nat.reduceLT, Nat.reduceSub, Nat.reduceBEq, Nat.reduceEqDiff, CY, bytesD, iD, CU, AO, BC, bD, DB, List.map_cons, List.map_nil, Du]; exact Qr f.2.1 (by omega)) (OZ _) fun k n1 h1 h2 => ?_
 refine WK ?_; try with_reducible exact trivial
 refine Dc (t' := .mk _) (RT.cons _ (IP n f.2.1 f.2.2 hj hfe (by omega) (by omega) (by omega) (by omega) (by omega) (by omega))) ?_
 have hsame : fs.set j (n, f.2.1, f.2.2) = fs := Gm (by rw [hj, ← hfe])
 rw [hsame]
 exact C9 ⟨k, by omega, by omega, rfl, rfl⟩
theorem Sm (fs : List FileS) (most : Nat) (n : Bs) (hs : GG fs) (hn : n.length ≤ 1000) (hfn : Cf fs n = none) : Ry Tryz.prog Eo (fun i => [.hp i 0, BC n]) (AB fs most) (.tup [.sc (.slice none 0 0), iD 5]) (AB fs most) := by
 intro i nx hi
 refine A8 N9 (by simp only [m_disk_Disk_Read, List.length]; decide) ?_
 rw [show [(i, AB fs most)] = [(i, .box Af [.mp (Ae fs) (fs.map fileO), iD most])] from rfl]
 simp only [m_disk_Disk_Read]; refine WK ?_; try with_reducible exact trivial
 refine MP (i := nx) (ks := Ae fs) (l := fs.map fileO) (key := strV n) (by refine WK ?_; try with_reducible exact trivial) (by refine WK ?_; try with_reducible exact trivial) (Aa _ _ _) kd9 Tryz.underlying97 (z := .pointer none) Oi (Ez (by omega)) (CX hs) (Hz hfn) ?_
 refine WK ?_; try with_reducible exact trivial
 refine Dc (t' := .mk _) (FH (by omega)) ?_
 exact C9 ⟨rfl, rfl⟩
theorem Af2 (fs : List FileS) (most : Nat) (n : Bs) {j : Nat} {f : FileS} (hs : GG fs) (hn : n.length ≤ 1000) (hfn : Cf fs n = some j) (hj : fs[j]? = some f) (hsy : f.2.2 ≤ f.2.1.length) : AcF Tryz.prog JA (fun i => [.hp i 0, BC n]) (AB fs most) (fun k => .tup [.h k, iD 0]) (Ak (f.2.1.take f.2.2)) (AB fs most) := by
 intro i nx hi
 have hsf := hs f (List.mem_of_getElem? hj)
 refine A8 Rl (by simp only [m_disk_Disk_Synced, List.length]; decide) ?_
 rw [show [(i, AB fs most)] = [(i, .box Af [.mp (Ae fs) (fs.map fileO), iD most])] from rfl]
 simp only [m_disk_Disk_Synced]; refine WK ?_; try with_reducible exact trivial
 obtain ⟨f', hj', hfe⟩ := BH hfn
 rw [hj] at hj'
 cases hj'
 refine JI (i := nx) (j := j) (ks := Ae fs) (l := fs.map fileO) (key := strV n) (eb := Ah) (lc := [Ak f.2.1, iD f.2.2]) (by refine WK ?_; try with_reducible exact trivial) (by refine WK ?_; try with_reducible exact trivial) (Aa _ _ _) kd9 Tryz.underlying97 (Ez (by omega)) (CX hs) (by unfold Ae; rw [List.getElem?_map, hj, ← hfe]; rfl) (by rw [List.getElem?_map, hj]; rfl) ?_
 refine WK ?_; try with_reducible exact trivial
 refine ocut ?_
 refine WK ?_; try with_reducible exact trivial
 refine ocut ?_
 refine WK ?_; try with_reducible exact trivial
 have hb : D.sl f.2.2 ((f.2.1.map bD).take f.2.2) = bytesD (f.2.1.take f.2.2) := by
  simp only [bytesD, List.length_take, Nat.min_eq_left hsy, List.map_take]
 refine WQ (nx + 2) (Aa _ _ _) rfl (by simp -dsimp (disch := omega) only [↓MC.xwp, ↓Ce, ↓xdr, ↓MOp.xwp, dvs, dv, dvu, dvo, dvp, dgb, dGd, DX, cond_true, cond_false, Gf, Bg, CQ, Dp, DD, Du, ptr, bsc, cv, uo, uof, Bq, xpr, DL, EL, FM, FB, Gi, FT, Gj, xst, xgp, glc, F8, DV, FY, FZ, FW, FX, DU, FV, FN, FU, DN, DR, Cj, Dw, Fv, dsl, dif, BV, CP, BI, scs, rowOf, AU, dtk, DC, BJ, pev, Bl, Bv, Aq, Bz, psl, Ba, ↓DI, ↓CB, ↓FP, ↓Fq, Dz, FD, FC, Dj, BG, kp, Di, Dv, E9, Dt, FI, CZ, AQ, BB, nb, Fe, Cb, Bd, apart, Aj, Bc, heldOk, Op.operands, Nat.reduceAdd, forall_eq_or_imp, D.plain, reduceCtorEq, if_true, if_false, ↓reduceIte, ne_eq, Bool.cond_true, Bool.cond_false, forall_const, implies_true, forall_eq, Int.reduceEq, Int.reduceLT, Int.reduceLE, Int.reduceAdd, Int.reduceSub, Int.reduceMul, Int.reduceToNat, Nat.reduceMul, Nat.reduceLeDiff, Nat.reduceLT, Nat.reduceSub, Nat.reduceBEq, Nat.reduceEqDiff, CY, bytesD, iD, CU, AO, BC, bD, DB, List.map_cons, List.map_nil, Du]; rw [hb]; exact Qr (f.2.1.take f.2.2) (by rw [List.length_take]; omega)) (OZ _) fun k n1 h1 h2 => ?_
 refine WK ?_; try with_reducible exact trivial
 refine Dc (t' := .mk _) (RT.cons _ (IP n f.2.1 f.2.2 hj hfe (by omega) (by omega) (by omega) (by omega) (by omega) (by omega))) ?_
 have hsame : fs.set j (n, f.2.1, f.2.2) = fs := Gm (by rw [hj, ← hfe])
 rw [hsame]
 exact C9 ⟨k, by omega, by omega, rfl, rfl⟩
def Jl (fs : List FileS) (n : Bs) : List FileS := match Cf fs n with | none => fs | some j => fs.eraseIdx j
theorem AbW (fs : List FileS) (most : Nat) (n : Bs) (hs : GG fs) (hn : n.length ≤ 1000) : Ry Tryz.prog H5 (fun i => [.hp i 0, BC n]) (AB fs most) (iD (Ko fs n)) (AB (Jl fs n) most) := by
 intro i nx hi
 refine A8 Rq (by simp only [m_disk_Disk_Delete, List.length]; decide) ?_
 rw [show [(i, AB fs most)] = [(i, .box Af [.mp (Ae fs) (fs.map fileO), iD most])] from rfl]
 simp only [m_disk_Disk_Delete]; refine WK ?_; try with_reducible exact trivial
 cases hfn : Cf fs n with
 | none =>
  refine MP (i := nx) (ks := Ae fs) (l := fs.map fileO) (key := strV n) (by refine WK ?_; try with_reducible exact trivial) (by refine WK ?_; try with_reducible exact trivial) (Aa _ _ _) kd9 Tryz.underlying97 (z := .pointer none) Oi (Ez (by omega)) (CX hs) (Hz hfn) ?_
  refine WK ?_; try with_reducible exact trivial
  refine Dc (t' := .mk _) (FH (by omega)) ?_
  refine C9 ⟨?_, ?_⟩ <;> simp only [Ko, Jl, hfn] <;> rfl
 | some j =>
  obtain ⟨f, hj, hfe⟩ := BH hfn
  refine JI (i := nx) (j := j) (ks := Ae fs) (l := fs.map fileO) (key := strV n) (eb := Ah) (lc := [Ak f.2.1, iD f.2.2]) (by refine WK ?_; try with_reducible exact trivial) (by refine WK ?_; try with_reducible exact trivial) (Aa _ _ _) kd9 Tryz.underlying97 (Ez (by omega)) (CX hs) (by unfold Ae; rw [List.getElem?_map, hj, ← hfe]; rfl) (by rw [List.getElem?_map, hj]; rfl) ?_
  have hkj : (Ae fs)[j]? = some (strV n) := by unfold Ae; rw [List.getElem?_map, hj, ← hfe]; rfl
  have hlt := (List.getElem?_eq_some_iff.1 hj).1
  refine WK ?_; try with_reducible exact trivial
  refine Tj (i := nx) (j := j) (ks := Ae fs) (l := (fs.map fileO).set j (.hp (nx + 1) 0)) (key := strV n) (by refine WK ?_; try with_reducible exact trivial) (by refine WK ?_; try with_reducible exact trivial) (by rw [Ac (by omega), Aa]) kd9 Tryz.underlying97 (Ez (by omega)) (CX hs) hkj (List.getElem?_set_self (by rw [List.length_map]; exact hlt)) (by simp) ?_
  refine WK ?_; try with_reducible exact trivial
  have e1 : ((fs.map fileO).set j (.hp (nx + 1) 0)).eraseIdx j = (fs.eraseIdx j).map fileO := by
   rw [List.eraseIdx_set_eq]; exact (JG fileO fs j).symm
  have e2 : (Ae fs).eraseIdx j = Ae (fs.eraseIdx j) := (JG (fun f : FileS => strV f.1) fs j).symm
  rw [e1, e2]
  have hd := RT.del (r := [(nx + 1, .box Ah [Ak f.2.1, iD f.2.2]), (nx, .mp (Ae (fs.eraseIdx j)) ((fs.eraseIdx j).map fileO)), (i, .box Af [.h nx, iD most])]) (nx + 1)
  rw [AX] at hd
  refine Dc (t' := .mk _) (hd.trans (FH (by omega))) ?_
  refine C9 ⟨?_, ?_⟩ <;> simp only [Ko, Jl, hfn] <;> rfl
def Fh (n : Bs) : Bool := decide ((1 : Int) ≤ (n.length : Int)) && decide ((n.length : Int) ≤ 24)
theorem Zv (n : Bs) : ED Tryz.prog J3 [BC n] (AO (Fh n)) := by
 intro nx
 refine A8 Aac (by simp only [m_disk_named, List.length]; decide) ?_
 simp only [m_disk_named]; refine WKX @sz_s ?_; try with_reducible exact trivial
 exact C9 ⟨rfl, rfl⟩
def RG (fs : List FileS) (n : Bs) (at' : Int) (by' : UInt8) : List FileS := match Cf fs n with
 | none => fs
 | some j => let f := fs.getD j default; if 0 ≤ at' ∧ at' < f.2.1.length then fs.set j (n, f.2.1.set at'.toNat (gt f.2.1 at'.toNat ^^^ by'), f.2.2) else fs
def AaK (fs : List FileS) (n : Bs) (at' : Int) : Nat := match Cf fs n with
 | none => 5
 | some j => let f := fs.getD j default; if 0 ≤ at' ∧ at' < f.2.1.length then 0 else 1
theorem turn_a (fs : List FileS) (most : Nat) (n : Bs) (at' : Int) (b : UInt8) (hs : GG fs) (hn : n.length ≤ 1000) : Ry Tryz.prog Ky (fun i => [.hp i 0, BC n, iD at', bD b]) (AB fs most) (iD (AaK fs n at')) (AB (RG fs n at' b) most) := by
 intro i nx hi
 refine A8 Uu (by simp only [m_disk_Disk_Turn, List.length]; decide) ?_
 rw [show [(i, AB fs most)] = [(i, .box Af [.mp (Ae fs) (fs.map fileO), iD most])] from rfl]
 simp only [m_disk_Disk_Turn]; refine WK ?_; try with_reducible exact trivial
 cases hfn : Cf fs n with
 | none =>
  refine MP (i := nx) (ks := Ae fs) (l := fs.map fileO) (key := strV n) (by refine WK ?_; try with_reducible exact trivial) (by refine WK ?_; try with_reducible exact trivial) (Aa _ _ _) kd9 Tryz.underlying97 (z := .pointer none) Oi (Ez (by omega)) (CX hs) (Hz hfn) ?_
  refine WK ?_; try with_reducible exact trivial
  refine Dc (t' := .mk _) (FH (by omega)) ?_
  refine C9 ⟨?_, ?_⟩ <;> simp only [AaK, RG, hfn] <;> rfl
 | some j =>
  obtain ⟨f, hj, hfe⟩ := BH hfn
  have hgd : fs.getD j default = f := by rw [List.getD_eq_getElem?_getD, hj]; rfl
  have hsame : fs.set j (n, f.2.1, f.2.2) = fs := Gm (by rw [hj, ← hfe])
  refine JI (i := nx) (j := j) (ks := Ae fs) (l := fs.map fileO) (key := strV n) (eb := Ah) (lc := [Ak f.2.1, iD f.2.2]) (by refine WK ?_; try with_reducible exact trivial) (by refine WK ?_; try with_reducible exact trivial) (Aa _ _ _) kd9 Tryz.underlying97 (Ez (by omega)) (CX hs) (by unfold Ae; rw [List.getElem?_map, hj, ← hfe]; rfl) (by rw [List.getElem?_map, hj]; rfl) ?_
  rcases Decidable.em (at' < 0) with h0 | h0
  ·refine WK ?_; try with_reducible exact trivial
   refine Dc (t' := .mk _) (Qp n f.2.1 f.2.2 hj hfe (by omega) (by omega) (by omega)) ?_
   rw [hsame]
   refine C9 ⟨?_, ?_⟩ <;> simp only [AaK, RG, hfn, hgd, show ¬ (0 ≤ at' ∧ at' < (f.2.1.length : Int)) from fun h => by omega, if_false] <;> rfl
  ·obtain ⟨a, rfl⟩ := Int.eq_ofNat_of_zero_le (Int.not_lt.1 h0)
   rcases Nat.lt_or_ge a f.2.1.length with h1 | h1
   ·simp -dsimp (disch := omega) only [↓MC.xwp, ↓Ce, ↓xdr, ↓MOp.xwp, dvs, dv, dvu, dvo, dvp, dgb, dGd, DX, cond_true, cond_false, Gf, Bg, CQ, Dp, DD, Du, ptr, bsc, cv, uo, uof, Bq, xpr, DL, EL, FM, FB, Gi, FT, Gj, xst, xgp, glc, F8, DV, FY, FZ, FW, FX, DU, FV, FN, FU, DN, DR, Cj, Dw, Fv, dsl, dif, BV, CP, BI, scs, rowOf, AU, dtk, DC, BJ, pev, Bl, Bv, Aq, Bz, psl, Ba, ↓DI, ↓CB, ↓FP, ↓Fq, Dz, FD, FC, Dj, BG, kp, Di, Dv, E9, Dt, FI, CZ, AQ, BB, nb, Fe, Cb, Bd, apart, Aj, Bc, heldOk, Op.operands, Nat.reduceAdd, forall_eq_or_imp, D.plain, reduceCtorEq, if_true, if_false, ↓reduceIte, ne_eq, Bool.cond_true, Bool.cond_false, forall_const, implies_true, forall_eq, Int.reduceEq, Int.reduceLT, Int.reduceLE, Int.reduceAdd, Int.reduceSub, Int.reduceMul, Int.reduceToNat, Nat.reduceMul, Nat.reduceLeDiff, Nat.reduceLT, Nat.reduceSub, Nat.reduceBEq, Nat.reduceEqDiff, CY, bytesD, iD, CU, AO, BC, bD, DB, U8, AcJ]
    have er : D.row tU8 1 f.2.1.length ((f.2.1.map bD).set a (.sc (.int .u8 ((gt f.2.1 a ^^^ b).toNat : Int)))) = Ak (f.2.1.set a (gt f.2.1 a ^^^ b)) := by
     simp only [Ak, List.length_set, List.map_set, bD, U8]
    rw [er]
    refine Dc (t' := .mk _) (IP n (f.2.1.set a (gt f.2.1 a ^^^ b)) f.2.2 hj hfe (by omega) (by omega) (by omega) (by omega) (by omega) (by omega)) ?_
    refine C9 ⟨?_, ?_⟩ <;> simp only [AaK, RG, hfn, hgd, show (0 ≤ (a : Int) ∧ (a : Int) < (f.2.1.length : Int)) from ⟨by omega, by omega⟩, and_self, if_true, Int.toNat_natCast] <;> rfl
   ·refine WK ?_; try with_reducible exact trivial
    refine Dc (t' := .mk _) (IP n f.2.1 f.2.2 hj hfe (by omega) (by omega) (by omega) (by omega) (by omega) (by omega)) ?_
    rw [hsame]
    refine C9 ⟨?_, ?_⟩ <;> simp only [AaK, RG, hfn, hgd, show ¬ (0 ≤ (a : Int) ∧ (a : Int) < (f.2.1.length : Int)) from fun h => by omega, if_false] <;> rfl
def trimF (fs : List FileS) (n : Bs) (at' : Int) : List FileS := match Cf fs n with
 | none => fs
 | some j => let f := fs.getD j default; if 0 ≤ at' ∧ at' ≤ f.2.1.length then fs.set j (n, f.2.1.take at'.toNat, min f.2.2 at'.toNat) else fs
def AaM (fs : List FileS) (n : Bs) (at' : Int) : Nat := match Cf fs n with
 | none => 5
 | some j => let f := fs.getD j default; if 0 ≤ at' ∧ at' ≤ f.2.1.length then 0 else 1
theorem trim_a (fs : List FileS) (most : Nat) (n : Bs) (at' : Int) (hs : GG fs) (hn : n.length ≤ 1000) : Ry Tryz.prog Kz (fun i => [.hp i 0, BC n, iD at']) (AB fs most) (iD (AaM fs n at')) (AB (trimF fs n at') most) := by
 intro i nx hi
 refine A8 Uw (by simp only [m_disk_Disk_Trim, List.length]; decide) ?_
 rw [show [(i, AB fs most)] = [(i, .box Af [.mp (Ae fs) (fs.map fileO), iD most])] from rfl]
 simp only [m_disk_Disk_Trim]; refine WK ?_; try with_reducible exact trivial
 cases hfn : Cf fs n with
 | none =>
  refine MP (i := nx) (ks := Ae fs) (l := fs.map fileO) (key := strV n) (by refine WK ?_; try with_reducible exact trivial) (by refine WK ?_; try with_reducible exact trivial) (Aa _ _ _) kd9 Tryz.underlying97 (z := .pointer none) Oi (Ez (by omega)) (CX hs) (Hz hfn) ?_
  refine WK ?_; try with_reducible exact trivial
  refine Dc (t' := .mk _) (FH (by omega)) ?_
  refine C9 ⟨?_, ?_⟩ <;> simp only [AaM, trimF, hfn] <;> rfl
 | some j =>
  obtain ⟨f, hj, hfe⟩ := BH hfn
  have hgd : fs.getD j default = f := by rw [List.getD_eq_getElem?_getD, hj]; rfl
  have hsame : fs.set j (n, f.2.1, f.2.2) = fs := Gm (by rw [hj, ← hfe])
  refine JI (i := nx) (j := j) (ks := Ae fs) (l := fs.map fileO) (key := strV n) (eb := Ah) (lc := [Ak f.2.1, iD f.2.2]) (by refine WK ?_; try with_reducible exact trivial) (by refine WK ?_; try with_reducible exact trivial) (Aa _ _ _) kd9 Tryz.underlying97 (Ez (by omega)) (CX hs) (by unfold Ae; rw [List.getElem?_map, hj, ← hfe]; rfl) (by rw [List.getElem?_map, hj]; rfl) ?_
  rcases Decidable.em (at' < 0) with h0 | h0
  ·refine WK ?_; try with_reducible exact trivial
   refine Dc (t' := .mk _) (Qp n f.2.1 f.2.2 hj hfe (by omega) (by omega) (by omega)) ?_
   rw [hsame]
   refine C9 ⟨?_, ?_⟩ <;> simp only [AaM, trimF, hfn, hgd, show ¬ (0 ≤ at' ∧ at' ≤ (f.2.1.length : Int)) from fun h => by omega, if_false] <;> rfl
  ·obtain ⟨a, rfl⟩ := Int.eq_ofNat_of_zero_le (Int.not_lt.1 h0)
   rcases Nat.lt_or_ge f.2.1.length a with h1 | h1
   ·refine WK ?_; try with_reducible exact trivial
    refine Dc (t' := .mk _) (IP n f.2.1 f.2.2 hj hfe (by omega) (by omega) (by omega) (by omega) (by omega) (by omega)) ?_
    rw [hsame]
    refine C9 ⟨?_, ?_⟩ <;> simp only [AaM, trimF, hfn, hgd, show ¬ (0 ≤ (a : Int) ∧ (a : Int) ≤ (f.2.1.length : Int)) from fun h => by omega, if_false] <;> rfl
   ·refine WK ?_; try with_reducible exact trivial
    refine ocut ?_
    refine WK ?_; try with_reducible exact trivial
    refine ofrz ?_
    refine WK ?_; try with_reducible exact trivial
    have er : D.row tU8 1 a ((f.2.1.map bD).take a) = Ak (f.2.1.take a) := by simp only [Ak, List.length_take, Nat.min_eq_left h1, List.map_take]
    rw [er, show min (f.2.2 : Int) (a : Int) = ((min f.2.2 a : Nat) : Int) by omega]
    refine Dc (t' := .mk _) (IP n (f.2.1.take a) (min f.2.2 a) hj hfe (by omega) (by omega) (by omega) (by omega) (by omega) (by omega)) ?_
    refine C9 ⟨?_, ?_⟩ <;> simp only [AaM, trimF, hfn, hgd, show (0 ≤ (a : Int) ∧ (a : Int) ≤ (f.2.1.length : Int)) from ⟨by omega, by omega⟩, and_self, if_true, Int.toNat_natCast] <;> rfl
structure VoteS where
 slot : Int
 ballot : Int
 origin : Int
 full : Bool
 bytes : Bs
def Aar (v : VoteS) : Prop := 0 ≤ v.slot ∧ v.slot < 64 ∧ 1 ≤ v.origin ∧ v.origin ≤ v.ballot ∧ v.ballot ≤ 2147483647 ∧ v.bytes.length ≤ 520
instance (v : VoteS) : Decidable (Aar v) := by unfold Aar; infer_instance
def Agy (b : Nat) : Bs := BX 1 ++ BX b
def voteB (v : VoteS) : Bs := BX 2 ++ (BX v.slot.toNat ++ (BX v.ballot.toNat ++ (BX v.origin.toNat ++ (BX (if v.full then 1 else 0) ++ Be v.bytes))))
def Nc (b : Bs) : Nat := if b.length < 4 then 0 else EK b
theorem Ab5 (b : Bs) (hl : b.length ≤ 1000000000) : ED Tryz.prog Ih [bytesD b] (.tup [iD (Nc b), bytesD (b.drop 4), AO (decide (4 ≤ b.length))]) := by
 have h := Xk b hl
 rcases Nat.lt_or_ge b.length 4 with k | k
 ·rw [if_pos k] at h
  rw [Nc, if_pos k, List.drop_of_length_le (by omega), decide_eq_false (by omega)]
  exact h
 ·rw [if_neg (by omega)] at h
  rw [Nc, if_neg (by omega), decide_eq_true k]
  exact h
def nAt (b : Bs) (j : Nat) : Nat := Nc (b.drop (4 * j))
def textOf (b : Bs) : Bs := match GI b with | some p => p.1 | none => []
def cutV (b : Bs) : VoteS := ⟨nAt b 0, nAt b 1, nAt b 2, decide (nAt b 3 = 1), textOf (b.drop 16)⟩
def zeroV : VoteS := ⟨0, 0, 0, false, []⟩
inductive RecS where
 | bad
 | promise (b : Nat)
 | vote (v : VoteS)
def getV (rec : Bs) : RecS :=
 if Nc rec = 1 then if (1 ≤ Nc (rec.drop 4) ∧ Nc (rec.drop 4) ≤ 2147483647) ∧ Agy (Nc (rec.drop 4)) = rec then .promise (Nc (rec.drop 4)) else .bad
 else if Nc rec = 2 then if Aar (cutV (rec.drop 4)) ∧ voteB (cutV (rec.drop 4)) = rec then .vote (cutV (rec.drop 4)) else .bad
 else .bad
end Go.Proofs.YtgpkbldlkadnjaaGreat
end
section
namespace Go.Sl
open Go.RowKit
section
variable {E : En} {w w' : World} {Z Z' : Nat → Prop} {T T' : Nat → Option Value} {F : Nat → Nat} {r : Ad} {nx : Nat}
variable {P : Program} {held : List Nat} {e e' : Env} {de : DEnv} {K : D → Ad → Nat → Prop}
theorem Yv : ∀ {r : Ad} {G : Nat → Nat}, (∀ p ∈ r, NoZ p.2) → RL w Z T r G → RL w Z' T r G
 | [], G, h, hr => hr
 | p :: r, G, h, ⟨v, F1, F2, h1, h2, h3, h4⟩ => ⟨v, F1, F2, h1, h p (by simp) _ _ _ _ _ _ h2, Yv (fun q hq => h q (by simp [hq])) h3, h4⟩
theorem AdH (i : Nat) {eb : TypeId} {l : List D} {f : FuncId} {ds : List D} {tg : BQ K} (hg : BL r i = some (.box eb l)) (hp : ∀ x ∈ l, x.plain)
  (hc : H9 P f ds (EI r i (.fbx l)) nx (fun d ro nx' => BL ro i = some (.fbx l) ∧ (∀ p ∈ GY ro i, NoZ p.2) ∧ NoZs d ∧ K d ((i, .box eb l) :: GY ro i) nx')) (hh : ∀ j ∈ held, j = i) : Bo P f ds held r nx K tg := by
 intro E w Z T F vs ok hrs
 obtain ⟨v, F1, F2, h1, h2, h3, h4, h5⟩ := ok.roots.get hg
 simp only [Ro] at h2
 obtain ⟨b, us, F0, rfl, hb, hl, hF1⟩ := h2
 obtain ⟨hrl, hF0⟩ := RoL.rs hp hl
 have hob : own (.pointer (some ⟨b, 0, none⟩)) b = 1 := by simp [own, blk]
 have hbF : 0 < F b := by rw [h3, hF1]; omega
 have hblt := ok.lt b hbF
 have hF2b : F2 b = 0 := by have := ok.one b; have := h3 b; have := hF1 b; omega
 have hF2 : ∀ x, F2 x ≤ F x := fun x => by have := h3 x; omega
 have hz1 : ∀ x, Z x → (fun x => Z x ∨ x = b) x := fun x hx => .inl hx
 have hro : Ro w (fun x => Z x ∨ x = b) T (.fbx l) (.pointer (some ⟨b, 0, none⟩)) (fun _ => 0) := by
  simp only [Ro]
  exact ⟨⟨b, rfl, AhA hb (RsL.keep (fun _ _ => rfl) hz1 (fun _ _ h => h) _ _ hrl) (.inr rfl)⟩, fun _ => trivial⟩
 have hrl1 := h5 w (fun x => Z x ∨ x = b) T (.fbx l) _ _ (fun _ _ => rfl) hz1 (fun _ _ h => h) h1 hro
 have hok : Ok ⟨w, fun x => Z x ∨ x = b, T, F2, nx⟩ w (fun x => Z x ∨ x = b) T F2 (EI r i (.fbx l)) nx := ⟨Fr.refl _ _, fun _ h => h, fun _ _ h => .inl h, fun _ _ => Nat.le_refl _, fun _ _ h => h, fun x => Nat.le_trans (hF2 x) (ok.one x), fun x hx => ok.lt x (Nat.lt_of_lt_of_le hx (hF2 x)), fun x hx => by
  rcases hx with hx | hx
  ·exact ⟨(ok.zlt x hx).1, by have := (ok.zlt x hx).2; have := hF2 x; omega⟩
  ·subst hx; exact ⟨hblt, hF2b⟩, ok.t, ok.cell, Nat.le_refl _, hrl1.cast fun x => by simp⟩
 refine (hc w _ T F2 vs hok (RsL.keep (fun _ _ => rfl) hz1 (fun _ _ h => h) _ _ hrs)).mono fun en w' ⟨v', hv', d, ro, nx', Z', T', F', p, q, g1, g2, g3, g4⟩ => ?_
 have hsz := p.fr.size
 dsimp only at hsz
 have hsame : ∀ x, x < w.heap.size → F2 x = 0 → w'.heap[x]? = w.heap[x]? := fun x hx h0 => p.fr.same x hx (by dsimp only; omega)
 obtain ⟨v0, G1, G2, t1, t2, t3, t4, _⟩ := p.roots.get g1
 have hG : ∀ x, x < w.heap.size → G2 x ≤ F2 x := fun x hx => by have := p.fo x hx; have := t3 x; dsimp only at *; omega
 have hG1 : ∀ x, G2 x ≤ 1 := fun x => by have := p.one x; have := t3 x; omega
 have hGl : ∀ x, 0 < G2 x → x < w'.heap.size := fun x hx => p.lt x (by have := t3 x; omega)
 have hob0 : ∀ x, x ≠ b → own (.pointer (some ⟨b, 0, none⟩)) x = 0 := fun x hx => by simp [own, blk, Ne.symm hx]
 have hzb : ∀ x, Z x → F2 x = 0 ∧ x < w.heap.size ∧ x ≠ b := fun x hx => by
  have hq := ok.zlt x hx; have := hF2 x
  exact ⟨by omega, hq.1, fun e => by subst e; omega⟩
 have hRo : Ro w' Z T' (.box eb l) (.pointer (some ⟨b, 0, none⟩)) (own (.pointer (some ⟨b, 0, none⟩))) := by
  simp only [Ro]
  exact ⟨b, us, fun _ => 0, rfl, (hsame b hblt hF2b).trans hb, RoL.of (RsL.keep (fun x hx => hsame x (hzb x hx).2.1 (hzb x hx).1) (fun _ h => h) p.names _ _ hrl), fun x => by simp⟩
 refine ⟨v', hv', d, (i, .box eb l) :: GY ro i, nx', Z, T', fun x => own (.pointer (some ⟨b, 0, none⟩)) x + G2 x, ?_, ?_, g3 _ _ _ _ _ q, g4⟩
 ·have hle : ∀ x, x < w.heap.size → own (.pointer (some ⟨b, 0, none⟩)) x + G2 x ≤ F x := fun x hx => by have := hG x hx; have := h3 x; have := hF1 x; omega
  refine ⟨ok.fr.step p.fr (fun x hx hM => ?_), ok.z, ok.zo, fun x hx => ?_, fun j u hu => p.names j u (ok.names j u hu), fun x => ?_, fun x hx => ?_, fun x hx => ?_, p.t, p.cell, Nat.le_trans ok.ge p.ge, ⟨_, _, G2, p.names _ _ h1, hRo, Yv g2 t4, fun x => rfl⟩⟩
  ·have := ok.fo x hx; have := hF2 x; dsimp only at hM; show 0 < E.F x; omega
  ·have hs := ok.fr.size
   exact Nat.le_trans (hle x (by omega)) (ok.fo x hx)
  ·by_cases hx : x < w.heap.size
   ·exact Nat.le_trans (hle x hx) (ok.one x)
   ·rw [hob0 x (fun e => hx (by rw [e]; exact hblt))]; have := hG1 x; omega
  ·by_cases hxb : x = b
   ·subst hxb; omega
   ·rw [hob0 x hxb] at hx; exact hGl x (by omega)
  ·obtain ⟨z1, z2, z3⟩ := hzb x hx
   refine ⟨by omega, ?_⟩
   have := hG x z2
   have := hob0 x z3
   omega
 ·refine ⟨fun x hx => hsame x (hzb x hx).2.1 (hzb x hx).1, fun _ h => h, p.names, fun j hj ho u bu hu hbk => ?_⟩
  rw [hh j hj, h1] at hu
  cases hu
  simp only [blk, Option.some.injEq] at hbk
  subst hbk
  exact hsame b hblt hF2b
theorem Sj {i : Nat} {d c : D} : ∀ {r : Ad}, BL r i = some c → BL (EI r i d) i = some d
 | [], h => by simp [BL] at h
 | p :: r, h => by
  simp only [BL] at h
  simp only [EI]
  by_cases hp : p.1 = i
  ·simp [hp, BL]
  ·rw [if_neg hp] at h
   rw [if_neg hp]
   simp only [BL, if_neg hp]
   exact Sj h
theorem AdF (i off : Nat) {eb : TypeId} {l lm : List D} {ks : List Value} {f : FuncId} {ds : List D} {t t' : BQ K} (hg : BL r i = some (.box eb l)) (hx : l[off]? = some (.mp ks lm)) (hh : ∀ j ∈ held, j = i)
  (k : Bo P f ds held ((nx, .mp ks lm) :: EI r i (.box eb (l.set off (.h nx)))) (nx + 1) K t') : Bo P f ds held r nx K t := by
 intro E w Z T F vs ok hrs
 obtain ⟨v, b, u, Fx, a1, a2, a3, a4, _⟩ := PD (nx := nx) (Rz.box eb) ok.roots hg hx
 have hT := FO (v := u) (ok.t nx (Nat.le_refl _))
 have hone := LP a4 (.inr (.inr ⟨_, _, rfl⟩))
 have hr' : RL w Z (F9 T nx u) r F := ok.roots.keep (fun _ h => h) hT (fun _ _ => rfl)
 obtain ⟨v', b', u', Fx', c1, c2, c3, c4, c5⟩ := PD (nx := nx) (Rz.box eb) hr' hg hx
 rw [hT i _ a1] at c1
 cases c1
 rw [a2] at c2
 cases c2
 rw [a3] at c3
 cases c3
 have hne : nx ≠ i := fun e => by subst e; rw [ok.t nx (Nat.le_refl _)] at a1; cases a1
 obtain ⟨o1, o2⟩ := ok.name (held := held) hone (fun _ => rfl) (c5 (.h nx) (by simp only [Rs]; exact BR _ _ _) (BR _ _ _))
 refine (k E w Z _ F vs o1 (RsL.keep (fun _ _ => rfl) (fun _ h => h) hT _ _ hrs)).mono fun en w' ⟨v2, hv2, d, r', nx', Z', T', F', p1, p2, p3⟩ => ⟨v2, hv2, d, r', nx', Z', T', F', p1, o2.trans p2 fun j hj ho => .inl ?_, p3⟩
 rw [hh j hj]
 unfold heldOk
 rw [Ac hne, Sj hg]
 trivial
theorem TZ : ∀ {l : List D}, (∀ d ∈ l, NoZ d) → ∀ (w : World) (Z Z' : Nat → Prop) (T : Nat → Option Value) (us : List Value) (F : Nat → Nat), RoL w Z T l us F → RoL w Z' T l us F
 | [], _, w, Z, Z', T, us, F, h => by simp only [RoL] at h ⊢; exact h
 | d :: l, hl, w, Z, Z', T, us, F, h => by
  simp only [RoL] at h ⊢
  obtain ⟨u, us', F1, F2, rfl, h1, h2, h3⟩ := h
  exact ⟨u, us', F1, F2, rfl, hl d (by simp) w Z Z' T u F1 h1, TZ (fun d hd => hl d (by simp [hd])) w Z Z' T us' F2 h2, h3⟩
theorem noZ_sc (v : Value) : NoZ (.sc v) := fun w Z Z' T u F h => by simp only [Ro, Rs] at h ⊢; exact h
theorem Aim {e : TypeId} {l : List D} (h : ∀ d ∈ l, NoZ d) : NoZ (.box e l) := fun w Z Z' T v F hr => by
 simp only [Ro] at hr ⊢
 obtain ⟨b, us, F', h0, h1, h2, h3⟩ := hr
 exact ⟨b, us, F', h0, h1, TZ h w Z Z' T us F' h2, h3⟩
theorem noZ_mp {ks : List Value} {l : List D} (h : ∀ d ∈ l, NoZ d) : NoZ (.mp ks l) := fun w Z Z' T v F hr => by
 simp only [Ro] at hr ⊢
 obtain ⟨b, us, F', h0, h1, h2, h3⟩ := hr
 exact ⟨b, us, F', h0, h1, TZ h w Z Z' T us F' h2, h3⟩
end
end Go.Sl
end
section
set_option maxHeartbeats 3000000
attribute [local irreducible] Go.Sl.Chk Go.Sl.Br Go.Sl.Or2 Go.Sl.Ld Go.Sl.Ldn Go.Sl.LdB Go.Sl.Stn Go.Sl.New Go.Sl.Run Go.Sl.Ec Go.Sl.D9 Go.Sl.Call Go.Sl.Cc Go.Sl.Ed Go.Sl.Alt Go.Sl.Om Go.Sl.xpk Go.Sl.EX Go.Sl.EY Go.Sl.DLd Go.Sl.ES Go.Sl.DBs Go.Sl.Bo Go.Sl.Et Go.Sl.Es Go.Sl.Dk Go.Sl.DGC Go.Sl.Dq Go.Sl.Fj Go.Sl.D8 Go.Sl.Ent Go.Sl.Bg Go.Sl.dv Go.Sl.ev Go.Sl.Am
namespace Go.Proofs.YtgpkbldlkadnjaaGreat
open Go Go.Sl Go.RowKit
def Ff (fs : List FileS) : Nat := (fs.map fun f => f.2.1.length).sum
theorem Ad4 (fs : List FileS) : ((List.range fs.length).map fun j => (fs.getD j default).2.1.length).sum = Ff fs := by
 rw [Ff]
 congr 1
 refine List.ext_getElem (by simp) fun k h1 h2 => ?_
 simp at h1
 simp [List.getD_eq_getElem?_getD, h1]
theorem UR {S : List Nat} {N : Nat} (h : S.Nodup) (hl : ∀ j ∈ S, j < N) : S.Perm ((List.range N).filter fun j => decide (j ∈ S)) :=
 (List.perm_ext_iff_of_nodup h (List.nodup_range.filter _)).2 fun j => by
  simp only [List.mem_filter, List.mem_range, decide_eq_true_eq]
  exact ⟨fun hj => ⟨hl j hj, hj⟩, fun hj => hj.2⟩
theorem SK {S : List Nat} {N : Nat} (h : S.Nodup) (hl : ∀ j ∈ S, j < N) : S.length ≤ N := by
 rw [(UR h hl).length_eq]
 have := List.length_filter_le (fun j => decide (j ∈ S)) (List.range N)
 simpa using this
theorem QF (p : Nat → Bool) (g : Nat → Nat) : ∀ l : List Nat, ((l.filter p).map g).sum ≤ (l.map g).sum
 | [] => by simp
 | x :: l => by
  have := QF p g l
  rw [List.filter_cons]
  split
  ·simp only [List.map_cons, List.sum_cons]; omega
  ·simp only [List.map_cons, List.sum_cons]; omega
theorem Af4 {S : List Nat} {fs : List FileS} (h : S.Nodup) (hl : ∀ j ∈ S, j < fs.length) : (S.map fun j => (fs.getD j default).2.1.length).sum ≤ Ff fs := by
 rw [((UR h hl).map _).sum_nat, ← Ad4]
 exact QF _ _ _
theorem WF {S : List Nat} {N : Nat} (h : S.Nodup) (hl : ∀ j ∈ S, j < N) (ha : ∀ j, j < N → j ∈ S) : S.Perm (List.range N) :=
 (List.perm_ext_iff_of_nodup h List.nodup_range).2 fun j => ⟨fun hj => List.mem_range.2 (hl j hj), fun hj => ha j (List.mem_range.1 hj)⟩
theorem used_l (fs : List FileS) (most : Nat) (hs : GG fs) (hu : Ff fs ≤ 1000000) {i m nx : Nat} (hi : i < nx) (hm : m < nx) (hne : m ≠ i) : H9 Tryz.prog Kw [.hp i 0] [(m, .mp (Ae fs) (fs.map fileO)), (i, .fbx [.h m, iD most])] nx (fun d ro _ => d = iD (Ff fs) ∧ ro = [(m, .mp (Ae fs) (fs.map fileO)), (i, .fbx [.h m, iD most])]) := by
 refine A8 Ut (by simp only [m_disk_Disk_Used, List.length]; decide) ?_
 simp only [m_disk_Disk_Used]; refine WK ?_; try with_reducible exact trivial
 refine Ahg (im := m) (ks := Ae fs) (l := fs.map fileO) (by refine WK ?_; try with_reducible exact trivial) (Aa _ _ _) Tryz.underlying97 ?_
 refine WK ?_; try with_reducible exact trivial
 refine GL [0, 3, 10] (fun s : List Nat × Nat => ([(0, .hp i 0), (3, iD ((s.1.map fun j => (fs.getD j default).2.1.length).sum : Nat)), (10, .h (nx))], [(nx, .abs (ItA m (Ae fs) (fs.map fileO) s.1)), (i, .fbx [.h m, iD most])], s.2)) (fun s => s.1.Nodup ∧ (∀ j ∈ s.1, j < fs.length) ∧ nx < s.2) (fun s => fs.length - s.1.length) ([], nx + 1) ⟨List.nodup_nil, by simp, by dsimp only; omega⟩ (Ent.of (by with_unfolding_all rfl) rfl) ?_
 rintro ⟨S, n⟩ ⟨hS, hSl, hn⟩
 dsimp only at hS hSl hn ⊢
 have hSlen : S.length ≤ fs.length := SK hS hSl
 refine WK ?_; try with_reducible exact trivial
 refine dnext (ni := nx) (im := m) (ks := Ae fs) (l := fs.map fileO) (S := S) (by refine WK ?_; try with_reducible exact trivial) (Aa _ _ _) (by simp) (fun hall => ?_) (fun j key hj hjS => ?_)
 ·refine WK ?_; try with_reducible exact trivial
  have hp : S.Perm (List.range fs.length) := WF hS hSl (fun j hj => hall j (by unfold Ae; rw [List.length_map]; exact hj))
  have hsum : (S.map fun j => (fs.getD j default).2.1.length).sum = Ff fs := by
   rw [(hp.map _).sum_nat, Ad4]
  rw [hsum]
  refine Dc (t' := .mk _) (RT.itdone nx m (Aa _ _ _)) ?_
  rw [AX]
  exact C9 ⟨rfl, rfl⟩
 ·have hjl : j < fs.length := by have := (List.getElem?_eq_some_iff.1 hj).1; unfold Ae at this; rwa [List.length_map] at this
  have hfj : fs[j]? = some fs[j] := List.getElem?_eq_getElem hjl
  have hgd : fs.getD j default = fs[j] := by rw [List.getD_eq_getElem?_getD, hfj]; rfl
  refine WK ?_; try with_reducible exact trivial
  refine Xi (ni := nx) (im := m) (j := j) (ks := Ae fs) (l := fs.map fileO) (S := S) (key := key) (eb := Ah) (lc := [Ak fs[j].2.1, iD fs[j].2.2]) (by refine WK ?_; try with_reducible exact trivial) (Aa _ _ _) hj (by rw [List.getElem?_map, hfj]; rfl) ?_
  have hS2 : (S ++ [j]).Nodup := List.nodup_append.2 ⟨hS, by simp, by simp only [List.mem_singleton]; rintro a ha b rfl e; exact hjS (e ▸ ha)⟩
  have hSl2 : ∀ k ∈ S ++ [j], k < fs.length := fun k hk => by
   rcases List.mem_append.1 hk with h | h
   ·exact hSl k h
   ·simp only [List.mem_singleton] at h; omega
  have hpart := Af4 hS2 hSl2
  have hadd : ((S ++ [j]).map fun j => (fs.getD j default).2.1.length).sum = (S.map fun j => (fs.getD j default).2.1.length).sum + fs[j].2.1.length := by
   rw [List.map_append, List.sum_append, List.map_cons, List.map_nil, List.sum_cons, hgd]; rfl
  refine WK ?_; try with_reducible exact trivial
  refine ⟨(S ++ [j], n + 2), ⟨hS2, hSl2, by dsimp only; omega⟩, by dsimp only; rw [List.length_append, List.length_singleton]; have := SK hS2 hSl2; rw [List.length_append, List.length_singleton] at this; omega, ?_⟩
  dsimp only
  rw [hadd]
  have f1 := RT.fold (r := [(n + 1, Ak fs[j].2.1), (n, .box Ah [.h (n + 1), iD fs[j].2.2]), (nx, .abs (ItA m (Ae fs) ((fs.map fileO).set j (.hp n 0)) (S ++ [j]))), (i, .fbx [.h m, iD most])]) (n + 1) n 0 (d := Ak fs[j].2.1) (c := .box Ah [.h (n + 1), iD fs[j].2.2]) (l := [.h (n + 1), iD fs[j].2.2]) (by refine WK ?_; try with_reducible exact trivial) (by omega) (by refine WK ?_; try with_reducible exact trivial) rfl rfl
  simp -dsimp (disch := omega) only [Aa, Ac, AV, CE, AX, Bj, Dx, List.set_cons_zero] at f1
  have f2 := RT.itfold (r := [(n, .box Ah [Ak fs[j].2.1, iD fs[j].2.2]), (nx, .abs (ItA m (Ae fs) ((fs.map fileO).set j (.hp n 0)) (S ++ [j]))), (i, .fbx [.h m, iD most])]) n nx m j (ks := Ae fs) (l := (fs.map fileO).set j (.hp n 0)) (S := S ++ [j]) (d := .box Ah [Ak fs[j].2.1, iD fs[j].2.2]) (Aa _ _ _) (by omega) (by rw [Ac (by omega), Aa]) (List.getElem?_set_self (by rw [List.length_map]; exact hjl))
  have e1 : ((fs.map fileO).set j (.hp n 0)).set j (.box Ah [Ak fs[j].2.1, iD fs[j].2.2]) = fs.map fileO := by
   rw [List.set_set]
   exact Gm (by rw [List.getElem?_map, hfj]; rfl)
  rw [e1] at f2
  simp -dsimp (disch := omega) only [↓MC.xwp, ↓Ce, ↓xdr, ↓MOp.xwp, dvs, dv, dvu, dvo, dvp, dgb, dGd, DX, cond_true, cond_false, Gf, Bg, CQ, Dp, DD, Du, ptr, bsc, cv, uo, uof, Bq, xpr, DL, EL, FM, FB, Gi, FT, Gj, xst, xgp, glc, F8, DV, FY, FZ, FW, FX, DU, FV, FN, FU, DN, DR, Cj, Dw, Fv, dsl, dif, BV, CP, BI, scs, rowOf, AU, dtk, DC, BJ, pev, Bl, Bv, Aq, Bz, psl, Ba, ↓DI, ↓CB, ↓FP, ↓Fq, Dz, FD, FC, Dj, BG, kp, Di, Dv, E9, Dt, FI, CZ, AQ, BB, nb, Fe, Cb, Bd, apart, Aj, Bc, heldOk, Op.operands, Nat.reduceAdd, forall_eq_or_imp, D.plain, reduceCtorEq, if_true, if_false, ↓reduceIte, ne_eq, Bool.cond_true, Bool.cond_false, forall_const, implies_true, forall_eq, Int.reduceEq, Int.reduceLT, Int.reduceLE, Int.reduceAdd, Int.reduceSub, Int.reduceMul, Int.reduceToNat, Nat.reduceMul, Nat.reduceLeDiff, Nat.reduceLT, Nat.reduceSub, Nat.reduceBEq, Nat.reduceEqDiff, CY, bytesD, iD, CU, AO, BC, bD, DB] at f2
  refine (Ent.of_rt (f1.trans f2)).trans ?_
  exact (Ent.of (by with_unfolding_all rfl) rfl)
def KX (fs : List FileS) (most : Nat) (n b : Bs) : List FileS :=
 if Fh n = false then fs else if (most : Int) - Ff fs < b.length then fs else
 match Cf fs n with
 | none => fs ++ [(n, b, 0)]
 | some j => fs.set j (n, (fs.getD j default).2.1 ++ b, (fs.getD j default).2.2)
def NL (fs : List FileS) (most : Nat) (n b : Bs) : Nat :=
 if Fh n = false then 1 else if (most : Int) - Ff fs < b.length then 4 else 0
theorem AdE {P : Program} {f : FuncId} {ds : List D} {r : Ad} {nx : Nat} {Q Q' : D → Ad → Nat → Prop} (h : H9 P f ds r nx Q) (k : ∀ d ro nx', nx ≤ nx' → Q d ro nx' → Q' d ro nx') : H9 P f ds r nx Q' := fun w Z T F vs ok hrs =>
 (h w Z T F vs ok hrs).mono fun en w' ⟨v, hv, d, r', nx', Z', T', F', o1, o2, o3⟩ => ⟨v, hv, d, r', nx', Z', T', F', o1, o2, k d r' nx' o1.ge o3⟩
theorem XG (fs : List FileS) (most : Nat) (n b : Bs) (hs : GG fs) (hu : Ff fs ≤ 1000000) (hm : most ≤ 1000000) (hn : n.length ≤ 1000) (hb : b.length ≤ 1000000) : Ry Tryz.prog Gz (fun i => [.hp i 0, BC n, bytesD b]) (AB fs most) (iD (NL fs most n b)) (AB (KX fs most n b) most) := by
 intro i nx hi
 refine A8 Rt (by simp only [m_disk_Disk_Append, List.length]; decide) ?_
 simp only [m_disk_Disk_Append]; refine WK ?_; try with_reducible exact trivial
 refine CS (Zv n) fun n1 h1 => ?_
 refine WK ?_; try with_reducible exact trivial
 cases hnm : Fh n with
 | false =>
  refine WK ?_; try with_reducible exact trivial
  refine C9 ⟨?_, ?_⟩ <;> simp only [NL, KX, hnm, if_true] <;> rfl
 | true =>
  rw [show [(i, AB fs most)] = [(i, .box Af [.mp (Ae fs) (fs.map fileO), iD most])] from rfl]
  refine WK ?_; try with_reducible exact trivial
  refine AdF i 0 (t' := .mk _) (Aa _ _ _) rfl (by simp) ?_
  rw [AV, List.set_cons_zero]
  refine AdH i (eb := Af) (l := [.h n1, iD most]) (by rw [Ac (by omega)]; exact Aa _ _ _) (by simp [D.plain]) ?_ (by simp)
  have hul := used_l fs most hs hu (i := i) (m := n1) (nx := n1 + 1) (by omega) (by omega) (by omega)
  rw [CE (by omega), AV]
  refine AdE hul fun d ro n2 h2 ⟨hd, hro⟩ => ?_
  subst hd; subst hro
  refine ⟨by refine WK ?_; try with_reducible exact trivial, ?_, Aik _, ?_⟩
  ·rw [Bj (by omega), AX]
   intro p hp
   simp only [List.mem_singleton] at hp
   subst hp
   refine noZ_mp fun d hd => ?_
   obtain ⟨f, _, rfl⟩ := List.mem_map.1 hd
   refine Aim fun d hd => ?_
   simp only [List.mem_cons, List.not_mem_nil, or_false] at hd
   rcases hd with rfl | rfl
   ·exact OZ _
   ·exact noZ_sc _
  rw [Bj (by omega), AX]
  refine WK ?_; try with_reducible exact trivial
  have hpk := RT.only (r := [(i, .box Af [.h n1, iD most]), (n1, .mp (Ae fs) (fs.map fileO))]) [n1, i]
  simp -dsimp (disch := omega) only [Aa, Ac, AV, CE, AX, Bj, EQ] at hpk
  refine brd (fun hful => ?_) (fun hful => ?_)
  ·refine WK ?_; try with_reducible exact trivial
   refine Dc (t' := .mk _) (hpk.trans (FH (by omega))) ?_
   refine C9 ⟨?_, ?_⟩ <;> simp only [NL, KX, hnm, hful, if_true, Bool.true_eq_false, if_false] <;> rfl
  ·refine WK ?_; try with_reducible exact trivial
   cases hfn : Cf fs n with
   | none =>
    refine MP (i := n1) (ks := Ae fs) (l := fs.map fileO) (key := strV n) (by refine WK ?_; try with_reducible exact trivial) (by refine WK ?_; try with_reducible exact trivial) (by rw [Ac (by omega), Aa]) kd9 Tryz.underlying97 (z := .pointer none) Oi (Ez (by omega)) (CX hs) (Hz hfn) ?_
    refine WK ?_; try with_reducible exact trivial
    refine Q8 (i := n1) (ks := Ae fs) (l := fs.map fileO) (key := strV n) (d := .hp n2 0) (by refine WK ?_; try with_reducible exact trivial) (by refine WK ?_; try with_reducible exact trivial) (by refine WK ?_; try with_reducible exact trivial) (by refine WK ?_; try with_reducible exact trivial) kd9 Tryz.underlying97 (Ez (by omega)) (CX hs) (Hz hfn) (by simp only [D.plain]) (by simp) ?_
    have hks2 : ∀ x ∈ Ae fs ++ [strV n], ∃ l, keyOf Tryz.prog 9 x = some l := fun x hx => by
     rcases List.mem_append.1 hx with h | h
     ·exact CX hs x h
     ·simp only [List.mem_singleton] at h; subst h; exact ⟨_, Ez (by omega)⟩
    have hll : (Ae fs).length = fs.length := by unfold Ae; rw [List.length_map]
    have hg2 : (fs.map fileO ++ [D.hp n2 0])[fs.length]? = some (.hp n2 0) := by rw [List.getElem?_append_right (by rw [List.length_map]; exact Nat.le_refl _), List.length_map, Nat.sub_self]; rfl
    refine WK ?_; try with_reducible exact trivial
    refine AbU (i := n1) (j := fs.length) (ks := Ae fs ++ [strV n]) (l := fs.map fileO ++ [.hp n2 0]) (key := strV n) (d := .hp n2 0) (by refine WK ?_; try with_reducible exact trivial) (by refine WK ?_; try with_reducible exact trivial) (by refine WK ?_; try with_reducible exact trivial) kd9 Tryz.underlying97 (Ez (by omega)) hks2 (by rw [List.getElem?_append_right (by omega), hll, Nat.sub_self]; rfl) hg2 (by simp only [D.plain]) ?_
    refine WK ?_; try with_reducible exact trivial
    refine Ab0 (m := b.length) (l' := b.map bD) elB (Jo.sl _ _ _) (by simp) Jm (by omega) (by omega) ?_
    refine WK ?_; try with_reducible exact trivial
    have f1 := RT.fold (r := [(n2 + 1, Ak b), (n2, .box Ah [.h (n2 + 1), .sc (.int .i64 0)]), (i, .box Af [.h n1, iD most]), (n1, .mp (Ae fs ++ [strV n]) (fs.map fileO ++ [.hp n2 0]))]) (n2 + 1) n2 0 (d := Ak b) (c := .box Ah [.h (n2 + 1), .sc (.int .i64 0)]) (l := [.h (n2 + 1), .sc (.int .i64 0)]) (Aa _ _ _) (by omega) (by refine WK ?_; try with_reducible exact trivial) rfl rfl
    simp -dsimp (disch := omega) only [Aa, Ac, AV, CE, AX, Bj, Dx, List.set_cons_zero] at f1
    have f2 := RT.fold (r := [(n2, .box Ah [Ak b, .sc (.int .i64 0)]), (i, .box Af [.h n1, iD most]), (n1, .mp (Ae fs ++ [strV n]) (fs.map fileO ++ [.hp n2 0]))]) n2 n1 fs.length (d := .box Ah [Ak b, .sc (.int .i64 0)]) (c := .mp (Ae fs ++ [strV n]) (fs.map fileO ++ [.hp n2 0])) (l := fs.map fileO ++ [.hp n2 0]) (Aa _ _ _) (by omega) (by refine WK ?_; try with_reducible exact trivial) rfl hg2
    have es : (fs.map fileO ++ [D.hp n2 0]).set fs.length (.box Ah [Ak b, .sc (.int .i64 0)]) = (fs ++ [(n, b, 0)]).map fileO := by
     rw [List.set_append_right _ _ (by rw [List.length_map]; exact Nat.le_refl _), List.length_map, Nat.sub_self, List.map_append]
     rfl
    have en : Ae fs ++ [strV n] = Ae (fs ++ [(n, b, 0)]) := by unfold Ae; rw [List.map_append]; rfl
    simp only [Dx] at f2
    rw [es] at f2
    simp -dsimp (disch := omega) only [↓MC.xwp, ↓Ce, ↓xdr, ↓MOp.xwp, dvs, dv, dvu, dvo, dvp, dgb, dGd, DX, cond_true, cond_false, Gf, Bg, CQ, Dp, DD, Du, ptr, bsc, cv, uo, uof, Bq, xpr, DL, EL, FM, FB, Gi, FT, Gj, xst, xgp, glc, F8, DV, FY, FZ, FW, FX, DU, FV, FN, FU, DN, DR, Cj, Dw, Fv, dsl, dif, BV, CP, BI, scs, rowOf, AU, dtk, DC, BJ, pev, Bl, Bv, Aq, Bz, psl, Ba, ↓DI, ↓CB, ↓FP, ↓Fq, Dz, FD, FC, Dj, BG, kp, Di, Dv, E9, Dt, FI, CZ, AQ, BB, nb, Fe, Cb, Bd, apart, Aj, Bc, heldOk, Op.operands, Nat.reduceAdd, forall_eq_or_imp, D.plain, reduceCtorEq, if_true, if_false, ↓reduceIte, ne_eq, Bool.cond_true, Bool.cond_false, forall_const, implies_true, forall_eq, Int.reduceEq, Int.reduceLT, Int.reduceLE, Int.reduceAdd, Int.reduceSub, Int.reduceMul, Int.reduceToNat, Nat.reduceMul, Nat.reduceLeDiff, Nat.reduceLT, Nat.reduceSub, Nat.reduceBEq, Nat.reduceEqDiff, CY, bytesD, iD, CU, AO, BC, bD, DB] at f2
    have f3 := RT.only (r := [(i, .box Af [.h n1, iD most]), (n1, .mp (Ae (fs ++ [(n, b, 0)])) ((fs ++ [(n, b, 0)]).map fileO))]) [n1, i]
    simp -dsimp (disch := omega) only [Aa, Ac, AV, CE, AX, Bj, EQ] at f3
    have f4 := RT.trans f3 (FH (by omega))
    rw [← en] at f4
    refine Dc (t' := .mk _) ((RT.trans f1 f2).trans f4) ?_
    refine C9 ⟨?_, ?_⟩ <;> simp only [NL, KX, hnm, hful, hfn, Bool.true_eq_false, if_false] <;> rfl
   | some j =>
    obtain ⟨f, hj, hfe⟩ := BH hfn
    have hsf := hs f (List.mem_of_getElem? hj)
    have hgd : fs.getD j default = f := by rw [List.getD_eq_getElem?_getD, hj]; rfl
    have hlt := (List.getElem?_eq_some_iff.1 hj).1
    have hkj : (Ae fs)[j]? = some (strV n) := by unfold Ae; rw [List.getElem?_map, hj, ← hfe]; rfl
    refine JI (i := n1) (j := j) (ks := Ae fs) (l := fs.map fileO) (key := strV n) (eb := Ah) (lc := [Ak f.2.1, iD f.2.2]) (by refine WK ?_; try with_reducible exact trivial) (by refine WK ?_; try with_reducible exact trivial) (by rw [Ac (by omega), Aa]) kd9 Tryz.underlying97 (Ez (by omega)) (CX hs) hkj (by rw [List.getElem?_map, hj]; rfl) ?_
    refine WK ?_; try with_reducible exact trivial
    refine AbU (i := n1) (j := j) (ks := Ae fs) (l := (fs.map fileO).set j (.hp n2 0)) (key := strV n) (d := .hp n2 0) (by refine WK ?_; try with_reducible exact trivial) (by refine WK ?_; try with_reducible exact trivial) (by refine WK ?_; try with_reducible exact trivial) kd9 Tryz.underlying97 (Ez (by omega)) (CX hs) hkj (List.getElem?_set_self (by rw [List.length_map]; exact hlt)) (by simp only [D.plain]) ?_
    refine WK ?_; try with_reducible exact trivial
    refine NH (i := n2 + 1) (m := b.length) (l' := b.map bD) elB (l := f.2.1.map bD) (n := f.2.1.length) (by refine WK ?_; try with_reducible exact trivial) (Jo.sl _ _ _) (by simp) Jm (by omega) (by omega) (by simp) ?_
    refine WK ?_; try with_reducible exact trivial
    have er : D.row 5 1 (f.2.1.length + b.length) (f.2.1.map bD ++ b.map bD) = Ak (f.2.1 ++ b) := by simp only [Ak, List.length_append, List.map_append]
    rw [er]
    have f3 := RT.only (r := [(n2 + 2, Ak (f.2.1 ++ b)), (n2, .box Ah [.h (n2 + 2), iD f.2.2]), (i, .box Af [.h n1, iD most]), (n1, .mp (Ae fs) ((fs.map fileO).set j (.hp n2 0)))]) [n2 + 2, n2, n1, i]
    simp -dsimp (disch := omega) only [Aa, Ac, AV, CE, AX, Bj, EQ] at f3
    refine Dc (t' := .mk _) (RT.trans f3 (IP n (f.2.1 ++ b) f.2.2 hj hfe (by omega) (by omega) (by omega) (by omega) (by omega) (by omega))) ?_
    refine C9 ⟨?_, ?_⟩ <;> simp only [NL, KX, hnm, hful, hfn, hgd, Bool.true_eq_false, if_false] <;> rfl
end Go.Proofs.YtgpkbldlkadnjaaGreat
end
