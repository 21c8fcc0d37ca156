/- The law ScrubNever, for every input: its row, out of its contract over data. No condition. -/
import Derived.Test.YtgpkbldlkadnjaaGreatJ3
import Derived.Test.YtgpkbldlkadnjaaGreatJ7
import Derived.Test.YtgpkbldlkadnjaaGreatJ5
import Derived.Test.YtgpkbldlkadnjaaGreatRows
set_option linter.unusedVariables false
set_option linter.unusedSimpArgs false
section
namespace Go.Sl
open Go.RowKit Go.ChangeShapes Go.WideShapes Go.ChangeAt Go.Deep
theorem AaQ {P : Program} {w : World} {r : Reach} {base n : Nat} {t e : TypeId} {v : Value} (ht : P.underlying t = some (.array n e)) (h : Value.okWide P w r base t v) : ∃ cs, v = .agg cs ∧ cs.size = P.cellsOf t := by
 simp only [Value.okWide, ht] at h
 obtain ⟨cs, h1, h2, _⟩ := h
 exact ⟨cs, h1, h2⟩
theorem Ha.array {P : Program} {t e0 : TypeId} {H : Type} {enc : TypeId × Value → H} {W : World} {n s : Nat} {α : Type} {e : α → List D} {B : α → Prop} (h : Ha P t s α e B) (ht : P.underlying t = some (.array n e0)) {b0 : Nat} {v : Value} {d : DataW H} {p : List MemPlace}
  (hval : Value.okWide P W .any b0 t v) (k : DataW.Trod enc P W 0 (fun _ => true) true t v d p) (hs : YT P t d) : ∃ a, Rs W (Zw W) T0 (.agg (e a)) v ∧ B a := by
 obtain ⟨cs, rfl, hsz⟩ := AaQ ht hval
 obtain ⟨fuel, hf⟩ := k
 obtain ⟨a, g1, g2⟩ := h.get enc W fuel _ _ hf hs
 exact ⟨a, by simp only [Rs]; exact ⟨cs.toList, by simp, by simpa [Value.cells] using g1⟩, g2⟩
end Go.Sl
namespace Go.Proofs.YtgpkbldlkadnjaaGreat
open Go Go.Sl
theorem op_u16 : Ha Tryz.prog 23 1 Nat (fun z => [.sc (.int .u16 (z : Nat))]) (fun z => z < 65536) :=
 ⟨by kernel_rfl, fun _ => rfl, fun enc W n cs x hx hsz => by
  obtain ⟨a, h1, h2⟩ := (AhP (P := Tryz.prog) Tryz.underlying23 (by kernel_rfl)).get enc W n cs x hx hsz
  obtain ⟨m, rfl, hm⟩ := Afb h2
  exact ⟨m, h1, hm⟩⟩
theorem AhN : Ha Tryz.prog 82 3 Cb spC (fun x => x.at_ < 65536) :=
 (Agx Tryz.underlying82 rfl (by kernel_rfl) (XZ Aes rfl (XZ op_u16 rfl (XZ Aes rfl (Aju _))))).map
  (fun x => (⟨x.1, x.2.1, x.2.2.1⟩ : Cb)) (fun _ => rfl) (fun x h => h.2.1) fun _ => rfl
theorem RI : Ha Tryz.prog 83 21 { l : List Cb // l.length = 7 } (fun l => PG l.1) (fun l => ∀ a ∈ l.1, a.at_ < 65536) := AhR (n := 7) (s := 3) Tryz.underlying83 (by kernel_rfl) AhN
end Go.Proofs.YtgpkbldlkadnjaaGreat
end
section
set_option maxHeartbeats 3000000
attribute [local irreducible] Go.Sl.Chk Go.Sl.Br Go.Sl.Or2 Go.Sl.Ld Go.Sl.Ldn Go.Sl.LdB Go.Sl.Stn Go.Sl.New Go.Sl.Run Go.Sl.Ez Go.Sl.Eu Go.Sl.Call Go.Sl.CQ Go.Sl.EC Go.Sl.Alt Go.Sl.Om Go.Sl.xpk Go.Sl.FM Go.Sl.FN Go.Sl.DLd Go.Sl.Fe Go.Sl.DBs Go.Sl.BG Go.Sl.EN Go.Sl.EM Go.Sl.Dz Go.Sl.DGC Go.Sl.DW Go.Sl.Gl Go.Sl.Ei Go.Sl.Ent Go.Sl.Be Go.Sl.dv Go.Sl.ev Go.Sl.Au
namespace Go.Proofs.YtgpkbldlkadnjaaGreat
open Go Go.Sl Go.RowKit
def O8 (l : List Cb) (aw : List Int) (j : Nat) : Nat := ((List.range j).filter fun i => (gt l i).good && !decide ((i : Int) ∈ aw)).length
def cntF (l : List Cb) (j : Nat) : Nat := ((List.range j).filter fun i => decide ((gt l i).kind ≠ 4)).length
theorem Aaj (l : List Cb) (aw : List Int) (j : Nat) : O8 l aw (j + 1) = O8 l aw j + if ((gt l j).good && !decide ((j : Int) ∈ aw)) = true then 1 else 0 := by
 unfold O8
 rw [List.range_succ, List.filter_append, List.length_append]
 cases h : (gt l j).good && !decide ((j : Int) ∈ aw) <;> simp [h]
theorem Aal (l : List Cb) (j : Nat) : cntF l (j + 1) = cntF l j + if (gt l j).kind ≠ 4 then 1 else 0 := by
 unfold cntF
 rw [List.range_succ, List.filter_append, List.length_append]
 by_cases h : (gt l j).kind = 4 <;> simp [h]
theorem Abj (l : List Cb) (aw : List Int) (j : Nat) : O8 l aw j ≤ j := Nat.le_trans (List.length_filter_le _ _) (by simp)
theorem AfS (l : List Cb) (j : Nat) : cntF l j ≤ j := Nat.le_trans (List.length_filter_le _ _) (by simp)
theorem Vz {x : Cb} (h : x.good = true) : x.kind ≠ 4 := fun e => by simp [Cb.good, e] at h
theorem Aak (l : List Cb) (aw : List Int) (j : Nat) : O8 l aw j ≤ cntF l j := by
 induction j with
 | zero => exact Nat.le_refl _
 | succ j ih =>
  rw [Aaj, Aal]
  split
  ·rename_i h
   simp only [Bool.and_eq_true] at h
   rw [if_pos (Vz h.1)]
   omega
  ·split <;> omega
section
variable {k f : Nat} (hs : CP k f) {n v : Bs} (hn : D5 n) (hv : v.length ≤ 512) (l : List Cb) (aw : List Int)
include hs hv
theorem XM {j : Nat} (hj : j < k + 2 * f) : (DR n aw (Em n k f v l))[j]? = some (if ((gt l j).good && !decide ((j : Int) ∈ aw)) = true then gt (encode k f v) j else []) := by
 have hn7 := hs.n
 have hr := (Ey hs v hj).1
 have := DY v.length hs.k
 rw [Gz n aw (Jj hs l hj), (Gy hs hv l hj).sh (by omega) (by omega) aw]
 congr 1
 by_cases h : (gt l j).good = true ∧ (j : Int) ∉ aw
 ·rw [if_pos h, if_pos (by rw [h.1, decide_eq_false h.2]; rfl)]
 ·rw [if_neg h, if_neg (by simp only [Bool.and_eq_true, Bool.not_eq_true', decide_eq_false_iff_not]; exact h)]
theorem V7 : (MH (DR n aw (Em n k f v l))).length = O8 l aw (k + 2 * f) := by
 have hl : (DR n aw (Em n k f v l)).length = k + 2 * f := by rw [Dy, EG hs]
 rw [Pz (p := fun i => (gt l i).good && !decide ((i : Int) ∈ aw)), hl]
 ·rfl
 ·intro i hi
  rw [hl] at hi
  rw [List.getD_eq_getElem?_getD, XM hs hv l aw hi, Option.getD_some]
  have := (Ey hs v hi).2
  cases h : (gt l i).good && !decide ((i : Int) ∈ aw) with
  | false => simp
  | true => simp [List.length_pos_iff, this]
theorem Af7 : Qm n (Em n k f v l) = decide (cntF l (k + 2 * f) ≠ 0) := by
 have hiff : Qm n (Em n k f v l) = true ↔ cntF l (k + 2 * f) ≠ 0 := by
  unfold Qm cntF
  rw [List.any_eq_true]
  constructor
  ·rintro ⟨fs, hfs, h⟩
   obtain ⟨j, hj, rfl⟩ := List.mem_iff_getElem.1 hfs
   rw [EG hs] at hj
   have e := Jj hs (n := n) (v := v) l hj
   rw [List.getElem?_eq_getElem (by rw [EG hs]; exact hj)] at e
   rw [Option.some.inj e, (Gy hs hv l hj).read] at h
   intro h0
   have : j ∈ (List.range (k + 2 * f)).filter fun i => decide ((gt l i).kind ≠ 4) := List.mem_filter.2 ⟨List.mem_range.2 hj, h⟩
   rw [List.length_eq_zero_iff.1 h0] at this
   simp at this
  ·intro h0
   obtain ⟨j, hj⟩ := List.exists_mem_of_length_pos (Nat.pos_of_ne_zero h0)
   obtain ⟨h1, h2⟩ := List.mem_filter.1 hj
   have hj' := List.mem_range.1 h1
   exact ⟨_, List.mem_of_getElem? (Jj hs l hj'), by rw [(Gy hs hv l hj').read]; exact h2⟩
 by_cases h : cntF l (k + 2 * f) ≠ 0
 ·rw [decide_eq_true h, hiff.2 h]
 ·rw [decide_eq_false h]
  exact Bool.eq_false_iff.2 fun e => h (hiff.1 e)
include hn
theorem Ad3 : JQ k f n aw (Em n k f v l) = if k ≤ O8 l aw (k + 2 * f) then (v, 0) else if cntF l (k + 2 * f) = 0 then ([], 5) else ([], 3) := by
 have hk := hs.k
 have hgf := Aak l aw (k + 2 * f)
 have ha := Af7 hs hv (n := n) l
 split
 ·rename_i h
  refine Aa6 hs hn hv (EG hs l) (by rw [ha, decide_eq_true (by omega)]) (fun j fs hj => ?_) (by rw [V7 hs hv]; exact h)
  have hjl : j < k + 2 * f := by have := (List.getElem?_eq_some_iff.1 hj).1; rwa [EG hs] at this
  have e := XM hs hv (n := n) l aw hjl
  rw [Gz n aw hj] at e
  rw [Option.some.inj e]
  split
  ·exact .inr rfl
  ·exact .inl rfl
 ·rename_i h
  split
  ·rename_i h2
   rw [JQ, if_pos hn, ha, decide_eq_false (by omega), if_neg (by decide)]
  ·rename_i h2
   rw [JQ, if_pos hn, ha, decide_eq_true h2, if_pos rfl]
   exact UT (by rw [Dy, EG hs]) (by rw [BJ, List.length_map, V7 hs hv]; omega)
end
set_option maxRecDepth 100000 in
theorem AjF (a b : UInt8) (v : Bs) (l : List Cb) (aw : List Int) (hvl : v.length ≤ 140737488351232) (hl : l.length = 7) (hat : ∀ x ∈ l, x.at_ < 65536) (hal : aw.length ≤ 140737488351232) : Ed Tryz.prog JW [bD a, bD b, Bv v, .agg (PG l), BP aw] (Ak true) := by
 have e := Qv v
 have hsl := OO l
 intro nx
 refine AU TL (by simp only [m_law25_ScrubNever, List.length]; decide) ?_
 simp only [m_law25_ScrubNever]; refine WK ?_; try with_reducible exact trivial
 refine BH (QG a b) fun n1 g1 => ?_
 have hs : CP (kOf a b) (fOf b) := Nw a b
 have hn7 := hs.n
 have hk1 := hs.k
 generalize kOf a b = k at *
 generalize fOf b = f at *
 simp only [shD]
 refine WK ?_; try with_reducible exact trivial
 refine BH Gm fun n2 g2 => ?_
 rcases Decidable.em (v.length ≤ 512 ∧ aw.length ≤ 20) with h5 | h5
 ·obtain ⟨h5, h20⟩ := h5
  have hnx := Mc
  have hle := EG hs (n := blobN) (v := v) l
  have hok := QB hs hnx h5 l
  have hsx := QA hs h5 (n := blobN) l blobN
  have h1 := OQ hs h5 (n := blobN) l
  have hgr := Ad3 hs hnx h5 l aw
  have hgf := Aak l aw (k + 2 * f)
  have hgle := Abj l aw (k + 2 * f)
  have hfle := AfS l (k + 2 * f)
  simp -dsimp (disch := omega) only [↓MC.xwp, ↓BM, ↓xdr, ↓MOp.xwp, dvs, dv, dvu, dvo, dvp, dgb, dGd, DN, cond_true, cond_false, FZ, Be, CU, Di, Dv, Dl, ptr, bsc, cv, uo, uof, Bj, xpr, DF, EF, FB, E8, F9, FK, Gf, xst, xgp, glc, FW, DL, FU, FV, FQ, FT, DK, FP, FC, FO, DI, DJ, BV, DC, E5, dsl, dif, BK, CE, BB, scs, rowOf, Az, dtk, Du, BF, pev, Bz, BC, Aq, BD, psl, Bc, ↓Dx, ↓BZ, ↓FH, ↓EY, Dp, Ff, E9, Df, Bq, kp, C9, Dk, ES, Dj, Fj, CV, AB, Bi, nb, ET, BL, AY, apart, Af, AX, heldOk, Op.operands, Nat.reduceAdd, forall_eq_or_imp, D.plain, reduceCtorEq, if_true, if_false, ↓reduceIte, ne_eq, Bool.cond_true, Bool.cond_false, forall_const, implies_true, forall_eq, Int.reduceEq, Int.reduceLT, Int.reduceLE, Int.reduceAdd, Int.reduceSub, Int.reduceMul, Int.reduceToNat, Nat.reduceMul, Nat.reduceLeDiff, Nat.reduceLT, Nat.reduceSub, Nat.reduceBEq, Nat.reduceEqDiff, CG, bytesD, iD, BP, Ak, Bv, bD, DB, e, hsl, hl, Qz hl]
  refine chk (Rx l) ?_
  refine WK ?_; try with_reducible exact trivial
  rw [Qz hl]
  refine VK (Ud hs hnx h5 hl hat) fun _ _ n3 g3 ⟨A, G, a1, a2, a3, a4, a5, hd, hro⟩ => ?_
  subst hd hro
  generalize hL : Em blobN k f v l = L at *
  simp only [List.cons_append, List.nil_append, Ew]
  refine WK ?_; try with_reducible exact trivial
  refine HY [A] (Et (Aa _ _ _)) (Tf hs L 6000 1 hle hok (by omega) (a := A) (by omega)) (by simp) fun _ _ n4 g4 ⟨t, L', t1, t2, hd, hlk, hro⟩ => ?_
  have hl' := QP hlk h1
  subst hl' hd hro
  simp only [List.cons_append, List.nil_append, AL]
  refine WK ?_; try with_reducible exact trivial
  refine Gu [2, 4, 8, 11, 13, 14, 16, 17, 18] (fun s : Nat × Nat => ([(2, Bv v), (4, BP aw), (8, .hp nx 0), (11, .hp n1 0), (13, .h G), (14, .hp t 0), (16, iD (O8 l aw s.1 : Nat)), (17, iD (cntF l s.1 : Nat)), (18, iD (s.1 : Nat))], [(t, AL k f L' 6000), (G, .row Qu 1 (k + 2 * f) ((H5 (k + 2 * f) l).map Ak)), (n1, .box Ce [iD k, iD f]), (nx, .box 83 (PG l))], s.2)) (fun s => s.1 ≤ k + 2 * f ∧ t < s.2) (fun s => k + 2 * f - s.1) (0, n4) ⟨by dsimp only; omega, by dsimp only; omega⟩ ((Ent.only [t, G, n1, nx] _ _ _).trans (by simp -dsimp (disch := omega) only [ER, Aa, Ac, AV, Bd]; exact (Ent.of (by with_unfolding_all rfl) rfl))) ?_
  rintro ⟨j, n5⟩ ⟨q1, q2⟩
  dsimp only at q1 q2 ⊢
  simp only [AL]
  have hjg := Abj l aw j
  have hjf := AfS l j
  refine WK ?_; try with_reducible exact trivial
  refine brd (fun hlt => ?_) (fun hge => ?_)
  ·have hj : j < k + 2 * f := by omega
   have hgj := VA l hj
   have h0 := Afh l (j := j) (k := 0) (by omega) (by decide)
   simp only [spC, List.getElem?_cons_zero, Nat.add_zero] at h0
   have hx5 : (gt l j).kind < 5 := Nat.mod_lt _ (by decide)
   have htm := XE (gt l j)
   rw [Int.tmod_eq_emod_of_nonneg (by omega)] at htm
   have hg1 := Aaj l aw j
   have hf1 := Aal l j
   generalize hX : gt l j = x at *
   have hgl := J7 (k + 2 * f) l
   cases hx : x.good with
   | true =>
    rw [hx] at hgj hg1
    have hx4 := Vz hx
    rw [if_pos hx4] at hf1
    have e7 : decide ((x.act.toNat : Int) % 5 = 4) = false := decide_eq_false (by omega)
    refine WKX @hgj ?_; try with_reducible exact trivial
    refine BH (Ah6 aw (j : Int) (by omega)) fun n6 g6 => ?_
    rcases Decidable.em ((j : Int) ∈ aw) with hin | hin
    ·rw [decide_eq_true hin] at hg1 ⊢
     rw [if_neg (by decide)] at hg1
     simp -dsimp (disch := omega) only [↓MC.xwp, ↓BM, ↓xdr, ↓MOp.xwp, dvs, dv, dvu, dvo, dvp, dgb, dGd, DN, cond_true, cond_false, FZ, Be, CU, Di, Dv, Dl, ptr, bsc, cv, uo, uof, Bj, xpr, DF, EF, FB, E8, F9, FK, Gf, xst, xgp, glc, FW, DL, FU, FV, FQ, FT, DK, FP, FC, FO, DI, DJ, BV, DC, E5, dsl, dif, BK, CE, BB, scs, rowOf, Az, dtk, Du, BF, pev, Bz, BC, Aq, BD, psl, Bc, ↓Dx, ↓BZ, ↓FH, ↓EY, Dp, Ff, E9, Df, Bq, kp, C9, Dk, ES, Dj, Fj, CV, AB, Bi, nb, ET, BL, AY, apart, Af, AX, heldOk, Op.operands, Nat.reduceAdd, forall_eq_or_imp, D.plain, reduceCtorEq, if_true, if_false, ↓reduceIte, ne_eq, Bool.cond_true, Bool.cond_false, forall_const, implies_true, forall_eq, Int.reduceEq, Int.reduceLT, Int.reduceLE, Int.reduceAdd, Int.reduceSub, Int.reduceMul, Int.reduceToNat, Nat.reduceMul, Nat.reduceLeDiff, Nat.reduceLT, Nat.reduceSub, Nat.reduceBEq, Nat.reduceEqDiff, CG, bytesD, iD, BP, Ak, Bv, bD, DB, h0, U8, e7]
     refine ⟨(j + 1, n6), ⟨by dsimp only; omega, by dsimp only; omega⟩, by dsimp only; omega, ?_⟩
     dsimp only
     rw [hg1, hf1]
     exact (Ent.of (by with_unfolding_all rfl) rfl)
    ·rw [decide_eq_false hin] at hg1 ⊢
     rw [if_pos (by decide)] at hg1
     simp -dsimp (disch := omega) only [↓MC.xwp, ↓BM, ↓xdr, ↓MOp.xwp, dvs, dv, dvu, dvo, dvp, dgb, dGd, DN, cond_true, cond_false, FZ, Be, CU, Di, Dv, Dl, ptr, bsc, cv, uo, uof, Bj, xpr, DF, EF, FB, E8, F9, FK, Gf, xst, xgp, glc, FW, DL, FU, FV, FQ, FT, DK, FP, FC, FO, DI, DJ, BV, DC, E5, dsl, dif, BK, CE, BB, scs, rowOf, Az, dtk, Du, BF, pev, Bz, BC, Aq, BD, psl, Bc, ↓Dx, ↓BZ, ↓FH, ↓EY, Dp, Ff, E9, Df, Bq, kp, C9, Dk, ES, Dj, Fj, CV, AB, Bi, nb, ET, BL, AY, apart, Af, AX, heldOk, Op.operands, Nat.reduceAdd, forall_eq_or_imp, D.plain, reduceCtorEq, if_true, if_false, ↓reduceIte, ne_eq, Bool.cond_true, Bool.cond_false, forall_const, implies_true, forall_eq, Int.reduceEq, Int.reduceLT, Int.reduceLE, Int.reduceAdd, Int.reduceSub, Int.reduceMul, Int.reduceToNat, Nat.reduceMul, Nat.reduceLeDiff, Nat.reduceLT, Nat.reduceSub, Nat.reduceBEq, Nat.reduceEqDiff, CG, bytesD, iD, BP, Ak, Bv, bD, DB, h0, U8, e7]
     refine ⟨(j + 1, n6), ⟨by dsimp only; omega, by dsimp only; omega⟩, by dsimp only; omega, ?_⟩
     dsimp only
     rw [hg1, hf1]
     exact (Ent.of (by with_unfolding_all rfl) rfl)
   | false =>
    rw [hx] at hgj hg1
    rw [if_neg (by simp)] at hg1
    rcases Decidable.em (x.kind = 4) with hx4 | hx4
    ·rw [if_neg (by omega)] at hf1
     have e7 : decide ((x.act.toNat : Int) % 5 = 4) = true := decide_eq_true (by omega)
     refine WKX @hgj ?_; try with_reducible exact trivial
     repeat ((first | refine Fq (Ak true) ?_ | refine Ic ?_); refine WK ?_; try with_reducible exact trivial)
     simp -dsimp (disch := omega) only [↓MC.xwp, ↓BM, ↓xdr, ↓MOp.xwp, dvs, dv, dvu, dvo, dvp, dgb, dGd, DN, cond_true, cond_false, FZ, Be, CU, Di, Dv, Dl, ptr, bsc, cv, uo, uof, Bj, xpr, DF, EF, FB, E8, F9, FK, Gf, xst, xgp, glc, FW, DL, FU, FV, FQ, FT, DK, FP, FC, FO, DI, DJ, BV, DC, E5, dsl, dif, BK, CE, BB, scs, rowOf, Az, dtk, Du, BF, pev, Bz, BC, Aq, BD, psl, Bc, ↓Dx, ↓BZ, ↓FH, ↓EY, Dp, Ff, E9, Df, Bq, kp, C9, Dk, ES, Dj, Fj, CV, AB, Bi, nb, ET, BL, AY, apart, Af, AX, heldOk, Op.operands, Nat.reduceAdd, forall_eq_or_imp, D.plain, reduceCtorEq, if_true, if_false, ↓reduceIte, ne_eq, Bool.cond_true, Bool.cond_false, forall_const, implies_true, forall_eq, Int.reduceEq, Int.reduceLT, Int.reduceLE, Int.reduceAdd, Int.reduceSub, Int.reduceMul, Int.reduceToNat, Nat.reduceMul, Nat.reduceLeDiff, Nat.reduceLT, Nat.reduceSub, Nat.reduceBEq, Nat.reduceEqDiff, CG, bytesD, iD, BP, Ak, Bv, bD, DB, h0, U8, e7]
     refine ⟨(j + 1, n5), ⟨by dsimp only; omega, by dsimp only; omega⟩, by dsimp only; omega, ?_⟩
     dsimp only
     rw [hg1, hf1]
     exact (Ent.of (by with_unfolding_all rfl) rfl)
    ·rw [if_pos hx4] at hf1
     have e7 : decide ((x.act.toNat : Int) % 5 = 4) = false := decide_eq_false (by omega)
     refine WKX @hgj ?_; try with_reducible exact trivial
     repeat ((first | refine Fq (Ak true) ?_ | refine Ic ?_); refine WK ?_; try with_reducible exact trivial)
     simp -dsimp (disch := omega) only [↓MC.xwp, ↓BM, ↓xdr, ↓MOp.xwp, dvs, dv, dvu, dvo, dvp, dgb, dGd, DN, cond_true, cond_false, FZ, Be, CU, Di, Dv, Dl, ptr, bsc, cv, uo, uof, Bj, xpr, DF, EF, FB, E8, F9, FK, Gf, xst, xgp, glc, FW, DL, FU, FV, FQ, FT, DK, FP, FC, FO, DI, DJ, BV, DC, E5, dsl, dif, BK, CE, BB, scs, rowOf, Az, dtk, Du, BF, pev, Bz, BC, Aq, BD, psl, Bc, ↓Dx, ↓BZ, ↓FH, ↓EY, Dp, Ff, E9, Df, Bq, kp, C9, Dk, ES, Dj, Fj, CV, AB, Bi, nb, ET, BL, AY, apart, Af, AX, heldOk, Op.operands, Nat.reduceAdd, forall_eq_or_imp, D.plain, reduceCtorEq, if_true, if_false, ↓reduceIte, ne_eq, Bool.cond_true, Bool.cond_false, forall_const, implies_true, forall_eq, Int.reduceEq, Int.reduceLT, Int.reduceLE, Int.reduceAdd, Int.reduceSub, Int.reduceMul, Int.reduceToNat, Nat.reduceMul, Nat.reduceLeDiff, Nat.reduceLT, Nat.reduceSub, Nat.reduceBEq, Nat.reduceEqDiff, CG, bytesD, iD, BP, Ak, Bv, bD, DB, h0, U8, e7]
     refine ⟨(j + 1, n5), ⟨by dsimp only; omega, by dsimp only; omega⟩, by dsimp only; omega, ?_⟩
     dsimp only
     rw [hg1, hf1]
     exact (Ent.of (by with_unfolding_all rfl) rfl)
  ·have hj : j = k + 2 * f := by omega
   subst hj
   refine WK ?_; try with_reducible exact trivial
   refine Hu t (PH hs L' 6000 1 blobN aw (by omega) (by decide) (by omega) hok (by omega) hsx) (by omega) (by (repeat rw [Ac (by omega)]); exact Aa _ _ _) (by simp only [List.mem_cons, List.not_mem_nil, or_false, not_false_eq_true]; try omega) fun n6 g6 => ?_
   rw [hgr]
   simp only [AL, VJ]
   rcases Decidable.em (k ≤ O8 l aw (k + 2 * f)) with hk | hk
   ·rw [if_pos hk]
    refine WK ?_; try with_reducible exact trivial
    exact BU ⟨rfl, rfl⟩
   ·rw [if_neg hk]
    rcases Decidable.em (cntF l (k + 2 * f) = 0) with h0 | h0
    ·rw [if_pos h0, h0]
     refine WK ?_; try with_reducible exact trivial
     exact BU ⟨by rw [decide_eq_true (show (⟨#[]⟩ : ByteArray) = ByteArray.empty from rfl)], rfl⟩
    ·rw [if_neg h0]
     refine WK ?_; try with_reducible exact trivial
     exact BU ⟨by rw [decide_eq_true (show (⟨#[]⟩ : ByteArray) = ByteArray.empty from rfl)], rfl⟩
 ·rcases Nat.lt_or_ge 512 v.length with h6 | h6
  ·refine WKX @e ?_; try with_reducible exact trivial
   repeat ((first | refine Fq (Ak true) ?_ | refine Ic ?_); refine WK ?_; try with_reducible exact trivial)
   refine BH Gm fun n3 g3 => ?_
   refine WK ?_; try with_reducible exact trivial
   exact BU ⟨rfl, rfl⟩
  ·have h7 : 20 < aw.length := by omega
   refine WKX @e ?_; try with_reducible exact trivial
   refine BH Gm fun n3 g3 => ?_
   refine WK ?_; try with_reducible exact trivial
   exact BU ⟨rfl, rfl⟩
theorem AjG (a b : UInt8) (v : ByteArray) (hv : v.size ≤ 140737488351232) (l : { l : List Cb // l.length = 7 }) (hat : ∀ x ∈ l.1, x.at_ < 65536) (aw : List Int) (haw : aw.length ≤ 140737488351232 ∧ ∀ z ∈ aw, -9223372036854775808 ≤ z ∧ z ≤ 9223372036854775807) : Ed Tryz.prog JW [bD a, bD b, .sc (.string v), .agg (PG l.1), BP aw] (Ak true) := by
 rw [Ns]
 exact AjF a b _ l.1 aw hv l.2 hat haw.1
end Go.Proofs.YtgpkbldlkadnjaaGreat
end
set_option linter.unusedVariables false
namespace Go.Proofs.YtgpkbldlkadnjaaGreat.scrubNever
open Go Go.Sl Go.ChangeShapes Go.WideShapes Go.ChangeAt Go.RowKit
open Go.ChangeMaps (open_string shut_string)
theorem laidOut : laidOutB Tryz.prog = true := JJ
set_option maxRecDepth 100000 in
theorem lifted (os : Os) (started : os.Started) (H : Type) (enc : TypeId × Value → H) :
  ReturnsInHanded {} Tryz.checked os 7 .any (Rows.scrubNeverSpec.pre6 enc Tryz.prog Tryz.f7 Rows.scrubNeverRow.domain false) (Rows.scrubNeverSpec.post enc Tryz.prog Tryz.f7 false true false false) := by
 refine returnsInHanded_of_change_sized (C := Tryz.checked) Vb started (by kernel_rfl) Tryz.func7
  (ChangeSpec.witness6 (enc := enc) (C := Tryz.checked) false ⟨#[], #[.int .u8 0, .int .u8 0, .string ByteArray.empty, .agg #[.int .u8 0, .int .u16 0, .int .u8 0, .int .u8 0, .int .u16 0, .int .u8 0, .int .u8 0, .int .u16 0, .int .u8 0, .int .u8 0, .int .u16 0, .int .u8 0, .int .u8 0, .int .u16 0, .int .u8 0, .int .u8 0, .int .u16 0, .int .u8 0, .int .u8 0, .int .u16 0, .int .u8 0], .slice none 0 0], []⟩ 8 (by kernel_rfl) (by kernel_rfl) (by kernel_rfl) (by kernel_rfl)) ?_
 intro W base args ds gs before hval0 hW hcnd hsz0 _
 have hsz : (DataW.weightsEach Tryz.prog (Tryz.f7.params.toList ++ Rows.scrubNeverSpec.plain.varTypes Tryz.prog) (ds ++ gs)).all (· ≤ reachBytes) = true := hsz0
 have hval : ∀ (j : Nat) t v, Tryz.f7.params[j]? = some t → args[j]? = some v → Value.okWide Tryz.prog W .any base t v := hval0
 have hW' := hW
 obtain ⟨p, q, hA0, hV, rfl, hfz, hnd⟩ := hW
 have hA : DataW.TrodAll enc Tryz.prog W 0 (fun _ => true) true Tryz.f7.params.toList args.toList ds p := hA0
 rw [Tryz.params7] at hA hval hsz
 obtain ⟨v0, vs0, d0, ds0, p0, q0, hargs, rfl, rfl, h0, r0⟩ := trodAll_cons hA
 obtain ⟨v1, vs1, d1, ds1, p1, q1, rfl, rfl, rfl, h1, r1⟩ := trodAll_cons r0
 obtain ⟨v2, vs2, d2, ds2, p2, q2, rfl, rfl, rfl, h2, r2⟩ := trodAll_cons r1
 obtain ⟨v3, vs3, d3, ds3, p3, q3, rfl, rfl, rfl, h3, r3⟩ := trodAll_cons r2
 obtain ⟨v4, vs4, d4, ds4, p4, q4, rfl, rfl, rfl, h4, r4⟩ := trodAll_cons r3
 obtain ⟨rfl, rfl, rfl⟩ := trodAll_nil r4
 obtain rfl : args = #[v0, v1, v2, v3, v4] := by cases args; simp_all
 obtain ⟨rfl, rfl⟩ := trodVars_none hV
 obtain ⟨a0, rfl, rfl, rfl, w0⟩ := open_int Tryz.underlying5 (hval 0 5 v0 rfl rfl) h0
 obtain ⟨a1, rfl, rfl, rfl, w1⟩ := open_int Tryz.underlying5 (hval 1 5 v1 rfl rfl) h1
 obtain ⟨a2, rfl, rfl, rfl, y2⟩ := open_string Tryz.underlying9 (hval 2 9 v2 rfl rfl) h2
 have w2 : a2.size ≤ 140737488351232 := by
  have z := sized_string hsz (j := 2) (t := 9) rfl rfl
  rw [Array.length_toList] at z
  exact z
 have k3 := h3
 have lt3 : ∀ x ∈ p3, x.block < W.heap.size := by obtain ⟨m, hm⟩ := k3; exact DataW.trod_lt m _ _ _ hm
 obtain ⟨m3, rs3, hb3⟩ := RI.array Tryz.underlying83 (hval 3 83 v3 rfl rfl) h3 (Nv hsz (j := 3) rfl rfl)
 have k4 := h4
 have lt4 : ∀ x ∈ p4, x.block < W.heap.size := by obtain ⟨m, hm⟩ := k4; exact DataW.trod_lt m _ _ _ hm
 obtain ⟨m4, rs4, hb4⟩ := Afx.slice Tryz.underlying34 (hval 4 34 v4 rfl rfl) h4 (Nv hsz (j := 4) rfl rfl)
 clear hA0 hval0 hsz0 hsz
 refine (IP (AjG (UInt8.ofNat a0.toNat) (UInt8.ofNat a1.toNat) a2 w2 m3 hb3 m4 hb4) (D8 (by rw [Nr w0]; exact Kw _) (D8 (by rw [Nr w1]; exact Kw _) (D8 (Kw _) (D8 rs3 (D8 rs4 RD)))))).mono fun e W' ⟨he, bel⟩ => ?_
 subst he
 exact ⟨_, rfl, _, _, _, [], _, [], hW', trodAll_mk1 (shut_bool Tryz.underlying4 _), (trodAll_cons_mk (shut_int Tryz.underlying5 w0) (trodAll_cons_mk (shut_int Tryz.underlying5 w1) (trodAll_cons_mk (shut_string Tryz.underlying9 y2) (trodAll_cons_mk (Below.trod laidOut (by kernel_rfl) (of_decide_eq_true (by kernel_rfl)) k3 bel lt3) (trodAll_cons_mk (Below.trod laidOut (by kernel_rfl) (of_decide_eq_true (by kernel_rfl)) k4 bel lt4) trodAll_mk0))))), rfl, bel.frame _, fun h => by cases h⟩
theorem inP : Tryz.prog.inPlace 7 = [] := by kernel_rfl
theorem unf : Tryz.prog.unfollowed 7 = true := by kernel_rfl
theorem rec : Tryz.prog.recurses 7 = true := by kernel_rfl
theorem nam : Tryz.prog.varsNamed 7 = [] := by kernel_rfl
theorem fnm : Tryz.prog.funcNamed Rows.scrubNeverRow.func = some 7 := by kernel_rfl
theorem facts : joinedFacts Tryz.prog 7 Tryz.f7 Rows.scrubNeverSpec Rows.scrubNeverRow = true :=
 O3 JJ Rn OB OE OC OG OH OD Rq inP unf rec nam rfl rfl rfl rfl rfl rfl rfl rfl rfl
  (by kernel_rfl) (by kernel_rfl) (by kernel_rfl) (by kernel_rfl) (by kernel_rfl) (by kernel_rfl) (by kernel_rfl) (by kernel_rfl) (by kernel_rfl) (by kernel_rfl) (by kernel_rfl) (by kernel_rfl) (by kernel_rfl) rfl rfl (by kernel_rfl) (by kernel_rfl) (by kernel_rfl)
theorem over : Rows.scrubNeverRow.holds Tryz.pinned (OpenSpec.ofChange Rows.scrubNeverSpec) :=
 OpenClaim.holds_of_wide 7 Tryz.f7 rfl rfl rfl rfl rfl rfl rfl ⟨rfl, rfl, rfl, rfl, rfl⟩ rfl rfl rfl rfl rfl fnm Tryz.func7 facts
  (of_decide_eq_true (by kernel_rfl)) (by unfold Func.isWrapper; first | (rw [if_pos (by decide +kernel)]; kernel_rfl) | (rw [if_neg (by decide +kernel)]; exact ⟨rfl, rfl⟩))
  (fun os started H enc _ => lifted os started H enc)
theorem proved : Rows.ScrubNeverSaid := over
end Go.Proofs.YtgpkbldlkadnjaaGreat.scrubNever
namespace Go.Proofs.YtgpkbldlkadnjaaGreat
theorem scrubNever_holds : Rows.ScrubNeverSaid := scrubNever.proved
#print axioms scrubNever_holds
end Go.Proofs.YtgpkbldlkadnjaaGreat
