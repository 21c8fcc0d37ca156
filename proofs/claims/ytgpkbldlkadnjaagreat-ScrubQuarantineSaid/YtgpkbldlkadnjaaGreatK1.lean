/- The law ScrubQuarantine, for every input: its row, out of its contract over data. No condition. -/
import Derived.Test.YtgpkbldlkadnjaaGreatJ3
import Derived.Test.YtgpkbldlkadnjaaGreatJ7
import Derived.Test.YtgpkbldlkadnjaaGreatJ5
import Derived.Test.YtgpkbldlkadnjaaGreatRows
set_option linter.unusedVariables false
set_option linter.unusedSimpArgs false
section
namespace Go.Sl
open Go.RowKit Go.ChangeShapes Go.WideShapes Go.ChangeAt Go.Deep
theorem AaQ {P : Program} {w : World} {r : Reach} {base n : Nat} {t e : TypeId} {v : Value} (ht : P.underlying t = some (.array n e)) (h : Value.okWide P w r base t v) : ∃ cs, v = .agg cs ∧ cs.size = P.cellsOf t := by
 simp only [Value.okWide, ht] at h
 obtain ⟨cs, h1, h2, _⟩ := h
 exact ⟨cs, h1, h2⟩
theorem Ha.array {P : Program} {t e0 : TypeId} {H : Type} {enc : TypeId × Value → H} {W : World} {n s : Nat} {α : Type} {e : α → List D} {B : α → Prop} (h : Ha P t s α e B) (ht : P.underlying t = some (.array n e0)) {b0 : Nat} {v : Value} {d : DataW H} {p : List MemPlace}
  (hval : Value.okWide P W .any b0 t v) (k : DataW.Trod enc P W 0 (fun _ => true) true t v d p) (hs : YT P t d) : ∃ a, Rs W (Zw W) T0 (.agg (e a)) v ∧ B a := by
 obtain ⟨cs, rfl, hsz⟩ := AaQ ht hval
 obtain ⟨fuel, hf⟩ := k
 obtain ⟨a, g1, g2⟩ := h.get enc W fuel _ _ hf hs
 exact ⟨a, by simp only [Rs]; exact ⟨cs.toList, by simp, by simpa [Value.cells] using g1⟩, g2⟩
end Go.Sl
namespace Go.Proofs.YtgpkbldlkadnjaaGreat
open Go Go.Sl
theorem op_u16 : Ha Tryz.prog 23 1 Nat (fun z => [.sc (.int .u16 (z : Nat))]) (fun z => z < 65536) :=
 ⟨by kernel_rfl, fun _ => rfl, fun enc W n cs x hx hsz => by
  obtain ⟨a, h1, h2⟩ := (AhP (P := Tryz.prog) Tryz.underlying23 (by kernel_rfl)).get enc W n cs x hx hsz
  obtain ⟨m, rfl, hm⟩ := Afb h2
  exact ⟨m, h1, hm⟩⟩
theorem AhN : Ha Tryz.prog 82 3 Cb spC (fun x => x.at_ < 65536) :=
 (Agx Tryz.underlying82 rfl (by kernel_rfl) (XZ Aes rfl (XZ op_u16 rfl (XZ Aes rfl (Aju _))))).map
  (fun x => (⟨x.1, x.2.1, x.2.2.1⟩ : Cb)) (fun _ => rfl) (fun x h => h.2.1) fun _ => rfl
theorem RI : Ha Tryz.prog 83 21 { l : List Cb // l.length = 7 } (fun l => PG l.1) (fun l => ∀ a ∈ l.1, a.at_ < 65536) := AhR (n := 7) (s := 3) Tryz.underlying83 (by kernel_rfl) AhN
end Go.Proofs.YtgpkbldlkadnjaaGreat
end
section
set_option maxHeartbeats 3000000
attribute [local irreducible] Go.Sl.Chk Go.Sl.Br Go.Sl.Or2 Go.Sl.Ld Go.Sl.Ldn Go.Sl.LdB Go.Sl.Stn Go.Sl.New Go.Sl.Run Go.Sl.Ez Go.Sl.Eu Go.Sl.Call Go.Sl.CQ Go.Sl.EC Go.Sl.Alt Go.Sl.Om Go.Sl.xpk Go.Sl.FM Go.Sl.FN Go.Sl.DLd Go.Sl.Fe Go.Sl.DBs Go.Sl.BG Go.Sl.EN Go.Sl.EM Go.Sl.Dz Go.Sl.DGC Go.Sl.DW Go.Sl.Gl Go.Sl.Ei Go.Sl.Ent Go.Sl.Be Go.Sl.dv Go.Sl.ev Go.Sl.Au
namespace Go.Proofs.YtgpkbldlkadnjaaGreat
open Go Go.Sl Go.RowKit
abbrev scr (i : Nat) (fs : List FileS) : List FileS := (DZ i (Ef fs) fs).1
def I4 (L : List (List FileS)) : List (List FileS) := L.mapIdx fun i fs => scr i fs
theorem Acl {L : List (List FileS)} {j : Nat} {fs : List FileS} (h : L[j]? = some fs) : (I4 L)[j]? = some (scr j fs) := by
 unfold I4
 rw [List.getElem?_mapIdx, h]; rfl
theorem ZB {L : List (List FileS)} {j : Nat} {fs : List FileS} (h : L[j]? = some fs) : (I4 L).take (j + 1) = (I4 L).take j ++ [scr j fs] := by
 rw [List.take_add_one, Acl h]; rfl
theorem AcB {fs : List FileS} {n : Bs} {b : Bool} (h : (CO fs n).isSome = b) : Ju fs n = if b then 0 else 5 := by
 unfold Ju
 cases hf : CO fs n with
 | none => rw [hf] at h; rw [← h]; rfl
 | some j => rw [hf] at h; rw [← h]; rfl
theorem Ags (n : Bs) (fs : List FileS) : (ZJ n fs).length ≤ 1 := by
 unfold ZJ
 split <;> simp
set_option maxRecDepth 100000 in
theorem quar_d (a b : UInt8) (v : Bs) (l : List Cb) (hvl : v.length ≤ 140737488351232) (hl : l.length = 7) (hat : ∀ x ∈ l, x.at_ < 65536) : Ed Tryz.prog Ia [bD a, bD b, Bv v, .agg (PG l)] (Ak true) := by
 have e := Qv v
 have hsl := OO l
 intro nx
 refine AU O9 (by simp only [m_law25_ScrubQuarantine, List.length]; decide) ?_
 simp only [m_law25_ScrubQuarantine]; refine WK ?_; try with_reducible exact trivial
 refine BH (QG a b) fun n1 g1 => ?_
 have hs : CP (kOf a b) (fOf b) := Nw a b
 have hn7 := hs.n
 have hk1 := hs.k
 generalize kOf a b = k at *
 generalize fOf b = f at *
 simp only [shD]
 refine WK ?_; try with_reducible exact trivial
 refine BH Gm fun n2 g2 => ?_
 rcases Nat.lt_or_ge 512 v.length with h5 | h5
 ·refine WKX @e ?_; try with_reducible exact trivial
  refine BH Gm fun n3 g3 => ?_
  refine WK ?_; try with_reducible exact trivial
  exact BU ⟨rfl, rfl⟩
 ·have hnx := Mc
  have hle := EG hs (n := blobN) (v := v) l
  have hok := QB hs hnx h5 l
  have hsx := QA hs h5 (n := blobN) l blobN
  have h1 := OQ hs h5 (n := blobN) l
  have hget := fun j hj => Jj hs (n := blobN) (v := v) l (j := j) hj
  have hstd := fun j hj => Gy hs h5 (n := blobN) l (j := j) hj
  have hgl := J7 (k + 2 * f) l
  have hw := DY v.length hs.k
  simp -dsimp (disch := omega) only [↓MC.xwp, ↓BM, ↓xdr, ↓MOp.xwp, dvs, dv, dvu, dvo, dvp, dgb, dGd, DN, cond_true, cond_false, FZ, Be, CU, Di, Dv, Dl, ptr, bsc, cv, uo, uof, Bj, xpr, DF, EF, FB, E8, F9, FK, Gf, xst, xgp, glc, FW, DL, FU, FV, FQ, FT, DK, FP, FC, FO, DI, DJ, BV, DC, E5, dsl, dif, BK, CE, BB, scs, rowOf, Az, dtk, Du, BF, pev, Bz, BC, Aq, BD, psl, Bc, ↓Dx, ↓BZ, ↓FH, ↓EY, Dp, Ff, E9, Df, Bq, kp, C9, Dk, ES, Dj, Fj, CV, AB, Bi, nb, ET, BL, AY, apart, Af, AX, heldOk, Op.operands, Nat.reduceAdd, forall_eq_or_imp, D.plain, reduceCtorEq, if_true, if_false, ↓reduceIte, ne_eq, Bool.cond_true, Bool.cond_false, forall_const, implies_true, forall_eq, Int.reduceEq, Int.reduceLT, Int.reduceLE, Int.reduceAdd, Int.reduceSub, Int.reduceMul, Int.reduceToNat, Nat.reduceMul, Nat.reduceLeDiff, Nat.reduceLT, Nat.reduceSub, Nat.reduceBEq, Nat.reduceEqDiff, CG, bytesD, iD, BP, Ak, Bv, bD, DB, e, hsl, hl, Qz hl]
  refine chk (Rx l) ?_
  refine WK ?_; try with_reducible exact trivial
  rw [Qz hl]
  refine VK (Ud hs hnx h5 hl hat) fun _ _ n3 g3 ⟨A, G, a1, a2, a3, a4, a5, hd, hro⟩ => ?_
  subst hd hro
  generalize hL : Em blobN k f v l = L at *
  simp only [List.cons_append, List.nil_append, Ew]
  refine WK ?_; try with_reducible exact trivial
  refine HY [A] (Et (Aa _ _ _)) (Tf hs L 6000 1 hle hok (by omega) (a := A) (by omega)) (by simp) fun _ _ n4 g4 ⟨t, L', t1, t2, hd, hlk, hro⟩ => ?_
  have hl' := QP hlk h1
  subst hl' hd hro
  simp only [List.cons_append, List.nil_append, AL]
  refine WK ?_; try with_reducible exact trivial
  refine Gu [7, 11, 12, 14] (fun s : Nat × Nat => ([(7, .hp nx 0), (11, .h G), (12, .hp t 0), (14, iD (s.1 : Nat))], [(t, AL k f ((I4 L').take s.1 ++ L'.drop s.1) 6000), (G, .row Qu 1 (k + 2 * f) ((H5 (k + 2 * f) l).map Ak)), (nx, .box 83 (PG l))], s.2)) (fun s => s.1 ≤ k + 2 * f ∧ t < s.2) (fun s => k + 2 * f - s.1) (0, n4) ⟨by dsimp only; omega, by dsimp only; omega⟩ ((Ent.only [t, G, nx] _ _ _).trans (by simp -dsimp (disch := omega) only [ER, Aa, Ac, AV, Bd]; simp only [List.take_zero, List.nil_append, List.drop_zero]; exact (Ent.of (by with_unfolding_all rfl) rfl))) ?_
  rintro ⟨j, n5⟩ ⟨q1, q2⟩
  dsimp only at q1 q2 ⊢
  have hscl : (I4 L').length = L'.length := by simp [I4]
  have htl : ((I4 L').take j).length = j := by rw [List.length_take]; omega
  simp only [AL]
  refine WK ?_; try with_reducible exact trivial
  refine brd (fun hlt => ?_) (fun hge => ?_)
  ·have hj : j < k + 2 * f := by omega
   have hjL : j < L'.length := by omega
   have hfs := hget j hj
   have hst := hstd j hj
   have hgj := VA l hj
   have ho := hok _ (List.mem_of_getElem? hfs)
   have hrow := Ey hs v hj
   have hj32 : j < 4294967296 := by omega
   have hsc := hst.scrub hnx hj32 (by omega) hrow.2
   have hag := hst.again hnx hj32 (by omega) hrow.2
   have hrd := hst.readQ hnx hj32 (by omega) hrow.2
   have h0 := Afh l (j := j) (k := 0) (by omega) (by decide)
   simp only [spC, List.getElem?_cons_zero, Nat.add_zero] at h0
   have htk : (I4 L').take (j + 1) = (I4 L').take j ++ [(DZ j (Ef _) _).1] := ZB hfs
   have hlen1 := hst.len
   generalize hF : H7 (gt l j) (bN blobN) (Bh j (gt (encode k f v) j)) = fs at *
   have hso := QE (by decide : (6000 : Nat) ≤ 65536) j (Ef fs) ho
   have hnl := NE fs
   generalize hS : DZ j (Ef fs) fs = sg at *
   obtain ⟨F1, N1⟩ := sg
   dsimp only at hsc hag hrd htk hso
   have hso2 := hso.mono (show 1 + (Ef fs).length ≤ 2 by omega)
   have hcl : ((I4 L').take j ++ L'.drop j).length = k + 2 * f := by rw [List.length_append, List.length_drop]; omega
   have hcg : ((I4 L').take j ++ L'.drop j)[j]? = some fs := by rw [List.getElem?_append_right (by omega), htl, Nat.sub_self, List.getElem?_drop, Nat.add_zero]; exact hfs
   have hset := Uf (pre := (I4 L').take j) htl hjL F1
   have hcl2 : ((I4 L').take (j + 1) ++ L'.drop (j + 1)).length = k + 2 * f := by rw [List.length_append, List.length_drop, List.length_take]; omega
   have hcg2 : ((I4 L').take (j + 1) ++ L'.drop (j + 1))[j]? = some F1 := by
    rw [htk, List.getElem?_append_left (by rw [List.length_append, List.length_singleton]; omega), List.getElem?_append_right (by omega), htl, Nat.sub_self]; rfl
   rw [← htk] at hset
   have hset2 : ((I4 L').take (j + 1) ++ L'.drop (j + 1)).set j F1 = (I4 L').take (j + 1) ++ L'.drop (j + 1) := GG hcg2
   have hx5 : (gt l j).kind < 5 := Nat.mod_lt _ (by decide)
   have htm := XE (gt l j)
   rw [Int.tmod_eq_emod_of_nonneg (by omega)] at htm
   generalize gt l j = x at *
   have hnq : Ju F1 (qN blobN) = if (!x.good && decide (x.kind ≠ 4)) then 0 else 5 := AcB hrd.1
   have hnb : Ju F1 (bN blobN) = if x.good then 0 else 5 := AcB hrd.2
   have heq : (113 :: 46 :: blobN : Bs) = qN blobN := rfl
   rcases (by cases x.good <;> simp <;> omega : (x.good = true) ∨ (x.good = false ∧ x.kind = 4) ∨ (x.good = false ∧ x.kind ≠ 4)) with hx | ⟨hx, hx4⟩ | ⟨hx, hx4⟩
   case' inl =>
    rw [hx] at hgj hnq hnb
    rw [if_neg (by rw [hx]; simp)] at hsc
    refine WKX @hgj ?_; try with_reducible exact trivial
   case' inr.inl =>
    rw [hx, hx4] at hnq
    rw [hx] at hgj hnb
    rw [if_neg (fun k => k.2 hx4)] at hsc
    rw [hx4] at htm
    have e7 : (x.act.toNat : Int) % 5 = 4 := htm
    simp -dsimp (disch := omega) only [↓MC.xwp, ↓BM, ↓xdr, ↓MOp.xwp, dvs, dv, dvu, dvo, dvp, dgb, dGd, DN, cond_true, cond_false, FZ, Be, CU, Di, Dv, Dl, ptr, bsc, cv, uo, uof, Bj, xpr, DF, EF, FB, E8, F9, FK, Gf, xst, xgp, glc, FW, DL, FU, FV, FQ, FT, DK, FP, FC, FO, DI, DJ, BV, DC, E5, dsl, dif, BK, CE, BB, scs, rowOf, Az, dtk, Du, BF, pev, Bz, BC, Aq, BD, psl, Bc, ↓Dx, ↓BZ, ↓FH, ↓EY, Dp, Ff, E9, Df, Bq, kp, C9, Dk, ES, Dj, Fj, CV, AB, Bi, nb, ET, BL, AY, apart, Af, AX, heldOk, Op.operands, Nat.reduceAdd, forall_eq_or_imp, D.plain, reduceCtorEq, if_true, if_false, ↓reduceIte, ne_eq, Bool.cond_true, Bool.cond_false, forall_const, implies_true, forall_eq, Int.reduceEq, Int.reduceLT, Int.reduceLE, Int.reduceAdd, Int.reduceSub, Int.reduceMul, Int.reduceToNat, Nat.reduceMul, Nat.reduceLeDiff, Nat.reduceLT, Nat.reduceSub, Nat.reduceBEq, Nat.reduceEqDiff, CG, bytesD, iD, BP, Ak, Bv, bD, DB, hgj, h0, U8, e7]
   case' inr.inr =>
    rw [hx, decide_eq_true hx4] at hnq
    rw [hx] at hgj hnb
    rw [if_pos ⟨hx, hx4⟩] at hsc
    have e7 : decide ((x.act.toNat : Int) % 5 = 4) = false := decide_eq_false (by omega)
    simp -dsimp (disch := omega) only [↓MC.xwp, ↓BM, ↓xdr, ↓MOp.xwp, dvs, dv, dvu, dvo, dvp, dgb, dGd, DN, cond_true, cond_false, FZ, Be, CU, Di, Dv, Dl, ptr, bsc, cv, uo, uof, Bj, xpr, DF, EF, FB, E8, F9, FK, Gf, xst, xgp, glc, FW, DL, FU, FV, FQ, FT, DK, FP, FC, FO, DI, DJ, BV, DC, E5, dsl, dif, BK, CE, BB, scs, rowOf, Az, dtk, Du, BF, pev, Bz, BC, Aq, BD, psl, Bc, ↓Dx, ↓BZ, ↓FH, ↓EY, Dp, Ff, E9, Df, Bq, kp, C9, Dk, ES, Dj, Fj, CV, AB, Bi, nb, ET, BL, AY, apart, Af, AX, heldOk, Op.operands, Nat.reduceAdd, forall_eq_or_imp, D.plain, reduceCtorEq, if_true, if_false, ↓reduceIte, ne_eq, Bool.cond_true, Bool.cond_false, forall_const, implies_true, forall_eq, Int.reduceEq, Int.reduceLT, Int.reduceLE, Int.reduceAdd, Int.reduceSub, Int.reduceMul, Int.reduceToNat, Nat.reduceMul, Nat.reduceLeDiff, Nat.reduceLT, Nat.reduceSub, Nat.reduceBEq, Nat.reduceEqDiff, CG, bytesD, iD, BP, Ak, Bv, bD, DB, hgj, h0, U8, e7]
   all_goals
    have hN1 := congrArg Prod.snd hsc
    have hF1 := congrArg Prod.fst hsc
    dsimp only at hN1 hF1
    refine O6 t (Qy k f _ 6000 1 j fs (by omega) hcg ho (by omega) (by omega)) (by omega) (by (repeat rw [Ac (by omega)]); exact Aa _ _ _) (by simp only [List.mem_cons, List.not_mem_nil, or_false, not_false_eq_true]; try omega) fun c1 n6 g6 g7 => ?_
    rw [hS, hset]
    simp only [AL, Qw]
    refine WK ?_; try with_reducible exact trivial
    refine O6 t (Qy k f _ 6000 2 j F1 (by omega) hcg2 hso2 (by omega) (by omega)) (by omega) (by (repeat rw [Ac (by omega)]); exact Aa _ _ _) (by simp only [List.mem_cons, List.not_mem_nil, or_false, not_false_eq_true]; try omega) fun c2 n7 g8 g9 => ?_
    rw [hag, hset2, hN1]
    simp only [AL, Qw]
    have eb : decide ((⟨blobN.toArray⟩ : ByteArray) = ⟨#[98, 108, 111, 98]⟩) = true := decide_eq_true rfl
    have hF1l : F1.length ≤ 1 := by rw [hF1]; first | exact hlen1 | exact Ags _ _
    refine WKX @eb ?_; try with_reducible exact trivial
    refine HY [t] (Et (by (repeat rw [Ac (by omega)]); exact Aa _ _ _)) (PI k f _ 6000 j 2 F1 (by omega) hcg2 hso2 (by omega) (i := t) (by omega)) (by simp) fun _ _ n8 g10 ⟨x1, fs1, c3, c4, hd, hp1, hro⟩ => ?_
    subst hd hro
    rw [Acx hp1 hF1l]
    simp only [List.cons_append, List.nil_append, AL, AA]
    refine WK ?_; try with_reducible exact trivial
    refine Hu x1 (Aem F1 6000 (qN blobN) hso2.small (by decide)) (by omega) (by (repeat rw [Ac (by omega)]); exact Aa _ _ _) (by simp only [List.mem_cons, List.not_mem_nil, or_false, not_false_eq_true]; try omega) fun n9 g11 => ?_
    rw [hnq]
    simp only [AA]
    refine WK ?_; try with_reducible exact trivial
    refine HY [t] (Et (by (repeat rw [Ac (by omega)]); exact Aa _ _ _)) (PI k f _ 6000 j 2 F1 (by omega) hcg2 hso2 (by omega) (i := t) (by omega)) (by simp) fun _ _ n10 g12 ⟨x2, fs2, c5, c6, hd, hp2, hro⟩ => ?_
    subst hd hro
    rw [Acx hp2 hF1l]
    simp only [List.cons_append, List.nil_append, AL, AA]
    refine WK ?_; try with_reducible exact trivial
    refine Hu x2 (Aem F1 6000 (bN blobN) hso2.small (by decide)) (by omega) (by (repeat rw [Ac (by omega)]); exact Aa _ _ _) (by simp only [List.mem_cons, List.not_mem_nil, or_false, not_false_eq_true]; try omega) fun n11 g13 => ?_
    rw [hnb]
    simp only [AA]
    refine WKX @hgj ?_; try with_reducible exact trivial
    refine ⟨(j + 1, n11), ⟨by dsimp only; omega, by dsimp only; omega⟩, by dsimp only; omega, (Ent.only [t, G, nx] _ _ _).trans ?_⟩
    refine WKR ?_; try with_reducible exact trivial
    exact (Ent.of (by with_unfolding_all rfl) rfl)
  ·refine WK ?_; try with_reducible exact trivial
   have hjl : j = k + 2 * f := by omega
   have hcl : ((I4 L').take j ++ L'.drop j).length = k + 2 * f := by rw [List.length_append, List.length_drop]; omega
   refine Hu t (Zz k f ((I4 L').take j ++ L'.drop j) 6000 (-1) (by omega) (.inl (by omega))) (by omega) (by (repeat rw [Ac (by omega)]); exact Aa _ _ _) (by simp only [List.mem_cons, List.not_mem_nil, or_false, not_false_eq_true]; try omega) fun n6 g6 => ?_
   simp only [AL]
   refine WK ?_; try with_reducible exact trivial
   refine Hu t (Zz k f ((I4 L').take j ++ L'.drop j) 6000 ((k + 2 * f : Nat) : Int) (by omega) (.inr (by omega))) (by omega) (by (repeat rw [Ac (by omega)]); exact Aa _ _ _) (by simp only [List.mem_cons, List.not_mem_nil, or_false, not_false_eq_true]; try omega) fun n7 g7 => ?_
   simp only [AL]
   refine WK ?_; try with_reducible exact trivial
   exact BU ⟨rfl, rfl⟩
theorem quar_a (a b : UInt8) (v : ByteArray) (hv : v.size ≤ 140737488351232) (l : { l : List Cb // l.length = 7 }) (hat : ∀ x ∈ l.1, x.at_ < 65536) : Ed Tryz.prog Ia [bD a, bD b, .sc (.string v), .agg (PG l.1)] (Ak true) := by
 rw [Ns]
 exact quar_d a b _ l.1 hv l.2 hat
end Go.Proofs.YtgpkbldlkadnjaaGreat
end
set_option linter.unusedVariables false
namespace Go.Proofs.YtgpkbldlkadnjaaGreat.scrubQuarantine
open Go Go.Sl Go.ChangeShapes Go.WideShapes Go.ChangeAt Go.RowKit
open Go.ChangeMaps (open_string shut_string)
theorem laidOut : laidOutB Tryz.prog = true := JJ
set_option maxRecDepth 100000 in
theorem lifted (os : Os) (started : os.Started) (H : Type) (enc : TypeId × Value → H) :
  ReturnsInHanded {} Tryz.checked os 8 .any (Rows.scrubQuarantineSpec.pre6 enc Tryz.prog Tryz.f8 Rows.scrubQuarantineRow.domain false) (Rows.scrubQuarantineSpec.post enc Tryz.prog Tryz.f8 false true false false) := by
 refine returnsInHanded_of_change_sized (C := Tryz.checked) Vb started (by kernel_rfl) Tryz.func8
  (ChangeSpec.witness6 (enc := enc) (C := Tryz.checked) false ⟨#[], #[.int .u8 0, .int .u8 0, .string ByteArray.empty, .agg #[.int .u8 0, .int .u16 0, .int .u8 0, .int .u8 0, .int .u16 0, .int .u8 0, .int .u8 0, .int .u16 0, .int .u8 0, .int .u8 0, .int .u16 0, .int .u8 0, .int .u8 0, .int .u16 0, .int .u8 0, .int .u8 0, .int .u16 0, .int .u8 0, .int .u8 0, .int .u16 0, .int .u8 0]], []⟩ 8 (by kernel_rfl) (by kernel_rfl) (by kernel_rfl) (by kernel_rfl)) ?_
 intro W base args ds gs before hval0 hW hcnd hsz0 _
 have hsz : (DataW.weightsEach Tryz.prog (Tryz.f8.params.toList ++ Rows.scrubQuarantineSpec.plain.varTypes Tryz.prog) (ds ++ gs)).all (· ≤ reachBytes) = true := hsz0
 have hval : ∀ (j : Nat) t v, Tryz.f8.params[j]? = some t → args[j]? = some v → Value.okWide Tryz.prog W .any base t v := hval0
 have hW' := hW
 obtain ⟨p, q, hA0, hV, rfl, hfz, hnd⟩ := hW
 have hA : DataW.TrodAll enc Tryz.prog W 0 (fun _ => true) true Tryz.f8.params.toList args.toList ds p := hA0
 rw [Tryz.params8] at hA hval hsz
 obtain ⟨v0, vs0, d0, ds0, p0, q0, hargs, rfl, rfl, h0, r0⟩ := trodAll_cons hA
 obtain ⟨v1, vs1, d1, ds1, p1, q1, rfl, rfl, rfl, h1, r1⟩ := trodAll_cons r0
 obtain ⟨v2, vs2, d2, ds2, p2, q2, rfl, rfl, rfl, h2, r2⟩ := trodAll_cons r1
 obtain ⟨v3, vs3, d3, ds3, p3, q3, rfl, rfl, rfl, h3, r3⟩ := trodAll_cons r2
 obtain ⟨rfl, rfl, rfl⟩ := trodAll_nil r3
 obtain rfl : args = #[v0, v1, v2, v3] := by cases args; simp_all
 obtain ⟨rfl, rfl⟩ := trodVars_none hV
 obtain ⟨a0, rfl, rfl, rfl, w0⟩ := open_int Tryz.underlying5 (hval 0 5 v0 rfl rfl) h0
 obtain ⟨a1, rfl, rfl, rfl, w1⟩ := open_int Tryz.underlying5 (hval 1 5 v1 rfl rfl) h1
 obtain ⟨a2, rfl, rfl, rfl, y2⟩ := open_string Tryz.underlying9 (hval 2 9 v2 rfl rfl) h2
 have w2 : a2.size ≤ 140737488351232 := by
  have z := sized_string hsz (j := 2) (t := 9) rfl rfl
  rw [Array.length_toList] at z
  exact z
 have k3 := h3
 have lt3 : ∀ x ∈ p3, x.block < W.heap.size := by obtain ⟨m, hm⟩ := k3; exact DataW.trod_lt m _ _ _ hm
 obtain ⟨m3, rs3, hb3⟩ := RI.array Tryz.underlying83 (hval 3 83 v3 rfl rfl) h3 (Nv hsz (j := 3) rfl rfl)
 clear hA0 hval0 hsz0 hsz
 refine (IP (quar_a (UInt8.ofNat a0.toNat) (UInt8.ofNat a1.toNat) a2 w2 m3 hb3) (D8 (by rw [Nr w0]; exact Kw _) (D8 (by rw [Nr w1]; exact Kw _) (D8 (Kw _) (D8 rs3 RD))))).mono fun e W' ⟨he, bel⟩ => ?_
 subst he
 exact ⟨_, rfl, _, _, _, [], _, [], hW', trodAll_mk1 (shut_bool Tryz.underlying4 _), (trodAll_cons_mk (shut_int Tryz.underlying5 w0) (trodAll_cons_mk (shut_int Tryz.underlying5 w1) (trodAll_cons_mk (shut_string Tryz.underlying9 y2) (trodAll_cons_mk (Below.trod laidOut (by kernel_rfl) (of_decide_eq_true (by kernel_rfl)) k3 bel lt3) trodAll_mk0)))), rfl, bel.frame _, fun h => by cases h⟩
theorem inP : Tryz.prog.inPlace 8 = [] := by kernel_rfl
theorem unf : Tryz.prog.unfollowed 8 = true := by kernel_rfl
theorem rec : Tryz.prog.recurses 8 = true := by kernel_rfl
theorem nam : Tryz.prog.varsNamed 8 = [] := by kernel_rfl
theorem fnm : Tryz.prog.funcNamed Rows.scrubQuarantineRow.func = some 8 := by kernel_rfl
theorem facts : joinedFacts Tryz.prog 8 Tryz.f8 Rows.scrubQuarantineSpec Rows.scrubQuarantineRow = true :=
 O3 JJ Rn OB OE OC OG OH OD Rq inP unf rec nam rfl rfl rfl rfl rfl rfl rfl rfl rfl
  (by kernel_rfl) (by kernel_rfl) (by kernel_rfl) (by kernel_rfl) (by kernel_rfl) (by kernel_rfl) (by kernel_rfl) (by kernel_rfl) (by kernel_rfl) (by kernel_rfl) (by kernel_rfl) (by kernel_rfl) (by kernel_rfl) rfl rfl (by kernel_rfl) (by kernel_rfl) (by kernel_rfl)
theorem over : Rows.scrubQuarantineRow.holds Tryz.pinned (OpenSpec.ofChange Rows.scrubQuarantineSpec) :=
 OpenClaim.holds_of_wide 8 Tryz.f8 rfl rfl rfl rfl rfl rfl rfl ⟨rfl, rfl, rfl, rfl, rfl⟩ rfl rfl rfl rfl rfl fnm Tryz.func8 facts
  (of_decide_eq_true (by kernel_rfl)) (by unfold Func.isWrapper; first | (rw [if_pos (by decide +kernel)]; kernel_rfl) | (rw [if_neg (by decide +kernel)]; exact ⟨rfl, rfl⟩))
  (fun os started H enc _ => lifted os started H enc)
theorem proved : Rows.ScrubQuarantineSaid := over
end Go.Proofs.YtgpkbldlkadnjaaGreat.scrubQuarantine
namespace Go.Proofs.YtgpkbldlkadnjaaGreat
theorem scrubQuarantine_holds : Rows.ScrubQuarantineSaid := scrubQuarantine.proved
#print axioms scrubQuarantine_holds
end Go.Proofs.YtgpkbldlkadnjaaGreat
