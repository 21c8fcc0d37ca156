/- Law DiskSynced over data. -/
import Derived.Test.YtgpkbldlkadnjaaJ7
import Derived.Test.YtgpkbldlkadnjaaRows
import Derived.Test.YtgpkbldlkadnjaaJ3
section
set_option linter.unusedVariables false
set_option linter.unusedSimpArgs false
set_option maxHeartbeats 3000000
attribute [local irreducible] Go.Sl.Chk Go.Sl.Br Go.Sl.Or2 Go.Sl.Ld Go.Sl.Ldn Go.Sl.LdB Go.Sl.Stn Go.Sl.New Go.Sl.Run Go.Sl.RunU Go.Sl.RunX Go.Sl.Call Go.Sl.LoopK Go.Sl.RawK Go.Sl.Alt Go.Sl.Om Go.Sl.xpk Go.Sl.xgpk Go.Sl.xglk Go.Sl.DLd Go.Sl.DLdG Go.Sl.DBs Go.Sl.DCall Go.Sl.DApp Go.Sl.DGen Go.Sl.DGenU Go.Sl.DGC Go.Sl.DLoop Go.Sl.DRaw Go.Sl.DRet Go.Sl.Ent Go.Sl.dget Go.Sl.dv Go.Sl.ev Go.Sl.eget
namespace Go.Proofs.Ytgpkbldlkadnjaa
open Go Go.Sl Go.RowKit
theorem fewGo_mem : ∀ {l : List ActS} {n : Nat}, n ≤ 5000 → fewGo l n = true → ∀ a ∈ l, a.name.length ≤ 100 ∧ a.other.length ≤ 100 ∧ a.b.length ≤ 5000 ∧ a.keep.length ≤ 5000
  | x :: l, n, hn, h, a, ha => by
    simp only [fewGo] at h
    split at h
    · cases h
    · rename_i hx
      rcases List.mem_cons.1 ha with rfl | ha
      · omega
      · exact fewGo_mem (by omega) h a ha
theorem few07_spec {l : List ActS} (h : few07 l = true) : l.length ≤ 100 ∧ ∀ a ∈ l, a.name.length ≤ 100 ∧ a.other.length ≤ 100 ∧ a.b.length ≤ 5000 ∧ a.keep.length ≤ 5000 := by
  unfold few07 at h
  rw [Bool.and_eq_true, decide_eq_true_eq] at h
  refine ⟨h.2, ?_⟩
  have := h.1
  rw [List.take_of_length_le (by omega)] at this
  exact fewGo_mem (by omega) this
set_option maxRecDepth 100000 in
theorem diskSynced_d (l : List ActS) (hl : l.length ≤ 140737488351232 ∧ ∀ a ∈ l, a.ok) (keep : List Int) (hk : keep.length ≤ 140737488351232 ∧ ∀ z ∈ keep, -9223372036854775808 ≤ z ∧ z ≤ 9223372036854775807) : DFun Try.prog f_law07_DiskSynced [.sl l.length (actsC l), intsD keep] (boolD true) := by
  intro nx
  refine xcalls c_law07_DiskSynced (by simp only [m_law07_DiskSynced, List.length]; decide) ?_
  simp only [m_law07_DiskSynced]; refine WK ?_; try with_reducible exact trivial
  refine dfun awake07_d fun n1 h1 => ?_
  refine WK ?_; try with_reducible exact trivial
  refine dfun (few07_d l hl.2 hl.1) fun n2 h2 => ?_
  cases hfew : few07 l with
  | false =>
    refine WK ?_; try with_reducible exact trivial
    refine dfun awake07_d fun n3 h3 => ?_
    refine WK ?_; try with_reducible exact trivial
    exact dret0 ⟨rfl, rfl⟩
  | true =>
  refine WK ?_; try with_reducible exact trivial
  refine brd (fun hbad => ?_) (fun hkl => ?_)
  · refine WK ?_; try with_reducible exact trivial
    refine dfun awake07_d fun n3 h3 => ?_
    refine WK ?_; try with_reducible exact trivial
    exact dret0 ⟨rfl, rfl⟩
  · obtain ⟨hl100, hsm⟩ := few07_spec hfew
    refine WK ?_; try with_reducible exact trivial
    refine dnew (new_o 60000 ⟨by omega, by omega⟩) fun d n3 h3 h4 => ?_
    rw [show (min (max (60000 : Int) 0) 65536).toNat = 60000 from rfl]
    simp only [diskO]
    refine WK ?_; try with_reducible exact trivial
    refine dloop [0, 1, 5, 6] (fun s : Nat × List FileS × Nat => ([(0, .sl l.length (actsC l)), (1, intsD keep), (5, .hp d 0), (6, iD (s.1 : Nat))], [(d, diskO s.2.1 60000)], s.2.2)) (fun s => s.1 ≤ l.length ∧ DOk s.2.1 60000 s.1 ∧ d < s.2.2) (fun s => l.length - s.1) (0, [], n3) ⟨by omega, ⟨fun f hf => by simp at hf, fun f hf => by simp at hf, by simp [usedN], List.nodup_nil, by simp, fun f hf => by simp at hf⟩, h4⟩ (Ent.of (by with_unfolding_all rfl) rfl) ?_
    rintro ⟨k, fs, n⟩ ⟨q1, q2, q3⟩
    dsimp only at q1 q2 q3 ⊢
    simp only [diskO]
    refine WK ?_; try with_reducible exact trivial
    refine brd (fun hlt => ?_) (fun hge => ?_)
    · have hkl2 : k < l.length := by omega
      have hm := List.getElem_mem hkl2
      rw [← gt_eq hkl2] at hm
      obtain ⟨a1, a2, a3, a4, a5, a6, a7⟩ := hl.2 _ hm
      obtain ⟨b1, b2, b3, b4⟩ := hsm _ hm
      have hd : 6 ≤ ((actsC l).drop (k * 6)).length := by rw [List.length_drop, actsC, flat_len' actC_len]; omega
      have ht : ((actsC l).drop (k * 6)).take 6 = actC (gt l k) := flatC_take actC_len l hkl2
      simp -dsimp (disch := omega) only [↓MC.xwp, ↓xopsWp, ↓xdr, ↓MOp.xwp, dvs, dv, dvu, dvo, dvp, dgb, dGd, dBool, cond_true, cond_false, asFn, dget, dput, dput?, dead?, dres, ptr, bsc, cv, uo, uof, unopt, xpr, xdevr, xev0, cutK, cutN, xldk, xldn, xbsk, xst, xgp, glc, vExt, vFldA, vFld, vFad, vIxs, vIxa, vIxvA, vIxv, vSls, vLen, vPick, vNilc, vIsnil, dev0, devr, dsl, dif, dcells, dover, dbuild, scs, rowOf, strideOf, dtk, dtake, done1, pev, pbin, pint, pbool, pstr, psl, vnil, ↓thenD, ↓blockD, ↓retX, ↓xres, xcell, tupD, argD, dkeep, ckLive, kp, xdone, xheld, dstD, isLdM, ldOp, ldIds, ldSlots, selfOk, nb, dst1, inDone, allDone, apart, slotsApart, heldAll, heldOk, Op.operands, Nat.reduceAdd, forall_eq_or_imp, D.plain, reduceCtorEq, if_true, if_false, ↓reduceIte, ne_eq, Bool.cond_true, Bool.cond_false, forall_const, implies_true, forall_eq, Int.reduceEq, Int.reduceLT, Int.reduceLE, Int.reduceAdd, Int.reduceSub, Int.reduceMul, Int.reduceToNat, Nat.reduceMul, Nat.reduceLeDiff, Nat.reduceLT, Nat.reduceSub, Nat.reduceBEq, Nat.reduceEqDiff, matD, bytesD, iD, intsD, boolD, strD, bD, DB, ht]
      refine dact d (do07_a fs 60000 (gt l k) q2.small q2.sync (by have := q2.len; omega) (by have := q2.used; omega) (by omega) (by omega) (by omega) (by omega) (by omega) a7) (by omega) (rget_here _ _ _) List.not_mem_nil fun n4 h5 => ?_
      rw [rdel_here]
      simp only [diskO]
      refine WK ?_; try with_reducible exact trivial
      exact ⟨(k + 1, doF fs 60000 (gt l k), n4), ⟨by dsimp only; omega, do_ok q2 (by omega) _, by dsimp only; omega⟩, by dsimp only; omega, (Ent.of (by with_unfolding_all rfl) rfl)⟩
    · refine WK ?_; try with_reducible exact trivial
      have hk100 : k ≤ 100 := by omega
      refine dcallR [d] (rpick_one (rget_here _ _ _)) (copy_a fs 60000 q2.small (by omega) (namesV_nodup q2.nodup) (i := d) (by omega)) (by simp) fun _ _ n4 h5 ⟨c, fs', c1, c2, hd, hp, hro⟩ => ?_
      subst hd; subst hro
      have o1 := q2.perm hp
      rw [rdel_here]
      simp only [diskO, List.cons_append, List.nil_append]
      refine WK ?_; try with_reducible exact trivial
      refine dact d (crash_a fs 60000 keep q2.small q2.sync hk.2 (by have := q2.len; omega) (by omega)) (by omega) (by (repeat rw [rget_there (by omega)]); exact rget_here _ _ _) List.not_mem_nil fun n5 h6 => ?_
      rw [rdel_there (by omega), rdel_here]
      have o2 := crash_ok q2 keep
      have hnm := crashF_names fs keep
      have hcm : ∀ g ∈ crashF fs keep, ∃ f ∈ fs, ∃ m, f.2.2 ≤ m ∧ m ≤ f.2.1.length ∧ g = (f.1, f.2.1.take m, m) := fun g hg => crashF_mem keep q2.nodup q2.sync hg
      have hcs : ∀ {j : Nat} {f : FileS}, fs[j]? = some f → ∃ m, f.2.2 ≤ m ∧ m ≤ f.2.1.length ∧ (f.1, f.2.1.take m, m) ∈ crashF fs keep := fun hj => by
        obtain ⟨m, m1, m2, m3⟩ := crashF_spec keep q2.nodup q2.sync hj
        exact ⟨m, m1, m2, List.mem_of_getElem? m3⟩
      generalize hgs : crashF fs keep = gs at *
      simp only [diskO]
      refine WK ?_; try with_reducible exact trivial
      refine dactn c (names_a fs' 60000 o1.small (by have := o1.len; omega)) (by omega) (by (repeat rw [rget_there (by omega)]); exact rget_here _ _ _) List.not_mem_nil fun k1 n6 h7 h8 => ?_
      rw [show namesL fs' = namesL fs from namesL_perm (hp.map _)]
      simp only [diskO, strsO]
      refine WK ?_; try with_reducible exact trivial
      refine dactn d (names_a gs 60000 o2.small (by have := o2.len; omega)) (by omega) (by (repeat rw [rget_there (by omega)]); exact rget_here _ _ _) List.not_mem_nil fun k2 n7 h9 h10 => ?_
      rw [show namesL gs = namesL fs from namesL_perm (by rw [hnm])]
      have hpl : ∀ x ∈ (namesL fs).map strD, x.plain := fun x hx => by obtain ⟨y, _, rfl⟩ := List.mem_map.1 hx; trivial
      simp only [diskO, strsO]
      refine WK ?_; try with_reducible exact trivial
      refine dcall_frz k1 (t' := .mk _) (by (repeat rw [rget_there (by omega)]); exact rget_here _ _ _) hpl List.not_mem_nil ?_
      simp -dsimp (disch := omega) only [↓MC.xwp, ↓xopsWp, ↓xdr, ↓MOp.xwp, dvs, dv, dvu, dvo, dvp, dgb, dGd, dBool, cond_true, cond_false, asFn, dget, dput, dput?, dead?, dres, ptr, bsc, cv, uo, uof, unopt, xpr, xdevr, xev0, cutK, cutN, xldk, xldn, xbsk, xst, xgp, glc, vExt, vFldA, vFld, vFad, vIxs, vIxa, vIxvA, vIxv, vSls, vLen, vPick, vNilc, vIsnil, dev0, devr, dsl, dif, dcells, dover, dbuild, scs, rowOf, strideOf, dtk, dtake, done1, pev, pbin, pint, pbool, pstr, psl, vnil, ↓thenD, ↓blockD, ↓retX, ↓xres, xcell, tupD, argD, dkeep, ckLive, kp, xdone, xheld, dstD, isLdM, ldOp, ldIds, ldSlots, selfOk, nb, dst1, inDone, allDone, apart, slotsApart, heldAll, heldOk, Op.operands, Nat.reduceAdd, forall_eq_or_imp, D.plain, reduceCtorEq, if_true, if_false, ↓reduceIte, ne_eq, Bool.cond_true, Bool.cond_false, forall_const, implies_true, forall_eq, Int.reduceEq, Int.reduceLT, Int.reduceLE, Int.reduceAdd, Int.reduceSub, Int.reduceMul, Int.reduceToNat, Nat.reduceMul, Nat.reduceLeDiff, Nat.reduceLT, Nat.reduceSub, Nat.reduceBEq, Nat.reduceEqDiff, matD, bytesD, iD, intsD, boolD, strD, bD, DB, List.map_cons, List.map_nil, dres]
      refine dcall_frz k2 (t' := .mk _) (by (repeat rw [rget_there (by omega)]); exact rget_here _ _ _) hpl List.not_mem_nil ?_
      simp -dsimp (disch := omega) only [↓MC.xwp, ↓xopsWp, ↓xdr, ↓MOp.xwp, dvs, dv, dvu, dvo, dvp, dgb, dGd, dBool, cond_true, cond_false, asFn, dget, dput, dput?, dead?, dres, ptr, bsc, cv, uo, uof, unopt, xpr, xdevr, xev0, cutK, cutN, xldk, xldn, xbsk, xst, xgp, glc, vExt, vFldA, vFld, vFad, vIxs, vIxa, vIxvA, vIxv, vSls, vLen, vPick, vNilc, vIsnil, dev0, devr, dsl, dif, dcells, dover, dbuild, scs, rowOf, strideOf, dtk, dtake, done1, pev, pbin, pint, pbool, pstr, psl, vnil, ↓thenD, ↓blockD, ↓retX, ↓xres, xcell, tupD, argD, dkeep, ckLive, kp, xdone, xheld, dstD, isLdM, ldOp, ldIds, ldSlots, selfOk, nb, dst1, inDone, allDone, apart, slotsApart, heldAll, heldOk, Op.operands, Nat.reduceAdd, forall_eq_or_imp, D.plain, reduceCtorEq, if_true, if_false, ↓reduceIte, ne_eq, Bool.cond_true, Bool.cond_false, forall_const, implies_true, forall_eq, Int.reduceEq, Int.reduceLT, Int.reduceLE, Int.reduceAdd, Int.reduceSub, Int.reduceMul, Int.reduceToNat, Nat.reduceMul, Nat.reduceLeDiff, Nat.reduceLT, Nat.reduceSub, Nat.reduceBEq, Nat.reduceEqDiff, matD, bytesD, iD, intsD, boolD, strD, bD, DB, List.map_cons, List.map_nil, dres]
      refine dfun (strings_d (namesL fs) (namesL fs) (by rw [namesL_len]; have := q2.len; omega)) fun n8 h11 => ?_
      rw [show decide (namesL fs = namesL fs) = true from decide_eq_true rfl]
      refine WK ?_; try with_reducible exact trivial
      have hnl : (namesL fs).length ≤ 100 := by rw [namesL_len]; have := q2.len; omega
      refine dloop [1, 5, 7, 8, 9] (fun s : Nat × Nat => ([(1, intsD keep), (5, .hp d 0), (7, .hp c 0), (8, .h k1), (9, iD (s.1 : Nat))], [(k1, strsD (namesL fs)), (c, diskO fs' 60000), (d, diskO gs 60000)], s.2)) (fun s => s.1 ≤ (namesL fs).length ∧ k1 < s.2 ∧ c < s.2 ∧ d < s.2) (fun s => (namesL fs).length - s.1) (0, n8) ⟨by omega, by dsimp only; omega, by dsimp only; omega, by dsimp only; omega⟩ ((Ent.only [k1, c, d] _ _ _).trans (by simp -dsimp (disch := omega) only [↓MC.xwp, ↓xopsWp, ↓xdr, ↓MOp.xwp, dvs, dv, dvu, dvo, dvp, dgb, dGd, dBool, cond_true, cond_false, asFn, dget, dput, dput?, dead?, dres, ptr, bsc, cv, uo, uof, unopt, xpr, xdevr, xev0, cutK, cutN, xldk, xldn, xbsk, xst, xgp, glc, vExt, vFldA, vFld, vFad, vIxs, vIxa, vIxvA, vIxv, vSls, vLen, vPick, vNilc, vIsnil, dev0, devr, dsl, dif, dcells, dover, dbuild, scs, rowOf, strideOf, dtk, dtake, done1, pev, pbin, pint, pbool, pstr, psl, vnil, ↓thenD, ↓blockD, ↓retX, ↓xres, xcell, tupD, argD, dkeep, ckLive, kp, xdone, xheld, dstD, isLdM, ldOp, ldIds, ldSlots, selfOk, nb, dst1, inDone, allDone, apart, slotsApart, heldAll, heldOk, Op.operands, Nat.reduceAdd, forall_eq_or_imp, D.plain, reduceCtorEq, if_true, if_false, ↓reduceIte, ne_eq, Bool.cond_true, Bool.cond_false, forall_const, implies_true, forall_eq, Int.reduceEq, Int.reduceLT, Int.reduceLE, Int.reduceAdd, Int.reduceSub, Int.reduceMul, Int.reduceToNat, Nat.reduceMul, Nat.reduceLeDiff, Nat.reduceLT, Nat.reduceSub, Nat.reduceBEq, Nat.reduceEqDiff, matD, bytesD, iD, intsD, boolD, strD, bD, DB, rpick]; exact (Ent.of (by with_unfolding_all rfl) rfl))) ?_
      rintro ⟨x, n9⟩ ⟨r1, r2, r3, r4⟩
      dsimp only at r1 r2 r3 r4 ⊢
      simp only [diskO]
      refine WK ?_; try with_reducible exact trivial
      refine brd (fun hlt2 => ?_) (fun hge2 => ?_)
      · have hxl : x < (namesL fs).length := by omega
        obtain ⟨f, hf, hfe⟩ : ∃ f ∈ fs, f.1 = gt (namesL fs) x := by
          have hm : gt (namesL fs) x ∈ namesL fs := by rw [gt_eq hxl]; exact List.getElem_mem _
          exact List.mem_map.1 ((namesL_mem fs _).1 hm)
        obtain ⟨j0, hj0⟩ := List.mem_iff_getElem?.1 hf
        obtain ⟨m, m1, m2, m3⟩ := hcs hj0
        obtain ⟨j1, f1, f2⟩ := findF_mem o1.nodup (hp.mem_iff.2 hf)
        obtain ⟨j2, g1, g2⟩ := findF_mem o2.nodup m3
        rw [hfe] at f1
        have g1' : findF gs (gt (namesL fs) x) = some j2 := by rw [← hfe]; exact g1
        have hfl := q2.named f hf
        have hnx : (gt (namesL fs) x).length ≤ 1000 := by rw [← hfe]; omega
        have hsf := q2.small f hf
        refine WK ?_; try with_reducible exact trivial
        refine dactn c (read_a fs' 60000 (gt (namesL fs) x) o1.small hnx f1 f2) (by omega) (by (repeat rw [rget_there (by omega)]); exact rget_here _ _ _) List.not_mem_nil fun a1 n10 t1 t2 => ?_
        simp only [diskO]
        refine WK ?_; try with_reducible exact trivial
        refine dactn c (synced_a fs' 60000 (gt (namesL fs) x) o1.small hnx f1 f2 (q2.sync f hf)) (by omega) (by (repeat rw [rget_there (by omega)]); exact rget_here _ _ _) List.not_mem_nil fun a2 n11 t3 t4 => ?_
        simp only [diskO]
        refine WK ?_; try with_reducible exact trivial
        refine dactn d (read_a gs 60000 (gt (namesL fs) x) o2.small hnx g1' g2) (by omega) (by (repeat rw [rget_there (by omega)]); exact rget_here _ _ _) List.not_mem_nil fun a3 n12 t5 t6 => ?_
        simp only [diskO]
        refine WK ?_; try with_reducible exact trivial
        refine dactn d (synced_a gs 60000 (gt (namesL fs) x) o2.small hnx g1' g2 (by dsimp only; rw [List.length_take]; omega)) (by omega) (by (repeat rw [rget_there (by omega)]); exact rget_here _ _ _) List.not_mem_nil fun a4 n13 t7 t8 => ?_
        dsimp only
        have hlm : (f.2.1.take m).length = m := by rw [List.length_take]; omega
        have hls : (f.2.1.take f.2.2).length = f.2.2 := by rw [List.length_take]; have := q2.sync f hf; omega
        rw [List.take_of_length_le (show (f.2.1.take m).length ≤ m by omega)]
        simp only [diskO]
        simp -dsimp (disch := omega) only [↓MC.xwp, ↓xopsWp, ↓xdr, ↓MOp.xwp, dvs, dv, dvu, dvo, dvp, dgb, dGd, dBool, cond_true, cond_false, asFn, dget, dput, dput?, dead?, dres, ptr, bsc, cv, uo, uof, unopt, xpr, xdevr, xev0, cutK, cutN, xldk, xldn, xbsk, xst, xgp, glc, vExt, vFldA, vFld, vFad, vIxs, vIxa, vIxvA, vIxv, vSls, vLen, vPick, vNilc, vIsnil, dev0, devr, dsl, dif, dcells, dover, dbuild, scs, rowOf, strideOf, dtk, dtake, done1, pev, pbin, pint, pbool, pstr, psl, vnil, ↓thenD, ↓blockD, ↓retX, ↓xres, xcell, tupD, argD, dkeep, ckLive, kp, xdone, xheld, dstD, isLdM, ldOp, ldIds, ldSlots, selfOk, nb, dst1, inDone, allDone, apart, slotsApart, heldAll, heldOk, Op.operands, Nat.reduceAdd, forall_eq_or_imp, D.plain, reduceCtorEq, if_true, if_false, ↓reduceIte, ne_eq, Bool.cond_true, Bool.cond_false, forall_const, implies_true, forall_eq, Int.reduceEq, Int.reduceLT, Int.reduceLE, Int.reduceAdd, Int.reduceSub, Int.reduceMul, Int.reduceToNat, Nat.reduceMul, Nat.reduceLeDiff, Nat.reduceLT, Nat.reduceSub, Nat.reduceBEq, Nat.reduceEqDiff, matD, bytesD, iD, intsD, boolD, strD, bD, DB, bytesO, hlm, hls]
        have hbp : ∀ b : Bs, ∀ x ∈ b.map bD, x.plain := fun b x hx => by obtain ⟨y, _, rfl⟩ := List.mem_map.1 hx; trivial
        refine ofrz (chk (hbp _) ?_)
        refine WK ?_; try with_reducible exact trivial
        have hsl : D.sl m ((f.2.1.map bD).take m) = bytesD (f.2.1.take m) := by simp only [bytesD, hlm, List.map_take]
        rw [hsl]
        refine dcall_frz a3 (t' := .mk _) (by (repeat rw [rget_there (by omega)]); exact rget_here _ _ _) (hbp _) List.not_mem_nil ?_
        simp -dsimp (disch := omega) only [↓MC.xwp, ↓xopsWp, ↓xdr, ↓MOp.xwp, dvs, dv, dvu, dvo, dvp, dgb, dGd, dBool, cond_true, cond_false, asFn, dget, dput, dput?, dead?, dres, ptr, bsc, cv, uo, uof, unopt, xpr, xdevr, xev0, cutK, cutN, xldk, xldn, xbsk, xst, xgp, glc, vExt, vFldA, vFld, vFad, vIxs, vIxa, vIxvA, vIxv, vSls, vLen, vPick, vNilc, vIsnil, dev0, devr, dsl, dif, dcells, dover, dbuild, scs, rowOf, strideOf, dtk, dtake, done1, pev, pbin, pint, pbool, pstr, psl, vnil, ↓thenD, ↓blockD, ↓retX, ↓xres, xcell, tupD, argD, dkeep, ckLive, kp, xdone, xheld, dstD, isLdM, ldOp, ldIds, ldSlots, selfOk, nb, dst1, inDone, allDone, apart, slotsApart, heldAll, heldOk, Op.operands, Nat.reduceAdd, forall_eq_or_imp, D.plain, reduceCtorEq, if_true, if_false, ↓reduceIte, ne_eq, Bool.cond_true, Bool.cond_false, forall_const, implies_true, forall_eq, Int.reduceEq, Int.reduceLT, Int.reduceLE, Int.reduceAdd, Int.reduceSub, Int.reduceMul, Int.reduceToNat, Nat.reduceMul, Nat.reduceLeDiff, Nat.reduceLT, Nat.reduceSub, Nat.reduceBEq, Nat.reduceEqDiff, matD, bytesD, iD, intsD, boolD, strD, bD, DB, List.map_cons, List.map_nil, dres]
        refine dfun (show DFun Try.prog f_ref01_Same [.sl m ((f.2.1.take m).map bD), .sl (f.2.1.take m).length ((f.2.1.take m).map bD)] (boolD true) from ?_) fun n14 t9 => ?_
        · have := same01_d (f.2.1.take m) (f.2.1.take m)
          rw [decide_eq_true rfl] at this
          simp only [bytesD, hlm] at this ⊢
          exact this
        refine WK ?_; try with_reducible exact trivial
        refine dcall_frz a4 (t' := .mk _) (by (repeat rw [rget_there (by omega)]); exact rget_here _ _ _) (hbp _) List.not_mem_nil ?_
        simp -dsimp (disch := omega) only [↓MC.xwp, ↓xopsWp, ↓xdr, ↓MOp.xwp, dvs, dv, dvu, dvo, dvp, dgb, dGd, dBool, cond_true, cond_false, asFn, dget, dput, dput?, dead?, dres, ptr, bsc, cv, uo, uof, unopt, xpr, xdevr, xev0, cutK, cutN, xldk, xldn, xbsk, xst, xgp, glc, vExt, vFldA, vFld, vFad, vIxs, vIxa, vIxvA, vIxv, vSls, vLen, vPick, vNilc, vIsnil, dev0, devr, dsl, dif, dcells, dover, dbuild, scs, rowOf, strideOf, dtk, dtake, done1, pev, pbin, pint, pbool, pstr, psl, vnil, ↓thenD, ↓blockD, ↓retX, ↓xres, xcell, tupD, argD, dkeep, ckLive, kp, xdone, xheld, dstD, isLdM, ldOp, ldIds, ldSlots, selfOk, nb, dst1, inDone, allDone, apart, slotsApart, heldAll, heldOk, Op.operands, Nat.reduceAdd, forall_eq_or_imp, D.plain, reduceCtorEq, if_true, if_false, ↓reduceIte, ne_eq, Bool.cond_true, Bool.cond_false, forall_const, implies_true, forall_eq, Int.reduceEq, Int.reduceLT, Int.reduceLE, Int.reduceAdd, Int.reduceSub, Int.reduceMul, Int.reduceToNat, Nat.reduceMul, Nat.reduceLeDiff, Nat.reduceLT, Nat.reduceSub, Nat.reduceBEq, Nat.reduceEqDiff, matD, bytesD, iD, intsD, boolD, strD, bD, DB, List.map_cons, List.map_nil, dres]
        refine dfun (show DFun Try.prog f_ref01_Same [.sl m ((f.2.1.take m).map bD), .sl m ((f.2.1.take m).map bD)] (boolD true) from ?_) fun n15 t10 => ?_
        · have := same01_d (f.2.1.take m) (f.2.1.take m)
          rw [decide_eq_true rfl] at this
          simp only [bytesD, hlm] at this ⊢
          exact this
        refine WK ?_; try with_reducible exact trivial
        refine ⟨(x + 1, n15), ⟨by dsimp only; omega, by dsimp only; omega, by dsimp only; omega, by dsimp only; omega⟩, by dsimp only; omega, (Ent.only [k1, c, d] _ _ _).trans (by simp -dsimp (disch := omega) only [↓MC.xwp, ↓xopsWp, ↓xdr, ↓MOp.xwp, dvs, dv, dvu, dvo, dvp, dgb, dGd, dBool, cond_true, cond_false, asFn, dget, dput, dput?, dead?, dres, ptr, bsc, cv, uo, uof, unopt, xpr, xdevr, xev0, cutK, cutN, xldk, xldn, xbsk, xst, xgp, glc, vExt, vFldA, vFld, vFad, vIxs, vIxa, vIxvA, vIxv, vSls, vLen, vPick, vNilc, vIsnil, dev0, devr, dsl, dif, dcells, dover, dbuild, scs, rowOf, strideOf, dtk, dtake, done1, pev, pbin, pint, pbool, pstr, psl, vnil, ↓thenD, ↓blockD, ↓retX, ↓xres, xcell, tupD, argD, dkeep, ckLive, kp, xdone, xheld, dstD, isLdM, ldOp, ldIds, ldSlots, selfOk, nb, dst1, inDone, allDone, apart, slotsApart, heldAll, heldOk, Op.operands, Nat.reduceAdd, forall_eq_or_imp, D.plain, reduceCtorEq, if_true, if_false, ↓reduceIte, ne_eq, Bool.cond_true, Bool.cond_false, forall_const, implies_true, forall_eq, Int.reduceEq, Int.reduceLT, Int.reduceLE, Int.reduceAdd, Int.reduceSub, Int.reduceMul, Int.reduceToNat, Nat.reduceMul, Nat.reduceLeDiff, Nat.reduceLT, Nat.reduceSub, Nat.reduceBEq, Nat.reduceEqDiff, matD, bytesD, iD, intsD, boolD, strD, bD, DB, rpick]; exact (Ent.of (by with_unfolding_all rfl) rfl))⟩
      · refine WK ?_; try with_reducible exact trivial
        refine dcallR [d] (rpick_one (by (repeat rw [rget_there (by omega)]); exact rget_here _ _ _)) (copy_a gs 60000 o2.small (by omega) (namesV_nodup o2.nodup) (i := d) (by omega)) (by simp) fun _ _ n10 h12 ⟨e, gs', c3, c4, hd, hp2, hro⟩ => ?_
        subst hd; subst hro
        have o3 := o2.perm hp2
        simp only [diskO, List.cons_append, List.nil_append]
        refine WK ?_; try with_reducible exact trivial
        refine dact d (crash_a gs 60000 keep o2.small o2.sync hk.2 (by have := o2.len; omega) (by omega)) (by omega) (by (repeat rw [rget_there (by omega)]); exact rget_here _ _ _) List.not_mem_nil fun n11 h13 => ?_
        have hsame : crashF gs keep = gs := crashN_same _ _ _ fun g hg => by
          obtain ⟨f, hf, m, m1, m2, rfl⟩ := hcm g hg
          dsimp only; rw [List.length_take]; omega
        rw [hsame]
        simp only [diskO]
        refine WK ?_; try with_reducible exact trivial
        refine dloop [5, 8, 18, 19] (fun s : Nat × Nat => ([(5, .hp d 0), (8, .h k1), (18, .hp e 0), (19, iD (s.1 : Nat))], [(k1, strsD (namesL fs)), (d, diskO gs 60000), (e, diskO gs' 60000)], s.2)) (fun s => s.1 ≤ (namesL fs).length ∧ k1 < s.2 ∧ e < s.2 ∧ d < s.2) (fun s => (namesL fs).length - s.1) (0, n11) ⟨by omega, by dsimp only; omega, by dsimp only; omega, by dsimp only; omega⟩ ((Ent.only [k1, d, e] _ _ _).trans (by simp -dsimp (disch := omega) only [↓MC.xwp, ↓xopsWp, ↓xdr, ↓MOp.xwp, dvs, dv, dvu, dvo, dvp, dgb, dGd, dBool, cond_true, cond_false, asFn, dget, dput, dput?, dead?, dres, ptr, bsc, cv, uo, uof, unopt, xpr, xdevr, xev0, cutK, cutN, xldk, xldn, xbsk, xst, xgp, glc, vExt, vFldA, vFld, vFad, vIxs, vIxa, vIxvA, vIxv, vSls, vLen, vPick, vNilc, vIsnil, dev0, devr, dsl, dif, dcells, dover, dbuild, scs, rowOf, strideOf, dtk, dtake, done1, pev, pbin, pint, pbool, pstr, psl, vnil, ↓thenD, ↓blockD, ↓retX, ↓xres, xcell, tupD, argD, dkeep, ckLive, kp, xdone, xheld, dstD, isLdM, ldOp, ldIds, ldSlots, selfOk, nb, dst1, inDone, allDone, apart, slotsApart, heldAll, heldOk, Op.operands, Nat.reduceAdd, forall_eq_or_imp, D.plain, reduceCtorEq, if_true, if_false, ↓reduceIte, ne_eq, Bool.cond_true, Bool.cond_false, forall_const, implies_true, forall_eq, Int.reduceEq, Int.reduceLT, Int.reduceLE, Int.reduceAdd, Int.reduceSub, Int.reduceMul, Int.reduceToNat, Nat.reduceMul, Nat.reduceLeDiff, Nat.reduceLT, Nat.reduceSub, Nat.reduceBEq, Nat.reduceEqDiff, matD, bytesD, iD, intsD, boolD, strD, bD, DB, rpick]; exact (Ent.of (by with_unfolding_all rfl) rfl))) ?_
        rintro ⟨y, n12⟩ ⟨r5, r6, r7, r8⟩
        dsimp only at r5 r6 r7 r8 ⊢
        simp only [diskO]
        refine WK ?_; try with_reducible exact trivial
        refine brd (fun hlt3 => ?_) (fun hge3 => ?_)
        · have hyl : y < (namesL fs).length := by omega
          obtain ⟨f, hf, hfe⟩ : ∃ f ∈ fs, f.1 = gt (namesL fs) y := by
            have hm : gt (namesL fs) y ∈ namesL fs := by rw [gt_eq hyl]; exact List.getElem_mem _
            exact List.mem_map.1 ((namesL_mem fs _).1 hm)
          obtain ⟨j0, hj0⟩ := List.mem_iff_getElem?.1 hf
          obtain ⟨m, m1, m2, m3⟩ := hcs hj0
          obtain ⟨j1, f1, f2⟩ := findF_mem o3.nodup (hp2.mem_iff.2 m3)
          obtain ⟨j2, g1, g2⟩ := findF_mem o2.nodup m3
          have g1' : findF gs (gt (namesL fs) y) = some j2 := by rw [← hfe]; exact g1
          have f1' : findF gs' (gt (namesL fs) y) = some j1 := by rw [← hfe]; exact f1
          have hfl := q2.named f hf
          have hny : (gt (namesL fs) y).length ≤ 1000 := by rw [← hfe]; omega
          have hbp : ∀ b : Bs, ∀ x ∈ b.map bD, x.plain := fun b x hx => by obtain ⟨y, _, rfl⟩ := List.mem_map.1 hx; trivial
          refine WK ?_; try with_reducible exact trivial
          refine dactn d (read_a gs 60000 (gt (namesL fs) y) o2.small hny g1' g2) (by omega) (by (repeat rw [rget_there (by omega)]); exact rget_here _ _ _) List.not_mem_nil fun a1 n13 t1 t2 => ?_
          simp only [diskO]
          refine WK ?_; try with_reducible exact trivial
          refine dactn e (read_a gs' 60000 (gt (namesL fs) y) o3.small hny f1' f2) (by omega) (by (repeat rw [rget_there (by omega)]); exact rget_here _ _ _) List.not_mem_nil fun a2 n14 t3 t4 => ?_
          simp only [diskO, bytesO]
          refine WK ?_; try with_reducible exact trivial
          refine dcall_frz a1 (t' := .mk _) (by (repeat rw [rget_there (by omega)]); exact rget_here _ _ _) (hbp _) List.not_mem_nil ?_
          simp -dsimp (disch := omega) only [↓MC.xwp, ↓xopsWp, ↓xdr, ↓MOp.xwp, dvs, dv, dvu, dvo, dvp, dgb, dGd, dBool, cond_true, cond_false, asFn, dget, dput, dput?, dead?, dres, ptr, bsc, cv, uo, uof, unopt, xpr, xdevr, xev0, cutK, cutN, xldk, xldn, xbsk, xst, xgp, glc, vExt, vFldA, vFld, vFad, vIxs, vIxa, vIxvA, vIxv, vSls, vLen, vPick, vNilc, vIsnil, dev0, devr, dsl, dif, dcells, dover, dbuild, scs, rowOf, strideOf, dtk, dtake, done1, pev, pbin, pint, pbool, pstr, psl, vnil, ↓thenD, ↓blockD, ↓retX, ↓xres, xcell, tupD, argD, dkeep, ckLive, kp, xdone, xheld, dstD, isLdM, ldOp, ldIds, ldSlots, selfOk, nb, dst1, inDone, allDone, apart, slotsApart, heldAll, heldOk, Op.operands, Nat.reduceAdd, forall_eq_or_imp, D.plain, reduceCtorEq, if_true, if_false, ↓reduceIte, ne_eq, Bool.cond_true, Bool.cond_false, forall_const, implies_true, forall_eq, Int.reduceEq, Int.reduceLT, Int.reduceLE, Int.reduceAdd, Int.reduceSub, Int.reduceMul, Int.reduceToNat, Nat.reduceMul, Nat.reduceLeDiff, Nat.reduceLT, Nat.reduceSub, Nat.reduceBEq, Nat.reduceEqDiff, matD, bytesD, iD, intsD, boolD, strD, bD, DB, List.map_cons, List.map_nil, dres]
          refine dcall_frz a2 (t' := .mk _) (by (repeat rw [rget_there (by omega)]); exact rget_here _ _ _) (hbp _) List.not_mem_nil ?_
          simp -dsimp (disch := omega) only [↓MC.xwp, ↓xopsWp, ↓xdr, ↓MOp.xwp, dvs, dv, dvu, dvo, dvp, dgb, dGd, dBool, cond_true, cond_false, asFn, dget, dput, dput?, dead?, dres, ptr, bsc, cv, uo, uof, unopt, xpr, xdevr, xev0, cutK, cutN, xldk, xldn, xbsk, xst, xgp, glc, vExt, vFldA, vFld, vFad, vIxs, vIxa, vIxvA, vIxv, vSls, vLen, vPick, vNilc, vIsnil, dev0, devr, dsl, dif, dcells, dover, dbuild, scs, rowOf, strideOf, dtk, dtake, done1, pev, pbin, pint, pbool, pstr, psl, vnil, ↓thenD, ↓blockD, ↓retX, ↓xres, xcell, tupD, argD, dkeep, ckLive, kp, xdone, xheld, dstD, isLdM, ldOp, ldIds, ldSlots, selfOk, nb, dst1, inDone, allDone, apart, slotsApart, heldAll, heldOk, Op.operands, Nat.reduceAdd, forall_eq_or_imp, D.plain, reduceCtorEq, if_true, if_false, ↓reduceIte, ne_eq, Bool.cond_true, Bool.cond_false, forall_const, implies_true, forall_eq, Int.reduceEq, Int.reduceLT, Int.reduceLE, Int.reduceAdd, Int.reduceSub, Int.reduceMul, Int.reduceToNat, Nat.reduceMul, Nat.reduceLeDiff, Nat.reduceLT, Nat.reduceSub, Nat.reduceBEq, Nat.reduceEqDiff, matD, bytesD, iD, intsD, boolD, strD, bD, DB, List.map_cons, List.map_nil, dres]
          refine dfun (same01_d (f.2.1.take m) (f.2.1.take m)) fun n15 t5 => ?_
          rw [show decide (f.2.1.take m = f.2.1.take m) = true from decide_eq_true rfl]
          refine WK ?_; try with_reducible exact trivial
          refine ⟨(y + 1, n15), ⟨by dsimp only; omega, by dsimp only; omega, by dsimp only; omega, by dsimp only; omega⟩, by dsimp only; omega, (Ent.only [k1, d, e] _ _ _).trans (by simp -dsimp (disch := omega) only [↓MC.xwp, ↓xopsWp, ↓xdr, ↓MOp.xwp, dvs, dv, dvu, dvo, dvp, dgb, dGd, dBool, cond_true, cond_false, asFn, dget, dput, dput?, dead?, dres, ptr, bsc, cv, uo, uof, unopt, xpr, xdevr, xev0, cutK, cutN, xldk, xldn, xbsk, xst, xgp, glc, vExt, vFldA, vFld, vFad, vIxs, vIxa, vIxvA, vIxv, vSls, vLen, vPick, vNilc, vIsnil, dev0, devr, dsl, dif, dcells, dover, dbuild, scs, rowOf, strideOf, dtk, dtake, done1, pev, pbin, pint, pbool, pstr, psl, vnil, ↓thenD, ↓blockD, ↓retX, ↓xres, xcell, tupD, argD, dkeep, ckLive, kp, xdone, xheld, dstD, isLdM, ldOp, ldIds, ldSlots, selfOk, nb, dst1, inDone, allDone, apart, slotsApart, heldAll, heldOk, Op.operands, Nat.reduceAdd, forall_eq_or_imp, D.plain, reduceCtorEq, if_true, if_false, ↓reduceIte, ne_eq, Bool.cond_true, Bool.cond_false, forall_const, implies_true, forall_eq, Int.reduceEq, Int.reduceLT, Int.reduceLE, Int.reduceAdd, Int.reduceSub, Int.reduceMul, Int.reduceToNat, Nat.reduceMul, Nat.reduceLeDiff, Nat.reduceLT, Nat.reduceSub, Nat.reduceBEq, Nat.reduceEqDiff, matD, bytesD, iD, intsD, boolD, strD, bD, DB, rpick]; exact (Ent.of (by with_unfolding_all rfl) rfl))⟩
        · refine WK ?_; try with_reducible exact trivial
          exact dret0 ⟨rfl, rfl⟩
end Go.Proofs.Ytgpkbldlkadnjaa
end
/- The law DiskSynced, for every input: its row, out of its contract over data. No condition. -/
set_option linter.unusedVariables false
namespace Go.Proofs.Ytgpkbldlkadnjaa.diskSynced
open Go Go.Sl Go.ChangeShapes Go.WideShapes Go.ChangeAt Go.RowKit
open Go.ChangeMaps (open_string shut_string)
theorem laidOut : laidOutB Try.prog = true := zf_laid
set_option maxRecDepth 100000 in
theorem lifted (os : Os) (started : os.Started) (H : Type) (enc : TypeId × Value → H) :
    ReturnsInHanded {} Try.checked os 17 .any (Rows.diskSyncedSpec.pre6 enc Try.prog Try.f17 Rows.diskSyncedRow.domain false) (Rows.diskSyncedSpec.post enc Try.prog Try.f17 false true false false) := by
  refine returnsInHanded_of_change_sized (C := Try.checked) zf_own started (by kernel_rfl) Try.func17
    (ChangeSpec.witness6 (enc := enc) (C := Try.checked) false ⟨#[], #[.slice none 0 0, .slice none 0 0], []⟩ 8 (by kernel_rfl) (by kernel_rfl) (by kernel_rfl) (by kernel_rfl)) ?_
  intro W base args ds gs before hval0 hW hcnd hsz0 _
  have hsz : (DataW.weightsEach Try.prog (Try.f17.params.toList ++ Rows.diskSyncedSpec.plain.varTypes Try.prog) (ds ++ gs)).all (· ≤ reachBytes) = true := hsz0
  have hval : ∀ (j : Nat) t v, Try.f17.params[j]? = some t → args[j]? = some v → Value.okWide Try.prog W .any base t v := hval0
  have hW' := hW
  obtain ⟨p, q, hA0, hV, rfl, hfz, hnd⟩ := hW
  have hA : DataW.TrodAll enc Try.prog W 0 (fun _ => true) true Try.f17.params.toList args.toList ds p := hA0
  rw [Try.params17] at hA hval hsz
  obtain ⟨v0, vs0, d0, ds0, p0, q0, hargs, rfl, rfl, h0, r0⟩ := trodAll_cons hA
  obtain ⟨v1, vs1, d1, ds1, p1, q1, rfl, rfl, rfl, h1, r1⟩ := trodAll_cons r0
  obtain ⟨rfl, rfl, rfl⟩ := trodAll_nil r1
  obtain rfl : args = #[v0, v1] := by cases args; simp_all
  obtain ⟨rfl, rfl⟩ := trodVars_none hV
  have k0 := h0
  have lt0 : ∀ x ∈ p0, x.block < W.heap.size := by obtain ⟨m, hm⟩ := k0; exact DataW.trod_lt m _ _ _ hm
  obtain ⟨m0, rs0, hb0⟩ := op_acts.slice Try.underlying74 (hval 0 74 v0 rfl rfl) h0 (sized_at hsz (j := 0) rfl rfl)
  have k1 := h1
  have lt1 : ∀ x ∈ p1, x.block < W.heap.size := by obtain ⟨m, hm⟩ := k1; exact DataW.trod_lt m _ _ _ hm
  obtain ⟨m1, rs1, hb1⟩ := op_ints.slice Try.underlying33 (hval 1 33 v1 rfl rfl) h1 (sized_at hsz (j := 1) rfl rfl)
  clear hA0 hval0 hsz0 hsz
  refine (below_of_dfun (diskSynced_d m0 hb0 m1 hb1) (rsl_cons rs0 (rsl_cons rs1 rsl_nil))).mono fun e W' ⟨he, bel⟩ => ?_
  subst he
  exact ⟨_, rfl, _, _, _, [], _, [], hW', trodAll_mk1 (shut_bool Try.underlying4 _), (trodAll_cons_mk (Below.trod laidOut (by kernel_rfl) (of_decide_eq_true (by kernel_rfl)) k0 bel lt0) (trodAll_cons_mk (Below.trod laidOut (by kernel_rfl) (of_decide_eq_true (by kernel_rfl)) k1 bel lt1) trodAll_mk0)), rfl, bel.frame _, fun h => by cases h⟩
theorem inP : Try.prog.inPlace 17 = [] := by kernel_rfl
theorem unf : Try.prog.unfollowed 17 = true := by kernel_rfl
theorem rec : Try.prog.recurses 17 = true := by kernel_rfl
theorem nam : Try.prog.varsNamed 17 = [] := by kernel_rfl
theorem fnm : Try.prog.funcNamed Rows.diskSyncedRow.func = some 17 := by kernel_rfl
theorem facts : joinedFacts Try.prog 17 Try.f17 Rows.diskSyncedSpec Rows.diskSyncedRow = true :=
  facts_of zf_laid zf_maps zf_stops zf_knobs zf_plain zf_heard zf_enter zf_lifts zf_make inP unf rec nam rfl rfl rfl rfl rfl rfl rfl rfl rfl
    (by kernel_rfl) (by kernel_rfl) (by kernel_rfl) (by kernel_rfl) (by kernel_rfl) (by kernel_rfl) (by kernel_rfl) (by kernel_rfl) (by kernel_rfl) (by kernel_rfl) (by kernel_rfl) (by kernel_rfl) (by kernel_rfl) rfl rfl (by kernel_rfl) (by kernel_rfl) (by kernel_rfl)
theorem over : Rows.diskSyncedRow.holds Try.pinned (OpenSpec.ofChange Rows.diskSyncedSpec) :=
  OpenClaim.holds_of_wide 17 Try.f17 rfl rfl rfl rfl rfl rfl rfl ⟨rfl, rfl, rfl, rfl, rfl⟩ rfl rfl rfl rfl rfl fnm Try.func17 facts
    (of_decide_eq_true (by kernel_rfl)) (by unfold Func.isWrapper; first | (rw [if_pos (by decide +kernel)]; kernel_rfl) | (rw [if_neg (by decide +kernel)]; exact ⟨rfl, rfl⟩))
    (fun os started H enc _ => lifted os started H enc)
theorem proved : Rows.DiskSyncedSaid := over
end Go.Proofs.Ytgpkbldlkadnjaa.diskSynced
namespace Go.Proofs.Ytgpkbldlkadnjaa
/-- The row, under a short name. -/
theorem diskSynced_holds : Rows.DiskSyncedSaid := diskSynced.proved
#print axioms diskSynced_holds
end Go.Proofs.Ytgpkbldlkadnjaa
