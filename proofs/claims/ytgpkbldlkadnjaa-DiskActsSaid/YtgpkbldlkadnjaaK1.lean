/- Law DiskSynced over data. -/
import Derived.Test.YtgpkbldlkadnjaaJ7
import Derived.Test.YtgpkbldlkadnjaaJ8
import Derived.Test.YtgpkbldlkadnjaaRows
import Derived.Test.YtgpkbldlkadnjaaJ3
section
set_option linter.unusedVariables false
set_option linter.unusedSimpArgs false
set_option maxHeartbeats 3000000
attribute [local irreducible] Go.Sl.Chk Go.Sl.Br Go.Sl.Or2 Go.Sl.Ld Go.Sl.Ldn Go.Sl.LdB Go.Sl.Stn Go.Sl.New Go.Sl.Run Go.Sl.RunU Go.Sl.RunX Go.Sl.Call Go.Sl.LoopK Go.Sl.RawK Go.Sl.Alt Go.Sl.Om Go.Sl.xpk Go.Sl.xgpk Go.Sl.xglk Go.Sl.DLd Go.Sl.DLdG Go.Sl.DBs Go.Sl.DCall Go.Sl.DApp Go.Sl.DGen Go.Sl.DGenU Go.Sl.DGC Go.Sl.DLoop Go.Sl.DRaw Go.Sl.DRet Go.Sl.Ent Go.Sl.dget Go.Sl.dv Go.Sl.ev Go.Sl.eget
namespace Go.Proofs.Ytgpkbldlkadnjaa
open Go Go.Sl Go.RowKit
theorem fewGo_mem : ∀ {l : List ActS} {n : Nat}, n ≤ 5000 → fewGo l n = true → ∀ a ∈ l, a.name.length ≤ 100 ∧ a.other.length ≤ 100 ∧ a.b.length ≤ 5000 ∧ a.keep.length ≤ 5000
  | x :: l, n, hn, h, a, ha => by
    simp only [fewGo] at h
    split at h
    · cases h
    · rename_i hx
      rcases List.mem_cons.1 ha with rfl | ha
      · omega
      · exact fewGo_mem (by omega) h a ha
theorem few07_spec {l : List ActS} (h : few07 l = true) : l.length ≤ 100 ∧ ∀ a ∈ l, a.name.length ≤ 100 ∧ a.other.length ≤ 100 ∧ a.b.length ≤ 5000 ∧ a.keep.length ≤ 5000 := by
  unfold few07 at h
  rw [Bool.and_eq_true, decide_eq_true_eq] at h
  refine ⟨h.2, ?_⟩
  have := h.1
  rw [List.take_of_length_le (by omega)] at this
  exact fewGo_mem (by omega) this
end Go.Proofs.Ytgpkbldlkadnjaa
end
section
/- Law DiskActs over data. -/
set_option linter.unusedVariables false
set_option linter.unusedSimpArgs false
set_option maxHeartbeats 3000000
attribute [local irreducible] Go.Sl.Chk Go.Sl.Br Go.Sl.Or2 Go.Sl.Ld Go.Sl.Ldn Go.Sl.LdB Go.Sl.Stn Go.Sl.New Go.Sl.Run Go.Sl.RunU Go.Sl.RunX Go.Sl.Call Go.Sl.LoopK Go.Sl.RawK Go.Sl.Alt Go.Sl.Om Go.Sl.xpk Go.Sl.xgpk Go.Sl.xglk Go.Sl.DLd Go.Sl.DLdG Go.Sl.DBs Go.Sl.DCall Go.Sl.DApp Go.Sl.DGen Go.Sl.DGenU Go.Sl.DGC Go.Sl.DLoop Go.Sl.DRaw Go.Sl.DRet Go.Sl.Ent Go.Sl.dget Go.Sl.dv Go.Sl.ev Go.Sl.eget
namespace Go.Proofs.Ytgpkbldlkadnjaa
open Go Go.Sl Go.RowKit
set_option maxRecDepth 100000 in
theorem diskActs_d (l : List ActS) (hl : l.length ≤ 140737488351232 ∧ ∀ a ∈ l, a.ok) (c : Int) (hc : -9223372036854775808 ≤ c ∧ c ≤ 9223372036854775807) : DFun Try.prog f_law07_DiskActs [.sl l.length (actsC l), iD c] (boolD true) := by
  intro nx
  refine xcalls c_law07_DiskActs (by simp only [m_law07_DiskActs, List.length]; decide) ?_
  simp only [m_law07_DiskActs]; refine WK ?_; try with_reducible exact trivial
  refine dfun awake07_d fun n1 h1 => ?_
  refine WK ?_; try with_reducible exact trivial
  refine dfun (few07_d l hl.2 hl.1) fun n2 h2 => ?_
  cases hfew : few07 l with
  | false =>
    refine WK ?_; try with_reducible exact trivial
    refine dfun awake07_d fun n3 h3 => ?_
    refine WK ?_; try with_reducible exact trivial
    exact dret0 ⟨rfl, rfl⟩
  | true =>
  obtain ⟨hl100, hsm⟩ := few07_spec hfew
  refine WK ?_; try with_reducible exact trivial
  refine dnew (new_o c hc) fun d n3 h3 h4 => ?_
  obtain ⟨most, hmost⟩ : ∃ m : Nat, (min (max c 0) 65536).toNat = m := ⟨_, rfl⟩
  have hml : most ≤ 65536 := by omega
  rw [hmost]
  simp only [diskO]
  rcases (by omega : (c < 0 ∧ most = 0) ∨ ((0 ≤ c ∧ c ≤ 65536) ∧ c = most) ∨ (65536 < c ∧ most = 65536)) with ⟨g0, gm⟩ | ⟨g0, gm⟩ | ⟨g0, gm⟩
  rotate_left
  · subst gm
    refine WK ?_; try with_reducible exact trivial
    refine dloop [0, 5, 6, 7, 8] (fun s : Nat × List FileS × List FileS × Nat => ([(0, .sl l.length (actsC l)), (5, .hp d 0), (6, iD (most : Nat)), (7, filesD s.2.2.1), (8, iD (s.1 : Nat))], [(d, diskO s.2.1 most)], s.2.2.2)) (fun s => s.1 ≤ l.length ∧ DOk s.2.1 most s.1 ∧ s.2.1.Perm s.2.2.1 ∧ SortF s.2.2.1 ∧ d < s.2.2.2) (fun s => l.length - s.1) (0, [], [], n3) ⟨by omega, ⟨fun f hf => by simp at hf, fun f hf => by simp at hf, by simp [usedN], List.nodup_nil, by simp, fun f hf => by simp at hf⟩, List.Perm.refl _, List.Pairwise.nil, h4⟩ ((Ent.nilv 7 (d := .sc (.slice none 0 0)) (by with_unfolding_all rfl)).trans (Ent.of (by with_unfolding_all rfl) rfl)) ?_
    rintro ⟨k, fs, m, n⟩ ⟨q1, q2, q3, q4, q5⟩
    dsimp only at q1 q2 q3 q4 q5 ⊢
    simp only [diskO]
    refine WK ?_; try with_reducible exact trivial
    refine brd (fun hlt => ?_) (fun hge => ?_)
    · have hkl : k < l.length := by omega
      have hm := List.getElem_mem hkl
      rw [← gt_eq hkl] at hm
      obtain ⟨a1, a2, a3, a4, a5, a6, a7⟩ := hl.2 _ hm
      obtain ⟨b1, b2, b3, b4⟩ := hsm _ hm
      have hd : 6 ≤ ((actsC l).drop (k * 6)).length := by rw [List.length_drop, actsC, flat_len' actC_len]; omega
      have ht : ((actsC l).drop (k * 6)).take 6 = actC (gt l k) := flatC_take actC_len l hkl
      have e0 := acts_get l (j := k) (k := 0) hkl (by omega)
      simp only [actC, List.getElem?_cons_zero, Nat.add_zero] at e0
      generalize gt l k = a at *
      rcases Decidable.em (a.act < 0) with hneg | hneg
      · simp -dsimp (disch := omega) only [↓MC.xwp, ↓xopsWp, ↓xdr, ↓MOp.xwp, dvs, dv, dvu, dvo, dvp, dgb, dGd, dBool, cond_true, cond_false, asFn, dget, dput, dput?, dead?, dres, ptr, bsc, cv, uo, uof, unopt, xpr, xdevr, xev0, cutK, cutN, xldk, xldn, xbsk, xst, xgp, glc, vExt, vFldA, vFld, vFad, vIxs, vIxa, vIxvA, vIxv, vSls, vLen, vPick, vNilc, vIsnil, dev0, devr, dsl, dif, dcells, dover, dbuild, scs, rowOf, strideOf, dtk, dtake, done1, pev, pbin, pint, pbool, pstr, psl, vnil, ↓thenD, ↓blockD, ↓retX, ↓xres, xcell, tupD, argD, dkeep, ckLive, kp, xdone, xheld, dstD, isLdM, ldOp, ldIds, ldSlots, selfOk, nb, dst1, inDone, allDone, apart, slotsApart, heldAll, heldOk, Op.operands, Nat.reduceAdd, forall_eq_or_imp, D.plain, reduceCtorEq, if_true, if_false, ↓reduceIte, ne_eq, Bool.cond_true, Bool.cond_false, forall_const, implies_true, forall_eq, Int.reduceEq, Int.reduceLT, Int.reduceLE, Int.reduceAdd, Int.reduceSub, Int.reduceMul, Int.reduceToNat, Nat.reduceMul, Nat.reduceLeDiff, Nat.reduceLT, Nat.reduceSub, Nat.reduceBEq, Nat.reduceEqDiff, matD, bytesD, iD, intsD, boolD, strD, bD, DB, e0]
        refine dldg (v := iD a.act) (fun _ => rfl) ?_
        refine WK ?_; try with_reducible exact trivial
        exact dret0 ⟨rfl, rfl⟩
      · simp -dsimp (disch := omega) only [↓MC.xwp, ↓xopsWp, ↓xdr, ↓MOp.xwp, dvs, dv, dvu, dvo, dvp, dgb, dGd, dBool, cond_true, cond_false, asFn, dget, dput, dput?, dead?, dres, ptr, bsc, cv, uo, uof, unopt, xpr, xdevr, xev0, cutK, cutN, xldk, xldn, xbsk, xst, xgp, glc, vExt, vFldA, vFld, vFad, vIxs, vIxa, vIxvA, vIxv, vSls, vLen, vPick, vNilc, vIsnil, dev0, devr, dsl, dif, dcells, dover, dbuild, scs, rowOf, strideOf, dtk, dtake, done1, pev, pbin, pint, pbool, pstr, psl, vnil, ↓thenD, ↓blockD, ↓retX, ↓xres, xcell, tupD, argD, dkeep, ckLive, kp, xdone, xheld, dstD, isLdM, ldOp, ldIds, ldSlots, selfOk, nb, dst1, inDone, allDone, apart, slotsApart, heldAll, heldOk, Op.operands, Nat.reduceAdd, forall_eq_or_imp, D.plain, reduceCtorEq, if_true, if_false, ↓reduceIte, ne_eq, Bool.cond_true, Bool.cond_false, forall_const, implies_true, forall_eq, Int.reduceEq, Int.reduceLT, Int.reduceLE, Int.reduceAdd, Int.reduceSub, Int.reduceMul, Int.reduceToNat, Nat.reduceMul, Nat.reduceLeDiff, Nat.reduceLT, Nat.reduceSub, Nat.reduceBEq, Nat.reduceEqDiff, matD, bytesD, iD, intsD, boolD, strD, bD, DB, e0]
        refine brd (fun hbig => ?_) (fun hok => ?_)
        · refine WK ?_; try with_reducible exact trivial
          exact dret0 ⟨rfl, rfl⟩
        · refine WK ?_; try with_reducible exact trivial
          refine dcallR [d] (rpick_one (by (repeat rw [rget_there (by omega)]); exact rget_here _ _ _)) (copy_a fs most q2.small hml (namesV_nodup q2.nodup) (i := d) (by omega)) (by simp) fun _ _ n4 h5 ⟨e, fs', c1, c2, hd', hp, hro⟩ => ?_
          subst hd'; subst hro
          have o1 := q2.perm hp
          have om := q2.perm q3.symm
          have o2 := do_ok q2 hml a
          obtain ⟨s1, s2, s3⟩ := do_same q2 q3 q4 a (by omega) (by omega)
          have hR := rdo07_d m most a om.small om.sync (by have := om.len; omega) (by have := om.used; omega) (by omega) (by omega) (by omega) a7 a5
          have hF := do07_a fs most a q2.small q2.sync (by have := q2.len; omega) (by have := q2.used; omega) (by omega) (by omega) (by omega) (by omega) (by omega) a7
          rw [s3] at hF
          generalize doR m most a = R at *
          generalize doF fs most a = F at *
          rw [rdel_here]
          simp only [diskO, List.cons_append, List.nil_append]
          simp -dsimp (disch := omega) only [↓MC.xwp, ↓xopsWp, ↓xdr, ↓MOp.xwp, dvs, dv, dvu, dvo, dvp, dgb, dGd, dBool, cond_true, cond_false, asFn, dget, dput, dput?, dead?, dres, ptr, bsc, cv, uo, uof, unopt, xpr, xdevr, xev0, cutK, cutN, xldk, xldn, xbsk, xst, xgp, glc, vExt, vFldA, vFld, vFad, vIxs, vIxa, vIxvA, vIxv, vSls, vLen, vPick, vNilc, vIsnil, dev0, devr, dsl, dif, dcells, dover, dbuild, scs, rowOf, strideOf, dtk, dtake, done1, pev, pbin, pint, pbool, pstr, psl, vnil, ↓thenD, ↓blockD, ↓retX, ↓xres, xcell, tupD, argD, dkeep, ckLive, kp, xdone, xheld, dstD, isLdM, ldOp, ldIds, ldSlots, selfOk, nb, dst1, inDone, allDone, apart, slotsApart, heldAll, heldOk, Op.operands, Nat.reduceAdd, forall_eq_or_imp, D.plain, reduceCtorEq, if_true, if_false, ↓reduceIte, ne_eq, Bool.cond_true, Bool.cond_false, forall_const, implies_true, forall_eq, Int.reduceEq, Int.reduceLT, Int.reduceLE, Int.reduceAdd, Int.reduceSub, Int.reduceMul, Int.reduceToNat, Nat.reduceMul, Nat.reduceLeDiff, Nat.reduceLT, Nat.reduceSub, Nat.reduceBEq, Nat.reduceEqDiff, matD, bytesD, iD, intsD, boolD, strD, bD, DB, ht]
          refine dfun hR fun n5 h6 => ?_
          simp -dsimp (disch := omega) only [↓MC.xwp, ↓xopsWp, ↓xdr, ↓MOp.xwp, dvs, dv, dvu, dvo, dvp, dgb, dGd, dBool, cond_true, cond_false, asFn, dget, dput, dput?, dead?, dres, ptr, bsc, cv, uo, uof, unopt, xpr, xdevr, xev0, cutK, cutN, xldk, xldn, xbsk, xst, xgp, glc, vExt, vFldA, vFld, vFad, vIxs, vIxa, vIxvA, vIxv, vSls, vLen, vPick, vNilc, vIsnil, dev0, devr, dsl, dif, dcells, dover, dbuild, scs, rowOf, strideOf, dtk, dtake, done1, pev, pbin, pint, pbool, pstr, psl, vnil, ↓thenD, ↓blockD, ↓retX, ↓xres, xcell, tupD, argD, dkeep, ckLive, kp, xdone, xheld, dstD, isLdM, ldOp, ldIds, ldSlots, selfOk, nb, dst1, inDone, allDone, apart, slotsApart, heldAll, heldOk, Op.operands, Nat.reduceAdd, forall_eq_or_imp, D.plain, reduceCtorEq, if_true, if_false, ↓reduceIte, ne_eq, Bool.cond_true, Bool.cond_false, forall_const, implies_true, forall_eq, Int.reduceEq, Int.reduceLT, Int.reduceLE, Int.reduceAdd, Int.reduceSub, Int.reduceMul, Int.reduceToNat, Nat.reduceMul, Nat.reduceLeDiff, Nat.reduceLT, Nat.reduceSub, Nat.reduceBEq, Nat.reduceEqDiff, matD, bytesD, iD, intsD, boolD, strD, bD, DB, ht]
          refine dact d hF (by omega) (by (repeat rw [rget_there (by omega)]); exact rget_here _ _ _) List.not_mem_nil fun n6 h7 => ?_
          simp only [diskO]
          refine WK ?_; try with_reducible exact trivial
          refine dact d (same07_a F R.1 most s1 o2.nodup (namesL_sorted s1 s2) o2.small o2.sync (by have := o2.len; omega) (by have := o2.used; omega)) (by omega) (by (repeat rw [rget_there (by omega)]); exact rget_here _ _ _) List.not_mem_nil fun n7 h8 => ?_
          simp only [diskO]
          refine WK ?_; try with_reducible exact trivial
          refine dact e (same07_a fs' m most (hp.trans q3) o1.nodup (namesL_sorted (hp.trans q3) q4) o1.small o1.sync (by have := o1.len; omega) (by have := o1.used; omega)) (by omega) (by (repeat rw [rget_there (by omega)]); exact rget_here _ _ _) List.not_mem_nil fun n8 h9 => ?_
          simp only [diskO]
          refine WK ?_; try with_reducible exact trivial
          refine ⟨(k + 1, F, R.1, n8), ⟨by dsimp only; omega, o2, s1, s2, by dsimp only; omega⟩, by dsimp only; omega, (Ent.only [d] _ _ _).trans (by simp -dsimp (disch := omega) only [↓MC.xwp, ↓xopsWp, ↓xdr, ↓MOp.xwp, dvs, dv, dvu, dvo, dvp, dgb, dGd, dBool, cond_true, cond_false, asFn, dget, dput, dput?, dead?, dres, ptr, bsc, cv, uo, uof, unopt, xpr, xdevr, xev0, cutK, cutN, xldk, xldn, xbsk, xst, xgp, glc, vExt, vFldA, vFld, vFad, vIxs, vIxa, vIxvA, vIxv, vSls, vLen, vPick, vNilc, vIsnil, dev0, devr, dsl, dif, dcells, dover, dbuild, scs, rowOf, strideOf, dtk, dtake, done1, pev, pbin, pint, pbool, pstr, psl, vnil, ↓thenD, ↓blockD, ↓retX, ↓xres, xcell, tupD, argD, dkeep, ckLive, kp, xdone, xheld, dstD, isLdM, ldOp, ldIds, ldSlots, selfOk, nb, dst1, inDone, allDone, apart, slotsApart, heldAll, heldOk, Op.operands, Nat.reduceAdd, forall_eq_or_imp, D.plain, reduceCtorEq, if_true, if_false, ↓reduceIte, ne_eq, Bool.cond_true, Bool.cond_false, forall_const, implies_true, forall_eq, Int.reduceEq, Int.reduceLT, Int.reduceLE, Int.reduceAdd, Int.reduceSub, Int.reduceMul, Int.reduceToNat, Nat.reduceMul, Nat.reduceLeDiff, Nat.reduceLT, Nat.reduceSub, Nat.reduceBEq, Nat.reduceEqDiff, matD, bytesD, iD, intsD, boolD, strD, bD, DB, rpick]; exact (Ent.of (by with_unfolding_all rfl) rfl))⟩
    · refine WK ?_; try with_reducible exact trivial
      have om := q2.perm q3.symm
      have hk100 : k ≤ 100 := by omega
      cases hfn : findF fs [63] with
      | none =>
        refine dact d (read_no fs most [63] q2.small (by decide) hfn) (by omega) (rget_here _ _ _) List.not_mem_nil fun n4 h5 => ?_
        simp only [diskO]
        refine WK ?_; try with_reducible exact trivial
        refine dact d (synced_no fs most [63] q2.small (by decide) hfn) (by omega) (by (repeat rw [rget_there (by omega)]); exact rget_here _ _ _) List.not_mem_nil fun n5 h6 => ?_
        simp only [diskO]
        refine WK ?_; try with_reducible exact trivial
        refine dfun (find07_d m [63] (by have := om.len; omega)) fun n6 h7 => ?_
        rw [show findI m [63] = -1 by simp only [findI, find_none q2.nodup q3 hfn]]
        refine WK ?_; try with_reducible exact trivial
        exact dret0 ⟨rfl, rfl⟩
      | some j =>
        obtain ⟨i, f, hm, e1, e2, e3, e4⟩ := find_some q2.nodup q3 hfn
        refine dactn d (read_a fs most [63] q2.small (by decide) hfn e1) (by omega) (rget_here _ _ _) List.not_mem_nil fun k1 n4 h5 h6 => ?_
        simp only [diskO]
        refine WK ?_; try with_reducible exact trivial
        refine dactn d (synced_a fs most [63] q2.small (by decide) hfn e1 (q2.sync f (List.mem_of_getElem? e1))) (by omega) (by (repeat rw [rget_there (by omega)]); exact rget_here _ _ _) List.not_mem_nil fun k2 n5 h7 h8 => ?_
        simp only [diskO]
        refine WK ?_; try with_reducible exact trivial
        refine dfun (find07_d m [63] (by have := om.len; omega)) fun n6 h9 => ?_
        rw [show findI m [63] = (i : Int) by simp only [findI, hm]]
        refine WK ?_; try with_reducible exact trivial
        exact dret0 ⟨rfl, rfl⟩
  · refine WK ?_; try with_reducible exact trivial
    rw [show ((6, D.sc (.int .i64 65536)) : Nat × D) = (6, iD (most : Nat)) from by rw [gm]; rfl]
    refine dloop [0, 5, 6, 7, 8] (fun s : Nat × List FileS × List FileS × Nat => ([(0, .sl l.length (actsC l)), (5, .hp d 0), (6, iD (most : Nat)), (7, filesD s.2.2.1), (8, iD (s.1 : Nat))], [(d, diskO s.2.1 most)], s.2.2.2)) (fun s => s.1 ≤ l.length ∧ DOk s.2.1 most s.1 ∧ s.2.1.Perm s.2.2.1 ∧ SortF s.2.2.1 ∧ d < s.2.2.2) (fun s => l.length - s.1) (0, [], [], n3) ⟨by omega, ⟨fun f hf => by simp at hf, fun f hf => by simp at hf, by simp [usedN], List.nodup_nil, by simp, fun f hf => by simp at hf⟩, List.Perm.refl _, List.Pairwise.nil, h4⟩ ((Ent.nilv 7 (d := .sc (.slice none 0 0)) (by with_unfolding_all rfl)).trans (Ent.of (by with_unfolding_all rfl) rfl)) ?_
    rintro ⟨k, fs, m, n⟩ ⟨q1, q2, q3, q4, q5⟩
    dsimp only at q1 q2 q3 q4 q5 ⊢
    simp only [diskO]
    refine WK ?_; try with_reducible exact trivial
    refine brd (fun hlt => ?_) (fun hge => ?_)
    · have hkl : k < l.length := by omega
      have hm := List.getElem_mem hkl
      rw [← gt_eq hkl] at hm
      obtain ⟨a1, a2, a3, a4, a5, a6, a7⟩ := hl.2 _ hm
      obtain ⟨b1, b2, b3, b4⟩ := hsm _ hm
      have hd : 6 ≤ ((actsC l).drop (k * 6)).length := by rw [List.length_drop, actsC, flat_len' actC_len]; omega
      have ht : ((actsC l).drop (k * 6)).take 6 = actC (gt l k) := flatC_take actC_len l hkl
      have e0 := acts_get l (j := k) (k := 0) hkl (by omega)
      simp only [actC, List.getElem?_cons_zero, Nat.add_zero] at e0
      generalize gt l k = a at *
      rcases Decidable.em (a.act < 0) with hneg | hneg
      · simp -dsimp (disch := omega) only [↓MC.xwp, ↓xopsWp, ↓xdr, ↓MOp.xwp, dvs, dv, dvu, dvo, dvp, dgb, dGd, dBool, cond_true, cond_false, asFn, dget, dput, dput?, dead?, dres, ptr, bsc, cv, uo, uof, unopt, xpr, xdevr, xev0, cutK, cutN, xldk, xldn, xbsk, xst, xgp, glc, vExt, vFldA, vFld, vFad, vIxs, vIxa, vIxvA, vIxv, vSls, vLen, vPick, vNilc, vIsnil, dev0, devr, dsl, dif, dcells, dover, dbuild, scs, rowOf, strideOf, dtk, dtake, done1, pev, pbin, pint, pbool, pstr, psl, vnil, ↓thenD, ↓blockD, ↓retX, ↓xres, xcell, tupD, argD, dkeep, ckLive, kp, xdone, xheld, dstD, isLdM, ldOp, ldIds, ldSlots, selfOk, nb, dst1, inDone, allDone, apart, slotsApart, heldAll, heldOk, Op.operands, Nat.reduceAdd, forall_eq_or_imp, D.plain, reduceCtorEq, if_true, if_false, ↓reduceIte, ne_eq, Bool.cond_true, Bool.cond_false, forall_const, implies_true, forall_eq, Int.reduceEq, Int.reduceLT, Int.reduceLE, Int.reduceAdd, Int.reduceSub, Int.reduceMul, Int.reduceToNat, Nat.reduceMul, Nat.reduceLeDiff, Nat.reduceLT, Nat.reduceSub, Nat.reduceBEq, Nat.reduceEqDiff, matD, bytesD, iD, intsD, boolD, strD, bD, DB, e0]
        refine dldg (v := iD a.act) (fun _ => rfl) ?_
        refine WK ?_; try with_reducible exact trivial
        exact dret0 ⟨rfl, rfl⟩
      · simp -dsimp (disch := omega) only [↓MC.xwp, ↓xopsWp, ↓xdr, ↓MOp.xwp, dvs, dv, dvu, dvo, dvp, dgb, dGd, dBool, cond_true, cond_false, asFn, dget, dput, dput?, dead?, dres, ptr, bsc, cv, uo, uof, unopt, xpr, xdevr, xev0, cutK, cutN, xldk, xldn, xbsk, xst, xgp, glc, vExt, vFldA, vFld, vFad, vIxs, vIxa, vIxvA, vIxv, vSls, vLen, vPick, vNilc, vIsnil, dev0, devr, dsl, dif, dcells, dover, dbuild, scs, rowOf, strideOf, dtk, dtake, done1, pev, pbin, pint, pbool, pstr, psl, vnil, ↓thenD, ↓blockD, ↓retX, ↓xres, xcell, tupD, argD, dkeep, ckLive, kp, xdone, xheld, dstD, isLdM, ldOp, ldIds, ldSlots, selfOk, nb, dst1, inDone, allDone, apart, slotsApart, heldAll, heldOk, Op.operands, Nat.reduceAdd, forall_eq_or_imp, D.plain, reduceCtorEq, if_true, if_false, ↓reduceIte, ne_eq, Bool.cond_true, Bool.cond_false, forall_const, implies_true, forall_eq, Int.reduceEq, Int.reduceLT, Int.reduceLE, Int.reduceAdd, Int.reduceSub, Int.reduceMul, Int.reduceToNat, Nat.reduceMul, Nat.reduceLeDiff, Nat.reduceLT, Nat.reduceSub, Nat.reduceBEq, Nat.reduceEqDiff, matD, bytesD, iD, intsD, boolD, strD, bD, DB, e0]
        refine brd (fun hbig => ?_) (fun hok => ?_)
        · refine WK ?_; try with_reducible exact trivial
          exact dret0 ⟨rfl, rfl⟩
        · refine WK ?_; try with_reducible exact trivial
          refine dcallR [d] (rpick_one (by (repeat rw [rget_there (by omega)]); exact rget_here _ _ _)) (copy_a fs most q2.small hml (namesV_nodup q2.nodup) (i := d) (by omega)) (by simp) fun _ _ n4 h5 ⟨e, fs', c1, c2, hd', hp, hro⟩ => ?_
          subst hd'; subst hro
          have o1 := q2.perm hp
          have om := q2.perm q3.symm
          have o2 := do_ok q2 hml a
          obtain ⟨s1, s2, s3⟩ := do_same q2 q3 q4 a (by omega) (by omega)
          have hR := rdo07_d m most a om.small om.sync (by have := om.len; omega) (by have := om.used; omega) (by omega) (by omega) (by omega) a7 a5
          have hF := do07_a fs most a q2.small q2.sync (by have := q2.len; omega) (by have := q2.used; omega) (by omega) (by omega) (by omega) (by omega) (by omega) a7
          rw [s3] at hF
          generalize doR m most a = R at *
          generalize doF fs most a = F at *
          rw [rdel_here]
          simp only [diskO, List.cons_append, List.nil_append]
          simp -dsimp (disch := omega) only [↓MC.xwp, ↓xopsWp, ↓xdr, ↓MOp.xwp, dvs, dv, dvu, dvo, dvp, dgb, dGd, dBool, cond_true, cond_false, asFn, dget, dput, dput?, dead?, dres, ptr, bsc, cv, uo, uof, unopt, xpr, xdevr, xev0, cutK, cutN, xldk, xldn, xbsk, xst, xgp, glc, vExt, vFldA, vFld, vFad, vIxs, vIxa, vIxvA, vIxv, vSls, vLen, vPick, vNilc, vIsnil, dev0, devr, dsl, dif, dcells, dover, dbuild, scs, rowOf, strideOf, dtk, dtake, done1, pev, pbin, pint, pbool, pstr, psl, vnil, ↓thenD, ↓blockD, ↓retX, ↓xres, xcell, tupD, argD, dkeep, ckLive, kp, xdone, xheld, dstD, isLdM, ldOp, ldIds, ldSlots, selfOk, nb, dst1, inDone, allDone, apart, slotsApart, heldAll, heldOk, Op.operands, Nat.reduceAdd, forall_eq_or_imp, D.plain, reduceCtorEq, if_true, if_false, ↓reduceIte, ne_eq, Bool.cond_true, Bool.cond_false, forall_const, implies_true, forall_eq, Int.reduceEq, Int.reduceLT, Int.reduceLE, Int.reduceAdd, Int.reduceSub, Int.reduceMul, Int.reduceToNat, Nat.reduceMul, Nat.reduceLeDiff, Nat.reduceLT, Nat.reduceSub, Nat.reduceBEq, Nat.reduceEqDiff, matD, bytesD, iD, intsD, boolD, strD, bD, DB, ht]
          refine dfun hR fun n5 h6 => ?_
          simp -dsimp (disch := omega) only [↓MC.xwp, ↓xopsWp, ↓xdr, ↓MOp.xwp, dvs, dv, dvu, dvo, dvp, dgb, dGd, dBool, cond_true, cond_false, asFn, dget, dput, dput?, dead?, dres, ptr, bsc, cv, uo, uof, unopt, xpr, xdevr, xev0, cutK, cutN, xldk, xldn, xbsk, xst, xgp, glc, vExt, vFldA, vFld, vFad, vIxs, vIxa, vIxvA, vIxv, vSls, vLen, vPick, vNilc, vIsnil, dev0, devr, dsl, dif, dcells, dover, dbuild, scs, rowOf, strideOf, dtk, dtake, done1, pev, pbin, pint, pbool, pstr, psl, vnil, ↓thenD, ↓blockD, ↓retX, ↓xres, xcell, tupD, argD, dkeep, ckLive, kp, xdone, xheld, dstD, isLdM, ldOp, ldIds, ldSlots, selfOk, nb, dst1, inDone, allDone, apart, slotsApart, heldAll, heldOk, Op.operands, Nat.reduceAdd, forall_eq_or_imp, D.plain, reduceCtorEq, if_true, if_false, ↓reduceIte, ne_eq, Bool.cond_true, Bool.cond_false, forall_const, implies_true, forall_eq, Int.reduceEq, Int.reduceLT, Int.reduceLE, Int.reduceAdd, Int.reduceSub, Int.reduceMul, Int.reduceToNat, Nat.reduceMul, Nat.reduceLeDiff, Nat.reduceLT, Nat.reduceSub, Nat.reduceBEq, Nat.reduceEqDiff, matD, bytesD, iD, intsD, boolD, strD, bD, DB, ht]
          refine dact d hF (by omega) (by (repeat rw [rget_there (by omega)]); exact rget_here _ _ _) List.not_mem_nil fun n6 h7 => ?_
          simp only [diskO]
          refine WK ?_; try with_reducible exact trivial
          refine dact d (same07_a F R.1 most s1 o2.nodup (namesL_sorted s1 s2) o2.small o2.sync (by have := o2.len; omega) (by have := o2.used; omega)) (by omega) (by (repeat rw [rget_there (by omega)]); exact rget_here _ _ _) List.not_mem_nil fun n7 h8 => ?_
          simp only [diskO]
          refine WK ?_; try with_reducible exact trivial
          refine dact e (same07_a fs' m most (hp.trans q3) o1.nodup (namesL_sorted (hp.trans q3) q4) o1.small o1.sync (by have := o1.len; omega) (by have := o1.used; omega)) (by omega) (by (repeat rw [rget_there (by omega)]); exact rget_here _ _ _) List.not_mem_nil fun n8 h9 => ?_
          simp only [diskO]
          refine WK ?_; try with_reducible exact trivial
          refine ⟨(k + 1, F, R.1, n8), ⟨by dsimp only; omega, o2, s1, s2, by dsimp only; omega⟩, by dsimp only; omega, (Ent.only [d] _ _ _).trans (by simp -dsimp (disch := omega) only [↓MC.xwp, ↓xopsWp, ↓xdr, ↓MOp.xwp, dvs, dv, dvu, dvo, dvp, dgb, dGd, dBool, cond_true, cond_false, asFn, dget, dput, dput?, dead?, dres, ptr, bsc, cv, uo, uof, unopt, xpr, xdevr, xev0, cutK, cutN, xldk, xldn, xbsk, xst, xgp, glc, vExt, vFldA, vFld, vFad, vIxs, vIxa, vIxvA, vIxv, vSls, vLen, vPick, vNilc, vIsnil, dev0, devr, dsl, dif, dcells, dover, dbuild, scs, rowOf, strideOf, dtk, dtake, done1, pev, pbin, pint, pbool, pstr, psl, vnil, ↓thenD, ↓blockD, ↓retX, ↓xres, xcell, tupD, argD, dkeep, ckLive, kp, xdone, xheld, dstD, isLdM, ldOp, ldIds, ldSlots, selfOk, nb, dst1, inDone, allDone, apart, slotsApart, heldAll, heldOk, Op.operands, Nat.reduceAdd, forall_eq_or_imp, D.plain, reduceCtorEq, if_true, if_false, ↓reduceIte, ne_eq, Bool.cond_true, Bool.cond_false, forall_const, implies_true, forall_eq, Int.reduceEq, Int.reduceLT, Int.reduceLE, Int.reduceAdd, Int.reduceSub, Int.reduceMul, Int.reduceToNat, Nat.reduceMul, Nat.reduceLeDiff, Nat.reduceLT, Nat.reduceSub, Nat.reduceBEq, Nat.reduceEqDiff, matD, bytesD, iD, intsD, boolD, strD, bD, DB, rpick]; exact (Ent.of (by with_unfolding_all rfl) rfl))⟩
    · refine WK ?_; try with_reducible exact trivial
      have om := q2.perm q3.symm
      have hk100 : k ≤ 100 := by omega
      cases hfn : findF fs [63] with
      | none =>
        refine dact d (read_no fs most [63] q2.small (by decide) hfn) (by omega) (rget_here _ _ _) List.not_mem_nil fun n4 h5 => ?_
        simp only [diskO]
        refine WK ?_; try with_reducible exact trivial
        refine dact d (synced_no fs most [63] q2.small (by decide) hfn) (by omega) (by (repeat rw [rget_there (by omega)]); exact rget_here _ _ _) List.not_mem_nil fun n5 h6 => ?_
        simp only [diskO]
        refine WK ?_; try with_reducible exact trivial
        refine dfun (find07_d m [63] (by have := om.len; omega)) fun n6 h7 => ?_
        rw [show findI m [63] = -1 by simp only [findI, find_none q2.nodup q3 hfn]]
        refine WK ?_; try with_reducible exact trivial
        exact dret0 ⟨rfl, rfl⟩
      | some j =>
        obtain ⟨i, f, hm, e1, e2, e3, e4⟩ := find_some q2.nodup q3 hfn
        refine dactn d (read_a fs most [63] q2.small (by decide) hfn e1) (by omega) (rget_here _ _ _) List.not_mem_nil fun k1 n4 h5 h6 => ?_
        simp only [diskO]
        refine WK ?_; try with_reducible exact trivial
        refine dactn d (synced_a fs most [63] q2.small (by decide) hfn e1 (q2.sync f (List.mem_of_getElem? e1))) (by omega) (by (repeat rw [rget_there (by omega)]); exact rget_here _ _ _) List.not_mem_nil fun k2 n5 h7 h8 => ?_
        simp only [diskO]
        refine WK ?_; try with_reducible exact trivial
        refine dfun (find07_d m [63] (by have := om.len; omega)) fun n6 h9 => ?_
        rw [show findI m [63] = (i : Int) by simp only [findI, hm]]
        refine WK ?_; try with_reducible exact trivial
        exact dret0 ⟨rfl, rfl⟩
  · refine WK ?_; try with_reducible exact trivial
    rw [show ((6, D.sc (.int .i64 0)) : Nat × D) = (6, iD (most : Nat)) from by rw [gm]; rfl]
    refine dloop [0, 5, 6, 7, 8] (fun s : Nat × List FileS × List FileS × Nat => ([(0, .sl l.length (actsC l)), (5, .hp d 0), (6, iD (most : Nat)), (7, filesD s.2.2.1), (8, iD (s.1 : Nat))], [(d, diskO s.2.1 most)], s.2.2.2)) (fun s => s.1 ≤ l.length ∧ DOk s.2.1 most s.1 ∧ s.2.1.Perm s.2.2.1 ∧ SortF s.2.2.1 ∧ d < s.2.2.2) (fun s => l.length - s.1) (0, [], [], n3) ⟨by omega, ⟨fun f hf => by simp at hf, fun f hf => by simp at hf, by simp [usedN], List.nodup_nil, by simp, fun f hf => by simp at hf⟩, List.Perm.refl _, List.Pairwise.nil, h4⟩ ((Ent.nilv 7 (d := .sc (.slice none 0 0)) (by with_unfolding_all rfl)).trans (Ent.of (by with_unfolding_all rfl) rfl)) ?_
    rintro ⟨k, fs, m, n⟩ ⟨q1, q2, q3, q4, q5⟩
    dsimp only at q1 q2 q3 q4 q5 ⊢
    simp only [diskO]
    refine WK ?_; try with_reducible exact trivial
    refine brd (fun hlt => ?_) (fun hge => ?_)
    · have hkl : k < l.length := by omega
      have hm := List.getElem_mem hkl
      rw [← gt_eq hkl] at hm
      obtain ⟨a1, a2, a3, a4, a5, a6, a7⟩ := hl.2 _ hm
      obtain ⟨b1, b2, b3, b4⟩ := hsm _ hm
      have hd : 6 ≤ ((actsC l).drop (k * 6)).length := by rw [List.length_drop, actsC, flat_len' actC_len]; omega
      have ht : ((actsC l).drop (k * 6)).take 6 = actC (gt l k) := flatC_take actC_len l hkl
      have e0 := acts_get l (j := k) (k := 0) hkl (by omega)
      simp only [actC, List.getElem?_cons_zero, Nat.add_zero] at e0
      generalize gt l k = a at *
      rcases Decidable.em (a.act < 0) with hneg | hneg
      · simp -dsimp (disch := omega) only [↓MC.xwp, ↓xopsWp, ↓xdr, ↓MOp.xwp, dvs, dv, dvu, dvo, dvp, dgb, dGd, dBool, cond_true, cond_false, asFn, dget, dput, dput?, dead?, dres, ptr, bsc, cv, uo, uof, unopt, xpr, xdevr, xev0, cutK, cutN, xldk, xldn, xbsk, xst, xgp, glc, vExt, vFldA, vFld, vFad, vIxs, vIxa, vIxvA, vIxv, vSls, vLen, vPick, vNilc, vIsnil, dev0, devr, dsl, dif, dcells, dover, dbuild, scs, rowOf, strideOf, dtk, dtake, done1, pev, pbin, pint, pbool, pstr, psl, vnil, ↓thenD, ↓blockD, ↓retX, ↓xres, xcell, tupD, argD, dkeep, ckLive, kp, xdone, xheld, dstD, isLdM, ldOp, ldIds, ldSlots, selfOk, nb, dst1, inDone, allDone, apart, slotsApart, heldAll, heldOk, Op.operands, Nat.reduceAdd, forall_eq_or_imp, D.plain, reduceCtorEq, if_true, if_false, ↓reduceIte, ne_eq, Bool.cond_true, Bool.cond_false, forall_const, implies_true, forall_eq, Int.reduceEq, Int.reduceLT, Int.reduceLE, Int.reduceAdd, Int.reduceSub, Int.reduceMul, Int.reduceToNat, Nat.reduceMul, Nat.reduceLeDiff, Nat.reduceLT, Nat.reduceSub, Nat.reduceBEq, Nat.reduceEqDiff, matD, bytesD, iD, intsD, boolD, strD, bD, DB, e0]
        refine dldg (v := iD a.act) (fun _ => rfl) ?_
        refine WK ?_; try with_reducible exact trivial
        exact dret0 ⟨rfl, rfl⟩
      · simp -dsimp (disch := omega) only [↓MC.xwp, ↓xopsWp, ↓xdr, ↓MOp.xwp, dvs, dv, dvu, dvo, dvp, dgb, dGd, dBool, cond_true, cond_false, asFn, dget, dput, dput?, dead?, dres, ptr, bsc, cv, uo, uof, unopt, xpr, xdevr, xev0, cutK, cutN, xldk, xldn, xbsk, xst, xgp, glc, vExt, vFldA, vFld, vFad, vIxs, vIxa, vIxvA, vIxv, vSls, vLen, vPick, vNilc, vIsnil, dev0, devr, dsl, dif, dcells, dover, dbuild, scs, rowOf, strideOf, dtk, dtake, done1, pev, pbin, pint, pbool, pstr, psl, vnil, ↓thenD, ↓blockD, ↓retX, ↓xres, xcell, tupD, argD, dkeep, ckLive, kp, xdone, xheld, dstD, isLdM, ldOp, ldIds, ldSlots, selfOk, nb, dst1, inDone, allDone, apart, slotsApart, heldAll, heldOk, Op.operands, Nat.reduceAdd, forall_eq_or_imp, D.plain, reduceCtorEq, if_true, if_false, ↓reduceIte, ne_eq, Bool.cond_true, Bool.cond_false, forall_const, implies_true, forall_eq, Int.reduceEq, Int.reduceLT, Int.reduceLE, Int.reduceAdd, Int.reduceSub, Int.reduceMul, Int.reduceToNat, Nat.reduceMul, Nat.reduceLeDiff, Nat.reduceLT, Nat.reduceSub, Nat.reduceBEq, Nat.reduceEqDiff, matD, bytesD, iD, intsD, boolD, strD, bD, DB, e0]
        refine brd (fun hbig => ?_) (fun hok => ?_)
        · refine WK ?_; try with_reducible exact trivial
          exact dret0 ⟨rfl, rfl⟩
        · refine WK ?_; try with_reducible exact trivial
          refine dcallR [d] (rpick_one (by (repeat rw [rget_there (by omega)]); exact rget_here _ _ _)) (copy_a fs most q2.small hml (namesV_nodup q2.nodup) (i := d) (by omega)) (by simp) fun _ _ n4 h5 ⟨e, fs', c1, c2, hd', hp, hro⟩ => ?_
          subst hd'; subst hro
          have o1 := q2.perm hp
          have om := q2.perm q3.symm
          have o2 := do_ok q2 hml a
          obtain ⟨s1, s2, s3⟩ := do_same q2 q3 q4 a (by omega) (by omega)
          have hR := rdo07_d m most a om.small om.sync (by have := om.len; omega) (by have := om.used; omega) (by omega) (by omega) (by omega) a7 a5
          have hF := do07_a fs most a q2.small q2.sync (by have := q2.len; omega) (by have := q2.used; omega) (by omega) (by omega) (by omega) (by omega) (by omega) a7
          rw [s3] at hF
          generalize doR m most a = R at *
          generalize doF fs most a = F at *
          rw [rdel_here]
          simp only [diskO, List.cons_append, List.nil_append]
          simp -dsimp (disch := omega) only [↓MC.xwp, ↓xopsWp, ↓xdr, ↓MOp.xwp, dvs, dv, dvu, dvo, dvp, dgb, dGd, dBool, cond_true, cond_false, asFn, dget, dput, dput?, dead?, dres, ptr, bsc, cv, uo, uof, unopt, xpr, xdevr, xev0, cutK, cutN, xldk, xldn, xbsk, xst, xgp, glc, vExt, vFldA, vFld, vFad, vIxs, vIxa, vIxvA, vIxv, vSls, vLen, vPick, vNilc, vIsnil, dev0, devr, dsl, dif, dcells, dover, dbuild, scs, rowOf, strideOf, dtk, dtake, done1, pev, pbin, pint, pbool, pstr, psl, vnil, ↓thenD, ↓blockD, ↓retX, ↓xres, xcell, tupD, argD, dkeep, ckLive, kp, xdone, xheld, dstD, isLdM, ldOp, ldIds, ldSlots, selfOk, nb, dst1, inDone, allDone, apart, slotsApart, heldAll, heldOk, Op.operands, Nat.reduceAdd, forall_eq_or_imp, D.plain, reduceCtorEq, if_true, if_false, ↓reduceIte, ne_eq, Bool.cond_true, Bool.cond_false, forall_const, implies_true, forall_eq, Int.reduceEq, Int.reduceLT, Int.reduceLE, Int.reduceAdd, Int.reduceSub, Int.reduceMul, Int.reduceToNat, Nat.reduceMul, Nat.reduceLeDiff, Nat.reduceLT, Nat.reduceSub, Nat.reduceBEq, Nat.reduceEqDiff, matD, bytesD, iD, intsD, boolD, strD, bD, DB, ht]
          refine dfun hR fun n5 h6 => ?_
          simp -dsimp (disch := omega) only [↓MC.xwp, ↓xopsWp, ↓xdr, ↓MOp.xwp, dvs, dv, dvu, dvo, dvp, dgb, dGd, dBool, cond_true, cond_false, asFn, dget, dput, dput?, dead?, dres, ptr, bsc, cv, uo, uof, unopt, xpr, xdevr, xev0, cutK, cutN, xldk, xldn, xbsk, xst, xgp, glc, vExt, vFldA, vFld, vFad, vIxs, vIxa, vIxvA, vIxv, vSls, vLen, vPick, vNilc, vIsnil, dev0, devr, dsl, dif, dcells, dover, dbuild, scs, rowOf, strideOf, dtk, dtake, done1, pev, pbin, pint, pbool, pstr, psl, vnil, ↓thenD, ↓blockD, ↓retX, ↓xres, xcell, tupD, argD, dkeep, ckLive, kp, xdone, xheld, dstD, isLdM, ldOp, ldIds, ldSlots, selfOk, nb, dst1, inDone, allDone, apart, slotsApart, heldAll, heldOk, Op.operands, Nat.reduceAdd, forall_eq_or_imp, D.plain, reduceCtorEq, if_true, if_false, ↓reduceIte, ne_eq, Bool.cond_true, Bool.cond_false, forall_const, implies_true, forall_eq, Int.reduceEq, Int.reduceLT, Int.reduceLE, Int.reduceAdd, Int.reduceSub, Int.reduceMul, Int.reduceToNat, Nat.reduceMul, Nat.reduceLeDiff, Nat.reduceLT, Nat.reduceSub, Nat.reduceBEq, Nat.reduceEqDiff, matD, bytesD, iD, intsD, boolD, strD, bD, DB, ht]
          refine dact d hF (by omega) (by (repeat rw [rget_there (by omega)]); exact rget_here _ _ _) List.not_mem_nil fun n6 h7 => ?_
          simp only [diskO]
          refine WK ?_; try with_reducible exact trivial
          refine dact d (same07_a F R.1 most s1 o2.nodup (namesL_sorted s1 s2) o2.small o2.sync (by have := o2.len; omega) (by have := o2.used; omega)) (by omega) (by (repeat rw [rget_there (by omega)]); exact rget_here _ _ _) List.not_mem_nil fun n7 h8 => ?_
          simp only [diskO]
          refine WK ?_; try with_reducible exact trivial
          refine dact e (same07_a fs' m most (hp.trans q3) o1.nodup (namesL_sorted (hp.trans q3) q4) o1.small o1.sync (by have := o1.len; omega) (by have := o1.used; omega)) (by omega) (by (repeat rw [rget_there (by omega)]); exact rget_here _ _ _) List.not_mem_nil fun n8 h9 => ?_
          simp only [diskO]
          refine WK ?_; try with_reducible exact trivial
          refine ⟨(k + 1, F, R.1, n8), ⟨by dsimp only; omega, o2, s1, s2, by dsimp only; omega⟩, by dsimp only; omega, (Ent.only [d] _ _ _).trans (by simp -dsimp (disch := omega) only [↓MC.xwp, ↓xopsWp, ↓xdr, ↓MOp.xwp, dvs, dv, dvu, dvo, dvp, dgb, dGd, dBool, cond_true, cond_false, asFn, dget, dput, dput?, dead?, dres, ptr, bsc, cv, uo, uof, unopt, xpr, xdevr, xev0, cutK, cutN, xldk, xldn, xbsk, xst, xgp, glc, vExt, vFldA, vFld, vFad, vIxs, vIxa, vIxvA, vIxv, vSls, vLen, vPick, vNilc, vIsnil, dev0, devr, dsl, dif, dcells, dover, dbuild, scs, rowOf, strideOf, dtk, dtake, done1, pev, pbin, pint, pbool, pstr, psl, vnil, ↓thenD, ↓blockD, ↓retX, ↓xres, xcell, tupD, argD, dkeep, ckLive, kp, xdone, xheld, dstD, isLdM, ldOp, ldIds, ldSlots, selfOk, nb, dst1, inDone, allDone, apart, slotsApart, heldAll, heldOk, Op.operands, Nat.reduceAdd, forall_eq_or_imp, D.plain, reduceCtorEq, if_true, if_false, ↓reduceIte, ne_eq, Bool.cond_true, Bool.cond_false, forall_const, implies_true, forall_eq, Int.reduceEq, Int.reduceLT, Int.reduceLE, Int.reduceAdd, Int.reduceSub, Int.reduceMul, Int.reduceToNat, Nat.reduceMul, Nat.reduceLeDiff, Nat.reduceLT, Nat.reduceSub, Nat.reduceBEq, Nat.reduceEqDiff, matD, bytesD, iD, intsD, boolD, strD, bD, DB, rpick]; exact (Ent.of (by with_unfolding_all rfl) rfl))⟩
    · refine WK ?_; try with_reducible exact trivial
      have om := q2.perm q3.symm
      have hk100 : k ≤ 100 := by omega
      cases hfn : findF fs [63] with
      | none =>
        refine dact d (read_no fs most [63] q2.small (by decide) hfn) (by omega) (rget_here _ _ _) List.not_mem_nil fun n4 h5 => ?_
        simp only [diskO]
        refine WK ?_; try with_reducible exact trivial
        refine dact d (synced_no fs most [63] q2.small (by decide) hfn) (by omega) (by (repeat rw [rget_there (by omega)]); exact rget_here _ _ _) List.not_mem_nil fun n5 h6 => ?_
        simp only [diskO]
        refine WK ?_; try with_reducible exact trivial
        refine dfun (find07_d m [63] (by have := om.len; omega)) fun n6 h7 => ?_
        rw [show findI m [63] = -1 by simp only [findI, find_none q2.nodup q3 hfn]]
        refine WK ?_; try with_reducible exact trivial
        exact dret0 ⟨rfl, rfl⟩
      | some j =>
        obtain ⟨i, f, hm, e1, e2, e3, e4⟩ := find_some q2.nodup q3 hfn
        refine dactn d (read_a fs most [63] q2.small (by decide) hfn e1) (by omega) (rget_here _ _ _) List.not_mem_nil fun k1 n4 h5 h6 => ?_
        simp only [diskO]
        refine WK ?_; try with_reducible exact trivial
        refine dactn d (synced_a fs most [63] q2.small (by decide) hfn e1 (q2.sync f (List.mem_of_getElem? e1))) (by omega) (by (repeat rw [rget_there (by omega)]); exact rget_here _ _ _) List.not_mem_nil fun k2 n5 h7 h8 => ?_
        simp only [diskO]
        refine WK ?_; try with_reducible exact trivial
        refine dfun (find07_d m [63] (by have := om.len; omega)) fun n6 h9 => ?_
        rw [show findI m [63] = (i : Int) by simp only [findI, hm]]
        refine WK ?_; try with_reducible exact trivial
        exact dret0 ⟨rfl, rfl⟩
end Go.Proofs.Ytgpkbldlkadnjaa
end
/- The law DiskActs, for every input: its row, out of its contract over data. No condition. -/
set_option linter.unusedVariables false
namespace Go.Proofs.Ytgpkbldlkadnjaa.diskActs
open Go Go.Sl Go.ChangeShapes Go.WideShapes Go.ChangeAt Go.RowKit
open Go.ChangeMaps (open_string shut_string)
theorem laidOut : laidOutB Try.prog = true := zf_laid
set_option maxRecDepth 100000 in
theorem lifted (os : Os) (started : os.Started) (H : Type) (enc : TypeId × Value → H) :
    ReturnsInHanded {} Try.checked os 16 .any (Rows.diskActsSpec.pre6 enc Try.prog Try.f16 Rows.diskActsRow.domain false) (Rows.diskActsSpec.post enc Try.prog Try.f16 false true false false) := by
  refine returnsInHanded_of_change_sized (C := Try.checked) zf_own started (by kernel_rfl) Try.func16
    (ChangeSpec.witness6 (enc := enc) (C := Try.checked) false ⟨#[], #[.slice none 0 0, .int .i64 0], []⟩ 8 (by kernel_rfl) (by kernel_rfl) (by kernel_rfl) (by kernel_rfl)) ?_
  intro W base args ds gs before hval0 hW hcnd hsz0 _
  have hsz : (DataW.weightsEach Try.prog (Try.f16.params.toList ++ Rows.diskActsSpec.plain.varTypes Try.prog) (ds ++ gs)).all (· ≤ reachBytes) = true := hsz0
  have hval : ∀ (j : Nat) t v, Try.f16.params[j]? = some t → args[j]? = some v → Value.okWide Try.prog W .any base t v := hval0
  have hW' := hW
  obtain ⟨p, q, hA0, hV, rfl, hfz, hnd⟩ := hW
  have hA : DataW.TrodAll enc Try.prog W 0 (fun _ => true) true Try.f16.params.toList args.toList ds p := hA0
  rw [Try.params16] at hA hval hsz
  obtain ⟨v0, vs0, d0, ds0, p0, q0, hargs, rfl, rfl, h0, r0⟩ := trodAll_cons hA
  obtain ⟨v1, vs1, d1, ds1, p1, q1, rfl, rfl, rfl, h1, r1⟩ := trodAll_cons r0
  obtain ⟨rfl, rfl, rfl⟩ := trodAll_nil r1
  obtain rfl : args = #[v0, v1] := by cases args; simp_all
  obtain ⟨rfl, rfl⟩ := trodVars_none hV
  have k0 := h0
  have lt0 : ∀ x ∈ p0, x.block < W.heap.size := by obtain ⟨m, hm⟩ := k0; exact DataW.trod_lt m _ _ _ hm
  obtain ⟨m0, rs0, hb0⟩ := op_acts.slice Try.underlying74 (hval 0 74 v0 rfl rfl) h0 (sized_at hsz (j := 0) rfl rfl)
  obtain ⟨a1, rfl, rfl, rfl, w1⟩ := open_int Try.underlying3 (hval 1 3 v1 rfl rfl) h1
  clear hA0 hval0 hsz0 hsz
  refine (below_of_dfun (diskActs_d m0 hb0 a1 (i64_val w1)) (rsl_cons rs0 (rsl_cons (rs_sc _) rsl_nil))).mono fun e W' ⟨he, bel⟩ => ?_
  subst he
  exact ⟨_, rfl, _, _, _, [], _, [], hW', trodAll_mk1 (shut_bool Try.underlying4 _), (trodAll_cons_mk (Below.trod laidOut (by kernel_rfl) (of_decide_eq_true (by kernel_rfl)) k0 bel lt0) (trodAll_cons_mk (shut_int Try.underlying3 w1) trodAll_mk0)), rfl, bel.frame _, fun h => by cases h⟩
theorem inP : Try.prog.inPlace 16 = [] := by kernel_rfl
theorem unf : Try.prog.unfollowed 16 = true := by kernel_rfl
theorem rec : Try.prog.recurses 16 = true := by kernel_rfl
theorem nam : Try.prog.varsNamed 16 = [] := by kernel_rfl
theorem fnm : Try.prog.funcNamed Rows.diskActsRow.func = some 16 := by kernel_rfl
theorem facts : joinedFacts Try.prog 16 Try.f16 Rows.diskActsSpec Rows.diskActsRow = true :=
  facts_of zf_laid zf_maps zf_stops zf_knobs zf_plain zf_heard zf_enter zf_lifts zf_make inP unf rec nam rfl rfl rfl rfl rfl rfl rfl rfl rfl
    (by kernel_rfl) (by kernel_rfl) (by kernel_rfl) (by kernel_rfl) (by kernel_rfl) (by kernel_rfl) (by kernel_rfl) (by kernel_rfl) (by kernel_rfl) (by kernel_rfl) (by kernel_rfl) (by kernel_rfl) (by kernel_rfl) rfl rfl (by kernel_rfl) (by kernel_rfl) (by kernel_rfl)
theorem over : Rows.diskActsRow.holds Try.pinned (OpenSpec.ofChange Rows.diskActsSpec) :=
  OpenClaim.holds_of_wide 16 Try.f16 rfl rfl rfl rfl rfl rfl rfl ⟨rfl, rfl, rfl, rfl, rfl⟩ rfl rfl rfl rfl rfl fnm Try.func16 facts
    (of_decide_eq_true (by kernel_rfl)) (by unfold Func.isWrapper; first | (rw [if_pos (by decide +kernel)]; kernel_rfl) | (rw [if_neg (by decide +kernel)]; exact ⟨rfl, rfl⟩))
    (fun os started H enc _ => lifted os started H enc)
theorem proved : Rows.DiskActsSaid := over
end Go.Proofs.Ytgpkbldlkadnjaa.diskActs
namespace Go.Proofs.Ytgpkbldlkadnjaa
/-- The row, under a short name. -/
theorem diskActs_holds : Rows.DiskActsSaid := diskActs.proved
#print axioms diskActs_holds
end Go.Proofs.Ytgpkbldlkadnjaa
