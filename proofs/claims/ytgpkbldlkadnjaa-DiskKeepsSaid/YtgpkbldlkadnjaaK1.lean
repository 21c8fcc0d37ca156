/- Law DiskKeeps over data. -/
import Derived.Test.YtgpkbldlkadnjaaJ6
import Derived.Test.YtgpkbldlkadnjaaJ5
import Derived.Test.YtgpkbldlkadnjaaRows
import Derived.Test.YtgpkbldlkadnjaaJ3
section
set_option linter.unusedVariables false
set_option linter.unusedSimpArgs false
set_option maxHeartbeats 3000000
attribute [local irreducible] Go.Sl.Chk Go.Sl.Br Go.Sl.Or2 Go.Sl.Ld Go.Sl.Ldn Go.Sl.LdB Go.Sl.Stn Go.Sl.New Go.Sl.Run Go.Sl.RunU Go.Sl.RunX Go.Sl.Call Go.Sl.LoopK Go.Sl.RawK Go.Sl.Alt Go.Sl.Om Go.Sl.xpk Go.Sl.xgpk Go.Sl.xglk Go.Sl.DLd Go.Sl.DLdG Go.Sl.DBs Go.Sl.DCall Go.Sl.DApp Go.Sl.DGen Go.Sl.DGenU Go.Sl.DGC Go.Sl.DLoop Go.Sl.DRaw Go.Sl.DRet Go.Sl.Ent Go.Sl.dget Go.Sl.dv Go.Sl.ev Go.Sl.eget
namespace Go.Proofs.Ytgpkbldlkadnjaa
open Go Go.Sl Go.RowKit
theorem diskO_noZ (fs : List FileS) (most : Nat) : NoZ (diskO fs most) := noZ_box fun d hd => by
  simp only [List.mem_cons, List.not_mem_nil, or_false] at hd
  rcases hd with rfl | rfl
  · refine noZ_mp fun d hd => ?_
    obtain ⟨f, _, rfl⟩ := List.mem_map.1 hd
    refine noZ_box fun d hd => ?_
    simp only [List.mem_cons, List.not_mem_nil, or_false] at hd
    rcases hd with rfl | rfl
    · exact bytesO_noZ _
    · exact noZ_sc _
  · exact noZ_sc _
/-- an act on the disk, while a row of bytes is lent to it -/
theorem dact_lend {r : Roots} {nx : Nat} {K : D → Roots → Nat → Prop} {f : FuncId} {ds ds' : Nat → List D} {fs fs' : List FileS} {most : Nat} {d0 : Value} {tg : TagF K} (q i : Nat) (b : Bs) (h1 : rget r q = some (bytesO b)) (h2 : rget r i = some (diskO fs most)) (hne : q ≠ i)
    (hds : (ds' i).map (dres [(q, bytesD b)]) = ds i) (h : DAct Try.prog f ds (diskO fs most) (.sc d0) (diskO fs' most)) (hi : i < nx) (k : ∀ nx', nx ≤ nx' → K (.sc d0) ((i, diskO fs' most) :: (q, bytesO b) :: rdel (rdel r q) i) nx') : DCall Try.prog f (ds' i) [] r nx K tg := by
  refine dcall_lendG (ia := [q]) (ib := [i]) (rpick_one h1) (rpick_one ((rget_rdel hne).trans h2)) (fun p hp => ?_) (ds' := ds i) ?_ (dcalls_imp (h i nx hi) fun d ro n1 hn ⟨e1, e2⟩ => ?_)
  · simp only [List.mem_singleton] at hp
    subst hp
    exact frzOkL_of fun d hd => by obtain ⟨x, _, rfl⟩ := List.mem_map.1 hd; trivial
  · rw [← hds]
    have e : frzRs [(q, bytesO b)] = [(q, bytesD b)] := by
      simp only [frzRs, bytesO, frzR, frz]
      rw [(frzL_plain (l := b.map bD) fun d hd => by obtain ⟨x, _, rfl⟩ := List.mem_map.1 hd; trivial).1]
    rw [e]
  · subst e1; subst e2
    refine ⟨fun p hp => ?_, noZs_sc _, k n1 hn⟩
    simp only [List.mem_singleton] at hp
    subst hp
    exact diskO_noZ _ _
/-- a row of bytes lent to a function that only reads -/
theorem lend_fun {P : Program} {held : List Nat} {r : Roots} {nx : Nat} {K : D → Roots → Nat → Prop} (i : Nat) {b : Bs} {f : FuncId} {ds ds' : List D} {v : Value} {tg : TagF K} (hg : rget r i = some (bytesO b)) (hds : ds.map (dres (rset r i (bytesD b))) = ds') (hc : DFun P f ds' (.sc v))
    (k : ∀ nx', nx ≤ nx' → K (.sc v) r nx') : DCall P f ds held r nx K tg := by
  have h := RT.frz i hg (by simp only [frzOk]; exact (bytesO_frz b).1)
  simp only [frzR, frz, (bytesO_frz b).2] at h
  subst hds
  exact dfun_lend h hc (noZs_sc _) k
set_option maxRecDepth 100000 in
theorem diskKeeps_d (b : Bs) (hb : b.length ≤ 140737488351232) : DFun Try.prog f_law07_DiskKeeps [bytesD b] (boolD true) := by
  intro nx
  refine xcalls c_law07_DiskKeeps (by simp only [m_law07_DiskKeeps, List.length]; decide) ?_
  simp only [m_law07_DiskKeeps]; refine WK ?_; try with_reducible exact trivial
  refine dfun awake07_d fun n1 h1 => ?_
  refine WK ?_; try with_reducible exact trivial
  refine brd (fun hbig => ?_) (fun hbig => ?_)
  · refine WK ?_; try with_reducible exact trivial
    refine dfun awake07_d fun n2 h2 => ?_
    refine WK ?_; try with_reducible exact trivial
    exact dret0 ⟨rfl, rfl⟩
  · refine WK ?_; try with_reducible exact trivial
    refine dnew (new_o 5000 ⟨by omega, by omega⟩) fun d n2 h2 h3 => ?_
    rw [show (min (max (5000 : Int) 0) 65536).toNat = 5000 from rfl]
    simp only [diskO]
    refine WK ?_; try with_reducible exact trivial
    refine dapp (i := n2) (m := b.length) (l' := b.map bD) elB (l := []) (n := 0) (rget_here _ _ _) (DSrc.sl _ _ _) (by simp) bDs_done (by omega) (by omega) List.not_mem_nil ?_
    refine WK ?_; try with_reducible exact trivial
    have hF : strV [102] = strV [102] := rfl
    have hap : appF [] 5000 [102] b = [([102], b, 0)] := by
      unfold appF
      rw [if_neg (by decide), if_neg (by simp only [usedN, List.map_nil, List.sum_nil]; omega)]
      rfl
    refine dact_lend (ds := fun i => [.hp i 0, strD [102], bytesD b]) (ds' := fun i => [.hp i 0, strD [102], .h (n2 + 1)]) (fs := []) (most := 5000) (fs' := appF [] 5000 [102] b) (n2 + 1) d b (rget_here _ _ _) (by (repeat rw [rget_there (by omega)]); exact rget_here _ _ _) (by omega) (by simp -dsimp (disch := omega) only [↓MC.xwp, ↓xopsWp, ↓xdr, ↓MOp.xwp, dvs, dv, dvu, dvo, dvp, dgb, dGd, dBool, cond_true, cond_false, asFn, dget, dput, dput?, dead?, dres, ptr, bsc, cv, uo, uof, unopt, xpr, xdevr, xev0, cutK, cutN, xldk, xldn, xbsk, xst, xgp, glc, vExt, vFldA, vFld, vFad, vIxs, vIxa, vIxvA, vIxv, vSls, vLen, vPick, vNilc, vIsnil, dev0, devr, dsl, dif, dcells, dover, dbuild, scs, rowOf, strideOf, dtk, dtake, done1, pev, pbin, pint, pbool, pstr, psl, vnil, ↓thenD, ↓blockD, ↓retX, ↓xres, xcell, tupD, argD, dkeep, ckLive, kp, xdone, xheld, dstD, isLdM, ldOp, ldIds, ldSlots, selfOk, nb, dst1, inDone, allDone, apart, slotsApart, heldAll, heldOk, Op.operands, Nat.reduceAdd, forall_eq_or_imp, D.plain, reduceCtorEq, if_true, if_false, ↓reduceIte, ne_eq, Bool.cond_true, Bool.cond_false, forall_const, implies_true, forall_eq, Int.reduceEq, Int.reduceLT, Int.reduceLE, Int.reduceAdd, Int.reduceSub, Int.reduceMul, Int.reduceToNat, Nat.reduceMul, Nat.reduceLeDiff, Nat.reduceLT, Nat.reduceSub, Nat.reduceBEq, Nat.reduceEqDiff, matD, bytesD, iD, intsD, boolD, strD, bD, DB, List.map_cons, List.map_nil, dres, rget_nil]) (append_a [] 5000 [102] b (fun f hf => by simp at hf) (by decide) (by decide) (by decide) (by omega)) (by omega) fun n3 h4 => ?_
    rw [hap]
    simp only [diskO]
    refine WK ?_; try with_reducible exact trivial
    have hsm : ∀ k, Small1 [([102], b, k)] := fun k f hf => by
      simp only [List.mem_singleton] at hf
      subst hf
      exact ⟨by simp, by dsimp only; omega⟩
    refine dact d (sync_a [([102], b, 0)] 5000 [102] (hsm 0) (by decide)) (by omega) (rget_here _ _ _) List.not_mem_nil fun n4 h5 => ?_
    rw [rdel_here, show noneE [([102], b, 0)] [102] = 0 from rfl, show syncF [([102], b, 0)] [102] = [([102], b, b.length)] from rfl]
    simp only [diskO]
    refine WK ?_; try with_reducible exact trivial
    refine dloop [0, 3, 4, 5] (fun s : Nat × Bs => ([(0, bytesD b), (3, .hp d 0), (4, .h (n2 + 1)), (5, iD (s.1 : Nat))], [(d, diskO [([102], b, b.length)] 5000), (n2 + 1, bytesO s.2)], n4)) (fun s => s.1 ≤ b.length ∧ s.2.length = b.length) (fun s => b.length - s.1) (0, b) ⟨by omega, rfl⟩ (Ent.of (by with_unfolding_all rfl) rfl) ?_
    rintro ⟨k, c⟩ ⟨hk, hc⟩
    dsimp only at hk hc ⊢
    simp only [diskO, bytesO]
    refine WK ?_; try with_reducible exact trivial
    refine brd (fun hlt => ?_) (fun hge => ?_)
    · have hx : IntKind.u8.wrap (BitVec.ofInt IntKind.u8.bits ((gt c k).toNat : Int) ^^^ BitVec.ofInt IntKind.u8.bits 255).toNat = ((gt c k ^^^ 255).toNat : Int) := xor_u8 (gt c k) 255
      simp -dsimp (disch := omega) only [↓MC.xwp, ↓xopsWp, ↓xdr, ↓MOp.xwp, dvs, dv, dvu, dvo, dvp, dgb, dGd, dBool, cond_true, cond_false, asFn, dget, dput, dput?, dead?, dres, ptr, bsc, cv, uo, uof, unopt, xpr, xdevr, xev0, cutK, cutN, xldk, xldn, xbsk, xst, xgp, glc, vExt, vFldA, vFld, vFad, vIxs, vIxa, vIxvA, vIxv, vSls, vLen, vPick, vNilc, vIsnil, dev0, devr, dsl, dif, dcells, dover, dbuild, scs, rowOf, strideOf, dtk, dtake, done1, pev, pbin, pint, pbool, pstr, psl, vnil, ↓thenD, ↓blockD, ↓retX, ↓xres, xcell, tupD, argD, dkeep, ckLive, kp, xdone, xheld, dstD, isLdM, ldOp, ldIds, ldSlots, selfOk, nb, dst1, inDone, allDone, apart, slotsApart, heldAll, heldOk, Op.operands, Nat.reduceAdd, forall_eq_or_imp, D.plain, reduceCtorEq, if_true, if_false, ↓reduceIte, ne_eq, Bool.cond_true, Bool.cond_false, forall_const, implies_true, forall_eq, Int.reduceEq, Int.reduceLT, Int.reduceLE, Int.reduceAdd, Int.reduceSub, Int.reduceMul, Int.reduceToNat, Nat.reduceMul, Nat.reduceLeDiff, Nat.reduceLT, Nat.reduceSub, Nat.reduceBEq, Nat.reduceEqDiff, matD, bytesD, iD, intsD, boolD, strD, bD, DB, U8, hx]
      refine ⟨(k + 1, c.set k (gt c k ^^^ 255)), ⟨by dsimp only; omega, by dsimp only; rw [List.length_set, hc]⟩, by dsimp only; omega, Ent.of ?_ ?_⟩
      · rfl
      · simp only [diskO, bytesO, List.length_set, List.map_set]; rfl
    · refine WK ?_; try with_reducible exact trivial
      refine dactn d (read_a [([102], b, b.length)] 5000 [102] (j := 0) (f := ([102], b, b.length)) (hsm _) (by decide) rfl rfl) (by omega) (rget_here _ _ _) List.not_mem_nil fun x n5 h6 h7 => ?_
      rw [rdel_here]
      simp only [diskO]
      refine WK ?_; try with_reducible exact trivial
      refine dactn d (synced_a [([102], b, b.length)] 5000 [102] (j := 0) (f := ([102], b, b.length)) (hsm _) (by decide) rfl rfl (Nat.le_refl _)) (by omega) (by (repeat rw [rget_there (by omega)]); exact rget_here _ _ _) List.not_mem_nil fun y n6 h8 h9 => ?_
      dsimp only
      rw [List.take_length]
      simp only [diskO]
      refine WK ?_; try with_reducible exact trivial
      refine lend_fun x (b := b) (by (repeat rw [rget_there (by omega)]); exact rget_here _ _ _) rfl (by simp -dsimp (disch := omega) only [↓MC.xwp, ↓xopsWp, ↓xdr, ↓MOp.xwp, dvs, dv, dvu, dvo, dvp, dgb, dGd, dBool, cond_true, cond_false, asFn, dget, dput, dput?, dead?, dres, ptr, bsc, cv, uo, uof, unopt, xpr, xdevr, xev0, cutK, cutN, xldk, xldn, xbsk, xst, xgp, glc, vExt, vFldA, vFld, vFad, vIxs, vIxa, vIxvA, vIxv, vSls, vLen, vPick, vNilc, vIsnil, dev0, devr, dsl, dif, dcells, dover, dbuild, scs, rowOf, strideOf, dtk, dtake, done1, pev, pbin, pint, pbool, pstr, psl, vnil, ↓thenD, ↓blockD, ↓retX, ↓xres, xcell, tupD, argD, dkeep, ckLive, kp, xdone, xheld, dstD, isLdM, ldOp, ldIds, ldSlots, selfOk, nb, dst1, inDone, allDone, apart, slotsApart, heldAll, heldOk, Op.operands, Nat.reduceAdd, forall_eq_or_imp, D.plain, reduceCtorEq, if_true, if_false, ↓reduceIte, ne_eq, Bool.cond_true, Bool.cond_false, forall_const, implies_true, forall_eq, Int.reduceEq, Int.reduceLT, Int.reduceLE, Int.reduceAdd, Int.reduceSub, Int.reduceMul, Int.reduceToNat, Nat.reduceMul, Nat.reduceLeDiff, Nat.reduceLT, Nat.reduceSub, Nat.reduceBEq, Nat.reduceEqDiff, matD, bytesD, iD, intsD, boolD, strD, bD, DB, List.map_cons, List.map_nil, dres]; exact same01_d b b) fun n7 h10 => ?_
      rw [show decide (b = b) = true from decide_eq_true rfl]
      refine WK ?_; try with_reducible exact trivial
      refine lend_fun y (b := b) (by (repeat rw [rget_there (by omega)]); exact rget_here _ _ _) rfl (by simp -dsimp (disch := omega) only [↓MC.xwp, ↓xopsWp, ↓xdr, ↓MOp.xwp, dvs, dv, dvu, dvo, dvp, dgb, dGd, dBool, cond_true, cond_false, asFn, dget, dput, dput?, dead?, dres, ptr, bsc, cv, uo, uof, unopt, xpr, xdevr, xev0, cutK, cutN, xldk, xldn, xbsk, xst, xgp, glc, vExt, vFldA, vFld, vFad, vIxs, vIxa, vIxvA, vIxv, vSls, vLen, vPick, vNilc, vIsnil, dev0, devr, dsl, dif, dcells, dover, dbuild, scs, rowOf, strideOf, dtk, dtake, done1, pev, pbin, pint, pbool, pstr, psl, vnil, ↓thenD, ↓blockD, ↓retX, ↓xres, xcell, tupD, argD, dkeep, ckLive, kp, xdone, xheld, dstD, isLdM, ldOp, ldIds, ldSlots, selfOk, nb, dst1, inDone, allDone, apart, slotsApart, heldAll, heldOk, Op.operands, Nat.reduceAdd, forall_eq_or_imp, D.plain, reduceCtorEq, if_true, if_false, ↓reduceIte, ne_eq, Bool.cond_true, Bool.cond_false, forall_const, implies_true, forall_eq, Int.reduceEq, Int.reduceLT, Int.reduceLE, Int.reduceAdd, Int.reduceSub, Int.reduceMul, Int.reduceToNat, Nat.reduceMul, Nat.reduceLeDiff, Nat.reduceLT, Nat.reduceSub, Nat.reduceBEq, Nat.reduceEqDiff, matD, bytesD, iD, intsD, boolD, strD, bD, DB, List.map_cons, List.map_nil, dres]; exact same01_d b b) fun n8 h11 => ?_
      rw [show decide (b = b) = true from decide_eq_true rfl]
      refine WK ?_; try with_reducible exact trivial
      refine dloop [0, 3, 6, 8, 10, 11] (fun s : Nat × Bs × Bs => ([(0, bytesD b), (3, .hp d 0), (6, .h x), (8, .h y), (10, boolD true), (11, iD (s.1 : Nat))], [(y, bytesO s.2.2), (d, diskO [([102], b, b.length)] 5000), (x, bytesO s.2.1)], n8)) (fun s => s.1 ≤ b.length ∧ s.2.1.length = b.length ∧ s.2.2.length = b.length) (fun s => b.length - s.1) (0, b, b) ⟨by omega, rfl, rfl⟩ ((Ent.only [y, d, x] _ _ _).trans (by simp -dsimp (disch := omega) only [↓MC.xwp, ↓xopsWp, ↓xdr, ↓MOp.xwp, dvs, dv, dvu, dvo, dvp, dgb, dGd, dBool, cond_true, cond_false, asFn, dget, dput, dput?, dead?, dres, ptr, bsc, cv, uo, uof, unopt, xpr, xdevr, xev0, cutK, cutN, xldk, xldn, xbsk, xst, xgp, glc, vExt, vFldA, vFld, vFad, vIxs, vIxa, vIxvA, vIxv, vSls, vLen, vPick, vNilc, vIsnil, dev0, devr, dsl, dif, dcells, dover, dbuild, scs, rowOf, strideOf, dtk, dtake, done1, pev, pbin, pint, pbool, pstr, psl, vnil, ↓thenD, ↓blockD, ↓retX, ↓xres, xcell, tupD, argD, dkeep, ckLive, kp, xdone, xheld, dstD, isLdM, ldOp, ldIds, ldSlots, selfOk, nb, dst1, inDone, allDone, apart, slotsApart, heldAll, heldOk, Op.operands, Nat.reduceAdd, forall_eq_or_imp, D.plain, reduceCtorEq, if_true, if_false, ↓reduceIte, ne_eq, Bool.cond_true, Bool.cond_false, forall_const, implies_true, forall_eq, Int.reduceEq, Int.reduceLT, Int.reduceLE, Int.reduceAdd, Int.reduceSub, Int.reduceMul, Int.reduceToNat, Nat.reduceMul, Nat.reduceLeDiff, Nat.reduceLT, Nat.reduceSub, Nat.reduceBEq, Nat.reduceEqDiff, matD, bytesD, iD, intsD, boolD, strD, bD, DB, rpick]; exact (Ent.of (by with_unfolding_all rfl) rfl))) ?_
      rintro ⟨k, c1, c2⟩ ⟨hk2, hc1, hc2⟩
      dsimp only at hk2 hc1 hc2 ⊢
      simp only [diskO, bytesO]
      refine WK ?_; try with_reducible exact trivial
      refine brd (fun hlt2 => ?_) (fun hge2 => ?_)
      · refine WK ?_; try with_reducible exact trivial
        refine ⟨(k + 1, c1.set k 7, c2.set k 8), ⟨by dsimp only; omega, by dsimp only; rw [List.length_set, hc1], by dsimp only; rw [List.length_set, hc2]⟩, by dsimp only; omega, Ent.of ?_ ?_⟩
        · rfl
        · simp only [diskO, bytesO, List.length_set, List.map_set]; rfl
      · refine WK ?_; try with_reducible exact trivial
        refine dactn d (read_a [([102], b, b.length)] 5000 [102] (j := 0) (f := ([102], b, b.length)) (hsm _) (by decide) rfl rfl) (by omega) (by (repeat rw [rget_there (by omega)]); exact rget_here _ _ _) List.not_mem_nil fun z n9 h12 h13 => ?_
        simp only [diskO]
        refine WK ?_; try with_reducible exact trivial
        refine lend_fun z (b := b) (by (repeat rw [rget_there (by omega)]); exact rget_here _ _ _) rfl (by simp -dsimp (disch := omega) only [↓MC.xwp, ↓xopsWp, ↓xdr, ↓MOp.xwp, dvs, dv, dvu, dvo, dvp, dgb, dGd, dBool, cond_true, cond_false, asFn, dget, dput, dput?, dead?, dres, ptr, bsc, cv, uo, uof, unopt, xpr, xdevr, xev0, cutK, cutN, xldk, xldn, xbsk, xst, xgp, glc, vExt, vFldA, vFld, vFad, vIxs, vIxa, vIxvA, vIxv, vSls, vLen, vPick, vNilc, vIsnil, dev0, devr, dsl, dif, dcells, dover, dbuild, scs, rowOf, strideOf, dtk, dtake, done1, pev, pbin, pint, pbool, pstr, psl, vnil, ↓thenD, ↓blockD, ↓retX, ↓xres, xcell, tupD, argD, dkeep, ckLive, kp, xdone, xheld, dstD, isLdM, ldOp, ldIds, ldSlots, selfOk, nb, dst1, inDone, allDone, apart, slotsApart, heldAll, heldOk, Op.operands, Nat.reduceAdd, forall_eq_or_imp, D.plain, reduceCtorEq, if_true, if_false, ↓reduceIte, ne_eq, Bool.cond_true, Bool.cond_false, forall_const, implies_true, forall_eq, Int.reduceEq, Int.reduceLT, Int.reduceLE, Int.reduceAdd, Int.reduceSub, Int.reduceMul, Int.reduceToNat, Nat.reduceMul, Nat.reduceLeDiff, Nat.reduceLT, Nat.reduceSub, Nat.reduceBEq, Nat.reduceEqDiff, matD, bytesD, iD, intsD, boolD, strD, bD, DB, List.map_cons, List.map_nil, dres]; exact same01_d b b) fun n10 h14 => ?_
        rw [show decide (b = b) = true from decide_eq_true rfl]
        refine WK ?_; try with_reducible exact trivial
        exact dret0 ⟨rfl, rfl⟩
end Go.Proofs.Ytgpkbldlkadnjaa
end
/- The law DiskKeeps, for every input: its row, out of its contract over data. No condition. -/
set_option linter.unusedVariables false
namespace Go.Proofs.Ytgpkbldlkadnjaa.diskKeeps
open Go Go.Sl Go.ChangeShapes Go.WideShapes Go.ChangeAt Go.RowKit
open Go.ChangeMaps (open_string shut_string)
theorem laidOut : laidOutB Try.prog = true := zf_laid
set_option maxRecDepth 100000 in
theorem lifted (os : Os) (started : os.Started) (H : Type) (enc : TypeId × Value → H) :
    ReturnsInHanded {} Try.checked os 15 .any (Rows.diskKeepsSpec.pre6 enc Try.prog Try.f15 Rows.diskKeepsRow.domain false) (Rows.diskKeepsSpec.post enc Try.prog Try.f15 false true false false) := by
  refine returnsInHanded_of_change_sized (C := Try.checked) zf_own started (by kernel_rfl) Try.func15
    (ChangeSpec.witness6 (enc := enc) (C := Try.checked) false ⟨#[], #[.slice none 0 0], []⟩ 8 (by kernel_rfl) (by kernel_rfl) (by kernel_rfl) (by kernel_rfl)) ?_
  intro W base args ds gs before hval0 hW hcnd hsz0 _
  have hsz : (DataW.weightsEach Try.prog (Try.f15.params.toList ++ Rows.diskKeepsSpec.plain.varTypes Try.prog) (ds ++ gs)).all (· ≤ reachBytes) = true := hsz0
  have hval : ∀ (j : Nat) t v, Try.f15.params[j]? = some t → args[j]? = some v → Value.okWide Try.prog W .any base t v := hval0
  have hW' := hW
  obtain ⟨p, q, hA0, hV, rfl, hfz, hnd⟩ := hW
  have hA : DataW.TrodAll enc Try.prog W 0 (fun _ => true) true Try.f15.params.toList args.toList ds p := hA0
  rw [Try.params15] at hA hval hsz
  obtain ⟨v0, vs0, d0, ds0, p0, q0, hargs, rfl, rfl, h0, r0⟩ := trodAll_cons hA
  obtain ⟨rfl, rfl, rfl⟩ := trodAll_nil r0
  obtain rfl : args = #[v0] := by cases args; simp_all
  obtain ⟨rfl, rfl⟩ := trodVars_none hV
  have k0 := h0
  have lt0 : ∀ x ∈ p0, x.block < W.heap.size := by obtain ⟨m, hm⟩ := k0; exact DataW.trod_lt m _ _ _ hm
  obtain ⟨m0, rs0, hb0⟩ := op_bytes.slice Try.underlying29 (hval 0 29 v0 rfl rfl) h0 (sized_at hsz (j := 0) rfl rfl)
  clear hA0 hval0 hsz0 hsz
  refine (below_of_dfun (diskKeeps_d m0 hb0) (rsl_cons rs0 rsl_nil)).mono fun e W' ⟨he, bel⟩ => ?_
  subst he
  exact ⟨_, rfl, _, _, _, [], _, [], hW', trodAll_mk1 (shut_bool Try.underlying4 _), (trodAll_cons_mk (Below.trod laidOut (by kernel_rfl) (of_decide_eq_true (by kernel_rfl)) k0 bel lt0) trodAll_mk0), rfl, bel.frame _, fun h => by cases h⟩
theorem inP : Try.prog.inPlace 15 = [] := by kernel_rfl
theorem unf : Try.prog.unfollowed 15 = true := by kernel_rfl
theorem rec : Try.prog.recurses 15 = true := by kernel_rfl
theorem nam : Try.prog.varsNamed 15 = [] := by kernel_rfl
theorem fnm : Try.prog.funcNamed Rows.diskKeepsRow.func = some 15 := by kernel_rfl
theorem facts : joinedFacts Try.prog 15 Try.f15 Rows.diskKeepsSpec Rows.diskKeepsRow = true :=
  facts_of zf_laid zf_maps zf_stops zf_knobs zf_plain zf_heard zf_enter zf_lifts zf_make inP unf rec nam rfl rfl rfl rfl rfl rfl rfl rfl rfl
    (by kernel_rfl) (by kernel_rfl) (by kernel_rfl) (by kernel_rfl) (by kernel_rfl) (by kernel_rfl) (by kernel_rfl) (by kernel_rfl) (by kernel_rfl) (by kernel_rfl) (by kernel_rfl) (by kernel_rfl) (by kernel_rfl) rfl rfl (by kernel_rfl) (by kernel_rfl) (by kernel_rfl)
theorem over : Rows.diskKeepsRow.holds Try.pinned (OpenSpec.ofChange Rows.diskKeepsSpec) :=
  OpenClaim.holds_of_wide 15 Try.f15 rfl rfl rfl rfl rfl rfl rfl ⟨rfl, rfl, rfl, rfl, rfl⟩ rfl rfl rfl rfl rfl fnm Try.func15 facts
    (of_decide_eq_true (by kernel_rfl)) (by unfold Func.isWrapper; first | (rw [if_pos (by decide +kernel)]; kernel_rfl) | (rw [if_neg (by decide +kernel)]; exact ⟨rfl, rfl⟩))
    (fun os started H enc _ => lifted os started H enc)
theorem proved : Rows.DiskKeepsSaid := over
end Go.Proofs.Ytgpkbldlkadnjaa.diskKeeps
namespace Go.Proofs.Ytgpkbldlkadnjaa
/-- The row, under a short name. -/
theorem diskKeeps_holds : Rows.DiskKeepsSaid := diskKeeps.proved
#print axioms diskKeeps_holds
end Go.Proofs.Ytgpkbldlkadnjaa
