/- Contracts over data: the document's disk: Do. -/
import Derived.Test.YtgpkbldlkadnjaaJ7
import Derived.Test.YtgpkbldlkadnjaaJ6
section
set_option linter.unusedVariables false
set_option linter.unusedSimpArgs false
set_option maxHeartbeats 3000000
attribute [local irreducible] Go.Sl.Chk Go.Sl.Br Go.Sl.Or2 Go.Sl.Ld Go.Sl.Ldn Go.Sl.LdB Go.Sl.Stn Go.Sl.New Go.Sl.Run Go.Sl.RunU Go.Sl.RunX Go.Sl.Call Go.Sl.LoopK Go.Sl.RawK Go.Sl.Alt Go.Sl.Om Go.Sl.xpk Go.Sl.xgpk Go.Sl.xglk Go.Sl.DLd Go.Sl.DLdG Go.Sl.DBs Go.Sl.DCall Go.Sl.DApp Go.Sl.DGen Go.Sl.DGenU Go.Sl.DGC Go.Sl.DLoop Go.Sl.DRaw Go.Sl.DRet Go.Sl.Ent Go.Sl.dget Go.Sl.dv Go.Sl.ev Go.Sl.eget
namespace Go.Proofs.Ytgpkbldlkadnjaa
open Go Go.Sl Go.RowKit
def crashR : List FileS → List Int → List FileS
  | [], _ => []
  | f :: l, keep => (crash1 f keep).1 :: crashR l (crash1 f keep).2
def actFile (l : List FileS) (n : Bs) : FileS := match findF l n with | some j => l.getD j default | none => (n, [], 0)
def restF (l : List FileS) (n : Bs) : List FileS := match findF l n with | some j => l.eraseIdx j | none => l
def doR (l : List FileS) (most : Nat) (a : ActS) : List FileS × Nat :=
  if a.act = 0 then
    if namedB a.name = false then (l, 1) else if (most : Int) - usedN l < a.b.length then (l, 4)
    else (putF (restF l a.name) ((actFile l a.name).1, (actFile l a.name).2.1 ++ a.b, (actFile l a.name).2.2), 0)
  else if a.act = 5 then (crashR l a.keep, 0)
  else if a.act = 2 ∧ (namedB a.name = false ∨ namedB a.other = false) then (l, 1)
  else match findF l a.name with
  | none => (l, 5)
  | some j =>
    if a.act = 1 then (putF (l.eraseIdx j) ((gt l j).1, (gt l j).2.1, (gt l j).2.1.length), 0)
    else if a.act = 2 then (putF (restF (l.eraseIdx j) a.other) (a.other, (gt l j).2.1, (gt l j).2.2), 0)
    else if a.act = 3 then (l.eraseIdx j, 0)
    else if a.act = 6 then if a.at_ < 0 ∨ (gt l j).2.1.length < a.at_ then (l, 1) else (putF (l.eraseIdx j) ((gt l j).1, (gt l j).2.1.take a.at_.toNat, min (gt l j).2.2 a.at_.toNat), 0)
    else if a.at_ < 0 ∨ (gt l j).2.1.length ≤ a.at_ then (l, 1) else (putF (l.eraseIdx j) ((gt l j).1, (gt l j).2.1.set a.at_.toNat (gt (gt l j).2.1 a.at_.toNat ^^^ UInt8.ofNat (a.b.length + 1)), (gt l j).2.2), 0)
/-- a nil slice, or a row that holds bytes: appended to new -/
theorem dapp_b {nx : Nat} {held : List Nat} {r : Roots} {K : D → Roots → Nat → Prop} {tg : TagF K} (i : Nat) (a b : Bs) (hg : rget r i = some (.row tU8 1 a.length (a.map bD))) (hl : a.length + b.length ≤ 1000000000) (hh : i ∉ held) (k : K (bytesD (a ++ b)) (rdel r i) (nx + 1)) : DApp Try.prog #[tBytes, tBytes] tBytes (.h i) (bytesD b) held r nx K tg :=
  dapp_fz (tg' := .mk _) (tg0 := .mk _) (K0 := fun d r' nx' => d = .h nx ∧ r' = (nx, .row tU8 1 (a.length + b.length) (a.map bD ++ b.map bD)) :: rdel r i ∧ nx' = nx + 1)
    (dapp (i := i) (m := b.length) (l' := b.map bD) elB (l := a.map bD) (n := a.length) hg (DSrc.sl _ _ _) (by simp) bDs_done (by omega) (by omega) hh ⟨rfl, rfl, rfl⟩)
    (fun d r' nx' ⟨h1, h2, h3⟩ => ⟨nx, _, _, _, _, _, h1, h2, fun x hx => by
      rcases List.mem_append.1 hx with h | h <;> (obtain ⟨y, _, rfl⟩ := List.mem_map.1 h; trivial), by
      subst h3
      rw [← List.map_append, ← List.length_append]; exact k⟩)
def dresA (r : Roots) : D → D
  | .agg l => .agg (l.map (dres r))
  | d => dres r d
theorem RsL.resA {w : World} {Z : Nat → Prop} {T : Nat → Option Value} {F : Nat → Nat} {r : Roots} : ∀ {ds : List D} {vs : List Value}, RL w Z T r F → RsL w Z T ds vs → RsL w Z T (ds.map (dresA r)) vs
  | [], vs, hr, h => h
  | d :: ds, vs, hr, h => by
    simp only [RsL] at h
    obtain ⟨u, us, rfl, h1, h2⟩ := h
    simp only [List.map_cons, RsL]
    refine ⟨u, us, rfl, ?_, RsL.resA hr h2⟩
    cases d with
    | agg l =>
      simp only [dresA]
      simp only [Rs] at h1 ⊢
      obtain ⟨os, e1, e2⟩ := h1
      exact ⟨os, e1, RsL.res hr e2⟩
    | _ => exact dres_rs hr h1
theorem dcall_viewA {held : List Nat} {r : Roots} {nx : Nat} {K : D → Roots → Nat → Prop} {f : FuncId} {ds : List D} {t t' : TagF K} (k : DCall Try.prog f (ds.map (dresA r)) held r nx K t') : DCall Try.prog f ds held r nx K t := by
  unfold DCall at k ⊢
  exact fun E w Z T F vs ok hrs => k E w Z T F vs ok (RsL.resA ok.roots hrs)
theorem dgc_d {X : Prop} {Y : D → Prop} {t : Tag X} {u : TagF Y} (d : D) (h : Y (.opt false d)) : DGC false X Y t u := by
  unfold DGC
  exact ⟨fun h => (by cases h), fun _ => ⟨d, h⟩⟩
set_option maxRecDepth 100000 in
theorem rdo07_d (l : List FileS) (most : Nat) (a : ActS) (hs : Small1 l) (hsy : Synced1 l) (hl : l.length ≤ 1000000) (hu : usedN l ≤ 1000000) (hm : most ≤ 1000000) (hb : a.b.length ≤ 1000000) (hk : a.keep.length ≤ 1000000) (hkk : Keep1 a.keep) (hact : -9223372036854775808 ≤ a.act ∧ a.act ≤ 9223372036854775807) :
    DFun Try.prog f_ref07_Do [filesD l, iD most, .agg (actC a)] (.tup [filesD (doR l most a).1, iD (doR l most a).2]) := by
  intro nx
  refine xcalls c_ref07_Do (by simp only [m_ref07_Do, List.length]; decide) ?_
  simp only [actC]
  simp only [m_ref07_Do]; refine WK ?_; try with_reducible exact trivial
  refine dfun (find07_d l a.name hl) fun n1 h1 => ?_
  refine WK ?_; try with_reducible exact trivial
  refine brd (fun h0 => ?_) (fun h0 => ?_)
  · refine WK ?_; try with_reducible exact trivial
    refine dfun (named07_d a.name) fun n2 h2 => ?_
    cases hnm : namedB a.name with
    | false =>
      refine WK ?_; try with_reducible exact trivial
      refine dret0 ⟨?_, rfl⟩
      simp only [doR, h0, hnm, if_true]
      rfl
    | true =>
      refine WK ?_; try with_reducible exact trivial
      refine dfun (used07_d l hl hu) fun n3 h3 => ?_
      refine WK ?_; try with_reducible exact trivial
      refine brd (fun hful => ?_) (fun hful => ?_)
      · refine WK ?_; try with_reducible exact trivial
        refine dret0 ⟨?_, rfl⟩
        simp only [doR, h0, hnm, if_true, hful, Bool.true_eq_false, if_false]
        rfl
      · refine WK ?_; try with_reducible exact trivial
        have hdo : doR l most a = (putF (restF l a.name) ((actFile l a.name).1, (actFile l a.name).2.1 ++ a.b, (actFile l a.name).2.2), 0) := by
          simp only [doR, h0, hnm, if_true, hful, Bool.true_eq_false, if_false]
        rw [hdo]
        cases hfn : findF l a.name with
        | none =>
          rw [show findI l a.name = -1 by simp only [findI, hfn]]
          refine WK ?_; try with_reducible exact trivial
          refine dapp (i := n3 + 1) (m := 0) (l' := []) elB (l := []) (n := 0) (rget_here _ _ _) (DSrc.nil _ _) rfl (by simp) (by omega) (by omega) (by simp only [List.mem_cons, List.not_mem_nil, or_false, not_false_eq_true]; try omega) ?_
          refine WK ?_; try with_reducible exact trivial
          refine dapp_b (n3 + 2) [] a.b (by (repeat rw [rget_there (by omega)]); exact rget_here _ _ _) (by simp only [List.length_nil]; omega) (by simp only [List.mem_cons, List.not_mem_nil, or_false, not_false_eq_true]; try omega) ?_
          refine WK ?_; try with_reducible exact trivial
          refine dfun (put07_d l (a.name, a.b, 0) hl) fun n4 h4 => ?_
          refine WK ?_; try with_reducible exact trivial
          refine dret0 ⟨?_, rfl⟩
          simp only [restF, actFile, hfn, List.nil_append]
          rfl
        | some j =>
          obtain ⟨f, hj, hfe⟩ := findF_some hfn
          have hjl := (List.getElem?_eq_some_iff.1 hj).1
          have hgj : gt l j = f := by rw [gt_eq hjl]; rw [List.getElem?_eq_getElem hjl] at hj; simpa using hj
          have hfs := hs f (List.mem_of_getElem? hj)
          rw [show findI l a.name = (j : Int) by simp only [findI, hfn]]
          have hd : 3 ≤ ((filesC l).drop (j * 3)).length := by rw [List.length_drop, files_len]; omega
          have ht : ((filesC l).drop (j * 3)).take 3 = fileC f := by rw [← hgj]; exact flatC_take fileC_len l hjl
          simp -dsimp (disch := omega) only [↓MC.xwp, ↓xopsWp, ↓xdr, ↓MOp.xwp, dvs, dv, dvu, dvo, dvp, dgb, dGd, dBool, cond_true, cond_false, asFn, dget, dput, dput?, dead?, dres, ptr, bsc, cv, uo, uof, unopt, xpr, xdevr, xev0, cutK, cutN, xldk, xldn, xbsk, xst, xgp, glc, vExt, vFldA, vFld, vFad, vIxs, vIxa, vIxvA, vIxv, vSls, vLen, vPick, vNilc, vIsnil, dev0, devr, dsl, dif, dcells, dover, dbuild, scs, rowOf, strideOf, dtk, dtake, done1, pev, pbin, pint, pbool, pstr, psl, vnil, ↓thenD, ↓blockD, ↓retX, ↓xres, xcell, tupD, argD, dkeep, ckLive, kp, xdone, xheld, dstD, isLdM, ldOp, ldIds, ldSlots, selfOk, nb, dst1, inDone, allDone, apart, slotsApart, heldAll, heldOk, Op.operands, Nat.reduceAdd, forall_eq_or_imp, D.plain, reduceCtorEq, if_true, if_false, ↓reduceIte, ne_eq, Bool.cond_true, Bool.cond_false, forall_const, implies_true, forall_eq, Int.reduceEq, Int.reduceLT, Int.reduceLE, Int.reduceAdd, Int.reduceSub, Int.reduceMul, Int.reduceToNat, Nat.reduceMul, Nat.reduceLeDiff, Nat.reduceLT, Nat.reduceSub, Nat.reduceBEq, Nat.reduceEqDiff, matD, bytesD, iD, intsD, boolD, strD, bD, DB, ht, fileC]
          refine dfun (without07_d l j hjl hl) fun n4 h4 => ?_
          refine WK ?_; try with_reducible exact trivial
          refine dapp (i := n4) (m := f.2.1.length) (l' := f.2.1.map bD) elB (l := []) (n := 0) (rget_here _ _ _) (DSrc.sl _ _ _) (by simp) bDs_done (by omega) (by omega) (by simp only [List.mem_cons, List.not_mem_nil, or_false, not_false_eq_true]; try omega) ?_
          refine WK ?_; try with_reducible exact trivial
          refine dapp_b (n4 + 1) f.2.1 a.b (by rw [show f.2.1.length = 0 + f.2.1.length by omega]; exact rget_here _ _ _) (by omega) (by simp only [List.mem_cons, List.not_mem_nil, or_false, not_false_eq_true]; try omega) ?_
          refine WK ?_; try with_reducible exact trivial
          refine dfun (put07_d (l.eraseIdx j) (f.1, f.2.1 ++ a.b, f.2.2) (by rw [List.length_eraseIdx_of_lt hjl]; omega)) fun n5 h5 => ?_
          refine WK ?_; try with_reducible exact trivial
          refine dret0 ⟨?_, rfl⟩
          simp only [restF, actFile, hfn, getD_at hj]
          rfl
  · refine WK ?_; try with_reducible exact trivial
    refine brd (fun h5 => ?_) (fun h5 => ?_)
    · have hdo : doR l most a = (crashR l a.keep, 0) := by unfold doR; rw [if_neg h0, if_pos h5]
      rw [hdo]
      refine WK ?_; try with_reducible exact trivial
      refine dloop [0, 5, 10, 11, 12] (fun s : Nat × Nat × List FileS × Nat × Nat => ([(0, filesD l), (5, .hp nx 0), (10, .h s.2.2.2.1), (11, iD (s.2.1 : Nat)), (12, iD (s.1 : Nat))], [(s.2.2.2.1, .row t_ref07_File 3 s.2.2.1.length (filesC s.2.2.1)), (nx, .box t_ref07_Act (actC a))], s.2.2.2.2))
        (fun s => s.2.2.1.length = s.1 ∧ s.1 ≤ l.length ∧ s.2.1 ≤ a.keep.length ∧ s.2.2.1 ++ crashR (l.drop s.1) (a.keep.drop s.2.1) = crashR l a.keep ∧ nx < s.2.2.2.1 ∧ s.2.2.2.1 < s.2.2.2.2) (fun s => l.length - s.1) (0, 0, [], n1, n1 + 1) ⟨rfl, by omega, Nat.zero_le _, rfl, by dsimp only; omega, by dsimp only; omega⟩ ((Ent.nil 10 t_ref07_File 3 (by with_unfolding_all rfl) rfl).trans (Ent.of (by with_unfolding_all rfl) rfl)) ?_
      rintro ⟨k, nxt, L, q, n⟩ ⟨q1, q2, q3, q4, q5, q6⟩
      dsimp only at q1 q2 q3 q4 q5 q6 ⊢
      simp only [actC]
      refine WK ?_; try with_reducible exact trivial
      refine brd (fun hlt => ?_) (fun hge => ?_)
      · have hkl : k < l.length := by omega
        have hm := List.getElem_mem hkl
        rw [← gt_eq hkl] at hm
        have hfs := hs _ hm
        have hfy := hsy _ hm
        have hd : 3 ≤ ((filesC l).drop (k * 3)).length := by rw [List.length_drop, files_len]; omega
        have ht : ((filesC l).drop (k * 3)).take 3 = fileC (gt l k) := flatC_take fileC_len l hkl
        have hdr : l.drop k = gt l k :: l.drop (k + 1) := by rw [List.drop_eq_getElem_cons hkl, gt_eq hkl]
        rw [hdr] at q4
        simp only [crashR] at q4
        generalize hf : gt l k = f at *
        obtain ⟨fn, fb, fy⟩ := f
        dsimp only at hfs hfy
        simp -dsimp (disch := omega) only [↓MC.xwp, ↓xopsWp, ↓xdr, ↓MOp.xwp, dvs, dv, dvu, dvo, dvp, dgb, dGd, dBool, cond_true, cond_false, asFn, dget, dput, dput?, dead?, dres, ptr, bsc, cv, uo, uof, unopt, xpr, xdevr, xev0, cutK, cutN, xldk, xldn, xbsk, xst, xgp, glc, vExt, vFldA, vFld, vFad, vIxs, vIxa, vIxvA, vIxv, vSls, vLen, vPick, vNilc, vIsnil, dev0, devr, dsl, dif, dcells, dover, dbuild, scs, rowOf, strideOf, dtk, dtake, done1, pev, pbin, pint, pbool, pstr, psl, vnil, ↓thenD, ↓blockD, ↓retX, ↓xres, xcell, tupD, argD, dkeep, ckLive, kp, xdone, xheld, dstD, isLdM, ldOp, ldIds, ldSlots, selfOk, nb, dst1, inDone, allDone, apart, slotsApart, heldAll, heldOk, Op.operands, Nat.reduceAdd, forall_eq_or_imp, D.plain, reduceCtorEq, if_true, if_false, ↓reduceIte, ne_eq, Bool.cond_true, Bool.cond_false, forall_const, implies_true, forall_eq, Int.reduceEq, Int.reduceLT, Int.reduceLE, Int.reduceAdd, Int.reduceSub, Int.reduceMul, Int.reduceToNat, Nat.reduceMul, Nat.reduceLeDiff, Nat.reduceLT, Nat.reduceSub, Nat.reduceBEq, Nat.reduceEqDiff, matD, bytesD, iD, intsD, boolD, strD, bD, DB, ht, fileC]
        refine brd (fun hr => ?_) (fun hr => ?_)
        · have hr' : ¬ fb.length = fy := by omega
          rcases Nat.lt_or_ge nxt a.keep.length with hx | hx
          · have hkd : a.keep.drop nxt = gt a.keep nxt :: a.keep.drop (nxt + 1) := by rw [List.drop_eq_getElem_cons hx, gt_eq hx]
            have hgm := hkk (gt a.keep nxt) (by rw [gt_eq hx]; exact List.getElem_mem _)
            rw [hkd] at q4
            unfold crash1 at q4
            rw [if_neg (by dsimp only; exact hr')] at q4
            dsimp only at q4
            have hmod := Nat.mod_lt (gt a.keep nxt).natAbs (show 0 < fb.length - fy + 1 by omega)
            have habs : ((gt a.keep nxt).tmod ((fb.length : Int) - (fy : Int) + 1)).natAbs = (gt a.keep nxt).natAbs % (fb.length - fy + 1) := by
              rw [Int.natAbs_tmod, show (fb.length : Int) - (fy : Int) + 1 = ((fb.length - fy + 1 : Nat) : Int) by omega, Int.natAbs_natCast]
            generalize hy : (gt a.keep nxt).natAbs % (fb.length - fy + 1) = y at *
            refine WK ?_; try with_reducible exact trivial
            generalize hz : (gt a.keep nxt).tmod ((fb.length : Int) - (fy : Int) + 1) = z at *
            have hyz : ∀ K : Prop, ((z < 0 → (0 : Int) - z = y → K) → (¬ z < 0 → z = y → K) → K) := fun K h1 h2 => by
              rcases Decidable.em (z < 0) with h | h
              · exact h1 h (by omega)
              · exact h2 h (by omega)
            refine brd (fun hneg => ?_) (fun hpos => ?_)
            · have e1 : (0 : Int) - z = (y : Int) := by omega
              simp -dsimp (disch := omega) only [↓MC.xwp, ↓xopsWp, ↓xdr, ↓MOp.xwp, dvs, dv, dvu, dvo, dvp, dgb, dGd, dBool, cond_true, cond_false, asFn, dget, dput, dput?, dead?, dres, ptr, bsc, cv, uo, uof, unopt, xpr, xdevr, xev0, cutK, cutN, xldk, xldn, xbsk, xst, xgp, glc, vExt, vFldA, vFld, vFad, vIxs, vIxa, vIxvA, vIxv, vSls, vLen, vPick, vNilc, vIsnil, dev0, devr, dsl, dif, dcells, dover, dbuild, scs, rowOf, strideOf, dtk, dtake, done1, pev, pbin, pint, pbool, pstr, psl, vnil, ↓thenD, ↓blockD, ↓retX, ↓xres, xcell, tupD, argD, dkeep, ckLive, kp, xdone, xheld, dstD, isLdM, ldOp, ldIds, ldSlots, selfOk, nb, dst1, inDone, allDone, apart, slotsApart, heldAll, heldOk, Op.operands, Nat.reduceAdd, forall_eq_or_imp, D.plain, reduceCtorEq, if_true, if_false, ↓reduceIte, ne_eq, Bool.cond_true, Bool.cond_false, forall_const, implies_true, forall_eq, Int.reduceEq, Int.reduceLT, Int.reduceLE, Int.reduceAdd, Int.reduceSub, Int.reduceMul, Int.reduceToNat, Nat.reduceMul, Nat.reduceLeDiff, Nat.reduceLT, Nat.reduceSub, Nat.reduceBEq, Nat.reduceEqDiff, matD, bytesD, iD, intsD, boolD, strD, bD, DB, e1]
              rw [← Int.natCast_add, Int.toNat_natCast]
              rw [show D.sl (fy + y) ((fb.map bD).take (fy + y)) = bytesD (fb.take (fy + y)) by simp only [bytesD, List.length_take, Nat.min_eq_left (show fy + y ≤ fb.length by omega), List.map_take]]
              refine dapp_b (n + 1) [] (fb.take (fy + y)) (by (repeat rw [rget_there (by omega)]); exact rget_here _ _ _) (by simp only [List.length_nil, List.length_take]; omega) (by simp only [List.mem_cons, List.not_mem_nil, or_false, not_false_eq_true]; try omega) ?_
              refine WK ?_; try with_reducible exact trivial
              refine dapp_one L (fn, fb.take (fy + y), fy + y) (n + 3) (i := q) (by omega) (by (repeat rw [rget_there (by omega)]); exact rget_here _ _ _) (by (repeat rw [rget_there (by omega)]); exact rget_here _ _ _) (by omega) (by simp only [List.mem_cons, List.not_mem_nil, or_false, not_false_eq_true]; try omega) ?_
              refine WK ?_; try with_reducible exact trivial
              refine ⟨(k + 1, nxt + 1, L ++ [(fn, fb.take (fy + y), fy + y)], n + 4, n + 5), ⟨by dsimp only; rw [List.length_append, q1]; rfl, by dsimp only; omega, by dsimp only; omega, by dsimp only; rw [List.append_assoc]; exact q4, by dsimp only; omega, by dsimp only; omega⟩, by dsimp only; omega, (Ent.only [n + 4, nx] _ _ _).trans (by simp -dsimp (disch := omega) only [↓MC.xwp, ↓xopsWp, ↓xdr, ↓MOp.xwp, dvs, dv, dvu, dvo, dvp, dgb, dGd, dBool, cond_true, cond_false, asFn, dget, dput, dput?, dead?, dres, ptr, bsc, cv, uo, uof, unopt, xpr, xdevr, xev0, cutK, cutN, xldk, xldn, xbsk, xst, xgp, glc, vExt, vFldA, vFld, vFad, vIxs, vIxa, vIxvA, vIxv, vSls, vLen, vPick, vNilc, vIsnil, dev0, devr, dsl, dif, dcells, dover, dbuild, scs, rowOf, strideOf, dtk, dtake, done1, pev, pbin, pint, pbool, pstr, psl, vnil, ↓thenD, ↓blockD, ↓retX, ↓xres, xcell, tupD, argD, dkeep, ckLive, kp, xdone, xheld, dstD, isLdM, ldOp, ldIds, ldSlots, selfOk, nb, dst1, inDone, allDone, apart, slotsApart, heldAll, heldOk, Op.operands, Nat.reduceAdd, forall_eq_or_imp, D.plain, reduceCtorEq, if_true, if_false, ↓reduceIte, ne_eq, Bool.cond_true, Bool.cond_false, forall_const, implies_true, forall_eq, Int.reduceEq, Int.reduceLT, Int.reduceLE, Int.reduceAdd, Int.reduceSub, Int.reduceMul, Int.reduceToNat, Nat.reduceMul, Nat.reduceLeDiff, Nat.reduceLT, Nat.reduceSub, Nat.reduceBEq, Nat.reduceEqDiff, matD, bytesD, iD, intsD, boolD, strD, bD, DB, rpick]; exact (Ent.of (by with_unfolding_all rfl) rfl))⟩
            · have e1 : z = (y : Int) := by omega
              subst e1
              refine WK ?_; try with_reducible exact trivial
              rw [← Int.natCast_add, Int.toNat_natCast]
              rw [show D.sl (fy + y) ((fb.map bD).take (fy + y)) = bytesD (fb.take (fy + y)) by simp only [bytesD, List.length_take, Nat.min_eq_left (show fy + y ≤ fb.length by omega), List.map_take]]
              refine dapp_b (n + 1) [] (fb.take (fy + y)) (by (repeat rw [rget_there (by omega)]); exact rget_here _ _ _) (by simp only [List.length_nil, List.length_take]; omega) (by simp only [List.mem_cons, List.not_mem_nil, or_false, not_false_eq_true]; try omega) ?_
              refine WK ?_; try with_reducible exact trivial
              refine dapp_one L (fn, fb.take (fy + y), fy + y) (n + 3) (i := q) (by omega) (by (repeat rw [rget_there (by omega)]); exact rget_here _ _ _) (by (repeat rw [rget_there (by omega)]); exact rget_here _ _ _) (by omega) (by simp only [List.mem_cons, List.not_mem_nil, or_false, not_false_eq_true]; try omega) ?_
              refine WK ?_; try with_reducible exact trivial
              refine ⟨(k + 1, nxt + 1, L ++ [(fn, fb.take (fy + y), fy + y)], n + 4, n + 5), ⟨by dsimp only; rw [List.length_append, q1]; rfl, by dsimp only; omega, by dsimp only; omega, by dsimp only; rw [List.append_assoc]; exact q4, by dsimp only; omega, by dsimp only; omega⟩, by dsimp only; omega, (Ent.only [n + 4, nx] _ _ _).trans (by simp -dsimp (disch := omega) only [↓MC.xwp, ↓xopsWp, ↓xdr, ↓MOp.xwp, dvs, dv, dvu, dvo, dvp, dgb, dGd, dBool, cond_true, cond_false, asFn, dget, dput, dput?, dead?, dres, ptr, bsc, cv, uo, uof, unopt, xpr, xdevr, xev0, cutK, cutN, xldk, xldn, xbsk, xst, xgp, glc, vExt, vFldA, vFld, vFad, vIxs, vIxa, vIxvA, vIxv, vSls, vLen, vPick, vNilc, vIsnil, dev0, devr, dsl, dif, dcells, dover, dbuild, scs, rowOf, strideOf, dtk, dtake, done1, pev, pbin, pint, pbool, pstr, psl, vnil, ↓thenD, ↓blockD, ↓retX, ↓xres, xcell, tupD, argD, dkeep, ckLive, kp, xdone, xheld, dstD, isLdM, ldOp, ldIds, ldSlots, selfOk, nb, dst1, inDone, allDone, apart, slotsApart, heldAll, heldOk, Op.operands, Nat.reduceAdd, forall_eq_or_imp, D.plain, reduceCtorEq, if_true, if_false, ↓reduceIte, ne_eq, Bool.cond_true, Bool.cond_false, forall_const, implies_true, forall_eq, Int.reduceEq, Int.reduceLT, Int.reduceLE, Int.reduceAdd, Int.reduceSub, Int.reduceMul, Int.reduceToNat, Nat.reduceMul, Nat.reduceLeDiff, Nat.reduceLT, Nat.reduceSub, Nat.reduceBEq, Nat.reduceEqDiff, matD, bytesD, iD, intsD, boolD, strD, bD, DB, rpick]; exact (Ent.of (by with_unfolding_all rfl) rfl))⟩
          · have hkd : a.keep.drop nxt = [] := List.drop_of_length_le hx
            rw [hkd] at q4
            unfold crash1 at q4
            rw [if_neg (by dsimp only; exact hr')] at q4
            dsimp only at q4
            rw [← hkd] at q4
            refine WK ?_; try with_reducible exact trivial
            rw [show D.sl (fy) ((fb.map bD).take (fy)) = bytesD (fb.take (fy)) by simp only [bytesD, List.length_take, Nat.min_eq_left (show fy ≤ fb.length by omega), List.map_take]]
            refine dapp_b (n + 1) [] (fb.take (fy)) (by (repeat rw [rget_there (by omega)]); exact rget_here _ _ _) (by simp only [List.length_nil, List.length_take]; omega) (by simp only [List.mem_cons, List.not_mem_nil, or_false, not_false_eq_true]; try omega) ?_
            refine WK ?_; try with_reducible exact trivial
            refine dapp_one L (fn, fb.take (fy), fy) (n + 3) (i := q) (by omega) (by (repeat rw [rget_there (by omega)]); exact rget_here _ _ _) (by (repeat rw [rget_there (by omega)]); exact rget_here _ _ _) (by omega) (by simp only [List.mem_cons, List.not_mem_nil, or_false, not_false_eq_true]; try omega) ?_
            refine WK ?_; try with_reducible exact trivial
            refine ⟨(k + 1, nxt, L ++ [(fn, fb.take (fy), fy)], n + 4, n + 5), ⟨by dsimp only; rw [List.length_append, q1]; rfl, by dsimp only; omega, by dsimp only; omega, by dsimp only; rw [List.append_assoc]; exact q4, by dsimp only; omega, by dsimp only; omega⟩, by dsimp only; omega, (Ent.only [n + 4, nx] _ _ _).trans (by simp -dsimp (disch := omega) only [↓MC.xwp, ↓xopsWp, ↓xdr, ↓MOp.xwp, dvs, dv, dvu, dvo, dvp, dgb, dGd, dBool, cond_true, cond_false, asFn, dget, dput, dput?, dead?, dres, ptr, bsc, cv, uo, uof, unopt, xpr, xdevr, xev0, cutK, cutN, xldk, xldn, xbsk, xst, xgp, glc, vExt, vFldA, vFld, vFad, vIxs, vIxa, vIxvA, vIxv, vSls, vLen, vPick, vNilc, vIsnil, dev0, devr, dsl, dif, dcells, dover, dbuild, scs, rowOf, strideOf, dtk, dtake, done1, pev, pbin, pint, pbool, pstr, psl, vnil, ↓thenD, ↓blockD, ↓retX, ↓xres, xcell, tupD, argD, dkeep, ckLive, kp, xdone, xheld, dstD, isLdM, ldOp, ldIds, ldSlots, selfOk, nb, dst1, inDone, allDone, apart, slotsApart, heldAll, heldOk, Op.operands, Nat.reduceAdd, forall_eq_or_imp, D.plain, reduceCtorEq, if_true, if_false, ↓reduceIte, ne_eq, Bool.cond_true, Bool.cond_false, forall_const, implies_true, forall_eq, Int.reduceEq, Int.reduceLT, Int.reduceLE, Int.reduceAdd, Int.reduceSub, Int.reduceMul, Int.reduceToNat, Nat.reduceMul, Nat.reduceLeDiff, Nat.reduceLT, Nat.reduceSub, Nat.reduceBEq, Nat.reduceEqDiff, matD, bytesD, iD, intsD, boolD, strD, bD, DB, rpick]; exact (Ent.of (by with_unfolding_all rfl) rfl))⟩
        · have hr' : fb.length = fy := by omega
          unfold crash1 at q4
          rw [if_pos (by dsimp only; exact hr')] at q4
          dsimp only at q4
          refine WK ?_; try with_reducible exact trivial
          rw [show D.sl (fy) ((fb.map bD).take (fy)) = bytesD (fb.take (fy)) by simp only [bytesD, List.length_take, Nat.min_eq_left (show fy ≤ fb.length by omega), List.map_take]]
          refine dapp_b (n + 1) [] (fb.take (fy)) (by (repeat rw [rget_there (by omega)]); exact rget_here _ _ _) (by simp only [List.length_nil, List.length_take]; omega) (by simp only [List.mem_cons, List.not_mem_nil, or_false, not_false_eq_true]; try omega) ?_
          refine WK ?_; try with_reducible exact trivial
          refine dapp_one L (fn, fb.take (fy), fy) (n + 3) (i := q) (by omega) (by (repeat rw [rget_there (by omega)]); exact rget_here _ _ _) (by (repeat rw [rget_there (by omega)]); exact rget_here _ _ _) (by omega) (by simp only [List.mem_cons, List.not_mem_nil, or_false, not_false_eq_true]; try omega) ?_
          refine WK ?_; try with_reducible exact trivial
          refine ⟨(k + 1, nxt, L ++ [(fn, fb.take (fy), fy)], n + 4, n + 5), ⟨by dsimp only; rw [List.length_append, q1]; rfl, by dsimp only; omega, by dsimp only; omega, by dsimp only; rw [List.append_assoc]; exact (by rw [show fb.take fy = fb from List.take_of_length_le (by omega)]; exact q4), by dsimp only; omega, by dsimp only; omega⟩, by dsimp only; omega, (Ent.only [n + 4, nx] _ _ _).trans (by simp -dsimp (disch := omega) only [↓MC.xwp, ↓xopsWp, ↓xdr, ↓MOp.xwp, dvs, dv, dvu, dvo, dvp, dgb, dGd, dBool, cond_true, cond_false, asFn, dget, dput, dput?, dead?, dres, ptr, bsc, cv, uo, uof, unopt, xpr, xdevr, xev0, cutK, cutN, xldk, xldn, xbsk, xst, xgp, glc, vExt, vFldA, vFld, vFad, vIxs, vIxa, vIxvA, vIxv, vSls, vLen, vPick, vNilc, vIsnil, dev0, devr, dsl, dif, dcells, dover, dbuild, scs, rowOf, strideOf, dtk, dtake, done1, pev, pbin, pint, pbool, pstr, psl, vnil, ↓thenD, ↓blockD, ↓retX, ↓xres, xcell, tupD, argD, dkeep, ckLive, kp, xdone, xheld, dstD, isLdM, ldOp, ldIds, ldSlots, selfOk, nb, dst1, inDone, allDone, apart, slotsApart, heldAll, heldOk, Op.operands, Nat.reduceAdd, forall_eq_or_imp, D.plain, reduceCtorEq, if_true, if_false, ↓reduceIte, ne_eq, Bool.cond_true, Bool.cond_false, forall_const, implies_true, forall_eq, Int.reduceEq, Int.reduceLT, Int.reduceLE, Int.reduceAdd, Int.reduceSub, Int.reduceMul, Int.reduceToNat, Nat.reduceMul, Nat.reduceLeDiff, Nat.reduceLT, Nat.reduceSub, Nat.reduceBEq, Nat.reduceEqDiff, matD, bytesD, iD, intsD, boolD, strD, bD, DB, rpick]; exact (Ent.of (by with_unfolding_all rfl) rfl))⟩
      · refine WK ?_; try with_reducible exact trivial
        have hk' : k = l.length := by omega
        subst hk'
        rw [List.drop_length] at q4
        simp only [crashR, List.append_nil] at q4
        refine dret_frz q (rget_here _ _ _) (filesC_plain _) ?_
        rw [rset_here]
        simp only [dresT, List.map_cons, List.map_nil, dres, rget_here]
        refine dret0 ⟨?_, rfl⟩
        rw [q4]
        rfl
    · have hd0 : doR l most a = if a.act = 2 ∧ (namedB a.name = false ∨ namedB a.other = false) then (l, 1) else match findF l a.name with
          | none => (l, 5)
          | some j =>
            if a.act = 1 then (putF (l.eraseIdx j) ((gt l j).1, (gt l j).2.1, (gt l j).2.1.length), 0)
            else if a.act = 2 then (putF (restF (l.eraseIdx j) a.other) (a.other, (gt l j).2.1, (gt l j).2.2), 0)
            else if a.act = 3 then (l.eraseIdx j, 0)
            else if a.act = 6 then if a.at_ < 0 ∨ (gt l j).2.1.length < a.at_ then (l, 1) else (putF (l.eraseIdx j) ((gt l j).1, (gt l j).2.1.take a.at_.toNat, min (gt l j).2.2 a.at_.toNat), 0)
            else if a.at_ < 0 ∨ (gt l j).2.1.length ≤ a.at_ then (l, 1) else (putF (l.eraseIdx j) ((gt l j).1, (gt l j).2.1.set a.at_.toNat (gt (gt l j).2.1 a.at_.toNat ^^^ UInt8.ofNat (a.b.length + 1)), (gt l j).2.2), 0) := by
        unfold doR; rw [if_neg h0, if_neg h5]
      rw [hd0]
      clear hd0
      refine WK ?_; try with_reducible exact trivial
      refine brd (fun h2 => ?_) (fun h2 => ?_)
      · refine WK ?_; try with_reducible exact trivial
        refine dfun (named07_d a.name) fun n2 g2 => ?_
        cases hna : namedB a.name with
        | false =>
          refine WK ?_; try with_reducible exact trivial
          refine dgc_d (boolD true) ?_
          refine WK ?_; try with_reducible exact trivial
          rw [if_pos (by simp [h2])]
          exact dret0 ⟨rfl, rfl⟩
        | true =>
          refine WK ?_; try with_reducible exact trivial
          refine dfun (named07_d a.other) fun n3 g3 => ?_
          cases hno : namedB a.other with
          | false =>
            refine WK ?_; try with_reducible exact trivial
            rw [if_pos (by simp [h2])]
            exact dret0 ⟨rfl, rfl⟩
          | true =>
            rw [if_neg (by simp)]
            cases hfn : findF l a.name with
            | none =>
              rw [show findI l a.name = -1 by simp only [findI, hfn]]
              refine WK ?_; try with_reducible exact trivial
              exact dret0 ⟨rfl, rfl⟩
            | some j =>
              rw [show findI l a.name = (j : Int) by simp only [findI, hfn]]
              obtain ⟨f, hj, hfe⟩ := findF_some hfn
              have hjl := (List.getElem?_eq_some_iff.1 hj).1
              have hgj : gt l j = f := by rw [gt_eq hjl]; rw [List.getElem?_eq_getElem hjl] at hj; simpa using hj
              have hfs := hs f (List.mem_of_getElem? hj)
              have hfy := hsy f (List.mem_of_getElem? hj)
              have hel : (l.eraseIdx j).length ≤ 1000000 := by rw [List.length_eraseIdx_of_lt hjl]; omega
              have hd : 3 ≤ ((filesC l).drop (j * 3)).length := by rw [List.length_drop, files_len]; omega
              have ht : ((filesC l).drop (j * 3)).take 3 = fileC f := by rw [← hgj]; exact flatC_take fileC_len l hjl
              dsimp only
              simp only [hgj]
              simp -dsimp (disch := omega) only [↓MC.xwp, ↓xopsWp, ↓xdr, ↓MOp.xwp, dvs, dv, dvu, dvo, dvp, dgb, dGd, dBool, cond_true, cond_false, asFn, dget, dput, dput?, dead?, dres, ptr, bsc, cv, uo, uof, unopt, xpr, xdevr, xev0, cutK, cutN, xldk, xldn, xbsk, xst, xgp, glc, vExt, vFldA, vFld, vFad, vIxs, vIxa, vIxvA, vIxv, vSls, vLen, vPick, vNilc, vIsnil, dev0, devr, dsl, dif, dcells, dover, dbuild, scs, rowOf, strideOf, dtk, dtake, done1, pev, pbin, pint, pbool, pstr, psl, vnil, ↓thenD, ↓blockD, ↓retX, ↓xres, xcell, tupD, argD, dkeep, ckLive, kp, xdone, xheld, dstD, isLdM, ldOp, ldIds, ldSlots, selfOk, nb, dst1, inDone, allDone, apart, slotsApart, heldAll, heldOk, Op.operands, Nat.reduceAdd, forall_eq_or_imp, D.plain, reduceCtorEq, if_true, if_false, ↓reduceIte, ne_eq, Bool.cond_true, Bool.cond_false, forall_const, implies_true, forall_eq, Int.reduceEq, Int.reduceLT, Int.reduceLE, Int.reduceAdd, Int.reduceSub, Int.reduceMul, Int.reduceToNat, Nat.reduceMul, Nat.reduceLeDiff, Nat.reduceLT, Nat.reduceSub, Nat.reduceBEq, Nat.reduceEqDiff, matD, bytesD, iD, intsD, boolD, strD, bD, DB, ht, fileC]
              refine dfun (without07_d l j hjl hl) fun n4 g4 => ?_
              refine WK ?_; try with_reducible exact trivial
              refine dfun (find07_d (l.eraseIdx j) a.other hel) fun n5 g5 => ?_
              rw [if_neg (by omega), if_pos h2]
              cases hfo : findF (l.eraseIdx j) a.other with
              | none =>
                rw [show findI (l.eraseIdx j) a.other = -1 by simp only [findI, hfo]]
                refine WK ?_; try with_reducible exact trivial
                refine dfun (put07_d (l.eraseIdx j) (a.other, f.2.1, f.2.2) hel) fun n6 g6 => ?_
                refine WK ?_; try with_reducible exact trivial
                refine dret0 ⟨?_, rfl⟩
                simp only [restF, hfo]
                rfl
              | some i =>
                have hil := (List.getElem?_eq_some_iff.1 (findF_some hfo).choose_spec.1).1
                rw [show findI (l.eraseIdx j) a.other = (i : Int) by simp only [findI, hfo]]
                refine WK ?_; try with_reducible exact trivial
                refine dfun (without07_d (l.eraseIdx j) i hil hel) fun n6 g6 => ?_
                refine WK ?_; try with_reducible exact trivial
                refine dfun (put07_d ((l.eraseIdx j).eraseIdx i) (a.other, f.2.1, f.2.2) (by rw [List.length_eraseIdx_of_lt hil]; omega)) fun n7 g7 => ?_
                refine WK ?_; try with_reducible exact trivial
                refine dret0 ⟨?_, rfl⟩
                simp only [restF, hfo]
                rfl
      · rw [if_neg (fun h => h2 h.1)]
        refine WK ?_; try with_reducible exact trivial
        refine dgc_d (boolD true) ?_
        refine WK ?_; try with_reducible exact trivial
        refine dgc_d (boolD true) ?_
        refine WK ?_; try with_reducible exact trivial
        cases hfn : findF l a.name with
        | none =>
          rw [show findI l a.name = -1 by simp only [findI, hfn]]
          refine WK ?_; try with_reducible exact trivial
          exact dret0 ⟨rfl, rfl⟩
        | some j =>
          rw [show findI l a.name = (j : Int) by simp only [findI, hfn]]
          refine WK ?_; try with_reducible exact trivial
          obtain ⟨f, hj, hfe⟩ := findF_some hfn
          have hjl := (List.getElem?_eq_some_iff.1 hj).1
          have hgj : gt l j = f := by rw [gt_eq hjl]; rw [List.getElem?_eq_getElem hjl] at hj; simpa using hj
          have hfs := hs f (List.mem_of_getElem? hj)
          have hfy := hsy f (List.mem_of_getElem? hj)
          have hel : (l.eraseIdx j).length ≤ 1000000 := by rw [List.length_eraseIdx_of_lt hjl]; omega
          have hd : 3 ≤ ((filesC l).drop (j * 3)).length := by rw [List.length_drop, files_len]; omega
          have ht : ((filesC l).drop (j * 3)).take 3 = fileC f := by rw [← hgj]; exact flatC_take fileC_len l hjl
          simp only [hgj]
          simp -dsimp (disch := omega) only [↓MC.xwp, ↓xopsWp, ↓xdr, ↓MOp.xwp, dvs, dv, dvu, dvo, dvp, dgb, dGd, dBool, cond_true, cond_false, asFn, dget, dput, dput?, dead?, dres, ptr, bsc, cv, uo, uof, unopt, xpr, xdevr, xev0, cutK, cutN, xldk, xldn, xbsk, xst, xgp, glc, vExt, vFldA, vFld, vFad, vIxs, vIxa, vIxvA, vIxv, vSls, vLen, vPick, vNilc, vIsnil, dev0, devr, dsl, dif, dcells, dover, dbuild, scs, rowOf, strideOf, dtk, dtake, done1, pev, pbin, pint, pbool, pstr, psl, vnil, ↓thenD, ↓blockD, ↓retX, ↓xres, xcell, tupD, argD, dkeep, ckLive, kp, xdone, xheld, dstD, isLdM, ldOp, ldIds, ldSlots, selfOk, nb, dst1, inDone, allDone, apart, slotsApart, heldAll, heldOk, Op.operands, Nat.reduceAdd, forall_eq_or_imp, D.plain, reduceCtorEq, if_true, if_false, ↓reduceIte, ne_eq, Bool.cond_true, Bool.cond_false, forall_const, implies_true, forall_eq, Int.reduceEq, Int.reduceLT, Int.reduceLE, Int.reduceAdd, Int.reduceSub, Int.reduceMul, Int.reduceToNat, Nat.reduceMul, Nat.reduceLeDiff, Nat.reduceLT, Nat.reduceSub, Nat.reduceBEq, Nat.reduceEqDiff, matD, bytesD, iD, intsD, boolD, strD, bD, DB, ht, fileC]
          refine dfun (without07_d l j hjl hl) fun n4 g4 => ?_
          refine WK ?_; try with_reducible exact trivial
          refine brd (fun h1' => ?_) (fun h1' => ?_)
          · rw [if_pos h1', hgj]
            refine WK ?_; try with_reducible exact trivial
            refine dfun (put07_d (l.eraseIdx j) (f.1, f.2.1, f.2.1.length) hel) fun n5 g5 => ?_
            refine WK ?_; try with_reducible exact trivial
            exact dret0 ⟨rfl, rfl⟩
          · rw [if_neg h1', if_neg h2]
            refine WK ?_; try with_reducible exact trivial
            refine brd (fun h3 => ?_) (fun h3 => ?_)
            · rw [if_pos h3]
              refine WK ?_; try with_reducible exact trivial
              exact dret0 ⟨rfl, rfl⟩
            · rw [if_neg h3]
              refine WK ?_; try with_reducible exact trivial
              refine brd (fun h6 => ?_) (fun h6 => ?_)
              · rw [if_pos h6]
                rcases Decidable.em (a.at_ < 0) with hn | hn
                · refine WK ?_; try with_reducible exact trivial
                  rw [if_pos (Or.inl hn)]
                  exact dret0 ⟨rfl, rfl⟩
                · obtain ⟨t, hat⟩ := Int.eq_ofNat_of_zero_le (show 0 ≤ a.at_ by omega)
                  simp only [hat] at hn
                  rw [hgj, hat]
                  simp -dsimp (disch := omega) only [↓MC.xwp, ↓xopsWp, ↓xdr, ↓MOp.xwp, dvs, dv, dvu, dvo, dvp, dgb, dGd, dBool, cond_true, cond_false, asFn, dget, dput, dput?, dead?, dres, ptr, bsc, cv, uo, uof, unopt, xpr, xdevr, xev0, cutK, cutN, xldk, xldn, xbsk, xst, xgp, glc, vExt, vFldA, vFld, vFad, vIxs, vIxa, vIxvA, vIxv, vSls, vLen, vPick, vNilc, vIsnil, dev0, devr, dsl, dif, dcells, dover, dbuild, scs, rowOf, strideOf, dtk, dtake, done1, pev, pbin, pint, pbool, pstr, psl, vnil, ↓thenD, ↓blockD, ↓retX, ↓xres, xcell, tupD, argD, dkeep, ckLive, kp, xdone, xheld, dstD, isLdM, ldOp, ldIds, ldSlots, selfOk, nb, dst1, inDone, allDone, apart, slotsApart, heldAll, heldOk, Op.operands, Nat.reduceAdd, forall_eq_or_imp, D.plain, reduceCtorEq, if_true, if_false, ↓reduceIte, ne_eq, Bool.cond_true, Bool.cond_false, forall_const, implies_true, forall_eq, Int.reduceEq, Int.reduceLT, Int.reduceLE, Int.reduceAdd, Int.reduceSub, Int.reduceMul, Int.reduceToNat, Nat.reduceMul, Nat.reduceLeDiff, Nat.reduceLT, Nat.reduceSub, Nat.reduceBEq, Nat.reduceEqDiff, matD, bytesD, iD, intsD, boolD, strD, bD, DB, hat]
                  refine brd (fun hg => ?_) (fun hg => ?_)
                  · refine WK ?_; try with_reducible exact trivial
                    rw [if_pos (Or.inr hg)]
                    exact dret0 ⟨rfl, rfl⟩
                  · simp -dsimp (disch := omega) only [↓MC.xwp, ↓xopsWp, ↓xdr, ↓MOp.xwp, dvs, dv, dvu, dvo, dvp, dgb, dGd, dBool, cond_true, cond_false, asFn, dget, dput, dput?, dead?, dres, ptr, bsc, cv, uo, uof, unopt, xpr, xdevr, xev0, cutK, cutN, xldk, xldn, xbsk, xst, xgp, glc, vExt, vFldA, vFld, vFad, vIxs, vIxa, vIxvA, vIxv, vSls, vLen, vPick, vNilc, vIsnil, dev0, devr, dsl, dif, dcells, dover, dbuild, scs, rowOf, strideOf, dtk, dtake, done1, pev, pbin, pint, pbool, pstr, psl, vnil, ↓thenD, ↓blockD, ↓retX, ↓xres, xcell, tupD, argD, dkeep, ckLive, kp, xdone, xheld, dstD, isLdM, ldOp, ldIds, ldSlots, selfOk, nb, dst1, inDone, allDone, apart, slotsApart, heldAll, heldOk, Op.operands, Nat.reduceAdd, forall_eq_or_imp, D.plain, reduceCtorEq, if_true, if_false, ↓reduceIte, ne_eq, Bool.cond_true, Bool.cond_false, forall_const, implies_true, forall_eq, Int.reduceEq, Int.reduceLT, Int.reduceLE, Int.reduceAdd, Int.reduceSub, Int.reduceMul, Int.reduceToNat, Nat.reduceMul, Nat.reduceLeDiff, Nat.reduceLT, Nat.reduceSub, Nat.reduceBEq, Nat.reduceEqDiff, matD, bytesD, iD, intsD, boolD, strD, bD, DB, hat]
                    rw [if_neg (by omega), Int.toNat_natCast]
                    rw [show D.sl t ((f.2.1.map bD).take t) = bytesD (f.2.1.take t) by simp only [bytesD, List.length_take, Nat.min_eq_left (show t ≤ f.2.1.length by omega), List.map_take]]
                    refine dapp_b n4 [] (f.2.1.take t) (by (repeat rw [rget_there (by omega)]); exact rget_here _ _ _) (by simp only [List.length_nil, List.length_take]; omega) (by simp only [List.mem_cons, List.not_mem_nil, or_false, not_false_eq_true]; try omega) ?_
                    simp -dsimp (disch := omega) only [↓MC.xwp, ↓xopsWp, ↓xdr, ↓MOp.xwp, dvs, dv, dvu, dvo, dvp, dgb, dGd, dBool, cond_true, cond_false, asFn, dget, dput, dput?, dead?, dres, ptr, bsc, cv, uo, uof, unopt, xpr, xdevr, xev0, cutK, cutN, xldk, xldn, xbsk, xst, xgp, glc, vExt, vFldA, vFld, vFad, vIxs, vIxa, vIxvA, vIxv, vSls, vLen, vPick, vNilc, vIsnil, dev0, devr, dsl, dif, dcells, dover, dbuild, scs, rowOf, strideOf, dtk, dtake, done1, pev, pbin, pint, pbool, pstr, psl, vnil, ↓thenD, ↓blockD, ↓retX, ↓xres, xcell, tupD, argD, dkeep, ckLive, kp, xdone, xheld, dstD, isLdM, ldOp, ldIds, ldSlots, selfOk, nb, dst1, inDone, allDone, apart, slotsApart, heldAll, heldOk, Op.operands, Nat.reduceAdd, forall_eq_or_imp, D.plain, reduceCtorEq, if_true, if_false, ↓reduceIte, ne_eq, Bool.cond_true, Bool.cond_false, forall_const, implies_true, forall_eq, Int.reduceEq, Int.reduceLT, Int.reduceLE, Int.reduceAdd, Int.reduceSub, Int.reduceMul, Int.reduceToNat, Nat.reduceMul, Nat.reduceLeDiff, Nat.reduceLT, Nat.reduceSub, Nat.reduceBEq, Nat.reduceEqDiff, matD, bytesD, iD, intsD, boolD, strD, bD, DB, hat]
                    refine brd (fun hm1 => ?_) (fun hm1 => ?_)
                    · refine WK ?_; try with_reducible exact trivial
                      refine dfun (put07_d (l.eraseIdx j) (f.1, f.2.1.take t, t) hel) fun n5 g5 => ?_
                      refine WK ?_; try with_reducible exact trivial
                      rw [show min f.2.2 t = t by omega]
                      exact dret0 ⟨rfl, rfl⟩
                    · refine WK ?_; try with_reducible exact trivial
                      refine dfun (put07_d (l.eraseIdx j) (f.1, f.2.1.take t, f.2.2) hel) fun n5 g5 => ?_
                      refine WK ?_; try with_reducible exact trivial
                      rw [show min f.2.2 t = f.2.2 by omega]
                      exact dret0 ⟨rfl, rfl⟩
              · rw [if_neg h6]
                rcases Decidable.em (a.at_ < 0) with hn | hn
                · refine WK ?_; try with_reducible exact trivial
                  rw [if_pos (Or.inl hn)]
                  exact dret0 ⟨rfl, rfl⟩
                · obtain ⟨t, hat⟩ := Int.eq_ofNat_of_zero_le (show 0 ≤ a.at_ by omega)
                  simp only [hat] at hn
                  rw [hgj, hat]
                  simp -dsimp (disch := omega) only [↓MC.xwp, ↓xopsWp, ↓xdr, ↓MOp.xwp, dvs, dv, dvu, dvo, dvp, dgb, dGd, dBool, cond_true, cond_false, asFn, dget, dput, dput?, dead?, dres, ptr, bsc, cv, uo, uof, unopt, xpr, xdevr, xev0, cutK, cutN, xldk, xldn, xbsk, xst, xgp, glc, vExt, vFldA, vFld, vFad, vIxs, vIxa, vIxvA, vIxv, vSls, vLen, vPick, vNilc, vIsnil, dev0, devr, dsl, dif, dcells, dover, dbuild, scs, rowOf, strideOf, dtk, dtake, done1, pev, pbin, pint, pbool, pstr, psl, vnil, ↓thenD, ↓blockD, ↓retX, ↓xres, xcell, tupD, argD, dkeep, ckLive, kp, xdone, xheld, dstD, isLdM, ldOp, ldIds, ldSlots, selfOk, nb, dst1, inDone, allDone, apart, slotsApart, heldAll, heldOk, Op.operands, Nat.reduceAdd, forall_eq_or_imp, D.plain, reduceCtorEq, if_true, if_false, ↓reduceIte, ne_eq, Bool.cond_true, Bool.cond_false, forall_const, implies_true, forall_eq, Int.reduceEq, Int.reduceLT, Int.reduceLE, Int.reduceAdd, Int.reduceSub, Int.reduceMul, Int.reduceToNat, Nat.reduceMul, Nat.reduceLeDiff, Nat.reduceLT, Nat.reduceSub, Nat.reduceBEq, Nat.reduceEqDiff, matD, bytesD, iD, intsD, boolD, strD, bD, DB, hat]
                  refine brd (fun hg => ?_) (fun hg => ?_)
                  · refine WK ?_; try with_reducible exact trivial
                    rw [if_pos (Or.inr hg)]
                    exact dret0 ⟨rfl, rfl⟩
                  · simp -dsimp (disch := omega) only [↓MC.xwp, ↓xopsWp, ↓xdr, ↓MOp.xwp, dvs, dv, dvu, dvo, dvp, dgb, dGd, dBool, cond_true, cond_false, asFn, dget, dput, dput?, dead?, dres, ptr, bsc, cv, uo, uof, unopt, xpr, xdevr, xev0, cutK, cutN, xldk, xldn, xbsk, xst, xgp, glc, vExt, vFldA, vFld, vFad, vIxs, vIxa, vIxvA, vIxv, vSls, vLen, vPick, vNilc, vIsnil, dev0, devr, dsl, dif, dcells, dover, dbuild, scs, rowOf, strideOf, dtk, dtake, done1, pev, pbin, pint, pbool, pstr, psl, vnil, ↓thenD, ↓blockD, ↓retX, ↓xres, xcell, tupD, argD, dkeep, ckLive, kp, xdone, xheld, dstD, isLdM, ldOp, ldIds, ldSlots, selfOk, nb, dst1, inDone, allDone, apart, slotsApart, heldAll, heldOk, Op.operands, Nat.reduceAdd, forall_eq_or_imp, D.plain, reduceCtorEq, if_true, if_false, ↓reduceIte, ne_eq, Bool.cond_true, Bool.cond_false, forall_const, implies_true, forall_eq, Int.reduceEq, Int.reduceLT, Int.reduceLE, Int.reduceAdd, Int.reduceSub, Int.reduceMul, Int.reduceToNat, Nat.reduceMul, Nat.reduceLeDiff, Nat.reduceLT, Nat.reduceSub, Nat.reduceBEq, Nat.reduceEqDiff, matD, bytesD, iD, intsD, boolD, strD, bD, DB, hat]
                    rw [if_neg (by omega), Int.toNat_natCast]
                    refine dapp (i := n4) (m := f.2.1.length) (l' := f.2.1.map bD) elB (l := []) (n := 0) (rget_here _ _ _) (DSrc.sl _ _ _) (by simp) bDs_done (by omega) (by omega) (by simp only [List.mem_cons, List.not_mem_nil, or_false, not_false_eq_true]; try omega) ?_
                    have hw : IntKind.u8.wrap ((a.b.length : Int) + 1) = ((UInt8.ofNat (a.b.length + 1)).toNat : Int) := by
                      have h := wrapU8_nat (a.b.length + 1)
                      simp only [U8, Value.int.injEq, true_and] at h
                      exact h
                    generalize hy : UInt8.ofNat (a.b.length + 1) = y at *
                    simp -dsimp (disch := omega) only [↓MC.xwp, ↓xopsWp, ↓xdr, ↓MOp.xwp, dvs, dv, dvu, dvo, dvp, dgb, dGd, dBool, cond_true, cond_false, asFn, dget, dput, dput?, dead?, dres, ptr, bsc, cv, uo, uof, unopt, xpr, xdevr, xev0, cutK, cutN, xldk, xldn, xbsk, xst, xgp, glc, vExt, vFldA, vFld, vFad, vIxs, vIxa, vIxvA, vIxv, vSls, vLen, vPick, vNilc, vIsnil, dev0, devr, dsl, dif, dcells, dover, dbuild, scs, rowOf, strideOf, dtk, dtake, done1, pev, pbin, pint, pbool, pstr, psl, vnil, ↓thenD, ↓blockD, ↓retX, ↓xres, xcell, tupD, argD, dkeep, ckLive, kp, xdone, xheld, dstD, isLdM, ldOp, ldIds, ldSlots, selfOk, nb, dst1, inDone, allDone, apart, slotsApart, heldAll, heldOk, Op.operands, Nat.reduceAdd, forall_eq_or_imp, D.plain, reduceCtorEq, if_true, if_false, ↓reduceIte, ne_eq, Bool.cond_true, Bool.cond_false, forall_const, implies_true, forall_eq, Int.reduceEq, Int.reduceLT, Int.reduceLE, Int.reduceAdd, Int.reduceSub, Int.reduceMul, Int.reduceToNat, Nat.reduceMul, Nat.reduceLeDiff, Nat.reduceLT, Nat.reduceSub, Nat.reduceBEq, Nat.reduceEqDiff, matD, bytesD, iD, intsD, boolD, strD, bD, DB, hat, hw, U8, xor_u8]
                    have er : (f.2.1.map bD).set t (.sc (.int .u8 ((gt f.2.1 t ^^^ y).toNat : Int))) = (f.2.1.set t (gt f.2.1 t ^^^ y)).map bD := by
                      simp only [List.map_set, bD, U8]
                    rw [er]
                    refine dcall_frz (n4 + 1) (t' := .mk _) (by (repeat rw [rget_there (by omega)]); exact rget_here _ _ _) bDs_plain List.not_mem_nil ?_
                    rw [rset_here]
                    generalize hz : f.2.1.set t (gt f.2.1 t ^^^ y) = z
                    rw [show f.2.1.length = z.length by rw [← hz, List.length_set]]
                    refine dcall_viewA (t' := .mk _) ?_
                    simp only [List.map_cons, List.map_nil, dresA, dres, rget_here, filesD]
                    refine dfun (put07_d (l.eraseIdx j) (f.1, z, f.2.2) hel) fun n5 g5 => ?_
                    refine WK ?_; try with_reducible exact trivial
                    exact dret0 ⟨rfl, rfl⟩
end Go.Proofs.Ytgpkbldlkadnjaa
end
section
/- The document's disk beside the map's: what they hold. Plain. -/
set_option linter.unusedVariables false
set_option linter.unusedSimpArgs false
set_option maxHeartbeats 3000000
attribute [local irreducible] Go.Sl.Chk Go.Sl.Br Go.Sl.Or2 Go.Sl.Ld Go.Sl.Ldn Go.Sl.LdB Go.Sl.Stn Go.Sl.New Go.Sl.Run Go.Sl.RunU Go.Sl.RunX Go.Sl.Call Go.Sl.LoopK Go.Sl.RawK Go.Sl.Alt Go.Sl.Om Go.Sl.xpk Go.Sl.xgpk Go.Sl.xglk Go.Sl.DLd Go.Sl.DLdG Go.Sl.DBs Go.Sl.DCall Go.Sl.DApp Go.Sl.DGen Go.Sl.DGenU Go.Sl.DGC Go.Sl.DLoop Go.Sl.DRaw Go.Sl.DRet Go.Sl.Ent Go.Sl.dget Go.Sl.dv Go.Sl.ev Go.Sl.eget
namespace Go.Proofs.Ytgpkbldlkadnjaa
open Go Go.Sl Go.RowKit
theorem bytesLess_lt : ∀ (x y : List UInt8), Op.bytesLess x y = decide (x < y)
  | [], [] => by simp [Op.bytesLess]
  | _ :: _, [] => by simp [Op.bytesLess]
  | [], _ :: _ => by simp [Op.bytesLess]
  | a :: x, b :: y => by
    rw [Op.bytesLess, bytesLess_lt x y]
    simp only [List.cons_lt_cons_iff]
    by_cases h1 : a < b <;> by_cases h2 : a = b <;> by_cases h3 : x < y <;> simp [h1, h2, h3]
theorem toList_mk (a : Bs) : (⟨a.toArray⟩ : ByteArray).toList = a := by rw [ByteArray.toList_eq]
theorem ltB_lt (a b : Bs) : ltB a b = decide (a < b) := by
  unfold ltB slt
  rw [bytesLess_lt, toList_mk, toList_mk]
theorem lt_ne {a b : Bs} (h : a < b) : a ≤ b ∧ a ≠ b := by
  have h1 : ¬ b ≤ a := fun h2 => (List.not_lt.2 h2) h
  refine ⟨(List.le_total a b).resolve_right h1, fun e => h1 ?_⟩
  subst e
  exact (List.le_total a a).elim id id
/-- strictly sorted by name -/
def SortF (l : List FileS) : Prop := l.Pairwise fun f g => f.1 ≤ g.1 ∧ f.1 ≠ g.1
theorem put_perm (l : List FileS) (f : FileS) : (putF l f).Perm (f :: l) := by
  unfold putF
  have h := List.takeWhile_append_dropWhile (p := beforeP f) (l := l)
  have e := List.perm_middle (a := f) (l₁ := l.takeWhile (beforeP f)) (l₂ := l.dropWhile (beforeP f))
  rw [h] at e
  exact e
theorem erase_perm : ∀ {l : List FileS} {j : Nat} {f : FileS}, l[j]? = some f → l.Perm (f :: l.eraseIdx j)
  | [], j, f, h => by simp at h
  | x :: l, 0, f, h => by
    simp at h
    subst h
    exact List.Perm.refl _
  | x :: l, j + 1, f, h => by
    have ih := erase_perm (l := l) (j := j) (f := f) (by simpa using h)
    exact (ih.cons x).trans (List.Perm.swap _ _ _)
theorem set_perm {l : List FileS} {j : Nat} {f : FileS} (g : FileS) (h : l[j]? = some f) : (l.set j g).Perm (g :: l.eraseIdx j) := by
  have hj := (List.getElem?_eq_some_iff.1 h).1
  have e := erase_perm (l := l.set j g) (j := j) (f := g) (by rw [List.getElem?_set_self hj])
  rw [List.eraseIdx_set_eq] at e
  exact e
theorem putF_cons (x : FileS) (l : List FileS) (f : FileS) : putF (x :: l) f = if ltB x.1 f.1 = true then x :: putF l f else f :: x :: l := by
  unfold putF
  rw [List.takeWhile_cons, List.dropWhile_cons]
  unfold beforeP
  split <;> rfl
theorem put_sort : ∀ {l : List FileS} (f : FileS), SortF l → f.1 ∉ namesF l → SortF (putF l f)
  | [], f, _, _ => List.pairwise_singleton _ _
  | x :: l, f, h, hn => by
    have h' : SortF l := (List.pairwise_cons.1 h).2
    have hx := (List.pairwise_cons.1 h).1
    have hn1 : f.1 ≠ x.1 := fun e => hn (by rw [namesF, List.map_cons, e]; exact List.mem_cons_self)
    have hn2 : f.1 ∉ namesF l := fun e => hn (by rw [namesF, List.map_cons]; exact List.mem_cons_of_mem _ e)
    rw [putF_cons]
    split
    · rename_i hb
      rw [ltB_lt, decide_eq_true_eq] at hb
      refine List.pairwise_cons.2 ⟨fun y hy => ?_, put_sort f h' hn2⟩
      rcases List.mem_cons.1 ((put_perm l f).mem_iff.1 hy) with rfl | hy
      · exact lt_ne hb
      · exact hx y hy
    · rename_i hb
      rw [ltB_lt, decide_eq_true_eq] at hb
      have hle : f.1 ≤ x.1 := List.not_lt.1 hb
      refine List.pairwise_cons.2 ⟨fun y hy => ?_, h⟩
      rcases List.mem_cons.1 hy with rfl | hy
      · exact ⟨hle, hn1⟩
      · exact ⟨List.le_trans hle (hx y hy).1, fun e => hn2 (e ▸ List.mem_map.2 ⟨y, hy, rfl⟩)⟩
theorem erase_sort {l : List FileS} (j : Nat) (h : SortF l) : SortF (l.eraseIdx j) := List.Pairwise.sublist (List.eraseIdx_sublist l j) h
theorem namesL_sorted {fs m : List FileS} (hp : fs.Perm m) (hs : SortF m) : namesL fs = namesF m := by
  have tr : ∀ a b c : List UInt8, leB a b = true → leB b c = true → leB a c = true := fun a b c h1 h2 => by simp only [leB, decide_eq_true_eq] at *; exact List.le_trans h1 h2
  have to : ∀ a b : List UInt8, (leB a b || leB b a) = true := fun a b => by simp only [leB, Bool.or_eq_true, decide_eq_true_eq]; exact List.le_total a b
  refine List.Perm.eq_of_pairwise (le := fun a b => leB a b = true) (fun a b _ _ h1 h2 => ?_) (List.pairwise_mergeSort tr to _) ?_ ((List.mergeSort_perm _ leB).trans (hp.map _))
  · simp only [leB, decide_eq_true_eq] at h1 h2
    exact List.le_antisymm h1 h2
  · exact List.pairwise_map.2 (hs.imp fun h => decide_eq_true h.1)
theorem gt_at {l : List FileS} {j : Nat} {f : FileS} (h : l[j]? = some f) : gt l j = f := getD_at h
section
variable {fs m : List FileS}
theorem nodup_perm (hn : (namesF fs).Nodup) (hp : fs.Perm m) : (namesF m).Nodup := (hp.map _).nodup_iff.1 hn
theorem find_none (hn : (namesF fs).Nodup) (hp : fs.Perm m) {n : Bs} (h : findF fs n = none) : findF m n = none := by
  cases hm : findF m n with
  | none => rfl
  | some j =>
    obtain ⟨f, h1, h2⟩ := findF_some hm
    obtain ⟨k, h3, _⟩ := findF_mem hn (hp.mem_iff.2 (List.mem_of_getElem? h1))
    rw [h2, h] at h3
    cases h3
theorem find_some (hn : (namesF fs).Nodup) (hp : fs.Perm m) {n : Bs} {j : Nat} (h : findF fs n = some j) : ∃ i f, findF m n = some i ∧ fs[j]? = some f ∧ m[i]? = some f ∧ f.1 = n ∧ (fs.eraseIdx j).Perm (m.eraseIdx i) := by
  obtain ⟨f, h1, h2⟩ := findF_some h
  obtain ⟨i, h3, h4⟩ := findF_mem (nodup_perm hn hp) (hp.mem_iff.1 (List.mem_of_getElem? h1))
  rw [h2] at h3
  exact ⟨i, f, h3, h1, h4, h2, ((erase_perm h1).symm.trans (hp.trans (erase_perm h4))).cons_inv⟩
theorem set_put (hn : (namesF m).Nodup) (hs : SortF m) {i j : Nat} {f : FileS} (h1 : fs[j]? = some f) (h2 : m[i]? = some f) (hp : (fs.eraseIdx j).Perm (m.eraseIdx i)) (g : FileS) (hg : g.1 = f.1) : (fs.set j g).Perm (putF (m.eraseIdx i) g) ∧ SortF (putF (m.eraseIdx i) g) :=
  ⟨(set_perm g h1).trans ((hp.cons g).trans (put_perm _ g).symm), put_sort g (erase_sort i hs) (by rw [hg]; exact erase_none hn h2)⟩
theorem app_put (hs : SortF m) (hp : fs.Perm m) (g : FileS) (hg : g.1 ∉ namesF m) : (fs ++ [g]).Perm (putF m g) ∧ SortF (putF m g) :=
  ⟨(List.perm_append_singleton g fs).trans ((hp.cons g).trans (put_perm _ g).symm), put_sort g hs hg⟩
theorem crash_same : ∀ (l gs done : List FileS) (keep : List Int), (namesF gs).Nodup → gs.Perm (done ++ l) → (crashN (namesF l) gs keep).Perm (done ++ crashR l keep)
  | [], gs, done, keep, hn, hp => by simpa [crashR, namesF, crashN] using hp
  | f :: l, gs, done, keep, hn, hp => by
    have hf : f ∈ gs := hp.mem_iff.2 (List.mem_append.2 (.inr List.mem_cons_self))
    obtain ⟨j, h1, h2⟩ := findF_mem hn hf
    have hc : (crash1 f keep).1 = (f.1, (crash1 f keep).1.2) := by rw [← crash1_name f keep]
    have hp2 : (gs.set j (crash1 f keep).1).Perm ((done ++ [(crash1 f keep).1]) ++ l) := by
      have e1 : (gs.eraseIdx j).Perm (done ++ l) := ((erase_perm h2).symm.trans (hp.trans List.perm_middle)).cons_inv
      rw [List.append_assoc]
      exact (set_perm _ h2).trans ((e1.cons _).trans List.perm_middle.symm)
    have ih := crash_same l (gs.set j (crash1 f keep).1) (done ++ [(crash1 f keep).1]) (crash1 f keep).2 (by rw [hc, names_set h2]; exact hn) hp2
    rw [List.append_assoc] at ih
    rw [namesF, List.map_cons]
    simp only [crashN, h1, getD_at h2, crashR]
    exact ih
theorem crashR_sort : ∀ {l : List FileS} (keep : List Int), SortF l → SortF (crashR l keep) ∧ ∀ g ∈ crashR l keep, ∃ f ∈ l, g.1 = f.1
  | [], keep, h => ⟨List.Pairwise.nil, fun g hg => by simp [crashR] at hg⟩
  | f :: l, keep, h => by
    obtain ⟨i1, i2⟩ := crashR_sort (l := l) (crash1 f keep).2 (List.pairwise_cons.1 h).2
    simp only [crashR]
    refine ⟨List.pairwise_cons.2 ⟨fun y hy => ?_, i1⟩, fun g hg => ?_⟩
    · obtain ⟨x, hx, e⟩ := i2 y hy
      rw [crash1_name, e]
      exact (List.pairwise_cons.1 h).1 x hx
    · rcases List.mem_cons.1 hg with rfl | hg
      · exact ⟨f, List.mem_cons_self, crash1_name f keep⟩
      · obtain ⟨x, hx, e⟩ := i2 g hg
        exact ⟨x, List.mem_cons_of_mem _ hx, e⟩
theorem do_same {most k : Nat} (h : DOk fs most k) (hp : fs.Perm m) (hs : SortF m) (a : ActS) (h0 : 0 ≤ a.act) (h6 : a.act ≤ 6) :
    (doF fs most a).Perm (doR m most a).1 ∧ SortF (doR m most a).1 ∧ doE fs most a = (doR m most a).2 := by
  have hn := h.nodup
  have hn' := nodup_perm hn hp
  have hu : usedN m = usedN fs := ((hp.map _).sum_nat).symm
  rcases (by omega : a.act = 0 ∨ a.act = 1 ∨ a.act = 2 ∨ a.act = 3 ∨ a.act = 4 ∨ a.act = 5 ∨ a.act = 6) with e | e | e | e | e | e | e
  · simp only [doF, doE, doR, e, reduceIte, appF, appE, hu]
    cases hnm : namedB a.name with
    | false => simp only [reduceIte]; exact ⟨hp, hs, trivial⟩
    | true =>
      simp only [Bool.true_eq_false, reduceIte]
      rcases Decidable.em ((most : Int) - usedN fs < a.b.length) with hf | hf
      · simp only [hf, reduceIte]; exact ⟨hp, hs, trivial⟩
      · simp only [hf, reduceIte]
        cases hfn : findF fs a.name with
        | none =>
          have hm := find_none hn hp hfn
          simp only [restF, actFile, hm, List.nil_append]
          obtain ⟨g1, g2⟩ := app_put hs hp (a.name, a.b, 0) (names_none hm)
          exact ⟨g1, g2, trivial⟩
        | some j =>
          obtain ⟨i, f, hm, e1, e2, e3, e4⟩ := find_some hn hp hfn
          simp only [restF, actFile, hm, getD_at e1, getD_at e2]
          obtain ⟨g1, g2⟩ := set_put hn' hs e1 e2 e4 (f.1, f.2.1 ++ a.b, f.2.2) rfl
          rw [← e3]
          exact ⟨g1, g2, trivial⟩
  · simp only [doF, doE, doR, e, Int.reduceEq, reduceIte, false_and, syncF, noneE]
    cases hfn : findF fs a.name with
    | none => simp only [find_none hn hp hfn]; exact ⟨hp, hs, trivial⟩
    | some j =>
      obtain ⟨i, f, hm, e1, e2, e3, e4⟩ := find_some hn hp hfn
      simp only [hm, getD_at e1, gt_at e2]
      obtain ⟨g1, g2⟩ := set_put hn' hs e1 e2 e4 (f.1, f.2.1, f.2.1.length) rfl
      rw [← e3]
      exact ⟨g1, g2, trivial⟩
  · simp only [doF, doE, doR, e, Int.reduceEq, reduceIte, true_and, renF, renE]
    rcases Decidable.em (namedB a.name = false ∨ namedB a.other = false) with hb | hb
    · simp only [hb, reduceIte]; exact ⟨hp, hs, trivial⟩
    · simp only [hb, reduceIte, noneE]
      cases hfn : findF fs a.name with
      | none => simp only [find_none hn hp hfn]; exact ⟨hp, hs, trivial⟩
      | some j =>
        obtain ⟨i, f, hm, e1, e2, e3, e4⟩ := find_some hn hp hfn
        simp only [hm, getD_at e1, gt_at e2]
        have hnE : (namesF (fs.eraseIdx j)).Nodup := (List.Sublist.map _ (List.eraseIdx_sublist fs j)).nodup hn
        have hnE' := nodup_perm hnE e4
        cases hfo : findF (fs.eraseIdx j) a.other with
        | none =>
          have hm2 := find_none hnE e4 hfo
          simp only [restF, hm2]
          obtain ⟨g1, g2⟩ := app_put (erase_sort i hs) e4 (a.other, f.2.1, f.2.2) (names_none hm2)
          exact ⟨g1, g2, trivial⟩
        | some j2 =>
          obtain ⟨i2, f2, hm2, d1, d2, d3, d4⟩ := find_some hnE e4 hfo
          simp only [restF, hm2]
          obtain ⟨g1, g2⟩ := set_put hnE' (erase_sort i hs) d1 d2 d4 (a.other, f.2.1, f.2.2) d3.symm
          exact ⟨g1, g2, trivial⟩
  · simp only [doF, doE, doR, e, Int.reduceEq, reduceIte, false_and, delF, noneE]
    cases hfn : findF fs a.name with
    | none => simp only [find_none hn hp hfn]; exact ⟨hp, hs, trivial⟩
    | some j =>
      obtain ⟨i, f, hm, e1, e2, e3, e4⟩ := find_some hn hp hfn
      simp only [hm]
      exact ⟨e4, erase_sort i hs, trivial⟩
  · simp only [doF, doE, doR, e, Int.reduceEq, reduceIte, false_and, turnF, turnE]
    cases hfn : findF fs a.name with
    | none => simp only [find_none hn hp hfn]; exact ⟨hp, hs, trivial⟩
    | some j =>
      obtain ⟨i, f, hm, e1, e2, e3, e4⟩ := find_some hn hp hfn
      simp only [hm, getD_at e1, gt_at e2]
      rcases Decidable.em (0 ≤ a.at_ ∧ a.at_ < (f.2.1.length : Int)) with hb | hb
      · rw [if_pos hb, if_pos hb, if_neg (by omega)]
        obtain ⟨g1, g2⟩ := set_put hn' hs e1 e2 e4 (f.1, f.2.1.set a.at_.toNat (gt f.2.1 a.at_.toNat ^^^ UInt8.ofNat (a.b.length + 1)), f.2.2) rfl
        rw [← e3]
        exact ⟨g1, g2, rfl⟩
      · rw [if_neg hb, if_neg hb, if_pos (by omega)]
        exact ⟨hp, hs, rfl⟩
  · simp only [doF, doE, doR, e, Int.reduceEq, reduceIte]
    refine ⟨?_, (crashR_sort _ hs).1, trivial⟩
    unfold crashF
    rw [namesL_sorted hp hs]
    exact crash_same m fs [] a.keep hn hp
  · simp only [doF, doE, doR, e, Int.reduceEq, reduceIte, false_and, trimF, trimE]
    cases hfn : findF fs a.name with
    | none => simp only [find_none hn hp hfn]; exact ⟨hp, hs, trivial⟩
    | some j =>
      obtain ⟨i, f, hm, e1, e2, e3, e4⟩ := find_some hn hp hfn
      simp only [hm, getD_at e1, gt_at e2]
      rcases Decidable.em (0 ≤ a.at_ ∧ a.at_ ≤ (f.2.1.length : Int)) with hb | hb
      · rw [if_pos hb, if_pos hb, if_neg (by omega)]
        obtain ⟨g1, g2⟩ := set_put hn' hs e1 e2 e4 (f.1, f.2.1.take a.at_.toNat, min f.2.2 a.at_.toNat) rfl
        rw [← e3]
        exact ⟨g1, g2, rfl⟩
      · rw [if_neg hb, if_neg hb, if_pos (by omega)]
        exact ⟨hp, hs, rfl⟩
end
end Go.Proofs.Ytgpkbldlkadnjaa
end
section
/- Contracts over data: the disk beside the document's disk: same. -/
set_option linter.unusedVariables false
set_option linter.unusedSimpArgs false
set_option maxHeartbeats 3000000
attribute [local irreducible] Go.Sl.Chk Go.Sl.Br Go.Sl.Or2 Go.Sl.Ld Go.Sl.Ldn Go.Sl.LdB Go.Sl.Stn Go.Sl.New Go.Sl.Run Go.Sl.RunU Go.Sl.RunX Go.Sl.Call Go.Sl.LoopK Go.Sl.RawK Go.Sl.Alt Go.Sl.Om Go.Sl.xpk Go.Sl.xgpk Go.Sl.xglk Go.Sl.DLd Go.Sl.DLdG Go.Sl.DBs Go.Sl.DCall Go.Sl.DApp Go.Sl.DGen Go.Sl.DGenU Go.Sl.DGC Go.Sl.DLoop Go.Sl.DRaw Go.Sl.DRet Go.Sl.Ent Go.Sl.dget Go.Sl.dv Go.Sl.ev Go.Sl.eget
namespace Go.Proofs.Ytgpkbldlkadnjaa
open Go Go.Sl Go.RowKit
set_option maxRecDepth 100000 in
theorem same07_a (fs l : List FileS) (most : Nat) (hp : fs.Perm l) (hnd : (namesF fs).Nodup) (hsl : namesL fs = namesF l) (hs : Small1 fs) (hsy : Synced1 fs) (hl : fs.length ≤ 1000) (hu : usedN fs ≤ 1000000) :
    DAct Try.prog f_law07_same (fun i => [.hp i 0, filesD l]) (diskO fs most) (boolD true) (diskO fs most) := by
  intro i nx hi
  have hll : l.length = fs.length := hp.length_eq.symm
  have hul : usedN l = usedN fs := ((hp.map _).sum_nat).symm
  have hnl : (namesF l).length = l.length := by unfold namesF; rw [List.length_map]
  have hu7 : DFun Try.prog f_ref07_Used [filesD l] (iD (usedN fs)) := by rw [← hul]; exact used07_d l (by omega) (by omega)
  have hbp : ∀ b : Bs, ∀ x ∈ b.map bD, x.plain := fun b x hx => by obtain ⟨y, _, rfl⟩ := List.mem_map.1 hx; trivial
  refine xcalls c_law07_same (by simp only [m_law07_same, List.length]; decide) ?_
  simp only [diskO]
  simp only [m_law07_same]; refine WK ?_; try with_reducible exact trivial
  refine dactn i (names_a fs most hs (by omega)) hi (rget_here _ _ _) List.not_mem_nil fun k n1 h1 h2 => ?_
  rw [hsl]
  simp only [diskO, strsO, hnl]
  refine WK ?_; try with_reducible exact trivial
  refine dact i (used_a fs most hs hu) (by omega) (by (repeat rw [rget_there (by omega)]); exact rget_here _ _ _) List.not_mem_nil fun n2 h3 => ?_
  simp only [diskO]
  refine WK ?_; try with_reducible exact trivial
  refine dfun hu7 fun n3 h4 => ?_
  refine WK ?_; try with_reducible exact trivial
  refine dloop [0, 1, 5, 6] (fun s : Nat × Nat => ([(0, .hp i 0), (1, filesD l), (5, .h k), (6, iD (s.1 : Nat))], [(k, .row tStr 1 l.length ((namesF l).map strD)), (i, diskO fs most)], s.2)) (fun s => s.1 ≤ l.length ∧ i < s.2 ∧ k < s.2) (fun s => l.length - s.1) (0, n3) ⟨by omega, by dsimp only; omega, by dsimp only; omega⟩ ((Ent.only [k, i] _ _ _).trans (by simp -dsimp (disch := omega) only [↓MC.xwp, ↓xopsWp, ↓xdr, ↓MOp.xwp, dvs, dv, dvu, dvo, dvp, dgb, dGd, dBool, cond_true, cond_false, asFn, dget, dput, dput?, dead?, dres, ptr, bsc, cv, uo, uof, unopt, xpr, xdevr, xev0, cutK, cutN, xldk, xldn, xbsk, xst, xgp, glc, vExt, vFldA, vFld, vFad, vIxs, vIxa, vIxvA, vIxv, vSls, vLen, vPick, vNilc, vIsnil, dev0, devr, dsl, dif, dcells, dover, dbuild, scs, rowOf, strideOf, dtk, dtake, done1, pev, pbin, pint, pbool, pstr, psl, vnil, ↓thenD, ↓blockD, ↓retX, ↓xres, xcell, tupD, argD, dkeep, ckLive, kp, xdone, xheld, dstD, isLdM, ldOp, ldIds, ldSlots, selfOk, nb, dst1, inDone, allDone, apart, slotsApart, heldAll, heldOk, Op.operands, Nat.reduceAdd, forall_eq_or_imp, D.plain, reduceCtorEq, if_true, if_false, ↓reduceIte, ne_eq, Bool.cond_true, Bool.cond_false, forall_const, implies_true, forall_eq, Int.reduceEq, Int.reduceLT, Int.reduceLE, Int.reduceAdd, Int.reduceSub, Int.reduceMul, Int.reduceToNat, Nat.reduceMul, Nat.reduceLeDiff, Nat.reduceLT, Nat.reduceSub, Nat.reduceBEq, Nat.reduceEqDiff, matD, bytesD, iD, intsD, boolD, strD, bD, DB, rpick]; exact (Ent.of (by with_unfolding_all rfl) rfl))) ?_
  rintro ⟨x, n⟩ ⟨q1, q2, q3⟩
  dsimp only at q1 q2 q3 ⊢
  simp only [diskO]
  refine WK ?_; try with_reducible exact trivial
  refine brd (fun hlt => ?_) (fun hge => ?_)
  · have hxl : x < l.length := by omega
    have hm := List.getElem_mem hxl
    rw [← gt_eq hxl] at hm
    have hgn : gt (namesF l) x = (gt l x).1 := by
      rw [gt_eq (by omega), gt_eq hxl]
      unfold namesF
      rw [List.getElem_map]
    have e0 := files_get l (k := 0) hxl (by omega)
    have e1 := files_get l (k := 1) hxl (by omega)
    have e2 := files_get l (k := 2) hxl (by omega)
    simp only [fileC, List.getElem?_cons_succ, List.getElem?_cons_zero, Nat.add_zero] at e0 e1 e2
    generalize hf : gt l x = f at *
    have hfm : f ∈ fs := hp.mem_iff.2 hm
    obtain ⟨j, f1, f2⟩ := findF_mem hnd hfm
    have hfs := hs f hfm
    have hfy := hsy f hfm
    simp -dsimp (disch := omega) only [↓MC.xwp, ↓xopsWp, ↓xdr, ↓MOp.xwp, dvs, dv, dvu, dvo, dvp, dgb, dGd, dBool, cond_true, cond_false, asFn, dget, dput, dput?, dead?, dres, ptr, bsc, cv, uo, uof, unopt, xpr, xdevr, xev0, cutK, cutN, xldk, xldn, xbsk, xst, xgp, glc, vExt, vFldA, vFld, vFad, vIxs, vIxa, vIxvA, vIxv, vSls, vLen, vPick, vNilc, vIsnil, dev0, devr, dsl, dif, dcells, dover, dbuild, scs, rowOf, strideOf, dtk, dtake, done1, pev, pbin, pint, pbool, pstr, psl, vnil, ↓thenD, ↓blockD, ↓retX, ↓xres, xcell, tupD, argD, dkeep, ckLive, kp, xdone, xheld, dstD, isLdM, ldOp, ldIds, ldSlots, selfOk, nb, dst1, inDone, allDone, apart, slotsApart, heldAll, heldOk, Op.operands, Nat.reduceAdd, forall_eq_or_imp, D.plain, reduceCtorEq, if_true, if_false, ↓reduceIte, ne_eq, Bool.cond_true, Bool.cond_false, forall_const, implies_true, forall_eq, Int.reduceEq, Int.reduceLT, Int.reduceLE, Int.reduceAdd, Int.reduceSub, Int.reduceMul, Int.reduceToNat, Nat.reduceMul, Nat.reduceLeDiff, Nat.reduceLT, Nat.reduceSub, Nat.reduceBEq, Nat.reduceEqDiff, matD, bytesD, iD, intsD, boolD, strD, bD, DB, e0]
    refine dactn i (read_a fs most f.1 hs hfs.1 f1 f2) (by omega) (by (repeat rw [rget_there (by omega)]); exact rget_here _ _ _) List.not_mem_nil fun a1 n4 t1 t2 => ?_
    simp only [diskO, bytesO]
    simp -dsimp (disch := omega) only [↓MC.xwp, ↓xopsWp, ↓xdr, ↓MOp.xwp, dvs, dv, dvu, dvo, dvp, dgb, dGd, dBool, cond_true, cond_false, asFn, dget, dput, dput?, dead?, dres, ptr, bsc, cv, uo, uof, unopt, xpr, xdevr, xev0, cutK, cutN, xldk, xldn, xbsk, xst, xgp, glc, vExt, vFldA, vFld, vFad, vIxs, vIxa, vIxvA, vIxv, vSls, vLen, vPick, vNilc, vIsnil, dev0, devr, dsl, dif, dcells, dover, dbuild, scs, rowOf, strideOf, dtk, dtake, done1, pev, pbin, pint, pbool, pstr, psl, vnil, ↓thenD, ↓blockD, ↓retX, ↓xres, xcell, tupD, argD, dkeep, ckLive, kp, xdone, xheld, dstD, isLdM, ldOp, ldIds, ldSlots, selfOk, nb, dst1, inDone, allDone, apart, slotsApart, heldAll, heldOk, Op.operands, Nat.reduceAdd, forall_eq_or_imp, D.plain, reduceCtorEq, if_true, if_false, ↓reduceIte, ne_eq, Bool.cond_true, Bool.cond_false, forall_const, implies_true, forall_eq, Int.reduceEq, Int.reduceLT, Int.reduceLE, Int.reduceAdd, Int.reduceSub, Int.reduceMul, Int.reduceToNat, Nat.reduceMul, Nat.reduceLeDiff, Nat.reduceLT, Nat.reduceSub, Nat.reduceBEq, Nat.reduceEqDiff, matD, bytesD, iD, intsD, boolD, strD, bD, DB, e0]
    refine dactn i (synced_a fs most f.1 hs hfs.1 f1 f2 hfy) (by omega) (by (repeat rw [rget_there (by omega)]); exact rget_here _ _ _) List.not_mem_nil fun a2 n5 t3 t4 => ?_
    simp only [diskO, bytesO]
    simp -dsimp (disch := omega) only [↓MC.xwp, ↓xopsWp, ↓xdr, ↓MOp.xwp, dvs, dv, dvu, dvo, dvp, dgb, dGd, dBool, cond_true, cond_false, asFn, dget, dput, dput?, dead?, dres, ptr, bsc, cv, uo, uof, unopt, xpr, xdevr, xev0, cutK, cutN, xldk, xldn, xbsk, xst, xgp, glc, vExt, vFldA, vFld, vFad, vIxs, vIxa, vIxvA, vIxv, vSls, vLen, vPick, vNilc, vIsnil, dev0, devr, dsl, dif, dcells, dover, dbuild, scs, rowOf, strideOf, dtk, dtake, done1, pev, pbin, pint, pbool, pstr, psl, vnil, ↓thenD, ↓blockD, ↓retX, ↓xres, xcell, tupD, argD, dkeep, ckLive, kp, xdone, xheld, dstD, isLdM, ldOp, ldIds, ldSlots, selfOk, nb, dst1, inDone, allDone, apart, slotsApart, heldAll, heldOk, Op.operands, Nat.reduceAdd, forall_eq_or_imp, D.plain, reduceCtorEq, if_true, if_false, ↓reduceIte, ne_eq, Bool.cond_true, Bool.cond_false, forall_const, implies_true, forall_eq, Int.reduceEq, Int.reduceLT, Int.reduceLE, Int.reduceAdd, Int.reduceSub, Int.reduceMul, Int.reduceToNat, Nat.reduceMul, Nat.reduceLeDiff, Nat.reduceLT, Nat.reduceSub, Nat.reduceBEq, Nat.reduceEqDiff, matD, bytesD, iD, intsD, boolD, strD, bD, DB, e0, e1, e2, hgn]
    refine dcall_frz a1 (t' := .mk _) (by (repeat rw [rget_there (by omega)]); exact rget_here _ _ _) (hbp _) (by simp only [List.mem_cons, List.not_mem_nil, or_false, not_false_eq_true]; try omega) ?_
    simp -dsimp (disch := omega) only [↓MC.xwp, ↓xopsWp, ↓xdr, ↓MOp.xwp, dvs, dv, dvu, dvo, dvp, dgb, dGd, dBool, cond_true, cond_false, asFn, dget, dput, dput?, dead?, dres, ptr, bsc, cv, uo, uof, unopt, xpr, xdevr, xev0, cutK, cutN, xldk, xldn, xbsk, xst, xgp, glc, vExt, vFldA, vFld, vFad, vIxs, vIxa, vIxvA, vIxv, vSls, vLen, vPick, vNilc, vIsnil, dev0, devr, dsl, dif, dcells, dover, dbuild, scs, rowOf, strideOf, dtk, dtake, done1, pev, pbin, pint, pbool, pstr, psl, vnil, ↓thenD, ↓blockD, ↓retX, ↓xres, xcell, tupD, argD, dkeep, ckLive, kp, xdone, xheld, dstD, isLdM, ldOp, ldIds, ldSlots, selfOk, nb, dst1, inDone, allDone, apart, slotsApart, heldAll, heldOk, Op.operands, Nat.reduceAdd, forall_eq_or_imp, D.plain, reduceCtorEq, if_true, if_false, ↓reduceIte, ne_eq, Bool.cond_true, Bool.cond_false, forall_const, implies_true, forall_eq, Int.reduceEq, Int.reduceLT, Int.reduceLE, Int.reduceAdd, Int.reduceSub, Int.reduceMul, Int.reduceToNat, Nat.reduceMul, Nat.reduceLeDiff, Nat.reduceLT, Nat.reduceSub, Nat.reduceBEq, Nat.reduceEqDiff, matD, bytesD, iD, intsD, boolD, strD, bD, DB, List.map_cons, List.map_nil, dres]
    refine dfun (same01_d f.2.1 f.2.1) fun n6 t5 => ?_
    rw [show decide (f.2.1 = f.2.1) = true from decide_eq_true rfl]
    simp -dsimp (disch := omega) only [↓MC.xwp, ↓xopsWp, ↓xdr, ↓MOp.xwp, dvs, dv, dvu, dvo, dvp, dgb, dGd, dBool, cond_true, cond_false, asFn, dget, dput, dput?, dead?, dres, ptr, bsc, cv, uo, uof, unopt, xpr, xdevr, xev0, cutK, cutN, xldk, xldn, xbsk, xst, xgp, glc, vExt, vFldA, vFld, vFad, vIxs, vIxa, vIxvA, vIxv, vSls, vLen, vPick, vNilc, vIsnil, dev0, devr, dsl, dif, dcells, dover, dbuild, scs, rowOf, strideOf, dtk, dtake, done1, pev, pbin, pint, pbool, pstr, psl, vnil, ↓thenD, ↓blockD, ↓retX, ↓xres, xcell, tupD, argD, dkeep, ckLive, kp, xdone, xheld, dstD, isLdM, ldOp, ldIds, ldSlots, selfOk, nb, dst1, inDone, allDone, apart, slotsApart, heldAll, heldOk, Op.operands, Nat.reduceAdd, forall_eq_or_imp, D.plain, reduceCtorEq, if_true, if_false, ↓reduceIte, ne_eq, Bool.cond_true, Bool.cond_false, forall_const, implies_true, forall_eq, Int.reduceEq, Int.reduceLT, Int.reduceLE, Int.reduceAdd, Int.reduceSub, Int.reduceMul, Int.reduceToNat, Nat.reduceMul, Nat.reduceLeDiff, Nat.reduceLT, Nat.reduceSub, Nat.reduceBEq, Nat.reduceEqDiff, matD, bytesD, iD, intsD, boolD, strD, bD, DB, e0, e1, e2, hgn]
    have hsl2 : D.sl f.2.2 ((f.2.1.map bD).take f.2.2) = bytesD (f.2.1.take f.2.2) := by simp only [bytesD, List.length_take, Nat.min_eq_left hfy, List.map_take]
    rw [hsl2]
    refine dcall_frz a2 (t' := .mk _) (by (repeat rw [rget_there (by omega)]); exact rget_here _ _ _) (hbp _) (by simp only [List.mem_cons, List.not_mem_nil, or_false, not_false_eq_true]; try omega) ?_
    simp -dsimp (disch := omega) only [↓MC.xwp, ↓xopsWp, ↓xdr, ↓MOp.xwp, dvs, dv, dvu, dvo, dvp, dgb, dGd, dBool, cond_true, cond_false, asFn, dget, dput, dput?, dead?, dres, ptr, bsc, cv, uo, uof, unopt, xpr, xdevr, xev0, cutK, cutN, xldk, xldn, xbsk, xst, xgp, glc, vExt, vFldA, vFld, vFad, vIxs, vIxa, vIxvA, vIxv, vSls, vLen, vPick, vNilc, vIsnil, dev0, devr, dsl, dif, dcells, dover, dbuild, scs, rowOf, strideOf, dtk, dtake, done1, pev, pbin, pint, pbool, pstr, psl, vnil, ↓thenD, ↓blockD, ↓retX, ↓xres, xcell, tupD, argD, dkeep, ckLive, kp, xdone, xheld, dstD, isLdM, ldOp, ldIds, ldSlots, selfOk, nb, dst1, inDone, allDone, apart, slotsApart, heldAll, heldOk, Op.operands, Nat.reduceAdd, forall_eq_or_imp, D.plain, reduceCtorEq, if_true, if_false, ↓reduceIte, ne_eq, Bool.cond_true, Bool.cond_false, forall_const, implies_true, forall_eq, Int.reduceEq, Int.reduceLT, Int.reduceLE, Int.reduceAdd, Int.reduceSub, Int.reduceMul, Int.reduceToNat, Nat.reduceMul, Nat.reduceLeDiff, Nat.reduceLT, Nat.reduceSub, Nat.reduceBEq, Nat.reduceEqDiff, matD, bytesD, iD, intsD, boolD, strD, bD, DB, List.map_cons, List.map_nil, dres]
    refine dfun (same01_d (f.2.1.take f.2.2) (f.2.1.take f.2.2)) fun n7 t6 => ?_
    rw [show decide (f.2.1.take f.2.2 = f.2.1.take f.2.2) = true from decide_eq_true rfl]
    simp -dsimp (disch := omega) only [↓MC.xwp, ↓xopsWp, ↓xdr, ↓MOp.xwp, dvs, dv, dvu, dvo, dvp, dgb, dGd, dBool, cond_true, cond_false, asFn, dget, dput, dput?, dead?, dres, ptr, bsc, cv, uo, uof, unopt, xpr, xdevr, xev0, cutK, cutN, xldk, xldn, xbsk, xst, xgp, glc, vExt, vFldA, vFld, vFad, vIxs, vIxa, vIxvA, vIxv, vSls, vLen, vPick, vNilc, vIsnil, dev0, devr, dsl, dif, dcells, dover, dbuild, scs, rowOf, strideOf, dtk, dtake, done1, pev, pbin, pint, pbool, pstr, psl, vnil, ↓thenD, ↓blockD, ↓retX, ↓xres, xcell, tupD, argD, dkeep, ckLive, kp, xdone, xheld, dstD, isLdM, ldOp, ldIds, ldSlots, selfOk, nb, dst1, inDone, allDone, apart, slotsApart, heldAll, heldOk, Op.operands, Nat.reduceAdd, forall_eq_or_imp, D.plain, reduceCtorEq, if_true, if_false, ↓reduceIte, ne_eq, Bool.cond_true, Bool.cond_false, forall_const, implies_true, forall_eq, Int.reduceEq, Int.reduceLT, Int.reduceLE, Int.reduceAdd, Int.reduceSub, Int.reduceMul, Int.reduceToNat, Nat.reduceMul, Nat.reduceLeDiff, Nat.reduceLT, Nat.reduceSub, Nat.reduceBEq, Nat.reduceEqDiff, matD, bytesD, iD, intsD, boolD, strD, bD, DB, e0, e1, e2, hgn]
    refine ⟨(x + 1, n7), ⟨by dsimp only; omega, by dsimp only; omega, by dsimp only; omega⟩, by dsimp only; omega, (Ent.only [k, i] _ _ _).trans (by simp -dsimp (disch := omega) only [↓MC.xwp, ↓xopsWp, ↓xdr, ↓MOp.xwp, dvs, dv, dvu, dvo, dvp, dgb, dGd, dBool, cond_true, cond_false, asFn, dget, dput, dput?, dead?, dres, ptr, bsc, cv, uo, uof, unopt, xpr, xdevr, xev0, cutK, cutN, xldk, xldn, xbsk, xst, xgp, glc, vExt, vFldA, vFld, vFad, vIxs, vIxa, vIxvA, vIxv, vSls, vLen, vPick, vNilc, vIsnil, dev0, devr, dsl, dif, dcells, dover, dbuild, scs, rowOf, strideOf, dtk, dtake, done1, pev, pbin, pint, pbool, pstr, psl, vnil, ↓thenD, ↓blockD, ↓retX, ↓xres, xcell, tupD, argD, dkeep, ckLive, kp, xdone, xheld, dstD, isLdM, ldOp, ldIds, ldSlots, selfOk, nb, dst1, inDone, allDone, apart, slotsApart, heldAll, heldOk, Op.operands, Nat.reduceAdd, forall_eq_or_imp, D.plain, reduceCtorEq, if_true, if_false, ↓reduceIte, ne_eq, Bool.cond_true, Bool.cond_false, forall_const, implies_true, forall_eq, Int.reduceEq, Int.reduceLT, Int.reduceLE, Int.reduceAdd, Int.reduceSub, Int.reduceMul, Int.reduceToNat, Nat.reduceMul, Nat.reduceLeDiff, Nat.reduceLT, Nat.reduceSub, Nat.reduceBEq, Nat.reduceEqDiff, matD, bytesD, iD, intsD, boolD, strD, bD, DB, rpick]; exact (Ent.of (by with_unfolding_all rfl) rfl))⟩
  · refine WK ?_; try with_reducible exact trivial
    refine dret_only [i] (t := .mk _) ?_
    simp -dsimp (disch := omega) only [↓MC.xwp, ↓xopsWp, ↓xdr, ↓MOp.xwp, dvs, dv, dvu, dvo, dvp, dgb, dGd, dBool, cond_true, cond_false, asFn, dget, dput, dput?, dead?, dres, ptr, bsc, cv, uo, uof, unopt, xpr, xdevr, xev0, cutK, cutN, xldk, xldn, xbsk, xst, xgp, glc, vExt, vFldA, vFld, vFad, vIxs, vIxa, vIxvA, vIxv, vSls, vLen, vPick, vNilc, vIsnil, dev0, devr, dsl, dif, dcells, dover, dbuild, scs, rowOf, strideOf, dtk, dtake, done1, pev, pbin, pint, pbool, pstr, psl, vnil, ↓thenD, ↓blockD, ↓retX, ↓xres, xcell, tupD, argD, dkeep, ckLive, kp, xdone, xheld, dstD, isLdM, ldOp, ldIds, ldSlots, selfOk, nb, dst1, inDone, allDone, apart, slotsApart, heldAll, heldOk, Op.operands, Nat.reduceAdd, forall_eq_or_imp, D.plain, reduceCtorEq, if_true, if_false, ↓reduceIte, ne_eq, Bool.cond_true, Bool.cond_false, forall_const, implies_true, forall_eq, Int.reduceEq, Int.reduceLT, Int.reduceLE, Int.reduceAdd, Int.reduceSub, Int.reduceMul, Int.reduceToNat, Nat.reduceMul, Nat.reduceLeDiff, Nat.reduceLT, Nat.reduceSub, Nat.reduceBEq, Nat.reduceEqDiff, matD, bytesD, iD, intsD, boolD, strD, bD, DB, rpick]
    exact dret ⟨rfl, rfl⟩
end Go.Proofs.Ytgpkbldlkadnjaa
end
