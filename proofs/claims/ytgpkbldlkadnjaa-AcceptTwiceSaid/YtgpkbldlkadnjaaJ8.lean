/- Contracts over data: sums. -/
import Derived.Test.YtgpkbldlkadnjaaJ7
import Derived.Test.YtgpkbldlkadnjaaJ6
section
set_option linter.unusedVariables false
set_option linter.unusedSimpArgs false
set_option maxHeartbeats 3000000
attribute [local irreducible] Go.Sl.Chk Go.Sl.Br Go.Sl.Or2 Go.Sl.Ld Go.Sl.Ldn Go.Sl.LdB Go.Sl.Stn Go.Sl.New Go.Sl.Run Go.Sl.RunU Go.Sl.RunX Go.Sl.Call Go.Sl.LoopK Go.Sl.RawK Go.Sl.Alt Go.Sl.Om Go.Sl.xpk Go.Sl.xgpk Go.Sl.xglk Go.Sl.DLd Go.Sl.DLdG Go.Sl.DBs Go.Sl.DCall Go.Sl.DApp Go.Sl.DGen Go.Sl.DGenU Go.Sl.DGC Go.Sl.DLoop Go.Sl.DRaw Go.Sl.DRet Go.Sl.Ent Go.Sl.dget Go.Sl.dv Go.Sl.ev Go.Sl.eget
namespace Go.Proofs.Ytgpkbldlkadnjaa
open Go Go.Sl Go.RowKit
abbrev cD (w : Nat) : D := .sc (.int .u32 (w : Int))
def cbit (w : Nat) : Nat := if w % 2 = 1 then (w / 2) ^^^ 2197175160 else w / 2
def crep : Nat → Nat → Nat
  | 0, w => w
  | k + 1, w => crep k (cbit w)
def ceight (w : Nat) (b : UInt8) : Nat := crep 8 (w ^^^ b.toNat)
def csum (b : Bs) : Nat := b.foldl ceight 4294967295 ^^^ 4294967295
theorem xor_lt {a b : Nat} (ha : a < 4294967296) (hb : b < 4294967296) : a ^^^ b < 4294967296 := Nat.xor_lt_two_pow (n := 32) ha hb
theorem cbit_lt {w : Nat} (h : w < 4294967296) : cbit w < 4294967296 := by
  unfold cbit
  split
  · exact xor_lt (by omega) (by omega)
  · omega
theorem crep_lt : ∀ (k : Nat) {w : Nat}, w < 4294967296 → crep k w < 4294967296
  | 0, _, h => h
  | k + 1, _, h => crep_lt k (cbit_lt h)
theorem ceight_lt {w : Nat} (b : UInt8) (h : w < 4294967296) : ceight w b < 4294967296 := crep_lt 8 (xor_lt h (by have := b.toNat_lt; omega))
theorem fold_lt : ∀ (l : Bs) {w : Nat}, w < 4294967296 → l.foldl ceight w < 4294967296
  | [], _, h => h
  | b :: l, _, h => fold_lt l (ceight_lt b h)
theorem csum_lt (b : Bs) : csum b < 4294967296 := xor_lt (fold_lt b (by omega)) (by omega)
theorem wrap32 {n : Nat} (h : n < 4294967296) : IntKind.u32.wrap (n : Int) = n := by
  simp only [IntKind.wrap, IntKind.bits, IntKind.signed]
  simp
  omega
theorem of32 {x : Nat} (h : x < 4294967296) : (BitVec.ofInt 32 (x : Int)).toNat = x := by
  rw [BitVec.toNat_ofInt]
  omega
theorem xor32 {a b : Nat} (ha : a < 4294967296) (hb : b < 4294967296) : IntKind.u32.wrap ((BitVec.ofInt IntKind.u32.bits (a : Int) ^^^ BitVec.ofInt IntKind.u32.bits (b : Int)).toNat : Int) = ((a ^^^ b : Nat) : Int) := by
  show IntKind.u32.wrap ((BitVec.ofInt 32 (a : Int) ^^^ BitVec.ofInt 32 (b : Int)).toNat : Int) = _
  rw [BitVec.toNat_xor, of32 ha, of32 hb, wrap32 (xor_lt ha hb)]
theorem xor32all {a : Nat} (ha : a < 4294967296) : IntKind.u32.wrap ((BitVec.ofInt IntKind.u32.bits (a : Int) ^^^ BitVec.ofInt IntKind.u32.bits 4294967295).toNat : Int) = ((a ^^^ 4294967295 : Nat) : Int) := xor32 (b := 4294967295) ha (by omega)
theorem xor32poly {a : Nat} (ha : a < 4294967296) : IntKind.u32.wrap ((BitVec.ofInt IntKind.u32.bits (a : Int) ^^^ BitVec.ofInt IntKind.u32.bits 2197175160).toNat : Int) = ((a ^^^ 2197175160 : Nat) : Int) := xor32 (b := 2197175160) ha (by omega)
theorem and32 {a : Nat} (ha : a < 4294967296) : IntKind.u32.wrap ((BitVec.ofInt IntKind.u32.bits (a : Int) &&& BitVec.ofInt IntKind.u32.bits 1).toNat : Int) = ((a % 2 : Nat) : Int) := by
  show IntKind.u32.wrap ((BitVec.ofInt 32 (a : Int) &&& BitVec.ofInt 32 ((1 : Nat) : Int)).toNat : Int) = _
  rw [BitVec.toNat_and, of32 ha, of32 (by omega), Nat.and_one_is_mod, wrap32 (by omega)]
theorem fdiv1 (a : Nat) : (a : Int).fdiv (2 ^ Nat.min 1 IntKind.u32.bits) = ((a / 2 : Nat) : Int) := by
  have h : ((2 : Int) ^ Nat.min 1 IntKind.u32.bits) = 2 := rfl
  rw [h, Int.fdiv_eq_ediv_of_nonneg _ (by omega)]
  omega
theorem bit_d (w : Nat) (h : w < 4294967296) : DFun Try.prog f_check_word_bit [cD w] (cD (cbit w)) := by
  intro nx
  refine xcalls c_check_word_bit (by simp only [m_check_word_bit, List.length]; decide) ?_
  rcases (by omega : w % 2 = 1 ∨ w % 2 = 0) with e | e
  · simp only [m_check_word_bit]; refine WKX (And.intro @and32 @e) ?_; try with_reducible exact trivial
    rw [fdiv1, xor32poly (by omega)]
    exact dret0 ⟨by rw [cbit, if_pos e], rfl⟩
  · simp only [m_check_word_bit]; refine WKX (And.intro @and32 @e) ?_; try with_reducible exact trivial
    rw [fdiv1]
    exact dret0 ⟨by rw [cbit, if_neg (by omega)], rfl⟩
theorem eight_d (w : Nat) (b : UInt8) (h : w < 4294967296) : DFun Try.prog f_check_word_eight [cD w, bD b] (cD (ceight w b)) := by
  intro nx
  refine xcalls c_check_word_eight (by simp only [m_check_word_eight, List.length]; decide) ?_
  have hb := b.toNat_lt
  have hx : w ^^^ b.toNat < 4294967296 := xor_lt h (by omega)
  have e1 : IntKind.u32.wrap (b.toNat : Int) = b.toNat := wrap32 (by omega)
  have e2 := xor32 (a := w) (b := b.toNat) h (by omega)
  simp -dsimp (disch := omega) only [↓MC.xwp, ↓xopsWp, ↓xdr, ↓MOp.xwp, dvs, dv, dvu, dvo, dvp, dgb, dGd, dBool, cond_true, cond_false, asFn, dget, dput, dput?, dead?, dres, ptr, bsc, cv, uo, uof, unopt, xpr, xdevr, xev0, cutK, cutN, xldk, xldn, xbsk, xst, xgp, glc, vExt, vFldA, vFld, vFad, vIxs, vIxa, vIxvA, vIxv, vSls, vLen, vPick, vNilc, vIsnil, dev0, devr, dsl, dif, dcells, dover, dbuild, scs, rowOf, strideOf, dtk, dtake, done1, pev, pbin, pint, pbool, pstr, psl, vnil, ↓thenD, ↓blockD, ↓retX, ↓xres, xcell, tupD, argD, dkeep, ckLive, kp, xdone, xheld, dstD, isLdM, ldOp, ldIds, ldSlots, selfOk, nb, dst1, inDone, allDone, apart, slotsApart, heldAll, heldOk, Op.operands, Nat.reduceAdd, forall_eq_or_imp, D.plain, reduceCtorEq, if_true, if_false, ↓reduceIte, ne_eq, Bool.cond_true, Bool.cond_false, forall_const, implies_true, forall_eq, Int.reduceEq, Int.reduceLT, Int.reduceLE, Int.reduceAdd, Int.reduceSub, Int.reduceMul, Int.reduceToNat, Nat.reduceMul, Nat.reduceLeDiff, Nat.reduceLT, Nat.reduceSub, Nat.reduceBEq, Nat.reduceEqDiff, matD, bytesD, iD, intsD, boolD, strD, bD, DB, m_check_word_eight, U8, e1, e2]
  refine dloop [0, 5, 10] (fun s : Nat × Nat × Nat => ([(0, cD s.2.1), (5, .fn f_check_word_bit [] []), (10, iD (s.1 : Nat))], [], s.2.2)) (fun s => s.1 ≤ 8 ∧ s.2.1 < 4294967296 ∧ crep (8 - s.1) s.2.1 = ceight w b) (fun s => 8 - s.1) (0, w ^^^ b.toNat, nx) ⟨by omega, hx, rfl⟩ (Ent.of (by with_unfolding_all rfl) rfl) ?_
  rintro ⟨k, v, n⟩ ⟨q1, q2, q3⟩
  dsimp only at q1 q2 q3 ⊢
  refine WK ?_; try with_reducible exact trivial
  refine brd (fun hlt => ?_) (fun hge => ?_)
  · rw [show 8 - k = (8 - (k + 1)) + 1 by omega] at q3
    simp only [crep] at q3
    refine WK ?_; try with_reducible exact trivial
    refine chk (by kernel_rfl) ?_
    refine dfun (bit_d v q2) fun n1 h1 => ?_
    refine WK ?_; try with_reducible exact trivial
    exact ⟨(k + 1, cbit v, n1), ⟨by dsimp only; omega, cbit_lt q2, q3⟩, by dsimp only; omega, (Ent.of (by with_unfolding_all rfl) rfl)⟩
  · refine WK ?_; try with_reducible exact trivial
    rw [show 8 - k = 0 by omega] at q3
    exact dret0 ⟨by rw [← q3]; rfl, rfl⟩
theorem more_d (w : Nat) (b : Bs) (h : w < 4294967296) (hl : b.length ≤ 1000000000) : DFun Try.prog f_check_More [cD w, bytesD b] (cD (b.foldl ceight (w ^^^ 4294967295) ^^^ 4294967295)) := by
  intro nx
  refine xcalls c_check_More (by simp only [m_check_More, List.length]; decide) ?_
  have e2 := xor32all h
  simp only [m_check_More]; refine WKX @e2 ?_; try with_reducible exact trivial
  refine dloop [5, 10, 11, 12] (fun s : Nat × Nat × Nat => ([(5, cD s.2.1), (10, bytesD b), (11, iD (b.length : Nat)), (12, iD (s.1 : Nat))], [], s.2.2)) (fun s => s.1 ≤ b.length ∧ s.2.1 < 4294967296 ∧ (b.drop s.1).foldl ceight s.2.1 = b.foldl ceight (w ^^^ 4294967295)) (fun s => b.length - s.1) (0, w ^^^ 4294967295, nx) ⟨by omega, xor_lt h (by omega), rfl⟩ (Ent.of (by with_unfolding_all rfl) rfl) ?_
  rintro ⟨k, v, n⟩ ⟨q1, q2, q3⟩
  dsimp only at q1 q2 q3 ⊢
  refine WK ?_; try with_reducible exact trivial
  refine brd (fun hlt => ?_) (fun hge => ?_)
  · have hkl : k < b.length := by omega
    rw [List.drop_eq_getElem_cons hkl, ← gt_eq hkl, List.foldl_cons] at q3
    refine WK ?_; try with_reducible exact trivial
    refine dfun (eight_d v (gt b k) q2) fun n1 h1 => ?_
    refine WK ?_; try with_reducible exact trivial
    exact ⟨(k + 1, ceight v (gt b k), n1), ⟨by dsimp only; omega, ceight_lt _ q2, q3⟩, by dsimp only; omega, (Ent.of (by with_unfolding_all rfl) rfl)⟩
  · rw [List.drop_of_length_le (by omega)] at q3
    refine WKX @xor32all ?_; try with_reducible exact trivial
    exact dret0 ⟨by rw [← q3]; rfl, rfl⟩
theorem sum_d (b : Bs) (hl : b.length ≤ 1000000000) : DFun Try.prog f_check_Sum [bytesD b] (cD (csum b)) := by
  intro nx
  refine xcalls c_check_Sum (by simp only [m_check_Sum, List.length]; decide) ?_
  simp only [m_check_Sum]; refine WK ?_; try with_reducible exact trivial
  refine dfun (more_d 0 b (by omega) hl) fun n1 h1 => ?_
  refine WK ?_; try with_reducible exact trivial
  exact dret0 ⟨by rw [Nat.zero_xor]; rfl, rfl⟩
end Go.Proofs.Ytgpkbldlkadnjaa
end
section
/- Contracts over data: frames. -/
set_option linter.unusedVariables false
set_option linter.unusedSimpArgs false
set_option maxHeartbeats 3000000
attribute [local irreducible] Go.Sl.Chk Go.Sl.Br Go.Sl.Or2 Go.Sl.Ld Go.Sl.Ldn Go.Sl.LdB Go.Sl.Stn Go.Sl.New Go.Sl.Run Go.Sl.RunU Go.Sl.RunX Go.Sl.Call Go.Sl.LoopK Go.Sl.RawK Go.Sl.Alt Go.Sl.Om Go.Sl.xpk Go.Sl.xgpk Go.Sl.xglk Go.Sl.DLd Go.Sl.DLdG Go.Sl.DBs Go.Sl.DCall Go.Sl.DApp Go.Sl.DGen Go.Sl.DGenU Go.Sl.DGC Go.Sl.DLoop Go.Sl.DRaw Go.Sl.DRet Go.Sl.Ent Go.Sl.dget Go.Sl.dv Go.Sl.ev Go.Sl.eget
namespace Go.Proofs.Ytgpkbldlkadnjaa
open Go Go.Sl Go.RowKit
def frameB (rec : Bs) : Bs := numB rec.length ++ (numB (csum (numB rec.length)) ++ (numB (csum rec) ++ rec))
theorem frameB_len (rec : Bs) : (frameB rec).length = rec.length + 12 := by
  simp only [frameB, List.length_append, numB_length]
  omega
theorem fsum_o (b : Bs) (hl : b.length ≤ 1000000000) : DNew Try.prog f_frame_sum [bytesD b] (fun i => .h i) (bytesO (numB (csum b))) := by
  intro nx
  refine xcalls c_frame_sum (by simp only [m_frame_sum, List.length]; decide) ?_
  have hs := csum_lt b
  simp only [m_frame_sum]; refine WK ?_; try with_reducible exact trivial
  refine dfun (sum_d b hl) fun n1 h1 => ?_
  refine WK ?_; try with_reducible exact trivial
  refine dnew (num_o (csum b) hs) fun i n2 h2 h3 => ?_
  refine WK ?_; try with_reducible exact trivial
  refine dret_only [i] (t := .mk _) ?_
  refine WKR ?_; try with_reducible exact trivial
  exact dret ⟨i, by omega, h3, rfl, rfl⟩
theorem fsum_d (b : Bs) (hl : b.length ≤ 1000000000) : DFun Try.prog f_frame_sum [bytesD b] (bytesD (numB (csum b))) :=
  (fsum_o b hl).fn (bytesO_frz _).1 (by rw [(bytesO_frz _).2])
theorem fput_d (rec : Bs) (hl : rec.length ≤ 65535) : DFun Try.prog f_frame_Put [bytesD rec] (bytesD (frameB rec)) := by
  intro nx
  refine xcalls c_frame_Put (by simp only [m_frame_Put, List.length]; decide) ?_
  simp only [m_frame_Put]; refine WK ?_; try with_reducible exact trivial
  refine dfun (num_d rec.length (by omega)) fun n1 h1 => ?_
  refine WK ?_; try with_reducible exact trivial
  refine dfun (fsum_d (numB rec.length) (by rw [numB_length]; omega)) fun n2 h2 => ?_
  refine WK ?_; try with_reducible exact trivial
  refine dfun (fsum_d rec (by omega)) fun n3 h3 => ?_
  refine WK ?_; try with_reducible exact trivial
  refine dcall_frz n3 (t' := .mk _) (rget_here _ _ _) (by simp [D.plain]) List.not_mem_nil ?_
  rw [rset_here]
  simp only [List.map_cons, List.map_nil, dres, rget_here]
  have hb := frameB_len rec
  refine dfun (concat_d [numB rec.length, numB (csum (numB rec.length)), numB (csum rec), rec] (by simp) (by simp only [List.flatten_cons, List.flatten_nil, List.append_nil, List.length_append, numB_length]; omega)) fun n4 h4 => ?_
  refine WK ?_; try with_reducible exact trivial
  exact dret0 ⟨by simp only [List.flatten_cons, List.flatten_nil, List.append_nil, frameB], rfl⟩
theorem dgc_d' {X : Prop} {Y : D → Prop} {t : Tag X} {u : TagF Y} (d : D) (h : Y (.opt false d)) : DGC false X Y t u := by
  unfold DGC
  exact ⟨fun h => (by cases h), fun _ => ⟨d, h⟩⟩
def cutF (b : Bs) : Option (Bs × Bs) :=
  if b.length < 12 then none else if 65535 < numAt b then none else if b.length - 12 < numAt b then none else
  if b.take 12 = b.take 4 ++ (numB (csum (b.take 4)) ++ numB (csum ((b.drop 12).take (numAt b)))) then some ((b.drop 12).take (numAt b), (b.drop 12).drop (numAt b)) else none
def cutD : Option (Bs × Bs) → D
  | none => .tup [bytesD [], bytesD [], boolD false]
  | some p => .tup [bytesD p.1, bytesD p.2, boolD true]
theorem sl_drop (b : Bs) (k : Nat) : D.sl (b.length - k) (List.take (b.length - k) (List.drop k (b.map bD))) = bytesD (b.drop k) := by
  rw [← List.map_drop, List.take_of_length_le (by simp)]
  simp
theorem sl_take (b : Bs) (k : Nat) (h : k ≤ b.length) : D.sl k (List.take k (b.map bD)) = bytesD (b.take k) := by
  simp only [bytesD, List.length_take, Nat.min_eq_left h, List.map_take]
set_option maxRecDepth 100000 in
theorem fcut_d (b : Bs) (hl : b.length ≤ 1000000) : DFun Try.prog f_frame_Cut [bytesD b] (cutD (cutF b)) := by
  intro nx
  refine xcalls c_frame_Cut (by simp only [m_frame_Cut, List.length]; decide) ?_
  rcases Nat.lt_or_ge b.length 12 with h | h
  · simp only [m_frame_Cut]; refine WK ?_; try with_reducible exact trivial
    refine dret_nilv (t' := .mk _) ?_
    exact dret ⟨by rw [cutF, if_pos h]; rfl, rfl⟩
  · have hn := numAt_lt b
    have hd : (b.drop 12).length = b.length - 12 := by simp
    simp only [m_frame_Cut]; refine WK ?_; try with_reducible exact trivial
    refine dfun (cutnum_d b (by omega)) fun n1 h1 => ?_
    rw [if_neg (by omega)]
    refine WK ?_; try with_reducible exact trivial
    rw [sl_drop]
    refine dfun (clone_d (b.drop 12) (by omega)) fun n2 h2 => ?_
    rcases (by omega : (65535 < numAt b ∨ b.length - 12 < numAt b) ∨ (numAt b ≤ 65535 ∧ numAt b ≤ b.length - 12)) with h5 | ⟨h5, h6⟩
    · have hc : cutF b = none := by
        rcases h5 with h5 | h5
        · rw [cutF, if_neg (by omega), if_pos h5]
        · rw [cutF, if_neg (by omega)]
          split
          · rfl
          · simp [h5]
      rw [hc]
      rcases Nat.lt_or_ge 65535 (numAt b) with h6 | h6
      · refine WKX @hd ?_; try with_reducible exact trivial
        refine dgc_d' (bytesD []) ?_
        refine WKX @hd ?_; try with_reducible exact trivial
        refine dgc_d' (bytesD []) ?_
        refine WKX @hd ?_; try with_reducible exact trivial
        refine dgc_d' (bytesD []) ?_
        refine WKX @hd ?_; try with_reducible exact trivial
        refine dgc_d' (boolD true) ?_
        refine WKX @hd ?_; try with_reducible exact trivial
        refine dret_nilv (t' := .mk _) ?_
        exact dret ⟨rfl, rfl⟩
      · refine WKX @hd ?_; try with_reducible exact trivial
        refine dgc_d' (bytesD []) ?_
        refine WKX @hd ?_; try with_reducible exact trivial
        refine dgc_d' (bytesD []) ?_
        refine WKX @hd ?_; try with_reducible exact trivial
        refine dgc_d' (bytesD []) ?_
        refine WKX @hd ?_; try with_reducible exact trivial
        refine dgc_d' (boolD true) ?_
        refine WKX @hd ?_; try with_reducible exact trivial
        refine dret_nilv (t' := .mk _) ?_
        exact dret ⟨rfl, rfl⟩
    · refine WKX @hd ?_; try with_reducible exact trivial
      rw [sl_take b 4 (by omega)]
      refine dfun (fsum_d (b.take 4) (by rw [List.length_take]; omega)) fun n3 h7 => ?_
      refine WKX @hd ?_; try with_reducible exact trivial
      rw [sl_take (b.drop 12) (numAt b) (by omega)]
      refine dfun (fsum_d ((b.drop 12).take (numAt b)) (by rw [List.length_take]; omega)) fun n4 h8 => ?_
      refine WKX @hd ?_; try with_reducible exact trivial
      refine dcall_frz n4 (t' := .mk _) (rget_here _ _ _) (by simp [D.plain]) (by simp only [List.mem_cons, List.not_mem_nil, or_false, not_false_eq_true]; try omega) ?_
      rw [rset_here]
      simp only [List.map_cons, List.map_nil, dres, rget_here]
      refine dfun (concat_d [b.take 4, numB (csum (b.take 4)), numB (csum ((b.drop 12).take (numAt b)))] (by simp) (by simp only [List.flatten_cons, List.flatten_nil, List.append_nil, List.length_append, numB_length, List.length_take]; omega)) fun n5 h9 => ?_
      refine WKX @hd ?_; try with_reducible exact trivial
      rw [sl_take b 12 (by omega), show [b.take 4, numB (csum (b.take 4)), numB (csum ((b.drop 12).take (numAt b)))].flatten = b.take 4 ++ (numB (csum (b.take 4)) ++ numB (csum ((b.drop 12).take (numAt b)))) by simp]
      refine dfun (equal_d (b.take 12) _ (by rw [List.length_take]; omega)) fun n6 h10 => ?_
      have hc : cutF b = if b.take 12 = b.take 4 ++ (numB (csum (b.take 4)) ++ numB (csum ((b.drop 12).take (numAt b)))) then some ((b.drop 12).take (numAt b), (b.drop 12).drop (numAt b)) else none := by
        rw [cutF, if_neg (by omega), if_neg (by omega), if_neg (by omega)]
      rw [hc]
      rcases Decidable.em (b.take 12 = b.take 4 ++ (numB (csum (b.take 4)) ++ numB (csum ((b.drop 12).take (numAt b))))) with e | e
      · rw [decide_eq_true e, if_pos e]
        refine WKX @hd ?_; try with_reducible exact trivial
        rw [← hd, sl_drop (b.drop 12) (numAt b), sl_take (b.drop 12) (numAt b) (by omega)]
        exact dret0 ⟨rfl, rfl⟩
      · rw [decide_eq_false e, if_neg e]
        refine WKX @hd ?_; try with_reducible exact trivial
        refine dret_nilv (t' := .mk _) ?_
        exact dret0 ⟨rfl, rfl⟩
theorem dapp_brow {i nx : Nat} {held : List Nat} {r : Roots} {K : D → Roots → Nat → Prop} {tg : TagF K} (L : LL) (b : Bs) (j : Nat) (hne : j ≠ i) (hg : rget r i = some (.row tBytes 1 L.length (L.map bytesD))) (hj : rget r j = some (.row tBytes 1 1 [bytesD b])) (hl : L.length ≤ 2000000) (hh : i ∉ held)
    (k : K (.h nx) ((nx, .row tBytes 1 (L ++ [b]).length ((L ++ [b]).map bytesD)) :: rdel r i) (nx + 1)) : DApp Try.prog #[tRows, tRows] tRows (.h i) (.h j) held r nx K tg :=
  dapp (i := i) (m := 1) (l' := [bytesD b]) elM (l := L.map bytesD) (n := L.length) hg (DSrc.row hj (by simp [D.plain])) rfl (by simp [done1]) (by omega) (by omega) hh (by
    have e1 : (L ++ [b]).length = L.length + 1 := by simp
    have e2 : (L ++ [b]).map bytesD = L.map bytesD ++ [bytesD b] := by simp
    rw [← e1, ← e2]; exact k)
def scanN : Nat → Bs → LL × Bs
  | 0, b => ([], b)
  | k + 1, b => match cutF b with
    | none => ([], b)
    | some p => (p.1 :: (scanN k p.2).1, (scanN k p.2).2)
def scanF (b : Bs) : LL × Bs := scanN b.length b
theorem cutF_len {b : Bs} {p : Bs × Bs} (h : cutF b = some p) : p.1.length + p.2.length + 12 = b.length ∧ p.1.length ≤ 65535 := by
  unfold cutF at h
  split at h
  · cases h
  · split at h
    · cases h
    · split at h
      · cases h
      · split at h
        · cases h
          simp only [List.length_take, List.length_drop]
          omega
        · cases h
theorem scanN_stable : ∀ (k : Nat) (b : Bs), b.length ≤ k → scanN k b = scanN b.length b
  | 0, b, h => by rw [show b.length = 0 by omega]
  | k + 1, b, h => by
    cases b with
    | nil => simp [scanN, cutF]
    | cons x l =>
      simp only [List.length_cons, scanN]
      cases hc : cutF (x :: l) with
      | none => rfl
      | some p =>
        have hl := (cutF_len hc).1
        simp only [List.length_cons] at hl h
        dsimp only
        rw [scanN_stable k p.2 (by omega), scanN_stable l.length p.2 (by omega)]
theorem scanF_cut (b : Bs) : scanF b = match cutF b with
    | none => ([], b)
    | some p => (p.1 :: (scanF p.2).1, (scanF p.2).2) := by
  unfold scanF
  cases b with
  | nil => simp [scanN, cutF]
  | cons x l =>
    simp only [List.length_cons, scanN]
    cases hc : cutF (x :: l) with
    | none => rfl
    | some p =>
      have hl := (cutF_len hc).1
      simp only [List.length_cons] at hl
      dsimp only
      rw [scanN_stable l.length p.2 (by omega)]
set_option maxRecDepth 100000 in
theorem fscan_d (b : Bs) (hl : b.length ≤ 1000000) : DFun Try.prog f_frame_Scan [bytesD b] (.tup [matD (scanF b).1, iD ((b.length : Int) - ((scanF b).2.length : Int))]) := by
  intro nx
  refine xcalls c_frame_Scan (by simp only [m_frame_Scan, List.length]; decide) ?_
  simp only [m_frame_Scan]; refine WK ?_; try with_reducible exact trivial
  refine dloop [0, 4, 5] (fun s : Bs × LL × Nat × Nat => ([(0, bytesD s.1), (4, .h s.2.2.1), (5, iD (b.length : Nat))], [(s.2.2.1, .row tBytes 1 s.2.1.length (s.2.1.map bytesD))], s.2.2.2)) (fun s => s.1.length ≤ b.length ∧ s.2.1.length + s.1.length ≤ b.length ∧ s.2.1 ++ (scanF s.1).1 = (scanF b).1 ∧ (scanF s.1).2 = (scanF b).2 ∧ s.2.2.1 < s.2.2.2) (fun s => s.1.length) (b, [], nx, nx + 1) ⟨Nat.le_refl _, by simp, rfl, rfl, by dsimp only; omega⟩ ((Ent.nil 4 tBytes 1 (by with_unfolding_all rfl) rfl).trans (Ent.of (by with_unfolding_all rfl) rfl)) ?_
  rintro ⟨c, L, q, n⟩ ⟨q1, q2, q3, q4, q5⟩
  dsimp only at q1 q2 q3 q4 q5 ⊢
  refine WK ?_; try with_reducible exact trivial
  refine dfun (fcut_d c (by omega)) fun n1 h1 => ?_
  rw [scanF_cut c] at q3 q4
  cases hc : cutF c with
  | none =>
    rw [hc] at q3 q4
    dsimp only at q3 q4
    simp only [cutD]
    refine WK ?_; try with_reducible exact trivial
    refine dret_frz q (rget_here _ _ _) (fun x hx => by obtain ⟨y, _, rfl⟩ := List.mem_map.1 hx; simp [D.plain]) ?_
    rw [rset_here]
    simp only [dresT, List.map_cons, List.map_nil, dres, rget_here]
    refine dret0 ⟨?_, rfl⟩
    rw [← q3, ← q4, List.append_nil]
  | some p =>
    rw [hc] at q3 q4
    dsimp only at q3 q4
    have hcl := cutF_len hc
    simp only [cutD]
    refine WK ?_; try with_reducible exact trivial
    refine dapp_brow L p.1 n1 (by omega) (by (repeat rw [rget_there (by omega)]); exact rget_here _ _ _) (by (repeat rw [rget_there (by omega)]); exact rget_here _ _ _) (by omega) (by simp only [List.mem_cons, List.not_mem_nil, or_false, not_false_eq_true]; try omega) ?_
    refine WK ?_; try with_reducible exact trivial
    refine ⟨(p.2, L ++ [p.1], n1 + 1, n1 + 2), ⟨by dsimp only; omega, by dsimp only; rw [List.length_append, List.length_singleton]; omega, by dsimp only; rw [List.append_assoc]; exact q3, q4, by dsimp only; omega⟩, by dsimp only; omega, (Ent.only [n1 + 1] _ _ _).trans (by simp -dsimp (disch := omega) only [rpick, rget_here, rget_there, rdel_here, rdel_there]; exact (Ent.of (by with_unfolding_all rfl) rfl))⟩
end Go.Proofs.Ytgpkbldlkadnjaa
end
section
/- Contracts over data: promises and votes as records. -/
set_option linter.unusedVariables false
set_option linter.unusedSimpArgs false
set_option maxHeartbeats 3000000
attribute [local irreducible] Go.Sl.Chk Go.Sl.Br Go.Sl.Or2 Go.Sl.Ld Go.Sl.Ldn Go.Sl.LdB Go.Sl.Stn Go.Sl.New Go.Sl.Run Go.Sl.RunU Go.Sl.RunX Go.Sl.Call Go.Sl.LoopK Go.Sl.RawK Go.Sl.Alt Go.Sl.Om Go.Sl.xpk Go.Sl.xgpk Go.Sl.xglk Go.Sl.DLd Go.Sl.DLdG Go.Sl.DBs Go.Sl.DCall Go.Sl.DApp Go.Sl.DGen Go.Sl.DGenU Go.Sl.DGC Go.Sl.DLoop Go.Sl.DRaw Go.Sl.DRet Go.Sl.Ent Go.Sl.dget Go.Sl.dv Go.Sl.ev Go.Sl.eget
namespace Go.Proofs.Ytgpkbldlkadnjaa
open Go Go.Sl Go.RowKit
structure VoteS where
  slot : Int
  ballot : Int
  origin : Int
  full : Bool
  bytes : Bs
def voteC (v : VoteS) : List D := [iD v.slot, iD v.ballot, iD v.origin, boolD v.full, strD v.bytes]
def RightV (v : VoteS) : Prop := 0 ≤ v.slot ∧ v.slot < 64 ∧ 1 ≤ v.origin ∧ v.origin ≤ v.ballot ∧ v.ballot ≤ 2147483647 ∧ v.bytes.length ≤ 520
instance (v : VoteS) : Decidable (RightV v) := by unfold RightV; infer_instance
theorem ballot_d (b : Int) : DFun Try.prog f_slot_ballot [iD b] (boolD (decide (1 ≤ b ∧ b ≤ 2147483647))) := by
  intro nx
  refine xcalls c_slot_ballot (by simp only [m_slot_ballot, List.length]; decide) ?_
  rcases Decidable.em (1 ≤ b) with h | h
  · simp only [m_slot_ballot]; refine WK ?_; try with_reducible exact trivial
    exact dret0 ⟨by simp [h], rfl⟩
  · simp only [m_slot_ballot]; refine WK ?_; try with_reducible exact trivial
    exact dret0 ⟨by rw [decide_eq_false (fun k => h k.1)], rfl⟩
theorem full_d (b : Bool) : DFun Try.prog f_slot_full [boolD b] (iD ((if b then 1 else 0 : Nat) : Int)) := by
  intro nx
  refine xcalls c_slot_full (by simp only [m_slot_full, List.length]; decide) ?_
  cases b with
  | true =>
    simp only [m_slot_full]; refine WK ?_; try with_reducible exact trivial
    exact dret0 ⟨rfl, rfl⟩
  | false =>
    simp only [m_slot_full]; refine WK ?_; try with_reducible exact trivial
    exact dret0 ⟨rfl, rfl⟩
theorem vright_d (v : VoteS) : DFun Try.prog f_ref17_Right [.agg (voteC v)] (boolD (decide (RightV v))) := by
  intro nx
  refine xcalls c_ref17_Right (by simp only [m_ref17_Right, List.length]; decide) ?_
  simp only [voteC]
  rcases Decidable.em (0 ≤ v.slot) with h1 | h1
  rcases Decidable.em (v.slot ≤ 63) with h2 | h2
  rcases Decidable.em (1 ≤ v.origin) with h3 | h3
  rcases Decidable.em (v.origin ≤ v.ballot) with h4 | h4
  rcases Decidable.em (v.ballot ≤ 2147483647) with h5 | h5
  rcases Decidable.em (v.bytes.length ≤ 520) with h6 | h6
  · simp only [m_ref17_Right]; refine WKX @sz_s ?_; try with_reducible exact trivial
    exact dret0 ⟨by rw [decide_eq_true (show RightV v from ⟨h1, by omega, h3, h4, h5, h6⟩)], rfl⟩
  all_goals
    simp only [m_ref17_Right]; refine WKX @sz_s ?_; try with_reducible exact trivial
    exact dret0 ⟨by rw [decide_eq_false (fun k => by unfold RightV at k; omega)], rfl⟩
theorem sright_d (v : VoteS) : DFun Try.prog f_slot_Right [.agg (voteC v)] (boolD (decide (RightV v))) := by
  intro nx
  refine xcalls c_slot_Right (by simp only [m_slot_Right, List.length]; decide) ?_
  simp only [voteC]
  rcases Decidable.em (0 ≤ v.slot ∧ v.slot < 64) with h1 | h1
  · obtain ⟨h1, h2⟩ := h1
    simp only [m_slot_Right]; refine WKX @sz_s ?_; try with_reducible exact trivial
    refine dfun (ballot_d v.ballot) fun n1 g1 => ?_
    rcases Decidable.em (1 ≤ v.ballot ∧ v.ballot ≤ 2147483647) with h3 | h3
    · rw [decide_eq_true h3]
      refine WKX @sz_s ?_; try with_reducible exact trivial
      refine dfun (ballot_d v.origin) fun n2 g2 => ?_
      rcases Decidable.em (1 ≤ v.origin ∧ v.origin ≤ 2147483647) with h4 | h4
      · rw [decide_eq_true h4]
        rcases Decidable.em (v.origin ≤ v.ballot) with h5 | h5
        rcases Decidable.em (v.bytes.length ≤ 520) with h6 | h6
        · refine WKX @sz_s ?_; try with_reducible exact trivial
          exact dret0 ⟨by rw [decide_eq_true (show RightV v from ⟨h1, h2, h4.1, h5, h3.2, h6⟩)], rfl⟩
        all_goals
          refine WKX @sz_s ?_; try with_reducible exact trivial
          exact dret0 ⟨by rw [decide_eq_false (fun k => by unfold RightV at k; omega)], rfl⟩
      · rw [decide_eq_false h4]
        refine WKX @sz_s ?_; try with_reducible exact trivial
        exact dret0 ⟨by rw [decide_eq_false (fun k => by unfold RightV at k; omega)], rfl⟩
    · rw [decide_eq_false h3]
      refine WKX @sz_s ?_; try with_reducible exact trivial
      refine dgc_d' (boolD true) ?_
      refine WKX @sz_s ?_; try with_reducible exact trivial
      exact dret0 ⟨by rw [decide_eq_false (fun k => by unfold RightV at k; omega)], rfl⟩
  · rcases Decidable.em (0 ≤ v.slot) with h2 | h2
    all_goals
      simp only [m_slot_Right]; refine WKX @sz_s ?_; try with_reducible exact trivial
      refine dgc_d' (boolD true) ?_
      refine WKX @sz_s ?_; try with_reducible exact trivial
      refine dgc_d' (boolD true) ?_
      refine WKX @sz_s ?_; try with_reducible exact trivial
      exact dret0 ⟨by rw [decide_eq_false (fun k => by unfold RightV at k; omega)], rfl⟩
def promiseB (b : Nat) : Bs := numB 1 ++ numB b
theorem spromise_d (b : Int) : DFun Try.prog f_slot_Promise [iD b] (if 1 ≤ b ∧ b ≤ 2147483647 then .tup [bytesD (promiseB b.toNat), iD 0] else .tup [bytesD [], iD 1]) := by
  intro nx
  refine xcalls c_slot_Promise (by simp only [m_slot_Promise, List.length]; decide) ?_
  simp only [m_slot_Promise]; refine WK ?_; try with_reducible exact trivial
  refine dfun (ballot_d b) fun n1 g1 => ?_
  rcases Decidable.em (1 ≤ b ∧ b ≤ 2147483647) with h | h
  · rw [decide_eq_true h, if_pos h]
    obtain ⟨n, rfl⟩ := Int.eq_ofNat_of_zero_le (show 0 ≤ b by omega)
    refine WK ?_; try with_reducible exact trivial
    refine dfun (num_d 1 (by omega)) fun n2 g2 => ?_
    refine WK ?_; try with_reducible exact trivial
    refine dfun (num_d n (by omega)) fun n3 g3 => ?_
    refine WK ?_; try with_reducible exact trivial
    refine dcall_frz n3 (t' := .mk _) (rget_here _ _ _) (by simp [D.plain]) List.not_mem_nil ?_
    rw [rset_here]
    simp only [List.map_cons, List.map_nil, dres, rget_here]
    refine dfun (concat_d [numB 1, numB n] (by simp) (by simp [numB_length])) fun n4 g4 => ?_
    refine WK ?_; try with_reducible exact trivial
    exact dret0 ⟨by simp only [List.flatten_cons, List.flatten_nil, List.append_nil, promiseB, Int.toNat_natCast], rfl⟩
  · rw [decide_eq_false h, if_neg h]
    refine WK ?_; try with_reducible exact trivial
    refine dret_nilv (t' := .mk _) ?_
    exact dret0 ⟨rfl, rfl⟩
def voteB (v : VoteS) : Bs := numB 2 ++ (numB v.slot.toNat ++ (numB v.ballot.toNat ++ (numB v.origin.toNat ++ (numB (if v.full then 1 else 0) ++ textB v.bytes))))
set_option maxRecDepth 100000 in
theorem sput_d (v : VoteS) : DFun Try.prog f_slot_Put [.agg (voteC v)] (if RightV v then .tup [bytesD (voteB v), iD 0] else .tup [bytesD [], iD 1]) := by
  intro nx
  refine xcalls c_slot_Put (by simp only [m_slot_Put, List.length]; decide) ?_
  simp only [voteC]
  simp only [m_slot_Put]; refine WK ?_; try with_reducible exact trivial
  refine dfun (sright_d v) fun n1 g1 => ?_
  rcases Decidable.em (RightV v) with h | h
  · rw [decide_eq_true h, if_pos h]
    obtain ⟨h1, h2, h3, h4, h5, h6⟩ := h
    obtain ⟨slot, ballot, origin, full, bytes⟩ := v
    dsimp only at h1 h2 h3 h4 h5 h6
    obtain ⟨s, rfl⟩ := Int.eq_ofNat_of_zero_le h1
    obtain ⟨b, rfl⟩ := Int.eq_ofNat_of_zero_le (show 0 ≤ ballot by omega)
    obtain ⟨o, rfl⟩ := Int.eq_ofNat_of_zero_le (show 0 ≤ origin by omega)
    refine WK ?_; try with_reducible exact trivial
    refine dfun (num_d 2 (by omega)) fun n2 g2 => ?_
    refine WK ?_; try with_reducible exact trivial
    refine dfun (num_d s (by omega)) fun n3 g3 => ?_
    refine WK ?_; try with_reducible exact trivial
    refine dfun (num_d b (by omega)) fun n4 g4 => ?_
    refine WK ?_; try with_reducible exact trivial
    refine dfun (num_d o (by omega)) fun n5 g5 => ?_
    refine WK ?_; try with_reducible exact trivial
    refine dfun (full_d full) fun n6 g6 => ?_
    refine WK ?_; try with_reducible exact trivial
    refine dfun (num_d (if full then 1 else 0) (by split <;> omega)) fun n7 g7 => ?_
    refine WK ?_; try with_reducible exact trivial
    refine dfun (text_d bytes (by omega)) fun n8 g8 => ?_
    refine WK ?_; try with_reducible exact trivial
    refine dcall_frz n8 (t' := .mk _) (rget_here _ _ _) (by simp [D.plain]) (by simp only [List.mem_cons, List.not_mem_nil, or_false, not_false_eq_true]; try omega) ?_
    rw [rset_here]
    simp only [List.map_cons, List.map_nil, dres, rget_here]
    refine dfun (concat_d [numB 2, numB s, numB b, numB o, numB (if full then 1 else 0), textB bytes] (by simp) (by simp only [List.flatten_cons, List.flatten_nil, List.append_nil, List.length_append, numB_length, textB_length]; omega)) fun n9 g9 => ?_
    refine WK ?_; try with_reducible exact trivial
    exact dret0 ⟨by simp only [List.flatten_cons, List.flatten_nil, List.append_nil, voteB, Int.toNat_natCast], rfl⟩
  · rw [decide_eq_false h, if_neg h]
    refine WK ?_; try with_reducible exact trivial
    refine dret_nilv (t' := .mk _) ?_
    exact dret0 ⟨rfl, rfl⟩
end Go.Proofs.Ytgpkbldlkadnjaa
end
section
/- Contracts over data: records read. -/
set_option linter.unusedVariables false
set_option linter.unusedSimpArgs false
set_option maxHeartbeats 3000000
attribute [local irreducible] Go.Sl.Chk Go.Sl.Br Go.Sl.Or2 Go.Sl.Ld Go.Sl.Ldn Go.Sl.LdB Go.Sl.Stn Go.Sl.New Go.Sl.Run Go.Sl.RunU Go.Sl.RunX Go.Sl.Call Go.Sl.LoopK Go.Sl.RawK Go.Sl.Alt Go.Sl.Om Go.Sl.xpk Go.Sl.xgpk Go.Sl.xglk Go.Sl.DLd Go.Sl.DLdG Go.Sl.DBs Go.Sl.DCall Go.Sl.DApp Go.Sl.DGen Go.Sl.DGenU Go.Sl.DGC Go.Sl.DLoop Go.Sl.DRaw Go.Sl.DRet Go.Sl.Ent Go.Sl.dget Go.Sl.dv Go.Sl.ev Go.Sl.eget
namespace Go.Proofs.Ytgpkbldlkadnjaa
open Go Go.Sl Go.RowKit
def kindN (b : Bs) : Nat := if b.length < 4 then 0 else numAt b
theorem kindN_lt (b : Bs) : kindN b < 4294967296 := by
  unfold kindN
  split
  · omega
  · exact numAt_lt b
theorem cutnum_k (b : Bs) (hl : b.length ≤ 1000000000) : DFun Try.prog f_wire_CutNum [bytesD b] (.tup [iD (kindN b), bytesD (b.drop 4), boolD (decide (4 ≤ b.length))]) := by
  have h := cutnum_d b hl
  rcases Nat.lt_or_ge b.length 4 with k | k
  · rw [if_pos k] at h
    rw [kindN, if_pos k, List.drop_of_length_le (by omega), decide_eq_false (by omega)]
    exact h
  · rw [if_neg (by omega)] at h
    rw [kindN, if_neg (by omega), decide_eq_true k]
    exact h
def nAt (b : Bs) (j : Nat) : Nat := kindN (b.drop (4 * j))
def textOf (b : Bs) : Bs := match cutText b with | some p => p.1 | none => []
def cutV (b : Bs) : VoteS := ⟨nAt b 0, nAt b 1, nAt b 2, decide (nAt b 3 = 1), textOf (b.drop 16)⟩
def nTo (b : Bs) (k j : Nat) : Nat := if j < k then nAt b j else 0
theorem nTo_skip (b : Bs) (k j : Nat) (h : b.length < 4 * k + 4) : nTo b (k + 1) j = nTo b k j := by
  unfold nTo
  rcases Nat.lt_trichotomy j k with e | e | e
  · rw [if_pos (by omega), if_pos e]
  · subst e
    rw [if_pos (by omega), if_neg (by omega), nAt, kindN, if_pos (by rw [List.length_drop]; omega)]
  · rw [if_neg (by omega), if_neg (by omega)]
theorem cuttext_k (b : Bs) (hl : b.length ≤ 1000000000) : ∃ r o, DFun Try.prog f_wire_CutText [bytesD b] (.tup [strD (textOf b), bytesD r, boolD o]) := by
  have h := cuttext_d b hl
  unfold textOf
  cases hc : cutText b with
  | none => rw [hc] at h; exact ⟨[], false, h⟩
  | some p => rw [hc] at h; exact ⟨p.2, true, h⟩
set_option maxRecDepth 100000 in
theorem scut_d (b : Bs) (hl : b.length ≤ 1000000) : DFun Try.prog f_slot_cut [bytesD b] (.agg (voteC (cutV b))) := by
  intro nx
  refine xcalls c_slot_cut (by simp only [m_slot_cut, List.length]; decide) ?_
  simp only [m_slot_cut]; refine WK ?_; try with_reducible exact trivial
  refine dloop [0, 2, 3, 4, 9] (fun s : Nat × Nat => ([(0, bytesD (b.drop (4 * s.1))), (2, .hp nx 0), (3, .hp (nx + 1) 0), (4, boolD (decide (4 * s.1 ≤ b.length))), (9, iD (s.1 : Nat))], [(nx + 1, .box 353 [iD (nTo b s.1 0 : Nat), iD (nTo b s.1 1 : Nat), iD (nTo b s.1 2 : Nat), iD (nTo b s.1 3 : Nat)]), (nx, .box t_api_Vote [iD 0, iD 0, iD 0, boolD false, strD []])], s.2)) (fun s => s.1 ≤ 4 ∧ nx + 2 ≤ s.2) (fun s => 4 - s.1) (0, nx + 2) ⟨by omega, by dsimp only; omega⟩ ?_ ?_
  · have e : decide (4 * 0 ≤ b.length) = true := decide_eq_true (by omega)
    dsimp only
    rw [e]
    exact (Ent.of (by with_unfolding_all rfl) rfl)
  rintro ⟨k, n⟩ ⟨q1, q2⟩
  dsimp only at q1 q2 ⊢
  refine WK ?_; try with_reducible exact trivial
  refine brd (fun hlt => ?_) (fun hge => ?_)
  · have hk4 : k < 4 := by omega
    have hnn : ∀ j, nAt b j < 4294967296 := fun j => kindN_lt _
    rcases Nat.lt_or_ge b.length (4 * k) with h4 | h4
    · rw [decide_eq_false (by omega)]
      refine WK ?_; try with_reducible exact trivial
      refine ⟨(k + 1, n), ⟨by dsimp only; omega, q2⟩, by dsimp only; omega, ?_⟩
      dsimp only
      rw [nTo_skip b k 0 (by omega), nTo_skip b k 1 (by omega), nTo_skip b k 2 (by omega), nTo_skip b k 3 (by omega), show b.drop (4 * (k + 1)) = b.drop (4 * k) by rw [List.drop_of_length_le (by omega), List.drop_of_length_le (by omega)], decide_eq_false (show ¬ 4 * (k + 1) ≤ b.length by omega)]
      exact (Ent.of (by with_unfolding_all rfl) rfl)
    · rw [decide_eq_true h4]
      refine WK ?_; try with_reducible exact trivial
      have hcn : DFun Try.prog f_wire_CutNum [bytesD (b.drop (4 * k))] (.tup [iD (nAt b k), bytesD (b.drop (4 * (k + 1))), boolD (decide (4 * (k + 1) ≤ b.length))]) := by
        have h := cutnum_k (b.drop (4 * k)) (by rw [List.length_drop]; omega)
        rw [List.drop_drop, show 4 * k + 4 = 4 * (k + 1) by omega, show decide (4 ≤ (b.drop (4 * k)).length) = decide (4 * (k + 1) ≤ b.length) from decide_eq_decide.2 (by rw [List.length_drop]; omega)] at h
        exact h
      refine dfun hcn fun n1 h1 => ?_
      rcases (by omega : k = 0 ∨ k = 1 ∨ k = 2 ∨ k = 3) with rfl | rfl | rfl | rfl
      · refine WK ?_; try with_reducible exact trivial
        exact ⟨(1, n1), ⟨by dsimp only; omega, by dsimp only; omega⟩, by dsimp only; omega, (Ent.of (by with_unfolding_all rfl) rfl)⟩
      · refine WK ?_; try with_reducible exact trivial
        exact ⟨(2, n1), ⟨by dsimp only; omega, by dsimp only; omega⟩, by dsimp only; omega, (Ent.of (by with_unfolding_all rfl) rfl)⟩
      · refine WK ?_; try with_reducible exact trivial
        exact ⟨(3, n1), ⟨by dsimp only; omega, by dsimp only; omega⟩, by dsimp only; omega, (Ent.of (by with_unfolding_all rfl) rfl)⟩
      · refine WK ?_; try with_reducible exact trivial
        exact ⟨(4, n1), ⟨by dsimp only; omega, by dsimp only; omega⟩, by dsimp only; omega, (Ent.of (by with_unfolding_all rfl) rfl)⟩
  · have hk : k = 4 := by omega
    subst hk
    refine WK ?_; try with_reducible exact trivial
    obtain ⟨r, o, ht⟩ := cuttext_k (b.drop 16) (by rw [List.length_drop]; omega)
    refine dfun ht fun n1 h1 => ?_
    refine WK ?_; try with_reducible exact trivial
    refine dret0 ⟨?_, rfl⟩
    rw [show decide ((nTo b 4 3 : Int) = 1) = decide (nAt b 3 = 1) from decide_eq_decide.2 (by show ((nAt b 3 : Nat) : Int) = 1 ↔ _; omega)]
    rfl
def zeroV : VoteS := ⟨0, 0, 0, false, []⟩
/-- a record: a promise's ballot, or a vote -/
inductive RecS where
  | bad
  | promise (b : Nat)
  | vote (v : VoteS)
def getV (rec : Bs) : RecS :=
  if kindN rec = 1 then if (1 ≤ kindN (rec.drop 4) ∧ kindN (rec.drop 4) ≤ 2147483647) ∧ promiseB (kindN (rec.drop 4)) = rec then .promise (kindN (rec.drop 4)) else .bad
  else if kindN rec = 2 then if RightV (cutV (rec.drop 4)) ∧ voteB (cutV (rec.drop 4)) = rec then .vote (cutV (rec.drop 4)) else .bad
  else .bad
def getD' : RecS → D
  | .bad => .tup [iD 0, .agg (voteC zeroV), iD 2]
  | .promise b => .tup [iD b, .agg (voteC zeroV), iD 0]
  | .vote v => .tup [iD 0, .agg (voteC v), iD 0]
set_option maxRecDepth 100000 in
theorem sget_d (rec : Bs) (hl : rec.length ≤ 1000000) : DFun Try.prog f_slot_Get [bytesD rec] (getD' (getV rec)) := by
  intro nx
  refine xcalls c_slot_Get (by simp only [m_slot_Get, List.length]; decide) ?_
  simp only [m_slot_Get]; refine WK ?_; try with_reducible exact trivial
  refine dfun (cutnum_k rec (by omega)) fun n1 h1 => ?_
  have hk := kindN_lt rec
  have hk2 := kindN_lt (rec.drop 4)
  have hdl : (rec.drop 4).length ≤ 1000000 := by rw [List.length_drop]; omega
  rcases (by omega : kindN rec = 1 ∨ kindN rec = 2 ∨ (kindN rec ≠ 1 ∧ kindN rec ≠ 2)) with e | e | ⟨e, e'⟩
  · rw [e]
    refine WK ?_; try with_reducible exact trivial
    refine dfun (cutnum_k (rec.drop 4) (by omega)) fun n2 h2 => ?_
    refine WK ?_; try with_reducible exact trivial
    refine dfun (spromise_d (kindN (rec.drop 4))) fun n3 h3 => ?_
    rcases Decidable.em (1 ≤ kindN (rec.drop 4) ∧ kindN (rec.drop 4) ≤ 2147483647) with h | h
    · rw [if_pos (by omega), Int.toNat_natCast]
      refine WK ?_; try with_reducible exact trivial
      refine dfun (equal_d (promiseB (kindN (rec.drop 4))) rec (by simp [promiseB, numB_length])) fun n4 h4 => ?_
      rcases Decidable.em (promiseB (kindN (rec.drop 4)) = rec) with g | g
      · rw [decide_eq_true g, getV, if_pos e, if_pos ⟨h, g⟩]
        refine WK ?_; try with_reducible exact trivial
        exact dret0 ⟨rfl, rfl⟩
      · rw [decide_eq_false g, getV, if_pos e, if_neg (fun k => g k.2)]
        refine WK ?_; try with_reducible exact trivial
        exact dret0 ⟨rfl, rfl⟩
    · rw [if_neg (by omega), getV, if_pos e, if_neg (fun k => h k.1)]
      refine WK ?_; try with_reducible exact trivial
      refine dgc_d' (boolD true) ?_
      refine WK ?_; try with_reducible exact trivial
      exact dret0 ⟨rfl, rfl⟩
  · rw [e]
    refine WK ?_; try with_reducible exact trivial
    refine dfun (scut_d (rec.drop 4) hdl) fun n2 h2 => ?_
    simp -dsimp (disch := omega) only [↓MC.xwp, ↓xopsWp, ↓xdr, ↓MOp.xwp, dvs, dv, dvu, dvo, dvp, dgb, dGd, dBool, cond_true, cond_false, asFn, dget, dput, dput?, dead?, dres, ptr, bsc, cv, uo, uof, unopt, xpr, xdevr, xev0, cutK, cutN, xldk, xldn, xbsk, xst, xgp, glc, vExt, vFldA, vFld, vFad, vIxs, vIxa, vIxvA, vIxv, vSls, vLen, vPick, vNilc, vIsnil, dev0, devr, dsl, dif, dcells, dover, dbuild, scs, rowOf, strideOf, dtk, dtake, done1, pev, pbin, pint, pbool, pstr, psl, vnil, ↓thenD, ↓blockD, ↓retX, ↓xres, xcell, tupD, argD, dkeep, ckLive, kp, xdone, xheld, dstD, isLdM, ldOp, ldIds, ldSlots, selfOk, nb, dst1, inDone, allDone, apart, slotsApart, heldAll, heldOk, Op.operands, Nat.reduceAdd, forall_eq_or_imp, D.plain, reduceCtorEq, if_true, if_false, ↓reduceIte, ne_eq, Bool.cond_true, Bool.cond_false, forall_const, implies_true, forall_eq, Int.reduceEq, Int.reduceLT, Int.reduceLE, Int.reduceAdd, Int.reduceSub, Int.reduceMul, Int.reduceToNat, Nat.reduceMul, Nat.reduceLeDiff, Nat.reduceLT, Nat.reduceSub, Nat.reduceBEq, Nat.reduceEqDiff, matD, bytesD, iD, intsD, boolD, strD, bD, DB, voteC]
    refine dfun (sput_d (cutV (rec.drop 4))) fun n3 h3 => ?_
    rcases Decidable.em (RightV (cutV (rec.drop 4))) with h | h
    · rw [if_pos h]
      refine WK ?_; try with_reducible exact trivial
      refine dfun (equal_d (voteB (cutV (rec.drop 4))) rec (by have := h.2.2.2.2.2; simp [voteB, numB_length, textB_length]; omega)) fun n4 h4 => ?_
      rcases Decidable.em (voteB (cutV (rec.drop 4)) = rec) with g | g
      · rw [decide_eq_true g, getV, if_neg (by omega), if_pos e, if_pos ⟨h, g⟩]
        refine WK ?_; try with_reducible exact trivial
        exact dret0 ⟨rfl, rfl⟩
      · rw [decide_eq_false g, getV, if_neg (by omega), if_pos e, if_neg (fun k => g k.2)]
        refine WK ?_; try with_reducible exact trivial
        exact dret0 ⟨rfl, rfl⟩
    · rw [if_neg h, getV, if_neg (by omega), if_pos e, if_neg (fun k => h k.1)]
      refine WK ?_; try with_reducible exact trivial
      refine dgc_d' (boolD true) ?_
      refine WK ?_; try with_reducible exact trivial
      exact dret0 ⟨rfl, rfl⟩
  · rw [getV, if_neg e, if_neg e']
    refine WK ?_; try with_reducible exact trivial
    exact dret0 ⟨rfl, rfl⟩
end Go.Proofs.Ytgpkbldlkadnjaa
end
section
/- Contracts over data: what a log says. -/
set_option linter.unusedVariables false
set_option linter.unusedSimpArgs false
set_option maxHeartbeats 3000000
attribute [local irreducible] Go.Sl.Chk Go.Sl.Br Go.Sl.Or2 Go.Sl.Ld Go.Sl.Ldn Go.Sl.LdB Go.Sl.Stn Go.Sl.New Go.Sl.Run Go.Sl.RunU Go.Sl.RunX Go.Sl.Call Go.Sl.LoopK Go.Sl.RawK Go.Sl.Alt Go.Sl.Om Go.Sl.xpk Go.Sl.xgpk Go.Sl.xglk Go.Sl.DLd Go.Sl.DLdG Go.Sl.DBs Go.Sl.DCall Go.Sl.DApp Go.Sl.DGen Go.Sl.DGenU Go.Sl.DGC Go.Sl.DLoop Go.Sl.DRaw Go.Sl.DRet Go.Sl.Ent Go.Sl.dget Go.Sl.dv Go.Sl.ev Go.Sl.eget
namespace Go.Proofs.Ytgpkbldlkadnjaa
open Go Go.Sl Go.RowKit
instance : Inhabited VoteS := ⟨zeroV⟩
def keysV (vs : List VoteS) : List Value := vs.map fun v => .int .i64 v.slot
def saysO (p : Nat) (vs : List VoteS) : D := .box t_log_says [iD p, .mp (keysV vs) (vs.map fun v => .agg (voteC v))]
def slotF (vs : List VoteS) (s : Int) : Option Nat := vs.findIdx? fun v => decide (v.slot = s)
theorem slotF_some {vs : List VoteS} {s : Int} {j : Nat} (h : slotF vs s = some j) : ∃ v, vs[j]? = some v ∧ v.slot = s := by
  unfold slotF at h
  rw [List.findIdx?_eq_some_iff_getElem] at h
  obtain ⟨hj, h1, _⟩ := h
  exact ⟨vs[j], List.getElem?_eq_getElem hj, by simpa using h1⟩
theorem slotF_none {vs : List VoteS} {s : Int} (h : slotF vs s = none) : Value.int .i64 s ∉ keysV vs := by
  unfold slotF at h
  rw [List.findIdx?_eq_none_iff] at h
  intro hm
  obtain ⟨f, hf, he⟩ := List.mem_map.1 hm
  have h1 := h f hf
  simp only [decide_eq_false_iff_not] at h1
  simp only [Value.int.injEq, true_and] at he
  exact h1 he
def putS (vs : List VoteS) (v : VoteS) : List VoteS := match slotF vs v.slot with
  | none => vs ++ [v]
  | some j => if (gt vs j).ballot ≤ v.ballot then vs.set j v else vs
def takeS (p : Nat) (vs : List VoteS) : RecS → Nat × List VoteS
  | .bad => (p, vs)
  | .promise b => (max p b, vs)
  | .vote v => (max p v.ballot.toNat, putS vs v)
def okR : RecS → Bool
  | .bad => false
  | _ => true
theorem kd3 : Go.Maps.Keyed Try.prog 3 := Go.Maps.int_keyed Try.underlying3
theorem key_int {n : Int} (h : -9223372036854775808 ≤ n ∧ n ≤ 9223372036854775807) : keyOf Try.prog 3 (.int .i64 n) = some (.int .i64 n) := by
  unfold keyOf
  rw [show Try.prog.underlying 3 = some (TypeDesc.int .i64) from Try.underlying3]
  simp [mapKey, Try.underlying3, Lit.wf]
  exact ⟨h.1, h.2⟩
def Right1 (vs : List VoteS) : Prop := ∀ v ∈ vs, RightV v
theorem right_keys {vs : List VoteS} (h : Right1 vs) : ∀ x ∈ keysV vs, ∃ l, keyOf Try.prog 3 x = some l := fun x hx => by
  obtain ⟨f, hf, rfl⟩ := List.mem_map.1 hx
  exact ⟨_, key_int (by have := h f hf; unfold RightV at this; omega)⟩
theorem zeroVote (w : World) : (zeroValue 95).run Try.prog w = .ok (.agg #[.int .i64 0, .int .i64 0, .int .i64 0, .bool false, .string ByteArray.empty]) w := by kernel_rfl
theorem says_back {m i p : Nat} {vs : List VoteS} (h3 : m ≠ i) : RT [(m, .mp (keysV vs) (vs.map fun v => .agg (voteC v))), (i, .box t_log_says [iD p, .h m])] [(i, saysO p vs)] := by
  have f2 := RT.fold (r := [(m, .mp (keysV vs) (vs.map fun v => .agg (voteC v))), (i, .box t_log_says [iD p, .h m])]) m i 1 (d := .mp (keysV vs) (vs.map fun v => .agg (voteC v))) (c := .box t_log_says [iD p, .h m]) (l := [iD p, .h m]) (by refine WK ?_; try with_reducible exact trivial) h3 (by refine WK ?_; try with_reducible exact trivial) rfl rfl
  simp -dsimp (disch := omega) only [↓MC.xwp, ↓xopsWp, ↓xdr, ↓MOp.xwp, dvs, dv, dvu, dvo, dvp, dgb, dGd, dBool, cond_true, cond_false, asFn, dget, dput, dput?, dead?, dres, ptr, bsc, cv, uo, uof, unopt, xpr, xdevr, xev0, cutK, cutN, xldk, xldn, xbsk, xst, xgp, glc, vExt, vFldA, vFld, vFad, vIxs, vIxa, vIxvA, vIxv, vSls, vLen, vPick, vNilc, vIsnil, dev0, devr, dsl, dif, dcells, dover, dbuild, scs, rowOf, strideOf, dtk, dtake, done1, pev, pbin, pint, pbool, pstr, psl, vnil, ↓thenD, ↓blockD, ↓retX, ↓xres, xcell, tupD, argD, dkeep, ckLive, kp, xdone, xheld, dstD, isLdM, ldOp, ldIds, ldSlots, selfOk, nb, dst1, inDone, allDone, apart, slotsApart, heldAll, heldOk, Op.operands, Nat.reduceAdd, forall_eq_or_imp, D.plain, reduceCtorEq, if_true, if_false, ↓reduceIte, ne_eq, Bool.cond_true, Bool.cond_false, forall_const, implies_true, forall_eq, Int.reduceEq, Int.reduceLT, Int.reduceLE, Int.reduceAdd, Int.reduceSub, Int.reduceMul, Int.reduceToNat, Nat.reduceMul, Nat.reduceLeDiff, Nat.reduceLT, Nat.reduceSub, Nat.reduceBEq, Nat.reduceEqDiff, matD, bytesD, iD, intsD, boolD, strD, bD, DB, withKids, List.set_cons_zero] at f2
  exact f2
theorem getV_right {rec : Bs} {v : VoteS} (h : getV rec = .vote v) : RightV v := by
  unfold getV at h
  repeat' split at h
  all_goals first | (cases h; done) | skip
  rename_i hr
  cases h
  exact hr.1
set_option maxRecDepth 100000 in
theorem take_a (p : Nat) (vs : List VoteS) (rec : Bs) (hr : Right1 vs) (hp : p ≤ 2147483647) (hl : rec.length ≤ 1000000) : DAct Try.prog f_log_says_take (fun i => [.hp i 0, bytesD rec]) (saysO p vs) (boolD (okR (getV rec))) (saysO (takeS p vs (getV rec)).1 (takeS p vs (getV rec)).2) := by
  intro i nx hi
  refine xcalls c_log_says_take (by simp only [m_log_says_take, List.length]; decide) ?_
  rw [show [(i, saysO p vs)] = [(i, .box t_log_says [iD p, .mp (keysV vs) (vs.map fun v => .agg (voteC v))])] from rfl]
  simp only [m_log_says_take]; refine WK ?_; try with_reducible exact trivial
  refine dfun (sget_d rec hl) fun n1 h1 => ?_
  cases hg : getV rec with
  | bad =>
    simp only [getD', voteC, zeroV]
    refine WK ?_; try with_reducible exact trivial
    refine dret_only [i] (t := .mk _) ?_
    refine WKR ?_; try with_reducible exact trivial
    exact dret ⟨rfl, rfl⟩
  | promise b =>
    have hb : 1 ≤ b ∧ b ≤ 2147483647 := by
      unfold getV at hg
      repeat' split at hg
      all_goals first | (cases hg; done) | skip
      rename_i hr
      cases hg
      exact hr.1
    simp only [getD', voteC, zeroV]
    refine WK ?_; try with_reducible exact trivial
    rw [show max (max (p : Int) (b : Int)) 0 = ((max p b : Nat) : Int) by omega]
    refine dret_only [i] (t := .mk _) ?_
    refine WKR ?_; try with_reducible exact trivial
    exact dret ⟨rfl, rfl⟩
  | vote v =>
    have hv := getV_right hg
    have hvr := hv
    obtain ⟨v1, v2, v3, v4, v5, v6⟩ := hv
    have hmx : max (max (p : Int) 0) v.ballot = ((max p v.ballot.toNat : Nat) : Int) := by omega
    simp only [getD', voteC]
    refine WK ?_; try with_reducible exact trivial
    cases hsf : slotF vs v.slot with
    | none =>
      refine dlook_no (i := n1 + 1) (ks := keysV vs) (l := vs.map fun v => .agg (voteC v)) (key := .int .i64 v.slot) (by refine WK ?_; try with_reducible exact trivial) (by refine WK ?_; try with_reducible exact trivial) (rget_here _ _ _) kd3 Try.underlying217 zeroVote (key_int (by omega)) (right_keys hr) (slotF_none hsf) ?_
      refine WK ?_; try with_reducible exact trivial
      refine dmapput_no (i := n1 + 1) (ks := keysV vs) (l := vs.map fun v => .agg (voteC v)) (key := .int .i64 v.slot) (d := .agg (voteC v)) (by refine WK ?_; try with_reducible exact trivial) (by refine WK ?_; try with_reducible exact trivial) (by simp -dsimp (disch := omega) only [↓MC.xwp, ↓xopsWp, ↓xdr, ↓MOp.xwp, dvs, dv, dvu, dvo, dvp, dgb, dGd, dBool, cond_true, cond_false, asFn, dget, dput, dput?, dead?, dres, ptr, bsc, cv, uo, uof, unopt, xpr, xdevr, xev0, cutK, cutN, xldk, xldn, xbsk, xst, xgp, glc, vExt, vFldA, vFld, vFad, vIxs, vIxa, vIxvA, vIxv, vSls, vLen, vPick, vNilc, vIsnil, dev0, devr, dsl, dif, dcells, dover, dbuild, scs, rowOf, strideOf, dtk, dtake, done1, pev, pbin, pint, pbool, pstr, psl, vnil, ↓thenD, ↓blockD, ↓retX, ↓xres, xcell, tupD, argD, dkeep, ckLive, kp, xdone, xheld, dstD, isLdM, ldOp, ldIds, ldSlots, selfOk, nb, dst1, inDone, allDone, apart, slotsApart, heldAll, heldOk, Op.operands, Nat.reduceAdd, forall_eq_or_imp, D.plain, reduceCtorEq, if_true, if_false, ↓reduceIte, ne_eq, Bool.cond_true, Bool.cond_false, forall_const, implies_true, forall_eq, Int.reduceEq, Int.reduceLT, Int.reduceLE, Int.reduceAdd, Int.reduceSub, Int.reduceMul, Int.reduceToNat, Nat.reduceMul, Nat.reduceLeDiff, Nat.reduceLT, Nat.reduceSub, Nat.reduceBEq, Nat.reduceEqDiff, matD, bytesD, iD, intsD, boolD, strD, bD, DB, voteC]) (rget_here _ _ _) kd3 Try.underlying217 (key_int (by omega)) (right_keys hr) (slotF_none hsf) (by simp only [D.plain]) (by simp) ?_
      rw [rset_here]
      refine WK ?_; try with_reducible exact trivial
      rw [hmx, show keysV vs ++ [Value.int .i64 v.slot] = keysV (vs ++ [v]) by unfold keysV; rw [List.map_append]; rfl, show vs.map (fun v => D.agg (voteC v)) ++ [D.agg (voteC v)] = (vs ++ [v]).map (fun v => D.agg (voteC v)) by rw [List.map_append]; rfl]
      refine dret_only [n1 + 1, i] (t := .mk _) ?_
      refine WKR ?_; try with_reducible exact trivial
      refine dret_rt (t' := .mk _) (says_back (by omega)) ?_
      refine dret ⟨rfl, ?_⟩
      simp only [takeS, putS, hsf]
    | some j =>
      obtain ⟨u, hj, hu⟩ := slotF_some hsf
      refine dlook_at (i := n1 + 1) (j := j) (ks := keysV vs) (l := vs.map fun v => .agg (voteC v)) (key := .int .i64 v.slot) (d := .agg (voteC u)) (by refine WK ?_; try with_reducible exact trivial) (by refine WK ?_; try with_reducible exact trivial) (rget_here _ _ _) kd3 Try.underlying217 (key_int (by omega)) (right_keys hr) (by unfold keysV; rw [List.getElem?_map, hj, ← hu]; rfl) (by rw [List.getElem?_map, hj]; rfl) (by simp only [D.plain]) ?_
      have hjl := (List.getElem?_eq_some_iff.1 hj).1
      have hgj : gt vs j = u := by rw [gt_eq hjl]; rw [List.getElem?_eq_getElem hjl] at hj; simpa using hj
      have hks : keysV (vs.set j v) = keysV vs := by
        unfold keysV
        rw [List.map_set]
        exact set_same (by rw [List.getElem?_map, hj, ← hu]; rfl)
      simp -dsimp (disch := omega) only [↓MC.xwp, ↓xopsWp, ↓xdr, ↓MOp.xwp, dvs, dv, dvu, dvo, dvp, dgb, dGd, dBool, cond_true, cond_false, asFn, dget, dput, dput?, dead?, dres, ptr, bsc, cv, uo, uof, unopt, xpr, xdevr, xev0, cutK, cutN, xldk, xldn, xbsk, xst, xgp, glc, vExt, vFldA, vFld, vFad, vIxs, vIxa, vIxvA, vIxv, vSls, vLen, vPick, vNilc, vIsnil, dev0, devr, dsl, dif, dcells, dover, dbuild, scs, rowOf, strideOf, dtk, dtake, done1, pev, pbin, pint, pbool, pstr, psl, vnil, ↓thenD, ↓blockD, ↓retX, ↓xres, xcell, tupD, argD, dkeep, ckLive, kp, xdone, xheld, dstD, isLdM, ldOp, ldIds, ldSlots, selfOk, nb, dst1, inDone, allDone, apart, slotsApart, heldAll, heldOk, Op.operands, Nat.reduceAdd, forall_eq_or_imp, D.plain, reduceCtorEq, if_true, if_false, ↓reduceIte, ne_eq, Bool.cond_true, Bool.cond_false, forall_const, implies_true, forall_eq, Int.reduceEq, Int.reduceLT, Int.reduceLE, Int.reduceAdd, Int.reduceSub, Int.reduceMul, Int.reduceToNat, Nat.reduceMul, Nat.reduceLeDiff, Nat.reduceLT, Nat.reduceSub, Nat.reduceBEq, Nat.reduceEqDiff, matD, bytesD, iD, intsD, boolD, strD, bD, DB, voteC]
      refine brd (fun hle => ?_) (fun hle => ?_)
      · simp -dsimp (disch := omega) only [↓MC.xwp, ↓xopsWp, ↓xdr, ↓MOp.xwp, dvs, dv, dvu, dvo, dvp, dgb, dGd, dBool, cond_true, cond_false, asFn, dget, dput, dput?, dead?, dres, ptr, bsc, cv, uo, uof, unopt, xpr, xdevr, xev0, cutK, cutN, xldk, xldn, xbsk, xst, xgp, glc, vExt, vFldA, vFld, vFad, vIxs, vIxa, vIxvA, vIxv, vSls, vLen, vPick, vNilc, vIsnil, dev0, devr, dsl, dif, dcells, dover, dbuild, scs, rowOf, strideOf, dtk, dtake, done1, pev, pbin, pint, pbool, pstr, psl, vnil, ↓thenD, ↓blockD, ↓retX, ↓xres, xcell, tupD, argD, dkeep, ckLive, kp, xdone, xheld, dstD, isLdM, ldOp, ldIds, ldSlots, selfOk, nb, dst1, inDone, allDone, apart, slotsApart, heldAll, heldOk, Op.operands, Nat.reduceAdd, forall_eq_or_imp, D.plain, reduceCtorEq, if_true, if_false, ↓reduceIte, ne_eq, Bool.cond_true, Bool.cond_false, forall_const, implies_true, forall_eq, Int.reduceEq, Int.reduceLT, Int.reduceLE, Int.reduceAdd, Int.reduceSub, Int.reduceMul, Int.reduceToNat, Nat.reduceMul, Nat.reduceLeDiff, Nat.reduceLT, Nat.reduceSub, Nat.reduceBEq, Nat.reduceEqDiff, matD, bytesD, iD, intsD, boolD, strD, bD, DB, voteC]
        refine dmapput_at (i := n1 + 1) (j := j) (ks := keysV vs) (l := vs.map fun v => .agg (voteC v)) (key := .int .i64 v.slot) (d := .agg (voteC v)) (d0 := .agg (voteC u)) (by refine WK ?_; try with_reducible exact trivial) (by refine WK ?_; try with_reducible exact trivial) (by simp -dsimp (disch := omega) only [↓MC.xwp, ↓xopsWp, ↓xdr, ↓MOp.xwp, dvs, dv, dvu, dvo, dvp, dgb, dGd, dBool, cond_true, cond_false, asFn, dget, dput, dput?, dead?, dres, ptr, bsc, cv, uo, uof, unopt, xpr, xdevr, xev0, cutK, cutN, xldk, xldn, xbsk, xst, xgp, glc, vExt, vFldA, vFld, vFad, vIxs, vIxa, vIxvA, vIxv, vSls, vLen, vPick, vNilc, vIsnil, dev0, devr, dsl, dif, dcells, dover, dbuild, scs, rowOf, strideOf, dtk, dtake, done1, pev, pbin, pint, pbool, pstr, psl, vnil, ↓thenD, ↓blockD, ↓retX, ↓xres, xcell, tupD, argD, dkeep, ckLive, kp, xdone, xheld, dstD, isLdM, ldOp, ldIds, ldSlots, selfOk, nb, dst1, inDone, allDone, apart, slotsApart, heldAll, heldOk, Op.operands, Nat.reduceAdd, forall_eq_or_imp, D.plain, reduceCtorEq, if_true, if_false, ↓reduceIte, ne_eq, Bool.cond_true, Bool.cond_false, forall_const, implies_true, forall_eq, Int.reduceEq, Int.reduceLT, Int.reduceLE, Int.reduceAdd, Int.reduceSub, Int.reduceMul, Int.reduceToNat, Nat.reduceMul, Nat.reduceLeDiff, Nat.reduceLT, Nat.reduceSub, Nat.reduceBEq, Nat.reduceEqDiff, matD, bytesD, iD, intsD, boolD, strD, bD, DB, voteC]) (by (repeat rw [rget_there (by omega)]); exact rget_here _ _ _) kd3 Try.underlying217 (key_int (by omega)) (right_keys hr) (by unfold keysV; rw [List.getElem?_map, hj, ← hu]; rfl) (by rw [List.getElem?_map, hj]; rfl) (by simp only [D.plain]) (by simp) ?_
        rw [rset_here]
        refine WK ?_; try with_reducible exact trivial
        rw [hmx, ← hks, show (vs.map (fun v => D.agg (voteC v))).set j (D.agg (voteC v)) = (vs.set j v).map (fun v => D.agg (voteC v)) by rw [List.map_set]]
        refine dret_only [n1 + 1, i] (t := .mk _) ?_
        refine WKR ?_; try with_reducible exact trivial
        refine dret_rt (t' := .mk _) (says_back (by omega)) ?_
        refine dret ⟨rfl, ?_⟩
        simp only [takeS, putS, hsf, hgj, hle, if_true]
      · refine WK ?_; try with_reducible exact trivial
        rw [hmx]
        refine dret_only [n1 + 1, i] (t := .mk _) ?_
        refine WKR ?_; try with_reducible exact trivial
        refine dret_rt (t' := .mk _) (says_back (by omega)) ?_
        refine dret ⟨rfl, ?_⟩
        simp only [takeS, putS, hsf, hgj, hle, if_false]
end Go.Proofs.Ytgpkbldlkadnjaa
end
section
/- Contracts over data: what a log says: sorted, scan. -/
set_option linter.unusedVariables false
set_option linter.unusedSimpArgs false
set_option maxHeartbeats 3000000
attribute [local irreducible] Go.Sl.Chk Go.Sl.Br Go.Sl.Or2 Go.Sl.Ld Go.Sl.Ldn Go.Sl.LdB Go.Sl.Stn Go.Sl.New Go.Sl.Run Go.Sl.RunU Go.Sl.RunX Go.Sl.Call Go.Sl.LoopK Go.Sl.RawK Go.Sl.Alt Go.Sl.Om Go.Sl.xpk Go.Sl.xgpk Go.Sl.xglk Go.Sl.DLd Go.Sl.DLdG Go.Sl.DBs Go.Sl.DCall Go.Sl.DApp Go.Sl.DGen Go.Sl.DGenU Go.Sl.DGC Go.Sl.DLoop Go.Sl.DRaw Go.Sl.DRet Go.Sl.Ent Go.Sl.dget Go.Sl.dv Go.Sl.ev Go.Sl.eget
namespace Go.Proofs.Ytgpkbldlkadnjaa
open Go Go.Sl Go.RowKit
def votesC (l : List VoteS) : List D := l.flatMap voteC
abbrev votesD (l : List VoteS) : D := .sl l.length (votesC l)
def votesO (l : List VoteS) : D := .row t_api_Vote 5 l.length (votesC l)
theorem voteC_len (v : VoteS) : (voteC v).length = 5 := rfl
theorem votesC_plain (l : List VoteS) : ∀ x ∈ votesC l, x.plain := fun x hx => by
  obtain ⟨f, _, hf⟩ := List.mem_flatMap.1 hx
  simp only [voteC, List.mem_cons, List.not_mem_nil, or_false] at hf
  rcases hf with rfl | rfl | rfl | rfl | rfl <;> exact trivial
theorem votesC_done (l : List VoteS) : ∀ x ∈ votesC l, done1 x := fun x hx => by
  obtain ⟨f, _, hf⟩ := List.mem_flatMap.1 hx
  simp only [voteC, List.mem_cons, List.not_mem_nil, or_false] at hf
  rcases hf with rfl | rfl | rfl | rfl | rfl <;> first | exact rfl | exact trivial
theorem elV : El Try.prog 96 95 5 48 (.agg #[.int .i64 0, .int .i64 0, .int .i64 0, .bool false, .string ByteArray.empty]) := El.of (by kernel_rfl) (by kernel_rfl) rfl (by decide)
theorem dapp_vote {i nx : Nat} {held : List Nat} {r : Roots} {K : D → Roots → Nat → Prop} {tg : TagF K} (a : List VoteS) (f : VoteS) (j : Nat) (hg : rget r i = some (.row t_api_Vote 5 a.length (votesC a))) (hj : rget r j = some (.row t_api_Vote 5 1 (voteC f))) (hl : a.length ≤ 2000000) (hh : i ∉ held)
    (k : K (.h nx) ((nx, .row t_api_Vote 5 (a ++ [f]).length (votesC (a ++ [f]))) :: rdel r i) (nx + 1)) : DApp Try.prog #[tVotes, tVotes] tVotes (.h i) (.h j) held r nx K tg :=
  dapp (i := i) (m := 1) (l' := voteC f) elV (l := votesC a) (n := a.length) hg (DSrc.row hj (fun x hx => votesC_plain [f] x (by simpa [votesC] using hx))) rfl (fun x hx => votesC_done [f] x (by simpa [votesC] using hx)) (by omega) (by omega) hh (by
    have e1 : (a ++ [f]).length = a.length + 1 := by simp
    have e2 : votesC (a ++ [f]) = votesC a ++ voteC f := by unfold votesC; rw [List.flatMap_append]; simp
    rw [← e1, ← e2]; exact k)
def atS (vs : List VoteS) (s : Int) : VoteS := match slotF vs s with | some j => gt vs j | none => zeroV
def slotsS (vs : List VoteS) : List Int := (vs.map fun v => v.slot).mergeSort fun x y => decide (x ≤ y)
def sortS (vs : List VoteS) : List VoteS := (slotsS vs).map (atS vs)
theorem slotsS_len (vs : List VoteS) : (slotsS vs).length = vs.length := by unfold slotsS; rw [List.length_mergeSort, List.length_map]
theorem slotF_mem {vs : List VoteS} {s : Int} (h : s ∈ vs.map fun v => v.slot) : ∃ j u, slotF vs s = some j ∧ vs[j]? = some u ∧ u.slot = s ∧ atS vs s = u := by
  cases hf : slotF vs s with
  | none =>
    exfalso
    refine slotF_none hf ?_
    obtain ⟨v, hv, rfl⟩ := List.mem_map.1 h
    exact List.mem_map.2 ⟨v, hv, rfl⟩
  | some j =>
    obtain ⟨u, hj, hu⟩ := slotF_some hf
    have hjl := (List.getElem?_eq_some_iff.1 hj).1
    refine ⟨j, u, rfl, hj, hu, ?_⟩
    simp only [atS, hf]
    rw [gt_eq hjl]
    rw [List.getElem?_eq_getElem hjl] at hj
    simpa using hj
/-- maps.Keys of votes -/
theorem keysV_d (m : Nat) : DNew Try.prog f_maps_Keys_3 [.h m] (fun i => .fn f_maps_Keys_3_1 [] [.hp i 0]) (.box 217 [.h m]) := by
  intro nx
  refine xcalls c_maps_Keys_3 (by simp only [m_maps_Keys_3, List.length]; decide) ?_
  simp -dsimp (disch := omega) only [↓MC.xwp, ↓xopsWp, ↓xdr, ↓MOp.xwp, dvs, dv, dvu, dvo, dvp, dgb, dGd, dBool, cond_true, cond_false, asFn, dget, dput, dput?, dead?, dres, ptr, bsc, cv, uo, uof, unopt, xpr, xdevr, xev0, cutK, cutN, xldk, xldn, xbsk, xst, xgp, glc, vExt, vFldA, vFld, vFad, vIxs, vIxa, vIxvA, vIxv, vSls, vLen, vPick, vNilc, vIsnil, dev0, devr, dsl, dif, dcells, dover, dbuild, scs, rowOf, strideOf, dtk, dtake, done1, pev, pbin, pint, pbool, pstr, psl, vnil, ↓thenD, ↓blockD, ↓retX, ↓xres, xcell, tupD, argD, dkeep, ckLive, kp, xdone, xheld, dstD, isLdM, ldOp, ldIds, ldSlots, selfOk, nb, dst1, inDone, allDone, apart, slotsApart, heldAll, heldOk, Op.operands, Nat.reduceAdd, forall_eq_or_imp, D.plain, reduceCtorEq, if_true, if_false, ↓reduceIte, ne_eq, Bool.cond_true, Bool.cond_false, forall_const, implies_true, forall_eq, Int.reduceEq, Int.reduceLT, Int.reduceLE, Int.reduceAdd, Int.reduceSub, Int.reduceMul, Int.reduceToNat, Nat.reduceMul, Nat.reduceLeDiff, Nat.reduceLT, Nat.reduceSub, Nat.reduceBEq, Nat.reduceEqDiff, matD, bytesD, iD, intsD, boolD, strD, bD, DB, m_maps_Keys_3, rget]
  exact dret ⟨nx, by omega, by omega, rfl, rfl⟩
set_option maxRecDepth 100000 in
theorem sorted_a (p : Nat) (vs : List VoteS) (hr : Right1 vs) (hl : vs.length ≤ 1000000) : DActN Try.prog f_log_says_sorted (fun i => [.hp i 0]) (saysO p vs) (fun k => .h k) (votesO (sortS vs)) (saysO p vs) := by
  intro i nx hi
  refine xcalls c_log_says_sorted (by simp only [m_log_says_sorted, List.length]; decide) ?_
  rw [show [(i, saysO p vs)] = [(i, .box t_log_says [iD p, .mp (keysV vs) (vs.map fun v => .agg (voteC v))])] from rfl]
  simp only [m_log_says_sorted]; refine WK ?_; try with_reducible exact trivial
  refine dnew (keysV_d nx) fun c n1 h1 h2 => ?_
  refine WK ?_; try with_reducible exact trivial
  refine dsortedZ sorted_V (c := c) (m := nx) (ns := vs.map fun v => v.slot) (rget_here _ _ _) (by rw [rget_there (by omega), rget_here, List.map_map]; rfl) (by rw [List.length_map]; exact hl) (fun x hx => ?_) ?_
  · obtain ⟨f, hf, rfl⟩ := List.mem_map.1 hx
    exact key_int (by have := hr f hf; unfold RightV at this; omega)
  · rw [List.length_map]
    have hks : ((vs.map fun v => v.slot).mergeSort fun x y => decide (x ≤ y)) = slotsS vs := rfl
    rw [hks]
    refine WK ?_; try with_reducible exact trivial
    refine dloop [0, 3, 11, 12, 13] (fun s : Nat × Nat × Nat => ([(0, .hp i 0), (3, .h s.2.1), (11, .h n1), (12, iD (vs.length : Nat)), (13, iD (s.1 : Nat))], [(s.2.1, .row t_api_Vote 5 ((sortS vs).take s.1).length (votesC ((sortS vs).take s.1))), (n1, .row 3 1 vs.length ((slotsS vs).map fun s => .sc (encZ s))), (nx, .mp (keysV vs) (vs.map fun v => .agg (voteC v))), (i, .box t_log_says [iD p, .h nx])], s.2.2)) (fun s => s.1 ≤ vs.length ∧ n1 < s.2.1 ∧ s.2.1 < s.2.2) (fun s => vs.length - s.1) (0, n1 + 1, n1 + 2) ⟨by omega, by dsimp only; omega, by dsimp only; omega⟩ ((Ent.nil 3 t_api_Vote 5 (by with_unfolding_all rfl) rfl).trans ((Ent.only [n1 + 1, n1, nx, i] _ _ _).trans (by simp -dsimp (disch := omega) only [rpick, rget_here, rget_there, rdel_here, rdel_there]; exact (Ent.of (by with_unfolding_all rfl) rfl)))) ?_
    rintro ⟨x, q, n⟩ ⟨q1, q2, q3⟩
    dsimp only at q1 q2 q3 ⊢
    refine WK ?_; try with_reducible exact trivial
    refine brd (fun hlt => ?_) (fun hge => ?_)
    · have hxl : x < (slotsS vs).length := by rw [slotsS_len]; omega
      have hm : gt (slotsS vs) x ∈ vs.map fun v => v.slot := by rw [gt_eq hxl]; exact (List.mergeSort_perm _ _).mem_iff.1 (List.getElem_mem _)
      obtain ⟨j, u, hsf, hj, hu, hat⟩ := slotF_mem hm
      have htk : (sortS vs).take (x + 1) = (sortS vs).take x ++ [u] := by
        have hxs : x < (sortS vs).length := by unfold sortS; rw [List.length_map]; exact hxl
        rw [take_gt hxs, show gt (sortS vs) x = u by show gt ((slotsS vs).map (atS vs)) x = u; rw [gt_eq (by rw [List.length_map]; exact hxl), List.getElem_map, ← gt_eq hxl, hat]]
      have hrv := hr u (List.mem_of_getElem? hj)
      unfold RightV at hrv
      refine WK ?_; try with_reducible exact trivial
      generalize gt (slotsS vs) x = key at *
      refine dlook_at (i := nx) (j := j) (ks := keysV vs) (l := vs.map fun v => .agg (voteC v)) (key := encZ key) (d := .agg (voteC u)) (by refine WK ?_; try with_reducible exact trivial) (by refine WK ?_; try with_reducible exact trivial) (by (repeat rw [rget_there (by omega)]); exact rget_here _ _ _) kd3 Try.underlying217 (key_int (by omega)) (right_keys hr) (by unfold keysV; rw [List.getElem?_map, hj, ← hu]; rfl) (by rw [List.getElem?_map, hj]; rfl) (by simp only [D.plain]) ?_
      simp -dsimp (disch := omega) only [↓MC.xwp, ↓xopsWp, ↓xdr, ↓MOp.xwp, dvs, dv, dvu, dvo, dvp, dgb, dGd, dBool, cond_true, cond_false, asFn, dget, dput, dput?, dead?, dres, ptr, bsc, cv, uo, uof, unopt, xpr, xdevr, xev0, cutK, cutN, xldk, xldn, xbsk, xst, xgp, glc, vExt, vFldA, vFld, vFad, vIxs, vIxa, vIxvA, vIxv, vSls, vLen, vPick, vNilc, vIsnil, dev0, devr, dsl, dif, dcells, dover, dbuild, scs, rowOf, strideOf, dtk, dtake, done1, pev, pbin, pint, pbool, pstr, psl, vnil, ↓thenD, ↓blockD, ↓retX, ↓xres, xcell, tupD, argD, dkeep, ckLive, kp, xdone, xheld, dstD, isLdM, ldOp, ldIds, ldSlots, selfOk, nb, dst1, inDone, allDone, apart, slotsApart, heldAll, heldOk, Op.operands, Nat.reduceAdd, forall_eq_or_imp, D.plain, reduceCtorEq, if_true, if_false, ↓reduceIte, ne_eq, Bool.cond_true, Bool.cond_false, forall_const, implies_true, forall_eq, Int.reduceEq, Int.reduceLT, Int.reduceLE, Int.reduceAdd, Int.reduceSub, Int.reduceMul, Int.reduceToNat, Nat.reduceMul, Nat.reduceLeDiff, Nat.reduceLT, Nat.reduceSub, Nat.reduceBEq, Nat.reduceEqDiff, matD, bytesD, iD, intsD, boolD, strD, bD, DB, voteC]
      refine dapp_vote ((sortS vs).take x) u n (i := q) (by (repeat rw [rget_there (by omega)]); exact rget_here _ _ _) (by (repeat rw [rget_there (by omega)]); exact rget_here _ _ _) (by rw [List.length_take]; omega) (by simp only [List.mem_cons, List.not_mem_nil, or_false, not_false_eq_true]; try omega) ?_
      rw [← htk]
      refine WK ?_; try with_reducible exact trivial
      refine ⟨(x + 1, n + 1, n + 2), ⟨by dsimp only; omega, by dsimp only; omega, by dsimp only; omega⟩, by dsimp only; omega, (Ent.only [n + 1, n1, nx, i] _ _ _).trans (by simp -dsimp (disch := omega) only [rpick, rget_here, rget_there, rdel_here, rdel_there]; exact (Ent.of (by with_unfolding_all rfl) rfl))⟩
    · refine WK ?_; try with_reducible exact trivial
      rw [List.take_of_length_le (by unfold sortS; rw [List.length_map, slotsS_len]; omega)]
      refine dret_only [q, nx, i] (t := .mk _) ?_
      refine WKR ?_; try with_reducible exact trivial
      exact dret_rt (t' := .mk _) (RT.cons _ (says_back (by omega))) (dret ⟨q, by omega, by omega, rfl, rfl⟩)
/-- what records say, up to the first that is none; how many bytes their frames have -/
def foldS : LL → Nat → List VoteS → Nat → Nat × List VoteS × Nat
  | [], p, vs, n => (p, vs, n)
  | r :: rs, p, vs, n => if okR (getV r) = true then foldS rs (takeS p vs (getV r)).1 (takeS p vs (getV r)).2 (n + (r.length + 12)) else (p, vs, n)
def sayB (b : Bs) : Nat × List VoteS × Nat := foldS (scanF b).1 0 [] 0
theorem scanN_small : ∀ (k : Nat) (b : Bs), ∀ r ∈ (scanN k b).1, r.length ≤ 65535
  | 0, b, r, h => by simp [scanN] at h
  | k + 1, b, r, h => by
    simp only [scanN] at h
    cases hc : cutF b with
    | none => rw [hc] at h; simp at h
    | some p =>
      rw [hc] at h
      rcases List.mem_cons.1 h with rfl | h
      · exact (cutF_len hc).2
      · exact scanN_small k p.2 r h
theorem scanN_sum : ∀ (k : Nat) (b : Bs), ((scanN k b).1.map fun r => r.length + 12).sum + (scanN k b).2.length = b.length
  | 0, b => by simp [scanN]
  | k + 1, b => by
    simp only [scanN]
    cases hc : cutF b with
    | none => simp
    | some p =>
      have h1 := (cutF_len hc).1
      have h2 := scanN_sum k p.2
      simp only [List.map_cons, List.sum_cons]
      omega
theorem takeS_right {p : Nat} {vs : List VoteS} {rec : Bs} (hr : Right1 vs) : Right1 (takeS p vs (getV rec)).2 := by
  cases hg : getV rec with
  | bad => exact hr
  | promise b => exact hr
  | vote v =>
    have hv := getV_right hg
    simp only [takeS, putS]
    split
    · intro u hu
      rcases List.mem_append.1 hu with h | h
      · exact hr u h
      · simp only [List.mem_singleton] at h; rw [h]; exact hv
    · split
      · intro u hu
        rcases List.mem_or_eq_of_mem_set hu with h | rfl
        · exact hr u h
        · exact hv
      · exact hr
theorem takeS_le {p : Nat} {vs : List VoteS} {rec : Bs} (hp : p ≤ 2147483647) : (takeS p vs (getV rec)).1 ≤ 2147483647 := by
  cases hg : getV rec with
  | bad => exact hp
  | promise b =>
    have hb : 1 ≤ b ∧ b ≤ 2147483647 := by
      unfold getV at hg
      repeat' split at hg
      all_goals first | (cases hg; done) | skip
      rename_i hr
      cases hg
      exact hr.1
    simp only [takeS]
    omega
  | vote v =>
    have hv := getV_right hg
    unfold RightV at hv
    simp only [takeS]
    omega
set_option maxRecDepth 100000 in
theorem scan_o (b : Bs) (hl : b.length ≤ 1000000) : DNew Try.prog f_log_scan [bytesD b] (fun i => .tup [.hp i 0, iD ((sayB b).2.2 : Nat)]) (saysO (sayB b).1 (sayB b).2.1) := by
  intro nx
  refine xcalls c_log_scan (by simp only [m_log_scan, List.length]; decide) ?_
  simp only [m_log_scan]; refine WK ?_; try with_reducible exact trivial
  refine dmakemap ?_
  refine WK ?_; try with_reducible exact trivial
  refine dfun (fscan_d b hl) fun n1 h1 => ?_
  have hsm := scanN_small b.length b
  have hsu := scanN_sum b.length b
  rw [show (scanN b.length b) = scanF b from rfl] at hsm hsu
  have hsb : foldS (scanF b).1 0 [] 0 = sayB b := rfl
  generalize scanF b = F at *
  obtain ⟨R, t⟩ := F
  dsimp only at hsm hsu hsb ⊢
  have hRl : R.length ≤ (R.map fun r => r.length + 12).sum := by
    clear hsm hsu hsb
    induction R with
    | nil => simp
    | cons y R ih => simp only [List.length_cons, List.map_cons, List.sum_cons]; omega
  refine WK ?_; try with_reducible exact trivial
  refine dloop [4, 7, 18, 19, 20] (fun s : Nat × Nat × List VoteS × Nat × Nat => ([(4, .hp (nx + 1) 0), (7, iD (s.2.2.2.1 : Nat)), (18, matD R), (19, iD (R.length : Nat)), (20, iD (s.1 : Nat))], [(nx + 1, saysO s.2.1 s.2.2.1)], s.2.2.2.2)) (fun s => s.1 ≤ R.length ∧ foldS (R.drop s.1) s.2.1 s.2.2.1 s.2.2.2.1 = sayB b ∧ Right1 s.2.2.1 ∧ s.2.1 ≤ 2147483647 ∧ s.2.2.2.1 + ((R.drop s.1).map fun r => r.length + 12).sum ≤ 1000000 ∧ nx + 1 < s.2.2.2.2) (fun s => R.length - s.1) (0, 0, [], 0, n1) ⟨by omega, hsb, fun v hv => by simp at hv, by dsimp only; omega, by dsimp only; rw [List.drop_zero]; omega, by dsimp only; omega⟩ ((Ent.only [nx, nx + 1] _ _ _).trans (by simp -dsimp (disch := omega) only [rpick, rget_here, rget_there, rdel_here, rdel_there]; exact (Ent.of_rt (says_back (vs := []) (p := 0) (by omega))).trans (Ent.of (by with_unfolding_all rfl) rfl))) ?_
  rintro ⟨x, p, vs, k, n⟩ ⟨q1, q2, q3, q4, q5, q6⟩
  dsimp only at q1 q2 q3 q4 q5 q6 ⊢
  simp only [saysO]
  refine WK ?_; try with_reducible exact trivial
  refine brd (fun hlt => ?_) (fun hge => ?_)
  · have hxl : x < R.length := by omega
    have hrm : gt R x ∈ R := by rw [gt_eq hxl]; exact List.getElem_mem _
    rw [List.drop_eq_getElem_cons hxl, ← gt_eq hxl] at q2 q5
    simp only [List.map_cons, List.sum_cons] at q5
    have hrs := hsm _ hrm
    refine WK ?_; try with_reducible exact trivial
    generalize gt R x = r at *
    have hT := take_a p vs r q3 q4 (by omega)
    have hT2 := takeS_right (p := p) (rec := r) q3
    have hT1 := takeS_le (vs := vs) (rec := r) q4
    refine dact (nx + 1) hT (by omega) (rget_here _ _ _) List.not_mem_nil fun n2 h2 => ?_
    rw [rdel_here]
    simp only [saysO]
    simp only [foldS] at q2
    cases hok : okR (getV r) with
    | false =>
      have hg : getV r = .bad := by
        cases hg : getV r <;> rw [hg] at hok <;> first | rfl | cases hok
      rw [if_neg (by rw [hok]; decide)] at q2
      rw [hg]
      refine WK ?_; try with_reducible exact trivial
      rw [← q2]
      exact dret ⟨nx + 1, by omega, by omega, rfl, rfl⟩
    | true =>
      rw [if_pos hok] at q2
      refine WK ?_; try with_reducible exact trivial
      refine dfun (fput_d r hrs) fun n3 h3 => ?_
      have hfl := frameB_len r
      refine WK ?_; try with_reducible exact trivial
      refine ⟨(x + 1, (takeS p vs (getV r)).1, (takeS p vs (getV r)).2, k + (r.length + 12), n3), ⟨by dsimp only; omega, q2, hT2, hT1, by dsimp only; omega, by dsimp only; omega⟩, by dsimp only; omega, ?_⟩
      dsimp only
      rw [← hfl]
      exact (Ent.of (by with_unfolding_all rfl) rfl)
  · rw [List.drop_of_length_le (by omega)] at q2
    simp only [foldS] at q2
    refine WK ?_; try with_reducible exact trivial
    rw [← q2]
    exact dret ⟨nx + 1, by omega, by omega, rfl, rfl⟩
end Go.Proofs.Ytgpkbldlkadnjaa
end
section
/- Contracts over data: the log on a disk. -/
set_option linter.unusedVariables false
set_option linter.unusedSimpArgs false
set_option maxHeartbeats 3000000
attribute [local irreducible] Go.Sl.Chk Go.Sl.Br Go.Sl.Or2 Go.Sl.Ld Go.Sl.Ldn Go.Sl.LdB Go.Sl.Stn Go.Sl.New Go.Sl.Run Go.Sl.RunU Go.Sl.RunX Go.Sl.Call Go.Sl.LoopK Go.Sl.RawK Go.Sl.Alt Go.Sl.Om Go.Sl.xpk Go.Sl.xgpk Go.Sl.xglk Go.Sl.DLd Go.Sl.DLdG Go.Sl.DBs Go.Sl.DCall Go.Sl.DApp Go.Sl.DGen Go.Sl.DGenU Go.Sl.DGC Go.Sl.DLoop Go.Sl.DRaw Go.Sl.DRet Go.Sl.Ent Go.Sl.dget Go.Sl.dv Go.Sl.ev Go.Sl.eget
namespace Go.Proofs.Ytgpkbldlkadnjaa
open Go Go.Sl Go.RowKit
def lgN : Bs := [108, 111, 103]
def logO (d s : Nat) : D := .box t_log_Log [.hp d 0, .hp s 0]
theorem app_ok {fs : List FileS} {most k : Nat} (h : DOk fs most k) (hm : most ≤ 65536) (n b : Bs) : DOk (appF fs most n b) most (k + 1) := by
  have := do_ok h hm { act := 0, name := n, other := [], b := b, at_ := 0, keep := [] }
  simpa [doF] using this
def addF (fs : List FileS) (most : Nat) (rec : Bs) : List FileS := if appE fs most lgN (frameB rec) = 0 then syncF (appF fs most lgN (frameB rec)) lgN else fs
def addS (fs : List FileS) (most : Nat) (p : Nat) (vs : List VoteS) (rec : Bs) : Nat × List VoteS := if appE fs most lgN (frameB rec) = 0 then takeS p vs (getV rec) else (p, vs)
theorem app_err {fs : List FileS} {most : Nat} {n b : Bs} (h : appE fs most n b ≠ 0) : appF fs most n b = fs := by
  unfold appE at h
  unfold appF
  split
  · rfl
  · rename_i h1
    rw [if_neg h1] at h
    split
    · rfl
    · rename_i h2
      rw [if_neg h2] at h
      exact absurd rfl h
set_option maxRecDepth 100000 in
theorem add_l {fs : List FileS} {most k p : Nat} {vs : List VoteS} {rec : Bs} (hk : DOk fs most k) (hm : most ≤ 65536) (hr : Right1 vs) (hp : p ≤ 2147483647) (hl : rec.length ≤ 65535) {x s d nx : Nat} (hx : x < nx) (hs : s < nx) (hd : d < nx) (h1 : x ≠ s) (h2 : x ≠ d) (h3 : s ≠ d) :
    DCalls Try.prog f_log_Log_add [.hp x 0, bytesD rec] [(x, logO d s), (s, saysO p vs), (d, diskO fs most)] nx (fun d' ro _ => d' = iD (appE fs most lgN (frameB rec)) ∧ ro = [(x, logO d s), (s, saysO (addS fs most p vs rec).1 (addS fs most p vs rec).2), (d, diskO (addF fs most rec) most)]) := by
  refine xcalls c_log_Log_add (by simp only [m_log_Log_add, List.length]; decide) ?_
  simp only [logO, saysO, diskO]
  simp only [m_log_Log_add]; refine WK ?_; try with_reducible exact trivial
  refine dfun (fput_d rec hl) fun n1 g1 => ?_
  have hfl := frameB_len rec
  refine WK ?_; try with_reducible exact trivial
  refine dact d (append_a fs most lgN (frameB rec) hk.small (by have := hk.used; omega) (by omega) (by decide) (by omega)) (by omega) (by (repeat rw [rget_there (by omega)]); exact rget_here _ _ _) (by simp only [List.mem_cons, List.not_mem_nil, or_false, not_false_eq_true]; try omega) fun n2 g2 => ?_
  have o1 := app_ok hk hm lgN (frameB rec)
  simp only [diskO]
  rcases Nat.eq_zero_or_pos (appE fs most lgN (frameB rec)) with e | e
  · rw [e]
    refine WK ?_; try with_reducible exact trivial
    refine dact d (sync_a (appF fs most lgN (frameB rec)) most lgN o1.small (by decide)) (by omega) (by (repeat rw [rget_there (by omega)]); exact rget_here _ _ _) (by simp only [List.mem_cons, List.not_mem_nil, or_false, not_false_eq_true]; try omega) fun n3 g3 => ?_
    simp only [diskO]
    refine WK ?_; try with_reducible exact trivial
    refine dact s (take_a p vs rec hr hp (by omega)) (by omega) (by (repeat rw [rget_there (by omega)]); exact rget_here _ _ _) (by simp only [List.mem_cons, List.not_mem_nil, or_false, not_false_eq_true]; try omega) fun n4 g4 => ?_
    simp only [saysO]
    refine WK ?_; try with_reducible exact trivial
    refine dret_only [x, s, d] (t := .mk _) ?_
    refine WKR ?_; try with_reducible exact trivial
    refine dret ⟨rfl, ?_⟩
    simp only [addS, addF, e, if_true]
  · refine WK ?_; try with_reducible exact trivial
    refine dret_only [x, s, d] (t := .mk _) ?_
    refine WKR ?_; try with_reducible exact trivial
    refine dret ⟨rfl, ?_⟩
    simp only [addS, addF, app_err (show appE fs most lgN (frameB rec) ≠ 0 by omega), show ¬ appE fs most lgN (frameB rec) = 0 by omega, if_false]
theorem promised_l {fs : List FileS} {most p : Nat} {vs : List VoteS} {x s d nx : Nat} (h1 : x ≠ s) (h2 : x ≠ d) (h3 : s ≠ d) :
    DCalls Try.prog f_log_Log_Promised [.hp x 0] [(x, logO d s), (s, saysO p vs), (d, diskO fs most)] nx (fun d' ro _ => d' = iD p ∧ ro = [(x, logO d s), (s, saysO p vs), (d, diskO fs most)]) := by
  refine xcalls c_log_Log_Promised (by simp only [m_log_Log_Promised, List.length]; decide) ?_
  simp only [logO, saysO, diskO]
  simp only [m_log_Log_Promised]; refine WK ?_; try with_reducible exact trivial
  exact dret ⟨rfl, rfl⟩
theorem votes_l {fs : List FileS} {most p : Nat} {vs : List VoteS} (hr : Right1 vs) (hl : vs.length ≤ 1000000) {x s d nx : Nat} (hx : x < nx) (hs : s < nx) (hd : d < nx) (h1 : x ≠ s) (h2 : x ≠ d) (h3 : s ≠ d) :
    DCalls Try.prog f_log_Log_Votes [.hp x 0] [(x, logO d s), (s, saysO p vs), (d, diskO fs most)] nx (fun d' ro nx' => ∃ q, nx ≤ q ∧ q < nx' ∧ d' = .h q ∧ ro = [(q, votesO (sortS vs)), (x, logO d s), (s, saysO p vs), (d, diskO fs most)]) := by
  refine xcalls c_log_Log_Votes (by simp only [m_log_Log_Votes, List.length]; decide) ?_
  simp only [logO, saysO, diskO]
  simp only [m_log_Log_Votes]; refine WK ?_; try with_reducible exact trivial
  refine dactn s (sorted_a p vs hr hl) (by omega) (by (repeat rw [rget_there (by omega)]); exact rget_here _ _ _) (by simp only [List.mem_cons, List.not_mem_nil, or_false, not_false_eq_true]; try omega) fun q n1 g1 g2 => ?_
  simp only [saysO, votesO]
  refine WK ?_; try with_reducible exact trivial
  refine dret_only [q, x, s, d] (t := .mk _) ?_
  refine WKR ?_; try with_reducible exact trivial
  exact dret ⟨q, by omega, by omega, rfl, rfl⟩
def voteE (fs : List FileS) (most p : Nat) (v : VoteS) : Nat := if RightV v ∧ (p : Int) ≤ v.ballot then appE fs most lgN (frameB (voteB v)) else 1
def voteF (fs : List FileS) (most p : Nat) (v : VoteS) : List FileS := if RightV v ∧ (p : Int) ≤ v.ballot then addF fs most (voteB v) else fs
def voteP (fs : List FileS) (most p : Nat) (vs : List VoteS) (v : VoteS) : Nat × List VoteS := if RightV v ∧ (p : Int) ≤ v.ballot then addS fs most p vs (voteB v) else (p, vs)
theorem voteB_len {v : VoteS} (h : RightV v) : (voteB v).length ≤ 1000 := by
  have := h.2.2.2.2.2
  simp only [voteB, List.length_append, numB_length, textB_length]
  omega
set_option maxRecDepth 100000 in
theorem vote_l {fs : List FileS} {most k p : Nat} {vs : List VoteS} {v : VoteS} (hk : DOk fs most k) (hm : most ≤ 65536) (hr : Right1 vs) (hp : p ≤ 2147483647) {x s d nx : Nat} (hx : x < nx) (hs : s < nx) (hd : d < nx) (h1 : x ≠ s) (h2 : x ≠ d) (h3 : s ≠ d) :
    DCalls Try.prog f_log_Log_Vote [.hp x 0, .agg (voteC v)] [(x, logO d s), (s, saysO p vs), (d, diskO fs most)] nx (fun d' ro _ => d' = iD (voteE fs most p v) ∧ ro = [(x, logO d s), (s, saysO (voteP fs most p vs v).1 (voteP fs most p vs v).2), (d, diskO (voteF fs most p v) most)]) := by
  refine xcalls c_log_Log_Vote (by simp only [m_log_Log_Vote, List.length]; decide) ?_
  rcases Decidable.em (RightV v) with hv | hv
  · rcases Decidable.em (v.ballot < (p : Int)) with hb | hb
    · simp only [voteE, voteF, voteP, show ¬ (RightV v ∧ (p : Int) ≤ v.ballot) from fun h => by omega, if_false]
      simp only [logO, saysO, diskO, voteC]
      simp only [m_log_Log_Vote]; refine WK ?_; try with_reducible exact trivial
      refine dfun (sput_d v) fun n1 g1 => ?_
      rw [if_pos hv]
      refine WK ?_; try with_reducible exact trivial
      refine dret_only [x, s, d] (t := .mk _) ?_
      refine WKR ?_; try with_reducible exact trivial
      exact dret ⟨rfl, rfl⟩
    · simp only [voteE, voteF, voteP, show (RightV v ∧ (p : Int) ≤ v.ballot) from ⟨hv, by omega⟩, if_true]
      have hvl := voteB_len hv
      simp only [logO, saysO, diskO, voteC]
      simp only [m_log_Log_Vote]; refine WK ?_; try with_reducible exact trivial
      refine dfun (sput_d v) fun n1 g1 => ?_
      rw [if_pos hv]
      refine WK ?_; try with_reducible exact trivial
      refine dcallR [x, s, d] (rin := [(x, logO d s), (s, saysO p vs), (d, diskO fs most)]) (rest := [(nx, .box t_api_Vote (voteC v))]) (by simp only [logO, saysO, diskO, voteC]; simp -dsimp (disch := omega) only [rpick, rget_here, rget_there, rdel_here, rdel_there]; try rfl) (add_l hk hm hr hp (by omega) (by omega) (by omega) (by omega) h1 h2 h3) (by simp) fun _ _ n2 g2 ⟨e1, e2⟩ => ?_
      subst e1; subst e2
      simp only [logO, saysO, diskO, voteC, List.cons_append, List.nil_append]
      refine WK ?_; try with_reducible exact trivial
      refine dret_only [x, s, d] (t := .mk _) ?_
      refine WKR ?_; try with_reducible exact trivial
      exact dret ⟨rfl, rfl⟩
  · simp only [voteE, voteF, voteP, show ¬ (RightV v ∧ (p : Int) ≤ v.ballot) from fun h => hv h.1, if_false]
    simp only [logO, saysO, diskO, voteC]
    simp only [m_log_Log_Vote]; refine WK ?_; try with_reducible exact trivial
    refine dfun (sput_d v) fun n1 g1 => ?_
    rw [if_neg hv]
    refine WK ?_; try with_reducible exact trivial
    refine dret_only [x, s, d] (t := .mk _) ?_
    refine WKR ?_; try with_reducible exact trivial
    exact dret ⟨rfl, rfl⟩
end Go.Proofs.Ytgpkbldlkadnjaa
end
section
/- Contracts over data: a log is opened. -/
set_option linter.unusedVariables false
set_option linter.unusedSimpArgs false
set_option maxHeartbeats 3000000
attribute [local irreducible] Go.Sl.Chk Go.Sl.Br Go.Sl.Or2 Go.Sl.Ld Go.Sl.Ldn Go.Sl.LdB Go.Sl.Stn Go.Sl.New Go.Sl.Run Go.Sl.RunU Go.Sl.RunX Go.Sl.Call Go.Sl.LoopK Go.Sl.RawK Go.Sl.Alt Go.Sl.Om Go.Sl.xpk Go.Sl.xgpk Go.Sl.xglk Go.Sl.DLd Go.Sl.DLdG Go.Sl.DBs Go.Sl.DCall Go.Sl.DApp Go.Sl.DGen Go.Sl.DGenU Go.Sl.DGC Go.Sl.DLoop Go.Sl.DRaw Go.Sl.DRet Go.Sl.Ent Go.Sl.dget Go.Sl.dv Go.Sl.ev Go.Sl.eget
namespace Go.Proofs.Ytgpkbldlkadnjaa
open Go Go.Sl Go.RowKit
def logB (fs : List FileS) : Bs := match findF fs lgN with | none => [] | some j => (fs.getD j default).2.1
def openF (fs : List FileS) : List FileS := match findF fs lgN with | none => fs | some _ => syncF (trimF fs lgN ((sayB (logB fs)).2.2 : Nat)) lgN
theorem trim_ok {fs : List FileS} {most k : Nat} (h : DOk fs most k) (hm : most ≤ 65536) (n : Bs) (a : Int) : DOk (trimF fs n a) most (k + 1) := by
  have := do_ok h hm { act := 6, name := n, other := [], b := [], at_ := a, keep := [] }
  simpa [doF] using this
set_option maxRecDepth 100000 in
theorem open_l {fs : List FileS} {most k : Nat} (hk : DOk fs most k) (hm : most ≤ 65536) {d nx : Nat} (hd : d < nx) :
    DCalls Try.prog f_log_Open [.hp d 0] [(d, diskO fs most)] nx (fun d' ro nx' => ∃ x s, nx ≤ x ∧ x < nx' ∧ nx ≤ s ∧ s < nx' ∧ x ≠ s ∧ d' = .hp x 0 ∧ ro = [(x, logO d s), (s, saysO (sayB (logB fs)).1 (sayB (logB fs)).2.1), (d, diskO (openF fs) most)]) := by
  refine xcalls c_log_Open (by simp only [m_log_Open, List.length]; decide) ?_
  have hu := hk.used
  simp only [diskO]
  simp only [m_log_Open]; refine WK ?_; try with_reducible exact trivial
  cases hfn : findF fs lgN with
  | none =>
    refine dact d (read_no fs most lgN hk.small (by decide) hfn) (by omega) (rget_here _ _ _) List.not_mem_nil fun n1 g1 => ?_
    simp only [diskO]
    refine WK ?_; try with_reducible exact trivial
    refine dcall_nilv (t' := .mk _) ?_
    refine dnew (scan_o [] (by simp)) fun s n2 g2 g3 => ?_
    simp only [saysO]
    refine WK ?_; try with_reducible exact trivial
    refine dret_only [n2, s, d] (t := .mk _) ?_
    refine WKR ?_; try with_reducible exact trivial
    refine dret ⟨n2, s, by omega, by omega, by omega, by omega, by omega, rfl, ?_⟩
    simp only [openF, logB, hfn]
    rfl
  | some j =>
    obtain ⟨f, hj, hfe⟩ := findF_some hfn
    have hfs := hk.small f (List.mem_of_getElem? hj)
    have hlb : logB fs = f.2.1 := by simp only [logB, hfn, getD_at hj]
    have o1 := trim_ok hk hm lgN ((sayB f.2.1).2.2 : Nat)
    refine dactn d (read_a fs most lgN hk.small (by decide) hfn hj) (by omega) (rget_here _ _ _) List.not_mem_nil fun a1 n1 g1 g2 => ?_
    simp only [diskO, bytesO]
    refine WK ?_; try with_reducible exact trivial
    refine dcall_frz a1 (t' := .mk _) (by (repeat rw [rget_there (by omega)]); exact rget_here _ _ _) bDs_plain List.not_mem_nil ?_
    refine WK ?_; try with_reducible exact trivial
    refine dnew (scan_o f.2.1 (by omega)) fun s n2 g3 g4 => ?_
    simp only [saysO]
    refine WK ?_; try with_reducible exact trivial
    refine dact d (trim_a fs most lgN ((sayB f.2.1).2.2 : Nat) hk.small (by decide)) (by omega) (by (repeat rw [rget_there (by omega)]); exact rget_here _ _ _) List.not_mem_nil fun n3 g5 => ?_
    simp only [diskO]
    refine WK ?_; try with_reducible exact trivial
    refine dact d (sync_a (trimF fs lgN ((sayB f.2.1).2.2 : Nat)) most lgN o1.small (by decide)) (by omega) (by (repeat rw [rget_there (by omega)]); exact rget_here _ _ _) List.not_mem_nil fun n4 g6 => ?_
    simp only [diskO]
    refine WK ?_; try with_reducible exact trivial
    refine dret_only [n4, s, d] (t := .mk _) ?_
    refine WKR ?_; try with_reducible exact trivial
    refine dret ⟨n4, s, by omega, by omega, by omega, by omega, by omega, rfl, ?_⟩
    simp only [openF, hlb, hfn]
    rfl
/-- a vote's record is read as the vote -/
theorem drop4_numB (n : Nat) (r : Bs) : (numB n ++ r).drop 4 = r := by
  rw [List.drop_append_of_le_length (by rw [numB_length]; omega), List.drop_of_length_le (by rw [numB_length]; omega), List.nil_append]
theorem kindN_numB {n : Nat} (h : n < 4294967296) (r : Bs) : kindN (numB n ++ r) = n := by
  rw [kindN, if_neg (by rw [List.length_append, numB_length]; omega), numAt_numB h]
theorem drop8_numB (n m : Nat) (r : Bs) : (numB n ++ (numB m ++ r)).drop 8 = r := by
  rw [show 8 = 4 + 4 from rfl, ← List.drop_drop, drop4_numB, drop4_numB]
theorem cutV_voteB {v : VoteS} (h : RightV v) : cutV ((voteB v).drop 4) = v := by
  obtain ⟨h1, h2, h3, h4, h5, h6⟩ := h
  obtain ⟨slot, ballot, origin, full, bytes⟩ := v
  dsimp only at h1 h2 h3 h4 h5 h6
  obtain ⟨s, rfl⟩ := Int.eq_ofNat_of_zero_le h1
  obtain ⟨b, rfl⟩ := Int.eq_ofNat_of_zero_le (show 0 ≤ ballot by omega)
  obtain ⟨o, rfl⟩ := Int.eq_ofNat_of_zero_le (show 0 ≤ origin by omega)
  have hf : (if full = true then 1 else 0 : Nat) < 4294967296 := by split <;> omega
  simp only [voteB, Int.toNat_natCast, drop4_numB]
  unfold cutV nAt
  have e16 : (numB s ++ (numB b ++ (numB o ++ (numB (if full = true then 1 else 0) ++ textB bytes)))).drop 16 = textB bytes := by
    rw [show 16 = 8 + 8 from rfl, ← List.drop_drop, drop8_numB, drop8_numB]
  have e12 : (numB s ++ (numB b ++ (numB o ++ (numB (if full = true then 1 else 0) ++ textB bytes)))).drop (4 * 3) = numB (if full = true then 1 else 0) ++ textB bytes := by
    rw [show 4 * 3 = 8 + 4 from rfl, ← List.drop_drop, drop8_numB, drop4_numB]
  have e8 : (numB s ++ (numB b ++ (numB o ++ (numB (if full = true then 1 else 0) ++ textB bytes)))).drop (4 * 2) = numB o ++ (numB (if full = true then 1 else 0) ++ textB bytes) := drop8_numB _ _ _
  have e4 : (numB s ++ (numB b ++ (numB o ++ (numB (if full = true then 1 else 0) ++ textB bytes)))).drop (4 * 1) = numB b ++ (numB o ++ (numB (if full = true then 1 else 0) ++ textB bytes)) := drop4_numB _ _
  have e0 : (numB s ++ (numB b ++ (numB o ++ (numB (if full = true then 1 else 0) ++ textB bytes)))).drop (4 * 0) = numB s ++ (numB b ++ (numB o ++ (numB (if full = true then 1 else 0) ++ textB bytes))) := rfl
  rw [e16, e12, e8, e4, e0, kindN_numB (by omega), kindN_numB (by omega), kindN_numB (by omega), kindN_numB hf]
  have ht : textOf (textB bytes) = bytes := by
    unfold textOf
    have := cutText_textB (v := bytes) (by omega) []
    rw [List.append_nil] at this
    rw [this]
  rw [ht]
  cases full <;> rfl
theorem getV_voteB {v : VoteS} (h : RightV v) : getV (voteB v) = .vote v := by
  have hk : kindN (voteB v) = 2 := kindN_numB (by omega) _
  rw [getV, if_neg (by omega), if_pos hk, cutV_voteB h, if_pos ⟨h, rfl⟩]
theorem getV_promiseB {b : Nat} (h : 1 ≤ b ∧ b ≤ 2147483647) : getV (promiseB b) = .promise b := by
  have hk : kindN (promiseB b) = 1 := kindN_numB (by omega) _
  have hd : (promiseB b).drop 4 = numB b := drop4_numB _ _
  have hk2 : kindN (numB b) = b := by
    have := kindN_numB (n := b) (by omega) []
    rwa [List.append_nil] at this
  rw [getV, if_pos hk, hd, hk2, if_pos ⟨h, rfl⟩]
end Go.Proofs.Ytgpkbldlkadnjaa
end
section
/- Contracts over data: promises to a log, its size; frames read back. -/
set_option linter.unusedVariables false
set_option linter.unusedSimpArgs false
set_option maxHeartbeats 3000000
attribute [local irreducible] Go.Sl.Chk Go.Sl.Br Go.Sl.Or2 Go.Sl.Ld Go.Sl.Ldn Go.Sl.LdB Go.Sl.Stn Go.Sl.New Go.Sl.Run Go.Sl.RunU Go.Sl.RunX Go.Sl.Call Go.Sl.LoopK Go.Sl.RawK Go.Sl.Alt Go.Sl.Om Go.Sl.xpk Go.Sl.xgpk Go.Sl.xglk Go.Sl.DLd Go.Sl.DLdG Go.Sl.DBs Go.Sl.DCall Go.Sl.DApp Go.Sl.DGen Go.Sl.DGenU Go.Sl.DGC Go.Sl.DLoop Go.Sl.DRaw Go.Sl.DRet Go.Sl.Ent Go.Sl.dget Go.Sl.dv Go.Sl.ev Go.Sl.eget
namespace Go.Proofs.Ytgpkbldlkadnjaa
open Go Go.Sl Go.RowKit
def promOk (p : Nat) (b : Int) : Prop := (1 ≤ b ∧ b ≤ 2147483647) ∧ (p : Int) < b
instance (p : Nat) (b : Int) : Decidable (promOk p b) := by unfold promOk; infer_instance
def promE (fs : List FileS) (most p : Nat) (b : Int) : Nat := if promOk p b then appE fs most lgN (frameB (promiseB b.toNat)) else 1
def promF (fs : List FileS) (most p : Nat) (b : Int) : List FileS := if promOk p b then addF fs most (promiseB b.toNat) else fs
def promP (fs : List FileS) (most p : Nat) (vs : List VoteS) (b : Int) : Nat × List VoteS := if promOk p b then addS fs most p vs (promiseB b.toNat) else (p, vs)
theorem promiseB_len (b : Nat) : (promiseB b).length = 8 := rfl
set_option maxRecDepth 100000 in
theorem promise_l {fs : List FileS} {most k p : Nat} {vs : List VoteS} {b : Int} (hk : DOk fs most k) (hm : most ≤ 65536) (hr : Right1 vs) (hp : p ≤ 2147483647) {x s d nx : Nat} (hx : x < nx) (hs : s < nx) (hd : d < nx) (h1 : x ≠ s) (h2 : x ≠ d) (h3 : s ≠ d) :
    DCalls Try.prog f_log_Log_Promise [.hp x 0, iD b] [(x, logO d s), (s, saysO p vs), (d, diskO fs most)] nx (fun d' ro _ => d' = iD (promE fs most p b) ∧ ro = [(x, logO d s), (s, saysO (promP fs most p vs b).1 (promP fs most p vs b).2), (d, diskO (promF fs most p b) most)]) := by
  refine xcalls c_log_Log_Promise (by simp only [m_log_Log_Promise, List.length]; decide) ?_
  rcases Decidable.em (1 ≤ b ∧ b ≤ 2147483647) with hv | hv
  · rcases Decidable.em (b ≤ (p : Int)) with hb | hb
    · simp only [promE, promF, promP, show ¬ promOk p b from fun h => by unfold promOk at h; omega, if_false]
      simp only [logO, saysO, diskO]
      simp only [m_log_Log_Promise]; refine WK ?_; try with_reducible exact trivial
      refine dfun (spromise_d b) fun n1 g1 => ?_
      rw [if_pos hv]
      refine WK ?_; try with_reducible exact trivial
      refine dret_only [x, s, d] (t := .mk _) ?_
      refine WKR ?_; try with_reducible exact trivial
      exact dret ⟨rfl, rfl⟩
    · simp only [promE, promF, promP, show promOk p b from ⟨hv, by omega⟩, if_true]
      have hvl := promiseB_len b.toNat
      simp only [logO, saysO, diskO]
      simp only [m_log_Log_Promise]; refine WK ?_; try with_reducible exact trivial
      refine dfun (spromise_d b) fun n1 g1 => ?_
      rw [if_pos hv]
      refine WK ?_; try with_reducible exact trivial
      refine dcallR [x, s, d] (rin := [(x, logO d s), (s, saysO p vs), (d, diskO fs most)]) (rest := []) (by simp only [logO, saysO, diskO]; simp -dsimp (disch := omega) only [rpick, rget_here, rget_there, rdel_here, rdel_there]; try rfl) (add_l hk hm hr hp (by omega) (by omega) (by omega) (by omega) h1 h2 h3) (by simp) fun _ _ n2 g2 ⟨e1, e2⟩ => ?_
      subst e1; subst e2
      simp only [logO, saysO, diskO, List.cons_append, List.nil_append]
      refine WK ?_; try with_reducible exact trivial
      exact dret ⟨rfl, rfl⟩
  · simp only [promE, promF, promP, show ¬ promOk p b from fun h => hv h.1, if_false]
    simp only [logO, saysO, diskO]
    simp only [m_log_Log_Promise]; refine WK ?_; try with_reducible exact trivial
    refine dfun (spromise_d b) fun n1 g1 => ?_
    rw [if_neg hv]
    refine WK ?_; try with_reducible exact trivial
    refine dret_only [x, s, d] (t := .mk _) ?_
    refine WKR ?_; try with_reducible exact trivial
    exact dret ⟨rfl, rfl⟩
/-! ### frames read back -/
end Go.Proofs.Ytgpkbldlkadnjaa
end
section
/- Contracts over data: a log made short. -/
set_option linter.unusedVariables false
set_option linter.unusedSimpArgs false
set_option maxHeartbeats 3000000
attribute [local irreducible] Go.Sl.Chk Go.Sl.Br Go.Sl.Or2 Go.Sl.Ld Go.Sl.Ldn Go.Sl.LdB Go.Sl.Stn Go.Sl.New Go.Sl.Run Go.Sl.RunU Go.Sl.RunX Go.Sl.Call Go.Sl.LoopK Go.Sl.RawK Go.Sl.Alt Go.Sl.Om Go.Sl.xpk Go.Sl.xgpk Go.Sl.xglk Go.Sl.DLd Go.Sl.DLdG Go.Sl.DBs Go.Sl.DCall Go.Sl.DApp Go.Sl.DGen Go.Sl.DGenU Go.Sl.DGC Go.Sl.DLoop Go.Sl.DRaw Go.Sl.DRet Go.Sl.Ent Go.Sl.dget Go.Sl.dv Go.Sl.ev Go.Sl.eget
namespace Go.Proofs.Ytgpkbldlkadnjaa
open Go Go.Sl Go.RowKit
def recsK (p : Nat) (V : List VoteS) (k : Nat) : LL := (if 1 ≤ p then [promiseB p] else []) ++ (V.take k).map voteB
def recsL (p : Nat) (vs : List VoteS) : LL := (if 1 ≤ p then [promiseB p] else []) ++ (sortS vs).map voteB
end Go.Proofs.Ytgpkbldlkadnjaa
end
section
/- Contracts over data: Compact. -/
set_option linter.unusedVariables false
set_option linter.unusedSimpArgs false
set_option maxHeartbeats 3000000
attribute [local irreducible] Go.Sl.Chk Go.Sl.Br Go.Sl.Or2 Go.Sl.Ld Go.Sl.Ldn Go.Sl.LdB Go.Sl.Stn Go.Sl.New Go.Sl.Run Go.Sl.RunU Go.Sl.RunX Go.Sl.Call Go.Sl.LoopK Go.Sl.RawK Go.Sl.Alt Go.Sl.Om Go.Sl.xpk Go.Sl.xgpk Go.Sl.xglk Go.Sl.DLd Go.Sl.DLdG Go.Sl.DBs Go.Sl.DCall Go.Sl.DApp Go.Sl.DGen Go.Sl.DGenU Go.Sl.DGC Go.Sl.DLoop Go.Sl.DRaw Go.Sl.DRet Go.Sl.Ent Go.Sl.dget Go.Sl.dv Go.Sl.ev Go.Sl.eget
namespace Go.Proofs.Ytgpkbldlkadnjaa
open Go Go.Sl Go.RowKit
def nwN : Bs := [110, 101, 119]
def compB (p : Nat) (vs : List VoteS) : Bs := (recsL p vs).flatMap frameB
def compF (fs : List FileS) (most p : Nat) (vs : List VoteS) : List FileS := if appE fs most nwN (compB p vs) = 0 then renF (syncF (appF fs most nwN (compB p vs)) nwN) nwN lgN else fs
def compE (fs : List FileS) (most p : Nat) (vs : List VoteS) : Nat := if appE fs most nwN (compB p vs) = 0 then renE (syncF (appF fs most nwN (compB p vs)) nwN) nwN lgN else appE fs most nwN (compB p vs)
end Go.Proofs.Ytgpkbldlkadnjaa
end
section
/- The log on a disk: a disk that holds the log alone. Plain. -/
set_option linter.unusedVariables false
set_option linter.unusedSimpArgs false
set_option maxHeartbeats 3000000
attribute [local irreducible] Go.Sl.Chk Go.Sl.Br Go.Sl.Or2 Go.Sl.Ld Go.Sl.Ldn Go.Sl.LdB Go.Sl.Stn Go.Sl.New Go.Sl.Run Go.Sl.RunU Go.Sl.RunX Go.Sl.Call Go.Sl.LoopK Go.Sl.RawK Go.Sl.Alt Go.Sl.Om Go.Sl.xpk Go.Sl.xgpk Go.Sl.xglk Go.Sl.DLd Go.Sl.DLdG Go.Sl.DBs Go.Sl.DCall Go.Sl.DApp Go.Sl.DGen Go.Sl.DGenU Go.Sl.DGC Go.Sl.DLoop Go.Sl.DRaw Go.Sl.DRet Go.Sl.Ent Go.Sl.dget Go.Sl.dv Go.Sl.ev Go.Sl.eget
namespace Go.Proofs.Ytgpkbldlkadnjaa
open Go Go.Sl Go.RowKit
/-- the log's file alone, all synced -/
def oneF (B : Bs) : List FileS := [(lgN, B, B.length)]
theorem named_lg : namedB lgN = true := by decide
theorem appE_nil {most : Nat} {b : Bs} (h : b.length ≤ most) : appE [] most lgN b = 0 := by
  unfold appE
  rw [named_lg, if_neg (by decide), if_neg (by simp [usedN]; omega)]
theorem appE_one {most : Nat} {B b : Bs} (h : B.length + b.length ≤ most) : appE (oneF B) most lgN b = 0 := by
  unfold appE
  rw [named_lg, if_neg (by decide), if_neg (by simp [usedN, oneF]; omega)]
theorem find_one (B : Bs) (k : Nat) : findF [(lgN, B, k)] lgN = some 0 := by
  unfold findF
  simp [List.findIdx?_cons]
theorem addF_nil {most : Nat} {rec : Bs} (h : rec.length + 12 ≤ most) : addF [] most rec = oneF (frameB rec) := by
  have hf := frameB_len rec
  rw [addF, if_pos (appE_nil (by omega))]
  have e : appF [] most lgN (frameB rec) = [(lgN, frameB rec, 0)] := by
    unfold appF
    rw [named_lg, if_neg (by decide), if_neg (by simp [usedN]; omega)]
    rfl
  rw [e]
  unfold syncF
  rw [find_one]
  rfl
theorem addF_one {most : Nat} {B rec : Bs} (h : B.length + rec.length + 12 ≤ most) : addF (oneF B) most rec = oneF (B ++ frameB rec) := by
  have hf := frameB_len rec
  rw [addF, if_pos (appE_one (by omega))]
  have e : appF (oneF B) most lgN (frameB rec) = [(lgN, B ++ frameB rec, B.length)] := by
    unfold appF
    rw [named_lg, if_neg (by decide), if_neg (by simp [usedN, oneF]; omega)]
    unfold oneF
    rw [find_one]
    rfl
  rw [e]
  unfold syncF
  rw [find_one]
  rfl
theorem addS_ok {fs : List FileS} {most p : Nat} {vs : List VoteS} {rec : Bs} (h : appE fs most lgN (frameB rec) = 0) : addS fs most p vs rec = takeS p vs (getV rec) := by rw [addS, if_pos h]
end Go.Proofs.Ytgpkbldlkadnjaa
end
section
/- Contracts over data: layer 18, awake. -/
set_option linter.unusedVariables false
set_option linter.unusedSimpArgs false
set_option maxHeartbeats 3000000
attribute [local irreducible] Go.Sl.Chk Go.Sl.Br Go.Sl.Or2 Go.Sl.Ld Go.Sl.Ldn Go.Sl.LdB Go.Sl.Stn Go.Sl.New Go.Sl.Run Go.Sl.RunU Go.Sl.RunX Go.Sl.Call Go.Sl.LoopK Go.Sl.RawK Go.Sl.Alt Go.Sl.Om Go.Sl.xpk Go.Sl.xgpk Go.Sl.xglk Go.Sl.DLd Go.Sl.DLdG Go.Sl.DBs Go.Sl.DCall Go.Sl.DApp Go.Sl.DGen Go.Sl.DGenU Go.Sl.DGC Go.Sl.DLoop Go.Sl.DRaw Go.Sl.DRet Go.Sl.Ent Go.Sl.dget Go.Sl.dv Go.Sl.ev Go.Sl.eget
namespace Go.Proofs.Ytgpkbldlkadnjaa
open Go Go.Sl Go.RowKit
def wakeV : VoteS := ⟨1, 9, 9, false, [120]⟩
def wakeB : Bs := frameB (promiseB 3) ++ frameB (voteB wakeV)
theorem oneF_ok {B : Bs} {most : Nat} (h : B.length ≤ most) (hm : most ≤ 65536) : DOk (oneF B) most 1 := by
  refine ⟨fun f hf => ?_, fun f hf => ?_, by simp [usedN, oneF]; omega, by simp [oneF, namesF], by simp [oneF], fun f hf => ?_⟩ <;> (simp only [oneF, List.mem_singleton] at hf; subst hf)
  · exact ⟨by show lgN.length ≤ 1000; decide, by dsimp only; omega⟩
  · exact Nat.le_refl _
  · show lgN.length ≤ 24; decide
end Go.Proofs.Ytgpkbldlkadnjaa
end
