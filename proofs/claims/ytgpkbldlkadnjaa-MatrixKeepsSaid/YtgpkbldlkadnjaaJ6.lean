/- Walks: the reference's Coding, Mul. -/
import Derived.Test.YtgpkbldlkadnjaaJ5
section
set_option linter.unusedVariables false
set_option linter.unusedSimpArgs false
set_option maxHeartbeats 3000000
attribute [local irreducible] Go.Sl.Chk Go.Sl.Br Go.Sl.Ld Go.Sl.Ldn Go.Sl.LdB Go.Sl.Stn Go.Sl.New Go.Sl.Run Go.Sl.RunU Go.Sl.RunX Go.Sl.Call Go.Sl.LoopK Go.Sl.RawK Go.Sl.Om Go.Sl.xpk Go.Sl.xgpk Go.Sl.xglk Go.Sl.DLd Go.Sl.DLdG Go.Sl.DBs Go.Sl.DCall Go.Sl.DApp Go.Sl.DGen Go.Sl.DGenU Go.Sl.DGC Go.Sl.DLoop Go.Sl.DRaw Go.Sl.DRet Go.Sl.Ent Go.Sl.dget Go.Sl.dv Go.Sl.ev Go.Sl.eget
namespace Go.Proofs.Ytgpkbldlkadnjaa
open Go Go.Sl Go.RowKit

/-- a byte is appended to a new row -/
theorem push_byte {wb w : World} {o : Value} {xs : List UInt8} {x : UInt8} (ho : NewRow wb.heap.size w o xs) (hwb : Fr No wb w) (hl : xs.length ≤ 1000000) {b2 c : Nat} {w2 : World}
    (hc2 : w2.heap[b2]? = some (.cells #[U8 x] 5 (0, 0))) (hf2 : Fr No w w2) {K : Value → World → Prop} {tg : TagF K}
    (k : ∀ r' w', NewRow wb.heap.size w' r' (xs ++ [x]) → Fr No wb w' → K r' w') :
    Run Try.prog (Builtin.append_ #[29, 29] 29 #[o, .slice (some ⟨b2, 0, none⟩) 1 c]) w2 K tg := by
  have ho2 := Ow.no ho.1 hf2
  have hsz := hwb.size
  have hsz2 := hf2.size
  refine app elB ho2 (m := 1) (src_lit hc2 c) rfl ?_ (by omega) (by omega) fun v4 w4 ho4 hf4 hat => ?_
  · intro u hu; simp at hu; subst hu; rfl
  · refine k v4 w4 ⟨?_, ?_⟩ ((hwb.then hf2).own ho.2 hf4)
    · have e : (xs ++ [x]).length = xs.length + 1 := by simp
      rw [e, List.map_append]
      exact ho4
    · exact ho.2.app (by omega) hat
theorem NewRow.nil (B : Nat) (w : World) : NewRow B w (.slice none 0 0) [] := ⟨Ow.nil w 5 1, New'.nil _⟩

def rcodeAt (k i j : Nat) : UInt8 := if k ≤ i then rinv (UInt8.ofNat (i ^^^ j)) else if i = j then 1 else 0
def rcoding (k n : Nat) : LL := (List.range n).map fun i => (List.range k).map (rcodeAt k i)

theorem rcoding_calls {w : World} (k n : Nat) (hk : k ≤ 1000) (hn : n ≤ 1000) :
    Calls Try.prog f_ref04_Coding #[.int .i64 k, .int .i64 n] w fun en w' => ∃ r, en = .returned r ∧ (NewMat w.heap.size w' r (rcoding k n) ∧ Fr No w w') := by
  refine calls_of_mf (args := [.int .i64 k, .int .i64 n]) c_ref04_Coding (by simp only [m_ref04_Coding, List.length]; decide) ?_
  simp -dsimp (disch := omega) only [↓MC.wp, ↓opsWp, ↓drWp, ↓MOp.wp, evs, ev, eget, eput, eput?, pev, pbin, pint, pbool, pstr, psl, vnil, pbuild, overlay, ↓thenQ, ↓blockQ, ↓retQ, ↓resWp, tupV, stills, MOp.still, known, Op.operands, List.toList_toArray, argEnv, ekeep, one_int, one_bool, one_str, one_ptr, one_slice, one_func, one_nilf, one_nilc, one_iface, one_map, Chk_true, Chk_of, Br_true, Br_false, Br_pos, Br_neg, Br_npos, Br_nneg, beq_t, beq_f, not_not', dec_true, dec_false, not_t, not_f, pick_t, pick_f, take1, drop1, take0, drop0, arr_app, List.append_nil, bne_tt, bne_tf, bne_ft, bne_ff, beq_tt, beq_tf, beq_ft, beq_ff, dec_pos, dec_neg, Ld_some, wrap_i64, tdiv_pos, tmod_pos, Sl.add_lit, drew_cell, Nat.reduceAdd, Nat.zero_add, Nat.add_zero, Nat.mul_one, Nat.one_mul, Int.toNat_natCast, cells_int, cells_bool, cells_str, cells_ptr, cells_slice, cells_func, cells_nilf, cells_nilc, cells_iface, cells_map, cells_agg, size_one, toList_one, List.length_cons, List.length_nil, List.cons_append, List.nil_append, reduceCtorEq, and_self, and_true, true_and, if_true, if_false, ↓reduceIte, ne_eq, not_false_eq_true, not_true_eq_false, Option.isSome_some, Option.isSome_none, decide_true, decide_false, List.getElem?_toArray, List.getElem?_cons_zero, List.getElem?_cons_succ, Bool.and_true, Bool.and_self, Int.reduceEq, Int.reduceLT, Int.reduceLE, Int.reduceAdd, Int.reduceSub, Int.reduceMul, Int.reduceToNat, Nat.reduceMul, Nat.reduceLeDiff, Nat.le_refl, Nat.reduceLT, Nat.reduceSub, m_ref04_Coding]
  refine loopS [0, 1, 5, 6] (fun s : Nat × Value => [(0, .int .i64 k), (1, .int .i64 n), (5, s.2), (6, .int .i64 s.1)])
    (fun s w1 => s.1 ≤ n ∧ NewMat w.heap.size w1 s.2 ((List.range s.1).map fun i => (List.range k).map (rcodeAt k i)) ∧ Fr No w w1) (fun s _ => n - s.1) (0, .slice none 0 0) (by with_unfolding_all rfl) ⟨Nat.zero_le _, NewMat.nil _ _, Fr.refl _ _⟩ ?_
  rintro ⟨i, o⟩ w1 ⟨hi, ho, hf⟩
  dsimp only at hi ho ⊢
  by_cases hlt : i < n
  · simp -dsimp (disch := omega) only [↓MC.wp, ↓opsWp, ↓drWp, ↓MOp.wp, evs, ev, eget, eput, eput?, pev, pbin, pint, pbool, pstr, psl, vnil, pbuild, overlay, ↓thenQ, ↓blockQ, ↓retQ, ↓resWp, tupV, stills, MOp.still, known, Op.operands, List.toList_toArray, argEnv, ekeep, one_int, one_bool, one_str, one_ptr, one_slice, one_func, one_nilf, one_nilc, one_iface, one_map, Chk_true, Chk_of, Br_true, Br_false, Br_pos, Br_neg, Br_npos, Br_nneg, beq_t, beq_f, not_not', dec_true, dec_false, not_t, not_f, pick_t, pick_f, take1, drop1, take0, drop0, arr_app, List.append_nil, bne_tt, bne_tf, bne_ft, bne_ff, beq_tt, beq_tf, beq_ft, beq_ff, dec_pos, dec_neg, Ld_some, wrap_i64, tdiv_pos, tmod_pos, Sl.add_lit, drew_cell, Nat.reduceAdd, Nat.zero_add, Nat.add_zero, Nat.mul_one, Nat.one_mul, Int.toNat_natCast, cells_int, cells_bool, cells_str, cells_ptr, cells_slice, cells_func, cells_nilf, cells_nilc, cells_iface, cells_map, cells_agg, size_one, toList_one, List.length_cons, List.length_nil, List.cons_append, List.nil_append, reduceCtorEq, and_self, and_true, true_and, if_true, if_false, ↓reduceIte, ne_eq, not_false_eq_true, not_true_eq_false, Option.isSome_some, Option.isSome_none, decide_true, decide_false, List.getElem?_toArray, List.getElem?_cons_zero, List.getElem?_cons_succ, Bool.and_true, Bool.and_self, Int.reduceEq, Int.reduceLT, Int.reduceLE, Int.reduceAdd, Int.reduceSub, Int.reduceMul, Int.reduceToNat, Nat.reduceMul, Nat.reduceLeDiff, Nat.le_refl, Nat.reduceLT, Nat.reduceSub]
    refine loopS [0, 1, 5, 6, 7, 8] (fun s : Nat × Value => [(0, .int .i64 k), (1, .int .i64 n), (5, o), (6, .int .i64 i), (7, s.2), (8, .int .i64 s.1)])
      (fun s w3 => s.1 ≤ k ∧ NewRow w1.heap.size w3 s.2 ((List.range s.1).map (rcodeAt k i)) ∧ Fr No w1 w3) (fun s _ => k - s.1) (0, .slice none 0 0) (by with_unfolding_all rfl) ⟨Nat.zero_le _, NewRow.nil _ _, Fr.refl _ _⟩ ?_
    rintro ⟨j, row⟩ w3 ⟨hj, hrow, hf3⟩
    dsimp only at hj hrow ⊢
    by_cases hjl : j < k
    · have hlen : ((List.range j).map (rcodeAt k i)).length ≤ 1000000 := by rw [List.length_map, List.length_range]; omega
      have hnext : (List.range (j + 1)).map (rcodeAt k i) = (List.range j).map (rcodeAt k i) ++ [rcodeAt k i j] := by rw [List.range_succ, List.map_append]; rfl
      by_cases hik : k ≤ i
      · by_cases hij : i = j
        · omega
        · simp -dsimp (disch := omega) only [↓MC.wp, ↓opsWp, ↓drWp, ↓MOp.wp, evs, ev, eget, eput, eput?, pev, pbin, pint, pbool, pstr, psl, vnil, pbuild, overlay, ↓thenQ, ↓blockQ, ↓retQ, ↓resWp, tupV, stills, MOp.still, known, Op.operands, List.toList_toArray, argEnv, ekeep, one_int, one_bool, one_str, one_ptr, one_slice, one_func, one_nilf, one_nilc, one_iface, one_map, Chk_true, Chk_of, Br_true, Br_false, Br_pos, Br_neg, Br_npos, Br_nneg, beq_t, beq_f, not_not', dec_true, dec_false, not_t, not_f, pick_t, pick_f, take1, drop1, take0, drop0, arr_app, List.append_nil, bne_tt, bne_tf, bne_ft, bne_ff, beq_tt, beq_tf, beq_ft, beq_ff, dec_pos, dec_neg, Ld_some, wrap_i64, tdiv_pos, tmod_pos, Sl.add_lit, drew_cell, Nat.reduceAdd, Nat.zero_add, Nat.add_zero, Nat.mul_one, Nat.one_mul, Int.toNat_natCast, cells_int, cells_bool, cells_str, cells_ptr, cells_slice, cells_func, cells_nilf, cells_nilc, cells_iface, cells_map, cells_agg, size_one, toList_one, List.length_cons, List.length_nil, List.cons_append, List.nil_append, reduceCtorEq, and_self, and_true, true_and, if_true, if_false, ↓reduceIte, ne_eq, not_false_eq_true, not_true_eq_false, Option.isSome_some, Option.isSome_none, decide_true, decide_false, List.getElem?_toArray, List.getElem?_cons_zero, List.getElem?_cons_succ, Bool.and_true, Bool.and_self, Int.reduceEq, Int.reduceLT, Int.reduceLE, Int.reduceAdd, Int.reduceSub, Int.reduceMul, Int.reduceToNat, Nat.reduceMul, Nat.reduceLeDiff, Nat.le_refl, Nat.reduceLT, Nat.reduceSub, xor_i64', conv_u8']
          refine call (rinv_calls (UInt8.ofNat (i ^^^ j))) ?_
          intro r w4 h4
          rw [h4.1]
          have hf4 := h4.2
          simp -dsimp (disch := omega) only [↓MC.wp, ↓opsWp, ↓drWp, ↓MOp.wp, evs, ev, eget, eput, eput?, pev, pbin, pint, pbool, pstr, psl, vnil, pbuild, overlay, ↓thenQ, ↓blockQ, ↓retQ, ↓resWp, tupV, stills, MOp.still, known, Op.operands, List.toList_toArray, argEnv, ekeep, one_int, one_bool, one_str, one_ptr, one_slice, one_func, one_nilf, one_nilc, one_iface, one_map, Chk_true, Chk_of, Br_true, Br_false, Br_pos, Br_neg, Br_npos, Br_nneg, beq_t, beq_f, not_not', dec_true, dec_false, not_t, not_f, pick_t, pick_f, take1, drop1, take0, drop0, arr_app, List.append_nil, bne_tt, bne_tf, bne_ft, bne_ff, beq_tt, beq_tf, beq_ft, beq_ff, dec_pos, dec_neg, Ld_some, wrap_i64, tdiv_pos, tmod_pos, Sl.add_lit, drew_cell, Nat.reduceAdd, Nat.zero_add, Nat.add_zero, Nat.mul_one, Nat.one_mul, Int.toNat_natCast, cells_int, cells_bool, cells_str, cells_ptr, cells_slice, cells_func, cells_nilf, cells_nilc, cells_iface, cells_map, cells_agg, size_one, toList_one, List.length_cons, List.length_nil, List.cons_append, List.nil_append, reduceCtorEq, and_self, and_true, true_and, if_true, if_false, ↓reduceIte, ne_eq, not_false_eq_true, not_true_eq_false, Option.isSome_some, Option.isSome_none, decide_true, decide_false, List.getElem?_toArray, List.getElem?_cons_zero, List.getElem?_cons_succ, Bool.and_true, Bool.and_self, Int.reduceEq, Int.reduceLT, Int.reduceLE, Int.reduceAdd, Int.reduceSub, Int.reduceMul, Int.reduceToNat, Nat.reduceMul, Nat.reduceLeDiff, Nat.le_refl, Nat.reduceLT, Nat.reduceSub, U8, set_one]
          refine new ?_
          intro b2 w5 hb5 hs5 hc5 hf5
          simp -dsimp (disch := omega) only [↓MC.wp, ↓opsWp, ↓drWp, ↓MOp.wp, evs, ev, eget, eput, eput?, pev, pbin, pint, pbool, pstr, psl, vnil, pbuild, overlay, ↓thenQ, ↓blockQ, ↓retQ, ↓resWp, tupV, stills, MOp.still, known, Op.operands, List.toList_toArray, argEnv, ekeep, one_int, one_bool, one_str, one_ptr, one_slice, one_func, one_nilf, one_nilc, one_iface, one_map, Chk_true, Chk_of, Br_true, Br_false, Br_pos, Br_neg, Br_npos, Br_nneg, beq_t, beq_f, not_not', dec_true, dec_false, not_t, not_f, pick_t, pick_f, take1, drop1, take0, drop0, arr_app, List.append_nil, bne_tt, bne_tf, bne_ft, bne_ff, beq_tt, beq_tf, beq_ft, beq_ff, dec_pos, dec_neg, Ld_some, wrap_i64, tdiv_pos, tmod_pos, Sl.add_lit, drew_cell, Nat.reduceAdd, Nat.zero_add, Nat.add_zero, Nat.mul_one, Nat.one_mul, Int.toNat_natCast, cells_int, cells_bool, cells_str, cells_ptr, cells_slice, cells_func, cells_nilf, cells_nilc, cells_iface, cells_map, cells_agg, size_one, toList_one, List.length_cons, List.length_nil, List.cons_append, List.nil_append, reduceCtorEq, and_self, and_true, true_and, if_true, if_false, ↓reduceIte, ne_eq, not_false_eq_true, not_true_eq_false, Option.isSome_some, Option.isSome_none, decide_true, decide_false, List.getElem?_toArray, List.getElem?_cons_zero, List.getElem?_cons_succ, Bool.and_true, Bool.and_self, Int.reduceEq, Int.reduceLT, Int.reduceLE, Int.reduceAdd, Int.reduceSub, Int.reduceMul, Int.reduceToNat, Nat.reduceMul, Nat.reduceLeDiff, Nat.le_refl, Nat.reduceLT, Nat.reduceSub]
          refine push_byte (x := rinv (UInt8.ofNat (i ^^^ j))) (hrow.no hf4) (hf3.then hf4) hlen hc5 hf5 ?_
          intro r' w6 hr6 hf6
          simp -dsimp (disch := omega) only [↓MC.wp, ↓opsWp, ↓drWp, ↓MOp.wp, evs, ev, eget, eput, eput?, pev, pbin, pint, pbool, pstr, psl, vnil, pbuild, overlay, ↓thenQ, ↓blockQ, ↓retQ, ↓resWp, tupV, stills, MOp.still, known, Op.operands, List.toList_toArray, argEnv, ekeep, one_int, one_bool, one_str, one_ptr, one_slice, one_func, one_nilf, one_nilc, one_iface, one_map, Chk_true, Chk_of, Br_true, Br_false, Br_pos, Br_neg, Br_npos, Br_nneg, beq_t, beq_f, not_not', dec_true, dec_false, not_t, not_f, pick_t, pick_f, take1, drop1, take0, drop0, arr_app, List.append_nil, bne_tt, bne_tf, bne_ft, bne_ff, beq_tt, beq_tf, beq_ft, beq_ff, dec_pos, dec_neg, Ld_some, wrap_i64, tdiv_pos, tmod_pos, Sl.add_lit, drew_cell, Nat.reduceAdd, Nat.zero_add, Nat.add_zero, Nat.mul_one, Nat.one_mul, Int.toNat_natCast, cells_int, cells_bool, cells_str, cells_ptr, cells_slice, cells_func, cells_nilf, cells_nilc, cells_iface, cells_map, cells_agg, size_one, toList_one, List.length_cons, List.length_nil, List.cons_append, List.nil_append, reduceCtorEq, and_self, and_true, true_and, if_true, if_false, ↓reduceIte, ne_eq, not_false_eq_true, not_true_eq_false, Option.isSome_some, Option.isSome_none, decide_true, decide_false, List.getElem?_toArray, List.getElem?_cons_zero, List.getElem?_cons_succ, Bool.and_true, Bool.and_self, Int.reduceEq, Int.reduceLT, Int.reduceLE, Int.reduceAdd, Int.reduceSub, Int.reduceMul, Int.reduceToNat, Nat.reduceMul, Nat.reduceLeDiff, Nat.le_refl, Nat.reduceLT, Nat.reduceSub]
          refine ⟨(j + 1, r'), rfl, ⟨by dsimp only; omega, ?_, hf6⟩, by dsimp only; omega⟩
          dsimp only
          rw [hnext, show rcodeAt k i j = rinv (UInt8.ofNat (i ^^^ j)) from by rw [rcodeAt, if_pos hik]]
          exact hr6
      · by_cases hij : i = j
        · simp -dsimp (disch := omega) only [↓MC.wp, ↓opsWp, ↓drWp, ↓MOp.wp, evs, ev, eget, eput, eput?, pev, pbin, pint, pbool, pstr, psl, vnil, pbuild, overlay, ↓thenQ, ↓blockQ, ↓retQ, ↓resWp, tupV, stills, MOp.still, known, Op.operands, List.toList_toArray, argEnv, ekeep, one_int, one_bool, one_str, one_ptr, one_slice, one_func, one_nilf, one_nilc, one_iface, one_map, Chk_true, Chk_of, Br_true, Br_false, Br_pos, Br_neg, Br_npos, Br_nneg, beq_t, beq_f, not_not', dec_true, dec_false, not_t, not_f, pick_t, pick_f, take1, drop1, take0, drop0, arr_app, List.append_nil, bne_tt, bne_tf, bne_ft, bne_ff, beq_tt, beq_tf, beq_ft, beq_ff, dec_pos, dec_neg, Ld_some, wrap_i64, tdiv_pos, tmod_pos, Sl.add_lit, drew_cell, Nat.reduceAdd, Nat.zero_add, Nat.add_zero, Nat.mul_one, Nat.one_mul, Int.toNat_natCast, cells_int, cells_bool, cells_str, cells_ptr, cells_slice, cells_func, cells_nilf, cells_nilc, cells_iface, cells_map, cells_agg, size_one, toList_one, List.length_cons, List.length_nil, List.cons_append, List.nil_append, reduceCtorEq, and_self, and_true, true_and, if_true, if_false, ↓reduceIte, ne_eq, not_false_eq_true, not_true_eq_false, Option.isSome_some, Option.isSome_none, decide_true, decide_false, List.getElem?_toArray, List.getElem?_cons_zero, List.getElem?_cons_succ, Bool.and_true, Bool.and_self, Int.reduceEq, Int.reduceLT, Int.reduceLE, Int.reduceAdd, Int.reduceSub, Int.reduceMul, Int.reduceToNat, Nat.reduceMul, Nat.reduceLeDiff, Nat.le_refl, Nat.reduceLT, Nat.reduceSub, set_one]
          refine new ?_
          intro b2 w5 hb5 hs5 hc5 hf5
          simp -dsimp (disch := omega) only [↓MC.wp, ↓opsWp, ↓drWp, ↓MOp.wp, evs, ev, eget, eput, eput?, pev, pbin, pint, pbool, pstr, psl, vnil, pbuild, overlay, ↓thenQ, ↓blockQ, ↓retQ, ↓resWp, tupV, stills, MOp.still, known, Op.operands, List.toList_toArray, argEnv, ekeep, one_int, one_bool, one_str, one_ptr, one_slice, one_func, one_nilf, one_nilc, one_iface, one_map, Chk_true, Chk_of, Br_true, Br_false, Br_pos, Br_neg, Br_npos, Br_nneg, beq_t, beq_f, not_not', dec_true, dec_false, not_t, not_f, pick_t, pick_f, take1, drop1, take0, drop0, arr_app, List.append_nil, bne_tt, bne_tf, bne_ft, bne_ff, beq_tt, beq_tf, beq_ft, beq_ff, dec_pos, dec_neg, Ld_some, wrap_i64, tdiv_pos, tmod_pos, Sl.add_lit, drew_cell, Nat.reduceAdd, Nat.zero_add, Nat.add_zero, Nat.mul_one, Nat.one_mul, Int.toNat_natCast, cells_int, cells_bool, cells_str, cells_ptr, cells_slice, cells_func, cells_nilf, cells_nilc, cells_iface, cells_map, cells_agg, size_one, toList_one, List.length_cons, List.length_nil, List.cons_append, List.nil_append, reduceCtorEq, and_self, and_true, true_and, if_true, if_false, ↓reduceIte, ne_eq, not_false_eq_true, not_true_eq_false, Option.isSome_some, Option.isSome_none, decide_true, decide_false, List.getElem?_toArray, List.getElem?_cons_zero, List.getElem?_cons_succ, Bool.and_true, Bool.and_self, Int.reduceEq, Int.reduceLT, Int.reduceLE, Int.reduceAdd, Int.reduceSub, Int.reduceMul, Int.reduceToNat, Nat.reduceMul, Nat.reduceLeDiff, Nat.le_refl, Nat.reduceLT, Nat.reduceSub]
          refine push_byte (x := 1) hrow hf3 hlen hc5 hf5 ?_
          intro r' w6 hr6 hf6
          simp -dsimp (disch := omega) only [↓MC.wp, ↓opsWp, ↓drWp, ↓MOp.wp, evs, ev, eget, eput, eput?, pev, pbin, pint, pbool, pstr, psl, vnil, pbuild, overlay, ↓thenQ, ↓blockQ, ↓retQ, ↓resWp, tupV, stills, MOp.still, known, Op.operands, List.toList_toArray, argEnv, ekeep, one_int, one_bool, one_str, one_ptr, one_slice, one_func, one_nilf, one_nilc, one_iface, one_map, Chk_true, Chk_of, Br_true, Br_false, Br_pos, Br_neg, Br_npos, Br_nneg, beq_t, beq_f, not_not', dec_true, dec_false, not_t, not_f, pick_t, pick_f, take1, drop1, take0, drop0, arr_app, List.append_nil, bne_tt, bne_tf, bne_ft, bne_ff, beq_tt, beq_tf, beq_ft, beq_ff, dec_pos, dec_neg, Ld_some, wrap_i64, tdiv_pos, tmod_pos, Sl.add_lit, drew_cell, Nat.reduceAdd, Nat.zero_add, Nat.add_zero, Nat.mul_one, Nat.one_mul, Int.toNat_natCast, cells_int, cells_bool, cells_str, cells_ptr, cells_slice, cells_func, cells_nilf, cells_nilc, cells_iface, cells_map, cells_agg, size_one, toList_one, List.length_cons, List.length_nil, List.cons_append, List.nil_append, reduceCtorEq, and_self, and_true, true_and, if_true, if_false, ↓reduceIte, ne_eq, not_false_eq_true, not_true_eq_false, Option.isSome_some, Option.isSome_none, decide_true, decide_false, List.getElem?_toArray, List.getElem?_cons_zero, List.getElem?_cons_succ, Bool.and_true, Bool.and_self, Int.reduceEq, Int.reduceLT, Int.reduceLE, Int.reduceAdd, Int.reduceSub, Int.reduceMul, Int.reduceToNat, Nat.reduceMul, Nat.reduceLeDiff, Nat.le_refl, Nat.reduceLT, Nat.reduceSub]
          refine ⟨(j + 1, r'), rfl, ⟨by dsimp only; omega, ?_, hf6⟩, by dsimp only; omega⟩
          dsimp only
          rw [hnext, show rcodeAt k i j = 1 from by rw [rcodeAt, if_neg hik, if_pos hij]]
          exact hr6
        · simp -dsimp (disch := omega) only [↓MC.wp, ↓opsWp, ↓drWp, ↓MOp.wp, evs, ev, eget, eput, eput?, pev, pbin, pint, pbool, pstr, psl, vnil, pbuild, overlay, ↓thenQ, ↓blockQ, ↓retQ, ↓resWp, tupV, stills, MOp.still, known, Op.operands, List.toList_toArray, argEnv, ekeep, one_int, one_bool, one_str, one_ptr, one_slice, one_func, one_nilf, one_nilc, one_iface, one_map, Chk_true, Chk_of, Br_true, Br_false, Br_pos, Br_neg, Br_npos, Br_nneg, beq_t, beq_f, not_not', dec_true, dec_false, not_t, not_f, pick_t, pick_f, take1, drop1, take0, drop0, arr_app, List.append_nil, bne_tt, bne_tf, bne_ft, bne_ff, beq_tt, beq_tf, beq_ft, beq_ff, dec_pos, dec_neg, Ld_some, wrap_i64, tdiv_pos, tmod_pos, Sl.add_lit, drew_cell, Nat.reduceAdd, Nat.zero_add, Nat.add_zero, Nat.mul_one, Nat.one_mul, Int.toNat_natCast, cells_int, cells_bool, cells_str, cells_ptr, cells_slice, cells_func, cells_nilf, cells_nilc, cells_iface, cells_map, cells_agg, size_one, toList_one, List.length_cons, List.length_nil, List.cons_append, List.nil_append, reduceCtorEq, and_self, and_true, true_and, if_true, if_false, ↓reduceIte, ne_eq, not_false_eq_true, not_true_eq_false, Option.isSome_some, Option.isSome_none, decide_true, decide_false, List.getElem?_toArray, List.getElem?_cons_zero, List.getElem?_cons_succ, Bool.and_true, Bool.and_self, Int.reduceEq, Int.reduceLT, Int.reduceLE, Int.reduceAdd, Int.reduceSub, Int.reduceMul, Int.reduceToNat, Nat.reduceMul, Nat.reduceLeDiff, Nat.le_refl, Nat.reduceLT, Nat.reduceSub, set_one]
          refine new ?_
          intro b2 w5 hb5 hs5 hc5 hf5
          simp -dsimp (disch := omega) only [↓MC.wp, ↓opsWp, ↓drWp, ↓MOp.wp, evs, ev, eget, eput, eput?, pev, pbin, pint, pbool, pstr, psl, vnil, pbuild, overlay, ↓thenQ, ↓blockQ, ↓retQ, ↓resWp, tupV, stills, MOp.still, known, Op.operands, List.toList_toArray, argEnv, ekeep, one_int, one_bool, one_str, one_ptr, one_slice, one_func, one_nilf, one_nilc, one_iface, one_map, Chk_true, Chk_of, Br_true, Br_false, Br_pos, Br_neg, Br_npos, Br_nneg, beq_t, beq_f, not_not', dec_true, dec_false, not_t, not_f, pick_t, pick_f, take1, drop1, take0, drop0, arr_app, List.append_nil, bne_tt, bne_tf, bne_ft, bne_ff, beq_tt, beq_tf, beq_ft, beq_ff, dec_pos, dec_neg, Ld_some, wrap_i64, tdiv_pos, tmod_pos, Sl.add_lit, drew_cell, Nat.reduceAdd, Nat.zero_add, Nat.add_zero, Nat.mul_one, Nat.one_mul, Int.toNat_natCast, cells_int, cells_bool, cells_str, cells_ptr, cells_slice, cells_func, cells_nilf, cells_nilc, cells_iface, cells_map, cells_agg, size_one, toList_one, List.length_cons, List.length_nil, List.cons_append, List.nil_append, reduceCtorEq, and_self, and_true, true_and, if_true, if_false, ↓reduceIte, ne_eq, not_false_eq_true, not_true_eq_false, Option.isSome_some, Option.isSome_none, decide_true, decide_false, List.getElem?_toArray, List.getElem?_cons_zero, List.getElem?_cons_succ, Bool.and_true, Bool.and_self, Int.reduceEq, Int.reduceLT, Int.reduceLE, Int.reduceAdd, Int.reduceSub, Int.reduceMul, Int.reduceToNat, Nat.reduceMul, Nat.reduceLeDiff, Nat.le_refl, Nat.reduceLT, Nat.reduceSub]
          refine push_byte (x := 0) hrow hf3 hlen hc5 hf5 ?_
          intro r' w6 hr6 hf6
          simp -dsimp (disch := omega) only [↓MC.wp, ↓opsWp, ↓drWp, ↓MOp.wp, evs, ev, eget, eput, eput?, pev, pbin, pint, pbool, pstr, psl, vnil, pbuild, overlay, ↓thenQ, ↓blockQ, ↓retQ, ↓resWp, tupV, stills, MOp.still, known, Op.operands, List.toList_toArray, argEnv, ekeep, one_int, one_bool, one_str, one_ptr, one_slice, one_func, one_nilf, one_nilc, one_iface, one_map, Chk_true, Chk_of, Br_true, Br_false, Br_pos, Br_neg, Br_npos, Br_nneg, beq_t, beq_f, not_not', dec_true, dec_false, not_t, not_f, pick_t, pick_f, take1, drop1, take0, drop0, arr_app, List.append_nil, bne_tt, bne_tf, bne_ft, bne_ff, beq_tt, beq_tf, beq_ft, beq_ff, dec_pos, dec_neg, Ld_some, wrap_i64, tdiv_pos, tmod_pos, Sl.add_lit, drew_cell, Nat.reduceAdd, Nat.zero_add, Nat.add_zero, Nat.mul_one, Nat.one_mul, Int.toNat_natCast, cells_int, cells_bool, cells_str, cells_ptr, cells_slice, cells_func, cells_nilf, cells_nilc, cells_iface, cells_map, cells_agg, size_one, toList_one, List.length_cons, List.length_nil, List.cons_append, List.nil_append, reduceCtorEq, and_self, and_true, true_and, if_true, if_false, ↓reduceIte, ne_eq, not_false_eq_true, not_true_eq_false, Option.isSome_some, Option.isSome_none, decide_true, decide_false, List.getElem?_toArray, List.getElem?_cons_zero, List.getElem?_cons_succ, Bool.and_true, Bool.and_self, Int.reduceEq, Int.reduceLT, Int.reduceLE, Int.reduceAdd, Int.reduceSub, Int.reduceMul, Int.reduceToNat, Nat.reduceMul, Nat.reduceLeDiff, Nat.le_refl, Nat.reduceLT, Nat.reduceSub]
          refine ⟨(j + 1, r'), rfl, ⟨by dsimp only; omega, ?_, hf6⟩, by dsimp only; omega⟩
          dsimp only
          rw [hnext, show rcodeAt k i j = 0 from by rw [rcodeAt, if_neg hik, if_neg hij]]
          exact hr6
    · have hc1 := Ow.cells1 hrow.1
      simp -dsimp (disch := omega) only [↓MC.wp, ↓opsWp, ↓drWp, ↓MOp.wp, evs, ev, eget, eput, eput?, pev, pbin, pint, pbool, pstr, psl, vnil, pbuild, overlay, ↓thenQ, ↓blockQ, ↓retQ, ↓resWp, tupV, stills, MOp.still, known, Op.operands, List.toList_toArray, argEnv, ekeep, one_int, one_bool, one_str, one_ptr, one_slice, one_func, one_nilf, one_nilc, one_iface, one_map, Chk_true, Chk_of, Br_true, Br_false, Br_pos, Br_neg, Br_npos, Br_nneg, beq_t, beq_f, not_not', dec_true, dec_false, not_t, not_f, pick_t, pick_f, take1, drop1, take0, drop0, arr_app, List.append_nil, bne_tt, bne_tf, bne_ft, bne_ff, beq_tt, beq_tf, beq_ft, beq_ff, dec_pos, dec_neg, Ld_some, wrap_i64, tdiv_pos, tmod_pos, Sl.add_lit, drew_cell, Nat.reduceAdd, Nat.zero_add, Nat.add_zero, Nat.mul_one, Nat.one_mul, Int.toNat_natCast, cells_int, cells_bool, cells_str, cells_ptr, cells_slice, cells_func, cells_nilf, cells_nilc, cells_iface, cells_map, cells_agg, size_one, toList_one, List.length_cons, List.length_nil, List.cons_append, List.nil_append, reduceCtorEq, and_self, and_true, true_and, if_true, if_false, ↓reduceIte, ne_eq, not_false_eq_true, not_true_eq_false, Option.isSome_some, Option.isSome_none, decide_true, decide_false, List.getElem?_toArray, List.getElem?_cons_zero, List.getElem?_cons_succ, Bool.and_true, Bool.and_self, Int.reduceEq, Int.reduceLT, Int.reduceLE, Int.reduceAdd, Int.reduceSub, Int.reduceMul, Int.reduceToNat, Nat.reduceMul, Nat.reduceLeDiff, Nat.le_refl, Nat.reduceLT, Nat.reduceSub, hc1, set_one]
      have hjk : j = k := by omega
      subst hjk
      refine new ?_
      intro b2 w4 hb2 hs4 hc4 hf4
      simp -dsimp (disch := omega) only [↓MC.wp, ↓opsWp, ↓drWp, ↓MOp.wp, evs, ev, eget, eput, eput?, pev, pbin, pint, pbool, pstr, psl, vnil, pbuild, overlay, ↓thenQ, ↓blockQ, ↓retQ, ↓resWp, tupV, stills, MOp.still, known, Op.operands, List.toList_toArray, argEnv, ekeep, one_int, one_bool, one_str, one_ptr, one_slice, one_func, one_nilf, one_nilc, one_iface, one_map, Chk_true, Chk_of, Br_true, Br_false, Br_pos, Br_neg, Br_npos, Br_nneg, beq_t, beq_f, not_not', dec_true, dec_false, not_t, not_f, pick_t, pick_f, take1, drop1, take0, drop0, arr_app, List.append_nil, bne_tt, bne_tf, bne_ft, bne_ff, beq_tt, beq_tf, beq_ft, beq_ff, dec_pos, dec_neg, Ld_some, wrap_i64, tdiv_pos, tmod_pos, Sl.add_lit, drew_cell, Nat.reduceAdd, Nat.zero_add, Nat.add_zero, Nat.mul_one, Nat.one_mul, Int.toNat_natCast, cells_int, cells_bool, cells_str, cells_ptr, cells_slice, cells_func, cells_nilf, cells_nilc, cells_iface, cells_map, cells_agg, size_one, toList_one, List.length_cons, List.length_nil, List.cons_append, List.nil_append, reduceCtorEq, and_self, and_true, true_and, if_true, if_false, ↓reduceIte, ne_eq, not_false_eq_true, not_true_eq_false, Option.isSome_some, Option.isSome_none, decide_true, decide_false, List.getElem?_toArray, List.getElem?_cons_zero, List.getElem?_cons_succ, Bool.and_true, Bool.and_self, Int.reduceEq, Int.reduceLT, Int.reduceLE, Int.reduceAdd, Int.reduceSub, Int.reduceMul, Int.reduceToNat, Nat.reduceMul, Nat.reduceLeDiff, Nat.le_refl, Nat.reduceLT, Nat.reduceSub]
      have hlen : ((List.range i).map fun i => (List.range j).map (rcodeAt j i)).length ≤ 1000000 := by rw [List.length_map, List.length_range]; omega
      refine push_row ho hf hf3 hrow hlen hb2 hs4 hc4 hf4 ?_
      intro r' w' hr' hf'
      simp -dsimp (disch := omega) only [↓MC.wp, ↓opsWp, ↓drWp, ↓MOp.wp, evs, ev, eget, eput, eput?, pev, pbin, pint, pbool, pstr, psl, vnil, pbuild, overlay, ↓thenQ, ↓blockQ, ↓retQ, ↓resWp, tupV, stills, MOp.still, known, Op.operands, List.toList_toArray, argEnv, ekeep, one_int, one_bool, one_str, one_ptr, one_slice, one_func, one_nilf, one_nilc, one_iface, one_map, Chk_true, Chk_of, Br_true, Br_false, Br_pos, Br_neg, Br_npos, Br_nneg, beq_t, beq_f, not_not', dec_true, dec_false, not_t, not_f, pick_t, pick_f, take1, drop1, take0, drop0, arr_app, List.append_nil, bne_tt, bne_tf, bne_ft, bne_ff, beq_tt, beq_tf, beq_ft, beq_ff, dec_pos, dec_neg, Ld_some, wrap_i64, tdiv_pos, tmod_pos, Sl.add_lit, drew_cell, Nat.reduceAdd, Nat.zero_add, Nat.add_zero, Nat.mul_one, Nat.one_mul, Int.toNat_natCast, cells_int, cells_bool, cells_str, cells_ptr, cells_slice, cells_func, cells_nilf, cells_nilc, cells_iface, cells_map, cells_agg, size_one, toList_one, List.length_cons, List.length_nil, List.cons_append, List.nil_append, reduceCtorEq, and_self, and_true, true_and, if_true, if_false, ↓reduceIte, ne_eq, not_false_eq_true, not_true_eq_false, Option.isSome_some, Option.isSome_none, decide_true, decide_false, List.getElem?_toArray, List.getElem?_cons_zero, List.getElem?_cons_succ, Bool.and_true, Bool.and_self, Int.reduceEq, Int.reduceLT, Int.reduceLE, Int.reduceAdd, Int.reduceSub, Int.reduceMul, Int.reduceToNat, Nat.reduceMul, Nat.reduceLeDiff, Nat.le_refl, Nat.reduceLT, Nat.reduceSub]
      refine ⟨(i + 1, r'), rfl, ⟨by dsimp only; omega, ?_, hf'⟩, by dsimp only; omega⟩
      dsimp only
      rw [List.range_succ, List.map_append]
      exact hr'
  · simp -dsimp (disch := omega) only [↓MC.wp, ↓opsWp, ↓drWp, ↓MOp.wp, evs, ev, eget, eput, eput?, pev, pbin, pint, pbool, pstr, psl, vnil, pbuild, overlay, ↓thenQ, ↓blockQ, ↓retQ, ↓resWp, tupV, stills, MOp.still, known, Op.operands, List.toList_toArray, argEnv, ekeep, one_int, one_bool, one_str, one_ptr, one_slice, one_func, one_nilf, one_nilc, one_iface, one_map, Chk_true, Chk_of, Br_true, Br_false, Br_pos, Br_neg, Br_npos, Br_nneg, beq_t, beq_f, not_not', dec_true, dec_false, not_t, not_f, pick_t, pick_f, take1, drop1, take0, drop0, arr_app, List.append_nil, bne_tt, bne_tf, bne_ft, bne_ff, beq_tt, beq_tf, beq_ft, beq_ff, dec_pos, dec_neg, Ld_some, wrap_i64, tdiv_pos, tmod_pos, Sl.add_lit, drew_cell, Nat.reduceAdd, Nat.zero_add, Nat.add_zero, Nat.mul_one, Nat.one_mul, Int.toNat_natCast, cells_int, cells_bool, cells_str, cells_ptr, cells_slice, cells_func, cells_nilf, cells_nilc, cells_iface, cells_map, cells_agg, size_one, toList_one, List.length_cons, List.length_nil, List.cons_append, List.nil_append, reduceCtorEq, and_self, and_true, true_and, if_true, if_false, ↓reduceIte, ne_eq, not_false_eq_true, not_true_eq_false, Option.isSome_some, Option.isSome_none, decide_true, decide_false, List.getElem?_toArray, List.getElem?_cons_zero, List.getElem?_cons_succ, Bool.and_true, Bool.and_self, Int.reduceEq, Int.reduceLT, Int.reduceLE, Int.reduceAdd, Int.reduceSub, Int.reduceMul, Int.reduceToNat, Nat.reduceMul, Nat.reduceLeDiff, Nat.le_refl, Nat.reduceLT, Nat.reduceSub]
    have hin : i = n := by omega
    subst hin
    exact ⟨ho, hf⟩

def rdot (r : List UInt8) (b : LL) (j : Nat) : Nat → UInt8
  | 0 => 0
  | k + 1 => rdot r b j k ^^^ rmul (r.getD k 0) (entry b k j)
def rrow (r : List UInt8) (b : LL) : List UInt8 := (List.range (width b)).map fun j => rdot r b j b.length
def rmulM (a b : LL) : LL := if width a = b.length then a.map (fun r => rrow r b) else []

theorem rmmul_calls {w : World} {B B' : Nat} {v v' : Value} {a b : LL} (ha : MS w B v a) (hb : MS w B' v' b) (ra : RightM a) (rb : RightM b) (sa : Small a) (sb : Small b) :
    Calls Try.prog f_ref04_Mul #[v, v'] w fun en w' => ∃ r, en = .returned r ∧ (NewMat w.heap.size w' r (rmulM a b) ∧ Fr No w w') := by
  obtain ⟨A, c, rfl⟩ := MS.form ha
  obtain ⟨A', c', rfl⟩ := MS.form hb
  have pa := ra.pos
  have pb := rb.pos
  have hah := sa.high
  have hbh := sb.high
  obtain ⟨ad, A0, c0, rfl, hcell0, _⟩ := MS.row ha pa
  obtain ⟨bd, B0, d0, rfl, hbcell0, _⟩ := MS.row hb pb
  rw [width_eq pa] at hcell0
  rw [width_eq pb] at hbcell0
  have wb' : width b ≤ 1000 := by rw [← width_eq pb]; exact sb.wide _ (List.getElem_mem pb)
  refine calls_of_mf (args := [.slice (some ad) a.length c, .slice (some bd) b.length c']) c_ref04_Mul (by simp only [m_ref04_Mul, List.length]; decide) ?_
  by_cases hw : width a = b.length
  · rw [rmulM, if_pos hw]
    simp -dsimp (disch := omega) only [↓MC.wp, ↓opsWp, ↓drWp, ↓MOp.wp, evs, ev, eget, eput, eput?, pev, pbin, pint, pbool, pstr, psl, vnil, pbuild, overlay, ↓thenQ, ↓blockQ, ↓retQ, ↓resWp, tupV, stills, MOp.still, known, Op.operands, List.toList_toArray, argEnv, ekeep, one_int, one_bool, one_str, one_ptr, one_slice, one_func, one_nilf, one_nilc, one_iface, one_map, Chk_true, Chk_of, Br_true, Br_false, Br_pos, Br_neg, Br_npos, Br_nneg, beq_t, beq_f, not_not', dec_true, dec_false, not_t, not_f, pick_t, pick_f, take1, drop1, take0, drop0, arr_app, List.append_nil, bne_tt, bne_tf, bne_ft, bne_ff, beq_tt, beq_tf, beq_ft, beq_ff, dec_pos, dec_neg, Ld_some, wrap_i64, tdiv_pos, tmod_pos, Sl.add_lit, drew_cell, Nat.reduceAdd, Nat.zero_add, Nat.add_zero, Nat.mul_one, Nat.one_mul, Int.toNat_natCast, cells_int, cells_bool, cells_str, cells_ptr, cells_slice, cells_func, cells_nilf, cells_nilc, cells_iface, cells_map, cells_agg, size_one, toList_one, List.length_cons, List.length_nil, List.cons_append, List.nil_append, reduceCtorEq, and_self, and_true, true_and, if_true, if_false, ↓reduceIte, ne_eq, not_false_eq_true, not_true_eq_false, Option.isSome_some, Option.isSome_none, decide_true, decide_false, List.getElem?_toArray, List.getElem?_cons_zero, List.getElem?_cons_succ, Bool.and_true, Bool.and_self, Int.reduceEq, Int.reduceLT, Int.reduceLE, Int.reduceAdd, Int.reduceSub, Int.reduceMul, Int.reduceToNat, Nat.reduceMul, Nat.reduceLeDiff, Nat.le_refl, Nat.reduceLT, Nat.reduceSub, m_ref04_Mul, hcell0]
    refine loopS [0, 1, 5, 6] (fun s : Nat × Value => [(0, .slice (some ad) a.length c), (1, .slice (some bd) b.length c'), (5, s.2), (6, .int .i64 s.1)])
      (fun s w1 => s.1 ≤ a.length ∧ NewMat w.heap.size w1 s.2 ((a.take s.1).map (fun r => rrow r b)) ∧ Fr No w w1) (fun s _ => a.length - s.1) (0, .slice none 0 0) (by with_unfolding_all rfl) ⟨Nat.zero_le _, NewMat.nil _ _, Fr.refl _ _⟩ ?_
    rintro ⟨i, o⟩ w1 ⟨hi, ho, hf⟩
    dsimp only at hi ho ⊢
    by_cases hlt : i < a.length
    · obtain ⟨ad', A2, c2, e2, hcelli, hrowi⟩ := MS.row ha hlt
      cases e2
      have hwi : a[i].length = b.length := by rw [ra.all _ (List.getElem_mem hlt), hw]
      simp -dsimp (disch := omega) only [↓MC.wp, ↓opsWp, ↓drWp, ↓MOp.wp, evs, ev, eget, eput, eput?, pev, pbin, pint, pbool, pstr, psl, vnil, pbuild, overlay, ↓thenQ, ↓blockQ, ↓retQ, ↓resWp, tupV, stills, MOp.still, known, Op.operands, List.toList_toArray, argEnv, ekeep, one_int, one_bool, one_str, one_ptr, one_slice, one_func, one_nilf, one_nilc, one_iface, one_map, Chk_true, Chk_of, Br_true, Br_false, Br_pos, Br_neg, Br_npos, Br_nneg, beq_t, beq_f, not_not', dec_true, dec_false, not_t, not_f, pick_t, pick_f, take1, drop1, take0, drop0, arr_app, List.append_nil, bne_tt, bne_tf, bne_ft, bne_ff, beq_tt, beq_tf, beq_ft, beq_ff, dec_pos, dec_neg, Ld_some, wrap_i64, tdiv_pos, tmod_pos, Sl.add_lit, drew_cell, Nat.reduceAdd, Nat.zero_add, Nat.add_zero, Nat.mul_one, Nat.one_mul, Int.toNat_natCast, cells_int, cells_bool, cells_str, cells_ptr, cells_slice, cells_func, cells_nilf, cells_nilc, cells_iface, cells_map, cells_agg, size_one, toList_one, List.length_cons, List.length_nil, List.cons_append, List.nil_append, reduceCtorEq, and_self, and_true, true_and, if_true, if_false, ↓reduceIte, ne_eq, not_false_eq_true, not_true_eq_false, Option.isSome_some, Option.isSome_none, decide_true, decide_false, List.getElem?_toArray, List.getElem?_cons_zero, List.getElem?_cons_succ, Bool.and_true, Bool.and_self, Int.reduceEq, Int.reduceLT, Int.reduceLE, Int.reduceAdd, Int.reduceSub, Int.reduceMul, Int.reduceToNat, Nat.reduceMul, Nat.reduceLeDiff, Nat.le_refl, Nat.reduceLT, Nat.reduceSub]
      refine loopS [0, 1, 5, 6, 7, 8] (fun s : Nat × Value => [(0, .slice (some ad) a.length c), (1, .slice (some bd) b.length c'), (5, o), (6, .int .i64 i), (7, s.2), (8, .int .i64 s.1)])
        (fun s w3 => s.1 ≤ width b ∧ NewRow w1.heap.size w3 s.2 ((List.range s.1).map fun j => rdot a[i] b j b.length) ∧ Fr No w1 w3) (fun s _ => width b - s.1) (0, .slice none 0 0) (by with_unfolding_all rfl) ⟨Nat.zero_le _, NewRow.nil _ _, Fr.refl _ _⟩ ?_
      rintro ⟨j, row⟩ w3 ⟨hj, hrow, hf3⟩
      dsimp only at hj hrow ⊢
      have hbcell3 : w3.cell? (bd.add 0) = some (.slice B0 (width b) d0) := by rw [(hf.then hf3).cell (cell_block_lt hbcell0) (fun h => h)]; exact hbcell0
      by_cases hjl : j < width b
      · have hlen : ((List.range j).map fun j => rdot a[i] b j b.length).length ≤ 1000000 := by rw [List.length_map, List.length_range]; omega
        have hnext : ((List.range (j + 1)).map fun j => rdot a[i] b j b.length) = ((List.range j).map fun j => rdot a[i] b j b.length) ++ [rdot a[i] b j b.length] := by rw [List.range_succ, List.map_append]; rfl
        simp -dsimp (disch := omega) only [↓MC.wp, ↓opsWp, ↓drWp, ↓MOp.wp, evs, ev, eget, eput, eput?, pev, pbin, pint, pbool, pstr, psl, vnil, pbuild, overlay, ↓thenQ, ↓blockQ, ↓retQ, ↓resWp, tupV, stills, MOp.still, known, Op.operands, List.toList_toArray, argEnv, ekeep, one_int, one_bool, one_str, one_ptr, one_slice, one_func, one_nilf, one_nilc, one_iface, one_map, Chk_true, Chk_of, Br_true, Br_false, Br_pos, Br_neg, Br_npos, Br_nneg, beq_t, beq_f, not_not', dec_true, dec_false, not_t, not_f, pick_t, pick_f, take1, drop1, take0, drop0, arr_app, List.append_nil, bne_tt, bne_tf, bne_ft, bne_ff, beq_tt, beq_tf, beq_ft, beq_ff, dec_pos, dec_neg, Ld_some, wrap_i64, tdiv_pos, tmod_pos, Sl.add_lit, drew_cell, Nat.reduceAdd, Nat.zero_add, Nat.add_zero, Nat.mul_one, Nat.one_mul, Int.toNat_natCast, cells_int, cells_bool, cells_str, cells_ptr, cells_slice, cells_func, cells_nilf, cells_nilc, cells_iface, cells_map, cells_agg, size_one, toList_one, List.length_cons, List.length_nil, List.cons_append, List.nil_append, reduceCtorEq, and_self, and_true, true_and, if_true, if_false, ↓reduceIte, ne_eq, not_false_eq_true, not_true_eq_false, Option.isSome_some, Option.isSome_none, decide_true, decide_false, List.getElem?_toArray, List.getElem?_cons_zero, List.getElem?_cons_succ, Bool.and_true, Bool.and_self, Int.reduceEq, Int.reduceLT, Int.reduceLE, Int.reduceAdd, Int.reduceSub, Int.reduceMul, Int.reduceToNat, Nat.reduceMul, Nat.reduceLeDiff, Nat.le_refl, Nat.reduceLT, Nat.reduceSub, hbcell3]
        refine loopS [0, 1, 5, 6, 7, 8, 9, 10] (fun k : Nat => [(0, .slice (some ad) a.length c), (1, .slice (some bd) b.length c'), (5, o), (6, .int .i64 i), (7, row), (8, .int .i64 j), (9, U8 (rdot a[i] b j k)), (10, .int .i64 k)])
          (fun k w4 => k ≤ b.length ∧ Fr No w3 w4) (fun k _ => b.length - k) 0 (by with_unfolding_all rfl) ⟨Nat.zero_le _, Fr.refl _ _⟩ ?_
        rintro k w4 ⟨hk, hf4⟩
        have hf04 : Fr No w w4 := (hf.then hf3).then hf4
        by_cases hkl : k < b.length
        · obtain ⟨bd', B2, d2, e3, hcellk, hrowk⟩ := MS.row hb hkl
          cases e3
          have hbk : b[k].length = width b := rb.all _ (List.getElem_mem hkl)
          obtain ⟨A3, c3, e4, hc3, hcells⟩ := hrowi.open
          cases e4
          obtain ⟨ae, hae, _, hcellx⟩ := hcells k (by omega)
          subst hae
          obtain ⟨B3, d3, e5, hd3, hcells'⟩ := hrowk.open
          cases e5
          obtain ⟨be, hbe, _, hcelly⟩ := hcells' j (by omega)
          subst hbe
          have g1 : w4.cell? (ad.add i) = some (.slice (some ae) a[i].length c2) := by rw [hf04.cell (cell_block_lt hcelli) (fun h => h)]; exact hcelli
          have g2 : w4.cell? (ae.add k) = some (U8 a[i][k]) := by rw [hf04.cell (cell_block_lt hcellx) (fun h => h)]; exact hcellx
          have g3 : w4.cell? (bd.add k) = some (.slice (some be) b[k].length d2) := by rw [hf04.cell (cell_block_lt hcellk) (fun h => h)]; exact hcellk
          have g4 : w4.cell? (be.add j) = some (U8 b[k][j]) := by rw [hf04.cell (cell_block_lt hcelly) (fun h => h)]; exact hcelly
          simp -dsimp (disch := omega) only [↓MC.wp, ↓opsWp, ↓drWp, ↓MOp.wp, evs, ev, eget, eput, eput?, pev, pbin, pint, pbool, pstr, psl, vnil, pbuild, overlay, ↓thenQ, ↓blockQ, ↓retQ, ↓resWp, tupV, stills, MOp.still, known, Op.operands, List.toList_toArray, argEnv, ekeep, one_int, one_bool, one_str, one_ptr, one_slice, one_func, one_nilf, one_nilc, one_iface, one_map, Chk_true, Chk_of, Br_true, Br_false, Br_pos, Br_neg, Br_npos, Br_nneg, beq_t, beq_f, not_not', dec_true, dec_false, not_t, not_f, pick_t, pick_f, take1, drop1, take0, drop0, arr_app, List.append_nil, bne_tt, bne_tf, bne_ft, bne_ff, beq_tt, beq_tf, beq_ft, beq_ff, dec_pos, dec_neg, Ld_some, wrap_i64, tdiv_pos, tmod_pos, Sl.add_lit, drew_cell, Nat.reduceAdd, Nat.zero_add, Nat.add_zero, Nat.mul_one, Nat.one_mul, Int.toNat_natCast, cells_int, cells_bool, cells_str, cells_ptr, cells_slice, cells_func, cells_nilf, cells_nilc, cells_iface, cells_map, cells_agg, size_one, toList_one, List.length_cons, List.length_nil, List.cons_append, List.nil_append, reduceCtorEq, and_self, and_true, true_and, if_true, if_false, ↓reduceIte, ne_eq, not_false_eq_true, not_true_eq_false, Option.isSome_some, Option.isSome_none, decide_true, decide_false, List.getElem?_toArray, List.getElem?_cons_zero, List.getElem?_cons_succ, Bool.and_true, Bool.and_self, Int.reduceEq, Int.reduceLT, Int.reduceLE, Int.reduceAdd, Int.reduceSub, Int.reduceMul, Int.reduceToNat, Nat.reduceMul, Nat.reduceLeDiff, Nat.le_refl, Nat.reduceLT, Nat.reduceSub, g1, g2, g3, g4]
          refine call (rmul_calls a[i][k] b[k][j]) ?_
          intro r w5 h5
          rw [h5.1]
          have hf5 := h5.2
          have g1' : w5.cell? (ad.add i) = some (.slice (some ae) a[i].length c2) := by rw [hf5.cell (cell_block_lt g1) (fun h => h)]; exact g1
          have g3' : w5.cell? (bd.add k) = some (.slice (some be) b[k].length d2) := by rw [hf5.cell (cell_block_lt g3) (fun h => h)]; exact g3
          simp -dsimp (disch := omega) only [↓MC.wp, ↓opsWp, ↓drWp, ↓MOp.wp, evs, ev, eget, eput, eput?, pev, pbin, pint, pbool, pstr, psl, vnil, pbuild, overlay, ↓thenQ, ↓blockQ, ↓retQ, ↓resWp, tupV, stills, MOp.still, known, Op.operands, List.toList_toArray, argEnv, ekeep, one_int, one_bool, one_str, one_ptr, one_slice, one_func, one_nilf, one_nilc, one_iface, one_map, Chk_true, Chk_of, Br_true, Br_false, Br_pos, Br_neg, Br_npos, Br_nneg, beq_t, beq_f, not_not', dec_true, dec_false, not_t, not_f, pick_t, pick_f, take1, drop1, take0, drop0, arr_app, List.append_nil, bne_tt, bne_tf, bne_ft, bne_ff, beq_tt, beq_tf, beq_ft, beq_ff, dec_pos, dec_neg, Ld_some, wrap_i64, tdiv_pos, tmod_pos, Sl.add_lit, drew_cell, Nat.reduceAdd, Nat.zero_add, Nat.add_zero, Nat.mul_one, Nat.one_mul, Int.toNat_natCast, cells_int, cells_bool, cells_str, cells_ptr, cells_slice, cells_func, cells_nilf, cells_nilc, cells_iface, cells_map, cells_agg, size_one, toList_one, List.length_cons, List.length_nil, List.cons_append, List.nil_append, reduceCtorEq, and_self, and_true, true_and, if_true, if_false, ↓reduceIte, ne_eq, not_false_eq_true, not_true_eq_false, Option.isSome_some, Option.isSome_none, decide_true, decide_false, List.getElem?_toArray, List.getElem?_cons_zero, List.getElem?_cons_succ, Bool.and_true, Bool.and_self, Int.reduceEq, Int.reduceLT, Int.reduceLE, Int.reduceAdd, Int.reduceSub, Int.reduceMul, Int.reduceToNat, Nat.reduceMul, Nat.reduceLeDiff, Nat.le_refl, Nat.reduceLT, Nat.reduceSub, g1', g3', U8, xor_u8]
          refine ⟨k + 1, ?_, ⟨by omega, hf4.then hf5.of_drew⟩, by omega⟩
          have e1 : rdot a[i] b j (k + 1) = rdot a[i] b j k ^^^ rmul a[i][k] b[k][j] := by
            rw [rdot, getD_of_lt 0 (by omega), entry_eq hkl (by omega)]
          rw [e1]
          rfl
        · have hkb : k = b.length := by omega
          subst hkb
          simp -dsimp (disch := omega) only [↓MC.wp, ↓opsWp, ↓drWp, ↓MOp.wp, evs, ev, eget, eput, eput?, pev, pbin, pint, pbool, pstr, psl, vnil, pbuild, overlay, ↓thenQ, ↓blockQ, ↓retQ, ↓resWp, tupV, stills, MOp.still, known, Op.operands, List.toList_toArray, argEnv, ekeep, one_int, one_bool, one_str, one_ptr, one_slice, one_func, one_nilf, one_nilc, one_iface, one_map, Chk_true, Chk_of, Br_true, Br_false, Br_pos, Br_neg, Br_npos, Br_nneg, beq_t, beq_f, not_not', dec_true, dec_false, not_t, not_f, pick_t, pick_f, take1, drop1, take0, drop0, arr_app, List.append_nil, bne_tt, bne_tf, bne_ft, bne_ff, beq_tt, beq_tf, beq_ft, beq_ff, dec_pos, dec_neg, Ld_some, wrap_i64, tdiv_pos, tmod_pos, Sl.add_lit, drew_cell, Nat.reduceAdd, Nat.zero_add, Nat.add_zero, Nat.mul_one, Nat.one_mul, Int.toNat_natCast, cells_int, cells_bool, cells_str, cells_ptr, cells_slice, cells_func, cells_nilf, cells_nilc, cells_iface, cells_map, cells_agg, size_one, toList_one, List.length_cons, List.length_nil, List.cons_append, List.nil_append, reduceCtorEq, and_self, and_true, true_and, if_true, if_false, ↓reduceIte, ne_eq, not_false_eq_true, not_true_eq_false, Option.isSome_some, Option.isSome_none, decide_true, decide_false, List.getElem?_toArray, List.getElem?_cons_zero, List.getElem?_cons_succ, Bool.and_true, Bool.and_self, Int.reduceEq, Int.reduceLT, Int.reduceLE, Int.reduceAdd, Int.reduceSub, Int.reduceMul, Int.reduceToNat, Nat.reduceMul, Nat.reduceLeDiff, Nat.le_refl, Nat.reduceLT, Nat.reduceSub, U8, set_one]
          refine new ?_
          intro b2 w5 hb5 hs5 hc5 hf5
          simp -dsimp (disch := omega) only [↓MC.wp, ↓opsWp, ↓drWp, ↓MOp.wp, evs, ev, eget, eput, eput?, pev, pbin, pint, pbool, pstr, psl, vnil, pbuild, overlay, ↓thenQ, ↓blockQ, ↓retQ, ↓resWp, tupV, stills, MOp.still, known, Op.operands, List.toList_toArray, argEnv, ekeep, one_int, one_bool, one_str, one_ptr, one_slice, one_func, one_nilf, one_nilc, one_iface, one_map, Chk_true, Chk_of, Br_true, Br_false, Br_pos, Br_neg, Br_npos, Br_nneg, beq_t, beq_f, not_not', dec_true, dec_false, not_t, not_f, pick_t, pick_f, take1, drop1, take0, drop0, arr_app, List.append_nil, bne_tt, bne_tf, bne_ft, bne_ff, beq_tt, beq_tf, beq_ft, beq_ff, dec_pos, dec_neg, Ld_some, wrap_i64, tdiv_pos, tmod_pos, Sl.add_lit, drew_cell, Nat.reduceAdd, Nat.zero_add, Nat.add_zero, Nat.mul_one, Nat.one_mul, Int.toNat_natCast, cells_int, cells_bool, cells_str, cells_ptr, cells_slice, cells_func, cells_nilf, cells_nilc, cells_iface, cells_map, cells_agg, size_one, toList_one, List.length_cons, List.length_nil, List.cons_append, List.nil_append, reduceCtorEq, and_self, and_true, true_and, if_true, if_false, ↓reduceIte, ne_eq, not_false_eq_true, not_true_eq_false, Option.isSome_some, Option.isSome_none, decide_true, decide_false, List.getElem?_toArray, List.getElem?_cons_zero, List.getElem?_cons_succ, Bool.and_true, Bool.and_self, Int.reduceEq, Int.reduceLT, Int.reduceLE, Int.reduceAdd, Int.reduceSub, Int.reduceMul, Int.reduceToNat, Nat.reduceMul, Nat.reduceLeDiff, Nat.le_refl, Nat.reduceLT, Nat.reduceSub]
          refine push_byte (x := rdot a[i] b j b.length) (hrow.no hf4) (hf3.then hf4) hlen hc5 hf5 ?_
          intro r' w6 hr6 hf6
          simp -dsimp (disch := omega) only [↓MC.wp, ↓opsWp, ↓drWp, ↓MOp.wp, evs, ev, eget, eput, eput?, pev, pbin, pint, pbool, pstr, psl, vnil, pbuild, overlay, ↓thenQ, ↓blockQ, ↓retQ, ↓resWp, tupV, stills, MOp.still, known, Op.operands, List.toList_toArray, argEnv, ekeep, one_int, one_bool, one_str, one_ptr, one_slice, one_func, one_nilf, one_nilc, one_iface, one_map, Chk_true, Chk_of, Br_true, Br_false, Br_pos, Br_neg, Br_npos, Br_nneg, beq_t, beq_f, not_not', dec_true, dec_false, not_t, not_f, pick_t, pick_f, take1, drop1, take0, drop0, arr_app, List.append_nil, bne_tt, bne_tf, bne_ft, bne_ff, beq_tt, beq_tf, beq_ft, beq_ff, dec_pos, dec_neg, Ld_some, wrap_i64, tdiv_pos, tmod_pos, Sl.add_lit, drew_cell, Nat.reduceAdd, Nat.zero_add, Nat.add_zero, Nat.mul_one, Nat.one_mul, Int.toNat_natCast, cells_int, cells_bool, cells_str, cells_ptr, cells_slice, cells_func, cells_nilf, cells_nilc, cells_iface, cells_map, cells_agg, size_one, toList_one, List.length_cons, List.length_nil, List.cons_append, List.nil_append, reduceCtorEq, and_self, and_true, true_and, if_true, if_false, ↓reduceIte, ne_eq, not_false_eq_true, not_true_eq_false, Option.isSome_some, Option.isSome_none, decide_true, decide_false, List.getElem?_toArray, List.getElem?_cons_zero, List.getElem?_cons_succ, Bool.and_true, Bool.and_self, Int.reduceEq, Int.reduceLT, Int.reduceLE, Int.reduceAdd, Int.reduceSub, Int.reduceMul, Int.reduceToNat, Nat.reduceMul, Nat.reduceLeDiff, Nat.le_refl, Nat.reduceLT, Nat.reduceSub]
          refine ⟨(j + 1, r'), rfl, ⟨by dsimp only; omega, ?_, hf6⟩, by dsimp only; omega⟩
          dsimp only
          rw [hnext]
          exact hr6
      · have hc1 := Ow.cells1 hrow.1
        simp -dsimp (disch := omega) only [↓MC.wp, ↓opsWp, ↓drWp, ↓MOp.wp, evs, ev, eget, eput, eput?, pev, pbin, pint, pbool, pstr, psl, vnil, pbuild, overlay, ↓thenQ, ↓blockQ, ↓retQ, ↓resWp, tupV, stills, MOp.still, known, Op.operands, List.toList_toArray, argEnv, ekeep, one_int, one_bool, one_str, one_ptr, one_slice, one_func, one_nilf, one_nilc, one_iface, one_map, Chk_true, Chk_of, Br_true, Br_false, Br_pos, Br_neg, Br_npos, Br_nneg, beq_t, beq_f, not_not', dec_true, dec_false, not_t, not_f, pick_t, pick_f, take1, drop1, take0, drop0, arr_app, List.append_nil, bne_tt, bne_tf, bne_ft, bne_ff, beq_tt, beq_tf, beq_ft, beq_ff, dec_pos, dec_neg, Ld_some, wrap_i64, tdiv_pos, tmod_pos, Sl.add_lit, drew_cell, Nat.reduceAdd, Nat.zero_add, Nat.add_zero, Nat.mul_one, Nat.one_mul, Int.toNat_natCast, cells_int, cells_bool, cells_str, cells_ptr, cells_slice, cells_func, cells_nilf, cells_nilc, cells_iface, cells_map, cells_agg, size_one, toList_one, List.length_cons, List.length_nil, List.cons_append, List.nil_append, reduceCtorEq, and_self, and_true, true_and, if_true, if_false, ↓reduceIte, ne_eq, not_false_eq_true, not_true_eq_false, Option.isSome_some, Option.isSome_none, decide_true, decide_false, List.getElem?_toArray, List.getElem?_cons_zero, List.getElem?_cons_succ, Bool.and_true, Bool.and_self, Int.reduceEq, Int.reduceLT, Int.reduceLE, Int.reduceAdd, Int.reduceSub, Int.reduceMul, Int.reduceToNat, Nat.reduceMul, Nat.reduceLeDiff, Nat.le_refl, Nat.reduceLT, Nat.reduceSub, hbcell3, hc1, set_one]
        have hjk : j = width b := by omega
        subst hjk
        refine new ?_
        intro b2 w4 hb2 hs4 hc4 hf4
        simp -dsimp (disch := omega) only [↓MC.wp, ↓opsWp, ↓drWp, ↓MOp.wp, evs, ev, eget, eput, eput?, pev, pbin, pint, pbool, pstr, psl, vnil, pbuild, overlay, ↓thenQ, ↓blockQ, ↓retQ, ↓resWp, tupV, stills, MOp.still, known, Op.operands, List.toList_toArray, argEnv, ekeep, one_int, one_bool, one_str, one_ptr, one_slice, one_func, one_nilf, one_nilc, one_iface, one_map, Chk_true, Chk_of, Br_true, Br_false, Br_pos, Br_neg, Br_npos, Br_nneg, beq_t, beq_f, not_not', dec_true, dec_false, not_t, not_f, pick_t, pick_f, take1, drop1, take0, drop0, arr_app, List.append_nil, bne_tt, bne_tf, bne_ft, bne_ff, beq_tt, beq_tf, beq_ft, beq_ff, dec_pos, dec_neg, Ld_some, wrap_i64, tdiv_pos, tmod_pos, Sl.add_lit, drew_cell, Nat.reduceAdd, Nat.zero_add, Nat.add_zero, Nat.mul_one, Nat.one_mul, Int.toNat_natCast, cells_int, cells_bool, cells_str, cells_ptr, cells_slice, cells_func, cells_nilf, cells_nilc, cells_iface, cells_map, cells_agg, size_one, toList_one, List.length_cons, List.length_nil, List.cons_append, List.nil_append, reduceCtorEq, and_self, and_true, true_and, if_true, if_false, ↓reduceIte, ne_eq, not_false_eq_true, not_true_eq_false, Option.isSome_some, Option.isSome_none, decide_true, decide_false, List.getElem?_toArray, List.getElem?_cons_zero, List.getElem?_cons_succ, Bool.and_true, Bool.and_self, Int.reduceEq, Int.reduceLT, Int.reduceLE, Int.reduceAdd, Int.reduceSub, Int.reduceMul, Int.reduceToNat, Nat.reduceMul, Nat.reduceLeDiff, Nat.le_refl, Nat.reduceLT, Nat.reduceSub]
        have hlen : ((a.take i).map (fun r => rrow r b)).length ≤ 1000000 := by rw [List.length_map, List.length_take]; omega
        refine push_row (x := rrow a[i] b) ho hf hf3 hrow hlen hb2 hs4 hc4 hf4 ?_
        intro r' w' hr' hf'
        simp -dsimp (disch := omega) only [↓MC.wp, ↓opsWp, ↓drWp, ↓MOp.wp, evs, ev, eget, eput, eput?, pev, pbin, pint, pbool, pstr, psl, vnil, pbuild, overlay, ↓thenQ, ↓blockQ, ↓retQ, ↓resWp, tupV, stills, MOp.still, known, Op.operands, List.toList_toArray, argEnv, ekeep, one_int, one_bool, one_str, one_ptr, one_slice, one_func, one_nilf, one_nilc, one_iface, one_map, Chk_true, Chk_of, Br_true, Br_false, Br_pos, Br_neg, Br_npos, Br_nneg, beq_t, beq_f, not_not', dec_true, dec_false, not_t, not_f, pick_t, pick_f, take1, drop1, take0, drop0, arr_app, List.append_nil, bne_tt, bne_tf, bne_ft, bne_ff, beq_tt, beq_tf, beq_ft, beq_ff, dec_pos, dec_neg, Ld_some, wrap_i64, tdiv_pos, tmod_pos, Sl.add_lit, drew_cell, Nat.reduceAdd, Nat.zero_add, Nat.add_zero, Nat.mul_one, Nat.one_mul, Int.toNat_natCast, cells_int, cells_bool, cells_str, cells_ptr, cells_slice, cells_func, cells_nilf, cells_nilc, cells_iface, cells_map, cells_agg, size_one, toList_one, List.length_cons, List.length_nil, List.cons_append, List.nil_append, reduceCtorEq, and_self, and_true, true_and, if_true, if_false, ↓reduceIte, ne_eq, not_false_eq_true, not_true_eq_false, Option.isSome_some, Option.isSome_none, decide_true, decide_false, List.getElem?_toArray, List.getElem?_cons_zero, List.getElem?_cons_succ, Bool.and_true, Bool.and_self, Int.reduceEq, Int.reduceLT, Int.reduceLE, Int.reduceAdd, Int.reduceSub, Int.reduceMul, Int.reduceToNat, Nat.reduceMul, Nat.reduceLeDiff, Nat.le_refl, Nat.reduceLT, Nat.reduceSub]
        refine ⟨(i + 1, r'), rfl, ⟨by dsimp only; omega, ?_, hf'⟩, by dsimp only; omega⟩
        dsimp only
        rw [take_succ' hlt, List.map_append]
        exact hr'
    · simp -dsimp (disch := omega) only [↓MC.wp, ↓opsWp, ↓drWp, ↓MOp.wp, evs, ev, eget, eput, eput?, pev, pbin, pint, pbool, pstr, psl, vnil, pbuild, overlay, ↓thenQ, ↓blockQ, ↓retQ, ↓resWp, tupV, stills, MOp.still, known, Op.operands, List.toList_toArray, argEnv, ekeep, one_int, one_bool, one_str, one_ptr, one_slice, one_func, one_nilf, one_nilc, one_iface, one_map, Chk_true, Chk_of, Br_true, Br_false, Br_pos, Br_neg, Br_npos, Br_nneg, beq_t, beq_f, not_not', dec_true, dec_false, not_t, not_f, pick_t, pick_f, take1, drop1, take0, drop0, arr_app, List.append_nil, bne_tt, bne_tf, bne_ft, bne_ff, beq_tt, beq_tf, beq_ft, beq_ff, dec_pos, dec_neg, Ld_some, wrap_i64, tdiv_pos, tmod_pos, Sl.add_lit, drew_cell, Nat.reduceAdd, Nat.zero_add, Nat.add_zero, Nat.mul_one, Nat.one_mul, Int.toNat_natCast, cells_int, cells_bool, cells_str, cells_ptr, cells_slice, cells_func, cells_nilf, cells_nilc, cells_iface, cells_map, cells_agg, size_one, toList_one, List.length_cons, List.length_nil, List.cons_append, List.nil_append, reduceCtorEq, and_self, and_true, true_and, if_true, if_false, ↓reduceIte, ne_eq, not_false_eq_true, not_true_eq_false, Option.isSome_some, Option.isSome_none, decide_true, decide_false, List.getElem?_toArray, List.getElem?_cons_zero, List.getElem?_cons_succ, Bool.and_true, Bool.and_self, Int.reduceEq, Int.reduceLT, Int.reduceLE, Int.reduceAdd, Int.reduceSub, Int.reduceMul, Int.reduceToNat, Nat.reduceMul, Nat.reduceLeDiff, Nat.le_refl, Nat.reduceLT, Nat.reduceSub]
      have hin : i = a.length := by omega
      subst hin
      rw [List.take_length] at ho
      exact ⟨ho, hf⟩
  · rw [rmulM, if_neg hw]
    simp -dsimp (disch := omega) only [↓MC.wp, ↓opsWp, ↓drWp, ↓MOp.wp, evs, ev, eget, eput, eput?, pev, pbin, pint, pbool, pstr, psl, vnil, pbuild, overlay, ↓thenQ, ↓blockQ, ↓retQ, ↓resWp, tupV, stills, MOp.still, known, Op.operands, List.toList_toArray, argEnv, ekeep, one_int, one_bool, one_str, one_ptr, one_slice, one_func, one_nilf, one_nilc, one_iface, one_map, Chk_true, Chk_of, Br_true, Br_false, Br_pos, Br_neg, Br_npos, Br_nneg, beq_t, beq_f, not_not', dec_true, dec_false, not_t, not_f, pick_t, pick_f, take1, drop1, take0, drop0, arr_app, List.append_nil, bne_tt, bne_tf, bne_ft, bne_ff, beq_tt, beq_tf, beq_ft, beq_ff, dec_pos, dec_neg, Ld_some, wrap_i64, tdiv_pos, tmod_pos, Sl.add_lit, drew_cell, Nat.reduceAdd, Nat.zero_add, Nat.add_zero, Nat.mul_one, Nat.one_mul, Int.toNat_natCast, cells_int, cells_bool, cells_str, cells_ptr, cells_slice, cells_func, cells_nilf, cells_nilc, cells_iface, cells_map, cells_agg, size_one, toList_one, List.length_cons, List.length_nil, List.cons_append, List.nil_append, reduceCtorEq, and_self, and_true, true_and, if_true, if_false, ↓reduceIte, ne_eq, not_false_eq_true, not_true_eq_false, Option.isSome_some, Option.isSome_none, decide_true, decide_false, List.getElem?_toArray, List.getElem?_cons_zero, List.getElem?_cons_succ, Bool.and_true, Bool.and_self, Int.reduceEq, Int.reduceLT, Int.reduceLE, Int.reduceAdd, Int.reduceSub, Int.reduceMul, Int.reduceToNat, Nat.reduceMul, Nat.reduceLeDiff, Nat.le_refl, Nat.reduceLT, Nat.reduceSub, m_ref04_Mul, hcell0]
    exact ⟨NewMat.nil _ _, Fr.refl _ _⟩
end Go.Proofs.Ytgpkbldlkadnjaa
end
section
/- Walks: the reference's determinant. -/
set_option linter.unusedVariables false
set_option linter.unusedSimpArgs false
set_option maxHeartbeats 3000000
attribute [local irreducible] Go.Sl.Chk Go.Sl.Br Go.Sl.Ld Go.Sl.Ldn Go.Sl.LdB Go.Sl.Stn Go.Sl.New Go.Sl.Run Go.Sl.RunU Go.Sl.RunX Go.Sl.Call Go.Sl.LoopK Go.Sl.RawK Go.Sl.Om Go.Sl.xpk Go.Sl.xgpk Go.Sl.xglk Go.Sl.DLd Go.Sl.DLdG Go.Sl.DBs Go.Sl.DCall Go.Sl.DApp Go.Sl.DGen Go.Sl.DGenU Go.Sl.DGC Go.Sl.DLoop Go.Sl.DRaw Go.Sl.DRet Go.Sl.Ent Go.Sl.dget Go.Sl.dv Go.Sl.ev Go.Sl.eget
namespace Go.Proofs.Ytgpkbldlkadnjaa
open Go Go.Sl Go.RowKit

def minorTo (m : LL) (i k : Nat) : LL := ((List.range k).filter fun x => x != i).map fun k => (m.getD k []).drop 1
def minor (m : LL) (i : Nat) : LL := minorTo m i m.length
theorem minorTo_succ (m : LL) (i k : Nat) : minorTo m i (k + 1) = if k = i then minorTo m i k else minorTo m i k ++ [(m.getD k []).drop 1] := by
  rw [minorTo, List.range_succ, List.filter_append, List.map_append]
  by_cases h : k = i
  · rw [if_pos h]; simp [minorTo, h]
  · rw [if_neg h]; simp [minorTo, h]
theorem minorTo_length (m : LL) (i : Nat) : ∀ k, (minorTo m i k).length = if i < k then k - 1 else k
  | 0 => by simp [minorTo]
  | k + 1 => by
    rw [minorTo_succ]
    by_cases h : k = i
    · rw [if_pos h, minorTo_length m i k]; split <;> split <;> omega
    · rw [if_neg h, List.length_append, minorTo_length m i k]; simp only [List.length_cons, List.length_nil]; split <;> split <;> omega
theorem minorTo_wide (m : LL) (i n : Nat) (h : ∀ x ∈ m, x.length = n + 1) : ∀ k, k ≤ m.length → ∀ x ∈ minorTo m i k, x.length = n
  | 0, _ => by intro x hx; simp [minorTo] at hx
  | k + 1, hk => by
    intro x hx
    rw [minorTo_succ] at hx
    split at hx
    · exact minorTo_wide m i n h k (by omega) x hx
    · rcases List.mem_append.1 hx with hx | hx
      · exact minorTo_wide m i n h k (by omega) x hx
      · simp only [List.mem_cons, List.not_mem_nil, or_false] at hx
        subst hx
        rw [List.length_drop, getD_of_lt [] (by omega), h _ (List.getElem_mem (by omega))]
        omega
def detAcc (f : LL → UInt8) (m : LL) : Nat → UInt8
  | 0 => 0
  | i + 1 => if entry m i 0 = 0 then detAcc f m i else detAcc f m i ^^^ rmul (entry m i 0) (f (minor m i))
def det : Nat → LL → UInt8
  | 0 => fun _ => 0
  | 1 => fun m => entry m 0 0
  | n + 2 => fun m => detAcc (det (n + 1)) m (n + 2)

theorem BS.drop1 {w : World} {B n c : Nat} {ad : Addr} {xs : List UInt8} (h : BS w B (.slice (some ad) n c) xs) (hn : 1 ≤ n) : BS w B (.slice (some (ad.add 1)) (n - 1) (c - 1)) (xs.drop 1) := by
  obtain ⟨A', c', e, hc, hr⟩ := h.open
  cases e
  refine ⟨_, _, by rw [List.length_map, List.length_drop], by rw [List.length_map, List.length_drop]; omega, fun j u hu => ?_⟩
  have hj : j + 1 < xs.length := by
    have := (List.getElem?_eq_some_iff.1 hu).1
    rw [List.length_map, List.length_drop] at this
    omega
  obtain ⟨ad', e, hb, hcell⟩ := hr (j + 1) hj
  cases e
  refine ⟨_, rfl, by rw [add_block]; exact hb, ?_⟩
  rw [Addr.add_add, Nat.add_comm 1 j, hcell]
  rw [List.getElem?_map, List.getElem?_drop, Nat.add_comm 1 j, List.getElem?_eq_getElem hj] at hu
  exact hu
/-- a spine of one's own over rows that are only read (they lay there at the start) -/
def VM (w0 : World) (B : Nat) (w : World) (r : Value) (m : LL) : Prop :=
  ∃ vs, vs.length = m.length ∧ Ow w 29 1 r m.length vs ∧ New' w0.heap.size r ∧ ∀ (j : Nat) (u : Value) (x : List UInt8), vs[j]? = some u → m[j]? = some x → BS w0 B u x
theorem VM.nil (w0 : World) (B : Nat) (w : World) : VM w0 B w (.slice none 0 0) [] := ⟨[], rfl, Ow.nil w 29 1, New'.nil _, fun j u x h => by simp at h⟩
theorem VM.ms {w0 w : World} {B : Nat} {r : Value} {m : LL} (h : VM w0 B w r m) (hf : Fr No w0 w) (hB : B ≤ w0.heap.size) : MS w w.heap.size r m := by
  obtain ⟨vs, h1, h2, h3, h4⟩ := h
  refine ⟨vs, ?_, h1, fun j u x hu hx => (BS.fr (h4 j u x hu hx) hf fun _ _ h => h).mono (by have := hf.size; omega)⟩
  rw [← h1] at h2
  exact Ow.rs h2 fun b hb => Ow.lt h2 hb
theorem VM.push {w0 w : World} {B : Nat} {r u : Value} {m : LL} {x : List UInt8} (h : VM w0 B w r m) (hf : Fr No w0 w) (hu : BS w0 B u x) (hl : m.length ≤ 1000000) {b2 c : Nat} {w2 : World}
    (hc2 : w2.heap[b2]? = some (.cells #[u] 29 (0, 0))) (hf2 : Fr No w w2) {K : Value → World → Prop} {tg : TagF K}
    (k : ∀ r' w', VM w0 B w' r' (m ++ [x]) → Fr No w0 w' → K r' w') :
    Run Try.prog (Builtin.append_ #[22, 22] 22 #[r, .slice (some ⟨b2, 0, none⟩) 1 c]) w2 K tg := by
  obtain ⟨vs, h1, h2, h3, h4⟩ := h
  have hsz := hf.size
  have hsz2 := hf2.size
  refine app elM (Ow.no h2 hf2) (m := 1) (src_lit hc2 c) rfl ?_ (by omega) (by omega) fun v4 w4 ho4 hf4 hat => ?_
  · intro v hv
    simp at hv
    subst hv
    obtain ⟨_, _, rfl, _⟩ := hu.open
    rfl
  · refine k v4 w4 ⟨vs ++ [u], by simp [h1], by simpa using ho4, h3.app (by omega) hat, fun j v y hv hy => ?_⟩ ((hf.then hf2).own h3 hf4)
    by_cases hj : j < m.length
    · rw [List.getElem?_append_left (by omega)] at hv
      rw [List.getElem?_append_left hj] at hy
      exact h4 j v y hv hy
    · rw [List.getElem?_append_right (by omega)] at hv
      rw [List.getElem?_append_right (by omega)] at hy
      rw [h1] at hv
      cases hk : j - m.length with
      | zero =>
        rw [hk] at hv hy
        simp only [List.getElem?_cons_zero, Option.some.injEq] at hv hy
        subst hv
        subst hy
        exact hu
      | succ k => rw [hk] at hv; simp at hv
end Go.Proofs.Ytgpkbldlkadnjaa
end
section
/- Walks: the reference's determinant, walked. -/
set_option linter.unusedVariables false
set_option linter.unusedSimpArgs false
set_option maxHeartbeats 3000000
attribute [local irreducible] Go.Sl.Chk Go.Sl.Br Go.Sl.Ld Go.Sl.Ldn Go.Sl.LdB Go.Sl.Stn Go.Sl.New Go.Sl.Run Go.Sl.RunU Go.Sl.RunX Go.Sl.Call Go.Sl.LoopK Go.Sl.RawK Go.Sl.Om Go.Sl.xpk Go.Sl.xgpk Go.Sl.xglk Go.Sl.DLd Go.Sl.DLdG Go.Sl.DBs Go.Sl.DCall Go.Sl.DApp Go.Sl.DGen Go.Sl.DGenU Go.Sl.DGC Go.Sl.DLoop Go.Sl.DRaw Go.Sl.DRet Go.Sl.Ent Go.Sl.dget Go.Sl.dv Go.Sl.ev Go.Sl.eget
namespace Go.Proofs.Ytgpkbldlkadnjaa
open Go Go.Sl Go.RowKit

theorem det_calls : ∀ (n : Nat), 1 ≤ n → n ≤ 1000 → ∀ (w : World) (B : Nat) (v : Value) (m : LL), MS w B v m → B ≤ w.heap.size → m.length = n → (∀ x ∈ m, x.length = n) →
    Calls Try.prog f_ref04_Det #[v] w fun en w' => ∃ r, en = .returned r ∧ (r = U8 (det n m) ∧ Fr No w w')
  | 0, h, _ => by omega
  | 1, _, _ => by
    intro w B v m hm hB hn hw
    obtain ⟨A, c, rfl⟩ := MS.form hm
    obtain ⟨ad, A2, c2, rfl, hcell, hrow⟩ := MS.row hm (j := 0) (by omega)
    have hw0 : m[0].length = 1 := hw _ (List.getElem_mem (by omega))
    obtain ⟨A3, c3, e4, hc3, hcells⟩ := hrow.open
    cases e4
    obtain ⟨ae, hae, _, hcellx⟩ := hcells 0 (by omega)
    subst hae
    refine calls_of_mf (args := [.slice (some ad) m.length c]) c_ref04_Det (by simp only [m_ref04_Det, List.length]; decide) ?_
    simp -dsimp (disch := omega) only [↓MC.wp, ↓opsWp, ↓drWp, ↓MOp.wp, evs, ev, eget, eput, eput?, pev, pbin, pint, pbool, pstr, psl, vnil, pbuild, overlay, ↓thenQ, ↓blockQ, ↓retQ, ↓resWp, tupV, stills, MOp.still, known, Op.operands, List.toList_toArray, argEnv, ekeep, one_int, one_bool, one_str, one_ptr, one_slice, one_func, one_nilf, one_nilc, one_iface, one_map, Chk_true, Chk_of, Br_true, Br_false, Br_pos, Br_neg, Br_npos, Br_nneg, beq_t, beq_f, not_not', dec_true, dec_false, not_t, not_f, pick_t, pick_f, take1, drop1, take0, drop0, arr_app, List.append_nil, bne_tt, bne_tf, bne_ft, bne_ff, beq_tt, beq_tf, beq_ft, beq_ff, dec_pos, dec_neg, Ld_some, wrap_i64, tdiv_pos, tmod_pos, Sl.add_lit, drew_cell, Nat.reduceAdd, Nat.zero_add, Nat.add_zero, Nat.mul_one, Nat.one_mul, Int.toNat_natCast, cells_int, cells_bool, cells_str, cells_ptr, cells_slice, cells_func, cells_nilf, cells_nilc, cells_iface, cells_map, cells_agg, size_one, toList_one, List.length_cons, List.length_nil, List.cons_append, List.nil_append, reduceCtorEq, and_self, and_true, true_and, if_true, if_false, ↓reduceIte, ne_eq, not_false_eq_true, not_true_eq_false, Option.isSome_some, Option.isSome_none, decide_true, decide_false, List.getElem?_toArray, List.getElem?_cons_zero, List.getElem?_cons_succ, Bool.and_true, Bool.and_self, Int.reduceEq, Int.reduceLT, Int.reduceLE, Int.reduceAdd, Int.reduceSub, Int.reduceMul, Int.reduceToNat, Nat.reduceMul, Nat.reduceLeDiff, Nat.le_refl, Nat.reduceLT, Nat.reduceSub, m_ref04_Det, hcell, hcellx]
    refine ⟨?_, Fr.refl _ _⟩
    have e : det 1 m = m[0][0] := entry_eq (by omega) (by omega)
    rw [e]
  | n + 2, _, hn1 => by
    intro w B v m hm hB hn hw
    obtain ⟨A, c, rfl⟩ := MS.form hm
    refine calls_of_mf (args := [.slice A m.length c]) c_ref04_Det (by simp only [m_ref04_Det, List.length]; decide) ?_
    simp -dsimp (disch := omega) only [↓MC.wp, ↓opsWp, ↓drWp, ↓MOp.wp, evs, ev, eget, eput, eput?, pev, pbin, pint, pbool, pstr, psl, vnil, pbuild, overlay, ↓thenQ, ↓blockQ, ↓retQ, ↓resWp, tupV, stills, MOp.still, known, Op.operands, List.toList_toArray, argEnv, ekeep, one_int, one_bool, one_str, one_ptr, one_slice, one_func, one_nilf, one_nilc, one_iface, one_map, Chk_true, Chk_of, Br_true, Br_false, Br_pos, Br_neg, Br_npos, Br_nneg, beq_t, beq_f, not_not', dec_true, dec_false, not_t, not_f, pick_t, pick_f, take1, drop1, take0, drop0, arr_app, List.append_nil, bne_tt, bne_tf, bne_ft, bne_ff, beq_tt, beq_tf, beq_ft, beq_ff, dec_pos, dec_neg, Ld_some, wrap_i64, tdiv_pos, tmod_pos, Sl.add_lit, drew_cell, Nat.reduceAdd, Nat.zero_add, Nat.add_zero, Nat.mul_one, Nat.one_mul, Int.toNat_natCast, cells_int, cells_bool, cells_str, cells_ptr, cells_slice, cells_func, cells_nilf, cells_nilc, cells_iface, cells_map, cells_agg, size_one, toList_one, List.length_cons, List.length_nil, List.cons_append, List.nil_append, reduceCtorEq, and_self, and_true, true_and, if_true, if_false, ↓reduceIte, ne_eq, not_false_eq_true, not_true_eq_false, Option.isSome_some, Option.isSome_none, decide_true, decide_false, List.getElem?_toArray, List.getElem?_cons_zero, List.getElem?_cons_succ, Bool.and_true, Bool.and_self, Int.reduceEq, Int.reduceLT, Int.reduceLE, Int.reduceAdd, Int.reduceSub, Int.reduceMul, Int.reduceToNat, Nat.reduceMul, Nat.reduceLeDiff, Nat.le_refl, Nat.reduceLT, Nat.reduceSub, m_ref04_Det]
    refine loopS [0, 3, 4] (fun i : Nat => [(0, .slice A m.length c), (3, U8 (detAcc (det (n + 1)) m i)), (4, .int .i64 i)])
      (fun i w1 => i ≤ m.length ∧ Fr No w w1) (fun i _ => m.length - i) 0 (by with_unfolding_all rfl) ⟨Nat.zero_le _, Fr.refl _ _⟩ ?_
    rintro i w1 ⟨hi, hf⟩
    by_cases hlt : i < m.length
    · simp -dsimp (disch := omega) only [↓MC.wp, ↓opsWp, ↓drWp, ↓MOp.wp, evs, ev, eget, eput, eput?, pev, pbin, pint, pbool, pstr, psl, vnil, pbuild, overlay, ↓thenQ, ↓blockQ, ↓retQ, ↓resWp, tupV, stills, MOp.still, known, Op.operands, List.toList_toArray, argEnv, ekeep, one_int, one_bool, one_str, one_ptr, one_slice, one_func, one_nilf, one_nilc, one_iface, one_map, Chk_true, Chk_of, Br_true, Br_false, Br_pos, Br_neg, Br_npos, Br_nneg, beq_t, beq_f, not_not', dec_true, dec_false, not_t, not_f, pick_t, pick_f, take1, drop1, take0, drop0, arr_app, List.append_nil, bne_tt, bne_tf, bne_ft, bne_ff, beq_tt, beq_tf, beq_ft, beq_ff, dec_pos, dec_neg, Ld_some, wrap_i64, tdiv_pos, tmod_pos, Sl.add_lit, drew_cell, Nat.reduceAdd, Nat.zero_add, Nat.add_zero, Nat.mul_one, Nat.one_mul, Int.toNat_natCast, cells_int, cells_bool, cells_str, cells_ptr, cells_slice, cells_func, cells_nilf, cells_nilc, cells_iface, cells_map, cells_agg, size_one, toList_one, List.length_cons, List.length_nil, List.cons_append, List.nil_append, reduceCtorEq, and_self, and_true, true_and, if_true, if_false, ↓reduceIte, ne_eq, not_false_eq_true, not_true_eq_false, Option.isSome_some, Option.isSome_none, decide_true, decide_false, List.getElem?_toArray, List.getElem?_cons_zero, List.getElem?_cons_succ, Bool.and_true, Bool.and_self, Int.reduceEq, Int.reduceLT, Int.reduceLE, Int.reduceAdd, Int.reduceSub, Int.reduceMul, Int.reduceToNat, Nat.reduceMul, Nat.reduceLeDiff, Nat.le_refl, Nat.reduceLT, Nat.reduceSub]
      have hm1 : MS w1 B (.slice A m.length c) m := hm.fr hf fun _ _ h => h
      have hB1 : B ≤ w1.heap.size := by have := hf.size; omega
      refine loopS [0, 3, 4, 5, 6] (fun s : Nat × Value => [(0, .slice A m.length c), (3, U8 (detAcc (det (n + 1)) m i)), (4, .int .i64 i), (5, s.2), (6, .int .i64 s.1)])
        (fun s w2 => s.1 ≤ m.length ∧ VM w1 B w2 s.2 (minorTo m i s.1) ∧ Fr No w1 w2) (fun s _ => m.length - s.1) (0, .slice none 0 0) (by with_unfolding_all rfl) ⟨Nat.zero_le _, VM.nil _ _ _, Fr.refl _ _⟩ ?_
      rintro ⟨k, o⟩ w2 ⟨hk, ho, hf2⟩
      dsimp only at hk ho ⊢
      by_cases hkl : k < m.length
      · by_cases hki : k = i
        · simp -dsimp (disch := omega) only [↓MC.wp, ↓opsWp, ↓drWp, ↓MOp.wp, evs, ev, eget, eput, eput?, pev, pbin, pint, pbool, pstr, psl, vnil, pbuild, overlay, ↓thenQ, ↓blockQ, ↓retQ, ↓resWp, tupV, stills, MOp.still, known, Op.operands, List.toList_toArray, argEnv, ekeep, one_int, one_bool, one_str, one_ptr, one_slice, one_func, one_nilf, one_nilc, one_iface, one_map, Chk_true, Chk_of, Br_true, Br_false, Br_pos, Br_neg, Br_npos, Br_nneg, beq_t, beq_f, not_not', dec_true, dec_false, not_t, not_f, pick_t, pick_f, take1, drop1, take0, drop0, arr_app, List.append_nil, bne_tt, bne_tf, bne_ft, bne_ff, beq_tt, beq_tf, beq_ft, beq_ff, dec_pos, dec_neg, Ld_some, wrap_i64, tdiv_pos, tmod_pos, Sl.add_lit, drew_cell, Nat.reduceAdd, Nat.zero_add, Nat.add_zero, Nat.mul_one, Nat.one_mul, Int.toNat_natCast, cells_int, cells_bool, cells_str, cells_ptr, cells_slice, cells_func, cells_nilf, cells_nilc, cells_iface, cells_map, cells_agg, size_one, toList_one, List.length_cons, List.length_nil, List.cons_append, List.nil_append, reduceCtorEq, and_self, and_true, true_and, if_true, if_false, ↓reduceIte, ne_eq, not_false_eq_true, not_true_eq_false, Option.isSome_some, Option.isSome_none, decide_true, decide_false, List.getElem?_toArray, List.getElem?_cons_zero, List.getElem?_cons_succ, Bool.and_true, Bool.and_self, Int.reduceEq, Int.reduceLT, Int.reduceLE, Int.reduceAdd, Int.reduceSub, Int.reduceMul, Int.reduceToNat, Nat.reduceMul, Nat.reduceLeDiff, Nat.le_refl, Nat.reduceLT, Nat.reduceSub]
          refine ⟨(k + 1, o), rfl, ⟨by dsimp only; omega, ?_, hf2⟩, by dsimp only; omega⟩
          dsimp only
          rw [minorTo_succ, if_pos hki]
          exact ho
        · obtain ⟨ad, A2, c2, rfl, hcell, hrow⟩ := MS.row hm1 hkl
          have hwk : m[k].length = n + 2 := hw _ (List.getElem_mem hkl)
          obtain ⟨A3, c3, e4, hc3, hcells⟩ := hrow.open
          cases e4
          obtain ⟨ae, hae, _, hcellx⟩ := hcells 0 (by omega)
          subst hae
          have hcell2 : w2.cell? (ad.add k) = some (.slice (some ae) m[k].length c2) := by rw [hf2.cell (cell_block_lt hcell) (fun h => h)]; exact hcell
          have hne : ¬ ((c2 : Int) = 1) := by omega
          simp -dsimp (disch := omega) only [↓MC.wp, ↓opsWp, ↓drWp, ↓MOp.wp, evs, ev, eget, eput, eput?, pev, pbin, pint, pbool, pstr, psl, vnil, pbuild, overlay, ↓thenQ, ↓blockQ, ↓retQ, ↓resWp, tupV, stills, MOp.still, known, Op.operands, List.toList_toArray, argEnv, ekeep, one_int, one_bool, one_str, one_ptr, one_slice, one_func, one_nilf, one_nilc, one_iface, one_map, Chk_true, Chk_of, Br_true, Br_false, Br_pos, Br_neg, Br_npos, Br_nneg, beq_t, beq_f, not_not', dec_true, dec_false, not_t, not_f, pick_t, pick_f, take1, drop1, take0, drop0, arr_app, List.append_nil, bne_tt, bne_tf, bne_ft, bne_ff, beq_tt, beq_tf, beq_ft, beq_ff, dec_pos, dec_neg, Ld_some, wrap_i64, tdiv_pos, tmod_pos, Sl.add_lit, drew_cell, Nat.reduceAdd, Nat.zero_add, Nat.add_zero, Nat.mul_one, Nat.one_mul, Int.toNat_natCast, cells_int, cells_bool, cells_str, cells_ptr, cells_slice, cells_func, cells_nilf, cells_nilc, cells_iface, cells_map, cells_agg, size_one, toList_one, List.length_cons, List.length_nil, List.cons_append, List.nil_append, reduceCtorEq, and_self, and_true, true_and, if_true, if_false, ↓reduceIte, ne_eq, not_false_eq_true, not_true_eq_false, Option.isSome_some, Option.isSome_none, decide_true, decide_false, List.getElem?_toArray, List.getElem?_cons_zero, List.getElem?_cons_succ, Bool.and_true, Bool.and_self, Int.reduceEq, Int.reduceLT, Int.reduceLE, Int.reduceAdd, Int.reduceSub, Int.reduceMul, Int.reduceToNat, Nat.reduceMul, Nat.reduceLeDiff, Nat.le_refl, Nat.reduceLT, Nat.reduceSub, hcell2, hne, Option.map_some, set_one]
          refine new ?_
          intro b2 w3 hb3 hs3 hc3' hf3
          simp -dsimp (disch := omega) only [↓MC.wp, ↓opsWp, ↓drWp, ↓MOp.wp, evs, ev, eget, eput, eput?, pev, pbin, pint, pbool, pstr, psl, vnil, pbuild, overlay, ↓thenQ, ↓blockQ, ↓retQ, ↓resWp, tupV, stills, MOp.still, known, Op.operands, List.toList_toArray, argEnv, ekeep, one_int, one_bool, one_str, one_ptr, one_slice, one_func, one_nilf, one_nilc, one_iface, one_map, Chk_true, Chk_of, Br_true, Br_false, Br_pos, Br_neg, Br_npos, Br_nneg, beq_t, beq_f, not_not', dec_true, dec_false, not_t, not_f, pick_t, pick_f, take1, drop1, take0, drop0, arr_app, List.append_nil, bne_tt, bne_tf, bne_ft, bne_ff, beq_tt, beq_tf, beq_ft, beq_ff, dec_pos, dec_neg, Ld_some, wrap_i64, tdiv_pos, tmod_pos, Sl.add_lit, drew_cell, Nat.reduceAdd, Nat.zero_add, Nat.add_zero, Nat.mul_one, Nat.one_mul, Int.toNat_natCast, cells_int, cells_bool, cells_str, cells_ptr, cells_slice, cells_func, cells_nilf, cells_nilc, cells_iface, cells_map, cells_agg, size_one, toList_one, List.length_cons, List.length_nil, List.cons_append, List.nil_append, reduceCtorEq, and_self, and_true, true_and, if_true, if_false, ↓reduceIte, ne_eq, not_false_eq_true, not_true_eq_false, Option.isSome_some, Option.isSome_none, decide_true, decide_false, List.getElem?_toArray, List.getElem?_cons_zero, List.getElem?_cons_succ, Bool.and_true, Bool.and_self, Int.reduceEq, Int.reduceLT, Int.reduceLE, Int.reduceAdd, Int.reduceSub, Int.reduceMul, Int.reduceToNat, Nat.reduceMul, Nat.reduceLeDiff, Nat.le_refl, Nat.reduceLT, Nat.reduceSub]
          have hlen : (minorTo m i k).length ≤ 1000000 := by rw [minorTo_length]; split <;> omega
          refine VM.push ho hf2 (BS.drop1 hrow (by omega)) hlen hc3' hf3 ?_
          intro r' w4 hr4 hf4
          simp -dsimp (disch := omega) only [↓MC.wp, ↓opsWp, ↓drWp, ↓MOp.wp, evs, ev, eget, eput, eput?, pev, pbin, pint, pbool, pstr, psl, vnil, pbuild, overlay, ↓thenQ, ↓blockQ, ↓retQ, ↓resWp, tupV, stills, MOp.still, known, Op.operands, List.toList_toArray, argEnv, ekeep, one_int, one_bool, one_str, one_ptr, one_slice, one_func, one_nilf, one_nilc, one_iface, one_map, Chk_true, Chk_of, Br_true, Br_false, Br_pos, Br_neg, Br_npos, Br_nneg, beq_t, beq_f, not_not', dec_true, dec_false, not_t, not_f, pick_t, pick_f, take1, drop1, take0, drop0, arr_app, List.append_nil, bne_tt, bne_tf, bne_ft, bne_ff, beq_tt, beq_tf, beq_ft, beq_ff, dec_pos, dec_neg, Ld_some, wrap_i64, tdiv_pos, tmod_pos, Sl.add_lit, drew_cell, Nat.reduceAdd, Nat.zero_add, Nat.add_zero, Nat.mul_one, Nat.one_mul, Int.toNat_natCast, cells_int, cells_bool, cells_str, cells_ptr, cells_slice, cells_func, cells_nilf, cells_nilc, cells_iface, cells_map, cells_agg, size_one, toList_one, List.length_cons, List.length_nil, List.cons_append, List.nil_append, reduceCtorEq, and_self, and_true, true_and, if_true, if_false, ↓reduceIte, ne_eq, not_false_eq_true, not_true_eq_false, Option.isSome_some, Option.isSome_none, decide_true, decide_false, List.getElem?_toArray, List.getElem?_cons_zero, List.getElem?_cons_succ, Bool.and_true, Bool.and_self, Int.reduceEq, Int.reduceLT, Int.reduceLE, Int.reduceAdd, Int.reduceSub, Int.reduceMul, Int.reduceToNat, Nat.reduceMul, Nat.reduceLeDiff, Nat.le_refl, Nat.reduceLT, Nat.reduceSub]
          refine ⟨(k + 1, r'), rfl, ⟨by dsimp only; omega, ?_, hf4⟩, by dsimp only; omega⟩
          dsimp only
          rw [minorTo_succ, if_neg hki, getD_of_lt [] hkl]
          exact hr4
      · have hkm : k = m.length := by omega
        subst hkm
        obtain ⟨ad, A2, c2, rfl, hcell, hrow⟩ := MS.row hm1 hlt
        have hwi : m[i].length = n + 2 := hw _ (List.getElem_mem hlt)
        obtain ⟨A3, c3, e4, hc3, hcells⟩ := hrow.open
        cases e4
        obtain ⟨ae, hae, _, hcellx⟩ := hcells 0 (by omega)
        subst hae
        have g1 : w2.cell? (ad.add i) = some (.slice (some ae) m[i].length c2) := by rw [hf2.cell (cell_block_lt hcell) (fun h => h)]; exact hcell
        have g2 : w2.cell? (ae.add 0) = some (U8 m[i][0]) := by rw [hf2.cell (cell_block_lt hcellx) (fun h => h)]; exact hcellx
        have hen : entry m i 0 = m[i][0] := entry_eq hlt (by omega)
        by_cases h0 : m[i][0].toNat = 0
        · simp -dsimp (disch := omega) only [↓MC.wp, ↓opsWp, ↓drWp, ↓MOp.wp, evs, ev, eget, eput, eput?, pev, pbin, pint, pbool, pstr, psl, vnil, pbuild, overlay, ↓thenQ, ↓blockQ, ↓retQ, ↓resWp, tupV, stills, MOp.still, known, Op.operands, List.toList_toArray, argEnv, ekeep, one_int, one_bool, one_str, one_ptr, one_slice, one_func, one_nilf, one_nilc, one_iface, one_map, Chk_true, Chk_of, Br_true, Br_false, Br_pos, Br_neg, Br_npos, Br_nneg, beq_t, beq_f, not_not', dec_true, dec_false, not_t, not_f, pick_t, pick_f, take1, drop1, take0, drop0, arr_app, List.append_nil, bne_tt, bne_tf, bne_ft, bne_ff, beq_tt, beq_tf, beq_ft, beq_ff, dec_pos, dec_neg, Ld_some, wrap_i64, tdiv_pos, tmod_pos, Sl.add_lit, drew_cell, Nat.reduceAdd, Nat.zero_add, Nat.add_zero, Nat.mul_one, Nat.one_mul, Int.toNat_natCast, cells_int, cells_bool, cells_str, cells_ptr, cells_slice, cells_func, cells_nilf, cells_nilc, cells_iface, cells_map, cells_agg, size_one, toList_one, List.length_cons, List.length_nil, List.cons_append, List.nil_append, reduceCtorEq, and_self, and_true, true_and, if_true, if_false, ↓reduceIte, ne_eq, not_false_eq_true, not_true_eq_false, Option.isSome_some, Option.isSome_none, decide_true, decide_false, List.getElem?_toArray, List.getElem?_cons_zero, List.getElem?_cons_succ, Bool.and_true, Bool.and_self, Int.reduceEq, Int.reduceLT, Int.reduceLE, Int.reduceAdd, Int.reduceSub, Int.reduceMul, Int.reduceToNat, Nat.reduceMul, Nat.reduceLeDiff, Nat.le_refl, Nat.reduceLT, Nat.reduceSub, g1, g2, U8]
          refine ⟨i + 1, ?_, ⟨by omega, hf.then hf2⟩, by omega⟩
          rw [detAcc, hen, if_pos ((u8_zero _).1 h0)]
          rfl
        · simp -dsimp (disch := omega) only [↓MC.wp, ↓opsWp, ↓drWp, ↓MOp.wp, evs, ev, eget, eput, eput?, pev, pbin, pint, pbool, pstr, psl, vnil, pbuild, overlay, ↓thenQ, ↓blockQ, ↓retQ, ↓resWp, tupV, stills, MOp.still, known, Op.operands, List.toList_toArray, argEnv, ekeep, one_int, one_bool, one_str, one_ptr, one_slice, one_func, one_nilf, one_nilc, one_iface, one_map, Chk_true, Chk_of, Br_true, Br_false, Br_pos, Br_neg, Br_npos, Br_nneg, beq_t, beq_f, not_not', dec_true, dec_false, not_t, not_f, pick_t, pick_f, take1, drop1, take0, drop0, arr_app, List.append_nil, bne_tt, bne_tf, bne_ft, bne_ff, beq_tt, beq_tf, beq_ft, beq_ff, dec_pos, dec_neg, Ld_some, wrap_i64, tdiv_pos, tmod_pos, Sl.add_lit, drew_cell, Nat.reduceAdd, Nat.zero_add, Nat.add_zero, Nat.mul_one, Nat.one_mul, Int.toNat_natCast, cells_int, cells_bool, cells_str, cells_ptr, cells_slice, cells_func, cells_nilf, cells_nilc, cells_iface, cells_map, cells_agg, size_one, toList_one, List.length_cons, List.length_nil, List.cons_append, List.nil_append, reduceCtorEq, and_self, and_true, true_and, if_true, if_false, ↓reduceIte, ne_eq, not_false_eq_true, not_true_eq_false, Option.isSome_some, Option.isSome_none, decide_true, decide_false, List.getElem?_toArray, List.getElem?_cons_zero, List.getElem?_cons_succ, Bool.and_true, Bool.and_self, Int.reduceEq, Int.reduceLT, Int.reduceLE, Int.reduceAdd, Int.reduceSub, Int.reduceMul, Int.reduceToNat, Nat.reduceMul, Nat.reduceLeDiff, Nat.le_refl, Nat.reduceLT, Nat.reduceSub, g1, g2, U8]
          have hms : MS w2.drew w2.heap.size o (minor m i) := ho.ms hf2 hB1
          have hml : (minor m i).length = n + 1 := by rw [minor, minorTo_length, if_pos hlt]; omega
          refine call (det_calls (n + 1) (by omega) (by omega) _ _ _ _ hms (Nat.le_refl _) hml (minorTo_wide m i (n + 1) hw m.length (Nat.le_refl _))) ?_
          intro r w5 h5
          rw [h5.1]
          have hf5 := h5.2
          have g1' : w5.cell? (ad.add i) = some (.slice (some ae) m[i].length c2) := by rw [hf5.cell (cell_block_lt g1) (fun h => h)]; exact g1
          have g2' : w5.cell? (ae.add 0) = some (U8 m[i][0]) := by rw [hf5.cell (cell_block_lt g2) (fun h => h)]; exact g2
          simp -dsimp (disch := omega) only [↓MC.wp, ↓opsWp, ↓drWp, ↓MOp.wp, evs, ev, eget, eput, eput?, pev, pbin, pint, pbool, pstr, psl, vnil, pbuild, overlay, ↓thenQ, ↓blockQ, ↓retQ, ↓resWp, tupV, stills, MOp.still, known, Op.operands, List.toList_toArray, argEnv, ekeep, one_int, one_bool, one_str, one_ptr, one_slice, one_func, one_nilf, one_nilc, one_iface, one_map, Chk_true, Chk_of, Br_true, Br_false, Br_pos, Br_neg, Br_npos, Br_nneg, beq_t, beq_f, not_not', dec_true, dec_false, not_t, not_f, pick_t, pick_f, take1, drop1, take0, drop0, arr_app, List.append_nil, bne_tt, bne_tf, bne_ft, bne_ff, beq_tt, beq_tf, beq_ft, beq_ff, dec_pos, dec_neg, Ld_some, wrap_i64, tdiv_pos, tmod_pos, Sl.add_lit, drew_cell, Nat.reduceAdd, Nat.zero_add, Nat.add_zero, Nat.mul_one, Nat.one_mul, Int.toNat_natCast, cells_int, cells_bool, cells_str, cells_ptr, cells_slice, cells_func, cells_nilf, cells_nilc, cells_iface, cells_map, cells_agg, size_one, toList_one, List.length_cons, List.length_nil, List.cons_append, List.nil_append, reduceCtorEq, and_self, and_true, true_and, if_true, if_false, ↓reduceIte, ne_eq, not_false_eq_true, not_true_eq_false, Option.isSome_some, Option.isSome_none, decide_true, decide_false, List.getElem?_toArray, List.getElem?_cons_zero, List.getElem?_cons_succ, Bool.and_true, Bool.and_self, Int.reduceEq, Int.reduceLT, Int.reduceLE, Int.reduceAdd, Int.reduceSub, Int.reduceMul, Int.reduceToNat, Nat.reduceMul, Nat.reduceLeDiff, Nat.le_refl, Nat.reduceLT, Nat.reduceSub, g1', g2', U8]
          refine call (rmul_calls m[i][0] (det (n + 1) (minor m i))) ?_
          intro r2 w6 h6
          rw [h6.1]
          have hf6 := h6.2
          have g1'' : w6.cell? (ad.add i) = some (.slice (some ae) m[i].length c2) := by rw [hf6.cell (cell_block_lt g1') (fun h => h)]; exact g1'
          simp -dsimp (disch := omega) only [↓MC.wp, ↓opsWp, ↓drWp, ↓MOp.wp, evs, ev, eget, eput, eput?, pev, pbin, pint, pbool, pstr, psl, vnil, pbuild, overlay, ↓thenQ, ↓blockQ, ↓retQ, ↓resWp, tupV, stills, MOp.still, known, Op.operands, List.toList_toArray, argEnv, ekeep, one_int, one_bool, one_str, one_ptr, one_slice, one_func, one_nilf, one_nilc, one_iface, one_map, Chk_true, Chk_of, Br_true, Br_false, Br_pos, Br_neg, Br_npos, Br_nneg, beq_t, beq_f, not_not', dec_true, dec_false, not_t, not_f, pick_t, pick_f, take1, drop1, take0, drop0, arr_app, List.append_nil, bne_tt, bne_tf, bne_ft, bne_ff, beq_tt, beq_tf, beq_ft, beq_ff, dec_pos, dec_neg, Ld_some, wrap_i64, tdiv_pos, tmod_pos, Sl.add_lit, drew_cell, Nat.reduceAdd, Nat.zero_add, Nat.add_zero, Nat.mul_one, Nat.one_mul, Int.toNat_natCast, cells_int, cells_bool, cells_str, cells_ptr, cells_slice, cells_func, cells_nilf, cells_nilc, cells_iface, cells_map, cells_agg, size_one, toList_one, List.length_cons, List.length_nil, List.cons_append, List.nil_append, reduceCtorEq, and_self, and_true, true_and, if_true, if_false, ↓reduceIte, ne_eq, not_false_eq_true, not_true_eq_false, Option.isSome_some, Option.isSome_none, decide_true, decide_false, List.getElem?_toArray, List.getElem?_cons_zero, List.getElem?_cons_succ, Bool.and_true, Bool.and_self, Int.reduceEq, Int.reduceLT, Int.reduceLE, Int.reduceAdd, Int.reduceSub, Int.reduceMul, Int.reduceToNat, Nat.reduceMul, Nat.reduceLeDiff, Nat.le_refl, Nat.reduceLT, Nat.reduceSub, g1'', U8, xor_u8]
          refine ⟨i + 1, ?_, ⟨by omega, ((hf.then hf2).drew.then hf5).then hf6⟩, by omega⟩
          rw [detAcc, hen, if_neg (fun e => h0 ((u8_zero _).2 e))]
          rfl
    · simp -dsimp (disch := omega) only [↓MC.wp, ↓opsWp, ↓drWp, ↓MOp.wp, evs, ev, eget, eput, eput?, pev, pbin, pint, pbool, pstr, psl, vnil, pbuild, overlay, ↓thenQ, ↓blockQ, ↓retQ, ↓resWp, tupV, stills, MOp.still, known, Op.operands, List.toList_toArray, argEnv, ekeep, one_int, one_bool, one_str, one_ptr, one_slice, one_func, one_nilf, one_nilc, one_iface, one_map, Chk_true, Chk_of, Br_true, Br_false, Br_pos, Br_neg, Br_npos, Br_nneg, beq_t, beq_f, not_not', dec_true, dec_false, not_t, not_f, pick_t, pick_f, take1, drop1, take0, drop0, arr_app, List.append_nil, bne_tt, bne_tf, bne_ft, bne_ff, beq_tt, beq_tf, beq_ft, beq_ff, dec_pos, dec_neg, Ld_some, wrap_i64, tdiv_pos, tmod_pos, Sl.add_lit, drew_cell, Nat.reduceAdd, Nat.zero_add, Nat.add_zero, Nat.mul_one, Nat.one_mul, Int.toNat_natCast, cells_int, cells_bool, cells_str, cells_ptr, cells_slice, cells_func, cells_nilf, cells_nilc, cells_iface, cells_map, cells_agg, size_one, toList_one, List.length_cons, List.length_nil, List.cons_append, List.nil_append, reduceCtorEq, and_self, and_true, true_and, if_true, if_false, ↓reduceIte, ne_eq, not_false_eq_true, not_true_eq_false, Option.isSome_some, Option.isSome_none, decide_true, decide_false, List.getElem?_toArray, List.getElem?_cons_zero, List.getElem?_cons_succ, Bool.and_true, Bool.and_self, Int.reduceEq, Int.reduceLT, Int.reduceLE, Int.reduceAdd, Int.reduceSub, Int.reduceMul, Int.reduceToNat, Nat.reduceMul, Nat.reduceLeDiff, Nat.le_refl, Nat.reduceLT, Nat.reduceSub]
      have hin : i = m.length := by omega
      subst hin
      refine ⟨?_, hf⟩
      rw [hn]
      rfl
end Go.Proofs.Ytgpkbldlkadnjaa
end
section
/- Plain: the field's laws. -/
set_option linter.unusedVariables false
set_option maxHeartbeats 2000000
namespace Go.Proofs.Ytgpkbldlkadnjaa
open Go Go.Sl

/-! ### one step: x times 2 -/
theorem step_xor_all : (List.range 256).all (fun x => (List.range 256).all fun y => stepX (x ^^^ y) == stepX x ^^^ stepX y) = true := by decide +kernel
theorem step_xor {x y : Nat} (hx : x < 256) (hy : y < 256) : stepX (x ^^^ y) = stepX x ^^^ stepX y := by
  have := List.all_eq_true.1 (List.all_eq_true.1 step_xor_all x (List.mem_range.2 hx)) y (List.mem_range.2 hy)
  simpa using this

/-! ### the tables, written out -/
def expT : List Nat := [1, 2, 4, 8, 16, 32, 64, 128, 29, 58, 116, 232, 205, 135, 19, 38, 76, 152, 45, 90, 180, 117, 234, 201, 143, 3, 6, 12, 24, 48, 96, 192, 157, 39, 78, 156, 37, 74, 148, 53, 106, 212, 181, 119, 238, 193, 159, 35, 70, 140, 5, 10, 20, 40, 80, 160, 93, 186, 105, 210, 185, 111, 222, 161, 95, 190, 97, 194, 153, 47, 94, 188, 101, 202, 137, 15, 30, 60, 120, 240, 253, 231, 211, 187, 107, 214, 177, 127, 254, 225, 223, 163, 91, 182, 113, 226, 217, 175, 67, 134, 17, 34, 68, 136, 13, 26, 52, 104, 208, 189, 103, 206, 129, 31, 62, 124, 248, 237, 199, 147, 59, 118, 236, 197, 151, 51, 102, 204, 133, 23, 46, 92, 184, 109, 218, 169, 79, 158, 33, 66, 132, 21, 42, 84, 168, 77, 154, 41, 82, 164, 85, 170, 73, 146, 57, 114, 228, 213, 183, 115, 230, 209, 191, 99, 198, 145, 63, 126, 252, 229, 215, 179, 123, 246, 241, 255, 227, 219, 171, 75, 150, 49, 98, 196, 149, 55, 110, 220, 165, 87, 174, 65, 130, 25, 50, 100, 200, 141, 7, 14, 28, 56, 112, 224, 221, 167, 83, 166, 81, 162, 89, 178, 121, 242, 249, 239, 195, 155, 43, 86, 172, 69, 138, 9, 18, 36, 72, 144, 61, 122, 244, 245, 247, 243, 251, 235, 203, 139, 11, 22, 44, 88, 176, 125, 250, 233, 207, 131, 27, 54, 108, 216, 173, 71, 142]
def logT : List Nat := [0, 0, 1, 25, 2, 50, 26, 198, 3, 223, 51, 238, 27, 104, 199, 75, 4, 100, 224, 14, 52, 141, 239, 129, 28, 193, 105, 248, 200, 8, 76, 113, 5, 138, 101, 47, 225, 36, 15, 33, 53, 147, 142, 218, 240, 18, 130, 69, 29, 181, 194, 125, 106, 39, 249, 185, 201, 154, 9, 120, 77, 228, 114, 166, 6, 191, 139, 98, 102, 221, 48, 253, 226, 152, 37, 179, 16, 145, 34, 136, 54, 208, 148, 206, 143, 150, 219, 189, 241, 210, 19, 92, 131, 56, 70, 64, 30, 66, 182, 163, 195, 72, 126, 110, 107, 58, 40, 84, 250, 133, 186, 61, 202, 94, 155, 159, 10, 21, 121, 43, 78, 212, 229, 172, 115, 243, 167, 87, 7, 112, 192, 247, 140, 128, 99, 13, 103, 74, 222, 237, 49, 197, 254, 24, 227, 165, 153, 119, 38, 184, 180, 124, 17, 68, 146, 217, 35, 32, 137, 46, 55, 63, 209, 91, 149, 188, 207, 205, 144, 135, 151, 178, 220, 252, 190, 97, 242, 86, 211, 171, 20, 42, 93, 158, 132, 60, 57, 83, 71, 109, 65, 162, 31, 45, 67, 216, 183, 123, 164, 118, 196, 23, 73, 236, 127, 12, 111, 246, 108, 161, 59, 82, 41, 157, 85, 170, 251, 96, 134, 177, 187, 204, 62, 90, 203, 89, 95, 176, 156, 169, 160, 81, 11, 245, 22, 235, 122, 117, 44, 215, 79, 174, 213, 233, 230, 231, 173, 232, 116, 214, 244, 234, 168, 80, 88, 175]
theorem tab_eq : gfTab 255 = (expT, logT, 1) := by decide +kernel
theorem gexp_eq (i : Nat) : gexp i = expT.getD i 0 := by rw [gexp, tab_eq]
theorem glog_eq (a : Nat) : glog a = logT.getD a 0 := by rw [glog, tab_eq]
theorem exp_step_all : (List.range 255).all (fun i => expT.getD ((i + 1) % 255) 0 == stepX (expT.getD i 0)) = true := by decide +kernel
theorem exp_step {i : Nat} (h : i < 255) : gexp ((i + 1) % 255) = stepX (gexp i) := by
  rw [gexp_eq, gexp_eq]
  have := List.all_eq_true.1 exp_step_all i (List.mem_range.2 h)
  simpa using this
theorem exp_log_all : (List.range 256).all (fun b => b == 0 || expT.getD (logT.getD b 0) 0 == b) = true := by decide +kernel
theorem exp_log {b : Nat} (h : b < 256) (h0 : b ≠ 0) : gexp (glog b) = b := by
  rw [gexp_eq, glog_eq]
  have := List.all_eq_true.1 exp_log_all b (List.mem_range.2 h)
  simpa [h0] using this
theorem log_exp_all : (List.range 255).all (fun i => logT.getD (expT.getD i 0) 0 == i && expT.getD i 0 != 0) = true := by decide +kernel
theorem log_exp {i : Nat} (h : i < 255) : glog (gexp i) = i ∧ gexp i ≠ 0 := by
  rw [glog_eq, gexp_eq]
  have := List.all_eq_true.1 log_exp_all i (List.mem_range.2 h)
  simpa using this
theorem exp_zero : gexp 0 = 1 := by rw [gexp_eq]; rfl
theorem log_one : glog 1 = 0 := by rw [glog_eq]; rfl

/-! ### products of numbers -/
def gmN (a b : Nat) : Nat := if a = 0 ∨ b = 0 then 0 else gexp ((glog a + glog b) % 255)
theorem gmN_lt (a b : Nat) : gmN a b < 256 := by
  unfold gmN
  split
  · omega
  · exact gexp_lt _
theorem gmN_comm (a b : Nat) : gmN a b = gmN b a := by
  unfold gmN
  rw [Nat.add_comm]
  by_cases h : a = 0 ∨ b = 0
  · rw [if_pos h, if_pos h.symm]
  · rw [if_neg h, if_neg fun e => h e.symm]
theorem gmN_zero (a : Nat) : gmN a 0 = 0 := by simp [gmN]
theorem zero_gmN (a : Nat) : gmN 0 a = 0 := by simp [gmN]
theorem gmN_ne {a b : Nat} (ha : a ≠ 0) (hb : b ≠ 0) : gmN a b = gexp ((glog a + glog b) % 255) := by rw [gmN, if_neg (by simp [ha, hb])]
theorem gmN_nz {a b : Nat} (ha : a ≠ 0) (hb : b ≠ 0) : gmN a b ≠ 0 := by
  rw [gmN_ne ha hb]
  exact (log_exp (Nat.mod_lt _ (by omega))).2
theorem log_gmN {a b : Nat} (ha : a ≠ 0) (hb : b ≠ 0) : glog (gmN a b) = (glog a + glog b) % 255 := by
  rw [gmN_ne ha hb]
  exact (log_exp (Nat.mod_lt _ (by omega))).1
theorem gmN_assoc (a b c : Nat) : gmN (gmN a b) c = gmN a (gmN b c) := by
  by_cases ha : a = 0
  · subst ha; rw [zero_gmN, zero_gmN, zero_gmN]
  by_cases hb : b = 0
  · subst hb; rw [gmN_zero, zero_gmN, gmN_zero]
  by_cases hc : c = 0
  · subst hc; rw [gmN_zero, gmN_zero, gmN_zero]
  rw [gmN_ne (gmN_nz ha hb) hc, gmN_ne ha (gmN_nz hb hc), log_gmN ha hb, log_gmN hb hc]
  have e : ((glog a + glog b) % 255 + glog c) % 255 = (glog a + (glog b + glog c) % 255) % 255 := by omega
  rw [e]
theorem gmN_one {b : Nat} (hb : b < 256) : gmN 1 b = b := by
  by_cases h0 : b = 0
  · subst h0; exact gmN_zero _
  · rw [gmN_ne (by omega) h0, log_one, Nat.zero_add, Nat.mod_eq_of_lt (glog_lt b), exp_log hb h0]
theorem step_eq {x : Nat} (hx : x < 256) : stepX x = gmN 2 x := by
  by_cases h0 : x = 0
  · subst h0; rw [gmN_zero]; rfl
  · have h2 : glog 2 = 1 := by rw [glog_eq]; rfl
    have := exp_step (glog_lt x)
    rw [exp_log hx h0] at this
    rw [gmN_ne (by omega) h0, h2, Nat.add_comm, this]
/-- so many steps -/
def steps : Nat → Nat → Nat
  | 0, x => x
  | i + 1, x => stepX (steps i x)
theorem steps_lt {x : Nat} (hx : x < 256) : ∀ i, steps i x < 256
  | 0 => hx
  | i + 1 => stepX_lt _ (steps_lt hx i)
theorem steps_xor {x y : Nat} (hx : x < 256) (hy : y < 256) : ∀ i, steps i (x ^^^ y) = steps i x ^^^ steps i y
  | 0 => rfl
  | i + 1 => by rw [steps, steps_xor hx hy i, step_xor (steps_lt hx i) (steps_lt hy i)]; rfl
theorem steps_eq {b : Nat} (hb : b < 256) : ∀ i, i < 255 → steps i b = gmN (gexp i) b
  | 0, _ => by rw [exp_zero, gmN_one hb]; rfl
  | i + 1, h => by
    rw [steps, steps_eq hb i (by omega), step_eq (gmN_lt _ _), ← gmN_assoc, ← step_eq (gexp_lt _), ← exp_step (by omega), Nat.mod_eq_of_lt h]
theorem gmN_xor {a b c : Nat} (ha : a < 256) (hb : b < 256) (hc : c < 256) : gmN a (b ^^^ c) = gmN a b ^^^ gmN a c := by
  by_cases h0 : a = 0
  · subst h0; rw [zero_gmN, zero_gmN, zero_gmN]; rfl
  · have e := exp_log ha h0
    have hl := glog_lt a
    have hx : b ^^^ c < 256 := Nat.xor_lt_two_pow (n := 8) hb hc
    rw [← e, ← steps_eq hx _ hl, ← steps_eq hb _ hl, ← steps_eq hc _ hl, steps_xor hb hc]

/-! ### the reference's product is the same -/
theorem gmN_one' {a : Nat} (ha : a < 256) : gmN a 1 = a := by rw [gmN_comm, gmN_one ha]
theorem step_small {z : Nat} (h : z < 128) : stepX z = 2 * z := by rw [stepX, if_neg (by omega)]
theorem step_shift {x z : Nat} (hx : x < 256) (hz : z < 256) : gmN (stepX x) z = gmN x (stepX z) := by
  rw [step_eq hx, step_eq hz, gmN_comm 2 x, gmN_assoc]
theorem split2 {y : Nat} (h : y < 256) : y = (2 * (y / 2)) ^^^ (y % 2) := by
  have : (2 * (y / 2)) ^^^ (y % 2) = 2 * (y / 2) + y % 2 := by
    have h2 : (List.range 256).all (fun y => (2 * (y / 2)) ^^^ (y % 2) == 2 * (y / 2) + y % 2) = true := by decide +kernel
    have := List.all_eq_true.1 h2 y (List.mem_range.2 h)
    simpa using this
  omega
theorem rm_inv {a b : Nat} (ha : a < 256) (hb : b < 256) : ∀ k, (rmSt a b k).2.2 ^^^ gmN (rmSt a b k).1 (rmSt a b k).2.1 = gmN a b
  | 0 => by show 0 ^^^ gmN a b = gmN a b; rw [Nat.zero_xor]
  | k + 1 => by
    obtain ⟨h1, h2, h3⟩ := rmSt_lt ha hb k
    rw [← rm_inv ha hb k]
    have e1 : (rmSt a b (k + 1)).1 = stepX (rmSt a b k).1 := rfl
    have e2 : (rmSt a b (k + 1)).2.1 = (rmSt a b k).2.1 / 2 := rfl
    have e3 : (rmSt a b (k + 1)).2.2 = if (rmSt a b k).2.1 % 2 = 1 then (rmSt a b k).2.2 ^^^ (rmSt a b k).1 else (rmSt a b k).2.2 := rfl
    rw [e1, e2, e3]
    generalize (rmSt a b k).1 = x at *
    generalize (rmSt a b k).2.1 = y at *
    generalize (rmSt a b k).2.2 = o at *
    have hy : gmN x y = gmN (stepX x) (y / 2) ^^^ gmN x (y % 2) := by
      conv => lhs; rw [split2 h2]
      rw [gmN_xor h1 (by omega) (by omega), step_shift h1 (by omega), step_small (by omega)]
    rw [hy]
    by_cases h : y % 2 = 1
    · rw [if_pos h, h, gmN_one' h1, Nat.xor_assoc, Nat.xor_comm x]
    · rw [if_neg h, show y % 2 = 0 from by omega, gmN_zero, Nat.xor_zero]
theorem rm_y {a b : Nat} : ∀ k, (rmSt a b k).2.1 = b / 2 ^ k
  | 0 => by show b = b / 2 ^ 0; simp
  | k + 1 => by
    show (rmSt a b k).2.1 / 2 = b / 2 ^ (k + 1)
    rw [rm_y k, Nat.div_div_eq_div_mul, Nat.pow_succ]
theorem rm_eq {a b : Nat} (ha : a < 256) (hb : b < 256) : (rmSt a b 8).2.2 = gmN a b := by
  have := rm_inv ha hb 8
  rw [rm_y 8, show b / 2 ^ 8 = 0 from by omega, gmN_zero, Nat.xor_zero] at this
  exact this

/-! ### products of bytes -/
theorem gmul_nat (a b : UInt8) : (gmul a b).toNat = gmN a.toNat b.toNat := by
  unfold gmul gmN
  by_cases h : a = 0 ∨ b = 0
  · rw [if_pos h, if_pos (by rcases h with rfl | rfl; exact .inl rfl; exact .inr rfl)]; rfl
  · rw [if_neg h, if_neg (by rw [u8_zero, u8_zero]; exact h), UInt8.toNat_ofNat', Nat.mod_eq_of_lt (gexp_lt _)]
where u8_zero (x : UInt8) : x.toNat = 0 ↔ x = 0 := ⟨fun h => UInt8.toNat_inj.1 h, fun h => by rw [h]; rfl⟩
theorem rmul_eq (a b : UInt8) : rmul a b = gmul a b := by
  apply UInt8.toNat_inj.1
  rw [gmul_nat, rmul, rm_eq a.toNat_lt b.toNat_lt, UInt8.toNat_ofNat', Nat.mod_eq_of_lt (gmN_lt _ _)]
theorem gmul_comm (a b : UInt8) : gmul a b = gmul b a := UInt8.toNat_inj.1 (by rw [gmul_nat, gmul_nat, gmN_comm])
theorem gmul_assoc (a b c : UInt8) : gmul (gmul a b) c = gmul a (gmul b c) := UInt8.toNat_inj.1 (by rw [gmul_nat, gmul_nat, gmul_nat, gmul_nat, gmN_assoc])
theorem gmul_xor (a b c : UInt8) : gmul a (b ^^^ c) = gmul a b ^^^ gmul a c := UInt8.toNat_inj.1 (by
  rw [gmul_nat, UInt8.toNat_xor, UInt8.toNat_xor, gmul_nat, gmul_nat, gmN_xor a.toNat_lt b.toNat_lt c.toNat_lt])
theorem xor_gmul (a b c : UInt8) : gmul (a ^^^ b) c = gmul a c ^^^ gmul b c := by rw [gmul_comm, gmul_xor, gmul_comm c a, gmul_comm c b]
theorem gmul_zero (a : UInt8) : gmul a 0 = 0 := by simp [gmul]
theorem zero_gmul (a : UInt8) : gmul 0 a = 0 := by simp [gmul]
theorem one_gmul (a : UInt8) : gmul 1 a = a := UInt8.toNat_inj.1 (by rw [gmul_nat]; exact gmN_one a.toNat_lt)
theorem gmul_one (a : UInt8) : gmul a 1 = a := by rw [gmul_comm, one_gmul]
theorem gmul_eq_zero {a b : UInt8} (h : gmul a b = 0) : a = 0 ∨ b = 0 := by
  by_cases ha : a.toNat = 0
  · exact .inl (UInt8.toNat_inj.1 ha)
  · by_cases hb : b.toNat = 0
    · exact .inr (UInt8.toNat_inj.1 hb)
    · exact absurd (by rw [← gmul_nat, h]; rfl) (gmN_nz ha hb)
theorem ginv_nat {a : UInt8} (h : a ≠ 0) : (ginv a).toNat = gexp ((255 - glog a.toNat) % 255) := by
  rw [ginv, if_neg h, UInt8.toNat_ofNat', Nat.mod_eq_of_lt (gexp_lt _)]
theorem gmul_ginv {a : UInt8} (h : a ≠ 0) : gmul a (ginv a) = 1 := by
  apply UInt8.toNat_inj.1
  have ha : a.toNat ≠ 0 := fun e => h (UInt8.toNat_inj.1 e)
  have hl := glog_lt a.toNat
  have h2 := log_exp (i := (255 - glog a.toNat) % 255) (Nat.mod_lt _ (by omega))
  rw [gmul_nat, ginv_nat h, gmN_ne ha h2.2, h2.1, show (glog a.toNat + (255 - glog a.toNat) % 255) % 255 = 0 from by omega, exp_zero]
  rfl
theorem ginv_gmul {a : UInt8} (h : a ≠ 0) : gmul (ginv a) a = 1 := by rw [gmul_comm, gmul_ginv h]
theorem ginv_ne {a : UInt8} (h : a ≠ 0) : ginv a ≠ 0 := fun e => by have := gmul_ginv h; rw [e, gmul_zero] at this; exact absurd this (by decide)
theorem rinv_eq (a : UInt8) : rinv a = ginv a := by
  by_cases h : a = 0
  · subst h
    have : (List.range 256).find? (fun b => decide (1 ≤ b) && (rmul 0 (UInt8.ofNat b) == 1)) = none := by
      rw [List.find?_eq_none]
      intro j _
      rw [rmul_eq, zero_gmul]
      simp
    rw [rinv, this]
    rfl
  · have key : ∀ j, j < 256 → rmul a (UInt8.ofNat j) = 1 → UInt8.ofNat j = ginv a := fun j hj e => by
      rw [rmul_eq] at e
      have : gmul (ginv a) (gmul a (UInt8.ofNat j)) = ginv a := by rw [e, gmul_one]
      rw [← gmul_assoc, ginv_gmul h, one_gmul] at this
      exact this
    have hex : ∃ b, (List.range 256).find? (fun b => decide (1 ≤ b) && (rmul a (UInt8.ofNat b) == 1)) = some b := by
      cases hf : (List.range 256).find? (fun b => decide (1 ≤ b) && (rmul a (UInt8.ofNat b) == 1)) with
      | some b => exact ⟨b, rfl⟩
      | none =>
        rw [List.find?_eq_none] at hf
        have hg := (ginv a).toNat_lt
        have h1 : 1 ≤ (ginv a).toNat := by
          have : (ginv a).toNat ≠ 0 := fun e => ginv_ne h (UInt8.toNat_inj.1 e)
          omega
        have := hf (ginv a).toNat (List.mem_range.2 hg)
        rw [UInt8.ofNat_toNat, rmul_eq, gmul_ginv h] at this
        simp [h1] at this
    obtain ⟨b, hb⟩ := hex
    rw [rinv, hb]
    have hp := List.find?_some hb
    have hm := List.mem_range.1 (List.mem_of_find?_eq_some hb)
    simp only [Bool.and_eq_true, decide_eq_true_eq, beq_iff_eq] at hp
    exact key b hm hp.2
end Go.Proofs.Ytgpkbldlkadnjaa
end
section
/- Plain: what 'awake' asks. -/
set_option linter.unusedVariables false
set_option maxHeartbeats 2000000
namespace Go.Proofs.Ytgpkbldlkadnjaa
open Go Go.Sl

theorem awake_inv : invert [[0, 1], [1, 0]] = some [[0, 1], [1, 0]] := by decide +kernel
theorem awake_none : invert [[1, 1], [1, 1]] = none := by decide +kernel
theorem awake_mul : mulM [[0, 1], [1, 0]] [[0, 1], [1, 0]] = coding 2 2 := by decide +kernel
end Go.Proofs.Ytgpkbldlkadnjaa
end
section
/- Walks: awake of layer 4. -/
set_option linter.unusedVariables false
set_option linter.unusedSimpArgs false
set_option maxHeartbeats 3000000
attribute [local irreducible] Go.Sl.Chk Go.Sl.Br Go.Sl.Ld Go.Sl.Ldn Go.Sl.LdB Go.Sl.Stn Go.Sl.New Go.Sl.Run Go.Sl.RunU Go.Sl.RunX Go.Sl.Call Go.Sl.LoopK Go.Sl.RawK Go.Sl.Om Go.Sl.xpk Go.Sl.xgpk Go.Sl.xglk Go.Sl.DLd Go.Sl.DLdG Go.Sl.DBs Go.Sl.DCall Go.Sl.DApp Go.Sl.DGen Go.Sl.DGenU Go.Sl.DGC Go.Sl.DLoop Go.Sl.DRaw Go.Sl.DRet Go.Sl.Ent Go.Sl.dget Go.Sl.dv Go.Sl.ev Go.Sl.eget
namespace Go.Proofs.Ytgpkbldlkadnjaa
open Go Go.Sl Go.RowKit

theorem lit_rs {w : World} {b B : Nat} {vs : List Value} {e : TypeId} (h : w.heap[b]? = some (.cells vs.toArray e (0, 0))) (hb : b < B) : RS w B (.slice (some ⟨b, 0, none⟩) vs.length vs.length) vs := by
  refine ⟨_, _, rfl, Nat.le_refl _, fun j u hu => ⟨_, rfl, hb, ?_⟩⟩
  rw [add_lit, Nat.zero_add]
  simp only [World.cell?, h, Option.isSome_none, Bool.false_eq_true, if_false, List.getElem?_toArray]
  exact hu
theorem lit_bs {w : World} {b B : Nat} {xs : List UInt8} {e : TypeId} (h : w.heap[b]? = some (.cells (xs.map U8).toArray e (0, 0))) (hb : b < B) : BS w B (.slice (some ⟨b, 0, none⟩) xs.length xs.length) xs := by
  have := lit_rs h hb
  rw [List.length_map] at this
  exact this
theorem lit_ms2 {w : World} {b B : Nat} {u v : Value} {x y : List UInt8} {e : TypeId} (h : w.heap[b]? = some (.cells #[u, v] e (0, 0))) (hb : b < B) (hx : BS w B u x) (hy : BS w B v y) : MS w B (.slice (some ⟨b, 0, none⟩) 2 2) [x, y] := by
  refine ⟨[u, v], lit_rs (vs := [u, v]) h hb, rfl, fun j a z ha hz => ?_⟩
  match j, ha, hz with
  | 0, ha, hz => simp at ha hz; subst ha; subst hz; exact hx
  | 1, ha, hz => simp at ha hz; subst ha; subst hz; exact hy
theorem frHeap {w w' : World} (h : Fr No w w') {b : Nat} {o : Obj} (hb : w.heap[b]? = some o) : w'.heap[b]? = some o := by
  rw [h.same b (Array.getElem?_eq_some_iff.1 hb).1 (fun h => h)]
  exact hb

theorem awake_calls (w : World) : Calls Try.prog f_law04_awake #[] w fun en w' => ∃ r, en = .returned r ∧ (r = .bool true ∧ Fr No w w') := by
  refine calls_of_mf (args := []) c_law04_awake (by simp only [m_law04_awake, List.length]; decide) ?_
  simp -dsimp (disch := omega) only [↓MC.wp, ↓opsWp, ↓drWp, ↓MOp.wp, evs, ev, eget, eput, eput?, pev, pbin, pint, pbool, pstr, psl, vnil, pbuild, overlay, ↓thenQ, ↓blockQ, ↓retQ, ↓resWp, tupV, stills, MOp.still, known, Op.operands, List.toList_toArray, argEnv, ekeep, one_int, one_bool, one_str, one_ptr, one_slice, one_func, one_nilf, one_nilc, one_iface, one_map, Chk_true, Chk_of, Br_true, Br_false, Br_pos, Br_neg, Br_npos, Br_nneg, beq_t, beq_f, not_not', dec_true, dec_false, not_t, not_f, pick_t, pick_f, take1, drop1, take0, drop0, arr_app, List.append_nil, bne_tt, bne_tf, bne_ft, bne_ff, beq_tt, beq_tf, beq_ft, beq_ff, dec_pos, dec_neg, Ld_some, wrap_i64, tdiv_pos, tmod_pos, Sl.add_lit, drew_cell, Nat.reduceAdd, Nat.zero_add, Nat.add_zero, Nat.mul_one, Nat.one_mul, Int.toNat_natCast, cells_int, cells_bool, cells_str, cells_ptr, cells_slice, cells_func, cells_nilf, cells_nilc, cells_iface, cells_map, cells_agg, size_one, toList_one, List.length_cons, List.length_nil, List.cons_append, List.nil_append, reduceCtorEq, and_self, and_true, true_and, if_true, if_false, ↓reduceIte, ne_eq, not_false_eq_true, not_true_eq_false, Option.isSome_some, Option.isSome_none, decide_true, decide_false, List.getElem?_toArray, List.getElem?_cons_zero, List.getElem?_cons_succ, Bool.and_true, Bool.and_self, Int.reduceEq, Int.reduceLT, Int.reduceLE, Int.reduceAdd, Int.reduceSub, Int.reduceMul, Int.reduceToNat, Nat.reduceMul, Nat.reduceLeDiff, Nat.le_refl, Nat.reduceLT, Nat.reduceSub, m_law04_awake]
  refine new ?_
  intro b1 w1 hb1 hs1 hc1 hf1
  simp -dsimp (disch := omega) only [↓MC.wp, ↓opsWp, ↓drWp, ↓MOp.wp, evs, ev, eget, eput, eput?, pev, pbin, pint, pbool, pstr, psl, vnil, pbuild, overlay, ↓thenQ, ↓blockQ, ↓retQ, ↓resWp, tupV, stills, MOp.still, known, Op.operands, List.toList_toArray, argEnv, ekeep, one_int, one_bool, one_str, one_ptr, one_slice, one_func, one_nilf, one_nilc, one_iface, one_map, Chk_true, Chk_of, Br_true, Br_false, Br_pos, Br_neg, Br_npos, Br_nneg, beq_t, beq_f, not_not', dec_true, dec_false, not_t, not_f, pick_t, pick_f, take1, drop1, take0, drop0, arr_app, List.append_nil, bne_tt, bne_tf, bne_ft, bne_ff, beq_tt, beq_tf, beq_ft, beq_ff, dec_pos, dec_neg, Ld_some, wrap_i64, tdiv_pos, tmod_pos, Sl.add_lit, drew_cell, Nat.reduceAdd, Nat.zero_add, Nat.add_zero, Nat.mul_one, Nat.one_mul, Int.toNat_natCast, cells_int, cells_bool, cells_str, cells_ptr, cells_slice, cells_func, cells_nilf, cells_nilc, cells_iface, cells_map, cells_agg, size_one, toList_one, List.length_cons, List.length_nil, List.cons_append, List.nil_append, reduceCtorEq, and_self, and_true, true_and, if_true, if_false, ↓reduceIte, ne_eq, not_false_eq_true, not_true_eq_false, Option.isSome_some, Option.isSome_none, decide_true, decide_false, List.getElem?_toArray, List.getElem?_cons_zero, List.getElem?_cons_succ, Bool.and_true, Bool.and_self, Int.reduceEq, Int.reduceLT, Int.reduceLE, Int.reduceAdd, Int.reduceSub, Int.reduceMul, Int.reduceToNat, Nat.reduceMul, Nat.reduceLeDiff, Nat.le_refl, Nat.reduceLT, Nat.reduceSub]
  refine new ?_
  intro b2 w2 hb2 hs2 hc2 hf2
  simp -dsimp (disch := omega) only [↓MC.wp, ↓opsWp, ↓drWp, ↓MOp.wp, evs, ev, eget, eput, eput?, pev, pbin, pint, pbool, pstr, psl, vnil, pbuild, overlay, ↓thenQ, ↓blockQ, ↓retQ, ↓resWp, tupV, stills, MOp.still, known, Op.operands, List.toList_toArray, argEnv, ekeep, one_int, one_bool, one_str, one_ptr, one_slice, one_func, one_nilf, one_nilc, one_iface, one_map, Chk_true, Chk_of, Br_true, Br_false, Br_pos, Br_neg, Br_npos, Br_nneg, beq_t, beq_f, not_not', dec_true, dec_false, not_t, not_f, pick_t, pick_f, take1, drop1, take0, drop0, arr_app, List.append_nil, bne_tt, bne_tf, bne_ft, bne_ff, beq_tt, beq_tf, beq_ft, beq_ff, dec_pos, dec_neg, Ld_some, wrap_i64, tdiv_pos, tmod_pos, Sl.add_lit, drew_cell, Nat.reduceAdd, Nat.zero_add, Nat.add_zero, Nat.mul_one, Nat.one_mul, Int.toNat_natCast, cells_int, cells_bool, cells_str, cells_ptr, cells_slice, cells_func, cells_nilf, cells_nilc, cells_iface, cells_map, cells_agg, size_one, toList_one, List.length_cons, List.length_nil, List.cons_append, List.nil_append, reduceCtorEq, and_self, and_true, true_and, if_true, if_false, ↓reduceIte, ne_eq, not_false_eq_true, not_true_eq_false, Option.isSome_some, Option.isSome_none, decide_true, decide_false, List.getElem?_toArray, List.getElem?_cons_zero, List.getElem?_cons_succ, Bool.and_true, Bool.and_self, Int.reduceEq, Int.reduceLT, Int.reduceLE, Int.reduceAdd, Int.reduceSub, Int.reduceMul, Int.reduceToNat, Nat.reduceMul, Nat.reduceLeDiff, Nat.le_refl, Nat.reduceLT, Nat.reduceSub]
  refine new ?_
  intro b3 w3 hb3 hs3 hc3 hf3
  simp -dsimp (disch := omega) only [↓MC.wp, ↓opsWp, ↓drWp, ↓MOp.wp, evs, ev, eget, eput, eput?, pev, pbin, pint, pbool, pstr, psl, vnil, pbuild, overlay, ↓thenQ, ↓blockQ, ↓retQ, ↓resWp, tupV, stills, MOp.still, known, Op.operands, List.toList_toArray, argEnv, ekeep, one_int, one_bool, one_str, one_ptr, one_slice, one_func, one_nilf, one_nilc, one_iface, one_map, Chk_true, Chk_of, Br_true, Br_false, Br_pos, Br_neg, Br_npos, Br_nneg, beq_t, beq_f, not_not', dec_true, dec_false, not_t, not_f, pick_t, pick_f, take1, drop1, take0, drop0, arr_app, List.append_nil, bne_tt, bne_tf, bne_ft, bne_ff, beq_tt, beq_tf, beq_ft, beq_ff, dec_pos, dec_neg, Ld_some, wrap_i64, tdiv_pos, tmod_pos, Sl.add_lit, drew_cell, Nat.reduceAdd, Nat.zero_add, Nat.add_zero, Nat.mul_one, Nat.one_mul, Int.toNat_natCast, cells_int, cells_bool, cells_str, cells_ptr, cells_slice, cells_func, cells_nilf, cells_nilc, cells_iface, cells_map, cells_agg, size_one, toList_one, List.length_cons, List.length_nil, List.cons_append, List.nil_append, reduceCtorEq, and_self, and_true, true_and, if_true, if_false, ↓reduceIte, ne_eq, not_false_eq_true, not_true_eq_false, Option.isSome_some, Option.isSome_none, decide_true, decide_false, List.getElem?_toArray, List.getElem?_cons_zero, List.getElem?_cons_succ, Bool.and_true, Bool.and_self, Int.reduceEq, Int.reduceLT, Int.reduceLE, Int.reduceAdd, Int.reduceSub, Int.reduceMul, Int.reduceToNat, Nat.reduceMul, Nat.reduceLeDiff, Nat.le_refl, Nat.reduceLT, Nat.reduceSub]
  have hm : MS w3 w3.heap.size (.slice (some ⟨b3, 0, none⟩) 2 2) [[0, 1], [1, 0]] :=
    lit_ms2 hc3 (by omega) (lit_bs (xs := [0, 1]) (frHeap hf3 (frHeap hf2 hc1)) (by omega)) (lit_bs (xs := [1, 0]) (frHeap hf3 hc2) (by omega))
  have r22 : RightM [[0, 1], [1, 0]] := ⟨by decide, by decide, by decide⟩
  have s22 : Small [[0, 1], [1, 0]] := ⟨by decide, by decide⟩
  refine call (invert_calls hm (Nat.le_refl _) r22 s22) ?_
  intro r w4 h4
  obtain ⟨x, hr, hx, hf4⟩ := h4
  rw [awake_inv] at hr hx
  rw [hr]
  simp -dsimp (disch := omega) only [↓MC.wp, ↓opsWp, ↓drWp, ↓MOp.wp, evs, ev, eget, eput, eput?, pev, pbin, pint, pbool, pstr, psl, vnil, pbuild, overlay, ↓thenQ, ↓blockQ, ↓retQ, ↓resWp, tupV, stills, MOp.still, known, Op.operands, List.toList_toArray, argEnv, ekeep, one_int, one_bool, one_str, one_ptr, one_slice, one_func, one_nilf, one_nilc, one_iface, one_map, Chk_true, Chk_of, Br_true, Br_false, Br_pos, Br_neg, Br_npos, Br_nneg, beq_t, beq_f, not_not', dec_true, dec_false, not_t, not_f, pick_t, pick_f, take1, drop1, take0, drop0, arr_app, List.append_nil, bne_tt, bne_tf, bne_ft, bne_ff, beq_tt, beq_tf, beq_ft, beq_ff, dec_pos, dec_neg, Ld_some, wrap_i64, tdiv_pos, tmod_pos, Sl.add_lit, drew_cell, Nat.reduceAdd, Nat.zero_add, Nat.add_zero, Nat.mul_one, Nat.one_mul, Int.toNat_natCast, cells_int, cells_bool, cells_str, cells_ptr, cells_slice, cells_func, cells_nilf, cells_nilc, cells_iface, cells_map, cells_agg, size_one, toList_one, List.length_cons, List.length_nil, List.cons_append, List.nil_append, reduceCtorEq, and_self, and_true, true_and, if_true, if_false, ↓reduceIte, ne_eq, not_false_eq_true, not_true_eq_false, Option.isSome_some, Option.isSome_none, decide_true, decide_false, List.getElem?_toArray, List.getElem?_cons_zero, List.getElem?_cons_succ, Bool.and_true, Bool.and_self, Int.reduceEq, Int.reduceLT, Int.reduceLE, Int.reduceAdd, Int.reduceSub, Int.reduceMul, Int.reduceToNat, Nat.reduceMul, Nat.reduceLeDiff, Nat.le_refl, Nat.reduceLT, Nat.reduceSub]
  have hm4 : MS w4 w3.heap.size (.slice (some ⟨b3, 0, none⟩) 2 2) [[0, 1], [1, 0]] := hm.fr hf4 fun _ _ h => h
  have hxm : MS w4 w4.heap.size x [[0, 1], [1, 0]] := hx.ms
  have hf04 : Fr No w w4 := ((hf1.then hf2).then hf3).then hf4
  have hs4 := hf4.size
  refine new ?_
  intro b5 w5 hb5 hs5 hc5 hf5
  simp -dsimp (disch := omega) only [↓MC.wp, ↓opsWp, ↓drWp, ↓MOp.wp, evs, ev, eget, eput, eput?, pev, pbin, pint, pbool, pstr, psl, vnil, pbuild, overlay, ↓thenQ, ↓blockQ, ↓retQ, ↓resWp, tupV, stills, MOp.still, known, Op.operands, List.toList_toArray, argEnv, ekeep, one_int, one_bool, one_str, one_ptr, one_slice, one_func, one_nilf, one_nilc, one_iface, one_map, Chk_true, Chk_of, Br_true, Br_false, Br_pos, Br_neg, Br_npos, Br_nneg, beq_t, beq_f, not_not', dec_true, dec_false, not_t, not_f, pick_t, pick_f, take1, drop1, take0, drop0, arr_app, List.append_nil, bne_tt, bne_tf, bne_ft, bne_ff, beq_tt, beq_tf, beq_ft, beq_ff, dec_pos, dec_neg, Ld_some, wrap_i64, tdiv_pos, tmod_pos, Sl.add_lit, drew_cell, Nat.reduceAdd, Nat.zero_add, Nat.add_zero, Nat.mul_one, Nat.one_mul, Int.toNat_natCast, cells_int, cells_bool, cells_str, cells_ptr, cells_slice, cells_func, cells_nilf, cells_nilc, cells_iface, cells_map, cells_agg, size_one, toList_one, List.length_cons, List.length_nil, List.cons_append, List.nil_append, reduceCtorEq, and_self, and_true, true_and, if_true, if_false, ↓reduceIte, ne_eq, not_false_eq_true, not_true_eq_false, Option.isSome_some, Option.isSome_none, decide_true, decide_false, List.getElem?_toArray, List.getElem?_cons_zero, List.getElem?_cons_succ, Bool.and_true, Bool.and_self, Int.reduceEq, Int.reduceLT, Int.reduceLE, Int.reduceAdd, Int.reduceSub, Int.reduceMul, Int.reduceToNat, Nat.reduceMul, Nat.reduceLeDiff, Nat.le_refl, Nat.reduceLT, Nat.reduceSub]
  refine new ?_
  intro b6 w6 hb6 hs6 hc6 hf6
  simp -dsimp (disch := omega) only [↓MC.wp, ↓opsWp, ↓drWp, ↓MOp.wp, evs, ev, eget, eput, eput?, pev, pbin, pint, pbool, pstr, psl, vnil, pbuild, overlay, ↓thenQ, ↓blockQ, ↓retQ, ↓resWp, tupV, stills, MOp.still, known, Op.operands, List.toList_toArray, argEnv, ekeep, one_int, one_bool, one_str, one_ptr, one_slice, one_func, one_nilf, one_nilc, one_iface, one_map, Chk_true, Chk_of, Br_true, Br_false, Br_pos, Br_neg, Br_npos, Br_nneg, beq_t, beq_f, not_not', dec_true, dec_false, not_t, not_f, pick_t, pick_f, take1, drop1, take0, drop0, arr_app, List.append_nil, bne_tt, bne_tf, bne_ft, bne_ff, beq_tt, beq_tf, beq_ft, beq_ff, dec_pos, dec_neg, Ld_some, wrap_i64, tdiv_pos, tmod_pos, Sl.add_lit, drew_cell, Nat.reduceAdd, Nat.zero_add, Nat.add_zero, Nat.mul_one, Nat.one_mul, Int.toNat_natCast, cells_int, cells_bool, cells_str, cells_ptr, cells_slice, cells_func, cells_nilf, cells_nilc, cells_iface, cells_map, cells_agg, size_one, toList_one, List.length_cons, List.length_nil, List.cons_append, List.nil_append, reduceCtorEq, and_self, and_true, true_and, if_true, if_false, ↓reduceIte, ne_eq, not_false_eq_true, not_true_eq_false, Option.isSome_some, Option.isSome_none, decide_true, decide_false, List.getElem?_toArray, List.getElem?_cons_zero, List.getElem?_cons_succ, Bool.and_true, Bool.and_self, Int.reduceEq, Int.reduceLT, Int.reduceLE, Int.reduceAdd, Int.reduceSub, Int.reduceMul, Int.reduceToNat, Nat.reduceMul, Nat.reduceLeDiff, Nat.le_refl, Nat.reduceLT, Nat.reduceSub]
  refine new ?_
  intro b7 w7 hb7 hs7 hc7 hf7
  simp -dsimp (disch := omega) only [↓MC.wp, ↓opsWp, ↓drWp, ↓MOp.wp, evs, ev, eget, eput, eput?, pev, pbin, pint, pbool, pstr, psl, vnil, pbuild, overlay, ↓thenQ, ↓blockQ, ↓retQ, ↓resWp, tupV, stills, MOp.still, known, Op.operands, List.toList_toArray, argEnv, ekeep, one_int, one_bool, one_str, one_ptr, one_slice, one_func, one_nilf, one_nilc, one_iface, one_map, Chk_true, Chk_of, Br_true, Br_false, Br_pos, Br_neg, Br_npos, Br_nneg, beq_t, beq_f, not_not', dec_true, dec_false, not_t, not_f, pick_t, pick_f, take1, drop1, take0, drop0, arr_app, List.append_nil, bne_tt, bne_tf, bne_ft, bne_ff, beq_tt, beq_tf, beq_ft, beq_ff, dec_pos, dec_neg, Ld_some, wrap_i64, tdiv_pos, tmod_pos, Sl.add_lit, drew_cell, Nat.reduceAdd, Nat.zero_add, Nat.add_zero, Nat.mul_one, Nat.one_mul, Int.toNat_natCast, cells_int, cells_bool, cells_str, cells_ptr, cells_slice, cells_func, cells_nilf, cells_nilc, cells_iface, cells_map, cells_agg, size_one, toList_one, List.length_cons, List.length_nil, List.cons_append, List.nil_append, reduceCtorEq, and_self, and_true, true_and, if_true, if_false, ↓reduceIte, ne_eq, not_false_eq_true, not_true_eq_false, Option.isSome_some, Option.isSome_none, decide_true, decide_false, List.getElem?_toArray, List.getElem?_cons_zero, List.getElem?_cons_succ, Bool.and_true, Bool.and_self, Int.reduceEq, Int.reduceLT, Int.reduceLE, Int.reduceAdd, Int.reduceSub, Int.reduceMul, Int.reduceToNat, Nat.reduceMul, Nat.reduceLeDiff, Nat.le_refl, Nat.reduceLT, Nat.reduceSub]
  have hf47 : Fr No w4 w7 := (hf5.then hf6).then hf7
  have hm7 : MS w7 w7.heap.size (.slice (some ⟨b7, 0, none⟩) 2 2) [[1, 1], [1, 1]] :=
    lit_ms2 hc7 (by omega) (lit_bs (xs := [1, 1]) (frHeap hf7 (frHeap hf6 hc5)) (by omega)) (lit_bs (xs := [1, 1]) (frHeap hf7 hc6) (by omega))
  have r11 : RightM [[1, 1], [1, 1]] := ⟨by decide, by decide, by decide⟩
  have s11 : Small [[1, 1], [1, 1]] := ⟨by decide, by decide⟩
  refine call (invert_calls hm7 (Nat.le_refl _) r11 s11) ?_
  intro r2 w8 h8
  obtain ⟨x2, hr2, hx2, hf8⟩ := h8
  rw [awake_none] at hr2
  rw [hr2]
  simp -dsimp (disch := omega) only [↓MC.wp, ↓opsWp, ↓drWp, ↓MOp.wp, evs, ev, eget, eput, eput?, pev, pbin, pint, pbool, pstr, psl, vnil, pbuild, overlay, ↓thenQ, ↓blockQ, ↓retQ, ↓resWp, tupV, stills, MOp.still, known, Op.operands, List.toList_toArray, argEnv, ekeep, one_int, one_bool, one_str, one_ptr, one_slice, one_func, one_nilf, one_nilc, one_iface, one_map, Chk_true, Chk_of, Br_true, Br_false, Br_pos, Br_neg, Br_npos, Br_nneg, beq_t, beq_f, not_not', dec_true, dec_false, not_t, not_f, pick_t, pick_f, take1, drop1, take0, drop0, arr_app, List.append_nil, bne_tt, bne_tf, bne_ft, bne_ff, beq_tt, beq_tf, beq_ft, beq_ff, dec_pos, dec_neg, Ld_some, wrap_i64, tdiv_pos, tmod_pos, Sl.add_lit, drew_cell, Nat.reduceAdd, Nat.zero_add, Nat.add_zero, Nat.mul_one, Nat.one_mul, Int.toNat_natCast, cells_int, cells_bool, cells_str, cells_ptr, cells_slice, cells_func, cells_nilf, cells_nilc, cells_iface, cells_map, cells_agg, size_one, toList_one, List.length_cons, List.length_nil, List.cons_append, List.nil_append, reduceCtorEq, and_self, and_true, true_and, if_true, if_false, ↓reduceIte, ne_eq, not_false_eq_true, not_true_eq_false, Option.isSome_some, Option.isSome_none, decide_true, decide_false, List.getElem?_toArray, List.getElem?_cons_zero, List.getElem?_cons_succ, Bool.and_true, Bool.and_self, Int.reduceEq, Int.reduceLT, Int.reduceLE, Int.reduceAdd, Int.reduceSub, Int.reduceMul, Int.reduceToNat, Nat.reduceMul, Nat.reduceLeDiff, Nat.le_refl, Nat.reduceLT, Nat.reduceSub]
  have hf48 : Fr No w4 w8 := hf47.then hf8
  have hm8 : MS w8 w3.heap.size (.slice (some ⟨b3, 0, none⟩) 2 2) [[0, 1], [1, 0]] := hm4.fr hf48 fun _ _ h => h
  have hs48 := hf48.size
  have hx8 : MS w8 w4.heap.size x [[0, 1], [1, 0]] := hxm.fr hf48 fun _ _ h => h
  refine call (same_calls hx8 hm8 (by decide)) ?_
  intro r9 w9 h9
  rw [h9.1]
  have hf9 := h9.2
  simp -dsimp (disch := omega) only [↓MC.wp, ↓opsWp, ↓drWp, ↓MOp.wp, evs, ev, eget, eput, eput?, pev, pbin, pint, pbool, pstr, psl, vnil, pbuild, overlay, ↓thenQ, ↓blockQ, ↓retQ, ↓resWp, tupV, stills, MOp.still, known, Op.operands, List.toList_toArray, argEnv, ekeep, one_int, one_bool, one_str, one_ptr, one_slice, one_func, one_nilf, one_nilc, one_iface, one_map, Chk_true, Chk_of, Br_true, Br_false, Br_pos, Br_neg, Br_npos, Br_nneg, beq_t, beq_f, not_not', dec_true, dec_false, not_t, not_f, pick_t, pick_f, take1, drop1, take0, drop0, arr_app, List.append_nil, bne_tt, bne_tf, bne_ft, bne_ff, beq_tt, beq_tf, beq_ft, beq_ff, dec_pos, dec_neg, Ld_some, wrap_i64, tdiv_pos, tmod_pos, Sl.add_lit, drew_cell, Nat.reduceAdd, Nat.zero_add, Nat.add_zero, Nat.mul_one, Nat.one_mul, Int.toNat_natCast, cells_int, cells_bool, cells_str, cells_ptr, cells_slice, cells_func, cells_nilf, cells_nilc, cells_iface, cells_map, cells_agg, size_one, toList_one, List.length_cons, List.length_nil, List.cons_append, List.nil_append, reduceCtorEq, and_self, and_true, true_and, if_true, if_false, ↓reduceIte, ne_eq, not_false_eq_true, not_true_eq_false, Option.isSome_some, Option.isSome_none, decide_true, decide_false, List.getElem?_toArray, List.getElem?_cons_zero, List.getElem?_cons_succ, Bool.and_true, Bool.and_self, Int.reduceEq, Int.reduceLT, Int.reduceLE, Int.reduceAdd, Int.reduceSub, Int.reduceMul, Int.reduceToNat, Nat.reduceMul, Nat.reduceLeDiff, Nat.le_refl, Nat.reduceLT, Nat.reduceSub]
  have hf49 : Fr No w4 w9 := hf48.then hf9
  have hm9 : MS w9 w3.heap.size (.slice (some ⟨b3, 0, none⟩) 2 2) [[0, 1], [1, 0]] := hm8.fr hf9 fun _ _ h => h
  have hs9 := hf9.size
  refine call (mmul_calls hm9 hm9 (by omega) (by omega) r22 r22 s22 s22) ?_
  intro y w10 h10
  rw [awake_mul] at h10
  simp -dsimp (disch := omega) only [↓MC.wp, ↓opsWp, ↓drWp, ↓MOp.wp, evs, ev, eget, eput, eput?, pev, pbin, pint, pbool, pstr, psl, vnil, pbuild, overlay, ↓thenQ, ↓blockQ, ↓retQ, ↓resWp, tupV, stills, MOp.still, known, Op.operands, List.toList_toArray, argEnv, ekeep, one_int, one_bool, one_str, one_ptr, one_slice, one_func, one_nilf, one_nilc, one_iface, one_map, Chk_true, Chk_of, Br_true, Br_false, Br_pos, Br_neg, Br_npos, Br_nneg, beq_t, beq_f, not_not', dec_true, dec_false, not_t, not_f, pick_t, pick_f, take1, drop1, take0, drop0, arr_app, List.append_nil, bne_tt, bne_tf, bne_ft, bne_ff, beq_tt, beq_tf, beq_ft, beq_ff, dec_pos, dec_neg, Ld_some, wrap_i64, tdiv_pos, tmod_pos, Sl.add_lit, drew_cell, Nat.reduceAdd, Nat.zero_add, Nat.add_zero, Nat.mul_one, Nat.one_mul, Int.toNat_natCast, cells_int, cells_bool, cells_str, cells_ptr, cells_slice, cells_func, cells_nilf, cells_nilc, cells_iface, cells_map, cells_agg, size_one, toList_one, List.length_cons, List.length_nil, List.cons_append, List.nil_append, reduceCtorEq, and_self, and_true, true_and, if_true, if_false, ↓reduceIte, ne_eq, not_false_eq_true, not_true_eq_false, Option.isSome_some, Option.isSome_none, decide_true, decide_false, List.getElem?_toArray, List.getElem?_cons_zero, List.getElem?_cons_succ, Bool.and_true, Bool.and_self, Int.reduceEq, Int.reduceLT, Int.reduceLE, Int.reduceAdd, Int.reduceSub, Int.reduceMul, Int.reduceToNat, Nat.reduceMul, Nat.reduceLeDiff, Nat.le_refl, Nat.reduceLT, Nat.reduceSub]
  refine call (one_calls 2 (by omega)) ?_
  intro z w11 h11
  simp -dsimp (disch := omega) only [↓MC.wp, ↓opsWp, ↓drWp, ↓MOp.wp, evs, ev, eget, eput, eput?, pev, pbin, pint, pbool, pstr, psl, vnil, pbuild, overlay, ↓thenQ, ↓blockQ, ↓retQ, ↓resWp, tupV, stills, MOp.still, known, Op.operands, List.toList_toArray, argEnv, ekeep, one_int, one_bool, one_str, one_ptr, one_slice, one_func, one_nilf, one_nilc, one_iface, one_map, Chk_true, Chk_of, Br_true, Br_false, Br_pos, Br_neg, Br_npos, Br_nneg, beq_t, beq_f, not_not', dec_true, dec_false, not_t, not_f, pick_t, pick_f, take1, drop1, take0, drop0, arr_app, List.append_nil, bne_tt, bne_tf, bne_ft, bne_ff, beq_tt, beq_tf, beq_ft, beq_ff, dec_pos, dec_neg, Ld_some, wrap_i64, tdiv_pos, tmod_pos, Sl.add_lit, drew_cell, Nat.reduceAdd, Nat.zero_add, Nat.add_zero, Nat.mul_one, Nat.one_mul, Int.toNat_natCast, cells_int, cells_bool, cells_str, cells_ptr, cells_slice, cells_func, cells_nilf, cells_nilc, cells_iface, cells_map, cells_agg, size_one, toList_one, List.length_cons, List.length_nil, List.cons_append, List.nil_append, reduceCtorEq, and_self, and_true, true_and, if_true, if_false, ↓reduceIte, ne_eq, not_false_eq_true, not_true_eq_false, Option.isSome_some, Option.isSome_none, decide_true, decide_false, List.getElem?_toArray, List.getElem?_cons_zero, List.getElem?_cons_succ, Bool.and_true, Bool.and_self, Int.reduceEq, Int.reduceLT, Int.reduceLE, Int.reduceAdd, Int.reduceSub, Int.reduceMul, Int.reduceToNat, Nat.reduceMul, Nat.reduceLeDiff, Nat.le_refl, Nat.reduceLT, Nat.reduceSub]
  have hy11 : MS w11 w10.heap.size y (coding 2 2) := h10.1.ms.fr h11.2 fun _ _ h => h
  refine call (same_calls hy11 h11.1.ms (by decide)) ?_
  intro r12 w12 h12
  rw [h12.1]
  simp -dsimp (disch := omega) only [↓MC.wp, ↓opsWp, ↓drWp, ↓MOp.wp, evs, ev, eget, eput, eput?, pev, pbin, pint, pbool, pstr, psl, vnil, pbuild, overlay, ↓thenQ, ↓blockQ, ↓retQ, ↓resWp, tupV, stills, MOp.still, known, Op.operands, List.toList_toArray, argEnv, ekeep, one_int, one_bool, one_str, one_ptr, one_slice, one_func, one_nilf, one_nilc, one_iface, one_map, Chk_true, Chk_of, Br_true, Br_false, Br_pos, Br_neg, Br_npos, Br_nneg, beq_t, beq_f, not_not', dec_true, dec_false, not_t, not_f, pick_t, pick_f, take1, drop1, take0, drop0, arr_app, List.append_nil, bne_tt, bne_tf, bne_ft, bne_ff, beq_tt, beq_tf, beq_ft, beq_ff, dec_pos, dec_neg, Ld_some, wrap_i64, tdiv_pos, tmod_pos, Sl.add_lit, drew_cell, Nat.reduceAdd, Nat.zero_add, Nat.add_zero, Nat.mul_one, Nat.one_mul, Int.toNat_natCast, cells_int, cells_bool, cells_str, cells_ptr, cells_slice, cells_func, cells_nilf, cells_nilc, cells_iface, cells_map, cells_agg, size_one, toList_one, List.length_cons, List.length_nil, List.cons_append, List.nil_append, reduceCtorEq, and_self, and_true, true_and, if_true, if_false, ↓reduceIte, ne_eq, not_false_eq_true, not_true_eq_false, Option.isSome_some, Option.isSome_none, decide_true, decide_false, List.getElem?_toArray, List.getElem?_cons_zero, List.getElem?_cons_succ, Bool.and_true, Bool.and_self, Int.reduceEq, Int.reduceLT, Int.reduceLE, Int.reduceAdd, Int.reduceSub, Int.reduceMul, Int.reduceToNat, Nat.reduceMul, Nat.reduceLeDiff, Nat.le_refl, Nat.reduceLT, Nat.reduceSub]
  refine call (coding_calls 2 3 (by omega) (by omega)) ?_
  intro c13 w13 h13
  have hc13 : ∃ A c, c13 = .slice A 3 c := MS.form h13.1.ms
  obtain ⟨A13, c13', hc13'⟩ := hc13
  rw [hc13']
  simp -dsimp (disch := omega) only [↓MC.wp, ↓opsWp, ↓drWp, ↓MOp.wp, evs, ev, eget, eput, eput?, pev, pbin, pint, pbool, pstr, psl, vnil, pbuild, overlay, ↓thenQ, ↓blockQ, ↓retQ, ↓resWp, tupV, stills, MOp.still, known, Op.operands, List.toList_toArray, argEnv, ekeep, one_int, one_bool, one_str, one_ptr, one_slice, one_func, one_nilf, one_nilc, one_iface, one_map, Chk_true, Chk_of, Br_true, Br_false, Br_pos, Br_neg, Br_npos, Br_nneg, beq_t, beq_f, not_not', dec_true, dec_false, not_t, not_f, pick_t, pick_f, take1, drop1, take0, drop0, arr_app, List.append_nil, bne_tt, bne_tf, bne_ft, bne_ff, beq_tt, beq_tf, beq_ft, beq_ff, dec_pos, dec_neg, Ld_some, wrap_i64, tdiv_pos, tmod_pos, Sl.add_lit, drew_cell, Nat.reduceAdd, Nat.zero_add, Nat.add_zero, Nat.mul_one, Nat.one_mul, Int.toNat_natCast, cells_int, cells_bool, cells_str, cells_ptr, cells_slice, cells_func, cells_nilf, cells_nilc, cells_iface, cells_map, cells_agg, size_one, toList_one, List.length_cons, List.length_nil, List.cons_append, List.nil_append, reduceCtorEq, and_self, and_true, true_and, if_true, if_false, ↓reduceIte, ne_eq, not_false_eq_true, not_true_eq_false, Option.isSome_some, Option.isSome_none, decide_true, decide_false, List.getElem?_toArray, List.getElem?_cons_zero, List.getElem?_cons_succ, Bool.and_true, Bool.and_self, Int.reduceEq, Int.reduceLT, Int.reduceLE, Int.reduceAdd, Int.reduceSub, Int.reduceMul, Int.reduceToNat, Nat.reduceMul, Nat.reduceLeDiff, Nat.le_refl, Nat.reduceLT, Nat.reduceSub]
  have hf9_13 : Fr No w9 w13 := ((h10.2.then h11.2).then h12.2).then h13.2
  have hm13 : MS w13 w3.heap.size (.slice (some ⟨b3, 0, none⟩) 2 2) [[0, 1], [1, 0]] := hm9.fr hf9_13 fun _ _ h => h
  have hs13 := hf9_13.size
  refine call (right_calls hm13 (by omega) (by decide)) ?_
  intro r14 w14 h14
  rw [h14.1, show rightB [[0, 1], [1, 0]] = true from by decide]
  simp -dsimp (disch := omega) only [↓MC.wp, ↓opsWp, ↓drWp, ↓MOp.wp, evs, ev, eget, eput, eput?, pev, pbin, pint, pbool, pstr, psl, vnil, pbuild, overlay, ↓thenQ, ↓blockQ, ↓retQ, ↓resWp, tupV, stills, MOp.still, known, Op.operands, List.toList_toArray, argEnv, ekeep, one_int, one_bool, one_str, one_ptr, one_slice, one_func, one_nilf, one_nilc, one_iface, one_map, Chk_true, Chk_of, Br_true, Br_false, Br_pos, Br_neg, Br_npos, Br_nneg, beq_t, beq_f, not_not', dec_true, dec_false, not_t, not_f, pick_t, pick_f, take1, drop1, take0, drop0, arr_app, List.append_nil, bne_tt, bne_tf, bne_ft, bne_ff, beq_tt, beq_tf, beq_ft, beq_ff, dec_pos, dec_neg, Ld_some, wrap_i64, tdiv_pos, tmod_pos, Sl.add_lit, drew_cell, Nat.reduceAdd, Nat.zero_add, Nat.add_zero, Nat.mul_one, Nat.one_mul, Int.toNat_natCast, cells_int, cells_bool, cells_str, cells_ptr, cells_slice, cells_func, cells_nilf, cells_nilc, cells_iface, cells_map, cells_agg, size_one, toList_one, List.length_cons, List.length_nil, List.cons_append, List.nil_append, reduceCtorEq, and_self, and_true, true_and, if_true, if_false, ↓reduceIte, ne_eq, not_false_eq_true, not_true_eq_false, Option.isSome_some, Option.isSome_none, decide_true, decide_false, List.getElem?_toArray, List.getElem?_cons_zero, List.getElem?_cons_succ, Bool.and_true, Bool.and_self, Int.reduceEq, Int.reduceLT, Int.reduceLE, Int.reduceAdd, Int.reduceSub, Int.reduceMul, Int.reduceToNat, Nat.reduceMul, Nat.reduceLeDiff, Nat.le_refl, Nat.reduceLT, Nat.reduceSub]
  have hnil : MS w14 0 (.slice none 0 0) [] := ⟨[], RS.nil _ _, rfl, fun j u x h => by simp at h⟩
  refine call (right_calls hnil (Nat.zero_le _) (by decide)) ?_
  intro r15 w15 h15
  rw [h15.1, show rightB [] = false from by decide]
  simp -dsimp (disch := omega) only [↓MC.wp, ↓opsWp, ↓drWp, ↓MOp.wp, evs, ev, eget, eput, eput?, pev, pbin, pint, pbool, pstr, psl, vnil, pbuild, overlay, ↓thenQ, ↓blockQ, ↓retQ, ↓resWp, tupV, stills, MOp.still, known, Op.operands, List.toList_toArray, argEnv, ekeep, one_int, one_bool, one_str, one_ptr, one_slice, one_func, one_nilf, one_nilc, one_iface, one_map, Chk_true, Chk_of, Br_true, Br_false, Br_pos, Br_neg, Br_npos, Br_nneg, beq_t, beq_f, not_not', dec_true, dec_false, not_t, not_f, pick_t, pick_f, take1, drop1, take0, drop0, arr_app, List.append_nil, bne_tt, bne_tf, bne_ft, bne_ff, beq_tt, beq_tf, beq_ft, beq_ff, dec_pos, dec_neg, Ld_some, wrap_i64, tdiv_pos, tmod_pos, Sl.add_lit, drew_cell, Nat.reduceAdd, Nat.zero_add, Nat.add_zero, Nat.mul_one, Nat.one_mul, Int.toNat_natCast, cells_int, cells_bool, cells_str, cells_ptr, cells_slice, cells_func, cells_nilf, cells_nilc, cells_iface, cells_map, cells_agg, size_one, toList_one, List.length_cons, List.length_nil, List.cons_append, List.nil_append, reduceCtorEq, and_self, and_true, true_and, if_true, if_false, ↓reduceIte, ne_eq, not_false_eq_true, not_true_eq_false, Option.isSome_some, Option.isSome_none, decide_true, decide_false, List.getElem?_toArray, List.getElem?_cons_zero, List.getElem?_cons_succ, Bool.and_true, Bool.and_self, Int.reduceEq, Int.reduceLT, Int.reduceLE, Int.reduceAdd, Int.reduceSub, Int.reduceMul, Int.reduceToNat, Nat.reduceMul, Nat.reduceLeDiff, Nat.le_refl, Nat.reduceLT, Nat.reduceSub, set_one]
  have hf13_15 : Fr No w13 w15 := h14.2.then h15.2
  have hm15 : MS w15 w3.heap.size (.slice (some ⟨b3, 0, none⟩) 2 2) [[0, 1], [1, 0]] := hm13.fr hf13_15 fun _ _ h => h
  have hs15 := hf13_15.size
  refine new ?_
  intro b16 w16 hb16 hs16 hc16 hf16
  simp -dsimp (disch := omega) only [↓MC.wp, ↓opsWp, ↓drWp, ↓MOp.wp, evs, ev, eget, eput, eput?, pev, pbin, pint, pbool, pstr, psl, vnil, pbuild, overlay, ↓thenQ, ↓blockQ, ↓retQ, ↓resWp, tupV, stills, MOp.still, known, Op.operands, List.toList_toArray, argEnv, ekeep, one_int, one_bool, one_str, one_ptr, one_slice, one_func, one_nilf, one_nilc, one_iface, one_map, Chk_true, Chk_of, Br_true, Br_false, Br_pos, Br_neg, Br_npos, Br_nneg, beq_t, beq_f, not_not', dec_true, dec_false, not_t, not_f, pick_t, pick_f, take1, drop1, take0, drop0, arr_app, List.append_nil, bne_tt, bne_tf, bne_ft, bne_ff, beq_tt, beq_tf, beq_ft, beq_ff, dec_pos, dec_neg, Ld_some, wrap_i64, tdiv_pos, tmod_pos, Sl.add_lit, drew_cell, Nat.reduceAdd, Nat.zero_add, Nat.add_zero, Nat.mul_one, Nat.one_mul, Int.toNat_natCast, cells_int, cells_bool, cells_str, cells_ptr, cells_slice, cells_func, cells_nilf, cells_nilc, cells_iface, cells_map, cells_agg, size_one, toList_one, List.length_cons, List.length_nil, List.cons_append, List.nil_append, reduceCtorEq, and_self, and_true, true_and, if_true, if_false, ↓reduceIte, ne_eq, not_false_eq_true, not_true_eq_false, Option.isSome_some, Option.isSome_none, decide_true, decide_false, List.getElem?_toArray, List.getElem?_cons_zero, List.getElem?_cons_succ, Bool.and_true, Bool.and_self, Int.reduceEq, Int.reduceLT, Int.reduceLE, Int.reduceAdd, Int.reduceSub, Int.reduceMul, Int.reduceToNat, Nat.reduceMul, Nat.reduceLeDiff, Nat.le_refl, Nat.reduceLT, Nat.reduceSub]
  have hm16 : MS w16 w3.heap.size (.slice (some ⟨b3, 0, none⟩) 2 2) [[0, 1], [1, 0]] := hm15.fr hf16 fun _ _ h => h
  have hi16 : RS w16 w16.heap.size (.slice (some ⟨b16, 0, none⟩) 1 1) ([1].map VL) := lit_rs (vs := [VL 1]) hc16 (by omega)
  refine call (rows_calls hm16 hi16 (by omega) (Nat.le_refl _) (by decide) (by decide) (by decide)) ?_
  intro r17 w17 h17
  have hr17 : ∃ A c, r17 = .slice A 1 c := MS.form h17.1.ms
  obtain ⟨A17, c17, hr17'⟩ := hr17
  rw [hr17']
  simp -dsimp (disch := omega) only [↓MC.wp, ↓opsWp, ↓drWp, ↓MOp.wp, evs, ev, eget, eput, eput?, pev, pbin, pint, pbool, pstr, psl, vnil, pbuild, overlay, ↓thenQ, ↓blockQ, ↓retQ, ↓resWp, tupV, stills, MOp.still, known, Op.operands, List.toList_toArray, argEnv, ekeep, one_int, one_bool, one_str, one_ptr, one_slice, one_func, one_nilf, one_nilc, one_iface, one_map, Chk_true, Chk_of, Br_true, Br_false, Br_pos, Br_neg, Br_npos, Br_nneg, beq_t, beq_f, not_not', dec_true, dec_false, not_t, not_f, pick_t, pick_f, take1, drop1, take0, drop0, arr_app, List.append_nil, bne_tt, bne_tf, bne_ft, bne_ff, beq_tt, beq_tf, beq_ft, beq_ff, dec_pos, dec_neg, Ld_some, wrap_i64, tdiv_pos, tmod_pos, Sl.add_lit, drew_cell, Nat.reduceAdd, Nat.zero_add, Nat.add_zero, Nat.mul_one, Nat.one_mul, Int.toNat_natCast, cells_int, cells_bool, cells_str, cells_ptr, cells_slice, cells_func, cells_nilf, cells_nilc, cells_iface, cells_map, cells_agg, size_one, toList_one, List.length_cons, List.length_nil, List.cons_append, List.nil_append, reduceCtorEq, and_self, and_true, true_and, if_true, if_false, ↓reduceIte, ne_eq, not_false_eq_true, not_true_eq_false, Option.isSome_some, Option.isSome_none, decide_true, decide_false, List.getElem?_toArray, List.getElem?_cons_zero, List.getElem?_cons_succ, Bool.and_true, Bool.and_self, Int.reduceEq, Int.reduceLT, Int.reduceLE, Int.reduceAdd, Int.reduceSub, Int.reduceMul, Int.reduceToNat, Nat.reduceMul, Nat.reduceLeDiff, Nat.le_refl, Nat.reduceLT, Nat.reduceSub]
  exact ((((hf04.then hf49).then hf9_13).then hf13_15).then hf16).then h17.2
end Go.Proofs.Ytgpkbldlkadnjaa
end
