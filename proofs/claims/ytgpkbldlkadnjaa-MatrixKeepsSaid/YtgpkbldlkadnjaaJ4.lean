/- Walks: matrix.plus. -/
import Derived.Test.YtgpkbldlkadnjaaJ3
import Derived.Test.YtgpkbldlkadnjaaJ1
section
set_option linter.unusedVariables false
set_option linter.unusedSimpArgs false
namespace Go.Proofs.Ytgpkbldlkadnjaa
open Go Go.Sl Go.RowKit

/-- turned by one another, place by place -/
def xorL : List UInt8 → List UInt8 → List UInt8
  | a :: xs, b :: ys => (a ^^^ b) :: xorL xs ys
  | xs, _ => xs

theorem xorL_length : ∀ (xs ys : List UInt8), (xorL xs ys).length = xs.length
  | [], _ => by cases ‹List UInt8› <;> rfl
  | _ :: _, [] => rfl
  | x :: xs, y :: ys => by simp [xorL, xorL_length xs ys]
theorem xorL_nil (xs : List UInt8) : xorL xs [] = xs := by cases xs <;> rfl
theorem xorL_take : ∀ (xs ys : List UInt8) (k : Nat) (h : k < ys.length) (h' : k < xs.length),
    (xorL xs (ys.take k))[k]? = some xs[k] ∧ (xorL xs (ys.take k)).set k (xs[k] ^^^ ys[k]) = xorL xs (ys.take (k + 1))
  | [], ys, k, h, h' => by simp at h'
  | x :: xs, [], k, h, h' => by simp at h
  | x :: xs, y :: ys, 0, h, h' => by simp [xorL, xorL_nil]
  | x :: xs, y :: ys, k + 1, h, h' => by
    obtain ⟨h1, h2⟩ := xorL_take xs ys k (by simpa using h) (by simpa using h')
    simp only [List.take_succ_cons, xorL, List.getElem?_cons_succ, List.getElem_cons_succ, List.set_cons_succ]
    exact ⟨h1, by rw [h2]⟩
theorem xor_u8' (a b : UInt8) : IntKind.u8.wrap (BitVec.ofInt 8 (a.toNat : Int) ^^^ BitVec.ofInt 8 (b.toNat : Int)).toNat = ((a ^^^ b).toNat : Int) := by
  have h1 : ∀ x : UInt8, BitVec.ofInt 8 (x.toNat : Int) = x.toBitVec := fun x => by
    apply BitVec.eq_of_toNat_eq
    simp
  rw [h1, h1, ← UInt8.toBitVec_xor]
  rw [wrap_u8 (by have := (a ^^^ b).toBitVec.isLt; omega)]
  rfl
theorem xor_u8 (a b : UInt8) : IntKind.u8.wrap (BitVec.ofInt IntKind.u8.bits (a.toNat : Int) ^^^ BitVec.ofInt IntKind.u8.bits (b.toNat : Int)).toNat = ((a ^^^ b).toNat : Int) := xor_u8' a b

/-- bytes that are read, none of them in block g -/
def BN (w : World) (g : Nat) (v : Value) (xs : List UInt8) : Prop := ∃ A c, v = .slice A xs.length c ∧ ∀ j (hj : j < xs.length), ∃ ad, A = some ad ∧ ad.block ≠ g ∧ w.cell? (ad.add j) = some (U8 xs[j])
theorem Ow.bn {w : World} {e : TypeId} {v : Value} {xs : List UInt8} {g : Nat} (h : Ow w e 1 v xs.length (xs.map U8)) (hg : v.ownBlock ≠ some g) : BN w g v xs := by
  rcases h.form with ⟨rfl, hn, hx⟩ | ⟨b, cap, cur, rfl, hb, hc, hs, hl, ht⟩
  · refine ⟨none, 0, by rw [hn], fun j hj => by omega⟩
  · refine ⟨_, cap, rfl, fun j hj => ⟨_, rfl, fun e => hg (by cases e; rfl), ?_⟩⟩
    exact World.ownsRow.cells h (g := b) rfl j _ (by rw [List.getElem?_map, List.getElem?_eq_getElem hj]; rfl)
theorem plus_calls {w : World} {e : TypeId} {g cap : Nat} {xs ys : List UInt8} {v : Value} (ha : Ow w e 1 (.slice (some ⟨g, 0, none⟩) xs.length cap) xs.length (xs.map U8)) (hb : BN w g v ys)
    (hl : ys.length ≤ xs.length) (hm : xs.length ≤ 9223372036854775806) :
    Calls Try.prog f_matrix_plus #[.slice (some ⟨g, 0, none⟩) xs.length cap, v] w fun en w' => ∃ r, en = .returned r ∧
      (Ow w' e 1 (.slice (some ⟨g, 0, none⟩) xs.length cap) xs.length ((xorL xs ys).map U8) ∧ Fr (· = g) w w') := by
  obtain ⟨A, c, rfl, hr⟩ := hb
  refine calls_of_mf (args := [.slice (some ⟨g, 0, none⟩) xs.length cap, .slice A ys.length c]) c_matrix_plus (by simp only [m_matrix_plus, List.length]; decide) ?_
  simp -dsimp (disch := omega) only [↓MC.wp, ↓opsWp, ↓drWp, ↓MOp.wp, evs, ev, eget, eput, eput?, pev, pbin, pint, pbool, pstr, psl, vnil, pbuild, overlay, ↓thenQ, ↓blockQ, ↓retQ, ↓resWp, tupV, stills, MOp.still, known, Op.operands, List.toList_toArray, argEnv, ekeep, one_int, one_bool, one_str, one_ptr, one_slice, one_func, one_nilf, one_nilc, one_iface, one_map, Chk_true, Chk_of, Br_true, Br_false, Br_pos, Br_neg, Br_npos, Br_nneg, beq_t, beq_f, not_not', dec_true, dec_false, not_t, not_f, pick_t, pick_f, take1, drop1, take0, drop0, arr_app, List.append_nil, bne_tt, bne_tf, bne_ft, bne_ff, beq_tt, beq_tf, beq_ft, beq_ff, dec_pos, dec_neg, Ld_some, wrap_i64, tdiv_pos, tmod_pos, Sl.add_lit, drew_cell, Nat.reduceAdd, Nat.zero_add, Nat.add_zero, Nat.mul_one, Nat.one_mul, Int.toNat_natCast, cells_int, cells_bool, cells_str, cells_ptr, cells_slice, cells_func, cells_nilf, cells_nilc, cells_iface, cells_map, cells_agg, size_one, toList_one, List.length_cons, List.length_nil, List.cons_append, List.nil_append, reduceCtorEq, and_self, and_true, true_and, if_true, if_false, ↓reduceIte, ne_eq, not_false_eq_true, not_true_eq_false, Option.isSome_some, Option.isSome_none, decide_true, decide_false, List.getElem?_toArray, List.getElem?_cons_zero, List.getElem?_cons_succ, Bool.and_true, Bool.and_self, Int.reduceEq, Int.reduceLT, Int.reduceLE, Int.reduceAdd, Int.reduceSub, Int.reduceMul, Int.reduceToNat, Nat.reduceMul, Nat.reduceLeDiff, Nat.le_refl, Nat.reduceLT, Nat.reduceSub, m_matrix_plus]
  refine loopS [0, 6, 7, 8] (fun k : Nat => [(0, .slice (some ⟨g, 0, none⟩) xs.length cap), (6, .slice A ys.length c), (7, .int .i64 ys.length), (8, .int .i64 k)])
    (fun k w1 => k ≤ ys.length ∧ Ow w1 e 1 (.slice (some ⟨g, 0, none⟩) xs.length cap) xs.length ((xorL xs (ys.take k)).map U8) ∧ Fr (· = g) w w1) (fun k _ => ys.length - k) 0 rfl
    ⟨Nat.zero_le _, by simpa [xorL_nil] using ha, Fr.refl _ _⟩ ?_
  rintro k w1 ⟨hk, ho, hf⟩
  by_cases hlt : k < ys.length
  · obtain ⟨ad, rfl, had, hcell⟩ := hr k hlt
    have hc1 : w1.cell? (ad.add k) = some (U8 ys[k]) := by
      rw [hf.cell (cell_block_lt hcell) (by rw [add_block]; exact had)]; exact hcell
    obtain ⟨hx1, hx2⟩ := xorL_take xs ys k hlt (by omega)
    have hc2 : w1.cell? ⟨g, k, none⟩ = some (U8 xs[k]) := ho.cellAt (by rw [List.getElem?_map, hx1]; rfl)
    simp -dsimp (disch := omega) only [↓MC.wp, ↓opsWp, ↓drWp, ↓MOp.wp, evs, ev, eget, eput, eput?, pev, pbin, pint, pbool, pstr, psl, vnil, pbuild, overlay, ↓thenQ, ↓blockQ, ↓retQ, ↓resWp, tupV, stills, MOp.still, known, Op.operands, List.toList_toArray, argEnv, ekeep, one_int, one_bool, one_str, one_ptr, one_slice, one_func, one_nilf, one_nilc, one_iface, one_map, Chk_true, Chk_of, Br_true, Br_false, Br_pos, Br_neg, Br_npos, Br_nneg, beq_t, beq_f, not_not', dec_true, dec_false, not_t, not_f, pick_t, pick_f, take1, drop1, take0, drop0, arr_app, List.append_nil, bne_tt, bne_tf, bne_ft, bne_ff, beq_tt, beq_tf, beq_ft, beq_ff, dec_pos, dec_neg, Ld_some, wrap_i64, tdiv_pos, tmod_pos, Sl.add_lit, drew_cell, Nat.reduceAdd, Nat.zero_add, Nat.add_zero, Nat.mul_one, Nat.one_mul, Int.toNat_natCast, cells_int, cells_bool, cells_str, cells_ptr, cells_slice, cells_func, cells_nilf, cells_nilc, cells_iface, cells_map, cells_agg, size_one, toList_one, List.length_cons, List.length_nil, List.cons_append, List.nil_append, reduceCtorEq, and_self, and_true, true_and, if_true, if_false, ↓reduceIte, ne_eq, not_false_eq_true, not_true_eq_false, Option.isSome_some, Option.isSome_none, decide_true, decide_false, List.getElem?_toArray, List.getElem?_cons_zero, List.getElem?_cons_succ, Bool.and_true, Bool.and_self, Int.reduceEq, Int.reduceLT, Int.reduceLE, Int.reduceAdd, Int.reduceSub, Int.reduceMul, Int.reduceToNat, Nat.reduceMul, Nat.reduceLeDiff, Nat.le_refl, Nat.reduceLT, Nat.reduceSub, hc1, hc2, U8, xor_u8]
    refine ho.set (j := k) (v := U8 (xs[k] ^^^ ys[k])) (by omega) rfl fun w2 ho2 hf2 hs2 => ?_
    simp -dsimp (disch := omega) only [↓MC.wp, ↓opsWp, ↓drWp, ↓MOp.wp, evs, ev, eget, eput, eput?, pev, pbin, pint, pbool, pstr, psl, vnil, pbuild, overlay, ↓thenQ, ↓blockQ, ↓retQ, ↓resWp, tupV, stills, MOp.still, known, Op.operands, List.toList_toArray, argEnv, ekeep, one_int, one_bool, one_str, one_ptr, one_slice, one_func, one_nilf, one_nilc, one_iface, one_map, Chk_true, Chk_of, Br_true, Br_false, Br_pos, Br_neg, Br_npos, Br_nneg, beq_t, beq_f, not_not', dec_true, dec_false, not_t, not_f, pick_t, pick_f, take1, drop1, take0, drop0, arr_app, List.append_nil, bne_tt, bne_tf, bne_ft, bne_ff, beq_tt, beq_tf, beq_ft, beq_ff, dec_pos, dec_neg, Ld_some, wrap_i64, tdiv_pos, tmod_pos, Sl.add_lit, drew_cell, Nat.reduceAdd, Nat.zero_add, Nat.add_zero, Nat.mul_one, Nat.one_mul, Int.toNat_natCast, cells_int, cells_bool, cells_str, cells_ptr, cells_slice, cells_func, cells_nilf, cells_nilc, cells_iface, cells_map, cells_agg, size_one, toList_one, List.length_cons, List.length_nil, List.cons_append, List.nil_append, reduceCtorEq, and_self, and_true, true_and, if_true, if_false, ↓reduceIte, ne_eq, not_false_eq_true, not_true_eq_false, Option.isSome_some, Option.isSome_none, decide_true, decide_false, List.getElem?_toArray, List.getElem?_cons_zero, List.getElem?_cons_succ, Bool.and_true, Bool.and_self, Int.reduceEq, Int.reduceLT, Int.reduceLE, Int.reduceAdd, Int.reduceSub, Int.reduceMul, Int.reduceToNat, Nat.reduceMul, Nat.reduceLeDiff, Nat.le_refl, Nat.reduceLT, Nat.reduceSub]
    refine ⟨k + 1, rfl, ⟨by omega, ?_, hf.step hf2 fun _ _ h => h⟩, by omega⟩
    rw [← hx2, List.map_set]
    exact ho2
  · simp -dsimp (disch := omega) only [↓MC.wp, ↓opsWp, ↓drWp, ↓MOp.wp, evs, ev, eget, eput, eput?, pev, pbin, pint, pbool, pstr, psl, vnil, pbuild, overlay, ↓thenQ, ↓blockQ, ↓retQ, ↓resWp, tupV, stills, MOp.still, known, Op.operands, List.toList_toArray, argEnv, ekeep, one_int, one_bool, one_str, one_ptr, one_slice, one_func, one_nilf, one_nilc, one_iface, one_map, Chk_true, Chk_of, Br_true, Br_false, Br_pos, Br_neg, Br_npos, Br_nneg, beq_t, beq_f, not_not', dec_true, dec_false, not_t, not_f, pick_t, pick_f, take1, drop1, take0, drop0, arr_app, List.append_nil, bne_tt, bne_tf, bne_ft, bne_ff, beq_tt, beq_tf, beq_ft, beq_ff, dec_pos, dec_neg, Ld_some, wrap_i64, tdiv_pos, tmod_pos, Sl.add_lit, drew_cell, Nat.reduceAdd, Nat.zero_add, Nat.add_zero, Nat.mul_one, Nat.one_mul, Int.toNat_natCast, cells_int, cells_bool, cells_str, cells_ptr, cells_slice, cells_func, cells_nilf, cells_nilc, cells_iface, cells_map, cells_agg, size_one, toList_one, List.length_cons, List.length_nil, List.cons_append, List.nil_append, reduceCtorEq, and_self, and_true, true_and, if_true, if_false, ↓reduceIte, ne_eq, not_false_eq_true, not_true_eq_false, Option.isSome_some, Option.isSome_none, decide_true, decide_false, List.getElem?_toArray, List.getElem?_cons_zero, List.getElem?_cons_succ, Bool.and_true, Bool.and_self, Int.reduceEq, Int.reduceLT, Int.reduceLE, Int.reduceAdd, Int.reduceSub, Int.reduceMul, Int.reduceToNat, Nat.reduceMul, Nat.reduceLeDiff, Nat.le_refl, Nat.reduceLT, Nat.reduceSub]
    have hkk : k = ys.length := by omega
    subst hkk
    rw [List.take_length] at ho
    exact ⟨ho, hf⟩
end Go.Proofs.Ytgpkbldlkadnjaa
end
section
/- Plain: the field's tables. -/
set_option linter.unusedVariables false
set_option linter.unusedSimpArgs false
namespace Go.Proofs.Ytgpkbldlkadnjaa
open Go Go.Sl

def stepX (x : Nat) : Nat := if 255 < 2 * x then (2 * x) ^^^ 285 else 2 * x
/-- the tables behind so many rounds: powers, exponents, the next power -/
def gfTab : Nat → List Nat × List Nat × Nat
  | 0 => (List.replicate 255 0, List.replicate 256 0, 1)
  | i + 1 => ((gfTab i).1.set i (gfTab i).2.2, (gfTab i).2.1.set (gfTab i).2.2 i, stepX (gfTab i).2.2)
theorem stepX_all : (List.range 256).all (fun x => decide (stepX x < 256)) = true := by decide +kernel
theorem stepX_lt (x : Nat) (h : x < 256) : stepX x < 256 := by
  have := List.all_eq_true.1 stepX_all x (List.mem_range.2 h)
  simpa using this
theorem gfTab_lt : ∀ i, (gfTab i).2.2 < 256
  | 0 => show (1 : Nat) < 256 by omega
  | i + 1 => stepX_lt _ (gfTab_lt i)
theorem gfTab_len : ∀ i, (gfTab i).1.length = 255 ∧ (gfTab i).2.1.length = 256
  | 0 => ⟨List.length_replicate, List.length_replicate⟩
  | i + 1 => by
    have := gfTab_len i
    exact ⟨by rw [gfTab, List.length_set]; exact this.1, by rw [gfTab, List.length_set]; exact this.2⟩
def VB (n : Nat) : Value := .int .u8 n
def VI (n : Nat) : Value := .int .i64 n
def gfCells (i : Nat) : List Value := (gfTab i).1.map VB ++ (gfTab i).2.1.map VI
theorem gfCells_len (i : Nat) : (gfCells i).length = 511 := by simp [gfCells, gfTab_len]
theorem gfCells_succ (i : Nat) (h : i < 255) : ((gfCells i).set i (VB (gfTab i).2.2)).set (255 + (gfTab i).2.2) (VI i) = gfCells (i + 1) := by
  have h1 := gfTab_len i
  have h2 := gfTab_lt i
  simp only [gfCells, gfTab]
  rw [List.set_append_left _ _ (by simp [h1]; exact h), List.set_append_right _ _ (by simp [h1])]
  simp [h1, List.map_set]

/-- the field lies in block b -/
def FieldAt (w : World) (b : Nat) : Prop := ∃ e, w.heap[b]? = some (.cells (gfCells 255).toArray e (0, 0))
theorem FieldAt.fr {w w' : World} {M : Nat → Prop} {b : Nat} (h : FieldAt w b) (hf : Fr M w w') (hM : ¬ M b) : FieldAt w' b := by
  obtain ⟨e, h⟩ := h
  exact ⟨e, by rw [hf.same b (Array.getElem?_eq_some_iff.1 h).1 hM]; exact h⟩
theorem FieldAt.lt {w : World} {b : Nat} (h : FieldAt w b) : b < w.heap.size := by
  obtain ⟨e, h⟩ := h
  exact (Array.getElem?_eq_some_iff.1 h).1
def gexp (i : Nat) : Nat := (gfTab 255).1.getD i 0
def glog (a : Nat) : Nat := (gfTab 255).2.1.getD a 0
theorem FieldAt.exp {w : World} {b : Nat} (h : FieldAt w b) {i : Nat} (hi : i < 255) : w.cell? ⟨b, i, none⟩ = some (VB (gexp i)) := by
  obtain ⟨e, h⟩ := h
  have h1 := gfTab_len 255
  simp only [World.cell?, h, Option.isSome_none, Bool.false_eq_true, if_false, gfCells, gexp, List.getElem?_toArray]
  rw [List.getElem?_append_left (by simp [h1]; exact hi), List.getElem?_map, List.getD_eq_getElem?_getD, List.getElem?_eq_getElem (by omega)]
  rfl
theorem FieldAt.log {w : World} {b : Nat} (h : FieldAt w b) {a : Nat} (ha : a < 256) : w.cell? ⟨b, 255 + a, none⟩ = some (VI (glog a)) := by
  obtain ⟨e, h⟩ := h
  have h1 := gfTab_len 255
  simp only [World.cell?, h, Option.isSome_none, Bool.false_eq_true, if_false, gfCells, glog, List.getElem?_toArray]
  rw [List.getElem?_append_right (by simp [h1])]
  simp only [List.length_map, h1.1, Nat.add_sub_cancel_left, List.getElem?_map, List.getD_eq_getElem?_getD, List.getElem?_eq_getElem (show a < (gfTab 255).2.1.length by omega)]
  rfl
theorem tab_bounds : (gfTab 255).1.all (fun n => decide (n < 256)) = true ∧ (gfTab 255).2.1.all (fun n => decide (n < 255)) = true := by decide +kernel
theorem gexp_lt (i : Nat) : gexp i < 256 := by
  unfold gexp
  rw [List.getD_eq_getElem?_getD]
  cases h : (gfTab 255).1[i]? with
  | none => simp
  | some n => have := List.all_eq_true.1 tab_bounds.1 n (List.mem_of_getElem? h); simpa using this
theorem glog_lt (a : Nat) : glog a < 255 := by
  unfold glog
  rw [List.getD_eq_getElem?_getD]
  cases h : (gfTab 255).2.1[a]? with
  | none => simp
  | some n => have := List.all_eq_true.1 tab_bounds.2 n (List.mem_of_getElem? h); simpa using this
/-- product and contrary, by the tables -/
def gmul (a b : UInt8) : UInt8 := if a = 0 ∨ b = 0 then 0 else UInt8.ofNat (gexp ((glog a.toNat + glog b.toNat) % 255))
def ginv (a : UInt8) : UInt8 := if a = 0 then 0 else UInt8.ofNat (gexp ((255 - glog a.toNat) % 255))
theorem VB_u8 (n : Nat) (h : n < 256) : VB n = U8 (UInt8.ofNat n) := by
  unfold VB U8
  simp only [Value.int.injEq, true_and]
  rw [UInt8.toNat_ofNat']
  omega
end Go.Proofs.Ytgpkbldlkadnjaa
end
section
/- Walks: the field. -/
set_option linter.unusedVariables false
set_option linter.unusedSimpArgs false
namespace Go.Proofs.Ytgpkbldlkadnjaa
open Go Go.Sl Go.RowKit

theorem shl1 (x : Int) : x * 2 ^ (Nat.min 1 IntKind.i64.bits) = 2 * x := by
  have : Nat.min 1 IntKind.i64.bits = 1 := rfl
  rw [this]
  omega
theorem xor285 (x : Nat) (h : x < 65536) : IntKind.i64.wrap (BitVec.ofInt IntKind.i64.bits (2 * (x : Int)) ^^^ BitVec.ofInt IntKind.i64.bits 285).toNat = (((2 * x) ^^^ 285 : Nat) : Int) := by
  have h1 : BitVec.ofInt 64 (2 * (x : Int)) = BitVec.ofNat 64 (2 * x) := by
    apply BitVec.eq_of_toNat_eq
    simp
    omega
  have h2 : (BitVec.ofInt 64 (2 * (x : Int)) ^^^ BitVec.ofInt 64 285).toNat = (2 * x) ^^^ 285 := by
    rw [h1, BitVec.toNat_xor]
    have : (BitVec.ofInt 64 285).toNat = 285 := by decide
    rw [this, BitVec.toNat_ofNat, Nat.mod_eq_of_lt (by omega)]
  have h3 : (2 * x) ^^^ 285 < 2 ^ 18 := Nat.xor_lt_two_pow (by omega) (by omega)
  show IntKind.i64.wrap (((BitVec.ofInt 64 (2 * (x : Int)) ^^^ BitVec.ofInt 64 285).toNat : Nat) : Int) = _
  rw [h2, wrap_i64 (by omega)]

theorem gf_store {cs : List Value} {w : World} {b : Nat} {e : TypeId} (h : w.heap[b]? = some (.cells cs.toArray e (0, 0))) {j : Nat} {v : Value} (hj : j < cs.length) (h1 : v.oneCell' = true) {K : World → Prop} {t : TagF K}
    (k : ∀ w', w'.heap[b]? = some (.cells (cs.set j v).toArray e (0, 0)) → Fr (· = b) w w' → w'.heap.size = w.heap.size → K w') : Stn w ⟨b, j, none⟩ [v] K t := by
  refine stn1 h (by simpa using hj) (by simp) h1 fun w' hw hf hs => k w' ?_ hf hs
  rw [hw]
  simp

theorem gfCells_zero : gfCells 0 = List.replicate 255 (.int .u8 0) ++ List.replicate 256 (.int .i64 0) := by
  show (List.replicate 255 0).map VB ++ (List.replicate 256 0).map VI = _
  rw [List.map_replicate, List.map_replicate]
  rfl
theorem new_calls (w : World) : Calls Try.prog f_field_New #[] w fun en w' => ∃ r, en = .returned r ∧
    (r = .pointer (some ⟨w.heap.size, 0, none⟩) ∧ FieldAt w' w.heap.size ∧ Fr No w w') := by
  refine calls_of_mf (args := []) c_field_New (by simp only [m_field_New, List.length]; decide) ?_
  simp -dsimp (disch := omega) only [↓MC.wp, ↓opsWp, ↓drWp, ↓MOp.wp, evs, ev, eget, eput, eput?, pev, pbin, pint, pbool, pstr, psl, vnil, pbuild, overlay, ↓thenQ, ↓blockQ, ↓retQ, ↓resWp, tupV, stills, MOp.still, known, Op.operands, List.toList_toArray, argEnv, ekeep, one_int, one_bool, one_str, one_ptr, one_slice, one_func, one_nilf, one_nilc, one_iface, one_map, Chk_true, Chk_of, Br_true, Br_false, Br_pos, Br_neg, Br_npos, Br_nneg, beq_t, beq_f, not_not', dec_true, dec_false, not_t, not_f, pick_t, pick_f, take1, drop1, take0, drop0, arr_app, List.append_nil, bne_tt, bne_tf, bne_ft, bne_ff, beq_tt, beq_tf, beq_ft, beq_ff, dec_pos, dec_neg, Ld_some, wrap_i64, tdiv_pos, tmod_pos, Sl.add_lit, drew_cell, Nat.reduceAdd, Nat.zero_add, Nat.add_zero, Nat.mul_one, Nat.one_mul, Int.toNat_natCast, cells_int, cells_bool, cells_str, cells_ptr, cells_slice, cells_func, cells_nilf, cells_nilc, cells_iface, cells_map, cells_agg, size_one, toList_one, List.length_cons, List.length_nil, List.cons_append, List.nil_append, reduceCtorEq, and_self, and_true, true_and, if_true, if_false, ↓reduceIte, ne_eq, not_false_eq_true, not_true_eq_false, Option.isSome_some, Option.isSome_none, decide_true, decide_false, List.getElem?_toArray, List.getElem?_cons_zero, List.getElem?_cons_succ, Bool.and_true, Bool.and_self, Int.reduceEq, Int.reduceLT, Int.reduceLE, Int.reduceAdd, Int.reduceSub, Int.reduceMul, Int.reduceToNat, Nat.reduceMul, Nat.reduceLeDiff, Nat.le_refl, Nat.reduceLT, Nat.reduceSub, m_field_New]
  refine new fun b w1 hb hs hc hf => ?_
  simp -dsimp (disch := omega) only [↓MC.wp, ↓opsWp, ↓drWp, ↓MOp.wp, evs, ev, eget, eput, eput?, pev, pbin, pint, pbool, pstr, psl, vnil, pbuild, overlay, ↓thenQ, ↓blockQ, ↓retQ, ↓resWp, tupV, stills, MOp.still, known, Op.operands, List.toList_toArray, argEnv, ekeep, one_int, one_bool, one_str, one_ptr, one_slice, one_func, one_nilf, one_nilc, one_iface, one_map, Chk_true, Chk_of, Br_true, Br_false, Br_pos, Br_neg, Br_npos, Br_nneg, beq_t, beq_f, not_not', dec_true, dec_false, not_t, not_f, pick_t, pick_f, take1, drop1, take0, drop0, arr_app, List.append_nil, bne_tt, bne_tf, bne_ft, bne_ff, beq_tt, beq_tf, beq_ft, beq_ff, dec_pos, dec_neg, Ld_some, wrap_i64, tdiv_pos, tmod_pos, Sl.add_lit, drew_cell, Nat.reduceAdd, Nat.zero_add, Nat.add_zero, Nat.mul_one, Nat.one_mul, Int.toNat_natCast, cells_int, cells_bool, cells_str, cells_ptr, cells_slice, cells_func, cells_nilf, cells_nilc, cells_iface, cells_map, cells_agg, size_one, toList_one, List.length_cons, List.length_nil, List.cons_append, List.nil_append, reduceCtorEq, and_self, and_true, true_and, if_true, if_false, ↓reduceIte, ne_eq, not_false_eq_true, not_true_eq_false, Option.isSome_some, Option.isSome_none, decide_true, decide_false, List.getElem?_toArray, List.getElem?_cons_zero, List.getElem?_cons_succ, Bool.and_true, Bool.and_self, Int.reduceEq, Int.reduceLT, Int.reduceLE, Int.reduceAdd, Int.reduceSub, Int.reduceMul, Int.reduceToNat, Nat.reduceMul, Nat.reduceLeDiff, Nat.le_refl, Nat.reduceLT, Nat.reduceSub]
  have hc0 : w1.heap[b]? = some (.cells (gfCells 0).toArray t_field_Field (0, 0)) := by rw [gfCells_zero]; exact hc
  clear hc
  refine loopS [1, 2, 6] (fun k : Nat => [(1, .pointer (some ⟨b, 0, none⟩)), (2, .int .i64 ((gfTab k).2.2 : Nat)), (6, .int .i64 k)])
    (fun k w2 => k ≤ 255 ∧ w2.heap[b]? = some (.cells (gfCells k).toArray t_field_Field (0, 0)) ∧ Fr No w w2) (fun k _ => 255 - k) 0 rfl ⟨by omega, hc0, hf⟩ ?_
  clear hc0 hf hs
  rintro k w2 ⟨hk, hc, hf⟩
  have hx := gfTab_lt k
  have hlen := gfCells_len k
  by_cases hlt : k < 255
  · simp -dsimp (disch := omega) only [↓MC.wp, ↓opsWp, ↓drWp, ↓MOp.wp, evs, ev, eget, eput, eput?, pev, pbin, pint, pbool, pstr, psl, vnil, pbuild, overlay, ↓thenQ, ↓blockQ, ↓retQ, ↓resWp, tupV, stills, MOp.still, known, Op.operands, List.toList_toArray, argEnv, ekeep, one_int, one_bool, one_str, one_ptr, one_slice, one_func, one_nilf, one_nilc, one_iface, one_map, Chk_true, Chk_of, Br_true, Br_false, Br_pos, Br_neg, Br_npos, Br_nneg, beq_t, beq_f, not_not', dec_true, dec_false, not_t, not_f, pick_t, pick_f, take1, drop1, take0, drop0, arr_app, List.append_nil, bne_tt, bne_tf, bne_ft, bne_ff, beq_tt, beq_tf, beq_ft, beq_ff, dec_pos, dec_neg, Ld_some, wrap_i64, tdiv_pos, tmod_pos, Sl.add_lit, drew_cell, Nat.reduceAdd, Nat.zero_add, Nat.add_zero, Nat.mul_one, Nat.one_mul, Int.toNat_natCast, cells_int, cells_bool, cells_str, cells_ptr, cells_slice, cells_func, cells_nilf, cells_nilc, cells_iface, cells_map, cells_agg, size_one, toList_one, List.length_cons, List.length_nil, List.cons_append, List.nil_append, reduceCtorEq, and_self, and_true, true_and, if_true, if_false, ↓reduceIte, ne_eq, not_false_eq_true, not_true_eq_false, Option.isSome_some, Option.isSome_none, decide_true, decide_false, List.getElem?_toArray, List.getElem?_cons_zero, List.getElem?_cons_succ, Bool.and_true, Bool.and_self, Int.reduceEq, Int.reduceLT, Int.reduceLE, Int.reduceAdd, Int.reduceSub, Int.reduceMul, Int.reduceToNat, Nat.reduceMul, Nat.reduceLeDiff, Nat.le_refl, Nat.reduceLT, Nat.reduceSub, wrap_u8]
    refine gf_store (w := w2.drew) hc ?_ ?_ fun w3 hc3 hf3 hs3 => ?_
    · omega
    · rfl
    simp -dsimp (disch := omega) only [↓MC.wp, ↓opsWp, ↓drWp, ↓MOp.wp, evs, ev, eget, eput, eput?, pev, pbin, pint, pbool, pstr, psl, vnil, pbuild, overlay, ↓thenQ, ↓blockQ, ↓retQ, ↓resWp, tupV, stills, MOp.still, known, Op.operands, List.toList_toArray, argEnv, ekeep, one_int, one_bool, one_str, one_ptr, one_slice, one_func, one_nilf, one_nilc, one_iface, one_map, Chk_true, Chk_of, Br_true, Br_false, Br_pos, Br_neg, Br_npos, Br_nneg, beq_t, beq_f, not_not', dec_true, dec_false, not_t, not_f, pick_t, pick_f, take1, drop1, take0, drop0, arr_app, List.append_nil, bne_tt, bne_tf, bne_ft, bne_ff, beq_tt, beq_tf, beq_ft, beq_ff, dec_pos, dec_neg, Ld_some, wrap_i64, tdiv_pos, tmod_pos, Sl.add_lit, drew_cell, Nat.reduceAdd, Nat.zero_add, Nat.add_zero, Nat.mul_one, Nat.one_mul, Int.toNat_natCast, cells_int, cells_bool, cells_str, cells_ptr, cells_slice, cells_func, cells_nilf, cells_nilc, cells_iface, cells_map, cells_agg, size_one, toList_one, List.length_cons, List.length_nil, List.cons_append, List.nil_append, reduceCtorEq, and_self, and_true, true_and, if_true, if_false, ↓reduceIte, ne_eq, not_false_eq_true, not_true_eq_false, Option.isSome_some, Option.isSome_none, decide_true, decide_false, List.getElem?_toArray, List.getElem?_cons_zero, List.getElem?_cons_succ, Bool.and_true, Bool.and_self, Int.reduceEq, Int.reduceLT, Int.reduceLE, Int.reduceAdd, Int.reduceSub, Int.reduceMul, Int.reduceToNat, Nat.reduceMul, Nat.reduceLeDiff, Nat.le_refl, Nat.reduceLT, Nat.reduceSub]
    refine gf_store hc3 ?_ ?_ fun w4 hc4 hf4 hs4 => ?_
    · rw [List.length_set]; omega
    · rfl
    have hc5 : w4.heap[b]? = some (.cells (gfCells (k + 1)).toArray t_field_Field (0, 0)) := by rw [← gfCells_succ k hlt]; exact hc4
    have hf5 : Fr No w w4 := (hf.drew.step hf3 (fun c hc h => by omega)).step hf4 (fun c hc h => by omega)
    simp -dsimp (disch := omega) only [↓MC.wp, ↓opsWp, ↓drWp, ↓MOp.wp, evs, ev, eget, eput, eput?, pev, pbin, pint, pbool, pstr, psl, vnil, pbuild, overlay, ↓thenQ, ↓blockQ, ↓retQ, ↓resWp, tupV, stills, MOp.still, known, Op.operands, List.toList_toArray, argEnv, ekeep, one_int, one_bool, one_str, one_ptr, one_slice, one_func, one_nilf, one_nilc, one_iface, one_map, Chk_true, Chk_of, Br_true, Br_false, Br_pos, Br_neg, Br_npos, Br_nneg, beq_t, beq_f, not_not', dec_true, dec_false, not_t, not_f, pick_t, pick_f, take1, drop1, take0, drop0, arr_app, List.append_nil, bne_tt, bne_tf, bne_ft, bne_ff, beq_tt, beq_tf, beq_ft, beq_ff, dec_pos, dec_neg, Ld_some, wrap_i64, tdiv_pos, tmod_pos, Sl.add_lit, drew_cell, Nat.reduceAdd, Nat.zero_add, Nat.add_zero, Nat.mul_one, Nat.one_mul, Int.toNat_natCast, cells_int, cells_bool, cells_str, cells_ptr, cells_slice, cells_func, cells_nilf, cells_nilc, cells_iface, cells_map, cells_agg, size_one, toList_one, List.length_cons, List.length_nil, List.cons_append, List.nil_append, reduceCtorEq, and_self, and_true, true_and, if_true, if_false, ↓reduceIte, ne_eq, not_false_eq_true, not_true_eq_false, Option.isSome_some, Option.isSome_none, decide_true, decide_false, List.getElem?_toArray, List.getElem?_cons_zero, List.getElem?_cons_succ, Bool.and_true, Bool.and_self, Int.reduceEq, Int.reduceLT, Int.reduceLE, Int.reduceAdd, Int.reduceSub, Int.reduceMul, Int.reduceToNat, Nat.reduceMul, Nat.reduceLeDiff, Nat.le_refl, Nat.reduceLT, Nat.reduceSub, shl1]
    refine brd (fun hgt => ?_) (fun hle => ?_)
    · simp -dsimp (disch := omega) only [↓MC.wp, ↓opsWp, ↓drWp, ↓MOp.wp, evs, ev, eget, eput, eput?, pev, pbin, pint, pbool, pstr, psl, vnil, pbuild, overlay, ↓thenQ, ↓blockQ, ↓retQ, ↓resWp, tupV, stills, MOp.still, known, Op.operands, List.toList_toArray, argEnv, ekeep, one_int, one_bool, one_str, one_ptr, one_slice, one_func, one_nilf, one_nilc, one_iface, one_map, Chk_true, Chk_of, Br_true, Br_false, Br_pos, Br_neg, Br_npos, Br_nneg, beq_t, beq_f, not_not', dec_true, dec_false, not_t, not_f, pick_t, pick_f, take1, drop1, take0, drop0, arr_app, List.append_nil, bne_tt, bne_tf, bne_ft, bne_ff, beq_tt, beq_tf, beq_ft, beq_ff, dec_pos, dec_neg, Ld_some, wrap_i64, tdiv_pos, tmod_pos, Sl.add_lit, drew_cell, Nat.reduceAdd, Nat.zero_add, Nat.add_zero, Nat.mul_one, Nat.one_mul, Int.toNat_natCast, cells_int, cells_bool, cells_str, cells_ptr, cells_slice, cells_func, cells_nilf, cells_nilc, cells_iface, cells_map, cells_agg, size_one, toList_one, List.length_cons, List.length_nil, List.cons_append, List.nil_append, reduceCtorEq, and_self, and_true, true_and, if_true, if_false, ↓reduceIte, ne_eq, not_false_eq_true, not_true_eq_false, Option.isSome_some, Option.isSome_none, decide_true, decide_false, List.getElem?_toArray, List.getElem?_cons_zero, List.getElem?_cons_succ, Bool.and_true, Bool.and_self, Int.reduceEq, Int.reduceLT, Int.reduceLE, Int.reduceAdd, Int.reduceSub, Int.reduceMul, Int.reduceToNat, Nat.reduceMul, Nat.reduceLeDiff, Nat.le_refl, Nat.reduceLT, Nat.reduceSub, xor285]
      refine ⟨k + 1, ?_, ⟨by omega, hc5, hf5⟩, by omega⟩
      have : (gfTab (k + 1)).2.2 = (2 * (gfTab k).2.2) ^^^ 285 := by
        show stepX (gfTab k).2.2 = _
        unfold stepX
        rw [if_pos (by omega)]
      rw [this]
      rfl
    · simp -dsimp (disch := omega) only [↓MC.wp, ↓opsWp, ↓drWp, ↓MOp.wp, evs, ev, eget, eput, eput?, pev, pbin, pint, pbool, pstr, psl, vnil, pbuild, overlay, ↓thenQ, ↓blockQ, ↓retQ, ↓resWp, tupV, stills, MOp.still, known, Op.operands, List.toList_toArray, argEnv, ekeep, one_int, one_bool, one_str, one_ptr, one_slice, one_func, one_nilf, one_nilc, one_iface, one_map, Chk_true, Chk_of, Br_true, Br_false, Br_pos, Br_neg, Br_npos, Br_nneg, beq_t, beq_f, not_not', dec_true, dec_false, not_t, not_f, pick_t, pick_f, take1, drop1, take0, drop0, arr_app, List.append_nil, bne_tt, bne_tf, bne_ft, bne_ff, beq_tt, beq_tf, beq_ft, beq_ff, dec_pos, dec_neg, Ld_some, wrap_i64, tdiv_pos, tmod_pos, Sl.add_lit, drew_cell, Nat.reduceAdd, Nat.zero_add, Nat.add_zero, Nat.mul_one, Nat.one_mul, Int.toNat_natCast, cells_int, cells_bool, cells_str, cells_ptr, cells_slice, cells_func, cells_nilf, cells_nilc, cells_iface, cells_map, cells_agg, size_one, toList_one, List.length_cons, List.length_nil, List.cons_append, List.nil_append, reduceCtorEq, and_self, and_true, true_and, if_true, if_false, ↓reduceIte, ne_eq, not_false_eq_true, not_true_eq_false, Option.isSome_some, Option.isSome_none, decide_true, decide_false, List.getElem?_toArray, List.getElem?_cons_zero, List.getElem?_cons_succ, Bool.and_true, Bool.and_self, Int.reduceEq, Int.reduceLT, Int.reduceLE, Int.reduceAdd, Int.reduceSub, Int.reduceMul, Int.reduceToNat, Nat.reduceMul, Nat.reduceLeDiff, Nat.le_refl, Nat.reduceLT, Nat.reduceSub]
      refine ⟨k + 1, ?_, ⟨by omega, hc5, hf5⟩, by omega⟩
      have : (gfTab (k + 1)).2.2 = 2 * (gfTab k).2.2 := by
        show stepX (gfTab k).2.2 = _
        unfold stepX
        rw [if_neg (by omega)]
      rw [this]
      rfl
  · simp -dsimp (disch := omega) only [↓MC.wp, ↓opsWp, ↓drWp, ↓MOp.wp, evs, ev, eget, eput, eput?, pev, pbin, pint, pbool, pstr, psl, vnil, pbuild, overlay, ↓thenQ, ↓blockQ, ↓retQ, ↓resWp, tupV, stills, MOp.still, known, Op.operands, List.toList_toArray, argEnv, ekeep, one_int, one_bool, one_str, one_ptr, one_slice, one_func, one_nilf, one_nilc, one_iface, one_map, Chk_true, Chk_of, Br_true, Br_false, Br_pos, Br_neg, Br_npos, Br_nneg, beq_t, beq_f, not_not', dec_true, dec_false, not_t, not_f, pick_t, pick_f, take1, drop1, take0, drop0, arr_app, List.append_nil, bne_tt, bne_tf, bne_ft, bne_ff, beq_tt, beq_tf, beq_ft, beq_ff, dec_pos, dec_neg, Ld_some, wrap_i64, tdiv_pos, tmod_pos, Sl.add_lit, drew_cell, Nat.reduceAdd, Nat.zero_add, Nat.add_zero, Nat.mul_one, Nat.one_mul, Int.toNat_natCast, cells_int, cells_bool, cells_str, cells_ptr, cells_slice, cells_func, cells_nilf, cells_nilc, cells_iface, cells_map, cells_agg, size_one, toList_one, List.length_cons, List.length_nil, List.cons_append, List.nil_append, reduceCtorEq, and_self, and_true, true_and, if_true, if_false, ↓reduceIte, ne_eq, not_false_eq_true, not_true_eq_false, Option.isSome_some, Option.isSome_none, decide_true, decide_false, List.getElem?_toArray, List.getElem?_cons_zero, List.getElem?_cons_succ, Bool.and_true, Bool.and_self, Int.reduceEq, Int.reduceLT, Int.reduceLE, Int.reduceAdd, Int.reduceSub, Int.reduceMul, Int.reduceToNat, Nat.reduceMul, Nat.reduceLeDiff, Nat.le_refl, Nat.reduceLT, Nat.reduceSub]
    have hkk : k = 255 := by omega
    subst hkk
    subst hb
    exact ⟨rfl, ⟨t_field_Field, hc⟩, hf⟩

theorem u8_zero (x : UInt8) : x.toNat = 0 ↔ x = 0 := ⟨fun h => UInt8.toNat_inj.1 h, fun h => by rw [h]; rfl⟩
theorem mul_calls {w : World} {b : Nat} (hb : FieldAt w b) (x y : UInt8) : Calls Try.prog f_field_Field_Mul #[.pointer (some ⟨b, 0, none⟩), U8 x, U8 y] w fun en w' => ∃ r, en = .returned r ∧
    (r = U8 (gmul x y) ∧ Fr No w w') := by
  refine calls_of_mf (args := [.pointer (some ⟨b, 0, none⟩), U8 x, U8 y]) c_field_Field_Mul (by simp only [m_field_Field_Mul, List.length]; decide) ?_
  have hx := x.toNat_lt
  have hy := y.toNat_lt
  by_cases h0 : x.toNat = 0
  · simp -dsimp (disch := omega) only [↓MC.wp, ↓opsWp, ↓drWp, ↓MOp.wp, evs, ev, eget, eput, eput?, pev, pbin, pint, pbool, pstr, psl, vnil, pbuild, overlay, ↓thenQ, ↓blockQ, ↓retQ, ↓resWp, tupV, stills, MOp.still, known, Op.operands, List.toList_toArray, argEnv, ekeep, one_int, one_bool, one_str, one_ptr, one_slice, one_func, one_nilf, one_nilc, one_iface, one_map, Chk_true, Chk_of, Br_true, Br_false, Br_pos, Br_neg, Br_npos, Br_nneg, beq_t, beq_f, not_not', dec_true, dec_false, not_t, not_f, pick_t, pick_f, take1, drop1, take0, drop0, arr_app, List.append_nil, bne_tt, bne_tf, bne_ft, bne_ff, beq_tt, beq_tf, beq_ft, beq_ff, dec_pos, dec_neg, Ld_some, wrap_i64, tdiv_pos, tmod_pos, Sl.add_lit, drew_cell, Nat.reduceAdd, Nat.zero_add, Nat.add_zero, Nat.mul_one, Nat.one_mul, Int.toNat_natCast, cells_int, cells_bool, cells_str, cells_ptr, cells_slice, cells_func, cells_nilf, cells_nilc, cells_iface, cells_map, cells_agg, size_one, toList_one, List.length_cons, List.length_nil, List.cons_append, List.nil_append, reduceCtorEq, and_self, and_true, true_and, if_true, if_false, ↓reduceIte, ne_eq, not_false_eq_true, not_true_eq_false, Option.isSome_some, Option.isSome_none, decide_true, decide_false, List.getElem?_toArray, List.getElem?_cons_zero, List.getElem?_cons_succ, Bool.and_true, Bool.and_self, Int.reduceEq, Int.reduceLT, Int.reduceLE, Int.reduceAdd, Int.reduceSub, Int.reduceMul, Int.reduceToNat, Nat.reduceMul, Nat.reduceLeDiff, Nat.le_refl, Nat.reduceLT, Nat.reduceSub, m_field_Field_Mul, U8, dec_pos, dec_neg]
    refine ⟨?_, Fr.refl _ _⟩
    simp [gmul, (u8_zero x).1 h0]
  · by_cases h1 : y.toNat = 0
    · simp -dsimp (disch := omega) only [↓MC.wp, ↓opsWp, ↓drWp, ↓MOp.wp, evs, ev, eget, eput, eput?, pev, pbin, pint, pbool, pstr, psl, vnil, pbuild, overlay, ↓thenQ, ↓blockQ, ↓retQ, ↓resWp, tupV, stills, MOp.still, known, Op.operands, List.toList_toArray, argEnv, ekeep, one_int, one_bool, one_str, one_ptr, one_slice, one_func, one_nilf, one_nilc, one_iface, one_map, Chk_true, Chk_of, Br_true, Br_false, Br_pos, Br_neg, Br_npos, Br_nneg, beq_t, beq_f, not_not', dec_true, dec_false, not_t, not_f, pick_t, pick_f, take1, drop1, take0, drop0, arr_app, List.append_nil, bne_tt, bne_tf, bne_ft, bne_ff, beq_tt, beq_tf, beq_ft, beq_ff, dec_pos, dec_neg, Ld_some, wrap_i64, tdiv_pos, tmod_pos, Sl.add_lit, drew_cell, Nat.reduceAdd, Nat.zero_add, Nat.add_zero, Nat.mul_one, Nat.one_mul, Int.toNat_natCast, cells_int, cells_bool, cells_str, cells_ptr, cells_slice, cells_func, cells_nilf, cells_nilc, cells_iface, cells_map, cells_agg, size_one, toList_one, List.length_cons, List.length_nil, List.cons_append, List.nil_append, reduceCtorEq, and_self, and_true, true_and, if_true, if_false, ↓reduceIte, ne_eq, not_false_eq_true, not_true_eq_false, Option.isSome_some, Option.isSome_none, decide_true, decide_false, List.getElem?_toArray, List.getElem?_cons_zero, List.getElem?_cons_succ, Bool.and_true, Bool.and_self, Int.reduceEq, Int.reduceLT, Int.reduceLE, Int.reduceAdd, Int.reduceSub, Int.reduceMul, Int.reduceToNat, Nat.reduceMul, Nat.reduceLeDiff, Nat.le_refl, Nat.reduceLT, Nat.reduceSub, m_field_Field_Mul, U8, dec_pos, dec_neg]
      refine ⟨?_, Fr.refl _ _⟩
      simp [gmul, (u8_zero y).1 h1]
    · have e1 := hb.log (a := x.toNat) (by omega)
      have e2 := hb.log (a := y.toNat) (by omega)
      have hm : (glog x.toNat + glog y.toNat) % 255 < 255 := Nat.mod_lt _ (by omega)
      have e3 := hb.exp hm
      have l1 := glog_lt x.toNat
      have l2 := glog_lt y.toNat
      have hh : ((glog x.toNat : Int) + (glog y.toNat : Int)) % 255 = (((glog x.toNat + glog y.toNat) % 255 : Nat) : Int) := by omega
      simp -dsimp (disch := omega) only [↓MC.wp, ↓opsWp, ↓drWp, ↓MOp.wp, evs, ev, eget, eput, eput?, pev, pbin, pint, pbool, pstr, psl, vnil, pbuild, overlay, ↓thenQ, ↓blockQ, ↓retQ, ↓resWp, tupV, stills, MOp.still, known, Op.operands, List.toList_toArray, argEnv, ekeep, one_int, one_bool, one_str, one_ptr, one_slice, one_func, one_nilf, one_nilc, one_iface, one_map, Chk_true, Chk_of, Br_true, Br_false, Br_pos, Br_neg, Br_npos, Br_nneg, beq_t, beq_f, not_not', dec_true, dec_false, not_t, not_f, pick_t, pick_f, take1, drop1, take0, drop0, arr_app, List.append_nil, bne_tt, bne_tf, bne_ft, bne_ff, beq_tt, beq_tf, beq_ft, beq_ff, dec_pos, dec_neg, Ld_some, wrap_i64, tdiv_pos, tmod_pos, Sl.add_lit, drew_cell, Nat.reduceAdd, Nat.zero_add, Nat.add_zero, Nat.mul_one, Nat.one_mul, Int.toNat_natCast, cells_int, cells_bool, cells_str, cells_ptr, cells_slice, cells_func, cells_nilf, cells_nilc, cells_iface, cells_map, cells_agg, size_one, toList_one, List.length_cons, List.length_nil, List.cons_append, List.nil_append, reduceCtorEq, and_self, and_true, true_and, if_true, if_false, ↓reduceIte, ne_eq, not_false_eq_true, not_true_eq_false, Option.isSome_some, Option.isSome_none, decide_true, decide_false, List.getElem?_toArray, List.getElem?_cons_zero, List.getElem?_cons_succ, Bool.and_true, Bool.and_self, Int.reduceEq, Int.reduceLT, Int.reduceLE, Int.reduceAdd, Int.reduceSub, Int.reduceMul, Int.reduceToNat, Nat.reduceMul, Nat.reduceLeDiff, Nat.le_refl, Nat.reduceLT, Nat.reduceSub, m_field_Field_Mul, U8, dec_pos, dec_neg, e1, e2, e3, VI, VB, hh]
      refine ⟨?_, (Fr.refl _ _).drew⟩
      have := VB_u8 (gexp ((glog x.toNat + glog y.toNat) % 255)) (gexp_lt _)
      rw [gmul, if_neg (by rw [← u8_zero x, ← u8_zero y]; omega)]
      exact this
theorem inv_calls {w : World} {b : Nat} (hb : FieldAt w b) (x : UInt8) : Calls Try.prog f_field_Field_Inv #[.pointer (some ⟨b, 0, none⟩), U8 x] w fun en w' => ∃ r, en = .returned r ∧
    (r = U8 (ginv x) ∧ Fr No w w') := by
  refine calls_of_mf (args := [.pointer (some ⟨b, 0, none⟩), U8 x]) c_field_Field_Inv (by simp only [m_field_Field_Inv, List.length]; decide) ?_
  have hx := x.toNat_lt
  by_cases h0 : x.toNat = 0
  · simp -dsimp (disch := omega) only [↓MC.wp, ↓opsWp, ↓drWp, ↓MOp.wp, evs, ev, eget, eput, eput?, pev, pbin, pint, pbool, pstr, psl, vnil, pbuild, overlay, ↓thenQ, ↓blockQ, ↓retQ, ↓resWp, tupV, stills, MOp.still, known, Op.operands, List.toList_toArray, argEnv, ekeep, one_int, one_bool, one_str, one_ptr, one_slice, one_func, one_nilf, one_nilc, one_iface, one_map, Chk_true, Chk_of, Br_true, Br_false, Br_pos, Br_neg, Br_npos, Br_nneg, beq_t, beq_f, not_not', dec_true, dec_false, not_t, not_f, pick_t, pick_f, take1, drop1, take0, drop0, arr_app, List.append_nil, bne_tt, bne_tf, bne_ft, bne_ff, beq_tt, beq_tf, beq_ft, beq_ff, dec_pos, dec_neg, Ld_some, wrap_i64, tdiv_pos, tmod_pos, Sl.add_lit, drew_cell, Nat.reduceAdd, Nat.zero_add, Nat.add_zero, Nat.mul_one, Nat.one_mul, Int.toNat_natCast, cells_int, cells_bool, cells_str, cells_ptr, cells_slice, cells_func, cells_nilf, cells_nilc, cells_iface, cells_map, cells_agg, size_one, toList_one, List.length_cons, List.length_nil, List.cons_append, List.nil_append, reduceCtorEq, and_self, and_true, true_and, if_true, if_false, ↓reduceIte, ne_eq, not_false_eq_true, not_true_eq_false, Option.isSome_some, Option.isSome_none, decide_true, decide_false, List.getElem?_toArray, List.getElem?_cons_zero, List.getElem?_cons_succ, Bool.and_true, Bool.and_self, Int.reduceEq, Int.reduceLT, Int.reduceLE, Int.reduceAdd, Int.reduceSub, Int.reduceMul, Int.reduceToNat, Nat.reduceMul, Nat.reduceLeDiff, Nat.le_refl, Nat.reduceLT, Nat.reduceSub, m_field_Field_Inv, U8]
    refine ⟨?_, Fr.refl _ _⟩
    simp [ginv, (u8_zero x).1 h0]
  · have e1 := hb.log (a := x.toNat) (by omega)
    have l1 := glog_lt x.toNat
    have hm : (255 - glog x.toNat) % 255 < 255 := Nat.mod_lt _ (by omega)
    have e3 := hb.exp hm
    have hh : ((255 : Int) - (glog x.toNat : Int)) % 255 = (((255 - glog x.toNat) % 255 : Nat) : Int) := by omega
    simp -dsimp (disch := omega) only [↓MC.wp, ↓opsWp, ↓drWp, ↓MOp.wp, evs, ev, eget, eput, eput?, pev, pbin, pint, pbool, pstr, psl, vnil, pbuild, overlay, ↓thenQ, ↓blockQ, ↓retQ, ↓resWp, tupV, stills, MOp.still, known, Op.operands, List.toList_toArray, argEnv, ekeep, one_int, one_bool, one_str, one_ptr, one_slice, one_func, one_nilf, one_nilc, one_iface, one_map, Chk_true, Chk_of, Br_true, Br_false, Br_pos, Br_neg, Br_npos, Br_nneg, beq_t, beq_f, not_not', dec_true, dec_false, not_t, not_f, pick_t, pick_f, take1, drop1, take0, drop0, arr_app, List.append_nil, bne_tt, bne_tf, bne_ft, bne_ff, beq_tt, beq_tf, beq_ft, beq_ff, dec_pos, dec_neg, Ld_some, wrap_i64, tdiv_pos, tmod_pos, Sl.add_lit, drew_cell, Nat.reduceAdd, Nat.zero_add, Nat.add_zero, Nat.mul_one, Nat.one_mul, Int.toNat_natCast, cells_int, cells_bool, cells_str, cells_ptr, cells_slice, cells_func, cells_nilf, cells_nilc, cells_iface, cells_map, cells_agg, size_one, toList_one, List.length_cons, List.length_nil, List.cons_append, List.nil_append, reduceCtorEq, and_self, and_true, true_and, if_true, if_false, ↓reduceIte, ne_eq, not_false_eq_true, not_true_eq_false, Option.isSome_some, Option.isSome_none, decide_true, decide_false, List.getElem?_toArray, List.getElem?_cons_zero, List.getElem?_cons_succ, Bool.and_true, Bool.and_self, Int.reduceEq, Int.reduceLT, Int.reduceLE, Int.reduceAdd, Int.reduceSub, Int.reduceMul, Int.reduceToNat, Nat.reduceMul, Nat.reduceLeDiff, Nat.le_refl, Nat.reduceLT, Nat.reduceSub, m_field_Field_Inv, U8, e1, e3, VI, VB, hh]
    refine ⟨?_, (Fr.refl _ _).drew⟩
    have := VB_u8 (gexp ((255 - glog x.toNat) % 255)) (gexp_lt _)
    rw [ginv, if_neg (by rw [← u8_zero x]; omega)]
    exact this
end Go.Proofs.Ytgpkbldlkadnjaa
end
section
/- Walks: rows of products, copies. -/
set_option linter.unusedVariables false
set_option linter.unusedSimpArgs false
namespace Go.Sl
/-- the row begins in new memory -/
def New' (B : Nat) (v : Value) : Prop := ∀ b, v.ownBlock = some b → B ≤ b
theorem New'.nil (B : Nat) : New' B (.slice none 0 0) := fun b h => by cases h
theorem New'.mono {B B' : Nat} {v : Value} (h : New' B v) (hb : B' ≤ B) : New' B' v := fun b hh => Nat.le_trans hb (h b hh)
theorem New'.app {B : Nat} {v v' : Value} {s s' : Nat} (h : New' B v) (hs : B ≤ s) (hat : v'.ownBlock = v.ownBlock ∨ ∃ b, v'.ownBlock = some b ∧ s ≤ b ∧ b < s') : New' B v' := by
  intro b hb
  rcases hat with hat | ⟨c, hc, h1, _⟩
  · exact h b (hat ▸ hb)
  · rw [hc] at hb; cases hb; omega
/-- what a new row's write leaves -/
theorem Fr.own {w w1 w2 : World} {v : Value} {M : Nat → Prop} (h : Fr M w w1) (hv : New' w.heap.size v) (k : Fr (fun b => v.ownBlock = some b) w1 w2) : Fr M w w2 :=
  h.step k fun b hb hM => absurd (hv b hM) (by omega)
end Go.Sl
namespace Go.Proofs.Ytgpkbldlkadnjaa
open Go Go.Sl Go.RowKit

/-- a new row of bytes -/
def NewRow (B : Nat) (w : World) (r : Value) (xs : List UInt8) : Prop := Ow w 5 1 r xs.length (xs.map U8) ∧ New' B r

theorem row_calls {w : World} {b : Nat} (hb : FieldAt w b) (c : UInt8) {B : Nat} {v : Value} {xs : List UInt8} (hx : BS w B v xs) (hB : B ≤ w.heap.size) (hl : xs.length ≤ 70368744177664) :
    Calls Try.prog f_field_Field_Row #[.pointer (some ⟨b, 0, none⟩), U8 c, v] w fun en w' => ∃ r, en = .returned r ∧ (NewRow w.heap.size w' r (xs.map (gmul c)) ∧ Fr No w w') := by
  obtain ⟨A, cp, rfl, hc, hr⟩ := hx.open
  refine calls_of_mf (args := [.pointer (some ⟨b, 0, none⟩), U8 c, .slice A xs.length cp]) c_field_Field_Row (by simp only [m_field_Field_Row, List.length]; decide) ?_
  simp -dsimp (disch := omega) only [↓MC.wp, ↓opsWp, ↓drWp, ↓MOp.wp, evs, ev, eget, eput, eput?, pev, pbin, pint, pbool, pstr, psl, vnil, pbuild, overlay, ↓thenQ, ↓blockQ, ↓retQ, ↓resWp, tupV, stills, MOp.still, known, Op.operands, List.toList_toArray, argEnv, ekeep, one_int, one_bool, one_str, one_ptr, one_slice, one_func, one_nilf, one_nilc, one_iface, one_map, Chk_true, Chk_of, Br_true, Br_false, Br_pos, Br_neg, Br_npos, Br_nneg, beq_t, beq_f, not_not', dec_true, dec_false, not_t, not_f, pick_t, pick_f, take1, drop1, take0, drop0, arr_app, List.append_nil, bne_tt, bne_tf, bne_ft, bne_ff, beq_tt, beq_tf, beq_ft, beq_ff, dec_pos, dec_neg, Ld_some, wrap_i64, tdiv_pos, tmod_pos, Sl.add_lit, drew_cell, Nat.reduceAdd, Nat.zero_add, Nat.add_zero, Nat.mul_one, Nat.one_mul, Int.toNat_natCast, cells_int, cells_bool, cells_str, cells_ptr, cells_slice, cells_func, cells_nilf, cells_nilc, cells_iface, cells_map, cells_agg, size_one, toList_one, List.length_cons, List.length_nil, List.cons_append, List.nil_append, reduceCtorEq, and_self, and_true, true_and, if_true, if_false, ↓reduceIte, ne_eq, not_false_eq_true, not_true_eq_false, Option.isSome_some, Option.isSome_none, decide_true, decide_false, List.getElem?_toArray, List.getElem?_cons_zero, List.getElem?_cons_succ, Bool.and_true, Bool.and_self, Int.reduceEq, Int.reduceLT, Int.reduceLE, Int.reduceAdd, Int.reduceSub, Int.reduceMul, Int.reduceToNat, Nat.reduceMul, Nat.reduceLeDiff, Nat.le_refl, Nat.reduceLT, Nat.reduceSub, m_field_Field_Row, U8]
  refine loopS [1, 7, 8, 13, 14, 15] (fun s : Nat × Value => [(1, U8 c), (7, .func (.func f_field_Field_Mul) #[.pointer (some ⟨b, 0, none⟩)] #[]), (8, s.2), (13, .slice A xs.length cp), (14, .int .i64 xs.length), (15, .int .i64 s.1)])
    (fun s w1 => s.1 ≤ xs.length ∧ Ow w1 5 1 s.2 s.1 (((xs.take s.1).map (gmul c)).map U8) ∧ New' w.heap.size s.2 ∧ Fr No w w1) (fun s _ => xs.length - s.1) (0, .slice none 0 0) rfl
    ⟨Nat.zero_le _, Ow.nil w 5 1, New'.nil _, Fr.refl _ _⟩ ?_
  rintro ⟨k, o⟩ w1 ⟨hk, ho, hn, hf⟩
  dsimp only at hk ho hn ⊢
  by_cases hlt : k < xs.length
  · obtain ⟨ad, rfl, had, hcell⟩ := hr k hlt
    have hc1 : w1.cell? (ad.add k) = some (U8 xs[k]) := by rw [hf.cell (cell_block_lt hcell) (fun h => h)]; exact hcell
    simp -dsimp (disch := omega) only [↓MC.wp, ↓opsWp, ↓drWp, ↓MOp.wp, evs, ev, eget, eput, eput?, pev, pbin, pint, pbool, pstr, psl, vnil, pbuild, overlay, ↓thenQ, ↓blockQ, ↓retQ, ↓resWp, tupV, stills, MOp.still, known, Op.operands, List.toList_toArray, argEnv, ekeep, one_int, one_bool, one_str, one_ptr, one_slice, one_func, one_nilf, one_nilc, one_iface, one_map, Chk_true, Chk_of, Br_true, Br_false, Br_pos, Br_neg, Br_npos, Br_nneg, beq_t, beq_f, not_not', dec_true, dec_false, not_t, not_f, pick_t, pick_f, take1, drop1, take0, drop0, arr_app, List.append_nil, bne_tt, bne_tf, bne_ft, bne_ff, beq_tt, beq_tf, beq_ft, beq_ff, dec_pos, dec_neg, Ld_some, wrap_i64, tdiv_pos, tmod_pos, Sl.add_lit, drew_cell, Nat.reduceAdd, Nat.zero_add, Nat.add_zero, Nat.mul_one, Nat.one_mul, Int.toNat_natCast, cells_int, cells_bool, cells_str, cells_ptr, cells_slice, cells_func, cells_nilf, cells_nilc, cells_iface, cells_map, cells_agg, size_one, toList_one, List.length_cons, List.length_nil, List.cons_append, List.nil_append, reduceCtorEq, and_self, and_true, true_and, if_true, if_false, ↓reduceIte, ne_eq, not_false_eq_true, not_true_eq_false, Option.isSome_some, Option.isSome_none, decide_true, decide_false, List.getElem?_toArray, List.getElem?_cons_zero, List.getElem?_cons_succ, Bool.and_true, Bool.and_self, Int.reduceEq, Int.reduceLT, Int.reduceLE, Int.reduceAdd, Int.reduceSub, Int.reduceMul, Int.reduceToNat, Nat.reduceMul, Nat.reduceLeDiff, Nat.le_refl, Nat.reduceLT, Nat.reduceSub, hc1, hb60]
    have hb1 : FieldAt w1 b := hb.fr hf fun h => h
    refine call (mul_calls hb1 c xs[k]) fun r w2 ⟨hr, hf2⟩ => ?_
    subst hr
    simp -dsimp (disch := omega) only [↓MC.wp, ↓opsWp, ↓drWp, ↓MOp.wp, evs, ev, eget, eput, eput?, pev, pbin, pint, pbool, pstr, psl, vnil, pbuild, overlay, ↓thenQ, ↓blockQ, ↓retQ, ↓resWp, tupV, stills, MOp.still, known, Op.operands, List.toList_toArray, argEnv, ekeep, one_int, one_bool, one_str, one_ptr, one_slice, one_func, one_nilf, one_nilc, one_iface, one_map, Chk_true, Chk_of, Br_true, Br_false, Br_pos, Br_neg, Br_npos, Br_nneg, beq_t, beq_f, not_not', dec_true, dec_false, not_t, not_f, pick_t, pick_f, take1, drop1, take0, drop0, arr_app, List.append_nil, bne_tt, bne_tf, bne_ft, bne_ff, beq_tt, beq_tf, beq_ft, beq_ff, dec_pos, dec_neg, Ld_some, wrap_i64, tdiv_pos, tmod_pos, Sl.add_lit, drew_cell, Nat.reduceAdd, Nat.zero_add, Nat.add_zero, Nat.mul_one, Nat.one_mul, Int.toNat_natCast, cells_int, cells_bool, cells_str, cells_ptr, cells_slice, cells_func, cells_nilf, cells_nilc, cells_iface, cells_map, cells_agg, size_one, toList_one, List.length_cons, List.length_nil, List.cons_append, List.nil_append, reduceCtorEq, and_self, and_true, true_and, if_true, if_false, ↓reduceIte, ne_eq, not_false_eq_true, not_true_eq_false, Option.isSome_some, Option.isSome_none, decide_true, decide_false, List.getElem?_toArray, List.getElem?_cons_zero, List.getElem?_cons_succ, Bool.and_true, Bool.and_self, Int.reduceEq, Int.reduceLT, Int.reduceLE, Int.reduceAdd, Int.reduceSub, Int.reduceMul, Int.reduceToNat, Nat.reduceMul, Nat.reduceLeDiff, Nat.le_refl, Nat.reduceLT, Nat.reduceSub, U8]
    refine new fun b2 w3 hb2 hs3 hc3 hf3 => ?_
    simp -dsimp (disch := omega) only [↓MC.wp, ↓opsWp, ↓drWp, ↓MOp.wp, evs, ev, eget, eput, eput?, pev, pbin, pint, pbool, pstr, psl, vnil, pbuild, overlay, ↓thenQ, ↓blockQ, ↓retQ, ↓resWp, tupV, stills, MOp.still, known, Op.operands, List.toList_toArray, argEnv, ekeep, one_int, one_bool, one_str, one_ptr, one_slice, one_func, one_nilf, one_nilc, one_iface, one_map, Chk_true, Chk_of, Br_true, Br_false, Br_pos, Br_neg, Br_npos, Br_nneg, beq_t, beq_f, not_not', dec_true, dec_false, not_t, not_f, pick_t, pick_f, take1, drop1, take0, drop0, arr_app, List.append_nil, bne_tt, bne_tf, bne_ft, bne_ff, beq_tt, beq_tf, beq_ft, beq_ff, dec_pos, dec_neg, Ld_some, wrap_i64, tdiv_pos, tmod_pos, Sl.add_lit, drew_cell, Nat.reduceAdd, Nat.zero_add, Nat.add_zero, Nat.mul_one, Nat.one_mul, Int.toNat_natCast, cells_int, cells_bool, cells_str, cells_ptr, cells_slice, cells_func, cells_nilf, cells_nilc, cells_iface, cells_map, cells_agg, size_one, toList_one, List.length_cons, List.length_nil, List.cons_append, List.nil_append, reduceCtorEq, and_self, and_true, true_and, if_true, if_false, ↓reduceIte, ne_eq, not_false_eq_true, not_true_eq_false, Option.isSome_some, Option.isSome_none, decide_true, decide_false, List.getElem?_toArray, List.getElem?_cons_zero, List.getElem?_cons_succ, Bool.and_true, Bool.and_self, Int.reduceEq, Int.reduceLT, Int.reduceLE, Int.reduceAdd, Int.reduceSub, Int.reduceMul, Int.reduceToNat, Nat.reduceMul, Nat.reduceLeDiff, Nat.le_refl, Nat.reduceLT, Nat.reduceSub]
    have ho3 := (ho.no hf2).no hf3
    refine app elB ho3 (m := 1) (src_lit hc3 1) ?_ ?_ ?_ ?_ fun v4 w4 ho4 hf4 hat => ?_
    · rfl
    · intro u hu; simp at hu; subst hu; rfl
    · omega
    · omega
    · simp -dsimp (disch := omega) only [↓MC.wp, ↓opsWp, ↓drWp, ↓MOp.wp, evs, ev, eget, eput, eput?, pev, pbin, pint, pbool, pstr, psl, vnil, pbuild, overlay, ↓thenQ, ↓blockQ, ↓retQ, ↓resWp, tupV, stills, MOp.still, known, Op.operands, List.toList_toArray, argEnv, ekeep, one_int, one_bool, one_str, one_ptr, one_slice, one_func, one_nilf, one_nilc, one_iface, one_map, Chk_true, Chk_of, Br_true, Br_false, Br_pos, Br_neg, Br_npos, Br_nneg, beq_t, beq_f, not_not', dec_true, dec_false, not_t, not_f, pick_t, pick_f, take1, drop1, take0, drop0, arr_app, List.append_nil, bne_tt, bne_tf, bne_ft, bne_ff, beq_tt, beq_tf, beq_ft, beq_ff, dec_pos, dec_neg, Ld_some, wrap_i64, tdiv_pos, tmod_pos, Sl.add_lit, drew_cell, Nat.reduceAdd, Nat.zero_add, Nat.add_zero, Nat.mul_one, Nat.one_mul, Int.toNat_natCast, cells_int, cells_bool, cells_str, cells_ptr, cells_slice, cells_func, cells_nilf, cells_nilc, cells_iface, cells_map, cells_agg, size_one, toList_one, List.length_cons, List.length_nil, List.cons_append, List.nil_append, reduceCtorEq, and_self, and_true, true_and, if_true, if_false, ↓reduceIte, ne_eq, not_false_eq_true, not_true_eq_false, Option.isSome_some, Option.isSome_none, decide_true, decide_false, List.getElem?_toArray, List.getElem?_cons_zero, List.getElem?_cons_succ, Bool.and_true, Bool.and_self, Int.reduceEq, Int.reduceLT, Int.reduceLE, Int.reduceAdd, Int.reduceSub, Int.reduceMul, Int.reduceToNat, Nat.reduceMul, Nat.reduceLeDiff, Nat.le_refl, Nat.reduceLT, Nat.reduceSub]
      have hf5 : Fr No w w3 := (hf.then hf2).then hf3
      refine ⟨(k + 1, v4), rfl, ⟨by dsimp only; omega, ?_, hn.app hf5.size hat, hf5.own hn hf4⟩, by dsimp only; omega⟩
      have : ((xs.take (k + 1)).map (gmul c)).map U8 = ((xs.take k).map (gmul c)).map U8 ++ [U8 (gmul c xs[k])] := by
        rw [List.take_succ_eq_append_getElem hlt, List.map_append, List.map_append]
        rfl
      dsimp only
      rw [this]
      exact ho4
  · simp -dsimp (disch := omega) only [↓MC.wp, ↓opsWp, ↓drWp, ↓MOp.wp, evs, ev, eget, eput, eput?, pev, pbin, pint, pbool, pstr, psl, vnil, pbuild, overlay, ↓thenQ, ↓blockQ, ↓retQ, ↓resWp, tupV, stills, MOp.still, known, Op.operands, List.toList_toArray, argEnv, ekeep, one_int, one_bool, one_str, one_ptr, one_slice, one_func, one_nilf, one_nilc, one_iface, one_map, Chk_true, Chk_of, Br_true, Br_false, Br_pos, Br_neg, Br_npos, Br_nneg, beq_t, beq_f, not_not', dec_true, dec_false, not_t, not_f, pick_t, pick_f, take1, drop1, take0, drop0, arr_app, List.append_nil, bne_tt, bne_tf, bne_ft, bne_ff, beq_tt, beq_tf, beq_ft, beq_ff, dec_pos, dec_neg, Ld_some, wrap_i64, tdiv_pos, tmod_pos, Sl.add_lit, drew_cell, Nat.reduceAdd, Nat.zero_add, Nat.add_zero, Nat.mul_one, Nat.one_mul, Int.toNat_natCast, cells_int, cells_bool, cells_str, cells_ptr, cells_slice, cells_func, cells_nilf, cells_nilc, cells_iface, cells_map, cells_agg, size_one, toList_one, List.length_cons, List.length_nil, List.cons_append, List.nil_append, reduceCtorEq, and_self, and_true, true_and, if_true, if_false, ↓reduceIte, ne_eq, not_false_eq_true, not_true_eq_false, Option.isSome_some, Option.isSome_none, decide_true, decide_false, List.getElem?_toArray, List.getElem?_cons_zero, List.getElem?_cons_succ, Bool.and_true, Bool.and_self, Int.reduceEq, Int.reduceLT, Int.reduceLE, Int.reduceAdd, Int.reduceSub, Int.reduceMul, Int.reduceToNat, Nat.reduceMul, Nat.reduceLeDiff, Nat.le_refl, Nat.reduceLT, Nat.reduceSub]
    have hkk : k = xs.length := by omega
    subst hkk
    rw [List.take_length] at ho
    exact ⟨⟨by simpa using ho, hn⟩, hf⟩

theorem clone_calls {w : World} {B : Nat} {v : Value} {xs : List UInt8} (hx : BS w B v xs) (hB : B ≤ w.heap.size) (hl : xs.length ≤ 70368744177664) :
    Calls Try.prog f_slices_Clone #[v] w fun en w' => ∃ r, en = .returned r ∧ (NewRow w.heap.size w' r xs ∧ Fr No w w') := by
  obtain ⟨A, cp, rfl, hc, hr⟩ := hx.open
  refine calls_of_mf (args := [.slice A xs.length cp]) c_slices_Clone (by simp only [m_slices_Clone, List.length]; decide) ?_
  cases A with
  | none =>
    simp -dsimp (disch := omega) only [↓MC.wp, ↓opsWp, ↓drWp, ↓MOp.wp, evs, ev, eget, eput, eput?, pev, pbin, pint, pbool, pstr, psl, vnil, pbuild, overlay, ↓thenQ, ↓blockQ, ↓retQ, ↓resWp, tupV, stills, MOp.still, known, Op.operands, List.toList_toArray, argEnv, ekeep, one_int, one_bool, one_str, one_ptr, one_slice, one_func, one_nilf, one_nilc, one_iface, one_map, Chk_true, Chk_of, Br_true, Br_false, Br_pos, Br_neg, Br_npos, Br_nneg, beq_t, beq_f, not_not', dec_true, dec_false, not_t, not_f, pick_t, pick_f, take1, drop1, take0, drop0, arr_app, List.append_nil, bne_tt, bne_tf, bne_ft, bne_ff, beq_tt, beq_tf, beq_ft, beq_ff, dec_pos, dec_neg, Ld_some, wrap_i64, tdiv_pos, tmod_pos, Sl.add_lit, drew_cell, Nat.reduceAdd, Nat.zero_add, Nat.add_zero, Nat.mul_one, Nat.one_mul, Int.toNat_natCast, cells_int, cells_bool, cells_str, cells_ptr, cells_slice, cells_func, cells_nilf, cells_nilc, cells_iface, cells_map, cells_agg, size_one, toList_one, List.length_cons, List.length_nil, List.cons_append, List.nil_append, reduceCtorEq, and_self, and_true, true_and, if_true, if_false, ↓reduceIte, ne_eq, not_false_eq_true, not_true_eq_false, Option.isSome_some, Option.isSome_none, decide_true, decide_false, List.getElem?_toArray, List.getElem?_cons_zero, List.getElem?_cons_succ, Bool.and_true, Bool.and_self, Int.reduceEq, Int.reduceLT, Int.reduceLE, Int.reduceAdd, Int.reduceSub, Int.reduceMul, Int.reduceToNat, Nat.reduceMul, Nat.reduceLeDiff, Nat.le_refl, Nat.reduceLT, Nat.reduceSub, m_slices_Clone]
    have h0 : xs = [] := by
      cases xs with
      | nil => rfl
      | cons x xs => obtain ⟨_, e, _⟩ := hr 0 (by simp); cases e
    subst h0
    exact ⟨⟨Ow.nil w 5 1, New'.nil _⟩, Fr.refl _ _⟩
  | some ad =>
    simp -dsimp (disch := omega) only [↓MC.wp, ↓opsWp, ↓drWp, ↓MOp.wp, evs, ev, eget, eput, eput?, pev, pbin, pint, pbool, pstr, psl, vnil, pbuild, overlay, ↓thenQ, ↓blockQ, ↓retQ, ↓resWp, tupV, stills, MOp.still, known, Op.operands, List.toList_toArray, argEnv, ekeep, one_int, one_bool, one_str, one_ptr, one_slice, one_func, one_nilf, one_nilc, one_iface, one_map, Chk_true, Chk_of, Br_true, Br_false, Br_pos, Br_neg, Br_npos, Br_nneg, beq_t, beq_f, not_not', dec_true, dec_false, not_t, not_f, pick_t, pick_f, take1, drop1, take0, drop0, arr_app, List.append_nil, bne_tt, bne_tf, bne_ft, bne_ff, beq_tt, beq_tf, beq_ft, beq_ff, dec_pos, dec_neg, Ld_some, wrap_i64, tdiv_pos, tmod_pos, Sl.add_lit, drew_cell, Nat.reduceAdd, Nat.zero_add, Nat.add_zero, Nat.mul_one, Nat.one_mul, Int.toNat_natCast, cells_int, cells_bool, cells_str, cells_ptr, cells_slice, cells_func, cells_nilf, cells_nilc, cells_iface, cells_map, cells_agg, size_one, toList_one, List.length_cons, List.length_nil, List.cons_append, List.nil_append, reduceCtorEq, and_self, and_true, true_and, if_true, if_false, ↓reduceIte, ne_eq, not_false_eq_true, not_true_eq_false, Option.isSome_some, Option.isSome_none, decide_true, decide_false, List.getElem?_toArray, List.getElem?_cons_zero, List.getElem?_cons_succ, Bool.and_true, Bool.and_self, Int.reduceEq, Int.reduceLT, Int.reduceLE, Int.reduceAdd, Int.reduceSub, Int.reduceMul, Int.reduceToNat, Nat.reduceMul, Nat.reduceLeDiff, Nat.le_refl, Nat.reduceLT, Nat.reduceSub, m_slices_Clone]
    refine new fun b2 w2 hb2 hs2 hc2 hf2 => ?_
    simp -dsimp (disch := omega) only [↓MC.wp, ↓opsWp, ↓drWp, ↓MOp.wp, evs, ev, eget, eput, eput?, pev, pbin, pint, pbool, pstr, psl, vnil, pbuild, overlay, ↓thenQ, ↓blockQ, ↓retQ, ↓resWp, tupV, stills, MOp.still, known, Op.operands, List.toList_toArray, argEnv, ekeep, one_int, one_bool, one_str, one_ptr, one_slice, one_func, one_nilf, one_nilc, one_iface, one_map, Chk_true, Chk_of, Br_true, Br_false, Br_pos, Br_neg, Br_npos, Br_nneg, beq_t, beq_f, not_not', dec_true, dec_false, not_t, not_f, pick_t, pick_f, take1, drop1, take0, drop0, arr_app, List.append_nil, bne_tt, bne_tf, bne_ft, bne_ff, beq_tt, beq_tf, beq_ft, beq_ff, dec_pos, dec_neg, Ld_some, wrap_i64, tdiv_pos, tmod_pos, Sl.add_lit, drew_cell, Nat.reduceAdd, Nat.zero_add, Nat.add_zero, Nat.mul_one, Nat.one_mul, Int.toNat_natCast, cells_int, cells_bool, cells_str, cells_ptr, cells_slice, cells_func, cells_nilf, cells_nilc, cells_iface, cells_map, cells_agg, size_one, toList_one, List.length_cons, List.length_nil, List.cons_append, List.nil_append, reduceCtorEq, and_self, and_true, true_and, if_true, if_false, ↓reduceIte, ne_eq, not_false_eq_true, not_true_eq_false, Option.isSome_some, Option.isSome_none, decide_true, decide_false, List.getElem?_toArray, List.getElem?_cons_zero, List.getElem?_cons_succ, Bool.and_true, Bool.and_self, Int.reduceEq, Int.reduceLT, Int.reduceLE, Int.reduceAdd, Int.reduceSub, Int.reduceMul, Int.reduceToNat, Nat.reduceMul, Nat.reduceLeDiff, Nat.le_refl, Nat.reduceLT, Nat.reduceSub]
    refine app elB (Ow.lit (n := 0) hc2 rfl (by omega)) ((hx.fr hf2 fun _ _ h => h).src) ?_ ?_ ?_ ?_ fun v4 w4 ho4 hf4 hat => ?_
    · simp
    · intro u hu; obtain ⟨x, _, rfl⟩ := List.mem_map.1 hu; rfl
    · omega
    · omega
    · simp -dsimp (disch := omega) only [↓MC.wp, ↓opsWp, ↓drWp, ↓MOp.wp, evs, ev, eget, eput, eput?, pev, pbin, pint, pbool, pstr, psl, vnil, pbuild, overlay, ↓thenQ, ↓blockQ, ↓retQ, ↓resWp, tupV, stills, MOp.still, known, Op.operands, List.toList_toArray, argEnv, ekeep, one_int, one_bool, one_str, one_ptr, one_slice, one_func, one_nilf, one_nilc, one_iface, one_map, Chk_true, Chk_of, Br_true, Br_false, Br_pos, Br_neg, Br_npos, Br_nneg, beq_t, beq_f, not_not', dec_true, dec_false, not_t, not_f, pick_t, pick_f, take1, drop1, take0, drop0, arr_app, List.append_nil, bne_tt, bne_tf, bne_ft, bne_ff, beq_tt, beq_tf, beq_ft, beq_ff, dec_pos, dec_neg, Ld_some, wrap_i64, tdiv_pos, tmod_pos, Sl.add_lit, drew_cell, Nat.reduceAdd, Nat.zero_add, Nat.add_zero, Nat.mul_one, Nat.one_mul, Int.toNat_natCast, cells_int, cells_bool, cells_str, cells_ptr, cells_slice, cells_func, cells_nilf, cells_nilc, cells_iface, cells_map, cells_agg, size_one, toList_one, List.length_cons, List.length_nil, List.cons_append, List.nil_append, reduceCtorEq, and_self, and_true, true_and, if_true, if_false, ↓reduceIte, ne_eq, not_false_eq_true, not_true_eq_false, Option.isSome_some, Option.isSome_none, decide_true, decide_false, List.getElem?_toArray, List.getElem?_cons_zero, List.getElem?_cons_succ, Bool.and_true, Bool.and_self, Int.reduceEq, Int.reduceLT, Int.reduceLE, Int.reduceAdd, Int.reduceSub, Int.reduceMul, Int.reduceToNat, Nat.reduceMul, Nat.reduceLeDiff, Nat.le_refl, Nat.reduceLT, Nat.reduceSub]
      have hn : New' w.heap.size (.slice (some ⟨b2, 0, none⟩) 0 0) := fun c hc => by cases hc; show w.heap.size ≤ b2; omega
      refine ⟨⟨?_, hn.app hf2.size hat⟩, hf2.own hn hf4⟩
      simpa using ho4
end Go.Proofs.Ytgpkbldlkadnjaa
end
section
/- Words on matrices that are owned: a row of rows. -/
set_option linter.unusedVariables false
set_option linter.unusedSimpArgs false
namespace Go.Proofs.Ytgpkbldlkadnjaa
open Go Go.Sl Go.RowKit

/-- a matrix in memory of one's own: its spine r, the values of its rows -/
structure OM (w : World) (r : Value) (vs : List Value) (m : List (List UInt8)) : Prop where
  len : vs.length = m.length
  spine : Ow w 29 1 r m.length vs
  row : ∀ (j : Nat) (u : Value) (x : List UInt8), vs[j]? = some u → m[j]? = some x → Ow w 5 1 u x.length (x.map U8)
/-- the blocks that it takes -/
def Has (r : Value) (vs : List Value) (b : Nat) : Prop := r.ownBlock = some b ∨ ∃ (j : Nat) (u : Value), vs[j]? = some u ∧ u.ownBlock = some b
/-- no two of them the same -/
structure Dis (r : Value) (vs : List Value) : Prop where
  spine : ∀ (j : Nat) (u : Value) (b : Nat), vs[j]? = some u → u.ownBlock = some b → r.ownBlock ≠ some b
  rows : ∀ (i j : Nat) (u v : Value) (b : Nat), i ≠ j → vs[i]? = some u → vs[j]? = some v → u.ownBlock = some b → v.ownBlock ≠ some b

theorem OM.nil (w : World) : OM w (.slice none 0 0) [] [] := ⟨rfl, Ow.nil w 29 1, fun j u x h => by simp at h⟩
theorem Dis.nil (r : Value) : Dis r [] := ⟨fun j u b h => by simp at h, fun i j u v b _ h => by simp at h⟩
theorem Has.nil (b : Nat) : ¬ Has (.slice none 0 0) [] b := by
  rintro (h | ⟨j, u, h, _⟩)
  · cases h
  · simp at h
theorem OM.fr {w w' : World} {M : Nat → Prop} {r : Value} {vs : List Value} {m : List (List UInt8)} (h : OM w r vs m) (hf : Fr M w w') (hM : ∀ b, Has r vs b → ¬ M b) : OM w' r vs m :=
  ⟨h.len, h.spine.fr hf fun b hb => hM b (.inl hb), fun j u x hu hx => (h.row j u x hu hx).fr hf fun b hb => hM b (.inr ⟨j, u, hu, hb⟩)⟩
theorem OM.no {w w' : World} {r : Value} {vs : List Value} {m : List (List UInt8)} (h : OM w r vs m) (hf : Fr No w w') : OM w' r vs m := h.fr hf fun _ _ h => h
theorem OM.lt {w : World} {r : Value} {vs : List Value} {m : List (List UInt8)} (h : OM w r vs m) {b : Nat} (hb : Has r vs b) : b < w.heap.size := by
  rcases hb with hb | ⟨j, u, hu, hb⟩
  · exact h.spine.lt hb
  · have : j < m.length := by have := (List.getElem?_eq_some_iff.1 hu).1; rw [h.len] at this; exact this
    exact (h.row j u m[j] hu (List.getElem?_eq_getElem this)).lt hb
/-- as a matrix that is read -/
theorem OM.ms {w : World} {r : Value} {vs : List Value} {m : List (List UInt8)} (h : OM w r vs m) {B : Nat} (hB : ∀ b, Has r vs b → b < B) : MS w B r m := by
  refine ⟨vs, ?_, h.len, fun j u x hu hx => (h.row j u x hu hx).bs fun b hb => hB b (.inr ⟨j, u, hu, hb⟩)⟩
  have := h.spine
  rw [← h.len] at this
  exact this.rs fun b hb => hB b (.inl hb)
/-- a row more -/
theorem OM.push {w w1 w2 : World} {r r' u : Value} {vs : List Value} {m : List (List UInt8)} {x : List UInt8} (h : OM w r vs m) (hf : Fr (fun b => r.ownBlock = some b) w w1) (hsp : Ow w1 29 1 r' (m.length + 1) (vs ++ [u]))
    (hu : Ow w 5 1 u x.length (x.map U8)) (hd : Dis r vs) (hu1 : ∀ b, u.ownBlock = some b → r.ownBlock ≠ some b) : OM w1 r' (vs ++ [u]) (m ++ [x]) := by
  refine ⟨by simp [h.len], by simpa using hsp, fun j v y hv hy => ?_⟩
  by_cases hj : j < m.length
  · rw [List.getElem?_append_left (by rw [h.len]; exact hj)] at hv
    rw [List.getElem?_append_left hj] at hy
    exact (h.row j v y hv hy).fr hf fun b hb hM => hd.spine j v b hv hb hM
  · rw [List.getElem?_append_right (by rw [h.len]; omega)] at hv
    rw [List.getElem?_append_right (by omega)] at hy
    rw [h.len] at hv
    cases hk : j - m.length with
    | zero =>
      rw [hk] at hv hy
      simp only [List.getElem?_cons_zero, Option.some.injEq] at hv hy
      subst hv
      subst hy
      exact hu.fr hf fun b hb hM => hu1 b hb hM
    | succ k => rw [hk] at hv; simp at hv
theorem Dis.push {r r' u : Value} {vs : List Value} (hd : Dis r vs) (hr : ∀ b, r'.ownBlock = some b → (¬ ∃ (j : Nat) (v : Value), vs[j]? = some v ∧ v.ownBlock = some b) ∧ u.ownBlock ≠ some b)
    (hu : ∀ b, u.ownBlock = some b → ¬ ∃ (j : Nat) (v : Value), vs[j]? = some v ∧ v.ownBlock = some b) : Dis r' (vs ++ [u]) := by
  have key : ∀ j v, (vs ++ [u])[j]? = some v → vs[j]? = some v ∨ (j = vs.length ∧ v = u) := by
    intro j v hv
    by_cases hj : j < vs.length
    · rw [List.getElem?_append_left hj] at hv; exact .inl hv
    · rw [List.getElem?_append_right (by omega)] at hv
      cases hk : j - vs.length with
      | zero => rw [hk] at hv; simp at hv; exact .inr ⟨by omega, hv.symm⟩
      | succ k => rw [hk] at hv; simp at hv
  refine ⟨fun j v b hv hb hrb => ?_, fun i j v v' b hij hv hv' hb hb' => ?_⟩
  · rcases key j v hv with h | ⟨_, rfl⟩
    · exact (hr b hrb).1 ⟨j, v, h, hb⟩
    · exact (hr b hrb).2 hb
  · rcases key i v hv with h | ⟨e, rfl⟩ <;> rcases key j v' hv' with h' | ⟨e', rfl⟩
    · exact hd.rows i j v v' b hij h h' hb hb'
    · exact hu b hb' ⟨i, v, h, hb⟩
    · exact hu b hb ⟨j, v', h', hb'⟩
    · omega
/-- new memory alone -/
def NewM (B : Nat) (r : Value) (vs : List Value) : Prop := ∀ b, Has r vs b → B ≤ b
/-- a new matrix -/
def NewMat (B : Nat) (w : World) (r : Value) (m : List (List UInt8)) : Prop := ∃ vs, OM w r vs m ∧ Dis r vs ∧ NewM B r vs
theorem NewMat.nil (B : Nat) (w : World) : NewMat B w (.slice none 0 0) [] := ⟨[], OM.nil w, Dis.nil _, fun b h => absurd h (Has.nil b)⟩
theorem NewMat.no {B : Nat} {w w' : World} {r : Value} {m : List (List UInt8)} (h : NewMat B w r m) (hf : Fr No w w') : NewMat B w' r m := by
  obtain ⟨vs, h1, h2, h3⟩ := h
  exact ⟨vs, h1.no hf, h2, h3⟩
theorem NewMat.ms {B : Nat} {w : World} {r : Value} {m : List (List UInt8)} (h : NewMat B w r m) : MS w w.heap.size r m := by
  obtain ⟨vs, h1, h2, h3⟩ := h
  exact h1.ms fun b hb => h1.lt hb

/-- a new row is appended to a new matrix (the step of the loops that build one) -/
theorem push_row {w0 w1 w : World} {r u : Value} {m : List (List UInt8)} {x : List UInt8} (hm1 : NewMat w0.heap.size w1 r m) (hf01 : Fr No w0 w1) (hf1 : Fr No w1 w) (hu1 : NewRow w1.heap.size w u x)
    (hl : m.length ≤ 1000000) {b2 c : Nat} {w2 : World} (hb2 : b2 = w.heap.size) (hs2 : w2.heap.size = b2 + 1)
    (hc2 : w2.heap[b2]? = some (.cells #[u] 29 (0, 0))) (hf2 : Fr No w w2) {K : Value → World → Prop} {tg : TagF K}
    (k : ∀ r' w', NewMat w0.heap.size w' r' (m ++ [x]) → Fr No w0 w' → K r' w') :
    Run Try.prog (Builtin.append_ #[22, 22] 22 #[r, .slice (some ⟨b2, 0, none⟩) 1 c]) w2 K tg := by
  obtain ⟨vs, h10, h2, h3⟩ := hm1
  obtain ⟨hu, hn⟩ := hu1
  have hlt : ∀ b, Has r vs b → b < w1.heap.size := fun b hb => h10.lt hb
  have h1 := h10.no hf1
  have hf0 := hf01.then hf1
  have hsz := hf1.size
  have hsz0 := hf01.size
  have hm2 := h1.no hf2
  have hu2 := hu.no hf2
  refine app elM hm2.spine (m := 1) (src_lit hc2 c) rfl ?_ (by omega) (by omega) fun v4 w4 ho4 hf4 hat => ?_
  · intro v hv
    simp at hv
    subst hv
    rcases hu.form with ⟨rfl, _⟩ | ⟨g, cap, cur, rfl, _⟩ <;> rfl
  · have hne : ∀ b, u.ownBlock = some b → r.ownBlock ≠ some b := fun b hb hr => by
      have := hn b hb
      have := hlt b (.inl hr)
      omega
    have hu0 : ∀ b, u.ownBlock = some b → b < w.heap.size := fun b hb => hu.lt hb
    refine k v4 w4 ⟨vs ++ [u], hm2.push (w2 := w4) hf4 ?_ hu2 h2 hne, ?_, ?_⟩ ?_
    · simpa using ho4
    · refine h2.push (fun b hb => ?_) (fun b hb => ?_)
      · rcases hat with hat | ⟨b', hb', hge, _⟩
        · rw [hat] at hb
          exact ⟨fun ⟨j, v, hv, hvb⟩ => h2.spine j v b hv hvb hb, fun hub => hne b hub hb⟩
        · rw [hb'] at hb
          cases hb
          refine ⟨fun ⟨j, v, hv, hvb⟩ => ?_, fun hub => ?_⟩
          · have := h1.lt (.inr ⟨j, v, hv, hvb⟩); omega
          · have := hu0 b hub; omega
      · rintro ⟨j, v, hv, hvb⟩
        have := hn b hb
        have := hlt b (.inr ⟨j, v, hv, hvb⟩)
        omega
    · rintro b (hb | ⟨j, v, hv, hvb⟩)
      · rcases hat with hat | ⟨b', hb', hge, _⟩
        · rw [hat] at hb; exact h3 b (.inl hb)
        · rw [hb'] at hb
          cases hb
          have := hf0.size
          omega
      · by_cases hj : j < vs.length
        · rw [List.getElem?_append_left hj] at hv
          exact h3 b (.inr ⟨j, v, hv, hvb⟩)
        · rw [List.getElem?_append_right (by omega)] at hv
          cases hk : j - vs.length with
          | zero => rw [hk] at hv; simp at hv; subst hv; have := hn b hvb; omega
          | succ k => rw [hk] at hv; simp at hv
    · exact (hf0.then hf2).step hf4 fun b hb hr => absurd (h3 b (.inl hr)) (by omega)
end Go.Proofs.Ytgpkbldlkadnjaa
end
section
/- Walks: copied, Rows, Mul, Coding. -/
set_option linter.unusedVariables false
set_option linter.unusedSimpArgs false
namespace Go.Proofs.Ytgpkbldlkadnjaa
open Go Go.Sl Go.RowKit

theorem take_succ' {α : Type} {l : List α} {k : Nat} (h : k < l.length) : l.take (k + 1) = l.take k ++ [l[k]] := List.take_succ_eq_append_getElem h
theorem NewRow.no {B : Nat} {w w' : World} {r : Value} {xs : List UInt8} (h : NewRow B w r xs) (hf : Fr No w w') : NewRow B w' r xs := ⟨h.1.no hf, h.2⟩
theorem NewRow.bs {B : Nat} {w : World} {r : Value} {xs : List UInt8} (h : NewRow B w r xs) : BS w w.heap.size r xs := h.1.bs fun b hb => h.1.lt hb

theorem Ow.cells1 {w : World} {e : TypeId} {s n : Nat} {v : Value} {cs : List Value} (h : Ow w e s v n cs) : v.cells = #[v] := by
  rcases h.form with ⟨rfl, _⟩ | ⟨_, _, _, rfl, _⟩ <;> rfl
theorem copied_calls {w : World} {B : Nat} {v : Value} {m : List (List UInt8)} (hm : MS w B v m) (hB : B ≤ w.heap.size) (hn : m.length ≤ 1000000) (hl : ∀ x ∈ m, x.length ≤ 1000000) :
    Calls Try.prog f_matrix_copied #[v] w fun en w' => ∃ r, en = .returned r ∧ (NewMat w.heap.size w' r m ∧ Fr No w w') := by
  obtain ⟨A, cp, rfl, hc, hr⟩ := hm.open
  refine calls_of_mf (args := [.slice A m.length cp]) c_matrix_copied (by simp only [m_matrix_copied, List.length]; decide) ?_
  simp -dsimp (disch := omega) only [↓MC.wp, ↓opsWp, ↓drWp, ↓MOp.wp, evs, ev, eget, eput, eput?, pev, pbin, pint, pbool, pstr, psl, vnil, pbuild, overlay, ↓thenQ, ↓blockQ, ↓retQ, ↓resWp, tupV, stills, MOp.still, known, Op.operands, List.toList_toArray, argEnv, ekeep, one_int, one_bool, one_str, one_ptr, one_slice, one_func, one_nilf, one_nilc, one_iface, one_map, Chk_true, Chk_of, Br_true, Br_false, Br_pos, Br_neg, Br_npos, Br_nneg, beq_t, beq_f, not_not', dec_true, dec_false, not_t, not_f, pick_t, pick_f, take1, drop1, take0, drop0, arr_app, List.append_nil, bne_tt, bne_tf, bne_ft, bne_ff, beq_tt, beq_tf, beq_ft, beq_ff, dec_pos, dec_neg, Ld_some, wrap_i64, tdiv_pos, tmod_pos, Sl.add_lit, drew_cell, Nat.reduceAdd, Nat.zero_add, Nat.add_zero, Nat.mul_one, Nat.one_mul, Int.toNat_natCast, cells_int, cells_bool, cells_str, cells_ptr, cells_slice, cells_func, cells_nilf, cells_nilc, cells_iface, cells_map, cells_agg, size_one, toList_one, List.length_cons, List.length_nil, List.cons_append, List.nil_append, reduceCtorEq, and_self, and_true, true_and, if_true, if_false, ↓reduceIte, ne_eq, not_false_eq_true, not_true_eq_false, Option.isSome_some, Option.isSome_none, decide_true, decide_false, List.getElem?_toArray, List.getElem?_cons_zero, List.getElem?_cons_succ, Bool.and_true, Bool.and_self, Int.reduceEq, Int.reduceLT, Int.reduceLE, Int.reduceAdd, Int.reduceSub, Int.reduceMul, Int.reduceToNat, Nat.reduceMul, Nat.reduceLeDiff, Nat.le_refl, Nat.reduceLT, Nat.reduceSub, m_matrix_copied]
  refine loopS [3, 6, 7, 8] (fun s : Nat × Value => [(3, s.2), (6, .slice A m.length cp), (7, .int .i64 m.length), (8, .int .i64 s.1)])
    (fun s w1 => s.1 ≤ m.length ∧ NewMat w.heap.size w1 s.2 (m.take s.1) ∧ Fr No w w1) (fun s _ => m.length - s.1) (0, .slice none 0 0) rfl ⟨Nat.zero_le _, NewMat.nil _ _, Fr.refl _ _⟩ ?_
  rintro ⟨k, o⟩ w1 ⟨hk, ho, hf⟩
  dsimp only at hk ho ⊢
  by_cases hlt : k < m.length
  · obtain ⟨ad, u, rfl, had, hcell, hrow⟩ := hr k hlt
    have hc1 : w1.cell? (ad.add k) = some u := by rw [hf.cell (cell_block_lt hcell) (fun h => h)]; exact hcell
    simp -dsimp (disch := omega) only [↓MC.wp, ↓opsWp, ↓drWp, ↓MOp.wp, evs, ev, eget, eput, eput?, pev, pbin, pint, pbool, pstr, psl, vnil, pbuild, overlay, ↓thenQ, ↓blockQ, ↓retQ, ↓resWp, tupV, stills, MOp.still, known, Op.operands, List.toList_toArray, argEnv, ekeep, one_int, one_bool, one_str, one_ptr, one_slice, one_func, one_nilf, one_nilc, one_iface, one_map, Chk_true, Chk_of, Br_true, Br_false, Br_pos, Br_neg, Br_npos, Br_nneg, beq_t, beq_f, not_not', dec_true, dec_false, not_t, not_f, pick_t, pick_f, take1, drop1, take0, drop0, arr_app, List.append_nil, bne_tt, bne_tf, bne_ft, bne_ff, beq_tt, beq_tf, beq_ft, beq_ff, dec_pos, dec_neg, Ld_some, wrap_i64, tdiv_pos, tmod_pos, Sl.add_lit, drew_cell, Nat.reduceAdd, Nat.zero_add, Nat.add_zero, Nat.mul_one, Nat.one_mul, Int.toNat_natCast, cells_int, cells_bool, cells_str, cells_ptr, cells_slice, cells_func, cells_nilf, cells_nilc, cells_iface, cells_map, cells_agg, size_one, toList_one, List.length_cons, List.length_nil, List.cons_append, List.nil_append, reduceCtorEq, and_self, and_true, true_and, if_true, if_false, ↓reduceIte, ne_eq, not_false_eq_true, not_true_eq_false, Option.isSome_some, Option.isSome_none, decide_true, decide_false, List.getElem?_toArray, List.getElem?_cons_zero, List.getElem?_cons_succ, Bool.and_true, Bool.and_self, Int.reduceEq, Int.reduceLT, Int.reduceLE, Int.reduceAdd, Int.reduceSub, Int.reduceMul, Int.reduceToNat, Nat.reduceMul, Nat.reduceLeDiff, Nat.le_refl, Nat.reduceLT, Nat.reduceSub, hc1]
    have hrow1 : BS w1 B u m[k] := hrow.fr hf fun _ _ h => h
    refine call (clone_calls hrow1 (by have := hf.size; omega) (by have := hl _ (List.getElem_mem hlt); omega)) fun r w2 ⟨hr2, hf2⟩ => ?_
    simp -dsimp (disch := omega) only [↓MC.wp, ↓opsWp, ↓drWp, ↓MOp.wp, evs, ev, eget, eput, eput?, pev, pbin, pint, pbool, pstr, psl, vnil, pbuild, overlay, ↓thenQ, ↓blockQ, ↓retQ, ↓resWp, tupV, stills, MOp.still, known, Op.operands, List.toList_toArray, argEnv, ekeep, one_int, one_bool, one_str, one_ptr, one_slice, one_func, one_nilf, one_nilc, one_iface, one_map, Chk_true, Chk_of, Br_true, Br_false, Br_pos, Br_neg, Br_npos, Br_nneg, beq_t, beq_f, not_not', dec_true, dec_false, not_t, not_f, pick_t, pick_f, take1, drop1, take0, drop0, arr_app, List.append_nil, bne_tt, bne_tf, bne_ft, bne_ff, beq_tt, beq_tf, beq_ft, beq_ff, dec_pos, dec_neg, Ld_some, wrap_i64, tdiv_pos, tmod_pos, Sl.add_lit, drew_cell, Nat.reduceAdd, Nat.zero_add, Nat.add_zero, Nat.mul_one, Nat.one_mul, Int.toNat_natCast, cells_int, cells_bool, cells_str, cells_ptr, cells_slice, cells_func, cells_nilf, cells_nilc, cells_iface, cells_map, cells_agg, size_one, toList_one, List.length_cons, List.length_nil, List.cons_append, List.nil_append, reduceCtorEq, and_self, and_true, true_and, if_true, if_false, ↓reduceIte, ne_eq, not_false_eq_true, not_true_eq_false, Option.isSome_some, Option.isSome_none, decide_true, decide_false, List.getElem?_toArray, List.getElem?_cons_zero, List.getElem?_cons_succ, Bool.and_true, Bool.and_self, Int.reduceEq, Int.reduceLT, Int.reduceLE, Int.reduceAdd, Int.reduceSub, Int.reduceMul, Int.reduceToNat, Nat.reduceMul, Nat.reduceLeDiff, Nat.le_refl, Nat.reduceLT, Nat.reduceSub, Ow.cells1 hr2.1, set_one]
    refine new fun b2 w3 hb2 hs3 hc3 hf3 => ?_
    simp -dsimp (disch := omega) only [↓MC.wp, ↓opsWp, ↓drWp, ↓MOp.wp, evs, ev, eget, eput, eput?, pev, pbin, pint, pbool, pstr, psl, vnil, pbuild, overlay, ↓thenQ, ↓blockQ, ↓retQ, ↓resWp, tupV, stills, MOp.still, known, Op.operands, List.toList_toArray, argEnv, ekeep, one_int, one_bool, one_str, one_ptr, one_slice, one_func, one_nilf, one_nilc, one_iface, one_map, Chk_true, Chk_of, Br_true, Br_false, Br_pos, Br_neg, Br_npos, Br_nneg, beq_t, beq_f, not_not', dec_true, dec_false, not_t, not_f, pick_t, pick_f, take1, drop1, take0, drop0, arr_app, List.append_nil, bne_tt, bne_tf, bne_ft, bne_ff, beq_tt, beq_tf, beq_ft, beq_ff, dec_pos, dec_neg, Ld_some, wrap_i64, tdiv_pos, tmod_pos, Sl.add_lit, drew_cell, Nat.reduceAdd, Nat.zero_add, Nat.add_zero, Nat.mul_one, Nat.one_mul, Int.toNat_natCast, cells_int, cells_bool, cells_str, cells_ptr, cells_slice, cells_func, cells_nilf, cells_nilc, cells_iface, cells_map, cells_agg, size_one, toList_one, List.length_cons, List.length_nil, List.cons_append, List.nil_append, reduceCtorEq, and_self, and_true, true_and, if_true, if_false, ↓reduceIte, ne_eq, not_false_eq_true, not_true_eq_false, Option.isSome_some, Option.isSome_none, decide_true, decide_false, List.getElem?_toArray, List.getElem?_cons_zero, List.getElem?_cons_succ, Bool.and_true, Bool.and_self, Int.reduceEq, Int.reduceLT, Int.reduceLE, Int.reduceAdd, Int.reduceSub, Int.reduceMul, Int.reduceToNat, Nat.reduceMul, Nat.reduceLeDiff, Nat.le_refl, Nat.reduceLT, Nat.reduceSub]
    refine push_row ho hf hf2 hr2 (by simp; omega) hb2 hs3 hc3 hf3 fun r' w' hr' hf' => ?_
    simp -dsimp (disch := omega) only [↓MC.wp, ↓opsWp, ↓drWp, ↓MOp.wp, evs, ev, eget, eput, eput?, pev, pbin, pint, pbool, pstr, psl, vnil, pbuild, overlay, ↓thenQ, ↓blockQ, ↓retQ, ↓resWp, tupV, stills, MOp.still, known, Op.operands, List.toList_toArray, argEnv, ekeep, one_int, one_bool, one_str, one_ptr, one_slice, one_func, one_nilf, one_nilc, one_iface, one_map, Chk_true, Chk_of, Br_true, Br_false, Br_pos, Br_neg, Br_npos, Br_nneg, beq_t, beq_f, not_not', dec_true, dec_false, not_t, not_f, pick_t, pick_f, take1, drop1, take0, drop0, arr_app, List.append_nil, bne_tt, bne_tf, bne_ft, bne_ff, beq_tt, beq_tf, beq_ft, beq_ff, dec_pos, dec_neg, Ld_some, wrap_i64, tdiv_pos, tmod_pos, Sl.add_lit, drew_cell, Nat.reduceAdd, Nat.zero_add, Nat.add_zero, Nat.mul_one, Nat.one_mul, Int.toNat_natCast, cells_int, cells_bool, cells_str, cells_ptr, cells_slice, cells_func, cells_nilf, cells_nilc, cells_iface, cells_map, cells_agg, size_one, toList_one, List.length_cons, List.length_nil, List.cons_append, List.nil_append, reduceCtorEq, and_self, and_true, true_and, if_true, if_false, ↓reduceIte, ne_eq, not_false_eq_true, not_true_eq_false, Option.isSome_some, Option.isSome_none, decide_true, decide_false, List.getElem?_toArray, List.getElem?_cons_zero, List.getElem?_cons_succ, Bool.and_true, Bool.and_self, Int.reduceEq, Int.reduceLT, Int.reduceLE, Int.reduceAdd, Int.reduceSub, Int.reduceMul, Int.reduceToNat, Nat.reduceMul, Nat.reduceLeDiff, Nat.le_refl, Nat.reduceLT, Nat.reduceSub]
    exact ⟨(k + 1, r'), rfl, ⟨by dsimp only; omega, by dsimp only; rw [take_succ' hlt]; exact hr', hf'⟩, by dsimp only; omega⟩
  · simp -dsimp (disch := omega) only [↓MC.wp, ↓opsWp, ↓drWp, ↓MOp.wp, evs, ev, eget, eput, eput?, pev, pbin, pint, pbool, pstr, psl, vnil, pbuild, overlay, ↓thenQ, ↓blockQ, ↓retQ, ↓resWp, tupV, stills, MOp.still, known, Op.operands, List.toList_toArray, argEnv, ekeep, one_int, one_bool, one_str, one_ptr, one_slice, one_func, one_nilf, one_nilc, one_iface, one_map, Chk_true, Chk_of, Br_true, Br_false, Br_pos, Br_neg, Br_npos, Br_nneg, beq_t, beq_f, not_not', dec_true, dec_false, not_t, not_f, pick_t, pick_f, take1, drop1, take0, drop0, arr_app, List.append_nil, bne_tt, bne_tf, bne_ft, bne_ff, beq_tt, beq_tf, beq_ft, beq_ff, dec_pos, dec_neg, Ld_some, wrap_i64, tdiv_pos, tmod_pos, Sl.add_lit, drew_cell, Nat.reduceAdd, Nat.zero_add, Nat.add_zero, Nat.mul_one, Nat.one_mul, Int.toNat_natCast, cells_int, cells_bool, cells_str, cells_ptr, cells_slice, cells_func, cells_nilf, cells_nilc, cells_iface, cells_map, cells_agg, size_one, toList_one, List.length_cons, List.length_nil, List.cons_append, List.nil_append, reduceCtorEq, and_self, and_true, true_and, if_true, if_false, ↓reduceIte, ne_eq, not_false_eq_true, not_true_eq_false, Option.isSome_some, Option.isSome_none, decide_true, decide_false, List.getElem?_toArray, List.getElem?_cons_zero, List.getElem?_cons_succ, Bool.and_true, Bool.and_self, Int.reduceEq, Int.reduceLT, Int.reduceLE, Int.reduceAdd, Int.reduceSub, Int.reduceMul, Int.reduceToNat, Nat.reduceMul, Nat.reduceLeDiff, Nat.le_refl, Nat.reduceLT, Nat.reduceSub]
    have hkk : k = m.length := by omega
    subst hkk
    rw [List.take_length] at ho
    exact ⟨ho, hf⟩
end Go.Proofs.Ytgpkbldlkadnjaa
end
section
/- Walks: Rows. -/
set_option linter.unusedVariables false
set_option linter.unusedSimpArgs false
set_option maxHeartbeats 3000000
attribute [local irreducible] Go.Sl.Chk Go.Sl.Br Go.Sl.Ld Go.Sl.Ldn Go.Sl.LdB Go.Sl.Stn Go.Sl.New Go.Sl.Run Go.Sl.RunU Go.Sl.RunX Go.Sl.Call Go.Sl.LoopK Go.Sl.RawK Go.Sl.Om Go.Sl.xpk Go.Sl.xgpk Go.Sl.xglk Go.Sl.DLd Go.Sl.DLdG Go.Sl.DBs Go.Sl.DCall Go.Sl.DApp Go.Sl.DGen Go.Sl.DGenU Go.Sl.DGC Go.Sl.DLoop Go.Sl.DRaw Go.Sl.DRet Go.Sl.Ent Go.Sl.dget Go.Sl.dv Go.Sl.ev Go.Sl.eget
namespace Go.Proofs.Ytgpkbldlkadnjaa
open Go Go.Sl Go.RowKit

def inR (m : List (List UInt8)) (i : Int) : Bool := decide (0 ≤ i) && decide (i < m.length)
def rowAt (m : List (List UInt8)) (i : Int) : List UInt8 := m.getD i.toNat []
def pick (m : List (List UInt8)) (at' : List Int) : List (List UInt8) := if at'.all (inR m) then at'.map (rowAt m) else []
def VL (n : Int) : Value := .int .i64 n

theorem rows_calls {w : World} {B B' : Nat} {v v' : Value} {m : List (List UInt8)} {is : List Int} (hm : MS w B v m) (hi : RS w B' v' (is.map VL)) (hB : B ≤ w.heap.size) (hB' : B' ≤ w.heap.size) (hn : m.length ≤ 1000000) (hl : ∀ x ∈ m, x.length ≤ 1000000)
    (hni : is.length ≤ 1000000) :
    Calls Try.prog f_matrix_Rows #[v, v'] w fun en w' => ∃ r, en = .returned r ∧ (NewMat w.heap.size w' r (pick m is) ∧ Fr No w w') := by
  obtain ⟨A, cp, rfl, hc, hr⟩ := hm.open
  obtain ⟨A', cp', rfl, hc', hr'⟩ := hi
  simp only [List.length_map] at hc' ⊢
  refine calls_of_mf (args := [.slice A m.length cp, .slice A' is.length cp']) c_matrix_Rows (by simp only [m_matrix_Rows, List.length]; decide) ?_
  simp -dsimp (disch := omega) only [↓MC.wp, ↓opsWp, ↓drWp, ↓MOp.wp, evs, ev, eget, eput, eput?, pev, pbin, pint, pbool, pstr, psl, vnil, pbuild, overlay, ↓thenQ, ↓blockQ, ↓retQ, ↓resWp, tupV, stills, MOp.still, known, Op.operands, List.toList_toArray, argEnv, ekeep, one_int, one_bool, one_str, one_ptr, one_slice, one_func, one_nilf, one_nilc, one_iface, one_map, Chk_true, Chk_of, Br_true, Br_false, Br_pos, Br_neg, Br_npos, Br_nneg, beq_t, beq_f, not_not', dec_true, dec_false, not_t, not_f, pick_t, pick_f, take1, drop1, take0, drop0, arr_app, List.append_nil, bne_tt, bne_tf, bne_ft, bne_ff, beq_tt, beq_tf, beq_ft, beq_ff, dec_pos, dec_neg, Ld_some, wrap_i64, tdiv_pos, tmod_pos, Sl.add_lit, drew_cell, Nat.reduceAdd, Nat.zero_add, Nat.add_zero, Nat.mul_one, Nat.one_mul, Int.toNat_natCast, cells_int, cells_bool, cells_str, cells_ptr, cells_slice, cells_func, cells_nilf, cells_nilc, cells_iface, cells_map, cells_agg, size_one, toList_one, List.length_cons, List.length_nil, List.cons_append, List.nil_append, reduceCtorEq, and_self, and_true, true_and, if_true, if_false, ↓reduceIte, ne_eq, not_false_eq_true, not_true_eq_false, Option.isSome_some, Option.isSome_none, decide_true, decide_false, List.getElem?_toArray, List.getElem?_cons_zero, List.getElem?_cons_succ, Bool.and_true, Bool.and_self, Int.reduceEq, Int.reduceLT, Int.reduceLE, Int.reduceAdd, Int.reduceSub, Int.reduceMul, Int.reduceToNat, Nat.reduceMul, Nat.reduceLeDiff, Nat.le_refl, Nat.reduceLT, Nat.reduceSub, m_matrix_Rows]
  refine loopS [0, 5, 8, 9, 10] (fun s : Nat × Value => [(0, .slice A m.length cp), (5, s.2), (8, .slice A' is.length cp'), (9, .int .i64 is.length), (10, .int .i64 s.1)])
    (fun s w1 => s.1 ≤ is.length ∧ (is.take s.1).all (inR m) = true ∧ NewMat w.heap.size w1 s.2 ((is.take s.1).map (rowAt m)) ∧ Fr No w w1) (fun s _ => is.length - s.1) (0, .slice none 0 0) (by with_unfolding_all rfl) ⟨Nat.zero_le _, rfl, NewMat.nil _ _, Fr.refl _ _⟩ ?_
  rintro ⟨k, o⟩ w1 ⟨hk, hin, ho, hf⟩
  dsimp only at hk hin ho ⊢
  by_cases hlt : k < is.length
  · obtain ⟨ad, rfl, had, hcell⟩ := hr' k (VL is[k]) (by rw [List.getElem?_map, List.getElem?_eq_getElem hlt]; rfl)
    have hc1 : w1.cell? (ad.add k) = some (VL is[k]) := by rw [hf.cell (cell_block_lt hcell) (fun h => h)]; exact hcell
    by_cases hneg : is[k] < 0
    · simp -dsimp (disch := omega) only [↓MC.wp, ↓opsWp, ↓drWp, ↓MOp.wp, evs, ev, eget, eput, eput?, pev, pbin, pint, pbool, pstr, psl, vnil, pbuild, overlay, ↓thenQ, ↓blockQ, ↓retQ, ↓resWp, tupV, stills, MOp.still, known, Op.operands, List.toList_toArray, argEnv, ekeep, one_int, one_bool, one_str, one_ptr, one_slice, one_func, one_nilf, one_nilc, one_iface, one_map, Chk_true, Chk_of, Br_true, Br_false, Br_pos, Br_neg, Br_npos, Br_nneg, beq_t, beq_f, not_not', dec_true, dec_false, not_t, not_f, pick_t, pick_f, take1, drop1, take0, drop0, arr_app, List.append_nil, bne_tt, bne_tf, bne_ft, bne_ff, beq_tt, beq_tf, beq_ft, beq_ff, dec_pos, dec_neg, Ld_some, wrap_i64, tdiv_pos, tmod_pos, Sl.add_lit, drew_cell, Nat.reduceAdd, Nat.zero_add, Nat.add_zero, Nat.mul_one, Nat.one_mul, Int.toNat_natCast, cells_int, cells_bool, cells_str, cells_ptr, cells_slice, cells_func, cells_nilf, cells_nilc, cells_iface, cells_map, cells_agg, size_one, toList_one, List.length_cons, List.length_nil, List.cons_append, List.nil_append, reduceCtorEq, and_self, and_true, true_and, if_true, if_false, ↓reduceIte, ne_eq, not_false_eq_true, not_true_eq_false, Option.isSome_some, Option.isSome_none, decide_true, decide_false, List.getElem?_toArray, List.getElem?_cons_zero, List.getElem?_cons_succ, Bool.and_true, Bool.and_self, Int.reduceEq, Int.reduceLT, Int.reduceLE, Int.reduceAdd, Int.reduceSub, Int.reduceMul, Int.reduceToNat, Nat.reduceMul, Nat.reduceLeDiff, Nat.le_refl, Nat.reduceLT, Nat.reduceSub, hc1, VL]
      have : is.all (inR m) = false := by
        rw [List.all_eq_false]
        exact ⟨is[k], List.getElem_mem hlt, by simp [inR]; omega⟩
      rw [pick, this]
      exact ⟨NewMat.nil _ _, hf⟩
    · by_cases hge : (m.length : Int) ≤ is[k]
      · simp -dsimp (disch := omega) only [↓MC.wp, ↓opsWp, ↓drWp, ↓MOp.wp, evs, ev, eget, eput, eput?, pev, pbin, pint, pbool, pstr, psl, vnil, pbuild, overlay, ↓thenQ, ↓blockQ, ↓retQ, ↓resWp, tupV, stills, MOp.still, known, Op.operands, List.toList_toArray, argEnv, ekeep, one_int, one_bool, one_str, one_ptr, one_slice, one_func, one_nilf, one_nilc, one_iface, one_map, Chk_true, Chk_of, Br_true, Br_false, Br_pos, Br_neg, Br_npos, Br_nneg, beq_t, beq_f, not_not', dec_true, dec_false, not_t, not_f, pick_t, pick_f, take1, drop1, take0, drop0, arr_app, List.append_nil, bne_tt, bne_tf, bne_ft, bne_ff, beq_tt, beq_tf, beq_ft, beq_ff, dec_pos, dec_neg, Ld_some, wrap_i64, tdiv_pos, tmod_pos, Sl.add_lit, drew_cell, Nat.reduceAdd, Nat.zero_add, Nat.add_zero, Nat.mul_one, Nat.one_mul, Int.toNat_natCast, cells_int, cells_bool, cells_str, cells_ptr, cells_slice, cells_func, cells_nilf, cells_nilc, cells_iface, cells_map, cells_agg, size_one, toList_one, List.length_cons, List.length_nil, List.cons_append, List.nil_append, reduceCtorEq, and_self, and_true, true_and, if_true, if_false, ↓reduceIte, ne_eq, not_false_eq_true, not_true_eq_false, Option.isSome_some, Option.isSome_none, decide_true, decide_false, List.getElem?_toArray, List.getElem?_cons_zero, List.getElem?_cons_succ, Bool.and_true, Bool.and_self, Int.reduceEq, Int.reduceLT, Int.reduceLE, Int.reduceAdd, Int.reduceSub, Int.reduceMul, Int.reduceToNat, Nat.reduceMul, Nat.reduceLeDiff, Nat.le_refl, Nat.reduceLT, Nat.reduceSub, hc1, VL]
        have : is.all (inR m) = false := by
          rw [List.all_eq_false]
          exact ⟨is[k], List.getElem_mem hlt, by simp [inR]; omega⟩
        rw [pick, this]
        exact ⟨NewMat.nil _ _, hf⟩
      · obtain ⟨q, hq⟩ : ∃ q : Nat, is[k] = q := ⟨is[k].toNat, by omega⟩
        have hql : q < m.length := by omega
        obtain ⟨ad2, u, rfl, had2, hcell2, hrow⟩ := hr q hql
        have hc2 : w1.cell? (ad2.add q) = some u := by rw [hf.cell (cell_block_lt hcell2) (fun h => h)]; exact hcell2
        rw [hq] at hc1
        simp -dsimp (disch := omega) only [↓MC.wp, ↓opsWp, ↓drWp, ↓MOp.wp, evs, ev, eget, eput, eput?, pev, pbin, pint, pbool, pstr, psl, vnil, pbuild, overlay, ↓thenQ, ↓blockQ, ↓retQ, ↓resWp, tupV, stills, MOp.still, known, Op.operands, List.toList_toArray, argEnv, ekeep, one_int, one_bool, one_str, one_ptr, one_slice, one_func, one_nilf, one_nilc, one_iface, one_map, Chk_true, Chk_of, Br_true, Br_false, Br_pos, Br_neg, Br_npos, Br_nneg, beq_t, beq_f, not_not', dec_true, dec_false, not_t, not_f, pick_t, pick_f, take1, drop1, take0, drop0, arr_app, List.append_nil, bne_tt, bne_tf, bne_ft, bne_ff, beq_tt, beq_tf, beq_ft, beq_ff, dec_pos, dec_neg, Ld_some, wrap_i64, tdiv_pos, tmod_pos, Sl.add_lit, drew_cell, Nat.reduceAdd, Nat.zero_add, Nat.add_zero, Nat.mul_one, Nat.one_mul, Int.toNat_natCast, cells_int, cells_bool, cells_str, cells_ptr, cells_slice, cells_func, cells_nilf, cells_nilc, cells_iface, cells_map, cells_agg, size_one, toList_one, List.length_cons, List.length_nil, List.cons_append, List.nil_append, reduceCtorEq, and_self, and_true, true_and, if_true, if_false, ↓reduceIte, ne_eq, not_false_eq_true, not_true_eq_false, Option.isSome_some, Option.isSome_none, decide_true, decide_false, List.getElem?_toArray, List.getElem?_cons_zero, List.getElem?_cons_succ, Bool.and_true, Bool.and_self, Int.reduceEq, Int.reduceLT, Int.reduceLE, Int.reduceAdd, Int.reduceSub, Int.reduceMul, Int.reduceToNat, Nat.reduceMul, Nat.reduceLeDiff, Nat.le_refl, Nat.reduceLT, Nat.reduceSub, hc1, VL, hc2]
        have hrow1 : BS w1 B u m[q] := hrow.fr hf fun _ _ h => h
        refine call (clone_calls hrow1 (by have := hf.size; omega) (by have := hl _ (List.getElem_mem hql); omega)) ?_
        intro r w2 h2
        have hr2 := h2.1
        have hf2 := h2.2
        clear h2
        simp -dsimp (disch := omega) only [↓MC.wp, ↓opsWp, ↓drWp, ↓MOp.wp, evs, ev, eget, eput, eput?, pev, pbin, pint, pbool, pstr, psl, vnil, pbuild, overlay, ↓thenQ, ↓blockQ, ↓retQ, ↓resWp, tupV, stills, MOp.still, known, Op.operands, List.toList_toArray, argEnv, ekeep, one_int, one_bool, one_str, one_ptr, one_slice, one_func, one_nilf, one_nilc, one_iface, one_map, Chk_true, Chk_of, Br_true, Br_false, Br_pos, Br_neg, Br_npos, Br_nneg, beq_t, beq_f, not_not', dec_true, dec_false, not_t, not_f, pick_t, pick_f, take1, drop1, take0, drop0, arr_app, List.append_nil, bne_tt, bne_tf, bne_ft, bne_ff, beq_tt, beq_tf, beq_ft, beq_ff, dec_pos, dec_neg, Ld_some, wrap_i64, tdiv_pos, tmod_pos, Sl.add_lit, drew_cell, Nat.reduceAdd, Nat.zero_add, Nat.add_zero, Nat.mul_one, Nat.one_mul, Int.toNat_natCast, cells_int, cells_bool, cells_str, cells_ptr, cells_slice, cells_func, cells_nilf, cells_nilc, cells_iface, cells_map, cells_agg, size_one, toList_one, List.length_cons, List.length_nil, List.cons_append, List.nil_append, reduceCtorEq, and_self, and_true, true_and, if_true, if_false, ↓reduceIte, ne_eq, not_false_eq_true, not_true_eq_false, Option.isSome_some, Option.isSome_none, decide_true, decide_false, List.getElem?_toArray, List.getElem?_cons_zero, List.getElem?_cons_succ, Bool.and_true, Bool.and_self, Int.reduceEq, Int.reduceLT, Int.reduceLE, Int.reduceAdd, Int.reduceSub, Int.reduceMul, Int.reduceToNat, Nat.reduceMul, Nat.reduceLeDiff, Nat.le_refl, Nat.reduceLT, Nat.reduceSub, Ow.cells1 hr2.1, set_one]
        refine new ?_
        intro b2 w3 hb2 hs3 hc3 hf3
        simp -dsimp (disch := omega) only [↓MC.wp, ↓opsWp, ↓drWp, ↓MOp.wp, evs, ev, eget, eput, eput?, pev, pbin, pint, pbool, pstr, psl, vnil, pbuild, overlay, ↓thenQ, ↓blockQ, ↓retQ, ↓resWp, tupV, stills, MOp.still, known, Op.operands, List.toList_toArray, argEnv, ekeep, one_int, one_bool, one_str, one_ptr, one_slice, one_func, one_nilf, one_nilc, one_iface, one_map, Chk_true, Chk_of, Br_true, Br_false, Br_pos, Br_neg, Br_npos, Br_nneg, beq_t, beq_f, not_not', dec_true, dec_false, not_t, not_f, pick_t, pick_f, take1, drop1, take0, drop0, arr_app, List.append_nil, bne_tt, bne_tf, bne_ft, bne_ff, beq_tt, beq_tf, beq_ft, beq_ff, dec_pos, dec_neg, Ld_some, wrap_i64, tdiv_pos, tmod_pos, Sl.add_lit, drew_cell, Nat.reduceAdd, Nat.zero_add, Nat.add_zero, Nat.mul_one, Nat.one_mul, Int.toNat_natCast, cells_int, cells_bool, cells_str, cells_ptr, cells_slice, cells_func, cells_nilf, cells_nilc, cells_iface, cells_map, cells_agg, size_one, toList_one, List.length_cons, List.length_nil, List.cons_append, List.nil_append, reduceCtorEq, and_self, and_true, true_and, if_true, if_false, ↓reduceIte, ne_eq, not_false_eq_true, not_true_eq_false, Option.isSome_some, Option.isSome_none, decide_true, decide_false, List.getElem?_toArray, List.getElem?_cons_zero, List.getElem?_cons_succ, Bool.and_true, Bool.and_self, Int.reduceEq, Int.reduceLT, Int.reduceLE, Int.reduceAdd, Int.reduceSub, Int.reduceMul, Int.reduceToNat, Nat.reduceMul, Nat.reduceLeDiff, Nat.le_refl, Nat.reduceLT, Nat.reduceSub]
        have hlen : ((is.take k).map (rowAt m)).length ≤ 1000000 := by rw [List.length_map, List.length_take]; omega
        refine push_row ho hf hf2 hr2 hlen hb2 hs3 hc3 hf3 fun r' w' hr' hf' => ?_
        simp -dsimp (disch := omega) only [↓MC.wp, ↓opsWp, ↓drWp, ↓MOp.wp, evs, ev, eget, eput, eput?, pev, pbin, pint, pbool, pstr, psl, vnil, pbuild, overlay, ↓thenQ, ↓blockQ, ↓retQ, ↓resWp, tupV, stills, MOp.still, known, Op.operands, List.toList_toArray, argEnv, ekeep, one_int, one_bool, one_str, one_ptr, one_slice, one_func, one_nilf, one_nilc, one_iface, one_map, Chk_true, Chk_of, Br_true, Br_false, Br_pos, Br_neg, Br_npos, Br_nneg, beq_t, beq_f, not_not', dec_true, dec_false, not_t, not_f, pick_t, pick_f, take1, drop1, take0, drop0, arr_app, List.append_nil, bne_tt, bne_tf, bne_ft, bne_ff, beq_tt, beq_tf, beq_ft, beq_ff, dec_pos, dec_neg, Ld_some, wrap_i64, tdiv_pos, tmod_pos, Sl.add_lit, drew_cell, Nat.reduceAdd, Nat.zero_add, Nat.add_zero, Nat.mul_one, Nat.one_mul, Int.toNat_natCast, cells_int, cells_bool, cells_str, cells_ptr, cells_slice, cells_func, cells_nilf, cells_nilc, cells_iface, cells_map, cells_agg, size_one, toList_one, List.length_cons, List.length_nil, List.cons_append, List.nil_append, reduceCtorEq, and_self, and_true, true_and, if_true, if_false, ↓reduceIte, ne_eq, not_false_eq_true, not_true_eq_false, Option.isSome_some, Option.isSome_none, decide_true, decide_false, List.getElem?_toArray, List.getElem?_cons_zero, List.getElem?_cons_succ, Bool.and_true, Bool.and_self, Int.reduceEq, Int.reduceLT, Int.reduceLE, Int.reduceAdd, Int.reduceSub, Int.reduceMul, Int.reduceToNat, Nat.reduceMul, Nat.reduceLeDiff, Nat.le_refl, Nat.reduceLT, Nat.reduceSub]
        have hrq : rowAt m is[k] = m[q] := by rw [rowAt, hq, Int.toNat_natCast, List.getD_eq_getElem?_getD, List.getElem?_eq_getElem hql]; rfl
        refine ⟨(k + 1, r'), rfl, ⟨by dsimp only; omega, ?_, ?_, hf'⟩, by dsimp only; omega⟩
        · dsimp only
          rw [take_succ' hlt, List.all_append, hin]
          simp [inR]
          omega
        · dsimp only
          rw [take_succ' hlt, List.map_append, List.map_cons, List.map_nil, hrq]
          exact hr'
  · simp -dsimp (disch := omega) only [↓MC.wp, ↓opsWp, ↓drWp, ↓MOp.wp, evs, ev, eget, eput, eput?, pev, pbin, pint, pbool, pstr, psl, vnil, pbuild, overlay, ↓thenQ, ↓blockQ, ↓retQ, ↓resWp, tupV, stills, MOp.still, known, Op.operands, List.toList_toArray, argEnv, ekeep, one_int, one_bool, one_str, one_ptr, one_slice, one_func, one_nilf, one_nilc, one_iface, one_map, Chk_true, Chk_of, Br_true, Br_false, Br_pos, Br_neg, Br_npos, Br_nneg, beq_t, beq_f, not_not', dec_true, dec_false, not_t, not_f, pick_t, pick_f, take1, drop1, take0, drop0, arr_app, List.append_nil, bne_tt, bne_tf, bne_ft, bne_ff, beq_tt, beq_tf, beq_ft, beq_ff, dec_pos, dec_neg, Ld_some, wrap_i64, tdiv_pos, tmod_pos, Sl.add_lit, drew_cell, Nat.reduceAdd, Nat.zero_add, Nat.add_zero, Nat.mul_one, Nat.one_mul, Int.toNat_natCast, cells_int, cells_bool, cells_str, cells_ptr, cells_slice, cells_func, cells_nilf, cells_nilc, cells_iface, cells_map, cells_agg, size_one, toList_one, List.length_cons, List.length_nil, List.cons_append, List.nil_append, reduceCtorEq, and_self, and_true, true_and, if_true, if_false, ↓reduceIte, ne_eq, not_false_eq_true, not_true_eq_false, Option.isSome_some, Option.isSome_none, decide_true, decide_false, List.getElem?_toArray, List.getElem?_cons_zero, List.getElem?_cons_succ, Bool.and_true, Bool.and_self, Int.reduceEq, Int.reduceLT, Int.reduceLE, Int.reduceAdd, Int.reduceSub, Int.reduceMul, Int.reduceToNat, Nat.reduceMul, Nat.reduceLeDiff, Nat.le_refl, Nat.reduceLT, Nat.reduceSub]
    have hkk : k = is.length := by omega
    subst hkk
    rw [List.take_length] at ho hin
    rw [pick, hin]
    exact ⟨ho, hf⟩

end Go.Proofs.Ytgpkbldlkadnjaa
end
section
/- Walks: Coding, One. -/
set_option linter.unusedVariables false
set_option linter.unusedSimpArgs false
set_option maxHeartbeats 3000000
attribute [local irreducible] Go.Sl.Chk Go.Sl.Br Go.Sl.Ld Go.Sl.Ldn Go.Sl.LdB Go.Sl.Stn Go.Sl.New Go.Sl.Run Go.Sl.RunU Go.Sl.RunX Go.Sl.Call Go.Sl.LoopK Go.Sl.RawK Go.Sl.Om Go.Sl.xpk Go.Sl.xgpk Go.Sl.xglk Go.Sl.DLd Go.Sl.DLdG Go.Sl.DBs Go.Sl.DCall Go.Sl.DApp Go.Sl.DGen Go.Sl.DGenU Go.Sl.DGC Go.Sl.DLoop Go.Sl.DRaw Go.Sl.DRet Go.Sl.Ent Go.Sl.dget Go.Sl.dv Go.Sl.ev Go.Sl.eget
namespace Go.Proofs.Ytgpkbldlkadnjaa
open Go Go.Sl Go.RowKit

theorem NewMat.mono {B B' : Nat} {w : World} {r : Value} {m : List (List UInt8)} (h : NewMat B w r m) (hB : B' ≤ B) : NewMat B' w r m := by
  obtain ⟨vs, h1, h2, h3⟩ := h
  exact ⟨vs, h1, h2, fun b hb => Nat.le_trans hB (h3 b hb)⟩

/-! ### Coding -/
def codeAt (k i j : Nat) : UInt8 := if k ≤ i then ginv (UInt8.ofNat (i ^^^ j)) else if i = j then 1 else 0
def codeRow (k i : Nat) : List UInt8 := (List.range k).map (codeAt k i)
def coding (k n : Nat) : List (List UInt8) := (List.range n).map (codeRow k)
def part (f : Nat → UInt8) (k j : Nat) : List UInt8 := (List.range k).map fun x => if x < j then f x else 0
theorem part_zero (f : Nat → UInt8) (k : Nat) : part f k 0 = List.replicate k 0 := by
  apply List.ext_getElem
  · simp [part]
  · intro i h1 h2; simp [part]
theorem part_full (f : Nat → UInt8) (k : Nat) : part f k k = (List.range k).map f := by
  apply List.ext_getElem
  · simp [part]
  · intro i h1 h2
    simp [part] at h1 ⊢
    exact fun h => absurd h1 (by omega)
theorem part_length (f : Nat → UInt8) (k j : Nat) : (part f k j).length = k := by simp [part]
theorem part_set (f : Nat → UInt8) (k j : Nat) (h : j < k) : (part f k j).set j (f j) = part f k (j + 1) := by
  apply List.ext_getElem
  · simp [part]
  · intro i h1 h2
    rw [List.getElem_set]
    simp only [part, List.getElem_map, List.getElem_range]
    by_cases e : j = i
    · subst e; simp
    · rw [if_neg e]
      by_cases h3 : i < j
      · rw [if_pos h3, if_pos (by omega)]
      · rw [if_neg h3, if_neg (by omega)]
theorem part_same (f : Nat → UInt8) (k j : Nat) (h : f j = 0) : part f k (j + 1) = part f k j := by
  apply List.ext_getElem
  · simp [part]
  · intro i h1 h2
    simp only [part, List.getElem_map, List.getElem_range]
    by_cases e : i = j
    · subst e; simp [h]
    · by_cases h3 : i < j
      · rw [if_pos h3, if_pos (by omega)]
      · rw [if_neg h3, if_neg (by omega)]
theorem xor_i64 (x y : Nat) (hx : x < 1048576) (hy : y < 1048576) : IntKind.i64.wrap (BitVec.ofInt IntKind.i64.bits (x : Int) ^^^ BitVec.ofInt IntKind.i64.bits (y : Int)).toNat = ((x ^^^ y : Nat) : Int) := by
  have h1 : ∀ n : Nat, BitVec.ofInt 64 (n : Int) = BitVec.ofNat 64 n := fun n => by
    apply BitVec.eq_of_toNat_eq
    simp
  have h3 : x ^^^ y < 2 ^ 20 := Nat.xor_lt_two_pow (by omega) (by omega)
  show IntKind.i64.wrap (((BitVec.ofInt 64 (x : Int) ^^^ BitVec.ofInt 64 (y : Int)).toNat : Nat) : Int) = _
  rw [h1, h1, BitVec.toNat_xor, BitVec.toNat_ofNat, BitVec.toNat_ofNat, Nat.mod_eq_of_lt (by omega), Nat.mod_eq_of_lt (by omega), wrap_i64 (by omega)]
theorem conv_u8 (n : Nat) : IntKind.u8.wrap (n : Int) = ((UInt8.ofNat n).toNat : Int) := by
  rw [UInt8.toNat_ofNat']
  unfold IntKind.wrap
  simp only [IntKind.bits, IntKind.signed]
  have : ((n % 2 ^ 8 : Nat) : Int) = (n : Int) % 2 ^ 8 := by omega
  rw [this]
  simp

theorem mkB {w : World} {n : Nat} (hn : n ≤ 1000000) {en : Env} {dst : Option Nat} {x y : Operand} {ty : TypeId} {pos : String} {af : Array Edge} {gu} (hx : rho en x = .int .i64 n) (hy : rho en y = .int .i64 n) {K : Value → World → Prop} {tg : TagF K}
    (kk : ∀ b w', b = w.heap.size → NewRow b w' (.slice (some ⟨b, 0, none⟩) n n) (List.replicate n 0) → Fr No w w' → K (.slice (some ⟨b, 0, none⟩) n n) w') :
    RunX Try.prog (execOp (rho en) ⟨dst, .makeSlice 29 x y, ty, pos, af, gu⟩) w K tg := by
  refine mk elB (n := (n : Int)) (by omega) (by omega) (by omega) hx hy fun b w' hb hs hc hf => ?_
  rw [Int.toNat_natCast] at hc ⊢
  refine kk b w' hb ⟨?_, fun c hc => by cases hc; exact Nat.le_refl _⟩ hf
  rw [List.length_replicate]
  have := Ow.lit (n := n) (s := 1) hc (by simp [size_madeCells]) (by omega)
  rw [made_rep _ _ rfl, Nat.mul_one] at this
  rw [List.map_replicate]
  exact this

theorem coding_calls {w : World} (k n : Nat) (hk : k ≤ 1000) (hn : n ≤ 1000) :
    Calls Try.prog f_matrix_Coding #[.int .i64 k, .int .i64 n] w fun en w' => ∃ r, en = .returned r ∧ (NewMat w.heap.size w' r (coding k n) ∧ Fr No w w') := by
  refine calls_of_mf (args := [.int .i64 k, .int .i64 n]) c_matrix_Coding (by simp only [m_matrix_Coding, List.length]; decide) ?_
  simp -dsimp (disch := omega) only [↓MC.wp, ↓opsWp, ↓drWp, ↓MOp.wp, evs, ev, eget, eput, eput?, pev, pbin, pint, pbool, pstr, psl, vnil, pbuild, overlay, ↓thenQ, ↓blockQ, ↓retQ, ↓resWp, tupV, stills, MOp.still, known, Op.operands, List.toList_toArray, argEnv, ekeep, one_int, one_bool, one_str, one_ptr, one_slice, one_func, one_nilf, one_nilc, one_iface, one_map, Chk_true, Chk_of, Br_true, Br_false, Br_pos, Br_neg, Br_npos, Br_nneg, beq_t, beq_f, not_not', dec_true, dec_false, not_t, not_f, pick_t, pick_f, take1, drop1, take0, drop0, arr_app, List.append_nil, bne_tt, bne_tf, bne_ft, bne_ff, beq_tt, beq_tf, beq_ft, beq_ff, dec_pos, dec_neg, Ld_some, wrap_i64, tdiv_pos, tmod_pos, Sl.add_lit, drew_cell, Nat.reduceAdd, Nat.zero_add, Nat.add_zero, Nat.mul_one, Nat.one_mul, Int.toNat_natCast, cells_int, cells_bool, cells_str, cells_ptr, cells_slice, cells_func, cells_nilf, cells_nilc, cells_iface, cells_map, cells_agg, size_one, toList_one, List.length_cons, List.length_nil, List.cons_append, List.nil_append, reduceCtorEq, and_self, and_true, true_and, if_true, if_false, ↓reduceIte, ne_eq, not_false_eq_true, not_true_eq_false, Option.isSome_some, Option.isSome_none, decide_true, decide_false, List.getElem?_toArray, List.getElem?_cons_zero, List.getElem?_cons_succ, Bool.and_true, Bool.and_self, Int.reduceEq, Int.reduceLT, Int.reduceLE, Int.reduceAdd, Int.reduceSub, Int.reduceMul, Int.reduceToNat, Nat.reduceMul, Nat.reduceLeDiff, Nat.le_refl, Nat.reduceLT, Nat.reduceSub, m_matrix_Coding]
  refine call (new_calls w) ?_
  intro r w0 h1
  rw [h1.1]
  have hfa := h1.2.1
  have hf1 := h1.2.2
  clear h1
  simp -dsimp (disch := omega) only [↓MC.wp, ↓opsWp, ↓drWp, ↓MOp.wp, evs, ev, eget, eput, eput?, pev, pbin, pint, pbool, pstr, psl, vnil, pbuild, overlay, ↓thenQ, ↓blockQ, ↓retQ, ↓resWp, tupV, stills, MOp.still, known, Op.operands, List.toList_toArray, argEnv, ekeep, one_int, one_bool, one_str, one_ptr, one_slice, one_func, one_nilf, one_nilc, one_iface, one_map, Chk_true, Chk_of, Br_true, Br_false, Br_pos, Br_neg, Br_npos, Br_nneg, beq_t, beq_f, not_not', dec_true, dec_false, not_t, not_f, pick_t, pick_f, take1, drop1, take0, drop0, arr_app, List.append_nil, bne_tt, bne_tf, bne_ft, bne_ff, beq_tt, beq_tf, beq_ft, beq_ff, dec_pos, dec_neg, Ld_some, wrap_i64, tdiv_pos, tmod_pos, Sl.add_lit, drew_cell, Nat.reduceAdd, Nat.zero_add, Nat.add_zero, Nat.mul_one, Nat.one_mul, Int.toNat_natCast, cells_int, cells_bool, cells_str, cells_ptr, cells_slice, cells_func, cells_nilf, cells_nilc, cells_iface, cells_map, cells_agg, size_one, toList_one, List.length_cons, List.length_nil, List.cons_append, List.nil_append, reduceCtorEq, and_self, and_true, true_and, if_true, if_false, ↓reduceIte, ne_eq, not_false_eq_true, not_true_eq_false, Option.isSome_some, Option.isSome_none, decide_true, decide_false, List.getElem?_toArray, List.getElem?_cons_zero, List.getElem?_cons_succ, Bool.and_true, Bool.and_self, Int.reduceEq, Int.reduceLT, Int.reduceLE, Int.reduceAdd, Int.reduceSub, Int.reduceMul, Int.reduceToNat, Nat.reduceMul, Nat.reduceLeDiff, Nat.le_refl, Nat.reduceLT, Nat.reduceSub]
  refine loopS [0, 5, 6, 11, 12] (fun s : Nat × Value => [(0, .int .i64 k), (5, .pointer (some ⟨w.heap.size, 0, none⟩)), (6, s.2), (11, .int .i64 n), (12, .int .i64 s.1)])
    (fun s w2 => s.1 ≤ n ∧ NewMat w0.heap.size w2 s.2 ((List.range s.1).map (codeRow k)) ∧ Fr No w0 w2) (fun s _ => n - s.1) (0, .slice none 0 0) (by with_unfolding_all rfl) ⟨Nat.zero_le _, NewMat.nil _ _, Fr.refl _ _⟩ ?_
  rintro ⟨i, o⟩ w1 ⟨hi, ho, hf⟩
  dsimp only at hi ho ⊢
  by_cases hlt : i < n
  · simp -dsimp (disch := omega) only [↓MC.wp, ↓opsWp, ↓drWp, ↓MOp.wp, evs, ev, eget, eput, eput?, pev, pbin, pint, pbool, pstr, psl, vnil, pbuild, overlay, ↓thenQ, ↓blockQ, ↓retQ, ↓resWp, tupV, stills, MOp.still, known, Op.operands, List.toList_toArray, argEnv, ekeep, one_int, one_bool, one_str, one_ptr, one_slice, one_func, one_nilf, one_nilc, one_iface, one_map, Chk_true, Chk_of, Br_true, Br_false, Br_pos, Br_neg, Br_npos, Br_nneg, beq_t, beq_f, not_not', dec_true, dec_false, not_t, not_f, pick_t, pick_f, take1, drop1, take0, drop0, arr_app, List.append_nil, bne_tt, bne_tf, bne_ft, bne_ff, beq_tt, beq_tf, beq_ft, beq_ff, dec_pos, dec_neg, Ld_some, wrap_i64, tdiv_pos, tmod_pos, Sl.add_lit, drew_cell, Nat.reduceAdd, Nat.zero_add, Nat.add_zero, Nat.mul_one, Nat.one_mul, Int.toNat_natCast, cells_int, cells_bool, cells_str, cells_ptr, cells_slice, cells_func, cells_nilf, cells_nilc, cells_iface, cells_map, cells_agg, size_one, toList_one, List.length_cons, List.length_nil, List.cons_append, List.nil_append, reduceCtorEq, and_self, and_true, true_and, if_true, if_false, ↓reduceIte, ne_eq, not_false_eq_true, not_true_eq_false, Option.isSome_some, Option.isSome_none, decide_true, decide_false, List.getElem?_toArray, List.getElem?_cons_zero, List.getElem?_cons_succ, Bool.and_true, Bool.and_self, Int.reduceEq, Int.reduceLT, Int.reduceLE, Int.reduceAdd, Int.reduceSub, Int.reduceMul, Int.reduceToNat, Nat.reduceMul, Nat.reduceLeDiff, Nat.le_refl, Nat.reduceLT, Nat.reduceSub]
    refine mkB (n := k) (by omega) ?_ ?_ fun b w2 hb hrow hf2 => ?_
    · with_unfolding_all rfl
    · with_unfolding_all rfl
    simp -dsimp (disch := omega) only [↓MC.wp, ↓opsWp, ↓drWp, ↓MOp.wp, evs, ev, eget, eput, eput?, pev, pbin, pint, pbool, pstr, psl, vnil, pbuild, overlay, ↓thenQ, ↓blockQ, ↓retQ, ↓resWp, tupV, stills, MOp.still, known, Op.operands, List.toList_toArray, argEnv, ekeep, one_int, one_bool, one_str, one_ptr, one_slice, one_func, one_nilf, one_nilc, one_iface, one_map, Chk_true, Chk_of, Br_true, Br_false, Br_pos, Br_neg, Br_npos, Br_nneg, beq_t, beq_f, not_not', dec_true, dec_false, not_t, not_f, pick_t, pick_f, take1, drop1, take0, drop0, arr_app, List.append_nil, bne_tt, bne_tf, bne_ft, bne_ff, beq_tt, beq_tf, beq_ft, beq_ff, dec_pos, dec_neg, Ld_some, wrap_i64, tdiv_pos, tmod_pos, Sl.add_lit, drew_cell, Nat.reduceAdd, Nat.zero_add, Nat.add_zero, Nat.mul_one, Nat.one_mul, Int.toNat_natCast, cells_int, cells_bool, cells_str, cells_ptr, cells_slice, cells_func, cells_nilf, cells_nilc, cells_iface, cells_map, cells_agg, size_one, toList_one, List.length_cons, List.length_nil, List.cons_append, List.nil_append, reduceCtorEq, and_self, and_true, true_and, if_true, if_false, ↓reduceIte, ne_eq, not_false_eq_true, not_true_eq_false, Option.isSome_some, Option.isSome_none, decide_true, decide_false, List.getElem?_toArray, List.getElem?_cons_zero, List.getElem?_cons_succ, Bool.and_true, Bool.and_self, Int.reduceEq, Int.reduceLT, Int.reduceLE, Int.reduceAdd, Int.reduceSub, Int.reduceMul, Int.reduceToNat, Nat.reduceMul, Nat.reduceLeDiff, Nat.le_refl, Nat.reduceLT, Nat.reduceSub]
    refine loopS [0, 5, 6, 7, 8, 11, 12, 18, 19] (fun j : Nat => [(0, .int .i64 k), (5, .pointer (some ⟨w.heap.size, 0, none⟩)), (6, o), (7, .int .i64 i), (8, .slice (some ⟨b, 0, none⟩) k k), (11, .int .i64 n), (12, .int .i64 i), (18, .int .i64 k), (19, .int .i64 j)])
      (fun j w3 => j ≤ k ∧ Ow w3 5 1 (.slice (some ⟨b, 0, none⟩) k k) k ((part (codeAt k i) k j).map U8) ∧ Fr No w1 w3) (fun j _ => k - j) 0 (by with_unfolding_all rfl) ⟨Nat.zero_le _, ?_, hf2⟩ ?_
    · have := hrow.1
      rw [List.length_replicate] at this
      rw [part_zero]
      exact this
    · clear hrow hf2 w2
      rintro j w3 ⟨hj, hrow, hf3⟩
      by_cases hjl : j < k
      · have hfa3 : FieldAt w3 w.heap.size := (hfa.fr hf fun h => h).fr hf3 fun h => h
        by_cases hik : k ≤ i
        · simp -dsimp (disch := omega) only [↓MC.wp, ↓opsWp, ↓drWp, ↓MOp.wp, evs, ev, eget, eput, eput?, pev, pbin, pint, pbool, pstr, psl, vnil, pbuild, overlay, ↓thenQ, ↓blockQ, ↓retQ, ↓resWp, tupV, stills, MOp.still, known, Op.operands, List.toList_toArray, argEnv, ekeep, one_int, one_bool, one_str, one_ptr, one_slice, one_func, one_nilf, one_nilc, one_iface, one_map, Chk_true, Chk_of, Br_true, Br_false, Br_pos, Br_neg, Br_npos, Br_nneg, beq_t, beq_f, not_not', dec_true, dec_false, not_t, not_f, pick_t, pick_f, take1, drop1, take0, drop0, arr_app, List.append_nil, bne_tt, bne_tf, bne_ft, bne_ff, beq_tt, beq_tf, beq_ft, beq_ff, dec_pos, dec_neg, Ld_some, wrap_i64, tdiv_pos, tmod_pos, Sl.add_lit, drew_cell, Nat.reduceAdd, Nat.zero_add, Nat.add_zero, Nat.mul_one, Nat.one_mul, Int.toNat_natCast, cells_int, cells_bool, cells_str, cells_ptr, cells_slice, cells_func, cells_nilf, cells_nilc, cells_iface, cells_map, cells_agg, size_one, toList_one, List.length_cons, List.length_nil, List.cons_append, List.nil_append, reduceCtorEq, and_self, and_true, true_and, if_true, if_false, ↓reduceIte, ne_eq, not_false_eq_true, not_true_eq_false, Option.isSome_some, Option.isSome_none, decide_true, decide_false, List.getElem?_toArray, List.getElem?_cons_zero, List.getElem?_cons_succ, Bool.and_true, Bool.and_self, Int.reduceEq, Int.reduceLT, Int.reduceLE, Int.reduceAdd, Int.reduceSub, Int.reduceMul, Int.reduceToNat, Nat.reduceMul, Nat.reduceLeDiff, Nat.le_refl, Nat.reduceLT, Nat.reduceSub, xor_i64, conv_u8]
          refine call (inv_calls hfa3 (UInt8.ofNat (i ^^^ j))) ?_
          intro r w4 hw4
          have hf4 := hw4.2
          rw [hw4.1]
          clear hw4
          simp -dsimp (disch := omega) only [↓MC.wp, ↓opsWp, ↓drWp, ↓MOp.wp, evs, ev, eget, eput, eput?, pev, pbin, pint, pbool, pstr, psl, vnil, pbuild, overlay, ↓thenQ, ↓blockQ, ↓retQ, ↓resWp, tupV, stills, MOp.still, known, Op.operands, List.toList_toArray, argEnv, ekeep, one_int, one_bool, one_str, one_ptr, one_slice, one_func, one_nilf, one_nilc, one_iface, one_map, Chk_true, Chk_of, Br_true, Br_false, Br_pos, Br_neg, Br_npos, Br_nneg, beq_t, beq_f, not_not', dec_true, dec_false, not_t, not_f, pick_t, pick_f, take1, drop1, take0, drop0, arr_app, List.append_nil, bne_tt, bne_tf, bne_ft, bne_ff, beq_tt, beq_tf, beq_ft, beq_ff, dec_pos, dec_neg, Ld_some, wrap_i64, tdiv_pos, tmod_pos, Sl.add_lit, drew_cell, Nat.reduceAdd, Nat.zero_add, Nat.add_zero, Nat.mul_one, Nat.one_mul, Int.toNat_natCast, cells_int, cells_bool, cells_str, cells_ptr, cells_slice, cells_func, cells_nilf, cells_nilc, cells_iface, cells_map, cells_agg, size_one, toList_one, List.length_cons, List.length_nil, List.cons_append, List.nil_append, reduceCtorEq, and_self, and_true, true_and, if_true, if_false, ↓reduceIte, ne_eq, not_false_eq_true, not_true_eq_false, Option.isSome_some, Option.isSome_none, decide_true, decide_false, List.getElem?_toArray, List.getElem?_cons_zero, List.getElem?_cons_succ, Bool.and_true, Bool.and_self, Int.reduceEq, Int.reduceLT, Int.reduceLE, Int.reduceAdd, Int.reduceSub, Int.reduceMul, Int.reduceToNat, Nat.reduceMul, Nat.reduceLeDiff, Nat.le_refl, Nat.reduceLT, Nat.reduceSub, U8]
          refine (hrow.no hf4).set (j := j) (v := U8 (ginv (UInt8.ofNat (i ^^^ j)))) hjl rfl fun w5 ho5 hf5 hs5 => ?_
          simp -dsimp (disch := omega) only [↓MC.wp, ↓opsWp, ↓drWp, ↓MOp.wp, evs, ev, eget, eput, eput?, pev, pbin, pint, pbool, pstr, psl, vnil, pbuild, overlay, ↓thenQ, ↓blockQ, ↓retQ, ↓resWp, tupV, stills, MOp.still, known, Op.operands, List.toList_toArray, argEnv, ekeep, one_int, one_bool, one_str, one_ptr, one_slice, one_func, one_nilf, one_nilc, one_iface, one_map, Chk_true, Chk_of, Br_true, Br_false, Br_pos, Br_neg, Br_npos, Br_nneg, beq_t, beq_f, not_not', dec_true, dec_false, not_t, not_f, pick_t, pick_f, take1, drop1, take0, drop0, arr_app, List.append_nil, bne_tt, bne_tf, bne_ft, bne_ff, beq_tt, beq_tf, beq_ft, beq_ff, dec_pos, dec_neg, Ld_some, wrap_i64, tdiv_pos, tmod_pos, Sl.add_lit, drew_cell, Nat.reduceAdd, Nat.zero_add, Nat.add_zero, Nat.mul_one, Nat.one_mul, Int.toNat_natCast, cells_int, cells_bool, cells_str, cells_ptr, cells_slice, cells_func, cells_nilf, cells_nilc, cells_iface, cells_map, cells_agg, size_one, toList_one, List.length_cons, List.length_nil, List.cons_append, List.nil_append, reduceCtorEq, and_self, and_true, true_and, if_true, if_false, ↓reduceIte, ne_eq, not_false_eq_true, not_true_eq_false, Option.isSome_some, Option.isSome_none, decide_true, decide_false, List.getElem?_toArray, List.getElem?_cons_zero, List.getElem?_cons_succ, Bool.and_true, Bool.and_self, Int.reduceEq, Int.reduceLT, Int.reduceLE, Int.reduceAdd, Int.reduceSub, Int.reduceMul, Int.reduceToNat, Nat.reduceMul, Nat.reduceLeDiff, Nat.le_refl, Nat.reduceLT, Nat.reduceSub]
          refine ⟨j + 1, rfl, ⟨by omega, ?_, (hf3.then hf4).step hf5 fun c hc h => by omega⟩, by omega⟩
          rw [← part_set _ _ _ hjl, List.map_set]
          have : codeAt k i j = ginv (UInt8.ofNat (i ^^^ j)) := by rw [codeAt, if_pos hik]
          rw [this]
          exact ho5
        · by_cases hij : i = j
          · simp -dsimp (disch := omega) only [↓MC.wp, ↓opsWp, ↓drWp, ↓MOp.wp, evs, ev, eget, eput, eput?, pev, pbin, pint, pbool, pstr, psl, vnil, pbuild, overlay, ↓thenQ, ↓blockQ, ↓retQ, ↓resWp, tupV, stills, MOp.still, known, Op.operands, List.toList_toArray, argEnv, ekeep, one_int, one_bool, one_str, one_ptr, one_slice, one_func, one_nilf, one_nilc, one_iface, one_map, Chk_true, Chk_of, Br_true, Br_false, Br_pos, Br_neg, Br_npos, Br_nneg, beq_t, beq_f, not_not', dec_true, dec_false, not_t, not_f, pick_t, pick_f, take1, drop1, take0, drop0, arr_app, List.append_nil, bne_tt, bne_tf, bne_ft, bne_ff, beq_tt, beq_tf, beq_ft, beq_ff, dec_pos, dec_neg, Ld_some, wrap_i64, tdiv_pos, tmod_pos, Sl.add_lit, drew_cell, Nat.reduceAdd, Nat.zero_add, Nat.add_zero, Nat.mul_one, Nat.one_mul, Int.toNat_natCast, cells_int, cells_bool, cells_str, cells_ptr, cells_slice, cells_func, cells_nilf, cells_nilc, cells_iface, cells_map, cells_agg, size_one, toList_one, List.length_cons, List.length_nil, List.cons_append, List.nil_append, reduceCtorEq, and_self, and_true, true_and, if_true, if_false, ↓reduceIte, ne_eq, not_false_eq_true, not_true_eq_false, Option.isSome_some, Option.isSome_none, decide_true, decide_false, List.getElem?_toArray, List.getElem?_cons_zero, List.getElem?_cons_succ, Bool.and_true, Bool.and_self, Int.reduceEq, Int.reduceLT, Int.reduceLE, Int.reduceAdd, Int.reduceSub, Int.reduceMul, Int.reduceToNat, Nat.reduceMul, Nat.reduceLeDiff, Nat.le_refl, Nat.reduceLT, Nat.reduceSub]
            refine hrow.set (j := j) (v := U8 1) hjl rfl fun w5 ho5 hf5 hs5 => ?_
            simp -dsimp (disch := omega) only [↓MC.wp, ↓opsWp, ↓drWp, ↓MOp.wp, evs, ev, eget, eput, eput?, pev, pbin, pint, pbool, pstr, psl, vnil, pbuild, overlay, ↓thenQ, ↓blockQ, ↓retQ, ↓resWp, tupV, stills, MOp.still, known, Op.operands, List.toList_toArray, argEnv, ekeep, one_int, one_bool, one_str, one_ptr, one_slice, one_func, one_nilf, one_nilc, one_iface, one_map, Chk_true, Chk_of, Br_true, Br_false, Br_pos, Br_neg, Br_npos, Br_nneg, beq_t, beq_f, not_not', dec_true, dec_false, not_t, not_f, pick_t, pick_f, take1, drop1, take0, drop0, arr_app, List.append_nil, bne_tt, bne_tf, bne_ft, bne_ff, beq_tt, beq_tf, beq_ft, beq_ff, dec_pos, dec_neg, Ld_some, wrap_i64, tdiv_pos, tmod_pos, Sl.add_lit, drew_cell, Nat.reduceAdd, Nat.zero_add, Nat.add_zero, Nat.mul_one, Nat.one_mul, Int.toNat_natCast, cells_int, cells_bool, cells_str, cells_ptr, cells_slice, cells_func, cells_nilf, cells_nilc, cells_iface, cells_map, cells_agg, size_one, toList_one, List.length_cons, List.length_nil, List.cons_append, List.nil_append, reduceCtorEq, and_self, and_true, true_and, if_true, if_false, ↓reduceIte, ne_eq, not_false_eq_true, not_true_eq_false, Option.isSome_some, Option.isSome_none, decide_true, decide_false, List.getElem?_toArray, List.getElem?_cons_zero, List.getElem?_cons_succ, Bool.and_true, Bool.and_self, Int.reduceEq, Int.reduceLT, Int.reduceLE, Int.reduceAdd, Int.reduceSub, Int.reduceMul, Int.reduceToNat, Nat.reduceMul, Nat.reduceLeDiff, Nat.le_refl, Nat.reduceLT, Nat.reduceSub]
            refine ⟨j + 1, rfl, ⟨by omega, ?_, hf3.step hf5 fun c hc h => by omega⟩, by omega⟩
            rw [← part_set _ _ _ hjl, List.map_set]
            have : codeAt k i j = 1 := by rw [codeAt, if_neg hik, if_pos hij]
            rw [this]
            exact ho5
          · simp -dsimp (disch := omega) only [↓MC.wp, ↓opsWp, ↓drWp, ↓MOp.wp, evs, ev, eget, eput, eput?, pev, pbin, pint, pbool, pstr, psl, vnil, pbuild, overlay, ↓thenQ, ↓blockQ, ↓retQ, ↓resWp, tupV, stills, MOp.still, known, Op.operands, List.toList_toArray, argEnv, ekeep, one_int, one_bool, one_str, one_ptr, one_slice, one_func, one_nilf, one_nilc, one_iface, one_map, Chk_true, Chk_of, Br_true, Br_false, Br_pos, Br_neg, Br_npos, Br_nneg, beq_t, beq_f, not_not', dec_true, dec_false, not_t, not_f, pick_t, pick_f, take1, drop1, take0, drop0, arr_app, List.append_nil, bne_tt, bne_tf, bne_ft, bne_ff, beq_tt, beq_tf, beq_ft, beq_ff, dec_pos, dec_neg, Ld_some, wrap_i64, tdiv_pos, tmod_pos, Sl.add_lit, drew_cell, Nat.reduceAdd, Nat.zero_add, Nat.add_zero, Nat.mul_one, Nat.one_mul, Int.toNat_natCast, cells_int, cells_bool, cells_str, cells_ptr, cells_slice, cells_func, cells_nilf, cells_nilc, cells_iface, cells_map, cells_agg, size_one, toList_one, List.length_cons, List.length_nil, List.cons_append, List.nil_append, reduceCtorEq, and_self, and_true, true_and, if_true, if_false, ↓reduceIte, ne_eq, not_false_eq_true, not_true_eq_false, Option.isSome_some, Option.isSome_none, decide_true, decide_false, List.getElem?_toArray, List.getElem?_cons_zero, List.getElem?_cons_succ, Bool.and_true, Bool.and_self, Int.reduceEq, Int.reduceLT, Int.reduceLE, Int.reduceAdd, Int.reduceSub, Int.reduceMul, Int.reduceToNat, Nat.reduceMul, Nat.reduceLeDiff, Nat.le_refl, Nat.reduceLT, Nat.reduceSub]
            refine ⟨j + 1, rfl, ⟨by omega, ?_, hf3⟩, by omega⟩
            rw [part_same _ _ _ (by rw [codeAt, if_neg hik, if_neg hij])]
            exact hrow
      · simp -dsimp (disch := omega) only [↓MC.wp, ↓opsWp, ↓drWp, ↓MOp.wp, evs, ev, eget, eput, eput?, pev, pbin, pint, pbool, pstr, psl, vnil, pbuild, overlay, ↓thenQ, ↓blockQ, ↓retQ, ↓resWp, tupV, stills, MOp.still, known, Op.operands, List.toList_toArray, argEnv, ekeep, one_int, one_bool, one_str, one_ptr, one_slice, one_func, one_nilf, one_nilc, one_iface, one_map, Chk_true, Chk_of, Br_true, Br_false, Br_pos, Br_neg, Br_npos, Br_nneg, beq_t, beq_f, not_not', dec_true, dec_false, not_t, not_f, pick_t, pick_f, take1, drop1, take0, drop0, arr_app, List.append_nil, bne_tt, bne_tf, bne_ft, bne_ff, beq_tt, beq_tf, beq_ft, beq_ff, dec_pos, dec_neg, Ld_some, wrap_i64, tdiv_pos, tmod_pos, Sl.add_lit, drew_cell, Nat.reduceAdd, Nat.zero_add, Nat.add_zero, Nat.mul_one, Nat.one_mul, Int.toNat_natCast, cells_int, cells_bool, cells_str, cells_ptr, cells_slice, cells_func, cells_nilf, cells_nilc, cells_iface, cells_map, cells_agg, size_one, toList_one, List.length_cons, List.length_nil, List.cons_append, List.nil_append, reduceCtorEq, and_self, and_true, true_and, if_true, if_false, ↓reduceIte, ne_eq, not_false_eq_true, not_true_eq_false, Option.isSome_some, Option.isSome_none, decide_true, decide_false, List.getElem?_toArray, List.getElem?_cons_zero, List.getElem?_cons_succ, Bool.and_true, Bool.and_self, Int.reduceEq, Int.reduceLT, Int.reduceLE, Int.reduceAdd, Int.reduceSub, Int.reduceMul, Int.reduceToNat, Nat.reduceMul, Nat.reduceLeDiff, Nat.le_refl, Nat.reduceLT, Nat.reduceSub, set_one]
        have hjk : j = k := by omega
        subst hjk
        rw [part_full] at hrow
        refine new ?_
        intro b2 w4 hb2 hs4 hc4 hf4
        simp -dsimp (disch := omega) only [↓MC.wp, ↓opsWp, ↓drWp, ↓MOp.wp, evs, ev, eget, eput, eput?, pev, pbin, pint, pbool, pstr, psl, vnil, pbuild, overlay, ↓thenQ, ↓blockQ, ↓retQ, ↓resWp, tupV, stills, MOp.still, known, Op.operands, List.toList_toArray, argEnv, ekeep, one_int, one_bool, one_str, one_ptr, one_slice, one_func, one_nilf, one_nilc, one_iface, one_map, Chk_true, Chk_of, Br_true, Br_false, Br_pos, Br_neg, Br_npos, Br_nneg, beq_t, beq_f, not_not', dec_true, dec_false, not_t, not_f, pick_t, pick_f, take1, drop1, take0, drop0, arr_app, List.append_nil, bne_tt, bne_tf, bne_ft, bne_ff, beq_tt, beq_tf, beq_ft, beq_ff, dec_pos, dec_neg, Ld_some, wrap_i64, tdiv_pos, tmod_pos, Sl.add_lit, drew_cell, Nat.reduceAdd, Nat.zero_add, Nat.add_zero, Nat.mul_one, Nat.one_mul, Int.toNat_natCast, cells_int, cells_bool, cells_str, cells_ptr, cells_slice, cells_func, cells_nilf, cells_nilc, cells_iface, cells_map, cells_agg, size_one, toList_one, List.length_cons, List.length_nil, List.cons_append, List.nil_append, reduceCtorEq, and_self, and_true, true_and, if_true, if_false, ↓reduceIte, ne_eq, not_false_eq_true, not_true_eq_false, Option.isSome_some, Option.isSome_none, decide_true, decide_false, List.getElem?_toArray, List.getElem?_cons_zero, List.getElem?_cons_succ, Bool.and_true, Bool.and_self, Int.reduceEq, Int.reduceLT, Int.reduceLE, Int.reduceAdd, Int.reduceSub, Int.reduceMul, Int.reduceToNat, Nat.reduceMul, Nat.reduceLeDiff, Nat.le_refl, Nat.reduceLT, Nat.reduceSub]
        have hu : NewRow w1.heap.size w3 (.slice (some ⟨b, 0, none⟩) j j) (codeRow j i) := by
          refine ⟨?_, fun c hc => by cases hc; exact Nat.le_of_eq hb.symm⟩
          have : (codeRow j i).length = j := by simp [codeRow]
          rw [this]
          exact hrow
        refine push_row ho hf hf3 hu (by simp; omega) hb2 hs4 hc4 hf4 fun r' w' hr' hf' => ?_
        simp -dsimp (disch := omega) only [↓MC.wp, ↓opsWp, ↓drWp, ↓MOp.wp, evs, ev, eget, eput, eput?, pev, pbin, pint, pbool, pstr, psl, vnil, pbuild, overlay, ↓thenQ, ↓blockQ, ↓retQ, ↓resWp, tupV, stills, MOp.still, known, Op.operands, List.toList_toArray, argEnv, ekeep, one_int, one_bool, one_str, one_ptr, one_slice, one_func, one_nilf, one_nilc, one_iface, one_map, Chk_true, Chk_of, Br_true, Br_false, Br_pos, Br_neg, Br_npos, Br_nneg, beq_t, beq_f, not_not', dec_true, dec_false, not_t, not_f, pick_t, pick_f, take1, drop1, take0, drop0, arr_app, List.append_nil, bne_tt, bne_tf, bne_ft, bne_ff, beq_tt, beq_tf, beq_ft, beq_ff, dec_pos, dec_neg, Ld_some, wrap_i64, tdiv_pos, tmod_pos, Sl.add_lit, drew_cell, Nat.reduceAdd, Nat.zero_add, Nat.add_zero, Nat.mul_one, Nat.one_mul, Int.toNat_natCast, cells_int, cells_bool, cells_str, cells_ptr, cells_slice, cells_func, cells_nilf, cells_nilc, cells_iface, cells_map, cells_agg, size_one, toList_one, List.length_cons, List.length_nil, List.cons_append, List.nil_append, reduceCtorEq, and_self, and_true, true_and, if_true, if_false, ↓reduceIte, ne_eq, not_false_eq_true, not_true_eq_false, Option.isSome_some, Option.isSome_none, decide_true, decide_false, List.getElem?_toArray, List.getElem?_cons_zero, List.getElem?_cons_succ, Bool.and_true, Bool.and_self, Int.reduceEq, Int.reduceLT, Int.reduceLE, Int.reduceAdd, Int.reduceSub, Int.reduceMul, Int.reduceToNat, Nat.reduceMul, Nat.reduceLeDiff, Nat.le_refl, Nat.reduceLT, Nat.reduceSub]
        refine ⟨(i + 1, r'), rfl, ⟨by dsimp only; omega, ?_, hf'⟩, by dsimp only; omega⟩
        dsimp only
        rw [List.range_succ, List.map_append]
        exact hr'
  · simp -dsimp (disch := omega) only [↓MC.wp, ↓opsWp, ↓drWp, ↓MOp.wp, evs, ev, eget, eput, eput?, pev, pbin, pint, pbool, pstr, psl, vnil, pbuild, overlay, ↓thenQ, ↓blockQ, ↓retQ, ↓resWp, tupV, stills, MOp.still, known, Op.operands, List.toList_toArray, argEnv, ekeep, one_int, one_bool, one_str, one_ptr, one_slice, one_func, one_nilf, one_nilc, one_iface, one_map, Chk_true, Chk_of, Br_true, Br_false, Br_pos, Br_neg, Br_npos, Br_nneg, beq_t, beq_f, not_not', dec_true, dec_false, not_t, not_f, pick_t, pick_f, take1, drop1, take0, drop0, arr_app, List.append_nil, bne_tt, bne_tf, bne_ft, bne_ff, beq_tt, beq_tf, beq_ft, beq_ff, dec_pos, dec_neg, Ld_some, wrap_i64, tdiv_pos, tmod_pos, Sl.add_lit, drew_cell, Nat.reduceAdd, Nat.zero_add, Nat.add_zero, Nat.mul_one, Nat.one_mul, Int.toNat_natCast, cells_int, cells_bool, cells_str, cells_ptr, cells_slice, cells_func, cells_nilf, cells_nilc, cells_iface, cells_map, cells_agg, size_one, toList_one, List.length_cons, List.length_nil, List.cons_append, List.nil_append, reduceCtorEq, and_self, and_true, true_and, if_true, if_false, ↓reduceIte, ne_eq, not_false_eq_true, not_true_eq_false, Option.isSome_some, Option.isSome_none, decide_true, decide_false, List.getElem?_toArray, List.getElem?_cons_zero, List.getElem?_cons_succ, Bool.and_true, Bool.and_self, Int.reduceEq, Int.reduceLT, Int.reduceLE, Int.reduceAdd, Int.reduceSub, Int.reduceMul, Int.reduceToNat, Nat.reduceMul, Nat.reduceLeDiff, Nat.le_refl, Nat.reduceLT, Nat.reduceSub]
    have hin : i = n := by omega
    subst hin
    exact ⟨ho.mono hf1.size, hf1.then hf⟩
theorem one_calls {w : World} (n : Nat) (hn : n ≤ 1000) :
    Calls Try.prog f_matrix_One #[.int .i64 n] w fun en w' => ∃ r, en = .returned r ∧ (NewMat w.heap.size w' r (coding n n) ∧ Fr No w w') := by
  refine calls_of_mf (args := [.int .i64 n]) c_matrix_One (by simp only [m_matrix_One, List.length]; decide) ?_
  simp -dsimp (disch := omega) only [↓MC.wp, ↓opsWp, ↓drWp, ↓MOp.wp, evs, ev, eget, eput, eput?, pev, pbin, pint, pbool, pstr, psl, vnil, pbuild, overlay, ↓thenQ, ↓blockQ, ↓retQ, ↓resWp, tupV, stills, MOp.still, known, Op.operands, List.toList_toArray, argEnv, ekeep, one_int, one_bool, one_str, one_ptr, one_slice, one_func, one_nilf, one_nilc, one_iface, one_map, Chk_true, Chk_of, Br_true, Br_false, Br_pos, Br_neg, Br_npos, Br_nneg, beq_t, beq_f, not_not', dec_true, dec_false, not_t, not_f, pick_t, pick_f, take1, drop1, take0, drop0, arr_app, List.append_nil, bne_tt, bne_tf, bne_ft, bne_ff, beq_tt, beq_tf, beq_ft, beq_ff, dec_pos, dec_neg, Ld_some, wrap_i64, tdiv_pos, tmod_pos, Sl.add_lit, drew_cell, Nat.reduceAdd, Nat.zero_add, Nat.add_zero, Nat.mul_one, Nat.one_mul, Int.toNat_natCast, cells_int, cells_bool, cells_str, cells_ptr, cells_slice, cells_func, cells_nilf, cells_nilc, cells_iface, cells_map, cells_agg, size_one, toList_one, List.length_cons, List.length_nil, List.cons_append, List.nil_append, reduceCtorEq, and_self, and_true, true_and, if_true, if_false, ↓reduceIte, ne_eq, not_false_eq_true, not_true_eq_false, Option.isSome_some, Option.isSome_none, decide_true, decide_false, List.getElem?_toArray, List.getElem?_cons_zero, List.getElem?_cons_succ, Bool.and_true, Bool.and_self, Int.reduceEq, Int.reduceLT, Int.reduceLE, Int.reduceAdd, Int.reduceSub, Int.reduceMul, Int.reduceToNat, Nat.reduceMul, Nat.reduceLeDiff, Nat.le_refl, Nat.reduceLT, Nat.reduceSub, m_matrix_One]
  refine call (coding_calls n n hn hn) fun r w1 h => ?_
  simp -dsimp (disch := omega) only [↓MC.wp, ↓opsWp, ↓drWp, ↓MOp.wp, evs, ev, eget, eput, eput?, pev, pbin, pint, pbool, pstr, psl, vnil, pbuild, overlay, ↓thenQ, ↓blockQ, ↓retQ, ↓resWp, tupV, stills, MOp.still, known, Op.operands, List.toList_toArray, argEnv, ekeep, one_int, one_bool, one_str, one_ptr, one_slice, one_func, one_nilf, one_nilc, one_iface, one_map, Chk_true, Chk_of, Br_true, Br_false, Br_pos, Br_neg, Br_npos, Br_nneg, beq_t, beq_f, not_not', dec_true, dec_false, not_t, not_f, pick_t, pick_f, take1, drop1, take0, drop0, arr_app, List.append_nil, bne_tt, bne_tf, bne_ft, bne_ff, beq_tt, beq_tf, beq_ft, beq_ff, dec_pos, dec_neg, Ld_some, wrap_i64, tdiv_pos, tmod_pos, Sl.add_lit, drew_cell, Nat.reduceAdd, Nat.zero_add, Nat.add_zero, Nat.mul_one, Nat.one_mul, Int.toNat_natCast, cells_int, cells_bool, cells_str, cells_ptr, cells_slice, cells_func, cells_nilf, cells_nilc, cells_iface, cells_map, cells_agg, size_one, toList_one, List.length_cons, List.length_nil, List.cons_append, List.nil_append, reduceCtorEq, and_self, and_true, true_and, if_true, if_false, ↓reduceIte, ne_eq, not_false_eq_true, not_true_eq_false, Option.isSome_some, Option.isSome_none, decide_true, decide_false, List.getElem?_toArray, List.getElem?_cons_zero, List.getElem?_cons_succ, Bool.and_true, Bool.and_self, Int.reduceEq, Int.reduceLT, Int.reduceLE, Int.reduceAdd, Int.reduceSub, Int.reduceMul, Int.reduceToNat, Nat.reduceMul, Nat.reduceLeDiff, Nat.le_refl, Nat.reduceLT, Nat.reduceSub]
  exact h
end Go.Proofs.Ytgpkbldlkadnjaa
end
section
/- Walks: Mul. -/
set_option linter.unusedVariables false
set_option linter.unusedSimpArgs false
set_option maxHeartbeats 3000000
attribute [local irreducible] Go.Sl.Chk Go.Sl.Br Go.Sl.Ld Go.Sl.Ldn Go.Sl.LdB Go.Sl.Stn Go.Sl.New Go.Sl.Run Go.Sl.RunU Go.Sl.RunX Go.Sl.Call Go.Sl.LoopK Go.Sl.RawK Go.Sl.Om Go.Sl.xpk Go.Sl.xgpk Go.Sl.xglk Go.Sl.DLd Go.Sl.DLdG Go.Sl.DBs Go.Sl.DCall Go.Sl.DApp Go.Sl.DGen Go.Sl.DGenU Go.Sl.DGC Go.Sl.DLoop Go.Sl.DRaw Go.Sl.DRet Go.Sl.Ent Go.Sl.dget Go.Sl.dv Go.Sl.ev Go.Sl.eget
namespace Go.Proofs.Ytgpkbldlkadnjaa
open Go Go.Sl Go.RowKit

abbrev LL := List (List UInt8)
def rowAcc (b : List (List UInt8)) (r : List UInt8) (wd : Nat) : Nat → List UInt8
  | 0 => List.replicate wd 0
  | k + 1 => xorL (rowAcc b r wd k) ((b.getD k []).map (gmul (r.getD k 0)))
theorem rowAcc_length (b : List (List UInt8)) (r : List UInt8) (wd : Nat) : ∀ k, (rowAcc b r wd k).length = wd
  | 0 => List.length_replicate
  | k + 1 => by rw [rowAcc, xorL_length, rowAcc_length]
def width (m : List (List UInt8)) : Nat := (m.getD 0 []).length
def mulM (a b : List (List UInt8)) : List (List UInt8) := if width a = b.length then a.map (fun r => rowAcc b r (width b) r.length) else []
structure RightM (m : List (List UInt8)) : Prop where
  pos : 0 < m.length
  wide : 0 < width m
  all : ∀ x ∈ m, x.length = width m
structure Small (m : List (List UInt8)) : Prop where
  high : m.length ≤ 1000
  wide : ∀ x ∈ m, x.length ≤ 1000
theorem getD_of_lt {α : Type} {l : List α} {k : Nat} (d : α) (h : k < l.length) : l.getD k d = l[k] := by
  rw [List.getD_eq_getElem?_getD, List.getElem?_eq_getElem h]; rfl

theorem mmul_calls {w : World} {B B' : Nat} {v v' : Value} {a b : List (List UInt8)} (ha : MS w B v a) (hb : MS w B' v' b) (hB : B ≤ w.heap.size) (hB' : B' ≤ w.heap.size) (ra : RightM a) (rb : RightM b) (sa : Small a) (sb : Small b) :
    Calls Try.prog f_matrix_Mul #[v, v'] w fun en w' => ∃ r, en = .returned r ∧ (NewMat w.heap.size w' r (mulM a b) ∧ Fr No w w') := by
  obtain ⟨A, cp, rfl, hc, hr⟩ := ha.open
  obtain ⟨A', cp', rfl, hc', hr'⟩ := hb.open
  have pa := ra.pos
  have hah := sa.high
  have hbh := sb.high
  have pb := rb.pos
  obtain ⟨ad0, u0, rfl, had0, hcell0, hrow0⟩ := hr 0 pa
  obtain ⟨B0, c0, rfl, hc0, hr0⟩ := hrow0.open
  obtain ⟨bd0, x0, rfl, hbd0, hbcell0, hbrow0⟩ := hr' 0 pb
  obtain ⟨B1, c1, rfl, hc1, hr1⟩ := hbrow0.open
  have wa : a[0].length = width a := by rw [width, getD_of_lt [] pa]
  have wb : b[0].length = width b := by rw [width, getD_of_lt [] pb]
  have wb' : width b ≤ 1000 := by rw [← wb]; exact sb.wide _ (List.getElem_mem pb)
  refine calls_of_mf (args := [.slice (some ad0) a.length cp, .slice (some bd0) b.length cp']) c_matrix_Mul (by simp only [m_matrix_Mul, List.length]; decide) ?_
  by_cases hw : width a = b.length
  · rw [mulM, if_pos hw]
    rw [wa] at hcell0
    rw [wb] at hbcell0
    simp -dsimp (disch := omega) only [↓MC.wp, ↓opsWp, ↓drWp, ↓MOp.wp, evs, ev, eget, eput, eput?, pev, pbin, pint, pbool, pstr, psl, vnil, pbuild, overlay, ↓thenQ, ↓blockQ, ↓retQ, ↓resWp, tupV, stills, MOp.still, known, Op.operands, List.toList_toArray, argEnv, ekeep, one_int, one_bool, one_str, one_ptr, one_slice, one_func, one_nilf, one_nilc, one_iface, one_map, Chk_true, Chk_of, Br_true, Br_false, Br_pos, Br_neg, Br_npos, Br_nneg, beq_t, beq_f, not_not', dec_true, dec_false, not_t, not_f, pick_t, pick_f, take1, drop1, take0, drop0, arr_app, List.append_nil, bne_tt, bne_tf, bne_ft, bne_ff, beq_tt, beq_tf, beq_ft, beq_ff, dec_pos, dec_neg, Ld_some, wrap_i64, tdiv_pos, tmod_pos, Sl.add_lit, drew_cell, Nat.reduceAdd, Nat.zero_add, Nat.add_zero, Nat.mul_one, Nat.one_mul, Int.toNat_natCast, cells_int, cells_bool, cells_str, cells_ptr, cells_slice, cells_func, cells_nilf, cells_nilc, cells_iface, cells_map, cells_agg, size_one, toList_one, List.length_cons, List.length_nil, List.cons_append, List.nil_append, reduceCtorEq, and_self, and_true, true_and, if_true, if_false, ↓reduceIte, ne_eq, not_false_eq_true, not_true_eq_false, Option.isSome_some, Option.isSome_none, decide_true, decide_false, List.getElem?_toArray, List.getElem?_cons_zero, List.getElem?_cons_succ, Bool.and_true, Bool.and_self, Int.reduceEq, Int.reduceLT, Int.reduceLE, Int.reduceAdd, Int.reduceSub, Int.reduceMul, Int.reduceToNat, Nat.reduceMul, Nat.reduceLeDiff, Nat.le_refl, Nat.reduceLT, Nat.reduceSub, m_matrix_Mul, hcell0]
    refine call (new_calls w) ?_
    intro r w0 h1
    rw [h1.1]
    have hfa := h1.2.1
    have hf0 := h1.2.2
    clear h1
    simp -dsimp (disch := omega) only [↓MC.wp, ↓opsWp, ↓drWp, ↓MOp.wp, evs, ev, eget, eput, eput?, pev, pbin, pint, pbool, pstr, psl, vnil, pbuild, overlay, ↓thenQ, ↓blockQ, ↓retQ, ↓resWp, tupV, stills, MOp.still, known, Op.operands, List.toList_toArray, argEnv, ekeep, one_int, one_bool, one_str, one_ptr, one_slice, one_func, one_nilf, one_nilc, one_iface, one_map, Chk_true, Chk_of, Br_true, Br_false, Br_pos, Br_neg, Br_npos, Br_nneg, beq_t, beq_f, not_not', dec_true, dec_false, not_t, not_f, pick_t, pick_f, take1, drop1, take0, drop0, arr_app, List.append_nil, bne_tt, bne_tf, bne_ft, bne_ff, beq_tt, beq_tf, beq_ft, beq_ff, dec_pos, dec_neg, Ld_some, wrap_i64, tdiv_pos, tmod_pos, Sl.add_lit, drew_cell, Nat.reduceAdd, Nat.zero_add, Nat.add_zero, Nat.mul_one, Nat.one_mul, Int.toNat_natCast, cells_int, cells_bool, cells_str, cells_ptr, cells_slice, cells_func, cells_nilf, cells_nilc, cells_iface, cells_map, cells_agg, size_one, toList_one, List.length_cons, List.length_nil, List.cons_append, List.nil_append, reduceCtorEq, and_self, and_true, true_and, if_true, if_false, ↓reduceIte, ne_eq, not_false_eq_true, not_true_eq_false, Option.isSome_some, Option.isSome_none, decide_true, decide_false, List.getElem?_toArray, List.getElem?_cons_zero, List.getElem?_cons_succ, Bool.and_true, Bool.and_self, Int.reduceEq, Int.reduceLT, Int.reduceLE, Int.reduceAdd, Int.reduceSub, Int.reduceMul, Int.reduceToNat, Nat.reduceMul, Nat.reduceLeDiff, Nat.le_refl, Nat.reduceLT, Nat.reduceSub]
    refine loopS [1, 5, 6, 20, 21, 22] (fun s : Nat × Value => [(1, .slice (some bd0) b.length cp'), (5, .pointer (some ⟨w.heap.size, 0, none⟩)), (6, s.2), (20, .slice (some ad0) a.length cp), (21, .int .i64 a.length), (22, .int .i64 s.1)])
      (fun s w1 => s.1 ≤ a.length ∧ NewMat w0.heap.size w1 s.2 ((a.take s.1).map (fun r => rowAcc b r (width b) r.length)) ∧ Fr No w0 w1) (fun s _ => a.length - s.1) (0, .slice none 0 0) (by with_unfolding_all rfl) ⟨Nat.zero_le _, NewMat.nil _ _, Fr.refl _ _⟩ ?_
    rintro ⟨i, o⟩ w1 ⟨hi, ho, hf⟩
    dsimp only at hi ho ⊢
    have hfw : Fr No w w1 := hf0.then hf
    by_cases hlt : i < a.length
    · obtain ⟨ad, u, had', had, hcell, hrow⟩ := hr i hlt
      cases had'
      obtain ⟨B2, c2, rfl, hc2, hr2⟩ := hrow.open
      have hcell1 : w1.cell? (ad0.add i) = some (.slice B2 a[i].length c2) := by rw [hfw.cell (cell_block_lt hcell) (fun h => h)]; exact hcell
      have hbcell1 : w1.cell? (bd0.add 0) = some (.slice B1 (width b) c1) := by rw [hfw.cell (cell_block_lt hbcell0) (fun h => h)]; exact hbcell0
      have hwi : a[i].length = b.length := by rw [ra.all _ (List.getElem_mem hlt), hw]
      simp -dsimp (disch := omega) only [↓MC.wp, ↓opsWp, ↓drWp, ↓MOp.wp, evs, ev, eget, eput, eput?, pev, pbin, pint, pbool, pstr, psl, vnil, pbuild, overlay, ↓thenQ, ↓blockQ, ↓retQ, ↓resWp, tupV, stills, MOp.still, known, Op.operands, List.toList_toArray, argEnv, ekeep, one_int, one_bool, one_str, one_ptr, one_slice, one_func, one_nilf, one_nilc, one_iface, one_map, Chk_true, Chk_of, Br_true, Br_false, Br_pos, Br_neg, Br_npos, Br_nneg, beq_t, beq_f, not_not', dec_true, dec_false, not_t, not_f, pick_t, pick_f, take1, drop1, take0, drop0, arr_app, List.append_nil, bne_tt, bne_tf, bne_ft, bne_ff, beq_tt, beq_tf, beq_ft, beq_ff, dec_pos, dec_neg, Ld_some, wrap_i64, tdiv_pos, tmod_pos, Sl.add_lit, drew_cell, Nat.reduceAdd, Nat.zero_add, Nat.add_zero, Nat.mul_one, Nat.one_mul, Int.toNat_natCast, cells_int, cells_bool, cells_str, cells_ptr, cells_slice, cells_func, cells_nilf, cells_nilc, cells_iface, cells_map, cells_agg, size_one, toList_one, List.length_cons, List.length_nil, List.cons_append, List.nil_append, reduceCtorEq, and_self, and_true, true_and, if_true, if_false, ↓reduceIte, ne_eq, not_false_eq_true, not_true_eq_false, Option.isSome_some, Option.isSome_none, decide_true, decide_false, List.getElem?_toArray, List.getElem?_cons_zero, List.getElem?_cons_succ, Bool.and_true, Bool.and_self, Int.reduceEq, Int.reduceLT, Int.reduceLE, Int.reduceAdd, Int.reduceSub, Int.reduceMul, Int.reduceToNat, Nat.reduceMul, Nat.reduceLeDiff, Nat.le_refl, Nat.reduceLT, Nat.reduceSub, hcell1, hbcell1]
      refine mkB (n := width b) (by omega) ?_ ?_ ?_
      · with_unfolding_all rfl
      · with_unfolding_all rfl
      intro g w2 hg hrow2 hf2
      simp -dsimp (disch := omega) only [↓MC.wp, ↓opsWp, ↓drWp, ↓MOp.wp, evs, ev, eget, eput, eput?, pev, pbin, pint, pbool, pstr, psl, vnil, pbuild, overlay, ↓thenQ, ↓blockQ, ↓retQ, ↓resWp, tupV, stills, MOp.still, known, Op.operands, List.toList_toArray, argEnv, ekeep, one_int, one_bool, one_str, one_ptr, one_slice, one_func, one_nilf, one_nilc, one_iface, one_map, Chk_true, Chk_of, Br_true, Br_false, Br_pos, Br_neg, Br_npos, Br_nneg, beq_t, beq_f, not_not', dec_true, dec_false, not_t, not_f, pick_t, pick_f, take1, drop1, take0, drop0, arr_app, List.append_nil, bne_tt, bne_tf, bne_ft, bne_ff, beq_tt, beq_tf, beq_ft, beq_ff, dec_pos, dec_neg, Ld_some, wrap_i64, tdiv_pos, tmod_pos, Sl.add_lit, drew_cell, Nat.reduceAdd, Nat.zero_add, Nat.add_zero, Nat.mul_one, Nat.one_mul, Int.toNat_natCast, cells_int, cells_bool, cells_str, cells_ptr, cells_slice, cells_func, cells_nilf, cells_nilc, cells_iface, cells_map, cells_agg, size_one, toList_one, List.length_cons, List.length_nil, List.cons_append, List.nil_append, reduceCtorEq, and_self, and_true, true_and, if_true, if_false, ↓reduceIte, ne_eq, not_false_eq_true, not_true_eq_false, Option.isSome_some, Option.isSome_none, decide_true, decide_false, List.getElem?_toArray, List.getElem?_cons_zero, List.getElem?_cons_succ, Bool.and_true, Bool.and_self, Int.reduceEq, Int.reduceLT, Int.reduceLE, Int.reduceAdd, Int.reduceSub, Int.reduceMul, Int.reduceToNat, Nat.reduceMul, Nat.reduceLeDiff, Nat.le_refl, Nat.reduceLT, Nat.reduceSub]
      refine loopS [1, 5, 6, 9, 20, 21, 22, 31, 32, 33] (fun k : Nat => [(1, .slice (some bd0) b.length cp'), (5, .pointer (some ⟨w.heap.size, 0, none⟩)), (6, o), (9, .slice (some ⟨g, 0, none⟩) (width b) (width b)), (20, .slice (some ad0) a.length cp), (21, .int .i64 a.length), (22, .int .i64 i),
          (31, .slice B2 a[i].length c2), (32, .int .i64 a[i].length), (33, .int .i64 k)])
        (fun k w3 => k ≤ a[i].length ∧ Ow w3 5 1 (.slice (some ⟨g, 0, none⟩) (width b) (width b)) (width b) ((rowAcc b a[i] (width b) k).map U8) ∧ Fr No w1 w3) (fun k _ => a[i].length - k) 0 (by with_unfolding_all rfl) ⟨Nat.zero_le _, ?_, hf2⟩ ?_
      · have := hrow2.1
        rw [List.length_replicate] at this
        exact this
      · clear hrow2 hf2 w2
        rintro k w3 ⟨hk, hacc, hf3⟩
        have hfw3 : Fr No w w3 := hfw.then hf3
        by_cases hkl : k < a[i].length
        · obtain ⟨ad3, hB2, had3, hcell3⟩ := hr2 k hkl
          cases hB2
          have hkb : k < b.length := by omega
          obtain ⟨bd3, x3, hbd3', hbd3, hbcell3, hbrow3⟩ := hr' k hkb
          cases hbd3'
          have hcell4 : w3.cell? (ad3.add k) = some (U8 a[i][k]) := by rw [hfw3.cell (cell_block_lt hcell3) (fun h => h)]; exact hcell3
          have hbcell4 : w3.cell? (bd0.add k) = some x3 := by rw [hfw3.cell (cell_block_lt hbcell3) (fun h => h)]; exact hbcell3
          have hfa3 : FieldAt w3 w.heap.size := (hfa.fr hf fun h => h).fr hf3 fun h => h
          have hbrow4 : BS w3 B' x3 b[k] := hbrow3.fr hfw3 fun _ _ h => h
          have hsz := hfw3.size
          have hbl : b[k].length ≤ 1000 := sb.wide _ (List.getElem_mem hkb)
          simp -dsimp (disch := omega) only [↓MC.wp, ↓opsWp, ↓drWp, ↓MOp.wp, evs, ev, eget, eput, eput?, pev, pbin, pint, pbool, pstr, psl, vnil, pbuild, overlay, ↓thenQ, ↓blockQ, ↓retQ, ↓resWp, tupV, stills, MOp.still, known, Op.operands, List.toList_toArray, argEnv, ekeep, one_int, one_bool, one_str, one_ptr, one_slice, one_func, one_nilf, one_nilc, one_iface, one_map, Chk_true, Chk_of, Br_true, Br_false, Br_pos, Br_neg, Br_npos, Br_nneg, beq_t, beq_f, not_not', dec_true, dec_false, not_t, not_f, pick_t, pick_f, take1, drop1, take0, drop0, arr_app, List.append_nil, bne_tt, bne_tf, bne_ft, bne_ff, beq_tt, beq_tf, beq_ft, beq_ff, dec_pos, dec_neg, Ld_some, wrap_i64, tdiv_pos, tmod_pos, Sl.add_lit, drew_cell, Nat.reduceAdd, Nat.zero_add, Nat.add_zero, Nat.mul_one, Nat.one_mul, Int.toNat_natCast, cells_int, cells_bool, cells_str, cells_ptr, cells_slice, cells_func, cells_nilf, cells_nilc, cells_iface, cells_map, cells_agg, size_one, toList_one, List.length_cons, List.length_nil, List.cons_append, List.nil_append, reduceCtorEq, and_self, and_true, true_and, if_true, if_false, ↓reduceIte, ne_eq, not_false_eq_true, not_true_eq_false, Option.isSome_some, Option.isSome_none, decide_true, decide_false, List.getElem?_toArray, List.getElem?_cons_zero, List.getElem?_cons_succ, Bool.and_true, Bool.and_self, Int.reduceEq, Int.reduceLT, Int.reduceLE, Int.reduceAdd, Int.reduceSub, Int.reduceMul, Int.reduceToNat, Nat.reduceMul, Nat.reduceLeDiff, Nat.le_refl, Nat.reduceLT, Nat.reduceSub, hcell4, hbcell4]
          refine call (row_calls hfa3 a[i][k] hbrow4 (by omega) (by omega)) ?_
          intro r w4 h4
          have hr4 := h4.1
          have hf4 := h4.2
          clear h4
          simp -dsimp (disch := omega) only [↓MC.wp, ↓opsWp, ↓drWp, ↓MOp.wp, evs, ev, eget, eput, eput?, pev, pbin, pint, pbool, pstr, psl, vnil, pbuild, overlay, ↓thenQ, ↓blockQ, ↓retQ, ↓resWp, tupV, stills, MOp.still, known, Op.operands, List.toList_toArray, argEnv, ekeep, one_int, one_bool, one_str, one_ptr, one_slice, one_func, one_nilf, one_nilc, one_iface, one_map, Chk_true, Chk_of, Br_true, Br_false, Br_pos, Br_neg, Br_npos, Br_nneg, beq_t, beq_f, not_not', dec_true, dec_false, not_t, not_f, pick_t, pick_f, take1, drop1, take0, drop0, arr_app, List.append_nil, bne_tt, bne_tf, bne_ft, bne_ff, beq_tt, beq_tf, beq_ft, beq_ff, dec_pos, dec_neg, Ld_some, wrap_i64, tdiv_pos, tmod_pos, Sl.add_lit, drew_cell, Nat.reduceAdd, Nat.zero_add, Nat.add_zero, Nat.mul_one, Nat.one_mul, Int.toNat_natCast, cells_int, cells_bool, cells_str, cells_ptr, cells_slice, cells_func, cells_nilf, cells_nilc, cells_iface, cells_map, cells_agg, size_one, toList_one, List.length_cons, List.length_nil, List.cons_append, List.nil_append, reduceCtorEq, and_self, and_true, true_and, if_true, if_false, ↓reduceIte, ne_eq, not_false_eq_true, not_true_eq_false, Option.isSome_some, Option.isSome_none, decide_true, decide_false, List.getElem?_toArray, List.getElem?_cons_zero, List.getElem?_cons_succ, Bool.and_true, Bool.and_self, Int.reduceEq, Int.reduceLT, Int.reduceLE, Int.reduceAdd, Int.reduceSub, Int.reduceMul, Int.reduceToNat, Nat.reduceMul, Nat.reduceLeDiff, Nat.le_refl, Nat.reduceLT, Nat.reduceSub]
          have hgl : g < w3.heap.size := hacc.lt rfl
          have hbn : BN w4 g r (b[k].map (gmul a[i][k])) := Ow.bn hr4.1 fun e => by have := hr4.2 g e; omega
          have hacc4 : Ow w4 5 1 (.slice (some ⟨g, 0, none⟩) (rowAcc b a[i] (width b) k).length (width b)) (rowAcc b a[i] (width b) k).length ((rowAcc b a[i] (width b) k).map U8) := by
            rw [rowAcc_length]
            exact hacc.no hf4
          have hp := plus_calls hacc4 hbn (by rw [rowAcc_length, List.length_map, rb.all _ (List.getElem_mem hkb)]; exact Nat.le_refl _) (by rw [rowAcc_length]; omega)
          rw [rowAcc_length] at hp
          refine call hp ?_
          intro r5 w5 h5
          have hacc5 := h5.1
          have hf5 := h5.2
          clear h5
          simp -dsimp (disch := omega) only [↓MC.wp, ↓opsWp, ↓drWp, ↓MOp.wp, evs, ev, eget, eput, eput?, pev, pbin, pint, pbool, pstr, psl, vnil, pbuild, overlay, ↓thenQ, ↓blockQ, ↓retQ, ↓resWp, tupV, stills, MOp.still, known, Op.operands, List.toList_toArray, argEnv, ekeep, one_int, one_bool, one_str, one_ptr, one_slice, one_func, one_nilf, one_nilc, one_iface, one_map, Chk_true, Chk_of, Br_true, Br_false, Br_pos, Br_neg, Br_npos, Br_nneg, beq_t, beq_f, not_not', dec_true, dec_false, not_t, not_f, pick_t, pick_f, take1, drop1, take0, drop0, arr_app, List.append_nil, bne_tt, bne_tf, bne_ft, bne_ff, beq_tt, beq_tf, beq_ft, beq_ff, dec_pos, dec_neg, Ld_some, wrap_i64, tdiv_pos, tmod_pos, Sl.add_lit, drew_cell, Nat.reduceAdd, Nat.zero_add, Nat.add_zero, Nat.mul_one, Nat.one_mul, Int.toNat_natCast, cells_int, cells_bool, cells_str, cells_ptr, cells_slice, cells_func, cells_nilf, cells_nilc, cells_iface, cells_map, cells_agg, size_one, toList_one, List.length_cons, List.length_nil, List.cons_append, List.nil_append, reduceCtorEq, and_self, and_true, true_and, if_true, if_false, ↓reduceIte, ne_eq, not_false_eq_true, not_true_eq_false, Option.isSome_some, Option.isSome_none, decide_true, decide_false, List.getElem?_toArray, List.getElem?_cons_zero, List.getElem?_cons_succ, Bool.and_true, Bool.and_self, Int.reduceEq, Int.reduceLT, Int.reduceLE, Int.reduceAdd, Int.reduceSub, Int.reduceMul, Int.reduceToNat, Nat.reduceMul, Nat.reduceLeDiff, Nat.le_refl, Nat.reduceLT, Nat.reduceSub]
          refine ⟨k + 1, rfl, ⟨by omega, ?_, (hf3.then hf4).step hf5 fun c hc e => by omega⟩, by omega⟩
          rw [rowAcc, getD_of_lt [] hkb, getD_of_lt 0 hkl]
          exact hacc5
        · simp -dsimp (disch := omega) only [↓MC.wp, ↓opsWp, ↓drWp, ↓MOp.wp, evs, ev, eget, eput, eput?, pev, pbin, pint, pbool, pstr, psl, vnil, pbuild, overlay, ↓thenQ, ↓blockQ, ↓retQ, ↓resWp, tupV, stills, MOp.still, known, Op.operands, List.toList_toArray, argEnv, ekeep, one_int, one_bool, one_str, one_ptr, one_slice, one_func, one_nilf, one_nilc, one_iface, one_map, Chk_true, Chk_of, Br_true, Br_false, Br_pos, Br_neg, Br_npos, Br_nneg, beq_t, beq_f, not_not', dec_true, dec_false, not_t, not_f, pick_t, pick_f, take1, drop1, take0, drop0, arr_app, List.append_nil, bne_tt, bne_tf, bne_ft, bne_ff, beq_tt, beq_tf, beq_ft, beq_ff, dec_pos, dec_neg, Ld_some, wrap_i64, tdiv_pos, tmod_pos, Sl.add_lit, drew_cell, Nat.reduceAdd, Nat.zero_add, Nat.add_zero, Nat.mul_one, Nat.one_mul, Int.toNat_natCast, cells_int, cells_bool, cells_str, cells_ptr, cells_slice, cells_func, cells_nilf, cells_nilc, cells_iface, cells_map, cells_agg, size_one, toList_one, List.length_cons, List.length_nil, List.cons_append, List.nil_append, reduceCtorEq, and_self, and_true, true_and, if_true, if_false, ↓reduceIte, ne_eq, not_false_eq_true, not_true_eq_false, Option.isSome_some, Option.isSome_none, decide_true, decide_false, List.getElem?_toArray, List.getElem?_cons_zero, List.getElem?_cons_succ, Bool.and_true, Bool.and_self, Int.reduceEq, Int.reduceLT, Int.reduceLE, Int.reduceAdd, Int.reduceSub, Int.reduceMul, Int.reduceToNat, Nat.reduceMul, Nat.reduceLeDiff, Nat.le_refl, Nat.reduceLT, Nat.reduceSub, set_one]
          have hkk : k = a[i].length := by omega
          subst hkk
          refine new ?_
          intro b2 w4 hb2 hs4 hc4 hf4
          simp -dsimp (disch := omega) only [↓MC.wp, ↓opsWp, ↓drWp, ↓MOp.wp, evs, ev, eget, eput, eput?, pev, pbin, pint, pbool, pstr, psl, vnil, pbuild, overlay, ↓thenQ, ↓blockQ, ↓retQ, ↓resWp, tupV, stills, MOp.still, known, Op.operands, List.toList_toArray, argEnv, ekeep, one_int, one_bool, one_str, one_ptr, one_slice, one_func, one_nilf, one_nilc, one_iface, one_map, Chk_true, Chk_of, Br_true, Br_false, Br_pos, Br_neg, Br_npos, Br_nneg, beq_t, beq_f, not_not', dec_true, dec_false, not_t, not_f, pick_t, pick_f, take1, drop1, take0, drop0, arr_app, List.append_nil, bne_tt, bne_tf, bne_ft, bne_ff, beq_tt, beq_tf, beq_ft, beq_ff, dec_pos, dec_neg, Ld_some, wrap_i64, tdiv_pos, tmod_pos, Sl.add_lit, drew_cell, Nat.reduceAdd, Nat.zero_add, Nat.add_zero, Nat.mul_one, Nat.one_mul, Int.toNat_natCast, cells_int, cells_bool, cells_str, cells_ptr, cells_slice, cells_func, cells_nilf, cells_nilc, cells_iface, cells_map, cells_agg, size_one, toList_one, List.length_cons, List.length_nil, List.cons_append, List.nil_append, reduceCtorEq, and_self, and_true, true_and, if_true, if_false, ↓reduceIte, ne_eq, not_false_eq_true, not_true_eq_false, Option.isSome_some, Option.isSome_none, decide_true, decide_false, List.getElem?_toArray, List.getElem?_cons_zero, List.getElem?_cons_succ, Bool.and_true, Bool.and_self, Int.reduceEq, Int.reduceLT, Int.reduceLE, Int.reduceAdd, Int.reduceSub, Int.reduceMul, Int.reduceToNat, Nat.reduceMul, Nat.reduceLeDiff, Nat.le_refl, Nat.reduceLT, Nat.reduceSub]
          have hu : NewRow w1.heap.size w3 (.slice (some ⟨g, 0, none⟩) (width b) (width b)) (rowAcc b a[i] (width b) a[i].length) := by
            refine ⟨?_, fun c hc => by cases hc; exact Nat.le_of_eq hg.symm⟩
            rw [rowAcc_length]
            exact hacc
          have hi2 : ((a.take i).map (fun r => rowAcc b r (width b) r.length)).length ≤ 1000000 := by
            have := sa.high
            rw [List.length_map, List.length_take]; omega
          refine push_row ho hf hf3 hu hi2 hb2 hs4 hc4 hf4 ?_
          intro r' w' hr' hf'
          simp -dsimp (disch := omega) only [↓MC.wp, ↓opsWp, ↓drWp, ↓MOp.wp, evs, ev, eget, eput, eput?, pev, pbin, pint, pbool, pstr, psl, vnil, pbuild, overlay, ↓thenQ, ↓blockQ, ↓retQ, ↓resWp, tupV, stills, MOp.still, known, Op.operands, List.toList_toArray, argEnv, ekeep, one_int, one_bool, one_str, one_ptr, one_slice, one_func, one_nilf, one_nilc, one_iface, one_map, Chk_true, Chk_of, Br_true, Br_false, Br_pos, Br_neg, Br_npos, Br_nneg, beq_t, beq_f, not_not', dec_true, dec_false, not_t, not_f, pick_t, pick_f, take1, drop1, take0, drop0, arr_app, List.append_nil, bne_tt, bne_tf, bne_ft, bne_ff, beq_tt, beq_tf, beq_ft, beq_ff, dec_pos, dec_neg, Ld_some, wrap_i64, tdiv_pos, tmod_pos, Sl.add_lit, drew_cell, Nat.reduceAdd, Nat.zero_add, Nat.add_zero, Nat.mul_one, Nat.one_mul, Int.toNat_natCast, cells_int, cells_bool, cells_str, cells_ptr, cells_slice, cells_func, cells_nilf, cells_nilc, cells_iface, cells_map, cells_agg, size_one, toList_one, List.length_cons, List.length_nil, List.cons_append, List.nil_append, reduceCtorEq, and_self, and_true, true_and, if_true, if_false, ↓reduceIte, ne_eq, not_false_eq_true, not_true_eq_false, Option.isSome_some, Option.isSome_none, decide_true, decide_false, List.getElem?_toArray, List.getElem?_cons_zero, List.getElem?_cons_succ, Bool.and_true, Bool.and_self, Int.reduceEq, Int.reduceLT, Int.reduceLE, Int.reduceAdd, Int.reduceSub, Int.reduceMul, Int.reduceToNat, Nat.reduceMul, Nat.reduceLeDiff, Nat.le_refl, Nat.reduceLT, Nat.reduceSub]
          refine ⟨(i + 1, r'), rfl, ⟨by dsimp only; omega, ?_, hf'⟩, by dsimp only; omega⟩
          dsimp only
          rw [take_succ' hlt, List.map_append]
          exact hr'
    · simp -dsimp (disch := omega) only [↓MC.wp, ↓opsWp, ↓drWp, ↓MOp.wp, evs, ev, eget, eput, eput?, pev, pbin, pint, pbool, pstr, psl, vnil, pbuild, overlay, ↓thenQ, ↓blockQ, ↓retQ, ↓resWp, tupV, stills, MOp.still, known, Op.operands, List.toList_toArray, argEnv, ekeep, one_int, one_bool, one_str, one_ptr, one_slice, one_func, one_nilf, one_nilc, one_iface, one_map, Chk_true, Chk_of, Br_true, Br_false, Br_pos, Br_neg, Br_npos, Br_nneg, beq_t, beq_f, not_not', dec_true, dec_false, not_t, not_f, pick_t, pick_f, take1, drop1, take0, drop0, arr_app, List.append_nil, bne_tt, bne_tf, bne_ft, bne_ff, beq_tt, beq_tf, beq_ft, beq_ff, dec_pos, dec_neg, Ld_some, wrap_i64, tdiv_pos, tmod_pos, Sl.add_lit, drew_cell, Nat.reduceAdd, Nat.zero_add, Nat.add_zero, Nat.mul_one, Nat.one_mul, Int.toNat_natCast, cells_int, cells_bool, cells_str, cells_ptr, cells_slice, cells_func, cells_nilf, cells_nilc, cells_iface, cells_map, cells_agg, size_one, toList_one, List.length_cons, List.length_nil, List.cons_append, List.nil_append, reduceCtorEq, and_self, and_true, true_and, if_true, if_false, ↓reduceIte, ne_eq, not_false_eq_true, not_true_eq_false, Option.isSome_some, Option.isSome_none, decide_true, decide_false, List.getElem?_toArray, List.getElem?_cons_zero, List.getElem?_cons_succ, Bool.and_true, Bool.and_self, Int.reduceEq, Int.reduceLT, Int.reduceLE, Int.reduceAdd, Int.reduceSub, Int.reduceMul, Int.reduceToNat, Nat.reduceMul, Nat.reduceLeDiff, Nat.le_refl, Nat.reduceLT, Nat.reduceSub]
      have hin : i = a.length := by omega
      subst hin
      rw [List.take_length] at ho
      exact ⟨ho.mono hf0.size, hf0.then hf⟩
  · rw [mulM, if_neg hw]
    rw [wa] at hcell0
    simp -dsimp (disch := omega) only [↓MC.wp, ↓opsWp, ↓drWp, ↓MOp.wp, evs, ev, eget, eput, eput?, pev, pbin, pint, pbool, pstr, psl, vnil, pbuild, overlay, ↓thenQ, ↓blockQ, ↓retQ, ↓resWp, tupV, stills, MOp.still, known, Op.operands, List.toList_toArray, argEnv, ekeep, one_int, one_bool, one_str, one_ptr, one_slice, one_func, one_nilf, one_nilc, one_iface, one_map, Chk_true, Chk_of, Br_true, Br_false, Br_pos, Br_neg, Br_npos, Br_nneg, beq_t, beq_f, not_not', dec_true, dec_false, not_t, not_f, pick_t, pick_f, take1, drop1, take0, drop0, arr_app, List.append_nil, bne_tt, bne_tf, bne_ft, bne_ff, beq_tt, beq_tf, beq_ft, beq_ff, dec_pos, dec_neg, Ld_some, wrap_i64, tdiv_pos, tmod_pos, Sl.add_lit, drew_cell, Nat.reduceAdd, Nat.zero_add, Nat.add_zero, Nat.mul_one, Nat.one_mul, Int.toNat_natCast, cells_int, cells_bool, cells_str, cells_ptr, cells_slice, cells_func, cells_nilf, cells_nilc, cells_iface, cells_map, cells_agg, size_one, toList_one, List.length_cons, List.length_nil, List.cons_append, List.nil_append, reduceCtorEq, and_self, and_true, true_and, if_true, if_false, ↓reduceIte, ne_eq, not_false_eq_true, not_true_eq_false, Option.isSome_some, Option.isSome_none, decide_true, decide_false, List.getElem?_toArray, List.getElem?_cons_zero, List.getElem?_cons_succ, Bool.and_true, Bool.and_self, Int.reduceEq, Int.reduceLT, Int.reduceLE, Int.reduceAdd, Int.reduceSub, Int.reduceMul, Int.reduceToNat, Nat.reduceMul, Nat.reduceLeDiff, Nat.le_refl, Nat.reduceLT, Nat.reduceSub, m_matrix_Mul, hcell0]
    exact ⟨NewMat.nil _ _, Fr.refl _ _⟩
end Go.Proofs.Ytgpkbldlkadnjaa
end
section
/- Two matrices of one's own, side by side: their rows swapped, replaced, turned. -/
set_option linter.unusedVariables false
set_option linter.unusedSimpArgs false
set_option maxHeartbeats 3000000
attribute [local irreducible] Go.Sl.Chk Go.Sl.Br Go.Sl.Ld Go.Sl.Ldn Go.Sl.LdB Go.Sl.Stn Go.Sl.New Go.Sl.Run Go.Sl.RunU Go.Sl.RunX Go.Sl.Call Go.Sl.LoopK Go.Sl.RawK Go.Sl.Om Go.Sl.xpk Go.Sl.xgpk Go.Sl.xglk Go.Sl.DLd Go.Sl.DLdG Go.Sl.DBs Go.Sl.DCall Go.Sl.DApp Go.Sl.DGen Go.Sl.DGenU Go.Sl.DGC Go.Sl.DLoop Go.Sl.DRaw Go.Sl.DRet Go.Sl.Ent Go.Sl.dget Go.Sl.dv Go.Sl.ev Go.Sl.eget
namespace Go.Proofs.Ytgpkbldlkadnjaa
open Go Go.Sl Go.RowKit

/-- the places c and i swapped -/
def sig (c i j : Nat) : Nat := if j = i then c else if j = c then i else j
def swp {α : Type} (d : α) (l : List α) (c i : Nat) : List α := (l.set c (l.getD i d)).set i (l.getD c d)
theorem swp_length {α : Type} (d : α) (l : List α) (c i : Nat) : (swp d l c i).length = l.length := by simp [swp]
theorem swp_get {α : Type} (d : α) {l : List α} {c i : Nat} (hc : c < l.length) (hi : i < l.length) (j : Nat) : (swp d l c i)[j]? = l[sig c i j]? := by
  unfold swp sig
  rw [getD_of_lt d hc, getD_of_lt d hi]
  rw [List.getElem?_set, List.length_set]
  by_cases h1 : i = j
  · subst h1; rw [if_pos rfl, if_pos hi, if_pos rfl, List.getElem?_eq_getElem hc]
  · rw [if_neg h1, if_neg (fun e => h1 e.symm), List.getElem?_set]
    by_cases h2 : c = j
    · subst h2; rw [if_pos rfl, if_pos hc, if_pos rfl, List.getElem?_eq_getElem hi]
    · rw [if_neg h2, if_neg (fun e => h2 e.symm)]
theorem sig_inj {c i j k : Nat} (h : sig c i j = sig c i k) : j = k := by
  unfold sig at h
  split at h <;> split at h <;> (try split at h) <;> (try split at h) <;> omega
theorem sig_lt {c i j n : Nat} (hc : c < n) (hi : i < n) (hj : j < n) : sig c i j < n := by
  unfold sig; split; exact hc; split; exact hi; exact hj

theorem OM.at {w : World} {r : Value} {vs : List Value} {m : List (List UInt8)} (h : OM w r vs m) {j : Nat} (hj : j < m.length) : ∃ u, vs[j]? = some u ∧ Ow w 5 1 u m[j].length (m[j].map U8) ∧
    ∃ g cap, r = .slice (some ⟨g, 0, none⟩) m.length cap ∧ w.cell? ⟨g, j, none⟩ = some u := by
  have hv : vs[j]? = some (vs[j]'(by rw [h.len]; exact hj)) := List.getElem?_eq_getElem _
  refine ⟨_, hv, h.row j _ _ hv (List.getElem?_eq_getElem hj), ?_⟩
  rcases h.spine.form with ⟨_, hn, _⟩ | ⟨g, cap, cur, rfl, _⟩
  · omega
  · exact ⟨g, cap, rfl, h.spine.cellAt hv⟩
theorem OM.at' {w : World} {g k cap : Nat} {vs : List Value} {m : List (List UInt8)} (h : OM w (.slice (some ⟨g, 0, none⟩) k cap) vs m) {j : Nat} (hj : j < m.length) : ∃ u, vs[j]? = some u ∧ Ow w 5 1 u m[j].length (m[j].map U8) ∧
    w.cell? ⟨g, j, none⟩ = some u := by
  obtain ⟨u, h1, h2, g', cap', e, h3⟩ := h.at hj
  simp only [Value.slice.injEq, Option.some.injEq, Addr.mk.injEq] at e
  refine ⟨u, h1, h2, ?_⟩
  rw [e.1.1]
  exact h3
/-- a row that isn't empty, in memory -/
theorem Ow.posRow {w : World} {u : Value} {x : List UInt8} (h : Ow w 5 1 u x.length (x.map U8)) (hp : 0 < x.length) : ∃ g cap, u = .slice (some ⟨g, 0, none⟩) x.length cap ∧ ∀ j (hj : j < x.length), w.cell? ⟨g, j, none⟩ = some (U8 x[j]) := by
  rcases h.form with ⟨_, hn, _⟩ | ⟨g, cap, cur, rfl, _⟩
  · omega
  · exact ⟨g, cap, rfl, fun j hj => h.cellAt (by rw [List.getElem?_map, List.getElem?_eq_getElem hj]; rfl)⟩

/-- left and out -/
structure PM (w : World) (n : Nat) (rl : Value) (vl : List Value) (l : List (List UInt8)) (ro : Value) (vo : List Value) (o : List (List UInt8)) : Prop where
  left : OM w rl vl l
  out : OM w ro vo o
  dl : Dis rl vl
  do' : Dis ro vo
  apart : ∀ b, Has rl vl b → ¬ Has ro vo b
  ll : l.length = n
  lo : o.length = n
  wl : ∀ x ∈ l, x.length = n
  wo : ∀ x ∈ o, x.length = n
theorem PM.no {w w' : World} {n : Nat} {rl ro : Value} {vl vo : List Value} {l o : List (List UInt8)} (h : PM w n rl vl l ro vo o) (hf : Fr No w w') : PM w' n rl vl l ro vo o :=
  ⟨h.left.no hf, h.out.no hf, h.dl, h.do', h.apart, h.ll, h.lo, h.wl, h.wo⟩
/-- all of the blocks of the two -/
def Has2 (rl : Value) (vl : List Value) (ro : Value) (vo : List Value) (b : Nat) : Prop := Has rl vl b ∨ Has ro vo b

theorem mem_of_get {α : Type} {l l' : List α} {f : Nat → Nat} (h : ∀ j, l'[j]? = l[f j]?) {x : α} (hx : x ∈ l') : x ∈ l := by
  obtain ⟨j, hj⟩ := List.getElem?_of_mem hx
  rw [h j] at hj
  exact List.mem_of_getElem? hj
/-- a matrix, its rows in another order -/
theorem OM.reorder {w w' : World} {r : Value} {vs vs' : List Value} {m m' : List (List UInt8)} (h : OM w r vs m) (hd : Dis r vs) {f : Nat → Nat} (hv : ∀ j, vs'[j]? = vs[f j]?) (hm : ∀ j, m'[j]? = m[f j]?) (hlv : vs'.length = vs.length) (hlm : m'.length = m.length)
    (hsp : Ow w' 29 1 r m.length vs') (hf : Fr (fun b => r.ownBlock = some b) w w') : OM w' r vs' m' := by
  refine ⟨by rw [hlv, hlm]; exact h.len, by rw [hlm]; exact hsp, fun j u x hu hx => ?_⟩
  rw [hv] at hu
  rw [hm] at hx
  exact (h.row _ u x hu hx).fr hf fun b hb hr => hd.spine _ u b hu hb hr
theorem Dis.reorder {r : Value} {vs vs' : List Value} (hd : Dis r vs) {f : Nat → Nat} (hi : ∀ j k, f j = f k → j = k) (hv : ∀ j, vs'[j]? = vs[f j]?) : Dis r vs' :=
  ⟨fun j u b hu hb => by rw [hv] at hu; exact hd.spine _ u b hu hb, fun i j u v b hij hu hv' hb => by rw [hv] at hu hv'; exact hd.rows _ _ u v b (fun e => hij (hi _ _ e)) hu hv' hb⟩
theorem Has.reorder {r : Value} {vs vs' : List Value} {f : Nat → Nat} (hv : ∀ j, vs'[j]? = vs[f j]?) {b : Nat} (h : Has r vs' b) : Has r vs b := by
  rcases h with h | ⟨j, u, hu, hb⟩
  · exact .inl h
  · rw [hv] at hu; exact .inr ⟨_, u, hu, hb⟩
/-- both, two rows swapped -/
theorem PM.swap {w w' : World} {n : Nat} {rl ro : Value} {vl vo : List Value} {l o : List (List UInt8)} (h : PM w n rl vl l ro vo o) {c i : Nat} (hc : c < n) (hi : i < n)
    (hl : Ow w' 29 1 rl n (swp undef vl c i)) (ho : Ow w' 29 1 ro n (swp undef vo c i)) (hf : Fr (fun b => rl.ownBlock = some b ∨ ro.ownBlock = some b) w w') :
    PM w' n rl (swp undef vl c i) (swp [] l c i) ro (swp undef vo c i) (swp [] o c i) := by
  have hvl : vl.length = n := by rw [h.left.len]; exact h.ll
  have hvo : vo.length = n := by rw [h.out.len]; exact h.lo
  have e1 := swp_get undef (l := vl) (c := c) (i := i) (by omega) (by omega)
  have e2 := swp_get undef (l := vo) (c := c) (i := i) (by omega) (by omega)
  have e3 := swp_get [] (l := l) (c := c) (i := i) (by rw [h.ll]; exact hc) (by rw [h.ll]; exact hi)
  have e4 := swp_get [] (l := o) (c := c) (i := i) (by rw [h.lo]; exact hc) (by rw [h.lo]; exact hi)
  refine ⟨⟨by rw [swp_length, swp_length]; exact h.left.len, by rw [swp_length, h.ll]; exact hl, fun j u x hu hx => ?_⟩, ⟨by rw [swp_length, swp_length]; exact h.out.len, by rw [swp_length, h.lo]; exact ho, fun j u x hu hx => ?_⟩,
    h.dl.reorder (fun _ _ => sig_inj) e1, h.do'.reorder (fun _ _ => sig_inj) e2, fun b hb hb' => h.apart b (hb.reorder e1) (hb'.reorder e2),
    by rw [swp_length]; exact h.ll, by rw [swp_length]; exact h.lo, fun x hx => h.wl x (mem_of_get e3 hx), fun x hx => h.wo x (mem_of_get e4 hx)⟩
  · rw [e1] at hu
    rw [e3] at hx
    refine (h.left.row _ u x hu hx).fr hf fun b hb hr => ?_
    rcases hr with hr | hr
    · exact h.dl.spine _ u b hu hb hr
    · exact h.apart b (.inr ⟨_, u, hu, hb⟩) (.inl hr)
  · rw [e2] at hu
    rw [e4] at hx
    refine (h.out.row _ u x hu hx).fr hf fun b hb hr => ?_
    rcases hr with hr | hr
    · exact h.apart b (.inl hr) (.inr ⟨_, u, hu, hb⟩)
    · exact h.do'.spine _ u b hu hb hr

/-- a row replaced by a new one -/
theorem OM.put {w w' : World} {r u : Value} {vs : List Value} {m : List (List UInt8)} {x : List UInt8} {c : Nat} (h : OM w r vs m) (hd : Dis r vs) (hsp : Ow w' 29 1 r m.length (vs.set c u)) {M : Nat → Prop} (hf : Fr M w w') (hM : ∀ b, M b → ¬ ∃ (j : Nat) (v : Value), vs[j]? = some v ∧ v.ownBlock = some b)
    (hu : Ow w' 5 1 u x.length (x.map U8)) : OM w' r (vs.set c u) (m.set c x) := by
  refine ⟨by simp [h.len], by simpa using hsp, fun j v y hv hy => ?_⟩
  rw [List.getElem?_set] at hv hy
  by_cases hcj : c = j
  · subst hcj
    rw [if_pos rfl] at hv hy
    split at hv <;> split at hy <;> simp at hv hy
    subst hv
    subst hy
    exact hu
  · rw [if_neg hcj] at hv hy
    exact (h.row j v y hv hy).fr hf fun b hb hMb => hM b hMb ⟨j, v, hv, hb⟩
theorem Dis.put {r u : Value} {vs : List Value} {c : Nat} (hd : Dis r vs) (hu : ∀ b, u.ownBlock = some b → ¬ Has r vs b) : Dis r (vs.set c u) := by
  have key : ∀ (j : Nat) (v : Value), (vs.set c u)[j]? = some v → (j ≠ c ∧ vs[j]? = some v) ∨ (j = c ∧ v = u) := by
    intro j v hv
    rw [List.getElem?_set] at hv
    by_cases h : c = j
    · rw [if_pos h] at hv
      split at hv <;> simp at hv
      exact .inr ⟨h.symm, hv.symm⟩
    · rw [if_neg h] at hv; exact .inl ⟨fun e => h e.symm, hv⟩
  refine ⟨fun j v b hv hb hrb => ?_, fun i j v v' b hij hv hv' hb hb' => ?_⟩
  · rcases key j v hv with ⟨_, h⟩ | ⟨_, rfl⟩
    · exact hd.spine j v b h hb hrb
    · exact hu b hb (.inl hrb)
  · rcases key i v hv with ⟨_, h⟩ | ⟨e, rfl⟩ <;> rcases key j v' hv' with ⟨_, h'⟩ | ⟨e', rfl⟩
    · exact hd.rows i j v v' b hij h h' hb hb'
    · exact hu b hb' (.inr ⟨i, v, h, hb⟩)
    · exact hu b hb (.inr ⟨j, v', h', hb'⟩)
    · omega
theorem Has.put {r u : Value} {vs : List Value} {c b : Nat} (h : Has r (vs.set c u) b) : Has r vs b ∨ u.ownBlock = some b := by
  rcases h with h | ⟨j, v, hv, hb⟩
  · exact .inl (.inl h)
  · rw [List.getElem?_set] at hv
    by_cases hc : c = j
    · rw [if_pos hc] at hv
      split at hv <;> simp at hv
      subst hv
      exact .inr hb
    · rw [if_neg hc] at hv; exact .inl (.inr ⟨j, v, hv, hb⟩)
/-- a row turned where it lies -/
theorem OM.turn {w w' : World} {r u : Value} {vs : List Value} {m : List (List UInt8)} {x : List UInt8} {i g : Nat} (h : OM w r vs m) (hd : Dis r vs) (hv : vs[i]? = some u) (hg : u.ownBlock = some g) (hf : Fr (· = g) w w')
    (hu : Ow w' 5 1 u x.length (x.map U8)) : OM w' r vs (m.set i x) := by
  refine ⟨by simp [h.len], ?_, fun j v y hv' hy => ?_⟩
  · rw [List.length_set]
    exact h.spine.fr hf fun b hb e => by subst e; exact hd.spine i u b hv hg hb
  · rw [List.getElem?_set] at hy
    by_cases hij : i = j
    · subst hij
      rw [if_pos rfl] at hy
      rw [hv] at hv'
      split at hy <;> simp at hy hv'
      subst hv'
      subst hy
      exact hu
    · rw [if_neg hij] at hy
      exact (h.row j v y hv' hy).fr hf fun b hb e => by subst e; exact hd.rows i j u v b hij hv hv' hg hb
end Go.Proofs.Ytgpkbldlkadnjaa
end
section
/- Walks: pivot. -/
set_option linter.unusedVariables false
set_option linter.unusedSimpArgs false
set_option maxHeartbeats 3000000
attribute [local irreducible] Go.Sl.Chk Go.Sl.Br Go.Sl.Ld Go.Sl.Ldn Go.Sl.LdB Go.Sl.Stn Go.Sl.New Go.Sl.Run Go.Sl.RunU Go.Sl.RunX Go.Sl.Call Go.Sl.LoopK Go.Sl.RawK Go.Sl.Om Go.Sl.xpk Go.Sl.xgpk Go.Sl.xglk Go.Sl.DLd Go.Sl.DLdG Go.Sl.DBs Go.Sl.DCall Go.Sl.DApp Go.Sl.DGen Go.Sl.DGenU Go.Sl.DGC Go.Sl.DLoop Go.Sl.DRaw Go.Sl.DRet Go.Sl.Ent Go.Sl.dget Go.Sl.dv Go.Sl.ev Go.Sl.eget
namespace Go.Proofs.Ytgpkbldlkadnjaa
open Go Go.Sl Go.RowKit

def entry (l : List (List UInt8)) (i j : Nat) : UInt8 := (l.getD i []).getD j 0
theorem entry_eq {l : List (List UInt8)} {i j : Nat} (hi : i < l.length) (hj : j < l[i].length) : entry l i j = l[i][j] := by
  rw [entry, getD_of_lt [] hi, getD_of_lt 0 hj]
def findP (l : List (List UInt8)) (n c : Nat) : Option Nat := (List.range n).find? fun i => decide (c ≤ i) && (entry l i c != 0)
theorem findP_some {l : List (List UInt8)} {n c i : Nat} (hc : c ≤ i) (hi : i < n) (he : entry l i c ≠ 0) (hb : ∀ j, c ≤ j → j < i → entry l j c = 0) : findP l n c = some i := by
  rw [findP, List.find?_eq_some_iff_getElem]
  refine ⟨by simp [hc, he], i, by simpa using hi, by simp, fun j hj => ?_⟩
  simp only [List.getElem_range]
  by_cases h : c ≤ j
  · simp [h, hb j h hj]
  · simp [h]
theorem findP_none {l : List (List UInt8)} {n c : Nat} (hb : ∀ j, c ≤ j → j < n → entry l j c = 0) : findP l n c = none := by
  rw [findP, List.find?_eq_none]
  intro j hj
  rw [List.mem_range] at hj
  by_cases h : c ≤ j
  · simp [hb j h hj]
  · simp [h]
theorem Ow.one {w : World} {e : TypeId} {s n : Nat} {v : Value} {cs : List Value} (h : Ow w e s v n cs) : v.oneCell' = true := by
  rcases h.form with ⟨rfl, _⟩ | ⟨_, _, _, rfl, _⟩ <;> rfl
theorem Ow.drew {w : World} {e : TypeId} {s n : Nat} {v : Value} {cs : List Value} (h : Ow w e s v n cs) : Ow w.drew e s v n cs := h

theorem pivot_calls {w : World} {n : Nat} {rl ro : Value} {vl vo : List Value} {l o : List (List UInt8)} (h : PM w n rl vl l ro vo o) {c : Nat} (hc : c < n) (hn : n ≤ 1000) :
    Calls Try.prog f_matrix_pivot #[rl, ro, .int .i64 c] w fun en w' => ∃ r, en = .returned r ∧ ((findP l n c = none ∧ r = .bool false ∧ Fr No w w') ∨
      ∃ i, i < n ∧ findP l n c = some i ∧ r = .bool true ∧ PM w' n rl (swp undef vl c i) (swp [] l c i) ro (swp undef vo c i) (swp [] o c i) ∧ Fr (fun b => rl.ownBlock = some b ∨ ro.ownBlock = some b) w w') := by
  have hll := h.ll
  have hlo := h.lo
  obtain ⟨uc, huc, hrc, gl, capl, hrl, hcl⟩ := h.left.at (j := c) (by omega)
  obtain ⟨xc, hxc, hsc, go', capo, hro, hco⟩ := h.out.at (j := c) (by omega)
  rw [hll] at hrl
  rw [hlo] at hro
  subst hrl
  subst hro
  have hvl : vl.length = n := by rw [h.left.len]; exact hll
  have hvo : vo.length = n := by rw [h.out.len]; exact hlo
  refine calls_of_mf (args := [.slice (some ⟨gl, 0, none⟩) n capl, .slice (some ⟨go', 0, none⟩) n capo, .int .i64 c]) c_matrix_pivot (by simp only [m_matrix_pivot, List.length]; decide) ?_
  simp -dsimp (disch := omega) only [↓MC.wp, ↓opsWp, ↓drWp, ↓MOp.wp, evs, ev, eget, eput, eput?, pev, pbin, pint, pbool, pstr, psl, vnil, pbuild, overlay, ↓thenQ, ↓blockQ, ↓retQ, ↓resWp, tupV, stills, MOp.still, known, Op.operands, List.toList_toArray, argEnv, ekeep, one_int, one_bool, one_str, one_ptr, one_slice, one_func, one_nilf, one_nilc, one_iface, one_map, Chk_true, Chk_of, Br_true, Br_false, Br_pos, Br_neg, Br_npos, Br_nneg, beq_t, beq_f, not_not', dec_true, dec_false, not_t, not_f, pick_t, pick_f, take1, drop1, take0, drop0, arr_app, List.append_nil, bne_tt, bne_tf, bne_ft, bne_ff, beq_tt, beq_tf, beq_ft, beq_ff, dec_pos, dec_neg, Ld_some, wrap_i64, tdiv_pos, tmod_pos, Sl.add_lit, drew_cell, Nat.reduceAdd, Nat.zero_add, Nat.add_zero, Nat.mul_one, Nat.one_mul, Int.toNat_natCast, cells_int, cells_bool, cells_str, cells_ptr, cells_slice, cells_func, cells_nilf, cells_nilc, cells_iface, cells_map, cells_agg, size_one, toList_one, List.length_cons, List.length_nil, List.cons_append, List.nil_append, reduceCtorEq, and_self, and_true, true_and, if_true, if_false, ↓reduceIte, ne_eq, not_false_eq_true, not_true_eq_false, Option.isSome_some, Option.isSome_none, decide_true, decide_false, List.getElem?_toArray, List.getElem?_cons_zero, List.getElem?_cons_succ, Bool.and_true, Bool.and_self, Int.reduceEq, Int.reduceLT, Int.reduceLE, Int.reduceAdd, Int.reduceSub, Int.reduceMul, Int.reduceToNat, Nat.reduceMul, Nat.reduceLeDiff, Nat.le_refl, Nat.reduceLT, Nat.reduceSub, m_matrix_pivot]
  refine loopS [0, 1, 2, 7] (fun i : Nat => [(0, .slice (some ⟨gl, 0, none⟩) n capl), (1, .slice (some ⟨go', 0, none⟩) n capo), (2, .int .i64 c), (7, .int .i64 i)])
    (fun i w1 => c ≤ i ∧ i ≤ n ∧ (∀ j, c ≤ j → j < i → entry l j c = 0) ∧ Fr No w w1) (fun i _ => n - i) c (by with_unfolding_all rfl) ⟨Nat.le_refl _, by omega, fun j h1 h2 => by omega, Fr.refl _ _⟩ ?_
  rintro i w1 ⟨hci, hin, hz, hf⟩
  have h1 := h.no hf
  by_cases hlt : i < n
  · obtain ⟨ui, hui, hri, hci1⟩ := h1.left.at' (j := i) (by omega)
    obtain ⟨xi, hxi, hsi, hcx⟩ := h1.out.at' (j := i) (by omega)
    have hwi : l[i].length = n := h.wl _ (List.getElem_mem (by omega))
    obtain ⟨gi, capi, rfl, hcells⟩ := Ow.posRow hri (by omega)
    have hcell := hcells c (by omega)
    have hen : entry l i c = l[i][c] := entry_eq (by omega) (by omega)
    by_cases h0 : l[i][c].toNat = 0
    · simp -dsimp (disch := omega) only [↓MC.wp, ↓opsWp, ↓drWp, ↓MOp.wp, evs, ev, eget, eput, eput?, pev, pbin, pint, pbool, pstr, psl, vnil, pbuild, overlay, ↓thenQ, ↓blockQ, ↓retQ, ↓resWp, tupV, stills, MOp.still, known, Op.operands, List.toList_toArray, argEnv, ekeep, one_int, one_bool, one_str, one_ptr, one_slice, one_func, one_nilf, one_nilc, one_iface, one_map, Chk_true, Chk_of, Br_true, Br_false, Br_pos, Br_neg, Br_npos, Br_nneg, beq_t, beq_f, not_not', dec_true, dec_false, not_t, not_f, pick_t, pick_f, take1, drop1, take0, drop0, arr_app, List.append_nil, bne_tt, bne_tf, bne_ft, bne_ff, beq_tt, beq_tf, beq_ft, beq_ff, dec_pos, dec_neg, Ld_some, wrap_i64, tdiv_pos, tmod_pos, Sl.add_lit, drew_cell, Nat.reduceAdd, Nat.zero_add, Nat.add_zero, Nat.mul_one, Nat.one_mul, Int.toNat_natCast, cells_int, cells_bool, cells_str, cells_ptr, cells_slice, cells_func, cells_nilf, cells_nilc, cells_iface, cells_map, cells_agg, size_one, toList_one, List.length_cons, List.length_nil, List.cons_append, List.nil_append, reduceCtorEq, and_self, and_true, true_and, if_true, if_false, ↓reduceIte, ne_eq, not_false_eq_true, not_true_eq_false, Option.isSome_some, Option.isSome_none, decide_true, decide_false, List.getElem?_toArray, List.getElem?_cons_zero, List.getElem?_cons_succ, Bool.and_true, Bool.and_self, Int.reduceEq, Int.reduceLT, Int.reduceLE, Int.reduceAdd, Int.reduceSub, Int.reduceMul, Int.reduceToNat, Nat.reduceMul, Nat.reduceLeDiff, Nat.le_refl, Nat.reduceLT, Nat.reduceSub, hci1, hcell, U8]
      refine ⟨i + 1, rfl, ⟨by omega, by omega, fun j h2 h3 => ?_, hf⟩, by omega⟩
      by_cases hji : j < i
      · exact hz j h2 hji
      · have : j = i := by omega
        subst this
        rw [hen]
        exact (u8_zero _).1 h0
    · have hci2 : w1.cell? ⟨gl, c, none⟩ = some uc := by rw [hf.cell (cell_block_lt hcl) (fun h => h)]; exact hcl
      have hco2 : w1.cell? ⟨go', c, none⟩ = some xc := by rw [hf.cell (cell_block_lt hco) (fun h => h)]; exact hco
      have hne : gl ≠ go' := fun e => h.apart gl (.inl rfl) (.inl (by rw [e]; rfl))
      have hspl : Ow w1.drew 29 1 (.slice (some ⟨gl, 0, none⟩) n capl) n vl := by have := h1.left.spine; rw [hll] at this; exact this
      have hspo : Ow w1.drew 29 1 (.slice (some ⟨go', 0, none⟩) n capo) n vo := by have := h1.out.spine; rw [hlo] at this; exact this
      have o1 := Ow.one hrc
      have o2 := Ow.one hsi
      have o3 := Ow.one hsc
      simp -dsimp (disch := omega) only [↓MC.wp, ↓opsWp, ↓drWp, ↓MOp.wp, evs, ev, eget, eput, eput?, pev, pbin, pint, pbool, pstr, psl, vnil, pbuild, overlay, ↓thenQ, ↓blockQ, ↓retQ, ↓resWp, tupV, stills, MOp.still, known, Op.operands, List.toList_toArray, argEnv, ekeep, one_int, one_bool, one_str, one_ptr, one_slice, one_func, one_nilf, one_nilc, one_iface, one_map, Chk_true, Chk_of, Br_true, Br_false, Br_pos, Br_neg, Br_npos, Br_nneg, beq_t, beq_f, not_not', dec_true, dec_false, not_t, not_f, pick_t, pick_f, take1, drop1, take0, drop0, arr_app, List.append_nil, bne_tt, bne_tf, bne_ft, bne_ff, beq_tt, beq_tf, beq_ft, beq_ff, dec_pos, dec_neg, Ld_some, wrap_i64, tdiv_pos, tmod_pos, Sl.add_lit, drew_cell, Nat.reduceAdd, Nat.zero_add, Nat.add_zero, Nat.mul_one, Nat.one_mul, Int.toNat_natCast, cells_int, cells_bool, cells_str, cells_ptr, cells_slice, cells_func, cells_nilf, cells_nilc, cells_iface, cells_map, cells_agg, size_one, toList_one, List.length_cons, List.length_nil, List.cons_append, List.nil_append, reduceCtorEq, and_self, and_true, true_and, if_true, if_false, ↓reduceIte, ne_eq, not_false_eq_true, not_true_eq_false, Option.isSome_some, Option.isSome_none, decide_true, decide_false, List.getElem?_toArray, List.getElem?_cons_zero, List.getElem?_cons_succ, Bool.and_true, Bool.and_self, Int.reduceEq, Int.reduceLT, Int.reduceLE, Int.reduceAdd, Int.reduceSub, Int.reduceMul, Int.reduceToNat, Nat.reduceMul, Nat.reduceLeDiff, Nat.le_refl, Nat.reduceLT, Nat.reduceSub, hci1, hcell, hci2, U8]
      refine hspl.set (j := c) (v := .slice (some ⟨gi, 0, none⟩) l[i].length capi) hc rfl ?_
      intro w2 ho2 hf2 hs2
      simp -dsimp (disch := omega) only [↓MC.wp, ↓opsWp, ↓drWp, ↓MOp.wp, evs, ev, eget, eput, eput?, pev, pbin, pint, pbool, pstr, psl, vnil, pbuild, overlay, ↓thenQ, ↓blockQ, ↓retQ, ↓resWp, tupV, stills, MOp.still, known, Op.operands, List.toList_toArray, argEnv, ekeep, one_int, one_bool, one_str, one_ptr, one_slice, one_func, one_nilf, one_nilc, one_iface, one_map, Chk_true, Chk_of, Br_true, Br_false, Br_pos, Br_neg, Br_npos, Br_nneg, beq_t, beq_f, not_not', dec_true, dec_false, not_t, not_f, pick_t, pick_f, take1, drop1, take0, drop0, arr_app, List.append_nil, bne_tt, bne_tf, bne_ft, bne_ff, beq_tt, beq_tf, beq_ft, beq_ff, dec_pos, dec_neg, Ld_some, wrap_i64, tdiv_pos, tmod_pos, Sl.add_lit, drew_cell, Nat.reduceAdd, Nat.zero_add, Nat.add_zero, Nat.mul_one, Nat.one_mul, Int.toNat_natCast, cells_int, cells_bool, cells_str, cells_ptr, cells_slice, cells_func, cells_nilf, cells_nilc, cells_iface, cells_map, cells_agg, size_one, toList_one, List.length_cons, List.length_nil, List.cons_append, List.nil_append, reduceCtorEq, and_self, and_true, true_and, if_true, if_false, ↓reduceIte, ne_eq, not_false_eq_true, not_true_eq_false, Option.isSome_some, Option.isSome_none, decide_true, decide_false, List.getElem?_toArray, List.getElem?_cons_zero, List.getElem?_cons_succ, Bool.and_true, Bool.and_self, Int.reduceEq, Int.reduceLT, Int.reduceLE, Int.reduceAdd, Int.reduceSub, Int.reduceMul, Int.reduceToNat, Nat.reduceMul, Nat.reduceLeDiff, Nat.le_refl, Nat.reduceLT, Nat.reduceSub, o1]
      refine ho2.set (j := i) (v := uc) hlt (Ow.one hrc) ?_
      intro w3 ho3 hf3 hs3
      have hf13 : Fr (· = gl) w1.drew w3 := hf2.trans hf3
      have hspo3 : Ow w3.drew 29 1 (.slice (some ⟨go', 0, none⟩) n capo) n vo := Ow.fr hspo hf13.drew fun b hb (e : b = gl) => by cases hb; exact hne e.symm
      have hcx3 : w3.cell? ⟨go', i, none⟩ = some xi := by
        rw [hf13.cell (cell_block_lt hcx) fun (e : go' = gl) => hne e.symm]; exact hcx
      have hco3 : w3.cell? ⟨go', c, none⟩ = some xc := by
        rw [hf13.cell (cell_block_lt hco2) fun (e : go' = gl) => hne e.symm]; exact hco2
      simp -dsimp (disch := omega) only [↓MC.wp, ↓opsWp, ↓drWp, ↓MOp.wp, evs, ev, eget, eput, eput?, pev, pbin, pint, pbool, pstr, psl, vnil, pbuild, overlay, ↓thenQ, ↓blockQ, ↓retQ, ↓resWp, tupV, stills, MOp.still, known, Op.operands, List.toList_toArray, argEnv, ekeep, one_int, one_bool, one_str, one_ptr, one_slice, one_func, one_nilf, one_nilc, one_iface, one_map, Chk_true, Chk_of, Br_true, Br_false, Br_pos, Br_neg, Br_npos, Br_nneg, beq_t, beq_f, not_not', dec_true, dec_false, not_t, not_f, pick_t, pick_f, take1, drop1, take0, drop0, arr_app, List.append_nil, bne_tt, bne_tf, bne_ft, bne_ff, beq_tt, beq_tf, beq_ft, beq_ff, dec_pos, dec_neg, Ld_some, wrap_i64, tdiv_pos, tmod_pos, Sl.add_lit, drew_cell, Nat.reduceAdd, Nat.zero_add, Nat.add_zero, Nat.mul_one, Nat.one_mul, Int.toNat_natCast, cells_int, cells_bool, cells_str, cells_ptr, cells_slice, cells_func, cells_nilf, cells_nilc, cells_iface, cells_map, cells_agg, size_one, toList_one, List.length_cons, List.length_nil, List.cons_append, List.nil_append, reduceCtorEq, and_self, and_true, true_and, if_true, if_false, ↓reduceIte, ne_eq, not_false_eq_true, not_true_eq_false, Option.isSome_some, Option.isSome_none, decide_true, decide_false, List.getElem?_toArray, List.getElem?_cons_zero, List.getElem?_cons_succ, Bool.and_true, Bool.and_self, Int.reduceEq, Int.reduceLT, Int.reduceLE, Int.reduceAdd, Int.reduceSub, Int.reduceMul, Int.reduceToNat, Nat.reduceMul, Nat.reduceLeDiff, Nat.le_refl, Nat.reduceLT, Nat.reduceSub, hcx3, hco3, o2]
      refine hspo3.set (j := c) (v := xi) hc (Ow.one hsi) ?_
      intro w4 ho4 hf4 hs4
      simp -dsimp (disch := omega) only [↓MC.wp, ↓opsWp, ↓drWp, ↓MOp.wp, evs, ev, eget, eput, eput?, pev, pbin, pint, pbool, pstr, psl, vnil, pbuild, overlay, ↓thenQ, ↓blockQ, ↓retQ, ↓resWp, tupV, stills, MOp.still, known, Op.operands, List.toList_toArray, argEnv, ekeep, one_int, one_bool, one_str, one_ptr, one_slice, one_func, one_nilf, one_nilc, one_iface, one_map, Chk_true, Chk_of, Br_true, Br_false, Br_pos, Br_neg, Br_npos, Br_nneg, beq_t, beq_f, not_not', dec_true, dec_false, not_t, not_f, pick_t, pick_f, take1, drop1, take0, drop0, arr_app, List.append_nil, bne_tt, bne_tf, bne_ft, bne_ff, beq_tt, beq_tf, beq_ft, beq_ff, dec_pos, dec_neg, Ld_some, wrap_i64, tdiv_pos, tmod_pos, Sl.add_lit, drew_cell, Nat.reduceAdd, Nat.zero_add, Nat.add_zero, Nat.mul_one, Nat.one_mul, Int.toNat_natCast, cells_int, cells_bool, cells_str, cells_ptr, cells_slice, cells_func, cells_nilf, cells_nilc, cells_iface, cells_map, cells_agg, size_one, toList_one, List.length_cons, List.length_nil, List.cons_append, List.nil_append, reduceCtorEq, and_self, and_true, true_and, if_true, if_false, ↓reduceIte, ne_eq, not_false_eq_true, not_true_eq_false, Option.isSome_some, Option.isSome_none, decide_true, decide_false, List.getElem?_toArray, List.getElem?_cons_zero, List.getElem?_cons_succ, Bool.and_true, Bool.and_self, Int.reduceEq, Int.reduceLT, Int.reduceLE, Int.reduceAdd, Int.reduceSub, Int.reduceMul, Int.reduceToNat, Nat.reduceMul, Nat.reduceLeDiff, Nat.le_refl, Nat.reduceLT, Nat.reduceSub, o3]
      refine ho4.set (j := i) (v := xc) hlt (Ow.one hsc) ?_
      intro w5 ho5 hf5 hs5
      simp -dsimp (disch := omega) only [↓MC.wp, ↓opsWp, ↓drWp, ↓MOp.wp, evs, ev, eget, eput, eput?, pev, pbin, pint, pbool, pstr, psl, vnil, pbuild, overlay, ↓thenQ, ↓blockQ, ↓retQ, ↓resWp, tupV, stills, MOp.still, known, Op.operands, List.toList_toArray, argEnv, ekeep, one_int, one_bool, one_str, one_ptr, one_slice, one_func, one_nilf, one_nilc, one_iface, one_map, Chk_true, Chk_of, Br_true, Br_false, Br_pos, Br_neg, Br_npos, Br_nneg, beq_t, beq_f, not_not', dec_true, dec_false, not_t, not_f, pick_t, pick_f, take1, drop1, take0, drop0, arr_app, List.append_nil, bne_tt, bne_tf, bne_ft, bne_ff, beq_tt, beq_tf, beq_ft, beq_ff, dec_pos, dec_neg, Ld_some, wrap_i64, tdiv_pos, tmod_pos, Sl.add_lit, drew_cell, Nat.reduceAdd, Nat.zero_add, Nat.add_zero, Nat.mul_one, Nat.one_mul, Int.toNat_natCast, cells_int, cells_bool, cells_str, cells_ptr, cells_slice, cells_func, cells_nilf, cells_nilc, cells_iface, cells_map, cells_agg, size_one, toList_one, List.length_cons, List.length_nil, List.cons_append, List.nil_append, reduceCtorEq, and_self, and_true, true_and, if_true, if_false, ↓reduceIte, ne_eq, not_false_eq_true, not_true_eq_false, Option.isSome_some, Option.isSome_none, decide_true, decide_false, List.getElem?_toArray, List.getElem?_cons_zero, List.getElem?_cons_succ, Bool.and_true, Bool.and_self, Int.reduceEq, Int.reduceLT, Int.reduceLE, Int.reduceAdd, Int.reduceSub, Int.reduceMul, Int.reduceToNat, Nat.reduceMul, Nat.reduceLeDiff, Nat.le_refl, Nat.reduceLT, Nat.reduceSub]
      right
      have hf35 : Fr (· = go') w3.drew w5 := hf4.trans hf5
      have hfw : Fr (fun b => b = gl ∨ b = go') w w5 :=
        (hf.wide.step (hf13.of_drew) fun b _ e => .inl e).step (hf35.of_drew) fun b _ e => .inr e
      have hfw' : Fr (fun b => (Value.slice (some ⟨gl, 0, none⟩) n capl).ownBlock = some b ∨ (Value.slice (some ⟨go', 0, none⟩) n capo).ownBlock = some b) w w5 :=
        hfw.mono fun b _ e => by rcases e with rfl | rfl; exact .inl rfl; exact .inr rfl
      refine ⟨i, hlt, findP_some hci hlt (by rw [hen]; exact fun e => h0 ((u8_zero _).2 e)) hz, ?_, hfw'⟩
      refine h.swap hc hlt ?_ ?_ hfw'
      · have e : swp undef vl c i = (vl.set c (.slice (some ⟨gi, 0, none⟩) l[i].length capi)).set i uc := by
          rw [swp, List.getD_eq_getElem?_getD, hui, List.getD_eq_getElem?_getD, huc]; rfl
        rw [e]
        exact Ow.fr ho3 hf35.of_drew fun b hb (e : b = go') => by cases hb; exact hne e
      · have e : swp undef vo c i = (vo.set c xi).set i xc := by
          rw [swp, List.getD_eq_getElem?_getD, hxi, List.getD_eq_getElem?_getD, hxc]; rfl
        rw [e]
        exact ho5
  · simp -dsimp (disch := omega) only [↓MC.wp, ↓opsWp, ↓drWp, ↓MOp.wp, evs, ev, eget, eput, eput?, pev, pbin, pint, pbool, pstr, psl, vnil, pbuild, overlay, ↓thenQ, ↓blockQ, ↓retQ, ↓resWp, tupV, stills, MOp.still, known, Op.operands, List.toList_toArray, argEnv, ekeep, one_int, one_bool, one_str, one_ptr, one_slice, one_func, one_nilf, one_nilc, one_iface, one_map, Chk_true, Chk_of, Br_true, Br_false, Br_pos, Br_neg, Br_npos, Br_nneg, beq_t, beq_f, not_not', dec_true, dec_false, not_t, not_f, pick_t, pick_f, take1, drop1, take0, drop0, arr_app, List.append_nil, bne_tt, bne_tf, bne_ft, bne_ff, beq_tt, beq_tf, beq_ft, beq_ff, dec_pos, dec_neg, Ld_some, wrap_i64, tdiv_pos, tmod_pos, Sl.add_lit, drew_cell, Nat.reduceAdd, Nat.zero_add, Nat.add_zero, Nat.mul_one, Nat.one_mul, Int.toNat_natCast, cells_int, cells_bool, cells_str, cells_ptr, cells_slice, cells_func, cells_nilf, cells_nilc, cells_iface, cells_map, cells_agg, size_one, toList_one, List.length_cons, List.length_nil, List.cons_append, List.nil_append, reduceCtorEq, and_self, and_true, true_and, if_true, if_false, ↓reduceIte, ne_eq, not_false_eq_true, not_true_eq_false, Option.isSome_some, Option.isSome_none, decide_true, decide_false, List.getElem?_toArray, List.getElem?_cons_zero, List.getElem?_cons_succ, Bool.and_true, Bool.and_self, Int.reduceEq, Int.reduceLT, Int.reduceLE, Int.reduceAdd, Int.reduceSub, Int.reduceMul, Int.reduceToNat, Nat.reduceMul, Nat.reduceLeDiff, Nat.le_refl, Nat.reduceLT, Nat.reduceSub]
    left
    have : i = n := by omega
    subst this
    exact ⟨findP_none fun j h2 h3 => hz j h2 h3, hf⟩
end Go.Proofs.Ytgpkbldlkadnjaa
end
