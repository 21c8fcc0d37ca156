/- Walks: the reference's Right, Few, Same. -/
import Derived.Test.YtgpkbldlkadnjaaGreatJ3
import Derived.Test.YtgpkbldlkadnjaaGreatJ2
import Derived.RangeFuncBox
import Derived.RangeFuncLeaves
import Derived.RangeFuncFrom
import Derived.WalkKit
import Derived.OwnWalkIn
import Derived.TacticsInMore
import Derived.LoopNIn
import Derived.LoopIn
set_option linter.unusedVariables false
set_option linter.unusedSimpArgs false
section
set_option maxHeartbeats 3000000
attribute [local irreducible] Go.Sl.Chk Go.Sl.Br Go.Sl.Ld Go.Sl.Ldn Go.Sl.LdB Go.Sl.Stn Go.Sl.New Go.Sl.Run Go.Sl.Ec Go.Sl.D9 Go.Sl.Call Go.Sl.Cc Go.Sl.Ed Go.Sl.Alt Go.Sl.ev Go.Sl.Am
namespace Go.Proofs.YtgpkbldlkadnjaaGreat
open Go Go.Sl Go.RowKit
theorem MS.drew {w : World} {B : Nat} {v : Value} {m : LL} (h : MS w B v m) : MS w.drew B v m := h
theorem Ae1 {m : LL} (h : Me m = true) : Ea m := by
 rw [Me, Bool.and_eq_true, Bool.and_eq_true] at h
 refine ⟨by simpa using h.1, by simpa using h.2.1, fun x hx => ?_⟩
 have := List.all_eq_true.1 h.2.2 x hx
 simpa using this
theorem Qi {wb w : World} {o : Value} {xs : List UInt8} {x : UInt8} (ho : H8 wb.heap.size w o xs) (hwb : Fr No wb w) (hl : xs.length ≤ 1000000) {b2 c : Nat} {w2 : World}
  (hc2 : w2.heap[b2]? = some (.cells #[U8 x] 5 (0, 0))) (hf2 : Fr No w w2) {K : Value → World → Prop} {tg : BQ K}
  (k : ∀ r' w', H8 wb.heap.size w' r' (xs ++ [x]) → Fr No wb w' → K r' w') :
  Run Tryz.prog (Builtin.append_ #[31, 31] 31 #[o, .slice (some ⟨b2, 0, none⟩) 1 c]) w2 K tg := by
 have ho2 := Ow.no ho.1 hf2
 have hsz := hwb.size
 have hsz2 := hf2.size
 refine app elB ho2 (m := 1) (Vq hc2 c) rfl ?_ (by omega) (by omega) fun v4 w4 ho4 hf4 hat => ?_
 ·intro u hu; simp at hu; subst hu; rfl
 ·refine k v4 w4 ⟨?_, ?_⟩ ((hwb.then hf2).own ho.2 hf4)
  ·have e : (xs ++ [x]).length = xs.length + 1 := by simp
   rw [e, List.map_append]
   exact ho4
  ·exact ho.2.app (by omega) hat
theorem H8.nil (B : Nat) (w : World) : H8 B w (.slice none 0 0) [] := ⟨Ow.nil w 5 1, NM.nil _⟩

def Hw (k i j : Nat) : UInt8 := if k ≤ i then Zh (UInt8.ofNat (i ^^^ j)) else if i = j then 1 else 0
def Qh (k n : Nat) : LL := (List.range n).map fun i => (List.range k).map (Hw k i)

theorem XT {w : World} (k n : Nat) (hk : k ≤ 1000) (hn : n ≤ 1000) :
  Calls Tryz.prog JW #[.int .i64 k, .int .i64 n] w fun en w' => ∃ r, en = .returned r ∧ (Dh w.heap.size w' r (Qh k n) ∧ Fr No w w') := by
 refine Ci (args := [.int .i64 k, .int .i64 n]) Xw (by simp only [m_ref04_Coding, List.length]; decide) ?_
 simp only [m_ref04_Coding]; refine WS ?_; try with_reducible exact trivial
 refine JF [0, 1, 5, 6] (fun s : Nat × Value => [(0, .int .i64 k), (1, .int .i64 n), (5, s.2), (6, .int .i64 s.1)])
  (fun s w1 => s.1 ≤ n ∧ Dh w.heap.size w1 s.2 ((List.range s.1).map fun i => (List.range k).map (Hw k i)) ∧ Fr No w w1) (fun s _ => n - s.1) (0, .slice none 0 0) (by with_unfolding_all rfl) ⟨Nat.zero_le _, Dh.nil _ _, Fr.refl _ _⟩ ?_
 rintro ⟨i, o⟩ w1 ⟨hi, ho, hf⟩
 dsimp only at hi ho ⊢
 by_cases hlt : i < n
 ·refine WS ?_; try with_reducible exact trivial
  refine JF [0, 1, 5, 6, 7, 8] (fun s : Nat × Value => [(0, .int .i64 k), (1, .int .i64 n), (5, o), (6, .int .i64 i), (7, s.2), (8, .int .i64 s.1)])
   (fun s w3 => s.1 ≤ k ∧ H8 w1.heap.size w3 s.2 ((List.range s.1).map (Hw k i)) ∧ Fr No w1 w3) (fun s _ => k - s.1) (0, .slice none 0 0) (by with_unfolding_all rfl) ⟨Nat.zero_le _, H8.nil _ _, Fr.refl _ _⟩ ?_
  rintro ⟨j, row⟩ w3 ⟨hj, hrow, hf3⟩
  dsimp only at hj hrow ⊢
  by_cases hjl : j < k
  ·have hlen : ((List.range j).map (Hw k i)).length ≤ 1000000 := by rw [List.length_map, List.length_range]; omega
   have hnext : (List.range (j + 1)).map (Hw k i) = (List.range j).map (Hw k i) ++ [Hw k i j] := by rw [List.range_succ, List.map_append]; rfl
   by_cases hik : k ≤ i
   ·by_cases hij : i = j
    ·omega
    ·simp -dsimp (disch := omega) only [↓MC.wp, ↓BD, ↓CV, ↓MOp.wp, evs, ev, Am, BZ, BF, pev, Bl, Bv, Aq, Bz, psl, Ba, Aw, Ag, ↓BM, ↓AP, ↓DK, ↓Bf, Dy, Az, MOp.still, known, Op.operands, AA, A7, Nat.reduceAdd, reduceCtorEq, if_true, if_false, ↓reduceIte, ne_eq, Int.reduceEq, Int.reduceLT, Int.reduceLE, Int.reduceAdd, Int.reduceSub, Int.reduceMul, Int.reduceToNat, Nat.reduceMul, Nat.reduceLeDiff, Nat.reduceLT, Nat.reduceSub, WB, NP, PY]
     refine call (Ada (UInt8.ofNat (i ^^^ j))) ?_
     intro r w4 h4
     rw [h4.1]
     have hf4 := h4.2
     simp -dsimp (disch := omega) only [↓MC.wp, ↓BD, ↓CV, ↓MOp.wp, evs, ev, Am, BZ, BF, pev, Bl, Bv, Aq, Bz, psl, Ba, Aw, Ag, ↓BM, ↓AP, ↓DK, ↓Bf, Dy, Az, MOp.still, known, Op.operands, AA, A7, Nat.reduceAdd, reduceCtorEq, if_true, if_false, ↓reduceIte, ne_eq, Int.reduceEq, Int.reduceLT, Int.reduceLE, Int.reduceAdd, Int.reduceSub, Int.reduceMul, Int.reduceToNat, Nat.reduceMul, Nat.reduceLeDiff, Nat.reduceLT, Nat.reduceSub, WB, U8, KE]
     refine new ?_
     intro b2 w5 hb5 hs5 hc5 hf5
     refine WS ?_; try with_reducible exact trivial
     refine Qi (x := Zh (UInt8.ofNat (i ^^^ j))) (hrow.no hf4) (hf3.then hf4) hlen hc5 hf5 ?_
     intro r' w6 hr6 hf6
     refine WS ?_; try with_reducible exact trivial
     refine ⟨(j + 1, r'), rfl, ⟨by dsimp only; omega, ?_, hf6⟩, by dsimp only; omega⟩
     dsimp only
     rw [hnext, show Hw k i j = Zh (UInt8.ofNat (i ^^^ j)) from by rw [Hw, if_pos hik]]
     exact hr6
   ·by_cases hij : i = j
    ·simp -dsimp (disch := omega) only [↓MC.wp, ↓BD, ↓CV, ↓MOp.wp, evs, ev, Am, BZ, BF, pev, Bl, Bv, Aq, Bz, psl, Ba, Aw, Ag, ↓BM, ↓AP, ↓DK, ↓Bf, Dy, Az, MOp.still, known, Op.operands, AA, A7, Nat.reduceAdd, reduceCtorEq, if_true, if_false, ↓reduceIte, ne_eq, Int.reduceEq, Int.reduceLT, Int.reduceLE, Int.reduceAdd, Int.reduceSub, Int.reduceMul, Int.reduceToNat, Nat.reduceMul, Nat.reduceLeDiff, Nat.reduceLT, Nat.reduceSub, WB, KE]
     refine new ?_
     intro b2 w5 hb5 hs5 hc5 hf5
     refine WS ?_; try with_reducible exact trivial
     refine Qi (x := 1) hrow hf3 hlen hc5 hf5 ?_
     intro r' w6 hr6 hf6
     refine WS ?_; try with_reducible exact trivial
     refine ⟨(j + 1, r'), rfl, ⟨by dsimp only; omega, ?_, hf6⟩, by dsimp only; omega⟩
     dsimp only
     rw [hnext, show Hw k i j = 1 from by rw [Hw, if_neg hik, if_pos hij]]
     exact hr6
    ·simp -dsimp (disch := omega) only [↓MC.wp, ↓BD, ↓CV, ↓MOp.wp, evs, ev, Am, BZ, BF, pev, Bl, Bv, Aq, Bz, psl, Ba, Aw, Ag, ↓BM, ↓AP, ↓DK, ↓Bf, Dy, Az, MOp.still, known, Op.operands, AA, A7, Nat.reduceAdd, reduceCtorEq, if_true, if_false, ↓reduceIte, ne_eq, Int.reduceEq, Int.reduceLT, Int.reduceLE, Int.reduceAdd, Int.reduceSub, Int.reduceMul, Int.reduceToNat, Nat.reduceMul, Nat.reduceLeDiff, Nat.reduceLT, Nat.reduceSub, WB, KE]
     refine new ?_
     intro b2 w5 hb5 hs5 hc5 hf5
     refine WS ?_; try with_reducible exact trivial
     refine Qi (x := 0) hrow hf3 hlen hc5 hf5 ?_
     intro r' w6 hr6 hf6
     refine WS ?_; try with_reducible exact trivial
     refine ⟨(j + 1, r'), rfl, ⟨by dsimp only; omega, ?_, hf6⟩, by dsimp only; omega⟩
     dsimp only
     rw [hnext, show Hw k i j = 0 from by rw [Hw, if_neg hik, if_neg hij]]
     exact hr6
  ·have hc1 := Ow.cells1 hrow.1
   simp -dsimp (disch := omega) only [↓MC.wp, ↓BD, ↓CV, ↓MOp.wp, evs, ev, Am, BZ, BF, pev, Bl, Bv, Aq, Bz, psl, Ba, Aw, Ag, ↓BM, ↓AP, ↓DK, ↓Bf, Dy, Az, MOp.still, known, Op.operands, AA, A7, Nat.reduceAdd, reduceCtorEq, if_true, if_false, ↓reduceIte, ne_eq, Int.reduceEq, Int.reduceLT, Int.reduceLE, Int.reduceAdd, Int.reduceSub, Int.reduceMul, Int.reduceToNat, Nat.reduceMul, Nat.reduceLeDiff, Nat.reduceLT, Nat.reduceSub, WB, hc1, KE]
   have hjk : j = k := by omega
   subst hjk
   refine new ?_
   intro b2 w4 hb2 hs4 hc4 hf4
   refine WS ?_; try with_reducible exact trivial
   have hlen : ((List.range i).map fun i => (List.range j).map (Hw j i)).length ≤ 1000000 := by rw [List.length_map, List.length_range]; omega
   refine NT ho hf hf3 hrow hlen hb2 hs4 hc4 hf4 ?_
   intro r' w' hr' hf'
   refine WS ?_; try with_reducible exact trivial
   refine ⟨(i + 1, r'), rfl, ⟨by dsimp only; omega, ?_, hf'⟩, by dsimp only; omega⟩
   dsimp only
   rw [List.range_succ, List.map_append]
   exact hr'
 ·refine WS ?_; try with_reducible exact trivial
  have hin : i = n := by omega
  subst hin
  exact ⟨ho, hf⟩

def Su (r : List UInt8) (b : LL) (j : Nat) : Nat → UInt8
 | 0 => 0
 | k + 1 => Su r b j k ^^^ Po (r.getD k 0) (entry b k j)
def rrow (r : List UInt8) (b : LL) : List UInt8 := (List.range (width b)).map fun j => Su r b j b.length
def UL (a b : LL) : LL := if width a = b.length then a.map (fun r => rrow r b) else []

theorem Abd {w : World} {B B' : Nat} {v v' : Value} {a b : LL} (ha : MS w B v a) (hb : MS w B' v' b) (ra : Ea a) (rb : Ea b) (sa : Nw a) (sb : Nw b) :
  Calls Tryz.prog Nj #[v, v'] w fun en w' => ∃ r, en = .returned r ∧ (Dh w.heap.size w' r (UL a b) ∧ Fr No w w') := by
 obtain ⟨A, c, rfl⟩ := MS.form ha
 obtain ⟨A', c', rfl⟩ := MS.form hb
 have pa := ra.pos
 have pb := rb.pos
 have hah := sa.high
 have hbh := sb.high
 obtain ⟨ad, A0, c0, rfl, hcell0, _⟩ := MS.row ha pa
 obtain ⟨bd, B0, d0, rfl, hbcell0, _⟩ := MS.row hb pb
 rw [Pe pa] at hcell0
 rw [Pe pb] at hbcell0
 have wb' : width b ≤ 1000 := by rw [← Pe pb]; exact sb.wide _ (List.getElem_mem pb)
 refine Ci (args := [.slice (some ad) a.length c, .slice (some bd) b.length c']) Acl (by simp only [m_ref04_Mul, List.length]; decide) ?_
 by_cases hw : width a = b.length
 ·rw [UL, if_pos hw]
  simp -dsimp (disch := omega) only [↓MC.wp, ↓BD, ↓CV, ↓MOp.wp, evs, ev, Am, BZ, BF, pev, Bl, Bv, Aq, Bz, psl, Ba, Aw, Ag, ↓BM, ↓AP, ↓DK, ↓Bf, Dy, Az, MOp.still, known, Op.operands, AA, A7, Nat.reduceAdd, reduceCtorEq, if_true, if_false, ↓reduceIte, ne_eq, Int.reduceEq, Int.reduceLT, Int.reduceLE, Int.reduceAdd, Int.reduceSub, Int.reduceMul, Int.reduceToNat, Nat.reduceMul, Nat.reduceLeDiff, Nat.reduceLT, Nat.reduceSub, WB, m_ref04_Mul, hcell0]
  refine JF [0, 1, 5, 6] (fun s : Nat × Value => [(0, .slice (some ad) a.length c), (1, .slice (some bd) b.length c'), (5, s.2), (6, .int .i64 s.1)])
   (fun s w1 => s.1 ≤ a.length ∧ Dh w.heap.size w1 s.2 ((a.take s.1).map (fun r => rrow r b)) ∧ Fr No w w1) (fun s _ => a.length - s.1) (0, .slice none 0 0) (by with_unfolding_all rfl) ⟨Nat.zero_le _, Dh.nil _ _, Fr.refl _ _⟩ ?_
  rintro ⟨i, o⟩ w1 ⟨hi, ho, hf⟩
  dsimp only at hi ho ⊢
  by_cases hlt : i < a.length
  ·obtain ⟨ad', A2, c2, e2, hcelli, hrowi⟩ := MS.row ha hlt
   cases e2
   have hwi : a[i].length = b.length := by rw [ra.all _ (List.getElem_mem hlt), hw]
   refine WS ?_; try with_reducible exact trivial
   refine JF [0, 1, 5, 6, 7, 8] (fun s : Nat × Value => [(0, .slice (some ad) a.length c), (1, .slice (some bd) b.length c'), (5, o), (6, .int .i64 i), (7, s.2), (8, .int .i64 s.1)])
    (fun s w3 => s.1 ≤ width b ∧ H8 w1.heap.size w3 s.2 ((List.range s.1).map fun j => Su a[i] b j b.length) ∧ Fr No w1 w3) (fun s _ => width b - s.1) (0, .slice none 0 0) (by with_unfolding_all rfl) ⟨Nat.zero_le _, H8.nil _ _, Fr.refl _ _⟩ ?_
   rintro ⟨j, row⟩ w3 ⟨hj, hrow, hf3⟩
   dsimp only at hj hrow ⊢
   have hbcell3 : w3.cell? (bd.add 0) = some (.slice B0 (width b) d0) := by rw [(hf.then hf3).cell (AC hbcell0) (fun h => h)]; exact hbcell0
   by_cases hjl : j < width b
   ·have hlen : ((List.range j).map fun j => Su a[i] b j b.length).length ≤ 1000000 := by rw [List.length_map, List.length_range]; omega
    have hnext : ((List.range (j + 1)).map fun j => Su a[i] b j b.length) = ((List.range j).map fun j => Su a[i] b j b.length) ++ [Su a[i] b j b.length] := by rw [List.range_succ, List.map_append]; rfl
    simp -dsimp (disch := omega) only [↓MC.wp, ↓BD, ↓CV, ↓MOp.wp, evs, ev, Am, BZ, BF, pev, Bl, Bv, Aq, Bz, psl, Ba, Aw, Ag, ↓BM, ↓AP, ↓DK, ↓Bf, Dy, Az, MOp.still, known, Op.operands, AA, A7, Nat.reduceAdd, reduceCtorEq, if_true, if_false, ↓reduceIte, ne_eq, Int.reduceEq, Int.reduceLT, Int.reduceLE, Int.reduceAdd, Int.reduceSub, Int.reduceMul, Int.reduceToNat, Nat.reduceMul, Nat.reduceLeDiff, Nat.reduceLT, Nat.reduceSub, WB, hbcell3]
    refine JF [0, 1, 5, 6, 7, 8, 9, 10] (fun k : Nat => [(0, .slice (some ad) a.length c), (1, .slice (some bd) b.length c'), (5, o), (6, .int .i64 i), (7, row), (8, .int .i64 j), (9, U8 (Su a[i] b j k)), (10, .int .i64 k)])
     (fun k w4 => k ≤ b.length ∧ Fr No w3 w4) (fun k _ => b.length - k) 0 (by with_unfolding_all rfl) ⟨Nat.zero_le _, Fr.refl _ _⟩ ?_
    rintro k w4 ⟨hk, hf4⟩
    have hf04 : Fr No w w4 := (hf.then hf3).then hf4
    by_cases hkl : k < b.length
    ·obtain ⟨bd', B2, d2, e3, hcellk, hrowk⟩ := MS.row hb hkl
     cases e3
     have hbk : b[k].length = width b := rb.all _ (List.getElem_mem hkl)
     obtain ⟨A3, c3, e4, hc3, hcells⟩ := hrowi.open
     cases e4
     obtain ⟨ae, hae, _, hcellx⟩ := hcells k (by omega)
     subst hae
     obtain ⟨B3, d3, e5, hd3, hcells'⟩ := hrowk.open
     cases e5
     obtain ⟨be, hbe, _, hcelly⟩ := hcells' j (by omega)
     subst hbe
     have g1 : w4.cell? (ad.add i) = some (.slice (some ae) a[i].length c2) := by rw [hf04.cell (AC hcelli) (fun h => h)]; exact hcelli
     have g2 : w4.cell? (ae.add k) = some (U8 a[i][k]) := by rw [hf04.cell (AC hcellx) (fun h => h)]; exact hcellx
     have g3 : w4.cell? (bd.add k) = some (.slice (some be) b[k].length d2) := by rw [hf04.cell (AC hcellk) (fun h => h)]; exact hcellk
     have g4 : w4.cell? (be.add j) = some (U8 b[k][j]) := by rw [hf04.cell (AC hcelly) (fun h => h)]; exact hcelly
     simp -dsimp (disch := omega) only [↓MC.wp, ↓BD, ↓CV, ↓MOp.wp, evs, ev, Am, BZ, BF, pev, Bl, Bv, Aq, Bz, psl, Ba, Aw, Ag, ↓BM, ↓AP, ↓DK, ↓Bf, Dy, Az, MOp.still, known, Op.operands, AA, A7, Nat.reduceAdd, reduceCtorEq, if_true, if_false, ↓reduceIte, ne_eq, Int.reduceEq, Int.reduceLT, Int.reduceLE, Int.reduceAdd, Int.reduceSub, Int.reduceMul, Int.reduceToNat, Nat.reduceMul, Nat.reduceLeDiff, Nat.reduceLT, Nat.reduceSub, WB, g1, g2, g3, g4]
     refine call (Wu a[i][k] b[k][j]) ?_
     intro r w5 h5
     rw [h5.1]
     have hf5 := h5.2
     have g1' : w5.cell? (ad.add i) = some (.slice (some ae) a[i].length c2) := by rw [hf5.cell (AC g1) (fun h => h)]; exact g1
     have g3' : w5.cell? (bd.add k) = some (.slice (some be) b[k].length d2) := by rw [hf5.cell (AC g3) (fun h => h)]; exact g3
     simp -dsimp (disch := omega) only [↓MC.wp, ↓BD, ↓CV, ↓MOp.wp, evs, ev, Am, BZ, BF, pev, Bl, Bv, Aq, Bz, psl, Ba, Aw, Ag, ↓BM, ↓AP, ↓DK, ↓Bf, Dy, Az, MOp.still, known, Op.operands, AA, A7, Nat.reduceAdd, reduceCtorEq, if_true, if_false, ↓reduceIte, ne_eq, Int.reduceEq, Int.reduceLT, Int.reduceLE, Int.reduceAdd, Int.reduceSub, Int.reduceMul, Int.reduceToNat, Nat.reduceMul, Nat.reduceLeDiff, Nat.reduceLT, Nat.reduceSub, WB, g1', g3', U8, AcJ]
     refine ⟨k + 1, ?_, ⟨by omega, hf4.then hf5.of_drew⟩, by omega⟩
     have e1 : Su a[i] b j (k + 1) = Su a[i] b j k ^^^ Po a[i][k] b[k][j] := by
      rw [Su, AY 0 (by omega), entry_eq hkl (by omega)]
     rw [e1]
     rfl
    ·have hkb : k = b.length := by omega
     subst hkb
     simp -dsimp (disch := omega) only [↓MC.wp, ↓BD, ↓CV, ↓MOp.wp, evs, ev, Am, BZ, BF, pev, Bl, Bv, Aq, Bz, psl, Ba, Aw, Ag, ↓BM, ↓AP, ↓DK, ↓Bf, Dy, Az, MOp.still, known, Op.operands, AA, A7, Nat.reduceAdd, reduceCtorEq, if_true, if_false, ↓reduceIte, ne_eq, Int.reduceEq, Int.reduceLT, Int.reduceLE, Int.reduceAdd, Int.reduceSub, Int.reduceMul, Int.reduceToNat, Nat.reduceMul, Nat.reduceLeDiff, Nat.reduceLT, Nat.reduceSub, WB, U8, KE]
     refine new ?_
     intro b2 w5 hb5 hs5 hc5 hf5
     refine WS ?_; try with_reducible exact trivial
     refine Qi (x := Su a[i] b j b.length) (hrow.no hf4) (hf3.then hf4) hlen hc5 hf5 ?_
     intro r' w6 hr6 hf6
     refine WS ?_; try with_reducible exact trivial
     refine ⟨(j + 1, r'), rfl, ⟨by dsimp only; omega, ?_, hf6⟩, by dsimp only; omega⟩
     dsimp only
     rw [hnext]
     exact hr6
   ·have hc1 := Ow.cells1 hrow.1
    simp -dsimp (disch := omega) only [↓MC.wp, ↓BD, ↓CV, ↓MOp.wp, evs, ev, Am, BZ, BF, pev, Bl, Bv, Aq, Bz, psl, Ba, Aw, Ag, ↓BM, ↓AP, ↓DK, ↓Bf, Dy, Az, MOp.still, known, Op.operands, AA, A7, Nat.reduceAdd, reduceCtorEq, if_true, if_false, ↓reduceIte, ne_eq, Int.reduceEq, Int.reduceLT, Int.reduceLE, Int.reduceAdd, Int.reduceSub, Int.reduceMul, Int.reduceToNat, Nat.reduceMul, Nat.reduceLeDiff, Nat.reduceLT, Nat.reduceSub, WB, hbcell3, hc1, KE]
    have hjk : j = width b := by omega
    subst hjk
    refine new ?_
    intro b2 w4 hb2 hs4 hc4 hf4
    refine WS ?_; try with_reducible exact trivial
    have hlen : ((a.take i).map (fun r => rrow r b)).length ≤ 1000000 := by rw [List.length_map, List.length_take]; omega
    refine NT (x := rrow a[i] b) ho hf hf3 hrow hlen hb2 hs4 hc4 hf4 ?_
    intro r' w' hr' hf'
    refine WS ?_; try with_reducible exact trivial
    refine ⟨(i + 1, r'), rfl, ⟨by dsimp only; omega, ?_, hf'⟩, by dsimp only; omega⟩
    dsimp only
    rw [Kq hlt, List.map_append]
    exact hr'
  ·refine WS ?_; try with_reducible exact trivial
   have hin : i = a.length := by omega
   subst hin
   rw [List.take_length] at ho
   exact ⟨ho, hf⟩
 ·rw [UL, if_neg hw]
  simp -dsimp (disch := omega) only [↓MC.wp, ↓BD, ↓CV, ↓MOp.wp, evs, ev, Am, BZ, BF, pev, Bl, Bv, Aq, Bz, psl, Ba, Aw, Ag, ↓BM, ↓AP, ↓DK, ↓Bf, Dy, Az, MOp.still, known, Op.operands, AA, A7, Nat.reduceAdd, reduceCtorEq, if_true, if_false, ↓reduceIte, ne_eq, Int.reduceEq, Int.reduceLT, Int.reduceLE, Int.reduceAdd, Int.reduceSub, Int.reduceMul, Int.reduceToNat, Nat.reduceMul, Nat.reduceLeDiff, Nat.reduceLT, Nat.reduceSub, WB, m_ref04_Mul, hcell0]
  exact ⟨Dh.nil _ _, Fr.refl _ _⟩
def Air (m : LL) (i k : Nat) : LL := ((List.range k).filter fun x => x != i).map fun k => (m.getD k []).drop 1
def minor (m : LL) (i : Nat) : LL := Air m i m.length
def AdC (f : LL → UInt8) (m : LL) : Nat → UInt8
 | 0 => 0
 | i + 1 => if entry m i 0 = 0 then AdC f m i else AdC f m i ^^^ Po (entry m i 0) (f (minor m i))
def det : Nat → LL → UInt8
 | 0 => fun _ => 0
 | 1 => fun m => entry m 0 0
 | n + 2 => fun m => AdC (det (n + 1)) m (n + 2)

theorem BS.drop1 {w : World} {B n c : Nat} {ad : Addr} {xs : List UInt8} (h : BS w B (.slice (some ad) n c) xs) (hn : 1 ≤ n) : BS w B (.slice (some (ad.add 1)) (n - 1) (c - 1)) (xs.drop 1) := by
 obtain ⟨A', c', e, hc, hr⟩ := h.open
 cases e
 refine ⟨_, _, by rw [List.length_map, List.length_drop], by rw [List.length_map, List.length_drop]; omega, fun j u hu => ?_⟩
 have hj : j + 1 < xs.length := by
  have := (List.getElem?_eq_some_iff.1 hu).1
  rw [List.length_map, List.length_drop] at this
  omega
 obtain ⟨ad', e, hb, hcell⟩ := hr (j + 1) hj
 cases e
 refine ⟨_, rfl, by rw [add_block]; exact hb, ?_⟩
 rw [Addr.add_add, Nat.add_comm 1 j, hcell]
 rw [List.getElem?_map, List.getElem?_drop, Nat.add_comm 1 j, List.getElem?_eq_getElem hj] at hu
 exact hu
def VM (w0 : World) (B : Nat) (w : World) (r : Value) (m : LL) : Prop :=
 ∃ vs, vs.length = m.length ∧ Ow w 31 1 r m.length vs ∧ NM w0.heap.size r ∧ ∀ (j : Nat) (u : Value) (x : List UInt8), vs[j]? = some u → m[j]? = some x → BS w0 B u x
theorem VM.nil (w0 : World) (B : Nat) (w : World) : VM w0 B w (.slice none 0 0) [] := ⟨[], rfl, Ow.nil w 31 1, NM.nil _, fun j u x h => by simp at h⟩
theorem VM.ms {w0 w : World} {B : Nat} {r : Value} {m : LL} (h : VM w0 B w r m) (hf : Fr No w0 w) (hB : B ≤ w0.heap.size) : MS w w.heap.size r m := by
 obtain ⟨vs, h1, h2, h3, h4⟩ := h
 refine ⟨vs, ?_, h1, fun j u x hu hx => (BS.fr (h4 j u x hu hx) hf fun _ _ h => h).mono (by have := hf.size; omega)⟩
 rw [← h1] at h2
 exact Ow.rs h2 fun b hb => Ow.lt h2 hb
theorem VM.push {w0 w : World} {B : Nat} {r u : Value} {m : LL} {x : List UInt8} (h : VM w0 B w r m) (hf : Fr No w0 w) (hu : BS w0 B u x) (hl : m.length ≤ 1000000) {b2 c : Nat} {w2 : World}
  (hc2 : w2.heap[b2]? = some (.cells #[u] 31 (0, 0))) (hf2 : Fr No w w2) {K : Value → World → Prop} {tg : BQ K}
  (k : ∀ r' w', VM w0 B w' r' (m ++ [x]) → Fr No w0 w' → K r' w') :
  Run Tryz.prog (Builtin.append_ #[60, 60] 60 #[r, .slice (some ⟨b2, 0, none⟩) 1 c]) w2 K tg := by
 obtain ⟨vs, h1, h2, h3, h4⟩ := h
 have hsz := hf.size
 have hsz2 := hf2.size
 refine app elM (Ow.no h2 hf2) (m := 1) (Vq hc2 c) rfl ?_ (by omega) (by omega) fun v4 w4 ho4 hf4 hat => ?_
 ·intro v hv
  simp at hv
  subst hv
  obtain ⟨_, _, rfl, _⟩ := hu.open
  rfl
 ·refine k v4 w4 ⟨vs ++ [u], by simp [h1], by simpa using ho4, h3.app (by omega) hat, fun j v y hv hy => ?_⟩ ((hf.then hf2).own h3 hf4)
  by_cases hj : j < m.length
  ·rw [List.getElem?_append_left (by omega)] at hv
   rw [List.getElem?_append_left hj] at hy
   exact h4 j v y hv hy
  ·rw [List.getElem?_append_right (by omega)] at hv
   rw [List.getElem?_append_right (by omega)] at hy
   rw [h1] at hv
   cases hk : j - m.length with
   | zero =>
    rw [hk] at hv hy
    simp only [List.getElem?_cons_zero, Option.some.injEq] at hv hy
    subst hv
    subst hy
    exact hu
   | succ k => rw [hk] at hv; simp at hv

def norm (c : Nat) (p : LL × LL) : LL × LL := (p.1.set c ((p.1.getD c []).map (Bh (FK (entry p.1 c c)))), p.2.set c ((p.2.getD c []).map (Bh (FK (entry p.1 c c)))))
def AbQ (c k : Nat) (p : LL × LL) : LL × LL :=
 if k ≠ c ∧ entry p.1 k c ≠ 0 then (p.1.set k (La (p.1.getD k []) ((p.1.getD c []).map (Bh (entry p.1 k c)))), p.2.set k (La (p.2.getD k []) ((p.2.getD c []).map (Bh (entry p.1 k c))))) else p
def elim (c : Nat) (p : LL × LL) : Nat → LL × LL
 | 0 => p
 | k + 1 => AbQ c k (elim c p k)
def Xp (n c : Nat) (p : LL × LL) : LL × LL := elim c (norm c p) n

theorem PM.put {w w' : World} {n : Nat} {rl ro t1 t2 : Value} {vl vo : List Value} {l o : LL} (h : PM w n rl vl l ro vo o) {c : Nat} {x1 x2 : List UInt8} (hx1 : x1.length = n) (hx2 : x2.length = n)
  (hl : Ow w' 31 1 rl n (vl.set c t1)) (ho : Ow w' 31 1 ro n (vo.set c t2)) (hf : Fr (fun b => rl.ownBlock = some b ∨ ro.ownBlock = some b) w w')
  (h1 : Ow w' 5 1 t1 x1.length (x1.map U8)) (h2 : Ow w' 5 1 t2 x2.length (x2.map U8)) (n1 : NM w.heap.size t1) (n2 : NM w.heap.size t2) (n12 : ∀ b, t1.ownBlock = some b → t2.ownBlock ≠ some b) :
  PM w' n rl (vl.set c t1) (l.set c x1) ro (vo.set c t2) (o.set c x2) := by
 have a1 : ∀ b, t1.ownBlock = some b → ¬ Has rl vl b ∧ ¬ Has ro vo b := fun b hb => ⟨fun e => by have := h.left.lt e; have := n1 b hb; omega, fun e => by have := h.out.lt e; have := n1 b hb; omega⟩
 have a2 : ∀ b, t2.ownBlock = some b → ¬ Has rl vl b ∧ ¬ Has ro vo b := fun b hb => ⟨fun e => by have := h.left.lt e; have := n2 b hb; omega, fun e => by have := h.out.lt e; have := n2 b hb; omega⟩
 refine ⟨h.left.put h.dl (by rw [h.ll]; exact hl) hf ?_ h1, h.out.put h.do' (by rw [h.lo]; exact ho) hf ?_ h2, h.dl.put fun b hb => (a1 b hb).1, h.do'.put fun b hb => (a2 b hb).2, ?_, by rw [List.length_set]; exact h.ll, by rw [List.length_set]; exact h.lo, ?_, ?_⟩
 ·rintro b (hb | hb) ⟨j, v, hv, hvb⟩
  ·exact h.dl.spine j v b hv hvb hb
  ·exact h.apart b (.inr ⟨j, v, hv, hvb⟩) (.inl hb)
 ·rintro b (hb | hb) ⟨j, v, hv, hvb⟩
  ·exact h.apart b (.inl hb) (.inr ⟨j, v, hv, hvb⟩)
  ·exact h.do'.spine j v b hv hvb hb
 ·intro b hb hb'
  rcases hb.put with e | e <;> rcases hb'.put with e' | e'
  ·exact h.apart b e e'
  ·exact (a2 b e').1 e
  ·exact (a1 b e).2 e'
  ·exact n12 b e e'
 ·intro x hx
  rcases List.mem_or_eq_of_mem_set hx with e | rfl
  ·exact h.wl x e
  ·exact hx1
 ·intro x hx
  rcases List.mem_or_eq_of_mem_set hx with e | rfl
  ·exact h.wo x e
  ·exact hx2
theorem PM.turnL {w w' : World} {n : Nat} {rl ro u : Value} {vl vo : List Value} {l o : LL} (h : PM w n rl vl l ro vo o) {i g : Nat} {x : List UInt8} (hx : x.length = n) (hv : vl[i]? = some u) (hg : u.ownBlock = some g) (hf : Fr (· = g) w w')
  (hu : Ow w' 5 1 u x.length (x.map U8)) : PM w' n rl vl (l.set i x) ro vo o := by
 refine ⟨h.left.turn h.dl hv hg hf hu, h.out.fr hf fun b hb (e : b = g) => ?_, h.dl, h.do', h.apart, by rw [List.length_set]; exact h.ll, h.lo, ?_, h.wo⟩
 ·subst e; exact h.apart b (.inr ⟨i, u, hv, hg⟩) hb
 ·intro y hy
  rcases List.mem_or_eq_of_mem_set hy with e | rfl
  ·exact h.wl y e
  ·exact hx
theorem PM.turnR {w w' : World} {n : Nat} {rl ro u : Value} {vl vo : List Value} {l o : LL} (h : PM w n rl vl l ro vo o) {i g : Nat} {x : List UInt8} (hx : x.length = n) (hv : vo[i]? = some u) (hg : u.ownBlock = some g) (hf : Fr (· = g) w w')
  (hu : Ow w' 5 1 u x.length (x.map U8)) : PM w' n rl vl l ro vo (o.set i x) := by
 refine ⟨h.left.fr hf fun b hb (e : b = g) => ?_, h.out.turn h.do' hv hg hf hu, h.dl, h.do', h.apart, h.ll, by rw [List.length_set]; exact h.lo, h.wl, ?_⟩
 ·subst e; exact h.apart b hb (.inr ⟨i, u, hv, hg⟩)
 ·intro y hy
  rcases List.mem_or_eq_of_mem_set hy with e | rfl
  ·exact h.wo y e
  ·exact hx
theorem Ow.bs' {w : World} {e : TypeId} {v : Value} {xs : List UInt8} (h : Ow w e 1 v xs.length (xs.map U8)) : BS w w.heap.size v xs := h.bs fun b hb => h.lt hb

theorem Acg {w : World} {n fb : Nat} {rl ro : Value} {vl vo : List Value} {l o : LL} (h : PM w n rl vl l ro vo o) {c : Nat} (hc : c < n) (hn : n ≤ 1000) (hfa : Fp w fb) (hfb : ¬ Og rl vl ro vo fb) :
  Calls Tryz.prog IK #[.pointer (some ⟨fb, 0, none⟩), rl, ro, .int .i64 c] w fun en w' => ∃ r, en = .returned r ∧ ∃ vl' vo', PM w' n rl vl' (Xp n c (l, o)).1 ro vo' (Xp n c (l, o)).2 ∧
   (∀ b, Og rl vl' ro vo' b → Og rl vl ro vo b ∨ w.heap.size ≤ b) ∧ Fr (Og rl vl ro vo) w w' := by
 have hll := h.ll
 have hlo := h.lo
 obtain ⟨uc, huc, hrc, gl, capl, hrl, hcl⟩ := h.left.at (j := c) (by omega)
 obtain ⟨xc, hxc, hsc, go', capo, hro, hco⟩ := h.out.at (j := c) (by omega)
 rw [hll] at hrl
 rw [hlo] at hro
 subst hrl
 subst hro
 have hwc : l[c].length = n := h.wl _ (List.getElem_mem (by omega))
 have hwo : o[c].length = n := h.wo _ (List.getElem_mem (by omega))
 have hne : gl ≠ go' := fun e => h.apart gl (.inl rfl) (.inl (by rw [e]; rfl))
 obtain ⟨gc, capc, huc', hcells⟩ := Ow.posRow hrc (by omega)
 have hcell := hcells c (by omega)
 have hen : entry l c c = l[c][c] := entry_eq (by omega) (by omega)
 refine Ci (args := [.pointer (some ⟨fb, 0, none⟩), .slice (some ⟨gl, 0, none⟩) n capl, .slice (some ⟨go', 0, none⟩) n capo, .int .i64 c]) P7 (by simp only [m_matrix_clearColumn, List.length]; decide) ?_
 rw [huc'] at hcl
 simp -dsimp (disch := omega) only [↓MC.wp, ↓BD, ↓CV, ↓MOp.wp, evs, ev, Am, BZ, BF, pev, Bl, Bv, Aq, Bz, psl, Ba, Aw, Ag, ↓BM, ↓AP, ↓DK, ↓Bf, Dy, Az, MOp.still, known, Op.operands, AA, A7, Nat.reduceAdd, reduceCtorEq, if_true, if_false, ↓reduceIte, ne_eq, Int.reduceEq, Int.reduceLT, Int.reduceLE, Int.reduceAdd, Int.reduceSub, Int.reduceMul, Int.reduceToNat, Nat.reduceMul, Nat.reduceLeDiff, Nat.reduceLT, Nat.reduceSub, WB, m_matrix_clearColumn, hcl, hcell]
 refine call (Yz hfa l[c][c]) ?_
 intro r w1 h1
 rw [h1.1]
 refine WS ?_; try with_reducible exact trivial
 have hf1 := h1.2
 clear h1
 have hcl1 : w1.cell? ⟨gl, c, none⟩ = some (.slice (some ⟨gc, 0, none⟩) l[c].length capc) := by rw [hf1.cell (AC hcl) (fun h => h)]; exact hcl
 have hco1 : w1.cell? ⟨go', c, none⟩ = some xc := by rw [hf1.cell (AC hco) (fun h => h)]; exact hco
 have hrc1 : Ow w1.drew 5 1 (.slice (some ⟨gc, 0, none⟩) l[c].length capc) l[c].length (l[c].map U8) := by rw [← huc']; exact Ow.no hrc hf1.drew
 have hsc1 : Ow w1.drew 5 1 xc o[c].length (o[c].map U8) := Ow.no hsc hf1.drew
 have hfa1 : Fp w1.drew fb := hfa.fr hf1.drew fun h => h
 simp -dsimp (disch := omega) only [↓MC.wp, ↓BD, ↓CV, ↓MOp.wp, evs, ev, Am, BZ, BF, pev, Bl, Bv, Aq, Bz, psl, Ba, Aw, Ag, ↓BM, ↓AP, ↓DK, ↓Bf, Dy, Az, MOp.still, known, Op.operands, AA, A7, Nat.reduceAdd, reduceCtorEq, if_true, if_false, ↓reduceIte, ne_eq, Int.reduceEq, Int.reduceLT, Int.reduceLE, Int.reduceAdd, Int.reduceSub, Int.reduceMul, Int.reduceToNat, Nat.reduceMul, Nat.reduceLeDiff, Nat.reduceLT, Nat.reduceSub, WB, hcl1, hco1]
 refine call (NS hfa1 (FK l[c][c]) (Ow.bs' hrc1) (Nat.le_refl _) (by omega)) ?_
 intro t1 w2 h2
 refine WS ?_; try with_reducible exact trivial
 have ht1 := h2.1
 have hf2 := h2.2
 clear h2
 have hco2 : w2.cell? ⟨go', c, none⟩ = some xc := by rw [hf2.cell (AC hco1) (fun h => h)]; exact hco1
 simp -dsimp (disch := omega) only [↓MC.wp, ↓BD, ↓CV, ↓MOp.wp, evs, ev, Am, BZ, BF, pev, Bl, Bv, Aq, Bz, psl, Ba, Aw, Ag, ↓BM, ↓AP, ↓DK, ↓Bf, Dy, Az, MOp.still, known, Op.operands, AA, A7, Nat.reduceAdd, reduceCtorEq, if_true, if_false, ↓reduceIte, ne_eq, Int.reduceEq, Int.reduceLT, Int.reduceLE, Int.reduceAdd, Int.reduceSub, Int.reduceMul, Int.reduceToNat, Nat.reduceMul, Nat.reduceLeDiff, Nat.reduceLT, Nat.reduceSub, WB, hco2]
 refine call (NS (hfa1.fr hf2 fun h => h) (FK l[c][c]) (Ow.bs' (Ow.no hsc1 hf2)) (Nat.le_refl _) (by omega)) ?_
 intro t2 w3 h3
 refine WS ?_; try with_reducible exact trivial
 have ht2 := h3.1
 have hf3 := h3.2
 clear h3
 have o1 := Ow.one ht1.1
 have o2 := Ow.one ht2.1
 have hf03 : Fr No w w3 := (hf1.drew.then hf2).then hf3
 have h3 := h.no hf03
 have hspl : Ow w3 31 1 (.slice (some ⟨gl, 0, none⟩) n capl) n vl := by have := h3.left.spine; rw [hll] at this; exact this
 have hspo : Ow w3 31 1 (.slice (some ⟨go', 0, none⟩) n capo) n vo := by have := h3.out.spine; rw [hlo] at this; exact this
 simp -dsimp (disch := omega) only [↓MC.wp, ↓BD, ↓CV, ↓MOp.wp, evs, ev, Am, BZ, BF, pev, Bl, Bv, Aq, Bz, psl, Ba, Aw, Ag, ↓BM, ↓AP, ↓DK, ↓Bf, Dy, Az, MOp.still, known, Op.operands, AA, A7, Nat.reduceAdd, reduceCtorEq, if_true, if_false, ↓reduceIte, ne_eq, Int.reduceEq, Int.reduceLT, Int.reduceLE, Int.reduceAdd, Int.reduceSub, Int.reduceMul, Int.reduceToNat, Nat.reduceMul, Nat.reduceLeDiff, Nat.reduceLT, Nat.reduceSub, WB, o1]
 refine hspl.set (j := c) (v := t1) hc o1 ?_
 intro w4 ho4 hf4 hs4
 simp -dsimp (disch := omega) only [↓MC.wp, ↓BD, ↓CV, ↓MOp.wp, evs, ev, Am, BZ, BF, pev, Bl, Bv, Aq, Bz, psl, Ba, Aw, Ag, ↓BM, ↓AP, ↓DK, ↓Bf, Dy, Az, MOp.still, known, Op.operands, AA, A7, Nat.reduceAdd, reduceCtorEq, if_true, if_false, ↓reduceIte, ne_eq, Int.reduceEq, Int.reduceLT, Int.reduceLE, Int.reduceAdd, Int.reduceSub, Int.reduceMul, Int.reduceToNat, Nat.reduceMul, Nat.reduceLeDiff, Nat.reduceLT, Nat.reduceSub, WB, o2]
 refine (Ow.fr hspo hf4 fun b hb (e : b = gl) => by cases hb; exact hne e.symm).set (j := c) (v := t2) hc o2 ?_
 intro w5 ho5 hf5 hs5
 refine WS ?_; try with_reducible exact trivial
 have hf45 : Fr (fun b => b = gl ∨ b = go') w3 w5 := (hf4.mono fun b _ e => .inl e).step hf5 fun b _ e => .inr e
 have hf35 : Fr (fun b => (Value.slice (some ⟨gl, 0, none⟩) n capl).ownBlock = some b ∨ (Value.slice (some ⟨go', 0, none⟩) n capo).ownBlock = some b) w3 w5 :=
  hf45.mono fun b _ e => by rcases e with rfl | rfl; exact .inl rfl; exact .inr rfl
 have hgl : gl < w.heap.size := h.left.lt (.inl rfl)
 have hgo : go' < w.heap.size := h.out.lt (.inl rfl)
 have hs1 := hf1.size
 have hs2 : w1.heap.size ≤ w2.heap.size := hf2.size
 have hs3 := hf3.size
 have n1 : NM w.heap.size t1 := fun b hb => by have := ht1.2 b hb; have e : w1.drew.heap.size = w1.heap.size := rfl; omega
 have n2 : NM w2.heap.size t2 := ht2.2
 have hlt1 : ∀ b, t1.ownBlock = some b → b < w2.heap.size := fun b hb => Ow.lt ht1.1 hb
 have hf05 : Fr (fun b => (Value.slice (some ⟨gl, 0, none⟩) n capl).ownBlock = some b ∨ (Value.slice (some ⟨go', 0, none⟩) n capo).ownBlock = some b) w w5 := hf03.wide.trans hf35
 have hput := h.put (c := c) (x1 := l[c].map (Bh (FK l[c][c]))) (x2 := o[c].map (Bh (FK l[c][c]))) (t1 := t1) (t2 := t2) (w' := w5) (by rw [List.length_map]; exact hwc) (by rw [List.length_map]; exact hwo)
  (Ow.fr ho4 hf5 fun b hb (e : b = go') => by cases hb; exact hne e) ho5 hf05 (Ow.fr (Ow.no ht1.1 hf3) hf45 fun b hb e => by have := n1 b hb; omega) (Ow.fr ht2.1 hf45 fun b hb e => by have := n2 b hb; omega)
  n1 (n2.mono (by omega)) (fun b hb hb' => by have := hlt1 b hb; have := n2 b hb'; omega)
 have hnorm : norm c (l, o) = (l.set c (l[c].map (Bh (FK l[c][c]))), o.set c (o[c].map (Bh (FK l[c][c])))) := by
  have e1 : l.getD c [] = l[c] := AY [] (by omega)
  have e2 : o.getD c [] = o[c] := AY [] (by omega)
  show (l.set c ((l.getD c []).map (Bh (FK (entry l c c)))), o.set c ((o.getD c []).map (Bh (FK (entry l c c))))) = _
  rw [hen, e1, e2]
 have hp1 : PM w5 n (.slice (some ⟨gl, 0, none⟩) n capl) (vl.set c t1) (norm c (l, o)).1 (.slice (some ⟨go', 0, none⟩) n capo) (vo.set c t2) (norm c (l, o)).2 := by
  rw [hnorm]; exact hput
 have hHas : ∀ b, Og (.slice (some ⟨gl, 0, none⟩) n capl) (vl.set c t1) (.slice (some ⟨go', 0, none⟩) n capo) (vo.set c t2) b → Og (.slice (some ⟨gl, 0, none⟩) n capl) vl (.slice (some ⟨go', 0, none⟩) n capo) vo b ∨ w.heap.size ≤ b := by
  rintro b (hb | hb) <;> rcases hb.put with e | e
  ·exact .inl (.inl e)
  ·exact .inr (n1 b e)
  ·exact .inl (.inr e)
  ·exact .inr (Nat.le_trans (by omega) (n2 b e))
 have hfr5 : Fr (Og (.slice (some ⟨gl, 0, none⟩) n capl) vl (.slice (some ⟨go', 0, none⟩) n capo) vo) w w5 := hf05.mono fun b _ e => by
  rcases e with e | e
  ·exact .inl (.inl e)
  ·exact .inr (.inl e)
 generalize hvl' : vl.set c t1 = vl' at hp1 hHas
 generalize hvo' : vo.set c t2 = vo' at hp1 hHas
 generalize hpn : norm c (l, o) = p at hp1
 clear hput hnorm hf05 hf35 hf45 hf03 h3 hspl hspo ho4 ho5 hf4 hf5 hs4 hs5 ht1 ht2 n1 n2 hlt1 o1 o2 hf2 hf3 hfa1 hsc1 hrc1 hco1 hco2 hcl1 hf1 hs1 hs2 hs3 hvl' hvo'
 refine JF [0, 1, 2, 3, 40, 41, 42] (fun k : Nat => [(0, .pointer (some ⟨fb, 0, none⟩)), (1, .slice (some ⟨gl, 0, none⟩) n capl), (2, .slice (some ⟨go', 0, none⟩) n capo), (3, .int .i64 c), (40, .slice (some ⟨gl, 0, none⟩) n capl), (41, .int .i64 n), (42, .int .i64 k)])
  (fun k w6 => k ≤ n ∧ PM w6 n (.slice (some ⟨gl, 0, none⟩) n capl) vl' (elim c p k).1 (.slice (some ⟨go', 0, none⟩) n capo) vo' (elim c p k).2 ∧ Fr (Og (.slice (some ⟨gl, 0, none⟩) n capl) vl (.slice (some ⟨go', 0, none⟩) n capo) vo) w w6)
  (fun k _ => n - k) 0 (by with_unfolding_all rfl) ⟨Nat.zero_le _, hp1, hfr5⟩ ?_
 rintro k w6 ⟨hk, hp, hf⟩
 by_cases hlt : k < n
 ·generalize hq : elim c p k = q at hp
  obtain ⟨lk, ok⟩ := q
  dsimp only at hp
  have hlk := hp.ll
  have hok := hp.lo
  obtain ⟨uk, huk, hrk, hck⟩ := hp.left.at' (j := k) (by omega)
  obtain ⟨ud, hud, hrd, hcd⟩ := hp.left.at' (j := c) (by omega)
  have hwk : lk[k].length = n := hp.wl _ (List.getElem_mem (by omega))
  have hwd : lk[c].length = n := hp.wl _ (List.getElem_mem (by omega))
  obtain ⟨gk, capk, huk', hcells⟩ := Ow.posRow hrk (by omega)
  have hcellk := hcells c (by omega)
  have henk : entry lk k c = lk[k][c] := entry_eq (by omega) (by omega)
  subst huk'
  have hfa6 : Fp w6 fb := hfa.fr hf hfb
  by_cases hkc : k = c
  ·simp -dsimp (disch := omega) only [↓MC.wp, ↓BD, ↓CV, ↓MOp.wp, evs, ev, Am, BZ, BF, pev, Bl, Bv, Aq, Bz, psl, Ba, Aw, Ag, ↓BM, ↓AP, ↓DK, ↓Bf, Dy, Az, MOp.still, known, Op.operands, AA, A7, Nat.reduceAdd, reduceCtorEq, if_true, if_false, ↓reduceIte, ne_eq, Int.reduceEq, Int.reduceLT, Int.reduceLE, Int.reduceAdd, Int.reduceSub, Int.reduceMul, Int.reduceToNat, Nat.reduceMul, Nat.reduceLeDiff, Nat.reduceLT, Nat.reduceSub, WB, hck, hcellk, U8]
   refine ⟨k + 1, rfl, ⟨by omega, ?_, hf⟩, by omega⟩
   rw [elim, hq, AbQ, if_neg (fun e => e.1 hkc)]
   exact hp
  ·by_cases h0 : lk[k][c].toNat = 0
   ·simp -dsimp (disch := omega) only [↓MC.wp, ↓BD, ↓CV, ↓MOp.wp, evs, ev, Am, BZ, BF, pev, Bl, Bv, Aq, Bz, psl, Ba, Aw, Ag, ↓BM, ↓AP, ↓DK, ↓Bf, Dy, Az, MOp.still, known, Op.operands, AA, A7, Nat.reduceAdd, reduceCtorEq, if_true, if_false, ↓reduceIte, ne_eq, Int.reduceEq, Int.reduceLT, Int.reduceLE, Int.reduceAdd, Int.reduceSub, Int.reduceMul, Int.reduceToNat, Nat.reduceMul, Nat.reduceLeDiff, Nat.reduceLT, Nat.reduceSub, WB, hck, hcellk, U8]
    refine ⟨k + 1, rfl, ⟨by omega, ?_, hf⟩, by omega⟩
    rw [elim, hq, AbQ, if_neg (fun e => e.2 (by rw [henk]; exact (IR _).1 h0))]
    exact hp
   ·have hfa6d : Fp w6.drew fb := hfa6
    have hrdd : Ow w6.drew 5 1 ud lk[c].length (lk[c].map U8) := hrd
    simp -dsimp (disch := omega) only [↓MC.wp, ↓BD, ↓CV, ↓MOp.wp, evs, ev, Am, BZ, BF, pev, Bl, Bv, Aq, Bz, psl, Ba, Aw, Ag, ↓BM, ↓AP, ↓DK, ↓Bf, Dy, Az, MOp.still, known, Op.operands, AA, A7, Nat.reduceAdd, reduceCtorEq, if_true, if_false, ↓reduceIte, ne_eq, Int.reduceEq, Int.reduceLT, Int.reduceLE, Int.reduceAdd, Int.reduceSub, Int.reduceMul, Int.reduceToNat, Nat.reduceMul, Nat.reduceLeDiff, Nat.reduceLT, Nat.reduceSub, WB, hck, hcellk, hcd, U8]
    refine call (NS hfa6d lk[k][c] (Ow.bs' hrdd) (Nat.le_refl _) (by omega)) ?_
    intro t w7 h7
    refine WS ?_; try with_reducible exact trivial
    have ht := h7.1
    have hf7 := h7.2
    clear h7
    have hck7 : w7.cell? ⟨gl, k, none⟩ = some (.slice (some ⟨gk, 0, none⟩) lk[k].length capk) := by rw [hf7.cell (AC hck) (fun h => h)]; exact hck
    simp -dsimp (disch := omega) only [↓MC.wp, ↓BD, ↓CV, ↓MOp.wp, evs, ev, Am, BZ, BF, pev, Bl, Bv, Aq, Bz, psl, Ba, Aw, Ag, ↓BM, ↓AP, ↓DK, ↓Bf, Dy, Az, MOp.still, known, Op.operands, AA, A7, Nat.reduceAdd, reduceCtorEq, if_true, if_false, ↓reduceIte, ne_eq, Int.reduceEq, Int.reduceLT, Int.reduceLE, Int.reduceAdd, Int.reduceSub, Int.reduceMul, Int.reduceToNat, Nat.reduceMul, Nat.reduceLeDiff, Nat.reduceLT, Nat.reduceSub, WB, hck7]
    have hgk6 : gk < w6.heap.size := Ow.lt hrk rfl
    have hbn : BN w7 gk t (lk[c].map (Bh lk[k][c])) := Ow.bn ht.1 fun e => by have := ht.2 gk e; have e2 : w6.drew.heap.size = w6.heap.size := rfl; omega
    have hp7 : PM w7 n (.slice (some ⟨gl, 0, none⟩) n capl) vl' lk (.slice (some ⟨go', 0, none⟩) n capo) vo' ok := hp.no hf7.of_drew
    have hle1 : (lk[c].map (Bh lk[k][c])).length ≤ lk[k].length := by rw [List.length_map]; omega
    have hrk7 : Ow w7 5 1 (.slice (some ⟨gk, 0, none⟩) lk[k].length capk) lk[k].length (lk[k].map U8) := Ow.no (w := w6.drew) hrk hf7
    have hpl := QX hrk7 hbn hle1 (by omega)
    refine call hpl ?_
    intro r8 w8 h8
    refine WS ?_; try with_reducible exact trivial
    have hr8 := h8.1
    have hf8 := h8.2
    clear h8
    have hlen1 : (La lk[k] (lk[c].map (Bh lk[k][c]))).length = n := by rw [Iw]; exact hwk
    have hr8' : Ow w8 5 1 (.slice (some ⟨gk, 0, none⟩) lk[k].length capk) (La lk[k] (lk[c].map (Bh lk[k][c]))).length ((La lk[k] (lk[c].map (Bh lk[k][c]))).map U8) := by
     rw [Iw]; exact hr8
    have hp8 := hp7.turnL hlen1 huk rfl hf8 hr8'
    clear hr8 hr8' hp7 hbn
    have hM : ∀ b, b < w.heap.size → b = gk → Og (.slice (some ⟨gl, 0, none⟩) n capl) vl (.slice (some ⟨go', 0, none⟩) n capo) vo b := fun b hb e => by
     subst e
     rcases hHas b (.inl (.inr ⟨k, _, huk, rfl⟩)) with h | h
     ·exact h
     ·omega
    have hf08 : Fr (Og (.slice (some ⟨gl, 0, none⟩) n capl) vl (.slice (some ⟨go', 0, none⟩) n capo) vo) w w8 := (hf.step hf7.of_drew fun b _ e => e.elim).step hf8 fun b hb e => hM b hb e
    obtain ⟨xk, hxk, hsk, hcxk⟩ := hp8.out.at' (j := k) (by omega)
    obtain ⟨xd, hxd, hsd, hcxd⟩ := hp8.out.at' (j := c) (by omega)
    have hwk2 : ok[k].length = n := hp8.wo _ (List.getElem_mem (by omega))
    have hwd2 : ok[c].length = n := hp8.wo _ (List.getElem_mem (by omega))
    obtain ⟨hk2, capk2, hxk', hcells2⟩ := Ow.posRow hsk (by omega)
    subst hxk'
    have hfa8 : Fp w8.drew fb := hfa.fr hf08.drew hfb
    have hsdd : Ow w8.drew 5 1 xd ok[c].length (ok[c].map U8) := hsd
    simp -dsimp (disch := omega) only [↓MC.wp, ↓BD, ↓CV, ↓MOp.wp, evs, ev, Am, BZ, BF, pev, Bl, Bv, Aq, Bz, psl, Ba, Aw, Ag, ↓BM, ↓AP, ↓DK, ↓Bf, Dy, Az, MOp.still, known, Op.operands, AA, A7, Nat.reduceAdd, reduceCtorEq, if_true, if_false, ↓reduceIte, ne_eq, Int.reduceEq, Int.reduceLT, Int.reduceLE, Int.reduceAdd, Int.reduceSub, Int.reduceMul, Int.reduceToNat, Nat.reduceMul, Nat.reduceLeDiff, Nat.reduceLT, Nat.reduceSub, WB, hcxk, hcxd]
    refine call (NS hfa8 lk[k][c] (Ow.bs' hsdd) (Nat.le_refl _) (by omega)) ?_
    intro t2 w9 h9
    refine WS ?_; try with_reducible exact trivial
    have ht2 := h9.1
    have hf9 := h9.2
    clear h9
    have hck9 : w9.cell? ⟨go', k, none⟩ = some (.slice (some ⟨hk2, 0, none⟩) ok[k].length capk2) := by rw [hf9.cell (AC hcxk) (fun h => h)]; exact hcxk
    simp -dsimp (disch := omega) only [↓MC.wp, ↓BD, ↓CV, ↓MOp.wp, evs, ev, Am, BZ, BF, pev, Bl, Bv, Aq, Bz, psl, Ba, Aw, Ag, ↓BM, ↓AP, ↓DK, ↓Bf, Dy, Az, MOp.still, known, Op.operands, AA, A7, Nat.reduceAdd, reduceCtorEq, if_true, if_false, ↓reduceIte, ne_eq, Int.reduceEq, Int.reduceLT, Int.reduceLE, Int.reduceAdd, Int.reduceSub, Int.reduceMul, Int.reduceToNat, Nat.reduceMul, Nat.reduceLeDiff, Nat.reduceLT, Nat.reduceSub, WB, hck9]
    have hgk8 : hk2 < w8.heap.size := Ow.lt hsk rfl
    have hbn2 : BN w9 hk2 t2 (ok[c].map (Bh lk[k][c])) := Ow.bn ht2.1 fun e => by have := ht2.2 hk2 e; have e2 : w8.drew.heap.size = w8.heap.size := rfl; omega
    have hp9 := hp8.no hf9.of_drew
    have hle2 : (ok[c].map (Bh lk[k][c])).length ≤ ok[k].length := by rw [List.length_map]; omega
    have hsk9 : Ow w9 5 1 (.slice (some ⟨hk2, 0, none⟩) ok[k].length capk2) ok[k].length (ok[k].map U8) := Ow.no (w := w8.drew) hsk hf9
    have hpl2 := QX hsk9 hbn2 hle2 (by omega)
    refine call hpl2 ?_
    intro r10 w10 h10
    refine WS ?_; try with_reducible exact trivial
    have hr10 := h10.1
    have hf10 := h10.2
    clear h10
    have hlen2 : (La ok[k] (ok[c].map (Bh lk[k][c]))).length = n := by rw [Iw]; exact hwk2
    have hr10' : Ow w10 5 1 (.slice (some ⟨hk2, 0, none⟩) ok[k].length capk2) (La ok[k] (ok[c].map (Bh lk[k][c]))).length ((La ok[k] (ok[c].map (Bh lk[k][c]))).map U8) := by
     rw [Iw]; exact hr10
    have hp10 := hp9.turnR hlen2 hxk rfl hf10 hr10'
    have hM2 : ∀ b, b < w.heap.size → b = hk2 → Og (.slice (some ⟨gl, 0, none⟩) n capl) vl (.slice (some ⟨go', 0, none⟩) n capo) vo b := fun b hb e => by
     subst e
     rcases hHas b (.inr (.inr ⟨k, _, hxk, rfl⟩)) with h | h
     ·exact h
     ·omega
    have hf010 : Fr (Og (.slice (some ⟨gl, 0, none⟩) n capl) vl (.slice (some ⟨go', 0, none⟩) n capo) vo) w w10 := (hf08.step hf9.of_drew fun b _ e => e.elim).step hf10 fun b hb e => hM2 b hb e
    refine ⟨k + 1, rfl, ⟨by omega, ?_, hf010⟩, by omega⟩
    have e1 : lk.getD k [] = lk[k] := AY [] (by omega)
    have e2 : lk.getD c [] = lk[c] := AY [] (by omega)
    have e3 : ok.getD k [] = ok[k] := AY [] (by omega)
    have e4 : ok.getD c [] = ok[c] := AY [] (by omega)
    rw [elim, hq, AbQ, if_pos ⟨hkc, by rw [henk]; exact fun e => h0 ((IR _).2 e)⟩]
    dsimp only
    rw [henk, e1, e2, e3, e4]
    exact hp10
 ·refine WS ?_; try with_reducible exact trivial
  have : k = n := by omega
  subst this
  rw [Xp, hpn]
  exact ⟨vl', vo', hp, hHas, hf⟩
def I8 (n : Nat) (p : LL × LL) : Nat → Option (LL × LL)
 | 0 => some p
 | c + 1 => match I8 n p c with
  | none => none
  | some q => match JS q.1 n c with
   | none => none
   | some i => some (Xp n c (swp [] q.1 c i, swp [] q.2 c i))
theorem WT {n : Nat} {p : LL × LL} {c : Nat} (h : I8 n p c = none) : ∀ k, I8 n p (c + k) = none
 | 0 => h
 | k + 1 => by
  show I8 n p (c + k + 1) = none
  rw [I8, WT h k]
def Ik (m : LL) : Option LL := if m.length = width m then (I8 m.length (m, Dn m.length m.length) m.length).map (·.2) else none
theorem Eh (k n : Nat) : (Dn k n).length = n := by simp [Dn]
theorem JK (k n : Nat) : ∀ x ∈ Dn k n, x.length = k := by
 intro x hx
 simp only [Dn, List.mem_map] at hx
 obtain ⟨i, _, rfl⟩ := hx
 simp [Nr]
theorem Og.swap {rl ro : Value} {vl vo : List Value} {c i b : Nat} (h1 : c < vl.length) (h2 : i < vl.length) (h3 : c < vo.length) (h4 : i < vo.length) (h : Og rl (swp undef vl c i) ro (swp undef vo c i) b) : Og rl vl ro vo b := by
 rcases h with h | h
 ·exact .inl (h.reorder (swp_get undef h1 h2))
 ·exact .inr (h.reorder (swp_get undef h3 h4))
theorem PM.lens {w : World} {n : Nat} {rl ro : Value} {vl vo : List Value} {l o : LL} (h : PM w n rl vl l ro vo o) : vl.length = n ∧ vo.length = n := ⟨by rw [h.left.len]; exact h.ll, by rw [h.out.len]; exact h.lo⟩
theorem newPM {wa wb w : World} {n : Nat} {rl ro : Value} {l o : LL} (h1 : Dh wa.heap.size wb rl l) (h2 : Dh wb.heap.size w ro o) (hf : Fr No wb w) (hab : wa.heap.size ≤ wb.heap.size) (e1 : l.length = n) (e2 : o.length = n) (e3 : ∀ x ∈ l, x.length = n) (e4 : ∀ x ∈ o, x.length = n) :
  ∃ vl vo, PM w n rl vl l ro vo o ∧ ∀ b, Og rl vl ro vo b → wa.heap.size ≤ b := by
 obtain ⟨vl, a1, a2, a3⟩ := h1
 obtain ⟨vo, b1, b2, b3⟩ := h2
 refine ⟨vl, vo, ⟨a1.no hf, b1, a2, b2, fun b hb hb' => ?_, e1, e2, e3, e4⟩, fun b hb => ?_⟩
 ·have := a1.lt hb
  have := b3 b hb'
  omega
 ·rcases hb with hb | hb
  ·exact a3 b hb
  ·have := b3 b hb; omega
def InvJ (n : Nat) (w0 : World) (rl ro : Value) (p : LL × LL) (c : Nat) (w : World) : Prop := c ≤ n ∧ ∃ l o vl vo, I8 n p c = some (l, o) ∧ PM w n rl vl l ro vo o ∧ (∀ b, Og rl vl ro vo b → w0.heap.size ≤ b) ∧ Fr No w0 w
theorem PM.newOut {w : World} {n B : Nat} {rl ro : Value} {vl vo : List Value} {l o : LL} (h : PM w n rl vl l ro vo o) (hb : ∀ b, Og rl vl ro vo b → B ≤ b) : Dh B w ro o := ⟨vo, h.out, h.do', fun b hh => hb b (.inr hh)⟩

theorem ZA {w : World} {B : Nat} {v : Value} {m : LL} (hm : MS w B v m) (hB : B ≤ w.heap.size) (rm : Ea m) (sm : Nw m) :
  Calls Tryz.prog Jr #[v] w fun en w' => ∃ r, en = .returned r ∧ ∃ r1, r = .tuple #[r1, .bool (Ik m).isSome] ∧ Dh w.heap.size w' r1 ((Ik m).getD []) ∧ Fr No w w' := by
 obtain ⟨A, cp, rfl, hc, hr⟩ := hm.open
 have pm := rm.pos
 have hh := sm.high
 obtain ⟨ad0, u0, rfl, had0, hcell0, hrow0⟩ := hr 0 pm
 obtain ⟨B0, c0, rfl, hc0, hr0⟩ := hrow0.open
 have wm : m[0].length = width m := by rw [width, AY [] pm]
 rw [wm] at hcell0
 refine Ci (args := [.slice (some ad0) m.length cp]) Vg (by simp only [m_matrix_Invert, List.length]; decide) ?_
 by_cases hw : m.length = width m
 ·simp -dsimp (disch := omega) only [↓MC.wp, ↓BD, ↓CV, ↓MOp.wp, evs, ev, Am, BZ, BF, pev, Bl, Bv, Aq, Bz, psl, Ba, Aw, Ag, ↓BM, ↓AP, ↓DK, ↓Bf, Dy, Az, MOp.still, known, Op.operands, AA, A7, Nat.reduceAdd, reduceCtorEq, if_true, if_false, ↓reduceIte, ne_eq, Int.reduceEq, Int.reduceLT, Int.reduceLE, Int.reduceAdd, Int.reduceSub, Int.reduceMul, Int.reduceToNat, Nat.reduceMul, Nat.reduceLeDiff, Nat.reduceLT, Nat.reduceSub, WB, m_matrix_Invert, hcell0]
  refine call (Ua w) ?_
  intro r w0 h1
  rw [h1.1]
  refine WS ?_; try with_reducible exact trivial
  have hfa := h1.2.1
  have hf0 := h1.2.2
  clear h1
  have hlt0 : w.heap.size < w0.heap.size := hfa.lt
  have hm0 : MS w0 B (.slice (some ad0) m.length cp) m := hm.fr hf0 fun _ _ h => h
  refine call (ZW hm0 (by omega) (by omega) fun x hx => by have := sm.wide x hx; omega) ?_
  intro rl w1 h2
  refine WS ?_; try with_reducible exact trivial
  refine call (Afi m.length hh) ?_
  intro ro w2 h3
  refine WS ?_; try with_reducible exact trivial
  have hfr1 := h2.2
  have hfr2 := h3.2
  have hsz := hfr1.size
  obtain ⟨vl0, vo0, hpm, hnew⟩ := newPM (n := m.length) h2.1 h3.1 hfr2 hsz rfl (Eh _ _) (fun x hx => by rw [rm.all x hx]; exact hw.symm) (JK _ _)
  obtain ⟨u9, hu9, hr9, g, cap, hrl, hc9⟩ := hpm.left.at (j := 0) pm
  clear hr9 hc9 hu9
  subst hrl
  refine WS ?_; try with_reducible exact trivial
  refine JF [4, 5, 6, 21, 22, 23] (fun c : Nat => [(4, .pointer (some ⟨w.heap.size, 0, none⟩)), (5, .slice (some ⟨g, 0, none⟩) m.length cap), (6, ro), (21, .slice (some ⟨g, 0, none⟩) m.length cap), (22, .int .i64 m.length), (23, .int .i64 c)])
   (InvJ m.length w0 (.slice (some ⟨g, 0, none⟩) m.length cap) ro (m, Dn m.length m.length)) (fun c _ => m.length - c) 0 (by with_unfolding_all rfl) ⟨Nat.zero_le _, m, _, vl0, vo0, rfl, hpm, hnew, hfr1.then hfr2⟩ ?_
  clear hpm hnew vl0 vo0 h2 h3 hfr1 hfr2 hsz hm0
  intro c w3 hJ
  by_cases hlt : c < m.length
  ·refine WS ?_; try with_reducible exact trivial
   obtain ⟨hcn, l, o, vl, vo, hinv, hp, hnew, hf3⟩ := hJ
   refine call (Abj hp hlt hh) ?_
   intro r w4 h4
   have hr4 : r = .bool (JS l m.length c).isSome := by
    rcases h4 with ⟨e1, e2, _⟩ | ⟨i, _, e1, e2, _⟩
    ·rw [e1, e2]; rfl
    ·rw [e1, e2]; rfl
   rw [hr4]
   refine WS ?_; try with_reducible exact trivial
   refine br ?_ ?_
   ·intro hb
    refine WS ?_; try with_reducible exact trivial
    have hnone : JS l m.length c = none := by
     cases hq : JS l m.length c with
     | none => rfl
     | some i => rw [hq] at hb; simp at hb
    have hf4 : Fr No w3 w4 := by
     rcases h4 with ⟨_, _, hf⟩ | ⟨i, _, e1, _⟩
     ·exact hf
     ·rw [hnone] at e1; cases e1
    have : I8 m.length (m, Dn m.length m.length) m.length = none := by
     have e : m.length = (c + 1) + (m.length - (c + 1)) := by omega
     have e2 : I8 m.length (m, Dn m.length m.length) (c + 1) = none := by rw [I8, hinv]; simp only [hnone]
     have := WT e2 (m.length - (c + 1))
     rw [← e] at this
     exact this
    have hnv : Ik m = none := by rw [Ik, if_pos hw, this]; rfl
    rw [hnv]
    exact ⟨_, rfl, Dh.nil _ _, (hf0.then hf3).then hf4⟩
   ·intro hb
    refine WS ?_; try with_reducible exact trivial
    obtain ⟨i, hi, hfi, hp4, hf4⟩ : ∃ i, i < m.length ∧ JS l m.length c = some i ∧ PM w4 m.length (.slice (some ⟨g, 0, none⟩) m.length cap) (swp undef vl c i) (swp [] l c i) ro (swp undef vo c i) (swp [] o c i) ∧
      Fr (fun b => (Value.slice (some ⟨g, 0, none⟩) m.length cap).ownBlock = some b ∨ ro.ownBlock = some b) w3 w4 := by
     rcases h4 with ⟨e1, _⟩ | ⟨i, h1, h2, _, h3, h5⟩
     ·rw [e1] at hb; simp at hb
     ·exact ⟨i, h1, h2, h3, h5⟩
    have hls := hp.lens
    have hnew4 : ∀ b, Og (.slice (some ⟨g, 0, none⟩) m.length cap) (swp undef vl c i) ro (swp undef vo c i) b → w0.heap.size ≤ b := fun b hb => hnew b (hb.swap (by omega) (by omega) (by omega) (by omega))
    have hf04 : Fr No w0 w4 := hf3.step hf4 fun b hb e => by
     have : Og (.slice (some ⟨g, 0, none⟩) m.length cap) vl ro vo b := by rcases e with e | e; exact .inl (.inl e); exact .inr (.inl e)
     have := hnew b this
     omega
    have hfa4 : Fp w4 w.heap.size := hfa.fr hf04 fun h => h
    refine call (Acg hp4 hlt hh hfa4 fun hb => by have := hnew4 _ hb; omega) ?_
    intro r5 w5 h5
    refine WS ?_; try with_reducible exact trivial
    obtain ⟨vl', vo', hp5, hn5, hf5⟩ := h5
    have hsz4 := hf04.size
    refine ⟨c + 1, rfl, ⟨by omega, _, _, vl', vo', ?_, hp5, fun b hb => ?_, hf04.step hf5 fun b hb e => ?_⟩, by omega⟩
    ·rw [I8, hinv]
     simp only [hfi]
    ·rcases hn5 b hb with h | h
     ·exact hnew4 b h
     ·omega
    ·have := hnew4 b e; omega
  ·refine WS ?_; try with_reducible exact trivial
   obtain ⟨hcn, l, o, vl, vo, hinv, hp, hnew, hf3⟩ := hJ
   have hcm : c = m.length := by omega
   subst hcm
   have hnv : Ik m = some o := by rw [Ik, if_pos hw, hinv]; rfl
   rw [hnv]
   exact ⟨_, rfl, (hp.newOut hnew).mono (by omega), hf0.then hf3⟩
 ·simp -dsimp (disch := omega) only [↓MC.wp, ↓BD, ↓CV, ↓MOp.wp, evs, ev, Am, BZ, BF, pev, Bl, Bv, Aq, Bz, psl, Ba, Aw, Ag, ↓BM, ↓AP, ↓DK, ↓Bf, Dy, Az, MOp.still, known, Op.operands, AA, A7, Nat.reduceAdd, reduceCtorEq, if_true, if_false, ↓reduceIte, ne_eq, Int.reduceEq, Int.reduceLT, Int.reduceLE, Int.reduceAdd, Int.reduceSub, Int.reduceMul, Int.reduceToNat, Nat.reduceMul, Nat.reduceLeDiff, Nat.reduceLT, Nat.reduceSub, WB, m_matrix_Invert, hcell0]
  rw [show Ik m = none from by rw [Ik, if_neg hw]]
  exact ⟨_, rfl, Dh.nil _ _, Fr.refl _ _⟩
end Go.Proofs.YtgpkbldlkadnjaaGreat
end
section
set_option maxHeartbeats 2000000
namespace Go.Proofs.YtgpkbldlkadnjaaGreat
open Go Go.Sl
/-! ### one step: x times 2 -/
theorem Y4 : (List.range 256).all (fun x => (List.range 256).all fun y => GV (x ^^^ y) == GV x ^^^ GV y) = true := by decide +kernel
theorem Af5 {x y : Nat} (hx : x < 256) (hy : y < 256) : GV (x ^^^ y) = GV x ^^^ GV y := by
 have := List.all_eq_true.1 (List.all_eq_true.1 Y4 x (List.mem_range.2 hx)) y (List.mem_range.2 hy)
 simpa using this

/-! ### the tables, written out -/
def Adt : List Nat := [1, 2, 4, 8, 16, 32, 64, 128, 29, 58, 116, 232, 205, 135, 19, 38, 76, 152, 45, 90, 180, 117, 234, 201, 143, 3, 6, 12, 24, 48, 96, 192, 157, 39, 78, 156, 37, 74, 148, 53, 106, 212, 181, 119, 238, 193, 159, 35, 70, 140, 5, 10, 20, 40, 80, 160, 93, 186, 105, 210, 185, 111, 222, 161, 95, 190, 97, 194, 153, 47, 94, 188, 101, 202, 137, 15, 30, 60, 120, 240, 253, 231, 211, 187, 107, 214, 177, 127, 254, 225, 223, 163, 91, 182, 113, 226, 217, 175, 67, 134, 17, 34, 68, 136, 13, 26, 52, 104, 208, 189, 103, 206, 129, 31, 62, 124, 248, 237, 199, 147, 59, 118, 236, 197, 151, 51, 102, 204, 133, 23, 46, 92, 184, 109, 218, 169, 79, 158, 33, 66, 132, 21, 42, 84, 168, 77, 154, 41, 82, 164, 85, 170, 73, 146, 57, 114, 228, 213, 183, 115, 230, 209, 191, 99, 198, 145, 63, 126, 252, 229, 215, 179, 123, 246, 241, 255, 227, 219, 171, 75, 150, 49, 98, 196, 149, 55, 110, 220, 165, 87, 174, 65, 130, 25, 50, 100, 200, 141, 7, 14, 28, 56, 112, 224, 221, 167, 83, 166, 81, 162, 89, 178, 121, 242, 249, 239, 195, 155, 43, 86, 172, 69, 138, 9, 18, 36, 72, 144, 61, 122, 244, 245, 247, 243, 251, 235, 203, 139, 11, 22, 44, 88, 176, 125, 250, 233, 207, 131, 27, 54, 108, 216, 173, 71, 142]
def logT : List Nat := [0, 0, 1, 25, 2, 50, 26, 198, 3, 223, 51, 238, 27, 104, 199, 75, 4, 100, 224, 14, 52, 141, 239, 129, 28, 193, 105, 248, 200, 8, 76, 113, 5, 138, 101, 47, 225, 36, 15, 33, 53, 147, 142, 218, 240, 18, 130, 69, 29, 181, 194, 125, 106, 39, 249, 185, 201, 154, 9, 120, 77, 228, 114, 166, 6, 191, 139, 98, 102, 221, 48, 253, 226, 152, 37, 179, 16, 145, 34, 136, 54, 208, 148, 206, 143, 150, 219, 189, 241, 210, 19, 92, 131, 56, 70, 64, 30, 66, 182, 163, 195, 72, 126, 110, 107, 58, 40, 84, 250, 133, 186, 61, 202, 94, 155, 159, 10, 21, 121, 43, 78, 212, 229, 172, 115, 243, 167, 87, 7, 112, 192, 247, 140, 128, 99, 13, 103, 74, 222, 237, 49, 197, 254, 24, 227, 165, 153, 119, 38, 184, 180, 124, 17, 68, 146, 217, 35, 32, 137, 46, 55, 63, 209, 91, 149, 188, 207, 205, 144, 135, 151, 178, 220, 252, 190, 97, 242, 86, 211, 171, 20, 42, 93, 158, 132, 60, 57, 83, 71, 109, 65, 162, 31, 45, 67, 216, 183, 123, 164, 118, 196, 23, 73, 236, 127, 12, 111, 246, 108, 161, 59, 82, 41, 157, 85, 170, 251, 96, 134, 177, 187, 204, 62, 90, 203, 89, 95, 176, 156, 169, 160, 81, 11, 245, 22, 235, 122, 117, 44, 215, 79, 174, 213, 233, 230, 231, 173, 232, 116, 214, 244, 234, 168, 80, 88, 175]
theorem Af1 : GK 255 = (Adt, logT, 1) := by decide +kernel
theorem S9 (i : Nat) : NZ i = Adt.getD i 0 := by rw [NZ, Af1]
theorem VA (a : Nat) : G8 a = logT.getD a 0 := by rw [G8, Af1]
theorem ZL : (List.range 255).all (fun i => Adt.getD ((i + 1) % 255) 0 == GV (Adt.getD i 0)) = true := by decide +kernel
theorem AbO {i : Nat} (h : i < 255) : NZ ((i + 1) % 255) = GV (NZ i) := by
 rw [S9, S9]
 have := List.all_eq_true.1 ZL i (List.mem_range.2 h)
 simpa using this
theorem AbP : (List.range 256).all (fun b => b == 0 || Adt.getD (logT.getD b 0) 0 == b) = true := by decide +kernel
theorem ZM {b : Nat} (h : b < 256) (h0 : b ≠ 0) : NZ (G8 b) = b := by
 rw [S9, VA]
 have := List.all_eq_true.1 AbP b (List.mem_range.2 h)
 simpa [h0] using this
theorem Abu : (List.range 255).all (fun i => logT.getD (Adt.getD i 0) 0 == i && Adt.getD i 0 != 0) = true := by decide +kernel
theorem Zy {i : Nat} (h : i < 255) : G8 (NZ i) = i ∧ NZ i ≠ 0 := by
 rw [VA, S9]
 have := List.all_eq_true.1 Abu i (List.mem_range.2 h)
 simpa using this
theorem AbN : NZ 0 = 1 := by rw [S9]; rfl
theorem Aiw : G8 1 = 0 := by rw [VA]; rfl

/-! ### products of numbers -/
def gmN (a b : Nat) : Nat := if a = 0 ∨ b = 0 then 0 else NZ ((G8 a + G8 b) % 255)
theorem Ag0 (a b : Nat) : gmN a b < 256 := by
 unfold gmN
 split
 ·omega
 ·exact Qn _
theorem WX (a b : Nat) : gmN a b = gmN b a := by
 unfold gmN
 rw [Nat.add_comm]
 by_cases h : a = 0 ∨ b = 0
 ·rw [if_pos h, if_pos h.symm]
 ·rw [if_neg h, if_neg fun e => h e.symm]
theorem JR (a : Nat) : gmN a 0 = 0 := by simp [gmN]
theorem LY (a : Nat) : gmN 0 a = 0 := by simp [gmN]
theorem Q3 {a b : Nat} (ha : a ≠ 0) (hb : b ≠ 0) : gmN a b = NZ ((G8 a + G8 b) % 255) := by rw [gmN, if_neg (by simp [ha, hb])]
theorem Adn {a b : Nat} (ha : a ≠ 0) (hb : b ≠ 0) : gmN a b ≠ 0 := by
 rw [Q3 ha hb]
 exact (Zy (Nat.mod_lt _ (by omega))).2
theorem Aen {a b : Nat} (ha : a ≠ 0) (hb : b ≠ 0) : G8 (gmN a b) = (G8 a + G8 b) % 255 := by
 rw [Q3 ha hb]
 exact (Zy (Nat.mod_lt _ (by omega))).1
theorem Ud (a b c : Nat) : gmN (gmN a b) c = gmN a (gmN b c) := by
 by_cases ha : a = 0
 ·subst ha; rw [LY, LY, LY]
 by_cases hb : b = 0
 ·subst hb; rw [JR, LY, JR]
 by_cases hc : c = 0
 ·subst hc; rw [JR, JR, JR]
 rw [Q3 (Adn ha hb) hc, Q3 ha (Adn hb hc), Aen ha hb, Aen hb hc]
 have e : ((G8 a + G8 b) % 255 + G8 c) % 255 = (G8 a + (G8 b + G8 c) % 255) % 255 := by omega
 rw [e]
theorem ZF {b : Nat} (hb : b < 256) : gmN 1 b = b := by
 by_cases h0 : b = 0
 ·subst h0; exact JR _
 ·rw [Q3 (by omega) h0, Aiw, Nat.zero_add, Nat.mod_eq_of_lt (OG b), ZM hb h0]
theorem Vp {x : Nat} (hx : x < 256) : GV x = gmN 2 x := by
 by_cases h0 : x = 0
 ·subst h0; rw [JR]; rfl
 ·have h2 : G8 2 = 1 := by rw [VA]; rfl
  have := AbO (OG x)
  rw [ZM hx h0] at this
  rw [Q3 (by omega) h0, h2, Nat.add_comm, this]
def steps : Nat → Nat → Nat
 | 0, x => x
 | i + 1, x => GV (steps i x)
theorem Wh {x : Nat} (hx : x < 256) : ∀ i, steps i x < 256
 | 0 => hx
 | i + 1 => Wi _ (Wh hx i)
theorem Yj {x y : Nat} (hx : x < 256) (hy : y < 256) : ∀ i, steps i (x ^^^ y) = steps i x ^^^ steps i y
 | 0 => rfl
 | i + 1 => by rw [steps, Yj hx hy i, Af5 (Wh hx i) (Wh hy i)]; rfl
theorem RQ {b : Nat} (hb : b < 256) : ∀ i, i < 255 → steps i b = gmN (NZ i) b
 | 0, _ => by rw [AbN, ZF hb]; rfl
 | i + 1, h => by
  rw [steps, RQ hb i (by omega), Vp (Ag0 _ _), ← Ud, ← Vp (Qn _), ← AbO (by omega), Nat.mod_eq_of_lt h]
theorem Aer {a b c : Nat} (ha : a < 256) (hb : b < 256) (hc : c < 256) : gmN a (b ^^^ c) = gmN a b ^^^ gmN a c := by
 by_cases h0 : a = 0
 ·subst h0; rw [LY, LY, LY]; rfl
 ·have e := ZM ha h0
  have hl := OG a
  have hx : b ^^^ c < 256 := Nat.xor_lt_two_pow (n := 8) hb hc
  rw [← e, ← RQ hx _ hl, ← RQ hb _ hl, ← RQ hc _ hl, Yj hb hc]

/-! ### the reference's product is the same -/
theorem AgZ {a : Nat} (ha : a < 256) : gmN a 1 = a := by rw [WX, ZF ha]
theorem AcR {z : Nat} (h : z < 128) : GV z = 2 * z := by rw [GV, if_neg (by omega)]
theorem AcS {x z : Nat} (hx : x < 256) (hz : z < 256) : gmN (GV x) z = gmN x (GV z) := by
 rw [Vp hx, Vp hz, WX 2 x, Ud]
theorem split2 {y : Nat} (h : y < 256) : y = (2 * (y / 2)) ^^^ (y % 2) := by
 have : (2 * (y / 2)) ^^^ (y % 2) = 2 * (y / 2) + y % 2 := by
  have h2 : (List.range 256).all (fun y => (2 * (y / 2)) ^^^ (y % 2) == 2 * (y / 2) + y % 2) = true := by decide +kernel
  have := List.all_eq_true.1 h2 y (List.mem_range.2 h)
  simpa using this
 omega
theorem Agt {a b : Nat} (ha : a < 256) (hb : b < 256) : ∀ k, (Gv a b k).2.2 ^^^ gmN (Gv a b k).1 (Gv a b k).2.1 = gmN a b
 | 0 => by show 0 ^^^ gmN a b = gmN a b; rw [Nat.zero_xor]
 | k + 1 => by
  obtain ⟨h1, h2, h3⟩ := Zf ha hb k
  rw [← Agt ha hb k]
  have e1 : (Gv a b (k + 1)).1 = GV (Gv a b k).1 := rfl
  have e2 : (Gv a b (k + 1)).2.1 = (Gv a b k).2.1 / 2 := rfl
  have e3 : (Gv a b (k + 1)).2.2 = if (Gv a b k).2.1 % 2 = 1 then (Gv a b k).2.2 ^^^ (Gv a b k).1 else (Gv a b k).2.2 := rfl
  rw [e1, e2, e3]
  generalize (Gv a b k).1 = x at *
  generalize (Gv a b k).2.1 = y at *
  generalize (Gv a b k).2.2 = o at *
  have hy : gmN x y = gmN (GV x) (y / 2) ^^^ gmN x (y % 2) := by
   conv => lhs; rw [split2 h2]
   rw [Aer h1 (by omega) (by omega), AcS h1 (by omega), AcR (by omega)]
  rw [hy]
  by_cases h : y % 2 = 1
  ·rw [if_pos h, h, AgZ h1, Nat.xor_assoc, Nat.xor_comm x]
  ·rw [if_neg h, show y % 2 = 0 from by omega, JR, Nat.xor_zero]
theorem rm_y {a b : Nat} : ∀ k, (Gv a b k).2.1 = b / 2 ^ k
 | 0 => by show b = b / 2 ^ 0; simp
 | k + 1 => by
  show (Gv a b k).2.1 / 2 = b / 2 ^ (k + 1)
  rw [rm_y k, Nat.div_div_eq_div_mul, Nat.pow_succ]
theorem rm_eq {a b : Nat} (ha : a < 256) (hb : b < 256) : (Gv a b 8).2.2 = gmN a b := by
 have := Agt ha hb 8
 rw [rm_y 8, show b / 2 ^ 8 = 0 from by omega, JR, Nat.xor_zero] at this
 exact this

/-! ### products of bytes -/
theorem G9 (a b : UInt8) : (Bh a b).toNat = gmN a.toNat b.toNat := by
 unfold Bh gmN
 by_cases h : a = 0 ∨ b = 0
 ·rw [if_pos h, if_pos (by rcases h with rfl | rfl; exact .inl rfl; exact .inr rfl)]; rfl
 ·rw [if_neg h, if_neg (by rw [IR, IR]; exact h), UInt8.toNat_ofNat', Nat.mod_eq_of_lt (Qn _)]
where IR (x : UInt8) : x.toNat = 0 ↔ x = 0 := ⟨fun h => UInt8.toNat_inj.1 h, fun h => by rw [h]; rfl⟩
theorem Vu (a b : UInt8) : Po a b = Bh a b := by
 apply UInt8.toNat_inj.1
 rw [G9, Po, rm_eq a.toNat_lt b.toNat_lt, UInt8.toNat_ofNat', Nat.mod_eq_of_lt (Ag0 _ _)]
theorem Ig (a b : UInt8) : Bh a b = Bh b a := UInt8.toNat_inj.1 (by rw [G9, G9, WX])
theorem Ee (a b c : UInt8) : Bh (Bh a b) c = Bh a (Bh b c) := UInt8.toNat_inj.1 (by rw [G9, G9, G9, G9, Ud])
theorem PG (a b c : UInt8) : Bh a (b ^^^ c) = Bh a b ^^^ Bh a c := UInt8.toNat_inj.1 (by
 rw [G9, UInt8.toNat_xor, UInt8.toNat_xor, G9, G9, Aer a.toNat_lt b.toNat_lt c.toNat_lt])
theorem O9 (a b c : UInt8) : Bh (a ^^^ b) c = Bh a c ^^^ Bh b c := by rw [Ig, PG, Ig c a, Ig c b]
theorem ER (a : UInt8) : Bh a 0 = 0 := by simp [Bh]
theorem Ei (a : UInt8) : Bh 0 a = 0 := by simp [Bh]
theorem Gx (a : UInt8) : Bh 1 a = a := UInt8.toNat_inj.1 (by rw [G9]; exact ZF a.toNat_lt)
theorem NW (a : UInt8) : Bh a 1 = a := by rw [Ig, Gx]
theorem IX {a b : UInt8} (h : Bh a b = 0) : a = 0 ∨ b = 0 := by
 by_cases ha : a.toNat = 0
 ·exact .inl (UInt8.toNat_inj.1 ha)
 ·by_cases hb : b.toNat = 0
  ·exact .inr (UInt8.toNat_inj.1 hb)
  ·exact absurd (by rw [← G9, h]; rfl) (Adn ha hb)
theorem Ag1 {a : UInt8} (h : a ≠ 0) : (FK a).toNat = NZ ((255 - G8 a.toNat) % 255) := by
 rw [FK, if_neg h, UInt8.toNat_ofNat', Nat.mod_eq_of_lt (Qn _)]
theorem LW {a : UInt8} (h : a ≠ 0) : Bh a (FK a) = 1 := by
 apply UInt8.toNat_inj.1
 have ha : a.toNat ≠ 0 := fun e => h (UInt8.toNat_inj.1 e)
 have hl := OG a.toNat
 have h2 := Zy (i := (255 - G8 a.toNat) % 255) (Nat.mod_lt _ (by omega))
 rw [G9, Ag1 h, Q3 ha h2.2, h2.1, show (G8 a.toNat + (255 - G8 a.toNat) % 255) % 255 = 0 from by omega, AbN]
 rfl
theorem Ue {a : UInt8} (h : a ≠ 0) : Bh (FK a) a = 1 := by rw [Ig, LW h]
theorem VC {a : UInt8} (h : a ≠ 0) : FK a ≠ 0 := fun e => by have := LW h; rw [e, ER] at this; exact absurd this (by decide)
theorem Aib (a : UInt8) : Zh a = FK a := by
 by_cases h : a = 0
 ·subst h
  have : (List.range 256).find? (fun b => decide (1 ≤ b) && (Po 0 (UInt8.ofNat b) == 1)) = none := by
   rw [List.find?_eq_none]
   intro j _
   rw [Vu, Ei]
   simp
  rw [Zh, this]
  rfl
 ·have key : ∀ j, j < 256 → Po a (UInt8.ofNat j) = 1 → UInt8.ofNat j = FK a := fun j hj e => by
   rw [Vu] at e
   have : Bh (FK a) (Bh a (UInt8.ofNat j)) = FK a := by rw [e, NW]
   rw [← Ee, Ue h, Gx] at this
   exact this
  have hex : ∃ b, (List.range 256).find? (fun b => decide (1 ≤ b) && (Po a (UInt8.ofNat b) == 1)) = some b := by
   cases hf : (List.range 256).find? (fun b => decide (1 ≤ b) && (Po a (UInt8.ofNat b) == 1)) with
   | some b => exact ⟨b, rfl⟩
   | none =>
    rw [List.find?_eq_none] at hf
    have hg := (FK a).toNat_lt
    have h1 : 1 ≤ (FK a).toNat := by
     have : (FK a).toNat ≠ 0 := fun e => VC h (UInt8.toNat_inj.1 e)
     omega
    have := hf (FK a).toNat (List.mem_range.2 hg)
    rw [UInt8.ofNat_toNat, Vu, LW h] at this
    simp [h1] at this
  obtain ⟨b, hb⟩ := hex
  rw [Zh, hb]
  have hp := List.find?_some hb
  have hm := List.mem_range.1 (List.mem_of_find?_eq_some hb)
  simp only [Bool.and_eq_true, decide_eq_true_eq, beq_iff_eq] at hp
  exact key b hm hp.2

end Go.Proofs.YtgpkbldlkadnjaaGreat
end
section
set_option maxHeartbeats 3000000
attribute [local irreducible] Go.Sl.Chk Go.Sl.Br Go.Sl.Ld Go.Sl.Ldn Go.Sl.LdB Go.Sl.Stn Go.Sl.New Go.Sl.Run Go.Sl.Ec Go.Sl.D9 Go.Sl.Call Go.Sl.Cc Go.Sl.Ed Go.Sl.Alt Go.Sl.ev Go.Sl.Am
namespace Go.Proofs.YtgpkbldlkadnjaaGreat
open Go Go.Sl Go.RowKit

end Go.Proofs.YtgpkbldlkadnjaaGreat
end
section
set_option maxHeartbeats 3000000
attribute [local irreducible] Go.Sl.Chk Go.Sl.Br Go.Sl.Or2 Go.Sl.Ld Go.Sl.Ldn Go.Sl.LdB Go.Sl.Stn Go.Sl.New Go.Sl.Run Go.Sl.Ec Go.Sl.D9 Go.Sl.Call Go.Sl.Cc Go.Sl.Ed Go.Sl.Alt Go.Sl.Om Go.Sl.xpk Go.Sl.EX Go.Sl.EY Go.Sl.DLd Go.Sl.ES Go.Sl.DBs Go.Sl.Bo Go.Sl.Et Go.Sl.Es Go.Sl.Dk Go.Sl.DGC Go.Sl.Dq Go.Sl.Fj Go.Sl.D8 Go.Sl.Ent Go.Sl.Bg Go.Sl.dv Go.Sl.ev Go.Sl.Am
namespace Go.Proofs.YtgpkbldlkadnjaaGreat
open Go Go.Sl Go.RowKit
theorem Dh.rs {w w' : World} {Z : Nat → Prop} {T : Nat → Option Value} {r : Value} {m : LL} (h : Dh w.heap.size w' r m) : Rs w' (Zn Z w w') T (CY m) r := by
 obtain ⟨vs, h1, h2, h3⟩ := h
 exact Ae0 h1.len h1.spine h1.row fun b hb => .inr ⟨h3 b hb, h1.lt hb⟩
theorem Aic (m : LL) (hl : m.length ≤ 1000000) : ED Tryz.prog JY [CY m] (AO (Me m)) :=
 AiC fun w Z T vs hz hrs => by obtain ⟨v, rfl, hv⟩ := JL hrs; exact Abe (SS hv hz) (Nat.le_refl _) hl
theorem mmul_d (a b : LL) (ra : Ea a) (rb : Ea b) (sa : Nw a) (sb : Nw b) : ED Tryz.prog IY [CY a, CY b] (CY (Gy a b)) :=
 MQ fun w Z T vs hz hrs => by
  obtain ⟨v, u, rfl, hv, hu⟩ := Pn hrs
  exact (WM (SS hv hz) (SS hu hz) (Nat.le_refl _) (Nat.le_refl _) ra rb sa sb).mono fun en w' ⟨r, he, h1, h2⟩ => ⟨r, he, h2, h1.rs⟩
theorem Aia (a b : LL) (ra : Ea a) (rb : Ea b) (sa : Nw a) (sb : Nw b) : ED Tryz.prog Nj [CY a, CY b] (CY (UL a b)) :=
 MQ fun w Z T vs hz hrs => by
  obtain ⟨v, u, rfl, hv, hu⟩ := Pn hrs
  exact (Abd (SS hv hz) (SS hu hz) ra rb sa sb).mono fun en w' ⟨r, he, h1, h2⟩ => ⟨r, he, h2, h1.rs⟩
theorem Acb (k n : Nat) (hk : k ≤ 1000) (hn : n ≤ 1000) : ED Tryz.prog GR [iD k, iD n] (CY (Dn k n)) :=
 MQ fun w Z T vs hz hrs => by
  obtain ⟨v, u, rfl, hv, hu⟩ := Pn hrs
  simp only [Rs] at hv hu
  subst hv; subst hu
  exact (Tt k n hk hn).mono fun en w' ⟨r, he, h1, h2⟩ => ⟨r, he, h2, h1.rs⟩
theorem Afa (k n : Nat) (hk : k ≤ 1000) (hn : n ≤ 1000) : ED Tryz.prog JW [iD k, iD n] (CY (Qh k n)) :=
 MQ fun w Z T vs hz hrs => by
  obtain ⟨v, u, rfl, hv, hu⟩ := Pn hrs
  simp only [Rs] at hv hu
  subst hv; subst hu
  exact (XT k n hk hn).mono fun en w' ⟨r, he, h1, h2⟩ => ⟨r, he, h2, h1.rs⟩
theorem Agr (m : LL) (is : List Int) (hn : m.length ≤ 1000000) (hl : ∀ x ∈ m, x.length ≤ 1000000) (hi : is.length ≤ 1000000) : ED Tryz.prog Jj [CY m, CU is] (CY (pick m is)) :=
 MQ fun w Z T vs hz hrs => by
  obtain ⟨v, u, rfl, hv, hu⟩ := Pn hrs
  exact (Ac7 (SS hv hz) (Aiy hu hz) (Nat.le_refl _) (Nat.le_refl _) hn hl hi).mono fun en w' ⟨r, he, h1, h2⟩ => ⟨r, he, h2, h1.rs⟩
theorem AgW (m : LL) (rm : Ea m) (sm : Nw m) : ED Tryz.prog Jr [CY m] (.tup [CY ((Ik m).getD []), AO (Ik m).isSome]) :=
 MQ fun w Z T vs hz hrs => by
  obtain ⟨v, rfl, hv⟩ := JL hrs
  exact (ZA (SS hv hz) (Nat.le_refl _) rm sm).mono fun en w' ⟨r, he, r1, h0, h1, h2⟩ => ⟨r, he, h2, by
   subst h0
   rw [Rs]
   exact ⟨[r1, _], rfl, by simp only [RsL]; exact ⟨r1, _, rfl, h1.rs, _, _, rfl, by simp only [Rs], rfl⟩⟩⟩
end Go.Proofs.YtgpkbldlkadnjaaGreat
end
section
namespace Go.Sl
theorem NG {o : Option D} {K : D → Prop} {t : BQ K} (h : K .dead) : ES false o K t := ⟨.dead, fun h => (by cases h), h⟩
theorem dbs {xs : List UInt8} {n : Nat} {K : List UInt8 → Prop} {t : BQ K} (hn : xs.length = n) (h : K xs) : DBs (xs.map bD) n K t := ⟨xs, hn, by rw [← hn]; exact List.take_of_length_le (by simp), h⟩
theorem DB : type_of% (And.intro (And.intro (And.intro (And.intro (And.intro (And.intro (And.intro @AeK @LK) (And.intro @Bool.true_and @Bool.false_and)) (And.intro (And.intro @AdT @AdU) (And.intro @AdV (And.intro @Aey @nat0)))) (And.intro (And.intro (And.intro @nat1 @Int.cast_ofNat_Int) (And.intro @Int.sub_zero @Nat.sub_zero)) (And.intro (And.intro @Int.add_zero @Int.zero_add) (And.intro @TL (And.intro @TM @YV))))) (And.intro (And.intro (And.intro (And.intro @TN @Aa) (And.intro @Ac @AV)) (And.intro (And.intro @CE @AX) (And.intro @Bj (And.intro @List.toList_toArray.{0} @Vz)))) (And.intro (And.intro (And.intro @SG @Vw) (And.intro @Vx @Qk)) (And.intro (And.intro @SE @SB) (And.intro @SC (And.intro @Ql @Vy)))))) (And.intro (And.intro (And.intro (And.intro (And.intro @TG @Aat) (And.intro @VJ @TI)) (And.intro (And.intro @Aau @Aav) (And.intro @VK (And.intro @VN @AeG)))) (And.intro (And.intro (And.intro @AeH @SI) (And.intro @Tn @Qq)) (And.intro (And.intro @Ael @Aem) (And.intro @ndec (And.intro @dect @decf))))) (And.intro (And.intro (And.intro (And.intro @AgL @Zk) (And.intro @Zl @take1)) (And.intro (And.intro @drop1 @Ad0) (And.intro @Aev (And.intro @Qz @List.append_nil.{0})))) (And.intro (And.intro (And.intro @Aah @Aai) (And.intro @Aaj (And.intro @Aak @Aal))) (And.intro (And.intro @Aam @Aan) (And.intro @Aao (And.intro @H7 @J5))))))) (And.intro (And.intro (And.intro (And.intro (And.intro (And.intro @AcD @AeN) (And.intro @YT @AcE)) (And.intro (And.intro @wrap_i64 @RJ) (And.intro @RI (And.intro @Nat.zero_add @Nat.add_zero)))) (And.intro (And.intro (And.intro @Nat.mul_one @Nat.one_mul) (And.intro @Int.toNat_natCast @Qw)) (And.intro (And.intro @OY @Qs) (And.intro @Qu (And.intro @Ns @cells_func))))) (And.intro (And.intro (And.intro (And.intro @OW @OX) (And.intro @Nu @Qv)) (And.intro (And.intro @Qx @RX) (And.intro @Ov (And.intro @List.length_cons.{0} @List.length_nil.{0})))) (And.intro (And.intro (And.intro @List.length_map.{0, 0} @List.cons_append.{0}) (And.intro @List.nil_append.{0} (And.intro @List.map_cons.{0, 0} @List.map_nil.{0, 0}))) (And.intro (And.intro @List.set_cons_zero.{0} @List.set_cons_succ.{0}) (And.intro @List.take_succ_cons.{0} (And.intro @List.take_zero.{0} @List.drop_succ_cons.{0})))))) (And.intro (And.intro (And.intro (And.intro (And.intro @List.all_cons.{0} @List.all_nil.{0}) (And.intro @List.drop_zero.{0} @List.getElem?_drop.{0})) (And.intro (And.intro @List.getElem?_map.{0, 0} @Option.map_some.{0, 0}) (And.intro @and_self (And.intro @and_true @true_and)))) (And.intro (And.intro (And.intro @not_false_eq_true @not_true_eq_false) (And.intro @Option.toList_some.{0} @Option.toList_none.{0})) (And.intro (And.intro @Option.isSome_some.{0} @Option.isSome_none.{0}) (And.intro @decide_true (And.intro @decide_false @List.getElem?_cons_zero.{0}))))) (And.intro (And.intro (And.intro (And.intro @List.getElem?_cons_succ.{0} @Bool.and_true) (And.intro @Bool.and_self @Bool.true_and)) (And.intro (And.intro @Bool.and_false @Bool.false_and) (And.intro @U4 (And.intro @LK @imp_self)))) (And.intro (And.intro (And.intro @AaL @YH) (And.intro @List.not_mem_nil.{0} (And.intro @List.mem_cons.{0} @or_false))) (And.intro (And.intro @false_or @Nat.le_refl) (And.intro @Yw (And.intro @Acz @YP)))))))) := And.intro (And.intro (And.intro (And.intro (And.intro (And.intro (And.intro @AeK @LK) (And.intro @Bool.true_and @Bool.false_and)) (And.intro (And.intro @AdT @AdU) (And.intro @AdV (And.intro @Aey @nat0)))) (And.intro (And.intro (And.intro @nat1 @Int.cast_ofNat_Int) (And.intro @Int.sub_zero @Nat.sub_zero)) (And.intro (And.intro @Int.add_zero @Int.zero_add) (And.intro @TL (And.intro @TM @YV))))) (And.intro (And.intro (And.intro (And.intro @TN @Aa) (And.intro @Ac @AV)) (And.intro (And.intro @CE @AX) (And.intro @Bj (And.intro @List.toList_toArray.{0} @Vz)))) (And.intro (And.intro (And.intro @SG @Vw) (And.intro @Vx @Qk)) (And.intro (And.intro @SE @SB) (And.intro @SC (And.intro @Ql @Vy)))))) (And.intro (And.intro (And.intro (And.intro (And.intro @TG @Aat) (And.intro @VJ @TI)) (And.intro (And.intro @Aau @Aav) (And.intro @VK (And.intro @VN @AeG)))) (And.intro (And.intro (And.intro @AeH @SI) (And.intro @Tn @Qq)) (And.intro (And.intro @Ael @Aem) (And.intro @ndec (And.intro @dect @decf))))) (And.intro (And.intro (And.intro (And.intro @AgL @Zk) (And.intro @Zl @take1)) (And.intro (And.intro @drop1 @Ad0) (And.intro @Aev (And.intro @Qz @List.append_nil.{0})))) (And.intro (And.intro (And.intro @Aah @Aai) (And.intro @Aaj (And.intro @Aak @Aal))) (And.intro (And.intro @Aam @Aan) (And.intro @Aao (And.intro @H7 @J5))))))) (And.intro (And.intro (And.intro (And.intro (And.intro (And.intro @AcD @AeN) (And.intro @YT @AcE)) (And.intro (And.intro @wrap_i64 @RJ) (And.intro @RI (And.intro @Nat.zero_add @Nat.add_zero)))) (And.intro (And.intro (And.intro @Nat.mul_one @Nat.one_mul) (And.intro @Int.toNat_natCast @Qw)) (And.intro (And.intro @OY @Qs) (And.intro @Qu (And.intro @Ns @cells_func))))) (And.intro (And.intro (And.intro (And.intro @OW @OX) (And.intro @Nu @Qv)) (And.intro (And.intro @Qx @RX) (And.intro @Ov (And.intro @List.length_cons.{0} @List.length_nil.{0})))) (And.intro (And.intro (And.intro @List.length_map.{0, 0} @List.cons_append.{0}) (And.intro @List.nil_append.{0} (And.intro @List.map_cons.{0, 0} @List.map_nil.{0, 0}))) (And.intro (And.intro @List.set_cons_zero.{0} @List.set_cons_succ.{0}) (And.intro @List.take_succ_cons.{0} (And.intro @List.take_zero.{0} @List.drop_succ_cons.{0})))))) (And.intro (And.intro (And.intro (And.intro (And.intro @List.all_cons.{0} @List.all_nil.{0}) (And.intro @List.drop_zero.{0} @List.getElem?_drop.{0})) (And.intro (And.intro @List.getElem?_map.{0, 0} @Option.map_some.{0, 0}) (And.intro @and_self (And.intro @and_true @true_and)))) (And.intro (And.intro (And.intro @not_false_eq_true @not_true_eq_false) (And.intro @Option.toList_some.{0} @Option.toList_none.{0})) (And.intro (And.intro @Option.isSome_some.{0} @Option.isSome_none.{0}) (And.intro @decide_true (And.intro @decide_false @List.getElem?_cons_zero.{0}))))) (And.intro (And.intro (And.intro (And.intro @List.getElem?_cons_succ.{0} @Bool.and_true) (And.intro @Bool.and_self @Bool.true_and)) (And.intro (And.intro @Bool.and_false @Bool.false_and) (And.intro @U4 (And.intro @LK @imp_self)))) (And.intro (And.intro (And.intro @AaL @YH) (And.intro @List.not_mem_nil.{0} (And.intro @List.mem_cons.{0} @or_false))) (And.intro (And.intro @false_or @Nat.le_refl) (And.intro @Yw (And.intro @Acz @YP)))))))
theorem WK {p q : Prop} (h : q) (e : p = q := by conv => lhs; simp -dsimp (disch := omega) only [↓MC.xwp, ↓Ce, ↓xdr, ↓MOp.xwp, dvs, dv, dvu, dvo, dvp, dgb, dGd, DX, cond_true, cond_false, Gf, Bg, CQ, Dp, DD, Du, ptr, bsc, cv, uo, uof, Bq, xpr, DL, EL, FM, FB, Gi, FT, Gj, xst, xgp, glc, F8, DV, FY, FZ, FW, FX, DU, FV, FN, FU, DN, DR, Cj, Dw, Fv, dsl, dif, BV, CP, BI, scs, rowOf, AU, dtk, DC, BJ, pev, Bl, Bv, Aq, Bz, psl, Ba, ↓DI, ↓CB, ↓FP, ↓Fq, Dz, FD, FC, Dj, BG, kp, Di, Dv, E9, Dt, FI, CZ, AQ, BB, nb, Fe, Cb, Bd, apart, Aj, Bc, heldOk, Op.operands, Nat.reduceAdd, forall_eq_or_imp, D.plain, reduceCtorEq, if_true, if_false, ↓reduceIte, ne_eq, Bool.cond_true, Bool.cond_false, forall_const, implies_true, forall_eq, Int.reduceEq, Int.reduceLT, Int.reduceLE, Int.reduceAdd, Int.reduceSub, Int.reduceMul, Int.reduceToNat, Nat.reduceMul, Nat.reduceLeDiff, Nat.reduceLT, Nat.reduceSub, Nat.reduceBEq, Nat.reduceEqDiff, CY, bytesD, iD, CU, AO, BC, bD, DB]) : p := e.mpr h
theorem WKX {p q c : Prop} (x : c) (h : q) (e : c → p = q := by intro x; conv => lhs; simp -dsimp (disch := omega) only [↓MC.xwp, ↓Ce, ↓xdr, ↓MOp.xwp, dvs, dv, dvu, dvo, dvp, dgb, dGd, DX, cond_true, cond_false, Gf, Bg, CQ, Dp, DD, Du, ptr, bsc, cv, uo, uof, Bq, xpr, DL, EL, FM, FB, Gi, FT, Gj, xst, xgp, glc, F8, DV, FY, FZ, FW, FX, DU, FV, FN, FU, DN, DR, Cj, Dw, Fv, dsl, dif, BV, CP, BI, scs, rowOf, AU, dtk, DC, BJ, pev, Bl, Bv, Aq, Bz, psl, Ba, ↓DI, ↓CB, ↓FP, ↓Fq, Dz, FD, FC, Dj, BG, kp, Di, Dv, E9, Dt, FI, CZ, AQ, BB, nb, Fe, Cb, Bd, apart, Aj, Bc, heldOk, Op.operands, Nat.reduceAdd, forall_eq_or_imp, D.plain, reduceCtorEq, if_true, if_false, ↓reduceIte, ne_eq, Bool.cond_true, Bool.cond_false, forall_const, implies_true, forall_eq, Int.reduceEq, Int.reduceLT, Int.reduceLE, Int.reduceAdd, Int.reduceSub, Int.reduceMul, Int.reduceToNat, Nat.reduceMul, Nat.reduceLeDiff, Nat.reduceLT, Nat.reduceSub, Nat.reduceBEq, Nat.reduceEqDiff, CY, bytesD, iD, CU, AO, BC, bD, DB, x]) : p := (e x).mpr h
theorem WKR {p q : Prop} (h : q) (e : p = q := by conv => lhs; simp -dsimp (disch := omega) only [↓MC.xwp, ↓Ce, ↓xdr, ↓MOp.xwp, dvs, dv, dvu, dvo, dvp, dgb, dGd, DX, cond_true, cond_false, Gf, Bg, CQ, Dp, DD, Du, ptr, bsc, cv, uo, uof, Bq, xpr, DL, EL, FM, FB, Gi, FT, Gj, xst, xgp, glc, F8, DV, FY, FZ, FW, FX, DU, FV, FN, FU, DN, DR, Cj, Dw, Fv, dsl, dif, BV, CP, BI, scs, rowOf, AU, dtk, DC, BJ, pev, Bl, Bv, Aq, Bz, psl, Ba, ↓DI, ↓CB, ↓FP, ↓Fq, Dz, FD, FC, Dj, BG, kp, Di, Dv, E9, Dt, FI, CZ, AQ, BB, nb, Fe, Cb, Bd, apart, Aj, Bc, heldOk, Op.operands, Nat.reduceAdd, forall_eq_or_imp, D.plain, reduceCtorEq, if_true, if_false, ↓reduceIte, ne_eq, Bool.cond_true, Bool.cond_false, forall_const, implies_true, forall_eq, Int.reduceEq, Int.reduceLT, Int.reduceLE, Int.reduceAdd, Int.reduceSub, Int.reduceMul, Int.reduceToNat, Nat.reduceMul, Nat.reduceLeDiff, Nat.reduceLT, Nat.reduceSub, Nat.reduceBEq, Nat.reduceEqDiff, CY, bytesD, iD, CU, AO, BC, bD, DB, EQ]) : p := e.mpr h
end Go.Sl
end
section
set_option maxHeartbeats 2000000
namespace Go.Proofs.YtgpkbldlkadnjaaGreat
open Go Go.Sl
def xs (f : Nat → UInt8) : Nat → UInt8
 | 0 => 0
 | k + 1 => xs f k ^^^ f k
theorem EE {f g : Nat → UInt8} : ∀ {k : Nat}, (∀ i, i < k → f i = g i) → xs f k = xs g k
 | 0, _ => rfl
 | k + 1, h => by rw [xs, xs, EE fun i hi => h i (by omega), h k (by omega)]
theorem TK : ∀ (a b : List UInt8) (j : Nat), j < a.length → j < b.length → (La a b).getD j 0 = a.getD j 0 ^^^ b.getD j 0
 | [], _, j, h, _ => by simp at h
 | a :: at1, [], j, _, h => by simp at h
 | a :: at1, b :: bs, 0, _, _ => by simp [La]
 | a :: at1, b :: bs, j + 1, h, h' => by
  have := TK at1 bs j (by simpa using h) (by simpa using h')
  simpa [La] using this
theorem WO (f : UInt8 → UInt8) (l : List UInt8) (j : Nat) (h : j < l.length) : (l.map f).getD j 0 = f (l.getD j 0) := by
 rw [AY 0 h, AY 0 (by simpa using h)]
 simp
theorem QT {b : LL} {r : List UInt8} {wd j : Nat} (hj : j < wd) : ∀ {k : Nat}, (∀ i, i < k → (b.getD i []).length = wd) → (IC b r wd k).getD j 0 = xs (fun i => Bh (r.getD i 0) (entry b i j)) k
 | 0, _ => by rw [IC, xs, AY 0 (by simpa using hj)]; simp
 | k + 1, h => by
  have hk := h k (by omega)
  rw [IC, xs, TK _ _ _ (by rw [EW]; exact hj) (by rw [List.length_map, hk]; exact hj), QT hj fun i hi => h i (by omega), WO _ _ _ (by omega)]
  rfl
theorem Md {b : LL} (rb : Ea b) {i : Nat} (h : i < b.length) : (b.getD i []).length = width b := by rw [AY [] h]; exact rb.all _ (List.getElem_mem h)
theorem Abv {a b : List UInt8} (h : a.length = b.length) (he : ∀ j, j < a.length → a.getD j 0 = b.getD j 0) : a = b := by
 apply List.ext_getElem h
 intro j h1 h2
 have := he j h1
 rw [AY 0 h1, AY 0 h2] at this
 exact this
theorem Ait {a b : LL} (h : a.length = b.length) (hw : ∀ i, i < a.length → (a.getD i []).length = (b.getD i []).length) (he : ∀ i j, i < a.length → j < (a.getD i []).length → entry a i j = entry b i j) : a = b := by
 apply List.ext_getElem h
 intro i h1 h2
 have e1 := AY [] h1
 have e2 := AY [] h2
 rw [← e1, ← e2]
 exact Abv (hw i h1) fun j hj => he i j h1 hj
theorem AgN {a b : LL} (hw : width a = b.length) {i : Nat} (hi : i < a.length) : (Gy a b).getD i [] = IC b (a.getD i []) (width b) (a.getD i []).length := by
 rw [Gy, if_pos hw, AY [] (by simpa using hi), AY [] hi]
 simp
theorem UU {a b : LL} (hw : width a = b.length) : (Gy a b).length = a.length := by rw [Gy, if_pos hw]; simp
theorem Kt {a b : LL} (ra : Ea a) (rb : Ea b) (hw : width a = b.length) {i j : Nat} (hi : i < a.length) (hj : j < width b) : entry (Gy a b) i j = xs (fun k => Bh (entry a i k) (entry b k j)) b.length := by
 have hl := Md ra hi
 rw [entry, AgN hw hi, hl, hw, QT hj fun k hk => Md rb hk]
 rfl
theorem Aeh (r : List UInt8) (b : LL) (j : Nat) : ∀ k, Su r b j k = xs (fun i => Bh (r.getD i 0) (entry b i j)) k
 | 0 => rfl
 | k + 1 => by rw [Su, xs, Aeh r b j k, Vu]
theorem mul_eq {a b : LL} (ra : Ea a) (rb : Ea b) : Gy a b = UL a b := by
 by_cases hw : width a = b.length
 ·rw [Gy, UL, if_pos hw, if_pos hw]
  apply List.map_congr_left
  intro r hr
  have hrl : r.length = b.length := by rw [ra.all r hr, hw]
  apply Abv
  ·rw [EW, rrow]; simp
  ·intro j hj
   rw [EW] at hj
   rw [QT hj fun k hk => Md rb (by omega), rrow, AY 0 (by simpa using hj)]
   simp only [List.getElem_map, List.getElem_range]
   rw [Aeh, hrl]
 ·rw [Gy, UL, if_neg hw, if_neg hw]
end Go.Proofs.YtgpkbldlkadnjaaGreat
end
section
namespace Go.Proofs.YtgpkbldlkadnjaaGreat
open Go Go.Sl
theorem MX (a b c : UInt8) : (a ^^^ b) ^^^ c = a ^^^ (b ^^^ c) := UInt8.xor_assoc a b c
theorem VQ (a b : UInt8) : a ^^^ b = b ^^^ a := UInt8.xor_comm a b
theorem Le (a : UInt8) : a ^^^ a = 0 := UInt8.xor_self
theorem Hq (a : UInt8) : a ^^^ 0 = a := UInt8.xor_zero
theorem O8 (a : UInt8) : 0 ^^^ a = a := UInt8.zero_xor
theorem x4 (a b c d : UInt8) : (a ^^^ b) ^^^ (c ^^^ d) = (a ^^^ c) ^^^ (b ^^^ d) := by
 rw [MX, MX, ← MX b c d, VQ b c, MX c b d]
theorem AaG {a b : UInt8} (h : a ^^^ b = 0) : a = b := by
 have : (a ^^^ b) ^^^ b = b := by rw [h, O8]
 rwa [MX, Le, Hq] at this

theorem Qc : ∀ (n : Nat) {f : Nat → UInt8}, (∀ i, i < n → f i = 0) → xs f n = 0
 | 0, f, _ => rfl
 | n + 1, f, h => by rw [xs, Qc n fun i hi => h i (by omega), h n (by omega), Hq]
theorem QP (f g : Nat → UInt8) : ∀ n, xs (fun i => f i ^^^ g i) n = xs f n ^^^ xs g n
 | 0 => (Hq 0).symm
 | n + 1 => by rw [xs, xs, xs, QP f g n, x4]
theorem Oj (a : UInt8) (f : Nat → UInt8) : ∀ n, Bh a (xs f n) = xs (fun i => Bh a (f i)) n
 | 0 => ER a
 | n + 1 => by rw [xs, xs, PG, Oj a f n]
theorem AgM (a : UInt8) (f : Nat → UInt8) (n : Nat) : Bh (xs f n) a = xs (fun i => Bh (f i) a) n := by
 rw [Ig, Oj]
 exact EE fun i _ => Ig a (f i)
theorem TJ (f : Nat → Nat → UInt8) (m : Nat) : ∀ n, xs (fun i => xs (fun j => f i j) m) n = xs (fun j => xs (fun i => f i j) n) m
 | 0 => (Qc m fun _ _ => rfl).symm
 | n + 1 => by
  rw [xs, TJ f m n, ← QP]
  rfl
theorem KY {f : Nat → UInt8} {c : Nat} : ∀ {n : Nat}, c < n → (∀ i, i < n → i ≠ c → f i = 0) → xs f n = f c
 | n + 1, hc, h => by
  rw [xs]
  by_cases e : c = n
  ·subst e
   rw [Qc c fun i hi => h i (by omega) (by omega), O8]
  ·rw [KY (by omega) fun i hi hn => h i (by omega) hn, h n (by omega) (by omega), Hq]
/-! ### determinants -/
abbrev Mx := Nat → Nat → UInt8
def skip (i r : Nat) : Nat := if r < i then r else r + 1
def DF (A : Mx) (i : Nat) : Mx := fun r c => A (skip i r) (c + 1)
def EO : Nat → Mx → UInt8
 | 0, _ => 1
 | n + 1, A => xs (fun i => Bh (A i 0) (EO n (DF A i))) (n + 1)
theorem Ey : ∀ (n : Nat) {A B : Mx}, (∀ i j, i < n → j < n → A i j = B i j) → EO n A = EO n B
 | 0, A, B, _ => rfl
 | n + 1, A, B, h => by
  rw [EO, EO]
  refine EE fun i hi => ?_
  rw [h i 0 hi (by omega), Ey n (A := DF A i) (B := DF B i) fun r c hr hc => ?_]
  refine h _ _ ?_ (by omega)
  unfold skip; split <;> omega
def Gu (A : Mx) (k : Nat) (u : Nat → UInt8) : Mx := fun i j => if i = k then u j else A i j
theorem Mc {A : Mx} {k i : Nat} {u : Nat → UInt8} (h : i ≠ k) : ∃ k', (k < i → k' = k) ∧ (i < k → k' + 1 = k) ∧ ∀ r c, DF (Gu A k u) i r c = Gu (DF A i) k' (fun c => u (c + 1)) r c := by
 refine ⟨if k < i then k else k - 1, fun h => by rw [if_pos h], fun h => by rw [if_neg (by omega)]; omega, fun r c => ?_⟩
 unfold DF Gu skip
 by_cases h1 : r < i <;> by_cases h2 : k < i
 ·simp [h1, h2]
 ·simp only [h1, h2, if_true, if_false]
  rw [if_neg (by omega), if_neg (by omega)]
 ·simp only [h1, h2, if_true, if_false]
  rw [if_neg (by omega), if_neg (by omega)]
 ·simp only [h1, h2, if_false]
  by_cases h3 : r + 1 = k
  ·rw [if_pos h3, if_pos (by omega)]
  ·rw [if_neg h3, if_neg (by omega)]
theorem O0 (A : Mx) (k : Nat) (u : Nat → UInt8) (r c : Nat) : DF (Gu A k u) k r c = DF A k r c := by
 unfold DF Gu
 rw [if_neg]
 unfold skip; split <;> omega
theorem PV : ∀ (n : Nat) (A : Mx) (k : Nat) (u v : Nat → UInt8), k < n → EO n (Gu A k fun j => u j ^^^ v j) = EO n (Gu A k u) ^^^ EO n (Gu A k v)
 | n + 1, A, k, u, v, hk => by
  rw [EO, EO, EO, ← QP]
  refine EE fun i hi => ?_
  by_cases h : i = k
  ·subst h
   have e : ∀ w, EO n (DF (Gu A i w) i) = EO n (DF A i) := fun w => Ey n fun r c _ _ => O0 A i w r c
   rw [e, e, e]
   simp only [Gu, if_true]
   exact O9 _ _ _
  ·obtain ⟨k', h1, h2, h3⟩ := Mc (A := A) (u := fun j => u j ^^^ v j) h
   obtain ⟨k2, g1, g2, g3⟩ := Mc (A := A) (u := u) h
   obtain ⟨k3, f1, f2, f3⟩ := Mc (A := A) (u := v) h
   have e1 : k2 = k' := by rcases Nat.lt_or_gt_of_ne h with q | q; have := h2 q; have := g2 q; omega; have := h1 q; have := g1 q; omega
   have e2 : k3 = k' := by rcases Nat.lt_or_gt_of_ne h with q | q; have := h2 q; have := f2 q; omega; have := h1 q; have := f1 q; omega
   subst e1; subst e2
   rw [Ey n fun r c _ _ => h3 r c, Ey n (A := DF (Gu A k u) i) fun r c _ _ => g3 r c, Ey n (A := DF (Gu A k v) i) fun r c _ _ => f3 r c]
   rw [PV n (DF A i) k3 (fun c => u (c + 1)) (fun c => v (c + 1)) (by rcases Nat.lt_or_gt_of_ne h with q | q; have := h2 q; omega; have := h1 q; omega)]
   simp only [Gu, if_neg h]
   exact PG _ _ _
theorem Rf : ∀ (n : Nat) (A : Mx) (k : Nat) (s : UInt8) (u : Nat → UInt8), k < n → EO n (Gu A k fun j => Bh s (u j)) = Bh s (EO n (Gu A k u))
 | n + 1, A, k, s, u, hk => by
  rw [EO, EO, Oj]
  refine EE fun i hi => ?_
  by_cases h : i = k
  ·subst h
   have e : ∀ w, EO n (DF (Gu A i w) i) = EO n (DF A i) := fun w => Ey n fun r c _ _ => O0 A i w r c
   rw [e, e]
   simp only [Gu, if_true]
   exact Ee _ _ _
  ·obtain ⟨k', h1, h2, h3⟩ := Mc (A := A) (u := fun j => Bh s (u j)) h
   obtain ⟨k2, g1, g2, g3⟩ := Mc (A := A) (u := u) h
   have e1 : k2 = k' := by rcases Nat.lt_or_gt_of_ne h with q | q; have := h2 q; have := g2 q; omega; have := h1 q; have := g1 q; omega
   subst e1
   rw [Ey n fun r c _ _ => h3 r c, Ey n (A := DF (Gu A k u) i) fun r c _ _ => g3 r c]
   rw [Rf n (DF A i) k2 s (fun c => u (c + 1)) (by rcases Nat.lt_or_gt_of_ne h with q | q; have := h2 q; omega; have := h1 q; omega)]
   simp only [Gu, if_neg h]
   rw [← Ee, ← Ee, Ig (A i 0) s]
theorem AeX (A : Mx) (k i j : Nat) : Gu A k (A k) i j = A i j := by
 unfold Gu; split
 ·rename_i h; rw [h]
 ·rfl
theorem AeY (A : Mx) {a b : Nat} (h : a ≠ b) (u v : Nat → UInt8) (i j : Nat) : Gu (Gu A a u) b v i j = Gu (Gu A b v) a u i j := by
 unfold Gu
 by_cases h1 : i = a
 ·subst h1; rw [if_neg h, if_pos rfl, if_pos rfl]
 ·rw [if_neg h1, if_neg h1]
def Alt (n : Nat) : Prop := ∀ (A : Mx) (a b : Nat), a < n → b < n → a ≠ b → (∀ j, j < n → A a j = A b j) → EO n A = 0
theorem AfC {n : Nat} (hA : Alt n) (A : Mx) {a b : Nat} (ha : a < n) (hb : b < n) (hab : a ≠ b) : EO n (Gu (Gu A a (A b)) b (A a)) = EO n A := by
 have tw : ∀ u v : Nat → UInt8, EO n (Gu (Gu A a u) b v) ^^^ EO n (Gu (Gu A a v) b u) = 0 := fun u v => by
  have z : ∀ w : Nat → UInt8, EO n (Gu (Gu A a w) b w) = 0 := fun w => hA _ a b ha hb hab fun j _ => by
   simp [Gu, hab]
  have h0 := z fun j => u j ^^^ v j
  rw [PV n _ b u v hb] at h0
  have sw : ∀ p q : Nat → UInt8, EO n (Gu (Gu A a p) b q) = EO n (Gu (Gu A b q) a p) := fun p q => Ey n fun i j _ _ => AeY A hab p q i j
  rw [sw, sw, PV n _ a u v ha, PV n _ a u v ha, ← sw, ← sw, ← sw, ← sw, z u, z v, O8, Hq, VQ] at h0
  exact h0
 have := tw (A b) (A a)
 have e : EO n (Gu (Gu A a (A a)) b (A b)) = EO n A := Ey n fun i j _ _ => by
  simp only [Gu]
  split
  ·rename_i h; rw [h]
  ·split
   ·rename_i h; rw [h]
   ·rfl
 rw [e] at this
 exact AaG this
def push (B : Mx) (u : Nat → UInt8) (t : Nat) : Mx := fun i j => if i < t then B i j else if i = t then u j else B (i - 1) j
theorem Afd {n : Nat} (hA : Alt n) (B : Mx) (u : Nat → UInt8) {t : Nat} (ht : t + 1 < n) : EO n (push B u (t + 1)) = EO n (push B u t) := by
 rw [← AfC hA (push B u t) (a := t) (b := t + 1) (by omega) ht (by omega)]
 refine Ey n fun i j _ _ => ?_
 unfold push Gu
 by_cases h1 : i = t + 1
 ·subst h1
  simp
 ·by_cases h2 : i = t
  ·subst h2
   simp
   intro h; omega
  ·by_cases h3 : i < t
   ·simp [h1, h2, h3]
    omega
   ·simp [h1, h2, h3]
    omega
theorem Abi {n : Nat} (hA : Alt n) (B : Mx) (u : Nat → UInt8) (s : Nat) : ∀ (k : Nat), s + k < n → EO n (push B u (s + k)) = EO n (push B u s)
 | 0, _ => rfl
 | k + 1, h => by rw [← Abi hA B u s k (by omega), ← Afd hA B u (t := s + k) (by omega)]; rfl
theorem alt : ∀ n, Alt n
 | 0 => fun A a b ha => by omega
 | n + 1 => by
  have key : ∀ (A : Mx) (a b : Nat), a < n + 1 → b < n + 1 → a < b → (∀ j, j < n + 1 → A a j = A b j) → EO (n + 1) A = 0 := by
   intro A a b ha hb hab h
   rw [EO]
   -- the terms but two are 0
   have hz : ∀ i, i < n + 1 → i ≠ a → i ≠ b → Bh (A i 0) (EO n (DF A i)) = 0 := fun i hi h1 h2 => by
    have : EO n (DF A i) = 0 := by
     refine alt n (DF A i) (if a < i then a else a - 1) (if b < i then b else b - 1) ?_ ?_ ?_ fun j hj => ?_
     ·split <;> omega
     ·split <;> omega
     ·split <;> split <;> omega
     ·unfold DF skip
      have e1 : (if (if a < i then a else a - 1) < i then (if a < i then a else a - 1) else (if a < i then a else a - 1) + 1) = a := by
       by_cases q : a < i
       ·simp [q]
       ·rw [if_neg q, if_neg (by omega)]; omega
      have e2 : (if (if b < i then b else b - 1) < i then (if b < i then b else b - 1) else (if b < i then b else b - 1) + 1) = b := by
       by_cases q : b < i
       ·simp [q]
       ·rw [if_neg q, if_neg (by omega)]; omega
      rw [e1, e2]
      exact h _ (by omega)
    rw [this, ER]
   -- the two minors are alike but for the order of their rows
   have hm : EO n (DF A a) = EO n (DF A b) := by
    obtain ⟨B, hB⟩ : ∃ B : Mx, B = fun i j => A (if i < a then i else if i < b - 1 then i + 1 else i + 2) (j + 1) := ⟨_, rfl⟩
    have e1 : EO n (DF A b) = EO n (push B (fun j => A a (j + 1)) a) := Ey n fun i j _ _ => by
     unfold DF push skip
     subst hB
     by_cases h1 : i < a
     ·simp only [h1, if_true]; rw [if_pos (by omega)]
     ·by_cases h2 : i = a
      ·subst h2; simp only [h1, if_false, if_true]; rw [if_pos hab]
      ·simp only [h1, h2, if_false]
       rw [if_neg (show ¬ i - 1 < a from by omega)]
       by_cases h3 : i < b
       ·rw [if_pos h3, if_pos (by omega)]; congr 1; omega
       ·rw [if_neg h3, if_neg (by omega)]; congr 1; omega
    have e2 : EO n (DF A a) = EO n (push B (fun j => A a (j + 1)) (b - 1)) := Ey n fun i j _ hj => by
     unfold DF push skip
     subst hB
     by_cases h1 : i < b - 1
     ·simp only [h1, if_true]
     ·by_cases h2 : i = b - 1
      ·simp only [h1, h2, if_false, if_true]
       rw [if_neg (by omega), if_neg (by omega), show b - 1 + 1 = b from by omega, h _ (by omega)]
      ·simp only [h1, h2, if_false]
       rw [if_neg (by omega), if_neg (by omega), if_neg (by omega)]
       congr 1
       omega
    rw [e1, e2]
    have := Abi (alt n) B (fun j => A a (j + 1)) a (b - 1 - a) (by omega)
    rw [show a + (b - 1 - a) = b - 1 from by omega] at this
    exact this
   have h2 : xs (fun i => if i = a then Bh (A i 0) (EO n (DF A i)) else 0) (n + 1) = Bh (A a 0) (EO n (DF A a)) := by
    rw [KY ha fun i _ hne => by simp [hne]]; simp
   have h3 : xs (fun i => if i = b then Bh (A i 0) (EO n (DF A i)) else 0) (n + 1) = Bh (A b 0) (EO n (DF A b)) := by
    rw [KY hb fun i _ hne => by simp [hne]]; simp
   have h4 : xs (fun i => Bh (A i 0) (EO n (DF A i))) (n + 1) = xs (fun i => (if i = a then Bh (A i 0) (EO n (DF A i)) else 0) ^^^ (if i = b then Bh (A i 0) (EO n (DF A i)) else 0)) (n + 1) := EE fun i hi => by
    by_cases q1 : i = a
    ·subst q1; rw [if_pos rfl, if_neg (by omega), Hq]
    ·by_cases q2 : i = b
     ·subst q2; rw [if_neg q1, if_pos rfl, O8]
     ·rw [if_neg q1, if_neg q2, Hq, hz i hi q1 q2]
   rw [h4, QP, h2, h3, h 0 (by omega), hm, Le]
  intro A a b ha hb hab h
  rcases Nat.lt_or_gt_of_ne hab with q | q
  ·exact key A a b ha hb q h
  ·exact key A b a hb ha q fun j hj => (h j hj).symm
end Go.Proofs.YtgpkbldlkadnjaaGreat
end
section
set_option maxHeartbeats 2000000
namespace Go.Proofs.YtgpkbldlkadnjaaGreat
open Go Go.Sl
theorem Ea.small {m : LL} (h : Ea m) (h1 : m.length ≤ 1000) (h2 : width m ≤ 1000) : Nw m := ⟨h1, fun x hx => by rw [h.all x hx]; exact h2⟩
theorem LM {k n i j : Nat} (hi : i < n) (hj : j < k) : entry (Dn k n) i j = IQ k i j := by
 rw [entry, AY [] (by simpa [Dn] using hi)]
 simp only [Dn, List.getElem_map, List.getElem_range, Nr]
 rw [AY 0 (by simpa using hj)]
 simp
theorem VT {m : LL} {k : Nat} (h : 0 < m.length) (hw : ∀ x ∈ m, x.length = k) : width m = k := by
 rw [width, AY [] h]; exact hw _ (List.getElem_mem h)
theorem I7 {k n : Nat} (hk : 0 < k) (hn : 0 < n) : Ea (Dn k n) ∧ width (Dn k n) = k := by
 have hl : 0 < (Dn k n).length := by simpa [Dn] using hn
 have hw : width (Dn k n) = k := VT hl (JK k n)
 exact ⟨⟨hl, by omega, fun x hx => by rw [JK k n x hx, hw]⟩, hw⟩
theorem Hy {a b : LL} (ra : Ea a) (rb : Ea b) (hw : width a = b.length) : Ea (Gy a b) ∧ width (Gy a b) = width b ∧ (Gy a b).length = a.length := by
 have hl := UU hw
 have hx : ∀ x ∈ Gy a b, x.length = width b := fun x hx => by
  rw [Gy, if_pos hw] at hx
  obtain ⟨r, _, rfl⟩ := List.mem_map.1 hx
  exact EW _ _ _ _
 have hp : 0 < (Gy a b).length := by rw [hl]; exact ra.pos
 have hww := VT hp hx
 exact ⟨⟨hp, by rw [hww]; exact rb.wide, fun x h => by rw [hx x h, hww]⟩, hww, hl⟩
theorem TS {a b : LL} (ra : Ea a) (rb : Ea b) (hl : a.length = b.length) (hw : width a = width b) (he : ∀ i j, i < a.length → j < width a → entry a i j = entry b i j) : a = b :=
 Ait hl (fun i hi => by rw [Md ra hi, Md rb (by omega), hw]) fun i j hi hj => he i j hi (by rw [Md ra hi] at hj; exact hj)
theorem AgH {a : LL} (ra : Ea a) : Gy (Dn a.length a.length) a = a := by
 obtain ⟨rc, hw⟩ := I7 ra.pos ra.pos
 obtain ⟨r1, w1, l1⟩ := Hy rc ra hw
 rw [Eh] at l1
 refine TS r1 ra l1 w1 fun i j hi hj => ?_
 rw [w1] at hj
 rw [Kt rc ra hw (by rw [Eh]; omega) hj, KY (c := i) (by omega) fun k hk hne => ?_]
 ·rw [LM (by omega) (by omega), IQ, if_neg (by omega), if_pos rfl, Gx]
 ·rw [LM (by omega) (by omega), IQ, if_neg (by omega), if_neg (by omega), Ei]
theorem Adj {a b c : LL} (ra : Ea a) (rb : Ea b) (rc : Ea c) (h1 : width a = b.length) (h2 : width b = c.length) : Gy (Gy a b) c = Gy a (Gy b c) := by
 obtain ⟨rab, wab, lab⟩ := Hy ra rb h1
 obtain ⟨rbc, wbc, lbc⟩ := Hy rb rc h2
 have h3 : width (Gy a b) = c.length := by rw [wab, h2]
 have h4 : width a = (Gy b c).length := by rw [lbc, h1]
 obtain ⟨r1, w1, l1⟩ := Hy rab rc h3
 obtain ⟨r2, w2, l2⟩ := Hy ra rbc h4
 refine TS r1 r2 (by rw [l1, l2, lab]) (by rw [w1, w2, wbc]) fun i j hi hj => ?_
 rw [l1, lab] at hi
 rw [w1] at hj
 rw [Kt rab rc h3 (by omega) hj, Kt ra rbc h4 hi (by omega)]
 have e1 : xs (fun k => Bh (entry (Gy a b) i k) (entry c k j)) c.length = xs (fun k => xs (fun l => Bh (Bh (entry a i l) (entry b l k)) (entry c k j)) b.length) c.length := EE fun k hk => by
  rw [Kt ra rb h1 hi (by omega), AgM]
 have e2 : xs (fun l => Bh (entry a i l) (entry (Gy b c) l j)) (Gy b c).length = xs (fun l => xs (fun k => Bh (Bh (entry a i l) (entry b l k)) (entry c k j)) c.length) b.length := by
  rw [lbc]
  refine EE fun l hl => ?_
  rw [Kt rb rc h2 hl hj, Oj]
  exact EE fun k _ => (Ee _ _ _).symm
 rw [e1, e2, TJ]
theorem QW (k n : Nat) : Qh k n = Dn k n := by
 unfold Qh Dn Nr
 refine List.map_congr_left fun i _ => List.map_congr_left fun j _ => ?_
 rw [Hw, IQ, Aib]
theorem Ae2 {m : LL} (h : Ea m) : Me m = true := by
 rw [Me, Xd]
 simp only [Bool.and_eq_true, decide_eq_true_eq]
 exact ⟨h.pos, h.wide, by rw [List.all_eq_true]; exact fun x hx => by simpa using h.all x hx⟩
def Iu (n : Nat) (A B : Mx) : Mx := fun i j => xs (fun k => Bh (A i k) (B k j)) n
def idF : Mx := fun i j => if i = j then 1 else 0
def EqN (n : Nat) (A B : Mx) : Prop := ∀ i j, i < n → j < n → A i j = B i j
theorem EqN.refl (n : Nat) (A : Mx) : EqN n A A := fun _ _ _ _ => rfl
theorem EqN.symm {n : Nat} {A B : Mx} (h : EqN n A B) : EqN n B A := fun i j hi hj => (h i j hi hj).symm
theorem EqN.trans {n : Nat} {A B C : Mx} (h : EqN n A B) (k : EqN n B C) : EqN n A C := fun i j hi hj => (h i j hi hj).trans (k i j hi hj)
theorem JC {n : Nat} {A A' B B' : Mx} (h : EqN n A A') (k : EqN n B B') : EqN n (Iu n A B) (Iu n A' B') := fun i j hi hj => EE fun l hl => by rw [h i l hi hl, k l j hl hj]
theorem Xg (n : Nat) (A B C : Mx) (i j : Nat) : Iu n (Iu n A B) C i j = Iu n A (Iu n B C) i j := by
 have e1 : Iu n (Iu n A B) C i j = xs (fun k => xs (fun l => Bh (Bh (A i l) (B l k)) (C k j)) n) n := EE fun k _ => AgM _ _ _
 have e2 : Iu n A (Iu n B C) i j = xs (fun l => xs (fun k => Bh (A i l) (Bh (B l k) (C k j))) n) n := EE fun l _ => Oj _ _ _
 rw [e1, e2, TJ]
 exact EE fun l _ => EE fun k _ => Ee _ _ _
theorem Qm (n : Nat) (A : Mx) : EqN n (Iu n idF A) A := fun i j hi hj => by
 unfold Iu
 rw [KY hi fun k _ hk => by simp only [idF]; rw [if_neg (by omega), Ei]]
 simp [idF, Gx]
theorem Aew (n : Nat) (A : Mx) : EqN n (Iu n A idF) A := fun i j hi hj => by
 unfold Iu
 rw [KY hj fun k _ hk => by simp only [idF]; rw [if_neg hk, ER]]
 simp [idF, NW]
def rop (c i : Nat) (s f : UInt8) (A : Mx) : Mx := fun r j => if r = c then Bh s (A c j) ^^^ Bh f (A i j) else A r j
theorem Aef (n c i : Nat) (s f : UInt8) (A B : Mx) (r j : Nat) : Iu n (rop c i s f A) B r j = rop c i s f (Iu n A B) r j := by
 unfold rop Iu
 by_cases h : r = c
 ·simp only [h, if_true]
  rw [Oj, Oj, ← QP]
  exact EE fun k _ => by rw [O9, Ee, Ee]
 ·simp only [h, if_false]
theorem Ym {n c i : Nat} {s f : UInt8} {A B : Mx} (hc : c < n) (hi : f = 0 ∨ (i ≠ c ∧ i < n)) (h : EqN n A B) : EqN n (rop c i s f A) (rop c i s f B) := fun r j hr hj => by
 unfold rop
 split
 ·rw [h c j hc hj]
  rcases hi with rfl | ⟨_, hi⟩
  ·rw [Ei, Ei]
  ·rw [h i j hi hj]
 ·exact h r j hr hj
theorem Ags {n c i : Nat} {s f : UInt8} (A : Mx) (hs : s ≠ 0) (hi : f = 0 ∨ (i ≠ c ∧ i < n)) (r j : Nat) : rop c i (FK s) (Bh (FK s) f) (rop c i s f A) r j = A r j := by
 unfold rop
 by_cases h : r = c
 ·subst h
  simp only [if_true]
  have e : Bh (Bh (FK s) f) (if i = r then Bh s (A r j) ^^^ Bh f (A i j) else A i j) = Bh (Bh (FK s) f) (A i j) := by
   rcases hi with rfl | ⟨hi, _⟩
   ·rw [ER, Ei, Ei]
   ·rw [if_neg hi]
  rw [e, PG, ← Ee, Ue hs, Gx, ← Ee, MX, Le, Hq]
 ·simp only [h, if_false]
theorem Ah9 {n c i : Nat} {s f : UInt8} (A : Mx) (hc : c < n) (hi : f = 0 ∨ (i ≠ c ∧ i < n)) : EO n (rop c i s f A) = Bh s (EO n A) := by
 have e : EO n (rop c i s f A) = EO n (Gu A c fun j => Bh s (A c j) ^^^ Bh f (A i j)) := Ey n fun r j _ _ => rfl
 rw [e, PV n A c (fun j => Bh s (A c j)) (fun j => Bh f (A i j)) hc, Rf n A c s (A c) hc, Rf n A c f (A i) hc, Ey n (A := Gu A c (A c)) (B := A) fun r j _ _ => AeX A c r j]
 rcases hi with rfl | ⟨hi, hin⟩
 ·rw [Ei, Hq]
 ·rw [alt n (Gu A c (A i)) c i hc hin (by omega) fun j _ => by simp [Gu, hi], ER, Hq]
structure REq (n : Nat) (L O L' O' : Mx) : Prop where
 ex : ∃ E F : Mx, EqN n L' (Iu n E L) ∧ EqN n O' (Iu n E O) ∧ EqN n L (Iu n F L') ∧ EqN n O (Iu n F O')
 det : ∃ s : UInt8, s ≠ 0 ∧ EO n L' = Bh s (EO n L)
theorem REq.refl (n : Nat) (L O : Mx) : REq n L O L O := ⟨⟨idF, idF, (Qm n L).symm, (Qm n O).symm, (Qm n L).symm, (Qm n O).symm⟩, 1, by decide, (Gx _).symm⟩
theorem dot3 {n : Nat} {A B C E1 E2 : Mx} (h : EqN n C (Iu n E2 B)) (k : EqN n B (Iu n E1 A)) : EqN n C (Iu n (Iu n E2 E1) A) := fun i j hi hj => by
 rw [h i j hi hj, Xg]
 exact JC (EqN.refl n E2) k i j hi hj
theorem REq.trans {n : Nat} {L O L1 O1 L2 O2 : Mx} (h : REq n L O L1 O1) (k : REq n L1 O1 L2 O2) : REq n L O L2 O2 := by
 obtain ⟨⟨E, F, h1, h2, h3, h4⟩, s, hs, hd⟩ := h
 obtain ⟨⟨E', F', k1, k2, k3, k4⟩, s', hs', hd'⟩ := k
 refine ⟨⟨Iu n E' E, Iu n F F', dot3 k1 h1, dot3 k2 h2, dot3 h3 k3, dot3 h4 k4⟩, Bh s' s, fun e => ?_, by rw [hd', hd, Ee]⟩
 rcases IX e with e | e
 ·exact hs' e
 ·exact hs e
theorem REq.congr {n : Nat} {L O L1 O1 L2 O2 : Mx} (h : REq n L O L1 O1) (e1 : EqN n L2 L1) (e2 : EqN n O2 O1) : REq n L O L2 O2 := by
 obtain ⟨⟨E, F, h1, h2, h3, h4⟩, s, hs, hd⟩ := h
 exact ⟨⟨E, F, e1.trans h1, e2.trans h2, h3.trans (JC (EqN.refl _ _) e1.symm), h4.trans (JC (EqN.refl _ _) e2.symm)⟩, s, hs, by rw [← hd]; exact Ey n e1⟩
theorem REq.rop {n c i : Nat} {s f : UInt8} (L O : Mx) (hc : c < n) (hs : s ≠ 0) (hi : f = 0 ∨ (i ≠ c ∧ i < n)) : REq n L O (rop c i s f L) (rop c i s f O) := by
 have hi' : Bh (FK s) f = 0 ∨ (i ≠ c ∧ i < n) := hi.imp (fun e => by rw [e, ER]) id
 have f1 : ∀ A, EqN n (Go.Proofs.YtgpkbldlkadnjaaGreat.rop c i s f A) (Iu n (Go.Proofs.YtgpkbldlkadnjaaGreat.rop c i s f idF) A) := fun A r j hr hj => by
  rw [Aef]
  exact Ym hc hi (Qm n A).symm r j hr hj
 have f2 : ∀ A, EqN n A (Iu n (Go.Proofs.YtgpkbldlkadnjaaGreat.rop c i (FK s) (Bh (FK s) f) idF) (Go.Proofs.YtgpkbldlkadnjaaGreat.rop c i s f A)) := fun A r j hr hj => by
  rw [Aef, ← Ags (n := n) A hs hi r j]
  exact Ym hc hi' ((Qm n _).symm) r j hr hj
 exact ⟨⟨_, _, f1 L, f1 O, f2 L, f2 O⟩, s, hs, Ah9 L hc hi⟩
theorem swap3 (a b : UInt8) : (a ^^^ b) ^^^ (b ^^^ (a ^^^ b)) = b := by rw [VQ b (a ^^^ b), ← MX, Le, O8]
theorem swap2 (a b : UInt8) : b ^^^ (a ^^^ b) = a := by rw [VQ b (a ^^^ b), MX, Le, Hq]
def Yg (c i : Nat) (A : Mx) : Mx := fun r j => A (sig c i r) j
theorem REq.swap {n c i : Nat} (L O : Mx) (hc : c < n) (hi : i < n) : REq n L O (Yg c i L) (Yg c i O) := by
 by_cases h : c = i
 ·subst h
  have e : ∀ A : Mx, EqN n (Yg c c A) A := fun A r j _ _ => by
   unfold Yg sig
   by_cases h : r = c
   ·subst h; simp
   ·simp [h]
  exact (REq.refl n L O).congr (e L) (e O)
 ·have e : ∀ A : Mx, EqN n (Yg c i A) (Go.Proofs.YtgpkbldlkadnjaaGreat.rop c i 1 1 (Go.Proofs.YtgpkbldlkadnjaaGreat.rop i c 1 1 (Go.Proofs.YtgpkbldlkadnjaaGreat.rop c i 1 1 A))) := fun A r j _ _ => by
   have hne : i ≠ c := fun e => h e.symm
   unfold Yg Go.Proofs.YtgpkbldlkadnjaaGreat.rop sig
   by_cases h1 : r = c
   ·subst h1
    simp only [if_true, h, hne, if_false, Gx]
    exact (swap3 _ _).symm
   ·by_cases h2 : r = i
    ·subst h2
     simp only [if_true, h, hne, if_false, Gx]
     exact (swap2 _ _).symm
    ·simp only [h1, h2, if_false]
  have d : (1 : UInt8) ≠ 0 := by decide
  refine REq.congr (((REq.rop L O hc d (.inr ⟨fun e => h e.symm, hi⟩)).trans (REq.rop _ _ hi d (.inr ⟨h, hc⟩))).trans (REq.rop _ _ hc d (.inr ⟨fun e => h e.symm, hi⟩))) (e L) (e O)
def Un (n c : Nat) (A : Mx) : Prop := ∀ i j, i < n → j < c → A i j = idF i j
theorem AbV : ∀ (c n : Nat) (A : Mx), c < n → Un n c A → (∀ i, c ≤ i → i < n → A i c = 0) → EO n A = 0
 | 0, n + 1, A, _, _, h => by
  rw [EO]
  exact Qc _ fun i hi => by rw [h i (by omega) hi, Ei]
 | c + 1, n + 1, A, hc, hu, h => by
  rw [EO, KY (c := 0) (by omega) fun i hi hne => by rw [hu i 0 hi (by omega)]; simp only [idF]; rw [if_neg hne, Ei]]
  rw [AbV c n (DF A 0) (by omega) (fun i j hi hj => ?_) (fun i h1 h2 => ?_), ER]
  ·unfold DF skip
   rw [if_neg (by omega), hu (i + 1) (j + 1) (by omega) (by omega)]
   simp [idF]
  ·unfold DF skip
   rw [if_neg (by omega)]
   exact h _ (by omega) (by omega)
theorem Ahn : ∀ (n : Nat) (A : Mx), Un n n A → EO n A = 1
 | 0, A, _ => rfl
 | n + 1, A, hu => by
  rw [EO, KY (c := 0) (by omega) fun i hi hne => by rw [hu i 0 hi (by omega)]; simp only [idF]; rw [if_neg hne, Ei]]
  rw [hu 0 0 (by omega) (by omega), Ahn n (DF A 0) fun i j hi hj => ?_]
  ·simp [idF, NW]
  ·unfold DF skip
   rw [if_neg (by omega), hu (i + 1) (j + 1) (by omega) (by omega)]
   simp [idF]
structure Sq (n : Nat) (l : LL) : Prop where
 len : l.length = n
 all : ∀ x ∈ l, x.length = n
theorem Sq.row {n : Nat} {l : LL} (h : Sq n l) {r : Nat} (hr : r < n) : (l.getD r []).length = n := by
 rw [AY [] (by rw [h.len]; exact hr)]
 exact h.all _ (List.getElem_mem _)
theorem Sq.set {n c : Nat} {l : LL} {x : List UInt8} (h : Sq n l) (hx : x.length = n) : Sq n (l.set c x) :=
 ⟨by rw [List.length_set]; exact h.len, fun y hy => by
  rcases List.mem_or_eq_of_mem_set hy with h1 | h1
  ·exact h.all y h1
  ·rw [h1]; exact hx⟩
theorem YI {l : LL} {x : List UInt8} {c r : Nat} (hc : c < l.length) (j : Nat) : entry (l.set c x) r j = if r = c then x.getD j 0 else entry l r j := by
 unfold entry
 rw [List.getD_eq_getElem?_getD (l := l.set c x), List.getElem?_set]
 by_cases h : r = c
 ·subst h
  simp [hc]
 ·rw [if_neg (fun e => h e.symm), if_neg h, List.getD_eq_getElem?_getD (l := l)]
theorem Qo {l : LL} {c i : Nat} (hc : c < l.length) (hi : i < l.length) (r j : Nat) : entry (swp [] l c i) r j = entry l (sig c i r) j := by
 unfold entry
 rw [List.getD_eq_getElem?_getD (l := swp [] l c i), swp_get [] hc hi, ← List.getD_eq_getElem?_getD]
theorem Sq.swp {n c i : Nat} {l : LL} (h : Sq n l) (hc : c < n) (hi : i < n) : Sq n (swp [] l c i) :=
 (h.set (h.row hi)).set (h.row hc)
theorem Aij {n c : Nat} {p : LL × LL} (h1 : Sq n p.1) (h2 : Sq n p.2) (hc : c < n) : (Sq n (norm c p).1 ∧ Sq n (norm c p).2) ∧
  EqN n (entry (norm c p).1) (rop c c (FK (entry p.1 c c)) 0 (entry p.1)) ∧ EqN n (entry (norm c p).2) (rop c c (FK (entry p.1 c c)) 0 (entry p.2)) := by
 have e : ∀ (l : LL) (s : UInt8), Sq n l → EqN n (entry (l.set c ((l.getD c []).map (Bh s)))) (rop c c s 0 (entry l)) := fun l s hl r j hr hj => by
  rw [YI (by rw [hl.len]; exact hc)]
  unfold rop
  split
  ·rw [WO _ _ _ (by rw [hl.row hc]; exact hj), Ei, Hq]; rfl
  ·rfl
 exact ⟨⟨h1.set (by rw [List.length_map]; exact h1.row hc), h2.set (by rw [List.length_map]; exact h2.row hc)⟩, e _ _ h1, e _ _ h2⟩
theorem AhJ {n c k : Nat} {l : LL} {f : UInt8} (hl : Sq n l) (hc : c < n) (hk : k < n) : Sq n (l.set k (La (l.getD k []) ((l.getD c []).map (Bh f)))) ∧
  EqN n (entry (l.set k (La (l.getD k []) ((l.getD c []).map (Bh f))))) (rop k c 1 f (entry l)) := by
 refine ⟨hl.set (by rw [Iw]; exact hl.row hk), fun r j hr hj => ?_⟩
 rw [YI (by rw [hl.len]; exact hk)]
 unfold rop
 split
 ·rw [TK _ _ _ (by rw [hl.row hk]; exact hj) (by rw [List.length_map, hl.row hc]; exact hj), WO _ _ _ (by rw [hl.row hc]; exact hj), Gx]
  rfl
 ·rfl
structure EJ (n c k : Nat) (p q : LL × LL) : Prop where
 s1 : Sq n q.1
 s2 : Sq n q.2
 eq : REq n (entry p.1) (entry p.2) (entry q.1) (entry q.2)
 row : ∀ j, j < n → entry q.1 c j = entry p.1 c j
 left : ∀ r j, r < n → j < c → entry q.1 r j = entry p.1 r j
 zero : ∀ r, r < k → r ≠ c → entry q.1 r c = 0
theorem Aet {n c : Nat} {p : LL × LL} (h1 : Sq n p.1) (h2 : Sq n p.2) (hc : c < n) (hone : entry p.1 c c = 1) (hz : ∀ j, j < c → entry p.1 c j = 0) : ∀ k, k ≤ n → EJ n c k p (elim c p k)
 | 0, _ => ⟨h1, h2, REq.refl _ _ _, fun _ _ => rfl, fun _ _ _ _ => rfl, fun r hr => by omega⟩
 | k + 1, hk => by
  have ih := Aet h1 h2 hc hone hz k (by omega)
  rw [elim, AbQ]
  by_cases h : k ≠ c ∧ entry (elim c p k).1 k c ≠ 0
  ·rw [if_pos h]
   obtain ⟨a1, a2⟩ := AhJ (f := entry (elim c p k).1 k c) ih.s1 hc (show k < n by omega)
   obtain ⟨b1, b2⟩ := AhJ (f := entry (elim c p k).1 k c) ih.s2 hc (show k < n by omega)
   have hck : c ≠ k := fun e => h.1 e.symm
   refine ⟨a1, b1, ih.eq.trans ((REq.rop _ _ (show k < n by omega) (by decide) (.inr ⟨hck, hc⟩)).congr a2 b2), fun j hj => ?_, fun r j hr hj => ?_, fun r hr hrc => ?_⟩
   ·rw [a2 c j hc hj, rop, if_neg hck]
    exact ih.row j hj
   ·rw [a2 r j hr (by omega), rop]
    split
    ·rename_i e
     subst e
     rw [ih.row j (by omega), hz j hj, ER, Hq, Gx]
     exact ih.left _ j hr hj
    ·exact ih.left r j hr hj
   ·rw [a2 r c (by omega) hc, rop]
    split
    ·rename_i e
     rw [ih.row c hc, hone, NW, Gx, Le]
    ·exact ih.zero r (by omega) hrc
  ·rw [if_neg h]
   refine ⟨ih.s1, ih.s2, ih.eq, ih.row, ih.left, fun r hr hrc => ?_⟩
   by_cases e : r = k
   ·subst e
    by_cases q : entry (elim c p r).1 r c = 0
    ·exact q
    ·exact absurd ⟨hrc, q⟩ h
   ·exact ih.zero r (by omega) hrc
theorem Ag5 {l : LL} {n c i : Nat} (h : JS l n c = some i) : c ≤ i ∧ i < n ∧ entry l i c ≠ 0 := by
 rw [JS] at h
 have h1 := List.find?_some h
 have h2 := List.mem_of_find?_eq_some h
 simp only [Bool.and_eq_true, decide_eq_true_eq, bne_iff_ne] at h1
 exact ⟨h1.1, List.mem_range.1 h2, h1.2⟩
theorem Ag6 {l : LL} {n c : Nat} (h : JS l n c = none) : ∀ i, c ≤ i → i < n → entry l i c = 0 := by
 intro i h1 h2
 rw [JS, List.find?_eq_none] at h
 have := h i (List.mem_range.2 h2)
 simp only [Bool.and_eq_true, decide_eq_true_eq, bne_iff_ne, not_and, ne_eq] at this
 exact Decidable.not_not.1 (this h1)
structure CJ (n c : Nat) (m o : LL) (q : LL × LL) : Prop where
 s1 : Sq n q.1
 s2 : Sq n q.2
 eq : REq n (entry m) (entry o) (entry q.1) (entry q.2)
 un : Un n c (entry q.1)
theorem Agj (c i : Nat) : sig c i c = i := by unfold sig; split <;> simp_all
theorem CJ.step {n c i : Nat} {m o : LL} {q : LL × LL} (h : CJ n c m o q) (hc : c < n) (hf : JS q.1 n c = some i) : CJ n (c + 1) m o (Xp n c (swp [] q.1 c i, swp [] q.2 c i)) := by
 obtain ⟨hci, hi, hne⟩ := Ag5 hf
 have l1 : c < q.1.length := by rw [h.s1.len]; exact hc
 have l2 : i < q.1.length := by rw [h.s1.len]; exact hi
 have l3 : c < q.2.length := by rw [h.s2.len]; exact hc
 have l4 : i < q.2.length := by rw [h.s2.len]; exact hi
 have r1 : REq n (entry m) (entry o) (entry (swp [] q.1 c i)) (entry (swp [] q.2 c i)) :=
  h.eq.trans ((REq.swap _ _ hc hi).congr (fun r j _ _ => Qo l1 l2 r j) (fun r j _ _ => Qo l3 l4 r j))
 have u1 : Un n c (entry (swp [] q.1 c i)) := fun r j hr hj => by
  rw [Qo l1 l2, h.un _ j (sig_lt hc hi hr) hj]
  unfold idF sig
  by_cases h1 : r = i
  ·rw [if_pos h1, if_neg (by omega), if_neg (by omega)]
  ·rw [if_neg h1]
   by_cases h2 : r = c
   ·rw [if_pos h2, if_neg (by omega), if_neg (by omega)]
   ·rw [if_neg h2]
 have e1 : entry (swp [] q.1 c i) c c = entry q.1 i c := by rw [Qo l1 l2, Agj]
 have s1 := h.s1.swp hc hi
 have s2 := h.s2.swp hc hi
 obtain ⟨⟨n1, n2⟩, n3, n4⟩ := Aij (p := (swp [] q.1 c i, swp [] q.2 c i)) s1 s2 hc
 dsimp only at n3 n4
 rw [e1] at n3 n4
 have r2 := r1.trans ((REq.rop _ _ hc (VC hne) (.inl rfl)).congr n3 n4)
 have o1 : entry (norm c (swp [] q.1 c i, swp [] q.2 c i)).1 c c = 1 := by
  rw [n3 c c hc hc, rop, if_pos rfl, e1, Ue hne, Ei, Hq]
 have z1 : ∀ j, j < c → entry (norm c (swp [] q.1 c i, swp [] q.2 c i)).1 c j = 0 := fun j hj => by
  rw [n3 c j hc (by omega), rop, if_pos rfl, u1 c j hc hj, Ei, Hq]
  unfold idF
  rw [if_neg (by omega), ER]
 have ej := Aet n1 n2 hc o1 z1 n (Nat.le_refl n)
 refine ⟨ej.s1, ej.s2, r2.trans ej.eq, fun r j hr hj => ?_⟩
 show entry (elim c (norm c (swp [] q.1 c i, swp [] q.2 c i)) n).1 r j = idF r j
 by_cases hjc : j = c
 ·subst hjc
  by_cases hrc : r = j
  ·subst hrc
   rw [ej.row r hc, o1]; simp [idF]
  ·rw [ej.zero r hr hrc]; simp [idF, hrc]
 ·rw [ej.left r j hr (by omega), n3 r j hr (by omega), rop]
  split
  ·rename_i e
   subst e
   rw [u1 _ j hc (by omega), Ei, Hq]
   unfold idF
   rw [if_neg (by omega), ER]
  ·exact u1 r j hr (by omega)
theorem WU {n : Nat} {m o : LL} (hm : Sq n m) (ho : Sq n o) : ∀ (c : Nat) {q : LL × LL}, c ≤ n → I8 n (m, o) c = some q → CJ n c m o q
 | 0, q, _, h => by
  rw [I8] at h
  cases h
  exact ⟨hm, ho, REq.refl _ _ _, fun i j _ hj => by omega⟩
 | c + 1, q, hc, h => by
  rw [I8] at h
  cases h1 : I8 n (m, o) c with
  | none => rw [h1] at h; cases h
  | some q1 =>
   rw [h1] at h
   have ih := WU hm ho c (by omega) h1
   cases h2 : JS q1.1 n c with
   | none => simp only [h2] at h; cases h
   | some i =>
    simp only [h2] at h
    cases h
    exact ih.step (by omega) h2
theorem WR {n : Nat} {p : LL × LL} : ∀ (c : Nat), I8 n p c = none → ∃ c' q, c' < c ∧ I8 n p c' = some q ∧ JS q.1 n c' = none
 | 0, h => by rw [I8] at h; cases h
 | c + 1, h => by
  cases h1 : I8 n p c with
  | none => obtain ⟨c', q, h2, h3⟩ := WR c h1; exact ⟨c', q, by omega, h3⟩
  | some q =>
   rw [I8, h1] at h
   cases h2 : JS q.1 n c with
   | none => exact ⟨c, q, by omega, h1, h2⟩
   | some i => simp only [h2] at h; cases h
theorem Yk (n : Nat) : Sq n (Dn n n) := ⟨Eh n n, JK n n⟩
theorem Uj (n : Nat) : EqN n (entry (Dn n n)) idF := fun i j hi hj => by
 rw [LM hi hj, IQ, if_neg (by omega)]; rfl
theorem AaV {n : Nat} {m : LL} (hm : Sq n m) (hn : 0 < n) : m.length = width m := by
 rw [width, hm.row hn, hm.len]
theorem UW {n : Nat} {m x : LL} (hm : Sq n m) (hn : 0 < n) (h : Ik m = some x) :
  Sq n x ∧ EqN n (Iu n (entry x) (entry m)) idF ∧ EqN n (Iu n (entry m) (entry x)) idF ∧ EO n (entry m) ≠ 0 := by
 rw [Ik, if_pos (AaV hm hn), hm.len] at h
 cases h1 : I8 n (m, Dn n n) n with
 | none => rw [h1] at h; cases h
 | some q =>
  rw [h1] at h
  cases h
  have cj := WU hm (Yk n) n (Nat.le_refl n) h1
  obtain ⟨⟨E, F, a1, a2, a3, a4⟩, s, hs, hd⟩ := cj.eq
  have eL : EqN n (entry q.1) idF := fun i j hi hj => cj.un i j hi hj
  have eE : EqN n (entry q.2) E := a2.trans ((JC (EqN.refl _ _) (Uj n)).trans (Aew n E))
  have eF : EqN n (entry m) F := a3.trans ((JC (EqN.refl _ _) eL).trans (Aew n F))
  refine ⟨cj.s2, ?_, ?_, fun e => ?_⟩
  ·exact ((JC eE (EqN.refl _ _)).trans a1.symm).trans eL
  ·exact ((JC eF (EqN.refl _ _)).trans a4.symm).trans (Uj n)
  ·rw [e, ER, Ahn n _ cj.un] at hd
   exact absurd hd (by decide)
theorem Abx {n : Nat} {m : LL} (hm : Sq n m) (hn : 0 < n) (h : Ik m = none) :
  EO n (entry m) = 0 ∧ ∃ v : Nat → UInt8, (∃ j, j < n ∧ v j ≠ 0) ∧ ∀ i, i < n → xs (fun k => Bh (entry m i k) (v k)) n = 0 := by
 rw [Ik, if_pos (AaV hm hn), hm.len] at h
 cases h1 : I8 n (m, Dn n n) n with
 | some q => rw [h1] at h; cases h
 | none =>
  obtain ⟨c, q, hc, h2, h3⟩ := WR n h1
  have cj := WU hm (Yk n) c (by omega) h2
  have hz := Ag6 h3
  obtain ⟨⟨E, F, a1, a2, a3, a4⟩, s, hs, hd⟩ := cj.eq
  constructor
  ·rw [AbV c n _ hc cj.un hz] at hd
   rcases IX hd.symm with e | e
   ·exact absurd e hs
   ·exact e
  ·refine ⟨fun j => if j < c then entry q.1 j c else if j = c then 1 else 0, ⟨c, hc, by simp⟩, fun i hi => ?_⟩
   have key : ∀ r, r < n → xs (fun k => Bh (entry q.1 r k) (if k < c then entry q.1 k c else if k = c then 1 else 0)) n = 0 := fun r hr => by
    have e : ∀ k, k < n → Bh (entry q.1 r k) (if k < c then entry q.1 k c else if k = c then 1 else 0) = (if k < c then (if r = k then entry q.1 k c else 0) else 0) ^^^ (if k = c then entry q.1 r c else 0) := fun k hk => by
     by_cases h1 : k < c
     ·rw [if_pos h1, if_pos h1, if_neg (show ¬ k = c by omega), Hq, cj.un r k hr h1]
      unfold idF
      split
      ·rw [Gx]
      ·rw [Ei]
     ·rw [if_neg h1, if_neg h1, O8]
      by_cases h2 : k = c
      ·rw [if_pos h2, if_pos h2, NW, h2]
      ·rw [if_neg h2, if_neg h2, ER]
    rw [EE e, QP, KY (c := c) hc fun k _ hk => if_neg hk, if_pos rfl]
    by_cases h1 : r < c
    ·rw [KY (c := r) hr fun k _ hk => ?_]
     ·simp only [h1, if_true]
      exact Le _
     ·split
      ·rw [if_neg (fun e => hk e.symm)]
      ·rfl
    ·rw [Qc n fun k _ => ?_, O8]
     ·exact hz r (by omega) hr
     ·split
      ·rw [if_neg (by omega)]
      ·rfl
   have e2 : ∀ k, k < n → Bh (entry m i k) (if k < c then entry q.1 k c else if k = c then 1 else 0) = Bh (Iu n F (entry q.1) i k) ((fun k (_ : Nat) => if k < c then entry q.1 k c else if k = c then 1 else 0) k 0) := fun k hk => by rw [a3 i k hi hk]
   rw [EE e2]
   show Iu n (Iu n F (entry q.1)) (fun k _ => if k < c then entry q.1 k c else if k = c then 1 else 0) i 0 = 0
   rw [Xg]
   exact Qc n fun k hk => by
    rw [show Iu n (entry q.1) (fun k _ => if k < c then entry q.1 k c else if k = c then 1 else 0) k 0 = 0 from key k hk, ER]
theorem Sq.right {n : Nat} {m : LL} (h : Sq n m) (hn : 0 < n) : Ea m ∧ width m = n := by
 have e : width m = n := by rw [width]; exact h.row hn
 exact ⟨⟨by rw [h.len]; exact hn, by rw [e]; exact hn, fun x hx => by rw [e]; exact h.all x hx⟩, e⟩
theorem Adi {n : Nat} {a b : LL} (ha : Sq n a) (hb : Sq n b) (hn : 0 < n) (h : EqN n (Iu n (entry a) (entry b)) idF) : Gy a b = Dn n n := by
 obtain ⟨ra, wa⟩ := ha.right hn
 obtain ⟨rb, wb⟩ := hb.right hn
 obtain ⟨rc, wc⟩ := I7 hn hn
 have hw : width a = b.length := by rw [wa, hb.len]
 obtain ⟨r1, w1, l1⟩ := Hy ra rb hw
 refine TS r1 rc (by rw [l1, ha.len, Eh]) (by rw [w1, wb, wc]) fun i j hi hj => ?_
 rw [l1, ha.len] at hi
 rw [w1, wb] at hj
 rw [Kt ra rb hw (by rw [ha.len]; exact hi) (by rw [wb]; exact hj), hb.len, Uj n i j hi hj]
 exact h i j hi hj
theorem Aeq (a b c : UInt8) : Bh a (Bh b c) = Bh b (Bh a c) := by rw [← Ee, Ig a b, Ee]
def cnt (v : Nat → UInt8) : Nat → Nat
 | 0 => 0
 | n + 1 => cnt v n + if v n = 0 then 0 else 1
theorem Ahu (v : Nat → UInt8) : ∀ n, cnt v n ≤ n
 | 0 => Nat.le_refl _
 | n + 1 => by have := Ahu v n; rw [cnt]; split <;> omega
theorem Acd {v : Nat → UInt8} : ∀ {n : Nat}, cnt v n = 0 → ∀ j, j < n → v j = 0
 | n + 1, h, j, hj => by
  rw [cnt] at h
  by_cases e : v n = 0
  ·by_cases q : j = n
   ·rw [q]; exact e
   ·exact Acd (n := n) (by omega) j (by omega)
  ·rw [if_neg e] at h; omega
theorem cnt_mono {v w : Nat → UInt8} : ∀ {n : Nat}, (∀ j, j < n → v j = 0 → w j = 0) → cnt w n ≤ cnt v n
 | 0, _ => Nat.le_refl _
 | n + 1, h => by
  have := cnt_mono (n := n) fun j hj => h j (by omega)
  rw [cnt, cnt]
  by_cases e : v n = 0
  ·rw [if_pos e, if_pos (h n (by omega) e)]; omega
  ·rw [if_neg e]; split <;> omega
theorem cnt_lt {v w : Nat → UInt8} {j0 : Nat} : ∀ {n : Nat}, (∀ j, j < n → v j = 0 → w j = 0) → j0 < n → v j0 ≠ 0 → w j0 = 0 → cnt w n + 1 ≤ cnt v n
 | n + 1, h, hj, h1, h2 => by
  rw [cnt, cnt]
  by_cases q : j0 = n
  ·subst q
   have := cnt_mono (n := j0) fun j hj => h j (by omega)
   rw [if_pos h2, if_neg h1]; omega
  ·have := cnt_lt (n := n) (fun j hj => h j (by omega)) (by omega) h1 h2
   by_cases e : v n = 0
   ·rw [if_pos e, if_pos (h n (by omega) e)]; omega
   ·rw [if_neg e]; split <;> omega
theorem Acf {n : Nat} : ∀ (S : List Nat) (v : Nat → UInt8), S.Nodup → (∀ a ∈ S, a < n ∧ v a = 0) → cnt v n + S.length ≤ n
 | [], v, _, _ => Ahu v n
 | a :: S, v, hn, h => by
  rw [List.nodup_cons] at hn
  have ha := h a (List.mem_cons_self ..)
  have h1 : cnt v n + 1 ≤ cnt (fun j => if j = a then 1 else v j) n := by
   refine cnt_lt (j0 := a) (fun j _ hj => ?_) ha.1 (by simp) ha.2
   by_cases q : j = a
   ·simp [q] at hj
   ·simpa [q] using hj
  have h2 := Acf (n := n) S (fun j => if j = a then 1 else v j) hn.2 fun b hb => by
   have := h b (List.mem_cons_of_mem _ hb)
   refine ⟨this.1, ?_⟩
   have : b ≠ a := fun e => hn.1 (by rw [← e]; exact hb)
   simp only [this, if_false]
   exact (h b (List.mem_cons_of_mem _ hb)).2
  rw [List.length_cons]
  omega
abbrev uN (a : Nat) : UInt8 := UInt8.ofNat a
theorem VY {a b : Nat} (ha : a < 256) (hb : b < 256) (h : a ≠ b) : uN a ^^^ uN b ≠ 0 := fun e => by
 have e := AaG e
 have := congrArg UInt8.toNat e
 rw [UInt8.toNat_ofNat', UInt8.toNat_ofNat'] at this
 omega
theorem Ag2 {p q : UInt8} (hp : p ≠ 0) (hq : q ≠ 0) : FK p ^^^ FK q = Bh (p ^^^ q) (Bh (FK p) (FK q)) := by
 rw [O9, ← Ee, LW hp, Gx, Aeq, LW hq, NW, VQ]
theorem AeO {P Q v : UInt8} (hp : P ≠ 0) : v ^^^ Bh (Bh Q (FK P)) v = Bh (P ^^^ Q) (Bh (FK P) v) := by
 rw [O9, ← Ee P, LW hp, Gx, Ee Q]
theorem Ahx {n : Nat} (hn : n ≤ 256) : ∀ (L : List Nat) (v : Nat → UInt8), (∀ a ∈ L, n ≤ a ∧ a < 256) → L.Nodup → (∀ a ∈ L, xs (fun k => Bh (FK (uN a ^^^ uN k)) (v k)) n = 0) → cnt v n ≤ L.length → ∀ j, j < n → v j = 0
 | [], v, _, _, _, hc => Acd (by simpa using hc)
 | a :: L, v, hb, hd, he, hc => by
  intro j hj
  by_cases hvj : v j = 0
  ·exact hvj
  exfalso
  rw [List.nodup_cons] at hd
  have ha := hb a (List.mem_cons_self ..)
  -- one place less
  have hw := Ahx hn L (fun k => Bh (v k) (Bh (uN j ^^^ uN k) (FK (uN a ^^^ uN k)))) (fun b h => hb b (List.mem_cons_of_mem _ h)) hd.2 (fun b hbm => ?_) ?_
  ·-- all the others are 0
   have h0 : ∀ k, k < n → k ≠ j → v k = 0 := fun k hk hkj => by
    have := hw k hk
    rcases IX this with e | e
    ·exact e
    ·rcases IX e with e | e
     ·exact absurd e (VY (by omega) (by omega) (fun q => hkj q.symm))
     ·exact absurd e (VC (VY (by omega) (by omega) (by omega)))
   have := he a (List.mem_cons_self ..)
   rw [KY hj fun k hk hkj => by rw [h0 k hk hkj, ER]] at this
   rcases IX this with e | e
   ·exact VC (VY (by omega) (by omega) (by omega)) e
   ·exact hvj e
  ·have hbb := hb b (List.mem_cons_of_mem _ hbm)
   have hne : a ≠ b := fun e => hd.1 (by rw [e]; exact hbm)
   have one : ∀ d, n ≤ d → d < 256 → xs (fun k => Bh (FK (uN d ^^^ uN k)) (v k)) n = 0 → xs (fun k => v k ^^^ Bh (Bh (uN j ^^^ uN k) (FK (uN d ^^^ uN k))) (v k)) n = 0 := fun d h1 h2 h => by
    have : Bh (uN d ^^^ uN j) (xs (fun k => Bh (FK (uN d ^^^ uN k)) (v k)) n) = 0 := by rw [h, ER]
    rw [Oj] at this
    rw [← this]
    refine EE fun k hk => ?_
    have hp : uN d ^^^ uN k ≠ 0 := VY h2 (by omega) (by omega)
    have e : uN d ^^^ uN j = (uN d ^^^ uN k) ^^^ (uN j ^^^ uN k) := by
     rw [x4, Le, Hq]
    rw [e]
    exact AeO hp
   have e1 := one b hbb.1 hbb.2 (he b (List.mem_cons_of_mem _ hbm))
   have e2 := one a ha.1 ha.2 (he a (List.mem_cons_self ..))
   have e3 : xs (fun k => (v k ^^^ Bh (Bh (uN j ^^^ uN k) (FK (uN b ^^^ uN k))) (v k)) ^^^ (v k ^^^ Bh (Bh (uN j ^^^ uN k) (FK (uN a ^^^ uN k))) (v k))) n = 0 := by
    rw [QP, e1, e2, Le]
   have e4 : xs (fun k => Bh (uN b ^^^ uN a) (Bh (FK (uN b ^^^ uN k)) (Bh (v k) (Bh (uN j ^^^ uN k) (FK (uN a ^^^ uN k)))))) n = 0 := by
    rw [← e3]
    refine EE fun k hk => ?_
    rw [x4, Le, O8, ← O9, ← PG, Ag2 (VY hbb.2 (by omega) (by omega)) (VY ha.2 (by omega) (by omega)), x4 (uN b) (uN k) (uN a) (uN k), Le, Hq]
    simp only [Ig, Aeq, Ee]
   rw [← Oj] at e4
   rcases IX e4 with e | e
   ·exact absurd e (VY hbb.2 ha.2 (fun q => hne q.symm))
   ·exact e
  ·have := cnt_lt (v := v) (w := fun k => Bh (v k) (Bh (uN j ^^^ uN k) (FK (uN a ^^^ uN k)))) (j0 := j) (n := n) (fun k _ hk => by simp only [hk, Ei]) hj hvj (by simp only [Le, Ei, ER])
   rw [List.length_cons] at hc
   omega
theorem Xc (p : Nat → Bool) : ∀ N : List Nat, (N.filter p).length + (N.filter fun a => !p a).length = N.length
 | [] => rfl
 | a :: N => by
  have := Xc p N
  cases h : p a <;> simp [h] <;> omega
theorem Agq {c r : Nat} {N : List Nat} {v : Nat → UInt8} (hr : r ≤ 256) (hcr : c ≤ r) (hl : N.length = c) (hd : N.Nodup) (hb : ∀ a ∈ N, a < r) (h : ∀ a ∈ N, xs (fun k => Bh (IQ c a k) (v k)) c = 0) : ∀ j, j < c → v j = 0 := by
 have hdata : ∀ a ∈ N.filter (fun a => decide (a < c)), a < c ∧ v a = 0 := fun a ha => by
  rw [List.mem_filter] at ha
  have hac : a < c := by simpa using ha.2
  refine ⟨hac, ?_⟩
  have := h a ha.1
  rw [KY hac fun k _ hk => by rw [IQ, if_neg (by omega), if_neg (fun e => hk e.symm), Ei], IQ, if_neg (by omega), if_pos rfl, Gx] at this
  exact this
 have h1 := Acf (n := c) _ v (hd.filter _) hdata
 have h2 := Xc (fun a => decide (a < c)) N
 refine Ahx (by omega) (N.filter fun a => !decide (a < c)) v (fun a ha => ?_) (hd.filter _) (fun a ha => ?_) (by omega)
 ·rw [List.mem_filter] at ha
  have := hb a ha.1
  have h3 : ¬ a < c := by simpa using ha.2
  omega
 ·rw [List.mem_filter] at ha
  have h3 : ¬ a < c := by simpa using ha.2
  rw [← h a ha.1]
  refine EE fun k hk => ?_
  rw [IQ, if_pos (by omega)]
  congr 2
  apply UInt8.toNat_inj.1
  have := hb a ha.1
  rw [UInt8.toNat_xor, UInt8.toNat_ofNat', UInt8.toNat_ofNat', UInt8.toNat_ofNat', Nat.mod_eq_of_lt (by omega), Nat.mod_eq_of_lt (by omega), Nat.mod_eq_of_lt]
  exact Nat.xor_lt_two_pow (n := 8) (by omega) (by omega)
theorem Sv {c r : Nat} {at' : List Int} (hl : at'.length = c) (hb : ∀ x ∈ at', 0 ≤ x ∧ x < (r : Int)) : pick (Dn c r) at' = at'.map (rowAt (Dn c r)) ∧ Sq c (pick (Dn c r) at') := by
 have h : at'.all (inR (Dn c r)) = true := by
  rw [List.all_eq_true]
  intro x hx
  have := hb x hx
  simp [inR, Eh, this.1, this.2]
 have e : pick (Dn c r) at' = at'.map (rowAt (Dn c r)) := by rw [pick, if_pos h]
 refine ⟨e, ?_⟩
 rw [e]
 refine ⟨by rw [List.length_map]; exact hl, fun y hy => ?_⟩
 obtain ⟨x, hx, rfl⟩ := List.mem_map.1 hy
 have := hb x hx
 rw [rowAt, AY [] (by rw [Eh]; omega)]
 exact JK c r _ (List.getElem_mem _)
theorem Adf {c r : Nat} {at' : List Int} (hl : at'.length = c) (hb : ∀ x ∈ at', 0 ≤ x ∧ x < (r : Int)) {i : Nat} (hi : i < at'.length) {k : Nat} (hk : k < c) : entry (pick (Dn c r) at') i k = IQ c (at'[i].toNat) k := by
 have := hb _ (List.getElem_mem hi)
 rw [(Sv hl hb).1, ← LM (n := r) (by omega) hk, entry, AY [] (by rw [List.length_map]; exact hi), List.getElem_map]
 rfl
theorem AhH {c r : Nat} {at' : List Int} (hc : 0 < c) (hr : r ≤ 256) (hcr : c ≤ r) (hl : at'.length = c) (hb : ∀ x ∈ at', 0 ≤ x ∧ x < (r : Int)) (hs : at'.Pairwise (· < ·)) : ∃ x, Ik (pick (Dn c r) at') = some x := by
 cases h : Ik (pick (Dn c r) at') with
 | some x => exact ⟨x, rfl⟩
 | none =>
  exfalso
  obtain ⟨_, v, ⟨j, hj, hv⟩, hz⟩ := Abx (Sv hl hb).2 hc h
  refine hv (Agq (c := c) (r := r) (N := at'.map Int.toNat) hr hcr (by rw [List.length_map]; exact hl) ?_ (fun a ha => ?_) (fun a ha => ?_) j hj)
  ·rw [List.Nodup, List.pairwise_map]
   refine hs.imp_of_mem fun {x y} hx hy hxy => ?_
   have := hb x hx
   have := hb y hy
   omega
  ·obtain ⟨x, hx, rfl⟩ := List.mem_map.1 ha
   have := hb x hx
   omega
  ·obtain ⟨x, hx, rfl⟩ := List.mem_map.1 ha
   obtain ⟨i, hi, rfl⟩ := List.mem_iff_getElem.1 hx
   rw [← hz i (by omega)]
   exact EE fun k hk => by rw [Adf hl hb hi hk]
abbrev Bs := List UInt8
def BX (n : Nat) : Bs := [UInt8.ofNat (n / 16777216), UInt8.ofNat (n / 65536), UInt8.ofNat (n / 256), UInt8.ofNat n]
def EK (b : Bs) : Nat := 16777216 * (b.getD 0 0).toNat + 65536 * (b.getD 1 0).toNat + 256 * (b.getD 2 0).toNat + (b.getD 3 0).toNat
theorem Ai (n : Nat) : (BX n).length = 4 := rfl
theorem Abp (b : Bs) : EK b < 4294967296 := by
 have h0 := (b.getD 0 0).toNat_lt
 have h1 := (b.getD 1 0).toNat_lt
 have h2 := (b.getD 2 0).toNat_lt
 have h3 := (b.getD 3 0).toNat_lt
 unfold EK
 omega
theorem Ju {n : Nat} (h : n < 4294967296) (r : Bs) : EK (BX n ++ r) = n := by
 simp only [EK, BX, List.cons_append, List.nil_append, List.getD_cons_zero, List.getD_cons_succ, UInt8.toNat_ofNat']
 omega
theorem AgJ {n m : Nat} (hn : n < 4294967296) (hm : m < 4294967296) (h : BX n = BX m) : n = m := by
 have := congrArg (fun b => EK (b ++ [])) h
 simpa only [Ju hn, Ju hm] using this
def Be (v : Bs) : Bs := BX v.length ++ v
theorem Ej (v : Bs) : (Be v).length = v.length + 4 := by simp [Be, Ai]; omega
def ET (k n : Nat) : Nat := (n + (k - 1)) / k * k
theorem NU {k n : Nat} (hk : 0 < k) : n ≤ ET k n := by
 unfold ET
 have h1 := Nat.div_add_mod (n + (k - 1)) k
 have h2 := Nat.mod_lt (n + (k - 1)) hk
 have h3 : k * ((n + (k - 1)) / k) = (n + (k - 1)) / k * k := Nat.mul_comm _ _
 omega
theorem TY {k n : Nat} (hk : 0 < k) : ET k n < n + k := by
 unfold ET
 have h1 := Nat.div_add_mod (n + (k - 1)) k
 have h3 : k * ((n + (k - 1)) / k) = (n + (k - 1)) / k * k := Nat.mul_comm _ _
 omega
theorem MB {k n : Nat} (hk : 0 < k) : ET k n = k * (ET k n / k) := by
 unfold ET
 rw [Nat.mul_div_cancel _ hk, Nat.mul_comm]
theorem Yq {k n m : Nat} (hk : 0 < k) (h1 : n ≤ m) (h2 : m < n + k) (h3 : m % k = 0) : m = ET k n := by
 have a1 := NU (n := n) hk
 have a2 := TY (n := n) hk
 have a3 := MB (n := n) hk
 have a4 := Nat.div_add_mod m k
 rw [h3] at a4
 by_cases h : m / k < ET k n / k
 ·have := Nat.mul_le_mul_left k (Nat.succ_le_of_lt h)
  rw [Nat.mul_succ] at this
  omega
 ·by_cases h' : ET k n / k < m / k
  ·have := Nat.mul_le_mul_left k (Nat.succ_le_of_lt h')
   rw [Nat.mul_succ] at this
   omega
  ·have e : m / k = ET k n / k := by omega
   rw [e] at a4
   omega
def GZ (k : Nat) (b : Bs) : Bs := b ++ List.replicate (ET k b.length - b.length) 0
theorem OD {k : Nat} (hk : 0 < k) (b : Bs) : (GZ k b).length = ET k b.length := by
 have := NU (n := b.length) hk
 simp [GZ]; omega
def Uo (n : Nat) : Nat → Bs → LL
 | 0, _ => []
 | k + 1, b => b.take n :: Uo n k (b.drop n)
theorem U1 (n : Nat) : ∀ (k : Nat) (b : Bs), (Uo n k b).length = k
 | 0, _ => rfl
 | k + 1, b => by rw [Uo, List.length_cons, U1 n k]
theorem Ab2 (n : Nat) : ∀ (k : Nat) (b : Bs) (i : Nat), i < k → (Uo n k b)[i]? = some ((b.drop (i * n)).take n)
 | 0, _, i, h => by omega
 | k + 1, b, 0, h => by simp [Uo]
 | k + 1, b, i + 1, h => by
  rw [Uo, List.getElem?_cons_succ, Ab2 n k _ i (by omega), List.drop_drop]
  rw [show n + i * n = (i + 1) * n from by rw [Nat.succ_mul]; omega]
theorem Ab3 (n : Nat) : ∀ (k : Nat) (b : Bs), b.length = k * n → ∀ x ∈ Uo n k b, x.length = n
 | 0, _, _, x, hx => by simp [Uo] at hx
 | k + 1, b, h, x, hx => by
  rw [Nat.succ_mul] at h
  simp only [Uo, List.mem_cons] at hx
  rcases hx with rfl | hx
  ·rw [List.length_take]; omega
  ·exact Ab3 n k (b.drop n) (by rw [List.length_drop]; omega) x hx
theorem YN (n : Nat) : ∀ (k : Nat) (b : Bs), b.length = k * n → (Uo n k b).flatten = b
 | 0, b, h => by
  have : b = [] := List.eq_nil_of_length_eq_zero (by omega)
  simp [Uo, this]
 | k + 1, b, h => by
  rw [Nat.succ_mul] at h
  rw [Uo, List.flatten_cons, YN n k (b.drop n) (by rw [List.length_drop]; omega), List.take_append_drop]
def BK (k n : Nat) : Nat := ET k (n + 4) / k
def AL (k : Nat) (v : Bs) : LL := Uo (BK k v.length) k (GZ k (Be v))
theorem KG {k : Nat} (hk : 0 < k) (v : Bs) : (GZ k (Be v)).length = k * BK k v.length := by
 rw [OD hk, Ej, BK]
 exact MB hk
theorem Oo {k : Nat} (n : Nat) (hk : 0 < k) : 0 < BK k n := by
 have h1 := NU (n := n + 4) hk
 have h2 := MB (n := n + 4) hk
 unfold BK
 rcases Nat.eq_zero_or_pos (ET k (n + 4) / k) with h | h
 ·rw [h, Nat.mul_zero] at h2; omega
 ·exact h
theorem DJ {k : Nat} (n : Nat) (hk : 0 < k) : BK k n ≤ n + 4 := by
 unfold BK ET
 rw [Nat.mul_div_cancel _ hk]
 refine Nat.le_of_lt_succ ((Nat.div_lt_iff_lt_mul hk).2 ?_)
 have : n + 4 + 1 + (n + 4 + 1) * (k - 1) = (n + 4 + 1) * k := by
  rw [Nat.add_comm, ← Nat.mul_succ]
  congr 1
  omega
 have h3 : 1 * (k - 1) ≤ (n + 4 + 1) * (k - 1) := Nat.mul_le_mul_right _ (by omega)
 rw [Nat.one_mul] at h3
 show n + 4 + (k - 1) < (n + 4 + 1) * k
 omega
theorem IW {k : Nat} (hk : 0 < k) (v : Bs) : Ea (AL k v) ∧ width (AL k v) = BK k v.length ∧ (AL k v).length = k := by
 have hl := U1 (BK k v.length) k (GZ k (Be v))
 have ha := Ab3 (BK k v.length) k (GZ k (Be v)) (KG hk v)
 have hw : width (AL k v) = BK k v.length := VT (by rw [AL, hl]; exact hk) ha
 exact ⟨⟨by rw [AL, hl]; exact hk, by rw [hw]; exact Oo _ hk, fun x hx => by rw [hw]; exact ha x hx⟩, hw, hl⟩
theorem Abk {k : Nat} (hk : 0 < k) (v : Bs) : (AL k v).flatten = GZ k (Be v) := YN _ _ _ (KG hk v)
def GI (b : Bs) : Option (Bs × Bs) := if b.length < 4 then none else if b.length - 4 < EK b then none else some ((b.drop 4).take (EK b), (b.drop 4).drop (EK b))
theorem QM {v : Bs} (hv : v.length < 4294967296) (r : Bs) : GI (Be v ++ r) = some (v, r) := by
 have h1 : EK (Be v ++ r) = v.length := by rw [Be, List.append_assoc]; exact Ju hv _
 have h2 : (Be v ++ r).drop 4 = v ++ r := by
  rw [Be, List.append_assoc]
  exact List.drop_left' rfl
 rw [GI, h1, h2, if_neg (by simp [Ej]; omega), if_neg (by simp [Ej]; omega), List.take_left, List.drop_left]
/-! ### shards -/
def encode (K F : Nat) (v : Bs) : LL := Gy (Dn K (K + 2 * F)) (AL K v)
structure CO (K F : Nat) : Prop where
 k : 1 ≤ K
 n : K + 2 * F ≤ 7
theorem BP {K F : Nat} (h : CO K F) (v : Bs) : Ea (encode K F v) ∧ width (encode K F v) = BK K v.length ∧ (encode K F v).length = K + 2 * F := by
 have hk := h.k
 obtain ⟨rp, wp, lp⟩ := IW (k := K) (by omega) v
 obtain ⟨rc, wc⟩ := I7 (k := K) (n := K + 2 * F) (by omega) (by omega)
 obtain ⟨r1, w1, l1⟩ := Hy rc rp (by rw [wc, lp])
 exact ⟨r1, by rw [encode, w1, wp], by rw [encode, l1, Eh]⟩
def L6 (l : LL) : List Nat := (List.range l.length).filter fun i => decide (0 < (l.getD i []).length)
def BA (l : LL) : List Int := (L6 l).map Int.ofNat
theorem UG {l : LL} {i : Nat} : i ∈ L6 l ↔ i < l.length ∧ l.getD i [] ≠ [] := by
 simp only [L6, List.mem_filter, List.mem_range, decide_eq_true_eq, List.length_pos_iff]
theorem XN (l : LL) : (L6 l).Pairwise (· < ·) := List.Pairwise.filter _ List.pairwise_lt_range
theorem Ox {l : LL} {x : Int} : x ∈ BA l ↔ ∃ i : Nat, x = (i : Int) ∧ i < l.length ∧ l.getD i [] ≠ [] := by
 simp only [BA, List.mem_map, UG]
 constructor
 ·rintro ⟨i, h, rfl⟩; exact ⟨i, rfl, h⟩
 ·rintro ⟨i, rfl, h⟩; exact ⟨i, h, rfl⟩
theorem XO (l : LL) : (BA l).Pairwise (· < ·) := by
 rw [BA, List.pairwise_map]
 exact (XN l).imp fun h => by show (Int.ofNat _ : Int) < Int.ofNat _; simp only [Int.ofNat_eq_natCast]; omega
def KN (K F : Nat) (v : Bs) (l : LL) : Bool := (List.range l.length).all fun i => decide ((l.getD i []) = [] ∨ (encode K F v).getD i [] = l.getD i [])
theorem Qa {K F : Nat} {v : Bs} {l : LL} : KN K F v l = true ↔ ∀ i, i < l.length → l.getD i [] ≠ [] → (encode K F v).getD i [] = l.getD i [] := by
 simp only [KN, List.all_eq_true, List.mem_range, decide_eq_true_eq]
 refine forall_congr' fun i => forall_congr' fun _ => ⟨fun h h2 => h.resolve_left h2, fun h => ?_⟩
 by_cases e : l.getD i [] = []
 ·exact .inl e
 ·exact .inr (h e)
def decode (K F : Nat) (l : LL) : Bs × Nat :=
 if l.length ≠ K + 2 * F then ([], 1)
 else if (BA l).length < K then ([], 3)
 else if Me (pick l ((BA l).take K)) = false then ([], 2)
 else match Ik (pick (Dn K (K + 2 * F)) ((BA l).take K)) with
  | none => ([], 2)
  | some x => match GI (Gy x (pick l ((BA l).take K))).flatten with
   | none => ([], 2)
   | some (v, _) => if v.length ≤ 512 ∧ KN K F v l = true then (v, 0) else ([], 2)
theorem AbG {α β : Type} {f : α → β} {l : List α} {i : Nat} (d : α) (e : β) (h : i < l.length) : (l.map f).getD i e = f (l.getD i d) := by
 rw [AY _ (by rw [List.length_map]; exact h), AY _ h, List.getElem_map]
theorem ZB {m : LL} {x : Int} (h : 0 ≤ x ∧ x < (m.length : Int)) : inR m x = true := by simp [inR, h.1, h.2]
theorem Afk {a b : LL} {at' : List Int} (hw : width a = b.length) (hi : at'.all (inR a) = true) (hw' : width (pick a at') = b.length) : Gy (pick a at') b = pick (Gy a b) at' := by
 have hm : Gy a b = a.map (fun r => IC b r (width b) r.length) := by rw [Gy, if_pos hw]
 have e1 : pick a at' = at'.map (rowAt a) := by rw [pick, if_pos hi]
 have e2 : pick (Gy a b) at' = at'.map (rowAt (Gy a b)) := by
  rw [pick, if_pos]
  rw [List.all_eq_true] at hi ⊢
  intro x hx
  have := hi x hx
  simp only [inR, Bool.and_eq_true, decide_eq_true_eq, UU hw] at this ⊢
  exact this
 rw [e2, Gy, if_pos hw', e1, List.map_map]
 refine List.map_congr_left fun x hx => ?_
 have := List.all_eq_true.1 hi x hx
 simp only [inR, Bool.and_eq_true, decide_eq_true_eq] at this
 simp only [Function.comp, rowAt]
 rw [hm, AbG [] [] (by omega)]
theorem AfE {K F : Nat} (h : CO K F) {v : Bs} (hv : v.length ≤ 512) {l : LL} (hl : l.length = K + 2 * F) (ha : ∀ i, i < l.length → l.getD i [] ≠ [] → l.getD i [] = (encode K F v).getD i []) (hc : K ≤ (BA l).length) : decode K F l = (v, 0) := by
 have hk := h.k
 have hn := h.n
 obtain ⟨rp, wp, lp⟩ := IW (k := K) (by omega) v
 obtain ⟨rc, wc⟩ := I7 (k := K) (n := K + 2 * F) (by omega) (by omega)
 obtain ⟨re, we, le⟩ := BP h v
 have hlen : ((BA l).take K).length = K := by rw [List.length_take]; omega
 have hmem : ∀ x ∈ (BA l).take K, ∃ i : Nat, x = (i : Int) ∧ i < l.length ∧ l.getD i [] ≠ [] := fun x hx => Ox.1 (List.mem_of_mem_take hx)
 have hb : ∀ x ∈ (BA l).take K, 0 ≤ x ∧ x < ((K + 2 * F : Nat) : Int) := fun x hx => by
  obtain ⟨i, rfl, hi, _⟩ := hmem x hx
  omega
 have hs : ((BA l).take K).Pairwise (· < ·) := (XO l).sublist (List.take_sublist _ _)
 obtain ⟨y, hy⟩ := AhH (c := K) (r := K + 2 * F) (by omega) (by omega) (by omega) hlen hb hs
 have hsq := (Sv hlen hb).2
 obtain ⟨sy, e1, e2, _⟩ := UW hsq (by omega) hy
 obtain ⟨ry, wy⟩ := sy.right (by omega)
 obtain ⟨rk, wk⟩ := hsq.right (by omega)
 have hin : ((BA l).take K).all (inR (Dn K (K + 2 * F))) = true := by
  rw [List.all_eq_true]
  intro x hx
  exact ZB (by rw [Eh]; exact hb x hx)
 have hinl : ((BA l).take K).all (inR l) = true := by
  rw [List.all_eq_true]
  intro x hx
  exact ZB (by rw [hl]; exact hb x hx)
 have hine : ((BA l).take K).all (inR (encode K F v)) = true := by
  rw [List.all_eq_true]
  intro x hx
  exact ZB (by rw [le]; exact hb x hx)
 have hfirst : pick l ((BA l).take K) = Gy (pick (Dn K (K + 2 * F)) ((BA l).take K)) (AL K v) := by
  rw [Afk (by rw [wc, lp]) hin (by rw [wk, lp])]
  show _ = pick (encode K F v) _
  rw [pick, if_pos hinl, pick, if_pos hine]
  refine List.map_congr_left fun x hx => ?_
  obtain ⟨i, rfl, hi, hne⟩ := hmem x hx
  simp only [rowAt, Int.toNat_natCast]
  exact ha i hi hne
 have hw1 : width (pick (Dn K (K + 2 * F)) ((BA l).take K)) = (AL K v).length := by rw [wk, lp]
 obtain ⟨rf, wf, lf⟩ := Hy rk rp hw1
 have hmul : Gy y (pick l ((BA l).take K)) = AL K v := by
  rw [hfirst, ← Adj ry rk rp (by rw [wy, hsq.len]) hw1, Adi sy hsq (by omega) e1]
  have := AgH rp
  rw [lp] at this
  exact this
 have hag : KN K F v l = true := Qa.2 fun i hi hne => (ha i hi hne).symm
 rw [decode, if_neg (by omega), if_neg (by omega), hfirst, if_neg (by rw [Ae2 rf]; simp), hy]
 dsimp only
 rw [← hfirst, hmul, Abk (by omega), GZ, QM (by omega)]
 dsimp only
 rw [if_pos ⟨hv, hag⟩]
theorem AfD {K F : Nat} {v : Bs} {l : LL} (h : decode K F l = (v, 0)) : l.length = K + 2 * F ∧ K ≤ (BA l).length ∧ v.length ≤ 512 ∧ KN K F v l = true := by
 unfold decode at h
 split at h
 ·simp at h
 ·split at h
  ·simp at h
  ·split at h
   ·simp at h
   ·split at h
    ·simp at h
    ·split at h
     ·simp at h
     ·rename_i h1 h2 _ _ _ _ _ _ _
      split at h
      ·rename_i h3
       simp only [Prod.mk.injEq, and_true] at h
       subst h
       exact ⟨by omega, by omega, h3⟩
      ·simp at h
theorem ZQ {K F : Nat} {l : LL} (h1 : l.length = K + 2 * F) (h2 : (BA l).length < K) : decode K F l = ([], 3) := by
 unfold decode
 rw [if_neg (by omega), if_pos h2]
def Jp (l : LL) (k : Nat) : List Nat := (List.range k).filter fun i => decide (0 < (l.getD i []).length)
theorem YZ (l : LL) (k : Nat) : Jp l (k + 1) = Jp l k ++ if 0 < (l.getD k []).length then [k] else [] := by
 rw [Jp, List.range_succ, List.filter_append, ← Jp]
 congr 1
 by_cases h : 0 < (l.getD k []).length
 ·rw [if_pos h, List.filter_cons_of_pos (by simpa using h), List.filter_nil]
 ·rw [if_neg h, List.filter_cons_of_neg (by simpa using h), List.filter_nil]
theorem UF (l : LL) : Jp l l.length = L6 l := rfl
theorem UE (l : LL) (k : Nat) : (Jp l k).length ≤ k := by
 have := List.length_filter_le (fun i => decide (0 < (l.getD i []).length)) (List.range k)
 rwa [List.length_range] at this
theorem AaR (l : LL) : (BA l).length ≤ l.length := by rw [BA, List.length_map, ← UF]; exact UE l _
theorem AfZ {l : LL} : ∀ x ∈ BA l, 0 ≤ x ∧ x < (l.length : Int) := fun x hx => by
 obtain ⟨i, rfl, h, _⟩ := Ox.1 hx
 omega
theorem Adv {K F : Nat} (h : CO K F) (v : Bs) {i : Nat} (hi : i < K + 2 * F) : ((encode K F v).getD i []).length = BK K v.length := by
 obtain ⟨re, we, le⟩ := BP h v
 rw [Md re (by omega), we]
theorem MG {α : Type} (l : List α) (i j : Nat) (x d : α) (hi : i < l.length) : (l.set i x).getD j d = if j = i then x else l.getD j d := by
 simp only [List.getD_eq_getElem?_getD, List.getElem?_set]
 by_cases e : i = j
 ·subst e; simp [hi]
 ·rw [if_neg e, if_neg (fun h => e h.symm)]
/-! ### mixed values -/
end Go.Proofs.YtgpkbldlkadnjaaGreat
end
section
set_option maxHeartbeats 3000000
attribute [local irreducible] Go.Sl.Chk Go.Sl.Br Go.Sl.Or2 Go.Sl.Ld Go.Sl.Ldn Go.Sl.LdB Go.Sl.Stn Go.Sl.New Go.Sl.Run Go.Sl.Ec Go.Sl.D9 Go.Sl.Call Go.Sl.Cc Go.Sl.Ed Go.Sl.Alt Go.Sl.Om Go.Sl.xpk Go.Sl.EX Go.Sl.EY Go.Sl.DLd Go.Sl.ES Go.Sl.DBs Go.Sl.Bo Go.Sl.Et Go.Sl.Es Go.Sl.Dk Go.Sl.DGC Go.Sl.Dq Go.Sl.Fj Go.Sl.D8 Go.Sl.Ent Go.Sl.Bg Go.Sl.dv Go.Sl.ev Go.Sl.Am
namespace Go.Proofs.YtgpkbldlkadnjaaGreat
open Go Go.Sl Go.RowKit
theorem elI : El Tryz.prog Ad2 Y1 1 8 (.int .i64 0) := El.of (by kernel_rfl) (by kernel_rfl) rfl (by decide)
theorem uStr : Tryz.prog.underlying QA = some .string := by kernel_rfl
theorem uInt : Tryz.prog.underlying Y1 = some (.int .i64) := by kernel_rfl
theorem AfX : Tryz.prog.underlying Au = some (.slice tU8) := by kernel_rfl
theorem uU8 : Tryz.prog.underlying tU8 = some (.int .u8) := by kernel_rfl
abbrev Ak (b : Bs) : D := .row tU8 1 b.length (b.map bD)
abbrev Abt (m : LL) : D := .row Au 1 m.length (m.map Ak)
theorem XE (x : UInt8) : (bD x).plain := trivial
theorem KC {b : Bs} : ∀ d ∈ b.map bD, d.plain := fun d hd => by obtain ⟨x, _, rfl⟩ := List.mem_map.1 hd; exact XE x
theorem Jm {b : Bs} : ∀ d ∈ b.map bD, BJ d := fun d hd => by obtain ⟨x, _, rfl⟩ := List.mem_map.1 hd; rfl
theorem Df (b : Bs) : Jv (b.map bD) ∧ QB (b.map bD) = b.map bD :=
 let h := MH (l := b.map bD) KC
 ⟨h.2, h.1⟩
theorem SX (m : LL) : Jv (m.map Ak) ∧ QB (m.map Ak) = m.map bytesD := by
 refine ⟨Uf fun d hd => ?_, ?_⟩
 ·obtain ⟨x, _, rfl⟩ := List.mem_map.1 hd
  simp only [I9]
  exact (Df x).1
 ·rw [WZ, List.map_map]
  refine List.map_congr_left fun x _ => ?_
  simp only [Function.comp, frz, (Df x).2]
theorem AdY (n : Nat) : IntKind.u8.wrap ((n : Nat) : Int) = ((UInt8.ofNat n).toNat : Int) := by
 rw [UInt8.toNat_ofNat']
 simp [IntKind.wrap, IntKind.bits, IntKind.signed]
theorem AfT (n k : Nat) : D.sc (Value.int .u8 (IntKind.u8.wrap ((n : Int).fdiv (2 ^ k)))) = bD (UInt8.ofNat (n / 2 ^ k)) := by
 rw [Int.fdiv_eq_ediv_of_nonneg _ (Int.le_of_lt (Int.pow_pos (by decide)))]
 have : (n : Int) / 2 ^ k = ((n / 2 ^ k : Nat) : Int) := by rw [Int.natCast_ediv]; congr 1
 rw [this, AdY]
 rfl
theorem VR (n : Nat) : D.sc (Value.int .u8 (IntKind.u8.wrap (n : Int))) = bD (UInt8.ofNat n) := by
 rw [AdY]
 rfl
theorem Aek (n : Nat) (hn : n < 4294967296) : MW Tryz.prog Jw [iD n] (fun i => .h i) (Ak (BX n)) := by
 intro nx
 refine A8 AdN (by simp only [m_wire_Num, List.length]; decide) ?_
 simp only [m_wire_Num]; refine WK ?_; try with_reducible exact trivial
 refine C9 ⟨nx, Nat.le_refl _, Nat.lt_succ_self _, rfl, ?_⟩
 rw [AfT, AfT, AfT, VR]
 rfl
theorem num_d (n : Nat) (hn : n < 4294967296) : ED Tryz.prog Jw [iD n] (bytesD (BX n)) :=
 (Aek n hn).fn (Df _).1 (by rw [(Df _).2])
theorem Ac8 (n : Nat) (hn : n < 4294967296) : MW Tryz.prog Ho [iD n] (fun i => .h i) (Ak (BX n)) := by
 intro nx
 refine A8 Acp (by simp only [m_ref01_Num, List.length]; decide) ?_
 simp only [m_ref01_Num]; refine WK ?_; try with_reducible exact trivial
 refine C9 ⟨nx, Nat.le_refl _, Nat.lt_succ_self _, rfl, ?_⟩
 have e : ∀ k : Nat, UInt8.ofNat (k % 256) = UInt8.ofNat k := fun k => UInt8.toNat_inj.1 (by simp)
 have c1 : (n : Int) / 16777216 = ((n / 16777216 : Nat) : Int) := by omega
 have c2 : (n : Int) / 65536 % 256 = ((n / 65536 % 256 : Nat) : Int) := by omega
 have c3 : (n : Int) / 256 % 256 = ((n / 256 % 256 : Nat) : Int) := by omega
 have c4 : (n : Int) % 256 = ((n % 256 : Nat) : Int) := by omega
 rw [c1, c2, c3, c4, VR, VR, VR, VR, e, e, e]
 rfl
theorem Af0 (v : Bs) (hv : v.length < 4294967296) : MW Tryz.prog KQ [BC v] (fun i => .h i) (Ak (Be v)) := by
 intro nx
 refine A8 Aci (by simp only [m_wire_Text, List.length]; decide) ?_
 simp only [m_wire_Text]; refine WK ?_; try with_reducible exact trivial
 have e : (⟨v.toArray⟩ : ByteArray).size = v.length := by simp [ByteArray.size]
 rw [e]
 refine QC (Aek v.length hv) fun i n1 h1 h2 => ?_
 refine WK ?_; try with_reducible exact trivial
 refine Ahq (n := (BX v.length).length) elB rfl uStr (Aa _ _ _) (by rw [e, Ai]; omega) (by simp) ?_
 refine WK ?_; try with_reducible exact trivial
 refine C9 ⟨n1, by omega, Nat.lt_succ_self _, rfl, ?_⟩
 rw [AcQ, ← List.map_append, e]
 simp only [Ak, Be, List.length_append]
theorem text_d (v : Bs) (hv : v.length < 4294967296) : ED Tryz.prog KQ [BC v] (bytesD (Be v)) :=
 (Af0 v hv).fn (Df _).1 (by rw [(Df _).2])
theorem Aeb (v : Bs) (hv : v.length < 4294967296) : MW Tryz.prog JX [BC v] (fun i => .h i) (Ak (Be v)) := by
 intro nx
 refine A8 Z8 (by simp only [m_ref01_Text, List.length]; decide) ?_
 simp only [m_ref01_Text]; refine WK ?_; try with_reducible exact trivial
 have e : (⟨v.toArray⟩ : ByteArray).size = v.length := by simp [ByteArray.size]
 rw [e]
 refine QC (Ac8 v.length hv) fun i n1 h1 h2 => ?_
 refine WK ?_; try with_reducible exact trivial
 refine AbX (s := ⟨v.toArray⟩) uStr AfX uU8 (by with_unfolding_all rfl) ?_
 refine WK ?_; try with_reducible exact trivial
 refine NH (i := i) (m := v.length) (l' := v.map bD) elB (l := (BX v.length).map bD) (n := (BX v.length).length) (Aa _ _ _) ?_ (by simp) Jm (by rw [Ai]; omega) (by rw [Ai]; omega) (by simp) ?_
 ·rw [e]; exact Jo.sl _ _ _
 refine WK ?_; try with_reducible exact trivial
 refine C9 ⟨n1, by omega, Nat.lt_succ_self _, rfl, ?_⟩
 rw [← List.map_append]
 simp only [Ak, Be, List.length_append]
theorem Aba (a b : Bs) : ED Tryz.prog LG [bytesD a, bytesD b] (AO (decide (a = b))) := by
 intro nx
 refine A8 Z9 (by simp only [m_ref01_Same, List.length]; decide) ?_
 simp only [m_ref01_Same]; refine WK ?_; try with_reducible exact trivial
 refine dbs rfl ?_
 refine WK ?_; try with_reducible exact trivial
 refine dbs rfl ?_
 simp -dsimp (disch := omega) only [↓MC.xwp, ↓Ce, ↓xdr, ↓MOp.xwp, dvs, dv, dvu, dvo, dvp, dgb, dGd, DX, cond_true, cond_false, Gf, Bg, CQ, Dp, DD, Du, ptr, bsc, cv, uo, uof, Bq, xpr, DL, EL, FM, FB, Gi, FT, Gj, xst, xgp, glc, F8, DV, FY, FZ, FW, FX, DU, FV, FN, FU, DN, DR, Cj, Dw, Fv, dsl, dif, BV, CP, BI, scs, rowOf, AU, dtk, DC, BJ, pev, Bl, Bv, Aq, Bz, psl, Ba, ↓DI, ↓CB, ↓FP, ↓Fq, Dz, FD, FC, Dj, BG, kp, Di, Dv, E9, Dt, FI, CZ, AQ, BB, nb, Fe, Cb, Bd, apart, Aj, Bc, heldOk, Op.operands, Nat.reduceAdd, forall_eq_or_imp, D.plain, reduceCtorEq, if_true, if_false, ↓reduceIte, ne_eq, Bool.cond_true, Bool.cond_false, forall_const, implies_true, forall_eq, Int.reduceEq, Int.reduceLT, Int.reduceLE, Int.reduceAdd, Int.reduceSub, Int.reduceMul, Int.reduceToNat, Nat.reduceMul, Nat.reduceLeDiff, Nat.reduceLT, Nat.reduceSub, Nat.reduceBEq, Nat.reduceEqDiff, CY, bytesD, iD, CU, AO, BC, bD, DB, ba_eq]
 exact C9 ⟨rfl, rfl⟩
theorem Y0 {a b : Bs} {k : Nat} (ha : k < a.length) (hb : k < b.length) (h : a.take k = b.take k) (e : gt a k = gt b k) : a.take (k + 1) = b.take (k + 1) := by rw [Lp ha, Lp hb, h, e]
theorem ZO (a b : Bs) (hl : a.length ≤ 1000000000) : ED Tryz.prog II [bytesD a, bytesD b] (AO (decide (a = b))) := by
 intro nx
 refine A8 Xt (by simp only [m_slices_Equal, List.length]; decide) ?_
 simp only [m_slices_Equal]; refine WK ?_; try with_reducible exact trivial
 refine brn (fun hne => ?_) (fun heq => ?_)
 ·refine WK ?_; try with_reducible exact trivial
  have : ¬ a = b := fun h => hne (by rw [h])
  rw [J5 this]
  exact C9 ⟨rfl, rfl⟩
 ·have hlb : a.length = b.length := by omega
  refine WK ?_; try with_reducible exact trivial
  refine GL [0, 1, 12, 13] (fun k : Nat => ([(0, bytesD a), (1, bytesD b), (12, iD a.length), (13, iD k)], [], nx)) (fun k => k ≤ a.length ∧ a.take k = b.take k) (fun k => a.length - k) 0 ⟨by omega, rfl⟩ (Ent.of (by with_unfolding_all rfl) rfl) ?_
  rintro j ⟨hj, he⟩
  by_cases hlt : j < a.length
  ·simp -dsimp (disch := omega) only [↓MC.xwp, ↓Ce, ↓xdr, ↓MOp.xwp, dvs, dv, dvu, dvo, dvp, dgb, dGd, DX, cond_true, cond_false, Gf, Bg, CQ, Dp, DD, Du, ptr, bsc, cv, uo, uof, Bq, xpr, DL, EL, FM, FB, Gi, FT, Gj, xst, xgp, glc, F8, DV, FY, FZ, FW, FX, DU, FV, FN, FU, DN, DR, Cj, Dw, Fv, dsl, dif, BV, CP, BI, scs, rowOf, AU, dtk, DC, BJ, pev, Bl, Bv, Aq, Bz, psl, Ba, ↓DI, ↓CB, ↓FP, ↓Fq, Dz, FD, FC, Dj, BG, kp, Di, Dv, E9, Dt, FI, CZ, AQ, BB, nb, Fe, Cb, Bd, apart, Aj, Bc, heldOk, Op.operands, Nat.reduceAdd, forall_eq_or_imp, D.plain, reduceCtorEq, if_true, if_false, ↓reduceIte, ne_eq, Bool.cond_true, Bool.cond_false, forall_const, implies_true, forall_eq, Int.reduceEq, Int.reduceLT, Int.reduceLE, Int.reduceAdd, Int.reduceSub, Int.reduceMul, Int.reduceToNat, Nat.reduceMul, Nat.reduceLeDiff, Nat.reduceLT, Nat.reduceSub, Nat.reduceBEq, Nat.reduceEqDiff, CY, bytesD, iD, CU, AO, BC, bD, DB, U8]
   refine brn (fun hne => ?_) (fun heq => ?_)
   ·refine WK ?_; try with_reducible exact trivial
    have : ¬ a = b := fun h => hne (by rw [h])
    rw [J5 this]
    exact C9 ⟨rfl, rfl⟩
   ·refine WK ?_; try with_reducible exact trivial
    refine ⟨j + 1, ⟨by omega, ?_⟩, by omega, (Ent.of (by with_unfolding_all rfl) rfl)⟩
    refine Y0 hlt (by omega) he ?_
    have : (gt a j).toNat = (gt b j).toNat := by omega
    exact UInt8.toNat_inj.1 this
  ·refine WK ?_; try with_reducible exact trivial
   have hja : j = a.length := by omega
   subst hja
   rw [List.take_length, hlb, List.take_length] at he
   rw [H7 he]
   exact C9 ⟨rfl, rfl⟩
theorem Qr (b : Bs) (hl : b.length ≤ 1000000000) : MW Tryz.prog DY [bytesD b] (fun i => .h i) (Ak b) := by
 intro nx
 refine A8 PZ (by simp only [m_slices_Clone, List.length]; decide) ?_
 simp only [m_slices_Clone]; refine WK ?_; try with_reducible exact trivial
 intro q hq
 cases q with
 | true =>
  refine WK ?_; try with_reducible exact trivial
  have h0 : b = [] := List.eq_nil_of_length_eq_zero (by
   rcases Nat.eq_zero_or_pos b.length with h | h
   ·exact h
   ·exact absurd (hq h) (by simp))
  subst h0
  refine AbR tU8 1 (t' := .mk _) ?_
  exact C9 ⟨nx, Nat.le_refl _, Nat.lt_succ_self _, rfl, rfl⟩
 | false =>
  refine WK ?_; try with_reducible exact trivial
  refine NH (i := nx) (m := b.length) (l' := b.map bD) elB (l := []) (n := 0) (Aa _ _ _) (Jo.sl _ _ _) (by simp) Jm (by omega) (by omega) (by simp) ?_
  refine WK ?_; try with_reducible exact trivial
  exact C9 ⟨nx + 1, by omega, Nat.lt_succ_self _, rfl, by simp⟩
theorem AeD (b : Bs) (hl : b.length ≤ 1000000000) : ED Tryz.prog DY [bytesD b] (bytesD b) :=
 (Qr b hl).fn (Df _).1 (by rw [(Df _).2])
theorem grow_o (n : Nat) (hl : n ≤ 1000000000) : MW Tryz.prog Nz [.sc (.slice none 0 0), iD n] (fun i => .h i) (.row tU8 1 0 []) := by
 intro nx
 refine A8 XW (by simp only [m_slices_Grow, List.length]; decide) ?_
 simp only [m_slices_Grow]; refine WK ?_; try with_reducible exact trivial
 refine brd (fun h => ?_) (fun h => ?_)
 ·refine WK ?_; try with_reducible exact trivial
  refine AdI elB uInt (by omega) (by omega) (by omega) fun l hll => ?_
  refine WK ?_; try with_reducible exact trivial
  refine ocut ?_
  refine WK ?_; try with_reducible exact trivial
  refine ofrz ?_
  refine WK ?_; try with_reducible exact trivial
  exact C9 ⟨nx + 1, by omega, Nat.lt_succ_self _, rfl, rfl⟩
 ·refine WK ?_; try with_reducible exact trivial
  refine AbR tU8 1 (t' := .mk _) ?_
  exact C9 ⟨nx, Nat.le_refl _, Nat.lt_succ_self _, rfl, rfl⟩
theorem YE {ls : LL} {k : Nat} (h : k < ls.length) : (ls.take (k + 1)).flatten = (ls.take k).flatten ++ gt ls k := by rw [Lp h, List.flatten_append]; simp
theorem Aes (ls : LL) (k : Nat) : (ls.take k).flatten.length ≤ ls.flatten.length := by
 have := congrArg (fun l : LL => l.flatten.length) (List.take_append_drop k ls)
 simp only [List.flatten_append, List.length_append] at this
 omega
theorem Aht (ls : LL) (hl : ls.length ≤ 1000000000) (hf : ls.flatten.length ≤ 1000000000) : MW Tryz.prog GN [CY ls] (fun i => .h i) (Ak ls.flatten) := by
 intro nx
 refine A8 Ve (by simp only [m_slices_Concat, List.length]; decide) ?_
 simp only [m_slices_Concat]; refine WK ?_; try with_reducible exact trivial
 refine GL [0, 3, 9, 10, 11] (fun k : Nat => ([(0, CY ls), (3, iD (ls.take k).flatten.length), (9, CY ls), (10, iD ls.length), (11, iD k)], [], nx)) (fun k => k ≤ ls.length) (fun k => ls.length - k) 0 (by omega) (Ent.of (by with_unfolding_all rfl) rfl) ?_
 intro j hj
 by_cases hlt : j < ls.length
 ·have h1 := YE hlt
  have h2 := Aes ls (j + 1)
  have h3 : (ls.take (j + 1)).flatten.length = (ls.take j).flatten.length + (gt ls j).length := by rw [h1, List.length_append]
  refine WK ?_; try with_reducible exact trivial
  refine ⟨j + 1, by omega, by omega, ?_⟩
  rw [h3]
  exact (Ent.of (by with_unfolding_all rfl) rfl)
 ·have hjl : j = ls.length := by omega
  subst hjl
  rw [List.take_length]
  refine WK ?_; try with_reducible exact trivial
  refine QC (grow_o _ hf) fun i n1 h1 h2 => ?_
  refine WK ?_; try with_reducible exact trivial
  refine GL [6, 25, 26, 27] (fun s : Nat × Nat × Nat => ([(6, .h s.2.1), (25, CY ls), (26, iD ls.length), (27, iD s.1)], [(s.2.1, Ak (ls.take s.1).flatten)], s.2.2)) (fun s => s.1 ≤ ls.length ∧ nx ≤ s.2.1 ∧ s.2.1 < s.2.2) (fun s => ls.length - s.1) (0, i, n1) ⟨by dsimp only; omega, h1, h2⟩ (Ent.of (by with_unfolding_all rfl) rfl) ?_
  rintro ⟨j, i, n1⟩ ⟨hj, h1, h2⟩
  dsimp only at hj h1 h2 ⊢
  by_cases hlt : j < ls.length
  ·have g1 := YE hlt
   have g2 := Aes ls (j + 1)
   have g3 : (ls.take (j + 1)).flatten.length = (ls.take j).flatten.length + (gt ls j).length := by rw [g1, List.length_append]
   refine WK ?_; try with_reducible exact trivial
   refine NH (i := i) (m := (gt ls j).length) (l' := (gt ls j).map bD) elB (l := (ls.take j).flatten.map bD) (n := (ls.take j).flatten.length) (Aa _ _ _) (Jo.sl _ _ _) (by simp) Jm (by omega) (by omega) (by simp) ?_
   refine WK ?_; try with_reducible exact trivial
   refine ⟨(j + 1, n1, n1 + 1), ⟨by dsimp only; omega, by dsimp only; omega, by dsimp only; omega⟩, by dsimp only; omega, ?_⟩
   dsimp only
   rw [g1]
   simp only [Ak, List.map_append, List.length_append]
   exact (Ent.of (by with_unfolding_all rfl) rfl)
  ·have hjl : j = ls.length := by omega
   subst hjl
   rw [List.take_length]
   refine WK ?_; try with_reducible exact trivial
   exact C9 ⟨i, h1, h2, rfl, rfl⟩
theorem Xo (ls : LL) (hl : ls.length ≤ 1000000000) (hf : ls.flatten.length ≤ 1000000000) : ED Tryz.prog GN [CY ls] (bytesD ls.flatten) :=
 (Aht ls hl hf).fn (Df _).1 (by rw [(Df _).2])
def O4 (b : Bs) : Nat → Nat
 | 0 => 0
 | k + 1 => O4 b k * 256 + (gt b k).toNat
theorem Abn (b : Bs) : ∀ k, O4 b k < 256 ^ k
 | 0 => by simp [O4]
 | k + 1 => by
  have := Abn b k
  have h := (gt b k).toNat_lt
  rw [O4, Nat.pow_succ]
  omega
theorem Aii {b : Bs} (h : 4 ≤ b.length) : O4 b 4 = EK b := by
 simp only [O4, EK, gt]
 show ((_ * 256 + _) * 256 + _) * 256 + _ = _
 simp only [Nat.zero_mul, Nat.zero_add]
 have : ∀ k, b.getD k default = b.getD k 0 := fun _ => rfl
 simp only [this]
 omega
theorem shl_or (n : Nat) (c : UInt8) (h : n < 16777216) : IntKind.i64.wrap (BitVec.ofInt IntKind.i64.bits ((n * 256 : Nat) : Int) ||| BitVec.ofInt IntKind.i64.bits (c.toNat : Int)).toNat = ((n * 256 + c.toNat : Nat) : Int) := by
 have hc := c.toNat_lt
 have e1 : BitVec.ofInt IntKind.i64.bits ((n * 256 : Nat) : Int) = BitVec.ofNat 64 (n * 256) := BitVec.ofInt_natCast _ _
 have e2 : BitVec.ofInt IntKind.i64.bits (c.toNat : Int) = BitVec.ofNat 64 c.toNat := BitVec.ofInt_natCast _ _
 rw [e1, e2]
 have e3 : (BitVec.ofNat 64 (n * 256) ||| BitVec.ofNat 64 c.toNat).toNat = n * 256 + c.toNat := by
  rw [BitVec.toNat_or, BitVec.toNat_ofNat, BitVec.toNat_ofNat, Nat.mod_eq_of_lt (by omega), Nat.mod_eq_of_lt (by omega)]
  have := Nat.two_pow_add_eq_or_of_lt (i := 8) (b := c.toNat) (by omega) n
  rw [Nat.mul_comm] at this
  exact this.symm
 refine (congrArg (fun k : Nat => IntKind.i64.wrap (k : Int)) e3).trans (wrap_i64 (by omega))
theorem Xk (b : Bs) (hl : b.length ≤ 1000000000) : ED Tryz.prog Ih [bytesD b] (if b.length < 4 then .tup [iD 0, bytesD [], AO false] else .tup [iD (EK b), bytesD (b.drop 4), AO true]) := by
 intro nx
 refine A8 XV (by simp only [m_wire_CutNum, List.length]; decide) ?_
 simp only [m_wire_CutNum]; refine WK ?_; try with_reducible exact trivial
 refine brd (fun h => ?_) (fun h => ?_)
 ·refine WK ?_; try with_reducible exact trivial
  rw [if_pos (by omega)]
  refine Gh (t' := .mk _) ?_
  exact C9 ⟨rfl, rfl⟩
 ·rw [if_neg (by omega)]
  refine WK ?_; try with_reducible exact trivial
  rw [← List.map_take]
  refine GL [0, 5, 12, 13, 14] (fun k : Nat => ([(0, bytesD b), (5, iD (O4 b k)), (12, .sl 4 ((b.take 4).map bD)), (13, iD 4), (14, iD k)], [], nx)) (fun k => k ≤ 4) (fun k => 4 - k) 0 (by omega) (Ent.of (by with_unfolding_all rfl) rfl) ?_
  intro j hj
  by_cases hlt : j < 4
  ·have hbj : j < b.length := by omega
   have hv := Abn b j
   have hv2 : O4 b j < 16777216 := Nat.lt_of_lt_of_le hv (by
    have : (256 : Nat) ^ j ≤ 256 ^ 3 := Nat.pow_le_pow_right (by decide) (by omega)
    exact this)
   have hg : gt (b.take 4) j = gt b j := by rw [Ia (by rw [List.length_take]; omega), Ia hbj, List.getElem_take]
   have hjt : j < (b.take 4).length := by rw [List.length_take]; omega
   have hc := (gt b j).toNat_lt
   simp -dsimp (disch := omega) only [↓MC.xwp, ↓Ce, ↓xdr, ↓MOp.xwp, dvs, dv, dvu, dvo, dvp, dgb, dGd, DX, cond_true, cond_false, Gf, Bg, CQ, Dp, DD, Du, ptr, bsc, cv, uo, uof, Bq, xpr, DL, EL, FM, FB, Gi, FT, Gj, xst, xgp, glc, F8, DV, FY, FZ, FW, FX, DU, FV, FN, FU, DN, DR, Cj, Dw, Fv, dsl, dif, BV, CP, BI, scs, rowOf, AU, dtk, DC, BJ, pev, Bl, Bv, Aq, Bz, psl, Ba, ↓DI, ↓CB, ↓FP, ↓Fq, Dz, FD, FC, Dj, BG, kp, Di, Dv, E9, Dt, FI, CZ, AQ, BB, nb, Fe, Cb, Bd, apart, Aj, Bc, heldOk, Op.operands, Nat.reduceAdd, forall_eq_or_imp, D.plain, reduceCtorEq, if_true, if_false, ↓reduceIte, ne_eq, Bool.cond_true, Bool.cond_false, forall_const, implies_true, forall_eq, Int.reduceEq, Int.reduceLT, Int.reduceLE, Int.reduceAdd, Int.reduceSub, Int.reduceMul, Int.reduceToNat, Nat.reduceMul, Nat.reduceLeDiff, Nat.reduceLT, Nat.reduceSub, Nat.reduceBEq, Nat.reduceEqDiff, CY, bytesD, iD, CU, AO, BC, bD, DB, hg, U8]
   have e1 : (2 : Int) ^ Nat.min (Int.toNat 8) IntKind.i64.bits = 256 := rfl
   have e2 : IntKind.i64.wrap ((O4 b j : Int) * 2 ^ Nat.min (Int.toNat 8) IntKind.i64.bits) = ((O4 b j * 256 : Nat) : Int) := by rw [e1, wrap_i64 (by omega)]; omega
   refine ⟨j + 1, by omega, by omega, ?_⟩
   simp only [O4]
   rw [← shl_or (O4 b j) (gt b j) hv2, ← e2]
   exact (Ent.of (by with_unfolding_all rfl) rfl)
  ·have hj4 : j = 4 := by omega
   subst hj4
   refine WK ?_; try with_reducible exact trivial
   have e : D.sl (b.length - 4) (List.take (b.length - 4) (List.drop 4 (b.map bD))) = bytesD (b.drop 4) := by
    rw [← List.map_drop, List.take_of_length_le (by simp)]
    simp
   rw [e]
   refine CS (AeD (b.drop 4) (by simp; omega)) fun n1 h1 => ?_
   refine WK ?_; try with_reducible exact trivial
   rw [Aii (by omega)]
   exact C9 ⟨rfl, rfl⟩
theorem Um (b : Bs) (hl : b.length ≤ 1000000000) : ED Tryz.prog JU [bytesD b] (match GI b with
  | some (v, rest) => .tup [BC v, bytesD rest, AO true]
  | none => .tup [BC [], bytesD [], AO false]) := by
 intro nx
 refine A8 Xq (by simp only [m_wire_CutText, List.length]; decide) ?_
 simp only [m_wire_CutText]; refine WK ?_; try with_reducible exact trivial
 refine CS (Xk b hl) fun n1 h1 => ?_
 by_cases h4 : b.length < 4
 ·rw [if_pos h4]
  refine WK ?_; try with_reducible exact trivial
  rw [GI, if_pos h4]
  refine Gh (t' := .mk _) ?_
  exact C9 ⟨rfl, rfl⟩
 ·rw [if_neg h4]
  have hd : (b.drop 4).length = b.length - 4 := by simp
  have hn := Abp b
  refine WK ?_; try with_reducible exact trivial
  rw [GI, if_neg h4]
  by_cases h5 : b.length - 4 < EK b
  ·rw [if_pos h5]
   refine WKX @hd ?_; try with_reducible exact trivial
   refine Gh (t' := .mk _) ?_
   exact C9 ⟨rfl, rfl⟩
  ·rw [if_neg h5]
   refine WKX @hd ?_; try with_reducible exact trivial
   rw [← List.map_take]
   refine dbs (by rw [List.length_take]; omega) ?_
   refine WKX @hd ?_; try with_reducible exact trivial
   have e : D.sl (b.length - 4 - EK b) (List.take (b.length - 4 - EK b) (List.drop (EK b) (List.map bD (List.drop 4 b)))) = bytesD ((b.drop 4).drop (EK b)) := by
    rw [← List.map_drop, List.take_of_length_le (by simp; omega)]
    simp; omega
   rw [e]
   exact C9 ⟨rfl, rfl⟩
theorem AdZ (l : LL) (hl : l.length ≤ 1000000) : ED Tryz.prog LH [CY l] (CU (BA l)) := by
 intro nx
 refine A8 Aae (by simp only [m_code_there, List.length]; decide) ?_
 simp only [m_code_there]; refine WK ?_; try with_reducible exact trivial
 refine GL [0, 3, 6, 7, 8] (fun s : Nat × Nat × Nat => ([(0, CY l), (3, .h s.2.1), (6, CY l), (7, iD l.length), (8, iD s.1)], [(s.2.1, .row Y1 1 (Jp l s.1).length ((Jp l s.1).map fun k : Nat => iD k))], s.2.2)) (fun s => s.1 ≤ l.length ∧ s.2.1 < s.2.2) (fun s => l.length - s.1) (0, nx, nx + 1) ⟨by dsimp only; omega, by dsimp only; omega⟩ ?_ ?_
 ·exact (Ent.nil 3 Y1 1 (by with_unfolding_all rfl) rfl).trans (Ent.of (by with_unfolding_all rfl) rfl)
 ·rintro ⟨j, i, n1⟩ ⟨hj, hi⟩
  dsimp only at hj hi ⊢
  have htl := UE l j
  by_cases hlt : j < l.length
  ·have hs := YZ l j
   have hg : gt l j = l.getD j [] := rfl
   refine WK ?_; try with_reducible exact trivial
   refine brd (fun h => ?_) (fun h => ?_)
   ·simp -dsimp (disch := omega) only [↓MC.xwp, ↓Ce, ↓xdr, ↓MOp.xwp, dvs, dv, dvu, dvo, dvp, dgb, dGd, DX, cond_true, cond_false, Gf, Bg, CQ, Dp, DD, Du, ptr, bsc, cv, uo, uof, Bq, xpr, DL, EL, FM, FB, Gi, FT, Gj, xst, xgp, glc, F8, DV, FY, FZ, FW, FX, DU, FV, FN, FU, DN, DR, Cj, Dw, Fv, dsl, dif, BV, CP, BI, scs, rowOf, AU, dtk, DC, BJ, pev, Bl, Bv, Aq, Bz, psl, Ba, ↓DI, ↓CB, ↓FP, ↓Fq, Dz, FD, FC, Dj, BG, kp, Di, Dv, E9, Dt, FI, CZ, AQ, BB, nb, Fe, Cb, Bd, apart, Aj, Bc, heldOk, Op.operands, Nat.reduceAdd, forall_eq_or_imp, D.plain, reduceCtorEq, if_true, if_false, ↓reduceIte, ne_eq, Bool.cond_true, Bool.cond_false, forall_const, implies_true, forall_eq, Int.reduceEq, Int.reduceLT, Int.reduceLE, Int.reduceAdd, Int.reduceSub, Int.reduceMul, Int.reduceToNat, Nat.reduceMul, Nat.reduceLeDiff, Nat.reduceLT, Nat.reduceSub, Nat.reduceBEq, Nat.reduceEqDiff, CY, bytesD, iD, CU, AO, BC, bD, DB, Nat.reduceDiv]
    refine NH (i := i) (m := 1) (l' := [iD j]) elI (l := (Jp l j).map fun k : Nat => iD k) (n := (Jp l j).length) (by rw [Ac (by omega), Aa]) (Jo.row (Aa _ _ _) (by simp [D.plain])) rfl (by simp [BJ, Value.oneCell']) (by omega) (by omega) (by simp) ?_
    refine WK ?_; try with_reducible exact trivial
    rw [if_pos (by rw [← hg]; omega)] at hs
    refine ⟨(j + 1, n1 + 1, n1 + 2), ⟨by dsimp only; omega, by dsimp only; omega⟩, by dsimp only; omega, ?_⟩
    refine (Ent.only [n1 + 1] _ _ _).trans ?_
    dsimp only
    simp only [EQ, Aa, hs, List.map_append, List.map_cons, List.map_nil, List.length_append, List.length_cons, List.length_nil]
    exact (Ent.of (by with_unfolding_all rfl) rfl)
   ·refine WK ?_; try with_reducible exact trivial
    rw [if_neg (by rw [← hg]; omega), List.append_nil] at hs
    refine ⟨(j + 1, i, n1), ⟨by dsimp only; omega, by dsimp only; omega⟩, by dsimp only; omega, ?_⟩
    dsimp only
    rw [hs]
    exact (Ent.of (by with_unfolding_all rfl) rfl)
  ·have hjl : j = l.length := by omega
   subst hjl
   refine WK ?_; try with_reducible exact trivial
   refine Dc (t' := .mk _) (RT.frz i (Aa _ _ _) ?_) ?_
   ·simp only [I9]
    exact (MH fun d hd => by obtain ⟨x, _, rfl⟩ := List.mem_map.1 hd; simp only [D.plain]).2
   ·rw [AV]
    refine Afy (t' := .mk _) ?_
    have e : UZ [(i, frzR (.row Y1 1 (Jp l l.length).length ((Jp l l.length).map fun k : Nat => iD k)))] (.h i) = CU (BA l) := by
     simp only [UZ, Du, Aa, frzR, frz]
     rw [(MH fun d hd => by obtain ⟨x, _, rfl⟩ := List.mem_map.1 hd; simp only [D.plain]).1]
     simp only [BA, CU, List.length_map, List.map_map, UF]
     rfl
    rw [e]
    exact Eb ⟨rfl, rfl⟩
end Go.Proofs.YtgpkbldlkadnjaaGreat
end
section
namespace Go.Proofs.YtgpkbldlkadnjaaGreat
open Go Go.Sl Go.RowKit Go.Proofs
attribute [local go_sem] Oper.semAt_some
theorem arr31 {a : Array Value} (h : a.size = 31) : ∃ x0 x1 x2 x3 x4 x5 x6 x7 x8 x9 x10 x11 x12 x13 x14 x15 x16 x17 x18 x19 x20 x21 x22 x23 x24 x25 x26 x27 x28 x29 x30, a = #[x0, x1, x2, x3, x4, x5, x6, x7, x8, x9, x10, x11, x12, x13, x14, x15, x16, x17, x18, x19, x20, x21, x22, x23, x24, x25, x26, x27, x28, x29, x30] := by
 obtain ⟨l⟩ := a
 simp only [List.size_toArray] at h
 obtain _ | ⟨x0, l⟩ := l
 ·simp at h
 obtain _ | ⟨x1, l⟩ := l
 ·simp at h
 obtain _ | ⟨x2, l⟩ := l
 ·simp at h
 obtain _ | ⟨x3, l⟩ := l
 ·simp at h
 obtain _ | ⟨x4, l⟩ := l
 ·simp at h
 obtain _ | ⟨x5, l⟩ := l
 ·simp at h
 obtain _ | ⟨x6, l⟩ := l
 ·simp at h
 obtain _ | ⟨x7, l⟩ := l
 ·simp at h
 obtain _ | ⟨x8, l⟩ := l
 ·simp at h
 obtain _ | ⟨x9, l⟩ := l
 ·simp at h
 obtain _ | ⟨x10, l⟩ := l
 ·simp at h
 obtain _ | ⟨x11, l⟩ := l
 ·simp at h
 obtain _ | ⟨x12, l⟩ := l
 ·simp at h
 obtain _ | ⟨x13, l⟩ := l
 ·simp at h
 obtain _ | ⟨x14, l⟩ := l
 ·simp at h
 obtain _ | ⟨x15, l⟩ := l
 ·simp at h
 obtain _ | ⟨x16, l⟩ := l
 ·simp at h
 obtain _ | ⟨x17, l⟩ := l
 ·simp at h
 obtain _ | ⟨x18, l⟩ := l
 ·simp at h
 obtain _ | ⟨x19, l⟩ := l
 ·simp at h
 obtain _ | ⟨x20, l⟩ := l
 ·simp at h
 obtain _ | ⟨x21, l⟩ := l
 ·simp at h
 obtain _ | ⟨x22, l⟩ := l
 ·simp at h
 obtain _ | ⟨x23, l⟩ := l
 ·simp at h
 obtain _ | ⟨x24, l⟩ := l
 ·simp at h
 obtain _ | ⟨x25, l⟩ := l
 ·simp at h
 obtain _ | ⟨x26, l⟩ := l
 ·simp at h
 obtain _ | ⟨x27, l⟩ := l
 ·simp at h
 obtain _ | ⟨x28, l⟩ := l
 ·simp at h
 obtain _ | ⟨x29, l⟩ := l
 ·simp at h
 obtain _ | ⟨x30, l⟩ := l
 ·simp at h
 obtain _ | ⟨y, l⟩ := l
 ·exact ⟨_, _, _, _, _, _, _, _, _, _, _, _, _, _, _, _, _, _, _, _, _, _, _, _, _, _, _, _, _, _, _, rfl⟩
 ·simp at h
  
def tms (j n : Nat) : Nat := j * n
theorem AfY (n : Nat) : tms 0 n = 0 := Nat.zero_mul n
theorem AaP (j n : Nat) : tms (j + 1) n = tms j n + n := Nat.succ_mul j n
theorem tms_lt {j k n : Nat} (h : j < k) : tms j n + n ≤ tms k n := by rw [← AaP]; exact Nat.mul_le_mul_right _ h
def Ahv (a : Addr) (n k : Nat) : Value := .slice (some (a.add (tms k n))) n n
set_option maxRecDepth 100000 in
set_option maxHeartbeats 4000000 in
theorem AdM (aS aN : Addr) (n k cap : Nat) (a : Addr) (hn : 1 ≤ n) (hk : tms k n ≤ 1000000000) (hcap : tms k n ≤ cap) :
  Iter Tryz.prog Gs #[.pointer (some aS), .pointer (some aN)] (Ahv a n) k (fun W => W.cell? aS = some (.slice (some a) (tms k n) cap) ∧ W.cell? aN = some (.int .i64 n)) := by
 intro m l J W hKp hJd hY h0
 show CallsIn Fence.wide m Tryz.prog Gs #[.func (.yield l) #[] #[], .pointer (some aS), .pointer (some aN)] W _
 refine callsIn_of_wp Tryz.func170 rfl trivial ?_ rfl
 simp only [Tryz.ntmps170, List.size_toArray, List.length_cons, List.length_nil, Nat.reduceAdd, Nat.reduceSub, Array.replicate_succ, Array.replicate_zero, List.push_toArray, List.append_toArray, List.nil_append, List.cons_append]
 gi_wp2
 gi_loopw [4] (fun i wr => ∃ j : Nat, j ≤ k ∧ i = .int .i64 ((tms j n : Nat) : Int) ∧ J j wr)
  (fun i _ => tms k n - (intOf i).toNat)
 case atStart => exact ⟨0, Nat.zero_le _, by rw [AfY]; rfl, h0⟩
 case round =>
  obtain ⟨j, hj, rfl, hJs⟩ := hrel
  obtain ⟨c1, c2⟩ := hKp _ _ hJs
  by_cases hlt : j < k
  ·have hjn := tms_lt (n := n) hlt
   obtain ⟨fn, tmps, assign, body, hy, hR⟩ := hY j wr.drew (hJd _ _ hJs) hlt
   gi_wp2
   refine wpIn_wide.2 (V4 (n := 31) (l := .one ⟨.ld 13 (.tmp 2), []⟩ (.one ⟨.ld 14 (.tmp 1), []⟩ (.one ⟨.p 15 .mv [(.tmp 4)], []⟩ (.one ⟨.p 16 (.sls 1 true false false) [(.tmp 14), (.tmp 15)], []⟩ (.one ⟨.p 17 .len [(.tmp 16)], []⟩ (.one ⟨.p 18 .min [(.tmp 13), (.tmp 17)], []⟩ (.one ⟨.p 5 .mv [(.tmp 18)], []⟩ (.nil)))))))) (by kernel_rfl)
    (e := [(0, .func (.yield l) #[] #[]), (1, .pointer (some aS)), (2, .pointer (some aN)), (3, undef), (4, .int .i64 ((tms j n : Nat) : Int))]) (K := fun e w => (Am e 0 = some (.func (.yield l) #[] #[]) ∧ Am e 1 = some (.pointer (some aS)) ∧ Am e 2 = some (.pointer (some aN)) ∧ Am e 3 = some undef ∧ Am e 4 = some (.int .i64 ((tms j n : Nat) : Int)) ∧ Am e 5 = some (.int .i64 (n : Int))) ∧ w = wr.drew) ⟨rfl, rfl, ?_⟩ ?_ ?_)
   ·intro t v ht
    simp only [JH] at ht
    repeat (split at ht; · rename_i h; cases h; cases ht; rfl)
    cases ht
   ·rintro e' ⟨ts, ds⟩ w' hs ⟨⟨k0, k1, k2, k3, k4, k5⟩, rfl⟩
    obtain rfl : ds = [] := hs.defers
    obtain ⟨x0, x1, x2, x3, x4, x5, x6, x7, x8, x9, x10, x11, x12, x13, x14, x15, x16, x17, x18, x19, x20, x21, x22, x23, x24, x25, x26, x27, x28, x29, x30, rfl⟩ := arr31 hs.size
    have v0 := hs.val 0 _ k0
    have v1 := hs.val 1 _ k1
    have v2 := hs.val 2 _ k2
    have v3 := hs.val 3 _ k3
    have v4 := hs.val 4 _ k4
    have v5 := hs.val 5 _ k5
    simp only [List.getElem?_toArray, List.getElem?_cons_zero, List.getElem?_cons_succ, Option.some.injEq] at v0 v1 v2 v3 v4 v5
    subst v0 v1 v2 v3 v4 v5
    have d1 : wr.drew.cell? aS = some (.slice (some a) (tms k n) cap) := c1
    have d2 : wr.drew.cell? aN = some (.int .i64 n) := c2
    simp only [Ahv] at hy
    gi_wp2
    refine ⟨fun h => by simp [Fence.wide] at h, hR.mono ?_⟩
    rintro e W3 ⟨rfl, hJ3⟩
    have c3 := (hKp _ _ hJ3).2
    gi_wp2
    go_roundw
    case rel => exact ⟨j + 1, by omega, by rw [AaP, Int.natCast_add], hJ3⟩
    case measure => simp [intOf]; omega
   ·refine WS ?_; try with_reducible exact trivial
    refine ld c2 ?_
    refine WS ?_; try with_reducible exact trivial
    refine ld c1 ?_
    refine WS ?_; try with_reducible exact trivial
    rw [show min (n : Int) ((tms k n - tms j n : Nat) : Int) = n from by omega]
  ·obtain rfl : j = k := by omega
   gi_wp2
   go_end0
   exact ⟨⟨_, rfl⟩, hJs⟩
end Go.Proofs.YtgpkbldlkadnjaaGreat
end
