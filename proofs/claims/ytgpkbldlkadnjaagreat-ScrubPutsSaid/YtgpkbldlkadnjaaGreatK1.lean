/- The law ScrubPuts, for every input: its row, out of its contract over data. No condition. -/
import Derived.Test.YtgpkbldlkadnjaaGreatJ3
import Derived.ChangeSame
import Derived.ChangeArms
import Derived.DataReads
import Derived.OpenShut
import Derived.Test.YtgpkbldlkadnjaaGreatJ7
import Derived.Test.YtgpkbldlkadnjaaGreatRows
set_option linter.unusedVariables false
set_option linter.unusedSimpArgs false
section
namespace Go.Sl
open Go.RowKit Go.ChangeShapes Go.WideShapes Go.ChangeAt Go.Deep
section
variable {H : Type} {enc : TypeId × Value → H} {P : Program} {W : World}
theorem AhM {t : TypeId} {f0 f1 : Field} (ht : P.underlying t = some (.struct #[f0, f1])) (h0 : P.underlying f0.type = some (.int .i64)) (h1 : P.underlying f1.type = some (.int .i64)) (o0 : f0.offset = 0) (o1 : f1.offset = 1) (c0 : P.cellsOf f0.type = 1) (c1 : P.cellsOf f1.type = 1) (ct : P.cellsOf t = 2) {b0 : Nat} {v : Value} {d : DataW H} {p : List MemPlace}
  (hval : Value.okWide P W .any b0 t v) (h : DataW.Trod enc P W 0 (fun _ => true) true t v d p) : ∃ K F : Int, Rs W (Zw W) T0 (.agg [.sc (.int .i64 K), .sc (.int .i64 F)]) v := by
 obtain ⟨cs, rfl, hsz⟩ := okWide_struct ht hval
 obtain ⟨fuel, hf⟩ := h
 obtain ⟨y0, y1, n, _, hl, g0, g1⟩ := trod_struct2 ht hf
 obtain ⟨K, e0, _, _⟩ := DataW.trod_int h0 g0
 obtain ⟨F, e1, _, _⟩ := DataW.trod_int h1 g1
 rw [o0, c0] at e0
 rw [o1, c1] at e1
 simp only [Value.cells] at hl e0 e1
 rw [ct] at hl
 obtain ⟨l⟩ := cs
 match l, hl with
 | [a, b], _ =>
  simp at e0 e1
  subst e0; subst e1
  refine ⟨K, F, ?_⟩
  simp only [Rs, RsL]
  exact ⟨_, rfl, _, _, rfl, rfl, _, _, rfl, rfl, rfl⟩
end
end Go.Sl
end
section
set_option maxHeartbeats 3000000
attribute [local irreducible] Go.Sl.Chk Go.Sl.Br Go.Sl.Or2 Go.Sl.Ld Go.Sl.Ldn Go.Sl.LdB Go.Sl.Stn Go.Sl.New Go.Sl.Run Go.Sl.Ez Go.Sl.Eu Go.Sl.Call Go.Sl.CQ Go.Sl.EC Go.Sl.Alt Go.Sl.Om Go.Sl.xpk Go.Sl.FM Go.Sl.FN Go.Sl.DLd Go.Sl.Fe Go.Sl.DBs Go.Sl.BG Go.Sl.EN Go.Sl.EM Go.Sl.Dz Go.Sl.DGC Go.Sl.DW Go.Sl.Gl Go.Sl.Ei Go.Sl.Ent Go.Sl.Be Go.Sl.dv Go.Sl.ev Go.Sl.Au
namespace Go.Proofs.YtgpkbldlkadnjaaGreat
open Go Go.Sl Go.RowKit
theorem AhF {k f most : Nat} (hs : CP k f) {n v : Bs} (hn : D5 n) (hv : v.length ≤ 512) (hm : most < BI k v.length + 20) : (Qk k f most n v (List.replicate (k + 2 * f) [])).2 = 4 := by
 have hk := hs.k
 have hfl := Eg hs v
 have hsz := LY hs v
 rw [Qk, if_pos hn, if_pos hv]
 dsimp only
 generalize A7 k f v = ws at *
 cases ws with
 | nil => simp at hfl; omega
 | cons w ws =>
  have hw := hsz w List.mem_cons_self
  obtain ⟨h1, h2⟩ := Ai1 (most := most) (n := n) (w := w) (by omega)
  obtain ⟨m, hm2⟩ : ∃ m, k + 2 * f = m + 1 := ⟨k + 2 * f - 1, by omega⟩
  rw [hm2, List.replicate_succ, La, Ik, h1, if_neg (by decide)]
theorem AcV (N : Nat) (n : Bs) : Oz n (List.replicate N []) := fun fs hfs b hb => by
 rw [List.eq_of_mem_replicate hfs] at hb
 cases hb
set_option maxRecDepth 100000 in
theorem puts_d (K F : Int) (n v : Bs) (bytes : Nat) (hb : bytes < 65536) (hnl : n.length ≤ 140737488351232) (hvl : v.length ≤ 140737488351232) : Ed Tryz.prog KN [shD K F, Bv n, Bv v, .sc (.int .u16 (bytes : Nat))] (Ak true) := by
 have e := Qv v
 have en := Qv n
 intro nx
 refine AU U0 (by simp only [m_law25_ScrubPuts, List.length]; decide) ?_
 simp only [shD]
 simp only [m_law25_ScrubPuts]; refine WK ?_; try with_reducible exact trivial
 refine BH Gm fun n1 g1 => ?_
 rcases Decidable.em (n.length ≤ 100 ∧ v.length ≤ 1000) with h5 | h5
 ·obtain ⟨h5, h6⟩ := h5
  refine WKX (And.intro @e @en) ?_; try with_reducible exact trivial
  refine BH (nS_d K F) fun n2 g2 => ?_
  cases hS : FX K F with
  | false =>
   rw [if_neg (by decide)]
   refine WK ?_; try with_reducible exact trivial
   refine O5 (UQ 0 (bytes : Int) (by omega) ⟨by omega, by omega⟩) fun A n3 g3 g4 => ?_
   generalize (min (max (bytes : Int) 0) 65536).toNat = most
   simp only [Ew]
   refine WK ?_; try with_reducible exact trivial
   refine HY [A] (Et (Aa _ _ _)) (Afi K F (List.replicate 0 []) most (by simp) (.inl hS) (a := A) (by omega)) (by simp) fun _ _ n4 g5 ⟨hd, hro⟩ => ?_
   subst hd hro
   simp only [List.nil_append]
   refine WK ?_; try with_reducible exact trivial
   refine BH (ZE K F) fun n5 g6 => ?_
   rw [hS]
   refine WK ?_; try with_reducible exact trivial
   exact BU ⟨rfl, rfl⟩
  | true =>
   obtain ⟨k, f, rfl, rfl, hs⟩ := Lj.1 hS
   have hn7 := hs.n
   have hk1 := hs.k
   have hrl : ∀ N : Nat, (List.replicate N ([] : List FileS)).length = N := fun N => List.length_replicate
   have hmost : (min (max (bytes : Int) 0) 65536).toNat = bytes := by omega
   have hwl := DY v.length hs.k
   have hfo := Yh (k + 2 * f) bytes
   have hfs := AcV (k + 2 * f) n
   rw [if_pos rfl, show (k : Int) + 2 * (f : Int) = ((k + 2 * f : Nat) : Int) by omega]
   refine WK ?_; try with_reducible exact trivial
   refine O5 (UQ (k + 2 * f) (bytes : Int) (by omega) ⟨by omega, by omega⟩) fun A n3 g3 g4 => ?_
   rw [hmost]
   simp only [Ew]
   refine WK ?_; try with_reducible exact trivial
   refine HY [A] (Et (Aa _ _ _)) (Tf hs (List.replicate (k + 2 * f) []) bytes 1 (by simp) hfo (by omega) (a := A) (by omega)) (by simp) fun _ _ n4 g5 ⟨t, l', t1, t2, hd, hlk, hro⟩ => ?_
   have hl' := AcJ hlk
   subst hl' hd hro
   simp only [List.cons_append, List.nil_append, AL, Ew]
   refine WK ?_; try with_reducible exact trivial
   refine BH (ZE k f) fun n5 g6 => ?_
   rw [hS]
   refine WK ?_; try with_reducible exact trivial
   rw [show ((k + 2 * f : Nat) : Int) - 1 = ((k + 2 * f - 1 : Nat) : Int) by omega]
   refine O5 (UQ (k + 2 * f - 1) 10 (by omega) ⟨by omega, by omega⟩) fun B n6 g7 g8 => ?_
   rw [show (min (max (10 : Int) 0) 65536).toNat = 10 from rfl]
   simp only [Ew]
   refine WK ?_; try with_reducible exact trivial
   refine HY [B] (Et (Aa _ _ _)) (Afi k f (List.replicate (k + 2 * f - 1) []) 10 (by rw [hrl]; omega) (.inr (by rw [hrl]; omega)) (a := B) (by omega)) (by simp) fun _ _ n7 g9 ⟨hd, hro⟩ => ?_
   subst hd hro
   simp only [List.nil_append]
   refine WK ?_; try with_reducible exact trivial
   refine Hu t (Ad2 hs (List.replicate (k + 2 * f) []) bytes 1 n v (by simp) hnl hvl hfo (by omega)) (by omega) (by (repeat rw [Ac (by omega)]); exact Aa _ _ _) (by simp only [List.mem_cons, List.not_mem_nil, or_false, not_false_eq_true]; try omega) fun n8 g10 => ?_
   rcases Decidable.em (1 ≤ n.length ∧ n.length ≤ 16) with hn | hn
   ·have hn' : D5 n := hn
    rcases Nat.lt_or_ge 512 v.length with h7 | h7
    ·rw [show Qk k f bytes n v (List.replicate (k + 2 * f) []) = (List.replicate (k + 2 * f) [], 7) by rw [Qk, if_pos hn', if_neg (by omega)]]
     simp only [AL]
     refine WKX (And.intro @e @en) ?_; try with_reducible exact trivial
     exact BU ⟨rfl, rfl⟩
    ·have hfl := Eg hs v
     have hl0 : (gt (A7 k f v) 0).length = BI k v.length + 20 := LY hs v _ (by rw [G8 (by omega)]; exact List.getElem_mem _)
     rcases Nat.lt_or_ge bytes (BI k v.length + 20) with h8 | h8
     ·obtain ⟨X, hX⟩ : ∃ X, Qk k f bytes n v (List.replicate (k + 2 * f) []) = (X, 4) := ⟨_, Prod.ext rfl (AhF hs hn' h7 h8)⟩
      rw [hX]
      simp only [AL]
      refine WKX (And.intro @e @en) ?_; try with_reducible exact trivial
      refine BH (O0 hs v h7) fun n9 g11 => ?_
      refine WK ?_; try with_reducible exact trivial
      exact BU ⟨rfl, rfl⟩
     ·rw [ZK hs hn' h7 h8]
      have hlB : (GK n (A7 k f v)).length = k + 2 * f := by rw [Nk, Eg hs]
      have hokB := AbD (most := bytes) (n := n) hs hn' h7 (by omega) h8
      have hshB := Qd (n := n) hs n h7
      have hgB0 := ZW (n := n) hs hn' h7
      have hgB : ∀ j, j < k + 2 * f → (GK n (A7 k f v))[j]? = some [(bN n, Bh j (gt (encode k f v) j), BI k v.length + 20)] := fun j hj => NU hs n v hj
      have e3 : (⟨#[98, 46]⟩ : ByteArray).size + (⟨n.toArray⟩ : ByteArray).size = n.length + 2 := by simp [ByteArray.size]; omega
      have e4 : (⟨#[98, 46]⟩ : ByteArray) ++ (⟨n.toArray⟩ : ByteArray) = ⟨(bN n).toArray⟩ := by apply ByteArray.ext; simp [bN]
      have hbl : (bN n).length ≤ 18 := by simp [bN]; omega
      generalize hB : GK n (A7 k f v) = C at *
      simp only [AL]
      refine WKX (And.intro @e @en) ?_; try with_reducible exact trivial
      refine BH (O0 hs v h7) fun n9 g11 => ?_
      refine WK ?_; try with_reducible exact trivial
      refine Gu [1, 2, 9, 10, 17, 18] (fun s : Nat × Nat => ([(1, Bv n), (2, Bv v), (9, iD ((k + 2 * f : Nat) : Int)), (10, .hp t 0), (17, CG (A7 k f v)), (18, iD (s.1 : Nat))], [(t, AL k f C bytes)], s.2)) (fun s => s.1 ≤ k + 2 * f ∧ t < s.2) (fun s => k + 2 * f - s.1) (0, n9) ⟨by dsimp only; omega, by dsimp only; omega⟩ ((Ent.only [t] _ _ _).trans (by simp -dsimp (disch := omega) only [ER, Aa, Ac, AV, Bd]; exact (Ent.of (by with_unfolding_all rfl) rfl))) ?_
      rintro ⟨j, n10⟩ ⟨q3, q4⟩
      dsimp only at q3 q4 ⊢
      simp only [AL]
      refine WK ?_; try with_reducible exact trivial
      refine brd (fun hlt => ?_) (fun hge => ?_)
      ·have hj : j < k + 2 * f := by omega
       have hbj := hgB j hj
       have hoj := hokB _ (List.mem_of_getElem? hbj)
       have hej : j < (encode k f v).length := by rw [(BR hs v).2.2]; exact hj
       have hgf : gt (A7 k f v) j = Bh j (gt (encode k f v) j) := by simp only [gt]; rw [List.getD_eq_getElem?_getD, Gq hej]; rfl
       have hwl2 := He j (gt (encode k f v) j)
       rw [(Ey hs v hj).1] at hwl2
       generalize Bh j (gt (encode k f v) j) = w at *
       rw [← hwl2] at hbj hoj
       refine WK ?_; try with_reducible exact trivial
       refine HY [t] (Et (by (repeat rw [Ac (by omega)]); exact Aa _ _ _)) (PI k f C bytes j 1 _ (by omega) hbj hoj (by omega) (i := t) (by omega)) (by simp) fun _ _ n11 g11 ⟨x1, fs1, c3, c4, hd, hp1, hro⟩ => ?_
       subst hd hro
       rw [QL hp1]
       simp only [List.cons_append, List.nil_append, AL, AA]
       refine WKX (And.intro @e3 @e4) ?_; try with_reducible exact trivial
       refine O6 x1 (Ab6 [(bN n, w, w.length)] bytes (bN n) hoj.small (by omega) (MM _ _ _) rfl (Nat.le_refl _)) (by omega) (by (repeat rw [Ac (by omega)]); exact Aa _ _ _) (by simp only [List.mem_cons, List.not_mem_nil, or_false, not_false_eq_true]; try omega) fun y n12 g12 g13 => ?_
       rw [List.take_length]
       simp only [AA]
       refine WKX @hgf ?_; try with_reducible exact trivial
       refine GM y (t' := .mk _) (by (repeat rw [Ac (by omega)]); exact Aa _ _ _) Jt (by simp only [List.mem_cons, List.not_mem_nil, or_false, not_false_eq_true]; try omega) ?_
       refine WK ?_; try with_reducible exact trivial
       refine BH (XN w w) fun n15 g16 => ?_
       rw [decide_eq_true rfl]
       refine WK ?_; try with_reducible exact trivial
       refine ⟨(j + 1, n15), ⟨by dsimp only; omega, by dsimp only; omega⟩, by dsimp only; omega, (Ent.only [t] _ _ _).trans ?_⟩
       refine WKR ?_; try with_reducible exact trivial
       exact (Ent.of (by with_unfolding_all rfl) rfl)
      ·refine WK ?_; try with_reducible exact trivial
       refine J3 (t' := .mk _) ?_
       simp only [List.map_cons, List.map_nil, PQ]
       refine Hu t (PH hs C bytes 1 n [] (by omega) (by omega) (by decide) hokB (by omega) hshB) (by omega) (by (repeat rw [Ac (by omega)]); exact Aa _ _ _) (by simp only [List.mem_cons, List.not_mem_nil, or_false, not_false_eq_true]; try omega) fun n11 g11 => ?_
       rw [hgB0]
       simp only [AL, VJ]
       refine WK ?_; try with_reducible exact trivial
       exact BU ⟨rfl, rfl⟩
   ·have hn' : ¬ D5 n := hn
    rw [show Qk k f bytes n v (List.replicate (k + 2 * f) []) = (List.replicate (k + 2 * f) [], 1) by rw [Qk, if_neg hn']]
    have hg1 : JQ k f n [] (List.replicate (k + 2 * f) []) = ([], 1) := by rw [JQ, if_neg hn']
    simp only [AL]
    rcases Nat.lt_or_ge n.length 1 with h7 | h7
    ·refine WKX (And.intro @e @en) ?_; try with_reducible exact trivial
     repeat ((first | refine Fq (Ak true) ?_ | refine Ic ?_); refine WK ?_; try with_reducible exact trivial)
     refine J3 (t' := .mk _) ?_
     simp only [List.map_cons, List.map_nil, PQ]
     refine Hu t (PH hs _ bytes 1 n [] (by simp; omega) (by omega) (by decide) hfo (by omega) hfs) (by omega) (by (repeat rw [Ac (by omega)]); exact Aa _ _ _) (by simp only [List.mem_cons, List.not_mem_nil, or_false, not_false_eq_true]; try omega) fun n9 g11 => ?_
     rw [hg1]
     simp only [AL, VJ]
     refine WK ?_; try with_reducible exact trivial
     exact BU ⟨rfl, rfl⟩
    ·have h8 : 16 < n.length := by omega
     refine WKX (And.intro @e @en) ?_; try with_reducible exact trivial
     refine J3 (t' := .mk _) ?_
     simp only [List.map_cons, List.map_nil, PQ]
     refine Hu t (PH hs _ bytes 1 n [] (by simp; omega) (by omega) (by decide) hfo (by omega) hfs) (by omega) (by (repeat rw [Ac (by omega)]); exact Aa _ _ _) (by simp only [List.mem_cons, List.not_mem_nil, or_false, not_false_eq_true]; try omega) fun n9 g11 => ?_
     rw [hg1]
     simp only [AL, VJ]
     refine WK ?_; try with_reducible exact trivial
     exact BU ⟨rfl, rfl⟩
 ·rcases Nat.lt_or_ge 100 n.length with h6 | h6
  ·refine WKX @en ?_; try with_reducible exact trivial
   repeat ((first | refine Fq (Ak true) ?_ | refine Ic ?_); refine WK ?_; try with_reducible exact trivial)
   refine BH Gm fun n3 g3 => ?_
   refine WK ?_; try with_reducible exact trivial
   exact BU ⟨rfl, rfl⟩
  ·have h7 : 1000 < v.length := by omega
   refine WKX (And.intro @e @en) ?_; try with_reducible exact trivial
   refine BH Gm fun n3 g3 => ?_
   refine WK ?_; try with_reducible exact trivial
   exact BU ⟨rfl, rfl⟩
theorem puts_a (K F : Int) (n : ByteArray) (hn : n.size ≤ 140737488351232) (v : ByteArray) (hv : v.size ≤ 140737488351232) (m : Nat) (hm : m < 65536) : Ed Tryz.prog KN [shD K F, .sc (.string n), .sc (.string v), .sc (.int .u16 (m : Nat))] (Ak true) := by
 rw [Ns, Ns]
 exact puts_d K F _ _ m hm hn hv
end Go.Proofs.YtgpkbldlkadnjaaGreat
end
set_option linter.unusedVariables false
namespace Go.Proofs.YtgpkbldlkadnjaaGreat.scrubPuts
open Go Go.Sl Go.ChangeShapes Go.WideShapes Go.ChangeAt Go.RowKit
open Go.ChangeMaps (open_string shut_string)
theorem laidOut : laidOutB Tryz.prog = true := JJ
theorem cells3 : Tryz.prog.cellsOf 3 = 1 := by kernel_rfl
theorem Aj0 : Tryz.prog.cellsOf 62 = 2 := by kernel_rfl
set_option maxRecDepth 100000 in
theorem lifted (os : Os) (started : os.Started) (H : Type) (enc : TypeId × Value → H) :
  ReturnsInHanded {} Tryz.checked os 6 .any (Rows.scrubPutsSpec.pre6 enc Tryz.prog Tryz.f6 Rows.scrubPutsRow.domain false) (Rows.scrubPutsSpec.post enc Tryz.prog Tryz.f6 false true false false) := by
 refine returnsInHanded_of_change_sized (C := Tryz.checked) Vb started (by kernel_rfl) Tryz.func6
  (ChangeSpec.witness6 (enc := enc) (C := Tryz.checked) false ⟨#[], #[.agg #[.int .i64 0, .int .i64 0], .string ByteArray.empty, .string ByteArray.empty, .int .u16 0], []⟩ 8 (by kernel_rfl) (by kernel_rfl) (by kernel_rfl) (by kernel_rfl)) ?_
 intro W base args ds gs before hval0 hW hcnd hsz0 _
 have hsz : (DataW.weightsEach Tryz.prog (Tryz.f6.params.toList ++ Rows.scrubPutsSpec.plain.varTypes Tryz.prog) (ds ++ gs)).all (· ≤ reachBytes) = true := hsz0
 have hval : ∀ (j : Nat) t v, Tryz.f6.params[j]? = some t → args[j]? = some v → Value.okWide Tryz.prog W .any base t v := hval0
 have hW' := hW
 obtain ⟨p, q, hA0, hV, rfl, hfz, hnd⟩ := hW
 have hA : DataW.TrodAll enc Tryz.prog W 0 (fun _ => true) true Tryz.f6.params.toList args.toList ds p := hA0
 rw [Tryz.params6] at hA hval hsz
 obtain ⟨v0, vs0, d0, ds0, p0, q0, hargs, rfl, rfl, h0, r0⟩ := trodAll_cons hA
 obtain ⟨v1, vs1, d1, ds1, p1, q1, rfl, rfl, rfl, h1, r1⟩ := trodAll_cons r0
 obtain ⟨v2, vs2, d2, ds2, p2, q2, rfl, rfl, rfl, h2, r2⟩ := trodAll_cons r1
 obtain ⟨v3, vs3, d3, ds3, p3, q3, rfl, rfl, rfl, h3, r3⟩ := trodAll_cons r2
 obtain ⟨rfl, rfl, rfl⟩ := trodAll_nil r3
 obtain rfl : args = #[v0, v1, v2, v3] := by cases args; simp_all
 obtain ⟨rfl, rfl⟩ := trodVars_none hV
 have k0 := h0
 have lt0 : ∀ x ∈ p0, x.block < W.heap.size := by obtain ⟨m, hm⟩ := k0; exact DataW.trod_lt m _ _ _ hm
 obtain ⟨K0, F0, rs0⟩ := AhM Tryz.underlying62 Tryz.underlying3 Tryz.underlying3 rfl rfl cells3 cells3 Aj0 (hval 0 62 v0 rfl rfl) h0
 obtain ⟨a1, rfl, rfl, rfl, y1⟩ := open_string Tryz.underlying9 (hval 1 9 v1 rfl rfl) h1
 have w1 : a1.size ≤ 140737488351232 := by
  have z := sized_string hsz (j := 1) (t := 9) rfl rfl
  rw [Array.length_toList] at z
  exact z
 obtain ⟨a2, rfl, rfl, rfl, y2⟩ := open_string Tryz.underlying9 (hval 2 9 v2 rfl rfl) h2
 have w2 : a2.size ≤ 140737488351232 := by
  have z := sized_string hsz (j := 2) (t := 9) rfl rfl
  rw [Array.length_toList] at z
  exact z
 obtain ⟨a3, rfl, rfl, rfl, w3⟩ := open_int Tryz.underlying23 (hval 3 23 v3 rfl rfl) h3
 obtain ⟨n3, rfl, b3⟩ := Afb w3
 clear hA0 hval0 hsz0 hsz
 refine (IP (puts_a K0 F0 a1 w1 a2 w2 n3 b3) (D8 rs0 (D8 (Kw _) (D8 (Kw _) (D8 (Kw _) RD))))).mono fun e W' ⟨he, bel⟩ => ?_
 subst he
 exact ⟨_, rfl, _, _, _, [], _, [], hW', trodAll_mk1 (shut_bool Tryz.underlying4 _), (trodAll_cons_mk (Below.trod laidOut (by kernel_rfl) (of_decide_eq_true (by kernel_rfl)) k0 bel lt0) (trodAll_cons_mk (shut_string Tryz.underlying9 y1) (trodAll_cons_mk (shut_string Tryz.underlying9 y2) (trodAll_cons_mk (shut_int Tryz.underlying23 w3) trodAll_mk0)))), rfl, bel.frame _, fun h => by cases h⟩
theorem inP : Tryz.prog.inPlace 6 = [] := by kernel_rfl
theorem unf : Tryz.prog.unfollowed 6 = true := by kernel_rfl
theorem rec : Tryz.prog.recurses 6 = true := by kernel_rfl
theorem nam : Tryz.prog.varsNamed 6 = [] := by kernel_rfl
theorem fnm : Tryz.prog.funcNamed Rows.scrubPutsRow.func = some 6 := by kernel_rfl
theorem facts : joinedFacts Tryz.prog 6 Tryz.f6 Rows.scrubPutsSpec Rows.scrubPutsRow = true :=
 O3 JJ Rn OB OE OC OG OH OD Rq inP unf rec nam rfl rfl rfl rfl rfl rfl rfl rfl rfl
  (by kernel_rfl) (by kernel_rfl) (by kernel_rfl) (by kernel_rfl) (by kernel_rfl) (by kernel_rfl) (by kernel_rfl) (by kernel_rfl) (by kernel_rfl) (by kernel_rfl) (by kernel_rfl) (by kernel_rfl) (by kernel_rfl) rfl rfl (by kernel_rfl) (by kernel_rfl) (by kernel_rfl)
theorem over : Rows.scrubPutsRow.holds Tryz.pinned (OpenSpec.ofChange Rows.scrubPutsSpec) :=
 OpenClaim.holds_of_wide 6 Tryz.f6 rfl rfl rfl rfl rfl rfl rfl ⟨rfl, rfl, rfl, rfl, rfl⟩ rfl rfl rfl rfl rfl fnm Tryz.func6 facts
  (of_decide_eq_true (by kernel_rfl)) (by unfold Func.isWrapper; first | (rw [if_pos (by decide +kernel)]; kernel_rfl) | (rw [if_neg (by decide +kernel)]; exact ⟨rfl, rfl⟩))
  (fun os started H enc _ => lifted os started H enc)
theorem proved : Rows.ScrubPutsSaid := over
end Go.Proofs.YtgpkbldlkadnjaaGreat.scrubPuts
namespace Go.Proofs.YtgpkbldlkadnjaaGreat
theorem scrubPuts_holds : Rows.ScrubPutsSaid := scrubPuts.proved
#print axioms scrubPuts_holds
end Go.Proofs.YtgpkbldlkadnjaaGreat
