/- The law ScrubShards, for every input: its row, out of its contract over data. No condition. -/
import Derived.Test.YtgpkbldlkadnjaaGreatJ7
import Derived.Test.YtgpkbldlkadnjaaGreatRows
import Derived.Test.YtgpkbldlkadnjaaGreatJ3
set_option linter.unusedVariables false
set_option linter.unusedSimpArgs false
section
set_option maxHeartbeats 3000000
attribute [local irreducible] Go.Sl.Chk Go.Sl.Br Go.Sl.Or2 Go.Sl.Ld Go.Sl.Ldn Go.Sl.LdB Go.Sl.Stn Go.Sl.New Go.Sl.Run Go.Sl.Ez Go.Sl.Eu Go.Sl.Call Go.Sl.CQ Go.Sl.EC Go.Sl.Alt Go.Sl.Om Go.Sl.xpk Go.Sl.FM Go.Sl.FN Go.Sl.DLd Go.Sl.Fe Go.Sl.DBs Go.Sl.BG Go.Sl.EN Go.Sl.EM Go.Sl.Dz Go.Sl.DGC Go.Sl.DW Go.Sl.Gl Go.Sl.Ei Go.Sl.Ent Go.Sl.Be Go.Sl.dv Go.Sl.ev Go.Sl.Au
namespace Go.Proofs.YtgpkbldlkadnjaaGreat
open Go Go.Sl Go.RowKit
def xN : Bs := [120]
theorem Xr : D5 xN := ⟨by decide, by decide⟩
def IQ (l : LL) : List (List FileS) := l.map fun b => [(bN xN, b, 0)]
theorem AhE (l : LL) : (IQ l).length = l.length := by simp [IQ]
theorem Uo {l : LL} {j : Nat} (hj : j < l.length) : (IQ l)[j]? = some [(bN xN, gt l j, 0)] := by
 unfold IQ
 rw [List.getElem?_map, List.getElem?_eq_getElem hj, G8 hj]; rfl
theorem raw_sh {l : LL} (aw : List Int) {j : Nat} (hj : j < l.length) : (DR xN aw (IQ l))[j]? = some (if (j : Int) ∈ aw then [] else GN j (gt l j)) := by
 rw [Gz xN aw (Uo hj)]
 unfold sh1
 rw [LX]
set_option maxRecDepth 100000 in
theorem Aef (a b : UInt8) (l : LL) (aw : List Int) (hll : l.length ≤ 140737488351232) (hlx : ∀ x ∈ l, x.length ≤ 140737488351232) (hal : aw.length ≤ 140737488351232) : Ed Tryz.prog Jz [bD a, bD b, CG l, BP aw] (Ak true) := by
 intro nx
 refine AU SG (by simp only [m_law25_ScrubShards, List.length]; decide) ?_
 simp only [m_law25_ScrubShards]; refine WK ?_; try with_reducible exact trivial
 refine BH (QG a b) fun n1 g1 => ?_
 have hs : CP (kOf a b) (fOf b) := Nw a b
 have hn7 := hs.n
 have hk1 := hs.k
 generalize kOf a b = k at *
 generalize fOf b = f at *
 simp only [shD]
 refine WK ?_; try with_reducible exact trivial
 refine BH (rnS_d k f (by omega) (by omega)) fun n2 g2 => ?_
 rw [show (k : Int) + f + f = ((k + 2 * f : Nat) : Int) by omega]
 refine WK ?_; try with_reducible exact trivial
 refine BH Gm fun n3 g3 => ?_
 rcases Decidable.em (l.length = k + 2 * f ∧ aw.length ≤ 20) with h5 | h5
 ·obtain ⟨h5, h6⟩ := h5
  refine WKX @h5 ?_; try with_reducible exact trivial
  refine O5 (UQ (k + 2 * f) 6000 (by omega) ⟨by omega, by omega⟩) fun A n4 g4 g5 => ?_
  rw [show (min (max (6000 : Int) 0) 65536).toNat = 6000 from rfl]
  have hrl : (List.replicate (k + 2 * f) ([] : List FileS)).length = k + 2 * f := List.length_replicate
  simp only [Ew]
  refine WKX @hrl ?_; try with_reducible exact trivial
  refine dmake (n := k + 2 * f) (k1 := .i64) (k2 := .i64) elM (by refine WK ?_; try with_reducible exact trivial) (by refine WK ?_; try with_reducible exact trivial) (by omega) (by omega) ?_
  refine WK ?_; try with_reducible exact trivial
  have hXl := AhE l
  refine Gu [2, 3, 9, 10, 11, 12, 13] (fun s : Nat × List D × Nat => ([(2, CG l), (3, BP aw), (9, .hp n1 0), (10, iD ((k + 2 * f : Nat) : Int)), (11, .h A), (12, .h n4), (13, iD (s.1 : Nat))], [(A, Ew ((IQ l).take s.1 ++ (List.replicate (k + 2 * f) []).drop s.1) 6000), (n4, .row Am 1 (k + 2 * f) s.2.1), (n1, .box Ce [iD k, iD f])], s.2.2)) (fun s => s.1 ≤ k + 2 * f ∧ Qe s.2.1 ((DR xN aw (IQ l)).take s.1 ++ List.replicate (k + 2 * f - s.1) []) ∧ (∀ i, i < s.1 → (gt l i).length ≤ 1000) ∧ n4 < s.2.2) (fun s => k + 2 * f - s.1) (0, List.replicate (k + 2 * f) (.sc (.slice none 0 0)), n4 + 1) ?_ ?_ ?_
  ·refine ⟨by omega, ⟨?_, fun d hd => ?_⟩, fun i hi => by omega, by dsimp only; omega⟩
   ·simp [PQ]
   ·rw [List.eq_of_mem_replicate hd]; trivial
  ·refine (Ent.only [A, n4, n1] _ _ _).trans ?_
   refine WKR ?_; try with_reducible exact trivial
   rw [AcG]
   simp only [List.take_zero, List.nil_append, List.drop_zero, Ew, hrl]
   exact (Ent.of (by with_unfolding_all rfl) rfl)
  ·rintro ⟨j, cs, n5⟩ ⟨q1, q2, q3, q4⟩
   dsimp only at q1 q2 q3 q4 ⊢
   have htl : ((IQ l).take j).length = j := by rw [List.length_take]; omega
   have hCl : ((IQ l).take j ++ (List.replicate (k + 2 * f) ([] : List FileS)).drop j).length = k + 2 * f := by rw [List.length_append, List.length_drop]; omega
   have hcl : cs.length = k + 2 * f := by
    have := congrArg List.length q2.1
    simp only [List.length_map, List.length_append, List.length_take, List.length_replicate, Dy] at this
    omega
   simp only [Ew, hCl]
   refine WK ?_; try with_reducible exact trivial
   refine brd (fun hlt => ?_) (fun hge => ?_)
   ·have hj : j < k + 2 * f := by omega
    have hjl : j < l.length := by omega
    have hse := raw_sh (l := l) aw hjl
    have hxl : (gt l j).length ≤ 140737488351232 := hlx _ (by rw [G8 hjl]; exact List.getElem_mem hjl)
    rcases Nat.lt_or_ge 1000 (gt l j).length with h7 | h7
    ·refine WK ?_; try with_reducible exact trivial
     exact BU ⟨rfl, rfl⟩
    ·have hgC : gt ((IQ l).take j ++ (List.replicate (k + 2 * f) ([] : List FileS)).drop j) j = [] := by
      rw [AeA htl, G8 (by omega), List.getElem_replicate]
     have hsa := Uf (pre := (IQ l).take j) (l := List.replicate (k + 2 * f) ([] : List FileS)) htl (by omega) [(bN xN, gt l j, 0)]
     have htk : (IQ l).take (j + 1) = (IQ l).take j ++ [[(bN xN, gt l j, 0)]] := by rw [List.take_add_one, Uo hjl]; rfl
     rw [← htk] at hsa
     have hap : KY [] 6000 (bN xN) (gt l j) = [(bN xN, gt l j, 0)] := by unfold KY; rw [RP Xr, if_neg (by decide), if_neg (by simp [FD]; omega)]; rfl
     have hcsk : (j : Int) ∈ aw → Qe cs ((DR xN aw (IQ l)).take (j + 1) ++ List.replicate (k + 2 * f - (j + 1)) []) := fun hin => by
      rw [if_pos hin] at hse
      rw [List.take_add_one, hse, List.append_assoc]
      rw [show k + 2 * f - j = (k + 2 * f - (j + 1)) + 1 by omega, List.replicate_succ] at q2
      exact q2
     have hcss : (j : Int) ∉ aw → Qe (cs.set j (bytesD (GN j (gt l j)))) ((DR xN aw (IQ l)).take (j + 1) ++ List.replicate (k + 2 * f - (j + 1)) []) := fun hin => by
      rw [if_neg hin] at hse
      refine ⟨?_, fun d hd => ?_⟩
      ·rw [List.map_set, q2.1, show PQ (bytesD (GN j (gt l j))) = bytesD (GN j (gt l j)) from rfl, ← List.map_set, List.set_append_right _ _ (by rw [List.length_take, Dy]; omega), List.length_take, Dy, show j - min j (IQ l).length = 0 by omega, show k + 2 * f - j = (k + 2 * f - (j + 1)) + 1 by omega, List.replicate_succ, List.set_cons_zero, List.take_add_one, hse, List.append_assoc]
       rfl
      ·rcases List.mem_or_eq_of_mem_set hd with h | h
       ·exact q2.2 d h
       ·rw [h]; trivial
     refine WK ?_; try with_reducible exact trivial
     rw [hgC]
     simp only [F8, AA]
     refine WK ?_; try with_reducible exact trivial
     refine Hu n5 (U6 [] 6000 (bN xN) (gt l j) (fun f hf => by simp at hf) (by simp [FD]) (by omega) (by decide) (by omega)) (by omega) (by (repeat rw [Ac (by omega)]); exact Aa _ _ _) (by simp only [List.mem_cons, List.not_mem_nil, or_false, not_false_eq_true]; try omega) fun n6 g6 => ?_
     rw [hap]
     simp only [AA]
     refine WK ?_; try with_reducible exact trivial
     refine BH (Ah6 aw (j : Int) (by omega)) fun n7 g7 => ?_
     have hb := fun r => IE (r := r) (j := j) (a := n5) (m := A) (n := k + 2 * f) (fs := [(bN xN, gt l j, 0)]) (most := 6000) (l := (IQ l).take j ++ (List.replicate (k + 2 * f) ([] : List FileS)).drop j)
     simp only [hsa] at hb
     have hCl2 : ((IQ l).take (j + 1) ++ (List.replicate (k + 2 * f) ([] : List FileS)).drop (j + 1)).length = k + 2 * f := by rw [List.length_append, List.length_drop, List.length_take]; omega
     rcases Decidable.em ((j : Int) ∈ aw) with hin | hin
     ·rw [decide_eq_true hin]
      refine WK ?_; try with_reducible exact trivial
      refine ⟨(j + 1, cs, n7), ⟨by dsimp only; omega, hcsk hin, fun i hi => ?_, by dsimp only; omega⟩, by dsimp only; omega, (Ent.only [n5, A, n4, n1] _ _ _).trans ?_⟩
      ·rcases Nat.lt_or_ge i j with h | h
       ·exact q3 i h
       ·rw [show i = j by dsimp only at hi; omega]; exact h7
      ·refine WKR ?_; try with_reducible exact trivial
       refine (Ent.of_rt (hb _ (by omega) (by omega))).trans ?_
       simp only [Ew, hCl2]
       exact (Ent.of (by with_unfolding_all rfl) rfl)
     ·rw [decide_eq_false hin]
      refine WK ?_; try with_reducible exact trivial
      refine BH (Ah9 (j : Int) (gt l j) (by omega)) fun n8 g8 => ?_
      refine WK ?_; try with_reducible exact trivial
      refine ⟨(j + 1, cs.set j (bytesD (GN j (gt l j))), n8), ⟨by dsimp only; omega, hcss hin, fun i hi => ?_, by dsimp only; omega⟩, by dsimp only; omega, (Ent.only [n5, A, n4, n1] _ _ _).trans ?_⟩
      ·rcases Nat.lt_or_ge i j with h | h
       ·exact q3 i h
       ·rw [show i = j by dsimp only at hi; omega]; exact h7
      ·refine WKR ?_; try with_reducible exact trivial
       refine (Ent.of_rt (hb _ (by omega) (by omega))).trans ?_
       simp only [Ew, hCl2]
       exact (Ent.of (by with_unfolding_all rfl) rfl)
   ·have hjN : j = k + 2 * f := by omega
    subst hjN
    have hse : (IQ l).take (k + 2 * f) ++ (List.replicate (k + 2 * f) ([] : List FileS)).drop (k + 2 * f) = IQ l := by rw [List.take_of_length_le (by omega), List.drop_of_length_le (by omega), List.append_nil]
    rw [hse]
    rw [List.take_of_length_le (by rw [Dy]; omega), Nat.sub_self, List.replicate_zero, List.append_nil] at q2
    have hmem : ∀ fs ∈ IQ l, ∃ i, i < k + 2 * f ∧ fs = [(bN xN, gt l i, 0)] := fun fs hfs => by
     obtain ⟨i, hi, rfl⟩ := List.mem_iff_getElem.1 hfs
     rw [hXl] at hi
     have e := Uo hi
     rw [List.getElem?_eq_getElem (by rw [hXl]; exact hi)] at e
     exact ⟨i, by omega, Option.some.inj e⟩
    have hok : ∀ fs ∈ IQ l, DOk fs 6000 1 := fun fs hfs => by
     obtain ⟨i, hi, rfl⟩ := hmem fs hfs
     exact ok1 Xr (by have := q3 i hi; omega) (by decide) (Nat.zero_le _)
    have hone : ∀ fs ∈ IQ l, fs.length ≤ 1 := fun fs hfs => by
     obtain ⟨i, hi, rfl⟩ := hmem fs hfs
     exact Nat.le_refl _
    have hsh : Oz xN (IQ l) := fun fs hfs b hb => by
     obtain ⟨i, hi, rfl⟩ := hmem fs hfs
     rw [LX] at hb
     cases hb
     exact q3 i hi
    have hany : Qm xN (IQ l) = true := by
     unfold Qm
     rw [List.any_eq_true]
     exact ⟨_, List.mem_of_getElem? (Uo (l := l) (j := 0) (by omega)), by rw [LX]; rfl⟩
    have hgr : JQ k f xN aw (IQ l) = decode k f (DR xN aw (IQ l)) := by rw [JQ, if_pos Xr, if_pos hany]
    have hsl := Dy xN aw (IQ l)
    have hXk : (IQ l).length = k + 2 * f := by omega
    have hA : D.row 26 1 (k + 2 * f) ((IQ l).map (F8 6000)) = Ew (IQ l) 6000 := by rw [Ew, hXk]
    rw [hA]
    refine WK ?_; try with_reducible exact trivial
    refine HY [A] (Et (Aa _ _ _)) (Tf hs (IQ l) 6000 1 hXk hok (by omega) (a := A) (by omega)) (by simp) fun _ _ n6 g6 ⟨t, L', t1, t2, hd, hlk, hro⟩ => ?_
    have hl' := QP hlk hone
    subst hl' hd hro
    simp only [List.cons_append, List.nil_append, AL, Ew]
    refine WK ?_; try with_reducible exact trivial
    refine Hu t (PH hs (IQ l) 6000 1 xN aw (by omega) (by decide) (by omega) hok (by omega) hsh) (by omega) (by (repeat rw [Ac (by omega)]); exact Aa _ _ _) (by simp only [List.mem_cons, List.not_mem_nil, or_false, not_false_eq_true]; try omega) fun n7 g7 => ?_
    rw [hgr]
    simp only [AL, VJ]
    refine WK ?_; try with_reducible exact trivial
    refine Aaf n4 (t' := .mk _) (by (repeat rw [Ac (by omega)]); exact Aa _ _ _) q2.2 ?_
    simp -dsimp (disch := omega) only [Ba, CX, List.map_cons, List.map_nil, Dl, Aa, Ac, Aeu, q2.1]
    rw [show D.sl (k + 2 * f) ((DR xN aw (IQ l)).map bytesD) = CG (DR xN aw (IQ l)) by rw [CG, hsl, hXk]]
    refine BH (Ac9 hs (DR xN aw (IQ l)) (by omega) (SK hsh)) fun n8 g8 => ?_
    simp only [VJ]
    generalize decode k f (DR xN aw (IQ l)) = x
    have e1 : decide ((x.2 : Int) = (x.2 : Int)) = true := decide_eq_true rfl
    have e2 : decide ((⟨x.1.toArray⟩ : ByteArray) = ⟨x.1.toArray⟩) = true := decide_eq_true rfl
    refine WK ?_; try with_reducible exact trivial
    exact BU ⟨rfl, rfl⟩
 ·rcases Decidable.em (l.length = k + 2 * f) with h6 | h6
  ·have h7 : 20 < aw.length := by omega
   refine WKX @h6 ?_; try with_reducible exact trivial
   refine BH Gm fun n4 g4 => ?_
   refine WK ?_; try with_reducible exact trivial
   exact BU ⟨rfl, rfl⟩
  ·refine WK ?_; try with_reducible exact trivial
   repeat ((first | refine Fq (Ak true) ?_ | refine Ic ?_); refine WK ?_; try with_reducible exact trivial)
   refine BH Gm fun n4 g4 => ?_
   refine WK ?_; try with_reducible exact trivial
   exact BU ⟨rfl, rfl⟩
theorem Ahr (a b : UInt8) (l : LL) (hl : l.length ≤ 140737488351232 ∧ ∀ x ∈ l, x.length ≤ 140737488351232) (aw : List Int) (haw : aw.length ≤ 140737488351232 ∧ ∀ z ∈ aw, -9223372036854775808 ≤ z ∧ z ≤ 9223372036854775807) : Ed Tryz.prog Jz [bD a, bD b, CG l, BP aw] (Ak true) :=
 Aef a b l aw hl.1 hl.2 haw.1
end Go.Proofs.YtgpkbldlkadnjaaGreat
end
set_option linter.unusedVariables false
namespace Go.Proofs.YtgpkbldlkadnjaaGreat.scrubShards
open Go Go.Sl Go.ChangeShapes Go.WideShapes Go.ChangeAt Go.RowKit
open Go.ChangeMaps (open_string shut_string)
theorem laidOut : laidOutB Tryz.prog = true := JJ
set_option maxRecDepth 100000 in
theorem lifted (os : Os) (started : os.Started) (H : Type) (enc : TypeId × Value → H) :
  ReturnsInHanded {} Tryz.checked os 5 .any (Rows.scrubShardsSpec.pre6 enc Tryz.prog Tryz.f5 Rows.scrubShardsRow.domain false) (Rows.scrubShardsSpec.post enc Tryz.prog Tryz.f5 false true false false) := by
 refine returnsInHanded_of_change_sized (C := Tryz.checked) Vb started (by kernel_rfl) Tryz.func5
  (ChangeSpec.witness6 (enc := enc) (C := Tryz.checked) false ⟨#[], #[.int .u8 0, .int .u8 0, .slice none 0 0, .slice none 0 0], []⟩ 8 (by kernel_rfl) (by kernel_rfl) (by kernel_rfl) (by kernel_rfl)) ?_
 intro W base args ds gs before hval0 hW hcnd hsz0 _
 have hsz : (DataW.weightsEach Tryz.prog (Tryz.f5.params.toList ++ Rows.scrubShardsSpec.plain.varTypes Tryz.prog) (ds ++ gs)).all (· ≤ reachBytes) = true := hsz0
 have hval : ∀ (j : Nat) t v, Tryz.f5.params[j]? = some t → args[j]? = some v → Value.okWide Tryz.prog W .any base t v := hval0
 have hW' := hW
 obtain ⟨p, q, hA0, hV, rfl, hfz, hnd⟩ := hW
 have hA : DataW.TrodAll enc Tryz.prog W 0 (fun _ => true) true Tryz.f5.params.toList args.toList ds p := hA0
 rw [Tryz.params5] at hA hval hsz
 obtain ⟨v0, vs0, d0, ds0, p0, q0, hargs, rfl, rfl, h0, r0⟩ := trodAll_cons hA
 obtain ⟨v1, vs1, d1, ds1, p1, q1, rfl, rfl, rfl, h1, r1⟩ := trodAll_cons r0
 obtain ⟨v2, vs2, d2, ds2, p2, q2, rfl, rfl, rfl, h2, r2⟩ := trodAll_cons r1
 obtain ⟨v3, vs3, d3, ds3, p3, q3, rfl, rfl, rfl, h3, r3⟩ := trodAll_cons r2
 obtain ⟨rfl, rfl, rfl⟩ := trodAll_nil r3
 obtain rfl : args = #[v0, v1, v2, v3] := by cases args; simp_all
 obtain ⟨rfl, rfl⟩ := trodVars_none hV
 obtain ⟨a0, rfl, rfl, rfl, w0⟩ := open_int Tryz.underlying5 (hval 0 5 v0 rfl rfl) h0
 obtain ⟨a1, rfl, rfl, rfl, w1⟩ := open_int Tryz.underlying5 (hval 1 5 v1 rfl rfl) h1
 have k2 := h2
 have lt2 : ∀ x ∈ p2, x.block < W.heap.size := by obtain ⟨m, hm⟩ := k2; exact DataW.trod_lt m _ _ _ hm
 obtain ⟨m2, rs2, hb2⟩ := Ajw.slice Tryz.underlying60 (hval 2 60 v2 rfl rfl) h2 (Nv hsz (j := 2) rfl rfl)
 have k3 := h3
 have lt3 : ∀ x ∈ p3, x.block < W.heap.size := by obtain ⟨m, hm⟩ := k3; exact DataW.trod_lt m _ _ _ hm
 obtain ⟨m3, rs3, hb3⟩ := Afx.slice Tryz.underlying34 (hval 3 34 v3 rfl rfl) h3 (Nv hsz (j := 3) rfl rfl)
 clear hA0 hval0 hsz0 hsz
 refine (IP (Ahr (UInt8.ofNat a0.toNat) (UInt8.ofNat a1.toNat) m2 hb2 m3 hb3) (D8 (by rw [Nr w0]; exact Kw _) (D8 (by rw [Nr w1]; exact Kw _) (D8 rs2 (D8 rs3 RD))))).mono fun e W' ⟨he, bel⟩ => ?_
 subst he
 exact ⟨_, rfl, _, _, _, [], _, [], hW', trodAll_mk1 (shut_bool Tryz.underlying4 _), (trodAll_cons_mk (shut_int Tryz.underlying5 w0) (trodAll_cons_mk (shut_int Tryz.underlying5 w1) (trodAll_cons_mk (Below.trod laidOut (by kernel_rfl) (of_decide_eq_true (by kernel_rfl)) k2 bel lt2) (trodAll_cons_mk (Below.trod laidOut (by kernel_rfl) (of_decide_eq_true (by kernel_rfl)) k3 bel lt3) trodAll_mk0)))), rfl, bel.frame _, fun h => by cases h⟩
theorem inP : Tryz.prog.inPlace 5 = [] := by kernel_rfl
theorem unf : Tryz.prog.unfollowed 5 = true := by kernel_rfl
theorem rec : Tryz.prog.recurses 5 = true := by kernel_rfl
theorem nam : Tryz.prog.varsNamed 5 = [] := by kernel_rfl
theorem fnm : Tryz.prog.funcNamed Rows.scrubShardsRow.func = some 5 := by kernel_rfl
theorem facts : joinedFacts Tryz.prog 5 Tryz.f5 Rows.scrubShardsSpec Rows.scrubShardsRow = true :=
 O3 JJ Rn OB OE OC OG OH OD Rq inP unf rec nam rfl rfl rfl rfl rfl rfl rfl rfl rfl
  (by kernel_rfl) (by kernel_rfl) (by kernel_rfl) (by kernel_rfl) (by kernel_rfl) (by kernel_rfl) (by kernel_rfl) (by kernel_rfl) (by kernel_rfl) (by kernel_rfl) (by kernel_rfl) (by kernel_rfl) (by kernel_rfl) rfl rfl (by kernel_rfl) (by kernel_rfl) (by kernel_rfl)
theorem over : Rows.scrubShardsRow.holds Tryz.pinned (OpenSpec.ofChange Rows.scrubShardsSpec) :=
 OpenClaim.holds_of_wide 5 Tryz.f5 rfl rfl rfl rfl rfl rfl rfl ⟨rfl, rfl, rfl, rfl, rfl⟩ rfl rfl rfl rfl rfl fnm Tryz.func5 facts
  (of_decide_eq_true (by kernel_rfl)) (by unfold Func.isWrapper; first | (rw [if_pos (by decide +kernel)]; kernel_rfl) | (rw [if_neg (by decide +kernel)]; exact ⟨rfl, rfl⟩))
  (fun os started H enc _ => lifted os started H enc)
theorem proved : Rows.ScrubShardsSaid := over
end Go.Proofs.YtgpkbldlkadnjaaGreat.scrubShards
namespace Go.Proofs.YtgpkbldlkadnjaaGreat
theorem scrubShards_holds : Rows.ScrubShardsSaid := scrubShards.proved
#print axioms scrubShards_holds
end Go.Proofs.YtgpkbldlkadnjaaGreat
