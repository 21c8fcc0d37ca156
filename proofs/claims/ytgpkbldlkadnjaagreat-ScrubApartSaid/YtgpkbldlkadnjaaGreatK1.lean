/- The law ScrubApart, for every input: its row, out of its contract over data. No condition. -/
import Derived.Test.YtgpkbldlkadnjaaGreatJ3
import Derived.Test.YtgpkbldlkadnjaaGreatJ7
import Derived.Test.YtgpkbldlkadnjaaGreatJ5
import Derived.Test.YtgpkbldlkadnjaaGreatRows
set_option linter.unusedVariables false
set_option linter.unusedSimpArgs false
section
namespace Go.Sl
open Go.RowKit Go.ChangeShapes Go.WideShapes Go.ChangeAt Go.Deep
theorem Zp {P : Program} {w : World} {r : Reach} {base n : Nat} {t e : TypeId} {v : Value} (ht : P.underlying t = some (.array n e)) (h : Value.okWide P w r base t v) : ∃ cs, v = .agg cs ∧ cs.size = P.cellsOf t := by
 simp only [Value.okWide, ht] at h
 obtain ⟨cs, h1, h2, _⟩ := h
 exact ⟨cs, h1, h2⟩
theorem Jn.array {P : Program} {t e0 : TypeId} {H : Type} {enc : TypeId × Value → H} {W : World} {n s : Nat} {α : Type} {e : α → List D} {B : α → Prop} (h : Jn P t s α e B) (ht : P.underlying t = some (.array n e0)) {b0 : Nat} {v : Value} {d : DataW H} {p : List MemPlace}
  (hval : Value.okWide P W .any b0 t v) (k : DataW.Trod enc P W 0 (fun _ => true) true t v d p) (hs : XJ P t d) : ∃ a, Rs W (Zw W) T0 (.agg (e a)) v ∧ B a := by
 obtain ⟨cs, rfl, hsz⟩ := Zp ht hval
 obtain ⟨fuel, hf⟩ := k
 obtain ⟨a, g1, g2⟩ := h.get enc W fuel _ _ hf hs
 exact ⟨a, by simp only [Rs]; exact ⟨cs.toList, by simp, by simpa [Value.cells] using g1⟩, g2⟩
end Go.Sl
namespace Go.Proofs.YtgpkbldlkadnjaaGreat
open Go Go.Sl
theorem op_u16 : Jn Tryz.prog 23 1 Nat (fun z => [.sc (.int .u16 (z : Nat))]) (fun z => z < 65536) :=
 ⟨by kernel_rfl, fun _ => rfl, fun enc W n cs x hx hsz => by
  obtain ⟨a, h1, h2⟩ := (op_int (P := Tryz.prog) Tryz.underlying23 (by kernel_rfl)).get enc W n cs x hx hsz
  obtain ⟨m, rfl, hm⟩ := AhQ h2
  exact ⟨m, h1, hm⟩⟩
theorem AgF : Jn Tryz.prog 82 3 CG spC (fun x => x.at_ < 65536) :=
 (Afh Tryz.underlying82 rfl (by kernel_rfl) (WI AgE rfl (WI op_u16 rfl (WI AgE rfl (Aig _))))).map
  (fun x => (⟨x.1, x.2.1, x.2.2.1⟩ : CG)) (fun _ => rfl) (fun x h => h.2.1) fun _ => rfl
theorem Yu : Jn Tryz.prog 83 21 { l : List CG // l.length = 7 } (fun l => Va l.1) (fun l => ∀ a ∈ l.1, a.at_ < 65536) := AgG (n := 7) (s := 3) Tryz.underlying83 (by kernel_rfl) AgF
end Go.Proofs.YtgpkbldlkadnjaaGreat
end
section
set_option maxHeartbeats 3000000
attribute [local irreducible] Go.Sl.Chk Go.Sl.Br Go.Sl.Or2 Go.Sl.Ld Go.Sl.Ldn Go.Sl.LdB Go.Sl.Stn Go.Sl.New Go.Sl.Run Go.Sl.Ec Go.Sl.D9 Go.Sl.Call Go.Sl.Cc Go.Sl.Ed Go.Sl.Alt Go.Sl.Om Go.Sl.xpk Go.Sl.EX Go.Sl.EY Go.Sl.DLd Go.Sl.ES Go.Sl.DBs Go.Sl.Bo Go.Sl.Et Go.Sl.Es Go.Sl.Dk Go.Sl.DGC Go.Sl.Dq Go.Sl.Fj Go.Sl.D8 Go.Sl.Ent Go.Sl.Bg Go.Sl.dv Go.Sl.ev Go.Sl.Am
namespace Go.Proofs.YtgpkbldlkadnjaaGreat
open Go Go.Sl Go.RowKit
abbrev scr (i : Nat) (fs : List FileS) : List FileS := (D5 i (Eu fs) fs).1
def Oz (L : List (List FileS)) : List (List FileS) := L.mapIdx fun i fs => scr i fs
theorem Aa9 {L : List (List FileS)} {j : Nat} {fs : List FileS} (h : L[j]? = some fs) : (Oz L)[j]? = some (scr j fs) := by
 unfold Oz
 rw [List.getElem?_mapIdx, h]; rfl
theorem AeZ {L : List (List FileS)} {j : Nat} {fs : List FileS} (h : L[j]? = some fs) : (Oz L).take (j + 1) = (Oz L).take j ++ [scr j fs] := by
 rw [List.take_add_one, Aa9 h]; rfl
def Vd (l : List CG) (aw : List Int) (j : Nat) : Nat := ((List.range j).filter fun i => (gt l i).good && !decide ((i : Int) ∈ aw)).length
theorem AiH (l : List CG) (aw : List Int) (j : Nat) : Vd l aw j ≤ j := Nat.le_trans (List.length_filter_le _ _) (by simp)
theorem Afp {x : CG} (h : x.good = true) : x.kind ≠ 4 := fun e => by simp [CG.good, e] at h
section
variable {k f : Nat} (hs : CO k f) {n v : Bs} (hn : D7 n) (hv : v.length ≤ 512) (l : List CG) (aw : List Int)
include hs hv
theorem Aga {j : Nat} (hj : j < k + 2 * f) : (EG n aw (EM n k f v l))[j]? = some (if ((gt l j).good && !decide ((j : Int) ∈ aw)) = true then gt (encode k f v) j else []) := by
 have hn7 := hs.n
 have hr := (EC hs v hj).1
 have := DJ v.length hs.k
 rw [GX n aw (LQ hs l hj), (Hg hs hv l hj).sh (by omega) (by omega) aw]
 congr 1
 by_cases h : (gt l j).good = true ∧ (j : Int) ∉ aw
 ·rw [if_pos h, if_pos (by rw [h.1, decide_eq_false h.2]; rfl)]
 ·rw [if_neg h, if_neg (by simp only [Bool.and_eq_true, Bool.not_eq_true', decide_eq_false_iff_not]; exact h)]
include hn
end
theorem Yo {most : Nat} {n : Bs} : ∀ (M : List (List FileS)) (ws : LL) (gs : List Bool), M.length = ws.length → gs.length = ws.length →
  (∀ (j : Nat) (fs : List FileS) (w : Bs) (g : Bool), M[j]? = some fs → ws[j]? = some w → gs[j]? = some g → JP fs most n w = [(bN n, w, w.length)] ∧ JQ fs most n w = (if g then 0 else 1, 0)) →
  IE most n M ws = (Gq n ws, (gs.filter fun g => !g).length, 0)
 | [], [], [], _, _, _ => rfl
 | fs :: M, w :: ws, g :: gs, h1, h2, h => by
  have ih := Yo (most := most) (n := n) M ws gs (by simpa using h1) (by simpa using h2) fun j a b c x y z => h (j + 1) a b c (by simpa using x) (by simpa using y) (by simpa using z)
  obtain ⟨e1, e2⟩ := h 0 fs w g rfl rfl rfl
  unfold IE at ih ⊢
  rw [Ic, e1, e2, if_pos rfl, ih]
  cases g <;> simp [Gq, Nat.add_comm]
 | [], _ :: _, _, h1, _, _ => by simp at h1
 | _ :: _, [], _, h1, _, _ => by simp at h1
 | [], [], _ :: _, _, h2, _ => by simp at h2
 | _ :: _, _ :: _, [], _, h2, _ => by simp at h2
theorem Xb : ∀ gs : List Bool, (gs.filter fun g => !g).length = gs.length - (gs.filter id).length
 | [] => rfl
 | g :: gs => by
  have ih := Xb gs
  have := List.length_filter_le id gs
  cases g <;> simp [ih] <;> omega
theorem Ace (N : Nat) (l : List CG) : ((Hm N l).filter id).length = Vd l [] N := by
 unfold Hm Vd
 rw [List.filter_map, List.length_map]
 congr 1
 refine List.filter_congr fun i _ => ?_
 simp
section
variable {k f : Nat} (hs : CO k f) {n v : Bs} (hn : D7 n) (hv : v.length ≤ 512) (l : List CG)
def AsL (k f : Nat) (n v : Bs) (l : List CG) (M : List (List FileS)) : Prop := M.length = k + 2 * f ∧ ∀ (j : Nat) (fs : List FileS), M[j]? = some fs → ∃ fs0, (EM n k f v l)[j]? = some fs0 ∧ (fs = fs0 ∨ fs = (D5 j (Eu fs0) fs0).1)
theorem Ie.scr_read {n s : Bs} {i : Nat} {x : CG} {fs : List FileS} (h : Ie (bN n) i s x fs) (hn : D7 n) (hi : i < 4294967296) (hs : s.length ≤ 60000) (h0 : s ≠ []) : scr i fs = fs ∨ DW (scr i fs) (bN n) = none := by
 have e := h.scrub hn hi hs h0
 unfold scr
 rw [e]
 cases h with
 | good h h4 => rw [if_neg (by rw [h]; simp)]; exact .inl rfl
 | away h h4 => rw [if_neg (fun k => k.2 h4)]; exact .inl rfl
 | bad h h4 w sy hg hl hs =>
  rw [if_pos ⟨h, h4⟩]
  exact .inr (Pv (fun e => XA n n e.symm) w sy)
include hs hv hn
theorem as_sh {M : List (List FileS)} (hM : AsL k f n v l M) (aw : List Int) {j : Nat} {fs : List FileS} (hj : M[j]? = some fs) : sh1 n aw j fs = if ((gt l j).good && !decide ((j : Int) ∈ aw)) = true then gt (encode k f v) j else [] := by
 have hjl : j < k + 2 * f := by have := (List.getElem?_eq_some_iff.1 hj).1; rwa [hM.1] at this
 have hn7 := hs.n
 have hr := (EC hs v hjl).1
 have := DJ v.length hs.k
 obtain ⟨fs0, h0, hf⟩ := hM.2 j fs hj
 have hs0 := LQ hs (n := n) (v := v) l hjl
 rw [h0] at hs0
 cases hs0
 have hst := Hg hs hv (n := n) l hjl
 have e1 := Aga hs hv (n := n) l aw hjl
 rw [GX n aw h0] at e1
 have e2 := Option.some.inj e1
 rcases hf with rfl | rfl
 ·exact e2
 ·rcases hst.scr_read hn (by omega) (by omega) (EC hs v hjl).2 with h | h
  ·unfold scr at h; rw [h]; exact e2
  ·unfold scr at h
   have hz : sh1 n aw j (D5 j (Eu (Ht (gt l j) (bN n) (Bi j (gt (encode k f v) j)))) (Ht (gt l j) (bN n) (Bi j (gt (encode k f v) j)))).1 = [] := by unfold sh1; rw [h]
   rw [hz]
   have hb := hst.scrub hn (by omega) (by omega) (EC hs v hjl).2
   by_cases hg : (gt l j).good = true
   ·rw [if_neg (by rw [hg]; simp)] at hb
    rw [hb] at h
    have := hst.read
    dsimp only at h
    rw [h, decide_eq_true (Afp hg)] at this
    cases this
   ·rw [if_neg (by rw [Bool.eq_false_iff.2 hg]; simp)]
theorem XF {M : List (List FileS)} (hM : AsL k f n v l M) (aw : List Int) : (L6 (EG n aw M)).length = Vd l aw (k + 2 * f) := by
 have hl : (EG n aw M).length = k + 2 * f := by rw [EP, hM.1]
 rw [QR (p := fun i => (gt l i).good && !decide ((i : Int) ∈ aw)), hl]
 ·rfl
 ·intro i hi
  rw [hl] at hi
  have hiM : i < M.length := by rw [hM.1]; exact hi
  have hm : M[i]? = some M[i] := List.getElem?_eq_getElem hiM
  rw [List.getD_eq_getElem?_getD, GX n aw hm, Option.getD_some, as_sh hs hn hv l hM aw hm]
  have := (EC hs v hi).2
  cases h : (gt l i).good && !decide ((i : Int) ∈ aw) with
  | false => simp
  | true => simp [List.length_pos_iff, this]
theorem as_get {M : List (List FileS)} (hM : AsL k f n v l M) (h : k ≤ Vd l [] (k + 2 * f)) : LC k f n [] M = (v, 0) := by
 have hk := hs.k
 refine Ado hs hn hv hM.1 ?_ (fun j fs hj => ?_) (by rw [XF hs hn hv l hM]; exact h)
 ·have hpos : 0 < (L6 (EG n [] M)).length := by rw [XF hs hn hv l hM]; omega
  obtain ⟨i, hi⟩ := List.exists_mem_of_length_pos hpos
  obtain ⟨h1, h2⟩ := UG.1 hi
  rw [EP] at h1
  have hm : M[i]? = some M[i] := List.getElem?_eq_getElem h1
  rw [List.getD_eq_getElem?_getD, GX n [] hm, Option.getD_some] at h2
  unfold UA
  rw [List.any_eq_true]
  refine ⟨M[i], List.getElem_mem h1, ?_⟩
  unfold sh1 at h2
  cases hr : DW M[i] (bN n) with
  | none => rw [hr] at h2; exact absurd rfl h2
  | some b => rfl
 ·rw [as_sh hs hn hv l hM [] hj]
  split
  ·exact .inr rfl
  ·exact .inl rfl
theorem AfN {M : List (List FileS)} (hM : AsL k f n v l M) (h : k ≤ Vd l [] (k + 2 * f)) : Pq k f 6000 n M = (Gq n (AZ k f v), k + 2 * f - Vd l [] (k + 2 * f), 0) := by
 have hn7 := hs.n
 have hfl := Ew hs v
 have hgo := Yo (most := 6000) (n := n) M (AZ k f v) (Hm (k + 2 * f) l) (by rw [hM.1, hfl]) (by rw [LV, hfl]) fun j fs w g hj hw hg => by
  have hjl : j < k + 2 * f := by have := (List.getElem?_eq_some_iff.1 hj).1; rwa [hM.1] at this
  have hr := (EC hs v hjl).1
  have := DJ v.length hs.k
  have hfg := Gl (k := k) (f := f) (v := v) (j := j) (by rw [(BP hs v).2.2]; exact hjl)
  rw [hfg] at hw
  cases hw
  have hgg : g = (gt l j).good := by
   have := Afq (N := k + 2 * f) l hjl
   rw [Ia (by rw [LV]; exact hjl)] at this
   rw [List.getElem?_eq_getElem (by rw [LV]; exact hjl)] at hg
   rw [← this]; exact (Option.some.inj hg).symm
  obtain ⟨fs0, h0, hf⟩ := hM.2 j fs hj
  have hs0 := LQ hs (n := n) (v := v) l hjl
  rw [h0] at hs0
  cases hs0
  have := (Hg hs hv (n := n) l hjl).mend hn (by omega) (by omega) (EC hs v hjl).2 hf (most := 6000) (Nat.le_refl _)
  rw [hgg]
  exact this
 rw [Pq, as_get hs hn hv l hM h, if_pos rfl]
 dsimp only
 rw [hgo, if_pos rfl, Xb, LV, Ace]
theorem AcB {M : List (List FileS)} (hM : AsL k f n v l M) (h : Vd l [] (k + 2 * f) < k) : ∃ e, e ≠ 0 ∧ Pq k f 6000 n M = (M, 0, e) := by
 have hg : (LC k f n [] M).2 ≠ 0 := by
  unfold LC
  rw [if_pos hn]
  split
  ·rw [ZQ (by rw [EP, hM.1]) (by rw [BA, List.length_map, XF hs hn hv l hM]; exact h)]
   decide
  ·decide
 exact ⟨_, hg, by rw [Pq, if_neg hg]⟩
theorem as_ok {M : List (List FileS)} (hM : AsL k f n v l M) : ∀ fs ∈ M, DOk fs 6000 2 := fun fs hfs => by
 obtain ⟨j, hj, rfl⟩ := List.mem_iff_getElem.1 hfs
 obtain ⟨fs0, h0, hf⟩ := hM.2 j _ (List.getElem?_eq_getElem hj)
 have ho := Wn hs hn hv l _ (List.mem_of_getElem? h0)
 have h1 := TP hs hv (n := n) l _ (List.mem_of_getElem? h0)
 rcases hf with e | e
 ·rw [e]; exact ho.mono (by omega)
 ·rw [e]
  exact (RY (by decide) j (Eu fs0) ho).mono (by rw [OE]; omega)
theorem AhC {M : List (List FileS)} (hM : AsL k f n v l M) : Qb n M := fun fs hfs b hb => by
 obtain ⟨j, hj, rfl⟩ := List.mem_iff_getElem.1 hfs
 have hjl : j < k + 2 * f := by rwa [hM.1] at hj
 have hn7 := hs.n
 have hr := (EC hs v hjl).1
 have := DJ v.length hs.k
 obtain ⟨fs0, h0, hf⟩ := hM.2 j _ (List.getElem?_eq_getElem hj)
 have hsh := AaX hs hv (n := n) l n _ (List.mem_of_getElem? h0)
 have hs0 := LQ hs (n := n) (v := v) l hjl
 have hst := Hg hs hv (n := n) l hjl
 rw [h0] at hs0
 rw [← Option.some.inj hs0] at hst
 rcases hf with e | e
 ·rw [e] at hb; exact hsh b hb
 ·rw [e] at hb
  rcases hst.scr_read hn (by omega) (by omega) (EC hs v hjl).2 with h | h
  ·unfold scr at h; rw [h] at hb; exact hsh b hb
  ·unfold scr at h; rw [h] at hb; cases hb
omit hn hv in
theorem AiJ : AsL k f n v l (EM n k f v l) := ⟨Hr hs l, fun j fs h => ⟨fs, h, .inl rfl⟩⟩
omit hn hv in
theorem as_scr : AsL k f n v l (Oz (EM n k f v l)) := ⟨by rw [Oz, List.length_mapIdx, Hr hs], fun j fs h => by
 have hjl : j < (EM n k f v l).length := by have := (List.getElem?_eq_some_iff.1 h).1; rwa [Oz, List.length_mapIdx] at this
 have e := Aa9 (List.getElem?_eq_getElem hjl)
 rw [h] at e
 exact ⟨_, List.getElem?_eq_getElem hjl, .inr (Option.some.inj e)⟩⟩
end
set_option maxRecDepth 100000 in
theorem Ae3 (a b : UInt8) (v : Bs) (l : List CG) (first : Bool) (hvl : v.length ≤ 140737488351232) (hl : l.length = 7) (hat : ∀ x ∈ l, x.at_ < 65536) : ED Tryz.prog IL [bD a, bD b, BC v, .agg (Va l), AO first] (AO true) := by
 have e := Y3 v
 have hsl := RU l
 intro nx
 refine A8 P8 (by simp only [m_law25_ScrubRepairs, List.length]; decide) ?_
 simp only [m_law25_ScrubRepairs]; refine WK ?_; try with_reducible exact trivial
 refine CS (Abc a b) fun n1 g1 => ?_
 have hs : CO (kOf a b) (fOf b) := Wp a b
 have hn7 := hs.n
 have hk1 := hs.k
 generalize kOf a b = k at *
 generalize fOf b = f at *
 simp only [shD]
 refine WK ?_; try with_reducible exact trivial
 refine CS Oc fun n2 g2 => ?_
 rcases Nat.lt_or_ge 512 v.length with h5 | h5
 ·refine WKX @e ?_; try with_reducible exact trivial
  refine CS Oc fun n3 g3 => ?_
  refine WK ?_; try with_reducible exact trivial
  exact Eb ⟨rfl, rfl⟩
 ·have hnx := P9
  have hle := Hr hs (n := blobN) (v := v) l
  have hok := Wn hs hnx h5 l
  have h1 := TP hs h5 (n := blobN) l
  have hgle := AiH l [] (k + 2 * f)
  have hcg := Ace (k + 2 * f) l
  have hgl := LV (k + 2 * f) l
  have hself := AiJ hs (n := blobN) (v := v) l
  have hscr := as_scr hs (n := blobN) (v := v) l
  have hw := DJ v.length hs.k
  simp -dsimp (disch := omega) only [↓MC.xwp, ↓Ce, ↓xdr, ↓MOp.xwp, dvs, dv, dvu, dvo, dvp, dgb, dGd, DX, cond_true, cond_false, Gf, Bg, CQ, Dp, DD, Du, ptr, bsc, cv, uo, uof, Bq, xpr, DL, EL, FM, FB, Gi, FT, Gj, xst, xgp, glc, F8, DV, FY, FZ, FW, FX, DU, FV, FN, FU, DN, DR, Cj, Dw, Fv, dsl, dif, BV, CP, BI, scs, rowOf, AU, dtk, DC, BJ, pev, Bl, Bv, Aq, Bz, psl, Ba, ↓DI, ↓CB, ↓FP, ↓Fq, Dz, FD, FC, Dj, BG, kp, Di, Dv, E9, Dt, FI, CZ, AQ, BB, nb, Fe, Cb, Bd, apart, Aj, Bc, heldOk, Op.operands, Nat.reduceAdd, forall_eq_or_imp, D.plain, reduceCtorEq, if_true, if_false, ↓reduceIte, ne_eq, Bool.cond_true, Bool.cond_false, forall_const, implies_true, forall_eq, Int.reduceEq, Int.reduceLT, Int.reduceLE, Int.reduceAdd, Int.reduceSub, Int.reduceMul, Int.reduceToNat, Nat.reduceMul, Nat.reduceLeDiff, Nat.reduceLT, Nat.reduceSub, Nat.reduceBEq, Nat.reduceEqDiff, CY, bytesD, iD, CU, AO, BC, bD, DB, e, hsl, hl, Y5 hl]
  refine chk (Yl l) ?_
  refine WK ?_; try with_reducible exact trivial
  rw [Y5 hl]
  refine ZR (AaW hs hnx h5 hl hat) fun _ _ n3 g3 ⟨A, G, a1, a2, a3, a4, a5, hd, hro⟩ => ?_
  subst hd hro
  generalize hL : EM blobN k f v l = L at *
  simp only [List.cons_append, List.nil_append, Hf]
  refine WK ?_; try with_reducible exact trivial
  refine Ll [A] (GM (Aa _ _ _)) (AcT hs L 6000 1 hle hok (by omega) (a := A) (by omega)) (by simp) fun _ _ n4 g4 ⟨t, L', t1, t2, hd, hlk, hro⟩ => ?_
  have hl' := Abw hlk h1
  subst hl' hd hro
  simp only [List.cons_append, List.nil_append, BO]
  refine WK ?_; try with_reducible exact trivial
  have hscl : (Oz L').length = L'.length := by simp [Oz]
  rcases first with _ | _
  case' false =>
   refine GL [2, 4, 11, 13, 14, 16] (fun s : Nat => ([(2, BC v), (4, AO false), (11, .hp n1 0), (13, .h G), (14, .hp t 0), (16, iD 0)], [(t, BO k f L' 6000), (G, .row RN 1 (k + 2 * f) ((Hm (k + 2 * f) l).map AO)), (n1, .box Dl [iD k, iD f])], s)) (fun s => t < s) (fun s => 0) n4 t2 ((Ent.only [t, G, n1] _ _ _).trans (by simp -dsimp (disch := omega) only [EQ, Aa, Ac, AX, Bj]; exact (Ent.of (by with_unfolding_all rfl) rfl))) ?_
   intro n5 q2
   simp only [BO]
   have hkp : 0 < k + 2 * f := by omega
   have hM : AsL k f blobN v l L' := hself
   have hlM : L'.length = k + 2 * f := hle
   refine WK ?_; try with_reducible exact trivial
   generalize L' = M at hM hlM ⊢
  case' true =>
   refine GL [2, 4, 11, 13, 14, 16] (fun s : Nat × Nat => ([(2, BC v), (4, AO true), (11, .hp n1 0), (13, .h G), (14, .hp t 0), (16, iD (s.1 : Nat))], [(t, BO k f ((Oz L').take s.1 ++ L'.drop s.1) 6000), (G, .row RN 1 (k + 2 * f) ((Hm (k + 2 * f) l).map AO)), (n1, .box Dl [iD k, iD f])], s.2)) (fun s => s.1 ≤ k + 2 * f ∧ t < s.2) (fun s => k + 2 * f - s.1) (0, n4) ⟨by dsimp only; omega, by dsimp only; omega⟩ ((Ent.only [t, G, n1] _ _ _).trans (by simp -dsimp (disch := omega) only [EQ, Aa, Ac, AX, Bj]; simp only [List.take_zero, List.nil_append, List.drop_zero]; exact (Ent.of (by with_unfolding_all rfl) rfl))) ?_
   rintro ⟨j, n5⟩ ⟨q1, q2⟩
   dsimp only at q1 q2 ⊢
   have htl : ((Oz L').take j).length = j := by rw [List.length_take]; omega
   have hcl : ((Oz L').take j ++ L'.drop j).length = k + 2 * f := by rw [List.length_append, List.length_drop]; omega
   simp only [BO]
   refine WK ?_; try with_reducible exact trivial
   refine brd (fun hlt => ?rd) (fun hge => ?ex)
   case rd =>
    have hj : j < k + 2 * f := by omega
    have hjL : j < L'.length := by omega
    have hfs : L'[j]? = some L'[j] := List.getElem?_eq_getElem hjL
    have ho := hok _ (List.mem_of_getElem? hfs)
    have htk := AeZ hfs
    have hcg : ((Oz L').take j ++ L'.drop j)[j]? = some L'[j] := by rw [List.getElem?_append_right (by omega), htl, Nat.sub_self, List.getElem?_drop, Nat.add_zero]; exact hfs
    have hset := Zb (pre := (Oz L').take j) htl hjL (D5 j (Eu L'[j]) L'[j]).1
    refine WK ?_; try with_reducible exact trivial
    refine QL t (Wj k f _ 6000 1 j L'[j] (by omega) hcg ho (by omega) (by omega)) (by omega) (by (repeat rw [Ac (by omega)]); exact Aa _ _ _) (by simp only [List.mem_cons, List.not_mem_nil, or_false, not_false_eq_true]; try omega) fun c1 n6 g6 g7 => ?_
    rw [hset]
    simp only [BO]
    refine WK ?_; try with_reducible exact trivial
    refine ⟨(j + 1, n6), ⟨by dsimp only; omega, by dsimp only; omega⟩, by dsimp only; omega, (Ent.only [t, G, n1] _ _ _).trans ?_⟩
    refine WKR ?_; try with_reducible exact trivial
    rw [htk]
    exact (Ent.of (by with_unfolding_all rfl) rfl)
   case' ex =>
    have hjN : j = k + 2 * f := by omega
    have hMe : (Oz L').take j ++ L'.drop j = Oz L' := by rw [List.take_of_length_le (by omega), List.drop_of_length_le (by omega), List.append_nil]
    rw [hMe]
    have hM : AsL k f blobN v l (Oz L') := hscr
    have hlM : (Oz L').length = k + 2 * f := by omega
    refine WK ?_; try with_reducible exact trivial
    generalize Oz L' = M at hM hlM ⊢
  all_goals
   have hokM := as_ok hs hnx h5 l hM
   have hshM := AhC hs hnx h5 l hM
   have hct : ED Tryz.prog Jk [.sl (k + 2 * f) ((Hm (k + 2 * f) l).map AO)] (iD (Vd l [] (k + 2 * f) : Nat)) := by
    have := AfL (Hm (k + 2 * f) l) (by omega)
    rwa [hgl, hcg] at this
   have hgpl : ∀ d ∈ (Hm (k + 2 * f) l).map AO, d.plain := fun d hd => by obtain ⟨y, _, rfl⟩ := List.mem_map.1 hd; trivial
   refine Jc t (NR hs M 6000 2 blobN hlM (by decide) hokM (by omega) hshM) (by omega) (by (repeat rw [Ac (by omega)]); exact Aa _ _ _) (by simp only [List.mem_cons, List.not_mem_nil, or_false, not_false_eq_true]; try omega) fun n6 g6 => ?_
   rcases Nat.lt_or_ge (Vd l [] (k + 2 * f)) k with hc | hc
   ·obtain ⟨er, her, hrep⟩ := AcB hs hnx h5 l hM hc
    rw [hrep]
    simp only [BO]
    have e9 : decide ((er : Int) = 0) = false := decide_eq_false (by omega)
    refine WK ?_; try with_reducible exact trivial
    refine Gt G (t' := .mk _) (by (repeat rw [Ac (by omega)]); exact Aa _ _ _) hgpl (by simp only [List.mem_cons, List.not_mem_nil, or_false, not_false_eq_true]; try omega) ?_
    refine WK ?_; try with_reducible exact trivial
    refine CS hct fun n7 g7 => ?_
    refine WKX @e9 ?_; try with_reducible exact trivial
    exact Eb ⟨rfl, rfl⟩
   ·rw [AfN hs hnx h5 l hM hc]
    simp only [BO]
    refine WK ?_; try with_reducible exact trivial
    refine Gt G (t' := .mk _) (by (repeat rw [Ac (by omega)]); exact Aa _ _ _) hgpl (by simp only [List.mem_cons, List.not_mem_nil, or_false, not_false_eq_true]; try omega) ?_
    refine WK ?_; try with_reducible exact trivial
    refine CS hct fun n7 g7 => ?_
    refine WK ?_; try with_reducible exact trivial
    refine CS hct fun n8 g8 => ?_
    have e10 : ((k + 2 * f - Vd l [] (k + 2 * f) : Nat) : Int) = ((k + 2 * f : Nat) : Int) - (Vd l [] (k + 2 * f) : Nat) := by omega
    have hlB : (Gq blobN (AZ k f v)).length = k + 2 * f := by rw [Ob, Ew hs]
    have hokB := AeF (most := 6000) (n := blobN) hs hnx h5 (by omega) (by omega)
    have hshB := Rw (n := blobN) hs blobN h5
    have hrB := Abg (most := 6000) (n := blobN) hs hnx h5
    have hgB : ∀ j, j < k + 2 * f → (Gq blobN (AZ k f v))[j]? = some [(bN blobN, Bi j (gt (encode k f v) j), BK k v.length + 20)] := fun j hj => Oa hs blobN v hj
    have hfl := Ew hs v
    generalize hB : Gq blobN (AZ k f v) = B at *
    refine WKX @e10 ?_; try with_reducible exact trivial
    refine CS (Uh hs v h5) fun n9 g9 => ?_
    refine WK ?_; try with_reducible exact trivial
    refine GL [13, 14, 19, 20] (fun s : Nat × Nat => ([(13, .h G), (14, .hp t 0), (19, CY (AZ k f v)), (20, iD (s.1 : Nat))], [(t, BO k f B 6000), (G, .sl (k + 2 * f) ((Hm (k + 2 * f) l).map AO))], s.2)) (fun s => s.1 ≤ k + 2 * f ∧ t < s.2) (fun s => k + 2 * f - s.1) (0, n9) ⟨by dsimp only; omega, by dsimp only; omega⟩ ((Ent.only [t, G] _ _ _).trans (by simp -dsimp (disch := omega) only [EQ, Aa, Ac, AX, Bj]; exact (Ent.of (by with_unfolding_all rfl) rfl))) ?_
    rintro ⟨j, n10⟩ ⟨q3, q4⟩
    dsimp only at q3 q4 ⊢
    simp only [BO]
    refine WK ?_; try with_reducible exact trivial
    refine brd (fun hlt => ?_) (fun hge => ?_)
    ·have hj : j < k + 2 * f := by omega
     have hbj := hgB j hj
     have hoj := hokB _ (List.mem_of_getElem? hbj)
     have hej : j < (encode k f v).length := by rw [(BP hs v).2.2]; exact hj
     have hgf : gt (AZ k f v) j = Bi j (gt (encode k f v) j) := by simp only [gt]; rw [List.getD_eq_getElem?_getD, Gl hej]; rfl
     have hwl := Ha j (gt (encode k f v) j)
     rw [(EC hs v hj).1] at hwl
     generalize Bi j (gt (encode k f v) j) = w at *
     rw [← hwl] at hbj hoj
     refine WK ?_; try with_reducible exact trivial
     refine Ll [t] (GM (by (repeat rw [Ac (by omega)]); exact Aa _ _ _)) (Vt k f B 6000 j 1 _ (by omega) hbj hoj (by omega) (i := t) (by omega)) (by simp) fun _ _ n11 g11 ⟨x1, fs1, c3, c4, hd, hp1, hro⟩ => ?_
     subst hd hro
     rw [WG hp1]
     simp only [List.cons_append, List.nil_append, BO, AB]
     refine WK ?_; try with_reducible exact trivial
     refine QL x1 (Af2 [(bN blobN, w, w.length)] 6000 (bN blobN) hoj.small (by decide) (N7 _ _ _) rfl (Nat.le_refl _)) (by omega) (by (repeat rw [Ac (by omega)]); exact Aa _ _ _) (by simp only [List.mem_cons, List.not_mem_nil, or_false, not_false_eq_true]; try omega) fun y n12 g12 g13 => ?_
     rw [List.take_length]
     simp only [AB]
     refine WK ?_; try with_reducible exact trivial
     refine Ll [t] (GM (by (repeat rw [Ac (by omega)]); exact Aa _ _ _)) (Vt k f B 6000 j 1 _ (by omega) hbj hoj (by omega) (i := t) (by omega)) (by simp) fun _ _ n13 g14 ⟨x2, fs2, c5, c6, hd, hp2, hro⟩ => ?_
     subst hd hro
     rw [WG hp2]
     simp only [List.cons_append, List.nil_append, BO, AB]
     refine WK ?_; try with_reducible exact trivial
     refine Jc x2 (read_e [(bN blobN, w, w.length)] 6000 (qN blobN) hoj.small (by decide)) (by omega) (by (repeat rw [Ac (by omega)]); exact Aa _ _ _) (by simp only [List.mem_cons, List.not_mem_nil, or_false, not_false_eq_true]; try omega) fun n14 g15 => ?_
     have hnq : Ko [(bN blobN, w, w.length)] (qN blobN) = 5 := by unfold Ko; rw [KP (XA _ _)]
     rw [hnq]
     simp only [AB]
     refine WKX @hgf ?_; try with_reducible exact trivial
     refine Gt y (t' := .mk _) (by (repeat rw [Ac (by omega)]); exact Aa _ _ _) KC (by simp only [List.mem_cons, List.not_mem_nil, or_false, not_false_eq_true]; try omega) ?_
     refine WK ?_; try with_reducible exact trivial
     refine CS (Aba w w) fun n15 g16 => ?_
     rw [decide_eq_true rfl]
     refine WK ?_; try with_reducible exact trivial
     refine ⟨(j + 1, n15), ⟨by dsimp only; omega, by dsimp only; omega⟩, by dsimp only; omega, (Ent.only [t, G] _ _ _).trans ?_⟩
     refine WKR ?_; try with_reducible exact trivial
     exact (Ent.of (by with_unfolding_all rfl) rfl)
    ·refine WK ?_; try with_reducible exact trivial
     refine Jc t (NR hs B 6000 1 blobN hlB (by decide) hokB (by omega) hshB) (by omega) (by (repeat rw [Ac (by omega)]); exact Aa _ _ _) (by simp only [List.mem_cons, List.not_mem_nil, or_false, not_false_eq_true]; try omega) fun n11 g11 => ?_
     rw [hrB]
     simp only [BO]
     refine WK ?_; try with_reducible exact trivial
     exact Eb ⟨rfl, rfl⟩
theorem Ae4 (a b : UInt8) (v : ByteArray) (hv : v.size ≤ 140737488351232) (l : { l : List CG // l.length = 7 }) (hat : ∀ x ∈ l.1, x.at_ < 65536) (first : Bool) : ED Tryz.prog IL [bD a, bD b, .sc (.string v), .agg (Va l.1), AO first] (AO true) := by
 rw [V8]
 exact Ae3 a b _ l.1 first hv l.2 hat
end Go.Proofs.YtgpkbldlkadnjaaGreat
end
section
namespace Go.Proofs.YtgpkbldlkadnjaaGreat
open Go Go.Sl
def isN (n : Bs) (f : FileS) : Bool := decide (f.1 = n)
theorem Gw (n : Bs) : ∀ fs : List FileS, DW fs n = (fs.find? (isN n)).map fun f => f.2.1
 | [] => rfl
 | g :: fs => by
  have ih := Gw n fs
  unfold DW Cf at ih ⊢
  rw [List.findIdx?_cons, List.find?_cons]
  by_cases h : g.1 = n
  ·simp [isN, h]
  ·simp only [isN, h, decide_false, Bool.false_eq_true, if_false]
   rw [← ih]
   cases fs.findIdx? (fun f => decide (f.1 = n)) <;> simp
theorem Td {n : Bs} {g : FileS} (h2 : g.1 ≠ n) : ∀ {fs : List FileS} {j : Nat} {f : FileS}, fs[j]? = some f → f.1 ≠ n → (fs.set j g).find? (isN n) = fs.find? (isN n)
 | x :: fs, 0, f, hj, h1 => by
  simp only [List.getElem?_cons_zero, Option.some.injEq] at hj
  subst hj
  rw [List.set_cons_zero, List.find?_cons, List.find?_cons, isN, isN, decide_eq_false h1, decide_eq_false h2]
 | x :: fs, j + 1, f, hj, h1 => by
  rw [List.set_cons_succ, List.find?_cons, List.find?_cons, Td h2 (by simpa using hj) h1]
 | [], _, _, hj, _ => by simp at hj
theorem Q4 {n : Bs} : ∀ {fs : List FileS} {j : Nat} {f : FileS}, fs[j]? = some f → f.1 ≠ n → (fs.eraseIdx j).find? (isN n) = fs.find? (isN n)
 | x :: fs, 0, f, hj, h1 => by
  simp only [List.getElem?_cons_zero, Option.some.injEq] at hj
  subst hj
  rw [List.eraseIdx_cons_zero, List.find?_cons, isN, decide_eq_false h1]
 | x :: fs, j + 1, f, hj, h1 => by
  rw [List.eraseIdx_cons_succ, List.find?_cons, List.find?_cons, Q4 (by simpa using hj) h1]
 | [], _, _, hj, _ => by simp at hj
theorem AbL {n : Bs} {g : FileS} (h : g.1 ≠ n) (fs : List FileS) : (fs ++ [g]).find? (isN n) = fs.find? (isN n) := by
 rw [List.find?_append, List.find?_cons, isN, decide_eq_false h]
 simp
theorem Agv {n m : Bs} (h : m ≠ n) (fs : List FileS) (most : Nat) (b : Bs) : DW (KX fs most m b) n = DW fs n := by
 rw [Gw, Gw]
 unfold KX
 split
 ·rfl
 ·split
  ·rfl
  ·cases hf : Cf fs m with
   | none => rw [AbL h]
   | some j =>
    obtain ⟨f, hj, hfe⟩ := BH hf
    dsimp only
    rw [Td h hj (by rw [hfe]; exact h)]
theorem Ae7 {n m : Bs} (h : m ≠ n) (fs : List FileS) : DW (JM fs m) n = DW fs n := by
 rw [Gw, Gw]
 unfold JM
 cases hf : Cf fs m with
 | none => rfl
 | some j =>
  obtain ⟨f, hj, hfe⟩ := BH hf
  dsimp only
  rw [Td h hj (by rw [hfe]; exact h)]
theorem Abh {n a b : Bs} (ha : a ≠ n) (hb : b ≠ n) (fs : List FileS) : DW (J9 fs a b) n = DW fs n := by
 rw [Gw, Gw]
 unfold J9
 split
 ·rfl
 ·cases hf : Cf fs a with
  | none => rfl
  | some j =>
   obtain ⟨f, hj, hfe⟩ := BH hf
   have he := Q4 (n := n) hj (by rw [hfe]; exact ha)
   dsimp only
   cases hf2 : Cf (fs.eraseIdx j) b with
   | none => dsimp only; rw [AbL hb, he]
   | some i =>
    obtain ⟨g, hi, hge⟩ := BH hf2
    dsimp only
    rw [Td hb hi (by rw [hge]; exact hb), he]
theorem WA {n m : Bs} (h : m ≠ n) (fs : List FileS) : DW (Jl fs m) n = DW fs n := by
 rw [Gw, Gw]
 unfold Jl
 cases hf : Cf fs m with
 | none => rfl
 | some j =>
  obtain ⟨f, hj, hfe⟩ := BH hf
  dsimp only
  rw [Q4 hj (by rw [hfe]; exact h)]
theorem Aid {n m : Bs} (h : m ≠ n) (ht : tN ≠ n) (fs : List FileS) (most : Nat) (b : Bs) : DW (wrF fs most m b) n = DW fs n := by
 unfold wrF
 split
 ·rw [Abh ht h, Ae7 ht, Agv ht]
 ·rfl
theorem Ae9 {n m : Bs} (h : m ≠ n) (hn : D7 n) (fs : List FileS) (most : Nat) (w : Bs) : DW (JP fs most m w) (bN n) = DW fs (bN n) := by
 have h1 : qN m ≠ bN n := fun e => XA n m e.symm
 have h2 : bN m ≠ bN n := fun e => h (b_inj e)
 have h3 : tN ≠ bN n := fun e => Ahz n hn e.symm
 unfold JP
 split
 ·rw [WA h1]
 ·rw [Aid h2 h3, WA h1]
theorem QV {n : Bs} {i : Nat} {w : Bs} (hw : Ip i w ≠ []) : ∀ (ns : List Bs) {fs : List FileS}, DW fs (bN n) = some w → DW (D5 i ns fs).1 (bN n) = some w
 | [], fs, h => h
 | s :: ns, fs, h => by
  rw [Hu]
  cases hb : NJ i fs s with
  | none => exact QV hw ns h
  | some m =>
   dsimp only
   refine QV hw ns ?_
   have hs : s ≠ bN n := fun e => by
    unfold NJ at hb
    rw [e, show PW (bN n) = some n from rfl] at hb
    dsimp only at hb
    rw [Sr, h, Option.getD_some, if_neg hw] at hb
    cases hb
   rw [Abh hs (fun e => XA n m e.symm)]
   exact h
def J8 (fs : List FileS) : Prop := ∀ f ∈ fs, f.2.1.length ≤ 1000
theorem Ae6 {fs : List FileS} (h : J8 fs) (a b : Bs) : J8 (J9 fs a b) := by
 unfold J9
 split
 ·exact h
 ·cases hf : Cf fs a with
  | none => exact h
  | some j =>
   obtain ⟨f, hj, hfe⟩ := BH hf
   have hsub := (List.eraseIdx_sublist fs j).subset
   have hfl := h f (List.mem_of_getElem? hj)
   dsimp only
   rw [getD_at hj]
   cases hf2 : Cf (fs.eraseIdx j) b with
   | none =>
    intro g hg
    rcases List.mem_append.1 hg with h1 | h1
    ·exact h g (hsub h1)
    ·rw [List.mem_singleton.1 h1]; exact hfl
   | some i =>
    intro g hg
    rcases List.mem_or_eq_of_mem_set hg with h1 | h1
    ·exact h g (hsub h1)
    ·rw [h1]; exact hfl
theorem Pm (i : Nat) : ∀ (ns : List Bs) {fs : List FileS}, J8 fs → J8 (D5 i ns fs).1
 | [], _, h => h
 | s :: ns, fs, h => by
  rw [Hu]
  cases NJ i fs s with
  | none => exact Pm i ns h
  | some m => exact Pm i ns (Ae6 h _ _)
theorem Ac4 {fs : List FileS} (h : J8 fs) {n b : Bs} (hb : DW fs n = some b) : b.length ≤ 1000 := by
 rw [Gw] at hb
 cases hf : fs.find? (isN n) with
 | none => rw [hf] at hb; cases hb
 | some f =>
  rw [hf] at hb
  cases hb
  exact h f (List.mem_of_find?_eq_some hf)
theorem wr_new {fs : List FileS} {most : Nat} {m w : Bs} (hm : Fh m = true) (ht : Cf fs tN = none) (hf : Cf fs m = none) (hu : Ff fs + w.length ≤ most) : wrE fs most m w = 0 ∧ wrF fs most m w = fs ++ [(m, w, w.length)] := by
 have e0 : NL fs most tN w = 0 := by unfold NL; rw [Lt, if_neg (by decide), if_neg (by omega)]
 have e1 : KX fs most tN w = fs ++ [(tN, w, 0)] := by unfold KX; rw [Lt, if_neg (by decide), if_neg (by omega), ht]
 have ft : ∀ k, Cf (fs ++ [(tN, w, k)]) tN = some fs.length := fun k => by
  unfold Cf at ht ⊢
  rw [List.findIdx?_append, ht]
  simp
 have gt' : ∀ k, (fs ++ [(tN, w, k)]).getD fs.length default = (tN, w, k) := fun k => by
  rw [List.getD_eq_getElem?_getD, List.getElem?_append_right (Nat.le_refl _), Nat.sub_self]; rfl
 have e2 : JM (fs ++ [(tN, w, 0)]) tN = fs ++ [(tN, w, w.length)] := by
  unfold JM
  rw [ft]
  dsimp only
  rw [gt', List.set_append_right _ _ (Nat.le_refl _), Nat.sub_self]
  rfl
 have hnn : ¬ (Fh tN = false ∨ Fh m = false) := by rw [Lt, hm]; decide
 have e3 : TT (fs ++ [(tN, w, w.length)]) tN m = 0 := by unfold TT Ko; rw [if_neg hnn, ft]
 have e4 : J9 (fs ++ [(tN, w, w.length)]) tN m = fs ++ [(m, w, w.length)] := by
  unfold J9
  rw [if_neg hnn, ft]
  dsimp only
  have : (fs ++ [(tN, w, w.length)]).eraseIdx fs.length = fs := by rw [List.eraseIdx_append_of_length_le (Nat.le_refl _), Nat.sub_self]; simp
  rw [this, hf, gt']
 unfold wrE wrF
 rw [e0, if_pos rfl, if_pos rfl, e1, e2]
 exact ⟨e3, e4⟩
theorem Agu {fs : List FileS} {m w : Bs} {k : Nat} (h : Cf fs m = none) : DW (fs ++ [(m, w, k)]) m = some w := by
 have e : Cf (fs ++ [(m, w, k)]) m = some fs.length := by
  unfold Cf at h ⊢
  rw [List.findIdx?_append, h]
  simp
 unfold DW
 rw [e]
 simp
theorem UC {F : List FileS → Bs → List FileS} {G : List FileS → Bs → Nat × Nat} : ∀ (l : List (List FileS)) (ws : LL), l.length = ws.length → (∀ (j : Nat) (fs : List FileS) (w : Bs), l[j]? = some fs → ws[j]? = some w → G fs w = (0, 0)) → Ic F G l ws = (List.zipWith F l ws, 0, 0)
 | [], [], _, _ => rfl
 | fs :: l, w :: ws, hl, h => by
  have h0 := h 0 fs w rfl rfl
  rw [Ic, h0, if_pos rfl, UC l ws (by simpa using hl) fun j a b x y => h (j + 1) a b (by simpa using x) (by simpa using y)]
  rfl
 | [], _ :: _, h, _ => by simp at h
 | _ :: _, [], h, _ => by simp at h
theorem YS {F : List FileS → Bs → List FileS} {G : List FileS → Bs → Nat × Nat} : ∀ (l : List (List FileS)) (ws : LL) {j : Nat} {x : List FileS}, (Ic F G l ws).1[j]? = some x → ∃ fs, l[j]? = some fs ∧ (x = fs ∨ ∃ w, x = F fs w)
 | [], ws, j, x, h => by simp [Ic] at h
 | fs :: l, [], j, x, h => ⟨x, by simpa [Ic] using h, .inl rfl⟩
 | fs :: l, w :: ws, j, x, h => by
  rw [Ic] at h
  split at h
  ·cases j with
   | zero => exact ⟨fs, rfl, .inr ⟨w, by simpa using h.symm⟩⟩
   | succ j =>
    obtain ⟨g, h1, h2⟩ := YS l ws (by simpa using h)
    exact ⟨g, by simpa using h1, h2⟩
  ·cases j with
   | zero => exact ⟨fs, rfl, .inr ⟨w, by simpa using h.symm⟩⟩
   | succ j => exact ⟨x, by simpa using h, .inl rfl⟩
theorem Ae8 {fs fs' : List FileS} (hp : fs'.Perm fs) (hn : (EF fs).Nodup) {n b : Bs} (h : DW fs n = some b) : ∃ j f, Cf fs' n = some j ∧ fs'[j]? = some f ∧ f.2.1 = b := by
 have hn' : (EF fs').Nodup := ((hp.map (fun f : FileS => f.1)).nodup_iff).2 hn
 rw [Gw] at h
 cases hf : fs.find? (isN n) with
 | none => rw [hf] at h; cases h
 | some f =>
  rw [hf] at h
  cases h
  have hfn : f.1 = n := by simpa [isN] using List.find?_some hf
  obtain ⟨j, h1, h2⟩ := Ug hn' (hp.mem_iff.2 (List.mem_of_find?_eq_some hf))
  rw [hfn] at h1
  exact ⟨j, f, h1, h2, rfl⟩
end Go.Proofs.YtgpkbldlkadnjaaGreat
end
section
set_option maxHeartbeats 3000000
attribute [local irreducible] Go.Sl.Chk Go.Sl.Br Go.Sl.Or2 Go.Sl.Ld Go.Sl.Ldn Go.Sl.LdB Go.Sl.Stn Go.Sl.New Go.Sl.Run Go.Sl.Ec Go.Sl.D9 Go.Sl.Call Go.Sl.Cc Go.Sl.Ed Go.Sl.Alt Go.Sl.Om Go.Sl.xpk Go.Sl.EX Go.Sl.EY Go.Sl.DLd Go.Sl.ES Go.Sl.DBs Go.Sl.Bo Go.Sl.Et Go.Sl.Es Go.Sl.Dk Go.Sl.DGC Go.Sl.Dq Go.Sl.Fj Go.Sl.D8 Go.Sl.Ent Go.Sl.Bg Go.Sl.dv Go.Sl.ev Go.Sl.Am
namespace Go.Proofs.YtgpkbldlkadnjaaGreat
open Go Go.Sl Go.RowKit
def blN : Bs := [98, 108]
theorem Qy : D7 blN := ⟨by decide, by decide⟩
theorem bl_ne : blobN ≠ blN := by decide
structure Ap (k f : Nat) (w : Bs) (q j : Nat) (fs : List FileS) : Prop where
 ok : DOk fs 6000 q
 read : DW fs (bN blN) = some (Bi j (gt (encode k f w) j))
section
variable {k f : Nat} (hs : CO k f) {v w : Bs} (hv : v.length ≤ 512) (hw : w.length ≤ 512) (l : List CG)
include hs hw
theorem Tf {j : Nat} (hj : j < k + 2 * f) : (Bi j (gt (encode k f w) j)).length ≤ 600 := by
 have hr := (EC hs w hj).1
 have := DJ w.length hs.k
 rw [Ha]; omega
theorem YG {j : Nat} (hj : j < k + 2 * f) : Ip j (Bi j (gt (encode k f w) j)) = gt (encode k f w) j := by
 have hn7 := hs.n
 have hr := (EC hs w hj).1
 have := DJ w.length hs.k
 exact NV (by omega) _ (by omega)
include hv
theorem ap_wr {j : Nat} (hj : j < k + 2 * f) {fs : List FileS} (h : Ie (bN blobN) j (gt (encode k f v) j) (gt l j) fs) :
  wrE fs 6000 (bN blN) (Bi j (gt (encode k f w) j)) = 0 ∧ Ap k f w 4 j (wrF fs 6000 (bN blN) (Bi j (gt (encode k f w) j))) ∧ J8 (wrF fs 6000 (bN blN) (Bi j (gt (encode k f w) j))) := by
 have hl1 := Tf hs hw hj
 have hl2 := Tf (w := v) hs hv hj
 have hr := (EC hs v hj).1
 have := DJ v.length hs.k
 have ho := h.ok P9 (most := 6000) (by omega) (by omega)
 have hsh : J8 fs := fun g hg => by
  cases h with
  | good h h4 => rw [List.mem_singleton.1 hg]; dsimp only; omega
  | away h h4 => simp at hg
  | bad h h4 x sy hgd hl hsy => rw [List.mem_singleton.1 hg]; dsimp only; omega
 have hf : Cf fs tN = none ∧ Cf fs (bN blN) = none ∧ Ff fs ≤ 700 := by
  cases h with
  | good h h4 => exact ⟨KP (by decide) _ _, KP (by decide) _ _, by rw [VV]; omega⟩
  | away h h4 => exact ⟨rfl, rfl, by simp [Ff]⟩
  | bad h h4 x sy hgd hl hsy => exact ⟨KP (by decide) _ _, KP (by decide) _ _, by rw [VV]; omega⟩
 obtain ⟨h1, h2⟩ := wr_new (m := bN blN) (w := Bi j (gt (encode k f w) j)) (most := 6000) (SQ Qy) hf.1 hf.2.1 (by omega)
 have hwo := wr_ok ho (by decide) (bN blN) (Bi j (gt (encode k f w) j))
 rw [h2] at hwo ⊢
 refine ⟨h1, ⟨hwo, Agu hf.2.1⟩, fun g hg => ?_⟩
 rcases List.mem_append.1 hg with h3 | h3
 ·exact hsh g h3
 ·rw [List.mem_singleton.1 h3]; dsimp only; omega
theorem ap_put : ∃ P, WC k f 6000 blN w (EM blobN k f v l) = (P, 0) ∧ P.length = k + 2 * f ∧ ∀ (j : Nat) (fs : List FileS), P[j]? = some fs → Ap k f w 4 j fs ∧ J8 fs := by
 have hlen : (EM blobN k f v l).length = (AZ k f w).length := by rw [Hr hs, Ew hs]
 have key : ∀ (j : Nat) (fs : List FileS) (x : Bs), (EM blobN k f v l)[j]? = some fs → (AZ k f w)[j]? = some x → j < k + 2 * f ∧ x = Bi j (gt (encode k f w) j) ∧ Ie (bN blobN) j (gt (encode k f v) j) (gt l j) fs := fun j fs x h1 h2 => by
  have hj : j < k + 2 * f := by have := (List.getElem?_eq_some_iff.1 h1).1; rwa [Hr hs] at this
  rw [LQ hs l hj] at h1
  rw [Gl (by rw [(BP hs w).2.2]; exact hj)] at h2
  cases h1; cases h2
  exact ⟨hj, rfl, Hg hs hv l hj⟩
 have hall := UC (F := fun fs x => wrF fs 6000 (bN blN) x) (G := fun fs x => (0, wrE fs 6000 (bN blN) x)) (EM blobN k f v l) (AZ k f w) hlen fun j fs x h1 h2 => by
  obtain ⟨hj, rfl, hst⟩ := key j fs x h1 h2
  rw [(ap_wr hs hv hw l hj hst).1]
 refine ⟨_, by rw [WC, if_pos Qy, if_pos hw, show KO 6000 (bN blN) (EM blobN k f v l) (AZ k f w) = _ from hall], by rw [List.length_zipWith, ← hlen, Nat.min_self, Hr hs], fun j fs h => ?_⟩
 rw [List.getElem?_zipWith] at h
 cases h1 : (EM blobN k f v l)[j]? with
 | none => rw [h1] at h; cases h
 | some fs0 =>
  cases h2 : (AZ k f w)[j]? with
  | none => rw [h1, h2] at h; cases h
  | some x =>
   rw [h1, h2] at h
   obtain ⟨hj, rfl, hst⟩ := key j fs0 x h1 h2
   obtain ⟨_, a, b⟩ := ap_wr hs hv hw l hj hst
   rw [← Option.some.inj h]
   exact ⟨a, b⟩
omit hv
theorem AhF {j : Nat} (hj : j < k + 2 * f) {fs : List FileS} (h : Ap k f w 4 j fs) : Ap k f w 8 j (D5 j (Eu fs) fs).1 := by
 refine ⟨(RY (by decide) j (Eu fs) h.ok).mono ?_, QV ?_ _ h.read⟩
 ·have := h.ok.len
  rw [OE]; omega
 ·rw [YG hs hw hj]; exact (EC hs w hj).2
omit hs hw in
theorem AfP {C : List (List FileS)} (hl : C.length = k + 2 * f) (h : ∀ (j : Nat) (fs : List FileS), C[j]? = some fs → Ap k f w 8 j fs) : (Pq k f 6000 blobN C).1.length = k + 2 * f ∧ ∀ (j : Nat) (fs : List FileS), (Pq k f 6000 blobN C).1[j]? = some fs → Ap k f w 12 j fs := by
 unfold Pq
 split
 ·refine ⟨by dsimp only; rw [IE, YR]; exact hl, fun j fs hj => ?_⟩
  obtain ⟨fs0, h0, h1⟩ := YS _ _ hj
  have ha := h j fs0 h0
  rcases h1 with rfl | ⟨x, rfl⟩
  ·exact ⟨ha.ok.mono (by omega), ha.read⟩
  ·exact ⟨Ais ha.ok (by decide) blobN x, by rw [Ae9 bl_ne Qy]; exact ha.read⟩
 ·exact ⟨hl, fun j fs hj => ⟨(h j fs hj).ok.mono (by omega), (h j fs hj).read⟩⟩
theorem AhE {C : List (List FileS)} (hl : C.length = k + 2 * f) {q : Nat} (h : ∀ (j : Nat) (fs : List FileS), C[j]? = some fs → Ap k f w q j fs) : Qb blN C := fun fs hfs b hb => by
 obtain ⟨j, hj, rfl⟩ := List.mem_iff_getElem.1 hfs
 have := (h j _ (List.getElem?_eq_getElem hj)).read
 rw [this] at hb
 cases hb
 have := Tf hs hw (j := j) (by rwa [hl] at hj)
 omega
theorem AhG {C : List (List FileS)} (hl : C.length = k + 2 * f) {q : Nat} (h : ∀ (j : Nat) (fs : List FileS), C[j]? = some fs → Ap k f w q j fs) : LC k f blN [] C = (w, 0) := by
 have hk := hs.k
 have hsh : ∀ (j : Nat) (fs : List FileS), C[j]? = some fs → sh1 blN [] j fs = gt (encode k f w) j := fun j fs hj => by
  have hjl : j < k + 2 * f := by have := (List.getElem?_eq_some_iff.1 hj).1; rwa [hl] at this
  unfold sh1
  rw [(h j fs hj).read]
  dsimp only
  rw [if_neg (by simp), YG hs hw hjl]
 refine Ado hs Qy hw hl ?_ (fun j fs hj => .inr (hsh j fs hj)) ?_
 ·have h0 : C[0]? = some C[0] := List.getElem?_eq_getElem (by omega)
  unfold UA
  rw [List.any_eq_true]
  exact ⟨_, List.mem_of_getElem? h0, by rw [(h 0 _ h0).read]; rfl⟩
 ·have hl2 : (EG blN [] C).length = k + 2 * f := by rw [EP, hl]
  rw [QR (p := fun _ => true), hl2]
  ·rw [List.filter_eq_self.2 (by simp), List.length_range]; omega
  ·intro i hi
   rw [hl2] at hi
   have hiC : i < C.length := by rw [hl]; exact hi
   have hm : C[i]? = some C[i] := List.getElem?_eq_getElem hiC
   rw [List.getD_eq_getElem?_getD, GX blN [] hm, Option.getD_some, hsh i _ hm]
   exact decide_eq_true (List.length_pos_iff.2 (EC hs w hi).2)
theorem AcC {C : List (List FileS)} (hl : C.length = k + 2 * f) {q : Nat} (h : ∀ (j : Nat) (fs : List FileS), C[j]? = some fs → Ap k f w q j fs) : (Pq k f 6000 blN C).2 = (0, 0) := by
 have hall := UC (F := fun fs x => JP fs 6000 blN x) (G := fun fs x => JQ fs 6000 blN x) C (AZ k f w) (by rw [hl, Ew hs]) fun j fs x h1 h2 => by
  have hj : j < k + 2 * f := by have := (List.getElem?_eq_some_iff.1 h1).1; rwa [hl] at this
  rw [Gl (by rw [(BP hs w).2.2]; exact hj)] at h2
  cases h2
  have hr := (h j fs h1).read
  unfold JQ
  rw [WA (fun e => XA blN blN e.symm), hr, if_pos rfl]
 rw [Pq, AhG hs hw hl h, if_pos rfl]
 dsimp only
 rw [show IE 6000 blN C (AZ k f w) = _ from hall, if_pos rfl]
end
set_option maxRecDepth 100000 in
theorem AiM (a b : UInt8) (v w : Bs) (l : List CG) (hvl : v.length ≤ 140737488351232) (hwl : w.length ≤ 140737488351232) (hl : l.length = 7) (hat : ∀ x ∈ l, x.at_ < 65536) : ED Tryz.prog Jz [bD a, bD b, BC v, BC w, .agg (Va l)] (AO true) := by
 have e := Y3 v
 have ew := Y3 w
 have hsl := RU l
 intro nx
 refine A8 Rk (by simp only [m_law25_ScrubApart, List.length]; decide) ?_
 simp only [m_law25_ScrubApart]; refine WK ?_; try with_reducible exact trivial
 refine CS (Abc a b) fun n1 g1 => ?_
 have hs : CO (kOf a b) (fOf b) := Wp a b
 have hn7 := hs.n
 have hk1 := hs.k
 generalize kOf a b = k at *
 generalize fOf b = f at *
 simp only [shD]
 refine WK ?_; try with_reducible exact trivial
 refine CS Oc fun n2 g2 => ?_
 rcases Decidable.em (v.length ≤ 512 ∧ w.length ≤ 512) with h5 | h5
 ·obtain ⟨h5, h6⟩ := h5
  have hnx := P9
  have hle := Hr hs (n := blobN) (v := v) l
  have hok := Wn hs hnx h5 l
  have h1 := TP hs h5 (n := blobN) l
  obtain ⟨P, hput, hPl, hP⟩ := ap_put hs h5 h6 l
  simp -dsimp (disch := omega) only [↓MC.xwp, ↓Ce, ↓xdr, ↓MOp.xwp, dvs, dv, dvu, dvo, dvp, dgb, dGd, DX, cond_true, cond_false, Gf, Bg, CQ, Dp, DD, Du, ptr, bsc, cv, uo, uof, Bq, xpr, DL, EL, FM, FB, Gi, FT, Gj, xst, xgp, glc, F8, DV, FY, FZ, FW, FX, DU, FV, FN, FU, DN, DR, Cj, Dw, Fv, dsl, dif, BV, CP, BI, scs, rowOf, AU, dtk, DC, BJ, pev, Bl, Bv, Aq, Bz, psl, Ba, ↓DI, ↓CB, ↓FP, ↓Fq, Dz, FD, FC, Dj, BG, kp, Di, Dv, E9, Dt, FI, CZ, AQ, BB, nb, Fe, Cb, Bd, apart, Aj, Bc, heldOk, Op.operands, Nat.reduceAdd, forall_eq_or_imp, D.plain, reduceCtorEq, if_true, if_false, ↓reduceIte, ne_eq, Bool.cond_true, Bool.cond_false, forall_const, implies_true, forall_eq, Int.reduceEq, Int.reduceLT, Int.reduceLE, Int.reduceAdd, Int.reduceSub, Int.reduceMul, Int.reduceToNat, Nat.reduceMul, Nat.reduceLeDiff, Nat.reduceLT, Nat.reduceSub, Nat.reduceBEq, Nat.reduceEqDiff, CY, bytesD, iD, CU, AO, BC, bD, DB, e, ew, hsl, hl, Y5 hl]
  refine chk (Yl l) ?_
  refine WK ?_; try with_reducible exact trivial
  rw [Y5 hl]
  refine ZR (AaW hs hnx h5 hl hat) fun _ _ n3 g3 ⟨A, G, a1, a2, a3, a4, a5, hd, hro⟩ => ?_
  subst hd hro
  generalize hL : EM blobN k f v l = L at *
  simp only [List.cons_append, List.nil_append, Hf]
  refine WK ?_; try with_reducible exact trivial
  refine Ll [A] (GM (Aa _ _ _)) (AcT hs L 6000 1 hle hok (by omega) (a := A) (by omega)) (by simp) fun _ _ n4 g4 ⟨t, L', t1, t2, hd, hlk, hro⟩ => ?_
  have hl' := Abw hlk h1
  subst hl' hd hro
  simp only [List.cons_append, List.nil_append, BO]
  refine WK ?_; try with_reducible exact trivial
  refine Jc t (Af8 hs L' 6000 1 blN w hle (by decide) (by omega) hok (by omega)) (by omega) (by (repeat rw [Ac (by omega)]); exact Aa _ _ _) (by simp only [List.mem_cons, List.not_mem_nil, or_false, not_false_eq_true]; try omega) fun n5 g5 => ?_
  rw [hput]
  simp only [BO]
  refine WK ?_; try with_reducible exact trivial
  refine GL [3, 11, 13, 14, 16] (fun s : List (List FileS) × Nat × Nat => ([(3, BC w), (11, .hp n1 0), (13, .h G), (14, .hp t 0), (16, iD (s.2.1 : Nat))], [(t, BO k f s.1 6000), (G, .row RN 1 (k + 2 * f) ((Hm (k + 2 * f) l).map AO)), (n1, .box Dl [iD k, iD f])], s.2.2)) (fun s => s.1.length = k + 2 * f ∧ s.2.1 ≤ k + 2 * f ∧ t < s.2.2 ∧ (∀ (i : Nat) (fs : List FileS), s.1[i]? = some fs → Ap k f w 8 i fs ∧ J8 fs) ∧ (∀ (i : Nat) (fs : List FileS), s.2.1 ≤ i → s.1[i]? = some fs → Ap k f w 4 i fs)) (fun s => k + 2 * f - s.2.1) (P, 0, n5) ⟨hPl, by dsimp only; omega, by dsimp only; omega, fun i fs h => ⟨⟨(hP i fs h).1.ok.mono (by omega), (hP i fs h).1.read⟩, (hP i fs h).2⟩, fun i fs _ h => (hP i fs h).1⟩ ((Ent.only [t, G, n1] _ _ _).trans (by simp -dsimp (disch := omega) only [EQ, Aa, Ac, AX, Bj]; exact (Ent.of (by with_unfolding_all rfl) rfl))) ?_
  rintro ⟨C, j, n6⟩ ⟨q1, q2, q3, q4, q5⟩
  dsimp only at q1 q2 q3 q4 q5 ⊢
  simp only [BO]
  refine WK ?_; try with_reducible exact trivial
  refine brd (fun hlt => ?_) (fun hge => ?_)
  ·have hj : j < k + 2 * f := by omega
   have hfs : C[j]? = some C[j] := List.getElem?_eq_getElem (by omega)
   have hap := q5 j C[j] (Nat.le_refl _) hfs
   have hsc := AhF hs h6 hj hap
   have hss := Pm j (Eu C[j]) (q4 j _ hfs).2
   generalize C[j] = fs at *
   refine WK ?_; try with_reducible exact trivial
   refine QL t (Wj k f C 6000 4 j fs (by omega) hfs hap.ok (by omega) (by omega)) (by omega) (by (repeat rw [Ac (by omega)]); exact Aa _ _ _) (by simp only [List.mem_cons, List.not_mem_nil, or_false, not_false_eq_true]; try omega) fun c1 n7 g6 g7 => ?_
   simp only [BO]
   refine WK ?_; try with_reducible exact trivial
   refine ⟨(C.set j (D5 j (Eu fs) fs).1, j + 1, n7), ⟨by dsimp only; rw [List.length_set]; exact q1, by dsimp only; omega, by dsimp only; omega, fun i gs h => ?_, fun i gs hi h => ?_⟩, by dsimp only; omega, (Ent.only [t, G, n1] _ _ _).trans ?_⟩
   ·dsimp only at h
    by_cases hij : i = j
    ·subst hij
     rw [List.getElem?_set_self (by omega)] at h
     cases h
     exact ⟨hsc, hss⟩
    ·rw [List.getElem?_set_ne (fun e => hij e.symm)] at h
     exact q4 i gs h
   ·dsimp only at h hi
    rw [List.getElem?_set_ne (by omega)] at h
    exact q5 i gs (by omega) h
   ·refine WKR ?_; try with_reducible exact trivial
    exact (Ent.of (by with_unfolding_all rfl) rfl)
  ·refine WK ?_; try with_reducible exact trivial
   have hshC : Qb blobN C := fun fs hfs b hb => by
    obtain ⟨i, hi, rfl⟩ := List.mem_iff_getElem.1 hfs
    exact Ac4 (q4 i _ (List.getElem?_eq_getElem hi)).2 hb
   have hokC : ∀ fs ∈ C, DOk fs 6000 8 := fun fs hfs => by
    obtain ⟨i, hi, rfl⟩ := List.mem_iff_getElem.1 hfs
    exact (q4 i _ (List.getElem?_eq_getElem hi)).1.ok
   refine Jc t (NR hs C 6000 8 blobN q1 (by decide) hokC (by omega) hshC) (by omega) (by (repeat rw [Ac (by omega)]); exact Aa _ _ _) (by simp only [List.mem_cons, List.not_mem_nil, or_false, not_false_eq_true]; try omega) fun n7 g6 => ?_
   obtain ⟨hlB, hB⟩ := AfP q1 fun i fs h => (q4 i fs h).1
   generalize (Pq k f 6000 blobN C).1 = B at *
   have hokB : ∀ fs ∈ B, DOk fs 6000 12 := fun fs hfs => by
    obtain ⟨i, hi, rfl⟩ := List.mem_iff_getElem.1 hfs
    exact (hB i _ (List.getElem?_eq_getElem hi)).ok
   have hshB := AhE hs h6 hlB hB
   have hgB := AhG hs h6 hlB hB
   have hrB := AcC hs h6 hlB hB
   have hfl := Ew hs w
   simp only [BO]
   refine WK ?_; try with_reducible exact trivial
   refine CS (Uh hs w h6) fun n8 g7 => ?_
   refine WK ?_; try with_reducible exact trivial
   refine GL [3, 13, 14, 17, 18] (fun s : Nat × Nat => ([(3, BC w), (13, .h G), (14, .hp t 0), (17, CY (AZ k f w)), (18, iD (s.1 : Nat))], [(t, BO k f B 6000), (G, .row RN 1 (k + 2 * f) ((Hm (k + 2 * f) l).map AO))], s.2)) (fun s => s.1 ≤ k + 2 * f ∧ t < s.2) (fun s => k + 2 * f - s.1) (0, n8) ⟨by dsimp only; omega, by dsimp only; omega⟩ ((Ent.only [t, G] _ _ _).trans (by simp -dsimp (disch := omega) only [EQ, Aa, Ac, AX, Bj]; exact (Ent.of (by with_unfolding_all rfl) rfl))) ?_
   rintro ⟨i, n10⟩ ⟨q6, q7⟩
   dsimp only at q6 q7 ⊢
   simp only [BO]
   refine WK ?_; try with_reducible exact trivial
   refine brd (fun hlt2 => ?_) (fun hge2 => ?_)
   ·have hj : i < k + 2 * f := by omega
    have hbj : B[i]? = some B[i] := List.getElem?_eq_getElem (by omega)
    have hap := hB i _ hbj
    have hej : i < (encode k f w).length := by rw [(BP hs w).2.2]; exact hj
    have hgf : gt (AZ k f w) i = Bi i (gt (encode k f w) i) := by simp only [gt]; rw [List.getD_eq_getElem?_getD, Gl hej]; rfl
    have hfl6 := Tf hs h6 hj
    have hrd := hap.read
    generalize Bi i (gt (encode k f w) i) = x at *
    generalize B[i] = fs at *
    refine WK ?_; try with_reducible exact trivial
    refine Ll [t] (GM (by (repeat rw [Ac (by omega)]); exact Aa _ _ _)) (Vt k f B 6000 i 12 _ (by omega) hbj hap.ok (by omega) (i := t) (by omega)) (by simp) fun _ _ n11 g11 ⟨x1, fs1, c3, c4, hd, hp1, hro⟩ => ?_
    subst hd hro
    obtain ⟨jj, ff, f1, f2, f3⟩ := Ae8 hp1 hap.ok.nodup hrd
    have hok1 := hap.ok.perm hp1
    simp only [List.cons_append, List.nil_append, BO, AB]
    refine WK ?_; try with_reducible exact trivial
    refine QL x1 (TU fs1 6000 (bN blN) hok1.small (by decide) f1 f2) (by omega) (by (repeat rw [Ac (by omega)]); exact Aa _ _ _) (by simp only [List.mem_cons, List.not_mem_nil, or_false, not_false_eq_true]; try omega) fun y n12 g12 g13 => ?_
    rw [f3]
    simp only [AB]
    refine WKX @hgf ?_; try with_reducible exact trivial
    refine Gt y (t' := .mk _) (by (repeat rw [Ac (by omega)]); exact Aa _ _ _) KC (by simp only [List.mem_cons, List.not_mem_nil, or_false, not_false_eq_true]; try omega) ?_
    refine WK ?_; try with_reducible exact trivial
    refine CS (Aba x x) fun n15 g16 => ?_
    rw [decide_eq_true rfl]
    refine WK ?_; try with_reducible exact trivial
    refine ⟨(i + 1, n15), ⟨by dsimp only; omega, by dsimp only; omega⟩, by dsimp only; omega, (Ent.only [t, G] _ _ _).trans ?_⟩
    refine WKR ?_; try with_reducible exact trivial
    exact (Ent.of (by with_unfolding_all rfl) rfl)
   ·refine WK ?_; try with_reducible exact trivial
    refine OQ (t' := .mk _) ?_
    simp only [List.map_cons, List.map_nil, SL]
    refine Jc t (Y9 hs B 6000 12 blN [] (by omega) (by decide) (by decide) hokB (by omega) hshB) (by omega) (by (repeat rw [Ac (by omega)]); exact Aa _ _ _) (by simp only [List.mem_cons, List.not_mem_nil, or_false, not_false_eq_true]; try omega) fun n11 g11 => ?_
    rw [hgB]
    simp only [BO, AdD]
    refine WK ?_; try with_reducible exact trivial
    refine Jc t (NR hs B 6000 12 blN hlB (by decide) hokB (by omega) hshB) (by omega) (by (repeat rw [Ac (by omega)]); exact Aa _ _ _) (by simp only [List.mem_cons, List.not_mem_nil, or_false, not_false_eq_true]; try omega) fun n12 g12 => ?_
    rw [hrB]
    simp only [BO]
    refine WK ?_; try with_reducible exact trivial
    exact Eb ⟨rfl, rfl⟩
 ·rcases Nat.lt_or_ge 512 v.length with h6 | h6
  ·refine WKX @e ?_; try with_reducible exact trivial
   repeat ((first | refine Io (AO true) ?_ | refine NG ?_); refine WK ?_; try with_reducible exact trivial)
   refine CS Oc fun n3 g3 => ?_
   refine WK ?_; try with_reducible exact trivial
   exact Eb ⟨rfl, rfl⟩
  ·have h7 : 512 < w.length := by omega
   refine WKX (And.intro @e @ew) ?_; try with_reducible exact trivial
   refine CS Oc fun n3 g3 => ?_
   refine WK ?_; try with_reducible exact trivial
   exact Eb ⟨rfl, rfl⟩
theorem AiN (a b : UInt8) (v : ByteArray) (hv : v.size ≤ 140737488351232) (w : ByteArray) (hw : w.size ≤ 140737488351232) (l : { l : List CG // l.length = 7 }) (hat : ∀ x ∈ l.1, x.at_ < 65536) : ED Tryz.prog Jz [bD a, bD b, .sc (.string v), .sc (.string w), .agg (Va l.1)] (AO true) := by
 rw [V8, V8]
 exact AiM a b _ _ l.1 hv hw l.2 hat
end Go.Proofs.YtgpkbldlkadnjaaGreat
end
set_option linter.unusedVariables false
namespace Go.Proofs.YtgpkbldlkadnjaaGreat.scrubApart
open Go Go.Sl Go.ChangeShapes Go.WideShapes Go.ChangeAt Go.RowKit
open Go.ChangeMaps (open_string shut_string)
theorem laidOut : laidOutB Tryz.prog = true := Vj
set_option maxRecDepth 100000 in
theorem lifted (os : Os) (started : os.Started) (H : Type) (enc : TypeId × Value → H) :
  ReturnsInHanded {} Tryz.checked os 9 .any (Rows.scrubApartSpec.pre6 enc Tryz.prog Tryz.f9 Rows.scrubApartRow.domain false) (Rows.scrubApartSpec.post enc Tryz.prog Tryz.f9 false true false false) := by
 refine returnsInHanded_of_change_sized (C := Tryz.checked) AfR started (by kernel_rfl) Tryz.func9
  (ChangeSpec.witness6 (enc := enc) (C := Tryz.checked) false ⟨#[], #[.int .u8 0, .int .u8 0, .string ByteArray.empty, .string ByteArray.empty, .agg #[.int .u8 0, .int .u16 0, .int .u8 0, .int .u8 0, .int .u16 0, .int .u8 0, .int .u8 0, .int .u16 0, .int .u8 0, .int .u8 0, .int .u16 0, .int .u8 0, .int .u8 0, .int .u16 0, .int .u8 0, .int .u8 0, .int .u16 0, .int .u8 0, .int .u8 0, .int .u16 0, .int .u8 0]], []⟩ 8 (by kernel_rfl) (by kernel_rfl) (by kernel_rfl) (by kernel_rfl)) ?_
 intro W base args ds gs before hval0 hW hcnd hsz0 _
 have hsz : (DataW.weightsEach Tryz.prog (Tryz.f9.params.toList ++ Rows.scrubApartSpec.plain.varTypes Tryz.prog) (ds ++ gs)).all (· ≤ reachBytes) = true := hsz0
 have hval : ∀ (j : Nat) t v, Tryz.f9.params[j]? = some t → args[j]? = some v → Value.okWide Tryz.prog W .any base t v := hval0
 have hW' := hW
 obtain ⟨p, q, hA0, hV, rfl, hfz, hnd⟩ := hW
 have hA : DataW.TrodAll enc Tryz.prog W 0 (fun _ => true) true Tryz.f9.params.toList args.toList ds p := hA0
 rw [Tryz.params9] at hA hval hsz
 obtain ⟨v0, vs0, d0, ds0, p0, q0, hargs, rfl, rfl, h0, r0⟩ := trodAll_cons hA
 obtain ⟨v1, vs1, d1, ds1, p1, q1, rfl, rfl, rfl, h1, r1⟩ := trodAll_cons r0
 obtain ⟨v2, vs2, d2, ds2, p2, q2, rfl, rfl, rfl, h2, r2⟩ := trodAll_cons r1
 obtain ⟨v3, vs3, d3, ds3, p3, q3, rfl, rfl, rfl, h3, r3⟩ := trodAll_cons r2
 obtain ⟨v4, vs4, d4, ds4, p4, q4, rfl, rfl, rfl, h4, r4⟩ := trodAll_cons r3
 obtain ⟨rfl, rfl, rfl⟩ := trodAll_nil r4
 obtain rfl : args = #[v0, v1, v2, v3, v4] := by cases args; simp_all
 obtain ⟨rfl, rfl⟩ := trodVars_none hV
 obtain ⟨a0, rfl, rfl, rfl, w0⟩ := open_int Tryz.underlying5 (hval 0 5 v0 rfl rfl) h0
 obtain ⟨a1, rfl, rfl, rfl, w1⟩ := open_int Tryz.underlying5 (hval 1 5 v1 rfl rfl) h1
 obtain ⟨a2, rfl, rfl, rfl, y2⟩ := open_string Tryz.underlying9 (hval 2 9 v2 rfl rfl) h2
 have w2 : a2.size ≤ 140737488351232 := by
  have z := sized_string hsz (j := 2) (t := 9) rfl rfl
  rw [Array.length_toList] at z
  exact z
 obtain ⟨a3, rfl, rfl, rfl, y3⟩ := open_string Tryz.underlying9 (hval 3 9 v3 rfl rfl) h3
 have w3 : a3.size ≤ 140737488351232 := by
  have z := sized_string hsz (j := 3) (t := 9) rfl rfl
  rw [Array.length_toList] at z
  exact z
 have k4 := h4
 have lt4 : ∀ x ∈ p4, x.block < W.heap.size := by obtain ⟨m, hm⟩ := k4; exact DataW.trod_lt m _ _ _ hm
 obtain ⟨m4, rs4, hb4⟩ := Yu.array Tryz.underlying83 (hval 4 83 v4 rfl rfl) h4 (Aa5 hsz (j := 4) rfl rfl)
 clear hA0 hval0 hsz0 hsz
 refine (QO (AiN (UInt8.ofNat a0.toNat) (UInt8.ofNat a1.toNat) a2 w2 a3 w3 m4 hb4) (Jf (by rw [VZ w0]; exact UK _) (Jf (by rw [VZ w1]; exact UK _) (Jf (UK _) (Jf (UK _) (Jf rs4 Aec)))))).mono fun e W' ⟨he, bel⟩ => ?_
 subst he
 exact ⟨_, rfl, _, _, _, [], _, [], hW', trodAll_mk1 (shut_bool Tryz.underlying4 _), (trodAll_cons_mk (shut_int Tryz.underlying5 w0) (trodAll_cons_mk (shut_int Tryz.underlying5 w1) (trodAll_cons_mk (shut_string Tryz.underlying9 y2) (trodAll_cons_mk (shut_string Tryz.underlying9 y3) (trodAll_cons_mk (Below.trod laidOut (by kernel_rfl) (of_decide_eq_true (by kernel_rfl)) k4 bel lt4) trodAll_mk0))))), rfl, bel.frame _, fun h => by cases h⟩
theorem inP : Tryz.prog.inPlace 9 = [] := by kernel_rfl
theorem unf : Tryz.prog.unfollowed 9 = true := by kernel_rfl
theorem rec : Tryz.prog.recurses 9 = true := by kernel_rfl
theorem nam : Tryz.prog.varsNamed 9 = [] := by kernel_rfl
theorem fnm : Tryz.prog.funcNamed Rows.scrubApartRow.func = some 9 := by kernel_rfl
theorem facts : joinedFacts Tryz.prog 9 Tryz.f9 Rows.scrubApartSpec Rows.scrubApartRow = true :=
 AbM Vj AdR Aax AaA Aay AaB AaC Aaz AdS inP unf rec nam rfl rfl rfl rfl rfl rfl rfl rfl rfl
  (by kernel_rfl) (by kernel_rfl) (by kernel_rfl) (by kernel_rfl) (by kernel_rfl) (by kernel_rfl) (by kernel_rfl) (by kernel_rfl) (by kernel_rfl) (by kernel_rfl) (by kernel_rfl) (by kernel_rfl) (by kernel_rfl) rfl rfl (by kernel_rfl) (by kernel_rfl) (by kernel_rfl)
theorem over : Rows.scrubApartRow.holds Tryz.pinned (OpenSpec.ofChange Rows.scrubApartSpec) :=
 OpenClaim.holds_of_wide 9 Tryz.f9 rfl rfl rfl rfl rfl rfl rfl ⟨rfl, rfl, rfl, rfl, rfl⟩ rfl rfl rfl rfl rfl fnm Tryz.func9 facts
  (of_decide_eq_true (by kernel_rfl)) (by unfold Func.isWrapper; first | (rw [if_pos (by decide +kernel)]; kernel_rfl) | (rw [if_neg (by decide +kernel)]; exact ⟨rfl, rfl⟩))
  (fun os started H enc _ => lifted os started H enc)
theorem proved : Rows.ScrubApartSaid := over
end Go.Proofs.YtgpkbldlkadnjaaGreat.scrubApart
namespace Go.Proofs.YtgpkbldlkadnjaaGreat
theorem scrubApart_holds : Rows.ScrubApartSaid := scrubApart.proved
#print axioms scrubApart_holds
end Go.Proofs.YtgpkbldlkadnjaaGreat
