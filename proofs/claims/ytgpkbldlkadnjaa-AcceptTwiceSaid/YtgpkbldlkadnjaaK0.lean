/- Contracts over data: the reference's messages: the same, small, few. -/
import Derived.Test.YtgpkbldlkadnjaaJ9
import Derived.Test.YtgpkbldlkadnjaaJ7
section
set_option linter.unusedVariables false
set_option linter.unusedSimpArgs false
set_option maxHeartbeats 3000000
attribute [local irreducible] Go.Sl.Chk Go.Sl.Br Go.Sl.Or2 Go.Sl.Ld Go.Sl.Ldn Go.Sl.LdB Go.Sl.Stn Go.Sl.New Go.Sl.Run Go.Sl.RunU Go.Sl.RunX Go.Sl.Call Go.Sl.LoopK Go.Sl.RawK Go.Sl.Alt Go.Sl.Om Go.Sl.xpk Go.Sl.xgpk Go.Sl.xglk Go.Sl.DLd Go.Sl.DLdG Go.Sl.DBs Go.Sl.DCall Go.Sl.DApp Go.Sl.DGen Go.Sl.DGenU Go.Sl.DGC Go.Sl.DLoop Go.Sl.DRaw Go.Sl.DRet Go.Sl.Ent Go.Sl.dget Go.Sl.dv Go.Sl.ev Go.Sl.eget
namespace Go.Proofs.Ytgpkbldlkadnjaa
open Go Go.Sl Go.RowKit
set_option maxRecDepth 100000 in
theorem msame_d (a b : MsgS) (ha : a.votes.length ≤ 1000000) : DFun Try.prog f_ref19_Same [.agg (msgC a), .agg (msgC b)] (boolD (decide (a = b))) := by
  intro nx
  refine xcalls c_ref19_Same (by simp only [m_ref19_Same, List.length]; decide) ?_
  simp only [msgC]
  rcases (by omega : a.kind ≠ b.kind ∨ (a.kind = b.kind ∧ a.frm ≠ b.frm) ∨ ((a.kind = b.kind ∧ a.frm = b.frm) ∧ a.to ≠ b.to) ∨ ((a.kind = b.kind ∧ a.frm = b.frm ∧ a.to = b.to) ∧ a.ballot ≠ b.ballot) ∨ ((a.kind = b.kind ∧ a.frm = b.frm ∧ a.to = b.to ∧ a.ballot = b.ballot) ∧ a.slot ≠ b.slot) ∨ (a.kind = b.kind ∧ a.frm = b.frm ∧ a.to = b.to ∧ a.ballot = b.ballot ∧ a.slot = b.slot)) with e | e | e | e | e | ⟨e1, e2, e3, e4, e5⟩
  · rw [decide_eq_false (fun h => by subst h; omega)]
    simp only [m_ref19_Same]; refine WK ?_; try with_reducible exact trivial
    repeat ((first | refine dgc_d' (boolD true) ?_ | refine dldg_f ?_); refine WK ?_; try with_reducible exact trivial)
    exact dret0 ⟨rfl, rfl⟩
  · rw [decide_eq_false (fun h => by subst h; omega)]
    simp only [m_ref19_Same]; refine WK ?_; try with_reducible exact trivial
    repeat ((first | refine dgc_d' (boolD true) ?_ | refine dldg_f ?_); refine WK ?_; try with_reducible exact trivial)
    exact dret0 ⟨rfl, rfl⟩
  · rw [decide_eq_false (fun h => by subst h; omega)]
    simp only [m_ref19_Same]; refine WK ?_; try with_reducible exact trivial
    repeat ((first | refine dgc_d' (boolD true) ?_ | refine dldg_f ?_); refine WK ?_; try with_reducible exact trivial)
    exact dret0 ⟨rfl, rfl⟩
  · rw [decide_eq_false (fun h => by subst h; omega)]
    simp only [m_ref19_Same]; refine WK ?_; try with_reducible exact trivial
    repeat ((first | refine dgc_d' (boolD true) ?_ | refine dldg_f ?_); refine WK ?_; try with_reducible exact trivial)
    exact dret0 ⟨rfl, rfl⟩
  · rw [decide_eq_false (fun h => by subst h; omega)]
    simp only [m_ref19_Same]; refine WK ?_; try with_reducible exact trivial
    repeat ((first | refine dgc_d' (boolD true) ?_ | refine dldg_f ?_); refine WK ?_; try with_reducible exact trivial)
    exact dret0 ⟨rfl, rfl⟩
  · have heq : a = b ↔ a.vote = b.vote ∧ a.votes = b.votes := by
      constructor
      · rintro rfl; exact ⟨rfl, rfl⟩
      · rintro ⟨h1, h2⟩
        cases a; cases b
        simp only [MsgS.mk.injEq]
        exact ⟨e1, e2, e3, e4, e5, h1, h2⟩
    simp only [m_ref19_Same]; refine WK ?_; try with_reducible exact trivial
    repeat ((first | refine dgc_d' (boolD true) ?_ | refine dldg_f ?_); refine WK ?_; try with_reducible exact trivial)
    refine deq_vote (u := a.vote) (v := b.vote) ?_ ?_ ?_
    · refine .inl ?_
      refine WK ?_; try with_reducible exact trivial
      rfl
    · refine .inl ?_
      refine WK ?_; try with_reducible exact trivial
      rfl
    by_cases hv : a.vote = b.vote
    · rw [decide_eq_true hv]
      refine WK ?_; try with_reducible exact trivial
      refine dfun (same17_d a.votes b.votes ha) fun n1 h1 => ?_
      refine WK ?_; try with_reducible exact trivial
      exact dret0 ⟨by rw [show decide (a = b) = decide (a.votes = b.votes) from decide_eq_decide.2 ⟨fun h => (heq.1 h).2, fun h => heq.2 ⟨hv, h⟩⟩], rfl⟩
    · rw [decide_eq_false hv, decide_eq_false (fun h => hv (heq.1 h).1)]
      refine WK ?_; try with_reducible exact trivial
      repeat ((first | refine dgc_d' (boolD true) ?_ | refine dldg_f ?_); refine WK ?_; try with_reducible exact trivial)
      exact dret0 ⟨rfl, rfl⟩
theorem msgsC_length (l : List MsgS) : (msgsC l).length = l.length * 11 := flat_len' msgC_len l
set_option maxRecDepth 100000 in
theorem mall_d (a b : List MsgS) (hl : a.length ≤ 1000000) (ha : ∀ m ∈ a, m.votes.length ≤ 1000000) : DFun Try.prog f_ref19_All [msgsD a, msgsD b] (boolD (decide (a = b))) := by
  intro nx
  refine xcalls c_ref19_All (by simp only [m_ref19_All, List.length]; decide) ?_
  rcases Decidable.em (a.length = b.length) with he | he
  · simp only [m_ref19_All]; refine WK ?_; try with_reducible exact trivial
    refine dloop [0, 1, 5] (fun s : Nat × Nat => ([(0, msgsD a), (1, msgsD b), (5, iD (s.1 : Nat))], [], s.2)) (fun s => s.1 ≤ a.length ∧ a.take s.1 = b.take s.1) (fun s => a.length - s.1) (0, nx) ⟨by omega, by simp⟩ (Ent.of (by with_unfolding_all rfl) rfl) ?_
    rintro ⟨k, n⟩ ⟨q1, q2⟩
    dsimp only at q1 q2 ⊢
    refine WK ?_; try with_reducible exact trivial
    refine brd (fun hlt => ?_) (fun hge => ?_)
    · have hka : k < a.length := by omega
      have hkb : k < b.length := by omega
      have ha5 : 11 ≤ ((msgsC a).drop (k * 11)).length := by rw [List.length_drop, msgsC_length]; omega
      have hb5 : 11 ≤ ((msgsC b).drop (k * 11)).length := by rw [List.length_drop, msgsC_length]; omega
      have hta : ((msgsC a).drop (k * 11)).take 11 = msgC (gt a k) := flatC_take msgC_len a hka
      have htb : ((msgsC b).drop (k * 11)).take 11 = msgC (gt b k) := flatC_take msgC_len b hkb
      refine WKX (And.intro @hta @htb) ?_; try with_reducible exact trivial
      refine dfun (msame_d (gt a k) (gt b k) (ha _ (by rw [gt_eq hka]; exact List.getElem_mem _))) fun n1 h1 => ?_
      rcases Decidable.em (gt a k = gt b k) with e | e
      · rw [decide_eq_true e]
        refine WK ?_; try with_reducible exact trivial
        exact ⟨(k + 1, n1), ⟨by dsimp only; omega, by dsimp only; rw [take_gt hka, take_gt hkb, q2, e]⟩, by dsimp only; omega, (Ent.of (by with_unfolding_all rfl) rfl)⟩
      · rw [decide_eq_false e]
        refine WK ?_; try with_reducible exact trivial
        exact dret0 ⟨by rw [decide_eq_false (fun h => e (by rw [h]))], rfl⟩
    · refine WK ?_; try with_reducible exact trivial
      have hab : a = b := by
        rw [List.take_of_length_le (by omega), List.take_of_length_le (by omega)] at q2
        exact q2
      exact dret0 ⟨by rw [decide_eq_true hab], rfl⟩
  · simp only [m_ref19_All]; refine WK ?_; try with_reducible exact trivial
    exact dret0 ⟨by rw [decide_eq_false (fun k => he (by rw [k]))], rfl⟩
def shortV (v : VoteS) : Bool := decide (v.bytes.length ≤ 600)
def smallM (m : MsgS) : Bool := (m.votes.take 100).all shortV && (decide (m.votes.length ≤ 70) && decide (m.vote.bytes.length ≤ 1000))
def MsgS.ok (m : MsgS) : Prop := m.vote.bytes.length ≤ 140737488351232 ∧ m.votes.length ≤ 140737488351232 ∧ ∀ v ∈ m.votes, v.bytes.length ≤ 140737488351232
set_option maxRecDepth 100000 in
theorem small_d (m : MsgS) (h : m.ok) : DFun Try.prog f_ref19_Small [.agg (msgC m)] (boolD (smallM m)) := by
  intro nx
  refine xcalls c_ref19_Small (by simp only [m_ref19_Small, List.length]; decide) ?_
  obtain ⟨hb, hl, hv⟩ := h
  simp only [msgC]
  simp only [m_ref19_Small]; refine WK ?_; try with_reducible exact trivial
  refine dloop [1, 3] (fun s : Nat => ([(1, .hp nx 0), (3, iD (s : Nat))], [(nx, .box t_api_Msg (msgC m))], nx + 1)) (fun s => s ≤ m.votes.length ∧ s ≤ 100 ∧ (m.votes.take s).all shortV = true) (fun s => m.votes.length - s) 0 ⟨by omega, by omega, by simp⟩ (Ent.of (by with_unfolding_all rfl) rfl) ?_
  rintro k ⟨q1, q2, q3⟩
  dsimp only at q1 q2 q3 ⊢
  simp only [msgC]
  rcases Decidable.em (k < m.votes.length ∧ k < 100) with ⟨hkl, hk1⟩ | hno
  · have e4 := votes_get m.votes (k := 4) hkl (by omega)
    have hvk := hv (gt m.votes k) (by rw [gt_eq hkl]; exact List.getElem_mem _)
    simp only [voteC, List.getElem?_cons_succ, List.getElem?_cons_zero] at e4
    have htk : (m.votes.take (k + 1)).all shortV = shortV (gt m.votes k) := by rw [take_gt hkl, List.all_append, q3]; simp
    rcases Decidable.em ((gt m.votes k).bytes.length ≤ 600) with g1 | g1
    · refine WKX (And.intro @e4 @sz_s) ?_; try with_reducible exact trivial
      exact ⟨k + 1, ⟨by omega, by omega, by rw [htk]; exact decide_eq_true g1⟩, by omega, (Ent.of (by with_unfolding_all rfl) rfl)⟩
    · refine WKX (And.intro @e4 @sz_s) ?_; try with_reducible exact trivial
      have : smallM m = false := by
        unfold smallM
        have : (m.votes.take 100).all shortV = false := by
          rw [List.all_eq_false]
          exact ⟨gt m.votes k, by rw [gt_eq hkl]; exact List.mem_iff_getElem.2 ⟨k, by rw [List.length_take]; omega, by rw [List.getElem_take]⟩, by rw [show shortV (gt m.votes k) = false from decide_eq_false g1]; decide⟩
        rw [this, Bool.false_and]
      exact dret0 ⟨by rw [this], rfl⟩
  · have hfin : (m.votes.take 100).all shortV = true := by
      rcases (by omega : k = m.votes.length ∨ k = 100) with e | e
      · rw [List.take_of_length_le (by omega), ← List.take_of_length_le (show m.votes.length ≤ k by omega), q3]
      · rw [← e, q3]
    rcases (by omega : (k < m.votes.length ∧ 100 ≤ k) ∨ (m.votes.length ≤ k ∧ 70 < m.votes.length) ∨ (m.votes.length ≤ k ∧ m.votes.length ≤ 70)) with g | g | g
    · refine WK ?_; try with_reducible exact trivial
      repeat ((first | refine dgc_d' (boolD true) ?_ | refine dldg_f ?_); refine WK ?_; try with_reducible exact trivial)
      exact dret0 ⟨by unfold smallM; rw [decide_eq_false (show ¬ m.votes.length ≤ 70 by omega), Bool.false_and, Bool.and_false], rfl⟩
    · refine WK ?_; try with_reducible exact trivial
      repeat ((first | refine dgc_d' (boolD true) ?_ | refine dldg_f ?_); refine WK ?_; try with_reducible exact trivial)
      exact dret0 ⟨by unfold smallM; rw [decide_eq_false (show ¬ m.votes.length ≤ 70 by omega), Bool.false_and, Bool.and_false], rfl⟩
    · rcases (by omega : m.vote.bytes.length ≤ 1000 ∨ 1000 < m.vote.bytes.length) with g2 | g2
      · refine WKX @sz_s ?_; try with_reducible exact trivial
        repeat ((first | refine dgc_d' (boolD true) ?_ | refine dldg_f ?_); refine WK ?_; try with_reducible exact trivial)
        exact dret0 ⟨by unfold smallM; rw [hfin, decide_eq_true g.2, decide_eq_true g2]; rfl, rfl⟩
      · refine WKX @sz_s ?_; try with_reducible exact trivial
        repeat ((first | refine dgc_d' (boolD true) ?_ | refine dldg_f ?_); refine WK ?_; try with_reducible exact trivial)
        exact dret0 ⟨by unfold smallM; rw [decide_eq_false (show ¬ m.vote.bytes.length ≤ 1000 by omega), Bool.and_false, Bool.and_false], rfl⟩
def few21 (l : List MsgS) : Bool := (l.take 100).all smallM && decide (l.length ≤ 40)
theorem few21_spec {l : List MsgS} (h : few21 l = true) : l.length ≤ 40 ∧ ∀ m ∈ l, m.votes.length ≤ 70 ∧ m.vote.bytes.length ≤ 1000 := by
  unfold few21 at h
  rw [Bool.and_eq_true, decide_eq_true_eq] at h
  refine ⟨h.2, fun m hm => ?_⟩
  have := h.1
  rw [List.take_of_length_le (by omega), List.all_eq_true] at this
  have := this m hm
  unfold smallM at this
  simp only [Bool.and_eq_true, decide_eq_true_eq] at this
  exact this.2
set_option maxRecDepth 100000 in
theorem few21_d (l : List MsgS) (h : ∀ a ∈ l, a.ok) (hl : l.length ≤ 140737488351232) : DFun Try.prog f_law21_few [msgsD l] (boolD (few21 l)) := by
  intro nx
  refine xcalls c_law21_few (by simp only [m_law21_few, List.length]; decide) ?_
  simp only [m_law21_few]; refine WK ?_; try with_reducible exact trivial
  refine dloop [0, 3] (fun s : Nat × Nat => ([(0, msgsD l), (3, iD (s.1 : Nat))], [], s.2)) (fun s => s.1 ≤ l.length ∧ s.1 ≤ 100 ∧ (l.take s.1).all smallM = true) (fun s => l.length - s.1) (0, nx) ⟨by omega, by omega, by simp⟩ (Ent.of (by with_unfolding_all rfl) rfl) ?_
  rintro ⟨k, n⟩ ⟨q1, q2, q3⟩
  dsimp only at q1 q2 q3 ⊢
  rcases Decidable.em (k < l.length ∧ k < 100) with ⟨hkl, hk1⟩ | hno
  · have ha := h (gt l k) (by rw [gt_eq hkl]; exact List.getElem_mem _)
    have hta : ((msgsC l).drop (k * 11)).take 11 = msgC (gt l k) := flatC_take msgC_len l hkl
    have h5 : 11 ≤ ((msgsC l).drop (k * 11)).length := by rw [List.length_drop, msgsC_length]; omega
    have htk : (l.take (k + 1)).all smallM = smallM (gt l k) := by rw [take_gt hkl, List.all_append, q3]; simp
    refine WKX @hta ?_; try with_reducible exact trivial
    refine dfun (small_d (gt l k) ha) fun n1 h1 => ?_
    cases hs : smallM (gt l k) with
    | true =>
      refine WK ?_; try with_reducible exact trivial
      exact ⟨(k + 1, n1), ⟨by dsimp only; omega, by dsimp only; omega, by dsimp only; rw [htk]; exact hs⟩, by dsimp only; omega, (Ent.of (by with_unfolding_all rfl) rfl)⟩
    | false =>
      refine WK ?_; try with_reducible exact trivial
      have : few21 l = false := by
        unfold few21
        have : (l.take 100).all smallM = false := by
          rw [List.all_eq_false]
          exact ⟨gt l k, by rw [gt_eq hkl]; exact List.mem_iff_getElem.2 ⟨k, by rw [List.length_take]; omega, by rw [List.getElem_take]⟩, by rw [hs]; decide⟩
        rw [this, Bool.false_and]
      exact dret0 ⟨by rw [this], rfl⟩
  · have hfin : few21 l = decide (l.length ≤ 40) := by
      unfold few21
      rcases (by omega : k = l.length ∨ k = 100) with e | e
      · rw [List.take_of_length_le (by omega), ← List.take_of_length_le (show l.length ≤ k by omega), q3, Bool.true_and]
      · rw [← e, q3, Bool.true_and]
    rcases Nat.lt_or_ge k l.length with hkl | hkl
    · refine WK ?_; try with_reducible exact trivial
      exact dret0 ⟨by rw [hfin, decide_eq_false (by omega)], rfl⟩
    · refine WK ?_; try with_reducible exact trivial
      repeat ((first | refine dgc_d' (boolD true) ?_ | refine dldg_f ?_); refine WK ?_; try with_reducible exact trivial)
      exact dret0 ⟨by rw [hfin]; congr 2; exact decide_eq_decide.2 (by omega), rfl⟩
end Go.Proofs.Ytgpkbldlkadnjaa
end
section
/- Contracts over data: slices.IndexFunc, ContainsFunc, DeleteFunc over votes. -/
set_option linter.unusedVariables false
set_option linter.unusedSimpArgs false
set_option maxHeartbeats 3000000
attribute [local irreducible] Go.Sl.Chk Go.Sl.Br Go.Sl.Or2 Go.Sl.Ld Go.Sl.Ldn Go.Sl.LdB Go.Sl.Stn Go.Sl.New Go.Sl.Run Go.Sl.RunU Go.Sl.RunX Go.Sl.Call Go.Sl.LoopK Go.Sl.RawK Go.Sl.Alt Go.Sl.Om Go.Sl.xpk Go.Sl.xgpk Go.Sl.xglk Go.Sl.DLd Go.Sl.DLdG Go.Sl.DBs Go.Sl.DCall Go.Sl.DApp Go.Sl.DGen Go.Sl.DGenU Go.Sl.DGC Go.Sl.DLoop Go.Sl.DRaw Go.Sl.DRet Go.Sl.Ent Go.Sl.dget Go.Sl.dv Go.Sl.ev Go.Sl.eget
namespace Go.Proofs.Ytgpkbldlkadnjaa
open Go Go.Sl Go.RowKit
/-- a closure over what stands in one root, that says of a vote whether it is -/
def Tells (g : FuncId) (b : Nat) (t : D) (C : VoteS → Bool) : Prop := ∀ v nx, b < nx → DCalls Try.prog g [.agg (voteC v), .hp b 0] [(b, t)] nx (fun d ro _ => d = boolD (C v) ∧ ro = [(b, t)])
def idxI (C : VoteS → Bool) (l : List VoteS) : Int := match l.findIdx? C with | some j => (j : Nat) | none => -1
set_option maxRecDepth 100000 in
theorem index_c {g : FuncId} {b : Nat} {t : D} {C : VoteS → Bool} (hcb : hasBody Try.prog g = true) (hc : Tells g b t C) (l : List VoteS) (hl : l.length ≤ 1000000) {nx : Nat} (hb : b < nx) :
    DCalls Try.prog f_slices_IndexFunc_3 [votesD l, .fn g [] [.hp b 0]] [(b, t)] nx (fun d ro _ => d = iD (idxI C l) ∧ ro = [(b, t)]) := by
  refine xcalls c_slices_IndexFunc_3 (by simp only [m_slices_IndexFunc_3, List.length]; decide) ?_
  simp only [m_slices_IndexFunc_3]; refine WK ?_; try with_reducible exact trivial
  refine dloop [0, 1, 7, 8] (fun s : Nat × Nat => ([(0, votesD l), (1, .fn g [] [.hp b 0]), (7, iD (l.length : Nat)), (8, iD (s.1 : Nat))], [(b, t)], s.2)) (fun s => s.1 ≤ l.length ∧ b < s.2 ∧ (l.take s.1).any C = false) (fun s => l.length - s.1) (0, nx) ⟨by omega, hb, by simp⟩ (Ent.of (by with_unfolding_all rfl) rfl) ?_
  rintro ⟨k, n⟩ ⟨q1, q0, q2⟩
  dsimp only at q1 q0 q2 ⊢
  refine WK ?_; try with_reducible exact trivial
  refine brd (fun hlt => ?_) (fun hge => ?_)
  · have hk : k < l.length := by omega
    have hta : ((votesC l).drop (k * 5)).take 5 = voteC (gt l k) := flatC_take voteC_len l hk
    have h5 : 5 ≤ ((votesC l).drop (k * 5)).length := by rw [List.length_drop, votesC_length]; omega
    have hbg : hasBody Try.prog g = true := hcb
    refine WKX (And.intro @hta @hbg) ?_; try with_reducible exact trivial
    refine dcallR [b] (rpick_one (t := t) (by (repeat rw [rget_there (by omega)]); exact rget_here _ _ _)) (hc (gt l k) n q0) (by simp) fun _ _ n1 g1 ⟨e1, e2⟩ => ?_
    subst e1; subst e2
    simp only [List.cons_append, List.nil_append]
    cases hC : C (gt l k) with
    | true =>
      refine WK ?_; try with_reducible exact trivial
      refine dret_only [b] (t := .mk _) ?_
      refine WKR ?_; try with_reducible exact trivial
      have hfi : l.findIdx? C = some k := by
        rw [List.findIdx?_eq_some_iff_getElem]
        refine ⟨hk, by rw [← gt_eq hk]; exact hC, fun j hj => ?_⟩
        rw [List.any_eq_false] at q2
        have := q2 (l[j]'(by omega)) (List.mem_iff_getElem.2 ⟨j, by rw [List.length_take]; omega, by rw [List.getElem_take]⟩)
        simpa using this
      exact dret ⟨by rw [idxI, hfi], rfl⟩
    | false =>
      refine WK ?_; try with_reducible exact trivial
      exact ⟨(k + 1, n1), ⟨by dsimp only; omega, by dsimp only; omega, by dsimp only; rw [take_gt hk, List.any_append, q2, List.any_cons, hC]; rfl⟩, by dsimp only; omega, (Ent.of (by with_unfolding_all rfl) rfl)⟩
  · refine WK ?_; try with_reducible exact trivial
    have hno : l.findIdx? C = none := by
      rw [List.findIdx?_eq_none_iff]
      rw [List.take_of_length_le (by omega), List.any_eq_false] at q2
      intro x hx
      simpa using q2 x hx
    refine dret_only [b] (t := .mk _) ?_
    refine WKR ?_; try with_reducible exact trivial
    exact dret ⟨by rw [idxI, hno], rfl⟩
set_option maxRecDepth 100000 in
theorem contains_c {g : FuncId} {b : Nat} {t : D} {C : VoteS → Bool} (hcb : hasBody Try.prog g = true) (hc : Tells g b t C) (l : List VoteS) (hl : l.length ≤ 1000000) {nx : Nat} (hb : b < nx) :
    DCalls Try.prog f_slices_ContainsFunc_2 [votesD l, .fn g [] [.hp b 0]] [(b, t)] nx (fun d ro _ => d = boolD (l.any C) ∧ ro = [(b, t)]) := by
  refine xcalls c_slices_ContainsFunc_2 (by simp only [m_slices_ContainsFunc_2, List.length]; decide) ?_
  simp only [m_slices_ContainsFunc_2]; refine WK ?_; try with_reducible exact trivial
  refine dcallR [b] (rpick_one (t := t) (by (repeat rw [rget_there (by omega)]); exact rget_here _ _ _)) (index_c hcb hc l hl hb) (by simp) fun _ _ n1 g1 ⟨e1, e2⟩ => ?_
  subst e1; subst e2
  simp only [List.cons_append, List.nil_append]
  have hi : decide (0 ≤ idxI C l) = l.any C := by
    unfold idxI
    cases hf : l.findIdx? C with
    | none =>
      rw [List.findIdx?_eq_none_iff] at hf
      dsimp only
      rw [decide_eq_false (by omega)]
      symm
      rw [List.any_eq_false]
      intro x hx
      simpa using hf x hx
    | some j =>
      rw [List.findIdx?_eq_some_iff_getElem] at hf
      obtain ⟨h1, h2, _⟩ := hf
      dsimp only
      rw [decide_eq_true (by omega)]
      symm
      rw [List.any_eq_true]
      exact ⟨_, List.getElem_mem _, h2⟩
  have hlo : -1 ≤ idxI C l ∧ idxI C l ≤ 1000000 := by
    unfold idxI
    cases hf : l.findIdx? C with
    | none => exact ⟨Int.le_refl _, by decide⟩
    | some j =>
      have := (List.findIdx?_eq_some_iff_getElem.1 hf).1
      dsimp only
      omega
  refine WK ?_; try with_reducible exact trivial
  refine dret_only [b] (t := .mk _) ?_
  refine WKR ?_; try with_reducible exact trivial
  exact dret ⟨by rw [← hi], rfl⟩
/-- a row of votes is lent to a call that only reads it, beside one root -/
theorem votes_lend {r : Roots} {nx : Nat} {K : D → Roots → Nat → Prop} {f : FuncId} {ds ds' : List D} {l : List VoteS} {v : Value} {t : D} {tg : TagF K} (q b : Nat) (h1 : rget r q = some (votesO l)) (h2 : rget r b = some t) (hne : q ≠ b) (hz : NoZ t)
    (hds : ds'.map (dres [(q, votesD l)]) = ds) (h : DCalls Try.prog f ds [(b, t)] nx (fun d ro _ => d = .sc v ∧ ro = [(b, t)])) (k : ∀ nx', nx ≤ nx' → K (.sc v) ((b, t) :: (q, votesO l) :: rdel (rdel r q) b) nx') : DCall Try.prog f ds' [] r nx K tg := by
  refine dcall_lendG (ia := [q]) (ib := [b]) (rpick_one h1) (rpick_one ((rget_rdel hne).trans h2)) (fun p hp => ?_) (ds' := ds) ?_ (dcalls_imp h fun d ro n1 hn ⟨e1, e2⟩ => ?_)
  · simp only [List.mem_singleton] at hp
    subst hp
    exact (frzL_plain (votesC_plain l)).2
  · rw [← hds]
    have e : frzRs [(q, votesO l)] = [(q, votesD l)] := by
      simp only [frzRs, votesO, frzR, frz]
      rw [(frzL_plain (votesC_plain l)).1]
    rw [e]
  · subst e1; subst e2
    refine ⟨fun p hp => ?_, noZs_sc _, k n1 hn⟩
    simp only [List.mem_singleton] at hp
    subst hp
    exact hz
theorem elVz (w : World) : (zeroValue t_api_Vote).run Try.prog w = .ok (.agg #[.int .i64 0, .int .i64 0, .int .i64 0, .bool false, .string ByteArray.empty]) w := by kernel_rfl
theorem filter_take {C : VoteS → Bool} {l : List VoteS} {j : Nat} (hj : j < l.length) : (l.take (j + 1)).filter (fun v => !C v) = (l.take j).filter (fun v => !C v) ++ (if C (gt l j) then [] else [gt l j]) := by
  rw [take_gt hj, List.filter_append]
  congr 1
  cases h : C (gt l j) <;> simp [h]
theorem dover_take : ∀ (cs l : List D) (o m : Nat), m ≤ o → (dover l o cs).take m = l.take m
  | [], l, o, m, h => rfl
  | c :: cs, l, o, m, h => by rw [dover, dover_take cs _ _ _ (by omega), List.take_set_of_le h]
theorem dover_mem : ∀ (cs l : List D) (o : Nat) {x : D}, x ∈ dover l o cs → x ∈ l ∨ x ∈ cs
  | [], l, o, x, h => .inl h
  | c :: cs, l, o, x, h => by
    rw [dover] at h
    rcases dover_mem cs _ _ h with h | h
    · rcases List.mem_or_eq_of_mem_set h with h | h
      · exact .inl h
      · exact .inr (by simp [h])
    · exact .inr (by simp [h])
theorem votesC_over : ∀ (X : List VoteS) (v : VoteS) {k : Nat}, k < X.length → dover (votesC X) (k * 5) (voteC v) = votesC (X.set k v)
  | x :: X, v, 0, _ => rfl
  | x :: X, v, k + 1, h => by
    have h1 := votesC_over X v (k := k) (by simpa using h)
    have e : votesC (x :: X) = voteC x ++ votesC X := rfl
    have e2 : votesC (x :: X.set k v) = voteC x ++ votesC (X.set k v) := rfl
    rw [List.set_cons_succ, e2, ← h1, e]
    have : ∀ (cs l r : List D) (o : Nat), dover (l ++ r) (l.length + o) cs = l ++ dover r o cs := fun cs => by
      induction cs with
      | nil => intro l r o; rfl
      | cons c cs ih =>
        intro l r o
        rw [dover, dover, List.set_append_right _ _ (by omega), Nat.add_sub_cancel_left, Nat.add_assoc, ih]
    rw [← this, voteC_len]
    congr 1
    omega
set_option maxRecDepth 100000 in
theorem delete_c {g : FuncId} {b : Nat} {t : D} {C : VoteS → Bool} (hcb : hasBody Try.prog g = true) (hc : Tells g b t C) (hz : NoZ t) (l : List VoteS) (hl : l.length ≤ 1000000) {i nx : Nat} (hi : i < nx) (hb : b < nx) (hne : i ≠ b) :
    DCalls Try.prog f_slices_DeleteFunc_2 [.h i, .fn g [] [.hp b 0]] [(i, votesO l), (b, t)] nx (fun d ro _ => d = votesD (l.filter fun v => !C v) ∧ ro = [(b, t)]) := by
  refine xcalls c_slices_DeleteFunc_2 (by simp only [m_slices_DeleteFunc_2, List.length]; decide) ?_
  have hbg : hasBody Try.prog g = true := hcb
  simp only [votesO]
  simp only [m_slices_DeleteFunc_2]; refine WK ?_; try with_reducible exact trivial
  refine votes_lend (l := l) (t := t) (v := .int .i64 (idxI C l)) i b (by (repeat rw [rget_there (by omega)]); exact rget_here _ _ _) (by (repeat rw [rget_there (by omega)]); exact rget_here _ _ _) hne hz rfl (by simp -dsimp (disch := omega) only [List.map_cons, List.map_nil, dres, rget_here, rget_there, rget_nil]; exact index_c hcb hc l hl hb) fun n1 g1 => ?_
  simp only [votesO]
  cases hf : l.findIdx? C with
  | none =>
    have he : idxI C l = -1 := by rw [idxI, hf]
    rw [he]
    refine WK ?_; try with_reducible exact trivial
    have hno : (l.filter fun v => !C v) = l := by
      rw [List.findIdx?_eq_none_iff] at hf
      rw [List.filter_eq_self]
      intro x hx
      rw [hf x hx]
      rfl
    refine dret_frz i (by (repeat rw [rget_there (by omega)]); exact rget_here _ _ _) (votesC_plain _) ?_
    simp -dsimp (disch := omega) only [dresT, List.map_cons, List.map_nil, dres, rset_here, rset_there, rget_here, rget_there]
    refine dret_only [b] (t := .mk _) ?_
    refine WKR ?_; try with_reducible exact trivial
    exact dret ⟨by rw [hno], rfl⟩
  | some j =>
    have he : idxI C l = (j : Nat) := by rw [idxI, hf]
    rw [he]
    obtain ⟨hj, hCj, hbef⟩ := List.findIdx?_eq_some_iff_getElem.1 hf
    have hpre : (l.take j).filter (fun v => !C v) = l.take j := by
      rw [List.filter_eq_self]
      intro x hx
      obtain ⟨a, ha, rfl⟩ := List.mem_iff_getElem.1 hx
      rw [List.length_take] at ha
      rw [List.getElem_take]
      have := hbef a (by omega)
      simpa using this
    have hst : (l.take (j + 1)).filter (fun v => !C v) = l.take j := by
      rw [filter_take hj, hpre, gt_eq hj, hCj]
      simp
    refine WK ?_; try with_reducible exact trivial
    refine dloop [0, 1, 5, 6] (fun s : Nat × Nat × List VoteS × Nat => ([(0, .h i), (1, .fn g [] [.hp b 0]), (5, iD (s.2.1 : Nat)), (6, iD (s.1 : Nat))], [(b, t), (i, .row t_api_Vote 5 l.length (votesC s.2.2.1))], s.2.2.2)) (fun s => s.2.1 < s.1 ∧ s.1 ≤ l.length ∧ b < s.2.2.2 ∧ i < s.2.2.2 ∧ s.2.2.1.length = l.length ∧ s.2.2.1.take s.2.1 = (l.take s.1).filter (fun v => !C v) ∧ s.2.2.1.drop s.1 = l.drop s.1) (fun s => l.length - s.1) (j + 1, j, l, n1) ⟨by dsimp only; omega, by dsimp only; omega, by dsimp only; omega, by dsimp only; omega, rfl, hst.symm, rfl⟩ (Ent.of (by with_unfolding_all rfl) rfl) ?_
    rintro ⟨a, k, X, n⟩ ⟨q1, q2, q3, q4, q5, q6, q7⟩
    dsimp only at q1 q2 q3 q4 q5 q6 q7 ⊢
    refine WK ?_; try with_reducible exact trivial
    refine brd (fun hlt => ?_) (fun hge => ?_)
    · have ha : a < l.length := by omega
      have hXa : gt X a = gt l a := by
        have h1 := congrArg List.head? q7
        rw [List.head?_drop, List.head?_drop, List.getElem?_eq_getElem ha, List.getElem?_eq_getElem (show a < X.length by omega)] at h1
        rw [gt_eq ha, gt_eq (show a < X.length by omega)]
        exact Option.some.inj h1
      have hta : ((votesC X).drop (a * 5)).take 5 = [iD (gt l a).slot, iD (gt l a).ballot, iD (gt l a).origin, boolD (gt l a).full, strD (gt l a).bytes] := by rw [← hXa]; exact flatC_take voteC_len X (by omega)
      have h5 : a * 5 + 5 ≤ (votesC X).length := by rw [votesC_length]; omega
      have hdr : ∀ Y : List VoteS, Y.drop a = l.drop a → Y.drop (a + 1) = l.drop (a + 1) := fun Y h => by
        have := congrArg (List.drop 1) h
        rwa [List.drop_drop, List.drop_drop] at this
      refine WKX (And.intro @hta @hbg) ?_; try with_reducible exact trivial
      refine dcallR [b] (rpick_one (t := t) (by (repeat rw [rget_there (by omega)]); exact rget_here _ _ _)) (hc (gt l a) (n + 1) (by omega)) (by simp) fun _ _ n2 g2 ⟨e1, e2⟩ => ?_
      subst e1; subst e2
      simp only [List.cons_append, List.nil_append]
      cases hC : C (gt l a) with
      | true =>
        refine WK ?_; try with_reducible exact trivial
        exact ⟨(a + 1, k, X, n2), ⟨by dsimp only; omega, by dsimp only; omega, by dsimp only; omega, by dsimp only; omega, q5, by dsimp only; rw [filter_take ha, hC, q6]; simp, hdr X q7⟩, by dsimp only; omega, (Ent.only [b, i] _ _ _).trans (by simp -dsimp (disch := omega) only [rpick, rget_here, rget_there, rdel_here, rdel_there]; exact (Ent.of (by with_unfolding_all rfl) rfl))⟩
      | false =>
        have hov : dover (votesC X) (k * 5) [iD (gt l a).slot, iD (gt l a).ballot, iD (gt l a).origin, boolD (gt l a).full, strD (gt l a).bytes] = votesC (X.set k (gt l a)) := votesC_over X (gt l a) (by omega)
        simp -dsimp (disch := omega) only [↓MC.xwp, ↓xopsWp, ↓xdr, ↓MOp.xwp, dvs, dv, dvu, dvo, dvp, dgb, dGd, dBool, cond_true, cond_false, asFn, dget, dput, dput?, dead?, dres, ptr, bsc, cv, uo, uof, unopt, xpr, xdevr, xev0, cutK, cutN, xldk, xldn, xbsk, xst, xgp, glc, vExt, vFldA, vFld, vFad, vIxs, vIxa, vIxvA, vIxv, vSls, vLen, vPick, vNilc, vIsnil, dev0, devr, dsl, dif, dcells, dbuild, scs, rowOf, strideOf, dtk, dtake, done1, pev, pbin, pint, pbool, pstr, psl, vnil, ↓thenD, ↓blockD, ↓retX, ↓xres, xcell, tupD, argD, dkeep, ckLive, kp, xdone, xheld, dstD, isLdM, ldOp, ldIds, ldSlots, selfOk, nb, dst1, inDone, allDone, apart, slotsApart, heldAll, heldOk, Op.operands, Nat.reduceAdd, forall_eq_or_imp, D.plain, reduceCtorEq, if_true, if_false, ↓reduceIte, ne_eq, Bool.cond_true, Bool.cond_false, forall_const, implies_true, forall_eq, Int.reduceEq, Int.reduceLT, Int.reduceLE, Int.reduceAdd, Int.reduceSub, Int.reduceMul, Int.reduceToNat, Nat.reduceMul, Nat.reduceLeDiff, Nat.reduceLT, Nat.reduceSub, Nat.reduceBEq, Nat.reduceEqDiff, matD, bytesD, iD, intsD, boolD, strD, bD, DB, hov]
        have hk : k < X.length := by omega
        refine ⟨(a + 1, k + 1, X.set k (gt l a), n2), ⟨by dsimp only; omega, by dsimp only; omega, by dsimp only; omega, by dsimp only; omega, by dsimp only; rw [List.length_set]; exact q5, ?_, ?_⟩, by dsimp only; omega, (Ent.only [b, i] _ _ _).trans (by simp -dsimp (disch := omega) only [rpick, rget_here, rget_there, rdel_here, rdel_there]; exact (Ent.of (by with_unfolding_all rfl) rfl))⟩
        · dsimp only
          rw [filter_take ha, hC, ← q6, List.take_add_one, List.take_set_of_le (Nat.le_refl _), List.getElem?_set_self hk]
          rfl
        · dsimp only
          rw [List.drop_set_of_lt (by omega)]
          exact hdr X q7
    · refine WK ?_; try with_reducible exact trivial
      refine ocut ?_
      refine WK ?_; try with_reducible exact trivial
      have hzs : (votesC X).length = l.length * 5 := by rw [votesC_length, q5]
      refine dclear elV elVz (i := i) (off := k * 5) (m := l.length - k) (n := l.length) (l := votesC X) (by refine WK ?_; try with_reducible exact trivial) (by (repeat rw [rget_there (by omega)]); exact rget_here _ _ _) (by rw [hzs]; omega) (by decide) (by simp) ?_
      refine WK ?_; try with_reducible exact trivial
      refine ofrz (chk (fun x hx => ?_) ?_)
      · rcases dover_mem _ _ _ hx with h | h
        · exact votesC_plain _ x h
        · obtain ⟨c, _, rfl⟩ := List.mem_map.1 h
          trivial
      have hal : a = l.length := by omega
      subst hal
      rw [List.take_of_length_le (Nat.le_refl _)] at q6
      have hkl : k = (l.filter fun v => !C v).length := by rw [← q6, List.length_take]; omega
      have hres : D.sl k ((dover (votesC X) (k * 5) (zcells (.agg #[.int .i64 0, .int .i64 0, .int .i64 0, .bool false, .string ByteArray.empty]) (l.length - k))).take (k * 5)) = votesD (l.filter fun v => !C v) := by
        rw [dover_take _ _ _ _ (Nat.le_refl _), votesC_take, q6]
        show D.sl k _ = D.sl (l.filter fun v => !C v).length _
        rw [← hkl]
      refine WK ?_; try with_reducible exact trivial
      rw [hres]
      refine dret_only [b] (t := .mk _) ?_
      refine WKR ?_; try with_reducible exact trivial
      exact dret ⟨rfl, rfl⟩
end Go.Proofs.Ytgpkbldlkadnjaa
end
section
/- Contracts over data: layer 21: what a replica answers. -/
set_option linter.unusedVariables false
set_option linter.unusedSimpArgs false
set_option maxHeartbeats 3000000
attribute [local irreducible] Go.Sl.Chk Go.Sl.Br Go.Sl.Or2 Go.Sl.Ld Go.Sl.Ldn Go.Sl.LdB Go.Sl.Stn Go.Sl.New Go.Sl.Run Go.Sl.RunU Go.Sl.RunX Go.Sl.Call Go.Sl.LoopK Go.Sl.RawK Go.Sl.Alt Go.Sl.Om Go.Sl.xpk Go.Sl.xgpk Go.Sl.xglk Go.Sl.DLd Go.Sl.DLdG Go.Sl.DBs Go.Sl.DCall Go.Sl.DApp Go.Sl.DGen Go.Sl.DGenU Go.Sl.DGC Go.Sl.DLoop Go.Sl.DRaw Go.Sl.DRet Go.Sl.Ent Go.Sl.dget Go.Sl.dv Go.Sl.ev Go.Sl.eget
namespace Go.Proofs.Ytgpkbldlkadnjaa
open Go Go.Sl Go.RowKit
def refM (back : MsgS) (p : Nat) : MsgS := { back with kind := 5, ballot := p }
def prepM (back : MsgS) (b : Int) (vs : List VoteS) : MsgS := { back with kind := 2, ballot := b, votes := (sortS vs).filter fun v => !decide (b ≤ v.ballot) }
def accM (back : MsgS) (v : VoteS) : MsgS := { back with kind := 4, ballot := v.ballot, slot := v.slot }
abbrev St := Nat × List VoteS × List FileS
def prepR (fs : List FileS) (most p : Nat) (vs : List VoteS) (b : Int) (back : MsgS) : List MsgS × St :=
  if b < p then ([refM back p], p, vs, fs)
  else if (p : Int) < b then (if promE fs most p b = 0 then [prepM back b (promP fs most p vs b).2] else [], (promP fs most p vs b).1, (promP fs most p vs b).2, promF fs most p b)
  else ([prepM back b vs], p, vs, fs)
def isMade (v x : VoteS) : Bool := decide (x.slot = v.slot) && (decide (x.ballot = v.ballot) && decide (x.origin = v.origin))
def voteR (fs : List FileS) (most p : Nat) (vs : List VoteS) (v : VoteS) (back : MsgS) : List MsgS × St :=
  if v.ballot < p then ([refM back p], p, vs, fs)
  else if (sortS vs).any (isMade v) = true then ([accM back v], p, vs, fs)
  else (if voteE fs most p v = 0 then [accM back v] else [], (voteP fs most p vs v).1, (voteP fs most p vs v).2, voteF fs most p v)
def backM (me : Int) (m : MsgS) : MsgS := ⟨0, me, m.frm, 0, 0, zeroV, []⟩
def hearR (fs : List FileS) (most p : Nat) (vs : List VoteS) (me : Int) (m : MsgS) : List MsgS × St :=
  if RightMsg m ∧ m.to = me then
    if m.kind = 1 then prepR fs most p vs m.ballot (backM me m) else if m.kind = 3 then voteR fs most p vs m.vote (backM me m) else ([], p, vs, fs)
  else ([], p, vs, fs)
abbrev logRs (x s d : Nat) (p : Nat) (vs : List VoteS) (fs : List FileS) (most : Nat) : Roots := [(x, logO d s), (s, saysO p vs), (d, diskO fs most)]
theorem msgC_plain (m : MsgS) : ∀ x ∈ msgC m, x.plain := fun x hx => by
  simp only [msgC, List.mem_cons, List.not_mem_nil, or_false] at hx
  rcases hx with rfl | rfl | rfl | rfl | rfl | rfl | rfl | rfl | rfl | rfl | rfl <;> trivial
set_option maxRecDepth 100000 in
theorem refuse_l {fs : List FileS} {most p : Nat} {vs : List VoteS} (back : MsgS) {x s d nx : Nat} (hx : x < nx) (hs : s < nx) (hd : d < nx) (h1 : x ≠ s) (h2 : x ≠ d) (h3 : s ≠ d) :
    DCalls Try.prog f_accept_refuse [.hp x 0, .agg (msgC back)] (logRs x s d p vs fs most) nx (fun d' ro _ => d' = msgsD [refM back p] ∧ ro = logRs x s d p vs fs most) := by
  refine xcalls c_accept_refuse (by simp only [m_accept_refuse, List.length]; decide) ?_
  simp only [logRs, logO, saysO, diskO, msgC]
  simp only [m_accept_refuse]; refine WK ?_; try with_reducible exact trivial
  refine dcallR [x, s, d] (rin := [(x, logO d s), (s, saysO p vs), (d, diskO fs most)]) (by simp only [logO, saysO, diskO]; simp -dsimp (disch := omega) only [rpick, rget_here, rget_there, rdel_here, rdel_there]; rfl) (promised_l h1 h2 h3) (by simp) fun _ _ n1 g1 ⟨e1, e2⟩ => ?_
  subst e1; subst e2
  simp only [logO, saysO, diskO, List.cons_append, List.nil_append]
  refine WK ?_; try with_reducible exact trivial
  refine dret_frz (n1) (by (repeat rw [rget_there (by omega)]); exact rget_here _ _ _) (msgC_plain (refM back p)) ?_
  simp only [rset_here, dresT, List.map_cons, List.map_nil, dres, rget_here]
  refine dret_only [x, s, d] (t := .mk _) ?_
  refine WKR ?_; try with_reducible exact trivial
  exact dret ⟨rfl, rfl⟩
theorem prep1_t (b : Nat) (bal : Int) : Tells f_accept_prepare_1 b (.box tInt [iD bal]) (fun v => decide (bal ≤ v.ballot)) := fun v nx hb => by
  refine xcalls c_accept_prepare_1 (by simp only [m_accept_prepare_1, List.length]; decide) ?_
  simp only [voteC]
  simp only [m_accept_prepare_1]; refine WK ?_; try with_reducible exact trivial
  refine dret_only [b] (t := .mk _) ?_
  refine WKR ?_; try with_reducible exact trivial
  exact dret ⟨rfl, rfl⟩
set_option maxRecDepth 100000 in
theorem made1_t (b : Nat) (v : VoteS) : Tells f_accept_made_1 b (.box t_api_Vote (voteC v)) (isMade v) := fun u nx hb => by
  refine xcalls c_accept_made_1 (by simp only [m_accept_made_1, List.length]; decide) ?_
  simp only [voteC]
  have hfin : ∀ n, DRet (boolD (isMade v u)) [(nx, .box t_api_Vote (voteC u)), (b, .box t_api_Vote (voteC v))] n (fun d ro _ => d = boolD (isMade v u) ∧ ro = [(b, .box t_api_Vote (voteC v))]) (.mk _) := fun n => by
    refine dret_only [b] (t := .mk _) ?_
    refine WKR ?_; try with_reducible exact trivial
    exact dret ⟨rfl, rfl⟩
  by_cases e1 : u.slot = v.slot
  · by_cases e2 : u.ballot = v.ballot
    · have e3 : isMade v u = decide (u.origin = v.origin) := by unfold isMade; rw [decide_eq_true e1, decide_eq_true e2]; rfl
      rw [e3] at hfin ⊢
      simp only [m_accept_made_1]; refine WK ?_; try with_reducible exact trivial
      repeat ((first | refine dgc_d' (boolD true) ?_ | refine dldg_f ?_); refine WK ?_; try with_reducible exact trivial)
      exact hfin _
    · have e3 : isMade v u = false := by unfold isMade; rw [decide_eq_false e2, Bool.false_and, Bool.and_false]
      rw [e3] at hfin ⊢
      simp only [m_accept_made_1]; refine WK ?_; try with_reducible exact trivial
      repeat ((first | refine dgc_d' (boolD true) ?_ | refine dldg_f ?_); refine WK ?_; try with_reducible exact trivial)
      exact hfin _
  · have e3 : isMade v u = false := by unfold isMade; rw [decide_eq_false e1, Bool.false_and]
    rw [e3] at hfin ⊢
    simp only [m_accept_made_1]; refine WK ?_; try with_reducible exact trivial
    repeat ((first | refine dgc_d' (boolD true) ?_ | refine dldg_f ?_); refine WK ?_; try with_reducible exact trivial)
    exact hfin _
theorem noZ_vote (v : VoteS) : NoZ (.box t_api_Vote (voteC v)) := noZ_box fun d hd => by
  simp only [voteC, List.mem_cons, List.not_mem_nil, or_false] at hd
  rcases hd with rfl | rfl | rfl | rfl | rfl <;> exact noZ_sc _
theorem noZ_int (n : Int) : NoZ (.box tInt [iD n]) := noZ_box fun d hd => by
  simp only [List.mem_singleton] at hd
  rw [hd]
  exact noZ_sc _
set_option maxRecDepth 100000 in
theorem made_l {fs : List FileS} {most p : Nat} {vs : List VoteS} (hr : Right1 vs) (hl : vs.length ≤ 1000000) (v : VoteS) {x s d nx : Nat} (hx : x < nx) (hs : s < nx) (hd : d < nx) (h1 : x ≠ s) (h2 : x ≠ d) (h3 : s ≠ d) :
    DCalls Try.prog f_accept_made [.hp x 0, .agg (voteC v)] (logRs x s d p vs fs most) nx (fun d' ro _ => d' = boolD ((sortS vs).any (isMade v)) ∧ ro = logRs x s d p vs fs most) := by
  refine xcalls c_accept_made (by simp only [m_accept_made, List.length]; decide) ?_
  have hbm : hasBody Try.prog f_accept_made_1 = true := by kernel_rfl
  simp only [logRs, logO, saysO, diskO, voteC]
  simp only [m_accept_made]; refine WK ?_; try with_reducible exact trivial
  refine dcallR [x, s, d] (rin := [(x, logO d s), (s, saysO p vs), (d, diskO fs most)]) (by simp only [logO, saysO, diskO]; simp -dsimp (disch := omega) only [rpick, rget_here, rget_there, rdel_here, rdel_there]; rfl) (votes_l hr hl (by omega) (by omega) (by omega) h1 h2 h3) (by simp) fun _ _ n1 g1 ⟨q, q1, q2, e1, e2⟩ => ?_
  subst e1; subst e2
  simp only [logO, saysO, diskO, votesO, List.cons_append, List.nil_append]
  refine WK ?_; try with_reducible exact trivial
  have hsl := sortS_len vs
  refine votes_lend (l := sortS vs) (t := .box t_api_Vote (voteC v)) (v := .bool ((sortS vs).any (isMade v))) q nx (by (repeat rw [rget_there (by omega)]); exact rget_here _ _ _) (by (repeat rw [rget_there (by omega)]); exact rget_here _ _ _) (by omega) (noZ_vote v) rfl (by simp -dsimp (disch := omega) only [List.map_cons, List.map_nil, dres, rget_here, rget_there, rget_nil]; exact contains_c hbm (made1_t nx v) (sortS vs) (by omega) (by omega)) fun n2 g2 => ?_
  simp only [votesO]
  refine WK ?_; try with_reducible exact trivial
  refine dret_only [x, s, d] (t := .mk _) ?_
  refine WKR ?_; try with_reducible exact trivial
  exact dret ⟨rfl, rfl⟩
set_option maxRecDepth 100000 in
theorem prepare_l {fs : List FileS} {most k p : Nat} {vs : List VoteS} (hk : DOk fs most k) (hm : most ≤ 65536) (hr : Right1 vs) (hp : p ≤ 2147483647) (hl : vs.length ≤ 1000000) (b : Int) (hb : 1 ≤ b ∧ b ≤ 2147483647) (back : MsgS) {x s d nx : Nat} (hx : x < nx) (hs : s < nx) (hd : d < nx) (h1 : x ≠ s) (h2 : x ≠ d) (h3 : s ≠ d) :
    DCalls Try.prog f_accept_prepare [.hp x 0, iD b, .agg (msgC back)] (logRs x s d p vs fs most) nx (fun d' ro _ => d' = msgsD (prepR fs most p vs b back).1 ∧ ro = logRs x s d (prepR fs most p vs b back).2.1 (prepR fs most p vs b back).2.2.1 (prepR fs most p vs b back).2.2.2 most) := by
  refine xcalls c_accept_prepare (by simp only [m_accept_prepare, List.length]; decide) ?_
  have hbm : hasBody Try.prog f_accept_prepare_1 = true := by kernel_rfl
  simp only [logRs, logO, saysO, diskO, msgC]
  simp only [m_accept_prepare]; refine WK ?_; try with_reducible exact trivial
  refine dcallR [x, s, d] (rin := [(x, logO d s), (s, saysO p vs), (d, diskO fs most)]) (by simp only [logO, saysO, diskO]; simp -dsimp (disch := omega) only [rpick, rget_here, rget_there, rdel_here, rdel_there]; rfl) (promised_l h1 h2 h3) (by simp) fun _ _ n1 g1 ⟨e1, e2⟩ => ?_
  subst e1; subst e2
  simp only [logO, saysO, diskO, List.cons_append, List.nil_append]
  rcases (by omega : b < p ∨ b = p ∨ (p : Int) < b) with hc | hc | hc
  · rw [prepR, if_pos hc]
    refine WK ?_; try with_reducible exact trivial
    refine dcallR [x, s, d] (rin := logRs x s d p vs fs most) (by simp only [logRs, logO, saysO, diskO]; simp -dsimp (disch := omega) only [rpick, rget_here, rget_there, rdel_here, rdel_there]; rfl) (show DCalls Try.prog f_accept_refuse [.hp x 0, .agg (msgC back)] (logRs x s d p vs fs most) n1 (fun d' ro _ => d' = msgsD [refM back p] ∧ ro = logRs x s d p vs fs most) from refuse_l back (by omega) (by omega) (by omega) h1 h2 h3) (by simp) fun _ _ n2 g2 ⟨e1, e2⟩ => ?_
    subst e1; subst e2
    simp only [logRs, logO, saysO, diskO, List.cons_append, List.nil_append]
    refine WK ?_; try with_reducible exact trivial
    refine dret_only [x, s, d] (t := .mk _) ?_
    refine WKR ?_; try with_reducible exact trivial
    exact dret ⟨rfl, rfl⟩
  · rw [prepR, if_neg (by omega), if_neg (by omega)]
    refine WK ?_; try with_reducible exact trivial
    repeat ((first | refine dgc_d' (boolD true) ?_ | refine dldg_f ?_); refine WK ?_; try with_reducible exact trivial)
    have hrV : Right1 vs := hr
    have hlV : vs.length ≤ 1000000 := hl
    refine dcallR [x, s, d] (rin := [(x, logO d s), (s, saysO p vs), (d, diskO fs most)]) (by simp only [logO, saysO, diskO]; simp -dsimp (disch := omega) only [rpick, rget_here, rget_there, rdel_here, rdel_there]; rfl) (votes_l (fs := fs) (most := most) (p := p) (vs := vs) hrV hlV (by omega) (by omega) (by omega) h1 h2 h3) (by simp) fun _ _ m1 f1 ⟨q, q1, q2, e1, e2⟩ => ?_
    subst e1; subst e2
    have hsl := sortS_len vs
    simp only [logO, saysO, diskO, votesO, List.cons_append, List.nil_append]
    refine WK ?_; try with_reducible exact trivial
    refine dcallR [q, nx] (rin := [(q, votesO (sortS vs)), (nx, .box tInt [iD b])]) (by simp only [votesO]; simp -dsimp (disch := omega) only [rpick, rget_here, rget_there, rdel_here, rdel_there]; rfl) (delete_c hbm (prep1_t nx b) (noZ_int b) (sortS vs) (by omega) (by omega) (by omega) (by omega)) (by simp) fun _ _ m2 f2 ⟨e1, e2⟩ => ?_
    subst e1; subst e2
    simp only [List.cons_append, List.nil_append]
    refine WK ?_; try with_reducible exact trivial
    refine dret_frz m2 (by (repeat rw [rget_there (by omega)]); exact rget_here _ _ _) (msgC_plain (prepM back b vs)) ?_
    simp only [rset_here, dresT, List.map_cons, List.map_nil, dres, rget_here]
    refine dret_only [x, s, d] (t := .mk _) ?_
    refine WKR ?_; try with_reducible exact trivial
    exact dret ⟨rfl, rfl⟩
  · rw [prepR, if_neg (by omega), if_pos hc]
    refine WK ?_; try with_reducible exact trivial
    refine dcallR [x, s, d] (rin := [(x, logO d s), (s, saysO p vs), (d, diskO fs most)]) (by simp only [logO, saysO, diskO]; simp -dsimp (disch := omega) only [rpick, rget_here, rget_there, rdel_here, rdel_there]; rfl) (promise_l (b := b) hk hm hr hp (by omega) (by omega) (by omega) h1 h2 h3) (by simp) fun _ _ n2 g2 ⟨e1, e2⟩ => ?_
    subst e1; subst e2
    obtain ⟨hp2, hvs⟩ := promP_mem (fs := fs) (most := most) (p := p) (vs := vs) (vl := vs) b
    have hrV : Right1 (promP fs most p vs b).2 := by rw [hvs]; exact hr
    have hlV : (promP fs most p vs b).2.length ≤ 1000000 := by rw [hvs]; exact hl
    generalize promP fs most p vs b = PP at *
    generalize promF fs most p b = fs2 at *
    generalize promE fs most p b = E2 at *
    obtain ⟨p2, vs2⟩ := PP
    dsimp only at hrV hlV ⊢
    simp only [logO, saysO, diskO, List.cons_append, List.nil_append]
    rcases Nat.eq_zero_or_pos E2 with hE | hE
    · subst hE
      rw [if_pos rfl]
      refine WK ?_; try with_reducible exact trivial
      refine dcallR [x, s, d] (rin := [(x, logO d s), (s, saysO p2 vs2), (d, diskO fs2 most)]) (by simp only [logO, saysO, diskO]; simp -dsimp (disch := omega) only [rpick, rget_here, rget_there, rdel_here, rdel_there]; rfl) (votes_l (fs := fs2) (most := most) (p := p2) (vs := vs2) hrV hlV (by omega) (by omega) (by omega) h1 h2 h3) (by simp) fun _ _ m1 f1 ⟨q, q1, q2, e1, e2⟩ => ?_
      subst e1; subst e2
      have hsl := sortS_len vs2
      simp only [logO, saysO, diskO, votesO, List.cons_append, List.nil_append]
      refine WK ?_; try with_reducible exact trivial
      refine dcallR [q, nx] (rin := [(q, votesO (sortS vs2)), (nx, .box tInt [iD b])]) (by simp only [votesO]; simp -dsimp (disch := omega) only [rpick, rget_here, rget_there, rdel_here, rdel_there]; rfl) (delete_c hbm (prep1_t nx b) (noZ_int b) (sortS vs2) (by omega) (by omega) (by omega) (by omega)) (by simp) fun _ _ m2 f2 ⟨e1, e2⟩ => ?_
      subst e1; subst e2
      simp only [List.cons_append, List.nil_append]
      refine WK ?_; try with_reducible exact trivial
      refine dret_frz m2 (by (repeat rw [rget_there (by omega)]); exact rget_here _ _ _) (msgC_plain (prepM back b vs2)) ?_
      simp only [rset_here, dresT, List.map_cons, List.map_nil, dres, rget_here]
      refine dret_only [x, s, d] (t := .mk _) ?_
      refine WKR ?_; try with_reducible exact trivial
      exact dret ⟨rfl, rfl⟩
    · rw [if_neg (by omega)]
      refine WK ?_; try with_reducible exact trivial
      refine dret_nilv (t' := .mk _) ?_
      refine dret_only [x, s, d] (t := .mk _) ?_
      refine WKR ?_; try with_reducible exact trivial
      exact dret ⟨rfl, rfl⟩
set_option maxRecDepth 100000 in
theorem avote_l {fs : List FileS} {most k p : Nat} {vs : List VoteS} (hk : DOk fs most k) (hm : most ≤ 65536) (hr : Right1 vs) (hp : p ≤ 2147483647) (hl : vs.length ≤ 1000000) (v : VoteS) (back : MsgS) {x s d nx : Nat} (hx : x < nx) (hs : s < nx) (hd : d < nx) (h1 : x ≠ s) (h2 : x ≠ d) (h3 : s ≠ d) :
    DCalls Try.prog f_accept_vote [.hp x 0, .agg (voteC v), .agg (msgC back)] (logRs x s d p vs fs most) nx (fun d' ro _ => d' = msgsD (voteR fs most p vs v back).1 ∧ ro = logRs x s d (voteR fs most p vs v back).2.1 (voteR fs most p vs v back).2.2.1 (voteR fs most p vs v back).2.2.2 most) := by
  refine xcalls c_accept_vote (by simp only [m_accept_vote, List.length]; decide) ?_
  simp only [logRs, logO, saysO, diskO, msgC, voteC]
  simp only [m_accept_vote]; refine WK ?_; try with_reducible exact trivial
  refine dcallR [x, s, d] (rin := [(x, logO d s), (s, saysO p vs), (d, diskO fs most)]) (by simp only [logO, saysO, diskO]; simp -dsimp (disch := omega) only [rpick, rget_here, rget_there, rdel_here, rdel_there]; rfl) (promised_l h1 h2 h3) (by simp only [List.mem_singleton]; rintro i rfl; rw [rget_there (by omega), rget_there (by omega), rget_there (by omega)]; rfl) fun _ _ n1 g1 ⟨e1, e2⟩ => ?_
  subst e1; subst e2
  simp only [logO, saysO, diskO, List.cons_append, List.nil_append]
  rcases (by omega : v.ballot < p ∨ ¬ v.ballot < p) with hc | hc
  · rw [voteR, if_pos hc]
    refine WK ?_; try with_reducible exact trivial
    refine dcallR [x, s, d] (rin := logRs x s d p vs fs most) (by simp only [logRs, logO, saysO, diskO]; simp -dsimp (disch := omega) only [rpick, rget_here, rget_there, rdel_here, rdel_there]; rfl) (show DCalls Try.prog f_accept_refuse [.hp x 0, .agg (msgC back)] (logRs x s d p vs fs most) n1 (fun d' ro _ => d' = msgsD [refM back p] ∧ ro = logRs x s d p vs fs most) from refuse_l back (by omega) (by omega) (by omega) h1 h2 h3) (by simp) fun _ _ n2 g2 ⟨e1, e2⟩ => ?_
    subst e1; subst e2
    simp only [logRs, logO, saysO, diskO, List.cons_append, List.nil_append]
    refine WK ?_; try with_reducible exact trivial
    refine dret_only [x, s, d] (t := .mk _) ?_
    refine WKR ?_; try with_reducible exact trivial
    exact dret ⟨rfl, rfl⟩
  · rw [voteR, if_neg hc]
    refine WK ?_; try with_reducible exact trivial
    refine dcallR [x, s, d] (rin := logRs x s d p vs fs most) (by simp only [logRs, logO, saysO, diskO]; simp -dsimp (disch := omega) only [rpick, rget_here, rget_there, rdel_here, rdel_there]; rfl) (show DCalls Try.prog f_accept_made [.hp x 0, .agg (voteC v)] (logRs x s d p vs fs most) n1 (fun d' ro _ => d' = boolD ((sortS vs).any (isMade v)) ∧ ro = logRs x s d p vs fs most) from made_l hr hl v (by omega) (by omega) (by omega) h1 h2 h3) (by simp) fun _ _ n2 g2 ⟨e1, e2⟩ => ?_
    subst e1; subst e2
    simp only [logRs, logO, saysO, diskO, List.cons_append, List.nil_append]
    cases hM : (sortS vs).any (isMade v) with
    | true =>
      rw [if_pos rfl]
      refine WK ?_; try with_reducible exact trivial
      repeat ((first | refine dgc_d' (boolD true) ?_ | refine dldg_f ?_); refine WK ?_; try with_reducible exact trivial)
      refine dret_frz (n2) (by (repeat rw [rget_there (by omega)]); exact rget_here _ _ _) (msgC_plain (accM back v)) ?_
      simp only [rset_here, dresT, List.map_cons, List.map_nil, dres, rget_here]
      refine dret_only [x, s, d] (t := .mk _) ?_
      refine WKR ?_; try with_reducible exact trivial
      exact dret ⟨rfl, rfl⟩
    | false =>
      rw [if_neg (by decide)]
      refine WK ?_; try with_reducible exact trivial
      refine dcallR [x, s, d] (rin := [(x, logO d s), (s, saysO p vs), (d, diskO fs most)]) (by simp only [logO, saysO, diskO]; simp -dsimp (disch := omega) only [rpick, rget_here, rget_there, rdel_here, rdel_there]; rfl) (show DCalls Try.prog f_log_Log_Vote [.hp x 0, .agg (voteC v)] [(x, logO d s), (s, saysO p vs), (d, diskO fs most)] n2 (fun d' ro _ => d' = iD (voteE fs most p v) ∧ ro = [(x, logO d s), (s, saysO (voteP fs most p vs v).1 (voteP fs most p vs v).2), (d, diskO (voteF fs most p v) most)]) from vote_l (v := v) hk hm hr hp (by omega) (by omega) (by omega) h1 h2 h3) (by simp) fun _ _ n3 g3 ⟨e1, e2⟩ => ?_
      subst e1; subst e2
      generalize voteP fs most p vs v = PP at *
      generalize voteF fs most p v = fs2 at *
      generalize voteE fs most p v = E2 at *
      obtain ⟨p2, vs2⟩ := PP
      dsimp only
      simp only [logO, saysO, diskO, List.cons_append, List.nil_append]
      rcases Nat.eq_zero_or_pos E2 with hE | hE
      · subst hE
        rw [if_pos rfl]
        refine WK ?_; try with_reducible exact trivial
        refine dret_frz (n3) (by (repeat rw [rget_there (by omega)]); exact rget_here _ _ _) (msgC_plain (accM back v)) ?_
        simp only [rset_here, dresT, List.map_cons, List.map_nil, dres, rget_here]
        refine dret_only [x, s, d] (t := .mk _) ?_
        refine WKR ?_; try with_reducible exact trivial
        exact dret ⟨rfl, rfl⟩
      · rw [if_neg (by omega)]
        refine WK ?_; try with_reducible exact trivial
        refine dret_nilv (t' := .mk _) ?_
        refine dret_only [x, s, d] (t := .mk _) ?_
        refine WKR ?_; try with_reducible exact trivial
        exact dret ⟨rfl, rfl⟩
theorem dcall_eq {f : FuncId} {ds ds' : List D} {r : Roots} {nx : Nat} {held : List Nat} {K : D → Roots → Nat → Prop} {t : TagF K} (h : ds = ds') (k : DCall Try.prog f ds' held r nx K t) : DCall Try.prog f ds held r nx K t := by
  subst h
  exact k
set_option maxRecDepth 100000 in
theorem hear_l {fs : List FileS} {most k p : Nat} {vs : List VoteS} (hk : DOk fs most k) (hm : most ≤ 65536) (hr : Right1 vs) (hp : p ≤ 2147483647) (hl : vs.length ≤ 1000000) (me : Int) (m : MsgS) (hml : m.votes.length ≤ 1000000) {x s d nx : Nat} (hx : x < nx) (hs : s < nx) (hd : d < nx) (h1 : x ≠ s) (h2 : x ≠ d) (h3 : s ≠ d) :
    DCalls Try.prog f_accept_Hear [.hp x 0, iD me, .agg (msgC m)] (logRs x s d p vs fs most) nx (fun d' ro _ => d' = msgsD (hearR fs most p vs me m).1 ∧ ro = logRs x s d (hearR fs most p vs me m).2.1 (hearR fs most p vs me m).2.2.1 (hearR fs most p vs me m).2.2.2 most) := by
  refine xcalls c_accept_Hear (by simp only [m_accept_Hear, List.length]; decide) ?_
  simp only [logRs, logO, saysO, diskO, msgC]
  simp only [m_accept_Hear]; refine WK ?_; try with_reducible exact trivial
  refine dfun (show DFun Try.prog f_msg_Right [.agg (msgC m)] (boolD (decide (RightMsg m))) from mright_d m hml) fun n1 g1 => ?_
  unfold hearR
  by_cases hR : RightMsg m
  · rw [decide_eq_true hR]
    rcases (by omega : m.to ≠ me ∨ m.to = me) with ht | ht
    · rw [if_neg (fun h => ht h.2)]
      refine WK ?_; try with_reducible exact trivial
      repeat ((first | refine dgc_d' (boolD true) ?_ | refine dldg_f ?_); refine WK ?_; try with_reducible exact trivial)
      refine dret_nilv (t' := .mk _) ?_
      refine dret_only [x, s, d] (t := .mk _) ?_
      refine WKR ?_; try with_reducible exact trivial
      exact dret ⟨rfl, rfl⟩
    · rw [if_pos ⟨hR, ht⟩]
      rcases (by omega : m.kind = 1 ∨ (m.kind ≠ 1 ∧ m.kind = 3) ∨ (m.kind ≠ 1 ∧ m.kind ≠ 3)) with e | ⟨e, e2⟩ | ⟨e, e2⟩
      · rw [if_pos e]
        have hb := hR.2.2.2.1
        refine WK ?_; try with_reducible exact trivial
        refine dcall_nila (t' := .mk _) ?_
        refine dcall_eq (ds' := [.hp x 0, iD m.ballot, .agg (msgC (backM me m))]) (by with_unfolding_all rfl) ?_
        refine dcallR [x, s, d] (rin := logRs x s d p vs fs most) (by simp only [logRs, logO, saysO, diskO]; simp -dsimp (disch := omega) only [rpick, rget_here, rget_there, rdel_here, rdel_there]; rfl) (prepare_l hk hm hr hp hl m.ballot hb (backM me m) (by omega) (by omega) (by omega) h1 h2 h3) (by simp) fun _ _ n2 g2 ⟨e1, e2⟩ => ?_
        subst e1; subst e2
        generalize prepR fs most p vs m.ballot (backM me m) = R at *
        simp only [logRs, logO, saysO, diskO, List.cons_append, List.nil_append]
        refine WK ?_; try with_reducible exact trivial
        refine dret_only [x, s, d] (t := .mk _) ?_
        refine WKR ?_; try with_reducible exact trivial
        exact dret ⟨rfl, rfl⟩
      · rw [if_neg e, if_pos e2]
        refine WK ?_; try with_reducible exact trivial
        refine dcall_nila (t' := .mk _) ?_
        refine dcall_eq (ds' := [.hp x 0, .agg (voteC m.vote), .agg (msgC (backM me m))]) (by with_unfolding_all rfl) ?_
        refine dcallR [x, s, d] (rin := logRs x s d p vs fs most) (by simp only [logRs, logO, saysO, diskO]; simp -dsimp (disch := omega) only [rpick, rget_here, rget_there, rdel_here, rdel_there]; rfl) (avote_l hk hm hr hp hl m.vote (backM me m) (by omega) (by omega) (by omega) h1 h2 h3) (by simp) fun _ _ n2 g2 ⟨e3, e4⟩ => ?_
        subst e3; subst e4
        generalize voteR fs most p vs m.vote (backM me m) = R at *
        simp only [logRs, logO, saysO, diskO, List.cons_append, List.nil_append]
        refine WK ?_; try with_reducible exact trivial
        refine dret_only [x, s, d] (t := .mk _) ?_
        refine WKR ?_; try with_reducible exact trivial
        exact dret ⟨rfl, rfl⟩
      · rw [if_neg e, if_neg e2]
        refine WK ?_; try with_reducible exact trivial
        refine dret_nilv (t' := .mk _) ?_
        refine dret_only [x, s, d] (t := .mk _) ?_
        refine WKR ?_; try with_reducible exact trivial
        exact dret ⟨rfl, rfl⟩
  · rw [decide_eq_false hR, if_neg (fun h => hR h.1)]
    refine WK ?_; try with_reducible exact trivial
    repeat ((first | refine dgc_d' (boolD true) ?_ | refine dldg_f ?_); refine WK ?_; try with_reducible exact trivial)
    refine dret_nilv (t' := .mk _) ?_
    refine dret_only [x, s, d] (t := .mk _) ?_
    refine WKR ?_; try with_reducible exact trivial
    exact dret ⟨rfl, rfl⟩
end Go.Proofs.Ytgpkbldlkadnjaa
end
section
/- Contracts over data: layer 21: what the law wants. -/
set_option linter.unusedVariables false
set_option linter.unusedSimpArgs false
set_option maxHeartbeats 3000000
attribute [local irreducible] Go.Sl.Chk Go.Sl.Br Go.Sl.Or2 Go.Sl.Ld Go.Sl.Ldn Go.Sl.LdB Go.Sl.Stn Go.Sl.New Go.Sl.Run Go.Sl.RunU Go.Sl.RunX Go.Sl.Call Go.Sl.LoopK Go.Sl.RawK Go.Sl.Alt Go.Sl.Om Go.Sl.xpk Go.Sl.xgpk Go.Sl.xglk Go.Sl.DLd Go.Sl.DLdG Go.Sl.DBs Go.Sl.DCall Go.Sl.DApp Go.Sl.DGen Go.Sl.DGenU Go.Sl.DGC Go.Sl.DLoop Go.Sl.DRaw Go.Sl.DRet Go.Sl.Ent Go.Sl.dget Go.Sl.dv Go.Sl.ev Go.Sl.eget
namespace Go.Proofs.Ytgpkbldlkadnjaa
open Go Go.Sl Go.RowKit
def msgC0 (m : MsgS) (c : D) : List D := [iD m.kind, iD m.frm, iD m.to, iD m.ballot, iD m.slot, iD m.vote.slot, iD m.vote.ballot, iD m.vote.origin, boolD m.vote.full, strD m.vote.bytes, c]
theorem msgC0_frz (m : MsgS) : frzOk (.row t_api_Msg 11 1 (msgC0 m (.row t_api_Vote 5 m.votes.length (votesC m.votes)))) ∧ frzR (.row t_api_Msg 11 1 (msgC0 m (.row t_api_Vote 5 m.votes.length (votesC m.votes)))) = msgsD [m] := by
  have h := frzL_plain (votesC_plain m.votes)
  refine ⟨?_, ?_⟩
  · simp only [frzOk, msgC0, frzOkL]
    exact ⟨trivial, trivial, trivial, trivial, trivial, trivial, trivial, trivial, trivial, trivial, h.2, trivial⟩
  · simp only [frzR, frz, msgC0, frzL, h.1]
    rfl
theorem dret_msg0 {r : Roots} {nx : Nat} {a : Value} {n : Nat} {l : List D} (k : Nat) (m : MsgS) (hm : m.votes = []) (hg : rget r k = some (.row t_api_Msg 11 1 (msgC0 m (.sc (.slice none 0 0))))) {t} : DRet (.tup [.h k, .sc a, .sl n l]) r nx (fun d ro _ => d = .tup [msgsD [m], .sc a, .sl n l] ∧ ro = []) t := by
  have h0 := RT.nilrow k 10 t_api_Vote 5 (c := .row t_api_Msg 11 1 (msgC0 m (.sc (.slice none 0 0)))) hg rfl rfl
  have e : withKids (.row t_api_Msg 11 1 (msgC0 m (.sc (.slice none 0 0)))) ((msgC0 m (.sc (.slice none 0 0))).set 10 (.row t_api_Vote 5 0 [])) = .row t_api_Msg 11 1 (msgC0 m (.row t_api_Vote 5 m.votes.length (votesC m.votes))) := by rw [hm]; rfl
  rw [e] at h0
  have hf := msgC0_frz m
  have h1 := RT.frz (r := rset r k (.row t_api_Msg 11 1 (msgC0 m (.row t_api_Vote 5 m.votes.length (votesC m.votes))))) k (rget_rset_at hg) hf.1
  rw [hf.2] at h1
  refine dret_rt (t' := .mk _) (h0.trans h1) ?_
  refine dret_view (t' := .mk _) ?_
  simp only [dresT, List.map_cons, List.map_nil, dres, rget_rset_at (rget_rset_at hg)]
  exact dret0 ⟨rfl, rfl⟩
theorem dret_msgq {r : Roots} {nx : Nat} {a : Value} {n : Nat} {l : List D} (k q : Nat) (m : MsgS) (hne : q ≠ k) (hg : rget r k = some (.row t_api_Msg 11 1 (msgC0 m (.h q)))) (hq : rget r q = some (votesO m.votes)) {t} : DRet (.tup [.h k, .sc a, .sl n l]) r nx (fun d ro _ => d = .tup [msgsD [m], .sc a, .sl n l] ∧ ro = []) t := by
  have h0 := RT.fold q k 10 (d := votesO m.votes) (c := .row t_api_Msg 11 1 (msgC0 m (.h q))) (l := msgC0 m (.h q)) hq hne hg rfl rfl
  have e : withKids (.row t_api_Msg 11 1 (msgC0 m (.h q))) ((msgC0 m (.h q)).set 10 (votesO m.votes)) = .row t_api_Msg 11 1 (msgC0 m (.row t_api_Vote 5 m.votes.length (votesC m.votes))) := rfl
  rw [e] at h0
  have hf := msgC0_frz m
  have hg2 : rget (rdel r q) k = some (.row t_api_Msg 11 1 (msgC0 m (.h q))) := (rget_rdel hne).trans hg
  have h1 := RT.frz (r := rset (rdel r q) k (.row t_api_Msg 11 1 (msgC0 m (.row t_api_Vote 5 m.votes.length (votesC m.votes))))) k (rget_rset_at hg2) hf.1
  rw [hf.2] at h1
  refine dret_rt (t' := .mk _) (h0.trans h1) ?_
  refine dret_view (t' := .mk _) ?_
  simp only [dresT, List.map_cons, List.map_nil, dres, rget_rset_at (rget_rset_at hg2)]
  exact dret0 ⟨rfl, rfl⟩
def isMadeW (m : MsgS) (x : VoteS) : Bool := decide (x.slot = m.vote.slot) && (decide (x.ballot = m.ballot) && decide (x.origin = m.vote.origin))
/-- what is answered, by the promised ballot and the votes; what is promised, and voted then -/
def wantR (p : Int) (W : List VoteS) (me : Int) (m : MsgS) : List MsgS × Int × List VoteS :=
  if (RightMsg m ∧ m.to = me) ∧ (m.kind = 1 ∨ m.kind = 3) then
    if m.ballot < p then ([⟨5, me, m.frm, p, 0, zeroV, []⟩], p, W)
    else if m.kind = 3 then ([⟨4, me, m.frm, m.ballot, m.vote.slot, zeroV, []⟩], m.ballot, if W.any (isMadeW m) = true then W else put1 W m.vote)
    else ([⟨2, me, m.frm, m.ballot, 0, zeroV, W.filter fun v => decide (v.ballot < m.ballot)⟩], m.ballot, W)
  else ([], p, W)
set_option maxRecDepth 100000 in
theorem wanted_d (p : Int) (W : List VoteS) (hW : W.length ≤ 900000) (me : Int) (m : MsgS) (hml : m.votes.length ≤ 1000000) : DFun Try.prog f_law21_wanted [iD p, votesD W, iD me, .agg (msgC m)] (.tup [msgsD (wantR p W me m).1, iD (wantR p W me m).2.1, votesD (wantR p W me m).2.2]) := by
  intro nx
  refine xcalls c_law21_wanted (by simp only [m_law21_wanted, List.length]; decide) ?_
  simp only [msgC]
  simp only [m_law21_wanted]; refine WK ?_; try with_reducible exact trivial
  refine dfun (show DFun Try.prog f_ref19_Right [.agg (msgC m)] (boolD (decide (RightMsg m))) from rright19_d m hml) fun n1 g1 => ?_
  unfold wantR
  by_cases hR : RightMsg m
  · rw [decide_eq_true hR]
    rcases (by omega : m.to ≠ me ∨ (m.to = me ∧ (m.kind ≠ 1 ∧ m.kind ≠ 3)) ∨ (m.to = me ∧ (m.kind = 1 ∨ m.kind = 3))) with ht | ⟨ht, hk⟩ | ⟨ht, hk⟩
    · rw [if_neg (fun h => ht h.1.2)]
      rcases (by omega : m.kind = 1 ∨ (m.kind ≠ 1 ∧ m.kind = 3) ∨ (m.kind ≠ 1 ∧ m.kind ≠ 3)) with g | ⟨g, g2⟩ | ⟨g, g2⟩ <;>
        (refine WK ?_; try with_reducible exact trivial
         repeat ((first | refine dgc_d' (boolD true) ?_ | refine dldg_f ?_); refine WK ?_; try with_reducible exact trivial)
         refine dret_nilv (t' := .mk _) ?_
         exact dret0 ⟨rfl, rfl⟩)
    · rw [if_neg (fun h => by have := h.2; omega)]
      refine WK ?_; try with_reducible exact trivial
      repeat ((first | refine dgc_d' (boolD true) ?_ | refine dldg_f ?_); refine WK ?_; try with_reducible exact trivial)
      refine dret_nilv (t' := .mk _) ?_
      exact dret0 ⟨rfl, rfl⟩
    · rw [if_pos ⟨⟨hR, ht⟩, hk⟩]
      rcases (by omega : m.ballot < p ∨ ¬ m.ballot < p) with hb | hb
      · rw [if_pos hb]
        rcases (by omega : m.kind = 1 ∨ (m.kind ≠ 1 ∧ m.kind = 3)) with g | ⟨g, g2⟩ <;>
          (refine WK ?_; try with_reducible exact trivial
           repeat ((first | refine dgc_d' (boolD true) ?_ | refine dldg_f ?_); refine WK ?_; try with_reducible exact trivial)
           exact dret_msg0 n1 ⟨5, me, m.frm, p, 0, zeroV, []⟩ rfl (by (repeat rw [rget_there (by omega)]); exact rget_here _ _ _))
      · rw [if_neg hb]
        rcases hk with g | g
        · rw [if_neg (by omega)]
          refine WK ?_; try with_reducible exact trivial
          repeat ((first | refine dgc_d' (boolD true) ?_ | refine dldg_f ?_); refine WK ?_; try with_reducible exact trivial)
          have h0 : RT [(nx + 1, .box t_api_Msg (msgC0 ⟨2, me, m.frm, m.ballot, 0, zeroV, []⟩ (.sc (.slice none 0 0)))), (nx, .box t_api_Msg (msgC m))] [(nx + 1, .box t_api_Msg (msgC0 ⟨2, me, m.frm, m.ballot, 0, zeroV, []⟩ (.row t_api_Vote 5 0 []))), (nx, .box t_api_Msg (msgC m))] := by
            have := RT.nilrow (r := [(nx + 1, .box t_api_Msg (msgC0 ⟨2, me, m.frm, m.ballot, 0, zeroV, []⟩ (.sc (.slice none 0 0)))), (nx, .box t_api_Msg (msgC m))]) (nx + 1) 10 t_api_Vote 5 (rget_here _ _ _) rfl rfl
            rw [rset_here] at this
            exact this
          have h1 : ∀ de, Ent de [(nx + 1, .box t_api_Msg (msgC0 ⟨2, me, m.frm, m.ballot, 0, zeroV, []⟩ (.row t_api_Vote 5 0 []))), (nx, .box t_api_Msg (msgC m))] n1 de [(n1, votesO []), (nx + 1, .box t_api_Msg (msgC0 ⟨2, me, m.frm, m.ballot, 0, zeroV, []⟩ (.h n1))), (nx, .box t_api_Msg (msgC m))] (n1 + 1) := fun de => by
            have := Ent.out (de := de) (nx := n1) (r := [(nx + 1, .box t_api_Msg (msgC0 ⟨2, me, m.frm, m.ballot, 0, zeroV, []⟩ (.row t_api_Vote 5 0 []))), (nx, .box t_api_Msg (msgC m))]) (nx + 1) 10 (Cont.box t_api_Msg) (rget_here _ _ _) rfl
            rw [rset_here] at this
            exact this
          refine dloop [1, 7, 11, 14] (fun s : Nat × Nat × Nat => ([(1, votesD W), (7, .hp nx 0), (11, .hp (nx + 1) 0), (14, iD (s.1 : Nat))], [(s.2.1, votesO ((W.take s.1).filter fun v => decide (v.ballot < m.ballot))), (nx + 1, .box t_api_Msg (msgC0 ⟨2, me, m.frm, m.ballot, 0, zeroV, []⟩ (.h s.2.1))), (nx, .box t_api_Msg (msgC m))], s.2.2)) (fun s => s.1 ≤ W.length ∧ nx + 1 < s.2.1 ∧ s.2.1 < s.2.2) (fun s => W.length - s.1) (0, n1, n1 + 1) ⟨by omega, by dsimp only; omega, by dsimp only; omega⟩ ((Ent.of_rt h0).trans ((h1 _).trans (Ent.of (by with_unfolding_all rfl) rfl))) ?_
          rintro ⟨k, q, n⟩ ⟨q1, q2, q3⟩
          dsimp only at q1 q2 q3 ⊢
          simp only [msgC0, msgC, votesO]
          refine WK ?_; try with_reducible exact trivial
          refine brd (fun hlt => ?_) (fun hge => ?_)
          · have hkl : k < W.length := by omega
            have e1 := votes_get W (k := 1) hkl (by omega)
            simp only [voteC, List.getElem?_cons_zero, List.getElem?_cons_succ] at e1
            have hta : ((votesC W).drop (k * 5)).take 5 = [iD (gt W k).slot, iD (gt W k).ballot, iD (gt W k).origin, boolD (gt W k).full, strD (gt W k).bytes] := flatC_take voteC_len W hkl
            have h5 : 5 ≤ ((votesC W).drop (k * 5)).length := by rw [List.length_drop, votesC_length]; omega
            have hfl := List.length_filter_le (fun v : VoteS => decide (v.ballot < m.ballot)) (W.take k)
            rw [List.length_take] at hfl
            by_cases hc : (gt W k).ballot < m.ballot
            · have hfs : (W.take (k + 1)).filter (fun v => decide (v.ballot < m.ballot)) = (W.take k).filter (fun v => decide (v.ballot < m.ballot)) ++ [gt W k] := by rw [take_gt hkl, List.filter_append]; simp [hc]
              refine WKX (And.intro @e1 @hta) ?_; try with_reducible exact trivial
              refine dapp_vote ((W.take k).filter fun v => decide (v.ballot < m.ballot)) (gt W k) n (i := q) (by (repeat rw [rget_there (by omega)]); exact rget_here _ _ _) (by (repeat rw [rget_there (by omega)]); exact rget_here _ _ _) (by omega) (by simp only [List.mem_cons, List.not_mem_nil, or_false, not_false_eq_true]; try omega) ?_
              refine WK ?_; try with_reducible exact trivial
              rw [← hfs]
              exact ⟨(k + 1, n + 1, n + 2), ⟨by dsimp only; omega, by dsimp only; omega, by dsimp only; omega⟩, by dsimp only; omega, (Ent.only [n + 1, nx + 1, nx] _ _ _).trans (by simp -dsimp (disch := omega) only [rpick, rget_here, rget_there, rdel_here, rdel_there]; exact (Ent.of (by with_unfolding_all rfl) rfl))⟩
            · have hfs : (W.take (k + 1)).filter (fun v => decide (v.ballot < m.ballot)) = (W.take k).filter (fun v => decide (v.ballot < m.ballot)) := by rw [take_gt hkl, List.filter_append]; simp [hc]
              refine WKX @e1 ?_; try with_reducible exact trivial
              refine ⟨(k + 1, q, n), ⟨by dsimp only; omega, by dsimp only; omega, by dsimp only; omega⟩, by dsimp only; omega, ?_⟩
              dsimp only
              rw [hfs]
              exact (Ent.of (by with_unfolding_all rfl) rfl)
          · rw [List.take_of_length_le (show W.length ≤ k by omega)]
            refine WK ?_; try with_reducible exact trivial
            exact dret_msgq n q ⟨2, me, m.frm, m.ballot, 0, zeroV, W.filter fun v => decide (v.ballot < m.ballot)⟩ (by omega) (by (repeat rw [rget_there (by omega)]); exact rget_here _ _ _) (by (repeat rw [rget_there (by omega)]); exact rget_here _ _ _)
        · rw [if_pos g]
          refine WK ?_; try with_reducible exact trivial
          repeat ((first | refine dgc_d' (boolD true) ?_ | refine dldg_f ?_); refine WK ?_; try with_reducible exact trivial)
          refine dloop [1, 7, 11, 12] (fun s : Nat × Nat => ([(1, votesD W), (7, .hp nx 0), (11, .hp (nx + 1) 0), (12, iD (s.1 : Nat))], [(nx + 1, .box t_api_Msg (msgC0 ⟨4, me, m.frm, m.ballot, m.vote.slot, zeroV, []⟩ (.sc (.slice none 0 0)))), (nx, .box t_api_Msg (msgC m))], s.2)) (fun s => s.1 ≤ W.length ∧ nx + 1 < s.2 ∧ (W.take s.1).any (isMadeW m) = false) (fun s => W.length - s.1) (0, n1) ⟨by omega, by dsimp only; omega, by simp⟩ (Ent.of (by with_unfolding_all rfl) rfl) ?_
          rintro ⟨k, n⟩ ⟨q1, q2, q3⟩
          dsimp only at q1 q2 q3 ⊢
          simp only [msgC0, msgC]
          refine WK ?_; try with_reducible exact trivial
          refine brd (fun hlt => ?_) (fun hge => ?_)
          · have hkl : k < W.length := by omega
            have hta : ((votesC W).drop (k * 5)).take 5 = [iD (gt W k).slot, iD (gt W k).ballot, iD (gt W k).origin, boolD (gt W k).full, strD (gt W k).bytes] := flatC_take voteC_len W hkl
            have h5 : 5 ≤ ((votesC W).drop (k * 5)).length := by rw [List.length_drop, votesC_length]; omega
            have hstep : isMadeW m (gt W k) = false → (W.take (k + 1)).any (isMadeW m) = false := fun h => by rw [take_gt hkl, List.any_append, q3, List.any_cons, h]; rfl
            have hnext : isMadeW m (gt W k) = false → (k + 1 ≤ W.length ∧ nx + 1 < n + 1 ∧ (W.take (k + 1)).any (isMadeW m) = false) := fun h => ⟨by omega, by omega, hstep h⟩
            by_cases c1 : (gt W k).slot = m.vote.slot
            · by_cases c2 : (gt W k).ballot = m.ballot
              · by_cases c3 : (gt W k).origin = m.vote.origin
                · have hany : W.any (isMadeW m) = true := by
                    rw [List.any_eq_true]
                    exact ⟨gt W k, by rw [gt_eq hkl]; exact List.getElem_mem _, by unfold isMadeW; rw [decide_eq_true c1, decide_eq_true c2, decide_eq_true c3]; rfl⟩
                  rw [if_pos hany]
                  refine WKX @hta ?_; try with_reducible exact trivial
                  repeat ((first | refine dgc_d' (boolD true) ?_ | refine dldg_f ?_); refine WK ?_; try with_reducible exact trivial)
                  exact dret_msg0 (n + 1) ⟨4, me, m.frm, m.ballot, m.vote.slot, zeroV, []⟩ rfl (by (repeat rw [rget_there (by omega)]); exact rget_here _ _ _)
                · refine WKX @hta ?_; try with_reducible exact trivial
                  repeat ((first | refine dgc_d' (boolD true) ?_ | refine dldg_f ?_); refine WK ?_; try with_reducible exact trivial)
                  exact ⟨(k + 1, n + 1), hnext (by unfold isMadeW; rw [decide_eq_false c3, Bool.and_false, Bool.and_false]), by dsimp only; omega, (Ent.only [nx + 1, nx] _ _ _).trans (by simp -dsimp (disch := omega) only [rpick, rget_here, rget_there, rdel_here, rdel_there]; exact (Ent.of (by with_unfolding_all rfl) rfl))⟩
              · refine WKX @hta ?_; try with_reducible exact trivial
                repeat ((first | refine dgc_d' (boolD true) ?_ | refine dldg_f ?_); refine WK ?_; try with_reducible exact trivial)
                exact ⟨(k + 1, n + 1), hnext (by unfold isMadeW; rw [decide_eq_false c2, Bool.false_and, Bool.and_false]), by dsimp only; omega, (Ent.only [nx + 1, nx] _ _ _).trans (by simp -dsimp (disch := omega) only [rpick, rget_here, rget_there, rdel_here, rdel_there]; exact (Ent.of (by with_unfolding_all rfl) rfl))⟩
            · refine WKX @hta ?_; try with_reducible exact trivial
              repeat ((first | refine dgc_d' (boolD true) ?_ | refine dldg_f ?_); refine WK ?_; try with_reducible exact trivial)
              exact ⟨(k + 1, n + 1), hnext (by unfold isMadeW; rw [decide_eq_false c1, Bool.false_and]), by dsimp only; omega, (Ent.only [nx + 1, nx] _ _ _).trans (by simp -dsimp (disch := omega) only [rpick, rget_here, rget_there, rdel_here, rdel_there]; exact (Ent.of (by with_unfolding_all rfl) rfl))⟩
          · rw [List.take_of_length_le (show W.length ≤ k by omega)] at q3
            rw [if_neg (by rw [q3]; decide)]
            have hput : DFun Try.prog f_ref17_Put1 [votesD W, .agg [iD m.vote.slot, iD m.vote.ballot, iD m.vote.origin, boolD m.vote.full, strD m.vote.bytes]] (votesD (put1 W m.vote)) := put1_d W m.vote hW
            refine WK ?_; try with_reducible exact trivial
            refine alt2 ?_ ?_
            · refine WK ?_; try with_reducible exact trivial
              refine dfun hput fun n2 g2 => ?_
              refine WK ?_; try with_reducible exact trivial
              exact dret_msg0 n ⟨4, me, m.frm, m.ballot, m.vote.slot, zeroV, []⟩ rfl (by (repeat rw [rget_there (by omega)]); exact rget_here _ _ _)
            · refine WK ?_; try with_reducible exact trivial
              refine dfun hput fun n2 g2 => ?_
              refine WK ?_; try with_reducible exact trivial
              exact dret_msg0 n2 ⟨4, me, m.frm, m.ballot, m.vote.slot, zeroV, []⟩ rfl (by (repeat rw [rget_there (by omega)]); exact rget_here _ _ _)
  · rw [decide_eq_false hR, if_neg (fun h => hR h.1.1)]
    rcases (by omega : m.kind = 1 ∨ (m.kind ≠ 1 ∧ m.kind = 3) ∨ (m.kind ≠ 1 ∧ m.kind ≠ 3)) with g | ⟨g, g2⟩ | ⟨g, g2⟩ <;>
      (refine WK ?_; try with_reducible exact trivial
       repeat ((first | refine dgc_d' (boolD true) ?_ | refine dldg_f ?_); refine WK ?_; try with_reducible exact trivial)
       refine dret_nilv (t' := .mk _) ?_
       exact dret0 ⟨rfl, rfl⟩)
end Go.Proofs.Ytgpkbldlkadnjaa
end
section
/- Plain: what a replica answers beside what the law wants, on a disk with room. -/
set_option linter.unusedVariables false
set_option linter.unusedSimpArgs false
set_option maxHeartbeats 2000000
namespace Go.Proofs.Ytgpkbldlkadnjaa
open Go Go.Sl
theorem promE_room {most : Nat} {l : LL} {p : Nat} {vs : List VoteS} {fs : List FileS} (h : LogSt most l p vs fs) {b : Int} (hb : 1 ≤ b ∧ b ≤ 2147483647) (hp : (p : Int) < b) (hm : (frames l).length + 556 ≤ most) :
    promE fs most p b = 0 ∧ promP fs most p vs b = (b.toNat, vs) := by
  have ho := od_add h.disk (most := most) (rec := promiseB b.toNat) (by rw [promiseB_len]; omega)
  have hok : promOk p b := ⟨hb, hp⟩
  refine ⟨by rw [promE, if_pos hok]; exact ho.1, ?_⟩
  rw [promP, if_pos hok, addS_ok ho.1, getV_promiseB (by omega)]
  simp only [takeS]
  rw [Nat.max_eq_right (by omega)]
theorem voteE_room {most : Nat} {l : LL} {p : Nat} {vs : List VoteS} {fs : List FileS} (h : LogSt most l p vs fs) {v : VoteS} (hv : RightV v) (hp : (p : Int) ≤ v.ballot) (hm : (frames l).length + 556 ≤ most) :
    voteE fs most p v = 0 ∧ voteP fs most p vs v = (v.ballot.toNat, putS vs v) := by
  have hs := voteB_size hv
  have ho := od_add h.disk (most := most) (rec := voteB v) (by omega)
  refine ⟨by rw [voteE, if_pos ⟨hv, hp⟩]; exact ho.1, ?_⟩
  rw [voteP, if_pos ⟨hv, hp⟩, addS_ok ho.1, getV_voteB hv]
  simp only [takeS]
  rw [Nat.max_eq_right (by omega)]
theorem filter_lt (b : Int) (l : List VoteS) : (l.filter fun v => !decide (b ≤ v.ballot)) = l.filter fun v => decide (v.ballot < b) := by
  congr 1
  funext v
  by_cases h : b ≤ v.ballot
  · rw [decide_eq_true h, decide_eq_false (by omega)]; rfl
  · rw [decide_eq_false h, decide_eq_true (by omega)]; rfl
/-- what is heard: as the law wants it -/
structure HearOk (most : Nat) (l : LL) (p : Nat) (vs : List VoteS) (fs : List FileS) (me : Int) (m : MsgS) : Prop where
  ans : (hearR fs most p vs me m).1 = (wantR p (sortS vs) me m).1
  prom : ((hearR fs most p vs me m).2.1 : Int) = (wantR p (sortS vs) me m).2.1
  votes : sortS (hearR fs most p vs me m).2.2.1 = (wantR p (sortS vs) me m).2.2
  st : ∃ l', LogSt most l' (hearR fs most p vs me m).2.1 (hearR fs most p vs me m).2.2.1 (hearR fs most p vs me m).2.2.2 ∧ (frames l').length ≤ (frames l).length + 556 ∧ (m.kind = 1 → (frames l').length ≤ (frames l).length + 20)
  len : (hearR fs most p vs me m).2.2.1.length ≤ vs.length + 1
  again : hearR (hearR fs most p vs me m).2.2.2 most (hearR fs most p vs me m).2.1 (hearR fs most p vs me m).2.2.1 me m = hearR fs most p vs me m
theorem hear_same {most : Nat} {l : LL} {p : Nat} {vs : List VoteS} {fs : List FileS} {me : Int} {m : MsgS} (h : LogSt most l p vs fs) {a : List MsgS} (e1 : hearR fs most p vs me m = (a, p, vs, fs)) (e2 : wantR p (sortS vs) me m = (a, (p : Int), sortS vs)) : HearOk most l p vs fs me m := by
  refine ⟨by rw [e1, e2], by rw [e1, e2], by rw [e1, e2], ⟨l, by rw [e1]; exact h, by omega, fun _ => by omega⟩, by rw [e1]; simp, ?_⟩
  rw [e1]
  exact e1
theorem hear_ok {most : Nat} {l : LL} {p : Nat} {vs : List VoteS} {fs : List FileS} (me : Int) (m : MsgS) (h : LogSt most l p vs fs) (hm : (frames l).length + 556 ≤ most) : HearOk most l p vs fs me m := by
  by_cases hR : RightMsg m ∧ m.to = me
  · have hb := hR.1.2.2.2.1
    by_cases hk1 : m.kind = 1
    · rcases (by omega : m.ballot < p ∨ m.ballot = p ∨ (p : Int) < m.ballot) with hc | hc | hc
      · refine hear_same h (a := [refM (backM me m) p]) ?_ ?_
        · rw [hearR, if_pos hR, if_pos hk1, prepR, if_pos hc]
        · rw [wantR, if_pos ⟨hR, .inl hk1⟩, if_pos hc]; rfl
      · refine hear_same h (a := [prepM (backM me m) m.ballot vs]) ?_ ?_
        · rw [hearR, if_pos hR, if_pos hk1, prepR, if_neg (by omega), if_neg (by omega)]
        · rw [wantR, if_pos ⟨hR, .inl hk1⟩, if_neg (by omega), if_neg (by omega), hc]
          simp only [prepM, backM, filter_lt, hc]
      · obtain ⟨r1, r2⟩ := promE_room h hb hc hm
        have e1 : hearR fs most p vs me m = ([prepM (backM me m) m.ballot vs], m.ballot.toNat, vs, promF fs most p m.ballot) := by
          rw [hearR, if_pos hR, if_pos hk1, prepR, if_neg (by omega), if_pos hc, if_pos r1, r2]
        have e2 : wantR p (sortS vs) me m = ([prepM (backM me m) m.ballot vs], m.ballot, sortS vs) := by
          rw [wantR, if_pos ⟨hR, .inl hk1⟩, if_neg (by omega), if_neg (by omega)]
          simp only [prepM, backM, filter_lt]
        obtain ⟨l', z1, z2, z3, z4⟩ := st_promise h m.ballot (by omega)
        rw [r2] at z1
        refine ⟨by rw [e1, e2], by rw [e1, e2]; dsimp only; omega, by rw [e1, e2], ⟨l', by rw [e1]; exact z1, by omega, fun _ => by omega⟩, by rw [e1]; simp, ?_⟩
        rw [e1]
        dsimp only
        rw [hearR, if_pos hR, if_pos hk1, prepR, if_neg (by omega), if_neg (by omega)]
    · by_cases hk3 : m.kind = 3
      · obtain ⟨hv, hvb⟩ := hR.1.2.2.2.2.2.1 hk3
        have hiso : ∀ W : List VoteS, W.any (isMade m.vote) = W.any (isMadeW m) := fun W => by
          congr 1
          funext x
          unfold isMade isMadeW
          rw [hvb]
        have hacc : accM (backM me m) m.vote = ⟨4, me, m.frm, m.ballot, m.vote.slot, zeroV, []⟩ := by simp only [accM, backM, hvb]
        by_cases hc : m.ballot < p
        · refine hear_same h (a := [refM (backM me m) p]) ?_ ?_
          · rw [hearR, if_pos hR, if_neg hk1, if_pos hk3, voteR, if_pos (by omega)]
          · rw [wantR, if_pos ⟨hR, .inr hk3⟩, if_pos hc]; rfl
        · by_cases hM : (sortS vs).any (isMade m.vote) = true
          · have e1 : hearR fs most p vs me m = ([accM (backM me m) m.vote], p, vs, fs) := by
              rw [hearR, if_pos hR, if_neg hk1, if_pos hk3, voteR, if_neg (by omega), if_pos hM]
            have hpb : (p : Int) = m.ballot := by
              rw [List.any_eq_true] at hM
              obtain ⟨x, hx, hx2⟩ := hM
              have hxv := (sortS_perm h.log.nodup).mem_iff.1 hx
              have h1 := h.log.top x hxv
              simp only [isMade, Bool.and_eq_true, decide_eq_true_eq] at hx2
              omega
            refine hear_same h (a := [accM (backM me m) m.vote]) e1 ?_
            rw [wantR, if_pos ⟨hR, .inr hk3⟩, if_neg hc, if_pos hk3, if_pos (by rw [← hiso]; exact hM), hacc, hpb]
          · obtain ⟨r1, r2⟩ := voteE_room h hv (by omega) hm
            have hall : ∀ u ∈ vs, u.slot = m.vote.slot → u.ballot ≤ m.vote.ballot := fun u hu _ => by have := h.log.top u hu; omega
            have e1 : hearR fs most p vs me m = ([accM (backM me m) m.vote], m.vote.ballot.toNat, putS vs m.vote, voteF fs most p m.vote) := by
              rw [hearR, if_pos hR, if_neg hk1, if_pos hk3, voteR, if_neg (by omega), if_neg hM, if_pos r1, r2]
            have e2 : wantR p (sortS vs) me m = ([accM (backM me m) m.vote], m.ballot, sortS (putS vs m.vote)) := by
              rw [wantR, if_pos ⟨hR, .inr hk3⟩, if_neg hc, if_pos hk3, if_neg (by rw [← hiso]; exact hM), hacc, put1_sort h.log.nodup hall]
            obtain ⟨l', z1, z2, z3, z4⟩ := st_vote h m.vote (by omega)
            rw [r2] at z1
            refine ⟨by rw [e1, e2], by rw [e1, e2]; dsimp only; omega, by rw [e1, e2], ⟨l', by rw [e1]; exact z1, by omega, fun h => absurd h hk1⟩, by rw [e1]; exact put_len _ _, ?_⟩
            rw [e1]
            dsimp only
            rw [hearR, if_pos hR, if_neg hk1, if_pos hk3, voteR, if_neg (by omega), if_pos]
            rw [List.any_eq_true]
            refine ⟨m.vote, (sortS_perm (put_slots h.log.nodup)).mem_iff.2 ((putS_mem h.log.nodup hall m.vote).2 (.inl rfl)), ?_⟩
            simp [isMade]
      · refine hear_same h (a := []) ?_ ?_
        · rw [hearR, if_pos hR, if_neg hk1, if_neg hk3]
        · rw [wantR, if_neg (fun k => by have := k.2; omega)]
  · refine hear_same h (a := []) ?_ ?_
    · rw [hearR, if_neg hR]
    · rw [wantR, if_neg (fun k => hR k.1)]
theorem hearR_len (fs : List FileS) (most p : Nat) (vs : List VoteS) (me : Int) (m : MsgS) : ∀ x ∈ (wantR p vs me m).1, x.votes.length ≤ vs.length := fun x hx => by
  unfold wantR at hx
  split at hx
  · split at hx
    · simp only [List.mem_singleton] at hx
      subst hx
      exact Nat.zero_le _
    · split at hx
      · simp only [List.mem_singleton] at hx
        subst hx
        exact Nat.zero_le _
      · simp only [List.mem_singleton] at hx
        subst hx
        exact List.length_filter_le _ _
  · simp at hx
theorem wantR_one (p : Int) (vs : List VoteS) (me : Int) (m : MsgS) : (wantR p vs me m).1.length ≤ 1 := by
  unfold wantR
  split
  · split
    · simp
    · split <;> simp
  · simp
end Go.Proofs.Ytgpkbldlkadnjaa
end
section
/- Laws of layer 21 over data: awake, AcceptHears, AcceptTwice. -/
set_option linter.unusedVariables false
set_option linter.unusedSimpArgs false
set_option maxHeartbeats 3000000
attribute [local irreducible] Go.Sl.Chk Go.Sl.Br Go.Sl.Or2 Go.Sl.Ld Go.Sl.Ldn Go.Sl.LdB Go.Sl.Stn Go.Sl.New Go.Sl.Run Go.Sl.RunU Go.Sl.RunX Go.Sl.Call Go.Sl.LoopK Go.Sl.RawK Go.Sl.Alt Go.Sl.Om Go.Sl.xpk Go.Sl.xgpk Go.Sl.xglk Go.Sl.DLd Go.Sl.DLdG Go.Sl.DBs Go.Sl.DCall Go.Sl.DApp Go.Sl.DGen Go.Sl.DGenU Go.Sl.DGC Go.Sl.DLoop Go.Sl.DRaw Go.Sl.DRet Go.Sl.Ent Go.Sl.dget Go.Sl.dv Go.Sl.ev Go.Sl.eget
namespace Go.Proofs.Ytgpkbldlkadnjaa
open Go Go.Sl Go.RowKit
def wm1 : MsgS := ⟨1, 1, 2, 9, 0, zeroV, []⟩
def wm2 : MsgS := ⟨1, 0, 2, 8, 0, zeroV, []⟩
def wv3 : VoteS := ⟨0, 9, 9, false, []⟩
def wm3 : MsgS := ⟨3, 1, 2, 9, 0, wv3, []⟩
theorem right_wm1 : RightMsg wm1 := ⟨by decide, by decide, by decide, by decide, ⟨.inr rfl, .inr rfl, .inr rfl⟩, fun h => absurd h (by decide), fun h => absurd h (by decide), fun _ _ => rise_nil _⟩
theorem right_wm2 : RightMsg wm2 := ⟨by decide, by decide, by decide, by decide, ⟨.inr rfl, .inr rfl, .inr rfl⟩, fun h => absurd h (by decide), fun h => absurd h (by decide), fun _ _ => rise_nil _⟩
theorem right_wm3 : RightMsg wm3 := ⟨by decide, by decide, by decide, by decide, ⟨.inr rfl, .inl rfl, .inr rfl⟩, fun _ => ⟨by decide, rfl⟩, fun h => absurd h (by decide), fun h => absurd rfl h⟩
theorem sortS_nil : sortS [] = [] := by simp [sortS, slotsS]
theorem want1 : wantR ((0 : Nat) : Int) (sortS []) 2 wm1 = ([⟨2, 2, 1, 9, 0, zeroV, []⟩], 9, []) := by
  rw [sortS_nil, wantR, if_pos ⟨⟨right_wm1, rfl⟩, .inl rfl⟩, if_neg (by decide), if_neg (by decide)]
  rfl
theorem want2 : wantR ((9 : Nat) : Int) (sortS []) 2 wm2 = ([⟨5, 2, 0, 9, 0, zeroV, []⟩], 9, []) := by
  rw [sortS_nil, wantR, if_pos ⟨⟨right_wm2, rfl⟩, .inl rfl⟩, if_pos (by decide)]
  rfl
theorem want3 : wantR ((9 : Nat) : Int) (sortS []) 2 wm3 = ([⟨4, 2, 1, 9, 0, zeroV, []⟩], 9, [wv3]) := by
  rw [sortS_nil, wantR, if_pos ⟨⟨right_wm3, rfl⟩, .inr rfl⟩, if_neg (by decide), if_pos (show wm3.kind = 3 from rfl), if_neg (by decide)]
  rfl
theorem sortS_empty {vs : List VoteS} (h : sortS vs = []) : vs = [] := by
  have := sortS_len vs
  rw [h] at this
  exact List.eq_nil_of_length_eq_zero this.symm
set_option maxRecDepth 100000 in
theorem awake21_d : DFun Try.prog f_law21_awake [] (boolD true) := by
  intro nx
  refine xcalls c_law21_awake (by simp only [m_law21_awake, List.length]; decide) ?_
  have hk0 : DOk ([] : List FileS) 1000 0 := ⟨fun f hf => by simp at hf, fun f hf => by simp at hf, by simp [usedN], List.nodup_nil, by simp, fun f hf => by simp at hf⟩
  have st0 : LogSt 1000 [] 0 [] [] := ⟨log_nil, .inr ⟨rfl, rfl⟩⟩
  have o1 := hear_ok 2 wm1 st0 (by simp [frames])
  have a1 := o1.ans; have b1 := o1.prom; have c1 := o1.votes
  obtain ⟨L1, st1, _, s1⟩ := o1.st
  rw [want1] at a1 b1 c1
  have s1' := s1 rfl
  have f0 : (frames []).length = 0 := rfl
  simp only [m_law21_awake]; refine WK ?_; try with_reducible exact trivial
  refine dnew (new_o 1000 ⟨by omega, by omega⟩) fun d n1 g1 g2 => ?_
  rw [show (min (max (1000 : Int) 0) 65536).toNat = 1000 from rfl]
  simp only [diskO]
  refine WK ?_; try with_reducible exact trivial
  refine dcallR [d] (rpick_one (t := diskO [] 1000) (by (repeat rw [rget_there (by omega)]); exact rget_here _ _ _)) (open_l hk0 (by omega) (by omega)) (by simp) fun _ _ n2 g3 ⟨x, s, x1, x2, y1, y2, xs, e1, e2⟩ => ?_
  subst e1; subst e2
  rw [show openF [] = [] from rfl, show sayB (logB []) = (0, [], 0) from rfl]
  simp only [logO, saysO, diskO, List.cons_append, List.nil_append]
  refine WK ?_; try with_reducible exact trivial
  refine dcall_nila (t' := .mk _) ?_
  refine dcall_eq (ds' := [.hp x 0, iD 2, .agg (msgC wm1)]) (by with_unfolding_all rfl) ?_
  refine dcallR [x, s, d] (rin := logRs x s d 0 [] [] 1000) (by simp only [logRs, logO, saysO, diskO]; simp -dsimp (disch := omega) only [rpick, rget_here, rget_there, rdel_here, rdel_there]; rfl) (hear_l hk0 (by omega) (fun v hv => by simp at hv) (by omega) (by simp) 2 wm1 (by decide) (by omega) (by omega) (by omega) xs (by omega) (by omega)) (by simp) fun _ _ n3 g4 ⟨e1, e2⟩ => ?_
  subst e1; subst e2
  rw [a1]
  generalize hearR [] 1000 0 [] 2 wm1 = R1 at *
  obtain ⟨A1, p1, vs1, fs1⟩ := R1
  dsimp only at a1 b1 c1 st1 ⊢
  obtain rfl : p1 = 9 := by omega
  obtain rfl := sortS_empty c1
  have o2 := hear_ok 2 wm2 st1 (by omega)
  have a2 := o2.ans; have b2 := o2.prom; have c2 := o2.votes
  obtain ⟨L2, st2, _, s2⟩ := o2.st
  rw [want2] at a2 b2 c2
  have s2' := s2 rfl
  have k1 := od_ok st1.disk (most := 1000) (by omega) (by omega)
  simp only [logRs, logO, saysO, diskO, List.cons_append, List.nil_append]
  refine WK ?_; try with_reducible exact trivial
  refine dcall_nila (t' := .mk _) ?_
  refine dcall_eq (ds' := [.hp x 0, iD 2, .agg (msgC wm2)]) (by with_unfolding_all rfl) ?_
  refine dcallR [x, s, d] (rin := logRs x s d 9 [] fs1 1000) (by simp only [logRs, logO, saysO, diskO]; simp -dsimp (disch := omega) only [rpick, rget_here, rget_there, rdel_here, rdel_there]; rfl) (hear_l k1 (by omega) (fun v hv => by simp at hv) (by omega) (by simp) 2 wm2 (by decide) (by omega) (by omega) (by omega) xs (by omega) (by omega)) (by simp) fun _ _ n4 g5 ⟨e1, e2⟩ => ?_
  subst e1; subst e2
  rw [a2]
  generalize hearR fs1 1000 9 [] 2 wm2 = R2 at *
  obtain ⟨A2, p2, vs2, fs2⟩ := R2
  dsimp only at a2 b2 c2 st2 ⊢
  obtain rfl : p2 = 9 := by omega
  obtain rfl := sortS_empty c2
  have o3 := hear_ok 2 wm3 st2 (by omega)
  have a3 := o3.ans; have b3 := o3.prom; have c3 := o3.votes
  obtain ⟨L3, st3, s3, _⟩ := o3.st
  rw [want3] at a3 b3 c3
  have k2 := od_ok st2.disk (most := 1000) (by omega) (by omega)
  simp only [logRs, logO, saysO, diskO, List.cons_append, List.nil_append]
  refine WK ?_; try with_reducible exact trivial
  refine dcall_nila (t' := .mk _) ?_
  refine dcall_eq (ds' := [.hp x 0, iD 2, .agg (msgC wm3)]) (by with_unfolding_all rfl) ?_
  refine dcallR [x, s, d] (rin := logRs x s d 9 [] fs2 1000) (by simp only [logRs, logO, saysO, diskO]; simp -dsimp (disch := omega) only [rpick, rget_here, rget_there, rdel_here, rdel_there]; rfl) (hear_l k2 (by omega) (fun v hv => by simp at hv) (by omega) (by simp) 2 wm3 (by decide) (by omega) (by omega) (by omega) xs (by omega) (by omega)) (by simp) fun _ _ n5 g6 ⟨e1, e2⟩ => ?_
  subst e1; subst e2
  rw [a3]
  generalize hearR fs2 1000 9 [] 2 wm3 = R3 at *
  obtain ⟨A3, p3, vs3, fs3⟩ := R3
  dsimp only at a3 b3 c3 st3 ⊢
  obtain rfl : p3 = 9 := by omega
  have hm1 : ∀ m : MsgS, msgsC [m] = [iD m.kind, iD m.frm, iD m.to, iD m.ballot, iD m.slot, iD m.vote.slot, iD m.vote.ballot, iD m.vote.origin, boolD m.vote.full, strD m.vote.bytes, votesD m.votes] := fun m => by simp [msgsC, msgC]
  simp only [logRs, logO, saysO, diskO, List.cons_append, List.nil_append]
  refine WKX @hm1 ?_; try with_reducible exact trivial
  refine dcallR [x, s, d] (rin := logRs x s d 9 vs3 fs3 1000) (by simp only [logRs, logO, saysO, diskO]; simp -dsimp (disch := omega) only [rpick, rget_here, rget_there, rdel_here, rdel_there]; rfl) (promised_l xs (by omega) (by omega)) (by simp) fun _ _ n6 g7 ⟨e1, e2⟩ => ?_
  subst e1; subst e2
  simp only [logO, saysO, diskO, List.cons_append, List.nil_append]
  refine WK ?_; try with_reducible exact trivial
  exact dret0 ⟨rfl, rfl⟩
theorem wantR_votes {p : Int} {W : List VoteS} {me : Int} {m : MsgS} (h : W.length ≤ 1000000) : ∀ x ∈ (wantR p W me m).1, x.votes.length ≤ 1000000 := fun x hx => Nat.le_trans (hearR_len [] 0 0 W me m |> fun _ => by
  unfold wantR at hx
  split at hx
  · split at hx
    · simp only [List.mem_singleton] at hx
      subst hx
      exact Nat.zero_le _
    · split at hx
      · simp only [List.mem_singleton] at hx
        subst hx
        exact Nat.zero_le _
      · simp only [List.mem_singleton] at hx
        subst hx
        exact List.length_filter_le _ _
  · simp at hx) h
set_option maxRecDepth 100000 in
theorem acceptHears_d (l : List MsgS) (hl : l.length ≤ 140737488351232 ∧ ∀ a ∈ l, a.ok) (me : UInt8) : DFun Try.prog f_law21_AcceptHears [msgsD l, bD me] (boolD true) := by
  intro nx
  refine xcalls c_law21_AcceptHears (by simp only [m_law21_AcceptHears, List.length]; decide) ?_
  simp only [m_law21_AcceptHears]; refine WK ?_; try with_reducible exact trivial
  refine dfun awake21_d fun n1 g1 => ?_
  refine WK ?_; try with_reducible exact trivial
  refine dfun (few21_d l hl.2 hl.1) fun n2 g2 => ?_
  cases hfew : few21 l with
  | false =>
    refine WK ?_; try with_reducible exact trivial
    refine dfun awake21_d fun n3 g3 => ?_
    refine WK ?_; try with_reducible exact trivial
    exact dret0 ⟨rfl, rfl⟩
  | true =>
  obtain ⟨hl40, hsm⟩ := few21_spec hfew
  have hk0 : DOk ([] : List FileS) 65536 0 := ⟨fun f hf => by simp at hf, fun f hf => by simp at hf, by simp [usedN], List.nodup_nil, by simp, fun f hf => by simp at hf⟩
  refine WK ?_; try with_reducible exact trivial
  refine dnew (new_o 65536 ⟨by omega, by omega⟩) fun d n3 g3 g4 => ?_
  rw [show (min (max (65536 : Int) 0) 65536).toNat = 65536 from rfl]
  simp only [diskO]
  refine WK ?_; try with_reducible exact trivial
  refine dcallR [d] (rpick_one (t := diskO [] 65536) (by (repeat rw [rget_there (by omega)]); exact rget_here _ _ _)) (open_l hk0 (by omega) (by omega)) (by simp) fun _ _ n4 g5 ⟨x, s, x1, x2, s1, s2, xs, e1, e2⟩ => ?_
  subst e1; subst e2
  rw [show openF [] = [] from rfl, show sayB (logB []) = (0, [], 0) from rfl]
  simp only [logO, saysO, diskO, List.cons_append, List.nil_append]
  have hme : IntKind.i64.wrap ((me.toNat : Int) % 7) = ((me.toNat % 7 : Nat) : Int) := by rw [wrap_i64 (by omega)]; omega
  have hu : U8 me = Value.int .u8 (me.toNat : Int) := rfl
  refine WKX (And.intro @hu @hme) ?_; try with_reducible exact trivial
  generalize hK : ((me.toNat % 7 : Nat) : Int) = K at *
  refine dloop [0, 6, 7, 8, 9, 10] (fun t : Nat × LL × Nat × List VoteS × List FileS × Nat => ([(0, msgsD l), (6, .hp x 0), (7, iD K), (8, iD (t.2.2.1 : Nat)), (9, votesD (sortS t.2.2.2.1)), (10, iD (t.1 : Nat))], [(x, logO d s), (s, saysO t.2.2.1 t.2.2.2.1), (d, diskO t.2.2.2.2.1 65536)], t.2.2.2.2.2)) (fun t => t.1 ≤ l.length ∧ LogSt 65536 t.2.1 t.2.2.1 t.2.2.2.1 t.2.2.2.2.1 ∧ (frames t.2.1).length ≤ 600 * t.1 ∧ t.2.2.2.1.length ≤ t.1 ∧ n4 ≤ t.2.2.2.2.2) (fun t => l.length - t.1) (0, [], 0, [], [], n4) ⟨by omega, ⟨log_nil, .inr ⟨rfl, rfl⟩⟩, by simp [frames], by simp, by dsimp only; omega⟩ ((Ent.nilv 9 (d := .sc (.slice none 0 0)) (by with_unfolding_all rfl)).trans (by rw [show sortS [] = [] from sortS_nil]; exact (Ent.of (by with_unfolding_all rfl) rfl))) ?_
  rintro ⟨k, L, p, vs, fs, n⟩ ⟨q1, q2, q3, q4, q5⟩
  dsimp only at q1 q2 q3 q4 q5 ⊢
  have ho := od_ok q2.disk (most := 65536) (by omega) (by omega)
  have hple := q2.log.le
  simp only [logO, saysO, diskO]
  refine WK ?_; try with_reducible exact trivial
  refine brd (fun hlt => ?_) (fun hge => ?_)
  · have hkl : k < l.length := by omega
    have hmem : gt l k ∈ l := by rw [gt_eq hkl]; exact List.getElem_mem _
    obtain ⟨hv70, hb1⟩ := hsm _ hmem
    have hta : ((msgsC l).drop (k * 11)).take 11 = msgC (gt l k) := flatC_take msgC_len l hkl
    have h11 : 11 ≤ ((msgsC l).drop (k * 11)).length := by rw [List.length_drop, msgsC_length]; omega
    have hsl := sortS_len vs
    have ok := hear_ok K (gt l k) q2 (by omega)
    have ha := ok.ans; have hp := ok.prom; have hv := ok.votes; have hln := ok.len
    obtain ⟨L', st', z1, _⟩ := ok.st
    have hw1 := wantR_one p (sortS vs) K (gt l k)
    have hw2 := wantR_votes (p := p) (W := sortS vs) (me := K) (m := gt l k) (by omega)
    rw [← ha] at hw1 hw2
    refine WKX @hta ?_; try with_reducible exact trivial
    refine dfun (wanted_d p (sortS vs) (by omega) K (gt l k) (by omega)) fun n5 g6 => ?_
    rw [← ha, ← hp, ← hv]
    refine WKX @hta ?_; try with_reducible exact trivial
    refine dcallR [x, s, d] (rin := logRs x s d p vs fs 65536) (by simp only [logRs, logO, saysO, diskO]; simp -dsimp (disch := omega) only [rpick, rget_here, rget_there, rdel_here, rdel_there]; rfl) (hear_l ho (by omega) q2.log.right hple (by omega) K (gt l k) (by omega) (by omega) (by omega) (by omega) xs (by omega) (by omega)) (by simp) fun _ _ n6 g7 ⟨e1, e2⟩ => ?_
    subst e1; subst e2
    generalize hearR fs 65536 p vs K (gt l k) = R at *
    obtain ⟨A, p', vs', fs'⟩ := R
    dsimp only at st' hw1 hw2 hln ⊢
    have hall := mall_d A A (by omega) hw2
    rw [decide_eq_true rfl] at hall
    have hsame := same17_d (sortS vs') (sortS vs') (by rw [sortS_len]; omega)
    rw [decide_eq_true rfl] at hsame
    simp only [logRs, logO, saysO, diskO, List.cons_append, List.nil_append]
    refine WK ?_; try with_reducible exact trivial
    refine dfun hall fun n7 g8 => ?_
    refine WK ?_; try with_reducible exact trivial
    refine dcallR [x, s, d] (rin := logRs x s d p' vs' fs' 65536) (by simp only [logRs, logO, saysO, diskO]; simp -dsimp (disch := omega) only [rpick, rget_here, rget_there, rdel_here, rdel_there]; rfl) (promised_l xs (by omega) (by omega)) (by simp) fun _ _ n8 g9 ⟨e1, e2⟩ => ?_
    subst e1; subst e2
    simp only [logO, saysO, diskO, List.cons_append, List.nil_append]
    refine WK ?_; try with_reducible exact trivial
    refine dcallR [x, s, d] (rin := logRs x s d p' vs' fs' 65536) (by simp only [logRs, logO, saysO, diskO]; simp -dsimp (disch := omega) only [rpick, rget_here, rget_there, rdel_here, rdel_there]; rfl) (votes_l st'.log.right (by omega) (by omega) (by omega) (by omega) xs (by omega) (by omega)) (by simp) fun _ _ n9 g10 ⟨q, t1, t2, e1, e2⟩ => ?_
    subst e1; subst e2
    simp only [logO, saysO, diskO, votesO, List.cons_append, List.nil_append]
    refine WK ?_; try with_reducible exact trivial
    refine dcall_frz q (t' := .mk _) (by (repeat rw [rget_there (by omega)]); exact rget_here _ _ _) (votesC_plain _) (by simp only [List.mem_cons, List.not_mem_nil, or_false, not_false_eq_true]; try omega) ?_
    refine WK ?_; try with_reducible exact trivial
    refine dfun hsame fun n10 g11 => ?_
    refine WK ?_; try with_reducible exact trivial
    exact ⟨(k + 1, L', p', vs', fs', n10), ⟨by dsimp only; omega, st', by dsimp only; omega, by dsimp only; omega, by dsimp only; omega⟩, by dsimp only; omega, (Ent.only [x, s, d] _ _ _).trans (by simp -dsimp (disch := omega) only [rpick, rget_here, rget_there, rdel_here, rdel_there]; exact (Ent.of (by with_unfolding_all rfl) rfl))⟩
  · refine WK ?_; try with_reducible exact trivial
    exact dret0 ⟨rfl, rfl⟩
set_option maxRecDepth 100000 in
theorem acceptTwice_d (l : List MsgS) (hl : l.length ≤ 140737488351232 ∧ ∀ a ∈ l, a.ok) (me : UInt8) : DFun Try.prog f_law21_AcceptTwice [msgsD l, bD me] (boolD true) := by
  intro nx
  refine xcalls c_law21_AcceptTwice (by simp only [m_law21_AcceptTwice, List.length]; decide) ?_
  simp only [m_law21_AcceptTwice]; refine WK ?_; try with_reducible exact trivial
  refine dfun awake21_d fun n1 g1 => ?_
  refine WK ?_; try with_reducible exact trivial
  refine dfun (few21_d l hl.2 hl.1) fun n2 g2 => ?_
  cases hfew : few21 l with
  | false =>
    refine WK ?_; try with_reducible exact trivial
    refine dfun awake21_d fun n3 g3 => ?_
    refine WK ?_; try with_reducible exact trivial
    exact dret0 ⟨rfl, rfl⟩
  | true =>
  obtain ⟨hl40, hsm⟩ := few21_spec hfew
  have hk0 : DOk ([] : List FileS) 65536 0 := ⟨fun f hf => by simp at hf, fun f hf => by simp at hf, by simp [usedN], List.nodup_nil, by simp, fun f hf => by simp at hf⟩
  refine WK ?_; try with_reducible exact trivial
  refine dnew (new_o 65536 ⟨by omega, by omega⟩) fun d n3 g3 g4 => ?_
  rw [show (min (max (65536 : Int) 0) 65536).toNat = 65536 from rfl]
  simp only [diskO]
  refine WK ?_; try with_reducible exact trivial
  refine dcallR [d] (rpick_one (t := diskO [] 65536) (by (repeat rw [rget_there (by omega)]); exact rget_here _ _ _)) (open_l hk0 (by omega) (by omega)) (by simp) fun _ _ n4 g5 ⟨x, s, x1, x2, s1, s2, xs, e1, e2⟩ => ?_
  subst e1; subst e2
  rw [show openF [] = [] from rfl, show sayB (logB []) = (0, [], 0) from rfl]
  simp only [logO, saysO, diskO, List.cons_append, List.nil_append]
  have hme : IntKind.i64.wrap ((me.toNat : Int) % 7) = ((me.toNat % 7 : Nat) : Int) := by rw [wrap_i64 (by omega)]; omega
  have hu : U8 me = Value.int .u8 (me.toNat : Int) := rfl
  refine WKX (And.intro @hu @hme) ?_; try with_reducible exact trivial
  generalize hK : ((me.toNat % 7 : Nat) : Int) = K at *
  refine dloop [0, 5, 6, 7, 8] (fun t : Nat × LL × Nat × List VoteS × List FileS × Nat => ([(0, msgsD l), (5, .hp d 0), (6, .hp x 0), (7, iD K), (8, iD (t.1 : Nat))], [(x, logO d s), (s, saysO t.2.2.1 t.2.2.2.1), (d, diskO t.2.2.2.2.1 65536)], t.2.2.2.2.2)) (fun t => t.1 ≤ l.length ∧ LogSt 65536 t.2.1 t.2.2.1 t.2.2.2.1 t.2.2.2.2.1 ∧ (frames t.2.1).length ≤ 600 * t.1 ∧ t.2.2.2.1.length ≤ t.1 ∧ n4 ≤ t.2.2.2.2.2) (fun t => l.length - t.1) (0, [], 0, [], [], n4) ⟨by omega, ⟨log_nil, .inr ⟨rfl, rfl⟩⟩, by simp [frames], by simp, by dsimp only; omega⟩ (Ent.of (by with_unfolding_all rfl) rfl) ?_
  rintro ⟨k, L, p, vs, fs, n⟩ ⟨q1, q2, q3, q4, q5⟩
  dsimp only at q1 q2 q3 q4 q5 ⊢
  have ho := od_ok q2.disk (most := 65536) (by omega) (by omega)
  have hple := q2.log.le
  simp only [logO, saysO, diskO]
  refine WK ?_; try with_reducible exact trivial
  refine brd (fun hlt => ?_) (fun hge => ?_)
  · have hkl : k < l.length := by omega
    have hmem : gt l k ∈ l := by rw [gt_eq hkl]; exact List.getElem_mem _
    obtain ⟨hv70, hb1⟩ := hsm _ hmem
    have hta : ((msgsC l).drop (k * 11)).take 11 = msgC (gt l k) := flatC_take msgC_len l hkl
    have h11 : 11 ≤ ((msgsC l).drop (k * 11)).length := by rw [List.length_drop, msgsC_length]; omega
    have hsl := sortS_len vs
    have ok := hear_ok K (gt l k) q2 (by omega)
    have ha := ok.ans; have hln := ok.len; have hag := ok.again
    obtain ⟨L', st', z1, _⟩ := ok.st
    have hw1 := wantR_one p (sortS vs) K (gt l k)
    have hw2 := wantR_votes (p := p) (W := sortS vs) (me := K) (m := gt l k) (by omega)
    rw [← ha] at hw1 hw2
    refine WKX @hta ?_; try with_reducible exact trivial
    refine dcallR [x, s, d] (rin := logRs x s d p vs fs 65536) (by simp only [logRs, logO, saysO, diskO]; simp -dsimp (disch := omega) only [rpick, rget_here, rget_there, rdel_here, rdel_there]; rfl) (hear_l ho (by omega) q2.log.right hple (by omega) K (gt l k) (by omega) (by omega) (by omega) (by omega) xs (by omega) (by omega)) (by simp) fun _ _ n6 g7 ⟨e1, e2⟩ => ?_
    subst e1; subst e2
    clear ok ha
    generalize hearR fs 65536 p vs K (gt l k) = R at *
    obtain ⟨A, p', vs', fs'⟩ := R
    dsimp only at st' hw1 hw2 hln hag ⊢
    have ho2 := od_ok st'.disk (most := 65536) (by omega) (by omega)
    have hall := mall_d A A (by omega) hw2
    rw [decide_eq_true rfl] at hall
    simp only [logRs, logO, saysO, diskO, List.cons_append, List.nil_append]
    rcases st'.disk with rfl | ⟨rfl, hB⟩
    · refine WK ?_; try with_reducible exact trivial
      refine dactn d (read_a (oneF (frames L')) 65536 lgN (j := 0) (f := (lgN, frames L', (frames L').length)) ho2.small (by decide) (find_one _ _) rfl) (by omega) (by (repeat rw [rget_there (by omega)]); exact rget_here _ _ _) (by simp only [List.mem_cons, List.not_mem_nil, or_false, not_false_eq_true]; try omega) fun a1 n7 g8 g9 => ?_
      dsimp only
      simp only [diskO]
      refine WKX @hta ?_; try with_reducible exact trivial
      refine dcallR [x, s, d] (rin := logRs x s d p' vs' (oneF (frames L')) 65536) (by simp only [logRs, logO, saysO, diskO]; simp -dsimp (disch := omega) only [rpick, rget_here, rget_there, rdel_here, rdel_there]; rfl) (hear_l ho2 (by omega) st'.log.right st'.log.le (by omega) K (gt l k) (by omega) (by omega) (by omega) (by omega) xs (by omega) (by omega)) (by simp) fun _ _ n8 g10 ⟨e1, e2⟩ => ?_
      subst e1; subst e2
      rw [hag]
      dsimp only
      simp only [logRs, logO, saysO, diskO, List.cons_append, List.nil_append]
      refine WK ?_; try with_reducible exact trivial
      refine dactn d (read_a (oneF (frames L')) 65536 lgN (j := 0) (f := (lgN, frames L', (frames L').length)) ho2.small (by decide) (find_one _ _) rfl) (by omega) (by (repeat rw [rget_there (by omega)]); exact rget_here _ _ _) (by simp only [List.mem_cons, List.not_mem_nil, or_false, not_false_eq_true]; try omega) fun a2 n9 g11 g12 => ?_
      dsimp only
      simp only [diskO]
      refine WK ?_; try with_reducible exact trivial
      refine dfun hall fun n10 g13 => ?_
      refine WK ?_; try with_reducible exact trivial
      refine dcall_frz a1 (t' := .mk _) (by (repeat rw [rget_there (by omega)]); exact rget_here _ _ _) bDs_plain (by simp only [List.mem_cons, List.not_mem_nil, or_false, not_false_eq_true]; try omega) ?_
      refine WK ?_; try with_reducible exact trivial
      refine dcall_frz a2 (t' := .mk _) (by (repeat rw [rget_there (by omega)]); exact rget_here _ _ _) bDs_plain (by simp only [List.mem_cons, List.not_mem_nil, or_false, not_false_eq_true]; try omega) ?_
      refine WK ?_; try with_reducible exact trivial
      refine dfun (show DFun Try.prog f_ref01_Same [bytesD (frames L'), bytesD (frames L')] (boolD true) by have := same01_d (frames L') (frames L'); rwa [decide_eq_true rfl] at this) fun n11 g14 => ?_
      refine WK ?_; try with_reducible exact trivial
      exact ⟨(k + 1, L', p', vs', oneF (frames L'), n11), ⟨by dsimp only; omega, st', by dsimp only; omega, by dsimp only; omega, by dsimp only; omega⟩, by dsimp only; omega, (Ent.only [x, s, d] _ _ _).trans (by simp -dsimp (disch := omega) only [rpick, rget_here, rget_there, rdel_here, rdel_there]; exact (Ent.of (by with_unfolding_all rfl) rfl))⟩
    · refine WK ?_; try with_reducible exact trivial
      refine dact d (read_no [] 65536 lgN ho2.small (by decide) rfl) (by omega) (by (repeat rw [rget_there (by omega)]); exact rget_here _ _ _) (by simp only [List.mem_cons, List.not_mem_nil, or_false, not_false_eq_true]; try omega) fun n7 g8 => ?_
      simp only [diskO]
      refine WKX @hta ?_; try with_reducible exact trivial
      refine dcallR [x, s, d] (rin := logRs x s d p' vs' [] 65536) (by simp only [logRs, logO, saysO, diskO]; simp -dsimp (disch := omega) only [rpick, rget_here, rget_there, rdel_here, rdel_there]; rfl) (hear_l ho2 (by omega) st'.log.right st'.log.le (by omega) K (gt l k) (by omega) (by omega) (by omega) (by omega) xs (by omega) (by omega)) (by simp) fun _ _ n8 g10 ⟨e1, e2⟩ => ?_
      subst e1; subst e2
      rw [hag]
      dsimp only
      simp only [logRs, logO, saysO, diskO, List.cons_append, List.nil_append]
      refine WK ?_; try with_reducible exact trivial
      refine dact d (read_no [] 65536 lgN ho2.small (by decide) rfl) (by omega) (by (repeat rw [rget_there (by omega)]); exact rget_here _ _ _) (by simp only [List.mem_cons, List.not_mem_nil, or_false, not_false_eq_true]; try omega) fun n9 g11 => ?_
      simp only [diskO]
      refine WK ?_; try with_reducible exact trivial
      refine dfun hall fun n10 g13 => ?_
      refine WK ?_; try with_reducible exact trivial
      refine dcall_nilv (t' := .mk _) ?_
      refine dcall_eq (ds' := [bytesD [], bytesD []]) rfl ?_
      refine dfun (show DFun Try.prog f_ref01_Same [bytesD [], bytesD []] (boolD true) by have := same01_d [] []; rwa [decide_eq_true rfl] at this) fun n11 g14 => ?_
      refine WK ?_; try with_reducible exact trivial
      exact ⟨(k + 1, L', p', vs', [], n11), ⟨by dsimp only; omega, st', by dsimp only; omega, by dsimp only; omega, by dsimp only; omega⟩, by dsimp only; omega, (Ent.only [x, s, d] _ _ _).trans (by simp -dsimp (disch := omega) only [rpick, rget_here, rget_there, rdel_here, rdel_there]; exact (Ent.of (by with_unfolding_all rfl) rfl))⟩
  · refine WK ?_; try with_reducible exact trivial
    exact dret0 ⟨rfl, rfl⟩
end Go.Proofs.Ytgpkbldlkadnjaa
end
