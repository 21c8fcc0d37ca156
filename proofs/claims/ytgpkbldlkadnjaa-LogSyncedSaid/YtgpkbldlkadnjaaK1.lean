/- This program's types, opened: votes, acts of layer 18. -/
import Derived.Test.YtgpkbldlkadnjaaJ3
import Derived.Test.YtgpkbldlkadnjaaJ9
import Derived.Test.YtgpkbldlkadnjaaRows
section
set_option linter.unusedVariables false
namespace Go.Proofs.Ytgpkbldlkadnjaa
open Go Go.Sl
theorem op_vote : Opens Try.prog t_api_Vote 5 VoteS voteC (fun v => v.bytes.length ≤ 140737488351232) :=
  (op_struct Try.underlying95 rfl (by kernel_rfl) (opl_cons op_tInt rfl (opl_cons op_tInt rfl (opl_cons op_tInt rfl (opl_cons op_tBool rfl (opl_cons op_tStr rfl (opl_nil _))))))).map
    (fun x => (⟨x.1, x.2.1, x.2.2.1, x.2.2.2.1, x.2.2.2.2.1⟩ : VoteS)) (fun _ => rfl) (fun x h => h.2.2.2.2.1) fun _ => rfl
theorem op_lact : Opens Try.prog t_law18_Act 8 LAct lactC LAct.ok :=
  (op_struct Try.underlying130 rfl (by kernel_rfl) (opl_cons op_tInt rfl (opl_cons op_tInt rfl (opl_cons op_vote rfl (opl_cons op_ints rfl (opl_nil _)))))).map
    (fun x => (⟨x.1, x.2.1, x.2.2.1, x.2.2.2.1⟩ : LAct)) (fun _ => rfl) (fun x h => ⟨h.2.2.1, h.2.2.2.1.1, h.1, h.2.1, h.2.2.2.1.2⟩) fun _ => rfl
theorem op_lacts : Opens Try.prog 126 1 (List LAct) (fun l => [lactsD l]) (fun l => l.length ≤ 140737488351232 ∧ ∀ a ∈ l, a.ok) := op_slice Try.underlying126 (by kernel_rfl) (of_decide_eq_true (by kernel_rfl)) op_lact
end Go.Proofs.Ytgpkbldlkadnjaa
end
/- The law LogSynced, for every input: its row, out of its contract over data. No condition. -/
set_option linter.unusedVariables false
namespace Go.Proofs.Ytgpkbldlkadnjaa.logSynced
open Go Go.Sl Go.ChangeShapes Go.WideShapes Go.ChangeAt Go.RowKit
open Go.ChangeMaps (open_string shut_string)
theorem laidOut : laidOutB Try.prog = true := zf_laid
set_option maxRecDepth 100000 in
theorem lifted (os : Os) (started : os.Started) (H : Type) (enc : TypeId × Value → H) :
    ReturnsInHanded {} Try.checked os 26 .any (Rows.logSyncedSpec.pre6 enc Try.prog Try.f26 Rows.logSyncedRow.domain false) (Rows.logSyncedSpec.post enc Try.prog Try.f26 false true false false) := by
  refine returnsInHanded_of_change_sized (C := Try.checked) zf_own started (by kernel_rfl) Try.func26
    (ChangeSpec.witness6 (enc := enc) (C := Try.checked) false ⟨#[], #[.slice none 0 0, .slice none 0 0, .slice none 0 0], []⟩ 8 (by kernel_rfl) (by kernel_rfl) (by kernel_rfl) (by kernel_rfl)) ?_
  intro W base args ds gs before hval0 hW hcnd hsz0 _
  have hsz : (DataW.weightsEach Try.prog (Try.f26.params.toList ++ Rows.logSyncedSpec.plain.varTypes Try.prog) (ds ++ gs)).all (· ≤ reachBytes) = true := hsz0
  have hval : ∀ (j : Nat) t v, Try.f26.params[j]? = some t → args[j]? = some v → Value.okWide Try.prog W .any base t v := hval0
  have hW' := hW
  obtain ⟨p, q, hA0, hV, rfl, hfz, hnd⟩ := hW
  have hA : DataW.TrodAll enc Try.prog W 0 (fun _ => true) true Try.f26.params.toList args.toList ds p := hA0
  rw [Try.params26] at hA hval hsz
  obtain ⟨v0, vs0, d0, ds0, p0, q0, hargs, rfl, rfl, h0, r0⟩ := trodAll_cons hA
  obtain ⟨v1, vs1, d1, ds1, p1, q1, rfl, rfl, rfl, h1, r1⟩ := trodAll_cons r0
  obtain ⟨v2, vs2, d2, ds2, p2, q2, rfl, rfl, rfl, h2, r2⟩ := trodAll_cons r1
  obtain ⟨rfl, rfl, rfl⟩ := trodAll_nil r2
  obtain rfl : args = #[v0, v1, v2] := by cases args; simp_all
  obtain ⟨rfl, rfl⟩ := trodVars_none hV
  have k0 := h0
  have lt0 : ∀ x ∈ p0, x.block < W.heap.size := by obtain ⟨m, hm⟩ := k0; exact DataW.trod_lt m _ _ _ hm
  obtain ⟨m0, rs0, hb0⟩ := op_lacts.slice Try.underlying126 (hval 0 126 v0 rfl rfl) h0 (sized_at hsz (j := 0) rfl rfl)
  have k1 := h1
  have lt1 : ∀ x ∈ p1, x.block < W.heap.size := by obtain ⟨m, hm⟩ := k1; exact DataW.trod_lt m _ _ _ hm
  obtain ⟨m1, rs1, hb1⟩ := op_bytes.slice Try.underlying29 (hval 1 29 v1 rfl rfl) h1 (sized_at hsz (j := 1) rfl rfl)
  have k2 := h2
  have lt2 : ∀ x ∈ p2, x.block < W.heap.size := by obtain ⟨m, hm⟩ := k2; exact DataW.trod_lt m _ _ _ hm
  obtain ⟨m2, rs2, hb2⟩ := op_ints.slice Try.underlying33 (hval 2 33 v2 rfl rfl) h2 (sized_at hsz (j := 2) rfl rfl)
  clear hA0 hval0 hsz0 hsz
  refine (below_of_dfun (logSynced_d m0 hb0 m1 hb1 m2 hb2) (rsl_cons rs0 (rsl_cons rs1 (rsl_cons rs2 rsl_nil)))).mono fun e W' ⟨he, bel⟩ => ?_
  subst he
  exact ⟨_, rfl, _, _, _, [], _, [], hW', trodAll_mk1 (shut_bool Try.underlying4 _), (trodAll_cons_mk (Below.trod laidOut (by kernel_rfl) (of_decide_eq_true (by kernel_rfl)) k0 bel lt0) (trodAll_cons_mk (Below.trod laidOut (by kernel_rfl) (of_decide_eq_true (by kernel_rfl)) k1 bel lt1) (trodAll_cons_mk (Below.trod laidOut (by kernel_rfl) (of_decide_eq_true (by kernel_rfl)) k2 bel lt2) trodAll_mk0))), rfl, bel.frame _, fun h => by cases h⟩
theorem inP : Try.prog.inPlace 26 = [] := by kernel_rfl
theorem unf : Try.prog.unfollowed 26 = true := by kernel_rfl
theorem rec : Try.prog.recurses 26 = true := by kernel_rfl
theorem nam : Try.prog.varsNamed 26 = [] := by kernel_rfl
theorem fnm : Try.prog.funcNamed Rows.logSyncedRow.func = some 26 := by kernel_rfl
theorem facts : joinedFacts Try.prog 26 Try.f26 Rows.logSyncedSpec Rows.logSyncedRow = true :=
  facts_of zf_laid zf_maps zf_stops zf_knobs zf_plain zf_heard zf_enter zf_lifts zf_make inP unf rec nam rfl rfl rfl rfl rfl rfl rfl rfl rfl
    (by kernel_rfl) (by kernel_rfl) (by kernel_rfl) (by kernel_rfl) (by kernel_rfl) (by kernel_rfl) (by kernel_rfl) (by kernel_rfl) (by kernel_rfl) (by kernel_rfl) (by kernel_rfl) (by kernel_rfl) (by kernel_rfl) rfl rfl (by kernel_rfl) (by kernel_rfl) (by kernel_rfl)
theorem over : Rows.logSyncedRow.holds Try.pinned (OpenSpec.ofChange Rows.logSyncedSpec) :=
  OpenClaim.holds_of_wide 26 Try.f26 rfl rfl rfl rfl rfl rfl rfl ⟨rfl, rfl, rfl, rfl, rfl⟩ rfl rfl rfl rfl rfl fnm Try.func26 facts
    (of_decide_eq_true (by kernel_rfl)) (by unfold Func.isWrapper; first | (rw [if_pos (by decide +kernel)]; kernel_rfl) | (rw [if_neg (by decide +kernel)]; exact ⟨rfl, rfl⟩))
    (fun os started H enc _ => lifted os started H enc)
theorem proved : Rows.LogSyncedSaid := over
end Go.Proofs.Ytgpkbldlkadnjaa.logSynced
namespace Go.Proofs.Ytgpkbldlkadnjaa
/-- The row, under a short name. -/
theorem logSynced_holds : Rows.LogSyncedSaid := logSynced.proved
#print axioms logSynced_holds
end Go.Proofs.Ytgpkbldlkadnjaa
