/- This program's types, opened: messages. -/
import Derived.Test.YtgpkbldlkadnjaaJ3
import Derived.Test.YtgpkbldlkadnjaaK0
import Derived.Test.YtgpkbldlkadnjaaRows
section
set_option linter.unusedVariables false
namespace Go.Proofs.Ytgpkbldlkadnjaa
open Go Go.Sl
theorem op_voteM : Opens Try.prog t_api_Vote 5 VoteS voteC (fun v => v.bytes.length ≤ 140737488351232) :=
  (op_struct Try.underlying95 rfl (by kernel_rfl) (opl_cons op_tInt rfl (opl_cons op_tInt rfl (opl_cons op_tInt rfl (opl_cons op_tBool rfl (opl_cons op_tStr rfl (opl_nil _))))))).map
    (fun x => (⟨x.1, x.2.1, x.2.2.1, x.2.2.2.1, x.2.2.2.2.1⟩ : VoteS)) (fun _ => rfl) (fun x h => h.2.2.2.2.1) fun _ => rfl
theorem op_votesM : Opens Try.prog tVotes 1 (List VoteS) (fun l => [votesD l]) (fun l => l.length ≤ 140737488351232 ∧ ∀ a ∈ l, a.bytes.length ≤ 140737488351232) := op_slice Try.underlying96 (by kernel_rfl) (of_decide_eq_true (by kernel_rfl)) op_voteM
theorem op_msg : Opens Try.prog t_api_Msg 11 MsgS msgC MsgS.ok :=
  (op_struct Try.underlying98 rfl (by kernel_rfl) (opl_cons op_tInt rfl (opl_cons op_tInt rfl (opl_cons op_tInt rfl (opl_cons op_tInt rfl (opl_cons op_tInt rfl (opl_cons op_voteM rfl (opl_cons op_votesM rfl (opl_nil _))))))))).map
    (fun x => (⟨x.1, x.2.1, x.2.2.1, x.2.2.2.1, x.2.2.2.2.1, x.2.2.2.2.2.1, x.2.2.2.2.2.2.1⟩ : MsgS)) (fun _ => rfl) (fun x h => ⟨h.2.2.2.2.2.1, h.2.2.2.2.2.2.1.1, h.2.2.2.2.2.2.1.2⟩) fun _ => rfl
theorem op_msgs : Opens Try.prog tMsgs 1 (List MsgS) (fun l => [msgsD l]) (fun l => l.length ≤ 140737488351232 ∧ ∀ a ∈ l, a.ok) := op_slice Try.underlying118 (by kernel_rfl) (of_decide_eq_true (by kernel_rfl)) op_msg
end Go.Proofs.Ytgpkbldlkadnjaa
end
/- The law AcceptTwice, for every input: its row, out of its contract over data. No condition. -/
set_option linter.unusedVariables false
namespace Go.Proofs.Ytgpkbldlkadnjaa.acceptTwice
open Go Go.Sl Go.ChangeShapes Go.WideShapes Go.ChangeAt Go.RowKit
open Go.ChangeMaps (open_string shut_string)
theorem laidOut : laidOutB Try.prog = true := zf_laid
set_option maxRecDepth 100000 in
theorem lifted (os : Os) (started : os.Started) (H : Type) (enc : TypeId × Value → H) :
    ReturnsInHanded {} Try.checked os 28 .any (Rows.acceptTwiceSpec.pre6 enc Try.prog Try.f28 Rows.acceptTwiceRow.domain false) (Rows.acceptTwiceSpec.post enc Try.prog Try.f28 false true false false) := by
  refine returnsInHanded_of_change_sized (C := Try.checked) zf_own started (by kernel_rfl) Try.func28
    (ChangeSpec.witness6 (enc := enc) (C := Try.checked) false ⟨#[], #[.slice none 0 0, .int .u8 0], []⟩ 8 (by kernel_rfl) (by kernel_rfl) (by kernel_rfl) (by kernel_rfl)) ?_
  intro W base args ds gs before hval0 hW hcnd hsz0 _
  have hsz : (DataW.weightsEach Try.prog (Try.f28.params.toList ++ Rows.acceptTwiceSpec.plain.varTypes Try.prog) (ds ++ gs)).all (· ≤ reachBytes) = true := hsz0
  have hval : ∀ (j : Nat) t v, Try.f28.params[j]? = some t → args[j]? = some v → Value.okWide Try.prog W .any base t v := hval0
  have hW' := hW
  obtain ⟨p, q, hA0, hV, rfl, hfz, hnd⟩ := hW
  have hA : DataW.TrodAll enc Try.prog W 0 (fun _ => true) true Try.f28.params.toList args.toList ds p := hA0
  rw [Try.params28] at hA hval hsz
  obtain ⟨v0, vs0, d0, ds0, p0, q0, hargs, rfl, rfl, h0, r0⟩ := trodAll_cons hA
  obtain ⟨v1, vs1, d1, ds1, p1, q1, rfl, rfl, rfl, h1, r1⟩ := trodAll_cons r0
  obtain ⟨rfl, rfl, rfl⟩ := trodAll_nil r1
  obtain rfl : args = #[v0, v1] := by cases args; simp_all
  obtain ⟨rfl, rfl⟩ := trodVars_none hV
  have k0 := h0
  have lt0 : ∀ x ∈ p0, x.block < W.heap.size := by obtain ⟨m, hm⟩ := k0; exact DataW.trod_lt m _ _ _ hm
  obtain ⟨m0, rs0, hb0⟩ := op_msgs.slice Try.underlying118 (hval 0 118 v0 rfl rfl) h0 (sized_at hsz (j := 0) rfl rfl)
  obtain ⟨a1, rfl, rfl, rfl, w1⟩ := open_int Try.underlying5 (hval 1 5 v1 rfl rfl) h1
  clear hA0 hval0 hsz0 hsz
  refine (below_of_dfun (acceptTwice_d m0 hb0 (UInt8.ofNat a1.toNat)) (rsl_cons rs0 (rsl_cons (by rw [u8_val w1]; exact rs_sc _) rsl_nil))).mono fun e W' ⟨he, bel⟩ => ?_
  subst he
  exact ⟨_, rfl, _, _, _, [], _, [], hW', trodAll_mk1 (shut_bool Try.underlying4 _), (trodAll_cons_mk (Below.trod laidOut (by kernel_rfl) (of_decide_eq_true (by kernel_rfl)) k0 bel lt0) (trodAll_cons_mk (shut_int Try.underlying5 w1) trodAll_mk0)), rfl, bel.frame _, fun h => by cases h⟩
theorem inP : Try.prog.inPlace 28 = [] := by kernel_rfl
theorem unf : Try.prog.unfollowed 28 = true := by kernel_rfl
theorem rec : Try.prog.recurses 28 = true := by kernel_rfl
theorem nam : Try.prog.varsNamed 28 = [] := by kernel_rfl
theorem fnm : Try.prog.funcNamed Rows.acceptTwiceRow.func = some 28 := by kernel_rfl
theorem facts : joinedFacts Try.prog 28 Try.f28 Rows.acceptTwiceSpec Rows.acceptTwiceRow = true :=
  facts_of zf_laid zf_maps zf_stops zf_knobs zf_plain zf_heard zf_enter zf_lifts zf_make inP unf rec nam rfl rfl rfl rfl rfl rfl rfl rfl rfl
    (by kernel_rfl) (by kernel_rfl) (by kernel_rfl) (by kernel_rfl) (by kernel_rfl) (by kernel_rfl) (by kernel_rfl) (by kernel_rfl) (by kernel_rfl) (by kernel_rfl) (by kernel_rfl) (by kernel_rfl) (by kernel_rfl) rfl rfl (by kernel_rfl) (by kernel_rfl) (by kernel_rfl)
theorem over : Rows.acceptTwiceRow.holds Try.pinned (OpenSpec.ofChange Rows.acceptTwiceSpec) :=
  OpenClaim.holds_of_wide 28 Try.f28 rfl rfl rfl rfl rfl rfl rfl ⟨rfl, rfl, rfl, rfl, rfl⟩ rfl rfl rfl rfl rfl fnm Try.func28 facts
    (of_decide_eq_true (by kernel_rfl)) (by unfold Func.isWrapper; first | (rw [if_pos (by decide +kernel)]; kernel_rfl) | (rw [if_neg (by decide +kernel)]; exact ⟨rfl, rfl⟩))
    (fun os started H enc _ => lifted os started H enc)
theorem proved : Rows.AcceptTwiceSaid := over
end Go.Proofs.Ytgpkbldlkadnjaa.acceptTwice
namespace Go.Proofs.Ytgpkbldlkadnjaa
/-- The row, under a short name. -/
theorem acceptTwice_holds : Rows.AcceptTwiceSaid := acceptTwice.proved
#print axioms acceptTwice_holds
end Go.Proofs.Ytgpkbldlkadnjaa
