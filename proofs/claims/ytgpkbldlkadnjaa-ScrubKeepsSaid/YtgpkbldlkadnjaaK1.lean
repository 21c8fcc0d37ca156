/- The law ScrubKeeps, for every input: its row, out of its contract over data. No condition. -/
import Derived.Test.YtgpkbldlkadnjaaRows
import Derived.Test.YtgpkbldlkadnjaaJ3
import Derived.Test.YtgpkbldlkadnjaaJ7
set_option linter.unusedVariables false
namespace Go.Proofs.Ytgpkbldlkadnjaa.scrubKeeps
open Go Go.Sl Go.ChangeShapes Go.WideShapes Go.ChangeAt Go.RowKit
open Go.ChangeMaps (open_string shut_string)
set_option maxRecDepth 100000 in
theorem lifted (os : Os) (started : os.Started) (H : Type) (enc : TypeId × Value → H) :
  ReturnsInHanded {} Try.checked os 31 .any (Rows.scrubKeepsSpec.pre6 enc Try.prog Try.f31 Rows.scrubKeepsRow.domain false) (Rows.scrubKeepsSpec.post enc Try.prog Try.f31 false true false false) := by
 refine returnsInHanded_of_change_sized (C := Try.checked) zf_own started (by kernel_rfl) Try.func31
  (ChangeSpec.witness6 (enc := enc) (C := Try.checked) false ⟨#[], #[.int .u8 0, .int .u8 0, .string ByteArray.empty], []⟩ 8 (by kernel_rfl) (by kernel_rfl) (by kernel_rfl) (by kernel_rfl)) ?_
 intro W base args ds gs before hval0 hW hcnd hsz0 _
 have hsz : (DataW.weightsEach Try.prog (Try.f31.params.toList ++ Rows.scrubKeepsSpec.plain.varTypes Try.prog) (ds ++ gs)).all (· ≤ reachBytes) = true := hsz0
 have hval : ∀ (j : Nat) t v, Try.f31.params[j]? = some t → args[j]? = some v → Value.okWide Try.prog W .any base t v := hval0
 have hW' := hW
 obtain ⟨p, q, hA0, hV, rfl, hfz, hnd⟩ := hW
 have hA : DataW.TrodAll enc Try.prog W 0 (fun _ => true) true Try.f31.params.toList args.toList ds p := hA0
 rw [Try.params31] at hA hval hsz
 obtain ⟨v0, vs0, d0, ds0, p0, q0, hargs, rfl, rfl, h0, r0⟩ := trodAll_cons hA
 obtain ⟨v1, vs1, d1, ds1, p1, q1, rfl, rfl, rfl, h1, r1⟩ := trodAll_cons r0
 obtain ⟨v2, vs2, d2, ds2, p2, q2, rfl, rfl, rfl, h2, r2⟩ := trodAll_cons r1
 obtain ⟨rfl, rfl, rfl⟩ := trodAll_nil r2
 obtain rfl : args = #[v0, v1, v2] := by cases args; simp_all
 obtain ⟨rfl, rfl⟩ := trodVars_none hV
 obtain ⟨a0, rfl, rfl, rfl, w0⟩ := open_int Try.underlying5 (hval 0 5 v0 rfl rfl) h0
 obtain ⟨a1, rfl, rfl, rfl, w1⟩ := open_int Try.underlying5 (hval 1 5 v1 rfl rfl) h1
 obtain ⟨a2, rfl, rfl, rfl, y2⟩ := open_string Try.underlying9 (hval 2 9 v2 rfl rfl) h2
 have w2 : a2.size ≤ 140737488351232 := by
  have z := sized_string hsz (j := 2) (t := 9) rfl rfl
  rw [Array.length_toList] at z
  exact z
 clear hA0 hval0 hsz0 hsz
 refine (below_of_dfun (scrubKeeps_a (UInt8.ofNat a0.toNat) (UInt8.ofNat a1.toNat) a2 w2) (rsl_cons (by rw [u8_val w0]; exact rs_sc _) (rsl_cons (by rw [u8_val w1]; exact rs_sc _) (rsl_cons (rs_sc _) rsl_nil)))).mono fun e W' ⟨he, bel⟩ => ?_
 subst he
 exact ⟨_, rfl, _, _, _, [], _, [], hW', trodAll_mk1 (shut_bool Try.underlying4 _), (trodAll_cons_mk (shut_int Try.underlying5 w0) (trodAll_cons_mk (shut_int Try.underlying5 w1) (trodAll_cons_mk (shut_string Try.underlying9 y2) trodAll_mk0))), rfl, bel.frame _, fun h => by cases h⟩
theorem inP : Try.prog.inPlace 31 = [] := by kernel_rfl
theorem unf : Try.prog.unfollowed 31 = true := by kernel_rfl
theorem rec : Try.prog.recurses 31 = true := by kernel_rfl
theorem nam : Try.prog.varsNamed 31 = [] := by kernel_rfl
theorem fnm : Try.prog.funcNamed Rows.scrubKeepsRow.func = some 31 := by kernel_rfl
theorem facts : joinedFacts Try.prog 31 Try.f31 Rows.scrubKeepsSpec Rows.scrubKeepsRow = true :=
 facts_of zf_laid zf_maps zf_stops zf_knobs zf_plain zf_heard zf_enter zf_lifts zf_make inP unf rec nam rfl rfl rfl rfl rfl rfl rfl rfl rfl
  (by kernel_rfl) (by kernel_rfl) (by kernel_rfl) (by kernel_rfl) (by kernel_rfl) (by kernel_rfl) (by kernel_rfl) (by kernel_rfl) (by kernel_rfl) (by kernel_rfl) (by kernel_rfl) (by kernel_rfl) (by kernel_rfl) rfl rfl (by kernel_rfl) (by kernel_rfl) (by kernel_rfl)
theorem over : Rows.scrubKeepsRow.holds Try.pinned (OpenSpec.ofChange Rows.scrubKeepsSpec) :=
 OpenClaim.holds_of_wide 31 Try.f31 rfl rfl rfl rfl rfl rfl rfl ⟨rfl, rfl, rfl, rfl, rfl⟩ rfl rfl rfl rfl rfl fnm Try.func31 facts
  (of_decide_eq_true (by kernel_rfl)) (by unfold Func.isWrapper; first | (rw [if_pos (by decide +kernel)]; kernel_rfl) | (rw [if_neg (by decide +kernel)]; exact ⟨rfl, rfl⟩))
  (fun os started H enc _ => lifted os started H enc)
theorem proved : Rows.ScrubKeepsSaid := over
end Go.Proofs.Ytgpkbldlkadnjaa.scrubKeeps
namespace Go.Proofs.Ytgpkbldlkadnjaa
theorem scrubKeeps_holds : Rows.ScrubKeepsSaid := scrubKeeps.proved
#print axioms scrubKeeps_holds
end Go.Proofs.Ytgpkbldlkadnjaa
