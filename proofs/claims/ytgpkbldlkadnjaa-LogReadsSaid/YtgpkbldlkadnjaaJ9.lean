/- Equality of votes, in the model. -/
import Derived.Test.YtgpkbldlkadnjaaJ8
import Derived.Laws.StructEq
import Derived.Tactics
import Derived.KernelRfl
import Derived.Test.YtgpkbldlkadnjaaJ4
import Derived.Test.YtgpkbldlkadnjaaJ7
section
set_option linter.unusedVariables false
set_option linter.unusedSimpArgs false
set_option maxHeartbeats 3000000
attribute [local irreducible] Go.Sl.Chk Go.Sl.Br Go.Sl.Or2 Go.Sl.Ld Go.Sl.Ldn Go.Sl.LdB Go.Sl.Stn Go.Sl.New Go.Sl.Run Go.Sl.RunU Go.Sl.RunX Go.Sl.Call Go.Sl.LoopK Go.Sl.RawK Go.Sl.Alt Go.Sl.Om Go.Sl.xpk Go.Sl.xgpk Go.Sl.xglk Go.Sl.DLd Go.Sl.DLdG Go.Sl.DBs Go.Sl.DCall Go.Sl.DApp Go.Sl.DGen Go.Sl.DGenU Go.Sl.DGC Go.Sl.DLoop Go.Sl.DRaw Go.Sl.DRet Go.Sl.Ent Go.Sl.dget Go.Sl.dv Go.Sl.ev Go.Sl.eget
namespace Go.Proofs.Ytgpkbldlkadnjaa
open Go Go.Sl
theorem part_leaf {t : TypeId} {xs : Array Value} {k : Nat} {v : Value} {w : World} (ha : ∀ w, (Go.isAgg t).run Try.prog w = .ok false w) (hx : xs[k]? = some v) : (Go.part t xs k).run Try.prog w = .ok v w := by
  simp [Go.part, Sem.run_bind, ha, hx]
theorem eqV (a1 a2 a3 b1 b2 b3 : Int) (a4 b4 : Bool) (a5 b5 : ByteArray) (w : World) : (Op.equalIn 10000 95 (.agg #[.int .i64 a1, .int .i64 a2, .int .i64 a3, .bool a4, .string a5]) (.agg #[.int .i64 b1, .int .i64 b2, .int .i64 b3, .bool b4, .string b5])).run Try.prog w = .ok (a1 == b1 && (a2 == b2 && (a3 == b3 && (a4 == b4 && a5.toList == b5.toList)))) w := by
  have u3 := Try.underlying3
  have hS : Try.prog.underlying 95 = some (.struct (Try.prog.fieldsOf 95)) := by kernel_rfl
  have hp : Try.prog.stoodInHeld 95 = false := by kernel_rfl
  rw [show (10000 : Nat) = 9999 + 1 from rfl, run_equalIn_agg w 9999 95 _ _ hS hp]
  simp only [Program.fieldsOf, Try.underlying95]
  have u4 := Try.underlying4
  have u9 := Try.underlying9
  have g3 : ∀ w, (Go.isAgg 3).run Try.prog w = .ok false w := fun w => by kernel_rfl
  have g4 : ∀ w, (Go.isAgg 4).run Try.prog w = .ok false w := fun w => by kernel_rfl
  have g9 : ∀ w, (Go.isAgg 9).run Try.prog w = .ok false w := fun w => by kernel_rfl
  have p0 : ∀ (x0 x1 x2 x3 x4 : Value) (w : World), (Go.part 3 #[x0, x1, x2, x3, x4] 0).run Try.prog w = .ok x0 w := fun x0 x1 x2 x3 x4 w => part_leaf g3 rfl
  have p1 : ∀ (x0 x1 x2 x3 x4 : Value) (w : World), (Go.part 3 #[x0, x1, x2, x3, x4] 1).run Try.prog w = .ok x1 w := fun x0 x1 x2 x3 x4 w => part_leaf g3 rfl
  have p2 : ∀ (x0 x1 x2 x3 x4 : Value) (w : World), (Go.part 3 #[x0, x1, x2, x3, x4] 2).run Try.prog w = .ok x2 w := fun x0 x1 x2 x3 x4 w => part_leaf g3 rfl
  have p3 : ∀ (x0 x1 x2 x3 x4 : Value) (w : World), (Go.part 4 #[x0, x1, x2, x3, x4] 3).run Try.prog w = .ok x3 w := fun x0 x1 x2 x3 x4 w => part_leaf g4 rfl
  have p4 : ∀ (x0 x1 x2 x3 x4 : Value) (w : World), (Go.part 9 #[x0, x1, x2, x3, x4] 4).run Try.prog w = .ok x4 w := fun x0 x1 x2 x3 x4 w => part_leaf g9 rfl
  simp only [Op.eqFields, Sem.run_bind, Sem.run_ite, Result.andThen_ok, Sem.run_pure, p0, p1, p2, p3, p4, run_equalIn_int _ _ _ _ _ _ _ u3, run_equalIn_bool' _ _ _ _ _ u4, run_equalIn_string _ _ _ _ _ u9]
  simp only [ne_eq, show ¬ ("Slot" = "_") by decide, show ¬ ("Ballot" = "_") by decide, show ¬ ("Origin" = "_") by decide, show ¬ ("Full" = "_") by decide, show ¬ ("Bytes" = "_") by decide, not_false_eq_true, if_true]
  cases h1 : (a1 == b1) <;> cases h2 : (a2 == b2) <;> cases h3 : (a3 == b3) <;> cases h4 : (a4 == b4) <;> cases h5 : (a5.toList == b5.toList) <;> rfl
end Go.Proofs.Ytgpkbldlkadnjaa
end
section
/- Contracts over data: the same votes. -/
set_option linter.unusedVariables false
set_option linter.unusedSimpArgs false
set_option maxHeartbeats 3000000
attribute [local irreducible] Go.Sl.Chk Go.Sl.Br Go.Sl.Or2 Go.Sl.Ld Go.Sl.Ldn Go.Sl.LdB Go.Sl.Stn Go.Sl.New Go.Sl.Run Go.Sl.RunU Go.Sl.RunX Go.Sl.Call Go.Sl.LoopK Go.Sl.RawK Go.Sl.Alt Go.Sl.Om Go.Sl.xpk Go.Sl.xgpk Go.Sl.xglk Go.Sl.DLd Go.Sl.DLdG Go.Sl.DBs Go.Sl.DCall Go.Sl.DApp Go.Sl.DGen Go.Sl.DGenU Go.Sl.DGC Go.Sl.DLoop Go.Sl.DRaw Go.Sl.DRet Go.Sl.Ent Go.Sl.dget Go.Sl.dv Go.Sl.ev Go.Sl.eget
namespace Go.Proofs.Ytgpkbldlkadnjaa
open Go Go.Sl Go.RowKit
instance : DecidableEq VoteS := fun a b => by
  cases a; cases b
  exact decidable_of_iff _ (VoteS.mk.injEq ..).to_iff.symm
theorem dneq_vote {x y : Operand} {dst : Option Nat} {t2 ty : TypeId} {pos : String} {af : Array Edge} {gu} {de : DEnv} {r : Roots} {nx : Nat} {held : List Nat} {K : D → Roots → Nat → Prop} {tg : TagF K} {u v : VoteS} (hx : dv de r x = some (.agg (voteC u))) (hy : dv de r y = some (.agg (voteC v))) (k : K (boolD (!decide (u = v))) r nx) : DGen Try.prog ⟨dst, .binOp .neq 95 x y t2, ty, pos, af, gu⟩ de held r nx K tg := by
  unfold DGen
  intro E w Z T F en h he
  obtain ⟨a, ha, ra⟩ := dv_rs h.roots he hx
  obtain ⟨b, hb, rb⟩ := dv_rs h.roots he hy
  simp only [voteC, Rs, RsL] at ra rb
  obtain ⟨_, rfl, _, _, rfl, rfl, _, _, rfl, rfl, _, _, rfl, rfl, _, _, rfl, rfl, _, _, rfl, rfl, rfl⟩ := ra
  obtain ⟨_, rfl, _, _, rfl, rfl, _, _, rfl, rfl, _, _, rfl, rfl, _, _, rfl, rfl, _, _, rfl, rfl, rfl⟩ := rb
  refine ⟨by simp [Op.operands, known, ha, hb], ?_⟩
  unfold RunX
  refine .inl ⟨.bool (!decide (u = v)), w, ?_, _, _, _, _, _, _, h, Grow.refl _ _ _ _ _, by simp only [Rs], k⟩
  simp [execOp, rho, ha, hb, Sem.run_bind]
  have hq : (u.slot == v.slot && (u.ballot == v.ballot && (u.origin == v.origin && (u.full == v.full && (⟨u.bytes.toArray⟩ : ByteArray).toList == (⟨v.bytes.toArray⟩ : ByteArray).toList)))) = decide (u = v) := by
    rw [ByteArray.toList_eq, ByteArray.toList_eq, Bool.eq_iff_iff]
    obtain ⟨a1, a2, a3, a4, a5⟩ := u
    obtain ⟨b1, b2, b3, b4, b5⟩ := v
    simp only [Bool.and_eq_true, beq_iff_eq, decide_eq_true_eq, VoteS.mk.injEq]
  rw [run_eqGuard_agg w .neq 95 x y _ _ (by kernel_rfl)]
  simp only [Result.andThen_ok]
  rw [run_neq_struct, eqV, hq]
  simp only [Result.andThen_ok]
set_option maxRecDepth 100000 in
theorem same17_d (a b : List VoteS) (hl : a.length ≤ 1000000) : DFun Try.prog f_ref17_Same [votesD a, votesD b] (boolD (decide (a = b))) := by
  intro nx
  refine xcalls c_ref17_Same (by simp only [m_ref17_Same, List.length]; decide) ?_
  rcases Decidable.em (a.length = b.length) with he | he
  · simp only [m_ref17_Same]; refine WK ?_; try with_reducible exact trivial
    refine dloop [0, 1, 5] (fun s : Nat => ([(0, votesD a), (1, votesD b), (5, iD (s : Nat))], [], nx)) (fun s => s ≤ a.length ∧ a.take s = b.take s) (fun s => a.length - s) 0 ⟨by omega, by simp⟩ (Ent.of (by with_unfolding_all rfl) rfl) ?_
    rintro k ⟨q1, q2⟩
    dsimp only at q1 q2 ⊢
    refine WK ?_; try with_reducible exact trivial
    refine brd (fun hlt => ?_) (fun hge => ?_)
    · have hka : k < a.length := by omega
      have hkb : k < b.length := by omega
      have ha5 : 5 ≤ ((votesC a).drop (k * 5)).length := by rw [List.length_drop, votesC, flat_len' voteC_len]; omega
      have hb5 : 5 ≤ ((votesC b).drop (k * 5)).length := by rw [List.length_drop, votesC, flat_len' voteC_len]; omega
      have hta : ((votesC a).drop (k * 5)).take 5 = voteC (gt a k) := flatC_take voteC_len a hka
      have htb : ((votesC b).drop (k * 5)).take 5 = voteC (gt b k) := flatC_take voteC_len b hkb
      refine WKX (And.intro @hta @htb) ?_; try with_reducible exact trivial
      refine dneq_vote (u := gt a k) (v := gt b k) ?_ ?_ ?_
      · refine WK ?_; try with_reducible exact trivial
      · refine WK ?_; try with_reducible exact trivial
      rcases Decidable.em (gt a k = gt b k) with e | e
      · rw [decide_eq_true e]
        refine WK ?_; try with_reducible exact trivial
        exact ⟨k + 1, ⟨by omega, by rw [take_gt hka, take_gt hkb, q2, e]⟩, by omega, (Ent.of (by with_unfolding_all rfl) rfl)⟩
      · rw [decide_eq_false e]
        refine WK ?_; try with_reducible exact trivial
        exact dret0 ⟨by rw [decide_eq_false (fun h => e (by rw [h]))], rfl⟩
    · refine WK ?_; try with_reducible exact trivial
      have hab : a = b := by
        rw [List.take_of_length_le (by omega), List.take_of_length_le (by omega)] at q2
        exact q2
      exact dret0 ⟨by rw [decide_eq_true hab], rfl⟩
  · simp only [m_ref17_Same]; refine WK ?_; try with_reducible exact trivial
    exact dret0 ⟨by rw [decide_eq_false (fun k => he (by rw [k]))], rfl⟩
end Go.Proofs.Ytgpkbldlkadnjaa
end
section
/- Plain: votes by their slots; logs of records, and what they say. -/
set_option linter.unusedVariables false
set_option linter.unusedSimpArgs false
set_option maxHeartbeats 2000000
namespace Go.Proofs.Ytgpkbldlkadnjaa
open Go Go.Sl
def slots (vs : List VoteS) : List Int := vs.map fun v => v.slot
theorem slotF_none' {vs : List VoteS} {s : Int} (h : s ∉ slots vs) : slotF vs s = none := by
  unfold slotF
  rw [List.findIdx?_eq_none_iff]
  intro v hv
  simp only [decide_eq_false_iff_not]
  exact fun e => h (List.mem_map.2 ⟨v, hv, e⟩)
theorem slots_inj {vs : List VoteS} (hn : (slots vs).Nodup) {u v : VoteS} (hu : u ∈ vs) (hv : v ∈ vs) (h : u.slot = v.slot) : u = v := by
  obtain ⟨i, hi, rfl⟩ := List.mem_iff_getElem.1 hu
  obtain ⟨j, hj, rfl⟩ := List.mem_iff_getElem.1 hv
  have h1 : i < (slots vs).length := by simpa [slots] using hi
  have h2 : j < (slots vs).length := by simpa [slots] using hj
  have h3 : (slots vs)[i] = (slots vs)[j] := by simpa [slots] using h
  have := (List.getElem_inj (h₀ := h1) (h₁ := h2) hn).1 h3
  subst this
  rfl
theorem atS_of {vs : List VoteS} (hn : (slots vs).Nodup) {v : VoteS} (hv : v ∈ vs) : atS vs v.slot = v := by
  obtain ⟨j, u, _, h2, h3, h4⟩ := slotF_mem (vs := vs) (s := v.slot) (List.mem_map.2 ⟨v, hv, rfl⟩)
  rw [h4]
  exact slots_inj hn (List.mem_of_getElem? h2) hv h3
theorem slotsS_perm (vs : List VoteS) : (slotsS vs).Perm (slots vs) := List.mergeSort_perm ..
theorem slotsS_sorted (vs : List VoteS) : (slotsS vs).Pairwise (· ≤ ·) := by
  have := List.pairwise_mergeSort (le := fun x y : Int => decide (x ≤ y)) (fun a b c h1 h2 => by simp only [decide_eq_true_eq] at *; omega) (fun a b => by simp only [Bool.or_eq_true, decide_eq_true_eq]; omega) (slots vs)
  exact this.imp fun h => by simpa using h
theorem sortS_perm {vs : List VoteS} (hn : (slots vs).Nodup) : (sortS vs).Perm vs := by
  have h1 := (slotsS_perm vs).map (atS vs)
  have h2 : (slots vs).map (atS vs) = vs := by
    unfold slots
    rw [List.map_map]
    conv => rhs; rw [← List.map_id vs]
    exact List.map_congr_left fun v hv => atS_of hn hv
  rw [h2] at h1
  exact h1
theorem sortS_slots (vs : List VoteS) : slots (sortS vs) = slotsS vs := by
  unfold slots sortS
  rw [List.map_map]
  conv => rhs; rw [← List.map_id (slotsS vs)]
  refine List.map_congr_left fun s hs => ?_
  obtain ⟨j, u, _, _, h3, h4⟩ := slotF_mem ((slotsS_perm vs).mem_iff.1 hs)
  simp only [Function.comp, h4, h3, id]
theorem sortS_nodup {vs : List VoteS} (hn : (slots vs).Nodup) : (slots (sortS vs)).Nodup := ((sortS_perm hn).map _).nodup_iff.2 hn
theorem sortS_id {vs : List VoteS} (hn : (slots vs).Nodup) (hs : (slots vs).Pairwise (· ≤ ·)) : sortS vs = vs := by
  have h1 : slotsS vs = slots vs := List.mergeSort_of_pairwise (hs.imp fun h => by simpa using h)
  unfold sortS
  rw [h1]
  unfold slots
  rw [List.map_map]
  conv => rhs; rw [← List.map_id vs]
  exact List.map_congr_left fun v hv => atS_of hn hv
theorem sortS_sortS {vs : List VoteS} (hn : (slots vs).Nodup) : sortS (sortS vs) = sortS vs :=
  sortS_id (sortS_nodup hn) (by rw [sortS_slots]; exact slotsS_sorted vs)
theorem foldS_append : ∀ (l : LL) (p : Nat) (vs : List VoteS) (n : Nat) (r : LL), (∀ x ∈ l, okR (getV x) = true) → foldS (l ++ r) p vs n = foldS r (foldS l p vs n).1 (foldS l p vs n).2.1 (foldS l p vs n).2.2
  | [], p, vs, n, r, _ => by simp [foldS]
  | x :: l, p, vs, n, r, h => by
    rw [List.cons_append, foldS, foldS, if_pos (h x (by simp)), if_pos (h x (by simp))]
    exact foldS_append l _ _ _ r fun y hy => h y (by simp [hy])
def frames (l : LL) : Bs := l.flatMap frameB
theorem frames_cons (r : Bs) (l : LL) : (frames (r :: l)).length = r.length + 12 + (frames l).length := by
  unfold frames
  rw [List.flatMap_cons, List.length_append, frameB_len]
theorem foldS_votes : ∀ (V : List VoteS) (p : Nat) (acc : List VoteS) (n : Nat), (∀ v ∈ V, RightV v ∧ v.ballot ≤ (p : Int)) → (slots (acc ++ V)).Nodup → foldS (V.map voteB) p acc n = (p, acc ++ V, n + (frames (V.map voteB)).length)
  | [], p, acc, n, _, _ => by simp [foldS, frames]
  | v :: V, p, acc, n, h, hn => by
    obtain ⟨h1, h2⟩ := h v (by simp)
    have hns : v.slot ∉ slots acc := by
      unfold slots at hn ⊢
      rw [List.map_append, List.nodup_append] at hn
      exact fun hm => hn.2.2 _ hm _ (by simp) rfl
    rw [List.map_cons, foldS, getV_voteB h1, if_pos (show okR (.vote v) = true from rfl)]
    have hp : putS acc v = acc ++ [v] := by unfold putS; rw [slotF_none' hns]
    simp only [takeS, hp]
    rw [show max p v.ballot.toNat = p by omega, foldS_votes V p (acc ++ [v]) _ (fun u hu => h u (by simp [hu])) (by rw [List.append_assoc]; exact hn)]
    rw [frames_cons, List.append_assoc]
    simp only [Prod.mk.injEq, true_and]
    exact ⟨rfl, by omega⟩
def sizeV (vs : List VoteS) : Nat := (vs.map fun v => (voteB v).length + 12).sum
theorem frames_votes : ∀ V : List VoteS, (frames (V.map voteB)).length = sizeV V
  | [] => rfl
  | v :: V => by rw [List.map_cons, frames_cons, frames_votes V]; simp [sizeV]
theorem sizeV_set : ∀ (vs : List VoteS) (j : Nat) (v : VoteS), sizeV (vs.set j v) ≤ sizeV vs + ((voteB v).length + 12)
  | [], j, v => by simp [sizeV]
  | u :: vs, 0, v => by simp only [sizeV, List.set_cons_zero, List.map_cons, List.sum_cons]; omega
  | u :: vs, j + 1, v => by
    have := sizeV_set vs j v
    simp only [sizeV, List.set_cons_succ, List.map_cons, List.sum_cons] at this ⊢
    omega
theorem sizeV_put (vs : List VoteS) (v : VoteS) : sizeV (putS vs v) ≤ sizeV vs + ((voteB v).length + 12) := by
  unfold putS
  split
  · simp only [sizeV, List.map_append, List.map_cons, List.map_nil, List.sum_append, List.sum_cons, List.sum_nil]; omega
  · split
    · exact sizeV_set ..
    · omega
theorem put_slots {vs : List VoteS} {v : VoteS} (hn : (slots vs).Nodup) : (slots (putS vs v)).Nodup := by
  unfold putS
  cases h : slotF vs v.slot with
  | none =>
    dsimp only
    unfold slots at hn ⊢
    rw [List.map_append, List.nodup_append]
    refine ⟨hn, by simp, fun a ha b hb => ?_⟩
    simp only [List.map_cons, List.map_nil, List.mem_singleton] at hb
    subst hb
    rintro rfl
    unfold slotF at h
    rw [List.findIdx?_eq_none_iff] at h
    obtain ⟨u, hu, e⟩ := List.mem_map.1 ha
    have := h u hu
    simp [e] at this
  | some j =>
    dsimp only
    split
    · obtain ⟨u, h1, h2⟩ := slotF_some h
      have : slots (vs.set j v) = slots vs := by
        unfold slots
        rw [List.map_set]
        refine List.ext_getElem? fun i => ?_
        rw [List.getElem?_set]
        split
        · rename_i e
          subst e
          split
          · rw [List.getElem?_map, h1]; simp [h2]
          · rename_i h3
            rw [List.getElem?_eq_none (by simpa using h3)]
        · rfl
      rw [this]; exact hn
    · exact hn
theorem put_mem {vs : List VoteS} {v u : VoteS} (h : u ∈ putS vs v) : u ∈ vs ∨ u = v := by
  unfold putS at h
  split at h
  · simpa using h
  · split at h
    · exact (List.mem_or_eq_of_mem_set h)
    · exact .inl h
/-- a log: its records; what they say -/
structure LogOk (l : LL) (p : Nat) (vs : List VoteS) : Prop where
  small : ∀ r ∈ l, r.length ≤ 65535
  ok : ∀ r ∈ l, okR (getV r) = true
  say : foldS l 0 [] 0 = (p, vs, (frames l).length)
  le : p ≤ 2147483647
  right : Right1 vs
  nodup : (slots vs).Nodup
  top : ∀ v ∈ vs, v.ballot ≤ (p : Int)
  size : sizeV vs ≤ (frames l).length
theorem log_nil : LogOk [] 0 [] := ⟨by simp, by simp, rfl, by omega, fun v hv => by simp at hv, List.nodup_nil, by simp, Nat.zero_le _⟩
theorem frames_append (l r : LL) : frames (l ++ r) = frames l ++ frames r := by unfold frames; rw [List.flatMap_append]
theorem frames_one (r : Bs) : frames [r] = frameB r := by simp [frames]
theorem log_step {l : LL} {p : Nat} {vs : List VoteS} {rec : Bs} (h : LogOk l p vs) (h1 : rec.length ≤ 65535) (h2 : okR (getV rec) = true) (h3 : ∀ v, getV rec = .vote v → (voteB v).length = rec.length ∧ RightV v) : LogOk (l ++ [rec]) (takeS p vs (getV rec)).1 (takeS p vs (getV rec)).2 := by
  have hl : (frames (l ++ [rec])).length = (frames l).length + (rec.length + 12) := by rw [frames_append, List.length_append, frames_one, frameB_len]
  refine ⟨fun r hr => ?_, fun r hr => ?_, ?_, takeS_le h.le, takeS_right h.right, ?_, ?_, ?_⟩
  · rcases List.mem_append.1 hr with hr | hr
    · exact h.small r hr
    · simp only [List.mem_singleton] at hr; subst hr; exact h1
  · rcases List.mem_append.1 hr with hr | hr
    · exact h.ok r hr
    · simp only [List.mem_singleton] at hr; subst hr; exact h2
  · rw [foldS_append _ _ _ _ _ h.ok, h.say, foldS, if_pos h2, foldS, hl]
  · cases hg : getV rec with
    | bad => exact h.nodup
    | promise b => exact h.nodup
    | vote v => exact put_slots h.nodup
  · cases hg : getV rec with
    | bad => exact h.top
    | promise b => intro v hv; have := h.top v hv; simp only [takeS]; omega
    | vote v =>
      intro u hu
      have := (h3 v hg).2
      unfold RightV at this
      simp only [takeS] at hu ⊢
      rcases put_mem hu with hu | rfl
      · have := h.top u hu; omega
      · omega
  · rw [hl]
    have := h.size
    cases hg : getV rec with
    | bad => simp only [takeS]; omega
    | promise b => simp only [takeS]; omega
    | vote v =>
      have h4 := sizeV_put vs v
      have := (h3 v hg).1
      simp only [takeS]; omega
theorem log_comp {l : LL} {p : Nat} {vs : List VoteS} (h : LogOk l p vs) : LogOk (recsL p vs) p (sortS vs) ∧ (frames (recsL p vs)).length ≤ (frames l).length + 20 := by
  have hp := sortS_perm h.nodup
  have hm : ∀ v ∈ sortS vs, RightV v ∧ v.ballot ≤ (p : Int) := fun v hv => ⟨h.right v (hp.mem_iff.1 hv), h.top v (hp.mem_iff.1 hv)⟩
  have hs : sizeV (sortS vs) = sizeV vs := (hp.map _).sum_nat
  have hrest := foldS_votes (sortS vs) p [] (if 1 ≤ p then 20 else 0) hm (sortS_nodup h.nodup)
  have hfl : (frames (recsL p vs)).length = (if 1 ≤ p then 20 else 0) + sizeV vs := by
    unfold recsL
    rw [frames_append, List.length_append, frames_votes, hs]
    split
    · rw [frames_one, frameB_len, promiseB_len]
    · rfl
  have hsz := h.size
  refine ⟨⟨fun r hr => ?_, fun r hr => ?_, ?_, h.le, fun v hv => (hm v hv).1, sortS_nodup h.nodup, fun v hv => (hm v hv).2, ?_⟩, ?_⟩
  · unfold recsL at hr
    rcases List.mem_append.1 hr with hr | hr
    · split at hr
      · simp only [List.mem_singleton] at hr; rw [hr, promiseB_len]; omega
      · simp at hr
    · obtain ⟨v, hv, rfl⟩ := List.mem_map.1 hr
      have := voteB_len (hm v hv).1
      omega
  · unfold recsL at hr
    rcases List.mem_append.1 hr with hr | hr
    · split at hr
      · simp only [List.mem_singleton] at hr; rw [hr, getV_promiseB ⟨by omega, h.le⟩]; rfl
      · simp at hr
    · obtain ⟨v, hv, rfl⟩ := List.mem_map.1 hr
      rw [getV_voteB (hm v hv).1]; rfl
  · rw [hfl]
    rw [frames_votes, hs, List.nil_append] at hrest
    unfold recsL
    by_cases hp1 : 1 ≤ p
    · rw [if_pos hp1] at hrest ⊢
      rw [List.singleton_append, foldS, getV_promiseB ⟨hp1, h.le⟩, if_pos (show okR (.promise p) = true from rfl)]
      simp only [takeS, promiseB_len, Nat.zero_max]
      rw [if_pos hp1]
      exact hrest
    · rw [if_neg hp1] at hrest ⊢
      obtain rfl : p = 0 := by omega
      exact hrest
  · rw [hs, hfl]; omega
  · rw [hfl]; split <;> omega
/-- votes, by slots, one more in the place of one with its slot -/
def put1 : List VoteS → VoteS → List VoteS
  | [], v => [v]
  | u :: l, v => if u.slot < v.slot then u :: put1 l v else if u.slot = v.slot then v :: l else v :: u :: l
def addR (l : List VoteS) (v : VoteS) : List VoteS := if l.any (fun u => decide (u.slot = v.slot) && decide (v.ballot < u.ballot)) then l else put1 l v
def Asc (l : List VoteS) : Prop := (slots l).Pairwise (· < ·)
theorem asc_cons {u : VoteS} {l : List VoteS} : Asc (u :: l) ↔ (∀ x ∈ l, u.slot < x.slot) ∧ Asc l := by
  unfold Asc slots
  rw [List.map_cons, List.pairwise_cons]
  refine and_congr ⟨fun h x hx => h _ (List.mem_map.2 ⟨x, hx, rfl⟩), fun h s hs => ?_⟩ Iff.rfl
  obtain ⟨x, hx, rfl⟩ := List.mem_map.1 hs
  exact h x hx
theorem asc_uniq : ∀ {a b : List VoteS}, Asc a → Asc b → (∀ x, x ∈ a ↔ x ∈ b) → a = b
  | [], [], _, _, _ => rfl
  | [], y :: b, _, _, h => absurd ((h y).2 (by simp)) (by simp)
  | x :: a, [], _, _, h => absurd ((h x).1 (by simp)) (by simp)
  | x :: a, y :: b, ha, hb, h => by
    obtain ⟨a1, a2⟩ := asc_cons.1 ha
    obtain ⟨b1, b2⟩ := asc_cons.1 hb
    have hxy : x = y := by
      rcases List.mem_cons.1 ((h x).1 (by simp)) with e | e
      · exact e
      · rcases List.mem_cons.1 ((h y).2 (by simp)) with e2 | e2
        · exact e2.symm
        · have := a1 y e2; have := b1 x e; omega
    subst hxy
    rw [asc_uniq a2 b2 fun z => ⟨fun hz => ?_, fun hz => ?_⟩]
    · rcases List.mem_cons.1 ((h z).1 (by simp [hz])) with e | e
      · have := a1 z hz; rw [e] at this; omega
      · exact e
    · rcases List.mem_cons.1 ((h z).2 (by simp [hz])) with e | e
      · have := b1 z hz; rw [e] at this; omega
      · exact e
theorem put1_mem : ∀ {l : List VoteS} {v : VoteS}, Asc l → ∀ x, x ∈ put1 l v ↔ x = v ∨ (x ∈ l ∧ x.slot ≠ v.slot)
  | [], v, _, x => by simp [put1]
  | u :: l, v, h, x => by
    obtain ⟨h1, h2⟩ := asc_cons.1 h
    unfold put1
    split
    · rename_i hlt
      rw [List.mem_cons, put1_mem h2, List.mem_cons]
      constructor
      · rintro (rfl | rfl | ⟨h3, h4⟩)
        · exact .inr ⟨.inl rfl, by omega⟩
        · exact .inl rfl
        · exact .inr ⟨.inr h3, h4⟩
      · rintro (rfl | ⟨rfl | h3, h4⟩)
        · exact .inr (.inl rfl)
        · exact .inl rfl
        · exact .inr (.inr ⟨h3, h4⟩)
    · split
      · rename_i hnl he
        rw [List.mem_cons, List.mem_cons]
        constructor
        · rintro (rfl | h3)
          · exact .inl rfl
          · exact .inr ⟨.inr h3, by have := h1 x h3; omega⟩
        · rintro (rfl | ⟨rfl | h3, h4⟩)
          · exact .inl rfl
          · exact absurd he h4
          · exact .inr h3
      · rename_i hnl he
        rw [List.mem_cons, List.mem_cons]
        constructor
        · rintro (rfl | rfl | h3)
          · exact .inl rfl
          · exact .inr ⟨.inl rfl, he⟩
          · exact .inr ⟨.inr h3, by have := h1 x h3; omega⟩
        · rintro (rfl | ⟨h3, _⟩)
          · exact .inl rfl
          · exact .inr h3
theorem put1_asc : ∀ {l : List VoteS} {v : VoteS}, Asc l → Asc (put1 l v)
  | [], v, _ => by simp [put1, Asc, slots]
  | u :: l, v, h => by
    obtain ⟨h1, h2⟩ := asc_cons.1 h
    unfold put1
    split
    · rename_i hlt
      refine asc_cons.2 ⟨fun x hx => ?_, put1_asc h2⟩
      rcases (put1_mem h2 x).1 hx with rfl | ⟨h3, _⟩
      · exact hlt
      · exact h1 x h3
    · split
      · rename_i hnl he
        exact asc_cons.2 ⟨fun x hx => by have := h1 x hx; omega, h2⟩
      · rename_i hnl he
        refine asc_cons.2 ⟨fun x hx => ?_, h⟩
        rcases List.mem_cons.1 hx with rfl | hx
        · omega
        · have := h1 x hx; omega
theorem sortS_asc {vs : List VoteS} (hn : (slots vs).Nodup) : Asc (sortS vs) := by
  have h1 := slotsS_sorted vs
  have h2 := sortS_nodup hn
  unfold Asc
  rw [← sortS_slots] at h1
  exact (h1.and h2).imp fun ⟨a, b⟩ => by omega
theorem putS_mem {vs : List VoteS} {v : VoteS} (hn : (slots vs).Nodup) (h : ∀ u ∈ vs, u.slot = v.slot → u.ballot ≤ v.ballot) (x : VoteS) : x ∈ putS vs v ↔ x = v ∨ (x ∈ vs ∧ x.slot ≠ v.slot) := by
  unfold putS
  cases hf : slotF vs v.slot with
  | none =>
    dsimp only
    unfold slotF at hf
    rw [List.findIdx?_eq_none_iff] at hf
    rw [List.mem_append, List.mem_singleton]
    constructor
    · rintro (h1 | rfl)
      · exact .inr ⟨h1, by simpa using hf x h1⟩
      · exact .inl rfl
    · rintro (rfl | ⟨h1, _⟩)
      · exact .inr rfl
      · exact .inl h1
  | some j =>
    obtain ⟨u, h1, h2⟩ := slotF_some hf
    have hj := (List.getElem?_eq_some_iff.1 h1).1
    have hu : gt vs j = u := by rw [gt_eq hj]; rw [List.getElem?_eq_getElem hj] at h1; exact Option.some.inj h1
    dsimp only
    rw [hu, if_pos (h u (List.mem_of_getElem? h1) h2)]
    constructor
    · intro hx
      obtain ⟨i, hi, rfl⟩ := List.mem_iff_getElem.1 hx
      rw [List.getElem_set]
      split
      · exact .inl rfl
      · rename_i hne
        have hi' : i < vs.length := by simpa using hi
        refine .inr ⟨List.getElem_mem _, fun e => hne ?_⟩
        have h3 : (slots vs)[j]'(by simpa [slots] using hj) = (slots vs)[i]'(by simpa [slots] using hi') := by
          rw [List.getElem?_eq_getElem hj] at h1
          have := Option.some.inj h1
          simp only [slots, List.getElem_map, this, h2, e]
        exact (List.getElem_inj hn).1 h3
    · rintro (rfl | ⟨h3, h4⟩)
      · exact List.mem_iff_getElem.2 ⟨j, by simpa using hj, by simp⟩
      · obtain ⟨i, hi, rfl⟩ := List.mem_iff_getElem.1 h3
        refine List.mem_iff_getElem.2 ⟨i, by simpa using hi, ?_⟩
        rw [List.getElem_set_ne]
        rintro rfl
        rw [List.getElem?_eq_getElem hj] at h1
        rw [Option.some.inj h1] at h4
        exact h4 h2
theorem put1_sort {vs : List VoteS} {v : VoteS} (hn : (slots vs).Nodup) (hall : ∀ u ∈ vs, u.slot = v.slot → u.ballot ≤ v.ballot) : put1 (sortS vs) v = sortS (putS vs v) := by
  have hp := sortS_perm hn
  have hn2 := put_slots (v := v) hn
  refine asc_uniq (put1_asc (sortS_asc hn)) (sortS_asc hn2) fun x => ?_
  rw [put1_mem (sortS_asc hn), (sortS_perm hn2).mem_iff, putS_mem hn hall, hp.mem_iff]
theorem addR_sort {vs : List VoteS} {v : VoteS} (hn : (slots vs).Nodup) : addR (sortS vs) v = sortS (putS vs v) := by
  have hp := sortS_perm hn
  unfold addR
  split
  · rename_i h
    simp only [List.any_eq_true, Bool.and_eq_true, decide_eq_true_eq] at h
    obtain ⟨u, h1, h2, h3⟩ := h
    have hu := hp.mem_iff.1 h1
    congr 1
    unfold putS
    cases hf : slotF vs v.slot with
    | none =>
      unfold slotF at hf
      rw [List.findIdx?_eq_none_iff] at hf
      have := hf u hu
      simp [h2] at this
    | some j =>
      obtain ⟨w, h4, h5⟩ := slotF_some hf
      have hj := (List.getElem?_eq_some_iff.1 h4).1
      have hw : gt vs j = w := by rw [gt_eq hj]; rw [List.getElem?_eq_getElem hj] at h4; exact Option.some.inj h4
      have := slots_inj hn (List.mem_of_getElem? h4) hu (by omega)
      dsimp only
      rw [hw, if_neg (by rw [this]; omega)]
  · rename_i h
    have hall : ∀ u ∈ vs, u.slot = v.slot → u.ballot ≤ v.ballot := fun u hu he => by
      refine Int.not_lt.1 fun hlt => h ?_
      simp only [List.any_eq_true, Bool.and_eq_true, decide_eq_true_eq]
      exact ⟨u, hp.mem_iff.2 hu, he, hlt⟩
    exact put1_sort hn hall
/-- put at its place -/
theorem put1_at : ∀ (l : List VoteS) (v : VoteS) (k : Nat), k ≤ l.length → (∀ x ∈ l.take k, x.slot < v.slot) → (∀ x, l[k]? = some x → ¬ x.slot < v.slot) →
    put1 l v = l.take k ++ v :: (if (∃ x, l[k]? = some x ∧ x.slot = v.slot) then l.drop (k + 1) else l.drop k)
  | [], v, k, hk, _, _ => by
    simp only [List.length_nil, Nat.le_zero] at hk
    subst hk
    simp [put1]
  | u :: l, v, 0, _, _, h => by
    have h1 := h u rfl
    simp only [put1, if_neg h1, List.take_zero, List.nil_append, List.getElem?_cons_zero, Option.some.injEq, exists_eq_left', List.drop_zero, Nat.zero_add, List.drop_one, List.tail_cons]
    split <;> rfl
  | u :: l, v, k + 1, hk, h, h' => by
    have h1 := h u (by simp)
    simp only [put1, if_pos h1, List.take_succ_cons, List.cons_append, List.getElem?_cons_succ, List.drop_succ_cons]
    rw [put1_at l v k (by simpa using hk) (fun x hx => h x (by simp [hx])) (fun x hx => h' x (by simpa using hx))]
/-- the disk: the log alone, or nothing yet -/
def OnDisk (fs : List FileS) (B : Bs) : Prop := fs = oneF B ∨ (fs = [] ∧ B = [])
theorem od_add {fs : List FileS} {B : Bs} {most : Nat} (h : OnDisk fs B) {rec : Bs} (hl : B.length + rec.length + 12 ≤ most) : appE fs most lgN (frameB rec) = 0 ∧ addF fs most rec = oneF (B ++ frameB rec) := by
  rcases h with rfl | ⟨rfl, rfl⟩
  · exact ⟨appE_one (by rw [frameB_len]; omega), addF_one hl⟩
  · exact ⟨appE_nil (by rw [frameB_len]; simp only [List.length_nil] at hl; omega), addF_nil (by simp only [List.length_nil] at hl; omega)⟩
theorem od_logB {fs : List FileS} {B : Bs} (h : OnDisk fs B) : logB fs = B := by
  rcases h with rfl | ⟨rfl, rfl⟩
  · exact logB_one B
  · rfl
theorem od_ok {fs : List FileS} {B : Bs} {most : Nat} (h : OnDisk fs B) (hl : B.length ≤ most) (hm : most ≤ 65536) : DOk fs most 1 := by
  rcases h with rfl | ⟨rfl, rfl⟩
  · exact oneF_ok hl hm
  · exact ⟨fun f hf => by simp at hf, fun f hf => by simp at hf, by simp [usedN], List.nodup_nil, by simp, fun f hf => by simp at hf⟩
theorem od_comp {fs : List FileS} {B : Bs} {most p : Nat} {vs : List VoteS} (h : OnDisk fs B) (hl : B.length + (compB p vs).length ≤ most) : compE fs most p vs = 0 ∧ compF fs most p vs = oneF (compB p vs) := by
  rcases h with rfl | ⟨rfl, rfl⟩
  · refine ⟨compE_one hl, ?_⟩
    have e : appE (oneF B) most nwN (compB p vs) = 0 := by
      unfold appE
      rw [show namedB nwN = true by decide, if_neg (by decide), if_neg (by simp [usedN, oneF]; omega)]
    have e2 : appF (oneF B) most nwN (compB p vs) = [(lgN, B, B.length), (nwN, compB p vs, 0)] := by
      unfold appF
      rw [show namedB nwN = true by decide, if_neg (by decide), if_neg (by simp [usedN, oneF]; omega)]
      unfold oneF
      rw [find_new0]
      rfl
    have e3 : syncF [(lgN, B, B.length), (nwN, compB p vs, 0)] nwN = [(lgN, B, B.length), (nwN, compB p vs, (compB p vs).length)] := by
      unfold syncF
      rw [find_new]
      rfl
    rw [compF, if_pos e, e2, e3]
    unfold renF
    rw [show namedB nwN = true by decide, named_lg, if_neg (by decide), find_new]
    dsimp only [List.eraseIdx]
    rw [find_one]
    rfl
  · have e : appE [] most nwN (compB p vs) = 0 := by
      unfold appE
      rw [show namedB nwN = true by decide, if_neg (by decide), if_neg (by simp [usedN]; simp only [List.length_nil] at hl; omega)]
    have e2 : appF [] most nwN (compB p vs) = [(nwN, compB p vs, 0)] := by
      unfold appF
      rw [show namedB nwN = true by decide, if_neg (by decide), if_neg (by simp [usedN]; simp only [List.length_nil] at hl; omega)]
      rfl
    have ef : ∀ k, findF [(nwN, compB p vs, k)] nwN = some 0 := fun k => by
      unfold findF
      simp [List.findIdx?_cons]
    have e3 : syncF [(nwN, compB p vs, 0)] nwN = [(nwN, compB p vs, (compB p vs).length)] := by
      unfold syncF
      rw [ef]
      rfl
    refine ⟨?_, ?_⟩
    · rw [compE, if_pos e, e2, e3]
      unfold renE
      rw [show namedB nwN = true by decide, named_lg, if_neg (by decide)]
      unfold noneE
      rw [ef]
    · rw [compF, if_pos e, e2, e3]
      unfold renF
      rw [show namedB nwN = true by decide, named_lg, if_neg (by decide), ef]
      rfl
theorem log_say {l : LL} {p : Nat} {vs : List VoteS} (h : LogOk l p vs) : sayB (frames l) = (p, vs, (frames l).length) := by
  have := sayB_frames h.small
  rw [show frames l = l.flatMap frameB from rfl, this]
  exact h.say
theorem log_vote {l : LL} {p : Nat} {vs : List VoteS} (h : LogOk l p vs) {v : VoteS} (hv : RightV v) : LogOk (l ++ [voteB v]) (takeS p vs (.vote v)).1 (takeS p vs (.vote v)).2 := by
  have hg := getV_voteB hv
  have := log_step h (rec := voteB v) (by have := voteB_len hv; omega) (by rw [hg]; rfl) (fun w hw => by rw [hg] at hw; cases hw; exact ⟨rfl, hv⟩)
  rwa [hg] at this
theorem log_promise {l : LL} {p : Nat} {vs : List VoteS} (h : LogOk l p vs) {b : Nat} (hb : 1 ≤ b ∧ b ≤ 2147483647) : LogOk (l ++ [promiseB b]) (takeS p vs (.promise b)).1 (takeS p vs (.promise b)).2 := by
  have hg := getV_promiseB hb
  have := log_step h (rec := promiseB b) (by rw [promiseB_len]; omega) (by rw [hg]; rfl) (fun w hw => by rw [hg] at hw; cases hw)
  rwa [hg] at this
theorem votes_few {l : LL} {p : Nat} {vs : List VoteS} (h : LogOk l p vs) : vs.length * 12 ≤ (frames l).length := by
  have h1 : ∀ vs : List VoteS, vs.length * 12 ≤ sizeV vs := fun vs => by
    induction vs with
    | nil => simp [sizeV]
    | cons v vs ih => simp only [sizeV, List.length_cons, List.map_cons, List.sum_cons] at ih ⊢; omega
  exact Nat.le_trans (h1 vs) h.size
theorem put_len (vs : List VoteS) (v : VoteS) : (putS vs v).length ≤ vs.length + 1 := by
  unfold putS
  split
  · simp
  · split
    · simp
    · omega
theorem take_len (p : Nat) (vs : List VoteS) (r : RecS) : (takeS p vs r).2.length ≤ vs.length + 1 := by
  cases r with
  | bad => simp [takeS]
  | promise b => simp [takeS]
  | vote v => exact put_len vs v
theorem sortS_len (vs : List VoteS) : (sortS vs).length = vs.length := by unfold sortS; rw [List.length_map, slotsS_len]
theorem scanF_torn : ∀ {l : LL} (t : Bs), (∀ x ∈ l, x.length ≤ 65535) → cutF t = none → scanF (frames l ++ t) = (l, t)
  | [], t, _, h => by
    show scanF ([] ++ t) = _
    rw [List.nil_append, scanF_cut, h]
  | x :: l, t, h, ht => by
    have e : frames (x :: l) ++ t = frameB x ++ (frames l ++ t) := by unfold frames; rw [List.flatMap_cons, List.append_assoc]
    rw [e, scanF_frame (h x (by simp)), scanF_torn t (fun y hy => h y (by simp [hy])) ht]
theorem log_torn {l : LL} {p : Nat} {vs : List VoteS} (h : LogOk l p vs) {t : Bs} (ht : cutF t = none) : sayB (frames l ++ t) = (p, vs, (frames l).length) := by
  unfold sayB
  rw [scanF_torn t h.small ht]
  exact h.say
/-- a frame that says it is longer than what is there -/
theorem cut_torn {t : Bs} (m : Nat) (ht : t.length ≤ 1000) : cutF (([0, 0, 255, 255] ++ t).take m) = none := by
  unfold cutF
  by_cases h : (([0, 0, 255, 255] ++ t).take m).length < 12
  · rw [if_pos h]
  · rw [if_neg h]
    have hl : (([0, 0, 255, 255] ++ t).take m).length ≤ t.length + 4 := by rw [List.length_take, List.length_append]; simp only [List.length_cons, List.length_nil]; omega
    have hn : numAt (([0, 0, 255, 255] ++ t).take m) = 65535 := by
      match m, h with
      | m + 4, h => simp [numAt]
      | 0, h => simp at h
      | 1, h => simp at h
      | 2, h => simp at h
      | 3, h => simp at h
    rw [hn, if_neg (by omega), if_pos (by omega)]
end Go.Proofs.Ytgpkbldlkadnjaa
end
section
/- Plain: frames and records as the reference reads them, by places. -/
set_option linter.unusedVariables false
set_option linter.unusedSimpArgs false
set_option maxHeartbeats 2000000
namespace Go.Proofs.Ytgpkbldlkadnjaa
open Go Go.Sl
theorem numB_at {b : Bs} (h : 4 ≤ b.length) : numB (numAt b) = b.take 4 := by
  obtain ⟨x0, x1, x2, x3, r, rfl⟩ : ∃ x0 x1 x2 x3 r, b = x0 :: x1 :: x2 :: x3 :: r := by
    match b, h with
    | x0 :: x1 :: x2 :: x3 :: r, _ => exact ⟨_, _, _, _, _, rfl⟩
  have h0 := x0.toNat_lt
  have h1 := x1.toNat_lt
  have h2 := x2.toNat_lt
  have h3 := x3.toNat_lt
  simp only [numAt, List.getD_cons_zero, List.getD_cons_succ, numB, List.take_succ_cons, List.take_zero, List.cons.injEq, and_true]
  refine ⟨?_, ?_, ?_, ?_⟩ <;> (apply UInt8.toNat_inj.1; rw [UInt8.toNat_ofNat']; omega)
theorem take_numB {b : Bs} {n : Nat} (h : 4 ≤ b.length) (hn : n < 4294967296) : b.take 4 = numB n ↔ numAt b = n := by
  rw [← numB_at h]
  constructor
  · intro e
    have := congrArg (fun x => numAt (x ++ [])) e
    simpa only [numAt_numB (numAt_lt b), numAt_numB hn] using this
  · rintro rfl; rfl
/-- the number at a place -/
def rAt (b : Bs) (k : Nat) : Int := if k + 4 ≤ b.length then (numAt (b.drop k) : Nat) else -1
theorem rAt_lt (b : Bs) (k : Nat) : -1 ≤ rAt b k ∧ rAt b k < 4294967296 := by
  have := numAt_lt (b.drop k)
  unfold rAt
  split <;> omega
theorem split12 {b : Bs} {x y : Bs} (hb : 12 ≤ b.length) (hx : x.length = 4) (hy : y.length = 4) : b.take 12 = b.take 4 ++ (x ++ y) ↔ (b.drop 4).take 4 = x ∧ (b.drop 8).take 4 = y := by
  have e : b.take 12 = b.take 4 ++ ((b.drop 4).take 4 ++ (b.drop 8).take 4) := by
    rw [show (12 : Nat) = 4 + (4 + 4) from rfl, List.take_add, List.take_add, List.drop_drop]
  rw [e]
  constructor
  · intro h
    have h1 := List.append_cancel_left h
    exact List.append_inj h1 (by rw [List.length_take, List.length_drop, hx]; omega)
  · rintro ⟨rfl, rfl⟩; rfl
/-- a frame at a place, as the reference reads it -/
theorem cutF_at (b : Bs) (k : Nat) (hk : k ≤ b.length) : cutF (b.drop k) =
    if rAt b k < 0 ∨ 65535 < rAt b k ∨ (b.length : Int) < k + 12 + rAt b k then none
    else if rAt b (k + 4) ≠ (csum ((b.drop k).take 4) : Nat) ∨ rAt b (k + 8) ≠ (csum ((b.drop (k + 12)).take (rAt b k).toNat) : Nat) then none
    else some ((b.drop (k + 12)).take (rAt b k).toNat, b.drop (k + 12 + (rAt b k).toNat)) := by
  unfold cutF
  rw [List.length_drop]
  by_cases h1 : b.length - k < 12
  · rw [if_pos h1, if_pos]
    unfold rAt
    split <;> omega
  · have e1 : rAt b k = (numAt (b.drop k) : Nat) := by rw [rAt, if_pos (by omega)]
    have e2 : rAt b (k + 4) = (numAt (b.drop (k + 4)) : Nat) := by rw [rAt, if_pos (by omega)]
    have e3 : rAt b (k + 8) = (numAt (b.drop (k + 8)) : Nat) := by rw [rAt, if_pos (by omega)]
    rw [if_neg h1, e1, e2, e3, Int.toNat_natCast]
    by_cases h2 : 65535 < numAt (b.drop k)
    · rw [if_pos h2, if_pos (by omega)]
    · rw [if_neg h2]
      by_cases h3 : b.length - k - 12 < numAt (b.drop k)
      · rw [if_pos h3, if_pos (by omega)]
      · have hg : ¬ (((numAt (b.drop k) : Nat) : Int) < 0 ∨ 65535 < ((numAt (b.drop k) : Nat) : Int) ∨ (b.length : Int) < k + 12 + (numAt (b.drop k) : Nat)) := by omega
        rw [if_neg h3, if_neg hg]
        have e4 := split12 (b := b.drop k) (x := numB (csum ((b.drop k).take 4))) (y := numB (csum (((b.drop k).drop 12).take (numAt (b.drop k))))) (by rw [List.length_drop]; omega) (numB_length _) (numB_length _)
        rw [List.drop_drop, List.drop_drop, List.drop_drop, take_numB (by rw [List.length_drop]; omega) (csum_lt _), take_numB (by rw [List.length_drop]; omega) (csum_lt _)] at e4
        rw [List.drop_drop, List.drop_drop]
        by_cases h4 : numAt (b.drop (k + 4)) = csum ((b.drop k).take 4) ∧ numAt (b.drop (k + 8)) = csum ((b.drop (k + 12)).take (numAt (b.drop k)))
        · rw [if_pos (e4.2 h4), if_neg (by omega)]
        · rw [if_neg (fun h => h4 (e4.1 h)), if_pos]
          by_cases h5 : numAt (b.drop (k + 4)) = csum ((b.drop k).take 4)
          · exact .inr (by omega)
          · exact .inl (by omega)
/-- the text at a place, and how many bytes it has -/
def rText (b : Bs) (k : Nat) : Bs × Int := if rAt b k < 0 ∨ (b.length : Int) < k + 4 + rAt b k then ([], 0) else ((b.drop (k + 4)).take (rAt b k).toNat, 4 + rAt b k)
def rVote (b : Bs) : VoteS := ⟨rAt b 4, rAt b 8, rAt b 12, decide (rAt b 16 = 1), (rText b 20).1⟩
def rGet (b : Bs) : RecS :=
  if rAt b 0 = 1 then if (b.length = 8 ∧ 1 ≤ rAt b 4) ∧ rAt b 4 ≤ 2147483647 then .promise (rAt b 4).toNat else .bad
  else if (((rAt b 0 = 2 ∧ 0 < (rText b 20).2) ∧ (b.length : Int) = 20 + (rText b 20).2) ∧ rAt b 16 ≤ 1) ∧ RightV (rVote b) then .vote (rVote b) else .bad
theorem rAt_kind (b : Bs) (k : Nat) {n : Nat} (hn : 0 < n) : rAt b k = (n : Int) ↔ kindN (b.drop k) = n := by
  unfold rAt kindN
  rw [List.length_drop]
  split <;> split <;> omega
theorem rAt_of {b : Bs} {k : Nat} (h : k + 4 ≤ b.length) : rAt b k = (kindN (b.drop k) : Nat) := by
  unfold rAt kindN
  rw [List.length_drop, if_pos h, if_neg (by omega)]
theorem numB_kind {b : Bs} (h : 4 ≤ b.length) : b = numB (kindN b) ++ b.drop 4 := by
  rw [kindN, if_neg (by omega), numB_at h, List.take_append_drop]
theorem rVote_cut {b : Bs} (h : 24 ≤ b.length) (h2 : rAt b 20 + 24 ≤ b.length) : rVote b = cutV (b.drop 4) := by
  have h3 := rAt_of (b := b) (k := 20) (by omega)
  have hk : kindN (b.drop 20) = numAt (b.drop 20) := by rw [kindN, List.length_drop, if_neg (by omega)]
  unfold rVote cutV nAt
  rw [rAt_of (by omega), rAt_of (by omega), rAt_of (by omega), List.drop_drop, List.drop_drop, List.drop_drop, List.drop_drop, List.drop_drop]
  rw [show decide (rAt b 16 = 1) = decide (kindN (b.drop 16) = 1) from decide_eq_decide.2 (by rw [rAt_of (by omega)]; omega)]
  have e : (rText b 20).1 = textOf (b.drop 20) := by
    unfold rText textOf cutText
    rw [if_neg (by omega), if_neg (by rw [List.length_drop]; omega), if_neg (by rw [List.length_drop]; omega)]
    rw [List.drop_drop, h3, Int.toNat_natCast, hk]
  rw [e]
theorem rGet_get (b : Bs) : rGet b = getV b := by
  unfold rGet getV
  have k1 : rAt b 0 = 1 ↔ kindN b = 1 := rAt_kind b 0 (n := 1) (by omega)
  have k2 : rAt b 0 = 2 ↔ kindN b = 2 := rAt_kind b 0 (n := 2) (by omega)
  by_cases h1 : kindN b = 1
  · rw [if_pos (k1.2 h1), if_pos h1]
    have hb : 4 ≤ b.length := by
      unfold kindN at h1
      split at h1 <;> omega
    by_cases h2 : (b.length = 8 ∧ 1 ≤ rAt b 4) ∧ rAt b 4 ≤ 2147483647
    · have e := rAt_of (b := b) (k := 4) (by omega)
      have e8 : b = promiseB (kindN (b.drop 4)) := by
        have a1 := numB_kind hb
        have a2 := numB_kind (b := b.drop 4) (by rw [List.length_drop]; omega)
        rw [List.drop_drop, List.drop_of_length_le (show b.length ≤ 4 + 4 by omega), List.append_nil] at a2
        unfold promiseB
        rw [h1] at a1
        rw [← a2]
        exact a1
      rw [if_pos h2, if_pos ⟨by omega, e8.symm⟩, e, Int.toNat_natCast]
    · rw [if_neg h2, if_neg]
      rintro ⟨h3, h4⟩
      have hl : b.length = 8 := by rw [← h4]; rfl
      have e := rAt_of (b := b) (k := 4) (by omega)
      exact h2 (by omega)
  · rw [if_neg (fun h => h1 (k1.1 h)), if_neg h1]
    by_cases h2 : kindN b = 2
    · rw [if_pos h2]
      by_cases h3 : (((rAt b 0 = 2 ∧ 0 < (rText b 20).2) ∧ (b.length : Int) = 20 + (rText b 20).2) ∧ rAt b 16 ≤ 1) ∧ RightV (rVote b)
      · obtain ⟨⟨⟨⟨_, h4⟩, h5⟩, h6⟩, h7⟩ := h3
        have ht : ¬ (rAt b 20 < 0 ∨ (b.length : Int) < 20 + 4 + rAt b 20) := fun h => by
          unfold rText at h4
          rw [if_pos (by omega)] at h4
          exact absurd h4 (by decide)
        have hn : (rText b 20).2 = 4 + rAt b 20 := by unfold rText; rw [if_neg (by omega)]
        have hlen : (b.length : Int) = 24 + rAt b 20 := by omega
        have hv := rVote_cut (b := b) (by omega) (by omega)
        have e20 := rAt_of (b := b) (k := 20) (by omega)
        have e16 := rAt_of (b := b) (k := 16) (by omega)
        have hb : voteB (cutV (b.drop 4)) = b := by
          have a0 := numB_kind (b := b) (by omega)
          have a1 := numB_kind (b := b.drop 4) (by rw [List.length_drop]; omega)
          have a2 := numB_kind (b := b.drop 8) (by rw [List.length_drop]; omega)
          have a3 := numB_kind (b := b.drop 12) (by rw [List.length_drop]; omega)
          have a4 := numB_kind (b := b.drop 16) (by rw [List.length_drop]; omega)
          have a5 := numB_kind (b := b.drop 20) (by rw [List.length_drop]; omega)
          rw [List.drop_drop] at a1 a2 a3 a4 a5
          have hk : kindN (b.drop 20) = numAt (b.drop 20) := by rw [kindN, List.length_drop, if_neg (by omega)]
          have ht : textB (textOf (b.drop 20)) = b.drop 20 := by
            have e : textOf (b.drop 20) = b.drop 24 := by
              unfold textOf cutText
              rw [if_neg (by rw [List.length_drop]; omega), if_neg (by rw [List.length_drop]; omega)]
              dsimp only
              rw [List.drop_drop, List.take_of_length_le (by rw [List.length_drop]; omega)]
            unfold textB
            rw [e, List.length_drop, show b.length - 24 = kindN (b.drop 20) by omega]
            exact a5.symm
          have hf : (if decide (kindN (b.drop 16) = 1) = true then 1 else 0) = kindN (b.drop 16) := by
            by_cases hx : kindN (b.drop 16) = 1
            · rw [hx]; rfl
            · rw [decide_eq_false hx, if_neg (by decide)]; omega
          unfold voteB cutV nAt
          dsimp only
          rw [List.drop_drop, List.drop_drop, List.drop_drop, List.drop_drop, List.drop_drop, Int.toNat_natCast, Int.toNat_natCast, Int.toNat_natCast, hf, ht, ← a4, ← a3, ← a2]
          rw [h2] at a0
          rw [← a1]
          exact a0.symm
        rw [if_pos ⟨⟨⟨⟨k2.2 h2, h4⟩, h5⟩, h6⟩, h7⟩, hv, if_pos ⟨by rw [← hv]; exact h7, hb⟩]
      · rw [if_neg h3, if_neg]
        rintro ⟨h4, h5⟩
        generalize hw : cutV (b.drop 4) = w at h4 h5
        have h6 := h4.2.2.2.2.2
        have hl : b.length = 24 + w.bytes.length := by
          rw [← h5]
          simp only [voteB, textB, List.length_append, numB_length]; omega
        have d20 : b.drop 20 = numB w.bytes.length ++ w.bytes := by
          rw [← h5]
          unfold voteB
          rw [show 20 = 8 + (8 + 4) from rfl, ← List.drop_drop, ← List.drop_drop, drop8_numB, drop8_numB, drop4_numB]
          rfl
        have d16 : b.drop 16 = numB (if w.full then 1 else 0) ++ textB w.bytes := by
          rw [← h5]
          unfold voteB
          rw [show 16 = 8 + 8 from rfl, ← List.drop_drop, drop8_numB, drop8_numB]
        have e20 : rAt b 20 = (w.bytes.length : Nat) := by
          rw [rAt, if_pos (by omega), d20, numAt_numB (by omega)]
        have e16 : rAt b 16 = ((if w.full then 1 else 0 : Nat) : Int) := by
          rw [rAt, if_pos (by omega), d16, numAt_numB (by split <;> omega)]
        have ht : (rText b 20).2 = 4 + rAt b 20 := by unfold rText; rw [if_neg (by omega)]
        have hv := rVote_cut (b := b) (by omega) (by omega)
        rw [hw] at hv
        refine h3 ⟨⟨⟨⟨k2.2 h2, by omega⟩, by omega⟩, ?_⟩, by rw [hv]; exact h4⟩
        rw [e16]; split <;> omega
    · rw [if_neg h2, if_neg (fun h => h2 (k2.1 h.1.1.1.1))]
end Go.Proofs.Ytgpkbldlkadnjaa
end
section
/- Contracts over data: the reference of layers 1, 6 and 17: numbers, texts, frames and records at places. -/
set_option linter.unusedVariables false
set_option linter.unusedSimpArgs false
set_option maxHeartbeats 3000000
attribute [local irreducible] Go.Sl.Chk Go.Sl.Br Go.Sl.Or2 Go.Sl.Ld Go.Sl.Ldn Go.Sl.LdB Go.Sl.Stn Go.Sl.New Go.Sl.Run Go.Sl.RunU Go.Sl.RunX Go.Sl.Call Go.Sl.LoopK Go.Sl.RawK Go.Sl.Alt Go.Sl.Om Go.Sl.xpk Go.Sl.xgpk Go.Sl.xglk Go.Sl.DLd Go.Sl.DLdG Go.Sl.DBs Go.Sl.DCall Go.Sl.DApp Go.Sl.DGen Go.Sl.DGenU Go.Sl.DGC Go.Sl.DLoop Go.Sl.DRaw Go.Sl.DRet Go.Sl.Ent Go.Sl.dget Go.Sl.dv Go.Sl.ev Go.Sl.eget
namespace Go.Proofs.Ytgpkbldlkadnjaa
open Go Go.Sl Go.RowKit
theorem getD_drop (b : Bs) (k j : Nat) : (b.drop k).getD j 0 = gt b (k + j) := by
  rw [gt, List.getD_eq_getElem?_getD, List.getD_eq_getElem?_getD, List.getElem?_drop]
  rfl
set_option maxRecDepth 100000 in
theorem at_d (b : Bs) (k : Nat) (hl : b.length ≤ 1000000000) (hk : k ≤ 1000000000) : DFun Try.prog f_ref01_At [bytesD b, iD k] (iD (rAt b k)) := by
  intro nx
  refine xcalls c_ref01_At (by simp only [m_ref01_At, List.length]; decide) ?_
  rcases Nat.lt_or_ge b.length (k + 4) with h | h
  · simp only [m_ref01_At]; refine WK ?_; try with_reducible exact trivial
    exact dret0 ⟨by rw [rAt, if_neg (by omega)], rfl⟩
  · have h0 := (gt b k).toNat_lt
    have h1 := (gt b ((k : Int) + 1).toNat).toNat_lt
    have h2 := (gt b ((k : Int) + 2).toNat).toNat_lt
    have h3 := (gt b ((k : Int) + 3).toNat).toNat_lt
    simp only [m_ref01_At]; refine WK ?_; try with_reducible exact trivial
    simp -dsimp (disch := omega) only [↓MC.xwp, ↓xopsWp, ↓xdr, ↓MOp.xwp, dvs, dv, dvu, dvo, dvp, dgb, dGd, dBool, cond_true, cond_false, asFn, dget, dput, dput?, dead?, dres, ptr, bsc, cv, uo, uof, unopt, xpr, xdevr, xev0, cutK, cutN, xldk, xldn, xbsk, xst, xgp, glc, vExt, vFldA, vFld, vFad, vIxs, vIxa, vIxvA, vIxv, vSls, vLen, vPick, vNilc, vIsnil, dev0, devr, dsl, dif, dcells, dover, dbuild, scs, rowOf, strideOf, dtk, dtake, done1, pev, pbin, pint, pbool, pstr, psl, vnil, ↓thenD, ↓blockD, ↓retX, ↓xres, xcell, tupD, argD, dkeep, ckLive, kp, xdone, xheld, dstD, isLdM, ldOp, ldIds, ldSlots, selfOk, nb, dst1, inDone, allDone, apart, slotsApart, heldAll, heldOk, Op.operands, Nat.reduceAdd, forall_eq_or_imp, D.plain, reduceCtorEq, if_true, if_false, ↓reduceIte, ne_eq, Bool.cond_true, Bool.cond_false, forall_const, implies_true, forall_eq, Int.reduceEq, Int.reduceLT, Int.reduceLE, Int.reduceAdd, Int.reduceSub, Int.reduceMul, Int.reduceToNat, Nat.reduceMul, Nat.reduceLeDiff, Nat.reduceLT, Nat.reduceSub, Nat.reduceBEq, Nat.reduceEqDiff, matD, bytesD, iD, intsD, boolD, strD, bD, DB, U8]
    refine dret0 ⟨?_, rfl⟩
    rw [show ((k : Int) + 1).toNat = k + 1 by omega, show ((k : Int) + 2).toNat = k + 2 by omega, show ((k : Int) + 3).toNat = k + 3 by omega]
    rw [rAt, if_pos h, numAt, getD_drop, getD_drop, getD_drop, getD_drop, Nat.add_zero]
    congr 2
set_option maxRecDepth 100000 in
theorem textat_d (b : Bs) (k : Nat) (hl : b.length ≤ 1000000) (hk : k ≤ 1000000) : DFun Try.prog f_ref01_TextAt [bytesD b, iD k] (.tup [strD (rText b k).1, iD (rText b k).2]) := by
  intro nx
  refine xcalls c_ref01_TextAt (by simp only [m_ref01_TextAt, List.length]; decide) ?_
  simp only [m_ref01_TextAt]; refine WK ?_; try with_reducible exact trivial
  refine dfun (at_d b k (by omega) (by omega)) fun n1 h1 => ?_
  have hr := rAt_lt b k
  rcases (by omega : rAt b k < 0 ∨ 0 ≤ rAt b k) with g | g
  · refine WK ?_; try with_reducible exact trivial
    exact dret0 ⟨by rw [rText, if_pos (.inl g)]; rfl, rfl⟩
  · obtain ⟨m, hm⟩ := Int.eq_ofNat_of_zero_le g
    rw [hm] at hr ⊢
    rcases Nat.lt_or_ge b.length (k + 4 + m) with g2 | g2
    · refine WK ?_; try with_reducible exact trivial
      exact dret0 ⟨by rw [rText, if_pos (.inr (by omega))]; rfl, rfl⟩
    · have hX : ((b.drop (k + 4)).take m).length = m := by rw [List.length_take, List.length_drop]; omega
      refine WK ?_; try with_reducible exact trivial
      rw [show ((k : Int) + 4 + m).toNat - ((k : Int) + 4).toNat = m by omega, show ((k : Int) + 4).toNat = k + 4 by omega, ← List.map_drop, ← List.map_take]
      refine dbs hX ?_
      refine WK ?_; try with_reducible exact trivial
      refine dret0 ⟨?_, rfl⟩
      rw [rText, if_neg (by omega), hm, Int.toNat_natCast]
set_option maxRecDepth 100000 in
theorem rscan_d (b : Bs) (hl : b.length ≤ 1000000) : DFun Try.prog f_ref06_Scan [bytesD b] (.tup [matD (scanF b).1, iD ((b.length : Int) - ((scanF b).2.length : Int))]) := by
  intro nx
  refine xcalls c_ref06_Scan (by simp only [m_ref06_Scan, List.length]; decide) ?_
  simp only [m_ref06_Scan]; refine WK ?_; try with_reducible exact trivial
  refine dloop [0, 4, 5] (fun s : Nat × LL × Nat × Nat => ([(0, bytesD b), (4, .h s.2.2.1), (5, iD (s.1 : Nat))], [(s.2.2.1, .row tBytes 1 s.2.1.length (s.2.1.map bytesD))], s.2.2.2)) (fun s => s.1 ≤ b.length ∧ s.2.1.length ≤ s.1 ∧ s.2.1 ++ (scanF (b.drop s.1)).1 = (scanF b).1 ∧ (scanF (b.drop s.1)).2 = (scanF b).2 ∧ s.2.2.1 < s.2.2.2) (fun s => b.length - s.1) (0, [], nx, nx + 1) ⟨Nat.zero_le _, by simp, rfl, rfl, by dsimp only; omega⟩ ((Ent.nil 4 tBytes 1 (by with_unfolding_all rfl) rfl).trans (Ent.of (by with_unfolding_all rfl) rfl)) ?_
  rintro ⟨k, L, q, n⟩ ⟨q1, q2, q3, q4, q5⟩
  dsimp only at q1 q2 q3 q4 q5 ⊢
  rw [scanF_cut (b.drop k)] at q3 q4
  have hc := cutF_at b k q1
  have hr := rAt_lt b k
  have hend : cutF (b.drop k) = none → ∀ n, DRet (D.tup [D.h q, iD k]) [(q, .row tBytes 1 L.length (L.map bytesD))] n (fun d r _ => d = .tup [matD (scanF b).1, iD ((b.length : Int) - ((scanF b).2.length : Int))] ∧ r = []) (.mk _) := fun hn n => by
    rw [hn] at q3 q4
    dsimp only at q3 q4
    refine dret_frz q (rget_here _ _ _) (fun x hx => by obtain ⟨y, _, rfl⟩ := List.mem_map.1 hx; simp [D.plain]) ?_
    rw [rset_here]
    simp only [dresT, List.map_cons, List.map_nil, dres, rget_here]
    refine dret0 ⟨?_, rfl⟩
    rw [← q3, ← q4, List.append_nil, List.length_drop]
    congr 4
    omega
  have hlen : ∀ j, (b.drop j).length = b.length - j := fun j => List.length_drop
  refine WK ?_; try with_reducible exact trivial
  refine dfun (at_d b k (by omega) (by omega)) fun n1 h1 => ?_
  by_cases g : rAt b k < 0 ∨ 65535 < rAt b k ∨ (b.length : Int) < k + 12 + rAt b k
  · rw [if_pos g] at hc
    have hfin := hend hc
    generalize rAt b k = m at *
    rcases (by omega : m < 0 ∨ (0 ≤ m ∧ 65535 < m) ∨ (0 ≤ m ∧ m ≤ 65535 ∧ (b.length : Int) < k + 12 + m)) with e | e | e
    · refine WK ?_; try with_reducible exact trivial
      exact hfin _
    · refine WK ?_; try with_reducible exact trivial
      exact hfin _
    · refine WK ?_; try with_reducible exact trivial
      exact hfin _
  · rw [if_neg g] at hc
    obtain ⟨m, hm⟩ := Int.eq_ofNat_of_zero_le (show 0 ≤ rAt b k by omega)
    rw [hm] at hc g hr ⊢
    rw [Int.toNat_natCast] at hc
    refine WK ?_; try with_reducible exact trivial
    refine dfun (at_d b (k + 4) (by omega) (by omega)) fun n2 h2 => ?_
    refine WK ?_; try with_reducible exact trivial
    rw [show ((k : Int) + 4).toNat - k = 4 by omega, ← List.map_drop, sl_take (b.drop k) 4 (by rw [hlen]; omega)]
    refine dfun (rsum_d ((b.drop k).take 4) (by rw [List.length_take]; omega)) fun n3 h3 => ?_
    have hs1 := csum_lt ((b.drop k).take 4)
    have hs2 := csum_lt ((b.drop (k + 12)).take m)
    have hr4 := rAt_lt b (k + 4)
    have hr8 := rAt_lt b (k + 8)
    by_cases g4 : rAt b (k + 4) = (csum ((b.drop k).take 4) : Nat)
    · rw [g4]
      refine WK ?_; try with_reducible exact trivial
      refine dfun (at_d b (k + 8) (by omega) (by omega)) fun n4 h4 => ?_
      refine WK ?_; try with_reducible exact trivial
      rw [show ((k : Int) + 12 + m).toNat - ((k : Int) + 12).toNat = m by omega, show ((k : Int) + 12).toNat = k + 12 by omega, ← List.map_drop, sl_take (b.drop (k + 12)) m (by rw [hlen]; omega)]
      refine dfun (rsum_d ((b.drop (k + 12)).take m) (by rw [List.length_take]; omega)) fun n5 h5 => ?_
      by_cases g8 : rAt b (k + 8) = (csum ((b.drop (k + 12)).take m) : Nat)
      · rw [if_neg (by omega)] at hc
        rw [hc] at q3 q4
        dsimp only at q3 q4
        rw [g8]
        refine WK ?_; try with_reducible exact trivial
        refine dapp_fz (tg' := .mk _) (K0 := fun d r' nx' => d = .h (n5 + 1) ∧ r' = [(n5 + 1, bytesO ((b.drop (k + 12)).take m)), (q, .row tBytes 1 L.length (L.map bytesD))] ∧ nx' = n5 + 2) (tg0 := .mk _) (dapp (i := n5) (m := ((b.drop (k + 12)).take m).length) (l' := ((b.drop (k + 12)).take m).map bD) elB (l := []) (n := 0) (rget_here _ _ _) (DSrc.sl _ _ _) (by simp) bDs_done (by rw [List.length_take]; omega) (by rw [List.length_take]; omega) List.not_mem_nil ?_) ?_
        · refine ⟨rfl, ?_, rfl⟩
          rw [rdel_here, Nat.zero_add, List.nil_append]
        rintro d r' nx' ⟨rfl, rfl, rfl⟩
        refine ⟨n5 + 1, _, _, _, _, _, rfl, rfl, bDs_plain, ?_⟩
        refine WK ?_; try with_reducible exact trivial
        refine dapp_brow L ((b.drop (k + 12)).take m) (n5 + 2) (by omega) (by (repeat rw [rget_there (by omega)]); exact rget_here _ _ _) (by (repeat rw [rget_there (by omega)]); exact rget_here _ _ _) (by omega) (by simp only [List.mem_cons, List.not_mem_nil, or_false, not_false_eq_true]; try omega) ?_
        refine WK ?_; try with_reducible exact trivial
        refine ⟨(k + 12 + m, L ++ [(b.drop (k + 12)).take m], n5 + 3, n5 + 4), ⟨by dsimp only; omega, by dsimp only; rw [List.length_append, List.length_singleton]; omega, by dsimp only; rw [List.append_assoc]; exact q3, q4, by dsimp only; omega⟩, by dsimp only; omega, (Ent.only [n5 + 3] _ _ _).trans (by simp -dsimp (disch := omega) only [rpick, rget_here, rget_there, rdel_here, rdel_there]; exact (Ent.of (by with_unfolding_all rfl) rfl))⟩
      · rw [if_pos (.inr g8)] at hc
        have hfin := hend hc
        generalize csum ((b.drop (k + 12)).take m) = c1 at *
        generalize rAt b (k + 8) = a4 at *
        refine WK ?_; try with_reducible exact trivial
        exact hfin _
    · rw [if_pos (.inl g4)] at hc
      have hfin := hend hc
      generalize csum ((b.drop k).take 4) = c1 at *
      generalize rAt b (k + 4) = a4 at *
      refine WK ?_; try with_reducible exact trivial
      repeat ((first | refine dgc_d' (boolD true) ?_ | refine dldg_f ?_); refine WK ?_; try with_reducible exact trivial)
      exact hfin _
end Go.Proofs.Ytgpkbldlkadnjaa
end
section
/- Contracts over data: the reference of layers 17 and 18: a record, votes by slots, a log's bytes. -/
set_option linter.unusedVariables false
set_option linter.unusedSimpArgs false
set_option maxHeartbeats 3000000
attribute [local irreducible] Go.Sl.Chk Go.Sl.Br Go.Sl.Or2 Go.Sl.Ld Go.Sl.Ldn Go.Sl.LdB Go.Sl.Stn Go.Sl.New Go.Sl.Run Go.Sl.RunU Go.Sl.RunX Go.Sl.Call Go.Sl.LoopK Go.Sl.RawK Go.Sl.Alt Go.Sl.Om Go.Sl.xpk Go.Sl.xgpk Go.Sl.xglk Go.Sl.DLd Go.Sl.DLdG Go.Sl.DBs Go.Sl.DCall Go.Sl.DApp Go.Sl.DGen Go.Sl.DGenU Go.Sl.DGC Go.Sl.DLoop Go.Sl.DRaw Go.Sl.DRet Go.Sl.Ent Go.Sl.dget Go.Sl.dv Go.Sl.ev Go.Sl.eget
namespace Go.Proofs.Ytgpkbldlkadnjaa
open Go Go.Sl Go.RowKit
def rgetD : RecS → D
  | .bad => .tup [iD 0, .agg (voteC zeroV), boolD false]
  | .promise b => .tup [iD b, .agg (voteC zeroV), boolD true]
  | .vote v => .tup [iD 0, .agg (voteC v), boolD true]
set_option maxRecDepth 100000 in
theorem rget_d (rec : Bs) (hl : rec.length ≤ 1000000) : DFun Try.prog f_ref17_Get [bytesD rec] (rgetD (getV rec)) := by
  intro nx
  refine xcalls c_ref17_Get (by simp only [m_ref17_Get, List.length]; decide) ?_
  rw [← rGet_get]
  simp only [m_ref17_Get]; refine WK ?_; try with_reducible exact trivial
  refine dfun (at_d rec 0 (by omega) (by omega)) fun n1 h1 => ?_
  have a0 := rAt_lt rec 0
  have a4 := rAt_lt rec 4
  have a8 := rAt_lt rec 8
  have a12 := rAt_lt rec 12
  have a16 := rAt_lt rec 16
  unfold rGet
  by_cases h0 : rAt rec 0 = 1
  · rw [if_pos h0, h0]
    refine WK ?_; try with_reducible exact trivial
    refine dfun (at_d rec 4 (by omega) (by omega)) fun n2 h2 => ?_
    by_cases hc : (rec.length = 8 ∧ 1 ≤ rAt rec 4) ∧ rAt rec 4 ≤ 2147483647
    · rw [if_pos hc]
      obtain ⟨⟨c1, c2⟩, c3⟩ := hc
      simp only [rgetD, Int.toNat_of_nonneg (show 0 ≤ rAt rec 4 by omega)]
      refine WK ?_; try with_reducible exact trivial
      exact dret0 ⟨rfl, rfl⟩
    · rw [if_neg hc]
      simp only [rgetD]
      generalize rAt rec 4 = a at *
      rcases (by omega : rec.length ≠ 8 ∨ (rec.length = 8 ∧ a < 1) ∨ (rec.length = 8 ∧ 1 ≤ a ∧ 2147483647 < a)) with e | e | e
      · refine WK ?_; try with_reducible exact trivial
        exact dret0 ⟨rfl, rfl⟩
      · refine WK ?_; try with_reducible exact trivial
        exact dret0 ⟨rfl, rfl⟩
      · refine WK ?_; try with_reducible exact trivial
        exact dret0 ⟨rfl, rfl⟩
  · rw [if_neg h0]
    refine WK ?_; try with_reducible exact trivial
    refine dfun (textat_d rec 20 (by omega) (by omega)) fun n2 h2 => ?_
    refine WK ?_; try with_reducible exact trivial
    refine dfun (at_d rec 16 (by omega) (by omega)) fun n3 h3 => ?_
    refine WK ?_; try with_reducible exact trivial
    refine dfun (at_d rec 4 (by omega) (by omega)) fun n4 h4 => ?_
    refine WK ?_; try with_reducible exact trivial
    refine dfun (at_d rec 8 (by omega) (by omega)) fun n5 h5 => ?_
    refine WK ?_; try with_reducible exact trivial
    refine dfun (at_d rec 12 (by omega) (by omega)) fun n6 h6 => ?_
    refine WK ?_; try with_reducible exact trivial
    refine dfun (at_d rec 0 (by omega) (by omega)) fun n7 h7 => ?_
    have ht : 0 ≤ (rText rec 20).2 ∧ (rText rec 20).2 ≤ 5000000000 := by
      have := rAt_lt rec 20
      unfold rText
      split <;> dsimp only <;> omega
    by_cases hc : (((rAt rec 0 = 2 ∧ 0 < (rText rec 20).2) ∧ (rec.length : Int) = 20 + (rText rec 20).2) ∧ rAt rec 16 ≤ 1)
    · obtain ⟨⟨⟨c1, c2⟩, c3⟩, c4⟩ := hc
      have hv : D.agg [iD (rAt rec 4), iD (rAt rec 8), iD (rAt rec 12), boolD (decide (rAt rec 16 = 1)), strD (rText rec 20).1] = .agg (voteC (rVote rec)) := rfl
      by_cases hR : RightV (rVote rec)
      · rw [if_pos ⟨⟨⟨⟨c1, c2⟩, c3⟩, c4⟩, hR⟩, c1]
        simp only [rgetD]
        refine WK ?_; try with_reducible exact trivial
        refine dfun (show DFun Try.prog f_ref17_Right [.agg (voteC (rVote rec))] (boolD true) by have := vright_d (rVote rec); rwa [decide_eq_true hR] at this) fun n8 h8 => ?_
        refine WK ?_; try with_reducible exact trivial
        exact dret0 ⟨rfl, rfl⟩
      · rw [if_neg (fun h => hR h.2), c1]
        simp only [rgetD]
        refine WK ?_; try with_reducible exact trivial
        refine dfun (show DFun Try.prog f_ref17_Right [.agg (voteC (rVote rec))] (boolD false) by have := vright_d (rVote rec); rwa [decide_eq_false hR] at this) fun n8 h8 => ?_
        refine WK ?_; try with_reducible exact trivial
        exact dret0 ⟨rfl, rfl⟩
    · rw [if_neg (fun h => hc h.1)]
      simp only [rgetD]
      generalize (rText rec 20).2 = t at *
      generalize (rText rec 20).1 = tt at *
      generalize rAt rec 0 = k0 at *
      generalize rAt rec 16 = k16 at *
      rcases (by omega : k0 ≠ 2 ∨ (k0 = 2 ∧ t ≤ 0) ∨ (k0 = 2 ∧ 0 < t ∧ (rec.length : Int) ≠ 20 + t) ∨ (k0 = 2 ∧ 0 < t ∧ (rec.length : Int) = 20 + t ∧ 1 < k16)) with e | e | e | e
      · refine WK ?_; try with_reducible exact trivial
        repeat ((first | refine dgc_d' (boolD true) ?_ | refine dldg_f ?_); refine WK ?_; try with_reducible exact trivial)
        exact dret0 ⟨rfl, rfl⟩
      · refine WK ?_; try with_reducible exact trivial
        repeat ((first | refine dgc_d' (boolD true) ?_ | refine dldg_f ?_); refine WK ?_; try with_reducible exact trivial)
        exact dret0 ⟨rfl, rfl⟩
      · refine WK ?_; try with_reducible exact trivial
        repeat ((first | refine dgc_d' (boolD true) ?_ | refine dldg_f ?_); refine WK ?_; try with_reducible exact trivial)
        exact dret0 ⟨rfl, rfl⟩
      · refine WK ?_; try with_reducible exact trivial
        repeat ((first | refine dgc_d' (boolD true) ?_ | refine dldg_f ?_); refine WK ?_; try with_reducible exact trivial)
        exact dret0 ⟨rfl, rfl⟩
theorem votesC_take (l : List VoteS) (k : Nat) : (votesC l).take (k * 5) = votesC (l.take k) := by
  induction l generalizing k with
  | nil => simp [votesC]
  | cons x l ih =>
    cases k with
    | zero => simp [votesC]
    | succ k =>
      have : votesC (x :: l) = voteC x ++ votesC l := rfl
      rw [this, Nat.succ_mul, Nat.add_comm, List.take_append, List.take_of_length_le (by rw [voteC_len]; omega), voteC_len, show 5 + k * 5 - 5 = k * 5 by omega, ih]
      rfl
theorem votesC_drop (l : List VoteS) (k : Nat) : (votesC l).drop (k * 5) = votesC (l.drop k) := by
  induction l generalizing k with
  | nil => simp [votesC]
  | cons x l ih =>
    cases k with
    | zero => simp
    | succ k =>
      have : votesC (x :: l) = voteC x ++ votesC l := rfl
      rw [this, Nat.succ_mul, Nat.add_comm, List.drop_append, List.drop_of_length_le (by rw [voteC_len]; omega), voteC_len, show 5 + k * 5 - 5 = k * 5 by omega, ih]
      rfl
theorem votesC_append (a b : List VoteS) : votesC (a ++ b) = votesC a ++ votesC b := List.flatMap_append
theorem votesC_length (l : List VoteS) : (votesC l).length = l.length * 5 := flat_len' voteC_len l
theorem dapp_votes {i nx : Nat} {held : List Nat} {r : Roots} {K : D → Roots → Nat → Prop} {tg : TagF K} (a b : List VoteS) (hg : rget r i = some (.row t_api_Vote 5 a.length (votesC a))) (hl : a.length + b.length ≤ 2000000) (hh : i ∉ held)
    (k : K (.h nx) ((nx, .row t_api_Vote 5 (a ++ b).length (votesC (a ++ b))) :: rdel r i) (nx + 1)) : DApp Try.prog #[tVotes, tVotes] tVotes (.h i) (votesD b) held r nx K tg :=
  dapp (i := i) (m := b.length) (l' := votesC b) elV (l := votesC a) (n := a.length) hg (DSrc.sl _ _ _) (votesC_length b) (votesC_done b) (by omega) (by omega) hh (by rw [← List.length_append, ← votesC_append]; exact k)
theorem votes_get (l : List VoteS) {j k : Nat} (hj : j < l.length) (hk : k < 5) : (votesC l)[j * 5 + k]? = (voteC (gt l j))[k]? := flatC_get voteC_len l hj hk
set_option maxRecDepth 100000 in
theorem put1_d (l : List VoteS) (v : VoteS) (hl : l.length ≤ 900000) : DFun Try.prog f_ref17_Put1 [votesD l, .agg (voteC v)] (votesD (put1 l v)) := by
  have hN : DNew Try.prog f_ref17_Put1 [votesD l, .agg (voteC v)] (fun i => .h i) (votesO (put1 l v)) := by
    intro nx
    refine xcalls c_ref17_Put1 (by simp only [m_ref17_Put1, List.length]; decide) ?_
    simp only [voteC]
    simp only [m_ref17_Put1]; refine WK ?_; try with_reducible exact trivial
    refine dloop [0, 3, 5] (fun s : Nat => ([(0, votesD l), (3, .hp nx 0), (5, iD (s : Nat))], [(nx, .box t_api_Vote (voteC v))], nx + 1)) (fun s => s ≤ l.length ∧ ∀ g ∈ l.take s, g.slot < v.slot) (fun s => l.length - s) 0 ⟨by omega, by simp⟩ (Ent.of (by with_unfolding_all rfl) rfl) ?_
    rintro k ⟨hk, hb⟩
    dsimp only at hk hb ⊢
    simp only [voteC]
    have hlk : (l.take k).length = k := by rw [List.length_take]; omega
    have hlf : (l.take k ++ [v]).length = k + 1 := by rw [List.length_append, hlk]; rfl
    have e1 : D.sl k ((votesC l).take (k * 5)) = votesD (l.take k) := by rw [votesC_take, votesD, hlk]
    have e2 : ∀ j, D.sl (l.length - j) (((votesC l).drop (j * 5)).take ((l.length - j) * 5)) = votesD (l.drop j) := fun j => by
      rw [votesC_drop, votesD, List.length_drop, List.take_of_length_le (by rw [votesC_length, List.length_drop]; exact Nat.le_refl _)]
    rcases Nat.lt_or_ge k l.length with hkl | hkl
    · have e0 := votes_get l (k := 0) hkl (by omega)
      simp only [voteC, List.getElem?_cons_zero, Nat.add_zero] at e0
      have hbk : ∀ x, l[k]? = some x → x = gt l k := fun x hx => by rw [List.getElem?_eq_getElem hkl] at hx; rw [gt_eq hkl]; exact (Option.some.inj hx).symm
      rcases (by omega : (gt l k).slot < v.slot ∨ (¬ (gt l k).slot < v.slot ∧ (gt l k).slot = v.slot) ∨ (¬ (gt l k).slot < v.slot ∧ (gt l k).slot ≠ v.slot)) with hs | ⟨hs, hs2⟩ | ⟨hs, hs2⟩
      · refine WKX @e0 ?_; try with_reducible exact trivial
        refine ⟨k + 1, ⟨by omega, fun g hg => ?_⟩, by omega, Ent.of (by with_unfolding_all rfl) rfl⟩
        rw [take_gt hkl] at hg
        rcases List.mem_append.1 hg with h | h
        · exact hb g h
        · simp only [List.mem_singleton] at h; rw [h]; exact hs
      · have hp := put1_at l v k hk hb (fun x hx => by rw [hbk x hx]; exact hs)
        rw [if_pos ⟨gt l k, by rw [gt_eq hkl]; exact List.getElem?_eq_getElem hkl, hs2⟩] at hp
        refine WKX @e0 ?_; try with_reducible exact trivial
        rw [e1, e2 ((k : Int) + 1).toNat, show ((k : Int) + 1).toNat = k + 1 by omega]
        have hRl : (l.drop (k + 1)).length ≤ 1000000 := by rw [List.length_drop]; omega
        generalize l.drop (k + 1) = R at *
        have e3 : put1 l v = (l.take k ++ [v]) ++ R := by rw [hp]; simp
        refine alt2 ?_ ?_
        · refine WK ?_; try with_reducible exact trivial
          refine alt2 ?_ ?_
          · refine WK ?_; try with_reducible exact trivial
            refine dapp_votes [] (l.take k) (by (repeat rw [rget_there (by omega)]); exact rget_here _ _ _) (by rw [hlk, List.length_nil]; omega) (by simp only [List.mem_cons, List.not_mem_nil, or_false, not_false_eq_true]; try omega) ?_
            refine WK ?_; try with_reducible exact trivial
            refine dapp_vote (l.take k) v (nx + 3) (i := nx + 2) (by (repeat rw [rget_there (by omega)]); exact rget_here _ _ _) (by (repeat rw [rget_there (by omega)]); exact rget_here _ _ _) (by rw [hlk]; omega) (by simp only [List.mem_cons, List.not_mem_nil, or_false, not_false_eq_true]; try omega) ?_
            refine WK ?_; try with_reducible exact trivial
            refine dapp_votes (l.take k ++ [v]) R (by (repeat rw [rget_there (by omega)]); exact rget_here _ _ _) (by rw [hlf]; omega) (by simp only [List.mem_cons, List.not_mem_nil, or_false, not_false_eq_true]; try omega) ?_
            refine WK ?_; try with_reducible exact trivial
            rw [← e3]
            exact dret_only [nx + 5] (t := .mk _) (by simp only [rpick, rget_here]; exact dret ⟨nx + 5, by omega, by omega, rfl, rfl⟩)
          · refine WK ?_; try with_reducible exact trivial
            refine dapp_votes [] (l.take k) (by (repeat rw [rget_there (by omega)]); exact rget_here _ _ _) (by rw [hlk, List.length_nil]; omega) (by simp only [List.mem_cons, List.not_mem_nil, or_false, not_false_eq_true]; try omega) ?_
            refine WK ?_; try with_reducible exact trivial
            refine dapp_vote (l.take k) v (nx + 2) (i := nx + 3) (by (repeat rw [rget_there (by omega)]); exact rget_here _ _ _) (by (repeat rw [rget_there (by omega)]); exact rget_here _ _ _) (by rw [hlk]; omega) (by simp only [List.mem_cons, List.not_mem_nil, or_false, not_false_eq_true]; try omega) ?_
            refine WK ?_; try with_reducible exact trivial
            refine dapp_votes (l.take k ++ [v]) R (by (repeat rw [rget_there (by omega)]); exact rget_here _ _ _) (by rw [hlf]; omega) (by simp only [List.mem_cons, List.not_mem_nil, or_false, not_false_eq_true]; try omega) ?_
            refine WK ?_; try with_reducible exact trivial
            rw [← e3]
            exact dret_only [nx + 5] (t := .mk _) (by simp only [rpick, rget_here]; exact dret ⟨nx + 5, by omega, by omega, rfl, rfl⟩)
        · refine WK ?_; try with_reducible exact trivial
          refine dapp_votes [] (l.take k) (by (repeat rw [rget_there (by omega)]); exact rget_here _ _ _) (by rw [hlk, List.length_nil]; omega) (by simp only [List.mem_cons, List.not_mem_nil, or_false, not_false_eq_true]; try omega) ?_
          refine WK ?_; try with_reducible exact trivial
          refine dapp_vote (l.take k) v (nx + 1) (i := nx + 3) (by (repeat rw [rget_there (by omega)]); exact rget_here _ _ _) (by (repeat rw [rget_there (by omega)]); exact rget_here _ _ _) (by rw [hlk]; omega) (by simp only [List.mem_cons, List.not_mem_nil, or_false, not_false_eq_true]; try omega) ?_
          refine WK ?_; try with_reducible exact trivial
          refine dapp_votes (l.take k ++ [v]) R (by (repeat rw [rget_there (by omega)]); exact rget_here _ _ _) (by rw [hlf]; omega) (by simp only [List.mem_cons, List.not_mem_nil, or_false, not_false_eq_true]; try omega) ?_
          refine WK ?_; try with_reducible exact trivial
          rw [← e3]
          exact dret_only [nx + 5] (t := .mk _) (by simp only [rpick, rget_here]; exact dret ⟨nx + 5, by omega, by omega, rfl, rfl⟩)
      · have hp := put1_at l v k hk hb (fun x hx => by rw [hbk x hx]; exact hs)
        rw [if_neg (fun ⟨x, hx, hx2⟩ => hs2 (by rw [← hbk x hx]; exact hx2))] at hp
        refine WKX @e0 ?_; try with_reducible exact trivial
        rw [e1, e2]
        have hRl : (l.drop k).length ≤ 1000000 := by rw [List.length_drop]; omega
        generalize l.drop k = R at *
        have e3 : put1 l v = (l.take k ++ [v]) ++ R := by rw [hp]; simp
        refine alt2 ?_ ?_
        · refine WK ?_; try with_reducible exact trivial
          refine alt2 ?_ ?_
          · refine WK ?_; try with_reducible exact trivial
            refine dapp_votes [] (l.take k) (by (repeat rw [rget_there (by omega)]); exact rget_here _ _ _) (by rw [hlk, List.length_nil]; omega) (by simp only [List.mem_cons, List.not_mem_nil, or_false, not_false_eq_true]; try omega) ?_
            refine WK ?_; try with_reducible exact trivial
            refine dapp_vote (l.take k) v (nx + 3) (i := nx + 2) (by (repeat rw [rget_there (by omega)]); exact rget_here _ _ _) (by (repeat rw [rget_there (by omega)]); exact rget_here _ _ _) (by rw [hlk]; omega) (by simp only [List.mem_cons, List.not_mem_nil, or_false, not_false_eq_true]; try omega) ?_
            refine WK ?_; try with_reducible exact trivial
            refine dapp_votes (l.take k ++ [v]) R (by (repeat rw [rget_there (by omega)]); exact rget_here _ _ _) (by rw [hlf]; omega) (by simp only [List.mem_cons, List.not_mem_nil, or_false, not_false_eq_true]; try omega) ?_
            refine WK ?_; try with_reducible exact trivial
            rw [← e3]
            exact dret_only [nx + 5] (t := .mk _) (by simp only [rpick, rget_here]; exact dret ⟨nx + 5, by omega, by omega, rfl, rfl⟩)
          · refine WK ?_; try with_reducible exact trivial
            refine dapp_votes [] (l.take k) (by (repeat rw [rget_there (by omega)]); exact rget_here _ _ _) (by rw [hlk, List.length_nil]; omega) (by simp only [List.mem_cons, List.not_mem_nil, or_false, not_false_eq_true]; try omega) ?_
            refine WK ?_; try with_reducible exact trivial
            refine dapp_vote (l.take k) v (nx + 2) (i := nx + 3) (by (repeat rw [rget_there (by omega)]); exact rget_here _ _ _) (by (repeat rw [rget_there (by omega)]); exact rget_here _ _ _) (by rw [hlk]; omega) (by simp only [List.mem_cons, List.not_mem_nil, or_false, not_false_eq_true]; try omega) ?_
            refine WK ?_; try with_reducible exact trivial
            refine dapp_votes (l.take k ++ [v]) R (by (repeat rw [rget_there (by omega)]); exact rget_here _ _ _) (by rw [hlf]; omega) (by simp only [List.mem_cons, List.not_mem_nil, or_false, not_false_eq_true]; try omega) ?_
            refine WK ?_; try with_reducible exact trivial
            rw [← e3]
            exact dret_only [nx + 5] (t := .mk _) (by simp only [rpick, rget_here]; exact dret ⟨nx + 5, by omega, by omega, rfl, rfl⟩)
        · refine WK ?_; try with_reducible exact trivial
          refine dapp_votes [] (l.take k) (by (repeat rw [rget_there (by omega)]); exact rget_here _ _ _) (by rw [hlk, List.length_nil]; omega) (by simp only [List.mem_cons, List.not_mem_nil, or_false, not_false_eq_true]; try omega) ?_
          refine WK ?_; try with_reducible exact trivial
          refine dapp_vote (l.take k) v (nx + 1) (i := nx + 3) (by (repeat rw [rget_there (by omega)]); exact rget_here _ _ _) (by (repeat rw [rget_there (by omega)]); exact rget_here _ _ _) (by rw [hlk]; omega) (by simp only [List.mem_cons, List.not_mem_nil, or_false, not_false_eq_true]; try omega) ?_
          refine WK ?_; try with_reducible exact trivial
          refine dapp_votes (l.take k ++ [v]) R (by (repeat rw [rget_there (by omega)]); exact rget_here _ _ _) (by rw [hlf]; omega) (by simp only [List.mem_cons, List.not_mem_nil, or_false, not_false_eq_true]; try omega) ?_
          refine WK ?_; try with_reducible exact trivial
          rw [← e3]
          exact dret_only [nx + 5] (t := .mk _) (by simp only [rpick, rget_here]; exact dret ⟨nx + 5, by omega, by omega, rfl, rfl⟩)
    · have hkl2 : k = l.length := by omega
      have hp := put1_at l v k hk hb (fun x hx => by rw [List.getElem?_eq_none hkl] at hx; cases hx)
      rw [if_neg (fun ⟨x, hx, hx2⟩ => by rw [List.getElem?_eq_none hkl] at hx; cases hx)] at hp
      refine WK ?_; try with_reducible exact trivial
      repeat ((first | refine dgc_d' (boolD true) ?_ | refine dldg_f ?_); refine WK ?_; try with_reducible exact trivial)

      rw [e1, e2]
      have hRl : (l.drop k).length ≤ 1000000 := by rw [List.length_drop]; omega
      generalize l.drop k = R at *
      have e3 : put1 l v = (l.take k ++ [v]) ++ R := by rw [hp]; simp
      refine alt2 ?_ ?_
      · refine WK ?_; try with_reducible exact trivial
        refine alt2 ?_ ?_
        · refine WK ?_; try with_reducible exact trivial
          refine dapp_votes [] (l.take k) (by (repeat rw [rget_there (by omega)]); exact rget_here _ _ _) (by rw [hlk, List.length_nil]; omega) (by simp only [List.mem_cons, List.not_mem_nil, or_false, not_false_eq_true]; try omega) ?_
          refine WK ?_; try with_reducible exact trivial
          refine dapp_vote (l.take k) v (nx + 3) (i := nx + 2) (by (repeat rw [rget_there (by omega)]); exact rget_here _ _ _) (by (repeat rw [rget_there (by omega)]); exact rget_here _ _ _) (by rw [hlk]; omega) (by simp only [List.mem_cons, List.not_mem_nil, or_false, not_false_eq_true]; try omega) ?_
          refine WK ?_; try with_reducible exact trivial
          refine dapp_votes (l.take k ++ [v]) R (by (repeat rw [rget_there (by omega)]); exact rget_here _ _ _) (by rw [hlf]; omega) (by simp only [List.mem_cons, List.not_mem_nil, or_false, not_false_eq_true]; try omega) ?_
          refine WK ?_; try with_reducible exact trivial
          rw [← e3]
          exact dret_only [nx + 5] (t := .mk _) (by simp only [rpick, rget_here]; exact dret ⟨nx + 5, by omega, by omega, rfl, rfl⟩)
        · refine WK ?_; try with_reducible exact trivial
          refine dapp_votes [] (l.take k) (by (repeat rw [rget_there (by omega)]); exact rget_here _ _ _) (by rw [hlk, List.length_nil]; omega) (by simp only [List.mem_cons, List.not_mem_nil, or_false, not_false_eq_true]; try omega) ?_
          refine WK ?_; try with_reducible exact trivial
          refine dapp_vote (l.take k) v (nx + 2) (i := nx + 3) (by (repeat rw [rget_there (by omega)]); exact rget_here _ _ _) (by (repeat rw [rget_there (by omega)]); exact rget_here _ _ _) (by rw [hlk]; omega) (by simp only [List.mem_cons, List.not_mem_nil, or_false, not_false_eq_true]; try omega) ?_
          refine WK ?_; try with_reducible exact trivial
          refine dapp_votes (l.take k ++ [v]) R (by (repeat rw [rget_there (by omega)]); exact rget_here _ _ _) (by rw [hlf]; omega) (by simp only [List.mem_cons, List.not_mem_nil, or_false, not_false_eq_true]; try omega) ?_
          refine WK ?_; try with_reducible exact trivial
          rw [← e3]
          exact dret_only [nx + 5] (t := .mk _) (by simp only [rpick, rget_here]; exact dret ⟨nx + 5, by omega, by omega, rfl, rfl⟩)
      · refine WK ?_; try with_reducible exact trivial
        refine dapp_votes [] (l.take k) (by (repeat rw [rget_there (by omega)]); exact rget_here _ _ _) (by rw [hlk, List.length_nil]; omega) (by simp only [List.mem_cons, List.not_mem_nil, or_false, not_false_eq_true]; try omega) ?_
        refine WK ?_; try with_reducible exact trivial
        refine dapp_vote (l.take k) v (nx + 1) (i := nx + 3) (by (repeat rw [rget_there (by omega)]); exact rget_here _ _ _) (by (repeat rw [rget_there (by omega)]); exact rget_here _ _ _) (by rw [hlk]; omega) (by simp only [List.mem_cons, List.not_mem_nil, or_false, not_false_eq_true]; try omega) ?_
        refine WK ?_; try with_reducible exact trivial
        refine dapp_votes (l.take k ++ [v]) R (by (repeat rw [rget_there (by omega)]); exact rget_here _ _ _) (by rw [hlf]; omega) (by simp only [List.mem_cons, List.not_mem_nil, or_false, not_false_eq_true]; try omega) ?_
        refine WK ?_; try with_reducible exact trivial
        rw [← e3]
        exact dret_only [nx + 5] (t := .mk _) (by simp only [rpick, rget_here]; exact dret ⟨nx + 5, by omega, by omega, rfl, rfl⟩)
  exact hN.fn (frzL_plain (votesC_plain _)).2 (by rw [(frzL_plain (votesC_plain _)).1])
/-- one vote more, if none of its slot has a greater ballot -/
def hitV (v u : VoteS) : Bool := decide (u.slot = v.slot) && decide (v.ballot < u.ballot)
set_option maxRecDepth 100000 in
theorem radd_d (l : List VoteS) (v : VoteS) (hl : l.length ≤ 900000) : DFun Try.prog f_ref18_add [votesD l, .agg (voteC v)] (votesD (addR l v)) := by
  intro nx
  refine xcalls c_ref18_add (by simp only [m_ref18_add, List.length]; decide) ?_
  simp only [voteC]
  simp only [m_ref18_add]; refine WK ?_; try with_reducible exact trivial
  refine dloop [0, 3, 5] (fun s : Nat => ([(0, votesD l), (3, .hp nx 0), (5, iD (s : Nat))], [(nx, .box t_api_Vote (voteC v))], nx + 1)) (fun s => s ≤ l.length ∧ (l.take s).any (hitV v) = false) (fun s => l.length - s) 0 ⟨by omega, by simp⟩ (Ent.of (by with_unfolding_all rfl) rfl) ?_
  rintro k ⟨hk, hb⟩
  dsimp only at hk hb ⊢
  simp only [voteC]
  rcases Nat.lt_or_ge k l.length with hkl | hkl
  · have e0 := votes_get l (k := 0) hkl (by omega)
    have e1 := votes_get l (k := 1) hkl (by omega)
    simp only [voteC, List.getElem?_cons_zero, List.getElem?_cons_succ, Nat.add_zero] at e0 e1
    have hstep : hitV v (gt l k) = false → (l.take (k + 1)).any (hitV v) = false := fun h => by rw [take_gt hkl, List.any_append, hb, List.any_cons, h]; rfl
    rcases (by omega : (gt l k).slot ≠ v.slot ∨ ((gt l k).slot = v.slot ∧ ¬ v.ballot < (gt l k).ballot) ∨ ((gt l k).slot = v.slot ∧ v.ballot < (gt l k).ballot)) with hs | ⟨hs, hs2⟩ | ⟨hs, hs2⟩
    · refine WKX (And.intro @e0 @e1) ?_; try with_reducible exact trivial
      repeat ((first | refine dgc_d' (boolD true) ?_ | refine dldg_f ?_); refine WK ?_; try with_reducible exact trivial)
      exact ⟨k + 1, ⟨by omega, hstep (by unfold hitV; rw [decide_eq_false hs]; rfl)⟩, by omega, Ent.of (by with_unfolding_all rfl) rfl⟩
    · refine WKX (And.intro @e0 @e1) ?_; try with_reducible exact trivial
      exact ⟨k + 1, ⟨by omega, hstep (by unfold hitV; rw [decide_eq_false hs2, Bool.and_false])⟩, by omega, Ent.of (by with_unfolding_all rfl) rfl⟩
    · refine WKX (And.intro @e0 @e1) ?_; try with_reducible exact trivial
      refine dret0 ⟨?_, rfl⟩
      have : l.any (fun u => decide (u.slot = v.slot) && decide (v.ballot < u.ballot)) = true := by
        rw [List.any_eq_true]
        exact ⟨gt l k, by rw [gt_eq hkl]; exact List.getElem_mem _, by rw [decide_eq_true hs, decide_eq_true hs2]; rfl⟩
      unfold addR
      rw [if_pos this]
  · have hkl2 : k = l.length := by omega
    subst hkl2
    rw [List.take_of_length_le (Nat.le_refl _)] at hb
    refine WK ?_; try with_reducible exact trivial
    refine dfun (show DFun Try.prog f_ref17_Put1 [votesD l, .agg (voteC v)] (votesD (put1 l v)) from put1_d l v hl) fun n1 h1 => ?_
    refine WK ?_; try with_reducible exact trivial
    refine dret0 ⟨?_, rfl⟩
    unfold addR
    rw [if_neg (by rw [show (fun u : VoteS => decide (u.slot = v.slot) && decide (v.ballot < u.ballot)) = hitV v from rfl, hb]; decide)]
set_option maxRecDepth 100000 in
theorem rread_d (b : Bs) (hl : b.length ≤ 800000) : DFun Try.prog f_ref18_Read [bytesD b] (.tup [iD (sayB b).1, votesD (sortS (sayB b).2.1), iD (sayB b).2.2]) := by
  intro nx
  refine xcalls c_ref18_Read (by simp only [m_ref18_Read, List.length]; decide) ?_
  simp only [m_ref18_Read]; refine WK ?_; try with_reducible exact trivial
  refine dfun (rscan_d b (by omega)) fun n1 h1 => ?_
  have hsm := scanN_small b.length b
  have hsu := scanN_sum b.length b
  rw [show (scanN b.length b) = scanF b from rfl] at hsm hsu
  have hsb : foldS (scanF b).1 0 [] 0 = sayB b := rfl
  generalize scanF b = F at *
  obtain ⟨R, t⟩ := F
  dsimp only at hsm hsu hsb ⊢
  have hRl : R.length ≤ (R.map fun r => r.length + 12).sum := by
    clear hsm hsu hsb
    induction R with
    | nil => simp
    | cons y R ih => simp only [List.length_cons, List.map_cons, List.sum_cons]; omega
  refine WK ?_; try with_reducible exact trivial
  refine dloop [5, 7, 8, 9, 10] (fun s : Nat × Nat × List VoteS × Nat × Nat => ([(5, matD R), (7, iD (s.2.1 : Nat)), (8, iD (s.2.2.2.1 : Nat)), (9, votesD (sortS s.2.2.1)), (10, iD (s.1 : Nat))], [], s.2.2.2.2)) (fun s => s.1 ≤ R.length ∧ foldS (R.drop s.1) s.2.1 s.2.2.1 s.2.2.2.1 = sayB b ∧ Right1 s.2.2.1 ∧ (slots s.2.2.1).Nodup ∧ s.2.1 ≤ 2147483647 ∧ s.2.2.2.1 + ((R.drop s.1).map fun r => r.length + 12).sum ≤ 800000 ∧ s.2.2.1.length ≤ s.1) (fun s => R.length - s.1) (0, 0, [], 0, n1) ⟨by omega, hsb, fun v hv => by simp at hv, List.nodup_nil, by dsimp only; omega, by dsimp only; rw [List.drop_zero]; omega, by simp⟩ ((Ent.nilv 9 (d := .sc (.slice none 0 0)) (by with_unfolding_all rfl)).trans (Ent.of (by with_unfolding_all rfl) rfl)) ?_
  rintro ⟨x, p, vs, k, n⟩ ⟨q1, q2, q3, q4, q5, q6, q7⟩
  dsimp only at q1 q2 q3 q4 q5 q6 q7 ⊢
  refine WK ?_; try with_reducible exact trivial
  refine brd (fun hlt => ?_) (fun hge => ?_)
  · have hxl : x < R.length := by omega
    have hrm : gt R x ∈ R := by rw [gt_eq hxl]; exact List.getElem_mem _
    rw [List.drop_eq_getElem_cons hxl, ← gt_eq hxl] at q2 q6
    simp only [List.map_cons, List.sum_cons] at q6
    have hrs := hsm _ hrm
    refine WK ?_; try with_reducible exact trivial
    generalize hrx : gt R x = r at *
    have hT2 := takeS_right (p := p) (rec := r) q3
    have hT1 := takeS_le (vs := vs) (rec := r) q5
    have hlen := sortS_len vs
    refine dfun (rget_d r (by omega)) fun n2 h2 => ?_
    simp only [foldS] at q2
    cases hg : getV r with
    | bad =>
      rw [hg, if_neg (by decide)] at q2
      simp only [rgetD, voteC, zeroV]
      refine WK ?_; try with_reducible exact trivial
      exact dret0 ⟨by rw [← q2], rfl⟩
    | promise c =>
      have hc : 1 ≤ c ∧ c ≤ 2147483647 := by
        unfold getV at hg
        split at hg
        · split at hg
          · rename_i hh
            cases hg
            exact hh.1
          · cases hg
        · split at hg
          · split at hg <;> cases hg
          · cases hg
      rw [hg, if_pos (show okR (.promise c) = true from rfl)] at q2
      rw [hg] at hT1 hT2
      simp only [takeS] at q2 hT1 hT2
      simp only [rgetD, voteC, zeroV]
      rw [show k + (r.length + 12) = k + 12 + r.length by omega] at q2
      rcases Nat.lt_or_ge p c with g | g
      · rw [Nat.max_eq_right (by omega)] at q2
        refine WKX @hrx ?_; try with_reducible exact trivial
        exact ⟨(x + 1, c, vs, k + 12 + r.length, n2 + 1), ⟨by dsimp only; omega, q2, q3, q4, by dsimp only; omega, by dsimp only; omega, by dsimp only; omega⟩, by dsimp only; omega, (Ent.only [] _ _ _).trans (Ent.of (by with_unfolding_all rfl) rfl)⟩
      · rw [Nat.max_eq_left (by omega)] at q2
        refine WKX @hrx ?_; try with_reducible exact trivial
        exact ⟨(x + 1, p, vs, k + 12 + r.length, n2 + 1), ⟨by dsimp only; omega, q2, q3, q4, by dsimp only; omega, by dsimp only; omega, by dsimp only; omega⟩, by dsimp only; omega, (Ent.only [] _ _ _).trans (Ent.of (by with_unfolding_all rfl) rfl)⟩
    | vote v =>
      have hv := getV_right hg
      have hv2 := hv
      unfold RightV at hv2
      rw [hg, if_pos (show okR (.vote v) = true from rfl)] at q2
      rw [hg] at hT1 hT2
      simp only [takeS] at q2 hT1 hT2
      simp only [rgetD, voteC]
      rw [show k + (r.length + 12) = k + 12 + r.length by omega] at q2
      have hpl := put_len vs v
      rcases (by omega : (p : Int) < v.ballot ∨ v.ballot ≤ (p : Int)) with g | g
      · rw [Nat.max_eq_right (by omega)] at q2
        refine WKX @hrx ?_; try with_reducible exact trivial
        refine dfun (show DFun Try.prog f_ref18_add [votesD (sortS vs), .agg (voteC v)] (votesD (addR (sortS vs) v)) from radd_d (sortS vs) v (by omega)) fun n3 h3 => ?_
        refine WKX @hrx ?_; try with_reducible exact trivial
        refine ⟨(x + 1, v.ballot.toNat, putS vs v, k + 12 + r.length, n3), ⟨by dsimp only; omega, q2, hT2, put_slots q4, by dsimp only; omega, by dsimp only; omega, by dsimp only; omega⟩, by dsimp only; omega, ?_⟩
        dsimp only
        rw [Int.toNat_of_nonneg (by omega), ← addR_sort q4]
        exact (Ent.only [] _ _ _).trans (Ent.of (by with_unfolding_all rfl) rfl)
      · rw [Nat.max_eq_left (by omega)] at q2
        refine WKX @hrx ?_; try with_reducible exact trivial
        refine dfun (show DFun Try.prog f_ref18_add [votesD (sortS vs), .agg (voteC v)] (votesD (addR (sortS vs) v)) from radd_d (sortS vs) v (by omega)) fun n3 h3 => ?_
        refine WKX @hrx ?_; try with_reducible exact trivial
        refine ⟨(x + 1, p, putS vs v, k + 12 + r.length, n3), ⟨by dsimp only; omega, q2, hT2, put_slots q4, by dsimp only; omega, by dsimp only; omega, by dsimp only; omega⟩, by dsimp only; omega, ?_⟩
        dsimp only
        rw [← addR_sort q4]
        exact (Ent.only [] _ _ _).trans (Ent.of (by with_unfolding_all rfl) rfl)
  · refine WK ?_; try with_reducible exact trivial
    rw [List.drop_of_length_le (by omega)] at q2
    simp only [foldS] at q2
    exact dret0 ⟨by rw [← q2], rfl⟩
end Go.Proofs.Ytgpkbldlkadnjaa
end
section
/- Law LogKeeps over data; few acts of layer 18. -/
set_option linter.unusedVariables false
set_option linter.unusedSimpArgs false
set_option maxHeartbeats 3000000
attribute [local irreducible] Go.Sl.Chk Go.Sl.Br Go.Sl.Or2 Go.Sl.Ld Go.Sl.Ldn Go.Sl.LdB Go.Sl.Stn Go.Sl.New Go.Sl.Run Go.Sl.RunU Go.Sl.RunX Go.Sl.Call Go.Sl.LoopK Go.Sl.RawK Go.Sl.Alt Go.Sl.Om Go.Sl.xpk Go.Sl.xgpk Go.Sl.xglk Go.Sl.DLd Go.Sl.DLdG Go.Sl.DBs Go.Sl.DCall Go.Sl.DApp Go.Sl.DGen Go.Sl.DGenU Go.Sl.DGC Go.Sl.DLoop Go.Sl.DRaw Go.Sl.DRet Go.Sl.Ent Go.Sl.dget Go.Sl.dv Go.Sl.ev Go.Sl.eget
namespace Go.Proofs.Ytgpkbldlkadnjaa
open Go Go.Sl Go.RowKit
structure LAct where
  act : Int
  ballot : Int
  vote : VoteS
  keep : List Int
deriving Inhabited
def lactC (a : LAct) : List D := [iD a.act, iD a.ballot] ++ (voteC a.vote ++ [intsD a.keep])
def lactsC (l : List LAct) : List D := l.flatMap lactC
abbrev lactsD (l : List LAct) : D := .sl l.length (lactsC l)
theorem lactC_len (a : LAct) : (lactC a).length = 8 := rfl
theorem lacts_get (l : List LAct) {j k : Nat} (hj : j < l.length) (hk : k < 8) : (lactsC l)[j * 8 + k]? = (lactC (gt l j))[k]? := flatC_get lactC_len l hj hk
theorem lacts_vote (l : List LAct) {j : Nat} (hj : j < l.length) : ((lactsC l).drop (j * 8 + 2)).take 5 = voteC (gt l j).vote := by
  rw [← List.drop_drop, show lactsC l = l.flatMap lactC from rfl, flatC_drop lactC_len l hj]
  rfl
def LAct.ok (a : LAct) : Prop := a.vote.bytes.length ≤ 140737488351232 ∧ a.keep.length ≤ 140737488351232 ∧ (-9223372036854775808 ≤ a.act ∧ a.act ≤ 9223372036854775807) ∧ (-9223372036854775808 ≤ a.ballot ∧ a.ballot ≤ 9223372036854775807) ∧ Keep1 a.keep
def fewA (a : LAct) : Bool := decide (a.vote.bytes.length ≤ 600 ∧ a.keep.length ≤ 10)
/-- few acts -/
def few18 (l : List LAct) : Bool := (l.take 100).all fewA && decide (l.length ≤ 40)
set_option maxRecDepth 100000 in
theorem few18_d (l : List LAct) (h : ∀ a ∈ l, a.ok) (hl : l.length ≤ 140737488351232) : DFun Try.prog f_law18_few [lactsD l] (boolD (few18 l)) := by
  intro nx
  refine xcalls c_law18_few (by simp only [m_law18_few, List.length]; decide) ?_
  simp only [m_law18_few]; refine WK ?_; try with_reducible exact trivial
  refine dloop [0, 3] (fun s : Nat => ([(0, lactsD l), (3, iD (s : Nat))], [], nx)) (fun s => s ≤ l.length ∧ s ≤ 100 ∧ (l.take s).all fewA = true) (fun s => l.length - s) 0 ⟨by omega, by omega, by simp⟩ (Ent.of (by with_unfolding_all rfl) rfl) ?_
  rintro k ⟨q1, q2, q3⟩
  dsimp only at q1 q2 q3 ⊢
  rcases Decidable.em (k < l.length ∧ k < 100) with ⟨hkl, hk1⟩ | hno
  · have ha := h (gt l k) (by rw [gt_eq hkl]; exact List.getElem_mem _)
    have e6 := lacts_get l (j := k) (k := 6) hkl (by omega)
    have e7 := lacts_get l (j := k) (k := 7) hkl (by omega)
    simp only [lactC, voteC, List.cons_append, List.nil_append, List.getElem?_cons_succ, List.getElem?_cons_zero] at e6 e7
    obtain ⟨a1, a2, a3, a4, a5⟩ := ha
    have htk : (l.take (k + 1)).all fewA = fewA (gt l k) := by rw [take_gt hkl, List.all_append, q3]; simp
    have h100 : fewA (gt l k) = false → few18 l = false := fun hf => by
      unfold few18
      have : (l.take 100).all fewA = false := by
        rw [List.all_eq_false]
        exact ⟨gt l k, by rw [gt_eq hkl]; exact List.mem_iff_getElem.2 ⟨k, by rw [List.length_take]; omega, by rw [List.getElem_take]⟩, by rw [hf]; decide⟩
      rw [this, Bool.false_and]
    rcases Decidable.em ((gt l k).vote.bytes.length ≤ 600) with g1 | g1
    · rcases Decidable.em ((gt l k).keep.length ≤ 10) with g2 | g2
      · refine WKX (And.intro @e6 (And.intro @e7 @sz_s)) ?_; try with_reducible exact trivial
        exact ⟨k + 1, ⟨by omega, by omega, by rw [htk]; exact decide_eq_true ⟨g1, g2⟩⟩, by omega, (Ent.of (by with_unfolding_all rfl) rfl)⟩
      · refine WKX (And.intro @e6 (And.intro @e7 @sz_s)) ?_; try with_reducible exact trivial
        exact dret0 ⟨by rw [h100 (show fewA (gt l k) = false from decide_eq_false fun h => g2 h.2)], rfl⟩
    · refine WKX (And.intro @e6 (And.intro @e7 @sz_s)) ?_; try with_reducible exact trivial
      repeat ((first | refine dgc_d' (boolD true) ?_ | refine dldg_f ?_); refine WK ?_; try with_reducible exact trivial)
      exact dret0 ⟨by rw [h100 (show fewA (gt l k) = false from decide_eq_false fun h => g1 h.1)], rfl⟩
  · have hfin : few18 l = decide (l.length ≤ 40) := by
      unfold few18
      rcases (by omega : k = l.length ∨ k = 100) with e | e
      · rw [List.take_of_length_le (by omega), ← List.take_of_length_le (show l.length ≤ k by omega), q3, Bool.true_and]
      · rw [← e, q3, Bool.true_and]
    rcases Nat.lt_or_ge k l.length with hkl | hkl
    · refine WK ?_; try with_reducible exact trivial
      exact dret0 ⟨by rw [hfin, decide_eq_false (by omega)], rfl⟩
    · refine WK ?_; try with_reducible exact trivial
      repeat ((first | refine dgc_d' (boolD true) ?_ | refine dldg_f ?_); refine WK ?_; try with_reducible exact trivial)
      exact dret0 ⟨by rw [hfin]; congr 2; exact decide_eq_decide.2 (by omega), rfl⟩
set_option maxRecDepth 100000 in
theorem logKeeps_d (v : VoteS) (hv : v.bytes.length ≤ 140737488351232) : DFun Try.prog f_law18_LogKeeps [.agg (voteC v)] (boolD true) := by
  intro nx
  refine xcalls c_law18_LogKeeps (by simp only [m_law18_LogKeeps, List.length]; decide) ?_
  have hk0 : DOk ([] : List FileS) 5000 0 := ⟨fun f hf => by simp at hf, fun f hf => by simp at hf, by simp [usedN], List.nodup_nil, by simp, fun f hf => by simp at hf⟩
  have hr0 : Right1 [] := fun v hv => by simp at hv
  simp only [voteC]
  simp only [m_law18_LogKeeps]; refine WK ?_; try with_reducible exact trivial
  refine dfun awake18_d fun n1 g1 => ?_
  refine WK ?_; try with_reducible exact trivial
  refine dfun (vright_d v) fun n2 g2 => ?_
  rcases Decidable.em (RightV v) with hr | hr
  · rw [decide_eq_true hr]
    have hvl := voteB_len hr
    refine WK ?_; try with_reducible exact trivial
    refine dnew (new_o 5000 ⟨by omega, by omega⟩) fun d n3 g3 g4 => ?_
    rw [show (min (max (5000 : Int) 0) 65536).toNat = 5000 from rfl]
    simp only [diskO]
    refine WK ?_; try with_reducible exact trivial
    refine dcallR [d] (rpick_one (t := diskO [] 5000) (by (repeat rw [rget_there (by omega)]); exact rget_here _ _ _)) (open_l hk0 (by omega) (by omega)) (by simp) fun _ _ n4 g5 ⟨x, s, x1, x2, s1, s2, xs, e1, e2⟩ => ?_
    subst e1; subst e2
    rw [show openF [] = [] from rfl, show sayB (logB []) = (0, [], 0) from rfl]
    simp only [logO, saysO, diskO, List.cons_append, List.nil_append]
    refine WK ?_; try with_reducible exact trivial
    refine dcallR [x, s, d] (rin := [(x, logO d s), (s, saysO 0 []), (d, diskO [] 5000)]) (rest := [(nx, .box t_api_Vote (voteC v))]) (by simp only [logO, saysO, diskO, voteC]; simp -dsimp (disch := omega) only [rpick, rget_here, rget_there, rdel_here, rdel_there]; try rfl) (vote_l (v := v) hk0 (by omega) hr0 (by omega) (by omega) (by omega) (by omega) xs (by omega) (by omega)) (by simp) fun _ _ n5 g6 ⟨e1, e2⟩ => ?_
    subst e1; subst e2
    have hvo : RightV v ∧ ((0 : Nat) : Int) ≤ v.ballot := ⟨hr, by unfold RightV at hr; omega⟩
    have hae : appE [] 5000 lgN (frameB (voteB v)) = 0 := appE_nil (by rw [frameB_len]; omega)
    rw [show voteE [] 5000 0 v = 0 by rw [voteE, if_pos hvo]; exact hae, show voteF [] 5000 0 v = oneF (frameB (voteB v)) by rw [voteF, if_pos hvo]; exact addF_nil (by omega), show voteP [] 5000 0 [] v = (v.ballot.toNat, [v]) by
      rw [voteP, if_pos hvo, addS_ok hae, getV_voteB hr]
      simp only [takeS, Nat.zero_max]
      rfl]
    have k1 : DOk (oneF (frameB (voteB v))) 5000 1 := oneF_ok (by rw [frameB_len]; omega) (by omega)
    have hr1 : Right1 [v] := fun u hu => by simp only [List.mem_singleton] at hu; rw [hu]; exact hr
    simp only [logO, saysO, diskO, List.cons_append, List.nil_append]
    refine WK ?_; try with_reducible exact trivial
    refine dcallR [x, s, d] (rin := [(x, logO d s), (s, saysO v.ballot.toNat [v]), (d, diskO (oneF (frameB (voteB v))) 5000)]) (rest := [(nx, .box t_api_Vote (voteC v))]) (by simp only [logO, saysO, diskO, voteC]; simp -dsimp (disch := omega) only [rpick, rget_here, rget_there, rdel_here, rdel_there]; try rfl) (votes_l hr1 (by simp) (by omega) (by omega) (by omega) xs (by omega) (by omega)) (by simp) fun _ _ n6 g7 ⟨q, q1, q2, e1, e2⟩ => ?_
    subst e1; subst e2
    rw [sortS_one]
    simp only [logO, saysO, diskO, votesO, List.cons_append, List.nil_append]
    refine WK ?_; try with_reducible exact trivial
    refine dloop [1, 4, 5, 6] (fun t : Nat × VoteS => ([(1, .hp nx 0), (4, .hp x 0), (5, .h q), (6, iD (t.1 : Nat))], [(q, votesO [t.2]), (x, logO d s), (s, saysO v.ballot.toNat [v]), (d, diskO (oneF (frameB (voteB v))) 5000), (nx, .box t_api_Vote (voteC v))], n6)) (fun t => t.1 ≤ 1) (fun t => 1 - t.1) (0, v) (by simp) (Ent.of (by with_unfolding_all rfl) rfl) ?_
    rintro ⟨k, u⟩ hk
    dsimp only at hk ⊢
    simp only [logO, saysO, diskO, votesO]
    refine WK ?_; try with_reducible exact trivial
    refine brd (fun hlt => ?_) (fun hge => ?_)
    · obtain rfl : k = 0 := by omega
      simp only [votesC, List.flatMap_cons, List.flatMap_nil, List.append_nil, voteC]
      refine WK ?_; try with_reducible exact trivial
      exact ⟨(1, zeroV), by simp, by simp, Ent.of (by with_unfolding_all rfl) (by with_unfolding_all rfl)⟩
    · simp only [voteC]
      refine WK ?_; try with_reducible exact trivial
      have hfin : DFun Try.prog f_ref17_Same [votesD [v], .sl 1 (votesC [v])] (boolD true) := by
        have := same17_d [v] [v] (by simp)
        rw [decide_eq_true rfl] at this
        exact this
      refine alt2 ?_ ?_
      · refine WK ?_; try with_reducible exact trivial
        refine dcallR [x, s, d] (rin := [(x, logO d s), (s, saysO v.ballot.toNat [v]), (d, diskO (oneF (frameB (voteB v))) 5000)]) (rest := [(q, votesO [u]), (nx, .box t_api_Vote (voteC v))]) (by simp only [logO, saysO, diskO, voteC, votesO]; simp -dsimp (disch := omega) only [rpick, rget_here, rget_there, rdel_here, rdel_there]; try rfl) (votes_l hr1 (by simp) (by omega) (by omega) (by omega) xs (by omega) (by omega)) (by simp only [List.mem_singleton]; rintro i rfl; rw [rget_there (by omega), rget_there (by omega), rget_there (by omega)]; rfl) fun _ _ n7 g8 ⟨q', q3, q4, e1, e2⟩ => ?_
        subst e1; subst e2
        rw [sortS_one]
        simp only [logO, saysO, diskO, votesO, List.cons_append, List.nil_append, voteC]
        refine WK ?_; try with_reducible exact trivial
        refine dcall_frz q' (t' := .mk _) (by (repeat rw [rget_there (by omega)]); exact rget_here _ _ _) (votesC_plain _) (by simp only [List.mem_cons, List.not_mem_nil, or_false, not_false_eq_true]; try omega) ?_
        refine WK ?_; try with_reducible exact trivial
        refine dcall_frz n7 (t' := .mk _) (by (repeat rw [rget_there (by omega)]); exact rget_here _ _ _) (votesC_plain [v]) (by simp only [List.mem_cons, List.not_mem_nil, or_false, not_false_eq_true]; try omega) ?_
        refine WK ?_; try with_reducible exact trivial
        refine dfun hfin fun n8 g9 => ?_
        refine WK ?_; try with_reducible exact trivial
        exact dret0 ⟨rfl, rfl⟩
      · refine WK ?_; try with_reducible exact trivial
        refine dcallR [x, s, d] (rin := [(x, logO d s), (s, saysO v.ballot.toNat [v]), (d, diskO (oneF (frameB (voteB v))) 5000)]) (rest := [(n6, .row t_api_Vote (5 / 1) 1 (voteC v)), (q, votesO [u]), (nx, .box t_api_Vote (voteC v))]) (by simp only [logO, saysO, diskO, voteC, votesO]; simp -dsimp (disch := omega) only [rpick, rget_here, rget_there, rdel_here, rdel_there]; try rfl) (votes_l hr1 (by simp) (by omega) (by omega) (by omega) xs (by omega) (by omega)) (by simp) fun _ _ n7 g8 ⟨q', q3, q4, e1, e2⟩ => ?_
        subst e1; subst e2
        rw [sortS_one]
        simp only [logO, saysO, diskO, votesO, List.cons_append, List.nil_append, voteC]
        refine WK ?_; try with_reducible exact trivial
        refine dcall_frz q' (t' := .mk _) (by (repeat rw [rget_there (by omega)]); exact rget_here _ _ _) (votesC_plain _) (by simp only [List.mem_cons, List.not_mem_nil, or_false, not_false_eq_true]; try omega) ?_
        refine WK ?_; try with_reducible exact trivial
        refine dcall_frz n6 (t' := .mk _) (by (repeat rw [rget_there (by omega)]); exact rget_here _ _ _) (votesC_plain [v]) (by simp only [List.mem_cons, List.not_mem_nil, or_false, not_false_eq_true]; try omega) ?_
        refine WK ?_; try with_reducible exact trivial
        refine dfun hfin fun n8 g9 => ?_
        refine WK ?_; try with_reducible exact trivial
        exact dret0 ⟨rfl, rfl⟩
  · rw [decide_eq_false hr]
    refine WK ?_; try with_reducible exact trivial
    refine dfun awake18_d fun n3 g3 => ?_
    refine WK ?_; try with_reducible exact trivial
    exact dret0 ⟨rfl, rfl⟩
end Go.Proofs.Ytgpkbldlkadnjaa
end
section
/- Law LogReads over data. -/
set_option linter.unusedVariables false
set_option linter.unusedSimpArgs false
set_option maxHeartbeats 3000000
attribute [local irreducible] Go.Sl.Chk Go.Sl.Br Go.Sl.Or2 Go.Sl.Ld Go.Sl.Ldn Go.Sl.LdB Go.Sl.Stn Go.Sl.New Go.Sl.Run Go.Sl.RunU Go.Sl.RunX Go.Sl.Call Go.Sl.LoopK Go.Sl.RawK Go.Sl.Alt Go.Sl.Om Go.Sl.xpk Go.Sl.xgpk Go.Sl.xglk Go.Sl.DLd Go.Sl.DLdG Go.Sl.DBs Go.Sl.DCall Go.Sl.DApp Go.Sl.DGen Go.Sl.DGenU Go.Sl.DGC Go.Sl.DLoop Go.Sl.DRaw Go.Sl.DRet Go.Sl.Ent Go.Sl.dget Go.Sl.dv Go.Sl.ev Go.Sl.eget
namespace Go.Proofs.Ytgpkbldlkadnjaa
open Go Go.Sl Go.RowKit
set_option maxRecDepth 100000 in
/-- sorted, where the map stands beside its box -/
theorem sorted_m (p : Nat) (vs : List VoteS) (hr : Right1 vs) (hl : vs.length ≤ 1000000) {i m nx : Nat} (hi : i < nx) (hm : m < nx) (hne : m ≠ i) :
    DCalls Try.prog f_log_says_sorted [.hp i 0] [(m, .mp (keysV vs) (vs.map fun v => .agg (voteC v))), (i, .box t_log_says [iD p, .h m])] nx (fun d ro nx' => ∃ q, nx ≤ q ∧ q < nx' ∧ d = .h q ∧ ro = [(q, votesO (sortS vs)), (m, .mp (keysV vs) (vs.map fun v => .agg (voteC v))), (i, .box t_log_says [iD p, .h m])]) := by
  refine xcalls c_log_says_sorted (by simp only [m_log_says_sorted, List.length]; decide) ?_
  simp only [m_log_says_sorted]; refine WK ?_; try with_reducible exact trivial
  refine dnew (keysV_d m) fun c n1 h1 h2 => ?_
  refine WK ?_; try with_reducible exact trivial
  refine dsortedZ sorted_V (c := c) (m := m) (ns := vs.map fun v => v.slot) (rget_here _ _ _) (by rw [rget_there (by omega), rget_here, List.map_map]; rfl) (by rw [List.length_map]; exact hl) (fun x hx => ?_) ?_
  · obtain ⟨f, hf, rfl⟩ := List.mem_map.1 hx
    exact key_int (by have := hr f hf; unfold RightV at this; omega)
  · rw [List.length_map]
    have hks : ((vs.map fun v => v.slot).mergeSort fun x y => decide (x ≤ y)) = slotsS vs := rfl
    rw [hks]
    refine WK ?_; try with_reducible exact trivial
    refine dloop [0, 3, 11, 12, 13] (fun s : Nat × Nat × Nat => ([(0, .hp i 0), (3, .h s.2.1), (11, .h n1), (12, iD (vs.length : Nat)), (13, iD (s.1 : Nat))], [(s.2.1, .row t_api_Vote 5 ((sortS vs).take s.1).length (votesC ((sortS vs).take s.1))), (n1, .row 3 1 vs.length ((slotsS vs).map fun s => .sc (encZ s))), (m, .mp (keysV vs) (vs.map fun v => .agg (voteC v))), (i, .box t_log_says [iD p, .h m])], s.2.2)) (fun s => s.1 ≤ vs.length ∧ n1 < s.2.1 ∧ s.2.1 < s.2.2) (fun s => vs.length - s.1) (0, n1 + 1, n1 + 2) ⟨by omega, by dsimp only; omega, by dsimp only; omega⟩ ((Ent.nil 3 t_api_Vote 5 (by with_unfolding_all rfl) rfl).trans ((Ent.only [n1 + 1, n1, m, i] _ _ _).trans (by simp -dsimp (disch := omega) only [rpick, rget_here, rget_there, rdel_here, rdel_there]; exact (Ent.of (by with_unfolding_all rfl) rfl)))) ?_
    rintro ⟨x, q, n⟩ ⟨q1, q2, q3⟩
    dsimp only at q1 q2 q3 ⊢
    refine WK ?_; try with_reducible exact trivial
    refine brd (fun hlt => ?_) (fun hge => ?_)
    · have hxl : x < (slotsS vs).length := by rw [slotsS_len]; omega
      have hmm : gt (slotsS vs) x ∈ vs.map fun v => v.slot := by rw [gt_eq hxl]; exact (List.mergeSort_perm _ _).mem_iff.1 (List.getElem_mem _)
      obtain ⟨j, u, hsf, hj, hu, hat⟩ := slotF_mem hmm
      have htk : (sortS vs).take (x + 1) = (sortS vs).take x ++ [u] := by
        have hxs : x < (sortS vs).length := by unfold sortS; rw [List.length_map]; exact hxl
        rw [take_gt hxs, show gt (sortS vs) x = u by show gt ((slotsS vs).map (atS vs)) x = u; rw [gt_eq (by rw [List.length_map]; exact hxl), List.getElem_map, ← gt_eq hxl, hat]]
      have hrv := hr u (List.mem_of_getElem? hj)
      unfold RightV at hrv
      refine WK ?_; try with_reducible exact trivial
      generalize gt (slotsS vs) x = key at *
      refine dlook_at (i := m) (j := j) (ks := keysV vs) (l := vs.map fun v => .agg (voteC v)) (key := encZ key) (d := .agg (voteC u)) (by refine WK ?_; try with_reducible exact trivial) (by refine WK ?_; try with_reducible exact trivial) (by (repeat rw [rget_there (by omega)]); exact rget_here _ _ _) kd3 Try.underlying217 (key_int (by omega)) (right_keys hr) (by unfold keysV; rw [List.getElem?_map, hj, ← hu]; rfl) (by rw [List.getElem?_map, hj]; rfl) (by simp only [D.plain]) ?_
      simp -dsimp (disch := omega) only [↓MC.xwp, ↓xopsWp, ↓xdr, ↓MOp.xwp, dvs, dv, dvu, dvo, dvp, dgb, dGd, dBool, cond_true, cond_false, asFn, dget, dput, dput?, dead?, dres, ptr, bsc, cv, uo, uof, unopt, xpr, xdevr, xev0, cutK, cutN, xldk, xldn, xbsk, xst, xgp, glc, vExt, vFldA, vFld, vFad, vIxs, vIxa, vIxvA, vIxv, vSls, vLen, vPick, vNilc, vIsnil, dev0, devr, dsl, dif, dcells, dover, dbuild, scs, rowOf, strideOf, dtk, dtake, done1, pev, pbin, pint, pbool, pstr, psl, vnil, ↓thenD, ↓blockD, ↓retX, ↓xres, xcell, tupD, argD, dkeep, ckLive, kp, xdone, xheld, dstD, isLdM, ldOp, ldIds, ldSlots, selfOk, nb, dst1, inDone, allDone, apart, slotsApart, heldAll, heldOk, Op.operands, Nat.reduceAdd, forall_eq_or_imp, D.plain, reduceCtorEq, if_true, if_false, ↓reduceIte, ne_eq, Bool.cond_true, Bool.cond_false, forall_const, implies_true, forall_eq, Int.reduceEq, Int.reduceLT, Int.reduceLE, Int.reduceAdd, Int.reduceSub, Int.reduceMul, Int.reduceToNat, Nat.reduceMul, Nat.reduceLeDiff, Nat.reduceLT, Nat.reduceSub, Nat.reduceBEq, Nat.reduceEqDiff, matD, bytesD, iD, intsD, boolD, strD, bD, DB, voteC]
      refine dapp_vote ((sortS vs).take x) u n (i := q) (by (repeat rw [rget_there (by omega)]); exact rget_here _ _ _) (by (repeat rw [rget_there (by omega)]); exact rget_here _ _ _) (by rw [List.length_take]; omega) (by simp only [List.mem_cons, List.not_mem_nil, or_false, not_false_eq_true]; try omega) ?_
      rw [← htk]
      refine WK ?_; try with_reducible exact trivial
      refine ⟨(x + 1, n + 1, n + 2), ⟨by dsimp only; omega, by dsimp only; omega, by dsimp only; omega⟩, by dsimp only; omega, (Ent.only [n + 1, n1, m, i] _ _ _).trans (by simp -dsimp (disch := omega) only [rpick, rget_here, rget_there, rdel_here, rdel_there]; exact (Ent.of (by with_unfolding_all rfl) rfl))⟩
    · refine WK ?_; try with_reducible exact trivial
      rw [List.take_of_length_le (by unfold sortS; rw [List.length_map, slotsS_len]; omega)]
      refine dret_only [q, m, i] (t := .mk _) ?_
      refine WKR ?_; try with_reducible exact trivial
      exact dret ⟨q, by omega, by omega, rfl, rfl⟩
theorem foldS_few : ∀ (l : LL) (p : Nat) (vs : List VoteS) (n : Nat), (foldS l p vs n).2.1.length ≤ vs.length + l.length
  | [], p, vs, n => by simp [foldS]
  | r :: l, p, vs, n => by
    rw [foldS]
    split
    · have h1 := foldS_few l (takeS p vs (getV r)).1 (takeS p vs (getV r)).2 (n + (r.length + 12))
      have h2 := take_len p vs (getV r)
      rw [List.length_cons]
      omega
    · simp
theorem foldS_right : ∀ (l : LL) (p : Nat) (vs : List VoteS) (n : Nat), Right1 vs → (slots vs).Nodup → p ≤ 2147483647 → Right1 (foldS l p vs n).2.1 ∧ (slots (foldS l p vs n).2.1).Nodup ∧ (foldS l p vs n).1 ≤ 2147483647
  | [], p, vs, n, h1, h2, h3 => ⟨h1, h2, h3⟩
  | r :: l, p, vs, n, h1, h2, h3 => by
    rw [foldS]
    split
    · refine foldS_right l _ _ _ (takeS_right h1) ?_ (takeS_le h3)
      cases hg : getV r with
      | bad => exact h2
      | promise b => exact h2
      | vote v => exact put_slots h2
    · exact ⟨h1, h2, h3⟩
theorem scan_len (b : Bs) : (scanF b).1.length * 12 ≤ b.length := by
  have h := scanN_sum b.length b
  rw [show (scanN b.length b) = scanF b from rfl] at h
  have : ∀ R : LL, R.length * 12 ≤ (R.map fun r => r.length + 12).sum := fun R => by
    induction R with
    | nil => simp
    | cons y R ih => simp only [List.length_cons, List.map_cons, List.sum_cons]; omega
  have := this (scanF b).1
  omega
theorem foldS_used : ∀ (l : LL) (p : Nat) (vs : List VoteS) (n : Nat), (foldS l p vs n).2.2 ≤ n + (l.map fun r => r.length + 12).sum
  | [], p, vs, n => by simp [foldS]
  | r :: l, p, vs, n => by
    rw [foldS]
    split
    · have h1 := foldS_used l (takeS p vs (getV r)).1 (takeS p vs (getV r)).2 (n + (r.length + 12))
      rw [List.map_cons, List.sum_cons]
      omega
    · simp
theorem say_ok (b : Bs) : Right1 (sayB b).2.1 ∧ (slots (sayB b).2.1).Nodup ∧ (sayB b).1 ≤ 2147483647 ∧ (sayB b).2.1.length * 12 ≤ b.length ∧ (sayB b).2.2 ≤ b.length := by
  obtain ⟨h1, h2, h3⟩ := foldS_right (scanF b).1 0 [] 0 (fun v hv => by simp at hv) List.nodup_nil (by omega)
  have h4 := foldS_few (scanF b).1 0 [] 0
  have h5 := foldS_used (scanF b).1 0 [] 0
  have h6 := scanN_sum b.length b
  rw [show (scanN b.length b) = scanF b from rfl] at h6
  have h7 := scan_len b
  simp only [List.length_nil] at h4
  refine ⟨h1, h2, h3, ?_, ?_⟩
  · show (foldS (scanF b).1 0 [] 0).2.1.length * 12 ≤ _
    omega
  · show (foldS (scanF b).1 0 [] 0).2.2 ≤ _
    omega
set_option maxRecDepth 100000 in
theorem lread_d (b : Bs) (hl : b.length ≤ 800000) : DFun Try.prog f_log_Read [bytesD b] (.tup [iD (sayB b).1, votesD (sortS (sayB b).2.1)]) := by
  intro nx
  obtain ⟨h1, h2, h3, h4, h5⟩ := say_ok b
  refine xcalls c_log_Read (by simp only [m_log_Read, List.length]; decide) ?_
  simp only [m_log_Read]; refine WK ?_; try with_reducible exact trivial
  refine dnew (scan_o b (by omega)) fun s n1 g1 g2 => ?_
  simp only [saysO]
  refine WK ?_; try with_reducible exact trivial
  refine dcall_out s 1 (tg' := .mk _) (eb := t_log_says) (l := [iD (sayB b).1, .mp (keysV (sayB b).2.1) ((sayB b).2.1.map fun v => .agg (voteC v))]) (by (repeat rw [rget_there (by omega)]); exact rget_here _ _ _) rfl (by omega) ?_
  simp only [rset_here, List.set_cons_succ, List.set_cons_zero]
  refine dcall_held s (eb := t_log_says) (l := [iD (sayB b).1, .h n1]) (tg' := .mk _) (tg2 := .mk _) (by (repeat rw [rget_there (by omega)]); exact rget_here _ _ _) (by simp [named1]) (by simp [D.plain]) ?_
  refine dcallR [n1, s] (rin := [(n1, .mp (keysV (sayB b).2.1) ((sayB b).2.1.map fun v => .agg (voteC v))), (s, .box t_log_says [iD (sayB b).1, .h n1])]) (rest := []) (by simp -dsimp (disch := omega) only [rpick, rget_here, rget_there, rdel_here, rdel_there]; try rfl) (sorted_m (sayB b).1 (sayB b).2.1 h1 (by omega) (by omega) (by omega) (by omega)) (by simp) fun _ _ n2 g3 ⟨q, q1, q2, e1, e2⟩ => ?_
  subst e1; subst e2
  simp only [votesO, List.cons_append, List.nil_append]
  refine ⟨(by (repeat rw [rget_there (by omega)]); exact rget_here _ _ _), ?_⟩
  refine WK ?_; try with_reducible exact trivial
  refine dret_frz q (rget_here _ _ _) (votesC_plain _) ?_
  rw [rset_here]
  simp only [dresT, List.map_cons, List.map_nil, dres, rget_here]
  exact dret0 ⟨rfl, rfl⟩
/-- a log's bytes on a disk, opened -/
theorem open_trim (b : Bs) (k : Nat) (hk : k ≤ b.length) : syncF (trimF [(lgN, b, 0)] lgN (k : Nat)) lgN = oneF (b.take k) := by
  have e : trimF [(lgN, b, 0)] lgN (k : Nat) = [(lgN, b.take k, 0)] := by
    unfold trimF
    rw [find_one]
    dsimp only
    rw [show ([(lgN, b, 0)] : List FileS).getD 0 default = (lgN, b, 0) from rfl]
    dsimp only
    rw [if_pos ⟨by omega, by omega⟩, Int.toNat_natCast, Nat.zero_min]
    rfl
  rw [e]
  unfold syncF
  rw [find_one]
  rfl
set_option maxRecDepth 100000 in
theorem logReads_d (b : Bs) (hb : b.length ≤ 140737488351232) : DFun Try.prog f_law18_LogReads [bytesD b] (boolD true) := by
  intro nx
  refine xcalls c_law18_LogReads (by simp only [m_law18_LogReads, List.length]; decide) ?_
  simp only [m_law18_LogReads]; refine WK ?_; try with_reducible exact trivial
  refine dfun awake18_d fun n1 g1 => ?_
  refine WK ?_; try with_reducible exact trivial
  refine brd (fun hbig => ?_) (fun hbig => ?_)
  · refine WK ?_; try with_reducible exact trivial
    refine dfun awake18_d fun n2 g2 => ?_
    refine WK ?_; try with_reducible exact trivial
    exact dret0 ⟨rfl, rfl⟩
  · have hbl : b.length ≤ 3000 := by omega
    obtain ⟨h1, h2, h3, h4, h5⟩ := say_ok b
    refine WK ?_; try with_reducible exact trivial
    refine dfun (lread_d b (by omega)) fun n2 g2 => ?_
    refine WK ?_; try with_reducible exact trivial
    refine dfun (rread_d b (by omega)) fun n3 g3 => ?_
    refine WK ?_; try with_reducible exact trivial
    refine dnew (new_o 5000 ⟨by omega, by omega⟩) fun d n4 g4 g5 => ?_
    rw [show (min (max (5000 : Int) 0) 65536).toNat = 5000 from rfl]
    simp only [diskO]
    refine WK ?_; try with_reducible exact trivial
    refine dact d (append_a [] 5000 lgN b (fun f hf => by simp at hf) (by decide) (by decide) (by decide) (by omega)) (by omega) (by (repeat rw [rget_there (by omega)]); exact rget_here _ _ _) (by simp only [List.mem_cons, List.not_mem_nil, or_false, not_false_eq_true]; try omega) fun n5 g6 => ?_
    have ha : appF [] 5000 lgN b = [(lgN, b, 0)] := by
      unfold appF
      rw [named_lg, if_neg (by decide), if_neg (by simp [usedN]; omega)]
      rfl
    rw [ha]
    have hk1 : DOk [(lgN, b, 0)] 5000 1 := ⟨fun f hf => by
      simp only [List.mem_singleton] at hf; subst hf; exact ⟨by show lgN.length ≤ 1000; decide, by dsimp only; omega⟩, fun f hf => by simp only [List.mem_singleton] at hf; subst hf; exact Nat.zero_le _, by simp [usedN]; omega, by simp [namesF], by simp, fun f hf => by simp only [List.mem_singleton] at hf; subst hf; show lgN.length ≤ 24; decide⟩
    simp only [diskO]
    refine WK ?_; try with_reducible exact trivial
    refine dcallR [d] (rpick_one (t := diskO [(lgN, b, 0)] 5000) (by (repeat rw [rget_there (by omega)]); exact rget_here _ _ _)) (open_l hk1 (by omega) (by omega)) (by simp) fun _ _ n6 g7 ⟨x, s, x1, x2, s1, s2, xs, e1, e2⟩ => ?_
    subst e1; subst e2
    have hlb : logB [(lgN, b, 0)] = b := by unfold logB; rw [find_one]; rfl
    have hof : openF [(lgN, b, 0)] = oneF (b.take (sayB b).2.2) := by
      unfold openF
      rw [find_one, hlb]
      exact open_trim b _ h5
    rw [hlb, hof]
    have hk2 : DOk (oneF (b.take (sayB b).2.2)) 5000 1 := oneF_ok (by rw [List.length_take]; omega) (by omega)
    have hsl := sortS_len (sayB b).2.1
    have hsame := same17_d (sortS (sayB b).2.1) (sortS (sayB b).2.1) (by omega)
    rw [decide_eq_true rfl] at hsame
    simp only [logO, saysO, diskO, List.cons_append, List.nil_append]
    refine WK ?_; try with_reducible exact trivial
    refine dfun hsame fun n7 g8 => ?_
    refine WK ?_; try with_reducible exact trivial
    refine dactn d (synced_a (oneF (b.take (sayB b).2.2)) 5000 lgN (j := 0) (f := (lgN, b.take (sayB b).2.2, (b.take (sayB b).2.2).length)) hk2.small (by decide) (find_one _ _) rfl (Nat.le_refl _)) (by omega) (by (repeat rw [rget_there (by omega)]); exact rget_here _ _ _) (by simp only [List.mem_cons, List.not_mem_nil, or_false, not_false_eq_true]; try omega) fun c n8 g9 g10 => ?_
    dsimp only
    rw [List.take_length]
    simp only [diskO]
    refine WK ?_; try with_reducible exact trivial
    refine dcallR [x, s, d] (rin := [(x, logO d s), (s, saysO (sayB b).1 (sayB b).2.1), (d, diskO (oneF (b.take (sayB b).2.2)) 5000)]) (rest := [(c, bytesO (b.take (sayB b).2.2))]) (by simp only [logO, saysO, diskO]; simp -dsimp (disch := omega) only [rpick, rget_here, rget_there, rdel_here, rdel_there]; try rfl) (promised_l xs (by omega) (by omega)) (by simp) fun _ _ n9 g11 ⟨e1, e2⟩ => ?_
    subst e1; subst e2
    simp only [logO, saysO, diskO, List.cons_append, List.nil_append]
    refine WK ?_; try with_reducible exact trivial
    refine dcallR [x, s, d] (rin := [(x, logO d s), (s, saysO (sayB b).1 (sayB b).2.1), (d, diskO (oneF (b.take (sayB b).2.2)) 5000)]) (rest := [(c, bytesO (b.take (sayB b).2.2))]) (by simp only [logO, saysO, diskO]; simp -dsimp (disch := omega) only [rpick, rget_here, rget_there, rdel_here, rdel_there]; try rfl) (votes_l h1 (by omega) (by omega) (by omega) (by omega) xs (by omega) (by omega)) (by simp) fun _ _ n10 g12 ⟨q, q1, q2, e1, e2⟩ => ?_
    subst e1; subst e2
    simp only [logO, saysO, diskO, votesO, List.cons_append, List.nil_append]
    refine WK ?_; try with_reducible exact trivial
    refine dcall_frz q (t' := .mk _) (by (repeat rw [rget_there (by omega)]); exact rget_here _ _ _) (votesC_plain _) (by simp only [List.mem_cons, List.not_mem_nil, or_false, not_false_eq_true]; try omega) ?_
    refine WK ?_; try with_reducible exact trivial
    refine dfun hsame fun n11 g13 => ?_
    refine WK ?_; try with_reducible exact trivial
    refine dcall_frz c (t' := .mk _) (by (repeat rw [rget_there (by omega)]); exact rget_here _ _ _) bDs_plain (by simp only [List.mem_cons, List.not_mem_nil, or_false, not_false_eq_true]; try omega) ?_
    refine WK ?_; try with_reducible exact trivial
    rw [sl_take b (sayB b).2.2 h5]
    refine dfun (show DFun Try.prog f_ref01_Same [bytesD (b.take (sayB b).2.2), bytesD (b.take (sayB b).2.2)] (boolD true) by have := same01_d (b.take (sayB b).2.2) (b.take (sayB b).2.2); rwa [decide_eq_true rfl] at this) fun n12 g14 => ?_
    refine WK ?_; try with_reducible exact trivial
    exact dret0 ⟨rfl, rfl⟩
end Go.Proofs.Ytgpkbldlkadnjaa
end
section
/- Law LogCompacts over data. -/
set_option linter.unusedVariables false
set_option linter.unusedSimpArgs false
set_option maxHeartbeats 3000000
attribute [local irreducible] Go.Sl.Chk Go.Sl.Br Go.Sl.Or2 Go.Sl.Ld Go.Sl.Ldn Go.Sl.LdB Go.Sl.Stn Go.Sl.New Go.Sl.Run Go.Sl.RunU Go.Sl.RunX Go.Sl.Call Go.Sl.LoopK Go.Sl.RawK Go.Sl.Alt Go.Sl.Om Go.Sl.xpk Go.Sl.xgpk Go.Sl.xglk Go.Sl.DLd Go.Sl.DLdG Go.Sl.DBs Go.Sl.DCall Go.Sl.DApp Go.Sl.DGen Go.Sl.DGenU Go.Sl.DGC Go.Sl.DLoop Go.Sl.DRaw Go.Sl.DRet Go.Sl.Ent Go.Sl.dget Go.Sl.dv Go.Sl.ev Go.Sl.eget
namespace Go.Proofs.Ytgpkbldlkadnjaa
open Go Go.Sl Go.RowKit
theorem few18_spec {l : List LAct} (h : few18 l = true) : l.length ≤ 40 ∧ ∀ a ∈ l, a.vote.bytes.length ≤ 600 ∧ a.keep.length ≤ 10 := by
  unfold few18 at h
  rw [Bool.and_eq_true, decide_eq_true_eq] at h
  refine ⟨h.2, fun a ha => ?_⟩
  have := h.1
  rw [List.take_of_length_le (by omega), List.all_eq_true] at this
  simpa [fewA] using this a ha
/-- the state of a log on a disk: its records, what they say, the files -/
structure LogSt (most : Nat) (l : LL) (p : Nat) (vs : List VoteS) (fs : List FileS) : Prop where
  log : LogOk l p vs
  disk : OnDisk fs (frames l)
theorem st_promise {most : Nat} {l : LL} {p : Nat} {vs : List VoteS} {fs : List FileS} (h : LogSt most l p vs fs) (b : Int) (hm : (frames l).length + 20 ≤ most) :
    ∃ l', LogSt most l' (promP fs most p vs b).1 (promP fs most p vs b).2 (promF fs most p b) ∧ (frames l').length ≤ (frames l).length + 20 ∧ p ≤ (promP fs most p vs b).1 ∧ (promP fs most p vs b).2 = vs := by
  by_cases hp : promOk p b
  · obtain ⟨⟨h1, h2⟩, h3⟩ := hp
    have ho := od_add h.disk (most := most) (rec := promiseB b.toNat) (by rw [promiseB_len]; omega)
    have hb : 1 ≤ b.toNat ∧ b.toNat ≤ 2147483647 := by omega
    have hl := log_promise h.log hb
    have e1 : promF fs most p b = oneF (frames l ++ frameB (promiseB b.toNat)) := by rw [promF, if_pos ⟨⟨h1, h2⟩, h3⟩, ho.2]
    have e2 : promP fs most p vs b = takeS p vs (.promise b.toNat) := by rw [promP, if_pos ⟨⟨h1, h2⟩, h3⟩, addS_ok ho.1, getV_promiseB hb]
    rw [e1, e2]
    refine ⟨l ++ [promiseB b.toNat], ⟨hl, .inl ?_⟩, ?_, ?_, rfl⟩
    · rw [frames_append, frames_one]
    · rw [frames_append, frames_one, List.length_append, frameB_len, promiseB_len]; omega
    · simp only [takeS]; omega
  · rw [promP, if_neg hp, promF, if_neg hp]
    exact ⟨l, h, by omega, Nat.le_refl _, rfl⟩
theorem voteB_size {v : VoteS} (h : RightV v) : (voteB v).length ≤ 544 := by
  have := h.2.2.2.2.2
  simp only [voteB, textB, List.length_append, numB_length]
  omega
theorem st_vote {most : Nat} {l : LL} {p : Nat} {vs : List VoteS} {fs : List FileS} (h : LogSt most l p vs fs) (v : VoteS) (hm : (frames l).length + 556 ≤ most) :
    ∃ l', LogSt most l' (voteP fs most p vs v).1 (voteP fs most p vs v).2 (voteF fs most p v) ∧ (frames l').length ≤ (frames l).length + 556 ∧ p ≤ (voteP fs most p vs v).1 ∧ (voteP fs most p vs v).2.length ≤ vs.length + 1 := by
  by_cases hp : RightV v ∧ (p : Int) ≤ v.ballot
  · have hs := voteB_size hp.1
    have ho := od_add h.disk (most := most) (rec := voteB v) (by omega)
    have hl := log_vote h.log hp.1
    have e1 : voteF fs most p v = oneF (frames l ++ frameB (voteB v)) := by rw [voteF, if_pos hp, ho.2]
    have e2 : voteP fs most p vs v = takeS p vs (.vote v) := by rw [voteP, if_pos hp, addS_ok ho.1, getV_voteB hp.1]
    rw [e1, e2]
    refine ⟨l ++ [voteB v], ⟨hl, .inl ?_⟩, ?_, ?_, take_len _ _ _⟩
    · rw [frames_append, frames_one]
    · rw [frames_append, frames_one, List.length_append, frameB_len]; omega
    · simp only [takeS]; omega
  · rw [voteP, if_neg hp, voteF, if_neg hp]
    exact ⟨l, h, by omega, Nat.le_refl _, by simp⟩
theorem comp_frames (p : Nat) (vs : List VoteS) : compB p vs = frames (recsL p vs) := rfl
theorem st_comp {most : Nat} {l : LL} {p : Nat} {vs : List VoteS} {fs : List FileS} (h : LogSt most l p vs fs) (hm : (frames l).length + ((frames l).length + 20) ≤ most) :
    compE fs most p vs = 0 ∧ compF fs most p vs = oneF (compB p vs) ∧ LogSt most (recsL p vs) p (sortS vs) (oneF (compB p vs)) ∧ (compB p vs).length ≤ (frames l).length + 20 := by
  obtain ⟨h1, h2⟩ := log_comp h.log
  rw [← comp_frames] at h2
  obtain ⟨e1, e2⟩ := od_comp h.disk (most := most) (p := p) (vs := vs) (by omega)
  exact ⟨e1, e2, ⟨h1, .inl rfl⟩, h2⟩
theorem compB_sort {p : Nat} {vs : List VoteS} (hn : (slots vs).Nodup) : compB p (sortS vs) = compB p vs := by
  unfold compB recsL
  rw [sortS_sortS hn]
set_option maxRecDepth 100000 in
theorem logCompacts_d (l : List LAct) (hl : l.length ≤ 140737488351232 ∧ ∀ a ∈ l, a.ok) : DFun Try.prog f_law18_LogCompacts [lactsD l] (boolD true) := by
  intro nx
  refine xcalls c_law18_LogCompacts (by simp only [m_law18_LogCompacts, List.length]; decide) ?_
  simp only [m_law18_LogCompacts]; refine WK ?_; try with_reducible exact trivial
  refine dfun awake18_d fun n1 g1 => ?_
  refine WK ?_; try with_reducible exact trivial
  refine dfun (few18_d l hl.2 hl.1) fun n2 g2 => ?_
  cases hfew : few18 l with
  | false =>
    refine WK ?_; try with_reducible exact trivial
    refine dfun awake18_d fun n3 g3 => ?_
    refine WK ?_; try with_reducible exact trivial
    exact dret0 ⟨rfl, rfl⟩
  | true =>
  obtain ⟨hl40, hsm⟩ := few18_spec hfew
  refine WK ?_; try with_reducible exact trivial
  refine dnew (new_o 65536 ⟨by omega, by omega⟩) fun d n3 g3 g4 => ?_
  rw [show (min (max (65536 : Int) 0) 65536).toNat = 65536 from rfl]
  have hk0 : DOk ([] : List FileS) 65536 0 := ⟨fun f hf => by simp at hf, fun f hf => by simp at hf, by simp [usedN], List.nodup_nil, by simp, fun f hf => by simp at hf⟩
  simp only [diskO]
  refine WK ?_; try with_reducible exact trivial
  refine dcallR [d] (rpick_one (t := diskO [] 65536) (by (repeat rw [rget_there (by omega)]); exact rget_here _ _ _)) (open_l hk0 (by omega) (by omega)) (by simp) fun _ _ n4 g5 ⟨x, s, x1, x2, s1, s2, xs, e1, e2⟩ => ?_
  subst e1; subst e2
  rw [show openF [] = [] from rfl, show sayB (logB []) = (0, [], 0) from rfl]
  simp only [logO, saysO, diskO, List.cons_append, List.nil_append]
  refine WK ?_; try with_reducible exact trivial
  refine dloop [0, 3, 4, 5] (fun t : Nat × LL × Nat × List VoteS × List FileS × Nat => ([(0, lactsD l), (3, .hp d 0), (4, .hp x 0), (5, iD (t.1 : Nat))], [(x, logO d s), (s, saysO t.2.2.1 t.2.2.2.1), (d, diskO t.2.2.2.2.1 65536)], t.2.2.2.2.2)) (fun t => t.1 ≤ l.length ∧ LogSt 65536 t.2.1 t.2.2.1 t.2.2.2.1 t.2.2.2.2.1 ∧ (frames t.2.1).length ≤ 600 * t.1 ∧ t.2.2.2.1.length ≤ t.1 ∧ n4 ≤ t.2.2.2.2.2) (fun t => l.length - t.1) (0, [], 0, [], [], n4) ⟨by omega, ⟨log_nil, .inr ⟨rfl, rfl⟩⟩, by simp [frames], by simp, by dsimp only; omega⟩ (Ent.of (by with_unfolding_all rfl) rfl) ?_
  rintro ⟨k, L, p, vs, fs, n⟩ ⟨q1, q2, q3, q4, q5⟩
  dsimp only at q1 q2 q3 q4 q5 ⊢
  have ho := od_ok q2.disk (most := 65536) (by omega) (by omega)
  simp only [logO, saysO, diskO]
  refine WK ?_; try with_reducible exact trivial
  refine brd (fun hlt => ?_) (fun hge => ?_)
  · have hkl : k < l.length := by omega
    have e1 := lacts_get l (j := k) (k := 1) hkl (by omega)
    have e2 := lacts_vote l hkl
    have h8 : 5 ≤ (((lactsC l).drop (k * 8)).drop 2).length := by rw [List.length_drop, List.length_drop, lactsC, flat_len' lactC_len]; omega
    rw [← List.drop_drop] at e2
    simp only [lactC, voteC, List.cons_append, List.nil_append, List.getElem?_cons_succ, List.getElem?_cons_zero] at e1
    refine WKX @e1 ?_; try with_reducible exact trivial
    refine dcallR [x, s, d] (rin := [(x, logO d s), (s, saysO p vs), (d, diskO fs 65536)]) (rest := []) (by simp only [logO, saysO, diskO]; simp -dsimp (disch := omega) only [rpick, rget_here, rget_there, rdel_here, rdel_there]; try rfl) (promise_l (b := (gt l k).ballot) ho (by omega) q2.log.right q2.log.le (by omega) (by omega) (by omega) xs (by omega) (by omega)) (by simp) fun _ _ n5 g6 ⟨e3, e4⟩ => ?_
    subst e3; subst e4
    obtain ⟨L', z1, z2, z3, z4⟩ := st_promise q2 (gt l k).ballot (by omega)
    generalize promP fs 65536 p vs (gt l k).ballot = P at *
    generalize promF fs 65536 p (gt l k).ballot = fs' at *
    obtain ⟨p', vs'⟩ := P
    dsimp only at z1 z3 z4 ⊢
    subst z4
    have ho2 := od_ok z1.disk (most := 65536) (by omega) (by omega)
    simp only [logO, saysO, diskO, List.cons_append, List.nil_append]
    refine WKX @e2 ?_; try with_reducible exact trivial
    refine dcallR [x, s, d] (rin := [(x, logO d s), (s, saysO p' vs'), (d, diskO fs' 65536)]) (rest := []) (by simp only [logO, saysO, diskO]; simp -dsimp (disch := omega) only [rpick, rget_here, rget_there, rdel_here, rdel_there]; try rfl) (vote_l (v := (gt l k).vote) ho2 (by omega) z1.log.right z1.log.le (by omega) (by omega) (by omega) xs (by omega) (by omega)) (by simp) fun _ _ n6 g7 ⟨e3, e4⟩ => ?_
    subst e3; subst e4
    obtain ⟨L2, y1, y2, y3, y4⟩ := st_vote z1 (gt l k).vote (by omega)
    generalize voteP fs' 65536 p' vs' (gt l k).vote = P at *
    generalize voteF fs' 65536 p' (gt l k).vote = fs2 at *
    obtain ⟨p2, vs2⟩ := P
    dsimp only at y1 y3 y4 ⊢
    simp only [logO, saysO, diskO, List.cons_append, List.nil_append]
    refine WK ?_; try with_reducible exact trivial
    exact ⟨(k + 1, L2, p2, vs2, fs2, n6), ⟨by dsimp only; omega, y1, by dsimp only; omega, by dsimp only; omega, by dsimp only; omega⟩, by dsimp only; omega, (Ent.of (by with_unfolding_all rfl) rfl)⟩
  · obtain rfl : k = l.length := by omega
    have hsl := sortS_len vs
    obtain ⟨c1, c2, c3, c4⟩ := st_comp q2 (by omega)
    have c5 := sortS_sortS q2.log.nodup
    have c6 := compB_sort (p := p) q2.log.nodup
    obtain ⟨d1, d2, d3, d4⟩ := st_comp c3 (by rw [← comp_frames]; omega)
    rw [← comp_frames] at d4
    rw [c6] at d2 d3 d4
    have hlb := od_logB q2.disk
    have ho2 := od_ok c3.disk (most := 65536) (by rw [← comp_frames]; omega) (by omega)
    have hsame := same17_d (sortS vs) (sortS vs) (by omega)
    rw [decide_eq_true rfl] at hsame
    refine WK ?_; try with_reducible exact trivial
    refine dcallR [x, s, d] (rin := [(x, logO d s), (s, saysO p vs), (d, diskO fs 65536)]) (rest := []) (by simp only [logO, saysO, diskO]; simp -dsimp (disch := omega) only [rpick, rget_here, rget_there, rdel_here, rdel_there]; try rfl) (promised_l xs (by omega) (by omega)) (by simp) fun _ _ n5 g6 ⟨e1, e2⟩ => ?_
    subst e1; subst e2
    simp only [logO, saysO, diskO, List.cons_append, List.nil_append]
    refine WK ?_; try with_reducible exact trivial
    refine dcallR [x, s, d] (rin := [(x, logO d s), (s, saysO p vs), (d, diskO fs 65536)]) (rest := []) (by simp only [logO, saysO, diskO]; simp -dsimp (disch := omega) only [rpick, rget_here, rget_there, rdel_here, rdel_there]; try rfl) (votes_l q2.log.right (by omega) (by omega) (by omega) (by omega) xs (by omega) (by omega)) (by simp) fun _ _ n6 g7 ⟨q, t1, t2, e1, e2⟩ => ?_
    subst e1; subst e2
    simp only [logO, saysO, diskO, votesO, List.cons_append, List.nil_append]
    refine WK ?_; try with_reducible exact trivial
    refine dcallR [x, s, d] (rin := [(x, logO d s), (s, saysO p vs), (d, diskO fs 65536)]) (rest := [(q, votesO (sortS vs))]) (by simp only [logO, saysO, diskO, votesO]; simp -dsimp (disch := omega) only [rpick, rget_here, rget_there, rdel_here, rdel_there]; try rfl) (size_l ho (by omega) (by omega) (by omega) (by omega) xs (by omega) (by omega)) (by simp) fun _ _ n7 g8 ⟨e1, e2⟩ => ?_
    subst e1; subst e2
    rw [hlb]
    simp only [logO, saysO, diskO, votesO, List.cons_append, List.nil_append]
    refine WK ?_; try with_reducible exact trivial
    refine dcallR [x, s, d] (rin := [(x, logO d s), (s, saysO p vs), (d, diskO fs 65536)]) (rest := [(q, votesO (sortS vs))]) (by simp only [logO, saysO, diskO, votesO]; simp -dsimp (disch := omega) only [rpick, rget_here, rget_there, rdel_here, rdel_there]; try rfl) (compact_l ho (by omega) q2.log.right q2.log.le (by omega) (by omega) (by omega) (by omega) xs (by omega) (by omega)) (by simp) fun _ _ n8 g9 ⟨e1, e2⟩ => ?_
    subst e1; subst e2
    rw [c1, c2]
    simp only [logO, saysO, diskO, votesO, List.cons_append, List.nil_append]
    refine WK ?_; try with_reducible exact trivial
    refine dactn d (read_a (oneF (compB p vs)) 65536 lgN (j := 0) (f := (lgN, compB p vs, (compB p vs).length)) ho2.small (by decide) (find_one _ _) rfl) (by omega) (by (repeat rw [rget_there (by omega)]); exact rget_here _ _ _) (by simp only [List.mem_cons, List.not_mem_nil, or_false, not_false_eq_true]; try omega) fun a n9 g10 g11 => ?_
    dsimp only
    simp only [diskO]
    refine WK ?_; try with_reducible exact trivial
    refine dcallR [d] (rpick_one (t := diskO (oneF (compB p vs)) 65536) (by (repeat rw [rget_there (by omega)]); exact rget_here _ _ _)) (open_l ho2 (by omega) (by omega)) (by simp) fun _ _ n10 g12 ⟨y, t, y1, y2, t3, t4, yt, e1, e2⟩ => ?_
    subst e1; subst e2
    have hsay := log_say c3.log
    rw [← comp_frames] at hsay
    rw [logB_one, hsay, openF_one (by rw [hsay])]
    dsimp only
    simp only [logO, saysO, diskO, List.cons_append, List.nil_append]
    refine WK ?_; try with_reducible exact trivial
    refine dcallR [y, t, d] (rin := [(y, logO d t), (t, saysO p (sortS vs)), (d, diskO (oneF (compB p vs)) 65536)]) (rest := [(a, bytesO (compB p vs)), (x, logO d s), (s, saysO p vs), (q, votesO (sortS vs))]) (by simp only [logO, saysO, diskO, votesO]; simp -dsimp (disch := omega) only [rpick, rget_here, rget_there, rdel_here, rdel_there]; try rfl) (promised_l yt (by omega) (by omega)) (by simp) fun _ _ n11 g13 ⟨e1, e2⟩ => ?_
    subst e1; subst e2
    simp only [logO, saysO, diskO, votesO, List.cons_append, List.nil_append]
    refine WK ?_; try with_reducible exact trivial
    refine dcallR [y, t, d] (rin := [(y, logO d t), (t, saysO p (sortS vs)), (d, diskO (oneF (compB p vs)) 65536)]) (rest := [(a, bytesO (compB p vs)), (x, logO d s), (s, saysO p vs), (q, votesO (sortS vs))]) (by simp only [logO, saysO, diskO, votesO]; simp -dsimp (disch := omega) only [rpick, rget_here, rget_there, rdel_here, rdel_there]; try rfl) (votes_l c3.log.right (by omega) (by omega) (by omega) (by omega) yt (by omega) (by omega)) (by simp) fun _ _ n12 g14 ⟨q', t5, t6, e1, e2⟩ => ?_
    subst e1; subst e2
    rw [c5]
    simp only [logO, saysO, diskO, votesO, List.cons_append, List.nil_append]
    refine WK ?_; try with_reducible exact trivial
    refine dcall_frz q' (t' := .mk _) (by (repeat rw [rget_there (by omega)]); exact rget_here _ _ _) (votesC_plain _) (by simp only [List.mem_cons, List.not_mem_nil, or_false, not_false_eq_true]; try omega) ?_
    refine WK ?_; try with_reducible exact trivial
    refine dcall_frz q (t' := .mk _) (by (repeat rw [rget_there (by omega)]); exact rget_here _ _ _) (votesC_plain _) (by simp only [List.mem_cons, List.not_mem_nil, or_false, not_false_eq_true]; try omega) ?_
    refine WK ?_; try with_reducible exact trivial
    refine dfun hsame fun n13 g15 => ?_
    refine WK ?_; try with_reducible exact trivial
    refine dcallR [y, t, d] (rin := [(y, logO d t), (t, saysO p (sortS vs)), (d, diskO (oneF (compB p vs)) 65536)]) (rest := [(q', votesD (sortS vs)), (a, bytesO (compB p vs)), (x, logO d s), (s, saysO p vs), (q, votesD (sortS vs))]) (by simp only [logO, saysO, diskO, votesO]; simp -dsimp (disch := omega) only [rpick, rget_here, rget_there, rdel_here, rdel_there]; try rfl) (size_l ho2 (by omega) (by omega) (by omega) (by omega) yt (by omega) (by omega)) (by simp) fun _ _ n14 g16 ⟨e1, e2⟩ => ?_
    subst e1; subst e2
    rw [logB_one]
    simp only [logO, saysO, diskO, votesO, List.cons_append, List.nil_append]
    refine WK ?_; try with_reducible exact trivial
    refine dcallR [y, t, d] (rin := [(y, logO d t), (t, saysO p (sortS vs)), (d, diskO (oneF (compB p vs)) 65536)]) (rest := [(q', votesD (sortS vs)), (a, bytesO (compB p vs)), (x, logO d s), (s, saysO p vs), (q, votesD (sortS vs))]) (by simp only [logO, saysO, diskO, votesO]; simp -dsimp (disch := omega) only [rpick, rget_here, rget_there, rdel_here, rdel_there]; try rfl) (compact_l ho2 (by omega) c3.log.right c3.log.le (by omega) (by omega) (by omega) (by omega) yt (by omega) (by omega)) (by simp) fun _ _ n15 g17 ⟨e1, e2⟩ => ?_
    subst e1; subst e2
    rw [d1, d2]
    simp only [logO, saysO, diskO, votesO, List.cons_append, List.nil_append]
    refine WK ?_; try with_reducible exact trivial
    refine dactn d (read_a (oneF (compB p vs)) 65536 lgN (j := 0) (f := (lgN, compB p vs, (compB p vs).length)) ho2.small (by decide) (find_one _ _) rfl) (by omega) (by (repeat rw [rget_there (by omega)]); exact rget_here _ _ _) (by simp only [List.mem_cons, List.not_mem_nil, or_false, not_false_eq_true]; try omega) fun a2 n16 g18 g19 => ?_
    dsimp only
    simp only [diskO]
    refine WK ?_; try with_reducible exact trivial
    refine dcall_frz a (t' := .mk _) (by (repeat rw [rget_there (by omega)]); exact rget_here _ _ _) bDs_plain (by simp only [List.mem_cons, List.not_mem_nil, or_false, not_false_eq_true]; try omega) ?_
    refine WK ?_; try with_reducible exact trivial
    refine dcall_frz a2 (t' := .mk _) (by (repeat rw [rget_there (by omega)]); exact rget_here _ _ _) bDs_plain (by simp only [List.mem_cons, List.not_mem_nil, or_false, not_false_eq_true]; try omega) ?_
    refine WK ?_; try with_reducible exact trivial
    refine dfun (show DFun Try.prog f_ref01_Same [bytesD (compB p vs), bytesD (compB p vs)] (boolD true) by have := same01_d (compB p vs) (compB p vs); rwa [decide_eq_true rfl] at this) fun n17 g20 => ?_
    refine WK ?_; try with_reducible exact trivial
    refine dactn d (names_a (oneF (compB p vs)) 65536 ho2.small (by simp [oneF])) (by omega) (by (repeat rw [rget_there (by omega)]); exact rget_here _ _ _) (by simp only [List.mem_cons, List.not_mem_nil, or_false, not_false_eq_true]; try omega) fun k1 n18 g21 g22 => ?_
    simp only [diskO, strsO]
    rw [namesL_len, show (oneF (compB p vs)).length = 1 from rfl]
    refine WK ?_; try with_reducible exact trivial
    exact dret0 ⟨rfl, rfl⟩
end Go.Proofs.Ytgpkbldlkadnjaa
end
section
/- Law LogSynced over data. -/
set_option linter.unusedVariables false
set_option linter.unusedSimpArgs false
set_option maxHeartbeats 3000000
attribute [local irreducible] Go.Sl.Chk Go.Sl.Br Go.Sl.Or2 Go.Sl.Ld Go.Sl.Ldn Go.Sl.LdB Go.Sl.Stn Go.Sl.New Go.Sl.Run Go.Sl.RunU Go.Sl.RunX Go.Sl.Call Go.Sl.LoopK Go.Sl.RawK Go.Sl.Alt Go.Sl.Om Go.Sl.xpk Go.Sl.xgpk Go.Sl.xglk Go.Sl.DLd Go.Sl.DLdG Go.Sl.DBs Go.Sl.DCall Go.Sl.DApp Go.Sl.DGen Go.Sl.DGenU Go.Sl.DGC Go.Sl.DLoop Go.Sl.DRaw Go.Sl.DRet Go.Sl.Ent Go.Sl.dget Go.Sl.dv Go.Sl.ev Go.Sl.eget
namespace Go.Proofs.Ytgpkbldlkadnjaa
open Go Go.Sl Go.RowKit
/-- a log on a disk, beside the votes that are kept: they are told alike -/
structure LogMem (most : Nat) (l : LL) (p : Nat) (vs vl : List VoteS) (fs : List FileS) : Prop where
  st : LogSt most l p vl fs
  same : sortS vs = sortS vl
  right : Right1 vs
  nodup : (slots vs).Nodup
theorem voteP_mem {most : Nat} {p : Nat} {vs vl : List VoteS} {fs : List FileS} (v : VoteS) (hs : sortS vs = sortS vl) (hr : Right1 vs) (hn : (slots vs).Nodup) (hn2 : (slots vl).Nodup) :
    (voteP fs most p vs v).1 = (voteP fs most p vl v).1 ∧ sortS (voteP fs most p vs v).2 = sortS (voteP fs most p vl v).2 ∧ Right1 (voteP fs most p vs v).2 ∧ (slots (voteP fs most p vs v).2).Nodup ∧ (voteP fs most p vs v).2.length ≤ vs.length + 1 := by
  by_cases hp : RightV v ∧ (p : Int) ≤ v.ballot
  · rw [voteP, if_pos hp, voteP, if_pos hp]
    unfold addS
    split
    · rw [getV_voteB hp.1]
      simp only [takeS]
      refine ⟨trivial, ?_, ?_, put_slots hn, put_len _ _⟩
      · rw [← addR_sort hn, ← addR_sort hn2, hs]
      · intro u hu
        rcases put_mem hu with h | rfl
        · exact hr u h
        · exact hp.1
    · exact ⟨rfl, hs, hr, hn, by simp⟩
  · rw [voteP, if_neg hp, voteP, if_neg hp]
    exact ⟨rfl, hs, hr, hn, by simp⟩
theorem mem_vote {most : Nat} {l : LL} {p : Nat} {vs vl : List VoteS} {fs : List FileS} (h : LogMem most l p vs vl fs) (v : VoteS) (hm : (frames l).length + 556 ≤ most) :
    ∃ l' vl', LogMem most l' (voteP fs most p vs v).1 (voteP fs most p vs v).2 vl' (voteF fs most p v) ∧ (frames l').length ≤ (frames l).length + 556 ∧ p ≤ (voteP fs most p vs v).1 ∧ (voteP fs most p vs v).2.length ≤ vs.length + 1 := by
  obtain ⟨l', z1, z2, z3, z4⟩ := st_vote h.st v hm
  obtain ⟨y1, y2, y3, y4, y5⟩ := voteP_mem (fs := fs) (most := most) (p := p) v h.same h.right h.nodup h.st.log.nodup
  rw [← y1] at z1 z3
  exact ⟨l', _, ⟨z1, y2, y3, y4⟩, z2, z3, y5⟩
theorem promP_mem {most p : Nat} {vs vl : List VoteS} {fs : List FileS} (b : Int) : (promP fs most p vs b).1 = (promP fs most p vl b).1 ∧ (promP fs most p vs b).2 = vs := by
  by_cases hp : promOk p b
  · have hb : 1 ≤ b.toNat ∧ b.toNat ≤ 2147483647 := by have := hp.1; omega
    rw [promP, if_pos hp, promP, if_pos hp]
    unfold addS
    split
    · rw [getV_promiseB hb]
      exact ⟨rfl, rfl⟩
    · exact ⟨rfl, rfl⟩
  · rw [promP, if_neg hp, promP, if_neg hp]
    exact ⟨rfl, rfl⟩
theorem mem_promise {most : Nat} {l : LL} {p : Nat} {vs vl : List VoteS} {fs : List FileS} (h : LogMem most l p vs vl fs) (b : Int) (hm : (frames l).length + 20 ≤ most) :
    ∃ l', LogMem most l' (promP fs most p vs b).1 (promP fs most p vs b).2 vl (promF fs most p b) ∧ (frames l').length ≤ (frames l).length + 20 ∧ p ≤ (promP fs most p vs b).1 ∧ (promP fs most p vs b).2 = vs := by
  obtain ⟨l', z1, z2, z3, z4⟩ := st_promise h.st b hm
  obtain ⟨y1, y2⟩ := promP_mem (fs := fs) (most := most) (p := p) (vs := vs) (vl := vl) b
  rw [← y1] at z1 z3
  rw [z4] at z1
  exact ⟨l', ⟨z1, by rw [y2]; exact h.same, by rw [y2]; exact h.right, by rw [y2]; exact h.nodup⟩, z2, z3, y2⟩
theorem recsL_same {p : Nat} {vs vl : List VoteS} (h : sortS vs = sortS vl) : recsL p vs = recsL p vl := by unfold recsL; rw [h]
theorem mem_comp {most : Nat} {l : LL} {p : Nat} {vs vl : List VoteS} {fs : List FileS} (h : LogMem most l p vs vl fs) (hm : (frames l).length + ((frames l).length + 20) ≤ most) :
    compE fs most p vs = 0 ∧ LogMem most (recsL p vs) p vs (sortS vl) (compF fs most p vs) ∧ (frames (recsL p vs)).length ≤ (frames l).length + 20 := by
  have e : compB p vs = compB p vl := by unfold compB; rw [recsL_same h.same]
  obtain ⟨c1, c2, c3, c4⟩ := st_comp h.st hm
  refine ⟨by unfold compE at c1 ⊢; rw [e]; exact c1, ⟨?_, ?_, h.right, h.nodup⟩, by rw [recsL_same h.same]; rw [comp_frames] at c4; exact c4⟩
  · have : compF fs most p vs = oneF (compB p vl) := by unfold compF at c2 ⊢; rw [e]; exact c2
    rw [this, recsL_same h.same]
    exact c3
  · rw [sortS_sortS h.st.log.nodup]; exact h.same
theorem app_torn {fs : List FileS} {B T : Bs} {most : Nat} (h : OnDisk fs B) (hm : B.length + T.length ≤ most) : appF fs most lgN T = [(lgN, B ++ T, B.length)] := by
  rcases h with rfl | ⟨rfl, rfl⟩
  · unfold appF
    rw [named_lg, if_neg (by decide), if_neg (by simp [usedN, oneF]; omega)]
    unfold oneF
    rw [find_one]
    rfl
  · unfold appF
    rw [named_lg, if_neg (by decide), if_neg (by simp [usedN]; simp only [List.length_nil] at hm; omega)]
    rfl
theorem torn_ok {B T : Bs} {most : Nat} (hm : B.length + T.length ≤ most) (h6 : most ≤ 65536) : DOk [(lgN, B ++ T, B.length)] most 1 :=
  ⟨fun f hf => by simp only [List.mem_singleton] at hf; subst hf; exact ⟨by show lgN.length ≤ 1000; decide, by dsimp only; rw [List.length_append]; omega⟩,
   fun f hf => by simp only [List.mem_singleton] at hf; subst hf; dsimp only; rw [List.length_append]; omega, by simp [usedN]; omega, by simp [namesF], by simp,
   fun f hf => by simp only [List.mem_singleton] at hf; subst hf; show lgN.length ≤ 24; decide⟩
theorem crash_torn {B T : Bs} {most : Nat} (keep : List Int) (hk : DOk [(lgN, B ++ T, B.length)] most 1) : ∃ m, crashF [(lgN, B ++ T, B.length)] keep = [(lgN, B ++ T.take m, B.length + m)] ∧ m ≤ T.length := by
  obtain ⟨m, m1, m2, m3⟩ := crashF_spec keep hk.nodup hk.sync (j := 0) (f := (lgN, B ++ T, B.length)) rfl
  dsimp only at m1 m2 m3
  rw [List.length_append] at m2
  have hl : (crashF [(lgN, B ++ T, B.length)] keep).length = 1 := crashN_len _ _ _
  refine ⟨m - B.length, ?_, by omega⟩
  match hc : crashF [(lgN, B ++ T, B.length)] keep, hl with
  | [g], _ =>
    rw [hc] at m3
    simp only [List.getElem?_cons_zero, Option.some.injEq] at m3
    rw [m3, List.take_append, List.take_of_length_le (by omega), show B.length + (m - B.length) = m by omega]
theorem open_torn {B X : Bs} {k : Nat} (hb : (sayB (B ++ X)).2.2 = B.length) (hk : B.length ≤ k) : openF [(lgN, B ++ X, k)] = oneF B := by
  unfold openF
  rw [find_one]
  dsimp only
  rw [show logB [(lgN, B ++ X, k)] = B ++ X by unfold logB; rw [find_one]; rfl, hb]
  have e : trimF [(lgN, B ++ X, k)] lgN (B.length : Nat) = [(lgN, B, B.length)] := by
    unfold trimF
    rw [find_one]
    dsimp only
    rw [show ([(lgN, B ++ X, k)] : List FileS).getD 0 default = (lgN, B ++ X, k) from rfl]
    dsimp only
    rw [if_pos ⟨by omega, by rw [List.length_append]; omega⟩, Int.toNat_natCast, Nat.min_eq_right hk, List.take_append, List.take_of_length_le (Nat.le_refl _), Nat.sub_self, List.take_zero, List.append_nil]
    rfl
  rw [e]
  unfold syncF
  rw [find_one]
  rfl
set_option maxRecDepth 100000 in
theorem logSynced_d (l : List LAct) (hl : l.length ≤ 140737488351232 ∧ ∀ a ∈ l, a.ok) (torn : Bs) (ht : torn.length ≤ 140737488351232) (keep : List Int) (hk : keep.length ≤ 140737488351232 ∧ ∀ z ∈ keep, -9223372036854775808 ≤ z ∧ z ≤ 9223372036854775807) : DFun Try.prog f_law18_LogSynced [lactsD l, bytesD torn, intsD keep] (boolD true) := by
  intro nx
  refine xcalls c_law18_LogSynced (by simp only [m_law18_LogSynced, List.length]; decide) ?_
  simp only [m_law18_LogSynced]; refine WK ?_; try with_reducible exact trivial
  refine dfun awake18_d fun n1 g1 => ?_
  refine WK ?_; try with_reducible exact trivial
  refine dfun (few18_d l hl.2 hl.1) fun n2 g2 => ?_
  cases hfew : few18 l with
  | false =>
    refine WK ?_; try with_reducible exact trivial
    refine dfun awake18_d fun n3 g3 => ?_
    refine WK ?_; try with_reducible exact trivial
    exact dret0 ⟨rfl, rfl⟩
  | true =>
  obtain ⟨hl40, hsm⟩ := few18_spec hfew
  rcases (by omega : 500 < torn.length ∨ (torn.length ≤ 500 ∧ 10 < keep.length) ∨ (torn.length ≤ 500 ∧ keep.length ≤ 10)) with hz | ⟨hz, hz2⟩ | ⟨hz, hz2⟩
  · refine WK ?_; try with_reducible exact trivial
    refine dfun awake18_d fun n3 g3 => ?_
    refine WK ?_; try with_reducible exact trivial
    exact dret0 ⟨rfl, rfl⟩
  · refine WK ?_; try with_reducible exact trivial
    refine dfun awake18_d fun n3 g3 => ?_
    refine WK ?_; try with_reducible exact trivial
    exact dret0 ⟨rfl, rfl⟩
  · refine WK ?_; try with_reducible exact trivial
    refine dnew (new_o 60000 ⟨by omega, by omega⟩) fun d n3 g3 g4 => ?_
    rw [show (min (max (60000 : Int) 0) 65536).toNat = 60000 from rfl]
    have hk0 : DOk ([] : List FileS) 60000 0 := ⟨fun f hf => by simp at hf, fun f hf => by simp at hf, by simp [usedN], List.nodup_nil, by simp, fun f hf => by simp at hf⟩
    simp only [diskO]
    refine WK ?_; try with_reducible exact trivial
    refine dcallR [d] (rpick_one (t := diskO [] 60000) (by (repeat rw [rget_there (by omega)]); exact rget_here _ _ _)) (open_l hk0 (by omega) (by omega)) (by simp) fun _ _ n4 g5 ⟨x, s, x1, x2, s1, s2, xs, e1, e2⟩ => ?_
    subst e1; subst e2
    rw [show openF [] = [] from rfl, show sayB (logB []) = (0, [], 0) from rfl]
    simp only [logO, saysO, diskO, List.cons_append, List.nil_append]
    refine WK ?_; try with_reducible exact trivial
    refine dloop [0, 1, 2, 7, 8, 9] (fun t : Nat × LL × Nat × (List VoteS × List VoteS) × List FileS × Nat => ([(0, lactsD l), (1, bytesD torn), (2, intsD keep), (7, .hp d 0), (8, .hp x 0), (9, iD (t.1 : Nat))], [(x, logO d s), (s, saysO t.2.2.1 t.2.2.2.1.1), (d, diskO t.2.2.2.2.1 60000)], t.2.2.2.2.2)) (fun t => t.1 ≤ l.length ∧ LogMem 60000 t.2.1 t.2.2.1 t.2.2.2.1.1 t.2.2.2.1.2 t.2.2.2.2.1 ∧ (frames t.2.1).length ≤ 600 * t.1 ∧ t.2.2.2.1.1.length ≤ t.1 ∧ n4 ≤ t.2.2.2.2.2) (fun t => l.length - t.1) (0, [], 0, ([], []), [], n4) ⟨by omega, ⟨⟨log_nil, .inr ⟨rfl, rfl⟩⟩, rfl, fun v hv => by simp at hv, List.nodup_nil⟩, by simp [frames], by simp, by dsimp only; omega⟩ (Ent.of (by with_unfolding_all rfl) rfl) ?_
    rintro ⟨k, L, p, ⟨vs, vl⟩, fs, n⟩ ⟨q1, q2, q3, q4, q5⟩
    dsimp only at q1 q2 q3 q4 q5 ⊢
    have ho := od_ok q2.st.disk (most := 60000) (by omega) (by omega)
    have hple := q2.st.log.le
    simp only [logO, saysO, diskO]
    refine WK ?_; try with_reducible exact trivial
    refine brd (fun hlt => ?_) (fun hge => ?_)
    · have hkl : k < l.length := by omega
      have e0 := lacts_get l (j := k) (k := 0) hkl (by omega)
      have e1 := lacts_get l (j := k) (k := 1) hkl (by omega)
      have e2 := lacts_vote l hkl
      have h8 : 5 ≤ (((lactsC l).drop (k * 8)).drop 2).length := by rw [List.length_drop, List.length_drop, lactsC, flat_len' lactC_len]; omega
      rw [← List.drop_drop] at e2
      simp only [lactC, voteC, List.cons_append, List.nil_append, List.getElem?_cons_succ, List.getElem?_cons_zero, Nat.add_zero] at e0 e1
      refine WK ?_; try with_reducible exact trivial
      refine dcallR [x, s, d] (rin := [(x, logO d s), (s, saysO p vs), (d, diskO fs 60000)]) (rest := []) (by simp only [logO, saysO, diskO]; simp -dsimp (disch := omega) only [rpick, rget_here, rget_there, rdel_here, rdel_there]; try rfl) (promised_l xs (by omega) (by omega)) (by simp) fun _ _ n5 g6 ⟨e3, e4⟩ => ?_
      subst e3; subst e4
      simp only [logO, saysO, diskO, List.cons_append, List.nil_append]
      rcases (by omega : (gt l k).act = 0 ∨ ((gt l k).act ≠ 0 ∧ (gt l k).act = 3) ∨ ((gt l k).act ≠ 0 ∧ (gt l k).act ≠ 3)) with ha | ⟨ha, ha2⟩ | ⟨ha, ha2⟩
      · refine WKX (And.intro @e0 @e1) ?_; try with_reducible exact trivial
        refine dcallR [x, s, d] (rin := [(x, logO d s), (s, saysO p vs), (d, diskO fs 60000)]) (rest := []) (by simp only [logO, saysO, diskO]; simp -dsimp (disch := omega) only [rpick, rget_here, rget_there, rdel_here, rdel_there]; try rfl) (promise_l (b := (gt l k).ballot) ho (by omega) q2.right hple (by omega) (by omega) (by omega) xs (by omega) (by omega)) (by simp) fun _ _ n6 g7 ⟨e3, e4⟩ => ?_
        subst e3; subst e4
        obtain ⟨L', z1, z2, z3, z4⟩ := mem_promise q2 (gt l k).ballot (by omega)
        generalize promP fs 60000 p vs (gt l k).ballot = P at *
        generalize promF fs 60000 p (gt l k).ballot = fs' at *
        obtain ⟨p', vs'⟩ := P
        dsimp only at z1 z3 z4 ⊢
        subst z4
        simp only [logO, saysO, diskO, List.cons_append, List.nil_append]
        refine WK ?_; try with_reducible exact trivial
        refine dcallR [x, s, d] (rin := [(x, logO d s), (s, saysO p' vs'), (d, diskO fs' 60000)]) (rest := []) (by simp only [logO, saysO, diskO]; simp -dsimp (disch := omega) only [rpick, rget_here, rget_there, rdel_here, rdel_there]; try rfl) (promised_l xs (by omega) (by omega)) (by simp) fun _ _ n7 g8 ⟨e3, e4⟩ => ?_
        subst e3; subst e4
        simp only [logO, saysO, diskO, List.cons_append, List.nil_append]
        refine WK ?_; try with_reducible exact trivial
        exact ⟨(k + 1, L', p', (vs', vl), fs', n7), ⟨by dsimp only; omega, z1, by dsimp only; omega, by dsimp only; omega, by dsimp only; omega⟩, by dsimp only; omega, (Ent.of (by with_unfolding_all rfl) rfl)⟩
      · refine WKX (And.intro @e0 @e1) ?_; try with_reducible exact trivial
        refine dcallR [x, s, d] (rin := [(x, logO d s), (s, saysO p vs), (d, diskO fs 60000)]) (rest := []) (by simp only [logO, saysO, diskO]; simp -dsimp (disch := omega) only [rpick, rget_here, rget_there, rdel_here, rdel_there]; try rfl) (compact_l ho (by omega) q2.right hple (by omega) (by omega) (by omega) (by omega) xs (by omega) (by omega)) (by simp) fun _ _ n6 g7 ⟨e3, e4⟩ => ?_
        subst e3; subst e4
        obtain ⟨z1, z2, z3⟩ := mem_comp q2 (by omega)
        generalize compF fs 60000 p vs = fs' at *
        generalize recsL p vs = L' at *
        simp only [logO, saysO, diskO, List.cons_append, List.nil_append]
        refine WK ?_; try with_reducible exact trivial
        refine dcallR [x, s, d] (rin := [(x, logO d s), (s, saysO p vs), (d, diskO fs' 60000)]) (rest := []) (by simp only [logO, saysO, diskO]; simp -dsimp (disch := omega) only [rpick, rget_here, rget_there, rdel_here, rdel_there]; try rfl) (promised_l xs (by omega) (by omega)) (by simp) fun _ _ n7 g8 ⟨e3, e4⟩ => ?_
        subst e3; subst e4
        simp only [logO, saysO, diskO, List.cons_append, List.nil_append]
        refine WK ?_; try with_reducible exact trivial
        exact ⟨(k + 1, L', p, (vs, sortS vl), fs', n7), ⟨by dsimp only; omega, z2, by dsimp only; omega, by dsimp only; omega, by dsimp only; omega⟩, by dsimp only; omega, (Ent.of (by with_unfolding_all rfl) rfl)⟩
      · refine WKX (And.intro @e0 (And.intro @e1 @e2)) ?_; try with_reducible exact trivial
        refine dcallR [x, s, d] (rin := [(x, logO d s), (s, saysO p vs), (d, diskO fs 60000)]) (rest := []) (by simp only [logO, saysO, diskO]; simp -dsimp (disch := omega) only [rpick, rget_here, rget_there, rdel_here, rdel_there]; try rfl) (vote_l (v := (gt l k).vote) ho (by omega) q2.right hple (by omega) (by omega) (by omega) xs (by omega) (by omega)) (by simp) fun _ _ n6 g7 ⟨e3, e4⟩ => ?_
        subst e3; subst e4
        obtain ⟨L', vl', z1, z2, z3, z4⟩ := mem_vote q2 (gt l k).vote (by omega)
        generalize voteP fs 60000 p vs (gt l k).vote = P at *
        generalize voteF fs 60000 p (gt l k).vote = fs' at *
        obtain ⟨p', vs'⟩ := P
        dsimp only at z1 z3 z4 ⊢
        simp only [logO, saysO, diskO, List.cons_append, List.nil_append]
        refine WK ?_; try with_reducible exact trivial
        refine dcallR [x, s, d] (rin := [(x, logO d s), (s, saysO p' vs'), (d, diskO fs' 60000)]) (rest := []) (by simp only [logO, saysO, diskO]; simp -dsimp (disch := omega) only [rpick, rget_here, rget_there, rdel_here, rdel_there]; try rfl) (promised_l xs (by omega) (by omega)) (by simp) fun _ _ n7 g8 ⟨e3, e4⟩ => ?_
        subst e3; subst e4
        simp only [logO, saysO, diskO, List.cons_append, List.nil_append]
        refine WK ?_; try with_reducible exact trivial
        exact ⟨(k + 1, L', p', (vs', vl'), fs', n7), ⟨by dsimp only; omega, z1, by dsimp only; omega, by dsimp only; omega, by dsimp only; omega⟩, by dsimp only; omega, (Ent.of (by with_unfolding_all rfl) rfl)⟩
    · have hkl : k = l.length := by omega
      have hT : ([0, 0, 255, 255] ++ torn : Bs).length = 4 + torn.length := by simp; omega
      have hB : (frames L).length ≤ 24000 := by omega
      refine WK ?_; try with_reducible exact trivial
      refine dcallR [x, s, d] (rin := [(x, logO d s), (s, saysO p vs), (d, diskO fs 60000)]) (rest := []) (by simp only [logO, saysO, diskO]; simp -dsimp (disch := omega) only [rpick, rget_here, rget_there, rdel_here, rdel_there]; try rfl) (promised_l xs (by omega) (by omega)) (by simp) fun _ _ n5 g6 ⟨e1, e2⟩ => ?_
      subst e1; subst e2
      simp only [logO, saysO, diskO, List.cons_append, List.nil_append]
      refine WK ?_; try with_reducible exact trivial
      refine dcallR [x, s, d] (rin := [(x, logO d s), (s, saysO p vs), (d, diskO fs 60000)]) (rest := []) (by simp only [logO, saysO, diskO]; simp -dsimp (disch := omega) only [rpick, rget_here, rget_there, rdel_here, rdel_there]; try rfl) (votes_l q2.right (by omega) (by omega) (by omega) (by omega) xs (by omega) (by omega)) (by simp) fun _ _ n6 g7 ⟨q, t1, t2, e1, e2⟩ => ?_
      subst e1; subst e2
      simp only [logO, saysO, diskO, votesO, List.cons_append, List.nil_append]
      refine WK ?_; try with_reducible exact trivial
      refine dapp (i := n6) (m := torn.length) (l' := torn.map bD) elB (l := ([0, 0, 255, 255] : Bs).map bD) (n := 4) (rget_here _ _ _) (DSrc.sl _ _ _) (by simp) bDs_done (by omega) (by omega) List.not_mem_nil ?_
      have eT : D.row tU8 1 (4 + torn.length) (([0, 0, 255, 255] : Bs).map bD ++ torn.map bD) = bytesO ([0, 0, 255, 255] ++ torn) := by
        simp only [bytesO, hT, List.map_append]
      rw [eT, rdel_here]
      generalize hTT : ([0, 0, 255, 255] ++ torn : Bs) = T at *
      refine WK ?_; try with_reducible exact trivial
      have hap := app_torn (fs := fs) (T := T) (most := 60000) q2.st.disk (by omega)
      have hk1 := torn_ok (B := frames L) (T := T) (most := 60000) (by omega) (by omega)
      obtain ⟨m, hc1, hc2⟩ := crash_torn keep hk1
      have hcut : cutF (T.take m) = none := by rw [← hTT]; exact cut_torn m (by omega)
      have hsay := log_torn q2.st.log hcut
      have hop : openF [(lgN, frames L ++ T.take m, (frames L).length + m)] = oneF (frames L) := open_torn (by rw [hsay]) (by omega)
      have hk2 : DOk [(lgN, frames L ++ T.take m, (frames L).length + m)] 60000 1 := by rw [← hc1]; exact crash_ok hk1 keep
      refine dact_lend (ds := fun i => [.hp i 0, strD lgN, bytesD T]) (ds' := fun i => [.hp i 0, strD lgN, .h (n6 + 1)]) (fs := fs) (most := 60000) (fs' := appF fs 60000 lgN T) (n6 + 1) d T (by (repeat rw [rget_there (by omega)]); exact rget_here _ _ _) (by (repeat rw [rget_there (by omega)]); exact rget_here _ _ _) (by omega) (by simp -dsimp (disch := omega) only [↓MC.xwp, ↓xopsWp, ↓xdr, ↓MOp.xwp, dvs, dv, dvu, dvo, dvp, dgb, dGd, dBool, cond_true, cond_false, asFn, dget, dput, dput?, dead?, dres, ptr, bsc, cv, uo, uof, unopt, xpr, xdevr, xev0, cutK, cutN, xldk, xldn, xbsk, xst, xgp, glc, vExt, vFldA, vFld, vFad, vIxs, vIxa, vIxvA, vIxv, vSls, vLen, vPick, vNilc, vIsnil, dev0, devr, dsl, dif, dcells, dover, dbuild, scs, rowOf, strideOf, dtk, dtake, done1, pev, pbin, pint, pbool, pstr, psl, vnil, ↓thenD, ↓blockD, ↓retX, ↓xres, xcell, tupD, argD, dkeep, ckLive, kp, xdone, xheld, dstD, isLdM, ldOp, ldIds, ldSlots, selfOk, nb, dst1, inDone, allDone, apart, slotsApart, heldAll, heldOk, Op.operands, Nat.reduceAdd, forall_eq_or_imp, D.plain, reduceCtorEq, if_true, if_false, ↓reduceIte, ne_eq, Bool.cond_true, Bool.cond_false, forall_const, implies_true, forall_eq, Int.reduceEq, Int.reduceLT, Int.reduceLE, Int.reduceAdd, Int.reduceSub, Int.reduceMul, Int.reduceToNat, Nat.reduceMul, Nat.reduceLeDiff, Nat.reduceLT, Nat.reduceSub, Nat.reduceBEq, Nat.reduceEqDiff, matD, bytesD, iD, intsD, boolD, strD, bD, DB, List.map_cons, List.map_nil, dres, rget_nil]) (append_a fs 60000 lgN T ho.small (by have := ho.used; omega) (by omega) (by decide) (by omega)) (by omega) fun n7 g8 => ?_
      rw [hap]
      simp only [diskO]
      refine WK ?_; try with_reducible exact trivial
      refine dact d (crash_a [(lgN, frames L ++ T, (frames L).length)] 60000 keep hk1.small hk1.sync hk.2 (by simp) (by omega)) (by omega) (by (repeat rw [rget_there (by omega)]); exact rget_here _ _ _) (by simp only [List.mem_cons, List.not_mem_nil, or_false, not_false_eq_true]; try omega) fun n8 g9 => ?_
      rw [hc1]
      simp only [diskO]
      refine WK ?_; try with_reducible exact trivial
      refine dcallR [d] (rpick_one (t := diskO [(lgN, frames L ++ T.take m, (frames L).length + m)] 60000) (by (repeat rw [rget_there (by omega)]); exact rget_here _ _ _)) (open_l hk2 (by omega) (by omega)) (by simp) fun _ _ n9 g10 ⟨y, t, y1, y2, t3, t4, yt, e1, e2⟩ => ?_
      subst e1; subst e2
      rw [show logB [(lgN, frames L ++ T.take m, (frames L).length + m)] = frames L ++ T.take m by unfold logB; rw [find_one]; rfl, hsay, hop]
      dsimp only
      simp only [logO, saysO, diskO, List.cons_append, List.nil_append]
      refine WK ?_; try with_reducible exact trivial
      refine dcallR [y, t, d] (rin := [(y, logO d t), (t, saysO p vl), (d, diskO (oneF (frames L)) 60000)]) (by simp only [logO, saysO, diskO]; simp -dsimp (disch := omega) only [rpick, rget_here, rget_there, rdel_here, rdel_there]; rfl) (promised_l yt (by omega) (by omega)) (by simp) fun _ _ n10 g11 ⟨e1, e2⟩ => ?_
      subst e1; subst e2
      simp only [logO, saysO, diskO, List.cons_append, List.nil_append]
      refine WK ?_; try with_reducible exact trivial
      have hvl : vl.length ≤ 1000000 := by have := votes_few q2.st.log; omega
      have hsame := same17_d (sortS vs) (sortS vs) (by rw [sortS_len]; omega)
      rw [decide_eq_true rfl] at hsame
      refine dcallR [y, t, d] (rin := [(y, logO d t), (t, saysO p vl), (d, diskO (oneF (frames L)) 60000)]) (by simp only [logO, saysO, diskO]; simp -dsimp (disch := omega) only [rpick, rget_here, rget_there, rdel_here, rdel_there]; rfl) (votes_l q2.st.log.right hvl (by omega) (by omega) (by omega) yt (by omega) (by omega)) (by simp) fun _ _ n11 g12 ⟨q', t5, t6, e1, e2⟩ => ?_
      subst e1; subst e2
      rw [← q2.same]
      simp only [logO, saysO, diskO, votesO, List.cons_append, List.nil_append]
      refine WK ?_; try with_reducible exact trivial
      refine dcall_frz q' (t' := .mk _) (by (repeat rw [rget_there (by omega)]); exact rget_here _ _ _) (votesC_plain _) (by simp only [List.mem_cons, List.not_mem_nil, or_false, not_false_eq_true]; try omega) ?_
      refine WK ?_; try with_reducible exact trivial
      refine dcall_frz q (t' := .mk _) (by (repeat rw [rget_there (by omega)]); exact rget_here _ _ _) (votesC_plain _) (by simp only [List.mem_cons, List.not_mem_nil, or_false, not_false_eq_true]; try omega) ?_
      refine WK ?_; try with_reducible exact trivial
      refine dfun hsame fun n12 g13 => ?_
      refine WK ?_; try with_reducible exact trivial
      exact dret0 ⟨rfl, rfl⟩
end Go.Proofs.Ytgpkbldlkadnjaa
end
