/- Equality of votes, in the model. -/
import Derived.Test.YtgpkbldlkadnjaaJ8
import Derived.Laws.StructEq
import Derived.Tactics
import Derived.KernelRfl
import Derived.Test.YtgpkbldlkadnjaaJ4
import Derived.Test.YtgpkbldlkadnjaaJ7
section
set_option linter.unusedVariables false
set_option linter.unusedSimpArgs false
set_option maxHeartbeats 3000000
attribute [local irreducible] Go.Sl.Chk Go.Sl.Br Go.Sl.Or2 Go.Sl.Ld Go.Sl.Ldn Go.Sl.LdB Go.Sl.Stn Go.Sl.New Go.Sl.Run Go.Sl.RunU Go.Sl.RunX Go.Sl.Call Go.Sl.LoopK Go.Sl.RawK Go.Sl.Alt Go.Sl.Om Go.Sl.xpk Go.Sl.xgpk Go.Sl.xglk Go.Sl.DLd Go.Sl.DLdG Go.Sl.DBs Go.Sl.DCall Go.Sl.DApp Go.Sl.DGen Go.Sl.DGenU Go.Sl.DGC Go.Sl.DLoop Go.Sl.DRaw Go.Sl.DRet Go.Sl.Ent Go.Sl.dget Go.Sl.dv Go.Sl.ev Go.Sl.eget
namespace Go.Proofs.Ytgpkbldlkadnjaa
open Go Go.Sl
theorem part_leaf {t : TypeId} {xs : Array Value} {k : Nat} {v : Value} {w : World} (ha : ∀ w, (Go.isAgg t).run Try.prog w = .ok false w) (hx : xs[k]? = some v) : (Go.part t xs k).run Try.prog w = .ok v w := by
  simp [Go.part, Sem.run_bind, ha, hx]
theorem eqV (a1 a2 a3 b1 b2 b3 : Int) (a4 b4 : Bool) (a5 b5 : ByteArray) (w : World) : (Op.equalIn 10000 95 (.agg #[.int .i64 a1, .int .i64 a2, .int .i64 a3, .bool a4, .string a5]) (.agg #[.int .i64 b1, .int .i64 b2, .int .i64 b3, .bool b4, .string b5])).run Try.prog w = .ok (a1 == b1 && (a2 == b2 && (a3 == b3 && (a4 == b4 && a5.toList == b5.toList)))) w := by
  have u3 := Try.underlying3
  have hS : Try.prog.underlying 95 = some (.struct (Try.prog.fieldsOf 95)) := by kernel_rfl
  have hp : Try.prog.stoodInHeld 95 = false := by kernel_rfl
  rw [show (10000 : Nat) = 9999 + 1 from rfl, run_equalIn_agg w 9999 95 _ _ hS hp]
  simp only [Program.fieldsOf, Try.underlying95]
  have u4 := Try.underlying4
  have u9 := Try.underlying9
  have g3 : ∀ w, (Go.isAgg 3).run Try.prog w = .ok false w := fun w => by kernel_rfl
  have g4 : ∀ w, (Go.isAgg 4).run Try.prog w = .ok false w := fun w => by kernel_rfl
  have g9 : ∀ w, (Go.isAgg 9).run Try.prog w = .ok false w := fun w => by kernel_rfl
  have p0 : ∀ (x0 x1 x2 x3 x4 : Value) (w : World), (Go.part 3 #[x0, x1, x2, x3, x4] 0).run Try.prog w = .ok x0 w := fun x0 x1 x2 x3 x4 w => part_leaf g3 rfl
  have p1 : ∀ (x0 x1 x2 x3 x4 : Value) (w : World), (Go.part 3 #[x0, x1, x2, x3, x4] 1).run Try.prog w = .ok x1 w := fun x0 x1 x2 x3 x4 w => part_leaf g3 rfl
  have p2 : ∀ (x0 x1 x2 x3 x4 : Value) (w : World), (Go.part 3 #[x0, x1, x2, x3, x4] 2).run Try.prog w = .ok x2 w := fun x0 x1 x2 x3 x4 w => part_leaf g3 rfl
  have p3 : ∀ (x0 x1 x2 x3 x4 : Value) (w : World), (Go.part 4 #[x0, x1, x2, x3, x4] 3).run Try.prog w = .ok x3 w := fun x0 x1 x2 x3 x4 w => part_leaf g4 rfl
  have p4 : ∀ (x0 x1 x2 x3 x4 : Value) (w : World), (Go.part 9 #[x0, x1, x2, x3, x4] 4).run Try.prog w = .ok x4 w := fun x0 x1 x2 x3 x4 w => part_leaf g9 rfl
  simp only [Op.eqFields, Sem.run_bind, Sem.run_ite, Result.andThen_ok, Sem.run_pure, p0, p1, p2, p3, p4, run_equalIn_int _ _ _ _ _ _ _ u3, run_equalIn_bool' _ _ _ _ _ u4, run_equalIn_string _ _ _ _ _ u9]
  simp only [ne_eq, show ¬ ("Slot" = "_") by decide, show ¬ ("Ballot" = "_") by decide, show ¬ ("Origin" = "_") by decide, show ¬ ("Full" = "_") by decide, show ¬ ("Bytes" = "_") by decide, not_false_eq_true, if_true]
  cases h1 : (a1 == b1) <;> cases h2 : (a2 == b2) <;> cases h3 : (a3 == b3) <;> cases h4 : (a4 == b4) <;> cases h5 : (a5.toList == b5.toList) <;> rfl
end Go.Proofs.Ytgpkbldlkadnjaa
end
section
/- Contracts over data: the same votes. -/
set_option linter.unusedVariables false
set_option linter.unusedSimpArgs false
set_option maxHeartbeats 3000000
attribute [local irreducible] Go.Sl.Chk Go.Sl.Br Go.Sl.Or2 Go.Sl.Ld Go.Sl.Ldn Go.Sl.LdB Go.Sl.Stn Go.Sl.New Go.Sl.Run Go.Sl.RunU Go.Sl.RunX Go.Sl.Call Go.Sl.LoopK Go.Sl.RawK Go.Sl.Alt Go.Sl.Om Go.Sl.xpk Go.Sl.xgpk Go.Sl.xglk Go.Sl.DLd Go.Sl.DLdG Go.Sl.DBs Go.Sl.DCall Go.Sl.DApp Go.Sl.DGen Go.Sl.DGenU Go.Sl.DGC Go.Sl.DLoop Go.Sl.DRaw Go.Sl.DRet Go.Sl.Ent Go.Sl.dget Go.Sl.dv Go.Sl.ev Go.Sl.eget
namespace Go.Proofs.Ytgpkbldlkadnjaa
open Go Go.Sl Go.RowKit
instance : DecidableEq VoteS := fun a b => by
  cases a; cases b
  exact decidable_of_iff _ (VoteS.mk.injEq ..).to_iff.symm
theorem dneq_vote {x y : Operand} {dst : Option Nat} {t2 ty : TypeId} {pos : String} {af : Array Edge} {gu} {de : DEnv} {r : Roots} {nx : Nat} {held : List Nat} {K : D → Roots → Nat → Prop} {tg : TagF K} {u v : VoteS} (hx : dv de r x = some (.agg (voteC u))) (hy : dv de r y = some (.agg (voteC v))) (k : K (boolD (!decide (u = v))) r nx) : DGen Try.prog ⟨dst, .binOp .neq 95 x y t2, ty, pos, af, gu⟩ de held r nx K tg := by
  unfold DGen
  intro E w Z T F en h he
  obtain ⟨a, ha, ra⟩ := dv_rs h.roots he hx
  obtain ⟨b, hb, rb⟩ := dv_rs h.roots he hy
  simp only [voteC, Rs, RsL] at ra rb
  obtain ⟨_, rfl, _, _, rfl, rfl, _, _, rfl, rfl, _, _, rfl, rfl, _, _, rfl, rfl, _, _, rfl, rfl, rfl⟩ := ra
  obtain ⟨_, rfl, _, _, rfl, rfl, _, _, rfl, rfl, _, _, rfl, rfl, _, _, rfl, rfl, _, _, rfl, rfl, rfl⟩ := rb
  refine ⟨by simp [Op.operands, known, ha, hb], ?_⟩
  unfold RunX
  refine .inl ⟨.bool (!decide (u = v)), w, ?_, _, _, _, _, _, _, h, Grow.refl _ _ _ _ _, by simp only [Rs], k⟩
  simp [execOp, rho, ha, hb, Sem.run_bind]
  have hq : (u.slot == v.slot && (u.ballot == v.ballot && (u.origin == v.origin && (u.full == v.full && (⟨u.bytes.toArray⟩ : ByteArray).toList == (⟨v.bytes.toArray⟩ : ByteArray).toList)))) = decide (u = v) := by
    rw [ByteArray.toList_eq, ByteArray.toList_eq, Bool.eq_iff_iff]
    obtain ⟨a1, a2, a3, a4, a5⟩ := u
    obtain ⟨b1, b2, b3, b4, b5⟩ := v
    simp only [Bool.and_eq_true, beq_iff_eq, decide_eq_true_eq, VoteS.mk.injEq]
  rw [run_eqGuard_agg w .neq 95 x y _ _ (by kernel_rfl)]
  simp only [Result.andThen_ok]
  rw [run_neq_struct, eqV, hq]
  simp only [Result.andThen_ok]
set_option maxRecDepth 100000 in
theorem same17_d (a b : List VoteS) (hl : a.length ≤ 1000000) : DFun Try.prog f_ref17_Same [votesD a, votesD b] (boolD (decide (a = b))) := by
  intro nx
  refine xcalls c_ref17_Same (by simp only [m_ref17_Same, List.length]; decide) ?_
  rcases Decidable.em (a.length = b.length) with he | he
  · simp only [m_ref17_Same]; refine WK ?_; try with_reducible exact trivial
    refine dloop [0, 1, 5] (fun s : Nat => ([(0, votesD a), (1, votesD b), (5, iD (s : Nat))], [], nx)) (fun s => s ≤ a.length ∧ a.take s = b.take s) (fun s => a.length - s) 0 ⟨by omega, by simp⟩ (Ent.of (by with_unfolding_all rfl) rfl) ?_
    rintro k ⟨q1, q2⟩
    dsimp only at q1 q2 ⊢
    refine WK ?_; try with_reducible exact trivial
    refine brd (fun hlt => ?_) (fun hge => ?_)
    · have hka : k < a.length := by omega
      have hkb : k < b.length := by omega
      have ha5 : 5 ≤ ((votesC a).drop (k * 5)).length := by rw [List.length_drop, votesC, flat_len' voteC_len]; omega
      have hb5 : 5 ≤ ((votesC b).drop (k * 5)).length := by rw [List.length_drop, votesC, flat_len' voteC_len]; omega
      have hta : ((votesC a).drop (k * 5)).take 5 = voteC (gt a k) := flatC_take voteC_len a hka
      have htb : ((votesC b).drop (k * 5)).take 5 = voteC (gt b k) := flatC_take voteC_len b hkb
      refine WKX (And.intro @hta @htb) ?_; try with_reducible exact trivial
      refine dneq_vote (u := gt a k) (v := gt b k) ?_ ?_ ?_
      · refine WK ?_; try with_reducible exact trivial
      · refine WK ?_; try with_reducible exact trivial
      rcases Decidable.em (gt a k = gt b k) with e | e
      · rw [decide_eq_true e]
        refine WK ?_; try with_reducible exact trivial
        exact ⟨k + 1, ⟨by omega, by rw [take_gt hka, take_gt hkb, q2, e]⟩, by omega, (Ent.of (by with_unfolding_all rfl) rfl)⟩
      · rw [decide_eq_false e]
        refine WK ?_; try with_reducible exact trivial
        exact dret0 ⟨by rw [decide_eq_false (fun h => e (by rw [h]))], rfl⟩
    · refine WK ?_; try with_reducible exact trivial
      have hab : a = b := by
        rw [List.take_of_length_le (by omega), List.take_of_length_le (by omega)] at q2
        exact q2
      exact dret0 ⟨by rw [decide_eq_true hab], rfl⟩
  · simp only [m_ref17_Same]; refine WK ?_; try with_reducible exact trivial
    exact dret0 ⟨by rw [decide_eq_false (fun k => he (by rw [k]))], rfl⟩
end Go.Proofs.Ytgpkbldlkadnjaa
end
section
/- Plain: votes by their slots; logs of records, and what they say. -/
set_option linter.unusedVariables false
set_option linter.unusedSimpArgs false
set_option maxHeartbeats 2000000
namespace Go.Proofs.Ytgpkbldlkadnjaa
open Go Go.Sl
def slots (vs : List VoteS) : List Int := vs.map fun v => v.slot
theorem slots_inj {vs : List VoteS} (hn : (slots vs).Nodup) {u v : VoteS} (hu : u ∈ vs) (hv : v ∈ vs) (h : u.slot = v.slot) : u = v := by
  obtain ⟨i, hi, rfl⟩ := List.mem_iff_getElem.1 hu
  obtain ⟨j, hj, rfl⟩ := List.mem_iff_getElem.1 hv
  have h1 : i < (slots vs).length := by simpa [slots] using hi
  have h2 : j < (slots vs).length := by simpa [slots] using hj
  have h3 : (slots vs)[i] = (slots vs)[j] := by simpa [slots] using h
  have := (List.getElem_inj (h₀ := h1) (h₁ := h2) hn).1 h3
  subst this
  rfl
theorem atS_of {vs : List VoteS} (hn : (slots vs).Nodup) {v : VoteS} (hv : v ∈ vs) : atS vs v.slot = v := by
  obtain ⟨j, u, _, h2, h3, h4⟩ := slotF_mem (vs := vs) (s := v.slot) (List.mem_map.2 ⟨v, hv, rfl⟩)
  rw [h4]
  exact slots_inj hn (List.mem_of_getElem? h2) hv h3
theorem slotsS_perm (vs : List VoteS) : (slotsS vs).Perm (slots vs) := List.mergeSort_perm ..
theorem slotsS_sorted (vs : List VoteS) : (slotsS vs).Pairwise (· ≤ ·) := by
  have := List.pairwise_mergeSort (le := fun x y : Int => decide (x ≤ y)) (fun a b c h1 h2 => by simp only [decide_eq_true_eq] at *; omega) (fun a b => by simp only [Bool.or_eq_true, decide_eq_true_eq]; omega) (slots vs)
  exact this.imp fun h => by simpa using h
theorem sortS_perm {vs : List VoteS} (hn : (slots vs).Nodup) : (sortS vs).Perm vs := by
  have h1 := (slotsS_perm vs).map (atS vs)
  have h2 : (slots vs).map (atS vs) = vs := by
    unfold slots
    rw [List.map_map]
    conv => rhs; rw [← List.map_id vs]
    exact List.map_congr_left fun v hv => atS_of hn hv
  rw [h2] at h1
  exact h1
theorem sortS_slots (vs : List VoteS) : slots (sortS vs) = slotsS vs := by
  unfold slots sortS
  rw [List.map_map]
  conv => rhs; rw [← List.map_id (slotsS vs)]
  refine List.map_congr_left fun s hs => ?_
  obtain ⟨j, u, _, _, h3, h4⟩ := slotF_mem ((slotsS_perm vs).mem_iff.1 hs)
  simp only [Function.comp, h4, h3, id]
theorem sortS_nodup {vs : List VoteS} (hn : (slots vs).Nodup) : (slots (sortS vs)).Nodup := ((sortS_perm hn).map _).nodup_iff.2 hn
theorem foldS_append : ∀ (l : LL) (p : Nat) (vs : List VoteS) (n : Nat) (r : LL), (∀ x ∈ l, okR (getV x) = true) → foldS (l ++ r) p vs n = foldS r (foldS l p vs n).1 (foldS l p vs n).2.1 (foldS l p vs n).2.2
  | [], p, vs, n, r, _ => by simp [foldS]
  | x :: l, p, vs, n, r, h => by
    rw [List.cons_append, foldS, foldS, if_pos (h x (by simp)), if_pos (h x (by simp))]
    exact foldS_append l _ _ _ r fun y hy => h y (by simp [hy])
def frames (l : LL) : Bs := l.flatMap frameB
def sizeV (vs : List VoteS) : Nat := (vs.map fun v => (voteB v).length + 12).sum
theorem sizeV_set : ∀ (vs : List VoteS) (j : Nat) (v : VoteS), sizeV (vs.set j v) ≤ sizeV vs + ((voteB v).length + 12)
  | [], j, v => by simp [sizeV]
  | u :: vs, 0, v => by simp only [sizeV, List.set_cons_zero, List.map_cons, List.sum_cons]; omega
  | u :: vs, j + 1, v => by
    have := sizeV_set vs j v
    simp only [sizeV, List.set_cons_succ, List.map_cons, List.sum_cons] at this ⊢
    omega
theorem sizeV_put (vs : List VoteS) (v : VoteS) : sizeV (putS vs v) ≤ sizeV vs + ((voteB v).length + 12) := by
  unfold putS
  split
  · simp only [sizeV, List.map_append, List.map_cons, List.map_nil, List.sum_append, List.sum_cons, List.sum_nil]; omega
  · split
    · exact sizeV_set ..
    · omega
theorem put_slots {vs : List VoteS} {v : VoteS} (hn : (slots vs).Nodup) : (slots (putS vs v)).Nodup := by
  unfold putS
  cases h : slotF vs v.slot with
  | none =>
    dsimp only
    unfold slots at hn ⊢
    rw [List.map_append, List.nodup_append]
    refine ⟨hn, by simp, fun a ha b hb => ?_⟩
    simp only [List.map_cons, List.map_nil, List.mem_singleton] at hb
    subst hb
    rintro rfl
    unfold slotF at h
    rw [List.findIdx?_eq_none_iff] at h
    obtain ⟨u, hu, e⟩ := List.mem_map.1 ha
    have := h u hu
    simp [e] at this
  | some j =>
    dsimp only
    split
    · obtain ⟨u, h1, h2⟩ := slotF_some h
      have : slots (vs.set j v) = slots vs := by
        unfold slots
        rw [List.map_set]
        refine List.ext_getElem? fun i => ?_
        rw [List.getElem?_set]
        split
        · rename_i e
          subst e
          split
          · rw [List.getElem?_map, h1]; simp [h2]
          · rename_i h3
            rw [List.getElem?_eq_none (by simpa using h3)]
        · rfl
      rw [this]; exact hn
    · exact hn
theorem put_mem {vs : List VoteS} {v u : VoteS} (h : u ∈ putS vs v) : u ∈ vs ∨ u = v := by
  unfold putS at h
  split at h
  · simpa using h
  · split at h
    · exact (List.mem_or_eq_of_mem_set h)
    · exact .inl h
/-- a log: its records; what they say -/
structure LogOk (l : LL) (p : Nat) (vs : List VoteS) : Prop where
  small : ∀ r ∈ l, r.length ≤ 65535
  ok : ∀ r ∈ l, okR (getV r) = true
  say : foldS l 0 [] 0 = (p, vs, (frames l).length)
  le : p ≤ 2147483647
  right : Right1 vs
  nodup : (slots vs).Nodup
  top : ∀ v ∈ vs, v.ballot ≤ (p : Int)
  size : sizeV vs ≤ (frames l).length
theorem log_nil : LogOk [] 0 [] := ⟨by simp, by simp, rfl, by omega, fun v hv => by simp at hv, List.nodup_nil, by simp, Nat.zero_le _⟩
theorem frames_append (l r : LL) : frames (l ++ r) = frames l ++ frames r := by unfold frames; rw [List.flatMap_append]
theorem frames_one (r : Bs) : frames [r] = frameB r := by simp [frames]
theorem log_step {l : LL} {p : Nat} {vs : List VoteS} {rec : Bs} (h : LogOk l p vs) (h1 : rec.length ≤ 65535) (h2 : okR (getV rec) = true) (h3 : ∀ v, getV rec = .vote v → (voteB v).length = rec.length ∧ RightV v) : LogOk (l ++ [rec]) (takeS p vs (getV rec)).1 (takeS p vs (getV rec)).2 := by
  have hl : (frames (l ++ [rec])).length = (frames l).length + (rec.length + 12) := by rw [frames_append, List.length_append, frames_one, frameB_len]
  refine ⟨fun r hr => ?_, fun r hr => ?_, ?_, takeS_le h.le, takeS_right h.right, ?_, ?_, ?_⟩
  · rcases List.mem_append.1 hr with hr | hr
    · exact h.small r hr
    · simp only [List.mem_singleton] at hr; subst hr; exact h1
  · rcases List.mem_append.1 hr with hr | hr
    · exact h.ok r hr
    · simp only [List.mem_singleton] at hr; subst hr; exact h2
  · rw [foldS_append _ _ _ _ _ h.ok, h.say, foldS, if_pos h2, foldS, hl]
  · cases hg : getV rec with
    | bad => exact h.nodup
    | promise b => exact h.nodup
    | vote v => exact put_slots h.nodup
  · cases hg : getV rec with
    | bad => exact h.top
    | promise b => intro v hv; have := h.top v hv; simp only [takeS]; omega
    | vote v =>
      intro u hu
      have := (h3 v hg).2
      unfold RightV at this
      simp only [takeS] at hu ⊢
      rcases put_mem hu with hu | rfl
      · have := h.top u hu; omega
      · omega
  · rw [hl]
    have := h.size
    cases hg : getV rec with
    | bad => simp only [takeS]; omega
    | promise b => simp only [takeS]; omega
    | vote v =>
      have h4 := sizeV_put vs v
      have := (h3 v hg).1
      simp only [takeS]; omega
/-- votes, by slots, one more in the place of one with its slot -/
def put1 : List VoteS → VoteS → List VoteS
  | [], v => [v]
  | u :: l, v => if u.slot < v.slot then u :: put1 l v else if u.slot = v.slot then v :: l else v :: u :: l
def addR (l : List VoteS) (v : VoteS) : List VoteS := if l.any (fun u => decide (u.slot = v.slot) && decide (v.ballot < u.ballot)) then l else put1 l v
def Asc (l : List VoteS) : Prop := (slots l).Pairwise (· < ·)
theorem asc_cons {u : VoteS} {l : List VoteS} : Asc (u :: l) ↔ (∀ x ∈ l, u.slot < x.slot) ∧ Asc l := by
  unfold Asc slots
  rw [List.map_cons, List.pairwise_cons]
  refine and_congr ⟨fun h x hx => h _ (List.mem_map.2 ⟨x, hx, rfl⟩), fun h s hs => ?_⟩ Iff.rfl
  obtain ⟨x, hx, rfl⟩ := List.mem_map.1 hs
  exact h x hx
theorem asc_uniq : ∀ {a b : List VoteS}, Asc a → Asc b → (∀ x, x ∈ a ↔ x ∈ b) → a = b
  | [], [], _, _, _ => rfl
  | [], y :: b, _, _, h => absurd ((h y).2 (by simp)) (by simp)
  | x :: a, [], _, _, h => absurd ((h x).1 (by simp)) (by simp)
  | x :: a, y :: b, ha, hb, h => by
    obtain ⟨a1, a2⟩ := asc_cons.1 ha
    obtain ⟨b1, b2⟩ := asc_cons.1 hb
    have hxy : x = y := by
      rcases List.mem_cons.1 ((h x).1 (by simp)) with e | e
      · exact e
      · rcases List.mem_cons.1 ((h y).2 (by simp)) with e2 | e2
        · exact e2.symm
        · have := a1 y e2; have := b1 x e; omega
    subst hxy
    rw [asc_uniq a2 b2 fun z => ⟨fun hz => ?_, fun hz => ?_⟩]
    · rcases List.mem_cons.1 ((h z).1 (by simp [hz])) with e | e
      · have := a1 z hz; rw [e] at this; omega
      · exact e
    · rcases List.mem_cons.1 ((h z).2 (by simp [hz])) with e | e
      · have := b1 z hz; rw [e] at this; omega
      · exact e
theorem put1_mem : ∀ {l : List VoteS} {v : VoteS}, Asc l → ∀ x, x ∈ put1 l v ↔ x = v ∨ (x ∈ l ∧ x.slot ≠ v.slot)
  | [], v, _, x => by simp [put1]
  | u :: l, v, h, x => by
    obtain ⟨h1, h2⟩ := asc_cons.1 h
    unfold put1
    split
    · rename_i hlt
      rw [List.mem_cons, put1_mem h2, List.mem_cons]
      constructor
      · rintro (rfl | rfl | ⟨h3, h4⟩)
        · exact .inr ⟨.inl rfl, by omega⟩
        · exact .inl rfl
        · exact .inr ⟨.inr h3, h4⟩
      · rintro (rfl | ⟨rfl | h3, h4⟩)
        · exact .inr (.inl rfl)
        · exact .inl rfl
        · exact .inr (.inr ⟨h3, h4⟩)
    · split
      · rename_i hnl he
        rw [List.mem_cons, List.mem_cons]
        constructor
        · rintro (rfl | h3)
          · exact .inl rfl
          · exact .inr ⟨.inr h3, by have := h1 x h3; omega⟩
        · rintro (rfl | ⟨rfl | h3, h4⟩)
          · exact .inl rfl
          · exact absurd he h4
          · exact .inr h3
      · rename_i hnl he
        rw [List.mem_cons, List.mem_cons]
        constructor
        · rintro (rfl | rfl | h3)
          · exact .inl rfl
          · exact .inr ⟨.inl rfl, he⟩
          · exact .inr ⟨.inr h3, by have := h1 x h3; omega⟩
        · rintro (rfl | ⟨h3, _⟩)
          · exact .inl rfl
          · exact .inr h3
theorem put1_asc : ∀ {l : List VoteS} {v : VoteS}, Asc l → Asc (put1 l v)
  | [], v, _ => by simp [put1, Asc, slots]
  | u :: l, v, h => by
    obtain ⟨h1, h2⟩ := asc_cons.1 h
    unfold put1
    split
    · rename_i hlt
      refine asc_cons.2 ⟨fun x hx => ?_, put1_asc h2⟩
      rcases (put1_mem h2 x).1 hx with rfl | ⟨h3, _⟩
      · exact hlt
      · exact h1 x h3
    · split
      · rename_i hnl he
        exact asc_cons.2 ⟨fun x hx => by have := h1 x hx; omega, h2⟩
      · rename_i hnl he
        refine asc_cons.2 ⟨fun x hx => ?_, h⟩
        rcases List.mem_cons.1 hx with rfl | hx
        · omega
        · have := h1 x hx; omega
theorem sortS_asc {vs : List VoteS} (hn : (slots vs).Nodup) : Asc (sortS vs) := by
  have h1 := slotsS_sorted vs
  have h2 := sortS_nodup hn
  unfold Asc
  rw [← sortS_slots] at h1
  exact (h1.and h2).imp fun ⟨a, b⟩ => by omega
theorem putS_mem {vs : List VoteS} {v : VoteS} (hn : (slots vs).Nodup) (h : ∀ u ∈ vs, u.slot = v.slot → u.ballot ≤ v.ballot) (x : VoteS) : x ∈ putS vs v ↔ x = v ∨ (x ∈ vs ∧ x.slot ≠ v.slot) := by
  unfold putS
  cases hf : slotF vs v.slot with
  | none =>
    dsimp only
    unfold slotF at hf
    rw [List.findIdx?_eq_none_iff] at hf
    rw [List.mem_append, List.mem_singleton]
    constructor
    · rintro (h1 | rfl)
      · exact .inr ⟨h1, by simpa using hf x h1⟩
      · exact .inl rfl
    · rintro (rfl | ⟨h1, _⟩)
      · exact .inr rfl
      · exact .inl h1
  | some j =>
    obtain ⟨u, h1, h2⟩ := slotF_some hf
    have hj := (List.getElem?_eq_some_iff.1 h1).1
    have hu : gt vs j = u := by rw [gt_eq hj]; rw [List.getElem?_eq_getElem hj] at h1; exact Option.some.inj h1
    dsimp only
    rw [hu, if_pos (h u (List.mem_of_getElem? h1) h2)]
    constructor
    · intro hx
      obtain ⟨i, hi, rfl⟩ := List.mem_iff_getElem.1 hx
      rw [List.getElem_set]
      split
      · exact .inl rfl
      · rename_i hne
        have hi' : i < vs.length := by simpa using hi
        refine .inr ⟨List.getElem_mem _, fun e => hne ?_⟩
        have h3 : (slots vs)[j]'(by simpa [slots] using hj) = (slots vs)[i]'(by simpa [slots] using hi') := by
          rw [List.getElem?_eq_getElem hj] at h1
          have := Option.some.inj h1
          simp only [slots, List.getElem_map, this, h2, e]
        exact (List.getElem_inj hn).1 h3
    · rintro (rfl | ⟨h3, h4⟩)
      · exact List.mem_iff_getElem.2 ⟨j, by simpa using hj, by simp⟩
      · obtain ⟨i, hi, rfl⟩ := List.mem_iff_getElem.1 h3
        refine List.mem_iff_getElem.2 ⟨i, by simpa using hi, ?_⟩
        rw [List.getElem_set_ne]
        rintro rfl
        rw [List.getElem?_eq_getElem hj] at h1
        rw [Option.some.inj h1] at h4
        exact h4 h2
theorem put1_sort {vs : List VoteS} {v : VoteS} (hn : (slots vs).Nodup) (hall : ∀ u ∈ vs, u.slot = v.slot → u.ballot ≤ v.ballot) : put1 (sortS vs) v = sortS (putS vs v) := by
  have hp := sortS_perm hn
  have hn2 := put_slots (v := v) hn
  refine asc_uniq (put1_asc (sortS_asc hn)) (sortS_asc hn2) fun x => ?_
  rw [put1_mem (sortS_asc hn), (sortS_perm hn2).mem_iff, putS_mem hn hall, hp.mem_iff]
/-- put at its place -/
theorem put1_at : ∀ (l : List VoteS) (v : VoteS) (k : Nat), k ≤ l.length → (∀ x ∈ l.take k, x.slot < v.slot) → (∀ x, l[k]? = some x → ¬ x.slot < v.slot) →
    put1 l v = l.take k ++ v :: (if (∃ x, l[k]? = some x ∧ x.slot = v.slot) then l.drop (k + 1) else l.drop k)
  | [], v, k, hk, _, _ => by
    simp only [List.length_nil, Nat.le_zero] at hk
    subst hk
    simp [put1]
  | u :: l, v, 0, _, _, h => by
    have h1 := h u rfl
    simp only [put1, if_neg h1, List.take_zero, List.nil_append, List.getElem?_cons_zero, Option.some.injEq, exists_eq_left', List.drop_zero, Nat.zero_add, List.drop_one, List.tail_cons]
    split <;> rfl
  | u :: l, v, k + 1, hk, h, h' => by
    have h1 := h u (by simp)
    simp only [put1, if_pos h1, List.take_succ_cons, List.cons_append, List.getElem?_cons_succ, List.drop_succ_cons]
    rw [put1_at l v k (by simpa using hk) (fun x hx => h x (by simp [hx])) (fun x hx => h' x (by simpa using hx))]
/-- the disk: the log alone, or nothing yet -/
def OnDisk (fs : List FileS) (B : Bs) : Prop := fs = oneF B ∨ (fs = [] ∧ B = [])
theorem od_add {fs : List FileS} {B : Bs} {most : Nat} (h : OnDisk fs B) {rec : Bs} (hl : B.length + rec.length + 12 ≤ most) : appE fs most lgN (frameB rec) = 0 ∧ addF fs most rec = oneF (B ++ frameB rec) := by
  rcases h with rfl | ⟨rfl, rfl⟩
  · exact ⟨appE_one (by rw [frameB_len]; omega), addF_one hl⟩
  · exact ⟨appE_nil (by rw [frameB_len]; simp only [List.length_nil] at hl; omega), addF_nil (by simp only [List.length_nil] at hl; omega)⟩
theorem od_ok {fs : List FileS} {B : Bs} {most : Nat} (h : OnDisk fs B) (hl : B.length ≤ most) (hm : most ≤ 65536) : DOk fs most 1 := by
  rcases h with rfl | ⟨rfl, rfl⟩
  · exact oneF_ok hl hm
  · exact ⟨fun f hf => by simp at hf, fun f hf => by simp at hf, by simp [usedN], List.nodup_nil, by simp, fun f hf => by simp at hf⟩
theorem log_vote {l : LL} {p : Nat} {vs : List VoteS} (h : LogOk l p vs) {v : VoteS} (hv : RightV v) : LogOk (l ++ [voteB v]) (takeS p vs (.vote v)).1 (takeS p vs (.vote v)).2 := by
  have hg := getV_voteB hv
  have := log_step h (rec := voteB v) (by have := voteB_len hv; omega) (by rw [hg]; rfl) (fun w hw => by rw [hg] at hw; cases hw; exact ⟨rfl, hv⟩)
  rwa [hg] at this
theorem log_promise {l : LL} {p : Nat} {vs : List VoteS} (h : LogOk l p vs) {b : Nat} (hb : 1 ≤ b ∧ b ≤ 2147483647) : LogOk (l ++ [promiseB b]) (takeS p vs (.promise b)).1 (takeS p vs (.promise b)).2 := by
  have hg := getV_promiseB hb
  have := log_step h (rec := promiseB b) (by rw [promiseB_len]; omega) (by rw [hg]; rfl) (fun w hw => by rw [hg] at hw; cases hw)
  rwa [hg] at this
theorem put_len (vs : List VoteS) (v : VoteS) : (putS vs v).length ≤ vs.length + 1 := by
  unfold putS
  split
  · simp
  · split
    · simp
    · omega
theorem take_len (p : Nat) (vs : List VoteS) (r : RecS) : (takeS p vs r).2.length ≤ vs.length + 1 := by
  cases r with
  | bad => simp [takeS]
  | promise b => simp [takeS]
  | vote v => exact put_len vs v
theorem sortS_len (vs : List VoteS) : (sortS vs).length = vs.length := by unfold sortS; rw [List.length_map, slotsS_len]
end Go.Proofs.Ytgpkbldlkadnjaa
end
section
/- Plain: frames and records as the reference reads them, by places. -/
set_option linter.unusedVariables false
set_option linter.unusedSimpArgs false
set_option maxHeartbeats 2000000
namespace Go.Proofs.Ytgpkbldlkadnjaa
open Go Go.Sl
/-- the number at a place -/
def rAt (b : Bs) (k : Nat) : Int := if k + 4 ≤ b.length then (numAt (b.drop k) : Nat) else -1
/-- the text at a place, and how many bytes it has -/
def rText (b : Bs) (k : Nat) : Bs × Int := if rAt b k < 0 ∨ (b.length : Int) < k + 4 + rAt b k then ([], 0) else ((b.drop (k + 4)).take (rAt b k).toNat, 4 + rAt b k)
def rVote (b : Bs) : VoteS := ⟨rAt b 4, rAt b 8, rAt b 12, decide (rAt b 16 = 1), (rText b 20).1⟩
def rGet (b : Bs) : RecS :=
  if rAt b 0 = 1 then if (b.length = 8 ∧ 1 ≤ rAt b 4) ∧ rAt b 4 ≤ 2147483647 then .promise (rAt b 4).toNat else .bad
  else if (((rAt b 0 = 2 ∧ 0 < (rText b 20).2) ∧ (b.length : Int) = 20 + (rText b 20).2) ∧ rAt b 16 ≤ 1) ∧ RightV (rVote b) then .vote (rVote b) else .bad
end Go.Proofs.Ytgpkbldlkadnjaa
end
section
/- Contracts over data: the reference of layers 1, 6 and 17: numbers, texts, frames and records at places. -/
set_option linter.unusedVariables false
set_option linter.unusedSimpArgs false
set_option maxHeartbeats 3000000
attribute [local irreducible] Go.Sl.Chk Go.Sl.Br Go.Sl.Or2 Go.Sl.Ld Go.Sl.Ldn Go.Sl.LdB Go.Sl.Stn Go.Sl.New Go.Sl.Run Go.Sl.RunU Go.Sl.RunX Go.Sl.Call Go.Sl.LoopK Go.Sl.RawK Go.Sl.Alt Go.Sl.Om Go.Sl.xpk Go.Sl.xgpk Go.Sl.xglk Go.Sl.DLd Go.Sl.DLdG Go.Sl.DBs Go.Sl.DCall Go.Sl.DApp Go.Sl.DGen Go.Sl.DGenU Go.Sl.DGC Go.Sl.DLoop Go.Sl.DRaw Go.Sl.DRet Go.Sl.Ent Go.Sl.dget Go.Sl.dv Go.Sl.ev Go.Sl.eget
namespace Go.Proofs.Ytgpkbldlkadnjaa
open Go Go.Sl Go.RowKit
end Go.Proofs.Ytgpkbldlkadnjaa
end
section
/- Contracts over data: the reference of layers 17 and 18: a record, votes by slots, a log's bytes. -/
set_option linter.unusedVariables false
set_option linter.unusedSimpArgs false
set_option maxHeartbeats 3000000
attribute [local irreducible] Go.Sl.Chk Go.Sl.Br Go.Sl.Or2 Go.Sl.Ld Go.Sl.Ldn Go.Sl.LdB Go.Sl.Stn Go.Sl.New Go.Sl.Run Go.Sl.RunU Go.Sl.RunX Go.Sl.Call Go.Sl.LoopK Go.Sl.RawK Go.Sl.Alt Go.Sl.Om Go.Sl.xpk Go.Sl.xgpk Go.Sl.xglk Go.Sl.DLd Go.Sl.DLdG Go.Sl.DBs Go.Sl.DCall Go.Sl.DApp Go.Sl.DGen Go.Sl.DGenU Go.Sl.DGC Go.Sl.DLoop Go.Sl.DRaw Go.Sl.DRet Go.Sl.Ent Go.Sl.dget Go.Sl.dv Go.Sl.ev Go.Sl.eget
namespace Go.Proofs.Ytgpkbldlkadnjaa
open Go Go.Sl Go.RowKit
def rgetD : RecS → D
  | .bad => .tup [iD 0, .agg (voteC zeroV), boolD false]
  | .promise b => .tup [iD b, .agg (voteC zeroV), boolD true]
  | .vote v => .tup [iD 0, .agg (voteC v), boolD true]
theorem votesC_take (l : List VoteS) (k : Nat) : (votesC l).take (k * 5) = votesC (l.take k) := by
  induction l generalizing k with
  | nil => simp [votesC]
  | cons x l ih =>
    cases k with
    | zero => simp [votesC]
    | succ k =>
      have : votesC (x :: l) = voteC x ++ votesC l := rfl
      rw [this, Nat.succ_mul, Nat.add_comm, List.take_append, List.take_of_length_le (by rw [voteC_len]; omega), voteC_len, show 5 + k * 5 - 5 = k * 5 by omega, ih]
      rfl
theorem votesC_drop (l : List VoteS) (k : Nat) : (votesC l).drop (k * 5) = votesC (l.drop k) := by
  induction l generalizing k with
  | nil => simp [votesC]
  | cons x l ih =>
    cases k with
    | zero => simp
    | succ k =>
      have : votesC (x :: l) = voteC x ++ votesC l := rfl
      rw [this, Nat.succ_mul, Nat.add_comm, List.drop_append, List.drop_of_length_le (by rw [voteC_len]; omega), voteC_len, show 5 + k * 5 - 5 = k * 5 by omega, ih]
      rfl
theorem votesC_append (a b : List VoteS) : votesC (a ++ b) = votesC a ++ votesC b := List.flatMap_append
theorem votesC_length (l : List VoteS) : (votesC l).length = l.length * 5 := flat_len' voteC_len l
theorem dapp_votes {i nx : Nat} {held : List Nat} {r : Roots} {K : D → Roots → Nat → Prop} {tg : TagF K} (a b : List VoteS) (hg : rget r i = some (.row t_api_Vote 5 a.length (votesC a))) (hl : a.length + b.length ≤ 2000000) (hh : i ∉ held)
    (k : K (.h nx) ((nx, .row t_api_Vote 5 (a ++ b).length (votesC (a ++ b))) :: rdel r i) (nx + 1)) : DApp Try.prog #[tVotes, tVotes] tVotes (.h i) (votesD b) held r nx K tg :=
  dapp (i := i) (m := b.length) (l' := votesC b) elV (l := votesC a) (n := a.length) hg (DSrc.sl _ _ _) (votesC_length b) (votesC_done b) (by omega) (by omega) hh (by rw [← List.length_append, ← votesC_append]; exact k)
theorem votes_get (l : List VoteS) {j k : Nat} (hj : j < l.length) (hk : k < 5) : (votesC l)[j * 5 + k]? = (voteC (gt l j))[k]? := flatC_get voteC_len l hj hk
set_option maxRecDepth 100000 in
theorem put1_d (l : List VoteS) (v : VoteS) (hl : l.length ≤ 900000) : DFun Try.prog f_ref17_Put1 [votesD l, .agg (voteC v)] (votesD (put1 l v)) := by
  have hN : DNew Try.prog f_ref17_Put1 [votesD l, .agg (voteC v)] (fun i => .h i) (votesO (put1 l v)) := by
    intro nx
    refine xcalls c_ref17_Put1 (by simp only [m_ref17_Put1, List.length]; decide) ?_
    simp only [voteC]
    simp only [m_ref17_Put1]; refine WK ?_; try with_reducible exact trivial
    refine dloop [0, 3, 5] (fun s : Nat => ([(0, votesD l), (3, .hp nx 0), (5, iD (s : Nat))], [(nx, .box t_api_Vote (voteC v))], nx + 1)) (fun s => s ≤ l.length ∧ ∀ g ∈ l.take s, g.slot < v.slot) (fun s => l.length - s) 0 ⟨by omega, by simp⟩ (Ent.of (by with_unfolding_all rfl) rfl) ?_
    rintro k ⟨hk, hb⟩
    dsimp only at hk hb ⊢
    simp only [voteC]
    have hlk : (l.take k).length = k := by rw [List.length_take]; omega
    have hlf : (l.take k ++ [v]).length = k + 1 := by rw [List.length_append, hlk]; rfl
    have e1 : D.sl k ((votesC l).take (k * 5)) = votesD (l.take k) := by rw [votesC_take, votesD, hlk]
    have e2 : ∀ j, D.sl (l.length - j) (((votesC l).drop (j * 5)).take ((l.length - j) * 5)) = votesD (l.drop j) := fun j => by
      rw [votesC_drop, votesD, List.length_drop, List.take_of_length_le (by rw [votesC_length, List.length_drop]; exact Nat.le_refl _)]
    rcases Nat.lt_or_ge k l.length with hkl | hkl
    · have e0 := votes_get l (k := 0) hkl (by omega)
      simp only [voteC, List.getElem?_cons_zero, Nat.add_zero] at e0
      have hbk : ∀ x, l[k]? = some x → x = gt l k := fun x hx => by rw [List.getElem?_eq_getElem hkl] at hx; rw [gt_eq hkl]; exact (Option.some.inj hx).symm
      rcases (by omega : (gt l k).slot < v.slot ∨ (¬ (gt l k).slot < v.slot ∧ (gt l k).slot = v.slot) ∨ (¬ (gt l k).slot < v.slot ∧ (gt l k).slot ≠ v.slot)) with hs | ⟨hs, hs2⟩ | ⟨hs, hs2⟩
      · refine WKX @e0 ?_; try with_reducible exact trivial
        refine ⟨k + 1, ⟨by omega, fun g hg => ?_⟩, by omega, Ent.of (by with_unfolding_all rfl) rfl⟩
        rw [take_gt hkl] at hg
        rcases List.mem_append.1 hg with h | h
        · exact hb g h
        · simp only [List.mem_singleton] at h; rw [h]; exact hs
      · have hp := put1_at l v k hk hb (fun x hx => by rw [hbk x hx]; exact hs)
        rw [if_pos ⟨gt l k, by rw [gt_eq hkl]; exact List.getElem?_eq_getElem hkl, hs2⟩] at hp
        refine WKX @e0 ?_; try with_reducible exact trivial
        rw [e1, e2 ((k : Int) + 1).toNat, show ((k : Int) + 1).toNat = k + 1 by omega]
        have hRl : (l.drop (k + 1)).length ≤ 1000000 := by rw [List.length_drop]; omega
        generalize l.drop (k + 1) = R at *
        have e3 : put1 l v = (l.take k ++ [v]) ++ R := by rw [hp]; simp
        refine alt2 ?_ ?_
        · refine WK ?_; try with_reducible exact trivial
          refine alt2 ?_ ?_
          · refine WK ?_; try with_reducible exact trivial
            refine dapp_votes [] (l.take k) (by (repeat rw [rget_there (by omega)]); exact rget_here _ _ _) (by rw [hlk, List.length_nil]; omega) (by simp only [List.mem_cons, List.not_mem_nil, or_false, not_false_eq_true]; try omega) ?_
            refine WK ?_; try with_reducible exact trivial
            refine dapp_vote (l.take k) v (nx + 3) (i := nx + 2) (by (repeat rw [rget_there (by omega)]); exact rget_here _ _ _) (by (repeat rw [rget_there (by omega)]); exact rget_here _ _ _) (by rw [hlk]; omega) (by simp only [List.mem_cons, List.not_mem_nil, or_false, not_false_eq_true]; try omega) ?_
            refine WK ?_; try with_reducible exact trivial
            refine dapp_votes (l.take k ++ [v]) R (by (repeat rw [rget_there (by omega)]); exact rget_here _ _ _) (by rw [hlf]; omega) (by simp only [List.mem_cons, List.not_mem_nil, or_false, not_false_eq_true]; try omega) ?_
            refine WK ?_; try with_reducible exact trivial
            rw [← e3]
            exact dret_only [nx + 5] (t := .mk _) (by simp only [rpick, rget_here]; exact dret ⟨nx + 5, by omega, by omega, rfl, rfl⟩)
          · refine WK ?_; try with_reducible exact trivial
            refine dapp_votes [] (l.take k) (by (repeat rw [rget_there (by omega)]); exact rget_here _ _ _) (by rw [hlk, List.length_nil]; omega) (by simp only [List.mem_cons, List.not_mem_nil, or_false, not_false_eq_true]; try omega) ?_
            refine WK ?_; try with_reducible exact trivial
            refine dapp_vote (l.take k) v (nx + 2) (i := nx + 3) (by (repeat rw [rget_there (by omega)]); exact rget_here _ _ _) (by (repeat rw [rget_there (by omega)]); exact rget_here _ _ _) (by rw [hlk]; omega) (by simp only [List.mem_cons, List.not_mem_nil, or_false, not_false_eq_true]; try omega) ?_
            refine WK ?_; try with_reducible exact trivial
            refine dapp_votes (l.take k ++ [v]) R (by (repeat rw [rget_there (by omega)]); exact rget_here _ _ _) (by rw [hlf]; omega) (by simp only [List.mem_cons, List.not_mem_nil, or_false, not_false_eq_true]; try omega) ?_
            refine WK ?_; try with_reducible exact trivial
            rw [← e3]
            exact dret_only [nx + 5] (t := .mk _) (by simp only [rpick, rget_here]; exact dret ⟨nx + 5, by omega, by omega, rfl, rfl⟩)
        · refine WK ?_; try with_reducible exact trivial
          refine dapp_votes [] (l.take k) (by (repeat rw [rget_there (by omega)]); exact rget_here _ _ _) (by rw [hlk, List.length_nil]; omega) (by simp only [List.mem_cons, List.not_mem_nil, or_false, not_false_eq_true]; try omega) ?_
          refine WK ?_; try with_reducible exact trivial
          refine dapp_vote (l.take k) v (nx + 1) (i := nx + 3) (by (repeat rw [rget_there (by omega)]); exact rget_here _ _ _) (by (repeat rw [rget_there (by omega)]); exact rget_here _ _ _) (by rw [hlk]; omega) (by simp only [List.mem_cons, List.not_mem_nil, or_false, not_false_eq_true]; try omega) ?_
          refine WK ?_; try with_reducible exact trivial
          refine dapp_votes (l.take k ++ [v]) R (by (repeat rw [rget_there (by omega)]); exact rget_here _ _ _) (by rw [hlf]; omega) (by simp only [List.mem_cons, List.not_mem_nil, or_false, not_false_eq_true]; try omega) ?_
          refine WK ?_; try with_reducible exact trivial
          rw [← e3]
          exact dret_only [nx + 5] (t := .mk _) (by simp only [rpick, rget_here]; exact dret ⟨nx + 5, by omega, by omega, rfl, rfl⟩)
      · have hp := put1_at l v k hk hb (fun x hx => by rw [hbk x hx]; exact hs)
        rw [if_neg (fun ⟨x, hx, hx2⟩ => hs2 (by rw [← hbk x hx]; exact hx2))] at hp
        refine WKX @e0 ?_; try with_reducible exact trivial
        rw [e1, e2]
        have hRl : (l.drop k).length ≤ 1000000 := by rw [List.length_drop]; omega
        generalize l.drop k = R at *
        have e3 : put1 l v = (l.take k ++ [v]) ++ R := by rw [hp]; simp
        refine alt2 ?_ ?_
        · refine WK ?_; try with_reducible exact trivial
          refine alt2 ?_ ?_
          · refine WK ?_; try with_reducible exact trivial
            refine dapp_votes [] (l.take k) (by (repeat rw [rget_there (by omega)]); exact rget_here _ _ _) (by rw [hlk, List.length_nil]; omega) (by simp only [List.mem_cons, List.not_mem_nil, or_false, not_false_eq_true]; try omega) ?_
            refine WK ?_; try with_reducible exact trivial
            refine dapp_vote (l.take k) v (nx + 3) (i := nx + 2) (by (repeat rw [rget_there (by omega)]); exact rget_here _ _ _) (by (repeat rw [rget_there (by omega)]); exact rget_here _ _ _) (by rw [hlk]; omega) (by simp only [List.mem_cons, List.not_mem_nil, or_false, not_false_eq_true]; try omega) ?_
            refine WK ?_; try with_reducible exact trivial
            refine dapp_votes (l.take k ++ [v]) R (by (repeat rw [rget_there (by omega)]); exact rget_here _ _ _) (by rw [hlf]; omega) (by simp only [List.mem_cons, List.not_mem_nil, or_false, not_false_eq_true]; try omega) ?_
            refine WK ?_; try with_reducible exact trivial
            rw [← e3]
            exact dret_only [nx + 5] (t := .mk _) (by simp only [rpick, rget_here]; exact dret ⟨nx + 5, by omega, by omega, rfl, rfl⟩)
          · refine WK ?_; try with_reducible exact trivial
            refine dapp_votes [] (l.take k) (by (repeat rw [rget_there (by omega)]); exact rget_here _ _ _) (by rw [hlk, List.length_nil]; omega) (by simp only [List.mem_cons, List.not_mem_nil, or_false, not_false_eq_true]; try omega) ?_
            refine WK ?_; try with_reducible exact trivial
            refine dapp_vote (l.take k) v (nx + 2) (i := nx + 3) (by (repeat rw [rget_there (by omega)]); exact rget_here _ _ _) (by (repeat rw [rget_there (by omega)]); exact rget_here _ _ _) (by rw [hlk]; omega) (by simp only [List.mem_cons, List.not_mem_nil, or_false, not_false_eq_true]; try omega) ?_
            refine WK ?_; try with_reducible exact trivial
            refine dapp_votes (l.take k ++ [v]) R (by (repeat rw [rget_there (by omega)]); exact rget_here _ _ _) (by rw [hlf]; omega) (by simp only [List.mem_cons, List.not_mem_nil, or_false, not_false_eq_true]; try omega) ?_
            refine WK ?_; try with_reducible exact trivial
            rw [← e3]
            exact dret_only [nx + 5] (t := .mk _) (by simp only [rpick, rget_here]; exact dret ⟨nx + 5, by omega, by omega, rfl, rfl⟩)
        · refine WK ?_; try with_reducible exact trivial
          refine dapp_votes [] (l.take k) (by (repeat rw [rget_there (by omega)]); exact rget_here _ _ _) (by rw [hlk, List.length_nil]; omega) (by simp only [List.mem_cons, List.not_mem_nil, or_false, not_false_eq_true]; try omega) ?_
          refine WK ?_; try with_reducible exact trivial
          refine dapp_vote (l.take k) v (nx + 1) (i := nx + 3) (by (repeat rw [rget_there (by omega)]); exact rget_here _ _ _) (by (repeat rw [rget_there (by omega)]); exact rget_here _ _ _) (by rw [hlk]; omega) (by simp only [List.mem_cons, List.not_mem_nil, or_false, not_false_eq_true]; try omega) ?_
          refine WK ?_; try with_reducible exact trivial
          refine dapp_votes (l.take k ++ [v]) R (by (repeat rw [rget_there (by omega)]); exact rget_here _ _ _) (by rw [hlf]; omega) (by simp only [List.mem_cons, List.not_mem_nil, or_false, not_false_eq_true]; try omega) ?_
          refine WK ?_; try with_reducible exact trivial
          rw [← e3]
          exact dret_only [nx + 5] (t := .mk _) (by simp only [rpick, rget_here]; exact dret ⟨nx + 5, by omega, by omega, rfl, rfl⟩)
    · have hkl2 : k = l.length := by omega
      have hp := put1_at l v k hk hb (fun x hx => by rw [List.getElem?_eq_none hkl] at hx; cases hx)
      rw [if_neg (fun ⟨x, hx, hx2⟩ => by rw [List.getElem?_eq_none hkl] at hx; cases hx)] at hp
      refine WK ?_; try with_reducible exact trivial
      repeat ((first | refine dgc_d' (boolD true) ?_ | refine dldg_f ?_); refine WK ?_; try with_reducible exact trivial)

      rw [e1, e2]
      have hRl : (l.drop k).length ≤ 1000000 := by rw [List.length_drop]; omega
      generalize l.drop k = R at *
      have e3 : put1 l v = (l.take k ++ [v]) ++ R := by rw [hp]; simp
      refine alt2 ?_ ?_
      · refine WK ?_; try with_reducible exact trivial
        refine alt2 ?_ ?_
        · refine WK ?_; try with_reducible exact trivial
          refine dapp_votes [] (l.take k) (by (repeat rw [rget_there (by omega)]); exact rget_here _ _ _) (by rw [hlk, List.length_nil]; omega) (by simp only [List.mem_cons, List.not_mem_nil, or_false, not_false_eq_true]; try omega) ?_
          refine WK ?_; try with_reducible exact trivial
          refine dapp_vote (l.take k) v (nx + 3) (i := nx + 2) (by (repeat rw [rget_there (by omega)]); exact rget_here _ _ _) (by (repeat rw [rget_there (by omega)]); exact rget_here _ _ _) (by rw [hlk]; omega) (by simp only [List.mem_cons, List.not_mem_nil, or_false, not_false_eq_true]; try omega) ?_
          refine WK ?_; try with_reducible exact trivial
          refine dapp_votes (l.take k ++ [v]) R (by (repeat rw [rget_there (by omega)]); exact rget_here _ _ _) (by rw [hlf]; omega) (by simp only [List.mem_cons, List.not_mem_nil, or_false, not_false_eq_true]; try omega) ?_
          refine WK ?_; try with_reducible exact trivial
          rw [← e3]
          exact dret_only [nx + 5] (t := .mk _) (by simp only [rpick, rget_here]; exact dret ⟨nx + 5, by omega, by omega, rfl, rfl⟩)
        · refine WK ?_; try with_reducible exact trivial
          refine dapp_votes [] (l.take k) (by (repeat rw [rget_there (by omega)]); exact rget_here _ _ _) (by rw [hlk, List.length_nil]; omega) (by simp only [List.mem_cons, List.not_mem_nil, or_false, not_false_eq_true]; try omega) ?_
          refine WK ?_; try with_reducible exact trivial
          refine dapp_vote (l.take k) v (nx + 2) (i := nx + 3) (by (repeat rw [rget_there (by omega)]); exact rget_here _ _ _) (by (repeat rw [rget_there (by omega)]); exact rget_here _ _ _) (by rw [hlk]; omega) (by simp only [List.mem_cons, List.not_mem_nil, or_false, not_false_eq_true]; try omega) ?_
          refine WK ?_; try with_reducible exact trivial
          refine dapp_votes (l.take k ++ [v]) R (by (repeat rw [rget_there (by omega)]); exact rget_here _ _ _) (by rw [hlf]; omega) (by simp only [List.mem_cons, List.not_mem_nil, or_false, not_false_eq_true]; try omega) ?_
          refine WK ?_; try with_reducible exact trivial
          rw [← e3]
          exact dret_only [nx + 5] (t := .mk _) (by simp only [rpick, rget_here]; exact dret ⟨nx + 5, by omega, by omega, rfl, rfl⟩)
      · refine WK ?_; try with_reducible exact trivial
        refine dapp_votes [] (l.take k) (by (repeat rw [rget_there (by omega)]); exact rget_here _ _ _) (by rw [hlk, List.length_nil]; omega) (by simp only [List.mem_cons, List.not_mem_nil, or_false, not_false_eq_true]; try omega) ?_
        refine WK ?_; try with_reducible exact trivial
        refine dapp_vote (l.take k) v (nx + 1) (i := nx + 3) (by (repeat rw [rget_there (by omega)]); exact rget_here _ _ _) (by (repeat rw [rget_there (by omega)]); exact rget_here _ _ _) (by rw [hlk]; omega) (by simp only [List.mem_cons, List.not_mem_nil, or_false, not_false_eq_true]; try omega) ?_
        refine WK ?_; try with_reducible exact trivial
        refine dapp_votes (l.take k ++ [v]) R (by (repeat rw [rget_there (by omega)]); exact rget_here _ _ _) (by rw [hlf]; omega) (by simp only [List.mem_cons, List.not_mem_nil, or_false, not_false_eq_true]; try omega) ?_
        refine WK ?_; try with_reducible exact trivial
        rw [← e3]
        exact dret_only [nx + 5] (t := .mk _) (by simp only [rpick, rget_here]; exact dret ⟨nx + 5, by omega, by omega, rfl, rfl⟩)
  exact hN.fn (frzL_plain (votesC_plain _)).2 (by rw [(frzL_plain (votesC_plain _)).1])
/-- one vote more, if none of its slot has a greater ballot -/
def hitV (v u : VoteS) : Bool := decide (u.slot = v.slot) && decide (v.ballot < u.ballot)
end Go.Proofs.Ytgpkbldlkadnjaa
end
section
/- Law LogKeeps over data; few acts of layer 18. -/
set_option linter.unusedVariables false
set_option linter.unusedSimpArgs false
set_option maxHeartbeats 3000000
attribute [local irreducible] Go.Sl.Chk Go.Sl.Br Go.Sl.Or2 Go.Sl.Ld Go.Sl.Ldn Go.Sl.LdB Go.Sl.Stn Go.Sl.New Go.Sl.Run Go.Sl.RunU Go.Sl.RunX Go.Sl.Call Go.Sl.LoopK Go.Sl.RawK Go.Sl.Alt Go.Sl.Om Go.Sl.xpk Go.Sl.xgpk Go.Sl.xglk Go.Sl.DLd Go.Sl.DLdG Go.Sl.DBs Go.Sl.DCall Go.Sl.DApp Go.Sl.DGen Go.Sl.DGenU Go.Sl.DGC Go.Sl.DLoop Go.Sl.DRaw Go.Sl.DRet Go.Sl.Ent Go.Sl.dget Go.Sl.dv Go.Sl.ev Go.Sl.eget
namespace Go.Proofs.Ytgpkbldlkadnjaa
open Go Go.Sl Go.RowKit
structure LAct where
  act : Int
  ballot : Int
  vote : VoteS
  keep : List Int
deriving Inhabited
def lactC (a : LAct) : List D := [iD a.act, iD a.ballot] ++ (voteC a.vote ++ [intsD a.keep])
def lactsC (l : List LAct) : List D := l.flatMap lactC
abbrev lactsD (l : List LAct) : D := .sl l.length (lactsC l)
def LAct.ok (a : LAct) : Prop := a.vote.bytes.length ≤ 140737488351232 ∧ a.keep.length ≤ 140737488351232 ∧ (-9223372036854775808 ≤ a.act ∧ a.act ≤ 9223372036854775807) ∧ (-9223372036854775808 ≤ a.ballot ∧ a.ballot ≤ 9223372036854775807) ∧ Keep1 a.keep
def fewA (a : LAct) : Bool := decide (a.vote.bytes.length ≤ 600 ∧ a.keep.length ≤ 10)
/-- few acts -/
def few18 (l : List LAct) : Bool := (l.take 100).all fewA && decide (l.length ≤ 40)
end Go.Proofs.Ytgpkbldlkadnjaa
end
section
/- Law LogReads over data. -/
set_option linter.unusedVariables false
set_option linter.unusedSimpArgs false
set_option maxHeartbeats 3000000
attribute [local irreducible] Go.Sl.Chk Go.Sl.Br Go.Sl.Or2 Go.Sl.Ld Go.Sl.Ldn Go.Sl.LdB Go.Sl.Stn Go.Sl.New Go.Sl.Run Go.Sl.RunU Go.Sl.RunX Go.Sl.Call Go.Sl.LoopK Go.Sl.RawK Go.Sl.Alt Go.Sl.Om Go.Sl.xpk Go.Sl.xgpk Go.Sl.xglk Go.Sl.DLd Go.Sl.DLdG Go.Sl.DBs Go.Sl.DCall Go.Sl.DApp Go.Sl.DGen Go.Sl.DGenU Go.Sl.DGC Go.Sl.DLoop Go.Sl.DRaw Go.Sl.DRet Go.Sl.Ent Go.Sl.dget Go.Sl.dv Go.Sl.ev Go.Sl.eget
namespace Go.Proofs.Ytgpkbldlkadnjaa
open Go Go.Sl Go.RowKit
end Go.Proofs.Ytgpkbldlkadnjaa
end
section
/- Law LogCompacts over data. -/
set_option linter.unusedVariables false
set_option linter.unusedSimpArgs false
set_option maxHeartbeats 3000000
attribute [local irreducible] Go.Sl.Chk Go.Sl.Br Go.Sl.Or2 Go.Sl.Ld Go.Sl.Ldn Go.Sl.LdB Go.Sl.Stn Go.Sl.New Go.Sl.Run Go.Sl.RunU Go.Sl.RunX Go.Sl.Call Go.Sl.LoopK Go.Sl.RawK Go.Sl.Alt Go.Sl.Om Go.Sl.xpk Go.Sl.xgpk Go.Sl.xglk Go.Sl.DLd Go.Sl.DLdG Go.Sl.DBs Go.Sl.DCall Go.Sl.DApp Go.Sl.DGen Go.Sl.DGenU Go.Sl.DGC Go.Sl.DLoop Go.Sl.DRaw Go.Sl.DRet Go.Sl.Ent Go.Sl.dget Go.Sl.dv Go.Sl.ev Go.Sl.eget
namespace Go.Proofs.Ytgpkbldlkadnjaa
open Go Go.Sl Go.RowKit
/-- the state of a log on a disk: its records, what they say, the files -/
structure LogSt (most : Nat) (l : LL) (p : Nat) (vs : List VoteS) (fs : List FileS) : Prop where
  log : LogOk l p vs
  disk : OnDisk fs (frames l)
theorem st_promise {most : Nat} {l : LL} {p : Nat} {vs : List VoteS} {fs : List FileS} (h : LogSt most l p vs fs) (b : Int) (hm : (frames l).length + 20 ≤ most) :
    ∃ l', LogSt most l' (promP fs most p vs b).1 (promP fs most p vs b).2 (promF fs most p b) ∧ (frames l').length ≤ (frames l).length + 20 ∧ p ≤ (promP fs most p vs b).1 ∧ (promP fs most p vs b).2 = vs := by
  by_cases hp : promOk p b
  · obtain ⟨⟨h1, h2⟩, h3⟩ := hp
    have ho := od_add h.disk (most := most) (rec := promiseB b.toNat) (by rw [promiseB_len]; omega)
    have hb : 1 ≤ b.toNat ∧ b.toNat ≤ 2147483647 := by omega
    have hl := log_promise h.log hb
    have e1 : promF fs most p b = oneF (frames l ++ frameB (promiseB b.toNat)) := by rw [promF, if_pos ⟨⟨h1, h2⟩, h3⟩, ho.2]
    have e2 : promP fs most p vs b = takeS p vs (.promise b.toNat) := by rw [promP, if_pos ⟨⟨h1, h2⟩, h3⟩, addS_ok ho.1, getV_promiseB hb]
    rw [e1, e2]
    refine ⟨l ++ [promiseB b.toNat], ⟨hl, .inl ?_⟩, ?_, ?_, rfl⟩
    · rw [frames_append, frames_one]
    · rw [frames_append, frames_one, List.length_append, frameB_len, promiseB_len]; omega
    · simp only [takeS]; omega
  · rw [promP, if_neg hp, promF, if_neg hp]
    exact ⟨l, h, by omega, Nat.le_refl _, rfl⟩
theorem voteB_size {v : VoteS} (h : RightV v) : (voteB v).length ≤ 544 := by
  have := h.2.2.2.2.2
  simp only [voteB, textB, List.length_append, numB_length]
  omega
theorem st_vote {most : Nat} {l : LL} {p : Nat} {vs : List VoteS} {fs : List FileS} (h : LogSt most l p vs fs) (v : VoteS) (hm : (frames l).length + 556 ≤ most) :
    ∃ l', LogSt most l' (voteP fs most p vs v).1 (voteP fs most p vs v).2 (voteF fs most p v) ∧ (frames l').length ≤ (frames l).length + 556 ∧ p ≤ (voteP fs most p vs v).1 ∧ (voteP fs most p vs v).2.length ≤ vs.length + 1 := by
  by_cases hp : RightV v ∧ (p : Int) ≤ v.ballot
  · have hs := voteB_size hp.1
    have ho := od_add h.disk (most := most) (rec := voteB v) (by omega)
    have hl := log_vote h.log hp.1
    have e1 : voteF fs most p v = oneF (frames l ++ frameB (voteB v)) := by rw [voteF, if_pos hp, ho.2]
    have e2 : voteP fs most p vs v = takeS p vs (.vote v) := by rw [voteP, if_pos hp, addS_ok ho.1, getV_voteB hp.1]
    rw [e1, e2]
    refine ⟨l ++ [voteB v], ⟨hl, .inl ?_⟩, ?_, ?_, take_len _ _ _⟩
    · rw [frames_append, frames_one]
    · rw [frames_append, frames_one, List.length_append, frameB_len]; omega
    · simp only [takeS]; omega
  · rw [voteP, if_neg hp, voteF, if_neg hp]
    exact ⟨l, h, by omega, Nat.le_refl _, by simp⟩
end Go.Proofs.Ytgpkbldlkadnjaa
end
section
/- Law LogSynced over data. -/
set_option linter.unusedVariables false
set_option linter.unusedSimpArgs false
set_option maxHeartbeats 3000000
attribute [local irreducible] Go.Sl.Chk Go.Sl.Br Go.Sl.Or2 Go.Sl.Ld Go.Sl.Ldn Go.Sl.LdB Go.Sl.Stn Go.Sl.New Go.Sl.Run Go.Sl.RunU Go.Sl.RunX Go.Sl.Call Go.Sl.LoopK Go.Sl.RawK Go.Sl.Alt Go.Sl.Om Go.Sl.xpk Go.Sl.xgpk Go.Sl.xglk Go.Sl.DLd Go.Sl.DLdG Go.Sl.DBs Go.Sl.DCall Go.Sl.DApp Go.Sl.DGen Go.Sl.DGenU Go.Sl.DGC Go.Sl.DLoop Go.Sl.DRaw Go.Sl.DRet Go.Sl.Ent Go.Sl.dget Go.Sl.dv Go.Sl.ev Go.Sl.eget
namespace Go.Proofs.Ytgpkbldlkadnjaa
open Go Go.Sl Go.RowKit
/-- a log on a disk, beside the votes that are kept: they are told alike -/
structure LogMem (most : Nat) (l : LL) (p : Nat) (vs vl : List VoteS) (fs : List FileS) : Prop where
  st : LogSt most l p vl fs
  same : sortS vs = sortS vl
  right : Right1 vs
  nodup : (slots vs).Nodup
theorem promP_mem {most p : Nat} {vs vl : List VoteS} {fs : List FileS} (b : Int) : (promP fs most p vs b).1 = (promP fs most p vl b).1 ∧ (promP fs most p vs b).2 = vs := by
  by_cases hp : promOk p b
  · have hb : 1 ≤ b.toNat ∧ b.toNat ≤ 2147483647 := by have := hp.1; omega
    rw [promP, if_pos hp, promP, if_pos hp]
    unfold addS
    split
    · rw [getV_promiseB hb]
      exact ⟨rfl, rfl⟩
    · exact ⟨rfl, rfl⟩
  · rw [promP, if_neg hp, promP, if_neg hp]
    exact ⟨rfl, rfl⟩
end Go.Proofs.Ytgpkbldlkadnjaa
end
section
/- Contracts over data: messages: which are right, few, the same. -/
set_option linter.unusedVariables false
set_option linter.unusedSimpArgs false
set_option maxHeartbeats 3000000
attribute [local irreducible] Go.Sl.Chk Go.Sl.Br Go.Sl.Or2 Go.Sl.Ld Go.Sl.Ldn Go.Sl.LdB Go.Sl.Stn Go.Sl.New Go.Sl.Run Go.Sl.RunU Go.Sl.RunX Go.Sl.Call Go.Sl.LoopK Go.Sl.RawK Go.Sl.Alt Go.Sl.Om Go.Sl.xpk Go.Sl.xgpk Go.Sl.xglk Go.Sl.DLd Go.Sl.DLdG Go.Sl.DBs Go.Sl.DCall Go.Sl.DApp Go.Sl.DGen Go.Sl.DGenU Go.Sl.DGC Go.Sl.DLoop Go.Sl.DRaw Go.Sl.DRet Go.Sl.Ent Go.Sl.dget Go.Sl.dv Go.Sl.ev Go.Sl.eget
namespace Go.Proofs.Ytgpkbldlkadnjaa
open Go Go.Sl Go.RowKit
structure MsgS where
  kind : Int
  frm : Int
  to : Int
  ballot : Int
  slot : Int
  vote : VoteS
  votes : List VoteS
deriving Inhabited
def msgC (m : MsgS) : List D := [iD m.kind, iD m.frm, iD m.to, iD m.ballot, iD m.slot, iD m.vote.slot, iD m.vote.ballot, iD m.vote.origin, boolD m.vote.full, strD m.vote.bytes, votesD m.votes]
theorem msgC_len (m : MsgS) : (msgC m).length = 11 := rfl
def msgsC (l : List MsgS) : List D := l.flatMap msgC
abbrev msgsD (l : List MsgS) : D := .sl l.length (msgsC l)
theorem vote_beq (u v : VoteS) : (u.slot == v.slot && (u.ballot == v.ballot && (u.origin == v.origin && (u.full == v.full && (⟨u.bytes.toArray⟩ : ByteArray).toList == (⟨v.bytes.toArray⟩ : ByteArray).toList)))) = decide (u = v) := by
  rw [ByteArray.toList_eq, ByteArray.toList_eq, Bool.eq_iff_iff]
  obtain ⟨a1, a2, a3, a4, a5⟩ := u
  obtain ⟨b1, b2, b3, b4, b5⟩ := v
  simp only [Bool.and_eq_true, beq_iff_eq, decide_eq_true_eq, VoteS.mk.injEq]
/-- an operand is told as these cells, behind a guard that was passed or not -/
def ToldAs (de : DEnv) (r : Roots) (x : Operand) (c : List D) : Prop := dv de r x = some (.agg c) ∨ dv de r x = some (.opt true (.agg c))
theorem ToldAs.rs {de : DEnv} {r : Roots} {x : Operand} {c : List D} {w : World} {Z : Nat → Prop} {T : Nat → Option Value} {F : Nat → Nat} {e : Env} (h : ToldAs de r x c) (hr : RL w Z T r F) (he : EnvOk w Z T e de) : ∃ a, ev e x = some a ∧ Rs w Z T (.agg c) a := by
  rcases h with h | h
  · exact dv_rs hr he h
  · obtain ⟨a, ha, ra⟩ := dv_rs hr he h
    simp only [Rs] at ra
    exact ⟨a, ha, by simp only [Rs]; exact ra.1 trivial⟩
theorem deq_vote {x y : Operand} {dst : Option Nat} {t2 ty : TypeId} {pos : String} {af : Array Edge} {gu} {de : DEnv} {r : Roots} {nx : Nat} {held : List Nat} {K : D → Roots → Nat → Prop} {tg : TagF K} {u v : VoteS} (hx : ToldAs de r x (voteC u)) (hy : ToldAs de r y (voteC v)) (k : K (boolD (decide (u = v))) r nx) : DGen Try.prog ⟨dst, .binOp .eql t_api_Vote x y t2, ty, pos, af, gu⟩ de held r nx K tg := by
  unfold DGen
  intro E w Z T F en h he
  obtain ⟨a, ha, ra⟩ := hx.rs h.roots he
  obtain ⟨b, hb, rb⟩ := hy.rs h.roots he
  simp only [voteC, Rs, RsL] at ra rb
  obtain ⟨_, rfl, _, _, rfl, rfl, _, _, rfl, rfl, _, _, rfl, rfl, _, _, rfl, rfl, _, _, rfl, rfl, rfl⟩ := ra
  obtain ⟨_, rfl, _, _, rfl, rfl, _, _, rfl, rfl, _, _, rfl, rfl, _, _, rfl, rfl, _, _, rfl, rfl, rfl⟩ := rb
  refine ⟨by simp [Op.operands, known, ha, hb], ?_⟩
  unfold RunX
  refine .inl ⟨.bool (decide (u = v)), w, ?_, _, _, _, _, _, _, h, Grow.refl _ _ _ _ _, by simp only [Rs], k⟩
  simp [execOp, rho, ha, hb, Sem.run_bind]
  rw [run_eqGuard_agg w .eql t_api_Vote x y _ _ (by kernel_rfl)]
  simp only [Result.andThen_ok]
  rw [run_eql_struct, eqV, vote_beq]
  simp only [Result.andThen_ok]
def RiseP (l : List VoteS) (b : Int) : Prop := ∀ i, i < l.length → RightV (gt l i) ∧ (gt l i).ballot < b ∧ (0 < i → (gt l (i - 1)).slot < (gt l i).slot)
instance (l : List VoteS) (b : Int) : Decidable (RiseP l b) := by unfold RiseP; infer_instance
def RiseAt (l : List VoteS) (b : Int) (i : Nat) : Prop := RightV (gt l i) ∧ (gt l i).ballot < b ∧ (0 < i → (gt l (i - 1)).slot < (gt l i).slot)
theorem rise_nil (b : Int) : RiseP [] b := fun i hi => by simp at hi
/-- where a vote stands, and the one ahead of it -/
theorem votes_before (l : List VoteS) {k : Nat} (hk : k < l.length) (h0 : 0 < k) : (votesC l)[((k : Int) - 1).toNat * 5]? = some (iD (gt l (k - 1)).slot) := by
  rw [show ((k : Int) - 1).toNat = k - 1 by omega]
  have := votes_get l (j := k - 1) (k := 0) (by omega) (by omega)
  simpa only [voteC, List.getElem?_cons_zero, Nat.add_zero] using this
set_option maxRecDepth 100000 in
theorem rising_d (l : List VoteS) (b : Int) (hl : l.length ≤ 1000000) : DFun Try.prog f_msg_rising [votesD l, iD b] (boolD (decide (RiseP l b))) := by
  intro nx
  refine xcalls c_msg_rising (by simp only [m_msg_rising, List.length]; decide) ?_
  simp only [m_msg_rising]; refine WK ?_; try with_reducible exact trivial
  refine dloop [0, 1, 7, 8, 9] (fun s : Nat × Nat => ([(0, votesD l), (1, iD b), (7, votesD l), (8, iD (l.length : Nat)), (9, iD (s.1 : Nat))], [], s.2)) (fun s => s.1 ≤ l.length ∧ ∀ i, i < s.1 → RiseAt l b i) (fun s => l.length - s.1) (0, nx) ⟨by omega, by simp⟩ (Ent.of (by with_unfolding_all rfl) rfl) ?_
  rintro ⟨k, n⟩ ⟨q1, q2⟩
  dsimp only at q1 q2 ⊢
  refine WK ?_; try with_reducible exact trivial
  refine brd (fun hlt => ?_) (fun hge => ?_)
  · have hk : k < l.length := by omega
    have hta : ((votesC l).drop (k * 5)).take 5 = voteC (gt l k) := flatC_take voteC_len l hk
    have h5 : 5 ≤ ((votesC l).drop (k * 5)).length := by rw [List.length_drop, votesC_length]; omega
    have hno : ¬ RiseAt l b k → decide (RiseP l b) = false := fun h => decide_eq_false fun hp => h (hp k hk)
    have hyes : RiseAt l b k → ∀ i, i < k + 1 → RiseAt l b i := fun h i hi => by
      rcases Nat.lt_or_ge i k with g | g
      · exact q2 i g
      · rw [show i = k by omega]; exact h
    refine WKX @hta ?_; try with_reducible exact trivial
    simp only [voteC]
    refine WK ?_; try with_reducible exact trivial
    refine dfun (show DFun Try.prog f_slot_Right [.agg (voteC (gt l k))] (boolD (decide (RightV (gt l k)))) from sright_d (gt l k)) fun n2 h2 => ?_
    by_cases hR : RightV (gt l k)
    · rw [decide_eq_true hR]
      rcases (by omega : b ≤ (gt l k).ballot ∨ (gt l k).ballot < b) with hb | hb
      · rw [hno (fun h => by have := h.2.1; omega)]
        rcases Nat.eq_zero_or_pos k with h0 | h0
        · subst h0
          refine WK ?_; try with_reducible exact trivial
          repeat ((first | refine dgc_d' (boolD true) ?_ | refine dldg_f ?_); refine WK ?_; try with_reducible exact trivial)
          exact dret0 ⟨rfl, rfl⟩
        · refine WK ?_; try with_reducible exact trivial
          repeat ((first | refine dgc_d' (boolD true) ?_ | refine dldg_f ?_); refine WK ?_; try with_reducible exact trivial)
          exact dret0 ⟨rfl, rfl⟩
      · rcases Nat.eq_zero_or_pos k with h0 | h0
        · subst h0
          refine WK ?_; try with_reducible exact trivial
          repeat ((first | refine dgc_d' (boolD true) ?_ | refine dldg_f ?_); refine WK ?_; try with_reducible exact trivial)
          exact ⟨(0 + 1, n2), ⟨by dsimp only; omega, hyes ⟨hR, hb, fun h => absurd h (by omega)⟩⟩, by dsimp only; omega, (Ent.only [] _ _ _).trans (Ent.of (by with_unfolding_all rfl) rfl)⟩
        · have em := votes_before l hk h0
          rcases (by omega : (gt l k).slot ≤ (gt l (k - 1)).slot ∨ (gt l (k - 1)).slot < (gt l k).slot) with hs | hs
          · rw [hno (fun h => by have := h.2.2 h0; omega)]
            refine WKX @em ?_; try with_reducible exact trivial
            repeat ((first | refine dgc_d' (boolD true) ?_ | refine dldg_f ?_); refine WK ?_; try with_reducible exact trivial)
            exact dret0 ⟨rfl, rfl⟩
          · refine WKX @em ?_; try with_reducible exact trivial
            repeat ((first | refine dgc_d' (boolD true) ?_ | refine dldg_f ?_); refine WK ?_; try with_reducible exact trivial)
            exact ⟨(k + 1, n2), ⟨by dsimp only; omega, hyes ⟨hR, hb, fun _ => hs⟩⟩, by dsimp only; omega, (Ent.only [] _ _ _).trans (Ent.of (by with_unfolding_all rfl) rfl)⟩
    · rw [decide_eq_false hR, hno (fun h => hR h.1)]
      rcases Nat.eq_zero_or_pos k with h0 | h0
      · subst h0
        refine WK ?_; try with_reducible exact trivial
        repeat ((first | refine dgc_d' (boolD true) ?_ | refine dldg_f ?_); refine WK ?_; try with_reducible exact trivial)
        exact dret0 ⟨rfl, rfl⟩
      · refine WK ?_; try with_reducible exact trivial
        repeat ((first | refine dgc_d' (boolD true) ?_ | refine dldg_f ?_); refine WK ?_; try with_reducible exact trivial)
        exact dret0 ⟨rfl, rfl⟩
  · refine WK ?_; try with_reducible exact trivial
    exact dret0 ⟨by rw [decide_eq_true (show RiseP l b from fun i hi => q2 i (by omega))], rfl⟩
def BareM (m : MsgS) : Prop := (m.kind = 4 ∨ m.slot = 0) ∧ (m.kind = 3 ∨ m.vote = zeroV) ∧ (m.kind = 2 ∨ m.votes.length = 0)
instance (m : MsgS) : Decidable (BareM m) := by unfold BareM; infer_instance
set_option maxRecDepth 100000 in
theorem bare_d (m : MsgS) (hl : m.votes.length ≤ 1000000) : DFun Try.prog f_msg_bare [.agg (msgC m)] (boolD (decide (BareM m))) := by
  intro nx
  refine xcalls c_msg_bare (by simp only [m_msg_bare, List.length]; decide) ?_
  simp only [msgC]
  rcases (by omega : (m.kind ≠ 4 ∧ m.slot ≠ 0) ∨ (m.kind = 4 ∨ (m.kind ≠ 4 ∧ m.slot = 0))) with h | hc1
  · rw [decide_eq_false (show ¬ BareM m by unfold BareM; omega)]
    obtain ⟨h1, h2⟩ := h
    simp only [m_msg_bare]
    rcases (by omega : m.kind = 2 ∨ m.kind = 3 ∨ (m.kind ≠ 2 ∧ m.kind ≠ 3)) with g | g | ⟨g, g2⟩ <;> rcases Nat.eq_zero_or_pos m.votes.length with hv | hv <;>
      (refine WK ?_; try with_reducible exact trivial
       repeat ((first | refine dgc_d' (boolD true) ?_ | refine dldg (v := iD 0) (fun h => by cases h) ?_); refine WK ?_; try with_reducible exact trivial)
       exact dret0 ⟨rfl, rfl⟩)
  · rcases (by omega : m.kind = 3 ∨ m.kind ≠ 3) with h3 | h3
    · have h0 : m.slot = 0 := by omega
      rcases Nat.eq_zero_or_pos m.votes.length with hv | hv
      · rw [decide_eq_true (show BareM m by unfold BareM; omega)]
        simp only [m_msg_bare]; refine WK ?_; try with_reducible exact trivial
        repeat ((first | refine dgc_d' (boolD true) ?_ | refine dldg (v := iD 0) (fun h => by cases h) ?_); refine WK ?_; try with_reducible exact trivial)
        exact dret0 ⟨rfl, rfl⟩
      · rw [decide_eq_false (show ¬ BareM m by unfold BareM; omega)]
        simp only [m_msg_bare]; refine WK ?_; try with_reducible exact trivial
        repeat ((first | refine dgc_d' (boolD true) ?_ | refine dldg (v := iD 0) (fun h => by cases h) ?_); refine WK ?_; try with_reducible exact trivial)
        exact dret0 ⟨rfl, rfl⟩
    · have hb : BareM m ↔ m.vote = zeroV ∧ (m.kind = 2 ∨ m.votes.length = 0) := by unfold BareM; grind
      have hw : D.agg [iD m.vote.slot, iD m.vote.ballot, iD m.vote.origin, boolD m.vote.full, strD m.vote.bytes] = .agg (voteC m.vote) := rfl
      rcases hc1 with h4 | ⟨h4, h0⟩
      · simp only [m_msg_bare]; refine WK ?_; try with_reducible exact trivial
        repeat ((first | refine dgc_d' (boolD true) ?_ | refine dldg (v := iD 0) (fun h => by cases h) ?_); refine WK ?_; try with_reducible exact trivial)
        refine deq_vote (u := m.vote) (v := zeroV) ?_ ?_ ?_
        · refine .inl ?_
          refine WK ?_; try with_reducible exact trivial
          rfl
        · refine .inr ?_
          refine WK ?_; try with_reducible exact trivial
          rfl
        by_cases hz : m.vote = zeroV
        · rw [decide_eq_true hz]
          rcases Nat.eq_zero_or_pos m.votes.length with hv | hv
          · rw [decide_eq_true (hb.2 ⟨hz, .inr hv⟩)]
            refine WK ?_; try with_reducible exact trivial
            repeat ((first | refine dgc_d' (boolD true) ?_ | refine dldg (v := iD 0) (fun h => by cases h) ?_); refine WK ?_; try with_reducible exact trivial)
            exact dret0 ⟨rfl, rfl⟩
          · rw [decide_eq_false (fun h => by have := hb.1 h; omega)]
            refine WK ?_; try with_reducible exact trivial
            repeat ((first | refine dgc_d' (boolD true) ?_ | refine dldg (v := iD 0) (fun h => by cases h) ?_); refine WK ?_; try with_reducible exact trivial)
            exact dret0 ⟨rfl, rfl⟩
        · rw [decide_eq_false hz, decide_eq_false (fun h => hz (hb.1 h).1)]
          refine WK ?_; try with_reducible exact trivial
          repeat ((first | refine dgc_d' (boolD true) ?_ | refine dldg (v := iD 0) (fun h => by cases h) ?_); refine WK ?_; try with_reducible exact trivial)
          exact dret0 ⟨rfl, rfl⟩
      · simp only [m_msg_bare]; refine WK ?_; try with_reducible exact trivial
        repeat ((first | refine dgc_d' (boolD true) ?_ | refine dldg (v := iD 0) (fun h => by cases h) ?_); refine WK ?_; try with_reducible exact trivial)
        refine deq_vote (u := m.vote) (v := zeroV) ?_ ?_ ?_
        · refine .inl ?_
          refine WK ?_; try with_reducible exact trivial
          rfl
        · refine .inr ?_
          refine WK ?_; try with_reducible exact trivial
          rfl
        by_cases hz : m.vote = zeroV
        · rw [decide_eq_true hz]
          rcases (by omega : m.kind = 2 ∨ (m.kind ≠ 2 ∧ m.votes.length = 0) ∨ (m.kind ≠ 2 ∧ 0 < m.votes.length)) with h2 | ⟨h2, hv⟩ | ⟨h2, hv⟩
          · rw [decide_eq_true (hb.2 ⟨hz, .inl h2⟩)]
            refine WK ?_; try with_reducible exact trivial
            repeat ((first | refine dgc_d' (boolD true) ?_ | refine dldg (v := iD 0) (fun h => by cases h) ?_); refine WK ?_; try with_reducible exact trivial)
            exact dret0 ⟨rfl, rfl⟩
          · rw [decide_eq_true (hb.2 ⟨hz, .inr hv⟩)]
            refine WK ?_; try with_reducible exact trivial
            repeat ((first | refine dgc_d' (boolD true) ?_ | refine dldg (v := iD 0) (fun h => by cases h) ?_); refine WK ?_; try with_reducible exact trivial)
            exact dret0 ⟨rfl, rfl⟩
          · rw [decide_eq_false (fun h => by have := hb.1 h; omega)]
            refine WK ?_; try with_reducible exact trivial
            repeat ((first | refine dgc_d' (boolD true) ?_ | refine dldg (v := iD 0) (fun h => by cases h) ?_); refine WK ?_; try with_reducible exact trivial)
            exact dret0 ⟨rfl, rfl⟩
        · rw [decide_eq_false hz, decide_eq_false (fun h => hz (hb.1 h).1)]
          refine WK ?_; try with_reducible exact trivial
          repeat ((first | refine dgc_d' (boolD true) ?_ | refine dldg (v := iD 0) (fun h => by cases h) ?_); refine WK ?_; try with_reducible exact trivial)
          exact dret0 ⟨rfl, rfl⟩
def RightMsg (m : MsgS) : Prop := (1 ≤ m.kind ∧ m.kind ≤ 5) ∧ (0 ≤ m.frm ∧ m.frm < 7) ∧ (0 ≤ m.to ∧ m.to < 7) ∧ (1 ≤ m.ballot ∧ m.ballot ≤ 2147483647) ∧ BareM m ∧ (m.kind = 3 → RightV m.vote ∧ m.vote.ballot = m.ballot) ∧ (m.kind = 4 → 0 ≤ m.slot ∧ m.slot < 64) ∧ (m.kind ≠ 3 → m.kind ≠ 4 → RiseP m.votes m.ballot)
instance (m : MsgS) : Decidable (RightMsg m) := by unfold RightMsg; infer_instance
theorem in_d (n most : Int) : DFun Try.prog f_msg_Right_1 [iD n, iD most] (boolD (decide (0 ≤ n ∧ n < most))) := by
  intro nx
  refine xcalls c_msg_Right_1 (by simp only [m_msg_Right_1, List.length]; decide) ?_
  rcases (by omega : n < 0 ∨ (0 ≤ n ∧ n < most) ∨ (0 ≤ n ∧ ¬ n < most)) with h | ⟨h, h2⟩ | ⟨h, h2⟩
  · rw [decide_eq_false (by omega)]
    simp only [m_msg_Right_1]; refine WK ?_; try with_reducible exact trivial
    exact dret0 ⟨rfl, rfl⟩
  · rw [decide_eq_true (by omega)]
    simp only [m_msg_Right_1]; refine WK ?_; try with_reducible exact trivial
    exact dret0 ⟨rfl, rfl⟩
  · rw [decide_eq_false (by omega)]
    simp only [m_msg_Right_1]; refine WK ?_; try with_reducible exact trivial
    exact dret0 ⟨rfl, rfl⟩
set_option maxRecDepth 100000 in
theorem mright_d (m : MsgS) (hl : m.votes.length ≤ 1000000) : DFun Try.prog f_msg_Right [.agg (msgC m)] (boolD (decide (RightMsg m))) := by
  intro nx
  refine xcalls c_msg_Right (by simp only [m_msg_Right, List.length]; decide) ?_
  simp only [msgC]
  have hbR : hasBody Try.prog f_msg_Right_1 = true := by kernel_rfl
  rcases (by omega : m.kind < 1 ∨ (1 ≤ m.kind ∧ 5 < m.kind) ∨ (1 ≤ m.kind ∧ m.kind ≤ 5)) with hk | ⟨hk, hk2⟩ | ⟨hk, hk2⟩
  · rw [decide_eq_false (fun h => by have := h.1; omega)]
    simp only [m_msg_Right]; refine WKX @hbR ?_; try with_reducible exact trivial
    repeat ((first | refine dgc_d' (boolD true) ?_ | refine dldg_f ?_); refine WK ?_; try with_reducible exact trivial)
    exact dret0 ⟨rfl, rfl⟩
  · rw [decide_eq_false (fun h => by have := h.1; omega)]
    simp only [m_msg_Right]; refine WKX @hbR ?_; try with_reducible exact trivial
    repeat ((first | refine dgc_d' (boolD true) ?_ | refine dldg_f ?_); refine WK ?_; try with_reducible exact trivial)
    exact dret0 ⟨rfl, rfl⟩
  · simp only [m_msg_Right]; refine WKX @hbR ?_; try with_reducible exact trivial
    refine dfun (in_d m.frm 7) fun n1 h1 => ?_
    by_cases hf : 0 ≤ m.frm ∧ m.frm < 7
    · rw [decide_eq_true hf]
      refine WKX @hbR ?_; try with_reducible exact trivial
      refine dfun (in_d m.to 7) fun n2 h2 => ?_
      by_cases ht : 0 ≤ m.to ∧ m.to < 7
      · rw [decide_eq_true ht]
        rcases (by omega : m.ballot < 1 ∨ (1 ≤ m.ballot ∧ 2147483647 < m.ballot) ∨ (1 ≤ m.ballot ∧ m.ballot ≤ 2147483647)) with hb | ⟨hb, hb2⟩ | ⟨hb, hb2⟩
        · rw [decide_eq_false (fun h => by have := h.2.2.2.1; omega)]
          refine WKX @hbR ?_; try with_reducible exact trivial
          repeat ((first | refine dgc_d' (boolD true) ?_ | refine dldg_f ?_); refine WK ?_; try with_reducible exact trivial)
          exact dret0 ⟨rfl, rfl⟩
        · rw [decide_eq_false (fun h => by have := h.2.2.2.1; omega)]
          refine WKX @hbR ?_; try with_reducible exact trivial
          repeat ((first | refine dgc_d' (boolD true) ?_ | refine dldg_f ?_); refine WK ?_; try with_reducible exact trivial)
          exact dret0 ⟨rfl, rfl⟩
        · refine WKX @hbR ?_; try with_reducible exact trivial
          refine dfun (show DFun Try.prog f_msg_bare [.agg (msgC m)] (boolD (decide (BareM m))) from bare_d m hl) fun n3 h3 => ?_
          by_cases hB : BareM m
          · rw [decide_eq_true hB]
            have hRM : RightMsg m ↔ (m.kind = 3 → RightV m.vote ∧ m.vote.ballot = m.ballot) ∧ (m.kind = 4 → 0 ≤ m.slot ∧ m.slot < 64) ∧ (m.kind ≠ 3 → m.kind ≠ 4 → RiseP m.votes m.ballot) :=
              ⟨fun h => h.2.2.2.2.2, fun h => ⟨⟨hk, hk2⟩, hf, ht, ⟨hb, hb2⟩, hB, h⟩⟩
            rcases (by omega : m.kind = 3 ∨ m.kind = 4 ∨ (m.kind ≠ 3 ∧ m.kind ≠ 4)) with e | e | ⟨e, e2⟩
            · refine WKX @hbR ?_; try with_reducible exact trivial
              refine dfun (show DFun Try.prog f_slot_Right [.agg (voteC m.vote)] (boolD (decide (RightV m.vote))) from sright_d m.vote) fun n4 h4 => ?_
              by_cases hR : RightV m.vote
              · rw [decide_eq_true hR]
                rcases (by omega : m.vote.ballot = m.ballot ∨ m.vote.ballot ≠ m.ballot) with g | g
                · rw [decide_eq_true (hRM.2 ⟨fun _ => ⟨hR, g⟩, fun h => by omega, fun h => absurd e h⟩)]
                  refine WKX @hbR ?_; try with_reducible exact trivial
                  exact dret0 ⟨rfl, rfl⟩
                · rw [decide_eq_false (fun h => g ((hRM.1 h).1 e).2)]
                  refine WKX @hbR ?_; try with_reducible exact trivial
                  exact dret0 ⟨rfl, rfl⟩
              · rw [decide_eq_false hR, decide_eq_false (fun h => hR ((hRM.1 h).1 e).1)]
                refine WKX @hbR ?_; try with_reducible exact trivial
                repeat ((first | refine dgc_d' (boolD true) ?_ | refine dldg_f ?_); refine WK ?_; try with_reducible exact trivial)
                exact dret0 ⟨rfl, rfl⟩
            · refine WKX @hbR ?_; try with_reducible exact trivial
              refine dfun (in_d m.slot 64) fun n4 h4 => ?_
              refine WKX @hbR ?_; try with_reducible exact trivial
              exact dret0 ⟨by rw [show decide (RightMsg m) = decide (0 ≤ m.slot ∧ m.slot < 64) from decide_eq_decide.2 ⟨fun h => (hRM.1 h).2.1 e, fun h => hRM.2 ⟨fun h => by omega, fun _ => h, fun _ h => absurd e h⟩⟩], rfl⟩
            · refine WKX @hbR ?_; try with_reducible exact trivial
              refine dfun (rising_d m.votes m.ballot hl) fun n4 h4 => ?_
              refine WKX @hbR ?_; try with_reducible exact trivial
              exact dret0 ⟨by rw [show decide (RightMsg m) = decide (RiseP m.votes m.ballot) from decide_eq_decide.2 ⟨fun h => (hRM.1 h).2.2 e e2, fun h => hRM.2 ⟨fun h => absurd h e, fun h => absurd h e2, fun _ _ => h⟩⟩], rfl⟩
          · rw [decide_eq_false hB, decide_eq_false (fun h => hB h.2.2.2.2.1)]
            refine WKX @hbR ?_; try with_reducible exact trivial
            exact dret0 ⟨rfl, rfl⟩
      · rw [decide_eq_false ht, decide_eq_false (fun h => ht h.2.2.1)]
        refine WKX @hbR ?_; try with_reducible exact trivial
        repeat ((first | refine dgc_d' (boolD true) ?_ | refine dldg_f ?_); refine WK ?_; try with_reducible exact trivial)
        exact dret0 ⟨rfl, rfl⟩
    · rw [decide_eq_false hf, decide_eq_false (fun h => hf h.2.1)]
      refine WK ?_; try with_reducible exact trivial
      repeat ((first | refine dgc_d' (boolD true) ?_ | refine dldg_f ?_); refine WK ?_; try with_reducible exact trivial)
      exact dret0 ⟨rfl, rfl⟩
end Go.Proofs.Ytgpkbldlkadnjaa
end
section
/- Contracts over data: the reference's messages: which are right, the same, small. -/
set_option linter.unusedVariables false
set_option linter.unusedSimpArgs false
set_option maxHeartbeats 3000000
attribute [local irreducible] Go.Sl.Chk Go.Sl.Br Go.Sl.Or2 Go.Sl.Ld Go.Sl.Ldn Go.Sl.LdB Go.Sl.Stn Go.Sl.New Go.Sl.Run Go.Sl.RunU Go.Sl.RunX Go.Sl.Call Go.Sl.LoopK Go.Sl.RawK Go.Sl.Alt Go.Sl.Om Go.Sl.xpk Go.Sl.xgpk Go.Sl.xglk Go.Sl.DLd Go.Sl.DLdG Go.Sl.DBs Go.Sl.DCall Go.Sl.DApp Go.Sl.DGen Go.Sl.DGenU Go.Sl.DGC Go.Sl.DLoop Go.Sl.DRaw Go.Sl.DRet Go.Sl.Ent Go.Sl.dget Go.Sl.dv Go.Sl.ev Go.Sl.eget
namespace Go.Proofs.Ytgpkbldlkadnjaa
open Go Go.Sl Go.RowKit
instance : DecidableEq MsgS := fun a b => by
  cases a; cases b
  exact decidable_of_iff _ (MsgS.mk.injEq ..).to_iff.symm
theorem dneqT_vote {x y : Operand} {dst : Option Nat} {t2 ty : TypeId} {pos : String} {af : Array Edge} {gu} {de : DEnv} {r : Roots} {nx : Nat} {held : List Nat} {K : D → Roots → Nat → Prop} {tg : TagF K} {u v : VoteS} (hx : ToldAs de r x (voteC u)) (hy : ToldAs de r y (voteC v)) (k : K (boolD (!decide (u = v))) r nx) : DGen Try.prog ⟨dst, .binOp .neq t_api_Vote x y t2, ty, pos, af, gu⟩ de held r nx K tg := by
  unfold DGen
  intro E w Z T F en h he
  obtain ⟨a, ha, ra⟩ := hx.rs h.roots he
  obtain ⟨b, hb, rb⟩ := hy.rs h.roots he
  simp only [voteC, Rs, RsL] at ra rb
  obtain ⟨_, rfl, _, _, rfl, rfl, _, _, rfl, rfl, _, _, rfl, rfl, _, _, rfl, rfl, _, _, rfl, rfl, rfl⟩ := ra
  obtain ⟨_, rfl, _, _, rfl, rfl, _, _, rfl, rfl, _, _, rfl, rfl, _, _, rfl, rfl, _, _, rfl, rfl, rfl⟩ := rb
  refine ⟨by simp [Op.operands, known, ha, hb], ?_⟩
  unfold RunX
  refine .inl ⟨.bool (!decide (u = v)), w, ?_, _, _, _, _, _, _, h, Grow.refl _ _ _ _ _, by simp only [Rs], k⟩
  simp [execOp, rho, ha, hb, Sem.run_bind]
  rw [run_eqGuard_agg w .neq t_api_Vote x y _ _ (by kernel_rfl)]
  simp only [Result.andThen_ok]
  rw [run_neq_struct, eqV, vote_beq]
  simp only [Result.andThen_ok]
theorem rightMsg_num {m : MsgS} (h : RightMsg m) : (1 ≤ m.kind ∧ m.kind ≤ 5) ∧ (0 ≤ m.frm ∧ m.frm ≤ 6) ∧ (0 ≤ m.to ∧ m.to ≤ 6) ∧ 1 ≤ m.ballot ∧ m.ballot ≤ 2147483647 := by
  obtain ⟨h1, h2, h3, h4, _⟩ := h
  omega
set_option maxRecDepth 100000 in
theorem rright19_d (m : MsgS) (hl : m.votes.length ≤ 1000000) : DFun Try.prog f_ref19_Right [.agg (msgC m)] (boolD (decide (RightMsg m))) := by
  intro nx
  refine xcalls c_ref19_Right (by simp only [m_ref19_Right, List.length]; decide) ?_
  simp only [msgC]
  rcases (by omega : (m.kind < 1) ∨ (1 ≤ m.kind ∧ 5 < m.kind) ∨ ((1 ≤ m.kind ∧ m.kind ≤ 5) ∧ m.frm < 0) ∨ ((1 ≤ m.kind ∧ m.kind ≤ 5) ∧ 0 ≤ m.frm ∧ 6 < m.frm) ∨ ((1 ≤ m.kind ∧ m.kind ≤ 5) ∧ (0 ≤ m.frm ∧ m.frm ≤ 6) ∧ m.to < 0) ∨ ((1 ≤ m.kind ∧ m.kind ≤ 5) ∧ (0 ≤ m.frm ∧ m.frm ≤ 6) ∧ 0 ≤ m.to ∧ 6 < m.to) ∨ ((1 ≤ m.kind ∧ m.kind ≤ 5) ∧ (0 ≤ m.frm ∧ m.frm ≤ 6) ∧ (0 ≤ m.to ∧ m.to ≤ 6) ∧ m.ballot < 1) ∨ ((1 ≤ m.kind ∧ m.kind ≤ 5) ∧ (0 ≤ m.frm ∧ m.frm ≤ 6) ∧ (0 ≤ m.to ∧ m.to ≤ 6) ∧ 1 ≤ m.ballot ∧ 2147483647 < m.ballot) ∨ ((1 ≤ m.kind ∧ m.kind ≤ 5) ∧ (0 ≤ m.frm ∧ m.frm ≤ 6) ∧ (0 ≤ m.to ∧ m.to ≤ 6) ∧ 1 ≤ m.ballot ∧ m.ballot ≤ 2147483647)) with hn | hn | hn | hn | hn | hn | hn | hn | ⟨⟨k1, k2⟩, ⟨f1, f2⟩, ⟨t1, t2⟩, b1, b2⟩
  · rw [decide_eq_false (fun h => by have := rightMsg_num h; omega)]
    simp only [m_ref19_Right]; refine WK ?_; try with_reducible exact trivial
    repeat ((first | refine dgc_d' (boolD true) ?_ | refine dldg_f ?_); refine WK ?_; try with_reducible exact trivial)
    exact dret0 ⟨rfl, rfl⟩
  · rw [decide_eq_false (fun h => by have := rightMsg_num h; omega)]
    simp only [m_ref19_Right]; refine WK ?_; try with_reducible exact trivial
    repeat ((first | refine dgc_d' (boolD true) ?_ | refine dldg_f ?_); refine WK ?_; try with_reducible exact trivial)
    exact dret0 ⟨rfl, rfl⟩
  · rw [decide_eq_false (fun h => by have := rightMsg_num h; omega)]
    simp only [m_ref19_Right]; refine WK ?_; try with_reducible exact trivial
    repeat ((first | refine dgc_d' (boolD true) ?_ | refine dldg_f ?_); refine WK ?_; try with_reducible exact trivial)
    exact dret0 ⟨rfl, rfl⟩
  · rw [decide_eq_false (fun h => by have := rightMsg_num h; omega)]
    simp only [m_ref19_Right]; refine WK ?_; try with_reducible exact trivial
    repeat ((first | refine dgc_d' (boolD true) ?_ | refine dldg_f ?_); refine WK ?_; try with_reducible exact trivial)
    exact dret0 ⟨rfl, rfl⟩
  · rw [decide_eq_false (fun h => by have := rightMsg_num h; omega)]
    simp only [m_ref19_Right]; refine WK ?_; try with_reducible exact trivial
    repeat ((first | refine dgc_d' (boolD true) ?_ | refine dldg_f ?_); refine WK ?_; try with_reducible exact trivial)
    exact dret0 ⟨rfl, rfl⟩
  · rw [decide_eq_false (fun h => by have := rightMsg_num h; omega)]
    simp only [m_ref19_Right]; refine WK ?_; try with_reducible exact trivial
    repeat ((first | refine dgc_d' (boolD true) ?_ | refine dldg_f ?_); refine WK ?_; try with_reducible exact trivial)
    exact dret0 ⟨rfl, rfl⟩
  · rw [decide_eq_false (fun h => by have := rightMsg_num h; omega)]
    simp only [m_ref19_Right]; refine WK ?_; try with_reducible exact trivial
    repeat ((first | refine dgc_d' (boolD true) ?_ | refine dldg_f ?_); refine WK ?_; try with_reducible exact trivial)
    exact dret0 ⟨rfl, rfl⟩
  · rw [decide_eq_false (fun h => by have := rightMsg_num h; omega)]
    simp only [m_ref19_Right]; refine WK ?_; try with_reducible exact trivial
    repeat ((first | refine dgc_d' (boolD true) ?_ | refine dldg_f ?_); refine WK ?_; try with_reducible exact trivial)
    exact dret0 ⟨rfl, rfl⟩
  · have hRM : BareM m → (RightMsg m ↔ (m.kind = 3 → RightV m.vote ∧ m.vote.ballot = m.ballot) ∧ (m.kind = 4 → 0 ≤ m.slot ∧ m.slot < 64) ∧ (m.kind ≠ 3 → m.kind ≠ 4 → RiseP m.votes m.ballot)) := fun hB =>
      ⟨fun h => h.2.2.2.2.2, fun h => ⟨⟨k1, k2⟩, ⟨f1, by omega⟩, ⟨t1, by omega⟩, ⟨b1, b2⟩, hB, h⟩⟩
    have hnB : ¬ BareM m → decide (RightMsg m) = false := fun h => decide_eq_false fun k => h k.2.2.2.2.1
    have hnil : m.votes.length = 0 → RiseP m.votes m.ballot := fun h => by rw [List.eq_nil_of_length_eq_zero h]; exact rise_nil _
    rcases (by omega : (m.kind ≠ 2 ∧ 0 < m.votes.length) ∨ (m.kind = 3 ∧ m.votes.length = 0) ∨ (m.kind = 2) ∨ (m.kind = 4 ∧ m.votes.length = 0) ∨ (m.kind ≠ 2 ∧ m.kind ≠ 3 ∧ m.kind ≠ 4 ∧ m.votes.length = 0)) with ⟨e, hv⟩ | ⟨e, hv⟩ | e | ⟨e, hv⟩ | ⟨e, e3, e4, hv⟩
    · rw [hnB (by unfold BareM; omega)]
      simp only [m_ref19_Right]; refine WK ?_; try with_reducible exact trivial
      repeat ((first | refine dgc_d' (boolD true) ?_ | refine dldg_f ?_); refine WK ?_; try with_reducible exact trivial)
      exact dret0 ⟨rfl, rfl⟩
    · rcases (by omega : m.slot = 0 ∨ m.slot ≠ 0) with hs | hs
      · have hB : BareM m := by unfold BareM; omega
        simp only [m_ref19_Right]; refine WK ?_; try with_reducible exact trivial
        repeat ((first | refine dgc_d' (boolD true) ?_ | refine dldg_f ?_); refine WK ?_; try with_reducible exact trivial)
        refine dloop [1, 3] (fun s : Nat => ([(1, .hp nx 0), (3, iD 0)], [(nx, .box t_api_Msg (msgC m))], nx + 1)) (fun _ => True) (fun _ => 0) 0 trivial (Ent.of (by with_unfolding_all rfl) rfl) ?_
        rintro s -
        simp only [msgC]
        refine WK ?_; try with_reducible exact trivial
        repeat ((first | refine dgc_d' (boolD true) ?_ | refine dldg_f ?_); refine WK ?_; try with_reducible exact trivial)
        refine dfun (show DFun Try.prog f_ref17_Right [.agg (voteC m.vote)] (boolD (decide (RightV m.vote))) from vright_d m.vote) fun n4 h4 => ?_
        by_cases hR : RightV m.vote
        · rw [decide_eq_true hR]
          rcases (by omega : m.vote.ballot = m.ballot ∨ m.vote.ballot ≠ m.ballot) with g | g
          · rw [decide_eq_true ((hRM hB).2 ⟨fun _ => ⟨hR, g⟩, fun h => by omega, fun h => absurd e h⟩)]
            refine WK ?_; try with_reducible exact trivial
            repeat ((first | refine dgc_d' (boolD true) ?_ | refine dldg_f ?_); refine WK ?_; try with_reducible exact trivial)
            exact dret0 ⟨rfl, rfl⟩
          · rw [decide_eq_false (fun h => g (((hRM hB).1 h).1 e).2)]
            refine WK ?_; try with_reducible exact trivial
            repeat ((first | refine dgc_d' (boolD true) ?_ | refine dldg_f ?_); refine WK ?_; try with_reducible exact trivial)
            exact dret0 ⟨rfl, rfl⟩
        · rw [decide_eq_false hR, decide_eq_false (fun h => hR (((hRM hB).1 h).1 e).1)]
          refine WK ?_; try with_reducible exact trivial
          repeat ((first | refine dgc_d' (boolD true) ?_ | refine dldg_f ?_); refine WK ?_; try with_reducible exact trivial)
          exact dret0 ⟨rfl, rfl⟩
      · rw [hnB (by unfold BareM; omega)]
        simp only [m_ref19_Right]; refine WK ?_; try with_reducible exact trivial
        repeat ((first | refine dgc_d' (boolD true) ?_ | refine dldg_f ?_); refine WK ?_; try with_reducible exact trivial)
        exact dret0 ⟨rfl, rfl⟩
    · simp only [m_ref19_Right]; refine WK ?_; try with_reducible exact trivial
      repeat ((first | refine dgc_d' (boolD true) ?_ | refine dldg_f ?_); refine WK ?_; try with_reducible exact trivial)
      refine dneqT_vote (u := m.vote) (v := zeroV) ?_ ?_ ?_
      · refine .inl ?_
        refine WK ?_; try with_reducible exact trivial
        rfl
      · refine .inr ?_
        refine WK ?_; try with_reducible exact trivial
        rfl
      by_cases hz : m.vote = zeroV
      · rw [decide_eq_true hz]
        rcases (by omega : m.slot = 0 ∨ m.slot ≠ 0) with hs | hs
        · have hB : BareM m := by unfold BareM; grind
          refine WK ?_; try with_reducible exact trivial
          repeat ((first | refine dgc_d' (boolD true) ?_ | refine dldg_f ?_); refine WK ?_; try with_reducible exact trivial)
          refine dloop [1, 3] (fun s : Nat × Nat => ([(1, .hp nx 0), (3, iD (s.1 : Nat))], [(nx, .box t_api_Msg (msgC m))], s.2)) (fun s => s.1 ≤ m.votes.length ∧ nx < s.2 ∧ ∀ i, i < s.1 → RiseAt m.votes m.ballot i) (fun s => m.votes.length - s.1) (0, nx + 1) ⟨by omega, by dsimp only; omega, by simp⟩ (Ent.of (by with_unfolding_all rfl) rfl) ?_
          rintro ⟨k, n⟩ ⟨q1, q0, q2⟩
          dsimp only at q1 q0 q2 ⊢
          simp only [msgC]
          refine WK ?_; try with_reducible exact trivial
          refine brd (fun hlt => ?_) (fun hge => ?_)
          · have hk : k < m.votes.length := by omega
            have hta : ((votesC m.votes).drop (k * 5)).take 5 = voteC (gt m.votes k) := flatC_take voteC_len m.votes hk
            have h5 : 5 ≤ ((votesC m.votes).drop (k * 5)).length := by rw [List.length_drop, votesC_length]; omega
            have e0 := votes_get m.votes (k := 0) hk (by omega)
            have e1 := votes_get m.votes (k := 1) hk (by omega)
            simp only [voteC, List.getElem?_cons_zero, List.getElem?_cons_succ, Nat.add_zero] at e0 e1
            have hno : ¬ RiseAt m.votes m.ballot k → decide (RightMsg m) = false := fun h => decide_eq_false fun hp => h (((hRM hB).1 hp).2.2 (by omega) (by omega) k hk)
            have hyes : RiseAt m.votes m.ballot k → ∀ i, i < k + 1 → RiseAt m.votes m.ballot i := fun h i hi => by
              rcases Nat.lt_or_ge i k with g | g
              · exact q2 i g
              · rw [show i = k by omega]; exact h
            refine WKX @hta ?_; try with_reducible exact trivial
            refine dfun (vright_d (gt m.votes k)) fun n2 h2 => ?_
            by_cases hR : RightV (gt m.votes k)
            · rw [decide_eq_true hR]
              rcases (by omega : m.ballot ≤ (gt m.votes k).ballot ∨ (gt m.votes k).ballot < m.ballot) with hb | hb
              · rw [hno (fun h => by have := h.2.1; omega)]
                rcases Nat.eq_zero_or_pos k with h0 | h0
                · subst h0
                  refine WKX (And.intro @e0 @e1) ?_; try with_reducible exact trivial
                  repeat ((first | refine dgc_d' (boolD true) ?_ | refine dldg_f ?_); refine WK ?_; try with_reducible exact trivial)
                  exact dret0 ⟨rfl, rfl⟩
                · refine WKX (And.intro @e0 @e1) ?_; try with_reducible exact trivial
                  repeat ((first | refine dgc_d' (boolD true) ?_ | refine dldg_f ?_); refine WK ?_; try with_reducible exact trivial)
                  exact dret0 ⟨rfl, rfl⟩
              · rcases Nat.eq_zero_or_pos k with h0 | h0
                · subst h0
                  refine WKX (And.intro @e0 @e1) ?_; try with_reducible exact trivial
                  repeat ((first | refine dgc_d' (boolD true) ?_ | refine dldg_f ?_); refine WK ?_; try with_reducible exact trivial)
                  exact ⟨(0 + 1, n2), ⟨by dsimp only; omega, by dsimp only; omega, hyes ⟨hR, hb, fun h => absurd h (by omega)⟩⟩, by dsimp only; omega, (Ent.of (by with_unfolding_all rfl) rfl)⟩
                · have em := votes_before m.votes hk h0
                  rcases (by omega : (gt m.votes k).slot ≤ (gt m.votes (k - 1)).slot ∨ (gt m.votes (k - 1)).slot < (gt m.votes k).slot) with hs2 | hs2
                  · rw [hno (fun h => by have := h.2.2 h0; omega)]
                    refine WKX (And.intro @em (And.intro @e0 @e1)) ?_; try with_reducible exact trivial
                    repeat ((first | refine dgc_d' (boolD true) ?_ | refine dldg_f ?_); refine WK ?_; try with_reducible exact trivial)
                    exact dret0 ⟨rfl, rfl⟩
                  · refine WKX (And.intro @em (And.intro @e0 @e1)) ?_; try with_reducible exact trivial
                    repeat ((first | refine dgc_d' (boolD true) ?_ | refine dldg_f ?_); refine WK ?_; try with_reducible exact trivial)
                    exact ⟨(k + 1, n2), ⟨by dsimp only; omega, by dsimp only; omega, hyes ⟨hR, hb, fun _ => hs2⟩⟩, by dsimp only; omega, (Ent.of (by with_unfolding_all rfl) rfl)⟩
            · rw [decide_eq_false hR, hno (fun h => hR h.1)]
              rcases Nat.eq_zero_or_pos k with h0 | h0
              · subst h0
                refine WK ?_; try with_reducible exact trivial
                repeat ((first | refine dgc_d' (boolD true) ?_ | refine dldg_f ?_); refine WK ?_; try with_reducible exact trivial)
                exact dret0 ⟨rfl, rfl⟩
              · refine WK ?_; try with_reducible exact trivial
                repeat ((first | refine dgc_d' (boolD true) ?_ | refine dldg_f ?_); refine WK ?_; try with_reducible exact trivial)
                exact dret0 ⟨rfl, rfl⟩
          · rw [decide_eq_true ((hRM hB).2 ⟨fun h => by omega, fun h => by omega, fun _ _ i hi => q2 i (by omega)⟩)]
            refine WK ?_; try with_reducible exact trivial
            repeat ((first | refine dgc_d' (boolD true) ?_ | refine dldg_f ?_); refine WK ?_; try with_reducible exact trivial)
            exact dret0 ⟨rfl, rfl⟩
        · rw [hnB (by unfold BareM; omega)]
          refine WK ?_; try with_reducible exact trivial
          repeat ((first | refine dgc_d' (boolD true) ?_ | refine dldg_f ?_); refine WK ?_; try with_reducible exact trivial)
          exact dret0 ⟨rfl, rfl⟩
      · rw [decide_eq_false hz, hnB (by unfold BareM; grind)]
        refine WK ?_; try with_reducible exact trivial
        repeat ((first | refine dgc_d' (boolD true) ?_ | refine dldg_f ?_); refine WK ?_; try with_reducible exact trivial)
        exact dret0 ⟨rfl, rfl⟩
    · simp only [m_ref19_Right]; refine WK ?_; try with_reducible exact trivial
      repeat ((first | refine dgc_d' (boolD true) ?_ | refine dldg_f ?_); refine WK ?_; try with_reducible exact trivial)
      refine dneqT_vote (u := m.vote) (v := zeroV) ?_ ?_ ?_
      · refine .inl ?_
        refine WK ?_; try with_reducible exact trivial
        rfl
      · refine .inr ?_
        refine WK ?_; try with_reducible exact trivial
        rfl
      by_cases hz : m.vote = zeroV
      · rw [decide_eq_true hz]
        have hB : BareM m := by unfold BareM; grind
        refine WK ?_; try with_reducible exact trivial
        repeat ((first | refine dgc_d' (boolD true) ?_ | refine dldg_f ?_); refine WK ?_; try with_reducible exact trivial)
        refine dloop [1, 3] (fun s : Nat => ([(1, .hp nx 0), (3, iD 0)], [(nx, .box t_api_Msg (msgC m))], nx + 1)) (fun _ => True) (fun _ => 0) 0 trivial (Ent.of (by with_unfolding_all rfl) rfl) ?_
        rintro s -
        simp only [msgC]
        rcases (by omega : m.slot < 0 ∨ (0 ≤ m.slot ∧ 63 < m.slot) ∨ (0 ≤ m.slot ∧ m.slot ≤ 63)) with hs | hs | hs
        · rw [decide_eq_false (fun h => by have := ((hRM hB).1 h).2.1 e; omega)]
          refine WK ?_; try with_reducible exact trivial
          repeat ((first | refine dgc_d' (boolD true) ?_ | refine dldg_f ?_); refine WK ?_; try with_reducible exact trivial)
          exact dret0 ⟨rfl, rfl⟩
        · rw [decide_eq_false (fun h => by have := ((hRM hB).1 h).2.1 e; omega)]
          refine WK ?_; try with_reducible exact trivial
          repeat ((first | refine dgc_d' (boolD true) ?_ | refine dldg_f ?_); refine WK ?_; try with_reducible exact trivial)
          exact dret0 ⟨rfl, rfl⟩
        · rw [decide_eq_true ((hRM hB).2 ⟨fun h => by omega, fun _ => by omega, fun _ h => absurd e h⟩)]
          refine WK ?_; try with_reducible exact trivial
          repeat ((first | refine dgc_d' (boolD true) ?_ | refine dldg_f ?_); refine WK ?_; try with_reducible exact trivial)
          exact dret0 ⟨rfl, rfl⟩
      · rw [decide_eq_false hz, hnB (by unfold BareM; grind)]
        refine WK ?_; try with_reducible exact trivial
        repeat ((first | refine dgc_d' (boolD true) ?_ | refine dldg_f ?_); refine WK ?_; try with_reducible exact trivial)
        exact dret0 ⟨rfl, rfl⟩
    · simp only [m_ref19_Right]; refine WK ?_; try with_reducible exact trivial
      repeat ((first | refine dgc_d' (boolD true) ?_ | refine dldg_f ?_); refine WK ?_; try with_reducible exact trivial)
      refine dneqT_vote (u := m.vote) (v := zeroV) ?_ ?_ ?_
      · refine .inl ?_
        refine WK ?_; try with_reducible exact trivial
        rfl
      · refine .inr ?_
        refine WK ?_; try with_reducible exact trivial
        rfl
      by_cases hz : m.vote = zeroV
      · rw [decide_eq_true hz]
        rcases (by omega : m.slot = 0 ∨ m.slot ≠ 0) with hs | hs
        · have hB : BareM m := by unfold BareM; grind
          refine WK ?_; try with_reducible exact trivial
          repeat ((first | refine dgc_d' (boolD true) ?_ | refine dldg_f ?_); refine WK ?_; try with_reducible exact trivial)
          refine dloop [1, 3] (fun s : Nat => ([(1, .hp nx 0), (3, iD 0)], [(nx, .box t_api_Msg (msgC m))], nx + 1)) (fun _ => True) (fun _ => 0) 0 trivial (Ent.of (by with_unfolding_all rfl) rfl) ?_
          rintro s -
          simp only [msgC]
          rw [decide_eq_true ((hRM hB).2 ⟨fun h => absurd h e3, fun h => absurd h e4, fun _ _ => hnil hv⟩)]
          refine WK ?_; try with_reducible exact trivial
          repeat ((first | refine dgc_d' (boolD true) ?_ | refine dldg_f ?_); refine WK ?_; try with_reducible exact trivial)
          exact dret0 ⟨rfl, rfl⟩
        · rw [hnB (by unfold BareM; omega)]
          refine WK ?_; try with_reducible exact trivial
          repeat ((first | refine dgc_d' (boolD true) ?_ | refine dldg_f ?_); refine WK ?_; try with_reducible exact trivial)
          exact dret0 ⟨rfl, rfl⟩
      · rw [decide_eq_false hz, hnB (by unfold BareM; grind)]
        refine WK ?_; try with_reducible exact trivial
        repeat ((first | refine dgc_d' (boolD true) ?_ | refine dldg_f ?_); refine WK ?_; try with_reducible exact trivial)
        exact dret0 ⟨rfl, rfl⟩
end Go.Proofs.Ytgpkbldlkadnjaa
end
