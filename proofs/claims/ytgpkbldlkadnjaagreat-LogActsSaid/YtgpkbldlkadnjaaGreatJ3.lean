/- The walk over data: functions that answer something new that is owned; a string's bytes appended; zeros appended to nil. -/
import Derived.Test.YtgpkbldlkadnjaaGreatJ2
import Derived.Test.YtgpkbldlkadnjaaGreatJ1
import Derived.RangeFuncSeq
import Derived.RangeFuncLeaves
import Derived.JoinedOf
import Derived.KernelRfl
import Derived.Test.YtgpkbldlkadnjaaGreatRows
import Derived.WalkKit
import Derived.ProofKit
import Derived.ShutString
import Derived.RowKit
import Derived.OpenShut
import Derived.SizedLaws
import Derived.Deep.Matrix
import Derived.ChangeOld
import Derived.Below
import Derived.ChangeSame
import Derived.ChangeArms
import Derived.DataReads
import Derived.Test.YtgpkbldlkadnjaaGreatChecked
import Derived.RangeFuncBox
import Derived.RangeFuncFrom
import Derived.OwnWalkIn
import Derived.TacticsInMore
import Derived.LoopNIn
import Derived.LoopIn
set_option linter.unusedVariables false
set_option linter.unusedSimpArgs false
section
namespace Go.Sl
open Go.RowKit
variable {E : En} {w w' : World} {Z Z' : Nat → Prop} {T T' : Nat → Option Value} {F : Nat → Nat} {r : Ad} {nx : Nat}
variable {P : Program} {held : List Nat} {e e' : Env} {de : DEnv} {K : D → Ad → Nat → Prop}
def MB (P : Program) (f : FuncId) (ds : List D) (g : Nat → D) (t : D) : Prop := ∀ nx, D9 P f ds [] nx (fun d r' nx' => ∃ i, nx ≤ i ∧ i < nx' ∧ d = g i ∧ r' = [(i, t)])
theorem Rz {f : FuncId} {ds : List D} {g : Nat → D} {t : D} {tg : A7 K} (h : MB P f ds g t) (k : ∀ i nx', nx ≤ i → i < nx' → K (g i) ((i, t) :: r) nx') : AO P f ds held r nx K tg :=
 Adf (h nx) fun d ro nx' _ ⟨i, h1, h2, h3, h4⟩ => by subst h3; subst h4; exact k i nx' h1 h2
theorem MB.fn {f : FuncId} {ds : List D} {e s n : Nat} {l : List D} {d : D} (h : MB P f ds (fun i => .h i) (.row e s n l)) (ho : Jj l) (hd : d = .sl n (PS l)) : DJ P f ds d := by
 subst hd
 intro nx w Z T F vs ok hrs
 refine (h nx w Z T F vs ok hrs).mono fun en w' ⟨v, hv, d, r', nx', Z', T', F', o, hd, i, h1, h2, h3, h4⟩ => ?_
 subst h3; subst h4
 obtain ⟨Z2, F2, o2, z2⟩ := RT.frz i (d := .row e s n l) (Aa _ _ _) (by simpa only [JW] using ho) _ _ _ _ _ _ o
 rw [A8] at o2
 have hd2 := L8 o2.roots (Rs.keep (w' := w') (fun _ _ => rfl) z2 (fun _ _ h => h) _ _ hd)
 simp only [Dx, Aa, frzR, Sl.frz] at hd2
 obtain ⟨F3, o3⟩ := o2.del (i := i)
 rw [Ai] at o3
 exact ⟨v, hv, _, [], nx', Z2, T', F3, o3, hd2, rfl, rfl⟩
/-! ### a string's bytes appended -/
theorem AbH {t tu ty e n : Nat} {z : Value} {y : D} {s : ByteArray} {l : List D} {rr : Ad} {tg : A7 K} (hel : El P t e 1 1 z) (hz : z = .int .u8 0) (hu : P.underlying tu = some .string) (hb : n + s.size ≤ 140737488355328)
  (hh : ∀ j ∈ held, heldOk r j → heldOk rr j)
  (hy : ∀ (w : World) (Z : Nat → Prop) (T : Nat → Option Value) (F : Nat → Nat) (v : Value), RL w Z T r F → Rs w Z T y v → ∃ us G F2, Ow w e 1 v n us ∧ RoL w Z T l us G ∧ RL w Z T rr F2 ∧ ∀ b, F b = G b + own v b + F2 b)
  (k : K (.h nx) ((nx, .row e 1 (n + s.size) (l ++ (Ef s).map .sc)) :: rr) (nx + 1)) : Cf P #[t, tu] ty y (.sc (.string s)) held r nx K tg := by
 intro E w Z T F u v h hu' hv
 obtain ⟨us, G, F2, a1, a2, a3, a4⟩ := hy w Z T F u h.roots hu'
 simp only [Rs] at hv
 subst hv
 obtain ⟨v', w', hrun, hK⟩ := AeL (P := P) (K := fun v' w' => Ow w' e 1 v' (n + s.size) (us ++ Ef s) ∧ Fr (fun b => u.ownBlock = some b) w w' ∧ (v'.ownBlock = u.ownBlock ∨ ∃ b, v'.ownBlock = some b ∧ w.heap.size ≤ b ∧ b < w'.heap.size)) (ty := ty) (tg := .mk _) hel hz hu a1 s hb (fun v' w' c1 c2 c3 => ⟨c1, c2, c3⟩)
 obtain ⟨c1, c2, c3⟩ := hK
 rw [Ow.own a1] at c2 c3
 rw [Ow.own c1] at c3
 have hsame : ∀ b, b < w.heap.size → own u b = 0 → w'.heap[b]? = w.heap[b]? := fun b hb ho => c2.same b hb fun e => by rw [PD.2 e] at ho; cases ho
 have hT := Ey (v := v') (h.t nx (Nat.le_refl _))
 have hc : v'.oneCell' = true := by rcases Ow.form c1 with ⟨rfl, _⟩ | ⟨_, _, _, rfl, _⟩ <;> rfl
 have hzs : ∀ b, Z b → w'.heap[b]? = w.heap[b]? := fun b hb => by
  have h5 := h.zlt b hb; have := a4 b
  exact hsame b h5.1 (by omega)
 have hro : Ro w' Z (Ei T nx v') (.row e 1 (n + s.size) (l ++ (Ef s).map .sc)) v' (fun b => G b + own v' b) := by
  simp only [Ro]
  refine ⟨us ++ Ef s, G, c1, ?_, fun b => rfl⟩
  have e1 := RoL.keep (w' := w') (fun _ h => h) hT _ _ _ (fun b hb => by
   rcases hb with hb | hb
   ·have := a4 b; have := h.one b; have := Nc u b
    exact hsame b (h.lt b (by omega)) (by omega)
   ·exact hzs b hb) a2
  exact e1.append (RoL.of (RsL.sc _))
 obtain ⟨o1, o2⟩ := h.reown (held := held) a4 a3 hh c2 c3 hc hro
 exact ⟨v', w', hrun, _, _, _, _, _, _, o1, o2, by simp only [Rs]; exact Bi _ _ _, k⟩
theorem AcI {i e s n : Nat} {l : List D} (hg : AP r i = some (.row e s n l)) : ∀ (w : World) (Z : Nat → Prop) (T : Nat → Option Value) (F : Nat → Nat) (v : Value), RL w Z T r F → Rs w Z T (.h i) v → ∃ us G F2, Ow w e s v n us ∧ RoL w Z T l us G ∧ RL w Z T (Ej r i) F2 ∧ ∀ b, F b = G b + own v b + F2 b := fun w Z T F v hr hv => by
 obtain ⟨u, F1, F2, h1, h2, h3, h4, _⟩ := hr.get hg
 simp only [Rs] at hv
 rw [hv] at h1
 cases h1
 simp only [Ro] at h2
 obtain ⟨us, G, a1, a2, a3⟩ := h2
 exact ⟨us, G, F2, a1, a2, h4, fun b => by rw [h3, a3]⟩
theorem Adg {t tu ty e n i : Nat} {z : Value} {s : ByteArray} {l : List D} {tg : A7 K} (hel : El P t e 1 1 z) (hz : z = .int .u8 0) (hu : P.underlying tu = some .string) (hg : AP r i = some (.row e 1 n l)) (hb : n + s.size ≤ 140737488355328) (hh : i ∉ held)
  (k : K (.h nx) ((nx, .row e 1 (n + s.size) (l ++ (Ef s).map .sc)) :: Ej r i) (nx + 1)) : Cf P #[t, tu] ty (.h i) (.sc (.string s)) held r nx K tg :=
 AbH hel hz hu hb (fun j hj ho => Rf (fun e => hh (by rw [e]; exact hj)) ho) (AcI hg) k
theorem Y8 (s : List UInt8) : (Ef ⟨s.toArray⟩).map D.sc = s.map bD := by
 simp [Ef, bD, U8]
theorem ZX {t ti ty e s bytes : Nat} {z : Value} {m : Nat} {tg : A7 K} (hel : El P t e s bytes z) (hu : P.underlying ti = some (.int .i64)) (h0 : 0 < m) (hm : m ≤ 9223372036854775807) (hb : m * bytes ≤ 140737488355328)
  (k : ∀ l : List D, l.length = m * s → K (.h nx) ((nx, .row e s m l) :: r) (nx + 1)) : Cf P #[t, ti] ty (.sc (.slice none 0 0)) (.sc (.int .i64 m)) held r nx K tg := by
 intro E w Z T F u v h hu' hv
 simp only [Rs] at hu' hv
 subst hu'
 subst hv
 obtain ⟨v', w', hrun, hK⟩ := AbM (P := P) (w := w) (K := fun v' w' => ∃ cs, Ow w' e s v' m cs ∧ Fr No w w' ∧ ∃ b, v'.ownBlock = some b ∧ w.heap.size ≤ b ∧ b < w'.heap.size) (ty := ty) (tg := .mk _) hel hu h0 hm hb (fun v' w' cs c1 c2 c3 => ⟨cs, c1, c2, c3⟩)
 obtain ⟨cs, c1, c2, c3⟩ := hK
 rw [Ow.own c1] at c3
 have hc : v'.oneCell' = true := by rcases Ow.form c1 with ⟨rfl, _⟩ | ⟨_, _, _, rfl, _⟩ <;> rfl
 have hro : Ro w' Z (Ei T nx v') (.row e s m (cs.map .sc)) v' (fun b => 0 + own v' b) := by
  simp only [Ro]
  exact ⟨cs, fun _ => 0, c1, RoL.of (RsL.sc _), fun b => rfl⟩
 obtain ⟨o1, o2⟩ := h.reown (held := held) (rr := r) (G := fun _ => 0) (F2 := F) (v := .slice none 0 0) (v' := v') (w' := w') (d' := .row e s m (cs.map .sc)) (fun b => by simp [own, blk]) h.roots (fun j _ ho => ho) (c2.mono fun b _ h => h.elim) (.inr c3) hc hro
 exact ⟨v', w', hrun, _, _, _, _, _, _, o1, o2, by simp only [Rs]; exact Bi _ _ _, k _ (by rw [List.length_map]; exact c1.1)⟩
end Go.Sl
end
section
namespace Go.Sl
open Go.RowKit
variable {E : En} {w w' : World} {Z Z' : Nat → Prop} {T T' : Nat → Option Value} {F : Nat → Nat} {r : Ad} {nx : Nat}
variable {P : Program} {held : List Nat} {e e' : Env} {de : DEnv} {K : D → Ad → Nat → Prop}
theorem Yh (e s : TypeId) {Q : D → Ad → Nat → Prop} {t t' : A7 Q} (k : Ce (.h nx) ((nx, .row e s 0 []) :: r) (nx + 1) Q t') : Ce (.sc (.slice none 0 0)) r nx Q t := by
 obtain ⟨d2, r2, nx2, hv, hq⟩ := k
 refine ⟨d2, r2, nx2, fun E w Z T F v h hd => ?_, hq⟩
 simp only [Rs] at hd
 subst hd
 have hT := Ey (v := Value.slice none 0 0) (h.t nx (Nat.le_refl _))
 obtain ⟨o1, o2⟩ := h.name (held := []) (u := .slice none 0 0) (r' := (nx, .row e s 0 []) :: r) (F' := F) rfl (fun _ => rfl) ⟨_, fun _ => 0, F, Bi _ _ _, by
  simp only [Ro]
  exact ⟨[], fun _ => 0, Ow.nil _ _ _, by simp only [RoL]; exact ⟨trivial, fun _ => trivial⟩, fun b => by simp [own, blk]⟩, h.roots.keep (fun _ h => h) hT (fun _ _ => rfl), fun b => by simp⟩
 obtain ⟨Z2, T2, F2, o3, g3, hd3⟩ := hv E w Z _ F _ o1 (by simp only [Rs]; exact Bi _ _ _)
 exact ⟨Z2, T2, F2, o3, ⟨g3.zs, g3.zz, fun i u hi => g3.tt i u (hT i u hi), fun i hi => by cases hi⟩, hd3⟩
def Zy : D → D
 | .sc (.slice none 0 0) => .sl 0 []
 | d => d
def nilT : D → D
 | .tup l => .tup (l.map Zy)
 | d => Zy d
theorem Ws {d : D} {v : Value} (h : Rs w Z T d v) : Rs w Z T (Zy d) v := by
 unfold Zy
 split
 ·simp only [Rs] at h ⊢
  exact ⟨none, 0, h, Nat.le_refl _, by simp, by simp only [Fz]⟩
 ·exact h
theorem Wq : ∀ {l : List D} {us : List Value}, RsL w Z T l us → RsL w Z T (l.map Zy) us
 | [], us, h => h
 | d :: l, us, h => by
  simp only [RsL] at h
  obtain ⟨u, us', rfl, h1, h2⟩ := h
  simp only [List.map_cons, RsL]
  exact ⟨u, us', rfl, Ws h1, Wq h2⟩
theorem Gv {d : D} {Q : D → Ad → Nat → Prop} {t t' : A7 Q} (k : Ce (nilT d) r nx Q t') : Ce d r nx Q t := by
 obtain ⟨d2, r2, nx2, hv, hq⟩ := k
 refine ⟨d2, r2, nx2, fun E w Z T F v ok hd => hv E w Z T F v ok ?_, hq⟩
 cases d with
 | tup l =>
  simp only [nilT]
  simp only [Rs] at hd ⊢
  obtain ⟨us, h1, h2⟩ := hd
  exact ⟨us, h1, Wq h2⟩
 | _ => exact Ws hd
theorem OX {f : FuncId} {ds : List D} {t t' : A7 K} (k : AO P f (ds.map Zy) held r nx K t') : AO P f ds held r nx K t := fun E w Z T F vs ok hrs => k E w Z T F vs ok (Wq hrs)
theorem Ent.nilv (t : Nat) {de : DEnv} {d : D} (hd : AZ de t = some d) : Ent de r nx (dset de t (Zy d)) r nx := fun E e w ⟨Z, T, F, h, he⟩ => by
 refine ⟨Z, T, F, h, fun t' d' hd' => ?_⟩
 rw [QE] at hd'
 by_cases ht : t = t'
 ·subst ht
  rw [if_pos rfl] at hd'
  cases hd'
  obtain ⟨v, h1, h2⟩ := he t _ hd
  exact ⟨v, h1, Ws h2⟩
 ·rw [if_neg ht] at hd'
  exact he t' d' hd'
end Go.Sl
end
section
namespace Go.Sl
open Go.RowKit
variable {P : Program} {n : Nat} {E : En} {w : World} {Z : Nat → Prop} {T : Nat → Option Value} {F : Nat → Nat} {r : Ad} {nx : Nat} {e : Env} {de : DEnv}
theorem Ok.start (h : Ok E w Z T F r nx) : Ok ⟨w, Z, T, F, nx⟩ w Z T F r nx :=
 ⟨Fr.refl _ _, fun _ h => h, fun _ _ h => .inl h, fun _ _ => Nat.le_refl _, fun _ _ h => h, h.one, h.lt, h.zlt, h.t, h.cell, Nat.le_refl _, h.roots⟩
theorem Ok.join {w2 : World} {Z2 : Nat → Prop} {T2 : Nat → Option Value} {F2 : Nat → Nat} {r2 : Ad} {nx2 : Nat} (h : Ok E w Z T F r nx) (k : Ok ⟨w, Z, T, F, nx⟩ w2 Z2 T2 F2 r2 nx2) : Ok E w2 Z2 T2 F2 r2 nx2 := by
 have hs := h.fr.size
 refine ⟨h.fr.step k.fr fun b hb hF => ?_, fun b hb => k.z b (h.z b hb), fun b hb hz => ?_, fun b hb => ?_, fun i u hu => k.names i u (h.names i u hu), k.one, k.lt, k.zlt, k.t, k.cell, Nat.le_trans h.ge k.ge, k.roots⟩
 ·have := h.fo b hb; dsimp only at hF; omega
 ·rcases k.zo b (by dsimp only; omega) hz with hz | hF
  ·exact h.zo b hb hz
  ·have := h.fo b hb; dsimp only at hF; exact .inr (by omega)
 ·have h1 := k.fo b (by dsimp only; omega)
  have h2 := h.fo b hb
  dsimp only at h1
  omega
theorem Ok.turn (h : Ok E w Z T F r nx) {l : Nat} (o : Obj) (hF : F l = 0) (hZ : ¬ Z l) : Ok ⟨w.putObj l o, Z, T, F, nx⟩ (w.putObj l o) Z T F r nx := by
 refine ⟨Fr.refl _ _, fun _ h => h, fun _ _ h => .inl h, fun _ _ => Nat.le_refl _, fun _ _ h => h, h.one, fun b hb => by rw [World.putObj_size]; exact h.lt b hb, fun b hb => by rw [World.putObj_size]; exact h.zlt b hb, h.t, h.cell, Nat.le_refl _, ?_⟩
 refine h.roots.keep (fun _ h => h) (fun _ _ h => h) fun b hb => World.putObj_heap_other ?_
 rintro rfl
 rcases hb with hb | hb
 ·omega
 ·exact hZ hb
theorem Di.two {w : World} {Z : Nat → Prop} {T : Nat → Option Value} {e : Env} {de : DEnv} (h : Di w Z T e de) {s t : Nat} {a b : D} (h1 : AZ de s = some a) (h2 : AZ de t = some b) : Di w Z T e [(s, a), (t, b)] := fun q d hd => by
 simp only [IX] at hd
 split at hd
 ·rename_i e1; cases hd; subst e1; exact h _ _ h1
 ·split at hd
  ·rename_i e1; cases hd; subst e1; exact h _ _ h2
  ·simp [AZ] at hd
theorem Adk {e' : TypeId} {v : Value} {i : Nat} {d : D} {u : Value} (hr : RL w Z T r F) (hg : AP r i = some (.box e' [d])) (hu : Rs w Z T (.hp i 0) u) : ∃ b x Fx, u = .pointer (some ⟨b, 0, none⟩) ∧ w.cell? ⟨b, 0, none⟩ = some x ∧ Ro w Z T d x Fx := by
 obtain ⟨v', F1, F2, h1, h2, _⟩ := hr.get hg
 simp only [Ro] at h2
 obtain ⟨b, us, F', rfl, h3, h4, _⟩ := h2
 simp only [RoL] at h4
 obtain ⟨x, us', G1, G2, rfl, h5, ⟨rfl, _⟩, _⟩ := h4
 simp only [Rs] at hu
 obtain ⟨v2, b2, k1, k2, rfl⟩ := hu
 rw [h1] at k1
 cases k1
 simp only [blk, Option.some.injEq] at k2
 subst k2
 exact ⟨b, x, G1, rfl, by simp [World.cell?, h3], h5⟩
end Go.Sl
end
section
namespace Go.Sl
open Go.RowKit
variable {E : En} {w w' : World} {Z Z' : Nat → Prop} {T T' : Nat → Option Value} {F : Nat → Nat} {r : Ad} {nx : Nat}
end Go.Sl
end
section
namespace Go.Sl
open Go
def EP : List Char := [99, 117, 116].map Char.ofNat
theorem cw1 : (EP == "gc".toList) = false := by kernel_rfl
theorem cw2 : (EP == "spec".toList) = false := by kernel_rfl
theorem cw3 : (EP == "cut".toList) = true := by kernel_rfl
theorem cw4 : (EP == "carried".toList) = false := by kernel_rfl
theorem cw5 : (some EP == some "carried".toList) = false := by kernel_rfl
theorem cw6 : (some EP == some "cut".toList) = true := by kernel_rfl
section
variable {P : Program} {l : List Char} {rest : List (List Char)}
theorem Aeu (h0 : P.initOrder.toList = l) (h : behindMainWord (wordsSigns l) = EP :: rest) : P.make = some .cut := by
 unfold Program.make
 rw [h0, h]
 simp only [cw1, cw2, cw3, Bool.or_self, Bool.true_or, Bool.false_eq_true, if_true, if_false]
theorem WB (h0 : P.initOrder.toList = l) (h : behindMainWord (wordsSigns l) = EP :: rest) (hs : stripLifts liftWords (EP :: rest) = ([], EP :: rest)) : P.headLifts = [] := by
 unfold Program.headLifts
 rw [h0, h, hs]
 simp only [List.head?_cons, cw6, if_true]
theorem AcT (h0 : P.initOrder.toList = l) (h : behindMainWord (wordsSigns l) = EP :: rest) (hl : P.headLifts = []) : P.liftsFinal = false := by
 unfold Program.liftsFinal
 rw [h0, h, hl]
 simp only [List.head?_cons, cw5, Bool.false_and, Bool.false_or]
 rfl
theorem Ac5 (h0 : P.initOrder.toList = l) (h : behindMainWord (wordsSigns l) = EP :: rest) (hs : stripLifts liftWords (EP :: rest) = ([], EP :: rest)) (h1 : P.laysLater = false) (h2 : P.bearsReflect = false) (h3 : P.doorRows = []) : P.mayEnter = true := by
 unfold Program.mayEnter
 rw [h0, h]
 simp only [hs, cw1, cw2, cw4, cw6, h1, h2, List.head?_cons, Bool.or_self, Bool.false_and, Bool.false_or, Bool.true_and, Bool.not_false, Bool.or_true, List.contains_nil, Bool.and_true]
 unfold Program.doorFits
 rw [h3]
 rfl
end
theorem Ac3 {P : Program} {f : FuncId} {fn : Func} {s : ChangeSpec} {c : OpenClaim} (hl : laidOutB P = true) (hm : mapsRowed P = true) (hst : P.stops = []) (hkn : P.stopKnobs = []) (hpk : P.plainKeys = true) (hhe : P.stopsHeard = true) (hen : P.mayEnter = true) (hli : P.liftsFinal = false) (hma : P.make = some .cut)
  (hin : P.inPlace f = []) (hun : P.unfollowed f = true) (hre : P.recurses f = true) (hna : P.varsNamed f = [])
  (c1 : c.inPlace = []) (c2 : c.unfollowed = true) (c3 : c.recurses = true) (c4 : c.named = []) (c5 : c.plainKeys = true) (c6 : c.lifted = false) (c7 : c.make = .cut) (c8 : c.stops = []) (c9 : c.knobs = [])
  (k1 : c.wf (OpenSpec.ofChange s) = true) (k2 : fn.params.all (P.readableRec ·) = true) (k3 : namedTie P c.named s.vars = true) (k4 : (c.maps == (fn.params.toList ++ s.plain.varTypes P).any (P.mapsRec ·)) = true)
  (k5 : (c.ifaces == (fn.params.toList ++ s.plain.varTypes P).any (P.ifacesRec ·)) = true) (k6 : (c.mapsOut == P.mapsAmong fn.resultTypes.toList) = true) (k7 : (c.loops == (fn.params.toList ++ s.plain.varTypes P).any (P.loopsFrom ·)) = true)
  (k8 : (c.wideKeys == (fn.params.toList ++ s.plain.varTypes P ++ fn.resultTypes.toList).any (P.wideKeysFrom ·)) = true) (k9 : s.vars.all (P.varReadable ·) = true) (k10 : fn.resultTypes.all (fun t => P.readableRec t && decide (t < P.types.size)) = true)
  (k11 : (c.ifacesOut == fn.resultTypes.toList.any (P.ifacesRec ·)) = true) (k12 : (c.loopsOut == fn.resultTypes.toList.any (P.loopsFrom ·)) = true) (k13 : c.shortTexts.isNone = true) (c10 : c.domain = []) (c11 : c.kinds = [])
  (k15 : (c.pinned == c.pinnedBy) = true) (k16 : (c.veiled == (fn.params.toList ++ s.plain.varTypes P ++ fn.resultTypes.toList).any (P.veiledRec ·)) = true) (k17 : c.veiledFits P fn.params.toList (fn.params.toList ++ s.plain.varTypes P ++ fn.resultTypes.toList) = true) :
  joinedFacts P f fn s c = true := by
 unfold joinedFacts
 rw [hl, hm, hst, hkn, hpk, hhe, hen, hli, hma, hin, hun, hre, hna, c1, c2, c3, c5, c6, c7, c8, c9, k1, k2, k3, k4, k5, k6, k7, k8, k9, k10, k11, k12, k13, k15, k16, k17, c4, c10, c11]
 rfl
end Go.Sl
end
section
namespace Go.Proofs.YtgpkbldlkadnjaaGreat
open Go Go.Sl
def headSigns : List Char := [104, 97, 114, 110, 101, 115, 115, 32, 49, 55, 98, 100, 53, 102, 100, 52, 57, 98, 55, 56, 51, 100, 52, 57, 48, 50, 55, 102, 56, 57, 53, 55, 52, 56, 52, 99, 55, 102, 99, 53, 100, 54, 97, 97, 54, 98, 55, 100, 52, 97, 49, 49, 53, 102, 102, 53, 50, 55, 102, 97, 51, 57, 51, 50, 101, 55, 98, 55, 54, 48, 56, 56, 32, 99, 117, 116, 32, 97, 116, 32, 115, 104, 97, 114, 100, 108, 111, 103, 47, 115, 104, 97, 114, 100, 108, 111, 103, 108, 97, 119, 49, 56, 46, 76, 111, 103, 65, 99, 116, 115, 32, 115, 104, 97, 114, 100, 108, 111, 103, 47, 115, 104, 97, 114, 100, 108, 111, 103, 108, 97, 119, 50, 49, 46, 65, 99, 99, 101, 112, 116, 80, 114, 111, 109, 105, 115, 101, 100, 32, 115, 104, 97, 114, 100, 108, 111, 103, 47, 115, 104, 97, 114, 100, 108, 111, 103, 108, 97, 119, 50, 53, 46, 83, 99, 114, 117, 98, 83, 104, 97, 114, 100, 115, 32, 115, 104, 97, 114, 100, 108, 111, 103, 47, 115, 104, 97, 114, 100, 108, 111, 103, 108, 97, 119, 50, 53, 46, 83, 99, 114, 117, 98, 80, 117, 116, 115, 32, 115, 104, 97, 114, 100, 108, 111, 103, 47, 115, 104, 97, 114, 100, 108, 111, 103, 108, 97, 119, 50, 53, 46, 83, 99, 114, 117, 98, 78, 101, 118, 101, 114, 32, 115, 104, 97, 114, 100, 108, 111, 103, 47, 115, 104, 97, 114, 100, 108, 111, 103, 108, 97, 119, 50, 53, 46, 83, 99, 114, 117, 98, 81, 117, 97, 114, 97, 110, 116, 105, 110, 101, 32, 115, 104, 97, 114, 100, 108, 111, 103, 47, 115, 104, 97, 114, 100, 108, 111, 103, 108, 97, 119, 50, 53, 46, 83, 99, 114, 117, 98, 65, 112, 97, 114, 116, 32, 115, 104, 97, 114, 100, 108, 111, 103, 47, 115, 104, 97, 114, 100, 108, 111, 103, 108, 97, 119, 50, 53, 46, 83, 99, 114, 117, 98, 82, 101, 112, 97, 105, 114, 115].map Char.ofNat
theorem zf_str : Tryz.prog.initOrder = String.ofList headSigns := by kernel_rfl
theorem Pe : Tryz.prog.initOrder.toList = headSigns := by rw [zf_str]; exact String.toList_ofList
def restWords : List (List Char) := (behindMainWord (wordsSigns headSigns)).tail
theorem O9 : behindMainWord (wordsSigns headSigns) = EP :: restWords := by kernel_rfl
theorem Xc : stripLifts liftWords (EP :: restWords) = ([], EP :: restWords) := by kernel_rfl
theorem AdE : Tryz.prog.make = some .cut := Aeu Pe O9
theorem VT : Tryz.prog.headLifts = [] := WB Pe O9 Xc
theorem AbQ : Tryz.prog.liftsFinal = false := AcT Pe O9 VT
theorem AdF : Tryz.prog.laysLater = false := by kernel_rfl
theorem YX : Tryz.prog.bearsReflect = false := by kernel_rfl
theorem AbU : Tryz.prog.doorRows = [] := by kernel_rfl
theorem AbT : Tryz.prog.mayEnter = true := Ac5 Pe O9 Xc AdF YX AbU
theorem zf_own : ownKnob Tryz.prog.godebug = none := by kernel_rfl
theorem AbO : Tryz.prog.stops = [] := by kernel_rfl
theorem AbR : Tryz.prog.stopKnobs = [] := by kernel_rfl
theorem AbS : Tryz.prog.stopsHeard = true := by kernel_rfl
theorem AdD : mapsRowed Tryz.prog = true := by kernel_rfl
theorem AbP : Tryz.prog.plainKeys = true := by kernel_rfl
theorem Aaj : laidOutB Tryz.prog = true := by kernel_rfl
end Go.Proofs.YtgpkbldlkadnjaaGreat
end
section
namespace Go.Sl
open Go.RowKit
def Zn (Z : Nat → Prop) (w w' : World) (b : Nat) : Prop := Z b ∨ (w.heap.size ≤ b ∧ b < w'.heap.size)
section
variable {w w' : World} {Z : Nat → Prop} {T : Nat → Option Value}
theorem Aag {e : TypeId} {r : Value} {xs : List UInt8} (h : Ow w e 1 r xs.length (xs.map U8)) (hz : ∀ b, r.ownBlock = some b → Z b) : Rs w Z T (bytesD xs) r := by
 simp only [Rs]
 rcases h.form with ⟨rfl, hn, hx⟩ | ⟨g, cap, cur, rfl, hg, hc, hs, hl, ht⟩
 ·have : xs = [] := List.eq_nil_of_length_eq_zero hn
  subst this
  exact ⟨none, 0, rfl, Nat.le_refl _, fun _ => rfl, by simp only [List.map_nil, Fz]⟩
 ·refine ⟨_, cap, rfl, hc, fun h => by (cases h), Fz.mk fun j d hd => ?_⟩
  rw [List.getElem?_map] at hd
  cases hq : xs[j]? with
  | none => rw [hq] at hd; cases hd
  | some b =>
   rw [hq] at hd
   simp only [Option.map_some, Option.some.injEq] at hd
   subst hd
   refine ⟨_, U8 b, rfl, hz g rfl, ?_, by simp only [bD, Rs]⟩
   have := Ow.cells h (g := g) rfl j (U8 b) (by rw [List.getElem?_map, hq]; rfl)
   simpa using this
theorem Abq {e e' : TypeId} {r : Value} {m : List (List UInt8)} {vs : List Value} (hl : vs.length = m.length) (hs : Ow w e 1 r m.length vs) (hr : ∀ (j : Nat) (u : Value) (x : List UInt8), vs[j]? = some u → m[j]? = some x → Ow w e' 1 u x.length (x.map U8))
  (hz : ∀ b, (r.ownBlock = some b ∨ ∃ (j : Nat) (u : Value), vs[j]? = some u ∧ u.ownBlock = some b) → Z b) : Rs w Z T (ES m) r := by
 simp only [Rs]
 rcases hs.form with ⟨rfl, hn, hx⟩ | ⟨g, cap, cur, rfl, hg, hc, hs', hl', ht⟩
 ·have : m = [] := List.eq_nil_of_length_eq_zero hn
  subst this
  exact ⟨none, 0, rfl, Nat.le_refl _, fun _ => rfl, by simp only [List.map_nil, Fz]⟩
 ·refine ⟨_, cap, rfl, hc, fun h => by (cases h), Fz.mk fun j d hd => ?_⟩
  rw [List.getElem?_map] at hd
  cases hq : m[j]? with
  | none => rw [hq] at hd; cases hd
  | some x =>
   rw [hq] at hd
   simp only [Option.map_some, Option.some.injEq] at hd
   subst hd
   have hj := (List.getElem?_eq_some_iff.1 hq).1
   have hv : vs[j]? = some vs[j] := List.getElem?_eq_getElem (by omega)
   refine ⟨_, vs[j], rfl, hz g (.inl rfl), ?_, Aag (hr j _ x hv hq) fun b hb => hz b (.inr ⟨j, _, hv, hb⟩)⟩
   have := Ow.cells hs (g := g) rfl j _ hv
   simpa using this
end
end Go.Sl
end
section
namespace Go.Sl
open Go.RowKit Go.ChangeShapes Go.WideShapes Go.ChangeAt Go.Deep
def Zw (W : World) (b : Nat) : Prop := b < W.heap.size
def T0 (_ : Nat) : Option Value := none
theorem UJ {P : Program} {f : FuncId} {ds : List D} {W : World} {vs : List Value} (h : DJ P f ds (AX true)) (hrs : RsL W (Zw W) T0 ds vs) : Calls P f vs.toArray W fun e W' => e = .returned (.bool true) ∧ Below W.heap.size W W' := by
 have ok : Ok ⟨W, Zw W, T0, fun _ => 0, 0⟩ W (Zw W) T0 (fun _ => 0) [] 0 := ⟨Fr.refl _ _, fun _ h => h, fun _ _ h => .inl h, fun _ _ => Nat.le_refl _, fun _ _ h => h, fun _ => Nat.zero_le _, fun b hb => absurd hb (Nat.lt_irrefl 0), fun b hb => ⟨hb, rfl⟩, fun _ _ => rfl, fun i u hu => (by cases hu), Nat.le_refl _, fun _ => rfl⟩
 refine (h 0 W (Zw W) T0 (fun _ => 0) vs ok hrs).mono fun e W' ⟨v, he, d, r', nx', Z', T', F', o1, o2, o3, _⟩ => ?_
 subst o3
 simp only [Rs] at o2
 subst o2
 exact ⟨he, Fr.below (o1.fr.mono fun b _ hb => by simp at hb)⟩
section
variable {H : Type} {enc : TypeId × Value → H} {P : Program} {W : World}
theorem AdC {a : Addr} {v : Value} (h : W.cell? a = some v) : Zw W a.block := KG h
theorem AeA {z : Int} (h : (Lit.int .i64 z).wf = true) : -9223372036854775808 ≤ z ∧ z ≤ 9223372036854775807 := by
 simp only [Lit.wf, Bool.and_eq_true, decide_eq_true_eq] at h
 have h1 := h.1
 have h2 := h.2
 simp [IntKind.min, IntKind.max, IntKind.signed, IntKind.bits] at h1 h2
 exact ⟨h1, h2⟩
theorem AdG {z : Int} (h : (Lit.int .u16 z).wf = true) : ∃ n : Nat, z = n ∧ n < 65536 := by
 simp only [Lit.wf, Bool.and_eq_true, decide_eq_true_eq] at h
 have h1 := h.1
 have h2 := h.2
 simp [IntKind.min, IntKind.max, IntKind.signed, IntKind.bits] at h1 h2
 exact ⟨z.toNat, by omega, by omega⟩
theorem rs_sc (v : Value) : Rs W (Zw W) T0 (.sc v) v := by simp only [Rs]
theorem Ad5 : RsL W (Zw W) T0 [] [] := by simp only [RsL]
theorem XH {d : D} {ds : List D} {v : Value} {vs : List Value} (h : Rs W (Zw W) T0 d v) (k : RsL W (Zw W) T0 ds vs) : RsL W (Zw W) T0 (d :: ds) (v :: vs) := by
 simp only [RsL]; exact ⟨v, vs, rfl, h, k⟩
end
def VQ {H : Type} (P : Program) (t : TypeId) (d : DataW H) : Prop := ∀ m ∈ d.weights P t, m ≤ 140737488351232
theorem Acl {H : Type} {P : Program} {ts : List TypeId} {ds : List (DataW H)} (h : (DataW.weightsEach P ts ds).all (· ≤ reachBytes) = true) {j : Nat} {t : TypeId} {d : DataW H} (ht : ts[j]? = some t) (hd : ds[j]? = some d) : VQ P t d := fun m hm => by
 have h1 : m ≤ reachBytes := by
  have := List.all_eq_true.1 h _ (DataW.weights_mem_each ht hd m hm)
  simpa using this
 exact Nat.le_trans h1 (by decide)
theorem MN {H : Type} {P : Program} {e : TypeId} : ∀ {l : List (DataW H)} {d : DataW H}, d ∈ l → ∀ m ∈ d.weights P e, m ∈ DataW.weightsAll P e l
 | x :: l, d, hd, m, hm => by
  simp only [DataW.weightsAll, List.mem_append]
  rcases List.mem_cons.1 hd with rfl | hd
  ·exact .inl hm
  ·exact .inr (MN hd m hm)
structure Ff (P : Program) (t : TypeId) (s : Nat) (α : Type) (e : α → List D) (B : α → Prop) : Prop where
 size : P.cellsOf t = s
 len : ∀ a, (e a).length = s
 get : ∀ {H : Type} (enc : TypeId × Value → H) (W : World) (n : Nat) (cs : List Value) (x : DataW H × List MemPlace), DataW.trod enc P W 0 (fun _ => true) true n t cs = some x → VQ P t x.1 → ∃ a, RsL W (Zw W) T0 (e a) cs ∧ B a
structure Xa (P : Program) (fs : List Field) (off s : Nat) (α : Type) (e : α → List D) (B : α → Prop) : Prop where
 len : ∀ a, (e a).length = s
 get : ∀ {H : Type} (enc : TypeId × Value → H) (W : World) (n : Nat) (cs : List Value), (∀ f ∈ fs, ∃ y, DataW.trod enc P W 0 (fun _ => true) true n f.type ((cs.drop f.offset).take (P.cellsOf f.type)) = some y ∧ VQ P f.type y.1) → ∃ a, RsL W (Zw W) T0 (e a) ((cs.drop off).take s) ∧ B a
section
variable {P : Program} {t e0 : TypeId}
theorem Ff.map {s : Nat} {α β : Type} {e : α → List D} {e' : β → List D} {B : α → Prop} {B' : β → Prop} (h : Ff P t s α e B) (f : α → β) (he : ∀ a, e' (f a) = e a) (hB : ∀ a, B a → B' (f a)) (hl : ∀ b, (e' b).length = s) : Ff P t s β e' B' :=
 ⟨h.size, hl, fun enc W n cs x hx hs => by
  obtain ⟨a, h1, h2⟩ := h.get enc W n cs x hx hs
  exact ⟨f a, by rw [he]; exact h1, hB a h2⟩⟩
theorem op_int {k : IntKind} (ht : P.underlying t = some (.int k)) (hc : P.cellsOf t = 1) : Ff P t 1 Int (fun z => [.sc (.int k z)]) (fun z => (Lit.int k z).wf = true) :=
 ⟨hc, fun _ => rfl, fun enc W n cs x hx hsz => by
  obtain ⟨z, rfl, _, hw⟩ := DataW.trod_int ht hx
  exact ⟨z, by simp only [RsL, Rs]; exact ⟨_, _, rfl, rfl, rfl⟩, hw⟩⟩
theorem op_i64 (ht : P.underlying t = some (.int .i64)) (hc : P.cellsOf t = 1) : Ff P t 1 Int (fun z => [iD z]) (fun z => -9223372036854775808 ≤ z ∧ z ≤ 9223372036854775807) :=
 (op_int ht hc).map id (fun _ => rfl) (fun _ h => AeA h) fun _ => rfl
theorem Aeg (ht : P.underlying t = some .bool) (hc : P.cellsOf t = 1) : Ff P t 1 Bool (fun b => [AX b]) (fun _ => True) :=
 ⟨hc, fun _ => rfl, fun enc W n cs x hx hsz => by
  obtain ⟨b, rfl, _⟩ := DataW.trod_bool ht hx
  exact ⟨b, by simp only [RsL, Rs]; exact ⟨_, _, rfl, rfl, rfl⟩, trivial⟩⟩
theorem op_str (ht : P.underlying t = some .string) (hc : P.cellsOf t = 1) : Ff P t 1 (List UInt8) (fun b => [DZ b]) (fun b => b.length ≤ 140737488351232) :=
 ⟨hc, fun _ => rfl, fun enc W n cs x hx hsz => by
  obtain ⟨s, rfl, rfl, hs⟩ := DataW.trod_string ht hx
  exact ⟨s.data.toList, by simp only [RsL, Rs]; exact ⟨_, _, rfl, rfl, rfl⟩, hsz _ (by simp [DataW.weights])⟩⟩
theorem AaC (off : Nat) : Xa P [] off 0 Unit (fun _ => []) (fun _ => True) :=
 ⟨fun _ => rfl, fun enc W n cs h => ⟨(), by simp only [List.take_zero, RsL], trivial⟩⟩
theorem Ie {f : Field} {fs : List Field} {off s s' : Nat} {α β : Type} {e : α → List D} {e' : β → List D} {B : α → Prop} {B' : β → Prop} (h : Ff P f.type s α e B) (ho : f.offset = off) (k : Xa P fs (off + s) s' β e' B') :
  Xa P (f :: fs) off (s + s') (α × β) (fun x => e x.1 ++ e' x.2) (fun x => B x.1 ∧ B' x.2) :=
 ⟨fun x => by rw [List.length_append, h.len, k.len], fun enc W n cs hf => by
  obtain ⟨y, hy, hys⟩ := hf f (by simp)
  obtain ⟨a, h1, h2⟩ := h.get enc W n _ y hy hys
  obtain ⟨b, k1, k2⟩ := k.get enc W n cs fun g hg => hf g (by simp [hg])
  refine ⟨(a, b), ?_, h2, k2⟩
  have e1 : (cs.drop off).take (s + s') = (cs.drop off).take s ++ (cs.drop (off + s)).take s' := by rw [List.take_add, List.drop_drop]
  rw [e1]
  rw [ho, h.size] at h1
  exact h1.append k1⟩
theorem U7 {fs : Array Field} {l : List Field} {s : Nat} {α : Type} {e : α → List D} {B : α → Prop} (ht : P.underlying t = some (.struct fs)) (hl : fs.toList = l) (hc : P.cellsOf t = s) (h : Xa P l 0 s α e B) : Ff P t s α e B :=
 ⟨hc, h.len, fun enc W n cs x hx hsz => by
  obtain ⟨xs, m, _, rfl, hlen, hxl, hf⟩ := DataW.trod_struct ht hx
  obtain ⟨a, h1, h2⟩ := h.get enc W m cs fun f hm => by
   rw [← hl] at hm
   obtain ⟨i, hi, rfl⟩ := List.mem_iff_getElem.1 hm
   have h3 := hf i fs[i] (by simp at hi ⊢)
   have hil : i < xs.length := by simp at hi; omega
   rw [List.getElem?_eq_getElem hil] at h3
   refine ⟨xs[i], by simpa using h3, fun k hk => hsz k ?_⟩
   simp only [DataW.weights, ht]
   exact DataW.weights_mem_each (j := i) (t := fs.toList[i].type) (d := xs[i].1) (by rw [List.getElem?_map, List.getElem?_eq_getElem hi]; rfl) (by rw [List.getElem?_map, List.getElem?_eq_getElem hil]; rfl) k hk
  rw [List.drop_zero, List.take_of_length_le (by omega)] at h1
  exact ⟨a, h1, h2⟩⟩
theorem fz_of {W : World} {l : List D} {us : List Value} {a : Addr} (h : RsL W (Zw W) T0 l us) (hc : ∀ j u, us[j]? = some u → W.cell? (a.add j) = some u) : Fz W (Zw W) T0 l (some a) 0 :=
 Fz.mk fun j d hd => by
  obtain ⟨u, hu, hr⟩ := h.get hd
  have := hc j u hu
  exact ⟨a, u, rfl, by have := AdC this; rwa [add_block] at this, by rw [Nat.zero_add]; exact this, hr⟩
theorem XQ {s : Nat} {α : Type} {e : α → List D} {B : α → Prop} (ht : P.underlying t = some (.slice e0)) (hc : P.cellsOf t = 1) (hb : 1 ≤ P.bytesOf e0) (h : Ff P e0 s α e B) :
  Ff P t 1 (List α) (fun l => [.sl l.length (l.flatMap e)]) (fun l => l.length ≤ 140737488351232 ∧ ∀ a ∈ l, B a) :=
 ⟨hc, fun _ => rfl, fun enc W n cs x hx hsz => by
  rcases DataW.trod_slice ht hx with ⟨rfl, _⟩ | ⟨a, len, cap, elems, rest, m, _, rfl, rfl, _, hl, hm, hlen, hel, _, _⟩
  ·refine ⟨[], ?_, by simp⟩
   simp only [RsL, Rs]
   exact ⟨_, _, rfl, ⟨none, 0, rfl, Nat.le_refl _, fun _ => rfl, by simp only [List.flatMap_nil, Fz]⟩, rfl⟩
  ·rw [h.size] at hel
   have each : ∀ i, i < len → ∃ (x : α) (us : List Value), us.length = s ∧ RsL W (Zw W) T0 (e x) us ∧ B x ∧ ∀ j u, us[j]? = some u → W.cell? (a.add (i * s + j)) = some u := fun i hi => by
    have hb := hel i hi
    rw [List.getElem?_eq_getElem (show i < elems.length by omega)] at hb
    obtain ⟨us, hc1, hc2⟩ := Option.bind_eq_some_iff.1 hb
    obtain ⟨_, hcl, hcc⟩ := World.cells?_some hc1
    obtain ⟨x, h1, h2⟩ := h.get enc W m us _ hc2 fun k hk => hsz k (by
     simp only [DataW.weights, ht, List.mem_cons, List.mem_append]
     exact .inr (.inl (MN (List.mem_map.2 ⟨_, List.getElem_mem (show i < elems.length by omega), rfl⟩) k hk)))
    refine ⟨x, us, hcl, h1, h2, fun j u hu => ?_⟩
    have hj : j < s := by have := (List.getElem?_eq_some_iff.1 hu).1; omega
    rw [← add_add, hcc j hj, hu]
   have build : ∀ k, k ≤ len → ∃ (L : List α) (us : List Value), L.length = k ∧ us.length = k * s ∧ RsL W (Zw W) T0 (L.flatMap e) us ∧ (∀ x ∈ L, B x) ∧ ∀ j u, us[j]? = some u → W.cell? (a.add j) = some u := by
    intro k
    induction k with
    | zero => intro _; exact ⟨[], [], rfl, by simp, by simp only [List.flatMap_nil, RsL], by simp, by simp⟩
    | succ k ih =>
     intro hk
     obtain ⟨L, us, g1, g2, g3, g4, g5⟩ := ih (by omega)
     obtain ⟨x, vs, e1, e2, e3, e4⟩ := each k (by omega)
     refine ⟨L ++ [x], us ++ vs, by simp [g1], by rw [List.length_append, g2, e1, Nat.succ_mul], ?_, ?_, fun j u hu => ?_⟩
     ·rw [List.flatMap_append, List.flatMap_cons, List.flatMap_nil, List.append_nil]
      exact g3.append e2
     ·intro y hy
      rcases List.mem_append.1 hy with h1 | h1
      ·exact g4 y h1
      ·simp only [List.mem_singleton] at h1
       rw [h1]; exact e3
     ·rw [List.getElem?_append] at hu
      split at hu
      ·exact g5 j u hu
      ·rename_i hj
       have := e4 (j - us.length) u hu
       rw [g2] at this hj
       rwa [show k * s + (j - k * s) = j by omega] at this
   obtain ⟨L, us, g1, g2, g3, g4, g5⟩ := build len (Nat.le_refl _)
   refine ⟨L, ?_, ?_, g4⟩
   ·simp only [RsL, Rs]
    exact ⟨_, _, rfl, ⟨some a, cap, by rw [g1], by rw [g1]; exact hl, fun h => by (cases h), fz_of g3 g5⟩, rfl⟩
   ·rw [g1]
    have h1 := hsz ((elems.map (·.1)).length + (rest.map (·.1)).length |> (· * P.bytesOf e0)) (by simp only [DataW.weights, ht, List.mem_cons]; exact .inl trivial)
    rw [List.length_map, List.length_map, hlen] at h1
    have h2 : (len + rest.length) * 1 ≤ (len + rest.length) * P.bytesOf e0 := Nat.mul_le_mul_left _ hb
    dsimp only at h1
    omega⟩
theorem Ff.one {H : Type} {enc : TypeId × Value → H} {W : World} {α : Type} {e : α → D} {B : α → Prop} (h : Ff P t 1 α (fun a => [e a]) B) {v : Value} {d : DataW H} {p : List MemPlace} (h1 : v.cells = #[v])
  (k : DataW.Trod enc P W 0 (fun _ => true) true t v d p) (hs : VQ P t d) : ∃ a, Rs W (Zw W) T0 (e a) v ∧ B a := by
 obtain ⟨fuel, hf⟩ := k
 obtain ⟨a, g1, g2⟩ := h.get enc W fuel _ _ hf hs
 rw [h1] at g1
 obtain ⟨u, hu, hr⟩ := Ib g1
 cases hu
 exact ⟨a, hr, g2⟩
theorem Ff.slice {H : Type} {enc : TypeId × Value → H} {W : World} {α : Type} {e : α → D} {B : α → Prop} (h : Ff P t 1 α (fun a => [e a]) B) (ht : P.underlying t = some (.slice e0)) {b0 : Nat} {v : Value} {d : DataW H} {p : List MemPlace}
  (hval : Value.okWide P W .any b0 t v) (k : DataW.Trod enc P W 0 (fun _ => true) true t v d p) (hs : VQ P t d) : ∃ a, Rs W (Zw W) T0 (e a) v ∧ B a := by
 obtain ⟨a0, len, cap, rfl⟩ := okWide_slice ht hval
 exact h.one rfl k hs
theorem Ff.struct {H : Type} {enc : TypeId × Value → H} {W : World} {s : Nat} {α : Type} {e : α → List D} {B : α → Prop} (h : Ff P t s α e B) {fs : Array Field} (ht : P.underlying t = some (.struct fs)) {b0 : Nat} {v : Value} {d : DataW H} {p : List MemPlace}
  (hval : Value.okWide P W .any b0 t v) (k : DataW.Trod enc P W 0 (fun _ => true) true t v d p) (hs : VQ P t d) : ∃ a, Rs W (Zw W) T0 (.agg (e a)) v ∧ B a := by
 obtain ⟨cs, rfl, hsz⟩ := okWide_struct ht hval
 obtain ⟨fuel, hf⟩ := k
 obtain ⟨a, g1, g2⟩ := h.get enc W fuel _ _ hf hs
 exact ⟨a, by simp only [Rs]; exact ⟨cs.toList, by simp, by simpa [Value.cells] using g1⟩, g2⟩
end
end Go.Sl
end
section
namespace Go.Proofs.YtgpkbldlkadnjaaGreat
open Go
abbrev MJ : FuncId := 3
abbrev I8 : FuncId := 11
abbrev Nv : FuncId := 12
abbrev LZ : FuncId := 13
abbrev IM : FuncId := 14
abbrev Jd : FuncId := 15
abbrev FO : FuncId := 16
abbrev EO : FuncId := 17
abbrev Io : FuncId := 18
abbrev FU : FuncId := 19
abbrev Iu : FuncId := 20
abbrev LU : FuncId := 21
abbrev DR : FuncId := 22
abbrev Fh : FuncId := 23
abbrev LV : FuncId := 24
abbrev FH : FuncId := 25
abbrev Ip : FuncId := 26
abbrev LX : FuncId := 27
abbrev Fj : FuncId := 36
abbrev OL : FuncId := 52
abbrev IQ : FuncId := 53
abbrev EY : FuncId := 54
abbrev Je : FuncId := 55
abbrev Jk : FuncId := 56
abbrev Nr : FuncId := 57
abbrev F9 : FuncId := 58
abbrev I7 : FuncId := 59
abbrev JY : FuncId := 60
abbrev Ny : FuncId := 61
abbrev KF : FuncId := 62
abbrev Hw : FuncId := 63
abbrev Ir : FuncId := 64
abbrev Jl : FuncId := 65
abbrev LW : FuncId := 66
abbrev Ns : FuncId := 67
abbrev Jc : FuncId := 68
abbrev EX : FuncId := 69
abbrev Il : FuncId := 70
abbrev Iq : FuncId := 75
abbrev IP : FuncId := 76
abbrev JZ : FuncId := 77
abbrev DN : FuncId := 78
abbrev LY : FuncId := 101
abbrev G6 : FuncId := 102
abbrev Jf : FuncId := 103
abbrev Eh : FuncId := 104
abbrev H8 : FuncId := 105
abbrev Js : FuncId := 106
abbrev GY : FuncId := 107
abbrev D8 : FuncId := 108
abbrev DL : FuncId := 109
abbrev LQ : FuncId := 110
abbrev Nq : FuncId := 111
abbrev Kv : FuncId := 112
abbrev Ry : FuncId := 113
abbrev Nu : FuncId := 114
abbrev Ik : FuncId := 115
abbrev PV : FuncId := 116
abbrev KE : FuncId := 117
abbrev Ij : FuncId := 134
abbrev Gf : FuncId := 137
abbrev Nw : FuncId := 142
abbrev DW : FuncId := 143
abbrev OJ : FuncId := 144
abbrev Gg : FuncId := 145
abbrev KC : FuncId := 146
abbrev Ou : FuncId := 149
abbrev MI : FuncId := 152
abbrev OI : FuncId := 163
abbrev Nz : FuncId := 164
abbrev L6 : FuncId := 171
abbrev Hy : FuncId := 192
abbrev Gu : FuncId := 203
abbrev tInt : TypeId := 3
abbrev tBool : TypeId := 4
abbrev tU8 : TypeId := 5
abbrev Xt : TypeId := 9
abbrev Cc : TypeId := 30
abbrev Ap : TypeId := 31
abbrev Ah : TypeId := 33
abbrev tInts : TypeId := 34
abbrev QR : TypeId := 36
abbrev JG : TypeId := 60
abbrev AB : TypeId := 99
abbrev Qk : TypeId := 106
abbrev FZ : TypeId := 113
abbrev Au : TypeId := 121
end Go.Proofs.YtgpkbldlkadnjaaGreat
end
section
namespace Go.Proofs.YtgpkbldlkadnjaaGreat
open Go Go.Sl
theorem Yd {α : Type} (f : α → D) : ∀ l : List α, (l.flatMap fun z => [f z]) = l.map f
 | [] => rfl
 | x :: l => by rw [List.flatMap_cons, Yd f l]; rfl
theorem Aed {t e0 : TypeId} {α : Type} {e : α → D} {B : α → Prop} (ht : Tryz.prog.underlying t = some (.slice e0)) (hc : Tryz.prog.cellsOf t = 1) (hb : 1 ≤ Tryz.prog.bytesOf e0) (h : Ff Tryz.prog e0 1 α (fun a => [e a]) B) :
  Ff Tryz.prog t 1 (List α) (fun l => [.sl l.length (l.map e)]) (fun l => l.length ≤ 140737488351232 ∧ ∀ a ∈ l, B a) :=
 (XQ ht hc hb h).map id (fun l => by rw [Yd]; rfl) (fun _ h => h) fun _ => rfl
theorem N8 : Ff Tryz.prog tInt 1 Int (fun z => [iD z]) (fun z => -9223372036854775808 ≤ z ∧ z ≤ 9223372036854775807) := op_i64 Tryz.underlying3 (by kernel_rfl)
theorem Aec : Ff Tryz.prog Xt 1 (List UInt8) (fun b => [DZ b]) (fun b => b.length ≤ 140737488351232) := op_str Tryz.underlying9 (by kernel_rfl)
theorem AcJ : Ff Tryz.prog tBool 1 Bool (fun b => [AX b]) (fun _ => True) := Aeg Tryz.underlying4 (by kernel_rfl)
theorem Aef : Ff Tryz.prog tInts 1 (List Int) (fun b => [Ec b]) (fun l => l.length ≤ 140737488351232 ∧ ∀ z ∈ l, -9223372036854775808 ≤ z ∧ z ≤ 9223372036854775807) :=
 Aed Tryz.underlying34 (by kernel_rfl) (of_decide_eq_true (by kernel_rfl)) N8
-- 84 shardlog/matrix.Rows; Ae [(0, m), (1, at), (2, m), (3, at), (5, out), (6, _), (7, i)]
-- 85 shardlog/matrix.Right; Ae [(0, m), (1, m)]
-- 86 shardlog/matrix.Invert; Ae [(0, m), (1, m), (4, f), (5, left), (6, out), (7, c)]
-- 87 shardlog/matrix.Coding; Ae [(0, k), (1, n), (2, k), (3, n), (5, f), (6, out), (7, i), (8, row), (9, j)]
-- 89 shardlog/matrix.Mul; Ae [(0, a), (1, b), (2, a), (3, b), (5, f), (6, out), (7, _), (8, r), (9, row), (10, k), (11, c)]
-- 130 shardlog/matrix.One; Ae [(0, n), (1, n)]
-- 139 shardlog/shardlogref04.Mul; Ae [(0, a), (1, b), (2, a), (3, b), (5, out), (6, i), (7, row), (8, j), (9, x), (10, k)]
-- 140 shardlog/shardlogref04.Coding; Ae [(0, k), (1, n), (2, k), (3, n), (5, out), (6, i), (7, row), (8, j), (9, x)]
-- 27 shardlog/shardlogref01.Same; Ae [(0, a), (1, b), (2, a), (3, b)]
noncomputable def m_ref01_Same : MF := ⟨10, [.t 4],
 .seq (
 .ops [
 .p 4 .mv [(.const (.bool false))]]) (
 .seq (
 .ops [
 .p 5 .mv [(.tmp 0)],
 .bs 6 (.tmp 5),
 .p 7 .mv [(.tmp 1)],
 .bs 8 (.tmp 7),
 .p 9 (.bin .eql) [(.tmp 6), (.tmp 8)],
 .p 4 .mv [(.tmp 9)]]) (
 .ret))⟩

theorem WW : trF Tryz.prog LX = some m_ref01_Same := by kernel_rfl
-- 69 slices.Clone[[]byte,byte]; Ae [(0, s), (1, s)]
noncomputable def m_slices_Clone : MF := ⟨8, [.t 2],
 .seq (
 .ops [
 .p 2 .mv [(.const (.slice none 0 0))]]) (
 .seq (
 .seq (
 .ops [
 .p 3 .mv [(.tmp 0)],
 .p 4 (.isnil .sl false) [(.tmp 3)]]) (
 .cond (.tmp 4) (
 .seq (
 .ops [
 .p 2 .mv [(.const (.slice none 0 0))]]) (
 .ret)) (
 .skip))) (
 .seq (
 .ops [
 .bsl 5 tU8 0 [] [] [],
 .p 6 .mv [(.tmp 0)],
 .app 7 #[Ap, Ap] Ap (.tmp 5) (.tmp 6),
 .p 2 .mv [(.tmp 7)]]) (
 .ret)))⟩

theorem Ud : trF Tryz.prog EX = some m_slices_Clone := by kernel_rfl
-- 104 shardlog/shardlogref01.Num; Ae [(0, n), (1, n)]
noncomputable def m_ref01_Num : MF := ⟨24, [.t 2],
 .seq (
 .ops [
 .p 2 .mv [(.const (.slice none 0 0))]]) (
 .seq (
 .seq (
 .ops [
 .p 3 .mv [(.tmp 0)],
 .p 4 (.bin .lss) [(.tmp 3), (.const (.int .i64 0))],
 .p 5 .mv [(.tmp 4)],
 .gd 5 false (some 6) (.p 6 .mv [(.tmp 0)]),
 .gd 5 false (some 7) (.p 7 (.bin .gtr) [(.tmp 6), (.const (.int .i64 4294967295))]),
 .p 8 .pick [(.tmp 5), (.const (.bool true)), (.tmp 7)]]) (
 .cond (.tmp 8) (
 .seq (
 .ops [
 .p 2 .mv [(.const (.slice none 0 0))]]) (
 .ret)) (
 .skip))) (
 .seq (
 .ops [
 .p 9 .mv [(.tmp 0)],
 .p 10 (.bin .quo) [(.tmp 9), (.const (.int .i64 16777216))],
 .p 11 (.conv .u8) [(.tmp 10)],
 .p 12 .mv [(.tmp 0)],
 .p 13 (.bin .quo) [(.tmp 12), (.const (.int .i64 65536))],
 .p 14 (.bin .rem) [(.tmp 13), (.const (.int .i64 256))],
 .p 15 (.conv .u8) [(.tmp 14)],
 .p 16 .mv [(.tmp 0)],
 .p 17 (.bin .quo) [(.tmp 16), (.const (.int .i64 256))],
 .p 18 (.bin .rem) [(.tmp 17), (.const (.int .i64 256))],
 .p 19 (.conv .u8) [(.tmp 18)],
 .p 20 .mv [(.tmp 0)],
 .p 21 (.bin .rem) [(.tmp 20), (.const (.int .i64 256))],
 .p 22 (.conv .u8) [(.tmp 21)],
 .bsl 23 tU8 4 [(.int .u8 0), (.int .u8 0), (.int .u8 0), (.int .u8 0)] [(0, 1), (1, 1), (2, 1), (3, 1)] [(.tmp 11), (.tmp 15), (.tmp 19), (.tmp 22)],
 .p 2 .mv [(.tmp 23)]]) (
 .ret)))⟩

theorem YC : trF Tryz.prog Eh = some m_ref01_Num := by kernel_rfl
-- 106 shardlog/shardlogref01.Text; Ae [(0, s), (1, s)]
noncomputable def m_ref01_Text : MF := ⟨9, [.t 2],
 .seq (
 .ops [
 .p 2 .mv [(.const (.slice none 0 0))]]) (
 .seq (
 .ops [
 .p 3 .mv [(.tmp 0)],
 .p 4 .lens [(.tmp 3)],
 .call (some 5) Eh [(.tmp 4)],
 .p 6 .mv [(.tmp 0)],
 .gen (some 7) ⟨(some 7), (.convert Xt Ap (.tmp 6)), Ap, "ref.go:13", #[⟨3, .data⟩], none⟩,
 .app 8 #[Ap, Ap] Ap (.tmp 5) (.tmp 7),
 .p 2 .mv [(.tmp 8)]]) (
 .ret))⟩

theorem WV : trF Tryz.prog Js = some m_ref01_Text := by kernel_rfl
-- 108 slices.Concat[[]byte,byte]; Ae [(0, slices), (1, slices), (3, size), (4, _), (5, s), (6, newslice), (7, _), (8, s)]
noncomputable def m_slices_Concat : MF := ⟨36, [.t 2],
 .seq (
 .ops [
 .p 2 .mv [(.const (.slice none 0 0))]]) (
 .seq (
 .ops [
 .p 3 .mv [(.const (.int .i64 0))]]) (
 .seq (
 .seq (
 .ops [
 .p 9 .mv [(.tmp 0)],
 .p 10 .len [(.tmp 9)],
 .p 11 .mv [(.const (.int .i64 0))]]) (
 .block 0 (
 .loop (
 .seq (
 .ops [
 .p 12 (.bin .lss) [(.tmp 11), (.tmp 10)]]) (
 .seq (
 .cond (.tmp 12) (
 .skip) (
 .exit 0)) (
 .seq (
 .block 1 (
 .seq (
 .ops [
 .p 13 (.ixs 1) [(.tmp 9), (.tmp 11)],
 .ld 14 (.tmp 13),
 .p 5 .mv [(.tmp 14)]]) (
 .seq (
 .ops [
 .p 15 .mv [(.tmp 3)],
 .p 16 .mv [(.tmp 5)],
 .p 17 .len [(.tmp 16)],
 .p 18 (.bin .add) [(.tmp 15), (.tmp 17)],
 .p 3 .mv [(.tmp 18)]]) (
 .seq (
 .ops [
 .p 19 .mv [(.tmp 3)],
 .p 20 (.bin .lss) [(.tmp 19), (.const (.int .i64 0))]]) (
 .cond (.tmp 20) (
 .ops [
 .p 21 (.ifc Xt) [(.const (.string ⟨#[108, 101, 110, 32, 111, 117, 116, 32, 111, 102, 32, 114, 97, 110, 103, 101]⟩))],
 .gen none ⟨none, (.panic (.tmp 21)), 0, "slices.go:496", #[⟨0, .data⟩], none⟩]) (
 .skip)))))) (
 .ops [
 .p 22 (.bin .add) [(.tmp 11), (.const (.int .i64 1))],
 .p 11 .mv [(.tmp 22)]]))))))) (
 .seq (
 .ops [
 .p 23 .mv [(.tmp 3)],
 .call (some 24) KC [(.const (.slice none 0 0)), (.tmp 23)],
 .p 6 .mv [(.tmp 24)]]) (
 .seq (
 .seq (
 .ops [
 .p 25 .mv [(.tmp 0)],
 .p 26 .len [(.tmp 25)],
 .p 27 .mv [(.const (.int .i64 0))]]) (
 .block 2 (
 .loop (
 .seq (
 .ops [
 .p 28 (.bin .lss) [(.tmp 27), (.tmp 26)]]) (
 .seq (
 .cond (.tmp 28) (
 .skip) (
 .exit 2)) (
 .seq (
 .block 3 (
 .seq (
 .ops [
 .p 29 (.ixs 1) [(.tmp 25), (.tmp 27)],
 .ld 30 (.tmp 29),
 .p 8 .mv [(.tmp 30)]]) (
 .ops [
 .p 31 .mv [(.tmp 6)],
 .p 32 .mv [(.tmp 8)],
 .app 33 #[Ap, Ap] Ap (.tmp 31) (.tmp 32),
 .p 6 .mv [(.tmp 33)]]))) (
 .ops [
 .p 34 (.bin .add) [(.tmp 27), (.const (.int .i64 1))],
 .p 27 .mv [(.tmp 34)]]))))))) (
 .seq (
 .ops [
 .p 35 .mv [(.tmp 6)],
 .p 2 .mv [(.tmp 35)]]) (
 .ret))))))⟩

theorem RD : trF Tryz.prog D8 = some m_slices_Concat := by kernel_rfl
-- 109 shardlog/wire.Num; Ae [(0, n), (1, n)]
noncomputable def m_wire_Num : MF := ⟨21, [.t 2],
 .seq (
 .ops [
 .p 2 .mv [(.const (.slice none 0 0))]]) (
 .seq (
 .seq (
 .ops [
 .p 3 .mv [(.tmp 0)],
 .p 4 (.bin .lss) [(.tmp 3), (.const (.int .i64 0))],
 .p 5 .mv [(.tmp 4)],
 .gd 5 false (some 6) (.p 6 .mv [(.tmp 0)]),
 .gd 5 false (some 7) (.p 7 (.bin .gtr) [(.tmp 6), (.const (.int .i64 4294967295))]),
 .p 8 .pick [(.tmp 5), (.const (.bool true)), (.tmp 7)]]) (
 .cond (.tmp 8) (
 .seq (
 .ops [
 .p 2 .mv [(.const (.slice none 0 0))]]) (
 .ret)) (
 .skip))) (
 .seq (
 .ops [
 .p 9 .mv [(.tmp 0)],
 .p 10 (.bin .shr) [(.tmp 9), (.const (.int .u64 24))],
 .p 11 (.conv .u8) [(.tmp 10)],
 .p 12 .mv [(.tmp 0)],
 .p 13 (.bin .shr) [(.tmp 12), (.const (.int .u64 16))],
 .p 14 (.conv .u8) [(.tmp 13)],
 .p 15 .mv [(.tmp 0)],
 .p 16 (.bin .shr) [(.tmp 15), (.const (.int .u64 8))],
 .p 17 (.conv .u8) [(.tmp 16)],
 .p 18 .mv [(.tmp 0)],
 .p 19 (.conv .u8) [(.tmp 18)],
 .bsl 20 tU8 4 [(.int .u8 0), (.int .u8 0), (.int .u8 0), (.int .u8 0)] [(0, 1), (1, 1), (2, 1), (3, 1)] [(.tmp 11), (.tmp 14), (.tmp 17), (.tmp 19)],
 .p 2 .mv [(.tmp 20)]]) (
 .ret)))⟩

theorem Z8 : trF Tryz.prog DL = some m_wire_Num := by kernel_rfl
-- 112 shardlog/wire.Text; Ae [(0, s), (1, s)]
noncomputable def m_wire_Text : MF := ⟨8, [.t 2],
 .seq (
 .ops [
 .p 2 .mv [(.const (.slice none 0 0))]]) (
 .seq (
 .ops [
 .p 3 .mv [(.tmp 0)],
 .p 4 .lens [(.tmp 3)],
 .call (some 5) DL [(.tmp 4)],
 .p 6 .mv [(.tmp 0)],
 .app 7 #[Ap, Xt] Ap (.tmp 5) (.tmp 6),
 .p 2 .mv [(.tmp 7)]]) (
 .ret))⟩

theorem Yu : trF Tryz.prog Kv = some m_wire_Text := by kernel_rfl
-- 134 shardlog/wire.CutText; Ae [(0, b), (1, b), (5, n), (6, rest), (7, ok)]
noncomputable def m_wire_CutText : MF := ⟨29, [.t 2, .t 3, .t 4],
 .seq (
 .ops [
 .p 2 .mv [(.const (.string .empty))],
 .p 3 .mv [(.const (.slice none 0 0))],
 .p 4 .mv [(.const (.bool false))]]) (
 .seq (
 .ops [
 .p 9 .mv [(.tmp 0)],
 .call (some 10) DW [(.tmp 9)],
 .p 8 .mv [(.tmp 10)],
 .p 11 (.ext 0) [(.tmp 8)],
 .p 12 (.ext 1) [(.tmp 8)],
 .p 13 (.ext 2) [(.tmp 8)],
 .p 5 .mv [(.tmp 11)],
 .p 6 .mv [(.tmp 12)],
 .p 7 .mv [(.tmp 13)]]) (
 .seq (
 .seq (
 .ops [
 .p 14 .mv [(.tmp 7)],
 .p 15 .not [(.tmp 14)],
 .p 16 .mv [(.tmp 15)],
 .gd 16 false (some 17) (.p 17 .mv [(.tmp 5)]),
 .gd 16 false (some 18) (.p 18 .mv [(.tmp 6)]),
 .gd 16 false (some 19) (.p 19 .len [(.tmp 18)]),
 .gd 16 false (some 20) (.p 20 (.bin .gtr) [(.tmp 17), (.tmp 19)]),
 .p 21 .pick [(.tmp 16), (.const (.bool true)), (.tmp 20)]]) (
 .cond (.tmp 21) (
 .seq (
 .ops [
 .p 2 .mv [(.const (.string .empty))],
 .p 3 .mv [(.const (.slice none 0 0))],
 .p 4 .mv [(.const (.bool false))]]) (
 .ret)) (
 .skip))) (
 .seq (
 .dr (
 .one ⟨.p 22 .mv [(.tmp 6)], []⟩ (
 .one ⟨.p 23 .mv [(.tmp 5)], []⟩ (
 .one ⟨.p 24 (.sls 1 false true false) [(.tmp 22), (.tmp 23)], []⟩ (
 .one ⟨.bs 25 (.tmp 24), []⟩ (
 .one ⟨.p 26 .mv [(.tmp 6)], []⟩ (
 .one ⟨.p 27 .mv [(.tmp 5)], []⟩ (
 .one ⟨.p 28 (.sls 1 true false false) [(.tmp 26), (.tmp 27)], []⟩ (
 .one ⟨.p 2 .mv [(.tmp 25)], []⟩ (
 .one ⟨.p 3 .mv [(.tmp 28)], []⟩ (
 .one ⟨.p 4 .mv [(.const (.bool true))], []⟩ (
 .nil)))))))))))) (
 .ret))))⟩

theorem Ua : trF Tryz.prog Ij = some m_wire_CutText := by kernel_rfl
-- 137 slices.Equal[[]byte,byte]; Ae [(0, s1), (1, s2), (2, s1), (3, s2), (5, i)]
noncomputable def m_slices_Equal : MF := ⟨26, [.t 4],
 .seq (
 .ops [
 .p 4 .mv [(.const (.bool false))]]) (
 .seq (
 .seq (
 .ops [
 .p 6 .mv [(.tmp 0)],
 .p 7 .len [(.tmp 6)],
 .p 8 .mv [(.tmp 1)],
 .p 9 .len [(.tmp 8)],
 .p 10 (.bin .neq) [(.tmp 7), (.tmp 9)]]) (
 .cond (.tmp 10) (
 .seq (
 .ops [
 .p 4 .mv [(.const (.bool false))]]) (
 .ret)) (
 .skip))) (
 .seq (
 .seq (
 .ops [
 .p 11 .mv [(.tmp 0)],
 .p 12 .len [(.tmp 11)],
 .p 13 .mv [(.const (.int .i64 0))]]) (
 .block 0 (
 .loop (
 .seq (
 .ops [
 .p 14 (.bin .lss) [(.tmp 13), (.tmp 12)]]) (
 .seq (
 .cond (.tmp 14) (
 .skip) (
 .exit 0)) (
 .seq (
 .block 1 (
 .seq (
 .ops [
 .p 15 .mv [(.tmp 13)],
 .p 5 .mv [(.tmp 15)]]) (
 .seq (
 .dr (
 .one ⟨.p 16 .mv [(.tmp 0)], []⟩ (
 .one ⟨.p 17 .mv [(.tmp 5)], []⟩ (
 .one ⟨.p 18 (.ixs 1) [(.tmp 16), (.tmp 17)], []⟩ (
 .one ⟨.ld 19 (.tmp 18), []⟩ (
 .one ⟨.p 20 .mv [(.tmp 1)], []⟩ (
 .one ⟨.p 21 .mv [(.tmp 5)], []⟩ (
 .one ⟨.p 22 (.ixs 1) [(.tmp 20), (.tmp 21)], []⟩ (
 .one ⟨.ld 23 (.tmp 22), []⟩ (
 .one ⟨.p 24 (.bin .neq) [(.tmp 19), (.tmp 23)], []⟩ (
 .nil))))))))))) (
 .cond (.tmp 24) (
 .seq (
 .ops [
 .p 4 .mv [(.const (.bool false))]]) (
 .ret)) (
 .skip))))) (
 .ops [
 .p 25 (.bin .add) [(.tmp 13), (.const (.int .i64 1))],
 .p 13 .mv [(.tmp 25)]]))))))) (
 .seq (
 .ops [
 .p 4 .mv [(.const (.bool true))]]) (
 .ret))))⟩

theorem Uc : trF Tryz.prog Gf = some m_slices_Equal := by kernel_rfl
-- 143 shardlog/wire.CutNum; Ae [(0, b), (1, b), (5, n), (6, _), (7, c)]
noncomputable def m_wire_CutNum : MF := ⟨28, [.t 2, .t 3, .t 4],
 .seq (
 .ops [
 .p 2 .mv [(.const (.int .i64 0))],
 .p 3 .mv [(.const (.slice none 0 0))],
 .p 4 .mv [(.const (.bool false))]]) (
 .seq (
 .seq (
 .ops [
 .p 8 .mv [(.tmp 0)],
 .p 9 .len [(.tmp 8)],
 .p 10 (.bin .lss) [(.tmp 9), (.const (.int .i64 4))]]) (
 .cond (.tmp 10) (
 .seq (
 .ops [
 .p 2 .mv [(.const (.int .i64 0))],
 .p 3 .mv [(.const (.slice none 0 0))],
 .p 4 .mv [(.const (.bool false))]]) (
 .ret)) (
 .skip))) (
 .seq (
 .ops [
 .p 5 .mv [(.const (.int .i64 0))]]) (
 .seq (
 .seq (
 .ops [
 .p 11 .mv [(.tmp 0)],
 .p 12 (.sls 1 false true false) [(.tmp 11), (.const (.int .i64 4))],
 .p 13 .len [(.tmp 12)],
 .p 14 .mv [(.const (.int .i64 0))]]) (
 .block 0 (
 .loop (
 .seq (
 .ops [
 .p 15 (.bin .lss) [(.tmp 14), (.tmp 13)]]) (
 .seq (
 .cond (.tmp 15) (
 .skip) (
 .exit 0)) (
 .seq (
 .block 1 (
 .seq (
 .ops [
 .p 16 (.ixs 1) [(.tmp 12), (.tmp 14)],
 .ld 17 (.tmp 16),
 .p 7 .mv [(.tmp 17)]]) (
 .ops [
 .p 18 .mv [(.tmp 5)],
 .p 19 (.bin .shl) [(.tmp 18), (.const (.int .u64 8))],
 .p 20 .mv [(.tmp 7)],
 .p 21 (.conv .i64) [(.tmp 20)],
 .p 22 (.bin .or) [(.tmp 19), (.tmp 21)],
 .p 5 .mv [(.tmp 22)]]))) (
 .ops [
 .p 23 (.bin .add) [(.tmp 14), (.const (.int .i64 1))],
 .p 14 .mv [(.tmp 23)]]))))))) (
 .seq (
 .ops [
 .p 24 .mv [(.tmp 5)],
 .p 25 .mv [(.tmp 0)],
 .p 26 (.sls 1 true false false) [(.tmp 25), (.const (.int .i64 4))],
 .call (some 27) EX [(.tmp 26)],
 .p 2 .mv [(.tmp 24)],
 .p 3 .mv [(.tmp 27)],
 .p 4 .mv [(.const (.bool true))]]) (
 .ret)))))⟩

theorem UA : trF Tryz.prog DW = some m_wire_CutNum := by kernel_rfl
-- 146 slices.Grow[[]byte,byte]; Ae [(0, s), (1, n), (2, s), (3, n)]
noncomputable def m_slices_Grow : MF := ⟨27, [.t 4],
 .seq (
 .ops [
 .p 4 .mv [(.const (.slice none 0 0))]]) (
 .seq (
 .seq (
 .ops [
 .p 5 .mv [(.tmp 1)],
 .p 6 (.bin .lss) [(.tmp 5), (.const (.int .i64 0))]]) (
 .cond (.tmp 6) (
 .ops [
 .p 7 (.ifc Xt) [(.const (.string ⟨#[99, 97, 110, 110, 111, 116, 32, 98, 101, 32, 110, 101, 103, 97, 116, 105, 118, 101]⟩))],
 .gen none ⟨none, (.panic (.tmp 7)), 0, "slices.go:424", #[⟨0, .data⟩], none⟩]) (
 .skip))) (
 .seq (
 .seq (
 .ops [
 .p 8 .mv [(.tmp 1)],
 .p 9 .mv [(.tmp 0)],
 .p 10 .cap [(.tmp 9)],
 .p 11 .mv [(.tmp 0)],
 .p 12 .len [(.tmp 11)],
 .p 13 (.bin .sub) [(.tmp 10), (.tmp 12)],
 .p 14 (.bin .sub) [(.tmp 8), (.tmp 13)],
 .p 1 .mv [(.tmp 14)]]) (
 .seq (
 .ops [
 .p 15 .mv [(.tmp 1)],
 .p 16 (.bin .gtr) [(.tmp 15), (.const (.int .i64 0))]]) (
 .cond (.tmp 16) (
 .ops [
 .p 17 .mv [(.tmp 0)],
 .p 18 .mv [(.tmp 0)],
 .p 19 .cap [(.tmp 18)],
 .p 20 (.sls 1 false true false) [(.tmp 17), (.tmp 19)],
 .p 21 .mv [(.tmp 1)],
 .app 22 #[Ap, tInt] Ap (.tmp 20) (.tmp 21),
 .p 23 .mv [(.tmp 0)],
 .p 24 .len [(.tmp 23)],
 .p 25 (.sls 1 false true false) [(.tmp 22), (.tmp 24)],
 .p 0 .mv [(.tmp 25)]]) (
 .skip)))) (
 .seq (
 .ops [
 .p 26 .mv [(.tmp 0)],
 .p 4 .mv [(.tmp 26)]]) (
 .ret))))⟩

theorem UC : trF Tryz.prog KC = some m_slices_Grow := by kernel_rfl
-- 32 shardlog/shardlogref05.Shape; Ae [(0, a), (1, b), (2, a), (3, b), (5, f)]
-- 33 shardlog/shardlogref05.N; Ae [(0, s), (1, s)]
-- 41 shardlog/code.Decode; Ae [(0, s), (1, l), (2, s), (3, l), (6, at), (7, first), (8, x), (9, ok), (10, v)]
-- 42 shardlog/code.N; Ae [(0, s), (1, s)]
-- 43 shardlog/shardlogref05.Right; Ae [(0, s), (1, s)]
-- 79 shardlog/code.Right; Ae [(0, s), (1, s)]
-- 83 shardlog/code.there; Ae [(0, l), (1, l), (3, out), (4, i), (5, b)]
-- 88 shardlog/code.value; Ae [(0, p), (1, p), (4, v), (5, _), (6, ok)]
-- 90 shardlog/code.agrees; Ae [(0, s), (1, v), (2, l), (3, s), (4, v), (5, l), (7, all), (8, e), (9, _), (10, i)]
-- 91 shardlog/code.Encode; Ae [(0, s), (1, v), (2, s), (3, v)]
-- 94 shardlog/shardlogref05.Encode; Ae [(0, s), (1, v), (2, s), (3, v), (5, b), (6, n), (7, p), (8, i)]
-- 126 slices.ContainsFunc[[][]byte,[]byte]; Ae [(0, s), (1, f), (2, s), (3, f)]
-- 127 shardlog/matrix.Right$1; Ae [(0, r), (2, r)]
-- 128 shardlog/field.New; Ae [(1, f), (2, x), (3, i)]
-- 129 shardlog/matrix.copied; Ae [(0, m), (1, m), (3, out), (4, _), (5, r)]
-- 131 shardlog/matrix.pivot; Ae [(0, m), (1, out), (2, c), (3, m), (4, out), (5, c), (7, i)]
-- 132 shardlog/matrix.clearColumn; Ae [(0, f), (1, m), (2, out), (3, c), (4, f), (5, m), (6, out), (7, c), (8, x), (9, i), (10, y)]
-- 133 (*shardlog/field.Field).Inv; Ae [(0, f), (1, a), (2, f), (3, a)]
-- 135 shardlog/matrix.plus; Ae [(0, a), (1, b), (2, a), (3, b), (4, i), (5, x)]
-- 136 (*shardlog/field.Field).Row; Ae [(0, f), (1, c), (2, b), (3, f), (4, c), (5, b), (7, times), (8, out), (9, _), (10, x)]
-- 157 slices.IndexFunc[[][]byte,[]byte]; Ae [(0, s), (1, f), (2, s), (3, f), (5, i)]
-- 158 (*shardlog/field.Field).Mul; Ae [(0, f), (1, a), (2, b), (3, f), (4, a), (5, b)]
-- 159 slices.Chunk[[]byte,byte]; Ae [(0, s), (1, n), (2, s), (3, n)]
-- 160 shardlog/shardlogref03.Mul; Ae [(0, a), (1, b), (2, a), (3, b), (5, x), (6, y), (7, out), (8, i)]
-- 161 shardlog/shardlogref03.Inv; Ae [(0, a), (1, a), (3, b)]
end Go.Proofs.YtgpkbldlkadnjaaGreat
end
section
namespace Go.Sl
open Go.RowKit
theorem El.of {P : Program} {t e : TypeId} {s bytes : Nat} {z : Value} (h1 : P.underlying t = some (.slice e)) (h2 : (P.info? e).map (fun i => (i.zero, i.size, i.bytes)) = some (some z, s, bytes)) (h3 : z.cells.size = s) (h4 : 0 < s) : El P t e s bytes z := by
 refine ⟨h1, ?_, h3, h4⟩
 cases hi : P.info? e with
 | none => rw [hi] at h2; cases h2
 | some i =>
  rw [hi] at h2
  simp only [Option.map_some, Option.some.injEq, Prod.mk.injEq] at h2
  exact ⟨i, rfl, h2.1, h2.2.1, h2.2.2⟩
end Go.Sl
namespace Go.Proofs.YtgpkbldlkadnjaaGreat
open Go Go.Sl
theorem elB : El Tryz.prog 31 5 1 1 (.int .u8 0) := El.of (by kernel_rfl) (by kernel_rfl) rfl (by decide)
theorem elM : El Tryz.prog 60 31 1 24 (.slice none 0 0) := El.of (by kernel_rfl) (by kernel_rfl) rfl (by decide)
end Go.Proofs.YtgpkbldlkadnjaaGreat
end
section
namespace Go.Proofs.YtgpkbldlkadnjaaGreat
open Go Go.Sl
def J8 (x : Nat) : Nat := if 255 < 2 * x then (2 * x) ^^^ 285 else 2 * x
def Ii : Nat → List Nat × List Nat × Nat
 | 0 => (List.replicate 255 0, List.replicate 256 0, 1)
 | i + 1 => ((Ii i).1.set i (Ii i).2.2, (Ii i).2.1.set (Ii i).2.2 i, J8 (Ii i).2.2)
theorem Abj : (List.range 256).all (fun x => decide (J8 x < 256)) = true := by decide +kernel
theorem Ab7 (x : Nat) (h : x < 256) : J8 x < 256 := by
 have := List.all_eq_true.1 Abj x (List.mem_range.2 h)
 simpa using this
theorem Vp : ∀ i, (Ii i).1.length = 255 ∧ (Ii i).2.1.length = 256
 | 0 => ⟨List.length_replicate, List.length_replicate⟩
 | i + 1 => by
  have := Vp i
  exact ⟨by rw [Ii, List.length_set]; exact this.1, by rw [Ii, List.length_set]; exact this.2⟩
def VB (n : Nat) : Value := .int .u8 n
def VI (n : Nat) : Value := .int .i64 n
def AaP (i : Nat) : List Value := (Ii i).1.map VB ++ (Ii i).2.1.map VI
def Me (w : World) (b : Nat) : Prop := ∃ e, w.heap[b]? = some (.cells (AaP 255).toArray e (0, 0))
theorem Me.fr {w w' : World} {M : Nat → Prop} {b : Nat} (h : Me w b) (hf : Fr M w w') (hM : ¬ M b) : Me w' b := by
 obtain ⟨e, h⟩ := h
 exact ⟨e, by rw [hf.same b (Array.getElem?_eq_some_iff.1 h).1 hM]; exact h⟩
theorem Me.lt {w : World} {b : Nat} (h : Me w b) : b < w.heap.size := by
 obtain ⟨e, h⟩ := h
 exact (Array.getElem?_eq_some_iff.1 h).1
def Oh (i : Nat) : Nat := (Ii 255).1.getD i 0
def Ic (a : Nat) : Nat := (Ii 255).2.1.getD a 0
theorem Me.log {w : World} {b : Nat} (h : Me w b) {a : Nat} (ha : a < 256) : w.cell? ⟨b, 255 + a, none⟩ = some (VI (Ic a)) := by
 obtain ⟨e, h⟩ := h
 have h1 := Vp 255
 simp only [World.cell?, h, Option.isSome_none, Bool.false_eq_true, if_false, AaP, Ic, List.getElem?_toArray]
 rw [List.getElem?_append_right (by simp [h1])]
 simp only [List.length_map, h1.1, Nat.add_sub_cancel_left, List.getElem?_map, List.getD_eq_getElem?_getD, List.getElem?_eq_getElem (show a < (Ii 255).2.1.length by omega)]
 rfl
theorem Tc : (Ii 255).1.all (fun n => decide (n < 256)) = true ∧ (Ii 255).2.1.all (fun n => decide (n < 255)) = true := by decide +kernel
theorem Sm (i : Nat) : Oh i < 256 := by
 unfold Oh
 rw [List.getD_eq_getElem?_getD]
 cases h : (Ii 255).1[i]? with
 | none => simp
 | some n => have := List.all_eq_true.1 Tc.1 n (List.mem_of_getElem? h); simpa using this
theorem Si (a : Nat) : Ic a < 255 := by
 unfold Ic
 rw [List.getD_eq_getElem?_getD]
 cases h : (Ii 255).2.1[a]? with
 | none => simp
 | some n => have := List.all_eq_true.1 Tc.2 n (List.mem_of_getElem? h); simpa using this
def CG (a b : UInt8) : UInt8 := if a = 0 ∨ b = 0 then 0 else UInt8.ofNat (Oh ((Ic a.toNat + Ic b.toNat) % 255))
def Nl (a : UInt8) : UInt8 := if a = 0 then 0 else UInt8.ofNat (Oh ((255 - Ic a.toNat) % 255))
end Go.Proofs.YtgpkbldlkadnjaaGreat
end
section
namespace Go.Proofs.YtgpkbldlkadnjaaGreat
open Go Go.Sl Go.RowKit
theorem V3 (x : UInt8) : x.toNat = 0 ↔ x = 0 := ⟨fun h => UInt8.toNat_inj.1 h, fun h => by rw [h]; rfl⟩
end Go.Proofs.YtgpkbldlkadnjaaGreat
end
section
namespace Go.Sl
def O7 (B : Nat) (v : Value) : Prop := ∀ b, v.ownBlock = some b → B ≤ b
theorem O7.nil (B : Nat) : O7 B (.slice none 0 0) := fun b h => by cases h
theorem O7.mono {B B' : Nat} {v : Value} (h : O7 B v) (hb : B' ≤ B) : O7 B' v := fun b hh => Nat.le_trans hb (h b hh)
theorem O7.app {B : Nat} {v v' : Value} {s s' : Nat} (h : O7 B v) (hs : B ≤ s) (hat : v'.ownBlock = v.ownBlock ∨ ∃ b, v'.ownBlock = some b ∧ s ≤ b ∧ b < s') : O7 B v' := by
 intro b hb
 rcases hat with hat | ⟨c, hc, h1, _⟩
 ·exact h b (hat ▸ hb)
 ·rw [hc] at hb; cases hb; omega
theorem Fr.own {w w1 w2 : World} {v : Value} {M : Nat → Prop} (h : Fr M w w1) (hv : O7 w.heap.size v) (k : Fr (fun b => v.ownBlock = some b) w1 w2) : Fr M w w2 :=
 h.step k fun b hb hM => absurd (hv b hM) (by omega)
end Go.Sl
namespace Go.Proofs.YtgpkbldlkadnjaaGreat
open Go Go.Sl Go.RowKit

def O6 (B : Nat) (w : World) (r : Value) (xs : List UInt8) : Prop := Ow w 5 1 r xs.length (xs.map U8) ∧ O7 B r

end Go.Proofs.YtgpkbldlkadnjaaGreat
end
section
namespace Go.Proofs.YtgpkbldlkadnjaaGreat
open Go Go.Sl Go.RowKit
structure OM (w : World) (r : Value) (vs : List Value) (m : List (List UInt8)) : Prop where
 len : vs.length = m.length
 spine : Ow w 31 1 r m.length vs
 row : ∀ (j : Nat) (u : Value) (x : List UInt8), vs[j]? = some u → m[j]? = some x → Ow w 5 1 u x.length (x.map U8)
def Has (r : Value) (vs : List Value) (b : Nat) : Prop := r.ownBlock = some b ∨ ∃ (j : Nat) (u : Value), vs[j]? = some u ∧ u.ownBlock = some b
structure Dis (r : Value) (vs : List Value) : Prop where
 spine : ∀ (j : Nat) (u : Value) (b : Nat), vs[j]? = some u → u.ownBlock = some b → r.ownBlock ≠ some b
 rows : ∀ (i j : Nat) (u v : Value) (b : Nat), i ≠ j → vs[i]? = some u → vs[j]? = some v → u.ownBlock = some b → v.ownBlock ≠ some b

theorem OM.nil (w : World) : OM w (.slice none 0 0) [] [] := ⟨rfl, Ow.nil w 31 1, fun j u x h => by simp at h⟩
theorem Dis.nil (r : Value) : Dis r [] := ⟨fun j u b h => by simp at h, fun i j u v b _ h => by simp at h⟩
theorem Has.nil (b : Nat) : ¬ Has (.slice none 0 0) [] b := by
 rintro (h | ⟨j, u, h, _⟩)
 ·cases h
 ·simp at h
theorem OM.fr {w w' : World} {M : Nat → Prop} {r : Value} {vs : List Value} {m : List (List UInt8)} (h : OM w r vs m) (hf : Fr M w w') (hM : ∀ b, Has r vs b → ¬ M b) : OM w' r vs m :=
 ⟨h.len, h.spine.fr hf fun b hb => hM b (.inl hb), fun j u x hu hx => (h.row j u x hu hx).fr hf fun b hb => hM b (.inr ⟨j, u, hu, hb⟩)⟩
theorem OM.no {w w' : World} {r : Value} {vs : List Value} {m : List (List UInt8)} (h : OM w r vs m) (hf : Fr No w w') : OM w' r vs m := h.fr hf fun _ _ h => h
theorem OM.lt {w : World} {r : Value} {vs : List Value} {m : List (List UInt8)} (h : OM w r vs m) {b : Nat} (hb : Has r vs b) : b < w.heap.size := by
 rcases hb with hb | ⟨j, u, hu, hb⟩
 ·exact h.spine.lt hb
 ·have : j < m.length := by have := (List.getElem?_eq_some_iff.1 hu).1; rw [h.len] at this; exact this
  exact (h.row j u m[j] hu (List.getElem?_eq_getElem this)).lt hb
theorem OM.ms {w : World} {r : Value} {vs : List Value} {m : List (List UInt8)} (h : OM w r vs m) {B : Nat} (hB : ∀ b, Has r vs b → b < B) : MS w B r m := by
 refine ⟨vs, ?_, h.len, fun j u x hu hx => (h.row j u x hu hx).bs fun b hb => hB b (.inr ⟨j, u, hu, hb⟩)⟩
 have := h.spine
 rw [← h.len] at this
 exact this.rs fun b hb => hB b (.inl hb)
theorem OM.push {w w1 w2 : World} {r r' u : Value} {vs : List Value} {m : List (List UInt8)} {x : List UInt8} (h : OM w r vs m) (hf : Fr (fun b => r.ownBlock = some b) w w1) (hsp : Ow w1 31 1 r' (m.length + 1) (vs ++ [u]))
  (hu : Ow w 5 1 u x.length (x.map U8)) (hd : Dis r vs) (hu1 : ∀ b, u.ownBlock = some b → r.ownBlock ≠ some b) : OM w1 r' (vs ++ [u]) (m ++ [x]) := by
 refine ⟨by simp [h.len], by simpa using hsp, fun j v y hv hy => ?_⟩
 by_cases hj : j < m.length
 ·rw [List.getElem?_append_left (by rw [h.len]; exact hj)] at hv
  rw [List.getElem?_append_left hj] at hy
  exact (h.row j v y hv hy).fr hf fun b hb hM => hd.spine j v b hv hb hM
 ·rw [List.getElem?_append_right (by rw [h.len]; omega)] at hv
  rw [List.getElem?_append_right (by omega)] at hy
  rw [h.len] at hv
  cases hk : j - m.length with
  | zero =>
   rw [hk] at hv hy
   simp only [List.getElem?_cons_zero, Option.some.injEq] at hv hy
   subst hv
   subst hy
   exact hu.fr hf fun b hb hM => hu1 b hb hM
  | succ k => rw [hk] at hv; simp at hv
theorem Dis.push {r r' u : Value} {vs : List Value} (hd : Dis r vs) (hr : ∀ b, r'.ownBlock = some b → (¬ ∃ (j : Nat) (v : Value), vs[j]? = some v ∧ v.ownBlock = some b) ∧ u.ownBlock ≠ some b)
  (hu : ∀ b, u.ownBlock = some b → ¬ ∃ (j : Nat) (v : Value), vs[j]? = some v ∧ v.ownBlock = some b) : Dis r' (vs ++ [u]) := by
 have key : ∀ j v, (vs ++ [u])[j]? = some v → vs[j]? = some v ∨ (j = vs.length ∧ v = u) := by
  intro j v hv
  by_cases hj : j < vs.length
  ·rw [List.getElem?_append_left hj] at hv; exact .inl hv
  ·rw [List.getElem?_append_right (by omega)] at hv
   cases hk : j - vs.length with
   | zero => rw [hk] at hv; simp at hv; exact .inr ⟨by omega, hv.symm⟩
   | succ k => rw [hk] at hv; simp at hv
 refine ⟨fun j v b hv hb hrb => ?_, fun i j v v' b hij hv hv' hb hb' => ?_⟩
 ·rcases key j v hv with h | ⟨_, rfl⟩
  ·exact (hr b hrb).1 ⟨j, v, h, hb⟩
  ·exact (hr b hrb).2 hb
 ·rcases key i v hv with h | ⟨e, rfl⟩ <;> rcases key j v' hv' with h' | ⟨e', rfl⟩
  ·exact hd.rows i j v v' b hij h h' hb hb'
  ·exact hu b hb' ⟨i, v, h, hb⟩
  ·exact hu b hb ⟨j, v', h', hb'⟩
  ·omega
def NewM (B : Nat) (r : Value) (vs : List Value) : Prop := ∀ b, Has r vs b → B ≤ b
def Iw (B : Nat) (w : World) (r : Value) (m : List (List UInt8)) : Prop := ∃ vs, OM w r vs m ∧ Dis r vs ∧ NewM B r vs
theorem Iw.nil (B : Nat) (w : World) : Iw B w (.slice none 0 0) [] := ⟨[], OM.nil w, Dis.nil _, fun b h => absurd h (Has.nil b)⟩
theorem Iw.no {B : Nat} {w w' : World} {r : Value} {m : List (List UInt8)} (h : Iw B w r m) (hf : Fr No w w') : Iw B w' r m := by
 obtain ⟨vs, h1, h2, h3⟩ := h
 exact ⟨vs, h1.no hf, h2, h3⟩
theorem Iw.ms {B : Nat} {w : World} {r : Value} {m : List (List UInt8)} (h : Iw B w r m) : MS w w.heap.size r m := by
 obtain ⟨vs, h1, h2, h3⟩ := h
 exact h1.ms fun b hb => h1.lt hb

def Ut : List UInt8 → List UInt8 → List UInt8
 | a :: xs, b :: ys => (a ^^^ b) :: Ut xs ys
 | xs, _ => xs

theorem QO : ∀ (xs ys : List UInt8), (Ut xs ys).length = xs.length
 | [], _ => by cases ‹List UInt8› <;> rfl
 | _ :: _, [] => rfl
 | x :: xs, y :: ys => by simp [Ut, QO xs ys]
theorem O6.no {B : Nat} {w w' : World} {r : Value} {xs : List UInt8} (h : O6 B w r xs) (hf : Fr No w w') : O6 B w' r xs := ⟨h.1.no hf, h.2⟩
theorem O6.bs {B : Nat} {w : World} {r : Value} {xs : List UInt8} (h : O6 B w r xs) : BS w w.heap.size r xs := h.1.bs fun b hb => h.1.lt hb

end Go.Proofs.YtgpkbldlkadnjaaGreat
end
section
set_option maxHeartbeats 3000000
attribute [local irreducible] Go.Sl.Chk Go.Sl.Br Go.Sl.Ld Go.Sl.Ldn Go.Sl.LdB Go.Sl.Stn Go.Sl.New Go.Sl.Run Go.Sl.BZ Go.Sl.BQ Go.Sl.Call Go.Sl.Bc Go.Sl.Cb Go.Sl.Alt Go.Sl.ev Go.Sl.AU
namespace Go.Proofs.YtgpkbldlkadnjaaGreat
open Go Go.Sl Go.RowKit
def inR (m : List (List UInt8)) (i : Int) : Bool := decide (0 ≤ i) && decide (i < m.length)
def rowAt (m : List (List UInt8)) (i : Int) : List UInt8 := m.getD i.toNat []
def pick (m : List (List UInt8)) (at' : List Int) : List (List UInt8) := if at'.all (inR m) then at'.map (rowAt m) else []
theorem Iw.mono {B B' : Nat} {w : World} {r : Value} {m : List (List UInt8)} (h : Iw B w r m) (hB : B' ≤ B) : Iw B' w r m := by
 obtain ⟨vs, h1, h2, h3⟩ := h
 exact ⟨vs, h1, h2, fun b hb => Nat.le_trans hB (h3 b hb)⟩

/-! ### Coding -/
def codeAt (k i j : Nat) : UInt8 := if k ≤ i then Nl (UInt8.ofNat (i ^^^ j)) else if i = j then 1 else 0
def AeK (k i : Nat) : List UInt8 := (List.range k).map (codeAt k i)
def coding (k n : Nat) : List (List UInt8) := (List.range n).map (AeK k)
def part (f : Nat → UInt8) (k j : Nat) : List UInt8 := (List.range k).map fun x => if x < j then f x else 0
abbrev LL := List (List UInt8)
def width (m : List (List UInt8)) : Nat := (m.getD 0 []).length
structure Aai (m : List (List UInt8)) : Prop where
 pos : 0 < m.length
 wide : 0 < width m
 all : ∀ x ∈ m, x.length = width m
structure Small (m : List (List UInt8)) : Prop where
 high : m.length ≤ 1000
 wide : ∀ x ∈ m, x.length ≤ 1000
theorem JV {α : Type} {l : List α} {k : Nat} (d : α) (h : k < l.length) : l.getD k d = l[k] := by
 rw [List.getD_eq_getElem?_getD, List.getElem?_eq_getElem h]; rfl

def sig (c i j : Nat) : Nat := if j = i then c else if j = c then i else j
def swp {α : Type} (d : α) (l : List α) (c i : Nat) : List α := (l.set c (l.getD i d)).set i (l.getD c d)
theorem F5 {α : Type} (d : α) (l : List α) (c i : Nat) : (swp d l c i).length = l.length := by simp [swp]
theorem swp_get {α : Type} (d : α) {l : List α} {c i : Nat} (hc : c < l.length) (hi : i < l.length) (j : Nat) : (swp d l c i)[j]? = l[sig c i j]? := by
 unfold swp sig
 rw [JV d hc, JV d hi]
 rw [List.getElem?_set, List.length_set]
 by_cases h1 : i = j
 ·subst h1; rw [if_pos rfl, if_pos hi, if_pos rfl, List.getElem?_eq_getElem hc]
 ·rw [if_neg h1, if_neg (fun e => h1 e.symm), List.getElem?_set]
  by_cases h2 : c = j
  ·subst h2; rw [if_pos rfl, if_pos hc, if_pos rfl, List.getElem?_eq_getElem hi]
  ·rw [if_neg h2, if_neg (fun e => h2 e.symm)]
theorem Aav {c i j k : Nat} (h : sig c i j = sig c i k) : j = k := by
 unfold sig at h
 split at h <;> split at h <;> (try split at h) <;> (try split at h) <;> omega
theorem sig_lt {c i j n : Nat} (hc : c < n) (hi : i < n) (hj : j < n) : sig c i j < n := by
 unfold sig; split; exact hc; split; exact hi; exact hj

theorem OM.at {w : World} {r : Value} {vs : List Value} {m : List (List UInt8)} (h : OM w r vs m) {j : Nat} (hj : j < m.length) : ∃ u, vs[j]? = some u ∧ Ow w 5 1 u m[j].length (m[j].map U8) ∧
  ∃ g cap, r = .slice (some ⟨g, 0, none⟩) m.length cap ∧ w.cell? ⟨g, j, none⟩ = some u := by
 have hv : vs[j]? = some (vs[j]'(by rw [h.len]; exact hj)) := List.getElem?_eq_getElem _
 refine ⟨_, hv, h.row j _ _ hv (List.getElem?_eq_getElem hj), ?_⟩
 rcases h.spine.form with ⟨_, hn, _⟩ | ⟨g, cap, cur, rfl, _⟩
 ·omega
 ·exact ⟨g, cap, rfl, h.spine.cellAt hv⟩
theorem OM.at' {w : World} {g k cap : Nat} {vs : List Value} {m : List (List UInt8)} (h : OM w (.slice (some ⟨g, 0, none⟩) k cap) vs m) {j : Nat} (hj : j < m.length) : ∃ u, vs[j]? = some u ∧ Ow w 5 1 u m[j].length (m[j].map U8) ∧
  w.cell? ⟨g, j, none⟩ = some u := by
 obtain ⟨u, h1, h2, g', cap', e, h3⟩ := h.at hj
 simp only [Value.slice.injEq, Option.some.injEq, Addr.mk.injEq] at e
 refine ⟨u, h1, h2, ?_⟩
 rw [e.1.1]
 exact h3
structure PM (w : World) (n : Nat) (rl : Value) (vl : List Value) (l : List (List UInt8)) (ro : Value) (vo : List Value) (o : List (List UInt8)) : Prop where
 left : OM w rl vl l
 out : OM w ro vo o
 dl : Dis rl vl
 do' : Dis ro vo
 apart : ∀ b, Has rl vl b → ¬ Has ro vo b
 ll : l.length = n
 lo : o.length = n
 wl : ∀ x ∈ l, x.length = n
 wo : ∀ x ∈ o, x.length = n
theorem PM.no {w w' : World} {n : Nat} {rl ro : Value} {vl vo : List Value} {l o : List (List UInt8)} (h : PM w n rl vl l ro vo o) (hf : Fr No w w') : PM w' n rl vl l ro vo o :=
 ⟨h.left.no hf, h.out.no hf, h.dl, h.do', h.apart, h.ll, h.lo, h.wl, h.wo⟩
def Has2 (rl : Value) (vl : List Value) (ro : Value) (vo : List Value) (b : Nat) : Prop := Has rl vl b ∨ Has ro vo b

theorem TC {α : Type} {l l' : List α} {f : Nat → Nat} (h : ∀ j, l'[j]? = l[f j]?) {x : α} (hx : x ∈ l') : x ∈ l := by
 obtain ⟨j, hj⟩ := List.getElem?_of_mem hx
 rw [h j] at hj
 exact List.mem_of_getElem? hj
theorem OM.reorder {w w' : World} {r : Value} {vs vs' : List Value} {m m' : List (List UInt8)} (h : OM w r vs m) (hd : Dis r vs) {f : Nat → Nat} (hv : ∀ j, vs'[j]? = vs[f j]?) (hm : ∀ j, m'[j]? = m[f j]?) (hlv : vs'.length = vs.length) (hlm : m'.length = m.length)
  (hsp : Ow w' 31 1 r m.length vs') (hf : Fr (fun b => r.ownBlock = some b) w w') : OM w' r vs' m' := by
 refine ⟨by rw [hlv, hlm]; exact h.len, by rw [hlm]; exact hsp, fun j u x hu hx => ?_⟩
 rw [hv] at hu
 rw [hm] at hx
 exact (h.row _ u x hu hx).fr hf fun b hb hr => hd.spine _ u b hu hb hr
theorem Dis.reorder {r : Value} {vs vs' : List Value} (hd : Dis r vs) {f : Nat → Nat} (hi : ∀ j k, f j = f k → j = k) (hv : ∀ j, vs'[j]? = vs[f j]?) : Dis r vs' :=
 ⟨fun j u b hu hb => by rw [hv] at hu; exact hd.spine _ u b hu hb, fun i j u v b hij hu hv' hb => by rw [hv] at hu hv'; exact hd.rows _ _ u v b (fun e => hij (hi _ _ e)) hu hv' hb⟩
theorem Has.reorder {r : Value} {vs vs' : List Value} {f : Nat → Nat} (hv : ∀ j, vs'[j]? = vs[f j]?) {b : Nat} (h : Has r vs' b) : Has r vs b := by
 rcases h with h | ⟨j, u, hu, hb⟩
 ·exact .inl h
 ·rw [hv] at hu; exact .inr ⟨_, u, hu, hb⟩
theorem PM.swap {w w' : World} {n : Nat} {rl ro : Value} {vl vo : List Value} {l o : List (List UInt8)} (h : PM w n rl vl l ro vo o) {c i : Nat} (hc : c < n) (hi : i < n)
  (hl : Ow w' 31 1 rl n (swp undef vl c i)) (ho : Ow w' 31 1 ro n (swp undef vo c i)) (hf : Fr (fun b => rl.ownBlock = some b ∨ ro.ownBlock = some b) w w') :
  PM w' n rl (swp undef vl c i) (swp [] l c i) ro (swp undef vo c i) (swp [] o c i) := by
 have hvl : vl.length = n := by rw [h.left.len]; exact h.ll
 have hvo : vo.length = n := by rw [h.out.len]; exact h.lo
 have e1 := swp_get undef (l := vl) (c := c) (i := i) (by omega) (by omega)
 have e2 := swp_get undef (l := vo) (c := c) (i := i) (by omega) (by omega)
 have e3 := swp_get [] (l := l) (c := c) (i := i) (by rw [h.ll]; exact hc) (by rw [h.ll]; exact hi)
 have e4 := swp_get [] (l := o) (c := c) (i := i) (by rw [h.lo]; exact hc) (by rw [h.lo]; exact hi)
 refine ⟨⟨by rw [F5, F5]; exact h.left.len, by rw [F5, h.ll]; exact hl, fun j u x hu hx => ?_⟩, ⟨by rw [F5, F5]; exact h.out.len, by rw [F5, h.lo]; exact ho, fun j u x hu hx => ?_⟩,
  h.dl.reorder (fun _ _ => Aav) e1, h.do'.reorder (fun _ _ => Aav) e2, fun b hb hb' => h.apart b (hb.reorder e1) (hb'.reorder e2),
  by rw [F5]; exact h.ll, by rw [F5]; exact h.lo, fun x hx => h.wl x (TC e3 hx), fun x hx => h.wo x (TC e4 hx)⟩
 ·rw [e1] at hu
  rw [e3] at hx
  refine (h.left.row _ u x hu hx).fr hf fun b hb hr => ?_
  rcases hr with hr | hr
  ·exact h.dl.spine _ u b hu hb hr
  ·exact h.apart b (.inr ⟨_, u, hu, hb⟩) (.inl hr)
 ·rw [e2] at hu
  rw [e4] at hx
  refine (h.out.row _ u x hu hx).fr hf fun b hb hr => ?_
  rcases hr with hr | hr
  ·exact h.apart b (.inl hr) (.inr ⟨_, u, hu, hb⟩)
  ·exact h.do'.spine _ u b hu hb hr

theorem OM.put {w w' : World} {r u : Value} {vs : List Value} {m : List (List UInt8)} {x : List UInt8} {c : Nat} (h : OM w r vs m) (hd : Dis r vs) (hsp : Ow w' 31 1 r m.length (vs.set c u)) {M : Nat → Prop} (hf : Fr M w w') (hM : ∀ b, M b → ¬ ∃ (j : Nat) (v : Value), vs[j]? = some v ∧ v.ownBlock = some b)
  (hu : Ow w' 5 1 u x.length (x.map U8)) : OM w' r (vs.set c u) (m.set c x) := by
 refine ⟨by simp [h.len], by simpa using hsp, fun j v y hv hy => ?_⟩
 rw [List.getElem?_set] at hv hy
 by_cases hcj : c = j
 ·subst hcj
  rw [if_pos rfl] at hv hy
  split at hv <;> split at hy <;> simp at hv hy
  subst hv
  subst hy
  exact hu
 ·rw [if_neg hcj] at hv hy
  exact (h.row j v y hv hy).fr hf fun b hb hMb => hM b hMb ⟨j, v, hv, hb⟩
theorem Dis.put {r u : Value} {vs : List Value} {c : Nat} (hd : Dis r vs) (hu : ∀ b, u.ownBlock = some b → ¬ Has r vs b) : Dis r (vs.set c u) := by
 have key : ∀ (j : Nat) (v : Value), (vs.set c u)[j]? = some v → (j ≠ c ∧ vs[j]? = some v) ∨ (j = c ∧ v = u) := by
  intro j v hv
  rw [List.getElem?_set] at hv
  by_cases h : c = j
  ·rw [if_pos h] at hv
   split at hv <;> simp at hv
   exact .inr ⟨h.symm, hv.symm⟩
  ·rw [if_neg h] at hv; exact .inl ⟨fun e => h e.symm, hv⟩
 refine ⟨fun j v b hv hb hrb => ?_, fun i j v v' b hij hv hv' hb hb' => ?_⟩
 ·rcases key j v hv with ⟨_, h⟩ | ⟨_, rfl⟩
  ·exact hd.spine j v b h hb hrb
  ·exact hu b hb (.inl hrb)
 ·rcases key i v hv with ⟨_, h⟩ | ⟨e, rfl⟩ <;> rcases key j v' hv' with ⟨_, h'⟩ | ⟨e', rfl⟩
  ·exact hd.rows i j v v' b hij h h' hb hb'
  ·exact hu b hb' (.inr ⟨i, v, h, hb⟩)
  ·exact hu b hb (.inr ⟨j, v', h', hb'⟩)
  ·omega
theorem Has.put {r u : Value} {vs : List Value} {c b : Nat} (h : Has r (vs.set c u) b) : Has r vs b ∨ u.ownBlock = some b := by
 rcases h with h | ⟨j, v, hv, hb⟩
 ·exact .inl (.inl h)
 ·rw [List.getElem?_set] at hv
  by_cases hc : c = j
  ·rw [if_pos hc] at hv
   split at hv <;> simp at hv
   subst hv
   exact .inr hb
  ·rw [if_neg hc] at hv; exact .inl (.inr ⟨j, v, hv, hb⟩)
theorem OM.turn {w w' : World} {r u : Value} {vs : List Value} {m : List (List UInt8)} {x : List UInt8} {i g : Nat} (h : OM w r vs m) (hd : Dis r vs) (hv : vs[i]? = some u) (hg : u.ownBlock = some g) (hf : Fr (· = g) w w')
  (hu : Ow w' 5 1 u x.length (x.map U8)) : OM w' r vs (m.set i x) := by
 refine ⟨by simp [h.len], ?_, fun j v y hv' hy => ?_⟩
 ·rw [List.length_set]
  exact h.spine.fr hf fun b hb e => by subst e; exact hd.spine i u b hv hg hb
 ·rw [List.getElem?_set] at hy
  by_cases hij : i = j
  ·subst hij
   rw [if_pos rfl] at hy
   rw [hv] at hv'
   split at hy <;> simp at hy hv'
   subst hv'
   subst hy
   exact hu
  ·rw [if_neg hij] at hy
   exact (h.row j v y hv' hy).fr hf fun b hb e => by subst e; exact hd.rows i j u v b hij hv hv' hg hb
def entry (l : List (List UInt8)) (i j : Nat) : UInt8 := (l.getD i []).getD j 0
def Ac2 (l : List (List UInt8)) (n c : Nat) : Option Nat := (List.range n).find? fun i => decide (c ≤ i) && (entry l i c != 0)
theorem Ow.one {w : World} {e : TypeId} {s n : Nat} {v : Value} {cs : List Value} (h : Ow w e s v n cs) : v.oneCell' = true := by
 rcases h.form with ⟨rfl, _⟩ | ⟨_, _, _, rfl, _⟩ <;> rfl
theorem Ow.drew {w : World} {e : TypeId} {s n : Nat} {v : Value} {cs : List Value} (h : Ow w e s v n cs) : Ow w.drew e s v n cs := h

def Zo (a b : Nat) : Nat → Nat × Nat × Nat
 | 0 => (a, b, 0)
 | k + 1 => (J8 (Zo a b k).1, (Zo a b k).2.1 / 2, if (Zo a b k).2.1 % 2 = 1 then (Zo a b k).2.2 ^^^ (Zo a b k).1 else (Zo a b k).2.2)
def rmul (a b : UInt8) : UInt8 := UInt8.ofNat (Zo a.toNat b.toNat 8).2.2
theorem MS.row {w : World} {B n c : Nat} {A : Option Addr} {m : LL} (h : MS w B (.slice A n c) m) {j : Nat} (hj : j < m.length) : ∃ ad A' c', A = some ad ∧ w.cell? (ad.add j) = some (.slice A' m[j].length c') ∧ BS w B (.slice A' m[j].length c') m[j] := by
 obtain ⟨A1, c1, e, hc, hr⟩ := h.open
 cases e
 obtain ⟨ad, u, e1, hb, hcell, hrow⟩ := hr j hj
 obtain ⟨A2, c2, rfl, _⟩ := hrow.open
 exact ⟨ad, A2, c2, e1, hcell, hrow⟩
theorem MS.form {w : World} {B : Nat} {v : Value} {m : LL} (h : MS w B v m) : ∃ A c, v = .slice A m.length c := by
 obtain ⟨A1, c1, e, _⟩ := h.open
 exact ⟨A1, c1, e⟩

theorem MS.drew {w : World} {B : Nat} {v : Value} {m : LL} (h : MS w B v m) : MS w.drew B v m := h
theorem O6.nil (B : Nat) (w : World) : O6 B w (.slice none 0 0) [] := ⟨Ow.nil w 5 1, O7.nil _⟩

def Aes (m : LL) (i k : Nat) : LL := ((List.range k).filter fun x => x != i).map fun k => (m.getD k []).drop 1
def minor (m : LL) (i : Nat) : LL := Aes m i m.length
def ZQ (f : LL → UInt8) (m : LL) : Nat → UInt8
 | 0 => 0
 | i + 1 => if entry m i 0 = 0 then ZQ f m i else ZQ f m i ^^^ rmul (entry m i 0) (f (minor m i))
def det : Nat → LL → UInt8
 | 0 => fun _ => 0
 | 1 => fun m => entry m 0 0
 | n + 2 => fun m => ZQ (det (n + 1)) m (n + 2)

theorem BS.drop1 {w : World} {B n c : Nat} {ad : Addr} {xs : List UInt8} (h : BS w B (.slice (some ad) n c) xs) (hn : 1 ≤ n) : BS w B (.slice (some (ad.add 1)) (n - 1) (c - 1)) (xs.drop 1) := by
 obtain ⟨A', c', e, hc, hr⟩ := h.open
 cases e
 refine ⟨_, _, by rw [List.length_map, List.length_drop], by rw [List.length_map, List.length_drop]; omega, fun j u hu => ?_⟩
 have hj : j + 1 < xs.length := by
  have := (List.getElem?_eq_some_iff.1 hu).1
  rw [List.length_map, List.length_drop] at this
  omega
 obtain ⟨ad', e, hb, hcell⟩ := hr (j + 1) hj
 cases e
 refine ⟨_, rfl, by rw [add_block]; exact hb, ?_⟩
 rw [Addr.add_add, Nat.add_comm 1 j, hcell]
 rw [List.getElem?_map, List.getElem?_drop, Nat.add_comm 1 j, List.getElem?_eq_getElem hj] at hu
 exact hu
def VM (w0 : World) (B : Nat) (w : World) (r : Value) (m : LL) : Prop :=
 ∃ vs, vs.length = m.length ∧ Ow w 31 1 r m.length vs ∧ O7 w0.heap.size r ∧ ∀ (j : Nat) (u : Value) (x : List UInt8), vs[j]? = some u → m[j]? = some x → BS w0 B u x
theorem VM.nil (w0 : World) (B : Nat) (w : World) : VM w0 B w (.slice none 0 0) [] := ⟨[], rfl, Ow.nil w 31 1, O7.nil _, fun j u x h => by simp at h⟩
theorem VM.ms {w0 w : World} {B : Nat} {r : Value} {m : LL} (h : VM w0 B w r m) (hf : Fr No w0 w) (hB : B ≤ w0.heap.size) : MS w w.heap.size r m := by
 obtain ⟨vs, h1, h2, h3, h4⟩ := h
 refine ⟨vs, ?_, h1, fun j u x hu hx => (BS.fr (h4 j u x hu hx) hf fun _ _ h => h).mono (by have := hf.size; omega)⟩
 rw [← h1] at h2
 exact Ow.rs h2 fun b hb => Ow.lt h2 hb
theorem VM.push {w0 w : World} {B : Nat} {r u : Value} {m : LL} {x : List UInt8} (h : VM w0 B w r m) (hf : Fr No w0 w) (hu : BS w0 B u x) (hl : m.length ≤ 1000000) {b2 c : Nat} {w2 : World}
  (hc2 : w2.heap[b2]? = some (.cells #[u] 31 (0, 0))) (hf2 : Fr No w w2) {K : Value → World → Prop} {tg : A7 K}
  (k : ∀ r' w', VM w0 B w' r' (m ++ [x]) → Fr No w0 w' → K r' w') :
  Run Tryz.prog (Builtin.append_ #[60, 60] 60 #[r, .slice (some ⟨b2, 0, none⟩) 1 c]) w2 K tg := by
 obtain ⟨vs, h1, h2, h3, h4⟩ := h
 have hsz := hf.size
 have hsz2 := hf2.size
 refine app elM (Ow.no h2 hf2) (m := 1) (AdK hc2 c) rfl ?_ (by omega) (by omega) fun v4 w4 ho4 hf4 hat => ?_
 ·intro v hv
  simp at hv
  subst hv
  obtain ⟨_, _, rfl, _⟩ := hu.open
  rfl
 ·refine k v4 w4 ⟨vs ++ [u], by simp [h1], by simpa using ho4, h3.app (by omega) hat, fun j v y hv hy => ?_⟩ ((hf.then hf2).own h3 hf4)
  by_cases hj : j < m.length
  ·rw [List.getElem?_append_left (by omega)] at hv
   rw [List.getElem?_append_left hj] at hy
   exact h4 j v y hv hy
  ·rw [List.getElem?_append_right (by omega)] at hv
   rw [List.getElem?_append_right (by omega)] at hy
   rw [h1] at hv
   cases hk : j - m.length with
   | zero =>
    rw [hk] at hv hy
    simp only [List.getElem?_cons_zero, Option.some.injEq] at hv hy
    subst hv
    subst hy
    exact hu
   | succ k => rw [hk] at hv; simp at hv

def norm (c : Nat) (p : LL × LL) : LL × LL := (p.1.set c ((p.1.getD c []).map (CG (Nl (entry p.1 c c)))), p.2.set c ((p.2.getD c []).map (CG (Nl (entry p.1 c c)))))
def elim1 (c k : Nat) (p : LL × LL) : LL × LL :=
 if k ≠ c ∧ entry p.1 k c ≠ 0 then (p.1.set k (Ut (p.1.getD k []) ((p.1.getD c []).map (CG (entry p.1 k c)))), p.2.set k (Ut (p.2.getD k []) ((p.2.getD c []).map (CG (entry p.1 k c))))) else p
def elim (c : Nat) (p : LL × LL) : Nat → LL × LL
 | 0 => p
 | k + 1 => elim1 c k (elim c p k)
def clearC (n c : Nat) (p : LL × LL) : LL × LL := elim c (norm c p) n

theorem PM.put {w w' : World} {n : Nat} {rl ro t1 t2 : Value} {vl vo : List Value} {l o : LL} (h : PM w n rl vl l ro vo o) {c : Nat} {x1 x2 : List UInt8} (hx1 : x1.length = n) (hx2 : x2.length = n)
  (hl : Ow w' 31 1 rl n (vl.set c t1)) (ho : Ow w' 31 1 ro n (vo.set c t2)) (hf : Fr (fun b => rl.ownBlock = some b ∨ ro.ownBlock = some b) w w')
  (h1 : Ow w' 5 1 t1 x1.length (x1.map U8)) (h2 : Ow w' 5 1 t2 x2.length (x2.map U8)) (n1 : O7 w.heap.size t1) (n2 : O7 w.heap.size t2) (n12 : ∀ b, t1.ownBlock = some b → t2.ownBlock ≠ some b) :
  PM w' n rl (vl.set c t1) (l.set c x1) ro (vo.set c t2) (o.set c x2) := by
 have a1 : ∀ b, t1.ownBlock = some b → ¬ Has rl vl b ∧ ¬ Has ro vo b := fun b hb => ⟨fun e => by have := h.left.lt e; have := n1 b hb; omega, fun e => by have := h.out.lt e; have := n1 b hb; omega⟩
 have a2 : ∀ b, t2.ownBlock = some b → ¬ Has rl vl b ∧ ¬ Has ro vo b := fun b hb => ⟨fun e => by have := h.left.lt e; have := n2 b hb; omega, fun e => by have := h.out.lt e; have := n2 b hb; omega⟩
 refine ⟨h.left.put h.dl (by rw [h.ll]; exact hl) hf ?_ h1, h.out.put h.do' (by rw [h.lo]; exact ho) hf ?_ h2, h.dl.put fun b hb => (a1 b hb).1, h.do'.put fun b hb => (a2 b hb).2, ?_, by rw [List.length_set]; exact h.ll, by rw [List.length_set]; exact h.lo, ?_, ?_⟩
 ·rintro b (hb | hb) ⟨j, v, hv, hvb⟩
  ·exact h.dl.spine j v b hv hvb hb
  ·exact h.apart b (.inr ⟨j, v, hv, hvb⟩) (.inl hb)
 ·rintro b (hb | hb) ⟨j, v, hv, hvb⟩
  ·exact h.apart b (.inl hb) (.inr ⟨j, v, hv, hvb⟩)
  ·exact h.do'.spine j v b hv hvb hb
 ·intro b hb hb'
  rcases hb.put with e | e <;> rcases hb'.put with e' | e'
  ·exact h.apart b e e'
  ·exact (a2 b e').1 e
  ·exact (a1 b e).2 e'
  ·exact n12 b e e'
 ·intro x hx
  rcases List.mem_or_eq_of_mem_set hx with e | rfl
  ·exact h.wl x e
  ·exact hx1
 ·intro x hx
  rcases List.mem_or_eq_of_mem_set hx with e | rfl
  ·exact h.wo x e
  ·exact hx2
theorem Has2.swap {rl ro : Value} {vl vo : List Value} {c i b : Nat} (h1 : c < vl.length) (h2 : i < vl.length) (h3 : c < vo.length) (h4 : i < vo.length) (h : Has2 rl (swp undef vl c i) ro (swp undef vo c i) b) : Has2 rl vl ro vo b := by
 rcases h with h | h
 ·exact .inl (h.reorder (swp_get undef h1 h2))
 ·exact .inr (h.reorder (swp_get undef h3 h4))
theorem PM.lens {w : World} {n : Nat} {rl ro : Value} {vl vo : List Value} {l o : LL} (h : PM w n rl vl l ro vo o) : vl.length = n ∧ vo.length = n := ⟨by rw [h.left.len]; exact h.ll, by rw [h.out.len]; exact h.lo⟩
end Go.Proofs.YtgpkbldlkadnjaaGreat
end
section
set_option maxHeartbeats 2000000
namespace Go.Proofs.YtgpkbldlkadnjaaGreat
open Go Go.Sl
/-! ### one step: x times 2 -/
theorem V5 : (List.range 256).all (fun x => (List.range 256).all fun y => J8 (x ^^^ y) == J8 x ^^^ J8 y) = true := by decide +kernel
theorem Ab6 {x y : Nat} (hx : x < 256) (hy : y < 256) : J8 (x ^^^ y) = J8 x ^^^ J8 y := by
 have := List.all_eq_true.1 (List.all_eq_true.1 V5 x (List.mem_range.2 hx)) y (List.mem_range.2 hy)
 simpa using this

/-! ### the tables, written out -/
def ZJ : List Nat := [1, 2, 4, 8, 16, 32, 64, 128, 29, 58, 116, 232, 205, 135, 19, 38, 76, 152, 45, 90, 180, 117, 234, 201, 143, 3, 6, 12, 24, 48, 96, 192, 157, 39, 78, 156, 37, 74, 148, 53, 106, 212, 181, 119, 238, 193, 159, 35, 70, 140, 5, 10, 20, 40, 80, 160, 93, 186, 105, 210, 185, 111, 222, 161, 95, 190, 97, 194, 153, 47, 94, 188, 101, 202, 137, 15, 30, 60, 120, 240, 253, 231, 211, 187, 107, 214, 177, 127, 254, 225, 223, 163, 91, 182, 113, 226, 217, 175, 67, 134, 17, 34, 68, 136, 13, 26, 52, 104, 208, 189, 103, 206, 129, 31, 62, 124, 248, 237, 199, 147, 59, 118, 236, 197, 151, 51, 102, 204, 133, 23, 46, 92, 184, 109, 218, 169, 79, 158, 33, 66, 132, 21, 42, 84, 168, 77, 154, 41, 82, 164, 85, 170, 73, 146, 57, 114, 228, 213, 183, 115, 230, 209, 191, 99, 198, 145, 63, 126, 252, 229, 215, 179, 123, 246, 241, 255, 227, 219, 171, 75, 150, 49, 98, 196, 149, 55, 110, 220, 165, 87, 174, 65, 130, 25, 50, 100, 200, 141, 7, 14, 28, 56, 112, 224, 221, 167, 83, 166, 81, 162, 89, 178, 121, 242, 249, 239, 195, 155, 43, 86, 172, 69, 138, 9, 18, 36, 72, 144, 61, 122, 244, 245, 247, 243, 251, 235, 203, 139, 11, 22, 44, 88, 176, 125, 250, 233, 207, 131, 27, 54, 108, 216, 173, 71, 142]
def logT : List Nat := [0, 0, 1, 25, 2, 50, 26, 198, 3, 223, 51, 238, 27, 104, 199, 75, 4, 100, 224, 14, 52, 141, 239, 129, 28, 193, 105, 248, 200, 8, 76, 113, 5, 138, 101, 47, 225, 36, 15, 33, 53, 147, 142, 218, 240, 18, 130, 69, 29, 181, 194, 125, 106, 39, 249, 185, 201, 154, 9, 120, 77, 228, 114, 166, 6, 191, 139, 98, 102, 221, 48, 253, 226, 152, 37, 179, 16, 145, 34, 136, 54, 208, 148, 206, 143, 150, 219, 189, 241, 210, 19, 92, 131, 56, 70, 64, 30, 66, 182, 163, 195, 72, 126, 110, 107, 58, 40, 84, 250, 133, 186, 61, 202, 94, 155, 159, 10, 21, 121, 43, 78, 212, 229, 172, 115, 243, 167, 87, 7, 112, 192, 247, 140, 128, 99, 13, 103, 74, 222, 237, 49, 197, 254, 24, 227, 165, 153, 119, 38, 184, 180, 124, 17, 68, 146, 217, 35, 32, 137, 46, 55, 63, 209, 91, 149, 188, 207, 205, 144, 135, 151, 178, 220, 252, 190, 97, 242, 86, 211, 171, 20, 42, 93, 158, 132, 60, 57, 83, 71, 109, 65, 162, 31, 45, 67, 216, 183, 123, 164, 118, 196, 23, 73, 236, 127, 12, 111, 246, 108, 161, 59, 82, 41, 157, 85, 170, 251, 96, 134, 177, 187, 204, 62, 90, 203, 89, 95, 176, 156, 169, 160, 81, 11, 245, 22, 235, 122, 117, 44, 215, 79, 174, 213, 233, 230, 231, 173, 232, 116, 214, 244, 234, 168, 80, 88, 175]
theorem Ab4 : Ii 255 = (ZJ, logT, 1) := by decide +kernel
theorem PQ (i : Nat) : Oh i = ZJ.getD i 0 := by rw [Oh, Ab4]
theorem Sj (a : Nat) : Ic a = logT.getD a 0 := by rw [Ic, Ab4]
theorem WG : (List.range 255).all (fun i => ZJ.getD ((i + 1) % 255) 0 == J8 (ZJ.getD i 0)) = true := by decide +kernel
theorem Yf {i : Nat} (h : i < 255) : Oh ((i + 1) % 255) = J8 (Oh i) := by
 rw [PQ, PQ]
 have := List.all_eq_true.1 WG i (List.mem_range.2 h)
 simpa using this
theorem Yg : (List.range 256).all (fun b => b == 0 || ZJ.getD (logT.getD b 0) 0 == b) = true := by decide +kernel
theorem WH {b : Nat} (h : b < 256) (h0 : b ≠ 0) : Oh (Ic b) = b := by
 rw [PQ, Sj]
 have := List.all_eq_true.1 Yg b (List.mem_range.2 h)
 simpa [h0] using this
theorem X7 : (List.range 255).all (fun i => logT.getD (ZJ.getD i 0) 0 == i && ZJ.getD i 0 != 0) = true := by decide +kernel
theorem WA {i : Nat} (h : i < 255) : Ic (Oh i) = i ∧ Oh i ≠ 0 := by
 rw [Sj, PQ]
 have := List.all_eq_true.1 X7 i (List.mem_range.2 h)
 simpa using this
theorem Ye : Oh 0 = 1 := by rw [PQ]; rfl
theorem Aev : Ic 1 = 0 := by rw [Sj]; rfl

/-! ### products of numbers -/
def gmN (a b : Nat) : Nat := if a = 0 ∨ b = 0 then 0 else Oh ((Ic a + Ic b) % 255)
theorem gmN_lt (a b : Nat) : gmN a b < 256 := by
 unfold gmN
 split
 ·omega
 ·exact Sm _
theorem AcY (a b : Nat) : gmN a b = gmN b a := by
 unfold gmN
 rw [Nat.add_comm]
 by_cases h : a = 0 ∨ b = 0
 ·rw [if_pos h, if_pos h.symm]
 ·rw [if_neg h, if_neg fun e => h e.symm]
theorem JS (a : Nat) : gmN a 0 = 0 := by simp [gmN]
theorem JD (a : Nat) : gmN 0 a = 0 := by simp [gmN]
theorem OE {a b : Nat} (ha : a ≠ 0) (hb : b ≠ 0) : gmN a b = Oh ((Ic a + Ic b) % 255) := by rw [gmN, if_neg (by simp [ha, hb])]
theorem ZF {a b : Nat} (ha : a ≠ 0) (hb : b ≠ 0) : gmN a b ≠ 0 := by
 rw [OE ha hb]
 exact (WA (Nat.mod_lt _ (by omega))).2
theorem AaK {a b : Nat} (ha : a ≠ 0) (hb : b ≠ 0) : Ic (gmN a b) = (Ic a + Ic b) % 255 := by
 rw [OE ha hb]
 exact (WA (Nat.mod_lt _ (by omega))).1
theorem Vm (a b c : Nat) : gmN (gmN a b) c = gmN a (gmN b c) := by
 by_cases ha : a = 0
 ·subst ha; rw [JD, JD, JD]
 by_cases hb : b = 0
 ·subst hb; rw [JS, JD, JS]
 by_cases hc : c = 0
 ·subst hc; rw [JS, JS, JS]
 rw [OE (ZF ha hb) hc, OE ha (ZF hb hc), AaK ha hb, AaK hb hc]
 have e : ((Ic a + Ic b) % 255 + Ic c) % 255 = (Ic a + (Ic b + Ic c) % 255) % 255 := by omega
 rw [e]
theorem AaO {b : Nat} (hb : b < 256) : gmN 1 b = b := by
 by_cases h0 : b = 0
 ·subst h0; exact JS _
 ·rw [OE (by omega) h0, Aev, Nat.zero_add, Nat.mod_eq_of_lt (Si b), WH hb h0]
theorem Aar {x : Nat} (hx : x < 256) : J8 x = gmN 2 x := by
 by_cases h0 : x = 0
 ·subst h0; rw [JS]; rfl
 ·have h2 : Ic 2 = 1 := by rw [Sj]; rfl
  have := Yf (Si x)
  rw [WH hx h0] at this
  rw [OE (by omega) h0, h2, Nat.add_comm, this]
def steps : Nat → Nat → Nat
 | 0, x => x
 | i + 1, x => J8 (steps i x)
theorem Tf {x : Nat} (hx : x < 256) : ∀ i, steps i x < 256
 | 0 => hx
 | i + 1 => Ab7 _ (Tf hx i)
theorem UV {x y : Nat} (hx : x < 256) (hy : y < 256) : ∀ i, steps i (x ^^^ y) = steps i x ^^^ steps i y
 | 0 => rfl
 | i + 1 => by rw [steps, UV hx hy i, Ab6 (Tf hx i) (Tf hy i)]; rfl
theorem Pm {b : Nat} (hb : b < 256) : ∀ i, i < 255 → steps i b = gmN (Oh i) b
 | 0, _ => by rw [Ye, AaO hb]; rfl
 | i + 1, h => by
  rw [steps, Pm hb i (by omega), Aar (gmN_lt _ _), ← Vm, ← Aar (Sm _), ← Yf (by omega), Nat.mod_eq_of_lt h]
theorem AeC {a b c : Nat} (ha : a < 256) (hb : b < 256) (hc : c < 256) : gmN a (b ^^^ c) = gmN a b ^^^ gmN a c := by
 by_cases h0 : a = 0
 ·subst h0; rw [JD, JD, JD]; rfl
 ·have e := WH ha h0
  have hl := Si a
  have hx : b ^^^ c < 256 := Nat.xor_lt_two_pow (n := 8) hb hc
  rw [← e, ← Pm hx _ hl, ← Pm hb _ hl, ← Pm hc _ hl, UV hb hc]

/-! ### the reference's product is the same -/
/-! ### products of bytes -/
theorem FD (a b : UInt8) : (CG a b).toNat = gmN a.toNat b.toNat := by
 unfold CG gmN
 by_cases h : a = 0 ∨ b = 0
 ·rw [if_pos h, if_pos (by rcases h with rfl | rfl; exact .inl rfl; exact .inr rfl)]; rfl
 ·rw [if_neg h, if_neg (by rw [V3, V3]; exact h), UInt8.toNat_ofNat', Nat.mod_eq_of_lt (Sm _)]
where V3 (x : UInt8) : x.toNat = 0 ↔ x = 0 := ⟨fun h => UInt8.toNat_inj.1 h, fun h => by rw [h]; rfl⟩
theorem H7 (a b : UInt8) : CG a b = CG b a := UInt8.toNat_inj.1 (by rw [FD, FD, AcY])
theorem Fg (a b c : UInt8) : CG (CG a b) c = CG a (CG b c) := UInt8.toNat_inj.1 (by rw [FD, FD, FD, FD, Vm])
theorem PP (a b c : UInt8) : CG a (b ^^^ c) = CG a b ^^^ CG a c := UInt8.toNat_inj.1 (by
 rw [FD, UInt8.toNat_xor, UInt8.toNat_xor, FD, FD, AeC a.toNat_lt b.toNat_lt c.toNat_lt])
theorem Xe (a b c : UInt8) : CG (a ^^^ b) c = CG a c ^^^ CG b c := by rw [H7, PP, H7 c a, H7 c b]
theorem Gt (a : UInt8) : CG a 0 = 0 := by simp [CG]
theorem FM (a : UInt8) : CG 0 a = 0 := by simp [CG]
theorem Ig (a : UInt8) : CG 1 a = a := UInt8.toNat_inj.1 (by rw [FD]; exact AaO a.toNat_lt)
theorem AcX (a : UInt8) : CG a 1 = a := by rw [H7, Ig]
theorem WC {a b : UInt8} (h : CG a b = 0) : a = 0 ∨ b = 0 := by
 by_cases ha : a.toNat = 0
 ·exact .inl (UInt8.toNat_inj.1 ha)
 ·by_cases hb : b.toNat = 0
  ·exact .inr (UInt8.toNat_inj.1 hb)
  ·exact absurd (by rw [← FD, h]; rfl) (ZF ha hb)
theorem AcZ {a : UInt8} (h : a ≠ 0) : (Nl a).toNat = Oh ((255 - Ic a.toNat) % 255) := by
 rw [Nl, if_neg h, UInt8.toNat_ofNat', Nat.mod_eq_of_lt (Sm _)]
theorem Vl {a : UInt8} (h : a ≠ 0) : CG a (Nl a) = 1 := by
 apply UInt8.toNat_inj.1
 have ha : a.toNat ≠ 0 := fun e => h (UInt8.toNat_inj.1 e)
 have hl := Si a.toNat
 have h2 := WA (i := (255 - Ic a.toNat) % 255) (Nat.mod_lt _ (by omega))
 rw [FD, AcZ h, OE ha h2.2, h2.1, show (Ic a.toNat + (255 - Ic a.toNat) % 255) % 255 = 0 from by omega, Ye]
 rfl
theorem Vo {a : UInt8} (h : a ≠ 0) : CG (Nl a) a = 1 := by rw [H7, Vl h]
theorem AeD {a : UInt8} (h : a ≠ 0) : Nl a ≠ 0 := fun e => by have := Vl h; rw [e, Gt] at this; exact absurd this (by decide)

end Go.Proofs.YtgpkbldlkadnjaaGreat
end
section
set_option maxHeartbeats 3000000
attribute [local irreducible] Go.Sl.Chk Go.Sl.Br Go.Sl.Ld Go.Sl.Ldn Go.Sl.LdB Go.Sl.Stn Go.Sl.New Go.Sl.Run Go.Sl.BZ Go.Sl.BQ Go.Sl.Call Go.Sl.Bc Go.Sl.Cb Go.Sl.Alt Go.Sl.ev Go.Sl.AU
namespace Go.Proofs.YtgpkbldlkadnjaaGreat
open Go Go.Sl Go.RowKit

end Go.Proofs.YtgpkbldlkadnjaaGreat
end
section
set_option maxHeartbeats 3000000
attribute [local irreducible] Go.Sl.Chk Go.Sl.Br Go.Sl.Or2 Go.Sl.Ld Go.Sl.Ldn Go.Sl.LdB Go.Sl.Stn Go.Sl.New Go.Sl.Run Go.Sl.BZ Go.Sl.BQ Go.Sl.Call Go.Sl.Bc Go.Sl.Cb Go.Sl.Alt Go.Sl.Om Go.Sl.xpk Go.Sl.Dk Go.Sl.Dl Go.Sl.DLd Go.Sl.CZ Go.Sl.DBs Go.Sl.AO Go.Sl.Cf Go.Sl.CB Go.Sl.BC Go.Sl.DGC Go.Sl.BG Go.Sl.Dw Go.Sl.Ce Go.Sl.Ent Go.Sl.AZ Go.Sl.dv Go.Sl.ev Go.Sl.AU
namespace Go.Proofs.YtgpkbldlkadnjaaGreat
open Go Go.Sl Go.RowKit
theorem Iw.rs {w w' : World} {Z : Nat → Prop} {T : Nat → Option Value} {r : Value} {m : LL} (h : Iw w.heap.size w' r m) : Rs w' (Zn Z w w') T (ES m) r := by
 obtain ⟨vs, h1, h2, h3⟩ := h
 exact Abq h1.len h1.spine h1.row fun b hb => .inr ⟨h3 b hb, h1.lt hb⟩
end Go.Proofs.YtgpkbldlkadnjaaGreat
end
section
namespace Go.Sl
theorem L9 {o : Option D} {K : D → Prop} {t : A7 K} (h : K .dead) : CZ false o K t := ⟨.dead, fun h => (by cases h), h⟩
theorem dbs {xs : List UInt8} {n : Nat} {K : List UInt8 → Prop} {t : A7 K} (hn : xs.length = n) (h : K xs) : DBs (xs.map bD) n K t := ⟨xs, hn, by rw [← hn]; exact List.take_of_length_le (by simp), h⟩
theorem DB : type_of% (And.intro (And.intro (And.intro (And.intro (And.intro (And.intro (And.intro @Aa9 @Jw) (And.intro @Bool.true_and @Bool.false_and)) (And.intro (And.intro @Aak @Aal) (And.intro @Aam (And.intro @AaW @nat0)))) (And.intro (And.intro (And.intro @nat1 @Int.cast_ofNat_Int) (And.intro @Int.sub_zero @Nat.sub_zero)) (And.intro (And.intro @Int.add_zero @Int.zero_add) (And.intro @Qe (And.intro @Qg @VW))))) (And.intro (And.intro (And.intro (And.intro @Qh @Aa) (And.intro @Ac @A8)) (And.intro (And.intro @Dt @Ai) (And.intro @Aj (And.intro @List.toList_toArray.{0} @AaG)))) (And.intro (And.intro (And.intro @XV @AaD) (And.intro @AaE @U9)) (And.intro (And.intro @XU @XR) (And.intro @XT (And.intro @Va @AaF)))))) (And.intro (And.intro (And.intro (And.intro (And.intro @YV @Adz) (And.intro @Abd @YW)) (And.intro (And.intro @AdA @AdB) (And.intro @Abe (And.intro @Abf @beq_t)))) (And.intro (And.intro (And.intro @beq_f @XY) (And.intro @Yk @VA)) (And.intro (And.intro @not_t @not_f) (And.intro @ndec (And.intro @dect @decf))))) (And.intro (And.intro (And.intro (And.intro @AcO @AcG) (And.intro @AcH @take1)) (And.intro (And.intro @drop1 @take0) (And.intro @drop0 (And.intro @Sz @List.append_nil.{0})))) (And.intro (And.intro (And.intro @Adl @Adm) (And.intro @Adn (And.intro @Ado @Adp))) (And.intro (And.intro @Adq @Adr) (And.intro @Ads (And.intro @WN @Su))))))) (And.intro (And.intro (And.intro (And.intro (And.intro (And.intro @YT @Abb) (And.intro @VS @YU)) (And.intro (And.intro @wrap_i64 @Xq) (And.intro @Xp (And.intro @Nat.zero_add @Nat.add_zero)))) (And.intro (And.intro (And.intro @Nat.mul_one @Nat.one_mul) (And.intro @Int.toNat_natCast @VJ)) (And.intro (And.intro @TY @VF) (And.intro @VG (And.intro @Rt @cells_func))))) (And.intro (And.intro (And.intro (And.intro @TV @TW) (And.intro @Ru @VH)) (And.intro (And.intro @VK @XD) (And.intro @SX (And.intro @List.length_cons.{0} @List.length_nil.{0})))) (And.intro (And.intro (And.intro @List.length_map.{0, 0} @List.cons_append.{0}) (And.intro @List.nil_append.{0} (And.intro @List.map_cons.{0, 0} @List.map_nil.{0, 0}))) (And.intro (And.intro @List.set_cons_zero.{0} @List.set_cons_succ.{0}) (And.intro @List.take_succ_cons.{0} (And.intro @List.take_zero.{0} @List.drop_succ_cons.{0})))))) (And.intro (And.intro (And.intro (And.intro (And.intro @List.all_cons.{0} @List.all_nil.{0}) (And.intro @List.drop_zero.{0} @List.getElem?_drop.{0})) (And.intro (And.intro @List.getElem?_map.{0, 0} @Option.map_some.{0, 0}) (And.intro @and_self (And.intro @and_true @true_and)))) (And.intro (And.intro (And.intro @not_false_eq_true @not_true_eq_false) (And.intro @Option.toList_some.{0} @Option.toList_none.{0})) (And.intro (And.intro @Option.isSome_some.{0} @Option.isSome_none.{0}) (And.intro @decide_true (And.intro @decide_false @List.getElem?_cons_zero.{0}))))) (And.intro (And.intro (And.intro (And.intro @List.getElem?_cons_succ.{0} @Bool.and_true) (And.intro @Bool.and_self @Bool.true_and)) (And.intro (And.intro @Bool.and_false @Bool.false_and) (And.intro @Rk (And.intro @Jw @imp_self)))) (And.intro (And.intro (And.intro @Xl @Vx) (And.intro @List.not_mem_nil.{0} (And.intro @List.mem_cons.{0} @or_false))) (And.intro (And.intro @false_or @Nat.le_refl) (And.intro @Vd (And.intro @YK @VN)))))))) := And.intro (And.intro (And.intro (And.intro (And.intro (And.intro (And.intro @Aa9 @Jw) (And.intro @Bool.true_and @Bool.false_and)) (And.intro (And.intro @Aak @Aal) (And.intro @Aam (And.intro @AaW @nat0)))) (And.intro (And.intro (And.intro @nat1 @Int.cast_ofNat_Int) (And.intro @Int.sub_zero @Nat.sub_zero)) (And.intro (And.intro @Int.add_zero @Int.zero_add) (And.intro @Qe (And.intro @Qg @VW))))) (And.intro (And.intro (And.intro (And.intro @Qh @Aa) (And.intro @Ac @A8)) (And.intro (And.intro @Dt @Ai) (And.intro @Aj (And.intro @List.toList_toArray.{0} @AaG)))) (And.intro (And.intro (And.intro @XV @AaD) (And.intro @AaE @U9)) (And.intro (And.intro @XU @XR) (And.intro @XT (And.intro @Va @AaF)))))) (And.intro (And.intro (And.intro (And.intro (And.intro @YV @Adz) (And.intro @Abd @YW)) (And.intro (And.intro @AdA @AdB) (And.intro @Abe (And.intro @Abf @beq_t)))) (And.intro (And.intro (And.intro @beq_f @XY) (And.intro @Yk @VA)) (And.intro (And.intro @not_t @not_f) (And.intro @ndec (And.intro @dect @decf))))) (And.intro (And.intro (And.intro (And.intro @AcO @AcG) (And.intro @AcH @take1)) (And.intro (And.intro @drop1 @take0) (And.intro @drop0 (And.intro @Sz @List.append_nil.{0})))) (And.intro (And.intro (And.intro @Adl @Adm) (And.intro @Adn (And.intro @Ado @Adp))) (And.intro (And.intro @Adq @Adr) (And.intro @Ads (And.intro @WN @Su))))))) (And.intro (And.intro (And.intro (And.intro (And.intro (And.intro @YT @Abb) (And.intro @VS @YU)) (And.intro (And.intro @wrap_i64 @Xq) (And.intro @Xp (And.intro @Nat.zero_add @Nat.add_zero)))) (And.intro (And.intro (And.intro @Nat.mul_one @Nat.one_mul) (And.intro @Int.toNat_natCast @VJ)) (And.intro (And.intro @TY @VF) (And.intro @VG (And.intro @Rt @cells_func))))) (And.intro (And.intro (And.intro (And.intro @TV @TW) (And.intro @Ru @VH)) (And.intro (And.intro @VK @XD) (And.intro @SX (And.intro @List.length_cons.{0} @List.length_nil.{0})))) (And.intro (And.intro (And.intro @List.length_map.{0, 0} @List.cons_append.{0}) (And.intro @List.nil_append.{0} (And.intro @List.map_cons.{0, 0} @List.map_nil.{0, 0}))) (And.intro (And.intro @List.set_cons_zero.{0} @List.set_cons_succ.{0}) (And.intro @List.take_succ_cons.{0} (And.intro @List.take_zero.{0} @List.drop_succ_cons.{0})))))) (And.intro (And.intro (And.intro (And.intro (And.intro @List.all_cons.{0} @List.all_nil.{0}) (And.intro @List.drop_zero.{0} @List.getElem?_drop.{0})) (And.intro (And.intro @List.getElem?_map.{0, 0} @Option.map_some.{0, 0}) (And.intro @and_self (And.intro @and_true @true_and)))) (And.intro (And.intro (And.intro @not_false_eq_true @not_true_eq_false) (And.intro @Option.toList_some.{0} @Option.toList_none.{0})) (And.intro (And.intro @Option.isSome_some.{0} @Option.isSome_none.{0}) (And.intro @decide_true (And.intro @decide_false @List.getElem?_cons_zero.{0}))))) (And.intro (And.intro (And.intro (And.intro @List.getElem?_cons_succ.{0} @Bool.and_true) (And.intro @Bool.and_self @Bool.true_and)) (And.intro (And.intro @Bool.and_false @Bool.false_and) (And.intro @Rk (And.intro @Jw @imp_self)))) (And.intro (And.intro (And.intro @Xl @Vx) (And.intro @List.not_mem_nil.{0} (And.intro @List.mem_cons.{0} @or_false))) (And.intro (And.intro @false_or @Nat.le_refl) (And.intro @Vd (And.intro @YK @VN)))))))
theorem WK {p q : Prop} (h : q) (e : p = q := by conv => lhs; simp -dsimp (disch := omega) only [↓MC.xwp, ↓CX, ↓xdr, ↓MOp.xwp, dvs, dv, dvu, dvo, dvp, dgb, dGd, EC, cond_true, cond_false, Hz, AZ, BM, DF, Ee, Dx, ptr, bsc, cv, uo, uof, Bq, xpr, Eo, ET, GL, Gj, H9, G8, Ia, xst, xgp, glc, Ho, Ew, Hl, Hm, Hf, Hg, Eu, He, GM, Ha, Es, Et, Dc, Df, Gi, dsl, dif, CO, CE, BL, scs, rowOf, Bz, dtk, Ed, BR, pev, FV, GH, D5, GV, psl, Eb, ↓Eg, ↓Dh, ↓GR, ↓FX, Ea, Gn, Gx, Dv, BK, kp, Dq, DX, FQ, DV, GI, C9, Bg, BH, nb, FT, CS, BB, apart, Az, BA, heldOk, Op.operands, Nat.reduceAdd, forall_eq_or_imp, D.plain, reduceCtorEq, if_true, if_false, ↓reduceIte, ne_eq, Bool.cond_true, Bool.cond_false, forall_const, implies_true, forall_eq, Int.reduceEq, Int.reduceLT, Int.reduceLE, Int.reduceAdd, Int.reduceSub, Int.reduceMul, Int.reduceToNat, Nat.reduceMul, Nat.reduceLeDiff, Nat.reduceLT, Nat.reduceSub, Nat.reduceBEq, Nat.reduceEqDiff, ES, bytesD, iD, Ec, AX, DZ, bD, DB]) : p := e.mpr h
theorem WKX {p q c : Prop} (x : c) (h : q) (e : c → p = q := by intro x; conv => lhs; simp -dsimp (disch := omega) only [↓MC.xwp, ↓CX, ↓xdr, ↓MOp.xwp, dvs, dv, dvu, dvo, dvp, dgb, dGd, EC, cond_true, cond_false, Hz, AZ, BM, DF, Ee, Dx, ptr, bsc, cv, uo, uof, Bq, xpr, Eo, ET, GL, Gj, H9, G8, Ia, xst, xgp, glc, Ho, Ew, Hl, Hm, Hf, Hg, Eu, He, GM, Ha, Es, Et, Dc, Df, Gi, dsl, dif, CO, CE, BL, scs, rowOf, Bz, dtk, Ed, BR, pev, FV, GH, D5, GV, psl, Eb, ↓Eg, ↓Dh, ↓GR, ↓FX, Ea, Gn, Gx, Dv, BK, kp, Dq, DX, FQ, DV, GI, C9, Bg, BH, nb, FT, CS, BB, apart, Az, BA, heldOk, Op.operands, Nat.reduceAdd, forall_eq_or_imp, D.plain, reduceCtorEq, if_true, if_false, ↓reduceIte, ne_eq, Bool.cond_true, Bool.cond_false, forall_const, implies_true, forall_eq, Int.reduceEq, Int.reduceLT, Int.reduceLE, Int.reduceAdd, Int.reduceSub, Int.reduceMul, Int.reduceToNat, Nat.reduceMul, Nat.reduceLeDiff, Nat.reduceLT, Nat.reduceSub, Nat.reduceBEq, Nat.reduceEqDiff, ES, bytesD, iD, Ec, AX, DZ, bD, DB, x]) : p := (e x).mpr h
theorem WKR {p q : Prop} (h : q) (e : p = q := by conv => lhs; simp -dsimp (disch := omega) only [↓MC.xwp, ↓CX, ↓xdr, ↓MOp.xwp, dvs, dv, dvu, dvo, dvp, dgb, dGd, EC, cond_true, cond_false, Hz, AZ, BM, DF, Ee, Dx, ptr, bsc, cv, uo, uof, Bq, xpr, Eo, ET, GL, Gj, H9, G8, Ia, xst, xgp, glc, Ho, Ew, Hl, Hm, Hf, Hg, Eu, He, GM, Ha, Es, Et, Dc, Df, Gi, dsl, dif, CO, CE, BL, scs, rowOf, Bz, dtk, Ed, BR, pev, FV, GH, D5, GV, psl, Eb, ↓Eg, ↓Dh, ↓GR, ↓FX, Ea, Gn, Gx, Dv, BK, kp, Dq, DX, FQ, DV, GI, C9, Bg, BH, nb, FT, CS, BB, apart, Az, BA, heldOk, Op.operands, Nat.reduceAdd, forall_eq_or_imp, D.plain, reduceCtorEq, if_true, if_false, ↓reduceIte, ne_eq, Bool.cond_true, Bool.cond_false, forall_const, implies_true, forall_eq, Int.reduceEq, Int.reduceLT, Int.reduceLE, Int.reduceAdd, Int.reduceSub, Int.reduceMul, Int.reduceToNat, Nat.reduceMul, Nat.reduceLeDiff, Nat.reduceLT, Nat.reduceSub, Nat.reduceBEq, Nat.reduceEqDiff, ES, bytesD, iD, Ec, AX, DZ, bD, DB, Bf]) : p := e.mpr h
end Go.Sl
end
section
set_option maxHeartbeats 2000000
namespace Go.Proofs.YtgpkbldlkadnjaaGreat
open Go Go.Sl
def xs (f : Nat → UInt8) : Nat → UInt8
 | 0 => 0
 | k + 1 => xs f k ^^^ f k
theorem Fv {f g : Nat → UInt8} : ∀ {k : Nat}, (∀ i, i < k → f i = g i) → xs f k = xs g k
 | 0, _ => rfl
 | k + 1, h => by rw [xs, xs, Fv fun i hi => h i (by omega), h k (by omega)]
theorem UL : ∀ (a b : List UInt8) (j : Nat), j < a.length → j < b.length → (Ut a b).getD j 0 = a.getD j 0 ^^^ b.getD j 0
 | [], _, j, h, _ => by simp at h
 | a :: at1, [], j, _, h => by simp at h
 | a :: at1, b :: bs, 0, _, _ => by simp [Ut]
 | a :: at1, b :: bs, j + 1, h, h' => by
  have := UL at1 bs j (by simpa using h) (by simpa using h')
  simpa [Ut] using this
theorem X4 (f : UInt8 → UInt8) (l : List UInt8) (j : Nat) (h : j < l.length) : (l.map f).getD j 0 = f (l.getD j 0) := by
 rw [JV 0 h, JV 0 (by simpa using h)]
 simp
end Go.Proofs.YtgpkbldlkadnjaaGreat
end
section
namespace Go.Proofs.YtgpkbldlkadnjaaGreat
open Go Go.Sl
theorem J6 (a b c : UInt8) : (a ^^^ b) ^^^ c = a ^^^ (b ^^^ c) := UInt8.xor_assoc a b c
theorem VZ (a b : UInt8) : a ^^^ b = b ^^^ a := UInt8.xor_comm a b
theorem Qi (a : UInt8) : a ^^^ a = 0 := UInt8.xor_self
theorem Gy (a : UInt8) : a ^^^ 0 = a := UInt8.xor_zero
theorem SB (a : UInt8) : 0 ^^^ a = a := UInt8.zero_xor
theorem x4 (a b c d : UInt8) : (a ^^^ b) ^^^ (c ^^^ d) = (a ^^^ c) ^^^ (b ^^^ d) := by
 rw [J6, J6, ← J6 b c d, VZ b c, J6 c b d]
theorem AbW {a b : UInt8} (h : a ^^^ b = 0) : a = b := by
 have : (a ^^^ b) ^^^ b = b := by rw [h, SB]
 rwa [J6, Qi, Gy] at this

theorem VU : ∀ (n : Nat) {f : Nat → UInt8}, (∀ i, i < n → f i = 0) → xs f n = 0
 | 0, f, _ => rfl
 | n + 1, f, h => by rw [xs, VU n fun i hi => h i (by omega), h n (by omega), Gy]
theorem SE (f g : Nat → UInt8) : ∀ n, xs (fun i => f i ^^^ g i) n = xs f n ^^^ xs g n
 | 0 => (Gy 0).symm
 | n + 1 => by rw [xs, xs, xs, SE f g n, x4]
theorem Qd (a : UInt8) (f : Nat → UInt8) : ∀ n, CG a (xs f n) = xs (fun i => CG a (f i)) n
 | 0 => Gt a
 | n + 1 => by rw [xs, xs, PP, Qd a f n]
theorem mul_xs (a : UInt8) (f : Nat → UInt8) (n : Nat) : CG (xs f n) a = xs (fun i => CG (f i) a) n := by
 rw [H7, Qd]
 exact Fv fun i _ => H7 a (f i)
theorem UK (f : Nat → Nat → UInt8) (m : Nat) : ∀ n, xs (fun i => xs (fun j => f i j) m) n = xs (fun j => xs (fun i => f i j) n) m
 | 0 => (VU m fun _ _ => rfl).symm
 | n + 1 => by
  rw [xs, UK f m n, ← SE]
  rfl
theorem VV {f : Nat → UInt8} {c : Nat} : ∀ {n : Nat}, c < n → (∀ i, i < n → i ≠ c → f i = 0) → xs f n = f c
 | n + 1, hc, h => by
  rw [xs]
  by_cases e : c = n
  ·subst e
   rw [VU c fun i hi => h i (by omega) (by omega), SB]
  ·rw [VV (by omega) fun i hi hn => h i (by omega) hn, h n (by omega) (by omega), Gy]
/-! ### determinants -/
abbrev Mx := Nat → Nat → UInt8
def skip (i r : Nat) : Nat := if r < i then r else r + 1
def Cm (A : Mx) (i : Nat) : Mx := fun r c => A (skip i r) (c + 1)
def DI : Nat → Mx → UInt8
 | 0, _ => 1
 | n + 1, A => xs (fun i => CG (A i 0) (DI n (Cm A i))) (n + 1)
theorem CU : ∀ (n : Nat) {A B : Mx}, (∀ i j, i < n → j < n → A i j = B i j) → DI n A = DI n B
 | 0, A, B, _ => rfl
 | n + 1, A, B, h => by
  rw [DI, DI]
  refine Fv fun i hi => ?_
  rw [h i 0 hi (by omega), CU n (A := Cm A i) (B := Cm B i) fun r c hr hc => ?_]
  refine h _ _ ?_ (by omega)
  unfold skip; split <;> omega
def Ez (A : Mx) (k : Nat) (u : Nat → UInt8) : Mx := fun i j => if i = k then u j else A i j
theorem JP {A : Mx} {k i : Nat} {u : Nat → UInt8} (h : i ≠ k) : ∃ k', (k < i → k' = k) ∧ (i < k → k' + 1 = k) ∧ ∀ r c, Cm (Ez A k u) i r c = Ez (Cm A i) k' (fun c => u (c + 1)) r c := by
 refine ⟨if k < i then k else k - 1, fun h => by rw [if_pos h], fun h => by rw [if_neg (by omega)]; omega, fun r c => ?_⟩
 unfold Cm Ez skip
 by_cases h1 : r < i <;> by_cases h2 : k < i
 ·simp [h1, h2]
 ·simp only [h1, h2, if_true, if_false]
  rw [if_neg (by omega), if_neg (by omega)]
 ·simp only [h1, h2, if_true, if_false]
  rw [if_neg (by omega), if_neg (by omega)]
 ·simp only [h1, h2, if_false]
  by_cases h3 : r + 1 = k
  ·rw [if_pos h3, if_pos (by omega)]
  ·rw [if_neg h3, if_neg (by omega)]
theorem MG (A : Mx) (k : Nat) (u : Nat → UInt8) (r c : Nat) : Cm (Ez A k u) k r c = Cm A k r c := by
 unfold Cm Ez
 rw [if_neg]
 unfold skip; split <;> omega
theorem NI : ∀ (n : Nat) (A : Mx) (k : Nat) (u v : Nat → UInt8), k < n → DI n (Ez A k fun j => u j ^^^ v j) = DI n (Ez A k u) ^^^ DI n (Ez A k v)
 | n + 1, A, k, u, v, hk => by
  rw [DI, DI, DI, ← SE]
  refine Fv fun i hi => ?_
  by_cases h : i = k
  ·subst h
   have e : ∀ w, DI n (Cm (Ez A i w) i) = DI n (Cm A i) := fun w => CU n fun r c _ _ => MG A i w r c
   rw [e, e, e]
   simp only [Ez, if_true]
   exact Xe _ _ _
  ·obtain ⟨k', h1, h2, h3⟩ := JP (A := A) (u := fun j => u j ^^^ v j) h
   obtain ⟨k2, g1, g2, g3⟩ := JP (A := A) (u := u) h
   obtain ⟨k3, f1, f2, f3⟩ := JP (A := A) (u := v) h
   have e1 : k2 = k' := by rcases Nat.lt_or_gt_of_ne h with q | q; have := h2 q; have := g2 q; omega; have := h1 q; have := g1 q; omega
   have e2 : k3 = k' := by rcases Nat.lt_or_gt_of_ne h with q | q; have := h2 q; have := f2 q; omega; have := h1 q; have := f1 q; omega
   subst e1; subst e2
   rw [CU n fun r c _ _ => h3 r c, CU n (A := Cm (Ez A k u) i) fun r c _ _ => g3 r c, CU n (A := Cm (Ez A k v) i) fun r c _ _ => f3 r c]
   rw [NI n (Cm A i) k3 (fun c => u (c + 1)) (fun c => v (c + 1)) (by rcases Nat.lt_or_gt_of_ne h with q | q; have := h2 q; omega; have := h1 q; omega)]
   simp only [Ez, if_neg h]
   exact PP _ _ _
theorem OV : ∀ (n : Nat) (A : Mx) (k : Nat) (s : UInt8) (u : Nat → UInt8), k < n → DI n (Ez A k fun j => CG s (u j)) = CG s (DI n (Ez A k u))
 | n + 1, A, k, s, u, hk => by
  rw [DI, DI, Qd]
  refine Fv fun i hi => ?_
  by_cases h : i = k
  ·subst h
   have e : ∀ w, DI n (Cm (Ez A i w) i) = DI n (Cm A i) := fun w => CU n fun r c _ _ => MG A i w r c
   rw [e, e]
   simp only [Ez, if_true]
   exact Fg _ _ _
  ·obtain ⟨k', h1, h2, h3⟩ := JP (A := A) (u := fun j => CG s (u j)) h
   obtain ⟨k2, g1, g2, g3⟩ := JP (A := A) (u := u) h
   have e1 : k2 = k' := by rcases Nat.lt_or_gt_of_ne h with q | q; have := h2 q; have := g2 q; omega; have := h1 q; have := g1 q; omega
   subst e1
   rw [CU n fun r c _ _ => h3 r c, CU n (A := Cm (Ez A k u) i) fun r c _ _ => g3 r c]
   rw [OV n (Cm A i) k2 s (fun c => u (c + 1)) (by rcases Nat.lt_or_gt_of_ne h with q | q; have := h2 q; omega; have := h1 q; omega)]
   simp only [Ez, if_neg h]
   rw [← Fg, ← Fg, H7 (A i 0) s]
theorem Abn (A : Mx) (k i j : Nat) : Ez A k (A k) i j = A i j := by
 unfold Ez; split
 ·rename_i h; rw [h]
 ·rfl
theorem Abp (A : Mx) {a b : Nat} (h : a ≠ b) (u v : Nat → UInt8) (i j : Nat) : Ez (Ez A a u) b v i j = Ez (Ez A b v) a u i j := by
 unfold Ez
 by_cases h1 : i = a
 ·subst h1; rw [if_neg h, if_pos rfl, if_pos rfl]
 ·rw [if_neg h1, if_neg h1]
def Alt (n : Nat) : Prop := ∀ (A : Mx) (a b : Nat), a < n → b < n → a ≠ b → (∀ j, j < n → A a j = A b j) → DI n A = 0
theorem AbG {n : Nat} (hA : Alt n) (A : Mx) {a b : Nat} (ha : a < n) (hb : b < n) (hab : a ≠ b) : DI n (Ez (Ez A a (A b)) b (A a)) = DI n A := by
 have tw : ∀ u v : Nat → UInt8, DI n (Ez (Ez A a u) b v) ^^^ DI n (Ez (Ez A a v) b u) = 0 := fun u v => by
  have z : ∀ w : Nat → UInt8, DI n (Ez (Ez A a w) b w) = 0 := fun w => hA _ a b ha hb hab fun j _ => by
   simp [Ez, hab]
  have h0 := z fun j => u j ^^^ v j
  rw [NI n _ b u v hb] at h0
  have sw : ∀ p q : Nat → UInt8, DI n (Ez (Ez A a p) b q) = DI n (Ez (Ez A b q) a p) := fun p q => CU n fun i j _ _ => Abp A hab p q i j
  rw [sw, sw, NI n _ a u v ha, NI n _ a u v ha, ← sw, ← sw, ← sw, ← sw, z u, z v, SB, Gy, VZ] at h0
  exact h0
 have := tw (A b) (A a)
 have e : DI n (Ez (Ez A a (A a)) b (A b)) = DI n A := CU n fun i j _ _ => by
  simp only [Ez]
  split
  ·rename_i h; rw [h]
  ·split
   ·rename_i h; rw [h]
   ·rfl
 rw [e] at this
 exact AbW this
def push (B : Mx) (u : Nat → UInt8) (t : Nat) : Mx := fun i j => if i < t then B i j else if i = t then u j else B (i - 1) j
theorem Abs {n : Nat} (hA : Alt n) (B : Mx) (u : Nat → UInt8) {t : Nat} (ht : t + 1 < n) : DI n (push B u (t + 1)) = DI n (push B u t) := by
 rw [← AbG hA (push B u t) (a := t) (b := t + 1) (by omega) ht (by omega)]
 refine CU n fun i j _ _ => ?_
 unfold push Ez
 by_cases h1 : i = t + 1
 ·subst h1
  simp
 ·by_cases h2 : i = t
  ·subst h2
   simp
   intro h; omega
  ·by_cases h3 : i < t
   ·simp [h1, h2, h3]
    omega
   ·simp [h1, h2, h3]
    omega
theorem XN {n : Nat} (hA : Alt n) (B : Mx) (u : Nat → UInt8) (s : Nat) : ∀ (k : Nat), s + k < n → DI n (push B u (s + k)) = DI n (push B u s)
 | 0, _ => rfl
 | k + 1, h => by rw [← XN hA B u s k (by omega), ← Abs hA B u (t := s + k) (by omega)]; rfl
theorem alt : ∀ n, Alt n
 | 0 => fun A a b ha => by omega
 | n + 1 => by
  have key : ∀ (A : Mx) (a b : Nat), a < n + 1 → b < n + 1 → a < b → (∀ j, j < n + 1 → A a j = A b j) → DI (n + 1) A = 0 := by
   intro A a b ha hb hab h
   rw [DI]
   -- the terms but two are 0
   have hz : ∀ i, i < n + 1 → i ≠ a → i ≠ b → CG (A i 0) (DI n (Cm A i)) = 0 := fun i hi h1 h2 => by
    have : DI n (Cm A i) = 0 := by
     refine alt n (Cm A i) (if a < i then a else a - 1) (if b < i then b else b - 1) ?_ ?_ ?_ fun j hj => ?_
     ·split <;> omega
     ·split <;> omega
     ·split <;> split <;> omega
     ·unfold Cm skip
      have e1 : (if (if a < i then a else a - 1) < i then (if a < i then a else a - 1) else (if a < i then a else a - 1) + 1) = a := by
       by_cases q : a < i
       ·simp [q]
       ·rw [if_neg q, if_neg (by omega)]; omega
      have e2 : (if (if b < i then b else b - 1) < i then (if b < i then b else b - 1) else (if b < i then b else b - 1) + 1) = b := by
       by_cases q : b < i
       ·simp [q]
       ·rw [if_neg q, if_neg (by omega)]; omega
      rw [e1, e2]
      exact h _ (by omega)
    rw [this, Gt]
   -- the two minors are alike but for the order of their rows
   have hm : DI n (Cm A a) = DI n (Cm A b) := by
    obtain ⟨B, hB⟩ : ∃ B : Mx, B = fun i j => A (if i < a then i else if i < b - 1 then i + 1 else i + 2) (j + 1) := ⟨_, rfl⟩
    have e1 : DI n (Cm A b) = DI n (push B (fun j => A a (j + 1)) a) := CU n fun i j _ _ => by
     unfold Cm push skip
     subst hB
     by_cases h1 : i < a
     ·simp only [h1, if_true]; rw [if_pos (by omega)]
     ·by_cases h2 : i = a
      ·subst h2; simp only [h1, if_false, if_true]; rw [if_pos hab]
      ·simp only [h1, h2, if_false]
       rw [if_neg (show ¬ i - 1 < a from by omega)]
       by_cases h3 : i < b
       ·rw [if_pos h3, if_pos (by omega)]; congr 1; omega
       ·rw [if_neg h3, if_neg (by omega)]; congr 1; omega
    have e2 : DI n (Cm A a) = DI n (push B (fun j => A a (j + 1)) (b - 1)) := CU n fun i j _ hj => by
     unfold Cm push skip
     subst hB
     by_cases h1 : i < b - 1
     ·simp only [h1, if_true]
     ·by_cases h2 : i = b - 1
      ·simp only [h1, h2, if_false, if_true]
       rw [if_neg (by omega), if_neg (by omega), show b - 1 + 1 = b from by omega, h _ (by omega)]
      ·simp only [h1, h2, if_false]
       rw [if_neg (by omega), if_neg (by omega), if_neg (by omega)]
       congr 1
       omega
    rw [e1, e2]
    have := XN (alt n) B (fun j => A a (j + 1)) a (b - 1 - a) (by omega)
    rw [show a + (b - 1 - a) = b - 1 from by omega] at this
    exact this
   have h2 : xs (fun i => if i = a then CG (A i 0) (DI n (Cm A i)) else 0) (n + 1) = CG (A a 0) (DI n (Cm A a)) := by
    rw [VV ha fun i _ hne => by simp [hne]]; simp
   have h3 : xs (fun i => if i = b then CG (A i 0) (DI n (Cm A i)) else 0) (n + 1) = CG (A b 0) (DI n (Cm A b)) := by
    rw [VV hb fun i _ hne => by simp [hne]]; simp
   have h4 : xs (fun i => CG (A i 0) (DI n (Cm A i))) (n + 1) = xs (fun i => (if i = a then CG (A i 0) (DI n (Cm A i)) else 0) ^^^ (if i = b then CG (A i 0) (DI n (Cm A i)) else 0)) (n + 1) := Fv fun i hi => by
    by_cases q1 : i = a
    ·subst q1; rw [if_pos rfl, if_neg (by omega), Gy]
    ·by_cases q2 : i = b
     ·subst q2; rw [if_neg q1, if_pos rfl, SB]
     ·rw [if_neg q1, if_neg q2, Gy, hz i hi q1 q2]
   rw [h4, SE, h2, h3, h 0 (by omega), hm, Qi]
  intro A a b ha hb hab h
  rcases Nat.lt_or_gt_of_ne hab with q | q
  ·exact key A a b ha hb q h
  ·exact key A b a hb ha q fun j hj => (h j hj).symm
end Go.Proofs.YtgpkbldlkadnjaaGreat
end
section
set_option maxHeartbeats 2000000
namespace Go.Proofs.YtgpkbldlkadnjaaGreat
open Go Go.Sl
theorem Aai.small {m : LL} (h : Aai m) (h1 : m.length ≤ 1000) (h2 : width m ≤ 1000) : Small m := ⟨h1, fun x hx => by rw [h.all x hx]; exact h2⟩
def IV (n : Nat) (A B : Mx) : Mx := fun i j => xs (fun k => CG (A i k) (B k j)) n
def idF : Mx := fun i j => if i = j then 1 else 0
def EqN (n : Nat) (A B : Mx) : Prop := ∀ i j, i < n → j < n → A i j = B i j
theorem EqN.refl (n : Nat) (A : Mx) : EqN n A A := fun _ _ _ _ => rfl
theorem EqN.symm {n : Nat} {A B : Mx} (h : EqN n A B) : EqN n B A := fun i j hi hj => (h i j hi hj).symm
theorem EqN.trans {n : Nat} {A B C : Mx} (h : EqN n A B) (k : EqN n B C) : EqN n A C := fun i j hi hj => (h i j hi hj).trans (k i j hi hj)
theorem OQ {n : Nat} {A A' B B' : Mx} (h : EqN n A A') (k : EqN n B B') : EqN n (IV n A B) (IV n A' B') := fun i j hi hj => Fv fun l hl => by rw [h i l hi hl, k l j hl hj]
theorem ZN (n : Nat) (A B C : Mx) (i j : Nat) : IV n (IV n A B) C i j = IV n A (IV n B C) i j := by
 have e1 : IV n (IV n A B) C i j = xs (fun k => xs (fun l => CG (CG (A i l) (B l k)) (C k j)) n) n := Fv fun k _ => mul_xs _ _ _
 have e2 : IV n A (IV n B C) i j = xs (fun l => xs (fun k => CG (A i l) (CG (B l k) (C k j))) n) n := Fv fun l _ => Qd _ _ _
 rw [e1, e2, UK]
 exact Fv fun l _ => Fv fun k _ => Fg _ _ _
theorem Oa (n : Nat) (A : Mx) : EqN n (IV n idF A) A := fun i j hi hj => by
 unfold IV
 rw [VV hi fun k _ hk => by simp only [idF]; rw [if_neg (by omega), FM]]
 simp [idF, Ig]
def rop (c i : Nat) (s f : UInt8) (A : Mx) : Mx := fun r j => if r = c then CG s (A c j) ^^^ CG f (A i j) else A r j
theorem Aax (n c i : Nat) (s f : UInt8) (A B : Mx) (r j : Nat) : IV n (rop c i s f A) B r j = rop c i s f (IV n A B) r j := by
 unfold rop IV
 by_cases h : r = c
 ·simp only [h, if_true]
  rw [Qd, Qd, ← SE]
  exact Fv fun k _ => by rw [Xe, Fg, Fg]
 ·simp only [h, if_false]
theorem UZ {n c i : Nat} {s f : UInt8} {A B : Mx} (hc : c < n) (hi : f = 0 ∨ (i ≠ c ∧ i < n)) (h : EqN n A B) : EqN n (rop c i s f A) (rop c i s f B) := fun r j hr hj => by
 unfold rop
 split
 ·rw [h c j hc hj]
  rcases hi with rfl | ⟨_, hi⟩
  ·rw [FM, FM]
  ·rw [h i j hi hj]
 ·exact h r j hr hj
theorem Acy {n c i : Nat} {s f : UInt8} (A : Mx) (hs : s ≠ 0) (hi : f = 0 ∨ (i ≠ c ∧ i < n)) (r j : Nat) : rop c i (Nl s) (CG (Nl s) f) (rop c i s f A) r j = A r j := by
 unfold rop
 by_cases h : r = c
 ·subst h
  simp only [if_true]
  have e : CG (CG (Nl s) f) (if i = r then CG s (A r j) ^^^ CG f (A i j) else A i j) = CG (CG (Nl s) f) (A i j) := by
   rcases hi with rfl | ⟨hi, _⟩
   ·rw [Gt, FM, FM]
   ·rw [if_neg hi]
  rw [e, PP, ← Fg, Vo hs, Ig, ← Fg, J6, Qi, Gy]
 ·simp only [h, if_false]
theorem Ad8 {n c i : Nat} {s f : UInt8} (A : Mx) (hc : c < n) (hi : f = 0 ∨ (i ≠ c ∧ i < n)) : DI n (rop c i s f A) = CG s (DI n A) := by
 have e : DI n (rop c i s f A) = DI n (Ez A c fun j => CG s (A c j) ^^^ CG f (A i j)) := CU n fun r j _ _ => rfl
 rw [e, NI n A c (fun j => CG s (A c j)) (fun j => CG f (A i j)) hc, OV n A c s (A c) hc, OV n A c f (A i) hc, CU n (A := Ez A c (A c)) (B := A) fun r j _ _ => Abn A c r j]
 rcases hi with rfl | ⟨hi, hin⟩
 ·rw [FM, Gy]
 ·rw [alt n (Ez A c (A i)) c i hc hin (by omega) fun j _ => by simp [Ez, hi], Gt, Gy]
structure REq (n : Nat) (L O L' O' : Mx) : Prop where
 ex : ∃ E F : Mx, EqN n L' (IV n E L) ∧ EqN n O' (IV n E O) ∧ EqN n L (IV n F L') ∧ EqN n O (IV n F O')
 det : ∃ s : UInt8, s ≠ 0 ∧ DI n L' = CG s (DI n L)
theorem REq.refl (n : Nat) (L O : Mx) : REq n L O L O := ⟨⟨idF, idF, (Oa n L).symm, (Oa n O).symm, (Oa n L).symm, (Oa n O).symm⟩, 1, by decide, (Ig _).symm⟩
theorem dot3 {n : Nat} {A B C E1 E2 : Mx} (h : EqN n C (IV n E2 B)) (k : EqN n B (IV n E1 A)) : EqN n C (IV n (IV n E2 E1) A) := fun i j hi hj => by
 rw [h i j hi hj, ZN]
 exact OQ (EqN.refl n E2) k i j hi hj
theorem REq.trans {n : Nat} {L O L1 O1 L2 O2 : Mx} (h : REq n L O L1 O1) (k : REq n L1 O1 L2 O2) : REq n L O L2 O2 := by
 obtain ⟨⟨E, F, h1, h2, h3, h4⟩, s, hs, hd⟩ := h
 obtain ⟨⟨E', F', k1, k2, k3, k4⟩, s', hs', hd'⟩ := k
 refine ⟨⟨IV n E' E, IV n F F', dot3 k1 h1, dot3 k2 h2, dot3 h3 k3, dot3 h4 k4⟩, CG s' s, fun e => ?_, by rw [hd', hd, Fg]⟩
 rcases WC e with e | e
 ·exact hs' e
 ·exact hs e
theorem REq.congr {n : Nat} {L O L1 O1 L2 O2 : Mx} (h : REq n L O L1 O1) (e1 : EqN n L2 L1) (e2 : EqN n O2 O1) : REq n L O L2 O2 := by
 obtain ⟨⟨E, F, h1, h2, h3, h4⟩, s, hs, hd⟩ := h
 exact ⟨⟨E, F, e1.trans h1, e2.trans h2, h3.trans (OQ (EqN.refl _ _) e1.symm), h4.trans (OQ (EqN.refl _ _) e2.symm)⟩, s, hs, by rw [← hd]; exact CU n e1⟩
theorem REq.rop {n c i : Nat} {s f : UInt8} (L O : Mx) (hc : c < n) (hs : s ≠ 0) (hi : f = 0 ∨ (i ≠ c ∧ i < n)) : REq n L O (rop c i s f L) (rop c i s f O) := by
 have hi' : CG (Nl s) f = 0 ∨ (i ≠ c ∧ i < n) := hi.imp (fun e => by rw [e, Gt]) id
 have f1 : ∀ A, EqN n (Go.Proofs.YtgpkbldlkadnjaaGreat.rop c i s f A) (IV n (Go.Proofs.YtgpkbldlkadnjaaGreat.rop c i s f idF) A) := fun A r j hr hj => by
  rw [Aax]
  exact UZ hc hi (Oa n A).symm r j hr hj
 have f2 : ∀ A, EqN n A (IV n (Go.Proofs.YtgpkbldlkadnjaaGreat.rop c i (Nl s) (CG (Nl s) f) idF) (Go.Proofs.YtgpkbldlkadnjaaGreat.rop c i s f A)) := fun A r j hr hj => by
  rw [Aax, ← Acy (n := n) A hs hi r j]
  exact UZ hc hi' ((Oa n _).symm) r j hr hj
 exact ⟨⟨_, _, f1 L, f1 O, f2 L, f2 O⟩, s, hs, Ad8 L hc hi⟩
theorem swap3 (a b : UInt8) : (a ^^^ b) ^^^ (b ^^^ (a ^^^ b)) = b := by rw [VZ b (a ^^^ b), ← J6, Qi, SB]
theorem swap2 (a b : UInt8) : b ^^^ (a ^^^ b) = a := by rw [VZ b (a ^^^ b), J6, Qi, Gy]
def UR (c i : Nat) (A : Mx) : Mx := fun r j => A (sig c i r) j
theorem REq.swap {n c i : Nat} (L O : Mx) (hc : c < n) (hi : i < n) : REq n L O (UR c i L) (UR c i O) := by
 by_cases h : c = i
 ·subst h
  have e : ∀ A : Mx, EqN n (UR c c A) A := fun A r j _ _ => by
   unfold UR sig
   by_cases h : r = c
   ·subst h; simp
   ·simp [h]
  exact (REq.refl n L O).congr (e L) (e O)
 ·have e : ∀ A : Mx, EqN n (UR c i A) (Go.Proofs.YtgpkbldlkadnjaaGreat.rop c i 1 1 (Go.Proofs.YtgpkbldlkadnjaaGreat.rop i c 1 1 (Go.Proofs.YtgpkbldlkadnjaaGreat.rop c i 1 1 A))) := fun A r j _ _ => by
   have hne : i ≠ c := fun e => h e.symm
   unfold UR Go.Proofs.YtgpkbldlkadnjaaGreat.rop sig
   by_cases h1 : r = c
   ·subst h1
    simp only [if_true, h, hne, if_false, Ig]
    exact (swap3 _ _).symm
   ·by_cases h2 : r = i
    ·subst h2
     simp only [if_true, h, hne, if_false, Ig]
     exact (swap2 _ _).symm
    ·simp only [h1, h2, if_false]
  have d : (1 : UInt8) ≠ 0 := by decide
  refine REq.congr (((REq.rop L O hc d (.inr ⟨fun e => h e.symm, hi⟩)).trans (REq.rop _ _ hi d (.inr ⟨h, hc⟩))).trans (REq.rop _ _ hc d (.inr ⟨fun e => h e.symm, hi⟩))) (e L) (e O)
def Un (n c : Nat) (A : Mx) : Prop := ∀ i j, i < n → j < c → A i j = idF i j
structure Sq (n : Nat) (l : LL) : Prop where
 len : l.length = n
 all : ∀ x ∈ l, x.length = n
theorem Sq.row {n : Nat} {l : LL} (h : Sq n l) {r : Nat} (hr : r < n) : (l.getD r []).length = n := by
 rw [JV [] (by rw [h.len]; exact hr)]
 exact h.all _ (List.getElem_mem _)
theorem Sq.set {n c : Nat} {l : LL} {x : List UInt8} (h : Sq n l) (hx : x.length = n) : Sq n (l.set c x) :=
 ⟨by rw [List.length_set]; exact h.len, fun y hy => by
  rcases List.mem_or_eq_of_mem_set hy with h1 | h1
  ·exact h.all y h1
  ·rw [h1]; exact hx⟩
theorem Vy {l : LL} {x : List UInt8} {c r : Nat} (hc : c < l.length) (j : Nat) : entry (l.set c x) r j = if r = c then x.getD j 0 else entry l r j := by
 unfold entry
 rw [List.getD_eq_getElem?_getD (l := l.set c x), List.getElem?_set]
 by_cases h : r = c
 ·subst h
  simp [hc]
 ·rw [if_neg (fun e => h e.symm), if_neg h, List.getD_eq_getElem?_getD (l := l)]
theorem Ob {l : LL} {c i : Nat} (hc : c < l.length) (hi : i < l.length) (r j : Nat) : entry (swp [] l c i) r j = entry l (sig c i r) j := by
 unfold entry
 rw [List.getD_eq_getElem?_getD (l := swp [] l c i), swp_get [] hc hi, ← List.getD_eq_getElem?_getD]
theorem Sq.swp {n c i : Nat} {l : LL} (h : Sq n l) (hc : c < n) (hi : i < n) : Sq n (swp [] l c i) :=
 (h.set (h.row hi)).set (h.row hc)
theorem Aem {n c : Nat} {p : LL × LL} (h1 : Sq n p.1) (h2 : Sq n p.2) (hc : c < n) : (Sq n (norm c p).1 ∧ Sq n (norm c p).2) ∧
  EqN n (entry (norm c p).1) (rop c c (Nl (entry p.1 c c)) 0 (entry p.1)) ∧ EqN n (entry (norm c p).2) (rop c c (Nl (entry p.1 c c)) 0 (entry p.2)) := by
 have e : ∀ (l : LL) (s : UInt8), Sq n l → EqN n (entry (l.set c ((l.getD c []).map (CG s)))) (rop c c s 0 (entry l)) := fun l s hl r j hr hj => by
  rw [Vy (by rw [hl.len]; exact hc)]
  unfold rop
  split
  ·rw [X4 _ _ _ (by rw [hl.row hc]; exact hj), FM, Gy]; rfl
  ·rfl
 exact ⟨⟨h1.set (by rw [List.length_map]; exact h1.row hc), h2.set (by rw [List.length_map]; exact h2.row hc)⟩, e _ _ h1, e _ _ h2⟩
theorem Adx {n c k : Nat} {l : LL} {f : UInt8} (hl : Sq n l) (hc : c < n) (hk : k < n) : Sq n (l.set k (Ut (l.getD k []) ((l.getD c []).map (CG f)))) ∧
  EqN n (entry (l.set k (Ut (l.getD k []) ((l.getD c []).map (CG f))))) (rop k c 1 f (entry l)) := by
 refine ⟨hl.set (by rw [QO]; exact hl.row hk), fun r j hr hj => ?_⟩
 rw [Vy (by rw [hl.len]; exact hk)]
 unfold rop
 split
 ·rw [UL _ _ _ (by rw [hl.row hk]; exact hj) (by rw [List.length_map, hl.row hc]; exact hj), X4 _ _ _ (by rw [hl.row hc]; exact hj), Ig]
  rfl
 ·rfl
structure EJ (n c k : Nat) (p q : LL × LL) : Prop where
 s1 : Sq n q.1
 s2 : Sq n q.2
 eq : REq n (entry p.1) (entry p.2) (entry q.1) (entry q.2)
 row : ∀ j, j < n → entry q.1 c j = entry p.1 c j
 left : ∀ r j, r < n → j < c → entry q.1 r j = entry p.1 r j
 zero : ∀ r, r < k → r ≠ c → entry q.1 r c = 0
theorem AaU {n c : Nat} {p : LL × LL} (h1 : Sq n p.1) (h2 : Sq n p.2) (hc : c < n) (hone : entry p.1 c c = 1) (hz : ∀ j, j < c → entry p.1 c j = 0) : ∀ k, k ≤ n → EJ n c k p (elim c p k)
 | 0, _ => ⟨h1, h2, REq.refl _ _ _, fun _ _ => rfl, fun _ _ _ _ => rfl, fun r hr => by omega⟩
 | k + 1, hk => by
  have ih := AaU h1 h2 hc hone hz k (by omega)
  rw [elim, elim1]
  by_cases h : k ≠ c ∧ entry (elim c p k).1 k c ≠ 0
  ·rw [if_pos h]
   obtain ⟨a1, a2⟩ := Adx (f := entry (elim c p k).1 k c) ih.s1 hc (show k < n by omega)
   obtain ⟨b1, b2⟩ := Adx (f := entry (elim c p k).1 k c) ih.s2 hc (show k < n by omega)
   have hck : c ≠ k := fun e => h.1 e.symm
   refine ⟨a1, b1, ih.eq.trans ((REq.rop _ _ (show k < n by omega) (by decide) (.inr ⟨hck, hc⟩)).congr a2 b2), fun j hj => ?_, fun r j hr hj => ?_, fun r hr hrc => ?_⟩
   ·rw [a2 c j hc hj, rop, if_neg hck]
    exact ih.row j hj
   ·rw [a2 r j hr (by omega), rop]
    split
    ·rename_i e
     subst e
     rw [ih.row j (by omega), hz j hj, Gt, Gy, Ig]
     exact ih.left _ j hr hj
    ·exact ih.left r j hr hj
   ·rw [a2 r c (by omega) hc, rop]
    split
    ·rename_i e
     rw [ih.row c hc, hone, AcX, Ig, Qi]
    ·exact ih.zero r (by omega) hrc
  ·rw [if_neg h]
   refine ⟨ih.s1, ih.s2, ih.eq, ih.row, ih.left, fun r hr hrc => ?_⟩
   by_cases e : r = k
   ·subst e
    by_cases q : entry (elim c p r).1 r c = 0
    ·exact q
    ·exact absurd ⟨hrc, q⟩ h
   ·exact ih.zero r (by omega) hrc
theorem Ac1 {l : LL} {n c i : Nat} (h : Ac2 l n c = some i) : c ≤ i ∧ i < n ∧ entry l i c ≠ 0 := by
 rw [Ac2] at h
 have h1 := List.find?_some h
 have h2 := List.mem_of_find?_eq_some h
 simp only [Bool.and_eq_true, decide_eq_true_eq, bne_iff_ne] at h1
 exact ⟨h1.1, List.mem_range.1 h2, h1.2⟩
structure CJ (n c : Nat) (m o : LL) (q : LL × LL) : Prop where
 s1 : Sq n q.1
 s2 : Sq n q.2
 eq : REq n (entry m) (entry o) (entry q.1) (entry q.2)
 un : Un n c (entry q.1)
theorem Acn (c i : Nat) : sig c i c = i := by unfold sig; split <;> simp_all
theorem CJ.step {n c i : Nat} {m o : LL} {q : LL × LL} (h : CJ n c m o q) (hc : c < n) (hf : Ac2 q.1 n c = some i) : CJ n (c + 1) m o (clearC n c (swp [] q.1 c i, swp [] q.2 c i)) := by
 obtain ⟨hci, hi, hne⟩ := Ac1 hf
 have l1 : c < q.1.length := by rw [h.s1.len]; exact hc
 have l2 : i < q.1.length := by rw [h.s1.len]; exact hi
 have l3 : c < q.2.length := by rw [h.s2.len]; exact hc
 have l4 : i < q.2.length := by rw [h.s2.len]; exact hi
 have r1 : REq n (entry m) (entry o) (entry (swp [] q.1 c i)) (entry (swp [] q.2 c i)) :=
  h.eq.trans ((REq.swap _ _ hc hi).congr (fun r j _ _ => Ob l1 l2 r j) (fun r j _ _ => Ob l3 l4 r j))
 have u1 : Un n c (entry (swp [] q.1 c i)) := fun r j hr hj => by
  rw [Ob l1 l2, h.un _ j (sig_lt hc hi hr) hj]
  unfold idF sig
  by_cases h1 : r = i
  ·rw [if_pos h1, if_neg (by omega), if_neg (by omega)]
  ·rw [if_neg h1]
   by_cases h2 : r = c
   ·rw [if_pos h2, if_neg (by omega), if_neg (by omega)]
   ·rw [if_neg h2]
 have e1 : entry (swp [] q.1 c i) c c = entry q.1 i c := by rw [Ob l1 l2, Acn]
 have s1 := h.s1.swp hc hi
 have s2 := h.s2.swp hc hi
 obtain ⟨⟨n1, n2⟩, n3, n4⟩ := Aem (p := (swp [] q.1 c i, swp [] q.2 c i)) s1 s2 hc
 dsimp only at n3 n4
 rw [e1] at n3 n4
 have r2 := r1.trans ((REq.rop _ _ hc (AeD hne) (.inl rfl)).congr n3 n4)
 have o1 : entry (norm c (swp [] q.1 c i, swp [] q.2 c i)).1 c c = 1 := by
  rw [n3 c c hc hc, rop, if_pos rfl, e1, Vo hne, FM, Gy]
 have z1 : ∀ j, j < c → entry (norm c (swp [] q.1 c i, swp [] q.2 c i)).1 c j = 0 := fun j hj => by
  rw [n3 c j hc (by omega), rop, if_pos rfl, u1 c j hc hj, FM, Gy]
  unfold idF
  rw [if_neg (by omega), Gt]
 have ej := AaU n1 n2 hc o1 z1 n (Nat.le_refl n)
 refine ⟨ej.s1, ej.s2, r2.trans ej.eq, fun r j hr hj => ?_⟩
 show entry (elim c (norm c (swp [] q.1 c i, swp [] q.2 c i)) n).1 r j = idF r j
 by_cases hjc : j = c
 ·subst hjc
  by_cases hrc : r = j
  ·subst hrc
   rw [ej.row r hc, o1]; simp [idF]
  ·rw [ej.zero r hr hrc]; simp [idF, hrc]
 ·rw [ej.left r j hr (by omega), n3 r j hr (by omega), rop]
  split
  ·rename_i e
   subst e
   rw [u1 _ j hc (by omega), FM, Gy]
   unfold idF
   rw [if_neg (by omega), Gt]
  ·exact u1 r j hr (by omega)
theorem Sq.right {n : Nat} {m : LL} (h : Sq n m) (hn : 0 < n) : Aai m ∧ width m = n := by
 have e : width m = n := by rw [width]; exact h.row hn
 exact ⟨⟨by rw [h.len]; exact hn, by rw [e]; exact hn, fun x hx => by rw [e]; exact h.all x hx⟩, e⟩
def cnt (v : Nat → UInt8) : Nat → Nat
 | 0 => 0
 | n + 1 => cnt v n + if v n = 0 then 0 else 1
abbrev Bs := List UInt8
def Ar (n : Nat) : Bs := [UInt8.ofNat (n / 16777216), UInt8.ofNat (n / 65536), UInt8.ofNat (n / 256), UInt8.ofNat n]
def BD (b : Bs) : Nat := 16777216 * (b.getD 0 0).toNat + 65536 * (b.getD 1 0).toNat + 256 * (b.getD 2 0).toNat + (b.getD 3 0).toNat
theorem AL (n : Nat) : (Ar n).length = 4 := rfl
theorem Nj (b : Bs) : BD b < 4294967296 := by
 have h0 := (b.getD 0 0).toNat_lt
 have h1 := (b.getD 1 0).toNat_lt
 have h2 := (b.getD 2 0).toNat_lt
 have h3 := (b.getD 3 0).toNat_lt
 unfold BD
 omega
theorem Hr {n : Nat} (h : n < 4294967296) (r : Bs) : BD (Ar n ++ r) = n := by
 simp only [BD, Ar, List.cons_append, List.nil_append, List.getD_cons_zero, List.getD_cons_succ, UInt8.toNat_ofNat']
 omega
def DY (v : Bs) : Bs := Ar v.length ++ v
theorem EM (v : Bs) : (DY v).length = v.length + 4 := by simp [DY, AL]; omega
def I9 (b : Bs) : Option (Bs × Bs) := if b.length < 4 then none else if b.length - 4 < BD b then none else some ((b.drop 4).take (BD b), (b.drop 4).drop (BD b))
theorem Ov {v : Bs} (hv : v.length < 4294967296) (r : Bs) : I9 (DY v ++ r) = some (v, r) := by
 have h1 : BD (DY v ++ r) = v.length := by rw [DY, List.append_assoc]; exact Hr hv _
 have h2 : (DY v ++ r).drop 4 = v ++ r := by
  rw [DY, List.append_assoc]
  exact List.drop_left' rfl
 rw [I9, h1, h2, if_neg (by simp [EM]; omega), if_neg (by simp [EM]; omega), List.take_left, List.drop_left]
/-! ### shards -/
structure ShapeOk (K F : Nat) : Prop where
 k : 1 ≤ K
 n : K + 2 * F ≤ 7
theorem JU {α : Type} (l : List α) (i j : Nat) (x d : α) (hi : i < l.length) : (l.set i x).getD j d = if j = i then x else l.getD j d := by
 simp only [List.getD_eq_getElem?_getD, List.getElem?_set]
 by_cases e : i = j
 ·subst e; simp [hi]
 ·rw [if_neg e, if_neg (fun h => e h.symm)]
/-! ### mixed values -/
end Go.Proofs.YtgpkbldlkadnjaaGreat
end
section
set_option maxHeartbeats 3000000
attribute [local irreducible] Go.Sl.Chk Go.Sl.Br Go.Sl.Or2 Go.Sl.Ld Go.Sl.Ldn Go.Sl.LdB Go.Sl.Stn Go.Sl.New Go.Sl.Run Go.Sl.BZ Go.Sl.BQ Go.Sl.Call Go.Sl.Bc Go.Sl.Cb Go.Sl.Alt Go.Sl.Om Go.Sl.xpk Go.Sl.Dk Go.Sl.Dl Go.Sl.DLd Go.Sl.CZ Go.Sl.DBs Go.Sl.AO Go.Sl.Cf Go.Sl.CB Go.Sl.BC Go.Sl.DGC Go.Sl.BG Go.Sl.Dw Go.Sl.Ce Go.Sl.Ent Go.Sl.AZ Go.Sl.dv Go.Sl.ev Go.Sl.AU
namespace Go.Proofs.YtgpkbldlkadnjaaGreat
open Go Go.Sl Go.RowKit
theorem uStr : Tryz.prog.underlying Xt = some .string := by kernel_rfl
theorem uInt : Tryz.prog.underlying tInt = some (.int .i64) := by kernel_rfl
theorem uBytes : Tryz.prog.underlying Ap = some (.slice tU8) := by kernel_rfl
theorem uU8 : Tryz.prog.underlying tU8 = some (.int .u8) := by kernel_rfl
abbrev AC (b : Bs) : D := .row tU8 1 b.length (b.map bD)
abbrev matO (m : LL) : D := .row Ap 1 m.length (m.map AC)
theorem Adt (x : UInt8) : (bD x).plain := trivial
theorem JC {b : Bs} : ∀ d ∈ b.map bD, d.plain := fun d hd => by obtain ⟨x, _, rfl⟩ := List.mem_map.1 hd; exact Adt x
theorem CP {b : Bs} : ∀ d ∈ b.map bD, BR d := fun d hd => by obtain ⟨x, _, rfl⟩ := List.mem_map.1 hd; rfl
theorem BV (b : Bs) : Jj (b.map bD) ∧ PS (b.map bD) = b.map bD :=
 let h := OG (l := b.map bD) JC
 ⟨h.2, h.1⟩
theorem Aap (n : Nat) : IntKind.u8.wrap ((n : Nat) : Int) = ((UInt8.ofNat n).toNat : Int) := by
 rw [UInt8.toNat_ofNat']
 simp [IntKind.wrap, IntKind.bits, IntKind.signed]
theorem AbX (n k : Nat) : D.sc (Value.int .u8 (IntKind.u8.wrap ((n : Int).fdiv (2 ^ k)))) = bD (UInt8.ofNat (n / 2 ^ k)) := by
 rw [Int.fdiv_eq_ediv_of_nonneg _ (Int.le_of_lt (Int.pow_pos (by decide)))]
 have : (n : Int) / 2 ^ k = ((n / 2 ^ k : Nat) : Int) := by rw [Int.natCast_ediv]; congr 1
 rw [this, Aap]
 rfl
theorem SH (n : Nat) : D.sc (Value.int .u8 (IntKind.u8.wrap (n : Int))) = bD (UInt8.ofNat n) := by
 rw [Aap]
 rfl
theorem AcN (n : Nat) (hn : n < 4294967296) : MB Tryz.prog DL [iD n] (fun i => .h i) (AC (Ar n)) := by
 intro nx
 refine AA Z8 (by simp only [m_wire_Num, List.length]; decide) ?_
 simp only [m_wire_Num]; refine WK ?_; try with_reducible exact trivial
 refine BI ⟨nx, Nat.le_refl _, Nat.lt_succ_self _, rfl, ?_⟩
 rw [AbX, AbX, AbX, SH]
 rfl
theorem Q8 (n : Nat) (hn : n < 4294967296) : DJ Tryz.prog DL [iD n] (bytesD (Ar n)) :=
 (AcN n hn).fn (BV _).1 (by rw [(BV _).2])
theorem Zm (n : Nat) (hn : n < 4294967296) : MB Tryz.prog Eh [iD n] (fun i => .h i) (AC (Ar n)) := by
 intro nx
 refine AA YC (by simp only [m_ref01_Num, List.length]; decide) ?_
 simp only [m_ref01_Num]; refine WK ?_; try with_reducible exact trivial
 refine BI ⟨nx, Nat.le_refl _, Nat.lt_succ_self _, rfl, ?_⟩
 have e : ∀ k : Nat, UInt8.ofNat (k % 256) = UInt8.ofNat k := fun k => UInt8.toNat_inj.1 (by simp)
 have c1 : (n : Int) / 16777216 = ((n / 16777216 : Nat) : Int) := by omega
 have c2 : (n : Int) / 65536 % 256 = ((n / 65536 % 256 : Nat) : Int) := by omega
 have c3 : (n : Int) / 256 % 256 = ((n / 256 % 256 : Nat) : Int) := by omega
 have c4 : (n : Int) % 256 = ((n % 256 : Nat) : Int) := by omega
 rw [c1, c2, c3, c4, SH, SH, SH, SH, e, e, e]
 rfl
theorem text_o (v : Bs) (hv : v.length < 4294967296) : MB Tryz.prog Kv [DZ v] (fun i => .h i) (AC (DY v)) := by
 intro nx
 refine AA Yu (by simp only [m_wire_Text, List.length]; decide) ?_
 simp only [m_wire_Text]; refine WK ?_; try with_reducible exact trivial
 have e : (⟨v.toArray⟩ : ByteArray).size = v.length := by simp [ByteArray.size]
 rw [e]
 refine Rz (AcN v.length hv) fun i n1 h1 h2 => ?_
 refine WK ?_; try with_reducible exact trivial
 refine Adg (n := (Ar v.length).length) elB rfl uStr (Aa _ _ _) (by rw [e, AL]; omega) (by simp) ?_
 refine WK ?_; try with_reducible exact trivial
 refine BI ⟨n1, by omega, Nat.lt_succ_self _, rfl, ?_⟩
 rw [Y8, ← List.map_append, e]
 simp only [AC, DY, List.length_append]
theorem text_d (v : Bs) (hv : v.length < 4294967296) : DJ Tryz.prog Kv [DZ v] (bytesD (DY v)) :=
 (text_o v hv).fn (BV _).1 (by rw [(BV _).2])
theorem Ad3 (v : Bs) (hv : v.length < 4294967296) : MB Tryz.prog Js [DZ v] (fun i => .h i) (AC (DY v)) := by
 intro nx
 refine AA WV (by simp only [m_ref01_Text, List.length]; decide) ?_
 simp only [m_ref01_Text]; refine WK ?_; try with_reducible exact trivial
 have e : (⟨v.toArray⟩ : ByteArray).size = v.length := by simp [ByteArray.size]
 rw [e]
 refine Rz (Zm v.length hv) fun i n1 h1 h2 => ?_
 refine WK ?_; try with_reducible exact trivial
 refine Ade (s := ⟨v.toArray⟩) uStr uBytes uU8 (by with_unfolding_all rfl) ?_
 refine WK ?_; try with_reducible exact trivial
 refine Jm (i := i) (m := v.length) (l' := v.map bD) elB (l := (Ar v.length).map bD) (n := (Ar v.length).length) (Aa _ _ _) ?_ (by simp) CP (by rw [AL]; omega) (by rw [AL]; omega) (by simp) ?_
 ·rw [e]; exact FW.sl _ _ _
 refine WK ?_; try with_reducible exact trivial
 refine BI ⟨n1, by omega, Nat.lt_succ_self _, rfl, ?_⟩
 rw [← List.map_append]
 simp only [AC, DY, List.length_append]
theorem Acs (a b : Bs) : DJ Tryz.prog LX [bytesD a, bytesD b] (AX (decide (a = b))) := by
 intro nx
 refine AA WW (by simp only [m_ref01_Same, List.length]; decide) ?_
 simp only [m_ref01_Same]; refine WK ?_; try with_reducible exact trivial
 refine dbs rfl ?_
 refine WK ?_; try with_reducible exact trivial
 refine dbs rfl ?_
 simp -dsimp (disch := omega) only [↓MC.xwp, ↓CX, ↓xdr, ↓MOp.xwp, dvs, dv, dvu, dvo, dvp, dgb, dGd, EC, cond_true, cond_false, Hz, AZ, BM, DF, Ee, Dx, ptr, bsc, cv, uo, uof, Bq, xpr, Eo, ET, GL, Gj, H9, G8, Ia, xst, xgp, glc, Ho, Ew, Hl, Hm, Hf, Hg, Eu, He, GM, Ha, Es, Et, Dc, Df, Gi, dsl, dif, CO, CE, BL, scs, rowOf, Bz, dtk, Ed, BR, pev, FV, GH, D5, GV, psl, Eb, ↓Eg, ↓Dh, ↓GR, ↓FX, Ea, Gn, Gx, Dv, BK, kp, Dq, DX, FQ, DV, GI, C9, Bg, BH, nb, FT, CS, BB, apart, Az, BA, heldOk, Op.operands, Nat.reduceAdd, forall_eq_or_imp, D.plain, reduceCtorEq, if_true, if_false, ↓reduceIte, ne_eq, Bool.cond_true, Bool.cond_false, forall_const, implies_true, forall_eq, Int.reduceEq, Int.reduceLT, Int.reduceLE, Int.reduceAdd, Int.reduceSub, Int.reduceMul, Int.reduceToNat, Nat.reduceMul, Nat.reduceLeDiff, Nat.reduceLT, Nat.reduceSub, Nat.reduceBEq, Nat.reduceEqDiff, ES, bytesD, iD, Ec, AX, DZ, bD, DB, ba_eq]
 exact BI ⟨rfl, rfl⟩
theorem V4 {a b : Bs} {k : Nat} (ha : k < a.length) (hb : k < b.length) (h : a.take k = b.take k) (e : gt a k = gt b k) : a.take (k + 1) = b.take (k + 1) := by rw [G5 ha, G5 hb, h, e]
theorem WJ (a b : Bs) (hl : a.length ≤ 1000000000) : DJ Tryz.prog Gf [bytesD a, bytesD b] (AX (decide (a = b))) := by
 intro nx
 refine AA Uc (by simp only [m_slices_Equal, List.length]; decide) ?_
 simp only [m_slices_Equal]; refine WK ?_; try with_reducible exact trivial
 refine brn (fun hne => ?_) (fun heq => ?_)
 ·refine WK ?_; try with_reducible exact trivial
  have : ¬ a = b := fun h => hne (by rw [h])
  rw [Su this]
  exact BI ⟨rfl, rfl⟩
 ·have hlb : a.length = b.length := by omega
  refine WK ?_; try with_reducible exact trivial
  refine E5 [0, 1, 12, 13] (fun k : Nat => ([(0, bytesD a), (1, bytesD b), (12, iD a.length), (13, iD k)], [], nx)) (fun k => k ≤ a.length ∧ a.take k = b.take k) (fun k => a.length - k) 0 ⟨by omega, rfl⟩ (Ent.of (by with_unfolding_all rfl) rfl) ?_
  rintro j ⟨hj, he⟩
  by_cases hlt : j < a.length
  ·simp -dsimp (disch := omega) only [↓MC.xwp, ↓CX, ↓xdr, ↓MOp.xwp, dvs, dv, dvu, dvo, dvp, dgb, dGd, EC, cond_true, cond_false, Hz, AZ, BM, DF, Ee, Dx, ptr, bsc, cv, uo, uof, Bq, xpr, Eo, ET, GL, Gj, H9, G8, Ia, xst, xgp, glc, Ho, Ew, Hl, Hm, Hf, Hg, Eu, He, GM, Ha, Es, Et, Dc, Df, Gi, dsl, dif, CO, CE, BL, scs, rowOf, Bz, dtk, Ed, BR, pev, FV, GH, D5, GV, psl, Eb, ↓Eg, ↓Dh, ↓GR, ↓FX, Ea, Gn, Gx, Dv, BK, kp, Dq, DX, FQ, DV, GI, C9, Bg, BH, nb, FT, CS, BB, apart, Az, BA, heldOk, Op.operands, Nat.reduceAdd, forall_eq_or_imp, D.plain, reduceCtorEq, if_true, if_false, ↓reduceIte, ne_eq, Bool.cond_true, Bool.cond_false, forall_const, implies_true, forall_eq, Int.reduceEq, Int.reduceLT, Int.reduceLE, Int.reduceAdd, Int.reduceSub, Int.reduceMul, Int.reduceToNat, Nat.reduceMul, Nat.reduceLeDiff, Nat.reduceLT, Nat.reduceSub, Nat.reduceBEq, Nat.reduceEqDiff, ES, bytesD, iD, Ec, AX, DZ, bD, DB, U8]
   refine brn (fun hne => ?_) (fun heq => ?_)
   ·refine WK ?_; try with_reducible exact trivial
    have : ¬ a = b := fun h => hne (by rw [h])
    rw [Su this]
    exact BI ⟨rfl, rfl⟩
   ·refine WK ?_; try with_reducible exact trivial
    refine ⟨j + 1, ⟨by omega, ?_⟩, by omega, (Ent.of (by with_unfolding_all rfl) rfl)⟩
    refine V4 hlt (by omega) he ?_
    have : (gt a j).toNat = (gt b j).toNat := by omega
    exact UInt8.toNat_inj.1 this
  ·refine WK ?_; try with_reducible exact trivial
   have hja : j = a.length := by omega
   subst hja
   rw [List.take_length, hlb, List.take_length] at he
   rw [WN he]
   exact BI ⟨rfl, rfl⟩
theorem Aa1 (b : Bs) (hl : b.length ≤ 1000000000) : MB Tryz.prog EX [bytesD b] (fun i => .h i) (AC b) := by
 intro nx
 refine AA Ud (by simp only [m_slices_Clone, List.length]; decide) ?_
 simp only [m_slices_Clone]; refine WK ?_; try with_reducible exact trivial
 intro q hq
 cases q with
 | true =>
  refine WK ?_; try with_reducible exact trivial
  have h0 : b = [] := List.eq_nil_of_length_eq_zero (by
   rcases Nat.eq_zero_or_pos b.length with h | h
   ·exact h
   ·exact absurd (hq h) (by simp))
  subst h0
  refine Yh tU8 1 (t' := .mk _) ?_
  exact BI ⟨nx, Nat.le_refl _, Nat.lt_succ_self _, rfl, rfl⟩
 | false =>
  refine WK ?_; try with_reducible exact trivial
  refine Jm (i := nx) (m := b.length) (l' := b.map bD) elB (l := []) (n := 0) (Aa _ _ _) (FW.sl _ _ _) (by simp) CP (by omega) (by omega) (by simp) ?_
  refine WK ?_; try with_reducible exact trivial
  exact BI ⟨nx + 1, by omega, Nat.lt_succ_self _, rfl, by simp⟩
theorem Aa2 (b : Bs) (hl : b.length ≤ 1000000000) : DJ Tryz.prog EX [bytesD b] (bytesD b) :=
 (Aa1 b hl).fn (BV _).1 (by rw [(BV _).2])
theorem grow_o (n : Nat) (hl : n ≤ 1000000000) : MB Tryz.prog KC [.sc (.slice none 0 0), iD n] (fun i => .h i) (.row tU8 1 0 []) := by
 intro nx
 refine AA UC (by simp only [m_slices_Grow, List.length]; decide) ?_
 simp only [m_slices_Grow]; refine WK ?_; try with_reducible exact trivial
 refine brd (fun h => ?_) (fun h => ?_)
 ·refine WK ?_; try with_reducible exact trivial
  refine ZX elB uInt (by omega) (by omega) (by omega) fun l hll => ?_
  refine WK ?_; try with_reducible exact trivial
  refine ocut ?_
  refine WK ?_; try with_reducible exact trivial
  refine ofrz ?_
  refine WK ?_; try with_reducible exact trivial
  exact BI ⟨nx + 1, by omega, Nat.lt_succ_self _, rfl, rfl⟩
 ·refine WK ?_; try with_reducible exact trivial
  refine Yh tU8 1 (t' := .mk _) ?_
  exact BI ⟨nx, Nat.le_refl _, Nat.lt_succ_self _, rfl, rfl⟩
theorem Vs {ls : LL} {k : Nat} (h : k < ls.length) : (ls.take (k + 1)).flatten = (ls.take k).flatten ++ gt ls k := by rw [G5 h, List.flatten_append]; simp
theorem AaT (ls : LL) (k : Nat) : (ls.take k).flatten.length ≤ ls.flatten.length := by
 have := congrArg (fun l : LL => l.flatten.length) (List.take_append_drop k ls)
 simp only [List.flatten_append, List.length_append] at this
 omega
theorem Adi (ls : LL) (hl : ls.length ≤ 1000000000) (hf : ls.flatten.length ≤ 1000000000) : MB Tryz.prog D8 [ES ls] (fun i => .h i) (AC ls.flatten) := by
 intro nx
 refine AA RD (by simp only [m_slices_Concat, List.length]; decide) ?_
 simp only [m_slices_Concat]; refine WK ?_; try with_reducible exact trivial
 refine E5 [0, 3, 9, 10, 11] (fun k : Nat => ([(0, ES ls), (3, iD (ls.take k).flatten.length), (9, ES ls), (10, iD ls.length), (11, iD k)], [], nx)) (fun k => k ≤ ls.length) (fun k => ls.length - k) 0 (by omega) (Ent.of (by with_unfolding_all rfl) rfl) ?_
 intro j hj
 by_cases hlt : j < ls.length
 ·have h1 := Vs hlt
  have h2 := AaT ls (j + 1)
  have h3 : (ls.take (j + 1)).flatten.length = (ls.take j).flatten.length + (gt ls j).length := by rw [h1, List.length_append]
  refine WK ?_; try with_reducible exact trivial
  refine ⟨j + 1, by omega, by omega, ?_⟩
  rw [h3]
  exact (Ent.of (by with_unfolding_all rfl) rfl)
 ·have hjl : j = ls.length := by omega
  subst hjl
  rw [List.take_length]
  refine WK ?_; try with_reducible exact trivial
  refine Rz (grow_o _ hf) fun i n1 h1 h2 => ?_
  refine WK ?_; try with_reducible exact trivial
  refine E5 [6, 25, 26, 27] (fun s : Nat × Nat × Nat => ([(6, .h s.2.1), (25, ES ls), (26, iD ls.length), (27, iD s.1)], [(s.2.1, AC (ls.take s.1).flatten)], s.2.2)) (fun s => s.1 ≤ ls.length ∧ nx ≤ s.2.1 ∧ s.2.1 < s.2.2) (fun s => ls.length - s.1) (0, i, n1) ⟨by dsimp only; omega, h1, h2⟩ (Ent.of (by with_unfolding_all rfl) rfl) ?_
  rintro ⟨j, i, n1⟩ ⟨hj, h1, h2⟩
  dsimp only at hj h1 h2 ⊢
  by_cases hlt : j < ls.length
  ·have g1 := Vs hlt
   have g2 := AaT ls (j + 1)
   have g3 : (ls.take (j + 1)).flatten.length = (ls.take j).flatten.length + (gt ls j).length := by rw [g1, List.length_append]
   refine WK ?_; try with_reducible exact trivial
   refine Jm (i := i) (m := (gt ls j).length) (l' := (gt ls j).map bD) elB (l := (ls.take j).flatten.map bD) (n := (ls.take j).flatten.length) (Aa _ _ _) (FW.sl _ _ _) (by simp) CP (by omega) (by omega) (by simp) ?_
   refine WK ?_; try with_reducible exact trivial
   refine ⟨(j + 1, n1, n1 + 1), ⟨by dsimp only; omega, by dsimp only; omega, by dsimp only; omega⟩, by dsimp only; omega, ?_⟩
   dsimp only
   rw [g1]
   simp only [AC, List.map_append, List.length_append]
   exact (Ent.of (by with_unfolding_all rfl) rfl)
  ·have hjl : j = ls.length := by omega
   subst hjl
   rw [List.take_length]
   refine WK ?_; try with_reducible exact trivial
   exact BI ⟨i, h1, h2, rfl, rfl⟩
theorem PZ (ls : LL) (hl : ls.length ≤ 1000000000) (hf : ls.flatten.length ≤ 1000000000) : DJ Tryz.prog D8 [ES ls] (bytesD ls.flatten) :=
 (Adi ls hl hf).fn (BV _).1 (by rw [(BV _).2])
def MH (b : Bs) : Nat → Nat
 | 0 => 0
 | k + 1 => MH b k * 256 + (gt b k).toNat
theorem XX (b : Bs) : ∀ k, MH b k < 256 ^ k
 | 0 => by simp [MH]
 | k + 1 => by
  have := XX b k
  have h := (gt b k).toNat_lt
  rw [MH, Nat.pow_succ]
  omega
theorem Ael {b : Bs} (h : 4 ≤ b.length) : MH b 4 = BD b := by
 simp only [MH, BD, gt]
 show ((_ * 256 + _) * 256 + _) * 256 + _ = _
 simp only [Nat.zero_mul, Nat.zero_add]
 have : ∀ k, b.getD k default = b.getD k 0 := fun _ => rfl
 simp only [this]
 omega
theorem shl_or (n : Nat) (c : UInt8) (h : n < 16777216) : IntKind.i64.wrap (BitVec.ofInt IntKind.i64.bits ((n * 256 : Nat) : Int) ||| BitVec.ofInt IntKind.i64.bits (c.toNat : Int)).toNat = ((n * 256 + c.toNat : Nat) : Int) := by
 have hc := c.toNat_lt
 have e1 : BitVec.ofInt IntKind.i64.bits ((n * 256 : Nat) : Int) = BitVec.ofNat 64 (n * 256) := BitVec.ofInt_natCast _ _
 have e2 : BitVec.ofInt IntKind.i64.bits (c.toNat : Int) = BitVec.ofNat 64 c.toNat := BitVec.ofInt_natCast _ _
 rw [e1, e2]
 have e3 : (BitVec.ofNat 64 (n * 256) ||| BitVec.ofNat 64 c.toNat).toNat = n * 256 + c.toNat := by
  rw [BitVec.toNat_or, BitVec.toNat_ofNat, BitVec.toNat_ofNat, Nat.mod_eq_of_lt (by omega), Nat.mod_eq_of_lt (by omega)]
  have := Nat.two_pow_add_eq_or_of_lt (i := 8) (b := c.toNat) (by omega) n
  rw [Nat.mul_comm] at this
  exact this.symm
 refine (congrArg (fun k : Nat => IntKind.i64.wrap (k : Int)) e3).trans (wrap_i64 (by omega))
theorem TT (b : Bs) (hl : b.length ≤ 1000000000) : DJ Tryz.prog DW [bytesD b] (if b.length < 4 then .tup [iD 0, bytesD [], AX false] else .tup [iD (BD b), bytesD (b.drop 4), AX true]) := by
 intro nx
 refine AA UA (by simp only [m_wire_CutNum, List.length]; decide) ?_
 simp only [m_wire_CutNum]; refine WK ?_; try with_reducible exact trivial
 refine brd (fun h => ?_) (fun h => ?_)
 ·refine WK ?_; try with_reducible exact trivial
  rw [if_pos (by omega)]
  refine Gv (t' := .mk _) ?_
  exact BI ⟨rfl, rfl⟩
 ·rw [if_neg (by omega)]
  refine WK ?_; try with_reducible exact trivial
  rw [← List.map_take]
  refine E5 [0, 5, 12, 13, 14] (fun k : Nat => ([(0, bytesD b), (5, iD (MH b k)), (12, .sl 4 ((b.take 4).map bD)), (13, iD 4), (14, iD k)], [], nx)) (fun k => k ≤ 4) (fun k => 4 - k) 0 (by omega) (Ent.of (by with_unfolding_all rfl) rfl) ?_
  intro j hj
  by_cases hlt : j < 4
  ·have hbj : j < b.length := by omega
   have hv := XX b j
   have hv2 : MH b j < 16777216 := Nat.lt_of_lt_of_le hv (by
    have : (256 : Nat) ^ j ≤ 256 ^ 3 := Nat.pow_le_pow_right (by decide) (by omega)
    exact this)
   have hg : gt (b.take 4) j = gt b j := by rw [EG (by rw [List.length_take]; omega), EG hbj, List.getElem_take]
   have hjt : j < (b.take 4).length := by rw [List.length_take]; omega
   have hc := (gt b j).toNat_lt
   simp -dsimp (disch := omega) only [↓MC.xwp, ↓CX, ↓xdr, ↓MOp.xwp, dvs, dv, dvu, dvo, dvp, dgb, dGd, EC, cond_true, cond_false, Hz, AZ, BM, DF, Ee, Dx, ptr, bsc, cv, uo, uof, Bq, xpr, Eo, ET, GL, Gj, H9, G8, Ia, xst, xgp, glc, Ho, Ew, Hl, Hm, Hf, Hg, Eu, He, GM, Ha, Es, Et, Dc, Df, Gi, dsl, dif, CO, CE, BL, scs, rowOf, Bz, dtk, Ed, BR, pev, FV, GH, D5, GV, psl, Eb, ↓Eg, ↓Dh, ↓GR, ↓FX, Ea, Gn, Gx, Dv, BK, kp, Dq, DX, FQ, DV, GI, C9, Bg, BH, nb, FT, CS, BB, apart, Az, BA, heldOk, Op.operands, Nat.reduceAdd, forall_eq_or_imp, D.plain, reduceCtorEq, if_true, if_false, ↓reduceIte, ne_eq, Bool.cond_true, Bool.cond_false, forall_const, implies_true, forall_eq, Int.reduceEq, Int.reduceLT, Int.reduceLE, Int.reduceAdd, Int.reduceSub, Int.reduceMul, Int.reduceToNat, Nat.reduceMul, Nat.reduceLeDiff, Nat.reduceLT, Nat.reduceSub, Nat.reduceBEq, Nat.reduceEqDiff, ES, bytesD, iD, Ec, AX, DZ, bD, DB, hg, U8]
   have e1 : (2 : Int) ^ Nat.min (Int.toNat 8) IntKind.i64.bits = 256 := rfl
   have e2 : IntKind.i64.wrap ((MH b j : Int) * 2 ^ Nat.min (Int.toNat 8) IntKind.i64.bits) = ((MH b j * 256 : Nat) : Int) := by rw [e1, wrap_i64 (by omega)]; omega
   refine ⟨j + 1, by omega, by omega, ?_⟩
   simp only [MH]
   rw [← shl_or (MH b j) (gt b j) hv2, ← e2]
   exact (Ent.of (by with_unfolding_all rfl) rfl)
  ·have hj4 : j = 4 := by omega
   subst hj4
   refine WK ?_; try with_reducible exact trivial
   have e : D.sl (b.length - 4) (List.take (b.length - 4) (List.drop 4 (b.map bD))) = bytesD (b.drop 4) := by
    rw [← List.map_drop, List.take_of_length_le (by simp)]
    simp
   rw [e]
   refine Ba (Aa2 (b.drop 4) (by simp; omega)) fun n1 h1 => ?_
   refine WK ?_; try with_reducible exact trivial
   rw [Ael (by omega)]
   exact BI ⟨rfl, rfl⟩
theorem AbJ (b : Bs) (hl : b.length ≤ 1000000000) : DJ Tryz.prog Ij [bytesD b] (match I9 b with
  | some (v, rest) => .tup [DZ v, bytesD rest, AX true]
  | none => .tup [DZ [], bytesD [], AX false]) := by
 intro nx
 refine AA Ua (by simp only [m_wire_CutText, List.length]; decide) ?_
 simp only [m_wire_CutText]; refine WK ?_; try with_reducible exact trivial
 refine Ba (TT b hl) fun n1 h1 => ?_
 by_cases h4 : b.length < 4
 ·rw [if_pos h4]
  refine WK ?_; try with_reducible exact trivial
  rw [I9, if_pos h4]
  refine Gv (t' := .mk _) ?_
  exact BI ⟨rfl, rfl⟩
 ·rw [if_neg h4]
  have hd : (b.drop 4).length = b.length - 4 := by simp
  have hn := Nj b
  refine WK ?_; try with_reducible exact trivial
  rw [I9, if_neg h4]
  by_cases h5 : b.length - 4 < BD b
  ·rw [if_pos h5]
   refine WKX @hd ?_; try with_reducible exact trivial
   refine Gv (t' := .mk _) ?_
   exact BI ⟨rfl, rfl⟩
  ·rw [if_neg h5]
   refine WKX @hd ?_; try with_reducible exact trivial
   rw [← List.map_take]
   refine dbs (by rw [List.length_take]; omega) ?_
   refine WKX @hd ?_; try with_reducible exact trivial
   have e : D.sl (b.length - 4 - BD b) (List.take (b.length - 4 - BD b) (List.drop (BD b) (List.map bD (List.drop 4 b)))) = bytesD ((b.drop 4).drop (BD b)) := by
    rw [← List.map_drop, List.take_of_length_le (by simp; omega)]
    simp; omega
   rw [e]
   exact BI ⟨rfl, rfl⟩
end Go.Proofs.YtgpkbldlkadnjaaGreat
end
section
namespace Go.Proofs.YtgpkbldlkadnjaaGreat
open Go Go.Sl Go.RowKit Go.Proofs
attribute [local go_sem] Oper.semAt_some
end Go.Proofs.YtgpkbldlkadnjaaGreat
end
section
set_option maxHeartbeats 3000000
attribute [local irreducible] Go.Sl.Chk Go.Sl.Br Go.Sl.Or2 Go.Sl.Ld Go.Sl.Ldn Go.Sl.LdB Go.Sl.Stn Go.Sl.New Go.Sl.Run Go.Sl.BZ Go.Sl.BQ Go.Sl.Call Go.Sl.Bc Go.Sl.Cb Go.Sl.Alt Go.Sl.Om Go.Sl.xpk Go.Sl.Dk Go.Sl.Dl Go.Sl.DLd Go.Sl.CZ Go.Sl.DBs Go.Sl.AO Go.Sl.Cf Go.Sl.CB Go.Sl.BC Go.Sl.DGC Go.Sl.BG Go.Sl.Dw Go.Sl.Ce Go.Sl.Ent Go.Sl.AZ Go.Sl.dv Go.Sl.ev Go.Sl.AU
namespace Go.Proofs.YtgpkbldlkadnjaaGreat
open Go Go.Sl Go.RowKit

/-! ### new matrices are owned -/
def Hq : List Value → Nat → Nat
 | [], _ => 0
 | u :: vs, b => own u b + Hq vs b
theorem Lm {b : Nat} : ∀ {vs : List Value}, 0 < Hq vs b → ∃ (j : Nat) (u : Value), vs[j]? = some u ∧ blk u = some b
 | [], h => by simp [Hq] at h
 | u :: vs, h => by
  simp only [Hq] at h
  by_cases hu : blk u = some b
  ·exact ⟨0, u, rfl, hu⟩
  ·rw [Nb hu] at h
   obtain ⟨j, x, h1, h2⟩ := Lm (vs := vs) (b := b) (by omega)
   exact ⟨j + 1, x, by simpa using h1, h2⟩
theorem UT {b : Nat} : ∀ {vs : List Value}, (∀ (i j : Nat) (u v : Value), i ≠ j → vs[i]? = some u → vs[j]? = some v → blk u = some b → blk v ≠ some b) → Hq vs b ≤ 1
 | [], h => by simp [Hq]
 | u :: vs, h => by
  have ih := UT (vs := vs) fun i j x y hij hx hy => h (i + 1) (j + 1) x y (by omega) (by simpa using hx) (by simpa using hy)
  have h1 := Nc u b
  simp only [Hq]
  by_cases hu : blk u = some b
  ·rcases Nat.eq_zero_or_pos (Hq vs b) with h0 | h0
   ·rw [h0]; exact h1
   ·obtain ⟨j, x, hx, hb⟩ := Lm h0
    exact absurd hb (h 0 (j + 1) u x (by omega) rfl (by simpa using hx) hu)
  ·rw [Nb hu]; omega
theorem Aaw {w : World} {Z : Nat → Prop} {T : Nat → Option Value} : ∀ {vs : List Value} {m : LL}, vs.length = m.length → (∀ (j : Nat) (u : Value) (x : Bs), vs[j]? = some u → m[j]? = some x → Ow w tU8 1 u x.length (x.map U8)) → RoL w Z T (m.map AC) vs (Hq vs)
 | [], [], _, _ => by simp only [List.map_nil, RoL]; exact ⟨trivial, fun _ => rfl⟩
 | [], _ :: _, h, _ => by simp at h
 | _ :: _, [], h, _ => by simp at h
 | u :: vs, x :: m, h, k => by
  simp only [List.map_cons, RoL]
  refine ⟨u, vs, own u, Hq vs, rfl, ?_, Aaw (by simpa using h) (fun j y z hy hz => k (j + 1) y z (by simpa using hy) (by simpa using hz)), fun b => rfl⟩
  simp only [Ro]
  have hm : x.map bD = (x.map U8).map D.sc := by rw [List.map_map]; rfl
  exact ⟨x.map U8, fun _ => 0, k 0 u x rfl rfl, by rw [hm]; exact RoL.of (RsL.sc _), fun b => by simp⟩
theorem Iw.ro {w : World} {B : Nat} {r : Value} {m : LL} (h : Iw B w r m) (Z : Nat → Prop) (T : Nat → Option Value) : r.oneCell' = true ∧ ∃ G, Ro w Z T (matO m) r G ∧ ∀ b, G b ≤ 1 ∧ (0 < G b → B ≤ b ∧ b < w.heap.size) := by
 obtain ⟨vs, h1, h2, h3⟩ := h
 have hob : r.ownBlock = blk r := Ow.own h1.spine
 have hrow : ∀ (j : Nat) (u : Value), vs[j]? = some u → u.ownBlock = blk u := fun j u hu => by
  have hj : j < m.length := by rw [← h1.len]; exact (List.getElem?_eq_some_iff.1 hu).1
  exact Ow.own (h1.row j u m[j] hu (List.getElem?_eq_getElem hj))
 refine ⟨by rcases Ow.form h1.spine with ⟨rfl, _⟩ | ⟨_, _, _, rfl, _⟩ <;> rfl, fun b => Hq vs b + own r b, ?_, fun b => ?_⟩
 ·simp only [Ro]
  exact ⟨vs, Hq vs, h1.spine, Aaw h1.len h1.row, fun b => rfl⟩
 ·have hle := UT (b := b) (vs := vs) fun i j u v hij hu hv hb => by
   rw [← hrow j v hv]
   exact h2.rows i j u v b hij hu hv (by rw [hrow i u hu]; exact hb)
  have hor := Nc r b
  have hhas : 0 < Hq vs b + own r b → Has r vs b := fun hp => by
   by_cases hr : blk r = some b
   ·exact .inl (by rw [hob]; exact hr)
   ·rw [Nb hr] at hp
    obtain ⟨j, u, hu, hb⟩ := Lm (vs := vs) (b := b) (by omega)
    exact .inr ⟨j, u, hu, by rw [hrow j u hu]; exact hb⟩
  refine ⟨?_, fun hp => ⟨h3 b (hhas hp), h1.lt (hhas hp)⟩⟩
  show Hq vs b + own r b ≤ 1
  by_cases hr : blk r = some b
  ·rcases Nat.eq_zero_or_pos (Hq vs b) with h0 | h0
   ·omega
   ·obtain ⟨j, u, hu, hb⟩ := Lm h0
    exact absurd (by rw [hob]; exact hr) (h2.spine j u b hu (by rw [hrow j u hu]; exact hb))
  ·rw [Nb hr]; omega
/-! ### shapes -/




end Go.Proofs.YtgpkbldlkadnjaaGreat
end
