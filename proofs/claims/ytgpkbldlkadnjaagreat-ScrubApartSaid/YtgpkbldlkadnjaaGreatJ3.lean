/- The walk over data: functions that answer something new that is owned; a string's bytes appended; zeros appended to nil. -/
import Derived.Test.YtgpkbldlkadnjaaGreatJ2
import Derived.Test.YtgpkbldlkadnjaaGreatJ1
import Derived.RangeFuncSeq
import Derived.RangeFuncLeaves
import Derived.JoinedOf
import Derived.KernelRfl
import Derived.Test.YtgpkbldlkadnjaaGreatRows
import Derived.WalkKit
import Derived.ProofKit
import Derived.ShutString
import Derived.RowKit
import Derived.OpenShut
import Derived.SizedLaws
import Derived.Deep.Matrix
import Derived.ChangeOld
import Derived.Below
import Derived.ChangeSame
import Derived.ChangeArms
import Derived.DataReads
import Derived.Test.YtgpkbldlkadnjaaGreatChecked
set_option linter.unusedVariables false
set_option linter.unusedSimpArgs false
section
namespace Go.Sl
open Go.RowKit
variable {E : En} {w w' : World} {Z Z' : Nat → Prop} {T T' : Nat → Option Value} {F : Nat → Nat} {r : Ad} {nx : Nat}
variable {P : Program} {held : List Nat} {e e' : Env} {de : DEnv} {K : D → Ad → Nat → Prop}
def MW (P : Program) (f : FuncId) (ds : List D) (g : Nat → D) (t : D) : Prop := ∀ nx, H9 P f ds [] nx (fun d r' nx' => ∃ i, nx ≤ i ∧ i < nx' ∧ d = g i ∧ r' = [(i, t)])
theorem QC {f : FuncId} {ds : List D} {g : Nat → D} {t : D} {tg : BQ K} (h : MW P f ds g t) (k : ∀ i nx', nx ≤ i → i < nx' → K (g i) ((i, t) :: r) nx') : Bo P f ds held r nx K tg :=
 ZR (h nx) fun d ro nx' _ ⟨i, h1, h2, h3, h4⟩ => by subst h3; subst h4; exact k i nx' h1 h2
theorem MW.fn {f : FuncId} {ds : List D} {e s n : Nat} {l : List D} {d : D} (h : MW P f ds (fun i => .h i) (.row e s n l)) (ho : Jv l) (hd : d = .sl n (QB l)) : ED P f ds d := by
 subst hd
 intro nx w Z T F vs ok hrs
 refine (h nx w Z T F vs ok hrs).mono fun en w' ⟨v, hv, d, r', nx', Z', T', F', o, hd, i, h1, h2, h3, h4⟩ => ?_
 subst h3; subst h4
 obtain ⟨Z2, F2, o2, z2⟩ := RT.frz i (d := .row e s n l) (Aa _ _ _) (by simpa only [I9] using ho) _ _ _ _ _ _ o
 rw [AV] at o2
 have hd2 := Nq o2.roots (Rs.keep (w' := w') (fun _ _ => rfl) z2 (fun _ _ h => h) _ _ hd)
 simp only [Du, Aa, frzR, Sl.frz] at hd2
 obtain ⟨F3, o3⟩ := o2.del (i := i)
 rw [AX] at o3
 exact ⟨v, hv, _, [], nx', Z2, T', F3, o3, hd2, rfl, rfl⟩
theorem MW.fn2 {f : FuncId} {ds : List D} {e s n : Nat} {l : List D} {a d : D} (h : MW P f ds (fun i => .tup [.h i, a]) (.row e s n l)) (ho : Jv l) (hd : d = .tup [.sl n (QB l), a]) : ED P f ds d := by
 subst hd
 intro nx w Z T F vs ok hrs
 refine (h nx w Z T F vs ok hrs).mono fun en w' ⟨v, hv, d, r', nx', Z', T', F', o, hd, i, h1, h2, h3, h4⟩ => ?_
 subst h3; subst h4
 obtain ⟨Z2, F2, o2, z2⟩ := RT.frz i (d := .row e s n l) (Aa _ _ _) (by simpa only [I9] using ho) _ _ _ _ _ _ o
 rw [AV] at o2
 have hd2 := Rs.keep (w' := w') (fun _ _ => rfl) z2 (fun _ _ h => h) _ _ hd
 simp only [Rs] at hd2
 obtain ⟨us, rfl, hus⟩ := hd2
 simp only [RsL] at hus
 obtain ⟨u, us', rfl, k1, u2, us2, rfl, k2, rfl⟩ := hus
 have k3 := Nq o2.roots (d := .h i) (by simpa only [Rs] using k1)
 simp only [Du, Aa, frzR, Sl.frz] at k3
 obtain ⟨F3, o3⟩ := o2.del (i := i)
 rw [AX] at o3
 exact ⟨_, hv, _, [], nx', Z2, T', F3, o3, by simp only [Rs]; exact ⟨_, rfl, by simp only [RsL]; exact ⟨u, _, rfl, k3, u2, _, rfl, k2, rfl⟩⟩, rfl, rfl⟩
theorem Ahi {f : FuncId} {ds : List D} {t : D} (h : ∀ (w : World) (Z : Nat → Prop) (T : Nat → Option Value) (vs : List Value), (∀ b, Z b → b < w.heap.size) → RsL w Z T ds vs →
  Calls P f vs.toArray w fun en w' => ∃ r, en = .returned r ∧ (Fr No w w' ∧ r.oneCell' = true ∧ ∀ T', ∃ G, Ro w' Z T' t r G ∧ ∀ b, G b ≤ 1 ∧ (0 < G b → w.heap.size ≤ b ∧ b < w'.heap.size))) : MW P f ds (fun i => .h i) t := by
 intro nx w Z T F vs ok hrs
 have hF : ∀ b, F b = 0 := ok.roots
 refine (h w Z T vs (fun b hb => (ok.zlt b hb).1) hrs).mono fun en w' ⟨v, he, hf, hc, hr⟩ => ?_
 obtain ⟨G, g1, g2⟩ := hr (F9 T nx v)
 have hT := FO (v := v) (ok.t nx (Nat.le_refl _))
 refine ⟨v, he, .h nx, [(nx, t)], nx + 1, Z, F9 T nx v, G, ⟨hf.wide, fun b hb => hb, fun b _ hz => .inl hz, fun b hb => ?_, hT, fun b => (g2 b).1, fun b hb => ((g2 b).2 hb).2, fun b hb => ⟨?_, ?_⟩, fun i hi => ?_, fun i u hu => ?_, Nat.le_succ _, ⟨v, G, fun _ => 0, BR _ _ _, g1, fun _ => rfl, fun b => rfl⟩⟩, ?_, nx, Nat.le_refl _, Nat.lt_succ_self _, rfl, rfl⟩
 ·rcases Nat.eq_zero_or_pos (G b) with h0 | h0
  ·omega
  ·have := ((g2 b).2 h0).1; dsimp only at hb; omega
 ·have := (ok.zlt b hb).1; have := hf.size; omega
 ·rcases Nat.eq_zero_or_pos (G b) with h0 | h0
  ·exact h0
  ·have := ((g2 b).2 h0).1; have := (ok.zlt b hb).1; omega
 ·simp only [F9]
  rw [if_neg (by omega)]
  exact ok.t i (by omega)
 ·simp only [F9] at hu
  split at hu
  ·cases hu; exact hc
  ·exact ok.cell i u hu
 ·simp only [Rs]; exact BR _ _ _
/-! ### a string's bytes appended -/
theorem AfH {t tu ty e n : Nat} {z : Value} {y : D} {s : ByteArray} {l : List D} {rr : Ad} {tg : BQ K} (hel : El P t e 1 1 z) (hz : z = .int .u8 0) (hu : P.underlying tu = some .string) (hb : n + s.size ≤ 140737488355328)
  (hh : ∀ j ∈ held, heldOk r j → heldOk rr j)
  (hy : ∀ (w : World) (Z : Nat → Prop) (T : Nat → Option Value) (F : Nat → Nat) (v : Value), RL w Z T r F → Rs w Z T y v → ∃ us G F2, Ow w e 1 v n us ∧ RoL w Z T l us G ∧ RL w Z T rr F2 ∧ ∀ b, F b = G b + own v b + F2 b)
  (k : K (.h nx) ((nx, .row e 1 (n + s.size) (l ++ (Gp s).map .sc)) :: rr) (nx + 1)) : Et P #[t, tu] ty y (.sc (.string s)) held r nx K tg := by
 intro E w Z T F u v h hu' hv
 obtain ⟨us, G, F2, a1, a2, a3, a4⟩ := hy w Z T F u h.roots hu'
 simp only [Rs] at hv
 subst hv
 obtain ⟨v', w', hrun, hK⟩ := AiK (P := P) (K := fun v' w' => Ow w' e 1 v' (n + s.size) (us ++ Gp s) ∧ Fr (fun b => u.ownBlock = some b) w w' ∧ (v'.ownBlock = u.ownBlock ∨ ∃ b, v'.ownBlock = some b ∧ w.heap.size ≤ b ∧ b < w'.heap.size)) (ty := ty) (tg := .mk _) hel hz hu a1 s hb (fun v' w' c1 c2 c3 => ⟨c1, c2, c3⟩)
 obtain ⟨c1, c2, c3⟩ := hK
 rw [Ow.own a1] at c2 c3
 rw [Ow.own c1] at c3
 have hsame : ∀ b, b < w.heap.size → own u b = 0 → w'.heap[b]? = w.heap[b]? := fun b hb ho => c2.same b hb fun e => by rw [Sz.2 e] at ho; cases ho
 have hT := FO (v := v') (h.t nx (Nat.le_refl _))
 have hc : v'.oneCell' = true := by rcases Ow.form c1 with ⟨rfl, _⟩ | ⟨_, _, _, rfl, _⟩ <;> rfl
 have hzs : ∀ b, Z b → w'.heap[b]? = w.heap[b]? := fun b hb => by
  have h5 := h.zlt b hb; have := a4 b
  exact hsame b h5.1 (by omega)
 have hro : Ro w' Z (F9 T nx v') (.row e 1 (n + s.size) (l ++ (Gp s).map .sc)) v' (fun b => G b + own v' b) := by
  simp only [Ro]
  refine ⟨us ++ Gp s, G, c1, ?_, fun b => rfl⟩
  have e1 := RoL.keep (w' := w') (fun _ h => h) hT _ _ _ (fun b hb => by
   rcases hb with hb | hb
   ·have := a4 b; have := h.one b; have := Pz u b
    exact hsame b (h.lt b (by omega)) (by omega)
   ·exact hzs b hb) a2
  exact e1.append (RoL.of (RsL.sc _))
 obtain ⟨o1, o2⟩ := h.reown (held := held) a4 a3 hh c2 c3 hc hro
 exact ⟨v', w', hrun, _, _, _, _, _, _, o1, o2, by simp only [Rs]; exact BR _ _ _, k⟩
theorem AgD {i e s n : Nat} {l : List D} (hg : BL r i = some (.row e s n l)) : ∀ (w : World) (Z : Nat → Prop) (T : Nat → Option Value) (F : Nat → Nat) (v : Value), RL w Z T r F → Rs w Z T (.h i) v → ∃ us G F2, Ow w e s v n us ∧ RoL w Z T l us G ∧ RL w Z T (GY r i) F2 ∧ ∀ b, F b = G b + own v b + F2 b := fun w Z T F v hr hv => by
 obtain ⟨u, F1, F2, h1, h2, h3, h4, _⟩ := hr.get hg
 simp only [Rs] at hv
 rw [hv] at h1
 cases h1
 simp only [Ro] at h2
 obtain ⟨us, G, a1, a2, a3⟩ := h2
 exact ⟨us, G, F2, a1, a2, h4, fun b => by rw [h3, a3]⟩
theorem Ahq {t tu ty e n i : Nat} {z : Value} {s : ByteArray} {l : List D} {tg : BQ K} (hel : El P t e 1 1 z) (hz : z = .int .u8 0) (hu : P.underlying tu = some .string) (hg : BL r i = some (.row e 1 n l)) (hb : n + s.size ≤ 140737488355328) (hh : i ∉ held)
  (k : K (.h nx) ((nx, .row e 1 (n + s.size) (l ++ (Gp s).map .sc)) :: GY r i) (nx + 1)) : Et P #[t, tu] ty (.h i) (.sc (.string s)) held r nx K tg :=
 AfH hel hz hu hb (fun j hj ho => UY (fun e => hh (by rw [e]; exact hj)) ho) (AgD hg) k
theorem AcQ (s : List UInt8) : (Gp ⟨s.toArray⟩).map D.sc = s.map bD := by
 simp [Gp, bD, U8]
theorem AdI {t ti ty e s bytes : Nat} {z : Value} {m : Nat} {tg : BQ K} (hel : El P t e s bytes z) (hu : P.underlying ti = some (.int .i64)) (h0 : 0 < m) (hm : m ≤ 9223372036854775807) (hb : m * bytes ≤ 140737488355328)
  (k : ∀ l : List D, l.length = m * s → K (.h nx) ((nx, .row e s m l) :: r) (nx + 1)) : Et P #[t, ti] ty (.sc (.slice none 0 0)) (.sc (.int .i64 m)) held r nx K tg := by
 intro E w Z T F u v h hu' hv
 simp only [Rs] at hu' hv
 subst hu'
 subst hv
 obtain ⟨v', w', hrun, hK⟩ := AfO (P := P) (w := w) (K := fun v' w' => ∃ cs, Ow w' e s v' m cs ∧ Fr No w w' ∧ ∃ b, v'.ownBlock = some b ∧ w.heap.size ≤ b ∧ b < w'.heap.size) (ty := ty) (tg := .mk _) hel hu h0 hm hb (fun v' w' cs c1 c2 c3 => ⟨cs, c1, c2, c3⟩)
 obtain ⟨cs, c1, c2, c3⟩ := hK
 rw [Ow.own c1] at c3
 have hc : v'.oneCell' = true := by rcases Ow.form c1 with ⟨rfl, _⟩ | ⟨_, _, _, rfl, _⟩ <;> rfl
 have hro : Ro w' Z (F9 T nx v') (.row e s m (cs.map .sc)) v' (fun b => 0 + own v' b) := by
  simp only [Ro]
  exact ⟨cs, fun _ => 0, c1, RoL.of (RsL.sc _), fun b => rfl⟩
 obtain ⟨o1, o2⟩ := h.reown (held := held) (rr := r) (G := fun _ => 0) (F2 := F) (v := .slice none 0 0) (v' := v') (w' := w') (d' := .row e s m (cs.map .sc)) (fun b => by simp [own, blk]) h.roots (fun j _ ho => ho) (c2.mono fun b _ h => h.elim) (.inr c3) hc hro
 exact ⟨v', w', hrun, _, _, _, _, _, _, o1, o2, by simp only [Rs]; exact BR _ _ _, k _ (by rw [List.length_map]; exact c1.1)⟩
end Go.Sl
end
section
namespace Go.Sl
open Go.RowKit
variable {E : En} {w w' : World} {Z Z' : Nat → Prop} {T T' : Nat → Option Value} {F : Nat → Nat} {r : Ad} {nx : Nat}
variable {P : Program} {held : List Nat} {e e' : Env} {de : DEnv} {K : D → Ad → Nat → Prop}
theorem AbR (e s : TypeId) {Q : D → Ad → Nat → Prop} {t t' : BQ Q} (k : D8 (.h nx) ((nx, .row e s 0 []) :: r) (nx + 1) Q t') : D8 (.sc (.slice none 0 0)) r nx Q t := by
 obtain ⟨d2, r2, nx2, hv, hq⟩ := k
 refine ⟨d2, r2, nx2, fun E w Z T F v h hd => ?_, hq⟩
 simp only [Rs] at hd
 subst hd
 have hT := FO (v := Value.slice none 0 0) (h.t nx (Nat.le_refl _))
 obtain ⟨o1, o2⟩ := h.name (held := []) (u := .slice none 0 0) (r' := (nx, .row e s 0 []) :: r) (F' := F) rfl (fun _ => rfl) ⟨_, fun _ => 0, F, BR _ _ _, by
  simp only [Ro]
  exact ⟨[], fun _ => 0, Ow.nil _ _ _, by simp only [RoL]; exact ⟨trivial, fun _ => trivial⟩, fun b => by simp [own, blk]⟩, h.roots.keep (fun _ h => h) hT (fun _ _ => rfl), fun b => by simp⟩
 obtain ⟨Z2, T2, F2, o3, g3, hd3⟩ := hv E w Z _ F _ o1 (by simp only [Rs]; exact BR _ _ _)
 exact ⟨Z2, T2, F2, o3, ⟨g3.zs, g3.zz, fun i u hi => g3.tt i u (hT i u hi), fun i hi => by cases hi⟩, hd3⟩
def SL : D → D
 | .sc (.slice none 0 0) => .sl 0 []
 | d => d
def nilT : D → D
 | .tup l => .tup (l.map SL)
 | d => SL d
theorem Zr {d : D} {v : Value} (h : Rs w Z T d v) : Rs w Z T (SL d) v := by
 unfold SL
 split
 ·simp only [Rs] at h ⊢
  exact ⟨none, 0, h, Nat.le_refl _, by simp, by simp only [Fz]⟩
 ·exact h
theorem Zq : ∀ {l : List D} {us : List Value}, RsL w Z T l us → RsL w Z T (l.map SL) us
 | [], us, h => h
 | d :: l, us, h => by
  simp only [RsL] at h
  obtain ⟨u, us', rfl, h1, h2⟩ := h
  simp only [List.map_cons, RsL]
  exact ⟨u, us', rfl, Zr h1, Zq h2⟩
theorem Gh {d : D} {Q : D → Ad → Nat → Prop} {t t' : BQ Q} (k : D8 (nilT d) r nx Q t') : D8 d r nx Q t := by
 obtain ⟨d2, r2, nx2, hv, hq⟩ := k
 refine ⟨d2, r2, nx2, fun E w Z T F v ok hd => hv E w Z T F v ok ?_, hq⟩
 cases d with
 | tup l =>
  simp only [nilT]
  simp only [Rs] at hd ⊢
  obtain ⟨us, h1, h2⟩ := hd
  exact ⟨us, h1, Zq h2⟩
 | _ => exact Zr hd
theorem OQ {f : FuncId} {ds : List D} {t t' : BQ K} (k : Bo P f (ds.map SL) held r nx K t') : Bo P f ds held r nx K t := fun E w Z T F vs ok hrs => k E w Z T F vs ok (Zq hrs)
end Go.Sl
end
section
namespace Go.Sl
open Go.RowKit
def Iter (P : Program) (g : FuncId) (lb : Array Value) (encs : Nat → Value) (N : Nat) (Kp : World → Prop) : Prop :=
 ∀ (m l : Nat) (J : Nat → World → Prop) (W : World), (∀ j W, J j W → Kp W) → (∀ j W, J j W → J j W.drew) →
  (∀ j W1, J j W1 → j < N → YieldAt Fence.wide (m - 1) P l #[encs j] W1 fun e W' => e = .returned (.bool true) ∧ J (j + 1) W') → J 0 W →
  CallsIn Fence.wide m P g (#[.func (.yield l) #[] #[]] ++ lb) W fun e W' => (∃ v, e = .returned v) ∧ J N W'
variable {P : Program} {n : Nat} {E : En} {w : World} {Z : Nat → Prop} {T : Nat → Option Value} {F : Nat → Nat} {r : Ad} {nx : Nat} {e : Env} {de : DEnv}
theorem Ok.start (h : Ok E w Z T F r nx) : Ok ⟨w, Z, T, F, nx⟩ w Z T F r nx :=
 ⟨Fr.refl _ _, fun _ h => h, fun _ _ h => .inl h, fun _ _ => Nat.le_refl _, fun _ _ h => h, h.one, h.lt, h.zlt, h.t, h.cell, Nat.le_refl _, h.roots⟩
theorem Ok.join {w2 : World} {Z2 : Nat → Prop} {T2 : Nat → Option Value} {F2 : Nat → Nat} {r2 : Ad} {nx2 : Nat} (h : Ok E w Z T F r nx) (k : Ok ⟨w, Z, T, F, nx⟩ w2 Z2 T2 F2 r2 nx2) : Ok E w2 Z2 T2 F2 r2 nx2 := by
 have hs := h.fr.size
 refine ⟨h.fr.step k.fr fun b hb hF => ?_, fun b hb => k.z b (h.z b hb), fun b hb hz => ?_, fun b hb => ?_, fun i u hu => k.names i u (h.names i u hu), k.one, k.lt, k.zlt, k.t, k.cell, Nat.le_trans h.ge k.ge, k.roots⟩
 ·have := h.fo b hb; dsimp only at hF; omega
 ·rcases k.zo b (by dsimp only; omega) hz with hz | hF
  ·exact h.zo b hb hz
  ·have := h.fo b hb; dsimp only at hF; exact .inr (by omega)
 ·have h1 := k.fo b (by dsimp only; omega)
  have h2 := h.fo b hb
  dsimp only at h1
  omega
theorem Ok.turn (h : Ok E w Z T F r nx) {l : Nat} (o : Obj) (hF : F l = 0) (hZ : ¬ Z l) : Ok ⟨w.putObj l o, Z, T, F, nx⟩ (w.putObj l o) Z T F r nx := by
 refine ⟨Fr.refl _ _, fun _ h => h, fun _ _ h => .inl h, fun _ _ => Nat.le_refl _, fun _ _ h => h, h.one, fun b hb => by rw [World.putObj_size]; exact h.lt b hb, fun b hb => by rw [World.putObj_size]; exact h.zlt b hb, h.t, h.cell, Nat.le_refl _, ?_⟩
 refine h.roots.keep (fun _ h => h) (fun _ _ h => h) fun b hb => World.putObj_heap_other ?_
 rintro rfl
 rcases hb with hb | hb
 ·omega
 ·exact hZ hb
theorem Ok.allocX (h : Ok E w Z T F r nx) (o : Obj) : Ok E (w.alloc o) Z T F r nx := by
 have hlt : ∀ b, b < w.heap.size → (w.alloc o).heap[b]? = w.heap[b]? := fun b hb => Below.heap_alloc w o b hb
 refine ⟨h.fr.then (Fr.alloc w o), h.z, h.zo, h.fo, h.names, h.one, fun b hb => by have := h.lt b hb; simp; omega, fun b hb => ⟨by have := (h.zlt b hb).1; simp; omega, (h.zlt b hb).2⟩, h.t, h.cell, h.ge, ?_⟩
 refine h.roots.keep (fun _ h => h) (fun _ _ h => h) fun b hb => hlt b ?_
 rcases hb with hb | hb
 ·exact h.lt b hb
 ·exact (h.zlt b hb).1
def O3 (K : KD) : Exit → KD
 | .normal => K
 | _ => fun _ _ _ => False
theorem AeE {c : Code} {m : MC} {k l : Nat} (ht : trC P n c = some m) (hw : m.whole = true) (hd : Kr c = true) {a : Act} (hs : Sim n e a) (ho : Ok E w Z T F r nx) (he : DZ w Z T e de) {Q : KD} (hx : m.xwp P (O3 Q) de r nx)
  {Q' : Exit → Act → World → Prop} (hq : ∀ e' a' w' Z' T' F' de' r' nx', Sim n e' a' → Ok E w' Z' T' F' r' nx' → DZ w' Z' T' e' de' → Q de' r' nx' → Q' .normal a' w') (hQ : ¬ LetsOut Q') : c.wpIn (Rnd l) k P Q' a w := by
 refine QQ c m ht hw hd (QOk E (O3 Q)) Q' e a w hQ hs ?_ (MC.xwp_sound m ⟨Z, T, F, ho, he⟩ hx)
 rintro x e' a' w' hs' ⟨de', r', nx', ⟨Z', T', F', ho', he'⟩, hq'⟩
 cases x with
 | normal => exact hq e' a' w' Z' T' F' de' r' nx' hs' ho' he' hq'
 | _ => exact hq'.elim
theorem AbY {c : Code} {m : MC} (ht : trC P n c = some m) {a : Act} (hs : Sim n e a) (ho : Ok E w Z T F r nx) (he : DZ w Z T e de) {Q : KD} (hx : m.xwp P (O3 Q) de r nx)
  {Q' : Exit → Act → World → Prop} (hq : ∀ e' a' w' Z' T' F' de' r' nx', Sim n e' a' → Ok E w' Z' T' F' r' nx' → DZ w' Z' T' e' de' → Q de' r' nx' → Q' .normal a' w') : c.wp P Q' a w := by
 refine JE c m ht (QOk E (O3 Q)) Q' e a w hs ?_ (MC.xwp_sound m ⟨Z, T, F, ho, he⟩ hx)
 rintro x e' a' w' hs' ⟨de', r', nx', ⟨Z', T', F', ho', he'⟩, hq'⟩
 cases x with
 | normal => exact hq e' a' w' Z' T' F' de' r' nx' hs' ho' he' hq'
 | _ => exact hq'.elim
theorem Ach {f : FuncId} {fn : Func} {c : Code} {args : Array Value} {R : Ending → World → Prop} (hf : P.funcs[f]? = some fn) (hb : fn.body = some c)
  (h : c.wp P (bodyPostM Fence.wide 0 P fn R) { tmps := args ++ Array.replicate (fn.ntmps - args.size) undef, defers := [] } w) : Calls P f args w R :=
 callsIn_wide.1 (callsIn_of_wp_marks (F := Fence.wide) (n := 0) hf hb trivial (wpIn_wide.2 h) rfl)
theorem sim0 {vs : List Value} {m : Nat} (h : vs.length ≤ m) : Sim m (AA 0 vs) { tmps := vs.toArray ++ Array.replicate (m - vs.toArray.size) undef, defers := [] } := by
 refine ⟨by simp; omega, rfl, fun t v ht => ?_⟩
 obtain ⟨_, h2⟩ := Rx 0 vs t v ht
 simp only [Nat.sub_zero] at h2
 have hlt := (List.getElem?_eq_some_iff.1 h2).1
 rw [Array.getElem?_append_left (by simpa using hlt)]
 simpa using h2
def Ahe (r : Ad) : D → D
 | .fn f a b => .fn f (a.map (Du r)) (b.map (Du r))
 | d => d
theorem Ady {d : D} {Q : D → Ad → Nat → Prop} {t t' : BQ Q} (k : D8 (Ahe r d) r nx Q t') : D8 d r nx Q t := by
 obtain ⟨d2, r2, nx2, hv, hq⟩ := k
 refine ⟨d2, r2, nx2, fun E w Z T F v ok hd => hv E w Z T F v ok ?_, hq⟩
 cases d with
 | fn f a b =>
  simp only [Ahe]
  simp only [Rs] at hd ⊢
  obtain ⟨us, vs, h1, h2, h3⟩ := hd
  exact ⟨us, vs, h1, RsL.res ok.roots h2, RsL.res ok.roots h3⟩
 | _ => exact hd
theorem DZ.two {w : World} {Z : Nat → Prop} {T : Nat → Option Value} {e : Env} {de : DEnv} (h : DZ w Z T e de) {s t : Nat} {a b : D} (h1 : Bg de s = some a) (h2 : Bg de t = some b) : DZ w Z T e [(s, a), (t, b)] := fun q d hd => by
 simp only [JJ] at hd
 split at hd
 ·rename_i e1; cases hd; subst e1; exact h _ _ h1
 ·split at hd
  ·rename_i e1; cases hd; subst e1; exact h _ _ h2
  ·simp [Bg] at hd
theorem Ok.close (h : Ok E w Z T F r nx) {l : Nat} (o : Obj) (hF : F l = 0) (hZ : ¬ Z l) (hl : E.w.heap.size ≤ l) : Ok E (w.putObj l o) Z T F r nx := by
 have k := h.turn o hF hZ
 refine ⟨⟨h.fr.os, h.fr.tape, h.fr.output, by rw [World.putObj_size]; exact h.fr.size, fun b hb hm => ?_⟩, h.z, h.zo, h.fo, h.names, k.one, k.lt, k.zlt, k.t, k.cell, h.ge, k.roots⟩
 rw [World.putObj_heap_other (by omega)]
 exact h.fr.same b hb hm
theorem Acy {e' : TypeId} {v : Value} {i : Nat} {d : D} {u : Value} (hr : RL w Z T r F) (hg : BL r i = some (.box e' [d])) (hu : Rs w Z T (.hp i 0) u) : ∃ b x Fx, u = .pointer (some ⟨b, 0, none⟩) ∧ w.cell? ⟨b, 0, none⟩ = some x ∧ Ro w Z T d x Fx := by
 obtain ⟨v', F1, F2, h1, h2, _⟩ := hr.get hg
 simp only [Ro] at h2
 obtain ⟨b, us, F', rfl, h3, h4, _⟩ := h2
 simp only [RoL] at h4
 obtain ⟨x, us', G1, G2, rfl, h5, ⟨rfl, _⟩, _⟩ := h4
 simp only [Rs] at hu
 obtain ⟨v2, b2, k1, k2, rfl⟩ := hu
 rw [h1] at k1
 cases k1
 simp only [blk, Option.some.injEq] at k2
 subst k2
 exact ⟨b, x, G1, rfl, by simp [World.cell?, h3], h5⟩
theorem Aie {p : Nat} {g : Operand} {assign body : Code} {ma mb : MC} {Q' : Exit → Act → World → Prop} {a : Act} (hs : Sim n e a) (hok : Ok E w Z T F r nx) (he : DZ w Z T e de) {gf : FuncId} {lb : Array Value} (hg : a.eval g = .func (.func gf) #[] lb)
  (eg : ∀ args w, (callFunc gf args).run P w = .ok (.enter gf args) w) (hp : p < n) (ta : trC P n assign = some ma) (wa : ma.whole = true) (da : Kr assign = true) (tb : trC P n body = some mb) (wb : mb.whole = true) (db : Kr body = true)
  {encs : Nat → Value} {N : Nat} {Kp : World → Prop} (hit : Iter P gf lb encs N Kp) (J : Nat → Ad → Nat → Prop) (dx : Nat → D) (hJ0 : J 0 r nx) (hKp : ∀ W' : World, (∀ b, Z b → W'.heap[b]? = w.heap[b]?) → Kp W') (hdx : ∀ j, j < N → Rs w Z T (dx j) (encs j))
  (hround : ∀ j r' nx', J j r' nx' → j < N → ma.xwp P (O3 fun de1 r1 nx1 => mb.xwp P (O3 fun _ r2 nx2 => ∃ r3, RT r2 r3 ∧ J (j + 1) r3 nx2) de1 r1 nx1) (CQ de p (dx j)) r' nx')
  (hdone : ∀ W Z' T' F' r' nx' B, Ok E W Z' T' F' r' nx' → DZ W Z' T' e de → J N r' nx' → w.heap.size ≤ B → W.heap[B]? = some (.deferred (some [])) → F' B = 0 → ¬ Z' B → Q' .normal { a with defers := { target := .collected B, args := #[] } :: a.defers } W) :
  (Code.rangeFunc g #[p] assign body).wp P Q' a w := by
 refine (wpIn_wide (n := 0)).1 (wpIn_rangeFunc fun fn hfn => ?_)
 obtain ⟨rec, hrec⟩ : ∃ rec : LoopState → Option Code → Loop, rec = fun st pe => { state := st, pending := pe, fn, tmps := a.tmps, params := #[p], assign, body, defers := w.heap.size } := ⟨_, rfl⟩
 obtain ⟨W1, hW1⟩ : ∃ W1, (w.alloc (.deferred (some []))).alloc (.loop (rec .ready none)) = W1 := ⟨_, rfl⟩
 have hok1 : Ok E W1 Z T F r nx := by rw [← hW1]; exact (hok.allocX _).allocX _
 have hL1 : W1.heap[w.heap.size + 1]? = some (.loop (rec .ready none)) := by
  rw [← hW1]; have := heap_alloc_new (w.alloc (.deferred (some []))) (.loop (rec .ready none)); rwa [World.size_alloc] at this
 have hK1 : W1.heap[w.heap.size]? = some (.deferred (some [])) := by
  rw [← hW1, Below.heap_alloc _ _ _ (by simp)]; exact heap_alloc_new w _
 have hs1 : W1.heap.size = w.heap.size + 2 := by rw [← hW1]; simp
 have hold : ∀ b, b < w.heap.size → W1.heap[b]? = w.heap[b]? := fun b hb => by
  rw [← hW1, Below.heap_alloc _ _ _ (by simp; omega), Below.heap_alloc _ _ _ hb]
 have hF0 : ∀ b, w.heap.size ≤ b → F b = 0 := fun b hb => by
  cases hz : F b with
  | zero => rfl
  | succ k => have := hok.lt b (by omega); omega
 have hZ0 : ∀ b, w.heap.size ≤ b → ¬ Z b := fun b hb hz => by have := (hok.zlt b hz).1; omega
 -- the invariant between rounds
 obtain ⟨I, hI⟩ : ∃ I : Nat → World → Prop, I = fun j W => ∃ Z' T' F' r' nx', J j r' nx' ∧ Ok ⟨W1, Z, T, F, nx⟩ W Z' T' F' r' nx' := ⟨_, rfl⟩
 have keepBlk : ∀ {W : World} {Z' T' F' r' nx'}, Ok ⟨W1, Z, T, F, nx⟩ W Z' T' F' r' nx' → ∀ b, b < W1.heap.size → F b = 0 → W.heap[b]? = W1.heap[b]? := fun h b hb h0 => h.fr.same b hb (by dsimp only; omega)
 have away : ∀ {W : World} {Z' T' F' r' nx'}, Ok ⟨W1, Z, T, F, nx⟩ W Z' T' F' r' nx' → ∀ b, w.heap.size ≤ b → b < W1.heap.size → F' b = 0 ∧ ¬ Z' b := fun h b hb hlt => by
  have h1 := h.fo b hlt
  have h2 := hF0 b hb
  dsimp only at h1
  refine ⟨by omega, fun hz => ?_⟩
  rcases h.zo b hlt hz with h3 | h3
  ·exact hZ0 b hb h3
  ·dsimp only at h3; omega
 have keepEnv : ∀ {W : World} {Z' T' F' r' nx'}, Ok ⟨W1, Z, T, F, nx⟩ W Z' T' F' r' nx' → DZ W Z' T' e de := fun h => he.keep (fun b hb => by
   have h1 := hok.zlt b hb
   rw [keepBlk h b (by omega) h1.2, hold b h1.1]) h.z h.names
 refine ⟨w.heap.size + 1, [{ target := .collected w.heap.size, args := #[] }], W1, { target := .fn (.func gf) lb, args := #[.func (.yield (w.heap.size + 1)) #[] #[]] }, W1, gf,
  #[.func (.yield (w.heap.size + 1)) #[] #[]] ++ lb, W1, ?_, ?_, fun _ _ => trivial, ?_, fun h => by simp [Fence.wide] at h, ?_⟩
 ·rw [← hW1, hrec]; exact run_enterLoop_outer _ _ _ _ _
 ·simp only [resolve, hg]
  simp [go_sem]
 ·simp [invoke, go_sem, eg]
 refine (hit (0 - 1) (w.heap.size + 1) I W1 ?_ ?_ ?_ ?_).mono ?_
 ·intro j W hi
  rw [hI] at hi
  obtain ⟨Z', T', F', r', nx', hj, ho⟩ := hi
  refine hKp W fun b hb => ?_
  have h1 := hok.zlt b hb
  rw [keepBlk ho b (by omega) h1.2, hold b h1.1]
 ·intro j W hi
  rw [hI] at hi ⊢
  obtain ⟨Z', T', F', r', nx', hj, ho⟩ := hi
  exact ⟨Z', T', F', r', nx', hj, ho.drew⟩
 ·-- one round
  intro j W hi hlt
  rw [hI] at hi
  obtain ⟨Z', T', F', r', nx', hj, ho⟩ := hi
  have hsz := ho.fr.size
  have hrl : W.heap[w.heap.size + 1]? = some (.loop (rec .ready none)) := (keepBlk ho _ (by omega) (hF0 _ (by omega))).trans hL1
  have hy := run_yield (P := P) (args := #[encs j]) hrl (by rw [hrec]; rfl)
  rw [hrec] at hy
  refine ⟨fn, _, assign, body, hy, roundIn_of_wpIn hfn ?_⟩
  have hsim : Sim n (BZ e p (encs j)) { tmps := ((#[p] : Array Tmp).zip #[encs j]).foldl (fun t (p, v) => t.setIfInBounds p v) a.tmps, defers := [] } := by
   have h1 := hs.put hp (encs j)
   have h2 := hs.defers
   refine ⟨?_, rfl, fun t v ht => ?_⟩
   ·simpa [Act.put] using h1.size
   ·simpa [Act.put] using h1.val t v ht
  have hrsj : Rs W Z' T' (dx j) (encs j) := Rs.keep (fun b hb => by
   have h1 := hok.zlt b hb
   rw [keepBlk ho b (by omega) h1.2, hold b h1.1]) ho.z ho.names _ _ (hdx j hlt)
  refine AeE ta wa da hsim ho ((keepEnv ho).put hrsj p) (hround j r' nx' hj hlt) ?_ ?_
  ·-- the body
   intro e1 a1 Wa Za Ta Fa de1 r1 nx1 hs1' ho1 he1 hb1
   have hsza := ho1.fr.size
   dsimp only at hsza
   have hra : Wa.heap[w.heap.size + 1]? = some (.loop (rec .ready none)) := (keepBlk ho1 _ (by omega) (hF0 _ (by omega))).trans hL1
   obtain ⟨fa, za⟩ := away ho1 (w.heap.size + 1) (by omega) (by omega)
   refine ⟨_, run_beginRound hra (by rw [hrec]), ?_⟩
   have ho2 := ho1.turn (.loop { rec .ready none with state := .busy }) fa za
   have he2 : DZ (Wa.putObj (w.heap.size + 1) (.loop { rec .ready none with state := .busy })) Za Ta e1 de1 := he1.keep (fun b hb => World.putObj_heap_other (by rintro rfl; exact za hb)) (fun _ h => h) (fun _ _ h => h)
   refine AeE tb wb db hs1' ho2 he2 hb1 ?_ ?_
   ·intro e2 a2 Wc Zd Tc Fd de2 rd nx2 hs2 ho3' he3 hj3'
    obtain ⟨r2, hrt, hj3⟩ := hj3'
    obtain ⟨Zc, Fc, ho3, _⟩ := hrt _ _ _ _ _ _ ho3'
    have hszc := ho3.fr.size
    simp only [World.putObj_size] at hszc
    have hbusy : Wc.heap[w.heap.size + 1]? = some (.loop { rec .ready none with state := .busy }) := by
     rw [ho3.fr.same _ (by simp only [World.putObj_size]; omega) (by dsimp only; omega)]
     exact World.putObj_heap_same (by omega)
    have hend := run_endRound (P := P) none hbusy
    refine ⟨_, _, hend, rfl, ?_⟩
    have fc : Fc (w.heap.size + 1) = 0 := by have := ho3.fo (w.heap.size + 1) (by simp only [World.putObj_size]; omega); dsimp only at this; omega
    have zc : ¬ Zc (w.heap.size + 1) := fun hz => by
     rcases ho3.zo _ (by simp only [World.putObj_size]; omega) hz with h3 | h3
     ·exact za h3
     ·dsimp only at h3; omega
    rw [hI]
    refine ⟨Zc, Tc, Fc, r2, nx2, hj3, ?_⟩
    have ho4 := ho3.turn (.loop { ({ rec .ready none with state := .busy } : Loop) with state := if (none : Option Code).isNone then .ready else .done, pending := none }) fc zc
    refine ⟨⟨?_, ?_, ?_, ?_, fun b hb hm => ?_⟩, fun b hb => ho3.z b (ho1.z b hb), fun b hb hz => ?_, fun b hb => ?_, fun i u hu => ho3.names i u (ho1.names i u hu), ho4.one, ho4.lt, ho4.zlt, ho4.t, ho4.cell, Nat.le_trans ho1.ge ho3.ge, ho4.roots⟩
    ·exact ho3.fr.os.trans ho1.fr.os
    ·exact ho3.fr.tape.trans ho1.fr.tape
    ·exact ho3.fr.output.trans ho1.fr.output
    ·simp only [World.putObj_size]; omega
    ·dsimp only at hb hm ⊢
     by_cases hbr : b = w.heap.size + 1
     ·subst hbr
      rw [World.putObj_heap_same (by omega), hL1, hrec]
      rfl
     ·rw [World.putObj_heap_other hbr, ho3.fr.same b (by simp only [World.putObj_size]; omega) (by have := ho1.fo b hb; dsimp only at this ⊢; omega), World.putObj_heap_other hbr]
      exact ho1.fr.same b hb hm
    ·dsimp only at hb
     rcases ho3.zo b (by simp only [World.putObj_size]; omega) hz with h3 | h3
     ·exact ho1.zo b hb h3
     ·have := ho1.fo b hb; dsimp only at this h3; exact .inr (by dsimp only; omega)
    ·dsimp only at hb
     have h5 := ho3.fo b (by simp only [World.putObj_size]; omega)
     have h6 := ho1.fo b hb
     dsimp only at h5 h6 ⊢
     omega
   ·rintro ⟨a, w, h⟩; exact h
  ·rintro ⟨a, w, h⟩; exact h
 ·rw [hI]
  exact ⟨Z, T, F, r, nx, hJ0, hok1.start⟩
 ·-- behind the iterator
  rintro en W2 ⟨⟨v, rfl⟩, hi⟩
  rw [hI] at hi
  obtain ⟨Z', T', F', r', nx', hj, ho⟩ := hi
  have hsz := ho.fr.size
  dsimp only at hsz
  have hrl : W2.heap[w.heap.size + 1]? = some (.loop (rec .ready none)) := (keepBlk ho _ (by omega) (hF0 _ (by omega))).trans hL1
  have hend := run_endLoop (P := P) hrl (by rw [hrec]; simp)
  rw [hrec] at hend
  refine ⟨none, _, hend, ?_⟩
  obtain ⟨f1, z1⟩ := away ho (w.heap.size + 1) (by omega) (by omega)
  obtain ⟨f2, z2⟩ := away ho w.heap.size (by omega) (by omega)
  have hoE := hok1.join ho
  have hsE := hok.fr.size
  obtain ⟨o4, ho4e⟩ : ∃ o4 : Obj, o4 = .loop { (rec .ready none) with state := .exhausted } := ⟨_, rfl⟩
  have ho4 := ho.turn o4 f1 z1
  have hfin : Ok E (W2.putObj (w.heap.size + 1) o4) Z' T' F' r' nx' := by
   refine ⟨⟨hoE.fr.os, hoE.fr.tape, hoE.fr.output, by simp only [World.putObj_size]; exact hoE.fr.size, fun b hb hm => ?_⟩, hoE.z, hoE.zo, hoE.fo, hoE.names, ho4.one, ho4.lt, ho4.zlt, ho4.t, ho4.cell, hoE.ge, ho4.roots⟩
   rw [World.putObj_heap_other (by omega)]
   exact hoE.fr.same b hb hm
  have hD : (W2.putObj (w.heap.size + 1) o4).heap[w.heap.size]? = some (.deferred (some [])) := by
   rw [World.putObj_heap_other (by omega)]
   exact (keepBlk ho _ (by omega) (hF0 _ (by omega))).trans hK1
  have heE : DZ (W2.putObj (w.heap.size + 1) o4) Z' T' e de := (keepEnv ho).keep (fun b hb => World.putObj_heap_other (by rintro rfl; exact z1 hb)) (fun _ h => h) (fun _ _ h => h)
  have := hdone _ Z' T' F' r' nx' w.heap.size hfin heE hj (Nat.le_refl _) hD f2 z2
  rw [ho4e, hrec] at this
  exact this
end Go.Sl
end
section
namespace Go.Sl
open Go.RowKit
variable {E : En} {w w' : World} {Z Z' : Nat → Prop} {T T' : Nat → Option Value} {F : Nat → Nat} {r : Ad} {nx : Nat}
theorem RT.nilrow (p off : Nat) (e s : TypeId) {c : D} {l : List D} (hp : BL r p = some c) (hk : kids c = some l) (hl : l[off]? = some (.sc (.slice none 0 0))) : RT r (EI r p (Dx c (l.set off (.row e s 0 [])))) := fun E w Z T F nx h => by
 obtain ⟨u, G1, G2, g1, g2, g3, g4, g5⟩ := h.roots.get hp
 obtain ⟨us, K1, K2, k1, k2, k3⟩ := g2.kid hk
 obtain ⟨x, X1, X2, x1, x2, x3, x4⟩ := k1.get hl
 simp only [Ro, Rs] at x2
 obtain ⟨rfl, x6⟩ := x2
 have hset : us.set off (.slice none 0 0) = us := by
  obtain ⟨hlt, he⟩ := List.getElem?_eq_some_iff.1 x1
  rw [← he]
  exact List.set_getElem_self hlt
 have hro0 : Ro w Z T (.row e s 0 []) (.slice none 0 0) (fun _ => 0) := by
  simp only [Ro]
  exact ⟨[], fun _ => 0, Ow.nil _ _ _, by simp only [RoL]; exact ⟨trivial, fun _ => trivial⟩, fun b => by simp [own, blk]⟩
 have hro := k3 (l.set off (.row e s 0 [])) _ (by have := x4 (.row e s 0 []) (.slice none 0 0) _ hro0; rw [hset] at this; exact this)
 have hrl := g5 w Z T _ u _ (fun _ _ => rfl) (fun _ h => h) (fun _ _ h => h) g1 hro
 refine ⟨Z, F, h.swapR (fun _ h => h) (fun b hb => .inl hb) (fun b => Nat.le_refl _) (fun b hb => (h.zlt b hb).2) (hrl.cast fun b => ?_), fun _ h => h⟩
 show F b = 0 + X2 b + K2 b + G2 b
 have := g3 b; have := k2 b; have := x3 b; have := x6 b
 omega
def nilC : D → D
 | .sl n l => .sl n (l.map SL)
 | d => d
theorem Aio {d : D} {v : Value} (h : Rs w Z T d v) : Rs w Z T (nilC d) v := by
 cases d with
 | sl n l =>
  simp only [nilC, Rs] at h ⊢
  obtain ⟨A, cap, h1, h2, h3, h4⟩ := h
  refine ⟨A, cap, h1, h2, ?_, Fz.mk fun j d hd => ?_⟩
  ·first | exact h3 | simpa using h3
  ·rw [List.getElem?_map] at hd
   obtain ⟨d', hd', rfl⟩ := Option.map_eq_some_iff.1 hd
   obtain ⟨a, u, g1, g2, g3, g4⟩ := h4.get hd'
   exact ⟨a, u, g1, g2, g3, Zr g4⟩
 | _ => exact h
theorem Abr : ∀ {l : List D} {us : List Value}, RsL w Z T l us → RsL w Z T (l.map nilC) us
 | [], us, h => h
 | d :: l, us, h => by
  simp only [RsL] at h
  obtain ⟨u, us', rfl, h1, h2⟩ := h
  simp only [List.map_cons, RsL]
  exact ⟨u, us', rfl, Aio h1, Abr h2⟩
theorem AdG {P : Program} {held : List Nat} {K : D → Ad → Nat → Prop} {f : FuncId} {ds : List D} {t t' : BQ K} (k : Bo P f (ds.map nilC) held r nx K t') : Bo P f ds held r nx K t := fun E w Z T F vs ok hrs => k E w Z T F vs ok (Abr hrs)
theorem AfF (i : Nat) {P : Program} {K : D → Ad → Nat → Prop} {f : FuncId} {ds : List D} {t t' : BQ K} {e s n : Nat} {l : List D} (hg : BL r i = some (.row e s n l)) (hp : ∀ d ∈ l, d.plain)
  (k : Bo P f ((ds.map (Du (EI r i (.sl n l)))).map nilC) [] (EI r i (.sl n l)) nx K t') : Bo P f ds [] r nx K t := by
 have h := RT.frz i hg (by simp only [I9]; exact (MH hp).2)
 simp only [frzR, frz, (MH hp).1] at h
 exact AbZ (t' := .mk _) h (Xj (t' := .mk _) (AdG k))
end Go.Sl
end
section
namespace Go.Sl
open Go
def G6 : List Char := [99, 117, 116].map Char.ofNat
theorem cw1 : (G6 == "gc".toList) = false := by kernel_rfl
theorem cw2 : (G6 == "spec".toList) = false := by kernel_rfl
theorem cw3 : (G6 == "cut".toList) = true := by kernel_rfl
theorem cw4 : (G6 == "carried".toList) = false := by kernel_rfl
theorem cw5 : (some G6 == some "carried".toList) = false := by kernel_rfl
theorem cw6 : (some G6 == some "cut".toList) = true := by kernel_rfl
section
variable {P : Program} {l : List Char} {rest : List (List Char)}
theorem Aiu (h0 : P.initOrder.toList = l) (h : behindMainWord (wordsSigns l) = G6 :: rest) : P.make = some .cut := by
 unfold Program.make
 rw [h0, h]
 simp only [cw1, cw2, cw3, Bool.or_self, Bool.true_or, Bool.false_eq_true, if_true, if_false]
theorem ZC (h0 : P.initOrder.toList = l) (h : behindMainWord (wordsSigns l) = G6 :: rest) (hs : stripLifts liftWords (G6 :: rest) = ([], G6 :: rest)) : P.headLifts = [] := by
 unfold Program.headLifts
 rw [h0, h, hs]
 simp only [List.head?_cons, cw6, if_true]
theorem AgT (h0 : P.initOrder.toList = l) (h : behindMainWord (wordsSigns l) = G6 :: rest) (hl : P.headLifts = []) : P.liftsFinal = false := by
 unfold Program.liftsFinal
 rw [h0, h, hl]
 simp only [List.head?_cons, cw5, Bool.false_and, Bool.false_or]
 rfl
theorem Aha (h0 : P.initOrder.toList = l) (h : behindMainWord (wordsSigns l) = G6 :: rest) (hs : stripLifts liftWords (G6 :: rest) = ([], G6 :: rest)) (h1 : P.laysLater = false) (h2 : P.bearsReflect = false) (h3 : P.doorRows = []) : P.mayEnter = true := by
 unfold Program.mayEnter
 rw [h0, h]
 simp only [hs, cw1, cw2, cw4, cw6, h1, h2, List.head?_cons, Bool.or_self, Bool.false_and, Bool.false_or, Bool.true_and, Bool.not_false, Bool.or_true, List.contains_nil, Bool.and_true]
 unfold Program.doorFits
 rw [h3]
 rfl
end
theorem AbM {P : Program} {f : FuncId} {fn : Func} {s : ChangeSpec} {c : OpenClaim} (hl : laidOutB P = true) (hm : mapsRowed P = true) (hst : P.stops = []) (hkn : P.stopKnobs = []) (hpk : P.plainKeys = true) (hhe : P.stopsHeard = true) (hen : P.mayEnter = true) (hli : P.liftsFinal = false) (hma : P.make = some .cut)
  (hin : P.inPlace f = []) (hun : P.unfollowed f = true) (hre : P.recurses f = true) (hna : P.varsNamed f = [])
  (c1 : c.inPlace = []) (c2 : c.unfollowed = true) (c3 : c.recurses = true) (c4 : c.named = []) (c5 : c.plainKeys = true) (c6 : c.lifted = false) (c7 : c.make = .cut) (c8 : c.stops = []) (c9 : c.knobs = [])
  (k1 : c.wf (OpenSpec.ofChange s) = true) (k2 : fn.params.all (P.readableRec ·) = true) (k3 : namedTie P c.named s.vars = true) (k4 : (c.maps == (fn.params.toList ++ s.plain.varTypes P).any (P.mapsRec ·)) = true)
  (k5 : (c.ifaces == (fn.params.toList ++ s.plain.varTypes P).any (P.ifacesRec ·)) = true) (k6 : (c.mapsOut == P.mapsAmong fn.resultTypes.toList) = true) (k7 : (c.loops == (fn.params.toList ++ s.plain.varTypes P).any (P.loopsFrom ·)) = true)
  (k8 : (c.wideKeys == (fn.params.toList ++ s.plain.varTypes P ++ fn.resultTypes.toList).any (P.wideKeysFrom ·)) = true) (k9 : s.vars.all (P.varReadable ·) = true) (k10 : fn.resultTypes.all (fun t => P.readableRec t && decide (t < P.types.size)) = true)
  (k11 : (c.ifacesOut == fn.resultTypes.toList.any (P.ifacesRec ·)) = true) (k12 : (c.loopsOut == fn.resultTypes.toList.any (P.loopsFrom ·)) = true) (k13 : c.shortTexts.isNone = true) (c10 : c.domain = []) (c11 : c.kinds = [])
  (k15 : (c.pinned == c.pinnedBy) = true) (k16 : (c.veiled == (fn.params.toList ++ s.plain.varTypes P ++ fn.resultTypes.toList).any (P.veiledRec ·)) = true) (k17 : c.veiledFits P fn.params.toList (fn.params.toList ++ s.plain.varTypes P ++ fn.resultTypes.toList) = true) :
  joinedFacts P f fn s c = true := by
 unfold joinedFacts
 rw [hl, hm, hst, hkn, hpk, hhe, hen, hli, hma, hin, hun, hre, hna, c1, c2, c3, c5, c6, c7, c8, c9, k1, k2, k3, k4, k5, k6, k7, k8, k9, k10, k11, k12, k13, k15, k16, k17, c4, c10, c11]
 rfl
end Go.Sl
end
section
namespace Go.Proofs.YtgpkbldlkadnjaaGreat
open Go Go.Sl
def headSigns : List Char := [104, 97, 114, 110, 101, 115, 115, 32, 49, 55, 98, 100, 53, 102, 100, 52, 57, 98, 55, 56, 51, 100, 52, 57, 48, 50, 55, 102, 56, 57, 53, 55, 52, 56, 52, 99, 55, 102, 99, 53, 100, 54, 97, 97, 54, 98, 55, 100, 52, 97, 49, 49, 53, 102, 102, 53, 50, 55, 102, 97, 51, 57, 51, 50, 101, 55, 98, 55, 54, 48, 56, 56, 32, 99, 117, 116, 32, 97, 116, 32, 115, 104, 97, 114, 100, 108, 111, 103, 47, 115, 104, 97, 114, 100, 108, 111, 103, 108, 97, 119, 49, 56, 46, 76, 111, 103, 65, 99, 116, 115, 32, 115, 104, 97, 114, 100, 108, 111, 103, 47, 115, 104, 97, 114, 100, 108, 111, 103, 108, 97, 119, 50, 49, 46, 65, 99, 99, 101, 112, 116, 80, 114, 111, 109, 105, 115, 101, 100, 32, 115, 104, 97, 114, 100, 108, 111, 103, 47, 115, 104, 97, 114, 100, 108, 111, 103, 108, 97, 119, 50, 53, 46, 83, 99, 114, 117, 98, 83, 104, 97, 114, 100, 115, 32, 115, 104, 97, 114, 100, 108, 111, 103, 47, 115, 104, 97, 114, 100, 108, 111, 103, 108, 97, 119, 50, 53, 46, 83, 99, 114, 117, 98, 80, 117, 116, 115, 32, 115, 104, 97, 114, 100, 108, 111, 103, 47, 115, 104, 97, 114, 100, 108, 111, 103, 108, 97, 119, 50, 53, 46, 83, 99, 114, 117, 98, 78, 101, 118, 101, 114, 32, 115, 104, 97, 114, 100, 108, 111, 103, 47, 115, 104, 97, 114, 100, 108, 111, 103, 108, 97, 119, 50, 53, 46, 83, 99, 114, 117, 98, 81, 117, 97, 114, 97, 110, 116, 105, 110, 101, 32, 115, 104, 97, 114, 100, 108, 111, 103, 47, 115, 104, 97, 114, 100, 108, 111, 103, 108, 97, 119, 50, 53, 46, 83, 99, 114, 117, 98, 65, 112, 97, 114, 116, 32, 115, 104, 97, 114, 100, 108, 111, 103, 47, 115, 104, 97, 114, 100, 108, 111, 103, 108, 97, 119, 50, 53, 46, 83, 99, 114, 117, 98, 82, 101, 112, 97, 105, 114, 115].map Char.ofNat
theorem zf_str : Tryz.prog.initOrder = String.ofList headSigns := by kernel_rfl
theorem RF : Tryz.prog.initOrder.toList = headSigns := by rw [zf_str]; exact String.toList_ofList
def restWords : List (List Char) := (behindMainWord (wordsSigns headSigns)).tail
theorem RD : behindMainWord (wordsSigns headSigns) = G6 :: restWords := by kernel_rfl
theorem Aaw : stripLifts liftWords (G6 :: restWords) = ([], G6 :: restWords) := by kernel_rfl
theorem AdS : Tryz.prog.make = some .cut := Aiu RF RD
theorem YU : Tryz.prog.headLifts = [] := ZC RF RD Aaw
theorem Aaz : Tryz.prog.liftsFinal = false := AgT RF RD YU
theorem AhM : Tryz.prog.laysLater = false := by kernel_rfl
theorem AcG : Tryz.prog.bearsReflect = false := by kernel_rfl
theorem AfS : Tryz.prog.doorRows = [] := by kernel_rfl
theorem AaC : Tryz.prog.mayEnter = true := Aha RF RD Aaw AhM AcG AfS
theorem AfR : ownKnob Tryz.prog.godebug = none := by kernel_rfl
theorem Aax : Tryz.prog.stops = [] := by kernel_rfl
theorem AaA : Tryz.prog.stopKnobs = [] := by kernel_rfl
theorem AaB : Tryz.prog.stopsHeard = true := by kernel_rfl
theorem AdR : mapsRowed Tryz.prog = true := by kernel_rfl
theorem Aay : Tryz.prog.plainKeys = true := by kernel_rfl
theorem Vj : laidOutB Tryz.prog = true := by kernel_rfl
end Go.Proofs.YtgpkbldlkadnjaaGreat
end
section
namespace Go.Sl
open Go.RowKit
def Zn (Z : Nat → Prop) (w w' : World) (b : Nat) : Prop := Z b ∨ (w.heap.size ≤ b ∧ b < w'.heap.size)
theorem MQ {P : Program} {f : FuncId} {ds : List D} {d : D} (h : ∀ (w : World) (Z : Nat → Prop) (T : Nat → Option Value) (vs : List Value), (∀ b, Z b → b < w.heap.size) → RsL w Z T ds vs →
  Calls P f vs.toArray w fun en w' => ∃ r, en = .returned r ∧ (Fr No w w' ∧ Rs w' (Zn Z w w') T d r)) : ED P f ds d := by
 intro nx w Z T F vs ok hrs
 have hF : ∀ b, F b = 0 := ok.roots
 refine (h w Z T vs (fun b hb => (ok.zlt b hb).1) hrs).mono fun en w' ⟨r, he, hf, hr⟩ => ⟨r, he, d, [], nx, Zn Z w w', T, F, ?_, hr, rfl, rfl⟩
 have hsz := hf.size
 refine ⟨hf.wide, fun b hb => .inl hb, fun b hb hz => ?_, fun b _ => Nat.le_refl _, fun _ _ h => h, ok.one, fun b hb => by have := hF b; omega, fun b hb => ⟨?_, hF b⟩, ok.t, ok.cell, Nat.le_refl _, hF⟩
 ·dsimp only at hb
  rcases hz with hz | hz
  ·exact .inl hz
  ·omega
 ·rcases hb with hb | hb
  ·have := (ok.zlt b hb).1; omega
  ·exact hb.2
theorem AiC {P : Program} {f : FuncId} {ds : List D} {u : Value} (h : ∀ (w : World) (Z : Nat → Prop) (T : Nat → Option Value) (vs : List Value), (∀ b, Z b → b < w.heap.size) → RsL w Z T ds vs →
  Calls P f vs.toArray w fun en w' => ∃ r, en = .returned r ∧ (r = u ∧ Fr No w w')) : ED P f ds (.sc u) :=
 MQ fun w Z T vs hz hrs => (h w Z T vs hz hrs).mono fun en w' ⟨r, he, h1, h2⟩ => ⟨r, he, h2, by simp only [Rs]; exact h1⟩
section
variable {w w' : World} {Z : Nat → Prop} {T : Nat → Option Value}
theorem rs_of {n : Nat} {l : List D} {v : Value} {vs : List Value} (h : Rs w Z T (.sl n l) v) (hz : ∀ b, Z b → b < w.heap.size) (hn : l.length = n) (hv : vs.length = n) (hl : ∀ (j : Nat) (d : D) (u x : Value), l[j]? = some d → vs[j]? = some x → Rs w Z T d u → u = x) : RS w w.heap.size v vs := by
 simp only [Rs] at h
 obtain ⟨A, c, rfl, h1, h0, hf⟩ := h
 refine ⟨A, c, by rw [hv], by omega, fun j u hu => ?_⟩
 have hj := (List.getElem?_eq_some_iff.1 hu).1
 have hd : l[j]? = some l[j] := List.getElem?_eq_getElem (by omega)
 obtain ⟨a, x, h2, h3, h4, h5⟩ := hf.get hd
 rw [Nat.zero_add] at h4
 refine ⟨a, h2, hz _ h3, ?_⟩
 rw [h4, hl j _ _ _ hd hu h5]
theorem bs_of {xs : List UInt8} {v : Value} (h : Rs w Z T (bytesD xs) v) (hz : ∀ b, Z b → b < w.heap.size) : BS w w.heap.size v xs := by
 refine rs_of h hz (by simp) (by simp) fun j d u x hd hx hr => ?_
 rw [List.getElem?_map] at hd hx
 cases hq : xs[j]? with
 | none => rw [hq] at hd; cases hd
 | some b =>
  rw [hq] at hd hx
  simp only [Option.map_some, Option.some.injEq] at hd hx
  subst hd; subst hx
  simpa only [bD, Rs] using hr
theorem Aiy {is : List Int} {v : Value} (h : Rs w Z T (CU is) v) (hz : ∀ b, Z b → b < w.heap.size) : RS w w.heap.size v (is.map fun n => .int .i64 n) := by
 refine rs_of h hz (by simp) (by simp) fun j d u x hd hx hr => ?_
 rw [List.getElem?_map] at hd hx
 cases hq : is[j]? with
 | none => rw [hq] at hd; cases hd
 | some b =>
  rw [hq] at hd hx
  simp only [Option.map_some, Option.some.injEq] at hd hx
  subst hd; subst hx
  simpa only [iD, Rs] using hr
theorem SS {m : List (List UInt8)} {v : Value} (h : Rs w Z T (CY m) v) (hz : ∀ b, Z b → b < w.heap.size) : MS w w.heap.size v m := by
 simp only [Rs] at h
 obtain ⟨A, c, rfl, h1, _, hf⟩ := h
 obtain ⟨us, k1, k2⟩ := ZI hf
 have hl : us.length = m.length := by rw [k1.len]; simp
 refine ⟨us, ⟨A, c, by rw [hl], by omega, fun j u hu => ?_⟩, hl, fun j u x hu hx => ?_⟩
 ·have hj := (List.getElem?_eq_some_iff.1 hu).1
  obtain ⟨ad, e1, e2⟩ := k2 j u hu
  obtain ⟨a, y, h2, h3, _⟩ := hf.get (j := j) (d := bytesD m[j]) (by rw [List.getElem?_map, List.getElem?_eq_getElem (by omega)]; rfl)
  rw [e1] at h2
  cases h2
  exact ⟨ad, e1, hz _ h3, by simpa using e2⟩
 ·obtain ⟨u', h2, h3⟩ := k1.get (j := j) (d := bytesD x) (by rw [List.getElem?_map, hx]; rfl)
  rw [hu] at h2
  cases h2
  exact bs_of h3 hz
theorem AdP {e : TypeId} {r : Value} {xs : List UInt8} (h : Ow w e 1 r xs.length (xs.map U8)) (hz : ∀ b, r.ownBlock = some b → Z b) : Rs w Z T (bytesD xs) r := by
 simp only [Rs]
 rcases h.form with ⟨rfl, hn, hx⟩ | ⟨g, cap, cur, rfl, hg, hc, hs, hl, ht⟩
 ·have : xs = [] := List.eq_nil_of_length_eq_zero hn
  subst this
  exact ⟨none, 0, rfl, Nat.le_refl _, fun _ => rfl, by simp only [List.map_nil, Fz]⟩
 ·refine ⟨_, cap, rfl, hc, fun h => by (cases h), Fz.mk fun j d hd => ?_⟩
  rw [List.getElem?_map] at hd
  cases hq : xs[j]? with
  | none => rw [hq] at hd; cases hd
  | some b =>
   rw [hq] at hd
   simp only [Option.map_some, Option.some.injEq] at hd
   subst hd
   refine ⟨_, U8 b, rfl, hz g rfl, ?_, by simp only [bD, Rs]⟩
   have := Ow.cells h (g := g) rfl j (U8 b) (by rw [List.getElem?_map, hq]; rfl)
   simpa using this
theorem Ae0 {e e' : TypeId} {r : Value} {m : List (List UInt8)} {vs : List Value} (hl : vs.length = m.length) (hs : Ow w e 1 r m.length vs) (hr : ∀ (j : Nat) (u : Value) (x : List UInt8), vs[j]? = some u → m[j]? = some x → Ow w e' 1 u x.length (x.map U8))
  (hz : ∀ b, (r.ownBlock = some b ∨ ∃ (j : Nat) (u : Value), vs[j]? = some u ∧ u.ownBlock = some b) → Z b) : Rs w Z T (CY m) r := by
 simp only [Rs]
 rcases hs.form with ⟨rfl, hn, hx⟩ | ⟨g, cap, cur, rfl, hg, hc, hs', hl', ht⟩
 ·have : m = [] := List.eq_nil_of_length_eq_zero hn
  subst this
  exact ⟨none, 0, rfl, Nat.le_refl _, fun _ => rfl, by simp only [List.map_nil, Fz]⟩
 ·refine ⟨_, cap, rfl, hc, fun h => by (cases h), Fz.mk fun j d hd => ?_⟩
  rw [List.getElem?_map] at hd
  cases hq : m[j]? with
  | none => rw [hq] at hd; cases hd
  | some x =>
   rw [hq] at hd
   simp only [Option.map_some, Option.some.injEq] at hd
   subst hd
   have hj := (List.getElem?_eq_some_iff.1 hq).1
   have hv : vs[j]? = some vs[j] := List.getElem?_eq_getElem (by omega)
   refine ⟨_, vs[j], rfl, hz g (.inl rfl), ?_, AdP (hr j _ x hv hq) fun b hb => hz b (.inr ⟨j, _, hv, hb⟩)⟩
   have := Ow.cells hs (g := g) rfl j _ hv
   simpa using this
end
end Go.Sl
end
section
namespace Go.Sl
open Go.RowKit Go.ChangeShapes Go.WideShapes Go.ChangeAt Go.Deep
def Zw (W : World) (b : Nat) : Prop := b < W.heap.size
def T0 (_ : Nat) : Option Value := none
theorem QO {P : Program} {f : FuncId} {ds : List D} {W : World} {vs : List Value} (h : ED P f ds (AO true)) (hrs : RsL W (Zw W) T0 ds vs) : Calls P f vs.toArray W fun e W' => e = .returned (.bool true) ∧ Below W.heap.size W W' := by
 have ok : Ok ⟨W, Zw W, T0, fun _ => 0, 0⟩ W (Zw W) T0 (fun _ => 0) [] 0 := ⟨Fr.refl _ _, fun _ h => h, fun _ _ h => .inl h, fun _ _ => Nat.le_refl _, fun _ _ h => h, fun _ => Nat.zero_le _, fun b hb => absurd hb (Nat.lt_irrefl 0), fun b hb => ⟨hb, rfl⟩, fun _ _ => rfl, fun i u hu => (by cases hu), Nat.le_refl _, fun _ => rfl⟩
 refine (h 0 W (Zw W) T0 (fun _ => 0) vs ok hrs).mono fun e W' ⟨v, he, d, r', nx', Z', T', F', o1, o2, o3, _⟩ => ?_
 subst o3
 simp only [Rs] at o2
 subst o2
 exact ⟨he, Fr.below (o1.fr.mono fun b _ hb => by simp at hb)⟩
section
variable {H : Type} {enc : TypeId × Value → H} {P : Program} {W : World}
theorem VZ {z : Int} (h : (Lit.int .u8 z).wf = true) : Value.int .u8 z = U8 (UInt8.ofNat z.toNat) := by
 simp only [Lit.wf, Bool.and_eq_true, decide_eq_true_eq] at h
 have h1 : (0 : Int) ≤ z := by have := h.1; simpa [IntKind.min, IntKind.signed] using this
 have h2 : z ≤ 255 := by have := h.2; simpa [IntKind.max, IntKind.signed, IntKind.bits] using this
 unfold U8
 simp only [Value.int.injEq, true_and]
 rw [UInt8.toNat_ofNat']
 omega
theorem AhQ {z : Int} (h : (Lit.int .u16 z).wf = true) : ∃ n : Nat, z = n ∧ n < 65536 := by
 simp only [Lit.wf, Bool.and_eq_true, decide_eq_true_eq] at h
 have h1 := h.1
 have h2 := h.2
 simp [IntKind.min, IntKind.max, IntKind.signed, IntKind.bits] at h1 h2
 exact ⟨z.toNat, by omega, by omega⟩
theorem UK (v : Value) : Rs W (Zw W) T0 (.sc v) v := by simp only [Rs]
theorem Aec : RsL W (Zw W) T0 [] [] := by simp only [RsL]
theorem Jf {d : D} {ds : List D} {v : Value} {vs : List Value} (h : Rs W (Zw W) T0 d v) (k : RsL W (Zw W) T0 ds vs) : RsL W (Zw W) T0 (d :: ds) (v :: vs) := by
 simp only [RsL]; exact ⟨v, vs, rfl, h, k⟩
end
def XJ {H : Type} (P : Program) (t : TypeId) (d : DataW H) : Prop := ∀ m ∈ d.weights P t, m ≤ 140737488351232
theorem Aa5 {H : Type} {P : Program} {ts : List TypeId} {ds : List (DataW H)} (h : (DataW.weightsEach P ts ds).all (· ≤ reachBytes) = true) {j : Nat} {t : TypeId} {d : DataW H} (ht : ts[j]? = some t) (hd : ds[j]? = some d) : XJ P t d := fun m hm => by
 have h1 : m ≤ reachBytes := by
  have := List.all_eq_true.1 h _ (DataW.weights_mem_each ht hd m hm)
  simpa using this
 exact Nat.le_trans h1 (by decide)
theorem Pg {H : Type} {P : Program} {e : TypeId} : ∀ {l : List (DataW H)} {d : DataW H}, d ∈ l → ∀ m ∈ d.weights P e, m ∈ DataW.weightsAll P e l
 | x :: l, d, hd, m, hm => by
  simp only [DataW.weightsAll, List.mem_append]
  rcases List.mem_cons.1 hd with rfl | hd
  ·exact .inl hm
  ·exact .inr (Pg hd m hm)
structure Jn (P : Program) (t : TypeId) (s : Nat) (α : Type) (e : α → List D) (B : α → Prop) : Prop where
 size : P.cellsOf t = s
 len : ∀ a, (e a).length = s
 get : ∀ {H : Type} (enc : TypeId × Value → H) (W : World) (n : Nat) (cs : List Value) (x : DataW H × List MemPlace), DataW.trod enc P W 0 (fun _ => true) true n t cs = some x → XJ P t x.1 → ∃ a, RsL W (Zw W) T0 (e a) cs ∧ B a
structure Aas (P : Program) (fs : List Field) (off s : Nat) (α : Type) (e : α → List D) (B : α → Prop) : Prop where
 len : ∀ a, (e a).length = s
 get : ∀ {H : Type} (enc : TypeId × Value → H) (W : World) (n : Nat) (cs : List Value), (∀ f ∈ fs, ∃ y, DataW.trod enc P W 0 (fun _ => true) true n f.type ((cs.drop f.offset).take (P.cellsOf f.type)) = some y ∧ XJ P f.type y.1) → ∃ a, RsL W (Zw W) T0 (e a) ((cs.drop off).take s) ∧ B a
section
variable {P : Program} {t e0 : TypeId}
theorem Jn.map {s : Nat} {α β : Type} {e : α → List D} {e' : β → List D} {B : α → Prop} {B' : β → Prop} (h : Jn P t s α e B) (f : α → β) (he : ∀ a, e' (f a) = e a) (hB : ∀ a, B a → B' (f a)) (hl : ∀ b, (e' b).length = s) : Jn P t s β e' B' :=
 ⟨h.size, hl, fun enc W n cs x hx hs => by
  obtain ⟨a, h1, h2⟩ := h.get enc W n cs x hx hs
  exact ⟨f a, by rw [he]; exact h1, hB a h2⟩⟩
theorem op_int {k : IntKind} (ht : P.underlying t = some (.int k)) (hc : P.cellsOf t = 1) : Jn P t 1 Int (fun z => [.sc (.int k z)]) (fun z => (Lit.int k z).wf = true) :=
 ⟨hc, fun _ => rfl, fun enc W n cs x hx hsz => by
  obtain ⟨z, rfl, _, hw⟩ := DataW.trod_int ht hx
  exact ⟨z, by simp only [RsL, Rs]; exact ⟨_, _, rfl, rfl, rfl⟩, hw⟩⟩
theorem op_u8 (ht : P.underlying t = some (.int .u8)) (hc : P.cellsOf t = 1) : Jn P t 1 UInt8 (fun z => [bD z]) (fun _ => True) :=
 ⟨hc, fun _ => rfl, fun enc W n cs x hx hsz => by
  obtain ⟨z, rfl, _, hw⟩ := DataW.trod_int ht hx
  exact ⟨UInt8.ofNat z.toNat, by simp only [RsL, Rs, bD]; exact ⟨_, _, rfl, VZ hw, rfl⟩, trivial⟩⟩
theorem Aig (off : Nat) : Aas P [] off 0 Unit (fun _ => []) (fun _ => True) :=
 ⟨fun _ => rfl, fun enc W n cs h => ⟨(), by simp only [List.take_zero, RsL], trivial⟩⟩
theorem WI {f : Field} {fs : List Field} {off s s' : Nat} {α β : Type} {e : α → List D} {e' : β → List D} {B : α → Prop} {B' : β → Prop} (h : Jn P f.type s α e B) (ho : f.offset = off) (k : Aas P fs (off + s) s' β e' B') :
  Aas P (f :: fs) off (s + s') (α × β) (fun x => e x.1 ++ e' x.2) (fun x => B x.1 ∧ B' x.2) :=
 ⟨fun x => by rw [List.length_append, h.len, k.len], fun enc W n cs hf => by
  obtain ⟨y, hy, hys⟩ := hf f (by simp)
  obtain ⟨a, h1, h2⟩ := h.get enc W n _ y hy hys
  obtain ⟨b, k1, k2⟩ := k.get enc W n cs fun g hg => hf g (by simp [hg])
  refine ⟨(a, b), ?_, h2, k2⟩
  have e1 : (cs.drop off).take (s + s') = (cs.drop off).take s ++ (cs.drop (off + s)).take s' := by rw [List.take_add, List.drop_drop]
  rw [e1]
  rw [ho, h.size] at h1
  exact h1.append k1⟩
theorem Afh {fs : Array Field} {l : List Field} {s : Nat} {α : Type} {e : α → List D} {B : α → Prop} (ht : P.underlying t = some (.struct fs)) (hl : fs.toList = l) (hc : P.cellsOf t = s) (h : Aas P l 0 s α e B) : Jn P t s α e B :=
 ⟨hc, h.len, fun enc W n cs x hx hsz => by
  obtain ⟨xs, m, _, rfl, hlen, hxl, hf⟩ := DataW.trod_struct ht hx
  obtain ⟨a, h1, h2⟩ := h.get enc W m cs fun f hm => by
   rw [← hl] at hm
   obtain ⟨i, hi, rfl⟩ := List.mem_iff_getElem.1 hm
   have h3 := hf i fs[i] (by simp at hi ⊢)
   have hil : i < xs.length := by simp at hi; omega
   rw [List.getElem?_eq_getElem hil] at h3
   refine ⟨xs[i], by simpa using h3, fun k hk => hsz k ?_⟩
   simp only [DataW.weights, ht]
   exact DataW.weights_mem_each (j := i) (t := fs.toList[i].type) (d := xs[i].1) (by rw [List.getElem?_map, List.getElem?_eq_getElem hi]; rfl) (by rw [List.getElem?_map, List.getElem?_eq_getElem hil]; rfl) k hk
  rw [List.drop_zero, List.take_of_length_le (by omega)] at h1
  exact ⟨a, h1, h2⟩⟩
theorem AbK {α : Type} {e : α → List D} {s : Nat} (h : ∀ a, (e a).length = s) : ∀ l : List α, (l.flatMap e).length = l.length * s
 | [] => by simp
 | x :: l => by rw [List.flatMap_cons, List.length_append, h, List.length_cons, Nat.succ_mul, AbK h l]; omega
theorem AgG {n s : Nat} {α : Type} {e : α → List D} {B : α → Prop} (ht : P.underlying t = some (.array n e0)) (hc : P.cellsOf t = n * s) (h : Jn P e0 s α e B) :
  Jn P t (n * s) { l : List α // l.length = n } (fun l => l.1.flatMap e) (fun l => ∀ a ∈ l.1, B a) :=
 ⟨hc, fun l => by rw [AbK h.len, l.2], fun enc W k cs x hx hsz => by
  obtain ⟨xs, m, _, rfl, hlen, hxl, hf⟩ := DataW.trod_array ht hx
  rw [hc] at hlen
  rw [h.size] at hf
  have build : ∀ k, k ≤ n → ∃ L : List α, L.length = k ∧ RsL W (Zw W) T0 (L.flatMap e) (cs.take (k * s)) ∧ ∀ x ∈ L, B x := by
   intro k
   induction k with
   | zero => intro _; exact ⟨[], rfl, by simp only [List.flatMap_nil, Nat.zero_mul, List.take_zero, RsL], by simp⟩
   | succ k ih =>
    intro hk
    obtain ⟨L, g1, g2, g3⟩ := ih (by omega)
    have h3 := hf k (by omega)
    rw [List.getElem?_eq_getElem (show k < xs.length by omega)] at h3
    obtain ⟨y, e1, e2⟩ := h.get enc W m _ _ h3 fun j hj => hsz j (by
     simp only [DataW.weights, ht]
     exact Pg (List.mem_map.2 ⟨_, List.getElem_mem (show k < xs.length by omega), rfl⟩) j hj)
    refine ⟨L ++ [y], by simp [g1], ?_, ?_⟩
    ·rw [List.flatMap_append, List.flatMap_cons, List.flatMap_nil, List.append_nil, Nat.succ_mul, List.take_add]
     exact g2.append e1
    ·intro z hz
     rcases List.mem_append.1 hz with h1 | h1
     ·exact g3 z h1
     ·simp only [List.mem_singleton] at h1
      rw [h1]; exact e2
  obtain ⟨L, g1, g2, g3⟩ := build n (Nat.le_refl _)
  rw [List.take_of_length_le (by omega)] at g2
  exact ⟨⟨L, g1⟩, g2, g3⟩⟩
theorem Jn.one {H : Type} {enc : TypeId × Value → H} {W : World} {α : Type} {e : α → D} {B : α → Prop} (h : Jn P t 1 α (fun a => [e a]) B) {v : Value} {d : DataW H} {p : List MemPlace} (h1 : v.cells = #[v])
  (k : DataW.Trod enc P W 0 (fun _ => true) true t v d p) (hs : XJ P t d) : ∃ a, Rs W (Zw W) T0 (e a) v ∧ B a := by
 obtain ⟨fuel, hf⟩ := k
 obtain ⟨a, g1, g2⟩ := h.get enc W fuel _ _ hf hs
 rw [h1] at g1
 obtain ⟨u, hu, hr⟩ := JL g1
 cases hu
 exact ⟨a, hr, g2⟩
theorem Jn.slice {H : Type} {enc : TypeId × Value → H} {W : World} {α : Type} {e : α → D} {B : α → Prop} (h : Jn P t 1 α (fun a => [e a]) B) (ht : P.underlying t = some (.slice e0)) {b0 : Nat} {v : Value} {d : DataW H} {p : List MemPlace}
  (hval : Value.okWide P W .any b0 t v) (k : DataW.Trod enc P W 0 (fun _ => true) true t v d p) (hs : XJ P t d) : ∃ a, Rs W (Zw W) T0 (e a) v ∧ B a := by
 obtain ⟨a0, len, cap, rfl⟩ := okWide_slice ht hval
 exact h.one rfl k hs
theorem Jn.struct {H : Type} {enc : TypeId × Value → H} {W : World} {s : Nat} {α : Type} {e : α → List D} {B : α → Prop} (h : Jn P t s α e B) {fs : Array Field} (ht : P.underlying t = some (.struct fs)) {b0 : Nat} {v : Value} {d : DataW H} {p : List MemPlace}
  (hval : Value.okWide P W .any b0 t v) (k : DataW.Trod enc P W 0 (fun _ => true) true t v d p) (hs : XJ P t d) : ∃ a, Rs W (Zw W) T0 (.agg (e a)) v ∧ B a := by
 obtain ⟨cs, rfl, hsz⟩ := okWide_struct ht hval
 obtain ⟨fuel, hf⟩ := k
 obtain ⟨a, g1, g2⟩ := h.get enc W fuel _ _ hf hs
 exact ⟨a, by simp only [Rs]; exact ⟨cs.toList, by simp, by simpa [Value.cells] using g1⟩, g2⟩
end
end Go.Sl
end
section
namespace Go.Proofs.YtgpkbldlkadnjaaGreat
open Go
abbrev Jz : FuncId := 9
abbrev IL : FuncId := 10
abbrev MN : FuncId := 13
abbrev Eo : FuncId := 22
abbrev LG : FuncId := 27
abbrev KL : FuncId := 32
abbrev Ui : FuncId := 33
abbrev Ii : FuncId := 34
abbrev NC : FuncId := 35
abbrev Gz : FuncId := 36
abbrev KR : FuncId := 39
abbrev Gg : FuncId := 40
abbrev NF : FuncId := 41
abbrev MO : FuncId := 42
abbrev Iq : FuncId := 44
abbrev Jh : FuncId := 45
abbrev Eg : FuncId := 46
abbrev JA : FuncId := 47
abbrev JZ : FuncId := 48
abbrev Gn : FuncId := 49
abbrev Ef : FuncId := 50
abbrev Jk : FuncId := 51
abbrev Kz : FuncId := 53
abbrev IZ : FuncId := 54
abbrev PK : FuncId := 55
abbrev HY : FuncId := 63
abbrev J4 : FuncId := 64
abbrev DY : FuncId := 69
abbrev J3 : FuncId := 75
abbrev Kw : FuncId := 76
abbrev H6 : FuncId := 79
abbrev I4 : FuncId := 80
abbrev KJ : FuncId := 81
abbrev IJ : FuncId := 82
abbrev LH : FuncId := 83
abbrev Jj : FuncId := 84
abbrev JY : FuncId := 85
abbrev Jr : FuncId := 86
abbrev GR : FuncId := 87
abbrev OL : FuncId := 88
abbrev IY : FuncId := 89
abbrev NE : FuncId := 90
abbrev G7 : FuncId := 91
abbrev KH : FuncId := 92
abbrev LD : FuncId := 93
abbrev ML : FuncId := 94
abbrev OI : FuncId := 95
abbrev Ky : FuncId := 96
abbrev H5 : FuncId := 97
abbrev Jb : FuncId := 98
abbrev KI : FuncId := 99
abbrev OH : FuncId := 100
abbrev PO : FuncId := 103
abbrev Ho : FuncId := 104
abbrev Nl : FuncId := 105
abbrev JX : FuncId := 106
abbrev GN : FuncId := 108
abbrev Jw : FuncId := 109
abbrev KQ : FuncId := 112
abbrev Vb : FuncId := 113
abbrev PN : FuncId := 114
abbrev JV : FuncId := 125
abbrev Il : FuncId := 126
abbrev Em : FuncId := 127
abbrev KT : FuncId := 128
abbrev Lj : FuncId := 129
abbrev OJ : FuncId := 130
abbrev MM : FuncId := 131
abbrev IK : FuncId := 132
abbrev Ir : FuncId := 133
abbrev JU : FuncId := 134
abbrev Ji : FuncId := 135
abbrev E8 : FuncId := 136
abbrev II : FuncId := 137
abbrev ND : FuncId := 138
abbrev Nj : FuncId := 139
abbrev JW : FuncId := 140
abbrev E5 : FuncId := 141
abbrev PP : FuncId := 142
abbrev Ih : FuncId := 143
abbrev IM : FuncId := 145
abbrev Nz : FuncId := 146
abbrev QK : FuncId := 149
abbrev MJ : FuncId := 156
abbrev Jy : FuncId := 157
abbrev G5 : FuncId := 158
abbrev MK : FuncId := 159
abbrev Nk : FuncId := 160
abbrev PL : FuncId := 161
abbrev EZ : FuncId := 162
abbrev PQ : FuncId := 164
abbrev Gs : FuncId := 170
abbrev OO : FuncId := 171
abbrev JB : FuncId := 192
abbrev I5 : FuncId := 203
abbrev Y1 : TypeId := 3
abbrev RN : TypeId := 4
abbrev tU8 : TypeId := 5
abbrev QA : TypeId := 9
abbrev Au : TypeId := 31
abbrev Ad2 : TypeId := 34
abbrev Ep : TypeId := 60
abbrev Dl : TypeId := 62
abbrev XP : TypeId := 82
abbrev Y2 : TypeId := 84
abbrev Ad1 : TypeId := 88
abbrev Af : TypeId := 99
abbrev Ah : TypeId := 121
abbrev BU : TypeId := 135
abbrev Je : TypeId := 203
end Go.Proofs.YtgpkbldlkadnjaaGreat
end
section
namespace Go.Proofs.YtgpkbldlkadnjaaGreat
open Go Go.Sl
theorem AgE : Jn Tryz.prog tU8 1 UInt8 (fun z => [bD z]) (fun _ => True) := op_u8 Tryz.underlying5 (by kernel_rfl)
-- 84 shardlog/matrix.Rows; Ar [(0, m), (1, at), (2, m), (3, at), (5, out), (6, _), (7, i)]
noncomputable def m_matrix_Rows : MF := ⟨32, [.t 4],
 .seq (
 .ops [
 .p 4 .mv [(.const (.slice none 0 0))]]) (
 .seq (
 .ops [
 .p 5 .mv [(.const (.slice none 0 0))]]) (
 .seq (
 .seq (
 .ops [
 .p 8 .mv [(.tmp 1)],
 .p 9 .len [(.tmp 8)],
 .p 10 .mv [(.const (.int .i64 0))]]) (
 .block 0 (
 .loop (
 .seq (
 .ops [
 .p 11 (.bin .lss) [(.tmp 10), (.tmp 9)]]) (
 .seq (
 .cond (.tmp 11) (
 .skip) (
 .exit 0)) (
 .seq (
 .block 1 (
 .seq (
 .ops [
 .p 12 (.ixs 1) [(.tmp 8), (.tmp 10)],
 .ld 13 (.tmp 12),
 .p 7 .mv [(.tmp 13)]]) (
 .seq (
 .seq (
 .ops [
 .p 14 .mv [(.tmp 7)],
 .p 15 (.bin .lss) [(.tmp 14), (.const (.int .i64 0))],
 .p 16 .mv [(.tmp 15)],
 .gd 16 false (some 17) (.p 17 .mv [(.tmp 7)]),
 .gd 16 false (some 18) (.p 18 .mv [(.tmp 0)]),
 .gd 16 false (some 19) (.p 19 .len [(.tmp 18)]),
 .gd 16 false (some 20) (.p 20 (.bin .geq) [(.tmp 17), (.tmp 19)]),
 .p 21 .pick [(.tmp 16), (.const (.bool true)), (.tmp 20)]]) (
 .cond (.tmp 21) (
 .seq (
 .ops [
 .p 4 .mv [(.const (.slice none 0 0))]]) (
 .ret)) (
 .skip))) (
 .ops [
 .p 22 .mv [(.tmp 5)],
 .p 23 .mv [(.tmp 0)],
 .p 24 .mv [(.tmp 7)],
 .p 25 (.ixs 1) [(.tmp 23), (.tmp 24)],
 .ld 26 (.tmp 25),
 .call (some 27) DY [(.tmp 26)],
 .bsl 28 Au 1 [(.slice none 0 0)] [(0, 1)] [(.tmp 27)],
 .app 29 #[Ep, Ep] Ep (.tmp 22) (.tmp 28),
 .p 5 .mv [(.tmp 29)]])))) (
 .ops [
 .p 30 (.bin .add) [(.tmp 10), (.const (.int .i64 1))],
 .p 10 .mv [(.tmp 30)]]))))))) (
 .seq (
 .ops [
 .p 31 .mv [(.tmp 5)],
 .p 4 .mv [(.tmp 31)]]) (
 .ret))))⟩

theorem X5 : trF Tryz.prog Jj = some m_matrix_Rows := by kernel_rfl
-- 85 shardlog/matrix.Right; Ar [(0, m), (1, m)]
noncomputable def m_matrix_Right : MF := ⟨17, [.t 2],
 .seq (
 .ops [
 .box 1 Ep (.tmp 0),
 .p 2 .mv [(.const (.bool false))]]) (
 .seq (
 .seq (
 .ops [
 .ld 3 (.tmp 1),
 .p 4 .len [(.tmp 3)],
 .p 5 (.bin .eql) [(.tmp 4), (.const (.int .i64 0))],
 .p 6 .mv [(.tmp 5)],
 .gd 6 false (some 7) (.ld 7 (.tmp 1)),
 .gd 6 false (some 8) (.p 8 (.ixs 1) [(.tmp 7), (.const (.int .i64 0))]),
 .gd 6 false (some 9) (.ld 9 (.tmp 8)),
 .gd 6 false (some 10) (.p 10 .len [(.tmp 9)]),
 .gd 6 false (some 11) (.p 11 (.bin .eql) [(.tmp 10), (.const (.int .i64 0))]),
 .p 12 .pick [(.tmp 6), (.const (.bool true)), (.tmp 11)]]) (
 .cond (.tmp 12) (
 .seq (
 .ops [
 .p 2 .mv [(.const (.bool false))]]) (
 .ret)) (
 .skip))) (
 .seq (
 .ops [
 .ld 13 (.tmp 1),
 .p 14 (.fn (.func Em) 0) [(.tmp 1)],
 .call (some 15) Il [(.tmp 13), (.tmp 14)],
 .p 16 .not [(.tmp 15)],
 .p 2 .mv [(.tmp 16)]]) (
 .ret)))⟩

theorem Xy : trF Tryz.prog JY = some m_matrix_Right := by kernel_rfl
-- 86 shardlog/matrix.Invert; Ar [(0, m), (1, m), (4, f), (5, left), (6, out), (7, c)]
noncomputable def m_matrix_Invert : MF := ⟨38, [.t 2, .t 3],
 .seq (
 .ops [
 .p 2 .mv [(.const (.slice none 0 0))],
 .p 3 .mv [(.const (.bool false))]]) (
 .seq (
 .seq (
 .ops [
 .p 8 .mv [(.tmp 0)],
 .p 9 .len [(.tmp 8)],
 .p 10 .mv [(.tmp 0)],
 .p 11 (.ixs 1) [(.tmp 10), (.const (.int .i64 0))],
 .ld 12 (.tmp 11),
 .p 13 .len [(.tmp 12)],
 .p 14 (.bin .neq) [(.tmp 9), (.tmp 13)]]) (
 .cond (.tmp 14) (
 .seq (
 .ops [
 .p 2 .mv [(.const (.slice none 0 0))],
 .p 3 .mv [(.const (.bool false))]]) (
 .ret)) (
 .skip))) (
 .seq (
 .ops [
 .call (some 15) KT [],
 .p 4 .mv [(.tmp 15)]]) (
 .seq (
 .ops [
 .p 16 .mv [(.tmp 0)],
 .call (some 17) Lj [(.tmp 16)],
 .p 18 .mv [(.tmp 0)],
 .p 19 .len [(.tmp 18)],
 .call (some 20) OJ [(.tmp 19)],
 .p 5 .mv [(.tmp 17)],
 .p 6 .mv [(.tmp 20)]]) (
 .seq (
 .seq (
 .ops [
 .p 21 .mv [(.tmp 5)],
 .p 22 .len [(.tmp 21)],
 .p 23 .mv [(.const (.int .i64 0))]]) (
 .block 0 (
 .loop (
 .seq (
 .ops [
 .p 24 (.bin .lss) [(.tmp 23), (.tmp 22)]]) (
 .seq (
 .cond (.tmp 24) (
 .skip) (
 .exit 0)) (
 .seq (
 .block 1 (
 .seq (
 .ops [
 .p 25 .mv [(.tmp 23)],
 .p 7 .mv [(.tmp 25)]]) (
 .seq (
 .seq (
 .ops [
 .p 26 .mv [(.tmp 5)],
 .p 27 .mv [(.tmp 6)],
 .p 28 .mv [(.tmp 7)],
 .call (some 29) MM [(.tmp 26), (.tmp 27), (.tmp 28)],
 .p 30 .not [(.tmp 29)]]) (
 .cond (.tmp 30) (
 .seq (
 .ops [
 .p 2 .mv [(.const (.slice none 0 0))],
 .p 3 .mv [(.const (.bool false))]]) (
 .ret)) (
 .skip))) (
 .ops [
 .p 31 .mv [(.tmp 4)],
 .p 32 .mv [(.tmp 5)],
 .p 33 .mv [(.tmp 6)],
 .p 34 .mv [(.tmp 7)],
 .call (some 35) IK [(.tmp 31), (.tmp 32), (.tmp 33), (.tmp 34)]])))) (
 .ops [
 .p 36 (.bin .add) [(.tmp 23), (.const (.int .i64 1))],
 .p 23 .mv [(.tmp 36)]]))))))) (
 .seq (
 .ops [
 .p 37 .mv [(.tmp 6)],
 .p 2 .mv [(.tmp 37)],
 .p 3 .mv [(.const (.bool true))]]) (
 .ret))))))⟩

theorem Vg : trF Tryz.prog Jr = some m_matrix_Invert := by kernel_rfl
-- 87 shardlog/matrix.Coding; Ar [(0, k), (1, n), (2, k), (3, n), (5, f), (6, out), (7, i), (8, row), (9, j)]
noncomputable def m_matrix_Coding : MF := ⟨49, [.t 4],
 .seq (
 .ops [
 .p 4 .mv [(.const (.slice none 0 0))]]) (
 .seq (
 .ops [
 .call (some 10) KT [],
 .p 5 .mv [(.tmp 10)]]) (
 .seq (
 .ops [
 .p 6 .mv [(.const (.slice none 0 0))]]) (
 .seq (
 .seq (
 .ops [
 .p 11 .mv [(.tmp 1)],
 .p 12 .mv [(.const (.int .i64 0))]]) (
 .block 0 (
 .loop (
 .seq (
 .ops [
 .p 13 (.bin .lss) [(.tmp 12), (.tmp 11)]]) (
 .seq (
 .cond (.tmp 13) (
 .skip) (
 .exit 0)) (
 .seq (
 .block 1 (
 .seq (
 .ops [
 .p 14 .mv [(.tmp 12)],
 .p 7 .mv [(.tmp 14)]]) (
 .seq (
 .ops [
 .p 15 .mv [(.tmp 0)],
 .gen (some 16) ⟨(some 16), (.makeSlice Au (.tmp 15) (.tmp 15)), Au, "matrix.go:59", #[⟨0, .data⟩, ⟨0, .data⟩], none⟩,
 .p 8 .mv [(.tmp 16)]]) (
 .seq (
 .seq (
 .ops [
 .p 17 .mv [(.tmp 8)],
 .p 18 .len [(.tmp 17)],
 .p 19 .mv [(.const (.int .i64 0))]]) (
 .block 2 (
 .loop (
 .seq (
 .ops [
 .p 20 (.bin .lss) [(.tmp 19), (.tmp 18)]]) (
 .seq (
 .cond (.tmp 20) (
 .skip) (
 .exit 2)) (
 .seq (
 .block 3 (
 .seq (
 .ops [
 .p 21 .mv [(.tmp 19)],
 .p 9 .mv [(.tmp 21)]]) (
 .block 4 (
 .seq (
 .ops [
 .p 23 .mv [(.tmp 7)],
 .p 24 .mv [(.tmp 0)],
 .p 25 (.bin .geq) [(.tmp 23), (.tmp 24)],
 .p 22 .mv [(.tmp 25)]]) (
 .cond (.tmp 22) (
 .ops [
 .p 26 .mv [(.tmp 8)],
 .p 27 .mv [(.tmp 9)],
 .p 28 .mv [(.tmp 5)],
 .p 29 .mv [(.tmp 7)],
 .p 30 .mv [(.tmp 9)],
 .p 31 (.bin .xor) [(.tmp 29), (.tmp 30)],
 .p 32 (.conv .u8) [(.tmp 31)],
 .call (some 33) Ir [(.tmp 28), (.tmp 32)],
 .p 34 (.ixs 1) [(.tmp 26), (.tmp 27)],
 .st 1 false (.tmp 34) (.tmp 33)]) (
 .seq (
 .ops [
 .p 36 .mv [(.tmp 7)],
 .p 37 .mv [(.tmp 9)],
 .p 38 (.bin .eql) [(.tmp 36), (.tmp 37)],
 .p 35 .mv [(.tmp 38)]]) (
 .cond (.tmp 35) (
 .ops [
 .p 39 .mv [(.tmp 8)],
 .p 40 .mv [(.tmp 9)],
 .p 41 (.ixs 1) [(.tmp 39), (.tmp 40)],
 .st 1 false (.tmp 41) (.const (.int .u8 1))]) (
 .skip)))))))) (
 .ops [
 .p 42 (.bin .add) [(.tmp 19), (.const (.int .i64 1))],
 .p 19 .mv [(.tmp 42)]]))))))) (
 .ops [
 .p 43 .mv [(.tmp 6)],
 .p 44 .mv [(.tmp 8)],
 .bsl 45 Au 1 [(.slice none 0 0)] [(0, 1)] [(.tmp 44)],
 .app 46 #[Ep, Ep] Ep (.tmp 43) (.tmp 45),
 .p 6 .mv [(.tmp 46)]]))))) (
 .ops [
 .p 47 (.bin .add) [(.tmp 12), (.const (.int .i64 1))],
 .p 12 .mv [(.tmp 47)]]))))))) (
 .seq (
 .ops [
 .p 48 .mv [(.tmp 6)],
 .p 4 .mv [(.tmp 48)]]) (
 .ret)))))⟩

theorem Vh : trF Tryz.prog GR = some m_matrix_Coding := by kernel_rfl
-- 89 shardlog/matrix.Mul; Ar [(0, a), (1, b), (2, a), (3, b), (5, f), (6, out), (7, _), (8, r), (9, row), (10, k), (11, c)]
noncomputable def m_matrix_Mul : MF := ⟨54, [.t 4],
 .seq (
 .ops [
 .p 4 .mv [(.const (.slice none 0 0))]]) (
 .seq (
 .seq (
 .ops [
 .p 12 .mv [(.tmp 0)],
 .p 13 (.ixs 1) [(.tmp 12), (.const (.int .i64 0))],
 .ld 14 (.tmp 13),
 .p 15 .len [(.tmp 14)],
 .p 16 .mv [(.tmp 1)],
 .p 17 .len [(.tmp 16)],
 .p 18 (.bin .neq) [(.tmp 15), (.tmp 17)]]) (
 .cond (.tmp 18) (
 .seq (
 .ops [
 .p 4 .mv [(.const (.slice none 0 0))]]) (
 .ret)) (
 .skip))) (
 .seq (
 .ops [
 .call (some 19) KT [],
 .p 5 .mv [(.tmp 19)]]) (
 .seq (
 .ops [
 .p 6 .mv [(.const (.slice none 0 0))]]) (
 .seq (
 .seq (
 .ops [
 .p 20 .mv [(.tmp 0)],
 .p 21 .len [(.tmp 20)],
 .p 22 .mv [(.const (.int .i64 0))]]) (
 .block 0 (
 .loop (
 .seq (
 .ops [
 .p 23 (.bin .lss) [(.tmp 22), (.tmp 21)]]) (
 .seq (
 .cond (.tmp 23) (
 .skip) (
 .exit 0)) (
 .seq (
 .block 1 (
 .seq (
 .ops [
 .p 24 (.ixs 1) [(.tmp 20), (.tmp 22)],
 .ld 25 (.tmp 24),
 .p 8 .mv [(.tmp 25)]]) (
 .seq (
 .ops [
 .p 26 .mv [(.tmp 1)],
 .p 27 (.ixs 1) [(.tmp 26), (.const (.int .i64 0))],
 .ld 28 (.tmp 27),
 .p 29 .len [(.tmp 28)],
 .gen (some 30) ⟨(some 30), (.makeSlice Au (.tmp 29) (.tmp 29)), Au, "matrix.go:42", #[⟨3, .data⟩, ⟨3, .data⟩], none⟩,
 .p 9 .mv [(.tmp 30)]]) (
 .seq (
 .seq (
 .ops [
 .p 31 .mv [(.tmp 8)],
 .p 32 .len [(.tmp 31)],
 .p 33 .mv [(.const (.int .i64 0))]]) (
 .block 2 (
 .loop (
 .seq (
 .ops [
 .p 34 (.bin .lss) [(.tmp 33), (.tmp 32)]]) (
 .seq (
 .cond (.tmp 34) (
 .skip) (
 .exit 2)) (
 .seq (
 .block 3 (
 .seq (
 .ops [
 .p 35 .mv [(.tmp 33)],
 .p 36 (.ixs 1) [(.tmp 31), (.tmp 33)],
 .ld 37 (.tmp 36),
 .p 10 .mv [(.tmp 35)],
 .p 11 .mv [(.tmp 37)]]) (
 .ops [
 .p 38 .mv [(.tmp 9)],
 .p 39 .mv [(.tmp 5)],
 .p 40 .mv [(.tmp 11)],
 .p 41 .mv [(.tmp 1)],
 .p 42 .mv [(.tmp 10)],
 .p 43 (.ixs 1) [(.tmp 41), (.tmp 42)],
 .ld 44 (.tmp 43),
 .call (some 45) E8 [(.tmp 39), (.tmp 40), (.tmp 44)],
 .call (some 46) Ji [(.tmp 38), (.tmp 45)]]))) (
 .ops [
 .p 47 (.bin .add) [(.tmp 33), (.const (.int .i64 1))],
 .p 33 .mv [(.tmp 47)]]))))))) (
 .ops [
 .p 48 .mv [(.tmp 6)],
 .p 49 .mv [(.tmp 9)],
 .bsl 50 Au 1 [(.slice none 0 0)] [(0, 1)] [(.tmp 49)],
 .app 51 #[Ep, Ep] Ep (.tmp 48) (.tmp 50),
 .p 6 .mv [(.tmp 51)]]))))) (
 .ops [
 .p 52 (.bin .add) [(.tmp 22), (.const (.int .i64 1))],
 .p 22 .mv [(.tmp 52)]]))))))) (
 .seq (
 .ops [
 .p 53 .mv [(.tmp 6)],
 .p 4 .mv [(.tmp 53)]]) (
 .ret))))))⟩

theorem Aab : trF Tryz.prog IY = some m_matrix_Mul := by kernel_rfl
-- 130 shardlog/matrix.One; Ar [(0, n), (1, n)]
noncomputable def m_matrix_One : MF := ⟨6, [.t 2],
 .seq (
 .ops [
 .p 2 .mv [(.const (.slice none 0 0))]]) (
 .seq (
 .ops [
 .p 3 .mv [(.tmp 0)],
 .p 4 .mv [(.tmp 0)],
 .call (some 5) GR [(.tmp 3), (.tmp 4)],
 .p 2 .mv [(.tmp 5)]]) (
 .ret))⟩

theorem Aaa : trF Tryz.prog OJ = some m_matrix_One := by kernel_rfl
-- 139 shardlog/shardlogref04.Mul; Ar [(0, a), (1, b), (2, a), (3, b), (5, out), (6, i), (7, row), (8, j), (9, x), (10, k)]
noncomputable def m_ref04_Mul : MF := ⟨64, [.t 4],
 .seq (
 .ops [
 .p 4 .mv [(.const (.slice none 0 0))]]) (
 .seq (
 .seq (
 .ops [
 .p 11 .mv [(.tmp 0)],
 .p 12 (.ixs 1) [(.tmp 11), (.const (.int .i64 0))],
 .ld 13 (.tmp 12),
 .p 14 .len [(.tmp 13)],
 .p 15 .mv [(.tmp 1)],
 .p 16 .len [(.tmp 15)],
 .p 17 (.bin .neq) [(.tmp 14), (.tmp 16)]]) (
 .cond (.tmp 17) (
 .seq (
 .ops [
 .p 4 .mv [(.const (.slice none 0 0))]]) (
 .ret)) (
 .skip))) (
 .seq (
 .ops [
 .p 5 .mv [(.const (.slice none 0 0))]]) (
 .seq (
 .seq (
 .ops [
 .p 6 .mv [(.const (.int .i64 0))]]) (
 .block 0 (
 .loop (
 .seq (
 .seq (
 .ops [
 .p 18 .mv [(.tmp 6)],
 .p 19 .mv [(.tmp 0)],
 .p 20 .len [(.tmp 19)],
 .p 21 (.bin .lss) [(.tmp 18), (.tmp 20)]]) (
 .cond (.tmp 21) (
 .skip) (
 .exit 0))) (
 .seq (
 .block 1 (
 .seq (
 .ops [
 .p 7 .mv [(.const (.slice none 0 0))]]) (
 .seq (
 .seq (
 .ops [
 .p 8 .mv [(.const (.int .i64 0))]]) (
 .block 2 (
 .loop (
 .seq (
 .seq (
 .ops [
 .p 24 .mv [(.tmp 8)],
 .p 25 .mv [(.tmp 1)],
 .p 26 (.ixs 1) [(.tmp 25), (.const (.int .i64 0))],
 .ld 27 (.tmp 26),
 .p 28 .len [(.tmp 27)],
 .p 29 (.bin .lss) [(.tmp 24), (.tmp 28)]]) (
 .cond (.tmp 29) (
 .skip) (
 .exit 2))) (
 .seq (
 .block 3 (
 .seq (
 .ops [
 .p 9 .mv [(.const (.int .u8 0))]]) (
 .seq (
 .seq (
 .ops [
 .p 10 .mv [(.const (.int .i64 0))]]) (
 .block 4 (
 .loop (
 .seq (
 .seq (
 .ops [
 .p 32 .mv [(.tmp 10)],
 .p 33 .mv [(.tmp 1)],
 .p 34 .len [(.tmp 33)],
 .p 35 (.bin .lss) [(.tmp 32), (.tmp 34)]]) (
 .cond (.tmp 35) (
 .skip) (
 .exit 4))) (
 .seq (
 .block 5 (
 .dr (
 .one ⟨.p 38 .mv [(.tmp 9)], []⟩ (
 .one ⟨.p 39 .mv [(.tmp 0)], []⟩ (
 .one ⟨.p 40 .mv [(.tmp 6)], []⟩ (
 .one ⟨.p 41 (.ixs 1) [(.tmp 39), (.tmp 40)], []⟩ (
 .one ⟨.ld 42 (.tmp 41), []⟩ (
 .one ⟨.p 43 .mv [(.tmp 10)], []⟩ (
 .one ⟨.p 44 (.ixs 1) [(.tmp 42), (.tmp 43)], []⟩ (
 .one ⟨.ld 45 (.tmp 44), []⟩ (
 .one ⟨.p 46 .mv [(.tmp 1)], []⟩ (
 .one ⟨.p 47 .mv [(.tmp 10)], []⟩ (
 .one ⟨.p 48 (.ixs 1) [(.tmp 46), (.tmp 47)], []⟩ (
 .one ⟨.ld 49 (.tmp 48), []⟩ (
 .one ⟨.p 50 .mv [(.tmp 8)], []⟩ (
 .one ⟨.p 51 (.ixs 1) [(.tmp 49), (.tmp 50)], []⟩ (
 .one ⟨.ld 52 (.tmp 51), []⟩ (
 .one ⟨.call (some 53) Nk [(.tmp 45), (.tmp 52)], [.ld 49 (.tmp 48), .ld 42 (.tmp 41)]⟩ (
 .one ⟨.p 54 (.bin .xor) [(.tmp 38), (.tmp 53)], []⟩ (
 .one ⟨.p 9 .mv [(.tmp 54)], []⟩ (
 .nil))))))))))))))))))))) (
 .ops [
 .p 36 .mv [(.tmp 10)],
 .p 37 (.bin .add) [(.tmp 36), (.const (.int .i64 1))],
 .p 10 .mv [(.tmp 37)]])))))) (
 .ops [
 .p 55 .mv [(.tmp 7)],
 .p 56 .mv [(.tmp 9)],
 .bsl 57 tU8 1 [(.int .u8 0)] [(0, 1)] [(.tmp 56)],
 .app 58 #[Au, Au] Au (.tmp 55) (.tmp 57),
 .p 7 .mv [(.tmp 58)]])))) (
 .ops [
 .p 30 .mv [(.tmp 8)],
 .p 31 (.bin .add) [(.tmp 30), (.const (.int .i64 1))],
 .p 8 .mv [(.tmp 31)]])))))) (
 .ops [
 .p 59 .mv [(.tmp 5)],
 .p 60 .mv [(.tmp 7)],
 .bsl 61 Au 1 [(.slice none 0 0)] [(0, 1)] [(.tmp 60)],
 .app 62 #[Ep, Ep] Ep (.tmp 59) (.tmp 61),
 .p 5 .mv [(.tmp 62)]])))) (
 .ops [
 .p 22 .mv [(.tmp 6)],
 .p 23 (.bin .add) [(.tmp 22), (.const (.int .i64 1))],
 .p 6 .mv [(.tmp 23)]])))))) (
 .seq (
 .ops [
 .p 63 .mv [(.tmp 5)],
 .p 4 .mv [(.tmp 63)]]) (
 .ret)))))⟩

theorem Acl : trF Tryz.prog Nj = some m_ref04_Mul := by kernel_rfl
-- 140 shardlog/shardlogref04.Coding; Ar [(0, k), (1, n), (2, k), (3, n), (5, out), (6, i), (7, row), (8, j), (9, x)]
noncomputable def m_ref04_Coding : MF := ⟨40, [.t 4],
 .seq (
 .ops [
 .p 4 .mv [(.const (.slice none 0 0))]]) (
 .seq (
 .ops [
 .p 5 .mv [(.const (.slice none 0 0))]]) (
 .seq (
 .seq (
 .ops [
 .p 6 .mv [(.const (.int .i64 0))]]) (
 .block 0 (
 .loop (
 .seq (
 .seq (
 .ops [
 .p 10 .mv [(.tmp 6)],
 .p 11 .mv [(.tmp 1)],
 .p 12 (.bin .lss) [(.tmp 10), (.tmp 11)]]) (
 .cond (.tmp 12) (
 .skip) (
 .exit 0))) (
 .seq (
 .block 1 (
 .seq (
 .ops [
 .p 7 .mv [(.const (.slice none 0 0))]]) (
 .seq (
 .seq (
 .ops [
 .p 8 .mv [(.const (.int .i64 0))]]) (
 .block 2 (
 .loop (
 .seq (
 .seq (
 .ops [
 .p 15 .mv [(.tmp 8)],
 .p 16 .mv [(.tmp 0)],
 .p 17 (.bin .lss) [(.tmp 15), (.tmp 16)]]) (
 .cond (.tmp 17) (
 .skip) (
 .exit 2))) (
 .seq (
 .block 3 (
 .seq (
 .ops [
 .p 9 .mv [(.const (.int .u8 0))]]) (
 .seq (
 .seq (
 .ops [
 .p 20 .mv [(.tmp 6)],
 .p 21 .mv [(.tmp 8)],
 .p 22 (.bin .eql) [(.tmp 20), (.tmp 21)]]) (
 .cond (.tmp 22) (
 .ops [
 .p 9 .mv [(.const (.int .u8 1))]]) (
 .skip))) (
 .seq (
 .seq (
 .ops [
 .p 23 .mv [(.tmp 6)],
 .p 24 .mv [(.tmp 0)],
 .p 25 (.bin .geq) [(.tmp 23), (.tmp 24)]]) (
 .cond (.tmp 25) (
 .ops [
 .p 26 .mv [(.tmp 6)],
 .p 27 .mv [(.tmp 8)],
 .p 28 (.bin .xor) [(.tmp 26), (.tmp 27)],
 .p 29 (.conv .u8) [(.tmp 28)],
 .call (some 30) PL [(.tmp 29)],
 .p 9 .mv [(.tmp 30)]]) (
 .skip))) (
 .ops [
 .p 31 .mv [(.tmp 7)],
 .p 32 .mv [(.tmp 9)],
 .bsl 33 tU8 1 [(.int .u8 0)] [(0, 1)] [(.tmp 32)],
 .app 34 #[Au, Au] Au (.tmp 31) (.tmp 33),
 .p 7 .mv [(.tmp 34)]]))))) (
 .ops [
 .p 18 .mv [(.tmp 8)],
 .p 19 (.bin .add) [(.tmp 18), (.const (.int .i64 1))],
 .p 8 .mv [(.tmp 19)]])))))) (
 .ops [
 .p 35 .mv [(.tmp 5)],
 .p 36 .mv [(.tmp 7)],
 .bsl 37 Au 1 [(.slice none 0 0)] [(0, 1)] [(.tmp 36)],
 .app 38 #[Ep, Ep] Ep (.tmp 35) (.tmp 37),
 .p 5 .mv [(.tmp 38)]])))) (
 .ops [
 .p 13 .mv [(.tmp 6)],
 .p 14 (.bin .add) [(.tmp 13), (.const (.int .i64 1))],
 .p 6 .mv [(.tmp 14)]])))))) (
 .seq (
 .ops [
 .p 39 .mv [(.tmp 5)],
 .p 4 .mv [(.tmp 39)]]) (
 .ret))))⟩

theorem Xw : trF Tryz.prog JW = some m_ref04_Coding := by kernel_rfl
-- 27 shardlog/shardlogref01.Same; Ar [(0, a), (1, b), (2, a), (3, b)]
noncomputable def m_ref01_Same : MF := ⟨10, [.t 4],
 .seq (
 .ops [
 .p 4 .mv [(.const (.bool false))]]) (
 .seq (
 .ops [
 .p 5 .mv [(.tmp 0)],
 .bs 6 (.tmp 5),
 .p 7 .mv [(.tmp 1)],
 .bs 8 (.tmp 7),
 .p 9 (.bin .eql) [(.tmp 6), (.tmp 8)],
 .p 4 .mv [(.tmp 9)]]) (
 .ret))⟩

theorem Z9 : trF Tryz.prog LG = some m_ref01_Same := by kernel_rfl
-- 69 slices.Clone[[]byte,byte]; Ar [(0, s), (1, s)]
noncomputable def m_slices_Clone : MF := ⟨8, [.t 2],
 .seq (
 .ops [
 .p 2 .mv [(.const (.slice none 0 0))]]) (
 .seq (
 .seq (
 .ops [
 .p 3 .mv [(.tmp 0)],
 .p 4 (.isnil .sl false) [(.tmp 3)]]) (
 .cond (.tmp 4) (
 .seq (
 .ops [
 .p 2 .mv [(.const (.slice none 0 0))]]) (
 .ret)) (
 .skip))) (
 .seq (
 .ops [
 .bsl 5 tU8 0 [] [] [],
 .p 6 .mv [(.tmp 0)],
 .app 7 #[Au, Au] Au (.tmp 5) (.tmp 6),
 .p 2 .mv [(.tmp 7)]]) (
 .ret)))⟩

theorem PZ : trF Tryz.prog DY = some m_slices_Clone := by kernel_rfl
-- 104 shardlog/shardlogref01.Num; Ar [(0, n), (1, n)]
noncomputable def m_ref01_Num : MF := ⟨24, [.t 2],
 .seq (
 .ops [
 .p 2 .mv [(.const (.slice none 0 0))]]) (
 .seq (
 .seq (
 .ops [
 .p 3 .mv [(.tmp 0)],
 .p 4 (.bin .lss) [(.tmp 3), (.const (.int .i64 0))],
 .p 5 .mv [(.tmp 4)],
 .gd 5 false (some 6) (.p 6 .mv [(.tmp 0)]),
 .gd 5 false (some 7) (.p 7 (.bin .gtr) [(.tmp 6), (.const (.int .i64 4294967295))]),
 .p 8 .pick [(.tmp 5), (.const (.bool true)), (.tmp 7)]]) (
 .cond (.tmp 8) (
 .seq (
 .ops [
 .p 2 .mv [(.const (.slice none 0 0))]]) (
 .ret)) (
 .skip))) (
 .seq (
 .ops [
 .p 9 .mv [(.tmp 0)],
 .p 10 (.bin .quo) [(.tmp 9), (.const (.int .i64 16777216))],
 .p 11 (.conv .u8) [(.tmp 10)],
 .p 12 .mv [(.tmp 0)],
 .p 13 (.bin .quo) [(.tmp 12), (.const (.int .i64 65536))],
 .p 14 (.bin .rem) [(.tmp 13), (.const (.int .i64 256))],
 .p 15 (.conv .u8) [(.tmp 14)],
 .p 16 .mv [(.tmp 0)],
 .p 17 (.bin .quo) [(.tmp 16), (.const (.int .i64 256))],
 .p 18 (.bin .rem) [(.tmp 17), (.const (.int .i64 256))],
 .p 19 (.conv .u8) [(.tmp 18)],
 .p 20 .mv [(.tmp 0)],
 .p 21 (.bin .rem) [(.tmp 20), (.const (.int .i64 256))],
 .p 22 (.conv .u8) [(.tmp 21)],
 .bsl 23 tU8 4 [(.int .u8 0), (.int .u8 0), (.int .u8 0), (.int .u8 0)] [(0, 1), (1, 1), (2, 1), (3, 1)] [(.tmp 11), (.tmp 15), (.tmp 19), (.tmp 22)],
 .p 2 .mv [(.tmp 23)]]) (
 .ret)))⟩

theorem Acp : trF Tryz.prog Ho = some m_ref01_Num := by kernel_rfl
-- 106 shardlog/shardlogref01.Text; Ar [(0, s), (1, s)]
noncomputable def m_ref01_Text : MF := ⟨9, [.t 2],
 .seq (
 .ops [
 .p 2 .mv [(.const (.slice none 0 0))]]) (
 .seq (
 .ops [
 .p 3 .mv [(.tmp 0)],
 .p 4 .lens [(.tmp 3)],
 .call (some 5) Ho [(.tmp 4)],
 .p 6 .mv [(.tmp 0)],
 .gen (some 7) ⟨(some 7), (.convert QA Au (.tmp 6)), Au, "ref.go:13", #[⟨3, .data⟩], none⟩,
 .app 8 #[Au, Au] Au (.tmp 5) (.tmp 7),
 .p 2 .mv [(.tmp 8)]]) (
 .ret))⟩

theorem Z8 : trF Tryz.prog JX = some m_ref01_Text := by kernel_rfl
-- 108 slices.Concat[[]byte,byte]; Ar [(0, slices), (1, slices), (3, size), (4, _), (5, s), (6, newslice), (7, _), (8, s)]
noncomputable def m_slices_Concat : MF := ⟨36, [.t 2],
 .seq (
 .ops [
 .p 2 .mv [(.const (.slice none 0 0))]]) (
 .seq (
 .ops [
 .p 3 .mv [(.const (.int .i64 0))]]) (
 .seq (
 .seq (
 .ops [
 .p 9 .mv [(.tmp 0)],
 .p 10 .len [(.tmp 9)],
 .p 11 .mv [(.const (.int .i64 0))]]) (
 .block 0 (
 .loop (
 .seq (
 .ops [
 .p 12 (.bin .lss) [(.tmp 11), (.tmp 10)]]) (
 .seq (
 .cond (.tmp 12) (
 .skip) (
 .exit 0)) (
 .seq (
 .block 1 (
 .seq (
 .ops [
 .p 13 (.ixs 1) [(.tmp 9), (.tmp 11)],
 .ld 14 (.tmp 13),
 .p 5 .mv [(.tmp 14)]]) (
 .seq (
 .ops [
 .p 15 .mv [(.tmp 3)],
 .p 16 .mv [(.tmp 5)],
 .p 17 .len [(.tmp 16)],
 .p 18 (.bin .add) [(.tmp 15), (.tmp 17)],
 .p 3 .mv [(.tmp 18)]]) (
 .seq (
 .ops [
 .p 19 .mv [(.tmp 3)],
 .p 20 (.bin .lss) [(.tmp 19), (.const (.int .i64 0))]]) (
 .cond (.tmp 20) (
 .ops [
 .p 21 (.ifc QA) [(.const (.string ⟨#[108, 101, 110, 32, 111, 117, 116, 32, 111, 102, 32, 114, 97, 110, 103, 101]⟩))],
 .gen none ⟨none, (.panic (.tmp 21)), 0, "slices.go:496", #[⟨0, .data⟩], none⟩]) (
 .skip)))))) (
 .ops [
 .p 22 (.bin .add) [(.tmp 11), (.const (.int .i64 1))],
 .p 11 .mv [(.tmp 22)]]))))))) (
 .seq (
 .ops [
 .p 23 .mv [(.tmp 3)],
 .call (some 24) Nz [(.const (.slice none 0 0)), (.tmp 23)],
 .p 6 .mv [(.tmp 24)]]) (
 .seq (
 .seq (
 .ops [
 .p 25 .mv [(.tmp 0)],
 .p 26 .len [(.tmp 25)],
 .p 27 .mv [(.const (.int .i64 0))]]) (
 .block 2 (
 .loop (
 .seq (
 .ops [
 .p 28 (.bin .lss) [(.tmp 27), (.tmp 26)]]) (
 .seq (
 .cond (.tmp 28) (
 .skip) (
 .exit 2)) (
 .seq (
 .block 3 (
 .seq (
 .ops [
 .p 29 (.ixs 1) [(.tmp 25), (.tmp 27)],
 .ld 30 (.tmp 29),
 .p 8 .mv [(.tmp 30)]]) (
 .ops [
 .p 31 .mv [(.tmp 6)],
 .p 32 .mv [(.tmp 8)],
 .app 33 #[Au, Au] Au (.tmp 31) (.tmp 32),
 .p 6 .mv [(.tmp 33)]]))) (
 .ops [
 .p 34 (.bin .add) [(.tmp 27), (.const (.int .i64 1))],
 .p 27 .mv [(.tmp 34)]]))))))) (
 .seq (
 .ops [
 .p 35 .mv [(.tmp 6)],
 .p 2 .mv [(.tmp 35)]]) (
 .ret))))))⟩

theorem Ve : trF Tryz.prog GN = some m_slices_Concat := by kernel_rfl
-- 109 shardlog/wire.Num; Ar [(0, n), (1, n)]
noncomputable def m_wire_Num : MF := ⟨21, [.t 2],
 .seq (
 .ops [
 .p 2 .mv [(.const (.slice none 0 0))]]) (
 .seq (
 .seq (
 .ops [
 .p 3 .mv [(.tmp 0)],
 .p 4 (.bin .lss) [(.tmp 3), (.const (.int .i64 0))],
 .p 5 .mv [(.tmp 4)],
 .gd 5 false (some 6) (.p 6 .mv [(.tmp 0)]),
 .gd 5 false (some 7) (.p 7 (.bin .gtr) [(.tmp 6), (.const (.int .i64 4294967295))]),
 .p 8 .pick [(.tmp 5), (.const (.bool true)), (.tmp 7)]]) (
 .cond (.tmp 8) (
 .seq (
 .ops [
 .p 2 .mv [(.const (.slice none 0 0))]]) (
 .ret)) (
 .skip))) (
 .seq (
 .ops [
 .p 9 .mv [(.tmp 0)],
 .p 10 (.bin .shr) [(.tmp 9), (.const (.int .u64 24))],
 .p 11 (.conv .u8) [(.tmp 10)],
 .p 12 .mv [(.tmp 0)],
 .p 13 (.bin .shr) [(.tmp 12), (.const (.int .u64 16))],
 .p 14 (.conv .u8) [(.tmp 13)],
 .p 15 .mv [(.tmp 0)],
 .p 16 (.bin .shr) [(.tmp 15), (.const (.int .u64 8))],
 .p 17 (.conv .u8) [(.tmp 16)],
 .p 18 .mv [(.tmp 0)],
 .p 19 (.conv .u8) [(.tmp 18)],
 .bsl 20 tU8 4 [(.int .u8 0), (.int .u8 0), (.int .u8 0), (.int .u8 0)] [(0, 1), (1, 1), (2, 1), (3, 1)] [(.tmp 11), (.tmp 14), (.tmp 17), (.tmp 19)],
 .p 2 .mv [(.tmp 20)]]) (
 .ret)))⟩

theorem AdN : trF Tryz.prog Jw = some m_wire_Num := by kernel_rfl
-- 112 shardlog/wire.Text; Ar [(0, s), (1, s)]
noncomputable def m_wire_Text : MF := ⟨8, [.t 2],
 .seq (
 .ops [
 .p 2 .mv [(.const (.slice none 0 0))]]) (
 .seq (
 .ops [
 .p 3 .mv [(.tmp 0)],
 .p 4 .lens [(.tmp 3)],
 .call (some 5) Jw [(.tmp 4)],
 .p 6 .mv [(.tmp 0)],
 .app 7 #[Au, QA] Au (.tmp 5) (.tmp 6),
 .p 2 .mv [(.tmp 7)]]) (
 .ret))⟩

theorem Aci : trF Tryz.prog KQ = some m_wire_Text := by kernel_rfl
-- 134 shardlog/wire.CutText; Ar [(0, b), (1, b), (5, n), (6, rest), (7, ok)]
noncomputable def m_wire_CutText : MF := ⟨29, [.t 2, .t 3, .t 4],
 .seq (
 .ops [
 .p 2 .mv [(.const (.string .empty))],
 .p 3 .mv [(.const (.slice none 0 0))],
 .p 4 .mv [(.const (.bool false))]]) (
 .seq (
 .ops [
 .p 9 .mv [(.tmp 0)],
 .call (some 10) Ih [(.tmp 9)],
 .p 8 .mv [(.tmp 10)],
 .p 11 (.ext 0) [(.tmp 8)],
 .p 12 (.ext 1) [(.tmp 8)],
 .p 13 (.ext 2) [(.tmp 8)],
 .p 5 .mv [(.tmp 11)],
 .p 6 .mv [(.tmp 12)],
 .p 7 .mv [(.tmp 13)]]) (
 .seq (
 .seq (
 .ops [
 .p 14 .mv [(.tmp 7)],
 .p 15 .not [(.tmp 14)],
 .p 16 .mv [(.tmp 15)],
 .gd 16 false (some 17) (.p 17 .mv [(.tmp 5)]),
 .gd 16 false (some 18) (.p 18 .mv [(.tmp 6)]),
 .gd 16 false (some 19) (.p 19 .len [(.tmp 18)]),
 .gd 16 false (some 20) (.p 20 (.bin .gtr) [(.tmp 17), (.tmp 19)]),
 .p 21 .pick [(.tmp 16), (.const (.bool true)), (.tmp 20)]]) (
 .cond (.tmp 21) (
 .seq (
 .ops [
 .p 2 .mv [(.const (.string .empty))],
 .p 3 .mv [(.const (.slice none 0 0))],
 .p 4 .mv [(.const (.bool false))]]) (
 .ret)) (
 .skip))) (
 .seq (
 .dr (
 .one ⟨.p 22 .mv [(.tmp 6)], []⟩ (
 .one ⟨.p 23 .mv [(.tmp 5)], []⟩ (
 .one ⟨.p 24 (.sls 1 false true false) [(.tmp 22), (.tmp 23)], []⟩ (
 .one ⟨.bs 25 (.tmp 24), []⟩ (
 .one ⟨.p 26 .mv [(.tmp 6)], []⟩ (
 .one ⟨.p 27 .mv [(.tmp 5)], []⟩ (
 .one ⟨.p 28 (.sls 1 true false false) [(.tmp 26), (.tmp 27)], []⟩ (
 .one ⟨.p 2 .mv [(.tmp 25)], []⟩ (
 .one ⟨.p 3 .mv [(.tmp 28)], []⟩ (
 .one ⟨.p 4 .mv [(.const (.bool true))], []⟩ (
 .nil)))))))))))) (
 .ret))))⟩

theorem Xq : trF Tryz.prog JU = some m_wire_CutText := by kernel_rfl
-- 137 slices.Equal[[]byte,byte]; Ar [(0, s1), (1, s2), (2, s1), (3, s2), (5, i)]
noncomputable def m_slices_Equal : MF := ⟨26, [.t 4],
 .seq (
 .ops [
 .p 4 .mv [(.const (.bool false))]]) (
 .seq (
 .seq (
 .ops [
 .p 6 .mv [(.tmp 0)],
 .p 7 .len [(.tmp 6)],
 .p 8 .mv [(.tmp 1)],
 .p 9 .len [(.tmp 8)],
 .p 10 (.bin .neq) [(.tmp 7), (.tmp 9)]]) (
 .cond (.tmp 10) (
 .seq (
 .ops [
 .p 4 .mv [(.const (.bool false))]]) (
 .ret)) (
 .skip))) (
 .seq (
 .seq (
 .ops [
 .p 11 .mv [(.tmp 0)],
 .p 12 .len [(.tmp 11)],
 .p 13 .mv [(.const (.int .i64 0))]]) (
 .block 0 (
 .loop (
 .seq (
 .ops [
 .p 14 (.bin .lss) [(.tmp 13), (.tmp 12)]]) (
 .seq (
 .cond (.tmp 14) (
 .skip) (
 .exit 0)) (
 .seq (
 .block 1 (
 .seq (
 .ops [
 .p 15 .mv [(.tmp 13)],
 .p 5 .mv [(.tmp 15)]]) (
 .seq (
 .dr (
 .one ⟨.p 16 .mv [(.tmp 0)], []⟩ (
 .one ⟨.p 17 .mv [(.tmp 5)], []⟩ (
 .one ⟨.p 18 (.ixs 1) [(.tmp 16), (.tmp 17)], []⟩ (
 .one ⟨.ld 19 (.tmp 18), []⟩ (
 .one ⟨.p 20 .mv [(.tmp 1)], []⟩ (
 .one ⟨.p 21 .mv [(.tmp 5)], []⟩ (
 .one ⟨.p 22 (.ixs 1) [(.tmp 20), (.tmp 21)], []⟩ (
 .one ⟨.ld 23 (.tmp 22), []⟩ (
 .one ⟨.p 24 (.bin .neq) [(.tmp 19), (.tmp 23)], []⟩ (
 .nil))))))))))) (
 .cond (.tmp 24) (
 .seq (
 .ops [
 .p 4 .mv [(.const (.bool false))]]) (
 .ret)) (
 .skip))))) (
 .ops [
 .p 25 (.bin .add) [(.tmp 13), (.const (.int .i64 1))],
 .p 13 .mv [(.tmp 25)]]))))))) (
 .seq (
 .ops [
 .p 4 .mv [(.const (.bool true))]]) (
 .ret))))⟩

theorem Xt : trF Tryz.prog II = some m_slices_Equal := by kernel_rfl
-- 143 shardlog/wire.CutNum; Ar [(0, b), (1, b), (5, n), (6, _), (7, c)]
noncomputable def m_wire_CutNum : MF := ⟨28, [.t 2, .t 3, .t 4],
 .seq (
 .ops [
 .p 2 .mv [(.const (.int .i64 0))],
 .p 3 .mv [(.const (.slice none 0 0))],
 .p 4 .mv [(.const (.bool false))]]) (
 .seq (
 .seq (
 .ops [
 .p 8 .mv [(.tmp 0)],
 .p 9 .len [(.tmp 8)],
 .p 10 (.bin .lss) [(.tmp 9), (.const (.int .i64 4))]]) (
 .cond (.tmp 10) (
 .seq (
 .ops [
 .p 2 .mv [(.const (.int .i64 0))],
 .p 3 .mv [(.const (.slice none 0 0))],
 .p 4 .mv [(.const (.bool false))]]) (
 .ret)) (
 .skip))) (
 .seq (
 .ops [
 .p 5 .mv [(.const (.int .i64 0))]]) (
 .seq (
 .seq (
 .ops [
 .p 11 .mv [(.tmp 0)],
 .p 12 (.sls 1 false true false) [(.tmp 11), (.const (.int .i64 4))],
 .p 13 .len [(.tmp 12)],
 .p 14 .mv [(.const (.int .i64 0))]]) (
 .block 0 (
 .loop (
 .seq (
 .ops [
 .p 15 (.bin .lss) [(.tmp 14), (.tmp 13)]]) (
 .seq (
 .cond (.tmp 15) (
 .skip) (
 .exit 0)) (
 .seq (
 .block 1 (
 .seq (
 .ops [
 .p 16 (.ixs 1) [(.tmp 12), (.tmp 14)],
 .ld 17 (.tmp 16),
 .p 7 .mv [(.tmp 17)]]) (
 .ops [
 .p 18 .mv [(.tmp 5)],
 .p 19 (.bin .shl) [(.tmp 18), (.const (.int .u64 8))],
 .p 20 .mv [(.tmp 7)],
 .p 21 (.conv .i64) [(.tmp 20)],
 .p 22 (.bin .or) [(.tmp 19), (.tmp 21)],
 .p 5 .mv [(.tmp 22)]]))) (
 .ops [
 .p 23 (.bin .add) [(.tmp 14), (.const (.int .i64 1))],
 .p 14 .mv [(.tmp 23)]]))))))) (
 .seq (
 .ops [
 .p 24 .mv [(.tmp 5)],
 .p 25 .mv [(.tmp 0)],
 .p 26 (.sls 1 true false false) [(.tmp 25), (.const (.int .i64 4))],
 .call (some 27) DY [(.tmp 26)],
 .p 2 .mv [(.tmp 24)],
 .p 3 .mv [(.tmp 27)],
 .p 4 .mv [(.const (.bool true))]]) (
 .ret)))))⟩

theorem XV : trF Tryz.prog Ih = some m_wire_CutNum := by kernel_rfl
-- 146 slices.Grow[[]byte,byte]; Ar [(0, s), (1, n), (2, s), (3, n)]
noncomputable def m_slices_Grow : MF := ⟨27, [.t 4],
 .seq (
 .ops [
 .p 4 .mv [(.const (.slice none 0 0))]]) (
 .seq (
 .seq (
 .ops [
 .p 5 .mv [(.tmp 1)],
 .p 6 (.bin .lss) [(.tmp 5), (.const (.int .i64 0))]]) (
 .cond (.tmp 6) (
 .ops [
 .p 7 (.ifc QA) [(.const (.string ⟨#[99, 97, 110, 110, 111, 116, 32, 98, 101, 32, 110, 101, 103, 97, 116, 105, 118, 101]⟩))],
 .gen none ⟨none, (.panic (.tmp 7)), 0, "slices.go:424", #[⟨0, .data⟩], none⟩]) (
 .skip))) (
 .seq (
 .seq (
 .ops [
 .p 8 .mv [(.tmp 1)],
 .p 9 .mv [(.tmp 0)],
 .p 10 .cap [(.tmp 9)],
 .p 11 .mv [(.tmp 0)],
 .p 12 .len [(.tmp 11)],
 .p 13 (.bin .sub) [(.tmp 10), (.tmp 12)],
 .p 14 (.bin .sub) [(.tmp 8), (.tmp 13)],
 .p 1 .mv [(.tmp 14)]]) (
 .seq (
 .ops [
 .p 15 .mv [(.tmp 1)],
 .p 16 (.bin .gtr) [(.tmp 15), (.const (.int .i64 0))]]) (
 .cond (.tmp 16) (
 .ops [
 .p 17 .mv [(.tmp 0)],
 .p 18 .mv [(.tmp 0)],
 .p 19 .cap [(.tmp 18)],
 .p 20 (.sls 1 false true false) [(.tmp 17), (.tmp 19)],
 .p 21 .mv [(.tmp 1)],
 .app 22 #[Au, Y1] Au (.tmp 20) (.tmp 21),
 .p 23 .mv [(.tmp 0)],
 .p 24 .len [(.tmp 23)],
 .p 25 (.sls 1 false true false) [(.tmp 22), (.tmp 24)],
 .p 0 .mv [(.tmp 25)]]) (
 .skip)))) (
 .seq (
 .ops [
 .p 26 .mv [(.tmp 0)],
 .p 4 .mv [(.tmp 26)]]) (
 .ret))))⟩

theorem XW : trF Tryz.prog Nz = some m_slices_Grow := by kernel_rfl
-- 32 shardlog/shardlogref05.Shape; Ar [(0, a), (1, b), (2, a), (3, b), (5, f)]
noncomputable def m_ref05_Shape : MF := ⟨18, [.cn 4 2],
 .seq (
 .ops [
 .new 4 Dl [(.int .i64 0), (.int .i64 0)]]) (
 .seq (
 .ops [
 .p 6 .mv [(.tmp 1)],
 .p 7 (.bin .rem) [(.tmp 6), (.const (.int .u8 4))],
 .p 8 (.conv .i64) [(.tmp 7)],
 .p 5 .mv [(.tmp 8)]]) (
 .seq (
 .ops [
 .p 9 .mv [(.tmp 0)],
 .p 10 (.conv .i64) [(.tmp 9)],
 .p 11 .mv [(.tmp 5)],
 .p 12 (.bin .mul) [(.const (.int .i64 2)), (.tmp 11)],
 .p 13 (.bin .sub) [(.const (.int .i64 7)), (.tmp 12)],
 .p 14 (.bin .rem) [(.tmp 10), (.tmp 13)],
 .p 15 (.bin .add) [(.const (.int .i64 1)), (.tmp 14)],
 .p 16 .mv [(.tmp 5)],
 .p 17 (.build [(.int .i64 0), (.int .i64 0)] [(0, 1), (1, 1)]) [(.tmp 15), (.tmp 16)],
 .st 2 true (.tmp 4) (.tmp 17)]) (
 .ret)))⟩

theorem X3 : trF Tryz.prog KL = some m_ref05_Shape := by kernel_rfl
-- 33 shardlog/shardlogref05.N; Ar [(0, s), (1, s)]
noncomputable def m_ref05_N : MF := ⟨11, [.t 2],
 .seq (
 .ops [
 .box 1 Dl (.tmp 0),
 .p 2 .mv [(.const (.int .i64 0))]]) (
 .seq (
 .ops [
 .p 3 (.fad 0) [(.tmp 1)],
 .ld 4 (.tmp 3),
 .p 5 (.fad 1) [(.tmp 1)],
 .ld 6 (.tmp 5),
 .p 7 (.bin .add) [(.tmp 4), (.tmp 6)],
 .p 8 (.fad 1) [(.tmp 1)],
 .ld 9 (.tmp 8),
 .p 10 (.bin .add) [(.tmp 7), (.tmp 9)],
 .p 2 .mv [(.tmp 10)]]) (
 .ret))⟩

theorem AfM : trF Tryz.prog Ui = some m_ref05_N := by kernel_rfl
-- 41 shardlog/code.Decode; Ar [(0, s), (1, l), (2, s), (3, l), (6, at), (7, first), (8, x), (9, ok), (10, v)]
noncomputable def m_code_Decode : MF := ⟨70, [.t 4, .t 5],
 .seq (
 .ops [
 .box 2 Dl (.tmp 0),
 .p 4 .mv [(.const (.string .empty))],
 .p 5 .mv [(.const (.int .i64 0))]]) (
 .seq (
 .seq (
 .ops [
 .ldn 11 2 (.tmp 2),
 .call (some 12) H6 [(.tmp 11)],
 .p 13 .not [(.tmp 12)],
 .p 14 .mv [(.tmp 13)],
 .gd 14 false (some 15) (.p 15 .mv [(.tmp 1)]),
 .gd 14 false (some 16) (.p 16 .len [(.tmp 15)]),
 .gd 14 false (some 17) (.ldn 17 2 (.tmp 2)),
 .gd 14 false (some 18) (.call (some 18) MO [(.tmp 17)]),
 .gd 14 false (some 19) (.p 19 (.bin .neq) [(.tmp 16), (.tmp 18)]),
 .p 20 .pick [(.tmp 14), (.const (.bool true)), (.tmp 19)]]) (
 .cond (.tmp 20) (
 .seq (
 .ops [
 .p 4 .mv [(.const (.string .empty))],
 .p 5 .mv [(.const (.int .i64 1))]]) (
 .ret)) (
 .skip))) (
 .seq (
 .ops [
 .p 21 .mv [(.tmp 1)],
 .call (some 22) LH [(.tmp 21)],
 .p 6 .mv [(.tmp 22)]]) (
 .seq (
 .seq (
 .ops [
 .p 23 .mv [(.tmp 6)],
 .p 24 .len [(.tmp 23)],
 .p 25 (.fad 0) [(.tmp 2)],
 .ld 26 (.tmp 25),
 .p 27 (.bin .lss) [(.tmp 24), (.tmp 26)]]) (
 .cond (.tmp 27) (
 .seq (
 .ops [
 .p 4 .mv [(.const (.string .empty))],
 .p 5 .mv [(.const (.int .i64 3))]]) (
 .ret)) (
 .skip))) (
 .seq (
 .ops [
 .p 28 .mv [(.tmp 1)],
 .p 29 .mv [(.tmp 6)],
 .p 30 (.fad 0) [(.tmp 2)],
 .ld 31 (.tmp 30),
 .p 32 (.sls 1 false true false) [(.tmp 29), (.tmp 31)],
 .call (some 33) Jj [(.tmp 28), (.tmp 32)],
 .p 7 .mv [(.tmp 33)]]) (
 .seq (
 .seq (
 .ops [
 .p 34 .mv [(.tmp 7)],
 .call (some 35) JY [(.tmp 34)],
 .p 36 .not [(.tmp 35)]]) (
 .cond (.tmp 36) (
 .seq (
 .ops [
 .p 4 .mv [(.const (.string .empty))],
 .p 5 .mv [(.const (.int .i64 2))]]) (
 .ret)) (
 .skip))) (
 .seq (
 .dr (
 .one ⟨.p 38 (.fad 0) [(.tmp 2)], []⟩ (
 .one ⟨.ld 39 (.tmp 38), []⟩ (
 .one ⟨.ldn 40 2 (.tmp 2), []⟩ (
 .one ⟨.p 43 .mv [(.tmp 6)], []⟩ (
 .one ⟨.p 44 (.fad 0) [(.tmp 2)], []⟩ (
 .one ⟨.ld 45 (.tmp 44), []⟩ (
 .one ⟨.p 46 (.sls 1 false true false) [(.tmp 43), (.tmp 45)], []⟩ (
 .one ⟨.call (some 41) MO [(.tmp 40)], [.ld 45 (.tmp 44), .ld 39 (.tmp 38)]⟩ (
 .one ⟨.call (some 42) GR [(.tmp 39), (.tmp 41)], [.ld 45 (.tmp 44)]⟩ (
 .one ⟨.call (some 47) Jj [(.tmp 42), (.tmp 46)], [.ld 45 (.tmp 44)]⟩ (
 .one ⟨.call (some 48) Jr [(.tmp 47)], [.ld 45 (.tmp 44)]⟩ (
 .one ⟨.p 37 .mv [(.tmp 48)], []⟩ (
 .one ⟨.p 49 (.ext 0) [(.tmp 37)], []⟩ (
 .one ⟨.p 50 (.ext 1) [(.tmp 37)], []⟩ (
 .one ⟨.p 8 .mv [(.tmp 49)], []⟩ (
 .one ⟨.p 9 .mv [(.tmp 50)], []⟩ (
 .nil)))))))))))))))))) (
 .seq (
 .seq (
 .ops [
 .p 51 .mv [(.tmp 9)],
 .p 52 .not [(.tmp 51)]]) (
 .cond (.tmp 52) (
 .seq (
 .ops [
 .p 4 .mv [(.const (.string .empty))],
 .p 5 .mv [(.const (.int .i64 2))]]) (
 .ret)) (
 .skip))) (
 .seq (
 .ops [
 .p 54 .mv [(.tmp 8)],
 .p 55 .mv [(.tmp 7)],
 .call (some 56) IY [(.tmp 54), (.tmp 55)],
 .call (some 57) OL [(.tmp 56)],
 .p 53 .mv [(.tmp 57)],
 .p 58 (.ext 0) [(.tmp 53)],
 .p 59 (.ext 1) [(.tmp 53)],
 .p 10 .mv [(.tmp 58)],
 .p 9 .mv [(.tmp 59)]]) (
 .seq (
 .seq (
 .ops [
 .p 60 .mv [(.tmp 9)],
 .p 61 .not [(.tmp 60)],
 .p 62 .mv [(.tmp 61)],
 .gd 62 false (some 63) (.ldn 63 2 (.tmp 2)),
 .gd 62 false (some 64) (.p 64 .mv [(.tmp 10)]),
 .gd 62 false (some 65) (.p 65 .mv [(.tmp 1)]),
 .gd 62 false (some 66) (.call (some 66) NE [(.tmp 63), (.tmp 64), (.tmp 65)]),
 .gd 62 false (some 67) (.p 67 .not [(.tmp 66)]),
 .p 68 .pick [(.tmp 62), (.const (.bool true)), (.tmp 67)]]) (
 .cond (.tmp 68) (
 .seq (
 .ops [
 .p 4 .mv [(.const (.string .empty))],
 .p 5 .mv [(.const (.int .i64 2))]]) (
 .ret)) (
 .skip))) (
 .seq (
 .ops [
 .p 69 .mv [(.tmp 10)],
 .p 4 .mv [(.tmp 69)],
 .p 5 .mv [(.const (.int .i64 0))]]) (
 .ret)))))))))))⟩

theorem Ya : trF Tryz.prog NF = some m_code_Decode := by kernel_rfl
-- 42 shardlog/code.N; Ar [(0, s), (1, s)]
noncomputable def m_code_N : MF := ⟨12, [.t 2],
 .seq (
 .ops [
 .box 1 Dl (.tmp 0),
 .p 2 .mv [(.const (.int .i64 0))]]) (
 .seq (
 .seq (
 .ops [
 .ldn 3 2 (.tmp 1),
 .call (some 4) H6 [(.tmp 3)],
 .p 5 .not [(.tmp 4)]]) (
 .cond (.tmp 5) (
 .seq (
 .ops [
 .p 2 .mv [(.const (.int .i64 0))]]) (
 .ret)) (
 .skip))) (
 .seq (
 .ops [
 .p 6 (.fad 0) [(.tmp 1)],
 .ld 7 (.tmp 6),
 .p 8 (.fad 1) [(.tmp 1)],
 .ld 9 (.tmp 8),
 .p 10 (.bin .mul) [(.const (.int .i64 2)), (.tmp 9)],
 .p 11 (.bin .add) [(.tmp 7), (.tmp 10)],
 .p 2 .mv [(.tmp 11)]]) (
 .ret)))⟩

theorem Ahy : trF Tryz.prog MO = some m_code_N := by kernel_rfl
-- 43 shardlog/shardlogref05.Right; Ar [(0, s), (1, s)]
-- 79 shardlog/code.Right; Ar [(0, s), (1, s)]
noncomputable def m_code_Right : MF := ⟨30, [.t 2],
 .seq (
 .ops [
 .box 1 Dl (.tmp 0),
 .p 2 .mv [(.const (.bool false))]]) (
 .seq (
 .ops [
 .p 3 (.fad 0) [(.tmp 1)],
 .ld 4 (.tmp 3),
 .p 5 (.bin .geq) [(.tmp 4), (.const (.int .i64 1))],
 .p 6 .mv [(.tmp 5)],
 .gd 6 true (some 7) (.p 7 (.fad 0) [(.tmp 1)]),
 .gd 6 true (some 8) (.ld 8 (.tmp 7)),
 .gd 6 true (some 9) (.p 9 (.bin .leq) [(.tmp 8), (.const (.int .i64 7))]),
 .p 10 .pick [(.tmp 6), (.tmp 9), (.const (.bool false))],
 .p 11 .mv [(.tmp 10)],
 .gd 11 true (some 12) (.p 12 (.fad 1) [(.tmp 1)]),
 .gd 11 true (some 13) (.ld 13 (.tmp 12)),
 .gd 11 true (some 14) (.p 14 (.bin .geq) [(.tmp 13), (.const (.int .i64 0))]),
 .p 15 .pick [(.tmp 11), (.tmp 14), (.const (.bool false))],
 .p 16 .mv [(.tmp 15)],
 .gd 16 true (some 17) (.p 17 (.fad 1) [(.tmp 1)]),
 .gd 16 true (some 18) (.ld 18 (.tmp 17)),
 .gd 16 true (some 19) (.p 19 (.bin .leq) [(.tmp 18), (.const (.int .i64 7))]),
 .p 20 .pick [(.tmp 16), (.tmp 19), (.const (.bool false))],
 .p 21 .mv [(.tmp 20)],
 .gd 21 true (some 22) (.p 22 (.fad 0) [(.tmp 1)]),
 .gd 21 true (some 23) (.ld 23 (.tmp 22)),
 .gd 21 true (some 24) (.p 24 (.fad 1) [(.tmp 1)]),
 .gd 21 true (some 25) (.ld 25 (.tmp 24)),
 .gd 21 true (some 26) (.p 26 (.bin .mul) [(.const (.int .i64 2)), (.tmp 25)]),
 .gd 21 true (some 27) (.p 27 (.bin .add) [(.tmp 23), (.tmp 26)]),
 .gd 21 true (some 28) (.p 28 (.bin .leq) [(.tmp 27), (.const (.int .i64 7))]),
 .p 29 .pick [(.tmp 21), (.tmp 28), (.const (.bool false))],
 .p 2 .mv [(.tmp 29)]]) (
 .ret))⟩

theorem Aaf : trF Tryz.prog H6 = some m_code_Right := by kernel_rfl
-- 83 shardlog/code.there; Ar [(0, l), (1, l), (3, out), (4, i), (5, b)]
noncomputable def m_code_there : MF := ⟨22, [.t 2],
 .seq (
 .ops [
 .p 2 .mv [(.const (.slice none 0 0))]]) (
 .seq (
 .ops [
 .p 3 .mv [(.const (.slice none 0 0))]]) (
 .seq (
 .seq (
 .ops [
 .p 6 .mv [(.tmp 0)],
 .p 7 .len [(.tmp 6)],
 .p 8 .mv [(.const (.int .i64 0))]]) (
 .block 0 (
 .loop (
 .seq (
 .ops [
 .p 9 (.bin .lss) [(.tmp 8), (.tmp 7)]]) (
 .seq (
 .cond (.tmp 9) (
 .skip) (
 .exit 0)) (
 .seq (
 .block 1 (
 .seq (
 .ops [
 .p 10 .mv [(.tmp 8)],
 .p 11 (.ixs 1) [(.tmp 6), (.tmp 8)],
 .ld 12 (.tmp 11),
 .p 4 .mv [(.tmp 10)],
 .p 5 .mv [(.tmp 12)]]) (
 .seq (
 .ops [
 .p 13 .mv [(.tmp 5)],
 .p 14 .len [(.tmp 13)],
 .p 15 (.bin .gtr) [(.tmp 14), (.const (.int .i64 0))]]) (
 .cond (.tmp 15) (
 .ops [
 .p 16 .mv [(.tmp 3)],
 .p 17 .mv [(.tmp 4)],
 .bsl 18 Y1 1 [(.int .i64 0)] [(0, 1)] [(.tmp 17)],
 .app 19 #[Ad2, Ad2] Ad2 (.tmp 16) (.tmp 18),
 .p 3 .mv [(.tmp 19)]]) (
 .skip))))) (
 .ops [
 .p 20 (.bin .add) [(.tmp 8), (.const (.int .i64 1))],
 .p 8 .mv [(.tmp 20)]]))))))) (
 .seq (
 .ops [
 .p 21 .mv [(.tmp 3)],
 .p 2 .mv [(.tmp 21)]]) (
 .ret))))⟩

theorem Aae : trF Tryz.prog LH = some m_code_there := by kernel_rfl
-- 88 shardlog/code.value; Ar [(0, p), (1, p), (4, v), (5, _), (6, ok)]
noncomputable def m_code_value : MF := ⟨21, [.t 2, .t 3],
 .seq (
 .ops [
 .p 2 .mv [(.const (.string .empty))],
 .p 3 .mv [(.const (.bool false))]]) (
 .seq (
 .ops [
 .p 8 .mv [(.tmp 0)],
 .call (some 9) GN [(.tmp 8)],
 .call (some 10) JU [(.tmp 9)],
 .p 7 .mv [(.tmp 10)],
 .p 11 (.ext 0) [(.tmp 7)],
 .p 12 (.ext 1) [(.tmp 7)],
 .p 13 (.ext 2) [(.tmp 7)],
 .p 4 .mv [(.tmp 11)],
 .p 5 .mv [(.tmp 12)],
 .p 6 .mv [(.tmp 13)]]) (
 .seq (
 .ops [
 .p 14 .mv [(.tmp 4)],
 .p 15 .mv [(.tmp 6)],
 .p 16 .mv [(.tmp 15)],
 .gd 16 true (some 17) (.p 17 .mv [(.tmp 4)]),
 .gd 16 true (some 18) (.p 18 .lens [(.tmp 17)]),
 .gd 16 true (some 19) (.p 19 (.bin .leq) [(.tmp 18), (.const (.int .i64 512))]),
 .p 20 .pick [(.tmp 16), (.tmp 19), (.const (.bool false))],
 .p 2 .mv [(.tmp 14)],
 .p 3 .mv [(.tmp 20)]]) (
 .ret)))⟩

theorem Aad : trF Tryz.prog OL = some m_code_value := by kernel_rfl
-- 90 shardlog/code.agrees; Ar [(0, s), (1, v), (2, l), (3, s), (4, v), (5, l), (7, all), (8, e), (9, _), (10, i)]
noncomputable def m_code_agrees : MF := ⟨37, [.t 6],
 .seq (
 .ops [
 .box 3 Dl (.tmp 0),
 .p 6 .mv [(.const (.bool false))]]) (
 .seq (
 .ops [
 .ldn 12 2 (.tmp 3),
 .p 13 .mv [(.tmp 1)],
 .call (some 14) G7 [(.tmp 12), (.tmp 13)],
 .p 11 .mv [(.tmp 14)],
 .p 15 (.ext 0) [(.tmp 11)],
 .p 16 (.ext 1) [(.tmp 11)],
 .p 7 .mv [(.tmp 15)],
 .p 8 .mv [(.tmp 16)]]) (
 .seq (
 .seq (
 .ops [
 .p 17 .mv [(.tmp 8)],
 .p 18 (.bin .neq) [(.tmp 17), (.const (.int .i64 0))]]) (
 .cond (.tmp 18) (
 .seq (
 .ops [
 .p 6 .mv [(.const (.bool false))]]) (
 .ret)) (
 .skip))) (
 .seq (
 .seq (
 .ops [
 .p 19 .mv [(.tmp 2)],
 .call (some 20) LH [(.tmp 19)],
 .p 21 .len [(.tmp 20)],
 .p 22 .mv [(.const (.int .i64 0))]]) (
 .block 0 (
 .loop (
 .seq (
 .ops [
 .p 23 (.bin .lss) [(.tmp 22), (.tmp 21)]]) (
 .seq (
 .cond (.tmp 23) (
 .skip) (
 .exit 0)) (
 .seq (
 .block 1 (
 .seq (
 .ops [
 .p 24 (.ixs 1) [(.tmp 20), (.tmp 22)],
 .ld 25 (.tmp 24),
 .p 10 .mv [(.tmp 25)]]) (
 .seq (
 .dr (
 .one ⟨.p 26 .mv [(.tmp 7)], []⟩ (
 .one ⟨.p 27 .mv [(.tmp 10)], []⟩ (
 .one ⟨.p 28 (.ixs 1) [(.tmp 26), (.tmp 27)], []⟩ (
 .one ⟨.ld 29 (.tmp 28), []⟩ (
 .one ⟨.p 30 .mv [(.tmp 2)], []⟩ (
 .one ⟨.p 31 .mv [(.tmp 10)], []⟩ (
 .one ⟨.p 32 (.ixs 1) [(.tmp 30), (.tmp 31)], []⟩ (
 .one ⟨.ld 33 (.tmp 32), []⟩ (
 .one ⟨.call (some 34) II [(.tmp 29), (.tmp 33)], []⟩ (
 .one ⟨.p 35 .not [(.tmp 34)], []⟩ (
 .nil)))))))))))) (
 .cond (.tmp 35) (
 .seq (
 .ops [
 .p 6 .mv [(.const (.bool false))]]) (
 .ret)) (
 .skip))))) (
 .ops [
 .p 36 (.bin .add) [(.tmp 22), (.const (.int .i64 1))],
 .p 22 .mv [(.tmp 36)]]))))))) (
 .seq (
 .ops [
 .p 6 .mv [(.const (.bool true))]]) (
 .ret)))))⟩

theorem X9 : trF Tryz.prog NE = some m_code_agrees := by kernel_rfl
-- 91 shardlog/code.Encode; Ar [(0, s), (1, v), (2, s), (3, v)]
noncomputable def m_code_Encode : MF := ⟨24, [.t 4, .t 5],
 .seq (
 .ops [
 .box 2 Dl (.tmp 0),
 .p 4 .mv [(.const (.slice none 0 0))],
 .p 5 .mv [(.const (.int .i64 0))]]) (
 .seq (
 .block 0 (
 .seq (
 .ops [
 .ldn 7 2 (.tmp 2),
 .call (some 8) H6 [(.tmp 7)],
 .p 9 .not [(.tmp 8)],
 .p 6 .mv [(.tmp 9)]]) (
 .cond (.tmp 6) (
 .seq (
 .ops [
 .p 4 .mv [(.const (.slice none 0 0))],
 .p 5 .mv [(.const (.int .i64 1))]]) (
 .ret)) (
 .seq (
 .ops [
 .p 11 .mv [(.tmp 1)],
 .p 12 .lens [(.tmp 11)],
 .p 13 (.bin .gtr) [(.tmp 12), (.const (.int .i64 512))],
 .p 10 .mv [(.tmp 13)]]) (
 .cond (.tmp 10) (
 .seq (
 .ops [
 .p 4 .mv [(.const (.slice none 0 0))],
 .p 5 .mv [(.const (.int .i64 7))]]) (
 .ret)) (
 .skip)))))) (
 .seq (
 .dr (
 .one ⟨.p 14 (.fad 0) [(.tmp 2)], []⟩ (
 .one ⟨.ld 15 (.tmp 14), []⟩ (
 .one ⟨.ldn 16 2 (.tmp 2), []⟩ (
 .one ⟨.p 19 (.fad 0) [(.tmp 2)], []⟩ (
 .one ⟨.ld 20 (.tmp 19), []⟩ (
 .one ⟨.p 21 .mv [(.tmp 1)], []⟩ (
 .one ⟨.call (some 17) MO [(.tmp 16)], [.ld 20 (.tmp 19), .ld 15 (.tmp 14)]⟩ (
 .one ⟨.call (some 18) GR [(.tmp 15), (.tmp 17)], [.ld 20 (.tmp 19)]⟩ (
 .one ⟨.call (some 22) ND [(.tmp 20), (.tmp 21)], []⟩ (
 .one ⟨.call (some 23) IY [(.tmp 18), (.tmp 22)], []⟩ (
 .one ⟨.p 4 .mv [(.tmp 23)], []⟩ (
 .one ⟨.p 5 .mv [(.const (.int .i64 0))], []⟩ (
 .nil)))))))))))))) (
 .ret)))⟩

theorem QN : trF Tryz.prog G7 = some m_code_Encode := by kernel_rfl
-- 94 shardlog/shardlogref05.Encode; Ar [(0, s), (1, v), (2, s), (3, v), (5, b), (6, n), (7, p), (8, i)]
noncomputable def m_ref05_Encode : MF := ⟨50, [.t 4],
 .seq (
 .ops [
 .box 2 Dl (.tmp 0),
 .p 4 .mv [(.const (.slice none 0 0))]]) (
 .seq (
 .ops [
 .p 9 .mv [(.tmp 1)],
 .call (some 10) JX [(.tmp 9)],
 .p 5 .mv [(.tmp 10)]]) (
 .seq (
 .block 0 (
 .loop (
 .seq (
 .seq (
 .ops [
 .p 11 .mv [(.tmp 5)],
 .p 12 .len [(.tmp 11)],
 .p 13 (.fad 0) [(.tmp 2)],
 .ld 14 (.tmp 13),
 .p 15 (.bin .rem) [(.tmp 12), (.tmp 14)],
 .p 16 (.bin .neq) [(.tmp 15), (.const (.int .i64 0))]]) (
 .cond (.tmp 16) (
 .skip) (
 .exit 0))) (
 .block 1 (
 .ops [
 .p 17 .mv [(.tmp 5)],
 .bsl 18 tU8 1 [(.int .u8 0)] [(0, 1)] [(.const (.int .u8 0))],
 .app 19 #[Au, Au] Au (.tmp 17) (.tmp 18),
 .p 5 .mv [(.tmp 19)]]))))) (
 .seq (
 .ops [
 .p 20 .mv [(.tmp 5)],
 .p 21 .len [(.tmp 20)],
 .p 22 (.fad 0) [(.tmp 2)],
 .ld 23 (.tmp 22),
 .p 24 (.bin .quo) [(.tmp 21), (.tmp 23)],
 .p 6 .mv [(.tmp 24)]]) (
 .seq (
 .ops [
 .p 7 .mv [(.const (.slice none 0 0))]]) (
 .seq (
 .seq (
 .ops [
 .p 8 .mv [(.const (.int .i64 0))]]) (
 .block 2 (
 .loop (
 .seq (
 .seq (
 .ops [
 .p 25 .mv [(.tmp 8)],
 .p 26 (.fad 0) [(.tmp 2)],
 .ld 27 (.tmp 26),
 .p 28 (.bin .lss) [(.tmp 25), (.tmp 27)]]) (
 .cond (.tmp 28) (
 .skip) (
 .exit 2))) (
 .seq (
 .block 3 (
 .ops [
 .p 31 .mv [(.tmp 7)],
 .p 32 .mv [(.tmp 5)],
 .p 33 .mv [(.tmp 8)],
 .p 34 .mv [(.tmp 6)],
 .p 35 (.bin .mul) [(.tmp 33), (.tmp 34)],
 .p 36 .mv [(.tmp 8)],
 .p 37 (.bin .add) [(.tmp 36), (.const (.int .i64 1))],
 .p 38 .mv [(.tmp 6)],
 .p 39 (.bin .mul) [(.tmp 37), (.tmp 38)],
 .p 40 (.sls 1 true true false) [(.tmp 32), (.tmp 35), (.tmp 39)],
 .bsl 41 Au 1 [(.slice none 0 0)] [(0, 1)] [(.tmp 40)],
 .app 42 #[Ep, Ep] Ep (.tmp 31) (.tmp 41),
 .p 7 .mv [(.tmp 42)]])) (
 .ops [
 .p 29 .mv [(.tmp 8)],
 .p 30 (.bin .add) [(.tmp 29), (.const (.int .i64 1))],
 .p 8 .mv [(.tmp 30)]])))))) (
 .seq (
 .dr (
 .one ⟨.p 43 (.fad 0) [(.tmp 2)], []⟩ (
 .one ⟨.ld 44 (.tmp 43), []⟩ (
 .one ⟨.ldn 45 2 (.tmp 2), []⟩ (
 .one ⟨.p 48 .mv [(.tmp 7)], []⟩ (
 .one ⟨.call (some 46) Ui [(.tmp 45)], [.ld 44 (.tmp 43)]⟩ (
 .one ⟨.call (some 47) JW [(.tmp 44), (.tmp 46)], []⟩ (
 .one ⟨.call (some 49) Nj [(.tmp 47), (.tmp 48)], []⟩ (
 .one ⟨.p 4 .mv [(.tmp 49)], []⟩ (
 .nil)))))))))) (
 .ret)))))))⟩

theorem Xv : trF Tryz.prog ML = some m_ref05_Encode := by kernel_rfl
-- 126 slices.ContainsFunc[[][]byte,[]byte]; Ar [(0, s), (1, f), (2, s), (3, f)]
noncomputable def m_slices_ContainsFunc : MF := ⟨9, [.t 4],
 .seq (
 .ops [
 .p 4 .mv [(.const (.bool false))]]) (
 .seq (
 .ops [
 .p 5 .mv [(.tmp 0)],
 .p 6 .mv [(.tmp 1)],
 .call (some 7) Jy [(.tmp 5), (.tmp 6)],
 .p 8 (.bin .geq) [(.tmp 7), (.const (.int .i64 0))],
 .p 4 .mv [(.tmp 8)]]) (
 .ret))⟩

theorem O6 : trF Tryz.prog Il = some m_slices_ContainsFunc := by kernel_rfl
-- 127 shardlog/matrix.Right$1; Ar [(0, r), (2, r)]
noncomputable def m_matrix_Right_1 : MF := ⟨11, [.t 3],
 .seq (
 .ops [
 .p 3 .mv [(.const (.bool false))]]) (
 .seq (
 .ops [
 .p 4 .mv [(.tmp 0)],
 .p 5 .len [(.tmp 4)],
 .ld 6 (.tmp 1),
 .p 7 (.ixs 1) [(.tmp 6), (.const (.int .i64 0))],
 .ld 8 (.tmp 7),
 .p 9 .len [(.tmp 8)],
 .p 10 (.bin .neq) [(.tmp 5), (.tmp 9)],
 .p 3 .mv [(.tmp 10)]]) (
 .ret))⟩

theorem Us : trF Tryz.prog Em = some m_matrix_Right_1 := by kernel_rfl
-- 128 shardlog/field.New; Ar [(1, f), (2, x), (3, i)]
noncomputable def m_field_New : MF := ⟨30, [.t 0],
 .seq (
 .ops [
 .p 0 .mv [(.const (.pointer none))]]) (
 .seq (
 .ops [
 .p 4 (.build (List.replicate 255 (.int .u8 0) ++ List.replicate 256 (.int .i64 0)) []) [],
 .box 5 Je (.tmp 4),
 .p 1 .mv [(.tmp 5)]]) (
 .seq (
 .ops [
 .p 2 .mv [(.const (.int .i64 1))]]) (
 .seq (
 .seq (
 .ops [
 .p 6 .mv [(.const (.int .i64 0))]]) (
 .block 0 (
 .loop (
 .seq (
 .ops [
 .p 7 (.bin .lss) [(.tmp 6), (.const (.int .i64 255))]]) (
 .seq (
 .cond (.tmp 7) (
 .skip) (
 .exit 0)) (
 .seq (
 .block 1 (
 .seq (
 .ops [
 .p 8 .mv [(.tmp 6)],
 .p 3 .mv [(.tmp 8)]]) (
 .seq (
 .dr (
 .one ⟨.p 9 .mv [(.tmp 1)], []⟩ (
 .one ⟨.p 10 .mv [(.tmp 3)], []⟩ (
 .one ⟨.p 11 .mv [(.tmp 1)], []⟩ (
 .one ⟨.p 12 .mv [(.tmp 2)], []⟩ (
 .one ⟨.p 13 .mv [(.tmp 2)], []⟩ (
 .one ⟨.p 14 (.conv .u8) [(.tmp 13)], []⟩ (
 .one ⟨.p 15 .mv [(.tmp 3)], []⟩ (
 .one ⟨.p 16 .nilc [(.tmp 9)], []⟩ (
 .one ⟨.p 17 (.fad 0) [(.tmp 16)], []⟩ (
 .one ⟨.p 18 (.ixa 255 1) [(.tmp 17), (.tmp 10)], []⟩ (
 .one ⟨.p 19 .nilc [(.tmp 11)], []⟩ (
 .one ⟨.p 20 (.fad 255) [(.tmp 19)], []⟩ (
 .one ⟨.st 1 false (.tmp 18) (.tmp 14), []⟩ (
 .one ⟨.p 21 (.ixa 256 1) [(.tmp 20), (.tmp 12)], []⟩ (
 .one ⟨.st 1 false (.tmp 21) (.tmp 15), []⟩ (
 .nil))))))))))))))))) (
 .seq (
 .ops [
 .p 22 .mv [(.tmp 2)],
 .p 23 (.bin .shl) [(.tmp 22), (.const (.int .u64 1))],
 .p 2 .mv [(.tmp 23)]]) (
 .seq (
 .ops [
 .p 24 .mv [(.tmp 2)],
 .p 25 (.bin .gtr) [(.tmp 24), (.const (.int .i64 255))]]) (
 .cond (.tmp 25) (
 .ops [
 .p 26 .mv [(.tmp 2)],
 .p 27 (.bin .xor) [(.tmp 26), (.const (.int .i64 285))],
 .p 2 .mv [(.tmp 27)]]) (
 .skip))))))) (
 .ops [
 .p 28 (.bin .add) [(.tmp 6), (.const (.int .i64 1))],
 .p 6 .mv [(.tmp 28)]]))))))) (
 .seq (
 .ops [
 .p 29 .mv [(.tmp 1)],
 .p 0 .mv [(.tmp 29)]]) (
 .ret)))))⟩

theorem Acw : trF Tryz.prog KT = some m_field_New := by kernel_rfl
-- 129 shardlog/matrix.copied; Ar [(0, m), (1, m), (3, out), (4, _), (5, r)]
noncomputable def m_matrix_copied : MF := ⟨19, [.t 2],
 .seq (
 .ops [
 .p 2 .mv [(.const (.slice none 0 0))]]) (
 .seq (
 .ops [
 .p 3 .mv [(.const (.slice none 0 0))]]) (
 .seq (
 .seq (
 .ops [
 .p 6 .mv [(.tmp 0)],
 .p 7 .len [(.tmp 6)],
 .p 8 .mv [(.const (.int .i64 0))]]) (
 .block 0 (
 .loop (
 .seq (
 .ops [
 .p 9 (.bin .lss) [(.tmp 8), (.tmp 7)]]) (
 .seq (
 .cond (.tmp 9) (
 .skip) (
 .exit 0)) (
 .seq (
 .block 1 (
 .seq (
 .ops [
 .p 10 (.ixs 1) [(.tmp 6), (.tmp 8)],
 .ld 11 (.tmp 10),
 .p 5 .mv [(.tmp 11)]]) (
 .ops [
 .p 12 .mv [(.tmp 3)],
 .p 13 .mv [(.tmp 5)],
 .call (some 14) DY [(.tmp 13)],
 .bsl 15 Au 1 [(.slice none 0 0)] [(0, 1)] [(.tmp 14)],
 .app 16 #[Ep, Ep] Ep (.tmp 12) (.tmp 15),
 .p 3 .mv [(.tmp 16)]]))) (
 .ops [
 .p 17 (.bin .add) [(.tmp 8), (.const (.int .i64 1))],
 .p 8 .mv [(.tmp 17)]]))))))) (
 .seq (
 .ops [
 .p 18 .mv [(.tmp 3)],
 .p 2 .mv [(.tmp 18)]]) (
 .ret))))⟩

theorem Vf : trF Tryz.prog Lj = some m_matrix_copied := by kernel_rfl
-- 131 shardlog/matrix.pivot; Ar [(0, m), (1, out), (2, c), (3, m), (4, out), (5, c), (7, i)]
noncomputable def m_matrix_pivot : MF := ⟨51, [.t 6],
 .seq (
 .ops [
 .p 6 .mv [(.const (.bool false))]]) (
 .seq (
 .seq (
 .ops [
 .p 8 .mv [(.tmp 2)],
 .p 7 .mv [(.tmp 8)]]) (
 .block 0 (
 .loop (
 .seq (
 .seq (
 .ops [
 .p 9 .mv [(.tmp 7)],
 .p 10 .mv [(.tmp 0)],
 .p 11 .len [(.tmp 10)],
 .p 12 (.bin .lss) [(.tmp 9), (.tmp 11)]]) (
 .cond (.tmp 12) (
 .skip) (
 .exit 0))) (
 .seq (
 .block 1 (
 .seq (
 .ops [
 .p 15 .mv [(.tmp 0)],
 .p 16 .mv [(.tmp 7)],
 .p 17 (.ixs 1) [(.tmp 15), (.tmp 16)],
 .ld 18 (.tmp 17),
 .p 19 .mv [(.tmp 2)],
 .p 20 (.ixs 1) [(.tmp 18), (.tmp 19)],
 .ld 21 (.tmp 20),
 .p 22 (.bin .neq) [(.tmp 21), (.const (.int .u8 0))]]) (
 .cond (.tmp 22) (
 .seq (
 .dr (
 .one ⟨.p 23 .mv [(.tmp 0)], []⟩ (
 .one ⟨.p 24 .mv [(.tmp 2)], []⟩ (
 .one ⟨.p 25 .mv [(.tmp 0)], []⟩ (
 .one ⟨.p 26 .mv [(.tmp 7)], []⟩ (
 .one ⟨.p 27 .mv [(.tmp 0)], []⟩ (
 .one ⟨.p 28 .mv [(.tmp 7)], []⟩ (
 .one ⟨.p 29 (.ixs 1) [(.tmp 27), (.tmp 28)], []⟩ (
 .one ⟨.ld 30 (.tmp 29), []⟩ (
 .one ⟨.p 31 .mv [(.tmp 0)], []⟩ (
 .one ⟨.p 32 .mv [(.tmp 2)], []⟩ (
 .one ⟨.p 33 (.ixs 1) [(.tmp 31), (.tmp 32)], []⟩ (
 .one ⟨.ld 34 (.tmp 33), []⟩ (
 .one ⟨.p 35 (.ixs 1) [(.tmp 23), (.tmp 24)], []⟩ (
 .one ⟨.st 1 false (.tmp 35) (.tmp 30), []⟩ (
 .one ⟨.p 36 (.ixs 1) [(.tmp 25), (.tmp 26)], []⟩ (
 .one ⟨.st 1 false (.tmp 36) (.tmp 34), []⟩ (
 .nil)))))))))))))))))) (
 .seq (
 .dr (
 .one ⟨.p 37 .mv [(.tmp 1)], []⟩ (
 .one ⟨.p 38 .mv [(.tmp 2)], []⟩ (
 .one ⟨.p 39 .mv [(.tmp 1)], []⟩ (
 .one ⟨.p 40 .mv [(.tmp 7)], []⟩ (
 .one ⟨.p 41 .mv [(.tmp 1)], []⟩ (
 .one ⟨.p 42 .mv [(.tmp 7)], []⟩ (
 .one ⟨.p 43 (.ixs 1) [(.tmp 41), (.tmp 42)], []⟩ (
 .one ⟨.ld 44 (.tmp 43), []⟩ (
 .one ⟨.p 45 .mv [(.tmp 1)], []⟩ (
 .one ⟨.p 46 .mv [(.tmp 2)], []⟩ (
 .one ⟨.p 47 (.ixs 1) [(.tmp 45), (.tmp 46)], []⟩ (
 .one ⟨.ld 48 (.tmp 47), []⟩ (
 .one ⟨.p 49 (.ixs 1) [(.tmp 37), (.tmp 38)], []⟩ (
 .one ⟨.st 1 false (.tmp 49) (.tmp 44), []⟩ (
 .one ⟨.p 50 (.ixs 1) [(.tmp 39), (.tmp 40)], []⟩ (
 .one ⟨.st 1 false (.tmp 50) (.tmp 48), []⟩ (
 .nil)))))))))))))))))) (
 .seq (
 .ops [
 .p 6 .mv [(.const (.bool true))]]) (
 .ret)))) (
 .skip)))) (
 .ops [
 .p 13 .mv [(.tmp 7)],
 .p 14 (.bin .add) [(.tmp 13), (.const (.int .i64 1))],
 .p 7 .mv [(.tmp 14)]])))))) (
 .seq (
 .ops [
 .p 6 .mv [(.const (.bool false))]]) (
 .ret)))⟩

theorem Xx : trF Tryz.prog MM = some m_matrix_pivot := by kernel_rfl
-- 132 shardlog/matrix.clearColumn; Ar [(0, f), (1, m), (2, out), (3, c), (4, f), (5, m), (6, out), (7, c), (8, x), (9, i), (10, y)]
noncomputable def m_matrix_clearColumn : MF := ⟨84, [],
 .seq (
 .ops [
 .p 11 .mv [(.tmp 0)],
 .p 12 .mv [(.tmp 1)],
 .p 13 .mv [(.tmp 3)],
 .p 14 (.ixs 1) [(.tmp 12), (.tmp 13)],
 .ld 15 (.tmp 14),
 .p 16 .mv [(.tmp 3)],
 .p 17 (.ixs 1) [(.tmp 15), (.tmp 16)],
 .ld 18 (.tmp 17),
 .call (some 19) Ir [(.tmp 11), (.tmp 18)],
 .p 8 .mv [(.tmp 19)]]) (
 .seq (
 .dr (
 .one ⟨.p 20 .mv [(.tmp 1)], []⟩ (
 .one ⟨.p 21 .mv [(.tmp 3)], []⟩ (
 .one ⟨.p 22 .mv [(.tmp 2)], []⟩ (
 .one ⟨.p 23 .mv [(.tmp 3)], []⟩ (
 .one ⟨.p 24 .mv [(.tmp 0)], []⟩ (
 .one ⟨.p 25 .mv [(.tmp 8)], []⟩ (
 .one ⟨.p 26 .mv [(.tmp 1)], []⟩ (
 .one ⟨.p 27 .mv [(.tmp 3)], []⟩ (
 .one ⟨.p 28 (.ixs 1) [(.tmp 26), (.tmp 27)], []⟩ (
 .one ⟨.ld 29 (.tmp 28), []⟩ (
 .one ⟨.p 31 .mv [(.tmp 0)], []⟩ (
 .one ⟨.p 32 .mv [(.tmp 8)], []⟩ (
 .one ⟨.p 33 .mv [(.tmp 2)], []⟩ (
 .one ⟨.p 34 .mv [(.tmp 3)], []⟩ (
 .one ⟨.p 35 (.ixs 1) [(.tmp 33), (.tmp 34)], []⟩ (
 .one ⟨.ld 36 (.tmp 35), []⟩ (
 .one ⟨.call (some 30) E8 [(.tmp 24), (.tmp 25), (.tmp 29)], [.ld 36 (.tmp 35)]⟩ (
 .one ⟨.call (some 37) E8 [(.tmp 31), (.tmp 32), (.tmp 36)], []⟩ (
 .one ⟨.p 38 (.ixs 1) [(.tmp 20), (.tmp 21)], []⟩ (
 .one ⟨.st 1 false (.tmp 38) (.tmp 30), []⟩ (
 .one ⟨.p 39 (.ixs 1) [(.tmp 22), (.tmp 23)], []⟩ (
 .one ⟨.st 1 false (.tmp 39) (.tmp 37), []⟩ (
 .nil)))))))))))))))))))))))) (
 .seq (
 .ops [
 .p 40 .mv [(.tmp 1)],
 .p 41 .len [(.tmp 40)],
 .p 42 .mv [(.const (.int .i64 0))]]) (
 .block 0 (
 .loop (
 .seq (
 .ops [
 .p 43 (.bin .lss) [(.tmp 42), (.tmp 41)]]) (
 .seq (
 .cond (.tmp 43) (
 .skip) (
 .exit 0)) (
 .seq (
 .block 1 (
 .seq (
 .ops [
 .p 44 .mv [(.tmp 42)],
 .p 9 .mv [(.tmp 44)]]) (
 .seq (
 .ops [
 .p 45 .mv [(.tmp 1)],
 .p 46 .mv [(.tmp 9)],
 .p 47 (.ixs 1) [(.tmp 45), (.tmp 46)],
 .ld 48 (.tmp 47),
 .p 49 .mv [(.tmp 3)],
 .p 50 (.ixs 1) [(.tmp 48), (.tmp 49)],
 .ld 51 (.tmp 50),
 .p 10 .mv [(.tmp 51)]]) (
 .seq (
 .ops [
 .p 52 .mv [(.tmp 9)],
 .p 53 .mv [(.tmp 3)],
 .p 54 (.bin .neq) [(.tmp 52), (.tmp 53)],
 .p 55 .mv [(.tmp 54)],
 .gd 55 true (some 56) (.p 56 .mv [(.tmp 10)]),
 .gd 55 true (some 57) (.p 57 (.bin .neq) [(.tmp 56), (.const (.int .u8 0))]),
 .p 58 .pick [(.tmp 55), (.tmp 57), (.const (.bool false))]]) (
 .cond (.tmp 58) (
 .seq (
 .dr (
 .one ⟨.p 59 .mv [(.tmp 1)], []⟩ (
 .one ⟨.p 60 .mv [(.tmp 9)], []⟩ (
 .one ⟨.p 61 (.ixs 1) [(.tmp 59), (.tmp 60)], []⟩ (
 .one ⟨.ld 62 (.tmp 61), []⟩ (
 .one ⟨.p 63 .mv [(.tmp 0)], []⟩ (
 .one ⟨.p 64 .mv [(.tmp 10)], []⟩ (
 .one ⟨.p 65 .mv [(.tmp 1)], []⟩ (
 .one ⟨.p 66 .mv [(.tmp 3)], []⟩ (
 .one ⟨.p 67 (.ixs 1) [(.tmp 65), (.tmp 66)], []⟩ (
 .one ⟨.ld 68 (.tmp 67), []⟩ (
 .one ⟨.call (some 69) E8 [(.tmp 63), (.tmp 64), (.tmp 68)], [.ld 62 (.tmp 61)]⟩ (
 .one ⟨.call (some 70) Ji [(.tmp 62), (.tmp 69)], []⟩ (
 .nil)))))))))))))) (
 .dr (
 .one ⟨.p 71 .mv [(.tmp 2)], []⟩ (
 .one ⟨.p 72 .mv [(.tmp 9)], []⟩ (
 .one ⟨.p 73 (.ixs 1) [(.tmp 71), (.tmp 72)], []⟩ (
 .one ⟨.ld 74 (.tmp 73), []⟩ (
 .one ⟨.p 75 .mv [(.tmp 0)], []⟩ (
 .one ⟨.p 76 .mv [(.tmp 10)], []⟩ (
 .one ⟨.p 77 .mv [(.tmp 2)], []⟩ (
 .one ⟨.p 78 .mv [(.tmp 3)], []⟩ (
 .one ⟨.p 79 (.ixs 1) [(.tmp 77), (.tmp 78)], []⟩ (
 .one ⟨.ld 80 (.tmp 79), []⟩ (
 .one ⟨.call (some 81) E8 [(.tmp 75), (.tmp 76), (.tmp 80)], [.ld 74 (.tmp 73)]⟩ (
 .one ⟨.call (some 82) Ji [(.tmp 74), (.tmp 81)], []⟩ (
 .nil))))))))))))))) (
 .skip)))))) (
 .ops [
 .p 83 (.bin .add) [(.tmp 42), (.const (.int .i64 1))],
 .p 42 .mv [(.tmp 83)]]))))))))⟩

theorem P7 : trF Tryz.prog IK = some m_matrix_clearColumn := by kernel_rfl
-- 133 (*shardlog/field.Field).Inv; Ar [(0, f), (1, a), (2, f), (3, a)]
noncomputable def m_field_Field_Inv : MF := ⟨20, [.t 4],
 .seq (
 .ops [
 .p 4 .mv [(.const (.int .u8 0))]]) (
 .seq (
 .seq (
 .ops [
 .p 5 .mv [(.tmp 1)],
 .p 6 (.bin .eql) [(.tmp 5), (.const (.int .u8 0))]]) (
 .cond (.tmp 6) (
 .seq (
 .ops [
 .p 4 .mv [(.const (.int .u8 0))]]) (
 .ret)) (
 .skip))) (
 .seq (
 .dr (
 .one ⟨.p 7 .mv [(.tmp 0)], []⟩ (
 .one ⟨.p 8 .mv [(.tmp 0)], []⟩ (
 .one ⟨.p 9 .mv [(.tmp 1)], []⟩ (
 .one ⟨.p 10 .nilc [(.tmp 8)], []⟩ (
 .one ⟨.p 11 (.fad 255) [(.tmp 10)], []⟩ (
 .one ⟨.p 12 (.ixa 256 1) [(.tmp 11), (.tmp 9)], []⟩ (
 .one ⟨.ld 13 (.tmp 12), []⟩ (
 .one ⟨.p 14 (.bin .sub) [(.const (.int .i64 255)), (.tmp 13)], []⟩ (
 .one ⟨.p 15 (.bin .rem) [(.tmp 14), (.const (.int .i64 255))], []⟩ (
 .one ⟨.p 16 .nilc [(.tmp 7)], []⟩ (
 .one ⟨.p 17 (.fad 0) [(.tmp 16)], []⟩ (
 .one ⟨.p 18 (.ixa 255 1) [(.tmp 17), (.tmp 15)], []⟩ (
 .one ⟨.ld 19 (.tmp 18), []⟩ (
 .one ⟨.p 4 .mv [(.tmp 19)], []⟩ (
 .nil)))))))))))))))) (
 .ret)))⟩

theorem TD : trF Tryz.prog Ir = some m_field_Field_Inv := by kernel_rfl
-- 135 shardlog/matrix.plus; Ar [(0, a), (1, b), (2, a), (3, b), (4, i), (5, x)]
noncomputable def m_matrix_plus : MF := ⟨21, [],
 .seq (
 .ops [
 .p 6 .mv [(.tmp 1)],
 .p 7 .len [(.tmp 6)],
 .p 8 .mv [(.const (.int .i64 0))]]) (
 .block 0 (
 .loop (
 .seq (
 .ops [
 .p 9 (.bin .lss) [(.tmp 8), (.tmp 7)]]) (
 .seq (
 .cond (.tmp 9) (
 .skip) (
 .exit 0)) (
 .seq (
 .block 1 (
 .seq (
 .ops [
 .p 10 .mv [(.tmp 8)],
 .p 11 (.ixs 1) [(.tmp 6), (.tmp 8)],
 .ld 12 (.tmp 11),
 .p 4 .mv [(.tmp 10)],
 .p 5 .mv [(.tmp 12)]]) (
 .ops [
 .p 13 .mv [(.tmp 0)],
 .p 14 .mv [(.tmp 4)],
 .p 15 (.ixs 1) [(.tmp 13), (.tmp 14)],
 .ld 16 (.tmp 15),
 .p 17 .mv [(.tmp 5)],
 .p 18 (.bin .xor) [(.tmp 16), (.tmp 17)],
 .p 19 (.ixs 1) [(.tmp 13), (.tmp 14)],
 .st 1 false (.tmp 19) (.tmp 18)]))) (
 .ops [
 .p 20 (.bin .add) [(.tmp 8), (.const (.int .i64 1))],
 .p 8 .mv [(.tmp 20)]]))))))⟩

theorem X4 : trF Tryz.prog Ji = some m_matrix_plus := by kernel_rfl
-- 136 (*shardlog/field.Field).Row; Ar [(0, f), (1, c), (2, b), (3, f), (4, c), (5, b), (7, times), (8, out), (9, _), (10, x)]
noncomputable def m_field_Field_Row : MF := ⟨28, [.t 6],
 .seq (
 .ops [
 .p 6 .mv [(.const (.slice none 0 0))]]) (
 .seq (
 .ops [
 .p 11 .mv [(.tmp 0)],
 .p 12 (.fn (.func G5) 1) [(.tmp 11)],
 .p 7 .mv [(.tmp 12)]]) (
 .seq (
 .ops [
 .p 8 .mv [(.const (.slice none 0 0))]]) (
 .seq (
 .seq (
 .ops [
 .p 13 .mv [(.tmp 2)],
 .p 14 .len [(.tmp 13)],
 .p 15 .mv [(.const (.int .i64 0))]]) (
 .block 0 (
 .loop (
 .seq (
 .ops [
 .p 16 (.bin .lss) [(.tmp 15), (.tmp 14)]]) (
 .seq (
 .cond (.tmp 16) (
 .skip) (
 .exit 0)) (
 .seq (
 .block 1 (
 .seq (
 .ops [
 .p 17 (.ixs 1) [(.tmp 13), (.tmp 15)],
 .ld 18 (.tmp 17),
 .p 10 .mv [(.tmp 18)]]) (
 .ops [
 .p 19 .mv [(.tmp 8)],
 .p 20 .mv [(.tmp 7)],
 .p 21 .mv [(.tmp 1)],
 .p 22 .mv [(.tmp 10)],
 .callv (some 23) (.tmp 20) [(.tmp 21), (.tmp 22)],
 .bsl 24 tU8 1 [(.int .u8 0)] [(0, 1)] [(.tmp 23)],
 .app 25 #[Au, Au] Au (.tmp 19) (.tmp 24),
 .p 8 .mv [(.tmp 25)]]))) (
 .ops [
 .p 26 (.bin .add) [(.tmp 15), (.const (.int .i64 1))],
 .p 15 .mv [(.tmp 26)]]))))))) (
 .seq (
 .ops [
 .p 27 .mv [(.tmp 8)],
 .p 6 .mv [(.tmp 27)]]) (
 .ret)))))⟩

theorem TB : trF Tryz.prog E8 = some m_field_Field_Row := by kernel_rfl
-- 157 slices.IndexFunc[[][]byte,[]byte]; Ar [(0, s), (1, f), (2, s), (3, f), (5, i)]
noncomputable def m_slices_IndexFunc : MF := ⟨19, [.t 4],
 .seq (
 .ops [
 .p 4 .mv [(.const (.int .i64 0))]]) (
 .seq (
 .seq (
 .ops [
 .p 6 .mv [(.tmp 0)],
 .p 7 .len [(.tmp 6)],
 .p 8 .mv [(.const (.int .i64 0))]]) (
 .block 0 (
 .loop (
 .seq (
 .ops [
 .p 9 (.bin .lss) [(.tmp 8), (.tmp 7)]]) (
 .seq (
 .cond (.tmp 9) (
 .skip) (
 .exit 0)) (
 .seq (
 .block 1 (
 .seq (
 .ops [
 .p 10 .mv [(.tmp 8)],
 .p 5 .mv [(.tmp 10)]]) (
 .seq (
 .ops [
 .p 11 .mv [(.tmp 1)],
 .p 12 .mv [(.tmp 0)],
 .p 13 .mv [(.tmp 5)],
 .p 14 (.ixs 1) [(.tmp 12), (.tmp 13)],
 .ld 15 (.tmp 14),
 .callv (some 16) (.tmp 11) [(.tmp 15)]]) (
 .cond (.tmp 16) (
 .seq (
 .ops [
 .p 17 .mv [(.tmp 5)],
 .p 4 .mv [(.tmp 17)]]) (
 .ret)) (
 .skip))))) (
 .ops [
 .p 18 (.bin .add) [(.tmp 8), (.const (.int .i64 1))],
 .p 8 .mv [(.tmp 18)]]))))))) (
 .seq (
 .ops [
 .p 4 .mv [(.const (.int .i64 (-1)))]]) (
 .ret)))⟩

theorem Rj : trF Tryz.prog Jy = some m_slices_IndexFunc := by kernel_rfl
-- 158 (*shardlog/field.Field).Mul; Ar [(0, f), (1, a), (2, b), (3, f), (4, a), (5, b)]
noncomputable def m_field_Field_Mul : MF := ⟨32, [.t 6],
 .seq (
 .ops [
 .p 6 .mv [(.const (.int .u8 0))]]) (
 .seq (
 .seq (
 .ops [
 .p 7 .mv [(.tmp 1)],
 .p 8 (.bin .eql) [(.tmp 7), (.const (.int .u8 0))],
 .p 9 .mv [(.tmp 8)],
 .gd 9 false (some 10) (.p 10 .mv [(.tmp 2)]),
 .gd 9 false (some 11) (.p 11 (.bin .eql) [(.tmp 10), (.const (.int .u8 0))]),
 .p 12 .pick [(.tmp 9), (.const (.bool true)), (.tmp 11)]]) (
 .cond (.tmp 12) (
 .seq (
 .ops [
 .p 6 .mv [(.const (.int .u8 0))]]) (
 .ret)) (
 .skip))) (
 .seq (
 .dr (
 .one ⟨.p 13 .mv [(.tmp 0)], []⟩ (
 .one ⟨.p 14 .mv [(.tmp 0)], []⟩ (
 .one ⟨.p 15 .mv [(.tmp 1)], []⟩ (
 .one ⟨.p 16 .nilc [(.tmp 14)], []⟩ (
 .one ⟨.p 17 (.fad 255) [(.tmp 16)], []⟩ (
 .one ⟨.p 18 (.ixa 256 1) [(.tmp 17), (.tmp 15)], []⟩ (
 .one ⟨.ld 19 (.tmp 18), []⟩ (
 .one ⟨.p 20 .mv [(.tmp 0)], []⟩ (
 .one ⟨.p 21 .mv [(.tmp 2)], []⟩ (
 .one ⟨.p 22 .nilc [(.tmp 20)], []⟩ (
 .one ⟨.p 23 (.fad 255) [(.tmp 22)], []⟩ (
 .one ⟨.p 24 (.ixa 256 1) [(.tmp 23), (.tmp 21)], []⟩ (
 .one ⟨.ld 25 (.tmp 24), []⟩ (
 .one ⟨.p 26 (.bin .add) [(.tmp 19), (.tmp 25)], []⟩ (
 .one ⟨.p 27 (.bin .rem) [(.tmp 26), (.const (.int .i64 255))], []⟩ (
 .one ⟨.p 28 .nilc [(.tmp 13)], []⟩ (
 .one ⟨.p 29 (.fad 0) [(.tmp 28)], []⟩ (
 .one ⟨.p 30 (.ixa 255 1) [(.tmp 29), (.tmp 27)], []⟩ (
 .one ⟨.ld 31 (.tmp 30), []⟩ (
 .one ⟨.p 6 .mv [(.tmp 31)], []⟩ (
 .nil)))))))))))))))))))))) (
 .ret)))⟩

theorem TC : trF Tryz.prog G5 = some m_field_Field_Mul := by kernel_rfl
-- 159 slices.Chunk[[]byte,byte]; Ar [(0, s), (1, n), (2, s), (3, n)]
noncomputable def m_slices_Chunk : MF := ⟨9, [.t 4],
 .seq (
 .ops [
 .box 2 Au (.tmp 0),
 .box 3 Y1 (.tmp 1),
 .p 4 .mv [(.const .nilFunc)]]) (
 .seq (
 .seq (
 .ops [
 .ld 5 (.tmp 3),
 .p 6 (.bin .lss) [(.tmp 5), (.const (.int .i64 1))]]) (
 .cond (.tmp 6) (
 .ops [
 .p 7 (.ifc QA) [(.const (.string ⟨#[99, 97, 110, 110, 111, 116, 32, 98, 101, 32, 108, 101, 115, 115, 32, 116, 104, 97, 110, 32, 49]⟩))],
 .gen none ⟨none, (.panic (.tmp 7)), 0, "iter.go:99", #[⟨0, .data⟩], none⟩]) (
 .skip))) (
 .seq (
 .ops [
 .p 8 (.fn (.func Gs) 0) [(.tmp 2), (.tmp 3)],
 .p 4 .mv [(.tmp 8)]]) (
 .ret)))⟩

theorem Xu : trF Tryz.prog MK = some m_slices_Chunk := by kernel_rfl
-- 160 shardlog/shardlogref03.Mul; Ar [(0, a), (1, b), (2, a), (3, b), (5, x), (6, y), (7, out), (8, i)]
noncomputable def m_ref03_Mul : MF := ⟨33, [.t 4],
 .seq (
 .ops [
 .p 4 .mv [(.const (.int .u8 0))]]) (
 .seq (
 .ops [
 .p 9 .mv [(.tmp 0)],
 .p 10 (.conv .i64) [(.tmp 9)],
 .p 5 .mv [(.tmp 10)]]) (
 .seq (
 .ops [
 .p 11 .mv [(.tmp 1)],
 .p 12 (.conv .i64) [(.tmp 11)],
 .p 6 .mv [(.tmp 12)]]) (
 .seq (
 .ops [
 .p 7 .mv [(.const (.int .i64 0))]]) (
 .seq (
 .seq (
 .ops [
 .p 8 .mv [(.const (.int .i64 0))]]) (
 .block 0 (
 .loop (
 .seq (
 .seq (
 .ops [
 .p 13 .mv [(.tmp 8)],
 .p 14 (.bin .lss) [(.tmp 13), (.const (.int .i64 8))]]) (
 .cond (.tmp 14) (
 .skip) (
 .exit 0))) (
 .seq (
 .block 1 (
 .seq (
 .seq (
 .ops [
 .p 17 .mv [(.tmp 6)],
 .p 18 (.bin .rem) [(.tmp 17), (.const (.int .i64 2))],
 .p 19 (.bin .eql) [(.tmp 18), (.const (.int .i64 1))]]) (
 .cond (.tmp 19) (
 .ops [
 .p 20 .mv [(.tmp 7)],
 .p 21 .mv [(.tmp 5)],
 .p 22 (.bin .xor) [(.tmp 20), (.tmp 21)],
 .p 7 .mv [(.tmp 22)]]) (
 .skip))) (
 .seq (
 .ops [
 .p 23 .mv [(.tmp 6)],
 .p 24 (.bin .quo) [(.tmp 23), (.const (.int .i64 2))],
 .p 6 .mv [(.tmp 24)]]) (
 .seq (
 .ops [
 .p 25 .mv [(.tmp 5)],
 .p 26 (.bin .mul) [(.tmp 25), (.const (.int .i64 2))],
 .p 5 .mv [(.tmp 26)]]) (
 .seq (
 .ops [
 .p 27 .mv [(.tmp 5)],
 .p 28 (.bin .geq) [(.tmp 27), (.const (.int .i64 256))]]) (
 .cond (.tmp 28) (
 .ops [
 .p 29 .mv [(.tmp 5)],
 .p 30 (.bin .xor) [(.tmp 29), (.const (.int .i64 285))],
 .p 5 .mv [(.tmp 30)]]) (
 .skip))))))) (
 .ops [
 .p 15 .mv [(.tmp 8)],
 .p 16 (.bin .add) [(.tmp 15), (.const (.int .i64 1))],
 .p 8 .mv [(.tmp 16)]])))))) (
 .seq (
 .ops [
 .p 31 .mv [(.tmp 7)],
 .p 32 (.conv .u8) [(.tmp 31)],
 .p 4 .mv [(.tmp 32)]]) (
 .ret))))))⟩

theorem Acm : trF Tryz.prog Nk = some m_ref03_Mul := by kernel_rfl
-- 161 shardlog/shardlogref03.Inv; Ar [(0, a), (1, a), (3, b)]
noncomputable def m_ref03_Inv : MF := ⟨15, [.t 2],
 .seq (
 .ops [
 .p 2 .mv [(.const (.int .u8 0))]]) (
 .seq (
 .seq (
 .ops [
 .p 3 .mv [(.const (.int .i64 1))]]) (
 .block 0 (
 .loop (
 .seq (
 .seq (
 .ops [
 .p 4 .mv [(.tmp 3)],
 .p 5 (.bin .lss) [(.tmp 4), (.const (.int .i64 256))]]) (
 .cond (.tmp 5) (
 .skip) (
 .exit 0))) (
 .seq (
 .block 1 (
 .seq (
 .ops [
 .p 8 .mv [(.tmp 0)],
 .p 9 .mv [(.tmp 3)],
 .p 10 (.conv .u8) [(.tmp 9)],
 .call (some 11) Nk [(.tmp 8), (.tmp 10)],
 .p 12 (.bin .eql) [(.tmp 11), (.const (.int .u8 1))]]) (
 .cond (.tmp 12) (
 .seq (
 .ops [
 .p 13 .mv [(.tmp 3)],
 .p 14 (.conv .u8) [(.tmp 13)],
 .p 2 .mv [(.tmp 14)]]) (
 .ret)) (
 .skip)))) (
 .ops [
 .p 6 .mv [(.tmp 3)],
 .p 7 (.bin .add) [(.tmp 6), (.const (.int .i64 1))],
 .p 3 .mv [(.tmp 7)]])))))) (
 .seq (
 .ops [
 .p 2 .mv [(.const (.int .u8 0))]]) (
 .ret)))⟩

theorem Acn : trF Tryz.prog PL = some m_ref03_Inv := by kernel_rfl
end Go.Proofs.YtgpkbldlkadnjaaGreat
end
section
namespace Go.Sl
open Go.RowKit
theorem El.of {P : Program} {t e : TypeId} {s bytes : Nat} {z : Value} (h1 : P.underlying t = some (.slice e)) (h2 : (P.info? e).map (fun i => (i.zero, i.size, i.bytes)) = some (some z, s, bytes)) (h3 : z.cells.size = s) (h4 : 0 < s) : El P t e s bytes z := by
 refine ⟨h1, ?_, h3, h4⟩
 cases hi : P.info? e with
 | none => rw [hi] at h2; cases h2
 | some i =>
  rw [hi] at h2
  simp only [Option.map_some, Option.some.injEq, Prod.mk.injEq] at h2
  exact ⟨i, rfl, h2.1, h2.2.1, h2.2.2⟩
end Go.Sl
namespace Go.Proofs.YtgpkbldlkadnjaaGreat
open Go Go.Sl
theorem elB : El Tryz.prog 31 5 1 1 (.int .u8 0) := El.of (by kernel_rfl) (by kernel_rfl) rfl (by decide)
theorem elM : El Tryz.prog 60 31 1 24 (.slice none 0 0) := El.of (by kernel_rfl) (by kernel_rfl) rfl (by decide)
theorem hb60 : Lu Tryz.prog G5 = true := by kernel_rfl
theorem hb43 : Lu Tryz.prog Em = true := by kernel_rfl
end Go.Proofs.YtgpkbldlkadnjaaGreat
end
section
namespace Go.Proofs.YtgpkbldlkadnjaaGreat
open Go Go.Sl
def GV (x : Nat) : Nat := if 255 < 2 * x then (2 * x) ^^^ 285 else 2 * x
def GK : Nat → List Nat × List Nat × Nat
 | 0 => (List.replicate 255 0, List.replicate 256 0, 1)
 | i + 1 => ((GK i).1.set i (GK i).2.2, (GK i).2.1.set (GK i).2.2 i, GV (GK i).2.2)
theorem AeQ : (List.range 256).all (fun x => decide (GV x < 256)) = true := by decide +kernel
theorem Wi (x : Nat) (h : x < 256) : GV x < 256 := by
 have := List.all_eq_true.1 AeQ x (List.mem_range.2 h)
 simpa using this
theorem WY : ∀ i, (GK i).2.2 < 256
 | 0 => show (1 : Nat) < 256 by omega
 | i + 1 => Wi _ (WY i)
theorem NY : ∀ i, (GK i).1.length = 255 ∧ (GK i).2.1.length = 256
 | 0 => ⟨List.length_replicate, List.length_replicate⟩
 | i + 1 => by
  have := NY i
  exact ⟨by rw [GK, List.length_set]; exact this.1, by rw [GK, List.length_set]; exact this.2⟩
def VB (n : Nat) : Value := .int .u8 n
def VI (n : Nat) : Value := .int .i64 n
def Jq (i : Nat) : List Value := (GK i).1.map VB ++ (GK i).2.1.map VI
theorem AbE (i : Nat) : (Jq i).length = 511 := by simp [Jq, NY]
theorem ZH (i : Nat) (h : i < 255) : ((Jq i).set i (VB (GK i).2.2)).set (255 + (GK i).2.2) (VI i) = Jq (i + 1) := by
 have h1 := NY i
 have h2 := WY i
 simp only [Jq, GK]
 rw [List.set_append_left _ _ (by simp [h1]; exact h), List.set_append_right _ _ (by simp [h1])]
 simp [h1, List.map_set]

def Fp (w : World) (b : Nat) : Prop := ∃ e, w.heap[b]? = some (.cells (Jq 255).toArray e (0, 0))
theorem Fp.fr {w w' : World} {M : Nat → Prop} {b : Nat} (h : Fp w b) (hf : Fr M w w') (hM : ¬ M b) : Fp w' b := by
 obtain ⟨e, h⟩ := h
 exact ⟨e, by rw [hf.same b (Array.getElem?_eq_some_iff.1 h).1 hM]; exact h⟩
theorem Fp.lt {w : World} {b : Nat} (h : Fp w b) : b < w.heap.size := by
 obtain ⟨e, h⟩ := h
 exact (Array.getElem?_eq_some_iff.1 h).1
def NZ (i : Nat) : Nat := (GK 255).1.getD i 0
def G8 (a : Nat) : Nat := (GK 255).2.1.getD a 0
theorem Fp.exp {w : World} {b : Nat} (h : Fp w b) {i : Nat} (hi : i < 255) : w.cell? ⟨b, i, none⟩ = some (VB (NZ i)) := by
 obtain ⟨e, h⟩ := h
 have h1 := NY 255
 simp only [World.cell?, h, Option.isSome_none, Bool.false_eq_true, if_false, Jq, NZ, List.getElem?_toArray]
 rw [List.getElem?_append_left (by simp [h1]; exact hi), List.getElem?_map, List.getD_eq_getElem?_getD, List.getElem?_eq_getElem (by omega)]
 rfl
theorem Fp.log {w : World} {b : Nat} (h : Fp w b) {a : Nat} (ha : a < 256) : w.cell? ⟨b, 255 + a, none⟩ = some (VI (G8 a)) := by
 obtain ⟨e, h⟩ := h
 have h1 := NY 255
 simp only [World.cell?, h, Option.isSome_none, Bool.false_eq_true, if_false, Jq, G8, List.getElem?_toArray]
 rw [List.getElem?_append_right (by simp [h1])]
 simp only [List.length_map, h1.1, Nat.add_sub_cancel_left, List.getElem?_map, List.getD_eq_getElem?_getD, List.getElem?_eq_getElem (show a < (GK 255).2.1.length by omega)]
 rfl
theorem V7 : (GK 255).1.all (fun n => decide (n < 256)) = true ∧ (GK 255).2.1.all (fun n => decide (n < 255)) = true := by decide +kernel
theorem Qn (i : Nat) : NZ i < 256 := by
 unfold NZ
 rw [List.getD_eq_getElem?_getD]
 cases h : (GK 255).1[i]? with
 | none => simp
 | some n => have := List.all_eq_true.1 V7.1 n (List.mem_of_getElem? h); simpa using this
theorem OG (a : Nat) : G8 a < 255 := by
 unfold G8
 rw [List.getD_eq_getElem?_getD]
 cases h : (GK 255).2.1[a]? with
 | none => simp
 | some n => have := List.all_eq_true.1 V7.2 n (List.mem_of_getElem? h); simpa using this
def Bh (a b : UInt8) : UInt8 := if a = 0 ∨ b = 0 then 0 else UInt8.ofNat (NZ ((G8 a.toNat + G8 b.toNat) % 255))
def FK (a : UInt8) : UInt8 := if a = 0 then 0 else UInt8.ofNat (NZ ((255 - G8 a.toNat) % 255))
theorem VB_u8 (n : Nat) (h : n < 256) : VB n = U8 (UInt8.ofNat n) := by
 unfold VB U8
 simp only [Value.int.injEq, true_and]
 rw [UInt8.toNat_ofNat']
 omega
end Go.Proofs.YtgpkbldlkadnjaaGreat
end
section
namespace Go.Proofs.YtgpkbldlkadnjaaGreat
open Go Go.Sl Go.RowKit
theorem shl1 (x : Int) : x * 2 ^ (Nat.min 1 IntKind.i64.bits) = 2 * x := by
 have : Nat.min 1 IntKind.i64.bits = 1 := rfl
 rw [this]
 omega
theorem xor285 (x : Nat) (h : x < 65536) : IntKind.i64.wrap (BitVec.ofInt IntKind.i64.bits (2 * (x : Int)) ^^^ BitVec.ofInt IntKind.i64.bits 285).toNat = (((2 * x) ^^^ 285 : Nat) : Int) := by
 have h1 : BitVec.ofInt 64 (2 * (x : Int)) = BitVec.ofNat 64 (2 * x) := by
  apply BitVec.eq_of_toNat_eq
  simp
  omega
 have h2 : (BitVec.ofInt 64 (2 * (x : Int)) ^^^ BitVec.ofInt 64 285).toNat = (2 * x) ^^^ 285 := by
  rw [h1, BitVec.toNat_xor]
  have : (BitVec.ofInt 64 285).toNat = 285 := by decide
  rw [this, BitVec.toNat_ofNat, Nat.mod_eq_of_lt (by omega)]
 have h3 : (2 * x) ^^^ 285 < 2 ^ 18 := Nat.xor_lt_two_pow (by omega) (by omega)
 show IntKind.i64.wrap (((BitVec.ofInt 64 (2 * (x : Int)) ^^^ BitVec.ofInt 64 285).toNat : Nat) : Int) = _
 rw [h2, wrap_i64 (by omega)]

theorem AbD {cs : List Value} {w : World} {b : Nat} {e : TypeId} (h : w.heap[b]? = some (.cells cs.toArray e (0, 0))) {j : Nat} {v : Value} (hj : j < cs.length) (h1 : v.oneCell' = true) {K : World → Prop} {t : BQ K}
  (k : ∀ w', w'.heap[b]? = some (.cells (cs.set j v).toArray e (0, 0)) → Fr (· = b) w w' → w'.heap.size = w.heap.size → K w') : Stn w ⟨b, j, none⟩ [v] K t := by
 refine stn1 h (by simpa using hj) (by simp) h1 fun w' hw hf hs => k w' ?_ hf hs
 rw [hw]
 simp

theorem ZG : Jq 0 = List.replicate 255 (.int .u8 0) ++ List.replicate 256 (.int .i64 0) := by
 show (List.replicate 255 0).map VB ++ (List.replicate 256 0).map VI = _
 rw [List.map_replicate, List.map_replicate]
 rfl
theorem Ua (w : World) : Calls Tryz.prog KT #[] w fun en w' => ∃ r, en = .returned r ∧
  (r = .pointer (some ⟨w.heap.size, 0, none⟩) ∧ Fp w' w.heap.size ∧ Fr No w w') := by
 refine Ci (args := []) Acw (by simp only [m_field_New, List.length]; decide) ?_
 simp only [m_field_New]; refine WS ?_; try with_reducible exact trivial
 refine new fun b w1 hb hs hc hf => ?_
 simp -dsimp (disch := omega) only [↓MC.wp, ↓BD, ↓CV, ↓MOp.wp, evs, ev, Am, BZ, BF, pev, Bl, Bv, Aq, Bz, psl, Ba, Aw, Ag, ↓BM, ↓AP, ↓DK, ↓Bf, Dy, Az, MOp.still, known, Op.operands, AA, A7, Nat.reduceAdd, reduceCtorEq, if_true, if_false, ↓reduceIte, ne_eq, Int.reduceEq, Int.reduceLT, Int.reduceLE, Int.reduceAdd, Int.reduceSub, Int.reduceMul, Int.reduceToNat, Nat.reduceMul, Nat.reduceLeDiff, Nat.reduceLT, Nat.reduceSub, WB, drop1]
 have hc0 : w1.heap[b]? = some (.cells (Jq 0).toArray Je (0, 0)) := by rw [ZG]; exact hc
 clear hc
 refine JF [1, 2, 6] (fun k : Nat => [(1, .pointer (some ⟨b, 0, none⟩)), (2, .int .i64 ((GK k).2.2 : Nat)), (6, .int .i64 k)])
  (fun k w2 => k ≤ 255 ∧ w2.heap[b]? = some (.cells (Jq k).toArray Je (0, 0)) ∧ Fr No w w2) (fun k _ => 255 - k) 0 rfl ⟨by omega, hc0, hf⟩ ?_
 clear hc0 hf hs
 rintro k w2 ⟨hk, hc, hf⟩
 have hx := WY k
 have hlen := AbE k
 by_cases hlt : k < 255
 ·simp -dsimp (disch := omega) only [↓MC.wp, ↓BD, ↓CV, ↓MOp.wp, evs, ev, Am, BZ, BF, pev, Bl, Bv, Aq, Bz, psl, Ba, Aw, Ag, ↓BM, ↓AP, ↓DK, ↓Bf, Dy, Az, MOp.still, known, Op.operands, AA, A7, Nat.reduceAdd, reduceCtorEq, if_true, if_false, ↓reduceIte, ne_eq, Int.reduceEq, Int.reduceLT, Int.reduceLE, Int.reduceAdd, Int.reduceSub, Int.reduceMul, Int.reduceToNat, Nat.reduceMul, Nat.reduceLeDiff, Nat.reduceLT, Nat.reduceSub, WB, wrap_u8]
  refine AbD (w := w2.drew) hc ?_ ?_ fun w3 hc3 hf3 hs3 => ?_
  ·omega
  ·rfl
  simp -dsimp (disch := omega) only [↓MC.wp, ↓BD, ↓CV, ↓MOp.wp, evs, ev, Am, BZ, BF, pev, Bl, Bv, Aq, Bz, psl, Ba, Aw, Ag, ↓BM, ↓AP, ↓DK, ↓Bf, Dy, Az, MOp.still, known, Op.operands, AA, A7, Nat.reduceAdd, reduceCtorEq, if_true, if_false, ↓reduceIte, ne_eq, Int.reduceEq, Int.reduceLT, Int.reduceLE, Int.reduceAdd, Int.reduceSub, Int.reduceMul, Int.reduceToNat, Nat.reduceMul, Nat.reduceLeDiff, Nat.reduceLT, Nat.reduceSub, WB, drop1]
  refine AbD hc3 ?_ ?_ fun w4 hc4 hf4 hs4 => ?_
  ·rw [List.length_set]; omega
  ·rfl
  have hc5 : w4.heap[b]? = some (.cells (Jq (k + 1)).toArray Je (0, 0)) := by rw [← ZH k hlt]; exact hc4
  have hf5 : Fr No w w4 := (hf.drew.step hf3 (fun c hc h => by omega)).step hf4 (fun c hc h => by omega)
  simp -dsimp (disch := omega) only [↓MC.wp, ↓BD, ↓CV, ↓MOp.wp, evs, ev, Am, BZ, BF, pev, Bl, Bv, Aq, Bz, psl, Ba, Aw, Ag, ↓BM, ↓AP, ↓DK, ↓Bf, Dy, Az, MOp.still, known, Op.operands, AA, A7, Nat.reduceAdd, reduceCtorEq, if_true, if_false, ↓reduceIte, ne_eq, Int.reduceEq, Int.reduceLT, Int.reduceLE, Int.reduceAdd, Int.reduceSub, Int.reduceMul, Int.reduceToNat, Nat.reduceMul, Nat.reduceLeDiff, Nat.reduceLT, Nat.reduceSub, WB, shl1]
  refine brd (fun hgt => ?_) (fun hle => ?_)
  ·simp -dsimp (disch := omega) only [↓MC.wp, ↓BD, ↓CV, ↓MOp.wp, evs, ev, Am, BZ, BF, pev, Bl, Bv, Aq, Bz, psl, Ba, Aw, Ag, ↓BM, ↓AP, ↓DK, ↓Bf, Dy, Az, MOp.still, known, Op.operands, AA, A7, Nat.reduceAdd, reduceCtorEq, if_true, if_false, ↓reduceIte, ne_eq, Int.reduceEq, Int.reduceLT, Int.reduceLE, Int.reduceAdd, Int.reduceSub, Int.reduceMul, Int.reduceToNat, Nat.reduceMul, Nat.reduceLeDiff, Nat.reduceLT, Nat.reduceSub, WB, xor285]
   refine ⟨k + 1, ?_, ⟨by omega, hc5, hf5⟩, by omega⟩
   have : (GK (k + 1)).2.2 = (2 * (GK k).2.2) ^^^ 285 := by
    show GV (GK k).2.2 = _
    unfold GV
    rw [if_pos (by omega)]
   rw [this]
   rfl
  ·simp -dsimp (disch := omega) only [↓MC.wp, ↓BD, ↓CV, ↓MOp.wp, evs, ev, Am, BZ, BF, pev, Bl, Bv, Aq, Bz, psl, Ba, Aw, Ag, ↓BM, ↓AP, ↓DK, ↓Bf, Dy, Az, MOp.still, known, Op.operands, AA, A7, Nat.reduceAdd, reduceCtorEq, if_true, if_false, ↓reduceIte, ne_eq, Int.reduceEq, Int.reduceLT, Int.reduceLE, Int.reduceAdd, Int.reduceSub, Int.reduceMul, Int.reduceToNat, Nat.reduceMul, Nat.reduceLeDiff, Nat.reduceLT, Nat.reduceSub, WB, drop1]
   refine ⟨k + 1, ?_, ⟨by omega, hc5, hf5⟩, by omega⟩
   have : (GK (k + 1)).2.2 = 2 * (GK k).2.2 := by
    show GV (GK k).2.2 = _
    unfold GV
    rw [if_neg (by omega)]
   rw [this]
   rfl
 ·simp -dsimp (disch := omega) only [↓MC.wp, ↓BD, ↓CV, ↓MOp.wp, evs, ev, Am, BZ, BF, pev, Bl, Bv, Aq, Bz, psl, Ba, Aw, Ag, ↓BM, ↓AP, ↓DK, ↓Bf, Dy, Az, MOp.still, known, Op.operands, AA, A7, Nat.reduceAdd, reduceCtorEq, if_true, if_false, ↓reduceIte, ne_eq, Int.reduceEq, Int.reduceLT, Int.reduceLE, Int.reduceAdd, Int.reduceSub, Int.reduceMul, Int.reduceToNat, Nat.reduceMul, Nat.reduceLeDiff, Nat.reduceLT, Nat.reduceSub, WB, drop1]
  have hkk : k = 255 := by omega
  subst hkk
  subst hb
  exact ⟨rfl, ⟨Je, hc⟩, hf⟩

theorem IR (x : UInt8) : x.toNat = 0 ↔ x = 0 := ⟨fun h => UInt8.toNat_inj.1 h, fun h => by rw [h]; rfl⟩
theorem Afj {w : World} {b : Nat} (hb : Fp w b) (x y : UInt8) : Calls Tryz.prog G5 #[.pointer (some ⟨b, 0, none⟩), U8 x, U8 y] w fun en w' => ∃ r, en = .returned r ∧
  (r = U8 (Bh x y) ∧ Fr No w w') := by
 refine Ci (args := [.pointer (some ⟨b, 0, none⟩), U8 x, U8 y]) TC (by simp only [m_field_Field_Mul, List.length]; decide) ?_
 have hx := x.toNat_lt
 have hy := y.toNat_lt
 by_cases h0 : x.toNat = 0
 ·simp -dsimp (disch := omega) only [↓MC.wp, ↓BD, ↓CV, ↓MOp.wp, evs, ev, Am, BZ, BF, pev, Bl, Bv, Aq, Bz, psl, Ba, Aw, Ag, ↓BM, ↓AP, ↓DK, ↓Bf, Dy, Az, MOp.still, known, Op.operands, AA, A7, Nat.reduceAdd, reduceCtorEq, if_true, if_false, ↓reduceIte, ne_eq, Int.reduceEq, Int.reduceLT, Int.reduceLE, Int.reduceAdd, Int.reduceSub, Int.reduceMul, Int.reduceToNat, Nat.reduceMul, Nat.reduceLeDiff, Nat.reduceLT, Nat.reduceSub, WB, m_field_Field_Mul, U8, H7, J5]
  refine ⟨?_, Fr.refl _ _⟩
  simp [Bh, (IR x).1 h0]
 ·by_cases h1 : y.toNat = 0
  ·simp -dsimp (disch := omega) only [↓MC.wp, ↓BD, ↓CV, ↓MOp.wp, evs, ev, Am, BZ, BF, pev, Bl, Bv, Aq, Bz, psl, Ba, Aw, Ag, ↓BM, ↓AP, ↓DK, ↓Bf, Dy, Az, MOp.still, known, Op.operands, AA, A7, Nat.reduceAdd, reduceCtorEq, if_true, if_false, ↓reduceIte, ne_eq, Int.reduceEq, Int.reduceLT, Int.reduceLE, Int.reduceAdd, Int.reduceSub, Int.reduceMul, Int.reduceToNat, Nat.reduceMul, Nat.reduceLeDiff, Nat.reduceLT, Nat.reduceSub, WB, m_field_Field_Mul, U8, H7, J5]
   refine ⟨?_, Fr.refl _ _⟩
   simp [Bh, (IR y).1 h1]
  ·have e1 := hb.log (a := x.toNat) (by omega)
   have e2 := hb.log (a := y.toNat) (by omega)
   have hm : (G8 x.toNat + G8 y.toNat) % 255 < 255 := Nat.mod_lt _ (by omega)
   have e3 := hb.exp hm
   have l1 := OG x.toNat
   have l2 := OG y.toNat
   have hh : ((G8 x.toNat : Int) + (G8 y.toNat : Int)) % 255 = (((G8 x.toNat + G8 y.toNat) % 255 : Nat) : Int) := by omega
   simp -dsimp (disch := omega) only [↓MC.wp, ↓BD, ↓CV, ↓MOp.wp, evs, ev, Am, BZ, BF, pev, Bl, Bv, Aq, Bz, psl, Ba, Aw, Ag, ↓BM, ↓AP, ↓DK, ↓Bf, Dy, Az, MOp.still, known, Op.operands, AA, A7, Nat.reduceAdd, reduceCtorEq, if_true, if_false, ↓reduceIte, ne_eq, Int.reduceEq, Int.reduceLT, Int.reduceLE, Int.reduceAdd, Int.reduceSub, Int.reduceMul, Int.reduceToNat, Nat.reduceMul, Nat.reduceLeDiff, Nat.reduceLT, Nat.reduceSub, WB, m_field_Field_Mul, U8, H7, J5, e1, e2, e3, VI, VB, hh]
   refine ⟨?_, (Fr.refl _ _).drew⟩
   have := VB_u8 (NZ ((G8 x.toNat + G8 y.toNat) % 255)) (Qn _)
   rw [Bh, if_neg (by rw [← IR x, ← IR y]; omega)]
   exact this
theorem Yz {w : World} {b : Nat} (hb : Fp w b) (x : UInt8) : Calls Tryz.prog Ir #[.pointer (some ⟨b, 0, none⟩), U8 x] w fun en w' => ∃ r, en = .returned r ∧
  (r = U8 (FK x) ∧ Fr No w w') := by
 refine Ci (args := [.pointer (some ⟨b, 0, none⟩), U8 x]) TD (by simp only [m_field_Field_Inv, List.length]; decide) ?_
 have hx := x.toNat_lt
 by_cases h0 : x.toNat = 0
 ·simp -dsimp (disch := omega) only [↓MC.wp, ↓BD, ↓CV, ↓MOp.wp, evs, ev, Am, BZ, BF, pev, Bl, Bv, Aq, Bz, psl, Ba, Aw, Ag, ↓BM, ↓AP, ↓DK, ↓Bf, Dy, Az, MOp.still, known, Op.operands, AA, A7, Nat.reduceAdd, reduceCtorEq, if_true, if_false, ↓reduceIte, ne_eq, Int.reduceEq, Int.reduceLT, Int.reduceLE, Int.reduceAdd, Int.reduceSub, Int.reduceMul, Int.reduceToNat, Nat.reduceMul, Nat.reduceLeDiff, Nat.reduceLT, Nat.reduceSub, WB, m_field_Field_Inv, U8]
  refine ⟨?_, Fr.refl _ _⟩
  simp [FK, (IR x).1 h0]
 ·have e1 := hb.log (a := x.toNat) (by omega)
  have l1 := OG x.toNat
  have hm : (255 - G8 x.toNat) % 255 < 255 := Nat.mod_lt _ (by omega)
  have e3 := hb.exp hm
  have hh : ((255 : Int) - (G8 x.toNat : Int)) % 255 = (((255 - G8 x.toNat) % 255 : Nat) : Int) := by omega
  simp -dsimp (disch := omega) only [↓MC.wp, ↓BD, ↓CV, ↓MOp.wp, evs, ev, Am, BZ, BF, pev, Bl, Bv, Aq, Bz, psl, Ba, Aw, Ag, ↓BM, ↓AP, ↓DK, ↓Bf, Dy, Az, MOp.still, known, Op.operands, AA, A7, Nat.reduceAdd, reduceCtorEq, if_true, if_false, ↓reduceIte, ne_eq, Int.reduceEq, Int.reduceLT, Int.reduceLE, Int.reduceAdd, Int.reduceSub, Int.reduceMul, Int.reduceToNat, Nat.reduceMul, Nat.reduceLeDiff, Nat.reduceLT, Nat.reduceSub, WB, m_field_Field_Inv, U8, e1, e3, VI, VB, hh]
  refine ⟨?_, (Fr.refl _ _).drew⟩
  have := VB_u8 (NZ ((255 - G8 x.toNat) % 255)) (Qn _)
  rw [FK, if_neg (by rw [← IR x]; omega)]
  exact this
end Go.Proofs.YtgpkbldlkadnjaaGreat
end
section
namespace Go.Sl
def NM (B : Nat) (v : Value) : Prop := ∀ b, v.ownBlock = some b → B ≤ b
theorem NM.nil (B : Nat) : NM B (.slice none 0 0) := fun b h => by cases h
theorem NM.mono {B B' : Nat} {v : Value} (h : NM B v) (hb : B' ≤ B) : NM B' v := fun b hh => Nat.le_trans hb (h b hh)
theorem NM.app {B : Nat} {v v' : Value} {s s' : Nat} (h : NM B v) (hs : B ≤ s) (hat : v'.ownBlock = v.ownBlock ∨ ∃ b, v'.ownBlock = some b ∧ s ≤ b ∧ b < s') : NM B v' := by
 intro b hb
 rcases hat with hat | ⟨c, hc, h1, _⟩
 ·exact h b (hat ▸ hb)
 ·rw [hc] at hb; cases hb; omega
theorem Fr.own {w w1 w2 : World} {v : Value} {M : Nat → Prop} (h : Fr M w w1) (hv : NM w.heap.size v) (k : Fr (fun b => v.ownBlock = some b) w1 w2) : Fr M w w2 :=
 h.step k fun b hb hM => absurd (hv b hM) (by omega)
end Go.Sl
namespace Go.Proofs.YtgpkbldlkadnjaaGreat
open Go Go.Sl Go.RowKit

def H8 (B : Nat) (w : World) (r : Value) (xs : List UInt8) : Prop := Ow w 5 1 r xs.length (xs.map U8) ∧ NM B r

theorem NS {w : World} {b : Nat} (hb : Fp w b) (c : UInt8) {B : Nat} {v : Value} {xs : List UInt8} (hx : BS w B v xs) (hB : B ≤ w.heap.size) (hl : xs.length ≤ 70368744177664) :
  Calls Tryz.prog E8 #[.pointer (some ⟨b, 0, none⟩), U8 c, v] w fun en w' => ∃ r, en = .returned r ∧ (H8 w.heap.size w' r (xs.map (Bh c)) ∧ Fr No w w') := by
 obtain ⟨A, cp, rfl, hc, hr⟩ := hx.open
 refine Ci (args := [.pointer (some ⟨b, 0, none⟩), U8 c, .slice A xs.length cp]) TB (by simp only [m_field_Field_Row, List.length]; decide) ?_
 simp -dsimp (disch := omega) only [↓MC.wp, ↓BD, ↓CV, ↓MOp.wp, evs, ev, Am, BZ, BF, pev, Bl, Bv, Aq, Bz, psl, Ba, Aw, Ag, ↓BM, ↓AP, ↓DK, ↓Bf, Dy, Az, MOp.still, known, Op.operands, AA, A7, Nat.reduceAdd, reduceCtorEq, if_true, if_false, ↓reduceIte, ne_eq, Int.reduceEq, Int.reduceLT, Int.reduceLE, Int.reduceAdd, Int.reduceSub, Int.reduceMul, Int.reduceToNat, Nat.reduceMul, Nat.reduceLeDiff, Nat.reduceLT, Nat.reduceSub, WB, m_field_Field_Row, U8]
 refine JF [1, 7, 8, 13, 14, 15] (fun s : Nat × Value => [(1, U8 c), (7, .func (.func G5) #[.pointer (some ⟨b, 0, none⟩)] #[]), (8, s.2), (13, .slice A xs.length cp), (14, .int .i64 xs.length), (15, .int .i64 s.1)])
  (fun s w1 => s.1 ≤ xs.length ∧ Ow w1 5 1 s.2 s.1 (((xs.take s.1).map (Bh c)).map U8) ∧ NM w.heap.size s.2 ∧ Fr No w w1) (fun s _ => xs.length - s.1) (0, .slice none 0 0) rfl
  ⟨Nat.zero_le _, Ow.nil w 5 1, NM.nil _, Fr.refl _ _⟩ ?_
 rintro ⟨k, o⟩ w1 ⟨hk, ho, hn, hf⟩
 dsimp only at hk ho hn ⊢
 by_cases hlt : k < xs.length
 ·obtain ⟨ad, rfl, had, hcell⟩ := hr k hlt
  have hc1 : w1.cell? (ad.add k) = some (U8 xs[k]) := by rw [hf.cell (AC hcell) (fun h => h)]; exact hcell
  simp -dsimp (disch := omega) only [↓MC.wp, ↓BD, ↓CV, ↓MOp.wp, evs, ev, Am, BZ, BF, pev, Bl, Bv, Aq, Bz, psl, Ba, Aw, Ag, ↓BM, ↓AP, ↓DK, ↓Bf, Dy, Az, MOp.still, known, Op.operands, AA, A7, Nat.reduceAdd, reduceCtorEq, if_true, if_false, ↓reduceIte, ne_eq, Int.reduceEq, Int.reduceLT, Int.reduceLE, Int.reduceAdd, Int.reduceSub, Int.reduceMul, Int.reduceToNat, Nat.reduceMul, Nat.reduceLeDiff, Nat.reduceLT, Nat.reduceSub, WB, hc1, hb60]
  have hb1 : Fp w1 b := hb.fr hf fun h => h
  refine call (Afj hb1 c xs[k]) fun r w2 ⟨hr, hf2⟩ => ?_
  subst hr
  simp -dsimp (disch := omega) only [↓MC.wp, ↓BD, ↓CV, ↓MOp.wp, evs, ev, Am, BZ, BF, pev, Bl, Bv, Aq, Bz, psl, Ba, Aw, Ag, ↓BM, ↓AP, ↓DK, ↓Bf, Dy, Az, MOp.still, known, Op.operands, AA, A7, Nat.reduceAdd, reduceCtorEq, if_true, if_false, ↓reduceIte, ne_eq, Int.reduceEq, Int.reduceLT, Int.reduceLE, Int.reduceAdd, Int.reduceSub, Int.reduceMul, Int.reduceToNat, Nat.reduceMul, Nat.reduceLeDiff, Nat.reduceLT, Nat.reduceSub, WB, U8]
  refine new fun b2 w3 hb2 hs3 hc3 hf3 => ?_
  refine WS ?_; try with_reducible exact trivial
  have ho3 := (ho.no hf2).no hf3
  refine app elB ho3 (m := 1) (Vq hc3 1) ?_ ?_ ?_ ?_ fun v4 w4 ho4 hf4 hat => ?_
  ·rfl
  ·intro u hu; simp at hu; subst hu; rfl
  ·omega
  ·omega
  ·refine WS ?_; try with_reducible exact trivial
   have hf5 : Fr No w w3 := (hf.then hf2).then hf3
   refine ⟨(k + 1, v4), rfl, ⟨by dsimp only; omega, ?_, hn.app hf5.size hat, hf5.own hn hf4⟩, by dsimp only; omega⟩
   have : ((xs.take (k + 1)).map (Bh c)).map U8 = ((xs.take k).map (Bh c)).map U8 ++ [U8 (Bh c xs[k])] := by
    rw [List.take_succ_eq_append_getElem hlt, List.map_append, List.map_append]
    rfl
   dsimp only
   rw [this]
   exact ho4
 ·refine WS ?_; try with_reducible exact trivial
  have hkk : k = xs.length := by omega
  subst hkk
  rw [List.take_length] at ho
  exact ⟨⟨by simpa using ho, hn⟩, hf⟩

theorem U7 {w : World} {B : Nat} {v : Value} {xs : List UInt8} (hx : BS w B v xs) (hB : B ≤ w.heap.size) (hl : xs.length ≤ 70368744177664) :
  Calls Tryz.prog DY #[v] w fun en w' => ∃ r, en = .returned r ∧ (H8 w.heap.size w' r xs ∧ Fr No w w') := by
 obtain ⟨A, cp, rfl, hc, hr⟩ := hx.open
 refine Ci (args := [.slice A xs.length cp]) PZ (by simp only [m_slices_Clone, List.length]; decide) ?_
 cases A with
 | none =>
  simp only [m_slices_Clone]; refine WS ?_; try with_reducible exact trivial
  have h0 : xs = [] := by
   cases xs with
   | nil => rfl
   | cons x xs => obtain ⟨_, e, _⟩ := hr 0 (by simp); cases e
  subst h0
  exact ⟨⟨Ow.nil w 5 1, NM.nil _⟩, Fr.refl _ _⟩
 | some ad =>
  simp only [m_slices_Clone]; refine WS ?_; try with_reducible exact trivial
  refine new fun b2 w2 hb2 hs2 hc2 hf2 => ?_
  refine WS ?_; try with_reducible exact trivial
  refine app elB (Ow.lit (n := 0) hc2 rfl (by omega)) ((hx.fr hf2 fun _ _ h => h).src) ?_ ?_ ?_ ?_ fun v4 w4 ho4 hf4 hat => ?_
  ·simp
  ·intro u hu; obtain ⟨x, _, rfl⟩ := List.mem_map.1 hu; rfl
  ·omega
  ·omega
  ·refine WS ?_; try with_reducible exact trivial
   have hn : NM w.heap.size (.slice (some ⟨b2, 0, none⟩) 0 0) := fun c hc => by cases hc; show w.heap.size ≤ b2; omega
   refine ⟨⟨?_, hn.app hf2.size hat⟩, hf2.own hn hf4⟩
   simpa using ho4
end Go.Proofs.YtgpkbldlkadnjaaGreat
end
section
namespace Go.Proofs.YtgpkbldlkadnjaaGreat
open Go Go.Sl Go.RowKit
structure OM (w : World) (r : Value) (vs : List Value) (m : List (List UInt8)) : Prop where
 len : vs.length = m.length
 spine : Ow w 31 1 r m.length vs
 row : ∀ (j : Nat) (u : Value) (x : List UInt8), vs[j]? = some u → m[j]? = some x → Ow w 5 1 u x.length (x.map U8)
def Has (r : Value) (vs : List Value) (b : Nat) : Prop := r.ownBlock = some b ∨ ∃ (j : Nat) (u : Value), vs[j]? = some u ∧ u.ownBlock = some b
structure Dis (r : Value) (vs : List Value) : Prop where
 spine : ∀ (j : Nat) (u : Value) (b : Nat), vs[j]? = some u → u.ownBlock = some b → r.ownBlock ≠ some b
 rows : ∀ (i j : Nat) (u v : Value) (b : Nat), i ≠ j → vs[i]? = some u → vs[j]? = some v → u.ownBlock = some b → v.ownBlock ≠ some b

theorem OM.nil (w : World) : OM w (.slice none 0 0) [] [] := ⟨rfl, Ow.nil w 31 1, fun j u x h => by simp at h⟩
theorem Dis.nil (r : Value) : Dis r [] := ⟨fun j u b h => by simp at h, fun i j u v b _ h => by simp at h⟩
theorem Has.nil (b : Nat) : ¬ Has (.slice none 0 0) [] b := by
 rintro (h | ⟨j, u, h, _⟩)
 ·cases h
 ·simp at h
theorem OM.fr {w w' : World} {M : Nat → Prop} {r : Value} {vs : List Value} {m : List (List UInt8)} (h : OM w r vs m) (hf : Fr M w w') (hM : ∀ b, Has r vs b → ¬ M b) : OM w' r vs m :=
 ⟨h.len, h.spine.fr hf fun b hb => hM b (.inl hb), fun j u x hu hx => (h.row j u x hu hx).fr hf fun b hb => hM b (.inr ⟨j, u, hu, hb⟩)⟩
theorem OM.no {w w' : World} {r : Value} {vs : List Value} {m : List (List UInt8)} (h : OM w r vs m) (hf : Fr No w w') : OM w' r vs m := h.fr hf fun _ _ h => h
theorem OM.lt {w : World} {r : Value} {vs : List Value} {m : List (List UInt8)} (h : OM w r vs m) {b : Nat} (hb : Has r vs b) : b < w.heap.size := by
 rcases hb with hb | ⟨j, u, hu, hb⟩
 ·exact h.spine.lt hb
 ·have : j < m.length := by have := (List.getElem?_eq_some_iff.1 hu).1; rw [h.len] at this; exact this
  exact (h.row j u m[j] hu (List.getElem?_eq_getElem this)).lt hb
theorem OM.ms {w : World} {r : Value} {vs : List Value} {m : List (List UInt8)} (h : OM w r vs m) {B : Nat} (hB : ∀ b, Has r vs b → b < B) : MS w B r m := by
 refine ⟨vs, ?_, h.len, fun j u x hu hx => (h.row j u x hu hx).bs fun b hb => hB b (.inr ⟨j, u, hu, hb⟩)⟩
 have := h.spine
 rw [← h.len] at this
 exact this.rs fun b hb => hB b (.inl hb)
theorem OM.push {w w1 w2 : World} {r r' u : Value} {vs : List Value} {m : List (List UInt8)} {x : List UInt8} (h : OM w r vs m) (hf : Fr (fun b => r.ownBlock = some b) w w1) (hsp : Ow w1 31 1 r' (m.length + 1) (vs ++ [u]))
  (hu : Ow w 5 1 u x.length (x.map U8)) (hd : Dis r vs) (hu1 : ∀ b, u.ownBlock = some b → r.ownBlock ≠ some b) : OM w1 r' (vs ++ [u]) (m ++ [x]) := by
 refine ⟨by simp [h.len], by simpa using hsp, fun j v y hv hy => ?_⟩
 by_cases hj : j < m.length
 ·rw [List.getElem?_append_left (by rw [h.len]; exact hj)] at hv
  rw [List.getElem?_append_left hj] at hy
  exact (h.row j v y hv hy).fr hf fun b hb hM => hd.spine j v b hv hb hM
 ·rw [List.getElem?_append_right (by rw [h.len]; omega)] at hv
  rw [List.getElem?_append_right (by omega)] at hy
  rw [h.len] at hv
  cases hk : j - m.length with
  | zero =>
   rw [hk] at hv hy
   simp only [List.getElem?_cons_zero, Option.some.injEq] at hv hy
   subst hv
   subst hy
   exact hu.fr hf fun b hb hM => hu1 b hb hM
  | succ k => rw [hk] at hv; simp at hv
theorem Dis.push {r r' u : Value} {vs : List Value} (hd : Dis r vs) (hr : ∀ b, r'.ownBlock = some b → (¬ ∃ (j : Nat) (v : Value), vs[j]? = some v ∧ v.ownBlock = some b) ∧ u.ownBlock ≠ some b)
  (hu : ∀ b, u.ownBlock = some b → ¬ ∃ (j : Nat) (v : Value), vs[j]? = some v ∧ v.ownBlock = some b) : Dis r' (vs ++ [u]) := by
 have key : ∀ j v, (vs ++ [u])[j]? = some v → vs[j]? = some v ∨ (j = vs.length ∧ v = u) := by
  intro j v hv
  by_cases hj : j < vs.length
  ·rw [List.getElem?_append_left hj] at hv; exact .inl hv
  ·rw [List.getElem?_append_right (by omega)] at hv
   cases hk : j - vs.length with
   | zero => rw [hk] at hv; simp at hv; exact .inr ⟨by omega, hv.symm⟩
   | succ k => rw [hk] at hv; simp at hv
 refine ⟨fun j v b hv hb hrb => ?_, fun i j v v' b hij hv hv' hb hb' => ?_⟩
 ·rcases key j v hv with h | ⟨_, rfl⟩
  ·exact (hr b hrb).1 ⟨j, v, h, hb⟩
  ·exact (hr b hrb).2 hb
 ·rcases key i v hv with h | ⟨e, rfl⟩ <;> rcases key j v' hv' with h' | ⟨e', rfl⟩
  ·exact hd.rows i j v v' b hij h h' hb hb'
  ·exact hu b hb' ⟨i, v, h, hb⟩
  ·exact hu b hb ⟨j, v', h', hb'⟩
  ·omega
def NewM (B : Nat) (r : Value) (vs : List Value) : Prop := ∀ b, Has r vs b → B ≤ b
def Dh (B : Nat) (w : World) (r : Value) (m : List (List UInt8)) : Prop := ∃ vs, OM w r vs m ∧ Dis r vs ∧ NewM B r vs
theorem Dh.nil (B : Nat) (w : World) : Dh B w (.slice none 0 0) [] := ⟨[], OM.nil w, Dis.nil _, fun b h => absurd h (Has.nil b)⟩
theorem Dh.no {B : Nat} {w w' : World} {r : Value} {m : List (List UInt8)} (h : Dh B w r m) (hf : Fr No w w') : Dh B w' r m := by
 obtain ⟨vs, h1, h2, h3⟩ := h
 exact ⟨vs, h1.no hf, h2, h3⟩
theorem Dh.ms {B : Nat} {w : World} {r : Value} {m : List (List UInt8)} (h : Dh B w r m) : MS w w.heap.size r m := by
 obtain ⟨vs, h1, h2, h3⟩ := h
 exact h1.ms fun b hb => h1.lt hb

theorem NT {w0 w1 w : World} {r u : Value} {m : List (List UInt8)} {x : List UInt8} (hm1 : Dh w0.heap.size w1 r m) (hf01 : Fr No w0 w1) (hf1 : Fr No w1 w) (hu1 : H8 w1.heap.size w u x)
  (hl : m.length ≤ 1000000) {b2 c : Nat} {w2 : World} (hb2 : b2 = w.heap.size) (hs2 : w2.heap.size = b2 + 1)
  (hc2 : w2.heap[b2]? = some (.cells #[u] 31 (0, 0))) (hf2 : Fr No w w2) {K : Value → World → Prop} {tg : BQ K}
  (k : ∀ r' w', Dh w0.heap.size w' r' (m ++ [x]) → Fr No w0 w' → K r' w') :
  Run Tryz.prog (Builtin.append_ #[60, 60] 60 #[r, .slice (some ⟨b2, 0, none⟩) 1 c]) w2 K tg := by
 obtain ⟨vs, h10, h2, h3⟩ := hm1
 obtain ⟨hu, hn⟩ := hu1
 have hlt : ∀ b, Has r vs b → b < w1.heap.size := fun b hb => h10.lt hb
 have h1 := h10.no hf1
 have hf0 := hf01.then hf1
 have hsz := hf1.size
 have hsz0 := hf01.size
 have hm2 := h1.no hf2
 have hu2 := hu.no hf2
 refine app elM hm2.spine (m := 1) (Vq hc2 c) rfl ?_ (by omega) (by omega) fun v4 w4 ho4 hf4 hat => ?_
 ·intro v hv
  simp at hv
  subst hv
  rcases hu.form with ⟨rfl, _⟩ | ⟨g, cap, cur, rfl, _⟩ <;> rfl
 ·have hne : ∀ b, u.ownBlock = some b → r.ownBlock ≠ some b := fun b hb hr => by
   have := hn b hb
   have := hlt b (.inl hr)
   omega
  have hu0 : ∀ b, u.ownBlock = some b → b < w.heap.size := fun b hb => hu.lt hb
  refine k v4 w4 ⟨vs ++ [u], hm2.push (w2 := w4) hf4 ?_ hu2 h2 hne, ?_, ?_⟩ ?_
  ·simpa using ho4
  ·refine h2.push (fun b hb => ?_) (fun b hb => ?_)
   ·rcases hat with hat | ⟨b', hb', hge, _⟩
    ·rw [hat] at hb
     exact ⟨fun ⟨j, v, hv, hvb⟩ => h2.spine j v b hv hvb hb, fun hub => hne b hub hb⟩
    ·rw [hb'] at hb
     cases hb
     refine ⟨fun ⟨j, v, hv, hvb⟩ => ?_, fun hub => ?_⟩
     ·have := h1.lt (.inr ⟨j, v, hv, hvb⟩); omega
     ·have := hu0 b hub; omega
   ·rintro ⟨j, v, hv, hvb⟩
    have := hn b hb
    have := hlt b (.inr ⟨j, v, hv, hvb⟩)
    omega
  ·rintro b (hb | ⟨j, v, hv, hvb⟩)
   ·rcases hat with hat | ⟨b', hb', hge, _⟩
    ·rw [hat] at hb; exact h3 b (.inl hb)
    ·rw [hb'] at hb
     cases hb
     have := hf0.size
     omega
   ·by_cases hj : j < vs.length
    ·rw [List.getElem?_append_left hj] at hv
     exact h3 b (.inr ⟨j, v, hv, hvb⟩)
    ·rw [List.getElem?_append_right (by omega)] at hv
     cases hk : j - vs.length with
     | zero => rw [hk] at hv; simp at hv; subst hv; have := hn b hvb; omega
     | succ k => rw [hk] at hv; simp at hv
  ·exact (hf0.then hf2).step hf4 fun b hb hr => absurd (h3 b (.inl hr)) (by omega)
def La : List UInt8 → List UInt8 → List UInt8
 | a :: xs, b :: ys => (a ^^^ b) :: La xs ys
 | xs, _ => xs

theorem Iw : ∀ (xs ys : List UInt8), (La xs ys).length = xs.length
 | [], _ => by cases ‹List UInt8› <;> rfl
 | _ :: _, [] => rfl
 | x :: xs, y :: ys => by simp [La, Iw xs ys]
theorem AaE (xs : List UInt8) : La xs [] = xs := by cases xs <;> rfl
theorem Yc : ∀ (xs ys : List UInt8) (k : Nat) (h : k < ys.length) (h' : k < xs.length),
  (La xs (ys.take k))[k]? = some xs[k] ∧ (La xs (ys.take k)).set k (xs[k] ^^^ ys[k]) = La xs (ys.take (k + 1))
 | [], ys, k, h, h' => by simp at h'
 | x :: xs, [], k, h, h' => by simp at h
 | x :: xs, y :: ys, 0, h, h' => by simp [La, AaE]
 | x :: xs, y :: ys, k + 1, h, h' => by
  obtain ⟨h1, h2⟩ := Yc xs ys k (by simpa using h) (by simpa using h')
  simp only [List.take_succ_cons, La, List.getElem?_cons_succ, List.getElem_cons_succ, List.set_cons_succ]
  exact ⟨h1, by rw [h2]⟩
theorem AhN (a b : UInt8) : IntKind.u8.wrap (BitVec.ofInt 8 (a.toNat : Int) ^^^ BitVec.ofInt 8 (b.toNat : Int)).toNat = ((a ^^^ b).toNat : Int) := by
 have h1 : ∀ x : UInt8, BitVec.ofInt 8 (x.toNat : Int) = x.toBitVec := fun x => by
  apply BitVec.eq_of_toNat_eq
  simp
 rw [h1, h1, ← UInt8.toBitVec_xor]
 rw [wrap_u8 (by have := (a ^^^ b).toBitVec.isLt; omega)]
 rfl
theorem AcJ (a b : UInt8) : IntKind.u8.wrap (BitVec.ofInt IntKind.u8.bits (a.toNat : Int) ^^^ BitVec.ofInt IntKind.u8.bits (b.toNat : Int)).toNat = ((a ^^^ b).toNat : Int) := AhN a b

def BN (w : World) (g : Nat) (v : Value) (xs : List UInt8) : Prop := ∃ A c, v = .slice A xs.length c ∧ ∀ j (hj : j < xs.length), ∃ ad, A = some ad ∧ ad.block ≠ g ∧ w.cell? (ad.add j) = some (U8 xs[j])
theorem Ow.bn {w : World} {e : TypeId} {v : Value} {xs : List UInt8} {g : Nat} (h : Ow w e 1 v xs.length (xs.map U8)) (hg : v.ownBlock ≠ some g) : BN w g v xs := by
 rcases h.form with ⟨rfl, hn, hx⟩ | ⟨b, cap, cur, rfl, hb, hc, hs, hl, ht⟩
 ·refine ⟨none, 0, by rw [hn], fun j hj => by omega⟩
 ·refine ⟨_, cap, rfl, fun j hj => ⟨_, rfl, fun e => hg (by cases e; rfl), ?_⟩⟩
  exact Ow.cells h (g := b) rfl j _ (by rw [List.getElem?_map, List.getElem?_eq_getElem hj]; rfl)
theorem QX {w : World} {e : TypeId} {g cap : Nat} {xs ys : List UInt8} {v : Value} (ha : Ow w e 1 (.slice (some ⟨g, 0, none⟩) xs.length cap) xs.length (xs.map U8)) (hb : BN w g v ys)
  (hl : ys.length ≤ xs.length) (hm : xs.length ≤ 9223372036854775806) :
  Calls Tryz.prog Ji #[.slice (some ⟨g, 0, none⟩) xs.length cap, v] w fun en w' => ∃ r, en = .returned r ∧
   (Ow w' e 1 (.slice (some ⟨g, 0, none⟩) xs.length cap) xs.length ((La xs ys).map U8) ∧ Fr (· = g) w w') := by
 obtain ⟨A, c, rfl, hr⟩ := hb
 refine Ci (args := [.slice (some ⟨g, 0, none⟩) xs.length cap, .slice A ys.length c]) X4 (by simp only [m_matrix_plus, List.length]; decide) ?_
 simp only [m_matrix_plus]; refine WS ?_; try with_reducible exact trivial
 refine JF [0, 6, 7, 8] (fun k : Nat => [(0, .slice (some ⟨g, 0, none⟩) xs.length cap), (6, .slice A ys.length c), (7, .int .i64 ys.length), (8, .int .i64 k)])
  (fun k w1 => k ≤ ys.length ∧ Ow w1 e 1 (.slice (some ⟨g, 0, none⟩) xs.length cap) xs.length ((La xs (ys.take k)).map U8) ∧ Fr (· = g) w w1) (fun k _ => ys.length - k) 0 rfl
  ⟨Nat.zero_le _, by simpa [AaE] using ha, Fr.refl _ _⟩ ?_
 rintro k w1 ⟨hk, ho, hf⟩
 by_cases hlt : k < ys.length
 ·obtain ⟨ad, rfl, had, hcell⟩ := hr k hlt
  have hc1 : w1.cell? (ad.add k) = some (U8 ys[k]) := by
   rw [hf.cell (AC hcell) (by rw [add_block]; exact had)]; exact hcell
  obtain ⟨hx1, hx2⟩ := Yc xs ys k hlt (by omega)
  have hc2 : w1.cell? ⟨g, k, none⟩ = some (U8 xs[k]) := ho.cellAt (by rw [List.getElem?_map, hx1]; rfl)
  simp -dsimp (disch := omega) only [↓MC.wp, ↓BD, ↓CV, ↓MOp.wp, evs, ev, Am, BZ, BF, pev, Bl, Bv, Aq, Bz, psl, Ba, Aw, Ag, ↓BM, ↓AP, ↓DK, ↓Bf, Dy, Az, MOp.still, known, Op.operands, AA, A7, Nat.reduceAdd, reduceCtorEq, if_true, if_false, ↓reduceIte, ne_eq, Int.reduceEq, Int.reduceLT, Int.reduceLE, Int.reduceAdd, Int.reduceSub, Int.reduceMul, Int.reduceToNat, Nat.reduceMul, Nat.reduceLeDiff, Nat.reduceLT, Nat.reduceSub, WB, hc1, hc2, U8, AcJ]
  refine ho.set (j := k) (v := U8 (xs[k] ^^^ ys[k])) (by omega) rfl fun w2 ho2 hf2 hs2 => ?_
  refine WS ?_; try with_reducible exact trivial
  refine ⟨k + 1, rfl, ⟨by omega, ?_, hf.step hf2 fun _ _ h => h⟩, by omega⟩
  rw [← hx2, List.map_set]
  exact ho2
 ·refine WS ?_; try with_reducible exact trivial
  have hkk : k = ys.length := by omega
  subst hkk
  rw [List.take_length] at ho
  exact ⟨ho, hf⟩
theorem Kq {α : Type} {l : List α} {k : Nat} (h : k < l.length) : l.take (k + 1) = l.take k ++ [l[k]] := List.take_succ_eq_append_getElem h
theorem H8.no {B : Nat} {w w' : World} {r : Value} {xs : List UInt8} (h : H8 B w r xs) (hf : Fr No w w') : H8 B w' r xs := ⟨h.1.no hf, h.2⟩
theorem H8.bs {B : Nat} {w : World} {r : Value} {xs : List UInt8} (h : H8 B w r xs) : BS w w.heap.size r xs := h.1.bs fun b hb => h.1.lt hb

theorem Ow.cells1 {w : World} {e : TypeId} {s n : Nat} {v : Value} {cs : List Value} (h : Ow w e s v n cs) : v.cells = #[v] := by
 rcases h.form with ⟨rfl, _⟩ | ⟨_, _, _, rfl, _⟩ <;> rfl
theorem ZW {w : World} {B : Nat} {v : Value} {m : List (List UInt8)} (hm : MS w B v m) (hB : B ≤ w.heap.size) (hn : m.length ≤ 1000000) (hl : ∀ x ∈ m, x.length ≤ 1000000) :
  Calls Tryz.prog Lj #[v] w fun en w' => ∃ r, en = .returned r ∧ (Dh w.heap.size w' r m ∧ Fr No w w') := by
 obtain ⟨A, cp, rfl, hc, hr⟩ := hm.open
 refine Ci (args := [.slice A m.length cp]) Vf (by simp only [m_matrix_copied, List.length]; decide) ?_
 simp only [m_matrix_copied]; refine WS ?_; try with_reducible exact trivial
 refine JF [3, 6, 7, 8] (fun s : Nat × Value => [(3, s.2), (6, .slice A m.length cp), (7, .int .i64 m.length), (8, .int .i64 s.1)])
  (fun s w1 => s.1 ≤ m.length ∧ Dh w.heap.size w1 s.2 (m.take s.1) ∧ Fr No w w1) (fun s _ => m.length - s.1) (0, .slice none 0 0) rfl ⟨Nat.zero_le _, Dh.nil _ _, Fr.refl _ _⟩ ?_
 rintro ⟨k, o⟩ w1 ⟨hk, ho, hf⟩
 dsimp only at hk ho ⊢
 by_cases hlt : k < m.length
 ·obtain ⟨ad, u, rfl, had, hcell, hrow⟩ := hr k hlt
  have hc1 : w1.cell? (ad.add k) = some u := by rw [hf.cell (AC hcell) (fun h => h)]; exact hcell
  simp -dsimp (disch := omega) only [↓MC.wp, ↓BD, ↓CV, ↓MOp.wp, evs, ev, Am, BZ, BF, pev, Bl, Bv, Aq, Bz, psl, Ba, Aw, Ag, ↓BM, ↓AP, ↓DK, ↓Bf, Dy, Az, MOp.still, known, Op.operands, AA, A7, Nat.reduceAdd, reduceCtorEq, if_true, if_false, ↓reduceIte, ne_eq, Int.reduceEq, Int.reduceLT, Int.reduceLE, Int.reduceAdd, Int.reduceSub, Int.reduceMul, Int.reduceToNat, Nat.reduceMul, Nat.reduceLeDiff, Nat.reduceLT, Nat.reduceSub, WB, hc1]
  have hrow1 : BS w1 B u m[k] := hrow.fr hf fun _ _ h => h
  refine call (U7 hrow1 (by have := hf.size; omega) (by have := hl _ (List.getElem_mem hlt); omega)) fun r w2 ⟨hr2, hf2⟩ => ?_
  simp -dsimp (disch := omega) only [↓MC.wp, ↓BD, ↓CV, ↓MOp.wp, evs, ev, Am, BZ, BF, pev, Bl, Bv, Aq, Bz, psl, Ba, Aw, Ag, ↓BM, ↓AP, ↓DK, ↓Bf, Dy, Az, MOp.still, known, Op.operands, AA, A7, Nat.reduceAdd, reduceCtorEq, if_true, if_false, ↓reduceIte, ne_eq, Int.reduceEq, Int.reduceLT, Int.reduceLE, Int.reduceAdd, Int.reduceSub, Int.reduceMul, Int.reduceToNat, Nat.reduceMul, Nat.reduceLeDiff, Nat.reduceLT, Nat.reduceSub, WB, Ow.cells1 hr2.1, KE]
  refine new fun b2 w3 hb2 hs3 hc3 hf3 => ?_
  refine WS ?_; try with_reducible exact trivial
  refine NT ho hf hf2 hr2 (by simp; omega) hb2 hs3 hc3 hf3 fun r' w' hr' hf' => ?_
  refine WS ?_; try with_reducible exact trivial
  exact ⟨(k + 1, r'), rfl, ⟨by dsimp only; omega, by dsimp only; rw [Kq hlt]; exact hr', hf'⟩, by dsimp only; omega⟩
 ·refine WS ?_; try with_reducible exact trivial
  have hkk : k = m.length := by omega
  subst hkk
  rw [List.take_length] at ho
  exact ⟨ho, hf⟩
end Go.Proofs.YtgpkbldlkadnjaaGreat
end
section
set_option maxHeartbeats 3000000
attribute [local irreducible] Go.Sl.Chk Go.Sl.Br Go.Sl.Ld Go.Sl.Ldn Go.Sl.LdB Go.Sl.Stn Go.Sl.New Go.Sl.Run Go.Sl.Ec Go.Sl.D9 Go.Sl.Call Go.Sl.Cc Go.Sl.Ed Go.Sl.Alt Go.Sl.ev Go.Sl.Am
namespace Go.Proofs.YtgpkbldlkadnjaaGreat
open Go Go.Sl Go.RowKit
def inR (m : List (List UInt8)) (i : Int) : Bool := decide (0 ≤ i) && decide (i < m.length)
def rowAt (m : List (List UInt8)) (i : Int) : List UInt8 := m.getD i.toNat []
def pick (m : List (List UInt8)) (at' : List Int) : List (List UInt8) := if at'.all (inR m) then at'.map (rowAt m) else []
def VL (n : Int) : Value := .int .i64 n

theorem Ac7 {w : World} {B B' : Nat} {v v' : Value} {m : List (List UInt8)} {is : List Int} (hm : MS w B v m) (hi : RS w B' v' (is.map VL)) (hB : B ≤ w.heap.size) (hB' : B' ≤ w.heap.size) (hn : m.length ≤ 1000000) (hl : ∀ x ∈ m, x.length ≤ 1000000)
  (hni : is.length ≤ 1000000) :
  Calls Tryz.prog Jj #[v, v'] w fun en w' => ∃ r, en = .returned r ∧ (Dh w.heap.size w' r (pick m is) ∧ Fr No w w') := by
 obtain ⟨A, cp, rfl, hc, hr⟩ := hm.open
 obtain ⟨A', cp', rfl, hc', hr'⟩ := hi
 simp only [List.length_map] at hc' ⊢
 refine Ci (args := [.slice A m.length cp, .slice A' is.length cp']) X5 (by simp only [m_matrix_Rows, List.length]; decide) ?_
 simp only [m_matrix_Rows]; refine WS ?_; try with_reducible exact trivial
 refine JF [0, 5, 8, 9, 10] (fun s : Nat × Value => [(0, .slice A m.length cp), (5, s.2), (8, .slice A' is.length cp'), (9, .int .i64 is.length), (10, .int .i64 s.1)])
  (fun s w1 => s.1 ≤ is.length ∧ (is.take s.1).all (inR m) = true ∧ Dh w.heap.size w1 s.2 ((is.take s.1).map (rowAt m)) ∧ Fr No w w1) (fun s _ => is.length - s.1) (0, .slice none 0 0) (by with_unfolding_all rfl) ⟨Nat.zero_le _, rfl, Dh.nil _ _, Fr.refl _ _⟩ ?_
 rintro ⟨k, o⟩ w1 ⟨hk, hin, ho, hf⟩
 dsimp only at hk hin ho ⊢
 by_cases hlt : k < is.length
 ·obtain ⟨ad, rfl, had, hcell⟩ := hr' k (VL is[k]) (by rw [List.getElem?_map, List.getElem?_eq_getElem hlt]; rfl)
  have hc1 : w1.cell? (ad.add k) = some (VL is[k]) := by rw [hf.cell (AC hcell) (fun h => h)]; exact hcell
  by_cases hneg : is[k] < 0
  ·simp -dsimp (disch := omega) only [↓MC.wp, ↓BD, ↓CV, ↓MOp.wp, evs, ev, Am, BZ, BF, pev, Bl, Bv, Aq, Bz, psl, Ba, Aw, Ag, ↓BM, ↓AP, ↓DK, ↓Bf, Dy, Az, MOp.still, known, Op.operands, AA, A7, Nat.reduceAdd, reduceCtorEq, if_true, if_false, ↓reduceIte, ne_eq, Int.reduceEq, Int.reduceLT, Int.reduceLE, Int.reduceAdd, Int.reduceSub, Int.reduceMul, Int.reduceToNat, Nat.reduceMul, Nat.reduceLeDiff, Nat.reduceLT, Nat.reduceSub, WB, hc1, VL]
   have : is.all (inR m) = false := by
    rw [List.all_eq_false]
    exact ⟨is[k], List.getElem_mem hlt, by simp [inR]; omega⟩
   rw [pick, this]
   exact ⟨Dh.nil _ _, hf⟩
  ·by_cases hge : (m.length : Int) ≤ is[k]
   ·simp -dsimp (disch := omega) only [↓MC.wp, ↓BD, ↓CV, ↓MOp.wp, evs, ev, Am, BZ, BF, pev, Bl, Bv, Aq, Bz, psl, Ba, Aw, Ag, ↓BM, ↓AP, ↓DK, ↓Bf, Dy, Az, MOp.still, known, Op.operands, AA, A7, Nat.reduceAdd, reduceCtorEq, if_true, if_false, ↓reduceIte, ne_eq, Int.reduceEq, Int.reduceLT, Int.reduceLE, Int.reduceAdd, Int.reduceSub, Int.reduceMul, Int.reduceToNat, Nat.reduceMul, Nat.reduceLeDiff, Nat.reduceLT, Nat.reduceSub, WB, hc1, VL]
    have : is.all (inR m) = false := by
     rw [List.all_eq_false]
     exact ⟨is[k], List.getElem_mem hlt, by simp [inR]; omega⟩
    rw [pick, this]
    exact ⟨Dh.nil _ _, hf⟩
   ·obtain ⟨q, hq⟩ : ∃ q : Nat, is[k] = q := ⟨is[k].toNat, by omega⟩
    have hql : q < m.length := by omega
    obtain ⟨ad2, u, rfl, had2, hcell2, hrow⟩ := hr q hql
    have hc2 : w1.cell? (ad2.add q) = some u := by rw [hf.cell (AC hcell2) (fun h => h)]; exact hcell2
    rw [hq] at hc1
    simp -dsimp (disch := omega) only [↓MC.wp, ↓BD, ↓CV, ↓MOp.wp, evs, ev, Am, BZ, BF, pev, Bl, Bv, Aq, Bz, psl, Ba, Aw, Ag, ↓BM, ↓AP, ↓DK, ↓Bf, Dy, Az, MOp.still, known, Op.operands, AA, A7, Nat.reduceAdd, reduceCtorEq, if_true, if_false, ↓reduceIte, ne_eq, Int.reduceEq, Int.reduceLT, Int.reduceLE, Int.reduceAdd, Int.reduceSub, Int.reduceMul, Int.reduceToNat, Nat.reduceMul, Nat.reduceLeDiff, Nat.reduceLT, Nat.reduceSub, WB, hc1, VL, hc2]
    have hrow1 : BS w1 B u m[q] := hrow.fr hf fun _ _ h => h
    refine call (U7 hrow1 (by have := hf.size; omega) (by have := hl _ (List.getElem_mem hql); omega)) ?_
    intro r w2 h2
    have hr2 := h2.1
    have hf2 := h2.2
    clear h2
    simp -dsimp (disch := omega) only [↓MC.wp, ↓BD, ↓CV, ↓MOp.wp, evs, ev, Am, BZ, BF, pev, Bl, Bv, Aq, Bz, psl, Ba, Aw, Ag, ↓BM, ↓AP, ↓DK, ↓Bf, Dy, Az, MOp.still, known, Op.operands, AA, A7, Nat.reduceAdd, reduceCtorEq, if_true, if_false, ↓reduceIte, ne_eq, Int.reduceEq, Int.reduceLT, Int.reduceLE, Int.reduceAdd, Int.reduceSub, Int.reduceMul, Int.reduceToNat, Nat.reduceMul, Nat.reduceLeDiff, Nat.reduceLT, Nat.reduceSub, WB, Ow.cells1 hr2.1, KE]
    refine new ?_
    intro b2 w3 hb2 hs3 hc3 hf3
    refine WS ?_; try with_reducible exact trivial
    have hlen : ((is.take k).map (rowAt m)).length ≤ 1000000 := by rw [List.length_map, List.length_take]; omega
    refine NT ho hf hf2 hr2 hlen hb2 hs3 hc3 hf3 fun r' w' hr' hf' => ?_
    refine WS ?_; try with_reducible exact trivial
    have hrq : rowAt m is[k] = m[q] := by rw [rowAt, hq, Int.toNat_natCast, List.getD_eq_getElem?_getD, List.getElem?_eq_getElem hql]; rfl
    refine ⟨(k + 1, r'), rfl, ⟨by dsimp only; omega, ?_, ?_, hf'⟩, by dsimp only; omega⟩
    ·dsimp only
     rw [Kq hlt, List.all_append, hin]
     simp [inR]
     omega
    ·dsimp only
     rw [Kq hlt, List.map_append, List.map_cons, List.map_nil, hrq]
     exact hr'
 ·refine WS ?_; try with_reducible exact trivial
  have hkk : k = is.length := by omega
  subst hkk
  rw [List.take_length] at ho hin
  rw [pick, hin]
  exact ⟨ho, hf⟩

theorem Dh.mono {B B' : Nat} {w : World} {r : Value} {m : List (List UInt8)} (h : Dh B w r m) (hB : B' ≤ B) : Dh B' w r m := by
 obtain ⟨vs, h1, h2, h3⟩ := h
 exact ⟨vs, h1, h2, fun b hb => Nat.le_trans hB (h3 b hb)⟩

/-! ### Coding -/
def IQ (k i j : Nat) : UInt8 := if k ≤ i then FK (UInt8.ofNat (i ^^^ j)) else if i = j then 1 else 0
def Nr (k i : Nat) : List UInt8 := (List.range k).map (IQ k i)
def Dn (k n : Nat) : List (List UInt8) := (List.range n).map (Nr k)
def part (f : Nat → UInt8) (k j : Nat) : List UInt8 := (List.range k).map fun x => if x < j then f x else 0
theorem Afe (f : Nat → UInt8) (k : Nat) : part f k 0 = List.replicate k 0 := by
 apply List.ext_getElem
 ·simp [part]
 ·intro i h1 h2; simp [part]
theorem Afg (f : Nat → UInt8) (k : Nat) : part f k k = (List.range k).map f := by
 apply List.ext_getElem
 ·simp [part]
 ·intro i h1 h2
  simp [part] at h1 ⊢
  exact fun h => absurd h1 (by omega)
theorem Abm (f : Nat → UInt8) (k j : Nat) (h : j < k) : (part f k j).set j (f j) = part f k (j + 1) := by
 apply List.ext_getElem
 ·simp [part]
 ·intro i h1 h2
  rw [List.getElem_set]
  simp only [part, List.getElem_map, List.getElem_range]
  by_cases e : j = i
  ·subst e; simp
  ·rw [if_neg e]
   by_cases h3 : i < j
   ·rw [if_pos h3, if_pos (by omega)]
   ·rw [if_neg h3, if_neg (by omega)]
theorem Aff (f : Nat → UInt8) (k j : Nat) (h : f j = 0) : part f k (j + 1) = part f k j := by
 apply List.ext_getElem
 ·simp [part]
 ·intro i h1 h2
  simp only [part, List.getElem_map, List.getElem_range]
  by_cases e : i = j
  ·subst e; simp [h]
  ·by_cases h3 : i < j
   ·rw [if_pos h3, if_pos (by omega)]
   ·rw [if_neg h3, if_neg (by omega)]
theorem AhO (x y : Nat) (hx : x < 1048576) (hy : y < 1048576) : IntKind.i64.wrap (BitVec.ofInt IntKind.i64.bits (x : Int) ^^^ BitVec.ofInt IntKind.i64.bits (y : Int)).toNat = ((x ^^^ y : Nat) : Int) := by
 have h1 : ∀ n : Nat, BitVec.ofInt 64 (n : Int) = BitVec.ofNat 64 n := fun n => by
  apply BitVec.eq_of_toNat_eq
  simp
 have h3 : x ^^^ y < 2 ^ 20 := Nat.xor_lt_two_pow (by omega) (by omega)
 show IntKind.i64.wrap (((BitVec.ofInt 64 (x : Int) ^^^ BitVec.ofInt 64 (y : Int)).toNat : Nat) : Int) = _
 rw [h1, h1, BitVec.toNat_xor, BitVec.toNat_ofNat, BitVec.toNat_ofNat, Nat.mod_eq_of_lt (by omega), Nat.mod_eq_of_lt (by omega), wrap_i64 (by omega)]
theorem AiG (n : Nat) : IntKind.u8.wrap (n : Int) = ((UInt8.ofNat n).toNat : Int) := by
 rw [UInt8.toNat_ofNat']
 unfold IntKind.wrap
 simp only [IntKind.bits, IntKind.signed]
 have : ((n % 2 ^ 8 : Nat) : Int) = (n : Int) % 2 ^ 8 := by omega
 rw [this]
 simp

theorem mkB {w : World} {n : Nat} (hn : n ≤ 1000000) {en : Env} {dst : Option Nat} {x y : Operand} {ty : TypeId} {pos : String} {af : Array Edge} {gu} (hx : rho en x = .int .i64 n) (hy : rho en y = .int .i64 n) {K : Value → World → Prop} {tg : BQ K}
  (kk : ∀ b w', b = w.heap.size → H8 b w' (.slice (some ⟨b, 0, none⟩) n n) (List.replicate n 0) → Fr No w w' → K (.slice (some ⟨b, 0, none⟩) n n) w') :
  D9 Tryz.prog (execOp (rho en) ⟨dst, .makeSlice 31 x y, ty, pos, af, gu⟩) w K tg := by
 refine mk elB (n := (n : Int)) (by omega) (by omega) (by omega) hx hy fun b w' hb hs hc hf => ?_
 rw [Int.toNat_natCast] at hc ⊢
 refine kk b w' hb ⟨?_, fun c hc => by cases hc; exact Nat.le_refl _⟩ hf
 rw [List.length_replicate]
 have := Ow.lit (n := n) (s := 1) hc (by simp [size_madeCells]) (by omega)
 rw [AgQ _ _ rfl, Nat.mul_one] at this
 rw [List.map_replicate]
 exact this

theorem Tt {w : World} (k n : Nat) (hk : k ≤ 1000) (hn : n ≤ 1000) :
  Calls Tryz.prog GR #[.int .i64 k, .int .i64 n] w fun en w' => ∃ r, en = .returned r ∧ (Dh w.heap.size w' r (Dn k n) ∧ Fr No w w') := by
 refine Ci (args := [.int .i64 k, .int .i64 n]) Vh (by simp only [m_matrix_Coding, List.length]; decide) ?_
 simp only [m_matrix_Coding]; refine WS ?_; try with_reducible exact trivial
 refine call (Ua w) ?_
 intro r w0 h1
 rw [h1.1]
 have hfa := h1.2.1
 have hf1 := h1.2.2
 clear h1
 refine WS ?_; try with_reducible exact trivial
 refine JF [0, 5, 6, 11, 12] (fun s : Nat × Value => [(0, .int .i64 k), (5, .pointer (some ⟨w.heap.size, 0, none⟩)), (6, s.2), (11, .int .i64 n), (12, .int .i64 s.1)])
  (fun s w2 => s.1 ≤ n ∧ Dh w0.heap.size w2 s.2 ((List.range s.1).map (Nr k)) ∧ Fr No w0 w2) (fun s _ => n - s.1) (0, .slice none 0 0) (by with_unfolding_all rfl) ⟨Nat.zero_le _, Dh.nil _ _, Fr.refl _ _⟩ ?_
 rintro ⟨i, o⟩ w1 ⟨hi, ho, hf⟩
 dsimp only at hi ho ⊢
 by_cases hlt : i < n
 ·refine WS ?_; try with_reducible exact trivial
  refine mkB (n := k) (by omega) ?_ ?_ fun b w2 hb hrow hf2 => ?_
  ·with_unfolding_all rfl
  ·with_unfolding_all rfl
  refine WS ?_; try with_reducible exact trivial
  refine JF [0, 5, 6, 7, 8, 11, 12, 18, 19] (fun j : Nat => [(0, .int .i64 k), (5, .pointer (some ⟨w.heap.size, 0, none⟩)), (6, o), (7, .int .i64 i), (8, .slice (some ⟨b, 0, none⟩) k k), (11, .int .i64 n), (12, .int .i64 i), (18, .int .i64 k), (19, .int .i64 j)])
   (fun j w3 => j ≤ k ∧ Ow w3 5 1 (.slice (some ⟨b, 0, none⟩) k k) k ((part (IQ k i) k j).map U8) ∧ Fr No w1 w3) (fun j _ => k - j) 0 (by with_unfolding_all rfl) ⟨Nat.zero_le _, ?_, hf2⟩ ?_
  ·have := hrow.1
   rw [List.length_replicate] at this
   rw [Afe]
   exact this
  ·clear hrow hf2 w2
   rintro j w3 ⟨hj, hrow, hf3⟩
   by_cases hjl : j < k
   ·have hfa3 : Fp w3 w.heap.size := (hfa.fr hf fun h => h).fr hf3 fun h => h
    by_cases hik : k ≤ i
    ·simp -dsimp (disch := omega) only [↓MC.wp, ↓BD, ↓CV, ↓MOp.wp, evs, ev, Am, BZ, BF, pev, Bl, Bv, Aq, Bz, psl, Ba, Aw, Ag, ↓BM, ↓AP, ↓DK, ↓Bf, Dy, Az, MOp.still, known, Op.operands, AA, A7, Nat.reduceAdd, reduceCtorEq, if_true, if_false, ↓reduceIte, ne_eq, Int.reduceEq, Int.reduceLT, Int.reduceLE, Int.reduceAdd, Int.reduceSub, Int.reduceMul, Int.reduceToNat, Nat.reduceMul, Nat.reduceLeDiff, Nat.reduceLT, Nat.reduceSub, WB, AhO, AiG]
     refine call (Yz hfa3 (UInt8.ofNat (i ^^^ j))) ?_
     intro r w4 hw4
     have hf4 := hw4.2
     rw [hw4.1]
     clear hw4
     simp -dsimp (disch := omega) only [↓MC.wp, ↓BD, ↓CV, ↓MOp.wp, evs, ev, Am, BZ, BF, pev, Bl, Bv, Aq, Bz, psl, Ba, Aw, Ag, ↓BM, ↓AP, ↓DK, ↓Bf, Dy, Az, MOp.still, known, Op.operands, AA, A7, Nat.reduceAdd, reduceCtorEq, if_true, if_false, ↓reduceIte, ne_eq, Int.reduceEq, Int.reduceLT, Int.reduceLE, Int.reduceAdd, Int.reduceSub, Int.reduceMul, Int.reduceToNat, Nat.reduceMul, Nat.reduceLeDiff, Nat.reduceLT, Nat.reduceSub, WB, U8]
     refine (hrow.no hf4).set (j := j) (v := U8 (FK (UInt8.ofNat (i ^^^ j)))) hjl rfl fun w5 ho5 hf5 hs5 => ?_
     refine WS ?_; try with_reducible exact trivial
     refine ⟨j + 1, rfl, ⟨by omega, ?_, (hf3.then hf4).step hf5 fun c hc h => by omega⟩, by omega⟩
     rw [← Abm _ _ _ hjl, List.map_set]
     have : IQ k i j = FK (UInt8.ofNat (i ^^^ j)) := by rw [IQ, if_pos hik]
     rw [this]
     exact ho5
    ·by_cases hij : i = j
     ·refine WS ?_; try with_reducible exact trivial
      refine hrow.set (j := j) (v := U8 1) hjl rfl fun w5 ho5 hf5 hs5 => ?_
      refine WS ?_; try with_reducible exact trivial
      refine ⟨j + 1, rfl, ⟨by omega, ?_, hf3.step hf5 fun c hc h => by omega⟩, by omega⟩
      rw [← Abm _ _ _ hjl, List.map_set]
      have : IQ k i j = 1 := by rw [IQ, if_neg hik, if_pos hij]
      rw [this]
      exact ho5
     ·refine WS ?_; try with_reducible exact trivial
      refine ⟨j + 1, rfl, ⟨by omega, ?_, hf3⟩, by omega⟩
      rw [Aff _ _ _ (by rw [IQ, if_neg hik, if_neg hij])]
      exact hrow
   ·simp -dsimp (disch := omega) only [↓MC.wp, ↓BD, ↓CV, ↓MOp.wp, evs, ev, Am, BZ, BF, pev, Bl, Bv, Aq, Bz, psl, Ba, Aw, Ag, ↓BM, ↓AP, ↓DK, ↓Bf, Dy, Az, MOp.still, known, Op.operands, AA, A7, Nat.reduceAdd, reduceCtorEq, if_true, if_false, ↓reduceIte, ne_eq, Int.reduceEq, Int.reduceLT, Int.reduceLE, Int.reduceAdd, Int.reduceSub, Int.reduceMul, Int.reduceToNat, Nat.reduceMul, Nat.reduceLeDiff, Nat.reduceLT, Nat.reduceSub, WB, KE]
    have hjk : j = k := by omega
    subst hjk
    rw [Afg] at hrow
    refine new ?_
    intro b2 w4 hb2 hs4 hc4 hf4
    refine WS ?_; try with_reducible exact trivial
    have hu : H8 w1.heap.size w3 (.slice (some ⟨b, 0, none⟩) j j) (Nr j i) := by
     refine ⟨?_, fun c hc => by cases hc; exact Nat.le_of_eq hb.symm⟩
     have : (Nr j i).length = j := by simp [Nr]
     rw [this]
     exact hrow
    refine NT ho hf hf3 hu (by simp; omega) hb2 hs4 hc4 hf4 fun r' w' hr' hf' => ?_
    refine WS ?_; try with_reducible exact trivial
    refine ⟨(i + 1, r'), rfl, ⟨by dsimp only; omega, ?_, hf'⟩, by dsimp only; omega⟩
    dsimp only
    rw [List.range_succ, List.map_append]
    exact hr'
 ·refine WS ?_; try with_reducible exact trivial
  have hin : i = n := by omega
  subst hin
  exact ⟨ho.mono hf1.size, hf1.then hf⟩
theorem Afi {w : World} (n : Nat) (hn : n ≤ 1000) :
  Calls Tryz.prog OJ #[.int .i64 n] w fun en w' => ∃ r, en = .returned r ∧ (Dh w.heap.size w' r (Dn n n) ∧ Fr No w w') := by
 refine Ci (args := [.int .i64 n]) Aaa (by simp only [m_matrix_One, List.length]; decide) ?_
 simp only [m_matrix_One]; refine WS ?_; try with_reducible exact trivial
 refine call (Tt n n hn hn) fun r w1 h => ?_
 refine WS ?_; try with_reducible exact trivial
 exact h
abbrev LL := List (List UInt8)
def IC (b : List (List UInt8)) (r : List UInt8) (wd : Nat) : Nat → List UInt8
 | 0 => List.replicate wd 0
 | k + 1 => La (IC b r wd k) ((b.getD k []).map (Bh (r.getD k 0)))
theorem EW (b : List (List UInt8)) (r : List UInt8) (wd : Nat) : ∀ k, (IC b r wd k).length = wd
 | 0 => List.length_replicate
 | k + 1 => by rw [IC, Iw, EW]
def width (m : List (List UInt8)) : Nat := (m.getD 0 []).length
def Gy (a b : List (List UInt8)) : List (List UInt8) := if width a = b.length then a.map (fun r => IC b r (width b) r.length) else []
structure Ea (m : List (List UInt8)) : Prop where
 pos : 0 < m.length
 wide : 0 < width m
 all : ∀ x ∈ m, x.length = width m
structure Nw (m : List (List UInt8)) : Prop where
 high : m.length ≤ 1000
 wide : ∀ x ∈ m, x.length ≤ 1000
theorem AY {α : Type} {l : List α} {k : Nat} (d : α) (h : k < l.length) : l.getD k d = l[k] := by
 rw [List.getD_eq_getElem?_getD, List.getElem?_eq_getElem h]; rfl

theorem WM {w : World} {B B' : Nat} {v v' : Value} {a b : List (List UInt8)} (ha : MS w B v a) (hb : MS w B' v' b) (hB : B ≤ w.heap.size) (hB' : B' ≤ w.heap.size) (ra : Ea a) (rb : Ea b) (sa : Nw a) (sb : Nw b) :
  Calls Tryz.prog IY #[v, v'] w fun en w' => ∃ r, en = .returned r ∧ (Dh w.heap.size w' r (Gy a b) ∧ Fr No w w') := by
 obtain ⟨A, cp, rfl, hc, hr⟩ := ha.open
 obtain ⟨A', cp', rfl, hc', hr'⟩ := hb.open
 have pa := ra.pos
 have hah := sa.high
 have hbh := sb.high
 have pb := rb.pos
 obtain ⟨ad0, u0, rfl, had0, hcell0, hrow0⟩ := hr 0 pa
 obtain ⟨B0, c0, rfl, hc0, hr0⟩ := hrow0.open
 obtain ⟨bd0, x0, rfl, hbd0, hbcell0, hbrow0⟩ := hr' 0 pb
 obtain ⟨B1, c1, rfl, hc1, hr1⟩ := hbrow0.open
 have wa : a[0].length = width a := by rw [width, AY [] pa]
 have wb : b[0].length = width b := by rw [width, AY [] pb]
 have wb' : width b ≤ 1000 := by rw [← wb]; exact sb.wide _ (List.getElem_mem pb)
 refine Ci (args := [.slice (some ad0) a.length cp, .slice (some bd0) b.length cp']) Aab (by simp only [m_matrix_Mul, List.length]; decide) ?_
 by_cases hw : width a = b.length
 ·rw [Gy, if_pos hw]
  rw [wa] at hcell0
  rw [wb] at hbcell0
  simp -dsimp (disch := omega) only [↓MC.wp, ↓BD, ↓CV, ↓MOp.wp, evs, ev, Am, BZ, BF, pev, Bl, Bv, Aq, Bz, psl, Ba, Aw, Ag, ↓BM, ↓AP, ↓DK, ↓Bf, Dy, Az, MOp.still, known, Op.operands, AA, A7, Nat.reduceAdd, reduceCtorEq, if_true, if_false, ↓reduceIte, ne_eq, Int.reduceEq, Int.reduceLT, Int.reduceLE, Int.reduceAdd, Int.reduceSub, Int.reduceMul, Int.reduceToNat, Nat.reduceMul, Nat.reduceLeDiff, Nat.reduceLT, Nat.reduceSub, WB, m_matrix_Mul, hcell0]
  refine call (Ua w) ?_
  intro r w0 h1
  rw [h1.1]
  have hfa := h1.2.1
  have hf0 := h1.2.2
  clear h1
  refine WS ?_; try with_reducible exact trivial
  refine JF [1, 5, 6, 20, 21, 22] (fun s : Nat × Value => [(1, .slice (some bd0) b.length cp'), (5, .pointer (some ⟨w.heap.size, 0, none⟩)), (6, s.2), (20, .slice (some ad0) a.length cp), (21, .int .i64 a.length), (22, .int .i64 s.1)])
   (fun s w1 => s.1 ≤ a.length ∧ Dh w0.heap.size w1 s.2 ((a.take s.1).map (fun r => IC b r (width b) r.length)) ∧ Fr No w0 w1) (fun s _ => a.length - s.1) (0, .slice none 0 0) (by with_unfolding_all rfl) ⟨Nat.zero_le _, Dh.nil _ _, Fr.refl _ _⟩ ?_
  rintro ⟨i, o⟩ w1 ⟨hi, ho, hf⟩
  dsimp only at hi ho ⊢
  have hfw : Fr No w w1 := hf0.then hf
  by_cases hlt : i < a.length
  ·obtain ⟨ad, u, had', had, hcell, hrow⟩ := hr i hlt
   cases had'
   obtain ⟨B2, c2, rfl, hc2, hr2⟩ := hrow.open
   have hcell1 : w1.cell? (ad0.add i) = some (.slice B2 a[i].length c2) := by rw [hfw.cell (AC hcell) (fun h => h)]; exact hcell
   have hbcell1 : w1.cell? (bd0.add 0) = some (.slice B1 (width b) c1) := by rw [hfw.cell (AC hbcell0) (fun h => h)]; exact hbcell0
   have hwi : a[i].length = b.length := by rw [ra.all _ (List.getElem_mem hlt), hw]
   simp -dsimp (disch := omega) only [↓MC.wp, ↓BD, ↓CV, ↓MOp.wp, evs, ev, Am, BZ, BF, pev, Bl, Bv, Aq, Bz, psl, Ba, Aw, Ag, ↓BM, ↓AP, ↓DK, ↓Bf, Dy, Az, MOp.still, known, Op.operands, AA, A7, Nat.reduceAdd, reduceCtorEq, if_true, if_false, ↓reduceIte, ne_eq, Int.reduceEq, Int.reduceLT, Int.reduceLE, Int.reduceAdd, Int.reduceSub, Int.reduceMul, Int.reduceToNat, Nat.reduceMul, Nat.reduceLeDiff, Nat.reduceLT, Nat.reduceSub, WB, hcell1, hbcell1]
   refine mkB (n := width b) (by omega) ?_ ?_ ?_
   ·with_unfolding_all rfl
   ·with_unfolding_all rfl
   intro g w2 hg hrow2 hf2
   refine WS ?_; try with_reducible exact trivial
   refine JF [1, 5, 6, 9, 20, 21, 22, 31, 32, 33] (fun k : Nat => [(1, .slice (some bd0) b.length cp'), (5, .pointer (some ⟨w.heap.size, 0, none⟩)), (6, o), (9, .slice (some ⟨g, 0, none⟩) (width b) (width b)), (20, .slice (some ad0) a.length cp), (21, .int .i64 a.length), (22, .int .i64 i),
     (31, .slice B2 a[i].length c2), (32, .int .i64 a[i].length), (33, .int .i64 k)])
    (fun k w3 => k ≤ a[i].length ∧ Ow w3 5 1 (.slice (some ⟨g, 0, none⟩) (width b) (width b)) (width b) ((IC b a[i] (width b) k).map U8) ∧ Fr No w1 w3) (fun k _ => a[i].length - k) 0 (by with_unfolding_all rfl) ⟨Nat.zero_le _, ?_, hf2⟩ ?_
   ·have := hrow2.1
    rw [List.length_replicate] at this
    exact this
   ·clear hrow2 hf2 w2
    rintro k w3 ⟨hk, hacc, hf3⟩
    have hfw3 : Fr No w w3 := hfw.then hf3
    by_cases hkl : k < a[i].length
    ·obtain ⟨ad3, hB2, had3, hcell3⟩ := hr2 k hkl
     cases hB2
     have hkb : k < b.length := by omega
     obtain ⟨bd3, x3, hbd3', hbd3, hbcell3, hbrow3⟩ := hr' k hkb
     cases hbd3'
     have hcell4 : w3.cell? (ad3.add k) = some (U8 a[i][k]) := by rw [hfw3.cell (AC hcell3) (fun h => h)]; exact hcell3
     have hbcell4 : w3.cell? (bd0.add k) = some x3 := by rw [hfw3.cell (AC hbcell3) (fun h => h)]; exact hbcell3
     have hfa3 : Fp w3 w.heap.size := (hfa.fr hf fun h => h).fr hf3 fun h => h
     have hbrow4 : BS w3 B' x3 b[k] := hbrow3.fr hfw3 fun _ _ h => h
     have hsz := hfw3.size
     have hbl : b[k].length ≤ 1000 := sb.wide _ (List.getElem_mem hkb)
     simp -dsimp (disch := omega) only [↓MC.wp, ↓BD, ↓CV, ↓MOp.wp, evs, ev, Am, BZ, BF, pev, Bl, Bv, Aq, Bz, psl, Ba, Aw, Ag, ↓BM, ↓AP, ↓DK, ↓Bf, Dy, Az, MOp.still, known, Op.operands, AA, A7, Nat.reduceAdd, reduceCtorEq, if_true, if_false, ↓reduceIte, ne_eq, Int.reduceEq, Int.reduceLT, Int.reduceLE, Int.reduceAdd, Int.reduceSub, Int.reduceMul, Int.reduceToNat, Nat.reduceMul, Nat.reduceLeDiff, Nat.reduceLT, Nat.reduceSub, WB, hcell4, hbcell4]
     refine call (NS hfa3 a[i][k] hbrow4 (by omega) (by omega)) ?_
     intro r w4 h4
     have hr4 := h4.1
     have hf4 := h4.2
     clear h4
     refine WS ?_; try with_reducible exact trivial
     have hgl : g < w3.heap.size := hacc.lt rfl
     have hbn : BN w4 g r (b[k].map (Bh a[i][k])) := Ow.bn hr4.1 fun e => by have := hr4.2 g e; omega
     have hacc4 : Ow w4 5 1 (.slice (some ⟨g, 0, none⟩) (IC b a[i] (width b) k).length (width b)) (IC b a[i] (width b) k).length ((IC b a[i] (width b) k).map U8) := by
      rw [EW]
      exact hacc.no hf4
     have hp := QX hacc4 hbn (by rw [EW, List.length_map, rb.all _ (List.getElem_mem hkb)]; exact Nat.le_refl _) (by rw [EW]; omega)
     rw [EW] at hp
     refine call hp ?_
     intro r5 w5 h5
     have hacc5 := h5.1
     have hf5 := h5.2
     clear h5
     refine WS ?_; try with_reducible exact trivial
     refine ⟨k + 1, rfl, ⟨by omega, ?_, (hf3.then hf4).step hf5 fun c hc e => by omega⟩, by omega⟩
     rw [IC, AY [] hkb, AY 0 hkl]
     exact hacc5
    ·simp -dsimp (disch := omega) only [↓MC.wp, ↓BD, ↓CV, ↓MOp.wp, evs, ev, Am, BZ, BF, pev, Bl, Bv, Aq, Bz, psl, Ba, Aw, Ag, ↓BM, ↓AP, ↓DK, ↓Bf, Dy, Az, MOp.still, known, Op.operands, AA, A7, Nat.reduceAdd, reduceCtorEq, if_true, if_false, ↓reduceIte, ne_eq, Int.reduceEq, Int.reduceLT, Int.reduceLE, Int.reduceAdd, Int.reduceSub, Int.reduceMul, Int.reduceToNat, Nat.reduceMul, Nat.reduceLeDiff, Nat.reduceLT, Nat.reduceSub, WB, KE]
     have hkk : k = a[i].length := by omega
     subst hkk
     refine new ?_
     intro b2 w4 hb2 hs4 hc4 hf4
     refine WS ?_; try with_reducible exact trivial
     have hu : H8 w1.heap.size w3 (.slice (some ⟨g, 0, none⟩) (width b) (width b)) (IC b a[i] (width b) a[i].length) := by
      refine ⟨?_, fun c hc => by cases hc; exact Nat.le_of_eq hg.symm⟩
      rw [EW]
      exact hacc
     have hi2 : ((a.take i).map (fun r => IC b r (width b) r.length)).length ≤ 1000000 := by
      have := sa.high
      rw [List.length_map, List.length_take]; omega
     refine NT ho hf hf3 hu hi2 hb2 hs4 hc4 hf4 ?_
     intro r' w' hr' hf'
     refine WS ?_; try with_reducible exact trivial
     refine ⟨(i + 1, r'), rfl, ⟨by dsimp only; omega, ?_, hf'⟩, by dsimp only; omega⟩
     dsimp only
     rw [Kq hlt, List.map_append]
     exact hr'
  ·refine WS ?_; try with_reducible exact trivial
   have hin : i = a.length := by omega
   subst hin
   rw [List.take_length] at ho
   exact ⟨ho.mono hf0.size, hf0.then hf⟩
 ·rw [Gy, if_neg hw]
  rw [wa] at hcell0
  simp -dsimp (disch := omega) only [↓MC.wp, ↓BD, ↓CV, ↓MOp.wp, evs, ev, Am, BZ, BF, pev, Bl, Bv, Aq, Bz, psl, Ba, Aw, Ag, ↓BM, ↓AP, ↓DK, ↓Bf, Dy, Az, MOp.still, known, Op.operands, AA, A7, Nat.reduceAdd, reduceCtorEq, if_true, if_false, ↓reduceIte, ne_eq, Int.reduceEq, Int.reduceLT, Int.reduceLE, Int.reduceAdd, Int.reduceSub, Int.reduceMul, Int.reduceToNat, Nat.reduceMul, Nat.reduceLeDiff, Nat.reduceLT, Nat.reduceSub, WB, m_matrix_Mul, hcell0]
  exact ⟨Dh.nil _ _, Fr.refl _ _⟩
def sig (c i j : Nat) : Nat := if j = i then c else if j = c then i else j
def swp {α : Type} (d : α) (l : List α) (c i : Nat) : List α := (l.set c (l.getD i d)).set i (l.getD c d)
theorem Iz {α : Type} (d : α) (l : List α) (c i : Nat) : (swp d l c i).length = l.length := by simp [swp]
theorem swp_get {α : Type} (d : α) {l : List α} {c i : Nat} (hc : c < l.length) (hi : i < l.length) (j : Nat) : (swp d l c i)[j]? = l[sig c i j]? := by
 unfold swp sig
 rw [AY d hc, AY d hi]
 rw [List.getElem?_set, List.length_set]
 by_cases h1 : i = j
 ·subst h1; rw [if_pos rfl, if_pos hi, if_pos rfl, List.getElem?_eq_getElem hc]
 ·rw [if_neg h1, if_neg (fun e => h1 e.symm), List.getElem?_set]
  by_cases h2 : c = j
  ·subst h2; rw [if_pos rfl, if_pos hc, if_pos rfl, List.getElem?_eq_getElem hi]
  ·rw [if_neg h2, if_neg (fun e => h2 e.symm)]
theorem Aea {c i j k : Nat} (h : sig c i j = sig c i k) : j = k := by
 unfold sig at h
 split at h <;> split at h <;> (try split at h) <;> (try split at h) <;> omega
theorem sig_lt {c i j n : Nat} (hc : c < n) (hi : i < n) (hj : j < n) : sig c i j < n := by
 unfold sig; split; exact hc; split; exact hi; exact hj

theorem OM.at {w : World} {r : Value} {vs : List Value} {m : List (List UInt8)} (h : OM w r vs m) {j : Nat} (hj : j < m.length) : ∃ u, vs[j]? = some u ∧ Ow w 5 1 u m[j].length (m[j].map U8) ∧
  ∃ g cap, r = .slice (some ⟨g, 0, none⟩) m.length cap ∧ w.cell? ⟨g, j, none⟩ = some u := by
 have hv : vs[j]? = some (vs[j]'(by rw [h.len]; exact hj)) := List.getElem?_eq_getElem _
 refine ⟨_, hv, h.row j _ _ hv (List.getElem?_eq_getElem hj), ?_⟩
 rcases h.spine.form with ⟨_, hn, _⟩ | ⟨g, cap, cur, rfl, _⟩
 ·omega
 ·exact ⟨g, cap, rfl, h.spine.cellAt hv⟩
theorem OM.at' {w : World} {g k cap : Nat} {vs : List Value} {m : List (List UInt8)} (h : OM w (.slice (some ⟨g, 0, none⟩) k cap) vs m) {j : Nat} (hj : j < m.length) : ∃ u, vs[j]? = some u ∧ Ow w 5 1 u m[j].length (m[j].map U8) ∧
  w.cell? ⟨g, j, none⟩ = some u := by
 obtain ⟨u, h1, h2, g', cap', e, h3⟩ := h.at hj
 simp only [Value.slice.injEq, Option.some.injEq, Addr.mk.injEq] at e
 refine ⟨u, h1, h2, ?_⟩
 rw [e.1.1]
 exact h3
theorem Ow.posRow {w : World} {u : Value} {x : List UInt8} (h : Ow w 5 1 u x.length (x.map U8)) (hp : 0 < x.length) : ∃ g cap, u = .slice (some ⟨g, 0, none⟩) x.length cap ∧ ∀ j (hj : j < x.length), w.cell? ⟨g, j, none⟩ = some (U8 x[j]) := by
 rcases h.form with ⟨_, hn, _⟩ | ⟨g, cap, cur, rfl, _⟩
 ·omega
 ·exact ⟨g, cap, rfl, fun j hj => h.cellAt (by rw [List.getElem?_map, List.getElem?_eq_getElem hj]; rfl)⟩

structure PM (w : World) (n : Nat) (rl : Value) (vl : List Value) (l : List (List UInt8)) (ro : Value) (vo : List Value) (o : List (List UInt8)) : Prop where
 left : OM w rl vl l
 out : OM w ro vo o
 dl : Dis rl vl
 do' : Dis ro vo
 apart : ∀ b, Has rl vl b → ¬ Has ro vo b
 ll : l.length = n
 lo : o.length = n
 wl : ∀ x ∈ l, x.length = n
 wo : ∀ x ∈ o, x.length = n
theorem PM.no {w w' : World} {n : Nat} {rl ro : Value} {vl vo : List Value} {l o : List (List UInt8)} (h : PM w n rl vl l ro vo o) (hf : Fr No w w') : PM w' n rl vl l ro vo o :=
 ⟨h.left.no hf, h.out.no hf, h.dl, h.do', h.apart, h.ll, h.lo, h.wl, h.wo⟩
def Og (rl : Value) (vl : List Value) (ro : Value) (vo : List Value) (b : Nat) : Prop := Has rl vl b ∨ Has ro vo b

theorem WN {α : Type} {l l' : List α} {f : Nat → Nat} (h : ∀ j, l'[j]? = l[f j]?) {x : α} (hx : x ∈ l') : x ∈ l := by
 obtain ⟨j, hj⟩ := List.getElem?_of_mem hx
 rw [h j] at hj
 exact List.mem_of_getElem? hj
theorem OM.reorder {w w' : World} {r : Value} {vs vs' : List Value} {m m' : List (List UInt8)} (h : OM w r vs m) (hd : Dis r vs) {f : Nat → Nat} (hv : ∀ j, vs'[j]? = vs[f j]?) (hm : ∀ j, m'[j]? = m[f j]?) (hlv : vs'.length = vs.length) (hlm : m'.length = m.length)
  (hsp : Ow w' 31 1 r m.length vs') (hf : Fr (fun b => r.ownBlock = some b) w w') : OM w' r vs' m' := by
 refine ⟨by rw [hlv, hlm]; exact h.len, by rw [hlm]; exact hsp, fun j u x hu hx => ?_⟩
 rw [hv] at hu
 rw [hm] at hx
 exact (h.row _ u x hu hx).fr hf fun b hb hr => hd.spine _ u b hu hb hr
theorem Dis.reorder {r : Value} {vs vs' : List Value} (hd : Dis r vs) {f : Nat → Nat} (hi : ∀ j k, f j = f k → j = k) (hv : ∀ j, vs'[j]? = vs[f j]?) : Dis r vs' :=
 ⟨fun j u b hu hb => by rw [hv] at hu; exact hd.spine _ u b hu hb, fun i j u v b hij hu hv' hb => by rw [hv] at hu hv'; exact hd.rows _ _ u v b (fun e => hij (hi _ _ e)) hu hv' hb⟩
theorem Has.reorder {r : Value} {vs vs' : List Value} {f : Nat → Nat} (hv : ∀ j, vs'[j]? = vs[f j]?) {b : Nat} (h : Has r vs' b) : Has r vs b := by
 rcases h with h | ⟨j, u, hu, hb⟩
 ·exact .inl h
 ·rw [hv] at hu; exact .inr ⟨_, u, hu, hb⟩
theorem PM.swap {w w' : World} {n : Nat} {rl ro : Value} {vl vo : List Value} {l o : List (List UInt8)} (h : PM w n rl vl l ro vo o) {c i : Nat} (hc : c < n) (hi : i < n)
  (hl : Ow w' 31 1 rl n (swp undef vl c i)) (ho : Ow w' 31 1 ro n (swp undef vo c i)) (hf : Fr (fun b => rl.ownBlock = some b ∨ ro.ownBlock = some b) w w') :
  PM w' n rl (swp undef vl c i) (swp [] l c i) ro (swp undef vo c i) (swp [] o c i) := by
 have hvl : vl.length = n := by rw [h.left.len]; exact h.ll
 have hvo : vo.length = n := by rw [h.out.len]; exact h.lo
 have e1 := swp_get undef (l := vl) (c := c) (i := i) (by omega) (by omega)
 have e2 := swp_get undef (l := vo) (c := c) (i := i) (by omega) (by omega)
 have e3 := swp_get [] (l := l) (c := c) (i := i) (by rw [h.ll]; exact hc) (by rw [h.ll]; exact hi)
 have e4 := swp_get [] (l := o) (c := c) (i := i) (by rw [h.lo]; exact hc) (by rw [h.lo]; exact hi)
 refine ⟨⟨by rw [Iz, Iz]; exact h.left.len, by rw [Iz, h.ll]; exact hl, fun j u x hu hx => ?_⟩, ⟨by rw [Iz, Iz]; exact h.out.len, by rw [Iz, h.lo]; exact ho, fun j u x hu hx => ?_⟩,
  h.dl.reorder (fun _ _ => Aea) e1, h.do'.reorder (fun _ _ => Aea) e2, fun b hb hb' => h.apart b (hb.reorder e1) (hb'.reorder e2),
  by rw [Iz]; exact h.ll, by rw [Iz]; exact h.lo, fun x hx => h.wl x (WN e3 hx), fun x hx => h.wo x (WN e4 hx)⟩
 ·rw [e1] at hu
  rw [e3] at hx
  refine (h.left.row _ u x hu hx).fr hf fun b hb hr => ?_
  rcases hr with hr | hr
  ·exact h.dl.spine _ u b hu hb hr
  ·exact h.apart b (.inr ⟨_, u, hu, hb⟩) (.inl hr)
 ·rw [e2] at hu
  rw [e4] at hx
  refine (h.out.row _ u x hu hx).fr hf fun b hb hr => ?_
  rcases hr with hr | hr
  ·exact h.apart b (.inl hr) (.inr ⟨_, u, hu, hb⟩)
  ·exact h.do'.spine _ u b hu hb hr

theorem OM.put {w w' : World} {r u : Value} {vs : List Value} {m : List (List UInt8)} {x : List UInt8} {c : Nat} (h : OM w r vs m) (hd : Dis r vs) (hsp : Ow w' 31 1 r m.length (vs.set c u)) {M : Nat → Prop} (hf : Fr M w w') (hM : ∀ b, M b → ¬ ∃ (j : Nat) (v : Value), vs[j]? = some v ∧ v.ownBlock = some b)
  (hu : Ow w' 5 1 u x.length (x.map U8)) : OM w' r (vs.set c u) (m.set c x) := by
 refine ⟨by simp [h.len], by simpa using hsp, fun j v y hv hy => ?_⟩
 rw [List.getElem?_set] at hv hy
 by_cases hcj : c = j
 ·subst hcj
  rw [if_pos rfl] at hv hy
  split at hv <;> split at hy <;> simp at hv hy
  subst hv
  subst hy
  exact hu
 ·rw [if_neg hcj] at hv hy
  exact (h.row j v y hv hy).fr hf fun b hb hMb => hM b hMb ⟨j, v, hv, hb⟩
theorem Dis.put {r u : Value} {vs : List Value} {c : Nat} (hd : Dis r vs) (hu : ∀ b, u.ownBlock = some b → ¬ Has r vs b) : Dis r (vs.set c u) := by
 have key : ∀ (j : Nat) (v : Value), (vs.set c u)[j]? = some v → (j ≠ c ∧ vs[j]? = some v) ∨ (j = c ∧ v = u) := by
  intro j v hv
  rw [List.getElem?_set] at hv
  by_cases h : c = j
  ·rw [if_pos h] at hv
   split at hv <;> simp at hv
   exact .inr ⟨h.symm, hv.symm⟩
  ·rw [if_neg h] at hv; exact .inl ⟨fun e => h e.symm, hv⟩
 refine ⟨fun j v b hv hb hrb => ?_, fun i j v v' b hij hv hv' hb hb' => ?_⟩
 ·rcases key j v hv with ⟨_, h⟩ | ⟨_, rfl⟩
  ·exact hd.spine j v b h hb hrb
  ·exact hu b hb (.inl hrb)
 ·rcases key i v hv with ⟨_, h⟩ | ⟨e, rfl⟩ <;> rcases key j v' hv' with ⟨_, h'⟩ | ⟨e', rfl⟩
  ·exact hd.rows i j v v' b hij h h' hb hb'
  ·exact hu b hb' (.inr ⟨i, v, h, hb⟩)
  ·exact hu b hb (.inr ⟨j, v', h', hb'⟩)
  ·omega
theorem Has.put {r u : Value} {vs : List Value} {c b : Nat} (h : Has r (vs.set c u) b) : Has r vs b ∨ u.ownBlock = some b := by
 rcases h with h | ⟨j, v, hv, hb⟩
 ·exact .inl (.inl h)
 ·rw [List.getElem?_set] at hv
  by_cases hc : c = j
  ·rw [if_pos hc] at hv
   split at hv <;> simp at hv
   subst hv
   exact .inr hb
  ·rw [if_neg hc] at hv; exact .inl (.inr ⟨j, v, hv, hb⟩)
theorem OM.turn {w w' : World} {r u : Value} {vs : List Value} {m : List (List UInt8)} {x : List UInt8} {i g : Nat} (h : OM w r vs m) (hd : Dis r vs) (hv : vs[i]? = some u) (hg : u.ownBlock = some g) (hf : Fr (· = g) w w')
  (hu : Ow w' 5 1 u x.length (x.map U8)) : OM w' r vs (m.set i x) := by
 refine ⟨by simp [h.len], ?_, fun j v y hv' hy => ?_⟩
 ·rw [List.length_set]
  exact h.spine.fr hf fun b hb e => by subst e; exact hd.spine i u b hv hg hb
 ·rw [List.getElem?_set] at hy
  by_cases hij : i = j
  ·subst hij
   rw [if_pos rfl] at hy
   rw [hv] at hv'
   split at hy <;> simp at hy hv'
   subst hv'
   subst hy
   exact hu
  ·rw [if_neg hij] at hy
   exact (h.row j v y hv' hy).fr hf fun b hb e => by subst e; exact hd.rows i j u v b hij hv hv' hg hb
def entry (l : List (List UInt8)) (i j : Nat) : UInt8 := (l.getD i []).getD j 0
theorem entry_eq {l : List (List UInt8)} {i j : Nat} (hi : i < l.length) (hj : j < l[i].length) : entry l i j = l[i][j] := by
 rw [entry, AY [] hi, AY 0 hj]
def JS (l : List (List UInt8)) (n c : Nat) : Option Nat := (List.range n).find? fun i => decide (c ≤ i) && (entry l i c != 0)
theorem Adr {l : List (List UInt8)} {n c i : Nat} (hc : c ≤ i) (hi : i < n) (he : entry l i c ≠ 0) (hb : ∀ j, c ≤ j → j < i → entry l j c = 0) : JS l n c = some i := by
 rw [JS, List.find?_eq_some_iff_getElem]
 refine ⟨by simp [hc, he], i, by simpa using hi, by simp, fun j hj => ?_⟩
 simp only [List.getElem_range]
 by_cases h : c ≤ j
 ·simp [h, hb j h hj]
 ·simp [h]
theorem Ads {l : List (List UInt8)} {n c : Nat} (hb : ∀ j, c ≤ j → j < n → entry l j c = 0) : JS l n c = none := by
 rw [JS, List.find?_eq_none]
 intro j hj
 rw [List.mem_range] at hj
 by_cases h : c ≤ j
 ·simp [hb j h hj]
 ·simp [h]
theorem Ow.one {w : World} {e : TypeId} {s n : Nat} {v : Value} {cs : List Value} (h : Ow w e s v n cs) : v.oneCell' = true := by
 rcases h.form with ⟨rfl, _⟩ | ⟨_, _, _, rfl, _⟩ <;> rfl
theorem Ow.drew {w : World} {e : TypeId} {s n : Nat} {v : Value} {cs : List Value} (h : Ow w e s v n cs) : Ow w.drew e s v n cs := h

theorem Abj {w : World} {n : Nat} {rl ro : Value} {vl vo : List Value} {l o : List (List UInt8)} (h : PM w n rl vl l ro vo o) {c : Nat} (hc : c < n) (hn : n ≤ 1000) :
  Calls Tryz.prog MM #[rl, ro, .int .i64 c] w fun en w' => ∃ r, en = .returned r ∧ ((JS l n c = none ∧ r = .bool false ∧ Fr No w w') ∨
   ∃ i, i < n ∧ JS l n c = some i ∧ r = .bool true ∧ PM w' n rl (swp undef vl c i) (swp [] l c i) ro (swp undef vo c i) (swp [] o c i) ∧ Fr (fun b => rl.ownBlock = some b ∨ ro.ownBlock = some b) w w') := by
 have hll := h.ll
 have hlo := h.lo
 obtain ⟨uc, huc, hrc, gl, capl, hrl, hcl⟩ := h.left.at (j := c) (by omega)
 obtain ⟨xc, hxc, hsc, go', capo, hro, hco⟩ := h.out.at (j := c) (by omega)
 rw [hll] at hrl
 rw [hlo] at hro
 subst hrl
 subst hro
 have hvl : vl.length = n := by rw [h.left.len]; exact hll
 have hvo : vo.length = n := by rw [h.out.len]; exact hlo
 refine Ci (args := [.slice (some ⟨gl, 0, none⟩) n capl, .slice (some ⟨go', 0, none⟩) n capo, .int .i64 c]) Xx (by simp only [m_matrix_pivot, List.length]; decide) ?_
 simp only [m_matrix_pivot]; refine WS ?_; try with_reducible exact trivial
 refine JF [0, 1, 2, 7] (fun i : Nat => [(0, .slice (some ⟨gl, 0, none⟩) n capl), (1, .slice (some ⟨go', 0, none⟩) n capo), (2, .int .i64 c), (7, .int .i64 i)])
  (fun i w1 => c ≤ i ∧ i ≤ n ∧ (∀ j, c ≤ j → j < i → entry l j c = 0) ∧ Fr No w w1) (fun i _ => n - i) c (by with_unfolding_all rfl) ⟨Nat.le_refl _, by omega, fun j h1 h2 => by omega, Fr.refl _ _⟩ ?_
 rintro i w1 ⟨hci, hin, hz, hf⟩
 have h1 := h.no hf
 by_cases hlt : i < n
 ·obtain ⟨ui, hui, hri, hci1⟩ := h1.left.at' (j := i) (by omega)
  obtain ⟨xi, hxi, hsi, hcx⟩ := h1.out.at' (j := i) (by omega)
  have hwi : l[i].length = n := h.wl _ (List.getElem_mem (by omega))
  obtain ⟨gi, capi, rfl, hcells⟩ := Ow.posRow hri (by omega)
  have hcell := hcells c (by omega)
  have hen : entry l i c = l[i][c] := entry_eq (by omega) (by omega)
  by_cases h0 : l[i][c].toNat = 0
  ·simp -dsimp (disch := omega) only [↓MC.wp, ↓BD, ↓CV, ↓MOp.wp, evs, ev, Am, BZ, BF, pev, Bl, Bv, Aq, Bz, psl, Ba, Aw, Ag, ↓BM, ↓AP, ↓DK, ↓Bf, Dy, Az, MOp.still, known, Op.operands, AA, A7, Nat.reduceAdd, reduceCtorEq, if_true, if_false, ↓reduceIte, ne_eq, Int.reduceEq, Int.reduceLT, Int.reduceLE, Int.reduceAdd, Int.reduceSub, Int.reduceMul, Int.reduceToNat, Nat.reduceMul, Nat.reduceLeDiff, Nat.reduceLT, Nat.reduceSub, WB, hci1, hcell, U8]
   refine ⟨i + 1, rfl, ⟨by omega, by omega, fun j h2 h3 => ?_, hf⟩, by omega⟩
   by_cases hji : j < i
   ·exact hz j h2 hji
   ·have : j = i := by omega
    subst this
    rw [hen]
    exact (IR _).1 h0
  ·have hci2 : w1.cell? ⟨gl, c, none⟩ = some uc := by rw [hf.cell (AC hcl) (fun h => h)]; exact hcl
   have hco2 : w1.cell? ⟨go', c, none⟩ = some xc := by rw [hf.cell (AC hco) (fun h => h)]; exact hco
   have hne : gl ≠ go' := fun e => h.apart gl (.inl rfl) (.inl (by rw [e]; rfl))
   have hspl : Ow w1.drew 31 1 (.slice (some ⟨gl, 0, none⟩) n capl) n vl := by have := h1.left.spine; rw [hll] at this; exact this
   have hspo : Ow w1.drew 31 1 (.slice (some ⟨go', 0, none⟩) n capo) n vo := by have := h1.out.spine; rw [hlo] at this; exact this
   have o1 := Ow.one hrc
   have o2 := Ow.one hsi
   have o3 := Ow.one hsc
   simp -dsimp (disch := omega) only [↓MC.wp, ↓BD, ↓CV, ↓MOp.wp, evs, ev, Am, BZ, BF, pev, Bl, Bv, Aq, Bz, psl, Ba, Aw, Ag, ↓BM, ↓AP, ↓DK, ↓Bf, Dy, Az, MOp.still, known, Op.operands, AA, A7, Nat.reduceAdd, reduceCtorEq, if_true, if_false, ↓reduceIte, ne_eq, Int.reduceEq, Int.reduceLT, Int.reduceLE, Int.reduceAdd, Int.reduceSub, Int.reduceMul, Int.reduceToNat, Nat.reduceMul, Nat.reduceLeDiff, Nat.reduceLT, Nat.reduceSub, WB, hci1, hcell, hci2, U8]
   refine hspl.set (j := c) (v := .slice (some ⟨gi, 0, none⟩) l[i].length capi) hc rfl ?_
   intro w2 ho2 hf2 hs2
   simp -dsimp (disch := omega) only [↓MC.wp, ↓BD, ↓CV, ↓MOp.wp, evs, ev, Am, BZ, BF, pev, Bl, Bv, Aq, Bz, psl, Ba, Aw, Ag, ↓BM, ↓AP, ↓DK, ↓Bf, Dy, Az, MOp.still, known, Op.operands, AA, A7, Nat.reduceAdd, reduceCtorEq, if_true, if_false, ↓reduceIte, ne_eq, Int.reduceEq, Int.reduceLT, Int.reduceLE, Int.reduceAdd, Int.reduceSub, Int.reduceMul, Int.reduceToNat, Nat.reduceMul, Nat.reduceLeDiff, Nat.reduceLT, Nat.reduceSub, WB, o1]
   refine ho2.set (j := i) (v := uc) hlt (Ow.one hrc) ?_
   intro w3 ho3 hf3 hs3
   have hf13 : Fr (· = gl) w1.drew w3 := hf2.trans hf3
   have hspo3 : Ow w3.drew 31 1 (.slice (some ⟨go', 0, none⟩) n capo) n vo := Ow.fr hspo hf13.drew fun b hb (e : b = gl) => by cases hb; exact hne e.symm
   have hcx3 : w3.cell? ⟨go', i, none⟩ = some xi := by
    rw [hf13.cell (AC hcx) fun (e : go' = gl) => hne e.symm]; exact hcx
   have hco3 : w3.cell? ⟨go', c, none⟩ = some xc := by
    rw [hf13.cell (AC hco2) fun (e : go' = gl) => hne e.symm]; exact hco2
   simp -dsimp (disch := omega) only [↓MC.wp, ↓BD, ↓CV, ↓MOp.wp, evs, ev, Am, BZ, BF, pev, Bl, Bv, Aq, Bz, psl, Ba, Aw, Ag, ↓BM, ↓AP, ↓DK, ↓Bf, Dy, Az, MOp.still, known, Op.operands, AA, A7, Nat.reduceAdd, reduceCtorEq, if_true, if_false, ↓reduceIte, ne_eq, Int.reduceEq, Int.reduceLT, Int.reduceLE, Int.reduceAdd, Int.reduceSub, Int.reduceMul, Int.reduceToNat, Nat.reduceMul, Nat.reduceLeDiff, Nat.reduceLT, Nat.reduceSub, WB, hcx3, hco3, o2]
   refine hspo3.set (j := c) (v := xi) hc (Ow.one hsi) ?_
   intro w4 ho4 hf4 hs4
   simp -dsimp (disch := omega) only [↓MC.wp, ↓BD, ↓CV, ↓MOp.wp, evs, ev, Am, BZ, BF, pev, Bl, Bv, Aq, Bz, psl, Ba, Aw, Ag, ↓BM, ↓AP, ↓DK, ↓Bf, Dy, Az, MOp.still, known, Op.operands, AA, A7, Nat.reduceAdd, reduceCtorEq, if_true, if_false, ↓reduceIte, ne_eq, Int.reduceEq, Int.reduceLT, Int.reduceLE, Int.reduceAdd, Int.reduceSub, Int.reduceMul, Int.reduceToNat, Nat.reduceMul, Nat.reduceLeDiff, Nat.reduceLT, Nat.reduceSub, WB, o3]
   refine ho4.set (j := i) (v := xc) hlt (Ow.one hsc) ?_
   intro w5 ho5 hf5 hs5
   refine WS ?_; try with_reducible exact trivial
   right
   have hf35 : Fr (· = go') w3.drew w5 := hf4.trans hf5
   have hfw : Fr (fun b => b = gl ∨ b = go') w w5 :=
    (hf.wide.step (hf13.of_drew) fun b _ e => .inl e).step (hf35.of_drew) fun b _ e => .inr e
   have hfw' : Fr (fun b => (Value.slice (some ⟨gl, 0, none⟩) n capl).ownBlock = some b ∨ (Value.slice (some ⟨go', 0, none⟩) n capo).ownBlock = some b) w w5 :=
    hfw.mono fun b _ e => by rcases e with rfl | rfl; exact .inl rfl; exact .inr rfl
   refine ⟨i, hlt, Adr hci hlt (by rw [hen]; exact fun e => h0 ((IR _).2 e)) hz, ?_, hfw'⟩
   refine h.swap hc hlt ?_ ?_ hfw'
   ·have e : swp undef vl c i = (vl.set c (.slice (some ⟨gi, 0, none⟩) l[i].length capi)).set i uc := by
     rw [swp, List.getD_eq_getElem?_getD, hui, List.getD_eq_getElem?_getD, huc]; rfl
    rw [e]
    exact Ow.fr ho3 hf35.of_drew fun b hb (e : b = go') => by cases hb; exact hne e
   ·have e : swp undef vo c i = (vo.set c xi).set i xc := by
     rw [swp, List.getD_eq_getElem?_getD, hxi, List.getD_eq_getElem?_getD, hxc]; rfl
    rw [e]
    exact ho5
 ·refine WS ?_; try with_reducible exact trivial
  left
  have : i = n := by omega
  subst this
  exact ⟨Ads fun j h2 h3 => hz j h2 h3, hf⟩
def Gv (a b : Nat) : Nat → Nat × Nat × Nat
 | 0 => (a, b, 0)
 | k + 1 => (GV (Gv a b k).1, (Gv a b k).2.1 / 2, if (Gv a b k).2.1 % 2 = 1 then (Gv a b k).2.2 ^^^ (Gv a b k).1 else (Gv a b k).2.2)
def Po (a b : UInt8) : UInt8 := UInt8.ofNat (Gv a.toNat b.toNat 8).2.2
theorem Zf {a b : Nat} (ha : a < 256) (hb : b < 256) : ∀ k, (Gv a b k).1 < 256 ∧ (Gv a b k).2.1 < 256 ∧ (Gv a b k).2.2 < 256
 | 0 => ⟨ha, hb, by show (0 : Nat) < 256; omega⟩
 | k + 1 => by
  obtain ⟨h1, h2, h3⟩ := Zf ha hb k
  refine ⟨Wi _ h1, ?_, ?_⟩
  ·show (Gv a b k).2.1 / 2 < 256
   omega
  ·show (if (Gv a b k).2.1 % 2 = 1 then (Gv a b k).2.2 ^^^ (Gv a b k).1 else (Gv a b k).2.2) < 256
   split
   ·exact Nat.xor_lt_two_pow (n := 8) h3 h1
   ·exact h3
theorem mod2 (y : Nat) : (y : Int) % 2 = ((y % 2 : Nat) : Int) := by omega
theorem div2 (y : Nat) : (y : Int) / 2 = ((y / 2 : Nat) : Int) := by omega
theorem NP (x y : Nat) (hx : x < 1048576) (hy : y < 1048576) : IntKind.i64.wrap (BitVec.ofInt IntKind.i64.bits (x : Int) ^^^ BitVec.ofInt IntKind.i64.bits (y : Int)).toNat = ((x ^^^ y : Nat) : Int) := by
 have h1 : ∀ n : Nat, BitVec.ofInt 64 (n : Int) = BitVec.ofNat 64 n := fun n => by
  apply BitVec.eq_of_toNat_eq
  simp
 have h3 : x ^^^ y < 2 ^ 20 := Nat.xor_lt_two_pow (by omega) (by omega)
 show IntKind.i64.wrap (((BitVec.ofInt 64 (x : Int) ^^^ BitVec.ofInt 64 (y : Int)).toNat : Nat) : Int) = _
 rw [h1, h1, BitVec.toNat_xor, BitVec.toNat_ofNat, BitVec.toNat_ofNat, Nat.mod_eq_of_lt (by omega), Nat.mod_eq_of_lt (by omega), wrap_i64 (by omega)]
theorem mul2 (x : Nat) : (x : Int) * 2 = ((2 * x : Nat) : Int) := by omega
theorem Vk (x : Nat) (h : x < 1048576) : IntKind.i64.wrap (BitVec.ofInt IntKind.i64.bits (x : Int) ^^^ BitVec.ofInt IntKind.i64.bits 285).toNat = ((x ^^^ 285 : Nat) : Int) := NP x 285 h (by omega)
theorem PY (n : Nat) : IntKind.u8.wrap (n : Int) = ((UInt8.ofNat n).toNat : Int) := by
 rw [UInt8.toNat_ofNat']
 unfold IntKind.wrap
 simp only [IntKind.bits, IntKind.signed]
 have : ((n % 2 ^ 8 : Nat) : Int) = (n : Int) % 2 ^ 8 := by omega
 rw [this]
 simp

theorem Wu {w : World} (a b : UInt8) : Calls Tryz.prog Nk #[U8 a, U8 b] w fun en w' => ∃ r, en = .returned r ∧ (r = U8 (Po a b) ∧ Fr No w w') := by
 refine Ci (args := [U8 a, U8 b]) Acm (by simp only [m_ref03_Mul, List.length]; decide) ?_
 have ha := a.toNat_lt
 have hb := b.toNat_lt
 simp -dsimp (disch := omega) only [↓MC.wp, ↓BD, ↓CV, ↓MOp.wp, evs, ev, Am, BZ, BF, pev, Bl, Bv, Aq, Bz, psl, Ba, Aw, Ag, ↓BM, ↓AP, ↓DK, ↓Bf, Dy, Az, MOp.still, known, Op.operands, AA, A7, Nat.reduceAdd, reduceCtorEq, if_true, if_false, ↓reduceIte, ne_eq, Int.reduceEq, Int.reduceLT, Int.reduceLE, Int.reduceAdd, Int.reduceSub, Int.reduceMul, Int.reduceToNat, Nat.reduceMul, Nat.reduceLeDiff, Nat.reduceLT, Nat.reduceSub, WB, m_ref03_Mul, U8]
 refine JF [5, 6, 7, 8] (fun k : Nat => [(5, .int .i64 ((Gv a.toNat b.toNat k).1 : Nat)), (6, .int .i64 ((Gv a.toNat b.toNat k).2.1 : Nat)), (7, .int .i64 ((Gv a.toNat b.toNat k).2.2 : Nat)), (8, .int .i64 k)])
  (fun k w1 => k ≤ 8 ∧ Fr No w w1) (fun k _ => 8 - k) 0 (by with_unfolding_all rfl) ⟨by omega, Fr.refl _ _⟩ ?_
 rintro k w1 ⟨hk, hf⟩
 by_cases hlt : k < 8
 ·obtain ⟨h1, h2, h3⟩ := Zf (a := a.toNat) (b := b.toNat) ha hb k
  have e1 : (Gv a.toNat b.toNat (k + 1)).1 = GV (Gv a.toNat b.toNat k).1 := rfl
  have e2 : (Gv a.toNat b.toNat (k + 1)).2.1 = (Gv a.toNat b.toNat k).2.1 / 2 := rfl
  have e3 : (Gv a.toNat b.toNat (k + 1)).2.2 = if (Gv a.toNat b.toNat k).2.1 % 2 = 1 then (Gv a.toNat b.toNat k).2.2 ^^^ (Gv a.toNat b.toNat k).1 else (Gv a.toNat b.toNat k).2.2 := rfl
  by_cases hy : (Gv a.toNat b.toNat k).2.1 % 2 = 1 <;> by_cases hx : 255 < 2 * (Gv a.toNat b.toNat k).1
  ·simp -dsimp (disch := omega) only [↓MC.wp, ↓BD, ↓CV, ↓MOp.wp, evs, ev, Am, BZ, BF, pev, Bl, Bv, Aq, Bz, psl, Ba, Aw, Ag, ↓BM, ↓AP, ↓DK, ↓Bf, Dy, Az, MOp.still, known, Op.operands, AA, A7, Nat.reduceAdd, reduceCtorEq, if_true, if_false, ↓reduceIte, ne_eq, Int.reduceEq, Int.reduceLT, Int.reduceLE, Int.reduceAdd, Int.reduceSub, Int.reduceMul, Int.reduceToNat, Nat.reduceMul, Nat.reduceLeDiff, Nat.reduceLT, Nat.reduceSub, WB, mod2, div2, mul2, NP, Vk]
   refine ⟨k + 1, ?_, ⟨by omega, hf⟩, by omega⟩
   rw [e1, e2, e3, if_pos hy, GV, if_pos hx]
   simp
  ·simp -dsimp (disch := omega) only [↓MC.wp, ↓BD, ↓CV, ↓MOp.wp, evs, ev, Am, BZ, BF, pev, Bl, Bv, Aq, Bz, psl, Ba, Aw, Ag, ↓BM, ↓AP, ↓DK, ↓Bf, Dy, Az, MOp.still, known, Op.operands, AA, A7, Nat.reduceAdd, reduceCtorEq, if_true, if_false, ↓reduceIte, ne_eq, Int.reduceEq, Int.reduceLT, Int.reduceLE, Int.reduceAdd, Int.reduceSub, Int.reduceMul, Int.reduceToNat, Nat.reduceMul, Nat.reduceLeDiff, Nat.reduceLT, Nat.reduceSub, WB, mod2, div2, mul2, NP, Vk]
   refine ⟨k + 1, ?_, ⟨by omega, hf⟩, by omega⟩
   rw [e1, e2, e3, if_pos hy, GV, if_neg hx]
   simp
  ·simp -dsimp (disch := omega) only [↓MC.wp, ↓BD, ↓CV, ↓MOp.wp, evs, ev, Am, BZ, BF, pev, Bl, Bv, Aq, Bz, psl, Ba, Aw, Ag, ↓BM, ↓AP, ↓DK, ↓Bf, Dy, Az, MOp.still, known, Op.operands, AA, A7, Nat.reduceAdd, reduceCtorEq, if_true, if_false, ↓reduceIte, ne_eq, Int.reduceEq, Int.reduceLT, Int.reduceLE, Int.reduceAdd, Int.reduceSub, Int.reduceMul, Int.reduceToNat, Nat.reduceMul, Nat.reduceLeDiff, Nat.reduceLT, Nat.reduceSub, WB, mod2, div2, mul2, NP, Vk]
   refine ⟨k + 1, ?_, ⟨by omega, hf⟩, by omega⟩
   rw [e1, e2, e3, if_neg hy, GV, if_pos hx]
   simp
  ·simp -dsimp (disch := omega) only [↓MC.wp, ↓BD, ↓CV, ↓MOp.wp, evs, ev, Am, BZ, BF, pev, Bl, Bv, Aq, Bz, psl, Ba, Aw, Ag, ↓BM, ↓AP, ↓DK, ↓Bf, Dy, Az, MOp.still, known, Op.operands, AA, A7, Nat.reduceAdd, reduceCtorEq, if_true, if_false, ↓reduceIte, ne_eq, Int.reduceEq, Int.reduceLT, Int.reduceLE, Int.reduceAdd, Int.reduceSub, Int.reduceMul, Int.reduceToNat, Nat.reduceMul, Nat.reduceLeDiff, Nat.reduceLT, Nat.reduceSub, WB, mod2, div2, mul2, NP, Vk]
   refine ⟨k + 1, ?_, ⟨by omega, hf⟩, by omega⟩
   rw [e1, e2, e3, if_neg hy, GV, if_neg hx]
   simp
 ·simp -dsimp (disch := omega) only [↓MC.wp, ↓BD, ↓CV, ↓MOp.wp, evs, ev, Am, BZ, BF, pev, Bl, Bv, Aq, Bz, psl, Ba, Aw, Ag, ↓BM, ↓AP, ↓DK, ↓Bf, Dy, Az, MOp.still, known, Op.operands, AA, A7, Nat.reduceAdd, reduceCtorEq, if_true, if_false, ↓reduceIte, ne_eq, Int.reduceEq, Int.reduceLT, Int.reduceLE, Int.reduceAdd, Int.reduceSub, Int.reduceMul, Int.reduceToNat, Nat.reduceMul, Nat.reduceLeDiff, Nat.reduceLT, Nat.reduceSub, WB, PY]
  have : k = 8 := by omega
  subst this
  exact ⟨rfl, hf⟩

def Zh (a : UInt8) : UInt8 := match (List.range 256).find? (fun b => decide (1 ≤ b) && (Po a (UInt8.ofNat b) == 1)) with
 | some b => UInt8.ofNat b
 | none => 0
theorem Ada {w : World} (a : UInt8) : Calls Tryz.prog PL #[U8 a] w fun en w' => ∃ r, en = .returned r ∧ (r = U8 (Zh a) ∧ Fr No w w') := by
 refine Ci (args := [U8 a]) Acn (by simp only [m_ref03_Inv, List.length]; decide) ?_
 have ha := a.toNat_lt
 simp -dsimp (disch := omega) only [↓MC.wp, ↓BD, ↓CV, ↓MOp.wp, evs, ev, Am, BZ, BF, pev, Bl, Bv, Aq, Bz, psl, Ba, Aw, Ag, ↓BM, ↓AP, ↓DK, ↓Bf, Dy, Az, MOp.still, known, Op.operands, AA, A7, Nat.reduceAdd, reduceCtorEq, if_true, if_false, ↓reduceIte, ne_eq, Int.reduceEq, Int.reduceLT, Int.reduceLE, Int.reduceAdd, Int.reduceSub, Int.reduceMul, Int.reduceToNat, Nat.reduceMul, Nat.reduceLeDiff, Nat.reduceLT, Nat.reduceSub, WB, m_ref03_Inv, U8]
 refine JF [0, 3] (fun k : Nat => [(0, U8 a), (3, .int .i64 k)])
  (fun k w1 => 1 ≤ k ∧ k ≤ 256 ∧ (∀ j, 1 ≤ j → j < k → Po a (UInt8.ofNat j) ≠ 1) ∧ Fr No w w1) (fun k _ => 256 - k) 1 (by with_unfolding_all rfl) ⟨by omega, by omega, fun j h1 h2 => by omega, Fr.refl _ _⟩ ?_
 rintro k w1 ⟨h1, h2, hz, hf⟩
 by_cases hlt : k < 256
 ·simp -dsimp (disch := omega) only [↓MC.wp, ↓BD, ↓CV, ↓MOp.wp, evs, ev, Am, BZ, BF, pev, Bl, Bv, Aq, Bz, psl, Ba, Aw, Ag, ↓BM, ↓AP, ↓DK, ↓Bf, Dy, Az, MOp.still, known, Op.operands, AA, A7, Nat.reduceAdd, reduceCtorEq, if_true, if_false, ↓reduceIte, ne_eq, Int.reduceEq, Int.reduceLT, Int.reduceLE, Int.reduceAdd, Int.reduceSub, Int.reduceMul, Int.reduceToNat, Nat.reduceMul, Nat.reduceLeDiff, Nat.reduceLT, Nat.reduceSub, WB, PY]
  refine call (Wu a (UInt8.ofNat k)) ?_
  intro r w2 h
  rw [h.1]
  have hf2 := h.2
  have hm := (Po a (UInt8.ofNat k)).toNat_lt
  by_cases he : (Po a (UInt8.ofNat k)).toNat = 1
  ·simp -dsimp (disch := omega) only [↓MC.wp, ↓BD, ↓CV, ↓MOp.wp, evs, ev, Am, BZ, BF, pev, Bl, Bv, Aq, Bz, psl, Ba, Aw, Ag, ↓BM, ↓AP, ↓DK, ↓Bf, Dy, Az, MOp.still, known, Op.operands, AA, A7, Nat.reduceAdd, reduceCtorEq, if_true, if_false, ↓reduceIte, ne_eq, Int.reduceEq, Int.reduceLT, Int.reduceLE, Int.reduceAdd, Int.reduceSub, Int.reduceMul, Int.reduceToNat, Nat.reduceMul, Nat.reduceLeDiff, Nat.reduceLT, Nat.reduceSub, WB, PY, U8]
   refine ⟨?_, hf.then hf2⟩
   have he' : Po a (UInt8.ofNat k) = 1 := UInt8.toNat_inj.1 he
   have : (List.range 256).find? (fun b => decide (1 ≤ b) && (Po a (UInt8.ofNat b) == 1)) = some k := by
    rw [List.find?_eq_some_iff_getElem]
    refine ⟨by simp [h1, he'], k, by simpa using hlt, by simp, fun j hj => ?_⟩
    simp only [List.getElem_range]
    by_cases h : 1 ≤ j
    ·simp [h, hz j h hj]
    ·simp [h]
   rw [Zh, this]
  ·simp -dsimp (disch := omega) only [↓MC.wp, ↓BD, ↓CV, ↓MOp.wp, evs, ev, Am, BZ, BF, pev, Bl, Bv, Aq, Bz, psl, Ba, Aw, Ag, ↓BM, ↓AP, ↓DK, ↓Bf, Dy, Az, MOp.still, known, Op.operands, AA, A7, Nat.reduceAdd, reduceCtorEq, if_true, if_false, ↓reduceIte, ne_eq, Int.reduceEq, Int.reduceLT, Int.reduceLE, Int.reduceAdd, Int.reduceSub, Int.reduceMul, Int.reduceToNat, Nat.reduceMul, Nat.reduceLeDiff, Nat.reduceLT, Nat.reduceSub, WB, PY, U8]
   refine ⟨k + 1, rfl, ⟨by omega, by omega, fun j h3 h4 => ?_, hf.then hf2⟩, by omega⟩
   by_cases hj : j < k
   ·exact hz j h3 hj
   ·have : j = k := by omega
    subst this
    exact fun e => he (by rw [e]; rfl)
 ·refine WS ?_; try with_reducible exact trivial
  refine ⟨?_, hf⟩
  have : (List.range 256).find? (fun b => decide (1 ≤ b) && (Po a (UInt8.ofNat b) == 1)) = none := by
   rw [List.find?_eq_none]
   intro j hj
   rw [List.mem_range] at hj
   by_cases h : 1 ≤ j
   ·simp [hz j h (by omega)]
   ·simp [h]
  rw [Zh, this]
  rfl
def Xd (m : LL) : Bool := m.all fun x => x.length == width m
def Me (m : LL) : Bool := decide (0 < m.length) && (decide (0 < width m) && Xd m)
theorem Pe {m : LL} (h : 0 < m.length) : m[0].length = width m := by rw [width, AY [] h]

theorem MS.row {w : World} {B n c : Nat} {A : Option Addr} {m : LL} (h : MS w B (.slice A n c) m) {j : Nat} (hj : j < m.length) : ∃ ad A' c', A = some ad ∧ w.cell? (ad.add j) = some (.slice A' m[j].length c') ∧ BS w B (.slice A' m[j].length c') m[j] := by
 obtain ⟨A1, c1, e, hc, hr⟩ := h.open
 cases e
 obtain ⟨ad, u, e1, hb, hcell, hrow⟩ := hr j hj
 obtain ⟨A2, c2, rfl, _⟩ := hrow.open
 exact ⟨ad, A2, c2, e1, hcell, hrow⟩
theorem MS.form {w : World} {B : Nat} {v : Value} {m : LL} (h : MS w B v m) : ∃ A c, v = .slice A m.length c := by
 obtain ⟨A1, c1, e, _⟩ := h.open
 exact ⟨A1, c1, e⟩

theorem AcL {w : World} {B bb n c : Nat} {A A' : Option Addr} {m : LL} {k c' : Nat} (hm : MS w B (.slice A n c) m) (hp : 0 < m.length) (hbox : w.cell? ⟨bb, 0, none⟩ = some (.slice A n c)) :
  Calls Tryz.prog Em #[.slice A' k c', .pointer (some ⟨bb, 0, none⟩)] w fun en w' => ∃ r, en = .returned r ∧ (r = .bool (!decide ((k : Int) = (width m : Nat))) ∧ Fr No w w') := by
 obtain ⟨A1, c1, e, _⟩ := hm.open
 cases e
 obtain ⟨ad, A2, c2, rfl, hcell, _⟩ := MS.row hm hp
 rw [Pe hp] at hcell
 refine Ci (args := [.slice A' k c', .pointer (some ⟨bb, 0, none⟩)]) Us (by simp only [m_matrix_Right_1, List.length]; decide) ?_
 simp -dsimp (disch := omega) only [↓MC.wp, ↓BD, ↓CV, ↓MOp.wp, evs, ev, Am, BZ, BF, pev, Bl, Bv, Aq, Bz, psl, Ba, Aw, Ag, ↓BM, ↓AP, ↓DK, ↓Bf, Dy, Az, MOp.still, known, Op.operands, AA, A7, Nat.reduceAdd, reduceCtorEq, if_true, if_false, ↓reduceIte, ne_eq, Int.reduceEq, Int.reduceLT, Int.reduceLE, Int.reduceAdd, Int.reduceSub, Int.reduceMul, Int.reduceToNat, Nat.reduceMul, Nat.reduceLeDiff, Nat.reduceLT, Nat.reduceSub, WB, m_matrix_Right_1, hbox, hcell]
 exact Fr.refl _ _
theorem Aby {w : World} {B bb : Nat} {v : Value} {m : LL} (hm : MS w B v m) (hp : 0 < m.length) (hl : m.length ≤ 1000000) (hbox : w.cell? ⟨bb, 0, none⟩ = some v) :
  Calls Tryz.prog Jy #[v, .func (.func Em) #[] #[.pointer (some ⟨bb, 0, none⟩)]] w fun en w' => ∃ r, en = .returned r ∧ ∃ i : Int, r = .int .i64 i ∧ decide (0 ≤ i) = (!Xd m) ∧ Fr No w w' := by
 obtain ⟨A, c, rfl⟩ := MS.form hm
 refine Ci (args := [.slice A m.length c, .func (.func Em) #[] #[.pointer (some ⟨bb, 0, none⟩)]]) Rj (by simp only [m_slices_IndexFunc, List.length]; decide) ?_
 simp only [m_slices_IndexFunc]; refine WS ?_; try with_reducible exact trivial
 refine JF [0, 1, 6, 7, 8] (fun k : Nat => [(0, .slice A m.length c), (1, .func (.func Em) #[] #[.pointer (some ⟨bb, 0, none⟩)]), (6, .slice A m.length c), (7, .int .i64 m.length), (8, .int .i64 k)])
  (fun k w1 => k ≤ m.length ∧ (m.take k).all (fun x => x.length == width m) = true ∧ Fr No w w1) (fun k _ => m.length - k) 0 (by with_unfolding_all rfl) ⟨Nat.zero_le _, rfl, Fr.refl _ _⟩ ?_
 rintro k w1 ⟨hk, hz, hf⟩
 by_cases hlt : k < m.length
 ·obtain ⟨ad, A2, c2, rfl, hcell, _⟩ := MS.row hm hlt
  have hcell1 : w1.cell? (ad.add k) = some (.slice A2 m[k].length c2) := by rw [hf.cell (AC hcell) (fun h => h)]; exact hcell
  have hbox1 : w1.cell? ⟨bb, 0, none⟩ = some (.slice (some ad) m.length c) := by rw [hf.cell (AC hbox) (fun h => h)]; exact hbox
  have hm1 : MS w1 B (.slice (some ad) m.length c) m := hm.fr hf fun _ _ h => h
  simp -dsimp (disch := omega) only [↓MC.wp, ↓BD, ↓CV, ↓MOp.wp, evs, ev, Am, BZ, BF, pev, Bl, Bv, Aq, Bz, psl, Ba, Aw, Ag, ↓BM, ↓AP, ↓DK, ↓Bf, Dy, Az, MOp.still, known, Op.operands, AA, A7, Nat.reduceAdd, reduceCtorEq, if_true, if_false, ↓reduceIte, ne_eq, Int.reduceEq, Int.reduceLT, Int.reduceLE, Int.reduceAdd, Int.reduceSub, Int.reduceMul, Int.reduceToNat, Nat.reduceMul, Nat.reduceLeDiff, Nat.reduceLT, Nat.reduceSub, WB, hcell1, hb43]
  refine call (AcL (A' := A2) (k := m[k].length) (c' := c2) hm1 hp hbox1) ?_
  intro r w2 h
  rw [h.1]
  refine WS ?_; try with_reducible exact trivial
  have hf2 := h.2
  refine brn ?_ ?_
  ·intro hne
   refine WS ?_; try with_reducible exact trivial
   refine ⟨(k : Int), rfl, ?_, hf.then hf2⟩
   have : Xd m = false := by
    rw [Xd, List.all_eq_false]
    exact ⟨m[k], List.getElem_mem hlt, by simp; omega⟩
   rw [this]
   simp
  ·intro he
   refine WS ?_; try with_reducible exact trivial
   refine ⟨k + 1, rfl, ⟨by omega, ?_, hf.then hf2⟩, by omega⟩
   rw [Kq hlt, List.all_append, hz]
   simp
   omega
 ·refine WS ?_; try with_reducible exact trivial
  have : k = m.length := by omega
  subst this
  rw [List.take_length] at hz
  refine ⟨-1, rfl, ?_, hf⟩
  rw [Xd, hz]
  rfl
theorem Xn {w : World} {B bb : Nat} {v : Value} {m : LL} (hm : MS w B v m) (hp : 0 < m.length) (hl : m.length ≤ 1000000) (hbox : w.cell? ⟨bb, 0, none⟩ = some v) :
  Calls Tryz.prog Il #[v, .func (.func Em) #[] #[.pointer (some ⟨bb, 0, none⟩)]] w fun en w' => ∃ r, en = .returned r ∧ (r = .bool (!Xd m) ∧ Fr No w w') := by
 refine Ci (args := [v, .func (.func Em) #[] #[.pointer (some ⟨bb, 0, none⟩)]]) O6 (by simp only [m_slices_ContainsFunc, List.length]; decide) ?_
 simp only [m_slices_ContainsFunc]; refine WS ?_; try with_reducible exact trivial
 refine call (Aby hm hp hl hbox) ?_
 intro r w1 h
 obtain ⟨i, hr, hi, hf⟩ := h
 rw [hr]
 refine WS ?_; try with_reducible exact trivial
 exact ⟨by rw [hi], hf⟩
theorem Abe {w : World} {B : Nat} {v : Value} {m : LL} (hm : MS w B v m) (hB : B ≤ w.heap.size) (hl : m.length ≤ 1000000) :
  Calls Tryz.prog JY #[v] w fun en w' => ∃ r, en = .returned r ∧ (r = .bool (Me m) ∧ Fr No w w') := by
 obtain ⟨A, c, rfl⟩ := MS.form hm
 refine Ci (args := [.slice A m.length c]) Xy (by simp only [m_matrix_Right, List.length]; decide) ?_
 simp only [m_matrix_Right]; refine WS ?_; try with_reducible exact trivial
 refine new ?_
 intro b w1 hb hs hc hf
 have hbox : w1.cell? ⟨b, 0, none⟩ = some (.slice A m.length c) := by simp [World.cell?, hc]
 simp -dsimp (disch := omega) only [↓MC.wp, ↓BD, ↓CV, ↓MOp.wp, evs, ev, Am, BZ, BF, pev, Bl, Bv, Aq, Bz, psl, Ba, Aw, Ag, ↓BM, ↓AP, ↓DK, ↓Bf, Dy, Az, MOp.still, known, Op.operands, AA, A7, Nat.reduceAdd, reduceCtorEq, if_true, if_false, ↓reduceIte, ne_eq, Int.reduceEq, Int.reduceLT, Int.reduceLE, Int.reduceAdd, Int.reduceSub, Int.reduceMul, Int.reduceToNat, Nat.reduceMul, Nat.reduceLeDiff, Nat.reduceLT, Nat.reduceSub, WB, hbox]
 by_cases h0 : m.length = 0
 ·refine WS ?_; try with_reducible exact trivial
  rw [Me]
  simp [h0]
  exact hf
 ·have hp : 0 < m.length := by omega
  obtain ⟨ad, A2, c2, rfl, hcell, _⟩ := MS.row hm hp
  rw [Pe hp] at hcell
  have hcell1 : w1.cell? (ad.add 0) = some (.slice A2 (width m) c2) := by rw [hf.cell (AC hcell) (fun h => h)]; exact hcell
  by_cases h1 : width m = 0
  ·simp -dsimp (disch := omega) only [↓MC.wp, ↓BD, ↓CV, ↓MOp.wp, evs, ev, Am, BZ, BF, pev, Bl, Bv, Aq, Bz, psl, Ba, Aw, Ag, ↓BM, ↓AP, ↓DK, ↓Bf, Dy, Az, MOp.still, known, Op.operands, AA, A7, Nat.reduceAdd, reduceCtorEq, if_true, if_false, ↓reduceIte, ne_eq, Int.reduceEq, Int.reduceLT, Int.reduceLE, Int.reduceAdd, Int.reduceSub, Int.reduceMul, Int.reduceToNat, Nat.reduceMul, Nat.reduceLeDiff, Nat.reduceLT, Nat.reduceSub, WB, hbox, hcell1]
   rw [Me]
   simp [h1]
   exact hf
  ·simp -dsimp (disch := omega) only [↓MC.wp, ↓BD, ↓CV, ↓MOp.wp, evs, ev, Am, BZ, BF, pev, Bl, Bv, Aq, Bz, psl, Ba, Aw, Ag, ↓BM, ↓AP, ↓DK, ↓Bf, Dy, Az, MOp.still, known, Op.operands, AA, A7, Nat.reduceAdd, reduceCtorEq, if_true, if_false, ↓reduceIte, ne_eq, Int.reduceEq, Int.reduceLT, Int.reduceLE, Int.reduceAdd, Int.reduceSub, Int.reduceMul, Int.reduceToNat, Nat.reduceMul, Nat.reduceLeDiff, Nat.reduceLT, Nat.reduceSub, WB, hbox, hcell1]
   have hm1 : MS w1 B (.slice (some ad) m.length c) m := hm.fr hf fun _ _ h => h
   refine call (Xn hm1 hp hl hbox) ?_
   intro r w2 h
   rw [h.1]
   refine WS ?_; try with_reducible exact trivial
   refine ⟨?_, hf.then h.2⟩
   rw [Me]
   have h1' : 0 < width m := by omega
   simp [hp, h1']
end Go.Proofs.YtgpkbldlkadnjaaGreat
end
