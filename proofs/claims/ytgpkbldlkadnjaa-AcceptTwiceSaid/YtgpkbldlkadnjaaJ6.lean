/- The walk over data: maps that are owned. -/
import Derived.Test.YtgpkbldlkadnjaaJ2
import Derived.Carry
import Derived.ChangeMaps5
import Derived.Test.YtgpkbldlkadnjaaJ3
import Derived.Maps.RangeRun
import Derived.Shelf.SlIter.Nil
import Derived.Shelf.SlIterI.Nil
import Derived.Shelf.SortM.Plain
import Derived.Shelf.SortM.SortNone
import Derived.Test.YtgpkbldlkadnjaaJ4
import Derived.Test.YtgpkbldlkadnjaaJ5
section
set_option linter.unusedVariables false
set_option linter.unusedSimpArgs false
namespace Go.Sl
open Go.RowKit
open Go.Maps (Keyed)
open Go.ChangeMaps (setBlock heap_setBlock_same heap_setBlock_other)
section
variable {E : En} {w w' : World} {Z Z' : Nat → Prop} {T T' : Nat → Option Value} {F : Nat → Nat} {r : Roots} {nx : Nat}
variable {P : Program} {held : List Nat} {e e' : Env} {de : DEnv} {K : D → Roots → Nat → Prop}
theorem dmakemap {t : TypeId} {dst : Option Nat} {ty : TypeId} {pos : String} {af : Array Edge} {gu} {tg : TagF K} (k : K (.h nx) ((nx, .mp [] []) :: r) (nx + 1)) :
    DGen P ⟨dst, .makeMap t none, ty, pos, af, gu⟩ de held r nx K tg := by
  intro E w Z T F en h he
  refine ⟨by simp [Op.operands, known], ?_⟩
  obtain ⟨o1, o2⟩ := h.alloc (held := held) (w' := w.alloc (.map #[] 0)) (o := .map #[] 0) (v := .map (some w.heap.size)) (d := .mp [] []) (by simp) (Fr.alloc w _) rfl rfl (by
    simp only [Ro]
    exact ⟨w.heap.size, [], fun _ => 0, rfl, ⟨_, _, Mp.made (heap_alloc_new w _)⟩, by simp only [RoL]; exact ⟨trivial, fun _ => trivial⟩, fun b => by simp⟩)
  exact .inl ⟨.map (some w.heap.size), w.alloc (.map #[] 0), by simp only [execOp, Option.map_none, Sem.run_bind, run_makeMap, Result.andThen_ok, Sem.run_pure], _, _, _, _, _, _, o1, o2, by simp only [Rs]; exact tset_same _ _ _, k⟩
/-- a map that is owned, opened -/
theorem Ok.map (h : Ok E w Z T F r nx) {i : Nat} {ks : List Value} {l : List D} (hg : rget r i = some (.mp ks l)) : ∃ b us es clock G F2, T i = some (.map (some b)) ∧ Mp w b ks us es clock ∧ RoL w Z T l us G ∧ (∀ c, F c = G c + own (.map (some b)) c + F2 c) ∧ RL w Z T (rdel r i) F2 := by
  obtain ⟨v, F1, F2, h1, h2, h3, h4, _⟩ := h.roots.get hg
  simp only [Ro] at h2
  obtain ⟨b, us, G, rfl, ⟨es, c, hm⟩, h5, h6⟩ := h2
  exact ⟨b, us, es, c, G, F2, h1, hm, h5, fun x => by rw [h3, h6], h4⟩
theorem dlook_at {t kt et : TypeId} {m x : Operand} {ok : Bool} {dst : Option Nat} {ty : TypeId} {pos : String} {af : Array Edge} {gu} {tg : TagF K} {i j : Nat} {ks : List Value} {l : List D} {key : Value} {kl : Lit} {d : D}
    (hm : dv de r m = some (.h i)) (hx : dv de r x = some (.sc key)) (hg : rget r i = some (.mp ks l)) (Kd : Keyed P kt) (ht : P.underlying t = some (.map kt et)) (hkey : keyOf P kt key = some kl) (hks : ∀ x ∈ ks, ∃ l, keyOf P kt x = some l)
    (hj : ks[j]? = some key) (hd : l[j]? = some d) (hp : d.plain) (k : K (if ok then .tup [d, .sc (.bool true)] else d) r nx) : DGen P ⟨dst, .lookup t m x ok, ty, pos, af, gu⟩ de held r nx K tg := by
  intro E w Z T F en h he
  obtain ⟨v1, hv1, hr1⟩ := dv_rs h.roots he hm
  obtain ⟨v2, hv2, hr2⟩ := dv_rs h.roots he hx
  simp only [Rs] at hr1 hr2
  subst hr2
  obtain ⟨b, us, es, clock, G, F2, h1, h2, h3, h4, h5⟩ := h.map hg
  rw [h1] at hr1
  cases hr1
  obtain ⟨u, F3, F4, hu, hru, _⟩ := h3.get hd
  have hrs := (Ro.rs hp hru).1
  refine ⟨by simp [Op.operands, known, hv1, hv2], ?_⟩
  refine .inl ⟨if ok = true then .tuple #[u, .bool true] else u, w, by simp only [execOp, rho, hv1, hv2, Option.getD_some, Sem.run_bind, h2.look_at Kd ht hkey hks hj hu ok, Result.andThen_ok, Sem.run_pure], _, _, _, _, _, _, h, Grow.refl _ _ _ _ _, ?_, k⟩
  cases ok
  · exact hrs
  · simp only [if_true, Rs]
    exact ⟨[u, .bool true], rfl, by simp only [RsL]; exact ⟨u, _, rfl, hrs, _, _, rfl, by simp only [Rs], rfl⟩⟩
theorem dlook_no {t kt et : TypeId} {m x : Operand} {ok : Bool} {dst : Option Nat} {ty : TypeId} {pos : String} {af : Array Edge} {gu} {tg : TagF K} {i : Nat} {ks : List Value} {l : List D} {key z : Value} {kl : Lit}
    (hm : dv de r m = some (.h i)) (hx : dv de r x = some (.sc key)) (hg : rget r i = some (.mp ks l)) (Kd : Keyed P kt) (ht : P.underlying t = some (.map kt et)) (hz : ∀ w, (zeroValue et).run P w = .ok z w) (hkey : keyOf P kt key = some kl) (hks : ∀ x ∈ ks, ∃ l, keyOf P kt x = some l)
    (hn : key ∉ ks) (k : K (if ok then .tup [cv z, .sc (.bool false)] else cv z) r nx) : DGen P ⟨dst, .lookup t m x ok, ty, pos, af, gu⟩ de held r nx K tg := by
  intro E w Z T F en h he
  obtain ⟨v1, hv1, hr1⟩ := dv_rs h.roots he hm
  obtain ⟨v2, hv2, hr2⟩ := dv_rs h.roots he hx
  simp only [Rs] at hr1 hr2
  subst hr2
  obtain ⟨b, us, es, clock, G, F2, h1, h2, h3, h4, h5⟩ := h.map hg
  rw [h1] at hr1
  cases hr1
  refine ⟨by simp [Op.operands, known, hv1, hv2], ?_⟩
  refine .inl ⟨if ok = true then .tuple #[z, .bool false] else z, w, by simp only [execOp, rho, hv1, hv2, Option.getD_some, Sem.run_bind, h2.look_no Kd ht (hz w) hkey hks hn ok, Result.andThen_ok, Sem.run_pure], _, _, _, _, _, _, h, Grow.refl _ _ _ _ _, ?_, k⟩
  cases ok
  · exact cv_rs _ _ _ _
  · simp only [if_true, Rs]
    exact ⟨[z, .bool false], rfl, by simp only [RsL]; exact ⟨z, _, rfl, cv_rs _ _ _ _, _, _, rfl, by simp only [Rs], rfl⟩⟩
/-- a map's entries, put anew in place -/
theorem Ok.mapset (h : Ok E w Z T F r nx) {i : Nat} {ks : List Value} {l : List D} (hg : rget r i = some (.mp ks l)) (hh : i ∉ held) : ∃ b us es clock G, T i = some (.map (some b)) ∧ Mp w b ks us es clock ∧ RoL w Z T l us G ∧
    ∀ (es' : Array MapEntry) (c' : Nat) (ks' us' : List Value) (l' : List D) (G' : Nat → Nat), (∀ w', w'.heap[b]? = some (.map es' c') → Mp w' b ks' us' es' c') → RoL w Z T l' us' G' → (∀ c, G' c ≤ G c) →
      ∃ F', Ok E (setBlock w b (.map es' c')) Z T F' (rset r i (.mp ks' l')) nx ∧ Grow r w Z T (setBlock w b (.map es' c')) Z T held := by
  obtain ⟨v, F1, F2, h1, h2, h3, h4, h5⟩ := h.roots.get hg
  simp only [Ro] at h2
  obtain ⟨b, us, G, rfl, ⟨es, c, hm⟩, h6, h7⟩ := h2
  refine ⟨b, us, es, c, G, h1, hm, h6, fun es' c' ks' us' l' G' hmp hro hle => ?_⟩
  have hown : own (.map (some b)) b = 1 := by simp [own, blk]
  have hone : F b ≤ 1 := h.one b
  have hGb : G b = 0 ∧ F2 b = 0 := by have := h3 b; have := h7 b; omega
  have hzb : ∀ x, Z x → x ≠ b := fun x hx e => by
    have := (h.zlt x hx).2
    have := h3 x; have := h7 x
    subst e
    omega
  have hother : ∀ x, x ≠ b → (setBlock w b (.map es' c')).heap[x]? = w.heap[x]? := fun x hx => heap_setBlock_other hm.at_ _ hx
  have hfr : Fr (· = b) w (setBlock w b (.map es' c')) := ⟨rfl, rfl, rfl, by simp [setBlock], fun x _ hx => hother x hx⟩
  have hro' : RoL (setBlock w b (.map es' c')) Z T l' us' G' := RoL.keep (fun _ h => h) (fun _ _ h => h) l' us' G' (fun x hx => hother x (by
    rcases hx with hx | hx
    · intro e; subst e; have := hle x; omega
    · exact hzb x hx)) hro
  have hd' : Ro (setBlock w b (.map es' c')) Z T (.mp ks' l') (.map (some b)) (fun x => G' x + own (.map (some b)) x) := by
    simp only [Ro]
    exact ⟨b, us', G', rfl, ⟨es', c', hmp _ (heap_setBlock_same hm.at_ _)⟩, hro', fun _ => rfl⟩
  have hrl := h5 (setBlock w b (.map es' c')) Z T (.mp ks' l') (.map (some b)) _ (fun x hx => hother x (by
    rcases hx with hx | hx
    · intro e; subst e; omega
    · exact hzb x hx)) (fun _ h => h) (fun _ _ h => h) h1 hd'
  obtain ⟨o1, o2⟩ := h.write (d' := .mp ks' l') h1 (b0 := b) rfl h3 (F1' := fun x => G' x + own (.map (some b)) x) (fun x => by have := h7 x; have := hle x; omega) (by have := h7 b; omega) hfr hrl hh h4
  exact ⟨_, o1, o2⟩
variable {KU : Roots → Nat → Prop}
theorem dmapput_no {t kt et : TypeId} {m x v : Operand} {dst : Option Nat} {ty : TypeId} {pos : String} {af : Array Edge} {gu} {tg : TagF KU} {i : Nat} {ks : List Value} {l : List D} {key : Value} {kl : Lit} {d : D}
    (hm : dv de r m = some (.h i)) (hx : dv de r x = some (.sc key)) (hv : dv de r v = some d) (hg : rget r i = some (.mp ks l)) (Kd : Keyed P kt) (ht : P.underlying t = some (.map kt et)) (hkey : keyOf P kt key = some kl) (hks : ∀ x ∈ ks, ∃ l, keyOf P kt x = some l)
    (hn : key ∉ ks) (hp : d.plain) (hh : i ∉ held) (k : KU (rset r i (.mp (ks ++ [key]) (l ++ [d]))) nx) : DGenU P ⟨dst, .mapUpdate t m x v, ty, pos, af, gu⟩ de held r nx KU tg := by
  intro E w Z T F en h he
  obtain ⟨v1, hv1, hr1⟩ := dv_rs h.roots he hm
  obtain ⟨v2, hv2, hr2⟩ := dv_rs h.roots he hx
  obtain ⟨v3, hv3, hr3⟩ := dv_rs h.roots he hv
  simp only [Rs] at hr1 hr2
  subst hr2
  obtain ⟨b, us, es, clock, G, h1, h2, h3, put⟩ := h.mapset (held := held) hg hh
  rw [h1] at hr1
  cases hr1
  obtain ⟨es', c', hrun, hmp⟩ := h2.put_no Kd ht hkey hks hn v3
  obtain ⟨F', o1, o2⟩ := put es' c' _ _ (l ++ [d]) G hmp (by
    have := RoL.append h3 (RoL.of (l := [d]) (us := [v3]) (by simp only [RsL]; exact ⟨v3, _, rfl, hr3, rfl⟩))
    simpa using this) (fun _ => Nat.le_refl _)
  refine ⟨by simp [Op.operands, known, hv1, hv2, hv3], _, ?_, _, _, _, _, _, o1, o2, k⟩
  simp only [execOp, rho, hv1, hv2, hv3, Option.getD_some, Sem.run_bind, hrun, Result.andThen_ok, Sem.run_pure]
theorem dmapput_at {t kt et : TypeId} {m x v : Operand} {dst : Option Nat} {ty : TypeId} {pos : String} {af : Array Edge} {gu} {tg : TagF KU} {i j : Nat} {ks : List Value} {l : List D} {key : Value} {kl : Lit} {d d0 : D}
    (hm : dv de r m = some (.h i)) (hx : dv de r x = some (.sc key)) (hv : dv de r v = some d) (hg : rget r i = some (.mp ks l)) (Kd : Keyed P kt) (ht : P.underlying t = some (.map kt et)) (hkey : keyOf P kt key = some kl) (hks : ∀ x ∈ ks, ∃ l, keyOf P kt x = some l)
    (hj : ks[j]? = some key) (hd0 : l[j]? = some d0) (hp : d.plain) (hh : i ∉ held) (k : KU (rset r i (.mp ks (l.set j d))) nx) : DGenU P ⟨dst, .mapUpdate t m x v, ty, pos, af, gu⟩ de held r nx KU tg := by
  intro E w Z T F en h he
  obtain ⟨v1, hv1, hr1⟩ := dv_rs h.roots he hm
  obtain ⟨v2, hv2, hr2⟩ := dv_rs h.roots he hx
  obtain ⟨v3, hv3, hr3⟩ := dv_rs h.roots he hv
  simp only [Rs] at hr1 hr2
  subst hr2
  obtain ⟨b, us, es, clock, G, h1, h2, h3, put⟩ := h.mapset (held := held) hg hh
  rw [h1] at hr1
  cases hr1
  obtain ⟨u, F3, F4, hu, hru, hG, hset⟩ := h3.get hd0
  obtain ⟨es', c', hrun, hmp⟩ := h2.put_at Kd ht hkey hks hj hu v3
  obtain ⟨F', o1, o2⟩ := put es' c' _ _ (l.set j d) _ hmp (hset d v3 _ (Ro.of hr3)) (fun c => by have := hG c; omega)
  refine ⟨by simp [Op.operands, known, hv1, hv2, hv3], _, ?_, _, _, _, _, _, o1, o2, k⟩
  simp only [execOp, rho, hv1, hv2, hv3, Option.getD_some, Sem.run_bind, hrun, Result.andThen_ok, Sem.run_pure]
end
end Go.Sl
end
section
/- The walk over data: maps that hold trees. -/
set_option linter.unusedVariables false
set_option linter.unusedSimpArgs false
namespace Go.Sl
open Go.RowKit
open Go.Maps (Keyed)
section
variable {E : En} {w w' : World} {Z Z' : Nat → Prop} {T T' : Nat → Option Value} {F : Nat → Nat} {r : Roots} {nx : Nat}
variable {P : Program} {held : List Nat} {e e' : Env} {de : DEnv} {K : D → Roots → Nat → Prop}
/-- an entry of a map that is owned, as a root of its own -/
theorem own_entry (hr : RL w Z T r F) {i j : Nat} {ks : List Value} {l : List D} {x : D} (hg : rget r i = some (.mp ks l)) (hx : l[j]? = some x) :
    ∃ b us es clock u Fx, T i = some (.map (some b)) ∧ Mp w b ks us es clock ∧ us[j]? = some u ∧ Ro w Z T x u Fx ∧
      ∀ d', Rs w Z T d' u → T nx = some u → RL w Z T ((nx, x) :: rset r i (.mp ks (l.set j d'))) F := by
  obtain ⟨v, F1, F2, h1, h2, h3, h4, h5⟩ := hr.get hg
  simp only [Ro] at h2
  obtain ⟨b, us, G, rfl, ⟨es, clock, hm⟩, h6, h7⟩ := h2
  obtain ⟨u, Fa, Fb, g1, g2, g3, g4⟩ := h6.get hx
  refine ⟨b, us, es, clock, u, Fa, h1, hm, g1, g2, fun d' hd' ht => ?_⟩
  have hro : Ro w Z T (.mp ks (l.set j d')) (.map (some b)) (fun c => (0 + Fb c) + own (.map (some b)) c) := by
    simp only [Ro]
    refine ⟨b, us, fun c => 0 + Fb c, rfl, ⟨es, clock, hm⟩, ?_, fun c => rfl⟩
    have := g4 d' u (fun _ => 0) (Ro.of hd')
    rw [set_same g1] at this
    exact this
  have := h5 w Z T _ _ _ (fun _ _ => rfl) (fun _ h => h) (fun _ _ h => h) h1 hro
  exact ⟨u, Fa, _, ht, g2, this, fun y => by
    have e1 := h3 y
    have e2 := h7 y
    have e3 := g3 y
    show F y = Fa y + (0 + Fb y + own _ y + F2 y)
    omega⟩
theorem dlook_box {t kt et : TypeId} {m x : Operand} {ok : Bool} {dst : Option Nat} {ty : TypeId} {pos : String} {af : Array Edge} {gu} {tg : TagF K} {i j : Nat} {ks : List Value} {l : List D} {key : Value} {kl : Lit} {eb : TypeId} {lc : List D}
    (hm : dv de r m = some (.h i)) (hx : dv de r x = some (.sc key)) (hg : rget r i = some (.mp ks l)) (Kd : Keyed P kt) (ht : P.underlying t = some (.map kt et)) (hkey : keyOf P kt key = some kl) (hks : ∀ x ∈ ks, ∃ l, keyOf P kt x = some l)
    (hj : ks[j]? = some key) (hd : l[j]? = some (.box eb lc)) (k : K (if ok then .tup [.hp nx 0, .sc (.bool true)] else .hp nx 0) ((nx, .box eb lc) :: rset r i (.mp ks (l.set j (.hp nx 0)))) (nx + 1)) : DGen P ⟨dst, .lookup t m x ok, ty, pos, af, gu⟩ de held r nx K tg := by
  intro E w Z T F en h he
  obtain ⟨v1, hv1, hr1⟩ := dv_rs h.roots he hm
  obtain ⟨v2, hv2, hr2⟩ := dv_rs h.roots he hx
  simp only [Rs] at hr1 hr2
  subst hr2
  obtain ⟨b, us, es, clock, u, Fx, h1, h2, hu, hru, _⟩ := own_entry (nx := nx) h.roots hg hd
  rw [h1] at hr1
  cases hr1
  have hone := tree_cell hru (.inl ⟨_, _, rfl⟩)
  have hT := tset_ext (v := u) (h.t nx (Nat.le_refl _))
  have hr' : RL w Z (tset T nx u) r F := h.roots.keep (fun _ h => h) hT (fun _ _ => rfl)
  obtain ⟨b', us', es', clock', u', Fx', k1, k2, ku, kru, kk⟩ := own_entry (nx := nx) hr' hg hd
  rw [hT i _ h1] at k1
  cases k1
  have hus : us' = us := by rw [← k2.val, ← h2.val]; have := k2.at_.symm.trans h2.at_; cases this; rfl
  subst hus
  rw [hu] at ku
  cases ku
  have hrs : Rs w Z (tset T nx u) (.hp nx 0) u := by
    simp only [Ro] at hru
    obtain ⟨b2, us2, F2', rfl, _⟩ := hru
    simp only [Rs]
    exact ⟨_, b2, tset_same _ _ _, rfl, rfl⟩
  obtain ⟨o1, o2⟩ := h.name (held := held) hone (fun _ => rfl) (kk (.hp nx 0) hrs (tset_same _ _ _))
  refine ⟨by simp [Op.operands, known, hv1, hv2], ?_⟩
  refine .inl ⟨if ok = true then .tuple #[u, .bool true] else u, w, by simp only [execOp, rho, hv1, hv2, Option.getD_some, Sem.run_bind, h2.look_at Kd ht hkey hks hj hu ok, Result.andThen_ok, Sem.run_pure], _, _, _, _, _, _, o1, o2, ?_, k⟩
  cases ok
  · exact hrs
  · simp only [if_true, Rs]
    simp only [Rs] at hrs
    exact ⟨[u, .bool true], rfl, by simp only [RsL]; exact ⟨u, _, rfl, by simp only [Rs]; exact hrs, _, _, rfl, by simp only [Rs], rfl⟩⟩
/-- a child of a tree let go -/
theorem RT.drop (p off : Nat) {c d : D} {l : List D} (hp : rget r p = some c) (hk : kids c = some l) (hl : l[off]? = some d) : RT r (rset r p (withKids c (l.set off .dead))) := fun E w Z T F nx h => by
  obtain ⟨u, G1, G2, g1, g2, g3, g4, g5⟩ := h.roots.get hp
  obtain ⟨us, K1, K2, k1, k2, k3⟩ := g2.kid hk
  obtain ⟨x, X1, X2, x1, x2, x3, x4⟩ := k1.get hl
  have hset : us.set off x = us := by
    obtain ⟨hlt, he⟩ := List.getElem?_eq_some_iff.1 x1
    rw [← he]
    exact List.set_getElem_self hlt
  have hro := k3 (l.set off .dead) _ (by have := x4 .dead x (fun _ => 0) (Ro.of (by simp only [Rs])); rw [hset] at this; exact this)
  have hrl := g5 w Z T _ u _ (fun _ _ => rfl) (fun _ h => h) (fun _ _ h => h) g1 hro
  refine ⟨Z, _, h.swapR (fun _ h => h) (fun b hb => .inl hb) (fun b => ?_) (fun b hb => ?_) hrl, fun _ h => h⟩
  · have := g3 b; have := k2 b; have := x3 b
    show 0 + X2 b + K2 b + G2 b ≤ F b
    omega
  · have := (h.zlt b hb).2; have := g3 b; have := k2 b; have := x3 b
    show 0 + X2 b + K2 b + G2 b = 0
    omega
end
end Go.Sl
end
section
/- The walk over data: a range over a map that is owned; its entries may be trees. -/
set_option linter.unusedVariables false
set_option linter.unusedSimpArgs false
namespace Go.Sl
open Go.RowKit
open Go.ChangeMaps (setBlock heap_setBlock_same heap_setBlock_other)
/-- an iterator with the map that it goes over: keys, entries, the places that were handed out -/
def ItP (im : Nat) (ks : List Value) (l : List D) (S : List Nat) (w : World) (Z : Nat → Prop) (T : Nat → Option Value) (v : Value) (F : Nat → Nat) : Prop :=
  ∃ (rb b : Nat) (us : List Value) (es : Array MapEntry) (clock since last : Nat) (seen : Array Nat) (G : Nat → Nat),
    v = .pointer (some ⟨rb, 0, none⟩) ∧ T im = some (.map (some b)) ∧ Mp w b ks us es clock ∧ (∀ e ∈ es.toList, e.born < since) ∧ since ≤ last ∧ (S ≠ [] → last = clock) ∧ RoL w Z T l us G ∧
    w.heap[rb]? = some (.mapIter (some b) since seen last) ∧ seen.toList = S.map (fun j => ((es.toList[j]?).map (·.born)).getD 0) ∧ (∀ j ∈ S, j < ks.length) ∧ since ≤ clock ∧ rb ≠ b ∧ ∀ c, F c = (G c + own (.map (some b)) c) + own v c
def ItA (im : Nat) (ks : List Value) (l : List D) (S : List Nat) : Ab where
  p := ItP im ks l S
  keep := fun {w w' Z Z' T T' v F} h hw hZ hT => by
    obtain ⟨rb, b, us, es, clock, since, last, seen, G, h1, h2, h3, h4, h5, h6, h7, h8, h9, h10, h11, h12, h13⟩ := h
    have hb : 0 < F b := by rw [h13]; simp [own, blk]; omega
    have hr : 0 < F rb := by rw [h13, h1]; simp [own, blk]
    refine ⟨rb, b, us, es, clock, since, last, seen, G, h1, hT _ _ h2, ⟨(hw b (.inl hb)).trans h3.at_, h3.key, h3.val, h3.nodup, h3.born, h3.old⟩, h4, h5, h6, ?_, (hw rb (.inl hr)).trans h8, h9, h10, h11, h12, h13⟩
    exact RoL.keep hZ hT l us G (fun x hx => hw x (hx.imp_left fun hx => by rw [h13]; omega)) h7
section
variable {E : En} {w w' : World} {Z Z' : Nat → Prop} {T T' : Nat → Option Value} {F : Nat → Nat} {r : Roots} {nx : Nat}
variable {P : Program} {held : List Nat} {e e' : Env} {de : DEnv} {K : D → Roots → Nat → Prop}
theorem drange {t kt et : TypeId} {m : Operand} {dst : Option Nat} {ty : TypeId} {pos : String} {af : Array Edge} {gu} {tg : TagF K} {im : Nat} {ks : List Value} {l : List D}
    (hm : dv de r m = some (.h im)) (hg : rget r im = some (.mp ks l)) (ht : P.underlying t = some (.map kt et)) (k : K (.h nx) ((nx, .abs (ItA im ks l [])) :: rdel r im) (nx + 1)) :
    DGen P ⟨dst, .range t m, ty, pos, af, gu⟩ de held r nx K tg := by
  intro E w Z T F en h he
  obtain ⟨v1, hv1, hr1⟩ := dv_rs h.roots he hm
  simp only [Rs] at hr1
  obtain ⟨v, F1, F2, h1, h2, h3, h4, h5⟩ := h.roots.get hg
  simp only [Ro] at h2
  obtain ⟨b, us, G, rfl, ⟨es, clock, hmp⟩, h6, h7⟩ := h2
  rw [h1] at hr1
  cases hr1
  have hbF : 0 < F b := by rw [h3, h7]; simp [own, blk]; omega
  have hlt := h.lt b hbF
  let w1 := w.alloc (.mapIter (some b) clock #[] clock)
  have hsame : ∀ x, x < w.heap.size → w1.heap[x]? = w.heap[x]? := fun x hx => heap_alloc_old w _ hx
  -- the iterator alone, then with its map
  let A0 : Ab := ⟨fun w Z T v F => F = own v, fun h _ _ _ => h⟩
  obtain ⟨o1, o2⟩ := h.alloc (held := held) (w' := w1) (o := .mapIter (some b) clock #[] clock) (v := .pointer (some ⟨w.heap.size, 0, none⟩)) (d := .abs A0) (by simp [w1]) (Fr.alloc w _) rfl rfl (by simp only [Ro]; rfl)
  have hT := tset_ext (v := .pointer (some ⟨w.heap.size, 0, none⟩)) (h.t nx (Nat.le_refl _))
  have hk : ∀ x, 0 < F x ∨ Z x → w1.heap[x]? = w.heap[x]? := fun x hx => hsame x (by
    rcases hx with hx | hx
    · exact h.lt x hx
    · exact (h.zlt x hx).1)
  have hro : Ro w1 Z (tset T nx (.pointer (some ⟨w.heap.size, 0, none⟩))) (.abs (ItA im ks l [])) (.pointer (some ⟨w.heap.size, 0, none⟩)) (fun c => (G c + own (.map (some b)) c) + own (.pointer (some ⟨w.heap.size, 0, none⟩)) c) := by
    simp only [Ro]
    refine ⟨w.heap.size, b, us, es, clock, clock, clock, #[], G, rfl, hT _ _ h1, ⟨(hsame b hlt).trans hmp.at_, hmp.key, hmp.val, hmp.nodup, hmp.born, hmp.old⟩, hmp.old, Nat.le_refl _, fun h => absurd rfl h, ?_, heap_alloc_new w _, rfl, by simp, Nat.le_refl _, by omega, fun c => rfl⟩
    exact RoL.keep (fun _ h => h) hT l us G (fun x hx => hk x (hx.imp_left fun hx => by rw [h3, h7]; omega)) h6
  have hrl : RL w1 Z (tset T nx (.pointer (some ⟨w.heap.size, 0, none⟩))) ((nx, .abs (ItA im ks l [])) :: rdel r im) (fun c => own (.pointer (some ⟨w.heap.size, 0, none⟩)) c + F c) :=
    ⟨_, _, F2, tset_same _ _ _, hro, h4.keep (fun _ h => h) hT (fun x hx => hk x (hx.imp_left fun hx => by rw [h3]; omega)), fun c => by
      have := h3 c; have := h7 c
      show own _ c + F c = G c + own (.map (some b)) c + own _ c + F2 c
      omega⟩
  have ok2 := o1.swapR (fun _ h => h) (fun b hb => .inl hb) (fun b => Nat.le_refl _) (fun b hb => (o1.zlt b hb).2) hrl
  refine ⟨by simp [Op.operands, known, hv1], ?_⟩
  exact .inl ⟨.pointer (some ⟨w.heap.size, 0, none⟩), w1, by simp only [execOp, rho, hv1, Option.getD_some, Sem.run_bind, run_range_map w t kt et b es clock ht hmp.at_, Result.andThen_ok, Sem.run_pure]; rfl, _, _, _, _, _, _, ok2, o2, by simp only [Rs]; exact tset_same _ _ _, k⟩
theorem entry_at {b : Nat} {ks us : List Value} {es : Array MapEntry} {clock : Nat} (h : Mp w b ks us es clock) {e : MapEntry} (he : e ∈ es.toList) : ∃ j : Nat, es.toList[j]? = some e ∧ ks[j]? = some e.key ∧ us[j]? = some e.val := by
  obtain ⟨j, hj, rfl⟩ := List.getElem_of_mem he
  refine ⟨j, List.getElem?_eq_getElem hj, ?_, ?_⟩
  · rw [← h.key, List.getElem?_map, List.getElem?_eq_getElem hj]; rfl
  · rw [← h.val, List.getElem?_map, List.getElem?_eq_getElem hj]; rfl
theorem seen_mem {b : Nat} {ks us : List Value} {es : Array MapEntry} {clock : Nat} (h : Mp w b ks us es clock) {S : List Nat} (hS : ∀ j ∈ S, j < ks.length) {j : Nat} {e : MapEntry} (he : es.toList[j]? = some e) :
    e.born ∈ S.map (fun j => ((es.toList[j]?).map (·.born)).getD 0) ↔ j ∈ S := by
  have hlen : es.toList.length = ks.length := by rw [← h.key, List.length_map]
  constructor
  · intro hm
    obtain ⟨j', hj', heq⟩ := List.mem_map.1 hm
    have hlt := hS j' hj'
    have hl' : j' < es.toList.length := by omega
    rw [List.getElem?_eq_getElem hl'] at heq
    simp only [Option.map_some, Option.getD_some] at heq
    have h1 : (es.toList.map (·.born))[j']? = some e.born := by rw [List.getElem?_map, List.getElem?_eq_getElem hl', ← heq]; rfl
    have h2 : (es.toList.map (·.born))[j]? = some e.born := by rw [List.getElem?_map, he]; rfl
    have := (List.getElem?_inj (by rw [List.length_map]; exact hl') h.born).1 (h1.trans h2.symm)
    subst this
    exact hj'
  · intro hj
    exact List.mem_map.2 ⟨j, hj, by rw [he]; rfl⟩
theorem set_same' {rb : Nat} {o o' : Obj} (h : w.heap[rb]? = some o) : (setBlock w rb o').heap[rb]? = some o' := by
  have hlt := (Array.getElem?_eq_some_iff.1 h).1
  simp [setBlock, hlt]
theorem set_other' {rb x : Nat} {o : Obj} (hx : x ≠ rb) : (setBlock w rb o).heap[x]? = w.heap[x]? := by
  simp only [setBlock]
  rw [Array.getElem?_setIfInBounds_ne (Ne.symm hx)]
theorem it_step (h : Ok E w Z T F r nx) {ni im : Nat} {ks : List Value} {l : List D} {S : List Nat} (hg : rget r ni = some (.abs (ItA im ks l S))) (hh : ni ∉ held) {rb b since last : Nat} {us : List Value} {es : Array MapEntry} {clock : Nat} {seen : Array Nat} {e : MapEntry} {j : Nat}
    (hv : T ni = some (.pointer (some ⟨rb, 0, none⟩))) (hmp : Mp w b ks us es clock) (hit : w.heap[rb]? = some (.mapIter (some b) since seen last)) (he : es.toList[j]? = some e) :
    ∃ F', Ok E (setBlock w rb (.mapIter (some b) since (seen.push e.born) clock)) Z T F' (rset r ni (.abs (ItA im ks l (S ++ [j])))) nx ∧ Grow r w Z T (setBlock w rb (.mapIter (some b) since (seen.push e.born) clock)) Z T held := by
  obtain ⟨v, F1, F2, h1, h2, h3, h4, h5⟩ := h.roots.get hg
  rw [hv] at h1
  cases h1
  simp only [Ro] at h2
  obtain ⟨rb', b', us', es', clock', since', last', seen', G, g1, g2, g3, g4, g5, g6, g7, g8, g9, g10, g11, g12, g13⟩ := h2
  cases g1
  rw [hit] at g8
  cases g8
  have hes := hmp.at_.symm.trans g3.at_
  cases hes
  obtain rfl : us' = us := by rw [← g3.val, ← hmp.val]
  have hlen : es.toList.length = ks.length := by rw [← g3.key, List.length_map]
  have hjl : j < ks.length := by have := (List.getElem?_eq_some_iff.1 he).1; omega
  have hrb1 : 0 < F1 rb := by rw [g13]; simp [own, blk]
  have hbF : 0 < F1 b := by rw [g13]; simp [own, blk]; omega
  have hzrb : ∀ x, Z x → x ≠ rb := fun x hx e => by
    have := (h.zlt x hx).2
    have := h3 x
    subst e
    omega
  have hother : ∀ x, x ≠ rb → (setBlock w rb (.mapIter (some b) since (seen.push e.born) clock)).heap[x]? = w.heap[x]? := fun x hx => set_other' hx
  have hone : F rb ≤ 1 := h.one rb
  have hG : G rb = 0 ∧ F2 rb = 0 := by
    have := h3 rb; have := g13 rb
    have : own (.pointer (some ⟨rb, 0, none⟩)) rb = 1 := by simp [own, blk]
    omega
  have hfr : Fr (· = rb) w (setBlock w rb (.mapIter (some b) since (seen.push e.born) clock)) := ⟨rfl, rfl, rfl, by simp [setBlock], fun x _ hx => hother x hx⟩
  have hd' : Ro (setBlock w rb (.mapIter (some b) since (seen.push e.born) clock)) Z T (.abs (ItA im ks l (S ++ [j]))) (.pointer (some ⟨rb, 0, none⟩)) F1 := by
    simp only [Ro]
    refine ⟨rb, b, us', es, clock, since, clock, seen.push e.born, G, rfl, g2, ⟨(hother b (Ne.symm g12)).trans g3.at_, g3.key, g3.val, g3.nodup, g3.born, g3.old⟩, g4, g11, fun _ => rfl, ?_, set_same' hit, ?_, ?_, g11, g12, g13⟩
    · exact RoL.keep (fun _ h => h) (fun _ _ h => h) l us' G (fun x hx => hother x (by
        rcases hx with hx | hx
        · intro e; subst e; omega
        · exact hzrb x hx)) g7
    · rw [Array.toList_push, g9, List.map_append, List.map_cons, List.map_nil, he]
      rfl
    · intro k hk
      rcases List.mem_append.1 hk with hk | hk
      · exact g10 k hk
      · simp only [List.mem_singleton] at hk; omega
  have hrl := h5 (setBlock w rb (.mapIter (some b) since (seen.push e.born) clock)) Z T (.abs (ItA im ks l (S ++ [j]))) (.pointer (some ⟨rb, 0, none⟩)) F1 (fun x hx => hother x (by
    rcases hx with hx | hx
    · intro e; subst e; omega
    · exact hzrb x hx)) (fun _ h => h) (fun _ _ h => h) hv hd'
  obtain ⟨o1, o2⟩ := h.write (d' := .abs (ItA im ks l (S ++ [j]))) hv (b0 := rb) rfl h3 (F1' := F1) (fun _ => Nat.le_refl _) hrb1 hfr hrl hh h4
  exact ⟨_, o1, o2⟩
theorem dnext {it : Operand} {dst : Option Nat} {ty : TypeId} {pos : String} {af : Array Edge} {gu} {tg : TagF K} {ni im : Nat} {ks : List Value} {l : List D} {S : List Nat}
    (hm : dv de r it = some (.h ni)) (hg : rget r ni = some (.abs (ItA im ks l S))) (hh : ni ∉ held)
    (k0 : (∀ j, j < ks.length → j ∈ S) → K (.tup [.sc (.bool false)]) r nx)
    (k1 : ∀ j key, ks[j]? = some key → j ∉ S → K (.tup [.sc (.bool true), .sc key, .dead]) (rset r ni (.abs (ItA im ks l (S ++ [j])))) nx) :
    DGen P ⟨dst, .next it false, ty, pos, af, gu⟩ de held r nx K tg := by
  intro E w Z T F en h he
  obtain ⟨v1, hv1, hr1⟩ := dv_rs h.roots he hm
  simp only [Rs] at hr1
  obtain ⟨v, F1, F2, h1, h2, h3, h4, h5⟩ := h.roots.get hg
  rw [hr1] at h1
  cases h1
  simp only [Ro] at h2
  obtain ⟨rb, b, us, es, clock, since, last, seen, G, rfl, g2, g3, g4, g5, g6, g7, g8, g9, g10, g11, g12, g13⟩ := h2
  refine ⟨by simp [Op.operands, known, hv1], ?_⟩
  have hlen : es.toList.length = ks.length := by rw [← g3.key, List.length_map]
  rcases run_next_at (P := P) w ty rb b since last seen es clock g8 g3.at_ g4 g5 with ⟨hl, hrun⟩ | ⟨e, hel, w1, hw1, hrun⟩
  · refine .inl ⟨.tuple #[.bool false], w, by simp only [execOp, rho, hv1, Option.getD_some, Sem.run_bind, hrun, Result.andThen_ok, Sem.run_pure], _, _, _, _, _, _, h, Grow.refl _ _ _ _ _, ?_, k0 fun j hj => ?_⟩
    · simp only [Rs]
      exact ⟨[.bool false], rfl, by simp only [RsL]; exact ⟨_, _, rfl, by simp only [Rs], rfl⟩⟩
    · have hje : es.toList[j]? = some es.toList[j] := List.getElem?_eq_getElem (by omega)
      refine (seen_mem g3 g10 hje).1 ?_
      rw [← g9]
      have hno : es.toList[j] ∉ (leftOf es seen).toList := by
        intro hc
        have : (leftOf es seen).toList.length = 0 := by rw [Array.length_toList]; exact hl
        rw [List.eq_nil_of_length_eq_zero this] at hc
        cases hc
      unfold leftOf at hno
      simp only [Array.toList_filter, List.mem_filter, not_and] at hno
      have := hno (List.getElem_mem _)
      simpa using this
  · have hmem : e ∈ es.toList ∧ e.born ∉ seen.toList := by
      unfold leftOf at hel
      simp only [Array.toList_filter, List.mem_filter] at hel
      exact ⟨hel.1, by simpa using hel.2⟩
    obtain ⟨j, hj, hk, hu⟩ := entry_at g3 hmem.1
    have hjS : j ∉ S := fun hc => hmem.2 (by rw [g9]; exact (seen_mem g3 g10 hj).2 hc)
    have fin : ∀ w0, w0 = w ∨ w0 = w.drew → ∃ F', Ok E (setBlock w0 rb (.mapIter (some b) since (seen.push e.born) clock)) Z T F' (rset r ni (.abs (ItA im ks l (S ++ [j])))) nx ∧ Grow r w Z T (setBlock w0 rb (.mapIter (some b) since (seen.push e.born) clock)) Z T held := fun w0 hw0 => by
      rcases hw0 with rfl | rfl
      · exact it_step h hg hh hr1 g3 g8 hj
      · obtain ⟨F', o1, o2⟩ := it_step (held := held) (h.drew) hg hh hr1 (w := w.drew) ⟨g3.at_, g3.key, g3.val, g3.nodup, g3.born, g3.old⟩ g8 hj
        exact ⟨F', o1, ⟨o2.zs, o2.zz, o2.tt, o2.hd⟩⟩
    obtain ⟨F', o1, o2⟩ := fin w1 hw1
    refine .inl ⟨.tuple #[.bool true, e.key, e.val], _, by simp only [execOp, rho, hv1, Option.getD_some, Sem.run_bind, hrun, Result.andThen_ok, Sem.run_pure], _, _, _, _, _, _, o1, o2, ?_, k1 j e.key hk hjS⟩
    simp only [Rs]
    exact ⟨[.bool true, e.key, e.val], rfl, by simp only [RsL]; exact ⟨_, _, rfl, by simp only [Rs], _, _, rfl, by simp only [Rs], _, _, rfl, by simp only [Rs], rfl⟩⟩
/-- the round's entry: its key, its value, or the tree that it is -/
theorem dentry_box {it : Operand} {dst : Option Nat} {ty : TypeId} {pos : String} {af : Array Edge} {gu} {tg : TagF K} {ni im j : Nat} {ks : List Value} {l : List D} {S : List Nat} {key : Value} {eb : TypeId} {lc : List D}
    (hm : dv de r it = some (.h ni)) (hg : rget r ni = some (.abs (ItA im ks l (S ++ [j])))) (hj : ks[j]? = some key) (hd : l[j]? = some (.box eb lc))
    (k : K (.tup [.sc key, .hp nx 0]) ((nx, .box eb lc) :: rset r ni (.abs (ItA im ks (l.set j (.hp nx 0)) (S ++ [j])))) (nx + 1)) :
    DGen P ⟨dst, .entry it, ty, pos, af, gu⟩ de held r nx K tg := by
  intro E w Z T F en h he
  obtain ⟨v1, hv1, hr1⟩ := dv_rs h.roots he hm
  simp only [Rs] at hr1
  obtain ⟨v, F1, F2, h1, h2, h3, h4, h5⟩ := h.roots.get hg
  rw [hr1] at h1
  cases h1
  simp only [Ro] at h2
  obtain ⟨rb, b, us, es, clock, since, last, seen, G, rfl, g2, g3, g4, g5, g6, g7, g8, g9, g10, g11, g12, g13⟩ := h2
  obtain rfl : last = clock := g6 (by simp)
  have hlen : es.toList.length = ks.length := by rw [← g3.key, List.length_map]
  have hjl := (List.getElem?_eq_some_iff.1 hj).1
  have hje : es.toList[j]? = some (es.toList[j]'(by omega)) := List.getElem?_eq_getElem (by omega)
  generalize (es.toList[j]'(by omega)) = e0 at hje
  have hkey : e0.key = key := by
    have : ks[j]? = some e0.key := by rw [← g3.key, List.getElem?_map, hje]; rfl
    rw [hj] at this; exact (Option.some.inj this).symm
  have huj : us[j]? = some e0.val := by rw [← g3.val, List.getElem?_map, hje]; rfl
  have hseen : seen = ((S.map fun j => ((es.toList[j]?).map (·.born)).getD 0).toArray).push e0.born := by
    apply Array.toList_inj.1
    rw [g9, List.map_append, List.map_cons, List.map_nil, hje, Array.toList_push]
    rfl
  have hrun := run_entry_at (P := P) w rb b since _ es last e0 (by rw [← hseen]; exact g8) g3.at_ (List.mem_of_getElem? hje) g3.born
  have hT := tset_ext (v := e0.val) (h.t nx (Nat.le_refl _))
  have g7' : RoL w Z (tset T nx e0.val) l us G := RoL.keep (fun _ h => h) hT l us G (fun _ _ => rfl) g7
  obtain ⟨u, Fa, Fb, q1, q2, q3, q4⟩ := g7'.get hd
  rw [huj] at q1
  cases q1
  have hone := tree_cell q2 (.inl ⟨_, _, rfl⟩)
  have hrs : Rs w Z (tset T nx e0.val) (.hp nx 0) e0.val := by
    simp only [Ro] at q2
    obtain ⟨b2, us2, F2', q5, _⟩ := q2
    simp only [Rs]
    exact ⟨_, b2, tset_same _ _ _, by rw [q5]; rfl, q5⟩
  have hro : Ro w Z (tset T nx e0.val) (.abs (ItA im ks (l.set j (.hp nx 0)) (S ++ [j]))) (.pointer (some ⟨rb, 0, none⟩)) (fun c => ((0 + Fb c) + own (.map (some b)) c) + own (.pointer (some ⟨rb, 0, none⟩)) c) := by
    simp only [Ro]
    have hh := q4 (.hp nx 0) e0.val (fun _ => 0) (Ro.of hrs)
    rw [set_same huj] at hh
    exact ⟨rb, b, us, es, last, since, last, seen, fun c => 0 + Fb c, rfl, hT _ _ g2, g3, g4, g5, fun _ => rfl, hh, g8, g9, g10, g11, g12, fun c => rfl⟩
  have hr' : RL w Z (tset T nx e0.val) r F := h.roots.keep (fun _ h => h) hT (fun _ _ => rfl)
  have hrl := h5 w Z (tset T nx e0.val) _ _ _ (fun _ _ => rfl) (fun _ h => h) hT (hT _ _ hr1) hro
  obtain ⟨o1, o2⟩ := h.name (held := held) hone (fun _ => rfl) (r' := (nx, .box eb lc) :: rset r ni (.abs (ItA im ks (l.set j (.hp nx 0)) (S ++ [j])))) ⟨e0.val, Fa, _, tset_same _ _ _, q2, hrl, fun c => by
    have := h3 c; have := g13 c; have := q3 c
    show F c = Fa c + (0 + Fb c + own (.map (some b)) c + own _ c + F2 c)
    omega⟩
  refine ⟨by simp [Op.operands, known, hv1], ?_⟩
  refine .inl ⟨.tuple #[e0.key, e0.val], w, by simp only [execOp, rho, hv1, Option.getD_some, Sem.run_bind, hrun, Result.andThen_ok, Sem.run_pure], _, _, _, _, _, _, o1, o2, ?_, k⟩
  simp only [Rs] at hrs ⊢
  exact ⟨[e0.key, e0.val], rfl, by simp only [RsL]; exact ⟨_, _, rfl, by simp only [Rs]; exact hkey, _, _, rfl, by simp only [Rs]; exact hrs, rfl⟩⟩
/-- the entry's tree stands again in its place -/
theorem RT.itfold (i ni im j : Nat) {ks : List Value} {l : List D} {S : List Nat} {d : D} (hi : rget r i = some d) (hne : i ≠ ni) (hp : rget r ni = some (.abs (ItA im ks l S))) (hl : l[j]? = some (refOf i d)) :
    RT r (rset (rdel r i) ni (.abs (ItA im ks (l.set j d) S))) := fun E w Z T F nx h => by
  obtain ⟨v, F1, F2, h1, h2, h3, h4, _⟩ := h.roots.get hi
  have hp2 : rget (rdel r i) ni = some (.abs (ItA im ks l S)) := by rw [rget_rdel hne]; exact hp
  obtain ⟨u, G1, G2, g1, g2, g3, g4, g5⟩ := h4.get hp2
  simp only [Ro] at g2
  obtain ⟨rb, b, us, es, clock, since, last, seen, G, rfl, k2, k3, k4, k5, k6, k7, k8, k9, k10, k11, k12, k13⟩ := g2
  obtain ⟨x, X1, X2, x1, x2, x3, x4⟩ := k7.get hl
  obtain ⟨x5, x6⟩ := x2.rs (refOf_plain i d)
  have hx : x = v := ref_val h2 h1 x5
  subst hx
  have hset : us.set j x = us := by
    obtain ⟨hlt, he⟩ := List.getElem?_eq_some_iff.1 x1
    rw [← he]
    exact List.set_getElem_self hlt
  have hh := x4 d x F1 h2
  rw [hset] at hh
  have hro : Ro w Z T (.abs (ItA im ks (l.set j d) S)) (.pointer (some ⟨rb, 0, none⟩)) (fun c => ((F1 c + X2 c) + own (.map (some b)) c) + own (.pointer (some ⟨rb, 0, none⟩)) c) := by
    simp only [Ro]
    exact ⟨rb, b, us, es, clock, since, last, seen, _, rfl, k2, k3, k4, k5, k6, hh, k8, k9, k10, k11, k12, fun c => rfl⟩
  have hrl := g5 w Z T _ _ _ (fun _ _ => rfl) (fun _ h => h) (fun _ _ h => h) g1 hro
  refine ⟨Z, F, h.swapR (fun _ h => h) (fun b hb => .inl hb) (fun b => Nat.le_refl _) (fun b hb => (h.zlt b hb).2) (hrl.cast fun c => ?_), fun _ h => h⟩
  show F c = F1 c + X2 c + own (.map (some b)) c + own _ c + G2 c
  have := h3 c; have := g3 c; have := k13 c; have := x3 c; have := x6 c
  omega
/-- the map alone again -/
theorem RT.itdone (ni im : Nat) {ks : List Value} {l : List D} {S : List Nat} (hg : rget r ni = some (.abs (ItA im ks l S))) : RT r ((im, .mp ks l) :: rdel r ni) := fun E w Z T F nx h => by
  obtain ⟨v, F1, F2, h1, h2, h3, h4, _⟩ := h.roots.get hg
  simp only [Ro] at h2
  obtain ⟨rb, b, us, es, clock, since, last, seen, G, rfl, k2, k3, k4, k5, k6, k7, k8, k9, k10, k11, k12, k13⟩ := h2
  have hro : Ro w Z T (.mp ks l) (.map (some b)) (fun c => G c + own (.map (some b)) c) := by
    simp only [Ro]
    exact ⟨b, us, G, rfl, ⟨es, clock, k3⟩, k7, fun c => rfl⟩
  refine ⟨Z, fun c => (G c + own (.map (some b)) c) + F2 c, h.swapR (fun _ h => h) (fun b hb => .inl hb) (fun c => ?_) (fun c hc => ?_) ⟨_, _, F2, k2, hro, h4, fun c => rfl⟩, fun _ h => h⟩
  · have := h3 c; have := k13 c
    show G c + own (.map (some b)) c + F2 c ≤ F c
    omega
  · have := (h.zlt c hc).2; have := h3 c; have := k13 c
    show G c + own (.map (some b)) c + F2 c = 0
    omega
end
end Go.Sl
end
section
/- The walk over data: what is owned, lent for a call that only reads it. -/
set_option linter.unusedVariables false
set_option linter.unusedSimpArgs false
namespace Go.Sl
open Go.RowKit
section
variable {E : En} {w w' : World} {Z Z' : Nat → Prop} {T T' : Nat → Option Value} {F : Nat → Nat} {r : Roots} {nx : Nat}
variable {P : Program} {held : List Nat} {e e' : Env} {de : DEnv} {K : D → Roots → Nat → Prop}
/-- nothing frozen in it -/
def NoZ (t : D) : Prop := ∀ (w : World) (Z Z' : Nat → Prop) (T : Nat → Option Value) (v : Value) (F : Nat → Nat), Ro w Z T t v F → Ro w Z' T t v F
def NoZs (d : D) : Prop := ∀ (w : World) (Z Z' : Nat → Prop) (T : Nat → Option Value) (v : Value), Rs w Z T d v → Rs w Z' T d v
def isSc : D → Prop
  | .sc _ => True
  | _ => False
theorem noZ_list : ∀ {l : List D}, (∀ d ∈ l, isSc d) → ∀ (w : World) (Z Z' : Nat → Prop) (T : Nat → Option Value) (us : List Value) (F : Nat → Nat), RoL w Z T l us F → RoL w Z' T l us F
  | [], _, w, Z, Z', T, us, F, h => by simp only [RoL] at h ⊢; exact h
  | d :: l, hl, w, Z, Z', T, us, F, h => by
    simp only [RoL] at h ⊢
    obtain ⟨u, us', F1, F2, rfl, h1, h2, h3⟩ := h
    refine ⟨u, us', F1, F2, rfl, ?_, noZ_list (fun d hd => hl d (by simp [hd])) w Z Z' T us' F2 h2, h3⟩
    have := hl d (by simp)
    cases d <;> simp only [isSc] at this
    simp only [Ro, Rs] at h1 ⊢
    exact h1
theorem noZ_row {e s n : Nat} {l : List D} (h : ∀ d ∈ l, isSc d) : NoZ (.row e s n l) := fun w Z Z' T v F hr => by
  simp only [Ro] at hr ⊢
  obtain ⟨us, F', h1, h2, h3⟩ := hr
  exact ⟨us, F', h1, noZ_list h w Z Z' T us F' h2, h3⟩
theorem noZs_h (i : Nat) : NoZs (.h i) := fun w Z Z' T v h => by simp only [Rs] at h ⊢; exact h
theorem noZs_sc (v : Value) : NoZs (.sc v) := fun w Z Z' T u h => by simp only [Rs] at h ⊢; exact h
/-- the rest stays as it is -/
theorem RT.cons (p : Nat × D) {r' : Roots} (h : RT r r') : RT (p :: r) (p :: r') := fun E w Z T F nx ok => by
  obtain ⟨v, F1, F2, h1, h2, h3, h4⟩ := ok.roots
  have hok : Ok ⟨w, Z, T, F2, nx⟩ w Z T F2 r nx := ⟨Fr.refl _ _, fun _ h => h, fun _ _ h => .inl h, fun _ _ => Nat.le_refl _, fun _ _ h => h, fun b => by have := ok.one b; have := h4 b; omega, fun b hb => ok.lt b (by have := h4 b; omega), fun b hb => ⟨(ok.zlt b hb).1, by have := (ok.zlt b hb).2; have := h4 b; omega⟩, ok.t, ok.cell, Nat.le_refl _, h3⟩
  obtain ⟨Z', F', o, z⟩ := h _ _ _ _ _ _ hok
  have hs := ok.fr.size
  have hF : ∀ b, F' b ≤ F2 b := fun b => by
    rcases Nat.eq_zero_or_pos (F' b) with h0 | h0
    · omega
    · exact o.fo b (o.lt b h0)
  have hz : ∀ b, Z' b → F1 b = 0 := fun b hb => by
    rcases o.zo b (o.zlt b hb).1 hb with k | k
    · have := (ok.zlt b k).2; have := h4 b; omega
    · have := ok.one b; have := h4 b; dsimp only at k; omega
  refine ⟨Z', fun b => F1 b + F' b, ⟨ok.fr, fun b hb => z b (ok.z b hb), fun b hb hz' => ?_, fun b hb => ?_, ok.names, fun b => ?_, fun b hb => ?_, fun b hb => ⟨(o.zlt b hb).1, ?_⟩, ok.t, ok.cell, ok.ge, ⟨v, F1, F', h1, Ro.keep z (fun _ _ h => h) _ _ _ (fun _ _ => rfl) h2, o.roots, fun _ => rfl⟩⟩, z⟩
  · rcases o.zo b (o.zlt b hz').1 hz' with k | k
    · exact ok.zo b hb k
    · have := ok.fo b hb; have := h4 b; dsimp only at k; exact .inr (by omega)
  · have := ok.fo b hb; have := h4 b; have := hF b; omega
  · have := ok.one b; have := h4 b; have := hF b; omega
  · exact ok.lt b (by have := h4 b; have := hF b; (try dsimp only at hb); omega)
  · have := (o.zlt b hb).2; have := hz b hb; omega
/-- an answer of its own memory, out of what is owned and only read -/
theorem dnew_lend {r1 : Roots} {f : FuncId} {ds : List D} {g : Nat → D} {t : D} {tg : TagF K} (h : RT r r1) (hc : DNew P f (ds.map (dres r1)) g t) (ht : NoZ t) (hgz : ∀ i, NoZs (g i))
    (k : ∀ i nx', nx ≤ i → i < nx' → K (g i) ((i, t) :: r) nx') : DCall P f ds held r nx K tg := by
  intro E w Z T F vs ok hrs
  obtain ⟨Z1, F1, o1, z1⟩ := h E w Z T F nx ok
  have hrs1 : RsL w Z1 T (ds.map (dres r1)) vs := RsL.res o1.roots (RsL.keep (fun _ _ => rfl) z1 (fun _ _ h => h) _ _ hrs)
  have hok : Ok ⟨w, Z1, T, fun _ => 0, nx⟩ w Z1 T (fun _ => 0) [] nx := ⟨Fr.refl _ _, fun _ h => h, fun _ _ h => .inl h, fun _ _ => Nat.le_refl _, fun _ _ h => h, fun b => by simp, fun b hb => by simp at hb, fun b hb => ⟨(o1.zlt b hb).1, rfl⟩, o1.t, o1.cell, Nat.le_refl _, fun _ => rfl⟩
  refine (hc nx w Z1 T _ vs hok hrs1).mono fun en w' ⟨v, hv, d, r', nx', Z', T', F', p1, p2, i, q1, q2, q3, q4⟩ => ?_
  subst q3; subst q4
  have hsz := p1.fr.size
  have hsame : ∀ b, b < w.heap.size → w'.heap[b]? = w.heap[b]? := fun b hb => p1.fr.same b hb (by simp)
  have hF0 : ∀ b, b < w.heap.size → F' b = 0 := fun b hb => by have := p1.fo b hb; dsimp only at this; omega
  obtain ⟨v0, G1, G2, t1, t2, t3, t4⟩ := p1.roots
  have hG2 : ∀ b, G2 b = 0 := t3
  refine ⟨v, hv, g i, (i, t) :: r, nx', Z, T', fun b => F' b + F b, ?_, ?_, hgz i _ _ _ _ _ p2, k i nx' q1 q2⟩
  · refine ⟨ok.fr.step p1.fr (fun b hb hM => by simp at hM), ok.z, ok.zo, fun b hb => ?_, fun i u hu => p1.names i u (ok.names i u hu), fun b => ?_, fun b hb => ?_, fun b hb => ?_, p1.t, p1.cell, Nat.le_trans ok.ge p1.ge, ?_⟩
    · have := ok.fr.size
      have := hF0 b (by omega)
      have := ok.fo b hb
      omega
    · by_cases hb : b < w.heap.size
      · have := hF0 b hb; have := ok.one b; omega
      · have : F b = 0 := by
          rcases Nat.eq_zero_or_pos (F b) with h | h
          · exact h
          · exact absurd (ok.lt b h) hb
        have := p1.one b; omega
    · by_cases h0 : 0 < F' b
      · exact p1.lt b h0
      · have := ok.lt b (by omega); dsimp only at hsz; omega
    · have h1 := ok.zlt b hb
      have := hF0 b h1.1
      dsimp only at hsz
      exact ⟨by omega, by omega⟩
    · exact ⟨v0, G1, F, t1, ht _ _ _ _ _ _ t2, ok.roots.keep (fun _ h => h) p1.names (fun b hb => hsame b (by
        rcases hb with hb | hb
        · exact ok.lt b hb
        · exact (ok.zlt b hb).1)), fun b => by have := t4 b; have := hG2 b; show F' b + F b = G1 b + F b; omega⟩
  · refine ⟨fun b hb => hsame b (ok.zlt b hb).1, fun _ h => h, p1.names, fun j hj ho u b hu hbk => ?_⟩
    obtain ⟨d', H1, H2, _, _, g3, g4, _⟩ := held_foot ok.roots ho hu hbk
    have := g3 b
    exact hsame b (ok.lt b (by omega))
end
end Go.Sl
end
section
/- The walk over data: a box lent for a call that reads it, beside what the call turns. -/
set_option linter.unusedVariables false
set_option linter.unusedSimpArgs false
namespace Go.Sl
open Go.RowKit
section
variable {E : En} {w w' : World} {Z Z' : Nat → Prop} {T T' : Nat → Option Value} {F : Nat → Nat} {r : Roots} {nx : Nat}
variable {P : Program} {held : List Nat} {e e' : Env} {de : DEnv} {K : D → Roots → Nat → Prop}
theorem noZ_roots : ∀ {r : Roots} {G : Nat → Nat}, (∀ p ∈ r, NoZ p.2) → RL w Z T r G → RL w Z' T r G
  | [], G, h, hr => hr
  | p :: r, G, h, ⟨v, F1, F2, h1, h2, h3, h4⟩ => ⟨v, F1, F2, h1, h p (by simp) _ _ _ _ _ _ h2, noZ_roots (fun q hq => h q (by simp [hq])) h3, h4⟩
theorem dcall_lend (i : Nat) {eb : TypeId} {l : List D} {f : FuncId} {ds : List D} {tg : TagF K} (hg : rget r i = some (.box eb l)) (hp : ∀ x ∈ l, x.plain)
    (hc : DCalls P f ds (rset r i (.fbx l)) nx (fun d ro nx' => rget ro i = some (.fbx l) ∧ (∀ p ∈ rdel ro i, NoZ p.2) ∧ NoZs d ∧ K d ((i, .box eb l) :: rdel ro i) nx')) (hh : ∀ j ∈ held, j = i) : DCall P f ds held r nx K tg := by
  intro E w Z T F vs ok hrs
  obtain ⟨v, F1, F2, h1, h2, h3, h4, h5⟩ := ok.roots.get hg
  simp only [Ro] at h2
  obtain ⟨b, us, F0, rfl, hb, hl, hF1⟩ := h2
  obtain ⟨hrl, hF0⟩ := RoL.rs hp hl
  have hob : own (.pointer (some ⟨b, 0, none⟩)) b = 1 := by simp [own, blk]
  have hbF : 0 < F b := by rw [h3, hF1]; omega
  have hblt := ok.lt b hbF
  have hF2b : F2 b = 0 := by have := ok.one b; have := h3 b; have := hF1 b; omega
  have hF2 : ∀ x, F2 x ≤ F x := fun x => by have := h3 x; omega
  have hz1 : ∀ x, Z x → (fun x => Z x ∨ x = b) x := fun x hx => .inl hx
  have hro : Ro w (fun x => Z x ∨ x = b) T (.fbx l) (.pointer (some ⟨b, 0, none⟩)) (fun _ => 0) := by
    simp only [Ro]
    exact ⟨⟨b, rfl, box_fz hb (RsL.keep (fun _ _ => rfl) hz1 (fun _ _ h => h) _ _ hrl) (.inr rfl)⟩, fun _ => trivial⟩
  have hrl1 := h5 w (fun x => Z x ∨ x = b) T (.fbx l) _ _ (fun _ _ => rfl) hz1 (fun _ _ h => h) h1 hro
  have hok : Ok ⟨w, fun x => Z x ∨ x = b, T, F2, nx⟩ w (fun x => Z x ∨ x = b) T F2 (rset r i (.fbx l)) nx := ⟨Fr.refl _ _, fun _ h => h, fun _ _ h => .inl h, fun _ _ => Nat.le_refl _, fun _ _ h => h, fun x => Nat.le_trans (hF2 x) (ok.one x), fun x hx => ok.lt x (Nat.lt_of_lt_of_le hx (hF2 x)), fun x hx => by
    rcases hx with hx | hx
    · exact ⟨(ok.zlt x hx).1, by have := (ok.zlt x hx).2; have := hF2 x; omega⟩
    · subst hx; exact ⟨hblt, hF2b⟩, ok.t, ok.cell, Nat.le_refl _, hrl1.cast fun x => by simp⟩
  refine (hc w _ T F2 vs hok (RsL.keep (fun _ _ => rfl) hz1 (fun _ _ h => h) _ _ hrs)).mono fun en w' ⟨v', hv', d, ro, nx', Z', T', F', p, q, g1, g2, g3, g4⟩ => ?_
  have hsz := p.fr.size
  dsimp only at hsz
  have hsame : ∀ x, x < w.heap.size → F2 x = 0 → w'.heap[x]? = w.heap[x]? := fun x hx h0 => p.fr.same x hx (by dsimp only; omega)
  obtain ⟨v0, G1, G2, t1, t2, t3, t4, _⟩ := p.roots.get g1
  have hG : ∀ x, x < w.heap.size → G2 x ≤ F2 x := fun x hx => by have := p.fo x hx; have := t3 x; dsimp only at *; omega
  have hG1 : ∀ x, G2 x ≤ 1 := fun x => by have := p.one x; have := t3 x; omega
  have hGl : ∀ x, 0 < G2 x → x < w'.heap.size := fun x hx => p.lt x (by have := t3 x; omega)
  have hob0 : ∀ x, x ≠ b → own (.pointer (some ⟨b, 0, none⟩)) x = 0 := fun x hx => by simp [own, blk, Ne.symm hx]
  have hzb : ∀ x, Z x → F2 x = 0 ∧ x < w.heap.size ∧ x ≠ b := fun x hx => by
    have hq := ok.zlt x hx; have := hF2 x
    exact ⟨by omega, hq.1, fun e => by subst e; omega⟩
  have hRo : Ro w' Z T' (.box eb l) (.pointer (some ⟨b, 0, none⟩)) (own (.pointer (some ⟨b, 0, none⟩))) := by
    simp only [Ro]
    exact ⟨b, us, fun _ => 0, rfl, (hsame b hblt hF2b).trans hb, RoL.of (RsL.keep (fun x hx => hsame x (hzb x hx).2.1 (hzb x hx).1) (fun _ h => h) p.names _ _ hrl), fun x => by simp⟩
  refine ⟨v', hv', d, (i, .box eb l) :: rdel ro i, nx', Z, T', fun x => own (.pointer (some ⟨b, 0, none⟩)) x + G2 x, ?_, ?_, g3 _ _ _ _ _ q, g4⟩
  · have hle : ∀ x, x < w.heap.size → own (.pointer (some ⟨b, 0, none⟩)) x + G2 x ≤ F x := fun x hx => by have := hG x hx; have := h3 x; have := hF1 x; omega
    refine ⟨ok.fr.step p.fr (fun x hx hM => ?_), ok.z, ok.zo, fun x hx => ?_, fun j u hu => p.names j u (ok.names j u hu), fun x => ?_, fun x hx => ?_, fun x hx => ?_, p.t, p.cell, Nat.le_trans ok.ge p.ge, ⟨_, _, G2, p.names _ _ h1, hRo, noZ_roots g2 t4, fun x => rfl⟩⟩
    · have := ok.fo x hx; have := hF2 x; dsimp only at hM; show 0 < E.F x; omega
    · have hs := ok.fr.size
      exact Nat.le_trans (hle x (by omega)) (ok.fo x hx)
    · by_cases hx : x < w.heap.size
      · exact Nat.le_trans (hle x hx) (ok.one x)
      · rw [hob0 x (fun e => hx (by rw [e]; exact hblt))]; have := hG1 x; omega
    · by_cases hxb : x = b
      · subst hxb; omega
      · rw [hob0 x hxb] at hx; exact hGl x (by omega)
    · obtain ⟨z1, z2, z3⟩ := hzb x hx
      refine ⟨by omega, ?_⟩
      have := hG x z2
      have := hob0 x z3
      omega
  · refine ⟨fun x hx => hsame x (hzb x hx).2.1 (hzb x hx).1, fun _ h => h, p.names, fun j hj ho u bu hu hbk => ?_⟩
    rw [hh j hj, h1] at hu
    cases hu
    simp only [blk, Option.some.injEq] at hbk
    subst hbk
    exact hsame b hblt hF2b
theorem rget_rset_at {i : Nat} {d c : D} : ∀ {r : Roots}, rget r i = some c → rget (rset r i d) i = some d
  | [], h => by simp [rget] at h
  | p :: r, h => by
    simp only [rget] at h
    simp only [rset]
    by_cases hp : p.1 = i
    · simp [hp, rget]
    · rw [if_neg hp] at h
      rw [if_neg hp]
      simp only [rget, if_neg hp]
      exact rget_rset_at h
/-- ahead of a call: a map that stands in a box, as a root of its own -/
theorem dcall_take (i off : Nat) {eb : TypeId} {l lm : List D} {ks : List Value} {f : FuncId} {ds : List D} {t t' : TagF K} (hg : rget r i = some (.box eb l)) (hx : l[off]? = some (.mp ks lm)) (hh : ∀ j ∈ held, j = i)
    (k : DCall P f ds held ((nx, .mp ks lm) :: rset r i (.box eb (l.set off (.h nx)))) (nx + 1) K t') : DCall P f ds held r nx K t := by
  intro E w Z T F vs ok hrs
  obtain ⟨v, b, u, Fx, a1, a2, a3, a4, _⟩ := own_cell (nx := nx) (Cont.box eb) ok.roots hg hx
  have hT := tset_ext (v := u) (ok.t nx (Nat.le_refl _))
  have hone := tree_cell a4 (.inr (.inr ⟨_, _, rfl⟩))
  have hr' : RL w Z (tset T nx u) r F := ok.roots.keep (fun _ h => h) hT (fun _ _ => rfl)
  obtain ⟨v', b', u', Fx', c1, c2, c3, c4, c5⟩ := own_cell (nx := nx) (Cont.box eb) hr' hg hx
  rw [hT i _ a1] at c1
  cases c1
  rw [a2] at c2
  cases c2
  rw [a3] at c3
  cases c3
  have hne : nx ≠ i := fun e => by subst e; rw [ok.t nx (Nat.le_refl _)] at a1; cases a1
  obtain ⟨o1, o2⟩ := ok.name (held := held) hone (fun _ => rfl) (c5 (.h nx) (by simp only [Rs]; exact tset_same _ _ _) (tset_same _ _ _))
  refine (k E w Z _ F vs o1 (RsL.keep (fun _ _ => rfl) (fun _ h => h) hT _ _ hrs)).mono fun en w' ⟨v2, hv2, d, r', nx', Z', T', F', p1, p2, p3⟩ => ⟨v2, hv2, d, r', nx', Z', T', F', p1, o2.trans p2 fun j hj ho => .inl ?_, p3⟩
  rw [hh j hj]
  unfold heldOk
  rw [rget_there hne, rget_rset_at hg]
  trivial
theorem noZ_listN : ∀ {l : List D}, (∀ d ∈ l, NoZ d) → ∀ (w : World) (Z Z' : Nat → Prop) (T : Nat → Option Value) (us : List Value) (F : Nat → Nat), RoL w Z T l us F → RoL w Z' T l us F
  | [], _, w, Z, Z', T, us, F, h => by simp only [RoL] at h ⊢; exact h
  | d :: l, hl, w, Z, Z', T, us, F, h => by
    simp only [RoL] at h ⊢
    obtain ⟨u, us', F1, F2, rfl, h1, h2, h3⟩ := h
    exact ⟨u, us', F1, F2, rfl, hl d (by simp) w Z Z' T u F1 h1, noZ_listN (fun d hd => hl d (by simp [hd])) w Z Z' T us' F2 h2, h3⟩
theorem noZ_sc (v : Value) : NoZ (.sc v) := fun w Z Z' T u F h => by simp only [Ro, Rs] at h ⊢; exact h
theorem noZ_box {e : TypeId} {l : List D} (h : ∀ d ∈ l, NoZ d) : NoZ (.box e l) := fun w Z Z' T v F hr => by
  simp only [Ro] at hr ⊢
  obtain ⟨b, us, F', h0, h1, h2, h3⟩ := hr
  exact ⟨b, us, F', h0, h1, noZ_listN h w Z Z' T us F' h2, h3⟩
theorem noZ_mp {ks : List Value} {l : List D} (h : ∀ d ∈ l, NoZ d) : NoZ (.mp ks l) := fun w Z Z' T v F hr => by
  simp only [Ro] at hr ⊢
  obtain ⟨b, us, F', h0, h1, h2, h3⟩ := hr
  exact ⟨b, us, F', h0, h1, noZ_listN h w Z Z' T us F' h2, h3⟩
end
end Go.Sl
end
section
/- The walk over data: the keys of a map that is owned, sorted: slices.Sorted of maps.Keys, as the kit's contract has it. -/
set_option linter.unusedVariables false
set_option linter.unusedSimpArgs false
namespace Go.Sl
open Go.RowKit Go.Proofs
open Go.WideElems (rd rg Fit)
section
variable {E : En} {w w' : World} {Z Z' : Nat → Prop} {T T' : Nat → Option Value} {F : Nat → Nat} {r : Roots} {nx : Nat}
variable {P : Program} {held : List Nat} {e e' : Env} {de : DEnv} {K : D → Roots → Nat → Prop}
/-- a new tree, a new name; all that there was is as it was -/
theorem Ok.newtree (h : Ok E w Z T F r nx) {v : Value} {d : D} {G : Nat → Nat} (hf : Fr No w w') (h1 : v.oneCell' = true) (hd : Ro w' Z (tset T nx v) d v G)
    (hG : ∀ b, G b ≤ 1 ∧ (0 < G b → w.heap.size ≤ b ∧ b < w'.heap.size)) (held : List Nat) : Ok E w' Z (tset T nx v) (fun b => G b + F b) ((nx, d) :: r) (nx + 1) ∧ Grow r w Z T w' Z (tset T nx v) held := by
  have hG0 : ∀ b, b < w.heap.size → G b = 0 := fun b hb => by
    rcases Nat.eq_zero_or_pos (G b) with h0 | h0
    · exact h0
    · have := ((hG b).2 h0).1; omega
  have hF0 : ∀ b, w.heap.size ≤ b → F b = 0 := fun b hb => by
    rcases Nat.eq_zero_or_pos (F b) with h0 | h0
    · exact h0
    · have := h.lt b h0; omega
  have hsame : ∀ b, b < w.heap.size → w'.heap[b]? = w.heap[b]? := fun b hb => hf.same b hb fun h => h
  have hT := tset_ext (v := v) (h.t nx (Nat.le_refl _))
  have hsz := hf.size
  refine ⟨⟨h.fr.then hf, h.z, h.zo, fun b hb => ?_, fun i u hu => hT i u (h.names i u hu), fun b => ?_, fun b hb => ?_, fun b hb => ?_, fun i hi => ?_, fun i u hu => ?_, Nat.le_succ_of_le h.ge, ?_⟩, ⟨fun b hb => hsame b (h.zlt b hb).1, fun b hb => hb, hT, ?_⟩⟩
  · have := h.fo b hb
    have := h.fr.size
    rw [hG0 b (by omega)]
    omega
  · have := h.one b
    have := (hG b).1
    rcases Nat.lt_or_ge b w.heap.size with hb | hb
    · rw [hG0 b hb]; omega
    · rw [hF0 b hb]; omega
  · rcases Nat.lt_or_ge b w.heap.size with hb' | hb'
    · omega
    · rw [hF0 b hb'] at hb; exact ((hG b).2 (by omega)).2
  · have := h.zlt b hb
    refine ⟨by omega, ?_⟩
    rw [hG0 b this.1]
    omega
  · unfold tset
    rw [if_neg (by omega)]
    exact h.t i (by omega)
  · unfold tset at hu
    by_cases e : i = nx
    · rw [if_pos e] at hu; cases hu; exact h1
    · rw [if_neg e] at hu; exact h.cell i u hu
  · exact ⟨v, G, F, tset_same _ _ _, hd, h.roots.keep (fun _ h => h) hT fun b hb => hsame b (by
      rcases hb with hb | hb
      · exact h.lt b hb
      · exact (h.zlt b hb).1), fun b => rfl⟩
  · intro i hi ho u b hu hbk
    obtain ⟨d', F1, F2, _, _, h3, h4, _⟩ := held_foot h.roots ho hu hbk
    exact hsame b (h.lt b (by rw [h3]; omega))
/-- a call that only reads, and answers one new tree -/
theorem dcall_low {f : FuncId} {ds : List D} {t : D} {tg : TagF K} (h : ∀ (w : World) (Z : Nat → Prop) (T : Nat → Option Value) (F : Nat → Nat) (vs : List Value), (∀ b, 0 < F b → b < w.heap.size) → RL w Z T r F → RsL w Z T ds vs →
    Calls P f vs.toArray w fun en w' => ∃ v, en = .returned v ∧ (Fr No w w' ∧ v.oneCell' = true ∧ ∀ T', ∃ G, Ro w' Z T' t v G ∧ ∀ b, G b ≤ 1 ∧ (0 < G b → w.heap.size ≤ b ∧ b < w'.heap.size)))
    (k : K (.h nx) ((nx, t) :: r) (nx + 1)) : DCall P f ds held r nx K tg := by
  intro E w Z T F vs ok hrs
  refine (h w Z T F vs (fun b hb => ok.lt b hb) ok.roots hrs).mono fun en w' ⟨v, he, hf, hc, hr⟩ => ?_
  obtain ⟨G, g1, g2⟩ := hr (tset T nx v)
  obtain ⟨o1, o2⟩ := ok.newtree hf hc g1 g2 held
  exact ⟨v, he, .h nx, _, nx + 1, Z, tset T nx v, _, o1, o2, by simp only [Rs]; exact tset_same _ _ _, k⟩
/-- a map, read by its keys alone -/
theorem Mp.owns {b : Nat} {ks us : List Value} {es : Array MapEntry} {clock : Nat} {kt : TypeId} (h : Mp w b ks us es clock) (hks : ∀ x ∈ ks, ∃ l, keyOf P kt x = some l) (hn : ks.length ≤ maxLen) :
    w.ownsMap (H := Unit) P kt (fun _ => some (.nil, [])) b ks.length (.map ((es.toList.map (rg P kt fun _ => some (.nil, []))).foldr DataW.insert [])) := by
  have hl : es.size = ks.length := by rw [← h.key]; simp
  refine ⟨es, clock, h.at_, ⟨by omega, ⟨h.old, h.born, by rw [h.key]; exact h.nodup⟩, fun x hx => ?_⟩, Nat.le_of_eq hl, rfl⟩
  obtain ⟨l, hl⟩ := h.keys hks x hx
  exact ⟨(l, .nil), by simp [rd, hl]⟩
theorem own_size {b n : Nat} {ks us : List Value} {es : Array MapEntry} {clock : Nat} {kt : TypeId} (h : Mp w b ks us es clock) : Maps.size (H := Unit) (.map ((es.toList.map (rg P kt fun _ => some (.nil, []))).foldr DataW.insert [])) = ks.length := by
  show ((es.toList.map _).foldr DataW.insert []).length = _
  rw [(WideShapes.sorted_perm _).length_eq, List.length_map, ← h.key, List.length_map]
/-- .. its keys: strings -/
theorem Mp.strKeys {b : Nat} {ns : List (List UInt8)} {us : List Value} {es : Array MapEntry} {clock : Nat} {kt : TypeId} (h : Mp w b (ns.map encStr) us es clock) (hks : ∀ x ∈ ns, keyOf P kt (encStr x) = some (.string x)) :
    (Go.strKeys (H := Unit) (.map ((es.toList.map (rg P kt fun _ => some (.nil, []))).foldr DataW.insert []))).Perm ns := by
  show (((es.toList.map _).foldr DataW.insert []).map _).Perm ns
  refine ((WideShapes.sorted_perm _).map _).trans (List.Perm.of_eq ?_)
  rw [List.map_map]
  have h1 : ∀ e ∈ es.toList, ∃ x, e.key = encStr x ∧ x ∈ ns := fun e he => by
    have : e.key ∈ ns.map encStr := by rw [← h.key]; exact List.mem_map.2 ⟨e, he, rfl⟩
    obtain ⟨x, hx, he'⟩ := List.mem_map.1 this
    exact ⟨x, he'.symm, hx⟩
  have hinj : Function.Injective encStr := fun x y => encStr_inj
  refine (List.map_inj_right (f := encStr) hinj).1 ?_
  rw [← h.key, List.map_map]
  refine List.map_congr_left fun e he => ?_
  obtain ⟨x, hx, hm⟩ := h1 e he
  simp only [Function.comp, rg, rd, hx, hks x hm, Option.map_some, Option.bind_some, Option.getD_some, strOf]
/-- .. its keys: numbers -/
theorem Mp.intKeys {b : Nat} {ns : List Int} {us : List Value} {es : Array MapEntry} {clock : Nat} {kt : TypeId} (h : Mp w b (ns.map encZ) us es clock) (hks : ∀ x ∈ ns, keyOf P kt (encZ x) = some (.int .i64 x)) :
    (Go.intKeys (H := Unit) (.map ((es.toList.map (rg P kt fun _ => some (.nil, []))).foldr DataW.insert []))).Perm ns := by
  show (((es.toList.map _).foldr DataW.insert []).map _).Perm ns
  refine ((WideShapes.sorted_perm _).map _).trans (List.Perm.of_eq ?_)
  rw [List.map_map]
  have h1 : ∀ e ∈ es.toList, ∃ x, e.key = encZ x ∧ x ∈ ns := fun e he => by
    have : e.key ∈ ns.map encZ := by rw [← h.key]; exact List.mem_map.2 ⟨e, he, rfl⟩
    obtain ⟨x, hx, he'⟩ := List.mem_map.1 this
    exact ⟨x, he'.symm, hx⟩
  have hinj : Function.Injective encZ := fun x y => encZ_inj
  refine (List.map_inj_right (f := encZ) hinj).1 ?_
  rw [← h.key, List.map_map]
  refine List.map_congr_left fun e he => ?_
  obtain ⟨x, hx, hm⟩ := h1 e he
  simp only [Function.comp, rg, rd, hx, hks x hm, Option.map_some, Option.bind_some, Option.getD_some, Go.intOf]
end
/-- slices.Sorted of an iterator that maps.Keys handed back: what the kit says of it -/
def SortedS (P : Program) (sf kf : FuncId) (kt : TypeId) : Prop := ∀ (w : World) (Bm b nn : Nat) (D0 : DataW Unit), Bm < w.heap.size → w.cell? ⟨Bm, 0, none⟩ = some (.map (some b)) → w.ownsMap P kt (fun _ => some (.nil, [])) b nn D0 → Maps.size D0 ≤ 1000000 →
  Calls P sf #[.func (.func kf) #[] #[.pointer (some ⟨Bm, 0, none⟩)]] w fun e w' => ∃ (v : Value) (ss : List (List UInt8)), e = .returned v ∧ ss.Perm (strKeys D0) ∧
    w'.ownsRow w.heap.size kt 1 v ss.length ((ss.mergeSort (fun x y => decide (x ≤ y))).map encStr) ∧ Below w.heap.size w w'
def SortedZ (P : Program) (sf kf : FuncId) (kt : TypeId) : Prop := ∀ (w : World) (Bm b nn : Nat) (D0 : DataW Unit), Bm < w.heap.size → w.cell? ⟨Bm, 0, none⟩ = some (.map (some b)) → w.ownsMap P kt (fun _ => some (.nil, [])) b nn D0 → Maps.size D0 ≤ 1000000 →
  Calls P sf #[.func (.func kf) #[] #[.pointer (some ⟨Bm, 0, none⟩)]] w fun e w' => ∃ (v : Value) (ss : List Int), e = .returned v ∧ ss.Perm (intKeys D0) ∧
    w'.ownsRow w.heap.size kt 1 v ss.length ((ss.mergeSort (fun x y => decide (x ≤ y))).map encZ) ∧ Below w.heap.size w w'
section
variable {E : En} {w w' : World} {Z Z' : Nat → Prop} {T T' : Nat → Option Value} {F : Nat → Nat} {r : Roots} {nx : Nat}
variable {P : Program} {held : List Nat} {e e' : Env} {de : DEnv} {K : D → Roots → Nat → Prop}
/-- a row of values that the call has made -/
theorem row_new {base : Nat} {e : TypeId} {v : Value} {n : Nat} {vs : List Value} (h : w'.ownsRow base e 1 v n vs) (Z : Nat → Prop) (T' : Nat → Option Value) (hb : base ≤ w'.heap.size) :
    v.oneCell' = true ∧ ∃ G, Ro w' Z T' (.row e 1 n (vs.map .sc)) v G ∧ ∀ b, G b ≤ 1 ∧ (0 < G b → base ≤ b ∧ b < w'.heap.size) := by
  have ho := Ow.of_row h
  refine ⟨by rcases ho.2 with ⟨rfl, _⟩ | ⟨g, cap, cur, rfl, _⟩ <;> rfl, own v, ?_, fun b => ⟨own_le v b, fun hp => ?_⟩⟩
  · simp only [Ro]
    exact ⟨vs, fun _ => 0, ho, RoL.of (RsL.sc vs), fun b => by simp only [Nat.zero_add]⟩
  · rcases h.2 with ⟨rfl, _⟩ | ⟨g, cap, cur, rfl, hbase, hg, _⟩
    · simp [own, blk] at hp
    · have : g = b := by
        by_cases e : g = b
        · exact e
        · simp [own, blk, e] at hp
      subst this
      exact ⟨hbase, (Array.getElem?_eq_some_iff.1 hg).1⟩
/-- the map behind the iterator's box -/
theorem keys_open {c m : Nat} {tc : TypeId} {ks : List Value} {l : List D} (hr : RL w Z T r F) (hc : rget r c = some (.box tc [.h m])) (hm : rget r m = some (.mp ks l)) {u : Value} (hu : Rs w Z T (.hp c 0) u) (hlt : ∀ b, 0 < F b → b < w.heap.size) :
    ∃ Bm b us es clock, u = .pointer (some ⟨Bm, 0, none⟩) ∧ Bm < w.heap.size ∧ w.cell? ⟨Bm, 0, none⟩ = some (.map (some b)) ∧ Mp w b ks us es clock := by
  obtain ⟨Bm, x, Fx, rfl, hcell, hx⟩ := box_cell (v := undef) hr hc hu
  obtain ⟨hx, _⟩ := hx.rs (by simp only [D.plain])
  simp only [Rs] at hx
  obtain ⟨v, F1, F2, hT, ho, _⟩ := hr.get hm
  rw [hx] at hT
  cases hT
  simp only [Ro] at ho
  obtain ⟨b, us, F', rfl, ⟨es, clock, hmp⟩, _⟩ := ho
  exact ⟨Bm, b, us, es, clock, rfl, cell_block_lt hcell, hcell, hmp⟩
theorem dsortedZ {sf kf : FuncId} {kt : TypeId} (hs : SortedZ P sf kf kt) {c m : Nat} {tc : TypeId} {ns : List Int} {l : List D} {tg : TagF K} (hc : rget r c = some (.box tc [.h m])) (hm : rget r m = some (.mp (ns.map encZ) l)) (hn : ns.length ≤ 1000000)
    (hks : ∀ x ∈ ns, keyOf P kt (encZ x) = some (.int .i64 x)) (k : K (.h nx) ((nx, .row kt 1 ns.length ((ns.mergeSort fun x y => decide (x ≤ y)).map fun s => .sc (encZ s))) :: r) (nx + 1)) : DCall P sf [.fn kf [] [.hp c 0]] held r nx K tg := by
  refine dcall_low (t := .row kt 1 ns.length ((ns.mergeSort fun x y => decide (x ≤ y)).map fun s => .sc (encZ s))) (fun w Z T F vs hlt hr hrs => ?_) k
  obtain ⟨v, rfl, hv⟩ := rsl1 hrs
  simp only [Rs] at hv
  obtain ⟨us, vs, rfl, h1, h2⟩ := hv
  simp only [RsL] at h1
  subst h1
  obtain ⟨u, rfl, hu⟩ := rsl1 h2
  obtain ⟨Bm, b, us, es, clock, rfl, hB, hcell, hmp⟩ := keys_open hr hc hm hu hlt
  have hks' : ∀ x ∈ ns.map encZ, ∃ l, keyOf P kt x = some l := fun x hx => by
    obtain ⟨y, hy, rfl⟩ := List.mem_map.1 hx
    exact ⟨_, hks y hy⟩
  refine (hs w Bm b _ _ hB hcell (hmp.owns hks' (by rw [List.length_map]; simp only [maxLen]; omega)) (by rw [own_size (n := 0) hmp, List.length_map]; exact hn)).mono ?_
  rintro e w' ⟨v, ss, rfl, hp, hrow, hb⟩
  have hp' := hp.trans (hmp.intKeys hks)
  rw [mergeSort_of_perm_i hp', hp'.length_eq] at hrow
  have hbs := hb.size
  obtain ⟨o1, -⟩ := row_new hrow Z T hbs
  refine ⟨v, rfl, Fr.of_below hb, o1, fun T' => ?_⟩
  obtain ⟨-, G, g1, g2⟩ := row_new hrow Z T' hbs
  rw [List.map_map] at g1
  exact ⟨G, g1, g2⟩
end
end Go.Sl
end
section
/- The walk over data: bytes of a constant string: the row is marked, and never written again. -/
set_option linter.unusedVariables false
set_option linter.unusedSimpArgs false
namespace Go.Sl
open Go.RowKit
section
variable {E : En} {w w' : World} {Z Z' : Nat → Prop} {T T' : Nat → Option Value} {F : Nat → Nat} {r : Roots} {nx : Nat}
variable {P : Program} {held : List Nat} {e e' : Env} {de : DEnv} {K : D → Roots → Nat → Prop}
end
end Go.Sl
end
section
/- The walk over data: any trees lent for a call that turns others. -/
set_option linter.unusedVariables false
set_option linter.unusedSimpArgs false
namespace Go.Sl
open Go.RowKit
section
variable {E : En} {w w' : World} {Z Z' : Nat → Prop} {T T' : Nat → Option Value} {F : Nat → Nat} {r : Roots} {nx : Nat}
variable {P : Program} {held : List Nat} {e e' : Env} {de : DEnv} {K : D → Roots → Nat → Prop}
/-- roots, never written again -/
def frzRs : Roots → Roots
  | [] => []
  | p :: a => (p.1, frzR p.2) :: frzRs a
theorem Ro.frzR (hzz : ∀ b, Z b → Z' b) {d : D} {v : Value} {G : Nat → Nat} (ho : frzOk d) (hG : ∀ b, 0 < G b → Z' b) (h : Ro w Z T d v G) : Ro w Z' T (Sl.frzR d) v (fun _ => 0) := by
  have hrs := Ro.frz hzz d v G ho hG h
  unfold Sl.frzR
  split
  · rename_i e l
    simp only [Sl.frz] at hrs
    simp only [Ro] at h ⊢
    simp only [Rs] at hrs
    obtain ⟨b, us, F', rfl, _⟩ := h
    obtain ⟨a, ha, hf⟩ := hrs
    cases ha
    exact ⟨⟨b, rfl, hf⟩, fun _ => trivial⟩
  · exact Ro.of hrs
theorem RL.frzRs (hzz : ∀ b, Z b → Z' b) : ∀ {a : Roots} {G : Nat → Nat}, (∀ p ∈ a, frzOk p.2) → (∀ b, 0 < G b → Z' b) → RL w Z T a G → RL w Z' T (Sl.frzRs a) (fun _ => 0)
  | [], G, ho, hG, h => fun _ => rfl
  | p :: a, G, ho, hG, ⟨v, F1, F2, h1, h2, h3, h4⟩ =>
    ⟨v, _, _, h1, Ro.frzR hzz (ho p (by simp)) (fun b hb => hG b (by rw [h4]; omega)) h2, RL.frzRs hzz (fun q hq => ho q (by simp [hq])) (fun b hb => hG b (by rw [h4]; omega)) h3, fun _ => rfl⟩
theorem dcall_lendG {ia ib : List Nat} {a r1 bin rest : Roots} {f : FuncId} {ds ds' : List D} {tg : TagF K} (h1 : rpick ia r = (a, r1)) (h2 : rpick ib r1 = (bin, rest)) (ha : ∀ p ∈ a, frzOk p.2) (hds : ds.map (dres (frzRs a)) = ds')
    (hc : DCalls P f ds' bin nx (fun d ro nx' => (∀ p ∈ ro, NoZ p.2) ∧ NoZs d ∧ K d (ro ++ (a ++ rest)) nx')) : DCall P f ds [] r nx K tg := by
  intro E w Z T F vs ok hrs
  have hp1 := ok.roots.pick (l := ia)
  rw [h1] at hp1
  obtain ⟨Fa, Fr1, ra, rr1, e1⟩ := hp1.split
  have hp2 := rr1.pick (l := ib)
  rw [h2] at hp2
  obtain ⟨Fb, Fc, rb, rc, e2⟩ := hp2.split
  have hF : ∀ x, F x = Fa x + (Fb x + Fc x) := fun x => by rw [e1, e2]
  obtain ⟨Z1, hZ1⟩ : ∃ Z1 : Nat → Prop, Z1 = fun b => Z b ∨ 0 < Fa b := ⟨_, rfl⟩
  have hzz : ∀ b, Z b → Z1 b := fun b hb => by rw [hZ1]; exact .inl hb
  have hza : ∀ b, 0 < Fa b → Z1 b := fun b hb => by rw [hZ1]; exact .inr hb
  have rf := RL.frzRs hzz ha hza ra
  have rb1 : RL w Z1 T bin Fb := rb.keep hzz (fun _ _ h => h) fun _ _ => rfl
  have hrs1 : RsL w Z1 T ds' vs := by
    rw [← hds]
    exact RsL.res rf (RsL.keep (fun _ _ => rfl) hzz (fun _ _ h => h) _ _ hrs)
  have hok : Ok ⟨w, Z1, T, Fb, nx⟩ w Z1 T Fb bin nx := ⟨Fr.refl _ _, fun _ h => h, fun _ _ h => .inl h, fun _ _ => Nat.le_refl _, fun _ _ h => h, fun x => by have := ok.one x; have := hF x; omega, fun x hx => ok.lt x (by have := hF x; omega), fun x hx => by
    rw [hZ1] at hx
    have := hF x
    rcases hx with hx | hx
    · exact ⟨(ok.zlt x hx).1, by have := (ok.zlt x hx).2; omega⟩
    · exact ⟨ok.lt x (by omega), by have := ok.one x; omega⟩, ok.t, ok.cell, Nat.le_refl _, rb1⟩
  refine (hc w Z1 T Fb vs hok hrs1).mono fun en w' ⟨v', hv', d, ro, nx', Z', T', F', p, q, g2, g3, g4⟩ => ?_
  have hsz := p.fr.size
  dsimp only at hsz
  have hsame : ∀ x, x < w.heap.size → Fb x = 0 → w'.heap[x]? = w.heap[x]? := fun x hx h0 => p.fr.same x hx (by dsimp only; omega)
  have hG : ∀ x, x < w.heap.size → F' x ≤ Fb x := fun x hx => p.fo x hx
  have hlt : ∀ x, 0 < F x → x < w.heap.size := ok.lt
  refine ⟨v', hv', d, ro ++ (a ++ rest), nx', Z, T', fun x => F' x + (Fa x + Fc x), ?_, ?_, g3 _ _ _ _ _ q, g4⟩
  · refine ⟨ok.fr.step p.fr (fun x hx hM => ?_), ok.z, ok.zo, fun x hx => ?_, fun j u hu => p.names j u (ok.names j u hu), fun x => ?_, fun x hx => ?_, fun x hx => ?_, p.t, p.cell, Nat.le_trans ok.ge p.ge, ?_⟩
    · have := ok.fo x hx; have := hF x; dsimp only at hM; show 0 < E.F x; omega
    · have hs := ok.fr.size
      have := hG x (by omega); have := hF x; have := ok.fo x hx
      omega
    · rcases Nat.lt_or_ge x w.heap.size with hx | hx
      · have := hG x hx; have := hF x; have := ok.one x; omega
      · have : F x = 0 := by
          rcases Nat.eq_zero_or_pos (F x) with h | h
          · exact h
          · have := hlt x h; omega
        have := hF x; have := p.one x; omega
    · rcases Nat.eq_zero_or_pos (F' x) with h0 | h0
      · have := hlt x (by have := hF x; omega); omega
      · exact p.lt x h0
    · have hz := ok.zlt x hx
      have := hG x hz.1; have := hF x
      exact ⟨by omega, by omega⟩
    · refine RL.join (noZ_roots g2 p.roots) (RL.join (ra.keep (fun _ h => h) p.names fun b hb => ?_) (rc.keep (fun _ h => h) p.names fun b hb => ?_))
      · have := hF b
        rcases hb with hb | hb
        · exact hsame b (hlt b (by omega)) (by have := ok.one b; omega)
        · have hz := ok.zlt b hb; exact hsame b hz.1 (by omega)
      · have := hF b
        rcases hb with hb | hb
        · exact hsame b (hlt b (by omega)) (by have := ok.one b; omega)
        · have hz := ok.zlt b hb; exact hsame b hz.1 (by omega)
  · exact ⟨fun x hx => hsame x (ok.zlt x hx).1 (by have := (ok.zlt x hx).2; have := hF x; omega), fun _ h => h, p.names, fun j hj => by simp at hj⟩
theorem rget_nil (i : Nat) : rget [] i = none := rfl
end
end Go.Sl
end
section
/- The kit's contracts on maps.Keys, slices.Sorted, slices.Sort, at this program (printed by wip/tool/mksort.py of this repo). -/
set_option linter.unusedVariables false
namespace Go.Proofs.Ytgpkbldlkadnjaa
open Go Go.RowKit Go.Maps Go.Sort Go.Shelf Go.Sl
def r_keysS : Ren := ⟨fun x => match x with
  | 7 => 143
  | 10 => 196
  | n => n, fun x => match x with
  | 23 => 175
  | 26 => 9
  | 3 => 179
  | 28 => 193
  | 0 => 0
  | 27 => 192
  | 33 => 178
  | 4 => 4
  | n => n, fun n => n⟩
def r_sortedS : Ren := ⟨fun x => match x with
  | 6 => 142
  | 8 => 194
  | 9 => 195
  | 11 => 235
  | 13 => 237
  | 12 => 236
  | 23 => 264
  | 24 => 265
  | 14 => 255
  | 15 => 256
  | 16 => 257
  | 17 => 258
  | 18 => 259
  | 19 => 260
  | 20 => 261
  | 21 => 262
  | 22 => 263
  | 25 => 281
  | 26 => 282
  | 27 => 283
  | 28 => 284
  | 29 => 285
  | 30 => 286
  | 31 => 299
  | n => n, fun x => match x with
  | 26 => 9
  | 28 => 193
  | 24 => 87
  | 0 => 0
  | 3 => 3
  | 37 => 147
  | 48 => 37
  | 50 => 189
  | 4 => 4
  | 40 => 325
  | 39 => 324
  | 45 => 330
  | 5 => 5
  | 9 => 9
  | 51 => 342
  | 55 => 346
  | 57 => 357
  | 58 => 358
  | 33 => 178
  | n => n, fun n => n⟩
def r_sortS : Ren := ⟨fun x => match x with
  | 6 => 195
  | 8 => 237
  | 9 => 236
  | 19 => 264
  | 20 => 265
  | 21 => 255
  | 22 => 256
  | 23 => 257
  | 24 => 258
  | 25 => 259
  | 26 => 260
  | 27 => 261
  | 28 => 262
  | 29 => 263
  | 36 => 281
  | 31 => 282
  | 32 => 283
  | 37 => 284
  | 38 => 285
  | 39 => 286
  | 41 => 299
  | n => n, fun x => match x with
  | 27 => 87
  | 29 => 9
  | 3 => 3
  | 32 => 147
  | 26 => 87
  | 0 => 0
  | 44 => 37
  | 46 => 189
  | 4 => 4
  | 36 => 325
  | 35 => 324
  | 41 => 330
  | 5 => 5
  | 9 => 9
  | 53 => 342
  | 57 => 346
  | 63 => 357
  | 64 => 358
  | n => n, fun n => n⟩
def r_keysT : Ren := ⟨fun x => match x with
  | 7 => 178
  | 10 => 227
  | n => n, fun x => match x with
  | 23 => 238
  | 26 => 3
  | 3 => 244
  | 28 => 242
  | 0 => 0
  | 27 => 241
  | 33 => 116
  | 4 => 4
  | n => n, fun n => n⟩
def r_sortedI : Ren := ⟨fun x => match x with
  | 6 => 177
  | 8 => 225
  | 9 => 226
  | 11 => 251
  | 13 => 237
  | 12 => 252
  | 23 => 264
  | 24 => 265
  | 14 => 271
  | 15 => 272
  | 16 => 273
  | 17 => 274
  | 18 => 275
  | 19 => 276
  | 20 => 277
  | 21 => 278
  | 22 => 279
  | 25 => 296
  | 26 => 282
  | 27 => 283
  | 28 => 297
  | 29 => 298
  | 30 => 268
  | 31 => 304
  | n => n, fun x => match x with
  | 26 => 3
  | 28 => 242
  | 24 => 33
  | 0 => 0
  | 3 => 3
  | 37 => 147
  | 48 => 37
  | 50 => 189
  | 4 => 4
  | 40 => 325
  | 39 => 324
  | 45 => 330
  | 5 => 5
  | 9 => 9
  | 51 => 342
  | 55 => 346
  | 57 => 357
  | 58 => 358
  | 33 => 116
  | n => n, fun n => n⟩
set_option maxRecDepth 100000 in
theorem l_sortedI : SlLaysZI.n6 Try.prog r_sortedI where
  mixed := rfl
  f6 := ⟨"slices.Sorted[int]", of_decide_eq_true rfl, Try.func177.trans (congrArg some rfl)⟩
  f8 := ⟨"slices.Collect[int]", of_decide_eq_true rfl, Try.func225.trans (congrArg some rfl)⟩
  f11 := ⟨"slices.AppendSeq[[]int,int]", of_decide_eq_true rfl, Try.func251.trans (congrArg some rfl)⟩
  t0 := Try.underlying0
  a0 := Try.isAgg0
  z0 := Try.sizeOf0
  v0 := Try.zeroValue0
  t24 := Try.underlying33
  a24 := Try.isAgg33
  z24 := Try.sizeOf33
  v24 := Try.zeroValue33
  t26 := Try.underlying3
  a26 := Try.isAgg3
  z26 := Try.sizeOf3
  v26 := Try.zeroValue3
  t28 := Try.underlying242
  a28 := Try.isAgg242
  z28 := Try.sizeOf242
  v28 := Try.zeroValue242
  i26 := by kernel_rfl
def r_sortI : Ren := ⟨fun x => match x with
  | 5 => 226
  | 8 => 237
  | 7 => 252
  | 19 => 264
  | 20 => 265
  | 10 => 271
  | 11 => 272
  | 12 => 273
  | 13 => 274
  | 14 => 275
  | 15 => 276
  | 16 => 277
  | 17 => 278
  | 18 => 279
  | 30 => 296
  | 31 => 282
  | 32 => 283
  | 33 => 297
  | 34 => 298
  | 35 => 268
  | 40 => 304
  | n => n, fun x => match x with
  | 23 => 33
  | 25 => 3
  | 3 => 3
  | 32 => 147
  | 22 => 33
  | 0 => 0
  | 44 => 37
  | 46 => 189
  | 4 => 4
  | 36 => 325
  | 35 => 324
  | 41 => 330
  | 5 => 5
  | 9 => 9
  | 53 => 342
  | 57 => 346
  | 63 => 357
  | 64 => 358
  | n => n, fun n => n⟩
set_option maxRecDepth 100000 in
theorem l_sortI : SlLaysM.n5 Try.prog r_sortI where
  mixed := rfl
  f5 := ⟨"slices.Sort[[]int,int]", of_decide_eq_true rfl, Try.func226.trans (congrArg some rfl)⟩
  f7 := ⟨"slices.pdqsortOrdered[int]", of_decide_eq_true rfl, Try.func252.trans (congrArg some rfl)⟩
  f8 := Try.func237.trans (congrArg some rfl)
  f10 := ⟨"slices.insertionSortOrdered[int]", of_decide_eq_true rfl, Try.func271.trans (congrArg some rfl)⟩
  f11 := ⟨"slices.heapSortOrdered[int]", of_decide_eq_true rfl, Try.func272.trans (congrArg some rfl)⟩
  f12 := ⟨"slices.breakPatternsOrdered[int]", of_decide_eq_true rfl, Try.func273.trans (congrArg some rfl)⟩
  f13 := ⟨"slices.choosePivotOrdered[int]", of_decide_eq_true rfl, Try.func274.trans (congrArg some rfl)⟩
  f14 := ⟨"slices.reverseRangeOrdered[int]", of_decide_eq_true rfl, Try.func275.trans (congrArg some rfl)⟩
  f15 := ⟨"slices.partialInsertionSortOrdered[int]", of_decide_eq_true rfl, Try.func276.trans (congrArg some rfl)⟩
  f16 := ⟨"cmp.Less[int]", of_decide_eq_true rfl, Try.func277.trans (congrArg some rfl)⟩
  f17 := ⟨"slices.partitionEqualOrdered[int]", of_decide_eq_true rfl, Try.func278.trans (congrArg some rfl)⟩
  f18 := ⟨"slices.partitionOrdered[int]", of_decide_eq_true rfl, Try.func279.trans (congrArg some rfl)⟩
  f19 := Try.func264.trans (congrArg some rfl)
  f20 := Try.func265.trans (congrArg some rfl)
  f30 := ⟨"slices.siftDownOrdered[int]", of_decide_eq_true rfl, Try.func296.trans (congrArg some rfl)⟩
  f31 := Try.func282.trans (congrArg some rfl)
  f32 := Try.func283.trans (congrArg some rfl)
  f33 := ⟨"slices.medianAdjacentOrdered[int]", of_decide_eq_true rfl, Try.func297.trans (congrArg some rfl)⟩
  f34 := ⟨"slices.medianOrdered[int]", of_decide_eq_true rfl, Try.func298.trans (congrArg some rfl)⟩
  f35 := ⟨"cmp.isNaN[int]", of_decide_eq_true rfl, Try.func268.trans (congrArg some rfl)⟩
  f40 := ⟨"slices.order2Ordered[int]", of_decide_eq_true rfl, Try.func304.trans (congrArg some rfl)⟩
  t0 := Try.underlying0
  a0 := Try.isAgg0
  z0 := Try.sizeOf0
  v0 := Try.zeroValue0
  t3 := Try.underlying3
  a3 := Try.isAgg3
  z3 := Try.sizeOf3
  v3 := Try.zeroValue3
  t4 := Try.underlying4
  a4 := Try.isAgg4
  z4 := Try.sizeOf4
  v4 := Try.zeroValue4
  t5 := Try.underlying5
  a5 := Try.isAgg5
  z5 := Try.sizeOf5
  v5 := Try.zeroValue5
  t9 := Try.underlying9
  a9 := Try.isAgg9
  z9 := Try.sizeOf9
  v9 := Try.zeroValue9
  t22 := Try.underlying33
  a22 := Try.isAgg33
  z22 := Try.sizeOf33
  v22 := Try.zeroValue33
  t23 := Try.underlying33
  a23 := Try.isAgg33
  z23 := Try.sizeOf33
  v23 := Try.zeroValue33
  t25 := Try.underlying3
  a25 := Try.isAgg3
  z25 := Try.sizeOf3
  v25 := Try.zeroValue3
  t32 := Try.underlying147
  a32 := Try.isAgg147
  z32 := Try.sizeOf147
  v32 := Try.zeroValue147
  t35 := Try.underlying324
  a35 := Try.isAgg324
  z35 := Try.sizeOf324
  v35 := Try.zeroValue324
  t36 := Try.underlying325
  a36 := Try.isAgg325
  z36 := Try.sizeOf325
  v36 := Try.zeroValue325
  t41 := Try.underlying330
  a41 := Try.isAgg330
  z41 := Try.sizeOf330
  v41 := Try.zeroValue330
  t44 := Try.underlying37
  a44 := Try.isAgg37
  z44 := Try.sizeOf37
  v44 := Try.zeroValue37
  t46 := Try.underlying189
  a46 := Try.isAgg189
  z46 := Try.sizeOf189
  v46 := Try.zeroValue189
  t53 := Try.underlying342
  a53 := Try.isAgg342
  z53 := Try.sizeOf342
  v53 := Try.zeroValue342
  t57 := Try.underlying346
  a57 := Try.isAgg346
  z57 := Try.sizeOf346
  v57 := Try.zeroValue346
  t63 := Try.underlying357
  a63 := Try.isAgg357
  z63 := Try.sizeOf357
  v63 := Try.zeroValue357
  t64 := Try.underlying358
  a64 := Try.isAgg358
  z64 := Try.sizeOf358
  v64 := Try.zeroValue358

def r_keysV : Ren := ⟨fun x => match x with
  | 7 => 211
  | 10 => 246
  | n => n, fun x => match x with
  | 23 => 217
  | 26 => 3
  | 3 => 95
  | 28 => 242
  | 0 => 0
  | 27 => 241
  | 33 => 116
  | 4 => 4
  | n => n, fun n => n⟩
set_option maxRecDepth 100000 in
theorem l_keysV : SlLaysZI.n7 Try.prog r_keysV where
  mixed := rfl
  f7 := ⟨"maps.Keys[map[int]shardlog/api.Vote,int,shardlog/api.Vote]", of_decide_eq_true rfl, Try.func211.trans (congrArg some rfl)⟩
  f10 := ⟨"maps.Keys[map[int]shardlog/api.Vote,int,shardlog/api.Vote]$1", of_decide_eq_true rfl, Try.func246.trans (congrArg some rfl)⟩
  t0 := Try.underlying0
  a0 := Try.isAgg0
  z0 := Try.sizeOf0
  v0 := Try.zeroValue0
  t4 := Try.underlying4
  a4 := Try.isAgg4
  z4 := Try.sizeOf4
  v4 := Try.zeroValue4
  t23 := Try.underlying217
  a23 := Try.isAgg217
  z23 := Try.sizeOf217
  v23 := Try.zeroValue217
  t26 := Try.underlying3
  a26 := Try.isAgg3
  z26 := Try.sizeOf3
  v26 := Try.zeroValue3
  t27 := Try.underlying241
  a27 := Try.isAgg241
  z27 := Try.sizeOf241
  v27 := Try.zeroValue241
  t28 := Try.underlying242
  a28 := Try.isAgg242
  z28 := Try.sizeOf242
  v28 := Try.zeroValue242
  t33 := Try.underlying116
  a33 := Try.isAgg116
  z33 := Try.sizeOf116
  v33 := Try.zeroValue116

theorem sorts_I (m : Nat) : AnyZI.SortsIn Try.prog r_sortedI Fence.wide m :=
  ⟨fun blk off cap ss W hH hblk hsz => callsIn_wide.2 (AnyM.slices_Sort_int l_sortI blk off cap ss W hH hblk hsz),
   fun p cap W => callsIn_wide.2 (AnyM.slices_Sort_int_none l_sortI p cap W)⟩
set_option maxHeartbeats 1000000 in
/-- .. of a map of votes -/
theorem sorted_V : SortedZ Try.prog 177 246 3 := by
  intro w Bm b nn D0 hB hc hown hmax
  have hseq : SeqGives Fence.wide 2 Try.prog 246 #[.pointer (some ⟨Bm, 0, none⟩)] encZ (fun ss => ss.Perm (intKeys D0)) (Maps.size D0) w :=
    AnyZI.keys_gives (ρ := r_keysV) { l_keysV with } Fence.wide _ trivial rfl (by omega) Bm b nn D0 w hB hc hown
  refine (callsIn_wide (n := 5)).1 ((AnyZI.sorted_in l_sortedI Fence.wide 5 trivial trivial trivial trivial rfl (by omega) (sorts_I _) (enters_of Try.func226 (by kernel_rfl) rfl) 246 #[.pointer (some ⟨Bm, 0, none⟩)] trivial (enters_of Try.func246 (by kernel_rfl) rfl) _ _ (by simp only [maxLen]; omega) (by omega) _ hseq).mono ?_)
  rintro e w' ⟨v, ss, he, hS, hrow, hnil, hb⟩
  exact ⟨v, ss, he, hS, hrow, hb⟩
end Go.Proofs.Ytgpkbldlkadnjaa
end
section
/- Contracts over data: the disk. -/
set_option linter.unusedVariables false
set_option linter.unusedSimpArgs false
set_option maxHeartbeats 3000000
attribute [local irreducible] Go.Sl.Chk Go.Sl.Br Go.Sl.Or2 Go.Sl.Ld Go.Sl.Ldn Go.Sl.LdB Go.Sl.Stn Go.Sl.New Go.Sl.Run Go.Sl.RunU Go.Sl.RunX Go.Sl.Call Go.Sl.LoopK Go.Sl.RawK Go.Sl.Alt Go.Sl.Om Go.Sl.xpk Go.Sl.xgpk Go.Sl.xglk Go.Sl.DLd Go.Sl.DLdG Go.Sl.DBs Go.Sl.DCall Go.Sl.DApp Go.Sl.DGen Go.Sl.DGenU Go.Sl.DGC Go.Sl.DLoop Go.Sl.DRaw Go.Sl.DRet Go.Sl.Ent Go.Sl.dget Go.Sl.dv Go.Sl.ev Go.Sl.eget
namespace Go.Proofs.Ytgpkbldlkadnjaa
open Go Go.Sl Go.RowKit
/-- a file: its name, its bytes, how many are synced -/
abbrev FileS := Bs × Bs × Nat
abbrev strV (b : Bs) : Value := .string ⟨b.toArray⟩
def fileO (f : FileS) : D := .box t_disk_file [bytesO f.2.1, iD f.2.2]
def namesV (fs : List FileS) : List Value := fs.map fun f => strV f.1
def diskO (fs : List FileS) (most : Nat) : D := .box t_disk_Disk [.mp (namesV fs) (fs.map fileO), iD most]
theorem key_str {b : Bs} (h : b.length ≤ 1000000) : keyOf Try.prog 9 (strV b) = some (.string b) := by
  unfold keyOf
  rw [show Try.prog.underlying 9 = some TypeDesc.string from Try.underlying9]
  simp [mapKey, Try.underlying9, ByteArray.size, maxLen]
  omega
theorem sz_s (v : Bs) : (⟨v.toArray⟩ : ByteArray).size = v.length := by simp [ByteArray.size]
theorem kd9 : Go.Maps.Keyed Try.prog 9 := Go.Maps.string_keyed Try.underlying9
/-- disk.New -/
theorem new_o (c : Int) (hc : -9223372036854775808 ≤ c ∧ c ≤ 9223372036854775807) : DNew Try.prog f_disk_New [iD c] (fun i => .hp i 0) (diskO [] (min (max c 0) 65536).toNat) := by
  intro nx
  refine xcalls c_disk_New (by simp only [m_disk_New, List.length]; decide) ?_
  simp only [m_disk_New]; refine WK ?_; try with_reducible exact trivial
  refine dmakemap ?_
  refine WK ?_; try with_reducible exact trivial
  have hf := RT.fold (r := [(nx + 1, .box t_disk_Disk [.h nx, .sc (.int .i64 (min (max c 0) 65536))]), (nx, .mp [] [])]) nx (nx + 1) 0 (d := .mp [] []) (c := .box t_disk_Disk [.h nx, .sc (.int .i64 (min (max c 0) 65536))]) (l := [.h nx, .sc (.int .i64 (min (max c 0) 65536))]) (by refine WK ?_; try with_reducible exact trivial) (by omega) (by refine WK ?_; try with_reducible exact trivial) rfl rfl
  simp -dsimp (disch := omega) only [↓MC.xwp, ↓xopsWp, ↓xdr, ↓MOp.xwp, dvs, dv, dvu, dvo, dvp, dgb, dGd, dBool, cond_true, cond_false, asFn, dget, dput, dput?, dead?, dres, ptr, bsc, cv, uo, uof, unopt, xpr, xdevr, xev0, cutK, cutN, xldk, xldn, xbsk, xst, xgp, glc, vExt, vFldA, vFld, vFad, vIxs, vIxa, vIxvA, vIxv, vSls, vLen, vPick, vNilc, vIsnil, dev0, devr, dsl, dif, dcells, dover, dbuild, scs, rowOf, strideOf, dtk, dtake, done1, pev, pbin, pint, pbool, pstr, psl, vnil, ↓thenD, ↓blockD, ↓retX, ↓xres, xcell, tupD, argD, dkeep, ckLive, kp, xdone, xheld, dstD, isLdM, ldOp, ldIds, ldSlots, selfOk, nb, dst1, inDone, allDone, apart, slotsApart, heldAll, heldOk, Op.operands, Nat.reduceAdd, forall_eq_or_imp, D.plain, reduceCtorEq, if_true, if_false, ↓reduceIte, ne_eq, Bool.cond_true, Bool.cond_false, forall_const, implies_true, forall_eq, Int.reduceEq, Int.reduceLT, Int.reduceLE, Int.reduceAdd, Int.reduceSub, Int.reduceMul, Int.reduceToNat, Nat.reduceMul, Nat.reduceLeDiff, Nat.reduceLT, Nat.reduceSub, Nat.reduceBEq, Nat.reduceEqDiff, matD, bytesD, iD, intsD, boolD, strD, bD, DB, withKids, List.set_cons_zero] at hf
  refine dret_rt (t' := .mk _) hf ?_
  refine dret ⟨nx + 1, by omega, by omega, rfl, ?_⟩
  rw [show (min (max c 0) 65536) = (((min (max c 0) 65536).toNat : Nat) : Int) by omega]
  rfl
/-- an act on a tree that is owned -/
def DAct (P : Program) (f : FuncId) (ds : Nat → List D) (t : D) (d : D) (t' : D) : Prop := ∀ i nx, i < nx → DCalls P f (ds i) [(i, t)] nx (fun d' r' nx' => d' = d ∧ r' = [(i, t')])
theorem rpick_one {r : Roots} {i : Nat} {t : D} (h : rget r i = some t) : rpick [i] r = ([(i, t)], rdel r i) := by
  simp only [rpick, h]
theorem dact {P : Program} {held : List Nat} {r : Roots} {nx : Nat} {K : D → Roots → Nat → Prop} {f : FuncId} {ds : Nat → List D} {t t' d : D} {tg : TagF K} (i : Nat) (h : DAct P f ds t d t') (hi : i < nx) (hg : rget r i = some t) (hh : i ∉ held)
    (k : ∀ nx', nx ≤ nx' → K d ((i, t') :: rdel r i) nx') : DCall P f (ds i) held r nx K tg :=
  dcallR [i] (rpick_one hg) (h i nx hi) (fun j hj => by
    simp only [rget]
    rw [if_neg (fun e => hh (by rw [e]; exact hj))]) fun d' ro nx' hn ⟨h1, h2⟩ => by
      subst h1; subst h2; exact k nx' hn
/-- where a name stands -/
def findF (fs : List FileS) (n : Bs) : Option Nat := fs.findIdx? fun f => decide (f.1 = n)
theorem findF_some {fs : List FileS} {n : Bs} {j : Nat} (h : findF fs n = some j) : ∃ f, fs[j]? = some f ∧ f.1 = n := by
  unfold findF at h
  rw [List.findIdx?_eq_some_iff_getElem] at h
  obtain ⟨hj, h1, _⟩ := h
  exact ⟨fs[j], List.getElem?_eq_getElem hj, by simpa using h1⟩
theorem findF_none {fs : List FileS} {n : Bs} (h : findF fs n = none) : strV n ∉ namesV fs := by
  unfold findF at h
  rw [List.findIdx?_eq_none_iff] at h
  intro hm
  obtain ⟨f, hf, he⟩ := List.mem_map.1 hm
  have h1 := h f hf
  simp only [decide_eq_false_iff_not] at h1
  refine h1 ?_
  have := congrArg (fun v : Value => match v with | .string b => b.data.toList | _ => []) he
  simpa using this
def Small1 (fs : List FileS) : Prop := ∀ f ∈ fs, f.1.length ≤ 1000 ∧ f.2.1.length ≤ 1000000
theorem small_keys {fs : List FileS} (h : Small1 fs) : ∀ x ∈ namesV fs, ∃ l, keyOf Try.prog 9 x = some l := fun x hx => by
  obtain ⟨f, hf, rfl⟩ := List.mem_map.1 hx
  exact ⟨_, key_str (by have := (h f hf).1; omega)⟩
theorem disk_back0 {m i most : Nat} {fs : List FileS} (h3 : m ≠ i) : RT [(m, .mp (namesV fs) (fs.map fileO)), (i, .box t_disk_Disk [.h m, iD most])] [(i, diskO fs most)] := by
  have f2 := RT.fold (r := [(m, .mp (namesV fs) (fs.map fileO)), (i, .box t_disk_Disk [.h m, iD most])]) m i 0 (d := .mp (namesV fs) (fs.map fileO)) (c := .box t_disk_Disk [.h m, iD most]) (l := [.h m, iD most]) (by refine WK ?_; try with_reducible exact trivial) h3 (by refine WK ?_; try with_reducible exact trivial) rfl rfl
  simp -dsimp (disch := omega) only [↓MC.xwp, ↓xopsWp, ↓xdr, ↓MOp.xwp, dvs, dv, dvu, dvo, dvp, dgb, dGd, dBool, cond_true, cond_false, asFn, dget, dput, dput?, dead?, dres, ptr, bsc, cv, uo, uof, unopt, xpr, xdevr, xev0, cutK, cutN, xldk, xldn, xbsk, xst, xgp, glc, vExt, vFldA, vFld, vFad, vIxs, vIxa, vIxvA, vIxv, vSls, vLen, vPick, vNilc, vIsnil, dev0, devr, dsl, dif, dcells, dover, dbuild, scs, rowOf, strideOf, dtk, dtake, done1, pev, pbin, pint, pbool, pstr, psl, vnil, ↓thenD, ↓blockD, ↓retX, ↓xres, xcell, tupD, argD, dkeep, ckLive, kp, xdone, xheld, dstD, isLdM, ldOp, ldIds, ldSlots, selfOk, nb, dst1, inDone, allDone, apart, slotsApart, heldAll, heldOk, Op.operands, Nat.reduceAdd, forall_eq_or_imp, D.plain, reduceCtorEq, if_true, if_false, ↓reduceIte, ne_eq, Bool.cond_true, Bool.cond_false, forall_const, implies_true, forall_eq, Int.reduceEq, Int.reduceLT, Int.reduceLE, Int.reduceAdd, Int.reduceSub, Int.reduceMul, Int.reduceToNat, Nat.reduceMul, Nat.reduceLeDiff, Nat.reduceLT, Nat.reduceSub, Nat.reduceBEq, Nat.reduceEqDiff, matD, bytesD, iD, intsD, boolD, strD, bD, DB, withKids, List.set_cons_zero] at f2
  exact f2
/-- the file and the map stand in the disk again -/
theorem disk_back {a m i j most : Nat} {fs : List FileS} {f : FileS} (n b : Bs) (sy : Nat) (hj : fs[j]? = some f) (hn : f.1 = n) (h1 : a ≠ m) (h2 : a ≠ i) (h3 : m ≠ i) :
    RT [(a, .box t_disk_file [bytesO b, iD sy]), (m, .mp (namesV fs) ((fs.map fileO).set j (.hp a 0))), (i, .box t_disk_Disk [.h m, iD most])] [(i, diskO (fs.set j (n, b, sy)) most)] := by
  have hlt := (List.getElem?_eq_some_iff.1 hj).1
  have f1 := RT.fold (r := [(a, .box t_disk_file [bytesO b, iD sy]), (m, .mp (namesV fs) ((fs.map fileO).set j (.hp a 0))), (i, .box t_disk_Disk [.h m, iD most])]) a m j (d := .box t_disk_file [bytesO b, iD sy]) (c := .mp (namesV fs) ((fs.map fileO).set j (.hp a 0))) (l := (fs.map fileO).set j (.hp a 0)) (by refine WK ?_; try with_reducible exact trivial) h1 (by refine WK ?_; try with_reducible exact trivial) rfl (List.getElem?_set_self (by rw [List.length_map]; exact hlt))
  simp -dsimp (disch := omega) only [↓MC.xwp, ↓xopsWp, ↓xdr, ↓MOp.xwp, dvs, dv, dvu, dvo, dvp, dgb, dGd, dBool, cond_true, cond_false, asFn, dget, dput, dput?, dead?, dres, ptr, bsc, cv, uo, uof, unopt, xpr, xdevr, xev0, cutK, cutN, xldk, xldn, xbsk, xst, xgp, glc, vExt, vFldA, vFld, vFad, vIxs, vIxa, vIxvA, vIxv, vSls, vLen, vPick, vNilc, vIsnil, dev0, devr, dsl, dif, dcells, dover, dbuild, scs, rowOf, strideOf, dtk, dtake, done1, pev, pbin, pint, pbool, pstr, psl, vnil, ↓thenD, ↓blockD, ↓retX, ↓xres, xcell, tupD, argD, dkeep, ckLive, kp, xdone, xheld, dstD, isLdM, ldOp, ldIds, ldSlots, selfOk, nb, dst1, inDone, allDone, apart, slotsApart, heldAll, heldOk, Op.operands, Nat.reduceAdd, forall_eq_or_imp, D.plain, reduceCtorEq, if_true, if_false, ↓reduceIte, ne_eq, Bool.cond_true, Bool.cond_false, forall_const, implies_true, forall_eq, Int.reduceEq, Int.reduceLT, Int.reduceLE, Int.reduceAdd, Int.reduceSub, Int.reduceMul, Int.reduceToNat, Nat.reduceMul, Nat.reduceLeDiff, Nat.reduceLT, Nat.reduceSub, Nat.reduceBEq, Nat.reduceEqDiff, matD, bytesD, iD, intsD, boolD, strD, bD, DB, withKids, List.set_set] at f1
  have e1 : (fs.map fileO).set j (.box t_disk_file [bytesO b, iD sy]) = (fs.set j (n, b, sy)).map fileO := by rw [List.map_set]; rfl
  have e2 : namesV fs = namesV (fs.set j (n, b, sy)) := by
    unfold namesV
    rw [List.map_set]
    exact (set_same (by rw [List.getElem?_map, hj, ← hn]; rfl)).symm
  have f1' : RT [(a, .box t_disk_file [bytesO b, iD sy]), (m, .mp (namesV fs) ((fs.map fileO).set j (.hp a 0))), (i, .box t_disk_Disk [.h m, iD most])] [(m, .mp (namesV (fs.set j (n, b, sy))) ((fs.set j (n, b, sy)).map fileO)), (i, .box t_disk_Disk [.h m, iD most])] := by
    rw [← e2, ← e1]; exact f1
  exact f1'.trans (disk_back0 h3)
theorem disk_back1 {q a m i j most : Nat} {fs : List FileS} {f : FileS} (n b : Bs) (sy : Nat) (hj : fs[j]? = some f) (hn : f.1 = n) (h0 : q ≠ a) (h4 : q ≠ m) (h5 : q ≠ i) (h1 : a ≠ m) (h2 : a ≠ i) (h3 : m ≠ i) :
    RT [(q, bytesO b), (a, .box t_disk_file [.h q, iD sy]), (m, .mp (namesV fs) ((fs.map fileO).set j (.hp a 0))), (i, .box t_disk_Disk [.h m, iD most])] [(i, diskO (fs.set j (n, b, sy)) most)] := by
  have f1 := RT.fold (r := [(q, bytesO b), (a, .box t_disk_file [.h q, iD sy]), (m, .mp (namesV fs) ((fs.map fileO).set j (.hp a 0))), (i, .box t_disk_Disk [.h m, iD most])]) q a 0 (d := bytesO b) (c := .box t_disk_file [.h q, iD sy]) (l := [.h q, iD sy]) (by refine WK ?_; try with_reducible exact trivial) h0 (by refine WK ?_; try with_reducible exact trivial) rfl rfl
  simp -dsimp (disch := omega) only [↓MC.xwp, ↓xopsWp, ↓xdr, ↓MOp.xwp, dvs, dv, dvu, dvo, dvp, dgb, dGd, dBool, cond_true, cond_false, asFn, dget, dput, dput?, dead?, dres, ptr, bsc, cv, uo, uof, unopt, xpr, xdevr, xev0, cutK, cutN, xldk, xldn, xbsk, xst, xgp, glc, vExt, vFldA, vFld, vFad, vIxs, vIxa, vIxvA, vIxv, vSls, vLen, vPick, vNilc, vIsnil, dev0, devr, dsl, dif, dcells, dover, dbuild, scs, rowOf, strideOf, dtk, dtake, done1, pev, pbin, pint, pbool, pstr, psl, vnil, ↓thenD, ↓blockD, ↓retX, ↓xres, xcell, tupD, argD, dkeep, ckLive, kp, xdone, xheld, dstD, isLdM, ldOp, ldIds, ldSlots, selfOk, nb, dst1, inDone, allDone, apart, slotsApart, heldAll, heldOk, Op.operands, Nat.reduceAdd, forall_eq_or_imp, D.plain, reduceCtorEq, if_true, if_false, ↓reduceIte, ne_eq, Bool.cond_true, Bool.cond_false, forall_const, implies_true, forall_eq, Int.reduceEq, Int.reduceLT, Int.reduceLE, Int.reduceAdd, Int.reduceSub, Int.reduceMul, Int.reduceToNat, Nat.reduceMul, Nat.reduceLeDiff, Nat.reduceLT, Nat.reduceSub, Nat.reduceBEq, Nat.reduceEqDiff, matD, bytesD, iD, intsD, boolD, strD, bD, DB, withKids, List.set_cons_zero] at f1
  exact f1.trans (disk_back n b sy hj hn h1 h2 h3)
theorem zero179 (w : World) : (zeroValue 179).run Try.prog w = .ok (.pointer none) w := by kernel_rfl
def syncF (fs : List FileS) (n : Bs) : List FileS := match findF fs n with | none => fs | some j => fs.set j (n, (fs.getD j default).2.1, (fs.getD j default).2.1.length)
def noneE (fs : List FileS) (n : Bs) : Nat := match findF fs n with | none => 5 | some _ => 0
/-- Disk.Sync -/
theorem sync_a (fs : List FileS) (most : Nat) (n : Bs) (hs : Small1 fs) (hn : n.length ≤ 1000) : DAct Try.prog f_disk_Disk_Sync (fun i => [.hp i 0, strD n]) (diskO fs most) (iD (noneE fs n)) (diskO (syncF fs n) most) := by
  intro i nx hi
  refine xcalls c_disk_Disk_Sync (by simp only [m_disk_Disk_Sync, List.length]; decide) ?_
  rw [show [(i, diskO fs most)] = [(i, .box t_disk_Disk [.mp (namesV fs) (fs.map fileO), iD most])] from rfl]
  simp only [m_disk_Disk_Sync]; refine WK ?_; try with_reducible exact trivial
  cases hfn : findF fs n with
  | none =>
    refine dlook_no (i := nx) (ks := namesV fs) (l := fs.map fileO) (key := strV n) (by refine WK ?_; try with_reducible exact trivial) (by refine WK ?_; try with_reducible exact trivial) (rget_here _ _ _) kd9 Try.underlying175 (z := .pointer none) zero179 (key_str (by omega)) (small_keys hs) (findF_none hfn) ?_
    refine WK ?_; try with_reducible exact trivial
    refine dret_rt (t' := .mk _) (disk_back0 (by omega)) ?_
    refine dret ⟨?_, ?_⟩ <;> simp only [noneE, syncF, hfn] <;> rfl
  | some j =>
    obtain ⟨f, hj, hfe⟩ := findF_some hfn
    refine dlook_box (i := nx) (j := j) (ks := namesV fs) (l := fs.map fileO) (key := strV n) (eb := t_disk_file) (lc := [bytesO f.2.1, iD f.2.2]) (by refine WK ?_; try with_reducible exact trivial) (by refine WK ?_; try with_reducible exact trivial) (rget_here _ _ _) kd9 Try.underlying175 (key_str (by omega)) (small_keys hs) (by unfold namesV; rw [List.getElem?_map, hj, ← hfe]; rfl) (by rw [List.getElem?_map, hj]; rfl) ?_
    refine WK ?_; try with_reducible exact trivial
    refine dret_rt (t' := .mk _) (disk_back1 n f.2.1 f.2.1.length hj hfe (by omega) (by omega) (by omega) (by omega) (by omega) (by omega)) ?_
    have hgd : fs.getD j default = f := by rw [List.getD_eq_getElem?_getD, hj]; rfl
    refine dret ⟨?_, ?_⟩ <;> simp only [noneE, syncF, hfn, hgd] <;> rfl
/-- an act that answers one tree more -/
def DActN (P : Program) (f : FuncId) (ds : Nat → List D) (t : D) (g : Nat → D) (tn t' : D) : Prop := ∀ i nx, i < nx → DCalls P f (ds i) [(i, t)] nx (fun d' r' nx' => ∃ k, nx ≤ k ∧ k < nx' ∧ d' = g k ∧ r' = [(k, tn), (i, t')])
theorem dactn {P : Program} {held : List Nat} {r : Roots} {nx : Nat} {K : D → Roots → Nat → Prop} {f : FuncId} {ds : Nat → List D} {t t' tn : D} {g : Nat → D} {tg : TagF K} (i : Nat) (h : DActN P f ds t g tn t') (hi : i < nx) (hg : rget r i = some t) (hh : i ∉ held)
    (k : ∀ k nx', nx ≤ k → k < nx' → K (g k) ((k, tn) :: (i, t') :: rdel r i) nx') : DCall P f (ds i) held r nx K tg :=
  dcallR [i] (rpick_one hg) (h i nx hi) (fun j hj => by
    simp only [rget]
    rw [if_neg (fun e => hh (by rw [e]; exact hj))]) fun d' ro nx' hn ⟨k', h1, h2, h3, h4⟩ => by
      subst h3; subst h4; exact k k' nx' h1 h2
theorem bytesO_noZ (b : Bs) : NoZ (bytesO b) := noZ_row fun d hd => by obtain ⟨x, _, rfl⟩ := List.mem_map.1 hd; exact trivial
theorem lend_new {P : Program} {held : List Nat} {r : Roots} {nx : Nat} {K : D → Roots → Nat → Prop} (i : Nat) {b : Bs} {f : FuncId} {ds ds' : List D} {t : D} {tg : TagF K} (hg : rget r i = some (bytesO b)) (hds : ds.map (dres (rset r i (bytesD b))) = ds') (hc : DNew P f ds' (fun i => .h i) t) (ht : NoZ t)
    (k : ∀ i nx', nx ≤ i → i < nx' → K (.h i) ((i, t) :: r) nx') : DCall P f ds held r nx K tg := by
  have h := RT.frz i hg (by simp only [frzOk]; exact (bytesO_frz b).1)
  simp only [frzR, frz, (bytesO_frz b).2] at h
  subst hds
  exact dnew_lend h hc ht noZs_h k
/-- Disk.Read -/
theorem read_a (fs : List FileS) (most : Nat) (n : Bs) {j : Nat} {f : FileS} (hs : Small1 fs) (hn : n.length ≤ 1000) (hfn : findF fs n = some j) (hj : fs[j]? = some f) : DActN Try.prog f_disk_Disk_Read (fun i => [.hp i 0, strD n]) (diskO fs most) (fun k => .tup [.h k, iD 0]) (bytesO f.2.1) (diskO fs most) := by
  intro i nx hi
  have hsf := hs f (List.mem_of_getElem? hj)
  refine xcalls c_disk_Disk_Read (by simp only [m_disk_Disk_Read, List.length]; decide) ?_
  rw [show [(i, diskO fs most)] = [(i, .box t_disk_Disk [.mp (namesV fs) (fs.map fileO), iD most])] from rfl]
  simp only [m_disk_Disk_Read]; refine WK ?_; try with_reducible exact trivial
  obtain ⟨f', hj', hfe⟩ := findF_some hfn
  rw [hj] at hj'
  cases hj'
  refine dlook_box (i := nx) (j := j) (ks := namesV fs) (l := fs.map fileO) (key := strV n) (eb := t_disk_file) (lc := [bytesO f.2.1, iD f.2.2]) (by refine WK ?_; try with_reducible exact trivial) (by refine WK ?_; try with_reducible exact trivial) (rget_here _ _ _) kd9 Try.underlying175 (key_str (by omega)) (small_keys hs) (by unfold namesV; rw [List.getElem?_map, hj, ← hfe]; rfl) (by rw [List.getElem?_map, hj]; rfl) ?_
  refine WK ?_; try with_reducible exact trivial
  refine lend_new (nx + 2) (rget_here _ _ _) rfl (by simp -dsimp (disch := omega) only [↓MC.xwp, ↓xopsWp, ↓xdr, ↓MOp.xwp, dvs, dv, dvu, dvo, dvp, dgb, dGd, dBool, cond_true, cond_false, asFn, dget, dput, dput?, dead?, dres, ptr, bsc, cv, uo, uof, unopt, xpr, xdevr, xev0, cutK, cutN, xldk, xldn, xbsk, xst, xgp, glc, vExt, vFldA, vFld, vFad, vIxs, vIxa, vIxvA, vIxv, vSls, vLen, vPick, vNilc, vIsnil, dev0, devr, dsl, dif, dcells, dover, dbuild, scs, rowOf, strideOf, dtk, dtake, done1, pev, pbin, pint, pbool, pstr, psl, vnil, ↓thenD, ↓blockD, ↓retX, ↓xres, xcell, tupD, argD, dkeep, ckLive, kp, xdone, xheld, dstD, isLdM, ldOp, ldIds, ldSlots, selfOk, nb, dst1, inDone, allDone, apart, slotsApart, heldAll, heldOk, Op.operands, Nat.reduceAdd, forall_eq_or_imp, D.plain, reduceCtorEq, if_true, if_false, ↓reduceIte, ne_eq, Bool.cond_true, Bool.cond_false, forall_const, implies_true, forall_eq, Int.reduceEq, Int.reduceLT, Int.reduceLE, Int.reduceAdd, Int.reduceSub, Int.reduceMul, Int.reduceToNat, Nat.reduceMul, Nat.reduceLeDiff, Nat.reduceLT, Nat.reduceSub, Nat.reduceBEq, Nat.reduceEqDiff, matD, bytesD, iD, intsD, boolD, strD, bD, DB, List.map_cons, List.map_nil, dres]; exact clone_o f.2.1 (by omega)) (bytesO_noZ _) fun k n1 h1 h2 => ?_
  refine WK ?_; try with_reducible exact trivial
  refine dret_rt (t' := .mk _) (RT.cons _ (disk_back1 n f.2.1 f.2.2 hj hfe (by omega) (by omega) (by omega) (by omega) (by omega) (by omega))) ?_
  have hsame : fs.set j (n, f.2.1, f.2.2) = fs := set_same (by rw [hj, ← hfe])
  rw [hsame]
  exact dret ⟨k, by omega, by omega, rfl, rfl⟩
theorem read_no (fs : List FileS) (most : Nat) (n : Bs) (hs : Small1 fs) (hn : n.length ≤ 1000) (hfn : findF fs n = none) : DAct Try.prog f_disk_Disk_Read (fun i => [.hp i 0, strD n]) (diskO fs most) (.tup [.sc (.slice none 0 0), iD 5]) (diskO fs most) := by
  intro i nx hi
  refine xcalls c_disk_Disk_Read (by simp only [m_disk_Disk_Read, List.length]; decide) ?_
  rw [show [(i, diskO fs most)] = [(i, .box t_disk_Disk [.mp (namesV fs) (fs.map fileO), iD most])] from rfl]
  simp only [m_disk_Disk_Read]; refine WK ?_; try with_reducible exact trivial
  refine dlook_no (i := nx) (ks := namesV fs) (l := fs.map fileO) (key := strV n) (by refine WK ?_; try with_reducible exact trivial) (by refine WK ?_; try with_reducible exact trivial) (rget_here _ _ _) kd9 Try.underlying175 (z := .pointer none) zero179 (key_str (by omega)) (small_keys hs) (findF_none hfn) ?_
  refine WK ?_; try with_reducible exact trivial
  refine dret_rt (t' := .mk _) (disk_back0 (by omega)) ?_
  exact dret ⟨rfl, rfl⟩
def delF (fs : List FileS) (n : Bs) : List FileS := match findF fs n with | none => fs | some j => fs.eraseIdx j
/-- disk.named -/
def namedB (n : Bs) : Bool := decide ((1 : Int) ≤ (n.length : Int)) && decide ((n.length : Int) ≤ 24)
theorem named_d (n : Bs) : DFun Try.prog f_disk_named [strD n] (boolD (namedB n)) := by
  intro nx
  refine xcalls c_disk_named (by simp only [m_disk_named, List.length]; decide) ?_
  simp only [m_disk_named]; refine WKX @sz_s ?_; try with_reducible exact trivial
  exact dret ⟨rfl, rfl⟩
/-- Disk.Turn -/
def turnF (fs : List FileS) (n : Bs) (at' : Int) (by' : UInt8) : List FileS := match findF fs n with
  | none => fs
  | some j => let f := fs.getD j default; if 0 ≤ at' ∧ at' < f.2.1.length then fs.set j (n, f.2.1.set at'.toNat (gt f.2.1 at'.toNat ^^^ by'), f.2.2) else fs
def turnE (fs : List FileS) (n : Bs) (at' : Int) : Nat := match findF fs n with
  | none => 5
  | some j => let f := fs.getD j default; if 0 ≤ at' ∧ at' < f.2.1.length then 0 else 1
/-- Disk.Trim -/
def trimF (fs : List FileS) (n : Bs) (at' : Int) : List FileS := match findF fs n with
  | none => fs
  | some j => let f := fs.getD j default; if 0 ≤ at' ∧ at' ≤ f.2.1.length then fs.set j (n, f.2.1.take at'.toNat, min f.2.2 at'.toNat) else fs
def trimE (fs : List FileS) (n : Bs) (at' : Int) : Nat := match findF fs n with
  | none => 5
  | some j => let f := fs.getD j default; if 0 ≤ at' ∧ at' ≤ f.2.1.length then 0 else 1
theorem trim_a (fs : List FileS) (most : Nat) (n : Bs) (at' : Int) (hs : Small1 fs) (hn : n.length ≤ 1000) : DAct Try.prog f_disk_Disk_Trim (fun i => [.hp i 0, strD n, iD at']) (diskO fs most) (iD (trimE fs n at')) (diskO (trimF fs n at') most) := by
  intro i nx hi
  refine xcalls c_disk_Disk_Trim (by simp only [m_disk_Disk_Trim, List.length]; decide) ?_
  rw [show [(i, diskO fs most)] = [(i, .box t_disk_Disk [.mp (namesV fs) (fs.map fileO), iD most])] from rfl]
  simp only [m_disk_Disk_Trim]; refine WK ?_; try with_reducible exact trivial
  cases hfn : findF fs n with
  | none =>
    refine dlook_no (i := nx) (ks := namesV fs) (l := fs.map fileO) (key := strV n) (by refine WK ?_; try with_reducible exact trivial) (by refine WK ?_; try with_reducible exact trivial) (rget_here _ _ _) kd9 Try.underlying175 (z := .pointer none) zero179 (key_str (by omega)) (small_keys hs) (findF_none hfn) ?_
    refine WK ?_; try with_reducible exact trivial
    refine dret_rt (t' := .mk _) (disk_back0 (by omega)) ?_
    refine dret ⟨?_, ?_⟩ <;> simp only [trimE, trimF, hfn] <;> rfl
  | some j =>
    obtain ⟨f, hj, hfe⟩ := findF_some hfn
    have hgd : fs.getD j default = f := by rw [List.getD_eq_getElem?_getD, hj]; rfl
    have hsame : fs.set j (n, f.2.1, f.2.2) = fs := set_same (by rw [hj, ← hfe])
    refine dlook_box (i := nx) (j := j) (ks := namesV fs) (l := fs.map fileO) (key := strV n) (eb := t_disk_file) (lc := [bytesO f.2.1, iD f.2.2]) (by refine WK ?_; try with_reducible exact trivial) (by refine WK ?_; try with_reducible exact trivial) (rget_here _ _ _) kd9 Try.underlying175 (key_str (by omega)) (small_keys hs) (by unfold namesV; rw [List.getElem?_map, hj, ← hfe]; rfl) (by rw [List.getElem?_map, hj]; rfl) ?_
    rcases Decidable.em (at' < 0) with h0 | h0
    · refine WK ?_; try with_reducible exact trivial
      refine dret_rt (t' := .mk _) (disk_back n f.2.1 f.2.2 hj hfe (by omega) (by omega) (by omega)) ?_
      rw [hsame]
      refine dret ⟨?_, ?_⟩ <;> simp only [trimE, trimF, hfn, hgd, show ¬ (0 ≤ at' ∧ at' ≤ (f.2.1.length : Int)) from fun h => by omega, if_false] <;> rfl
    · obtain ⟨a, rfl⟩ := Int.eq_ofNat_of_zero_le (Int.not_lt.1 h0)
      rcases Nat.lt_or_ge f.2.1.length a with h1 | h1
      · refine WK ?_; try with_reducible exact trivial
        refine dret_rt (t' := .mk _) (disk_back1 n f.2.1 f.2.2 hj hfe (by omega) (by omega) (by omega) (by omega) (by omega) (by omega)) ?_
        rw [hsame]
        refine dret ⟨?_, ?_⟩ <;> simp only [trimE, trimF, hfn, hgd, show ¬ (0 ≤ (a : Int) ∧ (a : Int) ≤ (f.2.1.length : Int)) from fun h => by omega, if_false] <;> rfl
      · refine WK ?_; try with_reducible exact trivial
        refine ocut ?_
        refine WK ?_; try with_reducible exact trivial
        refine ofrz ?_
        refine WK ?_; try with_reducible exact trivial
        have er : D.row tU8 1 a ((f.2.1.map bD).take a) = bytesO (f.2.1.take a) := by simp only [bytesO, List.length_take, Nat.min_eq_left h1, List.map_take]
        rw [er, show min (f.2.2 : Int) (a : Int) = ((min f.2.2 a : Nat) : Int) by omega]
        refine dret_rt (t' := .mk _) (disk_back1 n (f.2.1.take a) (min f.2.2 a) hj hfe (by omega) (by omega) (by omega) (by omega) (by omega) (by omega)) ?_
        refine dret ⟨?_, ?_⟩ <;> simp only [trimE, trimF, hfn, hgd, show (0 ≤ (a : Int) ∧ (a : Int) ≤ (f.2.1.length : Int)) from ⟨by omega, by omega⟩, and_self, if_true, Int.toNat_natCast] <;> rfl
end Go.Proofs.Ytgpkbldlkadnjaa
end
section
/- Contracts over data: the disk, part 2. -/
set_option linter.unusedVariables false
set_option linter.unusedSimpArgs false
set_option maxHeartbeats 3000000
attribute [local irreducible] Go.Sl.Chk Go.Sl.Br Go.Sl.Or2 Go.Sl.Ld Go.Sl.Ldn Go.Sl.LdB Go.Sl.Stn Go.Sl.New Go.Sl.Run Go.Sl.RunU Go.Sl.RunX Go.Sl.Call Go.Sl.LoopK Go.Sl.RawK Go.Sl.Alt Go.Sl.Om Go.Sl.xpk Go.Sl.xgpk Go.Sl.xglk Go.Sl.DLd Go.Sl.DLdG Go.Sl.DBs Go.Sl.DCall Go.Sl.DApp Go.Sl.DGen Go.Sl.DGenU Go.Sl.DGC Go.Sl.DLoop Go.Sl.DRaw Go.Sl.DRet Go.Sl.Ent Go.Sl.dget Go.Sl.dv Go.Sl.ev Go.Sl.eget
namespace Go.Proofs.Ytgpkbldlkadnjaa
open Go Go.Sl Go.RowKit
def usedN (fs : List FileS) : Nat := (fs.map fun f => f.2.1.length).sum
theorem sum_all (fs : List FileS) : ((List.range fs.length).map fun j => (fs.getD j default).2.1.length).sum = usedN fs := by
  rw [usedN]
  congr 1
  refine List.ext_getElem (by simp) fun k h1 h2 => ?_
  simp at h1
  simp [List.getD_eq_getElem?_getD, h1]
theorem perm_filter {S : List Nat} {N : Nat} (h : S.Nodup) (hl : ∀ j ∈ S, j < N) : S.Perm ((List.range N).filter fun j => decide (j ∈ S)) :=
  (List.perm_ext_iff_of_nodup h (List.nodup_range.filter _)).2 fun j => by
    simp only [List.mem_filter, List.mem_range, decide_eq_true_eq]
    exact ⟨fun hj => ⟨hl j hj, hj⟩, fun hj => hj.2⟩
theorem nodup_le {S : List Nat} {N : Nat} (h : S.Nodup) (hl : ∀ j ∈ S, j < N) : S.length ≤ N := by
  rw [(perm_filter h hl).length_eq]
  have := List.length_filter_le (fun j => decide (j ∈ S)) (List.range N)
  simpa using this
theorem sum_filter_le (p : Nat → Bool) (g : Nat → Nat) : ∀ l : List Nat, ((l.filter p).map g).sum ≤ (l.map g).sum
  | [] => by simp
  | x :: l => by
    have := sum_filter_le p g l
    rw [List.filter_cons]
    split
    · simp only [List.map_cons, List.sum_cons]; omega
    · simp only [List.map_cons, List.sum_cons]; omega
theorem sum_part {S : List Nat} {fs : List FileS} (h : S.Nodup) (hl : ∀ j ∈ S, j < fs.length) : (S.map fun j => (fs.getD j default).2.1.length).sum ≤ usedN fs := by
  rw [((perm_filter h hl).map _).sum_nat, ← sum_all]
  exact sum_filter_le _ _ _
theorem perm_range {S : List Nat} {N : Nat} (h : S.Nodup) (hl : ∀ j ∈ S, j < N) (ha : ∀ j, j < N → j ∈ S) : S.Perm (List.range N) :=
  (List.perm_ext_iff_of_nodup h List.nodup_range).2 fun j => ⟨fun hj => List.mem_range.2 (hl j hj), fun hj => ha j (List.mem_range.1 hj)⟩
/-- Disk.Used, where the disk's box is lent -/
theorem used_l (fs : List FileS) (most : Nat) (hs : Small1 fs) (hu : usedN fs ≤ 1000000) {i m nx : Nat} (hi : i < nx) (hm : m < nx) (hne : m ≠ i) : DCalls Try.prog f_disk_Disk_Used [.hp i 0] [(m, .mp (namesV fs) (fs.map fileO)), (i, .fbx [.h m, iD most])] nx (fun d ro _ => d = iD (usedN fs) ∧ ro = [(m, .mp (namesV fs) (fs.map fileO)), (i, .fbx [.h m, iD most])]) := by
  refine xcalls c_disk_Disk_Used (by simp only [m_disk_Disk_Used, List.length]; decide) ?_
  simp only [m_disk_Disk_Used]; refine WK ?_; try with_reducible exact trivial
  refine drange (im := m) (ks := namesV fs) (l := fs.map fileO) (by refine WK ?_; try with_reducible exact trivial) (rget_here _ _ _) Try.underlying175 ?_
  refine WK ?_; try with_reducible exact trivial
  refine dloop [0, 3, 10] (fun s : List Nat × Nat => ([(0, .hp i 0), (3, iD ((s.1.map fun j => (fs.getD j default).2.1.length).sum : Nat)), (10, .h (nx))], [(nx, .abs (ItA m (namesV fs) (fs.map fileO) s.1)), (i, .fbx [.h m, iD most])], s.2)) (fun s => s.1.Nodup ∧ (∀ j ∈ s.1, j < fs.length) ∧ nx < s.2) (fun s => fs.length - s.1.length) ([], nx + 1) ⟨List.nodup_nil, by simp, by dsimp only; omega⟩ (Ent.of (by with_unfolding_all rfl) rfl) ?_
  rintro ⟨S, n⟩ ⟨hS, hSl, hn⟩
  dsimp only at hS hSl hn ⊢
  have hSlen : S.length ≤ fs.length := nodup_le hS hSl
  refine WK ?_; try with_reducible exact trivial
  refine dnext (ni := nx) (im := m) (ks := namesV fs) (l := fs.map fileO) (S := S) (by refine WK ?_; try with_reducible exact trivial) (rget_here _ _ _) (by simp) (fun hall => ?_) (fun j key hj hjS => ?_)
  · refine WK ?_; try with_reducible exact trivial
    have hp : S.Perm (List.range fs.length) := perm_range hS hSl (fun j hj => hall j (by unfold namesV; rw [List.length_map]; exact hj))
    have hsum : (S.map fun j => (fs.getD j default).2.1.length).sum = usedN fs := by
      rw [(hp.map _).sum_nat, sum_all]
    rw [hsum]
    refine dret_rt (t' := .mk _) (RT.itdone nx m (rget_here _ _ _)) ?_
    rw [rdel_here]
    exact dret ⟨rfl, rfl⟩
  · have hjl : j < fs.length := by have := (List.getElem?_eq_some_iff.1 hj).1; unfold namesV at this; rwa [List.length_map] at this
    have hfj : fs[j]? = some fs[j] := List.getElem?_eq_getElem hjl
    have hgd : fs.getD j default = fs[j] := by rw [List.getD_eq_getElem?_getD, hfj]; rfl
    refine WK ?_; try with_reducible exact trivial
    refine dentry_box (ni := nx) (im := m) (j := j) (ks := namesV fs) (l := fs.map fileO) (S := S) (key := key) (eb := t_disk_file) (lc := [bytesO fs[j].2.1, iD fs[j].2.2]) (by refine WK ?_; try with_reducible exact trivial) (rget_here _ _ _) hj (by rw [List.getElem?_map, hfj]; rfl) ?_
    have hS2 : (S ++ [j]).Nodup := List.nodup_append.2 ⟨hS, by simp, by simp only [List.mem_singleton]; rintro a ha b rfl e; exact hjS (e ▸ ha)⟩
    have hSl2 : ∀ k ∈ S ++ [j], k < fs.length := fun k hk => by
      rcases List.mem_append.1 hk with h | h
      · exact hSl k h
      · simp only [List.mem_singleton] at h; omega
    have hpart := sum_part hS2 hSl2
    have hadd : ((S ++ [j]).map fun j => (fs.getD j default).2.1.length).sum = (S.map fun j => (fs.getD j default).2.1.length).sum + fs[j].2.1.length := by
      rw [List.map_append, List.sum_append, List.map_cons, List.map_nil, List.sum_cons, hgd]; rfl
    refine WK ?_; try with_reducible exact trivial
    refine ⟨(S ++ [j], n + 2), ⟨hS2, hSl2, by dsimp only; omega⟩, by dsimp only; rw [List.length_append, List.length_singleton]; have := nodup_le hS2 hSl2; rw [List.length_append, List.length_singleton] at this; omega, ?_⟩
    dsimp only
    rw [hadd]
    have f1 := RT.fold (r := [(n + 1, bytesO fs[j].2.1), (n, .box t_disk_file [.h (n + 1), iD fs[j].2.2]), (nx, .abs (ItA m (namesV fs) ((fs.map fileO).set j (.hp n 0)) (S ++ [j]))), (i, .fbx [.h m, iD most])]) (n + 1) n 0 (d := bytesO fs[j].2.1) (c := .box t_disk_file [.h (n + 1), iD fs[j].2.2]) (l := [.h (n + 1), iD fs[j].2.2]) (by refine WK ?_; try with_reducible exact trivial) (by omega) (by refine WK ?_; try with_reducible exact trivial) rfl rfl
    simp -dsimp (disch := omega) only [↓MC.xwp, ↓xopsWp, ↓xdr, ↓MOp.xwp, dvs, dv, dvu, dvo, dvp, dgb, dGd, dBool, cond_true, cond_false, asFn, dget, dput, dput?, dead?, dres, ptr, bsc, cv, uo, uof, unopt, xpr, xdevr, xev0, cutK, cutN, xldk, xldn, xbsk, xst, xgp, glc, vExt, vFldA, vFld, vFad, vIxs, vIxa, vIxvA, vIxv, vSls, vLen, vPick, vNilc, vIsnil, dev0, devr, dsl, dif, dcells, dover, dbuild, scs, rowOf, strideOf, dtk, dtake, done1, pev, pbin, pint, pbool, pstr, psl, vnil, ↓thenD, ↓blockD, ↓retX, ↓xres, xcell, tupD, argD, dkeep, ckLive, kp, xdone, xheld, dstD, isLdM, ldOp, ldIds, ldSlots, selfOk, nb, dst1, inDone, allDone, apart, slotsApart, heldAll, heldOk, Op.operands, Nat.reduceAdd, forall_eq_or_imp, D.plain, reduceCtorEq, if_true, if_false, ↓reduceIte, ne_eq, Bool.cond_true, Bool.cond_false, forall_const, implies_true, forall_eq, Int.reduceEq, Int.reduceLT, Int.reduceLE, Int.reduceAdd, Int.reduceSub, Int.reduceMul, Int.reduceToNat, Nat.reduceMul, Nat.reduceLeDiff, Nat.reduceLT, Nat.reduceSub, Nat.reduceBEq, Nat.reduceEqDiff, matD, bytesD, iD, intsD, boolD, strD, bD, DB, withKids, List.set_cons_zero] at f1
    have f2 := RT.itfold (r := [(n, .box t_disk_file [bytesO fs[j].2.1, iD fs[j].2.2]), (nx, .abs (ItA m (namesV fs) ((fs.map fileO).set j (.hp n 0)) (S ++ [j]))), (i, .fbx [.h m, iD most])]) n nx m j (ks := namesV fs) (l := (fs.map fileO).set j (.hp n 0)) (S := S ++ [j]) (d := .box t_disk_file [bytesO fs[j].2.1, iD fs[j].2.2]) (rget_here _ _ _) (by omega) (by rw [rget_there (by omega), rget_here]) (List.getElem?_set_self (by rw [List.length_map]; exact hjl))
    have e1 : ((fs.map fileO).set j (.hp n 0)).set j (.box t_disk_file [bytesO fs[j].2.1, iD fs[j].2.2]) = fs.map fileO := by
      rw [List.set_set]
      exact set_same (by rw [List.getElem?_map, hfj]; rfl)
    rw [e1] at f2
    simp -dsimp (disch := omega) only [↓MC.xwp, ↓xopsWp, ↓xdr, ↓MOp.xwp, dvs, dv, dvu, dvo, dvp, dgb, dGd, dBool, cond_true, cond_false, asFn, dget, dput, dput?, dead?, dres, ptr, bsc, cv, uo, uof, unopt, xpr, xdevr, xev0, cutK, cutN, xldk, xldn, xbsk, xst, xgp, glc, vExt, vFldA, vFld, vFad, vIxs, vIxa, vIxvA, vIxv, vSls, vLen, vPick, vNilc, vIsnil, dev0, devr, dsl, dif, dcells, dover, dbuild, scs, rowOf, strideOf, dtk, dtake, done1, pev, pbin, pint, pbool, pstr, psl, vnil, ↓thenD, ↓blockD, ↓retX, ↓xres, xcell, tupD, argD, dkeep, ckLive, kp, xdone, xheld, dstD, isLdM, ldOp, ldIds, ldSlots, selfOk, nb, dst1, inDone, allDone, apart, slotsApart, heldAll, heldOk, Op.operands, Nat.reduceAdd, forall_eq_or_imp, D.plain, reduceCtorEq, if_true, if_false, ↓reduceIte, ne_eq, Bool.cond_true, Bool.cond_false, forall_const, implies_true, forall_eq, Int.reduceEq, Int.reduceLT, Int.reduceLE, Int.reduceAdd, Int.reduceSub, Int.reduceMul, Int.reduceToNat, Nat.reduceMul, Nat.reduceLeDiff, Nat.reduceLT, Nat.reduceSub, Nat.reduceBEq, Nat.reduceEqDiff, matD, bytesD, iD, intsD, boolD, strD, bD, DB] at f2
    refine (Ent.of_rt (f1.trans f2)).trans ?_
    exact (Ent.of (by with_unfolding_all rfl) rfl)
end Go.Proofs.Ytgpkbldlkadnjaa
end
section
/- Contracts over data: the disk, part 3. -/
set_option linter.unusedVariables false
set_option linter.unusedSimpArgs false
set_option maxHeartbeats 3000000
attribute [local irreducible] Go.Sl.Chk Go.Sl.Br Go.Sl.Or2 Go.Sl.Ld Go.Sl.Ldn Go.Sl.LdB Go.Sl.Stn Go.Sl.New Go.Sl.Run Go.Sl.RunU Go.Sl.RunX Go.Sl.Call Go.Sl.LoopK Go.Sl.RawK Go.Sl.Alt Go.Sl.Om Go.Sl.xpk Go.Sl.xgpk Go.Sl.xglk Go.Sl.DLd Go.Sl.DLdG Go.Sl.DBs Go.Sl.DCall Go.Sl.DApp Go.Sl.DGen Go.Sl.DGenU Go.Sl.DGC Go.Sl.DLoop Go.Sl.DRaw Go.Sl.DRet Go.Sl.Ent Go.Sl.dget Go.Sl.dv Go.Sl.ev Go.Sl.eget
namespace Go.Proofs.Ytgpkbldlkadnjaa
open Go Go.Sl Go.RowKit
def appF (fs : List FileS) (most : Nat) (n b : Bs) : List FileS :=
  if namedB n = false then fs else if (most : Int) - usedN fs < b.length then fs else
  match findF fs n with
  | none => fs ++ [(n, b, 0)]
  | some j => fs.set j (n, (fs.getD j default).2.1 ++ b, (fs.getD j default).2.2)
def appE (fs : List FileS) (most : Nat) (n b : Bs) : Nat :=
  if namedB n = false then 1 else if (most : Int) - usedN fs < b.length then 4 else 0
theorem dcalls_imp {P : Program} {f : FuncId} {ds : List D} {r : Roots} {nx : Nat} {Q Q' : D → Roots → Nat → Prop} (h : DCalls P f ds r nx Q) (k : ∀ d ro nx', nx ≤ nx' → Q d ro nx' → Q' d ro nx') : DCalls P f ds r nx Q' := fun w Z T F vs ok hrs =>
  (h w Z T F vs ok hrs).mono fun en w' ⟨v, hv, d, r', nx', Z', T', F', o1, o2, o3⟩ => ⟨v, hv, d, r', nx', Z', T', F', o1, o2, k d r' nx' o1.ge o3⟩
/-- Disk.Append -/
theorem append_a (fs : List FileS) (most : Nat) (n b : Bs) (hs : Small1 fs) (hu : usedN fs ≤ 1000000) (hm : most ≤ 1000000) (hn : n.length ≤ 1000) (hb : b.length ≤ 1000000) : DAct Try.prog f_disk_Disk_Append (fun i => [.hp i 0, strD n, bytesD b]) (diskO fs most) (iD (appE fs most n b)) (diskO (appF fs most n b) most) := by
  intro i nx hi
  refine xcalls c_disk_Disk_Append (by simp only [m_disk_Disk_Append, List.length]; decide) ?_
  simp only [m_disk_Disk_Append]; refine WK ?_; try with_reducible exact trivial
  refine dfun (named_d n) fun n1 h1 => ?_
  refine WK ?_; try with_reducible exact trivial
  cases hnm : namedB n with
  | false =>
    refine WK ?_; try with_reducible exact trivial
    refine dret ⟨?_, ?_⟩ <;> simp only [appE, appF, hnm, if_true] <;> rfl
  | true =>
    rw [show [(i, diskO fs most)] = [(i, .box t_disk_Disk [.mp (namesV fs) (fs.map fileO), iD most])] from rfl]
    refine WK ?_; try with_reducible exact trivial
    refine dcall_take i 0 (t' := .mk _) (rget_here _ _ _) rfl (by simp) ?_
    rw [rset_here, List.set_cons_zero]
    refine dcall_lend i (eb := t_disk_Disk) (l := [.h n1, iD most]) (by rw [rget_there (by omega)]; exact rget_here _ _ _) (by simp [D.plain]) ?_ (by simp)
    have hul := used_l fs most hs hu (i := i) (m := n1) (nx := n1 + 1) (by omega) (by omega) (by omega)
    rw [rset_there (by omega), rset_here]
    refine dcalls_imp hul fun d ro n2 h2 ⟨hd, hro⟩ => ?_
    subst hd; subst hro
    refine ⟨by refine WK ?_; try with_reducible exact trivial, ?_, noZs_sc _, ?_⟩
    · rw [rdel_there (by omega), rdel_here]
      intro p hp
      simp only [List.mem_singleton] at hp
      subst hp
      refine noZ_mp fun d hd => ?_
      obtain ⟨f, _, rfl⟩ := List.mem_map.1 hd
      refine noZ_box fun d hd => ?_
      simp only [List.mem_cons, List.not_mem_nil, or_false] at hd
      rcases hd with rfl | rfl
      · exact bytesO_noZ _
      · exact noZ_sc _
    rw [rdel_there (by omega), rdel_here]
    refine WK ?_; try with_reducible exact trivial
    have hpk := RT.only (r := [(i, .box t_disk_Disk [.h n1, iD most]), (n1, .mp (namesV fs) (fs.map fileO))]) [n1, i]
    simp -dsimp (disch := omega) only [↓MC.xwp, ↓xopsWp, ↓xdr, ↓MOp.xwp, dvs, dv, dvu, dvo, dvp, dgb, dGd, dBool, cond_true, cond_false, asFn, dget, dput, dput?, dead?, dres, ptr, bsc, cv, uo, uof, unopt, xpr, xdevr, xev0, cutK, cutN, xldk, xldn, xbsk, xst, xgp, glc, vExt, vFldA, vFld, vFad, vIxs, vIxa, vIxvA, vIxv, vSls, vLen, vPick, vNilc, vIsnil, dev0, devr, dsl, dif, dcells, dover, dbuild, scs, rowOf, strideOf, dtk, dtake, done1, pev, pbin, pint, pbool, pstr, psl, vnil, ↓thenD, ↓blockD, ↓retX, ↓xres, xcell, tupD, argD, dkeep, ckLive, kp, xdone, xheld, dstD, isLdM, ldOp, ldIds, ldSlots, selfOk, nb, dst1, inDone, allDone, apart, slotsApart, heldAll, heldOk, Op.operands, Nat.reduceAdd, forall_eq_or_imp, D.plain, reduceCtorEq, if_true, if_false, ↓reduceIte, ne_eq, Bool.cond_true, Bool.cond_false, forall_const, implies_true, forall_eq, Int.reduceEq, Int.reduceLT, Int.reduceLE, Int.reduceAdd, Int.reduceSub, Int.reduceMul, Int.reduceToNat, Nat.reduceMul, Nat.reduceLeDiff, Nat.reduceLT, Nat.reduceSub, Nat.reduceBEq, Nat.reduceEqDiff, matD, bytesD, iD, intsD, boolD, strD, bD, DB, rpick] at hpk
    refine brd (fun hful => ?_) (fun hful => ?_)
    · refine WK ?_; try with_reducible exact trivial
      refine dret_rt (t' := .mk _) (hpk.trans (disk_back0 (by omega))) ?_
      refine dret ⟨?_, ?_⟩ <;> simp only [appE, appF, hnm, hful, if_true, Bool.true_eq_false, if_false] <;> rfl
    · refine WK ?_; try with_reducible exact trivial
      cases hfn : findF fs n with
      | none =>
        refine dlook_no (i := n1) (ks := namesV fs) (l := fs.map fileO) (key := strV n) (by refine WK ?_; try with_reducible exact trivial) (by refine WK ?_; try with_reducible exact trivial) (by rw [rget_there (by omega), rget_here]) kd9 Try.underlying175 (z := .pointer none) zero179 (key_str (by omega)) (small_keys hs) (findF_none hfn) ?_
        refine WK ?_; try with_reducible exact trivial
        refine dmapput_no (i := n1) (ks := namesV fs) (l := fs.map fileO) (key := strV n) (d := .hp n2 0) (by refine WK ?_; try with_reducible exact trivial) (by refine WK ?_; try with_reducible exact trivial) (by refine WK ?_; try with_reducible exact trivial) (by refine WK ?_; try with_reducible exact trivial) kd9 Try.underlying175 (key_str (by omega)) (small_keys hs) (findF_none hfn) (by simp only [D.plain]) (by simp) ?_
        have hks2 : ∀ x ∈ namesV fs ++ [strV n], ∃ l, keyOf Try.prog 9 x = some l := fun x hx => by
          rcases List.mem_append.1 hx with h | h
          · exact small_keys hs x h
          · simp only [List.mem_singleton] at h; subst h; exact ⟨_, key_str (by omega)⟩
        have hll : (namesV fs).length = fs.length := by unfold namesV; rw [List.length_map]
        have hg2 : (fs.map fileO ++ [D.hp n2 0])[fs.length]? = some (.hp n2 0) := by rw [List.getElem?_append_right (by rw [List.length_map]; exact Nat.le_refl _), List.length_map, Nat.sub_self]; rfl
        refine WK ?_; try with_reducible exact trivial
        refine dlook_at (i := n1) (j := fs.length) (ks := namesV fs ++ [strV n]) (l := fs.map fileO ++ [.hp n2 0]) (key := strV n) (d := .hp n2 0) (by refine WK ?_; try with_reducible exact trivial) (by refine WK ?_; try with_reducible exact trivial) (by refine WK ?_; try with_reducible exact trivial) kd9 Try.underlying175 (key_str (by omega)) hks2 (by rw [List.getElem?_append_right (by omega), hll, Nat.sub_self]; rfl) hg2 (by simp only [D.plain]) ?_
        refine WK ?_; try with_reducible exact trivial
        refine dapp_nil (m := b.length) (l' := b.map bD) elB (DSrc.sl _ _ _) (by simp) bDs_done (by omega) (by omega) ?_
        refine WK ?_; try with_reducible exact trivial
        have f1 := RT.fold (r := [(n2 + 1, bytesO b), (n2, .box t_disk_file [.h (n2 + 1), .sc (.int .i64 0)]), (i, .box t_disk_Disk [.h n1, iD most]), (n1, .mp (namesV fs ++ [strV n]) (fs.map fileO ++ [.hp n2 0]))]) (n2 + 1) n2 0 (d := bytesO b) (c := .box t_disk_file [.h (n2 + 1), .sc (.int .i64 0)]) (l := [.h (n2 + 1), .sc (.int .i64 0)]) (rget_here _ _ _) (by omega) (by refine WK ?_; try with_reducible exact trivial) rfl rfl
        simp -dsimp (disch := omega) only [↓MC.xwp, ↓xopsWp, ↓xdr, ↓MOp.xwp, dvs, dv, dvu, dvo, dvp, dgb, dGd, dBool, cond_true, cond_false, asFn, dget, dput, dput?, dead?, dres, ptr, bsc, cv, uo, uof, unopt, xpr, xdevr, xev0, cutK, cutN, xldk, xldn, xbsk, xst, xgp, glc, vExt, vFldA, vFld, vFad, vIxs, vIxa, vIxvA, vIxv, vSls, vLen, vPick, vNilc, vIsnil, dev0, devr, dsl, dif, dcells, dover, dbuild, scs, rowOf, strideOf, dtk, dtake, done1, pev, pbin, pint, pbool, pstr, psl, vnil, ↓thenD, ↓blockD, ↓retX, ↓xres, xcell, tupD, argD, dkeep, ckLive, kp, xdone, xheld, dstD, isLdM, ldOp, ldIds, ldSlots, selfOk, nb, dst1, inDone, allDone, apart, slotsApart, heldAll, heldOk, Op.operands, Nat.reduceAdd, forall_eq_or_imp, D.plain, reduceCtorEq, if_true, if_false, ↓reduceIte, ne_eq, Bool.cond_true, Bool.cond_false, forall_const, implies_true, forall_eq, Int.reduceEq, Int.reduceLT, Int.reduceLE, Int.reduceAdd, Int.reduceSub, Int.reduceMul, Int.reduceToNat, Nat.reduceMul, Nat.reduceLeDiff, Nat.reduceLT, Nat.reduceSub, Nat.reduceBEq, Nat.reduceEqDiff, matD, bytesD, iD, intsD, boolD, strD, bD, DB, withKids, List.set_cons_zero] at f1
        have f2 := RT.fold (r := [(n2, .box t_disk_file [bytesO b, .sc (.int .i64 0)]), (i, .box t_disk_Disk [.h n1, iD most]), (n1, .mp (namesV fs ++ [strV n]) (fs.map fileO ++ [.hp n2 0]))]) n2 n1 fs.length (d := .box t_disk_file [bytesO b, .sc (.int .i64 0)]) (c := .mp (namesV fs ++ [strV n]) (fs.map fileO ++ [.hp n2 0])) (l := fs.map fileO ++ [.hp n2 0]) (rget_here _ _ _) (by omega) (by refine WK ?_; try with_reducible exact trivial) rfl hg2
        have es : (fs.map fileO ++ [D.hp n2 0]).set fs.length (.box t_disk_file [bytesO b, .sc (.int .i64 0)]) = (fs ++ [(n, b, 0)]).map fileO := by
          rw [List.set_append_right _ _ (by rw [List.length_map]; exact Nat.le_refl _), List.length_map, Nat.sub_self, List.map_append]
          rfl
        have en : namesV fs ++ [strV n] = namesV (fs ++ [(n, b, 0)]) := by unfold namesV; rw [List.map_append]; rfl
        simp only [withKids] at f2
        rw [es] at f2
        simp -dsimp (disch := omega) only [↓MC.xwp, ↓xopsWp, ↓xdr, ↓MOp.xwp, dvs, dv, dvu, dvo, dvp, dgb, dGd, dBool, cond_true, cond_false, asFn, dget, dput, dput?, dead?, dres, ptr, bsc, cv, uo, uof, unopt, xpr, xdevr, xev0, cutK, cutN, xldk, xldn, xbsk, xst, xgp, glc, vExt, vFldA, vFld, vFad, vIxs, vIxa, vIxvA, vIxv, vSls, vLen, vPick, vNilc, vIsnil, dev0, devr, dsl, dif, dcells, dover, dbuild, scs, rowOf, strideOf, dtk, dtake, done1, pev, pbin, pint, pbool, pstr, psl, vnil, ↓thenD, ↓blockD, ↓retX, ↓xres, xcell, tupD, argD, dkeep, ckLive, kp, xdone, xheld, dstD, isLdM, ldOp, ldIds, ldSlots, selfOk, nb, dst1, inDone, allDone, apart, slotsApart, heldAll, heldOk, Op.operands, Nat.reduceAdd, forall_eq_or_imp, D.plain, reduceCtorEq, if_true, if_false, ↓reduceIte, ne_eq, Bool.cond_true, Bool.cond_false, forall_const, implies_true, forall_eq, Int.reduceEq, Int.reduceLT, Int.reduceLE, Int.reduceAdd, Int.reduceSub, Int.reduceMul, Int.reduceToNat, Nat.reduceMul, Nat.reduceLeDiff, Nat.reduceLT, Nat.reduceSub, Nat.reduceBEq, Nat.reduceEqDiff, matD, bytesD, iD, intsD, boolD, strD, bD, DB] at f2
        have f3 := RT.only (r := [(i, .box t_disk_Disk [.h n1, iD most]), (n1, .mp (namesV (fs ++ [(n, b, 0)])) ((fs ++ [(n, b, 0)]).map fileO))]) [n1, i]
        simp -dsimp (disch := omega) only [↓MC.xwp, ↓xopsWp, ↓xdr, ↓MOp.xwp, dvs, dv, dvu, dvo, dvp, dgb, dGd, dBool, cond_true, cond_false, asFn, dget, dput, dput?, dead?, dres, ptr, bsc, cv, uo, uof, unopt, xpr, xdevr, xev0, cutK, cutN, xldk, xldn, xbsk, xst, xgp, glc, vExt, vFldA, vFld, vFad, vIxs, vIxa, vIxvA, vIxv, vSls, vLen, vPick, vNilc, vIsnil, dev0, devr, dsl, dif, dcells, dover, dbuild, scs, rowOf, strideOf, dtk, dtake, done1, pev, pbin, pint, pbool, pstr, psl, vnil, ↓thenD, ↓blockD, ↓retX, ↓xres, xcell, tupD, argD, dkeep, ckLive, kp, xdone, xheld, dstD, isLdM, ldOp, ldIds, ldSlots, selfOk, nb, dst1, inDone, allDone, apart, slotsApart, heldAll, heldOk, Op.operands, Nat.reduceAdd, forall_eq_or_imp, D.plain, reduceCtorEq, if_true, if_false, ↓reduceIte, ne_eq, Bool.cond_true, Bool.cond_false, forall_const, implies_true, forall_eq, Int.reduceEq, Int.reduceLT, Int.reduceLE, Int.reduceAdd, Int.reduceSub, Int.reduceMul, Int.reduceToNat, Nat.reduceMul, Nat.reduceLeDiff, Nat.reduceLT, Nat.reduceSub, Nat.reduceBEq, Nat.reduceEqDiff, matD, bytesD, iD, intsD, boolD, strD, bD, DB, rpick] at f3
        have f4 := RT.trans f3 (disk_back0 (by omega))
        rw [← en] at f4
        refine dret_rt (t' := .mk _) ((RT.trans f1 f2).trans f4) ?_
        refine dret ⟨?_, ?_⟩ <;> simp only [appE, appF, hnm, hful, hfn, Bool.true_eq_false, if_false] <;> rfl
      | some j =>
        obtain ⟨f, hj, hfe⟩ := findF_some hfn
        have hsf := hs f (List.mem_of_getElem? hj)
        have hgd : fs.getD j default = f := by rw [List.getD_eq_getElem?_getD, hj]; rfl
        have hlt := (List.getElem?_eq_some_iff.1 hj).1
        have hkj : (namesV fs)[j]? = some (strV n) := by unfold namesV; rw [List.getElem?_map, hj, ← hfe]; rfl
        refine dlook_box (i := n1) (j := j) (ks := namesV fs) (l := fs.map fileO) (key := strV n) (eb := t_disk_file) (lc := [bytesO f.2.1, iD f.2.2]) (by refine WK ?_; try with_reducible exact trivial) (by refine WK ?_; try with_reducible exact trivial) (by rw [rget_there (by omega), rget_here]) kd9 Try.underlying175 (key_str (by omega)) (small_keys hs) hkj (by rw [List.getElem?_map, hj]; rfl) ?_
        refine WK ?_; try with_reducible exact trivial
        refine dlook_at (i := n1) (j := j) (ks := namesV fs) (l := (fs.map fileO).set j (.hp n2 0)) (key := strV n) (d := .hp n2 0) (by refine WK ?_; try with_reducible exact trivial) (by refine WK ?_; try with_reducible exact trivial) (by refine WK ?_; try with_reducible exact trivial) kd9 Try.underlying175 (key_str (by omega)) (small_keys hs) hkj (List.getElem?_set_self (by rw [List.length_map]; exact hlt)) (by simp only [D.plain]) ?_
        refine WK ?_; try with_reducible exact trivial
        refine dapp (i := n2 + 1) (m := b.length) (l' := b.map bD) elB (l := f.2.1.map bD) (n := f.2.1.length) (by refine WK ?_; try with_reducible exact trivial) (DSrc.sl _ _ _) (by simp) bDs_done (by omega) (by omega) (by simp) ?_
        refine WK ?_; try with_reducible exact trivial
        have er : D.row 5 1 (f.2.1.length + b.length) (f.2.1.map bD ++ b.map bD) = bytesO (f.2.1 ++ b) := by simp only [bytesO, List.length_append, List.map_append]
        rw [er]
        have f3 := RT.only (r := [(n2 + 2, bytesO (f.2.1 ++ b)), (n2, .box t_disk_file [.h (n2 + 2), iD f.2.2]), (i, .box t_disk_Disk [.h n1, iD most]), (n1, .mp (namesV fs) ((fs.map fileO).set j (.hp n2 0)))]) [n2 + 2, n2, n1, i]
        simp -dsimp (disch := omega) only [↓MC.xwp, ↓xopsWp, ↓xdr, ↓MOp.xwp, dvs, dv, dvu, dvo, dvp, dgb, dGd, dBool, cond_true, cond_false, asFn, dget, dput, dput?, dead?, dres, ptr, bsc, cv, uo, uof, unopt, xpr, xdevr, xev0, cutK, cutN, xldk, xldn, xbsk, xst, xgp, glc, vExt, vFldA, vFld, vFad, vIxs, vIxa, vIxvA, vIxv, vSls, vLen, vPick, vNilc, vIsnil, dev0, devr, dsl, dif, dcells, dover, dbuild, scs, rowOf, strideOf, dtk, dtake, done1, pev, pbin, pint, pbool, pstr, psl, vnil, ↓thenD, ↓blockD, ↓retX, ↓xres, xcell, tupD, argD, dkeep, ckLive, kp, xdone, xheld, dstD, isLdM, ldOp, ldIds, ldSlots, selfOk, nb, dst1, inDone, allDone, apart, slotsApart, heldAll, heldOk, Op.operands, Nat.reduceAdd, forall_eq_or_imp, D.plain, reduceCtorEq, if_true, if_false, ↓reduceIte, ne_eq, Bool.cond_true, Bool.cond_false, forall_const, implies_true, forall_eq, Int.reduceEq, Int.reduceLT, Int.reduceLE, Int.reduceAdd, Int.reduceSub, Int.reduceMul, Int.reduceToNat, Nat.reduceMul, Nat.reduceLeDiff, Nat.reduceLT, Nat.reduceSub, Nat.reduceBEq, Nat.reduceEqDiff, matD, bytesD, iD, intsD, boolD, strD, bD, DB, rpick] at f3
        refine dret_rt (t' := .mk _) (RT.trans f3 (disk_back1 n (f.2.1 ++ b) f.2.2 hj hfe (by omega) (by omega) (by omega) (by omega) (by omega) (by omega))) ?_
        refine dret ⟨?_, ?_⟩ <;> simp only [appE, appF, hnm, hful, hfn, hgd, Bool.true_eq_false, if_false] <;> rfl
end Go.Proofs.Ytgpkbldlkadnjaa
end
section
/- Contracts over data: the disk, part 4. -/
set_option linter.unusedVariables false
set_option linter.unusedSimpArgs false
set_option maxHeartbeats 3000000
attribute [local irreducible] Go.Sl.Chk Go.Sl.Br Go.Sl.Or2 Go.Sl.Ld Go.Sl.Ldn Go.Sl.LdB Go.Sl.Stn Go.Sl.New Go.Sl.Run Go.Sl.RunU Go.Sl.RunX Go.Sl.Call Go.Sl.LoopK Go.Sl.RawK Go.Sl.Alt Go.Sl.Om Go.Sl.xpk Go.Sl.xgpk Go.Sl.xglk Go.Sl.DLd Go.Sl.DLdG Go.Sl.DBs Go.Sl.DCall Go.Sl.DApp Go.Sl.DGen Go.Sl.DGenU Go.Sl.DGC Go.Sl.DLoop Go.Sl.DRaw Go.Sl.DRet Go.Sl.Ent Go.Sl.dget Go.Sl.dv Go.Sl.ev Go.Sl.eget
namespace Go.Proofs.Ytgpkbldlkadnjaa
open Go Go.Sl Go.RowKit
def renF (fs : List FileS) (a b : Bs) : List FileS :=
  if namedB a = false ∨ namedB b = false then fs else match findF fs a with
  | none => fs
  | some j => match findF (fs.eraseIdx j) b with
    | none => fs.eraseIdx j ++ [(b, (fs.getD j default).2)]
    | some k => (fs.eraseIdx j).set k (b, (fs.getD j default).2)
def renE (fs : List FileS) (a b : Bs) : Nat := if namedB a = false ∨ namedB b = false then 1 else noneE fs a
end Go.Proofs.Ytgpkbldlkadnjaa
end
section
/- Contracts over data: the disk, part 5: a copy. -/
set_option linter.unusedVariables false
set_option linter.unusedSimpArgs false
set_option maxHeartbeats 3000000
attribute [local irreducible] Go.Sl.Chk Go.Sl.Br Go.Sl.Or2 Go.Sl.Ld Go.Sl.Ldn Go.Sl.LdB Go.Sl.Stn Go.Sl.New Go.Sl.Run Go.Sl.RunU Go.Sl.RunX Go.Sl.Call Go.Sl.LoopK Go.Sl.RawK Go.Sl.Alt Go.Sl.Om Go.Sl.xpk Go.Sl.xgpk Go.Sl.xglk Go.Sl.DLd Go.Sl.DLdG Go.Sl.DBs Go.Sl.DCall Go.Sl.DApp Go.Sl.DGen Go.Sl.DGenU Go.Sl.DGC Go.Sl.DLoop Go.Sl.DRaw Go.Sl.DRet Go.Sl.Ent Go.Sl.dget Go.Sl.dv Go.Sl.ev Go.Sl.eget
namespace Go.Proofs.Ytgpkbldlkadnjaa
open Go Go.Sl Go.RowKit
end Go.Proofs.Ytgpkbldlkadnjaa
end
section
/- Contracts over data: the disk: Names. -/
set_option linter.unusedVariables false
set_option linter.unusedSimpArgs false
set_option maxHeartbeats 3000000
attribute [local irreducible] Go.Sl.Chk Go.Sl.Br Go.Sl.Or2 Go.Sl.Ld Go.Sl.Ldn Go.Sl.LdB Go.Sl.Stn Go.Sl.New Go.Sl.Run Go.Sl.RunU Go.Sl.RunX Go.Sl.Call Go.Sl.LoopK Go.Sl.RawK Go.Sl.Alt Go.Sl.Om Go.Sl.xpk Go.Sl.xgpk Go.Sl.xglk Go.Sl.DLd Go.Sl.DLdG Go.Sl.DBs Go.Sl.DCall Go.Sl.DApp Go.Sl.DGen Go.Sl.DGenU Go.Sl.DGC Go.Sl.DLoop Go.Sl.DRaw Go.Sl.DRet Go.Sl.Ent Go.Sl.dget Go.Sl.dv Go.Sl.ev Go.Sl.eget
namespace Go.Proofs.Ytgpkbldlkadnjaa
open Go Go.Sl Go.RowKit
def strsO (l : List Bs) : D := .row tStr 1 l.length (l.map strD)
abbrev strsD (l : List Bs) : D := .sl l.length (l.map strD)
/-- the names, in order -/
def namesL (fs : List FileS) : List Bs := (fs.map fun f => f.1).mergeSort leB
end Go.Proofs.Ytgpkbldlkadnjaa
end
section
/- Contracts over data: a number's distance from 0. -/
set_option linter.unusedVariables false
set_option linter.unusedSimpArgs false
set_option maxHeartbeats 3000000
attribute [local irreducible] Go.Sl.Chk Go.Sl.Br Go.Sl.Or2 Go.Sl.Ld Go.Sl.Ldn Go.Sl.LdB Go.Sl.Stn Go.Sl.New Go.Sl.Run Go.Sl.RunU Go.Sl.RunX Go.Sl.Call Go.Sl.LoopK Go.Sl.RawK Go.Sl.Alt Go.Sl.Om Go.Sl.xpk Go.Sl.xgpk Go.Sl.xglk Go.Sl.DLd Go.Sl.DLdG Go.Sl.DBs Go.Sl.DCall Go.Sl.DApp Go.Sl.DGen Go.Sl.DGenU Go.Sl.DGC Go.Sl.DLoop Go.Sl.DRaw Go.Sl.DRet Go.Sl.Ent Go.Sl.dget Go.Sl.dv Go.Sl.ev Go.Sl.eget
namespace Go.Proofs.Ytgpkbldlkadnjaa
open Go Go.Sl Go.RowKit
end Go.Proofs.Ytgpkbldlkadnjaa
end
section
/- Contracts over data: the disk: Crash. -/
set_option linter.unusedVariables false
set_option linter.unusedSimpArgs false
set_option maxHeartbeats 3000000
attribute [local irreducible] Go.Sl.Chk Go.Sl.Br Go.Sl.Or2 Go.Sl.Ld Go.Sl.Ldn Go.Sl.LdB Go.Sl.Stn Go.Sl.New Go.Sl.Run Go.Sl.RunU Go.Sl.RunX Go.Sl.Call Go.Sl.LoopK Go.Sl.RawK Go.Sl.Alt Go.Sl.Om Go.Sl.xpk Go.Sl.xgpk Go.Sl.xglk Go.Sl.DLd Go.Sl.DLdG Go.Sl.DBs Go.Sl.DCall Go.Sl.DApp Go.Sl.DGen Go.Sl.DGenU Go.Sl.DGC Go.Sl.DLoop Go.Sl.DRaw Go.Sl.DRet Go.Sl.Ent Go.Sl.dget Go.Sl.dv Go.Sl.ev Go.Sl.eget
namespace Go.Proofs.Ytgpkbldlkadnjaa
open Go Go.Sl Go.RowKit
/-- a file behind a crash; what is left of the bounds -/
def crash1 (f : FileS) (keep : List Int) : FileS × List Int :=
  if f.2.1.length = f.2.2 then (f, keep) else match keep with
  | [] => ((f.1, f.2.1.take f.2.2, f.2.2), [])
  | k :: ks => ((f.1, f.2.1.take (f.2.2 + k.natAbs % (f.2.1.length - f.2.2 + 1)), f.2.2 + k.natAbs % (f.2.1.length - f.2.2 + 1)), ks)
def crashN : List Bs → List FileS → List Int → List FileS
  | [], fs, _ => fs
  | n :: ns, fs, keep => match findF fs n with
    | none => crashN ns fs keep
    | some j => crashN ns (fs.set j (crash1 (fs.getD j default) keep).1) (crash1 (fs.getD j default) keep).2
def crashF (fs : List FileS) (keep : List Int) : List FileS := crashN (namesL fs) fs keep
def Synced1 (fs : List FileS) : Prop := ∀ f ∈ fs, f.2.2 ≤ f.2.1.length
def Keep1 (keep : List Int) : Prop := ∀ k ∈ keep, -9223372036854775808 ≤ k ∧ k ≤ 9223372036854775807
theorem crash1_name (f : FileS) (keep : List Int) : (crash1 f keep).1.1 = f.1 := by
  unfold crash1
  split
  · rfl
  · cases keep <;> rfl
theorem small_set {fs : List FileS} {j : Nat} {f : FileS} (h : Small1 fs) (hf : f.1.length ≤ 1000 ∧ f.2.1.length ≤ 1000000) : Small1 (fs.set j f) := fun g hg => by
  rcases List.mem_or_eq_of_mem_set hg with h1 | rfl
  · exact h g h1
  · exact hf
theorem sync_set {fs : List FileS} {j : Nat} {f : FileS} (h : Synced1 fs) (hf : f.2.2 ≤ f.2.1.length) : Synced1 (fs.set j f) := fun g hg => by
  rcases List.mem_or_eq_of_mem_set hg with h1 | rfl
  · exact h g h1
  · exact hf
theorem set_names {fs : List FileS} {j : Nat} {f : FileS} {x : Bs × Nat} (hj : fs[j]? = some f) : ((fs.set j (f.1, x)).map fun f => f.1) = fs.map fun f => f.1 := by
  rw [List.map_set]
  exact set_same (by rw [List.getElem?_map, hj]; rfl)
end Go.Proofs.Ytgpkbldlkadnjaa
end
section
/- Contracts over data: what the document fixes of the disk. -/
set_option linter.unusedVariables false
set_option linter.unusedSimpArgs false
set_option maxHeartbeats 3000000
attribute [local irreducible] Go.Sl.Chk Go.Sl.Br Go.Sl.Or2 Go.Sl.Ld Go.Sl.Ldn Go.Sl.LdB Go.Sl.Stn Go.Sl.New Go.Sl.Run Go.Sl.RunU Go.Sl.RunX Go.Sl.Call Go.Sl.LoopK Go.Sl.RawK Go.Sl.Alt Go.Sl.Om Go.Sl.xpk Go.Sl.xgpk Go.Sl.xglk Go.Sl.DLd Go.Sl.DLdG Go.Sl.DBs Go.Sl.DCall Go.Sl.DApp Go.Sl.DGen Go.Sl.DGenU Go.Sl.DGC Go.Sl.DLoop Go.Sl.DRaw Go.Sl.DRet Go.Sl.Ent Go.Sl.dget Go.Sl.dv Go.Sl.ev Go.Sl.eget
namespace Go.Proofs.Ytgpkbldlkadnjaa
open Go Go.Sl Go.RowKit
instance (fs : List FileS) : Decidable (Small1 fs) := by unfold Small1; infer_instance
instance (fs : List FileS) : Decidable (Synced1 fs) := by unfold Synced1; infer_instance
instance (k : List Int) : Decidable (Keep1 k) := by unfold Keep1; infer_instance
end Go.Proofs.Ytgpkbldlkadnjaa
end
