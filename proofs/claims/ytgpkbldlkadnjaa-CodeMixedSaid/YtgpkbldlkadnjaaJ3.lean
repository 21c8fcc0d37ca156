/- The closed facts of a row, out of facts that are held one by one (a program stands for itself: nothing is unfolded). -/
import Derived.JoinedOf
import Derived.KernelRfl
import Derived.Test.YtgpkbldlkadnjaaJ2
import Derived.WalkKit
import Derived.ProofKit
import Derived.ShutString
import Derived.RowKit
import Derived.OpenShut
import Derived.SizedLaws
import Derived.Deep.Matrix
import Derived.ChangeOld
import Derived.Below
import Derived.Laws.IdiomStrings
import Derived.RangeFuncSeq
import Derived.RangeFuncLeaves
section
namespace Go.Sl
open Go
def cutWord : List Char := [99, 117, 116].map Char.ofNat
theorem cw1 : (cutWord == "gc".toList) = false := by kernel_rfl
theorem cw2 : (cutWord == "spec".toList) = false := by kernel_rfl
theorem cw3 : (cutWord == "cut".toList) = true := by kernel_rfl
theorem cw4 : (cutWord == "carried".toList) = false := by kernel_rfl
theorem cw5 : (some cutWord == some "carried".toList) = false := by kernel_rfl
theorem cw6 : (some cutWord == some "cut".toList) = true := by kernel_rfl
section
variable {P : Program} {l : List Char} {rest : List (List Char)}
theorem make_of (h0 : P.initOrder.toList = l) (h : behindMainWord (wordsSigns l) = cutWord :: rest) : P.make = some .cut := by
  unfold Program.make
  rw [h0, h]
  simp only [cw1, cw2, cw3, Bool.or_self, Bool.true_or, Bool.false_eq_true, if_true, if_false]
theorem headLifts_of (h0 : P.initOrder.toList = l) (h : behindMainWord (wordsSigns l) = cutWord :: rest) (hs : stripLifts liftWords (cutWord :: rest) = ([], cutWord :: rest)) : P.headLifts = [] := by
  unfold Program.headLifts
  rw [h0, h, hs]
  simp only [List.head?_cons, cw6, if_true]
theorem lifts_of (h0 : P.initOrder.toList = l) (h : behindMainWord (wordsSigns l) = cutWord :: rest) (hl : P.headLifts = []) : P.liftsFinal = false := by
  unfold Program.liftsFinal
  rw [h0, h, hl]
  simp only [List.head?_cons, cw5, Bool.false_and, Bool.false_or]
  rfl
theorem enter_of (h0 : P.initOrder.toList = l) (h : behindMainWord (wordsSigns l) = cutWord :: rest) (hs : stripLifts liftWords (cutWord :: rest) = ([], cutWord :: rest)) (h1 : P.laysLater = false) (h2 : P.bearsReflect = false) (h3 : P.doorRows = []) : P.mayEnter = true := by
  unfold Program.mayEnter
  rw [h0, h]
  simp only [hs, cw1, cw2, cw4, cw6, h1, h2, List.head?_cons, Bool.or_self, Bool.false_and, Bool.false_or, Bool.true_and, Bool.not_false, Bool.or_true, List.contains_nil, Bool.and_true]
  unfold Program.doorFits
  rw [h3]
  rfl
end
theorem facts_of {P : Program} {f : FuncId} {fn : Func} {s : ChangeSpec} {c : OpenClaim} (hl : laidOutB P = true) (hm : mapsRowed P = true) (hst : P.stops = []) (hkn : P.stopKnobs = []) (hpk : P.plainKeys = true) (hhe : P.stopsHeard = true) (hen : P.mayEnter = true) (hli : P.liftsFinal = false) (hma : P.make = some .cut)
    (hin : P.inPlace f = []) (hun : P.unfollowed f = true) (hre : P.recurses f = true) (hna : P.varsNamed f = [])
    (c1 : c.inPlace = []) (c2 : c.unfollowed = true) (c3 : c.recurses = true) (c4 : c.named = []) (c5 : c.plainKeys = true) (c6 : c.lifted = false) (c7 : c.make = .cut) (c8 : c.stops = []) (c9 : c.knobs = [])
    (k1 : c.wf (OpenSpec.ofChange s) = true) (k2 : fn.params.all (P.readableRec ·) = true) (k3 : namedTie P c.named s.vars = true) (k4 : (c.maps == (fn.params.toList ++ s.plain.varTypes P).any (P.mapsRec ·)) = true)
    (k5 : (c.ifaces == (fn.params.toList ++ s.plain.varTypes P).any (P.ifacesRec ·)) = true) (k6 : (c.mapsOut == P.mapsAmong fn.resultTypes.toList) = true) (k7 : (c.loops == (fn.params.toList ++ s.plain.varTypes P).any (P.loopsFrom ·)) = true)
    (k8 : (c.wideKeys == (fn.params.toList ++ s.plain.varTypes P ++ fn.resultTypes.toList).any (P.wideKeysFrom ·)) = true) (k9 : s.vars.all (P.varReadable ·) = true) (k10 : fn.resultTypes.all (fun t => P.readableRec t && decide (t < P.types.size)) = true)
    (k11 : (c.ifacesOut == fn.resultTypes.toList.any (P.ifacesRec ·)) = true) (k12 : (c.loopsOut == fn.resultTypes.toList.any (P.loopsFrom ·)) = true) (k13 : c.shortTexts.isNone = true) (c10 : c.domain = []) (c11 : c.kinds = [])
    (k15 : (c.pinned == c.pinnedBy) = true) (k16 : (c.veiled == (fn.params.toList ++ s.plain.varTypes P ++ fn.resultTypes.toList).any (P.veiledRec ·)) = true) (k17 : c.veiledFits P fn.params.toList (fn.params.toList ++ s.plain.varTypes P ++ fn.resultTypes.toList) = true) :
    joinedFacts P f fn s c = true := by
  unfold joinedFacts
  rw [hl, hm, hst, hkn, hpk, hhe, hen, hli, hma, hin, hun, hre, hna, c1, c2, c3, c5, c6, c7, c8, c9, k1, k2, k3, k4, k5, k6, k7, k8, k9, k10, k11, k12, k13, k15, k16, k17, c4, c10, c11]
  rfl
end Go.Sl
end
section
/- Words for the walk over data. -/
set_option linter.unusedVariables false
set_option linter.unusedSimpArgs false
namespace Go.Sl
theorem dev_sls (size : Nat) (lo hi mx : Bool) (ds : List D) : dev (.sls size lo hi mx) ds = vSls size lo hi mx ds := (xev0_eq (.sls size lo hi mx) ds).symm
theorem nat0 : ((0 : Nat) : Int) = 0 := rfl
theorem nat1 : ((1 : Nat) : Int) = 1 := rfl
theorem DLd_some (v : D) (K : D → Prop) (t : TagF K) : DLd (some v) K t = K v := by simp [DLd]
theorem DLdG_true (o : Option D) (K : D → Prop) (t : TagF K) : DLdG true o K t = DLd o K t := by simp [DLdG, DLd]
theorem cond_true_l (c x : Bool) : cond c true x = (c || x) := by cases c <;> rfl
theorem cond_false_r (c x : Bool) : cond c x false = (c && x) := by cases c <;> rfl
theorem true_imp (p : Prop) : (True → p) = p := by simp
theorem false_imp (p : Prop) : (False → p) = True := by simp
theorem ndec (p : Prop) [Decidable p] : ((!decide p) = true) = ¬ p := by simp
theorem dect (p : Prop) [Decidable p] : (decide p = true) = p := by simp
theorem decf (p : Prop) [Decidable p] : (decide p = false) = ¬ p := by simp
theorem ndecf (p : Prop) [Decidable p] : ((!decide p) = false) = p := by simp
theorem bne_self (b : Bool) : (b != b) = false := by cases b <;> rfl
theorem beq_self' (b : Bool) : (b == b) = true := by cases b <;> rfl
theorem nbeq_self (n : Nat) : Nat.beq n n = true := by simp
theorem DGC_true (X : Prop) (Y : D → Prop) (t : Tag X) (u : TagF Y) : DGC true X Y t u = X := by simp [DGC]
theorem dgc_f {X : Prop} {Y : D → Prop} {t : Tag X} {u : TagF Y} (h : Y (.opt false .dead)) : DGC false X Y t u := ⟨fun h => (by cases h), fun _ => ⟨_, h⟩⟩
/-- an element, by its place -/
def gt {α : Type} [Inhabited α] (l : List α) (k : Nat) : α := l.getD k default
theorem gt_eq {α : Type} [Inhabited α] {l : List α} {k : Nat} (h : k < l.length) : gt l k = l[k] := by
  unfold gt
  rw [List.getD_eq_getElem?_getD, List.getElem?_eq_getElem h]; rfl
theorem gt_get {α : Type} [Inhabited α] {l : List α} {k : Nat} (h : k < l.length) : l[k]? = some (gt l k) := by
  rw [gt_eq h, List.getElem?_eq_getElem h]
theorem take_gt {α : Type} [Inhabited α] {l : List α} {k : Nat} (h : k < l.length) : l.take (k + 1) = l.take k ++ [gt l k] := by
  rw [gt_eq h]; exact List.take_succ_eq_append_getElem h
theorem DLd_map {α : Type} [Inhabited α] {f : α → D} {l : List α} {k : Nat} (h : k < l.length) (K : D → Prop) (t : TagF K) : DLd (Option.map f l[k]?) K t = K (f (gt l k)) := by
  rw [gt_get h]; simp [DLd]
/-- bytes; rows of bytes; numbers -/
abbrev bytesD (xs : List UInt8) : D := .sl xs.length (xs.map bD)
abbrev matD (m : List (List UInt8)) : D := .sl m.length (m.map bytesD)
abbrev iD (n : Int) : D := .sc (.int .i64 n)
abbrev intsD (l : List Int) : D := .sl l.length (l.map iD)
abbrev boolD (b : Bool) : D := .sc (.bool b)
abbrev strD (s : List UInt8) : D := .sc (.string ⟨s.toArray⟩)
theorem Ent.of {de de' : DEnv} {r r' : Roots} {nx : Nat} (h : de = de') (hr : r = r') : Ent de r nx de' r' nx := by subst h; subst hr; exact Ent.refl _ _ _
/-- a function that only reads: nothing that is owned goes in or out -/
def DFun (P : Program) (f : FuncId) (ds : List D) (d : D) : Prop := ∀ nx, DCalls P f ds [] nx (fun d' r' _ => d' = d ∧ r' = [])
theorem dfun {P : Program} {f : FuncId} {ds : List D} {d : D} {held : List Nat} {r : Roots} {nx : Nat} {K : D → Roots → Nat → Prop} {t : TagF K} (h : DFun P f ds d) (k : ∀ nx', nx ≤ nx' → K d r nx') : DCall P f ds held r nx K t :=
  dcall0 (h nx) fun d' ro nx' hn ⟨h1, h2⟩ => by subst h1; subst h2; exact k nx' hn
end Go.Sl
end
section
/- Contracts over memory as contracts over data. -/
set_option linter.unusedVariables false
set_option linter.unusedSimpArgs false
namespace Go.Sl
open Go.RowKit
/-- what is there behind a call that wrote nothing that was there -/
def Zn (Z : Nat → Prop) (w w' : World) (b : Nat) : Prop := Z b ∨ (w.heap.size ≤ b ∧ b < w'.heap.size)
theorem dfun_low {P : Program} {f : FuncId} {ds : List D} {d : D} (h : ∀ (w : World) (Z : Nat → Prop) (T : Nat → Option Value) (vs : List Value), (∀ b, Z b → b < w.heap.size) → RsL w Z T ds vs →
    Calls P f vs.toArray w fun en w' => ∃ r, en = .returned r ∧ (Fr No w w' ∧ Rs w' (Zn Z w w') T d r)) : DFun P f ds d := by
  intro nx w Z T F vs ok hrs
  have hF : ∀ b, F b = 0 := ok.roots
  refine (h w Z T vs (fun b hb => (ok.zlt b hb).1) hrs).mono fun en w' ⟨r, he, hf, hr⟩ => ⟨r, he, d, [], nx, Zn Z w w', T, F, ?_, hr, rfl, rfl⟩
  have hsz := hf.size
  refine ⟨hf.wide, fun b hb => .inl hb, fun b hb hz => ?_, fun b _ => Nat.le_refl _, fun _ _ h => h, ok.one, fun b hb => by have := hF b; omega, fun b hb => ⟨?_, hF b⟩, ok.t, ok.cell, Nat.le_refl _, hF⟩
  · dsimp only at hb
    rcases hz with hz | hz
    · exact .inl hz
    · omega
  · rcases hb with hb | hb
    · have := (ok.zlt b hb).1; omega
    · exact hb.2
theorem dfun_sc {P : Program} {f : FuncId} {ds : List D} {u : Value} (h : ∀ (w : World) (Z : Nat → Prop) (T : Nat → Option Value) (vs : List Value), (∀ b, Z b → b < w.heap.size) → RsL w Z T ds vs →
    Calls P f vs.toArray w fun en w' => ∃ r, en = .returned r ∧ (r = u ∧ Fr No w w')) : DFun P f ds (.sc u) :=
  dfun_low fun w Z T vs hz hrs => (h w Z T vs hz hrs).mono fun en w' ⟨r, he, h1, h2⟩ => ⟨r, he, h2, by simp only [Rs]; exact h1⟩
section
variable {w w' : World} {Z : Nat → Prop} {T : Nat → Option Value}
theorem rs_of {n : Nat} {l : List D} {v : Value} {vs : List Value} (h : Rs w Z T (.sl n l) v) (hz : ∀ b, Z b → b < w.heap.size) (hn : l.length = n) (hv : vs.length = n) (hl : ∀ (j : Nat) (d : D) (u x : Value), l[j]? = some d → vs[j]? = some x → Rs w Z T d u → u = x) : RS w w.heap.size v vs := by
  simp only [Rs] at h
  obtain ⟨A, c, rfl, h1, h0, hf⟩ := h
  refine ⟨A, c, by rw [hv], by omega, fun j u hu => ?_⟩
  have hj := (List.getElem?_eq_some_iff.1 hu).1
  have hd : l[j]? = some l[j] := List.getElem?_eq_getElem (by omega)
  obtain ⟨a, x, h2, h3, h4, h5⟩ := hf.get hd
  rw [Nat.zero_add] at h4
  refine ⟨a, h2, hz _ h3, ?_⟩
  rw [h4, hl j _ _ _ hd hu h5]
theorem bs_of {xs : List UInt8} {v : Value} (h : Rs w Z T (bytesD xs) v) (hz : ∀ b, Z b → b < w.heap.size) : BS w w.heap.size v xs := by
  refine rs_of h hz (by simp) (by simp) fun j d u x hd hx hr => ?_
  rw [List.getElem?_map] at hd hx
  cases hq : xs[j]? with
  | none => rw [hq] at hd; cases hd
  | some b =>
    rw [hq] at hd hx
    simp only [Option.map_some, Option.some.injEq] at hd hx
    subst hd; subst hx
    simpa only [bD, Rs] using hr
theorem ints_of {is : List Int} {v : Value} (h : Rs w Z T (intsD is) v) (hz : ∀ b, Z b → b < w.heap.size) : RS w w.heap.size v (is.map fun n => .int .i64 n) := by
  refine rs_of h hz (by simp) (by simp) fun j d u x hd hx hr => ?_
  rw [List.getElem?_map] at hd hx
  cases hq : is[j]? with
  | none => rw [hq] at hd; cases hd
  | some b =>
    rw [hq] at hd hx
    simp only [Option.map_some, Option.some.injEq] at hd hx
    subst hd; subst hx
    simpa only [iD, Rs] using hr
theorem ms_of {m : List (List UInt8)} {v : Value} (h : Rs w Z T (matD m) v) (hz : ∀ b, Z b → b < w.heap.size) : MS w w.heap.size v m := by
  simp only [Rs] at h
  obtain ⟨A, c, rfl, h1, _, hf⟩ := h
  obtain ⟨us, k1, k2⟩ := fz_vals hf
  have hl : us.length = m.length := by rw [k1.len]; simp
  refine ⟨us, ⟨A, c, by rw [hl], by omega, fun j u hu => ?_⟩, hl, fun j u x hu hx => ?_⟩
  · have hj := (List.getElem?_eq_some_iff.1 hu).1
    obtain ⟨ad, e1, e2⟩ := k2 j u hu
    obtain ⟨a, y, h2, h3, _⟩ := hf.get (j := j) (d := bytesD m[j]) (by rw [List.getElem?_map, List.getElem?_eq_getElem (by omega)]; rfl)
    rw [e1] at h2
    cases h2
    exact ⟨ad, e1, hz _ h3, by simpa using e2⟩
  · obtain ⟨u', h2, h3⟩ := k1.get (j := j) (d := bytesD x) (by rw [List.getElem?_map, hx]; rfl)
    rw [hu] at h2
    cases h2
    exact bs_of h3 hz
/-- rows that lie in new memory -/
theorem bytes_back {e : TypeId} {r : Value} {xs : List UInt8} (h : Ow w e 1 r xs.length (xs.map U8)) (hz : ∀ b, r.ownBlock = some b → Z b) : Rs w Z T (bytesD xs) r := by
  simp only [Rs]
  rcases h.form with ⟨rfl, hn, hx⟩ | ⟨g, cap, cur, rfl, hg, hc, hs, hl, ht⟩
  · have : xs = [] := List.eq_nil_of_length_eq_zero hn
    subst this
    exact ⟨none, 0, rfl, Nat.le_refl _, fun _ => rfl, by simp only [List.map_nil, Fz]⟩
  · refine ⟨_, cap, rfl, hc, fun h => by (cases h), Fz.mk fun j d hd => ?_⟩
    rw [List.getElem?_map] at hd
    cases hq : xs[j]? with
    | none => rw [hq] at hd; cases hd
    | some b =>
      rw [hq] at hd
      simp only [Option.map_some, Option.some.injEq] at hd
      subst hd
      refine ⟨_, U8 b, rfl, hz g rfl, ?_, by simp only [bD, Rs]⟩
      have := Ow.cells h (g := g) rfl j (U8 b) (by rw [List.getElem?_map, hq]; rfl)
      simpa using this
theorem rows_back {e e' : TypeId} {r : Value} {m : List (List UInt8)} {vs : List Value} (hl : vs.length = m.length) (hs : Ow w e 1 r m.length vs) (hr : ∀ (j : Nat) (u : Value) (x : List UInt8), vs[j]? = some u → m[j]? = some x → Ow w e' 1 u x.length (x.map U8))
    (hz : ∀ b, (r.ownBlock = some b ∨ ∃ (j : Nat) (u : Value), vs[j]? = some u ∧ u.ownBlock = some b) → Z b) : Rs w Z T (matD m) r := by
  simp only [Rs]
  rcases hs.form with ⟨rfl, hn, hx⟩ | ⟨g, cap, cur, rfl, hg, hc, hs', hl', ht⟩
  · have : m = [] := List.eq_nil_of_length_eq_zero hn
    subst this
    exact ⟨none, 0, rfl, Nat.le_refl _, fun _ => rfl, by simp only [List.map_nil, Fz]⟩
  · refine ⟨_, cap, rfl, hc, fun h => by (cases h), Fz.mk fun j d hd => ?_⟩
    rw [List.getElem?_map] at hd
    cases hq : m[j]? with
    | none => rw [hq] at hd; cases hd
    | some x =>
      rw [hq] at hd
      simp only [Option.map_some, Option.some.injEq] at hd
      subst hd
      have hj := (List.getElem?_eq_some_iff.1 hq).1
      have hv : vs[j]? = some vs[j] := List.getElem?_eq_getElem (by omega)
      refine ⟨_, vs[j], rfl, hz g (.inl rfl), ?_, bytes_back (hr j _ x hv hq) fun b hb => hz b (.inr ⟨j, _, hv, hb⟩)⟩
      have := Ow.cells hs (g := g) rfl j _ hv
      simpa using this
end
end Go.Sl
end
section
/- From a contract over data to a row: arguments are opened. -/
set_option linter.unusedVariables false
set_option linter.unusedSimpArgs false
namespace Go.Sl
open Go.RowKit Go.ChangeShapes Go.WideShapes Go.ChangeAt Go.Deep

/-- all that is there is never written again -/
def Zw (W : World) (b : Nat) : Prop := b < W.heap.size
def T0 (_ : Nat) : Option Value := none
theorem below_of_dfun {P : Program} {f : FuncId} {ds : List D} {W : World} {vs : List Value} (h : DFun P f ds (boolD true)) (hrs : RsL W (Zw W) T0 ds vs) : Calls P f vs.toArray W fun e W' => e = .returned (.bool true) ∧ Below W.heap.size W W' := by
  have ok : Ok ⟨W, Zw W, T0, fun _ => 0, 0⟩ W (Zw W) T0 (fun _ => 0) [] 0 := ⟨Fr.refl _ _, fun _ h => h, fun _ _ h => .inl h, fun _ _ => Nat.le_refl _, fun _ _ h => h, fun _ => Nat.zero_le _, fun b hb => absurd hb (Nat.lt_irrefl 0), fun b hb => ⟨hb, rfl⟩, fun _ _ => rfl, fun i u hu => (by cases hu), Nat.le_refl _, fun _ => rfl⟩
  refine (h 0 W (Zw W) T0 (fun _ => 0) vs ok hrs).mono fun e W' ⟨v, he, d, r', nx', Z', T', F', o1, o2, o3, _⟩ => ?_
  subst o3
  simp only [Rs] at o2
  subst o2
  exact ⟨he, Fr.below (o1.fr.mono fun b _ hb => by simp at hb)⟩
section
variable {H : Type} {enc : TypeId × Value → H} {P : Program} {W : World}
theorem zw_cell {a : Addr} {v : Value} (h : W.cell? a = some v) : Zw W a.block := cell_block_lt h
theorem u8_val {z : Int} (h : (Lit.int .u8 z).wf = true) : Value.int .u8 z = U8 (UInt8.ofNat z.toNat) := by
  simp only [Lit.wf, Bool.and_eq_true, decide_eq_true_eq] at h
  have h1 : (0 : Int) ≤ z := by have := h.1; simpa [IntKind.min, IntKind.signed] using this
  have h2 : z ≤ 255 := by have := h.2; simpa [IntKind.max, IntKind.signed, IntKind.bits] using this
  unfold U8
  simp only [Value.int.injEq, true_and]
  rw [UInt8.toNat_ofNat']
  omega
theorem u16_val {z : Int} (h : (Lit.int .u16 z).wf = true) : ∃ n : Nat, z = n ∧ n < 65536 := by
  simp only [Lit.wf, Bool.and_eq_true, decide_eq_true_eq] at h
  have h1 := h.1
  have h2 := h.2
  simp [IntKind.min, IntKind.max, IntKind.signed, IntKind.bits] at h1 h2
  exact ⟨z.toNat, by omega, by omega⟩
/-- bytes at an address -/
theorem bytes_rs {A : Option Addr} {L C : Nat} {Z : List Int} (hl : L ≤ C) (hz : Z.length = C) (hw : ∀ n ∈ Z, (Lit.int .u8 n).wf = true) (h0 : A = none → C = 0) (hc : ∀ a, A = some a → ∀ c, c < C → W.cell? (a.add c) = some (.int .u8 (Z.getD c 0))) :
    Rs W (Zw W) T0 (bytesD ((Z.take L).map fun z => UInt8.ofNat z.toNat)) (.slice A L C) := by
  simp only [Rs]
  refine ⟨A, C, ?_, ?_, fun h => ?_, Fz.mk fun j d hd => ?_⟩
  · rw [List.length_map, List.length_take, Nat.min_eq_left (by omega)]
  · rw [List.length_map, List.length_take]; omega
  · have := h0 h; rw [List.length_map, List.length_take]; omega
  · rw [List.getElem?_map, List.getElem?_map, List.getElem?_take] at hd
    split at hd
    · rename_i hj
      have hjz : j < Z.length := by omega
      rw [List.getElem?_eq_getElem hjz] at hd
      simp only [Option.map_some, Option.some.injEq] at hd
      subst hd
      cases A with
      | none => have := h0 rfl; omega
      | some a =>
        have hcell := hc a rfl j (by omega)
        refine ⟨a, _, rfl, ?_, by rw [Nat.zero_add]; exact hcell, ?_⟩
        · have := zw_cell hcell; rwa [add_block] at this
        · simp only [bD, Rs]
          rw [← u8_val (hw _ (List.getElem_mem hjz)), List.getD_eq_getElem?_getD, List.getElem?_eq_getElem hjz]
          rfl
    · simp at hd
theorem open_rows {t e q : TypeId} (ht : P.underlying t = some (.slice e)) (he : P.underlying e = some (.slice q)) (hq : P.underlying q = some (.int .u8)) (ce : P.cellsOf e = 1) (cq : P.cellsOf q = 1) {b0 : Nat} {v : Value} {d : DataW H} {p : List MemPlace}
    (hval : Value.okWide P W .any b0 t v) (h : DataW.Trod enc P W 0 (fun _ => true) true t v d p) : ∃ m : List (List UInt8), Rs W (Zw W) T0 (matD m) v := by
  obtain ⟨a0, len, cap, rfl⟩ := okWide_slice ht hval
  obtain ⟨fuel, hf⟩ := h
  rcases open_int_rows ht he hq ce cq hf with ⟨hcs, _⟩ | ⟨a, len', cap', A, L, C, Z, hcs, _, hl, hm, hx, hrows⟩
  · simp [Value.cells] at hcs
    obtain ⟨rfl, rfl, rfl⟩ := hcs
    refine ⟨[], ?_⟩
    simp only [Rs]
    exact ⟨none, 0, rfl, Nat.le_refl _, fun _ => rfl, by simp only [List.map_nil, Fz]⟩
  · simp [Value.cells] at hcs
    obtain ⟨rfl, rfl, rfl⟩ := hcs
    refine ⟨(List.range len).map fun r => ((Z r).take (L r)).map fun z => UInt8.ofNat z.toNat, ?_⟩
    rw [Rs]
    refine ⟨some a, cap, by simp, by simpa using hl, fun h => by (cases h), Fz.mk fun j d hd => ?_⟩
    rw [List.getElem?_map, List.getElem?_map] at hd
    by_cases hj : j < len
    · rw [List.getElem?_range hj] at hd
      simp only [Option.map_some, Option.some.injEq] at hd
      subst hd
      obtain ⟨hcell, h1, h2, h3, h4, h5, h6⟩ := hrows j (by omega)
      refine ⟨a, _, rfl, ?_, by rw [Nat.zero_add]; exact hcell, bytes_rs h1 h3 h4 h5 fun a' ha' => (h6 a' ha').2⟩
      have := zw_cell hcell
      rwa [add_block] at this
    · rw [List.getElem?_eq_none (by simp; omega)] at hd
      simp at hd
theorem rs_sc (v : Value) : Rs W (Zw W) T0 (.sc v) v := by simp only [Rs]
theorem rsl_nil : RsL W (Zw W) T0 [] [] := by simp only [RsL]
theorem rsl_cons {d : D} {ds : List D} {v : Value} {vs : List Value} (h : Rs W (Zw W) T0 d v) (k : RsL W (Zw W) T0 ds vs) : RsL W (Zw W) T0 (d :: ds) (v :: vs) := by
  simp only [RsL]; exact ⟨v, vs, rfl, h, k⟩
end
end Go.Sl
end
section
/- More words for the walk over data. -/
set_option linter.unusedVariables false
namespace Go.Sl
theorem dldg_f {o : Option D} {K : D → Prop} {t : TagF K} (h : K .dead) : DLdG false o K t := ⟨.dead, fun h => (by cases h), h⟩
theorem dbs {xs : List UInt8} {n : Nat} {K : List UInt8 → Prop} {t : TagF K} (hn : xs.length = n) (h : K xs) : DBs (xs.map bD) n K t := ⟨xs, hn, by rw [← hn]; exact List.take_of_length_le (by simp), h⟩
/-- the words of the walk over data, as one -/
theorem DB : type_of% (And.intro (And.intro (And.intro (And.intro (And.intro (And.intro (And.intro @Om_some @cond_false_r) (And.intro @Bool.true_and @Bool.false_and)) (And.intro (And.intro @xpk_val @xpk_unk) (And.intro @xpk_frz (And.intro @dev_sls @nat0)))) (And.intro (And.intro (And.intro @nat1 @Int.cast_ofNat_Int) (And.intro @Int.sub_zero @Nat.sub_zero)) (And.intro (And.intro @Int.add_zero @Int.zero_add) (And.intro @xgpk_some (And.intro @xgpk_none @xglk_pt))))) (And.intro (And.intro (And.intro (And.intro @xglk_fork @rget_here) (And.intro @rget_there @rset_here)) (And.intro (And.intro @rset_there @rdel_here) (And.intro @rdel_there (And.intro @List.toList_toArray.{0} @one_int)))) (And.intro (And.intro (And.intro @one_bool @one_str) (And.intro @one_ptr @one_slice)) (And.intro (And.intro @one_func @one_nilf) (And.intro @one_nilc (And.intro @one_iface @one_map)))))) (And.intro (And.intro (And.intro (And.intro (And.intro @Chk_true @Chk_of) (And.intro @Br_true @Br_false)) (And.intro (And.intro @Br_pos @Br_neg) (And.intro @Br_npos (And.intro @Br_nneg @beq_t)))) (And.intro (And.intro (And.intro @beq_f @not_not') (And.intro @dec_true @dec_false)) (And.intro (And.intro @not_t @not_f) (And.intro @ndec (And.intro @dect @decf))))) (And.intro (And.intro (And.intro (And.intro @ndecf @pick_t) (And.intro @pick_f @take1)) (And.intro (And.intro @drop1 @take0) (And.intro @drop0 (And.intro @arr_app @List.append_nil.{0})))) (And.intro (And.intro (And.intro @bne_tt @bne_tf) (And.intro @bne_ft (And.intro @bne_ff @beq_tt))) (And.intro (And.intro @beq_tf @beq_ft) (And.intro @beq_ff (And.intro @dec_pos @dec_neg))))))) (And.intro (And.intro (And.intro (And.intro (And.intro (And.intro @DLd_some @DLd_map) (And.intro @DLdG_true @DGC_true)) (And.intro (And.intro @wrap_i64 @tdiv_pos) (And.intro @tmod_pos (And.intro @Nat.zero_add @Nat.add_zero)))) (And.intro (And.intro (And.intro @Nat.mul_one @Nat.one_mul) (And.intro @Int.toNat_natCast @cells_int)) (And.intro (And.intro @cells_bool @cells_str) (And.intro @cells_ptr (And.intro @cells_slice @cells_func))))) (And.intro (And.intro (And.intro (And.intro @cells_nilf @cells_nilc) (And.intro @cells_iface @cells_map)) (And.intro (And.intro @cells_agg @size_one) (And.intro @toList_one (And.intro @List.length_cons.{0} @List.length_nil.{0})))) (And.intro (And.intro (And.intro @List.length_map.{0, 0} @List.cons_append.{0}) (And.intro @List.nil_append.{0} (And.intro @List.map_cons.{0, 0} @List.map_nil.{0, 0}))) (And.intro (And.intro @List.set_cons_zero.{0} @List.set_cons_succ.{0}) (And.intro @List.take_succ_cons.{0} (And.intro @List.take_zero.{0} @List.drop_succ_cons.{0})))))) (And.intro (And.intro (And.intro (And.intro (And.intro @List.all_cons.{0} @List.all_nil.{0}) (And.intro @List.drop_zero.{0} @List.getElem?_drop.{0})) (And.intro (And.intro @List.getElem?_map.{0, 0} @Option.map_some.{0, 0}) (And.intro @and_self (And.intro @and_true @true_and)))) (And.intro (And.intro (And.intro @not_false_eq_true @not_true_eq_false) (And.intro @Option.toList_some.{0} @Option.toList_none.{0})) (And.intro (And.intro @Option.isSome_some.{0} @Option.isSome_none.{0}) (And.intro @decide_true (And.intro @decide_false @List.getElem?_cons_zero.{0}))))) (And.intro (And.intro (And.intro (And.intro @List.getElem?_cons_succ.{0} @Bool.and_true) (And.intro @Bool.and_self @Bool.true_and)) (And.intro (And.intro @Bool.and_false @Bool.false_and) (And.intro @cond_true_l (And.intro @cond_false_r @imp_self)))) (And.intro (And.intro (And.intro @true_imp @false_imp) (And.intro @List.not_mem_nil.{0} (And.intro @List.mem_cons.{0} @or_false))) (And.intro (And.intro @false_or @Nat.le_refl) (And.intro @nbeq_self (And.intro @bne_self @beq_self')))))))) := And.intro (And.intro (And.intro (And.intro (And.intro (And.intro (And.intro @Om_some @cond_false_r) (And.intro @Bool.true_and @Bool.false_and)) (And.intro (And.intro @xpk_val @xpk_unk) (And.intro @xpk_frz (And.intro @dev_sls @nat0)))) (And.intro (And.intro (And.intro @nat1 @Int.cast_ofNat_Int) (And.intro @Int.sub_zero @Nat.sub_zero)) (And.intro (And.intro @Int.add_zero @Int.zero_add) (And.intro @xgpk_some (And.intro @xgpk_none @xglk_pt))))) (And.intro (And.intro (And.intro (And.intro @xglk_fork @rget_here) (And.intro @rget_there @rset_here)) (And.intro (And.intro @rset_there @rdel_here) (And.intro @rdel_there (And.intro @List.toList_toArray.{0} @one_int)))) (And.intro (And.intro (And.intro @one_bool @one_str) (And.intro @one_ptr @one_slice)) (And.intro (And.intro @one_func @one_nilf) (And.intro @one_nilc (And.intro @one_iface @one_map)))))) (And.intro (And.intro (And.intro (And.intro (And.intro @Chk_true @Chk_of) (And.intro @Br_true @Br_false)) (And.intro (And.intro @Br_pos @Br_neg) (And.intro @Br_npos (And.intro @Br_nneg @beq_t)))) (And.intro (And.intro (And.intro @beq_f @not_not') (And.intro @dec_true @dec_false)) (And.intro (And.intro @not_t @not_f) (And.intro @ndec (And.intro @dect @decf))))) (And.intro (And.intro (And.intro (And.intro @ndecf @pick_t) (And.intro @pick_f @take1)) (And.intro (And.intro @drop1 @take0) (And.intro @drop0 (And.intro @arr_app @List.append_nil.{0})))) (And.intro (And.intro (And.intro @bne_tt @bne_tf) (And.intro @bne_ft (And.intro @bne_ff @beq_tt))) (And.intro (And.intro @beq_tf @beq_ft) (And.intro @beq_ff (And.intro @dec_pos @dec_neg))))))) (And.intro (And.intro (And.intro (And.intro (And.intro (And.intro @DLd_some @DLd_map) (And.intro @DLdG_true @DGC_true)) (And.intro (And.intro @wrap_i64 @tdiv_pos) (And.intro @tmod_pos (And.intro @Nat.zero_add @Nat.add_zero)))) (And.intro (And.intro (And.intro @Nat.mul_one @Nat.one_mul) (And.intro @Int.toNat_natCast @cells_int)) (And.intro (And.intro @cells_bool @cells_str) (And.intro @cells_ptr (And.intro @cells_slice @cells_func))))) (And.intro (And.intro (And.intro (And.intro @cells_nilf @cells_nilc) (And.intro @cells_iface @cells_map)) (And.intro (And.intro @cells_agg @size_one) (And.intro @toList_one (And.intro @List.length_cons.{0} @List.length_nil.{0})))) (And.intro (And.intro (And.intro @List.length_map.{0, 0} @List.cons_append.{0}) (And.intro @List.nil_append.{0} (And.intro @List.map_cons.{0, 0} @List.map_nil.{0, 0}))) (And.intro (And.intro @List.set_cons_zero.{0} @List.set_cons_succ.{0}) (And.intro @List.take_succ_cons.{0} (And.intro @List.take_zero.{0} @List.drop_succ_cons.{0})))))) (And.intro (And.intro (And.intro (And.intro (And.intro @List.all_cons.{0} @List.all_nil.{0}) (And.intro @List.drop_zero.{0} @List.getElem?_drop.{0})) (And.intro (And.intro @List.getElem?_map.{0, 0} @Option.map_some.{0, 0}) (And.intro @and_self (And.intro @and_true @true_and)))) (And.intro (And.intro (And.intro @not_false_eq_true @not_true_eq_false) (And.intro @Option.toList_some.{0} @Option.toList_none.{0})) (And.intro (And.intro @Option.isSome_some.{0} @Option.isSome_none.{0}) (And.intro @decide_true (And.intro @decide_false @List.getElem?_cons_zero.{0}))))) (And.intro (And.intro (And.intro (And.intro @List.getElem?_cons_succ.{0} @Bool.and_true) (And.intro @Bool.and_self @Bool.true_and)) (And.intro (And.intro @Bool.and_false @Bool.false_and) (And.intro @cond_true_l (And.intro @cond_false_r @imp_self)))) (And.intro (And.intro (And.intro @true_imp @false_imp) (And.intro @List.not_mem_nil.{0} (And.intro @List.mem_cons.{0} @or_false))) (And.intro (And.intro @false_or @Nat.le_refl) (And.intro @nbeq_self (And.intro @bne_self @beq_self')))))))
end Go.Sl
end
section
/- The walk over data: new memory that is never written again; a string's bytes. -/
set_option linter.unusedVariables false
set_option linter.unusedSimpArgs false
namespace Go.Sl
open Go.RowKit
section
variable {E : En} {w w' : World} {Z Z' : Nat → Prop} {T T' : Nat → Option Value} {F : Nat → Nat} {r : Roots} {nx : Nat}
variable {P : Program} {held : List Nat} {e e' : Env} {de : DEnv} {K : D → Roots → Nat → Prop}
/-- a new block, frozen at once -/
theorem Ok.allocZ (h : Ok E w Z T F r nx) (hs : w'.heap.size = w.heap.size + 1) (hf : Fr No w w') (held : List Nat) : Ok E w' (fun b => Z b ∨ b = w.heap.size) T F r nx ∧ Grow r w Z T w' (fun b => Z b ∨ b = w.heap.size) T held := by
  have hF0 : F w.heap.size = 0 := by
    cases hz : F w.heap.size with
    | zero => rfl
    | succ n => have := h.lt w.heap.size (by omega); omega
  have hsame : ∀ b, b < w.heap.size → w'.heap[b]? = w.heap[b]? := fun b hb => hf.same b hb fun h => h
  have hew := h.fr.size
  refine ⟨⟨h.fr.then hf, fun b hb => .inl (h.z b hb), fun b hb hz => ?_, h.fo, h.names, h.one, fun b hb => ?_, fun b hb => ?_, h.t, h.cell, h.ge, ?_⟩, ⟨fun b hb => hsame b (h.zlt b hb).1, fun b hb => .inl hb, fun _ _ h => h, ?_⟩⟩
  · rcases hz with hz | hz
    · exact h.zo b hb hz
    · omega
  · have := h.lt b hb; omega
  · rcases hb with hb | hb
    · have := h.zlt b hb; exact ⟨by omega, this.2⟩
    · subst hb; exact ⟨by omega, hF0⟩
  · exact h.roots.keep (fun _ h => .inl h) (fun _ _ h => h) fun b hb => hsame b (by
      rcases hb with hb | hb
      · exact h.lt b hb
      · exact (h.zlt b hb).1)
  · intro i hi ho u b hu hbk
    obtain ⟨d', F1, F2, _, _, h3, h4, _⟩ := held_foot h.roots ho hu hbk
    exact hsame b (h.lt b (by rw [h3]; omega))
theorem dconv_sb {src dst e : TypeId} {x : Operand} {dt : Option Nat} {ty : TypeId} {pos : String} {af : Array Edge} {gu} {tg : TagF K} {s : ByteArray} (hs : P.underlying src = some .string) (hd : P.underlying dst = some (.slice e)) (he : P.underlying e = some (.int .u8))
    (hx : dv de r x = some (.sc (.string s))) (k : K (.sl s.size (s.data.toList.map bD)) r nx) : DGen P ⟨dt, .convert src dst x, ty, pos, af, gu⟩ de held r nx K tg := by
  intro E w Z T F en h hen
  obtain ⟨v1, hv1, hr1⟩ := dv_rs h.roots hen hx
  simp only [Rs] at hr1
  subst hr1
  obtain ⟨w2, hw2⟩ : ∃ w2, w2 = w.drew.alloc (.cells (bytesRow s (grownCap w s.size 0 e)) e ((bytesRow s (grownCap w s.size 0 e)).size, (bytesRow s (grownCap w s.size 0 e)).size + 1)) := ⟨_, rfl⟩
  have hrun := run_bytes_of_string (P := P) w src dst e s hs hd he
  rw [← hw2] at hrun
  have hsz : w2.heap.size = w.heap.size + 1 := by rw [hw2]; simp
  have hfr : Fr No w w2 := by rw [hw2]; exact (Fr.refl No w).drew.then (Fr.alloc w.drew _)
  obtain ⟨o1, o2⟩ := h.allocZ hsz hfr held
  have e2 : execOp (rho en) ⟨dt, .convert src dst x, ty, pos, af, gu⟩ = (do pure (.value (← convert src dst (rho en x)))) := rfl
  refine ⟨by simp [Op.operands, known, hv1], .inl ⟨.slice (some ⟨w.heap.size, 0, none⟩) s.size (grownCap w s.size 0 e), w2, ?_, _, _, _, _, _, _, o1, o2, ?_, k⟩⟩
  · rw [e2]
    simp [rho, hv1, hrun, Result.andThen]
  · simp only [Rs]
    refine ⟨_, _, rfl, ?_, fun h => (by cases h), Fz.mk fun j d hd => ?_⟩
    · exact grownCap_ge _ _ _ _
    · rw [List.getElem?_map] at hd
      cases hq : s.data.toList[j]? with
      | none => rw [hq] at hd; cases hd
      | some b =>
        rw [hq] at hd
        simp only [Option.map_some, Option.some.injEq] at hd
        subst hd
        refine ⟨_, U8 b, rfl, .inr rfl, ?_, by simp only [bD, Rs]⟩
        have hh : w2.heap[w.heap.size]? = some (.cells (bytesRow s (grownCap w s.size 0 e)) e ((bytesRow s (grownCap w s.size 0 e)).size, (bytesRow s (grownCap w s.size 0 e)).size + 1)) := by rw [hw2]; exact heap_alloc_new w.drew _
        have hj : j < s.data.size := by have := (List.getElem?_eq_some_iff.1 hq).1; simpa using this
        have hb : (bytesRow s (grownCap w s.size 0 e))[j]? = some (U8 b) := by
          unfold bytesRow
          rw [Array.getElem?_append_left (by simpa using hj), Array.getElem?_map, ← Array.getElem?_toList, hq]
          rfl
        rw [add_lit, Nat.zero_add, Nat.zero_add]
        simp only [World.cell?, hh, Option.isSome_none, Bool.false_eq_true, if_false]
        exact hb
end
end Go.Sl
end
section
/- The walk over data: what is owned, whole trees, never written again; trees put back where they were taken; roots told otherwise. -/
set_option linter.unusedVariables false
set_option linter.unusedSimpArgs false
namespace Go.Sl
open Go.RowKit

mutual
/-- a tree that is never written again -/
def frz : D → D
  | .row _ _ n l => .sl n (frzL l)
  | .box _ l => .pt (frzL l)
  | .fbx l => .pt l
  | d => d
def frzL : List D → List D
  | [] => []
  | d :: l => frz d :: frzL l
end
mutual
def frzOk : D → Prop
  | .row _ _ _ l => frzOkL l
  | .box _ l => frzOkL l
  | .fbx _ => True
  | .mp _ _ => False
  | .abs _ => False
  | _ => True
def frzOkL : List D → Prop
  | [] => True
  | d :: l => frzOk d ∧ frzOkL l
end
theorem frzL_map : ∀ l : List D, frzL l = l.map frz
  | [] => by simp only [frzL, List.map_nil]
  | d :: l => by simp only [frzL, List.map_cons, frzL_map l]
theorem frzOkL_of : ∀ {l : List D}, (∀ d ∈ l, frzOk d) → frzOkL l
  | [], _ => by simp only [frzOkL]
  | d :: l, h => by
    simp only [frzOkL]
    exact ⟨h d (by simp), frzOkL_of fun d hd => h d (by simp [hd])⟩
theorem frz_plain {d : D} (h : d.plain) : frz d = d ∧ frzOk d := by
  cases d <;> simp only [D.plain] at h <;> simp only [frz, frzOk, and_self]
theorem frzL_plain {l : List D} (h : ∀ d ∈ l, d.plain) : frzL l = l ∧ frzOkL l := by
  refine ⟨?_, frzOkL_of fun d hd => (frz_plain (h d hd)).2⟩
  rw [frzL_map]
  exact (List.map_congr_left fun d hd => (frz_plain (h d hd)).1).trans (List.map_id _)
section
variable {w : World} {Z Z' : Nat → Prop} {T : Nat → Option Value}
theorem row_sl {e s n : Nat} {u : Value} {us : List Value} {l : List D} (h : Ow w e s u n us) (hl : RsL w Z T l us) (hz : ∀ b, own u b = 1 → Z b) : Rs w Z T (.sl n l) u := by
  simp only [Rs]
  rcases Ow.form h with ⟨rfl, hn, hx⟩ | ⟨g, cap, cur, rfl, hgp, hc, hs, hl', ht⟩
  · subst hn; subst hx
    have : l = [] := List.eq_nil_of_length_eq_zero (by rw [← hl.len]; rfl)
    subst this
    exact ⟨none, 0, rfl, Nat.le_refl _, fun _ => rfl, by simp only [Fz]⟩
  · refine ⟨_, cap, rfl, hc, fun h => by (cases h), Fz.mk fun j d hd => ?_⟩
    obtain ⟨u, hu, hr⟩ := hl.get hd
    have := Ow.cells h (g := g) rfl j u hu
    exact ⟨⟨g, 0, none⟩, u, rfl, hz _ (by simp [own, blk]), by simpa using this, hr⟩
theorem box_fz {b : Nat} {e : TypeId} {us : List Value} {l : List D} (h : w.heap[b]? = some (.cells us.toArray e (0, 0))) (hl : RsL w Z T l us) (hz : Z b) : Fz w Z T l (some ⟨b, 0, none⟩) 0 := by
  refine Fz.mk fun j d hd => ?_
  obtain ⟨u, hu, hr⟩ := hl.get hd
  refine ⟨⟨b, 0, none⟩, u, rfl, hz, ?_, hr⟩
  rw [add_lit]
  simp only [World.cell?, h, Nat.zero_add]
  simpa using hu
mutual
theorem Ro.frz (hzz : ∀ b, Z b → Z' b) : ∀ (d : D) (u : Value) (F : Nat → Nat), frzOk d → (∀ b, 0 < F b → Z' b) → Ro w Z T d u F → Rs w Z' T (frz d) u
  | .row e s n l, u, F, ho, hF, h => by
    simp only [Ro] at h
    obtain ⟨us, F', h1, h2, h3⟩ := h
    simp only [frzOk] at ho
    rw [Sl.frz]
    exact row_sl h1 (RoL.frz hzz l us F' ho (fun b hb => hF b (by rw [h3]; omega)) h2) fun b hb => hF b (by rw [h3]; omega)
  | .box e l, u, F, ho, hF, h => by
    simp only [Ro] at h
    obtain ⟨b, us, F', rfl, h1, h2, h3⟩ := h
    simp only [frzOk] at ho
    rw [Sl.frz]
    simp only [Rs]
    exact ⟨_, rfl, box_fz h1 (RoL.frz hzz l us F' ho (fun b hb => hF b (by rw [h3]; omega)) h2) (hF b (by rw [h3]; simp [own, blk]))⟩
  | .fbx l, u, F, ho, hF, h => by
    simp only [Ro] at h
    obtain ⟨⟨b, rfl, h1⟩, _⟩ := h
    rw [Sl.frz]
    simp only [Rs]
    exact ⟨_, rfl, Fz.keep (fun _ _ => rfl) hzz (fun _ _ h => h) l _ 0 h1⟩
  | .mp _ _, u, F, ho, hF, h => by simp only [frzOk] at ho
  | .abs _, u, F, ho, hF, h => by simp only [frzOk] at ho
  | .sc v, u, F, ho, hF, h => by simp only [Ro] at h; simp only [Sl.frz]; exact Rs.keep (fun _ _ => rfl) hzz (fun _ _ h => h) _ _ h.1
  | .sl n l, u, F, ho, hF, h => by simp only [Ro] at h; simp only [Sl.frz]; exact Rs.keep (fun _ _ => rfl) hzz (fun _ _ h => h) _ _ h.1
  | .pt l, u, F, ho, hF, h => by simp only [Ro] at h; simp only [Sl.frz]; exact Rs.keep (fun _ _ => rfl) hzz (fun _ _ h => h) _ _ h.1
  | .agg l, u, F, ho, hF, h => by simp only [Ro] at h; simp only [Sl.frz]; exact Rs.keep (fun _ _ => rfl) hzz (fun _ _ h => h) _ _ h.1
  | .tup l, u, F, ho, hF, h => by simp only [Ro] at h; simp only [Sl.frz]; exact Rs.keep (fun _ _ => rfl) hzz (fun _ _ h => h) _ _ h.1
  | .fn f a b, u, F, ho, hF, h => by simp only [Ro] at h; simp only [Sl.frz]; exact Rs.keep (fun _ _ => rfl) hzz (fun _ _ h => h) _ _ h.1
  | .ifc t d, u, F, ho, hF, h => by simp only [Ro] at h; simp only [Sl.frz]; exact Rs.keep (fun _ _ => rfl) hzz (fun _ _ h => h) _ _ h.1
  | .h i, u, F, ho, hF, h => by simp only [Ro] at h; simp only [Sl.frz]; exact Rs.keep (fun _ _ => rfl) hzz (fun _ _ h => h) _ _ h.1
  | .hp i o, u, F, ho, hF, h => by simp only [Ro] at h; simp only [Sl.frz]; exact Rs.keep (fun _ _ => rfl) hzz (fun _ _ h => h) _ _ h.1
  | .opt b d, u, F, ho, hF, h => by simp only [Ro] at h; simp only [Sl.frz]; exact Rs.keep (fun _ _ => rfl) hzz (fun _ _ h => h) _ _ h.1
  | .dead, u, F, ho, hF, h => by simp only [Ro] at h; simp only [Sl.frz]; exact Rs.keep (fun _ _ => rfl) hzz (fun _ _ h => h) _ _ h.1
theorem RoL.frz (hzz : ∀ b, Z b → Z' b) : ∀ (l : List D) (us : List Value) (F : Nat → Nat), frzOkL l → (∀ b, 0 < F b → Z' b) → RoL w Z T l us F → RsL w Z' T (frzL l) us
  | [], us, F, ho, hF, h => by
    simp only [RoL] at h
    simp only [frzL, RsL]
    exact h.1
  | d :: l, us, F, ho, hF, h => by
    simp only [RoL] at h
    obtain ⟨u, us', F1, F2, rfl, h2, h3, h4⟩ := h
    simp only [frzOkL] at ho
    simp only [frzL, RsL]
    exact ⟨u, us', rfl, Ro.frz hzz d u F1 ho.1 (fun b hb => hF b (by rw [h4]; omega)) h2, RoL.frz hzz l us' F2 ho.2 (fun b hb => hF b (by rw [h4]; omega)) h3⟩
end
end
/-- as a root -/
def frzR : D → D
  | .box _ l => .fbx (frzL l)
  | d => frz d
variable {E : En} {w w' : World} {Z Z' : Nat → Prop} {T T' : Nat → Option Value} {F : Nat → Nat} {r : Roots} {nx : Nat}
variable {P : Program} {held : List Nat} {e e' : Env} {de : DEnv} {K : D → Roots → Nat → Prop}
/-! ### roots told otherwise: the world, the names stay -/
def RT (r r' : Roots) : Prop := ∀ E w Z T F nx, Ok E w Z T F r nx → ∃ Z' F', Ok E w Z' T F' r' nx ∧ ∀ b, Z b → Z' b
theorem RT.refl (r : Roots) : RT r r := fun E w Z T F nx h => ⟨Z, F, h, fun _ h => h⟩
theorem RT.trans {r1 r2 r3 : Roots} (h : RT r1 r2) (k : RT r2 r3) : RT r1 r3 := fun E w Z T F nx ok => by
  obtain ⟨Z1, F1, o1, z1⟩ := h E w Z T F nx ok
  obtain ⟨Z2, F2, o2, z2⟩ := k E w Z1 T F1 nx o1
  exact ⟨Z2, F2, o2, fun b hb => z2 b (z1 b hb)⟩
theorem RT.of {r r' : Roots} (h : r = r') : RT r r' := by subst h; exact RT.refl r
theorem Ent.of_rt {r' : Roots} (h : RT r r') : Ent de r nx de r' nx := fun E e w ⟨Z, T, F, ok, he⟩ => by
  obtain ⟨Z', F', o, z⟩ := h E w Z T F nx ok
  exact ⟨Z', T, F', o, he.keep (fun _ _ => rfl) z (fun _ _ h => h)⟩
theorem dret_rt {r' : Roots} {d : D} {Q : D → Roots → Nat → Prop} {t t' : TagF Q} (h : RT r r') (k : DRet d r' nx Q t') : DRet d r nx Q t := by
  obtain ⟨d2, r2, nx2, hv, hq⟩ := k
  refine ⟨d2, r2, nx2, fun E w Z T F v ok hd => ?_, hq⟩
  obtain ⟨Z', F', o, z⟩ := h E w Z T F nx ok
  obtain ⟨Z2, T2, F2, o2, g2, hd2⟩ := hv E w Z' T F' v o (Rs.keep (fun _ _ => rfl) z (fun _ _ h => h) _ _ hd)
  exact ⟨Z2, T2, F2, o2, ⟨fun _ _ => rfl, fun b hb => g2.zz b (z b hb), g2.tt, fun i hi => by cases hi⟩, hd2⟩
theorem Grow.of_rt {r' : Roots} {w2 : World} {Z2 : Nat → Prop} {T2 : Nat → Option Value} (z : ∀ b, Z b → Z' b) (g : Grow r' w Z' T w2 Z2 T2 []) : Grow r w Z T w2 Z2 T2 [] :=
  ⟨fun b hb => g.zs b (z b hb), fun b hb => g.zz b (z b hb), g.tt, fun i hi => by cases hi⟩
theorem Got.of_rt {r' : Roots} {v : Value} {w2 : World} (z : ∀ b, Z b → Z' b) (h : Got E r' w Z' T [] K v w2) : Got E r w Z T [] K v w2 := by
  obtain ⟨d, r2, nx2, Z2, T2, F2, o, g, hd, hk⟩ := h
  exact ⟨d, r2, nx2, Z2, T2, F2, o, g.of_rt z, hd, hk⟩
theorem dcall_rt {r' : Roots} {f : FuncId} {ds : List D} {t t' : TagF K} (h : RT r r') (k : DCall P f ds [] r' nx K t') : DCall P f ds [] r nx K t := fun E w Z T F vs ok hrs => by
  obtain ⟨Z', F', o, z⟩ := h E w Z T F nx ok
  exact (k E w Z' T F' vs o (RsL.keep (fun _ _ => rfl) z (fun _ _ h => h) _ _ hrs)).mono fun en w2 ⟨v, hv, hg⟩ => ⟨v, hv, hg.of_rt z⟩
/-- names told by what they stand for -/
theorem dcall_view {f : FuncId} {ds : List D} {t t' : TagF K} (k : DCall P f (ds.map (dres r)) held r nx K t') : DCall P f ds held r nx K t := fun E w Z T F vs ok hrs =>
  k E w Z T F vs ok (RsL.res ok.roots hrs)
theorem dret_view {d : D} {Q : D → Roots → Nat → Prop} {t t' : TagF Q} (k : DRet (dresT r d) r nx Q t') : DRet d r nx Q t := by
  obtain ⟨d2, r2, nx2, hv, hq⟩ := k
  refine ⟨d2, r2, nx2, fun E w Z T F v ok hd => hv E w Z T F v ok ?_, hq⟩
  cases d with
  | tup l =>
    simp only [dresT]
    simp only [Rs] at hd ⊢
    obtain ⟨us, h1, h2⟩ := hd
    exact ⟨us, h1, RsL.res ok.roots h2⟩
  | _ => exact dres_rs ok.roots hd
/-! ### turns of the roots -/
theorem Ok.swapR {r' : Roots} {Z' : Nat → Prop} {F' : Nat → Nat} (h : Ok E w Z T F r nx) (hz : ∀ b, Z b → Z' b) (hZ : ∀ b, Z' b → Z b ∨ 0 < F b) (hF : ∀ b, F' b ≤ F b) (hd : ∀ b, Z' b → F' b = 0) (hr : RL w Z' T r' F') : Ok E w Z' T F' r' nx := by
  refine ⟨h.fr, fun b hb => hz b (h.z b hb), fun b hb hz' => ?_, fun b hb => Nat.le_trans (hF b) (h.fo b hb), h.names, fun b => Nat.le_trans (hF b) (h.one b), fun b hb => h.lt b (Nat.lt_of_lt_of_le hb (hF b)), fun b hb => ⟨?_, hd b hb⟩, h.t, h.cell, h.ge, hr⟩
  · rcases hZ b hz' with k | k
    · exact h.zo b hb k
    · have := h.fo b hb; exact .inr (by omega)
  · rcases hZ b hb with k | k
    · exact (h.zlt b k).1
    · exact h.lt b k
/-- a root, whole, never written again -/
theorem RT.frz (i : Nat) {d : D} (hg : rget r i = some d) (ho : frzOk d) : RT r (rset r i (frzR d)) := fun E w Z T F nx h => by
  obtain ⟨v, F1, F2, h1, h2, h3, h4, h5⟩ := h.roots.get hg
  have hzz : ∀ b, Z b → (fun b => Z b ∨ 0 < F1 b) b := fun b hb => .inl hb
  have hrs := Ro.frz (Z' := fun b => Z b ∨ 0 < F1 b) hzz d v F1 ho (fun b hb => .inr hb) h2
  have hro : Ro w (fun b => Z b ∨ 0 < F1 b) T (frzR d) v (fun _ => 0) := by
    unfold frzR
    split
    · rename_i e l
      simp only [Sl.frz] at hrs
      simp only [Ro] at h2 ⊢
      simp only [Rs] at hrs
      obtain ⟨b, us, F', rfl, _⟩ := h2
      obtain ⟨a, ha, hf⟩ := hrs
      cases ha
      exact ⟨⟨b, rfl, hf⟩, fun _ => trivial⟩
    · exact Ro.of hrs
  refine ⟨fun b => Z b ∨ 0 < F1 b, F2, h.swapR hzz (fun b hb => hb.imp_right fun hb => by have := h3 b; omega) (fun b => by have := h3 b; omega) (fun b hb => ?_) ?_, hzz⟩
  · rcases hb with hb | hb
    · have := (h.zlt b hb).2; have := h3 b; omega
    · have := h.one b; have := h3 b; omega
  · exact (h5 w _ T (frzR d) v _ (fun _ _ => rfl) hzz (fun _ _ h => h) h1 hro).cast fun b => by simp
/-- without a root -/
theorem RT.del (i : Nat) : RT r (rdel r i) := fun E w Z T F nx h => by
  obtain ⟨F', h1⟩ := h.del (i := i)
  exact ⟨Z, F', h1, fun _ h => h⟩
theorem RT.pick (ids : List Nat) : RT r ((rpick ids r).1 ++ (rpick ids r).2) := fun E w Z T F nx h => ⟨Z, F, h.pick, fun _ h => h⟩
theorem RT.fst {a b : Roots} : RT (a ++ b) a := fun E w Z T F nx h => by
  obtain ⟨F', h1⟩ := h.fst
  exact ⟨Z, F', h1, fun _ h => h⟩
theorem RT.only (ids : List Nat) : RT r (rpick ids r).1 := (RT.pick ids).trans RT.fst
/-! ### a tree put back -/
/-- what holds trees -/
def kids : D → Option (List D)
  | .row _ _ _ l => some l
  | .box _ l => some l
  | .mp _ l => some l
  | _ => none
def withKids : D → List D → D
  | .row e s n _, l => .row e s n l
  | .box e _, l => .box e l
  | .mp ks _, l => .mp ks l
  | d, _ => d
/-- the name under which a tree is held -/
def refOf (i : Nat) : D → D
  | .box _ _ => .hp i 0
  | .fbx _ => .hp i 0
  | _ => .h i
theorem Ro.kid {d : D} {l : List D} {v : Value} {G : Nat → Nat} (h : Ro w Z T d v G) (hk : kids d = some l) : ∃ (us : List Value) (G1 G2 : Nat → Nat), RoL w Z T l us G1 ∧ (∀ b, G b = G1 b + G2 b) ∧
    ∀ (l' : List D) (G1' : Nat → Nat), RoL w Z T l' us G1' → Ro w Z T (withKids d l') v (fun b => G1' b + G2 b) := by
  cases d with
  | row e s n l0 =>
    simp only [kids, Option.some.injEq] at hk; subst hk
    simp only [Ro] at h
    obtain ⟨us, F', h1, h2, h3⟩ := h
    refine ⟨us, F', own v, h2, h3, fun l' G1' hl => ?_⟩
    simp only [withKids, Ro]
    exact ⟨us, G1', h1, hl, fun _ => rfl⟩
  | box e l0 =>
    simp only [kids, Option.some.injEq] at hk; subst hk
    simp only [Ro] at h
    obtain ⟨b, us, F', h0, h1, h2, h3⟩ := h
    refine ⟨us, F', own v, h2, h3, fun l' G1' hl => ?_⟩
    simp only [withKids, Ro]
    exact ⟨b, us, G1', h0, h1, hl, fun _ => rfl⟩
  | mp ks l0 =>
    simp only [kids, Option.some.injEq] at hk; subst hk
    simp only [Ro] at h
    obtain ⟨b, us, F', h0, h1, h2, h3⟩ := h
    refine ⟨us, F', own v, h2, h3, fun l' G1' hl => ?_⟩
    simp only [withKids, Ro]
    exact ⟨b, us, G1', h0, h1, hl, fun _ => rfl⟩
  | _ => simp [kids] at hk
theorem ref_val {d : D} {i : Nat} {u v : Value} {G : Nat → Nat} (h : Ro w Z T d v G) (hT : T i = some v) (hu : Rs w Z T (refOf i d) u) : u = v := by
  cases d with
  | box e l =>
    simp only [Ro] at h
    obtain ⟨b, us, F', rfl, _⟩ := h
    simp only [refOf, Rs] at hu
    obtain ⟨v', b', h1, h2, rfl⟩ := hu
    rw [hT] at h1
    cases h1
    simp only [blk, Option.some.injEq] at h2
    rw [h2]
  | fbx l =>
    simp only [Ro] at h
    obtain ⟨⟨b, rfl, _⟩, _⟩ := h
    simp only [refOf, Rs] at hu
    obtain ⟨v', b', h1, h2, rfl⟩ := hu
    rw [hT] at h1
    cases h1
    simp only [blk, Option.some.injEq] at h2
    rw [h2]
  | _ =>
    simp only [refOf, Rs] at hu
    rw [hT] at hu
    exact (Option.some.inj hu).symm
theorem refOf_plain (i : Nat) (d : D) : (refOf i d).plain := by
  unfold refOf
  split <;> simp only [D.plain]
/-- the tree i stands again in its place, off, of the tree p -/
theorem RT.fold (i p off : Nat) {d c : D} {l : List D} (hi : rget r i = some d) (hne : i ≠ p) (hp : rget r p = some c) (hk : kids c = some l) (hl : l[off]? = some (refOf i d)) : RT r (rset (rdel r i) p (withKids c (l.set off d))) := fun E w Z T F nx h => by
  obtain ⟨v, F1, F2, h1, h2, h3, h4, _⟩ := h.roots.get hi
  have hp2 : rget (rdel r i) p = some c := by rw [rget_rdel hne]; exact hp
  obtain ⟨u, G1, G2, g1, g2, g3, g4, g5⟩ := h4.get hp2
  obtain ⟨us, K1, K2, k1, k2, k3⟩ := g2.kid hk
  obtain ⟨x, X1, X2, x1, x2, x3, x4⟩ := k1.get hl
  obtain ⟨x5, x6⟩ := x2.rs (refOf_plain i d)
  have hx : x = v := ref_val h2 h1 x5
  subst hx
  have hset : us.set off x = us := by
    obtain ⟨hlt, he⟩ := List.getElem?_eq_some_iff.1 x1
    rw [← he]
    exact List.set_getElem_self hlt
  have hro := k3 (l.set off d) _ (by have := x4 d x F1 h2; rw [hset] at this; exact this)
  have hrl := g5 w Z T _ u _ (fun _ _ => rfl) (fun _ h => h) (fun _ _ h => h) g1 hro
  refine ⟨Z, F, h.swapR (fun _ h => h) (fun b hb => .inl hb) (fun b => Nat.le_refl _) (fun b hb => (h.zlt b hb).2) (hrl.cast fun b => ?_), fun _ h => h⟩
  show F b = F1 b + X2 b + K2 b + G2 b
  have := h3 b; have := g3 b; have := k2 b; have := x3 b; have := x6 b
  omega
end Go.Sl
end
section
/- The walk over data: functions that answer something new that is owned; a string's bytes appended; zeros appended to nil. -/
set_option linter.unusedVariables false
set_option linter.unusedSimpArgs false
namespace Go.Sl
open Go.RowKit
variable {E : En} {w w' : World} {Z Z' : Nat → Prop} {T T' : Nat → Option Value} {F : Nat → Nat} {r : Roots} {nx : Nat}
variable {P : Program} {held : List Nat} {e e' : Env} {de : DEnv} {K : D → Roots → Nat → Prop}
/-- a function that only reads, and answers, somewhere in its answer, one new tree -/
def DNew (P : Program) (f : FuncId) (ds : List D) (g : Nat → D) (t : D) : Prop := ∀ nx, DCalls P f ds [] nx (fun d r' nx' => ∃ i, nx ≤ i ∧ i < nx' ∧ d = g i ∧ r' = [(i, t)])
theorem dnew {f : FuncId} {ds : List D} {g : Nat → D} {t : D} {tg : TagF K} (h : DNew P f ds g t) (k : ∀ i nx', nx ≤ i → i < nx' → K (g i) ((i, t) :: r) nx') : DCall P f ds held r nx K tg :=
  dcall0 (h nx) fun d ro nx' _ ⟨i, h1, h2, h3, h4⟩ => by subst h3; subst h4; exact k i nx' h1 h2
/-- never written again -/
def dsub (i : Nat) (t : D) : D → D
  | .h j => if i = j then t else .h j
  | d => d
def dsubT (i : Nat) (t : D) : D → D
  | .tup l => .tup (l.map (dsub i t))
  | d => dsub i t d
theorem DNew.fn {f : FuncId} {ds : List D} {e s n : Nat} {l : List D} {d : D} (h : DNew P f ds (fun i => .h i) (.row e s n l)) (ho : frzOkL l) (hd : d = .sl n (frzL l)) : DFun P f ds d := by
  subst hd
  intro nx w Z T F vs ok hrs
  refine (h nx w Z T F vs ok hrs).mono fun en w' ⟨v, hv, d, r', nx', Z', T', F', o, hd, i, h1, h2, h3, h4⟩ => ?_
  subst h3; subst h4
  obtain ⟨Z2, F2, o2, z2⟩ := RT.frz i (d := .row e s n l) (rget_here _ _ _) (by simpa only [frzOk] using ho) _ _ _ _ _ _ o
  rw [rset_here] at o2
  have hd2 := dres_rs o2.roots (Rs.keep (w' := w') (fun _ _ => rfl) z2 (fun _ _ h => h) _ _ hd)
  simp only [dres, rget_here, frzR, Sl.frz] at hd2
  obtain ⟨F3, o3⟩ := o2.del (i := i)
  rw [rdel_here] at o3
  exact ⟨v, hv, _, [], nx', Z2, T', F3, o3, hd2, rfl, rfl⟩
theorem DNew.fn2 {f : FuncId} {ds : List D} {e s n : Nat} {l : List D} {a d : D} (h : DNew P f ds (fun i => .tup [.h i, a]) (.row e s n l)) (ho : frzOkL l) (hd : d = .tup [.sl n (frzL l), a]) : DFun P f ds d := by
  subst hd
  intro nx w Z T F vs ok hrs
  refine (h nx w Z T F vs ok hrs).mono fun en w' ⟨v, hv, d, r', nx', Z', T', F', o, hd, i, h1, h2, h3, h4⟩ => ?_
  subst h3; subst h4
  obtain ⟨Z2, F2, o2, z2⟩ := RT.frz i (d := .row e s n l) (rget_here _ _ _) (by simpa only [frzOk] using ho) _ _ _ _ _ _ o
  rw [rset_here] at o2
  have hd2 := Rs.keep (w' := w') (fun _ _ => rfl) z2 (fun _ _ h => h) _ _ hd
  simp only [Rs] at hd2
  obtain ⟨us, rfl, hus⟩ := hd2
  simp only [RsL] at hus
  obtain ⟨u, us', rfl, k1, u2, us2, rfl, k2, rfl⟩ := hus
  have k3 := dres_rs o2.roots (d := .h i) (by simpa only [Rs] using k1)
  simp only [dres, rget_here, frzR, Sl.frz] at k3
  obtain ⟨F3, o3⟩ := o2.del (i := i)
  rw [rdel_here] at o3
  exact ⟨_, hv, _, [], nx', Z2, T', F3, o3, by simp only [Rs]; exact ⟨_, rfl, by simp only [RsL]; exact ⟨u, _, rfl, k3, u2, _, rfl, k2, rfl⟩⟩, rfl, rfl⟩
/-- out of a contract over memory -/
theorem dnew_low {f : FuncId} {ds : List D} {t : D} (h : ∀ (w : World) (Z : Nat → Prop) (T : Nat → Option Value) (vs : List Value), (∀ b, Z b → b < w.heap.size) → RsL w Z T ds vs →
    Calls P f vs.toArray w fun en w' => ∃ r, en = .returned r ∧ (Fr No w w' ∧ r.oneCell' = true ∧ ∀ T', ∃ G, Ro w' Z T' t r G ∧ ∀ b, G b ≤ 1 ∧ (0 < G b → w.heap.size ≤ b ∧ b < w'.heap.size))) : DNew P f ds (fun i => .h i) t := by
  intro nx w Z T F vs ok hrs
  have hF : ∀ b, F b = 0 := ok.roots
  refine (h w Z T vs (fun b hb => (ok.zlt b hb).1) hrs).mono fun en w' ⟨v, he, hf, hc, hr⟩ => ?_
  obtain ⟨G, g1, g2⟩ := hr (tset T nx v)
  have hT := tset_ext (v := v) (ok.t nx (Nat.le_refl _))
  refine ⟨v, he, .h nx, [(nx, t)], nx + 1, Z, tset T nx v, G, ⟨hf.wide, fun b hb => hb, fun b _ hz => .inl hz, fun b hb => ?_, hT, fun b => (g2 b).1, fun b hb => ((g2 b).2 hb).2, fun b hb => ⟨?_, ?_⟩, fun i hi => ?_, fun i u hu => ?_, Nat.le_succ _, ⟨v, G, fun _ => 0, tset_same _ _ _, g1, fun _ => rfl, fun b => rfl⟩⟩, ?_, nx, Nat.le_refl _, Nat.lt_succ_self _, rfl, rfl⟩
  · rcases Nat.eq_zero_or_pos (G b) with h0 | h0
    · omega
    · have := ((g2 b).2 h0).1; dsimp only at hb; omega
  · have := (ok.zlt b hb).1; have := hf.size; omega
  · rcases Nat.eq_zero_or_pos (G b) with h0 | h0
    · exact h0
    · have := ((g2 b).2 h0).1; have := (ok.zlt b hb).1; omega
  · simp only [tset]
    rw [if_neg (by omega)]
    exact ok.t i (by omega)
  · simp only [tset] at hu
    split at hu
    · cases hu; exact hc
    · exact ok.cell i u hu
  · simp only [Rs]; exact tset_same _ _ _
/-! ### a string's bytes appended -/
theorem dapp_strG {t tu ty e n : Nat} {z : Value} {y : D} {s : ByteArray} {l : List D} {rr : Roots} {tg : TagF K} (hel : El P t e 1 1 z) (hz : z = .int .u8 0) (hu : P.underlying tu = some .string) (hb : n + s.size ≤ 140737488355328)
    (hh : ∀ j ∈ held, heldOk r j → heldOk rr j)
    (hy : ∀ (w : World) (Z : Nat → Prop) (T : Nat → Option Value) (F : Nat → Nat) (v : Value), RL w Z T r F → Rs w Z T y v → ∃ us G F2, Ow w e 1 v n us ∧ RoL w Z T l us G ∧ RL w Z T rr F2 ∧ ∀ b, F b = G b + own v b + F2 b)
    (k : K (.h nx) ((nx, .row e 1 (n + s.size) (l ++ (strVals s).map .sc)) :: rr) (nx + 1)) : DApp P #[t, tu] ty y (.sc (.string s)) held r nx K tg := by
  intro E w Z T F u v h hu' hv
  obtain ⟨us, G, F2, a1, a2, a3, a4⟩ := hy w Z T F u h.roots hu'
  simp only [Rs] at hv
  subst hv
  obtain ⟨v', w', hrun, hK⟩ := app_str (P := P) (K := fun v' w' => Ow w' e 1 v' (n + s.size) (us ++ strVals s) ∧ Fr (fun b => u.ownBlock = some b) w w' ∧ (v'.ownBlock = u.ownBlock ∨ ∃ b, v'.ownBlock = some b ∧ w.heap.size ≤ b ∧ b < w'.heap.size)) (ty := ty) (tg := .mk _) hel hz hu a1 s hb (fun v' w' c1 c2 c3 => ⟨c1, c2, c3⟩)
  obtain ⟨c1, c2, c3⟩ := hK
  rw [Ow.own a1] at c2 c3
  rw [Ow.own c1] at c3
  have hsame : ∀ b, b < w.heap.size → own u b = 0 → w'.heap[b]? = w.heap[b]? := fun b hb ho => c2.same b hb fun e => by rw [own_blk.2 e] at ho; cases ho
  have hT := tset_ext (v := v') (h.t nx (Nat.le_refl _))
  have hc : v'.oneCell' = true := by rcases Ow.form c1 with ⟨rfl, _⟩ | ⟨_, _, _, rfl, _⟩ <;> rfl
  have hzs : ∀ b, Z b → w'.heap[b]? = w.heap[b]? := fun b hb => by
    have h5 := h.zlt b hb; have := a4 b
    exact hsame b h5.1 (by omega)
  have hro : Ro w' Z (tset T nx v') (.row e 1 (n + s.size) (l ++ (strVals s).map .sc)) v' (fun b => G b + own v' b) := by
    simp only [Ro]
    refine ⟨us ++ strVals s, G, c1, ?_, fun b => rfl⟩
    have e1 := RoL.keep (w' := w') (fun _ h => h) hT _ _ _ (fun b hb => by
      rcases hb with hb | hb
      · have := a4 b; have := h.one b; have := own_le u b
        exact hsame b (h.lt b (by omega)) (by omega)
      · exact hzs b hb) a2
    exact e1.append (RoL.of (RsL.sc _))
  obtain ⟨o1, o2⟩ := h.reown (held := held) a4 a3 hh c2 c3 hc hro
  exact ⟨v', w', hrun, _, _, _, _, _, _, o1, o2, by simp only [Rs]; exact tset_same _ _ _, k⟩
theorem own_root {i e s n : Nat} {l : List D} (hg : rget r i = some (.row e s n l)) : ∀ (w : World) (Z : Nat → Prop) (T : Nat → Option Value) (F : Nat → Nat) (v : Value), RL w Z T r F → Rs w Z T (.h i) v → ∃ us G F2, Ow w e s v n us ∧ RoL w Z T l us G ∧ RL w Z T (rdel r i) F2 ∧ ∀ b, F b = G b + own v b + F2 b := fun w Z T F v hr hv => by
  obtain ⟨u, F1, F2, h1, h2, h3, h4, _⟩ := hr.get hg
  simp only [Rs] at hv
  rw [hv] at h1
  cases h1
  simp only [Ro] at h2
  obtain ⟨us, G, a1, a2, a3⟩ := h2
  exact ⟨us, G, F2, a1, a2, h4, fun b => by rw [h3, a3]⟩
/-- append(b, s...) -/
theorem dapp_str {t tu ty e n i : Nat} {z : Value} {s : ByteArray} {l : List D} {tg : TagF K} (hel : El P t e 1 1 z) (hz : z = .int .u8 0) (hu : P.underlying tu = some .string) (hg : rget r i = some (.row e 1 n l)) (hb : n + s.size ≤ 140737488355328) (hh : i ∉ held)
    (k : K (.h nx) ((nx, .row e 1 (n + s.size) (l ++ (strVals s).map .sc)) :: rdel r i) (nx + 1)) : DApp P #[t, tu] ty (.h i) (.sc (.string s)) held r nx K tg :=
  dapp_strG hel hz hu hb (fun j hj ho => heldOk_rdel (fun e => hh (by rw [e]; exact hj)) ho) (own_root hg) k
theorem strVals_bD (s : List UInt8) : (strVals ⟨s.toArray⟩).map D.sc = s.map bD := by
  simp [strVals, bD, U8]
/-- append(nil, make([]T, m)...) : a row of m, whose cells aren't told -/
theorem dapp_zeros {t ti ty e s bytes : Nat} {z : Value} {m : Nat} {tg : TagF K} (hel : El P t e s bytes z) (hu : P.underlying ti = some (.int .i64)) (h0 : 0 < m) (hm : m ≤ 9223372036854775807) (hb : m * bytes ≤ 140737488355328)
    (k : ∀ l : List D, l.length = m * s → K (.h nx) ((nx, .row e s m l) :: r) (nx + 1)) : DApp P #[t, ti] ty (.sc (.slice none 0 0)) (.sc (.int .i64 m)) held r nx K tg := by
  intro E w Z T F u v h hu' hv
  simp only [Rs] at hu' hv
  subst hu'
  subst hv
  obtain ⟨v', w', hrun, hK⟩ := app_zeros (P := P) (w := w) (K := fun v' w' => ∃ cs, Ow w' e s v' m cs ∧ Fr No w w' ∧ ∃ b, v'.ownBlock = some b ∧ w.heap.size ≤ b ∧ b < w'.heap.size) (ty := ty) (tg := .mk _) hel hu h0 hm hb (fun v' w' cs c1 c2 c3 => ⟨cs, c1, c2, c3⟩)
  obtain ⟨cs, c1, c2, c3⟩ := hK
  rw [Ow.own c1] at c3
  have hc : v'.oneCell' = true := by rcases Ow.form c1 with ⟨rfl, _⟩ | ⟨_, _, _, rfl, _⟩ <;> rfl
  have hro : Ro w' Z (tset T nx v') (.row e s m (cs.map .sc)) v' (fun b => 0 + own v' b) := by
    simp only [Ro]
    exact ⟨cs, fun _ => 0, c1, RoL.of (RsL.sc _), fun b => rfl⟩
  obtain ⟨o1, o2⟩ := h.reown (held := held) (rr := r) (G := fun _ => 0) (F2 := F) (v := .slice none 0 0) (v' := v') (w' := w') (d' := .row e s m (cs.map .sc)) (fun b => by simp [own, blk]) h.roots (fun j _ ho => ho) (c2.mono fun b _ h => h.elim) (.inr c3) hc hro
  exact ⟨v', w', hrun, _, _, _, _, _, _, o1, o2, by simp only [Rs]; exact tset_same _ _ _, k _ (by rw [List.length_map]; exact c1.1)⟩
end Go.Sl
end
section
/- The walk over data: nil slices as rows, as slices that are read. -/
set_option linter.unusedVariables false
set_option linter.unusedSimpArgs false
namespace Go.Sl
open Go.RowKit
variable {E : En} {w w' : World} {Z Z' : Nat → Prop} {T T' : Nat → Option Value} {F : Nat → Nat} {r : Roots} {nx : Nat}
variable {P : Program} {held : List Nat} {e e' : Env} {de : DEnv} {K : D → Roots → Nat → Prop}
/-- a nil slice that is answered, as an empty row of one's own -/
theorem dret_nil (e s : TypeId) {Q : D → Roots → Nat → Prop} {t t' : TagF Q} (k : DRet (.h nx) ((nx, .row e s 0 []) :: r) (nx + 1) Q t') : DRet (.sc (.slice none 0 0)) r nx Q t := by
  obtain ⟨d2, r2, nx2, hv, hq⟩ := k
  refine ⟨d2, r2, nx2, fun E w Z T F v h hd => ?_, hq⟩
  simp only [Rs] at hd
  subst hd
  have hT := tset_ext (v := Value.slice none 0 0) (h.t nx (Nat.le_refl _))
  obtain ⟨o1, o2⟩ := h.name (held := []) (u := .slice none 0 0) (r' := (nx, .row e s 0 []) :: r) (F' := F) rfl (fun _ => rfl) ⟨_, fun _ => 0, F, tset_same _ _ _, by
    simp only [Ro]
    exact ⟨[], fun _ => 0, Ow.nil _ _ _, by simp only [RoL]; exact ⟨trivial, fun _ => trivial⟩, fun b => by simp [own, blk]⟩, h.roots.keep (fun _ h => h) hT (fun _ _ => rfl), fun b => by simp⟩
  obtain ⟨Z2, T2, F2, o3, g3, hd3⟩ := hv E w Z _ F _ o1 (by simp only [Rs]; exact tset_same _ _ _)
  exact ⟨Z2, T2, F2, o3, ⟨g3.zs, g3.zz, fun i u hi => g3.tt i u (hT i u hi), fun i hi => by cases hi⟩, hd3⟩
/-- a nil slice, as one that is read -/
def nilD : D → D
  | .sc (.slice none 0 0) => .sl 0 []
  | d => d
def nilT : D → D
  | .tup l => .tup (l.map nilD)
  | d => nilD d
theorem nilD_rs {d : D} {v : Value} (h : Rs w Z T d v) : Rs w Z T (nilD d) v := by
  unfold nilD
  split
  · simp only [Rs] at h ⊢
    exact ⟨none, 0, h, Nat.le_refl _, by simp, by simp only [Fz]⟩
  · exact h
theorem nilL_rs : ∀ {l : List D} {us : List Value}, RsL w Z T l us → RsL w Z T (l.map nilD) us
  | [], us, h => h
  | d :: l, us, h => by
    simp only [RsL] at h
    obtain ⟨u, us', rfl, h1, h2⟩ := h
    simp only [List.map_cons, RsL]
    exact ⟨u, us', rfl, nilD_rs h1, nilL_rs h2⟩
theorem dret_nilv {d : D} {Q : D → Roots → Nat → Prop} {t t' : TagF Q} (k : DRet (nilT d) r nx Q t') : DRet d r nx Q t := by
  obtain ⟨d2, r2, nx2, hv, hq⟩ := k
  refine ⟨d2, r2, nx2, fun E w Z T F v ok hd => hv E w Z T F v ok ?_, hq⟩
  cases d with
  | tup l =>
    simp only [nilT]
    simp only [Rs] at hd ⊢
    obtain ⟨us, h1, h2⟩ := hd
    exact ⟨us, h1, nilL_rs h2⟩
  | _ => exact nilD_rs hd
end Go.Sl
end
section
/- The walk over data: a range over a function, whose iterator is known by what it yields. -/
set_option linter.unusedVariables false
set_option linter.unusedSimpArgs false
namespace Go.Sl
open Go.RowKit
/-- an iterator: N rounds, their values; what it asks of memory -/
def Iter (P : Program) (g : FuncId) (lb : Array Value) (encs : Nat → Value) (N : Nat) (Kp : World → Prop) : Prop :=
  ∀ (m l : Nat) (J : Nat → World → Prop) (W : World), (∀ j W, J j W → Kp W) → (∀ j W, J j W → J j W.drew) →
    (∀ j W1, J j W1 → j < N → YieldAt Fence.wide (m - 1) P l #[encs j] W1 fun e W' => e = .returned (.bool true) ∧ J (j + 1) W') → J 0 W →
    CallsIn Fence.wide m P g (#[.func (.yield l) #[] #[]] ++ lb) W fun e W' => (∃ v, e = .returned v) ∧ J N W'
variable {P : Program} {n : Nat} {E : En} {w : World} {Z : Nat → Prop} {T : Nat → Option Value} {F : Nat → Nat} {r : Roots} {nx : Nat} {e : Env} {de : DEnv}
/-- a fresh start -/
theorem Ok.start (h : Ok E w Z T F r nx) : Ok ⟨w, Z, T, F, nx⟩ w Z T F r nx :=
  ⟨Fr.refl _ _, fun _ h => h, fun _ _ h => .inl h, fun _ _ => Nat.le_refl _, fun _ _ h => h, h.one, h.lt, h.zlt, h.t, h.cell, Nat.le_refl _, h.roots⟩
/-- one walk behind another -/
theorem Ok.join {w2 : World} {Z2 : Nat → Prop} {T2 : Nat → Option Value} {F2 : Nat → Nat} {r2 : Roots} {nx2 : Nat} (h : Ok E w Z T F r nx) (k : Ok ⟨w, Z, T, F, nx⟩ w2 Z2 T2 F2 r2 nx2) : Ok E w2 Z2 T2 F2 r2 nx2 := by
  have hs := h.fr.size
  refine ⟨h.fr.step k.fr fun b hb hF => ?_, fun b hb => k.z b (h.z b hb), fun b hb hz => ?_, fun b hb => ?_, fun i u hu => k.names i u (h.names i u hu), k.one, k.lt, k.zlt, k.t, k.cell, Nat.le_trans h.ge k.ge, k.roots⟩
  · have := h.fo b hb; dsimp only at hF; omega
  · rcases k.zo b (by dsimp only; omega) hz with hz | hF
    · exact h.zo b hb hz
    · have := h.fo b hb; dsimp only at hF; exact .inr (by omega)
  · have h1 := k.fo b (by dsimp only; omega)
    have h2 := h.fo b hb
    dsimp only at h1
    omega
/-- a block that is none of ours is turned: a fresh start behind it -/
theorem Ok.turn (h : Ok E w Z T F r nx) {l : Nat} (o : Obj) (hF : F l = 0) (hZ : ¬ Z l) : Ok ⟨w.putObj l o, Z, T, F, nx⟩ (w.putObj l o) Z T F r nx := by
  refine ⟨Fr.refl _ _, fun _ h => h, fun _ _ h => .inl h, fun _ _ => Nat.le_refl _, fun _ _ h => h, h.one, fun b hb => by rw [World.putObj_size]; exact h.lt b hb, fun b hb => by rw [World.putObj_size]; exact h.zlt b hb, h.t, h.cell, Nat.le_refl _, ?_⟩
  refine h.roots.keep (fun _ h => h) (fun _ _ h => h) fun b hb => World.putObj_heap_other ?_
  rintro rfl
  rcases hb with hb | hb
  · omega
  · exact hZ hb
theorem Ok.allocX (h : Ok E w Z T F r nx) (o : Obj) : Ok E (w.alloc o) Z T F r nx := by
  have hlt : ∀ b, b < w.heap.size → (w.alloc o).heap[b]? = w.heap[b]? := fun b hb => Below.heap_alloc w o b hb
  refine ⟨h.fr.then (Fr.alloc w o), h.z, h.zo, h.fo, h.names, h.one, fun b hb => by have := h.lt b hb; simp; omega, fun b hb => ⟨by have := (h.zlt b hb).1; simp; omega, (h.zlt b hb).2⟩, h.t, h.cell, h.ge, ?_⟩
  refine h.roots.keep (fun _ h => h) (fun _ _ h => h) fun b hb => hlt b ?_
  rcases hb with hb | hb
  · exact h.lt b hb
  · exact (h.zlt b hb).1
/-- ends in no other way -/
def onlyD (K : KD) : Exit → KD
  | .normal => K
  | _ => fun _ _ _ => False
theorem body_in {c : Code} {m : MC} {k l : Nat} (ht : trC P n c = some m) (hw : m.whole = true) (hd : noDefC c = true) {a : Act} (hs : Sim n e a) (ho : Ok E w Z T F r nx) (he : EnvOk w Z T e de) {Q : KD} (hx : m.xwp P (onlyD Q) de r nx)
    {Q' : Exit → Act → World → Prop} (hq : ∀ e' a' w' Z' T' F' de' r' nx', Sim n e' a' → Ok E w' Z' T' F' r' nx' → EnvOk w' Z' T' e' de' → Q de' r' nx' → Q' .normal a' w') (hQ : ¬ LetsOut Q') : c.wpIn (Rnd l) k P Q' a w := by
  refine trC_in c m ht hw hd (QOk E (onlyD Q)) Q' e a w hQ hs ?_ (MC.xwp_sound m ⟨Z, T, F, ho, he⟩ hx)
  rintro x e' a' w' hs' ⟨de', r', nx', ⟨Z', T', F', ho', he'⟩, hq'⟩
  cases x with
  | normal => exact hq e' a' w' Z' T' F' de' r' nx' hs' ho' he' hq'
  | _ => exact hq'.elim
theorem dcode {c : Code} {m : MC} (ht : trC P n c = some m) {a : Act} (hs : Sim n e a) (ho : Ok E w Z T F r nx) (he : EnvOk w Z T e de) {Q : KD} (hx : m.xwp P (onlyD Q) de r nx)
    {Q' : Exit → Act → World → Prop} (hq : ∀ e' a' w' Z' T' F' de' r' nx', Sim n e' a' → Ok E w' Z' T' F' r' nx' → EnvOk w' Z' T' e' de' → Q de' r' nx' → Q' .normal a' w') : c.wp P Q' a w := by
  refine trC_sound c m ht (QOk E (onlyD Q)) Q' e a w hs ?_ (MC.xwp_sound m ⟨Z, T, F, ho, he⟩ hx)
  rintro x e' a' w' hs' ⟨de', r', nx', ⟨Z', T', F', ho', he'⟩, hq'⟩
  cases x with
  | normal => exact hq e' a' w' Z' T' F' de' r' nx' hs' ho' he' hq'
  | _ => exact hq'.elim
/-- a function that holds a range over a function: its contract, out of its body -/
theorem calls_marks {f : FuncId} {fn : Func} {c : Code} {args : Array Value} {R : Ending → World → Prop} (hf : P.funcs[f]? = some fn) (hb : fn.body = some c)
    (h : c.wp P (bodyPostM Fence.wide 0 P fn R) { tmps := args ++ Array.replicate (fn.ntmps - args.size) undef, defers := [] } w) : Calls P f args w R :=
  callsIn_wide.1 (callsIn_of_wp_marks (F := Fence.wide) (n := 0) hf hb trivial (wpIn_wide.2 h) rfl)
theorem sim0 {vs : List Value} {m : Nat} (h : vs.length ≤ m) : Sim m (argEnv 0 vs) { tmps := vs.toArray ++ Array.replicate (m - vs.toArray.size) undef, defers := [] } := by
  refine ⟨by simp; omega, rfl, fun t v ht => ?_⟩
  obtain ⟨_, h2⟩ := argEnv_get 0 vs t v ht
  simp only [Nat.sub_zero] at h2
  have hlt := (List.getElem?_eq_some_iff.1 h2).1
  rw [Array.getElem?_append_left (by simpa using hlt)]
  simpa using h2
/-- what its names stand for, in what a function value holds -/
def dresF (r : Roots) : D → D
  | .fn f a b => .fn f (a.map (dres r)) (b.map (dres r))
  | d => d
theorem dret_viewF {d : D} {Q : D → Roots → Nat → Prop} {t t' : TagF Q} (k : DRet (dresF r d) r nx Q t') : DRet d r nx Q t := by
  obtain ⟨d2, r2, nx2, hv, hq⟩ := k
  refine ⟨d2, r2, nx2, fun E w Z T F v ok hd => hv E w Z T F v ok ?_, hq⟩
  cases d with
  | fn f a b =>
    simp only [dresF]
    simp only [Rs] at hd ⊢
    obtain ⟨us, vs, h1, h2, h3⟩ := hd
    exact ⟨us, vs, h1, RsL.res ok.roots h2, RsL.res ok.roots h3⟩
  | _ => exact hd
theorem EnvOk.two {w : World} {Z : Nat → Prop} {T : Nat → Option Value} {e : Env} {de : DEnv} (h : EnvOk w Z T e de) {s t : Nat} {a b : D} (h1 : dget de s = some a) (h2 : dget de t = some b) : EnvOk w Z T e [(s, a), (t, b)] := fun q d hd => by
  simp only [dget_cons] at hd
  split at hd
  · rename_i e1; cases hd; subst e1; exact h _ _ h1
  · split at hd
    · rename_i e1; cases hd; subst e1; exact h _ _ h2
    · simp [dget] at hd
/-- a block that is none of ours, and wasn't there at the start, is turned -/
theorem Ok.close (h : Ok E w Z T F r nx) {l : Nat} (o : Obj) (hF : F l = 0) (hZ : ¬ Z l) (hl : E.w.heap.size ≤ l) : Ok E (w.putObj l o) Z T F r nx := by
  have k := h.turn o hF hZ
  refine ⟨⟨h.fr.os, h.fr.tape, h.fr.output, by rw [World.putObj_size]; exact h.fr.size, fun b hb hm => ?_⟩, h.z, h.zo, h.fo, h.names, k.one, k.lt, k.zlt, k.t, k.cell, h.ge, k.roots⟩
  rw [World.putObj_heap_other (by omega)]
  exact h.fr.same b hb hm
/-- a pointer to the first cell of what is owned -/
theorem box_cell {e' : TypeId} {v : Value} {i : Nat} {d : D} {u : Value} (hr : RL w Z T r F) (hg : rget r i = some (.box e' [d])) (hu : Rs w Z T (.hp i 0) u) : ∃ b x Fx, u = .pointer (some ⟨b, 0, none⟩) ∧ w.cell? ⟨b, 0, none⟩ = some x ∧ Ro w Z T d x Fx := by
  obtain ⟨v', F1, F2, h1, h2, _⟩ := hr.get hg
  simp only [Ro] at h2
  obtain ⟨b, us, F', rfl, h3, h4, _⟩ := h2
  simp only [RoL] at h4
  obtain ⟨x, us', G1, G2, rfl, h5, ⟨rfl, _⟩, _⟩ := h4
  simp only [Rs] at hu
  obtain ⟨v2, b2, k1, k2, rfl⟩ := hu
  rw [h1] at k1
  cases k1
  simp only [blk, Option.some.injEq] at k2
  subst k2
  exact ⟨b, x, G1, rfl, by simp [World.cell?, h3], h5⟩
theorem range_d {p : Nat} {g : Operand} {assign body : Code} {ma mb : MC} {Q' : Exit → Act → World → Prop} {a : Act} (hs : Sim n e a) (hok : Ok E w Z T F r nx) (he : EnvOk w Z T e de) {gf : FuncId} {lb : Array Value} (hg : a.eval g = .func (.func gf) #[] lb)
    (eg : ∀ args w, (callFunc gf args).run P w = .ok (.enter gf args) w) (hp : p < n) (ta : trC P n assign = some ma) (wa : ma.whole = true) (da : noDefC assign = true) (tb : trC P n body = some mb) (wb : mb.whole = true) (db : noDefC body = true)
    {encs : Nat → Value} {N : Nat} {Kp : World → Prop} (hit : Iter P gf lb encs N Kp) (J : Nat → Roots → Nat → Prop) (dx : Nat → D) (hJ0 : J 0 r nx) (hKp : ∀ W' : World, (∀ b, Z b → W'.heap[b]? = w.heap[b]?) → Kp W') (hdx : ∀ j, j < N → Rs w Z T (dx j) (encs j))
    (hround : ∀ j r' nx', J j r' nx' → j < N → ma.xwp P (onlyD fun de1 r1 nx1 => mb.xwp P (onlyD fun _ r2 nx2 => ∃ r3, RT r2 r3 ∧ J (j + 1) r3 nx2) de1 r1 nx1) (dput de p (dx j)) r' nx')
    (hdone : ∀ W Z' T' F' r' nx' B, Ok E W Z' T' F' r' nx' → EnvOk W Z' T' e de → J N r' nx' → w.heap.size ≤ B → W.heap[B]? = some (.deferred (some [])) → F' B = 0 → ¬ Z' B → Q' .normal { a with defers := { target := .collected B, args := #[] } :: a.defers } W) :
    (Code.rangeFunc g #[p] assign body).wp P Q' a w := by
  refine (wpIn_wide (n := 0)).1 (wpIn_rangeFunc fun fn hfn => ?_)
  obtain ⟨rec, hrec⟩ : ∃ rec : LoopState → Option Code → Loop, rec = fun st pe => { state := st, pending := pe, fn, tmps := a.tmps, params := #[p], assign, body, defers := w.heap.size } := ⟨_, rfl⟩
  obtain ⟨W1, hW1⟩ : ∃ W1, (w.alloc (.deferred (some []))).alloc (.loop (rec .ready none)) = W1 := ⟨_, rfl⟩
  have hok1 : Ok E W1 Z T F r nx := by rw [← hW1]; exact (hok.allocX _).allocX _
  have hL1 : W1.heap[w.heap.size + 1]? = some (.loop (rec .ready none)) := by
    rw [← hW1]; have := heap_alloc_new (w.alloc (.deferred (some []))) (.loop (rec .ready none)); rwa [World.size_alloc] at this
  have hK1 : W1.heap[w.heap.size]? = some (.deferred (some [])) := by
    rw [← hW1, Below.heap_alloc _ _ _ (by simp)]; exact heap_alloc_new w _
  have hs1 : W1.heap.size = w.heap.size + 2 := by rw [← hW1]; simp
  have hold : ∀ b, b < w.heap.size → W1.heap[b]? = w.heap[b]? := fun b hb => by
    rw [← hW1, Below.heap_alloc _ _ _ (by simp; omega), Below.heap_alloc _ _ _ hb]
  have hF0 : ∀ b, w.heap.size ≤ b → F b = 0 := fun b hb => by
    cases hz : F b with
    | zero => rfl
    | succ k => have := hok.lt b (by omega); omega
  have hZ0 : ∀ b, w.heap.size ≤ b → ¬ Z b := fun b hb hz => by have := (hok.zlt b hz).1; omega
  -- the invariant between rounds
  obtain ⟨I, hI⟩ : ∃ I : Nat → World → Prop, I = fun j W => ∃ Z' T' F' r' nx', J j r' nx' ∧ Ok ⟨W1, Z, T, F, nx⟩ W Z' T' F' r' nx' := ⟨_, rfl⟩
  have keepBlk : ∀ {W : World} {Z' T' F' r' nx'}, Ok ⟨W1, Z, T, F, nx⟩ W Z' T' F' r' nx' → ∀ b, b < W1.heap.size → F b = 0 → W.heap[b]? = W1.heap[b]? := fun h b hb h0 => h.fr.same b hb (by dsimp only; omega)
  have away : ∀ {W : World} {Z' T' F' r' nx'}, Ok ⟨W1, Z, T, F, nx⟩ W Z' T' F' r' nx' → ∀ b, w.heap.size ≤ b → b < W1.heap.size → F' b = 0 ∧ ¬ Z' b := fun h b hb hlt => by
    have h1 := h.fo b hlt
    have h2 := hF0 b hb
    dsimp only at h1
    refine ⟨by omega, fun hz => ?_⟩
    rcases h.zo b hlt hz with h3 | h3
    · exact hZ0 b hb h3
    · dsimp only at h3; omega
  have keepEnv : ∀ {W : World} {Z' T' F' r' nx'}, Ok ⟨W1, Z, T, F, nx⟩ W Z' T' F' r' nx' → EnvOk W Z' T' e de := fun h => he.keep (fun b hb => by
      have h1 := hok.zlt b hb
      rw [keepBlk h b (by omega) h1.2, hold b h1.1]) h.z h.names
  refine ⟨w.heap.size + 1, [{ target := .collected w.heap.size, args := #[] }], W1, { target := .fn (.func gf) lb, args := #[.func (.yield (w.heap.size + 1)) #[] #[]] }, W1, gf,
    #[.func (.yield (w.heap.size + 1)) #[] #[]] ++ lb, W1, ?_, ?_, fun _ _ => trivial, ?_, fun h => by simp [Fence.wide] at h, ?_⟩
  · rw [← hW1, hrec]; exact run_enterLoop_outer _ _ _ _ _
  · simp only [resolve, hg]
    simp [go_sem]
  · simp [invoke, go_sem, eg]
  refine (hit (0 - 1) (w.heap.size + 1) I W1 ?_ ?_ ?_ ?_).mono ?_
  · intro j W hi
    rw [hI] at hi
    obtain ⟨Z', T', F', r', nx', hj, ho⟩ := hi
    refine hKp W fun b hb => ?_
    have h1 := hok.zlt b hb
    rw [keepBlk ho b (by omega) h1.2, hold b h1.1]
  · intro j W hi
    rw [hI] at hi ⊢
    obtain ⟨Z', T', F', r', nx', hj, ho⟩ := hi
    exact ⟨Z', T', F', r', nx', hj, ho.drew⟩
  · -- one round
    intro j W hi hlt
    rw [hI] at hi
    obtain ⟨Z', T', F', r', nx', hj, ho⟩ := hi
    have hsz := ho.fr.size
    have hrl : W.heap[w.heap.size + 1]? = some (.loop (rec .ready none)) := (keepBlk ho _ (by omega) (hF0 _ (by omega))).trans hL1
    have hy := run_yield (P := P) (args := #[encs j]) hrl (by rw [hrec]; rfl)
    rw [hrec] at hy
    refine ⟨fn, _, assign, body, hy, roundIn_of_wpIn hfn ?_⟩
    have hsim : Sim n (eput e p (encs j)) { tmps := ((#[p] : Array Tmp).zip #[encs j]).foldl (fun t (p, v) => t.setIfInBounds p v) a.tmps, defers := [] } := by
      have h1 := hs.put hp (encs j)
      have h2 := hs.defers
      refine ⟨?_, rfl, fun t v ht => ?_⟩
      · simpa [Act.put] using h1.size
      · simpa [Act.put] using h1.val t v ht
    have hrsj : Rs W Z' T' (dx j) (encs j) := Rs.keep (fun b hb => by
      have h1 := hok.zlt b hb
      rw [keepBlk ho b (by omega) h1.2, hold b h1.1]) ho.z ho.names _ _ (hdx j hlt)
    refine body_in ta wa da hsim ho ((keepEnv ho).put hrsj p) (hround j r' nx' hj hlt) ?_ ?_
    · -- the body
      intro e1 a1 Wa Za Ta Fa de1 r1 nx1 hs1' ho1 he1 hb1
      have hsza := ho1.fr.size
      dsimp only at hsza
      have hra : Wa.heap[w.heap.size + 1]? = some (.loop (rec .ready none)) := (keepBlk ho1 _ (by omega) (hF0 _ (by omega))).trans hL1
      obtain ⟨fa, za⟩ := away ho1 (w.heap.size + 1) (by omega) (by omega)
      refine ⟨_, run_beginRound hra (by rw [hrec]), ?_⟩
      have ho2 := ho1.turn (.loop { rec .ready none with state := .busy }) fa za
      have he2 : EnvOk (Wa.putObj (w.heap.size + 1) (.loop { rec .ready none with state := .busy })) Za Ta e1 de1 := he1.keep (fun b hb => World.putObj_heap_other (by rintro rfl; exact za hb)) (fun _ h => h) (fun _ _ h => h)
      refine body_in tb wb db hs1' ho2 he2 hb1 ?_ ?_
      · intro e2 a2 Wc Zd Tc Fd de2 rd nx2 hs2 ho3' he3 hj3'
        obtain ⟨r2, hrt, hj3⟩ := hj3'
        obtain ⟨Zc, Fc, ho3, _⟩ := hrt _ _ _ _ _ _ ho3'
        have hszc := ho3.fr.size
        simp only [World.putObj_size] at hszc
        have hbusy : Wc.heap[w.heap.size + 1]? = some (.loop { rec .ready none with state := .busy }) := by
          rw [ho3.fr.same _ (by simp only [World.putObj_size]; omega) (by dsimp only; omega)]
          exact World.putObj_heap_same (by omega)
        have hend := run_endRound (P := P) none hbusy
        refine ⟨_, _, hend, rfl, ?_⟩
        have fc : Fc (w.heap.size + 1) = 0 := by have := ho3.fo (w.heap.size + 1) (by simp only [World.putObj_size]; omega); dsimp only at this; omega
        have zc : ¬ Zc (w.heap.size + 1) := fun hz => by
          rcases ho3.zo _ (by simp only [World.putObj_size]; omega) hz with h3 | h3
          · exact za h3
          · dsimp only at h3; omega
        rw [hI]
        refine ⟨Zc, Tc, Fc, r2, nx2, hj3, ?_⟩
        have ho4 := ho3.turn (.loop { ({ rec .ready none with state := .busy } : Loop) with state := if (none : Option Code).isNone then .ready else .done, pending := none }) fc zc
        refine ⟨⟨?_, ?_, ?_, ?_, fun b hb hm => ?_⟩, fun b hb => ho3.z b (ho1.z b hb), fun b hb hz => ?_, fun b hb => ?_, fun i u hu => ho3.names i u (ho1.names i u hu), ho4.one, ho4.lt, ho4.zlt, ho4.t, ho4.cell, Nat.le_trans ho1.ge ho3.ge, ho4.roots⟩
        · exact ho3.fr.os.trans ho1.fr.os
        · exact ho3.fr.tape.trans ho1.fr.tape
        · exact ho3.fr.output.trans ho1.fr.output
        · simp only [World.putObj_size]; omega
        · dsimp only at hb hm ⊢
          by_cases hbr : b = w.heap.size + 1
          · subst hbr
            rw [World.putObj_heap_same (by omega), hL1, hrec]
            rfl
          · rw [World.putObj_heap_other hbr, ho3.fr.same b (by simp only [World.putObj_size]; omega) (by have := ho1.fo b hb; dsimp only at this ⊢; omega), World.putObj_heap_other hbr]
            exact ho1.fr.same b hb hm
        · dsimp only at hb
          rcases ho3.zo b (by simp only [World.putObj_size]; omega) hz with h3 | h3
          · exact ho1.zo b hb h3
          · have := ho1.fo b hb; dsimp only at this h3; exact .inr (by dsimp only; omega)
        · dsimp only at hb
          have h5 := ho3.fo b (by simp only [World.putObj_size]; omega)
          have h6 := ho1.fo b hb
          dsimp only at h5 h6 ⊢
          omega
      · rintro ⟨a, w, h⟩; exact h
    · rintro ⟨a, w, h⟩; exact h
  · rw [hI]
    exact ⟨Z, T, F, r, nx, hJ0, hok1.start⟩
  · -- behind the iterator
    rintro en W2 ⟨⟨v, rfl⟩, hi⟩
    rw [hI] at hi
    obtain ⟨Z', T', F', r', nx', hj, ho⟩ := hi
    have hsz := ho.fr.size
    dsimp only at hsz
    have hrl : W2.heap[w.heap.size + 1]? = some (.loop (rec .ready none)) := (keepBlk ho _ (by omega) (hF0 _ (by omega))).trans hL1
    have hend := run_endLoop (P := P) hrl (by rw [hrec]; simp)
    rw [hrec] at hend
    refine ⟨none, _, hend, ?_⟩
    obtain ⟨f1, z1⟩ := away ho (w.heap.size + 1) (by omega) (by omega)
    obtain ⟨f2, z2⟩ := away ho w.heap.size (by omega) (by omega)
    have hoE := hok1.join ho
    have hsE := hok.fr.size
    obtain ⟨o4, ho4e⟩ : ∃ o4 : Obj, o4 = .loop { (rec .ready none) with state := .exhausted } := ⟨_, rfl⟩
    have ho4 := ho.turn o4 f1 z1
    have hfin : Ok E (W2.putObj (w.heap.size + 1) o4) Z' T' F' r' nx' := by
      refine ⟨⟨hoE.fr.os, hoE.fr.tape, hoE.fr.output, by simp only [World.putObj_size]; exact hoE.fr.size, fun b hb hm => ?_⟩, hoE.z, hoE.zo, hoE.fo, hoE.names, ho4.one, ho4.lt, ho4.zlt, ho4.t, ho4.cell, hoE.ge, ho4.roots⟩
      rw [World.putObj_heap_other (by omega)]
      exact hoE.fr.same b hb hm
    have hD : (W2.putObj (w.heap.size + 1) o4).heap[w.heap.size]? = some (.deferred (some [])) := by
      rw [World.putObj_heap_other (by omega)]
      exact (keepBlk ho _ (by omega) (hF0 _ (by omega))).trans hK1
    have heE : EnvOk (W2.putObj (w.heap.size + 1) o4) Z' T' e de := (keepEnv ho).keep (fun b hb => World.putObj_heap_other (by rintro rfl; exact z1 hb)) (fun _ h => h) (fun _ _ h => h)
    have := hdone _ Z' T' F' r' nx' w.heap.size hfin heE hj (Nat.le_refl _) hD f2 z2
    rw [ho4e, hrec] at this
    exact this
end Go.Sl
end
section
/- The walk over data: a nil cell in a tree as an empty row. -/
set_option linter.unusedVariables false
set_option linter.unusedSimpArgs false
namespace Go.Sl
open Go.RowKit
variable {E : En} {w w' : World} {Z Z' : Nat → Prop} {T T' : Nat → Option Value} {F : Nat → Nat} {r : Roots} {nx : Nat}
/-- a cell of a tree that is nil, as an empty row -/
theorem RT.nilrow (p off : Nat) (e s : TypeId) {c : D} {l : List D} (hp : rget r p = some c) (hk : kids c = some l) (hl : l[off]? = some (.sc (.slice none 0 0))) : RT r (rset r p (withKids c (l.set off (.row e s 0 [])))) := fun E w Z T F nx h => by
  obtain ⟨u, G1, G2, g1, g2, g3, g4, g5⟩ := h.roots.get hp
  obtain ⟨us, K1, K2, k1, k2, k3⟩ := g2.kid hk
  obtain ⟨x, X1, X2, x1, x2, x3, x4⟩ := k1.get hl
  simp only [Ro, Rs] at x2
  obtain ⟨rfl, x6⟩ := x2
  have hset : us.set off (.slice none 0 0) = us := by
    obtain ⟨hlt, he⟩ := List.getElem?_eq_some_iff.1 x1
    rw [← he]
    exact List.set_getElem_self hlt
  have hro0 : Ro w Z T (.row e s 0 []) (.slice none 0 0) (fun _ => 0) := by
    simp only [Ro]
    exact ⟨[], fun _ => 0, Ow.nil _ _ _, by simp only [RoL]; exact ⟨trivial, fun _ => trivial⟩, fun b => by simp [own, blk]⟩
  have hro := k3 (l.set off (.row e s 0 [])) _ (by have := x4 (.row e s 0 []) (.slice none 0 0) _ hro0; rw [hset] at this; exact this)
  have hrl := g5 w Z T _ u _ (fun _ _ => rfl) (fun _ h => h) (fun _ _ h => h) g1 hro
  refine ⟨Z, F, h.swapR (fun _ h => h) (fun b hb => .inl hb) (fun b => Nat.le_refl _) (fun b hb => (h.zlt b hb).2) (hrl.cast fun b => ?_), fun _ h => h⟩
  show F b = 0 + X2 b + K2 b + G2 b
  have := g3 b; have := k2 b; have := x3 b; have := x6 b
  omega
/-- the nil cells of a slice, as slices that are read -/
def nilC : D → D
  | .sl n l => .sl n (l.map nilD)
  | d => d
theorem nilC_rs {d : D} {v : Value} (h : Rs w Z T d v) : Rs w Z T (nilC d) v := by
  cases d with
  | sl n l =>
    simp only [nilC, Rs] at h ⊢
    obtain ⟨A, cap, h1, h2, h3, h4⟩ := h
    refine ⟨A, cap, h1, h2, ?_, Fz.mk fun j d hd => ?_⟩
    · first | exact h3 | simpa using h3
    · rw [List.getElem?_map] at hd
      obtain ⟨d', hd', rfl⟩ := Option.map_eq_some_iff.1 hd
      obtain ⟨a, u, g1, g2, g3, g4⟩ := h4.get hd'
      exact ⟨a, u, g1, g2, g3, nilD_rs g4⟩
  | _ => exact h
theorem nilCL_rs : ∀ {l : List D} {us : List Value}, RsL w Z T l us → RsL w Z T (l.map nilC) us
  | [], us, h => h
  | d :: l, us, h => by
    simp only [RsL] at h
    obtain ⟨u, us', rfl, h1, h2⟩ := h
    simp only [List.map_cons, RsL]
    exact ⟨u, us', rfl, nilC_rs h1, nilCL_rs h2⟩
theorem dcall_nilc {P : Program} {held : List Nat} {K : D → Roots → Nat → Prop} {f : FuncId} {ds : List D} {t t' : TagF K} (k : DCall P f (ds.map nilC) held r nx K t') : DCall P f ds held r nx K t := fun E w Z T F vs ok hrs => k E w Z T F vs ok (nilCL_rs hrs)
/-- a row of an answer's own, whose cells are values or nil, is handed in -/
theorem dcall_row (i : Nat) {P : Program} {K : D → Roots → Nat → Prop} {f : FuncId} {ds : List D} {t t' : TagF K} {e s n : Nat} {l : List D} (hg : rget r i = some (.row e s n l)) (hp : ∀ d ∈ l, d.plain)
    (k : DCall P f ((ds.map (dres (rset r i (.sl n l)))).map nilC) [] (rset r i (.sl n l)) nx K t') : DCall P f ds [] r nx K t := by
  have h := RT.frz i hg (by simp only [frzOk]; exact (frzL_plain hp).2)
  simp only [frzR, frz, (frzL_plain hp).1] at h
  exact dcall_rt (t' := .mk _) h (dcall_view (t' := .mk _) (dcall_nilc k))
end Go.Sl
end
